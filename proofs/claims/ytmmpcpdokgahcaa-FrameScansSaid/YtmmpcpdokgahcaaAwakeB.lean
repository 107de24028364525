/- 'awake' of layer 7: a frame is read back. -/
import Derived.Test.YtmmpcpdokgahcaaNextB
import Derived.Lib.SlBytesConst
namespace Go.Proofs.Ytmmpcpdokgahcaa
open Go.RowKit CM
theorem next_any (a : Option Addr) (l : List Nat) (cap n : Nat) (w : World) (hr : Row w a l) (hn : l.length = n) (hc : n ≤ cap) (hcap : cap ≤ 9223372036854775807) :
    Calls Try.prog 12 #[.slice a n cap] w (NextP w (nextF l)) := by
  by_cases h : (lenF l).2 = 0
  · exact next_some a l cap n w hr hn hc hcap h
  · exact next_none a l cap n w hr hn hc hcap h
theorem awake (w : World) : Calls Try.prog 11 #[] w fun e w' => e = .returned (.bool true) ∧ Below w.heap.size w w' := by
  have kc := fun (w : World) (C : Array Value) (n c : Nat) => Lib.run_convert_bytes_const (P := Try.prog) w 22 5 C n c Try.underlying22 Try.underlying5
  have hr0 : Row (w.alloc (.cells #[.int .u8 97] 5 (1, 2))) (some ⟨w.heap.size, 0, none⟩) [97] := by
    refine ⟨fun d hd => by rw [List.mem_singleton.1 hd]; omega, by simp, .inr ⟨_, _, rfl, fun i hi => ?_⟩⟩
    have hi' : i = 0 := by simp at hi; exact hi
    subst hi'
    rw [Nat.zero_add, cell_of_row _ w.heap.size _ _ _ _ (heap_alloc_new w _)]; rfl
  have S := seal_any 1 (some ⟨w.heap.size, 0, none⟩) [97] 1 1 _ hr0 rfl (by omega) (fun h => by cases h) (Nat.le_refl _)
  have e1 : sealL ((1 : Int) % 256).toNat [97] = sealL 1 [97] := rfl
  rw [e1] at S
  have e2 : (sealL 1 [97]).length = 10 := by decide +kernel
  have e3 : nextF (sealL 1 [97]) = ((1, [97]), 10, 0) := by decide +kernel
  generalize sealL 1 [97] = L at *
  replace S := Lib.hid S
  replace e2 := Lib.hid e2
  replace e3 := Lib.hid e3
  clear hr0 e1
  have hB : Below w.heap.size w (w.alloc (.cells #[.int .u8 97] 5 (1, 2))) := (Below.refl _ _).alloc (Nat.le_refl _) _
  replace hB := Lib.hid hB
  go_enter Try.func11, Try.ntmps11
  go_wp2_with fail
  refine S.out.mono ?_
  rintro e w1 ⟨a, cap, rfl, hr1, hb1, hn1, hle, hcap⟩
  rw [e2.out] at hle ⊢
  replace hb1 := Lib.hid (hB.out.trans (hb1.mono (by simp)))
  have N := next_any a L cap 10 w1 hr1 e2.out hle hcap
  rw [e3.out] at N
  replace N := Lib.hid N
  clear hr1 hn1 hle
  go_wp2_with fail
  refine N.out.mono ?_
  rintro e w2 ⟨a2, cap2, rfl, hr2, hb2, _, _, _, _⟩
  replace hb2 := Lib.hid (hb1.out.trans (hb2.mono hb1.out.size))
  have hr3 : ∀ o, Row (w2.alloc o) a2 [97] := fun o => hr2.below ((Below.refl _ _).alloc (Nat.le_refl _) _)
  have hcv := fun o => conv_str (hr3 o) 1 cap2 rfl
  have e9 : (strOf [97]).toList = [97] := by rw [ByteArray.toList_eq]; rfl
  replace hr2 := Lib.hid hr2
  clear hr3
  generalize strOf [97] = s9 at *
  go_wp2_with fail
  go_ret
  exact ⟨rfl, hb2.out.alloc hb2.out.size _⟩
end Go.Proofs.Ytmmpcpdokgahcaa
