/- awake: a disk keeps what was synced. -/
import Derived.Test.YtjphboljhkddaaaCrash
import Derived.Lib.SlBytesConst
set_option linter.unusedVariables false
namespace Go.Proofs.Ytjphboljhkddaaa
open Go.RowKit

def stA0 : ZSt := fun _ => none
def stA1 : ZSt := setZ stA0 3 (appZ ((stA0 3).getD ([], 0)) [97, 98])
def stA2 : ZSt := syncSt stA1
def stA3 : ZSt := setZ stA2 3 (appZ ((stA2 3).getD ([], 0)) [99, 100])
def stA4 : ZSt := (crashL [1] stA3 (zonesTo stA3 40)).1
theorem stA4_is : stA4 3 = some ([97, 98, 99], 3) := by decide +kernel
theorem setZ_small {st : ZSt} (h : Small16 st) (z : Int) (o : Option (List Nat × Nat)) (ho : ∀ q, o = some q → q.1.length ≤ 16777216) : Small16 (setZ st z o) := by
  intro z' q hq
  simp only [setZ] at hq
  by_cases hz : z' = z
  · rw [if_pos hz] at hq; exact ho q hq
  · rw [if_neg hz] at hq; exact h z' q hq
theorem sync_small {st : ZSt} (h : Small16 st) : Small16 (syncSt st) := by
  intro z q hq
  simp only [syncSt] at hq
  cases e : st z with
  | none => rw [e] at hq; cases hq
  | some q0 => rw [e] at hq; cases hq; exact h z q0 e
theorem smallA0 : Small16 stA0 := fun z q h => by cases h
theorem smallA1 : Small16 stA1 := setZ_small smallA0 _ _ (fun q h => by
  have e : appZ ((stA0 3).getD ([], 0)) [97, 98] = some ([97, 98], 0) := by decide +kernel
  rw [e] at h; cases h; decide)
theorem smallA2 : Small16 stA2 := sync_small smallA1
theorem smallA3 : Small16 stA3 := setZ_small smallA2 _ _ (fun q h => by
  have e : appZ ((stA2 3).getD ([], 0)) [99, 100] = some ([97, 98, 99, 100], 2) := by decide +kernel
  rw [e] at h; cases h; decide)
/-- two bytes, or one, that were laid -/
theorem row_new (w : World) (l : List Nat) (fr : Nat × Nat) (hl : ∀ c ∈ l, c < 256) (hn : l.length ≤ 1000) : Row (w.alloc (.cells (u8s l).toArray 5 fr)) (some ⟨w.heap.size, 0, none⟩) l := by
  refine ⟨hl, by omega, .inr ⟨_, _, rfl, fun i hi => ?_⟩⟩
  rw [cell_of_row _ _ _ _ _ _ (heap_alloc_new w _), Nat.zero_add]
  simp [u8s, hi]
theorem irow_new (w : World) (x : Int) : IRow (w.alloc (.cells #[.int .i64 x] 3)) (some ⟨w.heap.size, 0, none⟩) [x] := by
  refine .inr ⟨_, _, rfl, fun i hi => ?_⟩
  have hi' : i = 0 := by simp at hi; exact hi
  subst hi'
  rw [cell_of_row _ _ _ _ _ _ (heap_alloc_new w _)]; rfl
theorem awake (w : World) : Calls Try.prog 14 #[] w fun e w' => e = .returned (.bool true) ∧ Below w.heap.size w w' := by
  have kc := fun (w : World) (C : Array Value) (n c : Nat) => Lib.run_convert_bytes_const (P := Try.prog) w 22 5 C n c Try.underlying22 Try.underlying5
  have N := Lib.hid (new_ok 100 w (by decide) (by decide))
  go_enter Try.func14, Try.ntmps14
  go_wp2_with fail
  refine N.out.mono ?_
  rintro e w1 ⟨d, rfl, hD1, hb1⟩
  have hB1 := hb1.size
  have hD1' := hD1.below ((Below.refl w1.heap.size w1).alloc (Nat.le_refl _) (.cells (u8s [97, 98]).toArray 5 (2, 3)))
  have A1 := append_ok _ w.heap.size d stA0 100 0 false 0 hD1' 3 (some ⟨w1.heap.size, 0, none⟩) [97, 98] 2 2 (row_new w1 [97, 98] (2, 3) (by decide) (by decide)) rfl (fun h => by cases h) (by decide) (by decide) (by simp; omega) (by decide) (by decide) (by decide) (by decide) rfl (fun q hq => smallA0 3 q hq)
  have hbb1 := hb1.alloc hB1 (.cells (u8s [97, 98]).toArray 5 (2, 3))
  replace A1 := Lib.hid A1
  replace hbb1 := Lib.hid hbb1
  clear N hD1 hD1' hb1
  go_wp2_with fail
  refine A1.out.mono ?_
  rintro e w2 ⟨rfl, hD2, hb2⟩
  have hD2' : DiskAt w2 w.heap.size d stA1 100 2 false 0 false := hD2
  have hbb2 := hbb1.out.trans hb2
  have S := sync_ok w2 w.heap.size d stA1 100 2 false 0 hD2' hbb2.size (by decide) rfl
  replace S := Lib.hid S
  replace hbb2 := Lib.hid hbb2
  clear A1 hD2 hb2 hD2'
  go_wp2_with fail
  refine S.out.mono ?_
  rintro e w3 ⟨rfl, hD3, hb3⟩
  have hbb3 := hbb2.out.trans hb3
  have hD3' : DiskAt w3 w.heap.size d stA2 100 2 false 0 false := hD3
  have hD3b := hD3'.below ((Below.refl w3.heap.size w3).alloc (Nat.le_refl _) (.cells (u8s [99, 100]).toArray 5 (2, 3)))
  have A2 := append_ok _ w.heap.size d stA2 100 2 false 0 hD3b 3 (some ⟨w3.heap.size, 0, none⟩) [99, 100] 2 2 (row_new w3 [99, 100] (2, 3) (by decide) (by decide)) rfl (fun h => by cases h) (by decide) (by decide) (by have := hbb3.size; simp; omega) (by decide) (by decide) (by decide) (by decide) rfl (fun q hq => smallA2 3 q hq)
  have hbb3b := hbb3.alloc hbb3.size (.cells (u8s [99, 100]).toArray 5 (2, 3))
  replace A2 := Lib.hid A2
  replace hbb3b := Lib.hid hbb3b
  clear S hD3 hb3 hD3' hD3b hbb3
  go_wp2_with fail
  refine A2.out.mono ?_
  rintro e w4 ⟨rfl, hD4, hb4⟩
  have hbb4 := hbb3b.out.trans hb4
  have hD4' : DiskAt w4 w.heap.size d stA3 100 4 false 0 false := hD4
  have hD4b := hD4'.below ((Below.refl w4.heap.size w4).alloc (Nat.le_refl _) (.cells #[.int .i64 1] 3))
  have C := crash _ w.heap.size d stA3 100 4 false 0 false hD4b (by have := hbb4.size; simp; omega) (by decide) smallA3 (some ⟨w4.heap.size, 0, none⟩) [1] 1 1 (fun w' hb hs => (irow_new w4 1).change (fun ad ha => by cases ha; exact hs _ _ 3 (by decide) (heap_alloc_new w4 _))) rfl (by decide)
  have hbb4b := hbb4.alloc hbb4.size (.cells #[.int .i64 1] 3)
  replace C := Lib.hid C
  replace hbb4b := Lib.hid hbb4b
  clear A2 hD4 hb4 hD4' hD4b hbb4
  go_wp2_with fail
  refine C.out.mono ?_
  rintro e w5 ⟨rfl, ⟨used', hD5⟩, hb5⟩
  have hbb5 := hbb4b.out.trans hb5
  have hD5' : DiskAt w5 w.heap.size d stA4 100 used' false 0 false := hD5
  have R := read_ok w5 w.heap.size d stA4 100 used' false 0 hD5' 3 (by decide) (by decide) (fun q hq => by rw [stA4_is] at hq; cases hq; decide)
  rw [stA4_is] at R
  replace R := Lib.hid R
  replace hbb5 := Lib.hid hbb5
  clear C hD5 hb5 hD5'
  go_wp2_with fail
  refine R.out.mono ?_
  rintro e w6 ⟨x, cx, rfl, hr6, hb6⟩
  have hr6' : Row w6 x [97, 98, 99] := hr6
  have hcv := conv_str hr6' 3 cx rfl
  have e9 : (strOf [97, 98, 99]).toList = [97, 98, 99] := by rw [ByteArray.toList_eq]; rfl
  have hbb6 := hbb5.out.trans (hb6.mono hbb5.out.size)
  rw [show ((some ([97, 98, 99], 3) : Option (List Nat × Nat)).getD ([], 0)).fst.length = 3 from rfl]
  replace hbb6 := Lib.hid hbb6
  clear R hr6 hr6' hb6
  generalize strOf [97, 98, 99] = s9 at *
  go_wp2_with fail
  go_ret
  exact ⟨rfl, hbb6.out⟩
end Go.Proofs.Ytjphboljhkddaaa
