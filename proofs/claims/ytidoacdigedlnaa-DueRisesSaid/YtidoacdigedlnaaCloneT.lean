/- slices.Clone of timers. -/
import Derived.Test.YtidoacdigedlnaaRow
import Derived.Lib.LazyBuf
set_option linter.unusedVariables false
set_option linter.unusedSimpArgs false
namespace Go.Proofs.Ytidoacdigedlnaa
open Go.RowKit

set_option maxRecDepth 100000 in
theorem cloneT1 (ad : Addr) (n cap : Nat) (l : List TM) (w : World) (hs : Sl 2 (TMAt (Live w) w) (Live w) w (some ad) l) (hn : l.length = n) (h9 : n ≤ 1000000) :
    Calls Try.prog 36 #[.slice (some ad) n cap] w fun e w' => ∃ v, e = .returned v ∧ w'.ownsRow w.heap.size 52 2 v n (flat l) ∧ Below w.heap.size w w' := by
  have hnil : ∀ w : World, (binOp .eql 30 (.slice (some ad) n cap) (.slice none 0 0)).run Try.prog w = .ok (.bool false) w := fun w => run_eql_slice_nil w 30 52 (some ad) n cap Try.underlying30
  replace hs := Lib.hid hs
  replace hn := Lib.hid hn
  go_enter Try.func36, Try.ntmps36
  obtain ⟨i0, hi, hz0, hz1, hz2⟩ := info_parts (show (Try.prog.info? 52).map (fun i => (i.zero, i.size, i.bytes)) = some (some (.agg #[.string ByteArray.empty, .int .i64 0]), 2, 24) by kernel_rfl)
  have hA : Below w.heap.size w (w.alloc (.cells #[] 52)) := (Below.refl _ _).alloc (Nat.le_refl _) _
  have ho : (w.alloc (.cells #[] 52)).ownsRow w.heap.size 52 2 (.slice (some ⟨w.heap.size, 0, none⟩) 0 0) 0 [] := ⟨rfl, .inr ⟨_, 0, #[], rfl, Nat.le_refl _, heap_alloc_new w _, Nat.le_refl _, by decide, rfl, rfl⟩⟩
  have hr : ∀ j u, (flat l)[j]? = some u → (w.alloc (.cells #[] 52)).cell? (ad.add j) = some u := by
    intro j u hu
    obtain ⟨xs, h1, h2⟩ := hs.out
    have hl : l ≠ [] := by rintro rfl; simp [flat] at hu
    obtain ⟨g', off', e1, e2, e3⟩ := h2 hl
    cases e1
    rw [flat_els h1] at e3
    rw [Addr.add_mid]
    exact cell_later (e3 j u hu) _
  have h1 : ∀ u ∈ flat l, u.oneCell' = true := by
    intro u hu
    clear hr hs hn
    induction l with
    | nil => cases hu
    | cons x l ih =>
      rcases List.mem_cons.1 hu with rfl | hu
      · rfl
      rcases List.mem_cons.1 hu with rfl | hu
      · rfl
      exact ih hu
  have hfl := flat_len l
  rw [hn.out] at hfl
  replace hi := Lib.hid hi
  replace hz0 := Lib.hid hz0
  replace hz1 := Lib.hid hz1
  replace hz2 := Lib.hid hz2
  replace hr := Lib.hid hr
  replace h1 := Lib.hid h1
  replace hfl := Lib.hid hfl
  replace ho := Lib.hid ho
  replace hA := Lib.hid hA
  go_wp2_with (at_builtin; refine wpList_append_own_at _ rfl (.tmp 5) (.tmp 6) 30 rfl w.heap.size 52 i0 _ 2 24 Try.underlying30 hi.out hz0.out hz1.out hz2.out rfl (by decide) _ 0 [] rfl ho.out ad n cap (flat l) rfl hfl.out hr.out h1.out ?c1 ?c2 ?c3 ?_)
  case c1 => rw [Nat.zero_add]; exact Nat.le_trans h9 (by decide)
  case c2 => omega
  case c3 => exact hA.out.size
  intro v' w' k1 k2 _ _
  have hb := Lib.hid (hA.out.grown k2 hA.out.size (fun k hk => by cases hk; exact Nat.le_refl _))
  replace k1 := Lib.hid k1
  clear k2
  go_wp2_with fail
  go_ret
  exact ⟨_, rfl, k1.out, hb.out⟩
set_option maxRecDepth 100000 in
theorem cloneT0 (n cap : Nat) (w : World) :
    Calls Try.prog 36 #[.slice none n cap] w fun e w' => e = .returned (.slice none 0 0) ∧ Below w.heap.size w w' := by
  have hnil : ∀ w : World, (binOp .eql 30 (.slice none n cap) (.slice none 0 0)).run Try.prog w = .ok (.bool true) w := fun w => run_eql_slice_nil w 30 52 none n cap Try.underlying30
  go_enter Try.func36, Try.ntmps36
  go_wp2_with fail
  go_ret
  exact ⟨rfl, Below.refl _ _⟩
theorem cloneT (a : Option Addr) (n cap : Nat) (l : List TM) (w : World) (hs : Sl 2 (TMAt (Live w) w) (Live w) w a l) (hn : l.length = n) (h9 : n ≤ 1000000) :
    Calls Try.prog 36 #[.slice a n cap] w fun e w' => ∃ v, e = .returned v ∧ w'.ownsRow w.heap.size 52 2 v n (flat l) ∧ Below w.heap.size w w' := by
  cases a with
  | some ad => exact cloneT1 ad n cap l w hs hn h9
  | none =>
    have hl : l = [] := by
      obtain ⟨xs, h1, h2⟩ := hs
      rcases l with _ | ⟨x, l⟩
      · rfl
      · obtain ⟨g, off, h, _⟩ := h2 (by simp)
        cases h
    subst hl
    subst hn
    refine (cloneT0 _ cap w).mono ?_
    rintro e w' ⟨rfl, hb⟩
    exact ⟨_, rfl, ⟨rfl, .inl ⟨rfl, rfl⟩⟩, hb⟩
end Go.Proofs.Ytidoacdigedlnaa
