/- The walks of 'same' and of slices.EqualFunc over frames. -/
import Derived.Test.YtmmpcpdokgahcaaScan2
set_option linter.unusedVariables false
namespace Go.Proofs.Ytmmpcpdokgahcaa
open Go.RowKit CM

theorem same_walk (k : Nat) (p : List Nat) (a b : Option Addr) (ca cb n : Nat) (w : World) (ha : Row w a p) (hb : Row w b p) (hn : p.length = n) :
    Calls Try.prog 16 #[.agg #[.int .i64 (k : Int), .slice a n ca], .agg #[.int .i64 (k : Int), .slice b n cb]] w fun e w' => e = .returned (.bool true) ∧ Below w.heap.size w w' := by
  have hB : Below w.heap.size w ((w.alloc (.cells #[.int .i64 (k : Int), .slice a n ca] 29)).alloc (.cells #[.int .i64 (k : Int), .slice b n cb] 29)) := ((Below.refl _ _).alloc (Nat.le_refl _) _).alloc (by simp) _
  have E := equal _ a b p p n n ca cb (ha.below hB) (hb.below hB) hn hn
  have e1 : decide (p = p) = true := by simp
  rw [e1] at E
  replace E := Lib.hid E
  clear e1
  replace hB := Lib.hid hB
  go_enter Try.func16, Try.ntmps16
  go_wp2_with (go_at_call 6; refine E.out.mono ?_; rintro e w1 ⟨rfl, rfl⟩)
  go_ret
  exact ⟨rfl, hB.out⟩
theorem own_cells {w : World} {B n : Nat} {v : Value} {xs : List Value} (h : w.ownsRow B 29 2 v n xs) (hn : 0 < n) : ∃ g cap, v = .slice (some ⟨g, 0, none⟩) n cap ∧ g < w.heap.size ∧ n ≤ cap ∧ ∀ w' : World, w'.heap[g]? = w.heap[g]? → ∀ i u, xs[i]? = some u → w'.cell? ⟨g, i, none⟩ = some u := by
  rcases h.2 with ⟨rfl, rfl⟩ | ⟨g, cap, cur, rfl, hg, hh, hc, hm, hz, ht⟩
  · omega
  · refine ⟨g, cap, rfl, (Array.getElem?_eq_some_iff.1 hh).1, hc, fun w' hw i u hu => ?_⟩
    rw [hh] at hw
    rw [cell_of_row _ g i _ _ _ hw]
    rw [← ht] at hu
    rw [List.getElem?_take] at hu
    split at hu
    · simpa using hu
    · cases hu
theorem equalfunc (fs : List Fr) (v u : Value) (xs ys : List Value) (n B B' : Nat) (w : World) (hv : w.ownsRow B 29 2 v n xs) (hu : w.ownsRow B' 29 2 u n ys) (hx : FR w fs xs) (hy : FR w fs ys) (hn : fs.length = n) (hn2 : n ≤ 200000) :
    Calls Try.prog 17 #[v, u, .func (.func 16) #[] #[]] w fun e w' => e = .returned (.bool true) ∧ Below w.heap.size w w' := by
  by_cases h0 : n = 0
  · subst h0
    obtain ⟨x1, c1, rfl, _⟩ := own_len hv
    obtain ⟨x2, c2, rfl, _⟩ := own_len hu
    go_enter Try.func17, Try.ntmps17
    go_wp2_with fail
    refine wp_loop_rounds 1 ?_
    rw [rounds_succ]
    go_wp2_with fail
    go_ret
    exact ⟨rfl, Below.refl _ _⟩
  obtain ⟨g, c1, rfl, hg1, hc1, hcx⟩ := own_cells hv (by omega)
  obtain ⟨g', c2, rfl, hg2, hc2, hcy⟩ := own_cells hu (by omega)
  replace hcx := Lib.hid hcx
  replace hcy := Lib.hid hcy
  replace hx := Lib.hid hx
  replace hy := Lib.hid hy
  replace hn := Lib.hid hn
  clear hv hu
  go_enter Try.func17, Try.ntmps17
  go_wp2_with fail
  go_loopw [17] (fun j wr => ∃ i : Nat, i ≤ n ∧ j = .int .i64 (i : Int) ∧ Below w.heap.size w wr) (fun j _ => n - (intOf j).toNat)
  case atStart => exact ⟨0, Nat.zero_le _, rfl, Below.refl _ _⟩
  case round =>
    obtain ⟨i, hi, rfl, hbr⟩ := hrel
    by_cases hin : i < n
    · obtain ⟨f, hf⟩ : ∃ f, fs[i]? = some f := ⟨_, List.getElem?_eq_getElem (by rw [hn.out]; exact hin)⟩
      obtain ⟨a, ca, ex0, ex1, hra, hla⟩ := hx.out.get _ _ _ _ hf
      obtain ⟨b, cb, ey0, ey1, hrb, hlb⟩ := hy.out.get _ _ _ _ hf
      have q0 : wr.cell? ⟨g, i * 2, none⟩ = some (.int .i64 (f.1 : Int)) := hcx.out wr (hbr.block _ hg1) _ _ ex0
      have q1 : wr.cell? ⟨g, i * 2 + 1, none⟩ = some (.slice a f.2.length ca) := hcx.out wr (hbr.block _ hg1) _ _ ex1
      have q2 : wr.cell? ⟨g', i * 2, none⟩ = some (.int .i64 (f.1 : Int)) := hcy.out wr (hbr.block _ hg2) _ _ ey0
      have q3 : wr.cell? ⟨g', i * 2 + 1, none⟩ = some (.slice b f.2.length cb) := hcy.out wr (hbr.block _ hg2) _ _ ey1
      have hg1' : g < wr.heap.size := Nat.lt_of_lt_of_le hg1 hbr.size
      have hg2' : g' < wr.heap.size := Nat.lt_of_lt_of_le hg2 hbr.size
      have hB3 : ∀ o o', Below wr.heap.size wr ((wr.alloc o).alloc o') := fun o o' => ((Below.refl _ _).alloc (Nat.le_refl _) _).alloc (by simp) _
      have M := fun w' (hb : Below wr.heap.size wr w') => same_walk f.1 f.2 a b ca cb f.2.length w' ((hra.below hbr).below hb) ((hrb.below hbr).below hb) rfl
      replace M := Lib.hid M
      replace hB3 := Lib.hid hB3
      replace hbr := Lib.hid hbr
      clear ex0 ex1 ey0 ey1 hra hrb hf hla hlb
      go_wp2_with (go_at_call 16; refine (M.out _ ?_).mono ?_; exact hB3.out _ _; rintro e w1 ⟨rfl, hb1⟩)
      go_roundw
      case rel => exact ⟨i + 1, by omega, by go_num, hbr.out.trans (((hB3.out _ _).trans (hb1.mono (hB3.out _ _).size)).mono hbr.out.size)⟩
      case measure => simp [intOf]; omega
    · have : i = n := by omega
      subst this
      go_wp2_with fail
      go_ret
      exact ⟨rfl, hbr⟩
end Go.Proofs.Ytmmpcpdokgahcaa
