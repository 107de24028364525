/- 'awake': an infinity times a zero is a NaN; and the canon of words. -/
import Derived.Test.YtepbcifknbjkoaaWalks2
namespace Go.Proofs.Ytepbcifknbjkoaa
open Go.RowKit FM Ieee

theorem awake (w : World) : Calls Try.prog 17 #[] w fun e w' => e = .returned (.bool true) ∧ Grown w w' := by
  have m := fun w => mul 9218868437227405312 9223372036854775808 w
  have e : adN (FloatKind.f64.format.mul 9218868437227405312 9223372036854775808) = 9221120237041090560 := by decide
  rw [e] at m
  have k := fun w => kind 0 w (by decide)
  have e2 : kN 0 = 3 := by decide
  rw [e2] at k
  have M := Lib.hid m
  have K := Lib.hid k
  clear m k e e2
  go_enter Try.func17, Try.ntmps17
  go_wp2_with (first | (go_at_call 20; refine (M.out _).mono ?_; rintro e w' ⟨rfl, hg⟩; have hg := Lib.hid hg) | (go_at_call 15; refine (K.out _).mono ?_; rintro e w' ⟨rfl, rfl⟩))
  go_ret
  exact ⟨rfl, hg.out⟩
theorem gtrans {a b c : World} (h : Grown a b) (k : Grown b c) : Grown a c :=
  ⟨World.keptBut_trans h.1 k.1, fun x => (k.2.1 x).trans (h.2.1 x), Nat.le_trans h.2.2 k.2.2⟩
theorem of_u64 {a : Int} (h : (Lit.int .u64 a).wf = true) : ∃ n : Nat, a = n ∧ n < 18446744073709551616 := by
  have h' : 0 ≤ a ∧ a ≤ 18446744073709551615 := by
    simp only [Lit.wf, Bool.and_eq_true, decide_eq_true_eq] at h
    exact h
  exact ⟨a.toNat, by omega, by omega⟩
end Go.Proofs.Ytepbcifknbjkoaa
