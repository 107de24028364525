/- The walks of floats and of its reference, the second half. -/
import Derived.Test.YtidoacdigedlnaaFWalks
namespace Go.Proofs.Ytidoacdigedlnaa
open Go.RowKit FM Ieee
attribute [local go_sem] run28 run29

def rordF (nx ny : Bool) (o ox oy : Option Ordering) (x y : Nat) : Int :=
  if nx || ny then (if nx && ny then 0 else if nx then 1 else -1)
  else if o == some Ordering.lt || (ox == some Ordering.eq && oy == some Ordering.eq && decide (y < x)) then -1
  else if o == some Ordering.gt || (ox == some Ordering.eq && oy == some Ordering.eq && decide (x < y)) then 1 else 0
theorem rordF_eq (x y : Nat) (hx : x < 18446744073709551616) (hy : y < 18446744073709551616) :
    ordN x y = rordF (decide (isN x)) (decide (isN y)) (FloatKind.f64.format.order x y) (FloatKind.f64.format.order x 0) (FloatKind.f64.format.order y 0) x y := by
  have px := parts x hx
  have py := parts y hy
  unfold rordF ordN kyN
  simp only [Bool.or_eq_true, Bool.and_eq_true, decide_eq_true_eq, beq_iff_eq, order_lt, order_gt, order_is, sr_zero, n_zero, not_false_eq_true, true_and]
  by_cases a : isN x <;> by_cases b : isN y
  · simp only [a, b, if_true, true_or, true_and, Int.lt_irrefl, if_false]
  · simp only [a, b, if_true, if_false, true_or, and_false]
    rw [if_neg, if_pos]
    · split <;> omega
    · split <;> omega
  · simp only [a, b, if_true, if_false, or_true, false_and]
    rw [if_pos]
    split <;> omega
  · simp only [a, b, if_false, or_self, not_false_eq_true, true_and]
    obtain ⟨k, hk, hk'⟩ : ∃ k, (if 9223372036854775808 ≤ x then 18446744073709551615 - x else x + 9223372036854775808) = k ∧ ((9223372036854775808 ≤ x ∧ k = 18446744073709551615 - x) ∨ (x < 9223372036854775808 ∧ k = x + 9223372036854775808)) := ⟨_, rfl, by split <;> omega⟩
    obtain ⟨l, hl, hl'⟩ : ∃ l, (if 9223372036854775808 ≤ y then 18446744073709551615 - y else y + 9223372036854775808) = l ∧ ((9223372036854775808 ≤ y ∧ l = 18446744073709551615 - y) ∨ (y < 9223372036854775808 ∧ l = y + 9223372036854775808)) := ⟨_, rfl, by split <;> omega⟩
    rw [hk, hl]
    by_cases c : sr x < sr y
    · rw [if_pos (by omega), if_pos (.inl c)]
    by_cases d : sr y < sr x
    · rw [if_neg (by omega), if_pos (by omega), if_neg (by omega), if_pos (.inl d)]
    by_cases e : x = y
    · rw [if_neg (by omega), if_neg (by omega), if_neg (by omega), if_neg (by omega)]
    by_cases f : y < x
    · rw [if_pos (by omega), if_pos (by omega)]
    · rw [if_neg (by omega), if_pos (by omega), if_neg (by omega), if_pos (by omega)]
theorem nan_cut (t : Nat) : isN (t % 2 * 2 ^ 63 + 9218868437227405312 + 1 + t / 2 % (2 ^ 52 - 1)) ∧ t % 2 * 2 ^ 63 + 9218868437227405312 + 1 + t / 2 % (2 ^ 52 - 1) < 18446744073709551616 := by
  have h1 : t % 2 < 2 := Nat.mod_lt _ (by decide)
  have h2 : t / 2 % (2 ^ 52 - 1) < 4503599627370495 := Nat.mod_lt _ (by decide)
  generalize t % 2 = s at *
  generalize t / 2 % (2 ^ 52 - 1) = f at *
  unfold isN rg
  have : s = 0 ∨ s = 1 := by omega
  rcases this with rfl | rfl <;> omega
theorem add_nan (x y : Nat) (h : FloatKind.f64.format.add x y = none) (w : World) : ∃ r, isN r ∧ r < 18446744073709551616 ∧ Sem.run Try.prog (binOp .add 82 (.float .f64 x) (.float .f64 y)) w = .ok (.float .f64 r) w.drew := by
  have hc := nan_cut (w.tape w.drawn (.nanBits .f64 x y))
  exact ⟨_, hc.1, hc.2, by simp [binOp, Op.floatArith, h]; rw [if_neg (fun h => by cases h)]; rfl⟩
theorem mul_nan (x y : Nat) (h : FloatKind.f64.format.mul x y = none) (w : World) : ∃ r, isN r ∧ r < 18446744073709551616 ∧ Sem.run Try.prog (binOp .mul 82 (.float .f64 x) (.float .f64 y)) w = .ok (.float .f64 r) w.drew := by
  have hc := nan_cut (w.tape w.drawn (.nanBits .f64 x y))
  exact ⟨_, hc.1, hc.2, by simp [binOp, Op.floatArith, h]; rw [if_neg (fun h => by cases h)]; rfl⟩
def adN (o : Option Nat) : Nat := match o with | none => 9221120237041090560 | some r => cN r
theorem cN_of (r : Nat) (h : isN r) : cN r = 9221120237041090560 := (cN_one r).2 h
theorem addlt {x y r : Nat} (h : FloatKind.f64.format.add x y = some r) : r < 18446744073709551616 := Ieee.double.add_lt h
theorem mullt {x y r : Nat} (h : FloatKind.f64.format.mul x y = some r) : r < 18446744073709551616 := Ieee.double.mul_lt h

theorem mul (x y : Nat) (w : World) : Calls Try.prog 74 #[.int .u64 (x : Int), .int .u64 (y : Int)] w fun e w' => e = .returned (.int .u64 (adN (FloatKind.f64.format.mul x y) : Nat)) ∧ ∃ k, w' = w.drewN k := by
  cases h : FloatKind.f64.format.mul x y with
  | none =>
    obtain ⟨r, h1, h2, h3⟩ := mul_nan x y h w
    have h1 := Lib.hid h1
    have h2 := Lib.hid h2
    clear h
    go_enter Try.func74, Try.ntmps74
    go_wp2_with (go_at_call 83; refine (canon r _ h2.out).mono ?_; rintro e w' ⟨rfl, rfl⟩)
    go_ret
    exact ⟨ret_int (by rw [cN_of r h1.out]; rfl), 1, rfl⟩
  | some r =>
    have h3 : ∀ w, Sem.run Try.prog (binOp .mul 82 (.float .f64 x) (.float .f64 y)) w = .ok (.float .f64 r) w := fun w => run_float_arith w .mul 82 .f64 x y r h
    have h2 := Lib.hid (mullt h)
    clear h
    go_enter Try.func74, Try.ntmps74
    go_wp2_with (go_at_call 83; refine (canon r _ h2.out).mono ?_; rintro e w' ⟨rfl, rfl⟩)
    go_ret
    exact ⟨rfl, 0, rfl⟩

end Go.Proofs.Ytidoacdigedlnaa
