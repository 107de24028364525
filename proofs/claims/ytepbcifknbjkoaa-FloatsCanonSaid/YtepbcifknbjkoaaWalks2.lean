/- The walks of floats and of its reference, the second half. -/
import Derived.Test.YtepbcifknbjkoaaWalks
namespace Go.Proofs.Ytepbcifknbjkoaa
open Go.RowKit FM Ieee
attribute [local go_sem] run28 run29

theorem order (x y : Nat) (w : World) (hx : x < 18446744073709551616) (hy : y < 18446744073709551616) : Calls Try.prog 22 #[.int .u64 (x : Int), .int .u64 (y : Int)] w fun e w' => e = .returned (.int .i64 (ordN x y)) ∧ w = w' := by
  have k1 := Lib.hid (key x w hx)
  have k2 := Lib.hid (key y w hy)
  clear hx hy
  have e1 : ordN x y = if (kyN x : Int) < (kyN y : Int) then -1 else if (kyN y : Int) < (kyN x : Int) then 1 else 0 := rfl
  have E1 := Lib.hid e1
  clear e1
  generalize kyN x = p at *
  generalize kyN y = q at *
  go_enter Try.func22, Try.ntmps22
  go_wp2_with fail
  refine k1.out.mono ?_
  rintro e w' ⟨rfl, rfl⟩
  go_wp2_with fail
  refine k2.out.mono ?_
  rintro e w' ⟨rfl, rfl⟩
  go_wp2_with fail
  all_goals
    go_ret
    refine ⟨ret_int ?_, rfl⟩
    rw [E1.out]
  · rw [if_pos (by omega)]
  · rw [if_neg (by omega), if_pos (by omega)]
  · rw [if_neg (by omega), if_neg (by omega)]

theorem less (x y : Nat) (w : World) (hx : x < 18446744073709551616) (hy : y < 18446744073709551616) : Calls Try.prog 26 #[.int .u64 (x : Int), .int .u64 (y : Int)] w fun e w' => e = .returned (.bool (lessN x y)) ∧ w = w' := by
  have k1 := fun w => key x w hx
  have K1 := Lib.hid k1
  have k2 := fun w => key y w hy
  have K2 := Lib.hid k2
  have k3 := fun w => kind x w hx
  have K3 := Lib.hid k3
  have k4 := fun w => kind y w hy
  have K4 := Lib.hid k4
  clear k1 k2 k3 k4
  have hl : lessN x y = (!(decide (kN x = 1)) && !(decide (kN y = 1)) && !(decide (kN x = 3) && decide (kN y = 3)) && decide ((kyN x : Int) < (kyN y : Int))) := by
    unfold lessN
    rw [Bool.eq_iff_iff]
    simp only [decide_eq_true_eq, Bool.and_eq_true, Bool.not_eq_true', decide_eq_false_iff_not, Bool.and_eq_false_imp, kN_nan, kN_zero]
    have px := parts x hx
    have py := parts y hy
    unfold kyN isN
    constructor
    · rintro ⟨a, b, c⟩
      refine ⟨⟨⟨a, b⟩, fun h => ?_⟩, ?_⟩
      · omega
      · rw [if_neg a, if_neg b]; split <;> split <;> omega
    · rintro ⟨⟨⟨a, b⟩, c⟩, d⟩
      refine ⟨a, b, ?_⟩
      rw [if_neg a, if_neg b] at d
      revert d
      split <;> split <;> omega
  have HL := Lib.hid hl
  clear hl hx hy
  generalize kyN x = p at *
  generalize kyN y = q at *
  generalize kN x = a at *
  generalize kN y = b at *
  generalize lessN x y = l at *
  go_enter Try.func26, Try.ntmps26
  go_wp2_with (first | (go_at_call 15; (first | (with_reducible refine (K3.out _).mono ?_) | (with_reducible refine (K4.out _).mono ?_)); rintro e w' ⟨rfl, rfl⟩) | (go_at_call 31; (first | (with_reducible refine (K1.out _).mono ?_) | (with_reducible refine (K2.out _).mono ?_)); rintro e w' ⟨rfl, rfl⟩))
  all_goals
    go_ret
    refine ⟨ret_bool ?_, rfl⟩
    rw [HL.out]
    simp_all
def rordF (nx ny : Bool) (o ox oy : Option Ordering) (x y : Nat) : Int :=
  if nx || ny then (if nx && ny then 0 else if nx then 1 else -1)
  else if o == some Ordering.lt || (ox == some Ordering.eq && oy == some Ordering.eq && decide (y < x)) then -1
  else if o == some Ordering.gt || (ox == some Ordering.eq && oy == some Ordering.eq && decide (x < y)) then 1 else 0
theorem rordF_eq (x y : Nat) (hx : x < 18446744073709551616) (hy : y < 18446744073709551616) :
    ordN x y = rordF (decide (isN x)) (decide (isN y)) (FloatKind.f64.format.order x y) (FloatKind.f64.format.order x 0) (FloatKind.f64.format.order y 0) x y := by
  have px := parts x hx
  have py := parts y hy
  unfold rordF ordN kyN
  simp only [Bool.or_eq_true, Bool.and_eq_true, decide_eq_true_eq, beq_iff_eq, order_lt, order_gt, order_is, sr_zero, n_zero, not_false_eq_true, true_and]
  by_cases a : isN x <;> by_cases b : isN y
  · simp only [a, b, if_true, true_or, true_and, Int.lt_irrefl, if_false]
  · simp only [a, b, if_true, if_false, true_or, and_false]
    rw [if_neg, if_pos]
    · split <;> omega
    · split <;> omega
  · simp only [a, b, if_true, if_false, or_true, false_and]
    rw [if_pos]
    split <;> omega
  · simp only [a, b, if_false, or_self, not_false_eq_true, true_and]
    obtain ⟨k, hk, hk'⟩ : ∃ k, (if 9223372036854775808 ≤ x then 18446744073709551615 - x else x + 9223372036854775808) = k ∧ ((9223372036854775808 ≤ x ∧ k = 18446744073709551615 - x) ∨ (x < 9223372036854775808 ∧ k = x + 9223372036854775808)) := ⟨_, rfl, by split <;> omega⟩
    obtain ⟨l, hl, hl'⟩ : ∃ l, (if 9223372036854775808 ≤ y then 18446744073709551615 - y else y + 9223372036854775808) = l ∧ ((9223372036854775808 ≤ y ∧ l = 18446744073709551615 - y) ∨ (y < 9223372036854775808 ∧ l = y + 9223372036854775808)) := ⟨_, rfl, by split <;> omega⟩
    rw [hk, hl]
    by_cases c : sr x < sr y
    · rw [if_pos (by omega), if_pos (.inl c)]
    by_cases d : sr y < sr x
    · rw [if_neg (by omega), if_pos (by omega), if_neg (by omega), if_pos (.inl d)]
    by_cases e : x = y
    · rw [if_neg (by omega), if_neg (by omega), if_neg (by omega), if_neg (by omega)]
    by_cases f : y < x
    · rw [if_pos (by omega), if_pos (by omega)]
    · rw [if_neg (by omega), if_pos (by omega), if_neg (by omega), if_pos (by omega)]
theorem rorder (x y : Nat) (w : World) (hx : x < 18446744073709551616) (hy : y < 18446744073709551616) : Calls Try.prog 25 #[.int .u64 (x : Int), .int .u64 (y : Int)] w fun e w' => e = .returned (.int .i64 (ordN x y)) ∧ w = w' := by
  have HL := Lib.hid (rordF_eq x y hx hy)
  have K1 := Lib.hid (fun w => nan x w)
  have K2 := Lib.hid (fun w => nan y w)
  clear hx hy
  generalize decide (isN x) = nx at *
  generalize decide (isN y) = ny at *
  generalize ordN x y = r at *
  go_enter Try.func25, Try.ntmps25
  go_wp2_with (first | (go_at_call 30; (first | (with_reducible refine (K1.out _).mono ?_) | (with_reducible refine (K2.out _).mono ?_)); rintro e w' ⟨rfl, rfl⟩))
  all_goals
    go_ret
    refine ⟨ret_int ?_, rfl⟩
    rw [HL.out]
    unfold rordF
    clear HL K1 K2
    go_tidy
    simp_all
  all_goals rw [if_neg (by omega), if_neg (by omega)]
theorem nan_cut (t : Nat) : isN (t % 2 * 2 ^ 63 + 9218868437227405312 + 1 + t / 2 % (2 ^ 52 - 1)) ∧ t % 2 * 2 ^ 63 + 9218868437227405312 + 1 + t / 2 % (2 ^ 52 - 1) < 18446744073709551616 := by
  have h1 : t % 2 < 2 := Nat.mod_lt _ (by decide)
  have h2 : t / 2 % (2 ^ 52 - 1) < 4503599627370495 := Nat.mod_lt _ (by decide)
  generalize t % 2 = s at *
  generalize t / 2 % (2 ^ 52 - 1) = f at *
  unfold isN rg
  have : s = 0 ∨ s = 1 := by omega
  rcases this with rfl | rfl <;> omega
theorem add_nan (x y : Nat) (h : FloatKind.f64.format.add x y = none) (w : World) : ∃ r, isN r ∧ r < 18446744073709551616 ∧ Sem.run Try.prog (binOp .add 37 (.float .f64 x) (.float .f64 y)) w = .ok (.float .f64 r) w.drew := by
  have hc := nan_cut (w.tape w.drawn (.nanBits .f64 x y))
  exact ⟨_, hc.1, hc.2, by simp [binOp, Op.floatArith, h]; rw [if_neg (fun h => by cases h)]; rfl⟩
theorem mul_nan (x y : Nat) (h : FloatKind.f64.format.mul x y = none) (w : World) : ∃ r, isN r ∧ r < 18446744073709551616 ∧ Sem.run Try.prog (binOp .mul 37 (.float .f64 x) (.float .f64 y)) w = .ok (.float .f64 r) w.drew := by
  have hc := nan_cut (w.tape w.drawn (.nanBits .f64 x y))
  exact ⟨_, hc.1, hc.2, by simp [binOp, Op.floatArith, h]; rw [if_neg (fun h => by cases h)]; rfl⟩
def adN (o : Option Nat) : Nat := match o with | none => 9221120237041090560 | some r => cN r
theorem cN_of (r : Nat) (h : isN r) : cN r = 9221120237041090560 := (cN_one r).2 h
theorem addlt {x y r : Nat} (h : FloatKind.f64.format.add x y = some r) : r < 18446744073709551616 := Ieee.double.add_lt h
theorem mullt {x y r : Nat} (h : FloatKind.f64.format.mul x y = some r) : r < 18446744073709551616 := Ieee.double.mul_lt h

theorem add (x y : Nat) (w : World) : Calls Try.prog 18 #[.int .u64 (x : Int), .int .u64 (y : Int)] w fun e w' => e = .returned (.int .u64 (adN (FloatKind.f64.format.add x y) : Nat)) ∧ Grown w w' := by
  cases h : FloatKind.f64.format.add x y with
  | none =>
    obtain ⟨r, h1, h2, h3⟩ := add_nan x y h w
    have h1 := Lib.hid h1
    have h2 := Lib.hid h2
    clear h
    go_enter Try.func18, Try.ntmps18
    go_wp2_with (go_at_call 11; refine (canon r _ h2.out).mono ?_; rintro e w' ⟨rfl, rfl⟩)
    go_ret
    exact ⟨ret_int (by rw [cN_of r h1.out]; rfl), (Grown.refl _).drew⟩
  | some r =>
    have h3 : ∀ w, Sem.run Try.prog (binOp .add 37 (.float .f64 x) (.float .f64 y)) w = .ok (.float .f64 r) w := fun w => run_float_arith w .add 37 .f64 x y r h
    have h2 := Lib.hid (addlt h)
    clear h
    go_enter Try.func18, Try.ntmps18
    go_wp2_with (go_at_call 11; refine (canon r _ h2.out).mono ?_; rintro e w' ⟨rfl, rfl⟩)
    go_ret
    exact ⟨rfl, Grown.refl _⟩

theorem radd (x y : Nat) (w : World) : Calls Try.prog 19 #[.int .u64 (x : Int), .int .u64 (y : Int)] w fun e w' => e = .returned (.int .u64 (adN (FloatKind.f64.format.add x y) : Nat)) ∧ Grown w w' := by
  cases h : FloatKind.f64.format.add x y with
  | none =>
    obtain ⟨r, h1, h2, h3⟩ := add_nan x y h w
    have h1 := Lib.hid h1
    have h2 := Lib.hid h2
    clear h
    go_enter Try.func19, Try.ntmps19
    go_wp2_with (go_at_call 12; refine (rcanon r _).mono ?_; rintro e w' ⟨rfl, rfl⟩)
    go_ret
    exact ⟨ret_int (by rw [cN_of r h1.out]; rfl), (Grown.refl _).drew⟩
  | some r =>
    have h3 : ∀ w, Sem.run Try.prog (binOp .add 37 (.float .f64 x) (.float .f64 y)) w = .ok (.float .f64 r) w := fun w => run_float_arith w .add 37 .f64 x y r h
    have h2 := Lib.hid (addlt h)
    clear h
    go_enter Try.func19, Try.ntmps19
    go_wp2_with (go_at_call 12; refine (rcanon r _).mono ?_; rintro e w' ⟨rfl, rfl⟩)
    go_ret
    exact ⟨rfl, Grown.refl _⟩

theorem mul (x y : Nat) (w : World) : Calls Try.prog 20 #[.int .u64 (x : Int), .int .u64 (y : Int)] w fun e w' => e = .returned (.int .u64 (adN (FloatKind.f64.format.mul x y) : Nat)) ∧ Grown w w' := by
  cases h : FloatKind.f64.format.mul x y with
  | none =>
    obtain ⟨r, h1, h2, h3⟩ := mul_nan x y h w
    have h1 := Lib.hid h1
    have h2 := Lib.hid h2
    clear h
    go_enter Try.func20, Try.ntmps20
    go_wp2_with (go_at_call 11; refine (canon r _ h2.out).mono ?_; rintro e w' ⟨rfl, rfl⟩)
    go_ret
    exact ⟨ret_int (by rw [cN_of r h1.out]; rfl), (Grown.refl _).drew⟩
  | some r =>
    have h3 : ∀ w, Sem.run Try.prog (binOp .mul 37 (.float .f64 x) (.float .f64 y)) w = .ok (.float .f64 r) w := fun w => run_float_arith w .mul 37 .f64 x y r h
    have h2 := Lib.hid (mullt h)
    clear h
    go_enter Try.func20, Try.ntmps20
    go_wp2_with (go_at_call 11; refine (canon r _ h2.out).mono ?_; rintro e w' ⟨rfl, rfl⟩)
    go_ret
    exact ⟨rfl, Grown.refl _⟩

theorem rmul (x y : Nat) (w : World) : Calls Try.prog 21 #[.int .u64 (x : Int), .int .u64 (y : Int)] w fun e w' => e = .returned (.int .u64 (adN (FloatKind.f64.format.mul x y) : Nat)) ∧ Grown w w' := by
  cases h : FloatKind.f64.format.mul x y with
  | none =>
    obtain ⟨r, h1, h2, h3⟩ := mul_nan x y h w
    have h1 := Lib.hid h1
    have h2 := Lib.hid h2
    clear h
    go_enter Try.func21, Try.ntmps21
    go_wp2_with (go_at_call 12; refine (rcanon r _).mono ?_; rintro e w' ⟨rfl, rfl⟩)
    go_ret
    exact ⟨ret_int (by rw [cN_of r h1.out]; rfl), (Grown.refl _).drew⟩
  | some r =>
    have h3 : ∀ w, Sem.run Try.prog (binOp .mul 37 (.float .f64 x) (.float .f64 y)) w = .ok (.float .f64 r) w := fun w => run_float_arith w .mul 37 .f64 x y r h
    have h2 := Lib.hid (mullt h)
    clear h
    go_enter Try.func21, Try.ntmps21
    go_wp2_with (go_at_call 12; refine (rcanon r _).mono ?_; rintro e w' ⟨rfl, rfl⟩)
    go_ret
    exact ⟨rfl, Grown.refl _⟩
end Go.Proofs.Ytepbcifknbjkoaa
