/- The walks of floats and of its reference, the third part: wholes. -/
import Derived.Test.YtidoacdigedlnaaFWalks
namespace Go.Proofs.Ytidoacdigedlnaa
open Go.RowKit FM Ieee
attribute [local go_sem] run28 run29

theorem floor (n : Nat) (w : World) (hn : n < 18446744073709551616) (h1 : 4607182418800017408 ≤ sr n) (h2 : sr n < 4890909195324358656) : Calls Try.prog 86 #[.int .u64 (n : Int)] w fun e w' => e = .returned (.int .i64 (whN n : Nat)) ∧ w = w' := by
  have hp := parts n hn
  have hs : n < 9223372036854775808 := by omega
  have he1 : 1023 ≤ n / 4503599627370496 := by omega
  have he2 : n / 4503599627370496 ≤ 1085 := by omega
  have e1 : bits .and .u64 (n : Int) 9218868437227405312 = ((n / 4503599627370496 * 4503599627370496 : Nat) : Int) := by
    rw [hi_eq n hn, Nat.mod_eq_of_lt (show n / 4503599627370496 < 2048 by omega)]
  have e2 : bits .and .u64 (n : Int) 4503599627370495 = ((n % 4503599627370496 : Nat) : Int) := lo_eq n hn
  have hm : n % 4503599627370496 < 4503599627370496 := Nat.mod_lt _ (by decide)
  have e3 : bits .or .u64 ((n % 4503599627370496 : Nat) : Int) 4503599627370496 = ((n % 4503599627370496 + 4503599627370496 : Nat) : Int) := one_eq _ hm
  have e4 : whN n = if 1075 ≤ n / 4503599627370496 then (n % 4503599627370496 + 4503599627370496) * 2 ^ (n / 4503599627370496 - 1075) else (n % 4503599627370496 + 4503599627370496) / 2 ^ (1075 - n / 4503599627370496) := by
    unfold whN
    rw [Nat.mod_eq_of_lt (show n / 4503599627370496 < 2048 by omega)]
  generalize n / 4503599627370496 = e at *
  generalize n % 4503599627370496 = m at *
  generalize whN n = r at *
  have E4 := Lib.hid e4
  clear e4 hp hs h1 h2 hn
  go_enter Try.func86, Try.ntmps86
  go_wp2_with fail
  all_goals go_ret
  · refine ⟨ret_int ?_, rfl⟩
    rw [E4.out, if_pos (by omega), show e - 1023 - 52 = e - 1075 by omega]
    have := pow_bound (m + 4503599627370496) (e - 1075) (by omega) (by omega)
    rw [show ((m : Int) + 4503599627370496) * 2 ^ (e - 1075) = (((m + 4503599627370496) * 2 ^ (e - 1075) : Nat) : Int) by simp]
    exact IntWalk.wrap64_in _ ⟨by omega, by omega⟩
  · refine ⟨ret_int ?_, rfl⟩
    rw [E4.out, if_neg (by omega), show (-((e : Int) - 1023 - 52)).toNat = 1075 - e by omega]
    simp
theorem lt_one (n : Nat) (h : ¬ isN n) : (FloatKind.f64.format.order n 4607182418800017408 == some Ordering.lt) = decide (sr n < 4607182418800017408) := by
  rw [Bool.eq_iff_iff, beq_iff_eq, order_lt, sr_one, decide_eq_true_iff]
  exact ⟨fun x => x.2.2, fun x => ⟨h, n_one, x⟩⟩
theorem gt_63 (n : Nat) (h : ¬ isN n) : (FloatKind.f64.format.order n 4890909195324358656 == some Ordering.gt) = decide (4890909195324358656 < sr n) := by
  rw [Bool.eq_iff_iff, beq_iff_eq, order_gt, sr_63, decide_eq_true_iff]
  exact ⟨fun x => x.2.2, fun x => ⟨h, n_63, x⟩⟩
theorem eq_63 (n : Nat) (h : ¬ isN n) : (FloatKind.f64.format.order n 4890909195324358656 == some Ordering.eq) = decide (sr n = 4890909195324358656) := by
  rw [Bool.eq_iff_iff, beq_iff_eq, order_is, sr_63, decide_eq_true_iff]
  exact ⟨fun x => x.2.2, fun x => ⟨h, n_63, x⟩⟩
theorem gt_0 (n : Nat) (h : ¬ isN n) : (FloatKind.f64.format.order n 0 == some Ordering.gt) = decide (0 < sr n) := by
  rw [Bool.eq_iff_iff, beq_iff_eq, order_gt, sr_zero, decide_eq_true_iff]
  exact ⟨fun x => x.2.2, fun x => ⟨h, n_zero, x⟩⟩
theorem ret_two {a b c d : Int} (h : a = b) (h' : c = d) : Ending.returned (.tuple #[.int .i64 a, .int .i64 c]) = .returned (.tuple #[.int .i64 b, .int .i64 d]) := by rw [h, h']
theorem whole (n : Nat) (most : Int) (w : World) (hn : n < 18446744073709551616) : Calls Try.prog 75 #[.int .u64 (n : Int), .int .i64 most] w fun e w' => e = .returned (.tuple #[.int .i64 (wF n most), .int .i64 (eF n most)]) ∧ w = w' := by
  have K1 := Lib.hid (fun w => kind n w hn)
  have K2 := Lib.hid (fun w => floor n w hn)
  have W : Hid (wF n most = _) := Lib.hid rfl
  have E : Hid (eF n most = _) := Lib.hid rfl
  by_cases hx : isN n
  · have hk := (kN_nan n).2 hx
    rw [hk] at K1
    have HX := Lib.hid hx
    clear hx hk hn
    go_enter Try.func75, Try.ntmps75
    go_wp2_with (go_at_call 84; refine (K1.out _).mono ?_; rintro e w' ⟨rfl, rfl⟩)
    go_ret2
    exact ⟨ret_two (by unfold wF; rw [if_pos (.inl HX.out)]) (by unfold eF; rw [if_pos (.inl HX.out)]), rfl⟩
  have hk : (kN n == 1) = false := beqF (fun h => hx ((kN_nan n).1 h))
  by_cases hm : most < 0
  · have HX := Lib.hid hx
    have HM := Lib.hid hm
    clear hx hn
    generalize kN n = k at *
    go_enter Try.func75, Try.ntmps75
    go_wp2_with (go_at_call 84; refine (K1.out _).mono ?_; rintro e w' ⟨rfl, rfl⟩)
    all_goals go_ret2
    all_goals exact ⟨ret_two (by unfold wF; rw [if_pos (.inr HM.out)]) (by unfold eF; rw [if_pos (.inr HM.out)]), rfl⟩
  have hno : ¬ (isN n ∨ most < 0) := by omega
  have hm' : decide (most < 0) = false := decide_eq_false hm
  by_cases ha : sr n < 4607182418800017408
  · have f1 : (FloatKind.f64.format.order n 4607182418800017408 == some Ordering.lt) = true := by rw [lt_one n hx]; exact decide_eq_true ha
    have HX := Lib.hid hno
    have HA := Lib.hid ha
    clear hx hn ha hno hm
    generalize kN n = k at *
    go_enter Try.func75, Try.ntmps75
    go_wp2_with (go_at_call 84; refine (K1.out _).mono ?_; rintro e w' ⟨rfl, rfl⟩)
    go_ret2
    exact ⟨ret_two (by unfold wF; rw [if_neg HX.out, if_pos HA.out]) (by unfold eF; rw [if_neg HX.out]), rfl⟩
  have f1 : (FloatKind.f64.format.order n 4607182418800017408 == some Ordering.lt) = false := by rw [lt_one n hx]; exact decide_eq_false ha
  by_cases hb : sr n < 4890909195324358656
  · have f2 : (FloatKind.f64.format.order n 4890909195324358656 == some Ordering.gt) = false := by rw [gt_63 n hx]; exact decide_eq_false (by omega)
    have f3 : (FloatKind.f64.format.order n 4890909195324358656 == some Ordering.eq) = false := by rw [eq_63 n hx]; exact decide_eq_false (by omega)
    have K3 := Lib.hid (fun w => K2.out w (by omega) hb)
    have HX := Lib.hid hno
    have HA := Lib.hid ha
    have HB := Lib.hid hb
    clear hx hn ha hno hm hb K2
    generalize kN n = k at *
    go_enter Try.func75, Try.ntmps75
    go_wp2_with (first | (go_at_call 84; refine (K1.out _).mono ?_; rintro e w' ⟨rfl, rfl⟩) | (go_at_call 86; refine (K3.out _).mono ?_; rintro e w' ⟨rfl, rfl⟩))
    all_goals
      go_ret2
      refine ⟨ret_two ?_ (by unfold eF; rw [if_neg HX.out]), rfl⟩
      unfold wF
      rw [if_neg HX.out, if_neg (by have := HA.out; omega), if_neg (by have := HB.out; omega)]
      omega
  · have f2 : (FloatKind.f64.format.order n 4890909195324358656 == some Ordering.gt) = decide (4890909195324358656 < sr n) := gt_63 n hx
    have f3 : (FloatKind.f64.format.order n 4890909195324358656 == some Ordering.eq) = decide (sr n = 4890909195324358656) := eq_63 n hx
    have HX := Lib.hid hno
    have HA := Lib.hid ha
    have HB := Lib.hid hb
    by_cases hc : 4890909195324358656 < sr n
    · rw [decide_eq_true hc] at f2
      clear f3 hx hn ha hno hm hb hc
      generalize kN n = k at *
      go_enter Try.func75, Try.ntmps75
      go_wp2_with (first | (go_at_call 84; refine (K1.out _).mono ?_; rintro e w' ⟨rfl, rfl⟩))
      go_ret2
      refine ⟨ret_two ?_ (by unfold eF; rw [if_neg HX.out]), rfl⟩
      unfold wF
      rw [if_neg HX.out, if_neg (by have := HA.out; omega), if_pos (by have := HB.out; omega)]
    · rw [decide_eq_false hc] at f2
      rw [decide_eq_true (show sr n = 4890909195324358656 by omega)] at f3
      clear hx hn ha hno hm hb hc
      generalize kN n = k at *
      go_enter Try.func75, Try.ntmps75
      go_wp2_with (first | (go_at_call 84; refine (K1.out _).mono ?_; rintro e w' ⟨rfl, rfl⟩))
      go_ret2
      refine ⟨ret_two ?_ (by unfold eF; rw [if_neg HX.out]), rfl⟩
      unfold wF
      rw [if_neg HX.out, if_neg (by have := HA.out; omega), if_pos (by have := HB.out; omega)]
end Go.Proofs.Ytidoacdigedlnaa
