/- The walks of floats and of its reference: each function once. -/
import Derived.Test.YtidoacdigedlnaaMem
import Derived.Test.YtidoacdigedlnaaFBits
import Derived.WalkKit
import Derived.ProofKit
import Derived.WalkLawsBesides
import Derived.Lib.Hide
namespace Go.Proofs.Ytidoacdigedlnaa
open Go.RowKit FM Ieee

theorem run28 (x : Nat) (w : World) : Sem.run Try.prog (callFunc 50 #[.int .u64 (x : Int)]) w = .ok (.value (.float .f64 x)) w := by kernel_rfl
theorem run29 (n : Nat) (w : World) : Sem.run Try.prog (callFunc 85 #[.float .f64 n]) w = .ok (.value (.int .u64 n)) w := by kernel_rfl
attribute [local go_sem] run28 run29
set_option maxHeartbeats 400000 in
theorem kind_i (x : Int) (w : World) : Calls Try.prog 84 #[.int .u64 x] w fun e w' => e = .returned (.int .i64 (kI x)) ∧ w = w' := by
  go_enter Try.func84, Try.ntmps84
  go_wp2_with fail
  all_goals
    go_ret
    refine ⟨ret_int ?_, rfl⟩
    unfold kI
    simp_all
theorem kind (n : Nat) (w : World) (h : n < 18446744073709551616) : Calls Try.prog 84 #[.int .u64 (n : Int)] w fun e w' => e = .returned (.int .i64 (kN n)) ∧ w = w' := by
  rw [← kI_eq n h]; exact kind_i n w

theorem nan (n : Nat) (w : World) : Calls Try.prog 51 #[.int .u64 (n : Int)] w fun e w' => e = .returned (.bool (decide (isN n))) ∧ w = w' := by
  go_enter Try.func51, Try.ntmps51
  go_wp2_with fail
  go_ret
  exact ⟨ret_bool (ne_self n), rfl⟩

theorem canon (n : Nat) (w : World) (h : n < 18446744073709551616) : Calls Try.prog 83 #[.int .u64 (n : Int)] w fun e w' => e = .returned (.int .u64 (cN n : Nat)) ∧ w = w' := by
  go_enter Try.func83, Try.ntmps83
  go_wp2_with (go_at_call 84; refine (kind _ _ h).mono ?_; rintro e w' ⟨rfl, rfl⟩)
  all_goals
    go_ret
    refine ⟨ret_int ?_, rfl⟩
    unfold cN
  · rename_i hk
    rw [if_pos ((kN_nan n).1 (beq_iff_eq.1 hk))]; rfl
  · rename_i hk
    rw [if_neg (fun h => by rw [(kN_nan n).2 h] at hk; simp at hk)]
theorem rcanon (n : Nat) (w : World) : Calls Try.prog 31 #[.int .u64 (n : Int)] w fun e w' => e = .returned (.int .u64 (cN n : Nat)) ∧ w = w' := by
  go_enter Try.func31, Try.ntmps31
  have hne : (FloatKind.f64.format.order n n != some Ordering.eq) = decide (isN n) := ne_self n
  by_cases h : isN n
  · rw [decide_eq_true h] at hne
    go_wp2_with fail
    go_ret
    exact ⟨ret_int (by unfold cN; rw [if_pos h]; rfl), rfl⟩
  · rw [decide_eq_false h] at hne
    go_wp2_with fail
    go_ret
    exact ⟨ret_int (by unfold cN; rw [if_neg h]), rfl⟩
theorem bnot (n : Nat) (h : n < 18446744073709551616) : bits .xor .u64 IntKind.u64.max (n : Int) = ((18446744073709551615 - n : Nat) : Int) := by
  have e : (BitVec.ofInt IntKind.u64.bits IntKind.u64.max ^^^ BitVec.ofInt IntKind.u64.bits (n : Int)).toNat = 18446744073709551615 - n := by
    show (BitVec.ofInt 64 18446744073709551615 ^^^ BitVec.ofInt 64 (n : Int)).toNat = _
    rw [BitVec.ofInt_natCast]
    have : BitVec.ofInt 64 18446744073709551615 = BitVec.allOnes 64 := by decide
    rw [this, BitVec.allOnes_xor, BitVec.toNat_not, BitVec.toNat_ofNat, Nat.mod_eq_of_lt (by omega)]
  unfold bits
  simp only [e]
  show ((18446744073709551615 - n : Nat) : Int) % 18446744073709551616 = _
  omega
theorem rg_int (n : Nat) : ((n : Int) % 9223372036854775808) = (rg n : Int) := by unfold rg; omega
theorem beqT {a b : Int} (h : a = b) : (a == b) = true := beq_iff_eq.2 h
theorem beqF {a b : Int} (h : ¬ a = b) : (a == b) = false := beq_eq_false_iff_ne.2 h
theorem rkind (n : Nat) (w : World) : Calls Try.prog 32 #[.int .u64 (n : Int)] w fun e w' => e = .returned (.int .i64 (kN n)) ∧ w = w' := by
  go_enter Try.func32, Try.ntmps32
  iterate 18 go_step
  rw [rg_int n]
  by_cases hn : isN n
  · have e : decide (isN n) = true := decide_eq_true hn
    clear hn
    go_wp2_with (go_at_call 51; refine (nan _ _).mono ?_; rintro e w' ⟨rfl, rfl⟩)
    go_ret
    exact ⟨ret_int (by unfold kN; rw [if_pos (of_decide_eq_true e)]), rfl⟩
  have e : decide (isN n) = false := decide_eq_false hn
  have HN := Lib.hid hn
  clear hn
  generalize hr : rg n = r
  have HR := Lib.hid hr
  clear hr
  by_cases h1 : r = 9218868437227405312
  · have f1 : ((r : Int) == 9218868437227405312) = true := beqT (by omega)
    have H1 := Lib.hid h1
    clear h1
    go_wp2_with (go_at_call 51; refine (nan _ _).mono ?_; rintro e w' ⟨rfl, rfl⟩)
    go_ret
    exact ⟨ret_int (by unfold kN; rw [if_neg HN.out, HR.out, if_pos H1.out]), rfl⟩
  have f1 : ((r : Int) == 9218868437227405312) = false := beqF (by omega)
  by_cases h2 : r = 0
  · subst h2
    clear h1
    go_wp2_with (go_at_call 51; refine (nan _ _).mono ?_; rintro e w' ⟨rfl, rfl⟩)
    go_ret
    exact ⟨ret_int (by unfold kN; rw [if_neg HN.out, HR.out, if_neg (by decide), if_pos rfl]), rfl⟩
  have f2 : ((r : Int) == 0) = false := beqF (by omega)
  have H1 := Lib.hid h1
  have H2 := Lib.hid h2
  clear h1 h2
  by_cases h3 : r < 4503599627370496
  · have f3 : (r : Int) < 4503599627370496 := by omega
    have H3 := Lib.hid h3
    clear h3
    go_wp2_with (go_at_call 51; refine (nan _ _).mono ?_; rintro e w' ⟨rfl, rfl⟩)
    go_ret
    exact ⟨ret_int (by unfold kN; rw [if_neg HN.out, HR.out, if_neg H1.out, if_neg H2.out, if_pos H3.out]), rfl⟩
  · have f3 : decide ((r : Int) < 4503599627370496) = false := decide_eq_false (by omega)
    have H3 := Lib.hid h3
    clear h3
    go_wp2_with (go_at_call 51; refine (nan _ _).mono ?_; rintro e w' ⟨rfl, rfl⟩)
    go_ret
    exact ⟨ret_int (by unfold kN; rw [if_neg HN.out, HR.out, if_neg H1.out, if_neg H2.out, if_neg H3.out]), rfl⟩
@[irreducible] def fl (n : Int) : Nat := floatOfInt .f64 n
theorem fl_eq (n : Int) : fl n = floatOfInt .f64 n := by unfold fl; rfl
theorem conv (n : Int) (w : World) : Sem.run Try.prog (convert 3 82 (.int .i64 n)) w = .ok (.float .f64 (fl n)) w := by
  rw [fl_eq]; exact run_convert_int_float w 3 82 .i64 .f64 n (by kernel_rfl) (by kernel_rfl)
theorem of1 (n : Int) (w : World) : Calls Try.prog 73 #[.int .i64 n] w fun e w' => e = .returned (.int .u64 (fl n : Nat)) ∧ w = w' := by
  have hc := conv n
  go_enter Try.func73, Try.ntmps73
  go_wp2_with fail
  go_ret
  exact ⟨rfl, rfl⟩
end Go.Proofs.Ytidoacdigedlnaa
