/- What floats' bits stand for, as plain numbers: order, kinds, wholes. No program in sight. -/
import Derived.Laws.FloatArith
import Derived.Laws.Entries
namespace Go.Proofs.Ytidoacdigedlnaa
namespace FM
open Ieee

def rg (n : Nat) : Nat := n % 9223372036854775808
def sg (n : Nat) : Bool := n / 9223372036854775808 % 2 == 1
/-- the magnitude's digits, and how many places they stand up -/
def mg (r : Nat) : Nat := if r < 4503599627370496 then r else 4503599627370496 + r % 4503599627370496
def ex (r : Nat) : Nat := r / 4503599627370496 - 1
def val (r : Nat) : Nat := mg r * 2 ^ ex r
@[reducible] def isN (n : Nat) : Prop := 9218868437227405312 < rg n
/-- the signed rung -/
def sr (n : Nat) : Int := if sg n then -(rg n : Int) else (rg n : Int)

theorem read_num (n : Nat) (h : rg n < 9218868437227405312) : double.read n = .number (sg n) (mg (rg n)) (-1074 + (ex (rg n) : Nat)) := by
  have e1 : double.signWeight = 9223372036854775808 := by decide
  have e2 : double.binade = 4503599627370496 := by decide
  have e3 : double.infRung = 9218868437227405312 := by decide
  have e4 : double.leastPlace = -1074 := by decide
  unfold Format.read
  rw [e1, e2, e3, e4]
  show (if rg n < 4503599627370496 then _ else _) = _
  unfold mg ex
  by_cases h1 : rg n < 4503599627370496
  · rw [if_pos h1, if_pos h1]
    have : rg n / 4503599627370496 - 1 = 0 := by omega
    rw [this]; rfl
  · rw [if_neg h1, if_neg h1]
    show (if rg n < _ then _ else _) = _
    rw [if_pos h]; rfl
theorem read_inf (n : Nat) (h : rg n = 9218868437227405312) : double.read n = .infinity (sg n) := by
  have e1 : double.signWeight = 9223372036854775808 := by decide
  have e2 : double.binade = 4503599627370496 := by decide
  have e3 : double.infRung = 9218868437227405312 := by decide
  unfold Format.read
  rw [e1, e2, e3]
  show (if rg n < 4503599627370496 then _ else if rg n < 9218868437227405312 then _ else if rg n = 9218868437227405312 then _ else _) = _
  rw [if_neg (by omega), if_neg (by omega), if_pos h]; rfl
theorem read_nan (n : Nat) (h : isN n) : double.read n = .nan (sg n) (rg n - 9218868437227405312) := by
  have e1 : double.signWeight = 9223372036854775808 := by decide
  have e2 : double.binade = 4503599627370496 := by decide
  have e3 : double.infRung = 9218868437227405312 := by decide
  unfold isN at h
  unfold Format.read
  rw [e1, e2, e3]
  show (if rg n < 4503599627370496 then _ else if rg n < 9218868437227405312 then _ else if rg n = 9218868437227405312 then _ else _) = _
  rw [if_neg (by omega), if_neg (by omega), if_neg (by omega)]; rfl

theorem val_lt {r q : Nat} (h : r < q) : val r < val q := by
  unfold val mg ex
  have hp : ∀ k, 0 < 2 ^ k := fun k => Nat.two_pow_pos k
  by_cases hr : r < 4503599627370496
  · rw [if_pos hr]
    have e0 : r / 4503599627370496 - 1 = 0 := by omega
    rw [e0, Nat.pow_zero, Nat.mul_one]
    by_cases hq : q < 4503599627370496
    · rw [if_pos hq]
      have e1 : q / 4503599627370496 - 1 = 0 := by omega
      rw [e1, Nat.pow_zero, Nat.mul_one]; exact h
    · rw [if_neg hq]
      have := Nat.le_mul_of_pos_right (4503599627370496 + q % 4503599627370496) (hp (q / 4503599627370496 - 1))
      omega
  · rw [if_neg hr, if_neg (by omega)]
    have hrm : r % 4503599627370496 < 4503599627370496 := Nat.mod_lt _ (by decide)
    have hk : r / 4503599627370496 ≤ q / 4503599627370496 := Nat.div_le_div_right (by omega)
    rcases Nat.lt_or_eq_of_le hk with hlt | heq
    · have e1 : q / 4503599627370496 - 1 = (r / 4503599627370496 - 1) + 1 + (q / 4503599627370496 - 1 - r / 4503599627370496) := by omega
      rw [e1, Nat.pow_add, Nat.pow_succ, ← Nat.mul_assoc]
      have h2 : (4503599627370496 + r % 4503599627370496) * 2 ^ (r / 4503599627370496 - 1) < 9007199254740992 * 2 ^ (r / 4503599627370496 - 1) := Nat.mul_lt_mul_of_pos_right (by omega) (hp _)
      have h3 : 9007199254740992 * 2 ^ (r / 4503599627370496 - 1) ≤ (4503599627370496 + q % 4503599627370496) * (2 ^ (r / 4503599627370496 - 1) * 2) := by
        have : 4503599627370496 * (2 ^ (r / 4503599627370496 - 1) * 2) ≤ (4503599627370496 + q % 4503599627370496) * (2 ^ (r / 4503599627370496 - 1) * 2) := Nat.mul_le_mul_right _ (by omega)
        omega
      have h4 := Nat.le_mul_of_pos_right ((4503599627370496 + q % 4503599627370496) * (2 ^ (r / 4503599627370496 - 1) * 2)) (hp (q / 4503599627370496 - 1 - r / 4503599627370496))
      omega
    · rw [← heq]
      exact Nat.mul_lt_mul_of_pos_right (by omega) (hp _)
theorem val_zero : val 0 = 0 := rfl
theorem val_le {r q : Nat} (h : r ≤ q) : val r ≤ val q := by
  rcases Nat.lt_or_eq_of_le h with h | h
  · exact Nat.le_of_lt (val_lt h)
  · rw [h]; exact Nat.le_refl _
theorem val_lt_iff {r q : Nat} : val r < val q ↔ r < q := ⟨fun h => Nat.lt_of_not_le fun h' => by have := val_le h'; omega, val_lt⟩

/-- the signed value -/
def sv (s : Bool) (r : Nat) : Int := if s then -(val r : Int) else (val r : Int)
def rv (s : Bool) (r : Nat) : Int := if s then -(r : Int) else (r : Int)
theorem sv_lt (s t : Bool) (r q : Nat) : sv s r < sv t q ↔ rv s r < rv t q := by
  unfold sv rv
  have h1 := @val_lt_iff r q
  have h2 := @val_lt_iff q r
  have h3 := @val_lt_iff 0 r
  have h4 := @val_lt_iff 0 q
  rw [val_zero] at h3 h4
  have h5 := Nat.zero_le (val r)
  have h6 := Nat.zero_le (val q)
  cases s <;> cases t <;> simp only [if_true, if_false, Bool.false_eq_true]
  · omega
  · constructor <;> intro h <;> omega
  · constructor
    · intro h
      have : 0 < val r ∨ 0 < val q := by omega
      rcases this with h | h
      · have := h3.1 h; omega
      · have := h4.1 h; omega
    · intro h
      have : 0 < r ∨ 0 < q := by omega
      rcases this with h | h
      · have := h3.2 h; omega
      · have := h4.2 h; omega
  · omega
theorem cmp_of_lt (a b c d : Int) (h1 : a < b ↔ c < d) (h2 : b < a ↔ d < c) : compare a b = compare c d := by
  rw [Int.compare_eq_ite_lt, Int.compare_eq_ite_lt]
  by_cases x : a < b
  · rw [if_pos x, if_pos (h1.1 x)]
  · rw [if_neg x, if_neg (fun y => x (h1.2 y))]
    by_cases z : b < a
    · rw [if_pos z, if_pos (h2.1 z)]
    · rw [if_neg z, if_neg (fun y => z (h2.2 y))]
theorem cmp_sv (s t : Bool) (r q : Nat) : compare (sv s r) (sv t q) = compare (rv s r) (rv t q) := cmp_of_lt _ _ _ _ (sv_lt ..) (sv_lt ..)
theorem signed_mul (s : Bool) (m u k : Nat) : signed s m u * ((2 ^ k : Nat) : Int) = if s then -((m * 2 ^ (u + k) : Nat) : Int) else ((m * 2 ^ (u + k) : Nat) : Int) := by
  unfold signed
  rw [Nat.shiftLeft_eq, Nat.pow_add, ← Nat.mul_assoc]
  cases s
  · simp only [Bool.false_eq_true, if_false]; rw [← Int.natCast_mul]
  · simp only [if_true]; rw [Int.neg_mul, ← Int.natCast_mul]
theorem cmp_num (s t : Bool) (r q : Nat) : (Datum.number s (mg r) (-1074 + (ex r : Nat))).order (.number t (mg q) (-1074 + (ex q : Nat))) = some (compare (rv s r) (rv t q)) := by
  rw [← cmp_sv]
  unfold Datum.order
  simp only
  congr 1
  have hp : (0 : Int) < ((2 ^ (min (ex r) (ex q)) : Nat) : Int) := by have := Nat.two_pow_pos (min (ex r) (ex q)); omega
  have key : ∀ a b : Int, compare a b = compare (a * ((2 ^ (min (ex r) (ex q)) : Nat) : Int)) (b * ((2 ^ (min (ex r) (ex q)) : Nat) : Int)) := fun a b =>
    cmp_of_lt _ _ _ _ ⟨fun h => Int.mul_lt_mul_of_pos_right h hp, fun h => Int.lt_of_mul_lt_mul_right h (by omega)⟩ ⟨fun h => Int.mul_lt_mul_of_pos_right h hp, fun h => Int.lt_of_mul_lt_mul_right h (by omega)⟩
  rw [key, signed_mul, signed_mul]
  have e1 : ((-1074 + (ex r : Int)) - min (-1074 + (ex r : Int)) (-1074 + (ex q : Int))).toNat + min (ex r) (ex q) = ex r := by omega
  have e2 : ((-1074 + (ex q : Int)) - min (-1074 + (ex r : Int)) (-1074 + (ex q : Int))).toNat + min (ex r) (ex q) = ex q := by omega
  rw [e1, e2]
  rfl

theorem rg_eq (n : Nat) : rg n = n / 4503599627370496 % 2048 * 4503599627370496 + n % 4503599627370496 := by
  unfold rg
  rw [show (9223372036854775808 : Nat) = 4503599627370496 * 2048 from rfl, Nat.mod_mul]; omega
theorem rg_lt (n : Nat) : rg n < 9223372036854775808 := Nat.mod_lt _ (by decide)

/-- HOW TWO WORDS STAND TO EACH OTHER. -/
theorem order_eq (a b : Nat) : double.order a b = if isN a ∨ isN b then none else some (compare (sr a) (sr b)) := by
  unfold Format.order
  by_cases ha : isN a
  · rw [if_pos (.inl ha), read_nan a ha]; rfl
  by_cases hb : isN b
  · rw [if_pos (.inr hb), read_nan b hb]; unfold Datum.order; cases double.read a <;> rfl
  rw [if_neg (by simp [ha, hb])]
  have ha' : rg a ≤ 9218868437227405312 := Nat.le_of_not_lt ha
  have hb' : rg b ≤ 9218868437227405312 := Nat.le_of_not_lt hb
  have z1 : sr a = rv (sg a) (rg a) := rfl
  have z2 : sr b = rv (sg b) (rg b) := rfl
  rw [z1, z2]
  rcases Nat.lt_or_eq_of_le ha' with ha' | ha' <;> rcases Nat.lt_or_eq_of_le hb' with hb' | hb'
  · rw [read_num a ha', read_num b hb', cmp_num]
  · rw [read_num a ha', read_inf b hb']
    unfold Datum.order rv
    simp only
    congr 1
    cases sg b <;> simp only [if_true, if_false, Bool.false_eq_true]
    · symm; rw [Int.compare_eq_lt]; split <;> omega
    · symm; rw [Int.compare_eq_gt]; split <;> omega
  · rw [read_inf a ha', read_num b hb']
    unfold Datum.order rv
    simp only
    congr 1
    cases sg a <;> simp only [if_true, if_false, Bool.false_eq_true]
    · symm; rw [Int.compare_eq_gt]; split <;> omega
    · symm; rw [Int.compare_eq_lt]; split <;> omega
  · rw [read_inf a ha', read_inf b hb', ha', hb']
    unfold Datum.order rv
    simp only
    congr 1
    cases sg a <;> cases sg b <;> rfl
end FM
end Go.Proofs.Ytidoacdigedlnaa
