/- The sum's remainders, as plain numbers: a bit, so many bits, what is linear. No program in sight. -/
import GoSem.Core.Lib
namespace Go.Proofs.Ytmmpcpdokgahcaa
namespace CM

def P : Nat := 2197175160
/-- a remainder behind a bit 0 -/
def bit (s : Nat) : Nat := if s % 2 = 1 then s / 2 ^^^ P else s / 2
def bitn : Nat → Nat → Nat
  | 0, s => s
  | k + 1, s => bitn k (bit s)
theorem bit_zero : bit 0 = 0 := rfl
theorem xor_swap (a b c d : Nat) : (a ^^^ b) ^^^ (c ^^^ d) = (a ^^^ c) ^^^ (b ^^^ d) := by
  rw [Nat.xor_assoc, Nat.xor_assoc]; congr 1; rw [← Nat.xor_assoc, Nat.xor_comm b c, Nat.xor_assoc]
theorem bit_xor (a b : Nat) : bit (a ^^^ b) = bit a ^^^ bit b := by
  have e1 : (a ^^^ b) % 2 = a % 2 ^^^ b % 2 := @Nat.xor_mod_two_pow a b 1
  have e2 : (a ^^^ b) / 2 = a / 2 ^^^ b / 2 := @Nat.xor_div_two_pow a b 1
  unfold bit
  rw [e1, e2]
  have ha : a % 2 = 0 ∨ a % 2 = 1 := by omega
  have hb : b % 2 = 0 ∨ b % 2 = 1 := by omega
  rcases ha with ha | ha <;> rcases hb with hb | hb
  · rw [ha, hb, if_neg (by decide), if_neg (by decide), if_neg (by decide)]
  · rw [ha, hb, if_pos (by decide), if_neg (by decide), if_pos (by decide), Nat.xor_assoc]
  · rw [ha, hb, if_pos (by decide), if_pos (by decide), if_neg (by decide), Nat.xor_assoc, Nat.xor_assoc, Nat.xor_comm (b / 2) P]
  · rw [ha, hb, if_neg (by decide), if_pos (by decide), if_pos (by decide), xor_swap, Nat.xor_self, Nat.xor_zero]
theorem bitn_xor (k : Nat) : ∀ a b, bitn k (a ^^^ b) = bitn k a ^^^ bitn k b := by
  induction k with
  | zero => intro a b; rfl
  | succ k ih => intro a b; show bitn k (bit (a ^^^ b)) = _; rw [bit_xor, ih]; rfl
theorem bitn_zero (k : Nat) : bitn k 0 = 0 := by
  induction k with
  | zero => rfl
  | succ k ih => show bitn k (bit 0) = 0; rw [bit_zero, ih]
theorem bitn_add (j k s : Nat) : bitn (j + k) s = bitn k (bitn j s) := by
  induction j generalizing s with
  | zero => simp [bitn]
  | succ j ih => rw [show j + 1 + k = (j + k) + 1 by omega]; show bitn (j + k) (bit s) = bitn k (bitn j (bit s)); exact ih _
theorem bitn_succ (k s : Nat) : bitn (k + 1) s = bit (bitn k s) := bitn_add k 1 s
theorem bitn_comm (j k s : Nat) : bitn j (bitn k s) = bitn k (bitn j s) := by rw [← bitn_add, ← bitn_add, Nat.add_comm]
theorem bit_lt (s : Nat) (h : s < 4294967296) : bit s < 4294967296 := by
  unfold bit
  split
  · exact Nat.xor_lt_two_pow (n := 32) (by omega) (by decide)
  · omega
theorem bitn_lt (k : Nat) : ∀ s, s < 4294967296 → bitn k s < 4294967296 := by
  induction k with
  | zero => exact fun s h => h
  | succ k ih => exact fun s h => ih _ (bit_lt s h)
theorem bit_even (q : Nat) : bit (2 * q) = q := by unfold bit; rw [if_neg (by omega)]; omega
theorem bitn_pow (k : Nat) : ∀ q, bitn k (2 ^ k * q) = q := by
  induction k with
  | zero => intro q; simp [bitn]
  | succ k ih => intro q; show bitn k (bit _) = q; rw [Nat.pow_succ, Nat.mul_comm (2 ^ k) 2, Nat.mul_assoc, bit_even, ih]
theorem or_xor (x : Nat) : x = 16 * (x / 16) ^^^ x % 16 := by
  apply Nat.eq_of_testBit_eq
  intro i
  rw [Nat.testBit_xor, show (16 : Nat) = 2 ^ 4 from rfl, Nat.testBit_two_pow_mul, Nat.testBit_mod_two_pow, Nat.testBit_div_two_pow]
  by_cases h : 4 ≤ i
  · have e : ¬ i < 4 := by omega
    simp [h, e]
  · have e : i < 4 := by omega
    simp [h, e]
/-- a half byte -/
theorem half (x : Nat) : bitn 4 x = x / 16 ^^^ bitn 4 (x % 16) := by
  have h := congrArg (bitn 4) (or_xor x)
  rw [bitn_xor, show (16 : Nat) * (x / 16) = 2 ^ 4 * (x / 16) from rfl, bitn_pow] at h
  exact h
/-- a remainder behind bytes -/
def run (s : Nat) (b : List Nat) : Nat := b.foldl (fun s c => bitn 8 (s ^^^ c)) s
theorem run_lt (b : List Nat) : ∀ s, s < 4294967296 → (∀ c ∈ b, c < 256) → run s b < 4294967296 := by
  induction b with
  | nil => exact fun s h _ => h
  | cons c b ih =>
    intro s h hb
    refine ih _ (bitn_lt 8 _ (Nat.xor_lt_two_pow (n := 32) h (Nat.lt_trans (hb c (by simp)) (by decide)))) fun d hd => hb d (by simp [hd])
theorem run_xor (b : List Nat) : ∀ s t, run (s ^^^ t) b = bitn (8 * b.length) s ^^^ run t b := by
  induction b with
  | nil => intro s t; rfl
  | cons c b ih =>
    intro s t
    show run (bitn 8 (s ^^^ t ^^^ c)) b = bitn (8 * (b.length + 1)) s ^^^ run (bitn 8 (t ^^^ c)) b
    rw [Nat.xor_assoc, bitn_xor, ih, show 8 * (b.length + 1) = 8 + 8 * b.length by omega, bitn_add]
theorem run_append (s : Nat) (a b : List Nat) : run s (a ++ b) = run (run s a) b := List.foldl_append
def top : Nat := 4294967295
/-- all bits turned -/
def flip (s : Nat) : Nat := s ^^^ top
theorem flip_flip (s : Nat) : flip (flip s) = s := by unfold flip; rw [Nat.xor_assoc, Nat.xor_self, Nat.xor_zero]
theorem flip_lt (s : Nat) (h : s < 4294967296) : flip s < 4294967296 := Nat.xor_lt_two_pow (n := 32) h (by decide)
def more (s : Nat) (b : List Nat) : Nat := flip (run (flip s) b)
theorem more_more (s : Nat) (a b : List Nat) : more (more s a) b = more s (a ++ b) := by
  unfold more; rw [flip_flip, run_append]
/-- the sum of two texts together comes of their sums -/
theorem join (a b : List Nat) : bitn (8 * b.length) (more 0 a) ^^^ more 0 b = more 0 (a ++ b) := by
  unfold more
  rw [run_append]
  generalize run (flip 0) a = r
  unfold flip
  rw [Nat.zero_xor, bitn_xor]
  have h1 := run_xor b r 0
  have h2 := run_xor b top 0
  rw [Nat.xor_zero] at h1 h2
  rw [h1, h2]
  generalize bitn (8 * b.length) r = x
  generalize bitn (8 * b.length) top = y
  generalize run 0 b = z
  rw [Nat.xor_assoc y z, xor_swap x y y, Nat.xor_comm x y, xor_swap y x y, Nat.xor_self, Nat.zero_xor, ← Nat.xor_assoc]
/-- what a matrix makes of the first k bits of a remainder -/
def times (m : Nat → Nat) (s : Nat) : Nat → Nat
  | 0 => 0
  | k + 1 => if s / 2 ^ k % 2 = 1 then times m s k ^^^ m k else times m s k
theorem times_low (F : Nat → Nat) (hF : ∀ a b, F (a ^^^ b) = F a ^^^ F b) (h0 : F 0 = 0) (s k : Nat) : times (fun i => F (2 ^ i)) s k = F (s % 2 ^ k) := by
  induction k with
  | zero => simp [times, Nat.mod_one, h0]
  | succ k ih =>
    unfold times
    rw [ih]
    have e : s % 2 ^ (k + 1) = s % 2 ^ k + 2 ^ k * (s / 2 ^ k % 2) := by rw [Nat.pow_succ, Nat.mod_mul]
    rw [e]
    have h2 : s / 2 ^ k % 2 = 0 ∨ s / 2 ^ k % 2 = 1 := by omega
    rcases h2 with h2 | h2
    · rw [if_neg (by omega), h2]; simp
    · rw [if_pos h2, h2, Nat.mul_one, ← hF]
      congr 1
      have hlt : s % 2 ^ k < 2 ^ k := Nat.mod_lt _ (Nat.two_pow_pos _)
      rw [Nat.add_comm]
      have h3 := Nat.two_pow_add_eq_or_of_lt hlt 1
      rw [Nat.mul_one] at h3
      rw [h3]
      apply Nat.eq_of_testBit_eq
      intro i
      rw [Nat.testBit_xor, Nat.testBit_or, Nat.testBit_two_pow]
      by_cases h : k = i
      · subst h; simp [Nat.testBit_lt_two_pow hlt]
      · simp [h]
theorem times_all (n s : Nat) (hs : s < 4294967296) : times (fun i => bitn n (2 ^ i)) s 32 = bitn n s := by
  rw [times_low (bitn n) (bitn_xor n) (bitn_zero n), Nat.mod_eq_of_lt hs]
end CM
end Go.Proofs.Ytmmpcpdokgahcaa
