/- The walks of crc and of its reference: zeros and joins. -/
import Derived.Test.YtenfloaebhjolaaWalks4
namespace Go.Proofs.Ytenfloaebhjolaa
open Go.RowKit CM

def zr (n : Int) (s : Nat) : Nat := if n < 0 ∨ 1048576 < n then s else bitn (8 * n.toNat) s
theorem zr_lt (n : Int) (s : Nat) (h : s < 4294967296) : zr n s < 4294967296 := by unfold zr; split; exact h; exact bitn_lt _ _ h
theorem zeros_any (s : Nat) (n : Int) (w : World) (hs : s < 4294967296) :
    Calls Try.prog 12 #[.int .u32 (s : Int), .int .i64 n] w fun e w' => e = .returned (.int .u32 ((zr n s : Nat) : Int)) ∧ Below w.heap.size w w' := by
  unfold zr
  by_cases h : n < 0 ∨ 1048576 < n
  · rw [if_pos h]; exact zeros_big s n w h
  · rw [if_neg h]
    have := zeros s n.toNat w hs (by omega)
    rw [show ((n.toNat : Nat) : Int) = n by omega] at this
    exact this
theorem rzeros_any (s : Nat) (n : Int) (w : World) (hs : s < 4294967296) :
    Calls Try.prog 13 #[.int .u32 (s : Int), .int .i64 n] w fun e w' => e = .returned (.int .u32 ((zr n s : Nat) : Int)) ∧ w = w' := by
  unfold zr
  by_cases h1 : n < 0
  · have h2 : decide (n < 0) = true := decide_eq_true h1
    rw [if_pos (.inl h1)]
    go_enter Try.func13, Try.ntmps13
    go_wp2_with fail
    go_ret
    exact ⟨rfl, rfl⟩
  have h2 : decide (n < 0) = false := decide_eq_false h1
  by_cases h4 : 1048576 < n
  · have h3 : decide (1048576 < n) = true := decide_eq_true h4
    rw [if_pos (.inr h4)]
    go_enter Try.func13, Try.ntmps13
    go_wp2_with fail
    go_ret
    exact ⟨rfl, rfl⟩
  have h3 : decide (1048576 < n) = false := decide_eq_false h4
  rw [if_neg (by omega)]
  obtain ⟨m, rfl⟩ : ∃ m : Nat, n = m := ⟨n.toNat, by omega⟩
  rw [Int.toNat_natCast]
  have hm : m ≤ 1048576 := by omega
  replace hs := Lib.hid hs
  clear h1 h4
  go_enter Try.func13, Try.ntmps13
  go_wp2_with fail
  go_loop [0, 5] (fun v i => ∃ k : Nat, k ≤ 8 * m ∧ i = .int .i64 k ∧ v = .int .u32 ((bitn k s : Nat) : Int)) (fun _ i => 8 * m - (intOf i).toNat)
  case atStart => exact ⟨0, Nat.zero_le _, rfl, rfl⟩
  case round =>
    obtain ⟨k, hk, rfl, rfl⟩ := hrel
    by_cases hlt : k < 8 * m
    · have B := Lib.hid (fun w => rbit (bitn k s) w (bitn_lt k s hs.out))
      rw [← bitn_succ] at B
      go_wp2_with (first | (go_at_call 18; refine (B.out _).mono ?_; rintro e w' ⟨rfl, rfl⟩))
      go_round
      case rel => exact ⟨k + 1, by omega, by go_num, rfl⟩
      case measure => simp [intOf]; omega
    · obtain rfl : k = 8 * m := by omega
      go_wp2_with fail
      go_ret
      exact ⟨rfl, rfl⟩
def jn (n : Int) (a b : Nat) : Nat := zr n a ^^^ b
theorem join_walk (a b : Nat) (n : Int) (w : World) (ha : a < 4294967296) (hb : b < 4294967296) :
    Calls Try.prog 14 #[.int .u32 (a : Int), .int .u32 (b : Int), .int .i64 n] w fun e w' => e = .returned (.int .u32 ((jn n a b : Nat) : Int)) ∧ Below w.heap.size w w' := by
  have Z := Lib.hid (fun w => zeros_any a n w ha)
  have e1 := w_xor _ _ (zr_lt n a ha) hb
  unfold jn
  clear ha hb
  generalize zr n a ^^^ b = r at *
  generalize zr n a = z at *
  go_enter Try.func14, Try.ntmps14
  go_wp2_with fail
  refine (Z.out _).mono ?_
  rintro e w' ⟨rfl, hb⟩
  replace hb := Lib.hid hb
  go_wp2_with fail
  go_ret
  exact ⟨rfl, hb.out⟩
theorem rjoin_walk (a b : Nat) (n : Int) (w : World) (ha : a < 4294967296) (hb : b < 4294967296) :
    Calls Try.prog 15 #[.int .u32 (a : Int), .int .u32 (b : Int), .int .i64 n] w fun e w' => e = .returned (.int .u32 ((jn n a b : Nat) : Int)) ∧ w = w' := by
  have Z := Lib.hid (fun w => rzeros_any a n w ha)
  have e1 := w_xor _ _ (zr_lt n a ha) hb
  unfold jn
  clear ha hb
  generalize zr n a ^^^ b = r at *
  generalize zr n a = z at *
  go_enter Try.func15, Try.ntmps15
  go_wp2_with fail
  refine (Z.out _).mono ?_
  rintro e w' ⟨rfl, rfl⟩
  go_wp2_with fail
  go_ret
  exact ⟨rfl, rfl⟩
end Go.Proofs.Ytenfloaebhjolaa
