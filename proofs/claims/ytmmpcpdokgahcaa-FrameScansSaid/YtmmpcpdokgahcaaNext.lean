/- The walks of frame.get, length, Next. -/
import Derived.Test.YtmmpcpdokgahcaaRSeal
namespace Go.Proofs.Ytmmpcpdokgahcaa
open Go.RowKit CM

/-- the number of k bytes from a place on -/
def numk (l : List Nat) (p : Nat) : Nat → Nat
  | 0 => 0
  | k + 1 => numk l p k * 256 + l.getD (p + k) 0
def num4 (l : List Nat) (p : Nat) : Nat := numk l p 4
theorem byte_at {l : List Nat} (h : ∀ c ∈ l, c < 256) (i : Nat) : l.getD i 0 < 256 := by
  by_cases hi : i < l.length
  · rw [List.getD_eq_getElem?_getD, List.getElem?_eq_getElem hi]; exact h _ (List.getElem_mem hi)
  · rw [List.getD_eq_getElem?_getD, List.getElem?_eq_none (by omega)]; simp
theorem or_byte (x c : Nat) (hx : x < 16777216) (hc : c < 256) : bits .or .u32 ((x : Int) * 256) (c : Int) = ((x * 256 + c : Nat) : Int) := by
  unfold bits
  have e : (BitVec.ofInt IntKind.u32.bits ((x : Int) * 256) ||| BitVec.ofInt IntKind.u32.bits (c : Int)).toNat = x * 256 + c := by
    show (BitVec.ofInt 32 ((x : Int) * 256) ||| BitVec.ofInt 32 (c : Int)).toNat = _
    rw [show (x : Int) * 256 = ((x * 256 : Nat) : Int) by omega, BitVec.ofInt_natCast, BitVec.ofInt_natCast, BitVec.toNat_or, BitVec.toNat_ofNat, BitVec.toNat_ofNat, Nat.mod_eq_of_lt (by omega), Nat.mod_eq_of_lt (by omega)]
    have := Nat.two_pow_add_eq_or_of_lt (i := 8) hc x
    rw [show x * 256 = 2 ^ 8 * x by omega]
    exact this.symm
  simp only [e]
  show ((x * 256 + c : Nat) : Int) % 4294967296 = _
  omega
theorem numk_lt {l : List Nat} (h : ∀ c ∈ l, c < 256) (p : Nat) : ∀ k, numk l p k < 256 ^ k := by
  intro k
  induction k with
  | zero => show 0 < 256 ^ 0; decide
  | succ k ih =>
    have := byte_at h (p + k)
    show numk l p k * 256 + _ < 256 ^ (k + 1)
    rw [Nat.pow_succ]; omega
theorem get_walk (a : Option Addr) (l : List Nat) (cap n p : Nat) (w : World) (hr : Row w a l) (hn : l.length = n) (hp : p + 4 ≤ n) (hc : n ≤ cap) (hcap : cap ≤ 9223372036854775807) :
    Calls Try.prog 23 #[.slice a n cap, .int .i64 (p : Int)] w fun e w' => e = .returned (.int .u32 ((num4 l p : Nat) : Int)) ∧ w = w' := by
  obtain ⟨b, off, ha, hcell⟩ : ∃ b off, a = some ⟨b, off, none⟩ ∧ ∀ i, i < l.length → w.cell? ⟨b, off + i, none⟩ = some (.int .u8 ((l.getD i 0 : Nat) : Int)) := by
    rcases hr.2.2 with h | h
    · rw [h] at hn; simp at hn; omega
    · exact h
  subst ha
  have c0 := hcell (p + 0) (by omega)
  have c1 := hcell (p + 1) (by omega)
  have c2 := hcell (p + 2) (by omega)
  have c3 := hcell (p + 3) (by omega)
  have b0 := byte_at hr.1 (p + 0)
  have b1 := byte_at hr.1 (p + 1)
  have b2 := byte_at hr.1 (p + 2)
  have b3 := byte_at hr.1 (p + 3)
  have e4 : num4 l p = ((l.getD (p + 0) 0 * 256 + l.getD (p + 1) 0) * 256 + l.getD (p + 2) 0) * 256 + l.getD (p + 3) 0 := by
    unfold num4 numk numk numk numk numk; omega
  clear hcell hr
  generalize l.getD (p + 0) 0 = x0 at *
  generalize l.getD (p + 1) 0 = x1 at *
  generalize l.getD (p + 2) 0 = x2 at *
  generalize l.getD (p + 3) 0 = x3 at *
  rw [e4]
  clear e4
  have o0 : bits .or .u32 0 (x0 : Int) = (x0 : Int) := by
    have := or_byte 0 x0 (by omega) b0
    simpa using this
  have o1 := or_byte x0 x1 (by omega) b1
  have o2 : bits .or .u32 (((x0 : Int) * 256 + x1) * 256) (x2 : Int) = (((x0 * 256 + x1) * 256 + x2 : Nat) : Int) := by
    rw [show ((x0 : Int) * 256 + x1) * 256 = ((x0 * 256 + x1 : Nat) : Int) * 256 by omega]
    exact or_byte (x0 * 256 + x1) x2 (by omega) b2
  have o3 : bits .or .u32 ((((x0 : Int) * 256 + x1) * 256 + x2) * 256) (x3 : Int) = ((((x0 * 256 + x1) * 256 + x2) * 256 + x3 : Nat) : Int) := by
    rw [show (((x0 : Int) * 256 + x1) * 256 + x2) * 256 = (((x0 * 256 + x1) * 256 + x2 : Nat) : Int) * 256 by omega]
    exact or_byte ((x0 * 256 + x1) * 256 + x2) x3 (by omega) b3
  replace o0 := Lib.hid o0
  replace o1 := Lib.hid o1
  replace o2 := Lib.hid o2
  replace o3 := Lib.hid o3
  rw [← Nat.add_assoc] at c0 c1 c2 c3
  rw [Nat.add_zero] at c0
  clear hn
  go_enter Try.func23, Try.ntmps23
  go_wp2_with fail
  go_loop [5, 14] (fun s i => ∃ k : Nat, k ≤ 4 ∧ i = .int .i64 k ∧ s = .int .u32 ((match k with | 0 => 0 | 1 => x0 | 2 => x0 * 256 + x1 | 3 => (x0 * 256 + x1) * 256 + x2 | _ => ((x0 * 256 + x1) * 256 + x2) * 256 + x3 : Nat) : Int)) (fun _ i => 4 - (intOf i).toNat)
  case atStart => exact ⟨0, by omega, rfl, rfl⟩
  case round =>
    obtain ⟨k, hk, rfl, rfl⟩ := hrel
    have hk' : k = 0 ∨ k = 1 ∨ k = 2 ∨ k = 3 ∨ k = 4 := by omega
    rcases hk' with rfl | rfl | rfl | rfl | rfl
    · go_wp2_with fail
      go_round
      case rel => exact ⟨1, by omega, rfl, by rw [o0.out]; rfl⟩
      case measure => simp [intOf]
    · go_wp2_with fail
      go_round
      case rel => exact ⟨2, by omega, rfl, by rw [o1.out]; rfl⟩
      case measure => simp [intOf]
    · go_wp2_with fail
      go_round
      case rel => exact ⟨3, by omega, rfl, by rw [o2.out]; rfl⟩
      case measure => simp [intOf]
    · go_wp2_with fail
      go_round
      case rel => exact ⟨4, by omega, rfl, by rw [o3.out]; rfl⟩
      case measure => simp [intOf]
    · go_wp2_with fail
      go_ret
      exact ⟨rfl, rfl⟩
/-- how long the frame is with which bytes begin, or why there is none -/
def lenF (l : List Nat) : Int × Int :=
  if l.length < 9 then (0, 4) else if 1048576 < num4 l 0 then (0, 5) else if l.length < 9 + num4 l 0 then (0, 4) else (9 + (num4 l 0 : Int), 0)
theorem length_walk (a : Option Addr) (l : List Nat) (cap n : Nat) (w : World) (hr : Row w a l) (hn : l.length = n) (hc : n ≤ cap) (hcap : cap ≤ 9223372036854775807) :
    Calls Try.prog 22 #[.slice a n cap] w fun e w' => e = .returned (.tuple #[.int .i64 (lenF l).1, .int .i64 (lenF l).2]) ∧ w = w' := by
  by_cases h1 : n < 9
  · have e : lenF l = (0, 4) := by unfold lenF; rw [if_pos (by omega)]
    rw [e]
    have h1' : decide ((n : Int) < 9) = true := decide_eq_true (by omega)
    clear hr hn e
    go_enter Try.func22, Try.ntmps22
    go_wp2_with fail
    go_ret2
    exact ⟨rfl, rfl⟩
  have h1' : decide ((n : Int) < 9) = false := decide_eq_false (by omega)
  have G := Lib.hid (get_walk a l cap n 0 w hr hn (by omega) hc hcap)
  have hx : num4 l 0 < 4294967296 := numk_lt hr.1 0 4
  have hl : lenF l = if 1048576 < num4 l 0 then (0, 5) else if n < 9 + num4 l 0 then (0, 4) else (9 + (num4 l 0 : Int), 0) := by
    unfold lenF; rw [if_neg (by omega), hn]
  rw [hl]
  clear hr hn hl
  generalize num4 l 0 = x at *
  by_cases h2 : 1048576 < x
  · rw [if_pos h2]
    have h2' : decide (1048576 < (x : Int)) = true := decide_eq_true (by omega)
    go_enter Try.func22, Try.ntmps22
    go_wp2_with (go_at_call 23; refine G.out.mono ?_; rintro e w' ⟨rfl, rfl⟩)
    go_ret2
    exact ⟨rfl, rfl⟩
  rw [if_neg h2]
  have h2' : decide (1048576 < (x : Int)) = false := decide_eq_false (by omega)
  have hx2 : x ≤ 1048576 := by omega
  clear hx h2
  by_cases h3 : n < 9 + x
  · rw [if_pos h3]
    have h3' : decide ((n : Int) < 9 + (x : Int)) = true := decide_eq_true (by omega)
    go_enter Try.func22, Try.ntmps22
    go_wp2_with (go_at_call 23; refine G.out.mono ?_; rintro e w' ⟨rfl, rfl⟩)
    go_ret2
    exact ⟨rfl, rfl⟩
  · rw [if_neg h3]
    have h3' : decide ((n : Int) < 9 + (x : Int)) = false := decide_eq_false (by omega)
    go_enter Try.func22, Try.ntmps22
    go_wp2_with (go_at_call 23; refine G.out.mono ?_; rintro e w' ⟨rfl, rfl⟩)
    go_ret2
    exact ⟨rfl, rfl⟩
end Go.Proofs.Ytmmpcpdokgahcaa
