/- The walks of crc and of its reference: sums. -/
import Derived.Test.YtmmpcpdokgahcaaWalks
import Derived.Lib.SlBytesConst
namespace Go.Proofs.Ytmmpcpdokgahcaa
open Go.RowKit CM

theorem more (s : Nat) (a : Option Addr) (l : List Nat) (cap n : Nat) (w : World) (hs : s < 4294967296) (hr : Row w a l) (hn : l.length = n) :
    Calls Try.prog 27 #[.int .u32 (s : Int), .slice a n cap] w fun e w' => e = .returned (.int .u32 ((CM.more s l : Nat) : Int)) ∧ Below w.heap.size w w' := by
  have e1 := w_not s hs
  have e2 := w_not _ (run_lt l (flip s) (flip_lt s hs) hr.1)
  have R := Lib.hid (run (flip s) a l cap w (flip_lt s hs) hr)
  rw [hn] at R
  have e3 : CM.more s l = flip (CM.run (flip s) l) := rfl
  rw [e3]
  clear hr hn e3
  generalize flip (CM.run (flip s) l) = r at *
  generalize CM.run (flip s) l = q at *
  generalize flip s = f at *
  go_enter Try.func27, Try.ntmps27
  go_wp2_with fail
  refine R.out.mono ?_
  rintro e w1 ⟨rfl, hb⟩
  have hb := Lib.hid hb
  go_wp2_with fail
  go_ret
  exact ⟨rfl, hb.out⟩
theorem sum (a : Option Addr) (l : List Nat) (cap n : Nat) (w : World) (hr : Row w a l) (hn : l.length = n) :
    Calls Try.prog 19 #[.slice a n cap] w fun e w' => e = .returned (.int .u32 ((CM.more 0 l : Nat) : Int)) ∧ Below w.heap.size w w' := by
  have R := Lib.hid (more 0 a l cap n w (by decide) hr hn)
  clear hr hn
  generalize CM.more 0 l = r at *
  go_enter Try.func19, Try.ntmps19
  go_wp2_with fail
  refine R.out.mono ?_
  rintro e w1 ⟨rfl, hb⟩
  have hb := Lib.hid hb
  go_wp2_with fail
  go_ret
  exact ⟨rfl, hb.out⟩
theorem rmore (s : Nat) (a : Option Addr) (l : List Nat) (cap n : Nat) (w : World) (hs : s < 4294967296) (hr : Row w a l) (hL : l.length = n) :
    Calls Try.prog 30 #[.int .u32 (s : Int), .slice a n cap] w fun e w' => e = .returned (.int .u32 ((CM.more s l : Nat) : Int)) ∧ w = w' := by
  have e1 : bits .xor .u32 (s : Int) 4294967295 = ((flip s : Nat) : Int) := w_xor s 4294967295 hs (by decide)
  have hf := flip_lt s hs
  have e3 : CM.more s l = flip (CM.run (flip s) l) := rfl
  rw [e3]
  clear e3
  generalize flip s = f at *
  have hn := hr.2.1
  rw [hL] at hn
  have HL := Lib.hid hL
  have HR := Lib.hid hr
  clear hL hr
  go_enter Try.func30, Try.ntmps30
  go_wp2_with fail
  go_loop [0, 5] (fun v i => ∃ k : Nat, k ≤ n ∧ i = .int .i64 k ∧ v = .int .u32 ((CM.run f (l.take k) : Nat) : Int)) (fun _ i => n - (intOf i).toNat)
  case atStart => exact ⟨0, Nat.zero_le _, rfl, rfl⟩
  case round =>
    obtain ⟨k, hk, rfl, rfl⟩ := hrel
    by_cases hlt : k < n
    · obtain ⟨b, off, ha, hc⟩ : ∃ b off, a = some ⟨b, off, none⟩ ∧ w.cell? ⟨b, off + k, none⟩ = some (.int .u8 ((l.getD k 0 : Nat) : Int)) := by
        rcases HR.out.2.2 with h | ⟨b, off, ha, hc⟩
        · have := HL.out; rw [h] at this; simp at this; omega
        · exact ⟨b, off, ha, hc k (by have := HL.out; omega)⟩
      subst ha
      have hv : CM.run f (l.take k) < 4294967296 := run_lt _ _ hf fun c hc => HR.out.1 c (List.mem_of_mem_take hc)
      have hst := run_step f l k (by have := HL.out; omega)
      have hcl : l.getD k 0 < 256 := by
        have hkl : k < l.length := by have := HL.out; omega
        rw [List.getD_eq_getElem?_getD, List.getElem?_eq_getElem hkl]; exact HR.out.1 _ (List.getElem_mem hkl)
      have ex := w_xor (CM.run f (l.take k)) (l.getD k 0) hv (by omega)
      have hx : CM.run f (l.take k) ^^^ l.getD k 0 < 4294967296 := Nat.xor_lt_two_pow (n := 32) hv (by omega)
      generalize CM.run f (l.take k) ^^^ l.getD k 0 = x at *
      generalize CM.run f (l.take k) = v at *
      generalize l.getD k 0 = c at *
      have hst := Lib.hid hst
      have hx := Lib.hid hx
      have hlt' := Lib.hid hlt
      go_wp2_with fail
      go_loop [0, 6] (fun s i => ∃ m : Nat, m ≤ 8 ∧ i = .int .i64 m ∧ s = .int .u32 ((bitn m x : Nat) : Int)) (fun _ i => 8 - (intOf i).toNat)
      case atStart => exact ⟨0, by omega, rfl, rfl⟩
      case round =>
        obtain ⟨m, hm, rfl, rfl⟩ := hrel
        by_cases hl2 : m < 8
        · have B := Lib.hid (fun w => rbit (bitn m x) w (bitn_lt m x hx.out))
          rw [← bitn_succ] at B
          go_wp2_with (first | (go_at_call 32; refine (B.out _).mono ?_; rintro e w' ⟨rfl, rfl⟩))
          go_round
          case rel => exact ⟨m + 1, by omega, by go_num, rfl⟩
          case measure => simp [intOf]; omega
        · obtain rfl : m = 8 := by omega
          go_wp2_with fail
          go_round
          case rel => exact ⟨k + 1, by omega, by go_num, by rw [hst.out]⟩
          case measure => simp [intOf]; omega
    · obtain rfl : k = n := by omega
      rw [List.take_of_length_le (by have := HL.out; omega)]
      have e2 : bits .xor .u32 ((CM.run f l : Nat) : Int) 4294967295 = ((flip (CM.run f l) : Nat) : Int) := w_xor _ 4294967295 (run_lt l f hf HR.out.1) (by decide)
      go_wp2_with fail
      go_ret
      exact ⟨rfl, rfl⟩
theorem rsum (a : Option Addr) (l : List Nat) (cap n : Nat) (w : World) (hr : Row w a l) (hn : l.length = n) :
    Calls Try.prog 28 #[.slice a n cap] w fun e w' => e = .returned (.int .u32 ((CM.more 0 l : Nat) : Int)) ∧ w = w' := by
  have R := Lib.hid (rmore 0 a l cap n w (by decide) hr hn)
  clear hr hn
  generalize CM.more 0 l = r at *
  go_enter Try.func28, Try.ntmps28
  go_wp2_with fail
  refine R.out.mono ?_
  rintro e w1 ⟨rfl, rfl⟩
  go_wp2_with fail
  go_ret
  exact ⟨rfl, rfl⟩
end Go.Proofs.Ytmmpcpdokgahcaa
