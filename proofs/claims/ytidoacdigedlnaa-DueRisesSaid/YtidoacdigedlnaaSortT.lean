/- slices.SortStableFunc and slices.DeleteFunc of timers. -/
import Derived.Test.YtidoacdigedlnaaISort
set_option linter.unusedVariables false
set_option linter.unusedSimpArgs false
namespace Go.Proofs.Ytidoacdigedlnaa
open Go.RowKit

theorem isort0 (a : Option Addr) (cap : Nat) (w : World) :
    Calls Try.prog 76 #[.slice a 0 cap, .int .i64 0, .int .i64 (0 : Nat), .func (.func 39) #[] #[]] w fun e w' => e = .returned (.tuple #[]) ∧ Below w.heap.size w w' := by
  go_enter Try.func76, Try.ntmps76
  go_wp2_with fail
  go_loopw [8] (fun i wr => i = .int .i64 1 ∧ w = wr) (fun i _ => 0)
  case atStart => exact ⟨rfl, rfl⟩
  case round =>
    obtain ⟨rfl, rfl⟩ := hrel
    go_wp2_with fail
    go_end0
    exact ⟨rfl, Below.refl _ _⟩
theorem sortT (b : Nat) (a : Option Addr) (n cap : Nat) (l : List TM) (w : World) (hbw : b ≤ w.heap.size) (ht : TR b w a l) (hn : l.length = n) (h19 : n ≤ 19) :
    Calls Try.prog 38 #[.slice a n cap, .func (.func 39) #[] #[]] w fun e w' => e = .returned (.tuple #[]) ∧ TR b w' a (ins l) ∧ Below b w w' := by
  have h1 : Calls Try.prog 76 #[.slice a n cap, .int .i64 0, .int .i64 n, .func (.func 39) #[] #[]] w fun e w' => e = .returned (.tuple #[]) ∧ TR b w' a (ins l) ∧ Below b w w' := by
    by_cases hl : l = []
    · subst hl
      subst hn
      refine (isort0 a cap w).mono ?_
      rintro e w' ⟨rfl, hb⟩
      exact ⟨rfl, fun h => absurd (List.length_eq_zero_iff.1 (by rw [ins_len]; rfl)) h, hb.mono hbw⟩
    · obtain ⟨g, off, g1, g2, rfl, g3⟩ := ht hl
      refine (isort g off cap n l w g3 g2 hn (by omega)).mono ?_
      rintro e w' ⟨rfl, h2, h3⟩
      exact ⟨rfl, fun _ => ⟨g, off, g1, Nat.lt_of_lt_of_le g2 h3.size, rfl, h2⟩, h3.mono g1⟩
  have h2 : Calls Try.prog 57 #[.slice a n cap, .int .i64 n, .func (.func 39) #[] #[]] w fun e w' => e = .returned (.tuple #[]) ∧ TR b w' a (ins l) ∧ Below b w w' := by
    clear ht hbw
    replace hn := Lib.hid hn
    replace h1 := Lib.hid h1
    have q1 : decide ((20 : Int) ≤ (n : Int)) = false := decide_eq_false (by omega)
    have q2 : ¬ (20 : Int) < (n : Int) := by omega
    have q3 : ¬ (20 : Int) ≤ (n : Int) := by omega
    go_enter Try.func57, Try.ntmps57
    go_wp2_with fail
    go_loopw [7, 8] (fun s7 s8 wr => s7 = .int .i64 0 ∧ s8 = .int .i64 20 ∧ w = wr) (fun _ _ _ => 0)
    case atStart => exact ⟨rfl, rfl, rfl⟩
    case round =>
      obtain ⟨rfl, rfl, rfl⟩ := hrel
      go_wp2_with (go_at_call 76; refine h1.out.mono ?_; rintro e w1 ⟨rfl, hp⟩)
      replace hp := Lib.hid hp
      clear h1
      go_wp2_with fail
      go_loopw [6] (fun s6 wr => s6 = .int .i64 20 ∧ wr = w1) (fun _ _ => 0)
      case atStart => exact ⟨rfl, rfl⟩
      case round =>
        obtain ⟨rfl, rfl⟩ := hrel
        go_wp2_with fail
        go_end0
        exact ⟨rfl, hp.out⟩
  clear h1 ht hbw
  replace hn := Lib.hid hn
  replace h2 := Lib.hid h2
  go_enter Try.func38, Try.ntmps38
  go_wp2_with (go_at_call 57; refine h2.out.mono ?_; rintro e w1 ⟨rfl, hp⟩)
  replace hp := Lib.hid hp
  clear h2
  go_wp2_with fail
  go_end0
  exact ⟨rfl, hp.out⟩
end Go.Proofs.Ytidoacdigedlnaa
