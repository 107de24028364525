/- The policy: how long an attempt waits. -/
import Derived.Test.YtidoacdigedlnaaFWalks3
import Derived.Test.YtidoacdigedlnaaFWalks2
import Derived.Deep.RegionHeld3
import Derived.Deep.DrawnRows
set_option linter.unusedVariables false
set_option linter.unusedSimpArgs false
namespace Go.Proofs.Ytidoacdigedlnaa
open Go.RowKit FM Ieee

def delB (n : Int) : Bool := decide (0 ≤ n) && decide (n ≤ 1073741824)
theorem delay (n : Int) (w : World) : Calls Try.prog 71 #[.int .i64 n] w fun e w' => e = .returned (.bool (delB n)) ∧ w = w' := by
  cases h0 : decide (0 ≤ n) with
  | true =>
    go_enter Try.func71, Try.ntmps71
    go_wp2_with fail
    go_ret
    exact ⟨by unfold delB; rw [h0]; rfl, rfl⟩
  | false =>
    go_enter Try.func71, Try.ntmps71
    go_wp2_with fail
    go_ret
    exact ⟨by unfold delB; rw [h0]; rfl, rfl⟩
theorem coef (n : Nat) (h : n < 18446744073709551616) (w : World) : ∃ b, Calls Try.prog 72 #[.int .u64 (n : Int)] w fun e w' => e = .returned (.bool b) ∧ w = w' := by
  have C := Lib.hid (canon n w h)
  have K := Lib.hid (kind n w h)
  cases h0 : (((cN n : Nat) : Int) == (n : Int)) with
  | false =>
    refine ⟨false, ?_⟩
    go_enter Try.func72, Try.ntmps72
    go_wp2_with (go_at_call 83; refine C.out.mono ?_; rintro e w' ⟨rfl, rfl⟩)
    go_ret
    exact ⟨rfl, rfl⟩
  | true =>
    refine ⟨(kN n != 1), ?_⟩
    go_enter Try.func72, Try.ntmps72
    go_wp2_with (first | (go_at_call 83; refine C.out.mono ?_; rintro e w' ⟨rfl, rfl⟩) | (go_at_call 84; refine K.out.mono ?_; rintro e w' ⟨rfl, rfl⟩))
    go_ret
    exact ⟨rfl, rfl⟩
def PolAt (first : Int) (cf : Nat) (most : Int) : Array Value := #[.int .i64 first, .int .u64 (cf : Int), .int .i64 most]
attribute [local go_sem ↓] Go.wp_at_zero Go.wp_at_succ
theorem check (first : Int) (cf : Nat) (most : Int) (h : cf < 18446744073709551616) (w : World) : ∃ n : Int, (n = 0 → delB first = true ∧ delB most = true) ∧ Calls Try.prog 52 #[.agg #[.int .i64 first, .int .u64 (cf : Int), .int .i64 most]] w fun e w' => e = .returned (.int .i64 n) ∧ Below w.heap.size w w' := by
  have hb : Below w.heap.size w (w.alloc (.cells #[.int .i64 first, .int .u64 (cf : Int), .int .i64 most] 27)) := (Below.refl _ _).alloc (Nat.le_refl _) _
  replace hb := Lib.hid hb
  cases h0 : delB first with
  | false =>
    refine ⟨1, (fun e => by cases e), ?_⟩
    go_enter Try.func52, Try.ntmps52
    go_wp2_with (go_at_call 71; refine (delay _ _).mono ?_; rw [h0]; rintro e w' ⟨rfl, rfl⟩)
    go_ret
    exact ⟨rfl, hb.out⟩
  | true =>
    cases h1 : delB most with
    | false =>
      refine ⟨1, (fun e => by cases e), ?_⟩
      go_enter Try.func52, Try.ntmps52
      go_wp2_with (go_at_call 71; refine (delay _ _).mono ?_; (first | rw [h0] | rw [h1]); rintro e w' ⟨rfl, rfl⟩)
      go_ret
      exact ⟨rfl, hb.out⟩
    | true =>
      obtain ⟨b, hc⟩ := coef cf h (w.alloc (.cells #[.int .i64 first, .int .u64 (cf : Int), .int .i64 most] 27))
      replace hc := Lib.hid hc
      cases b with
      | false =>
        refine ⟨1, (fun e => by cases e), ?_⟩
        go_enter Try.func52, Try.ntmps52
        go_wp2_with (first | (go_at_call 71; refine (delay _ _).mono ?_; (first | rw [h0] | rw [h1]); rintro e w' ⟨rfl, rfl⟩) | (go_at_call 72; refine hc.out.mono ?_; rintro e w' ⟨rfl, rfl⟩))
        go_ret
        exact ⟨rfl, hb.out⟩
      | true =>
        refine ⟨0, fun _ => ⟨rfl, rfl⟩, ?_⟩
        go_enter Try.func52, Try.ntmps52
        go_wp2_with (first | (go_at_call 71; refine (delay _ _).mono ?_; (first | rw [h0] | rw [h1]); rintro e w' ⟨rfl, rfl⟩) | (go_at_call 72; refine hc.out.mono ?_; rintro e w' ⟨rfl, rfl⟩))
        go_ret
        exact ⟨rfl, hb.out⟩
end Go.Proofs.Ytidoacdigedlnaa
