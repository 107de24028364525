/- usherref13.Check, usherref16.task, usherref05.Same of any two. -/
import Derived.Test.YtidoacdigedlnaaCan4
set_option linter.unusedVariables false
set_option linter.unusedSimpArgs false
namespace Go.Proofs.Ytidoacdigedlnaa
open Go.RowKit FM Ieee

def SomeI (w : World) (e : Ending) (w' : World) : Prop := ∃ q : Int, e = .returned (.int .i64 q) ∧ Below w.heap.size w w'
def SomeB (w : World) (e : Ending) (w' : World) : Prop := ∃ q : Bool, e = .returned (.bool q) ∧ Below w.heap.size w w'
set_option maxRecDepth 100000 in
set_option maxHeartbeats 1600000 in
theorem check13 (first : Int) (coef : Nat) (most : Int) (w : World) : Calls Try.prog 15 #[.agg #[.int .i64 first, .int .u64 (coef : Int), .int .i64 most]] w (SomeI w) := by
  have hb : Below w.heap.size w (w.alloc (.cells #[.int .i64 first, .int .u64 (coef : Int), .int .i64 most] 27)) := (Below.refl _ _).alloc (Nat.le_refl _) _
  have hX := heap_alloc_new w (.cells #[.int .i64 first, .int .u64 (coef : Int), .int .i64 most] 27)
  have c0 : (w.alloc (.cells #[.int .i64 first, .int .u64 (coef : Int), .int .i64 most] 27)).cell? ⟨w.heap.size, 0, none⟩ = some (.int .i64 first) := box_cell hX 0 _ rfl
  have c1 : (w.alloc (.cells #[.int .i64 first, .int .u64 (coef : Int), .int .i64 most] 27)).cell? ⟨w.heap.size, 1, none⟩ = some (.int .u64 (coef : Int)) := box_cell hX 1 _ rfl
  have c2 : (w.alloc (.cells #[.int .i64 first, .int .u64 (coef : Int), .int .i64 most] 27)).cell? ⟨w.heap.size, 2, none⟩ = some (.int .i64 most) := box_cell hX 2 _ rfl
  have RC := fun w => rcanonI (coef : Int) w
  generalize cI (coef : Int) = c at RC
  have RK := fun w => (rkind coef w).mono (fun _ _ h => (⟨h.1, h.2.symm⟩ : _ ∧ _ = w))
  generalize kN coef = kk at RK
  replace RC := Lib.hid RC
  replace RK := Lib.hid RK
  replace hb := Lib.hid hb
  clear hX
  by_cases t1 : first < 0
  · skip
    go_enter Try.func15, Try.ntmps15
    go_wp2_with fail
    go_quiet ((first | (go_at_call 31; exact Calls.quiet_of_same (RC.out _)) | (go_at_call 32; exact Calls.quiet_of_same (RK.out _))))
    go_wp2_with fail
    go_ret
    exact ⟨_, rfl, below_drewN hb.out _⟩
  have t1d : decide (first < 0) = false := decide_eq_false t1
  clear t1
  by_cases t2 : (1073741824 : Int) < first
  · skip
    go_enter Try.func15, Try.ntmps15
    go_wp2_with fail
    go_quiet ((first | (go_at_call 31; exact Calls.quiet_of_same (RC.out _)) | (go_at_call 32; exact Calls.quiet_of_same (RK.out _))))
    go_wp2_with fail
    go_ret
    exact ⟨_, rfl, below_drewN hb.out _⟩
  have t2d : decide ((1073741824 : Int) < first) = false := decide_eq_false t2
  clear t2
  by_cases t3 : most < 0
  · skip
    go_enter Try.func15, Try.ntmps15
    go_wp2_with fail
    go_quiet ((first | (go_at_call 31; exact Calls.quiet_of_same (RC.out _)) | (go_at_call 32; exact Calls.quiet_of_same (RK.out _))))
    go_wp2_with fail
    go_ret
    exact ⟨_, rfl, below_drewN hb.out _⟩
  have t3d : decide (most < 0) = false := decide_eq_false t3
  clear t3
  by_cases t4 : (1073741824 : Int) < most
  · skip
    go_enter Try.func15, Try.ntmps15
    go_wp2_with fail
    go_quiet ((first | (go_at_call 31; exact Calls.quiet_of_same (RC.out _)) | (go_at_call 32; exact Calls.quiet_of_same (RK.out _))))
    go_wp2_with fail
    go_ret
    exact ⟨_, rfl, below_drewN hb.out _⟩
  have t4d : decide ((1073741824 : Int) < most) = false := decide_eq_false t4
  clear t4
  cases t5 : ((coef : Int) == c) with
  | false =>
    have t5n : ((coef : Int) != c) = true := by rw [bne, t5]; rfl
    go_enter Try.func15, Try.ntmps15
    go_wp2_with fail
    go_quiet ((first | (go_at_call 31; exact Calls.quiet_of_same (RC.out _)) | (go_at_call 32; exact Calls.quiet_of_same (RK.out _))))
    go_wp2_with fail
    go_ret
    exact ⟨_, rfl, below_drewN hb.out _⟩
  | true =>
    have t5n : ((coef : Int) != c) = false := by rw [bne, t5]; rfl
    cases t6 : (kk == 1) with
    | false =>
      go_enter Try.func15, Try.ntmps15
      go_wp2_with fail
      go_quiet ((first | (go_at_call 31; exact Calls.quiet_of_same (RC.out _)) | (go_at_call 32; exact Calls.quiet_of_same (RK.out _))))
      go_wp2_with fail
      go_ret
      exact ⟨_, rfl, below_drewN hb.out _⟩
    | true =>
      go_enter Try.func15, Try.ntmps15
      go_wp2_with fail
      go_quiet ((first | (go_at_call 31; exact Calls.quiet_of_same (RC.out _)) | (go_at_call 32; exact Calls.quiet_of_same (RK.out _))))
      go_wp2_with fail
      go_ret
      exact ⟨_, rfl, below_drewN hb.out _⟩
end Go.Proofs.Ytidoacdigedlnaa
