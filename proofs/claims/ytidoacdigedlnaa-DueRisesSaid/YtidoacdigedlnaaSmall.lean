/- Small functions of a state. -/
import Derived.Test.YtidoacdigedlnaaMem
set_option linter.unusedVariables false
set_option linter.unusedSimpArgs false
namespace Go.Proofs.Ytidoacdigedlnaa
open Go.RowKit

theorem running (S : Nat → Prop) (x : ST) (cs : List Value) (w : World) (h : SAt S w x cs) : Calls Try.prog 20 #[.agg cs.toArray] w fun e w' => e = .returned (.bool (x.status == 1)) ∧ Below w.heap.size w w' := by
  have hX := heap_alloc_new w (.cells cs.toArray 33)
  have hl := h.len
  have hlo : cs.toArray.size = 31 := by simp [hl]
  have hb : Below w.heap.size w (w.alloc (.cells cs.toArray 33)) := (Below.refl _ _).alloc (Nat.le_refl _) _
  obtain ⟨k0, k1, k2, k3, k4, k5, k6, k7, k13, k14, k15, k16, k17, k18, k19, k20, k21, k22, k30, _⟩ := h.cells
  have q1 : (w.alloc (.cells cs.toArray 33)).cell? ⟨w.heap.size, 1, none⟩ = some (.int .i64 x.status) := box_cell hX 1 _ (by simpa using k1)
  replace hb := Lib.hid hb
  clear h hX hl k0 k1 k2 k3 k4 k5 k6 k7 k13 k14 k15 k16 k17 k18 k19 k20 k21 k22 k30
  go_enter Try.func20, Try.ntmps20
  go_wp2_with fail
  go_ret
  exact ⟨rfl, hb.out⟩
def timeF (x : ST) (now : Int) : Int := max (min now 1099511627776) x.time
theorem time_ (S : Nat → Prop) (x : ST) (cs : List Value) (now : Int) (w : World) (h : SAt S w x cs) : Calls Try.prog 10 #[.agg cs.toArray, .int .i64 now] w fun e w' => e = .returned (.int .i64 (timeF x now)) ∧ Below w.heap.size w w' := by
  have hX := heap_alloc_new w (.cells cs.toArray 33)
  have hl := h.len
  have hlo : cs.toArray.size = 31 := by simp [hl]
  have hb : Below w.heap.size w (w.alloc (.cells cs.toArray 33)) := (Below.refl _ _).alloc (Nat.le_refl _) _
  obtain ⟨k0, k1, k2, k3, k4, k5, k6, k7, k13, k14, k15, k16, k17, k18, k19, k20, k21, k22, k30, _⟩ := h.cells
  have q3 : (w.alloc (.cells cs.toArray 33)).cell? ⟨w.heap.size, 3, none⟩ = some (.int .i64 x.time) := box_cell hX 3 _ (by simpa using k3)
  replace hb := Lib.hid hb
  clear h hX hl k0 k1 k2 k3 k4 k5 k6 k7 k13 k14 k15 k16 k17 k18 k19 k20 k21 k22 k30
  go_enter Try.func10, Try.ntmps10
  go_wp2_with fail
  all_goals
    go_ret
    refine ⟨ret_int ?_, hb.out⟩
    unfold timeF
    omega
def overB (x : ST) (t : Int) : Bool := decide (0 < x.deadline) && decide (x.deadline ≤ t)
theorem over (S : Nat → Prop) (x : ST) (cs : List Value) (t : Int) (w : World) (h : SAt S w x cs) : Calls Try.prog 21 #[.agg cs.toArray, .int .i64 t] w fun e w' => e = .returned (.bool (overB x t)) ∧ Below w.heap.size w w' := by
  have hX := heap_alloc_new w (.cells cs.toArray 33)
  have hl := h.len
  have hlo : cs.toArray.size = 31 := by simp [hl]
  have hb : Below w.heap.size w (w.alloc (.cells cs.toArray 33)) := (Below.refl _ _).alloc (Nat.le_refl _) _
  obtain ⟨k0, k1, k2, k3, k4, k5, k6, k7, k13, k14, k15, k16, k17, k18, k19, k20, k21, k22, k30, _⟩ := h.cells
  have q4 : (w.alloc (.cells cs.toArray 33)).cell? ⟨w.heap.size, 4, none⟩ = some (.int .i64 x.deadline) := box_cell hX 4 _ (by simpa using k4)
  replace hb := Lib.hid hb
  clear h hX hl k0 k1 k2 k3 k4 k5 k6 k7 k13 k14 k15 k16 k17 k18 k19 k20 k21 k22 k30
  cases h0 : decide (0 < x.deadline) with
  | true =>
    go_enter Try.func21, Try.ntmps21
    go_wp2_with fail
    go_ret
    exact ⟨by unfold overB; rw [h0]; rfl, hb.out⟩
  | false =>
    go_enter Try.func21, Try.ntmps21
    go_wp2_with fail
    go_ret
    exact ⟨by unfold overB; rw [h0]; rfl, hb.out⟩
def lostB (x : ST) (t : Int) : Bool := (x.task.state == 2) && decide (x.task.due ≤ t)
theorem lost (S : Nat → Prop) (x : ST) (cs : List Value) (t : Int) (w : World) (h : SAt S w x cs) : Calls Try.prog 22 #[.agg cs.toArray, .int .i64 t] w fun e w' => e = .returned (.bool (lostB x t)) ∧ Below w.heap.size w w' := by
  have hX := heap_alloc_new w (.cells cs.toArray 33)
  have hl := h.len
  have hlo : cs.toArray.size = 31 := by simp [hl]
  have hb : Below w.heap.size w (w.alloc (.cells cs.toArray 33)) := (Below.refl _ _).alloc (Nat.le_refl _) _
  obtain ⟨k0, k1, k2, k3, k4, k5, k6, k7, k13, k14, k15, k16, k17, k18, k19, k20, k21, k22, k30, _⟩ := h.cells
  have q16 : (w.alloc (.cells cs.toArray 33)).cell? ⟨w.heap.size, 16, none⟩ = some (.int .i64 x.task.state) := box_cell hX 16 _ (by simpa using k16)
  have q18 : (w.alloc (.cells cs.toArray 33)).cell? ⟨w.heap.size, 18, none⟩ = some (.int .i64 x.task.due) := box_cell hX 18 _ (by simpa using k18)
  replace hb := Lib.hid hb
  clear h hX hl k0 k1 k2 k3 k4 k5 k6 k7 k13 k14 k15 k16 k17 k18 k19 k20 k21 k22 k30
  cases h0 : (x.task.state == 2) with
  | true =>
    go_enter Try.func22, Try.ntmps22
    go_wp2_with fail
    go_ret
    exact ⟨by unfold lostB; rw [h0]; rfl, hb.out⟩
  | false =>
    go_enter Try.func22, Try.ntmps22
    go_wp2_with fail
    go_ret
    exact ⟨by unfold lostB; rw [h0]; rfl, hb.out⟩
end Go.Proofs.Ytidoacdigedlnaa
