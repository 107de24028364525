/- usherref16.task and update: some Boolean. -/
import Derived.Test.YtidoacdigedlnaaCan6
set_option linter.unusedVariables false
set_option linter.unusedSimpArgs false
namespace Go.Proofs.Ytidoacdigedlnaa
open Go.RowKit

def zv : VT := .mk 0 0 0 ByteArray.empty []
theorem zv_at (S : Nat → Prop) (w : World) : VAt S w zv [.int .i64 0, .int .i64 0, .int .u64 0, .string ByteArray.empty, .slice none 0 0] := VAt_mk.2 ⟨none, 0, rfl, Sl.nil _ _ _ _ _, Nat.le_refl _, by decide, by decide⟩
set_option maxRecDepth 100000 in
set_option maxHeartbeats 1600000 in
theorem task_ (x : ST) (cs : List Value) (w : World) (h : SAt (Live w) w x cs) : Calls Try.prog 16 #[.agg cs.toArray] w (SomeB w) := by
  have hl := h.len
  have hlo : cs.toArray.size = 31 := by simp [hl]
  obtain ⟨k0, k1, k2, k3, k4, k5, k6, k7, k13, k14, k15, k16, k17, k18, k19, k20, k21, k22, k30, _⟩ := h.cells
  generalize x.task.state = ts at *
  generalize x.task.attempt = ta at *
  generalize x.task.due = td at *
  generalize x.task.event = te at *
  generalize x.task.seen = tn at *
  generalize x.count = cn at *
  have hX := heap_alloc_new w (.cells cs.toArray 33)
  have q16 : (w.alloc (.cells cs.toArray 33)).cell? ⟨w.heap.size, 16, none⟩ = some (.int .i64 ts) := box_cell hX 16 _ (by simpa using k16)
  have q17 : (w.alloc (.cells cs.toArray 33)).cell? ⟨w.heap.size, 17, none⟩ = some (.int .i64 ta) := box_cell hX 17 _ (by simpa using k17)
  have q18 : (w.alloc (.cells cs.toArray 33)).cell? ⟨w.heap.size, 18, none⟩ = some (.int .i64 td) := box_cell hX 18 _ (by simpa using k18)
  have q19 : (w.alloc (.cells cs.toArray 33)).cell? ⟨w.heap.size, 19, none⟩ = some (.int .i64 te) := box_cell hX 19 _ (by simpa using k19)
  have q20 : (w.alloc (.cells cs.toArray 33)).cell? ⟨w.heap.size, 20, none⟩ = some (.int .i64 tn) := box_cell hX 20 _ (by simpa using k20)
  obtain ⟨W, hW⟩ : ∃ W, W = (w.alloc (.cells cs.toArray 33)).alloc (.cells #[.int .i64 ts, .int .i64 ta, .int .i64 td, .int .i64 te, .int .i64 tn] 29) := ⟨_, rfl⟩
  have e1 : W.heap[w.heap.size]? = some (.cells cs.toArray 33 (0, 0)) := by rw [hW]; exact heap_alloc2_old w _ _
  have e2 : W.heap[w.heap.size + 1]? = some (.cells #[.int .i64 ts, .int .i64 ta, .int .i64 td, .int .i64 te, .int .i64 tn] 29 (0, 0)) := by rw [hW]; exact heap_alloc2_new w _ _
  have e3 : Below w.heap.size w W := by rw [hW]; exact ((Below.refl _ _).alloc (Nat.le_refl _) _).alloc (by simp) _
  have r2 : W.cell? ⟨w.heap.size, 2, none⟩ = some (.int .i64 cn) := box_cell e1 2 _ (by simpa using k2)
  have s0 : W.cell? ⟨w.heap.size + 1, 0, none⟩ = some (.int .i64 ts) := box_cell e2 0 _ rfl
  have s1 : W.cell? ⟨w.heap.size + 1, 1, none⟩ = some (.int .i64 ta) := box_cell e2 1 _ rfl
  have s2 : W.cell? ⟨w.heap.size + 1, 2, none⟩ = some (.int .i64 td) := box_cell e2 2 _ rfl
  have s3 : W.cell? ⟨w.heap.size + 1, 3, none⟩ = some (.int .i64 te) := box_cell e2 3 _ rfl
  have s4 : W.cell? ⟨w.heap.size + 1, 4, none⟩ = some (.int .i64 tn) := box_cell e2 4 _ rfl
  replace hW := Lib.hid hW
  replace e3 := Lib.hid e3
  clear h hX hl e1 e2 k0 k1 k2 k3 k4 k5 k6 k7 k13 k14 k15 k16 k17 k18 k19 k20 k21 k22 k30
  go_enter Try.func16, Try.ntmps16
  go_upto_region 2 with (fail)
  rw [← hW.out]
  clear q16 q17 q18 q19 q20
  go_wp2_with (go_at_call 12; refine (within _ _ _ _).mono ?_; rintro e w1 ⟨rfl, rfl⟩)
  all_goals (try subst_vars)
  all_goals
    go_ret
    exact ⟨_, rfl, e3.out⟩
set_option maxRecDepth 100000 in
set_option maxHeartbeats 1600000 in
theorem update_ (x : UT) (cs : List Value) (w : World) (h : UAt (Live w) w x cs) : Calls Try.prog 33 #[.agg cs.toArray] w (SomeB w) := by
  obtain ⟨A, B, rfl, hA, hB⟩ := h
  obtain ⟨a0, a1, a2, a3, a4, a5, a6, rfl⟩ := hA.shape
  obtain ⟨b0, b1, b2, b3, b4, b5, b6, rfl⟩ := hB.shape
  obtain ⟨W, hW⟩ : ∃ W, W = w.alloc (.cells #[.string x.name, .int .i64 a0, .int .i64 a1, .int .u64 a2, .string a3, .slice a4 a5 a6, .int .i64 x.stage, .int .i64 b0, .int .i64 b1, .int .u64 b2, .string b3, .slice b4 b5 b6] 70) := ⟨_, rfl⟩
  have e1 : W.heap[w.heap.size]? = some (.cells #[.string x.name, .int .i64 a0, .int .i64 a1, .int .u64 a2, .string a3, .slice a4 a5 a6, .int .i64 x.stage, .int .i64 b0, .int .i64 b1, .int .u64 b2, .string b3, .slice b4 b5 b6] 70 (0, 0)) := by rw [hW]; exact heap_alloc_new w _
  have e3 : Below w.heap.size w W := by rw [hW]; exact ((Below.refl _ _).alloc (Nat.le_refl _) _)
  have e4 : W.heap.size = w.heap.size + 1 := by rw [hW]; simp
  have kc : ∀ w', Below (w.heap.size + 1) W w' → (w'.cell? ⟨w.heap.size, 6, none⟩ = some (.int .i64 x.stage) ∧ w'.cell? ⟨w.heap.size, 7, none⟩ = some (.int .i64 b0) ∧ w'.cell? ⟨w.heap.size, 8, none⟩ = some (.int .i64 b1) ∧ w'.cell? ⟨w.heap.size, 9, none⟩ = some (.int .u64 b2) ∧ w'.cell? ⟨w.heap.size, 10, none⟩ = some (.string b3) ∧ w'.cell? ⟨w.heap.size, 11, none⟩ = some (.slice b4 b5 b6)) := fun w' hb' => by
    have e : w'.heap[w.heap.size]? = some (.cells #[.string x.name, .int .i64 a0, .int .i64 a1, .int .u64 a2, .string a3, .slice a4 a5 a6, .int .i64 x.stage, .int .i64 b0, .int .i64 b1, .int .u64 b2, .string b3, .slice b4 b5 b6] 70 (0, 0)) := (hb'.block _ (Nat.lt_succ_self _)).trans e1
    exact ⟨box_cell e 6 _ rfl, box_cell e 7 _ rfl, box_cell e 8 _ rfl, box_cell e 9 _ rfl, box_cell e 10 _ rfl, box_cell e 11 _ rfl⟩
  have r0 : W.cell? ⟨w.heap.size, 0, none⟩ = some (.string x.name) := box_cell e1 0 _ rfl
  have r1 : W.cell? ⟨w.heap.size, 1, none⟩ = some (.int .i64 a0) := box_cell e1 1 _ rfl
  have r2 : W.cell? ⟨w.heap.size, 2, none⟩ = some (.int .i64 a1) := box_cell e1 2 _ rfl
  have r3 : W.cell? ⟨w.heap.size, 3, none⟩ = some (.int .u64 a2) := box_cell e1 3 _ rfl
  have r4 : W.cell? ⟨w.heap.size, 4, none⟩ = some (.string a3) := box_cell e1 4 _ rfl
  have r5 : W.cell? ⟨w.heap.size, 5, none⟩ = some (.slice a4 a5 a6) := box_cell e1 5 _ rfl
  have CA := check05 x.value _ W (hA.below e3)
  have hB' : ∀ w', Below w.heap.size w w' → VAt (Live w') w' x.outcome [.int .i64 b0, .int .i64 b1, .int .u64 b2, .string b3, .slice b4 b5 b6] := fun w' hb => hB.below hb
  have NM := name_ x.name W
  show Calls Try.prog 33 #[.agg #[.string x.name, .int .i64 a0, .int .i64 a1, .int .u64 a2, .string a3, .slice a4 a5 a6, .int .i64 x.stage, .int .i64 b0, .int .i64 b1, .int .u64 b2, .string b3, .slice b4 b5 b6]] w (SomeB w)
  replace hW := Lib.hid hW
  replace e1 := Lib.hid e1
  replace e3 := Lib.hid e3
  replace e4 := Lib.hid e4
  replace kc := Lib.hid kc
  replace CA := Lib.hid CA
  replace hB' := Lib.hid hB'
  generalize nameB x.name = nb at NM
  replace NM := Lib.hid NM
  clear hA hB
  go_enter Try.func33, Try.ntmps33
  go_upto_region 1 with (fail)
  rw [← hW.out]
  cases nb with
  | false =>
    go_wp2_with (go_at_call 13; refine NM.out.mono ?_; rintro e w1 ⟨rfl, rfl⟩)
    go_ret
    exact ⟨false, rfl, e3.out⟩
  | true =>
    go_wp2_with (first | (go_at_call 13; refine NM.out.mono ?_; rintro e w1 ⟨rfl, rfl⟩) | (go_at_call 14; refine CA.out.mono ?_))
    rintro e w2 ⟨q, rfl, _, hb2⟩
    have hb2' := hb2.mono (Nat.le_of_eq e4.out.symm)
    have hz := e3.out.trans (hb2'.mono (Nat.le_succ _))
    obtain ⟨s6, s7, s8, s9, s10, s11⟩ := kc.out w2 hb2'
    have SM := same05 x.outcome zv _ _ w2 (hB'.out w2 hz) (zv_at _ _)
    have CB := check05 x.outcome _ w2 (hB'.out w2 hz)
    replace hz := Lib.hid hz
    replace SM := Lib.hid SM
    replace CB := Lib.hid CB
    clear hb2 hb2' r0 r1 r2 r3 r4 r5 NM CA
    cases z1 : (q == 0) with
    | false =>
      have z1n : (q != 0) = true := by rw [bne, z1]; rfl
      go_wp2_with fail
      go_ret
      exact ⟨false, rfl, hz.out⟩
    | true =>
      have z1n : (q != 0) = false := by rw [bne, z1]; rfl
      cases z2 : (x.stage == 1) with
      | true =>
        go_wp2_with (go_at_call 18; refine SM.out.mono ?_; rintro e w3 ⟨q3, rfl, hb3⟩)
        go_ret
        exact ⟨_, rfl, hz.out.trans (hb3.mono hz.out.size)⟩
      | false =>
        cases z3 : (x.stage == 2) with
        | true =>
          go_wp2_with (go_at_call 14; refine CB.out.mono ?_; rintro e w3 ⟨q3, rfl, _, hb3⟩)
          go_ret
          exact ⟨_, rfl, hz.out.trans (hb3.mono hz.out.size)⟩
        | false =>
          go_wp2_with fail
          go_ret
          exact ⟨_, rfl, hz.out⟩
end Go.Proofs.Ytidoacdigedlnaa
