/- over: a wait is ended by a value. -/
import Derived.Test.YtncmjkaclfcbmaaPred
set_option linter.unusedVariables false
namespace Go.Proofs.Ytncmjkaclfcbmaa
open Go.RowKit

theorem gb_set (w : World) (g i : Nat) (v : Value) : w.grownBy (w.setCell ⟨g, i, none⟩ v) (some g) :=
  ⟨rfl, rfl, rfl, by simp [World.setCell], fun k hk hne => heap_setCell_other _ _ _ _ (fun e => hne (by rw [e]))⟩
theorem below_gb {w w' : World} (h : Below w.heap.size w w') (row : Option Nat) : w.grownBy w' row := ⟨h.os, h.tape, h.output, h.size, fun k hk _ => h.block k hk⟩
theorem six (w2 : World) (g : Nat) (c0 c1 c2 c3 c4 c5 a0 a1 a2 a3 a4 b0 b1 b2 b3 b4 d0 d1 d2 u v0 v1 v2 v3 v4 : Value) (h : w2.heap[g]? = some (.cells #[c0, c1, c2, c3, c4, c5, a0, a1, a2, a3, a4, b0, b1, b2, b3, b4, d0, d1, d2] 31 (0, 0))) :
    ((((((w2.setCell ⟨g, 17, none⟩ u).setCell ⟨g, 11, none⟩ v0).setCell ⟨g, 12, none⟩ v1).setCell ⟨g, 13, none⟩ v2).setCell ⟨g, 14, none⟩ v3).setCell ⟨g, 15, none⟩ v4).heap[g]? = some (.cells #[c0, c1, c2, c3, c4, c5, a0, a1, a2, a3, a4, v0, v1, v2, v3, v4, d0, u, d2] 31 (0, 0)) ∧
    w2.grownBy ((((((w2.setCell ⟨g, 17, none⟩ u).setCell ⟨g, 11, none⟩ v0).setCell ⟨g, 12, none⟩ v1).setCell ⟨g, 13, none⟩ v2).setCell ⟨g, 14, none⟩ v3).setCell ⟨g, 15, none⟩ v4) (some g) ∧
    ((((((w2.setCell ⟨g, 17, none⟩ u).setCell ⟨g, 11, none⟩ v0).setCell ⟨g, 12, none⟩ v1).setCell ⟨g, 13, none⟩ v2).setCell ⟨g, 14, none⟩ v3).setCell ⟨g, 15, none⟩ v4).heap.size = w2.heap.size := by
  refine ⟨?_, (((((gb_set w2 g 17 u).trans (gb_set _ g 11 v0)).trans (gb_set _ g 12 v1)).trans (gb_set _ g 13 v2)).trans (gb_set _ g 14 v3)).trans (gb_set _ g 15 v4), by simp [World.setCell]⟩
  rw [box_set (box_set (box_set (box_set (box_set (box_set h 17 u) 11 v0) 12 v1) 13 v2) 14 v3) 15 v4]
  simp
set_option maxHeartbeats 800000 in
theorem overC (b : Nat) (x : WT) (cs : List Value) (t : VT) (vs : List Value) (w : World) (hb : w.heap[b]? = some (.cells cs.toArray 31 (0, 0))) (hx : WAt (fun q => b < q ∧ q < w.heap.size) w x cs) (hv : VAt (Live w) w t vs) :
    Calls Try.prog 27 #[.pointer (some ⟨b, 0, none⟩), .agg vs.toArray] w (TurnP w b { x with over := true, value := t }) := by
  have hlt : b < w.heap.size := (Array.getElem?_eq_some_iff.1 hb).1
  obtain ⟨e1, e2, e3, e4, e5, e6, e7, rfl⟩ := hv.shape
  obtain ⟨op, run, seen, upto, flow, name, asked, value, query, over, handed⟩ := x
  obtain ⟨A, B, rfl, hA, hB⟩ := hx
  obtain ⟨a0, a1, a2, a3, a4, a5, a6, rfl⟩ := hA.shape
  obtain ⟨b0, b1, b2, b3, b4, b5, b6, rfl⟩ := hB.shape
  simp only [List.cons_append, List.nil_append] at *
  have hb1 : Below w.heap.size w (w.alloc (.cells #[.int .i64 e1, .int .i64 e2, .int .u64 e3, .string e4, .slice e5 e6 e7] 29)) := (Below.refl _ _).alloc (Nat.le_refl _) _
  have C := clone t _ _ (hv.below hb1)
  replace C := Lib.hid C
  replace hb := Lib.hid hb
  replace hA := Lib.hid hA
  replace hb1 := Lib.hid hb1
  clear hB hv
  go_enter Try.func27, Try.ntmps27
  go_wp2_with fail
  refine C.out.mono ?_
  rintro e w2 ⟨cs5, rfl, hv2, hb2⟩
  obtain ⟨v0, v1, v2, v3, v4, v5, v6, rfl⟩ := hv2.shape
  have hbw : Below w.heap.size w w2 := hb1.out.trans (hb2.mono (by simp))
  have hX : w2.heap[b]? = some (.cells #[.int .i64 op, .int .i64 run, .int .i64 seen, .int .i64 upto, .string flow, .string name, .int .i64 a0, .int .i64 a1, .int .u64 a2, .string a3, .slice a4 a5 a6, .int .i64 b0, .int .i64 b1, .int .u64 b2, .string b3, .slice b4 b5 b6, .bool query, .bool over, .int .i64 handed] 31 (0, 0)) := by
    rw [hbw.block _ hlt]; exact hb.out
  obtain ⟨s1, s2, s3⟩ := six w2 b _ _ _ _ _ _ _ _ _ _ _ _ _ _ _ _ _ _ _ (.bool true) (.int .i64 v0) (.int .i64 v1) (.int .u64 v2) (.string v3) (.slice v4 v5 v6) hX
  have hsz : w.heap.size < w2.heap.size := by have := hb2.size; simp at this; omega
  have q11 : w2.cell? ⟨b, 11, none⟩ = some (.int .i64 b0) := by rw [cell_of_row _ _ _ _ _ _ hX]; rfl
  have q12 : w2.cell? ⟨b, 12, none⟩ = some (.int .i64 b1) := by rw [cell_of_row _ _ _ _ _ _ hX]; rfl
  have q13 : w2.cell? ⟨b, 13, none⟩ = some (.int .u64 b2) := by rw [cell_of_row _ _ _ _ _ _ hX]; rfl
  have q14 : w2.cell? ⟨b, 14, none⟩ = some (.string b3) := by rw [cell_of_row _ _ _ _ _ _ hX]; rfl
  have q15 : w2.cell? ⟨b, 15, none⟩ = some (.slice b4 b5 b6) := by rw [cell_of_row _ _ _ _ _ _ hX]; rfl
  have q17 : w2.cell? ⟨b, 17, none⟩ = some (.bool over) := by rw [cell_of_row _ _ _ _ _ _ hX]; rfl
  have f11 : ∀ i, w2.frozen? ⟨b, i, none⟩ = false := fun i => frozen_of_row _ _ _ _ _ hX
  have f1 := f11 11
  have f2 := f11 12
  have f3 := f11 13
  have f4 := f11 14
  have f5 := f11 15
  have f7 := f11 17
  clear f11
  have hfin : ∀ w', w' = ((((((w2.setCell ⟨b, 17, none⟩ (.bool true)).setCell ⟨b, 11, none⟩ (.int .i64 v0)).setCell ⟨b, 12, none⟩ (.int .i64 v1)).setCell ⟨b, 13, none⟩ (.int .u64 v2)).setCell ⟨b, 14, none⟩ (.string v3)).setCell ⟨b, 15, none⟩ (.slice v4 v5 v6)) → TurnP w b { op := op, run := run, seen := seen, upto := upto, flow := flow, name := name, asked := asked, value := t, query := query, over := true, handed := handed } (.returned (.tuple #[])) w' := by
    rintro w' rfl
    have hk : ∀ q, q < w2.heap.size → q ≠ b → ((((((w2.setCell ⟨b, 17, none⟩ (.bool true)).setCell ⟨b, 11, none⟩ (.int .i64 v0)).setCell ⟨b, 12, none⟩ (.int .i64 v1)).setCell ⟨b, 13, none⟩ (.int .u64 v2)).setCell ⟨b, 14, none⟩ (.string v3)).setCell ⟨b, 15, none⟩ (.slice v4 v5 v6)).heap[q]? = w2.heap[q]? := fun q hq hne => s2.block q hq (fun e => hne (Option.some.inj e))
    refine ⟨rfl, [.int .i64 op, .int .i64 run, .int .i64 seen, .int .i64 upto, .string flow, .string name, .int .i64 a0, .int .i64 a1, .int .u64 a2, .string a3, .slice a4 a5 a6, .int .i64 v0, .int .i64 v1, .int .u64 v2, .string v3, .slice v4 v5 v6, .bool query, .bool true, .int .i64 handed], s1, ⟨_, _, rfl, VAt.change (fun q hq => ⟨hq.1, by rw [s3]; omega⟩) (fun q hq => ?_) _ _ hA.out, VAt.change (fun q hq => ⟨?_, by rw [s3]; exact hq.2⟩) (fun q hq => ?_) _ _ hv2⟩, (below_gb hbw _).trans s2⟩
    · rw [hk q (by omega) (by omega), hbw.block q hq.2]
    · exact hk q hq.2 (by have := hq.1; simp at this; omega)
    · have := hq.1; simp at this; omega
  replace hfin := Lib.hid hfin
  clear hX s1 s2 s3 hbw hv2 hb2
  go_wp2_with fail
  go_end0
  exact hfin.out _ rfl
end Go.Proofs.Ytncmjkaclfcbmaa
