/- own, the reference's clone. -/
import Derived.Test.YtncmjkaclfcbmaaClone
import Derived.Deep.RegionHeld3
import Derived.Deep.DrawnRows
set_option linter.unusedVariables false
namespace Go.Proofs.Ytncmjkaclfcbmaa
open Go.RowKit

def OwnP (w : World) (x : WT) (e : Ending) (w' : World) : Prop := ∃ cs', e = .returned (.agg cs'.toArray) ∧ WAt (Fresh w w') w' x cs' ∧ Below w.heap.size w w'
theorem five {cs : List Value} (h : cs.length = 5) : ∃ a b c d e, cs = [a, b, c, d, e] := by
  match cs, h with
  | [a, b, c, d, e], _ => exact ⟨a, b, c, d, e, rfl⟩
theorem VAt.shape {S : Nat → Prop} {w : World} {t : VT} {cs : List Value} (h : VAt S w t cs) : ∃ k n b s a m c, cs = [.int .i64 k, .int .i64 n, .int .u64 b, .string s, .slice a m c] := by
  obtain ⟨k, n, b, s, l⟩ := t
  obtain ⟨a, cap, rfl, _⟩ := VAt_mk.1 h
  exact ⟨_, _, _, _, _, _, _, rfl⟩
theorem bcell {W w1 : World} (hb : Below W.heap.size W w1) : (∀ b o, b < W.heap.size → w1.cell? ⟨b, o, none⟩ = W.cell? ⟨b, o, none⟩) ∧ (∀ b o, b < W.heap.size → w1.frozen? ⟨b, o, none⟩ = W.frozen? ⟨b, o, none⟩) :=
  ⟨fun b o h => hb.cell (p := ⟨b, o, none⟩) h, fun b o h => hb.frozen (p := ⟨b, o, none⟩) h⟩
def Z19 : Array Value := #[.int .i64 0, .int .i64 0, .int .i64 0, .int .i64 0, .string { data := #[] }, .string { data := #[] }, .int .i64 0, .int .i64 0, .int .u64 0, .string { data := #[] }, .slice none 0 0, .int .i64 0, .int .i64 0, .int .u64 0, .string { data := #[] }, .slice none 0 0, .bool false, .bool false, .int .i64 0]
theorem box_set {w : World} {g : Nat} {C : Array Value} {t : TypeId} (h : w.heap[g]? = some (.cells C t (0, 0))) (i : Nat) (v : Value) : (w.setCell ⟨g, i, none⟩ v).heap[g]? = some (.cells (C.setIfInBounds i v) t (0, 0)) := heap_setCell_same _ _ _ _ _ _ h
theorem box_far {w : World} {g h : Nat} {o : Obj} (hg : w.heap[g]? = some o) (hne : g ≠ h) (i : Nat) (v : Value) : (w.setCell ⟨h, i, none⟩ v).heap[g]? = some o := (heap_setCell_other _ _ _ _ hne).trans hg
theorem setCells_far (g b : Nat) (hb : b ≠ g) : ∀ (vs : List Value) (o : Nat) (w : World), (w.setCells g o vs).heap[b]? = w.heap[b]?
  | [], o, w => rfl
  | v :: vs, o, w => by rw [World.setCells, setCells_far g b hb vs (o + 1)]; exact heap_setCell_other _ _ _ _ hb
theorem setCells_below {B : Nat} {a : World} (g : Nat) : ∀ (vs : List Value) (o : Nat) (w : World), Below B a w → B ≤ g → Below B a (w.setCells g o vs)
  | [], o, w, h, hg => h
  | v :: vs, o, w, h, hg => by rw [World.setCells]; exact setCells_below g vs (o + 1) _ (h.setCell hg _) hg
theorem setCells_size (g : Nat) : ∀ (vs : List Value) (o : Nat) (w : World), (w.setCells g o vs).heap.size = w.heap.size
  | [], o, w => rfl
  | v :: vs, o, w => by rw [World.setCells, setCells_size g vs (o + 1)]; simp [World.setCell]
theorem ten (w2 : World) (g : Nat) (c0 c1 c2 c3 c4 c5 a0 a1 a2 a3 a4 b0 b1 b2 b3 b4 d0 d1 d2 u0 u1 u2 u3 u4 v0 v1 v2 v3 v4 : Value) (h : w2.heap[g]? = some (.cells #[c0, c1, c2, c3, c4, c5, a0, a1, a2, a3, a4, b0, b1, b2, b3, b4, d0, d1, d2] 31 (0, 0))) :
    ((((((((((w2.setCell ⟨g, 6, none⟩ u0).setCell ⟨g, 7, none⟩ u1).setCell ⟨g, 8, none⟩ u2).setCell ⟨g, 9, none⟩ u3).setCell ⟨g, 10, none⟩ u4).setCell ⟨g, 11, none⟩ v0).setCell ⟨g, 12, none⟩ v1).setCell ⟨g, 13, none⟩ v2).setCell ⟨g, 14, none⟩ v3).setCell ⟨g, 15, none⟩ v4).heap[g]? = some (.cells #[c0, c1, c2, c3, c4, c5, u0, u1, u2, u3, u4, v0, v1, v2, v3, v4, d0, d1, d2] 31 (0, 0)) ∧ (∀ b : Nat, b ≠ g → ((((((((((w2.setCell ⟨g, 6, none⟩ u0).setCell ⟨g, 7, none⟩ u1).setCell ⟨g, 8, none⟩ u2).setCell ⟨g, 9, none⟩ u3).setCell ⟨g, 10, none⟩ u4).setCell ⟨g, 11, none⟩ v0).setCell ⟨g, 12, none⟩ v1).setCell ⟨g, 13, none⟩ v2).setCell ⟨g, 14, none⟩ v3).setCell ⟨g, 15, none⟩ v4).heap[b]? = w2.heap[b]?) ∧ (∀ (B : Nat) (a : World), Below B a w2 → B ≤ g → Below B a ((((((((((w2.setCell ⟨g, 6, none⟩ u0).setCell ⟨g, 7, none⟩ u1).setCell ⟨g, 8, none⟩ u2).setCell ⟨g, 9, none⟩ u3).setCell ⟨g, 10, none⟩ u4).setCell ⟨g, 11, none⟩ v0).setCell ⟨g, 12, none⟩ v1).setCell ⟨g, 13, none⟩ v2).setCell ⟨g, 14, none⟩ v3).setCell ⟨g, 15, none⟩ v4)) ∧ ((((((((((w2.setCell ⟨g, 6, none⟩ u0).setCell ⟨g, 7, none⟩ u1).setCell ⟨g, 8, none⟩ u2).setCell ⟨g, 9, none⟩ u3).setCell ⟨g, 10, none⟩ u4).setCell ⟨g, 11, none⟩ v0).setCell ⟨g, 12, none⟩ v1).setCell ⟨g, 13, none⟩ v2).setCell ⟨g, 14, none⟩ v3).setCell ⟨g, 15, none⟩ v4).heap.size = w2.heap.size := by
  refine ⟨?_, fun b hb => setCells_far g b hb [u0, u1, u2, u3, u4, v0, v1, v2, v3, v4] 6 w2, fun B a hb hg => setCells_below g [u0, u1, u2, u3, u4, v0, v1, v2, v3, v4] 6 w2 hb hg, setCells_size g [u0, u1, u2, u3, u4, v0, v1, v2, v3, v4] 6 w2⟩
  rw [box_set (box_set (box_set (box_set (box_set (box_set (box_set (box_set (box_set (box_set h 6 u0) 7 u1) 8 u2) 9 u3) 10 u4) 11 v0) 12 v1) 13 v2) 14 v3) 15 v4]
  simp
attribute [local go_sem ↓] Go.wp_at_zero Go.wp_at_succ
set_option maxHeartbeats 1600000 in
set_option maxRecDepth 100000 in
theorem own (x : WT) (cs : List Value) (w : World) (h : WAt (Live w) w x cs) : Calls Try.prog 28 #[.agg cs.toArray] w (OwnP w x) := by
  obtain ⟨op, run, seen, upto, flow, name, asked, value, query, over, handed⟩ := x
  obtain ⟨A, B, rfl, hA, hB⟩ := h
  obtain ⟨a0, a1, a2, a3, a4, a5, a6, rfl⟩ := hA.shape
  obtain ⟨b0, b1, b2, b3, b4, b5, b6, rfl⟩ := hB.shape
  have kA := fun w' (hb : Below w.heap.size w w') => clone asked _ w' (hA.below hb)
  have kB := fun w' (hb : Below w.heap.size w w') => clone value _ w' (hB.below hb)
  replace hA := Lib.hid hA
  replace hB := Lib.hid hB
  replace kA := Lib.hid kA
  replace kB := Lib.hid kB
  simp only [List.cons_append, List.nil_append] at *
  go_enter Try.func28, Try.ntmps28
  have hX := heap_alloc2_old w (.cells #[.int .i64 op, .int .i64 run, .int .i64 seen, .int .i64 upto, .string flow, .string name, .int .i64 a0, .int .i64 a1, .int .u64 a2, .string a3, .slice a4 a5 a6, .int .i64 b0, .int .i64 b1, .int .u64 b2, .string b3, .slice b4 b5 b6, .bool query, .bool over, .int .i64 handed] 31) (.cells Z19 31)
  have hY := heap_alloc2_new w (.cells #[.int .i64 op, .int .i64 run, .int .i64 seen, .int .i64 upto, .string flow, .string name, .int .i64 a0, .int .i64 a1, .int .u64 a2, .string a3, .slice a4 a5 a6, .int .i64 b0, .int .i64 b1, .int .u64 b2, .string b3, .slice b4 b5 b6, .bool query, .bool over, .int .i64 handed] 31) (.cells Z19 31)
  have hB0 : Below w.heap.size w ((w.alloc (.cells #[.int .i64 op, .int .i64 run, .int .i64 seen, .int .i64 upto, .string flow, .string name, .int .i64 a0, .int .i64 a1, .int .u64 a2, .string a3, .slice a4 a5 a6, .int .i64 b0, .int .i64 b1, .int .u64 b2, .string b3, .slice b4 b5 b6, .bool query, .bool over, .int .i64 handed] 31)).alloc (.cells Z19 31)) := ((Below.refl _ _).alloc (Nat.le_refl _) _).alloc (by simp) _
  have hZ : Z19.size = 19 := rfl
  unfold Z19 at hX hY hB0
  replace hX := Lib.hid hX
  replace hY := Lib.hid hY
  replace hB0 := Lib.hid hB0
  go_wp2_with fail
  go_region_with (first | (go_at_call_of 49 (Value.agg #[.int .i64 a0, .int .i64 a1, .int .u64 a2, .string a3, .slice a4 a5 a6]); refine (kA.out _ ?_).mono ?_; (first | exact hB0.out | exact hB0.out.drew); rintro e w1 ⟨ca, rfl, hva, hba⟩; obtain ⟨u0, u1, u2, u3, u4, u5, u6, rfl⟩ := hva.shape; obtain ⟨hc1, hf1⟩ := bcell hba; have hz1 : w.heap.size + 1 < w1.heap.size := (by have := hba.size; simp at this; omega); have hy1 : w.heap.size < w1.heap.size := (by omega); replace hba := Lib.hid hba; replace hva := Lib.hid hva) | (go_at_call_of 49 (Value.agg #[.int .i64 b0, .int .i64 b1, .int .u64 b2, .string b3, .slice b4 b5 b6]); refine (kB.out _ ?_).mono ?_; (first | exact hB0.out.trans (hba.out.mono (by simp <;> omega)) | exact hB0.out.drew.trans (hba.out.mono (by simp <;> omega))); rintro e w2 ⟨cb, rfl, hvb, hbb⟩; obtain ⟨v0, v1, v2, v3, v4, v5, v6, rfl⟩ := hvb.shape; obtain ⟨hc2, hf2⟩ := bcell hbb; have hz2 : w.heap.size + 1 < w2.heap.size := (by have := hbb.size; omega); have hy2 : w.heap.size < w2.heap.size := (by omega); replace hbb := Lib.hid hbb; replace hvb := Lib.hid hvb))
  all_goals
    clear hc1 hf1 hc2 hf2
    have hX2 : w2.heap[w.heap.size]? = some (.cells #[.int .i64 op, .int .i64 run, .int .i64 seen, .int .i64 upto, .string flow, .string name, .int .i64 a0, .int .i64 a1, .int .u64 a2, .string a3, .slice a4 a5 a6, .int .i64 b0, .int .i64 b1, .int .u64 b2, .string b3, .slice b4 b5 b6, .bool query, .bool over, .int .i64 handed] 31 (0, 0)) := by
      rw [hbb.out.block _ hy1, hba.out.block _ (by simp <;> omega)]; exact hX.out
    have hY2 : w2.heap[w.heap.size + 1]? = some (.cells Z19 31 (0, 0)) := by
      rw [hbb.out.block _ hz1, hba.out.block _ (by simp)]; exact hY.out
    obtain ⟨hX4, hK3, hB3', hsz3⟩ := ten w2 w.heap.size _ _ _ _ _ _ _ _ _ _ _ _ _ _ _ _ _ _ _ (.int .i64 u0) (.int .i64 u1) (.int .u64 u2) (.string u3) (.slice u4 u5 u6) (.int .i64 v0) (.int .i64 v1) (.int .u64 v2) (.string v3) (.slice v4 v5 v6) hX2
    have hB2 : Below w.heap.size w w2 := (by first | exact (hB0.out.trans (hba.out.mono (by simp <;> omega))).trans (hbb.out.mono (by omega)) | exact (hB0.out.drew.trans (hba.out.mono (by simp <;> omega))).trans (hbb.out.mono (by omega)))
    have hB3 := hB3' w.heap.size w hB2 (Nat.le_refl _)
    have hY3 := (hK3 (w.heap.size + 1) (by omega)).trans hY2
    clear hB3'
    generalize ((((((((((w2.setCell ⟨w.heap.size, 6, none⟩ (.int .i64 u0)).setCell ⟨w.heap.size, 7, none⟩ (.int .i64 u1)).setCell ⟨w.heap.size, 8, none⟩ (.int .u64 u2)).setCell ⟨w.heap.size, 9, none⟩ (.string u3)).setCell ⟨w.heap.size, 10, none⟩ (.slice u4 u5 u6)).setCell ⟨w.heap.size, 11, none⟩ (.int .i64 v0)).setCell ⟨w.heap.size, 12, none⟩ (.int .i64 v1)).setCell ⟨w.heap.size, 13, none⟩ (.int .u64 v2)).setCell ⟨w.heap.size, 14, none⟩ (.string v3)).setCell ⟨w.heap.size, 15, none⟩ (.slice v4 v5 v6)) = U at hX4 hK3 hB3 hsz3 hY3 ⊢
    have hszA : w.heap.size + 2 ≤ w1.heap.size := by have := hba.out.size; simp at this; omega
    have hszB : w1.heap.size ≤ w2.heap.size := hbb.out.size
    have hvA : VAt (fun b => w.heap.size + 2 ≤ b ∧ b < U.heap.size) U asked [.int .i64 u0, .int .i64 u1, .int .u64 u2, .string u3, .slice u4 u5 u6] := VAt.change (fun b hb => ⟨by have := hb.1; simp at this; omega, by have := hb.2; omega⟩) (fun b hb => by rw [hK3 b (by have := hb.1; simp at this; omega), hbb.out.block b hb.2]) _ _ hva.out
    have hvB : VAt (fun b => w.heap.size + 2 ≤ b ∧ b < U.heap.size) U value [.int .i64 v0, .int .i64 v1, .int .u64 v2, .string v3, .slice v4 v5 v6] := VAt.change (fun b hb => ⟨by have := hb.1; omega, by have := hb.2; omega⟩) (fun b hb => hK3 b (by have := hb.1; omega)) _ _ hvb.out
    replace hX4 := Lib.hid hX4
    replace hY3 := Lib.hid hY3
    replace hK3 := Lib.hid hK3
    replace hB3 := Lib.hid hB3
    replace hvA := Lib.hid hvA
    replace hvB := Lib.hid hvB
    replace hsz3 := Lib.hid hsz3
    clear hX2 hY2
    go_wp2_with (first | (with_reducible refine wpList_load_row rfl 31 (.tmp 1) rfl w.heap.size rfl 31 _ (0, 0) _ hX4.out Try.underlying31 rfl (by kernel_rfl) ?_) | (with_reducible refine wpList_store_row rfl 31 (.tmp 2) (.tmp 11) rfl (w.heap.size + 1) _ rfl rfl 31 _ hY3.out (by kernel_rfl) (by kernel_rfl) (by kernel_rfl) ?_))
    have hR := setRow_heap U (w.heap.size + 1) _ #[.int .i64 op, .int .i64 run, .int .i64 seen, .int .i64 upto, .string flow, .string name, .int .i64 u0, .int .i64 u1, .int .u64 u2, .string u3, .slice u4 u5 u6, .int .i64 v0, .int .i64 v1, .int .u64 v2, .string v3, .slice v4 v5 v6, .bool query, .bool over, .int .i64 handed] 31 (0, 0) hY3.out
    refine bodyPost_ret (v := .agg #[.int .i64 op, .int .i64 run, .int .i64 seen, .int .i64 upto, .string flow, .string name, .int .i64 u0, .int .i64 u1, .int .u64 u2, .string u3, .slice u4 u5 u6, .int .i64 v0, .int .i64 v1, .int .u64 v2, .string v3, .slice v4 v5 v6, .bool query, .bool over, .int .i64 handed]) (results_cell_row (fn := Try.f28) (p := 2) (by kernel_rfl) _ _ (w.heap.size + 1) 31 _ (0, 0) _ rfl hR Try.underlying31 rfl (by kernel_rfl)) rfl ?_
    have hk : ∀ b : Nat, b ≠ w.heap.size + 1 → (U.setRow (w.heap.size + 1) #[.int .i64 op, .int .i64 run, .int .i64 seen, .int .i64 upto, .string flow, .string name, .int .i64 u0, .int .i64 u1, .int .u64 u2, .string u3, .slice u4 u5 u6, .int .i64 v0, .int .i64 v1, .int .u64 v2, .string v3, .slice v4 v5 v6, .bool query, .bool over, .int .i64 handed]).heap[b]? = U.heap[b]? := fun b hb => setRow_other _ _ _ _ hb
    have hb' : Below w.heap.size w (U.setRow (w.heap.size + 1) #[.int .i64 op, .int .i64 run, .int .i64 seen, .int .i64 upto, .string flow, .string name, .int .i64 u0, .int .i64 u1, .int .u64 u2, .string u3, .slice u4 u5 u6, .int .i64 v0, .int .i64 v1, .int .u64 v2, .string v3, .slice v4 v5 v6, .bool query, .bool over, .int .i64 handed]) := below_setRow hB3.out (by omega) _
    have hs' : (U.setRow (w.heap.size + 1) #[.int .i64 op, .int .i64 run, .int .i64 seen, .int .i64 upto, .string flow, .string name, .int .i64 u0, .int .i64 u1, .int .u64 u2, .string u3, .slice u4 u5 u6, .int .i64 v0, .int .i64 v1, .int .u64 v2, .string v3, .slice v4 v5 v6, .bool query, .bool over, .int .i64 handed]).heap.size = U.heap.size := size_setRow _ _ _
    refine ⟨#[.int .i64 op, .int .i64 run, .int .i64 seen, .int .i64 upto, .string flow, .string name, .int .i64 u0, .int .i64 u1, .int .u64 u2, .string u3, .slice u4 u5 u6, .int .i64 v0, .int .i64 v1, .int .u64 v2, .string v3, .slice v4 v5 v6, .bool query, .bool over, .int .i64 handed].toList, rfl, ⟨_, _, rfl, VAt.change (fun b hb => ⟨by omega, by rw [hs']; exact hb.2⟩) (fun b hb => hk b (by omega)) _ _ hvA.out, VAt.change (fun b hb => ⟨by omega, by rw [hs']; exact hb.2⟩) (fun b hb => hk b (by omega)) _ _ hvB.out⟩, hb'⟩
end Go.Proofs.Ytncmjkaclfcbmaa
