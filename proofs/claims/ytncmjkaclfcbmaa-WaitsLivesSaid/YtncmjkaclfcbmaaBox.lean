/- A wait in a box of its own. -/
import Derived.Test.YtncmjkaclfcbmaaROf
import Derived.Test.YtncmjkaclfcbmaaAwake
set_option linter.unusedVariables false
set_option linter.unusedSimpArgs false
namespace Go.Proofs.Ytncmjkaclfcbmaa
open Go.RowKit

def BoxS (W : World) (b : Nat) (w' : World) (q : Nat) : Prop := W.heap.size ≤ q ∧ q < w'.heap.size ∧ q ≠ b
def BoxP (W : World) (b : Nat) (y : WT) (w' : World) (cs : List Value) : Prop :=
  w'.heap[b]? = some (.cells cs.toArray 31 (0, 0)) ∧ WAt (BoxS W b w') w' y cs ∧ Below W.heap.size W w' ∧ W.heap.size ≤ b
theorem BoxP.lt {W w' : World} {b : Nat} {y : WT} {cs : List Value} (h : BoxP W b y w' cs) : b < w'.heap.size := (Array.getElem?_eq_some_iff.1 h.1).1
theorem BoxP.below {W w' w'' : World} {b : Nat} {y : WT} {cs : List Value} (h : BoxP W b y w' cs) (hb : Below w'.heap.size w' w'') : BoxP W b y w'' cs :=
  ⟨by rw [hb.block _ h.lt]; exact h.1, h.2.1.change (fun q hq => ⟨hq.1, Nat.lt_of_lt_of_le hq.2.1 hb.size, hq.2.2⟩) (fun q hq => hb.block q hq.2.1), h.2.2.1.trans (hb.mono h.2.2.1.size), h.2.2.2⟩
theorem BoxP.new {W w1 : World} {x : WT} {cs1 : List Value} (hv : WAt (Fresh W w1) w1 x cs1) (hb : Below W.heap.size W w1) : BoxP W w1.heap.size x (w1.alloc (.cells cs1.toArray 31)) cs1 := by
  have hA : Below w1.heap.size w1 (w1.alloc (.cells cs1.toArray 31)) := (Below.refl _ _).alloc (Nat.le_refl _) _
  refine ⟨heap_alloc_new w1 _, hv.change (fun q hq => ⟨hq.1, by have := hq.2; simp; omega, by have := hq.2; omega⟩) (fun q hq => hA.block q hq.2), hb.trans (hA.mono hb.size), hb.size⟩
theorem BoxP.live {W w' : World} {b : Nat} {y : WT} {cs : List Value} (h : BoxP W b y w' cs) : WAt (Live w') w' y cs := h.2.1.change (fun q hq => hq.2.1) (fun _ _ => rfl)
theorem BoxP.len {W w' : World} {b : Nat} {y : WT} {cs : List Value} (h : BoxP W b y w' cs) : cs.length = 19 := h.2.1.len
theorem BoxP.hand {W w' : World} {b : Nat} {x : WT} {cs : List Value} (h : BoxP W b x w' cs) (t u : Int) : ∃ cs', BoxP W b { x with handed := t, upto := u } ((w'.setCell ⟨b, 18, none⟩ (.int .i64 t)).setCell ⟨b, 3, none⟩ (.int .i64 u)) cs' := by
  obtain ⟨h1, ⟨A, B, rfl, hA, hB⟩, h3, h4⟩ := h
  obtain ⟨a0, a1, a2, a3, a4, a5, a6, rfl⟩ := hA.shape
  obtain ⟨b0, b1, b2, b3, b4, b5, b6, rfl⟩ := hB.shape
  have hk : ∀ q, q ≠ b → ((w'.setCell ⟨b, 18, none⟩ (.int .i64 t)).setCell ⟨b, 3, none⟩ (.int .i64 u)).heap[q]? = w'.heap[q]? := fun q hq => by
    rw [heap_setCell_other _ _ _ _ hq, heap_setCell_other _ _ _ _ hq]
  have hs : ((w'.setCell ⟨b, 18, none⟩ (.int .i64 t)).setCell ⟨b, 3, none⟩ (.int .i64 u)).heap.size = w'.heap.size := by simp [World.setCell]
  refine ⟨[.int .i64 x.op, .int .i64 x.run, .int .i64 x.seen, .int .i64 u, .string x.flow, .string x.name] ++ ([.int .i64 a0, .int .i64 a1, .int .u64 a2, .string a3, .slice a4 a5 a6] ++ ([.int .i64 b0, .int .i64 b1, .int .u64 b2, .string b3, .slice b4 b5 b6] ++ [.bool x.query, .bool x.over, .int .i64 t])), ?_, ⟨_, _, rfl, ?_, ?_⟩, ?_, h4⟩
  · rw [box_set (box_set h1 18 _) 3 _]; simp
  · exact VAt.change (fun q hq => ⟨hq.1, by rw [hs]; exact hq.2.1, hq.2.2⟩) (fun q hq => hk q hq.2.2) _ _ hA
  · exact VAt.change (fun q hq => ⟨hq.1, by rw [hs]; exact hq.2.1, hq.2.2⟩) (fun q hq => hk q hq.2.2) _ _ hB
  · exact h3.grown ((gb_set w' b 18 _).trans (gb_set _ b 3 _)) h3.size (fun k hk => by cases hk; exact h4)
theorem BoxP.over {W w' : World} {b : Nat} {x : WT} {cs : List Value} (h : BoxP W b x w' cs) (t : VT) (v0 v1 v2 v3 v4 : Value) (hv : VAt (BoxS W b w') w' t [v0, v1, v2, v3, v4]) :
    ∃ cs', BoxP W b { x with over := true, value := t } ((((((w'.setCell ⟨b, 17, none⟩ (.bool true)).setCell ⟨b, 11, none⟩ v0).setCell ⟨b, 12, none⟩ v1).setCell ⟨b, 13, none⟩ v2).setCell ⟨b, 14, none⟩ v3).setCell ⟨b, 15, none⟩ v4) cs' := by
  obtain ⟨h1, ⟨A, B, rfl, hA, hB⟩, h3, h4⟩ := h
  obtain ⟨a0, a1, a2, a3, a4, a5, a6, rfl⟩ := hA.shape
  obtain ⟨b0, b1, b2, b3, b4, b5, b6, rfl⟩ := hB.shape
  obtain ⟨s1, s2, s3⟩ := six w' b _ _ _ _ _ _ _ _ _ _ _ _ _ _ _ _ _ _ _ (.bool true) v0 v1 v2 v3 v4 h1
  have hk : ∀ q, q < w'.heap.size → q ≠ b → ((((((w'.setCell ⟨b, 17, none⟩ (.bool true)).setCell ⟨b, 11, none⟩ v0).setCell ⟨b, 12, none⟩ v1).setCell ⟨b, 13, none⟩ v2).setCell ⟨b, 14, none⟩ v3).setCell ⟨b, 15, none⟩ v4).heap[q]? = w'.heap[q]? := fun q hq hne => s2.block q hq (fun e => hne (Option.some.inj e))
  refine ⟨[.int .i64 x.op, .int .i64 x.run, .int .i64 x.seen, .int .i64 x.upto, .string x.flow, .string x.name] ++ ([.int .i64 a0, .int .i64 a1, .int .u64 a2, .string a3, .slice a4 a5 a6] ++ ([v0, v1, v2, v3, v4] ++ [.bool x.query, .bool true, .int .i64 x.handed])), s1, ⟨_, _, rfl, ?_, ?_⟩, ?_, h4⟩
  · exact VAt.change (fun q hq => ⟨hq.1, by rw [s3]; exact hq.2.1, hq.2.2⟩) (fun q hq => hk q hq.2.1 hq.2.2) _ _ hA
  · exact VAt.change (fun q hq => ⟨hq.1, by rw [s3]; exact hq.2.1, hq.2.2⟩) (fun q hq => hk q hq.2.1 hq.2.2) _ _ hv
  · exact h3.grown s2 h3.size (fun k hk => by cases hk; exact h4)
theorem BoxP.tail {W w7 : World} {b : Nat} {y : WT} {cs : List Value} (h : BoxP W b y w7 cs) {α : Type} {P : (Nat → Prop) → World → α → List Value → Prop} (hP : Carried P) {n : Nat} {e : TypeId} {B : Nat} {v : Value} {l : List α} (ho : Out P n e B W v l) (hB : B ≤ W.heap.size) :
    Out P n e B (w7.alloc (.cells cs.toArray 31)) v l ∧ WAt (BoxS W b w7) (w7.alloc (.cells cs.toArray 31)) y cs ∧ (w7.alloc (.cells cs.toArray 31)).rangeAt w7.heap.size 0 cs ∧ cs.length = 19 ∧ (∀ u ∈ cs, u.oneCell' = true) ∧
      (∀ q, BoxS W b w7 q → B ≤ q ∧ q < (w7.alloc (.cells cs.toArray 31)).heap.size ∧ v.ownBlock ≠ some q) ∧ B ≤ (w7.alloc (.cells cs.toArray 31)).heap.size ∧ Below W.heap.size W (w7.alloc (.cells cs.toArray 31)) := by
  obtain ⟨h1, h2, h3, h4⟩ := h
  have hA : Below w7.heap.size w7 (w7.alloc (.cells cs.toArray 31)) := (Below.refl _ _).alloc (Nat.le_refl _) _
  have h8 := h3.trans (hA.mono h3.size)
  refine ⟨ho.below hP h8, h2.change (fun q hq => hq) (fun q hq => hA.block q hq.2.1), range_new _ _ _, h2.len, h2.one, fun q hq => ⟨Nat.le_trans hB hq.1, by have := hq.2.1; simp; omega, fun e => ?_⟩, Nat.le_trans hB h8.size, h8⟩
  obtain ⟨xs, o1, _⟩ := ho
  have := (own_from o1 q e).2
  have := hq.1
  omega
end Go.Proofs.Ytncmjkaclfcbmaa
