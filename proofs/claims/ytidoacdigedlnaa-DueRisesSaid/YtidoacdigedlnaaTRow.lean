/- A row of timers that is written in place: what is held of it. -/
import Derived.Test.YtidoacdigedlnaaRow
import Derived.Test.YtidoacdigedlnaaCloneT
set_option linter.unusedVariables false
set_option linter.unusedSimpArgs false
namespace Go.Proofs.Ytidoacdigedlnaa
open Go.RowKit

def tmc (x : TM) : List Value := [.string x.name, .int .i64 x.due]
def Hd (w : World) (g off : Nat) (l : List TM) : Prop := ∀ j u, (flat l)[j]? = some u → w.cell? ⟨g, off + j, none⟩ = some u ∧ w.frozen? ⟨g, off + j, none⟩ = false
def TR (b : Nat) (w : World) (a : Option Addr) (l : List TM) : Prop := l ≠ [] → ∃ g off, b ≤ g ∧ g < w.heap.size ∧ a = some ⟨g, off, none⟩ ∧ Hd w g off l
theorem flat_get : ∀ {l : List TM} {i : Nat} {x : TM}, l[i]? = some x → (flat l)[i * 2]? = some (.string x.name) ∧ (flat l)[i * 2 + 1]? = some (.int .i64 x.due)
  | y :: l, 0, x, h => by simp at h; subst h; exact ⟨rfl, rfl⟩
  | y :: l, i + 1, x, h => by
    have ih := flat_get (l := l) (i := i) (x := x) (by simpa using h)
    rw [show (i + 1) * 2 = i * 2 + 2 by omega]
    exact ih
theorem flat_one (l : List TM) : ∀ u ∈ flat l, u.oneCell' = true := by
  intro u hu
  induction l with
  | nil => cases hu
  | cons x l ih =>
    rcases List.mem_cons.1 hu with rfl | hu
    · rfl
    rcases List.mem_cons.1 hu with rfl | hu
    · rfl
    exact ih hu
theorem flat_append : ∀ (l m : List TM), flat (l ++ m) = flat l ++ flat m
  | [], m => rfl
  | x :: l, m => by simp [flat, flat_append l m]
theorem Hd.range {w : World} {g off : Nat} {l : List TM} (h : Hd w g off l) : w.rangeAt g off (flat l) := fun j u hu => (h j u hu).1
theorem Hd.get {w : World} {g off : Nat} {l : List TM} (h : Hd w g off l) {i : Nat} {x : TM} (hx : l[i]? = some x) :
    w.cell? ⟨g, off + i * 2, none⟩ = some (.string x.name) ∧ w.cell? ⟨g, off + i * 2 + 1, none⟩ = some (.int .i64 x.due) := by
  obtain ⟨h1, h2⟩ := flat_get hx
  exact ⟨(h _ _ h1).1, by rw [Nat.add_assoc]; exact (h _ _ h2).1⟩
theorem Hd.rng {w : World} {g off : Nat} {l : List TM} (h : Hd w g off l) {i : Nat} {x : TM} (hx : l[i]? = some x) : w.rangeAt g (off + i * 2) (tmc x) := by
  obtain ⟨h1, h2⟩ := h.get hx
  intro j u hu
  match j, hu with
  | 0, hu => simp [tmc] at hu; subst hu; exact h1
  | 1, hu => simp [tmc] at hu; subst hu; exact h2
  | j + 2, hu => simp [tmc] at hu
theorem Hd.there {w : World} {g off : Nat} {l : List TM} (h : Hd w g off l) {i : Nat} (m : Nat) (hi : i * 2 + m ≤ l.length * 2) : w.there g (off + i * 2) m := by
  intro j hj
  have hl := flat_len l
  have hk : (flat l)[i * 2 + j]? = some ((flat l)[i * 2 + j]'(by omega)) := List.getElem?_eq_getElem _
  obtain ⟨h1, h2⟩ := h _ _ hk
  rw [Nat.add_assoc, h1]
  exact ⟨rfl, h2⟩
theorem heap_setCells (g : Nat) : ∀ (vs : List Value) (o : Nat) (w : World) (k : Nat), k ≠ g → (w.setCells g o vs).heap[k]? = w.heap[k]?
  | [], o, w, k, h => rfl
  | v :: vs, o, w, k, h => by
    show ((w.setCell ⟨g, o, none⟩ v).setCells g (o + 1) vs).heap[k]? = _
    rw [heap_setCells g vs (o + 1) _ k h, Below.heap_setCell _ _ _ _ h]
theorem below_setCells {B : Nat} {a : World} (g : Nat) (hg : B ≤ g) : ∀ (vs : List Value) (o : Nat) (w : World), Below B a w → Below B a (w.setCells g o vs)
  | [], o, w, h => h
  | v :: vs, o, w, h => below_setCells g hg vs (o + 1) _ (h.setCell (p := ⟨g, o, none⟩) hg v)
theorem heap_size_setCells (g : Nat) : ∀ (vs : List Value) (o : Nat) (w : World), (w.setCells g o vs).heap.size = w.heap.size
  | [], o, w => rfl
  | v :: vs, o, w => by
    show ((w.setCell ⟨g, o, none⟩ v).setCells g (o + 1) vs).heap.size = _
    rw [heap_size_setCells g vs (o + 1) _]
    simp [World.setCell]
theorem Hd.keep {w w' : World} {g off : Nat} {l : List TM} (h : Hd w g off l) (hb : w'.heap[g]? = w.heap[g]?) : Hd w' g off l := fun j u hu => by
  rw [World.cell?_of_block (a := ⟨g, off + j, none⟩) hb, World.frozen?_of_block (a := ⟨g, off + j, none⟩) hb]; exact h j u hu
theorem Hd.set {w : World} {g off : Nat} {l : List TM} (h : Hd w g off l) {i : Nat} (hi : i < l.length) (x : TM) : Hd (w.setCells g (off + i * 2) (tmc x)) g off (l.set i x) := by
  intro j u hu
  rw [World.frozen?_setCells]
  rw [flat_set l i x hi] at hu
  have hl := flat_len l
  by_cases h0 : j = i * 2
  · subst h0
    rw [List.getElem?_set_ne (by omega), List.getElem?_set_self (by omega)] at hu
    cases hu
    have ht := h.there (i := i) 2 (by omega)
    refine ⟨World.cell?_setCells_in g (tmc x) (off + i * 2) w (fun j hj => (ht j hj).1) 0 (by simp [tmc]), ?_⟩
    exact (ht 0 (by omega)).2
  by_cases h1 : j = i * 2 + 1
  · subst h1
    rw [List.getElem?_set_self (by simp; omega)] at hu
    cases hu
    have ht := h.there (i := i) 2 (by omega)
    refine ⟨World.cell?_setCells_in g (tmc x) (off + i * 2) w (fun j hj => (ht j hj).1) 1 (by simp [tmc]), ?_⟩
    exact (ht 1 (by omega)).2
  rw [List.getElem?_set_ne (by omega), List.getElem?_set_ne (by omega)] at hu
  rw [World.cell?_setCells_out g (tmc x) (off + i * 2) w ⟨g, off + j, none⟩ (fun _ _ => by simp [tmc]; omega)]
  exact h j u hu
theorem Hd.cut {w : World} {g off : Nat} {l m : List TM} (h : Hd w g off (l ++ m)) : Hd w g off l := fun j u hu => by
  have hj : j < (flat l).length := (List.getElem?_eq_some_iff.1 hu).1
  exact h j u (by rw [flat_append, List.getElem?_append_left hj]; exact hu)
theorem Hd.clear {w : World} {g off : Nat} {l : List TM} (h : Hd w g off l) (o : Nat) (vs : List Value) (ho : off + l.length * 2 ≤ o) : Hd (w.setCells g o vs) g off l := by
  intro j u hu
  have hj : j < (flat l).length := (List.getElem?_eq_some_iff.1 hu).1
  rw [flat_len] at hj
  rw [World.frozen?_setCells, World.cell?_setCells_out g vs o w ⟨g, off + j, none⟩ (fun _ _ => by left; show off + j < o; omega)]
  exact h j u hu
theorem TR.sl {b : Nat} {w : World} {a : Option Addr} {l : List TM} (h : TR b w a l) : Sl 2 (TMAt (Live w) w) (Live w) w a l := by
  refine ⟨flat l, els_flat _ _ l, fun hl => ?_⟩
  obtain ⟨g, off, h1, h2, rfl, h3⟩ := h hl
  exact ⟨g, off, rfl, h2, h3.range⟩
theorem own_tr {w : World} {b n : Nat} {v : Value} {l : List TM} (h : w.ownsRow b 52 2 v n (flat l)) (hn : l.length = n) : ∃ a c, v = .slice a n c ∧ n ≤ c ∧ c ≤ 9223372036854775807 ∧ TR b w a l := by
  obtain ⟨h1, ⟨rfl, rfl⟩ | ⟨g, cap, cur, rfl, h3, h4, h5, h6, h7, h8⟩⟩ := h
  · exact ⟨none, 0, rfl, Nat.le_refl _, by decide, fun hl => absurd (List.length_eq_zero_iff.1 hn) hl⟩
  · refine ⟨_, cap, rfl, h5, h6, fun hl => ⟨g, 0, h3, ?_, rfl, ?_⟩⟩
    · exact (Array.getElem?_eq_some_iff.1 h4).1
    · intro j u hu
      refine ⟨?_, ?_⟩
      · refine box_cell h4 _ _ ?_
        rw [Nat.zero_add, ← Array.getElem?_toList]
        rw [← h8] at hu
        rw [List.getElem?_take] at hu
        split at hu
        · exact hu
        · cases hu
      · simp [World.frozen?, h4]
end Go.Proofs.Ytidoacdigedlnaa
