/- Values and waits in memory: plain facts. -/
import Derived.Test.YtncmjkaclfcbmaaRows
import Derived.WalkKit
import Derived.ProofKit
import Derived.WalkLawsBesides
import Derived.WalkSpells
import Derived.Lib.Hide
import Derived.Below
import Derived.OneCell
import Derived.Deep.QuietTactic
import Derived.BigQuiet
import Derived.Deep.RegionWith
import Derived.Deep.MidRow
import Derived.RegionTactic
import Derived.Deep.DeepCutAuto
import Derived.Maps.AppendAt
import Derived.StillTailTactics
set_option linter.unusedVariables false
namespace Go.Proofs.Ytncmjkaclfcbmaa
open Go.RowKit

theorem ret_int {k : IntKind} {a b : Int} (h : a = b) : Ending.returned (.int k a) = .returned (.int k b) := by rw [h]
theorem ret_bool {a b : Bool} (h : a = b) : Ending.returned (.bool a) = .returned (.bool b) := by rw [h]

/-! ### rows of elements -/
def Els {α : Type} (n : Nat) (P : α → List Value → Prop) : List α → List Value → Prop
  | [], xs => xs = []
  | t :: ts, xs => ∃ cs ys, xs = cs ++ ys ∧ cs.length = n ∧ P t cs ∧ Els n P ts ys
theorem Els.len {α : Type} {n : Nat} {P : α → List Value → Prop} : ∀ {l : List α} {xs : List Value}, Els n P l xs → xs.length = l.length * n
  | [], xs, h => by have h : xs = [] := h; subst h; simp
  | t :: ts, xs, h => by
    obtain ⟨cs, ys, rfl, h1, _, h3⟩ := h
    have := Els.len h3
    rw [List.length_append, this, h1, List.length_cons, Nat.succ_mul]; omega
theorem Els.mono {α : Type} {n : Nat} {P Q : α → List Value → Prop} (hPQ : ∀ t cs, P t cs → Q t cs) : ∀ {l : List α} {xs : List Value}, Els n P l xs → Els n Q l xs
  | [], xs, h => h
  | t :: ts, xs, h => by
    obtain ⟨cs, ys, rfl, h1, h2, h3⟩ := h
    exact ⟨cs, ys, rfl, h1, hPQ _ _ h2, Els.mono hPQ h3⟩
theorem Els.mono_mem {α : Type} {n : Nat} {P Q : α → List Value → Prop} : ∀ {l : List α} {xs : List Value}, (∀ t ∈ l, ∀ cs, P t cs → Q t cs) → Els n P l xs → Els n Q l xs
  | [], xs, _, h => h
  | t :: ts, xs, hPQ, h => by
    obtain ⟨cs, ys, rfl, h1, h2, h3⟩ := h
    exact ⟨cs, ys, rfl, h1, hPQ _ (by simp) _ h2, Els.mono_mem (fun u hu => hPQ u (by simp [hu])) h3⟩
theorem Els.snoc {α : Type} {n : Nat} {P : α → List Value → Prop} {t : α} {cs : List Value} (h1 : cs.length = n) (h2 : P t cs) : ∀ {l : List α} {xs : List Value}, Els n P l xs → Els n P (l ++ [t]) (xs ++ cs)
  | [], xs, h => by have h : xs = [] := h; subst h; exact ⟨cs, [], by simp, h1, h2, rfl⟩
  | u :: ts, xs, h => by
    obtain ⟨ds, ys, rfl, k1, k2, k3⟩ := h
    exact ⟨ds, ys ++ cs, by simp, k1, k2, Els.snoc h1 h2 k3⟩
theorem Els.one {α : Type} {n : Nat} {P : α → List Value → Prop} {t : α} {cs : List Value} (h1 : cs.length = n) (h2 : P t cs) : Els n P [t] cs := ⟨cs, [], by simp, h1, h2, rfl⟩
theorem Els.get {α : Type} {n : Nat} {P : α → List Value → Prop} : ∀ {l : List α} {xs : List Value} (i : Nat) (t : α), Els n P l xs → l[i]? = some t → ∃ cs, cs.length = n ∧ P t cs ∧ ∀ j u, cs[j]? = some u → xs[i * n + j]? = some u
  | [], xs, i, t, h, hi => by simp at hi
  | u :: ts, xs, 0, t, h, hi => by
    obtain ⟨cs, ys, rfl, k1, k2, k3⟩ := h
    simp at hi; subst hi
    refine ⟨cs, k1, k2, fun j v hv => ?_⟩
    have hj : j < cs.length := (List.getElem?_eq_some_iff.1 hv).1
    rw [Nat.zero_mul, Nat.zero_add, List.getElem?_append_left hj]; exact hv
  | u :: ts, xs, i + 1, t, h, hi => by
    obtain ⟨cs, ys, rfl, k1, k2, k3⟩ := h
    obtain ⟨ds, d1, d2, d3⟩ := Els.get i t k3 (by simpa using hi)
    refine ⟨ds, d1, d2, fun j v hv => ?_⟩
    rw [Nat.succ_mul, List.getElem?_append_right (by omega), show i * n + n + j - cs.length = i * n + j by omega]
    exact d3 j v hv
theorem Els.take {α : Type} {n : Nat} {P : α → List Value → Prop} : ∀ {l : List α} {xs : List Value} (k : Nat), Els n P l xs → Els n P (l.take k) (xs.take (k * n))
  | [], xs, k, h => by have h : xs = [] := h; subst h; simp [Els]
  | t :: ts, xs, 0, h => by simp [Els]
  | t :: ts, xs, k + 1, h => by
    obtain ⟨cs, ys, rfl, k1, k2, k3⟩ := h
    refine ⟨cs, ys.take (k * n), ?_, k1, k2, Els.take k k3⟩
    rw [Nat.succ_mul, List.take_append, List.take_of_length_le (by omega)]
    congr 2; omega
theorem Els.drop {α : Type} {n : Nat} {P : α → List Value → Prop} : ∀ {l : List α} {xs : List Value} (k : Nat), Els n P l xs → Els n P (l.drop k) (xs.drop (k * n))
  | [], xs, k, h => by have h : xs = [] := h; subst h; simp [Els]
  | t :: ts, xs, 0, h => by simpa using h
  | t :: ts, xs, k + 1, h => by
    obtain ⟨cs, ys, rfl, k1, k2, k3⟩ := h
    have := Els.drop k k3
    rw [Nat.succ_mul, List.drop_append, List.drop_eq_nil_of_le (show cs.length ≤ k * n + n by omega), List.drop_succ_cons, List.nil_append, show k * n + n - cs.length = k * n by omega]
    exact this
/-- a slice that reads as elements -/
def Sl {α : Type} (n : Nat) (P : α → List Value → Prop) (S : Nat → Prop) (w : World) (a : Option Addr) (l : List α) : Prop :=
  ∃ xs, Els n P l xs ∧ (l ≠ [] → ∃ g off, a = some ⟨g, off, none⟩ ∧ S g ∧ w.rangeAt g off xs)
theorem range_keep {w w' : World} {g off : Nat} {xs : List Value} (h : w.rangeAt g off xs) (hb : w'.heap[g]? = w.heap[g]?) : w'.rangeAt g off xs := fun j v hv => by
  rw [World.cell?_of_block (a := ⟨g, off + j, none⟩) hb]; exact h j v hv
theorem Sl.nil {α : Type} (n : Nat) (P : α → List Value → Prop) (S : Nat → Prop) (w : World) (a : Option Addr) : Sl n P S w a ([] : List α) := ⟨[], rfl, fun h => absurd rfl h⟩
theorem Sl.change {α : Type} {n : Nat} {P P' : α → List Value → Prop} {S S' : Nat → Prop} {w w' : World} {a : Option Addr} {l : List α} (h : Sl n P S w a l) (hS : ∀ b, S b → S' b) (hw : ∀ b, S b → w'.heap[b]? = w.heap[b]?)
    (hP : ∀ t ∈ l, ∀ cs, P t cs → P' t cs) : Sl n P' S' w' a l := by
  obtain ⟨xs, h1, h2⟩ := h
  refine ⟨xs, Els.mono_mem hP h1, fun hl => ?_⟩
  obtain ⟨g, off, rfl, hg, hr⟩ := h2 hl
  exact ⟨g, off, rfl, hS g hg, range_keep hr (hw g hg)⟩
theorem Sl.get {α : Type} {n : Nat} {P : α → List Value → Prop} {S : Nat → Prop} {w : World} {a : Option Addr} {l : List α} (h : Sl n P S w a l) (i : Nat) (t : α) (hi : l[i]? = some t) :
    ∃ g off cs, a = some ⟨g, off, none⟩ ∧ S g ∧ cs.length = n ∧ P t cs ∧ w.rangeAt g (off + i * n) cs := by
  obtain ⟨xs, h1, h2⟩ := h
  have hl : l ≠ [] := by rintro rfl; simp at hi
  obtain ⟨g, off, rfl, hg, hr⟩ := h2 hl
  obtain ⟨cs, c1, c2, c3⟩ := Els.get i t h1 hi
  refine ⟨g, off, cs, rfl, hg, c1, c2, fun j v hv => ?_⟩
  rw [Nat.add_assoc]; exact hr _ _ (c3 j v hv)

/-! ### values -/
inductive VT where
  | mk (k n b : Int) (s : ByteArray) (l : List VT)
theorem VT.ind {P : VT → Prop} (h : ∀ k n b s l, (∀ t ∈ l, P t) → P (.mk k n b s l)) : ∀ t, P t
  | .mk k n b s l => h k n b s l fun t ht => VT.ind h t
termination_by t => SizeOf.sizeOf t
decreasing_by
  have := List.sizeOf_lt_of_mem ht
  simp
  omega
mutual
def VAt (S : Nat → Prop) (w : World) : VT → List Value → Prop
  | .mk k n b s l, cs => ∃ a cap xs, cs = [.int .i64 k, .int .i64 n, .int .u64 b, .string s, .slice a l.length cap] ∧ VsAt S w l xs ∧ (l ≠ [] → ∃ g off, a = some ⟨g, off, none⟩ ∧ S g ∧ w.rangeAt g off xs) ∧
      l.length ≤ cap ∧ cap ≤ 9223372036854775807 ∧ l.length * 64 ≤ 140737488351232
def VsAt (S : Nat → Prop) (w : World) : List VT → List Value → Prop
  | [], xs => xs = []
  | t :: ts, xs => ∃ cs ys, xs = cs ++ ys ∧ cs.length = 5 ∧ VAt S w t cs ∧ VsAt S w ts ys
end
theorem vs_els {S : Nat → Prop} {w : World} : ∀ {l : List VT} {xs : List Value}, VsAt S w l xs ↔ Els 5 (VAt S w) l xs
  | [], xs => by simp only [VsAt, Els]
  | t :: ts, xs => by
    simp only [VsAt, Els]
    constructor
    · rintro ⟨cs, ys, h1, h2, h3, h4⟩; exact ⟨cs, ys, h1, h2, h3, vs_els.1 h4⟩
    · rintro ⟨cs, ys, h1, h2, h3, h4⟩; exact ⟨cs, ys, h1, h2, h3, vs_els.2 h4⟩
theorem VAt_mk {S : Nat → Prop} {w : World} {k n b : Int} {s : ByteArray} {l : List VT} {cs : List Value} :
    VAt S w (.mk k n b s l) cs ↔ ∃ a cap, cs = [.int .i64 k, .int .i64 n, .int .u64 b, .string s, .slice a l.length cap] ∧ Sl 5 (VAt S w) S w a l ∧ l.length ≤ cap ∧ cap ≤ 9223372036854775807 ∧ l.length * 64 ≤ 140737488351232 := by
  rw [VAt]
  constructor
  · rintro ⟨a, cap, xs, h1, h2, h3, h4⟩; exact ⟨a, cap, h1, ⟨xs, vs_els.1 h2, h3⟩, h4⟩
  · rintro ⟨a, cap, h1, ⟨xs, h2, h3⟩, h4⟩; exact ⟨a, cap, xs, h1, vs_els.2 h2, h3, h4⟩
theorem VAt.len {S : Nat → Prop} {w : World} {t : VT} {cs : List Value} (h : VAt S w t cs) : cs.length = 5 := by
  obtain ⟨k, n, b, s, l⟩ := t
  obtain ⟨a, cap, rfl, _⟩ := VAt_mk.1 h
  rfl
theorem VAt.change {S S' : Nat → Prop} {w w' : World} (hS : ∀ b, S b → S' b) (hw : ∀ b, S b → w'.heap[b]? = w.heap[b]?) : ∀ (t : VT) (cs : List Value), VAt S w t cs → VAt S' w' t cs := by
  intro t
  induction t using VT.ind with
  | h k n b s l ih =>
    intro cs h
    obtain ⟨a, cap, rfl, h2, h3⟩ := VAt_mk.1 h
    exact VAt_mk.2 ⟨a, cap, rfl, h2.change hS hw ih, h3⟩
def Live (w : World) (b : Nat) : Prop := b < w.heap.size
def Fresh (w w' : World) (b : Nat) : Prop := w.heap.size ≤ b ∧ b < w'.heap.size
theorem VAt.below {w w' : World} {t : VT} {cs : List Value} (h : VAt (Live w) w t cs) (hb : Below w.heap.size w w') : VAt (Live w') w' t cs :=
  VAt.change (fun b hb' => Nat.lt_of_lt_of_le hb' hb.size) (fun b hb' => hb.block b hb') t cs h

/-! ### waits -/
structure WT where
  op : Int
  run : Int
  seen : Int
  upto : Int
  flow : ByteArray
  name : ByteArray
  asked : VT
  value : VT
  query : Bool
  over : Bool
  handed : Int
def WAt (S : Nat → Prop) (w : World) (x : WT) (cs : List Value) : Prop :=
  ∃ A B, cs = [.int .i64 x.op, .int .i64 x.run, .int .i64 x.seen, .int .i64 x.upto, .string x.flow, .string x.name] ++ (A ++ (B ++ [.bool x.query, .bool x.over, .int .i64 x.handed])) ∧ VAt S w x.asked A ∧ VAt S w x.value B
theorem WAt.len {S : Nat → Prop} {w : World} {x : WT} {cs : List Value} (h : WAt S w x cs) : cs.length = 19 := by
  obtain ⟨A, B, rfl, h1, h2⟩ := h
  simp [h1.len, h2.len]
theorem WAt.change {S S' : Nat → Prop} {w w' : World} (hS : ∀ b, S b → S' b) (hw : ∀ b, S b → w'.heap[b]? = w.heap[b]?) {x : WT} {cs : List Value} (h : WAt S w x cs) : WAt S' w' x cs := by
  obtain ⟨A, B, rfl, h1, h2⟩ := h
  exact ⟨A, B, rfl, h1.change hS hw, h2.change hS hw⟩
/-- the cells of a wait -/
theorem WAt.cells {S : Nat → Prop} {w : World} {x : WT} {cs : List Value} (h : WAt S w x cs) :
    cs[0]? = some (.int .i64 x.op) ∧ cs[1]? = some (.int .i64 x.run) ∧ cs[2]? = some (.int .i64 x.seen) ∧ cs[3]? = some (.int .i64 x.upto) ∧ cs[4]? = some (.string x.flow) ∧ cs[5]? = some (.string x.name) ∧
    cs[16]? = some (.bool x.query) ∧ cs[17]? = some (.bool x.over) ∧ cs[18]? = some (.int .i64 x.handed) ∧ ∃ A B, A.length = 5 ∧ B.length = 5 ∧ VAt S w x.asked A ∧ VAt S w x.value B ∧ (∀ j u, A[j]? = some u → cs[6 + j]? = some u) ∧ (∀ j u, B[j]? = some u → cs[11 + j]? = some u) := by
  obtain ⟨A, B, rfl, h1, h2⟩ := h
  have hA := h1.len
  have hB := h2.len
  refine ⟨rfl, rfl, rfl, rfl, rfl, rfl, ?_, ?_, ?_, A, B, hA, hB, h1, h2, ?_, ?_⟩
  · rw [List.getElem?_append_right (by simp), List.getElem?_append_right (by simp [hA]), List.getElem?_append_right (by simp [hA, hB])]; simp [hA, hB]
  · rw [List.getElem?_append_right (by simp), List.getElem?_append_right (by simp [hA]), List.getElem?_append_right (by simp [hA, hB])]; simp [hA, hB]
  · rw [List.getElem?_append_right (by simp), List.getElem?_append_right (by simp [hA]), List.getElem?_append_right (by simp [hA, hB])]; simp [hA, hB]
  · intro j u hu
    have hj : j < A.length := (List.getElem?_eq_some_iff.1 hu).1
    rw [List.getElem?_append_right (by simp), List.getElem?_append_left (by simp; omega)]
    simpa using hu
  · intro j u hu
    have hj : j < B.length := (List.getElem?_eq_some_iff.1 hu).1
    rw [List.getElem?_append_right (by simp; omega), List.getElem?_append_right (by simp [hA]; omega), List.getElem?_append_left (by simp [hA]; omega)]
    rw [← hu]; congr 1; simp [hA]; omega
end Go.Proofs.Ytncmjkaclfcbmaa
