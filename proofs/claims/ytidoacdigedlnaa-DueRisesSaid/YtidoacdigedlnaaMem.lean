/- Values, timers, updates, states in memory: plain facts. -/
import Derived.Test.YtidoacdigedlnaaRows
import Derived.WalkKit
import Derived.ProofKit
import Derived.WalkLawsBesides
import Derived.WalkSpells
import Derived.Lib.Hide
import Derived.Below
import Derived.OneCell
import Derived.Deep.QuietTactic
import Derived.BigQuiet
import Derived.Deep.RegionWith
import Derived.Deep.MidRow
import Derived.RegionTactic
import Derived.Deep.DeepCutAuto
import Derived.Maps.AppendAt
import Derived.StillTailTactics
set_option linter.unusedVariables false
namespace Go.Proofs.Ytidoacdigedlnaa
open Go.RowKit

theorem ret_int {k : IntKind} {a b : Int} (h : a = b) : Ending.returned (.int k a) = .returned (.int k b) := by rw [h]
theorem ret_bool {a b : Bool} (h : a = b) : Ending.returned (.bool a) = .returned (.bool b) := by rw [h]

/-! ### rows of elements -/
def Els {α : Type} (n : Nat) (P : α → List Value → Prop) : List α → List Value → Prop
  | [], xs => xs = []
  | t :: ts, xs => ∃ cs ys, xs = cs ++ ys ∧ cs.length = n ∧ P t cs ∧ Els n P ts ys
theorem Els.len {α : Type} {n : Nat} {P : α → List Value → Prop} : ∀ {l : List α} {xs : List Value}, Els n P l xs → xs.length = l.length * n
  | [], xs, h => by have h : xs = [] := h; subst h; simp
  | t :: ts, xs, h => by
    obtain ⟨cs, ys, rfl, h1, _, h3⟩ := h
    have := Els.len h3
    rw [List.length_append, this, h1, List.length_cons, Nat.succ_mul]; omega
theorem Els.mono {α : Type} {n : Nat} {P Q : α → List Value → Prop} (hPQ : ∀ t cs, P t cs → Q t cs) : ∀ {l : List α} {xs : List Value}, Els n P l xs → Els n Q l xs
  | [], xs, h => h
  | t :: ts, xs, h => by
    obtain ⟨cs, ys, rfl, h1, h2, h3⟩ := h
    exact ⟨cs, ys, rfl, h1, hPQ _ _ h2, Els.mono hPQ h3⟩
theorem Els.mono_mem {α : Type} {n : Nat} {P Q : α → List Value → Prop} : ∀ {l : List α} {xs : List Value}, (∀ t ∈ l, ∀ cs, P t cs → Q t cs) → Els n P l xs → Els n Q l xs
  | [], xs, _, h => h
  | t :: ts, xs, hPQ, h => by
    obtain ⟨cs, ys, rfl, h1, h2, h3⟩ := h
    exact ⟨cs, ys, rfl, h1, hPQ _ (by simp) _ h2, Els.mono_mem (fun u hu => hPQ u (by simp [hu])) h3⟩
theorem Els.snoc {α : Type} {n : Nat} {P : α → List Value → Prop} {t : α} {cs : List Value} (h1 : cs.length = n) (h2 : P t cs) : ∀ {l : List α} {xs : List Value}, Els n P l xs → Els n P (l ++ [t]) (xs ++ cs)
  | [], xs, h => by have h : xs = [] := h; subst h; exact ⟨cs, [], by simp, h1, h2, rfl⟩
  | u :: ts, xs, h => by
    obtain ⟨ds, ys, rfl, k1, k2, k3⟩ := h
    exact ⟨ds, ys ++ cs, by simp, k1, k2, Els.snoc h1 h2 k3⟩
theorem Els.one {α : Type} {n : Nat} {P : α → List Value → Prop} {t : α} {cs : List Value} (h1 : cs.length = n) (h2 : P t cs) : Els n P [t] cs := ⟨cs, [], by simp, h1, h2, rfl⟩
theorem Els.get {α : Type} {n : Nat} {P : α → List Value → Prop} : ∀ {l : List α} {xs : List Value} (i : Nat) (t : α), Els n P l xs → l[i]? = some t → ∃ cs, cs.length = n ∧ P t cs ∧ ∀ j u, cs[j]? = some u → xs[i * n + j]? = some u
  | [], xs, i, t, h, hi => by simp at hi
  | u :: ts, xs, 0, t, h, hi => by
    obtain ⟨cs, ys, rfl, k1, k2, k3⟩ := h
    simp at hi; subst hi
    refine ⟨cs, k1, k2, fun j v hv => ?_⟩
    have hj : j < cs.length := (List.getElem?_eq_some_iff.1 hv).1
    rw [Nat.zero_mul, Nat.zero_add, List.getElem?_append_left hj]; exact hv
  | u :: ts, xs, i + 1, t, h, hi => by
    obtain ⟨cs, ys, rfl, k1, k2, k3⟩ := h
    obtain ⟨ds, d1, d2, d3⟩ := Els.get i t k3 (by simpa using hi)
    refine ⟨ds, d1, d2, fun j v hv => ?_⟩
    rw [Nat.succ_mul, List.getElem?_append_right (by omega), show i * n + n + j - cs.length = i * n + j by omega]
    exact d3 j v hv
theorem Els.take {α : Type} {n : Nat} {P : α → List Value → Prop} : ∀ {l : List α} {xs : List Value} (k : Nat), Els n P l xs → Els n P (l.take k) (xs.take (k * n))
  | [], xs, k, h => by have h : xs = [] := h; subst h; simp [Els]
  | t :: ts, xs, 0, h => by simp [Els]
  | t :: ts, xs, k + 1, h => by
    obtain ⟨cs, ys, rfl, k1, k2, k3⟩ := h
    refine ⟨cs, ys.take (k * n), ?_, k1, k2, Els.take k k3⟩
    rw [Nat.succ_mul, List.take_append, List.take_of_length_le (by omega)]
    congr 2; omega
theorem Els.drop {α : Type} {n : Nat} {P : α → List Value → Prop} : ∀ {l : List α} {xs : List Value} (k : Nat), Els n P l xs → Els n P (l.drop k) (xs.drop (k * n))
  | [], xs, k, h => by have h : xs = [] := h; subst h; simp [Els]
  | t :: ts, xs, 0, h => by simpa using h
  | t :: ts, xs, k + 1, h => by
    obtain ⟨cs, ys, rfl, k1, k2, k3⟩ := h
    have := Els.drop k k3
    rw [Nat.succ_mul, List.drop_append, List.drop_eq_nil_of_le (show cs.length ≤ k * n + n by omega), List.drop_succ_cons, List.nil_append, show k * n + n - cs.length = k * n by omega]
    exact this
/-- a slice that reads as elements -/
def Sl {α : Type} (n : Nat) (P : α → List Value → Prop) (S : Nat → Prop) (w : World) (a : Option Addr) (l : List α) : Prop :=
  ∃ xs, Els n P l xs ∧ (l ≠ [] → ∃ g off, a = some ⟨g, off, none⟩ ∧ S g ∧ w.rangeAt g off xs)
theorem range_keep {w w' : World} {g off : Nat} {xs : List Value} (h : w.rangeAt g off xs) (hb : w'.heap[g]? = w.heap[g]?) : w'.rangeAt g off xs := fun j v hv => by
  rw [World.cell?_of_block (a := ⟨g, off + j, none⟩) hb]; exact h j v hv
theorem Sl.nil {α : Type} (n : Nat) (P : α → List Value → Prop) (S : Nat → Prop) (w : World) (a : Option Addr) : Sl n P S w a ([] : List α) := ⟨[], rfl, fun h => absurd rfl h⟩
theorem Sl.change {α : Type} {n : Nat} {P P' : α → List Value → Prop} {S S' : Nat → Prop} {w w' : World} {a : Option Addr} {l : List α} (h : Sl n P S w a l) (hS : ∀ b, S b → S' b) (hw : ∀ b, S b → w'.heap[b]? = w.heap[b]?)
    (hP : ∀ t ∈ l, ∀ cs, P t cs → P' t cs) : Sl n P' S' w' a l := by
  obtain ⟨xs, h1, h2⟩ := h
  refine ⟨xs, Els.mono_mem hP h1, fun hl => ?_⟩
  obtain ⟨g, off, rfl, hg, hr⟩ := h2 hl
  exact ⟨g, off, rfl, hS g hg, range_keep hr (hw g hg)⟩
theorem Sl.get {α : Type} {n : Nat} {P : α → List Value → Prop} {S : Nat → Prop} {w : World} {a : Option Addr} {l : List α} (h : Sl n P S w a l) (i : Nat) (t : α) (hi : l[i]? = some t) :
    ∃ g off cs, a = some ⟨g, off, none⟩ ∧ S g ∧ cs.length = n ∧ P t cs ∧ w.rangeAt g (off + i * n) cs := by
  obtain ⟨xs, h1, h2⟩ := h
  have hl : l ≠ [] := by rintro rfl; simp at hi
  obtain ⟨g, off, rfl, hg, hr⟩ := h2 hl
  obtain ⟨cs, c1, c2, c3⟩ := Els.get i t h1 hi
  refine ⟨g, off, cs, rfl, hg, c1, c2, fun j v hv => ?_⟩
  rw [Nat.add_assoc]; exact hr _ _ (c3 j v hv)

/-! ### values -/
inductive VT where
  | mk (k n b : Int) (s : ByteArray) (l : List VT)
theorem VT.ind {P : VT → Prop} (h : ∀ k n b s l, (∀ t ∈ l, P t) → P (.mk k n b s l)) : ∀ t, P t
  | .mk k n b s l => h k n b s l fun t ht => VT.ind h t
termination_by t => SizeOf.sizeOf t
decreasing_by
  have := List.sizeOf_lt_of_mem ht
  simp
  omega
mutual
def VAt (S : Nat → Prop) (w : World) : VT → List Value → Prop
  | .mk k n b s l, cs => ∃ a cap xs, cs = [.int .i64 k, .int .i64 n, .int .u64 b, .string s, .slice a l.length cap] ∧ VsAt S w l xs ∧ (l ≠ [] → ∃ g off, a = some ⟨g, off, none⟩ ∧ S g ∧ w.rangeAt g off xs) ∧
      l.length ≤ cap ∧ cap ≤ 9223372036854775807 ∧ l.length * 64 ≤ 140737488351232
def VsAt (S : Nat → Prop) (w : World) : List VT → List Value → Prop
  | [], xs => xs = []
  | t :: ts, xs => ∃ cs ys, xs = cs ++ ys ∧ cs.length = 5 ∧ VAt S w t cs ∧ VsAt S w ts ys
end
theorem vs_els {S : Nat → Prop} {w : World} : ∀ {l : List VT} {xs : List Value}, VsAt S w l xs ↔ Els 5 (VAt S w) l xs
  | [], xs => by simp only [VsAt, Els]
  | t :: ts, xs => by
    simp only [VsAt, Els]
    constructor
    · rintro ⟨cs, ys, h1, h2, h3, h4⟩; exact ⟨cs, ys, h1, h2, h3, vs_els.1 h4⟩
    · rintro ⟨cs, ys, h1, h2, h3, h4⟩; exact ⟨cs, ys, h1, h2, h3, vs_els.2 h4⟩
theorem VAt_mk {S : Nat → Prop} {w : World} {k n b : Int} {s : ByteArray} {l : List VT} {cs : List Value} :
    VAt S w (.mk k n b s l) cs ↔ ∃ a cap, cs = [.int .i64 k, .int .i64 n, .int .u64 b, .string s, .slice a l.length cap] ∧ Sl 5 (VAt S w) S w a l ∧ l.length ≤ cap ∧ cap ≤ 9223372036854775807 ∧ l.length * 64 ≤ 140737488351232 := by
  rw [VAt]
  constructor
  · rintro ⟨a, cap, xs, h1, h2, h3, h4⟩; exact ⟨a, cap, h1, ⟨xs, vs_els.1 h2, h3⟩, h4⟩
  · rintro ⟨a, cap, h1, ⟨xs, h2, h3⟩, h4⟩; exact ⟨a, cap, xs, h1, vs_els.2 h2, h3, h4⟩
theorem VAt.len {S : Nat → Prop} {w : World} {t : VT} {cs : List Value} (h : VAt S w t cs) : cs.length = 5 := by
  obtain ⟨k, n, b, s, l⟩ := t
  obtain ⟨a, cap, rfl, _⟩ := VAt_mk.1 h
  rfl
theorem VAt.change {S S' : Nat → Prop} {w w' : World} (hS : ∀ b, S b → S' b) (hw : ∀ b, S b → w'.heap[b]? = w.heap[b]?) : ∀ (t : VT) (cs : List Value), VAt S w t cs → VAt S' w' t cs := by
  intro t
  induction t using VT.ind with
  | h k n b s l ih =>
    intro cs h
    obtain ⟨a, cap, rfl, h2, h3⟩ := VAt_mk.1 h
    exact VAt_mk.2 ⟨a, cap, rfl, h2.change hS hw ih, h3⟩
def Live (w : World) (b : Nat) : Prop := b < w.heap.size
def Fresh (w w' : World) (b : Nat) : Prop := w.heap.size ≤ b ∧ b < w'.heap.size
theorem VAt.below {w w' : World} {t : VT} {cs : List Value} (h : VAt (Live w) w t cs) (hb : Below w.heap.size w w') : VAt (Live w') w' t cs :=
  VAt.change (fun b hb' => Nat.lt_of_lt_of_le hb' hb.size) (fun b hb' => hb.block b hb') t cs h

/-! ### timers, updates, states -/
structure TM where
  name : ByteArray
  due : Int
def TMAt (S : Nat → Prop) (w : World) (x : TM) (cs : List Value) : Prop := cs = [.string x.name, .int .i64 x.due]
structure UT where
  name : ByteArray
  value : VT
  stage : Int
  outcome : VT
def UAt (S : Nat → Prop) (w : World) (x : UT) (cs : List Value) : Prop := ∃ A B, cs = .string x.name :: (A ++ (.int .i64 x.stage :: B)) ∧ VAt S w x.value A ∧ VAt S w x.outcome B
structure ET where
  kind : Int
  time : Int
  num : Int
  due : Int
  name : ByteArray
def EAt (S : Nat → Prop) (w : World) (x : ET) (cs : List Value) : Prop :=
  cs = [.int .i64 x.kind, .int .i64 x.time, .int .i64 x.num, .int .i64 x.due, .string x.name, .int .i64 0, .int .i64 0, .int .u64 0, .string ByteArray.empty, .slice none 0 0, .int .i64 0, .int .u64 0, .int .i64 0]
structure TK where
  state : Int
  attempt : Int
  due : Int
  event : Int
  seen : Int
structure ST where
  run : Int
  status : Int
  count : Int
  time : Int
  deadline : Int
  from_ : Int
  signals : Int
  type : ByteArray
  input : VT
  first : Int
  coef : Nat
  most : Int
  task : TK
  fresh : Bool
  cancel : Bool
  timers : List TM
  updates : List UT
  result : VT
  reason : ByteArray
def SAt (S : Nat → Prop) (w : World) (x : ST) (cs : List Value) : Prop :=
  ∃ A R a1 c1 a2 c2, cs = [.int .i64 x.run, .int .i64 x.status, .int .i64 x.count, .int .i64 x.time, .int .i64 x.deadline, .int .i64 x.from_, .int .i64 x.signals, .string x.type] ++ (A ++ ([.int .i64 x.first, .int .u64 (x.coef : Int), .int .i64 x.most, .int .i64 x.task.state, .int .i64 x.task.attempt, .int .i64 x.task.due, .int .i64 x.task.event, .int .i64 x.task.seen, .bool x.fresh, .bool x.cancel, .slice a1 x.timers.length c1, .slice a2 x.updates.length c2] ++ (R ++ [.string x.reason]))) ∧
    VAt S w x.input A ∧ VAt S w x.result R ∧ Sl 2 (TMAt S w) S w a1 x.timers ∧ Sl 12 (UAt S w) S w a2 x.updates ∧ x.timers.length ≤ c1 ∧ c1 ≤ 9223372036854775807 ∧ x.timers.length * 24 ≤ 140737488351232 ∧ x.updates.length ≤ c2 ∧ c2 ≤ 9223372036854775807 ∧ x.updates.length * 152 ≤ 140737488351232 ∧ x.coef < 18446744073709551616
theorem UAt.change {S S' : Nat → Prop} {w w' : World} (hS : ∀ b, S b → S' b) (hw : ∀ b, S b → w'.heap[b]? = w.heap[b]?) {x : UT} {cs : List Value} (h : UAt S w x cs) : UAt S' w' x cs := by
  obtain ⟨A, B, rfl, h1, h2⟩ := h
  exact ⟨A, B, rfl, h1.change hS hw, h2.change hS hw⟩
theorem SAt.change {S S' : Nat → Prop} {w w' : World} (hS : ∀ b, S b → S' b) (hw : ∀ b, S b → w'.heap[b]? = w.heap[b]?) {x : ST} {cs : List Value} (h : SAt S w x cs) : SAt S' w' x cs := by
  obtain ⟨A, R, a1, c1, a2, c2, e, h1, h2, h3, h4, h5⟩ := h
  exact ⟨A, R, a1, c1, a2, c2, e, h1.change hS hw, h2.change hS hw, h3.change hS hw (fun _ _ _ h => h), h4.change hS hw (fun _ _ _ h => h.change hS hw), h5⟩
theorem SAt.below {w w' : World} {x : ST} {cs : List Value} (h : SAt (Live w) w x cs) (hb : Below w.heap.size w w') : SAt (Live w') w' x cs :=
  h.change (fun b hb' => Nat.lt_of_lt_of_le hb' hb.size) (fun b hb' => hb.block b hb')
theorem VAt.shape {S : Nat → Prop} {w : World} {t : VT} {cs : List Value} (h : VAt S w t cs) : ∃ k n b s a m c, cs = [.int .i64 k, .int .i64 n, .int .u64 b, .string s, .slice a m c] := by
  obtain ⟨k, n, b, s, l⟩ := t
  obtain ⟨a, cap, rfl, _⟩ := VAt_mk.1 h
  exact ⟨_, _, _, _, _, _, _, rfl⟩
theorem SAt.len {S : Nat → Prop} {w : World} {x : ST} {cs : List Value} (h : SAt S w x cs) : cs.length = 31 := by
  obtain ⟨A, R, a1, c1, a2, c2, rfl, h1, h2, _⟩ := h
  simp [h1.len, h2.len]
/-- the cells of a state -/
theorem SAt.cells {S : Nat → Prop} {w : World} {x : ST} {cs : List Value} (h : SAt S w x cs) :
    cs[0]? = some (.int .i64 x.run) ∧ cs[1]? = some (.int .i64 x.status) ∧ cs[2]? = some (.int .i64 x.count) ∧ cs[3]? = some (.int .i64 x.time) ∧ cs[4]? = some (.int .i64 x.deadline) ∧ cs[5]? = some (.int .i64 x.from_) ∧ cs[6]? = some (.int .i64 x.signals) ∧ cs[7]? = some (.string x.type) ∧
    cs[13]? = some (.int .i64 x.first) ∧ cs[14]? = some (.int .u64 (x.coef : Int)) ∧ cs[15]? = some (.int .i64 x.most) ∧ cs[16]? = some (.int .i64 x.task.state) ∧ cs[17]? = some (.int .i64 x.task.attempt) ∧ cs[18]? = some (.int .i64 x.task.due) ∧ cs[19]? = some (.int .i64 x.task.event) ∧ cs[20]? = some (.int .i64 x.task.seen) ∧
    cs[21]? = some (.bool x.fresh) ∧ cs[22]? = some (.bool x.cancel) ∧ cs[30]? = some (.string x.reason) ∧
    ∃ A R a1 c1 a2 c2, (∀ j u, A[j]? = some u → cs[8 + j]? = some u) ∧ (∀ j u, R[j]? = some u → cs[25 + j]? = some u) ∧ cs[23]? = some (.slice a1 x.timers.length c1) ∧ cs[24]? = some (.slice a2 x.updates.length c2) ∧
    VAt S w x.input A ∧ VAt S w x.result R ∧ Sl 2 (TMAt S w) S w a1 x.timers ∧ Sl 12 (UAt S w) S w a2 x.updates ∧ x.timers.length ≤ c1 ∧ c1 ≤ 9223372036854775807 ∧ x.timers.length * 24 ≤ 140737488351232 ∧ x.updates.length ≤ c2 ∧ c2 ≤ 9223372036854775807 ∧ x.updates.length * 152 ≤ 140737488351232 ∧ x.coef < 18446744073709551616 := by
  obtain ⟨A, R, a1, c1, a2, c2, rfl, h1, h2, h3⟩ := h
  obtain ⟨k0, k1, k2, k3, k4, k5, k6, rfl⟩ := h1.shape
  obtain ⟨r0, r1, r2, r3, r4, r5, r6, rfl⟩ := h2.shape
  refine ⟨rfl, rfl, rfl, rfl, rfl, rfl, rfl, rfl, rfl, rfl, rfl, rfl, rfl, rfl, rfl, rfl, rfl, rfl, rfl, _, _, a1, c1, a2, c2, ?_, ?_, rfl, rfl, h1, h2, h3⟩
  · intro j u hu
    match j, hu with
    | 0, hu | 1, hu | 2, hu | 3, hu | 4, hu => exact hu
    | j + 5, hu => simp at hu
  · intro j u hu
    match j, hu with
    | 0, hu | 1, hu | 2, hu | 3, hu | 4, hu => exact hu
    | j + 5, hu => simp at hu
theorem SAt.one {S : Nat → Prop} {w : World} {x : ST} {cs : List Value} (h : SAt S w x cs) : ∀ u ∈ cs, u.oneCell' = true := by
  obtain ⟨A, R, a1, c1, a2, c2, rfl, h1, h2, h3⟩ := h
  obtain ⟨k0, k1, k2, k3, k4, k5, k6, rfl⟩ := h1.shape
  obtain ⟨r0, r1, r2, r3, r4, r5, r6, rfl⟩ := h2.shape
  intro u hu
  simp only [List.cons_append, List.nil_append, List.mem_cons, List.not_mem_nil, or_false] at hu
  rcases hu with rfl | rfl | rfl | rfl | rfl | rfl | rfl | rfl | rfl | rfl | rfl | rfl | rfl | rfl | rfl | rfl | rfl | rfl | rfl | rfl | rfl | rfl | rfl | rfl | rfl | rfl | rfl | rfl | rfl | rfl | rfl <;> rfl
theorem s_size {cs : List Value} (h : cs.length = 31) : (Try.prog.info? 33).map (·.size) = some cs.toArray.size := by
  have e : (Try.prog.info? 33).map (·.size) = some 31 := by kernel_rfl
  rw [e]; simp [h]
theorem s_size' {cs : List Value} (h : cs.length = 31) : (Try.prog.info? 33).map (·.size) = some cs.length := by
  have e : (Try.prog.info? 33).map (·.size) = some 31 := by kernel_rfl
  rw [e]; simp [h]
theorem cell_later {w : World} {g i : Nat} {v : Value} (h : w.cell? ⟨g, i, none⟩ = some v) (o : Obj) : (w.alloc o).cell? ⟨g, i, none⟩ = some v := by
  rw [World.cell?_alloc_past _ _ _ (block_lt_of_cell h)]; exact h
theorem box_cell {w : World} {g : Nat} {C : Array Value} {t : TypeId} (h : w.heap[g]? = some (.cells C t (0, 0))) (i : Nat) (v : Value) (hv : C[i]? = some v) : w.cell? ⟨g, i, none⟩ = some v := by rw [cell_of_row _ _ _ _ _ _ h]; exact hv
theorem box_range {w : World} {g : Nat} {cs : List Value} {t : TypeId} (h : w.heap[g]? = some (.cells cs.toArray t (0, 0))) : w.rangeAt g 0 cs := fun j v hv => box_cell h _ _ (by simpa using hv)
def BoolP (w : World) (b : Bool) (e : Ending) (w' : World) : Prop := e = .returned (.bool b) ∧ Below w.heap.size w w'
end Go.Proofs.Ytidoacdigedlnaa
