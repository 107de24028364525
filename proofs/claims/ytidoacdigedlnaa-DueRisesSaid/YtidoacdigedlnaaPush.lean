/- A row of one's own that grows by an element with depth. -/
import Derived.Test.YtidoacdigedlnaaMem
set_option linter.unusedVariables false
namespace Go.Proofs.Ytidoacdigedlnaa
open Go.RowKit

theorem alloc_setRow (w : World) (z cs : Array Value) (t : TypeId) : (w.alloc (.cells z t)).setRow w.heap.size cs = w.alloc (.cells cs t) := by
  have e : ((w.alloc (.cells z t)).setRow w.heap.size cs).heap = (w.alloc (.cells cs t)).heap := by
    apply Array.ext_getElem?
    intro i
    by_cases hi : i = w.heap.size
    · subst hi
      rw [setRow_heap (w.alloc (.cells z t)) w.heap.size z cs t (0, 0) (heap_alloc_new w _), heap_alloc_new]
    · rw [setRow_other _ _ _ _ hi]
      by_cases hlt : i < w.heap.size
      · rw [Below.heap_alloc w _ i hlt, Below.heap_alloc w _ i hlt]
      · rw [Array.getElem?_eq_none (by simp; omega), Array.getElem?_eq_none (by simp; omega)]
  show { w.alloc (.cells z t) with heap := ((w.alloc (.cells z t)).setRow w.heap.size cs).heap } = _
  rw [e]; rfl
theorem below_setRow {B : Nat} {a w : World} (h : Below B a w) {g : Nat} (hg : B ≤ g) (cs : Array Value) : Below B a (w.setRow g cs) :=
  h.trans ⟨rfl, rfl, rfl, by simp, fun k hk => setRow_other w g k cs (by omega)⟩
theorem own_below {w w' : World} {B n s : Nat} {e : TypeId} {v : Value} {xs : List Value} (h : w.ownsRow B e s v n xs) (hb : Below w.heap.size w w') : w'.ownsRow B e s v n xs := by
  obtain ⟨h1, h2⟩ := h
  refine ⟨h1, ?_⟩
  rcases h2 with h2 | ⟨g, cap, cur, hv, hg, hh, r⟩
  · exact .inl h2
  · exact .inr ⟨g, cap, cur, hv, hg, by rw [hb.block g (Array.getElem?_eq_some_iff.1 hh).1]; exact hh, r⟩
theorem own_mono {w : World} {B B' n s : Nat} {e : TypeId} {v : Value} {xs : List Value} (h : w.ownsRow B e s v n xs) (hB : B' ≤ B) : w.ownsRow B' e s v n xs := by
  obtain ⟨h1, h2⟩ := h
  refine ⟨h1, ?_⟩
  rcases h2 with h2 | ⟨g, cap, cur, hv, hg, r⟩
  · exact .inl h2
  · exact .inr ⟨g, cap, cur, hv, by omega, r⟩
theorem own_from {w : World} {B n s : Nat} {e : TypeId} {v : Value} {xs : List Value} (h : w.ownsRow B e s v n xs) : ∀ k, v.ownBlock = some k → B ≤ k ∧ k < w.heap.size := by
  intro k hk
  rcases h.2 with ⟨rfl, _⟩ | ⟨g, cap, cur, rfl, hg, hh, _⟩
  · cases hk
  · cases hk; exact ⟨hg, (Array.getElem?_eq_some_iff.1 hh).1⟩
theorem own_len {w : World} {B n s : Nat} {e : TypeId} {v : Value} {xs : List Value} (h : w.ownsRow B e s v n xs) : ∃ a cap, v = .slice a n cap ∧ (a = none → n = 0 ∧ cap = 0) ∧ n ≤ cap ∧ cap ≤ 9223372036854775807 := by
  rcases h.2 with ⟨rfl, rfl⟩ | ⟨g, cap, cur, rfl, hg, _, hc, hm, _⟩
  · exact ⟨none, 0, rfl, fun _ => ⟨rfl, rfl⟩, Nat.le_refl _, by decide⟩
  · exact ⟨_, cap, rfl, (fun h => by cases h), hc, hm⟩
theorem own_range {w : World} {B n s : Nat} {e : TypeId} {v : Value} {xs : List Value} (h : w.ownsRow B e s v n xs) (hn : 0 < n) : ∃ g cap, v = .slice (some ⟨g, 0, none⟩) n cap ∧ B ≤ g ∧ g < w.heap.size ∧ n ≤ cap ∧ cap ≤ 9223372036854775807 ∧ w.rangeAt g 0 xs := by
  rcases h.2 with ⟨rfl, rfl⟩ | ⟨g, cap, cur, rfl, hg, hh, hc, hm, hz, ht⟩
  · omega
  · refine ⟨g, cap, rfl, hg, (Array.getElem?_eq_some_iff.1 hh).1, hc, hm, fun i u hu => ?_⟩
    rw [cell_of_row w g _ _ _ _ hh, Nat.zero_add]
    rw [← ht, List.getElem?_take] at hu
    split at hu
    · simpa using hu
    · cases hu

/-- a family of readings that is carried from world to world -/
def Carried {α : Type} (P : (Nat → Prop) → World → α → List Value → Prop) : Prop :=
  ∀ (S S' : Nat → Prop) (w w' : World) (t : α) (cs : List Value), (∀ b, S b → S' b) → (∀ b, S b → w'.heap[b]? = w.heap[b]?) → P S w t cs → P S' w' t cs
theorem carried_v : Carried VAt := fun _ _ _ _ t cs h1 h2 h => VAt.change h1 h2 t cs h
theorem carried_t : Carried TMAt := fun _ _ _ _ _ _ _ _ h => h
theorem carried_e : Carried EAt := fun _ _ _ _ _ _ _ _ h => h
theorem carried_u : Carried UAt := fun _ _ _ _ _ _ h1 h2 h => h.change h1 h2
/-- what a call has collected -/
def Out {α : Type} (P : (Nat → Prop) → World → α → List Value → Prop) (n : Nat) (e : TypeId) (B : Nat) (w : World) (v : Value) (l : List α) : Prop :=
  ∃ xs, w.ownsRow B e n v l.length xs ∧ Els n (P (fun b => B ≤ b ∧ b < w.heap.size ∧ v.ownBlock ≠ some b) w) l xs
section
variable {α : Type} {P : (Nat → Prop) → World → α → List Value → Prop} {n : Nat} {e : TypeId} {B : Nat} {w w' : World} {v v' : Value} {l : List α} {t : α}
theorem Out.nil (P : (Nat → Prop) → World → α → List Value → Prop) (n : Nat) (e : TypeId) (B : Nat) (w : World) : Out P n e B w (.slice none 0 0) [] :=
  ⟨[], ⟨by simp, .inl ⟨rfl, rfl⟩⟩, rfl⟩
theorem Out.below (hP : Carried P) (h : Out P n e B w v l) (hb : Below w.heap.size w w') : Out P n e B w' v l := by
  obtain ⟨xs, h1, h2⟩ := h
  exact ⟨xs, own_below h1 hb, Els.mono (fun t cs h => hP _ _ _ _ t cs (fun b hb' => ⟨hb'.1, Nat.lt_of_lt_of_le hb'.2.1 hb.size, hb'.2.2⟩) (fun b hb' => hb.block b hb'.2.1) h) h2⟩
theorem Out.mono (hP : Carried P) {B' : Nat} (h : Out P n e B w v l) (hB : B' ≤ B) : Out P n e B' w v l := by
  obtain ⟨xs, h1, h2⟩ := h
  exact ⟨xs, own_mono h1 hB, Els.mono (fun t cs h => hP _ _ _ _ t cs (fun b hb' => ⟨Nat.le_trans hB hb'.1, hb'.2⟩) (fun b hb' => rfl) h) h2⟩
theorem Out.len (h : Out P n e B w v l) : ∃ a cap, v = .slice a l.length cap ∧ (a = none → l.length = 0 ∧ cap = 0) ∧ l.length ≤ cap ∧ cap ≤ 9223372036854775807 := by
  obtain ⟨xs, h1, h2⟩ := h
  exact own_len h1
/-- as a slice that reads as the list -/
theorem Out.sl (hP : Carried P) (h : Out P n e B w v l) : ∃ a cap, v = .slice a l.length cap ∧ (a = none → l.length = 0 ∧ cap = 0) ∧ l.length ≤ cap ∧ cap ≤ 9223372036854775807 ∧ Sl n (P (fun b => B ≤ b ∧ b < w.heap.size) w) (fun b => B ≤ b ∧ b < w.heap.size) w a l := by
  obtain ⟨a, cap, rfl, h3, h4, h5⟩ := h.len
  obtain ⟨xs, h1, h2⟩ := h
  refine ⟨a, cap, rfl, h3, h4, h5, xs, Els.mono (fun t cs h => hP _ _ _ _ t cs (fun b hb' => ⟨hb'.1, hb'.2.1⟩) (fun b hb' => rfl) h) h2, fun hl => ?_⟩
  obtain ⟨g, cap', e1, e2, e3, _, _, e4⟩ := own_range h1 (List.length_pos_iff.2 hl)
  cases e1
  exact ⟨g, 0, rfl, ⟨e2, e3⟩, e4⟩
/-- one more -/
theorem Out.push (hP : Carried P) {S : Nat → Prop} {xs cs : List Value} (h1 : w.ownsRow B e n v l.length xs) (h2 : Els n (P (fun b => B ≤ b ∧ b < w.heap.size ∧ v.ownBlock ≠ some b) w) l xs) (hc : cs.length = n) (ht : P S w t cs)
    (hS : ∀ b, S b → B ≤ b ∧ b < w.heap.size ∧ v.ownBlock ≠ some b) (k1 : w'.ownsRow B e n v' (l.length + 1) (xs ++ cs)) (k2 : w.grownBy w' v.ownBlock) (k3 : v'.ownBlock = v.ownBlock ∨ v'.ownBlock = some w.heap.size) : Out P n e B w' v' (l ++ [t]) := by
  have hk : ∀ b, (B ≤ b ∧ b < w.heap.size ∧ v.ownBlock ≠ some b) → w'.heap[b]? = w.heap[b]? := fun b hb => k2.block b hb.2.1 (fun e => hb.2.2 e.symm)
  have hn : ∀ b, (B ≤ b ∧ b < w.heap.size ∧ v.ownBlock ≠ some b) → (B ≤ b ∧ b < w'.heap.size ∧ v'.ownBlock ≠ some b) := fun b hb => ⟨hb.1, Nat.lt_of_lt_of_le hb.2.1 k2.size, by
    rcases k3 with e | e
    · rw [e]; exact hb.2.2
    · rw [e]; intro e'; cases e'; exact absurd hb.2.1 (Nat.lt_irrefl _)⟩
  refine ⟨xs ++ cs, by simpa using k1, Els.snoc hc (hP _ _ _ _ t cs (fun b hb => hn b (hS b hb)) (fun b hb => hk b (hS b hb)) ht) (Els.mono (fun t cs h => hP _ _ _ _ t cs hn hk h) h2)⟩
end
/-- AT THE OPERATION: 'out = append(out, x)', x of one element that was just laid in block g -/
theorem wpList_push {Q' : Program} {α : Type} {P : (Nat → Prop) → World → α → List Value → Prop} (hP : Carried P) {w : World} {ops : Array Oper} {rest : List Oper} {o : Oper} {a : Act} {Q : Exit → Act → World → Prop} (hgd : o.guard = none) (s x : Operand) (ty : TypeId)
    (ho : o.op = .call { callee := .builtin .append, args := #[s, x], argTypes := #[ty, ty] })
    (B : Nat) (e : TypeId) (i : TypeInfo) (z : Value) (size bytes : Nat) (hu : Q'.underlying ty = some (.slice e)) (hi : Q'.info? e = some i) (hz : i.zero = some z)
    (hsize : i.size = size) (hby : i.bytes = bytes) (hzs : z.cells.size = size) (hsz : 0 < size)
    (v : Value) (l : List α) (hs : a.eval s = v) (hout : Out P size e B w v l)
    (g c : Nat) (t : α) (cs : List Value) (S : Nat → Prop) (hx : a.eval x = .slice (some ⟨g, 0, none⟩) 1 c) (hc : cs.length = size) (ht : P S w t cs) (hS : ∀ b, S b → B ≤ b ∧ b < w.heap.size ∧ v.ownBlock ≠ some b) (hr : w.rangeAt g 0 cs) (h1 : ∀ u ∈ cs, u.oneCell' = true)
    (h63 : l.length + 1 ≤ maxLen) (hbytes : (l.length + 1) * bytes ≤ 140737488355328) (hbase : B ≤ w.heap.size)
    (h : ∀ v' w', Out P size e B w' v' (l ++ [t]) → w.grownBy w' v.ownBlock → Below B w w' → wpList Q' ops Q rest (a.put o.dst v') w') : wpList Q' ops Q (o :: rest) a w := by
  obtain ⟨xs, o1, o2⟩ := hout
  refine wpList_append_own_at w hgd s x ty ho B e i z size bytes hu hi hz hsize hby hzs hsz v l.length xs hs o1 ⟨g, 0, none⟩ 1 c cs hx (by omega) (fun j u hu' => ?_) h1 h63 hbytes hbase fun v' w' k1 k2 _ k3 => ?_
  · rw [Addr.add_mid]; exact hr j u hu'
  · exact h v' w' (Out.push hP o1 o2 hc ht hS k1 k2 k3) k2 ((Below.refl _ _).grown k2 hbase fun k hk => (own_from o1 k hk).1)
theorem VAt.one {S : Nat → Prop} {w : World} {t : VT} {cs : List Value} (h : VAt S w t cs) : ∀ u ∈ cs, u.oneCell' = true := by
  obtain ⟨k, n, b, s, l⟩ := t
  obtain ⟨a, cap, rfl, _⟩ := VAt_mk.1 h
  intro u hu
  simp only [List.mem_cons, List.not_mem_nil, or_false] at hu
  rcases hu with rfl | rfl | rfl | rfl | rfl <;> rfl
theorem all_one {cs : List Value} (h : ∀ u ∈ cs, u.oneCell' = true) : cs.toArray.all (·.oneCell') = true := by
  rw [Array.all_eq_true]
  intro i hi
  simp at hi
  exact h _ (by simp)
theorem range_new (w : World) (cs : List Value) (t : TypeId) : (w.alloc (.cells cs.toArray t)).rangeAt w.heap.size 0 cs := fun j v hv => by
  rw [cell_of_row _ _ _ _ _ _ (heap_alloc_new w _), Nat.zero_add]; simpa using hv
theorem foldl_at (i : Nat) : ∀ (cs : List Value) (k : Nat) (Z : Array Value), (List.foldl (fun cs x => cs.setIfInBounds x.snd x.fst) Z (cs.zipIdx k))[i]? = if k ≤ i ∧ i < k + cs.length ∧ i < Z.size then cs[i - k]? else Z[i]?
  | [], k, Z => by simp; intro h1 h2; omega
  | c :: cs, k, Z => by
    rw [List.zipIdx_cons, List.foldl_cons, foldl_at i cs (k + 1)]
    simp only [Array.size_setIfInBounds, List.length_cons]
    by_cases h : k + 1 ≤ i ∧ i < k + 1 + cs.length ∧ i < Z.size
    · rw [if_pos h, if_pos (by omega), show i - k = i - (k + 1) + 1 by omega, List.getElem?_cons_succ]
    · rw [if_neg h]
      by_cases hk : i = k
      · subst hk
        by_cases hz : i < Z.size
        · rw [if_pos (by omega)]; simp [hz]
        · rw [if_neg (by omega), Array.getElem?_eq_none (by simp; omega), Array.getElem?_eq_none (by omega)]
      · rw [if_neg (by omega), Array.getElem?_setIfInBounds_ne (by omega)]
/-- what 'buildSlice' lays of one element that is a list of cells -/
theorem foldl_cells {cs : List Value} {Z : Array Value} (h : cs.length = Z.size) : List.foldl (fun cs x => cs.setIfInBounds x.snd x.fst) Z cs.zipIdx = cs.toArray := by
  apply Array.ext_getElem?
  intro i
  rw [foldl_at]
  by_cases hi : i < cs.length
  · rw [if_pos (by omega)]; simp
  · rw [if_neg (by omega), Array.getElem?_eq_none (by omega), Array.getElem?_eq_none (by simp; omega)]
end Go.Proofs.Ytidoacdigedlnaa
