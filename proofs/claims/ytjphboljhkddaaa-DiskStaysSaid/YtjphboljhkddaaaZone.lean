/- The map of zones: what each operation on it does. -/
import Derived.Test.YtjphboljhkddaaaMem
import Derived.MapKept
import Derived.Laws.IdiomRangeMap
set_option linter.unusedVariables false
namespace Go.Proofs.Ytjphboljhkddaaa
open Go.RowKit

theorem key_ok (z : Int) : MapKept.IsKey (.int .i64) (.int .i64 z) := by simp [MapKept.IsKey]
def zVal (a : Option Addr) (n cap : Nat) (s : Int) : Value := .agg #[.slice a n cap, .int .i64 s]
abbrev ZE := Int × Value × Nat
def ent (e : ZE) : MapEntry := { key := .int .i64 e.1, val := e.2.1, born := e.2.2 }
def ents (L : List ZE) : List MapEntry := L.map ent
def zfind : List ZE → Int → Option Value
  | [], _ => none
  | e :: L, z => if z = e.1 then some e.2.1 else zfind L z
def upd : List ZE → Int → Value → Nat → List ZE
  | [], z, v, c => [(z, v, c)]
  | e :: L, z, v, c => if z = e.1 then (e.1, v, e.2.2) :: L else e :: upd L z v c
def del : List ZE → Int → List ZE
  | [], _ => []
  | e :: L, z => if z = e.1 then L else e :: del L z
def idx : List ZE → Int → Option (Nat × Value)
  | [], _ => none
  | e :: L, z => if z = e.1 then some (0, e.2.1) else (idx L z).map fun p => (p.1 + 1, p.2)
theorem idx_find (L : List ZE) (z : Int) : (idx L z).map (·.2) = zfind L z := by
  induction L with
  | nil => rfl
  | cons e L ih =>
    simp only [idx, zfind]
    split
    · rfl
    · rw [← ih, Option.map_map]; rfl
theorem find_ents (z : Int) : ∀ (L : List ZE) (i : Nat), Instr.findNow (.int .i64) (.int .i64 z) (ents L) i = some ((idx L z).map fun p => (i + p.1, p.2))
  | [], i => rfl
  | e :: L, i => by
    have e1 : Instr.sameNow (.int .i64) (.int .i64 z) (ent e).key = some (z == e.1) := by simp [Instr.sameNow, ent]
    show Instr.findNow _ _ (ent e :: ents L) i = _
    simp only [Instr.findNow, e1, idx]
    by_cases h : z = e.1
    · rw [if_pos h, beq_iff_eq.2 h]; rfl
    · rw [if_neg h, beq_eq_false_iff_ne.2 h]
      simp only
      rw [find_ents z L (i + 1), Option.map_map]
      congr 1
      cases idx L z with
      | none => rfl
      | some p => simp; omega
theorem upd_idx (z : Int) (v : Value) (c : Nat) : ∀ (L : List ZE) (j : Nat) (u : Value), idx L z = some (j, u) → (ents L).modify j (fun e => { e with key := .int .i64 z, val := v }) = ents (upd L z v c)
  | [], j, u, h => by cases h
  | e :: L, j, u, h => by
    simp only [idx] at h
    by_cases hz : z = e.1
    · rw [if_pos hz] at h; cases h
      simp [ents, upd, hz, ent]
    · rw [if_neg hz] at h
      cases hi : idx L z with
      | none => rw [hi] at h; cases h
      | some p =>
        rw [hi] at h; cases h
        have := upd_idx z v c L p.1 p.2 hi
        simp only [upd, if_neg hz]
        show (ent e :: ents L).modify (p.1 + 1) _ = ent e :: ents (upd L z v c)
        rw [List.modify_succ_cons, this]
theorem upd_none (z : Int) (v : Value) (c : Nat) : ∀ (L : List ZE), idx L z = none → ents L ++ [ent (z, v, c)] = ents (upd L z v c)
  | [], _ => rfl
  | e :: L, h => by
    simp only [idx] at h
    by_cases hz : z = e.1
    · rw [if_pos hz] at h; cases h
    · rw [if_neg hz] at h
      simp only [upd, if_neg hz]
      have := upd_none z v c L (by cases hi : idx L z with | none => rfl | some p => rw [hi] at h; cases h)
      show ent e :: (ents L ++ _) = ent e :: ents (upd L z v c)
      rw [this]
theorem del_idx (z : Int) : ∀ (L : List ZE) (j : Nat) (u : Value), idx L z = some (j, u) → (ents L).eraseIdx j = ents (del L z)
  | [], j, u, h => by cases h
  | e :: L, j, u, h => by
    simp only [idx] at h
    by_cases hz : z = e.1
    · rw [if_pos hz] at h; cases h
      simp [ents, del, hz]
    · rw [if_neg hz] at h
      cases hi : idx L z with
      | none => rw [hi] at h; cases h
      | some p =>
        rw [hi] at h; cases h
        have := del_idx z L p.1 p.2 hi
        simp only [del, if_neg hz]
        show (ent e :: ents L).eraseIdx (p.1 + 1) = ent e :: ents (del L z)
        rw [List.eraseIdx_cons_succ, this]
theorem del_none (z : Int) : ∀ (L : List ZE), idx L z = none → del L z = L
  | [], _ => rfl
  | e :: L, h => by
    simp only [idx] at h
    by_cases hz : z = e.1
    · rw [if_pos hz] at h; cases h
    · rw [if_neg hz] at h
      simp only [del, if_neg hz]
      rw [del_none z L (by cases hi : idx L z with | none => rfl | some p => rw [hi] at h; cases h)]
theorem find_upd (z z' : Int) (v : Value) (c : Nat) : ∀ (L : List ZE), zfind (upd L z v c) z' = if z' = z then some v else zfind L z'
  | [] => by simp [upd, zfind]
  | e :: L => by
    simp only [upd]
    by_cases hz : z = e.1
    · rw [if_pos hz]
      by_cases h' : z' = z
      · simp [zfind, h', hz]
      · simp [zfind, h', ← hz]
    · rw [if_neg hz]
      simp only [zfind]
      rw [find_upd z z' v c L]
      by_cases h' : z' = e.1
      · have : ¬ e.1 = z := fun h => hz h.symm
        simp [h', this]
      · simp [h']
theorem find_mem (z : Int) : ∀ (L : List ZE), z ∉ L.map (·.1) → zfind L z = none
  | [], _ => rfl
  | e :: L, h => by
    simp only [List.map_cons, List.mem_cons, not_or] at h
    simp only [zfind, if_neg h.1]
    exact find_mem z L h.2
theorem find_del (z z' : Int) : ∀ (L : List ZE), (L.map (·.1)).Nodup → zfind (del L z) z' = if z' = z then none else zfind L z'
  | [], _ => by simp [del, zfind]
  | e :: L, hn => by
    have hn' := List.nodup_cons.1 hn
    simp only [del]
    by_cases hz : z = e.1
    · rw [if_pos hz]
      by_cases h' : z' = z
      · rw [if_pos h', h', hz]; exact find_mem _ _ hn'.1
      · rw [if_neg h']; simp [zfind, ← hz, h']
    · rw [if_neg hz]
      simp only [zfind]
      rw [find_del z z' L hn'.2]
      by_cases h' : z' = e.1
      · have : ¬ e.1 = z := fun h => hz h.symm
        simp [h', this]
      · simp [h']
theorem keys_upd (z : Int) (v : Value) (c : Nat) : ∀ (L : List ZE), (upd L z v c).map (·.1) = if z ∈ L.map (·.1) then L.map (·.1) else L.map (·.1) ++ [z]
  | [] => by simp [upd]
  | e :: L => by
    simp only [upd]
    by_cases hz : z = e.1
    · rw [if_pos hz]; simp [hz]
    · rw [if_neg hz]
      simp only [List.map_cons, List.mem_cons, hz, false_or]
      rw [keys_upd z v c L]
      split <;> simp
theorem keys_del (z : Int) : ∀ (L : List ZE), ((del L z).map (·.1)).Sublist (L.map (·.1))
  | [] => by simp [del]
  | e :: L => by
    simp only [del]
    by_cases hz : z = e.1
    · rw [if_pos hz]; simp
    · rw [if_neg hz]; simp [keys_del z L]
theorem nodup_upd (z : Int) (v : Value) (c : Nat) (L : List ZE) (h : (L.map (·.1)).Nodup) : ((upd L z v c).map (·.1)).Nodup := by
  rw [keys_upd]
  split
  · exact h
  · rename_i hm
    rw [List.nodup_append]
    refine ⟨h, by simp, ?_⟩
    intro a ha b hb
    rw [List.mem_singleton.1 hb]
    intro e; subst e; exact hm ha

/-- the map's block -/
def MapAt (w : World) (m : Nat) (L : List ZE) : Prop := ∃ clock, w.heap[m]? = some (.map (ents L).toArray clock) ∧ (∀ e ∈ L, e.2.2 < clock) ∧ (L.map (·.2.2)).Nodup ∧ (L.map (·.1)).Nodup
def setMap (w : World) (m : Nat) (o : Obj) : World := { w with heap := w.heap.setIfInBounds m o }
theorem born_upd_some (z : Int) (v : Value) (c : Nat) : ∀ (L : List ZE) (p : Nat × Value), idx L z = some p → (upd L z v c).map (·.2.2) = L.map (·.2.2)
  | [], p, h => by cases h
  | e :: L, p, h => by
    simp only [idx] at h
    by_cases hz : z = e.1
    · simp [upd, hz]
    · rw [if_neg hz] at h
      cases hi : idx L z with
      | none => rw [hi] at h; cases h
      | some q => simp only [upd, if_neg hz, List.map_cons, born_upd_some z v c L q hi]
theorem born_upd_none (z : Int) (v : Value) (c : Nat) : ∀ (L : List ZE), idx L z = none → (upd L z v c).map (·.2.2) = L.map (·.2.2) ++ [c]
  | [], _ => rfl
  | e :: L, h => by
    simp only [idx] at h
    by_cases hz : z = e.1
    · rw [if_pos hz] at h; cases h
    · rw [if_neg hz] at h
      have := born_upd_none z v c L (by cases hi : idx L z with | none => rfl | some p => rw [hi] at h; cases h)
      simp only [upd, if_neg hz, List.map_cons, this, List.cons_append]
theorem born_del (z : Int) : ∀ (L : List ZE), ((del L z).map (·.2.2)).Sublist (L.map (·.2.2))
  | [] => by simp [del]
  | e :: L => by
    simp only [del]
    by_cases hz : z = e.1
    · rw [if_pos hz]; simp
    · rw [if_neg hz]; simp [born_del z L]
theorem born_lt {L L' : List ZE} {c : Nat} (h : ∀ b ∈ L'.map (·.2.2), b < c) : ∀ e ∈ L', e.2.2 < c := fun e he => h _ (List.mem_map.2 ⟨e, he, rfl⟩)
theorem idx_key (z : Int) : ∀ (L : List ZE) (p : Nat × Value), idx L z = some p → (Option.map (fun x : MapEntry => x.key) (ents L)[p.1]?) = some (.int .i64 z)
  | [], p, h => by cases h
  | e :: L, p, h => by
    simp only [idx] at h
    by_cases hz : z = e.1
    · rw [if_pos hz] at h; cases h
      simp [ents, ent, hz]
    · rw [if_neg hz] at h
      cases hi : idx L z with
      | none => rw [hi] at h; cases h
      | some q =>
        rw [hi] at h; cases h
        have := idx_key z L q hi
        simpa [ents] using this
theorem key_stays (w : World) (z : Int) : (Instr.keyThatStays (.int .i64 z) (.int .i64 z)).run Try.prog w = .ok (.int .i64 z) w := by
  have : Instr.sameBits 10000 (.int .i64 z) (.int .i64 z) = true := by unfold Instr.sameBits; simp
  unfold Instr.keyThatStays
  rw [if_pos this]; rfl
theorem key_checked (w : World) (z : Int) (b : Bool) : (Instr.checkKey b 10000 3 (.int .i64 z)).run Try.prog w = .ok () w := MapKept.run_checkKey (k := .int .i64 z) Try.underlying3 (key_ok z) _ 9999
theorem lookup_any (w : World) (m : Nat) (L : List ZE) (z : Int) (h : MapAt w m L) : (Instr.lookup 40 (.map (some m)) (.int .i64 z) false).run Try.prog w = .ok ((zfind L z).getD (zVal none 0 0 0)) w := by
  obtain ⟨clock, hb, _⟩ := h
  have hf := find_ents z L 0
  have hc := key_checked w z
  have hk := MapKept.run_findKey (P := Try.prog) (w := w) Try.underlying3 hf
  rw [← idx_find]
  unfold Instr.lookup
  simp only [Sem.run_bind, run_underlying Try.underlying40, Result.andThen, MapKept.run_getObj_map hb]
  cases hi : idx L z with
  | none => rw [hi] at hk; simp [hk, hc, zVal]
  | some p => rw [hi] at hk; simp [hk, hc]
theorem lookup_ok (w : World) (m : Nat) (L : List ZE) (z : Int) (h : MapAt w m L) : (Instr.lookup 40 (.map (some m)) (.int .i64 z) true).run Try.prog w = .ok (.tuple #[(zfind L z).getD (zVal none 0 0 0), .bool (zfind L z).isSome]) w := by
  obtain ⟨clock, hb, _⟩ := h
  have hf := find_ents z L 0
  have hc := key_checked w z
  have hk := MapKept.run_findKey (P := Try.prog) (w := w) Try.underlying3 hf
  rw [← idx_find]
  unfold Instr.lookup
  simp only [Sem.run_bind, run_underlying Try.underlying40, Result.andThen, MapKept.run_getObj_map hb]
  cases hi : idx L z with
  | none => rw [hi] at hk; simp [hk, hc, zVal]
  | some p => rw [hi] at hk; simp [hk, hc]
theorem mapAt_set {w : World} {m : Nat} {o : Obj} (h : w.heap[m]? = some o) (L : List ZE) (clock : Nat) (h1 : ∀ e ∈ L, e.2.2 < clock) (h2 : (L.map (·.2.2)).Nodup) (h3 : (L.map (·.1)).Nodup) : MapAt (setMap w m (.map (ents L).toArray clock)) m L :=
  ⟨clock, (MapKept.heap_set h).1, h1, h2, h3⟩
/-- what is written at a key -/
theorem update_any (w : World) (m : Nat) (L : List ZE) (z : Int) (v : Value) (h : MapAt w m L) : ∃ o L', (Instr.mapUpdate 40 (.map (some m)) (.int .i64 z) v).run Try.prog w = .ok () (setMap w m o) ∧ MapAt (setMap w m o) m L' ∧ (∀ z', zfind L' z' = if z' = z then some v else zfind L z') := by
  obtain ⟨clock, hb, h1, h2, h3⟩ := h
  have hf := find_ents z L 0
  have hc := key_checked w z
  have hk := MapKept.run_findKey (P := Try.prog) (w := w) Try.underlying3 hf
  unfold Instr.mapUpdate
  simp only [Sem.run_bind, run_underlying Try.underlying40, Result.andThen, MapKept.run_getObj_map hb]
  cases hi : idx L z with
  | none =>
    rw [hi] at hk
    refine ⟨.map (ents (upd L z v clock)).toArray (clock + 1), upd L z v clock, ?_, mapAt_set hb _ _ ?_ ?_ (nodup_upd z v clock L h3), fun z' => find_upd z z' v clock L⟩
    · have e1 := upd_none z v clock L hi
      simp [hk, hc]
      have e2 : ents L ++ [{ key := Value.int IntKind.i64 z, val := v, born := clock }] = ents (upd L z v clock) := e1
      rw [e2]
      exact MapKept.run_setObj_map _ hb
    · apply born_lt (L := L)
      rw [born_upd_none z v clock L hi]
      intro b hb'
      rcases List.mem_append.1 hb' with h | h
      · obtain ⟨e, he, rfl⟩ := List.mem_map.1 h
        have := h1 e he; omega
      · rw [List.mem_singleton.1 h]; omega
    · rw [born_upd_none z v clock L hi, List.nodup_append]
      refine ⟨h2, by simp, ?_⟩
      intro a ha b hb' e
      rw [List.mem_singleton.1 hb'] at e
      obtain ⟨e', he', rfl⟩ := List.mem_map.1 ha
      have := h1 e' he'
      omega
  | some p =>
    rw [hi] at hk
    refine ⟨.map (ents (upd L z v clock)).toArray clock, upd L z v clock, ?_, mapAt_set hb _ _ ?_ ?_ (nodup_upd z v clock L h3), fun z' => find_upd z z' v clock L⟩
    · have e1 := upd_idx z v clock L p.1 p.2 hi
      have e3 := idx_key z L p hi
      simp [hk, hc]
      rw [e3]
      show ((Instr.keyThatStays (.int .i64 z) (.int .i64 z)).run Try.prog w).andThen _ = _
      rw [key_stays]
      simp only [Result.andThen]
      rw [e1]
      exact MapKept.run_setObj_map _ hb
    · apply born_lt (L := L)
      rw [born_upd_some z v clock L p hi]
      intro b hb'
      obtain ⟨e, he, rfl⟩ := List.mem_map.1 hb'
      exact h1 e he
    · rw [born_upd_some z v clock L p hi]; exact h2
theorem delete_any (w : World) (m : Nat) (L : List ZE) (z : Int) (ty : TypeId) (h : MapAt w m L) : ∃ o L', (Builtin.delete_ #[40, 3] ty #[.map (some m), .int .i64 z]).run Try.prog w = .ok (.tuple #[]) (setMap w m o) ∧ MapAt (setMap w m o) m L' ∧ (∀ z', zfind L' z' = if z' = z then none else zfind L z') := by
  obtain ⟨clock, hb, h1, h2, h3⟩ := h
  have hf := find_ents z L 0
  have hc := key_checked w z
  have hk := MapKept.run_findKey (P := Try.prog) (w := w) Try.underlying3 hf
  refine ⟨.map (ents (del L z)).toArray clock, del L z, ?_, mapAt_set hb _ _ ?_ ?_ ((keys_del z L).nodup h3), fun z' => find_del z z' L h3⟩
  · unfold Builtin.delete_
    cases hi : idx L z with
    | none =>
      rw [hi] at hk
      simp [run_underlying Try.underlying40, Result.andThen, MapKept.run_getObj_map hb, hk, hc, MapKept.run_setObj_map _ hb, del_none z L hi, setMap]
    | some p =>
      rw [hi] at hk
      have e1 := del_idx z L p.1 p.2 hi
      simp [run_underlying Try.underlying40, Result.andThen, MapKept.run_getObj_map hb, hk, hc, MapKept.run_setObj_map _ hb, setMap]
      rw [e1]
  · apply born_lt (L := L)
    intro b hb'
    obtain ⟨e, he, rfl⟩ := List.mem_map.1 ((born_del z L).subset hb')
    exact h1 e he
  · exact (born_del z L).nodup h2
end Go.Proofs.Ytjphboljhkddaaa
