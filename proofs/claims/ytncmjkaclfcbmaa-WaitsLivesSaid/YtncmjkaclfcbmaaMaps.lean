/- Maps of values: what each operation on one does. -/
import Derived.Test.YtncmjkaclfcbmaaMem
import Derived.MapKept
import Derived.Laws.IdiomRangeMap
set_option linter.unusedVariables false
namespace Go.Proofs.Ytncmjkaclfcbmaa
open Go.RowKit
open Classical

noncomputable section
abbrev ZE := Value × Value × Nat
def ent (e : ZE) : MapEntry := { key := e.1, val := e.2.1, born := e.2.2 }
def ents (L : List ZE) : List MapEntry := L.map ent
def zfind : List ZE → Value → Option Value
  | [], _ => none
  | e :: L, z => if z = e.1 then some e.2.1 else zfind L z
def upd : List ZE → Value → Value → Nat → List ZE
  | [], z, v, c => [(z, v, c)]
  | e :: L, z, v, c => if z = e.1 then (e.1, v, e.2.2) :: L else e :: upd L z v c
def del : List ZE → Value → List ZE
  | [], _ => []
  | e :: L, z => if z = e.1 then L else e :: del L z
def idx : List ZE → Value → Option (Nat × Value)
  | [], _ => none
  | e :: L, z => if z = e.1 then some (0, e.2.1) else (idx L z).map fun p => (p.1 + 1, p.2)
theorem idx_find (L : List ZE) (z : Value) : (idx L z).map (·.2) = zfind L z := by
  induction L with
  | nil => rfl
  | cons e L ih =>
    simp only [idx, zfind]
    split
    · rfl
    · rw [← ih, Option.map_map]; rfl
/-- what is known of a map's type -/
structure Kit (mt kt et : TypeId) (kd : TypeDesc) (z0 : Value) : Prop where
  mt : Try.prog.underlying mt = some (.map kt et)
  kt : Try.prog.underlying kt = some kd
  zero : ∀ w : World, (zeroValue et).run Try.prog w = .ok z0 w
def Keys (kd : TypeDesc) (L : List ZE) : Prop := ∀ e ∈ L, MapKept.IsKey kd e.1
theorem find_ents {kd : TypeDesc} (z : Value) (hz : MapKept.IsKey kd z) : ∀ (L : List ZE) (i : Nat), Keys kd L → Instr.findNow kd z (ents L) i = some ((idx L z).map fun p => (i + p.1, p.2))
  | [], i, _ => rfl
  | e :: L, i, hk => by
    obtain ⟨r, e1, e2⟩ := MapKept.sameNow_of_keys hz (hk e (by simp))
    show Instr.findNow _ _ (ent e :: ents L) i = _
    have e1' : Instr.sameNow kd z (ent e).key = some r := e1
    simp only [Instr.findNow, e1', idx]
    by_cases h : z = e.1
    · rw [if_pos h, e2.2 h]; rfl
    · rw [if_neg h]
      have hr : r = false := by cases r with | false => rfl | true => exact absurd (e2.1 rfl) h
      subst hr
      simp only
      rw [find_ents z hz L (i + 1) (fun e he => hk e (by simp [he])), Option.map_map]
      congr 1
      cases idx L z with
      | none => rfl
      | some p => simp; omega
theorem keys_upd' {kd : TypeDesc} (z : Value) (hz : MapKept.IsKey kd z) (v : Value) (c : Nat) : ∀ (L : List ZE), Keys kd L → Keys kd (upd L z v c)
  | [], _ => by intro e he; simp [upd] at he; subst he; exact hz
  | e :: L, h => by
    simp only [upd]
    by_cases hz' : z = e.1
    · rw [if_pos hz']
      intro e' he'
      rcases List.mem_cons.1 he' with rfl | he'
      · exact h e (by simp)
      · exact h e' (by simp [he'])
    · rw [if_neg hz']
      intro e' he'
      rcases List.mem_cons.1 he' with rfl | he'
      · exact h e' (by simp)
      · exact keys_upd' z hz v c L (fun x hx => h x (by simp [hx])) e' he'
theorem upd_idx (z : Value) (v : Value) (c : Nat) : ∀ (L : List ZE) (j : Nat) (u : Value), idx L z = some (j, u) → (ents L).modify j (fun e => { e with key := z, val := v }) = ents (upd L z v c)
  | [], j, u, h => by cases h
  | e :: L, j, u, h => by
    simp only [idx] at h
    by_cases hz : z = e.1
    · rw [if_pos hz] at h; cases h
      simp [ents, upd, hz, ent]
    · rw [if_neg hz] at h
      cases hi : idx L z with
      | none => rw [hi] at h; cases h
      | some p =>
        rw [hi] at h; cases h
        have := upd_idx z v c L p.1 p.2 hi
        simp only [upd, if_neg hz]
        show (ent e :: ents L).modify (p.1 + 1) _ = ent e :: ents (upd L z v c)
        rw [List.modify_succ_cons, this]
theorem upd_none (z : Value) (v : Value) (c : Nat) : ∀ (L : List ZE), idx L z = none → ents L ++ [ent (z, v, c)] = ents (upd L z v c)
  | [], _ => rfl
  | e :: L, h => by
    simp only [idx] at h
    by_cases hz : z = e.1
    · rw [if_pos hz] at h; cases h
    · rw [if_neg hz] at h
      simp only [upd, if_neg hz]
      have := upd_none z v c L (by cases hi : idx L z with | none => rfl | some p => rw [hi] at h; cases h)
      show ent e :: (ents L ++ _) = ent e :: ents (upd L z v c)
      rw [this]
theorem del_idx (z : Value) : ∀ (L : List ZE) (j : Nat) (u : Value), idx L z = some (j, u) → (ents L).eraseIdx j = ents (del L z)
  | [], j, u, h => by cases h
  | e :: L, j, u, h => by
    simp only [idx] at h
    by_cases hz : z = e.1
    · rw [if_pos hz] at h; cases h
      simp [ents, del, hz]
    · rw [if_neg hz] at h
      cases hi : idx L z with
      | none => rw [hi] at h; cases h
      | some p =>
        rw [hi] at h; cases h
        have := del_idx z L p.1 p.2 hi
        simp only [del, if_neg hz]
        show (ent e :: ents L).eraseIdx (p.1 + 1) = ent e :: ents (del L z)
        rw [List.eraseIdx_cons_succ, this]
theorem del_none (z : Value) : ∀ (L : List ZE), idx L z = none → del L z = L
  | [], _ => rfl
  | e :: L, h => by
    simp only [idx] at h
    by_cases hz : z = e.1
    · rw [if_pos hz] at h; cases h
    · rw [if_neg hz] at h
      simp only [del, if_neg hz]
      rw [del_none z L (by cases hi : idx L z with | none => rfl | some p => rw [hi] at h; cases h)]
theorem find_upd (z z' : Value) (v : Value) (c : Nat) : ∀ (L : List ZE), zfind (upd L z v c) z' = if z' = z then some v else zfind L z'
  | [] => by simp [upd, zfind]
  | e :: L => by
    simp only [upd]
    by_cases hz : z = e.1
    · rw [if_pos hz]
      by_cases h' : z' = z
      · simp [zfind, h', hz]
      · simp [zfind, h', ← hz]
    · rw [if_neg hz]
      simp only [zfind]
      rw [find_upd z z' v c L]
      by_cases h' : z' = e.1
      · have : ¬ e.1 = z := fun h => hz h.symm
        simp [h', this]
      · simp [h']
theorem find_mem (z : Value) : ∀ (L : List ZE), z ∉ L.map (·.1) → zfind L z = none
  | [], _ => rfl
  | e :: L, h => by
    simp only [List.map_cons, List.mem_cons, not_or] at h
    simp only [zfind, if_neg h.1]
    exact find_mem z L h.2
theorem find_del (z z' : Value) : ∀ (L : List ZE), (L.map (·.1)).Nodup → zfind (del L z) z' = if z' = z then none else zfind L z'
  | [], _ => by simp [del, zfind]
  | e :: L, hn => by
    have hn' := List.nodup_cons.1 hn
    simp only [del]
    by_cases hz : z = e.1
    · rw [if_pos hz]
      by_cases h' : z' = z
      · rw [if_pos h', h', hz]; exact find_mem _ _ hn'.1
      · rw [if_neg h']; simp [zfind, ← hz, h']
    · rw [if_neg hz]
      simp only [zfind]
      rw [find_del z z' L hn'.2]
      by_cases h' : z' = e.1
      · have : ¬ e.1 = z := fun h => hz h.symm
        simp [h', this]
      · simp [h']
theorem keys_upd (z : Value) (v : Value) (c : Nat) : ∀ (L : List ZE), (upd L z v c).map (·.1) = if z ∈ L.map (·.1) then L.map (·.1) else L.map (·.1) ++ [z]
  | [] => by simp [upd]
  | e :: L => by
    simp only [upd]
    by_cases hz : z = e.1
    · rw [if_pos hz]; simp [hz]
    · rw [if_neg hz]
      simp only [List.map_cons, List.mem_cons, hz, false_or]
      rw [keys_upd z v c L]
      split <;> simp
theorem keys_del (z : Value) : ∀ (L : List ZE), ((del L z).map (·.1)).Sublist (L.map (·.1))
  | [] => by simp [del]
  | e :: L => by
    simp only [del]
    by_cases hz : z = e.1
    · rw [if_pos hz]; simp
    · rw [if_neg hz]; simp [keys_del z L]
theorem nodup_upd (z : Value) (v : Value) (c : Nat) (L : List ZE) (h : (L.map (·.1)).Nodup) : ((upd L z v c).map (·.1)).Nodup := by
  rw [keys_upd]
  split
  · exact h
  · rename_i hm
    rw [List.nodup_append]
    refine ⟨h, by simp, ?_⟩
    intro a ha b hb
    rw [List.mem_singleton.1 hb]
    intro e; subst e; exact hm ha

/-- the map's block -/
def MapAt (kd : TypeDesc) (w : World) (m : Nat) (L : List ZE) : Prop := Keys kd L ∧ ∃ clock, w.heap[m]? = some (.map (ents L).toArray clock) ∧ (∀ e ∈ L, e.2.2 < clock) ∧ (L.map (·.2.2)).Nodup ∧ (L.map (·.1)).Nodup
def setMap (w : World) (m : Nat) (o : Obj) : World := { w with heap := w.heap.setIfInBounds m o }
theorem born_upd_some (z : Value) (v : Value) (c : Nat) : ∀ (L : List ZE) (p : Nat × Value), idx L z = some p → (upd L z v c).map (·.2.2) = L.map (·.2.2)
  | [], p, h => by cases h
  | e :: L, p, h => by
    simp only [idx] at h
    by_cases hz : z = e.1
    · simp [upd, hz]
    · rw [if_neg hz] at h
      cases hi : idx L z with
      | none => rw [hi] at h; cases h
      | some q => simp only [upd, if_neg hz, List.map_cons, born_upd_some z v c L q hi]
theorem born_upd_none (z : Value) (v : Value) (c : Nat) : ∀ (L : List ZE), idx L z = none → (upd L z v c).map (·.2.2) = L.map (·.2.2) ++ [c]
  | [], _ => rfl
  | e :: L, h => by
    simp only [idx] at h
    by_cases hz : z = e.1
    · rw [if_pos hz] at h; cases h
    · rw [if_neg hz] at h
      have := born_upd_none z v c L (by cases hi : idx L z with | none => rfl | some p => rw [hi] at h; cases h)
      simp only [upd, if_neg hz, List.map_cons, this, List.cons_append]
theorem born_del (z : Value) : ∀ (L : List ZE), ((del L z).map (·.2.2)).Sublist (L.map (·.2.2))
  | [] => by simp [del]
  | e :: L => by
    simp only [del]
    by_cases hz : z = e.1
    · rw [if_pos hz]; simp
    · rw [if_neg hz]; simp [born_del z L]
theorem born_lt {L L' : List ZE} {c : Nat} (h : ∀ b ∈ L'.map (·.2.2), b < c) : ∀ e ∈ L', e.2.2 < c := fun e he => h _ (List.mem_map.2 ⟨e, he, rfl⟩)
theorem idx_key (z : Value) : ∀ (L : List ZE) (p : Nat × Value), idx L z = some p → (Option.map (fun x : MapEntry => x.key) (ents L)[p.1]?) = some z
  | [], p, h => by cases h
  | e :: L, p, h => by
    simp only [idx] at h
    by_cases hz : z = e.1
    · rw [if_pos hz] at h; cases h
      simp [ents, ent, hz]
    · rw [if_neg hz] at h
      cases hi : idx L z with
      | none => rw [hi] at h; cases h
      | some q =>
        rw [hi] at h; cases h
        have := idx_key z L q hi
        simpa [ents] using this
theorem key_stays {kd : TypeDesc} (w : World) (z : Value) (hz : MapKept.IsKey kd z) : (Instr.keyThatStays z z).run Try.prog w = .ok z w := by
  have : Instr.sameBits 10000 z z = true := by
    cases kd <;> cases z <;> first | (unfold Instr.sameBits; simp; done) | (unfold Instr.sameBits; exact (MapKept.bytes_beq _ _).2 rfl) | (exfalso; exact hz)
  unfold Instr.keyThatStays
  rw [if_pos this]; rfl
theorem mapAt_set {kd : TypeDesc} {w : World} {m : Nat} {o : Obj} (h : w.heap[m]? = some o) (L : List ZE) (hK : Keys kd L) (clock : Nat) (h1 : ∀ e ∈ L, e.2.2 < clock) (h2 : (L.map (·.2.2)).Nodup) (h3 : (L.map (·.1)).Nodup) : MapAt kd (setMap w m (.map (ents L).toArray clock)) m L :=
  ⟨hK, clock, (MapKept.heap_set h).1, h1, h2, h3⟩
section
variable {mt kt et : TypeId} {kd : TypeDesc} {z0 : Value} (K : Kit mt kt et kd z0)
include K
theorem key_checked (w : World) (z : Value) (hz : MapKept.IsKey kd z) (b : Bool) : (Instr.checkKey b 10000 kt z).run Try.prog w = .ok () w := MapKept.run_checkKey K.kt hz _ 9999
theorem lookup_any (w : World) (m : Nat) (L : List ZE) (z : Value) (hz : MapKept.IsKey kd z) (h : MapAt kd w m L) : (Instr.lookup mt (.map (some m)) z false).run Try.prog w = .ok ((zfind L z).getD z0) w := by
  obtain ⟨hK, clock, hb, _⟩ := h
  have hf := find_ents z hz L 0 hK
  have hc := key_checked K w z hz
  have hk := MapKept.run_findKey (P := Try.prog) (w := w) K.kt hf
  have h0 := K.zero w
  rw [← idx_find]
  unfold Instr.lookup
  simp only [Sem.run_bind, run_underlying K.mt, Result.andThen, MapKept.run_getObj_map hb]
  cases hi : idx L z with
  | none => rw [hi] at hk; simp [hk, hc, h0]
  | some p => rw [hi] at hk; simp [hk, hc]
theorem lookup_ok (w : World) (m : Nat) (L : List ZE) (z : Value) (hz : MapKept.IsKey kd z) (h : MapAt kd w m L) : (Instr.lookup mt (.map (some m)) z true).run Try.prog w = .ok (.tuple #[(zfind L z).getD z0, .bool (zfind L z).isSome]) w := by
  obtain ⟨hK, clock, hb, _⟩ := h
  have hf := find_ents z hz L 0 hK
  have hc := key_checked K w z hz
  have hk := MapKept.run_findKey (P := Try.prog) (w := w) K.kt hf
  have h0 := K.zero w
  rw [← idx_find]
  unfold Instr.lookup
  simp only [Sem.run_bind, run_underlying K.mt, Result.andThen, MapKept.run_getObj_map hb]
  cases hi : idx L z with
  | none => rw [hi] at hk; simp [hk, hc, h0]
  | some p => rw [hi] at hk; simp [hk, hc]
/-- what is written at a key -/
theorem update_any (w : World) (m : Nat) (L : List ZE) (z : Value) (hz : MapKept.IsKey kd z) (v : Value) (h : MapAt kd w m L) : ∃ o L', (Instr.mapUpdate mt (.map (some m)) z v).run Try.prog w = .ok () (setMap w m o) ∧ MapAt kd (setMap w m o) m L' ∧ (∀ z', zfind L' z' = if z' = z then some v else zfind L z') := by
  obtain ⟨hK, clock, hb, h1, h2, h3⟩ := h
  have hf := find_ents z hz L 0 hK
  have hc := key_checked K w z hz
  have hk := MapKept.run_findKey (P := Try.prog) (w := w) K.kt hf
  unfold Instr.mapUpdate
  simp only [Sem.run_bind, run_underlying K.mt, Result.andThen, MapKept.run_getObj_map hb]
  cases hi : idx L z with
  | none =>
    rw [hi] at hk
    refine ⟨.map (ents (upd L z v clock)).toArray (clock + 1), upd L z v clock, ?_, mapAt_set hb _ (keys_upd' z hz v clock L hK) _ ?_ ?_ (nodup_upd z v clock L h3), fun z' => find_upd z z' v clock L⟩
    · have e1 := upd_none z v clock L hi
      simp [hk, hc]
      have e2 : ents L ++ [{ key := z, val := v, born := clock }] = ents (upd L z v clock) := e1
      rw [e2]
      exact MapKept.run_setObj_map _ hb
    · apply born_lt (L := L)
      rw [born_upd_none z v clock L hi]
      intro b hb'
      rcases List.mem_append.1 hb' with h | h
      · obtain ⟨e, he, rfl⟩ := List.mem_map.1 h
        have := h1 e he; omega
      · rw [List.mem_singleton.1 h]; omega
    · rw [born_upd_none z v clock L hi, List.nodup_append]
      refine ⟨h2, by simp, ?_⟩
      intro a ha b hb' e
      rw [List.mem_singleton.1 hb'] at e
      obtain ⟨e', he', rfl⟩ := List.mem_map.1 ha
      have := h1 e' he'
      omega
  | some p =>
    rw [hi] at hk
    refine ⟨.map (ents (upd L z v clock)).toArray clock, upd L z v clock, ?_, mapAt_set hb _ (keys_upd' z hz v clock L hK) _ ?_ ?_ (nodup_upd z v clock L h3), fun z' => find_upd z z' v clock L⟩
    · have e1 := upd_idx z v clock L p.1 p.2 hi
      have e3 := idx_key z L p hi
      simp [hk, hc]
      rw [e3]
      show ((Instr.keyThatStays z z).run Try.prog w).andThen _ = _
      rw [key_stays w z hz]
      simp only [Result.andThen]
      rw [e1]
      exact MapKept.run_setObj_map _ hb
    · apply born_lt (L := L)
      rw [born_upd_some z v clock L p hi]
      intro b hb'
      obtain ⟨e, he, rfl⟩ := List.mem_map.1 hb'
      exact h1 e he
    · rw [born_upd_some z v clock L p hi]; exact h2
end
theorem kit53 : Kit 53 3 29 (.int .i64) (.agg #[.int .i64 0, .int .i64 0, .int .u64 0, .string ByteArray.empty, .slice none 0 0]) := ⟨Try.underlying53, Try.underlying3, fun w => by kernel_rfl⟩
theorem kit76 : Kit 76 9 29 .string (.agg #[.int .i64 0, .int .i64 0, .int .u64 0, .string ByteArray.empty, .slice none 0 0]) := ⟨Try.underlying76, Try.underlying9, fun w => by kernel_rfl⟩
theorem kit70 : Kit 70 9 4 .string (.bool false) := ⟨Try.underlying70, Try.underlying9, fun w => by kernel_rfl⟩
theorem setMap_other {w : World} {m k : Nat} (o : Obj) (h : k ≠ m) : (setMap w m o).heap[k]? = w.heap[k]? := by
  show (w.heap.setIfInBounds m o)[k]? = _
  simp [Ne.symm h]
theorem setMap_size {w : World} {m : Nat} (o : Obj) : (setMap w m o).heap.size = w.heap.size := by simp [setMap]
theorem below_setMap {B : Nat} {a w : World} (h : Below B a w) {m : Nat} (hm : B ≤ m) (o : Obj) : Below B a (setMap w m o) :=
  h.trans ⟨rfl, rfl, rfl, by simp [setMap], fun k hk => setMap_other o (by omega)⟩
theorem MapAt.keep {kd : TypeDesc} {w w' : World} {m : Nat} {L : List ZE} (h : MapAt kd w m L) (hs : w'.heap[m]? = w.heap[m]?) : MapAt kd w' m L := by
  obtain ⟨hK, c, hb, r⟩ := h
  exact ⟨hK, c, by rw [hs]; exact hb, r⟩
theorem MapAt.lt {kd : TypeDesc} {w : World} {m : Nat} {L : List ZE} (h : MapAt kd w m L) : m < w.heap.size := by
  obtain ⟨hK, c, hb, r⟩ := h
  exact (Array.getElem?_eq_some_iff.1 hb).1
theorem map_new (kd : TypeDesc) (w : World) : MapAt kd (w.alloc (.map #[] 0)) w.heap.size [] :=
  ⟨fun e he => (by cases he), 0, heap_alloc_new w _, (fun e he => (by cases he)), List.nodup_nil, List.nodup_nil⟩
end
end Go.Proofs.Ytncmjkaclfcbmaa
