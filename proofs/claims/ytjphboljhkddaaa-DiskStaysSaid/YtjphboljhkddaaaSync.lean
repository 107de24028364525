/- Sync. -/
import Derived.Test.YtjphboljhkddaaaApp
import Derived.Maps.RangeRun
set_option linter.unusedVariables false
namespace Go.Proofs.Ytjphboljhkddaaa
open Go.RowKit
open Go.ChangeMaps (setBlock)

theorem idx_of_mem {L : List ZE} {z : Int} (h : z ∈ L.map (·.1)) : ∃ p, idx L z = some p := by
  induction L with
  | nil => cases h
  | cons e L ih =>
    simp only [idx]
    by_cases hz : z = e.1
    · exact ⟨_, if_pos hz⟩
    · rw [if_neg hz]
      simp only [List.map_cons, List.mem_cons, hz, false_or] at h
      obtain ⟨p, hp⟩ := ih h
      exact ⟨_, by rw [hp]; rfl⟩
theorem find_of_mem {L : List ZE} (hn : (L.map (·.1)).Nodup) {e : ZE} (h : e ∈ L) : zfind L e.1 = some e.2.1 := by
  induction L with
  | nil => cases h
  | cons x L ih =>
    have hn' := List.nodup_cons.1 hn
    simp only [zfind]
    rcases List.mem_cons.1 h with rfl | h
    · simp
    · have hne : ¬ e.1 = x.1 := fun e' => hn'.1 (List.mem_map.2 ⟨e, h, e'⟩)
      rw [if_neg hne]; exact ih hn'.2 h
theorem mem_of_find {L : List ZE} {z : Int} {v : Value} (h : zfind L z = some v) : ∃ b, (z, v, b) ∈ L := by
  induction L with
  | nil => cases h
  | cons x L ih =>
    simp only [zfind] at h
    by_cases hz : z = x.1
    · rw [if_pos hz] at h; cases h
      exact ⟨x.2.2, by rw [hz]; simp⟩
    · rw [if_neg hz] at h
      obtain ⟨b, hb⟩ := ih h
      exact ⟨b, List.mem_cons_of_mem _ hb⟩
/-- a key that is there is written anew: the map's stamps stay -/
theorem update_there (w : World) (m : Nat) (L : List ZE) (clock : Nat) (z : Int) (v : Value) (hb : w.heap[m]? = some (.map (ents L).toArray clock)) (hz : z ∈ L.map (·.1)) :
    (Instr.mapUpdate 40 (.map (some m)) (.int .i64 z) v).run Try.prog w = .ok () (setMap w m (.map (ents (upd L z v clock)).toArray clock)) := by
  obtain ⟨p, hi⟩ := idx_of_mem hz
  have hf := find_ents z L 0
  have hc := key_checked w z
  have hk := MapKept.run_findKey (P := Try.prog) (w := w) Try.underlying3 hf
  unfold Instr.mapUpdate
  simp only [Sem.run_bind, run_underlying Try.underlying40, Result.andThen, MapKept.run_getObj_map hb]
  rw [hi] at hk
  have e1 := upd_idx z v clock L p.1 p.2 hi
  have e3 := idx_key z L p hi
  simp [hk, hc]
  rw [e3]
  show ((Instr.keyThatStays (.int .i64 z) (.int .i64 z)).run Try.prog w).andThen _ = _
  rw [key_stays]
  simp only [Result.andThen]
  rw [e1]
  exact MapKept.run_setObj_map _ hb
theorem mem_upd {z : Int} {v : Value} {c : Nat} : ∀ {L : List ZE} {e : ZE}, e ∈ upd L z v c → e.1 ≠ z → e ∈ L
  | [], e, h, hne => by
    simp only [upd, List.mem_singleton] at h
    subst h; exact absurd rfl hne
  | x :: L, e, h, hne => by
    simp only [upd] at h
    by_cases hz : z = x.1
    · rw [if_pos hz] at h
      rcases List.mem_cons.1 h with rfl | h
      · exact absurd hz.symm hne
      · exact List.mem_cons_of_mem _ h
    · rw [if_neg hz] at h
      rcases List.mem_cons.1 h with rfl | h
      · exact List.mem_cons_self
      · exact List.mem_cons_of_mem _ (mem_upd h hne)
theorem born_inj {L : List ZE} (hn : (L.map (·.2.2)).Nodup) {e e' : ZE} (h : e ∈ L) (h' : e' ∈ L) (hb : e.2.2 = e'.2.2) : e = e' := by
  induction L with
  | nil => cases h
  | cons x L ih =>
    have hn' := List.nodup_cons.1 hn
    rcases List.mem_cons.1 h with h1 | h1
    · rcases List.mem_cons.1 h' with h2 | h2
      · rw [h1, h2]
      · subst h1; exact (hn'.1 (List.mem_map.2 ⟨_, h2, hb.symm⟩)).elim
    · rcases List.mem_cons.1 h' with h2 | h2
      · subst h2; exact (hn'.1 (List.mem_map.2 ⟨_, h1, hb⟩)).elim
      · exact ih hn'.2 h1 h2
theorem left_mem {L : List ZE} {seen : Array Nat} {x : MapEntry} (h : x ∈ (leftOf (ents L).toArray seen).toList) : ∃ e ∈ L, x = ent e ∧ seen.contains e.2.2 = false := by
  unfold leftOf at h
  simp at h
  obtain ⟨h1, h2⟩ := h
  obtain ⟨e, he, rfl⟩ := List.mem_map.1 h1
  exact ⟨e, he, rfl, by simpa [ent] using h2⟩
theorem left_none {L : List ZE} {seen : Array Nat} (h : (leftOf (ents L).toArray seen).size = 0) : ∀ e ∈ L, seen.contains e.2.2 = true := by
  intro e he
  have h0 : leftOf (ents L).toArray seen = #[] := Array.eq_empty_of_size_eq_zero h
  unfold leftOf at h0
  rw [Array.filter_eq_empty_iff] at h0
  have := h0 (ent e) (by simpa [ents] using ⟨_, _, _, he, rfl⟩)
  simpa [ent] using this
def syncQ (q : List Nat × Nat) : List Nat × Nat := (q.1, q.1.length)
def syncSt (st : ZSt) : ZSt := fun z => (st z).map syncQ
/-- where Sync's loop stands -/
def SyncR (w : World) (B d m I clk : Nat) (L : List ZE) (st : ZSt) (room used : Int) (lit : Bool) (left : Int) (wr : World) : Prop :=
  ∃ L' seen c0 st', wr.heap[I]? = some (.mapIter (some m) clk seen c0) ∧ clk ≤ c0 ∧ wr.heap[m]? = some (.map (ents L').toArray clk) ∧ L'.map (·.2.2) = L.map (·.2.2) ∧ L'.map (·.1) = L.map (·.1) ∧
    wr.heap[d]? = some (.cells (dCells m room used lit left false) 44 (0, 0)) ∧ ZS wr L' st' ∧ (∀ z, st' z = st z ∨ st' z = (st z).map syncQ) ∧ (∀ e ∈ L', seen.contains e.2.2 = true → st' e.1 = (st e.1).map syncQ) ∧ Below B w wr
theorem sync_ok (w : World) (B d : Nat) (st : ZSt) (room used : Int) (lit : Bool) (left : Int) (h : DiskAt w B d st room used lit left false) (hB : B ≤ w.heap.size) (hl : 0 ≤ left ∧ left ≤ 4611686018427387904) (hbu : burnt lit left false = false) :
    Calls Try.prog 9 #[.pointer (some ⟨d, 0, none⟩)] w fun e w' => e = .returned (.int .i64 0) ∧ DiskAt w' B d (syncSt st) room used lit (leftOver lit left false) false ∧ Below B w w' := by
  obtain ⟨m, L, hBd, hBm, h3, h4, h5⟩ := id h
  obtain ⟨c0, c1, c2, c3, c4, c5, cf⟩ := dcell h3
  have M := made_some d m w c0
  have U := burn w B d st room used lit left false h hl
  replace U := Lib.hid U
  clear hl h h3 h4 h5 c1 c2 c3 c4 c5 cf
  go_enter Try.func9, Try.ntmps9
  go_wp2_with (first | (go_at_call 30; refine M.mono ?_; rintro e w1 ⟨rfl, rfl⟩))
  refine U.out.mono ?_
  rintro e w1 ⟨rfl, hD1, hb1, ho1⟩
  rw [hbu] at hD1 ⊢
  obtain ⟨m1, L1, _, hBm1, k3, k4, k5⟩ := id hD1
  obtain ⟨e0, e1, e2, e3, e4, e5, ef⟩ := dcell k3
  obtain ⟨clk, kb, kold, kn1, kn2⟩ := id k4
  have hrg := run_range_map (P := Try.prog) w1 40 3 65 m1 _ clk Try.underlying40 kb
  clear M U
  replace k3 := Lib.hid k3
  replace k4 := Lib.hid k4
  replace k5 := Lib.hid k5
  replace kb := Lib.hid kb
  replace hD1 := Lib.hid hD1
  replace hb1 := Lib.hid hb1
  go_wp2_with fail
  have hW0 : SyncR w B d m1 w1.heap.size clk L1 st room used lit (leftOver lit left false) (w1.alloc (.mapIter (some m1) clk #[] clk)) := by
    have hlt : ∀ k o, w1.heap[k]? = some o → (w1.alloc (.mapIter (some m1) clk #[] clk)).heap[k]? = some o := fun k o hk => by rw [heap_alloc_old _ _ (Array.getElem?_eq_some_iff.1 hk).1]; exact hk
    refine ⟨L1, #[], clk, st, heap_alloc_new w1 _, Nat.le_refl _, hlt _ _ kb.out, rfl, rfl, hlt _ _ k3.out, k5.out.change (fun g cur hg => by rw [hlt _ _ hg, hg]), fun z => .inl rfl, fun e he hc => by simp at hc, hb1.out.alloc (Nat.le_trans hB hb1.out.size) _⟩
  replace hW0 := Lib.hid hW0
  clear ho1 e0 e1 e2 e3 e4 e5 ef hrg c0
  go_loopw [5] (fun v wr => SyncR w B d m1 w1.heap.size clk L1 st room used lit (leftOver lit left false) wr) (fun _ wr => ((L1.map (·.2.2)).filter (fun b => !(wr.iterSeen w1.heap.size).contains b)).length)
  case atStart => exact hW0.out
  case round =>
    obtain ⟨L', seen, ck, st', i1, i2, i3, i4, i5, i6, i7, i8, i9, i10⟩ := hrel
    rcases run_next_at (P := Try.prog) wr 0 w1.heap.size m1 clk ck seen _ clk i1 i3 (by
        intro x hx
        obtain ⟨e, he, rfl⟩ := List.mem_map.1 (show x ∈ ents L' from by simpa using hx)
        have : e.2.2 ∈ L1.map (·.2.2) := by rw [← i4]; exact List.mem_map.2 ⟨e, he, rfl⟩
        obtain ⟨e', he', hee⟩ := List.mem_map.1 this
        have := kold e' he'
        show e.2.2 < clk
        omega) i2 with ⟨hsz, hrun⟩ | ⟨me, hme, w2, hw2, hrun⟩
    · have hfin : DiskAt wr B d (syncSt st) room used lit (leftOver lit left false) false := by
        have hst : st' = syncSt st := by
          funext z
          rcases i7 z with ⟨a1, a2⟩ | ⟨q, v, a1, a2, a3⟩
          · rcases i8 z with h | h
            · rw [a1]; unfold syncSt; rw [← h, a1]; rfl
            · exact h
          · obtain ⟨b, hb⟩ := mem_of_find a2
            exact i9 _ hb (left_none hsz _ hb)
        rw [← hst]
        refine ⟨m1, L', hBd, hBm1, i6, ⟨clk, i3, ?_, by rw [i4]; exact kn1, by rw [i5]; exact kn2⟩, i7⟩
        apply born_lt (L := L')
        rw [i4]
        intro b hb
        obtain ⟨e, he, rfl⟩ := List.mem_map.1 hb
        exact kold e he
      replace hfin := Lib.hid hfin
      replace i10 := Lib.hid i10
      clear i1 i3 i6 i7 i8 i9 hsz
      go_wp2_with fail
      go_ret
      exact ⟨rfl, hfin.out, i10.out⟩
    · obtain ⟨e, heL, rfl, hns⟩ := left_mem hme
      obtain ⟨q, v, b1, b2, a, cap, rfl, hr, hle, hcap, ht5, hq0, hqs⟩ : ∃ q v, st' e.1 = some q ∧ zfind L' e.1 = some v ∧ ZR wr v q := by
        rcases i7 e.1 with ⟨a1, a2⟩ | h
        · rw [find_of_mem (by rw [i5]; exact kn2) heL] at a2; cases a2
        · exact h
      have hv : e.2.1 = zVal a q.1.length cap q.2 := by
        rw [find_of_mem (by rw [i5]; exact kn2) heL] at b2; exact Option.some.inj b2
      have hIm : m1 ≠ w1.heap.size := by intro h; rw [h, i1] at i3; cases i3
      have hId : d ≠ w1.heap.size := by intro h; rw [h, i1] at i6; cases i6
      have hdm : d ≠ m1 := by intro h; rw [h, i3] at i6; cases i6
      obtain ⟨w3, hw3⟩ : ∃ w3, w3 = setBlock w2 w1.heap.size (.mapIter (some m1) clk (seen.push (ent e).born) clk) := ⟨_, rfl⟩
      have hI2 : w2.heap[w1.heap.size]? = some (.mapIter (some m1) clk seen ck) := by rcases hw2 with rfl | rfl <;> exact i1
      have g1 : w3.heap[w1.heap.size]? = some (.mapIter (some m1) clk (seen.push (ent e).born) clk) := by rw [hw3]; exact (MapKept.heap_set hI2).1
      have g2 : ∀ k, k ≠ w1.heap.size → w3.heap[k]? = wr.heap[k]? := by
        intro k hk
        rw [hw3]
        have := setMap_other (w := w2) (.mapIter (some m1) clk (seen.push (ent e).born) clk) hk
        rcases hw2 with rfl | rfl <;> exact this
      have g3 : Below B wr w3 := by
        rw [hw3]
        have hBI : B ≤ w1.heap.size := Nat.le_trans hB hb1.out.size
        rcases hw2 with rfl | rfl
        · exact below_setMap (Below.refl _ _) hBI _
        · exact below_setMap (Below.refl _ _).drew hBI _
      have g4 : w3.heap[m1]? = some (.map (ents L').toArray clk) := by rw [g2 _ hIm]; exact i3
      have g6 : w3.heap[d]? = some (.cells (dCells m1 room used lit (leftOver lit left false) false) 44 (0, 0)) := by rw [g2 _ hId]; exact i6
      have hent := run_entry_at (P := Try.prog) w3 w1.heap.size m1 clk seen _ clk (ent e) g1 g4 (by show ent e ∈ ents L'; exact List.mem_map.2 ⟨e, heL, rfl⟩) (by
        have : ((ents L').toArray.toList.map (·.born)) = L'.map (·.2.2) := by simp [ents, ent]
        rw [this, i4]; exact kn1)
      rw [← hw3] at hrun
      have ek : (ent e).key = .int .i64 e.1 := rfl
      have ev : (ent e).val = zVal a q.1.length cap q.2 := hv
      rw [ek, ev] at hrun hent
      unfold zVal at hrun hent
      clear i3 i6 hw3 hw2 hI2
      go_wp2_with fail
      have hX := heap_alloc_new w3 (.cells #[.slice a q.1.length cap, .int .i64 (q.2 : Int)] 65)
      have hold' : ∀ k o, w3.heap[k]? = some o → (w3.alloc (.cells #[.slice a q.1.length cap, .int .i64 (q.2 : Int)] 65)).heap[k]? = some o := fun k o hk => by rw [heap_alloc_old _ _ (Array.getElem?_eq_some_iff.1 hk).1]; exact hk
      have j1 := hold' _ _ g1
      have j4 := hold' _ _ g4
      have j6 := hold' _ _ g6
      have jB : Below B wr (w3.alloc (.cells #[.slice a q.1.length cap, .int .i64 (q.2 : Int)] 65)) := g3.alloc (by have := g3.size; have := i10.size; omega) _
      have j5 : ∀ (g : Nat) (cur : Array Value), wr.heap[g]? = some (.cells cur 5 (0, 0)) → (w3.alloc (.cells #[.slice a q.1.length cap, .int .i64 (q.2 : Int)] 65)).heap[g]? = some (.cells cur 5 (0, 0)) := fun g cur hg => hold' _ _ (by
        rw [g2 g (by intro h; rw [h, i1] at hg; cases hg)]; exact hg)
      have x0 : (w3.alloc (.cells #[.slice a q.1.length cap, .int .i64 (q.2 : Int)] 65)).cell? ⟨w3.heap.size, 0, none⟩ = some (.slice a q.1.length cap) := by rw [cell_of_row _ _ _ _ _ _ hX]; rfl
      clear hold' hent hrun g1 g4 g6 g3
      generalize w3.alloc (.cells #[.slice a q.1.length cap, .int .i64 (q.2 : Int)] 65) = W at *
      have y0 : W.cell? ⟨d, 0, none⟩ = some (.map (some m1)) := (dcell j6).1
      replace j1 := Lib.hid j1
      replace j4 := Lib.hid j4
      replace j6 := Lib.hid j6
      replace jB := Lib.hid jB
      replace j5 := Lib.hid j5
      go_still_tail 11, (by kernel_rfl)
      change wpList _ _ _ _ _ W.drew
      have hkey : e.1 ∈ L'.map (·.1) := List.mem_map.2 ⟨e, heL, rfl⟩
      have hup := update_there W.drew m1 L' clk e.1 (.agg #[.slice a q.1.length cap, .int .i64 ((q.1.length : Nat) : Int)]) j4.out hkey
      have hfin : SyncR w B d m1 w1.heap.size clk L1 st room used lit (leftOver lit left false) (setMap W.drew m1 (.map (ents (upd L' e.1 (.agg #[.slice a q.1.length cap, .int .i64 ((q.1.length : Nat) : Int)]) clk)).toArray clk)) := by
        obtain ⟨p, hp⟩ := idx_of_mem hkey
        have hs5 : ∀ (g : Nat) (cur : Array Value), wr.heap[g]? = some (.cells cur 5 (0, 0)) → (setMap W.drew m1 (.map (ents (upd L' e.1 (.agg #[.slice a q.1.length cap, .int .i64 ((q.1.length : Nat) : Int)]) clk)).toArray clk)).heap[g]? = wr.heap[g]? := by
          intro g cur hg
          have hgm : g ≠ m1 := by intro h; have := j5.out g cur hg; rw [h, j4.out] at this; cases this
          rw [setMap_other _ hgm, hg]; exact j5.out g cur hg
        refine ⟨upd L' e.1 (.agg #[.slice a q.1.length cap, .int .i64 ((q.1.length : Nat) : Int)]) clk, seen.push (ent e).born, clk, fun z => if z = e.1 then some (syncQ q) else st' z, ?_, Nat.le_refl _, (MapKept.heap_set (w := W.drew) j4.out).1, ?_, ?_, ?_, ?_, ?_, ?_, ?_⟩
        · rw [setMap_other _ (Ne.symm hIm)]; exact j1.out
        · rw [born_upd_some _ _ _ _ p hp]; exact i4
        · rw [keys_upd, if_pos hkey]; exact i5
        · rw [setMap_other _ hdm]; exact j6.out
        · intro z
          by_cases hz : z = e.1
          · refine .inr ⟨syncQ q, _, if_pos hz, by rw [find_upd, if_pos hz]; rfl, a, cap, rfl, row_change hr (fun ad ha => ?_), hle, hcap, fun ad ha => ?_, hq0, Nat.le_refl _⟩
            · obtain ⟨cur, hc'⟩ := ht5 ad ha; exact hs5 _ _ hc'
            · obtain ⟨cur, hc'⟩ := ht5 ad ha; exact ⟨cur, by rw [hs5 _ _ hc']; exact hc'⟩
          · rcases (i7.change hs5) z with ⟨a1, a2⟩ | ⟨q', v', a1, a2, a3⟩
            · exact .inl ⟨by simp only [if_neg hz, a1], by rw [find_upd, if_neg hz, a2]⟩
            · exact .inr ⟨q', v', by simp only [if_neg hz, a1], by rw [find_upd, if_neg hz, a2], a3⟩
        · intro z
          by_cases hz : z = e.1
          · right
            simp only [if_pos hz]
            rw [hz]
            rcases i8 e.1 with h | h
            · rw [← h, b1]; rfl
            · rw [b1] at h
              cases hst : st e.1 with
              | none => rw [hst] at h; cases h
              | some q0 => rw [hst] at h; cases h; rfl
          · simp only [if_neg hz]; exact i8 z
        · intro e' he' hc'
          by_cases hz : e'.1 = e.1
          · simp only [if_pos hz]
            rw [hz]
            rcases i8 e.1 with h | h
            · rw [← h, b1]; rfl
            · rw [b1] at h
              cases hst : st e.1 with
              | none => rw [hst] at h; cases h
              | some q0 => rw [hst] at h; cases h; rfl
          · simp only [if_neg hz]
            have hm' := mem_upd he' hz
            refine i9 e' hm' ?_
            rw [Array.contains_push] at hc'
            rcases Bool.or_eq_true_iff.1 hc' with h | h
            · exact h
            · exact absurd (by rw [born_inj (by rw [i4]; exact kn1) hm' heL (beq_iff_eq.1 h)]) hz
        · exact i10.trans (below_setMap jB.out.drew hBm1 _)
      have hmeas : (List.filter (fun b => !((setMap W.drew m1 (.map (ents (upd L' e.1 (.agg #[.slice a q.1.length cap, .int .i64 ((q.1.length : Nat) : Int)]) clk)).toArray clk)).iterSeen w1.heap.size).contains b) (L1.map (·.2.2))).length < (List.filter (fun b => !(wr.iterSeen w1.heap.size).contains b) (L1.map (·.2.2))).length := by
        have e1 : wr.iterSeen w1.heap.size = seen := by unfold World.iterSeen; rw [i1]
        have e2 : (setMap W.drew m1 (.map (ents (upd L' e.1 (.agg #[.slice a q.1.length cap, .int .i64 ((q.1.length : Nat) : Int)]) clk)).toArray clk)).iterSeen w1.heap.size = seen.push e.2.2 := by
          unfold World.iterSeen; rw [setMap_other _ (Ne.symm hIm)]
          show (match W.heap[w1.heap.size]? with | some (.mapIter _ _ s _) => s | _ => #[]) = _
          rw [j1.out]; rfl
        rw [e1, e2]
        refine filter_lt _ _ ?_ e.2.2 ?_ ?_ _ ?_
        · intro x hx
          simp only [Array.contains_push, Bool.not_eq_true', Bool.or_eq_false_iff] at hx ⊢
          exact hx.1
        · simp only [hns, Bool.not_false]
        · simp
        · rw [← i4]; exact List.mem_map.2 ⟨e, heL, rfl⟩
      replace hfin := Lib.hid hfin
      replace hmeas := Lib.hid hmeas
      clear i1 i2 i4 i5 i7 i8 i9 hns
      go_wp2_with fail
      exact ⟨hfin.out, hmeas.out⟩
theorem sync_dead (w : World) (B d : Nat) (st : ZSt) (room used : Int) (h : DiskAt w B d st room used true 0 true) :
    Calls Try.prog 9 #[.pointer (some ⟨d, 0, none⟩)] w fun e w' => e = .returned (.int .i64 8) ∧ DiskAt w' B d st room used true 0 true ∧ Below B w w' := by
  obtain ⟨m, L, hBd, hBm, h3, h4, h5⟩ := id h
  obtain ⟨c0, c1, c2, c3, c4, c5, cf⟩ := dcell h3
  have M := made_some d m w c0
  have U := burn w B d st room used true 0 true h (by decide)
  replace U := Lib.hid U
  clear h h3 h4 h5 c1 c2 c3 c4 c5 cf
  go_enter Try.func9, Try.ntmps9
  go_wp2_with (first | (go_at_call 30; refine M.mono ?_; rintro e w1 ⟨rfl, rfl⟩))
  refine U.out.mono ?_
  rintro e w1 ⟨rfl, hD1, hb1, ho1⟩
  have hD2 : DiskAt w1 B d st room used true 0 true := hD1
  replace hD2 := Lib.hid hD2
  replace hb1 := Lib.hid hb1
  clear hD1 ho1
  rw [show burnt true 0 true = true from rfl]
  go_wp2_with fail
  go_ret
  exact ⟨rfl, hD2.out, hb1.out⟩
end Go.Proofs.Ytjphboljhkddaaa
