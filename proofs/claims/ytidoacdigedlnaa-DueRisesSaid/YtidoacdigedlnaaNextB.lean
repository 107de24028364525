/- due.Next. -/
import Derived.Test.YtidoacdigedlnaaNextA
set_option linter.unusedVariables false
set_option linter.unusedSimpArgs false
namespace Go.Proofs.Ytidoacdigedlnaa
open Go.RowKit

def dueL (x : ST) : List Int := (if decide (0 < x.deadline) = true then [x.deadline] else []) ++ ((if (x.task.state == 2) = true then [x.task.due] else if (x.task.state == 0) = true ∧ x.fresh = true then [x.time] else []) ++ x.timers.map (·.due))
def nextF (x : ST) : Int × Bool := if (x.status == 1) = true then (if dueL x = [] then (0, false) else (max (minL (dueL x)) x.time, true)) else (0, false)
def NextP (w : World) (x : ST) (e : Ending) (w' : World) : Prop := e = .returned (.tuple #[.int .i64 (nextF x).1, .bool (nextF x).2]) ∧ Below w.heap.size w w'

set_option maxRecDepth 100000 in
set_option maxHeartbeats 1600000 in
theorem next_off (x : ST) (cs : List Value) (w : World) (h : SAt (Live w) w x cs) (h19 : x.timers.length ≤ 19) (hst : (x.status == 1) = false) :
    Calls Try.prog 11 #[.agg cs.toArray] w (NextP w x) := by
  have hl := h.len
  have hlo : cs.toArray.size = 31 := by simp [hl]
  have hss := Lib.hid (s_size hl)
  have hb : Below w.heap.size w (w.alloc (.cells cs.toArray 33)) := (Below.refl _ _).alloc (Nat.le_refl _) _
  have hX : (w.alloc (.cells cs.toArray 33)).heap[w.heap.size]? = some (.cells cs.toArray 33 (0, 0)) := heap_alloc_new w _
  have hsz : (w.alloc (.cells cs.toArray 33)).heap.size = w.heap.size + 1 := by simp
  have kp : ∀ w', Below w.heap.size w w' → SAt (Live w') w' x cs := fun w' hb => h.below hb
  have R := running _ x cs _ (kp _ hb)
  have kx : ∀ w', Below (w.heap.size + 1) (w.alloc (.cells cs.toArray 33)) w' → w'.heap[w.heap.size]? = some (.cells cs.toArray 33 (0, 0)) := fun w' hb => (hb.block _ (Nat.lt_succ_self _)).trans hX
  obtain ⟨k0, k1, k2, k3, k4, k5, k6, k7, k13, k14, k15, k16, k17, k18, k19, k20, k21, k22, k30, A_, R_, a1, c1, a2, c2, _, _, k23, _, _, _, hs, _, hc1, hc9, _⟩ := h.cells
  have kc : ∀ w', Below (w.heap.size + 1) (w.alloc (.cells cs.toArray 33)) w' → (w'.cell? ⟨w.heap.size, 3, none⟩ = some (.int .i64 x.time) ∧ w'.cell? ⟨w.heap.size, 4, none⟩ = some (.int .i64 x.deadline) ∧ w'.cell? ⟨w.heap.size, 16, none⟩ = some (.int .i64 x.task.state) ∧ w'.cell? ⟨w.heap.size, 18, none⟩ = some (.int .i64 x.task.due) ∧ w'.cell? ⟨w.heap.size, 21, none⟩ = some (.bool x.fresh) ∧ w'.cell? ⟨w.heap.size, 23, none⟩ = some (.slice a1 x.timers.length c1)) := fun w' hb => by
    have e := kx w' hb
    exact ⟨box_cell e 3 _ (by simpa using k3), box_cell e 4 _ (by simpa using k4), box_cell e 16 _ (by simpa using k16), box_cell e 18 _ (by simpa using k18), box_cell e 21 _ (by simpa using k21), box_cell e 23 _ (by simpa using k23)⟩
  generalize hnl : x.timers.length = n at *
  replace hnl := Lib.hid hnl
  replace hs := Lib.hid hs
  replace hb := Lib.hid hb
  replace hX := Lib.hid hX
  replace hsz := Lib.hid hsz
  replace kp := Lib.hid kp
  replace kx := Lib.hid kx
  replace kc := Lib.hid kc
  clear h hl k0 k1 k2 k3 k4 k5 k6 k7 k13 k14 k15 k16 k17 k18 k19 k20 k21 k22 k30 k23
  rw [hst] at R
  replace R := Lib.hid R
  replace hst := Lib.hid hst
  go_enter Try.func11, Try.ntmps11
  go_wp2_with (first | (with_reducible refine wpList_load_row rfl 33 (.tmp 1) rfl w.heap.size rfl 33 cs.toArray (0, 0) _ hX.out Try.underlying33 rfl hss.out ?_) | (go_at_call 20; refine R.out.mono ?_; rintro e w1 ⟨rfl, hb1⟩))
  replace hb1 := Lib.hid (hb.out.trans (hb1.mono (by rw [hsz.out]; omega)))
  clear R
  go_wp2_with fail
  go_ret2
  exact ⟨by unfold nextF; rw [hst.out]; rfl, hb1.out⟩

set_option maxRecDepth 100000 in
set_option maxHeartbeats 1600000 in
theorem next_da (x : ST) (cs : List Value) (w : World) (h : SAt (Live w) w x cs) (h19 : x.timers.length ≤ 19) (hst : (x.status == 1) = true) (hd : decide (0 < x.deadline) = true) (h2 : (x.task.state == 2) = true) :
    Calls Try.prog 11 #[.agg cs.toArray] w (NextP w x) := by
  have hl := h.len
  have hlo : cs.toArray.size = 31 := by simp [hl]
  have hss := Lib.hid (s_size hl)
  have hb : Below w.heap.size w (w.alloc (.cells cs.toArray 33)) := (Below.refl _ _).alloc (Nat.le_refl _) _
  have hX : (w.alloc (.cells cs.toArray 33)).heap[w.heap.size]? = some (.cells cs.toArray 33 (0, 0)) := heap_alloc_new w _
  have hsz : (w.alloc (.cells cs.toArray 33)).heap.size = w.heap.size + 1 := by simp
  have kp : ∀ w', Below w.heap.size w w' → SAt (Live w') w' x cs := fun w' hb => h.below hb
  have R := running _ x cs _ (kp _ hb)
  have kx : ∀ w', Below (w.heap.size + 1) (w.alloc (.cells cs.toArray 33)) w' → w'.heap[w.heap.size]? = some (.cells cs.toArray 33 (0, 0)) := fun w' hb => (hb.block _ (Nat.lt_succ_self _)).trans hX
  obtain ⟨k0, k1, k2, k3, k4, k5, k6, k7, k13, k14, k15, k16, k17, k18, k19, k20, k21, k22, k30, A_, R_, a1, c1, a2, c2, _, _, k23, _, _, _, hs, _, hc1, hc9, _⟩ := h.cells
  have kc : ∀ w', Below (w.heap.size + 1) (w.alloc (.cells cs.toArray 33)) w' → (w'.cell? ⟨w.heap.size, 3, none⟩ = some (.int .i64 x.time) ∧ w'.cell? ⟨w.heap.size, 4, none⟩ = some (.int .i64 x.deadline) ∧ w'.cell? ⟨w.heap.size, 16, none⟩ = some (.int .i64 x.task.state) ∧ w'.cell? ⟨w.heap.size, 18, none⟩ = some (.int .i64 x.task.due) ∧ w'.cell? ⟨w.heap.size, 21, none⟩ = some (.bool x.fresh) ∧ w'.cell? ⟨w.heap.size, 23, none⟩ = some (.slice a1 x.timers.length c1)) := fun w' hb => by
    have e := kx w' hb
    exact ⟨box_cell e 3 _ (by simpa using k3), box_cell e 4 _ (by simpa using k4), box_cell e 16 _ (by simpa using k16), box_cell e 18 _ (by simpa using k18), box_cell e 21 _ (by simpa using k21), box_cell e 23 _ (by simpa using k23)⟩
  generalize hnl : x.timers.length = n at *
  replace hnl := Lib.hid hnl
  replace hs := Lib.hid hs
  replace hb := Lib.hid hb
  replace hX := Lib.hid hX
  replace hsz := Lib.hid hsz
  replace kp := Lib.hid kp
  replace kx := Lib.hid kx
  replace kc := Lib.hid kc
  clear h hl k0 k1 k2 k3 k4 k5 k6 k7 k13 k14 k15 k16 k17 k18 k19 k20 k21 k22 k30 k23
  rw [hst] at R
  replace R := Lib.hid R
  replace hst := Lib.hid hst
  obtain ⟨i0, hi, hz0, hz1, hz2⟩ := info_parts (show (Try.prog.info? 3).map (fun i => (i.zero, i.size, i.bytes)) = some (some (.int .i64 0), 1, 8) by kernel_rfl)
  replace hi := Lib.hid hi
  replace hz0 := Lib.hid hz0
  replace hz1 := Lib.hid hz1
  replace hz2 := Lib.hid hz2
  go_enter Try.func11, Try.ntmps11
  go_wp2_with (first | (with_reducible refine wpList_load_row rfl 33 (.tmp 1) rfl w.heap.size rfl 33 cs.toArray (0, 0) _ hX.out Try.underlying33 rfl hss.out ?_) | (go_at_call 20; refine R.out.mono ?_; rintro e w1 ⟨rfl, hb1⟩; replace hb1 := hb1.mono (Nat.le_of_eq hsz.out.symm); obtain ⟨r3, r4, r16, r18, r21, r23⟩ := kc.out w1 hb1; have hB1 : w.heap.size + 1 ≤ w1.heap.size := (by have := hb1.size; rw [hsz.out] at this; exact this); replace hb1 := Lib.hid hb1; clear R; have ho1 : Hid (World.ownsRow w1 (w.heap.size + 1) 3 1 (.slice none 0 0) 0 (iFl [])) := (show World.ownsRow w1 (w.heap.size + 1) 3 1 (.slice none 0 0) 0 (iFl []) from ⟨rfl, .inl ⟨rfl, rfl⟩⟩); have hp1 : Hid (World.ownsRow (w1.alloc (.cells #[.int .i64 x.deadline] 3)) (w.heap.size + 1) 3 1 (.slice none 0 0) 0 (iFl [])) := own_below ho1.out ((Below.refl _ _).alloc (Nat.le_refl _) _); have hB1p : w.heap.size + 1 ≤ (w1.alloc (.cells #[.int .i64 x.deadline] 3)).heap.size := (by simp; omega); have hb1p := Lib.hid (hb1.out.alloc hB1 (.cells #[.int .i64 x.deadline] 3))) | (refine wpList_append_own_at _ rfl (.tmp 13) (.tmp 16) 60 rfl (w.heap.size + 1) 3 i0 _ 1 8 Try.underlying60 hi.out hz0.out hz1.out hz2.out rfl (by decide) (.slice none 0 0) 0 (iFl []) rfl hp1.out ⟨_, 0, none⟩ 1 1 [.int .i64 x.deadline] rfl rfl (fun j u hu => by rw [Addr.add_mid]; exact box_range (cs := [.int .i64 x.deadline]) (heap_alloc_new _ _) j u hu) (iFl_one [x.deadline]) (Nat.le_trans (show _ ≤ 1000 by omega) (by decide)) (by omega) (hB1p) ?_; intro v5 w5 q1 q2 q3 q4; have hbN := hb1p.out.grown q2 hB1p (fun k hk => (own_from hp1.out k hk).1); have ho5 : Hid (w5.ownsRow (w.heap.size + 1) 3 1 v5 1 (iFl [x.deadline])) := q1; obtain ⟨s3, s4, s16, s18, s21, s23⟩ := kc.out _ hbN; have hB5 : w.heap.size + 1 ≤ w5.heap.size := (by have := hbN.size; rw [hsz.out] at this; exact this); have hb5 := Lib.hid hbN; clear hbN q1 q2 q3 q4 r3 r4 r16 r18 r21 r23; have r3 := s3; have r4 := s4; have r16 := s16; have r18 := s18; have r21 := s21; have r23 := s23; clear s3 s4 s16 s18 s21 s23; have hp5 : Hid (World.ownsRow (w5.alloc (.cells #[.int .i64 x.task.due] 3)) (w.heap.size + 1) 3 1 v5 1 (iFl [x.deadline])) := own_below ho5.out ((Below.refl _ _).alloc (Nat.le_refl _) _); have hB5p : w.heap.size + 1 ≤ (w5.alloc (.cells #[.int .i64 x.task.due] 3)).heap.size := (by simp; omega); have hb5p := Lib.hid (hb5.out.alloc hB5 (.cells #[.int .i64 x.task.due] 3))) | (refine wpList_append_own_at _ rfl (.tmp 23) (.tmp 27) 60 rfl (w.heap.size + 1) 3 i0 _ 1 8 Try.underlying60 hi.out hz0.out hz1.out hz2.out rfl (by decide) v5 1 (iFl [x.deadline]) rfl hp5.out ⟨_, 0, none⟩ 1 1 [.int .i64 x.task.due] rfl rfl (fun j u hu => by rw [Addr.add_mid]; exact box_range (cs := [.int .i64 x.task.due]) (heap_alloc_new _ _) j u hu) (iFl_one [x.task.due]) (Nat.le_trans (show _ ≤ 1000 by omega) (by decide)) (by omega) (hB5p) ?_; intro v7 w7 q1 q2 q3 q4; have hbN := hb5p.out.grown q2 hB5p (fun k hk => (own_from hp5.out k hk).1); have ho7 : Hid (w7.ownsRow (w.heap.size + 1) 3 1 v7 2 (iFl [x.deadline, x.task.due])) := q1; obtain ⟨s3, s4, s16, s18, s21, s23⟩ := kc.out _ hbN; have hB7 : w.heap.size + 1 ≤ w7.heap.size := (by have := hbN.size; rw [hsz.out] at this; exact this); have hb7 := Lib.hid hbN; clear hbN q1 q2 q3 q4 r3 r4 r16 r18 r21 r23; have r3 := s3; have r4 := s4; have r16 := s16; have r18 := s18; have r21 := s21; have r23 := s23; clear s3 s4 s16 s18 s21 s23))
  replace hd := Lib.hid hd
  replace h2 := Lib.hid h2
  go_loopw [4, 46] (fun s4 s46 wr => ∃ (j : Nat) (D : List Int), s46 = .int .i64 (j : Int) ∧ j ≤ n ∧ D = [x.deadline, x.task.due] ++ (x.timers.take j).map (·.due) ∧ wr.ownsRow (w.heap.size + 1) 3 1 s4 D.length (iFl D) ∧ Below (w.heap.size + 1) (w.alloc (.cells cs.toArray 33)) wr) (fun _ s46 _ => n - (intOf s46).toNat)
  case atStart => exact ⟨0, [x.deadline, x.task.due], rfl, Nat.zero_le _, by simp, by exact ho7.out, hb7.out⟩
  case round =>
    obtain ⟨j, D, rfl, hj, hD, hor, hbr⟩ := hrel
    clear r3 r4 r16 r18 r21 r23
    have hwr : Below w.heap.size w wr := hb.out.trans (hbr.mono (Nat.le_succ _))
    have hBr : w.heap.size + 1 ≤ wr.heap.size := by have := hbr.size; rw [hsz.out] at this; exact this
    by_cases hlt : j < n
    · obtain ⟨y, hy⟩ : ∃ y, x.timers[j]? = some y := ⟨_, List.getElem?_eq_getElem (by rw [hnl.out]; exact hlt)⟩
      obtain ⟨g, off, ct, rfl, hg, hcl, hct, hcr⟩ := hs.out.get j y hy
      have hct : ct = [.string y.name, .int .i64 y.due] := hct
      subst hct
      have hcr' := range_keep hcr (hwr.block _ hg)
      have t0 : wr.cell? ⟨g, off + j * 2, none⟩ = some (.string y.name) := by have := hcr' 0 _ rfl; simpa using this
      have t1 := hcr' 1 _ rfl
      have b1 : (0 : Int) ≤ (j : Int) := by omega
      have b2 : (j : Int) < (n : Int) := by omega
      obtain ⟨np, hnp⟩ : ∃ np, D.length = np := ⟨_, rfl⟩
      have hnp2 : np ≤ 21 := by rw [← hnp, hD]; simp; omega
      rw [hnp] at hor
      have ho8 : ((wr.alloc (.cells #[.string y.name, .int .i64 y.due] 52)).alloc (.cells #[.int .i64 y.due] 3)).ownsRow (w.heap.size + 1) 3 1 u4 np (iFl D) := own_below (own_below hor ((Below.refl _ _).alloc (Nat.le_refl _) _)) ((Below.refl _ _).alloc (Nat.le_refl _) _)
      have hB8 : w.heap.size + 1 ≤ ((wr.alloc (.cells #[.string y.name, .int .i64 y.due] 52)).alloc (.cells #[.int .i64 y.due] 3)).heap.size := by simp; omega
      have hb8 := (hbr.alloc hBr (.cells #[.string y.name, .int .i64 y.due] 52)).alloc (show w.heap.size + 1 ≤ (wr.alloc (.cells #[.string y.name, .int .i64 y.due] 52)).heap.size by simp; omega) (.cells #[.int .i64 y.due] 3)
      replace hnp := Lib.hid hnp
      replace hD := Lib.hid hD
      replace hor := Lib.hid hor
      replace hbr := Lib.hid hbr
      replace hy := Lib.hid hy
      replace ho8 := Lib.hid ho8
      replace hB8 := Lib.hid hB8
      replace hb8 := Lib.hid hb8
      replace hwr := Lib.hid hwr
      replace hcr' := Lib.hid hcr'
      clear hcr hcl
      go_wp2_with (refine wpList_append_own_at _ rfl (.tmp 50) (.tmp 53) 60 rfl (w.heap.size + 1) 3 i0 _ 1 8 Try.underlying60 hi.out hz0.out hz1.out hz2.out rfl (by decide) u4 np (iFl D) rfl ho8.out ⟨_, 0, none⟩ 1 1 [.int .i64 y.due] rfl rfl (fun j u hu => by rw [Addr.add_mid]; exact box_range (cs := [.int .i64 y.due]) (heap_alloc2_new wr _ _) j u hu) (iFl_one [y.due]) (Nat.le_trans (show _ ≤ 1000 by omega) (by decide)) (by omega) (hB8.out) ?_; intro v8 w8 q1 q2 q3 q4; replace q1 := Lib.hid q1; replace q2 : Hid (World.grownBy ((wr.alloc (.cells #[.string y.name, .int .i64 y.due] 52)).alloc (.cells #[.int .i64 y.due] 3)) w8 u4.ownBlock) := q2; clear q3 q4)
      go_roundw
      case rel =>
        refine ⟨j + 1, D ++ [y.due], by go_num, by omega, ?_, ?_, hb8.out.grown q2.out hB8.out (fun q hq => (own_from ho8.out q hq).1)⟩
        · rw [List.take_add_one, hy.out]; have e := hD.out; rw [e]; simp
        · have e1 : (D ++ [y.due]).length = np + 1 := by rw [List.length_append, hnp.out]; rfl
          rw [e1, show iFl (D ++ [y.due]) = iFl D ++ [.int .i64 y.due] by simp [iFl]]
          exact q1.out
      case measure => simp [intOf]; omega
    · obtain rfl : j = n := by omega
      have hDL : D = dueL x := by
        rw [hD, List.take_of_length_le (by rw [hnl.out]; exact Nat.le_refl _)]
        unfold dueL; rw [hd.out, h2.out]; simp
      obtain ⟨r3, r4, r16, r18, r21, r23⟩ := kc.out wr hbr
      obtain ⟨np, hnp⟩ : ∃ np, D.length = np := ⟨_, rfl⟩
      have hnp2 : np ≤ 21 := by rw [← hnp, hD]; simp; omega
      rw [hnp] at hor
      obtain ⟨ar, cr, rfl, _, _, _⟩ := own_len hor
      have hnF : nextF x = if np = 0 then (0, false) else (max (minL D) x.time, true) := by
        unfold nextF
        rw [if_pos hst.out, ← hDL]
        by_cases h00 : np = 0
        · rw [if_pos h00, if_pos (List.length_eq_zero_iff.1 (by rw [hnp]; exact h00))]
        · rw [if_neg h00, if_neg (fun e => h00 (by rw [← hnp, e]; rfl))]
      clear hlt hj hDL
      by_cases h00 : np = 0
      · subst h00
        replace hD := Lib.hid hD
        replace hor := Lib.hid hor
        replace hbr := Lib.hid hbr
        replace hnp := Lib.hid hnp
        replace hnF := Lib.hid hnF
        replace hwr := Lib.hid hwr
        go_wp2_with fail
        go_ret2
        exact ⟨by rw [hnF.out]; rfl, hwr.out⟩
      · obtain ⟨gr, cr', e1, e2, e3, _, _, hrr⟩ := own_range hor (by omega)
        cases e1
        have MC := fun w' (hw' : w'.heap[gr]? = wr.heap[gr]?) => minC gr np cr D w' (range_keep hrr hw') hnp (by omega) (by omega)
        have h01 : ((np : Int) == 0) = false := beq_eq_false_iff_ne.2 (by omega)
        rw [if_neg h00] at hnF
        generalize minL D = mD at *
        replace hD := Lib.hid hD
        replace hor := Lib.hid hor
        replace hbr := Lib.hid hbr
        replace hnp := Lib.hid hnp
        replace hnF := Lib.hid hnF
        replace hwr := Lib.hid hwr
        replace hrr := Lib.hid hrr
        replace MC := Lib.hid MC
        replace h00 := Lib.hid h00
        go_wp2_with fail
        go_region_with (go_at_call 27; refine (MC.out _ ?_).mono ?_; exact rfl; rintro e w9 ⟨rfl, rfl⟩)
        all_goals
          go_wp2_with fail
        all_goals
          go_ret2
          refine ⟨?_, hwr.out.drew⟩
          rw [hnF.out]
          first | rfl | (simp; omega) | (congr 4; omega)

set_option maxRecDepth 100000 in
set_option maxHeartbeats 1600000 in
theorem next_db (x : ST) (cs : List Value) (w : World) (h : SAt (Live w) w x cs) (h19 : x.timers.length ≤ 19) (hst : (x.status == 1) = true) (hd : decide (0 < x.deadline) = true) (h2 : (x.task.state == 2) = false) (h0 : (x.task.state == 0) = true) (hf : x.fresh = true) :
    Calls Try.prog 11 #[.agg cs.toArray] w (NextP w x) := by
  have hl := h.len
  have hlo : cs.toArray.size = 31 := by simp [hl]
  have hss := Lib.hid (s_size hl)
  have hb : Below w.heap.size w (w.alloc (.cells cs.toArray 33)) := (Below.refl _ _).alloc (Nat.le_refl _) _
  have hX : (w.alloc (.cells cs.toArray 33)).heap[w.heap.size]? = some (.cells cs.toArray 33 (0, 0)) := heap_alloc_new w _
  have hsz : (w.alloc (.cells cs.toArray 33)).heap.size = w.heap.size + 1 := by simp
  have kp : ∀ w', Below w.heap.size w w' → SAt (Live w') w' x cs := fun w' hb => h.below hb
  have R := running _ x cs _ (kp _ hb)
  have kx : ∀ w', Below (w.heap.size + 1) (w.alloc (.cells cs.toArray 33)) w' → w'.heap[w.heap.size]? = some (.cells cs.toArray 33 (0, 0)) := fun w' hb => (hb.block _ (Nat.lt_succ_self _)).trans hX
  obtain ⟨k0, k1, k2, k3, k4, k5, k6, k7, k13, k14, k15, k16, k17, k18, k19, k20, k21, k22, k30, A_, R_, a1, c1, a2, c2, _, _, k23, _, _, _, hs, _, hc1, hc9, _⟩ := h.cells
  have kc : ∀ w', Below (w.heap.size + 1) (w.alloc (.cells cs.toArray 33)) w' → (w'.cell? ⟨w.heap.size, 3, none⟩ = some (.int .i64 x.time) ∧ w'.cell? ⟨w.heap.size, 4, none⟩ = some (.int .i64 x.deadline) ∧ w'.cell? ⟨w.heap.size, 16, none⟩ = some (.int .i64 x.task.state) ∧ w'.cell? ⟨w.heap.size, 18, none⟩ = some (.int .i64 x.task.due) ∧ w'.cell? ⟨w.heap.size, 21, none⟩ = some (.bool x.fresh) ∧ w'.cell? ⟨w.heap.size, 23, none⟩ = some (.slice a1 x.timers.length c1)) := fun w' hb => by
    have e := kx w' hb
    exact ⟨box_cell e 3 _ (by simpa using k3), box_cell e 4 _ (by simpa using k4), box_cell e 16 _ (by simpa using k16), box_cell e 18 _ (by simpa using k18), box_cell e 21 _ (by simpa using k21), box_cell e 23 _ (by simpa using k23)⟩
  generalize hnl : x.timers.length = n at *
  replace hnl := Lib.hid hnl
  replace hs := Lib.hid hs
  replace hb := Lib.hid hb
  replace hX := Lib.hid hX
  replace hsz := Lib.hid hsz
  replace kp := Lib.hid kp
  replace kx := Lib.hid kx
  replace kc := Lib.hid kc
  clear h hl k0 k1 k2 k3 k4 k5 k6 k7 k13 k14 k15 k16 k17 k18 k19 k20 k21 k22 k30 k23
  rw [hst] at R
  replace R := Lib.hid R
  replace hst := Lib.hid hst
  obtain ⟨i0, hi, hz0, hz1, hz2⟩ := info_parts (show (Try.prog.info? 3).map (fun i => (i.zero, i.size, i.bytes)) = some (some (.int .i64 0), 1, 8) by kernel_rfl)
  replace hi := Lib.hid hi
  replace hz0 := Lib.hid hz0
  replace hz1 := Lib.hid hz1
  replace hz2 := Lib.hid hz2
  go_enter Try.func11, Try.ntmps11
  go_wp2_with (first | (with_reducible refine wpList_load_row rfl 33 (.tmp 1) rfl w.heap.size rfl 33 cs.toArray (0, 0) _ hX.out Try.underlying33 rfl hss.out ?_) | (go_at_call 20; refine R.out.mono ?_; rintro e w1 ⟨rfl, hb1⟩; replace hb1 := hb1.mono (Nat.le_of_eq hsz.out.symm); obtain ⟨r3, r4, r16, r18, r21, r23⟩ := kc.out w1 hb1; have hB1 : w.heap.size + 1 ≤ w1.heap.size := (by have := hb1.size; rw [hsz.out] at this; exact this); replace hb1 := Lib.hid hb1; clear R; have ho1 : Hid (World.ownsRow w1 (w.heap.size + 1) 3 1 (.slice none 0 0) 0 (iFl [])) := (show World.ownsRow w1 (w.heap.size + 1) 3 1 (.slice none 0 0) 0 (iFl []) from ⟨rfl, .inl ⟨rfl, rfl⟩⟩); have hp1 : Hid (World.ownsRow (w1.alloc (.cells #[.int .i64 x.deadline] 3)) (w.heap.size + 1) 3 1 (.slice none 0 0) 0 (iFl [])) := own_below ho1.out ((Below.refl _ _).alloc (Nat.le_refl _) _); have hB1p : w.heap.size + 1 ≤ (w1.alloc (.cells #[.int .i64 x.deadline] 3)).heap.size := (by simp; omega); have hb1p := Lib.hid (hb1.out.alloc hB1 (.cells #[.int .i64 x.deadline] 3))) | (refine wpList_append_own_at _ rfl (.tmp 13) (.tmp 16) 60 rfl (w.heap.size + 1) 3 i0 _ 1 8 Try.underlying60 hi.out hz0.out hz1.out hz2.out rfl (by decide) (.slice none 0 0) 0 (iFl []) rfl hp1.out ⟨_, 0, none⟩ 1 1 [.int .i64 x.deadline] rfl rfl (fun j u hu => by rw [Addr.add_mid]; exact box_range (cs := [.int .i64 x.deadline]) (heap_alloc_new _ _) j u hu) (iFl_one [x.deadline]) (Nat.le_trans (show _ ≤ 1000 by omega) (by decide)) (by omega) (hB1p) ?_; intro v5 w5 q1 q2 q3 q4; have hbN := hb1p.out.grown q2 hB1p (fun k hk => (own_from hp1.out k hk).1); have ho5 : Hid (w5.ownsRow (w.heap.size + 1) 3 1 v5 1 (iFl [x.deadline])) := q1; obtain ⟨s3, s4, s16, s18, s21, s23⟩ := kc.out _ hbN; have hB5 : w.heap.size + 1 ≤ w5.heap.size := (by have := hbN.size; rw [hsz.out] at this; exact this); have hb5 := Lib.hid hbN; clear hbN q1 q2 q3 q4 r3 r4 r16 r18 r21 r23; have r3 := s3; have r4 := s4; have r16 := s16; have r18 := s18; have r21 := s21; have r23 := s23; clear s3 s4 s16 s18 s21 s23; have hp5 : Hid (World.ownsRow (w5.alloc (.cells #[.int .i64 x.time] 3)) (w.heap.size + 1) 3 1 v5 1 (iFl [x.deadline])) := own_below ho5.out ((Below.refl _ _).alloc (Nat.le_refl _) _); have hB5p : w.heap.size + 1 ≤ (w5.alloc (.cells #[.int .i64 x.time] 3)).heap.size := (by simp; omega); have hb5p := Lib.hid (hb5.out.alloc hB5 (.cells #[.int .i64 x.time] 3))) | (refine wpList_append_own_at _ rfl (.tmp 38) (.tmp 41) 60 rfl (w.heap.size + 1) 3 i0 _ 1 8 Try.underlying60 hi.out hz0.out hz1.out hz2.out rfl (by decide) v5 1 (iFl [x.deadline]) rfl hp5.out ⟨_, 0, none⟩ 1 1 [.int .i64 x.time] rfl rfl (fun j u hu => by rw [Addr.add_mid]; exact box_range (cs := [.int .i64 x.time]) (heap_alloc_new _ _) j u hu) (iFl_one [x.time]) (Nat.le_trans (show _ ≤ 1000 by omega) (by decide)) (by omega) (hB5p) ?_; intro v7 w7 q1 q2 q3 q4; have hbN := hb5p.out.grown q2 hB5p (fun k hk => (own_from hp5.out k hk).1); have ho7 : Hid (w7.ownsRow (w.heap.size + 1) 3 1 v7 2 (iFl [x.deadline, x.time])) := q1; obtain ⟨s3, s4, s16, s18, s21, s23⟩ := kc.out _ hbN; have hB7 : w.heap.size + 1 ≤ w7.heap.size := (by have := hbN.size; rw [hsz.out] at this; exact this); have hb7 := Lib.hid hbN; clear hbN q1 q2 q3 q4 r3 r4 r16 r18 r21 r23; have r3 := s3; have r4 := s4; have r16 := s16; have r18 := s18; have r21 := s21; have r23 := s23; clear s3 s4 s16 s18 s21 s23))
  replace hd := Lib.hid hd
  replace h2 := Lib.hid h2
  replace h0 := Lib.hid h0
  replace hf := Lib.hid hf
  go_loopw [4, 46] (fun s4 s46 wr => ∃ (j : Nat) (D : List Int), s46 = .int .i64 (j : Int) ∧ j ≤ n ∧ D = [x.deadline, x.time] ++ (x.timers.take j).map (·.due) ∧ wr.ownsRow (w.heap.size + 1) 3 1 s4 D.length (iFl D) ∧ Below (w.heap.size + 1) (w.alloc (.cells cs.toArray 33)) wr) (fun _ s46 _ => n - (intOf s46).toNat)
  case atStart => exact ⟨0, [x.deadline, x.time], rfl, Nat.zero_le _, by simp, by exact ho7.out, hb7.out⟩
  case round =>
    obtain ⟨j, D, rfl, hj, hD, hor, hbr⟩ := hrel
    clear r3 r4 r16 r18 r21 r23
    have hwr : Below w.heap.size w wr := hb.out.trans (hbr.mono (Nat.le_succ _))
    have hBr : w.heap.size + 1 ≤ wr.heap.size := by have := hbr.size; rw [hsz.out] at this; exact this
    by_cases hlt : j < n
    · obtain ⟨y, hy⟩ : ∃ y, x.timers[j]? = some y := ⟨_, List.getElem?_eq_getElem (by rw [hnl.out]; exact hlt)⟩
      obtain ⟨g, off, ct, rfl, hg, hcl, hct, hcr⟩ := hs.out.get j y hy
      have hct : ct = [.string y.name, .int .i64 y.due] := hct
      subst hct
      have hcr' := range_keep hcr (hwr.block _ hg)
      have t0 : wr.cell? ⟨g, off + j * 2, none⟩ = some (.string y.name) := by have := hcr' 0 _ rfl; simpa using this
      have t1 := hcr' 1 _ rfl
      have b1 : (0 : Int) ≤ (j : Int) := by omega
      have b2 : (j : Int) < (n : Int) := by omega
      obtain ⟨np, hnp⟩ : ∃ np, D.length = np := ⟨_, rfl⟩
      have hnp2 : np ≤ 21 := by rw [← hnp, hD]; simp; omega
      rw [hnp] at hor
      have ho8 : ((wr.alloc (.cells #[.string y.name, .int .i64 y.due] 52)).alloc (.cells #[.int .i64 y.due] 3)).ownsRow (w.heap.size + 1) 3 1 u4 np (iFl D) := own_below (own_below hor ((Below.refl _ _).alloc (Nat.le_refl _) _)) ((Below.refl _ _).alloc (Nat.le_refl _) _)
      have hB8 : w.heap.size + 1 ≤ ((wr.alloc (.cells #[.string y.name, .int .i64 y.due] 52)).alloc (.cells #[.int .i64 y.due] 3)).heap.size := by simp; omega
      have hb8 := (hbr.alloc hBr (.cells #[.string y.name, .int .i64 y.due] 52)).alloc (show w.heap.size + 1 ≤ (wr.alloc (.cells #[.string y.name, .int .i64 y.due] 52)).heap.size by simp; omega) (.cells #[.int .i64 y.due] 3)
      replace hnp := Lib.hid hnp
      replace hD := Lib.hid hD
      replace hor := Lib.hid hor
      replace hbr := Lib.hid hbr
      replace hy := Lib.hid hy
      replace ho8 := Lib.hid ho8
      replace hB8 := Lib.hid hB8
      replace hb8 := Lib.hid hb8
      replace hwr := Lib.hid hwr
      replace hcr' := Lib.hid hcr'
      clear hcr hcl
      go_wp2_with (refine wpList_append_own_at _ rfl (.tmp 50) (.tmp 53) 60 rfl (w.heap.size + 1) 3 i0 _ 1 8 Try.underlying60 hi.out hz0.out hz1.out hz2.out rfl (by decide) u4 np (iFl D) rfl ho8.out ⟨_, 0, none⟩ 1 1 [.int .i64 y.due] rfl rfl (fun j u hu => by rw [Addr.add_mid]; exact box_range (cs := [.int .i64 y.due]) (heap_alloc2_new wr _ _) j u hu) (iFl_one [y.due]) (Nat.le_trans (show _ ≤ 1000 by omega) (by decide)) (by omega) (hB8.out) ?_; intro v8 w8 q1 q2 q3 q4; replace q1 := Lib.hid q1; replace q2 : Hid (World.grownBy ((wr.alloc (.cells #[.string y.name, .int .i64 y.due] 52)).alloc (.cells #[.int .i64 y.due] 3)) w8 u4.ownBlock) := q2; clear q3 q4)
      go_roundw
      case rel =>
        refine ⟨j + 1, D ++ [y.due], by go_num, by omega, ?_, ?_, hb8.out.grown q2.out hB8.out (fun q hq => (own_from ho8.out q hq).1)⟩
        · rw [List.take_add_one, hy.out]; have e := hD.out; rw [e]; simp
        · have e1 : (D ++ [y.due]).length = np + 1 := by rw [List.length_append, hnp.out]; rfl
          rw [e1, show iFl (D ++ [y.due]) = iFl D ++ [.int .i64 y.due] by simp [iFl]]
          exact q1.out
      case measure => simp [intOf]; omega
    · obtain rfl : j = n := by omega
      have hDL : D = dueL x := by
        rw [hD, List.take_of_length_le (by rw [hnl.out]; exact Nat.le_refl _)]
        unfold dueL; rw [hd.out, h2.out]; rw [h0.out, hf.out]; simp
      obtain ⟨r3, r4, r16, r18, r21, r23⟩ := kc.out wr hbr
      obtain ⟨np, hnp⟩ : ∃ np, D.length = np := ⟨_, rfl⟩
      have hnp2 : np ≤ 21 := by rw [← hnp, hD]; simp; omega
      rw [hnp] at hor
      obtain ⟨ar, cr, rfl, _, _, _⟩ := own_len hor
      have hnF : nextF x = if np = 0 then (0, false) else (max (minL D) x.time, true) := by
        unfold nextF
        rw [if_pos hst.out, ← hDL]
        by_cases h00 : np = 0
        · rw [if_pos h00, if_pos (List.length_eq_zero_iff.1 (by rw [hnp]; exact h00))]
        · rw [if_neg h00, if_neg (fun e => h00 (by rw [← hnp, e]; rfl))]
      clear hlt hj hDL
      by_cases h00 : np = 0
      · subst h00
        replace hD := Lib.hid hD
        replace hor := Lib.hid hor
        replace hbr := Lib.hid hbr
        replace hnp := Lib.hid hnp
        replace hnF := Lib.hid hnF
        replace hwr := Lib.hid hwr
        go_wp2_with fail
        go_ret2
        exact ⟨by rw [hnF.out]; rfl, hwr.out⟩
      · obtain ⟨gr, cr', e1, e2, e3, _, _, hrr⟩ := own_range hor (by omega)
        cases e1
        have MC := fun w' (hw' : w'.heap[gr]? = wr.heap[gr]?) => minC gr np cr D w' (range_keep hrr hw') hnp (by omega) (by omega)
        have h01 : ((np : Int) == 0) = false := beq_eq_false_iff_ne.2 (by omega)
        rw [if_neg h00] at hnF
        generalize minL D = mD at *
        replace hD := Lib.hid hD
        replace hor := Lib.hid hor
        replace hbr := Lib.hid hbr
        replace hnp := Lib.hid hnp
        replace hnF := Lib.hid hnF
        replace hwr := Lib.hid hwr
        replace hrr := Lib.hid hrr
        replace MC := Lib.hid MC
        replace h00 := Lib.hid h00
        go_wp2_with fail
        go_region_with (go_at_call 27; refine (MC.out _ ?_).mono ?_; exact rfl; rintro e w9 ⟨rfl, rfl⟩)
        all_goals
          go_wp2_with fail
        all_goals
          go_ret2
          refine ⟨?_, hwr.out.drew⟩
          rw [hnF.out]
          first | rfl | (simp; omega) | (congr 4; omega)

set_option maxRecDepth 100000 in
set_option maxHeartbeats 1600000 in
theorem next_dc (x : ST) (cs : List Value) (w : World) (h : SAt (Live w) w x cs) (h19 : x.timers.length ≤ 19) (hst : (x.status == 1) = true) (hd : decide (0 < x.deadline) = true) (h2 : (x.task.state == 2) = false) (h0 : (x.task.state == 0) = true) (hf : x.fresh = false) :
    Calls Try.prog 11 #[.agg cs.toArray] w (NextP w x) := by
  have hl := h.len
  have hlo : cs.toArray.size = 31 := by simp [hl]
  have hss := Lib.hid (s_size hl)
  have hb : Below w.heap.size w (w.alloc (.cells cs.toArray 33)) := (Below.refl _ _).alloc (Nat.le_refl _) _
  have hX : (w.alloc (.cells cs.toArray 33)).heap[w.heap.size]? = some (.cells cs.toArray 33 (0, 0)) := heap_alloc_new w _
  have hsz : (w.alloc (.cells cs.toArray 33)).heap.size = w.heap.size + 1 := by simp
  have kp : ∀ w', Below w.heap.size w w' → SAt (Live w') w' x cs := fun w' hb => h.below hb
  have R := running _ x cs _ (kp _ hb)
  have kx : ∀ w', Below (w.heap.size + 1) (w.alloc (.cells cs.toArray 33)) w' → w'.heap[w.heap.size]? = some (.cells cs.toArray 33 (0, 0)) := fun w' hb => (hb.block _ (Nat.lt_succ_self _)).trans hX
  obtain ⟨k0, k1, k2, k3, k4, k5, k6, k7, k13, k14, k15, k16, k17, k18, k19, k20, k21, k22, k30, A_, R_, a1, c1, a2, c2, _, _, k23, _, _, _, hs, _, hc1, hc9, _⟩ := h.cells
  have kc : ∀ w', Below (w.heap.size + 1) (w.alloc (.cells cs.toArray 33)) w' → (w'.cell? ⟨w.heap.size, 3, none⟩ = some (.int .i64 x.time) ∧ w'.cell? ⟨w.heap.size, 4, none⟩ = some (.int .i64 x.deadline) ∧ w'.cell? ⟨w.heap.size, 16, none⟩ = some (.int .i64 x.task.state) ∧ w'.cell? ⟨w.heap.size, 18, none⟩ = some (.int .i64 x.task.due) ∧ w'.cell? ⟨w.heap.size, 21, none⟩ = some (.bool x.fresh) ∧ w'.cell? ⟨w.heap.size, 23, none⟩ = some (.slice a1 x.timers.length c1)) := fun w' hb => by
    have e := kx w' hb
    exact ⟨box_cell e 3 _ (by simpa using k3), box_cell e 4 _ (by simpa using k4), box_cell e 16 _ (by simpa using k16), box_cell e 18 _ (by simpa using k18), box_cell e 21 _ (by simpa using k21), box_cell e 23 _ (by simpa using k23)⟩
  generalize hnl : x.timers.length = n at *
  replace hnl := Lib.hid hnl
  replace hs := Lib.hid hs
  replace hb := Lib.hid hb
  replace hX := Lib.hid hX
  replace hsz := Lib.hid hsz
  replace kp := Lib.hid kp
  replace kx := Lib.hid kx
  replace kc := Lib.hid kc
  clear h hl k0 k1 k2 k3 k4 k5 k6 k7 k13 k14 k15 k16 k17 k18 k19 k20 k21 k22 k30 k23
  rw [hst] at R
  replace R := Lib.hid R
  replace hst := Lib.hid hst
  obtain ⟨i0, hi, hz0, hz1, hz2⟩ := info_parts (show (Try.prog.info? 3).map (fun i => (i.zero, i.size, i.bytes)) = some (some (.int .i64 0), 1, 8) by kernel_rfl)
  replace hi := Lib.hid hi
  replace hz0 := Lib.hid hz0
  replace hz1 := Lib.hid hz1
  replace hz2 := Lib.hid hz2
  go_enter Try.func11, Try.ntmps11
  go_wp2_with (first | (with_reducible refine wpList_load_row rfl 33 (.tmp 1) rfl w.heap.size rfl 33 cs.toArray (0, 0) _ hX.out Try.underlying33 rfl hss.out ?_) | (go_at_call 20; refine R.out.mono ?_; rintro e w1 ⟨rfl, hb1⟩; replace hb1 := hb1.mono (Nat.le_of_eq hsz.out.symm); obtain ⟨r3, r4, r16, r18, r21, r23⟩ := kc.out w1 hb1; have hB1 : w.heap.size + 1 ≤ w1.heap.size := (by have := hb1.size; rw [hsz.out] at this; exact this); replace hb1 := Lib.hid hb1; clear R; have ho1 : Hid (World.ownsRow w1 (w.heap.size + 1) 3 1 (.slice none 0 0) 0 (iFl [])) := (show World.ownsRow w1 (w.heap.size + 1) 3 1 (.slice none 0 0) 0 (iFl []) from ⟨rfl, .inl ⟨rfl, rfl⟩⟩); have hp1 : Hid (World.ownsRow (w1.alloc (.cells #[.int .i64 x.deadline] 3)) (w.heap.size + 1) 3 1 (.slice none 0 0) 0 (iFl [])) := own_below ho1.out ((Below.refl _ _).alloc (Nat.le_refl _) _); have hB1p : w.heap.size + 1 ≤ (w1.alloc (.cells #[.int .i64 x.deadline] 3)).heap.size := (by simp; omega); have hb1p := Lib.hid (hb1.out.alloc hB1 (.cells #[.int .i64 x.deadline] 3))) | (refine wpList_append_own_at _ rfl (.tmp 13) (.tmp 16) 60 rfl (w.heap.size + 1) 3 i0 _ 1 8 Try.underlying60 hi.out hz0.out hz1.out hz2.out rfl (by decide) (.slice none 0 0) 0 (iFl []) rfl hp1.out ⟨_, 0, none⟩ 1 1 [.int .i64 x.deadline] rfl rfl (fun j u hu => by rw [Addr.add_mid]; exact box_range (cs := [.int .i64 x.deadline]) (heap_alloc_new _ _) j u hu) (iFl_one [x.deadline]) (Nat.le_trans (show _ ≤ 1000 by omega) (by decide)) (by omega) (hB1p) ?_; intro v5 w5 q1 q2 q3 q4; have hbN := hb1p.out.grown q2 hB1p (fun k hk => (own_from hp1.out k hk).1); have ho5 : Hid (w5.ownsRow (w.heap.size + 1) 3 1 v5 1 (iFl [x.deadline])) := q1; obtain ⟨s3, s4, s16, s18, s21, s23⟩ := kc.out _ hbN; have hB5 : w.heap.size + 1 ≤ w5.heap.size := (by have := hbN.size; rw [hsz.out] at this; exact this); have hb5 := Lib.hid hbN; clear hbN q1 q2 q3 q4 r3 r4 r16 r18 r21 r23; have r3 := s3; have r4 := s4; have r16 := s16; have r18 := s18; have r21 := s21; have r23 := s23; clear s3 s4 s16 s18 s21 s23))
  replace hd := Lib.hid hd
  replace h2 := Lib.hid h2
  replace h0 := Lib.hid h0
  replace hf := Lib.hid hf
  go_loopw [4, 46] (fun s4 s46 wr => ∃ (j : Nat) (D : List Int), s46 = .int .i64 (j : Int) ∧ j ≤ n ∧ D = [x.deadline] ++ (x.timers.take j).map (·.due) ∧ wr.ownsRow (w.heap.size + 1) 3 1 s4 D.length (iFl D) ∧ Below (w.heap.size + 1) (w.alloc (.cells cs.toArray 33)) wr) (fun _ s46 _ => n - (intOf s46).toNat)
  case atStart => exact ⟨0, [x.deadline], rfl, Nat.zero_le _, by simp, by exact ho5.out, hb5.out⟩
  case round =>
    obtain ⟨j, D, rfl, hj, hD, hor, hbr⟩ := hrel
    clear r3 r4 r16 r18 r21 r23
    have hwr : Below w.heap.size w wr := hb.out.trans (hbr.mono (Nat.le_succ _))
    have hBr : w.heap.size + 1 ≤ wr.heap.size := by have := hbr.size; rw [hsz.out] at this; exact this
    by_cases hlt : j < n
    · obtain ⟨y, hy⟩ : ∃ y, x.timers[j]? = some y := ⟨_, List.getElem?_eq_getElem (by rw [hnl.out]; exact hlt)⟩
      obtain ⟨g, off, ct, rfl, hg, hcl, hct, hcr⟩ := hs.out.get j y hy
      have hct : ct = [.string y.name, .int .i64 y.due] := hct
      subst hct
      have hcr' := range_keep hcr (hwr.block _ hg)
      have t0 : wr.cell? ⟨g, off + j * 2, none⟩ = some (.string y.name) := by have := hcr' 0 _ rfl; simpa using this
      have t1 := hcr' 1 _ rfl
      have b1 : (0 : Int) ≤ (j : Int) := by omega
      have b2 : (j : Int) < (n : Int) := by omega
      obtain ⟨np, hnp⟩ : ∃ np, D.length = np := ⟨_, rfl⟩
      have hnp2 : np ≤ 21 := by rw [← hnp, hD]; simp; omega
      rw [hnp] at hor
      have ho8 : ((wr.alloc (.cells #[.string y.name, .int .i64 y.due] 52)).alloc (.cells #[.int .i64 y.due] 3)).ownsRow (w.heap.size + 1) 3 1 u4 np (iFl D) := own_below (own_below hor ((Below.refl _ _).alloc (Nat.le_refl _) _)) ((Below.refl _ _).alloc (Nat.le_refl _) _)
      have hB8 : w.heap.size + 1 ≤ ((wr.alloc (.cells #[.string y.name, .int .i64 y.due] 52)).alloc (.cells #[.int .i64 y.due] 3)).heap.size := by simp; omega
      have hb8 := (hbr.alloc hBr (.cells #[.string y.name, .int .i64 y.due] 52)).alloc (show w.heap.size + 1 ≤ (wr.alloc (.cells #[.string y.name, .int .i64 y.due] 52)).heap.size by simp; omega) (.cells #[.int .i64 y.due] 3)
      replace hnp := Lib.hid hnp
      replace hD := Lib.hid hD
      replace hor := Lib.hid hor
      replace hbr := Lib.hid hbr
      replace hy := Lib.hid hy
      replace ho8 := Lib.hid ho8
      replace hB8 := Lib.hid hB8
      replace hb8 := Lib.hid hb8
      replace hwr := Lib.hid hwr
      replace hcr' := Lib.hid hcr'
      clear hcr hcl
      go_wp2_with (refine wpList_append_own_at _ rfl (.tmp 50) (.tmp 53) 60 rfl (w.heap.size + 1) 3 i0 _ 1 8 Try.underlying60 hi.out hz0.out hz1.out hz2.out rfl (by decide) u4 np (iFl D) rfl ho8.out ⟨_, 0, none⟩ 1 1 [.int .i64 y.due] rfl rfl (fun j u hu => by rw [Addr.add_mid]; exact box_range (cs := [.int .i64 y.due]) (heap_alloc2_new wr _ _) j u hu) (iFl_one [y.due]) (Nat.le_trans (show _ ≤ 1000 by omega) (by decide)) (by omega) (hB8.out) ?_; intro v8 w8 q1 q2 q3 q4; replace q1 := Lib.hid q1; replace q2 : Hid (World.grownBy ((wr.alloc (.cells #[.string y.name, .int .i64 y.due] 52)).alloc (.cells #[.int .i64 y.due] 3)) w8 u4.ownBlock) := q2; clear q3 q4)
      go_roundw
      case rel =>
        refine ⟨j + 1, D ++ [y.due], by go_num, by omega, ?_, ?_, hb8.out.grown q2.out hB8.out (fun q hq => (own_from ho8.out q hq).1)⟩
        · rw [List.take_add_one, hy.out]; have e := hD.out; rw [e]; simp
        · have e1 : (D ++ [y.due]).length = np + 1 := by rw [List.length_append, hnp.out]; rfl
          rw [e1, show iFl (D ++ [y.due]) = iFl D ++ [.int .i64 y.due] by simp [iFl]]
          exact q1.out
      case measure => simp [intOf]; omega
    · obtain rfl : j = n := by omega
      have hDL : D = dueL x := by
        rw [hD, List.take_of_length_le (by rw [hnl.out]; exact Nat.le_refl _)]
        unfold dueL; rw [hd.out, h2.out]; rw [h0.out, hf.out]; simp
      obtain ⟨r3, r4, r16, r18, r21, r23⟩ := kc.out wr hbr
      obtain ⟨np, hnp⟩ : ∃ np, D.length = np := ⟨_, rfl⟩
      have hnp2 : np ≤ 21 := by rw [← hnp, hD]; simp; omega
      rw [hnp] at hor
      obtain ⟨ar, cr, rfl, _, _, _⟩ := own_len hor
      have hnF : nextF x = if np = 0 then (0, false) else (max (minL D) x.time, true) := by
        unfold nextF
        rw [if_pos hst.out, ← hDL]
        by_cases h00 : np = 0
        · rw [if_pos h00, if_pos (List.length_eq_zero_iff.1 (by rw [hnp]; exact h00))]
        · rw [if_neg h00, if_neg (fun e => h00 (by rw [← hnp, e]; rfl))]
      clear hlt hj hDL
      by_cases h00 : np = 0
      · subst h00
        replace hD := Lib.hid hD
        replace hor := Lib.hid hor
        replace hbr := Lib.hid hbr
        replace hnp := Lib.hid hnp
        replace hnF := Lib.hid hnF
        replace hwr := Lib.hid hwr
        go_wp2_with fail
        go_ret2
        exact ⟨by rw [hnF.out]; rfl, hwr.out⟩
      · obtain ⟨gr, cr', e1, e2, e3, _, _, hrr⟩ := own_range hor (by omega)
        cases e1
        have MC := fun w' (hw' : w'.heap[gr]? = wr.heap[gr]?) => minC gr np cr D w' (range_keep hrr hw') hnp (by omega) (by omega)
        have h01 : ((np : Int) == 0) = false := beq_eq_false_iff_ne.2 (by omega)
        rw [if_neg h00] at hnF
        generalize minL D = mD at *
        replace hD := Lib.hid hD
        replace hor := Lib.hid hor
        replace hbr := Lib.hid hbr
        replace hnp := Lib.hid hnp
        replace hnF := Lib.hid hnF
        replace hwr := Lib.hid hwr
        replace hrr := Lib.hid hrr
        replace MC := Lib.hid MC
        replace h00 := Lib.hid h00
        go_wp2_with fail
        go_region_with (go_at_call 27; refine (MC.out _ ?_).mono ?_; exact rfl; rintro e w9 ⟨rfl, rfl⟩)
        all_goals
          go_wp2_with fail
        all_goals
          go_ret2
          refine ⟨?_, hwr.out.drew⟩
          rw [hnF.out]
          first | rfl | (simp; omega) | (congr 4; omega)

set_option maxRecDepth 100000 in
set_option maxHeartbeats 1600000 in
theorem next_de (x : ST) (cs : List Value) (w : World) (h : SAt (Live w) w x cs) (h19 : x.timers.length ≤ 19) (hst : (x.status == 1) = true) (hd : decide (0 < x.deadline) = true) (h2 : (x.task.state == 2) = false) (h0 : (x.task.state == 0) = false) :
    Calls Try.prog 11 #[.agg cs.toArray] w (NextP w x) := by
  have hl := h.len
  have hlo : cs.toArray.size = 31 := by simp [hl]
  have hss := Lib.hid (s_size hl)
  have hb : Below w.heap.size w (w.alloc (.cells cs.toArray 33)) := (Below.refl _ _).alloc (Nat.le_refl _) _
  have hX : (w.alloc (.cells cs.toArray 33)).heap[w.heap.size]? = some (.cells cs.toArray 33 (0, 0)) := heap_alloc_new w _
  have hsz : (w.alloc (.cells cs.toArray 33)).heap.size = w.heap.size + 1 := by simp
  have kp : ∀ w', Below w.heap.size w w' → SAt (Live w') w' x cs := fun w' hb => h.below hb
  have R := running _ x cs _ (kp _ hb)
  have kx : ∀ w', Below (w.heap.size + 1) (w.alloc (.cells cs.toArray 33)) w' → w'.heap[w.heap.size]? = some (.cells cs.toArray 33 (0, 0)) := fun w' hb => (hb.block _ (Nat.lt_succ_self _)).trans hX
  obtain ⟨k0, k1, k2, k3, k4, k5, k6, k7, k13, k14, k15, k16, k17, k18, k19, k20, k21, k22, k30, A_, R_, a1, c1, a2, c2, _, _, k23, _, _, _, hs, _, hc1, hc9, _⟩ := h.cells
  have kc : ∀ w', Below (w.heap.size + 1) (w.alloc (.cells cs.toArray 33)) w' → (w'.cell? ⟨w.heap.size, 3, none⟩ = some (.int .i64 x.time) ∧ w'.cell? ⟨w.heap.size, 4, none⟩ = some (.int .i64 x.deadline) ∧ w'.cell? ⟨w.heap.size, 16, none⟩ = some (.int .i64 x.task.state) ∧ w'.cell? ⟨w.heap.size, 18, none⟩ = some (.int .i64 x.task.due) ∧ w'.cell? ⟨w.heap.size, 21, none⟩ = some (.bool x.fresh) ∧ w'.cell? ⟨w.heap.size, 23, none⟩ = some (.slice a1 x.timers.length c1)) := fun w' hb => by
    have e := kx w' hb
    exact ⟨box_cell e 3 _ (by simpa using k3), box_cell e 4 _ (by simpa using k4), box_cell e 16 _ (by simpa using k16), box_cell e 18 _ (by simpa using k18), box_cell e 21 _ (by simpa using k21), box_cell e 23 _ (by simpa using k23)⟩
  generalize hnl : x.timers.length = n at *
  replace hnl := Lib.hid hnl
  replace hs := Lib.hid hs
  replace hb := Lib.hid hb
  replace hX := Lib.hid hX
  replace hsz := Lib.hid hsz
  replace kp := Lib.hid kp
  replace kx := Lib.hid kx
  replace kc := Lib.hid kc
  clear h hl k0 k1 k2 k3 k4 k5 k6 k7 k13 k14 k15 k16 k17 k18 k19 k20 k21 k22 k30 k23
  rw [hst] at R
  replace R := Lib.hid R
  replace hst := Lib.hid hst
  obtain ⟨i0, hi, hz0, hz1, hz2⟩ := info_parts (show (Try.prog.info? 3).map (fun i => (i.zero, i.size, i.bytes)) = some (some (.int .i64 0), 1, 8) by kernel_rfl)
  replace hi := Lib.hid hi
  replace hz0 := Lib.hid hz0
  replace hz1 := Lib.hid hz1
  replace hz2 := Lib.hid hz2
  go_enter Try.func11, Try.ntmps11
  go_wp2_with (first | (with_reducible refine wpList_load_row rfl 33 (.tmp 1) rfl w.heap.size rfl 33 cs.toArray (0, 0) _ hX.out Try.underlying33 rfl hss.out ?_) | (go_at_call 20; refine R.out.mono ?_; rintro e w1 ⟨rfl, hb1⟩; replace hb1 := hb1.mono (Nat.le_of_eq hsz.out.symm); obtain ⟨r3, r4, r16, r18, r21, r23⟩ := kc.out w1 hb1; have hB1 : w.heap.size + 1 ≤ w1.heap.size := (by have := hb1.size; rw [hsz.out] at this; exact this); replace hb1 := Lib.hid hb1; clear R; have ho1 : Hid (World.ownsRow w1 (w.heap.size + 1) 3 1 (.slice none 0 0) 0 (iFl [])) := (show World.ownsRow w1 (w.heap.size + 1) 3 1 (.slice none 0 0) 0 (iFl []) from ⟨rfl, .inl ⟨rfl, rfl⟩⟩); have hp1 : Hid (World.ownsRow (w1.alloc (.cells #[.int .i64 x.deadline] 3)) (w.heap.size + 1) 3 1 (.slice none 0 0) 0 (iFl [])) := own_below ho1.out ((Below.refl _ _).alloc (Nat.le_refl _) _); have hB1p : w.heap.size + 1 ≤ (w1.alloc (.cells #[.int .i64 x.deadline] 3)).heap.size := (by simp; omega); have hb1p := Lib.hid (hb1.out.alloc hB1 (.cells #[.int .i64 x.deadline] 3))) | (refine wpList_append_own_at _ rfl (.tmp 13) (.tmp 16) 60 rfl (w.heap.size + 1) 3 i0 _ 1 8 Try.underlying60 hi.out hz0.out hz1.out hz2.out rfl (by decide) (.slice none 0 0) 0 (iFl []) rfl hp1.out ⟨_, 0, none⟩ 1 1 [.int .i64 x.deadline] rfl rfl (fun j u hu => by rw [Addr.add_mid]; exact box_range (cs := [.int .i64 x.deadline]) (heap_alloc_new _ _) j u hu) (iFl_one [x.deadline]) (Nat.le_trans (show _ ≤ 1000 by omega) (by decide)) (by omega) (hB1p) ?_; intro v5 w5 q1 q2 q3 q4; have hbN := hb1p.out.grown q2 hB1p (fun k hk => (own_from hp1.out k hk).1); have ho5 : Hid (w5.ownsRow (w.heap.size + 1) 3 1 v5 1 (iFl [x.deadline])) := q1; obtain ⟨s3, s4, s16, s18, s21, s23⟩ := kc.out _ hbN; have hB5 : w.heap.size + 1 ≤ w5.heap.size := (by have := hbN.size; rw [hsz.out] at this; exact this); have hb5 := Lib.hid hbN; clear hbN q1 q2 q3 q4 r3 r4 r16 r18 r21 r23; have r3 := s3; have r4 := s4; have r16 := s16; have r18 := s18; have r21 := s21; have r23 := s23; clear s3 s4 s16 s18 s21 s23))
  replace hd := Lib.hid hd
  replace h2 := Lib.hid h2
  replace h0 := Lib.hid h0
  go_loopw [4, 46] (fun s4 s46 wr => ∃ (j : Nat) (D : List Int), s46 = .int .i64 (j : Int) ∧ j ≤ n ∧ D = [x.deadline] ++ (x.timers.take j).map (·.due) ∧ wr.ownsRow (w.heap.size + 1) 3 1 s4 D.length (iFl D) ∧ Below (w.heap.size + 1) (w.alloc (.cells cs.toArray 33)) wr) (fun _ s46 _ => n - (intOf s46).toNat)
  case atStart => exact ⟨0, [x.deadline], rfl, Nat.zero_le _, by simp, by exact ho5.out, hb5.out⟩
  case round =>
    obtain ⟨j, D, rfl, hj, hD, hor, hbr⟩ := hrel
    clear r3 r4 r16 r18 r21 r23
    have hwr : Below w.heap.size w wr := hb.out.trans (hbr.mono (Nat.le_succ _))
    have hBr : w.heap.size + 1 ≤ wr.heap.size := by have := hbr.size; rw [hsz.out] at this; exact this
    by_cases hlt : j < n
    · obtain ⟨y, hy⟩ : ∃ y, x.timers[j]? = some y := ⟨_, List.getElem?_eq_getElem (by rw [hnl.out]; exact hlt)⟩
      obtain ⟨g, off, ct, rfl, hg, hcl, hct, hcr⟩ := hs.out.get j y hy
      have hct : ct = [.string y.name, .int .i64 y.due] := hct
      subst hct
      have hcr' := range_keep hcr (hwr.block _ hg)
      have t0 : wr.cell? ⟨g, off + j * 2, none⟩ = some (.string y.name) := by have := hcr' 0 _ rfl; simpa using this
      have t1 := hcr' 1 _ rfl
      have b1 : (0 : Int) ≤ (j : Int) := by omega
      have b2 : (j : Int) < (n : Int) := by omega
      obtain ⟨np, hnp⟩ : ∃ np, D.length = np := ⟨_, rfl⟩
      have hnp2 : np ≤ 21 := by rw [← hnp, hD]; simp; omega
      rw [hnp] at hor
      have ho8 : ((wr.alloc (.cells #[.string y.name, .int .i64 y.due] 52)).alloc (.cells #[.int .i64 y.due] 3)).ownsRow (w.heap.size + 1) 3 1 u4 np (iFl D) := own_below (own_below hor ((Below.refl _ _).alloc (Nat.le_refl _) _)) ((Below.refl _ _).alloc (Nat.le_refl _) _)
      have hB8 : w.heap.size + 1 ≤ ((wr.alloc (.cells #[.string y.name, .int .i64 y.due] 52)).alloc (.cells #[.int .i64 y.due] 3)).heap.size := by simp; omega
      have hb8 := (hbr.alloc hBr (.cells #[.string y.name, .int .i64 y.due] 52)).alloc (show w.heap.size + 1 ≤ (wr.alloc (.cells #[.string y.name, .int .i64 y.due] 52)).heap.size by simp; omega) (.cells #[.int .i64 y.due] 3)
      replace hnp := Lib.hid hnp
      replace hD := Lib.hid hD
      replace hor := Lib.hid hor
      replace hbr := Lib.hid hbr
      replace hy := Lib.hid hy
      replace ho8 := Lib.hid ho8
      replace hB8 := Lib.hid hB8
      replace hb8 := Lib.hid hb8
      replace hwr := Lib.hid hwr
      replace hcr' := Lib.hid hcr'
      clear hcr hcl
      go_wp2_with (refine wpList_append_own_at _ rfl (.tmp 50) (.tmp 53) 60 rfl (w.heap.size + 1) 3 i0 _ 1 8 Try.underlying60 hi.out hz0.out hz1.out hz2.out rfl (by decide) u4 np (iFl D) rfl ho8.out ⟨_, 0, none⟩ 1 1 [.int .i64 y.due] rfl rfl (fun j u hu => by rw [Addr.add_mid]; exact box_range (cs := [.int .i64 y.due]) (heap_alloc2_new wr _ _) j u hu) (iFl_one [y.due]) (Nat.le_trans (show _ ≤ 1000 by omega) (by decide)) (by omega) (hB8.out) ?_; intro v8 w8 q1 q2 q3 q4; replace q1 := Lib.hid q1; replace q2 : Hid (World.grownBy ((wr.alloc (.cells #[.string y.name, .int .i64 y.due] 52)).alloc (.cells #[.int .i64 y.due] 3)) w8 u4.ownBlock) := q2; clear q3 q4)
      go_roundw
      case rel =>
        refine ⟨j + 1, D ++ [y.due], by go_num, by omega, ?_, ?_, hb8.out.grown q2.out hB8.out (fun q hq => (own_from ho8.out q hq).1)⟩
        · rw [List.take_add_one, hy.out]; have e := hD.out; rw [e]; simp
        · have e1 : (D ++ [y.due]).length = np + 1 := by rw [List.length_append, hnp.out]; rfl
          rw [e1, show iFl (D ++ [y.due]) = iFl D ++ [.int .i64 y.due] by simp [iFl]]
          exact q1.out
      case measure => simp [intOf]; omega
    · obtain rfl : j = n := by omega
      have hDL : D = dueL x := by
        rw [hD, List.take_of_length_le (by rw [hnl.out]; exact Nat.le_refl _)]
        unfold dueL; rw [hd.out, h2.out]; rw [h0.out]; simp
      obtain ⟨r3, r4, r16, r18, r21, r23⟩ := kc.out wr hbr
      obtain ⟨np, hnp⟩ : ∃ np, D.length = np := ⟨_, rfl⟩
      have hnp2 : np ≤ 21 := by rw [← hnp, hD]; simp; omega
      rw [hnp] at hor
      obtain ⟨ar, cr, rfl, _, _, _⟩ := own_len hor
      have hnF : nextF x = if np = 0 then (0, false) else (max (minL D) x.time, true) := by
        unfold nextF
        rw [if_pos hst.out, ← hDL]
        by_cases h00 : np = 0
        · rw [if_pos h00, if_pos (List.length_eq_zero_iff.1 (by rw [hnp]; exact h00))]
        · rw [if_neg h00, if_neg (fun e => h00 (by rw [← hnp, e]; rfl))]
      clear hlt hj hDL
      by_cases h00 : np = 0
      · subst h00
        replace hD := Lib.hid hD
        replace hor := Lib.hid hor
        replace hbr := Lib.hid hbr
        replace hnp := Lib.hid hnp
        replace hnF := Lib.hid hnF
        replace hwr := Lib.hid hwr
        go_wp2_with fail
        go_ret2
        exact ⟨by rw [hnF.out]; rfl, hwr.out⟩
      · obtain ⟨gr, cr', e1, e2, e3, _, _, hrr⟩ := own_range hor (by omega)
        cases e1
        have MC := fun w' (hw' : w'.heap[gr]? = wr.heap[gr]?) => minC gr np cr D w' (range_keep hrr hw') hnp (by omega) (by omega)
        have h01 : ((np : Int) == 0) = false := beq_eq_false_iff_ne.2 (by omega)
        rw [if_neg h00] at hnF
        generalize minL D = mD at *
        replace hD := Lib.hid hD
        replace hor := Lib.hid hor
        replace hbr := Lib.hid hbr
        replace hnp := Lib.hid hnp
        replace hnF := Lib.hid hnF
        replace hwr := Lib.hid hwr
        replace hrr := Lib.hid hrr
        replace MC := Lib.hid MC
        replace h00 := Lib.hid h00
        go_wp2_with fail
        go_region_with (go_at_call 27; refine (MC.out _ ?_).mono ?_; exact rfl; rintro e w9 ⟨rfl, rfl⟩)
        all_goals
          go_wp2_with fail
        all_goals
          go_ret2
          refine ⟨?_, hwr.out.drew⟩
          rw [hnF.out]
          first | rfl | (simp; omega) | (congr 4; omega)

set_option maxRecDepth 100000 in
set_option maxHeartbeats 1600000 in
theorem next_oa (x : ST) (cs : List Value) (w : World) (h : SAt (Live w) w x cs) (h19 : x.timers.length ≤ 19) (hst : (x.status == 1) = true) (hd : decide (0 < x.deadline) = false) (h2 : (x.task.state == 2) = true) :
    Calls Try.prog 11 #[.agg cs.toArray] w (NextP w x) := by
  have hl := h.len
  have hlo : cs.toArray.size = 31 := by simp [hl]
  have hss := Lib.hid (s_size hl)
  have hb : Below w.heap.size w (w.alloc (.cells cs.toArray 33)) := (Below.refl _ _).alloc (Nat.le_refl _) _
  have hX : (w.alloc (.cells cs.toArray 33)).heap[w.heap.size]? = some (.cells cs.toArray 33 (0, 0)) := heap_alloc_new w _
  have hsz : (w.alloc (.cells cs.toArray 33)).heap.size = w.heap.size + 1 := by simp
  have kp : ∀ w', Below w.heap.size w w' → SAt (Live w') w' x cs := fun w' hb => h.below hb
  have R := running _ x cs _ (kp _ hb)
  have kx : ∀ w', Below (w.heap.size + 1) (w.alloc (.cells cs.toArray 33)) w' → w'.heap[w.heap.size]? = some (.cells cs.toArray 33 (0, 0)) := fun w' hb => (hb.block _ (Nat.lt_succ_self _)).trans hX
  obtain ⟨k0, k1, k2, k3, k4, k5, k6, k7, k13, k14, k15, k16, k17, k18, k19, k20, k21, k22, k30, A_, R_, a1, c1, a2, c2, _, _, k23, _, _, _, hs, _, hc1, hc9, _⟩ := h.cells
  have kc : ∀ w', Below (w.heap.size + 1) (w.alloc (.cells cs.toArray 33)) w' → (w'.cell? ⟨w.heap.size, 3, none⟩ = some (.int .i64 x.time) ∧ w'.cell? ⟨w.heap.size, 4, none⟩ = some (.int .i64 x.deadline) ∧ w'.cell? ⟨w.heap.size, 16, none⟩ = some (.int .i64 x.task.state) ∧ w'.cell? ⟨w.heap.size, 18, none⟩ = some (.int .i64 x.task.due) ∧ w'.cell? ⟨w.heap.size, 21, none⟩ = some (.bool x.fresh) ∧ w'.cell? ⟨w.heap.size, 23, none⟩ = some (.slice a1 x.timers.length c1)) := fun w' hb => by
    have e := kx w' hb
    exact ⟨box_cell e 3 _ (by simpa using k3), box_cell e 4 _ (by simpa using k4), box_cell e 16 _ (by simpa using k16), box_cell e 18 _ (by simpa using k18), box_cell e 21 _ (by simpa using k21), box_cell e 23 _ (by simpa using k23)⟩
  generalize hnl : x.timers.length = n at *
  replace hnl := Lib.hid hnl
  replace hs := Lib.hid hs
  replace hb := Lib.hid hb
  replace hX := Lib.hid hX
  replace hsz := Lib.hid hsz
  replace kp := Lib.hid kp
  replace kx := Lib.hid kx
  replace kc := Lib.hid kc
  clear h hl k0 k1 k2 k3 k4 k5 k6 k7 k13 k14 k15 k16 k17 k18 k19 k20 k21 k22 k30 k23
  rw [hst] at R
  replace R := Lib.hid R
  replace hst := Lib.hid hst
  obtain ⟨i0, hi, hz0, hz1, hz2⟩ := info_parts (show (Try.prog.info? 3).map (fun i => (i.zero, i.size, i.bytes)) = some (some (.int .i64 0), 1, 8) by kernel_rfl)
  replace hi := Lib.hid hi
  replace hz0 := Lib.hid hz0
  replace hz1 := Lib.hid hz1
  replace hz2 := Lib.hid hz2
  go_enter Try.func11, Try.ntmps11
  go_wp2_with (first | (with_reducible refine wpList_load_row rfl 33 (.tmp 1) rfl w.heap.size rfl 33 cs.toArray (0, 0) _ hX.out Try.underlying33 rfl hss.out ?_) | (go_at_call 20; refine R.out.mono ?_; rintro e w1 ⟨rfl, hb1⟩; replace hb1 := hb1.mono (Nat.le_of_eq hsz.out.symm); obtain ⟨r3, r4, r16, r18, r21, r23⟩ := kc.out w1 hb1; have hB1 : w.heap.size + 1 ≤ w1.heap.size := (by have := hb1.size; rw [hsz.out] at this; exact this); replace hb1 := Lib.hid hb1; clear R; have ho1 : Hid (World.ownsRow w1 (w.heap.size + 1) 3 1 (.slice none 0 0) 0 (iFl [])) := (show World.ownsRow w1 (w.heap.size + 1) 3 1 (.slice none 0 0) 0 (iFl []) from ⟨rfl, .inl ⟨rfl, rfl⟩⟩); have hp1 : Hid (World.ownsRow (w1.alloc (.cells #[.int .i64 x.task.due] 3)) (w.heap.size + 1) 3 1 (.slice none 0 0) 0 (iFl [])) := own_below ho1.out ((Below.refl _ _).alloc (Nat.le_refl _) _); have hB1p : w.heap.size + 1 ≤ (w1.alloc (.cells #[.int .i64 x.task.due] 3)).heap.size := (by simp; omega); have hb1p := Lib.hid (hb1.out.alloc hB1 (.cells #[.int .i64 x.task.due] 3))) | (refine wpList_append_own_at _ rfl (.tmp 23) (.tmp 27) 60 rfl (w.heap.size + 1) 3 i0 _ 1 8 Try.underlying60 hi.out hz0.out hz1.out hz2.out rfl (by decide) (.slice none 0 0) 0 (iFl []) rfl hp1.out ⟨_, 0, none⟩ 1 1 [.int .i64 x.task.due] rfl rfl (fun j u hu => by rw [Addr.add_mid]; exact box_range (cs := [.int .i64 x.task.due]) (heap_alloc_new _ _) j u hu) (iFl_one [x.task.due]) (Nat.le_trans (show _ ≤ 1000 by omega) (by decide)) (by omega) (hB1p) ?_; intro v7 w7 q1 q2 q3 q4; have hbN := hb1p.out.grown q2 hB1p (fun k hk => (own_from hp1.out k hk).1); have ho7 : Hid (w7.ownsRow (w.heap.size + 1) 3 1 v7 1 (iFl [x.task.due])) := q1; obtain ⟨s3, s4, s16, s18, s21, s23⟩ := kc.out _ hbN; have hB7 : w.heap.size + 1 ≤ w7.heap.size := (by have := hbN.size; rw [hsz.out] at this; exact this); have hb7 := Lib.hid hbN; clear hbN q1 q2 q3 q4 r3 r4 r16 r18 r21 r23; have r3 := s3; have r4 := s4; have r16 := s16; have r18 := s18; have r21 := s21; have r23 := s23; clear s3 s4 s16 s18 s21 s23))
  replace hd := Lib.hid hd
  replace h2 := Lib.hid h2
  go_loopw [4, 46] (fun s4 s46 wr => ∃ (j : Nat) (D : List Int), s46 = .int .i64 (j : Int) ∧ j ≤ n ∧ D = [x.task.due] ++ (x.timers.take j).map (·.due) ∧ wr.ownsRow (w.heap.size + 1) 3 1 s4 D.length (iFl D) ∧ Below (w.heap.size + 1) (w.alloc (.cells cs.toArray 33)) wr) (fun _ s46 _ => n - (intOf s46).toNat)
  case atStart => exact ⟨0, [x.task.due], rfl, Nat.zero_le _, by simp, by exact ho7.out, hb7.out⟩
  case round =>
    obtain ⟨j, D, rfl, hj, hD, hor, hbr⟩ := hrel
    clear r3 r4 r16 r18 r21 r23
    have hwr : Below w.heap.size w wr := hb.out.trans (hbr.mono (Nat.le_succ _))
    have hBr : w.heap.size + 1 ≤ wr.heap.size := by have := hbr.size; rw [hsz.out] at this; exact this
    by_cases hlt : j < n
    · obtain ⟨y, hy⟩ : ∃ y, x.timers[j]? = some y := ⟨_, List.getElem?_eq_getElem (by rw [hnl.out]; exact hlt)⟩
      obtain ⟨g, off, ct, rfl, hg, hcl, hct, hcr⟩ := hs.out.get j y hy
      have hct : ct = [.string y.name, .int .i64 y.due] := hct
      subst hct
      have hcr' := range_keep hcr (hwr.block _ hg)
      have t0 : wr.cell? ⟨g, off + j * 2, none⟩ = some (.string y.name) := by have := hcr' 0 _ rfl; simpa using this
      have t1 := hcr' 1 _ rfl
      have b1 : (0 : Int) ≤ (j : Int) := by omega
      have b2 : (j : Int) < (n : Int) := by omega
      obtain ⟨np, hnp⟩ : ∃ np, D.length = np := ⟨_, rfl⟩
      have hnp2 : np ≤ 21 := by rw [← hnp, hD]; simp; omega
      rw [hnp] at hor
      have ho8 : ((wr.alloc (.cells #[.string y.name, .int .i64 y.due] 52)).alloc (.cells #[.int .i64 y.due] 3)).ownsRow (w.heap.size + 1) 3 1 u4 np (iFl D) := own_below (own_below hor ((Below.refl _ _).alloc (Nat.le_refl _) _)) ((Below.refl _ _).alloc (Nat.le_refl _) _)
      have hB8 : w.heap.size + 1 ≤ ((wr.alloc (.cells #[.string y.name, .int .i64 y.due] 52)).alloc (.cells #[.int .i64 y.due] 3)).heap.size := by simp; omega
      have hb8 := (hbr.alloc hBr (.cells #[.string y.name, .int .i64 y.due] 52)).alloc (show w.heap.size + 1 ≤ (wr.alloc (.cells #[.string y.name, .int .i64 y.due] 52)).heap.size by simp; omega) (.cells #[.int .i64 y.due] 3)
      replace hnp := Lib.hid hnp
      replace hD := Lib.hid hD
      replace hor := Lib.hid hor
      replace hbr := Lib.hid hbr
      replace hy := Lib.hid hy
      replace ho8 := Lib.hid ho8
      replace hB8 := Lib.hid hB8
      replace hb8 := Lib.hid hb8
      replace hwr := Lib.hid hwr
      replace hcr' := Lib.hid hcr'
      clear hcr hcl
      go_wp2_with (refine wpList_append_own_at _ rfl (.tmp 50) (.tmp 53) 60 rfl (w.heap.size + 1) 3 i0 _ 1 8 Try.underlying60 hi.out hz0.out hz1.out hz2.out rfl (by decide) u4 np (iFl D) rfl ho8.out ⟨_, 0, none⟩ 1 1 [.int .i64 y.due] rfl rfl (fun j u hu => by rw [Addr.add_mid]; exact box_range (cs := [.int .i64 y.due]) (heap_alloc2_new wr _ _) j u hu) (iFl_one [y.due]) (Nat.le_trans (show _ ≤ 1000 by omega) (by decide)) (by omega) (hB8.out) ?_; intro v8 w8 q1 q2 q3 q4; replace q1 := Lib.hid q1; replace q2 : Hid (World.grownBy ((wr.alloc (.cells #[.string y.name, .int .i64 y.due] 52)).alloc (.cells #[.int .i64 y.due] 3)) w8 u4.ownBlock) := q2; clear q3 q4)
      go_roundw
      case rel =>
        refine ⟨j + 1, D ++ [y.due], by go_num, by omega, ?_, ?_, hb8.out.grown q2.out hB8.out (fun q hq => (own_from ho8.out q hq).1)⟩
        · rw [List.take_add_one, hy.out]; have e := hD.out; rw [e]; simp
        · have e1 : (D ++ [y.due]).length = np + 1 := by rw [List.length_append, hnp.out]; rfl
          rw [e1, show iFl (D ++ [y.due]) = iFl D ++ [.int .i64 y.due] by simp [iFl]]
          exact q1.out
      case measure => simp [intOf]; omega
    · obtain rfl : j = n := by omega
      have hDL : D = dueL x := by
        rw [hD, List.take_of_length_le (by rw [hnl.out]; exact Nat.le_refl _)]
        unfold dueL; rw [hd.out, h2.out]; simp
      obtain ⟨r3, r4, r16, r18, r21, r23⟩ := kc.out wr hbr
      obtain ⟨np, hnp⟩ : ∃ np, D.length = np := ⟨_, rfl⟩
      have hnp2 : np ≤ 21 := by rw [← hnp, hD]; simp; omega
      rw [hnp] at hor
      obtain ⟨ar, cr, rfl, _, _, _⟩ := own_len hor
      have hnF : nextF x = if np = 0 then (0, false) else (max (minL D) x.time, true) := by
        unfold nextF
        rw [if_pos hst.out, ← hDL]
        by_cases h00 : np = 0
        · rw [if_pos h00, if_pos (List.length_eq_zero_iff.1 (by rw [hnp]; exact h00))]
        · rw [if_neg h00, if_neg (fun e => h00 (by rw [← hnp, e]; rfl))]
      clear hlt hj hDL
      by_cases h00 : np = 0
      · subst h00
        replace hD := Lib.hid hD
        replace hor := Lib.hid hor
        replace hbr := Lib.hid hbr
        replace hnp := Lib.hid hnp
        replace hnF := Lib.hid hnF
        replace hwr := Lib.hid hwr
        go_wp2_with fail
        go_ret2
        exact ⟨by rw [hnF.out]; rfl, hwr.out⟩
      · obtain ⟨gr, cr', e1, e2, e3, _, _, hrr⟩ := own_range hor (by omega)
        cases e1
        have MC := fun w' (hw' : w'.heap[gr]? = wr.heap[gr]?) => minC gr np cr D w' (range_keep hrr hw') hnp (by omega) (by omega)
        have h01 : ((np : Int) == 0) = false := beq_eq_false_iff_ne.2 (by omega)
        rw [if_neg h00] at hnF
        generalize minL D = mD at *
        replace hD := Lib.hid hD
        replace hor := Lib.hid hor
        replace hbr := Lib.hid hbr
        replace hnp := Lib.hid hnp
        replace hnF := Lib.hid hnF
        replace hwr := Lib.hid hwr
        replace hrr := Lib.hid hrr
        replace MC := Lib.hid MC
        replace h00 := Lib.hid h00
        go_wp2_with fail
        go_region_with (go_at_call 27; refine (MC.out _ ?_).mono ?_; exact rfl; rintro e w9 ⟨rfl, rfl⟩)
        all_goals
          go_wp2_with fail
        all_goals
          go_ret2
          refine ⟨?_, hwr.out.drew⟩
          rw [hnF.out]
          first | rfl | (simp; omega) | (congr 4; omega)

set_option maxRecDepth 100000 in
set_option maxHeartbeats 1600000 in
theorem next_ob (x : ST) (cs : List Value) (w : World) (h : SAt (Live w) w x cs) (h19 : x.timers.length ≤ 19) (hst : (x.status == 1) = true) (hd : decide (0 < x.deadline) = false) (h2 : (x.task.state == 2) = false) (h0 : (x.task.state == 0) = true) (hf : x.fresh = true) :
    Calls Try.prog 11 #[.agg cs.toArray] w (NextP w x) := by
  have hl := h.len
  have hlo : cs.toArray.size = 31 := by simp [hl]
  have hss := Lib.hid (s_size hl)
  have hb : Below w.heap.size w (w.alloc (.cells cs.toArray 33)) := (Below.refl _ _).alloc (Nat.le_refl _) _
  have hX : (w.alloc (.cells cs.toArray 33)).heap[w.heap.size]? = some (.cells cs.toArray 33 (0, 0)) := heap_alloc_new w _
  have hsz : (w.alloc (.cells cs.toArray 33)).heap.size = w.heap.size + 1 := by simp
  have kp : ∀ w', Below w.heap.size w w' → SAt (Live w') w' x cs := fun w' hb => h.below hb
  have R := running _ x cs _ (kp _ hb)
  have kx : ∀ w', Below (w.heap.size + 1) (w.alloc (.cells cs.toArray 33)) w' → w'.heap[w.heap.size]? = some (.cells cs.toArray 33 (0, 0)) := fun w' hb => (hb.block _ (Nat.lt_succ_self _)).trans hX
  obtain ⟨k0, k1, k2, k3, k4, k5, k6, k7, k13, k14, k15, k16, k17, k18, k19, k20, k21, k22, k30, A_, R_, a1, c1, a2, c2, _, _, k23, _, _, _, hs, _, hc1, hc9, _⟩ := h.cells
  have kc : ∀ w', Below (w.heap.size + 1) (w.alloc (.cells cs.toArray 33)) w' → (w'.cell? ⟨w.heap.size, 3, none⟩ = some (.int .i64 x.time) ∧ w'.cell? ⟨w.heap.size, 4, none⟩ = some (.int .i64 x.deadline) ∧ w'.cell? ⟨w.heap.size, 16, none⟩ = some (.int .i64 x.task.state) ∧ w'.cell? ⟨w.heap.size, 18, none⟩ = some (.int .i64 x.task.due) ∧ w'.cell? ⟨w.heap.size, 21, none⟩ = some (.bool x.fresh) ∧ w'.cell? ⟨w.heap.size, 23, none⟩ = some (.slice a1 x.timers.length c1)) := fun w' hb => by
    have e := kx w' hb
    exact ⟨box_cell e 3 _ (by simpa using k3), box_cell e 4 _ (by simpa using k4), box_cell e 16 _ (by simpa using k16), box_cell e 18 _ (by simpa using k18), box_cell e 21 _ (by simpa using k21), box_cell e 23 _ (by simpa using k23)⟩
  generalize hnl : x.timers.length = n at *
  replace hnl := Lib.hid hnl
  replace hs := Lib.hid hs
  replace hb := Lib.hid hb
  replace hX := Lib.hid hX
  replace hsz := Lib.hid hsz
  replace kp := Lib.hid kp
  replace kx := Lib.hid kx
  replace kc := Lib.hid kc
  clear h hl k0 k1 k2 k3 k4 k5 k6 k7 k13 k14 k15 k16 k17 k18 k19 k20 k21 k22 k30 k23
  rw [hst] at R
  replace R := Lib.hid R
  replace hst := Lib.hid hst
  obtain ⟨i0, hi, hz0, hz1, hz2⟩ := info_parts (show (Try.prog.info? 3).map (fun i => (i.zero, i.size, i.bytes)) = some (some (.int .i64 0), 1, 8) by kernel_rfl)
  replace hi := Lib.hid hi
  replace hz0 := Lib.hid hz0
  replace hz1 := Lib.hid hz1
  replace hz2 := Lib.hid hz2
  go_enter Try.func11, Try.ntmps11
  go_wp2_with (first | (with_reducible refine wpList_load_row rfl 33 (.tmp 1) rfl w.heap.size rfl 33 cs.toArray (0, 0) _ hX.out Try.underlying33 rfl hss.out ?_) | (go_at_call 20; refine R.out.mono ?_; rintro e w1 ⟨rfl, hb1⟩; replace hb1 := hb1.mono (Nat.le_of_eq hsz.out.symm); obtain ⟨r3, r4, r16, r18, r21, r23⟩ := kc.out w1 hb1; have hB1 : w.heap.size + 1 ≤ w1.heap.size := (by have := hb1.size; rw [hsz.out] at this; exact this); replace hb1 := Lib.hid hb1; clear R; have ho1 : Hid (World.ownsRow w1 (w.heap.size + 1) 3 1 (.slice none 0 0) 0 (iFl [])) := (show World.ownsRow w1 (w.heap.size + 1) 3 1 (.slice none 0 0) 0 (iFl []) from ⟨rfl, .inl ⟨rfl, rfl⟩⟩); have hp1 : Hid (World.ownsRow (w1.alloc (.cells #[.int .i64 x.time] 3)) (w.heap.size + 1) 3 1 (.slice none 0 0) 0 (iFl [])) := own_below ho1.out ((Below.refl _ _).alloc (Nat.le_refl _) _); have hB1p : w.heap.size + 1 ≤ (w1.alloc (.cells #[.int .i64 x.time] 3)).heap.size := (by simp; omega); have hb1p := Lib.hid (hb1.out.alloc hB1 (.cells #[.int .i64 x.time] 3))) | (refine wpList_append_own_at _ rfl (.tmp 38) (.tmp 41) 60 rfl (w.heap.size + 1) 3 i0 _ 1 8 Try.underlying60 hi.out hz0.out hz1.out hz2.out rfl (by decide) (.slice none 0 0) 0 (iFl []) rfl hp1.out ⟨_, 0, none⟩ 1 1 [.int .i64 x.time] rfl rfl (fun j u hu => by rw [Addr.add_mid]; exact box_range (cs := [.int .i64 x.time]) (heap_alloc_new _ _) j u hu) (iFl_one [x.time]) (Nat.le_trans (show _ ≤ 1000 by omega) (by decide)) (by omega) (hB1p) ?_; intro v7 w7 q1 q2 q3 q4; have hbN := hb1p.out.grown q2 hB1p (fun k hk => (own_from hp1.out k hk).1); have ho7 : Hid (w7.ownsRow (w.heap.size + 1) 3 1 v7 1 (iFl [x.time])) := q1; obtain ⟨s3, s4, s16, s18, s21, s23⟩ := kc.out _ hbN; have hB7 : w.heap.size + 1 ≤ w7.heap.size := (by have := hbN.size; rw [hsz.out] at this; exact this); have hb7 := Lib.hid hbN; clear hbN q1 q2 q3 q4 r3 r4 r16 r18 r21 r23; have r3 := s3; have r4 := s4; have r16 := s16; have r18 := s18; have r21 := s21; have r23 := s23; clear s3 s4 s16 s18 s21 s23))
  replace hd := Lib.hid hd
  replace h2 := Lib.hid h2
  replace h0 := Lib.hid h0
  replace hf := Lib.hid hf
  go_loopw [4, 46] (fun s4 s46 wr => ∃ (j : Nat) (D : List Int), s46 = .int .i64 (j : Int) ∧ j ≤ n ∧ D = [x.time] ++ (x.timers.take j).map (·.due) ∧ wr.ownsRow (w.heap.size + 1) 3 1 s4 D.length (iFl D) ∧ Below (w.heap.size + 1) (w.alloc (.cells cs.toArray 33)) wr) (fun _ s46 _ => n - (intOf s46).toNat)
  case atStart => exact ⟨0, [x.time], rfl, Nat.zero_le _, by simp, by exact ho7.out, hb7.out⟩
  case round =>
    obtain ⟨j, D, rfl, hj, hD, hor, hbr⟩ := hrel
    clear r3 r4 r16 r18 r21 r23
    have hwr : Below w.heap.size w wr := hb.out.trans (hbr.mono (Nat.le_succ _))
    have hBr : w.heap.size + 1 ≤ wr.heap.size := by have := hbr.size; rw [hsz.out] at this; exact this
    by_cases hlt : j < n
    · obtain ⟨y, hy⟩ : ∃ y, x.timers[j]? = some y := ⟨_, List.getElem?_eq_getElem (by rw [hnl.out]; exact hlt)⟩
      obtain ⟨g, off, ct, rfl, hg, hcl, hct, hcr⟩ := hs.out.get j y hy
      have hct : ct = [.string y.name, .int .i64 y.due] := hct
      subst hct
      have hcr' := range_keep hcr (hwr.block _ hg)
      have t0 : wr.cell? ⟨g, off + j * 2, none⟩ = some (.string y.name) := by have := hcr' 0 _ rfl; simpa using this
      have t1 := hcr' 1 _ rfl
      have b1 : (0 : Int) ≤ (j : Int) := by omega
      have b2 : (j : Int) < (n : Int) := by omega
      obtain ⟨np, hnp⟩ : ∃ np, D.length = np := ⟨_, rfl⟩
      have hnp2 : np ≤ 21 := by rw [← hnp, hD]; simp; omega
      rw [hnp] at hor
      have ho8 : ((wr.alloc (.cells #[.string y.name, .int .i64 y.due] 52)).alloc (.cells #[.int .i64 y.due] 3)).ownsRow (w.heap.size + 1) 3 1 u4 np (iFl D) := own_below (own_below hor ((Below.refl _ _).alloc (Nat.le_refl _) _)) ((Below.refl _ _).alloc (Nat.le_refl _) _)
      have hB8 : w.heap.size + 1 ≤ ((wr.alloc (.cells #[.string y.name, .int .i64 y.due] 52)).alloc (.cells #[.int .i64 y.due] 3)).heap.size := by simp; omega
      have hb8 := (hbr.alloc hBr (.cells #[.string y.name, .int .i64 y.due] 52)).alloc (show w.heap.size + 1 ≤ (wr.alloc (.cells #[.string y.name, .int .i64 y.due] 52)).heap.size by simp; omega) (.cells #[.int .i64 y.due] 3)
      replace hnp := Lib.hid hnp
      replace hD := Lib.hid hD
      replace hor := Lib.hid hor
      replace hbr := Lib.hid hbr
      replace hy := Lib.hid hy
      replace ho8 := Lib.hid ho8
      replace hB8 := Lib.hid hB8
      replace hb8 := Lib.hid hb8
      replace hwr := Lib.hid hwr
      replace hcr' := Lib.hid hcr'
      clear hcr hcl
      go_wp2_with (refine wpList_append_own_at _ rfl (.tmp 50) (.tmp 53) 60 rfl (w.heap.size + 1) 3 i0 _ 1 8 Try.underlying60 hi.out hz0.out hz1.out hz2.out rfl (by decide) u4 np (iFl D) rfl ho8.out ⟨_, 0, none⟩ 1 1 [.int .i64 y.due] rfl rfl (fun j u hu => by rw [Addr.add_mid]; exact box_range (cs := [.int .i64 y.due]) (heap_alloc2_new wr _ _) j u hu) (iFl_one [y.due]) (Nat.le_trans (show _ ≤ 1000 by omega) (by decide)) (by omega) (hB8.out) ?_; intro v8 w8 q1 q2 q3 q4; replace q1 := Lib.hid q1; replace q2 : Hid (World.grownBy ((wr.alloc (.cells #[.string y.name, .int .i64 y.due] 52)).alloc (.cells #[.int .i64 y.due] 3)) w8 u4.ownBlock) := q2; clear q3 q4)
      go_roundw
      case rel =>
        refine ⟨j + 1, D ++ [y.due], by go_num, by omega, ?_, ?_, hb8.out.grown q2.out hB8.out (fun q hq => (own_from ho8.out q hq).1)⟩
        · rw [List.take_add_one, hy.out]; have e := hD.out; rw [e]; simp
        · have e1 : (D ++ [y.due]).length = np + 1 := by rw [List.length_append, hnp.out]; rfl
          rw [e1, show iFl (D ++ [y.due]) = iFl D ++ [.int .i64 y.due] by simp [iFl]]
          exact q1.out
      case measure => simp [intOf]; omega
    · obtain rfl : j = n := by omega
      have hDL : D = dueL x := by
        rw [hD, List.take_of_length_le (by rw [hnl.out]; exact Nat.le_refl _)]
        unfold dueL; rw [hd.out, h2.out]; rw [h0.out, hf.out]; simp
      obtain ⟨r3, r4, r16, r18, r21, r23⟩ := kc.out wr hbr
      obtain ⟨np, hnp⟩ : ∃ np, D.length = np := ⟨_, rfl⟩
      have hnp2 : np ≤ 21 := by rw [← hnp, hD]; simp; omega
      rw [hnp] at hor
      obtain ⟨ar, cr, rfl, _, _, _⟩ := own_len hor
      have hnF : nextF x = if np = 0 then (0, false) else (max (minL D) x.time, true) := by
        unfold nextF
        rw [if_pos hst.out, ← hDL]
        by_cases h00 : np = 0
        · rw [if_pos h00, if_pos (List.length_eq_zero_iff.1 (by rw [hnp]; exact h00))]
        · rw [if_neg h00, if_neg (fun e => h00 (by rw [← hnp, e]; rfl))]
      clear hlt hj hDL
      by_cases h00 : np = 0
      · subst h00
        replace hD := Lib.hid hD
        replace hor := Lib.hid hor
        replace hbr := Lib.hid hbr
        replace hnp := Lib.hid hnp
        replace hnF := Lib.hid hnF
        replace hwr := Lib.hid hwr
        go_wp2_with fail
        go_ret2
        exact ⟨by rw [hnF.out]; rfl, hwr.out⟩
      · obtain ⟨gr, cr', e1, e2, e3, _, _, hrr⟩ := own_range hor (by omega)
        cases e1
        have MC := fun w' (hw' : w'.heap[gr]? = wr.heap[gr]?) => minC gr np cr D w' (range_keep hrr hw') hnp (by omega) (by omega)
        have h01 : ((np : Int) == 0) = false := beq_eq_false_iff_ne.2 (by omega)
        rw [if_neg h00] at hnF
        generalize minL D = mD at *
        replace hD := Lib.hid hD
        replace hor := Lib.hid hor
        replace hbr := Lib.hid hbr
        replace hnp := Lib.hid hnp
        replace hnF := Lib.hid hnF
        replace hwr := Lib.hid hwr
        replace hrr := Lib.hid hrr
        replace MC := Lib.hid MC
        replace h00 := Lib.hid h00
        go_wp2_with fail
        go_region_with (go_at_call 27; refine (MC.out _ ?_).mono ?_; exact rfl; rintro e w9 ⟨rfl, rfl⟩)
        all_goals
          go_wp2_with fail
        all_goals
          go_ret2
          refine ⟨?_, hwr.out.drew⟩
          rw [hnF.out]
          first | rfl | (simp; omega) | (congr 4; omega)

set_option maxRecDepth 100000 in
set_option maxHeartbeats 1600000 in
theorem next_oc (x : ST) (cs : List Value) (w : World) (h : SAt (Live w) w x cs) (h19 : x.timers.length ≤ 19) (hst : (x.status == 1) = true) (hd : decide (0 < x.deadline) = false) (h2 : (x.task.state == 2) = false) (h0 : (x.task.state == 0) = true) (hf : x.fresh = false) :
    Calls Try.prog 11 #[.agg cs.toArray] w (NextP w x) := by
  have hl := h.len
  have hlo : cs.toArray.size = 31 := by simp [hl]
  have hss := Lib.hid (s_size hl)
  have hb : Below w.heap.size w (w.alloc (.cells cs.toArray 33)) := (Below.refl _ _).alloc (Nat.le_refl _) _
  have hX : (w.alloc (.cells cs.toArray 33)).heap[w.heap.size]? = some (.cells cs.toArray 33 (0, 0)) := heap_alloc_new w _
  have hsz : (w.alloc (.cells cs.toArray 33)).heap.size = w.heap.size + 1 := by simp
  have kp : ∀ w', Below w.heap.size w w' → SAt (Live w') w' x cs := fun w' hb => h.below hb
  have R := running _ x cs _ (kp _ hb)
  have kx : ∀ w', Below (w.heap.size + 1) (w.alloc (.cells cs.toArray 33)) w' → w'.heap[w.heap.size]? = some (.cells cs.toArray 33 (0, 0)) := fun w' hb => (hb.block _ (Nat.lt_succ_self _)).trans hX
  obtain ⟨k0, k1, k2, k3, k4, k5, k6, k7, k13, k14, k15, k16, k17, k18, k19, k20, k21, k22, k30, A_, R_, a1, c1, a2, c2, _, _, k23, _, _, _, hs, _, hc1, hc9, _⟩ := h.cells
  have kc : ∀ w', Below (w.heap.size + 1) (w.alloc (.cells cs.toArray 33)) w' → (w'.cell? ⟨w.heap.size, 3, none⟩ = some (.int .i64 x.time) ∧ w'.cell? ⟨w.heap.size, 4, none⟩ = some (.int .i64 x.deadline) ∧ w'.cell? ⟨w.heap.size, 16, none⟩ = some (.int .i64 x.task.state) ∧ w'.cell? ⟨w.heap.size, 18, none⟩ = some (.int .i64 x.task.due) ∧ w'.cell? ⟨w.heap.size, 21, none⟩ = some (.bool x.fresh) ∧ w'.cell? ⟨w.heap.size, 23, none⟩ = some (.slice a1 x.timers.length c1)) := fun w' hb => by
    have e := kx w' hb
    exact ⟨box_cell e 3 _ (by simpa using k3), box_cell e 4 _ (by simpa using k4), box_cell e 16 _ (by simpa using k16), box_cell e 18 _ (by simpa using k18), box_cell e 21 _ (by simpa using k21), box_cell e 23 _ (by simpa using k23)⟩
  generalize hnl : x.timers.length = n at *
  replace hnl := Lib.hid hnl
  replace hs := Lib.hid hs
  replace hb := Lib.hid hb
  replace hX := Lib.hid hX
  replace hsz := Lib.hid hsz
  replace kp := Lib.hid kp
  replace kx := Lib.hid kx
  replace kc := Lib.hid kc
  clear h hl k0 k1 k2 k3 k4 k5 k6 k7 k13 k14 k15 k16 k17 k18 k19 k20 k21 k22 k30 k23
  rw [hst] at R
  replace R := Lib.hid R
  replace hst := Lib.hid hst
  obtain ⟨i0, hi, hz0, hz1, hz2⟩ := info_parts (show (Try.prog.info? 3).map (fun i => (i.zero, i.size, i.bytes)) = some (some (.int .i64 0), 1, 8) by kernel_rfl)
  replace hi := Lib.hid hi
  replace hz0 := Lib.hid hz0
  replace hz1 := Lib.hid hz1
  replace hz2 := Lib.hid hz2
  go_enter Try.func11, Try.ntmps11
  go_wp2_with (first | (with_reducible refine wpList_load_row rfl 33 (.tmp 1) rfl w.heap.size rfl 33 cs.toArray (0, 0) _ hX.out Try.underlying33 rfl hss.out ?_) | (go_at_call 20; refine R.out.mono ?_; rintro e w1 ⟨rfl, hb1⟩; replace hb1 := hb1.mono (Nat.le_of_eq hsz.out.symm); obtain ⟨r3, r4, r16, r18, r21, r23⟩ := kc.out w1 hb1; have hB1 : w.heap.size + 1 ≤ w1.heap.size := (by have := hb1.size; rw [hsz.out] at this; exact this); replace hb1 := Lib.hid hb1; clear R; have ho1 : Hid (World.ownsRow w1 (w.heap.size + 1) 3 1 (.slice none 0 0) 0 (iFl [])) := (show World.ownsRow w1 (w.heap.size + 1) 3 1 (.slice none 0 0) 0 (iFl []) from ⟨rfl, .inl ⟨rfl, rfl⟩⟩)))
  replace hd := Lib.hid hd
  replace h2 := Lib.hid h2
  replace h0 := Lib.hid h0
  replace hf := Lib.hid hf
  go_loopw [4, 46] (fun s4 s46 wr => ∃ (j : Nat) (D : List Int), s46 = .int .i64 (j : Int) ∧ j ≤ n ∧ D = [] ++ (x.timers.take j).map (·.due) ∧ wr.ownsRow (w.heap.size + 1) 3 1 s4 D.length (iFl D) ∧ Below (w.heap.size + 1) (w.alloc (.cells cs.toArray 33)) wr) (fun _ s46 _ => n - (intOf s46).toNat)
  case atStart => exact ⟨0, [], rfl, Nat.zero_le _, by simp, by exact ho1.out, hb1.out⟩
  case round =>
    obtain ⟨j, D, rfl, hj, hD, hor, hbr⟩ := hrel
    clear r3 r4 r16 r18 r21 r23
    have hwr : Below w.heap.size w wr := hb.out.trans (hbr.mono (Nat.le_succ _))
    have hBr : w.heap.size + 1 ≤ wr.heap.size := by have := hbr.size; rw [hsz.out] at this; exact this
    by_cases hlt : j < n
    · obtain ⟨y, hy⟩ : ∃ y, x.timers[j]? = some y := ⟨_, List.getElem?_eq_getElem (by rw [hnl.out]; exact hlt)⟩
      obtain ⟨g, off, ct, rfl, hg, hcl, hct, hcr⟩ := hs.out.get j y hy
      have hct : ct = [.string y.name, .int .i64 y.due] := hct
      subst hct
      have hcr' := range_keep hcr (hwr.block _ hg)
      have t0 : wr.cell? ⟨g, off + j * 2, none⟩ = some (.string y.name) := by have := hcr' 0 _ rfl; simpa using this
      have t1 := hcr' 1 _ rfl
      have b1 : (0 : Int) ≤ (j : Int) := by omega
      have b2 : (j : Int) < (n : Int) := by omega
      obtain ⟨np, hnp⟩ : ∃ np, D.length = np := ⟨_, rfl⟩
      have hnp2 : np ≤ 21 := by rw [← hnp, hD]; simp; omega
      rw [hnp] at hor
      have ho8 : ((wr.alloc (.cells #[.string y.name, .int .i64 y.due] 52)).alloc (.cells #[.int .i64 y.due] 3)).ownsRow (w.heap.size + 1) 3 1 u4 np (iFl D) := own_below (own_below hor ((Below.refl _ _).alloc (Nat.le_refl _) _)) ((Below.refl _ _).alloc (Nat.le_refl _) _)
      have hB8 : w.heap.size + 1 ≤ ((wr.alloc (.cells #[.string y.name, .int .i64 y.due] 52)).alloc (.cells #[.int .i64 y.due] 3)).heap.size := by simp; omega
      have hb8 := (hbr.alloc hBr (.cells #[.string y.name, .int .i64 y.due] 52)).alloc (show w.heap.size + 1 ≤ (wr.alloc (.cells #[.string y.name, .int .i64 y.due] 52)).heap.size by simp; omega) (.cells #[.int .i64 y.due] 3)
      replace hnp := Lib.hid hnp
      replace hD := Lib.hid hD
      replace hor := Lib.hid hor
      replace hbr := Lib.hid hbr
      replace hy := Lib.hid hy
      replace ho8 := Lib.hid ho8
      replace hB8 := Lib.hid hB8
      replace hb8 := Lib.hid hb8
      replace hwr := Lib.hid hwr
      replace hcr' := Lib.hid hcr'
      clear hcr hcl
      go_wp2_with (refine wpList_append_own_at _ rfl (.tmp 50) (.tmp 53) 60 rfl (w.heap.size + 1) 3 i0 _ 1 8 Try.underlying60 hi.out hz0.out hz1.out hz2.out rfl (by decide) u4 np (iFl D) rfl ho8.out ⟨_, 0, none⟩ 1 1 [.int .i64 y.due] rfl rfl (fun j u hu => by rw [Addr.add_mid]; exact box_range (cs := [.int .i64 y.due]) (heap_alloc2_new wr _ _) j u hu) (iFl_one [y.due]) (Nat.le_trans (show _ ≤ 1000 by omega) (by decide)) (by omega) (hB8.out) ?_; intro v8 w8 q1 q2 q3 q4; replace q1 := Lib.hid q1; replace q2 : Hid (World.grownBy ((wr.alloc (.cells #[.string y.name, .int .i64 y.due] 52)).alloc (.cells #[.int .i64 y.due] 3)) w8 u4.ownBlock) := q2; clear q3 q4)
      go_roundw
      case rel =>
        refine ⟨j + 1, D ++ [y.due], by go_num, by omega, ?_, ?_, hb8.out.grown q2.out hB8.out (fun q hq => (own_from ho8.out q hq).1)⟩
        · rw [List.take_add_one, hy.out]; have e := hD.out; rw [e]; simp
        · have e1 : (D ++ [y.due]).length = np + 1 := by rw [List.length_append, hnp.out]; rfl
          rw [e1, show iFl (D ++ [y.due]) = iFl D ++ [.int .i64 y.due] by simp [iFl]]
          exact q1.out
      case measure => simp [intOf]; omega
    · obtain rfl : j = n := by omega
      have hDL : D = dueL x := by
        rw [hD, List.take_of_length_le (by rw [hnl.out]; exact Nat.le_refl _)]
        unfold dueL; rw [hd.out, h2.out]; rw [h0.out, hf.out]; simp
      obtain ⟨r3, r4, r16, r18, r21, r23⟩ := kc.out wr hbr
      obtain ⟨np, hnp⟩ : ∃ np, D.length = np := ⟨_, rfl⟩
      have hnp2 : np ≤ 21 := by rw [← hnp, hD]; simp; omega
      rw [hnp] at hor
      obtain ⟨ar, cr, rfl, _, _, _⟩ := own_len hor
      have hnF : nextF x = if np = 0 then (0, false) else (max (minL D) x.time, true) := by
        unfold nextF
        rw [if_pos hst.out, ← hDL]
        by_cases h00 : np = 0
        · rw [if_pos h00, if_pos (List.length_eq_zero_iff.1 (by rw [hnp]; exact h00))]
        · rw [if_neg h00, if_neg (fun e => h00 (by rw [← hnp, e]; rfl))]
      clear hlt hj hDL
      by_cases h00 : np = 0
      · subst h00
        replace hD := Lib.hid hD
        replace hor := Lib.hid hor
        replace hbr := Lib.hid hbr
        replace hnp := Lib.hid hnp
        replace hnF := Lib.hid hnF
        replace hwr := Lib.hid hwr
        go_wp2_with fail
        go_ret2
        exact ⟨by rw [hnF.out]; rfl, hwr.out⟩
      · obtain ⟨gr, cr', e1, e2, e3, _, _, hrr⟩ := own_range hor (by omega)
        cases e1
        have MC := fun w' (hw' : w'.heap[gr]? = wr.heap[gr]?) => minC gr np cr D w' (range_keep hrr hw') hnp (by omega) (by omega)
        have h01 : ((np : Int) == 0) = false := beq_eq_false_iff_ne.2 (by omega)
        rw [if_neg h00] at hnF
        generalize minL D = mD at *
        replace hD := Lib.hid hD
        replace hor := Lib.hid hor
        replace hbr := Lib.hid hbr
        replace hnp := Lib.hid hnp
        replace hnF := Lib.hid hnF
        replace hwr := Lib.hid hwr
        replace hrr := Lib.hid hrr
        replace MC := Lib.hid MC
        replace h00 := Lib.hid h00
        go_wp2_with fail
        go_region_with (go_at_call 27; refine (MC.out _ ?_).mono ?_; exact rfl; rintro e w9 ⟨rfl, rfl⟩)
        all_goals
          go_wp2_with fail
        all_goals
          go_ret2
          refine ⟨?_, hwr.out.drew⟩
          rw [hnF.out]
          first | rfl | (simp; omega) | (congr 4; omega)

set_option maxRecDepth 100000 in
set_option maxHeartbeats 1600000 in
theorem next_oe (x : ST) (cs : List Value) (w : World) (h : SAt (Live w) w x cs) (h19 : x.timers.length ≤ 19) (hst : (x.status == 1) = true) (hd : decide (0 < x.deadline) = false) (h2 : (x.task.state == 2) = false) (h0 : (x.task.state == 0) = false) :
    Calls Try.prog 11 #[.agg cs.toArray] w (NextP w x) := by
  have hl := h.len
  have hlo : cs.toArray.size = 31 := by simp [hl]
  have hss := Lib.hid (s_size hl)
  have hb : Below w.heap.size w (w.alloc (.cells cs.toArray 33)) := (Below.refl _ _).alloc (Nat.le_refl _) _
  have hX : (w.alloc (.cells cs.toArray 33)).heap[w.heap.size]? = some (.cells cs.toArray 33 (0, 0)) := heap_alloc_new w _
  have hsz : (w.alloc (.cells cs.toArray 33)).heap.size = w.heap.size + 1 := by simp
  have kp : ∀ w', Below w.heap.size w w' → SAt (Live w') w' x cs := fun w' hb => h.below hb
  have R := running _ x cs _ (kp _ hb)
  have kx : ∀ w', Below (w.heap.size + 1) (w.alloc (.cells cs.toArray 33)) w' → w'.heap[w.heap.size]? = some (.cells cs.toArray 33 (0, 0)) := fun w' hb => (hb.block _ (Nat.lt_succ_self _)).trans hX
  obtain ⟨k0, k1, k2, k3, k4, k5, k6, k7, k13, k14, k15, k16, k17, k18, k19, k20, k21, k22, k30, A_, R_, a1, c1, a2, c2, _, _, k23, _, _, _, hs, _, hc1, hc9, _⟩ := h.cells
  have kc : ∀ w', Below (w.heap.size + 1) (w.alloc (.cells cs.toArray 33)) w' → (w'.cell? ⟨w.heap.size, 3, none⟩ = some (.int .i64 x.time) ∧ w'.cell? ⟨w.heap.size, 4, none⟩ = some (.int .i64 x.deadline) ∧ w'.cell? ⟨w.heap.size, 16, none⟩ = some (.int .i64 x.task.state) ∧ w'.cell? ⟨w.heap.size, 18, none⟩ = some (.int .i64 x.task.due) ∧ w'.cell? ⟨w.heap.size, 21, none⟩ = some (.bool x.fresh) ∧ w'.cell? ⟨w.heap.size, 23, none⟩ = some (.slice a1 x.timers.length c1)) := fun w' hb => by
    have e := kx w' hb
    exact ⟨box_cell e 3 _ (by simpa using k3), box_cell e 4 _ (by simpa using k4), box_cell e 16 _ (by simpa using k16), box_cell e 18 _ (by simpa using k18), box_cell e 21 _ (by simpa using k21), box_cell e 23 _ (by simpa using k23)⟩
  generalize hnl : x.timers.length = n at *
  replace hnl := Lib.hid hnl
  replace hs := Lib.hid hs
  replace hb := Lib.hid hb
  replace hX := Lib.hid hX
  replace hsz := Lib.hid hsz
  replace kp := Lib.hid kp
  replace kx := Lib.hid kx
  replace kc := Lib.hid kc
  clear h hl k0 k1 k2 k3 k4 k5 k6 k7 k13 k14 k15 k16 k17 k18 k19 k20 k21 k22 k30 k23
  rw [hst] at R
  replace R := Lib.hid R
  replace hst := Lib.hid hst
  obtain ⟨i0, hi, hz0, hz1, hz2⟩ := info_parts (show (Try.prog.info? 3).map (fun i => (i.zero, i.size, i.bytes)) = some (some (.int .i64 0), 1, 8) by kernel_rfl)
  replace hi := Lib.hid hi
  replace hz0 := Lib.hid hz0
  replace hz1 := Lib.hid hz1
  replace hz2 := Lib.hid hz2
  go_enter Try.func11, Try.ntmps11
  go_wp2_with (first | (with_reducible refine wpList_load_row rfl 33 (.tmp 1) rfl w.heap.size rfl 33 cs.toArray (0, 0) _ hX.out Try.underlying33 rfl hss.out ?_) | (go_at_call 20; refine R.out.mono ?_; rintro e w1 ⟨rfl, hb1⟩; replace hb1 := hb1.mono (Nat.le_of_eq hsz.out.symm); obtain ⟨r3, r4, r16, r18, r21, r23⟩ := kc.out w1 hb1; have hB1 : w.heap.size + 1 ≤ w1.heap.size := (by have := hb1.size; rw [hsz.out] at this; exact this); replace hb1 := Lib.hid hb1; clear R; have ho1 : Hid (World.ownsRow w1 (w.heap.size + 1) 3 1 (.slice none 0 0) 0 (iFl [])) := (show World.ownsRow w1 (w.heap.size + 1) 3 1 (.slice none 0 0) 0 (iFl []) from ⟨rfl, .inl ⟨rfl, rfl⟩⟩)))
  replace hd := Lib.hid hd
  replace h2 := Lib.hid h2
  replace h0 := Lib.hid h0
  go_loopw [4, 46] (fun s4 s46 wr => ∃ (j : Nat) (D : List Int), s46 = .int .i64 (j : Int) ∧ j ≤ n ∧ D = [] ++ (x.timers.take j).map (·.due) ∧ wr.ownsRow (w.heap.size + 1) 3 1 s4 D.length (iFl D) ∧ Below (w.heap.size + 1) (w.alloc (.cells cs.toArray 33)) wr) (fun _ s46 _ => n - (intOf s46).toNat)
  case atStart => exact ⟨0, [], rfl, Nat.zero_le _, by simp, by exact ho1.out, hb1.out⟩
  case round =>
    obtain ⟨j, D, rfl, hj, hD, hor, hbr⟩ := hrel
    clear r3 r4 r16 r18 r21 r23
    have hwr : Below w.heap.size w wr := hb.out.trans (hbr.mono (Nat.le_succ _))
    have hBr : w.heap.size + 1 ≤ wr.heap.size := by have := hbr.size; rw [hsz.out] at this; exact this
    by_cases hlt : j < n
    · obtain ⟨y, hy⟩ : ∃ y, x.timers[j]? = some y := ⟨_, List.getElem?_eq_getElem (by rw [hnl.out]; exact hlt)⟩
      obtain ⟨g, off, ct, rfl, hg, hcl, hct, hcr⟩ := hs.out.get j y hy
      have hct : ct = [.string y.name, .int .i64 y.due] := hct
      subst hct
      have hcr' := range_keep hcr (hwr.block _ hg)
      have t0 : wr.cell? ⟨g, off + j * 2, none⟩ = some (.string y.name) := by have := hcr' 0 _ rfl; simpa using this
      have t1 := hcr' 1 _ rfl
      have b1 : (0 : Int) ≤ (j : Int) := by omega
      have b2 : (j : Int) < (n : Int) := by omega
      obtain ⟨np, hnp⟩ : ∃ np, D.length = np := ⟨_, rfl⟩
      have hnp2 : np ≤ 21 := by rw [← hnp, hD]; simp; omega
      rw [hnp] at hor
      have ho8 : ((wr.alloc (.cells #[.string y.name, .int .i64 y.due] 52)).alloc (.cells #[.int .i64 y.due] 3)).ownsRow (w.heap.size + 1) 3 1 u4 np (iFl D) := own_below (own_below hor ((Below.refl _ _).alloc (Nat.le_refl _) _)) ((Below.refl _ _).alloc (Nat.le_refl _) _)
      have hB8 : w.heap.size + 1 ≤ ((wr.alloc (.cells #[.string y.name, .int .i64 y.due] 52)).alloc (.cells #[.int .i64 y.due] 3)).heap.size := by simp; omega
      have hb8 := (hbr.alloc hBr (.cells #[.string y.name, .int .i64 y.due] 52)).alloc (show w.heap.size + 1 ≤ (wr.alloc (.cells #[.string y.name, .int .i64 y.due] 52)).heap.size by simp; omega) (.cells #[.int .i64 y.due] 3)
      replace hnp := Lib.hid hnp
      replace hD := Lib.hid hD
      replace hor := Lib.hid hor
      replace hbr := Lib.hid hbr
      replace hy := Lib.hid hy
      replace ho8 := Lib.hid ho8
      replace hB8 := Lib.hid hB8
      replace hb8 := Lib.hid hb8
      replace hwr := Lib.hid hwr
      replace hcr' := Lib.hid hcr'
      clear hcr hcl
      go_wp2_with (refine wpList_append_own_at _ rfl (.tmp 50) (.tmp 53) 60 rfl (w.heap.size + 1) 3 i0 _ 1 8 Try.underlying60 hi.out hz0.out hz1.out hz2.out rfl (by decide) u4 np (iFl D) rfl ho8.out ⟨_, 0, none⟩ 1 1 [.int .i64 y.due] rfl rfl (fun j u hu => by rw [Addr.add_mid]; exact box_range (cs := [.int .i64 y.due]) (heap_alloc2_new wr _ _) j u hu) (iFl_one [y.due]) (Nat.le_trans (show _ ≤ 1000 by omega) (by decide)) (by omega) (hB8.out) ?_; intro v8 w8 q1 q2 q3 q4; replace q1 := Lib.hid q1; replace q2 : Hid (World.grownBy ((wr.alloc (.cells #[.string y.name, .int .i64 y.due] 52)).alloc (.cells #[.int .i64 y.due] 3)) w8 u4.ownBlock) := q2; clear q3 q4)
      go_roundw
      case rel =>
        refine ⟨j + 1, D ++ [y.due], by go_num, by omega, ?_, ?_, hb8.out.grown q2.out hB8.out (fun q hq => (own_from ho8.out q hq).1)⟩
        · rw [List.take_add_one, hy.out]; have e := hD.out; rw [e]; simp
        · have e1 : (D ++ [y.due]).length = np + 1 := by rw [List.length_append, hnp.out]; rfl
          rw [e1, show iFl (D ++ [y.due]) = iFl D ++ [.int .i64 y.due] by simp [iFl]]
          exact q1.out
      case measure => simp [intOf]; omega
    · obtain rfl : j = n := by omega
      have hDL : D = dueL x := by
        rw [hD, List.take_of_length_le (by rw [hnl.out]; exact Nat.le_refl _)]
        unfold dueL; rw [hd.out, h2.out]; rw [h0.out]; simp
      obtain ⟨r3, r4, r16, r18, r21, r23⟩ := kc.out wr hbr
      obtain ⟨np, hnp⟩ : ∃ np, D.length = np := ⟨_, rfl⟩
      have hnp2 : np ≤ 21 := by rw [← hnp, hD]; simp; omega
      rw [hnp] at hor
      obtain ⟨ar, cr, rfl, _, _, _⟩ := own_len hor
      have hnF : nextF x = if np = 0 then (0, false) else (max (minL D) x.time, true) := by
        unfold nextF
        rw [if_pos hst.out, ← hDL]
        by_cases h00 : np = 0
        · rw [if_pos h00, if_pos (List.length_eq_zero_iff.1 (by rw [hnp]; exact h00))]
        · rw [if_neg h00, if_neg (fun e => h00 (by rw [← hnp, e]; rfl))]
      clear hlt hj hDL
      by_cases h00 : np = 0
      · subst h00
        replace hD := Lib.hid hD
        replace hor := Lib.hid hor
        replace hbr := Lib.hid hbr
        replace hnp := Lib.hid hnp
        replace hnF := Lib.hid hnF
        replace hwr := Lib.hid hwr
        go_wp2_with fail
        go_ret2
        exact ⟨by rw [hnF.out]; rfl, hwr.out⟩
      · obtain ⟨gr, cr', e1, e2, e3, _, _, hrr⟩ := own_range hor (by omega)
        cases e1
        have MC := fun w' (hw' : w'.heap[gr]? = wr.heap[gr]?) => minC gr np cr D w' (range_keep hrr hw') hnp (by omega) (by omega)
        have h01 : ((np : Int) == 0) = false := beq_eq_false_iff_ne.2 (by omega)
        rw [if_neg h00] at hnF
        generalize minL D = mD at *
        replace hD := Lib.hid hD
        replace hor := Lib.hid hor
        replace hbr := Lib.hid hbr
        replace hnp := Lib.hid hnp
        replace hnF := Lib.hid hnF
        replace hwr := Lib.hid hwr
        replace hrr := Lib.hid hrr
        replace MC := Lib.hid MC
        replace h00 := Lib.hid h00
        go_wp2_with fail
        go_region_with (go_at_call 27; refine (MC.out _ ?_).mono ?_; exact rfl; rintro e w9 ⟨rfl, rfl⟩)
        all_goals
          go_wp2_with fail
        all_goals
          go_ret2
          refine ⟨?_, hwr.out.drew⟩
          rw [hnF.out]
          first | rfl | (simp; omega) | (congr 4; omega)

theorem next_ (x : ST) (cs : List Value) (w : World) (h : SAt (Live w) w x cs) (h19 : x.timers.length ≤ 19) : Calls Try.prog 11 #[.agg cs.toArray] w (NextP w x) := by
  cases hst : (x.status == 1) with
  | false => exact next_off x cs w h h19 hst
  | true =>
    cases hd : decide (0 < x.deadline) <;> cases h2 : (x.task.state == 2) <;> cases h0 : (x.task.state == 0) <;> cases hf : x.fresh
    all_goals first | exact next_da x cs w h h19 hst hd h2 | exact next_oa x cs w h h19 hst hd h2 | exact next_db x cs w h h19 hst hd h2 h0 hf | exact next_ob x cs w h h19 hst hd h2 h0 hf | exact next_dc x cs w h h19 hst hd h2 h0 hf | exact next_oc x cs w h h19 hst hd h2 h0 hf | exact next_de x cs w h h19 hst hd h2 h0 | exact next_oe x cs w h h19 hst hd h2 h0
end Go.Proofs.Ytidoacdigedlnaa
