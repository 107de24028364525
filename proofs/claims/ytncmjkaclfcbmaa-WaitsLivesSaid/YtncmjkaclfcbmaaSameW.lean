/- usherref30.Same, of one list twice. -/
import Derived.Test.YtncmjkaclfcbmaaSame
import Derived.Test.YtncmjkaclfcbmaaAdd
import Derived.Deep.RegionHeld3
import Derived.Deep.DrawnRows
set_option linter.unusedVariables false
set_option linter.unusedSimpArgs false
namespace Go.Proofs.Ytncmjkaclfcbmaa
open Go.RowKit

/-- two boxes that hold one wait -/
def TwoP (W : World) (x : WT) (s6 s7 : Value) (wx : World) : Prop :=
  ∃ (p q : Nat) (cs ds : List Value), s6 = .pointer (some ⟨p, 0, none⟩) ∧ s7 = .pointer (some ⟨q, 0, none⟩) ∧ wx.heap[p]? = some (.cells cs.toArray 31 (0, 0)) ∧ wx.heap[q]? = some (.cells ds.toArray 31 (0, 0)) ∧ WAt (Live wx) wx x cs ∧ WAt (Live wx) wx x ds ∧ Below W.heap.size W wx
theorem wp_store_here {o : Oper} {a : Act} {w : World} {K : Act → World → Prop} {Q : Exit → Act → World → Prop} {ops : Array Oper} {E : Prop} (hw : Region.wanted o (yielded ops a.tmps) = true) (ty : TypeId) (x y : Operand) (ho : o.op = .store ty x y)
    (g : Nat) (cells : Array Value) (hx : a.eval x = .pointer (some ⟨g, 0, none⟩)) (hy : a.eval y = .agg cells)
    (t : TypeId) (old : Array Value) (hg : w.heap[g]? = some (.cells old t (0, 0))) (hi : (Try.prog.info? ty).map (·.size) = some cells.size)
    (hold : old.size = cells.size) (h1 : cells.all (·.oneCell') = true)
    (h : K (a.put o.dst undef) (w.setRow g cells)) : if Region.wanted o (yielded ops a.tmps) = true then o.wp Try.prog a w K Q else E := by
  rw [if_pos hw]
  exact wp_store_row ty x y ho g cells hx hy t old hg hi hold h1 h
set_option maxHeartbeats 3200000 in
set_option maxRecDepth 100000 in
theorem same30 (a a' : Option Addr) (n cap cap' : Nat) (ws : List WT) (w : World) (hs : Sl 19 (WAt (Live w) w) (Live w) w a ws) (hs' : Sl 19 (WAt (Live w) w) (Live w) w a' ws) (hn : ws.length = n) (h9 : n ≤ 1000000) :
    Calls Try.prog 11 #[.slice a n cap, .slice a' n cap'] w (BoolP w true) := by
  replace hs := Lib.hid hs
  replace hs' := Lib.hid hs'
  replace hn := Lib.hid hn
  go_enter Try.func11, Try.ntmps11
  go_wp2_with fail
  go_loopw [5] (fun i wr => ∃ j : Nat, j ≤ n ∧ i = .int .i64 (j : Int) ∧ Below w.heap.size w wr) (fun i _ => n - (intOf i).toNat)
  case atStart => exact ⟨0, Nat.zero_le _, rfl, Below.refl _ _⟩
  case round =>
    obtain ⟨j, hj, rfl, hbr⟩ := hrel
    by_cases hlt : j < n
    · obtain ⟨x, hx⟩ : ∃ x, ws[j]? = some x := ⟨_, List.getElem?_eq_getElem (by rw [hn.out]; exact hlt)⟩
      obtain ⟨g, off, cs, rfl, hg, hcl, hct, hcr⟩ := hs.out.get j x hx
      obtain ⟨g', off', ds, rfl, hg', hdl, hdt, hdr⟩ := hs'.out.get j x hx
      have hr := range_keep hcr (hbr.block _ hg)
      have hr' := range_keep hdr (hbr.block _ hg')
      have hct' := hct.below hbr
      have hdt' := hdt.below hbr
      have hgl : g < wr.heap.size := Nat.lt_of_lt_of_le hg hbr.size
      have hgl' : g' < wr.heap.size := Nat.lt_of_lt_of_le hg' hbr.size
      have hb1 : (0 : Int) ≤ (j : Int) := by omega
      have hb2 : (j : Int) < (n : Int) := by omega
      have hone := all_one hct.one
      have hone' := all_one hdt.one
      replace hr := Lib.hid hr
      replace hr' := Lib.hid hr'
      replace hct' := Lib.hid hct'
      replace hdt' := Lib.hid hdt'
      replace hbr := Lib.hid hbr
      replace hcl := Lib.hid hcl
      replace hdl := Lib.hid hdl
      replace hone := Lib.hid hone
      replace hone' := Lib.hid hone'
      clear hcr hdr hct hdt hx
      go_wp2_with fail
      go_cut [6, 7] (fun s6 s7 wx => TwoP wr x s6 s7 wx)
      case first =>
        have hS0 : Below wr.heap.size wr wr.drew := (Below.refl _ _).drew
        refine wp_region_held_drew (S := Below wr.heap.size wr) (by kernel_rfl) hS0 (fun hHeld => ?_)
        refine wpAnyH_take (i := 0) (v := ?_) rfl (by kernel_rfl) (by kernel_rfl) (by kernel_rfl) (fun _ _ _ h => h) (Or.inl ⟨by rfl, ?_⟩) (by assumption) ?_
        rotate_left
        · intro wS hSw; skip; go_simp; (try with_reducible rfl)
        change wpAnyH _ _ _ _ _ _ _ (Act.put _ (some 19) _) _
        simp only [Act.put, List.setIfInBounds_toArray, List.set_cons_zero, List.set_cons_succ]
        refine wpAnyH_take (i := 1) (v := ?_) rfl (by kernel_rfl) (by kernel_rfl) (by kernel_rfl) (fun _ _ _ h => h) (Or.inl ⟨by rfl, ?_⟩) (by assumption) ?_
        rotate_left
        · intro wS hSw; skip; go_simp; (try with_reducible rfl)
        change wpAnyH _ _ _ _ _ _ _ (Act.put _ (some 20) _) _
        simp only [Act.put, List.setIfInBounds_toArray, List.set_cons_zero, List.set_cons_succ]
        refine wpAnyH_take (i := 2) (v := ?_) rfl (by kernel_rfl) (by kernel_rfl) (by kernel_rfl) (fun _ _ _ h => h) (Or.inl ⟨by rfl, ?_⟩) (by assumption) ?_
        rotate_left
        · intro wS hSw; skip; go_simp; (try with_reducible rfl)
        change wpAnyH _ _ _ _ _ _ _ (Act.put _ (some 21) _) _
        simp only [Act.put, List.setIfInBounds_toArray, List.set_cons_zero, List.set_cons_succ]
        refine wpAnyH_take (i := 3) rfl (by kernel_rfl) (by kernel_rfl) (by kernel_rfl) (fun _ _ _ h => h) (yieldsIf_load_mid (by rfl) 31 (.tmp 21) rfl g (off + j * 19) rfl cs _ (fun w' h => range_keep hr.out (h.block _ hgl)) Try.underlying31 rfl (w_size hcl.out)) (by assumption) ?_
        change wpAnyH _ _ _ _ _ _ _ (Act.put _ (some 22) _) _
        simp only [Act.put, List.setIfInBounds_toArray, List.set_cons_zero, List.set_cons_succ]
        refine wpAnyH_take (i := 4) (v := ?_) rfl (by kernel_rfl) (by kernel_rfl) (by kernel_rfl) (fun _ _ _ h => h) (Or.inl ⟨by rfl, ?_⟩) (by assumption) ?_
        rotate_left
        · intro wS hSw; skip; go_simp; (try with_reducible rfl)
        change wpAnyH _ _ _ _ _ _ _ (Act.put _ (some 23) _) _
        simp only [Act.put, List.setIfInBounds_toArray, List.set_cons_zero, List.set_cons_succ]
        refine wpAnyH_take (i := 5) (v := ?_) rfl (by kernel_rfl) (by kernel_rfl) (by kernel_rfl) (fun _ _ _ h => h) (Or.inl ⟨by rfl, ?_⟩) (by assumption) ?_
        rotate_left
        · intro wS hSw; skip; go_simp; (try with_reducible rfl)
        change wpAnyH _ _ _ _ _ _ _ (Act.put _ (some 24) _) _
        simp only [Act.put, List.setIfInBounds_toArray, List.set_cons_zero, List.set_cons_succ]
        refine wpAnyH_take (i := 6) (v := ?_) rfl (by kernel_rfl) (by kernel_rfl) (by kernel_rfl) (fun _ _ _ h => h) (Or.inl ⟨by rfl, ?_⟩) (by assumption) ?_
        rotate_left
        · intro wS hSw; skip; go_simp; (try with_reducible rfl)
        change wpAnyH _ _ _ _ _ _ _ (Act.put _ (some 25) _) _
        simp only [Act.put, List.setIfInBounds_toArray, List.set_cons_zero, List.set_cons_succ]
        refine wpAnyH_take (i := 7) rfl (by kernel_rfl) (by kernel_rfl) (by kernel_rfl) (fun _ _ _ h => h) (yieldsIf_load_mid (by rfl) 31 (.tmp 25) rfl g' (off' + j * 19) rfl ds _ (fun w' h => range_keep hr'.out (h.block _ hgl')) Try.underlying31 rfl (w_size hdl.out)) (by assumption) ?_
        change wpAnyH _ _ _ _ _ _ _ (Act.put _ (some 26) _) _
        simp only [Act.put, List.setIfInBounds_toArray, List.set_cons_zero, List.set_cons_succ]
        refine wpAnyH_ready (rs := [8, 9]) (by kernel_rfl) (by simp) ?_
        refine AllReadyH.cons rfl (fun K hK => ?_) (AllReadyH.cons rfl (fun K hK => ?_) AllReadyH.nil)
        · go_simp
          refine hK.out _ _ (hHeld.alloc (Nat.le_refl _) _) (fun hHeld => ?_)
          clear hK K
          (try simp only [Act.put, List.setIfInBounds_toArray, List.set_cons_zero, List.set_cons_succ])
          refine wpAnyH_ready (rs := [9]) (by kernel_rfl) (by simp) ?_
          refine AllReadyH.cons rfl (fun K hK => ?_) AllReadyH.nil
          go_simp
          refine hK.out _ _ (hHeld.alloc (by simp) _) (fun hHeld => ?_)
          clear hK K
          (try simp only [Act.put, List.setIfInBounds_toArray, List.set_cons_zero, List.set_cons_succ])
          have z1 : ((wr.drew.alloc (.cells Z19 31)).alloc (.cells Z19 31)).heap[wr.heap.size]? = some (.cells Z19 31 (0, 0)) := heap_alloc2_old wr.drew _ _
          have z2 : ((wr.drew.alloc (.cells Z19 31)).alloc (.cells Z19 31)).heap[wr.heap.size + 1]? = some (.cells Z19 31 (0, 0)) := heap_alloc2_new wr.drew _ _
          refine wpAnyH_ready (rs := [10]) (by kernel_rfl) (by simp) ?_
          refine AllReadyH.cons rfl (fun K hK => ?_) AllReadyH.nil
          refine wp_store_here (by rfl) 31 (.tmp 6) (.tmp 22) rfl (wr.heap.size) cs.toArray rfl rfl 31 Z19 z1 (w_size' hcl.out) (by simp [hcl.out, z19_size]) hone.out ?_
          have y1 := setRow_heap _ (wr.heap.size) _ cs.toArray 31 (0, 0) z1
          have y2 : (((wr.drew.alloc (.cells Z19 31)).alloc (.cells Z19 31)).setRow (wr.heap.size) cs.toArray).heap[wr.heap.size + 1]? = some (.cells Z19 31 (0, 0)) := (setRow_other _ _ _ _ (by omega)).trans z2
          refine hK.out _ _ (below_setRow hHeld (by omega) _) (fun hHeld => ?_)
          clear hK K
          (try simp only [Act.put, List.setIfInBounds_toArray, List.set_cons_zero, List.set_cons_succ])
          refine wpAnyH_ready (rs := [11]) (by kernel_rfl) (by simp) ?_
          refine AllReadyH.cons rfl (fun K hK => ?_) AllReadyH.nil
          refine wp_store_here (by rfl) 31 (.tmp 7) (.tmp 26) rfl (wr.heap.size + 1) ds.toArray rfl rfl 31 Z19 y2 (w_size' hdl.out) (by simp [hdl.out, z19_size]) hone'.out ?_
          have x1 := setRow_heap _ (wr.heap.size + 1) _ ds.toArray 31 (0, 0) y2
          have x2 : ((((wr.drew.alloc (.cells Z19 31)).alloc (.cells Z19 31)).setRow (wr.heap.size) cs.toArray).setRow (wr.heap.size + 1) ds.toArray).heap[wr.heap.size]? = some (.cells cs.toArray 31 (0, 0)) := (setRow_other _ _ _ _ (by omega)).trans y1
          refine hK.out _ _ (below_setRow hHeld (by omega) _) (fun hHeld => ?_)
          clear hK K
          (try simp only [Act.put, List.setIfInBounds_toArray, List.set_cons_zero, List.set_cons_succ])
          refine wpAnyH_done (by kernel_rfl) ?_ _
          replace x1 := Lib.hid x1
          replace x2 := Lib.hid x2
          have hBB := Lib.hid hHeld
          clear y1 y2 z1 z2
          go_wp2_with fail
          go_meet
          exact ⟨_, _, cs, ds, rfl, rfl, x2.out, x1.out, hct'.out.below hBB.out, hdt'.out.below hBB.out, hBB.out⟩
        · go_simp
          refine hK.out _ _ (hHeld.alloc (Nat.le_refl _) _) (fun hHeld => ?_)
          clear hK K
          (try simp only [Act.put, List.setIfInBounds_toArray, List.set_cons_zero, List.set_cons_succ])
          refine wpAnyH_ready (rs := [8]) (by kernel_rfl) (by simp) ?_
          refine AllReadyH.cons rfl (fun K hK => ?_) AllReadyH.nil
          go_simp
          refine hK.out _ _ (hHeld.alloc (by simp) _) (fun hHeld => ?_)
          clear hK K
          (try simp only [Act.put, List.setIfInBounds_toArray, List.set_cons_zero, List.set_cons_succ])
          have z1 : ((wr.drew.alloc (.cells Z19 31)).alloc (.cells Z19 31)).heap[wr.heap.size]? = some (.cells Z19 31 (0, 0)) := heap_alloc2_old wr.drew _ _
          have z2 : ((wr.drew.alloc (.cells Z19 31)).alloc (.cells Z19 31)).heap[wr.heap.size + 1]? = some (.cells Z19 31 (0, 0)) := heap_alloc2_new wr.drew _ _
          refine wpAnyH_ready (rs := [10]) (by kernel_rfl) (by simp) ?_
          refine AllReadyH.cons rfl (fun K hK => ?_) AllReadyH.nil
          refine wp_store_here (by rfl) 31 (.tmp 6) (.tmp 22) rfl (wr.heap.size + 1) cs.toArray rfl rfl 31 Z19 z2 (w_size' hcl.out) (by simp [hcl.out, z19_size]) hone.out ?_
          have y1 := setRow_heap _ (wr.heap.size + 1) _ cs.toArray 31 (0, 0) z2
          have y2 : (((wr.drew.alloc (.cells Z19 31)).alloc (.cells Z19 31)).setRow (wr.heap.size + 1) cs.toArray).heap[wr.heap.size]? = some (.cells Z19 31 (0, 0)) := (setRow_other _ _ _ _ (by omega)).trans z1
          refine hK.out _ _ (below_setRow hHeld (by omega) _) (fun hHeld => ?_)
          clear hK K
          (try simp only [Act.put, List.setIfInBounds_toArray, List.set_cons_zero, List.set_cons_succ])
          refine wpAnyH_ready (rs := [11]) (by kernel_rfl) (by simp) ?_
          refine AllReadyH.cons rfl (fun K hK => ?_) AllReadyH.nil
          refine wp_store_here (by rfl) 31 (.tmp 7) (.tmp 26) rfl (wr.heap.size) ds.toArray rfl rfl 31 Z19 y2 (w_size' hdl.out) (by simp [hdl.out, z19_size]) hone'.out ?_
          have x1 := setRow_heap _ (wr.heap.size) _ ds.toArray 31 (0, 0) y2
          have x2 : ((((wr.drew.alloc (.cells Z19 31)).alloc (.cells Z19 31)).setRow (wr.heap.size + 1) cs.toArray).setRow (wr.heap.size) ds.toArray).heap[wr.heap.size + 1]? = some (.cells cs.toArray 31 (0, 0)) := (setRow_other _ _ _ _ (by omega)).trans y1
          refine hK.out _ _ (below_setRow hHeld (by omega) _) (fun hHeld => ?_)
          clear hK K
          (try simp only [Act.put, List.setIfInBounds_toArray, List.set_cons_zero, List.set_cons_succ])
          refine wpAnyH_done (by kernel_rfl) ?_ _
          replace x1 := Lib.hid x1
          replace x2 := Lib.hid x2
          have hBB := Lib.hid hHeld
          clear y1 y2 z1 z2
          go_wp2_with fail
          go_meet
          exact ⟨_, _, cs, ds, rfl, rfl, x2.out, x1.out, hct'.out.below hBB.out, hdt'.out.below hBB.out, hBB.out⟩
      case rest =>
        obtain ⟨p, q, cs2, ds2, rfl, rfl, hp, hq, hxp, hxq, hbc⟩ := hcut
        obtain ⟨A, B, rfl, hA, hB⟩ := hxp
        obtain ⟨C, D, rfl, hC, hD⟩ := hxq
        obtain ⟨a0, a1, a2, a3, a4, a5, a6, rfl⟩ := hA.shape
        obtain ⟨b0, b1, b2, b3, b4, b5, b6, rfl⟩ := hB.shape
        obtain ⟨c0, c1, c2, c3, c4, c5, c6, rfl⟩ := hC.shape
        obtain ⟨d0, d1, d2, d3, d4, d5, d6, rfl⟩ := hD.shape
        have hpl : p < wc.heap.size := (Array.getElem?_eq_some_iff.1 hp).1
        have hql : q < wc.heap.size := (Array.getElem?_eq_some_iff.1 hq).1
        have P0 : wc.cell? ⟨p, 0, none⟩ = some (.int .i64 x.op) := box_cell hp 0 _ rfl
        have P1 : wc.cell? ⟨p, 1, none⟩ = some (.int .i64 x.run) := box_cell hp 1 _ rfl
        have P2 : wc.cell? ⟨p, 2, none⟩ = some (.int .i64 x.seen) := box_cell hp 2 _ rfl
        have P3 : wc.cell? ⟨p, 3, none⟩ = some (.int .i64 x.upto) := box_cell hp 3 _ rfl
        have P4 : wc.cell? ⟨p, 4, none⟩ = some (.string x.flow) := box_cell hp 4 _ rfl
        have P5 : wc.cell? ⟨p, 5, none⟩ = some (.string x.name) := box_cell hp 5 _ rfl
        have P6 : wc.cell? ⟨p, 6, none⟩ = some (.int .i64 a0) := box_cell hp 6 _ rfl
        have P7 : wc.cell? ⟨p, 7, none⟩ = some (.int .i64 a1) := box_cell hp 7 _ rfl
        have P8 : wc.cell? ⟨p, 8, none⟩ = some (.int .u64 a2) := box_cell hp 8 _ rfl
        have P9 : wc.cell? ⟨p, 9, none⟩ = some (.string a3) := box_cell hp 9 _ rfl
        have P10 : wc.cell? ⟨p, 10, none⟩ = some (.slice a4 a5 a6) := box_cell hp 10 _ rfl
        have P11 : wc.cell? ⟨p, 11, none⟩ = some (.int .i64 b0) := box_cell hp 11 _ rfl
        have P12 : wc.cell? ⟨p, 12, none⟩ = some (.int .i64 b1) := box_cell hp 12 _ rfl
        have P13 : wc.cell? ⟨p, 13, none⟩ = some (.int .u64 b2) := box_cell hp 13 _ rfl
        have P14 : wc.cell? ⟨p, 14, none⟩ = some (.string b3) := box_cell hp 14 _ rfl
        have P15 : wc.cell? ⟨p, 15, none⟩ = some (.slice b4 b5 b6) := box_cell hp 15 _ rfl
        have P16 : wc.cell? ⟨p, 16, none⟩ = some (.bool x.query) := box_cell hp 16 _ rfl
        have P17 : wc.cell? ⟨p, 17, none⟩ = some (.bool x.over) := box_cell hp 17 _ rfl
        have P18 : wc.cell? ⟨p, 18, none⟩ = some (.int .i64 x.handed) := box_cell hp 18 _ rfl
        have Q0 : wc.cell? ⟨q, 0, none⟩ = some (.int .i64 x.op) := box_cell hq 0 _ rfl
        have Q1 : wc.cell? ⟨q, 1, none⟩ = some (.int .i64 x.run) := box_cell hq 1 _ rfl
        have Q2 : wc.cell? ⟨q, 2, none⟩ = some (.int .i64 x.seen) := box_cell hq 2 _ rfl
        have Q3 : wc.cell? ⟨q, 3, none⟩ = some (.int .i64 x.upto) := box_cell hq 3 _ rfl
        have Q4 : wc.cell? ⟨q, 4, none⟩ = some (.string x.flow) := box_cell hq 4 _ rfl
        have Q5 : wc.cell? ⟨q, 5, none⟩ = some (.string x.name) := box_cell hq 5 _ rfl
        have Q6 : wc.cell? ⟨q, 6, none⟩ = some (.int .i64 c0) := box_cell hq 6 _ rfl
        have Q7 : wc.cell? ⟨q, 7, none⟩ = some (.int .i64 c1) := box_cell hq 7 _ rfl
        have Q8 : wc.cell? ⟨q, 8, none⟩ = some (.int .u64 c2) := box_cell hq 8 _ rfl
        have Q9 : wc.cell? ⟨q, 9, none⟩ = some (.string c3) := box_cell hq 9 _ rfl
        have Q10 : wc.cell? ⟨q, 10, none⟩ = some (.slice c4 c5 c6) := box_cell hq 10 _ rfl
        have Q11 : wc.cell? ⟨q, 11, none⟩ = some (.int .i64 d0) := box_cell hq 11 _ rfl
        have Q12 : wc.cell? ⟨q, 12, none⟩ = some (.int .i64 d1) := box_cell hq 12 _ rfl
        have Q13 : wc.cell? ⟨q, 13, none⟩ = some (.int .u64 d2) := box_cell hq 13 _ rfl
        have Q14 : wc.cell? ⟨q, 14, none⟩ = some (.string d3) := box_cell hq 14 _ rfl
        have Q15 : wc.cell? ⟨q, 15, none⟩ = some (.slice d4 d5 d6) := box_cell hq 15 _ rfl
        have Q16 : wc.cell? ⟨q, 16, none⟩ = some (.bool x.query) := box_cell hq 16 _ rfl
        have Q17 : wc.cell? ⟨q, 17, none⟩ = some (.bool x.over) := box_cell hq 17 _ rfl
        have Q18 : wc.cell? ⟨q, 18, none⟩ = some (.int .i64 x.handed) := box_cell hq 18 _ rfl
        have S1 := Lib.hid (same05 x.asked _ _ wc hA hC)
        have S2 := Lib.hid (fun w3 (hb : Below wc.heap.size wc w3) => same05 x.value _ _ w3 (hB.below hb) (hD.below hb))
        have hbE := Lib.hid ((hbr.out.trans (hbc.mono hbr.out.size)))
        have hsz : w.heap.size ≤ wc.heap.size := hbE.out.size
        replace hp := Lib.hid hp
        replace hq := Lib.hid hq
        clear hA hB hC hD hbc hr hr' hct' hdt' hs hs' hcl hdl hone hone'
        go_wp2_with fail
        refine S1.out.mono ?_
        rintro e w3 ⟨rfl, hb3⟩
        have R11 : w3.cell? ⟨p, 11, none⟩ = some (.int .i64 b0) := by rw [hb3.cell (p := ⟨p, 11, none⟩) hpl]; exact P11
        have R12 : w3.cell? ⟨p, 12, none⟩ = some (.int .i64 b1) := by rw [hb3.cell (p := ⟨p, 12, none⟩) hpl]; exact P12
        have R13 : w3.cell? ⟨p, 13, none⟩ = some (.int .u64 b2) := by rw [hb3.cell (p := ⟨p, 13, none⟩) hpl]; exact P13
        have R14 : w3.cell? ⟨p, 14, none⟩ = some (.string b3) := by rw [hb3.cell (p := ⟨p, 14, none⟩) hpl]; exact P14
        have R15 : w3.cell? ⟨p, 15, none⟩ = some (.slice b4 b5 b6) := by rw [hb3.cell (p := ⟨p, 15, none⟩) hpl]; exact P15
        have T11 : w3.cell? ⟨q, 11, none⟩ = some (.int .i64 d0) := by rw [hb3.cell (p := ⟨q, 11, none⟩) hql]; exact Q11
        have T12 : w3.cell? ⟨q, 12, none⟩ = some (.int .i64 d1) := by rw [hb3.cell (p := ⟨q, 12, none⟩) hql]; exact Q12
        have T13 : w3.cell? ⟨q, 13, none⟩ = some (.int .u64 d2) := by rw [hb3.cell (p := ⟨q, 13, none⟩) hql]; exact Q13
        have T14 : w3.cell? ⟨q, 14, none⟩ = some (.string d3) := by rw [hb3.cell (p := ⟨q, 14, none⟩) hql]; exact Q14
        have T15 : w3.cell? ⟨q, 15, none⟩ = some (.slice d4 d5 d6) := by rw [hb3.cell (p := ⟨q, 15, none⟩) hql]; exact Q15
        have S3 := Lib.hid (S2.out w3 hb3)
        have hsz3 : wc.heap.size ≤ w3.heap.size := hb3.size
        have hb3' := Lib.hid (hbE.out.trans (hb3.mono hsz))
        clear hb3
        clear P0 Q0 P1 Q1 P2 Q2 P3 Q3 P4 Q4 P5 Q5 P6 Q6 P7 Q7 P8 Q8 P9 Q9 P10 Q10 P11 Q11 P12 Q12 P13 Q13 P14 Q14 P15 Q15 P16 Q16 P17 Q17 P18 Q18
        go_wp2_with fail
        refine S3.out.mono ?_
        rintro e w4 ⟨rfl, hb4⟩
        have hb4' := Lib.hid (hb3'.out.trans (hb4.mono (Nat.le_trans hsz hsz3)))
        clear hb4
        go_wp2_with fail
        go_roundw
        case rel => exact ⟨j + 1, by omega, by go_num, hb4'.out⟩
        case measure => simp [intOf]; omega
    · replace hbr := Lib.hid hbr
      go_wp2_with fail
      go_ret
      exact ⟨rfl, hbr.out⟩
end Go.Proofs.Ytncmjkaclfcbmaa
