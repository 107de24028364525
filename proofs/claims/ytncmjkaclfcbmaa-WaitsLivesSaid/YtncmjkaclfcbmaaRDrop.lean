/- usherref30's Drop and Add. -/
import Derived.Test.YtncmjkaclfcbmaaAdd
import Derived.Test.YtncmjkaclfcbmaaOwnR
set_option linter.unusedVariables false
set_option linter.unusedSimpArgs false
namespace Go.Proofs.Ytncmjkaclfcbmaa
open Go.RowKit

set_option maxHeartbeats 1600000 in
theorem rdrop (a : Option Addr) (n cap : Nat) (ws : List WT) (op : Int) (w : World) (hs : Sl 19 (WAt (Live w) w) (Live w) w a ws) (hn : ws.length = n) (hc : n ≤ cap) (h9 : n ≤ 1000000) :
    Calls Try.prog 35 #[.slice a n cap, .int .i64 op] w (ListP w (dropF op ws)) := by
  unfold dropF
  obtain ⟨i0, hi, hz0, hz1, hz2⟩ := w_info
  replace hs := Lib.hid hs
  replace hn := Lib.hid hn
  replace hi := Lib.hid hi
  replace hz0 := Lib.hid hz0
  replace hz1 := Lib.hid hz1
  replace hz2 := Lib.hid hz2
  go_enter Try.func35, Try.ntmps35
  go_wp2_with fail
  go_loopw [5, 6] (fun v i wr => ∃ j : Nat, j ≤ n ∧ i = .int .i64 (j : Int) ∧ Out WAt 19 31 w.heap.size wr v ((ws.take j).filter fun x => !(x.op == op)) ∧ Below w.heap.size w wr) (fun _ i _ => n - (intOf i).toNat)
  case atStart => exact ⟨0, Nat.zero_le _, rfl, Out.nil _ _ _ _ _, Below.refl _ _⟩
  case round =>
    obtain ⟨j, hj, rfl, ho, hbr⟩ := hrel
    by_cases hlt : j < n
    · obtain ⟨x, hx⟩ : ∃ x, ws[j]? = some x := ⟨_, List.getElem?_eq_getElem (by rw [hn.out]; exact hlt)⟩
      obtain ⟨g, off, cs, rfl, hg, hcl, hct, hcr⟩ := hs.out.get j x hx
      have hcr' : wr.rangeAt g (off + j * 19) cs := range_keep hcr (hbr.block _ hg)
      have hct' := hct.below hbr
      have hstep : ((ws.take (j + 1)).filter fun x => !(x.op == op)) = ((ws.take j).filter fun x => !(x.op == op)) ++ (if (x.op == op) then [] else [x]) := by
        rw [List.take_add_one, hx, Option.toList_some, List.filter_append]
        cases hpx : (x.op == op) <;> simp [hpx]
      have hlen : ((ws.take j).filter fun x => !(x.op == op)).length ≤ n := Nat.le_trans (List.length_filter_le _ _) (by rw [List.length_take]; omega)
      have hsz0 : w.heap.size ≤ wr.heap.size := hbr.size
      have q0 : wr.cell? ⟨g, off + j * 19, none⟩ = some (.int .i64 x.op) := by have := hcr' 0 _ hct.cells.1; simpa using this
      have J := Lib.hid (rown x cs wr hct')
      have hbj : (0 : Int) ≤ (j : Int) := by omega
      have hbn : (j : Int) < (n : Int) := by omega
      replace hcr := Lib.hid hcr
      replace hct := Lib.hid hct
      replace hx := Lib.hid hx
      replace ho := Lib.hid ho
      replace hbr := Lib.hid hbr
      replace hcr' := Lib.hid hcr'
      replace hct' := Lib.hid hct'
      replace hcl := Lib.hid hcl
      cases hpx : (x.op == op) with
      | true =>
        rw [hpx] at hstep
        rw [if_pos rfl, List.append_nil] at hstep
        have hq : decide (x.op = op) = true := hpx
        have hq2 : (!decide (x.op = op)) = false := by rw [hq]; rfl
        replace hstep := Lib.hid hstep
        go_wp2_with fail
        go_roundw
        case rel => exact ⟨j + 1, by omega, by go_num, by rw [hstep.out]; exact ho.out, hbr.out⟩
        case measure => simp [intOf]; omega
      | false =>
        rw [hpx] at hstep
        rw [if_neg (by simp)] at hstep
        have hq : decide (x.op = op) = false := hpx
        have hq2 : (!decide (x.op = op)) = true := by rw [hq]; rfl
        replace hstep := Lib.hid hstep
        go_wp2_with (with_reducible refine wpList_load_mid rfl 31 (.tmp 23) rfl g (off + j * 19) rfl cs _ hcr'.out Try.underlying31 rfl (w_size hcl.out) ?_)
        refine J.out.mono ?_
        rintro e w4 ⟨cs', rfl, hv4, hb4⟩
        have hcl4 := Lib.hid hv4.len
        have hfold : List.foldl (fun cs x => cs.setIfInBounds x.snd x.fst) Z19 cs'.zipIdx = cs'.toArray := foldl_cells hcl4.out
        unfold Z19 at hfold
        have hlo4 : cs'.length = 19 := hcl4.out
        have hW5 : Below w4.heap.size w4 (w4.alloc (.cells cs'.toArray 31)) := (Below.refl _ _).alloc (Nat.le_refl _) _
        have ho5 := (ho.out.below carried_w hb4).below carried_w hW5
        have hv5 : WAt (fun b => wr.heap.size ≤ b ∧ b < w4.heap.size) (w4.alloc (.cells cs'.toArray 31)) x cs' := hv4.change (fun b hb => hb) (fun b hb => hW5.block b hb.2)
        have hown : ∀ k, u5.ownBlock = some k → k < wr.heap.size := by obtain ⟨xs, o1, _⟩ := ho.out; exact fun k hk => (own_from o1 k hk).2
        have hr5 := range_new w4 cs' 31
        have h15 := hv5.one
        have hsz4 : wr.heap.size ≤ w4.heap.size := hb4.size
        have hb5 : Below w.heap.size w (w4.alloc (.cells cs'.toArray 31)) := hbr.out.trans ((hb4.trans (hW5.mono hb4.size)).mono (by omega))
        replace hv4 := Lib.hid hv4
        replace hb4 := Lib.hid hb4
        replace hW5 := Lib.hid hW5
        replace ho5 := Lib.hid ho5
        replace hv5 := Lib.hid hv5
        replace hr5 := Lib.hid hr5
        replace h15 := Lib.hid h15
        replace hown := Lib.hid hown
        replace hb5 := Lib.hid hb5
        go_wp2_with (at_builtin; refine wpList_push carried_w rfl (.tmp 20) (.tmp 26) 22 rfl w.heap.size 31 i0 _ 19 208 Try.underlying22 hi.out hz0.out hz1.out hz2.out rfl (by decide) u5 _ rfl ho5.out w4.heap.size 1 x cs' _ rfl hcl4.out hv5.out ?c1 hr5.out h15.out ?c2 ?c3 ?c4 ?_)
        case c1 => intro b hb; exact ⟨by omega, by simp; omega, fun e => by have := hown.out b e; omega⟩
        case c2 => unfold maxLen; omega
        case c3 => omega
        case c4 => simp; omega
        intro v' w6 ho6 _ hb6
        rw [← hstep.out] at ho6
        replace ho6 := Lib.hid ho6
        replace hb6 := Lib.hid hb6
        clear hfold hlo4
        go_wp2_with fail
        go_roundw
        case rel => exact ⟨j + 1, by omega, by go_num, ho6.out, hb5.out.trans hb6.out⟩
        case measure => simp [intOf]; omega
    · obtain rfl : j = n := by omega
      have hlj : ws.take j = ws := List.take_of_length_le (by rw [hn.out]; exact Nat.le_refl _)
      rw [hlj] at ho
      replace ho := Lib.hid ho
      replace hbr := Lib.hid hbr
      clear hlj
      go_wp2_with fail
      go_ret
      exact ⟨_, rfl, ho.out, hbr.out⟩
attribute [local go_sem ↓] Go.wp_at_zero Go.wp_at_succ
set_option maxHeartbeats 1600000 in
theorem radd (a : Option Addr) (n cap : Nat) (ws : List WT) (x : WT) (cs : List Value) (w : World) (hs : Sl 19 (WAt (Live w) w) (Live w) w a ws) (hn : ws.length = n) (hc : n ≤ cap) (h9 : n ≤ 900000) (hx : WAt (Live w) w x cs) :
    Calls Try.prog 34 #[.slice a n cap, .agg cs.toArray] w (ListP w (addF x ws)) := by
  have hb : Below w.heap.size w (w.alloc (.cells cs.toArray 31)) := (Below.refl _ _).alloc (Nat.le_refl _) _
  have hX := heap_alloc_new w (.cells cs.toArray 31)
  have hR := range_new w cs 31
  have hc0 : (w.alloc (.cells cs.toArray 31)).cell? ⟨w.heap.size, 0, none⟩ = some (.int .i64 x.op) := box_cell hX 0 _ (by have := hx.cells.1; simpa using this)
  have hl := hx.len
  have hdl : (dropF x.op ws).length ≤ n := Nat.le_trans (List.length_filter_le _ _) (by omega)
  have hD := fun w' (hb' : Below w.heap.size w w') => rdrop a n cap ws x.op w' (hs.change (fun b h => Nat.lt_of_lt_of_le h hb'.size) (fun b h => hb'.block b h) (fun t _ cs h => h.below hb')) hn hc (by omega)
  have hO := fun w' (hb' : Below w.heap.size w w') => rown x cs w' (hx.below hb')
  have hlo : cs.toArray.size = 19 := by simp [hl]
  replace hD := Lib.hid hD
  replace hO := Lib.hid hO
  replace hR := Lib.hid hR
  replace hc0 := Lib.hid hc0
  replace hb := Lib.hid hb
  clear hs hn hx hX
  go_enter Try.func34, Try.ntmps34
  go_wp2_with fail
  obtain ⟨i0, hi, hz0, hz1, hz2⟩ := w_info
  have hS0 : AddS w cs x.op (w.alloc (.cells cs.toArray 31)).drew := ⟨hR.out, hc0.out, hb.out.drew⟩
  refine wp_region_held_drew (S := AddS w cs x.op) (by kernel_rfl) hS0 (fun hHeld => ?_)
  refine wpAnyH_take (i := 0) (v := ?_) rfl (by kernel_rfl) (by kernel_rfl) (by kernel_rfl) (fun _ _ _ h => h) (Or.inl ⟨by rfl, ?_⟩) (by assumption) ?_
  rotate_left
  · intro wS hSw; skip; go_simp; (try with_reducible rfl)
  simp only [Act.put, List.setIfInBounds_toArray, List.set_cons_zero, List.set_cons_succ]
  refine wpAnyH_take (i := 1) (v := ?_) rfl (by kernel_rfl) (by kernel_rfl) (by kernel_rfl) (fun _ _ _ h => h) (Or.inl ⟨by rfl, ?_⟩) (by assumption) ?_
  rotate_left
  · intro wS hSw; skip; go_simp; (try with_reducible rfl)
  simp only [Act.put, List.setIfInBounds_toArray, List.set_cons_zero, List.set_cons_succ]
  refine wpAnyH_take (i := 2) (v := ?_) rfl (by kernel_rfl) (by kernel_rfl) (by kernel_rfl) (fun _ _ _ h => h) (Or.inl ⟨by rfl, ?_⟩) (by assumption) ?_
  rotate_left
  · intro wS hSw; obtain ⟨_, hq, _⟩ := hSw; go_simp; (try with_reducible rfl)
  simp only [Act.put, List.setIfInBounds_toArray, List.set_cons_zero, List.set_cons_succ]
  refine wpAnyH_take (i := 4) rfl (by kernel_rfl) (by kernel_rfl) (by kernel_rfl) (fun _ _ _ h => h) (yieldsIf_load_mid (by rfl) 31 (.tmp 3) rfl w.heap.size 0 rfl cs _ (fun w' h => h.1) Try.underlying31 rfl (w_size hl)) (by assumption) ?_
  simp only [Act.put, List.setIfInBounds_toArray, List.set_cons_zero, List.set_cons_succ]
  refine wpAnyH_ready (rs := [3]) (by kernel_rfl) (by simp) ?_
  refine AllReadyH.cons rfl (fun K hK => ?_) AllReadyH.nil
  go_simp
  refine (hD.out _ hHeld.2.2).mono ?_
  rintro e w1 ⟨v, rfl, ho1, hb1⟩
  have hSz1 : w.heap.size ≤ (w.alloc (.cells cs.toArray 31)).drew.heap.size := by simp
  go_wp2_with fail
  refine hK.out _ _ (hHeld.below hb1) (fun hHeld => ?_)
  clear hK K
  (try simp only [Act.put, List.setIfInBounds_toArray, List.set_cons_zero, List.set_cons_succ])
  refine wpAnyH_ready (rs := [5]) (by kernel_rfl) (by simp) ?_
  refine AllReadyH.cons rfl (fun K hK => ?_) AllReadyH.nil
  go_simp
  refine (hO.out _ hHeld.2.2).mono ?_
  rintro e w2 ⟨cs2, rfl, hv2, hb2⟩
  go_wp2_with fail
  refine hK.out _ _ (hHeld.below hb2) (fun hHeld => ?_)
  clear hK K
  (try simp only [Act.put, List.setIfInBounds_toArray, List.set_cons_zero, List.set_cons_succ])
  have hfold : List.foldl (fun cs x => cs.setIfInBounds x.snd x.fst) Z19 cs2.zipIdx = cs2.toArray := foldl_cells hv2.len
  unfold Z19 at hfold
  have hlo2 : cs2.length = 19 := hv2.len
  have hW3 : Below w2.heap.size w2 (w2.alloc (.cells cs2.toArray 31)) := (Below.refl _ _).alloc (Nat.le_refl _) _
  replace hb1 := Lib.hid hb1
  replace hb2 := Lib.hid hb2
  replace hv2 := Lib.hid hv2
  replace ho1 := Lib.hid ho1
  refine wpAnyH_ready (rs := [6]) (by kernel_rfl) (by simp) ?_
  refine AllReadyH.cons rfl (fun K hK => ?_) AllReadyH.nil
  go_simp
  refine hK.out _ _ (hHeld.below hW3) (fun hHeld => ?_)
  clear hK K
  (try simp only [Act.put, List.setIfInBounds_toArray, List.set_cons_zero, List.set_cons_succ])
  refine wpAnyH_ready (rs := [7]) (by kernel_rfl) (by simp) ?_
  refine AllReadyH.cons rfl (fun K hK => ?_) AllReadyH.nil
  have hbb1 : Below (w.alloc (.cells cs.toArray 31)).drew.heap.size w1 (w2.alloc (.cells cs2.toArray 31)) := (hb2.out.mono hb1.out.size).trans (hW3.mono (Nat.le_trans hb1.out.size hb2.out.size))
  have hsz1 : w.heap.size + 1 ≤ w1.heap.size := by have := hb1.out.size; simpa using this
  have hsz2 : w1.heap.size ≤ w2.heap.size := hb2.out.size
  have hown : ∀ k, v.ownBlock = some k → k < w1.heap.size := by obtain ⟨xs, o1, _⟩ := ho1.out; exact fun k hk => (own_from o1 k hk).2
  refine step_push carried_w rfl (.tmp 8) (.tmp 11) 22 rfl (w.heap.size + 1) 31 i0 _ 19 208 Try.underlying22 hi hz0 hz1 hz2 rfl (by decide) v (dropF x.op ws) rfl ?_ w2.heap.size 1 x cs2 (fun b => w1.heap.size ≤ b ∧ b < w2.heap.size) rfl hlo2 ?_ ?_ (range_new w2 cs2 31) hv2.out.one ?_ ?_ ?_ ?_
  · have h := (ho1.out.below carried_w hb2.out).below carried_w hW3
    simpa using h
  · exact hv2.out.change (fun b hb => hb) (fun b hb => hW3.block b hb.2)
  · intro b hb'
    exact ⟨by omega, by simp; omega, fun e => by have := hown b e; omega⟩
  · unfold maxLen; omega
  · omega
  · simp; omega
  intro v' w4 ho4 _ hb4
  change K (Act.put _ (some 12) v') w4
  have hS4 : AddS w cs x.op w4 := by
    obtain ⟨s1, s2, s3⟩ := hHeld
    exact ⟨range_keep s1 (hb4.block _ (by omega)), by rw [World.cell?_of_block (a := ⟨w.heap.size, 0, none⟩) (hb4.block _ (by show w.heap.size < _; omega))]; exact s2, s3.trans (hb4.mono (by omega))⟩
  replace ho4 := Lib.hid ho4
  clear hfold hlo2
  refine hK.out _ _ (hS4) (fun hHeld => ?_)
  clear hK K
  (try simp only [Act.put, List.setIfInBounds_toArray, List.set_cons_zero, List.set_cons_succ])
  refine wpAnyH_take (i := 8) (v := ?_) rfl (by kernel_rfl) (by kernel_rfl) (by kernel_rfl) (fun _ _ _ h => h) (Or.inl ⟨by rfl, ?_⟩) (by assumption) ?_
  rotate_left
  · intro wS hSw; skip; go_simp; (try with_reducible rfl)
  change wpAnyH _ _ _ _ _ _ _ (Act.put _ (some 4) _) _
  simp only [Act.put, List.setIfInBounds_toArray, List.set_cons_zero, List.set_cons_succ]
  refine wpAnyH_done (by kernel_rfl) ?_ _
  replace hHeld := Lib.hid hHeld
  clear hb1 hb2 hv2 ho1 hW3 hb4 hS4 hbb1 hown hi hz0 hz1 hz2
  go_wp2_with fail
  go_ret
  exact ⟨v', rfl, ho4.out.mono carried_w (Nat.le_succ _), hHeld.out.2.2⟩
end Go.Proofs.Ytncmjkaclfcbmaa
