/- The walk of WaitsFound. -/
import Derived.Test.YtncmjkaclfcbmaaHanded
import Derived.Test.YtncmjkaclfcbmaaSameW
set_option linter.unusedVariables false
namespace Go.Proofs.Ytncmjkaclfcbmaa
open Go.RowKit

theorem find_add (x : WT) (ws : List WT) : findF x.op (addF x ws) = some x := by
  unfold findF addF dropF
  rw [List.find?_append, List.find?_eq_none.2]
  · simp
  · intro y hy
    have := (List.mem_filter.1 hy).2
    simpa using this
theorem find_drop (op : Int) (ws : List WT) : findF op (dropF op ws) = none := by
  unfold findF dropF
  refine List.find?_eq_none.2 fun y hy => ?_
  have := (List.mem_filter.1 hy).2
  simpa using this
theorem one_sl {w : World} {x : WT} {cs : List Value} (h : WAt (Live w) w x cs) (w' : World) (g : Nat) (hg : g < w'.heap.size) (hr : w'.rangeAt g 0 cs) (hb : Below w.heap.size w w') : Sl 19 (WAt (Live w') w') (Live w') w' (some ⟨g, 0, none⟩) [x] :=
  ⟨cs, Els.one h.len (h.below hb), fun _ => ⟨g, 0, rfl, hg, hr⟩⟩
set_option maxHeartbeats 3200000 in
theorem found_walk (a : Option Addr) (n cap : Nat) (ws : List WT) (x : WT) (cs : List Value) (op : Int) (w : World) (h1 : IsWaits w a n cap ws) (hx : WAt (Live w) w x cs) :
    Calls Try.prog 4 #[.slice a n cap, .agg cs.toArray, .int .i64 op] w fun e w' => e = .returned (.bool true) ∧ Below w.heap.size w w' := by
  obtain ⟨m, hm⟩ : ∃ m, m = min n 40 := ⟨_, rfl⟩
  have hm40 : m ≤ 40 ∧ m ≤ n := by omega
  have h1' := h1.take m hm40.2
  have hnc := h1.2.2.1
  have hcm := h1.2.2.2.1
  have hcl := hx.len
  have hlo : cs.toArray.size = 19 := by simp [hcl]
  have hX := Lib.hid (heap_alloc_new w (.cells cs.toArray 31))
  have hb0 := Lib.hid ((Below.refl w.heap.size w).alloc (Nat.le_refl _) (.cells cs.toArray 31))
  have hc0 : (w.alloc (.cells cs.toArray 31)).cell? ⟨w.heap.size, 0, none⟩ = some (.int .i64 x.op) := box_cell hX.out 0 _ (by have := hx.cells.1; simpa using this)
  have hsz0 : (w.alloc (.cells cs.toArray 31)).heap.size = w.heap.size + 1 := by simp
  replace hm := Lib.hid hm
  replace h1' := Lib.hid h1'
  replace hx := Lib.hid hx
  replace hcl := Lib.hid hcl
  replace hc0 := Lib.hid hc0
  replace hsz0 := Lib.hid hsz0
  clear h1
  go_enter Try.func4, Try.ntmps4
  go_upto_region 1 with (fail)
  generalize w.alloc (.cells cs.toArray 31) = W at *
  go_cut [0] (fun s0 wx => s0 = .slice a m cap ∧ wx = W)
  case first =>
    by_cases h40 : n ≤ 40
    · have e1 : m = n := by have := hm.out; omega
      replace e1 := Lib.hid e1
      go_wp2_with fail
      go_meet
      exact ⟨by rw [e1.out], rfl⟩
    · have e1 : m = 40 := by have := hm.out; omega
      replace e1 := Lib.hid e1
      have g1 : (40 : Int) ≤ (cap : Int) := by omega
      go_wp2_with fail
      go_meet
      exact ⟨by rw [e1.out], rfl⟩
  case rest =>
    obtain ⟨rfl, rfl⟩ := hcut
    have h1w := h1'.out.below hb0.out
    obtain ⟨hwl, hws, hmc, _, _⟩ := h1w
    have A := Lib.hid (add a m cap (ws.take m) x cs wc hws hwl hmc (by omega) (hx.out.below hb0.out))
    have hal : (addF x (ws.take m)).length ≤ 41 := by
      unfold addF dropF
      rw [List.length_append]
      have := List.length_filter_le (fun y : WT => !(y.op == x.op)) (ws.take m)
      simp; omega
    clear hwl hws
    go_wp2_with (with_reducible refine wpList_load_row rfl 31 (.tmp 4) rfl w.heap.size rfl 31 cs.toArray (0, 0) _ hX.out Try.underlying31 rfl (w_size' hcl.out) ?_)
    refine A.out.mono ?_
    rintro e w2 ⟨v, rfl, hout, hb2⟩
    obtain ⟨ax, cx, rfl, hxs⟩ := hout.waits
    have hX2 : w2.heap[w.heap.size]? = some (.cells cs.toArray 31 (0, 0)) := by rw [hb2.block _ (by rw [hsz0.out]; omega)]; exact hX.out
    have q0 : w2.cell? ⟨w.heap.size, 0, none⟩ = some (.int .i64 x.op) := box_cell hX2 0 _ (by have := hx.out.cells.1; simpa using this)
    have F := find ax _ cx (addF x (ws.take m)) x.op w2 hxs.2.1 rfl hxs.2.2.1 (by omega)
    have fe := find_add x (ws.take m)
    obtain ⟨l, hl⟩ : ∃ l, l = addF x (ws.take m) := ⟨_, rfl⟩
    rw [← hl] at F fe hxs hal ⊢
    obtain ⟨k, hk⟩ : ∃ k, k = l.length := ⟨_, rfl⟩
    rw [← hk] at F hxs hal ⊢
    replace F := Lib.hid F
    replace hl := Lib.hid hl
    replace hk := Lib.hid hk
    replace fe := Lib.hid fe
    replace hxs := Lib.hid hxs
    replace hX2 := Lib.hid hX2
    have hb2w := Lib.hid (hb0.out.trans (hb2.mono (by rw [hsz0.out]; omega)))
    have hsz2 : w.heap.size + 1 ≤ w2.heap.size := by have := hb2.size; rw [hsz0.out] at this; exact this
    clear A hb2 hout
    go_wp2_with fail
    refine F.out.mono ?_
    rintro e w4 ⟨cs4, rfl, hv4, hb4⟩
    rw [fe.out] at hv4 ⊢
    simp only [Option.getD_some, Option.isSome_some] at hv4 ⊢
    have hcl4 := Lib.hid hv4.len
    have hone4 := Lib.hid (all_one hv4.one)
    have hlo4 : cs4.toArray.size = 19 := by simp [hcl4.out]
    have hlo4' : cs4.length = 19 := hcl4.out
    have hlo' : cs.length = 19 := hcl.out
    have hz4 := Lib.hid (heap_alloc_new w4 (.cells Z19 31))
    unfold Z19 at hz4
    have hn4 := Lib.hid (heap_alloc_new w4 (.cells cs4.toArray 31))
    have hfold : List.foldl (fun cs x => cs.setIfInBounds x.snd x.fst) Z19 cs4.zipIdx = cs4.toArray := foldl_cells hcl4.out
    have hfold2 : List.foldl (fun cs x => cs.setIfInBounds x.snd x.fst) Z19 cs.zipIdx = cs.toArray := foldl_cells hcl.out
    unfold Z19 at hfold hfold2
    have b1 : Below w4.heap.size w4 (w4.alloc (.cells cs4.toArray 31)) := (Below.refl _ _).alloc (Nat.le_refl _) _
    have b2 : Below w4.heap.size w4 ((w4.alloc (.cells cs4.toArray 31)).alloc (.cells cs4.toArray 31)) := b1.alloc (by simp) _
    have b3 : Below w4.heap.size w4 (((w4.alloc (.cells cs4.toArray 31)).alloc (.cells cs4.toArray 31)).alloc (.cells cs.toArray 31)) := b2.alloc (by simp; omega) _
    have hX4 : ((w4.alloc (.cells cs4.toArray 31)).alloc (.cells cs4.toArray 31)).heap[w.heap.size]? = some (.cells cs.toArray 31 (0, 0)) := by
      rw [b2.block _ (by have := hb4.size; omega), hb4.block _ (by omega)]; exact hX2.out
    have s1 := one_sl (hv4.change (fun q hq => hq.2) (fun _ _ => rfl)) _ (w4.heap.size + 1) (by simp <;> omega) (fun j u hu => by
      rw [World.cell?_alloc_past _ _ _ (by simp)]
      have h := range_new (w4.alloc (.cells cs4.toArray 31)) cs4 31 j u hu
      rw [show (w4.alloc (.cells cs4.toArray 31)).heap.size = w4.heap.size + 1 by simp] at h
      exact h) b3
    have s2 := one_sl ((hx.out.below hb2w.out).below hb4) _ (w4.heap.size + 2) (by simp <;> omega) (fun j u hu => by
      have h := range_new ((w4.alloc (.cells cs4.toArray 31)).alloc (.cells cs4.toArray 31)) cs 31 j u hu
      rw [show ((w4.alloc (.cells cs4.toArray 31)).alloc (.cells cs4.toArray 31)).heap.size = w4.heap.size + 2 by simp] at h
      exact h) b3
    have SM := Lib.hid (same30 _ _ 1 1 1 [x] _ s1 s2 rfl (by decide))
    have hbE := Lib.hid ((hb2w.out.trans (hb4.mono (by omega))).trans (b3.mono (by have := hb4.size; omega)))
    have hxs4 := Lib.hid ((hxs.out.below hb4).below b3)
    replace hX4 := Lib.hid hX4
    clear s1 s2 b1 b2 b3 hv4 hb4 q0 F
    go_wp2_with (first | (with_reducible refine wpList_store_row rfl 31 (.tmp 8) (.tmp 25) rfl w4.heap.size cs4.toArray rfl rfl 31 _ hz4.out (w_size' hcl4.out) (by simp [hcl4.out]) hone4.out ?_; rw [alloc_setRow]) | (with_reducible refine wpList_load_want (by kernel_rfl) 31 (.tmp 8) rfl w4.heap.size rfl 31 cs4.toArray (0, 0) _ hn4.out Try.underlying31 rfl (w_size' hcl4.out) ?_) | (with_reducible refine wpList_load_want (by kernel_rfl) 31 (.tmp 4) rfl w.heap.size rfl 31 cs.toArray (0, 0) _ hX4.out Try.underlying31 rfl (w_size' hcl.out) ?_))
    refine SM.out.mono ?_
    rintro e w5 ⟨rfl, hb5⟩
    have hxs5 := hxs4.out.below hb5
    have hbF := Lib.hid (hbE.out.trans (hb5.mono hbE.out.size))
    have D := Lib.hid (drop ax k cx l op w5 hxs5.2.1 hk.out.symm hxs5.2.2.1 (by omega))
    clear hxs5 hb5 SM hfold hfold2 hlo4' hlo' hz4 hn4 hX4
    go_wp2_with fail
    refine D.out.mono ?_
    rintro e w6 ⟨v6, rfl, hout6, hb6⟩
    obtain ⟨a6, c6, rfl, hx6⟩ := hout6.waits
    have hl6 : (dropF op l).length ≤ 41 := Nat.le_trans (List.length_filter_le _ _) (by rw [← hk.out]; exact hal)
    have F6 := find a6 _ c6 (dropF op l) op w6 hx6.2.1 rfl hx6.2.2.1 (by omega)
    have fe6 := find_drop op l
    have hbG := Lib.hid (hbF.out.trans (hb6.mono hbF.out.size))
    generalize dropF op l = l6 at *
    replace F6 := Lib.hid F6
    replace fe6 := Lib.hid fe6
    clear D hb6 hout6 hx6
    go_wp2_with fail
    refine F6.out.mono ?_
    rintro e w7 ⟨cs7, rfl, hv7, hb7⟩
    rw [fe6.out] at hv7 ⊢
    simp only [Option.getD_none, Option.isSome_none] at hv7 ⊢
    have hcl7 := Lib.hid hv7.len
    have hone7 := Lib.hid (all_one hv7.one)
    have hlo7 : cs7.toArray.size = 19 := by simp [hcl7.out]
    have hz7 := Lib.hid (heap_alloc_new w7 (.cells Z19 31))
    unfold Z19 at hz7
    have hbH := Lib.hid ((hbG.out.trans (hb7.mono hbG.out.size)).alloc (Nat.le_trans hbG.out.size hb7.size) (.cells cs7.toArray 31))
    have AW := Lib.hid (awake (w7.alloc (.cells cs7.toArray 31)))
    clear hv7 hb7 F6
    go_wp2_with (first | (with_reducible refine wpList_store_row rfl 31 (.tmp 10) (.tmp 43) rfl w7.heap.size cs7.toArray rfl rfl 31 _ hz7.out (w_size' hcl7.out) (by simp [hcl7.out]) hone7.out ?_; rw [alloc_setRow]))
    refine AW.out.mono ?_
    rintro e w8 ⟨rfl, hb8⟩
    have hbI := Lib.hid (hbH.out.trans (hb8.mono hbH.out.size))
    clear hb8
    go_wp2_with fail
    go_ret
    exact ⟨rfl, hbI.out⟩
end Go.Proofs.Ytncmjkaclfcbmaa
