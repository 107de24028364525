/- waits.Drop, Add, Find, Hand. -/
import Derived.Test.YtncmjkaclfcbmaaClos
import Derived.Deep.RegionHeld3
import Derived.Deep.DrawnRows
set_option linter.unusedVariables false
set_option linter.unusedSimpArgs false
namespace Go.Proofs.Ytncmjkaclfcbmaa
open Go.RowKit

def dropF (op : Int) (ws : List WT) : List WT := ws.filter fun x => !(x.op == op)
theorem drop (a : Option Addr) (n cap : Nat) (ws : List WT) (op : Int) (w : World) (hs : Sl 19 (WAt (Live w) w) (Live w) w a ws) (hn : ws.length = n) (hc : n ≤ cap) (h9 : n ≤ 1000000) :
    Calls Try.prog 12 #[.slice a n cap, .int .i64 op] w (ListP w (dropF op ws)) := by
  have hb : Below w.heap.size w (w.alloc (.cells #[.int .i64 op] 3)) := (Below.refl _ _).alloc (Nat.le_refl _) _
  have hsr : Sl 19 (WAt (Live (w.alloc (.cells #[.int .i64 op] 3))) (w.alloc (.cells #[.int .i64 op] 3))) (Live (w.alloc (.cells #[.int .i64 op] 3))) (w.alloc (.cells #[.int .i64 op] 3)) a ws := hs.change (fun b hb' => Nat.lt_of_lt_of_le hb' hb.size) (fun b hb' => hb.block b hb') (fun t _ cs h => h.below hb)
  have K := kept 31 #[.pointer (some ⟨w.heap.size, 0, none⟩)] _ _ (enters (fn := Try.f31) (by kernel_rfl) (by kernel_rfl) rfl) (asks_drop w.heap.size op _ (heap_alloc_new w _)) a n cap ws hsr hn hc h9
  replace K := Lib.hid K
  replace hb := Lib.hid hb
  clear hs hsr hn
  go_enter Try.func12, Try.ntmps12
  go_wp2_with fail
  refine K.out.mono ?_
  rintro e w2 ⟨v, rfl, hout, hb2⟩
  replace hout := Lib.hid hout
  replace hb2 := Lib.hid hb2
  go_wp2_with fail
  go_ret
  exact ⟨v, rfl, hout.out.mono carried_w (by simp), hb.out.trans (hb2.out.mono (by simp))⟩
def AddS (w : World) (cs : List Value) (op : Int) (w' : World) : Prop := w'.rangeAt w.heap.size 0 cs ∧ w'.cell? ⟨w.heap.size, 0, none⟩ = some (.int .i64 op) ∧ Below w.heap.size w w'
theorem AddS.below {w w' w'' : World} {cs : List Value} {op : Int} (h : AddS w cs op w') (hb : Below w'.heap.size w' w'') : AddS w cs op w'' := by
  obtain ⟨h1, h2, h3⟩ := h
  have hl := block_lt_of_cell h2
  exact ⟨range_keep h1 (hb.block _ hl), by rw [World.cell?_of_block (a := ⟨w.heap.size, 0, none⟩) (hb.block _ hl)]; exact h2, h3.trans (hb.mono h3.size)⟩
def addF (x : WT) (ws : List WT) : List WT := dropF x.op ws ++ [x]
attribute [local go_sem ↓] Go.wp_at_zero Go.wp_at_succ
set_option maxHeartbeats 1600000 in
theorem add (a : Option Addr) (n cap : Nat) (ws : List WT) (x : WT) (cs : List Value) (w : World) (hs : Sl 19 (WAt (Live w) w) (Live w) w a ws) (hn : ws.length = n) (hc : n ≤ cap) (h9 : n ≤ 900000) (hx : WAt (Live w) w x cs) :
    Calls Try.prog 9 #[.slice a n cap, .agg cs.toArray] w (ListP w (addF x ws)) := by
  have hb : Below w.heap.size w (w.alloc (.cells cs.toArray 31)) := (Below.refl _ _).alloc (Nat.le_refl _) _
  have hX := heap_alloc_new w (.cells cs.toArray 31)
  have hR := range_new w cs 31
  have hc0 : (w.alloc (.cells cs.toArray 31)).cell? ⟨w.heap.size, 0, none⟩ = some (.int .i64 x.op) := box_cell hX 0 _ (by have := hx.cells.1; simpa using this)
  have hl := hx.len
  have hdl : (dropF x.op ws).length ≤ n := Nat.le_trans (List.length_filter_le _ _) (by omega)
  have hD := fun w' (hb' : Below w.heap.size w w') => drop a n cap ws x.op w' (hs.change (fun b h => Nat.lt_of_lt_of_le h hb'.size) (fun b h => hb'.block b h) (fun t _ cs h => h.below hb')) hn hc (by omega)
  have hO := fun w' (hb' : Below w.heap.size w w') => own x cs w' (hx.below hb')
  have hlo : cs.toArray.size = 19 := by simp [hl]
  replace hD := Lib.hid hD
  replace hO := Lib.hid hO
  replace hR := Lib.hid hR
  replace hc0 := Lib.hid hc0
  replace hb := Lib.hid hb
  clear hs hn hx hX
  go_enter Try.func9, Try.ntmps9
  go_wp2_with fail
  obtain ⟨i0, hi, hz0, hz1, hz2⟩ := w_info
  have hS0 : AddS w cs x.op (w.alloc (.cells cs.toArray 31)).drew := ⟨hR.out, hc0.out, hb.out.drew⟩
  refine wp_region_held_drew (S := AddS w cs x.op) (by kernel_rfl) hS0 (fun hHeld => ?_)
  refine wpAnyH_take (i := 0) (v := ?_) rfl (by kernel_rfl) (by kernel_rfl) (by kernel_rfl) (fun _ _ _ h => h) (Or.inl ⟨by rfl, ?_⟩) (by assumption) ?_
  rotate_left
  · intro wS hSw; skip; go_simp; (try with_reducible rfl)
  simp only [Act.put, List.setIfInBounds_toArray, List.set_cons_zero, List.set_cons_succ]
  refine wpAnyH_take (i := 1) (v := ?_) rfl (by kernel_rfl) (by kernel_rfl) (by kernel_rfl) (fun _ _ _ h => h) (Or.inl ⟨by rfl, ?_⟩) (by assumption) ?_
  rotate_left
  · intro wS hSw; skip; go_simp; (try with_reducible rfl)
  simp only [Act.put, List.setIfInBounds_toArray, List.set_cons_zero, List.set_cons_succ]
  refine wpAnyH_take (i := 2) (v := ?_) rfl (by kernel_rfl) (by kernel_rfl) (by kernel_rfl) (fun _ _ _ h => h) (Or.inl ⟨by rfl, ?_⟩) (by assumption) ?_
  rotate_left
  · intro wS hSw; obtain ⟨_, hq, _⟩ := hSw; go_simp; (try with_reducible rfl)
  simp only [Act.put, List.setIfInBounds_toArray, List.set_cons_zero, List.set_cons_succ]
  refine wpAnyH_take (i := 4) rfl (by kernel_rfl) (by kernel_rfl) (by kernel_rfl) (fun _ _ _ h => h) (yieldsIf_load_mid (by rfl) 31 (.tmp 3) rfl w.heap.size 0 rfl cs _ (fun w' h => h.1) Try.underlying31 rfl (w_size hl)) (by assumption) ?_
  simp only [Act.put, List.setIfInBounds_toArray, List.set_cons_zero, List.set_cons_succ]
  refine wpAnyH_ready (rs := [3]) (by kernel_rfl) (by simp) ?_
  refine AllReadyH.cons rfl (fun K hK => ?_) AllReadyH.nil
  go_simp
  refine (hD.out _ hHeld.2.2).mono ?_
  rintro e w1 ⟨v, rfl, ho1, hb1⟩
  have hSz1 : w.heap.size ≤ (w.alloc (.cells cs.toArray 31)).drew.heap.size := by simp
  go_wp2_with fail
  refine hK.out _ _ (hHeld.below hb1) (fun hHeld => ?_)
  clear hK K
  (try simp only [Act.put, List.setIfInBounds_toArray, List.set_cons_zero, List.set_cons_succ])
  refine wpAnyH_ready (rs := [5]) (by kernel_rfl) (by simp) ?_
  refine AllReadyH.cons rfl (fun K hK => ?_) AllReadyH.nil
  go_simp
  refine (hO.out _ hHeld.2.2).mono ?_
  rintro e w2 ⟨cs2, rfl, hv2, hb2⟩
  go_wp2_with fail
  refine hK.out _ _ (hHeld.below hb2) (fun hHeld => ?_)
  clear hK K
  (try simp only [Act.put, List.setIfInBounds_toArray, List.set_cons_zero, List.set_cons_succ])
  have hfold : List.foldl (fun cs x => cs.setIfInBounds x.snd x.fst) Z19 cs2.zipIdx = cs2.toArray := foldl_cells hv2.len
  unfold Z19 at hfold
  have hlo2 : cs2.length = 19 := hv2.len
  have hW3 : Below w2.heap.size w2 (w2.alloc (.cells cs2.toArray 31)) := (Below.refl _ _).alloc (Nat.le_refl _) _
  replace hb1 := Lib.hid hb1
  replace hb2 := Lib.hid hb2
  replace hv2 := Lib.hid hv2
  replace ho1 := Lib.hid ho1
  refine wpAnyH_ready (rs := [6]) (by kernel_rfl) (by simp) ?_
  refine AllReadyH.cons rfl (fun K hK => ?_) AllReadyH.nil
  go_simp
  refine hK.out _ _ (hHeld.below hW3) (fun hHeld => ?_)
  clear hK K
  (try simp only [Act.put, List.setIfInBounds_toArray, List.set_cons_zero, List.set_cons_succ])
  refine wpAnyH_ready (rs := [7]) (by kernel_rfl) (by simp) ?_
  refine AllReadyH.cons rfl (fun K hK => ?_) AllReadyH.nil
  have hbb1 : Below (w.alloc (.cells cs.toArray 31)).drew.heap.size w1 (w2.alloc (.cells cs2.toArray 31)) := (hb2.out.mono hb1.out.size).trans (hW3.mono (Nat.le_trans hb1.out.size hb2.out.size))
  have hsz1 : w.heap.size + 1 ≤ w1.heap.size := by have := hb1.out.size; simpa using this
  have hsz2 : w1.heap.size ≤ w2.heap.size := hb2.out.size
  have hown : ∀ k, v.ownBlock = some k → k < w1.heap.size := by obtain ⟨xs, o1, _⟩ := ho1.out; exact fun k hk => (own_from o1 k hk).2
  refine step_push carried_w rfl (.tmp 8) (.tmp 11) 22 rfl (w.heap.size + 1) 31 i0 _ 19 208 Try.underlying22 hi hz0 hz1 hz2 rfl (by decide) v (dropF x.op ws) rfl ?_ w2.heap.size 1 x cs2 (fun b => w1.heap.size ≤ b ∧ b < w2.heap.size) rfl hlo2 ?_ ?_ (range_new w2 cs2 31) hv2.out.one ?_ ?_ ?_ ?_
  · have h := (ho1.out.below carried_w hb2.out).below carried_w hW3
    simpa using h
  · exact hv2.out.change (fun b hb => hb) (fun b hb => hW3.block b hb.2)
  · intro b hb'
    exact ⟨by omega, by simp; omega, fun e => by have := hown b e; omega⟩
  · unfold maxLen; omega
  · omega
  · simp; omega
  intro v' w4 ho4 _ hb4
  change K (Act.put _ (some 12) v') w4
  have hS4 : AddS w cs x.op w4 := by
    obtain ⟨s1, s2, s3⟩ := hHeld
    exact ⟨range_keep s1 (hb4.block _ (by omega)), by rw [World.cell?_of_block (a := ⟨w.heap.size, 0, none⟩) (hb4.block _ (by show w.heap.size < _; omega))]; exact s2, s3.trans (hb4.mono (by omega))⟩
  replace ho4 := Lib.hid ho4
  clear hfold hlo2
  refine hK.out _ _ (hS4) (fun hHeld => ?_)
  clear hK K
  (try simp only [Act.put, List.setIfInBounds_toArray, List.set_cons_zero, List.set_cons_succ])
  refine wpAnyH_take (i := 8) (v := ?_) rfl (by kernel_rfl) (by kernel_rfl) (by kernel_rfl) (fun _ _ _ h => h) (Or.inl ⟨by rfl, ?_⟩) (by assumption) ?_
  rotate_left
  · intro wS hSw; skip; go_simp; (try with_reducible rfl)
  change wpAnyH _ _ _ _ _ _ _ (Act.put _ (some 4) _) _
  simp only [Act.put, List.setIfInBounds_toArray, List.set_cons_zero, List.set_cons_succ]
  refine wpAnyH_done (by kernel_rfl) ?_ _
  replace hHeld := Lib.hid hHeld
  clear hb1 hb2 hv2 ho1 hW3 hb4 hS4 hbb1 hown hi hz0 hz1 hz2
  go_wp2_with fail
  go_ret
  exact ⟨v', rfl, ho4.out.mono carried_w (Nat.le_succ _), hHeld.out.2.2⟩
end Go.Proofs.Ytncmjkaclfcbmaa
