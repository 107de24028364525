/- The walks of Clone: value.Clone and usherref05.Clone. -/
import Derived.Test.YtncmjkaclfcbmaaPush
import Derived.Outline
set_option linter.unusedVariables false
namespace Go.Proofs.Ytncmjkaclfcbmaa
open Go.RowKit

def CloneP (w : World) (t : VT) (e : Ending) (w' : World) : Prop := ∃ cs', e = .returned (.agg cs'.toArray) ∧ VAt (Fresh w w') w' t cs' ∧ Below w.heap.size w w'
theorem v_info : ∃ i0 : TypeInfo, Try.prog.info? 29 = some i0 ∧ i0.zero = some (.agg #[.int .i64 0, .int .i64 0, .int .u64 0, .string ByteArray.empty, .slice none 0 0]) ∧ i0.size = 5 ∧ i0.bytes = 64 := by
  obtain ⟨i0, hi, hz0, hz1, hz2⟩ := info_parts (show (Try.prog.info? 29).map (fun i => (i.zero, i.size, i.bytes)) = some (some (.agg #[.int .i64 0, .int .i64 0, .int .u64 0, .string ByteArray.empty, .slice none 0 0]), 5, 64) by kernel_rfl)
  exact ⟨i0, hi, hz0, hz1, hz2⟩
theorem v_size {cs : List Value} (h : cs.length = 5) : (Try.prog.info? 29).map (·.size) = some cs.length := by
  obtain ⟨i0, hi, _, h1, _⟩ := v_info
  rw [hi, h]; simp [h1]
theorem v_size' {cs : List Value} (h : cs.length = 5) : (Try.prog.info? 29).map (·.size) = some cs.toArray.size := by
  rw [v_size h]; simp
def Z5 : Array Value := #[.int .i64 0, .int .i64 0, .int .u64 0, .string { data := #[] }, .slice none 0 0]
set_option maxHeartbeats 800000 in
theorem clone : ∀ (t : VT) (cs : List Value) (w : World), VAt (Live w) w t cs → Calls Try.prog 49 #[.agg cs.toArray] w (CloneP w t) := by
  intro t
  induction t using VT.ind with
  | h k n b s l ih =>
    intro cs w h
    obtain ⟨a, cap, rfl, hs, hc, hc2, h64⟩ := VAt_mk.1 h
    obtain ⟨i0, hi, hz0, hz1, hz2⟩ := v_info
    replace ih := Lib.hid ih
    replace hs := Lib.hid hs
    replace hi := Lib.hid hi
    replace hz0 := Lib.hid hz0
    replace hz1 := Lib.hid hz1
    replace hz2 := Lib.hid hz2
    clear h
    go_enter Try.func49, Try.ntmps49
    go_wp2_with fail
    have hX : ((w.alloc (.cells #[.int .i64 k, .int .i64 n, .int .u64 b, .string s, .slice a l.length cap] 29)).alloc (.cells Z5 29)).heap[w.heap.size]? = some (.cells #[.int .i64 k, .int .i64 n, .int .u64 b, .string s, .slice a l.length cap] 29 (0, 0)) := heap_alloc2_old _ _ _
    have hY : ((w.alloc (.cells #[.int .i64 k, .int .i64 n, .int .u64 b, .string s, .slice a l.length cap] 29)).alloc (.cells Z5 29)).heap[w.heap.size + 1]? = some (.cells Z5 29 (0, 0)) := heap_alloc2_new _ _ _
    have hsz : ((w.alloc (.cells #[.int .i64 k, .int .i64 n, .int .u64 b, .string s, .slice a l.length cap] 29)).alloc (.cells Z5 29)).heap.size = w.heap.size + 2 := by simp
    have hb0 : Below w.heap.size w ((w.alloc (.cells #[.int .i64 k, .int .i64 n, .int .u64 b, .string s, .slice a l.length cap] 29)).alloc (.cells Z5 29)) := ((Below.refl _ _).alloc (Nat.le_refl _) _).alloc (by simp) _
    unfold Z5 at hX hY hsz hb0
    generalize (w.alloc (.cells #[.int .i64 k, .int .i64 n, .int .u64 b, .string s, .slice a l.length cap] 29)).alloc (.cells #[.int .i64 0, .int .i64 0, .int .u64 0, .string { data := #[] }, .slice none 0 0] 29) = W at *
    obtain ⟨N, hN⟩ : ∃ N, N = l.length := ⟨_, rfl⟩
    rw [← hN] at hX hc h64 ⊢
    replace hN := Lib.hid hN
    replace hX := Lib.hid hX
    replace hY := Lib.hid hY
    replace hsz := Lib.hid hsz
    replace hb0 := Lib.hid hb0
    go_loopw [3, 9] (fun v i wr => ∃ j : Nat, j ≤ N ∧ i = .int .i64 (j : Int) ∧ Out VAt 5 29 (w.heap.size + 2) wr v (l.take j) ∧ Below (w.heap.size + 2) W wr) (fun _ i _ => N - (intOf i).toNat)
    case atStart => exact ⟨0, Nat.zero_le _, rfl, Out.nil _ _ _ _ _, Below.refl _ _⟩
    case round =>
      obtain ⟨j, hj, rfl, ho, hbr⟩ := hrel
      by_cases hlt : j < N
      · obtain ⟨t, ht⟩ : ∃ t, l[j]? = some t := ⟨_, List.getElem?_eq_getElem (by rw [← hN.out]; exact hlt)⟩
        have htm : t ∈ l := List.mem_of_getElem? ht
        obtain ⟨g, off, cs, rfl, hg, hcl, hct, hcr⟩ := hs.out.get j t ht
        have hbw : Below w.heap.size w wr := hb0.out.trans (hbr.mono (by omega))
        have hcr' : wr.rangeAt g (off + j * 5) cs := range_keep hcr (hbw.block _ hg)
        have hct' := hct.below hbw
        have hcl' := v_size hcl
        have hone := all_one hct.one
        have hstep : l.take (j + 1) = l.take j ++ [t] := by
          rw [List.take_add_one, ht]; rfl
        replace hcr := Lib.hid hcr
        replace hct := Lib.hid hct
        replace hstep := Lib.hid hstep
        replace ht := Lib.hid ht
        replace ho := Lib.hid ho
        replace hbr := Lib.hid hbr
        replace hbw := Lib.hid hbw
        replace hcr' := Lib.hid hcr'
        replace hct' := Lib.hid hct'
        replace hcl := Lib.hid hcl
        replace hcl' := Lib.hid hcl'
        replace hone := Lib.hid hone
        have hz := Lib.hid (heap_alloc_new wr (.cells Z5 29))
        unfold Z5 at hz
        have hw2 := Lib.hid (heap_alloc_new wr (.cells cs.toArray 29))
        have hbW2 : Below wr.heap.size wr (wr.alloc (.cells cs.toArray 29)) := (Below.refl _ _).alloc (Nat.le_refl _) _
        have I := Lib.hid (ih.out t htm cs _ (hct'.out.below hbW2))
        replace hbW2 := Lib.hid hbW2
        go_wp2_with (first | (with_reducible refine wpList_load_mid rfl 29 (.tmp 11) rfl g (off + j * 5) rfl cs _ hcr'.out Try.underlying29 rfl hcl'.out ?_) | (with_reducible refine wpList_store_row rfl 29 (.tmp 5) (.tmp 12) rfl wr.heap.size cs.toArray rfl rfl 29 _ hz.out (v_size' hcl.out) (by simp [hcl.out]) hone.out ?_; rw [alloc_setRow]) | (with_reducible refine wpList_load_row rfl 29 (.tmp 5) rfl wr.heap.size rfl 29 cs.toArray (0, 0) _ hw2.out Try.underlying29 rfl (v_size' hcl.out) ?_))
        refine I.out.mono ?_
        rintro e w3 ⟨cs', rfl, hv3, hb3⟩
        have hcl3 := Lib.hid hv3.len
        have hfold : List.foldl (fun cs x => cs.setIfInBounds x.snd x.fst) Z5 cs'.zipIdx = cs'.toArray := foldl_cells hcl3.out
        unfold Z5 at hfold
        have hL : (l.take j).length = j := by rw [List.length_take, ← hN.out]; omega
        replace hL := Lib.hid hL
        have hWW : Below wr.heap.size wr w3 := hbW2.out.trans (hb3.mono (by simp))
        have hW3 : Below w3.heap.size w3 (w3.alloc (.cells cs'.toArray 29)) := (Below.refl _ _).alloc (Nat.le_refl _) _
        have ho3 := (ho.out.below carried_v hWW).below carried_v hW3
        have hv4 : VAt (fun b => wr.heap.size ≤ b ∧ b < w3.heap.size) (w3.alloc (.cells cs'.toArray 29)) t cs' := VAt.change (fun b hb => ⟨by have := hb.1; simp at this; omega, hb.2⟩) (fun b hb => hW3.block b hb.2) _ _ hv3
        have hown : ∀ k, u3.ownBlock = some k → k < wr.heap.size := by obtain ⟨xs, o1, _⟩ := ho.out; exact fun k hk => (own_from o1 k hk).2
        have hsz0 : w.heap.size + 2 ≤ wr.heap.size := by have := hbr.out.size; have := hsz.out; omega
        have hr4 := range_new w3 cs' 29
        have h14 := hv4.one
        have hbW4 : Below (w.heap.size + 2) W (w3.alloc (.cells cs'.toArray 29)) := hbr.out.trans ((hWW.trans (hW3.mono hWW.size)).mono hsz0)
        have hsz4 : wr.heap.size ≤ w3.heap.size := hWW.size
        replace hv3 := Lib.hid hv3
        replace hb3 := Lib.hid hb3
        replace hWW := Lib.hid hWW
        replace hW3 := Lib.hid hW3
        replace ho3 := Lib.hid ho3
        replace hv4 := Lib.hid hv4
        replace hr4 := Lib.hid hr4
        replace h14 := Lib.hid h14
        replace hown := Lib.hid hown
        replace hbW4 := Lib.hid hbW4
        have hlo : cs'.length = 5 := hcl3.out
        go_wp2_with (at_builtin; refine wpList_push carried_v rfl (.tmp 13) (.tmp 16) 27 rfl (w.heap.size + 2) 29 i0 _ 5 64 Try.underlying27 hi.out hz0.out hz1.out hz2.out rfl (by decide) u3 (l.take j) rfl ho3.out w3.heap.size 1 t cs' _ rfl hcl3.out hv4.out ?c1 hr4.out h14.out ?c2 ?c3 ?c4 ?_)
        case c1 => intro b hb; exact ⟨by omega, by simp; omega, fun e => by have := hown.out b e; omega⟩
        case c2 => rw [hL.out]; unfold maxLen; omega
        case c3 => rw [hL.out]; omega
        case c4 => simp; omega
        intro v' w5 ho5 _ hb5
        rw [← hstep.out] at ho5
        replace ho5 := Lib.hid ho5
        replace hb5 := Lib.hid hb5
        clear hfold hlo
        go_wp2_with fail
        go_roundw
        case rel => exact ⟨j + 1, by omega, by go_num, ho5.out, hbW4.out.trans hb5.out⟩
        case measure => simp [intOf]; omega
      · obtain rfl : j = N := by omega
        obtain ⟨a', cap', rfl, hn', hle', hmx', hsl'⟩ := ho.sl carried_v
        have hlj : l.take j = l := List.take_of_length_le (by rw [← hN.out]; exact Nat.le_refl _)
        rw [hlj] at hsl' hle' ⊢
        rw [← hN.out] at hle' ⊢
        have hXr : wr.heap[w.heap.size]? = some (.cells #[.int .i64 k, .int .i64 n, .int .u64 b, .string s, .slice a j cap] 29 (0, 0)) := by rw [hbr.block _ (by omega)]; exact hX.out
        have hYr : wr.heap[w.heap.size + 1]? = some (.cells Z5 29 (0, 0)) := by rw [hbr.block _ (by omega)]; exact hY.out
        have c4 : wr.cell? ⟨w.heap.size, 4, none⟩ = some (.slice a j cap) := by rw [cell_of_row _ _ _ _ _ _ hXr]; rfl
        have f4 : wr.frozen? ⟨w.heap.size, 4, none⟩ = false := frozen_of_row _ _ _ _ _ hXr
        have hX2 : (wr.setCell ⟨w.heap.size, 4, none⟩ (.slice a' j cap')).heap[w.heap.size]? = some (.cells #[.int .i64 k, .int .i64 n, .int .u64 b, .string s, .slice a' j cap'] 29 (0, 0)) := by
          rw [heap_setCell_same _ _ _ _ _ _ hXr]; rfl
        have hY2 : (wr.setCell ⟨w.heap.size, 4, none⟩ (.slice a' j cap')).heap[w.heap.size + 1]? = some (.cells Z5 29 (0, 0)) := by
          rw [heap_setCell_other _ _ _ _ (by simp)]; exact hYr
        have hb2 : Below (w.heap.size) w (wr.setCell ⟨w.heap.size, 4, none⟩ (.slice a' j cap')) := (hb0.out.trans (hbr.mono (by omega))).setCell (Nat.le_refl _) _
        have hsl2 : Sl 5 (VAt (fun b => w.heap.size + 2 ≤ b ∧ b < wr.heap.size) (wr.setCell ⟨w.heap.size, 4, none⟩ (.slice a' j cap'))) (fun b => w.heap.size + 2 ≤ b ∧ b < wr.heap.size) (wr.setCell ⟨w.heap.size, 4, none⟩ (.slice a' j cap')) a' l :=
          hsl'.change (fun _ h => h) (fun b hb => heap_setCell_other _ _ _ _ (by show b ≠ w.heap.size; omega)) (fun t _ cs h => VAt.change (fun _ h => h) (fun b hb => heap_setCell_other _ _ _ _ (by show b ≠ w.heap.size; omega)) _ _ h)
        have hszr : (wr.setCell ⟨w.heap.size, 4, none⟩ (.slice a' j cap')).heap.size = wr.heap.size := by simp [World.setCell]
        replace hXr := Lib.hid hXr
        replace hYr := Lib.hid hYr
        replace hX2 := Lib.hid hX2
        replace hY2 := Lib.hid hY2
        replace hb2 := Lib.hid hb2
        replace hsl2 := Lib.hid hsl2
        replace hszr := Lib.hid hszr
        clear hsl' ho hbr hlj
        go_wp2_with (first | (with_reducible refine wpList_load_row rfl 29 (.tmp 1) rfl w.heap.size rfl 29 _ (0, 0) _ hX2.out Try.underlying29 rfl (by kernel_rfl) ?_) | (with_reducible refine wpList_store_row rfl 29 (.tmp 2) (.tmp 21) rfl (w.heap.size + 1) _ rfl rfl 29 _ hY2.out (by kernel_rfl) (by kernel_rfl) (by kernel_rfl) ?_))
        generalize wr.setCell ⟨w.heap.size, 4, none⟩ (.slice a' j cap') = U at *
        have hR : (U.setRow (w.heap.size + 1) #[.int .i64 k, .int .i64 n, .int .u64 b, .string s, .slice a' j cap']).heap[w.heap.size + 1]? = some (.cells #[.int .i64 k, .int .i64 n, .int .u64 b, .string s, .slice a' j cap'] 29 (0, 0)) := setRow_heap U (w.heap.size + 1) _ _ 29 (0, 0) hY2.out
        have hk : ∀ q : Nat, q ≠ w.heap.size + 1 → (U.setRow (w.heap.size + 1) #[.int .i64 k, .int .i64 n, .int .u64 b, .string s, .slice a' j cap']).heap[q]? = U.heap[q]? := fun q hq => setRow_other _ _ _ _ hq
        refine bodyPost_ret (v := .agg #[.int .i64 k, .int .i64 n, .int .u64 b, .string s, .slice a' j cap']) (results_cell_row (fn := Try.f49) (p := 2) (by kernel_rfl) _ _ (w.heap.size + 1) 29 _ (0, 0) _ rfl hR Try.underlying29 rfl (by kernel_rfl)) rfl ?_
        have hbE : Below w.heap.size w (U.setRow (w.heap.size + 1) #[.int .i64 k, .int .i64 n, .int .u64 b, .string s, .slice a' j cap']) := below_setRow hb2.out (by omega) _
        have hszE : (U.setRow (w.heap.size + 1) #[.int .i64 k, .int .i64 n, .int .u64 b, .string s, .slice a' j cap']).heap.size = wr.heap.size := by rw [size_setRow]; exact hszr.out
        refine ⟨[.int .i64 k, .int .i64 n, .int .u64 b, .string s, .slice a' j cap'], rfl, VAt_mk.2 ⟨a', cap', by rw [hN.out], ?_, by rw [← hN.out]; exact hle', hmx', by rw [← hN.out]; exact h64⟩, hbE⟩
        exact hsl2.out.change (fun b hb => ⟨by omega, by rw [hszE]; exact hb.2⟩) (fun b hb => hk b (by omega)) (fun t _ cs h => VAt.change (fun b hb => ⟨by omega, by rw [hszE]; exact hb.2⟩) (fun b hb => hk b (by omega)) _ _ h)
set_option maxHeartbeats 800000 in
theorem rclone : ∀ (t : VT) (cs : List Value) (w : World), VAt (Live w) w t cs → Calls Try.prog 52 #[.agg cs.toArray] w (CloneP w t) := by
  intro t
  induction t using VT.ind with
  | h k n b s l ih =>
    intro cs w h
    obtain ⟨a, cap, rfl, hs, hc, hc2, h64⟩ := VAt_mk.1 h
    obtain ⟨i0, hi, hz0, hz1, hz2⟩ := v_info
    replace ih := Lib.hid ih
    replace hs := Lib.hid hs
    replace hi := Lib.hid hi
    replace hz0 := Lib.hid hz0
    replace hz1 := Lib.hid hz1
    replace hz2 := Lib.hid hz2
    clear h
    go_enter Try.func52, Try.ntmps52
    go_wp2_with fail
    have hX : ((w.alloc (.cells #[.int .i64 k, .int .i64 n, .int .u64 b, .string s, .slice a l.length cap] 29)).alloc (.cells Z5 29)).heap[w.heap.size]? = some (.cells #[.int .i64 k, .int .i64 n, .int .u64 b, .string s, .slice a l.length cap] 29 (0, 0)) := heap_alloc2_old _ _ _
    have hY : ((w.alloc (.cells #[.int .i64 k, .int .i64 n, .int .u64 b, .string s, .slice a l.length cap] 29)).alloc (.cells Z5 29)).heap[w.heap.size + 1]? = some (.cells Z5 29 (0, 0)) := heap_alloc2_new _ _ _
    have hsz : ((w.alloc (.cells #[.int .i64 k, .int .i64 n, .int .u64 b, .string s, .slice a l.length cap] 29)).alloc (.cells Z5 29)).heap.size = w.heap.size + 2 := by simp
    have hb0 : Below w.heap.size w ((w.alloc (.cells #[.int .i64 k, .int .i64 n, .int .u64 b, .string s, .slice a l.length cap] 29)).alloc (.cells Z5 29)) := ((Below.refl _ _).alloc (Nat.le_refl _) _).alloc (by simp) _
    unfold Z5 at hX hY hsz hb0
    generalize (w.alloc (.cells #[.int .i64 k, .int .i64 n, .int .u64 b, .string s, .slice a l.length cap] 29)).alloc (.cells #[.int .i64 0, .int .i64 0, .int .u64 0, .string { data := #[] }, .slice none 0 0] 29) = W at *
    obtain ⟨N, hN⟩ : ∃ N, N = l.length := ⟨_, rfl⟩
    rw [← hN] at hX hc h64 ⊢
    replace hN := Lib.hid hN
    replace hX := Lib.hid hX
    replace hY := Lib.hid hY
    replace hsz := Lib.hid hsz
    replace hb0 := Lib.hid hb0
    go_loopw [3, 4] (fun v i wr => ∃ j : Nat, j ≤ N ∧ i = .int .i64 (j : Int) ∧ Out VAt 5 29 (w.heap.size + 2) wr v (l.take j) ∧ Below (w.heap.size + 2) W wr) (fun _ i _ => N - (intOf i).toNat)
    case atStart => exact ⟨0, Nat.zero_le _, rfl, Out.nil _ _ _ _ _, Below.refl _ _⟩
    case round =>
      obtain ⟨j, hj, rfl, ho, hbr⟩ := hrel
      by_cases hlt : j < N
      · obtain ⟨t, ht⟩ : ∃ t, l[j]? = some t := ⟨_, List.getElem?_eq_getElem (by rw [← hN.out]; exact hlt)⟩
        have htm : t ∈ l := List.mem_of_getElem? ht
        obtain ⟨g, off, cs, rfl, hg, hcl, hct, hcr⟩ := hs.out.get j t ht
        have hbw : Below w.heap.size w wr := hb0.out.trans (hbr.mono (by omega))
        have hcr' : wr.rangeAt g (off + j * 5) cs := range_keep hcr (hbw.block _ hg)
        have hct' := hct.below hbw
        have hcl' := v_size hcl
        have hone := all_one hct.one
        have hstep : l.take (j + 1) = l.take j ++ [t] := by
          rw [List.take_add_one, ht]; rfl
        replace hcr := Lib.hid hcr
        replace hct := Lib.hid hct
        replace hstep := Lib.hid hstep
        replace ht := Lib.hid ht
        replace ho := Lib.hid ho
        replace hbr := Lib.hid hbr
        replace hbw := Lib.hid hbw
        replace hcr' := Lib.hid hcr'
        replace hct' := Lib.hid hct'
        replace hcl := Lib.hid hcl
        replace hcl' := Lib.hid hcl'
        replace hone := Lib.hid hone
        have hXr : wr.heap[w.heap.size]? = some (.cells #[.int .i64 k, .int .i64 n, .int .u64 b, .string s, .slice (some ⟨g, off, none⟩) N cap] 29 (0, 0)) := by rw [hbr.out.block _ (by omega)]; exact hX.out
        have c4 : wr.cell? ⟨w.heap.size, 4, none⟩ = some (.slice (some ⟨g, off, none⟩) N cap) := by rw [cell_of_row _ _ _ _ _ _ hXr]; rfl
        replace hXr := Lib.hid hXr
        have I := Lib.hid (ih.out t htm cs _ hct'.out)
        go_wp2_with (first | (with_reducible refine wpList_load_mid rfl 29 (.tmp 16) rfl g (off + j * 5) rfl cs _ hcr'.out Try.underlying29 rfl hcl'.out ?_))
        refine I.out.mono ?_
        rintro e w3 ⟨cs', rfl, hv3, hb3⟩
        clear c4
        have hcl3 := Lib.hid hv3.len
        have hfold : List.foldl (fun cs x => cs.setIfInBounds x.snd x.fst) Z5 cs'.zipIdx = cs'.toArray := foldl_cells hcl3.out
        unfold Z5 at hfold
        have hL : (l.take j).length = j := by rw [List.length_take, ← hN.out]; omega
        replace hL := Lib.hid hL
        have hWW : Below wr.heap.size wr w3 := hb3
        have hW3 : Below w3.heap.size w3 (w3.alloc (.cells cs'.toArray 29)) := (Below.refl _ _).alloc (Nat.le_refl _) _
        have ho3 := (ho.out.below carried_v hWW).below carried_v hW3
        have hv4 : VAt (fun b => wr.heap.size ≤ b ∧ b < w3.heap.size) (w3.alloc (.cells cs'.toArray 29)) t cs' := VAt.change (fun b hb => ⟨hb.1, hb.2⟩) (fun b hb => hW3.block b hb.2) _ _ hv3
        have hown : ∀ k, u3.ownBlock = some k → k < wr.heap.size := by obtain ⟨xs, o1, _⟩ := ho.out; exact fun k hk => (own_from o1 k hk).2
        have hsz0 : w.heap.size + 2 ≤ wr.heap.size := by have := hbr.out.size; have := hsz.out; omega
        have hr4 := range_new w3 cs' 29
        have h14 := hv4.one
        have hbW4 : Below (w.heap.size + 2) W (w3.alloc (.cells cs'.toArray 29)) := hbr.out.trans ((hWW.trans (hW3.mono hWW.size)).mono hsz0)
        have hsz4 : wr.heap.size ≤ w3.heap.size := hWW.size
        replace hv3 := Lib.hid hv3
        replace hWW := Lib.hid hWW
        replace hW3 := Lib.hid hW3
        replace ho3 := Lib.hid ho3
        replace hv4 := Lib.hid hv4
        replace hr4 := Lib.hid hr4
        replace h14 := Lib.hid h14
        replace hown := Lib.hid hown
        replace hbW4 := Lib.hid hbW4
        have hlo : cs'.length = 5 := hcl3.out
        go_wp2_with (at_builtin; refine wpList_push carried_v rfl (.tmp 12) (.tmp 19) 27 rfl (w.heap.size + 2) 29 i0 _ 5 64 Try.underlying27 hi.out hz0.out hz1.out hz2.out rfl (by decide) u3 (l.take j) rfl ho3.out w3.heap.size 1 t cs' _ rfl hcl3.out hv4.out ?c1 hr4.out h14.out ?c2 ?c3 ?c4 ?_)
        case c1 => intro b hb; exact ⟨by omega, by simp; omega, fun e => by have := hown.out b e; omega⟩
        case c2 => rw [hL.out]; unfold maxLen; omega
        case c3 => rw [hL.out]; omega
        case c4 => simp; omega
        intro v' w5 ho5 _ hb5
        rw [← hstep.out] at ho5
        replace ho5 := Lib.hid ho5
        replace hb5 := Lib.hid hb5
        clear hfold hlo
        go_wp2_with fail
        go_roundw
        case rel => exact ⟨j + 1, by omega, by go_num, ho5.out, hbW4.out.trans hb5.out⟩
        case measure => simp [intOf]; omega
      · obtain rfl : j = N := by omega
        obtain ⟨a', cap', rfl, hn', hle', hmx', hsl'⟩ := ho.sl carried_v
        have hlj : l.take j = l := List.take_of_length_le (by rw [← hN.out]; exact Nat.le_refl _)
        rw [hlj] at hsl' hle' ⊢
        rw [← hN.out] at hle' ⊢
        have hXr : wr.heap[w.heap.size]? = some (.cells #[.int .i64 k, .int .i64 n, .int .u64 b, .string s, .slice a j cap] 29 (0, 0)) := by rw [hbr.block _ (by omega)]; exact hX.out
        have hYr : wr.heap[w.heap.size + 1]? = some (.cells Z5 29 (0, 0)) := by rw [hbr.block _ (by omega)]; exact hY.out
        have c4 : wr.cell? ⟨w.heap.size, 4, none⟩ = some (.slice a j cap) := by rw [cell_of_row _ _ _ _ _ _ hXr]; rfl
        have f4 : wr.frozen? ⟨w.heap.size, 4, none⟩ = false := frozen_of_row _ _ _ _ _ hXr
        have hX2 : (wr.setCell ⟨w.heap.size, 4, none⟩ (.slice a' j cap')).heap[w.heap.size]? = some (.cells #[.int .i64 k, .int .i64 n, .int .u64 b, .string s, .slice a' j cap'] 29 (0, 0)) := by
          rw [heap_setCell_same _ _ _ _ _ _ hXr]; rfl
        have hY2 : (wr.setCell ⟨w.heap.size, 4, none⟩ (.slice a' j cap')).heap[w.heap.size + 1]? = some (.cells Z5 29 (0, 0)) := by
          rw [heap_setCell_other _ _ _ _ (by simp)]; exact hYr
        have hb2 : Below (w.heap.size) w (wr.setCell ⟨w.heap.size, 4, none⟩ (.slice a' j cap')) := (hb0.out.trans (hbr.mono (by omega))).setCell (Nat.le_refl _) _
        have hsl2 : Sl 5 (VAt (fun b => w.heap.size + 2 ≤ b ∧ b < wr.heap.size) (wr.setCell ⟨w.heap.size, 4, none⟩ (.slice a' j cap'))) (fun b => w.heap.size + 2 ≤ b ∧ b < wr.heap.size) (wr.setCell ⟨w.heap.size, 4, none⟩ (.slice a' j cap')) a' l :=
          hsl'.change (fun _ h => h) (fun b hb => heap_setCell_other _ _ _ _ (by show b ≠ w.heap.size; omega)) (fun t _ cs h => VAt.change (fun _ h => h) (fun b hb => heap_setCell_other _ _ _ _ (by show b ≠ w.heap.size; omega)) _ _ h)
        have hszr : (wr.setCell ⟨w.heap.size, 4, none⟩ (.slice a' j cap')).heap.size = wr.heap.size := by simp [World.setCell]
        replace hXr := Lib.hid hXr
        replace hYr := Lib.hid hYr
        replace hX2 := Lib.hid hX2
        replace hY2 := Lib.hid hY2
        replace hb2 := Lib.hid hb2
        replace hsl2 := Lib.hid hsl2
        replace hszr := Lib.hid hszr
        clear hsl' ho hbr hlj
        go_wp2_with (first | (with_reducible refine wpList_load_row rfl 29 (.tmp 1) rfl w.heap.size rfl 29 _ (0, 0) _ hX2.out Try.underlying29 rfl (by kernel_rfl) ?_) | (with_reducible refine wpList_store_row rfl 29 (.tmp 2) (.tmp 23) rfl (w.heap.size + 1) _ rfl rfl 29 _ hY2.out (by kernel_rfl) (by kernel_rfl) (by kernel_rfl) ?_))
        generalize wr.setCell ⟨w.heap.size, 4, none⟩ (.slice a' j cap') = U at *
        have hR : (U.setRow (w.heap.size + 1) #[.int .i64 k, .int .i64 n, .int .u64 b, .string s, .slice a' j cap']).heap[w.heap.size + 1]? = some (.cells #[.int .i64 k, .int .i64 n, .int .u64 b, .string s, .slice a' j cap'] 29 (0, 0)) := setRow_heap U (w.heap.size + 1) _ _ 29 (0, 0) hY2.out
        have hk : ∀ q : Nat, q ≠ w.heap.size + 1 → (U.setRow (w.heap.size + 1) #[.int .i64 k, .int .i64 n, .int .u64 b, .string s, .slice a' j cap']).heap[q]? = U.heap[q]? := fun q hq => setRow_other _ _ _ _ hq
        refine bodyPost_ret (v := .agg #[.int .i64 k, .int .i64 n, .int .u64 b, .string s, .slice a' j cap']) (results_cell_row (fn := Try.f52) (p := 2) (by kernel_rfl) _ _ (w.heap.size + 1) 29 _ (0, 0) _ rfl hR Try.underlying29 rfl (by kernel_rfl)) rfl ?_
        have hbE : Below w.heap.size w (U.setRow (w.heap.size + 1) #[.int .i64 k, .int .i64 n, .int .u64 b, .string s, .slice a' j cap']) := below_setRow hb2.out (by omega) _
        have hszE : (U.setRow (w.heap.size + 1) #[.int .i64 k, .int .i64 n, .int .u64 b, .string s, .slice a' j cap']).heap.size = wr.heap.size := by rw [size_setRow]; exact hszr.out
        refine ⟨[.int .i64 k, .int .i64 n, .int .u64 b, .string s, .slice a' j cap'], rfl, VAt_mk.2 ⟨a', cap', by rw [hN.out], ?_, by rw [← hN.out]; exact hle', hmx', by rw [← hN.out]; exact h64⟩, hbE⟩
        exact hsl2.out.change (fun b hb => ⟨by omega, by rw [hszE]; exact hb.2⟩) (fun b hb => hk b (by omega)) (fun t _ cs h => VAt.change (fun b hb => ⟨by omega, by rw [hszE]; exact hb.2⟩) (fun b hb => hk b (by omega)) _ _ h)
end Go.Proofs.Ytncmjkaclfcbmaa
