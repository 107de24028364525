/- due.byDue: two timers held against each other. -/
import Derived.Test.YtidoacdigedlnaaCmp
import Derived.Deep.RegionHeld3
import Derived.Deep.DrawnRows
set_option linter.unusedVariables false
set_option linter.unusedSimpArgs false
namespace Go.Proofs.Ytidoacdigedlnaa
open Go.RowKit

def orI (a b : Int) : Int := if a = 0 then b else a
theorem or_ (a b : Int) (g : Nat) (w : World) (h : w.heap[g]? = some (.cells #[.int .i64 a, .int .i64 b] 3 (0, 0))) : Calls Try.prog 58 #[.slice (some ⟨g, 0, none⟩) 2 2] w fun e w' => e = .returned (.int .i64 (orI a b)) ∧ w = w' := by
  have c0 := box_cell h 0 _ rfl
  have c1 := box_cell h 1 _ rfl
  clear h
  by_cases h0 : a = 0
  · subst h0
    have e : orI 0 b = b := if_pos rfl
    by_cases h1 : b = 0
    · subst h1
      rw [e]
      clear e
      go_enter Try.func58, Try.ntmps58
      go_wp2_with fail
      refine wp_loop_rounds 3 ?_
      rw [rounds_succ]
      go_wp2_with fail
      rw [rounds_succ]
      go_wp2_with fail
      rw [rounds_succ]
      go_wp2_with fail
      go_ret
      exact ⟨rfl, rfl⟩
    · have hb : (b == 0) = false := by simpa using h1
      rw [e]
      clear e
      replace h1 := Lib.hid h1
      go_enter Try.func58, Try.ntmps58
      go_wp2_with fail
      refine wp_loop_rounds 3 ?_
      rw [rounds_succ]
      go_wp2_with fail
      rw [rounds_succ]
      go_wp2_with fail
      go_ret
      exact ⟨rfl, rfl⟩
  · have ha : (a == 0) = false := by simpa using h0
    have e : orI a b = a := if_neg h0
    rw [e]
    clear e
    replace h0 := Lib.hid h0
    go_enter Try.func58, Try.ntmps58
    go_wp2_with fail
    refine wp_loop_rounds 3 ?_
    rw [rounds_succ]
    go_wp2_with fail
    go_ret
    exact ⟨rfl, rfl⟩
def byI (a b : TM) : Int := orI (cmpI a.due b.due) (cmpS a.name b.name)
attribute [local go_sem ↓] Go.wp_at_zero Go.wp_at_succ
theorem byDue (x y : TM) (w : World) : Calls Try.prog 39 #[.agg #[.string x.name, .int .i64 x.due], .agg #[.string y.name, .int .i64 y.due]] w fun e w' => e = .returned (.int .i64 (byI x y)) ∧ Below w.heap.size w w' := by
  have h1 : ((w.alloc (.cells #[.string x.name, .int .i64 x.due] 52)).alloc (.cells #[.string y.name, .int .i64 y.due] 52)).heap[w.heap.size]? = some (.cells #[.string x.name, .int .i64 x.due] 52 (0, 0)) := heap_alloc2_old w _ _
  have h2 : ((w.alloc (.cells #[.string x.name, .int .i64 x.due] 52)).alloc (.cells #[.string y.name, .int .i64 y.due] 52)).heap[w.heap.size + 1]? = some (.cells #[.string y.name, .int .i64 y.due] 52 (0, 0)) := heap_alloc2_new w _ _
  have hb : Below w.heap.size w ((w.alloc (.cells #[.string x.name, .int .i64 x.due] 52)).alloc (.cells #[.string y.name, .int .i64 y.due] 52)) := ((Below.refl _ _).alloc (Nat.le_refl _) _).alloc (by simp) _
  have hsz : ((w.alloc (.cells #[.string x.name, .int .i64 x.due] 52)).alloc (.cells #[.string y.name, .int .i64 y.due] 52)).heap.size = w.heap.size + 2 := by simp
  generalize hW : (w.alloc (.cells #[.string x.name, .int .i64 x.due] 52)).alloc (.cells #[.string y.name, .int .i64 y.due] 52) = W at *
  have k : ∀ (wS : World), Below W.heap.size W wS → wS.cell? ⟨w.heap.size, 0, none⟩ = some (.string x.name) ∧ wS.cell? ⟨w.heap.size, 1, none⟩ = some (.int .i64 x.due) ∧ wS.cell? ⟨w.heap.size + 1, 0, none⟩ = some (.string y.name) ∧ wS.cell? ⟨w.heap.size + 1, 1, none⟩ = some (.int .i64 y.due) := fun wS h => by
    have e1 := (h.block w.heap.size (by omega)).trans h1
    have e2 := (h.block (w.heap.size + 1) (by omega)).trans h2
    exact ⟨box_cell e1 0 _ rfl, box_cell e1 1 _ rfl, box_cell e2 0 _ rfl, box_cell e2 1 _ rfl⟩
  replace hb := Lib.hid hb
  replace hW := Lib.hid hW
  clear h1 h2
  go_enter Try.func39, Try.ntmps39
  go_wp2_with fail
  rw [hW.out]
  have hS0 : Below W.heap.size W W.drew := (Below.refl _ _).drew
  refine wp_region_held_drew (S := Below W.heap.size W) (by kernel_rfl) hS0 (fun hHeld => ?_)
  refine wpAnyH_take (i := 0) (v := ?_) rfl (by kernel_rfl) (by kernel_rfl) (by kernel_rfl) (fun _ _ _ h => h) (Or.inl ⟨by rfl, ?_⟩) (by assumption) ?_
  rotate_left
  · intro wS hSw; skip; go_simp; (try with_reducible rfl)
  change wpAnyH _ _ _ _ _ _ _ (Act.put _ (some 5) _) _
  simp only [Act.put, List.setIfInBounds_toArray, List.set_cons_zero, List.set_cons_succ]
  refine wpAnyH_take (i := 1) (v := ?_) rfl (by kernel_rfl) (by kernel_rfl) (by kernel_rfl) (fun _ _ _ h => h) (Or.inl ⟨by rfl, ?_⟩) (by assumption) ?_
  rotate_left
  · intro wS hSw; obtain ⟨q1, q2, q3, q4⟩ := k wS hSw; go_simp; (try with_reducible rfl)
  change wpAnyH _ _ _ _ _ _ _ (Act.put _ (some 6) _) _
  simp only [Act.put, List.setIfInBounds_toArray, List.set_cons_zero, List.set_cons_succ]
  refine wpAnyH_take (i := 2) (v := ?_) rfl (by kernel_rfl) (by kernel_rfl) (by kernel_rfl) (fun _ _ _ h => h) (Or.inl ⟨by rfl, ?_⟩) (by assumption) ?_
  rotate_left
  · intro wS hSw; skip; go_simp; (try with_reducible rfl)
  change wpAnyH _ _ _ _ _ _ _ (Act.put _ (some 7) _) _
  simp only [Act.put, List.setIfInBounds_toArray, List.set_cons_zero, List.set_cons_succ]
  refine wpAnyH_take (i := 3) (v := ?_) rfl (by kernel_rfl) (by kernel_rfl) (by kernel_rfl) (fun _ _ _ h => h) (Or.inl ⟨by rfl, ?_⟩) (by assumption) ?_
  rotate_left
  · intro wS hSw; obtain ⟨q1, q2, q3, q4⟩ := k wS hSw; go_simp; (try with_reducible rfl)
  change wpAnyH _ _ _ _ _ _ _ (Act.put _ (some 8) _) _
  simp only [Act.put, List.setIfInBounds_toArray, List.set_cons_zero, List.set_cons_succ]
  refine wpAnyH_take (i := 5) (v := ?_) rfl (by kernel_rfl) (by kernel_rfl) (by kernel_rfl) (fun _ _ _ h => h) (Or.inl ⟨by rfl, ?_⟩) (by assumption) ?_
  rotate_left
  · intro wS hSw; skip; go_simp; (try with_reducible rfl)
  change wpAnyH _ _ _ _ _ _ _ (Act.put _ (some 10) _) _
  simp only [Act.put, List.setIfInBounds_toArray, List.set_cons_zero, List.set_cons_succ]
  refine wpAnyH_take (i := 6) (v := ?_) rfl (by kernel_rfl) (by kernel_rfl) (by kernel_rfl) (fun _ _ _ h => h) (Or.inl ⟨by rfl, ?_⟩) (by assumption) ?_
  rotate_left
  · intro wS hSw; obtain ⟨q1, q2, q3, q4⟩ := k wS hSw; go_simp; (try with_reducible rfl)
  change wpAnyH _ _ _ _ _ _ _ (Act.put _ (some 11) _) _
  simp only [Act.put, List.setIfInBounds_toArray, List.set_cons_zero, List.set_cons_succ]
  refine wpAnyH_take (i := 7) (v := ?_) rfl (by kernel_rfl) (by kernel_rfl) (by kernel_rfl) (fun _ _ _ h => h) (Or.inl ⟨by rfl, ?_⟩) (by assumption) ?_
  rotate_left
  · intro wS hSw; skip; go_simp; (try with_reducible rfl)
  change wpAnyH _ _ _ _ _ _ _ (Act.put _ (some 12) _) _
  simp only [Act.put, List.setIfInBounds_toArray, List.set_cons_zero, List.set_cons_succ]
  refine wpAnyH_take (i := 8) (v := ?_) rfl (by kernel_rfl) (by kernel_rfl) (by kernel_rfl) (fun _ _ _ h => h) (Or.inl ⟨by rfl, ?_⟩) (by assumption) ?_
  rotate_left
  · intro wS hSw; obtain ⟨q1, q2, q3, q4⟩ := k wS hSw; go_simp; (try with_reducible rfl)
  change wpAnyH _ _ _ _ _ _ _ (Act.put _ (some 13) _) _
  simp only [Act.put, List.setIfInBounds_toArray, List.set_cons_zero, List.set_cons_succ]
  refine wpAnyH_ready (rs := [4]) (by kernel_rfl) (by simp) ?_
  refine AllReadyH.cons rfl (fun K hK => ?_) AllReadyH.nil
  go_simp
  refine (cmp_i _ _ _).mono ?_
  rintro e w4 ⟨rfl, rfl⟩
  have hH := hHeld
  go_wp2_with fail
  refine hK.out _ _ (hH) (fun hHeld => ?_)
  clear hK K
  (try simp only [Act.put, List.setIfInBounds_toArray, List.set_cons_zero, List.set_cons_succ])
  refine wpAnyH_ready (rs := [9]) (by kernel_rfl) (by simp) ?_
  refine AllReadyH.cons rfl (fun K hK => ?_) AllReadyH.nil
  go_simp
  refine (cmp_s _ _ _).mono ?_
  rintro e w4 ⟨rfl, rfl⟩
  have hH := hHeld
  go_wp2_with fail
  refine hK.out _ _ (hH) (fun hHeld => ?_)
  clear hK K
  (try simp only [Act.put, List.setIfInBounds_toArray, List.set_cons_zero, List.set_cons_succ])
  refine wpAnyH_ready (rs := [10]) (by kernel_rfl) (by simp) ?_
  refine AllReadyH.cons rfl (fun K hK => ?_) AllReadyH.nil
  go_simp
  refine hK.out _ _ (hHeld.alloc (Nat.le_refl _) _) (fun hHeld => ?_)
  clear hK K
  (try simp only [Act.put, List.setIfInBounds_toArray, List.set_cons_zero, List.set_cons_succ])
  have hfin := heap_alloc_new W (.cells #[.int .i64 (cmpI x.due y.due), .int .i64 (cmpS x.name y.name)] 3)
  rw [hsz] at hfin
  have hfin2 : (W.alloc (.cells #[.int .i64 (cmpI x.due y.due), .int .i64 (cmpS x.name y.name)] 3)).drew.heap[w.heap.size + 2]? = some (.cells #[.int .i64 (cmpI x.due y.due), .int .i64 (cmpS x.name y.name)] 3 (0, 0)) := hfin
  refine wpAnyH_ready (rs := [11]) (by kernel_rfl) (by simp) ?_
  refine AllReadyH.cons rfl (fun K hK => ?_) AllReadyH.nil
  go_simp
  refine (or_ _ _ (w.heap.size + 2) _ hfin2).mono ?_
  rintro e w4 ⟨rfl, rfl⟩
  have hH := hHeld
  go_wp2_with fail
  refine hK.out _ _ (hH) (fun hHeld => ?_)
  clear hK K
  (try simp only [Act.put, List.setIfInBounds_toArray, List.set_cons_zero, List.set_cons_succ])
  refine wpAnyH_take (i := 12) (v := ?_) rfl (by kernel_rfl) (by kernel_rfl) (by kernel_rfl) (fun _ _ _ h => h) (Or.inl ⟨by rfl, ?_⟩) (by assumption) ?_
  rotate_left
  · intro wS hSw; skip; go_simp; (try with_reducible rfl)
  change wpAnyH _ _ _ _ _ _ _ (Act.put _ (some 4) _) _
  simp only [Act.put, List.setIfInBounds_toArray, List.set_cons_zero, List.set_cons_succ]
  refine wpAnyH_done (by kernel_rfl) ?_ _
  have hBB := Lib.hid hHeld
  clear hfin hfin2 hH
  go_wp2_with fail
  go_ret
  exact ⟨rfl, hb.out.trans (hBB.out.mono hb.out.size)⟩
end Go.Proofs.Ytidoacdigedlnaa
