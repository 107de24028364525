/- The course of a policy's delays. -/
import Derived.Test.YtidoacdigedlnaaPolicy
set_option linter.unusedVariables false
set_option linter.unusedSimpArgs false
namespace Go.Proofs.Ytidoacdigedlnaa
open Go.RowKit FM Ieee

def CourseAt (w : World) (g : Nat) (first : Int) (cf : Nat) (most : Int) (x : Nat) : Prop := w.heap[g]? = some (.cells #[.int .i64 first, .int .u64 (cf : Int), .int .i64 most, .int .u64 (x : Int)] 103 (0, 0)) ∧ x < 18446744073709551616
theorem fl_lt (n : Int) : fl n < 18446744073709551616 := by
  rw [fl_eq]
  have := floatOfInt_wf .f64 n
  simpa [Lit.wf] using this
theorem adN_lt (x y : Nat) : adN (FloatKind.f64.format.mul x y) < 18446744073709551616 := by
  cases h : FloatKind.f64.format.mul x y with
  | none => decide
  | some r =>
    have := mullt h
    show cN r < _
    unfold cN
    split
    · decide
    · exact this
attribute [local go_sem ↓] Go.wp_at_zero Go.wp_at_succ
theorem begin_ (first : Int) (cf : Nat) (most : Int) (w : World) : Calls Try.prog 53 #[.agg #[.int .i64 first, .int .u64 (cf : Int), .int .i64 most]] w fun e w' => ∃ g, e = .returned (.pointer (some ⟨g, 0, none⟩)) ∧ w.heap.size ≤ g ∧ CourseAt w' g first cf most (fl first) ∧ Below w.heap.size w w' := by
  have hX := heap_alloc_new w (.cells #[.int .i64 first, .int .u64 (cf : Int), .int .i64 most] 27)
  have hb : Below w.heap.size w (w.alloc (.cells #[.int .i64 first, .int .u64 (cf : Int), .int .i64 most] 27)) := (Below.refl _ _).alloc (Nat.le_refl _) _
  have hsz : (w.alloc (.cells #[.int .i64 first, .int .u64 (cf : Int), .int .i64 most] 27)).heap.size = w.heap.size + 1 := by simp
  generalize hW : w.alloc (.cells #[.int .i64 first, .int .u64 (cf : Int), .int .i64 most] 27) = W at *
  have k : ∀ wS : World, Below W.heap.size W wS → wS.heap[w.heap.size]? = some (.cells #[.int .i64 first, .int .u64 (cf : Int), .int .i64 most] 27 (0, 0)) := fun wS h => (h.block _ (by omega)).trans hX
  have k0 : ∀ wS : World, Below W.heap.size W wS → wS.cell? ⟨w.heap.size, 0, none⟩ = some (.int .i64 first) := fun wS h => box_cell (k wS h) 0 _ rfl
  have k1 : ∀ wS : World, Below W.heap.size W wS → wS.cell? ⟨w.heap.size, 1, none⟩ = some (.int .u64 (cf : Int)) := fun wS h => box_cell (k wS h) 1 _ rfl
  have k2 : ∀ wS : World, Below W.heap.size W wS → wS.cell? ⟨w.heap.size, 2, none⟩ = some (.int .i64 most) := fun wS h => box_cell (k wS h) 2 _ rfl
  replace hb := Lib.hid hb
  replace hW := Lib.hid hW
  clear k hX
  go_enter Try.func53, Try.ntmps53
  go_wp2_with fail
  rw [hW.out]
  have hS0 : Below W.heap.size W W.drew := (Below.refl _ _).drew
  refine wp_region_held_drew (S := Below W.heap.size W) (by kernel_rfl) hS0 (fun hHeld => ?_)
  refine wpAnyH_take (i := 0) (v := ?_) rfl (by kernel_rfl) (by kernel_rfl) (by kernel_rfl) (fun _ _ _ h => h) (Or.inl ⟨by rfl, ?_⟩) (by assumption) ?_
  rotate_left
  · intro wS hSw; have q0 := k0 wS hSw; have q1 := k1 wS hSw; have q2 := k2 wS hSw; go_simp; (try with_reducible rfl)
  change wpAnyH _ _ _ _ _ _ _ (Act.put _ (some 3) _) _
  simp only [Act.put, List.setIfInBounds_toArray, List.set_cons_zero, List.set_cons_succ]
  refine wpAnyH_take (i := 1) (v := ?_) rfl (by kernel_rfl) (by kernel_rfl) (by kernel_rfl) (fun _ _ _ h => h) (Or.inl ⟨by rfl, ?_⟩) (by assumption) ?_
  rotate_left
  · intro wS hSw; skip; go_simp; (try with_reducible rfl)
  change wpAnyH _ _ _ _ _ _ _ (Act.put _ (some 4) _) _
  simp only [Act.put, List.setIfInBounds_toArray, List.set_cons_zero, List.set_cons_succ]
  refine wpAnyH_take (i := 2) (v := ?_) rfl (by kernel_rfl) (by kernel_rfl) (by kernel_rfl) (fun _ _ _ h => h) (Or.inl ⟨by rfl, ?_⟩) (by assumption) ?_
  rotate_left
  · intro wS hSw; have q0 := k0 wS hSw; go_simp; (try with_reducible rfl)
  change wpAnyH _ _ _ _ _ _ _ (Act.put _ (some 5) _) _
  simp only [Act.put, List.setIfInBounds_toArray, List.set_cons_zero, List.set_cons_succ]
  refine wpAnyH_ready (rs := [3]) (by kernel_rfl) (by simp) ?_
  refine AllReadyH.cons rfl (fun K hK => ?_) AllReadyH.nil
  go_simp
  refine (of1 first _).mono ?_
  rintro e w4 ⟨rfl, rfl⟩
  have hH := hHeld
  go_wp2_with fail
  refine hK.out _ _ (hH) (fun hHeld => ?_)
  clear hK K
  (try simp only [Act.put, List.setIfInBounds_toArray, List.set_cons_zero, List.set_cons_succ])
  refine wpAnyH_take (i := 4) (v := ?_) rfl (by kernel_rfl) (by kernel_rfl) (by kernel_rfl) (fun _ _ _ h => h) (Or.inl ⟨by rfl, ?_⟩) (by assumption) ?_
  rotate_left
  · intro wS hSw; skip; go_simp; (try with_reducible rfl)
  change wpAnyH _ _ _ _ _ _ _ (Act.put _ (some 7) _) _
  simp only [Act.put, List.setIfInBounds_toArray, List.set_cons_zero, List.set_cons_succ]
  refine wpAnyH_ready (rs := [5]) (by kernel_rfl) (by simp) ?_
  refine AllReadyH.cons rfl (fun K hK => ?_) AllReadyH.nil
  go_simp
  refine hK.out _ _ (hHeld.alloc (Nat.le_refl _) _) (fun hHeld => ?_)
  clear hK K
  (try simp only [Act.put, List.setIfInBounds_toArray, List.set_cons_zero, List.set_cons_succ])
  have hfin := heap_alloc_new W (.cells #[.int .i64 first, .int .u64 (cf : Int), .int .i64 most, .int .u64 ((fl first : Nat) : Int)] 103)
  rw [hsz] at hfin
  refine wpAnyH_take (i := 6) (v := ?_) rfl (by kernel_rfl) (by kernel_rfl) (by kernel_rfl) (fun _ _ _ h => h) (Or.inl ⟨by rfl, ?_⟩) (by assumption) ?_
  rotate_left
  · intro wS hSw; skip; go_simp; (try with_reducible rfl)
  change wpAnyH _ _ _ _ _ _ _ (Act.put _ (some 2) _) _
  simp only [Act.put, List.setIfInBounds_toArray, List.set_cons_zero, List.set_cons_succ]
  refine wpAnyH_done (by kernel_rfl) ?_ _
  have hBB := Lib.hid hHeld
  replace hfin := Lib.hid hfin
  go_wp2_with fail
  go_ret
  exact ⟨w.heap.size + 1, rfl, by omega, ⟨hfin.out, fl_lt _⟩, hb.out.trans (hBB.out.mono hb.out.size)⟩
set_option maxRecDepth 100000 in
theorem next (g : Nat) (first : Int) (cf : Nat) (most : Int) (x : Nat) (w : World) (h : CourseAt w g first cf most x) : ∃ (b : Bool) (x' : Nat), Calls Try.prog 54 #[.pointer (some ⟨g, 0, none⟩)] w fun e w' => e = .returned (.bool b) ∧ CourseAt w' g first cf most x' ∧ w.grownBy w' (some g) := by
  have h0 := h.1
  refine ⟨(((adN (FloatKind.f64.format.mul x cf) : Nat) : Int) != (x : Int)), adN (FloatKind.f64.format.mul x cf), ?_⟩
  have q1 : w.cell? ⟨g, 1, none⟩ = some (.int .u64 (cf : Int)) := box_cell h0 1 _ rfl
  have q3 : w.cell? ⟨g, 3, none⟩ = some (.int .u64 (x : Int)) := box_cell h0 3 _ rfl
  have f3 : w.frozen? ⟨g, 3, none⟩ = false := frozen_of_row _ _ _ _ _ h0
  have hlt := adN_lt x cf
  generalize hy : adN (FloatKind.f64.format.mul x cf) = y at *
  have M := Lib.hid (fun w => mul x cf w)
  rw [hy] at M
  have hfin : ∀ k, CourseAt ((w.drewN k).setCell ⟨g, 3, none⟩ (.int .u64 (y : Int))) g first cf most y ∧ w.grownBy ((w.drewN k).setCell ⟨g, 3, none⟩ (.int .u64 (y : Int))) (some g) := fun k => by
    refine ⟨⟨?_, hlt⟩, rfl, rfl, rfl, by simp [World.setCell], fun j hj hne => heap_setCell_other _ _ _ _ (fun e => hne (by rw [e]))⟩
    rw [heap_setCell_same (w.drewN k) g 3 _ _ _ h0]; simp
  have hread : ∀ k, ((w.drewN k).setCell ⟨g, 3, none⟩ (.int .u64 (y : Int))).cell? ⟨g, 3, none⟩ = some (.int .u64 (y : Int)) := fun k => box_cell (hfin k).1.1 3 _ rfl
  replace hfin := Lib.hid hfin
  replace hy := Lib.hid hy
  replace hlt := Lib.hid hlt
  replace hread := Lib.hid hread
  clear h h0
  go_enter Try.func54, Try.ntmps54
  go_wp2_with fail
  go_region_with (go_at_call 74; refine (M.out _).mono ?_; rintro e w' ⟨rfl, k, rfl⟩)
  all_goals
    have hr := hread.out
    go_wp2_with fail
    go_ret
    exact ⟨rfl, (hfin.out _).1, (hfin.out _).2⟩
def toldF (x : Nat) (most : Int) : Int := if eF x most = 0 then wF x most else most
theorem told (g : Nat) (first : Int) (cf : Nat) (most : Int) (x : Nat) (w : World) (h : CourseAt w g first cf most x) : Calls Try.prog 55 #[.pointer (some ⟨g, 0, none⟩)] w fun e w' => e = .returned (.int .i64 (toldF x most)) ∧ ∃ k, w' = w.drewN k := by
  have h0 := h.1
  have q2 : w.cell? ⟨g, 2, none⟩ = some (.int .i64 most) := box_cell h0 2 _ rfl
  have q3 : w.cell? ⟨g, 3, none⟩ = some (.int .u64 (x : Int)) := box_cell h0 3 _ rfl
  have W := Lib.hid (fun w => whole x most w h.2)
  clear h h0
  go_enter Try.func55, Try.ntmps55
  go_wp2_with fail
  go_quiet ((go_at_call 75; exact Calls.quiet_of_same ((W.out _).mono (fun _ _ h => ⟨h.1, h.2.symm⟩))))
  cases he : (eF x most == 0) with
  | true =>
    have e0 : eF x most = 0 := by simpa using he
    replace e0 := Lib.hid e0
    go_wp2_with fail
    go_ret
    exact ⟨ret_int (by unfold toldF; rw [if_pos e0.out]), _, rfl⟩
  | false =>
    have e0 : ¬ eF x most = 0 := by simpa using he
    replace e0 := Lib.hid e0
    go_wp2_with fail
    go_ret
    exact ⟨ret_int (by unfold toldF; rw [if_neg e0.out]), _, rfl⟩
theorem toldF_in (x : Nat) (most : Int) (h : 0 ≤ most) : 0 ≤ toldF x most ∧ toldF x most ≤ most := by
  unfold toldF eF
  by_cases hN : isN x ∨ most < 0
  · rw [if_pos hN, if_neg (by decide)]; omega
  · rw [if_neg hN, if_pos rfl]
    unfold wF
    rw [if_neg hN]
    split
    · omega
    · split <;> omega
def DelayP (w : World) (e : Ending) (w' : World) : Prop := ∃ n : Int, 0 ≤ n ∧ n ≤ 1073741824 ∧ e = .returned (.int .i64 n) ∧ Below w.heap.size w w'
theorem below_drewN (w : World) (n : Nat) : Below w.heap.size w (w.drewN n) := ⟨rfl, rfl, rfl, Nat.le_refl _, fun _ _ => rfl⟩
set_option maxHeartbeats 800000 in
theorem delayC (first : Int) (cf : Nat) (most attempt : Int) (hcf : cf < 18446744073709551616) (w : World) : Calls Try.prog 34 #[.agg #[.int .i64 first, .int .u64 (cf : Int), .int .i64 most], .int .i64 attempt] w (DelayP w) := by
  have hX := heap_alloc_new w (.cells #[.int .i64 first, .int .u64 (cf : Int), .int .i64 most] 27)
  have hb : Below w.heap.size w (w.alloc (.cells #[.int .i64 first, .int .u64 (cf : Int), .int .i64 most] 27)) := (Below.refl _ _).alloc (Nat.le_refl _) _
  have hsz : (w.alloc (.cells #[.int .i64 first, .int .u64 (cf : Int), .int .i64 most] 27)).heap.size = w.heap.size + 1 := by simp
  obtain ⟨c, hc0, hc⟩ := check first cf most hcf (w.alloc (.cells #[.int .i64 first, .int .u64 (cf : Int), .int .i64 most] 27))
  replace hb := Lib.hid hb
  replace hsz := Lib.hid hsz
  replace hc := Lib.hid hc
  replace hcf := Lib.hid hcf
  by_cases h0 : c = 0
  · obtain ⟨hf, hm⟩ := hc0 h0
    unfold delB at hm
    simp only [Bool.and_eq_true, decide_eq_true_eq] at hm
    replace hm := Lib.hid hm
    subst h0
    have q0 := box_cell hX 0 _ rfl
    have q1 := box_cell hX 1 _ rfl
    have q2 := box_cell hX 2 _ rfl
    replace hX := Lib.hid hX
    clear hc0 hf
    go_enter Try.func34, Try.ntmps34
    go_wp2_with fail
    refine hc.out.mono ?_
    rintro e w1 ⟨rfl, hb1⟩
    have hX1 : w1.heap[w.heap.size]? = some (.cells #[.int .i64 first, .int .u64 (cf : Int), .int .i64 most] 27 (0, 0)) := (hb1.block _ (by rw [hsz.out]; omega)).trans hX.out
    have r0 := box_cell hX1 0 _ rfl
    have r1 := box_cell hX1 1 _ rfl
    have r2 := box_cell hX1 2 _ rfl
    have B := Lib.hid (begin_ first cf most w1)
    have hbw := Lib.hid (hb.out.trans (hb1.mono (by rw [hsz.out]; omega)))
    clear hX1 hb1
    go_wp2_with fail
    refine B.out.mono ?_
    rintro e w2 ⟨g, rfl, hg, hC, hb2⟩
    have hbw2 := Lib.hid (hbw.out.trans (hb2.mono hbw.out.size))
    have hgw : w.heap.size ≤ g := Nat.le_trans hbw.out.size hg
    replace hC := Lib.hid hC
    clear hb2 B r0 r1 r2 q0 q1 q2 hc
    go_upto_region 4 with (fail)
    go_cut [14, 15] (fun a b wx => ∃ m : Nat, m ≤ 999 ∧ a = .int .i64 (m : Int) ∧ b = .int .i64 0 ∧ wx = w2)
    case first =>
      go_wp2_with fail
      all_goals
        go_meet
        first | exact ⟨0, by omega, rfl, rfl, rfl⟩ | exact ⟨999, by omega, rfl, rfl, rfl⟩ | exact ⟨(attempt - 1).toNat, by omega, by rw [Int.toNat_of_nonneg (by omega)], rfl, rfl⟩
    case rest =>
      obtain ⟨m, hm9, rfl, rfl, rfl⟩ := hcut
      go_wp2_with fail
      go_loopw [15] (fun i wr => ∃ (j x : Nat), j ≤ m ∧ i = .int .i64 (j : Int) ∧ CourseAt wr g first cf most x ∧ Below w.heap.size w wr) (fun i _ => m - (intOf i).toNat)
      case atStart => exact ⟨0, _, Nat.zero_le _, rfl, hC.out, hbw2.out⟩
      case round =>
        obtain ⟨j, x, hj, rfl, hCr, hbr⟩ := hrel
        by_cases hlt : j < m
        · obtain ⟨b, x', hN⟩ := next g first cf most x wr hCr
          replace hN := Lib.hid hN
          replace hbr := Lib.hid hbr
          clear hCr
          cases b with
          | true =>
            go_wp2_with fail
            refine hN.out.mono ?_
            rintro e w3 ⟨rfl, hC3, hg3⟩
            have hb3 := Lib.hid (hbr.out.grown hg3 hbr.out.size (fun k hk => by cases hk; exact hgw))
            replace hC3 := Lib.hid hC3
            clear hg3
            go_wp2_with fail
            go_roundw
            case rel => exact ⟨j + 1, x', by omega, by go_num, hC3.out, hb3.out⟩
            case measure => simp [intOf]; omega
          | false =>
            go_wp2_with fail
            refine hN.out.mono ?_
            rintro e w3 ⟨rfl, hC3, hg3⟩
            have hb3 := Lib.hid (hbr.out.grown hg3 hbr.out.size (fun k hk => by cases hk; exact hgw))
            have T := Lib.hid (told g first cf most x' w3 hC3)
            clear hg3 hC3
            go_wp2_with fail
            refine T.out.mono ?_
            rintro e w4 ⟨rfl, k, rfl⟩
            go_wp2_with fail
            go_ret
            exact ⟨_, (toldF_in x' most hm.out.1).1, Int.le_trans (toldF_in x' most hm.out.1).2 hm.out.2, rfl, hb3.out.trans ((below_drewN w3 k).mono hb3.out.size)⟩
        · have T := Lib.hid (told g first cf most x wr hCr)
          replace hbr := Lib.hid hbr
          clear hCr
          go_wp2_with fail
          refine T.out.mono ?_
          rintro e w4 ⟨rfl, k, rfl⟩
          go_wp2_with fail
          go_ret
          exact ⟨_, (toldF_in x most hm.out.1).1, Int.le_trans (toldF_in x most hm.out.1).2 hm.out.2, rfl, hbr.out.trans ((below_drewN wr k).mono hbr.out.size)⟩
  · have hne : (c == 0) = false := by simpa using h0
    replace h0 := Lib.hid h0
    replace hX := Lib.hid hX
    clear hc0
    go_enter Try.func34, Try.ntmps34
    go_wp2_with fail
    refine hc.out.mono ?_
    rintro e w1 ⟨rfl, hb1⟩
    have hbw := Lib.hid (hb.out.trans (hb1.mono (by rw [hsz.out]; omega)))
    clear hb1 hc
    go_wp2_with fail
    go_ret
    exact ⟨0, by omega, by omega, rfl, hbw.out⟩
end Go.Proofs.Ytidoacdigedlnaa
