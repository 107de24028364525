/- usherref16.lists: some Boolean; true: at most ten timers. -/
import Derived.Test.YtidoacdigedlnaaCan7
import Derived.Test.YtidoacdigedlnaaRow
import Derived.Deep.RegionHeld3
import Derived.Deep.DrawnRows
set_option linter.unusedVariables false
set_option linter.unusedSimpArgs false
namespace Go.Proofs.Ytidoacdigedlnaa
open Go.RowKit
attribute [local go_sem ↓] Go.wp_at_zero Go.wp_at_succ

def ListsP (w : World) (x : ST) (e : Ending) (w' : World) : Prop := ∃ q : Bool, e = .returned (.bool q) ∧ (q = true → x.timers.length ≤ 10) ∧ Below w.heap.size w w'
set_option maxRecDepth 100000 in
set_option maxHeartbeats 3200000 in
theorem lists_ (x : ST) (cs : List Value) (w : World) (h : SAt (Live w) w x cs) : Calls Try.prog 17 #[.agg cs.toArray] w (ListsP w x) := by
  have hl := h.len
  have hlo : cs.toArray.size = 31 := by simp [hl]
  obtain ⟨k0, k1, k2, k3, k4, k5, k6, k7, k13, k14, k15, k16, k17, k18, k19, k20, k21, k22, k30, A_, R_, a1, c1, a2, c2, _, _, k23, k24, _, _, hsT, hsU, hc1, hc9, _, hd1, hd9, _⟩ := h.cells
  clear k0 k1 k2 k3 k4 k5 k6 k7 k13 k14 k15 k16 k17 k18 k19 k20 k21 k22 k30 h hl
  obtain ⟨n, hn⟩ : ∃ n, x.timers.length = n := ⟨_, rfl⟩
  obtain ⟨m, hm⟩ : ∃ m, x.updates.length = m := ⟨_, rfl⟩
  rw [hn] at k23 hc1
  rw [hm] at k24 hd1
  obtain ⟨W, hW⟩ : ∃ W, W = w.alloc (.cells cs.toArray 33) := ⟨_, rfl⟩
  have e1 : W.heap[w.heap.size]? = some (.cells cs.toArray 33 (0, 0)) := by rw [hW]; exact heap_alloc_new w _
  have e3 : Below w.heap.size w W := by rw [hW]; exact ((Below.refl _ _).alloc (Nat.le_refl _) _)
  have e4 : W.heap.size = w.heap.size + 1 := by rw [hW]; simp
  have kc : ∀ w', Below (w.heap.size + 1) W w' → (w'.cell? ⟨w.heap.size, 23, none⟩ = some (.slice a1 n c1) ∧ w'.cell? ⟨w.heap.size, 24, none⟩ = some (.slice a2 m c2)) := fun w' hb' => by
    have e : w'.heap[w.heap.size]? = some (.cells cs.toArray 33 (0, 0)) := (hb'.block _ (Nat.lt_succ_self _)).trans e1
    exact ⟨box_cell e 23 _ (by simpa using k23), box_cell e 24 _ (by simpa using k24)⟩
  obtain ⟨r23, r24⟩ := kc W (Below.refl _ _)
  replace hn := Lib.hid hn
  replace hm := Lib.hid hm
  replace hW := Lib.hid hW
  replace e1 := Lib.hid e1
  replace e3 := Lib.hid e3
  replace e4 := Lib.hid e4
  replace kc := Lib.hid kc
  replace hsT := Lib.hid hsT
  replace hsU := Lib.hid hsU
  clear k23 k24
  by_cases g1 : 10 < n
  · have g1' : (10 : Int) < (n : Int) := by omega
    go_enter Try.func17, Try.ntmps17
    go_upto_region 1 with (fail)
    rw [← hW.out]
    go_wp2_with fail
    go_ret
    exact ⟨false, rfl, (fun h => by cases h), e3.out⟩
  have g1' : ¬ (10 : Int) < (n : Int) := by omega
  by_cases g2 : 10 < m
  · have g2' : (10 : Int) < (m : Int) := by omega
    go_enter Try.func17, Try.ntmps17
    go_upto_region 1 with (fail)
    rw [← hW.out]
    go_wp2_with fail
    go_ret
    exact ⟨false, rfl, (fun h => by cases h), e3.out⟩
  have g2' : ¬ (10 : Int) < (m : Int) := by omega
  go_enter Try.func17, Try.ntmps17
  go_upto_region 1 with (fail)
  rw [← hW.out]
  go_wp2_with fail
  go_loopw [3] (fun i wr => ∃ j : Nat, j ≤ n ∧ i = .int .i64 (j : Int) ∧ Below (w.heap.size + 1) W wr) (fun i _ => n - (intOf i).toNat)
  case atStart => exact ⟨0, Nat.zero_le _, rfl, Below.refl _ _⟩
  case round =>
    obtain ⟨j, hj, rfl, hbr⟩ := hrel
    have hbw : Below w.heap.size w wr := e3.out.trans (hbr.mono (by omega))
    have hsz : w.heap.size + 1 ≤ wr.heap.size := by have := hbr.size; rw [e4.out] at this; exact this
    clear r23 r24
    obtain ⟨r23, r24⟩ := kc.out wr hbr
    by_cases hlt : j < n
    · obtain ⟨y, hy⟩ : ∃ y, x.timers[j]? = some y := ⟨_, List.getElem?_eq_getElem (by rw [hn.out]; exact hlt)⟩
      obtain ⟨g, off, ct, rfl, hg, hcl, hct, hcr⟩ := hsT.out.get j y hy
      have hct : ct = [.string y.name, .int .i64 y.due] := hct
      subst hct
      have hcr' := range_keep hcr (hbw.block _ hg)
      have t0 : wr.cell? ⟨g, off + j * 2, none⟩ = some (.string y.name) := by have := hcr' 0 _ rfl; simpa using this
      have t1 := hcr' 1 _ rfl
      have b1 : (0 : Int) ≤ (j : Int) := by omega
      have b2 : (j : Int) < (n : Int) := by omega
      obtain ⟨W2, hW2⟩ : ∃ W2, W2 = wr.alloc (.cells #[.string y.name, .int .i64 y.due] 52) := ⟨_, rfl⟩
      have hb2 : Below (w.heap.size + 1) W W2 := by rw [hW2]; exact hbr.alloc hsz _
      have hX2 : W2.heap[wr.heap.size]? = some (.cells #[.string y.name, .int .i64 y.due] 52 (0, 0)) := by rw [hW2]; exact heap_alloc_new wr _
      have x0 : W2.cell? ⟨wr.heap.size, 0, none⟩ = some (.string y.name) := box_cell hX2 0 _ rfl
      have x1 : W2.cell? ⟨wr.heap.size, 1, none⟩ = some (.int .i64 y.due) := box_cell hX2 1 _ rfl
      obtain ⟨s23, s24⟩ := kc.out W2 hb2
      have hbw2 : Below w.heap.size w W2 := e3.out.trans (hb2.mono (by omega))
      have NM : ∀ w', Calls Try.prog 13 #[.string y.name] w' fun e w'' => e = .returned (.bool (nameB y.name)) ∧ w'' = w' := fun w' => name_ y.name w'
      have WI : ∀ w', Calls Try.prog 12 #[.int .i64 y.due, .int .i64 0, .int .i64 2199023255552] w' fun e w'' => e = .returned (.bool (withinB y.due 0 2199023255552)) ∧ w'' = w' := fun w' => within _ _ _ w'
      generalize nameB y.name = nb at NM
      generalize withinB y.due 0 2199023255552 = wi at WI
      have hprev : ∀ i, j = i + 1 → ∃ z : TM, W2.cell? ⟨g, off + i * 2, none⟩ = some (.string z.name) := fun i hi => by
        obtain ⟨z, hz⟩ : ∃ z, x.timers[i]? = some z := ⟨_, List.getElem?_eq_getElem (by rw [hn.out]; omega)⟩
        obtain ⟨g', off', ct', e, hg', _, hct', hcr''⟩ := hsT.out.get i z hz
        cases e
        have hct' : ct' = [.string z.name, .int .i64 z.due] := hct'
        subst hct'
        exact ⟨z, by have := range_keep hcr'' (hbw2.block _ hg') 0 _ rfl; simpa using this⟩
      replace NM := Lib.hid NM
      replace WI := Lib.hid WI
      replace hW2 := Lib.hid hW2
      replace hX2 := Lib.hid hX2
      replace hb2 := Lib.hid hb2
      replace hbw2 := Lib.hid hbw2
      replace hbr := Lib.hid hbr
      replace hbw := Lib.hid hbw
      replace hy := Lib.hid hy
      replace hprev := Lib.hid hprev
      clear hcr hcr' hcl
      go_wp2_with fail
      rw [← hW2.out]
      cases nb with
      | false =>
        go_quiet ((first | (go_at_call 13; exact Calls.quiet_of_same (NM.out _)) | (go_at_call 12; exact Calls.quiet_of_same (WI.out _))))
        go_wp2_with fail
        go_ret
        exact ⟨false, rfl, (fun h => by cases h), below_drewN hbw2.out _⟩
      | true =>
        cases wi with
        | false =>
          go_quiet ((first | (go_at_call 13; exact Calls.quiet_of_same (NM.out _)) | (go_at_call 12; exact Calls.quiet_of_same (WI.out _))))
          go_wp2_with fail
          go_ret
          exact ⟨false, rfl, (fun h => by cases h), below_drewN hbw2.out _⟩
        | true =>
          cases j with
          | zero =>
            have z0 : decide ((0 : Int) < ((0 : Nat) : Int)) = false := rfl
            go_quiet ((first | (go_at_call 13; exact Calls.quiet_of_same (NM.out _)) | (go_at_call 12; exact Calls.quiet_of_same (WI.out _))))
            go_wp2_with fail
            go_roundw
            case rel => exact ⟨0 + 1, by omega, by go_num, below_drewN hb2.out _⟩
            case measure => simp [intOf]; omega
          | succ i =>
            obtain ⟨z, hz⟩ := hprev.out i rfl
            have z0 : (0 : Int) < ((i + 1 : Nat) : Int) := by omega
            have zw : IntKind.i64.wrap (((i + 1 : Nat) : Int) - 1) = (i : Int) := by rw [IntKind.wrap_i64]; omega
            have zw' : IntKind.i64.wrap (i : Int) = (i : Int) := by rw [IntKind.wrap_i64]; omega
            have zb : (0 : Int) ≤ (i : Int) := by omega
            have zb2 : (i : Int) < (n : Int) := by omega
            cases hbl : Op.bytesLess z.name.toList y.name.toList with
            | false =>
              go_quiet ((first | (go_at_call 13; exact Calls.quiet_of_same (NM.out _)) | (go_at_call 12; exact Calls.quiet_of_same (WI.out _))))
              go_wp2_with fail
              go_ret
              exact ⟨false, rfl, (fun h => by cases h), below_drewN hbw2.out _⟩
            | true =>
              go_quiet ((first | (go_at_call 13; exact Calls.quiet_of_same (NM.out _)) | (go_at_call 12; exact Calls.quiet_of_same (WI.out _))))
              go_wp2_with fail
              go_roundw
              case rel => exact ⟨i + 1 + 1, by omega, by go_num, below_drewN hb2.out _⟩
              case measure => simp [intOf]; omega
    · obtain rfl : j = n := by omega
      obtain ⟨W3, hW3⟩ : ∃ W3, W3 = wr := ⟨_, rfl⟩
      have hb3 : Below (w.heap.size + 1) W W3 := by rw [hW3]; exact hbr
      replace hb3 := Lib.hid hb3
      replace hbr := Lib.hid hbr
      replace hbw := Lib.hid hbw
      go_wp2_with fail
      rw [← hW3]
      replace hW3 := Lib.hid hW3
      clear r23 r24
      go_loopw [5] (fun i wr => ∃ j : Nat, j ≤ m ∧ i = .int .i64 (j : Int) ∧ Below (w.heap.size + 1) W wr) (fun i _ => m - (intOf i).toNat)
      case atStart => exact ⟨0, Nat.zero_le _, rfl, hb3.out⟩
      case round =>
        obtain ⟨i, hi, rfl, hbq⟩ := hrel
        have hbw9 : Below w.heap.size w wr := e3.out.trans (hbq.mono (by omega))
        obtain ⟨r23, r24⟩ := kc.out wr hbq
        by_cases hlu : i < m
        · obtain ⟨y, hy⟩ : ∃ y, x.updates[i]? = some y := ⟨_, List.getElem?_eq_getElem (by rw [hm.out]; exact hlu)⟩
          obtain ⟨g, off, cu, rfl, hg, hcl, hct, hcr⟩ := hsU.out.get i y hy
          have hsz9 : w.heap.size + 1 ≤ wr.heap.size := by have := hbq.size; rw [e4.out] at this; exact this
          have UB : ∀ wS, Below (w.heap.size + 1) W wS → UAt (Live wS) wS y cu := fun wS hS => hct.change (fun b hb' => Nat.lt_of_lt_of_le hb' (e3.out.trans (hS.mono (Nat.le_succ _))).size) (fun b hb' => (e3.out.trans (hS.mono (Nat.le_succ _))).block b hb')
          have KR : ∀ wS, Below (w.heap.size + 1) W wS → wS.rangeAt g (off + i * 12) cu := fun wS hS => range_keep hcr ((e3.out.trans (hS.mono (Nat.le_succ _))).block _ hg)
          have KN : ∀ wS, Below (w.heap.size + 1) W wS → wS.cell? ⟨g, off + i * 12, none⟩ = some (.string y.name) := fun wS hS => by
            obtain ⟨A, B, e, _, _⟩ := hct
            have := KR wS hS 0 (.string y.name) (by rw [e]; rfl)
            simpa using this
          have hprev : ∀ p, i = p + 1 → ∃ z : UT, ∀ wS, Below (w.heap.size + 1) W wS → wS.cell? ⟨g, off + p * 12, none⟩ = some (.string z.name) := fun p hp => by
            obtain ⟨z, hz⟩ : ∃ z, x.updates[p]? = some z := ⟨_, List.getElem?_eq_getElem (by rw [hm.out]; omega)⟩
            obtain ⟨g', off', ct', e, hg', _, hct', hcr''⟩ := hsU.out.get p z hz
            cases e
            refine ⟨z, fun wS hS => ?_⟩
            obtain ⟨A, B, e, _, _⟩ := hct'
            have := range_keep hcr'' ((e3.out.trans (hS.mono (Nat.le_succ _))).block _ hg') 0 (.string z.name) (by rw [e]; rfl)
            simpa using this
          have hus := (show (Try.prog.info? 70).map (·.size) = some cu.length by rw [hcl]; kernel_rfl)
          have b1 : (0 : Int) ≤ (i : Int) := by omega
          have b2 : (i : Int) < (m : Int) := by omega
          have hS0 : Below (w.heap.size + 1) W wr.drew := hbq.drew
          replace UB := Lib.hid UB
          replace KR := Lib.hid KR
          replace KN := Lib.hid KN
          replace hprev := Lib.hid hprev
          replace hus := Lib.hid hus
          replace hbq := Lib.hid hbq
          replace hbw9 := Lib.hid hbw9
          clear hcr hct hcl hy
          go_upto_region 12 with (fail)
          go_cut [87] (fun s wx => (∃ q, s = .bool q) ∧ Below (w.heap.size + 1) W wx)
          case first =>
            rcases Nat.eq_zero_or_pos i with rfl | hpos
            · skip
              have z0 : decide ((0 : Int) < ((0 : Nat) : Int)) = false := rfl
              refine wp_region_held_drew (S := Below (w.heap.size + 1) W) (by kernel_rfl) hS0 (fun hHeld => ?_)
              refine wpAnyH_take (i := 0) (v := ?_) rfl (by kernel_rfl) (by kernel_rfl) (by kernel_rfl) (fun _ _ _ h => h) (Or.inl ⟨by rfl, ?_⟩) (by assumption) ?_
              rotate_left
              · intro wS hSw; skip; go_simp; (try with_reducible rfl)
              change wpAnyH _ _ _ _ _ _ _ (Act.put _ (some 61) _) _
              simp only [Act.put, List.setIfInBounds_toArray, List.set_cons_zero, List.set_cons_succ]
              refine wpAnyH_take (i := 1) (v := ?_) rfl (by kernel_rfl) (by kernel_rfl) (by kernel_rfl) (fun _ _ _ h => h) (Or.inl ⟨by rfl, ?_⟩) (by assumption) ?_
              rotate_left
              · intro wS hSw; obtain ⟨q1, q2⟩ := kc.out wS hSw; go_simp; (try with_reducible rfl)
              change wpAnyH _ _ _ _ _ _ _ (Act.put _ (some 62) _) _
              simp only [Act.put, List.setIfInBounds_toArray, List.set_cons_zero, List.set_cons_succ]
              refine wpAnyH_take (i := 2) (v := ?_) rfl (by kernel_rfl) (by kernel_rfl) (by kernel_rfl) (fun _ _ _ h => h) (Or.inl ⟨by rfl, ?_⟩) (by assumption) ?_
              rotate_left
              · intro wS hSw; skip; go_simp; (try with_reducible rfl)
              change wpAnyH _ _ _ _ _ _ _ (Act.put _ (some 63) _) _
              simp only [Act.put, List.setIfInBounds_toArray, List.set_cons_zero, List.set_cons_succ]
              refine wpAnyH_take (i := 3) (v := ?_) rfl (by kernel_rfl) (by kernel_rfl) (by kernel_rfl) (fun _ _ _ h => h) (Or.inl ⟨by rfl, ?_⟩) (by assumption) ?_
              rotate_left
              · intro wS hSw; skip; go_simp; (try with_reducible rfl)
              change wpAnyH _ _ _ _ _ _ _ (Act.put _ (some 64) _) _
              simp only [Act.put, List.setIfInBounds_toArray, List.set_cons_zero, List.set_cons_succ]
              refine wpAnyH_take (i := 4) rfl (by kernel_rfl) (by kernel_rfl) (by kernel_rfl) (fun _ _ _ h => h) (yieldsIf_load_mid (by rfl) 70 (.tmp 64) rfl g (off + 0 * 12) rfl cu _ (fun w' h => KR.out w' h) Try.underlying70 rfl hus.out) (by assumption) ?_
              change wpAnyH _ _ _ _ _ _ _ (Act.put _ (some 65) _) _
              simp only [Act.put, List.setIfInBounds_toArray, List.set_cons_zero, List.set_cons_succ]
              refine wpAnyH_ready (rs := [5]) (by kernel_rfl) (by simp) ?_
              refine AllReadyH.cons rfl (fun K hK => ?_) AllReadyH.nil
              go_simp
              refine (update_ y cu _ (UB.out _ hHeld)).mono ?_
              rintro e w4 ⟨q, rfl, hb4⟩
              have hW4 : Below (w.heap.size + 1) W w4 := hHeld.trans (hb4.mono (by have := hHeld.size; rw [e4.out] at this; exact this))
              clear hb4
              cases q with
              | false =>
                go_wp2_with fail
                refine hK.out _ _ (hW4) (fun hHeld => ?_)
                clear hK K
                (try simp only [Act.put, List.setIfInBounds_toArray, List.set_cons_zero, List.set_cons_succ])
                have hHH := hHeld
                refine wpAnyH_take (i := 6) (v := ?_) rfl (by kernel_rfl) (by kernel_rfl) (by kernel_rfl) (fun _ _ _ h => h) (Or.inl ⟨by rfl, ?_⟩) (by assumption) ?_
                rotate_left
                · intro wS hSw; skip; go_simp; (try with_reducible rfl)
                change wpAnyH _ _ _ _ _ _ _ (Act.put _ (some 67) _) _
                simp only [Act.put, List.setIfInBounds_toArray, List.set_cons_zero, List.set_cons_succ]
                refine wpAnyH_take (i := 7) (v := ?_) rfl (by kernel_rfl) (by kernel_rfl) (by kernel_rfl) (fun _ _ _ h => h) (Or.inl ⟨by rfl, ?_⟩) (by assumption) ?_
                rotate_left
                · intro wS hSw; skip; go_simp; (try with_reducible rfl)
                change wpAnyH _ _ _ _ _ _ _ (Act.put _ (some 68) _) _
                simp only [Act.put, List.setIfInBounds_toArray, List.set_cons_zero, List.set_cons_succ]
                refine wpAnyH_take (i := 8) (v := undef) rfl (by kernel_rfl) (by kernel_rfl) (by kernel_rfl) (fun _ _ _ h => h) (Or.inr ⟨by rfl, rfl⟩) (by assumption) ?_
                change wpAnyH _ _ _ _ _ _ _ (Act.put _ (some 69) _) _
                simp only [Act.put, List.setIfInBounds_toArray, List.set_cons_zero, List.set_cons_succ]
                refine wpAnyH_take (i := 9) (v := undef) rfl (by kernel_rfl) (by kernel_rfl) (by kernel_rfl) (fun _ _ _ h => h) (Or.inr ⟨by rfl, rfl⟩) (by assumption) ?_
                change wpAnyH _ _ _ _ _ _ _ (Act.put _ (some 70) _) _
                simp only [Act.put, List.setIfInBounds_toArray, List.set_cons_zero, List.set_cons_succ]
                refine wpAnyH_take (i := 10) (v := undef) rfl (by kernel_rfl) (by kernel_rfl) (by kernel_rfl) (fun _ _ _ h => h) (Or.inr ⟨by rfl, rfl⟩) (by assumption) ?_
                change wpAnyH _ _ _ _ _ _ _ (Act.put _ (some 71) _) _
                simp only [Act.put, List.setIfInBounds_toArray, List.set_cons_zero, List.set_cons_succ]
                refine wpAnyH_take (i := 11) (v := undef) rfl (by kernel_rfl) (by kernel_rfl) (by kernel_rfl) (fun _ _ _ h => h) (Or.inr ⟨by rfl, rfl⟩) (by assumption) ?_
                change wpAnyH _ _ _ _ _ _ _ (Act.put _ (some 72) _) _
                simp only [Act.put, List.setIfInBounds_toArray, List.set_cons_zero, List.set_cons_succ]
                refine wpAnyH_take (i := 12) (v := undef) rfl (by kernel_rfl) (by kernel_rfl) (by kernel_rfl) (fun _ _ _ h => h) (Or.inr ⟨by rfl, rfl⟩) (by assumption) ?_
                change wpAnyH _ _ _ _ _ _ _ (Act.put _ (some 73) _) _
                simp only [Act.put, List.setIfInBounds_toArray, List.set_cons_zero, List.set_cons_succ]
                refine wpAnyH_take (i := 13) (v := undef) rfl (by kernel_rfl) (by kernel_rfl) (by kernel_rfl) (fun _ _ _ h => h) (Or.inr ⟨by rfl, rfl⟩) (by assumption) ?_
                change wpAnyH _ _ _ _ _ _ _ (Act.put _ (some 74) _) _
                simp only [Act.put, List.setIfInBounds_toArray, List.set_cons_zero, List.set_cons_succ]
                refine wpAnyH_take (i := 14) (v := undef) rfl (by kernel_rfl) (by kernel_rfl) (by kernel_rfl) (fun _ _ _ h => h) (Or.inr ⟨by rfl, rfl⟩) (by assumption) ?_
                change wpAnyH _ _ _ _ _ _ _ (Act.put _ (some 75) _) _
                simp only [Act.put, List.setIfInBounds_toArray, List.set_cons_zero, List.set_cons_succ]
                refine wpAnyH_take (i := 15) (v := undef) rfl (by kernel_rfl) (by kernel_rfl) (by kernel_rfl) (fun _ _ _ h => h) (Or.inr ⟨by rfl, rfl⟩) (by assumption) ?_
                change wpAnyH _ _ _ _ _ _ _ (Act.put _ (some 76) _) _
                simp only [Act.put, List.setIfInBounds_toArray, List.set_cons_zero, List.set_cons_succ]
                refine wpAnyH_take (i := 16) (v := undef) rfl (by kernel_rfl) (by kernel_rfl) (by kernel_rfl) (fun _ _ _ h => h) (Or.inr ⟨by rfl, rfl⟩) (by assumption) ?_
                change wpAnyH _ _ _ _ _ _ _ (Act.put _ (some 77) _) _
                simp only [Act.put, List.setIfInBounds_toArray, List.set_cons_zero, List.set_cons_succ]
                refine wpAnyH_take (i := 17) (v := undef) rfl (by kernel_rfl) (by kernel_rfl) (by kernel_rfl) (fun _ _ _ h => h) (Or.inr ⟨by rfl, rfl⟩) (by assumption) ?_
                change wpAnyH _ _ _ _ _ _ _ (Act.put _ (some 78) _) _
                simp only [Act.put, List.setIfInBounds_toArray, List.set_cons_zero, List.set_cons_succ]
                refine wpAnyH_take (i := 18) (v := undef) rfl (by kernel_rfl) (by kernel_rfl) (by kernel_rfl) (fun _ _ _ h => h) (Or.inr ⟨by rfl, rfl⟩) (by assumption) ?_
                change wpAnyH _ _ _ _ _ _ _ (Act.put _ (some 79) _) _
                simp only [Act.put, List.setIfInBounds_toArray, List.set_cons_zero, List.set_cons_succ]
                refine wpAnyH_take (i := 19) (v := undef) rfl (by kernel_rfl) (by kernel_rfl) (by kernel_rfl) (fun _ _ _ h => h) (Or.inr ⟨by rfl, rfl⟩) (by assumption) ?_
                change wpAnyH _ _ _ _ _ _ _ (Act.put _ (some 80) _) _
                simp only [Act.put, List.setIfInBounds_toArray, List.set_cons_zero, List.set_cons_succ]
                refine wpAnyH_take (i := 20) (v := undef) rfl (by kernel_rfl) (by kernel_rfl) (by kernel_rfl) (fun _ _ _ h => h) (Or.inr ⟨by rfl, rfl⟩) (by assumption) ?_
                change wpAnyH _ _ _ _ _ _ _ (Act.put _ (some 81) _) _
                simp only [Act.put, List.setIfInBounds_toArray, List.set_cons_zero, List.set_cons_succ]
                refine wpAnyH_take (i := 21) (v := undef) rfl (by kernel_rfl) (by kernel_rfl) (by kernel_rfl) (fun _ _ _ h => h) (Or.inr ⟨by rfl, rfl⟩) (by assumption) ?_
                change wpAnyH _ _ _ _ _ _ _ (Act.put _ (some 82) _) _
                simp only [Act.put, List.setIfInBounds_toArray, List.set_cons_zero, List.set_cons_succ]
                refine wpAnyH_take (i := 22) (v := undef) rfl (by kernel_rfl) (by kernel_rfl) (by kernel_rfl) (fun _ _ _ h => h) (Or.inr ⟨by rfl, rfl⟩) (by assumption) ?_
                change wpAnyH _ _ _ _ _ _ _ (Act.put _ (some 83) _) _
                simp only [Act.put, List.setIfInBounds_toArray, List.set_cons_zero, List.set_cons_succ]
                refine wpAnyH_take (i := 23) (v := undef) rfl (by kernel_rfl) (by kernel_rfl) (by kernel_rfl) (fun _ _ _ h => h) (Or.inr ⟨by rfl, rfl⟩) (by assumption) ?_
                change wpAnyH _ _ _ _ _ _ _ (Act.put _ (some 84) _) _
                simp only [Act.put, List.setIfInBounds_toArray, List.set_cons_zero, List.set_cons_succ]
                refine wpAnyH_take (i := 24) (v := undef) rfl (by kernel_rfl) (by kernel_rfl) (by kernel_rfl) (fun _ _ _ h => h) (Or.inr ⟨by rfl, rfl⟩) (by assumption) ?_
                change wpAnyH _ _ _ _ _ _ _ (Act.put _ (some 85) _) _
                simp only [Act.put, List.setIfInBounds_toArray, List.set_cons_zero, List.set_cons_succ]
                refine wpAnyH_take (i := 25) (v := undef) rfl (by kernel_rfl) (by kernel_rfl) (by kernel_rfl) (fun _ _ _ h => h) (Or.inr ⟨by rfl, rfl⟩) (by assumption) ?_
                change wpAnyH _ _ _ _ _ _ _ (Act.put _ (some 86) _) _
                simp only [Act.put, List.setIfInBounds_toArray, List.set_cons_zero, List.set_cons_succ]
                refine wpAnyH_take (i := 26) (v := ?_) rfl (by kernel_rfl) (by kernel_rfl) (by kernel_rfl) (fun _ _ _ h => h) (Or.inl ⟨by rfl, ?_⟩) (by assumption) ?_
                rotate_left
                · intro wS hSw; skip; go_simp; (try with_reducible rfl)
                change wpAnyH _ _ _ _ _ _ _ (Act.put _ (some 87) _) _
                simp only [Act.put, List.setIfInBounds_toArray, List.set_cons_zero, List.set_cons_succ]
                refine wpAnyH_done (by kernel_rfl) ?_ _
                go_wp2_with fail
                go_meet
                exact ⟨⟨_, rfl⟩, hHH⟩
              | true =>
                go_wp2_with fail
                refine hK.out _ _ (hW4) (fun hHeld => ?_)
                clear hK K
                (try simp only [Act.put, List.setIfInBounds_toArray, List.set_cons_zero, List.set_cons_succ])
                have hHH := hHeld
                refine wpAnyH_take (i := 6) (v := ?_) rfl (by kernel_rfl) (by kernel_rfl) (by kernel_rfl) (fun _ _ _ h => h) (Or.inl ⟨by rfl, ?_⟩) (by assumption) ?_
                rotate_left
                · intro wS hSw; skip; go_simp; (try with_reducible rfl)
                change wpAnyH _ _ _ _ _ _ _ (Act.put _ (some 67) _) _
                simp only [Act.put, List.setIfInBounds_toArray, List.set_cons_zero, List.set_cons_succ]
                refine wpAnyH_take (i := 7) (v := ?_) rfl (by kernel_rfl) (by kernel_rfl) (by kernel_rfl) (fun _ _ _ h => h) (Or.inl ⟨by rfl, ?_⟩) (by assumption) ?_
                rotate_left
                · intro wS hSw; skip; go_simp; (try with_reducible rfl)
                change wpAnyH _ _ _ _ _ _ _ (Act.put _ (some 68) _) _
                simp only [Act.put, List.setIfInBounds_toArray, List.set_cons_zero, List.set_cons_succ]
                refine wpAnyH_take (i := 8) (v := ?_) rfl (by kernel_rfl) (by kernel_rfl) (by kernel_rfl) (fun _ _ _ h => h) (Or.inl ⟨by rfl, ?_⟩) (by assumption) ?_
                rotate_left
                · intro wS hSw; skip; go_simp; (try with_reducible rfl)
                change wpAnyH _ _ _ _ _ _ _ (Act.put _ (some 69) _) _
                simp only [Act.put, List.setIfInBounds_toArray, List.set_cons_zero, List.set_cons_succ]
                refine wpAnyH_take (i := 9) (v := ?_) rfl (by kernel_rfl) (by kernel_rfl) (by kernel_rfl) (fun _ _ _ h => h) (Or.inl ⟨by rfl, ?_⟩) (by assumption) ?_
                rotate_left
                · intro wS hSw; skip; go_simp; (try with_reducible rfl)
                change wpAnyH _ _ _ _ _ _ _ (Act.put _ (some 70) _) _
                simp only [Act.put, List.setIfInBounds_toArray, List.set_cons_zero, List.set_cons_succ]
                refine wpAnyH_take (i := 10) (v := ?_) rfl (by kernel_rfl) (by kernel_rfl) (by kernel_rfl) (fun _ _ _ h => h) (Or.inl ⟨by rfl, ?_⟩) (by assumption) ?_
                rotate_left
                · intro wS hSw; skip; go_simp; (try with_reducible rfl)
                change wpAnyH _ _ _ _ _ _ _ (Act.put _ (some 71) _) _
                simp only [Act.put, List.setIfInBounds_toArray, List.set_cons_zero, List.set_cons_succ]
                refine wpAnyH_take (i := 11) (v := undef) rfl (by kernel_rfl) (by kernel_rfl) (by kernel_rfl) (fun _ _ _ h => h) (Or.inr ⟨by rfl, rfl⟩) (by assumption) ?_
                change wpAnyH _ _ _ _ _ _ _ (Act.put _ (some 72) _) _
                simp only [Act.put, List.setIfInBounds_toArray, List.set_cons_zero, List.set_cons_succ]
                refine wpAnyH_take (i := 12) (v := undef) rfl (by kernel_rfl) (by kernel_rfl) (by kernel_rfl) (fun _ _ _ h => h) (Or.inr ⟨by rfl, rfl⟩) (by assumption) ?_
                change wpAnyH _ _ _ _ _ _ _ (Act.put _ (some 73) _) _
                simp only [Act.put, List.setIfInBounds_toArray, List.set_cons_zero, List.set_cons_succ]
                refine wpAnyH_take (i := 13) (v := undef) rfl (by kernel_rfl) (by kernel_rfl) (by kernel_rfl) (fun _ _ _ h => h) (Or.inr ⟨by rfl, rfl⟩) (by assumption) ?_
                change wpAnyH _ _ _ _ _ _ _ (Act.put _ (some 74) _) _
                simp only [Act.put, List.setIfInBounds_toArray, List.set_cons_zero, List.set_cons_succ]
                refine wpAnyH_take (i := 14) (v := undef) rfl (by kernel_rfl) (by kernel_rfl) (by kernel_rfl) (fun _ _ _ h => h) (Or.inr ⟨by rfl, rfl⟩) (by assumption) ?_
                change wpAnyH _ _ _ _ _ _ _ (Act.put _ (some 75) _) _
                simp only [Act.put, List.setIfInBounds_toArray, List.set_cons_zero, List.set_cons_succ]
                refine wpAnyH_take (i := 15) (v := undef) rfl (by kernel_rfl) (by kernel_rfl) (by kernel_rfl) (fun _ _ _ h => h) (Or.inr ⟨by rfl, rfl⟩) (by assumption) ?_
                change wpAnyH _ _ _ _ _ _ _ (Act.put _ (some 76) _) _
                simp only [Act.put, List.setIfInBounds_toArray, List.set_cons_zero, List.set_cons_succ]
                refine wpAnyH_take (i := 16) (v := undef) rfl (by kernel_rfl) (by kernel_rfl) (by kernel_rfl) (fun _ _ _ h => h) (Or.inr ⟨by rfl, rfl⟩) (by assumption) ?_
                change wpAnyH _ _ _ _ _ _ _ (Act.put _ (some 77) _) _
                simp only [Act.put, List.setIfInBounds_toArray, List.set_cons_zero, List.set_cons_succ]
                refine wpAnyH_take (i := 17) (v := undef) rfl (by kernel_rfl) (by kernel_rfl) (by kernel_rfl) (fun _ _ _ h => h) (Or.inr ⟨by rfl, rfl⟩) (by assumption) ?_
                change wpAnyH _ _ _ _ _ _ _ (Act.put _ (some 78) _) _
                simp only [Act.put, List.setIfInBounds_toArray, List.set_cons_zero, List.set_cons_succ]
                refine wpAnyH_take (i := 18) (v := undef) rfl (by kernel_rfl) (by kernel_rfl) (by kernel_rfl) (fun _ _ _ h => h) (Or.inr ⟨by rfl, rfl⟩) (by assumption) ?_
                change wpAnyH _ _ _ _ _ _ _ (Act.put _ (some 79) _) _
                simp only [Act.put, List.setIfInBounds_toArray, List.set_cons_zero, List.set_cons_succ]
                refine wpAnyH_take (i := 19) (v := undef) rfl (by kernel_rfl) (by kernel_rfl) (by kernel_rfl) (fun _ _ _ h => h) (Or.inr ⟨by rfl, rfl⟩) (by assumption) ?_
                change wpAnyH _ _ _ _ _ _ _ (Act.put _ (some 80) _) _
                simp only [Act.put, List.setIfInBounds_toArray, List.set_cons_zero, List.set_cons_succ]
                refine wpAnyH_take (i := 20) (v := undef) rfl (by kernel_rfl) (by kernel_rfl) (by kernel_rfl) (fun _ _ _ h => h) (Or.inr ⟨by rfl, rfl⟩) (by assumption) ?_
                change wpAnyH _ _ _ _ _ _ _ (Act.put _ (some 81) _) _
                simp only [Act.put, List.setIfInBounds_toArray, List.set_cons_zero, List.set_cons_succ]
                refine wpAnyH_take (i := 21) (v := undef) rfl (by kernel_rfl) (by kernel_rfl) (by kernel_rfl) (fun _ _ _ h => h) (Or.inr ⟨by rfl, rfl⟩) (by assumption) ?_
                change wpAnyH _ _ _ _ _ _ _ (Act.put _ (some 82) _) _
                simp only [Act.put, List.setIfInBounds_toArray, List.set_cons_zero, List.set_cons_succ]
                refine wpAnyH_take (i := 22) (v := undef) rfl (by kernel_rfl) (by kernel_rfl) (by kernel_rfl) (fun _ _ _ h => h) (Or.inr ⟨by rfl, rfl⟩) (by assumption) ?_
                change wpAnyH _ _ _ _ _ _ _ (Act.put _ (some 83) _) _
                simp only [Act.put, List.setIfInBounds_toArray, List.set_cons_zero, List.set_cons_succ]
                refine wpAnyH_take (i := 23) (v := undef) rfl (by kernel_rfl) (by kernel_rfl) (by kernel_rfl) (fun _ _ _ h => h) (Or.inr ⟨by rfl, rfl⟩) (by assumption) ?_
                change wpAnyH _ _ _ _ _ _ _ (Act.put _ (some 84) _) _
                simp only [Act.put, List.setIfInBounds_toArray, List.set_cons_zero, List.set_cons_succ]
                refine wpAnyH_take (i := 24) (v := undef) rfl (by kernel_rfl) (by kernel_rfl) (by kernel_rfl) (fun _ _ _ h => h) (Or.inr ⟨by rfl, rfl⟩) (by assumption) ?_
                change wpAnyH _ _ _ _ _ _ _ (Act.put _ (some 85) _) _
                simp only [Act.put, List.setIfInBounds_toArray, List.set_cons_zero, List.set_cons_succ]
                refine wpAnyH_take (i := 25) (v := ?_) rfl (by kernel_rfl) (by kernel_rfl) (by kernel_rfl) (fun _ _ _ h => h) (Or.inl ⟨by rfl, ?_⟩) (by assumption) ?_
                rotate_left
                · intro wS hSw; skip; go_simp; (try with_reducible rfl)
                change wpAnyH _ _ _ _ _ _ _ (Act.put _ (some 86) _) _
                simp only [Act.put, List.setIfInBounds_toArray, List.set_cons_zero, List.set_cons_succ]
                refine wpAnyH_take (i := 26) (v := ?_) rfl (by kernel_rfl) (by kernel_rfl) (by kernel_rfl) (fun _ _ _ h => h) (Or.inl ⟨by rfl, ?_⟩) (by assumption) ?_
                rotate_left
                · intro wS hSw; skip; go_simp; (try with_reducible rfl)
                change wpAnyH _ _ _ _ _ _ _ (Act.put _ (some 87) _) _
                simp only [Act.put, List.setIfInBounds_toArray, List.set_cons_zero, List.set_cons_succ]
                refine wpAnyH_done (by kernel_rfl) ?_ _
                go_wp2_with fail
                go_meet
                exact ⟨⟨_, rfl⟩, hHH⟩
            · obtain ⟨p, hp⟩ : ∃ p, i = p + 1 := ⟨i - 1, by omega⟩
              obtain ⟨z, hz⟩ := hprev.out p hp
              have z0 : (0 : Int) < (i : Int) := by omega
              have z0' : decide ((0 : Int) < (i : Int)) = true := decide_eq_true z0
              have zw : IntKind.i64.wrap ((i : Int) - 1) = (p : Int) := by rw [IntKind.wrap_i64]; omega
              have zw' : IntKind.i64.wrap (p : Int) = (p : Int) := by rw [IntKind.wrap_i64]; omega
              have zb : (0 : Int) ≤ (p : Int) := by omega
              have zb2 : (p : Int) < (m : Int) := by omega
              replace hz := Lib.hid hz
              replace hp := Lib.hid hp
              refine wp_region_held_drew (S := Below (w.heap.size + 1) W) (by kernel_rfl) hS0 (fun hHeld => ?_)
              refine wpAnyH_take (i := 0) (v := ?_) rfl (by kernel_rfl) (by kernel_rfl) (by kernel_rfl) (fun _ _ _ h => h) (Or.inl ⟨by rfl, ?_⟩) (by assumption) ?_
              rotate_left
              · intro wS hSw; skip; go_simp; (try with_reducible rfl)
              change wpAnyH _ _ _ _ _ _ _ (Act.put _ (some 61) _) _
              simp only [Act.put, List.setIfInBounds_toArray, List.set_cons_zero, List.set_cons_succ]
              refine wpAnyH_take (i := 1) (v := ?_) rfl (by kernel_rfl) (by kernel_rfl) (by kernel_rfl) (fun _ _ _ h => h) (Or.inl ⟨by rfl, ?_⟩) (by assumption) ?_
              rotate_left
              · intro wS hSw; obtain ⟨q1, q2⟩ := kc.out wS hSw; go_simp; (try with_reducible rfl)
              change wpAnyH _ _ _ _ _ _ _ (Act.put _ (some 62) _) _
              simp only [Act.put, List.setIfInBounds_toArray, List.set_cons_zero, List.set_cons_succ]
              refine wpAnyH_take (i := 2) (v := ?_) rfl (by kernel_rfl) (by kernel_rfl) (by kernel_rfl) (fun _ _ _ h => h) (Or.inl ⟨by rfl, ?_⟩) (by assumption) ?_
              rotate_left
              · intro wS hSw; skip; go_simp; (try with_reducible rfl)
              change wpAnyH _ _ _ _ _ _ _ (Act.put _ (some 63) _) _
              simp only [Act.put, List.setIfInBounds_toArray, List.set_cons_zero, List.set_cons_succ]
              refine wpAnyH_take (i := 3) (v := ?_) rfl (by kernel_rfl) (by kernel_rfl) (by kernel_rfl) (fun _ _ _ h => h) (Or.inl ⟨by rfl, ?_⟩) (by assumption) ?_
              rotate_left
              · intro wS hSw; skip; go_simp; (try with_reducible rfl)
              change wpAnyH _ _ _ _ _ _ _ (Act.put _ (some 64) _) _
              simp only [Act.put, List.setIfInBounds_toArray, List.set_cons_zero, List.set_cons_succ]
              refine wpAnyH_take (i := 4) rfl (by kernel_rfl) (by kernel_rfl) (by kernel_rfl) (fun _ _ _ h => h) (yieldsIf_load_mid (by rfl) 70 (.tmp 64) rfl g (off + i * 12) rfl cu _ (fun w' h => KR.out w' h) Try.underlying70 rfl hus.out) (by assumption) ?_
              change wpAnyH _ _ _ _ _ _ _ (Act.put _ (some 65) _) _
              simp only [Act.put, List.setIfInBounds_toArray, List.set_cons_zero, List.set_cons_succ]
              refine wpAnyH_ready (rs := [5]) (by kernel_rfl) (by simp) ?_
              refine AllReadyH.cons rfl (fun K hK => ?_) AllReadyH.nil
              go_simp
              refine (update_ y cu _ (UB.out _ hHeld)).mono ?_
              rintro e w4 ⟨q, rfl, hb4⟩
              have hW4 : Below (w.heap.size + 1) W w4 := hHeld.trans (hb4.mono (by have := hHeld.size; rw [e4.out] at this; exact this))
              clear hb4
              cases q with
              | false =>
                go_wp2_with fail
                refine hK.out _ _ (hW4) (fun hHeld => ?_)
                clear hK K
                (try simp only [Act.put, List.setIfInBounds_toArray, List.set_cons_zero, List.set_cons_succ])
                have hHH := hHeld
                refine wpAnyH_take (i := 6) (v := ?_) rfl (by kernel_rfl) (by kernel_rfl) (by kernel_rfl) (fun _ _ _ h => h) (Or.inl ⟨by rfl, ?_⟩) (by assumption) ?_
                rotate_left
                · intro wS hSw; skip; go_simp; (try with_reducible rfl)
                change wpAnyH _ _ _ _ _ _ _ (Act.put _ (some 67) _) _
                simp only [Act.put, List.setIfInBounds_toArray, List.set_cons_zero, List.set_cons_succ]
                refine wpAnyH_take (i := 7) (v := ?_) rfl (by kernel_rfl) (by kernel_rfl) (by kernel_rfl) (fun _ _ _ h => h) (Or.inl ⟨by rfl, ?_⟩) (by assumption) ?_
                rotate_left
                · intro wS hSw; skip; go_simp; (try with_reducible rfl)
                change wpAnyH _ _ _ _ _ _ _ (Act.put _ (some 68) _) _
                simp only [Act.put, List.setIfInBounds_toArray, List.set_cons_zero, List.set_cons_succ]
                refine wpAnyH_take (i := 8) (v := undef) rfl (by kernel_rfl) (by kernel_rfl) (by kernel_rfl) (fun _ _ _ h => h) (Or.inr ⟨by rfl, rfl⟩) (by assumption) ?_
                change wpAnyH _ _ _ _ _ _ _ (Act.put _ (some 69) _) _
                simp only [Act.put, List.setIfInBounds_toArray, List.set_cons_zero, List.set_cons_succ]
                refine wpAnyH_take (i := 9) (v := undef) rfl (by kernel_rfl) (by kernel_rfl) (by kernel_rfl) (fun _ _ _ h => h) (Or.inr ⟨by rfl, rfl⟩) (by assumption) ?_
                change wpAnyH _ _ _ _ _ _ _ (Act.put _ (some 70) _) _
                simp only [Act.put, List.setIfInBounds_toArray, List.set_cons_zero, List.set_cons_succ]
                refine wpAnyH_take (i := 10) (v := undef) rfl (by kernel_rfl) (by kernel_rfl) (by kernel_rfl) (fun _ _ _ h => h) (Or.inr ⟨by rfl, rfl⟩) (by assumption) ?_
                change wpAnyH _ _ _ _ _ _ _ (Act.put _ (some 71) _) _
                simp only [Act.put, List.setIfInBounds_toArray, List.set_cons_zero, List.set_cons_succ]
                refine wpAnyH_take (i := 11) (v := undef) rfl (by kernel_rfl) (by kernel_rfl) (by kernel_rfl) (fun _ _ _ h => h) (Or.inr ⟨by rfl, rfl⟩) (by assumption) ?_
                change wpAnyH _ _ _ _ _ _ _ (Act.put _ (some 72) _) _
                simp only [Act.put, List.setIfInBounds_toArray, List.set_cons_zero, List.set_cons_succ]
                refine wpAnyH_take (i := 12) (v := undef) rfl (by kernel_rfl) (by kernel_rfl) (by kernel_rfl) (fun _ _ _ h => h) (Or.inr ⟨by rfl, rfl⟩) (by assumption) ?_
                change wpAnyH _ _ _ _ _ _ _ (Act.put _ (some 73) _) _
                simp only [Act.put, List.setIfInBounds_toArray, List.set_cons_zero, List.set_cons_succ]
                refine wpAnyH_take (i := 13) (v := undef) rfl (by kernel_rfl) (by kernel_rfl) (by kernel_rfl) (fun _ _ _ h => h) (Or.inr ⟨by rfl, rfl⟩) (by assumption) ?_
                change wpAnyH _ _ _ _ _ _ _ (Act.put _ (some 74) _) _
                simp only [Act.put, List.setIfInBounds_toArray, List.set_cons_zero, List.set_cons_succ]
                refine wpAnyH_take (i := 14) (v := undef) rfl (by kernel_rfl) (by kernel_rfl) (by kernel_rfl) (fun _ _ _ h => h) (Or.inr ⟨by rfl, rfl⟩) (by assumption) ?_
                change wpAnyH _ _ _ _ _ _ _ (Act.put _ (some 75) _) _
                simp only [Act.put, List.setIfInBounds_toArray, List.set_cons_zero, List.set_cons_succ]
                refine wpAnyH_take (i := 15) (v := undef) rfl (by kernel_rfl) (by kernel_rfl) (by kernel_rfl) (fun _ _ _ h => h) (Or.inr ⟨by rfl, rfl⟩) (by assumption) ?_
                change wpAnyH _ _ _ _ _ _ _ (Act.put _ (some 76) _) _
                simp only [Act.put, List.setIfInBounds_toArray, List.set_cons_zero, List.set_cons_succ]
                refine wpAnyH_take (i := 16) (v := undef) rfl (by kernel_rfl) (by kernel_rfl) (by kernel_rfl) (fun _ _ _ h => h) (Or.inr ⟨by rfl, rfl⟩) (by assumption) ?_
                change wpAnyH _ _ _ _ _ _ _ (Act.put _ (some 77) _) _
                simp only [Act.put, List.setIfInBounds_toArray, List.set_cons_zero, List.set_cons_succ]
                refine wpAnyH_take (i := 17) (v := undef) rfl (by kernel_rfl) (by kernel_rfl) (by kernel_rfl) (fun _ _ _ h => h) (Or.inr ⟨by rfl, rfl⟩) (by assumption) ?_
                change wpAnyH _ _ _ _ _ _ _ (Act.put _ (some 78) _) _
                simp only [Act.put, List.setIfInBounds_toArray, List.set_cons_zero, List.set_cons_succ]
                refine wpAnyH_take (i := 18) (v := undef) rfl (by kernel_rfl) (by kernel_rfl) (by kernel_rfl) (fun _ _ _ h => h) (Or.inr ⟨by rfl, rfl⟩) (by assumption) ?_
                change wpAnyH _ _ _ _ _ _ _ (Act.put _ (some 79) _) _
                simp only [Act.put, List.setIfInBounds_toArray, List.set_cons_zero, List.set_cons_succ]
                refine wpAnyH_take (i := 19) (v := undef) rfl (by kernel_rfl) (by kernel_rfl) (by kernel_rfl) (fun _ _ _ h => h) (Or.inr ⟨by rfl, rfl⟩) (by assumption) ?_
                change wpAnyH _ _ _ _ _ _ _ (Act.put _ (some 80) _) _
                simp only [Act.put, List.setIfInBounds_toArray, List.set_cons_zero, List.set_cons_succ]
                refine wpAnyH_take (i := 20) (v := undef) rfl (by kernel_rfl) (by kernel_rfl) (by kernel_rfl) (fun _ _ _ h => h) (Or.inr ⟨by rfl, rfl⟩) (by assumption) ?_
                change wpAnyH _ _ _ _ _ _ _ (Act.put _ (some 81) _) _
                simp only [Act.put, List.setIfInBounds_toArray, List.set_cons_zero, List.set_cons_succ]
                refine wpAnyH_take (i := 21) (v := undef) rfl (by kernel_rfl) (by kernel_rfl) (by kernel_rfl) (fun _ _ _ h => h) (Or.inr ⟨by rfl, rfl⟩) (by assumption) ?_
                change wpAnyH _ _ _ _ _ _ _ (Act.put _ (some 82) _) _
                simp only [Act.put, List.setIfInBounds_toArray, List.set_cons_zero, List.set_cons_succ]
                refine wpAnyH_take (i := 22) (v := undef) rfl (by kernel_rfl) (by kernel_rfl) (by kernel_rfl) (fun _ _ _ h => h) (Or.inr ⟨by rfl, rfl⟩) (by assumption) ?_
                change wpAnyH _ _ _ _ _ _ _ (Act.put _ (some 83) _) _
                simp only [Act.put, List.setIfInBounds_toArray, List.set_cons_zero, List.set_cons_succ]
                refine wpAnyH_take (i := 23) (v := undef) rfl (by kernel_rfl) (by kernel_rfl) (by kernel_rfl) (fun _ _ _ h => h) (Or.inr ⟨by rfl, rfl⟩) (by assumption) ?_
                change wpAnyH _ _ _ _ _ _ _ (Act.put _ (some 84) _) _
                simp only [Act.put, List.setIfInBounds_toArray, List.set_cons_zero, List.set_cons_succ]
                refine wpAnyH_take (i := 24) (v := undef) rfl (by kernel_rfl) (by kernel_rfl) (by kernel_rfl) (fun _ _ _ h => h) (Or.inr ⟨by rfl, rfl⟩) (by assumption) ?_
                change wpAnyH _ _ _ _ _ _ _ (Act.put _ (some 85) _) _
                simp only [Act.put, List.setIfInBounds_toArray, List.set_cons_zero, List.set_cons_succ]
                refine wpAnyH_take (i := 25) (v := undef) rfl (by kernel_rfl) (by kernel_rfl) (by kernel_rfl) (fun _ _ _ h => h) (Or.inr ⟨by rfl, rfl⟩) (by assumption) ?_
                change wpAnyH _ _ _ _ _ _ _ (Act.put _ (some 86) _) _
                simp only [Act.put, List.setIfInBounds_toArray, List.set_cons_zero, List.set_cons_succ]
                refine wpAnyH_take (i := 26) (v := ?_) rfl (by kernel_rfl) (by kernel_rfl) (by kernel_rfl) (fun _ _ _ h => h) (Or.inl ⟨by rfl, ?_⟩) (by assumption) ?_
                rotate_left
                · intro wS hSw; skip; go_simp; (try with_reducible rfl)
                change wpAnyH _ _ _ _ _ _ _ (Act.put _ (some 87) _) _
                simp only [Act.put, List.setIfInBounds_toArray, List.set_cons_zero, List.set_cons_succ]
                refine wpAnyH_done (by kernel_rfl) ?_ _
                go_wp2_with fail
                go_meet
                exact ⟨⟨_, rfl⟩, hHH⟩
              | true =>
                go_wp2_with fail
                refine hK.out _ _ (hW4) (fun hHeld => ?_)
                clear hK K
                (try simp only [Act.put, List.setIfInBounds_toArray, List.set_cons_zero, List.set_cons_succ])
                have hHH := hHeld
                refine wpAnyH_take (i := 6) (v := ?_) rfl (by kernel_rfl) (by kernel_rfl) (by kernel_rfl) (fun _ _ _ h => h) (Or.inl ⟨by rfl, ?_⟩) (by assumption) ?_
                rotate_left
                · intro wS hSw; skip; go_simp; (try with_reducible rfl)
                change wpAnyH _ _ _ _ _ _ _ (Act.put _ (some 67) _) _
                simp only [Act.put, List.setIfInBounds_toArray, List.set_cons_zero, List.set_cons_succ]
                refine wpAnyH_take (i := 7) (v := ?_) rfl (by kernel_rfl) (by kernel_rfl) (by kernel_rfl) (fun _ _ _ h => h) (Or.inl ⟨by rfl, ?_⟩) (by assumption) ?_
                rotate_left
                · intro wS hSw; skip; go_simp; (try with_reducible rfl)
                change wpAnyH _ _ _ _ _ _ _ (Act.put _ (some 68) _) _
                simp only [Act.put, List.setIfInBounds_toArray, List.set_cons_zero, List.set_cons_succ]
                refine wpAnyH_take (i := 8) (v := ?_) rfl (by kernel_rfl) (by kernel_rfl) (by kernel_rfl) (fun _ _ _ h => h) (Or.inl ⟨by rfl, ?_⟩) (by assumption) ?_
                rotate_left
                · intro wS hSw; skip; go_simp; (try with_reducible rfl)
                change wpAnyH _ _ _ _ _ _ _ (Act.put _ (some 69) _) _
                simp only [Act.put, List.setIfInBounds_toArray, List.set_cons_zero, List.set_cons_succ]
                refine wpAnyH_take (i := 9) (v := ?_) rfl (by kernel_rfl) (by kernel_rfl) (by kernel_rfl) (fun _ _ _ h => h) (Or.inl ⟨by rfl, ?_⟩) (by assumption) ?_
                rotate_left
                · intro wS hSw; skip; go_simp; (try with_reducible rfl)
                change wpAnyH _ _ _ _ _ _ _ (Act.put _ (some 70) _) _
                simp only [Act.put, List.setIfInBounds_toArray, List.set_cons_zero, List.set_cons_succ]
                refine wpAnyH_take (i := 10) (v := ?_) rfl (by kernel_rfl) (by kernel_rfl) (by kernel_rfl) (fun _ _ _ h => h) (Or.inl ⟨by rfl, ?_⟩) (by assumption) ?_
                rotate_left
                · intro wS hSw; skip; go_simp; (try with_reducible rfl)
                change wpAnyH _ _ _ _ _ _ _ (Act.put _ (some 71) _) _
                simp only [Act.put, List.setIfInBounds_toArray, List.set_cons_zero, List.set_cons_succ]
                refine wpAnyH_take (i := 11) (v := ?_) rfl (by kernel_rfl) (by kernel_rfl) (by kernel_rfl) (fun _ _ _ h => h) (Or.inl ⟨by rfl, ?_⟩) (by assumption) ?_
                rotate_left
                · intro wS hSw; skip; go_simp; (try with_reducible rfl)
                change wpAnyH _ _ _ _ _ _ _ (Act.put _ (some 72) _) _
                simp only [Act.put, List.setIfInBounds_toArray, List.set_cons_zero, List.set_cons_succ]
                refine wpAnyH_take (i := 12) (v := ?_) rfl (by kernel_rfl) (by kernel_rfl) (by kernel_rfl) (fun _ _ _ h => h) (Or.inl ⟨by rfl, ?_⟩) (by assumption) ?_
                rotate_left
                · intro wS hSw; obtain ⟨q1, q2⟩ := kc.out wS hSw; go_simp; (try with_reducible rfl)
                change wpAnyH _ _ _ _ _ _ _ (Act.put _ (some 73) _) _
                simp only [Act.put, List.setIfInBounds_toArray, List.set_cons_zero, List.set_cons_succ]
                refine wpAnyH_take (i := 13) (v := ?_) rfl (by kernel_rfl) (by kernel_rfl) (by kernel_rfl) (fun _ _ _ h => h) (Or.inl ⟨by rfl, ?_⟩) (by assumption) ?_
                rotate_left
                · intro wS hSw; skip; go_simp; (try with_reducible rfl)
                change wpAnyH _ _ _ _ _ _ _ (Act.put _ (some 74) _) _
                simp only [Act.put, List.setIfInBounds_toArray, List.set_cons_zero, List.set_cons_succ]
                refine wpAnyH_take (i := 14) (v := ?_) rfl (by kernel_rfl) (by kernel_rfl) (by kernel_rfl) (fun _ _ _ h => h) (Or.inl ⟨by rfl, ?_⟩) (by assumption) ?_
                rotate_left
                · intro wS hSw; skip; go_simp; (try with_reducible rfl)
                change wpAnyH _ _ _ _ _ _ _ (Act.put _ (some 75) _) _
                simp only [Act.put, List.setIfInBounds_toArray, List.set_cons_zero, List.set_cons_succ]
                refine wpAnyH_take (i := 15) (v := ?_) rfl (by kernel_rfl) (by kernel_rfl) (by kernel_rfl) (fun _ _ _ h => h) (Or.inl ⟨by rfl, ?_⟩) (by assumption) ?_
                rotate_left
                · intro wS hSw; skip; go_simp; (try with_reducible rfl)
                change wpAnyH _ _ _ _ _ _ _ (Act.put _ (some 76) _) _
                simp only [Act.put, List.setIfInBounds_toArray, List.set_cons_zero, List.set_cons_succ]
                refine wpAnyH_take (i := 16) (v := ?_) rfl (by kernel_rfl) (by kernel_rfl) (by kernel_rfl) (fun _ _ _ h => h) (Or.inl ⟨by rfl, ?_⟩) (by assumption) ?_
                rotate_left
                · intro wS hSw; skip; go_simp; (try with_reducible rfl)
                change wpAnyH _ _ _ _ _ _ _ (Act.put _ (some 77) _) _
                simp only [Act.put, List.setIfInBounds_toArray, List.set_cons_zero, List.set_cons_succ]
                refine wpAnyH_take (i := 17) (v := ?_) rfl (by kernel_rfl) (by kernel_rfl) (by kernel_rfl) (fun _ _ _ h => h) (Or.inl ⟨by rfl, ?_⟩) (by assumption) ?_
                rotate_left
                · intro wS hSw; have qz := hz.out wS hSw; go_simp; (try with_reducible rfl)
                change wpAnyH _ _ _ _ _ _ _ (Act.put _ (some 78) _) _
                simp only [Act.put, List.setIfInBounds_toArray, List.set_cons_zero, List.set_cons_succ]
                refine wpAnyH_take (i := 18) (v := ?_) rfl (by kernel_rfl) (by kernel_rfl) (by kernel_rfl) (fun _ _ _ h => h) (Or.inl ⟨by rfl, ?_⟩) (by assumption) ?_
                rotate_left
                · intro wS hSw; skip; go_simp; (try with_reducible rfl)
                change wpAnyH _ _ _ _ _ _ _ (Act.put _ (some 79) _) _
                simp only [Act.put, List.setIfInBounds_toArray, List.set_cons_zero, List.set_cons_succ]
                refine wpAnyH_take (i := 19) (v := ?_) rfl (by kernel_rfl) (by kernel_rfl) (by kernel_rfl) (fun _ _ _ h => h) (Or.inl ⟨by rfl, ?_⟩) (by assumption) ?_
                rotate_left
                · intro wS hSw; obtain ⟨q1, q2⟩ := kc.out wS hSw; go_simp; (try with_reducible rfl)
                change wpAnyH _ _ _ _ _ _ _ (Act.put _ (some 80) _) _
                simp only [Act.put, List.setIfInBounds_toArray, List.set_cons_zero, List.set_cons_succ]
                refine wpAnyH_take (i := 20) (v := ?_) rfl (by kernel_rfl) (by kernel_rfl) (by kernel_rfl) (fun _ _ _ h => h) (Or.inl ⟨by rfl, ?_⟩) (by assumption) ?_
                rotate_left
                · intro wS hSw; skip; go_simp; (try with_reducible rfl)
                change wpAnyH _ _ _ _ _ _ _ (Act.put _ (some 81) _) _
                simp only [Act.put, List.setIfInBounds_toArray, List.set_cons_zero, List.set_cons_succ]
                refine wpAnyH_take (i := 21) (v := ?_) rfl (by kernel_rfl) (by kernel_rfl) (by kernel_rfl) (fun _ _ _ h => h) (Or.inl ⟨by rfl, ?_⟩) (by assumption) ?_
                rotate_left
                · intro wS hSw; skip; go_simp; (try with_reducible rfl)
                change wpAnyH _ _ _ _ _ _ _ (Act.put _ (some 82) _) _
                simp only [Act.put, List.setIfInBounds_toArray, List.set_cons_zero, List.set_cons_succ]
                refine wpAnyH_take (i := 22) (v := ?_) rfl (by kernel_rfl) (by kernel_rfl) (by kernel_rfl) (fun _ _ _ h => h) (Or.inl ⟨by rfl, ?_⟩) (by assumption) ?_
                rotate_left
                · intro wS hSw; skip; go_simp; (try with_reducible rfl)
                change wpAnyH _ _ _ _ _ _ _ (Act.put _ (some 83) _) _
                simp only [Act.put, List.setIfInBounds_toArray, List.set_cons_zero, List.set_cons_succ]
                refine wpAnyH_take (i := 23) (v := ?_) rfl (by kernel_rfl) (by kernel_rfl) (by kernel_rfl) (fun _ _ _ h => h) (Or.inl ⟨by rfl, ?_⟩) (by assumption) ?_
                rotate_left
                · intro wS hSw; have qz := KN.out wS hSw; go_simp; (try with_reducible rfl)
                change wpAnyH _ _ _ _ _ _ _ (Act.put _ (some 84) _) _
                simp only [Act.put, List.setIfInBounds_toArray, List.set_cons_zero, List.set_cons_succ]
                refine wpAnyH_take (i := 24) (v := ?_) rfl (by kernel_rfl) (by kernel_rfl) (by kernel_rfl) (fun _ _ _ h => h) (Or.inl ⟨by rfl, ?_⟩) (by assumption) ?_
                rotate_left
                · intro wS hSw; skip; go_simp; (try with_reducible rfl)
                change wpAnyH _ _ _ _ _ _ _ (Act.put _ (some 85) _) _
                simp only [Act.put, List.setIfInBounds_toArray, List.set_cons_zero, List.set_cons_succ]
                refine wpAnyH_take (i := 25) (v := ?_) rfl (by kernel_rfl) (by kernel_rfl) (by kernel_rfl) (fun _ _ _ h => h) (Or.inl ⟨by rfl, ?_⟩) (by assumption) ?_
                rotate_left
                · intro wS hSw; skip; go_simp; (try with_reducible rfl)
                change wpAnyH _ _ _ _ _ _ _ (Act.put _ (some 86) _) _
                simp only [Act.put, List.setIfInBounds_toArray, List.set_cons_zero, List.set_cons_succ]
                refine wpAnyH_take (i := 26) (v := ?_) rfl (by kernel_rfl) (by kernel_rfl) (by kernel_rfl) (fun _ _ _ h => h) (Or.inl ⟨by rfl, ?_⟩) (by assumption) ?_
                rotate_left
                · intro wS hSw; skip; go_simp; (try with_reducible rfl)
                change wpAnyH _ _ _ _ _ _ _ (Act.put _ (some 87) _) _
                simp only [Act.put, List.setIfInBounds_toArray, List.set_cons_zero, List.set_cons_succ]
                refine wpAnyH_done (by kernel_rfl) ?_ _
                go_wp2_with fail
                go_meet
                exact ⟨⟨_, rfl⟩, hHH⟩
          case rest =>
            obtain ⟨⟨q, rfl⟩, hbc⟩ := hcut
            have hbw8 := Lib.hid (e3.out.trans (hbc.mono (Nat.le_succ _)))
            replace hbc := Lib.hid hbc
            clear r23 r24
            cases q with
            | true =>
              go_wp2_with fail
              go_ret
              exact ⟨false, rfl, (fun h => by cases h), hbw8.out⟩
            | false =>
              go_wp2_with fail
              go_roundw
              case rel => exact ⟨i + 1, by omega, by go_num, hbc.out⟩
              case measure => simp [intOf]; omega
        · obtain rfl : i = m := by omega
          replace hbw9 := Lib.hid hbw9
          replace hbq := Lib.hid hbq
          go_wp2_with fail
          go_ret
          exact ⟨true, rfl, fun _ => by rw [hn.out]; omega, hbw9.out⟩
end Go.Proofs.Ytidoacdigedlnaa
