/- The law DueRises: its walk. -/
import Derived.Test.YtidoacdigedlnaaCan9
import Derived.Test.YtidoacdigedlnaaAwake
import Derived.Test.YtidoacdigedlnaaPlain
import Derived.Deep.RegionHeld3
import Derived.Deep.DrawnRows
set_option linter.unusedVariables false
set_option linter.unusedSimpArgs false
namespace Go.Proofs.Ytidoacdigedlnaa
open Go.RowKit
attribute [local go_sem ↓] Go.wp_at_zero Go.wp_at_succ

set_option maxRecDepth 100000 in
set_option maxHeartbeats 3200000 in
theorem rises_walk (x : ST) (cs : List Value) (now later : Int) (w : World) (h : SAt (Live w) w x cs) : Calls Try.prog 4 #[.agg cs.toArray, .int .i64 now, .int .i64 later] w (BoolP w true) := by
  have hl := h.len
  have hlo : cs.toArray.size = 31 := by simp [hl]
  have hss := Lib.hid (s_size hl)
  obtain ⟨W, hW⟩ : ∃ W, W = w.alloc (.cells cs.toArray 33) := ⟨_, rfl⟩
  have e1 : W.heap[w.heap.size]? = some (.cells cs.toArray 33 (0, 0)) := by rw [hW]; exact heap_alloc_new w _
  have e3 : Below w.heap.size w W := by rw [hW]; exact ((Below.refl _ _).alloc (Nat.le_refl _) _)
  have e4 : W.heap.size = w.heap.size + 1 := by rw [hW]; simp
  have kx : ∀ w', Below (w.heap.size + 1) W w' → w'.heap[w.heap.size]? = some (.cells cs.toArray 33 (0, 0)) := fun w' hb' => (hb'.block _ (Nat.lt_succ_self _)).trans e1
  have kS : ∀ w', Below (w.heap.size + 1) W w' → SAt (Live w') w' x cs := fun w' hb' => h.below (e3.trans (hb'.mono (Nat.le_succ _)))
  have kz : ∀ w', Below (w.heap.size + 1) W w' → w.heap.size + 1 ≤ w'.heap.size := fun w' hb' => by have := hb'.size; rw [e4] at this; exact this
  have kb : ∀ w', Below (w.heap.size + 1) W w' → Below w.heap.size w w' := fun w' hb' => e3.trans (hb'.mono (Nat.le_succ _))
  have hX0 := Lib.hid e1
  have hb0 : Below (w.heap.size + 1) W W := Below.refl _ _
  have CN := can_ x cs W (kS W hb0)
  replace hW := Lib.hid hW
  replace e1 := Lib.hid e1
  replace e3 := Lib.hid e3
  replace e4 := Lib.hid e4
  replace kx := Lib.hid kx
  replace kS := Lib.hid kS
  replace kz := Lib.hid kz
  replace kb := Lib.hid kb
  replace hb0 := Lib.hid hb0
  replace CN := Lib.hid CN
  have hls := Lib.hid (s_size' hl)
  clear h hl
  go_enter Try.func4, Try.ntmps4
  go_upto_region 1 with (fail)
  rw [← hW.out]
  go_wp2_with (first | (with_reducible refine wpList_load_row rfl 33 (.tmp 3) rfl w.heap.size rfl 33 cs.toArray (0, 0) _ hX0.out Try.underlying33 rfl hss.out ?_) | (go_at_call 6; refine CN.out.mono ?_))
  rintro e w1 ⟨q, rfl, hq, hb1⟩
  replace hb1 := hb0.out.trans (hb1.mono (kz.out _ hb0.out))
  have hX1 := Lib.hid (kx.out w1 hb1)
  replace hb1 := Lib.hid hb1
  clear CN
  cases q with
  | false =>
    go_wp2_with (go_at_call 7; refine (awake w1).mono ?_; rintro e w2 ⟨rfl, hb2⟩; replace hb2 := hb1.out.trans (hb2.mono (kz.out _ hb1.out)); have hX2 := Lib.hid (kx.out w2 hb2); replace hb2 := Lib.hid hb2)
    go_ret
    exact ⟨rfl, kb.out _ hb2.out⟩
  | true =>
    have h10 : x.timers.length ≤ 19 := Nat.le_trans (hq rfl) (by decide)
    replace h10 := Lib.hid h10
    clear hq
    by_cases hlt : later < now
    · go_wp2_with (go_at_call 7; refine (awake w1).mono ?_; rintro e w2 ⟨rfl, hb2⟩; replace hb2 := hb1.out.trans (hb2.mono (kz.out _ hb1.out)); have hX2 := Lib.hid (kx.out w2 hb2); replace hb2 := Lib.hid hb2)
      go_ret
      exact ⟨rfl, kb.out _ hb2.out⟩
    have hltd : decide (later < now) = false := decide_eq_false hlt
    have hle : now ≤ later := by omega
    have hrise := fun L M hL hM => law_rises x now later hle L M hL hM
    have htm := time_mono x now later hle
    have TN := fun w' hb => time_ _ x cs now w' (kS.out w' hb)
    have TL := fun w' hb => time_ _ x cs later w' (kS.out w' hb)
    generalize timeF x now = t1 at *
    generalize timeF x later = t2 at *
    have htd : decide (t1 ≤ t2) = true := decide_eq_true htm
    have AN := fun w' hb => at_ x cs now w' (kS.out w' hb) h10.out
    have AL := fun w' hb => at_ x cs later w' (kS.out w' hb) h10.out
    have KR : ∀ w', Below (w.heap.size + 1) W w' → w'.rangeAt w.heap.size 0 cs := fun w' hb => box_range (kx.out w' hb)
    replace hle := Lib.hid hle
    replace hlt := Lib.hid hlt
    replace hrise := Lib.hid hrise
    replace htm := Lib.hid htm
    replace TN := Lib.hid TN
    replace TL := Lib.hid TL
    replace AN := Lib.hid AN
    replace AL := Lib.hid AL
    replace KR := Lib.hid KR
    go_wp2_with fail
    have hS0 : Below (w.heap.size + 1) W w1.drew := hb1.out.drew
    refine wp_region_held_drew (S := Below (w.heap.size + 1) W) (by kernel_rfl) hS0 (fun hHeld => ?_)
    refine wpAnyH_take (i := 0) rfl (by kernel_rfl) (by kernel_rfl) (by kernel_rfl) (fun _ _ _ h => h) (yieldsIf_load_mid (by rfl) 33 (.tmp 3) rfl w.heap.size 0 rfl cs _ (fun w' h => KR.out w' h) Try.underlying33 rfl hls.out) (by assumption) ?_
    change wpAnyH _ _ _ _ _ _ _ (Act.put _ (some 16) _) _
    simp only [Act.put, List.setIfInBounds_toArray, List.set_cons_zero, List.set_cons_succ]
    refine wpAnyH_take (i := 1) (v := ?_) rfl (by kernel_rfl) (by kernel_rfl) (by kernel_rfl) (fun _ _ _ h => h) (Or.inl ⟨by rfl, ?_⟩) (by assumption) ?_
    rotate_left
    · intro wS hSw; skip; go_simp; (try with_reducible rfl)
    change wpAnyH _ _ _ _ _ _ _ (Act.put _ (some 17) _) _
    simp only [Act.put, List.setIfInBounds_toArray, List.set_cons_zero, List.set_cons_succ]
    refine wpAnyH_ready (rs := [2]) (by kernel_rfl) (by simp) ?_
    refine AllReadyH.cons rfl (fun K hK => ?_) AllReadyH.nil
    go_simp
    refine (AN.out _ hHeld).mono ?_
    rintro e w4 ⟨v, L, rfl, ho, hL, hb4⟩
    have hW4 : Below (w.heap.size + 1) W w4 := hHeld.trans (hb4.mono (kz.out _ hHeld))
    obtain ⟨ar, cr, rfl, _, _, _⟩ := own_len ho
    have hr1 := fun M hM => hrise.out L M hL hM
    obtain ⟨k, hk⟩ : ∃ k, L.length = k := ⟨_, rfl⟩
    rw [hk] at hr1 ⊢
    replace hr1 := Lib.hid hr1
    replace hk := Lib.hid hk
    clear hb4 ho hL
    by_cases hk0 : k = 0
    · subst hk0
      go_wp2_with fail
      refine hK.out _ _ (hW4) (fun hHeld => ?_)
      clear hK K
      (try simp only [Act.put, List.setIfInBounds_toArray, List.set_cons_zero, List.set_cons_succ])
      refine wpAnyH_take (i := 3) (v := ?_) rfl (by kernel_rfl) (by kernel_rfl) (by kernel_rfl) (fun _ _ _ h => h) (Or.inl ⟨by rfl, ?_⟩) (by assumption) ?_
      rotate_left
      · intro wS hSw; skip; go_simp; (try with_reducible rfl)
      change wpAnyH _ _ _ _ _ _ _ (Act.put _ (some 19) _) _
      simp only [Act.put, List.setIfInBounds_toArray, List.set_cons_zero, List.set_cons_succ]
      refine wpAnyH_take (i := 4) (v := ?_) rfl (by kernel_rfl) (by kernel_rfl) (by kernel_rfl) (fun _ _ _ h => h) (Or.inl ⟨by rfl, ?_⟩) (by assumption) ?_
      rotate_left
      · intro wS hSw; skip; go_simp; (try with_reducible rfl)
      change wpAnyH _ _ _ _ _ _ _ (Act.put _ (some 20) _) _
      simp only [Act.put, List.setIfInBounds_toArray, List.set_cons_zero, List.set_cons_succ]
      refine wpAnyH_take (i := 5) (v := ?_) rfl (by kernel_rfl) (by kernel_rfl) (by kernel_rfl) (fun _ _ _ h => h) (Or.inl ⟨by rfl, ?_⟩) (by assumption) ?_
      rotate_left
      · intro wS hSw; skip; go_simp; (try with_reducible rfl)
      change wpAnyH _ _ _ _ _ _ _ (Act.put _ (some 21) _) _
      simp only [Act.put, List.setIfInBounds_toArray, List.set_cons_zero, List.set_cons_succ]
      refine wpAnyH_take (i := 6) (v := undef) rfl (by kernel_rfl) (by kernel_rfl) (by kernel_rfl) (fun _ _ _ h => h) (Or.inr ⟨by rfl, rfl⟩) (by assumption) ?_
      change wpAnyH _ _ _ _ _ _ _ (Act.put _ (some 22) _) _
      simp only [Act.put, List.setIfInBounds_toArray, List.set_cons_zero, List.set_cons_succ]
      refine wpAnyH_take (i := 7) (v := undef) rfl (by kernel_rfl) (by kernel_rfl) (by kernel_rfl) (fun _ _ _ h => h) (Or.inr ⟨by rfl, rfl⟩) (by assumption) ?_
      change wpAnyH _ _ _ _ _ _ _ (Act.put _ (some 23) _) _
      simp only [Act.put, List.setIfInBounds_toArray, List.set_cons_zero, List.set_cons_succ]
      refine wpAnyH_take (i := 8) (v := undef) rfl (by kernel_rfl) (by kernel_rfl) (by kernel_rfl) (fun _ _ _ h => h) (Or.inr ⟨by rfl, rfl⟩) (by assumption) ?_
      change wpAnyH _ _ _ _ _ _ _ (Act.put _ (some 24) _) _
      simp only [Act.put, List.setIfInBounds_toArray, List.set_cons_zero, List.set_cons_succ]
      refine wpAnyH_take (i := 9) (v := undef) rfl (by kernel_rfl) (by kernel_rfl) (by kernel_rfl) (fun _ _ _ h => h) (Or.inr ⟨by rfl, rfl⟩) (by assumption) ?_
      change wpAnyH _ _ _ _ _ _ _ (Act.put _ (some 25) _) _
      simp only [Act.put, List.setIfInBounds_toArray, List.set_cons_zero, List.set_cons_succ]
      refine wpAnyH_take (i := 10) (v := undef) rfl (by kernel_rfl) (by kernel_rfl) (by kernel_rfl) (fun _ _ _ h => h) (Or.inr ⟨by rfl, rfl⟩) (by assumption) ?_
      change wpAnyH _ _ _ _ _ _ _ (Act.put _ (some 26) _) _
      simp only [Act.put, List.setIfInBounds_toArray, List.set_cons_zero, List.set_cons_succ]
      refine wpAnyH_take (i := 11) (v := ?_) rfl (by kernel_rfl) (by kernel_rfl) (by kernel_rfl) (fun _ _ _ h => h) (Or.inl ⟨by rfl, ?_⟩) (by assumption) ?_
      rotate_left
      · intro wS hSw; skip; go_simp; (try with_reducible rfl)
      change wpAnyH _ _ _ _ _ _ _ (Act.put _ (some 27) _) _
      simp only [Act.put, List.setIfInBounds_toArray, List.set_cons_zero, List.set_cons_succ]
      refine wpAnyH_take (i := 12) (v := ?_) rfl (by kernel_rfl) (by kernel_rfl) (by kernel_rfl) (fun _ _ _ h => h) (Or.inl ⟨by rfl, ?_⟩) (by assumption) ?_
      rotate_left
      · intro wS hSw; skip; go_simp; (try with_reducible rfl)
      change wpAnyH _ _ _ _ _ _ _ (Act.put _ (some 28) _) _
      simp only [Act.put, List.setIfInBounds_toArray, List.set_cons_zero, List.set_cons_succ]
      refine wpAnyH_take (i := 13) rfl (by kernel_rfl) (by kernel_rfl) (by kernel_rfl) (fun _ _ _ h => h) (yieldsIf_load_mid (by rfl) 33 (.tmp 3) rfl w.heap.size 0 rfl cs _ (fun w' h => KR.out w' h) Try.underlying33 rfl hls.out) (by assumption) ?_
      change wpAnyH _ _ _ _ _ _ _ (Act.put _ (some 29) _) _
      simp only [Act.put, List.setIfInBounds_toArray, List.set_cons_zero, List.set_cons_succ]
      refine wpAnyH_take (i := 14) (v := ?_) rfl (by kernel_rfl) (by kernel_rfl) (by kernel_rfl) (fun _ _ _ h => h) (Or.inl ⟨by rfl, ?_⟩) (by assumption) ?_
      rotate_left
      · intro wS hSw; skip; go_simp; (try with_reducible rfl)
      change wpAnyH _ _ _ _ _ _ _ (Act.put _ (some 30) _) _
      simp only [Act.put, List.setIfInBounds_toArray, List.set_cons_zero, List.set_cons_succ]
      refine wpAnyH_take (i := 16) rfl (by kernel_rfl) (by kernel_rfl) (by kernel_rfl) (fun _ _ _ h => h) (yieldsIf_load_mid (by rfl) 33 (.tmp 3) rfl w.heap.size 0 rfl cs _ (fun w' h => KR.out w' h) Try.underlying33 rfl hls.out) (by assumption) ?_
      change wpAnyH _ _ _ _ _ _ _ (Act.put _ (some 32) _) _
      simp only [Act.put, List.setIfInBounds_toArray, List.set_cons_zero, List.set_cons_succ]
      refine wpAnyH_take (i := 17) (v := ?_) rfl (by kernel_rfl) (by kernel_rfl) (by kernel_rfl) (fun _ _ _ h => h) (Or.inl ⟨by rfl, ?_⟩) (by assumption) ?_
      rotate_left
      · intro wS hSw; skip; go_simp; (try with_reducible rfl)
      change wpAnyH _ _ _ _ _ _ _ (Act.put _ (some 33) _) _
      simp only [Act.put, List.setIfInBounds_toArray, List.set_cons_zero, List.set_cons_succ]
      refine wpAnyH_ready (rs := [15]) (by kernel_rfl) (by simp) ?_
      refine AllReadyH.cons rfl (fun K hK => ?_) AllReadyH.nil
      go_simp
      refine (TN.out _ hHeld).mono ?_
      rintro e w5 ⟨rfl, hb5⟩
      have hW5 : Below (w.heap.size + 1) W w5 := hHeld.trans (hb5.mono (kz.out _ hHeld))
      clear hb5
      go_wp2_with fail
      refine hK.out _ _ (hW5) (fun hHeld => ?_)
      clear hK K
      (try simp only [Act.put, List.setIfInBounds_toArray, List.set_cons_zero, List.set_cons_succ])
      refine wpAnyH_ready (rs := [18]) (by kernel_rfl) (by simp) ?_
      refine AllReadyH.cons rfl (fun K hK => ?_) AllReadyH.nil
      go_simp
      refine (TL.out _ hHeld).mono ?_
      rintro e w6 ⟨rfl, hb6⟩
      have hW6 : Below (w.heap.size + 1) W w6 := hHeld.trans (hb6.mono (kz.out _ hHeld))
      clear hb6
      go_wp2_with fail
      refine hK.out _ _ (hW6) (fun hHeld => ?_)
      clear hK K
      (try simp only [Act.put, List.setIfInBounds_toArray, List.set_cons_zero, List.set_cons_succ])
      refine wpAnyH_take (i := 19) (v := ?_) rfl (by kernel_rfl) (by kernel_rfl) (by kernel_rfl) (fun _ _ _ h => h) (Or.inl ⟨by rfl, ?_⟩) (by assumption) ?_
      rotate_left
      · intro wS hSw; skip; go_simp; (try with_reducible rfl)
      change wpAnyH _ _ _ _ _ _ _ (Act.put _ (some 35) _) _
      simp only [Act.put, List.setIfInBounds_toArray, List.set_cons_zero, List.set_cons_succ]
      refine wpAnyH_take (i := 20) (v := ?_) rfl (by kernel_rfl) (by kernel_rfl) (by kernel_rfl) (fun _ _ _ h => h) (Or.inl ⟨by rfl, ?_⟩) (by assumption) ?_
      rotate_left
      · intro wS hSw; skip; go_simp; (try with_reducible rfl)
      change wpAnyH _ _ _ _ _ _ _ (Act.put _ (some 36) _) _
      simp only [Act.put, List.setIfInBounds_toArray, List.set_cons_zero, List.set_cons_succ]
      refine wpAnyH_take (i := 21) (v := ?_) rfl (by kernel_rfl) (by kernel_rfl) (by kernel_rfl) (fun _ _ _ h => h) (Or.inl ⟨by rfl, ?_⟩) (by assumption) ?_
      rotate_left
      · intro wS hSw; skip; go_simp; (try with_reducible rfl)
      change wpAnyH _ _ _ _ _ _ _ (Act.put _ (some 37) _) _
      simp only [Act.put, List.setIfInBounds_toArray, List.set_cons_zero, List.set_cons_succ]
      refine wpAnyH_ready (rs := [22]) (by kernel_rfl) (by simp) ?_
      refine AllReadyH.cons rfl (fun K hK => ?_) AllReadyH.nil
      go_simp
      refine (awake _).mono ?_
      rintro e w7 ⟨rfl, hb7⟩
      have hW7 : Below (w.heap.size + 1) W w7 := hHeld.trans (hb7.mono (kz.out _ hHeld))
      clear hb7
      go_wp2_with fail
      refine hK.out _ _ (hW7) (fun hHeld => ?_)
      clear hK K
      (try simp only [Act.put, List.setIfInBounds_toArray, List.set_cons_zero, List.set_cons_succ])
      have hHH := Lib.hid hHeld
      refine wpAnyH_take (i := 23) (v := ?_) rfl (by kernel_rfl) (by kernel_rfl) (by kernel_rfl) (fun _ _ _ h => h) (Or.inl ⟨by rfl, ?_⟩) (by assumption) ?_
      rotate_left
      · intro wS hSw; skip; go_simp; (try with_reducible rfl)
      change wpAnyH _ _ _ _ _ _ _ (Act.put _ (some 39) _) _
      simp only [Act.put, List.setIfInBounds_toArray, List.set_cons_zero, List.set_cons_succ]
      refine wpAnyH_take (i := 24) (v := ?_) rfl (by kernel_rfl) (by kernel_rfl) (by kernel_rfl) (fun _ _ _ h => h) (Or.inl ⟨by rfl, ?_⟩) (by assumption) ?_
      rotate_left
      · intro wS hSw; skip; go_simp; (try with_reducible rfl)
      change wpAnyH _ _ _ _ _ _ _ (Act.put _ (some 6) _) _
      simp only [Act.put, List.setIfInBounds_toArray, List.set_cons_zero, List.set_cons_succ]
      refine wpAnyH_done (by kernel_rfl) ?_ _
      go_wp2_with fail
      go_ret
      exact ⟨rfl, kb.out _ hHH.out⟩
    · have z1 : ((k : Int) == 0) = false := beq_eq_false_iff_ne.2 (by omega)
      have z2 : (k == 0) = false := beq_eq_false_iff_ne.2 hk0
      have hr2 := Lib.hid (fun M hM => hr1.out M hM hk0)
      go_wp2_with fail
      refine hK.out _ _ (hW4) (fun hHeld => ?_)
      clear hK K
      (try simp only [Act.put, List.setIfInBounds_toArray, List.set_cons_zero, List.set_cons_succ])
      refine wpAnyH_take (i := 3) (v := ?_) rfl (by kernel_rfl) (by kernel_rfl) (by kernel_rfl) (fun _ _ _ h => h) (Or.inl ⟨by rfl, ?_⟩) (by assumption) ?_
      rotate_left
      · intro wS hSw; skip; go_simp; (try with_reducible rfl)
      change wpAnyH _ _ _ _ _ _ _ (Act.put _ (some 19) _) _
      simp only [Act.put, List.setIfInBounds_toArray, List.set_cons_zero, List.set_cons_succ]
      refine wpAnyH_take (i := 4) (v := ?_) rfl (by kernel_rfl) (by kernel_rfl) (by kernel_rfl) (fun _ _ _ h => h) (Or.inl ⟨by rfl, ?_⟩) (by assumption) ?_
      rotate_left
      · intro wS hSw; skip; go_simp; (try with_reducible rfl)
      change wpAnyH _ _ _ _ _ _ _ (Act.put _ (some 20) _) _
      simp only [Act.put, List.setIfInBounds_toArray, List.set_cons_zero, List.set_cons_succ]
      refine wpAnyH_take (i := 5) (v := ?_) rfl (by kernel_rfl) (by kernel_rfl) (by kernel_rfl) (fun _ _ _ h => h) (Or.inl ⟨by rfl, ?_⟩) (by assumption) ?_
      rotate_left
      · intro wS hSw; skip; go_simp; (try with_reducible rfl)
      change wpAnyH _ _ _ _ _ _ _ (Act.put _ (some 21) _) _
      simp only [Act.put, List.setIfInBounds_toArray, List.set_cons_zero, List.set_cons_succ]
      refine wpAnyH_take (i := 6) rfl (by kernel_rfl) (by kernel_rfl) (by kernel_rfl) (fun _ _ _ h => h) (yieldsIf_load_mid (by rfl) 33 (.tmp 3) rfl w.heap.size 0 rfl cs _ (fun w' h => KR.out w' h) Try.underlying33 rfl hls.out) (by assumption) ?_
      change wpAnyH _ _ _ _ _ _ _ (Act.put _ (some 22) _) _
      simp only [Act.put, List.setIfInBounds_toArray, List.set_cons_zero, List.set_cons_succ]
      refine wpAnyH_take (i := 7) (v := ?_) rfl (by kernel_rfl) (by kernel_rfl) (by kernel_rfl) (fun _ _ _ h => h) (Or.inl ⟨by rfl, ?_⟩) (by assumption) ?_
      rotate_left
      · intro wS hSw; skip; go_simp; (try with_reducible rfl)
      change wpAnyH _ _ _ _ _ _ _ (Act.put _ (some 23) _) _
      simp only [Act.put, List.setIfInBounds_toArray, List.set_cons_zero, List.set_cons_succ]
      refine wpAnyH_ready (rs := [8]) (by kernel_rfl) (by simp) ?_
      refine AllReadyH.cons rfl (fun K hK => ?_) AllReadyH.nil
      go_simp
      refine (AL.out _ hHeld).mono ?_
      rintro e w8 ⟨v, M, rfl, ho, hM, hb8⟩
      have hW8 : Below (w.heap.size + 1) W w8 := hHeld.trans (hb8.mono (kz.out _ hHeld))
      obtain ⟨ar2, cr', rfl, _, _, _⟩ := own_len ho
      have hMp := hr2.out M hM
      obtain ⟨km, hkm⟩ : ∃ km, M.length = km := ⟨_, rfl⟩
      rw [hkm] at hMp ⊢
      replace hkm := Lib.hid hkm
      have y1 : decide ((0 : Int) < (km : Int)) = true := decide_eq_true (by omega)
      have y2 : decide (0 < km) = true := decide_eq_true hMp
      clear hb8 ho hM
      go_wp2_with fail
      refine hK.out _ _ (hW8) (fun hHeld => ?_)
      clear hK K
      (try simp only [Act.put, List.setIfInBounds_toArray, List.set_cons_zero, List.set_cons_succ])
      refine wpAnyH_take (i := 9) (v := ?_) rfl (by kernel_rfl) (by kernel_rfl) (by kernel_rfl) (fun _ _ _ h => h) (Or.inl ⟨by rfl, ?_⟩) (by assumption) ?_
      rotate_left
      · intro wS hSw; skip; go_simp; (try with_reducible rfl)
      change wpAnyH _ _ _ _ _ _ _ (Act.put _ (some 25) _) _
      simp only [Act.put, List.setIfInBounds_toArray, List.set_cons_zero, List.set_cons_succ]
      refine wpAnyH_take (i := 10) (v := ?_) rfl (by kernel_rfl) (by kernel_rfl) (by kernel_rfl) (fun _ _ _ h => h) (Or.inl ⟨by rfl, ?_⟩) (by assumption) ?_
      rotate_left
      · intro wS hSw; skip; go_simp; (try with_reducible rfl)
      change wpAnyH _ _ _ _ _ _ _ (Act.put _ (some 26) _) _
      simp only [Act.put, List.setIfInBounds_toArray, List.set_cons_zero, List.set_cons_succ]
      refine wpAnyH_take (i := 11) (v := ?_) rfl (by kernel_rfl) (by kernel_rfl) (by kernel_rfl) (fun _ _ _ h => h) (Or.inl ⟨by rfl, ?_⟩) (by assumption) ?_
      rotate_left
      · intro wS hSw; skip; go_simp; (try with_reducible rfl)
      change wpAnyH _ _ _ _ _ _ _ (Act.put _ (some 27) _) _
      simp only [Act.put, List.setIfInBounds_toArray, List.set_cons_zero, List.set_cons_succ]
      refine wpAnyH_take (i := 12) (v := ?_) rfl (by kernel_rfl) (by kernel_rfl) (by kernel_rfl) (fun _ _ _ h => h) (Or.inl ⟨by rfl, ?_⟩) (by assumption) ?_
      rotate_left
      · intro wS hSw; skip; go_simp; (try with_reducible rfl)
      change wpAnyH _ _ _ _ _ _ _ (Act.put _ (some 28) _) _
      simp only [Act.put, List.setIfInBounds_toArray, List.set_cons_zero, List.set_cons_succ]
      refine wpAnyH_take (i := 13) rfl (by kernel_rfl) (by kernel_rfl) (by kernel_rfl) (fun _ _ _ h => h) (yieldsIf_load_mid (by rfl) 33 (.tmp 3) rfl w.heap.size 0 rfl cs _ (fun w' h => KR.out w' h) Try.underlying33 rfl hls.out) (by assumption) ?_
      change wpAnyH _ _ _ _ _ _ _ (Act.put _ (some 29) _) _
      simp only [Act.put, List.setIfInBounds_toArray, List.set_cons_zero, List.set_cons_succ]
      refine wpAnyH_take (i := 14) (v := ?_) rfl (by kernel_rfl) (by kernel_rfl) (by kernel_rfl) (fun _ _ _ h => h) (Or.inl ⟨by rfl, ?_⟩) (by assumption) ?_
      rotate_left
      · intro wS hSw; skip; go_simp; (try with_reducible rfl)
      change wpAnyH _ _ _ _ _ _ _ (Act.put _ (some 30) _) _
      simp only [Act.put, List.setIfInBounds_toArray, List.set_cons_zero, List.set_cons_succ]
      refine wpAnyH_take (i := 16) rfl (by kernel_rfl) (by kernel_rfl) (by kernel_rfl) (fun _ _ _ h => h) (yieldsIf_load_mid (by rfl) 33 (.tmp 3) rfl w.heap.size 0 rfl cs _ (fun w' h => KR.out w' h) Try.underlying33 rfl hls.out) (by assumption) ?_
      change wpAnyH _ _ _ _ _ _ _ (Act.put _ (some 32) _) _
      simp only [Act.put, List.setIfInBounds_toArray, List.set_cons_zero, List.set_cons_succ]
      refine wpAnyH_take (i := 17) (v := ?_) rfl (by kernel_rfl) (by kernel_rfl) (by kernel_rfl) (fun _ _ _ h => h) (Or.inl ⟨by rfl, ?_⟩) (by assumption) ?_
      rotate_left
      · intro wS hSw; skip; go_simp; (try with_reducible rfl)
      change wpAnyH _ _ _ _ _ _ _ (Act.put _ (some 33) _) _
      simp only [Act.put, List.setIfInBounds_toArray, List.set_cons_zero, List.set_cons_succ]
      refine wpAnyH_ready (rs := [15]) (by kernel_rfl) (by simp) ?_
      refine AllReadyH.cons rfl (fun K hK => ?_) AllReadyH.nil
      go_simp
      refine (TN.out _ hHeld).mono ?_
      rintro e w5 ⟨rfl, hb5⟩
      have hW5 : Below (w.heap.size + 1) W w5 := hHeld.trans (hb5.mono (kz.out _ hHeld))
      clear hb5
      go_wp2_with fail
      refine hK.out _ _ (hW5) (fun hHeld => ?_)
      clear hK K
      (try simp only [Act.put, List.setIfInBounds_toArray, List.set_cons_zero, List.set_cons_succ])
      refine wpAnyH_ready (rs := [18]) (by kernel_rfl) (by simp) ?_
      refine AllReadyH.cons rfl (fun K hK => ?_) AllReadyH.nil
      go_simp
      refine (TL.out _ hHeld).mono ?_
      rintro e w6 ⟨rfl, hb6⟩
      have hW6 : Below (w.heap.size + 1) W w6 := hHeld.trans (hb6.mono (kz.out _ hHeld))
      clear hb6
      go_wp2_with fail
      refine hK.out _ _ (hW6) (fun hHeld => ?_)
      clear hK K
      (try simp only [Act.put, List.setIfInBounds_toArray, List.set_cons_zero, List.set_cons_succ])
      refine wpAnyH_take (i := 19) (v := ?_) rfl (by kernel_rfl) (by kernel_rfl) (by kernel_rfl) (fun _ _ _ h => h) (Or.inl ⟨by rfl, ?_⟩) (by assumption) ?_
      rotate_left
      · intro wS hSw; skip; go_simp; (try with_reducible rfl)
      change wpAnyH _ _ _ _ _ _ _ (Act.put _ (some 35) _) _
      simp only [Act.put, List.setIfInBounds_toArray, List.set_cons_zero, List.set_cons_succ]
      refine wpAnyH_take (i := 20) (v := ?_) rfl (by kernel_rfl) (by kernel_rfl) (by kernel_rfl) (fun _ _ _ h => h) (Or.inl ⟨by rfl, ?_⟩) (by assumption) ?_
      rotate_left
      · intro wS hSw; skip; go_simp; (try with_reducible rfl)
      change wpAnyH _ _ _ _ _ _ _ (Act.put _ (some 36) _) _
      simp only [Act.put, List.setIfInBounds_toArray, List.set_cons_zero, List.set_cons_succ]
      refine wpAnyH_take (i := 21) (v := ?_) rfl (by kernel_rfl) (by kernel_rfl) (by kernel_rfl) (fun _ _ _ h => h) (Or.inl ⟨by rfl, ?_⟩) (by assumption) ?_
      rotate_left
      · intro wS hSw; skip; go_simp; (try with_reducible rfl)
      change wpAnyH _ _ _ _ _ _ _ (Act.put _ (some 37) _) _
      simp only [Act.put, List.setIfInBounds_toArray, List.set_cons_zero, List.set_cons_succ]
      refine wpAnyH_ready (rs := [22]) (by kernel_rfl) (by simp) ?_
      refine AllReadyH.cons rfl (fun K hK => ?_) AllReadyH.nil
      go_simp
      refine (awake _).mono ?_
      rintro e w7 ⟨rfl, hb7⟩
      have hW7 : Below (w.heap.size + 1) W w7 := hHeld.trans (hb7.mono (kz.out _ hHeld))
      clear hb7
      go_wp2_with fail
      refine hK.out _ _ (hW7) (fun hHeld => ?_)
      clear hK K
      (try simp only [Act.put, List.setIfInBounds_toArray, List.set_cons_zero, List.set_cons_succ])
      have hHH := Lib.hid hHeld
      refine wpAnyH_take (i := 23) (v := ?_) rfl (by kernel_rfl) (by kernel_rfl) (by kernel_rfl) (fun _ _ _ h => h) (Or.inl ⟨by rfl, ?_⟩) (by assumption) ?_
      rotate_left
      · intro wS hSw; skip; go_simp; (try with_reducible rfl)
      change wpAnyH _ _ _ _ _ _ _ (Act.put _ (some 39) _) _
      simp only [Act.put, List.setIfInBounds_toArray, List.set_cons_zero, List.set_cons_succ]
      refine wpAnyH_take (i := 24) (v := ?_) rfl (by kernel_rfl) (by kernel_rfl) (by kernel_rfl) (fun _ _ _ h => h) (Or.inl ⟨by rfl, ?_⟩) (by assumption) ?_
      rotate_left
      · intro wS hSw; skip; go_simp; (try with_reducible rfl)
      change wpAnyH _ _ _ _ _ _ _ (Act.put _ (some 6) _) _
      simp only [Act.put, List.setIfInBounds_toArray, List.set_cons_zero, List.set_cons_succ]
      refine wpAnyH_done (by kernel_rfl) ?_ _
      go_wp2_with fail
      go_ret
      exact ⟨rfl, kb.out _ hHH.out⟩
end Go.Proofs.Ytidoacdigedlnaa
