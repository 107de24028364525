/- usherref05.Same of any two values. -/
import Derived.Test.YtidoacdigedlnaaCan5
set_option linter.unusedVariables false
set_option linter.unusedSimpArgs false
namespace Go.Proofs.Ytidoacdigedlnaa
open Go.RowKit
set_option maxRecDepth 100000 in
set_option maxHeartbeats 3200000 in
theorem same05 : ∀ (t t' : VT) (cs cs' : List Value) (w : World), VAt (Live w) w t cs → VAt (Live w) w t' cs' → Calls Try.prog 18 #[.agg cs.toArray, .agg cs'.toArray] w (SomeB w) := by
  intro t
  induction t using VT.ind with
  | h k n b s l ih =>
    intro t' cs cs' w h h'
    obtain ⟨k', n', b', s', l'⟩ := t'
    obtain ⟨a, cap, rfl, hs, hc, hc2, h64⟩ := VAt_mk.1 h
    obtain ⟨a', cap', rfl, hs', hc', hc2', _⟩ := VAt_mk.1 h'
    replace ih := Lib.hid ih
    replace hs := Lib.hid hs
    replace hs' := Lib.hid hs'
    clear h h'
    obtain ⟨N, hN⟩ : ∃ N, N = l.length := ⟨_, rfl⟩
    obtain ⟨N', hN'⟩ : ∃ N', N' = l'.length := ⟨_, rfl⟩
    rw [← hN] at hc h64 ⊢
    rw [← hN'] at hc' ⊢
    replace hN := Lib.hid hN
    replace hN' := Lib.hid hN'
    obtain ⟨W, hW⟩ : ∃ W, W = (w.alloc (.cells #[.int .i64 k, .int .i64 n, .int .u64 b, .string s, .slice a N cap] 25)).alloc (.cells #[.int .i64 k', .int .i64 n', .int .u64 b', .string s', .slice a' N' cap'] 25) := ⟨_, rfl⟩
    have e1 : W.heap[w.heap.size]? = some (.cells #[.int .i64 k, .int .i64 n, .int .u64 b, .string s, .slice a N cap] 25 (0, 0)) := by rw [hW]; exact heap_alloc2_old w _ _
    have e2 : W.heap[w.heap.size + 1]? = some (.cells #[.int .i64 k', .int .i64 n', .int .u64 b', .string s', .slice a' N' cap'] 25 (0, 0)) := by rw [hW]; exact heap_alloc2_new w _ _
    have e3 : Below w.heap.size w W := by rw [hW]; exact ((Below.refl _ _).alloc (Nat.le_refl _) _).alloc (by simp) _
    have e4 : W.heap.size = w.heap.size + 2 := by rw [hW]; simp
    have c0 : W.cell? ⟨w.heap.size, 0, none⟩ = some (.int .i64 k) := box_cell e1 0 _ rfl
    have c1 : W.cell? ⟨w.heap.size, 1, none⟩ = some (.int .i64 n) := box_cell e1 1 _ rfl
    have c2 : W.cell? ⟨w.heap.size, 2, none⟩ = some (.int .u64 b) := box_cell e1 2 _ rfl
    have c3 : W.cell? ⟨w.heap.size, 3, none⟩ = some (.string s) := box_cell e1 3 _ rfl
    have c4 : W.cell? ⟨w.heap.size, 4, none⟩ = some (.slice a N cap) := box_cell e1 4 _ rfl
    have d0 : W.cell? ⟨w.heap.size + 1, 0, none⟩ = some (.int .i64 k') := box_cell e2 0 _ rfl
    have d1 : W.cell? ⟨w.heap.size + 1, 1, none⟩ = some (.int .i64 n') := box_cell e2 1 _ rfl
    have d2 : W.cell? ⟨w.heap.size + 1, 2, none⟩ = some (.int .u64 b') := box_cell e2 2 _ rfl
    have d3 : W.cell? ⟨w.heap.size + 1, 3, none⟩ = some (.string s') := box_cell e2 3 _ rfl
    have d4 : W.cell? ⟨w.heap.size + 1, 4, none⟩ = some (.slice a' N' cap') := box_cell e2 4 _ rfl
    replace e1 := Lib.hid e1
    replace e2 := Lib.hid e2
    replace e3 := Lib.hid e3
    replace e4 := Lib.hid e4
    replace hW := Lib.hid hW
    show Calls Try.prog 18 #[.agg #[.int .i64 k, .int .i64 n, .int .u64 b, .string s, .slice a N cap], .agg #[.int .i64 k', .int .i64 n', .int .u64 b', .string s', .slice a' N' cap']] w (SomeB w)
    go_enter Try.func18, Try.ntmps18
    go_upto_region 1 with (fail)
    rw [← hW.out]
    go_cut [40] (fun s40 wx => (s40 = .bool true ∨ (s40 = .bool false ∧ N = N')) ∧ wx = W)
    case first =>
      cases t1 : (k == k') with
      | false =>
        have t1n : (k != k') = true := by rw [bne, t1]; rfl
        go_wp2_with fail
        go_meet
        exact ⟨Or.inl rfl, rfl⟩
      | true =>
        have t1n : (k != k') = false := by rw [bne, t1]; rfl
        cases t2 : (n == n') with
        | false =>
          have t2n : (n != n') = true := by rw [bne, t2]; rfl
          go_wp2_with fail
          go_meet
          exact ⟨Or.inl rfl, rfl⟩
        | true =>
          have t2n : (n != n') = false := by rw [bne, t2]; rfl
          cases t3 : (b == b') with
          | false =>
            have t3n : (b != b') = true := by rw [bne, t3]; rfl
            go_wp2_with fail
            go_meet
            exact ⟨Or.inl rfl, rfl⟩
          | true =>
            have t3n : (b != b') = false := by rw [bne, t3]; rfl
            cases t4 : (s.toList == s'.toList) with
            | false =>
              have t4n : (s.toList != s'.toList) = true := by rw [bne, t4]; rfl
              go_wp2_with fail
              go_meet
              exact ⟨Or.inl rfl, rfl⟩
            | true =>
              have t4n : (s.toList != s'.toList) = false := by rw [bne, t4]; rfl
              cases t5 : ((N : Int) == (N' : Int)) with
              | false =>
                have t5n : ((N : Int) != (N' : Int)) = true := by rw [bne, t5]; rfl
                go_wp2_with fail
                go_meet
                exact ⟨Or.inl rfl, rfl⟩
              | true =>
                have t5n : ((N : Int) != (N' : Int)) = false := by rw [bne, t5]; rfl
                have hNN : Hid (N = N') := (by have := beq_iff_eq.1 t5; omega : N = N')
                go_wp2_with fail
                go_meet
                exact ⟨Or.inr ⟨rfl, hNN.out⟩, rfl⟩
    case rest =>
      obtain ⟨hq, hwc⟩ := hcut
      subst wc
      rcases hq with rfl | ⟨rfl, hNN⟩
      · go_wp2_with fail
        go_ret
        exact ⟨false, rfl, e3.out⟩
      subst hNN
      go_wp2_with fail
      go_loopw [5] (fun i wr => ∃ j : Nat, j ≤ N ∧ i = .int .i64 (j : Int) ∧ Below (w.heap.size + 2) W wr) (fun i _ => N - (intOf i).toNat)
      case atStart => exact ⟨0, Nat.zero_le _, rfl, Below.refl _ _⟩
      case round =>
        obtain ⟨j, hj, rfl, hbr⟩ := hrel
        have hbw : Below w.heap.size w wr := e3.out.trans (hbr.mono (by omega))
        have g1 : wr.heap[w.heap.size]? = _ := (hbr.block _ (by omega)).trans e1.out
        have g2 : wr.heap[w.heap.size + 1]? = _ := (hbr.block _ (by omega)).trans e2.out
        have x4 : wr.cell? ⟨w.heap.size, 4, none⟩ = some (.slice a N cap) := box_cell g1 4 _ rfl
        have y4 : wr.cell? ⟨w.heap.size + 1, 4, none⟩ = some (.slice a' N cap') := box_cell g2 4 _ rfl
        have hsz : w.heap.size + 2 ≤ wr.heap.size := by have := hbr.size; rw [e4.out] at this; exact this
        replace g1 := Lib.hid g1
        replace g2 := Lib.hid g2
        clear c0 c1 c2 c3 c4 d0 d1 d2 d3 d4
        by_cases hlt : j < N
        · obtain ⟨t, ht⟩ : ∃ t, l[j]? = some t := ⟨_, List.getElem?_eq_getElem (by rw [← hN.out]; exact hlt)⟩
          obtain ⟨t', ht'⟩ : ∃ t, l'[j]? = some t := ⟨_, List.getElem?_eq_getElem (by rw [← hN'.out]; exact hlt)⟩
          have htm : t ∈ l := List.mem_of_getElem? ht
          obtain ⟨g, off, ds, rfl, hg, hcl, hct, hcr⟩ := hs.out.get j t ht
          obtain ⟨g', off', ds', rfl, hg', hcl', hct', hcr'⟩ := hs'.out.get j t' ht'
          have hr := range_keep hcr (hbw.block _ hg)
          have hr' := range_keep hcr' (hbw.block _ hg')
          have I := ih.out t htm t' ds ds' wr.drew ((hct.below hbw).below (Below.refl _ _).drew) ((hct'.below hbw).below (Below.refl _ _).drew)
          obtain ⟨v0, v1, v2, v3, v4, v5, v6, rfl⟩ := hct.shape
          obtain ⟨z0, z1, z2, z3, z4, z5, z6, rfl⟩ := hct'.shape
          have q0 : wr.cell? ⟨g, off + j * 5, none⟩ = some (.int .i64 v0) := hr 0 _ rfl
          have q1 := hr 1 _ rfl
          have q2 := hr 2 _ rfl
          have q3 := hr 3 _ rfl
          have q4 := hr 4 _ rfl
          have p0 : wr.cell? ⟨g', off' + j * 5, none⟩ = some (.int .i64 z0) := hr' 0 _ rfl
          have p1 := hr' 1 _ rfl
          have p2 := hr' 2 _ rfl
          have p3 := hr' 3 _ rfl
          have p4 := hr' 4 _ rfl
          have hb1 : (0 : Int) ≤ (j : Int) := by omega
          have hb2 : (j : Int) < (N : Int) := by omega
          replace I := Lib.hid I
          replace hbr := Lib.hid hbr
          replace hbw := Lib.hid hbw
          clear hr hr' hcr hcr' hct hct' hcl hcl' ht ht'
          go_wp2_with fail
          go_still_tail 10, (by kernel_rfl)
          change wpList _ _ _ _ _ wr.drew
          go_wp2_with fail
          refine I.out.mono ?_
          rintro e w3 ⟨q, rfl, hb3⟩
          have hbE := Lib.hid (hbr.out.drew.trans (hb3.mono hsz))
          have hbF := Lib.hid (hbw.out.drew.trans (hb3.mono hbw.out.size))
          clear hb3
          cases q with
          | false =>
            go_wp2_with fail
            go_ret
            exact ⟨false, rfl, hbF.out⟩
          | true =>
            go_wp2_with fail
            go_roundw
            case rel => exact ⟨j + 1, by omega, by go_num, hbE.out⟩
            case measure => simp [intOf]; omega
        · replace hbw := Lib.hid hbw
          clear hbr
          go_wp2_with fail
          go_ret
          exact ⟨true, rfl, hbw.out⟩
end Go.Proofs.Ytidoacdigedlnaa
