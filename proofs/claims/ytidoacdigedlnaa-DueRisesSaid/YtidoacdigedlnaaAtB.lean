/- due.At of a run. -/
import Derived.Test.YtidoacdigedlnaaAtA
set_option linter.unusedVariables false
set_option linter.unusedSimpArgs false
namespace Go.Proofs.Ytidoacdigedlnaa
open Go.RowKit

set_option maxRecDepth 100000 in
set_option maxHeartbeats 1600000 in
theorem at_lost (x : ST) (cs : List Value) (now : Int) (w : World) (h : SAt (Live w) w x cs) (h19 : x.timers.length ≤ 19) (hst : (x.status == 1) = true) (hov : overB x (timeF x now) = false) (hlost : lostB x (timeF x now) = true) :
    Calls Try.prog 8 #[.agg cs.toArray, .int .i64 now] w (AtP w x now) := by
  have hl := h.len
  have hlo : cs.toArray.size = 31 := by simp [hl]
  have hss := Lib.hid (s_size hl)
  have hb : Below w.heap.size w (w.alloc (.cells cs.toArray 33)) := (Below.refl _ _).alloc (Nat.le_refl _) _
  have hX : (w.alloc (.cells cs.toArray 33)).heap[w.heap.size]? = some (.cells cs.toArray 33 (0, 0)) := heap_alloc_new w _
  have hsz : (w.alloc (.cells cs.toArray 33)).heap.size = w.heap.size + 1 := by simp
  have kp : ∀ w', Below w.heap.size w w' → SAt (Live w') w' x cs := fun w' hb => h.below hb
  obtain ⟨k0, k1, k2, k3, k4, k5, k6, k7, k13, k14, k15, k16, k17, k18, k19, k20, k21, k22, k30, hrest⟩ := h.cells
  have R := running _ x cs _ (kp _ hb)
  have kx : ∀ w', Below (w.heap.size + 1) (w.alloc (.cells cs.toArray 33)) w' → w'.heap[w.heap.size]? = some (.cells cs.toArray 33 (0, 0)) := fun w' hb => (hb.block _ (Nat.lt_succ_self _)).trans hX
  replace hb := Lib.hid hb
  replace hX := Lib.hid hX
  replace hsz := Lib.hid hsz
  replace kp := Lib.hid kp
  replace kx := Lib.hid kx
  replace k16 := Lib.hid k16
  replace k21 := Lib.hid k21
  clear h hl hrest k0 k1 k2 k3 k4 k5 k6 k7 k13 k14 k15 k17 k18 k19 k20 k22 k30
  rw [hst] at R
  replace R := Lib.hid R
  replace hst := Lib.hid hst
  generalize hTT : timeF x now = tt at *
  replace hTT := Lib.hid hTT
  replace hov := Lib.hid hov
  replace hlost := Lib.hid hlost
  obtain ⟨i0, hi, hz0, hz1, hz2⟩ := info_parts (show (Try.prog.info? 54).map (fun i => (i.zero, i.size, i.bytes)) = some (some (.agg #[.int .i64 0, .int .i64 0, .int .i64 0, .int .i64 0, .string ByteArray.empty, .int .i64 0, .int .i64 0, .int .u64 0, .string ByteArray.empty, .slice none 0 0, .int .i64 0, .int .u64 0, .int .i64 0]), 13, 136) by kernel_rfl)
  replace hi := Lib.hid hi
  replace hz0 := Lib.hid hz0
  replace hz1 := Lib.hid hz1
  replace hz2 := Lib.hid hz2
  obtain ⟨L1, hL1⟩ : ∃ L1, lateL tt x.timers = L1 := ⟨_, rfl⟩
  obtain ⟨k, hk⟩ : ∃ k, L1.length = k := ⟨_, rfl⟩
  have hk19 : k ≤ 19 := by
    rw [← hk, ← hL1]; unfold lateL; rw [ins_len]; exact Nat.le_trans (List.length_filter_le _ _) h19
  replace hL1 := Lib.hid hL1
  replace hk := Lib.hid hk
  go_enter Try.func8, Try.ntmps8
  go_wp2_with (first | (with_reducible refine wpList_load_row rfl 33 (.tmp 2) rfl w.heap.size rfl 33 cs.toArray (0, 0) _ hX.out Try.underlying33 rfl hss.out ?_) | (with_reducible refine wpList_load_row rfl 33 (.tmp 2) rfl w.heap.size rfl 33 cs.toArray (0, 0) _ hX1.out Try.underlying33 rfl hss.out ?_) | (with_reducible refine wpList_load_row rfl 33 (.tmp 2) rfl w.heap.size rfl 33 cs.toArray (0, 0) _ hX2.out Try.underlying33 rfl hss.out ?_) | (with_reducible refine wpList_load_row rfl 33 (.tmp 2) rfl w.heap.size rfl 33 cs.toArray (0, 0) _ hX3.out Try.underlying33 rfl hss.out ?_) | (with_reducible refine wpList_load_row rfl 33 (.tmp 2) rfl w.heap.size rfl 33 cs.toArray (0, 0) _ hX4.out Try.underlying33 rfl hss.out ?_) | (with_reducible refine wpList_load_row rfl 33 (.tmp 2) rfl w.heap.size rfl 33 cs.toArray (0, 0) _ hX6.out Try.underlying33 rfl hss.out ?_) | (go_at_call 20; refine R.out.mono ?_; rintro e w1 ⟨rfl, hb1⟩; replace hb1 := hb1.mono (Nat.le_of_eq hsz.out.symm); have hX1 := Lib.hid (kx.out w1 hb1); have TM_ := time_ _ x cs now w1 (kp.out w1 (hb.out.trans (hb1.mono (Nat.le_succ _)))); rw [hTT.out] at TM_; replace TM_ := Lib.hid TM_; replace hb1 := Lib.hid hb1; clear R) | (go_at_call 10; refine TM_.out.mono ?_; rintro e w2 ⟨rfl, hb2⟩; replace hb2 := hb1.out.trans (hb2.mono (by have := hb1.out.size; rw [hsz.out] at this; omega)); have hX2 := Lib.hid (kx.out w2 hb2); have OV := over _ x cs tt w2 (kp.out w2 (hb.out.trans (hb2.mono (Nat.le_succ _)))); rw [hov.out] at OV; replace OV := Lib.hid OV; replace hb2 := Lib.hid hb2; clear TM_ hX1 hb1) | (go_at_call 21; refine OV.out.mono ?_; rintro e w3 ⟨rfl, hb3⟩; replace hb3 := hb2.out.trans (hb3.mono (by have := hb2.out.size; rw [hsz.out] at this; omega)); have hX3 := Lib.hid (kx.out w3 hb3); have hw3 := Lib.hid (hb.out.trans (hb3.mono (Nat.le_succ _))); have hB3 : w.heap.size + 1 ≤ w3.heap.size := (by have := hb3.size; rw [hsz.out] at this; exact this); replace hb3 := Lib.hid hb3; have LO := lost _ x cs tt w3 (kp.out w3 hw3.out); rw [hlost.out] at LO; replace LO := Lib.hid LO; clear OV hX2 hb2) | (go_at_call 22; refine LO.out.mono ?_; rintro e w4 ⟨rfl, hb4⟩; replace hb4 := hb3.out.trans (hb4.mono (by have := hb3.out.size; rw [hsz.out] at this; omega)); have hX4 := Lib.hid (kx.out w4 hb4); have hw4 := Lib.hid (hb.out.trans (hb4.mono (Nat.le_succ _))); have hB4 : w.heap.size + 1 ≤ w4.heap.size := (by have := hb4.size; rw [hsz.out] at this; exact this); replace hb4 := Lib.hid hb4; clear LO hX3 hb3) | (go_at_call 23; refine (again' _ x cs tt w4 (kp.out w4 hw4.out)).mono ?_; rintro e w5 ⟨wait, wt0, wt1, rfl, hb5⟩; replace hb5 := hb4.out.trans (hb5.mono (Nat.le_trans hB4 (Nat.le_refl _))); have hX5 := Lib.hid (kx.out w5 hb5); have hB5 : w.heap.size + 1 ≤ w5.heap.size := (by have := hb5.size; rw [hsz.out] at this; exact this); replace hb5 := Lib.hid hb5; replace wt0 := Lib.hid wt0; replace wt1 := Lib.hid wt1; clear hX4) | (refine wpList_append_own_at _ rfl (.tmp 25) (.tmp 31) 36 rfl (w.heap.size + 1) 54 i0 _ 13 136 Try.underlying36 hi.out hz0.out hz1.out hz2.out rfl (by decide) _ 0 ([]) rfl ⟨rfl, .inl ⟨rfl, rfl⟩⟩ ⟨_, 0, none⟩ 2 2 (eFl [ev6 tt, evA x tt wait]) rfl rfl (fun j u hu => by rw [Addr.add_mid]; exact box_range (cs := eFl [ev6 tt, evA x tt wait]) (heap_alloc_new _ _) j u hu) (eFl_one [ev6 tt, evA x tt wait]) (Nat.le_trans (show _ ≤ 1000 by omega) (by decide)) (by omega) (by simp; omega) ?_; intro v6 w6 q1 q2 q3 q4; rw [Nat.zero_add, List.nil_append] at q1; have hb6 := (hb5.out.alloc hB5 _).grown q2 (by simp; omega) (fun k hk => by cases hk); have hX6 := Lib.hid (kx.out w6 hb6); have hB6 : w.heap.size + 1 ≤ w6.heap.size := (by have := hb6.size; rw [hsz.out] at this; exact this); have LT := late x cs tt w6 (kp.out w6 (hb.out.trans (hb6.mono (Nat.le_succ _)))) h19; rw [hL1.out, hk.out] at LT; replace LT := Lib.hid LT; replace hb6 := Lib.hid hb6; have hA : LostR x tt [ev6 tt, evA x tt wait] := (by unfold LostR; rw [hlost.out, if_pos rfl]; exact ⟨wait, wt0.out, wt1.out, rfl⟩); have ho6 := Lib.hid q1; replace hA := Lib.hid hA; have hA2 : ([ev6 tt, evA x tt wait] : List ET).length = 2 := rfl; replace hA2 := Lib.hid hA2; generalize hAA : ([ev6 tt, evA x tt wait] : List ET) = A at ho6 hA hA2; have hva : ∀ q, v6.ownBlock = some q → q < w6.heap.size := (fun q hq => (own_from ho6.out q hq).2); replace hva := Lib.hid hva; clear q1 q2 q3 q4 hAA hX5) | (go_at_call 24; refine LT.out.mono ?_; rintro e w7 ⟨a7, c7, rfl, ht7, hb7⟩; have hs7 := hb7.size; have hb67 := Lib.hid (hb6.out.trans (hb7.mono hB6)); have ho7 := Lib.hid (own_below ho6.out hb7); replace ht7 := Lib.hid ht7; clear LT hX6 ho6 hb7))
  go_loopw [6, 38] (fun s6 s38 wr => ∃ (j : Nat) (P : List ET), s38 = .int .i64 (j : Int) ∧ j ≤ k ∧ P = A ++ (L1.take j).map (ev10 tt) ∧ wr.ownsRow (w.heap.size + 1) 54 13 s6 P.length (eFl P) ∧ (∀ q, s6.ownBlock = some q → q < w6.heap.size ∨ w7.heap.size ≤ q) ∧ Below (w.heap.size + 1) (w.alloc (.cells cs.toArray 33)) wr ∧ (∀ g, w6.heap.size ≤ g → g < w7.heap.size → wr.heap[g]? = w7.heap[g]?) ∧ w7.heap.size ≤ wr.heap.size) (fun _ s38 _ => k - (intOf s38).toNat)
  case atStart => exact ⟨0, A, rfl, Nat.zero_le _, by simp, by first | (rw [hA2.out]; exact ho7.out) | exact ho7.out, fun q hq => Or.inl (hva.out q hq), hb67.out, fun g _ _ => rfl, Nat.le_refl _⟩
  case round =>
    obtain ⟨j, P, rfl, hj, hP, hor, hvr, hbr, hgr, hsr⟩ := hrel
    clear ho7 hb67
    obtain ⟨np, hnp⟩ : ∃ np, P.length = np := ⟨_, rfl⟩
    have hAl := hA2.out
    have hnp2 : np ≤ 21 := by rw [← hnp, hP]; simp at hAl ⊢; omega
    rw [hnp] at hor
    clear hAl
    by_cases hlt : j < k
    · obtain ⟨y, hy⟩ : ∃ y, L1[j]? = some y := ⟨_, List.getElem?_eq_getElem (by rw [hk.out]; exact hlt)⟩
      have hl1 : L1 ≠ [] := by rintro rfl; simp at hy
      obtain ⟨g, off, g1, g2, rfl, g3⟩ := ht7.out hl1
      obtain ⟨c0, c1⟩ := (g3.keep (hgr g g1 g2)).get hy
      have b1 : (0 : Int) ≤ (j : Int) := by omega
      have b2 : (j : Int) < (k : Int) := by omega
      have ho8 : ((wr.alloc (.cells #[.string y.name, .int .i64 y.due] 52)).alloc (.cells (eCells (ev10 tt y)).toArray 54)).ownsRow (w.heap.size + 1) 54 13 u6 np (eFl P) := own_below (own_below hor ((Below.refl _ _).alloc (Nat.le_refl _) _)) ((Below.refl _ _).alloc (Nat.le_refl _) _)
      have hB8 : w.heap.size + 1 ≤ ((wr.alloc (.cells #[.string y.name, .int .i64 y.due] 52)).alloc (.cells (eCells (ev10 tt y)).toArray 54)).heap.size := by simp; omega
      have hb8 := (hbr.alloc (show w.heap.size + 1 ≤ wr.heap.size by omega) (.cells #[.string y.name, .int .i64 y.due] 52)).alloc (show w.heap.size + 1 ≤ (wr.alloc (.cells #[.string y.name, .int .i64 y.due] 52)).heap.size by simp; omega) (.cells (eCells (ev10 tt y)).toArray 54)
      have hs8 : w7.heap.size + 2 ≤ ((wr.alloc (.cells #[.string y.name, .int .i64 y.due] 52)).alloc (.cells (eCells (ev10 tt y)).toArray 54)).heap.size := by simp; omega
      have hg8 : ∀ q, q < wr.heap.size → ((wr.alloc (.cells #[.string y.name, .int .i64 y.due] 52)).alloc (.cells (eCells (ev10 tt y)).toArray 54)).heap[q]? = wr.heap[q]? := fun q hq => by rw [Below.heap_alloc _ _ _ (by simp; omega), Below.heap_alloc _ _ _ hq]
      replace hnp := Lib.hid hnp
      replace hP := Lib.hid hP
      replace hor := Lib.hid hor
      replace hvr := Lib.hid hvr
      replace hbr := Lib.hid hbr
      replace hgr := Lib.hid hgr
      replace hy := Lib.hid hy
      replace g3 := Lib.hid g3
      replace ho8 := Lib.hid ho8
      replace hB8 := Lib.hid hB8
      replace hb8 := Lib.hid hb8
      replace hs8 := Lib.hid hs8
      replace hg8 := Lib.hid hg8
      clear hl1
      go_wp2_with (refine wpList_append_own_at _ rfl (.tmp 42) (.tmp 47) 36 rfl (w.heap.size + 1) 54 i0 _ 13 136 Try.underlying36 hi.out hz0.out hz1.out hz2.out rfl (by decide) u6 np (eFl P) rfl ho8.out ⟨_, 0, none⟩ 1 1 (eCells (ev10 tt y)) rfl rfl (fun j u hu => by rw [Addr.add_mid]; exact box_range (cs := eCells (ev10 tt y)) (heap_alloc2_new wr _ _) j u hu) (eCells_one _) (Nat.le_trans (show _ ≤ 1000 by omega) (by decide)) (by omega) (hB8.out) ?_; intro v8 w8 q1 q2 q3 q4; replace q1 := Lib.hid q1; replace q2 : Hid (World.grownBy ((wr.alloc (.cells #[.string y.name, .int .i64 y.due] 52)).alloc (.cells (eCells (ev10 tt y)).toArray 54)) w8 u6.ownBlock) := q2; replace q4 : Hid (v8.ownBlock = u6.ownBlock ∨ v8.ownBlock = some ((wr.alloc (.cells #[.string y.name, .int .i64 y.due] 52)).alloc (.cells (eCells (ev10 tt y)).toArray 54)).heap.size) := q4; clear q3)
      go_roundw
      case rel =>
        refine ⟨j + 1, P ++ [ev10 tt y], by go_num, by omega, ?_, ?_, ?_, hb8.out.grown q2.out hB8.out (fun q hq => (own_from ho8.out q hq).1), ?_, ?_⟩
        · rw [List.take_add_one, hy.out]; have e := hP.out; rw [e]; simp
        · have e1 : (P ++ [ev10 tt y]).length = np + 1 := by rw [List.length_append, hnp.out]; rfl
          rw [e1, eFl_append, show eFl [ev10 tt y] = eCells (ev10 tt y) from List.append_nil _]
          exact q1.out
        · intro q hq
          rcases q4.out with e | e
          · exact hvr.out q (by rw [← e]; exact hq)
          · rw [e] at hq; cases hq; right; have := hs8.out; omega
        · intro q h1 h2
          rw [q2.out.block q (by have := hs8.out; omega) (fun e => by rcases hvr.out q e.symm with h | h <;> omega), hg8.out q (by omega)]
          exact hgr.out q h1 h2
        · have := hs8.out; have := q2.out.size; omega
      case measure => simp [intOf]; omega
    · obtain rfl : j = k := by omega
      have hP' : P = A ++ L1.map (ev10 tt) := by rw [hP, List.take_of_length_le (by rw [hk.out]; exact Nat.le_refl _)]
      have hXr := kx.out wr hbr
      have q16 := box_cell hXr 16 _ (by simpa using k16.out)
      have q21 := box_cell hXr 21 _ (by simpa using k21.out)
      clear hXr hP hlt hj
      have hP := hP'
      clear hP'
      replace hnp := Lib.hid hnp
      replace hP := Lib.hid hP
      replace hor := Lib.hid hor
      replace hvr := Lib.hid hvr
      replace hbr := Lib.hid hbr
      replace hgr := Lib.hid hgr
      cases h0 : (x.task.state == 0) with
      | false =>
        go_wp2_with fail
        go_ret
        refine ⟨u6, P, rfl, by rw [hnp.out]; exact own_mono hor.out (Nat.le_succ _), ?_, hb.out.trans (hbr.out.mono (Nat.le_succ _))⟩
        unfold AtR
        rw [if_pos hst.out, hTT.out, hov.out, if_neg (by decide)]
        refine ⟨A, hA.out, ?_⟩
        rw [hL1.out, hk.out, h0]
        rw [if_neg (by simp), hP.out, List.append_nil]
      | true =>
        cases h1 : x.fresh with
        | true =>
          have ho8 : ((wr.alloc (.cells (eCells (ev2 tt)).toArray 54))).ownsRow (w.heap.size + 1) 54 13 u6 np (eFl P) := own_below hor.out ((Below.refl _ _).alloc (Nat.le_refl _) _)
          have hB8 : w.heap.size + 1 ≤ (wr.alloc (.cells (eCells (ev2 tt)).toArray 54)).heap.size := by simp; omega
          have hb8 := hbr.out.alloc (show w.heap.size + 1 ≤ wr.heap.size by omega) (.cells (eCells (ev2 tt)).toArray 54)
          replace ho8 := Lib.hid ho8
          replace hB8 := Lib.hid hB8
          replace hb8 := Lib.hid hb8
          go_wp2_with (refine wpList_append_own_at _ rfl (.tmp 63) (.tmp 67) 36 rfl (w.heap.size + 1) 54 i0 _ 13 136 Try.underlying36 hi.out hz0.out hz1.out hz2.out rfl (by decide) u6 np (eFl P) rfl ho8.out ⟨_, 0, none⟩ 1 1 (eCells (ev2 tt)) rfl rfl (fun j u hu => by rw [Addr.add_mid]; exact box_range (cs := eCells (ev2 tt)) (heap_alloc_new _ _) j u hu) (eCells_one _) (Nat.le_trans (show _ ≤ 1000 by omega) (by decide)) (by omega) (hB8.out) ?_; intro v8 w8 q1 q2 q3 q4; replace q1 := Lib.hid q1; replace q2 := Lib.hid q2; clear q3 q4)
          go_ret
          have e1 : (P ++ [ev2 tt]).length = np + 1 := by rw [List.length_append, hnp.out]; rfl
          refine ⟨v8, P ++ [ev2 tt], rfl, ?_, ?_, hb.out.trans ((hb8.out.grown q2.out hB8.out (fun q hq => (own_from ho8.out q hq).1)).mono (Nat.le_succ _))⟩
          · rw [e1, eFl_append, show eFl [ev2 tt] = eCells (ev2 tt) from List.append_nil _]
            exact own_mono q1.out (Nat.le_succ _)
          · unfold AtR
            rw [if_pos hst.out, hTT.out, hov.out, if_neg (by decide)]
            refine ⟨A, hA.out, ?_⟩
            rw [hL1.out, hk.out, h0, h1]
            rw [if_pos (by simp), hP.out]
        | false =>
          by_cases h2 : 0 < j
          · have h2' : (0 : Int) < (j : Int) := by omega
            have ho8 : ((wr.alloc (.cells (eCells (ev2 tt)).toArray 54))).ownsRow (w.heap.size + 1) 54 13 u6 np (eFl P) := own_below hor.out ((Below.refl _ _).alloc (Nat.le_refl _) _)
            have hB8 : w.heap.size + 1 ≤ (wr.alloc (.cells (eCells (ev2 tt)).toArray 54)).heap.size := by simp; omega
            have hb8 := hbr.out.alloc (show w.heap.size + 1 ≤ wr.heap.size by omega) (.cells (eCells (ev2 tt)).toArray 54)
            replace ho8 := Lib.hid ho8
            replace hB8 := Lib.hid hB8
            replace hb8 := Lib.hid hb8
            go_wp2_with (refine wpList_append_own_at _ rfl (.tmp 63) (.tmp 67) 36 rfl (w.heap.size + 1) 54 i0 _ 13 136 Try.underlying36 hi.out hz0.out hz1.out hz2.out rfl (by decide) u6 np (eFl P) rfl ho8.out ⟨_, 0, none⟩ 1 1 (eCells (ev2 tt)) rfl rfl (fun j u hu => by rw [Addr.add_mid]; exact box_range (cs := eCells (ev2 tt)) (heap_alloc_new _ _) j u hu) (eCells_one _) (Nat.le_trans (show _ ≤ 1000 by omega) (by decide)) (by omega) (hB8.out) ?_; intro v8 w8 q1 q2 q3 q4; replace q1 := Lib.hid q1; replace q2 := Lib.hid q2; clear q3 q4)
            go_ret
            have e1 : (P ++ [ev2 tt]).length = np + 1 := by rw [List.length_append, hnp.out]; rfl
            refine ⟨v8, P ++ [ev2 tt], rfl, ?_, ?_, hb.out.trans ((hb8.out.grown q2.out hB8.out (fun q hq => (own_from ho8.out q hq).1)).mono (Nat.le_succ _))⟩
            · rw [e1, eFl_append, show eFl [ev2 tt] = eCells (ev2 tt) from List.append_nil _]
              exact own_mono q1.out (Nat.le_succ _)
            · unfold AtR
              rw [if_pos hst.out, hTT.out, hov.out, if_neg (by decide)]
              refine ⟨A, hA.out, ?_⟩
              rw [hL1.out, hk.out, h0, h1, decide_eq_true h2]
              rw [if_pos (by simp), hP.out]
          · have h2' : ¬ (0 : Int) < (j : Int) := by omega
            go_wp2_with fail
            go_ret
            refine ⟨u6, P, rfl, by rw [hnp.out]; exact own_mono hor.out (Nat.le_succ _), ?_, hb.out.trans (hbr.out.mono (Nat.le_succ _))⟩
            unfold AtR
            rw [if_pos hst.out, hTT.out, hov.out, if_neg (by decide)]
            refine ⟨A, hA.out, ?_⟩
            rw [hL1.out, hk.out, h0, h1, decide_eq_false h2]
            rw [if_neg (by simp), hP.out, List.append_nil]

set_option maxRecDepth 100000 in
set_option maxHeartbeats 1600000 in
theorem at_well (x : ST) (cs : List Value) (now : Int) (w : World) (h : SAt (Live w) w x cs) (h19 : x.timers.length ≤ 19) (hst : (x.status == 1) = true) (hov : overB x (timeF x now) = false) (hlost : lostB x (timeF x now) = false) :
    Calls Try.prog 8 #[.agg cs.toArray, .int .i64 now] w (AtP w x now) := by
  have hl := h.len
  have hlo : cs.toArray.size = 31 := by simp [hl]
  have hss := Lib.hid (s_size hl)
  have hb : Below w.heap.size w (w.alloc (.cells cs.toArray 33)) := (Below.refl _ _).alloc (Nat.le_refl _) _
  have hX : (w.alloc (.cells cs.toArray 33)).heap[w.heap.size]? = some (.cells cs.toArray 33 (0, 0)) := heap_alloc_new w _
  have hsz : (w.alloc (.cells cs.toArray 33)).heap.size = w.heap.size + 1 := by simp
  have kp : ∀ w', Below w.heap.size w w' → SAt (Live w') w' x cs := fun w' hb => h.below hb
  obtain ⟨k0, k1, k2, k3, k4, k5, k6, k7, k13, k14, k15, k16, k17, k18, k19, k20, k21, k22, k30, hrest⟩ := h.cells
  have R := running _ x cs _ (kp _ hb)
  have kx : ∀ w', Below (w.heap.size + 1) (w.alloc (.cells cs.toArray 33)) w' → w'.heap[w.heap.size]? = some (.cells cs.toArray 33 (0, 0)) := fun w' hb => (hb.block _ (Nat.lt_succ_self _)).trans hX
  replace hb := Lib.hid hb
  replace hX := Lib.hid hX
  replace hsz := Lib.hid hsz
  replace kp := Lib.hid kp
  replace kx := Lib.hid kx
  replace k16 := Lib.hid k16
  replace k21 := Lib.hid k21
  clear h hl hrest k0 k1 k2 k3 k4 k5 k6 k7 k13 k14 k15 k17 k18 k19 k20 k22 k30
  rw [hst] at R
  replace R := Lib.hid R
  replace hst := Lib.hid hst
  generalize hTT : timeF x now = tt at *
  replace hTT := Lib.hid hTT
  replace hov := Lib.hid hov
  replace hlost := Lib.hid hlost
  obtain ⟨i0, hi, hz0, hz1, hz2⟩ := info_parts (show (Try.prog.info? 54).map (fun i => (i.zero, i.size, i.bytes)) = some (some (.agg #[.int .i64 0, .int .i64 0, .int .i64 0, .int .i64 0, .string ByteArray.empty, .int .i64 0, .int .i64 0, .int .u64 0, .string ByteArray.empty, .slice none 0 0, .int .i64 0, .int .u64 0, .int .i64 0]), 13, 136) by kernel_rfl)
  replace hi := Lib.hid hi
  replace hz0 := Lib.hid hz0
  replace hz1 := Lib.hid hz1
  replace hz2 := Lib.hid hz2
  obtain ⟨L1, hL1⟩ : ∃ L1, lateL tt x.timers = L1 := ⟨_, rfl⟩
  obtain ⟨k, hk⟩ : ∃ k, L1.length = k := ⟨_, rfl⟩
  have hk19 : k ≤ 19 := by
    rw [← hk, ← hL1]; unfold lateL; rw [ins_len]; exact Nat.le_trans (List.length_filter_le _ _) h19
  replace hL1 := Lib.hid hL1
  replace hk := Lib.hid hk
  go_enter Try.func8, Try.ntmps8
  go_wp2_with (first | (with_reducible refine wpList_load_row rfl 33 (.tmp 2) rfl w.heap.size rfl 33 cs.toArray (0, 0) _ hX.out Try.underlying33 rfl hss.out ?_) | (with_reducible refine wpList_load_row rfl 33 (.tmp 2) rfl w.heap.size rfl 33 cs.toArray (0, 0) _ hX1.out Try.underlying33 rfl hss.out ?_) | (with_reducible refine wpList_load_row rfl 33 (.tmp 2) rfl w.heap.size rfl 33 cs.toArray (0, 0) _ hX2.out Try.underlying33 rfl hss.out ?_) | (with_reducible refine wpList_load_row rfl 33 (.tmp 2) rfl w.heap.size rfl 33 cs.toArray (0, 0) _ hX3.out Try.underlying33 rfl hss.out ?_) | (with_reducible refine wpList_load_row rfl 33 (.tmp 2) rfl w.heap.size rfl 33 cs.toArray (0, 0) _ hX6.out Try.underlying33 rfl hss.out ?_) | (go_at_call 20; refine R.out.mono ?_; rintro e w1 ⟨rfl, hb1⟩; replace hb1 := hb1.mono (Nat.le_of_eq hsz.out.symm); have hX1 := Lib.hid (kx.out w1 hb1); have TM_ := time_ _ x cs now w1 (kp.out w1 (hb.out.trans (hb1.mono (Nat.le_succ _)))); rw [hTT.out] at TM_; replace TM_ := Lib.hid TM_; replace hb1 := Lib.hid hb1; clear R) | (go_at_call 10; refine TM_.out.mono ?_; rintro e w2 ⟨rfl, hb2⟩; replace hb2 := hb1.out.trans (hb2.mono (by have := hb1.out.size; rw [hsz.out] at this; omega)); have hX2 := Lib.hid (kx.out w2 hb2); have OV := over _ x cs tt w2 (kp.out w2 (hb.out.trans (hb2.mono (Nat.le_succ _)))); rw [hov.out] at OV; replace OV := Lib.hid OV; replace hb2 := Lib.hid hb2; clear TM_ hX1 hb1) | (go_at_call 21; refine OV.out.mono ?_; rintro e w3 ⟨rfl, hb3⟩; replace hb3 := hb2.out.trans (hb3.mono (by have := hb2.out.size; rw [hsz.out] at this; omega)); have hX3 := Lib.hid (kx.out w3 hb3); have hw3 := Lib.hid (hb.out.trans (hb3.mono (Nat.le_succ _))); have hB3 : w.heap.size + 1 ≤ w3.heap.size := (by have := hb3.size; rw [hsz.out] at this; exact this); replace hb3 := Lib.hid hb3; have LO := lost _ x cs tt w3 (kp.out w3 hw3.out); rw [hlost.out] at LO; replace LO := Lib.hid LO; clear OV hX2 hb2) | (go_at_call 22; refine LO.out.mono ?_; rintro e w4 ⟨rfl, hb4⟩; replace hb4 := hb3.out.trans (hb4.mono (by have := hb3.out.size; rw [hsz.out] at this; omega)); have hX4 := Lib.hid (kx.out w4 hb4); have hw4 := Lib.hid (hb.out.trans (hb4.mono (Nat.le_succ _))); have hB4 : w.heap.size + 1 ≤ w4.heap.size := (by have := hb4.size; rw [hsz.out] at this; exact this); replace hb4 := Lib.hid hb4; have hb6 := hb4; obtain ⟨w6, hw6⟩ : ∃ w6, w6 = w4 := ⟨_, rfl⟩; rw [← hw6] at hb6; rw [← hw6]; replace hb6 := hb6.out; have hX6 := Lib.hid (kx.out w6 hb6); have hB6 : w.heap.size + 1 ≤ w6.heap.size := (by have := hb6.size; rw [hsz.out] at this; exact this); have LT := late x cs tt w6 (kp.out w6 (hb.out.trans (hb6.mono (Nat.le_succ _)))) h19; rw [hL1.out, hk.out] at LT; replace LT := Lib.hid LT; replace hb6 := Lib.hid hb6; have ho6 : Hid (w6.ownsRow (w.heap.size + 1) 54 13 (.slice none 0 0) 0 (eFl [])) := (show _ from ⟨rfl, .inl ⟨rfl, rfl⟩⟩); have hA : Hid (LostR x tt []) := (show LostR x tt [] from (by unfold LostR; rw [hlost.out]; rfl)); have hA2 : Hid (([] : List ET).length = 0) := (rfl : ([] : List ET).length = 0); have hva : Hid (∀ q, (Value.slice none 0 0).ownBlock = some q → q < w6.heap.size) := (fun q hq => by cases hq); clear LO hX3 hb3 hX4 hw4 hB4 hb4 hw6) | (go_at_call 24; refine LT.out.mono ?_; rintro e w7 ⟨a7, c7, rfl, ht7, hb7⟩; have hs7 := hb7.size; have hb67 := Lib.hid (hb6.out.trans (hb7.mono hB6)); have ho7 := Lib.hid (own_below ho6.out hb7); replace ht7 := Lib.hid ht7; clear LT hX6 ho6 hb7))
  go_loopw [6, 38] (fun s6 s38 wr => ∃ (j : Nat) (P : List ET), s38 = .int .i64 (j : Int) ∧ j ≤ k ∧ P = [] ++ (L1.take j).map (ev10 tt) ∧ wr.ownsRow (w.heap.size + 1) 54 13 s6 P.length (eFl P) ∧ (∀ q, s6.ownBlock = some q → q < w6.heap.size ∨ w7.heap.size ≤ q) ∧ Below (w.heap.size + 1) (w.alloc (.cells cs.toArray 33)) wr ∧ (∀ g, w6.heap.size ≤ g → g < w7.heap.size → wr.heap[g]? = w7.heap[g]?) ∧ w7.heap.size ≤ wr.heap.size) (fun _ s38 _ => k - (intOf s38).toNat)
  case atStart => exact ⟨0, [], rfl, Nat.zero_le _, by simp, by first | (rw [hA2.out]; exact ho7.out) | exact ho7.out, fun q hq => Or.inl (hva.out q hq), hb67.out, fun g _ _ => rfl, Nat.le_refl _⟩
  case round =>
    obtain ⟨j, P, rfl, hj, hP, hor, hvr, hbr, hgr, hsr⟩ := hrel
    clear ho7 hb67
    obtain ⟨np, hnp⟩ : ∃ np, P.length = np := ⟨_, rfl⟩
    have hAl := hA2.out
    have hnp2 : np ≤ 21 := by rw [← hnp, hP]; simp at hAl ⊢; omega
    rw [hnp] at hor
    clear hAl
    by_cases hlt : j < k
    · obtain ⟨y, hy⟩ : ∃ y, L1[j]? = some y := ⟨_, List.getElem?_eq_getElem (by rw [hk.out]; exact hlt)⟩
      have hl1 : L1 ≠ [] := by rintro rfl; simp at hy
      obtain ⟨g, off, g1, g2, rfl, g3⟩ := ht7.out hl1
      obtain ⟨c0, c1⟩ := (g3.keep (hgr g g1 g2)).get hy
      have b1 : (0 : Int) ≤ (j : Int) := by omega
      have b2 : (j : Int) < (k : Int) := by omega
      have ho8 : ((wr.alloc (.cells #[.string y.name, .int .i64 y.due] 52)).alloc (.cells (eCells (ev10 tt y)).toArray 54)).ownsRow (w.heap.size + 1) 54 13 u6 np (eFl P) := own_below (own_below hor ((Below.refl _ _).alloc (Nat.le_refl _) _)) ((Below.refl _ _).alloc (Nat.le_refl _) _)
      have hB8 : w.heap.size + 1 ≤ ((wr.alloc (.cells #[.string y.name, .int .i64 y.due] 52)).alloc (.cells (eCells (ev10 tt y)).toArray 54)).heap.size := by simp; omega
      have hb8 := (hbr.alloc (show w.heap.size + 1 ≤ wr.heap.size by omega) (.cells #[.string y.name, .int .i64 y.due] 52)).alloc (show w.heap.size + 1 ≤ (wr.alloc (.cells #[.string y.name, .int .i64 y.due] 52)).heap.size by simp; omega) (.cells (eCells (ev10 tt y)).toArray 54)
      have hs8 : w7.heap.size + 2 ≤ ((wr.alloc (.cells #[.string y.name, .int .i64 y.due] 52)).alloc (.cells (eCells (ev10 tt y)).toArray 54)).heap.size := by simp; omega
      have hg8 : ∀ q, q < wr.heap.size → ((wr.alloc (.cells #[.string y.name, .int .i64 y.due] 52)).alloc (.cells (eCells (ev10 tt y)).toArray 54)).heap[q]? = wr.heap[q]? := fun q hq => by rw [Below.heap_alloc _ _ _ (by simp; omega), Below.heap_alloc _ _ _ hq]
      replace hnp := Lib.hid hnp
      replace hP := Lib.hid hP
      replace hor := Lib.hid hor
      replace hvr := Lib.hid hvr
      replace hbr := Lib.hid hbr
      replace hgr := Lib.hid hgr
      replace hy := Lib.hid hy
      replace g3 := Lib.hid g3
      replace ho8 := Lib.hid ho8
      replace hB8 := Lib.hid hB8
      replace hb8 := Lib.hid hb8
      replace hs8 := Lib.hid hs8
      replace hg8 := Lib.hid hg8
      clear hl1
      go_wp2_with (refine wpList_append_own_at _ rfl (.tmp 42) (.tmp 47) 36 rfl (w.heap.size + 1) 54 i0 _ 13 136 Try.underlying36 hi.out hz0.out hz1.out hz2.out rfl (by decide) u6 np (eFl P) rfl ho8.out ⟨_, 0, none⟩ 1 1 (eCells (ev10 tt y)) rfl rfl (fun j u hu => by rw [Addr.add_mid]; exact box_range (cs := eCells (ev10 tt y)) (heap_alloc2_new wr _ _) j u hu) (eCells_one _) (Nat.le_trans (show _ ≤ 1000 by omega) (by decide)) (by omega) (hB8.out) ?_; intro v8 w8 q1 q2 q3 q4; replace q1 := Lib.hid q1; replace q2 : Hid (World.grownBy ((wr.alloc (.cells #[.string y.name, .int .i64 y.due] 52)).alloc (.cells (eCells (ev10 tt y)).toArray 54)) w8 u6.ownBlock) := q2; replace q4 : Hid (v8.ownBlock = u6.ownBlock ∨ v8.ownBlock = some ((wr.alloc (.cells #[.string y.name, .int .i64 y.due] 52)).alloc (.cells (eCells (ev10 tt y)).toArray 54)).heap.size) := q4; clear q3)
      go_roundw
      case rel =>
        refine ⟨j + 1, P ++ [ev10 tt y], by go_num, by omega, ?_, ?_, ?_, hb8.out.grown q2.out hB8.out (fun q hq => (own_from ho8.out q hq).1), ?_, ?_⟩
        · rw [List.take_add_one, hy.out]; have e := hP.out; rw [e]; simp
        · have e1 : (P ++ [ev10 tt y]).length = np + 1 := by rw [List.length_append, hnp.out]; rfl
          rw [e1, eFl_append, show eFl [ev10 tt y] = eCells (ev10 tt y) from List.append_nil _]
          exact q1.out
        · intro q hq
          rcases q4.out with e | e
          · exact hvr.out q (by rw [← e]; exact hq)
          · rw [e] at hq; cases hq; right; have := hs8.out; omega
        · intro q h1 h2
          rw [q2.out.block q (by have := hs8.out; omega) (fun e => by rcases hvr.out q e.symm with h | h <;> omega), hg8.out q (by omega)]
          exact hgr.out q h1 h2
        · have := hs8.out; have := q2.out.size; omega
      case measure => simp [intOf]; omega
    · obtain rfl : j = k := by omega
      have hP' : P = [] ++ L1.map (ev10 tt) := by rw [hP, List.take_of_length_le (by rw [hk.out]; exact Nat.le_refl _)]
      have hXr := kx.out wr hbr
      have q16 := box_cell hXr 16 _ (by simpa using k16.out)
      have q21 := box_cell hXr 21 _ (by simpa using k21.out)
      clear hXr hP hlt hj
      have hP := hP'
      clear hP'
      replace hnp := Lib.hid hnp
      replace hP := Lib.hid hP
      replace hor := Lib.hid hor
      replace hvr := Lib.hid hvr
      replace hbr := Lib.hid hbr
      replace hgr := Lib.hid hgr
      cases h0 : (x.task.state == 0) with
      | false =>
        go_wp2_with fail
        go_ret
        refine ⟨u6, P, rfl, by rw [hnp.out]; exact own_mono hor.out (Nat.le_succ _), ?_, hb.out.trans (hbr.out.mono (Nat.le_succ _))⟩
        unfold AtR
        rw [if_pos hst.out, hTT.out, hov.out, if_neg (by decide)]
        refine ⟨[], hA.out, ?_⟩
        rw [hL1.out, hk.out, h0]
        rw [if_neg (by simp), hP.out, List.append_nil]
      | true =>
        cases h1 : x.fresh with
        | true =>
          have ho8 : ((wr.alloc (.cells (eCells (ev2 tt)).toArray 54))).ownsRow (w.heap.size + 1) 54 13 u6 np (eFl P) := own_below hor.out ((Below.refl _ _).alloc (Nat.le_refl _) _)
          have hB8 : w.heap.size + 1 ≤ (wr.alloc (.cells (eCells (ev2 tt)).toArray 54)).heap.size := by simp; omega
          have hb8 := hbr.out.alloc (show w.heap.size + 1 ≤ wr.heap.size by omega) (.cells (eCells (ev2 tt)).toArray 54)
          replace ho8 := Lib.hid ho8
          replace hB8 := Lib.hid hB8
          replace hb8 := Lib.hid hb8
          go_wp2_with (refine wpList_append_own_at _ rfl (.tmp 63) (.tmp 67) 36 rfl (w.heap.size + 1) 54 i0 _ 13 136 Try.underlying36 hi.out hz0.out hz1.out hz2.out rfl (by decide) u6 np (eFl P) rfl ho8.out ⟨_, 0, none⟩ 1 1 (eCells (ev2 tt)) rfl rfl (fun j u hu => by rw [Addr.add_mid]; exact box_range (cs := eCells (ev2 tt)) (heap_alloc_new _ _) j u hu) (eCells_one _) (Nat.le_trans (show _ ≤ 1000 by omega) (by decide)) (by omega) (hB8.out) ?_; intro v8 w8 q1 q2 q3 q4; replace q1 := Lib.hid q1; replace q2 := Lib.hid q2; clear q3 q4)
          go_ret
          have e1 : (P ++ [ev2 tt]).length = np + 1 := by rw [List.length_append, hnp.out]; rfl
          refine ⟨v8, P ++ [ev2 tt], rfl, ?_, ?_, hb.out.trans ((hb8.out.grown q2.out hB8.out (fun q hq => (own_from ho8.out q hq).1)).mono (Nat.le_succ _))⟩
          · rw [e1, eFl_append, show eFl [ev2 tt] = eCells (ev2 tt) from List.append_nil _]
            exact own_mono q1.out (Nat.le_succ _)
          · unfold AtR
            rw [if_pos hst.out, hTT.out, hov.out, if_neg (by decide)]
            refine ⟨[], hA.out, ?_⟩
            rw [hL1.out, hk.out, h0, h1]
            rw [if_pos (by simp), hP.out]
        | false =>
          by_cases h2 : 0 < j
          · have h2' : (0 : Int) < (j : Int) := by omega
            have ho8 : ((wr.alloc (.cells (eCells (ev2 tt)).toArray 54))).ownsRow (w.heap.size + 1) 54 13 u6 np (eFl P) := own_below hor.out ((Below.refl _ _).alloc (Nat.le_refl _) _)
            have hB8 : w.heap.size + 1 ≤ (wr.alloc (.cells (eCells (ev2 tt)).toArray 54)).heap.size := by simp; omega
            have hb8 := hbr.out.alloc (show w.heap.size + 1 ≤ wr.heap.size by omega) (.cells (eCells (ev2 tt)).toArray 54)
            replace ho8 := Lib.hid ho8
            replace hB8 := Lib.hid hB8
            replace hb8 := Lib.hid hb8
            go_wp2_with (refine wpList_append_own_at _ rfl (.tmp 63) (.tmp 67) 36 rfl (w.heap.size + 1) 54 i0 _ 13 136 Try.underlying36 hi.out hz0.out hz1.out hz2.out rfl (by decide) u6 np (eFl P) rfl ho8.out ⟨_, 0, none⟩ 1 1 (eCells (ev2 tt)) rfl rfl (fun j u hu => by rw [Addr.add_mid]; exact box_range (cs := eCells (ev2 tt)) (heap_alloc_new _ _) j u hu) (eCells_one _) (Nat.le_trans (show _ ≤ 1000 by omega) (by decide)) (by omega) (hB8.out) ?_; intro v8 w8 q1 q2 q3 q4; replace q1 := Lib.hid q1; replace q2 := Lib.hid q2; clear q3 q4)
            go_ret
            have e1 : (P ++ [ev2 tt]).length = np + 1 := by rw [List.length_append, hnp.out]; rfl
            refine ⟨v8, P ++ [ev2 tt], rfl, ?_, ?_, hb.out.trans ((hb8.out.grown q2.out hB8.out (fun q hq => (own_from ho8.out q hq).1)).mono (Nat.le_succ _))⟩
            · rw [e1, eFl_append, show eFl [ev2 tt] = eCells (ev2 tt) from List.append_nil _]
              exact own_mono q1.out (Nat.le_succ _)
            · unfold AtR
              rw [if_pos hst.out, hTT.out, hov.out, if_neg (by decide)]
              refine ⟨[], hA.out, ?_⟩
              rw [hL1.out, hk.out, h0, h1, decide_eq_true h2]
              rw [if_pos (by simp), hP.out]
          · have h2' : ¬ (0 : Int) < (j : Int) := by omega
            go_wp2_with fail
            go_ret
            refine ⟨u6, P, rfl, by rw [hnp.out]; exact own_mono hor.out (Nat.le_succ _), ?_, hb.out.trans (hbr.out.mono (Nat.le_succ _))⟩
            unfold AtR
            rw [if_pos hst.out, hTT.out, hov.out, if_neg (by decide)]
            refine ⟨[], hA.out, ?_⟩
            rw [hL1.out, hk.out, h0, h1, decide_eq_false h2]
            rw [if_neg (by simp), hP.out, List.append_nil]
end Go.Proofs.Ytidoacdigedlnaa
