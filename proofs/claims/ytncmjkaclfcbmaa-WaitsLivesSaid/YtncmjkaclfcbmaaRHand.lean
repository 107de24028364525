/- usherref30's Hand. -/
import Derived.Test.YtncmjkaclfcbmaaBox
set_option linter.unusedVariables false
set_option linter.unusedSimpArgs false
namespace Go.Proofs.Ytncmjkaclfcbmaa
open Go.RowKit

set_option maxHeartbeats 3200000 in
theorem rhand (a : Option Addr) (n cap : Nat) (ws : List WT) (flow : ByteArray) (run who upto : Int) (w : World) (hs : Sl 19 (WAt (Live w) w) (Live w) w a ws) (hn : ws.length = n) (hc : n ≤ cap) (h9 : n ≤ 1000000) :
    Calls Try.prog 36 #[.slice a n cap, .string flow, .int .i64 run, .int .i64 who, .int .i64 upto] w (ListP w (handF flow run who upto ws)) := by
  obtain ⟨i0, hi, hz0, hz1, hz2⟩ := w_info
  replace hs := Lib.hid hs
  replace hn := Lib.hid hn
  replace hi := Lib.hid hi
  replace hz0 := Lib.hid hz0
  replace hz1 := Lib.hid hz1
  replace hz2 := Lib.hid hz2
  go_enter Try.func36, Try.ntmps36
  go_wp2_with fail
  go_loopw [11, 12] (fun v i wr => ∃ j : Nat, j ≤ n ∧ i = .int .i64 (j : Int) ∧ Out WAt 19 31 w.heap.size wr v ((handF flow run who upto ws).take j) ∧ Below w.heap.size w wr) (fun _ i _ => n - (intOf i).toNat)
  case atStart => exact ⟨0, Nat.zero_le _, rfl, Out.nil _ _ _ _ _, Below.refl _ _⟩
  case round =>
    obtain ⟨j, hj, rfl, ho, hbr⟩ := hrel
    by_cases hlt : j < n
    · obtain ⟨x, hx⟩ : ∃ x, ws[j]? = some x := ⟨_, List.getElem?_eq_getElem (by rw [hn.out]; exact hlt)⟩
      obtain ⟨g, off, cs, rfl, hg, hcl, hct, hcr⟩ := hs.out.get j x hx
      have hcr' : wr.rangeAt g (off + j * 19) cs := range_keep hcr (hbr.block _ hg)
      have hct' := hct.below hbr
      have hstep : ((handF flow run who upto ws).take (j + 1)) = ((handF flow run who upto ws).take j) ++ [if sesB who && quB flow run x then { x with handed := who + 1, upto := upto } else x] := by
        unfold handF; rw [List.take_add_one, List.getElem?_map, hx]; rfl
      have hlen : ((handF flow run who upto ws).take j).length = j := by unfold handF; rw [List.length_take, List.length_map, hn.out]; omega
      have hsz0 : w.heap.size ≤ wr.heap.size := hbr.size
      have J := Lib.hid (rown x cs wr hct')
      replace hcr := Lib.hid hcr
      replace hct := Lib.hid hct
      replace hx := Lib.hid hx
      replace ho := Lib.hid ho
      replace hbr := Lib.hid hbr
      replace hcr' := Lib.hid hcr'
      replace hct' := Lib.hid hct'
      replace hcl := Lib.hid hcl
      replace hlen := Lib.hid hlen
      go_upto_region 6 with (with_reducible refine wpList_load_mid rfl 31 (.tmp 22) rfl g (off + j * 19) rfl cs _ hcr'.out Try.underlying31 rfl (w_size hcl.out) ?_)
      refine J.out.mono ?_
      rintro e w1 ⟨cs1, rfl, hv1, hb1⟩
      have hcl1 := Lib.hid hv1.len
      have hone1 := Lib.hid (all_one hv1.one)
      have hlo1 : cs1.toArray.size = 19 := by simp [hcl1.out]
      have hz := Lib.hid (heap_alloc_new w1 (.cells Z19 31))
      unfold Z19 at hz
      have hX := Lib.hid (BoxP.new hv1 hb1)
      clear hv1 hb1 J
      go_upto_region 6 with (with_reducible refine wpList_store_row rfl 31 (.tmp 13) (.tmp 24) rfl w1.heap.size cs1.toArray rfl rfl 31 _ hz.out (w_size' hcl1.out) (by simp [hcl1.out]) hone1.out ?_; rw [alloc_setRow])
      go_frame
      generalize w1.alloc (.cells cs1.toArray 31) = w2 at *
      generalize w1.heap.size = b at *
      by_cases p0 : 0 ≤ who
      · have d0 : decide (0 ≤ who) = true := decide_eq_true p0
        by_cases p1 : who ≤ 2147483648
        · have d1 : decide (who ≤ 2147483648) = true := decide_eq_true p1
          have O := Lib.hid (of_query flow run _ x cs1 w2 hX.out.live)
          have hse : sesB who = true := by simp [sesB, p0, p1]
          rw [hse, Bool.true_and] at hstep
          cases hq : quB flow run x with
          | false =>
            rw [hq] at hstep O
            rw [if_neg (by simp)] at hstep
            have hX2 := hX.out.1
            have hstep := Lib.hid hstep
            go_wp2_with (with_reducible refine wpList_load_want (by kernel_rfl) 31 (.tmp 13) rfl b rfl 31 cs1.toArray (0, 0) _ hX2 Try.underlying31 rfl (w_size' hcl1.out) ?_)
            refine O.out.mono ?_
            rintro e w3 ⟨rfl, hb3⟩
            have hX3 := Lib.hid (hX.out.below hb3)
            clear hb3 O hX2
            obtain ⟨t2, t5, t3, t7, t4, t6, t8, t9⟩ := hX3.out.tail carried_w ho.out hbr.out.size
            have hw7 := Lib.hid hX3.out.1
            have hfold : List.foldl (fun cs x => cs.setIfInBounds x.snd x.fst) Z19 cs1.zipIdx = cs1.toArray := foldl_cells t7
            unfold Z19 at hfold
            have hlo4 : cs1.length = 19 := t7
            replace t2 := Lib.hid t2
            replace t3 := Lib.hid t3
            replace t4 := Lib.hid t4
            replace t5 := Lib.hid t5
            replace t6 := Lib.hid t6
            replace t7 := Lib.hid t7
            replace t9 := Lib.hid t9
            go_wp2_with (first | (with_reducible refine wpList_load_row rfl 31 (.tmp 13) rfl b rfl 31 cs1.toArray (0, 0) _ hw7.out Try.underlying31 rfl (w_size' t7.out) ?_) | (at_builtin; refine wpList_push carried_w rfl (.tmp 42) (.tmp 44) 22 rfl w.heap.size 31 i0 _ 19 208 Try.underlying22 hi.out hz0.out hz1.out hz2.out rfl (by decide) u11 _ rfl t2.out w3.heap.size 1 x cs1 _ rfl t7.out t5.out t6.out t3.out t4.out ?c2 ?c3 ?c4 ?_))
            case c2 => have e := hlen.out; simp only [List.length_take] at e ⊢; unfold maxLen; omega
            case c3 => have e := hlen.out; simp only [List.length_take] at e ⊢; omega
            case c4 => simpa using t8
            intro v' w9 ho9 _ hb9
            rw [← hstep.out] at ho9
            have k2 := Lib.hid ((hbr.out.trans (t9.out.mono hbr.out.size)).trans hb9)
            replace ho9 := Lib.hid ho9
            clear hfold hlo4 hb9
            go_wp2_with fail
            go_roundw
            case rel => exact ⟨j + 1, by omega, by go_num, ho9.out, k2.out⟩
            case measure => simp [intOf]; omega
          | true =>
            rw [hq] at hstep O
            rw [if_pos rfl] at hstep
            have hX2 := hX.out.1
            have hstep := Lib.hid hstep
            have hwr : IntKind.i64.wrap (who + 1) = who + 1 := IntWalk.i64_in _ (by omega)
            go_upto_region 7 with (with_reducible refine wpList_load_want (by kernel_rfl) 31 (.tmp 13) rfl b rfl 31 cs1.toArray (0, 0) _ hX2 Try.underlying31 rfl (w_size' hcl1.out) ?_)
            refine O.out.mono ?_
            rintro e w3 ⟨rfl, hb3⟩
            have hX3 := hX.out.below hb3
            obtain ⟨A, B, hcs, hA, hB⟩ := hX3.2.1
            have q3 : w3.cell? ⟨b, 3, none⟩ = some (.int .i64 x.upto) := box_cell hX3.1 3 _ (by have := hX3.2.1.cells.2.2.2.1; simpa using this)
            have q18 : w3.cell? ⟨b, 18, none⟩ = some (.int .i64 x.handed) := box_cell hX3.1 18 _ (by have := hX3.2.1.cells.2.2.2.2.2.2.2.2.1; simpa using this)
            have f3 : w3.frozen? ⟨b, 3, none⟩ = false := frozen_of_row _ _ _ _ _ hX3.1
            have f18 : w3.frozen? ⟨b, 18, none⟩ = false := frozen_of_row _ _ _ _ _ hX3.1
            obtain ⟨cs7, hX7⟩ := hX3.hand (who + 1) upto
            replace hX7 := Lib.hid hX7
            clear hb3 O hX2 hX3 hcs hA hB
            go_upto_region 8 with (fail)
            generalize ((w3.setCell ⟨b, 18, none⟩ (.int .i64 (who + 1))).setCell ⟨b, 3, none⟩ (.int .i64 upto)) = w7 at *
            clear q3 q18 f3 f18
            obtain ⟨t2, t5, t3, t7, t4, t6, t8, t9⟩ := hX7.out.tail carried_w ho.out hbr.out.size
            have hw7 := Lib.hid hX7.out.1
            have hfold : List.foldl (fun cs x => cs.setIfInBounds x.snd x.fst) Z19 cs7.zipIdx = cs7.toArray := foldl_cells t7
            unfold Z19 at hfold
            have hlo4 : cs7.length = 19 := t7
            replace t2 := Lib.hid t2
            replace t3 := Lib.hid t3
            replace t4 := Lib.hid t4
            replace t5 := Lib.hid t5
            replace t6 := Lib.hid t6
            replace t7 := Lib.hid t7
            replace t9 := Lib.hid t9
            go_wp2_with (first | (with_reducible refine wpList_load_row rfl 31 (.tmp 13) rfl b rfl 31 cs7.toArray (0, 0) _ hw7.out Try.underlying31 rfl (w_size' t7.out) ?_) | (at_builtin; refine wpList_push carried_w rfl (.tmp 42) (.tmp 44) 22 rfl w.heap.size 31 i0 _ 19 208 Try.underlying22 hi.out hz0.out hz1.out hz2.out rfl (by decide) u11 _ rfl t2.out w7.heap.size 1 { x with handed := who + 1, upto := upto } cs7 _ rfl t7.out t5.out t6.out t3.out t4.out ?c2 ?c3 ?c4 ?_))
            case c2 => have e := hlen.out; simp only [List.length_take] at e ⊢; unfold maxLen; omega
            case c3 => have e := hlen.out; simp only [List.length_take] at e ⊢; omega
            case c4 => simpa using t8
            intro v' w9 ho9 _ hb9
            rw [← hstep.out] at ho9
            have k2 := Lib.hid ((hbr.out.trans (t9.out.mono hbr.out.size)).trans hb9)
            replace ho9 := Lib.hid ho9
            clear hfold hlo4 hb9
            go_wp2_with fail
            go_roundw
            case rel => exact ⟨j + 1, by omega, by go_num, ho9.out, k2.out⟩
            case measure => simp [intOf]; omega
        · have d1 : decide (who ≤ 2147483648) = false := decide_eq_false p1
          have hse : sesB who = false := by simp [sesB, p0, p1]
          rw [hse, Bool.false_and, if_neg (by simp)] at hstep
          have hstep := Lib.hid hstep
          obtain ⟨t2, t5, t3, t7, t4, t6, t8, t9⟩ := hX.out.tail carried_w ho.out hbr.out.size
          have hw7 := Lib.hid hX.out.1
          have hfold : List.foldl (fun cs x => cs.setIfInBounds x.snd x.fst) Z19 cs1.zipIdx = cs1.toArray := foldl_cells t7
          unfold Z19 at hfold
          have hlo4 : cs1.length = 19 := t7
          replace t2 := Lib.hid t2
          replace t3 := Lib.hid t3
          replace t4 := Lib.hid t4
          replace t5 := Lib.hid t5
          replace t6 := Lib.hid t6
          replace t7 := Lib.hid t7
          replace t9 := Lib.hid t9
          go_wp2_with (first | (with_reducible refine wpList_load_row rfl 31 (.tmp 13) rfl b rfl 31 cs1.toArray (0, 0) _ hw7.out Try.underlying31 rfl (w_size' t7.out) ?_) | (at_builtin; refine wpList_push carried_w rfl (.tmp 42) (.tmp 44) 22 rfl w.heap.size 31 i0 _ 19 208 Try.underlying22 hi.out hz0.out hz1.out hz2.out rfl (by decide) u11 _ rfl t2.out w2.heap.size 1 x cs1 _ rfl t7.out t5.out t6.out t3.out t4.out ?c2 ?c3 ?c4 ?_))
          case c2 => have e := hlen.out; simp only [List.length_take] at e ⊢; unfold maxLen; omega
          case c3 => have e := hlen.out; simp only [List.length_take] at e ⊢; omega
          case c4 => simpa using t8
          intro v' w9 ho9 _ hb9
          rw [← hstep.out] at ho9
          have k2 := Lib.hid ((hbr.out.trans (t9.out.mono hbr.out.size)).trans hb9)
          replace ho9 := Lib.hid ho9
          clear hfold hlo4 hb9
          go_wp2_with fail
          go_roundw
          case rel => exact ⟨j + 1, by omega, by go_num, ho9.out, k2.out⟩
          case measure => simp [intOf]; omega
      · have d0 : decide (0 ≤ who) = false := decide_eq_false p0
        have hse : sesB who = false := by simp [sesB, p0]
        rw [hse, Bool.false_and, if_neg (by simp)] at hstep
        have hstep := Lib.hid hstep
        obtain ⟨t2, t5, t3, t7, t4, t6, t8, t9⟩ := hX.out.tail carried_w ho.out hbr.out.size
        have hw7 := Lib.hid hX.out.1
        have hfold : List.foldl (fun cs x => cs.setIfInBounds x.snd x.fst) Z19 cs1.zipIdx = cs1.toArray := foldl_cells t7
        unfold Z19 at hfold
        have hlo4 : cs1.length = 19 := t7
        replace t2 := Lib.hid t2
        replace t3 := Lib.hid t3
        replace t4 := Lib.hid t4
        replace t5 := Lib.hid t5
        replace t6 := Lib.hid t6
        replace t7 := Lib.hid t7
        replace t9 := Lib.hid t9
        go_wp2_with (first | (with_reducible refine wpList_load_row rfl 31 (.tmp 13) rfl b rfl 31 cs1.toArray (0, 0) _ hw7.out Try.underlying31 rfl (w_size' t7.out) ?_) | (at_builtin; refine wpList_push carried_w rfl (.tmp 42) (.tmp 44) 22 rfl w.heap.size 31 i0 _ 19 208 Try.underlying22 hi.out hz0.out hz1.out hz2.out rfl (by decide) u11 _ rfl t2.out w2.heap.size 1 x cs1 _ rfl t7.out t5.out t6.out t3.out t4.out ?c2 ?c3 ?c4 ?_))
        case c2 => have e := hlen.out; simp only [List.length_take] at e ⊢; unfold maxLen; omega
        case c3 => have e := hlen.out; simp only [List.length_take] at e ⊢; omega
        case c4 => simpa using t8
        intro v' w9 ho9 _ hb9
        rw [← hstep.out] at ho9
        have k2 := Lib.hid ((hbr.out.trans (t9.out.mono hbr.out.size)).trans hb9)
        replace ho9 := Lib.hid ho9
        clear hfold hlo4 hb9
        go_wp2_with fail
        go_roundw
        case rel => exact ⟨j + 1, by omega, by go_num, ho9.out, k2.out⟩
        case measure => simp [intOf]; omega
    · obtain rfl : j = n := by omega
      have hlj : (handF flow run who upto ws).take j = handF flow run who upto ws := List.take_of_length_le (by unfold handF; rw [List.length_map, hn.out]; exact Nat.le_refl _)
      rw [hlj] at ho
      replace ho := Lib.hid ho
      replace hbr := Lib.hid hbr
      clear hlj
      go_wp2_with fail
      go_ret
      exact ⟨_, rfl, ho.out, hbr.out⟩
end Go.Proofs.Ytncmjkaclfcbmaa
