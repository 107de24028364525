/- usherref30's Answer. -/
import Derived.Test.YtncmjkaclfcbmaaBox
import Derived.Test.YtncmjkaclfcbmaaAnswer
import Derived.Deep.QuietTactic
import Derived.BigQuiet
set_option linter.unusedVariables false
set_option linter.unusedSimpArgs false
namespace Go.Proofs.Ytncmjkaclfcbmaa
open Go.RowKit

theorem below_drewN (w : World) (n : Nat) : Below w.heap.size w (w.drewN n) := ⟨rfl, rfl, rfl, Nat.le_refl _, fun _ _ => rfl⟩
/-- a wait behind some answers -/
def ansX (who : Int) (d : VT) (l : List AT) (x : WT) : WT := if ansB (firstOf l) who x then { x with over := true, value := (firstOf l x.op).getD d } else x
def ansC (who : Int) (y : WT) (c : AT) : Bool := sesB who && (y.query && (!y.over && (y.handed == who + 1 && c.op == y.op)))
theorem ansX_nil (who : Int) (d : VT) (x : WT) : ansX who d [] x = x := by unfold ansX; rw [if_neg]; simp [ansB, firstOf]
theorem firstOf_snoc (l : List AT) (a : AT) (z : Int) : firstOf (l ++ [a]) z = (firstOf l z).or (if a.op == z then some a.value else none) := by
  unfold firstOf
  rw [List.find?_append]
  cases h : l.find? (fun b => b.op == z) with
  | some b => simp
  | none => by_cases e : a.op = z <;> simp [List.find?_cons, e]
theorem ansX_step (who : Int) (d : VT) (l : List AT) (q : Nat) (c : AT) (x : WT) (h : l[q]? = some c) : ansX who d (l.take (q + 1)) x = if ansC who (ansX who d (l.take q) x) c then { ansX who d (l.take q) x with over := true, value := c.value } else ansX who d (l.take q) x := by
  rw [List.take_add_one, h, Option.toList_some]
  unfold ansX ansC ansB
  rw [firstOf_snoc]
  cases hf : firstOf (l.take q) x.op with
  | some v => cases h1 : sesB who <;> cases h2 : x.query <;> cases h3 : x.over <;> cases h4 : (x.handed == who + 1) <;> simp [h1, h2, h3, h4]
  | none =>
    cases h1 : sesB who <;> cases h2 : x.query <;> cases h3 : x.over <;> cases h4 : (x.handed == who + 1) <;> cases h5 : (c.op == x.op) <;> simp_all
set_option maxHeartbeats 6400000 in
theorem ranswer (a : Option Addr) (n cap : Nat) (ws : List WT) (who : Int) (a2 : Option Addr) (n2 cap2 : Nat) (ans : List AT) (d : VT) (w : World) (hs : Sl 19 (WAt (Live w) w) (Live w) w a ws) (hn : ws.length = n) (hc : n ≤ cap) (h9 : n ≤ 1000000)
    (hs2 : Sl 6 (AAt (Live w) w) (Live w) w a2 ans) (hn2 : ans.length = n2) (hc2 : n2 ≤ cap2) (h92 : cap2 ≤ 9223372036854775807) :
    Calls Try.prog 37 #[.slice a n cap, .int .i64 who, .slice a2 n2 cap2] w (ListP w (ansF ans who d ws)) := by
  obtain ⟨i0, hi, hz0, hz1, hz2⟩ := w_info
  replace hs := Lib.hid hs
  replace hn := Lib.hid hn
  replace hs2 := Lib.hid hs2
  replace hn2 := Lib.hid hn2
  replace hi := Lib.hid hi
  replace hz0 := Lib.hid hz0
  replace hz1 := Lib.hid hz1
  replace hz2 := Lib.hid hz2
  go_enter Try.func37, Try.ntmps37
  go_wp2_with fail
  go_loopw [7, 8] (fun v i wr => ∃ j : Nat, j ≤ n ∧ i = .int .i64 (j : Int) ∧ Out WAt 19 31 w.heap.size wr v ((ansF ans who d ws).take j) ∧ Below w.heap.size w wr) (fun _ i _ => n - (intOf i).toNat)
  case atStart => exact ⟨0, Nat.zero_le _, rfl, Out.nil _ _ _ _ _, Below.refl _ _⟩
  case round =>
    obtain ⟨j, hj, rfl, ho, hbr⟩ := hrel
    by_cases hlt : j < n
    · obtain ⟨x, hx⟩ : ∃ x, ws[j]? = some x := ⟨_, List.getElem?_eq_getElem (by rw [hn.out]; exact hlt)⟩
      obtain ⟨g, off, cs, rfl, hg, hcl, hct, hcr⟩ := hs.out.get j x hx
      have hcr' : wr.rangeAt g (off + j * 19) cs := range_keep hcr (hbr.block _ hg)
      have hct' := hct.below hbr
      have hstep : ((ansF ans who d ws).take (j + 1)) = ((ansF ans who d ws).take j) ++ [ansX who d ans x] := by
        unfold ansF; rw [List.take_add_one, List.getElem?_map, hx]; rfl
      have hlen : ((ansF ans who d ws).take j).length = j := by unfold ansF; rw [List.length_take, List.length_map, hn.out]; omega
      have hsz0 : w.heap.size ≤ wr.heap.size := hbr.size
      have J := Lib.hid (rown x cs wr hct')
      replace hcr := Lib.hid hcr
      replace hct := Lib.hid hct
      replace hx := Lib.hid hx
      replace ho := Lib.hid ho
      replace hbr := Lib.hid hbr
      replace hcr' := Lib.hid hcr'
      replace hct' := Lib.hid hct'
      replace hcl := Lib.hid hcl
      replace hlen := Lib.hid hlen
      replace hstep := Lib.hid hstep
      go_upto_region 6 with (with_reducible refine wpList_load_mid rfl 31 (.tmp 19) rfl g (off + j * 19) rfl cs _ hcr'.out Try.underlying31 rfl (w_size hcl.out) ?_)
      refine J.out.mono ?_
      rintro e w1 ⟨cs1, rfl, hv1, hb1⟩
      have hcl1 := Lib.hid hv1.len
      have hone1 := Lib.hid (all_one hv1.one)
      have hlo1 : cs1.toArray.size = 19 := by simp [hcl1.out]
      have hz := Lib.hid (heap_alloc_new w1 (.cells Z19 31))
      unfold Z19 at hz
      have hX := Lib.hid (BoxP.new hv1 hb1)
      clear hv1 hb1 J
      go_wp2_with (with_reducible refine wpList_store_row rfl 31 (.tmp 9) (.tmp 21) rfl w1.heap.size cs1.toArray rfl rfl 31 _ hz.out (w_size' hcl1.out) (by simp [hcl1.out]) hone1.out ?_; rw [alloc_setRow])
      clear hz
      generalize w1.alloc (.cells cs1.toArray 31) = w2 at *
      generalize w1.heap.size = b at *
      obtain ⟨wo, hwo⟩ : ∃ wo, wo = wr := ⟨_, rfl⟩
      subst hwo
      go_loopw [10] (fun i wr => ∃ q : Nat, q ≤ n2 ∧ i = .int .i64 (q : Int) ∧ ∃ cs', BoxP wo b (ansX who d (ans.take q) x) wr cs') (fun i _ => n2 - (intOf i).toNat)
      case atStart => exact ⟨0, Nat.zero_le _, rfl, cs1, by rw [List.take_zero, ansX_nil]; exact hX.out⟩
      case round =>
        obtain ⟨q, hq, rfl, cs7, hX7⟩ := hrel
        replace hX7 := Lib.hid hX7
        by_cases hlq : q < n2
        · obtain ⟨c, hc0⟩ : ∃ c, ans[q]? = some c := ⟨_, List.getElem?_eq_getElem (by rw [hn2.out]; exact hlq)⟩
          obtain ⟨g2, off2, es, rfl, hg2, hel, het, her⟩ := hs2.out.get q c hc0
          have hbw := hbr.out.trans (hX7.out.2.2.1.mono hsz0)
          have her' : wr.rangeAt g2 (off2 + q * 6) es := range_keep her (hbw.block _ hg2)
          have hst := ansX_step who d ans q c x hc0
          generalize hy : ansX who d (ans.take q) x = y at *
          have hbq : (0 : Int) ≤ (q : Int) := by omega
          have hbq2 : (q : Int) < (n2 : Int) := by omega
          have hcell := hX7.out.2.1.cells
          have e0 : wr.cell? ⟨b, 0, none⟩ = some (.int .i64 y.op) := box_cell hX7.out.1 0 _ (by have := hcell.1; simpa using this)
          have e16 : wr.cell? ⟨b, 16, none⟩ = some (.bool y.query) := box_cell hX7.out.1 16 _ (by have := hcell.2.2.2.2.2.2.1; simpa using this)
          have e17 : wr.cell? ⟨b, 17, none⟩ = some (.bool y.over) := box_cell hX7.out.1 17 _ (by have := hcell.2.2.2.2.2.2.2.1; simpa using this)
          have e18 : wr.cell? ⟨b, 18, none⟩ = some (.int .i64 y.handed) := box_cell hX7.out.1 18 _ (by have := hcell.2.2.2.2.2.2.2.2.1; simpa using this)
          obtain ⟨A, rfl, hAv⟩ := het
          have a0 : wr.cell? ⟨g2, off2 + q * 6, none⟩ = some (.int .i64 c.op) := by have := her' 0 _ rfl; simpa using this
          have hval0 : VAt (Live wr) wr c.value A := hAv.below hbw
          have hvr0 : wr.rangeAt g2 (off2 + q * 6 + 1) A := fun i u hu => by have := her' (i + 1) u (by simpa using hu); rw [show off2 + q * 6 + 1 + i = off2 + q * 6 + (i + 1) by omega]; exact this
          have hg2' : g2 < wr.heap.size := Nat.lt_of_lt_of_le hg2 hbw.size
          replace hval0 := Lib.hid hval0
          replace hvr0 := Lib.hid hvr0
          replace hst := Lib.hid hst
          clear hcell hAv her her' hbw hel hc0
          go_upto_region 9 with (fail)
          go_cut [59] (fun s wx => s = .bool (ansC who y c) ∧ Below wr.heap.size wr wx)
          case first =>
            by_cases p0 : 0 ≤ who
            · have d0 : decide (0 ≤ who) = true := decide_eq_true p0
              by_cases p1 : who ≤ 2147483648
              · have d1 : decide (who ≤ 2147483648) = true := decide_eq_true p1
                have hwr : IntKind.i64.wrap (who + 1) = who + 1 := IntWalk.i64_in _ (by omega)
                have hse : sesB who = true := by simp [sesB, p0, p1]
                cases hqy : y.query with
                | false =>
                  rw [hqy] at e16
                  have r : ansC who y c = false := by simp [ansC, hqy]
                  clear hse
                  replace hqy := Lib.hid hqy
                  replace r := Lib.hid r
                  go_quiet (fail)
                  go_wp2_with fail
                  go_meet
                  exact ⟨by rw [r.out] <;> rfl, below_drewN _ _⟩
                | true =>
                  rw [hqy] at e16
                  cases hov : y.over with
                  | true =>
                    rw [hov] at e17
                    have r : ansC who y c = false := by simp [ansC, hov]
                    clear hse
                    replace hqy := Lib.hid hqy
                    replace hov := Lib.hid hov
                    replace r := Lib.hid r
                    go_quiet (fail)
                    go_wp2_with fail
                    go_meet
                    exact ⟨by rw [r.out] <;> rfl, below_drewN _ _⟩
                  | false =>
                    rw [hov] at e17
                    cases hh : (y.handed == who + 1) with
                    | false =>
                      have r : ansC who y c = false := by simp [ansC, hh]
                      clear hse
                      replace hqy := Lib.hid hqy
                      replace hov := Lib.hid hov
                      replace r := Lib.hid r
                      go_quiet (fail)
                      go_wp2_with fail
                      go_meet
                      exact ⟨by rw [r.out] <;> rfl, below_drewN _ _⟩
                    | true =>
                      have r : ansC who y c = (c.op == y.op) := by simp only [ansC, hh, hqy, hov, hse]; simp
                      clear hse
                      replace hqy := Lib.hid hqy
                      replace hov := Lib.hid hov
                      replace r := Lib.hid r
                      go_quiet (fail)
                      go_wp2_with fail
                      go_meet
                      exact ⟨by rw [r.out] <;> rfl, below_drewN _ _⟩
              · have d1 : decide (who ≤ 2147483648) = false := decide_eq_false p1
                have r : ansC who y c = false := by simp [ansC, sesB, p1]
                replace r := Lib.hid r
                go_quiet (fail)
                go_wp2_with fail
                go_meet
                exact ⟨by rw [r.out] <;> rfl, below_drewN _ _⟩
            · have d0 : decide (0 ≤ who) = false := decide_eq_false p0
              have r : ansC who y c = false := by simp [ansC, sesB, p0]
              replace r := Lib.hid r
              go_quiet (fail)
              go_wp2_with fail
              go_meet
              exact ⟨by rw [r.out] <;> rfl, below_drewN _ _⟩
          case rest =>
            obtain ⟨rfl, hbc⟩ := hcut
            have hXc := Lib.hid (hX7.out.below hbc)
            have hval := hval0.out.below hbc
            have hvr := Lib.hid (range_keep hvr0.out (hbc.block _ hg2'))
            clear hbc e0 e16 e17 e18 a0 hval0 hvr0
            cases hC : ansC who y c with
            | false =>
              rw [hC, if_neg (by simp)] at hst
              replace hC := Lib.hid hC
              replace hval := Lib.hid hval
              go_wp2_with fail
              go_roundw
              case rel => exact ⟨q + 1, by omega, by go_num, cs7, by rw [hst.out]; exact hXc.out⟩
              case measure => simp [intOf]; omega
            | true =>
              rw [hC, if_pos rfl] at hst
              replace hC := Lib.hid hC
              obtain ⟨o1, o2, o3, o4, o5, o6, o7, rfl⟩ := hval.shape
              have C := Lib.hid (rclone c.value _ wc hval)
              replace hval := Lib.hid hval
              go_upto_region 10 with (fail)
              go_wp2_with (with_reducible refine wpList_load_mid rfl 29 (.tmp 63) rfl g2 (off2 + q * 6 + 1) rfl _ _ hvr.out Try.underlying29 rfl (v_size rfl) ?_)
              refine C.out.mono ?_
              rintro e w5 ⟨cs5, rfl, hv5, hb5⟩
              obtain ⟨v0, v1, v2, v3, v4, v5, v6, rfl⟩ := hv5.shape
              have hX9 := hXc.out.below hb5
              have hcw : b < wc.heap.size := hXc.out.lt
              obtain ⟨b1, ⟨A9, B9, e9, hA9, hB9⟩, b3, b4⟩ := hX9
              obtain ⟨x0, x1, x2, x3, x4, x5, x6, rfl⟩ := hB9.shape
              obtain ⟨z0, z1, z2, z3, z4, z5, z6, rfl⟩ := hA9.shape
              subst e9
              have hX9 := hXc.out.below hb5
              have q11 : w5.cell? ⟨b, 11, none⟩ = some (.int .i64 x0) := by rw [cell_of_row _ _ _ _ _ _ b1]; rfl
              have q12 : w5.cell? ⟨b, 12, none⟩ = some (.int .i64 x1) := by rw [cell_of_row _ _ _ _ _ _ b1]; rfl
              have q13 : w5.cell? ⟨b, 13, none⟩ = some (.int .u64 x2) := by rw [cell_of_row _ _ _ _ _ _ b1]; rfl
              have q14 : w5.cell? ⟨b, 14, none⟩ = some (.string x3) := by rw [cell_of_row _ _ _ _ _ _ b1]; rfl
              have q15 : w5.cell? ⟨b, 15, none⟩ = some (.slice x4 x5 x6) := by rw [cell_of_row _ _ _ _ _ _ b1]; rfl
              have q17 : w5.cell? ⟨b, 17, none⟩ = some (.bool y.over) := by rw [cell_of_row _ _ _ _ _ _ b1]; rfl
              have ff : ∀ i, w5.frozen? ⟨b, i, none⟩ = false := fun i => frozen_of_row _ _ _ _ _ b1
              have f1 := ff 11
              have f2 := ff 12
              have f3 := ff 13
              have f4 := ff 14
              have f5 := ff 15
              have f7 := ff 17
              have hO := Lib.hid (hX9.over c.value (.int .i64 v0) (.int .i64 v1) (.int .u64 v2) (.string v3) (.slice v4 v5 v6) (hv5.change (fun r hr => ⟨by have := hr.1; have := hXc.out.2.2.1.size; omega, hr.2, by have := hr.1; omega⟩) (fun _ _ => rfl)))
              clear ff b1 b3 b4 hA9 hB9 hX9 hv5 hb5 C
              go_wp2_with fail
              go_roundw
              case rel => exact ⟨q + 1, by omega, by go_num, by rw [hst.out]; exact hO.out⟩
              case measure => simp [intOf]; omega
        · obtain rfl : q = n2 := by omega
          rw [List.take_of_length_le (by rw [hn2.out]; exact Nat.le_refl _)] at hX7
          obtain ⟨t2, t5, t3, t7, t4, t6, t8, t9⟩ := hX7.out.tail carried_w ho.out hbr.out.size
          have hw7 := Lib.hid hX7.out.1
          have hfold : List.foldl (fun cs x => cs.setIfInBounds x.snd x.fst) Z19 cs7.zipIdx = cs7.toArray := foldl_cells t7
          unfold Z19 at hfold
          have hlo4 : cs7.length = 19 := t7
          replace t2 := Lib.hid t2
          replace t3 := Lib.hid t3
          replace t4 := Lib.hid t4
          replace t5 := Lib.hid t5
          replace t6 := Lib.hid t6
          replace t7 := Lib.hid t7
          replace t9 := Lib.hid t9
          go_wp2_with (first | (with_reducible refine wpList_load_row rfl 31 (.tmp 9) rfl b rfl 31 cs7.toArray (0, 0) _ hw7.out Try.underlying31 rfl (w_size' t7.out) ?_) | (at_builtin; refine wpList_push carried_w rfl (.tmp 68) (.tmp 70) 22 rfl w.heap.size 31 i0 _ 19 208 Try.underlying22 hi.out hz0.out hz1.out hz2.out rfl (by decide) u7 _ rfl t2.out wr.heap.size 1 (ansX who d ans x) cs7 _ rfl t7.out t5.out t6.out t3.out t4.out ?c2 ?c3 ?c4 ?_))
          case c2 => have e := hlen.out; simp only [List.length_take] at e ⊢; unfold maxLen; omega
          case c3 => have e := hlen.out; simp only [List.length_take] at e ⊢; omega
          case c4 => simpa using t8
          intro v' w9 ho9 _ hb9
          rw [← hstep.out] at ho9
          have k2 := Lib.hid ((hbr.out.trans (t9.out.mono hbr.out.size)).trans hb9)
          replace ho9 := Lib.hid ho9
          clear hfold hlo4 hb9
          go_wp2_with fail
          go_roundw
          case rel => exact ⟨j + 1, by omega, by go_num, ho9.out, k2.out⟩
          case measure => simp [intOf]; omega
    · obtain rfl : j = n := by omega
      have hlj : (ansF ans who d ws).take j = ansF ans who d ws := List.take_of_length_le (by unfold ansF; rw [List.length_map, hn.out]; exact Nat.le_refl _)
      rw [hlj] at ho
      replace ho := Lib.hid ho
      replace hbr := Lib.hid hbr
      clear hlj
      go_wp2_with fail
      go_ret
      exact ⟨_, rfl, ho.out, hbr.out⟩
end Go.Proofs.Ytncmjkaclfcbmaa
