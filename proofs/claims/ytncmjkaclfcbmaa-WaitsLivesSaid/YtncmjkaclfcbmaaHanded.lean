/- The walk of WaitsHanded. -/
import Derived.Test.YtncmjkaclfcbmaaReads
import Derived.Test.YtncmjkaclfcbmaaAwake
import Derived.Outline
set_option linter.unusedVariables false
namespace Go.Proofs.Ytncmjkaclfcbmaa
open Go.RowKit

theorem IsWaits.take {w : World} {a : Option Addr} {n cap : Nat} {ws : List WT} (h : IsWaits w a n cap ws) (k : Nat) (hk : k ≤ n) : IsWaits w a k cap (ws.take k) := by
  obtain ⟨h1, ⟨xs, h2, h2'⟩, h3, h4, h5⟩ := h
  refine ⟨by rw [List.length_take]; omega, ⟨xs.take (k * 19), h2.take k, fun hl => ?_⟩, by omega, h4, h5⟩
  obtain ⟨g, off, e1, e2, e3⟩ := h2' (by rintro rfl; simp at hl)
  refine ⟨g, off, e1, e2, fun j v hv => e3 j v ?_⟩
  rw [List.getElem?_take] at hv
  split at hv
  · exact hv
  · cases hv
theorem IsWaits.below {w w' : World} {a : Option Addr} {n cap : Nat} {ws : List WT} (h : IsWaits w a n cap ws) (hb : Below w.heap.size w w') : IsWaits w' a n cap ws :=
  ⟨h.1, h.2.1.change (fun b hb' => Nat.lt_of_lt_of_le hb' hb.size) (fun b hb' => hb.block b hb') (fun t _ cs h => h.below hb), h.2.2⟩
theorem Out.waits {B : Nat} {w : World} {v : Value} {l : List WT} (h : Out WAt 19 31 B w v l) : ∃ a cap, v = .slice a l.length cap ∧ IsWaits w a l.length cap l := by
  obtain ⟨a, cap, rfl, h1, h2, h3, h4⟩ := h.sl carried_w
  exact ⟨a, cap, rfl, rfl, h4.change (fun b hb => hb.2) (fun _ _ => rfl) (fun t _ cs h => h.change (fun b hb => hb.2) (fun _ _ => rfl)), h2, h3, fun e => (h1 e).2⟩
set_option maxHeartbeats 1600000 in
theorem handed_walk (a : Option Addr) (n cap : Nat) (ws : List WT) (who : Int) (a2 : Option Addr) (n2 cap2 : Nat) (ans : List AT) (w : World) (h1 : IsWaits w a n cap ws) (h2 : IsAnswers w a2 n2 cap2 ans) :
    Calls Try.prog 3 #[.slice a n cap, .int .i64 who, .slice a2 n2 cap2] w fun e w' => e = .returned (.bool true) ∧ Below w.heap.size w w' := by
  obtain ⟨m, hm⟩ : ∃ m, m = min n 40 := ⟨_, rfl⟩
  have hm40 : m ≤ 40 ∧ m ≤ n := by omega
  have h1' := h1.take m hm40.2
  have hnc := h1.2.2.1
  have hcm := h1.2.2.2.1
  replace hm := Lib.hid hm
  replace h1' := Lib.hid h1'
  replace h2 := Lib.hid h2
  clear h1
  go_enter Try.func3, Try.ntmps3
  go_upto_region 1 with (fail)
  go_cut [0] (fun s0 wx => s0 = .slice a m cap ∧ wx = w)
  case first =>
    by_cases h40 : n ≤ 40
    · have e1 : m = n := by have := hm.out; omega
      replace e1 := Lib.hid e1
      go_wp2_with fail
      go_meet
      exact ⟨by rw [e1.out], rfl⟩
    · have e1 : m = 40 := by have := hm.out; omega
      replace e1 := Lib.hid e1
      have g1 : (40 : Int) ≤ (cap : Int) := by omega
      go_wp2_with fail
      go_meet
      exact ⟨by rw [e1.out], rfl⟩
  case rest =>
    obtain ⟨rfl, rfl⟩ := hcut
    obtain ⟨hwl, hws, hmc, _, _⟩ := h1'.out
    obtain ⟨hal, has, hac, hac2, _⟩ := h2.out
    have hwl' := Lib.hid hwl
    by_cases h60 : 60 < n2
    · have A := Lib.hid (awake wc)
      clear hwl hws hal has
      go_wp2_with fail
      refine A.out.mono ?_
      rintro e w2 ⟨rfl, hb2⟩
      go_wp2_with fail
      go_ret
      exact ⟨rfl, hb2⟩
    · have N := Lib.hid (answer a m cap (ws.take m) who a2 n2 cap2 ans zeroV wc hws hwl hmc (by omega) has hal hac hac2)
      replace hws := Lib.hid hws
      clear hal has hwl
      go_wp2_with fail
      refine N.out.mono ?_
      rintro e w2 ⟨v, rfl, hout, hb2⟩
      obtain ⟨ax, cx, rfl, hx⟩ := hout.waits
      have hxl : (ansF ans who zeroV (ws.take m)).length = m := by unfold ansF; rw [List.length_map]; exact hwl'.out
      rw [hxl] at hx ⊢
      replace hx := Lib.hid hx
      replace hb2 := Lib.hid hb2
      clear N hout hxl
      go_wp2_with fail
      go_loopw [30] (fun i wr => ∃ j : Nat, j ≤ m ∧ i = .int .i64 (j : Int) ∧ Below w2.heap.size w2 wr) (fun i _ => m - (intOf i).toNat)
      case atStart => exact ⟨0, Nat.zero_le _, rfl, Below.refl _ _⟩
      case round =>
        obtain ⟨j, hj, rfl, hbr⟩ := hrel
        by_cases hlt : j < m
        · obtain ⟨x, hx0⟩ : ∃ x, (ws.take m)[j]? = some x := ⟨_, List.getElem?_eq_getElem (by rw [hwl'.out]; exact hlt)⟩
          obtain ⟨g, off, cs, rfl, hg, hcl, hct, hcr⟩ := hws.out.get j x hx0
          have hbw := hb2.out.trans (hbr.mono hb2.out.size)
          have hcr' : wr.rangeAt g (off + j * 19) cs := range_keep hcr (hbw.block _ hg)
          have hone := all_one hct.one
          have hz := Lib.hid (heap_alloc_new wr (.cells Z19 31))
          unfold Z19 at hz
          have hn := heap_alloc_new wr (.cells cs.toArray 31)
          have hlo : cs.toArray.size = 19 := by simp [hcl]
          have hy0 : (ansF ans who zeroV (ws.take m))[j]? = some (if ansB (firstOf ans) who x then { x with over := true, value := (firstOf ans x.op).getD zeroV } else x) := by
            unfold ansF; rw [List.getElem?_map, hx0]; rfl
          obtain ⟨g', off', cs', rfl, hg', hcl', hct', hcr2⟩ := (hx.out.below hbr).2.1.get j _ hy0
          have hlb : g' < wr.heap.size := hg'
          have q17 : (wr.alloc (.cells cs.toArray 31)).cell? ⟨g', off' + j * 19 + 17, none⟩ = cs'[17]? := by
            have h17 := hct'.cells.2.2.2.2.2.2.2.1
            rw [World.cell?_alloc_past _ _ _ hlb, hcr2 17 _ h17, h17]
          have hcc := hct.cells
          have hcc' := hct'.cells.2.2.2.2.2.2.2.1
          have p16 : (wr.alloc (.cells cs.toArray 31)).cell? ⟨wr.heap.size, 16, none⟩ = some (.bool x.query) := box_cell hn 16 _ (by have := hcc.2.2.2.2.2.2.1; simpa using this)
          have p17 : (wr.alloc (.cells cs.toArray 31)).cell? ⟨wr.heap.size, 17, none⟩ = some (.bool x.over) := box_cell hn 17 _ (by have := hcc.2.2.2.2.2.2.2.1; simpa using this)
          have p18 : (wr.alloc (.cells cs.toArray 31)).cell? ⟨wr.heap.size, 18, none⟩ = some (.int .i64 x.handed) := box_cell hn 18 _ (by have := hcc.2.2.2.2.2.2.2.2.1; simpa using this)
          rw [hcc'] at q17
          have hbE := Lib.hid (hbr.alloc hbr.size (.cells cs.toArray 31))
          replace hcr' := Lib.hid hcr'
          replace hcl := Lib.hid hcl
          replace hone := Lib.hid hone
          replace hn := Lib.hid hn
          clear hbw hbr hcr hct hcc hcc' hct' hcr2 hcl' hy0 hx0
          cases hB : ansB (firstOf ans) who x with
          | false =>
            rw [hB, if_neg (by simp)] at q17
            replace hB := Lib.hid hB
            cases hO : x.over with
            | false =>
              rw [hO] at q17 p17
              replace hO := Lib.hid hO
              go_wp2_with (first | (with_reducible refine wpList_load_mid rfl 31 (.tmp 33) rfl g (off + j * 19) rfl cs _ hcr'.out Try.underlying31 rfl (w_size hcl.out) ?_) | (with_reducible refine wpList_store_row rfl 31 (.tmp 9) (.tmp 34) rfl wr.heap.size cs.toArray rfl rfl 31 _ hz.out (w_size' hcl.out) (by simp [hcl.out]) hone.out ?_; rw [alloc_setRow]))
              go_roundw
              case rel => exact ⟨j + 1, by omega, by go_num, hbE.out⟩
              case measure => simp [intOf]; omega
            | true =>
              rw [hO] at q17 p17
              replace hO := Lib.hid hO
              go_wp2_with (first | (with_reducible refine wpList_load_mid rfl 31 (.tmp 33) rfl g (off + j * 19) rfl cs _ hcr'.out Try.underlying31 rfl (w_size hcl.out) ?_) | (with_reducible refine wpList_store_row rfl 31 (.tmp 9) (.tmp 34) rfl wr.heap.size cs.toArray rfl rfl 31 _ hz.out (w_size' hcl.out) (by simp [hcl.out]) hone.out ?_; rw [alloc_setRow]))
              go_roundw
              case rel => exact ⟨j + 1, by omega, by go_num, hbE.out⟩
              case measure => simp [intOf]; omega
          | true =>
            rw [hB, if_pos rfl] at q17
            simp only at q17
            unfold ansB at hB
            simp only [Bool.and_eq_true, Bool.not_eq_true', beq_iff_eq] at hB
            obtain ⟨_, hses, hq, hov, hh⟩ := hB
            rw [hq] at p16
            rw [hov] at p17
            rw [hh] at p18
            have hwr3 : wrap64 who = who := by simp [sesB] at hses; unfold wrap64; omega
            replace hses := Lib.hid hses
            replace hq := Lib.hid hq
            replace hov := Lib.hid hov
            replace hh := Lib.hid hh
            go_wp2_with (first | (with_reducible refine wpList_load_mid rfl 31 (.tmp 33) rfl g (off + j * 19) rfl cs _ hcr'.out Try.underlying31 rfl (w_size hcl.out) ?_) | (with_reducible refine wpList_store_row rfl 31 (.tmp 9) (.tmp 34) rfl wr.heap.size cs.toArray rfl rfl 31 _ hz.out (w_size' hcl.out) (by simp [hcl.out]) hone.out ?_; rw [alloc_setRow]))
            go_roundw
            case rel => exact ⟨j + 1, by omega, by go_num, hbE.out⟩
            case measure => simp [intOf]; omega
        · have A := Lib.hid (awake wr)
          have hbE := Lib.hid (hb2.out.trans (hbr.mono hb2.out.size))
          clear hbr
          go_wp2_with fail
          refine A.out.mono ?_
          rintro e w3 ⟨rfl, hb3⟩
          have hbF := Lib.hid (hbE.out.trans (hb3.mono hbE.out.size))
          clear hb3
          go_wp2_with fail
          go_ret
          exact ⟨rfl, hbF.out⟩
end Go.Proofs.Ytncmjkaclfcbmaa
