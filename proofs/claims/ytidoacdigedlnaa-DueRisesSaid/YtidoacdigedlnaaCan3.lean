/- usherref05.shape: some Boolean; what it tells of a value. -/
import Derived.Test.YtidoacdigedlnaaCan1
import Derived.Test.YtidoacdigedlnaaCan2
set_option linter.unusedVariables false
set_option linter.unusedSimpArgs false
namespace Go.Proofs.Ytidoacdigedlnaa
open Go.RowKit

def Fits : Nat → VT → Prop
  | 0, .mk k n b s l => 0 ≤ k ∧ k ≤ 4 ∧ s.size ≤ 200 ∧ l = []
  | d + 1, .mk k n b s l => 0 ≤ k ∧ k ≤ 4 ∧ s.size ≤ 200 ∧ l.length ≤ 12 ∧ ∀ t ∈ l, Fits d t
def ShapeP (w : World) (deep : Nat) (t : VT) (e : Ending) (w' : World) : Prop := ∃ q, e = .returned (.bool q) ∧ (q = true → Fits deep t) ∧ Below w.heap.size w w'
set_option maxRecDepth 100000 in
set_option maxHeartbeats 3200000 in
theorem shape : ∀ (t : VT) (deep : Nat) (cs : List Value) (w : World), deep ≤ 4 → VAt (Live w) w t cs → Calls Try.prog 29 #[.agg cs.toArray, .int .i64 (deep : Int)] w (ShapeP w deep t) := by
  intro t
  induction t using VT.ind with
  | h k n b s l ih =>
    intro deep cs w hd4 h
    obtain ⟨a, cap, rfl, hs, hc, hc2, h64⟩ := VAt_mk.1 h
    replace ih := Lib.hid ih
    replace hs := Lib.hid hs
    clear h
    obtain ⟨N, hN⟩ : ∃ N, N = l.length := ⟨_, rfl⟩
    rw [← hN] at hc h64 ⊢
    replace hN := Lib.hid hN
    obtain ⟨W, hW⟩ : ∃ W, W = w.alloc (.cells #[.int .i64 k, .int .i64 n, .int .u64 b, .string s, .slice a N cap] 25) := ⟨_, rfl⟩
    have hX : W.heap[w.heap.size]? = some (.cells #[.int .i64 k, .int .i64 n, .int .u64 b, .string s, .slice a N cap] 25 (0, 0)) := by rw [hW]; exact heap_alloc_new w _
    have hb : Below w.heap.size w W := by rw [hW]; exact (Below.refl _ _).alloc (Nat.le_refl _) _
    have hsz : W.heap.size = w.heap.size + 1 := by rw [hW]; simp
    have c0 : W.cell? ⟨w.heap.size, 0, none⟩ = some (.int .i64 k) := box_cell hX 0 _ rfl
    have c1 : W.cell? ⟨w.heap.size, 1, none⟩ = some (.int .i64 n) := box_cell hX 1 _ rfl
    have c2 : W.cell? ⟨w.heap.size, 2, none⟩ = some (.int .u64 b) := box_cell hX 2 _ rfl
    have c3 : W.cell? ⟨w.heap.size, 3, none⟩ = some (.string s) := box_cell hX 3 _ rfl
    have c4 : W.cell? ⟨w.heap.size, 4, none⟩ = some (.slice a N cap) := box_cell hX 4 _ rfl
    replace hX := Lib.hid hX
    replace hb := Lib.hid hb
    replace hsz := Lib.hid hsz
    replace hW := Lib.hid hW
    show Calls Try.prog 29 #[.agg #[.int .i64 k, .int .i64 n, .int .u64 b, .string s, .slice a N cap], .int .i64 (deep : Int)] w (ShapeP w deep (.mk k n b s l))
    obtain ⟨D, hD⟩ : ∃ D : Int, D = (deep : Int) := ⟨_, rfl⟩
    rw [← hD]
    replace hD := Lib.hid hD
    by_cases G : 0 ≤ k ∧ k ≤ 4 ∧ (k ≠ 4 → N = 0)
    · obtain ⟨g1, g2, g3⟩ := G
      have g1' : ¬ k < 0 := by omega
      have g2' : ¬ 4 < k := by omega
      replace g3 := Lib.hid g3
      go_enter Try.func29, Try.ntmps29
      go_upto_region 1 with (fail)
      rw [← hW.out]
      go_cut [54] (fun s54 wx => ∃ q, s54 = .bool q ∧ wx = W)
      case first =>
        go_wp2_with fail
        all_goals (try subst_vars)
        all_goals
          go_meet
          exact ⟨_, rfl, rfl⟩
      case rest =>
        obtain ⟨q, rfl, hwc⟩ := hcut
        subst wc
        cases q with
        | true =>
          go_wp2_with fail
          go_ret
          exact ⟨false, rfl, (fun h => by cases h), hb.out⟩
        | false =>
          have RC := fun w => rcanonI b w
          generalize cI b = c at RC
          replace RC := Lib.hid RC
          cases z1 : (b == c) with
          | false =>
            have z1' : (b != c) = true := by simpa using z1
            go_wp2_with fail
            go_quiet ((go_at_call 31; exact Calls.quiet_of_same (RC.out _)))
            go_wp2_with fail
            go_ret
            exact ⟨false, rfl, (fun h => by cases h), below_drewN hb.out _⟩
          | true =>
            have z1' : (b != c) = false := by simpa using z1
            by_cases z2 : 200 < s.size
            · have z2' : (200 : Int) < (s.size : Int) := by omega
              go_wp2_with fail
              go_quiet ((go_at_call 31; exact Calls.quiet_of_same (RC.out _)))
              go_wp2_with fail
              go_ret
              exact ⟨false, rfl, (fun h => by cases h), below_drewN hb.out _⟩
            have z2' : decide ((200 : Int) < (s.size : Int)) = false := decide_eq_false (by omega)
            by_cases z3 : 12 < N
            · have z3' : (12 : Int) < (N : Int) := by omega
              go_wp2_with fail
              go_quiet ((go_at_call 31; exact Calls.quiet_of_same (RC.out _)))
              go_wp2_with fail
              go_ret
              exact ⟨false, rfl, (fun h => by cases h), below_drewN hb.out _⟩
            have z3' : decide ((12 : Int) < (N : Int)) = false := decide_eq_false (by omega)
            cases z4 : (k == 4) with
            | true =>
              cases deep with
              | zero =>
                have z5 : (D == 0) = true := by rw [hD.out]; rfl
                go_wp2_with fail
                go_quiet ((go_at_call 31; exact Calls.quiet_of_same (RC.out _)))
                go_wp2_with fail
                go_ret
                exact ⟨false, rfl, (fun h => by cases h), below_drewN hb.out _⟩
              | succ d =>
                have z5 : (D == 0) = false := beq_eq_false_iff_ne.2 (by rw [hD.out]; omega)
                have hwd : IntKind.i64.wrap (D - 1) = (d : Int) := by rw [IntKind.wrap_i64, hD.out]; omega
                have hwd' : IntKind.i64.wrap (d : Int) = (d : Int) := by rw [IntKind.wrap_i64]; omega
                go_wp2_with fail
                go_quiet ((go_at_call 31; exact Calls.quiet_of_same (RC.out _)))
                go_wp2_with fail
                go_loopw [5] (fun i wr => ∃ j : Nat, j ≤ N ∧ i = .int .i64 (j : Int) ∧ (∀ y ∈ l.take j, Fits d y) ∧ Below (w.heap.size + 1) W wr) (fun i _ => N - (intOf i).toNat)
                case atStart => exact ⟨0, Nat.zero_le _, rfl, (fun y hy => by simp at hy), below_drewN (Below.refl _ _) _⟩
                case round =>
                  obtain ⟨j, hj, rfl, hall, hbr⟩ := hrel
                  have hbw : Below w.heap.size w wr := hb.out.trans (hbr.mono (by omega))
                  have g4 : wr.heap[w.heap.size]? = _ := (hbr.block _ (by omega)).trans hX.out
                  have d4 : wr.cell? ⟨w.heap.size, 4, none⟩ = some (.slice a N cap) := box_cell g4 4 _ rfl
                  have hsz' : w.heap.size + 1 ≤ wr.heap.size := by have := hbr.size; rw [hsz.out] at this; exact this
                  replace g4 := Lib.hid g4
                  by_cases hlt : j < N
                  · obtain ⟨y, hy⟩ : ∃ y, l[j]? = some y := ⟨_, List.getElem?_eq_getElem (by rw [← hN.out]; exact hlt)⟩
                    have hym : y ∈ l := List.mem_of_getElem? hy
                    obtain ⟨g, off, ds, rfl, hg, hcl, hct, hcr⟩ := hs.out.get j y hy
                    have hr := range_keep hcr (hbw.block _ hg)
                    have I := ih.out y hym d ds wr (by omega) (hct.below hbw)
                    obtain ⟨v0, v1, v2, v3, v4, v5, v6, rfl⟩ := hct.shape
                    have q0 : wr.cell? ⟨g, off + j * 5, none⟩ = some (.int .i64 v0) := hr 0 _ rfl
                    have q1 := hr 1 _ rfl
                    have q2 := hr 2 _ rfl
                    have q3 := hr 3 _ rfl
                    have q4 := hr 4 _ rfl
                    have hb1 : (0 : Int) ≤ (j : Int) := by omega
                    have hb2 : (j : Int) < (N : Int) := by omega
                    replace I := Lib.hid I
                    replace hbr := Lib.hid hbr
                    replace hall := Lib.hid hall
                    replace hy := Lib.hid hy
                    replace hbw := Lib.hid hbw
                    clear hr hcr hct hcl c0 c1 c2 c3 c4
                    go_wp2_with fail
                    refine I.out.mono ?_
                    rintro e w3 ⟨q, rfl, hq, hb3⟩
                    have hbE := Lib.hid (hbr.out.trans (hb3.mono hsz'))
                    replace hq := Lib.hid hq
                    replace hb3 := Lib.hid hb3
                    cases q with
                    | false =>
                      go_wp2_with fail
                      go_ret
                      exact ⟨false, rfl, (fun h => by cases h), hbw.out.trans (hb3.out.mono hbw.out.size)⟩
                    | true =>
                      go_wp2_with fail
                      go_roundw
                      case rel =>
                        refine ⟨j + 1, by omega, by go_num, fun z hz => ?_, hbE.out⟩
                        rw [List.take_add_one, hy.out, Option.toList_some] at hz
                        rcases List.mem_append.1 hz with hz | hz
                        · exact hall.out z hz
                        · rw [List.mem_singleton.1 hz]; first | exact hq.out rfl | exact hq.out trivial
                      case measure => simp [intOf]; omega
                  · obtain rfl : j = N := by omega
                    replace hbw := Lib.hid hbw
                    replace hall := Lib.hid hall
                    clear hbr c0 c1 c2 c3 c4
                    go_wp2_with fail
                    go_ret
                    refine ⟨true, rfl, fun _ => ⟨g1, g2, by omega, by rw [← hN.out]; omega, fun y hy => hall.out y ?_⟩, hbw.out⟩
                    rw [hN.out, List.take_length]; exact hy
            | false =>
              have hN0 : N = 0 := g3.out (beq_eq_false_iff_ne.1 z4)
              have hl0 : l = [] := List.length_eq_zero_iff.1 (by rw [← hN.out]; exact hN0)
              have hF : Fits deep (.mk k n b s l) := by
                subst hl0
                cases deep with
                | zero => exact ⟨g1, g2, by omega, rfl⟩
                | succ d => exact ⟨g1, g2, by omega, by simp, fun t ht => by cases ht⟩
              subst hN0
              replace hF := Lib.hid hF
              clear hl0
              go_wp2_with fail
              go_quiet ((go_at_call 31; exact Calls.quiet_of_same (RC.out _)))
              go_wp2_with fail
              go_loopw [5] (fun i wr => i = .int .i64 0 ∧ Below (w.heap.size + 1) W wr) (fun i _ => 0)
              case atStart => exact ⟨rfl, below_drewN (Below.refl _ _) _⟩
              case round =>
                obtain ⟨rfl, hbr⟩ := hrel
                have hbw : Below w.heap.size w wr := hb.out.trans (hbr.mono (by omega))
                have g4 : wr.heap[w.heap.size]? = _ := (hbr.block _ (by omega)).trans hX.out
                have d4 : wr.cell? ⟨w.heap.size, 4, none⟩ = some (.slice a 0 cap) := box_cell g4 4 _ rfl
                replace g4 := Lib.hid g4
                replace hbw := Lib.hid hbw
                replace hbr := Lib.hid hbr
                clear c0 c1 c2 c3 c4
                go_wp2_with fail
                go_ret
                exact ⟨true, rfl, fun _ => hF.out, hbw.out⟩
    · have G' : k < 0 ∨ 4 < k ∨ (k ≠ 4 ∧ 0 < N) := by omega
      clear G
      go_enter Try.func29, Try.ntmps29
      go_upto_region 1 with (fail)
      rw [← hW.out]
      rcases G' with g1 | g1 | ⟨g3, g5⟩
      · go_wp2_with fail
        all_goals (try subst_vars)
        all_goals
          go_ret
          exact ⟨false, rfl, (fun h => by cases h), hb.out⟩
      · go_wp2_with fail
        all_goals (try subst_vars)
        all_goals
          go_ret
          exact ⟨false, rfl, (fun h => by cases h), hb.out⟩
      · have g4 : (k != 4) = true := bne_iff_ne.2 g3
        have g4' : (k == 4) = false := beq_eq_false_iff_ne.2 g3
        have g5 : (0 : Int) < (N : Int) := by omega
        replace g3 := Lib.hid g3
        go_wp2_with fail
        all_goals (try subst_vars)
        all_goals
          go_ret
          exact ⟨false, rfl, (fun h => by cases h), hb.out⟩
end Go.Proofs.Ytidoacdigedlnaa
