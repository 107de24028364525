/- usherref05.Same, of one value twice. -/
import Derived.Test.YtncmjkaclfcbmaaClos
set_option linter.unusedVariables false
namespace Go.Proofs.Ytncmjkaclfcbmaa
open Go.RowKit

set_option maxHeartbeats 800000 in
theorem same05 : ∀ (t : VT) (cs cs' : List Value) (w : World), VAt (Live w) w t cs → VAt (Live w) w t cs' → Calls Try.prog 29 #[.agg cs.toArray, .agg cs'.toArray] w (BoolP w true) := by
  intro t
  induction t using VT.ind with
  | h k n b s l ih =>
    intro cs cs' w h h'
    obtain ⟨a, cap, rfl, hs, hc, hc2, h64⟩ := VAt_mk.1 h
    obtain ⟨a', cap', rfl, hs', hc', hc2', _⟩ := VAt_mk.1 h'
    replace ih := Lib.hid ih
    replace hs := Lib.hid hs
    replace hs' := Lib.hid hs'
    clear h h'
    obtain ⟨N, hN⟩ : ∃ N, N = l.length := ⟨_, rfl⟩
    rw [← hN] at hc hc' h64 ⊢
    replace hN := Lib.hid hN
    have e1 := heap_alloc2_old w (.cells #[.int .i64 k, .int .i64 n, .int .u64 b, .string s, .slice a N cap] 29) (.cells #[.int .i64 k, .int .i64 n, .int .u64 b, .string s, .slice a' N cap'] 29)
    have e2 := heap_alloc2_new w (.cells #[.int .i64 k, .int .i64 n, .int .u64 b, .string s, .slice a N cap] 29) (.cells #[.int .i64 k, .int .i64 n, .int .u64 b, .string s, .slice a' N cap'] 29)
    have e3 : Below w.heap.size w ((w.alloc (.cells #[.int .i64 k, .int .i64 n, .int .u64 b, .string s, .slice a N cap] 29)).alloc (.cells #[.int .i64 k, .int .i64 n, .int .u64 b, .string s, .slice a' N cap'] 29)) := ((Below.refl _ _).alloc (Nat.le_refl _) _).alloc (by simp) _
    have e4 : ((w.alloc (.cells #[.int .i64 k, .int .i64 n, .int .u64 b, .string s, .slice a N cap] 29)).alloc (.cells #[.int .i64 k, .int .i64 n, .int .u64 b, .string s, .slice a' N cap'] 29)).heap.size = w.heap.size + 2 := by simp
    replace e1 := Lib.hid e1
    replace e2 := Lib.hid e2
    replace e3 := Lib.hid e3
    replace e4 := Lib.hid e4
    go_enter Try.func29, Try.ntmps29
    go_wp2_with fail
    generalize (w.alloc (.cells #[.int .i64 k, .int .i64 n, .int .u64 b, .string s, .slice a N cap] 29)).alloc (.cells #[.int .i64 k, .int .i64 n, .int .u64 b, .string s, .slice a' N cap'] 29) = W at *
    go_loopw [5] (fun i wr => ∃ j : Nat, j ≤ N ∧ i = .int .i64 (j : Int) ∧ Below (w.heap.size + 2) W wr) (fun i _ => N - (intOf i).toNat)
    case atStart => exact ⟨0, Nat.zero_le _, rfl, Below.refl _ _⟩
    case round =>
      obtain ⟨j, hj, rfl, hbr⟩ := hrel
      have hbw : Below w.heap.size w wr := e3.out.trans (hbr.mono (by omega))
      have g1 : wr.heap[w.heap.size]? = _ := (hbr.block _ (by omega)).trans e1.out
      have g2 : wr.heap[w.heap.size + 1]? = _ := (hbr.block _ (by omega)).trans e2.out
      have c4 := box_cell g1 4 _ rfl
      have d4 := box_cell g2 4 _ rfl
      have hsz : w.heap.size + 2 ≤ wr.heap.size := by have := hbr.size; rw [e4.out] at this; exact this
      replace g1 := Lib.hid g1
      replace g2 := Lib.hid g2
      by_cases hlt : j < N
      · obtain ⟨t, ht⟩ : ∃ t, l[j]? = some t := ⟨_, List.getElem?_eq_getElem (by rw [← hN.out]; exact hlt)⟩
        have htm : t ∈ l := List.mem_of_getElem? ht
        obtain ⟨g, off, ds, rfl, hg, hcl, hct, hcr⟩ := hs.out.get j t ht
        obtain ⟨g', off', ds', rfl, hg', hcl', hct', hcr'⟩ := hs'.out.get j t ht
        have hr := range_keep hcr (hbw.block _ hg)
        have hr' := range_keep hcr' (hbw.block _ hg')
        have I := ih.out t htm ds ds' wr.drew ((hct.below hbw).below (Below.refl _ _).drew) ((hct'.below hbw).below (Below.refl _ _).drew)
        obtain ⟨v0, v1, v2, v3, v4, v5, v6, rfl⟩ := hct.shape
        obtain ⟨u0, u1, u2, u3, u4, u5, u6, rfl⟩ := hct'.shape
        have q0 : wr.cell? ⟨g, off + j * 5, none⟩ = some (.int .i64 v0) := hr 0 _ rfl
        have q1 := hr 1 _ rfl
        have q2 := hr 2 _ rfl
        have q3 := hr 3 _ rfl
        have q4 := hr 4 _ rfl
        have p0 : wr.cell? ⟨g', off' + j * 5, none⟩ = some (.int .i64 u0) := hr' 0 _ rfl
        have p1 := hr' 1 _ rfl
        have p2 := hr' 2 _ rfl
        have p3 := hr' 3 _ rfl
        have p4 := hr' 4 _ rfl
        have hb1 : (0 : Int) ≤ (j : Int) := by omega
        have hb2 : (j : Int) < (N : Int) := by omega
        replace I := Lib.hid I
        replace hbr := Lib.hid hbr
        clear hr hr' hcr hcr' hct hct' hcl hcl' hbw ht
        go_wp2_with fail
        go_still_tail 10, (by kernel_rfl)
        change wpList _ _ _ _ _ wr.drew
        go_wp2_with fail
        refine I.out.mono ?_
        rintro e w3 ⟨rfl, hb3⟩
        have hbE := Lib.hid (hbr.out.drew.trans (hb3.mono hsz))
        clear hb3
        go_wp2_with fail
        go_roundw
        case rel => exact ⟨j + 1, by omega, by go_num, hbE.out⟩
        case measure => simp [intOf]; omega
      · replace hbw := Lib.hid hbw
        clear hbr
        go_wp2_with fail
        go_ret
        exact ⟨rfl, hbw.out⟩
end Go.Proofs.Ytncmjkaclfcbmaa
