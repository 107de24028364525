/- The law DueNext: its walk. -/
import Derived.Test.YtidoacdigedlnaaCan9
import Derived.Test.YtidoacdigedlnaaAwake
import Derived.Test.YtidoacdigedlnaaPlain
set_option linter.unusedVariables false
set_option linter.unusedSimpArgs false
namespace Go.Proofs.Ytidoacdigedlnaa
open Go.RowKit

set_option maxRecDepth 100000 in
set_option maxHeartbeats 1600000 in
theorem next_walk (x : ST) (cs : List Value) (now : Int) (w : World) (h : SAt (Live w) w x cs) : Calls Try.prog 5 #[.agg cs.toArray, .int .i64 now] w (BoolP w true) := by
  have hl := h.len
  have hlo : cs.toArray.size = 31 := by simp [hl]
  have hss := Lib.hid (s_size hl)
  obtain ⟨W, hW⟩ : ∃ W, W = w.alloc (.cells cs.toArray 33) := ⟨_, rfl⟩
  have e1 : W.heap[w.heap.size]? = some (.cells cs.toArray 33 (0, 0)) := by rw [hW]; exact heap_alloc_new w _
  have e3 : Below w.heap.size w W := by rw [hW]; exact ((Below.refl _ _).alloc (Nat.le_refl _) _)
  have e4 : W.heap.size = w.heap.size + 1 := by rw [hW]; simp
  have kx : ∀ w', Below (w.heap.size + 1) W w' → w'.heap[w.heap.size]? = some (.cells cs.toArray 33 (0, 0)) := fun w' hb' => (hb'.block _ (Nat.lt_succ_self _)).trans e1
  have kS : ∀ w', Below (w.heap.size + 1) W w' → SAt (Live w') w' x cs := fun w' hb' => h.below (e3.trans (hb'.mono (Nat.le_succ _)))
  have kz : ∀ w', Below (w.heap.size + 1) W w' → w.heap.size + 1 ≤ w'.heap.size := fun w' hb' => by have := hb'.size; rw [e4] at this; exact this
  have kb : ∀ w', Below (w.heap.size + 1) W w' → Below w.heap.size w w' := fun w' hb' => e3.trans (hb'.mono (Nat.le_succ _))
  have hX0 := Lib.hid e1
  have hb0 : Below (w.heap.size + 1) W W := Below.refl _ _
  have CN := can_ x cs W (kS W hb0)
  replace hW := Lib.hid hW
  replace e1 := Lib.hid e1
  replace e3 := Lib.hid e3
  replace e4 := Lib.hid e4
  replace kx := Lib.hid kx
  replace kS := Lib.hid kS
  replace kz := Lib.hid kz
  replace kb := Lib.hid kb
  replace hb0 := Lib.hid hb0
  replace CN := Lib.hid CN
  clear h hl
  go_enter Try.func5, Try.ntmps5
  go_upto_region 1 with (fail)
  rw [← hW.out]
  go_wp2_with (first | (with_reducible refine wpList_load_row rfl 33 (.tmp 2) rfl w.heap.size rfl 33 cs.toArray (0, 0) _ hX0.out Try.underlying33 rfl hss.out ?_) | (go_at_call 6; refine CN.out.mono ?_))
  rintro e w1 ⟨q, rfl, hq, hb1⟩
  replace hb1 := hb0.out.trans (hb1.mono (kz.out _ hb0.out))
  have hX1 := Lib.hid (kx.out w1 hb1)
  replace hb1 := Lib.hid hb1
  clear CN
  cases q with
  | false =>
    go_wp2_with (go_at_call 7; refine (awake w1).mono ?_; rintro e w2 ⟨rfl, hb2⟩; replace hb2 := hb1.out.trans (hb2.mono (kz.out _ hb1.out)); have hX2 := Lib.hid (kx.out w2 hb2); replace hb2 := Lib.hid hb2)
    go_ret
    exact ⟨rfl, kb.out _ hb2.out⟩
  | true =>
    have h10 : x.timers.length ≤ 19 := Nat.le_trans (hq rfl) (by decide)
    have NX := next_ x cs w1 (kS.out w1 hb1.out) h10
    obtain ⟨nn, hnn⟩ : ∃ nn, (nextF x).1 = nn := ⟨_, rfl⟩
    obtain ⟨ok, hok⟩ : ∃ ok, (nextF x).2 = ok := ⟨_, rfl⟩
    obtain ⟨tt, htt⟩ : ∃ tt, timeF x now = tt := ⟨_, rfl⟩
    have hlaw := fun L hL => law_next x now L hL
    rw [hnn, hok, htt] at hlaw
    unfold NextP at NX
    rw [hnn, hok] at NX
    replace NX := Lib.hid NX
    replace h10 := Lib.hid h10
    replace hlaw := Lib.hid hlaw
    replace htt := Lib.hid htt
    clear hq hnn hok
    go_wp2_with (first | (with_reducible refine wpList_load_row rfl 33 (.tmp 2) rfl w.heap.size rfl 33 cs.toArray (0, 0) _ hX1.out Try.underlying33 rfl hss.out ?_) | (with_reducible refine wpList_load_row rfl 33 (.tmp 2) rfl w.heap.size rfl 33 cs.toArray (0, 0) _ hX2.out Try.underlying33 rfl hss.out ?_) | (go_at_call 11; refine NX.out.mono ?_; rintro e w2 ⟨rfl, hb2⟩; replace hb2 := hb1.out.trans (hb2.mono (kz.out _ hb1.out)); have hX2 := Lib.hid (kx.out w2 hb2); replace hb2 := Lib.hid hb2; clear NX hX1) | (go_at_call 8; refine (at_ x cs now w2 (kS.out w2 hb2.out) h10.out).mono ?_))
    rintro e w3 ⟨v, L, rfl, ho, hL, hb3⟩
    replace hb3 := hb2.out.trans (hb3.mono (kz.out _ hb2.out))
    have hX3 := Lib.hid (kx.out w3 hb3)
    replace hb3 := Lib.hid hb3
    obtain ⟨ar, cr, rfl, _, _, _⟩ := own_len ho
    have hl1 := hlaw.out L hL
    clear ho hL hlaw
    obtain ⟨k, hk⟩ : ∃ k, L.length = k := ⟨_, rfl⟩
    rw [hk] at hl1 ⊢
    replace hk := Lib.hid hk
    cases ok with
    | false =>
      have z1 : decide ((0 : Int) < (k : Int)) = false := by rw [hl1]; rfl
      have z2 : decide (0 < k) = false := by have := of_decide_eq_false z1; exact decide_eq_false (by omega)
      replace hl1 := Lib.hid hl1
      go_wp2_with (go_at_call 7; refine (awake _).mono ?_; rintro e w4 ⟨rfl, hb4⟩; replace hb4 := hb3.out.trans (hb4.mono (kz.out _ hb3.out)); have hX4 := Lib.hid (kx.out w4 hb4); replace hb4 := Lib.hid hb4)
      go_ret
      exact ⟨rfl, kb.out _ hb4.out⟩
    | true =>
      have hl2 : decide ((0 : Int) < (k : Int)) = decide (nn ≤ tt) := by rw [hl1]; simp
      have TI := time_ _ x cs now w3 (kS.out w3 hb3.out)
      rw [htt.out] at TI
      replace TI := Lib.hid TI
      clear hl1
      cases z1 : decide (nn ≤ tt) with
      | false =>
        rw [z1] at hl2
        have z2 : decide (0 < k) = false := by have := of_decide_eq_false hl2; exact decide_eq_false (by omega)
        go_wp2_with (first | (with_reducible refine wpList_load_want (by kernel_rfl) 33 (.tmp 2) rfl w.heap.size rfl 33 cs.toArray (0, 0) _ hX3.out Try.underlying33 rfl hss.out ?_) | (go_at_call 10; refine TI.out.mono ?_; rintro e w4 ⟨rfl, hb4⟩; replace hb4 := hb3.out.trans (hb4.mono (kz.out _ hb3.out)); have hX4 := Lib.hid (kx.out w4 hb4); replace hb4 := Lib.hid hb4) | (go_at_call 7; refine (awake _).mono ?_; rintro e w5 ⟨rfl, hb5⟩; replace hb5 := hb4.out.trans (hb5.mono (kz.out _ hb4.out)); have hX5 := Lib.hid (kx.out w5 hb5); replace hb5 := Lib.hid hb5))
        go_ret
        exact ⟨rfl, kb.out _ hb5.out⟩
      | true =>
        rw [z1] at hl2
        have z2 : decide (0 < k) = true := by have := of_decide_eq_true hl2; exact decide_eq_true (by omega)
        go_wp2_with (first | (with_reducible refine wpList_load_want (by kernel_rfl) 33 (.tmp 2) rfl w.heap.size rfl 33 cs.toArray (0, 0) _ hX3.out Try.underlying33 rfl hss.out ?_) | (go_at_call 10; refine TI.out.mono ?_; rintro e w4 ⟨rfl, hb4⟩; replace hb4 := hb3.out.trans (hb4.mono (kz.out _ hb3.out)); have hX4 := Lib.hid (kx.out w4 hb4); replace hb4 := Lib.hid hb4) | (go_at_call 7; refine (awake _).mono ?_; rintro e w5 ⟨rfl, hb5⟩; replace hb5 := hb4.out.trans (hb5.mono (kz.out _ hb4.out)); have hX5 := Lib.hid (kx.out w5 hb5); replace hb5 := Lib.hid hb5))
        go_ret
        exact ⟨rfl, kb.out _ hb5.out⟩
end Go.Proofs.Ytidoacdigedlnaa
