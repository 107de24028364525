/- due.late: the timers that are due, in order. -/
import Derived.Test.YtidoacdigedlnaaDelT
import Derived.Test.YtidoacdigedlnaaSortT
import Derived.Test.YtidoacdigedlnaaSmall
set_option linter.unusedVariables false
set_option linter.unusedSimpArgs false
namespace Go.Proofs.Ytidoacdigedlnaa
open Go.RowKit

def lateL (t : Int) (l : List TM) : List TM := ins (l.filter (fun y => !decide (t < y.due)))
set_option maxRecDepth 100000 in
theorem late (x : ST) (cs : List Value) (t : Int) (w : World) (h : SAt (Live w) w x cs) (h19 : x.timers.length ≤ 19) :
    Calls Try.prog 24 #[.agg cs.toArray, .int .i64 t] w fun e w' => ∃ a c, e = .returned (.slice a (lateL t x.timers).length c) ∧ TR w.heap.size w' a (lateL t x.timers) ∧ Below w.heap.size w w' := by
  have hl := h.len
  have hlo : cs.toArray.size = 31 := by simp [hl]
  have hb : Below w.heap.size w ((w.alloc (.cells cs.toArray 33)).alloc (.cells #[.int .i64 t] 3)) := ((Below.refl _ _).alloc (Nat.le_refl _) _).alloc (by simp) _
  have hX : ((w.alloc (.cells cs.toArray 33)).alloc (.cells #[.int .i64 t] 3)).heap[w.heap.size]? = some (.cells cs.toArray 33 (0, 0)) := heap_alloc2_old w _ _
  have hT : ((w.alloc (.cells cs.toArray 33)).alloc (.cells #[.int .i64 t] 3)).heap[w.heap.size + 1]? = some (.cells #[.int .i64 t] 3 (0, 0)) := heap_alloc2_new w _ _
  have hsz : ((w.alloc (.cells cs.toArray 33)).alloc (.cells #[.int .i64 t] 3)).heap.size = w.heap.size + 2 := by simp
  have hW : ∃ W, W = (w.alloc (.cells cs.toArray 33)).alloc (.cells #[.int .i64 t] 3) := ⟨_, rfl⟩
  obtain ⟨W, hW⟩ := hW
  rw [← hW] at hb hX hT hsz
  replace h := h.below hb
  obtain ⟨_, _, _, _, _, _, _, _, _, _, _, _, _, _, _, _, _, _, _, A, R, a1, c1, a2, c2, _, _, k23, _, _, _, hs, _, hc1, hc9, _⟩ := h.cells
  have q23 : ((w.alloc (.cells cs.toArray 33)).alloc (.cells #[.int .i64 t] 3)).cell? ⟨w.heap.size, 23, none⟩ = some (.slice a1 x.timers.length c1) := by rw [← hW]; exact box_cell hX 23 _ (by simpa using k23)
  have hclone := cloneT a1 x.timers.length c1 x.timers W hs rfl (by omega)
  have hask : ∀ w1, Below W.heap.size W w1 → AsksB W.heap.size w1 37 #[.pointer (some ⟨w.heap.size + 1, 0, none⟩)] (fun y => decide (t < y.due)) := by
    intro w1 hb1 w' y hb'
    refine isLate y (w.heap.size + 1) t w' ?_
    exact box_cell (((hb1.trans hb').block _ (by omega)).trans hT) 0 _ rfl
  have hent37 : Enters 37 := enters Try.func37 (by kernel_rfl) rfl
  have hlate : ∃ L, L = lateL t x.timers := ⟨_, rfl⟩
  obtain ⟨L, hL⟩ := hlate
  rw [← hL]
  have hF : ∃ l2, l2 = x.timers.filter (fun y => !decide (t < y.due)) := ⟨_, rfl⟩
  obtain ⟨l2, hF⟩ := hF
  have hLF : L = ins l2 := by rw [hL, hF]; rfl
  have hl2 : l2.length ≤ 19 := by rw [hF]; exact Nat.le_trans (List.length_filter_le _ _) h19
  have hdel : ∀ a n c w1, Below W.heap.size W w1 → TR W.heap.size w1 a x.timers → x.timers.length = n → n ≤ c → c ≤ 9223372036854775807 →
      Calls Try.prog 35 #[.slice a n c, .func (.func 37) #[] #[.pointer (some ⟨w.heap.size + 1, 0, none⟩)]] w1 fun e w' => ∃ a', e = .returned (.slice a' l2.length c) ∧ TR W.heap.size w' a' l2 ∧ Below W.heap.size w1 w' := by
    intro a n c w1 hb1 ht hn hc hc9
    rw [hF]
    exact delT 37 _ (fun y => decide (t < y.due)) W.heap.size w1 hent37 (hask w1 hb1) hb1.size a n c x.timers ht hn (by omega) hc hc9
  generalize hnl : x.timers.length = n at *
  rw [hW] at hclone
  replace hW := Lib.hid hW
  replace hb := Lib.hid hb
  replace hX := Lib.hid hX
  replace hT := Lib.hid hT
  replace hsz := Lib.hid hsz
  replace hdel := Lib.hid hdel
  replace hclone := Lib.hid hclone
  replace hF := Lib.hid hF
  replace hL := Lib.hid hL
  replace hLF := Lib.hid hLF
  replace hnl := Lib.hid hnl
  clear h hl k23 hs hask
  go_enter Try.func24, Try.ntmps24
  go_wp2_with (go_at_call 36; refine hclone.out.mono ?_; rintro e w1 ⟨v, rfl, ho, hb1⟩)
  rw [← hW.out] at ho hb1
  obtain ⟨a, c, rfl, hnc, hc9', ht⟩ := own_tr ho hnl.out
  have D := Lib.hid (hdel.out a n c w1 hb1 ht rfl hnc hc9')
  replace hb1 := Lib.hid hb1
  clear ho ht hclone hdel q23
  go_wp2_with (go_at_call 35; refine D.out.mono ?_; rintro e w2 ⟨a', rfl, ht2, hb2⟩)
  have hS := Lib.hid (sortT W.heap.size a' l2.length c l2 w2 (Nat.le_trans hb1.out.size hb2.size) ht2 rfl hl2)
  replace hb2 := Lib.hid (hb1.out.trans hb2)
  clear D ht2
  go_wp2_with (go_at_call 38; refine hS.out.mono ?_; rintro e w3 ⟨rfl, ht3, hb3⟩)
  have hbb := Lib.hid (hb.out.trans ((hb2.out.trans hb3).mono (by rw [hsz.out]; omega)))
  rw [← hLF.out] at ht3
  have hll : l2.length = L.length := by rw [hLF.out, ins_len]
  have ht4 : TR w.heap.size w3 a' L := fun hl => by
    obtain ⟨g, off, g1, g2⟩ := ht3 hl
    exact ⟨g, off, by have := hsz.out; omega, g2⟩
  replace ht4 := Lib.hid ht4
  replace hll := Lib.hid hll
  clear ht3 hb3 hS
  go_wp2_with fail
  go_ret
  refine ⟨a', c, ?_, ht4.out, hbb.out⟩
  rw [← hll.out]; rfl
end Go.Proofs.Ytidoacdigedlnaa
