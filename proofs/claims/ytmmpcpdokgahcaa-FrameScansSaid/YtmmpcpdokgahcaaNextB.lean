/- The walk of frame.Next. -/
import Derived.Test.YtmmpcpdokgahcaaNext
import Derived.RegionTactic
import Derived.ChangeAlike
import Derived.StillTailTactics
import Derived.Deep.DeepCutAuto
namespace Go.Proofs.Ytmmpcpdokgahcaa
open Go.RowKit CM

/-- the frame with which bytes begin, how many it has, or why there is none -/
def nextF (l : List Nat) : (Nat × List Nat) × Int × Int :=
  if (lenF l).2 = 0 then (if CM.more 0 ((l.drop 8).take (1 + num4 l 0)) = num4 l 4 then ((l.getD 8 0, (l.drop 9).take (num4 l 0)), 9 + (num4 l 0 : Int), 0) else ((0, []), 0, 9))
  else ((0, []), 0, (lenF l).2)
def NextP (w : World) (r : (Nat × List Nat) × Int × Int) (e : Ending) (w' : World) : Prop :=
  ∃ a cap, e = .returned (.tuple #[.agg #[.int .i64 (r.1.1 : Int), .slice a r.1.2.length cap], .int .i64 r.2.1, .int .i64 r.2.2]) ∧ Row w' a r.1.2 ∧ Below w.heap.size w w' ∧ (a = none → r.1.2.length = 0 ∧ cap = 0) ∧ r.1.2.length ≤ cap ∧ cap ≤ 9223372036854775807 ∧ ∀ ad, a = some ad → ∃ cur, w'.heap[ad.block]? = some (.cells cur 5 (0, 0))
theorem next_none (a : Option Addr) (l : List Nat) (cap n : Nat) (w : World) (hr : Row w a l) (hn : l.length = n) (hc : n ≤ cap) (hcap : cap ≤ 9223372036854775807) (h : ¬ (lenF l).2 = 0) :
    Calls Try.prog 12 #[.slice a n cap] w (NextP w (nextF l)) := by
  have L := Lib.hid (fun w' (hb : Below w.heap.size w w') => length_walk a l cap n w' (hr.below hb) hn hc hcap)
  have e : nextF l = ((0, []), 0, (lenF l).2) := by unfold nextF; rw [if_neg h]
  rw [e]
  have hz : ((lenF l).2 != 0) = true := by rw [bne_iff_ne]; exact h
  clear hr hn h e
  generalize (lenF l).1 = x at *
  generalize (lenF l).2 = y at *
  have hB : Below w.heap.size w (w.alloc (.cells #[.int .i64 0, .slice none 0 0] 29)) := (Below.refl _ _).alloc (Nat.le_refl _) _
  have hfin : NextP w ((0, []), 0, y) (.returned (.tuple #[.agg #[.int .i64 0, .slice none 0 0], .int .i64 0, .int .i64 y])) (w.alloc (.cells #[.int .i64 0, .slice none 0 0] 29)) :=
    ⟨none, 0, rfl, ⟨fun c hc => (by cases hc), by simp, .inl rfl⟩, hB, fun _ => ⟨rfl, rfl⟩, Nat.le_refl _, by decide, fun _ h => by cases h⟩
  replace hfin := Lib.hid hfin
  replace hB := Lib.hid hB
  go_enter Try.func12, Try.ntmps12
  go_wp2_with (go_at_call 22; refine (L.out _ hB.out).mono ?_; rintro e w' ⟨rfl, rfl⟩)
  exact bodyPost_ret (v := .tuple #[.agg #[.int .i64 0, .slice none 0 0], .int .i64 0, .int .i64 y]) (by simp [results, Try.results12, go_sem]) rfl hfin.out
theorem row_drop {w : World} {b off : Nat} {l : List Nat} (h : Row w (some ⟨b, off, none⟩) l) (k : Nat) : Row w (some ⟨b, off + k, none⟩) (l.drop k) := by
  obtain ⟨h1, h2, h3⟩ := h
  refine ⟨fun c hc => h1 c (List.mem_of_mem_drop hc), Nat.le_trans (by rw [List.length_drop]; omega) h2, ?_⟩
  rcases h3 with rfl | ⟨b', off', ha, hc⟩
  · exact .inl (by simp)
  · cases ha
    refine .inr ⟨_, _, rfl, fun i hi => ?_⟩
    rw [List.length_drop] at hi
    rw [Nat.add_assoc, hc (k + i) (by omega)]
    congr 3
    simp
theorem row_take {w : World} {a : Option Addr} {l : List Nat} (h : Row w a l) (n : Nat) : Row w a (l.take n) := by
  obtain ⟨h1, h2, h3⟩ := h
  refine ⟨fun c hc => h1 c (List.mem_of_mem_take hc), Nat.le_trans (by rw [List.length_take]; omega) h2, ?_⟩
  rcases h3 with rfl | ⟨b, off, ha, hc⟩
  · exact .inl (by simp)
  · refine .inr ⟨b, off, ha, fun i hi => ?_⟩
    rw [List.length_take] at hi
    rw [hc i (by omega)]
    congr 3
    rw [List.getD_eq_getElem?_getD, List.getD_eq_getElem?_getD, List.getElem?_take_of_lt (by omega)]
theorem row_set {w : World} {g k : Nat} {l : List Nat} (h : Row w (some ⟨g, k, none⟩) l) (p : Addr) (v : Value) (hne : g ≠ p.block) : Row (w.setCell p v) (some ⟨g, k, none⟩) l := by
  obtain ⟨h1, h2, h3⟩ := h
  refine ⟨h1, h2, ?_⟩
  rcases h3 with h3 | ⟨b, off, ha, hc⟩
  · exact .inl h3
  · cases ha
    refine .inr ⟨_, _, rfl, fun i hi => ?_⟩
    rw [World.cell?_setCell_other]
    · exact hc i hi
    · intro e; exact hne (by rw [e])
def zeroB (m : Nat) : Array Value := (u8s (List.replicate m 0)).toArray
theorem made_eq (m : Nat) : madeCells #[Value.int .u8 0] m = zeroB m := by
  have e : ∀ i : Nat, (#[Value.int .u8 0] : Array Value)[i % 1]! = .int .u8 0 := fun i => by rw [Nat.mod_one]; rfl
  unfold zeroB
  apply Array.ext'
  apply List.ext_getElem?
  intro i
  by_cases hi : i < m
  · simp [u8s, madeCells, hi, e]
  · rw [List.getElem?_eq_none (by simp [madeCells]; omega), List.getElem?_eq_none (by simp [u8s]; omega)]
theorem made_bytes (m : Nat) (W : World) (hm : m ≤ 1048576) : Sem.run Try.prog (Instr.makeSlice 22 (.int .i64 (9 + (m : Int) - 9)) (.int .i64 (9 + (m : Int) - 9))) W = .ok (.slice (some ⟨W.heap.size, 0, none⟩) m m) (W.alloc (.cells (zeroB m) 5)) := by
  obtain ⟨i0, hi, hz0, hz1, hz2⟩ := u8_info
  have := run_make (P := Try.prog) W 22 5 i0 (.int .u8 0) Try.underlying22 hi hz0 .i64 .i64 (9 + (m : Int) - 9) (9 + (m : Int) - 9) (by omega) (by omega) (by rw [hz2]; omega) (by omega)
  rw [this, hz1, Nat.mul_one, show (9 + (m : Int) - 9).toNat = m by omega]
  rw [show (Value.int .u8 0).cells = #[Value.int .u8 0] from rfl, made_eq]
theorem next_some (a : Option Addr) (l : List Nat) (cap n : Nat) (w : World) (hr : Row w a l) (hn : l.length = n) (hc : n ≤ cap) (hcap : cap ≤ 9223372036854775807) (h : (lenF l).2 = 0) :
    Calls Try.prog 12 #[.slice a n cap] w (NextP w (nextF l)) := by
  have h1 : ¬ l.length < 9 ∧ ¬ 1048576 < num4 l 0 ∧ ¬ l.length < 9 + num4 l 0 ∧ (lenF l).1 = 9 + (num4 l 0 : Int) := by
    revert h; unfold lenF
    split
    · intro h; simp at h
    split
    · intro h; simp at h
    split
    · intro h; simp at h
    · intro h; refine ⟨by assumption, by assumption, by assumption, rfl⟩
  obtain ⟨h9, hbig, hlen, hx⟩ := h1
  have L := fun w' (hb : Below w.heap.size w w') => length_walk a l cap n w' (hr.below hb) hn hc hcap
  rw [hx, h] at L
  replace L := Lib.hid L
  have hB : Below w.heap.size w (w.alloc (.cells #[.int .i64 0, .slice none 0 0] 29)) := (Below.refl _ _).alloc (Nat.le_refl _) _
  have G := Lib.hid (fun w' (hb : Below w.heap.size w w') => get_walk a l cap n 4 w' (hr.below hb) hn (by omega) hc hcap)
  generalize hm : num4 l 0 = m at *
  have hm1 : m ≤ 1048576 := by omega
  have hm2 : 9 + m ≤ n := by omega
  obtain ⟨b, off, ha⟩ : ∃ b off, a = some ⟨b, off, none⟩ := by
    rcases hr.2.2 with h | ⟨b, off, h, _⟩
    · rw [h] at h9; simp at h9
    · exact ⟨b, off, h⟩
  subst ha
  have hrow8 : ∀ w', Below w.heap.size w w' → Row w' (some ⟨b, off + 8, none⟩) ((l.drop 8).take (1 + m)) := by
    intro w' hb
    exact row_take (row_drop (hr.below hb) 8) _
  have S := Lib.hid (fun w' (hb : Below w.heap.size w w') => sum (some ⟨b, off + 8, none⟩) ((l.drop 8).take (1 + m)) (cap - 8) (9 + m - 8) w' (hrow8 w' hb) (by rw [List.length_take, List.length_drop]; omega))
  replace hm := Lib.hid hm
  replace hB := Lib.hid hB
  replace hr := Lib.hid hr
  replace hn := Lib.hid hn
  clear hrow8 h9 hbig hlen hx
  by_cases hs : CM.more 0 ((l.drop 8).take (1 + m)) = num4 l 4
  · have e : nextF l = ((l.getD 8 0, (l.drop 9).take m), 9 + (m : Int), 0) := by
      unfold nextF; rw [if_pos h, hm.out, if_pos hs]
    rw [e]
    have hne : (((CM.more 0 ((l.drop 8).take (1 + m)) : Nat) : Int) != ((num4 l 4 : Nat) : Int)) = false := by rw [bne_eq_false_iff_eq]; omega
    clear e hs
    generalize CM.more 0 ((l.drop 8).take (1 + m)) = q at *
    generalize num4 l 4 = q' at *
    go_enter Try.func12, Try.ntmps12
    go_wp2_with (go_at_call 22; refine (L.out _ hB.out).mono ?_; rintro e w' ⟨rfl, rfl⟩)
    refine (S.out _ hB.out).mono ?_
    rintro e w2 ⟨rfl, g2⟩
    replace g2 := Lib.hid g2
    have hb2 := Lib.hid (hB.out.trans (g2.out.mono hB.out.size))
    have hx2 : w2.heap[w.heap.size]? = some (.cells #[.int .i64 0, .slice none 0 0] 29 (0, 0)) := by rw [g2.out.block _ (by simp)]; exact heap_alloc_new w _
    replace hx2 := Lib.hid hx2
    have hc8 : w2.cell? ⟨b, off + 8, none⟩ = some (.int .u8 ((l.getD 8 0 : Nat) : Int)) := by
      have := hr.out.below hb2.out
      rcases this.2.2 with h' | ⟨b', off', h', hc'⟩
      · have := hn.out; rw [h'] at this; simp at this; omega
      · cases h'; exact hc' 8 (by have := hn.out; omega)
    have hk8 : l.getD 8 0 < 256 := byte_at hr.out.1 8
    generalize hK : l.getD 8 0 = k8 at *
    go_wp2_with (go_at_call 23; refine (G.out _ hb2.out).mono ?_; rintro e w' ⟨rfl, rfl⟩)
    have h8 : (8 : Int) < (n : Int) := by omega
    have hmk := fun W => made_bytes m W hm1
    have hblt : b < w2.heap.size := block_lt_of_cell hc8
    have hc8a : ∀ o, (w2.alloc o).cell? ⟨b, off + 8, none⟩ = some (.int .u8 (k8 : Int)) := fun o => by rw [World.cell?_alloc_lt _ _ _ hblt]; exact hc8
    have hc8b : ∀ o o', ((w2.alloc o).alloc o').cell? ⟨b, off + 8, none⟩ = some (.int .u8 (k8 : Int)) := fun o o' => by rw [World.cell?_alloc_lt _ _ _ (by simp; omega), World.cell?_alloc_lt _ _ _ hblt]; exact hc8
    replace hblt := Lib.hid hblt
    go_cut [7] (fun s7 wx => ∃ fb pb : Nat, s7 = .pointer (some ⟨fb, 0, none⟩) ∧ wx.heap[fb]? = some (.cells #[.int .i64 (k8 : Int), .slice (some ⟨pb, 0, none⟩) m m] 29 (0, 0)) ∧ Holds wx pb (List.replicate m 0) ∧ w2.heap.size ≤ fb ∧ w2.heap.size ≤ pb ∧ fb ≠ pb ∧ Below w2.heap.size w2 wx)
    case first =>
      go_region
      · go_wp2_with fail
        go_meet
        exact ⟨w2.heap.size + 1, w2.heap.size, rfl, heap_alloc2_new w2 _ _, heap_alloc2_old w2 _ _, by omega, Nat.le_refl _, by omega, (((Below.refl _ _).alloc (Nat.le_refl _) _).alloc (by simp) _).drew⟩
      · go_wp2_with fail
        go_meet
        exact ⟨w2.heap.size, w2.heap.size + 1, rfl, heap_alloc2_old w2 _ _, heap_alloc2_new w2 _ _, Nat.le_refl _, by omega, by omega, (((Below.refl _ _).alloc (Nat.le_refl _) _).alloc (by simp) _).drew⟩
    case rest =>
      obtain ⟨fb, pb, rfl, hF, hP, hf1, hp1, hne, hbel⟩ := hcut
      have hq0 : wc.cell? ⟨fb, 0, none⟩ = some (.int .i64 (k8 : Int)) := by rw [cell_of_row _ _ _ _ _ _ hF]; rfl
      have hq1 : wc.cell? ⟨fb, 1, none⟩ = some (.slice (some ⟨pb, 0, none⟩) m m) := by rw [cell_of_row _ _ _ _ _ _ hF]; rfl
      have hbw : Below w.heap.size w wc := hb2.out.trans (hbel.mono hb2.out.size)
      have hbc := hr.out.below hbw
      have hx3 : wc.heap[w.heap.size]? = some (.cells #[.int .i64 0, .slice none 0 0] 29 (0, 0)) := by rw [hbel.block _ (Array.getElem?_eq_some_iff.1 hx2.out).1]; exact hx2.out
      have hlt : w.heap.size < w2.heap.size := (Array.getElem?_eq_some_iff.1 hx2.out).1
      replace hx3 := Lib.hid hx3
      replace hF := Lib.hid hF
      replace hP := Lib.hid hP
      replace hbel := Lib.hid hbel
      replace hbw := Lib.hid hbw
      replace hbc := Lib.hid hbc
      have hI1 : (9 : Int) ≤ 9 + (m : Int) := by omega
      have hI2 : 9 + (m : Int) ≤ (cap : Int) := by omega
      have hI3 : (0 : Int) ≤ 9 := by decide
      go_wp2_with fail
      go_still_tail 5, (by kernel_rfl)
      have hplen : ((l.drop 9).take m).length = m := by rw [List.length_take, List.length_drop, hn.out]; omega
      have hpall : ∀ c ∈ (l.drop 9).take m, c < 256 := fun c hc => hr.out.1 c (List.mem_of_mem_drop (List.mem_of_mem_take hc))
      obtain ⟨w5, hw5, hF5, hX5, hP5, hB5⟩ : ∃ w5 : World, (w5 = if m = 0 then wc.drew else wc.drew.setRow pb (u8s ((l.drop 9).take m)).toArray) ∧
          w5.heap[fb]? = some (.cells #[.int .i64 (k8 : Int), .slice (some ⟨pb, 0, none⟩) m m] 29 (0, 0)) ∧ w5.heap[w.heap.size]? = some (.cells #[.int .i64 0, .slice none 0 0] 29 (0, 0)) ∧
          Holds w5 pb ((l.drop 9).take m) ∧ Below w.heap.size w w5 := by
        refine ⟨_, rfl, ?_⟩
        by_cases h0 : m = 0
        · rw [if_pos h0]
          refine ⟨hF.out, hx3.out, ?_, hbw.out.drew⟩
          have e0 : (l.drop 9).take m = List.replicate m 0 := by rw [h0]; simp
          rw [e0]; exact hP.out
        · rw [if_neg h0]
          refine ⟨?_, ?_, setRow_heap wc.drew pb _ _ 5 _ hP.out, below_setRow hbw.out.drew (by omega) _⟩
          · rw [setRow_other _ _ _ _ hne]; exact hF.out
          · rw [setRow_other _ _ _ _ (by omega)]; exact hx3.out
      have hfin : ∀ w6, Below w.heap.size w w6 → Row w6 (some ⟨pb, 0, none⟩) ((l.drop 9).take m) → (∃ cur, w6.heap[pb]? = some (.cells cur 5 (0, 0))) → NextP w ((k8, (l.drop 9).take m), 9 + (m : Int), 0) (.returned (.tuple #[.agg #[.int .i64 (k8 : Int), .slice (some ⟨pb, 0, none⟩) m m], .int .i64 (9 + (m : Int)), .int .i64 0])) w6 :=
        fun w6 h1 h2 h3 => ⟨_, m, by rw [hplen], h2, h1, (fun h => by cases h), by rw [hplen]; exact Nat.le_refl _, by omega, fun _ h => by cases h; exact h3⟩
      have y0 : w5.cell? ⟨fb, 0, none⟩ = some (.int .i64 (k8 : Int)) := by rw [cell_of_row _ _ _ _ _ _ hF5]; rfl
      have y1 : w5.cell? ⟨fb, 1, none⟩ = some (.slice (some ⟨pb, 0, none⟩) m m) := by rw [cell_of_row _ _ _ _ _ _ hF5]; rfl
      have x0 : w5.cell? ⟨w.heap.size, 0, none⟩ = some (.int .i64 0) := by rw [cell_of_row _ _ _ _ _ _ hX5]; rfl
      have x1 : w5.cell? ⟨w.heap.size, 1, none⟩ = some (.slice none 0 0) := by rw [cell_of_row _ _ _ _ _ _ hX5]; rfl
      have z0 : w5.frozen? ⟨w.heap.size, 0, none⟩ = false := frozen_of_row _ _ _ _ _ hX5
      have z1 : w5.frozen? ⟨w.heap.size, 1, none⟩ = false := frozen_of_row _ _ _ _ _ hX5
      have hrow5 := hP5.row hpall (by rw [hplen]; omega) 0
      rw [List.drop_zero] at hrow5
      replace hrow5 := Lib.hid hrow5
      replace hF5 := Lib.hid hF5
      replace hX5 := Lib.hid hX5
      replace hP5 := Lib.hid hP5
      replace hB5 := Lib.hid hB5
      replace hfin := Lib.hid hfin
      replace hpall := Lib.hid hpall
      by_cases h0 : m = 0
      · rw [if_pos h0] at hw5
        refine wpList_copy_nothing rfl (.tmp 34) (.tmp 37) 22 22 rfl 5 Try.underlying22 (by kernel_rfl) (some ⟨pb, 0, none⟩) _ m m _ _ rfl rfl (by rw [h0]; simp) ?_
        rw [show ({ heap := wc.heap, tape := wc.tape, drawn := wc.drawn + 1, os := wc.os, output := wc.output } : World) = w5 from hw5.symm]
        clear hw5
        replace h0 := Lib.hid h0
        go_wp2_with fail
        all_goals exact bodyPost_ret (v := .tuple #[.agg #[.int .i64 (k8 : Int), .slice (some ⟨pb, 0, none⟩) m m], .int .i64 (9 + (m : Int)), .int .i64 0]) (by simp [results, Try.results12, go_sem, x0, x1]) rfl (hfin.out _ ((hB5.out.setCell (Nat.le_refl _) _).setCell (Nat.le_refl _) _) (row_set (row_set hrow5.out _ _ (by show pb ≠ w.heap.size; omega)) _ _ (by show pb ≠ w.heap.size; omega)) ⟨_, by rw [heap_setCell_other _ _ _ _ (by show pb ≠ w.heap.size; omega), heap_setCell_other _ _ _ _ (by show pb ≠ w.heap.size; omega)]; exact hP5.out⟩)
      · rw [if_neg h0] at hw5
        refine wpList_copy_own rfl (.tmp 34) (.tmp 37) 22 22 rfl 5 Try.underlying22 (by kernel_rfl) pb 0 m m ⟨b, off + 9, none⟩ m (cap - 9) rfl ?c1 (u8s (List.replicate m 0)).toArray 5 hP.out (u8s ((l.drop 9).take m)) ?c2 ?c3 ?c4 (u8s_one _) ?_
        case c1 =>
          show Value.slice (if cap = 9 then some ⟨b, off, none⟩ else some ⟨b, off + 9, none⟩) ((9 + (m : Int)).toNat - 9) (cap - 9) = _
          rw [if_neg (by omega), show (9 + (m : Int)).toNat - 9 = m by omega]
        case c2 => rw [u8s_len, hplen]; simp
        case c3 => exact (row_take (row_drop hbc.out 9) m).news rfl
        case c4 => rw [u8s_len, hplen]; simp [u8s]
        have e5 : ((u8s (List.replicate m 0)).toArray.toList.take 0 ++ (u8s ((l.drop 9).take m) ++ (u8s (List.replicate m 0)).toArray.toList.drop (0 + (u8s ((l.drop 9).take m)).length))).toArray = (u8s ((l.drop 9).take m)).toArray := by
          rw [u8s_len, hplen]; simp [u8s]
        rw [e5]
        rw [show ({ heap := wc.heap, tape := wc.tape, drawn := wc.drawn + 1, os := wc.os, output := wc.output } : World).setRow pb (u8s ((l.drop 9).take m)).toArray = w5 from hw5.symm]
        clear hw5 e5
        replace h0 := Lib.hid h0
        go_wp2_with fail
        all_goals exact bodyPost_ret (v := .tuple #[.agg #[.int .i64 (k8 : Int), .slice (some ⟨pb, 0, none⟩) m m], .int .i64 (9 + (m : Int)), .int .i64 0]) (by simp [results, Try.results12, go_sem, x0, x1]) rfl (hfin.out _ ((hB5.out.setCell (Nat.le_refl _) _).setCell (Nat.le_refl _) _) (row_set (row_set hrow5.out _ _ (by show pb ≠ w.heap.size; omega)) _ _ (by show pb ≠ w.heap.size; omega)) ⟨_, by rw [heap_setCell_other _ _ _ _ (by show pb ≠ w.heap.size; omega), heap_setCell_other _ _ _ _ (by show pb ≠ w.heap.size; omega)]; exact hP5.out⟩)
  · have e : nextF l = ((0, []), 0, 9) := by
      unfold nextF; rw [if_pos h, hm.out, if_neg hs]
    rw [e]
    have hne : (((CM.more 0 ((l.drop 8).take (1 + m)) : Nat) : Int) != ((num4 l 4 : Nat) : Int)) = true := by rw [bne_iff_ne]; omega
    clear e hs
    generalize CM.more 0 ((l.drop 8).take (1 + m)) = q at *
    generalize num4 l 4 = q' at *
    go_enter Try.func12, Try.ntmps12
    go_wp2_with (go_at_call 22; refine (L.out _ hB.out).mono ?_; rintro e w' ⟨rfl, rfl⟩)
    refine (S.out _ hB.out).mono ?_
    rintro e w2 ⟨rfl, g2⟩
    replace g2 := Lib.hid g2
    have hb2 := Lib.hid (hB.out.trans (g2.out.mono hB.out.size))
    have hx2 : w2.heap[w.heap.size]? = some (.cells #[.int .i64 0, .slice none 0 0] 29 (0, 0)) := by rw [g2.out.block _ (by simp)]; exact heap_alloc_new w _
    have hc0 : w2.cell? ⟨w.heap.size, 0, none⟩ = some (.int .i64 0) := by rw [cell_of_row _ _ _ _ _ _ hx2]; rfl
    have hc1 : w2.cell? ⟨w.heap.size, 1, none⟩ = some (.slice none 0 0) := by rw [cell_of_row _ _ _ _ _ _ hx2]; rfl
    have hf0 : w2.frozen? ⟨w.heap.size, 0, none⟩ = false := frozen_of_row _ _ _ _ _ hx2
    have hf1 : w2.frozen? ⟨w.heap.size, 1, none⟩ = false := frozen_of_row _ _ _ _ _ hx2
    replace hx2 := Lib.hid hx2
    go_wp2_with (go_at_call 23; refine (G.out _ hb2.out).mono ?_; rintro e w' ⟨rfl, rfl⟩)
    refine bodyPost_ret (v := .tuple #[.agg #[.int .i64 0, .slice none 0 0], .int .i64 0, .int .i64 9]) (by simp [results, Try.results12, go_sem, hc0, hc1]) rfl ⟨none, 0, rfl, ⟨fun c hc => (by cases hc), by simp, .inl rfl⟩, ?_, fun _ => ⟨rfl, rfl⟩, Nat.le_refl _, by decide, fun _ h => by cases h⟩
    first | exact (hb2.out.setCell (by simp) _).setCell (by simp) _ | exact hb2.out
end Go.Proofs.Ytmmpcpdokgahcaa
