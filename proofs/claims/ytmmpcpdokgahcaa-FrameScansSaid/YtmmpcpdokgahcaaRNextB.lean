/- The walk of the reference's Next. -/
import Derived.Test.YtmmpcpdokgahcaaAwakeB
import Derived.Deep.QuietTactic
import Derived.BigQuiet
import Derived.Deep.RegionWith
set_option linter.unusedVariables false
namespace Go.Proofs.Ytmmpcpdokgahcaa
open Go.RowKit CM

theorem number (a : Option Addr) (l : List Nat) (cap n : Nat) (w : World) (hr : Row w a l) (hn : l.length = n) (hp : 4 ≤ n) (hcap : n ≤ cap) :
    Calls Try.prog 24 #[.slice a n cap] w fun e w' => e = .returned (.int .i64 ((num4 l 0 : Nat) : Int)) ∧ ∃ k, w' = w.drewN k := by
  obtain ⟨b, off, ha, hcell⟩ : ∃ b off, a = some ⟨b, off, none⟩ ∧ ∀ i, i < l.length → w.cell? ⟨b, off + i, none⟩ = some (.int .u8 ((l.getD i 0 : Nat) : Int)) := by
    rcases hr.2.2 with h | h
    · rw [h] at hn; simp at hn; omega
    · exact h
  subst ha
  have c0 := hcell 0 (by omega)
  have c1 := hcell 1 (by omega)
  have c2 := hcell 2 (by omega)
  have c3 := hcell 3 (by omega)
  have b0 := byte_at hr.1 0
  have b1 := byte_at hr.1 1
  have b2 := byte_at hr.1 2
  have b3 := byte_at hr.1 3
  have e4 : num4 l 0 = ((l.getD 0 0 * 256 + l.getD 1 0) * 256 + l.getD 2 0) * 256 + l.getD 3 0 := by
    unfold num4 numk numk numk numk numk; simp
  clear hcell hr
  generalize l.getD 0 0 = x0 at *
  generalize l.getD 1 0 = x1 at *
  generalize l.getD 2 0 = x2 at *
  generalize l.getD 3 0 = x3 at *
  rw [e4]
  clear e4
  rw [Nat.add_zero] at c0
  have i0 : (0 : Int) < (n : Int) := by omega
  have i1 : (1 : Int) < (n : Int) := by omega
  have i2 : (2 : Int) < (n : Int) := by omega
  have i3 : (3 : Int) < (n : Int) := by omega
  have w1 : IntKind.i64.wrap (x0 : Int) = x0 := IntWalk.i64_in _ (by omega)
  have w2 : IntKind.i64.wrap (x1 : Int) = x1 := IntWalk.i64_in _ (by omega)
  have w3 : IntKind.i64.wrap (x2 : Int) = x2 := IntWalk.i64_in _ (by omega)
  have w4 : IntKind.i64.wrap (x3 : Int) = x3 := IntWalk.i64_in _ (by omega)
  have v1 : IntKind.i64.wrap ((x0 : Int) * 256) = (x0 : Int) * 256 := IntWalk.i64_in _ (by omega)
  have v2 : IntKind.i64.wrap ((x0 : Int) * 256 + x1) = (x0 : Int) * 256 + x1 := IntWalk.i64_in _ (by omega)
  have v3 : IntKind.i64.wrap (((x0 : Int) * 256 + x1) * 256) = ((x0 : Int) * 256 + x1) * 256 := IntWalk.i64_in _ (by omega)
  have v4 : IntKind.i64.wrap (((x0 : Int) * 256 + x1) * 256 + x2) = ((x0 : Int) * 256 + x1) * 256 + x2 := IntWalk.i64_in _ (by omega)
  have v5 : IntKind.i64.wrap ((((x0 : Int) * 256 + x1) * 256 + x2) * 256) = (((x0 : Int) * 256 + x1) * 256 + x2) * 256 := IntWalk.i64_in _ (by omega)
  have v6 : IntKind.i64.wrap ((((x0 : Int) * 256 + x1) * 256 + x2) * 256 + x3) = (((x0 : Int) * 256 + x1) * 256 + x2) * 256 + x3 := IntWalk.i64_in _ (by omega)
  have hfin : ((((x0 : Int) * 256 + x1) * 256 + x2) * 256 + x3) = ((((x0 * 256 + x1) * 256 + x2) * 256 + x3 : Nat) : Int) := by omega
  replace hfin := Lib.hid hfin
  clear hn
  go_enter Try.func24, Try.ntmps24
  go_wp2_with fail
  go_quiet (fail)
  go_wp2_with fail
  go_ret
  exact ⟨ret_int hfin.out, _, rfl⟩
theorem drop8 {l : List Nat} (m : Nat) (h : 9 ≤ l.length) : (l.drop 8).take (1 + m) = l.getD 8 0 :: (l.drop 9).take m := by
  rw [List.drop_eq_getElem_cons (show 8 < l.length by omega), Nat.add_comm, List.take_succ_cons]
  simp [show 8 < l.length by omega]
def retN (k : Nat) (a : Option Addr) (n cap : Nat) (x y : Int) : Ending := .returned (.tuple #[.agg #[.int .i64 (k : Int), .slice a n cap], .int .i64 x, .int .i64 y])
theorem none_fin (w w' : World) (y : Int) (h : Below w.heap.size w w') : NextP w ((0, []), 0, y) (.returned (.tuple #[.agg #[.int .i64 0, .slice none 0 0], .int .i64 0, .int .i64 y])) w' :=
  ⟨none, 0, rfl, ⟨fun c hc => (by cases hc), by simp, .inl rfl⟩, h, fun _ => ⟨rfl, rfl⟩, Nat.le_refl _, by decide, fun _ h => by cases h⟩
theorem rmore_lt (l : List Nat) (h : ∀ c ∈ l, c < 256) : CM.more 0 l < 4294967296 := flip_lt _ (run_lt l _ (flip_lt 0 (by decide)) h)
theorem row_set' {w : World} {a : Option Addr} {l : List Nat} (h : Row w a l) (p : Addr) (v : Value) (hne : ∀ g o, a = some ⟨g, o, none⟩ → g ≠ p.block) : Row (w.setCell p v) a l := by
  rcases a with _ | ad
  · obtain ⟨h1, h2, h3⟩ := h
    refine ⟨h1, h2, ?_⟩
    rcases h3 with h3 | ⟨b, off, ha, _⟩
    · exact .inl h3
    · cases ha
  · rcases h.2.2 with h3 | ⟨b, off, ha, hc⟩
    · exact ⟨h.1, h.2.1, .inl h3⟩
    · cases ha; exact row_set h p v (hne _ _ rfl)
set_option maxHeartbeats 1600000 in
theorem rnext (a : Option Addr) (l : List Nat) (cap n : Nat) (w : World) (hr : Row w a l) (hn : l.length = n) (hc : n ≤ cap) (hcap : cap ≤ 9223372036854775807) :
    Calls Try.prog 13 #[.slice a n cap] w (NextP w (nextF l)) := by
  have hB : Below w.heap.size w (w.alloc (.cells #[.int .i64 0, .slice none 0 0] 29)) := (Below.refl _ _).alloc (Nat.le_refl _) _
  replace hB := Lib.hid hB
  by_cases h9 : n < 9
  · have e : nextF l = ((0, []), 0, 4) := by
      have : lenF l = (0, 4) := by unfold lenF; rw [if_pos (by omega)]
      unfold nextF; rw [this]; rfl
    rw [e]
    have h' : decide ((n : Int) < 9) = true := decide_eq_true (by omega)
    have hfin := Lib.hid (fun w' => none_fin w w' 4)
    clear hr hn hc h9 e
    go_enter Try.func13, Try.ntmps13
    go_wp2_with fail
    exact bodyPost_ret (v := .tuple #[.agg #[.int .i64 0, .slice none 0 0], .int .i64 0, .int .i64 4]) (by simp [results, Try.results13, go_sem]) rfl (hfin.out _ hB.out)
  have h9' : decide ((n : Int) < 9) = false := decide_eq_false (by omega)
  have N := Lib.hid (fun w' (hb : Below w.heap.size w w') => number a l cap n w' (hr.below hb) hn (by omega) hc)
  have hx := numk_lt hr.1 0 4
  by_cases hbig : 1048576 < num4 l 0
  · have e : nextF l = ((0, []), 0, 5) := by
      have : lenF l = (0, 5) := by unfold lenF; rw [if_neg (by omega), if_pos hbig]
      unfold nextF; rw [this]; rfl
    rw [e]
    have h' : decide (1048576 < ((num4 l 0 : Nat) : Int)) = true := decide_eq_true (by omega)
    have hfin := Lib.hid (fun w' => none_fin w w' 5)
    clear hr hn hc h9 e hbig hx
    generalize num4 l 0 = x at *
    go_enter Try.func13, Try.ntmps13
    go_wp2_with (go_at_call 24; refine (N.out _ hB.out).mono ?_; rintro e w' ⟨rfl, k, rfl⟩)
    exact bodyPost_ret (v := .tuple #[.agg #[.int .i64 0, .slice none 0 0], .int .i64 0, .int .i64 5]) (by simp [results, Try.results13, go_sem]) rfl (hfin.out _ (((below_drewN hB.out k).setCell (Nat.le_refl _) _).setCell (Nat.le_refl _) _))
  have h5' : decide (1048576 < ((num4 l 0 : Nat) : Int)) = false := decide_eq_false (by omega)
  by_cases hshort : n < 9 + num4 l 0
  · have e : nextF l = ((0, []), 0, 4) := by
      have : lenF l = (0, 4) := by unfold lenF; rw [if_neg (by omega), if_neg hbig, if_pos (by omega)]
      unfold nextF; rw [this]; rfl
    rw [e]
    have h' : decide ((n : Int) - 9 < ((num4 l 0 : Nat) : Int)) = true := decide_eq_true (by omega)
    have hfin := Lib.hid (fun w' => none_fin w w' 4)
    clear hr hn e hbig hx
    generalize num4 l 0 = x at *
    have hn2 : n ≤ 9223372036854775807 := by omega
    go_enter Try.func13, Try.ntmps13
    go_wp2_with (go_at_call 24; refine (N.out _ hB.out).mono ?_; rintro e w' ⟨rfl, k, rfl⟩)
    exact bodyPost_ret (v := .tuple #[.agg #[.int .i64 0, .slice none 0 0], .int .i64 0, .int .i64 4]) (by simp [results, Try.results13, go_sem]) rfl (hfin.out _ (((below_drewN hB.out k).setCell (Nat.le_refl _) _).setCell (Nat.le_refl _) _))
  have h4' : decide ((n : Int) - 9 < ((num4 l 0 : Nat) : Int)) = false := decide_eq_false (by omega)
  have hl : lenF l = (9 + ((num4 l 0 : Nat) : Int), 0) := by unfold lenF; rw [if_neg (by omega), if_neg hbig, if_neg (by omega)]
  obtain ⟨b, off, ha⟩ : ∃ b off, a = some ⟨b, off, none⟩ := by
    rcases hr.2.2 with h | ⟨b, off, h, _⟩
    · rw [h] at hn; simp at hn; omega
    · exact ⟨b, off, h⟩
  subst ha
  have hsum := drop8 (num4 l 0) (show 9 ≤ l.length by omega)
  have N4 := fun w' (hb : Below w.heap.size w w') => number (some ⟨b, off + 4, none⟩) (l.drop 4) (cap - 4) (n - 4) w' (row_drop (hr.below hb) 4) (by rw [List.length_drop, hn]) (by omega) (by omega)
  have en4 : num4 (l.drop 4) 0 = num4 l 4 := by unfold num4 numk numk numk numk numk; simp
  rw [en4] at N4
  replace N4 := Lib.hid N4
  have hk8 := byte_at hr.1 8
  have hnx : nextF l = if CM.more 0 (l.getD 8 0 :: (l.drop 9).take (num4 l 0)) = num4 l 4 then ((l.getD 8 0, (l.drop 9).take (num4 l 0)), 9 + (num4 l 0 : Int), 0) else ((0, []), 0, 9) := by
    unfold nextF; rw [hl, if_pos rfl, hsum]
  obtain ⟨R, hR⟩ : ∃ R, R = nextF l := ⟨_, rfl⟩
  rw [← hR]
  rw [hnx] at hR
  replace hR := Lib.hid hR
  have hc8 : ∀ w', Below w.heap.size w w' → w'.cell? ⟨b, off + 8, none⟩ = some (.int .u8 ((l.getD 8 0 : Nat) : Int)) := by
    intro w' hb
    rcases (hr.below hb).2.2 with h' | ⟨b', off', h', hc'⟩
    · rw [h'] at hn; simp at hn; omega
    · cases h'; exact hc' 8 (by omega)
  have hp : ((l.drop 9).take (num4 l 0)).length = num4 l 0 := by rw [List.length_take, List.length_drop]; omega
  have hrp := fun w' (hb : Below w.heap.size w w') => row_take (row_drop (hr.below hb) 9) (num4 l 0)
  have hpall : ∀ c ∈ (l.drop 9).take (num4 l 0), c < 256 := fun c hc => hr.1 c (List.mem_of_mem_drop (List.mem_of_mem_take hc))
  clear hnx hsum en4 hl h9 hx
  generalize num4 l 4 = q4 at *
  generalize (l.drop 9).take (num4 l 0) = p at *
  generalize num4 l 0 = m at *
  generalize l.getD 8 0 = k8 at *
  have hm2 : 9 + m ≤ n := by omega
  have hm1 : m ≤ 1048576 := by omega
  have hcap2 : n ≤ 9223372036854775807 := by omega
  obtain ⟨i0, hi, hz0, hz1, hz2⟩ := u8_info
  replace hi := Lib.hid hi
  replace hz0 := Lib.hid hz0
  replace hz1 := Lib.hid hz1
  replace hz2 := Lib.hid hz2
  replace hr := Lib.hid hr
  replace hn := Lib.hid hn
  replace hc8 := Lib.hid hc8
  replace hp := Lib.hid hp
  replace hrp := Lib.hid hrp
  replace hpall := Lib.hid hpall
  have hown : ∀ w' : World, w'.ownsRow (w.heap.size + 1) 5 1 (.slice none 0 0) 0 [] := fun w' => ⟨rfl, .inl ⟨rfl, rfl⟩⟩
  replace hown := Lib.hid hown
  clear hbig hshort
  have hl2 : (u8s p).length = (9 + m - 9) * 1 := by rw [u8s_len, hp.out]; omega
  have hc4 : ¬ cap = 4 := by omega
  replace hl2 := Lib.hid hl2
  by_cases hc9 : cap = 9
  · subst hc9
    have hnews : ∀ w', Below w.heap.size w w' → ∀ ad, some (⟨b, off, none⟩ : Addr) = some ad → ∀ j u, (u8s p)[j]? = some u → w'.cell? (ad.add j) = some u := by
      intro w' hb ad had
      have hp0 : p = [] := List.length_eq_zero_iff.1 (by rw [hp.out]; omega)
      subst hp0
      intro j u h; cases h
    replace hnews := Lib.hid hnews
    go_enter Try.func13, Try.ntmps13
    go_wp2_with (first | (go_at_call 24; refine (N.out _ hB.out).mono ?_; rintro e w' ⟨rfl, k, rfl⟩) | (at_builtin; refine append_src rfl (.const (.slice none 0 0)) (.tmp 25) 22 rfl (w.heap.size + 1) 5 i0 (.int .u8 0) 1 1 Try.underlying22 hi.out hz0.out hz1.out hz2.out rfl (by decide) (.slice none 0 0) 0 [] rfl (hown.out _) (some ⟨b, off, none⟩) (9 + m - 9) (0) (u8s p) rfl (fun h => by cases h) hl2.out (hnews.out _ (below_drewN hB.out k)) (u8s_one p) ?c4 ?c5 (by show w.heap.size + 1 ≤ (w.alloc _).heap.size; simp) ?_))
    case c4 => unfold maxLen; omega
    case c5 => omega
    intro v' w2 ho g2
    have ho' : w2.ownsRow (w.heap.size + 1) 5 1 v' m (u8s p) := by
      have e1 : 9 + m - 9 = m := by omega
      simpa only [e1, Nat.zero_add, List.nil_append] using ho
    have hb2 := (below_drewN hB.out k).grown g2 (below_drewN hB.out k).size (fun k h => by cases h)
    have hx2 : w2.heap[w.heap.size]? = some (.cells #[.int .i64 0, .slice none 0 0] 29 (0, 0)) := by
      rw [g2.block _ (by show w.heap.size < (w.alloc _).heap.size; simp) (by intro h; cases h)]; exact heap_alloc_new w _
    obtain ⟨x, c2, rfl, hnone2, hle2, hmx2⟩ := own_len ho'
    obtain ⟨x', c2', he2, _, hrow2⟩ := own_row ho' hpall.out (by rw [hp.out]; omega)
    cases he2
    have hxn : ∀ g o, x = some ⟨g, o, none⟩ → g ≠ w.heap.size := by
      intro g o hx
      have := own_from ho' g (by rw [hx]; rfl)
      omega
    have hxf : ∀ ad, x = some ad → w.heap.size + 1 ≤ ad.block ∧ ∃ cur, w2.heap[ad.block]? = some (.cells cur 5 (0, 0)) := by
      intro ad hx
      refine ⟨own_from ho' ad.block (by rw [hx]; rfl), ?_⟩
      rcases ho'.2 with ⟨hv, _⟩ | ⟨g, c3, cur, hv, _, hh, _⟩
      · rw [hx] at hv; cases hv
      · rw [hx] at hv; cases hv; exact ⟨cur, hh⟩
    replace hxn := Lib.hid hxn
    replace hxf := Lib.hid hxf
    clear ho ho' g2 hnews hl2
    have S21 := Lib.hid (fun w' (hb : Below w2.heap.size w2 w') => rsum_walk k8 x p c2 m w' hk8 (hrow2.below hb) hp.out (by omega) (fun h => (hnone2 h).2))
    have N24 := Lib.hid (fun w' (hb : Below w2.heap.size w2 w') => N4.out w' (hb2.trans (hb.mono hb2.size)))
    have hc82 := fun w' (hb : Below w2.heap.size w2 w') => hc8.out w' (hb2.trans (hb.mono hb2.size))
    have hcr := hc82 _ (Below.refl _ _)
    have hblt : b < w2.heap.size := block_lt_of_cell hcr
    replace hc82 := Lib.hid hc82
    replace hx2 := Lib.hid hx2
    replace hb2 := Lib.hid hb2
    replace hrow2 := Lib.hid hrow2
    replace hnone2 := Lib.hid hnone2
    have h8 : (8 : Int) < (n : Int) := by omega
    have h44 : (4 : Int) ≤ (n : Int) := by omega
    have hsl : CM.more 0 (k8 :: p) < 4294967296 := rmore_lt _ (fun c hc => by rcases List.mem_cons.1 hc with rfl | hc; exact hk8; exact hpall.out c hc)
    generalize hS : CM.more 0 (k8 :: p) = sm at *
    have hwr : IntKind.i64.wrap (sm : Int) = sm := IntWalk.i64_in _ (by omega)
    clear hS
    go_wp2_with fail
    go_cut [36] (fun s36 wx => s36 = .bool ((q4 : Int) != (sm : Int)) ∧ Below w2.heap.size w2 wx)
    case first =>
      go_region_with (first | (go_at_call 24; refine (N24.out _ ?_).mono ?_; exact (Below.refl _ _).drew; rintro e w' ⟨rfl, k, rfl⟩) | (go_at_call 21; refine (S21.out _ ?_).mono ?_; exact below_drewN (Below.refl _ _) _; rintro e w3 ⟨rfl, hb3⟩; have hb4 := Lib.hid ((below_drewN (Below.refl w2.heap.size w2) (1 + k)).trans (hb3.mono (Nat.le_refl _))); clear hb3; have hc83 := hc82.out _ hb4.out))
      all_goals
        go_wp2_with fail
        go_meet
        exact ⟨rfl, hb4.out⟩
    case rest =>
      obtain ⟨rfl, hbc⟩ := hcut
      have hbw : Below w.heap.size w wc := hb2.out.trans (hbc.mono hb2.out.size)
      have hx3 : wc.heap[w.heap.size]? = some (.cells #[.int .i64 0, .slice none 0 0] 29 (0, 0)) := by rw [hbc.block _ (Array.getElem?_eq_some_iff.1 hx2.out).1]; exact hx2.out
      have hc8d := hc82.out _ hbc
      have hrow3 := hrow2.out.below hbc
      have x0 : wc.cell? ⟨w.heap.size, 0, none⟩ = some (.int .i64 0) := by rw [cell_of_row _ _ _ _ _ _ hx3]; rfl
      have x1 : wc.cell? ⟨w.heap.size, 1, none⟩ = some (.slice none 0 0) := by rw [cell_of_row _ _ _ _ _ _ hx3]; rfl
      have z0 : wc.frozen? ⟨w.heap.size, 0, none⟩ = false := frozen_of_row _ _ _ _ _ hx3
      have z1 : wc.frozen? ⟨w.heap.size, 1, none⟩ = false := frozen_of_row _ _ _ _ _ hx3
      have hxw : ∀ (v1 v2 : Value) ad, x = some ad → ∃ cur, ((wc.setCell ⟨w.heap.size, 0, none⟩ v1).setCell ⟨w.heap.size, 1, none⟩ v2).heap[ad.block]? = some (.cells cur 5 (0, 0)) := by
        intro v1 v2 ad hx
        obtain ⟨h1, cur, h2⟩ := hxf.out ad hx
        refine ⟨cur, ?_⟩
        rw [heap_setCell_other _ _ _ _ (by show ad.block ≠ w.heap.size; omega), heap_setCell_other _ _ _ _ (by show ad.block ≠ w.heap.size; omega), hbc.block _ (Array.getElem?_eq_some_iff.1 h2).1]
        exact h2
      replace hxw := Lib.hid hxw
      replace hx3 := Lib.hid hx3
      replace hbw := Lib.hid hbw
      replace hrow3 := Lib.hid hrow3
      replace hbc := Lib.hid hbc
      by_cases hq : sm = q4
      · have hR' : R = ((k8, p), 9 + (m : Int), 0) := by rw [hR.out, if_pos hq]
        subst hR'
        have hne : ((q4 : Int) != (sm : Int)) = false := by rw [bne_eq_false_iff_eq]; omega
        have hfin : ∀ w6, Below w.heap.size w w6 → Row w6 x p → (∀ ad, x = some ad → ∃ cur, w6.heap[ad.block]? = some (.cells cur 5 (0, 0))) → NextP w ((k8, p), 9 + (m : Int), 0) (.returned (.tuple #[.agg #[.int .i64 (k8 : Int), .slice x m c2], .int .i64 (9 + (m : Int)), .int .i64 0])) w6 :=
          fun w6 h1 h2 h3 => ⟨x, c2, by rw [hp.out], h2, h1, (fun h => by rw [hp.out]; exact hnone2.out h), by rw [hp.out]; exact hle2, hmx2, h3⟩
        replace hfin := Lib.hid hfin
        clear hR
        go_wp2_with fail
        exact bodyPost_ret (v := .tuple #[.agg #[.int .i64 (k8 : Int), .slice x m c2], .int .i64 (9 + (m : Int)), .int .i64 0]) (by simp [results, Try.results13, go_sem, x0, x1]) rfl (hfin.out _ ((hbw.out.setCell (Nat.le_refl _) _).setCell (Nat.le_refl _) _) (row_set' (row_set' hrow3.out _ _ hxn.out) _ _ hxn.out) (hxw.out _ _))
      · have hR' : R = ((0, []), 0, 9) := by rw [hR.out, if_neg hq]
        subst hR'
        have hne : ((q4 : Int) != (sm : Int)) = true := by rw [bne_iff_ne]; omega
        have hfin := Lib.hid (fun w' => none_fin w w' 9)
        clear hR
        go_wp2_with fail
        exact bodyPost_ret (v := .tuple #[.agg #[.int .i64 0, .slice none 0 0], .int .i64 0, .int .i64 9]) (by simp [results, Try.results13, go_sem, x0, x1]) rfl (hfin.out _ ((hbw.out.setCell (Nat.le_refl _) _).setCell (Nat.le_refl _) _))
  · have hnews : ∀ w', Below w.heap.size w w' → ∀ ad, some (⟨b, off + 9, none⟩ : Addr) = some ad → ∀ j u, (u8s p)[j]? = some u → w'.cell? (ad.add j) = some u := by
      intro w' hb ad had
      exact (hrp.out _ hb).news had
    replace hnews := Lib.hid hnews
    go_enter Try.func13, Try.ntmps13
    go_wp2_with (first | (go_at_call 24; refine (N.out _ hB.out).mono ?_; rintro e w' ⟨rfl, k, rfl⟩) | (at_builtin; refine append_src rfl (.const (.slice none 0 0)) (.tmp 25) 22 rfl (w.heap.size + 1) 5 i0 (.int .u8 0) 1 1 Try.underlying22 hi.out hz0.out hz1.out hz2.out rfl (by decide) (.slice none 0 0) 0 [] rfl (hown.out _) (some ⟨b, off + 9, none⟩) (9 + m - 9) (cap - 9) (u8s p) rfl (fun h => by cases h) hl2.out (hnews.out _ (below_drewN hB.out k)) (u8s_one p) ?c4 ?c5 (by show w.heap.size + 1 ≤ (w.alloc _).heap.size; simp) ?_))
    case c4 => unfold maxLen; omega
    case c5 => omega
    intro v' w2 ho g2
    have ho' : w2.ownsRow (w.heap.size + 1) 5 1 v' m (u8s p) := by
      have e1 : 9 + m - 9 = m := by omega
      simpa only [e1, Nat.zero_add, List.nil_append] using ho
    have hb2 := (below_drewN hB.out k).grown g2 (below_drewN hB.out k).size (fun k h => by cases h)
    have hx2 : w2.heap[w.heap.size]? = some (.cells #[.int .i64 0, .slice none 0 0] 29 (0, 0)) := by
      rw [g2.block _ (by show w.heap.size < (w.alloc _).heap.size; simp) (by intro h; cases h)]; exact heap_alloc_new w _
    obtain ⟨x, c2, rfl, hnone2, hle2, hmx2⟩ := own_len ho'
    obtain ⟨x', c2', he2, _, hrow2⟩ := own_row ho' hpall.out (by rw [hp.out]; omega)
    cases he2
    have hxn : ∀ g o, x = some ⟨g, o, none⟩ → g ≠ w.heap.size := by
      intro g o hx
      have := own_from ho' g (by rw [hx]; rfl)
      omega
    have hxf : ∀ ad, x = some ad → w.heap.size + 1 ≤ ad.block ∧ ∃ cur, w2.heap[ad.block]? = some (.cells cur 5 (0, 0)) := by
      intro ad hx
      refine ⟨own_from ho' ad.block (by rw [hx]; rfl), ?_⟩
      rcases ho'.2 with ⟨hv, _⟩ | ⟨g, c3, cur, hv, _, hh, _⟩
      · rw [hx] at hv; cases hv
      · rw [hx] at hv; cases hv; exact ⟨cur, hh⟩
    replace hxn := Lib.hid hxn
    replace hxf := Lib.hid hxf
    clear ho ho' g2 hnews hl2
    have S21 := Lib.hid (fun w' (hb : Below w2.heap.size w2 w') => rsum_walk k8 x p c2 m w' hk8 (hrow2.below hb) hp.out (by omega) (fun h => (hnone2 h).2))
    have N24 := Lib.hid (fun w' (hb : Below w2.heap.size w2 w') => N4.out w' (hb2.trans (hb.mono hb2.size)))
    have hc82 := fun w' (hb : Below w2.heap.size w2 w') => hc8.out w' (hb2.trans (hb.mono hb2.size))
    have hcr := hc82 _ (Below.refl _ _)
    have hblt : b < w2.heap.size := block_lt_of_cell hcr
    replace hc82 := Lib.hid hc82
    replace hx2 := Lib.hid hx2
    replace hb2 := Lib.hid hb2
    replace hrow2 := Lib.hid hrow2
    replace hnone2 := Lib.hid hnone2
    have h8 : (8 : Int) < (n : Int) := by omega
    have h44 : (4 : Int) ≤ (n : Int) := by omega
    have hsl : CM.more 0 (k8 :: p) < 4294967296 := rmore_lt _ (fun c hc => by rcases List.mem_cons.1 hc with rfl | hc; exact hk8; exact hpall.out c hc)
    generalize hS : CM.more 0 (k8 :: p) = sm at *
    have hwr : IntKind.i64.wrap (sm : Int) = sm := IntWalk.i64_in _ (by omega)
    clear hS
    go_wp2_with fail
    go_cut [36] (fun s36 wx => s36 = .bool ((q4 : Int) != (sm : Int)) ∧ Below w2.heap.size w2 wx)
    case first =>
      go_region_with (first | (go_at_call 24; refine (N24.out _ ?_).mono ?_; exact (Below.refl _ _).drew; rintro e w' ⟨rfl, k, rfl⟩) | (go_at_call 21; refine (S21.out _ ?_).mono ?_; exact below_drewN (Below.refl _ _) _; rintro e w3 ⟨rfl, hb3⟩; have hb4 := Lib.hid ((below_drewN (Below.refl w2.heap.size w2) (1 + k)).trans (hb3.mono (Nat.le_refl _))); clear hb3; have hc83 := hc82.out _ hb4.out))
      all_goals
        go_wp2_with fail
        go_meet
        exact ⟨rfl, hb4.out⟩
    case rest =>
      obtain ⟨rfl, hbc⟩ := hcut
      have hbw : Below w.heap.size w wc := hb2.out.trans (hbc.mono hb2.out.size)
      have hx3 : wc.heap[w.heap.size]? = some (.cells #[.int .i64 0, .slice none 0 0] 29 (0, 0)) := by rw [hbc.block _ (Array.getElem?_eq_some_iff.1 hx2.out).1]; exact hx2.out
      have hc8d := hc82.out _ hbc
      have hrow3 := hrow2.out.below hbc
      have x0 : wc.cell? ⟨w.heap.size, 0, none⟩ = some (.int .i64 0) := by rw [cell_of_row _ _ _ _ _ _ hx3]; rfl
      have x1 : wc.cell? ⟨w.heap.size, 1, none⟩ = some (.slice none 0 0) := by rw [cell_of_row _ _ _ _ _ _ hx3]; rfl
      have z0 : wc.frozen? ⟨w.heap.size, 0, none⟩ = false := frozen_of_row _ _ _ _ _ hx3
      have z1 : wc.frozen? ⟨w.heap.size, 1, none⟩ = false := frozen_of_row _ _ _ _ _ hx3
      have hxw : ∀ (v1 v2 : Value) ad, x = some ad → ∃ cur, ((wc.setCell ⟨w.heap.size, 0, none⟩ v1).setCell ⟨w.heap.size, 1, none⟩ v2).heap[ad.block]? = some (.cells cur 5 (0, 0)) := by
        intro v1 v2 ad hx
        obtain ⟨h1, cur, h2⟩ := hxf.out ad hx
        refine ⟨cur, ?_⟩
        rw [heap_setCell_other _ _ _ _ (by show ad.block ≠ w.heap.size; omega), heap_setCell_other _ _ _ _ (by show ad.block ≠ w.heap.size; omega), hbc.block _ (Array.getElem?_eq_some_iff.1 h2).1]
        exact h2
      replace hxw := Lib.hid hxw
      replace hx3 := Lib.hid hx3
      replace hbw := Lib.hid hbw
      replace hrow3 := Lib.hid hrow3
      replace hbc := Lib.hid hbc
      by_cases hq : sm = q4
      · have hR' : R = ((k8, p), 9 + (m : Int), 0) := by rw [hR.out, if_pos hq]
        subst hR'
        have hne : ((q4 : Int) != (sm : Int)) = false := by rw [bne_eq_false_iff_eq]; omega
        have hfin : ∀ w6, Below w.heap.size w w6 → Row w6 x p → (∀ ad, x = some ad → ∃ cur, w6.heap[ad.block]? = some (.cells cur 5 (0, 0))) → NextP w ((k8, p), 9 + (m : Int), 0) (.returned (.tuple #[.agg #[.int .i64 (k8 : Int), .slice x m c2], .int .i64 (9 + (m : Int)), .int .i64 0])) w6 :=
          fun w6 h1 h2 h3 => ⟨x, c2, by rw [hp.out], h2, h1, (fun h => by rw [hp.out]; exact hnone2.out h), by rw [hp.out]; exact hle2, hmx2, h3⟩
        replace hfin := Lib.hid hfin
        clear hR
        go_wp2_with fail
        exact bodyPost_ret (v := .tuple #[.agg #[.int .i64 (k8 : Int), .slice x m c2], .int .i64 (9 + (m : Int)), .int .i64 0]) (by simp [results, Try.results13, go_sem, x0, x1]) rfl (hfin.out _ ((hbw.out.setCell (Nat.le_refl _) _).setCell (Nat.le_refl _) _) (row_set' (row_set' hrow3.out _ _ hxn.out) _ _ hxn.out) (hxw.out _ _))
      · have hR' : R = ((0, []), 0, 9) := by rw [hR.out, if_neg hq]
        subst hR'
        have hne : ((q4 : Int) != (sm : Int)) = true := by rw [bne_iff_ne]; omega
        have hfin := Lib.hid (fun w' => none_fin w w' 9)
        clear hR
        go_wp2_with fail
        exact bodyPost_ret (v := .tuple #[.agg #[.int .i64 0, .slice none 0 0], .int .i64 0, .int .i64 9]) (by simp [results, Try.results13, go_sem, x0, x1]) rfl (hfin.out _ ((hbw.out.setCell (Nat.le_refl _) _).setCell (Nat.le_refl _) _))
end Go.Proofs.Ytmmpcpdokgahcaa
