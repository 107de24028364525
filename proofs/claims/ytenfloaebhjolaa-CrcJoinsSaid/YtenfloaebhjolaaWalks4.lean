/- The walks of crc: a matrix done twice, zeros. -/
import Derived.Test.YtenfloaebhjolaaWalks3
namespace Go.Proofs.Ytenfloaebhjolaa
open Go.RowKit CM

theorem twice_walk (f : Nat → Nat) (w : World) (hf : ∀ j, j < 32 → f j < 4294967296) :
    Calls Try.prog 21 #[.agg (mat f)] w fun e w' => e = .returned (.agg (mat fun i => CM.times f (f i) 32)) ∧ Below w.heap.size w w' := by
  replace hf := Lib.hid hf
  generalize hg : (fun i => CM.times f (f i) 32) = g
  have hgk : ∀ k, g k = CM.times f (f k) 32 := fun k => by rw [← hg]
  replace hgk := Lib.hid hgk
  replace hg := Lib.hid hg
  have hM : (((w.alloc (.cells (mat f) 38)).alloc (.cells Z32 38)).alloc (.cells Z32 38)).heap[w.heap.size]? = some (.cells (mat f) 38 (0, 0)) := by
    rw [Below.heap_alloc _ _ _ (by simp; omega), Below.heap_alloc _ _ _ (by simp)]; exact heap_alloc_new w _
  replace hM := Lib.hid hM
  have hR : (((w.alloc (.cells (mat f) 38)).alloc (.cells Z32 38)).alloc (.cells Z32 38)).heap[w.heap.size + 1]? = some (.cells Z32 38 (0, 0)) := by
    rw [Below.heap_alloc _ _ _ (by simp)]; exact heap_alloc2_new w _ _
  replace hR := Lib.hid hR
  have hO : (((w.alloc (.cells (mat f) 38)).alloc (.cells Z32 38)).alloc (.cells Z32 38)).heap[w.heap.size + 2]? = some (.cells Z32 38 (0, 0)) := by
    have := heap_alloc_new ((w.alloc (.cells (mat f) 38)).alloc (.cells Z32 38)) (.cells Z32 38)
    simpa using this
  replace hO := Lib.hid hO
  have hB : Below w.heap.size w (((w.alloc (.cells (mat f) 38)).alloc (.cells Z32 38)).alloc (.cells Z32 38)) :=
    (((Below.refl _ _).alloc (Nat.le_refl _) _).alloc (by simp) _).alloc (by simp; omega) _
  replace hB := Lib.hid hB
  have hS : w.heap.size + 3 ≤ (((w.alloc (.cells (mat f) 38)).alloc (.cells Z32 38)).alloc (.cells Z32 38)).heap.size := by simp
  replace hS := Lib.hid hS
  go_enter Try.func21, Try.ntmps21
  go_wp2_with (with_reducible refine wpList_load_row rfl 38 (.tmp 1) rfl w.heap.size rfl 38 (mat f) (0, 0) _ hM.out Try.underlying38 rfl (info_mat f) ?_)
  go_loopw [7] (fun i wr => ∃ (k : Nat) (X : Array Value), k ≤ 32 ∧ i = .int .i64 k ∧ Fills g k X ∧ wr.heap[w.heap.size + 2]? = some (.cells X 38 (0, 0)) ∧ wr.heap[w.heap.size + 1]? = some (.cells Z32 38 (0, 0)) ∧ wr.heap[w.heap.size]? = some (.cells (mat f) 38 (0, 0)) ∧ Below w.heap.size w wr ∧ w.heap.size + 3 ≤ wr.heap.size) (fun i _ => 32 - (intOf i).toNat)
  case atStart => exact ⟨0, Z32, by omega, rfl, ⟨rfl, fun j h => by omega⟩, hO.out, hR.out, hM.out, hB.out, hS.out⟩
  case round =>
    clear hM hR hO hB hS
    obtain ⟨k, X, hk, rfl, hX, hx, hz, hm, hb, hsz⟩ := hrel
    replace hX := Lib.hid hX
    replace hx := Lib.hid hx
    replace hz := Lib.hid hz
    replace hm := Lib.hid hm
    replace hb := Lib.hid hb
    replace hsz := Lib.hid hsz
    by_cases hlt : k < 32
    · have h4 : decide ((k : Int) < 32) = true := decide_eq_true (by omega)
      have hix := fun w' => run_index f k w' hlt
      have hlt' := Lib.hid hlt
      have T := Lib.hid (fun w => times_walk f (f k) w (hf.out k hlt) hf.out)
      rw [← hgk.out k] at T
      go_wp2_with (first | (with_reducible refine wpList_load_row rfl 38 (.tmp 1) rfl w.heap.size rfl 38 (mat f) (0, 0) _ hm.out Try.underlying38 rfl (info_mat f) ?_))
      refine (T.out wr).mono ?_
      rintro e w2 ⟨rfl, hb2⟩
      have hs2 := hb2.size
      have hx2 : w2.heap[w.heap.size + 2]? = some (.cells X 38 (0, 0)) := by
        rw [hb2.block _ (by have := hsz.out; omega)]; exact hx.out
      have hz2 : w2.heap[w.heap.size + 1]? = some (.cells Z32 38 (0, 0)) := by
        rw [hb2.block _ (by have := hsz.out; omega)]; exact hz.out
      have hm2 : w2.heap[w.heap.size]? = some (.cells (mat f) 38 (0, 0)) := by
        rw [hb2.block _ (by have := hsz.out; omega)]; exact hm.out
      have hb3 : Below w.heap.size w w2 := hb.out.trans (hb2.mono (by have := hsz.out; omega))
      have hsz2 : w.heap.size + 3 ≤ w2.heap.size := by have := hsz.out; omega
      obtain ⟨v, hc⟩ : ∃ v, w2.cell? ⟨w.heap.size + 2, k, none⟩ = some v := by
        rw [cell_of_row w2 _ k X 38 (0, 0) hx2]
        exact ⟨_, Array.getElem?_eq_getElem (by have := hX.out.1; have := hlt'.out; omega)⟩
      have hf : w2.frozen? ⟨w.heap.size + 2, k, none⟩ = false := frozen_of_row w2 _ k X 38 hx2
      replace hx2 := Lib.hid hx2
      replace hz2 := Lib.hid hz2
      replace hm2 := Lib.hid hm2
      replace hb3 := Lib.hid hb3
      replace hsz2 := Lib.hid hsz2
      clear hb2 hs2
      go_wp2_with fail
      go_roundw
      case rel =>
        refine ⟨k + 1, _, by have := hlt'.out; omega, by go_num, hX.out.step hlt'.out, heap_setCell_same w2 _ k X 38 _ hx2.out, ?_, ?_, ?_, ?_⟩
        · rw [heap_setCell_other _ _ _ _ (by show w.heap.size + 1 ≠ w.heap.size + 2; omega)]; exact hz2.out
        · rw [heap_setCell_other _ _ _ _ (by show w.heap.size ≠ w.heap.size + 2; omega)]; exact hm2.out
        · exact hb3.out.setCell (by show _ ≤ w.heap.size + 2; omega) _
        · rw [World.size_setCell]; exact hsz2.out
      case measure => simp [intOf]; omega
    · obtain rfl : k = 32 := by omega
      obtain rfl := hX.out.whole
      go_wp2_with (first | (with_reducible refine wpList_load_row rfl 38 (.tmp 3) rfl (w.heap.size + 2) rfl 38 (mat g) (0, 0) _ hx.out Try.underlying38 rfl (info_mat _) ?_) | (with_reducible refine wpList_store_row rfl 38 (.tmp 2) (.tmp 17) rfl (w.heap.size + 1) (mat g) rfl rfl 38 Z32 hz.out (info_mat _) (z_mat _) (mat_one _) ?_))
      exact bodyPost_ret (v := .agg (mat g)) (results_cell_row (fn := Try.f21) (p := 2) (by kernel_rfl) _ _ (w.heap.size + 1) 38 _ (0, 0) _ rfl (setRow_heap _ _ _ _ _ _ hz.out) Try.underlying38 rfl (info_mat _)) rfl ⟨rfl, below_setRow hb.out (by omega) _⟩
def fj (j i : Nat) : Nat := bitn (8 * 2 ^ j) (2 ^ i)
theorem fj_lt (j i : Nat) (h : i < 32) : fj j i < 4294967296 := bitn_lt _ _ (pow_lt h)
theorem fj_times (j s : Nat) (hs : s < 4294967296) : CM.times (fj j) s 32 = bitn (8 * 2 ^ j) s := times_all _ s hs
theorem fj_twice (j : Nat) : mat (fun i => CM.times (fj j) (fj j i) 32) = mat (fj (j + 1)) := by
  unfold mat
  apply Array.ext
  · simp
  · intro i h1 h2
    simp at h1 ⊢
    have h3 : i < 32 := h1
    rw [fj_times j _ (fj_lt j i h3)]
    unfold fj
    rw [← bitn_add, Nat.pow_succ]
    congr 2
    omega
theorem w_low64 (q : Nat) (h : q < 9223372036854775808) : bits .and .i64 (q : Int) 1 = ((q % 2 : Nat) : Int) := by
  have e : (BitVec.ofInt IntKind.i64.bits (q : Int) &&& BitVec.ofInt IntKind.i64.bits 1).toNat = q % 2 := by
    show (BitVec.ofInt 64 (q : Int) &&& BitVec.ofNat 64 1).toNat = _
    rw [BitVec.ofInt_natCast, BitVec.toNat_and, BitVec.toNat_ofNat, BitVec.toNat_ofNat, Nat.mod_eq_of_lt (show q < 2 ^ 64 by omega)]
    exact Nat.and_one_is_mod q
  unfold bits
  simp only [e]
  have h2 : q % 2 = 0 ∨ q % 2 = 1 := by omega
  rcases h2 with h2 | h2 <;> rw [h2] <;> decide
def sj (n s j : Nat) : Nat := bitn (8 * (n % 2 ^ j)) s
theorem alloc_setRow' {w : World} {z cs : Array Value} {t : TypeId} (g : Nat) (h : g = w.heap.size) : (w.alloc (.cells z t)).setRow g cs = w.alloc (.cells cs t) := by rw [h, alloc_setRow]
theorem sj_one (n s j : Nat) (h : n / 2 ^ j % 2 = 1) (hs : s < 4294967296) : CM.times (fj j) (sj n s j) 32 = sj n s (j + 1) := by
  unfold sj
  rw [fj_times j _ (bitn_lt _ _ hs), ← bitn_add, Nat.pow_succ, Nat.mod_mul, h, Nat.mul_one, Nat.mul_add]
theorem sj_zero (n s j : Nat) (h : ¬ n / 2 ^ j % 2 = 1) : sj n s (j + 1) = sj n s j := by
  unfold sj
  rw [Nat.pow_succ, Nat.mod_mul, show n / 2 ^ j % 2 = 0 by omega, Nat.mul_zero, Nat.add_zero]
theorem sj_end (n s j : Nat) (h : n / 2 ^ j = 0) : sj n s j = bitn (8 * n) s := by
  unfold sj
  rw [Nat.mod_eq_of_lt]
  rcases (Nat.div_eq_zero_iff).1 h with h | h
  · have := Nat.two_pow_pos j; omega
  · exact h
theorem zeros_big (s : Int) (n : Int) (w : World) (h : n < 0 ∨ 1048576 < n) :
    Calls Try.prog 12 #[.int .u32 s, .int .i64 n] w fun e w' => e = .returned (.int .u32 s) ∧ Below w.heap.size w w' := by
  by_cases h1 : n < 0
  · have h2 : decide (n < 0) = true := decide_eq_true h1
    go_enter Try.func12, Try.ntmps12
    go_wp2_with fail
    go_ret
    exact ⟨rfl, Below.refl _ _⟩
  · have h2 : decide (n < 0) = false := decide_eq_false h1
    have h3 : decide (1048576 < n) = true := decide_eq_true (by omega)
    go_enter Try.func12, Try.ntmps12
    go_wp2_with fail
    go_ret
    exact ⟨rfl, Below.refl _ _⟩
set_option maxHeartbeats 400000 in
theorem zeros (s n : Nat) (w : World) (hs : s < 4294967296) (hn : n ≤ 1048576) :
    Calls Try.prog 12 #[.int .u32 (s : Int), .int .i64 (n : Int)] w fun e w' => e = .returned (.int .u32 ((bitn (8 * n) s : Nat) : Int)) ∧ Below w.heap.size w w' := by
  have h2 : decide ((n : Int) < 0) = false := decide_eq_false (by omega)
  have h3 : decide (1048576 < (n : Int)) = false := decide_eq_false (by omega)
  replace hs := Lib.hid hs
  go_enter Try.func12, Try.ntmps12
  go_wp2_with fail
  refine (zero_walk w).mono ?_
  rintro e w1 ⟨rfl, hb1⟩
  replace hb1 := Lib.hid hb1
  have hh : (w1.alloc (.cells Z32 38)).heap[w1.heap.size]? = some (.cells Z32 38 (0, 0)) := heap_alloc_new w1 _
  replace hh := Lib.hid hh
  rw [show (mat fun i => bitn 8 (2 ^ i)) = mat (fj 0) from rfl]
  go_wp2_with (first | (with_reducible refine wpList_store_row rfl 38 (.tmp 5) (.tmp 13) rfl w1.heap.size (mat (fj 0)) rfl rfl 38 Z32 hh.out (info_mat _) (z_mat _) (mat_one _) ?_; rw [alloc_setRow]))
  simp only [Act.put]
  go_loopw [0, 1, 5] (fun v q p wr => ∃ (j b : Nat), q = .int .i64 ((n / 2 ^ j : Nat) : Int) ∧ v = .int .u32 ((sj n s j : Nat) : Int) ∧ p = .pointer (some ⟨b, 0, none⟩) ∧ wr.heap[b]? = some (.cells (mat (fj j)) 38 (0, 0)) ∧ w.heap.size ≤ b ∧ Below w.heap.size w wr) (fun _ q _ _ => (intOf q).toNat)
  case atStart => exact ⟨0, w1.heap.size, by simp, by simp [sj, Nat.mod_one, bitn], rfl, heap_alloc_new w1 _, hb1.out.size, hb1.out.alloc hb1.out.size _⟩
  case round =>
    clear hh hb1
    obtain ⟨j, b, rfl, rfl, rfl, hm, hB, hb⟩ := hrel
    have hq0 : n / 2 ^ j ≤ 1048576 := Nat.le_trans (Nat.div_le_self _ _) hn
    have hnext : n / 2 ^ (j + 1) = n / 2 ^ j / 2 := by rw [Nat.pow_succ, Nat.div_div_eq_div_mul]
    have hone := sj_one n s j
    have hzero := sj_zero n s j
    have hend := sj_end n s j
    have T := Lib.hid (fun w => times_walk (fj j) (sj n s j) w (bitn_lt _ _ hs.out) (fj_lt j))
    have W := Lib.hid (fun w => twice_walk (fj j) w (fj_lt j))
    rw [fj_twice] at W
    have hlow := w_low64 (n / 2 ^ j) (by omega)
    generalize hq : n / 2 ^ j = q at *
    replace hq := Lib.hid hq
    replace hnext := Lib.hid hnext
    replace hone := Lib.hid hone
    replace hzero := Lib.hid hzero
    replace hend := Lib.hid hend
    replace hm := Lib.hid hm
    replace hB := Lib.hid hB
    replace hb := Lib.hid hb
    have hblt : b < wr.heap.size := (Array.getElem?_eq_some_iff.1 hm.out).1
    replace hblt := Lib.hid hblt
    clear hn
    by_cases hlt : 0 < q
    · have h5 : decide (0 < (q : Int)) = true := decide_eq_true (by omega)
      replace hlt := Lib.hid hlt
      by_cases hodd : q % 2 = 1
      · have h6 : (bits .and .i64 (q : Int) 1 == 1) = true := by rw [hlow, hodd]; rfl
        replace hodd := Lib.hid hodd
        clear hlow
        go_wp2_with (with_reducible refine wpList_load_row rfl 38 (.tmp 5) rfl b rfl 38 (mat (fj j)) (0, 0) _ hm.out Try.underlying38 rfl (info_mat _) ?_)
        refine (T.out wr).mono ?_
        rintro e w2 ⟨rfl, hb2⟩
        rw [hone.out hodd.out hs.out]
        have hm2 : w2.heap[b]? = some (.cells (mat (fj j)) 38 (0, 0)) := by rw [hb2.block _ hblt.out]; exact hm.out
        have hb3 := hb.out.trans (hb2.mono hb.out.size)
        replace hm2 := Lib.hid hm2
        replace hb3 := Lib.hid hb3
        clear hb2
        go_wp2_with (with_reducible refine wpList_load_row rfl 38 (.tmp 5) rfl b rfl 38 (mat (fj j)) (0, 0) _ hm2.out Try.underlying38 rfl (info_mat _) ?_)
        refine (W.out w2).mono ?_
        rintro e w3 ⟨rfl, hb4⟩
        have hblt2 : b < w2.heap.size := (Array.getElem?_eq_some_iff.1 hm2.out).1
        have hm3 : w3.heap[b]? = some (.cells (mat (fj j)) 38 (0, 0)) := by rw [hb4.block _ hblt2]; exact hm2.out
        have hb5 := hb3.out.trans (hb4.mono hb3.out.size)
        replace hm3 := Lib.hid hm3
        have hm4 : (w3.setRow b (mat (fj (j + 1)))).heap[b]? = some (.cells (mat (fj (j + 1))) 38 (0, 0)) := setRow_heap _ _ _ _ _ _ hm3.out
        replace hm4 := Lib.hid hm4
        have hb6 := below_setRow hb5 hB.out (mat (fj (j + 1)))
        replace hb6 := Lib.hid hb6
        clear hb4 hb5 hblt2
        have hh2 : ((w3.setRow b (mat (fj (j + 1)))).alloc (.cells Z32 38)).heap[w3.heap.size]? = some (.cells Z32 38 (0, 0)) := by
          have := heap_alloc_new (w3.setRow b (mat (fj (j + 1)))) (.cells Z32 38)
          rw [size_setRow] at this; exact this
        replace hh2 := Lib.hid hh2
        go_wp2_with (first | (with_reducible refine wpList_store_row rfl 38 (.tmp 5) (.tmp 25) rfl b (mat (fj (j + 1))) rfl rfl 38 (mat (fj j)) hm3.out (info_mat _) (by rw [mat_size, mat_size]) (mat_one _) ?_) | (with_reducible refine wpList_load_row rfl 38 (.tmp 5) rfl b rfl 38 (mat (fj (j + 1))) (0, 0) _ hm4.out Try.underlying38 rfl (info_mat _) ?_) | (with_reducible refine wpList_store_row rfl 38 (.tmp 5) (.tmp 26) rfl w3.heap.size (mat (fj (j + 1))) rfl rfl 38 Z32 hh2.out (info_mat _) (z_mat _) (mat_one _) ?_; rw [alloc_setRow' _ (size_setRow _ _ _).symm]))
        go_roundw
        case rel => exact ⟨j + 1, w3.heap.size, by rw [hnext.out]; go_num, rfl, rfl, by rw [← size_setRow w3 b (mat (fj (j + 1)))]; exact heap_alloc_new _ _, Nat.le_trans hb6.out.size (by rw [size_setRow]; exact Nat.le_refl _), hb6.out.alloc hb6.out.size _⟩
        case measure => have := hlt.out; simp [intOf]; omega
      · have h6 : (bits .and .i64 (q : Int) 1 == 1) = false := by rw [hlow, beq_eq_false_iff_ne]; omega
        replace hodd := Lib.hid hodd
        clear hlow
        go_wp2_with (with_reducible refine wpList_load_row rfl 38 (.tmp 5) rfl b rfl 38 (mat (fj j)) (0, 0) _ hm.out Try.underlying38 rfl (info_mat _) ?_)
        refine (W.out wr).mono ?_
        rintro e w3 ⟨rfl, hb4⟩
        have hblt2 : b < wr.heap.size := (Array.getElem?_eq_some_iff.1 hm.out).1
        have hm3 : w3.heap[b]? = some (.cells (mat (fj j)) 38 (0, 0)) := by rw [hb4.block _ hblt2]; exact hm.out
        have hb5 := hb.out.trans (hb4.mono hb.out.size)
        replace hm3 := Lib.hid hm3
        have hm4 : (w3.setRow b (mat (fj (j + 1)))).heap[b]? = some (.cells (mat (fj (j + 1))) 38 (0, 0)) := setRow_heap _ _ _ _ _ _ hm3.out
        replace hm4 := Lib.hid hm4
        have hb6 := below_setRow hb5 hB.out (mat (fj (j + 1)))
        replace hb6 := Lib.hid hb6
        clear hb4 hb5 hblt2
        have hh2 : ((w3.setRow b (mat (fj (j + 1)))).alloc (.cells Z32 38)).heap[w3.heap.size]? = some (.cells Z32 38 (0, 0)) := by
          have := heap_alloc_new (w3.setRow b (mat (fj (j + 1)))) (.cells Z32 38)
          rw [size_setRow] at this; exact this
        replace hh2 := Lib.hid hh2
        go_wp2_with (first | (with_reducible refine wpList_store_row rfl 38 (.tmp 5) (.tmp 25) rfl b (mat (fj (j + 1))) rfl rfl 38 (mat (fj j)) hm3.out (info_mat _) (by rw [mat_size, mat_size]) (mat_one _) ?_) | (with_reducible refine wpList_load_row rfl 38 (.tmp 5) rfl b rfl 38 (mat (fj (j + 1))) (0, 0) _ hm4.out Try.underlying38 rfl (info_mat _) ?_) | (with_reducible refine wpList_store_row rfl 38 (.tmp 5) (.tmp 26) rfl w3.heap.size (mat (fj (j + 1))) rfl rfl 38 Z32 hh2.out (info_mat _) (z_mat _) (mat_one _) ?_; rw [alloc_setRow' _ (size_setRow _ _ _).symm]))
        go_roundw
        case rel => exact ⟨j + 1, w3.heap.size, by rw [hnext.out]; go_num, by rw [hzero.out hodd.out], rfl, by rw [← size_setRow w3 b (mat (fj (j + 1)))]; exact heap_alloc_new _ _, Nat.le_trans hb6.out.size (by rw [size_setRow]; exact Nat.le_refl _), hb6.out.alloc hb6.out.size _⟩
        case measure => have := hlt.out; simp [intOf]; omega
    · obtain rfl : q = 0 := by omega
      have e1 := hend.out rfl
      rw [e1]
      go_wp2_with fail
      go_ret
      exact ⟨rfl, hb.out⟩
end Go.Proofs.Ytenfloaebhjolaa
