/- The walks of crc and of its reference: matrices, zeros. -/
import Derived.Test.YtenfloaebhjolaaWalks2
namespace Go.Proofs.Ytenfloaebhjolaa
open Go.RowKit CM

def mat (f : Nat → Nat) : Array Value := (Array.range 32).map fun j => .int .u32 ((f j : Nat) : Int)
theorem mat_size (f : Nat → Nat) : (mat f).size = 32 := by unfold mat; simp
theorem mat_at (f : Nat → Nat) (j : Nat) (h : j < 32) : (mat f)[j]? = some (.int .u32 ((f j : Nat) : Int)) := by unfold mat; simp [h]
theorem run_index (f : Nat → Nat) (k : Nat) (w : World) (hk : k < 32) : Sem.run Try.prog (Instr.index 38 (.agg (mat f)) (.int .i64 (k : Int))) w = .ok (.int .u32 ((f k : Nat) : Int)) w := by
  have hs : (sizeOf 23).run Try.prog w = .ok 1 w := by kernel_rfl
  have hp : (part 23 (mat f) (k * 1)).run Try.prog w = .ok (.int .u32 ((f k : Nat) : Int)) w := by
    have := mat_at f k hk
    have ha : (isAgg 23).run Try.prog w = .ok false w := by kernel_rfl
    simp [part, ha, this]
  simp only [Instr.index, asIntOf, Sem.run_bind, Sem.run_pure, Result.andThen_ok, run_underlying Try.underlying38]
  rw [if_pos (by omega)]
  simp only [Sem.run_bind, hs, Result.andThen_ok, Int.toNat_natCast]
  exact hp
theorem times_lt (f : Nat → Nat) (s : Nat) (hf : ∀ j, j < 32 → f j < 4294967296) : ∀ k, k ≤ 32 → CM.times f s k < 4294967296 := by
  intro k
  induction k with
  | zero => intro _; show 0 < 4294967296; decide
  | succ k ih =>
    intro hk
    unfold CM.times
    split
    · exact Nat.xor_lt_two_pow (n := 32) (ih (by omega)) (hf k (by omega))
    · exact ih (by omega)
theorem info_mat (f : Nat → Nat) : (Try.prog.info? 38).map (·.size) = some (mat f).size := by rw [mat_size]; kernel_rfl
theorem times_walk (f : Nat → Nat) (s : Nat) (w : World) (hs : s < 4294967296) (hf : ∀ j, j < 32 → f j < 4294967296) :
    Calls Try.prog 20 #[.agg (mat f), .int .u32 (s : Int)] w fun e w' => e = .returned (.int .u32 ((CM.times f s 32 : Nat) : Int)) ∧ Below w.heap.size w w' := by
  have hs := Lib.hid hs
  have hf := Lib.hid hf
  have hM : (w.alloc (.cells (mat f) 38)).heap[w.heap.size]? = some (.cells (mat f) 38 (0, 0)) := heap_alloc_new w _
  have HM := Lib.hid hM
  clear hM
  go_enter Try.func20, Try.ntmps20
  go_wp2_with (with_reducible refine wpList_load_row rfl 38 (.tmp 2) rfl w.heap.size rfl 38 (mat f) (0, 0) _ HM.out Try.underlying38 rfl (info_mat _) ?_)
  go_loop [5, 9] (fun v i => ∃ k : Nat, k ≤ 32 ∧ i = .int .i64 k ∧ v = .int .u32 ((CM.times f s k : Nat) : Int)) (fun _ i => 32 - (intOf i).toNat)
  case atStart => exact ⟨0, Nat.zero_le _, rfl, rfl⟩
  case round =>
    obtain ⟨k, hk, rfl, rfl⟩ := hrel
    by_cases hlt : k < 32
    · have hix := fun w' => run_index f k w' hlt
      have hsk : s / 2 ^ k < 4294967296 := Nat.lt_of_le_of_lt (Nat.div_le_self _ _) hs.out
      have e1 : bits .and .u32 ((s : Int) / 2 ^ k) 1 = ((s / 2 ^ k % 2 : Nat) : Int) := by
        have := w_low (s / 2 ^ k) hsk
        rw [show ((s : Int) / 2 ^ k) = ((s / 2 ^ k : Nat) : Int) by simp]; exact this
      have et := times_lt f s hf.out k hk
      by_cases hb : s / 2 ^ k % 2 = 1
      · have e2 := w_xor _ _ et (hf.out k hlt)
        have e3 : CM.times f s (k + 1) = CM.times f s k ^^^ f k := if_pos hb
        have h1 : (bits .and .u32 ((s : Int) / 2 ^ k) 1 == 1) = true := by rw [e1, hb]; rfl
        rw [← e3] at e2
        clear e1 e3 et hsk hb
        go_wp2_with fail
        go_round
        case rel => exact ⟨k + 1, by omega, by go_num, rfl⟩
        case measure => simp [intOf]; omega
      · have e3 : CM.times f s (k + 1) = CM.times f s k := if_neg hb
        have h1 : (bits .and .u32 ((s : Int) / 2 ^ k) 1 == 1) = false := by
          rw [e1, beq_eq_false_iff_ne]; omega
        have e3 := Lib.hid e3
        clear e1 et hsk hb
        go_wp2_with fail
        go_round
        case rel => exact ⟨k + 1, by omega, by go_num, by rw [e3.out]⟩
        case measure => simp [intOf]; omega
    · obtain rfl : k = 32 := by omega
      go_wp2_with fail
      go_ret
      exact ⟨rfl, (Below.refl _ _).alloc (Nat.le_refl _) _⟩
@[reducible] def Z32 : Array Value := #[.int .u32 0, .int .u32 0, .int .u32 0, .int .u32 0, .int .u32 0, .int .u32 0, .int .u32 0, .int .u32 0, .int .u32 0, .int .u32 0, .int .u32 0, .int .u32 0, .int .u32 0, .int .u32 0, .int .u32 0, .int .u32 0, .int .u32 0, .int .u32 0, .int .u32 0, .int .u32 0, .int .u32 0, .int .u32 0, .int .u32 0, .int .u32 0, .int .u32 0, .int .u32 0, .int .u32 0, .int .u32 0, .int .u32 0, .int .u32 0, .int .u32 0, .int .u32 0]
/-- a row being filled: the first k are f's -/
def Fills (f : Nat → Nat) (k : Nat) (X : Array Value) : Prop := X.size = 32 ∧ ∀ j, j < k → X[j]? = some (.int .u32 ((f j : Nat) : Int))
theorem Fills.step {f : Nat → Nat} {k : Nat} {X : Array Value} (h : Fills f k X) (hk : k < 32) : Fills f (k + 1) (X.setIfInBounds k (.int .u32 ((f k : Nat) : Int))) := by
  obtain ⟨h1, h2⟩ := h
  refine ⟨by simp [h1], fun j hj => ?_⟩
  by_cases hjk : j = k
  · subst hjk; rw [Array.getElem?_setIfInBounds_self_of_lt (by omega)]
  · rw [Array.getElem?_setIfInBounds_ne (by omega)]; exact h2 j (by omega)
theorem Fills.whole {f : Nat → Nat} {X : Array Value} (h : Fills f 32 X) : X = mat f := by
  obtain ⟨h1, h2⟩ := h
  apply Array.ext_getElem?
  intro i
  by_cases hi : i < 32
  · rw [h2 i hi, mat_at f i hi]
  · rw [Array.getElem?_eq_none (by omega), Array.getElem?_eq_none (by rw [mat_size]; omega)]
theorem mat_one (f : Nat → Nat) : (mat f).all (·.oneCell') = true := by
  unfold mat
  rw [Array.all_eq_true_iff_forall_mem]
  intro v hv
  obtain ⟨j, _, rfl⟩ := Array.mem_map.1 hv
  rfl
theorem z_mat (f : Nat → Nat) : Z32.size = (mat f).size := by rw [mat_size]; rfl
theorem slice_row (w : World) (c : Nat) (hc : c < 256) : Row (w.alloc (.cells #[.int .u8 (c : Int)] 5)) (some ⟨w.heap.size, 0, none⟩) [c] := by
  refine ⟨fun d hd => ?_, by simp, .inr ⟨_, _, rfl, fun i hi => ?_⟩⟩
  · rw [List.mem_singleton.1 hd]; exact hc
  · have hi' : i = 0 := by simp at hi; exact hi
    subst hi'
    rw [Nat.zero_add, cell_of_row _ w.heap.size _ _ _ _ (heap_alloc_new w _)]; rfl
theorem pow_lt {k : Nat} (hk : k < 32) : 2 ^ k < 4294967296 := Nat.pow_lt_pow_right (by decide) (show k < 32 from hk)
theorem zero_call (k : Nat) (w : World) (hk : k < 32) : Calls Try.prog 17 #[.int .u32 (2 ^ k), .slice (some ⟨w.heap.size, 0, none⟩) 1 1] (w.alloc (.cells #[.int .u8 0] 5)) fun e w' => e = .returned (.int .u32 ((bitn 8 (2 ^ k) : Nat) : Int)) ∧ Below (w.heap.size + 1) (w.alloc (.cells #[.int .u8 0] 5)) w' := by
  have R := run (2 ^ k) (some ⟨w.heap.size, 0, none⟩) [0] 1 (w.alloc (.cells #[.int .u8 0] 5)) (pow_lt hk) (slice_row w 0 (by decide))
  rw [World.size_alloc, show ((2 ^ k : Nat) : Int) = (2 : Int) ^ k by simp, show [0].length = 1 from rfl, show CM.run (2 ^ k) [0] = bitn 8 (2 ^ k) by simp [CM.run]] at R
  exact R
theorem zero_walk (w : World) : Calls Try.prog 19 #[] w fun e w' => e = .returned (.agg (mat fun i => bitn 8 (2 ^ i))) ∧ Below w.heap.size w w' := by
  go_enter Try.func19, Try.ntmps19
  go_wp2_with fail
  go_loopw [3] (fun i wr => ∃ (k : Nat) (X : Array Value), k ≤ 32 ∧ i = .int .i64 k ∧ Fills (fun i => bitn 8 (2 ^ i)) k X ∧ wr.heap[w.heap.size + 1]? = some (.cells X 38 (0, 0)) ∧ wr.heap[w.heap.size]? = some (.cells Z32 38 (0, 0)) ∧ Below w.heap.size w wr ∧ w.heap.size + 2 ≤ wr.heap.size) (fun i _ => 32 - (intOf i).toNat)
  case atStart => exact ⟨0, Z32, by omega, rfl, ⟨rfl, fun j h => by omega⟩, heap_alloc2_new w _ _, heap_alloc2_old w _ _, (((Below.refl _ _).alloc (Nat.le_refl _) _).alloc (by simp) _), by simp⟩
  case round =>
    obtain ⟨k, X, hk, rfl, hX, hx, hz, hb, hsz⟩ := hrel
    replace hX := Lib.hid hX
    replace hx := Lib.hid hx
    replace hz := Lib.hid hz
    replace hb := Lib.hid hb
    replace hsz := Lib.hid hsz
    by_cases hlt : k < 32
    · have h4 : decide ((k : Int) < 32) = true := decide_eq_true (by omega)
      have hlt' := Lib.hid hlt
      have e1 : (2 : Int) ^ k % 4294967296 = (2 : Int) ^ k := by
        have := pow_lt hlt
        have e : (2 : Int) ^ k = ((2 ^ k : Nat) : Int) := by simp
        rw [e]
        generalize 2 ^ k = p at *
        omega
      go_wp2_with fail
      with_reducible refine (zero_call k wr hlt'.out).mono ?_
      rintro e w2 ⟨rfl, hb2⟩
      have hs2 := hb2.size
      rw [World.size_alloc] at hs2
      have hx2 : w2.heap[w.heap.size + 1]? = some (.cells X 38 (0, 0)) := by
        rw [hb2.block _ (by have := hsz.out; omega), Below.heap_alloc wr _ _ (by have := hsz.out; omega)]; exact hx.out
      have hz2 : w2.heap[w.heap.size]? = some (.cells Z32 38 (0, 0)) := by
        rw [hb2.block _ (by have := hsz.out; omega), Below.heap_alloc wr _ _ (by have := hsz.out; omega)]; exact hz.out
      have hb3 : Below w.heap.size w w2 := (hb.out.alloc (by have := hsz.out; omega) _).trans (hb2.mono (by have := hsz.out; omega))
      have hsz2 : w.heap.size + 2 ≤ w2.heap.size := by have := hsz.out; omega
      obtain ⟨v, hc⟩ : ∃ v, w2.cell? ⟨w.heap.size + 1, k, none⟩ = some v := by
        rw [cell_of_row w2 _ k X 38 (0, 0) hx2]
        exact ⟨_, Array.getElem?_eq_getElem (by have := hX.out.1; have := hlt'.out; omega)⟩
      have hf : w2.frozen? ⟨w.heap.size + 1, k, none⟩ = false := frozen_of_row w2 _ k X 38 hx2
      replace hx2 := Lib.hid hx2
      replace hz2 := Lib.hid hz2
      replace hb3 := Lib.hid hb3
      replace hsz2 := Lib.hid hsz2
      clear hb2 hs2
      go_wp2_with fail
      go_roundw
      case rel =>
        refine ⟨k + 1, _, by have := hlt'.out; omega, by go_num, hX.out.step hlt'.out, heap_setCell_same w2 _ k X 38 _ hx2.out, ?_, ?_, ?_⟩
        · rw [heap_setCell_other _ _ _ _ (by show w.heap.size ≠ w.heap.size + 1; omega)]; exact hz2.out
        · exact hb3.out.setCell (by show _ ≤ w.heap.size + 1; omega) _
        · rw [World.size_setCell]; exact hsz2.out
      case measure => simp [intOf]; omega
    · obtain rfl : k = 32 := by omega
      obtain rfl := hX.out.whole
      go_wp2_with (first | (with_reducible refine wpList_load_row rfl 38 (.tmp 1) rfl (w.heap.size + 1) rfl 38 (mat fun i => bitn 8 (2 ^ i)) (0, 0) _ hx.out Try.underlying38 rfl (info_mat _) ?_) | (with_reducible refine wpList_store_row rfl 38 (.tmp 0) (.tmp 13) rfl w.heap.size (mat fun i => bitn 8 (2 ^ i)) rfl rfl 38 Z32 hz.out (info_mat _) (z_mat _) (mat_one _) ?_))
      exact bodyPost_ret (v := .agg (mat fun i => bitn 8 (2 ^ i))) (results_cell_row (fn := Try.f19) (p := 0) (by kernel_rfl) _ _ w.heap.size 38 _ (0, 0) _ rfl (setRow_heap _ _ _ _ _ _ hz.out) Try.underlying38 rfl (info_mat _)) rfl ⟨rfl, below_setRow hb.out (Nat.le_refl _) _⟩
end Go.Proofs.Ytenfloaebhjolaa
