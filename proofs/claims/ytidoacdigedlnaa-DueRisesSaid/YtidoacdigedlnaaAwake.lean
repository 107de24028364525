/- awake: timers go off in order. -/
import Derived.Test.YtidoacdigedlnaaNextA
set_option linter.unusedVariables false
set_option linter.unusedSimpArgs false
namespace Go.Proofs.Ytidoacdigedlnaa
open Go.RowKit

def tA : TM := ⟨⟨#[97]⟩, 5⟩
def tB : TM := ⟨⟨#[98]⟩, 4⟩
def vZ : VT := .mk 0 0 0 ByteArray.empty []
def s0 : ST := { run := 1, status := 1, count := 1, time := 0, deadline := 0, from_ := 0, signals := 0, type := ByteArray.empty, input := vZ, first := 0, coef := 0, most := 0, task := ⟨0, 0, 0, 0, 0⟩, fresh := false, cancel := false, timers := [tA, tB], updates := [], result := vZ, reason := ByteArray.empty }
def cs0 (b : Nat) : List Value := [.int .i64 1, .int .i64 1, .int .i64 1, .int .i64 0, .int .i64 0, .int .i64 0, .int .i64 0, .string ByteArray.empty, .int .i64 0, .int .i64 0, .int .u64 0, .string ByteArray.empty, .slice none 0 0, .int .i64 0, .int .u64 0, .int .i64 0, .int .i64 0, .int .i64 0, .int .i64 0, .int .i64 0, .int .i64 0, .bool false, .bool false, .slice (some ⟨b, 0, none⟩) 2 2, .slice none 0 0, .int .i64 0, .int .i64 0, .int .u64 0, .string ByteArray.empty, .slice none 0 0, .string ByteArray.empty]
theorem vZ_at (S : Nat → Prop) (w : World) : VAt S w vZ [.int .i64 0, .int .i64 0, .int .u64 0, .string ByteArray.empty, .slice none 0 0] := VAt_mk.2 ⟨none, 0, rfl, Sl.nil _ _ _ _ _, Nat.le_refl _, by decide, by decide⟩
theorem s0_at (w : World) (b : Nat) (hb : b < w.heap.size) (hr : w.rangeAt b 0 (flat [tA, tB])) : SAt (Live w) w s0 (cs0 b) :=
  ⟨_, _, some ⟨b, 0, none⟩, 2, none, 0, rfl, vZ_at _ _, vZ_at _ _, ⟨flat [tA, tB], els_flat _ _ _, fun _ => ⟨b, 0, rfl, hb, hr⟩⟩, Sl.nil _ _ _ _ _, Nat.le_refl _, by decide, by decide, Nat.le_refl _, by decide, by decide, by decide⟩
theorem cs0_one (b : Nat) : (cs0 b).toArray.all (·.oneCell') = true := all_one (cs := cs0 b) (by
  intro u hu
  simp only [cs0, List.mem_cons, List.not_mem_nil, or_false] at hu
  rcases hu with rfl | rfl | rfl | rfl | rfl | rfl | rfl | rfl | rfl | rfl | rfl | rfl | rfl | rfl | rfl | rfl | rfl | rfl | rfl | rfl | rfl | rfl | rfl | rfl | rfl | rfl | rfl | rfl | rfl | rfl | rfl <;> rfl)
theorem ins_two : ins [tA, tB] = [tB, tA] := by
  unfold ins Sort.insertionSort
  rw [Sort.insOuter, if_pos (by decide), Sort.insOuter, if_neg (by decide)]
  rfl
theorem at_two (L : List ET) (h : AtR s0 7 L) : L = [ev10 7 tB, ev10 7 tA, ev2 7] := by
  have e1 : timeF s0 7 = 7 := by decide
  have e2 : overB s0 7 = false := by decide
  have e3 : lostB s0 7 = false := by decide
  have e4 : lateL 7 s0.timers = [tB, tA] := by
    have e : s0.timers.filter (fun y => !decide (7 < y.due)) = [tA, tB] := rfl
    unfold lateL; rw [e]; exact ins_two
  unfold AtR at h
  rw [if_pos (by decide), e1, e2, if_neg (by decide), e4] at h
  obtain ⟨A, hA, h⟩ := h
  unfold LostR at hA
  rw [e3, if_neg (by decide)] at hA
  rw [hA] at h
  rw [h]; rfl
theorem pass {P : Program} {ops : Array Oper} {rest : List Oper} {Q : Exit → Act → World → Prop} {a : Act} (w : World) (T Z C : Array Value) (t : TypeId)
    (h : ∀ W2 : World, W2.heap[w.heap.size + 1]? = some (.cells C 33 (0, 0)) → W2.heap[w.heap.size]? = some (.cells T t (0, 0)) → Below w.heap.size w W2 → W2.heap.size = w.heap.size + 2 → wpList P ops Q rest a W2) :
    wpList P ops Q rest a (((w.alloc (.cells T t)).alloc (.cells Z 33)).setRow (w.heap.size + 1) C) := by
  refine h _ ?_ ?_ ?_ ?_
  · exact setRow_heap _ _ Z _ _ _ (heap_alloc2_new w _ _)
  · rw [setRow_other _ _ _ _ (by omega)]; exact heap_alloc2_old w _ _
  · exact below_setRow (((Below.refl _ _).alloc (Nat.le_refl _) _).alloc (by simp) _) (Nat.le_succ _) _
  · simp
set_option maxRecDepth 100000 in
set_option maxHeartbeats 1600000 in
theorem awake (w : World) : Calls Try.prog 7 #[] w (BoolP w true) := by
  have A : ∀ W2 : World, W2.heap[w.heap.size]? = some (.cells (flat [tA, tB]).toArray 52 (0, 0)) → Calls Try.prog 8 #[.agg (cs0 w.heap.size).toArray, .int .i64 7] W2 (AtP W2 s0 7) := fun W2 hT => at_ s0 _ 7 W2 (s0_at W2 w.heap.size (Array.getElem?_eq_some_iff.1 hT).1 (box_range hT)) (by decide)
  replace A := Lib.hid A
  go_enter Try.func7, Try.ntmps7
  go_wp2_with (first | (refine wpList_store_row rfl 33 (.tmp 1) (.tmp 6) rfl (w.heap.size + 1) (cs0 w.heap.size).toArray rfl rfl 33 _ (heap_alloc2_new w _ _) (s_size rfl) (by rfl) (cs0_one _) ?_) | (refine pass w _ _ _ _ (fun W2 f1 f2 f3 f4 => ?_); replace f1 := Lib.hid f1; replace f2 := Lib.hid f2; replace f3 := Lib.hid f3; replace f4 := Lib.hid f4) | (refine wpList_load_row rfl 33 (.tmp 1) rfl (w.heap.size + 1) rfl 33 (cs0 w.heap.size).toArray (0, 0) _ f1.out Try.underlying33 rfl (s_size rfl) ?_) | (go_at_call 8; refine (A.out W2 f2.out).mono ?_))
  rintro e w1 ⟨v, L, rfl, ho, hL, hb1⟩
  have hL' := at_two L hL
  subst hL'
  obtain ⟨g, cap, rfl, g1, g2, g3, g4, g5⟩ := own_range ho (by decide)
  have c0 := g5 4 (.string ⟨#[98]⟩) rfl
  have c1 := g5 17 (.string ⟨#[97]⟩) rfl
  have c2 := g5 26 (.int .i64 2) rfl
  rw [Nat.zero_add] at c0 c1 c2
  have hbb := Lib.hid (f3.out.trans (hb1.mono (by rw [f4.out]; omega)))
  clear ho hL hb1 g5 A
  go_wp2_with fail
  go_ret
  exact ⟨rfl, hbb.out⟩
end Go.Proofs.Ytidoacdigedlnaa
