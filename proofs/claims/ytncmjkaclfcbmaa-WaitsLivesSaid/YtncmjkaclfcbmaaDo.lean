/- A call over a list: Do, few, on. -/
import Derived.Test.YtncmjkaclfcbmaaRefuse
import Derived.Test.YtncmjkaclfcbmaaAwake
set_option linter.unusedVariables false
namespace Go.Proofs.Ytncmjkaclfcbmaa
open Go.RowKit

structure DT where
  op : Int
  n : Int
  run : Int
  upto : Int
  flow : ByteArray
  w : WT
  answers : List AT
  asks : List KT
def DAt (w : World) (x : DT) (cs : List Value) : Prop :=
  ∃ Wc a1 c1 a2 c2, cs = [.int .i64 x.op, .int .i64 x.n, .int .i64 x.run, .int .i64 x.upto, .string x.flow] ++ (Wc ++ [.slice a1 x.answers.length c1, .slice a2 x.asks.length c2]) ∧ WAt (Live w) w x.w Wc ∧ Sl 6 (AAt (Live w) w) (Live w) w a1 x.answers ∧ Sl 7 (KAt (Live w) w) (Live w) w a2 x.asks ∧
    x.answers.length ≤ c1 ∧ c1 ≤ 9223372036854775807 ∧ x.asks.length ≤ c2 ∧ c2 ≤ 9223372036854775807
theorem DAt.below {w w' : World} {x : DT} {cs : List Value} (h : DAt w x cs) (hb : Below w.heap.size w w') : DAt w' x cs := by
  obtain ⟨Wc, a1, c1, a2, c2, e, h1, h2, h3, h4⟩ := h
  have hS : ∀ b, Live w b → Live w' b := fun b hb' => Nat.lt_of_lt_of_le hb' hb.size
  have hw : ∀ b, Live w b → w'.heap[b]? = w.heap[b]? := fun b hb' => hb.block b hb'
  exact ⟨Wc, a1, c1, a2, c2, e, h1.below hb, h2.change hS hw (fun t _ cs h => carried_a _ _ _ _ t cs hS hw h), h3.change hS hw (fun t _ cs h => carried_k _ _ _ _ t cs hS hw h), h4⟩
theorem DAt.len {w : World} {x : DT} {cs : List Value} (h : DAt w x cs) : cs.length = 26 := by
  obtain ⟨Wc, a1, c1, a2, c2, rfl, h1, _⟩ := h
  simp [h1.len]
theorem DAt.cells {w : World} {x : DT} {cs : List Value} (h : DAt w x cs) :
    cs[0]? = some (.int .i64 x.op) ∧ cs[1]? = some (.int .i64 x.n) ∧ cs[2]? = some (.int .i64 x.run) ∧ cs[3]? = some (.int .i64 x.upto) ∧ cs[4]? = some (.string x.flow) ∧
    ∃ Wc a1 c1 a2 c2, cs[24]? = some (.slice a1 x.answers.length c1) ∧ cs[25]? = some (.slice a2 x.asks.length c2) ∧ (∀ j u, Wc[j]? = some u → cs[5 + j]? = some u) ∧ WAt (Live w) w x.w Wc ∧ Sl 6 (AAt (Live w) w) (Live w) w a1 x.answers ∧ Sl 7 (KAt (Live w) w) (Live w) w a2 x.asks ∧
      x.answers.length ≤ c1 ∧ c1 ≤ 9223372036854775807 ∧ x.asks.length ≤ c2 ∧ c2 ≤ 9223372036854775807 := by
  obtain ⟨Wc, a1, c1, a2, c2, rfl, h1, h2, h3, h4⟩ := h
  have hl := h1.len
  refine ⟨rfl, rfl, rfl, rfl, rfl, Wc, a1, c1, a2, c2, ?_, ?_, ?_, h1, h2, h3, h4⟩
  · rw [List.getElem?_append_right (by simp), List.getElem?_append_right (by simp [hl])]; simp [hl]
  · rw [List.getElem?_append_right (by simp), List.getElem?_append_right (by simp [hl])]; simp [hl]
  · intro j u hu
    have hj : j < Wc.length := (List.getElem?_eq_some_iff.1 hu).1
    rw [List.getElem?_append_right (by simp), List.getElem?_append_left (by simp; omega)]
    simpa using hu
theorem DAt.one {w : World} {x : DT} {cs : List Value} (h : DAt w x cs) : ∀ u ∈ cs, u.oneCell' = true := by
  obtain ⟨Wc, a1, c1, a2, c2, rfl, h1, _⟩ := h
  intro u hu
  simp only [List.mem_append, List.mem_cons, List.not_mem_nil, or_false] at hu
  rcases hu with (rfl | rfl | rfl | rfl | rfl) | hu | rfl | rfl <;> first | rfl | exact h1.one u hu
theorem d_size {cs : List Value} (h : cs.length = 26) : (Try.prog.info? 41).map (·.size) = some cs.toArray.size := by
  have e : (Try.prog.info? 41).map (·.size) = some 26 := by kernel_rfl
  rw [e]; simp [h]
def fewB (a b : Nat) : Bool := decide (a + b ≤ 60)
theorem sizes (a b : Nat) (g : Nat) (w : World) (h : w.heap[g]? = some (.cells #[.int .i64 (a : Int), .int .i64 (b : Int)] 3 (0, 0))) (ha : a ≤ 9223372036854775807) (hb : b ≤ 9223372036854775807) :
    Calls Try.prog 32 #[.int .i64 60, .slice (some ⟨g, 0, none⟩) 2 2] w (BoolP w (fewB a b)) := by
  have c0 := box_cell h 0 _ rfl
  have c1 := box_cell h 1 _ rfl
  have hfin : ∀ t, t = fewB a b → BoolP w (fewB a b) (.returned (.bool t)) w := fun t ht => ⟨by rw [ht], Below.refl _ _⟩
  by_cases h1 : 60 < a
  · have r := Lib.hid (hfin false (by simp [fewB]; omega))
    clear hfin h
    go_enter Try.func32, Try.ntmps32
    go_wp2_with fail
    refine wp_loop_rounds 1 ?_
    rw [rounds_succ]
    go_wp2_with fail
    go_ret
    exact r.out
  · by_cases h2 : 60 - (a : Int) < (b : Int)
    · have r := Lib.hid (hfin false (by simp [fewB]; omega))
      clear hfin h
      go_enter Try.func32, Try.ntmps32
      go_wp2_with fail
      refine wp_loop_rounds 2 ?_
      rw [rounds_succ]
      go_wp2_with fail
      rw [rounds_succ]
      go_wp2_with fail
      go_ret
      exact r.out
    · have r := Lib.hid (hfin true (by simp [fewB]; omega))
      clear hfin h
      go_enter Try.func32, Try.ntmps32
      go_wp2_with fail
      refine wp_loop_rounds 3 ?_
      rw [rounds_succ]
      go_wp2_with fail
      rw [rounds_succ]
      go_wp2_with fail
      rw [rounds_succ]
      go_wp2_with fail
      go_ret
      exact r.out
theorem few (x : DT) (cs : List Value) (w : World) (h : DAt w x cs) : Calls Try.prog 13 #[.agg cs.toArray] w (BoolP w (fewB x.answers.length x.asks.length)) := by
  have hX := heap_alloc_new w (.cells cs.toArray 41)
  have hl := h.len
  have hlo : cs.toArray.size = 26 := by simp [hl]
  obtain ⟨_, _, _, _, _, Wc, a1, c1, a2, c2, k24, k25, _, _, _, _, h1, h2, h3, h4⟩ := h.cells
  have q24 : (w.alloc (.cells cs.toArray 41)).cell? ⟨w.heap.size, 24, none⟩ = some (.slice a1 x.answers.length c1) := box_cell hX 24 _ (by simpa using k24)
  have q25 : (w.alloc (.cells cs.toArray 41)).cell? ⟨w.heap.size, 25, none⟩ = some (.slice a2 x.asks.length c2) := box_cell hX 25 _ (by simpa using k25)
  have Z := sizes x.answers.length x.asks.length (w.heap.size + 1) ((w.alloc (.cells cs.toArray 41)).alloc (.cells #[.int .i64 (x.answers.length : Int), .int .i64 (x.asks.length : Int)] 3)) (by
    have e := heap_alloc_new (w.alloc (.cells cs.toArray 41)) (.cells #[.int .i64 (x.answers.length : Int), .int .i64 (x.asks.length : Int)] 3)
    rw [show (w.alloc (.cells cs.toArray 41)).heap.size = w.heap.size + 1 by simp] at e
    exact e) (by omega) (by omega)
  have hb : Below w.heap.size w ((w.alloc (.cells cs.toArray 41)).alloc (.cells #[.int .i64 (x.answers.length : Int), .int .i64 (x.asks.length : Int)] 3)) := ((Below.refl _ _).alloc (Nat.le_refl _) _).alloc (by simp) _
  replace Z := Lib.hid Z
  replace hb := Lib.hid hb
  clear h hX k24 k25 hl
  go_enter Try.func13, Try.ntmps13
  go_wp2_with fail
  refine Z.out.mono ?_
  rintro e w2 ⟨rfl, hb2⟩
  have hb3 := Lib.hid (hb.out.trans (hb2.mono (by simp; omega)))
  clear hb2
  go_wp2_with fail
  go_ret
  exact ⟨rfl, hb3.out⟩
end Go.Proofs.Ytncmjkaclfcbmaa
