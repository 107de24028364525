/- What asks a wait: session, query, update. -/
import Derived.Test.YtncmjkaclfcbmaaTurned
set_option linter.unusedVariables false
namespace Go.Proofs.Ytncmjkaclfcbmaa
open Go.RowKit

def sesB (n : Int) : Bool := decide (0 ≤ n) && decide (n ≤ 2147483648)
theorem session (n : Int) (w : World) : Calls Try.prog 24 #[.int .i64 n] w fun e w' => e = .returned (.bool (sesB n)) ∧ w = w' := by
  by_cases h0 : 0 ≤ n
  · by_cases h1 : n ≤ 2147483648
    · have e : sesB n = true := by simp [sesB, h0, h1]
      have d0 : decide (0 ≤ n) = true := decide_eq_true h0
      have d1 : decide (n ≤ 2147483648) = true := decide_eq_true h1
      rw [e]; clear e
      go_enter Try.func24, Try.ntmps24
      go_wp2_with fail
      go_ret
      exact ⟨rfl, rfl⟩
    · have e : sesB n = false := by simp [sesB, h0, h1]
      have d0 : decide (0 ≤ n) = true := decide_eq_true h0
      have d1 : decide (n ≤ 2147483648) = false := decide_eq_false h1
      rw [e]; clear e
      go_enter Try.func24, Try.ntmps24
      go_wp2_with fail
      go_ret
      exact ⟨rfl, rfl⟩
  · have e : sesB n = false := by simp [sesB, h0]
    have d0 : decide (0 ≤ n) = false := decide_eq_false h0
    rw [e]; clear e
    go_enter Try.func24, Try.ntmps24
    go_wp2_with fail
    go_ret
    exact ⟨rfl, rfl⟩
def quB (flow : ByteArray) (run : Int) (x : WT) : Bool := x.query && (!x.over && (x.flow.toList == flow.toList && (x.run == run)))
def upB (flow : ByteArray) (run : Int) (x : WT) : Bool := !x.query && (!x.over && (x.flow.toList == flow.toList && (x.run == run)))
def BoolP (w : World) (b : Bool) (e : Ending) (w' : World) : Prop := e = .returned (.bool b) ∧ Below w.heap.size w w'
theorem WAt.shape {S : Nat → Prop} {w : World} {x : WT} {cs : List Value} (h : WAt S w x cs) : ∃ k1 n1 b1 s1 a1 m1 c1 k2 n2 b2 s2 a2 m2 c2, cs = [.int .i64 x.op, .int .i64 x.run, .int .i64 x.seen, .int .i64 x.upto, .string x.flow, .string x.name, .int .i64 k1, .int .i64 n1, .int .u64 b1, .string s1, .slice a1 m1 c1, .int .i64 k2, .int .i64 n2, .int .u64 b2, .string s2, .slice a2 m2 c2, .bool x.query, .bool x.over, .int .i64 x.handed] := by
  obtain ⟨A, B, rfl, h1, h2⟩ := h
  obtain ⟨k1, n1, b1, s1, a1, m1, c1, rfl⟩ := h1.shape
  obtain ⟨k2, n2, b2, s2, a2, m2, c2, rfl⟩ := h2.shape
  exact ⟨_, _, _, _, _, _, _, _, _, _, _, _, _, _, rfl⟩
theorem query (flow : ByteArray) (run : Int) (S : Nat → Prop) (x : WT) (cs : List Value) (w : World) (h : WAt S w x cs) : Calls Try.prog 46 #[.agg #[.string flow, .int .i64 run], .agg cs.toArray] w (BoolP w (quB flow run x)) := by
  have hfin : ∀ b, b = quB flow run x → BoolP w (quB flow run x) (.returned (.bool b)) ((w.alloc (.cells #[.string flow, .int .i64 run] 69)).alloc (.cells cs.toArray 31)) := fun b hb => ⟨by rw [hb], ((Below.refl _ _).alloc (Nat.le_refl _) _).alloc (by simp) _⟩
  obtain ⟨k1, n1, b1, s1, a1, m1, c1, k2, n2, b2, s2, a2, m2, c2, rfl⟩ := h.shape
  obtain ⟨op, run', seen, upto, flow', name, asked, value, query, over, handed⟩ := x
  simp only at *
  clear h
  replace hfin := Lib.hid hfin
  cases query with
  | false =>
    have r := Lib.hid (hfin.out false (by simp [quB]))
    clear hfin
    go_enter Try.func46, Try.ntmps46
    go_wp2_with fail
    go_ret
    exact r.out
  | true =>
    cases over with
    | true =>
      have r := Lib.hid (hfin.out false (by simp [quB]))
      clear hfin
      go_enter Try.func46, Try.ntmps46
      go_wp2_with fail
      go_ret
      exact r.out
    | false =>
      cases hf : (flow'.toList == flow.toList) with
      | false =>
        have r := Lib.hid (hfin.out false (by simp only [quB, hf]; simp))
        clear hfin
        go_enter Try.func46, Try.ntmps46
        go_wp2_with fail
        go_ret
        exact r.out
      | true =>
        have r := Lib.hid (hfin.out (run' == run) (by simp only [quB, hf]; simp))
        clear hfin
        go_enter Try.func46, Try.ntmps46
        go_wp2_with fail
        go_ret
        exact r.out
theorem update (flow : ByteArray) (run : Int) (S : Nat → Prop) (x : WT) (cs : List Value) (w : World) (h : WAt S w x cs) : Calls Try.prog 42 #[.agg #[.string flow, .int .i64 run], .agg cs.toArray] w (BoolP w (upB flow run x)) := by
  have hfin : ∀ b, b = upB flow run x → BoolP w (upB flow run x) (.returned (.bool b)) ((w.alloc (.cells #[.string flow, .int .i64 run] 69)).alloc (.cells cs.toArray 31)) := fun b hb => ⟨by rw [hb], ((Below.refl _ _).alloc (Nat.le_refl _) _).alloc (by simp) _⟩
  obtain ⟨k1, n1, b1, s1, a1, m1, c1, k2, n2, b2, s2, a2, m2, c2, rfl⟩ := h.shape
  obtain ⟨op, run', seen, upto, flow', name, asked, value, query, over, handed⟩ := x
  simp only at *
  clear h
  replace hfin := Lib.hid hfin
  cases query with
  | true =>
    have r := Lib.hid (hfin.out false (by simp [upB]))
    clear hfin
    go_enter Try.func42, Try.ntmps42
    go_wp2_with fail
    go_ret
    exact r.out
  | false =>
    cases over with
    | true =>
      have r := Lib.hid (hfin.out false (by simp [upB]))
      clear hfin
      go_enter Try.func42, Try.ntmps42
      go_wp2_with fail
      go_ret
      exact r.out
    | false =>
      cases hf : (flow'.toList == flow.toList) with
      | false =>
        have r := Lib.hid (hfin.out false (by simp only [upB, hf]; simp))
        clear hfin
        go_enter Try.func42, Try.ntmps42
        go_wp2_with fail
        go_ret
        exact r.out
      | true =>
        have r := Lib.hid (hfin.out (run' == run) (by simp only [upB, hf]; simp))
        clear hfin
        go_enter Try.func42, Try.ntmps42
        go_wp2_with fail
        go_ret
        exact r.out
end Go.Proofs.Ytncmjkaclfcbmaa
