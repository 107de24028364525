/- usherref30's of, named. -/
import Derived.Test.YtncmjkaclfcbmaaRDrop
import Derived.Test.YtncmjkaclfcbmaaRefuse
set_option linter.unusedVariables false
set_option linter.unusedSimpArgs false
namespace Go.Proofs.Ytncmjkaclfcbmaa
open Go.RowKit

theorem of_query (flow : ByteArray) (run : Int) (S : Nat → Prop) (x : WT) (cs : List Value) (w : World) (h : WAt S w x cs) : Calls Try.prog 43 #[.agg cs.toArray, .string flow, .int .i64 run, .bool true] w (BoolP w (quB flow run x)) := by
  have hfin : ∀ b, b = quB flow run x → BoolP w (quB flow run x) (.returned (.bool b)) (w.alloc (.cells cs.toArray 31)) := fun b hb => ⟨by rw [hb], (Below.refl _ _).alloc (Nat.le_refl _) _⟩
  obtain ⟨k1, n1, b1, s1, a1, m1, c1, k2, n2, b2, s2, a2, m2, c2, rfl⟩ := h.shape
  obtain ⟨op, run', seen, upto, flow', name, asked, value, query, over, handed⟩ := x
  simp only at *
  clear h
  replace hfin := Lib.hid hfin
  cases query with
  | false =>
    have r := Lib.hid (hfin.out false (by simp [quB]))
    clear hfin
    go_enter Try.func43, Try.ntmps43
    go_wp2_with fail
    go_ret
    exact r.out
  | true =>
    cases over with
    | true =>
      have r := Lib.hid (hfin.out false (by simp [quB]))
      clear hfin
      go_enter Try.func43, Try.ntmps43
      go_wp2_with fail
      go_ret
      exact r.out
    | false =>
      cases hf : (flow'.toList == flow.toList) with
      | false =>
        have r := Lib.hid (hfin.out false (by simp only [quB, hf]; simp))
        clear hfin
        go_enter Try.func43, Try.ntmps43
        go_wp2_with fail
        go_ret
        exact r.out
      | true =>
        have r := Lib.hid (hfin.out (run' == run) (by simp only [quB, hf]; simp))
        clear hfin
        go_enter Try.func43, Try.ntmps43
        go_wp2_with fail
        go_ret
        exact r.out
theorem of_update (flow : ByteArray) (run : Int) (S : Nat → Prop) (x : WT) (cs : List Value) (w : World) (h : WAt S w x cs) : Calls Try.prog 43 #[.agg cs.toArray, .string flow, .int .i64 run, .bool false] w (BoolP w (upB flow run x)) := by
  have hfin : ∀ b, b = upB flow run x → BoolP w (upB flow run x) (.returned (.bool b)) (w.alloc (.cells cs.toArray 31)) := fun b hb => ⟨by rw [hb], (Below.refl _ _).alloc (Nat.le_refl _) _⟩
  obtain ⟨k1, n1, b1, s1, a1, m1, c1, k2, n2, b2, s2, a2, m2, c2, rfl⟩ := h.shape
  obtain ⟨op, run', seen, upto, flow', name, asked, value, query, over, handed⟩ := x
  simp only at *
  clear h
  replace hfin := Lib.hid hfin
  cases query with
  | false =>
    cases over with
    | true =>
      have r := Lib.hid (hfin.out false (by simp [upB]))
      clear hfin
      go_enter Try.func43, Try.ntmps43
      go_wp2_with fail
      go_ret
      exact r.out
    | false =>
      cases hf : (flow'.toList == flow.toList) with
      | false =>
        have r := Lib.hid (hfin.out false (by simp only [upB, hf]; simp))
        clear hfin
        go_enter Try.func43, Try.ntmps43
        go_wp2_with fail
        go_ret
        exact r.out
      | true =>
        have r := Lib.hid (hfin.out (run' == run) (by simp only [upB, hf]; simp))
        clear hfin
        go_enter Try.func43, Try.ntmps43
        go_wp2_with fail
        go_ret
        exact r.out
  | true =>
    have r := Lib.hid (hfin.out false (by simp [upB]))
    clear hfin
    go_enter Try.func43, Try.ntmps43
    go_wp2_with fail
    go_ret
    exact r.out
end Go.Proofs.Ytncmjkaclfcbmaa
