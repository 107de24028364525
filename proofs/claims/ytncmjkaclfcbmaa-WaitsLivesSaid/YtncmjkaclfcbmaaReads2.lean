/- How asks and calls read. -/
import Derived.Test.YtncmjkaclfcbmaaReads
import Derived.Test.YtncmjkaclfcbmaaDo
set_option linter.unusedVariables false
namespace Go.Proofs.Ytncmjkaclfcbmaa
open Go.RowKit Go.ChangeShapes Go.WideShapes

section
variable {H : Type} {enc : TypeId × Value → H} {w : World} {spare : Nat → Bool} {held : Bool}
theorem rd_ask (fuel : Nat) (cs : List Value) (x : DataW H × List MemPlace) (h : DataW.trod enc Try.prog w 0 spare held fuel 67 cs = some x) (hl : Light 67 x.1) : ∃ t, KAt (Live w) w t cs := by
  obtain ⟨xs, n, rfl, rfl, hcl, hxl, hf⟩ := DataW.trod_struct Try.underlying67 h
  have hcc : cs.length = 7 := hcl.trans (by kernel_rfl)
  match cs, hcc, xs, hxl with
  | [c0, c1, a0, a1, a2, a3, a4], _, [y0, y1, y2], _ =>
    have e0 : DataW.trod enc Try.prog w 0 spare held n 3 (([c0, c1, a0, a1, a2, a3, a4].drop 0).take (Try.prog.cellsOf 3)) = some y0 := hf 0 _ rfl
    have e1 : DataW.trod enc Try.prog w 0 spare held n 9 (([c0, c1, a0, a1, a2, a3, a4].drop 1).take (Try.prog.cellsOf 9)) = some y1 := hf 1 _ rfl
    have e2 : DataW.trod enc Try.prog w 0 spare held n 29 (([c0, c1, a0, a1, a2, a3, a4].drop 2).take (Try.prog.cellsOf 29)) = some y2 := hf 2 _ rfl
    rw [show Try.prog.cellsOf 3 = 1 by kernel_rfl] at e0
    rw [show Try.prog.cellsOf 9 = 1 by kernel_rfl] at e1
    rw [show Try.prog.cellsOf 29 = 5 by kernel_rfl] at e2
    obtain ⟨v0, h0, _⟩ := DataW.trod_int Try.underlying3 (show DataW.trod enc Try.prog w 0 spare held n 3 [c0] = some y0 from e0)
    cases h0
    obtain ⟨v1, h1, _⟩ := DataW.trod_string Try.underlying9 (show DataW.trod enc Try.prog w 0 spare held n 9 [c1] = some y1 from e1)
    cases h1
    have h' : ∀ m ∈ DataW.weightsEach Try.prog [3, 9, 29] [y0.1, y1.1, y2.1], m ≤ 140737488351232 := by
      intro m hm
      refine hl m ?_
      simp only [DataW.weights, Try.underlying67]
      exact hm
    obtain ⟨t2, ht2⟩ := rd_value n [a0, a1, a2, a3, a4] y2 (show DataW.trod enc Try.prog w 0 spare held n 29 [a0, a1, a2, a3, a4] = some y2 from e2) (light_each (j := 2) h' rfl rfl)
    exact ⟨⟨v0, v1, t2⟩, _, rfl, ht2⟩
theorem rd_do (fuel : Nat) (cs : List Value) (x : DataW H × List MemPlace) (h : DataW.trod enc Try.prog w 0 spare held fuel 41 cs = some x) (hl : Light 41 x.1) : ∃ t, DAt w t cs := by
  obtain ⟨xs, n, rfl, rfl, hcl, hxl, hf⟩ := DataW.trod_struct Try.underlying41 h
  have hcc : cs.length = 26 := hcl.trans (by kernel_rfl)
  match cs, hcc, xs, hxl with
  | [c0, c1, c2, c3, c4, d0, d1, d2, d3, d4, d5, d6, d7, d8, d9, d10, d11, d12, d13, d14, d15, d16, d17, d18, z0, z1], _, [y0, y1, y2, y3, y4, y5, y6, y7], _ =>
    have e0 : DataW.trod enc Try.prog w 0 spare held n 3 (([c0, c1, c2, c3, c4, d0, d1, d2, d3, d4, d5, d6, d7, d8, d9, d10, d11, d12, d13, d14, d15, d16, d17, d18, z0, z1].drop 0).take (Try.prog.cellsOf 3)) = some y0 := hf 0 _ rfl
    have e1 : DataW.trod enc Try.prog w 0 spare held n 3 (([c0, c1, c2, c3, c4, d0, d1, d2, d3, d4, d5, d6, d7, d8, d9, d10, d11, d12, d13, d14, d15, d16, d17, d18, z0, z1].drop 1).take (Try.prog.cellsOf 3)) = some y1 := hf 1 _ rfl
    have e2 : DataW.trod enc Try.prog w 0 spare held n 3 (([c0, c1, c2, c3, c4, d0, d1, d2, d3, d4, d5, d6, d7, d8, d9, d10, d11, d12, d13, d14, d15, d16, d17, d18, z0, z1].drop 2).take (Try.prog.cellsOf 3)) = some y2 := hf 2 _ rfl
    have e3 : DataW.trod enc Try.prog w 0 spare held n 3 (([c0, c1, c2, c3, c4, d0, d1, d2, d3, d4, d5, d6, d7, d8, d9, d10, d11, d12, d13, d14, d15, d16, d17, d18, z0, z1].drop 3).take (Try.prog.cellsOf 3)) = some y3 := hf 3 _ rfl
    have e4 : DataW.trod enc Try.prog w 0 spare held n 9 (([c0, c1, c2, c3, c4, d0, d1, d2, d3, d4, d5, d6, d7, d8, d9, d10, d11, d12, d13, d14, d15, d16, d17, d18, z0, z1].drop 4).take (Try.prog.cellsOf 9)) = some y4 := hf 4 _ rfl
    have e5 : DataW.trod enc Try.prog w 0 spare held n 31 (([c0, c1, c2, c3, c4, d0, d1, d2, d3, d4, d5, d6, d7, d8, d9, d10, d11, d12, d13, d14, d15, d16, d17, d18, z0, z1].drop 5).take (Try.prog.cellsOf 31)) = some y5 := hf 5 _ rfl
    have e6 : DataW.trod enc Try.prog w 0 spare held n 23 (([c0, c1, c2, c3, c4, d0, d1, d2, d3, d4, d5, d6, d7, d8, d9, d10, d11, d12, d13, d14, d15, d16, d17, d18, z0, z1].drop 24).take (Try.prog.cellsOf 23)) = some y6 := hf 6 _ rfl
    have e7 : DataW.trod enc Try.prog w 0 spare held n 39 (([c0, c1, c2, c3, c4, d0, d1, d2, d3, d4, d5, d6, d7, d8, d9, d10, d11, d12, d13, d14, d15, d16, d17, d18, z0, z1].drop 25).take (Try.prog.cellsOf 39)) = some y7 := hf 7 _ rfl
    rw [show Try.prog.cellsOf 3 = 1 by kernel_rfl] at e0 e1 e2 e3
    rw [show Try.prog.cellsOf 9 = 1 by kernel_rfl] at e4
    rw [show Try.prog.cellsOf 31 = 19 by kernel_rfl] at e5
    rw [show Try.prog.cellsOf 23 = 1 by kernel_rfl] at e6
    rw [show Try.prog.cellsOf 39 = 1 by kernel_rfl] at e7
    obtain ⟨v0, h0, _⟩ := DataW.trod_int Try.underlying3 (show DataW.trod enc Try.prog w 0 spare held n 3 [c0] = some y0 from e0)
    cases h0
    obtain ⟨v1, h1, _⟩ := DataW.trod_int Try.underlying3 (show DataW.trod enc Try.prog w 0 spare held n 3 [c1] = some y1 from e1)
    cases h1
    obtain ⟨v2, h2, _⟩ := DataW.trod_int Try.underlying3 (show DataW.trod enc Try.prog w 0 spare held n 3 [c2] = some y2 from e2)
    cases h2
    obtain ⟨v3, h3, _⟩ := DataW.trod_int Try.underlying3 (show DataW.trod enc Try.prog w 0 spare held n 3 [c3] = some y3 from e3)
    cases h3
    obtain ⟨v4, h4, _⟩ := DataW.trod_string Try.underlying9 (show DataW.trod enc Try.prog w 0 spare held n 9 [c4] = some y4 from e4)
    cases h4
    have h' : ∀ m ∈ DataW.weightsEach Try.prog [3, 3, 3, 3, 9, 31, 23, 39] [y0.1, y1.1, y2.1, y3.1, y4.1, y5.1, y6.1, y7.1], m ≤ 140737488351232 := by
      intro m hm
      refine hl m ?_
      simp only [DataW.weights, Try.underlying41]
      exact hm
    obtain ⟨t5, ht5⟩ := rd_wait n [d0, d1, d2, d3, d4, d5, d6, d7, d8, d9, d10, d11, d12, d13, d14, d15, d16, d17, d18] y5 (show DataW.trod enc Try.prog w 0 spare held n 31 [d0, d1, d2, d3, d4, d5, d6, d7, d8, d9, d10, d11, d12, d13, d14, d15, d16, d17, d18] = some y5 from e5) (light_each (j := 5) h' rfl rfl)
    obtain ⟨a6, p6, l6, hc6, s6, b6, g6, _, _⟩ := rd_slice Try.underlying23 (show Try.prog.cellsOf 52 = 6 by kernel_rfl) (by decide) (AAt (Live w) w) (show DataW.trod enc Try.prog w 0 spare held n 23 [z0] = some y6 from e6) (light_each (j := 6) h' rfl rfl) (fun n' _ cs y hy hly => rd_answer n' cs y hy hly)
    cases hc6
    obtain ⟨a7, p7, l7, hc7, s7, b7, g7, _, _⟩ := rd_slice Try.underlying39 (show Try.prog.cellsOf 67 = 7 by kernel_rfl) (by decide) (KAt (Live w) w) (show DataW.trod enc Try.prog w 0 spare held n 39 [z1] = some y7 from e7) (light_each (j := 7) h' rfl rfl) (fun n' _ cs y hy hly => rd_ask n' cs y hy hly)
    cases hc7
    exact ⟨{ op := v0, n := v1, run := v2, upto := v3, flow := v4, w := t5, answers := l6, asks := l7 }, _, a6, p6, a7, p7, rfl, ht5, s6, s7, b6, g6, b7, g7⟩
def Z26 : Array Value := #[.int .i64 0, .int .i64 0, .int .i64 0, .int .i64 0, .string ByteArray.empty] ++ Z19 ++ #[.slice none 0 0, .slice none 0 0]
def IsDos (w : World) (a : Option Addr) (n cap : Nat) (ds : List DT) : Prop := ds.length = n ∧ Sl 26 (DAt w) (Live w) w a ds ∧ n ≤ cap ∧ cap ≤ 9223372036854775807 ∧ (a = none → cap = 0)
theorem rd_dos {a : Option Addr} {n cap : Nat} {d : DataW H} {p : List MemPlace} (h : DataW.Trod enc Try.prog w 0 spare held 46 (.slice a n cap) d p) (hl : Light 46 d) : ∃ ds, IsDos w a n cap ds := by
  obtain ⟨fuel, hf⟩ := h
  obtain ⟨a', cap', l, hc, h1, h2, h3, h4, h5⟩ := rd_slice Try.underlying46 (show Try.prog.cellsOf 41 = 26 by kernel_rfl) (by decide) (DAt w) hf hl (fun n' _ cs y hy hly => rd_do n' cs y hy hly)
  cases hc
  exact ⟨l, rfl, h1, h2, h3, h5⟩
end
end Go.Proofs.Ytncmjkaclfcbmaa
