/- How what was handed in reads: values, waits, answers, asks, lists of them. -/
import Derived.Test.YtncmjkaclfcbmaaAnswer
import Derived.Deep.Slices
import Derived.SizedLaws
set_option linter.unusedVariables false
namespace Go.Proofs.Ytncmjkaclfcbmaa
open Go.RowKit Go.ChangeShapes Go.WideShapes

section
variable {H : Type} {enc : TypeId × Value → H} {w : World} {spare : Nat → Bool} {held : Bool}
def Light (t : TypeId) (d : DataW H) : Prop := ∀ m ∈ d.weights Try.prog t, m ≤ 140737488351232
theorem light_each {ts : List TypeId} {ds : List (DataW H)} (h : ∀ m ∈ DataW.weightsEach Try.prog ts ds, m ≤ 140737488351232) {j : Nat} {t : TypeId} {d : DataW H} (ht : ts[j]? = some t) (hd : ds[j]? = some d) : Light t d :=
  fun m hm => h m (DataW.weights_mem_each ht hd m hm)
theorem weights_mem_all {P : Program} {e : TypeId} : ∀ {ds : List (DataW H)} {d : DataW H}, d ∈ ds → ∀ n ∈ d.weights P e, n ∈ DataW.weightsAll P e ds
  | d0 :: ds, d, hd, n, hn => by
    simp only [DataW.weightsAll, List.mem_append]
    rcases List.mem_cons.1 hd with rfl | hd
    · exact .inl hn
    · exact .inr (weights_mem_all hd n hn)
theorem els_of {α : Type} {k b off : Nat} {R : α → List Value → Prop} : ∀ (len : Nat), (∀ i, i < len → ∃ (t : α) (cs : List Value), cs.length = k ∧ R t cs ∧ w.rangeAt b (off + i * k) cs) → ∃ (l : List α) (xs : List Value), l.length = len ∧ Els k R l xs ∧ w.rangeAt b off xs
  | 0, _ => ⟨[], [], rfl, rfl, fun j v hv => by simp at hv⟩
  | len + 1, h => by
    obtain ⟨l, xs, h1, h2, h3⟩ := els_of len fun i hi => h i (by omega)
    obtain ⟨t, cs, c1, c2, c3⟩ := h len (by omega)
    refine ⟨l ++ [t], xs ++ cs, by simp [h1], Els.snoc c1 c2 h2, fun j v hv => ?_⟩
    have hx := h2.len
    rw [h1] at hx
    by_cases hj : j < xs.length
    · rw [List.getElem?_append_left hj] at hv; exact h3 j v hv
    · rw [List.getElem?_append_right (by omega)] at hv
      have := c3 _ v hv
      rw [show off + j = off + len * k + (j - xs.length) by omega]; exact this
theorem rd_slice {α : Type} {T E k : Nat} (hT : Try.prog.underlying T = some (.slice E)) (hE : Try.prog.cellsOf E = k) (hk : 0 < k) (R : α → List Value → Prop) {fuel : Nat} {cs : List Value} {x : DataW H × List MemPlace}
    (h : DataW.trod enc Try.prog w 0 spare held fuel T cs = some x) (hl : Light T x.1)
    (hel : ∀ n, n < fuel → ∀ (cs : List Value) (y : DataW H × List MemPlace), DataW.trod enc Try.prog w 0 spare held n E cs = some y → Light E y.1 → ∃ t, R t cs) :
    ∃ (a : Option Addr) (cap : Nat) (l : List α), cs = [.slice a l.length cap] ∧ Sl k R (Live w) w a l ∧ l.length ≤ cap ∧ cap ≤ 9223372036854775807 ∧ l.length * Try.prog.bytesOf E ≤ 140737488351232 ∧ (a = none → cap = 0) := by
  rcases DataW.trod_slice hT h with ⟨rfl, rfl⟩ | ⟨a, len, cap, elems, rest, n, hn, rfl, rfl, hb, hlc, hm, hlen, hel', _, _⟩
  · exact ⟨none, 0, [], rfl, Sl.nil _ _ _ _ _, Nat.le_refl _, by decide, by simp, fun _ => rfl⟩
  rw [hE] at hel'
  have hw : len * Try.prog.bytesOf E ≤ 140737488351232 := by
    have := hl ((elems.map (·.1)).length * Try.prog.bytesOf E + (rest.map (·.1)).length * Try.prog.bytesOf E) (by
      rw [← Nat.add_mul]
      simp [DataW.weights, hT])
    simp only [List.length_map, hlen] at this
    omega
  have hcell : ∀ i, i < len → ∃ (t : α) (cs : List Value), cs.length = k ∧ R t cs ∧ ∀ j, j < k → w.cell? (a.add (i * k + j)) = cs[j]? := by
    intro i hi
    have e := hel' i hi
    obtain ⟨y, hy⟩ : ∃ y, elems[i]? = some y := ⟨_, List.getElem?_eq_getElem (by omega)⟩
    rw [hy] at e
    obtain ⟨ds, hd1, hd2⟩ := Option.bind_eq_some_iff.1 e
    obtain ⟨_, hcl, hat⟩ := World.cells?_some hd1
    have hym : y ∈ elems := List.mem_of_getElem? hy
    obtain ⟨t, ht⟩ := hel n (by omega) ds y hd2 (fun m hm => hl m (by
      simp only [DataW.weights, hT, List.mem_cons, List.mem_append]
      exact .inr (.inl (weights_mem_all (List.mem_map.2 ⟨y, hym, rfl⟩) m hm))))
    exact ⟨t, ds, hcl, ht, fun j hj => by rw [← Go.Deep.add_add]; exact hat j hj⟩
  by_cases h0 : len = 0
  · subst h0
    exact ⟨some a, cap, [], rfl, Sl.nil _ _ _ _ _, Nat.zero_le _, hm, by simp, fun h => by cases h⟩
  obtain ⟨b, off, spot⟩ := a
  have hsp : spot = none := by
    obtain ⟨t, ds, hcl, _, hat⟩ := hcell 0 (by omega)
    have h1 := hat 0 hk
    rw [List.getElem?_eq_getElem (by omega)] at h1
    have := World.cell?_spot h1
    simpa [Addr.add] using this
  subst hsp
  have hlive : Live w b := by
    obtain ⟨t, ds, hcl, _, hat⟩ := hcell 0 (by omega)
    have h1 := hat 0 hk
    rw [List.getElem?_eq_getElem (by omega)] at h1
    have := block_lt_of_cell h1
    show b < w.heap.size
    simpa [Addr.add] using this
  obtain ⟨l, xs, l1, l2, l3⟩ := els_of (w := w) (k := k) (b := b) (off := off) (R := R) len (fun i hi => by
    obtain ⟨t, ds, hcl, ht, hat⟩ := hcell i hi
    refine ⟨t, ds, hcl, ht, fun j v hv => ?_⟩
    have hj : j < k := by have := (List.getElem?_eq_some_iff.1 hv).1; omega
    have := hat j hj
    rw [Addr.add_mid, ← Nat.add_assoc] at this
    rw [this]; exact hv)
  subst l1
  exact ⟨_, cap, l, rfl, ⟨xs, l2, fun _ => ⟨b, off, rfl, hlive, l3⟩⟩, hlc, hm, hw, fun h => by cases h⟩
theorem rd_value : ∀ (fuel : Nat) (cs : List Value) (x : DataW H × List MemPlace), DataW.trod enc Try.prog w 0 spare held fuel 29 cs = some x → Light 29 x.1 → ∃ t, VAt (Live w) w t cs := by
  intro fuel
  induction fuel using Nat.strongRecOn with
  | ind fuel ih =>
    intro cs x h hl
    obtain ⟨xs, n, rfl, rfl, hcl, hxl, hf⟩ := DataW.trod_struct Try.underlying29 h
    have hc5 : cs.length = 5 := hcl.trans (by kernel_rfl)
    match cs, hc5, xs, hxl with
    | [c0, c1, c2, c3, c4], _, [y0, y1, y2, y3, y4], _ =>
      have e0 : DataW.trod enc Try.prog w 0 spare held n 3 (([c0, c1, c2, c3, c4].drop 0).take (Try.prog.cellsOf 3)) = some y0 := hf 0 _ rfl
      have e1 : DataW.trod enc Try.prog w 0 spare held n 3 (([c0, c1, c2, c3, c4].drop 1).take (Try.prog.cellsOf 3)) = some y1 := hf 1 _ rfl
      have e2 : DataW.trod enc Try.prog w 0 spare held n 26 (([c0, c1, c2, c3, c4].drop 2).take (Try.prog.cellsOf 26)) = some y2 := hf 2 _ rfl
      have e3 : DataW.trod enc Try.prog w 0 spare held n 9 (([c0, c1, c2, c3, c4].drop 3).take (Try.prog.cellsOf 9)) = some y3 := hf 3 _ rfl
      have e4 : DataW.trod enc Try.prog w 0 spare held n 27 (([c0, c1, c2, c3, c4].drop 4).take (Try.prog.cellsOf 27)) = some y4 := hf 4 _ rfl
      rw [show Try.prog.cellsOf 3 = 1 by kernel_rfl] at e0 e1
      rw [show Try.prog.cellsOf 26 = 1 by kernel_rfl] at e2
      rw [show Try.prog.cellsOf 9 = 1 by kernel_rfl] at e3
      rw [show Try.prog.cellsOf 27 = 1 by kernel_rfl] at e4
      obtain ⟨k, hk, _⟩ := DataW.trod_int Try.underlying3 (show DataW.trod enc Try.prog w 0 spare held n 3 [c0] = some y0 from e0)
      obtain ⟨m, hm, _⟩ := DataW.trod_int Try.underlying3 (show DataW.trod enc Try.prog w 0 spare held n 3 [c1] = some y1 from e1)
      obtain ⟨b, hb, _⟩ := DataW.trod_int Try.underlying26 (show DataW.trod enc Try.prog w 0 spare held n 26 [c2] = some y2 from e2)
      obtain ⟨s, hs, _⟩ := DataW.trod_string Try.underlying9 (show DataW.trod enc Try.prog w 0 spare held n 9 [c3] = some y3 from e3)
      cases hk; cases hm; cases hb; cases hs
      have hl4 : Light 27 y4.1 := by
        have h' : ∀ m ∈ DataW.weightsEach Try.prog [3, 3, 26, 9, 27] [y0.1, y1.1, y2.1, y3.1, y4.1], m ≤ 140737488351232 := by
          intro m hm
          refine hl m ?_
          simp only [DataW.weights, Try.underlying29]
          exact hm
        exact light_each (j := 4) h' rfl rfl
      obtain ⟨a, cap, l, hc, hsl, h1, h2, h3, h4⟩ := rd_slice Try.underlying27 (show Try.prog.cellsOf 29 = 5 by kernel_rfl) (by decide) (VAt (Live w) w) (show DataW.trod enc Try.prog w 0 spare held n 27 [c4] = some y4 from e4) hl4 (fun n' hn' cs y hy hly => ih n' (by omega) cs y hy hly)
      cases hc
      rw [show Try.prog.bytesOf 29 = 64 by kernel_rfl] at h3
      exact ⟨.mk k m b s l, VAt_mk.2 ⟨a, cap, rfl, hsl, h1, h2, h3⟩⟩
theorem rd_wait (fuel : Nat) (cs : List Value) (x : DataW H × List MemPlace) (h : DataW.trod enc Try.prog w 0 spare held fuel 31 cs = some x) (hl : Light 31 x.1) : ∃ t, WAt (Live w) w t cs := by
  obtain ⟨xs, n, rfl, rfl, hcl, hxl, hf⟩ := DataW.trod_struct Try.underlying31 h
  have hc5 : cs.length = 19 := hcl.trans (by kernel_rfl)
  match cs, hc5, xs, hxl with
  | [c0, c1, c2, c3, c4, c5, a0, a1, a2, a3, a4, b0, b1, b2, b3, b4, c8, c9, c10], _, [y0, y1, y2, y3, y4, y5, y6, y7, y8, y9, y10], _ =>
    have e0 : DataW.trod enc Try.prog w 0 spare held n 3 (([c0, c1, c2, c3, c4, c5, a0, a1, a2, a3, a4, b0, b1, b2, b3, b4, c8, c9, c10].drop 0).take (Try.prog.cellsOf 3)) = some y0 := hf 0 _ rfl
    have e1 : DataW.trod enc Try.prog w 0 spare held n 3 (([c0, c1, c2, c3, c4, c5, a0, a1, a2, a3, a4, b0, b1, b2, b3, b4, c8, c9, c10].drop 1).take (Try.prog.cellsOf 3)) = some y1 := hf 1 _ rfl
    have e2 : DataW.trod enc Try.prog w 0 spare held n 3 (([c0, c1, c2, c3, c4, c5, a0, a1, a2, a3, a4, b0, b1, b2, b3, b4, c8, c9, c10].drop 2).take (Try.prog.cellsOf 3)) = some y2 := hf 2 _ rfl
    have e3 : DataW.trod enc Try.prog w 0 spare held n 3 (([c0, c1, c2, c3, c4, c5, a0, a1, a2, a3, a4, b0, b1, b2, b3, b4, c8, c9, c10].drop 3).take (Try.prog.cellsOf 3)) = some y3 := hf 3 _ rfl
    have e4 : DataW.trod enc Try.prog w 0 spare held n 9 (([c0, c1, c2, c3, c4, c5, a0, a1, a2, a3, a4, b0, b1, b2, b3, b4, c8, c9, c10].drop 4).take (Try.prog.cellsOf 9)) = some y4 := hf 4 _ rfl
    have e5 : DataW.trod enc Try.prog w 0 spare held n 9 (([c0, c1, c2, c3, c4, c5, a0, a1, a2, a3, a4, b0, b1, b2, b3, b4, c8, c9, c10].drop 5).take (Try.prog.cellsOf 9)) = some y5 := hf 5 _ rfl
    have e6 : DataW.trod enc Try.prog w 0 spare held n 29 (([c0, c1, c2, c3, c4, c5, a0, a1, a2, a3, a4, b0, b1, b2, b3, b4, c8, c9, c10].drop 6).take (Try.prog.cellsOf 29)) = some y6 := hf 6 _ rfl
    have e7 : DataW.trod enc Try.prog w 0 spare held n 29 (([c0, c1, c2, c3, c4, c5, a0, a1, a2, a3, a4, b0, b1, b2, b3, b4, c8, c9, c10].drop 11).take (Try.prog.cellsOf 29)) = some y7 := hf 7 _ rfl
    have e8 : DataW.trod enc Try.prog w 0 spare held n 4 (([c0, c1, c2, c3, c4, c5, a0, a1, a2, a3, a4, b0, b1, b2, b3, b4, c8, c9, c10].drop 16).take (Try.prog.cellsOf 4)) = some y8 := hf 8 _ rfl
    have e9 : DataW.trod enc Try.prog w 0 spare held n 4 (([c0, c1, c2, c3, c4, c5, a0, a1, a2, a3, a4, b0, b1, b2, b3, b4, c8, c9, c10].drop 17).take (Try.prog.cellsOf 4)) = some y9 := hf 9 _ rfl
    have e10 : DataW.trod enc Try.prog w 0 spare held n 3 (([c0, c1, c2, c3, c4, c5, a0, a1, a2, a3, a4, b0, b1, b2, b3, b4, c8, c9, c10].drop 18).take (Try.prog.cellsOf 3)) = some y10 := hf 10 _ rfl
    rw [show Try.prog.cellsOf 3 = 1 by kernel_rfl] at e0 e1 e2 e3 e10
    rw [show Try.prog.cellsOf 9 = 1 by kernel_rfl] at e4 e5
    rw [show Try.prog.cellsOf 29 = 5 by kernel_rfl] at e6 e7
    rw [show Try.prog.cellsOf 4 = 1 by kernel_rfl] at e8 e9
    obtain ⟨v0, h0, _⟩ := DataW.trod_int Try.underlying3 (show DataW.trod enc Try.prog w 0 spare held n 3 [c0] = some y0 from e0)
    obtain ⟨v1, h1, _⟩ := DataW.trod_int Try.underlying3 (show DataW.trod enc Try.prog w 0 spare held n 3 [c1] = some y1 from e1)
    obtain ⟨v2, h2, _⟩ := DataW.trod_int Try.underlying3 (show DataW.trod enc Try.prog w 0 spare held n 3 [c2] = some y2 from e2)
    obtain ⟨v3, h3, _⟩ := DataW.trod_int Try.underlying3 (show DataW.trod enc Try.prog w 0 spare held n 3 [c3] = some y3 from e3)
    obtain ⟨v4, h4, _⟩ := DataW.trod_string Try.underlying9 (show DataW.trod enc Try.prog w 0 spare held n 9 [c4] = some y4 from e4)
    obtain ⟨v5, h5, _⟩ := DataW.trod_string Try.underlying9 (show DataW.trod enc Try.prog w 0 spare held n 9 [c5] = some y5 from e5)
    obtain ⟨v8, h8, _⟩ := DataW.trod_bool Try.underlying4 (show DataW.trod enc Try.prog w 0 spare held n 4 [c8] = some y8 from e8)
    obtain ⟨v9, h9, _⟩ := DataW.trod_bool Try.underlying4 (show DataW.trod enc Try.prog w 0 spare held n 4 [c9] = some y9 from e9)
    obtain ⟨v10, h10, _⟩ := DataW.trod_int Try.underlying3 (show DataW.trod enc Try.prog w 0 spare held n 3 [c10] = some y10 from e10)
    cases h0; cases h1; cases h2; cases h3; cases h4; cases h5; cases h8; cases h9; cases h10
    have h' : ∀ m ∈ DataW.weightsEach Try.prog [3, 3, 3, 3, 9, 9, 29, 29, 4, 4, 3] [y0.1, y1.1, y2.1, y3.1, y4.1, y5.1, y6.1, y7.1, y8.1, y9.1, y10.1], m ≤ 140737488351232 := by
      intro m hm
      refine hl m ?_
      simp only [DataW.weights, Try.underlying31]
      exact hm
    obtain ⟨ta, hta⟩ := rd_value n [a0, a1, a2, a3, a4] y6 (show DataW.trod enc Try.prog w 0 spare held n 29 [a0, a1, a2, a3, a4] = some y6 from e6) (light_each (j := 6) h' rfl rfl)
    obtain ⟨tv, htv⟩ := rd_value n [b0, b1, b2, b3, b4] y7 (show DataW.trod enc Try.prog w 0 spare held n 29 [b0, b1, b2, b3, b4] = some y7 from e7) (light_each (j := 7) h' rfl rfl)
    exact ⟨{ op := v0, run := v1, seen := v2, upto := v3, flow := v4, name := v5, asked := ta, value := tv, query := v8, over := v9, handed := v10 }, _, _, rfl, hta, htv⟩
theorem rd_answer (fuel : Nat) (cs : List Value) (x : DataW H × List MemPlace) (h : DataW.trod enc Try.prog w 0 spare held fuel 52 cs = some x) (hl : Light 52 x.1) : ∃ t, AAt (Live w) w t cs := by
  obtain ⟨xs, n, rfl, rfl, hcl, hxl, hf⟩ := DataW.trod_struct Try.underlying52 h
  have hc5 : cs.length = 6 := hcl.trans (by kernel_rfl)
  match cs, hc5, xs, hxl with
  | [c0, a0, a1, a2, a3, a4], _, [y0, y1], _ =>
    have e0 : DataW.trod enc Try.prog w 0 spare held n 3 (([c0, a0, a1, a2, a3, a4].drop 0).take (Try.prog.cellsOf 3)) = some y0 := hf 0 _ rfl
    have e1 : DataW.trod enc Try.prog w 0 spare held n 29 (([c0, a0, a1, a2, a3, a4].drop 1).take (Try.prog.cellsOf 29)) = some y1 := hf 1 _ rfl
    rw [show Try.prog.cellsOf 3 = 1 by kernel_rfl] at e0
    rw [show Try.prog.cellsOf 29 = 5 by kernel_rfl] at e1
    obtain ⟨v0, h0, _⟩ := DataW.trod_int Try.underlying3 (show DataW.trod enc Try.prog w 0 spare held n 3 [c0] = some y0 from e0)
    cases h0
    have h' : ∀ m ∈ DataW.weightsEach Try.prog [3, 29] [y0.1, y1.1], m ≤ 140737488351232 := by
      intro m hm
      refine hl m ?_
      simp only [DataW.weights, Try.underlying52]
      exact hm
    obtain ⟨ta, hta⟩ := rd_value n [a0, a1, a2, a3, a4] y1 (show DataW.trod enc Try.prog w 0 spare held n 29 [a0, a1, a2, a3, a4] = some y1 from e1) (light_each (j := 1) h' rfl rfl)
    exact ⟨⟨v0, ta⟩, _, rfl, hta⟩
/-- what the walk is told of a list of waits, and of answers -/
def IsWaits (w : World) (a : Option Addr) (n cap : Nat) (ws : List WT) : Prop := ws.length = n ∧ Sl 19 (WAt (Live w) w) (Live w) w a ws ∧ n ≤ cap ∧ cap ≤ 9223372036854775807 ∧ (a = none → cap = 0)
def IsAnswers (w : World) (a : Option Addr) (n cap : Nat) (ws : List AT) : Prop := ws.length = n ∧ Sl 6 (AAt (Live w) w) (Live w) w a ws ∧ n ≤ cap ∧ cap ≤ 9223372036854775807 ∧ (a = none → cap = 0)
theorem rd_waits {a : Option Addr} {n cap : Nat} {d : DataW H} {p : List MemPlace} (h : DataW.Trod enc Try.prog w 0 spare held 22 (.slice a n cap) d p) (hl : Light 22 d) : ∃ ws, IsWaits w a n cap ws := by
  obtain ⟨fuel, hf⟩ := h
  obtain ⟨a', cap', l, hc, h1, h2, h3, h4, h5⟩ := rd_slice Try.underlying22 (show Try.prog.cellsOf 31 = 19 by kernel_rfl) (by decide) (WAt (Live w) w) hf hl (fun n' _ cs y hy hly => rd_wait n' cs y hy hly)
  cases hc
  exact ⟨l, rfl, h1, h2, h3, h5⟩
theorem rd_answers {a : Option Addr} {n cap : Nat} {d : DataW H} {p : List MemPlace} (h : DataW.Trod enc Try.prog w 0 spare held 23 (.slice a n cap) d p) (hl : Light 23 d) : ∃ ws, IsAnswers w a n cap ws := by
  obtain ⟨fuel, hf⟩ := h
  obtain ⟨a', cap', l, hc, h1, h2, h3, h4, h5⟩ := rd_slice Try.underlying23 (show Try.prog.cellsOf 52 = 6 by kernel_rfl) (by decide) (AAt (Live w) w) hf hl (fun n' _ cs y hy hly => rd_answer n' cs y hy hly)
  cases hc
  exact ⟨l, rfl, h1, h2, h3, h5⟩
end
end Go.Proofs.Ytncmjkaclfcbmaa
