/- How a state that was handed in reads. -/
import Derived.Test.YtidoacdigedlnaaMem
import Derived.Deep.Slices
import Derived.SizedLaws
set_option linter.unusedVariables false
set_option maxRecDepth 100000
namespace Go.Proofs.Ytidoacdigedlnaa
open Go.RowKit Go.ChangeShapes Go.WideShapes

theorem u64_nat {v : Int} (h : (Lit.int .u64 v).wf = true) : ∃ m : Nat, v = (m : Int) ∧ m < 18446744073709551616 := by
  have h2 : (0 : Int) ≤ v ∧ v ≤ 18446744073709551615 := by
    simp [Lit.wf, IntKind.min, IntKind.max, IntKind.signed, IntKind.bits] at h
    omega
  exact ⟨v.toNat, by omega, by omega⟩
section
variable {H : Type} {enc : TypeId × Value → H} {w : World} {spare : Nat → Bool} {held : Bool}
def Light (t : TypeId) (d : DataW H) : Prop := ∀ m ∈ d.weights Try.prog t, m ≤ 140737488351232
theorem light_each {ts : List TypeId} {ds : List (DataW H)} (h : ∀ m ∈ DataW.weightsEach Try.prog ts ds, m ≤ 140737488351232) {j : Nat} {t : TypeId} {d : DataW H} (ht : ts[j]? = some t) (hd : ds[j]? = some d) : Light t d :=
  fun m hm => h m (DataW.weights_mem_each ht hd m hm)
theorem weights_mem_all {P : Program} {e : TypeId} : ∀ {ds : List (DataW H)} {d : DataW H}, d ∈ ds → ∀ n ∈ d.weights P e, n ∈ DataW.weightsAll P e ds
  | d0 :: ds, d, hd, n, hn => by
    simp only [DataW.weightsAll, List.mem_append]
    rcases List.mem_cons.1 hd with rfl | hd
    · exact .inl hn
    · exact .inr (weights_mem_all hd n hn)
theorem els_of {α : Type} {k b off : Nat} {R : α → List Value → Prop} : ∀ (len : Nat), (∀ i, i < len → ∃ (t : α) (cs : List Value), cs.length = k ∧ R t cs ∧ w.rangeAt b (off + i * k) cs) → ∃ (l : List α) (xs : List Value), l.length = len ∧ Els k R l xs ∧ w.rangeAt b off xs
  | 0, _ => ⟨[], [], rfl, rfl, fun j v hv => by simp at hv⟩
  | len + 1, h => by
    obtain ⟨l, xs, h1, h2, h3⟩ := els_of len fun i hi => h i (by omega)
    obtain ⟨t, cs, c1, c2, c3⟩ := h len (by omega)
    refine ⟨l ++ [t], xs ++ cs, by simp [h1], Els.snoc c1 c2 h2, fun j v hv => ?_⟩
    have hx := h2.len
    rw [h1] at hx
    by_cases hj : j < xs.length
    · rw [List.getElem?_append_left hj] at hv; exact h3 j v hv
    · rw [List.getElem?_append_right (by omega)] at hv
      have := c3 _ v hv
      rw [show off + j = off + len * k + (j - xs.length) by omega]; exact this
theorem rd_slice {α : Type} {T E k : Nat} (hT : Try.prog.underlying T = some (.slice E)) (hE : Try.prog.cellsOf E = k) (hk : 0 < k) (R : α → List Value → Prop) {fuel : Nat} {cs : List Value} {x : DataW H × List MemPlace}
    (h : DataW.trod enc Try.prog w 0 spare held fuel T cs = some x) (hl : Light T x.1)
    (hel : ∀ n, n < fuel → ∀ (cs : List Value) (y : DataW H × List MemPlace), DataW.trod enc Try.prog w 0 spare held n E cs = some y → Light E y.1 → ∃ t, R t cs) :
    ∃ (a : Option Addr) (cap : Nat) (l : List α), cs = [.slice a l.length cap] ∧ Sl k R (Live w) w a l ∧ l.length ≤ cap ∧ cap ≤ 9223372036854775807 ∧ l.length * Try.prog.bytesOf E ≤ 140737488351232 ∧ (a = none → cap = 0) := by
  rcases DataW.trod_slice hT h with ⟨rfl, rfl⟩ | ⟨a, len, cap, elems, rest, n, hn, rfl, rfl, hb, hlc, hm, hlen, hel', _, _⟩
  · exact ⟨none, 0, [], rfl, Sl.nil _ _ _ _ _, Nat.le_refl _, by decide, by simp, fun _ => rfl⟩
  rw [hE] at hel'
  have hw : len * Try.prog.bytesOf E ≤ 140737488351232 := by
    have := hl ((elems.map (·.1)).length * Try.prog.bytesOf E + (rest.map (·.1)).length * Try.prog.bytesOf E) (by
      rw [← Nat.add_mul]
      simp [DataW.weights, hT])
    simp only [List.length_map, hlen] at this
    omega
  have hcell : ∀ i, i < len → ∃ (t : α) (cs : List Value), cs.length = k ∧ R t cs ∧ ∀ j, j < k → w.cell? (a.add (i * k + j)) = cs[j]? := by
    intro i hi
    have e := hel' i hi
    obtain ⟨y, hy⟩ : ∃ y, elems[i]? = some y := ⟨_, List.getElem?_eq_getElem (by omega)⟩
    rw [hy] at e
    obtain ⟨ds, hd1, hd2⟩ := Option.bind_eq_some_iff.1 e
    obtain ⟨_, hcl, hat⟩ := World.cells?_some hd1
    have hym : y ∈ elems := List.mem_of_getElem? hy
    obtain ⟨t, ht⟩ := hel n (by omega) ds y hd2 (fun m hm => hl m (by
      simp only [DataW.weights, hT, List.mem_cons, List.mem_append]
      exact .inr (.inl (weights_mem_all (List.mem_map.2 ⟨y, hym, rfl⟩) m hm))))
    exact ⟨t, ds, hcl, ht, fun j hj => by rw [← Go.Deep.add_add]; exact hat j hj⟩
  by_cases h0 : len = 0
  · subst h0
    exact ⟨some a, cap, [], rfl, Sl.nil _ _ _ _ _, Nat.zero_le _, hm, by simp, fun h => by cases h⟩
  obtain ⟨b, off, spot⟩ := a
  have hsp : spot = none := by
    obtain ⟨t, ds, hcl, _, hat⟩ := hcell 0 (by omega)
    have h1 := hat 0 hk
    rw [List.getElem?_eq_getElem (by omega)] at h1
    have := World.cell?_spot h1
    simpa [Addr.add] using this
  subst hsp
  have hlive : Live w b := by
    obtain ⟨t, ds, hcl, _, hat⟩ := hcell 0 (by omega)
    have h1 := hat 0 hk
    rw [List.getElem?_eq_getElem (by omega)] at h1
    have := block_lt_of_cell h1
    show b < w.heap.size
    simpa [Addr.add] using this
  obtain ⟨l, xs, l1, l2, l3⟩ := els_of (w := w) (k := k) (b := b) (off := off) (R := R) len (fun i hi => by
    obtain ⟨t, ds, hcl, ht, hat⟩ := hcell i hi
    refine ⟨t, ds, hcl, ht, fun j v hv => ?_⟩
    have hj : j < k := by have := (List.getElem?_eq_some_iff.1 hv).1; omega
    have := hat j hj
    rw [Addr.add_mid, ← Nat.add_assoc] at this
    rw [this]; exact hv)
  subst l1
  exact ⟨_, cap, l, rfl, ⟨xs, l2, fun _ => ⟨b, off, rfl, hlive, l3⟩⟩, hlc, hm, hw, fun h => by cases h⟩
theorem rd_value : ∀ (fuel : Nat) (cs : List Value) (x : DataW H × List MemPlace), DataW.trod enc Try.prog w 0 spare held fuel 25 cs = some x → Light 25 x.1 → ∃ t, VAt (Live w) w t cs := by
  intro fuel
  induction fuel using Nat.strongRecOn with
  | ind fuel ih =>
    intro cs x h hl
    obtain ⟨xs, n, rfl, rfl, hcl, hxl, hf⟩ := DataW.trod_struct Try.underlying25 h
    have hc5 : cs.length = 5 := hcl.trans (by kernel_rfl)
    match cs, hc5, xs, hxl with
    | [c0, c1, c2, c3, c4], _, [y0, y1, y2, y3, y4], _ =>
      have e0 : DataW.trod enc Try.prog w 0 spare held n 3 (([c0, c1, c2, c3, c4].drop 0).take (Try.prog.cellsOf 3)) = some y0 := hf 0 _ rfl
      have e1 : DataW.trod enc Try.prog w 0 spare held n 3 (([c0, c1, c2, c3, c4].drop 1).take (Try.prog.cellsOf 3)) = some y1 := hf 1 _ rfl
      have e2 : DataW.trod enc Try.prog w 0 spare held n 22 (([c0, c1, c2, c3, c4].drop 2).take (Try.prog.cellsOf 22)) = some y2 := hf 2 _ rfl
      have e3 : DataW.trod enc Try.prog w 0 spare held n 9 (([c0, c1, c2, c3, c4].drop 3).take (Try.prog.cellsOf 9)) = some y3 := hf 3 _ rfl
      have e4 : DataW.trod enc Try.prog w 0 spare held n 23 (([c0, c1, c2, c3, c4].drop 4).take (Try.prog.cellsOf 23)) = some y4 := hf 4 _ rfl
      rw [show Try.prog.cellsOf 3 = 1 by kernel_rfl] at e0 e1
      rw [show Try.prog.cellsOf 22 = 1 by kernel_rfl] at e2
      rw [show Try.prog.cellsOf 9 = 1 by kernel_rfl] at e3
      rw [show Try.prog.cellsOf 23 = 1 by kernel_rfl] at e4
      obtain ⟨k, hk, _⟩ := DataW.trod_int Try.underlying3 (show DataW.trod enc Try.prog w 0 spare held n 3 [c0] = some y0 from e0)
      obtain ⟨m, hm, _⟩ := DataW.trod_int Try.underlying3 (show DataW.trod enc Try.prog w 0 spare held n 3 [c1] = some y1 from e1)
      obtain ⟨b, hb, _⟩ := DataW.trod_int Try.underlying22 (show DataW.trod enc Try.prog w 0 spare held n 22 [c2] = some y2 from e2)
      obtain ⟨s, hs, _⟩ := DataW.trod_string Try.underlying9 (show DataW.trod enc Try.prog w 0 spare held n 9 [c3] = some y3 from e3)
      cases hk; cases hm; cases hb; cases hs
      have hl4 : Light 23 y4.1 := by
        have h' : ∀ m ∈ DataW.weightsEach Try.prog [3, 3, 22, 9, 23] [y0.1, y1.1, y2.1, y3.1, y4.1], m ≤ 140737488351232 := by
          intro m hm
          refine hl m ?_
          simp only [DataW.weights, Try.underlying25]
          exact hm
        exact light_each (j := 4) h' rfl rfl
      obtain ⟨a, cap, l, hc, hsl, h1, h2, h3, h4⟩ := rd_slice Try.underlying23 (show Try.prog.cellsOf 25 = 5 by kernel_rfl) (by decide) (VAt (Live w) w) (show DataW.trod enc Try.prog w 0 spare held n 23 [c4] = some y4 from e4) hl4 (fun n' hn' cs y hy hly => ih n' (by omega) cs y hy hly)
      cases hc
      rw [show Try.prog.bytesOf 25 = 64 by kernel_rfl] at h3
      exact ⟨.mk k m b s l, VAt_mk.2 ⟨a, cap, rfl, hsl, h1, h2, h3⟩⟩
theorem rd_timer (fuel : Nat) (cs : List Value) (x : DataW H × List MemPlace) (h : DataW.trod enc Try.prog w 0 spare held fuel 52 cs = some x) (hl : Light 52 x.1) : ∃ t, TMAt (Live w) w t cs := by
  obtain ⟨xs, n, rfl, rfl, hcl, hxl, hf⟩ := DataW.trod_struct Try.underlying52 h
  have hcc : cs.length = 2 := hcl.trans (by kernel_rfl)
  match cs, hcc, xs, hxl with
  | [c0, c1], _, [y0, y1], _ =>
    have e0 : DataW.trod enc Try.prog w 0 spare held n 9 (([c0, c1].drop 0).take (Try.prog.cellsOf 9)) = some y0 := hf 0 _ rfl
    have e1 : DataW.trod enc Try.prog w 0 spare held n 3 (([c0, c1].drop 1).take (Try.prog.cellsOf 3)) = some y1 := hf 1 _ rfl
    rw [show Try.prog.cellsOf 9 = 1 by kernel_rfl] at e0
    rw [show Try.prog.cellsOf 3 = 1 by kernel_rfl] at e1
    obtain ⟨v0, h0, _⟩ := DataW.trod_string Try.underlying9 (show DataW.trod enc Try.prog w 0 spare held n 9 [c0] = some y0 from e0)
    cases h0
    obtain ⟨v1, h1, _⟩ := DataW.trod_int Try.underlying3 (show DataW.trod enc Try.prog w 0 spare held n 3 [c1] = some y1 from e1)
    cases h1
    have h' : ∀ m ∈ DataW.weightsEach Try.prog [9, 3] [y0.1, y1.1], m ≤ 140737488351232 := by
      intro m hm
      refine hl m ?_
      simp only [DataW.weights, Try.underlying52]
      exact hm
    exact ⟨⟨v0, v1⟩, rfl⟩
theorem rd_update (fuel : Nat) (cs : List Value) (x : DataW H × List MemPlace) (h : DataW.trod enc Try.prog w 0 spare held fuel 70 cs = some x) (hl : Light 70 x.1) : ∃ t, UAt (Live w) w t cs := by
  obtain ⟨xs, n, rfl, rfl, hcl, hxl, hf⟩ := DataW.trod_struct Try.underlying70 h
  have hcc : cs.length = 12 := hcl.trans (by kernel_rfl)
  match cs, hcc, xs, hxl with
  | [c0, a0, a1, a2, a3, a4, c6, b0, b1, b2, b3, b4], _, [y0, y1, y2, y3], _ =>
    have e0 : DataW.trod enc Try.prog w 0 spare held n 9 (([c0, a0, a1, a2, a3, a4, c6, b0, b1, b2, b3, b4].drop 0).take (Try.prog.cellsOf 9)) = some y0 := hf 0 _ rfl
    have e1 : DataW.trod enc Try.prog w 0 spare held n 25 (([c0, a0, a1, a2, a3, a4, c6, b0, b1, b2, b3, b4].drop 1).take (Try.prog.cellsOf 25)) = some y1 := hf 1 _ rfl
    have e2 : DataW.trod enc Try.prog w 0 spare held n 3 (([c0, a0, a1, a2, a3, a4, c6, b0, b1, b2, b3, b4].drop 6).take (Try.prog.cellsOf 3)) = some y2 := hf 2 _ rfl
    have e3 : DataW.trod enc Try.prog w 0 spare held n 25 (([c0, a0, a1, a2, a3, a4, c6, b0, b1, b2, b3, b4].drop 7).take (Try.prog.cellsOf 25)) = some y3 := hf 3 _ rfl
    rw [show Try.prog.cellsOf 9 = 1 by kernel_rfl] at e0
    rw [show Try.prog.cellsOf 25 = 5 by kernel_rfl] at e1 e3
    rw [show Try.prog.cellsOf 3 = 1 by kernel_rfl] at e2
    obtain ⟨v0, h0, _⟩ := DataW.trod_string Try.underlying9 (show DataW.trod enc Try.prog w 0 spare held n 9 [c0] = some y0 from e0)
    cases h0
    obtain ⟨v2, h2, _⟩ := DataW.trod_int Try.underlying3 (show DataW.trod enc Try.prog w 0 spare held n 3 [c6] = some y2 from e2)
    cases h2
    have h' : ∀ m ∈ DataW.weightsEach Try.prog [9, 25, 3, 25] [y0.1, y1.1, y2.1, y3.1], m ≤ 140737488351232 := by
      intro m hm
      refine hl m ?_
      simp only [DataW.weights, Try.underlying70]
      exact hm
    obtain ⟨t1, ht1⟩ := rd_value n [a0, a1, a2, a3, a4] y1 (show DataW.trod enc Try.prog w 0 spare held n 25 [a0, a1, a2, a3, a4] = some y1 from e1) (light_each (j := 1) h' rfl rfl)
    obtain ⟨t3, ht3⟩ := rd_value n [b0, b1, b2, b3, b4] y3 (show DataW.trod enc Try.prog w 0 spare held n 25 [b0, b1, b2, b3, b4] = some y3 from e3) (light_each (j := 3) h' rfl rfl)
    exact ⟨⟨v0, t1, v2, t3⟩, _, _, rfl, ht1, ht3⟩
theorem rd_policy (fuel : Nat) (cs : List Value) (x : DataW H × List MemPlace) (h : DataW.trod enc Try.prog w 0 spare held fuel 27 cs = some x) (hl : Light 27 x.1) : ∃ t : Int × Nat × Int, cs = [.int .i64 t.1, .int .u64 (t.2.1 : Int), .int .i64 t.2.2] ∧ t.2.1 < 18446744073709551616 := by
  obtain ⟨xs, n, rfl, rfl, hcl, hxl, hf⟩ := DataW.trod_struct Try.underlying27 h
  have hcc : cs.length = 3 := hcl.trans (by kernel_rfl)
  match cs, hcc, xs, hxl with
  | [c0, c1, c2], _, [y0, y1, y2], _ =>
    have e0 : DataW.trod enc Try.prog w 0 spare held n 3 (([c0, c1, c2].drop 0).take (Try.prog.cellsOf 3)) = some y0 := hf 0 _ rfl
    have e1 : DataW.trod enc Try.prog w 0 spare held n 22 (([c0, c1, c2].drop 1).take (Try.prog.cellsOf 22)) = some y1 := hf 1 _ rfl
    have e2 : DataW.trod enc Try.prog w 0 spare held n 3 (([c0, c1, c2].drop 2).take (Try.prog.cellsOf 3)) = some y2 := hf 2 _ rfl
    rw [show Try.prog.cellsOf 3 = 1 by kernel_rfl] at e0 e2
    rw [show Try.prog.cellsOf 22 = 1 by kernel_rfl] at e1
    obtain ⟨v0, h0, _⟩ := DataW.trod_int Try.underlying3 (show DataW.trod enc Try.prog w 0 spare held n 3 [c0] = some y0 from e0)
    cases h0
    obtain ⟨v1, h1, hw1⟩ := DataW.trod_int Try.underlying22 (show DataW.trod enc Try.prog w 0 spare held n 22 [c1] = some y1 from e1)
    cases h1
    obtain ⟨v2, h2, _⟩ := DataW.trod_int Try.underlying3 (show DataW.trod enc Try.prog w 0 spare held n 3 [c2] = some y2 from e2)
    cases h2
    have h' : ∀ m ∈ DataW.weightsEach Try.prog [3, 22, 3] [y0.1, y1.1, y2.1], m ≤ 140737488351232 := by
      intro m hm
      refine hl m ?_
      simp only [DataW.weights, Try.underlying27]
      exact hm
    obtain ⟨m, rfl, hm⟩ := u64_nat hw1.2
    exact ⟨⟨v0, m, v2⟩, rfl, hm⟩
theorem rd_task (fuel : Nat) (cs : List Value) (x : DataW H × List MemPlace) (h : DataW.trod enc Try.prog w 0 spare held fuel 29 cs = some x) (hl : Light 29 x.1) : ∃ t : TK, cs = [.int .i64 t.state, .int .i64 t.attempt, .int .i64 t.due, .int .i64 t.event, .int .i64 t.seen] := by
  obtain ⟨xs, n, rfl, rfl, hcl, hxl, hf⟩ := DataW.trod_struct Try.underlying29 h
  have hcc : cs.length = 5 := hcl.trans (by kernel_rfl)
  match cs, hcc, xs, hxl with
  | [c0, c1, c2, c3, c4], _, [y0, y1, y2, y3, y4], _ =>
    have e0 : DataW.trod enc Try.prog w 0 spare held n 3 (([c0, c1, c2, c3, c4].drop 0).take (Try.prog.cellsOf 3)) = some y0 := hf 0 _ rfl
    have e1 : DataW.trod enc Try.prog w 0 spare held n 3 (([c0, c1, c2, c3, c4].drop 1).take (Try.prog.cellsOf 3)) = some y1 := hf 1 _ rfl
    have e2 : DataW.trod enc Try.prog w 0 spare held n 3 (([c0, c1, c2, c3, c4].drop 2).take (Try.prog.cellsOf 3)) = some y2 := hf 2 _ rfl
    have e3 : DataW.trod enc Try.prog w 0 spare held n 3 (([c0, c1, c2, c3, c4].drop 3).take (Try.prog.cellsOf 3)) = some y3 := hf 3 _ rfl
    have e4 : DataW.trod enc Try.prog w 0 spare held n 3 (([c0, c1, c2, c3, c4].drop 4).take (Try.prog.cellsOf 3)) = some y4 := hf 4 _ rfl
    rw [show Try.prog.cellsOf 3 = 1 by kernel_rfl] at e0 e1 e2 e3 e4
    obtain ⟨v0, h0, _⟩ := DataW.trod_int Try.underlying3 (show DataW.trod enc Try.prog w 0 spare held n 3 [c0] = some y0 from e0)
    cases h0
    obtain ⟨v1, h1, _⟩ := DataW.trod_int Try.underlying3 (show DataW.trod enc Try.prog w 0 spare held n 3 [c1] = some y1 from e1)
    cases h1
    obtain ⟨v2, h2, _⟩ := DataW.trod_int Try.underlying3 (show DataW.trod enc Try.prog w 0 spare held n 3 [c2] = some y2 from e2)
    cases h2
    obtain ⟨v3, h3, _⟩ := DataW.trod_int Try.underlying3 (show DataW.trod enc Try.prog w 0 spare held n 3 [c3] = some y3 from e3)
    cases h3
    obtain ⟨v4, h4, _⟩ := DataW.trod_int Try.underlying3 (show DataW.trod enc Try.prog w 0 spare held n 3 [c4] = some y4 from e4)
    cases h4
    have h' : ∀ m ∈ DataW.weightsEach Try.prog [3, 3, 3, 3, 3] [y0.1, y1.1, y2.1, y3.1, y4.1], m ≤ 140737488351232 := by
      intro m hm
      refine hl m ?_
      simp only [DataW.weights, Try.underlying29]
      exact hm
    exact ⟨⟨v0, v1, v2, v3, v4⟩, rfl⟩
set_option maxHeartbeats 1600000 in
theorem rd_state (fuel : Nat) (cs : List Value) (x : DataW H × List MemPlace) (h : DataW.trod enc Try.prog w 0 spare held fuel 33 cs = some x) (hl : Light 33 x.1) : ∃ t, SAt (Live w) w t cs := by
  obtain ⟨xs, n, rfl, rfl, hcl, hxl, hf⟩ := DataW.trod_struct Try.underlying33 h
  have hcc : cs.length = 31 := hcl.trans (by kernel_rfl)
  match cs, hcc, xs, hxl with
  | [c0, c1, c2, c3, c4, c5, c6, c7, a0_, a1_, a2_, a3_, a4_, p0_, p1_, p2_, t0_, t1_, t2_, t3_, t4_, f_, g_, ti_, up_, r0_, r1_, r2_, r3_, r4_, z_], _, [y0, y1, y2, y3, y4, y5, y6, y7, y8, y9, y10, y11, y12, y13, y14, y15, y16], _ =>
    have e0 : DataW.trod enc Try.prog w 0 spare held n 3 (([c0, c1, c2, c3, c4, c5, c6, c7, a0_, a1_, a2_, a3_, a4_, p0_, p1_, p2_, t0_, t1_, t2_, t3_, t4_, f_, g_, ti_, up_, r0_, r1_, r2_, r3_, r4_, z_].drop 0).take (Try.prog.cellsOf 3)) = some y0 := hf 0 _ rfl
    have e1 : DataW.trod enc Try.prog w 0 spare held n 3 (([c0, c1, c2, c3, c4, c5, c6, c7, a0_, a1_, a2_, a3_, a4_, p0_, p1_, p2_, t0_, t1_, t2_, t3_, t4_, f_, g_, ti_, up_, r0_, r1_, r2_, r3_, r4_, z_].drop 1).take (Try.prog.cellsOf 3)) = some y1 := hf 1 _ rfl
    have e2 : DataW.trod enc Try.prog w 0 spare held n 3 (([c0, c1, c2, c3, c4, c5, c6, c7, a0_, a1_, a2_, a3_, a4_, p0_, p1_, p2_, t0_, t1_, t2_, t3_, t4_, f_, g_, ti_, up_, r0_, r1_, r2_, r3_, r4_, z_].drop 2).take (Try.prog.cellsOf 3)) = some y2 := hf 2 _ rfl
    have e3 : DataW.trod enc Try.prog w 0 spare held n 3 (([c0, c1, c2, c3, c4, c5, c6, c7, a0_, a1_, a2_, a3_, a4_, p0_, p1_, p2_, t0_, t1_, t2_, t3_, t4_, f_, g_, ti_, up_, r0_, r1_, r2_, r3_, r4_, z_].drop 3).take (Try.prog.cellsOf 3)) = some y3 := hf 3 _ rfl
    have e4 : DataW.trod enc Try.prog w 0 spare held n 3 (([c0, c1, c2, c3, c4, c5, c6, c7, a0_, a1_, a2_, a3_, a4_, p0_, p1_, p2_, t0_, t1_, t2_, t3_, t4_, f_, g_, ti_, up_, r0_, r1_, r2_, r3_, r4_, z_].drop 4).take (Try.prog.cellsOf 3)) = some y4 := hf 4 _ rfl
    have e5 : DataW.trod enc Try.prog w 0 spare held n 3 (([c0, c1, c2, c3, c4, c5, c6, c7, a0_, a1_, a2_, a3_, a4_, p0_, p1_, p2_, t0_, t1_, t2_, t3_, t4_, f_, g_, ti_, up_, r0_, r1_, r2_, r3_, r4_, z_].drop 5).take (Try.prog.cellsOf 3)) = some y5 := hf 5 _ rfl
    have e6 : DataW.trod enc Try.prog w 0 spare held n 3 (([c0, c1, c2, c3, c4, c5, c6, c7, a0_, a1_, a2_, a3_, a4_, p0_, p1_, p2_, t0_, t1_, t2_, t3_, t4_, f_, g_, ti_, up_, r0_, r1_, r2_, r3_, r4_, z_].drop 6).take (Try.prog.cellsOf 3)) = some y6 := hf 6 _ rfl
    have e7 : DataW.trod enc Try.prog w 0 spare held n 9 (([c0, c1, c2, c3, c4, c5, c6, c7, a0_, a1_, a2_, a3_, a4_, p0_, p1_, p2_, t0_, t1_, t2_, t3_, t4_, f_, g_, ti_, up_, r0_, r1_, r2_, r3_, r4_, z_].drop 7).take (Try.prog.cellsOf 9)) = some y7 := hf 7 _ rfl
    have e8 : DataW.trod enc Try.prog w 0 spare held n 25 (([c0, c1, c2, c3, c4, c5, c6, c7, a0_, a1_, a2_, a3_, a4_, p0_, p1_, p2_, t0_, t1_, t2_, t3_, t4_, f_, g_, ti_, up_, r0_, r1_, r2_, r3_, r4_, z_].drop 8).take (Try.prog.cellsOf 25)) = some y8 := hf 8 _ rfl
    have e9 : DataW.trod enc Try.prog w 0 spare held n 27 (([c0, c1, c2, c3, c4, c5, c6, c7, a0_, a1_, a2_, a3_, a4_, p0_, p1_, p2_, t0_, t1_, t2_, t3_, t4_, f_, g_, ti_, up_, r0_, r1_, r2_, r3_, r4_, z_].drop 13).take (Try.prog.cellsOf 27)) = some y9 := hf 9 _ rfl
    have e10 : DataW.trod enc Try.prog w 0 spare held n 29 (([c0, c1, c2, c3, c4, c5, c6, c7, a0_, a1_, a2_, a3_, a4_, p0_, p1_, p2_, t0_, t1_, t2_, t3_, t4_, f_, g_, ti_, up_, r0_, r1_, r2_, r3_, r4_, z_].drop 16).take (Try.prog.cellsOf 29)) = some y10 := hf 10 _ rfl
    have e11 : DataW.trod enc Try.prog w 0 spare held n 4 (([c0, c1, c2, c3, c4, c5, c6, c7, a0_, a1_, a2_, a3_, a4_, p0_, p1_, p2_, t0_, t1_, t2_, t3_, t4_, f_, g_, ti_, up_, r0_, r1_, r2_, r3_, r4_, z_].drop 21).take (Try.prog.cellsOf 4)) = some y11 := hf 11 _ rfl
    have e12 : DataW.trod enc Try.prog w 0 spare held n 4 (([c0, c1, c2, c3, c4, c5, c6, c7, a0_, a1_, a2_, a3_, a4_, p0_, p1_, p2_, t0_, t1_, t2_, t3_, t4_, f_, g_, ti_, up_, r0_, r1_, r2_, r3_, r4_, z_].drop 22).take (Try.prog.cellsOf 4)) = some y12 := hf 12 _ rfl
    have e13 : DataW.trod enc Try.prog w 0 spare held n 30 (([c0, c1, c2, c3, c4, c5, c6, c7, a0_, a1_, a2_, a3_, a4_, p0_, p1_, p2_, t0_, t1_, t2_, t3_, t4_, f_, g_, ti_, up_, r0_, r1_, r2_, r3_, r4_, z_].drop 23).take (Try.prog.cellsOf 30)) = some y13 := hf 13 _ rfl
    have e14 : DataW.trod enc Try.prog w 0 spare held n 31 (([c0, c1, c2, c3, c4, c5, c6, c7, a0_, a1_, a2_, a3_, a4_, p0_, p1_, p2_, t0_, t1_, t2_, t3_, t4_, f_, g_, ti_, up_, r0_, r1_, r2_, r3_, r4_, z_].drop 24).take (Try.prog.cellsOf 31)) = some y14 := hf 14 _ rfl
    have e15 : DataW.trod enc Try.prog w 0 spare held n 25 (([c0, c1, c2, c3, c4, c5, c6, c7, a0_, a1_, a2_, a3_, a4_, p0_, p1_, p2_, t0_, t1_, t2_, t3_, t4_, f_, g_, ti_, up_, r0_, r1_, r2_, r3_, r4_, z_].drop 25).take (Try.prog.cellsOf 25)) = some y15 := hf 15 _ rfl
    have e16 : DataW.trod enc Try.prog w 0 spare held n 9 (([c0, c1, c2, c3, c4, c5, c6, c7, a0_, a1_, a2_, a3_, a4_, p0_, p1_, p2_, t0_, t1_, t2_, t3_, t4_, f_, g_, ti_, up_, r0_, r1_, r2_, r3_, r4_, z_].drop 30).take (Try.prog.cellsOf 9)) = some y16 := hf 16 _ rfl
    rw [show Try.prog.cellsOf 3 = 1 by kernel_rfl] at e0 e1 e2 e3 e4 e5 e6
    rw [show Try.prog.cellsOf 9 = 1 by kernel_rfl] at e7 e16
    rw [show Try.prog.cellsOf 25 = 5 by kernel_rfl] at e8 e15
    rw [show Try.prog.cellsOf 27 = 3 by kernel_rfl] at e9
    rw [show Try.prog.cellsOf 29 = 5 by kernel_rfl] at e10
    rw [show Try.prog.cellsOf 4 = 1 by kernel_rfl] at e11 e12
    rw [show Try.prog.cellsOf 30 = 1 by kernel_rfl] at e13
    rw [show Try.prog.cellsOf 31 = 1 by kernel_rfl] at e14
    obtain ⟨v0, h0, _⟩ := DataW.trod_int Try.underlying3 (show DataW.trod enc Try.prog w 0 spare held n 3 [c0] = some y0 from e0)
    cases h0
    obtain ⟨v1, h1, _⟩ := DataW.trod_int Try.underlying3 (show DataW.trod enc Try.prog w 0 spare held n 3 [c1] = some y1 from e1)
    cases h1
    obtain ⟨v2, h2, _⟩ := DataW.trod_int Try.underlying3 (show DataW.trod enc Try.prog w 0 spare held n 3 [c2] = some y2 from e2)
    cases h2
    obtain ⟨v3, h3, _⟩ := DataW.trod_int Try.underlying3 (show DataW.trod enc Try.prog w 0 spare held n 3 [c3] = some y3 from e3)
    cases h3
    obtain ⟨v4, h4, _⟩ := DataW.trod_int Try.underlying3 (show DataW.trod enc Try.prog w 0 spare held n 3 [c4] = some y4 from e4)
    cases h4
    obtain ⟨v5, h5, _⟩ := DataW.trod_int Try.underlying3 (show DataW.trod enc Try.prog w 0 spare held n 3 [c5] = some y5 from e5)
    cases h5
    obtain ⟨v6, h6, _⟩ := DataW.trod_int Try.underlying3 (show DataW.trod enc Try.prog w 0 spare held n 3 [c6] = some y6 from e6)
    cases h6
    obtain ⟨v7, h7, _⟩ := DataW.trod_string Try.underlying9 (show DataW.trod enc Try.prog w 0 spare held n 9 [c7] = some y7 from e7)
    cases h7
    obtain ⟨v11, h11, _⟩ := DataW.trod_bool Try.underlying4 (show DataW.trod enc Try.prog w 0 spare held n 4 [f_] = some y11 from e11)
    cases h11
    obtain ⟨v12, h12, _⟩ := DataW.trod_bool Try.underlying4 (show DataW.trod enc Try.prog w 0 spare held n 4 [g_] = some y12 from e12)
    cases h12
    obtain ⟨v16, h16, _⟩ := DataW.trod_string Try.underlying9 (show DataW.trod enc Try.prog w 0 spare held n 9 [z_] = some y16 from e16)
    cases h16
    have h' : ∀ m ∈ DataW.weightsEach Try.prog [3, 3, 3, 3, 3, 3, 3, 9, 25, 27, 29, 4, 4, 30, 31, 25, 9] [y0.1, y1.1, y2.1, y3.1, y4.1, y5.1, y6.1, y7.1, y8.1, y9.1, y10.1, y11.1, y12.1, y13.1, y14.1, y15.1, y16.1], m ≤ 140737488351232 := by
      intro m hm
      refine hl m ?_
      simp only [DataW.weights, Try.underlying33]
      exact hm
    obtain ⟨t8, ht8⟩ := rd_value n [a0_, a1_, a2_, a3_, a4_] y8 (show DataW.trod enc Try.prog w 0 spare held n 25 [a0_, a1_, a2_, a3_, a4_] = some y8 from e8) (light_each (j := 8) h' rfl rfl)
    obtain ⟨t9, ht9⟩ := rd_policy n [p0_, p1_, p2_] y9 (show DataW.trod enc Try.prog w 0 spare held n 27 [p0_, p1_, p2_] = some y9 from e9) (light_each (j := 9) h' rfl rfl)
    obtain ⟨t10, ht10⟩ := rd_task n [t0_, t1_, t2_, t3_, t4_] y10 (show DataW.trod enc Try.prog w 0 spare held n 29 [t0_, t1_, t2_, t3_, t4_] = some y10 from e10) (light_each (j := 10) h' rfl rfl)
    obtain ⟨a13, p13, l13, hc13, s13, b13, g13, bb13, _⟩ := rd_slice Try.underlying30 (show Try.prog.cellsOf 52 = 2 by kernel_rfl) (by decide) (TMAt (Live w) w) (show DataW.trod enc Try.prog w 0 spare held n 30 [ti_] = some y13 from e13) (light_each (j := 13) h' rfl rfl) (fun n' hn' cs y hy hly => rd_timer n' cs y hy hly)
    cases hc13
    rw [show Try.prog.bytesOf 52 = 24 by kernel_rfl] at bb13
    obtain ⟨a14, p14, l14, hc14, s14, b14, g14, bb14, _⟩ := rd_slice Try.underlying31 (show Try.prog.cellsOf 70 = 12 by kernel_rfl) (by decide) (UAt (Live w) w) (show DataW.trod enc Try.prog w 0 spare held n 31 [up_] = some y14 from e14) (light_each (j := 14) h' rfl rfl) (fun n' hn' cs y hy hly => rd_update n' cs y hy hly)
    cases hc14
    rw [show Try.prog.bytesOf 70 = 152 by kernel_rfl] at bb14
    obtain ⟨t15, ht15⟩ := rd_value n [r0_, r1_, r2_, r3_, r4_] y15 (show DataW.trod enc Try.prog w 0 spare held n 25 [r0_, r1_, r2_, r3_, r4_] = some y15 from e15) (light_each (j := 15) h' rfl rfl)
    obtain ⟨t9, hp9, hm9⟩ : ∃ t : Int × Nat × Int, [p0_, p1_, p2_] = [.int .i64 t.1, .int .u64 (t.2.1 : Int), .int .i64 t.2.2] ∧ t.2.1 < 18446744073709551616 := ⟨t9, ht9⟩
    simp only [List.cons.injEq, and_true] at hp9 ht10
    obtain ⟨rfl, rfl, rfl⟩ := hp9
    obtain ⟨rfl, rfl, rfl, rfl, rfl⟩ := ht10
    exact ⟨{ run := v0, status := v1, count := v2, time := v3, deadline := v4, from_ := v5, signals := v6, type := v7, input := t8, first := t9.1, coef := t9.2.1, most := t9.2.2, task := t10, fresh := v11, cancel := v12, timers := l13, updates := l14, result := t15, reason := v16 },
      _, _, a13, p13, a14, p14, rfl, ht8, ht15, s13, s14, b13, g13, bb13, b14, g14, bb14, hm9⟩
end
end Go.Proofs.Ytidoacdigedlnaa
