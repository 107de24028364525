/- A slice of frames that came in, opened. -/
import Derived.Test.YtmmpcpdokgahcaaScans
import Derived.ProofKit
import Derived.OpenShut
import Derived.Deep.Slices
set_option linter.unusedVariables false
namespace Go.Proofs.Ytmmpcpdokgahcaa
open Go.ChangeShapes Go.WideShapes Go.ChangeAt Go.RowKit
/-- WHAT THE WALK IS TOLD OF A SLICE OF INTEGERS THAT CAME IN: it is nil; or it leads to a row of 'cap' cells, the numbers 'zs' (the first 'len' are its elements, the rest its spare room), each fitting its kind. -/
def IsRow (k : IntKind) (w : World) (a : Option Addr) (len cap : Nat) (zs : List Int) : Prop :=
  (a = none ∧ len = 0 ∧ cap = 0 ∧ zs = []) ∨
  ∃ x, a = some x ∧ len ≤ cap ∧ cap ≤ maxLen ∧ zs.length = cap ∧ (∀ i, i < zs.length → w.cell? (x.add i) = some (.int k (zs.getD i 0))) ∧ ∀ n ∈ zs, (Lit.int k n).wf = true


theorem row_of {w : World} {a : Option Addr} {len cap : Nat} {zs : List Int} (h : IsRow .u8 w a len cap zs) : ∃ l : List Nat, l.length = len ∧ Row w a l ∧ (a = none → len = 0 ∧ cap = 0) ∧ len ≤ cap := by
  rcases h with ⟨rfl, rfl, rfl, rfl⟩ | ⟨x, rfl, hl, hm, hz, hcell, hwz⟩
  · exact ⟨[], rfl, ⟨fun c hc => (by cases hc), by decide, .inl rfl⟩, fun _ => ⟨rfl, rfl⟩, Nat.le_refl _⟩
  by_cases h0 : len = 0
  · subst h0
    exact ⟨[], rfl, ⟨fun c hc => (by cases hc), by decide, .inl rfl⟩, fun h => (by cases h), Nat.zero_le _⟩
  obtain ⟨b, off, spot⟩ := x
  have hc := hcell 0 (by omega)
  have hspot : spot = none := by simpa [Addr.add] using World.cell?_spot hc
  subst hspot
  have hw : ∀ n ∈ zs, 0 ≤ n ∧ n ≤ 255 := by
    intro n hn
    have := hwz n hn
    simp only [Lit.wf, Bool.and_eq_true, decide_eq_true_eq] at this
    exact this
  have hlen : ((zs.take len).map Int.toNat).length = len := by simp; omega
  refine ⟨(zs.take len).map Int.toNat, hlen, ⟨?_, ?_, .inr ⟨b, off, rfl, fun i hi => ?_⟩⟩, fun h => (by cases h), hl⟩
  · intro c hc
    obtain ⟨n, hn, rfl⟩ := List.mem_map.1 hc
    have := hw n (List.mem_of_mem_take hn)
    omega
  · rw [hlen]; unfold maxLen at hm; omega
  · rw [hlen] at hi
    have h1 := hcell i (by omega)
    have e1 : (⟨b, off, none⟩ : Addr).add i = ⟨b, off + i, none⟩ := by simp [Addr.add]
    rw [e1] at h1
    rw [h1]
    have hi' : i < zs.length := by omega
    have h2 := hw zs[i] (List.getElem_mem hi')
    have e2 : zs.getD i 0 = zs[i] := by simp [hi']
    have e3 : ((zs.take len).map Int.toNat).getD i 0 = zs[i].toNat := by simp [hi, hi']
    rw [e2, e3]
    congr 2
    omega


theorem frame_in {H : Type} {enc : TypeId × Value → H} {W : World} {fuel : Nat} {cs : List Value} {x : DataW H × List MemPlace} (hf : DataW.trod enc Try.prog W 0 (fun _ => true) true fuel 29 cs = some x) : ∃ k a p c, cs = [.int .i64 k, .slice a (List.length p) c] ∧ Row W a p ∧ p.length ≤ c ∧ c ≤ 9223372036854775807 ∧ (a = none → c = 0) := by
  obtain ⟨y0, y1, n, _, hlc, h0, h1⟩ := trod_struct2 Try.underlying29 hf
  have hl2 : cs.length = 2 := hlc.trans (by kernel_rfl)
  match cs, hl2 with
  | [u, v], _ =>
    have h0' : DataW.trod enc Try.prog W 0 (fun _ => true) true n 3 [u] = some y0 := h0
    have h1' : DataW.trod enc Try.prog W 0 (fun _ => true) true n 22 [v] = some y1 := h1
    obtain ⟨k, hk, _, _⟩ := DataW.trod_int Try.underlying3 h0'
    cases hk
    rcases open_ints Try.underlying22 Try.underlying5 (by kernel_rfl) h1' with ⟨hcs, _⟩ | ⟨ad, l, c, zs, hcs, _, hl, hm, hz, _, hcell, hwz⟩
    · cases hcs
      exact ⟨k, none, [], 0, rfl, ⟨fun c hc => (by cases hc), by simp, .inl rfl⟩, Nat.le_refl _, by decide, fun _ => rfl⟩
    · cases hcs
      obtain ⟨p, hp, hr, hn, hc⟩ := row_of (w := W) (a := some ad) (len := l) (cap := c) (zs := zs) (.inr ⟨ad, rfl, hl, hm, by simpa using hz, hcell, hwz⟩)
      exact ⟨k, some ad, p, c, by rw [hp], hr, by rw [hp]; exact hc, by unfold maxLen at hm; exact hm, fun h => by cases h⟩
theorem add_none (b off k : Nat) : (⟨b, off, none⟩ : Addr).add k = ⟨b, off + k, none⟩ := by
  cases k <;> simp [Addr.add]
theorem frames_in {H : Type} {enc : TypeId × Value → H} {W : World} {fuel : Nat} {a0 : Option Addr} {len cap : Nat} {x : DataW H × List MemPlace} (hf : DataW.trod enc Try.prog W 0 (fun _ => true) true fuel 33 [.slice a0 len cap] = some x) : ∃ ins : List (Int × List Nat), ins.length = len ∧ InAt W a0 ins ∧ len ≤ cap ∧ cap ≤ maxLen ∧ (a0 = none → cap = 0) := by
  rcases Go.Deep.open_slice Try.underlying33 hf with ⟨hcs, _⟩ | ⟨ad, l, c, m, n, D, Pl, hcs, _, hl, hm, hmm, _, hx⟩
  · cases hcs
    refine ⟨[], rfl, ?_, Nat.le_refl _, by decide, fun _ => rfl⟩
    intro i f h; cases h
  · cases hcs
    have h2 : Try.prog.cellsOf 29 = 2 := by kernel_rfl
    rw [h2] at hx
    have hmc : len ≤ m := by rw [hmm]; simp; exact hl
    have hspot : 0 < len → ∃ b off, ad = ⟨b, off, none⟩ := by
      intro h0
      obtain ⟨cs', hc1, hc2⟩ := hx 0 (by omega)
      obtain ⟨k, a, p, c', rfl, _⟩ := frame_in hc2
      obtain ⟨_, _, hcell⟩ := World.cells?_some hc1
      have q0 := hcell 0 (by omega)
      obtain ⟨b, off, spot⟩ := ad
      have hs : spot = none := by simpa [Addr.add] using World.cell?_spot q0
      exact ⟨b, off, by rw [hs]⟩
    have key : ∀ i, ∃ f : Int × List Nat, i < len → ∃ b off a c', ad = ⟨b, off, none⟩ ∧ W.cell? ⟨b, off + i * 2, none⟩ = some (.int .i64 f.1) ∧ W.cell? ⟨b, off + i * 2 + 1, none⟩ = some (.slice a f.2.length c') ∧ Row W a f.2 ∧ f.2.length ≤ c' ∧ c' ≤ 9223372036854775807 ∧ (a = none → c' = 0) := by
      intro i
      by_cases hi : i < len
      · obtain ⟨cs', hc1, hc2⟩ := hx i (by omega)
        obtain ⟨k, a, p, c', rfl, hr, hp1, hp2, hp3⟩ := frame_in hc2
        obtain ⟨_, _, hcell⟩ := World.cells?_some hc1
        refine ⟨(k, p), fun _ => ?_⟩
        have q0 := hcell 0 (by omega)
        have q1 := hcell 1 (by omega)
        obtain ⟨b, off, rfl⟩ := hspot (by omega)
        rw [add_none, add_none] at q0 q1
        rw [Nat.add_zero] at q0
        exact ⟨b, off, a, c', rfl, q0, q1, hr, hp1, hp2, hp3⟩
      · exact ⟨(0, []), fun h => absurd h hi⟩
    refine ⟨(List.range len).map fun i => Classical.choose (key i), by simp, ?_, hl, hm, fun h => by cases h⟩
    intro i f h
    have hi : i < len := by have := (List.getElem?_eq_some_iff.1 h).1; simpa using this
    have hf2 : Classical.choose (key i) = f := by simpa [hi] using h
    obtain ⟨b, off, a, c', e1, e2, e3, e4, e5, e6, e7⟩ := Classical.choose_spec (key i) hi
    rw [hf2] at e2 e3 e4 e5
    exact ⟨b, off, a, c', by rw [e1], e2, e3, e4, e5, e6, e7⟩
end Go.Proofs.Ytmmpcpdokgahcaa
