/- Rows of frames: plain facts. -/
import Derived.Test.YtmmpcpdokgahcaaRNextB
set_option linter.unusedVariables false
namespace Go.Proofs.Ytmmpcpdokgahcaa
open Go.RowKit CM

abbrev Fr := Nat × List Nat
/-- the cells of a row of frames -/
def FR (w : World) : List Fr → List Value → Prop
  | [], xs => xs = []
  | f :: fs, xs => ∃ a cap ys, xs = .int .i64 (f.1 : Int) :: .slice a f.2.length cap :: ys ∧ Row w a f.2 ∧ f.2.length ≤ cap ∧ (∀ ad, a = some ad → ∃ cur, w.heap[ad.block]? = some (.cells cur 5 (0, 0))) ∧ FR w fs ys
theorem row_change {w w' : World} {a : Option Addr} {l : List Nat} (h : Row w a l) (hs : ∀ ad, a = some ad → w'.heap[ad.block]? = w.heap[ad.block]?) : Row w' a l := by
  obtain ⟨h1, h2, h3⟩ := h
  refine ⟨h1, h2, ?_⟩
  rcases h3 with h3 | ⟨b, off, ha, hc⟩
  · exact .inl h3
  · refine .inr ⟨b, off, ha, fun i hi => ?_⟩
    have := hc i hi
    have hsb : w'.heap[b]? = w.heap[b]? := hs ⟨b, off, none⟩ ha
    rw [World.cell?_of_block (a := ⟨b, off + i, none⟩) hsb]
    exact this
theorem FR.change {w w' : World} (hs : ∀ (g : Nat) (cur : Array Value), w.heap[g]? = some (.cells cur 5 (0, 0)) → w'.heap[g]? = w.heap[g]?) : ∀ (fs : List Fr) (xs : List Value), FR w fs xs → FR w' fs xs
  | [], xs, h => h
  | f :: fs, xs, h => by
    obtain ⟨a, cap, ys, rfl, hr, h1, h3, h4⟩ := h
    refine ⟨a, cap, ys, rfl, row_change hr (fun ad ha => ?_), h1, fun ad ha => ?_, FR.change hs fs ys h4⟩
    · obtain ⟨cur, hc⟩ := h3 ad ha
      exact hs _ _ hc
    · obtain ⟨cur, hc⟩ := h3 ad ha
      exact ⟨cur, by rw [hs _ _ hc]; exact hc⟩
theorem FR.snoc {w : World} (f : Fr) (a : Option Addr) (cap : Nat) (hr : Row w a f.2) (h1 : f.2.length ≤ cap) (h3 : ∀ ad, a = some ad → ∃ cur, w.heap[ad.block]? = some (.cells cur 5 (0, 0))) :
    ∀ (fs : List Fr) (xs : List Value), FR w fs xs → FR w (fs ++ [f]) (xs ++ [.int .i64 (f.1 : Int), .slice a f.2.length cap])
  | [], xs, h => by
    have h : xs = [] := h
    subst h
    exact ⟨a, cap, [], rfl, hr, h1, h3, rfl⟩
  | g :: fs, xs, h => by
    obtain ⟨a', cap', ys, rfl, hr', h1', h3', h4⟩ := h
    exact ⟨a', cap', _, rfl, hr', h1', h3', FR.snoc f a cap hr h1 h3 fs ys h4⟩
theorem FR.below {w w' : World} {fs : List Fr} {xs : List Value} (h : FR w fs xs) (hb : Below w.heap.size w w') : FR w' fs xs :=
  FR.change (fun g cur hg => hb.block g (Array.getElem?_eq_some_iff.1 hg).1) fs xs h
theorem FR.len {w : World} : ∀ (fs : List Fr) (xs : List Value), FR w fs xs → xs.length = fs.length * 2
  | [], xs, h => by have h : xs = [] := h; subst h; rfl
  | f :: fs, xs, h => by
    obtain ⟨a, cap, ys, rfl, _, _, _, h4⟩ := h
    have := FR.len fs ys h4
    simp only [List.length_cons]; omega
/-- the frame at a place -/
theorem FR.get {w : World} : ∀ (fs : List Fr) (xs : List Value) (i : Nat) (f : Fr), FR w fs xs → fs[i]? = some f → ∃ a cap, xs[i * 2]? = some (.int .i64 (f.1 : Int)) ∧ xs[i * 2 + 1]? = some (.slice a f.2.length cap) ∧ Row w a f.2 ∧ f.2.length ≤ cap
  | g :: fs, xs, 0, f, h, hf => by
    obtain ⟨a, cap, ys, rfl, hr, h1, _, _⟩ := h
    simp at hf; subst hf
    exact ⟨a, cap, rfl, rfl, hr, h1⟩
  | g :: fs, xs, i + 1, f, h, hf => by
    obtain ⟨a, cap, ys, rfl, _, _, _, h4⟩ := h
    obtain ⟨a', cap', e1, e2, e3⟩ := FR.get fs ys i f h4 (by simpa using hf)
    refine ⟨a', cap', ?_, ?_, e3⟩
    · rw [show (i + 1) * 2 = i * 2 + 1 + 1 by omega]; simpa using e1
    · rw [show (i + 1) * 2 + 1 = i * 2 + 1 + 1 + 1 by omega]; simpa using e2

/-- the frames of bytes, and where they end, after k steps -/
def scanS (l : List Nat) : Nat → List Fr × Nat
  | 0 => ([], 0)
  | k + 1 => ((scanS l k).1 ++ [(nextF (l.drop (scanS l k).2)).1], (scanS l k).2 + (nextF (l.drop (scanS l k).2)).2.1.toNat)
def scanOk (l : List Nat) (k : Nat) : Prop := (nextF (l.drop (scanS l k).2)).2.2 = 0
theorem scanS_len (l : List Nat) : ∀ k, (scanS l k).1.length = k
  | 0 => rfl
  | k + 1 => by simp [scanS, scanS_len l k]
/-- a frame that is found -/
theorem nextF_ok (l : List Nat) (h : (nextF l).2.2 = 0) : 9 ≤ (nextF l).2.1 ∧ (nextF l).2.1 ≤ l.length := by
  unfold nextF at h ⊢
  split at h
  · rename_i h0
    rw [if_pos h0]
    split at h
    · rename_i h1
      rw [if_pos h1]
      unfold lenF at h0
      split at h0
      · simp at h0
      split at h0
      · simp at h0
      split at h0
      · simp at h0
      · simp only; omega
    · simp at h
  · rename_i h0; exact absurd h h0
theorem scanS_at (l : List Nat) : ∀ k, (∀ j, j < k → scanOk l j) → (scanS l k).2 ≤ l.length ∧ 9 * k ≤ (scanS l k).2
  | 0, _ => ⟨Nat.zero_le _, Nat.le_refl _⟩
  | k + 1, h => by
    obtain ⟨h1, h2⟩ := scanS_at l k fun j hj => h j (by omega)
    obtain ⟨h3, h4⟩ := nextF_ok _ (h k (by omega))
    rw [List.length_drop] at h4
    simp only [scanS]
    omega
theorem scan_one_end {l : List Nat} {k k' : Nat} (h : ∀ j, j < k → scanOk l j) (he : ¬ scanOk l k) (h' : ∀ j, j < k' → scanOk l j) (he' : ¬ scanOk l k') : k = k' := by
  rcases Nat.lt_trichotomy k k' with h1 | h1 | h1
  · exact absurd (h' k h1) he
  · exact h1
  · exact absurd (h k' h1) he'
/-- what Scan hands back -/
def ScanP (w : World) (l : List Nat) (e : Ending) (w' : World) : Prop :=
  ∃ k v xs, e = .returned (.tuple #[v, .int .i64 ((scanS l k).2 : Int)]) ∧ (∀ j, j < k → scanOk l j) ∧ ¬ scanOk l k ∧ w'.ownsRow w.heap.size 29 2 v k xs ∧ FR w' (scanS l k).1 xs ∧ Below w.heap.size w w'
theorem fr_info : ∃ i0 : TypeInfo, Try.prog.info? 29 = some i0 ∧ i0.zero = some (.agg #[.int .i64 0, .slice none 0 0]) ∧ i0.size = 2 ∧ i0.bytes = 32 := by
  obtain ⟨i0, hi, hz0, hz1, hz2⟩ := info_parts (show (Try.prog.info? 29).map (fun i => (i.zero, i.size, i.bytes)) = some (some (.agg #[.int .i64 0, .slice none 0 0]), 2, 32) by kernel_rfl)
  exact ⟨i0, hi, hz0, hz1, hz2⟩
end Go.Proofs.Ytmmpcpdokgahcaa
