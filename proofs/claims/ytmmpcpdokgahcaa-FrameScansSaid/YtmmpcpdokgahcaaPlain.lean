/- Frames put together, and a beginning of them: the plain law. -/
import Derived.Test.YtmmpcpdokgahcaaSame
set_option linter.unusedVariables false
namespace Go.Proofs.Ytmmpcpdokgahcaa
open Go.RowKit CM

theorem rmore_lt' (l : List Nat) (h : ∀ c ∈ l, c < 256) : CM.more 0 l < 4294967296 := rmore_lt l h
/-- a frame that may be -/
def OkF (f : Fr) : Prop := f.1 < 256 ∧ f.2.length ≤ 1000 ∧ ∀ c ∈ f.2, c < 256
theorem num4_be4 (n : Nat) (r : List Nat) (h : n < 4294967296) : num4 (be4 n ++ r) 0 = n := by
  unfold num4 numk numk numk numk numk be4
  simp
  omega
theorem num4_at4 (m n : Nat) (r : List Nat) (h : n < 4294967296) : num4 (be4 m ++ (be4 n ++ r)) 4 = n := by
  unfold num4 numk numk numk numk numk be4
  simp
  omega
theorem seal_next (f : Fr) (r : List Nat) (h : OkF f) : nextF (sealB f.1 f.2 ++ r) = (f, 9 + (f.2.length : Int), 0) := by
  obtain ⟨k, p⟩ := f
  obtain ⟨h1, h2, h3⟩ := h
  have h1' : k < 256 := h1
  have h2' : p.length ≤ 1000 := h2
  have hs : CM.more 0 (k :: p) < 4294967296 := rmore_lt _ (fun c hc => by rcases List.mem_cons.1 hc with rfl | hc; exact h1'; exact h3 c hc)
  have e : sealB k p ++ r = be4 p.length ++ (be4 (CM.more 0 (k :: p)) ++ (k :: (p ++ r))) := by simp [sealB]
  show nextF (sealB k p ++ r) = ((k, p), 9 + (p.length : Int), 0)
  rw [e]
  have n0 := num4_be4 p.length (be4 (CM.more 0 (k :: p)) ++ (k :: (p ++ r))) (by omega)
  have n4 := num4_at4 p.length _ (k :: (p ++ r)) hs
  have hl : (be4 p.length ++ (be4 (CM.more 0 (k :: p)) ++ (k :: (p ++ r)))).length = 9 + p.length + r.length := by simp [be4]; omega
  have hlen : lenF (be4 p.length ++ (be4 (CM.more 0 (k :: p)) ++ (k :: (p ++ r)))) = (9 + (p.length : Int), 0) := by
    unfold lenF
    rw [hl, n0, if_neg (by omega), if_neg (by omega), if_neg (by omega)]
  have d8 : (be4 p.length ++ (be4 (CM.more 0 (k :: p)) ++ (k :: (p ++ r)))).drop 8 = k :: (p ++ r) := by simp [be4]
  have d9 : (be4 p.length ++ (be4 (CM.more 0 (k :: p)) ++ (k :: (p ++ r)))).drop 9 = p ++ r := by simp [be4]
  have g8 : (be4 p.length ++ (be4 (CM.more 0 (k :: p)) ++ (k :: (p ++ r)))).getD 8 0 = k := by simp [be4]
  unfold nextF
  rw [hlen, n0, n4, d8, d9, g8, if_pos rfl]
  have t1 : (k :: (p ++ r)).take (1 + p.length) = k :: p := by rw [Nat.add_comm, List.take_succ_cons]; simp
  rw [t1, if_pos rfl]
  simp
/-- a beginning of a frame is none -/
theorem part_next (f : Fr) (m : Nat) (h : OkF f) (hm : m < 9 + f.2.length) : (nextF ((sealB f.1 f.2).take m)).2.2 ≠ 0 := by
  obtain ⟨k, p⟩ := f
  obtain ⟨h1, h2, h3⟩ := h
  have h2' : p.length ≤ 1000 := h2
  have hm' : m < 9 + p.length := hm
  show (nextF ((sealB k p).take m)).2.2 ≠ 0
  have hsl : (sealB k p).length = 9 + p.length := by simp [sealB, be4]; omega
  have hl : ((sealB k p).take m).length = m := by rw [List.length_take, hsl]; omega
  have hlen : (lenF ((sealB k p).take m)).2 ≠ 0 := by
    unfold lenF
    rw [hl]
    by_cases h9 : m < 9
    · rw [if_pos h9]; decide
    · rw [if_neg h9]
      have n0 : num4 ((sealB k p).take m) 0 = p.length := by
        obtain ⟨j, rfl⟩ : ∃ j, m = j + 4 := ⟨m - 4, by omega⟩
        have e : (sealB k p).take (j + 4) = be4 p.length ++ ((be4 (CM.more 0 (k :: p)) ++ k :: p).take j) := by simp [sealB, be4]
        rw [e]; exact num4_be4 _ _ (by omega)
      rw [n0, if_neg (by omega), if_pos (by omega)]; decide
  unfold nextF
  rw [if_neg hlen]
  exact hlen
/-- frames put together -/
def allF (fs : List Fr) : List Nat := (fs.map fun f => sealB f.1 f.2).flatten
theorem allF_snoc (fs : List Fr) (f : Fr) : allF (fs ++ [f]) = allF fs ++ sealB f.1 f.2 := by simp [allF]
theorem allF_append (a b : List Fr) : allF (a ++ b) = allF a ++ allF b := by simp [allF]
theorem seal_len9 (f : Fr) : (sealB f.1 f.2).length = 9 + f.2.length := by simp [sealB, be4]; omega
theorem len_take_succ (fs : List Fr) (k : Nat) (f : Fr) (h : fs[k]? = some f) : (allF (fs.take (k + 1))).length = (allF (fs.take k)).length + (9 + f.2.length) := by
  have e : fs.take (k + 1) = fs.take k ++ [f] := by
    obtain ⟨hk, rfl⟩ := List.getElem?_eq_some_iff.1 h
    rw [List.take_succ_eq_append_getElem hk]
  rw [e, allF_snoc, List.length_append, seal_len9]
theorem drop_all (fs : List Fr) (m k : Nat) : ((allF fs).take m).drop (allF (fs.take k)).length = (allF (fs.drop k)).take (m - (allF (fs.take k)).length) := by
  have e : allF fs = allF (fs.take k) ++ allF (fs.drop k) := by rw [← allF_append, List.take_append_drop]
  rw [List.drop_take]
  congr 1
  conv => lhs; rw [e]
  simp
theorem next_at (fs : List Fr) (m k : Nat) (f : Fr) (hf : fs[k]? = some f) (hok : OkF f) (h : (allF (fs.take (k + 1))).length ≤ m) : nextF (((allF fs).take m).drop (allF (fs.take k)).length) = (f, 9 + (f.2.length : Int), 0) := by
  have hl := len_take_succ fs k f hf
  obtain ⟨hk, rfl⟩ := List.getElem?_eq_some_iff.1 hf
  rw [drop_all, List.drop_eq_getElem_cons hk]
  have e : allF (fs[k] :: fs.drop (k + 1)) = sealB fs[k].1 fs[k].2 ++ allF (fs.drop (k + 1)) := rfl
  rw [e, List.take_append, List.take_of_length_le (by rw [seal_len9]; omega)]
  exact seal_next _ _ hok
theorem end_at (fs : List Fr) (m k : Nat) (hok : ∀ f ∈ fs, OkF f) (h1 : (allF (fs.take k)).length ≤ m) (h2 : k < fs.length → m < (allF (fs.take (k + 1))).length) : (nextF (((allF fs).take m).drop (allF (fs.take k)).length)).2.2 ≠ 0 := by
  rw [drop_all]
  by_cases hk : k < fs.length
  · have hl := len_take_succ fs k fs[k] (List.getElem?_eq_getElem hk)
    have h3 := h2 hk
    rw [List.drop_eq_getElem_cons hk]
    have e : allF (fs[k] :: fs.drop (k + 1)) = sealB fs[k].1 fs[k].2 ++ allF (fs.drop (k + 1)) := rfl
    rw [e, List.take_append_of_le_length (by rw [seal_len9]; omega)]
    exact part_next _ _ (hok _ (List.getElem_mem hk)) (by omega)
  · rw [List.drop_eq_nil_of_le (by omega)]
    show (nextF (([] : List Nat).take _)).2.2 ≠ 0
    rw [List.take_nil]
    decide
theorem scan_upto (fs : List Fr) (m : Nat) (hok : ∀ f ∈ fs, OkF f) : ∀ k, k ≤ fs.length → (allF (fs.take k)).length ≤ m → scanS ((allF fs).take m) k = (fs.take k, (allF (fs.take k)).length) ∧ ∀ j, j < k → scanOk ((allF fs).take m) j
  | 0, _, _ => ⟨by simp [scanS, allF], fun j hj => absurd hj (Nat.not_lt_zero _)⟩
  | k + 1, hk, hm => by
    have hkl : k < fs.length := by omega
    have hf := List.getElem?_eq_getElem hkl
    have hl := len_take_succ fs k _ hf
    obtain ⟨ih1, ih2⟩ := scan_upto fs m hok k (by omega) (by omega)
    have hn := next_at fs m k _ hf (hok _ (List.getElem_mem hkl)) hm
    refine ⟨?_, fun j hj => ?_⟩
    · simp only [scanS, ih1, hn]
      rw [hl, List.take_succ_eq_append_getElem hkl]
      simp only [Prod.mk.injEq, true_and]
      omega
    · rcases Nat.lt_succ_iff_lt_or_eq.1 hj with h | rfl
      · exact ih2 j h
      · unfold scanOk; rw [ih1, hn]
/-- the scan of the first m bytes of frames put together -/
theorem scan_at (fs : List Fr) (m W : Nat) (hok : ∀ f ∈ fs, OkF f) (hW : W ≤ fs.length) (h1 : (allF (fs.take W)).length ≤ m) (h2 : W < fs.length → m < (allF (fs.take (W + 1))).length) :
    scanS ((allF fs).take m) W = (fs.take W, (allF (fs.take W)).length) ∧ (∀ j, j < W → scanOk ((allF fs).take m) j) ∧ ¬ scanOk ((allF fs).take m) W := by
  obtain ⟨e1, e2⟩ := scan_upto fs m hok W hW h1
  refine ⟨e1, e2, ?_⟩
  unfold scanOk
  rw [e1]
  exact end_at fs m W hok h1 h2
end Go.Proofs.Ytmmpcpdokgahcaa
