/- A disk with one zone: what a crash leaves. -/
import Derived.Test.YtjphboljhkddaaaAwake
set_option linter.unusedVariables false
namespace Go.Proofs.Ytjphboljhkddaaa
open Go.RowKit

def Single (st : ZSt) (z : Int) : Prop := ∀ z', z' ≠ z → st z' = none
theorem zones_single {st : ZSt} {z : Int} (h : Single st z) (h0 : 0 ≤ z) : ∀ k : Nat, zonesTo st k = if (st z).isSome = true ∧ z < k then [z] else []
  | 0 => by
    rw [if_neg (by omega)]; rfl
  | k + 1 => by
    simp only [zonesTo]
    rw [zones_single h h0 k]
    by_cases hz : (k : Int) = z
    · rw [hz, if_neg (by omega)]
      by_cases hs : (st z).isSome = true
      · rw [if_pos hs, if_pos ⟨hs, by omega⟩]; rfl
      · rw [if_neg hs, if_neg (fun h => hs h.1)]; rfl
    · have e0 : (if (st (k : Int)).isSome = true then [(k : Int)] else []) = [] := by rw [h _ hz]; rfl
      rw [e0, List.append_nil]
      by_cases hs : (st z).isSome = true ∧ z < (k : Int)
      · rw [if_pos hs, if_pos ⟨hs.1, by omega⟩]
      · rw [if_neg hs, if_neg (fun h => hs ⟨h.1, by omega⟩)]
/-- the bytes that a crash leaves -/
def left1 (ks : List Int) (q : List Nat × Nat) : List Nat := q.1.take (q.2 + keepN ks 0 (q.1.length - q.2))
theorem crash_single {st : ZSt} {z : Int} (h : Single st z) (h0 : 0 ≤ z) (h1 : z < 40) (ks : List Int) (hs : ((st z).getD ([], 0)).2 ≤ ((st z).getD ([], 0)).1.length) :
    (((crashL ks st (zonesTo st 40)).1 z).getD ([], 0)).1 = left1 ks ((st z).getD ([], 0)) := by
  rw [zones_single h h0 40]
  cases e : st z with
  | none =>
    rw [if_neg (by simp)]
    simp [crashL, e, left1]
  | some q =>
    rw [if_pos ⟨rfl, by omega⟩]
    rw [e] at hs
    have hs' : q.2 ≤ q.1.length := hs
    show (((crashStep ks (st, 0) z).1 z).getD ([], 0)).1 = left1 ks q
    unfold crashStep
    simp only [e, Option.getD_some]
    by_cases hl : q.1.length - q.2 = 0
    · rw [if_pos hl]
      simp only [e, Option.getD_some, left1]
      rw [List.take_of_length_le (by omega)]
    · rw [if_neg hl]
      simp only [setZ, if_pos, left1]
      split
      · rename_i h; simp [h]
      · rfl
theorem keepN_le' (ks : List Int) (i lo : Nat) : keepN ks i lo ≤ lo := keepN_le ks i lo
/-- n ones in zone 0 -/
def fuSt (k : Nat) : ZSt := fun z => if z = 0 then (if k = 0 then none else some (List.replicate k 1, 0)) else none
theorem fu_single (k : Nat) : Single (fuSt k) 0 := fun z' hz => by unfold fuSt; rw [if_neg hz]
theorem fu_step (k : Nat) : setZ (fuSt k) 0 (appZ ((fuSt k 0).getD ([], 0)) [1]) = fuSt (k + 1) := by
  funext z
  unfold setZ
  by_cases hz : z = 0
  · rw [if_pos hz]
    subst hz
    unfold fuSt appZ
    by_cases hk : k = 0
    · subst hk; rfl
    · simp only [if_true, if_neg hk, Option.getD_some]
      rw [if_neg (by simp), if_neg (by omega), ← List.replicate_succ']
  · rw [if_neg hz]; unfold fuSt; rw [if_neg hz, if_neg hz]
theorem fu_at (k : Nat) : ((fuSt k 0).getD ([], 0)) = (List.replicate k 1, 0) := by
  unfold fuSt
  by_cases hk : k = 0
  · subst hk; rfl
  · simp only [if_true, if_neg hk, Option.getD_some]
theorem fu_small (k : Nat) (h : k ≤ 1000) : Small16 (fuSt k) := by
  intro z q hq
  unfold fuSt at hq
  split at hq
  · split at hq
    · cases hq
    · cases hq; simp; omega
  · cases hq
theorem fu_left (n : Nat) (h : n ≤ 255) : left1 [1048576] (List.replicate n 1, 0) = List.replicate n 1 := by
  unfold left1
  have e : keepN [1048576] 0 n = n := by
    unfold keepN
    simp; omega
  simp only [List.length_replicate, Nat.sub_zero, e, Nat.zero_add]
  exact List.take_of_length_le (by simp)
end Go.Proofs.Ytjphboljhkddaaa
