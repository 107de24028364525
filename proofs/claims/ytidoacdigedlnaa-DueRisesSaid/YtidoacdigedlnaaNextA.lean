/- due.Next: the time at which something is due; slices.Min. -/
import Derived.Test.YtidoacdigedlnaaAtB
set_option linter.unusedVariables false
set_option linter.unusedSimpArgs false
namespace Go.Proofs.Ytidoacdigedlnaa
open Go.RowKit

theorem at_ (x : ST) (cs : List Value) (now : Int) (w : World) (h : SAt (Live w) w x cs) (h19 : x.timers.length ≤ 19) : Calls Try.prog 8 #[.agg cs.toArray, .int .i64 now] w (AtP w x now) := by
  cases hst : (x.status == 1) with
  | false => exact at_off x cs now w h h19 hst
  | true =>
    cases hov : overB x (timeF x now) with
    | true => exact at_over x cs now w h h19 hst hov
    | false =>
      cases hlost : lostB x (timeF x now) with
      | true => exact at_lost x cs now w h h19 hst hov hlost
      | false => exact at_well x cs now w h h19 hst hov hlost
def minL : List Int → Int
  | [] => 0
  | x :: l => l.foldl min x
theorem minL_snoc (l : List Int) (y : Int) (h : l ≠ []) : minL (l ++ [y]) = min (minL l) y := by
  cases l with
  | nil => exact absurd rfl h
  | cons x l => simp [minL, List.foldl_append]
theorem minL_le : ∀ (l : List Int) (t : Int), l ≠ [] → (minL l ≤ t ↔ ∃ d ∈ l, d ≤ t) := by
  intro l t h
  cases l with
  | nil => exact absurd rfl h
  | cons x l =>
    clear h
    show l.foldl min x ≤ t ↔ _
    induction l generalizing x with
    | nil => simp
    | cons y l ih =>
      rw [List.foldl_cons, ih (min x y)]
      constructor
      · rintro ⟨d, hd, hdt⟩
        rcases List.mem_cons.1 hd with rfl | hd
        · by_cases hxy : x ≤ y
          · exact ⟨x, by simp, by omega⟩
          · exact ⟨y, by simp, by omega⟩
        · exact ⟨d, by simp [hd], hdt⟩
      · rintro ⟨d, hd, hdt⟩
        rcases List.mem_cons.1 hd with rfl | hd
        · exact ⟨min d y, by simp, by omega⟩
        rcases List.mem_cons.1 hd with rfl | hd
        · exact ⟨min x d, by simp, by omega⟩
        · exact ⟨d, by simp [hd], hdt⟩
def iFl (l : List Int) : List Value := l.map (Value.int .i64)
theorem iFl_one (l : List Int) : ∀ u ∈ iFl l, u.oneCell' = true := by
  intro u hu
  obtain ⟨d, _, rfl⟩ := List.mem_map.1 hu
  rfl
theorem minC (g n cap : Nat) (D : List Int) (w : World) (hr : w.rangeAt g 0 (iFl D)) (hn : D.length = n) (h0 : 0 < n) (h9 : n ≤ 1000) :
    Calls Try.prog 27 #[.slice (some ⟨g, 0, none⟩) n cap] w fun e w' => e = .returned (.int .i64 (minL D)) ∧ w' = w := by
  obtain ⟨d0, hd0⟩ : ∃ d, D[0]? = some d := ⟨_, List.getElem?_eq_getElem (by omega)⟩
  have q0 := hr 0 (.int .i64 d0) (by simp [iFl, hd0])
  have b0 : ¬ (n : Int) < 1 := by omega
  have b1 : (0 : Int) < (n : Int) := by omega
  replace hr := Lib.hid hr
  replace hn := Lib.hid hn
  replace hd0 := Lib.hid hd0
  go_enter Try.func27, Try.ntmps27
  go_wp2_with fail
  go_loopw [3, 4] (fun s3 s4 wr => ∃ j : Nat, 1 ≤ j ∧ j ≤ n ∧ s3 = .int .i64 (minL (D.take j)) ∧ s4 = .int .i64 (j : Int) ∧ wr = w) (fun _ s4 _ => n - (intOf s4).toNat)
  case atStart =>
    refine ⟨1, Nat.le_refl _, h0, ?_, rfl, rfl⟩
    have e : D.take 1 = [d0] := by
      rcases D with _ | ⟨x, D⟩
      · have := hd0.out; simp at this
      · have := hd0.out; simp at this; subst this; simp
    rw [e]; rfl
  case round =>
    obtain ⟨j, j1, hj, rfl, rfl, rfl⟩ := hrel
    clear q0
    by_cases hlt : j < n
    · obtain ⟨y, hy⟩ : ∃ y, D[j]? = some y := ⟨_, List.getElem?_eq_getElem (by rw [hn.out]; exact hlt)⟩
      have q1 := hr.out j (.int .i64 y) (by simp [iFl, hy])
      have b2 : (0 : Int) ≤ (j : Int) := by omega
      have b3 : (j : Int) < (n : Int) := by omega
      have hm : minL (D.take (j + 1)) = min (minL (D.take j)) y := by
        rw [List.take_add_one, hy]
        exact minL_snoc _ _ (by intro h; have this : min j D.length = 0 := (by have := congrArg List.length h; rwa [List.length_take] at this); have := hn.out; omega)
      generalize minL (D.take j) = mj at *
      replace hm := Lib.hid hm
      replace hy := Lib.hid hy
      rw [Nat.zero_add] at q1
      go_wp2_with fail
      all_goals
        go_roundw
        case rel => exact ⟨j + 1, by omega, by omega, by rw [hm.out] <;> first | rfl | (congr 1; done) | (congr 1; omega), by go_num, by first | rfl | trivial⟩
        case measure => simp [intOf]; omega
    · obtain rfl : j = n := by omega
      have hm : D.take j = D := List.take_of_length_le (by rw [hn.out]; exact Nat.le_refl _)
      rw [hm]
      go_wp2_with fail
      go_ret
      exact ⟨rfl, rfl⟩
end Go.Proofs.Ytidoacdigedlnaa
