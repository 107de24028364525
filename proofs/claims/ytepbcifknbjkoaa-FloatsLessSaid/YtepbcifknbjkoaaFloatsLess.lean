/- Proved: where there is no NaN, less goes with the order, but for the zeros; where there is one, nothing is less. No condition. -/
import Derived.Test.YtepbcifknbjkoaaRows
import Derived.Test.YtepbcifknbjkoaaAwake
import Derived.Test.YtepbcifknbjkoaaWalks3
import Derived.WalkKit
import Derived.ProofKit
import Derived.OpenShut
import Derived.ShutString
namespace Go.Proofs.Ytepbcifknbjkoaa.floatsLess
open FM Go.ChangeShapes Go.WideShapes Go.ChangeAt Go.RowKit
open Go.ChangeMaps (open_string shut_string)
set_option linter.unusedVariables false      -- a walk need not use every 'w<i>' (that an integer argument fits its kind)

theorem own : ownKnob Try.prog.godebug = none := by kernel_rfl


theorem less_eq (x y : Nat) (hx : x < 18446744073709551616) (hy : y < 18446744073709551616) : lessN x y = (!(kN x == 1) && !(kN y == 1) && !((kN x == 3) && (kN y == 3)) && decide (ordN x y < 0)) := by
  have px := parts x hx
  have py := parts y hy
  unfold lessN ordN kyN
  rw [Bool.eq_iff_iff]
  simp only [decide_eq_true_eq, Bool.and_eq_true, Bool.not_eq_true', beq_eq_false_iff_ne, ne_eq, Bool.and_eq_false_imp, beq_iff_eq, kN_nan, kN_zero]
  by_cases a : isN x
  · simp [a]
  by_cases b : isN y
  · simp [b]
  simp only [a, b, not_false_eq_true, true_and, if_false]
  obtain ⟨k, hk, hk'⟩ : ∃ k, (if 9223372036854775808 ≤ x then 18446744073709551615 - x else x + 9223372036854775808) = k ∧ ((9223372036854775808 ≤ x ∧ k = 18446744073709551615 - x) ∨ (x < 9223372036854775808 ∧ k = x + 9223372036854775808)) := ⟨_, rfl, by split <;> omega⟩
  obtain ⟨l, hl, hl'⟩ : ∃ l, (if 9223372036854775808 ≤ y then 18446744073709551615 - y else y + 9223372036854775808) = l ∧ ((9223372036854775808 ≤ y ∧ l = 18446744073709551615 - y) ∨ (y < 9223372036854775808 ∧ l = y + 9223372036854775808)) := ⟨_, rfl, by split <;> omega⟩
  rw [hk, hl]
  constructor
  · intro h
    refine ⟨fun h3 h4 => by omega, ?_⟩
    rw [if_pos (by omega)]; omega
  · rintro ⟨h3, h4⟩
    by_cases h5 : (k : Int) < l
    · omega
    · rw [if_neg h5] at h4
      split at h4 <;> omega

/-! ### STEP 1: THE WALK: the Go text returns true. 'Grown w w'': the world has at most new blocks (Derived/RowKit3.lean). Part the cases AHEAD of 'go_enter' where a test parts the walk; take each callee by a contract of your own. -/
theorem walk (a0 : Int) (a1 : Int) (w0 : (Lit.int .u64 a0).wf = true) (w1 : (Lit.int .u64 a1).wf = true) (w : World) :
    Calls Try.prog 10 #[.int .u64 a0, .int .u64 a1] w fun e w' => e = .returned (.bool true) ∧ Grown w w' := by
  obtain ⟨x, rfl, hx⟩ := of_u64 w0
  obtain ⟨y, rfl, hy⟩ := of_u64 w1
  clear w0 w1

  have K1 := Lib.hid (fun w => kind x w hx)
  have K2 := Lib.hid (fun w => kind y w hy)
  have K3 := Lib.hid (fun w => less x y w hx hy)
  have K4 := Lib.hid (fun w => order x y w hx hy)
  have e := less_eq x y hx hy
  clear hx hy
  generalize kN x = p at *
  generalize kN y = q at *
  generalize lessN x y = l at *
  generalize ordN x y = o at *
  by_cases h1 : p = 1
  · subst h1
    obtain rfl : l = false := by rw [e]; rfl
    clear e
    go_enter Try.func10, Try.ntmps10
    go_wp2_with (first | (go_at_call 15; (first | (with_reducible refine (K1.out _).mono ?_) | (with_reducible refine (K2.out _).mono ?_)); rintro e w' ⟨rfl, rfl⟩) | (go_at_call 26; refine (K3.out _).mono ?_; rintro e w' ⟨rfl, rfl⟩) | (go_at_call 22; refine (K4.out _).mono ?_; rintro e w' ⟨rfl, rfl⟩) | (go_at_call 17; refine (awake _).mono ?_; rintro e w' ⟨rfl, hg⟩; have hg := Lib.hid hg))
    all_goals
      go_ret
      exact ⟨rfl, hg.out⟩
  have f1 : (p == 1) = false := beqF h1
  by_cases h2 : q = 1
  · subst h2
    obtain rfl : l = false := by rw [e]; simp
    clear e
    go_enter Try.func10, Try.ntmps10
    go_wp2_with (first | (go_at_call 15; (first | (with_reducible refine (K1.out _).mono ?_) | (with_reducible refine (K2.out _).mono ?_)); rintro e w' ⟨rfl, rfl⟩) | (go_at_call 26; refine (K3.out _).mono ?_; rintro e w' ⟨rfl, rfl⟩) | (go_at_call 22; refine (K4.out _).mono ?_; rintro e w' ⟨rfl, rfl⟩) | (go_at_call 17; refine (awake _).mono ?_; rintro e w' ⟨rfl, hg⟩; have hg := Lib.hid hg))
    all_goals
      go_ret
      exact ⟨rfl, hg.out⟩
  have f2 : (q == 1) = false := beqF h2
  rw [f1, f2] at e
  by_cases h5 : o < 0
  · have f5 : decide (o < 0) = true := decide_eq_true h5
    rw [f5] at e
    by_cases h3 : p = 3
    · subst h3
      by_cases h4 : q = 3
      · subst h4
        obtain rfl : l = false := by rw [e]; rfl
        clear e
        go_enter Try.func10, Try.ntmps10
        go_wp2_with (first | (go_at_call 15; (first | (with_reducible refine (K1.out _).mono ?_) | (with_reducible refine (K2.out _).mono ?_)); rintro e w' ⟨rfl, rfl⟩) | (go_at_call 26; refine (K3.out _).mono ?_; rintro e w' ⟨rfl, rfl⟩) | (go_at_call 22; refine (K4.out _).mono ?_; rintro e w' ⟨rfl, rfl⟩) | (go_at_call 17; refine (awake _).mono ?_; rintro e w' ⟨rfl, hg⟩; have hg := Lib.hid hg))
        all_goals
          go_ret
          exact ⟨rfl, hg.out⟩
      have f4 : (q == 3) = false := beqF h4
      rw [f4] at e
      obtain rfl : l = true := by rw [e]; rfl
      clear e h1 h2 h4
      go_enter Try.func10, Try.ntmps10
      go_wp2_with (first | (go_at_call 15; (first | (with_reducible refine (K1.out _).mono ?_) | (with_reducible refine (K2.out _).mono ?_)); rintro e w' ⟨rfl, rfl⟩) | (go_at_call 26; refine (K3.out _).mono ?_; rintro e w' ⟨rfl, rfl⟩) | (go_at_call 22; refine (K4.out _).mono ?_; rintro e w' ⟨rfl, rfl⟩) | (go_at_call 17; refine (awake _).mono ?_; rintro e w' ⟨rfl, hg⟩; have hg := Lib.hid hg))
      all_goals
        go_ret
        exact ⟨rfl, hg.out⟩
    have f3 : (p == 3) = false := beqF h3
    rw [f3] at e
    obtain rfl : l = true := by rw [e]; simp
    clear e h1 h2 h3
    go_enter Try.func10, Try.ntmps10
    go_wp2_with (first | (go_at_call 15; (first | (with_reducible refine (K1.out _).mono ?_) | (with_reducible refine (K2.out _).mono ?_)); rintro e w' ⟨rfl, rfl⟩) | (go_at_call 26; refine (K3.out _).mono ?_; rintro e w' ⟨rfl, rfl⟩) | (go_at_call 22; refine (K4.out _).mono ?_; rintro e w' ⟨rfl, rfl⟩) | (go_at_call 17; refine (awake _).mono ?_; rintro e w' ⟨rfl, hg⟩; have hg := Lib.hid hg))
    all_goals
      go_ret
      exact ⟨rfl, hg.out⟩
  · have f5 : decide (o < 0) = false := decide_eq_false h5
    rw [f5] at e
    obtain rfl : l = false := by rw [e]; simp
    clear e
    by_cases h3 : p = 3
    · subst h3
      by_cases h4 : q = 3
      · subst h4
        clear h1 h2
        go_enter Try.func10, Try.ntmps10
        go_wp2_with (first | (go_at_call 15; (first | (with_reducible refine (K1.out _).mono ?_) | (with_reducible refine (K2.out _).mono ?_)); rintro e w' ⟨rfl, rfl⟩) | (go_at_call 26; refine (K3.out _).mono ?_; rintro e w' ⟨rfl, rfl⟩) | (go_at_call 22; refine (K4.out _).mono ?_; rintro e w' ⟨rfl, rfl⟩) | (go_at_call 17; refine (awake _).mono ?_; rintro e w' ⟨rfl, hg⟩; have hg := Lib.hid hg))
        all_goals
          go_ret
          exact ⟨rfl, hg.out⟩
      have f4 : (q == 3) = false := beqF h4
      clear h1 h2 h4
      go_enter Try.func10, Try.ntmps10
      go_wp2_with (first | (go_at_call 15; (first | (with_reducible refine (K1.out _).mono ?_) | (with_reducible refine (K2.out _).mono ?_)); rintro e w' ⟨rfl, rfl⟩) | (go_at_call 26; refine (K3.out _).mono ?_; rintro e w' ⟨rfl, rfl⟩) | (go_at_call 22; refine (K4.out _).mono ?_; rintro e w' ⟨rfl, rfl⟩) | (go_at_call 17; refine (awake _).mono ?_; rintro e w' ⟨rfl, hg⟩; have hg := Lib.hid hg))
      all_goals
        go_ret
        exact ⟨rfl, hg.out⟩
    have f3 : (p == 3) = false := beqF h3
    clear h1 h2 h3
    go_enter Try.func10, Try.ntmps10
    go_wp2_with (first | (go_at_call 15; (first | (with_reducible refine (K1.out _).mono ?_) | (with_reducible refine (K2.out _).mono ?_)); rintro e w' ⟨rfl, rfl⟩) | (go_at_call 26; refine (K3.out _).mono ?_; rintro e w' ⟨rfl, rfl⟩) | (go_at_call 22; refine (K4.out _).mono ?_; rintro e w' ⟨rfl, rfl⟩) | (go_at_call 17; refine (awake _).mono ?_; rintro e w' ⟨rfl, hg⟩; have hg := Lib.hid hg))
    all_goals
      go_ret
      exact ⟨rfl, hg.out⟩

/-! ### THE ROW's STEP: WRITTEN OUT: LEAVE IT -/
set_option maxRecDepth 100000 in
theorem lifted (os : Os) (started : os.Started) (H : Type) (enc : TypeId × Value → H) :
    ReturnsInHanded {} Try.checked os 10 .any (Rows.floatsLessSpec.pre6 enc Try.prog Try.f10 Rows.floatsLessRow.domain false) (Rows.floatsLessSpec.post enc Try.prog Try.f10 false true false false) := by
  refine returnsInHanded_of_change (C := Try.checked) own started (by kernel_rfl) Try.func10
    (ChangeSpec.witness6 (enc := enc) (C := Try.checked) false ⟨#[], #[.int .u64 0, .int .u64 0], []⟩ 8 (by kernel_rfl) (by kernel_rfl) (by kernel_rfl) (by kernel_rfl)) ?_
  intro W base args ds gs before hval0 hW hcnd _
  have hval : ∀ (j : Nat) t v, Try.f10.params[j]? = some t → args[j]? = some v → Value.okWide Try.prog W .any base t v := hval0
  have hW' := hW
  obtain ⟨p, q, hA0, hV, rfl, hfz, hnd⟩ := hW
  have hA : DataW.TrodAll enc Try.prog W 0 (fun _ => true) true Try.f10.params.toList args.toList ds p := hA0
  rw [Try.params10] at hA hval
  obtain ⟨v0, vs0, d0, ds0, p0, q0, hargs, rfl, rfl, h0, r0⟩ := trodAll_cons hA
  obtain ⟨v1, vs1, d1, ds1, p1, q1, rfl, rfl, rfl, h1, r1⟩ := trodAll_cons r0
  obtain ⟨rfl, rfl, rfl⟩ := trodAll_nil r1
  obtain rfl : args = #[v0, v1] := by cases args; simp_all
  obtain ⟨rfl, rfl⟩ := trodVars_none hV
  obtain ⟨a0, rfl, rfl, rfl, w0⟩ := open_int Try.underlying22 (hval 0 22 v0 rfl rfl) h0
  obtain ⟨a1, rfl, rfl, rfl, w1⟩ := open_int Try.underlying22 (hval 1 22 v1 rfl rfl) h1
  clear hA0 hval0
  simp only [List.append_nil] at hW'
  refine (walk a0 a1 w0 w1 W).mono fun e W' ⟨he, hg⟩ => ?_
  subst he
  exact ⟨_, rfl, post_of_same (pa := []) (pv := []) hW' (fun _ _ _ => (trodAll_cons_mk (shut_bool Try.underlying4 _) trodAll_mk0)) (fun sp _ => (trodAll_cons_mk (shut_int Try.underlying22 w0) (trodAll_cons_mk (shut_int Try.underlying22 w1) trodAll_mk0))) (fun _ _ => rfl) rfl
    (hg.frame _) hg.2.1 (ok_one (by kernel_rfl) rfl (okWide_bool_mk Try.underlying4 _))⟩

theorem over : Rows.floatsLessRow.holds Try.pinned (OpenSpec.ofChange Rows.floatsLessSpec) :=
  OpenClaim.holds_of_wide 10 Try.f10 rfl rfl rfl rfl rfl rfl rfl ⟨rfl, rfl, rfl, rfl, rfl⟩ rfl rfl rfl rfl rfl (by kernel_rfl) Try.func10 (by kernel_rfl)
    (of_decide_eq_true (by kernel_rfl)) (by unfold Func.isWrapper; first | (rw [if_pos (by decide +kernel)]; kernel_rfl) | (rw [if_neg (by decide +kernel)]; exact ⟨rfl, rfl⟩))
    (fun os started H enc _ => lifted os started H enc)

/-- THE STATEMENT -/
theorem proved : Rows.FloatsLessSaid :=
  over
end Go.Proofs.Ytepbcifknbjkoaa.floatsLess
