/- Proved: the order of words is one: the other way about, and through. No condition. -/
import Derived.Test.YtepbcifknbjkoaaRows
import Derived.Test.YtepbcifknbjkoaaAwake
import Derived.Test.YtepbcifknbjkoaaWalks3
import Derived.WalkKit
import Derived.ProofKit
import Derived.OpenShut
import Derived.ShutString
namespace Go.Proofs.Ytepbcifknbjkoaa.floatsTotal
open FM Go.ChangeShapes Go.WideShapes Go.ChangeAt Go.RowKit
open Go.ChangeMaps (open_string shut_string)
set_option linter.unusedVariables false      -- a walk need not use every 'w<i>' (that an integer argument fits its kind)

theorem own : ownKnob Try.prog.godebug = none := by kernel_rfl


theorem same_key (x y : Nat) (hx : x < 18446744073709551616) (hy : y < 18446744073709551616) : (((cN x : Nat) : Int) == ((cN y : Nat) : Int)) = decide ((kyN x : Int) = (kyN y : Int)) := by
  have px := parts x hx
  have py := parts y hy
  rw [Bool.eq_iff_iff, beq_iff_eq, decide_eq_true_iff]
  unfold cN kyN
  by_cases a : isN x <;> by_cases b : isN y
  · rw [if_pos a, if_pos b, if_pos a, if_pos b]; omega
  · rw [if_pos a, if_neg b, if_pos a, if_neg b]
    unfold isN at a b
    split <;> omega
  · rw [if_neg a, if_pos b, if_neg a, if_pos b]
    unfold isN at a b
    split <;> omega
  · rw [if_neg a, if_neg b, if_neg a, if_neg b]
    split <;> split <;> omega

/-! ### STEP 1: THE WALK: the Go text returns true. 'Grown w w'': the world has at most new blocks (Derived/RowKit3.lean). Part the cases AHEAD of 'go_enter' where a test parts the walk; take each callee by a contract of your own. -/
theorem walk (a0 : Int) (a1 : Int) (a2 : Int) (w0 : (Lit.int .u64 a0).wf = true) (w1 : (Lit.int .u64 a1).wf = true) (w2 : (Lit.int .u64 a2).wf = true) (w : World) :
    Calls Try.prog 6 #[.int .u64 a0, .int .u64 a1, .int .u64 a2] w fun e w' => e = .returned (.bool true) ∧ Grown w w' := by
  obtain ⟨x, rfl, hx⟩ := of_u64 w0
  obtain ⟨y, rfl, hy⟩ := of_u64 w1
  obtain ⟨z, rfl, hz⟩ := of_u64 w2
  clear w0 w1 w2
  have K1 := Lib.hid (fun w => order x y w hx hy)
  have K2 := Lib.hid (fun w => order y z w hy hz)
  have K3 := Lib.hid (fun w => order x z w hx hz)
  have K4 := Lib.hid (fun w => order y x w hy hx)
  have K5 := Lib.hid (fun w => canon x w hx)
  have K6 := Lib.hid (fun w => canon y w hy)
  have e := same_key x y hx hy
  unfold ordN at K1 K2 K3 K4
  clear hx hy hz
  generalize (kyN x : Int) = p at *
  generalize (kyN y : Int) = q at *
  generalize (kyN z : Int) = r at *
  by_cases h1 : p < q
  · have f : (((cN x : Nat) : Int) == ((cN y : Nat) : Int)) = false := by rw [e]; exact decide_eq_false (by omega)
    rw [if_pos h1] at K1
    rw [if_neg (by omega : ¬ q < p), if_pos h1] at K4
    clear e
    generalize ((cN x : Nat) : Int) = a at *
    generalize ((cN y : Nat) : Int) = b at *
    by_cases h2 : q < r
    · rw [if_pos h2] at K2
      rw [if_pos (by omega : p < r)] at K3
      clear h1 h2
      go_enter Try.func6, Try.ntmps6
      go_wp2_with (first | (go_at_call 22; (first | (with_reducible refine (K1.out _).mono ?_) | (with_reducible refine (K2.out _).mono ?_) | (with_reducible refine (K3.out _).mono ?_) | (with_reducible refine (K4.out _).mono ?_)); rintro e w' ⟨rfl, rfl⟩) | (go_at_call 11; (first | (with_reducible refine (K5.out _).mono ?_) | (with_reducible refine (K6.out _).mono ?_)); rintro e w' ⟨rfl, rfl⟩) | (go_at_call 17; refine (awake _).mono ?_; rintro e w' ⟨rfl, hg⟩; have hg := Lib.hid hg))
      all_goals
        go_ret
        exact ⟨rfl, hg.out⟩
    by_cases h3 : r < q
    · rw [if_neg h2, if_pos h3] at K2
      generalize (if p < r then (-1 : Int) else if r < p then 1 else 0) = o at *
      clear h1 h2 h3
      go_enter Try.func6, Try.ntmps6
      go_wp2_with (first | (go_at_call 22; (first | (with_reducible refine (K1.out _).mono ?_) | (with_reducible refine (K2.out _).mono ?_) | (with_reducible refine (K3.out _).mono ?_) | (with_reducible refine (K4.out _).mono ?_)); rintro e w' ⟨rfl, rfl⟩) | (go_at_call 11; (first | (with_reducible refine (K5.out _).mono ?_) | (with_reducible refine (K6.out _).mono ?_)); rintro e w' ⟨rfl, rfl⟩) | (go_at_call 17; refine (awake _).mono ?_; rintro e w' ⟨rfl, hg⟩; have hg := Lib.hid hg))
      all_goals
        go_ret
        exact ⟨rfl, hg.out⟩
    · rw [if_neg h2, if_neg h3] at K2
      rw [if_pos (by omega : p < r)] at K3
      clear h1 h2 h3
      go_enter Try.func6, Try.ntmps6
      go_wp2_with (first | (go_at_call 22; (first | (with_reducible refine (K1.out _).mono ?_) | (with_reducible refine (K2.out _).mono ?_) | (with_reducible refine (K3.out _).mono ?_) | (with_reducible refine (K4.out _).mono ?_)); rintro e w' ⟨rfl, rfl⟩) | (go_at_call 11; (first | (with_reducible refine (K5.out _).mono ?_) | (with_reducible refine (K6.out _).mono ?_)); rintro e w' ⟨rfl, rfl⟩) | (go_at_call 17; refine (awake _).mono ?_; rintro e w' ⟨rfl, hg⟩; have hg := Lib.hid hg))
      all_goals
        go_ret
        exact ⟨rfl, hg.out⟩
  by_cases h1' : q < p
  · have f : (((cN x : Nat) : Int) == ((cN y : Nat) : Int)) = false := by rw [e]; exact decide_eq_false (by omega)
    rw [if_neg h1, if_pos h1'] at K1
    rw [if_pos h1'] at K4
    clear e
    generalize ((cN x : Nat) : Int) = a at *
    generalize ((cN y : Nat) : Int) = b at *
    generalize (if p < r then (-1 : Int) else if r < p then 1 else 0) = o at *
    generalize (if q < r then (-1 : Int) else if r < q then 1 else 0) = o' at *
    clear h1 h1'
    go_enter Try.func6, Try.ntmps6
    go_wp2_with (first | (go_at_call 22; (first | (with_reducible refine (K1.out _).mono ?_) | (with_reducible refine (K2.out _).mono ?_) | (with_reducible refine (K3.out _).mono ?_) | (with_reducible refine (K4.out _).mono ?_)); rintro e w' ⟨rfl, rfl⟩) | (go_at_call 11; (first | (with_reducible refine (K5.out _).mono ?_) | (with_reducible refine (K6.out _).mono ?_)); rintro e w' ⟨rfl, rfl⟩) | (go_at_call 17; refine (awake _).mono ?_; rintro e w' ⟨rfl, hg⟩; have hg := Lib.hid hg))
    all_goals
      go_ret
      exact ⟨rfl, hg.out⟩
  · have f : (((cN x : Nat) : Int) == ((cN y : Nat) : Int)) = true := by rw [e]; exact decide_eq_true (by omega)
    rw [if_neg h1, if_neg h1'] at K1
    rw [if_neg h1', if_neg h1] at K4
    clear e
    generalize ((cN x : Nat) : Int) = a at *
    generalize ((cN y : Nat) : Int) = b at *
    obtain rfl : p = q := by omega
    by_cases h2 : p < r
    · rw [if_pos h2] at K2 K3
      clear h1 h1' h2
      go_enter Try.func6, Try.ntmps6
      go_wp2_with (first | (go_at_call 22; (first | (with_reducible refine (K1.out _).mono ?_) | (with_reducible refine (K2.out _).mono ?_) | (with_reducible refine (K3.out _).mono ?_) | (with_reducible refine (K4.out _).mono ?_)); rintro e w' ⟨rfl, rfl⟩) | (go_at_call 11; (first | (with_reducible refine (K5.out _).mono ?_) | (with_reducible refine (K6.out _).mono ?_)); rintro e w' ⟨rfl, rfl⟩) | (go_at_call 17; refine (awake _).mono ?_; rintro e w' ⟨rfl, hg⟩; have hg := Lib.hid hg))
      all_goals
        go_ret
        exact ⟨rfl, hg.out⟩
    by_cases h3 : r < p
    · rw [if_neg h2, if_pos h3] at K2 K3
      clear h1 h1' h2 h3
      go_enter Try.func6, Try.ntmps6
      go_wp2_with (first | (go_at_call 22; (first | (with_reducible refine (K1.out _).mono ?_) | (with_reducible refine (K2.out _).mono ?_) | (with_reducible refine (K3.out _).mono ?_) | (with_reducible refine (K4.out _).mono ?_)); rintro e w' ⟨rfl, rfl⟩) | (go_at_call 11; (first | (with_reducible refine (K5.out _).mono ?_) | (with_reducible refine (K6.out _).mono ?_)); rintro e w' ⟨rfl, rfl⟩) | (go_at_call 17; refine (awake _).mono ?_; rintro e w' ⟨rfl, hg⟩; have hg := Lib.hid hg))
      all_goals
        go_ret
        exact ⟨rfl, hg.out⟩
    · rw [if_neg h2, if_neg h3] at K2 K3
      clear h1 h1' h2 h3
      go_enter Try.func6, Try.ntmps6
      go_wp2_with (first | (go_at_call 22; (first | (with_reducible refine (K1.out _).mono ?_) | (with_reducible refine (K2.out _).mono ?_) | (with_reducible refine (K3.out _).mono ?_) | (with_reducible refine (K4.out _).mono ?_)); rintro e w' ⟨rfl, rfl⟩) | (go_at_call 11; (first | (with_reducible refine (K5.out _).mono ?_) | (with_reducible refine (K6.out _).mono ?_)); rintro e w' ⟨rfl, rfl⟩) | (go_at_call 17; refine (awake _).mono ?_; rintro e w' ⟨rfl, hg⟩; have hg := Lib.hid hg))
      all_goals
        go_ret
        exact ⟨rfl, hg.out⟩

/-! ### THE ROW's STEP: WRITTEN OUT: LEAVE IT -/
set_option maxRecDepth 100000 in
theorem lifted (os : Os) (started : os.Started) (H : Type) (enc : TypeId × Value → H) :
    ReturnsInHanded {} Try.checked os 6 .any (Rows.floatsTotalSpec.pre6 enc Try.prog Try.f6 Rows.floatsTotalRow.domain false) (Rows.floatsTotalSpec.post enc Try.prog Try.f6 false true false false) := by
  refine returnsInHanded_of_change (C := Try.checked) own started (by kernel_rfl) Try.func6
    (ChangeSpec.witness6 (enc := enc) (C := Try.checked) false ⟨#[], #[.int .u64 0, .int .u64 0, .int .u64 0], []⟩ 8 (by kernel_rfl) (by kernel_rfl) (by kernel_rfl) (by kernel_rfl)) ?_
  intro W base args ds gs before hval0 hW hcnd _
  have hval : ∀ (j : Nat) t v, Try.f6.params[j]? = some t → args[j]? = some v → Value.okWide Try.prog W .any base t v := hval0
  have hW' := hW
  obtain ⟨p, q, hA0, hV, rfl, hfz, hnd⟩ := hW
  have hA : DataW.TrodAll enc Try.prog W 0 (fun _ => true) true Try.f6.params.toList args.toList ds p := hA0
  rw [Try.params6] at hA hval
  obtain ⟨v0, vs0, d0, ds0, p0, q0, hargs, rfl, rfl, h0, r0⟩ := trodAll_cons hA
  obtain ⟨v1, vs1, d1, ds1, p1, q1, rfl, rfl, rfl, h1, r1⟩ := trodAll_cons r0
  obtain ⟨v2, vs2, d2, ds2, p2, q2, rfl, rfl, rfl, h2, r2⟩ := trodAll_cons r1
  obtain ⟨rfl, rfl, rfl⟩ := trodAll_nil r2
  obtain rfl : args = #[v0, v1, v2] := by cases args; simp_all
  obtain ⟨rfl, rfl⟩ := trodVars_none hV
  obtain ⟨a0, rfl, rfl, rfl, w0⟩ := open_int Try.underlying22 (hval 0 22 v0 rfl rfl) h0
  obtain ⟨a1, rfl, rfl, rfl, w1⟩ := open_int Try.underlying22 (hval 1 22 v1 rfl rfl) h1
  obtain ⟨a2, rfl, rfl, rfl, w2⟩ := open_int Try.underlying22 (hval 2 22 v2 rfl rfl) h2
  clear hA0 hval0
  simp only [List.append_nil] at hW'
  refine (walk a0 a1 a2 w0 w1 w2 W).mono fun e W' ⟨he, hg⟩ => ?_
  subst he
  exact ⟨_, rfl, post_of_same (pa := []) (pv := []) hW' (fun _ _ _ => (trodAll_cons_mk (shut_bool Try.underlying4 _) trodAll_mk0)) (fun sp _ => (trodAll_cons_mk (shut_int Try.underlying22 w0) (trodAll_cons_mk (shut_int Try.underlying22 w1) (trodAll_cons_mk (shut_int Try.underlying22 w2) trodAll_mk0)))) (fun _ _ => rfl) rfl
    (hg.frame _) hg.2.1 (ok_one (by kernel_rfl) rfl (okWide_bool_mk Try.underlying4 _))⟩

theorem over : Rows.floatsTotalRow.holds Try.pinned (OpenSpec.ofChange Rows.floatsTotalSpec) :=
  OpenClaim.holds_of_wide 6 Try.f6 rfl rfl rfl rfl rfl rfl rfl ⟨rfl, rfl, rfl, rfl, rfl⟩ rfl rfl rfl rfl rfl (by kernel_rfl) Try.func6 (by kernel_rfl)
    (of_decide_eq_true (by kernel_rfl)) (by unfold Func.isWrapper; first | (rw [if_pos (by decide +kernel)]; kernel_rfl) | (rw [if_neg (by decide +kernel)]; exact ⟨rfl, rfl⟩))
    (fun os started H enc _ => lifted os started H enc)

/-- THE STATEMENT -/
theorem proved : Rows.FloatsTotalSaid :=
  over
end Go.Proofs.Ytepbcifknbjkoaa.floatsTotal
