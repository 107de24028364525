/- Proved: sums and products of any two words don't hang on which comes first, and are canonical. No condition. -/
import Derived.Test.YtepbcifknbjkoaaRows
import Derived.Test.YtepbcifknbjkoaaAwake
import Derived.Test.YtepbcifknbjkoaaWalks3
import Derived.WalkKit
import Derived.ProofKit
import Derived.OpenShut
import Derived.ShutString
namespace Go.Proofs.Ytepbcifknbjkoaa.floatsTurned
open FM Go.ChangeShapes Go.WideShapes Go.ChangeAt Go.RowKit
open Go.ChangeMaps (open_string shut_string)
set_option linter.unusedVariables false      -- a walk need not use every 'w<i>' (that an integer argument fits its kind)

theorem own : ownKnob Try.prog.godebug = none := by kernel_rfl


theorem sum_comm (a b : Ieee.Datum) : a.sum b = b.sum a := by
  cases a <;> cases b <;> simp only [Ieee.Datum.sum]
  · rename_i s m i t n j
    rw [Int.min_comm j i]
    congr 2
    · rw [Int.add_comm, Bool.and_comm]
    · rw [Int.add_comm]
  · rename_i s t
    cases s <;> cases t <;> rfl
theorem prod_comm (a b : Ieee.Datum) : a.product b = b.product a := by
  cases a <;> cases b <;> simp only [Ieee.Datum.product]
  · rw [Bool.xor_comm, Nat.mul_comm, Int.add_comm]
  all_goals rw [Bool.xor_comm]
theorem add_comm (x y : Nat) : FloatKind.f64.format.add x y = FloatKind.f64.format.add y x := by
  unfold Ieee.Format.add; rw [sum_comm]
theorem mul_comm (x y : Nat) : FloatKind.f64.format.mul x y = FloatKind.f64.format.mul y x := by
  unfold Ieee.Format.mul; rw [prod_comm]
theorem adN_lt {o : Option Nat} (h : ∀ r, o = some r → r < 18446744073709551616) : adN o < 18446744073709551616 := by
  cases o with
  | none => decide
  | some r => exact cN_lt r (h r rfl)
theorem cN_cN (r : Nat) : cN (cN r) = cN r := by
  by_cases h : isN r
  · rw [cN_of r h]; decide
  · unfold cN; rw [if_neg h, if_neg h]
theorem cN_adN (o : Option Nat) : cN (adN o) = adN o := by
  cases o with
  | none => decide
  | some r => exact cN_cN r

/-! ### STEP 1: THE WALK: the Go text returns true. 'Grown w w'': the world has at most new blocks (Derived/RowKit3.lean). Part the cases AHEAD of 'go_enter' where a test parts the walk; take each callee by a contract of your own. -/
theorem walk (a0 : Int) (a1 : Int) (w0 : (Lit.int .u64 a0).wf = true) (w1 : (Lit.int .u64 a1).wf = true) (w : World) :
    Calls Try.prog 5 #[.int .u64 a0, .int .u64 a1] w fun e w' => e = .returned (.bool true) ∧ Grown w w' := by
  obtain ⟨x, rfl, hx⟩ := of_u64 w0
  obtain ⟨y, rfl, hy⟩ := of_u64 w1
  clear w0 w1

  clear hx hy
  have c1 := fun w => add y x w
  have c2 := fun w => mul y x w
  rw [add_comm y x] at c1
  rw [mul_comm y x] at c2
  have d1 := fun w => canon _ w (adN_lt (fun r h => addlt (x := x) (y := y) h))
  have d2 := fun w => canon _ w (adN_lt (fun r h => mullt (x := x) (y := y) h))
  rw [cN_adN] at d1 d2
  have a1 := fun w => add x y w
  have a2 := fun w => mul x y w
  have A1 := Lib.hid a1
  have A2 := Lib.hid a2
  have C1 := Lib.hid c1
  have C2 := Lib.hid c2
  have D1 := Lib.hid d1
  have D2 := Lib.hid d2
  clear a1 a2 c1 c2 d1 d2
  generalize adN (FloatKind.f64.format.add x y) = p at *
  generalize adN (FloatKind.f64.format.mul x y) = q at *
  go_enter Try.func5, Try.ntmps5
  go_wp2_with fail
  refine (A1.out _).mono ?_
  rintro e w1 ⟨rfl, g1⟩
  have g1 := Lib.hid g1
  go_wp2_with fail
  refine (A2.out _).mono ?_
  rintro e w2 ⟨rfl, g2⟩
  have g2 := Lib.hid g2
  go_wp2_with fail
  refine (C1.out _).mono ?_
  rintro e w3 ⟨rfl, g3⟩
  have g3 := Lib.hid g3
  go_wp2_with fail
  refine (C2.out _).mono ?_
  rintro e w4 ⟨rfl, g4⟩
  have g4 := Lib.hid g4
  go_wp2_with fail
  refine (D1.out _).mono ?_
  rintro e w5 ⟨rfl, rfl⟩
  go_wp2_with fail
  refine (D2.out _).mono ?_
  rintro e w5 ⟨rfl, rfl⟩
  go_wp2_with fail
  refine (awake _).mono ?_
  rintro e w5 ⟨rfl, g5⟩
  have g5 := Lib.hid g5
  go_wp2_with fail
  go_ret
  exact ⟨rfl, gtrans g1.out (gtrans g2.out (gtrans g3.out (gtrans g4.out g5.out)))⟩

/-! ### THE ROW's STEP: WRITTEN OUT: LEAVE IT -/
set_option maxRecDepth 100000 in
theorem lifted (os : Os) (started : os.Started) (H : Type) (enc : TypeId × Value → H) :
    ReturnsInHanded {} Try.checked os 5 .any (Rows.floatsTurnedSpec.pre6 enc Try.prog Try.f5 Rows.floatsTurnedRow.domain false) (Rows.floatsTurnedSpec.post enc Try.prog Try.f5 false true false false) := by
  refine returnsInHanded_of_change (C := Try.checked) own started (by kernel_rfl) Try.func5
    (ChangeSpec.witness6 (enc := enc) (C := Try.checked) false ⟨#[], #[.int .u64 0, .int .u64 0], []⟩ 8 (by kernel_rfl) (by kernel_rfl) (by kernel_rfl) (by kernel_rfl)) ?_
  intro W base args ds gs before hval0 hW hcnd _
  have hval : ∀ (j : Nat) t v, Try.f5.params[j]? = some t → args[j]? = some v → Value.okWide Try.prog W .any base t v := hval0
  have hW' := hW
  obtain ⟨p, q, hA0, hV, rfl, hfz, hnd⟩ := hW
  have hA : DataW.TrodAll enc Try.prog W 0 (fun _ => true) true Try.f5.params.toList args.toList ds p := hA0
  rw [Try.params5] at hA hval
  obtain ⟨v0, vs0, d0, ds0, p0, q0, hargs, rfl, rfl, h0, r0⟩ := trodAll_cons hA
  obtain ⟨v1, vs1, d1, ds1, p1, q1, rfl, rfl, rfl, h1, r1⟩ := trodAll_cons r0
  obtain ⟨rfl, rfl, rfl⟩ := trodAll_nil r1
  obtain rfl : args = #[v0, v1] := by cases args; simp_all
  obtain ⟨rfl, rfl⟩ := trodVars_none hV
  obtain ⟨a0, rfl, rfl, rfl, w0⟩ := open_int Try.underlying22 (hval 0 22 v0 rfl rfl) h0
  obtain ⟨a1, rfl, rfl, rfl, w1⟩ := open_int Try.underlying22 (hval 1 22 v1 rfl rfl) h1
  clear hA0 hval0
  simp only [List.append_nil] at hW'
  refine (walk a0 a1 w0 w1 W).mono fun e W' ⟨he, hg⟩ => ?_
  subst he
  exact ⟨_, rfl, post_of_same (pa := []) (pv := []) hW' (fun _ _ _ => (trodAll_cons_mk (shut_bool Try.underlying4 _) trodAll_mk0)) (fun sp _ => (trodAll_cons_mk (shut_int Try.underlying22 w0) (trodAll_cons_mk (shut_int Try.underlying22 w1) trodAll_mk0))) (fun _ _ => rfl) rfl
    (hg.frame _) hg.2.1 (ok_one (by kernel_rfl) rfl (okWide_bool_mk Try.underlying4 _))⟩

theorem over : Rows.floatsTurnedRow.holds Try.pinned (OpenSpec.ofChange Rows.floatsTurnedSpec) :=
  OpenClaim.holds_of_wide 5 Try.f5 rfl rfl rfl rfl rfl rfl rfl ⟨rfl, rfl, rfl, rfl, rfl⟩ rfl rfl rfl rfl rfl (by kernel_rfl) Try.func5 (by kernel_rfl)
    (of_decide_eq_true (by kernel_rfl)) (by unfold Func.isWrapper; first | (rw [if_pos (by decide +kernel)]; kernel_rfl) | (rw [if_neg (by decide +kernel)]; exact ⟨rfl, rfl⟩))
    (fun os started H enc _ => lifted os started H enc)

/-- THE STATEMENT -/
theorem proved : Rows.FloatsTurnedSaid :=
  over
end Go.Proofs.Ytepbcifknbjkoaa.floatsTurned
