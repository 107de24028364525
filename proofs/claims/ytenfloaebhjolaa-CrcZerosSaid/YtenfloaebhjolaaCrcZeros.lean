/- Proved: a remainder behind any number of zeros, and a join, are the document's. No condition. -/
import Derived.Test.YtenfloaebhjolaaRows
import Derived.Test.YtenfloaebhjolaaWalks5
import Derived.WalkKit
import Derived.ProofKit
import Derived.OpenShut
import Derived.ShutString
namespace Go.Proofs.Ytenfloaebhjolaa.crcZeros
open CM Go.ChangeShapes Go.WideShapes Go.ChangeAt Go.RowKit
open Go.ChangeMaps (open_string shut_string)
set_option linter.unusedVariables false      -- a walk need not use every 'w<i>' (that an integer argument fits its kind)

theorem own : ownKnob Try.prog.godebug = none := by kernel_rfl


theorem of_u32 {a : Int} (h : (Lit.int .u32 a).wf = true) : ∃ n : Nat, a = n ∧ n < 4294967296 := by
  have h' : 0 ≤ a ∧ a ≤ 4294967295 := by
    simp only [Lit.wf, Bool.and_eq_true, decide_eq_true_eq] at h
    exact h
  exact ⟨a.toNat, by omega, by omega⟩

/-! ### STEP 1: THE WALK: the Go text returns true. Part the cases AHEAD of 'go_enter' where a test parts the walk; take each callee by a contract of your own. -/
theorem walk (a0 : Int) (a1 : Int) (a2 : Int) (w0 : (Lit.int .u32 a0).wf = true) (w1 : (Lit.int .u32 a1).wf = true) (w2 : (Lit.int .i64 a2).wf = true) (w : World) :
    Calls Try.prog 5 #[.int .u32 a0, .int .u32 a1, .int .i64 a2] w fun e w' => e = .returned (.bool true) ∧ Below w.heap.size w w' := by
  obtain ⟨s, rfl, hs⟩ := of_u32 w0
  obtain ⟨t, rfl, ht⟩ := of_u32 w1
  have Z := Lib.hid (fun n w => zeros_any s n w hs)
  have R := Lib.hid (fun n w => rzeros_any s n w hs)
  have J := Lib.hid (fun n w => join_walk s t n w hs ht)
  have K := Lib.hid (fun n w => rjoin_walk s t n w hs ht)
  have F := Lib.hid (fun w => zeros_big (s : Int) 1048577 w (by decide))
  clear hs ht w0 w1 w2
  by_cases hn : 5000 < a2
  · have hd : decide (5000 < a2) = true := decide_eq_true hn
    clear hn
    go_enter Try.func5, Try.ntmps5
    go_wp2_with fail
    refine (Z.out _ _).mono ?_
    rintro e w1 ⟨rfl, h1⟩
    replace h1 := Lib.hid h1
    go_wp2_with fail
    refine (R.out _ _).mono ?_
    rintro e w2 ⟨rfl, rfl⟩
    go_wp2_with fail
    refine (J.out _ _).mono ?_
    rintro e w2 ⟨rfl, h2⟩
    replace h2 := Lib.hid (h1.out.trans (h2.mono h1.out.size))
    go_wp2_with fail
    refine (K.out _ _).mono ?_
    rintro e w3 ⟨rfl, rfl⟩
    go_wp2_with fail
    refine (F.out _).mono ?_
    rintro e w3 ⟨rfl, h3⟩
    replace h3 := Lib.hid (h2.out.trans (h3.mono h2.out.size))
    go_wp2_with fail
    refine (awake _).mono ?_
    rintro e w4 ⟨rfl, h4⟩
    replace h4 := Lib.hid (h3.out.trans (h4.mono h3.out.size))
    go_wp2_with fail
    go_ret
    exact ⟨rfl, h4.out⟩
  · have hd : decide (5000 < a2) = false := decide_eq_false hn
    clear hn
    go_enter Try.func5, Try.ntmps5
    go_wp2_with fail
    refine (Z.out _ _).mono ?_
    rintro e w1 ⟨rfl, h1⟩
    replace h1 := Lib.hid h1
    go_wp2_with fail
    refine (R.out _ _).mono ?_
    rintro e w2 ⟨rfl, rfl⟩
    go_wp2_with fail
    refine (J.out _ _).mono ?_
    rintro e w2 ⟨rfl, h2⟩
    replace h2 := Lib.hid (h1.out.trans (h2.mono h1.out.size))
    go_wp2_with fail
    refine (K.out _ _).mono ?_
    rintro e w3 ⟨rfl, rfl⟩
    go_wp2_with fail
    refine (F.out _).mono ?_
    rintro e w3 ⟨rfl, h3⟩
    replace h3 := Lib.hid (h2.out.trans (h3.mono h2.out.size))
    go_wp2_with fail
    refine (awake _).mono ?_
    rintro e w4 ⟨rfl, h4⟩
    replace h4 := Lib.hid (h3.out.trans (h4.mono h3.out.size))
    go_wp2_with fail
    go_ret
    exact ⟨rfl, h4.out⟩

/-! ### THE ROW's STEP: WRITTEN OUT: LEAVE IT -/
set_option maxRecDepth 100000 in
theorem lifted (os : Os) (started : os.Started) (H : Type) (enc : TypeId × Value → H) :
    ReturnsInHanded {} Try.checked os 5 .any (Rows.crcZerosSpec.pre6 enc Try.prog Try.f5 Rows.crcZerosRow.domain false) (Rows.crcZerosSpec.post enc Try.prog Try.f5 false true false false) := by
  refine returnsInHanded_of_change (C := Try.checked) own started (by kernel_rfl) Try.func5
    (ChangeSpec.witness6 (enc := enc) (C := Try.checked) false ⟨#[], #[.int .u32 0, .int .u32 0, .int .i64 0], []⟩ 8 (by kernel_rfl) (by kernel_rfl) (by kernel_rfl) (by kernel_rfl)) ?_
  intro W base args ds gs before hval0 hW hcnd _
  have hval : ∀ (j : Nat) t v, Try.f5.params[j]? = some t → args[j]? = some v → Value.okWide Try.prog W .any base t v := hval0
  have hW' := hW
  obtain ⟨p, q, hA0, hV, rfl, hfz, hnd⟩ := hW
  have hA : DataW.TrodAll enc Try.prog W 0 (fun _ => true) true Try.f5.params.toList args.toList ds p := hA0
  rw [Try.params5] at hA hval
  obtain ⟨v0, vs0, d0, ds0, p0, q0, hargs, rfl, rfl, h0, r0⟩ := trodAll_cons hA
  obtain ⟨v1, vs1, d1, ds1, p1, q1, rfl, rfl, rfl, h1, r1⟩ := trodAll_cons r0
  obtain ⟨v2, vs2, d2, ds2, p2, q2, rfl, rfl, rfl, h2, r2⟩ := trodAll_cons r1
  obtain ⟨rfl, rfl, rfl⟩ := trodAll_nil r2
  obtain rfl : args = #[v0, v1, v2] := by cases args; simp_all
  obtain ⟨rfl, rfl⟩ := trodVars_none hV
  obtain ⟨a0, rfl, rfl, rfl, w0⟩ := open_int Try.underlying23 (hval 0 23 v0 rfl rfl) h0
  obtain ⟨a1, rfl, rfl, rfl, w1⟩ := open_int Try.underlying23 (hval 1 23 v1 rfl rfl) h1
  obtain ⟨a2, rfl, rfl, rfl, w2⟩ := open_int Try.underlying3 (hval 2 3 v2 rfl rfl) h2
  clear hA0 hval0
  refine (walk a0 a1 a2 w0 w1 w2 W).mono fun e W' ⟨he, bel⟩ => ?_
  subst he
  exact ⟨_, rfl, _, _, _, [], _, [], hW', trodAll_mk1 (shut_bool Try.underlying4 _), (trodAll_cons_mk (shut_int Try.underlying23 w0) (trodAll_cons_mk (shut_int Try.underlying23 w1) (trodAll_cons_mk (shut_int Try.underlying3 w2) trodAll_mk0))), rfl, bel.frame _, fun h => by cases h⟩

theorem over : Rows.crcZerosRow.holds Try.pinned (OpenSpec.ofChange Rows.crcZerosSpec) :=
  OpenClaim.holds_of_wide 5 Try.f5 rfl rfl rfl rfl rfl rfl rfl ⟨rfl, rfl, rfl, rfl, rfl⟩ rfl rfl rfl rfl rfl (by kernel_rfl) Try.func5 (by kernel_rfl)
    (of_decide_eq_true (by kernel_rfl)) (by unfold Func.isWrapper; first | (rw [if_pos (by decide +kernel)]; kernel_rfl) | (rw [if_neg (by decide +kernel)]; exact ⟨rfl, rfl⟩))
    (fun os started H enc _ => lifted os started H enc)

/-- THE STATEMENT -/
theorem proved : Rows.CrcZerosSaid :=
  over
end Go.Proofs.Ytenfloaebhjolaa.crcZeros
