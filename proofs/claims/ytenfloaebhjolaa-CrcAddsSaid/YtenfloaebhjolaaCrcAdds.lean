/- Proved: zeros behind zeros are as many zeros; remainders that are added up go side by side. No condition. -/
import Derived.Test.YtenfloaebhjolaaRows
import Derived.Test.YtenfloaebhjolaaWalks5
import Derived.WalkKit
import Derived.ProofKit
import Derived.OpenShut
import Derived.ShutString
namespace Go.Proofs.Ytenfloaebhjolaa.crcAdds
open CM Go.ChangeShapes Go.WideShapes Go.ChangeAt Go.RowKit
open Go.ChangeMaps (open_string shut_string)
set_option linter.unusedVariables false      -- a walk need not use every 'w<i>' (that an integer argument fits its kind)

theorem own : ownKnob Try.prog.godebug = none := by kernel_rfl


theorem of_u32 {a : Int} (h : (Lit.int .u32 a).wf = true) : ∃ n : Nat, a = n ∧ n < 4294967296 := by
  have h' : 0 ≤ a ∧ a ≤ 4294967295 := by
    simp only [Lit.wf, Bool.and_eq_true, decide_eq_true_eq] at h
    exact h
  exact ⟨a.toNat, by omega, by omega⟩

theorem of_u16 {a : Int} (h : (Lit.int .u16 a).wf = true) : ∃ n : Nat, a = n ∧ n < 65536 := by
  have h' : 0 ≤ a ∧ a ≤ 65535 := by
    simp only [Lit.wf, Bool.and_eq_true, decide_eq_true_eq] at h
    exact h
  exact ⟨a.toNat, by omega, by omega⟩
theorem zr_zr (n m s : Nat) (hn : n < 65536) (hm : m < 65536) : zr m (zr n s) = zr ((n : Int) + m) s := by
  unfold zr
  rw [if_neg (by omega), if_neg (by omega), if_neg (by omega), ← bitn_add]
  congr 1
  omega
theorem zr_xor (n : Int) (s t : Nat) : zr n (s ^^^ t) = zr n s ^^^ zr n t := by
  unfold zr
  split
  · rfl
  · exact bitn_xor _ _ _

/-! ### STEP 1: THE WALK: the Go text returns true. Part the cases AHEAD of 'go_enter' where a test parts the walk; take each callee by a contract of your own. -/
theorem walk (a0 : Int) (a1 : Int) (a2 : Int) (a3 : Int) (w0 : (Lit.int .u32 a0).wf = true) (w1 : (Lit.int .u32 a1).wf = true) (w2 : (Lit.int .u16 a2).wf = true) (w3 : (Lit.int .u16 a3).wf = true) (w : World) :
    Calls Try.prog 4 #[.int .u32 a0, .int .u32 a1, .int .u16 a2, .int .u16 a3] w fun e w' => e = .returned (.bool true) ∧ Below w.heap.size w w' := by
  obtain ⟨s, rfl, hs⟩ := of_u32 w0
  obtain ⟨t, rfl, ht⟩ := of_u32 w1
  obtain ⟨n, rfl, hn⟩ := of_u16 w2
  obtain ⟨m, rfl, hm⟩ := of_u16 w3
  have A := Lib.hid (fun w => zeros_any s n w hs)
  have B := Lib.hid (fun w => zeros_any (zr n s) m w (zr_lt _ _ hs))
  have C := Lib.hid (fun w => zeros_any s ((n : Int) + m) w hs)
  have D := Lib.hid (fun w => zeros_any (s ^^^ t) n w (Nat.xor_lt_two_pow (n := 32) hs ht))
  have E := Lib.hid (fun w => zeros_any t n w ht)
  rw [zr_zr n m s hn hm] at B
  rw [zr_xor n s t] at D
  have e1 := w_xor s t hs ht
  have e2 := w_xor _ _ (zr_lt n s hs) (zr_lt n t ht)
  clear hs ht w0 w1 w2 w3
  generalize zr ((n : Int) + m) s = q at *
  generalize zr n s ^^^ zr n t = r at *
  generalize zr n s = y at *
  generalize zr n t = z at *
  generalize s ^^^ t = x at *
  go_enter Try.func4, Try.ntmps4
  go_wp2_with fail
  refine (A.out _).mono ?_
  rintro e w1 ⟨rfl, h1⟩
  replace h1 := Lib.hid h1
  go_wp2_with fail
  refine (B.out _).mono ?_
  rintro e w2 ⟨rfl, h2⟩
  replace h2 := Lib.hid (h1.out.trans (h2.mono h1.out.size))
  go_wp2_with fail
  refine (C.out _).mono ?_
  rintro e w3 ⟨rfl, h3⟩
  replace h3 := Lib.hid (h2.out.trans (h3.mono h2.out.size))
  go_wp2_with fail
  refine (D.out _).mono ?_
  rintro e w4 ⟨rfl, h4⟩
  replace h4 := Lib.hid (h3.out.trans (h4.mono h3.out.size))
  go_wp2_with fail
  refine (A.out _).mono ?_
  rintro e w5 ⟨rfl, h5⟩
  replace h5 := Lib.hid (h4.out.trans (h5.mono h4.out.size))
  go_wp2_with fail
  refine (E.out _).mono ?_
  rintro e w6 ⟨rfl, h6⟩
  replace h6 := Lib.hid (h5.out.trans (h6.mono h5.out.size))
  go_wp2_with fail
  refine (awake _).mono ?_
  rintro e w7 ⟨rfl, h7⟩
  replace h7 := Lib.hid (h6.out.trans (h7.mono h6.out.size))
  go_wp2_with fail
  go_ret
  exact ⟨rfl, h7.out⟩

/-! ### THE ROW's STEP: WRITTEN OUT: LEAVE IT -/
set_option maxRecDepth 100000 in
theorem lifted (os : Os) (started : os.Started) (H : Type) (enc : TypeId × Value → H) :
    ReturnsInHanded {} Try.checked os 4 .any (Rows.crcAddsSpec.pre6 enc Try.prog Try.f4 Rows.crcAddsRow.domain false) (Rows.crcAddsSpec.post enc Try.prog Try.f4 false true false false) := by
  refine returnsInHanded_of_change (C := Try.checked) own started (by kernel_rfl) Try.func4
    (ChangeSpec.witness6 (enc := enc) (C := Try.checked) false ⟨#[], #[.int .u32 0, .int .u32 0, .int .u16 0, .int .u16 0], []⟩ 8 (by kernel_rfl) (by kernel_rfl) (by kernel_rfl) (by kernel_rfl)) ?_
  intro W base args ds gs before hval0 hW hcnd _
  have hval : ∀ (j : Nat) t v, Try.f4.params[j]? = some t → args[j]? = some v → Value.okWide Try.prog W .any base t v := hval0
  have hW' := hW
  obtain ⟨p, q, hA0, hV, rfl, hfz, hnd⟩ := hW
  have hA : DataW.TrodAll enc Try.prog W 0 (fun _ => true) true Try.f4.params.toList args.toList ds p := hA0
  rw [Try.params4] at hA hval
  obtain ⟨v0, vs0, d0, ds0, p0, q0, hargs, rfl, rfl, h0, r0⟩ := trodAll_cons hA
  obtain ⟨v1, vs1, d1, ds1, p1, q1, rfl, rfl, rfl, h1, r1⟩ := trodAll_cons r0
  obtain ⟨v2, vs2, d2, ds2, p2, q2, rfl, rfl, rfl, h2, r2⟩ := trodAll_cons r1
  obtain ⟨v3, vs3, d3, ds3, p3, q3, rfl, rfl, rfl, h3, r3⟩ := trodAll_cons r2
  obtain ⟨rfl, rfl, rfl⟩ := trodAll_nil r3
  obtain rfl : args = #[v0, v1, v2, v3] := by cases args; simp_all
  obtain ⟨rfl, rfl⟩ := trodVars_none hV
  obtain ⟨a0, rfl, rfl, rfl, w0⟩ := open_int Try.underlying23 (hval 0 23 v0 rfl rfl) h0
  obtain ⟨a1, rfl, rfl, rfl, w1⟩ := open_int Try.underlying23 (hval 1 23 v1 rfl rfl) h1
  obtain ⟨a2, rfl, rfl, rfl, w2⟩ := open_int Try.underlying28 (hval 2 28 v2 rfl rfl) h2
  obtain ⟨a3, rfl, rfl, rfl, w3⟩ := open_int Try.underlying28 (hval 3 28 v3 rfl rfl) h3
  clear hA0 hval0
  refine (walk a0 a1 a2 a3 w0 w1 w2 w3 W).mono fun e W' ⟨he, bel⟩ => ?_
  subst he
  exact ⟨_, rfl, _, _, _, [], _, [], hW', trodAll_mk1 (shut_bool Try.underlying4 _), (trodAll_cons_mk (shut_int Try.underlying23 w0) (trodAll_cons_mk (shut_int Try.underlying23 w1) (trodAll_cons_mk (shut_int Try.underlying28 w2) (trodAll_cons_mk (shut_int Try.underlying28 w3) trodAll_mk0)))), rfl, bel.frame _, fun h => by cases h⟩

theorem over : Rows.crcAddsRow.holds Try.pinned (OpenSpec.ofChange Rows.crcAddsSpec) :=
  OpenClaim.holds_of_wide 4 Try.f4 rfl rfl rfl rfl rfl rfl rfl ⟨rfl, rfl, rfl, rfl, rfl⟩ rfl rfl rfl rfl rfl (by kernel_rfl) Try.func4 (by kernel_rfl)
    (of_decide_eq_true (by kernel_rfl)) (by unfold Func.isWrapper; first | (rw [if_pos (by decide +kernel)]; kernel_rfl) | (rw [if_neg (by decide +kernel)]; exact ⟨rfl, rfl⟩))
    (fun os started H enc _ => lifted os started H enc)

/-- THE STATEMENT -/
theorem proved : Rows.CrcAddsSaid :=
  over
end Go.Proofs.Ytenfloaebhjolaa.crcAdds
