/- Proved: a whole number up to 2^53 is that of its float. No condition. -/
import Derived.Test.YtepbcifknbjkoaaRows
import Derived.Test.YtepbcifknbjkoaaAwake
import Derived.Test.YtepbcifknbjkoaaWalks3
import Derived.WalkKit
import Derived.ProofKit
import Derived.OpenShut
import Derived.ShutString
namespace Go.Proofs.Ytepbcifknbjkoaa.floatsBack
open FM Go.ChangeShapes Go.WideShapes Go.ChangeAt Go.RowKit
open Go.ChangeMaps (open_string shut_string)
set_option linter.unusedVariables false      -- a walk need not use every 'w<i>' (that an integer argument fits its kind)

theorem own : ownKnob Try.prog.godebug = none := by kernel_rfl


theorem mod_in (a : Int) : ∃ k : Nat, wrap64 ((IntKind.u64.wrap a).tmod 9007199254740993) = k ∧ k ≤ 9007199254740992 := by
  have h0 : 0 ≤ IntKind.u64.wrap a := by show 0 ≤ a % 18446744073709551616; omega
  rw [Int.tmod_eq_emod_of_nonneg h0]
  have h1 : 0 ≤ IntKind.u64.wrap a % 9007199254740993 ∧ IntKind.u64.wrap a % 9007199254740993 < 9007199254740993 := by omega
  generalize IntKind.u64.wrap a % 9007199254740993 = m at *
  refine ⟨m.toNat, ?_, by omega⟩
  rw [IntWalk.wrap64_in _ ⟨by omega, by omega⟩]
  omega
theorem cut_none (s : Bool) (m : Nat) : Ieee.Toward.even.cut s m 0 = m := by
  unfold Ieee.Toward.cut
  simp [Nat.mod_one]
theorem back_near (k L : Nat) (hk0 : ¬ k = 0) (hl : k.log2 = L) (hL : L ≤ 52) : Ieee.double.nearest false k 0 = min ((L + 1022) * 4503599627370496 + k * 2 ^ (52 - L)) 9218868437227405312 := by
  have f1 : Ieee.double.leastPlace = -1074 := by decide
  have f2 : Ieee.double.binade = 4503599627370496 := by decide
  have f3 : Ieee.double.infRung = 9218868437227405312 := by decide
  have f4 : Ieee.double.fractionBits = 52 := rfl
  unfold Ieee.Format.nearest
  rw [if_neg hk0]
  simp only [f1, f2, f3, f4, hl, Int.zero_add]
  have g1 : max ((L : Int) - (52 : Nat)) (-1074) = (L : Int) - 52 := by omega
  rw [g1, show ((0 : Int) - ((L : Int) - 52)).toNat = 52 - L by omega, show ((L : Int) - 52 - 0).toNat = 0 by omega, show ((L : Int) - 52 - -1074).toNat = L + 1022 by omega, Nat.shiftLeft_eq, cut_none]
  unfold Ieee.Format.word
  rw [if_neg Bool.false_ne_true]
theorem back_mid (k L : Nat) (hL : L ≤ 52) (h1 : 2 ^ L ≤ k) (h2 : k < 2 ^ (L + 1)) : 4503599627370496 ≤ k * 2 ^ (52 - L) ∧ k * 2 ^ (52 - L) < 9007199254740992 := by
  have e0 : 2 ^ L * 2 ^ (52 - L) = 2 ^ 52 := by rw [← Nat.pow_add, show L + (52 - L) = 52 by omega]
  have h3 : 2 ^ L * 2 ^ (52 - L) ≤ k * 2 ^ (52 - L) := Nat.mul_le_mul_right _ h1
  have h4 : k * 2 ^ (52 - L) < 2 ^ (L + 1) * 2 ^ (52 - L) := Nat.mul_lt_mul_of_pos_right h2 (Nat.two_pow_pos _)
  rw [Nat.pow_succ, Nat.mul_right_comm, e0] at h4
  rw [e0] at h3
  exact ⟨h3, h4⟩
theorem back (k : Nat) (h : k ≤ 9007199254740992) : fl k < 18446744073709551616 ∧ wF (fl k) k = k ∧ eF (fl k) k = 0 := by
  rw [fl_eq]
  have e : floatOfInt .f64 (k : Int) = Ieee.double.nearest false k 0 := by
    show Ieee.double.write (.number (decide ((k : Int) < 0)) (k : Int).natAbs 0) = _
    rw [decide_eq_false (by omega)]; rfl
  rw [e]
  by_cases h0 : k = 0
  · subst h0; decide
  by_cases h1 : k = 9007199254740992
  · subst h1; decide
  have hl1 := Nat.log2_self_le h0
  have hl2 := @Nat.lt_log2_self k
  generalize hL : k.log2 = L at *
  have hL52 : L ≤ 52 := by
    apply Nat.le_of_not_lt
    intro h'
    have : 2 ^ 53 ≤ 2 ^ L := Nat.pow_le_pow_right (by decide) h'
    omega
  obtain ⟨e2, e3⟩ := back_mid k L hL52 hl1 hl2
  rw [back_near k L h0 hL hL52]
  have e4 : L < 52 → k * 2 ^ (52 - L) / 2 ^ (52 - L) = k := fun _ => Nat.mul_div_cancel _ (Nat.two_pow_pos _)
  have e5 : L = 52 → k * 2 ^ (52 - L) = k := fun h => by subst h; simp
  generalize k * 2 ^ (52 - L) = m at *
  rw [Nat.min_eq_left (by omega)]
  have hp := parts ((L + 1022) * 4503599627370496 + m) (by omega)
  have hn : ¬ isN ((L + 1022) * 4503599627370496 + m) := by unfold isN; omega
  have hw : whN ((L + 1022) * 4503599627370496 + m) = k := by
    unfold whN
    have a1 : ((L + 1022) * 4503599627370496 + m) / 4503599627370496 = L + 1023 := by omega
    have a2 : ((L + 1022) * 4503599627370496 + m) % 4503599627370496 = m - 4503599627370496 := by omega
    rw [a1, a2, Nat.mod_eq_of_lt (show L + 1023 < 2048 by omega), Nat.sub_add_cancel e2]
    by_cases h5 : L = 52
    · rw [if_pos (by omega), show L + 1023 - 1075 = 0 by omega, Nat.pow_zero, Nat.mul_one]; exact e5 h5
    · rw [if_neg (by omega), show 1075 - (L + 1023) = 52 - L by omega]; exact e4 (by omega)
  refine ⟨by omega, ?_, ?_⟩
  · unfold wF
    rw [if_neg (by omega), if_neg (by omega), if_neg (by omega), hw]; omega
  · unfold eF
    rw [if_neg (by omega)]

/-! ### STEP 1: THE WALK: the Go text returns true. 'Grown w w'': the world has at most new blocks (Derived/RowKit3.lean). Part the cases AHEAD of 'go_enter' where a test parts the walk; take each callee by a contract of your own. -/
theorem walk (a0 : Int) (w0 : (Lit.int .i64 a0).wf = true) (w : World) :
    Calls Try.prog 8 #[.int .i64 a0] w fun e w' => e = .returned (.bool true) ∧ Grown w w' := by
  go_enter Try.func8, Try.ntmps8
  go_wp2_with fail
  obtain ⟨k, hk, hk'⟩ := mod_in a0
  rw [hk]
  have b := back k hk'
  have b0 := b.1
  have K1 := Lib.hid (fun w => whole (fl k) k w b0)
  rw [b.2.1, b.2.2] at K1
  have o1 := fun w => of1 (k : Int) w
  have O1 := Lib.hid o1
  clear o1 b b0 hk hk' w0
  generalize fl (k : Int) = f at *
  refine (O1.out _).mono ?_
  rintro e w' ⟨rfl, rfl⟩
  go_wp2_with (first | (go_at_call 23; refine (K1.out _).mono ?_; rintro e w' ⟨rfl, rfl⟩) | (go_at_call 17; refine (awake _).mono ?_; rintro e w' ⟨rfl, hg⟩; have hg := Lib.hid hg))
  go_ret
  exact ⟨rfl, hg.out⟩

/-! ### THE ROW's STEP: WRITTEN OUT: LEAVE IT -/
set_option maxRecDepth 100000 in
theorem lifted (os : Os) (started : os.Started) (H : Type) (enc : TypeId × Value → H) :
    ReturnsInHanded {} Try.checked os 8 .any (Rows.floatsBackSpec.pre6 enc Try.prog Try.f8 Rows.floatsBackRow.domain false) (Rows.floatsBackSpec.post enc Try.prog Try.f8 false true false false) := by
  refine returnsInHanded_of_change (C := Try.checked) own started (by kernel_rfl) Try.func8
    (ChangeSpec.witness6 (enc := enc) (C := Try.checked) false ⟨#[], #[.int .i64 0], []⟩ 8 (by kernel_rfl) (by kernel_rfl) (by kernel_rfl) (by kernel_rfl)) ?_
  intro W base args ds gs before hval0 hW hcnd _
  have hval : ∀ (j : Nat) t v, Try.f8.params[j]? = some t → args[j]? = some v → Value.okWide Try.prog W .any base t v := hval0
  have hW' := hW
  obtain ⟨p, q, hA0, hV, rfl, hfz, hnd⟩ := hW
  have hA : DataW.TrodAll enc Try.prog W 0 (fun _ => true) true Try.f8.params.toList args.toList ds p := hA0
  rw [Try.params8] at hA hval
  obtain ⟨v0, vs0, d0, ds0, p0, q0, hargs, rfl, rfl, h0, r0⟩ := trodAll_cons hA
  obtain ⟨rfl, rfl, rfl⟩ := trodAll_nil r0
  obtain rfl : args = #[v0] := by cases args; simp_all
  obtain ⟨rfl, rfl⟩ := trodVars_none hV
  obtain ⟨a0, rfl, rfl, rfl, w0⟩ := open_int Try.underlying3 (hval 0 3 v0 rfl rfl) h0
  clear hA0 hval0
  simp only [List.append_nil] at hW'
  refine (walk a0 w0 W).mono fun e W' ⟨he, hg⟩ => ?_
  subst he
  exact ⟨_, rfl, post_of_same (pa := []) (pv := []) hW' (fun _ _ _ => (trodAll_cons_mk (shut_bool Try.underlying4 _) trodAll_mk0)) (fun sp _ => (trodAll_cons_mk (shut_int Try.underlying3 w0) trodAll_mk0)) (fun _ _ => rfl) rfl
    (hg.frame _) hg.2.1 (ok_one (by kernel_rfl) rfl (okWide_bool_mk Try.underlying4 _))⟩

theorem over : Rows.floatsBackRow.holds Try.pinned (OpenSpec.ofChange Rows.floatsBackSpec) :=
  OpenClaim.holds_of_wide 8 Try.f8 rfl rfl rfl rfl rfl rfl rfl ⟨rfl, rfl, rfl, rfl, rfl⟩ rfl rfl rfl rfl rfl (by kernel_rfl) Try.func8 (by kernel_rfl)
    (of_decide_eq_true (by kernel_rfl)) (by unfold Func.isWrapper; first | (rw [if_pos (by decide +kernel)]; kernel_rfl) | (rw [if_neg (by decide +kernel)]; exact ⟨rfl, rfl⟩))
    (fun os started H enc _ => lifted os started H enc)

/-- THE STATEMENT -/
theorem proved : Rows.FloatsBackSaid :=
  over
end Go.Proofs.Ytepbcifknbjkoaa.floatsBack
