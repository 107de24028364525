/- Proved: so many changes of a disk go on as its fuse lets, none behind them, until it crashed. No condition. -/
import Derived.Test.YtjphboljhkddaaaRows
import Derived.Test.YtjphboljhkddaaaSingle
import Derived.Below
import Derived.WalkKit
import Derived.ProofKit
import Derived.OpenShut
import Derived.ShutString
namespace Go.Proofs.Ytjphboljhkddaaa.diskFuse
open Go.ChangeShapes Go.WideShapes Go.ChangeAt Go.RowKit
open Go.ChangeMaps (open_string shut_string)
set_option linter.unusedVariables false      -- a walk need not use every 'w<i>' (that an integer argument fits its kind)

theorem own : ownKnob Try.prog.godebug = none := by kernel_rfl

/-! ### STEP 1: THE WALK: the Go text returns true. 'Grown w w'': the world has at most new blocks (Derived/RowKit3.lean). Part the cases AHEAD of 'go_enter' where a test parts the walk; take each callee by a contract of your own. -/
set_option maxHeartbeats 1600000 in
theorem walk (a0 : Int) (a1 : Int) (w0 : (Lit.int .u8 a0).wf = true) (w1 : (Lit.int .u8 a1).wf = true) (w : World) :
    Calls Try.prog 4 #[.int .u8 a0, .int .u8 a1] w fun e w' => e = .returned (.bool true) ∧ Below w.heap.size w w' := by
  have hx : 0 ≤ a0 ∧ a0 ≤ 255 := by simpa [Lit.wf, IntKind.min, IntKind.max, IntKind.signed, IntKind.bits] using w0
  have hy : 0 ≤ a1 ∧ a1 ≤ 255 := by simpa [Lit.wf, IntKind.min, IntKind.max, IntKind.signed, IntKind.bits] using w1
  clear w0 w1
  obtain ⟨n, rfl⟩ : ∃ n : Nat, a0 = n := ⟨a0.toNat, by omega⟩
  obtain ⟨y, rfl⟩ : ∃ y : Nat, a1 = y := ⟨a1.toNat, by omega⟩
  have N := Lib.hid (new_ok 10000 w (by decide) (by decide))
  have hrem : (y : Int).tmod 5 = ((y % 5 : Nat) : Int) := by rw [Int.tmod_eq_emod_of_nonneg (by omega)]; rfl
  have hy5 : y % 5 < 5 := Nat.mod_lt _ (by decide)
  generalize y % 5 = r at *
  go_enter Try.func4, Try.ntmps4
  go_wp2_with fail
  refine N.out.mono ?_
  rintro e w1 ⟨d, rfl, hD1, hb1⟩
  have F := Lib.hid (fuse_ok w1 w.heap.size d _ 10000 0 false 0 (n : Int) hD1 (by omega))
  replace hb1 := Lib.hid hb1
  clear N hD1
  go_wp2_with fail
  refine F.out.mono ?_
  rintro e w2 ⟨rfl, hD2, hb2⟩
  have hD2' : DiskAt w2 w.heap.size d (fuSt 0) 10000 0 true n false := by
    have e : fuSt 0 = fun _ => none := by funext z; unfold fuSt; split <;> rfl
    rw [e]; exact hD2
  have hbb2 := Lib.hid (hb1.out.trans hb2)
  replace hD2' := Lib.hid hD2'
  clear F hD2 hb2
  go_wp2_with fail
  go_loopw [26] (fun i wr => ∃ k : Nat, k ≤ n ∧ i = .int .u8 (k : Int) ∧ DiskAt wr w.heap.size d (fuSt k) 10000 (k : Int) true ((n : Int) - k) false ∧ Below w.heap.size w wr) (fun i _ => n - (intOf i).toNat)
  case atStart => exact ⟨0, Nat.zero_le _, rfl, by simpa using hD2'.out, hbb2.out⟩
  case round =>
    obtain ⟨k, hk, rfl, hDr, hbr⟩ := hrel
    by_cases hkn : k < n
    · have hDb := hDr.below ((Below.refl wr.heap.size wr).alloc (Nat.le_refl _) (.cells (u8s [1]).toArray 5))
      have hbu : burnt true ((n : Int) - k) false = false := by
        unfold burnt; simp; omega
      have A := append_ok _ w.heap.size d (fuSt k) 10000 (k : Int) true ((n : Int) - k) hDb 0 (some ⟨wr.heap.size, 0, none⟩) [1] 1 1 (row_new wr [1] (0, 0) (by decide) (by decide)) rfl (fun h => by cases h) (by decide) (by decide) (by have := hbr.size; simp; omega) (by omega) (by decide) (by omega) (by omega) hbu (fun q hq => fu_small k (by omega) 0 q hq)
      have hlo : leftOver true ((n : Int) - k) false = (n : Int) - ((k + 1 : Nat) : Int) := by unfold leftOver; rw [hbu]; simp; omega
      rw [fu_step, hlo] at A
      have hbb := hbr.alloc hbr.size (.cells (u8s [1]).toArray 5)
      replace A := Lib.hid A
      replace hbb := Lib.hid hbb
      clear hDr hbr hDb hbu hlo
      go_wp2_with fail
      refine A.out.mono ?_
      rintro e w3 ⟨rfl, hD3, hb3⟩
      have hbb3 := Lib.hid (hbb.out.trans hb3)
      replace hD3 := Lib.hid hD3
      clear A hb3
      go_wp2_with fail
      go_roundw
      case rel => exact ⟨k + 1, by omega, by go_num, by simpa using hD3.out, hbb3.out⟩
      case measure => simp [intOf]; omega
    · obtain rfl : k = n := by omega
      have hD0 : DiskAt wr w.heap.size d (fuSt k) 10000 (k : Int) true 0 false := by simpa using hDr
      replace hD0 := Lib.hid hD0
      replace hbr := Lib.hid hbr
      clear hDr
      go_wp2_with fail
      go_loopw [37] (fun j wr => ∃ (i : Nat) (dead : Bool), i ≤ 1 + r ∧ j = .int .i64 (i : Int) ∧ DiskAt wr w.heap.size d (fuSt k) 10000 (k : Int) true 0 dead ∧ Below w.heap.size w wr) (fun j _ => 1 + r - (intOf j).toNat)
      case atStart => exact ⟨0, false, by omega, rfl, hD0.out, hbr.out⟩
      case round =>
        obtain ⟨i, dead, hi, rfl, hDq, hbq⟩ := hrel
        by_cases hir : i < 1 + r
        · have hDb := hDq.below ((Below.refl wr.heap.size wr).alloc (Nat.le_refl _) (.cells (u8s [1]).toArray 5))
          have HB := hbq.alloc hbq.size (.cells (u8s [1]).toArray 5)
          clear hDq hbq
          cases dead with
          | false =>
            have A := Lib.hid (append_burnt _ w.heap.size d (fuSt k) 10000 (k : Int) hDb 0 (some ⟨wr.heap.size, 0, none⟩) 1 1 (by decide) (by decide) (by omega) (by decide) (by omega))
            clear hDb
            go_wp2_with fail
            refine A.out.mono ?_
            rintro e w3 ⟨rfl, hD3, hb2⟩
            have hbb2 := HB.trans hb2
            have S := Lib.hid (sync_dead w3 w.heap.size d (fuSt k) 10000 (k : Int) hD3)
            replace hbb2 := Lib.hid hbb2
            clear A hD3 hb2
            go_wp2_with fail
            refine S.out.mono ?_
            rintro e w4 ⟨rfl, hD4, hb4⟩
            obtain ⟨m4, L4, _, _, k4, _⟩ := id hD4
            obtain ⟨c0, _, _, _, _, c5, _⟩ := dcell k4
            have T := Lib.hid (deadness d m4 true w4 c0 c5)
            have hbb4 := Lib.hid (hbb2.out.trans hb4)
            replace hD4 := Lib.hid hD4
            clear S hb4 k4 c0 c5
            go_wp2_with fail
            refine T.out.mono ?_
            rintro e w5 ⟨rfl, rfl⟩
            go_wp2_with fail
            go_roundw
            case rel => exact ⟨i + 1, true, by omega, by go_num, hD4.out, hbb4.out⟩
            case measure => simp [intOf]; omega
          | true =>
            obtain ⟨m3, L3, _, _, k3, _⟩ := id hDb
            obtain ⟨c0, _, _, _, _, c5, _⟩ := dcell k3
            have A := Lib.hid (append_dead _ d m3 0 (.slice (some ⟨wr.heap.size, 0, none⟩) 1 1) c0 c5 (by decide) (by decide))
            clear c0 c5 k3
            go_wp2_with fail
            refine A.out.mono ?_
            rintro e w3 ⟨rfl, rfl⟩
            have hb2 := Below.refl w.heap.size (wr.alloc (.cells (u8s [1]).toArray 5))
            have hD3 : DiskAt (wr.alloc (.cells (u8s [1]).toArray 5)) w.heap.size d (fuSt k) 10000 (k : Int) true 0 true := hDb
            clear hDb
            have hbb2 := HB.trans hb2
            have S := Lib.hid (sync_dead _ w.heap.size d (fuSt k) 10000 (k : Int) hD3)
            replace hbb2 := Lib.hid hbb2
            clear A hD3 hb2
            go_wp2_with fail
            refine S.out.mono ?_
            rintro e w4 ⟨rfl, hD4, hb4⟩
            obtain ⟨m4, L4, _, _, k4, _⟩ := id hD4
            obtain ⟨c0, _, _, _, _, c5, _⟩ := dcell k4
            have T := Lib.hid (deadness d m4 true w4 c0 c5)
            have hbb4 := Lib.hid (hbb2.out.trans hb4)
            replace hD4 := Lib.hid hD4
            clear S hb4 k4 c0 c5
            go_wp2_with fail
            refine T.out.mono ?_
            rintro e w5 ⟨rfl, rfl⟩
            go_wp2_with fail
            go_roundw
            case rel => exact ⟨i + 1, true, by omega, by go_num, hD4.out, hbb4.out⟩
            case measure => simp [intOf]; omega
        · have hDb := hDq.below ((Below.refl wr.heap.size wr).alloc (Nat.le_refl _) (.cells #[.int .i64 1048576] 3))
          have HB := hbq.alloc hbq.size (.cells #[.int .i64 1048576] 3)
          have C := Lib.hid (crash _ w.heap.size d (fuSt k) 10000 (k : Int) true 0 dead hDb (by have := hbq.size; simp; omega) (by omega) (fu_small k (by omega)) (some ⟨wr.heap.size, 0, none⟩) [1048576] 1 1 (fun w' hb hs => (irow_new wr 1048576).change (fun ad ha => by cases ha; exact hs _ _ 3 (by decide) (heap_alloc_new wr _))) rfl (by decide))
          have hcs := crash_single (fu_single k) (by decide) (by decide) [1048576] (by rw [fu_at]; exact Nat.zero_le _)
          rw [fu_at, fu_left k (by omega)] at hcs
          have hcsm := (crash_small (ks := [1048576]) (fu_small k (by omega)) (zonesTo (fuSt k) 40)).1
          generalize (crashL [1048576] (fuSt k) (zonesTo (fuSt k) 40)).1 = cs at *
          replace HB := Lib.hid HB
          clear hDb hDq hbq
          go_wp2_with fail
          refine C.out.mono ?_
          rintro e w3 ⟨rfl, ⟨used', hD3⟩, hb3⟩
          have R := read_ok w3 w.heap.size d cs 10000 used' false 0 hD3 0 (by decide) (by decide) (fun q hq => hcsm 0 q hq)
          rw [hcs, List.length_replicate] at R
          have hbb3 := HB.out.trans hb3
          replace R := Lib.hid R
          replace hbb3 := Lib.hid hbb3
          replace hD3 := Lib.hid hD3
          clear C hb3 hcs hcsm
          go_wp2_with fail
          refine R.out.mono ?_
          rintro e w4 ⟨x, cx, rfl, hr4, hb4⟩
          have hD4 := hD3.out.below hb4
          obtain ⟨m4, L4, _, _, k4, _⟩ := id hD4
          obtain ⟨c0, _, _, _, _, c5, _⟩ := dcell k4
          have T := Lib.hid (deadness d m4 false w4 c0 c5)
          have hbb4 := Lib.hid (hbb3.out.trans (hb4.mono hbb3.out.size))
          clear R hr4 hb4 hD4 k4 c0 c5
          go_wp2_with fail
          refine T.out.mono ?_
          rintro e w5 ⟨rfl, rfl⟩
          go_wp2_with fail
          refine (awake w4).mono ?_
          rintro e w6 ⟨rfl, h6⟩
          have hbb6 := Lib.hid (hbb4.out.trans (h6.mono hbb4.out.size))
          clear h6
          go_wp2_with fail
          go_ret
          exact ⟨rfl, hbb6.out⟩

/-! ### THE ROW's STEP: WRITTEN OUT: LEAVE IT -/
set_option maxRecDepth 100000 in
theorem lifted (os : Os) (started : os.Started) (H : Type) (enc : TypeId × Value → H) :
    ReturnsInHanded {} Try.checked os 4 .any (Rows.diskFuseSpec.pre6 enc Try.prog Try.f4 Rows.diskFuseRow.domain false) (Rows.diskFuseSpec.post enc Try.prog Try.f4 false true false false) := by
  refine returnsInHanded_of_change (C := Try.checked) own started (by kernel_rfl) Try.func4
    (ChangeSpec.witness6 (enc := enc) (C := Try.checked) false ⟨#[], #[.int .u8 0, .int .u8 0], []⟩ 8 (by kernel_rfl) (by kernel_rfl) (by kernel_rfl) (by kernel_rfl)) ?_
  intro W base args ds gs before hval0 hW hcnd _
  have hval : ∀ (j : Nat) t v, Try.f4.params[j]? = some t → args[j]? = some v → Value.okWide Try.prog W .any base t v := hval0
  have hW' := hW
  obtain ⟨p, q, hA0, hV, rfl, hfz, hnd⟩ := hW
  have hA : DataW.TrodAll enc Try.prog W 0 (fun _ => true) true Try.f4.params.toList args.toList ds p := hA0
  rw [Try.params4] at hA hval
  obtain ⟨v0, vs0, d0, ds0, p0, q0, hargs, rfl, rfl, h0, r0⟩ := trodAll_cons hA
  obtain ⟨v1, vs1, d1, ds1, p1, q1, rfl, rfl, rfl, h1, r1⟩ := trodAll_cons r0
  obtain ⟨rfl, rfl, rfl⟩ := trodAll_nil r1
  obtain rfl : args = #[v0, v1] := by cases args; simp_all
  obtain ⟨rfl, rfl⟩ := trodVars_none hV
  obtain ⟨a0, rfl, rfl, rfl, w0⟩ := open_int Try.underlying5 (hval 0 5 v0 rfl rfl) h0
  obtain ⟨a1, rfl, rfl, rfl, w1⟩ := open_int Try.underlying5 (hval 1 5 v1 rfl rfl) h1
  clear hA0 hval0
  refine (walk a0 a1 w0 w1 W).mono fun e W' ⟨he, bel⟩ => ?_
  subst he
  exact ⟨_, rfl, _, _, _, [], _, [], hW', trodAll_mk1 (shut_bool Try.underlying4 _), (trodAll_cons_mk (shut_int Try.underlying5 w0) (trodAll_cons_mk (shut_int Try.underlying5 w1) trodAll_mk0)), rfl, bel.frame _, fun h => by cases h⟩

theorem over : Rows.diskFuseRow.holds Try.pinned (OpenSpec.ofChange Rows.diskFuseSpec) :=
  OpenClaim.holds_of_wide 4 Try.f4 rfl rfl rfl rfl rfl rfl rfl ⟨rfl, rfl, rfl, rfl, rfl⟩ rfl rfl rfl rfl rfl (by kernel_rfl) Try.func4 (by kernel_rfl)
    (of_decide_eq_true (by kernel_rfl)) (by unfold Func.isWrapper; first | (rw [if_pos (by decide +kernel)]; kernel_rfl) | (rw [if_neg (by decide +kernel)]; exact ⟨rfl, rfl⟩))
    (fun os started H enc _ => lifted os started H enc)

/-- ████ THE STATEMENT ████ -/
theorem proved : Rows.DiskFuseSaid :=
  over
#print axioms proved
end Go.Proofs.Ytjphboljhkddaaa.diskFuse
