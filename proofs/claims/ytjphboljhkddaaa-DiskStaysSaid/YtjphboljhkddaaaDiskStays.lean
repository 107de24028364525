/- Proved: what was synced is there behind a crash, and what is there is a beginning of what was. No condition. -/
import Derived.Test.YtjphboljhkddaaaRows
import Derived.Test.YtjphboljhkddaaaStays
import Derived.WalkKit
import Derived.ProofKit
import Derived.OpenShut
import Derived.ShutString
import Derived.ChangeOld
import Derived.Below
namespace Go.Proofs.Ytjphboljhkddaaa.diskStays
open Go.ChangeShapes Go.WideShapes Go.ChangeAt Go.RowKit
open Go.ChangeMaps (open_string shut_string)
set_option linter.unusedVariables false

theorem own : ownKnob Try.prog.godebug = none := by kernel_rfl
theorem laidOut : laidOutB Try.prog = true := by kernel_rfl

/-- WHAT THE WALK IS TOLD OF A SLICE OF INTEGERS THAT CAME IN: it is nil; or it leads to a row of 'cap' cells, the numbers 'zs' (the first 'len' are its elements, the rest its spare room), each fitting its kind. -/
def IsRow (k : IntKind) (w : World) (a : Option Addr) (len cap : Nat) (zs : List Int) : Prop :=
  (a = none ∧ len = 0 ∧ cap = 0 ∧ zs = []) ∨
  ∃ x, a = some x ∧ len ≤ cap ∧ cap ≤ maxLen ∧ zs.length = cap ∧ (∀ i, i < zs.length → w.cell? (x.add i) = some (.int k (zs.getD i 0))) ∧ ∀ n ∈ zs, (Lit.int k n).wf = true

theorem row_of {w : World} {a : Option Addr} {len cap : Nat} {zs : List Int} (h : IsRow .u8 w a len cap zs) : ∃ l : List Nat, l.length = len ∧ Row w a l ∧ (a = none → len = 0 ∧ cap = 0) ∧ len ≤ cap := by
  rcases h with ⟨rfl, rfl, rfl, rfl⟩ | ⟨x, rfl, hl, hm, hz, hcell, hwz⟩
  · exact ⟨[], rfl, ⟨fun c hc => (by cases hc), by decide, .inl rfl⟩, fun _ => ⟨rfl, rfl⟩, Nat.le_refl _⟩
  by_cases h0 : len = 0
  · subst h0
    exact ⟨[], rfl, ⟨fun c hc => (by cases hc), by decide, .inl rfl⟩, fun h => (by cases h), Nat.zero_le _⟩
  obtain ⟨b, off, spot⟩ := x
  have hc := hcell 0 (by omega)
  have hspot : spot = none := by simpa [Addr.add] using World.cell?_spot hc
  subst hspot
  have hw : ∀ n ∈ zs, 0 ≤ n ∧ n ≤ 255 := by
    intro n hn
    have := hwz n hn
    simp only [Lit.wf, Bool.and_eq_true, decide_eq_true_eq] at this
    exact this
  have hlen : ((zs.take len).map Int.toNat).length = len := by simp; omega
  refine ⟨(zs.take len).map Int.toNat, hlen, ⟨?_, ?_, .inr ⟨b, off, rfl, fun i hi => ?_⟩⟩, fun h => (by cases h), hl⟩
  · intro c hc
    obtain ⟨n, hn, rfl⟩ := List.mem_map.1 hc
    have := hw n (List.mem_of_mem_take hn)
    omega
  · rw [hlen]; unfold maxLen at hm; omega
  · rw [hlen] at hi
    have h1 := hcell i (by omega)
    have e1 : (⟨b, off, none⟩ : Addr).add i = ⟨b, off + i, none⟩ := by simp [Addr.add]
    rw [e1] at h1
    rw [h1]
    have hi' : i < zs.length := by omega
    have h2 := hw zs[i] (List.getElem_mem hi')
    have e2 : zs.getD i 0 = zs[i] := by simp [hi']
    have e3 : ((zs.take len).map Int.toNat).getD i 0 = zs[i].toNat := by simp [hi, hi']
    rw [e2, e3]
    congr 2
    omega

theorem irow_of {w : World} {a : Option Addr} {len cap : Nat} {zs : List Int} (h : IsRow .i64 w a len cap zs) : ∃ ks : List Int, ks.length = len ∧ IRow w a ks ∧ len ≤ 9223372036854775807 ∧ len ≤ cap := by
  rcases h with ⟨rfl, rfl, rfl, rfl⟩ | ⟨x, rfl, hl, hm, hz, hcell, hwz⟩
  · exact ⟨[], rfl, .inl rfl, by decide, Nat.le_refl _⟩
  by_cases h0 : len = 0
  · subst h0
    exact ⟨[], rfl, .inl rfl, by decide, Nat.zero_le _⟩
  obtain ⟨b, off, spot⟩ := x
  have hc := hcell 0 (by omega)
  have hspot : spot = none := by simpa [Addr.add] using World.cell?_spot hc
  subst hspot
  refine ⟨zs.take len, by simp; omega, .inr ⟨b, off, rfl, fun i hi => ?_⟩, by unfold maxLen at hm; omega, hl⟩
  rw [List.length_take] at hi
  have h1 := hcell i (by omega)
  have e1 : (⟨b, off, none⟩ : Addr).add i = ⟨b, off + i, none⟩ := by simp [Addr.add]
  rw [e1] at h1
  rw [h1]
  simp [show i < len by omega]

theorem irow_below {w w' : World} {a : Option Addr} {ks : List Int} (h : IRow w a ks) (hb : Below w.heap.size w w') : IRow w' a ks := by
  rcases h with h | ⟨b, off, ha, hc⟩
  · exact .inl h
  · refine .inr ⟨b, off, ha, fun i hi => ?_⟩
    have := hc i hi
    rw [hb.cell (p := ⟨b, off + i, none⟩) (by have h := block_lt_of_cell this; exact h)]
    exact this
/-! ### STEP 1: THE WALK: the Go text returns true, AND WRITES NOTHING THAT WAS THERE: 'Below w.heap.size w w'' (Derived/Below.lean: '.refl', '.alloc', '.drew', '.setCell' at a new block, '.trans'). Open each 'IsRow' by 'rcases' AHEAD of 'go_enter'; part every test ahead of the walk. -/
set_option maxHeartbeats 1600000 in
theorem walk (a0 : Int) (a1 : Option Addr) (len1 cap1 : Nat) (z1 : List Int) (a2 : Option Addr) (len2 cap2 : Nat) (z2 : List Int) (a3 : Option Addr) (len3 cap3 : Nat) (z3 : List Int) (w : World) (w0 : (Lit.int .i64 a0).wf = true) (w1 : IsRow .u8 w a1 len1 cap1 z1) (w2 : IsRow .u8 w a2 len2 cap2 z2) (w3 : IsRow .i64 w a3 len3 cap3 z3) :
    Calls Try.prog 3 #[.int .i64 a0, .slice a1 len1 cap1, .slice a2 len2 cap2, .slice a3 len3 cap3] w fun e w' => e = .returned (.bool true) ∧ Below w.heap.size w w' := by
  obtain ⟨l1, hl1, hr1, hnil1, hc1⟩ := row_of w1
  obtain ⟨l2, hl2, hr2, hnil2, hc2⟩ := row_of w2
  obtain ⟨ks, hks, hkr, hk63, hkc⟩ := irow_of w3
  clear w0 w1 w2 w3
  have N := Lib.hid (new_ok 10000 w (by decide) (by decide))
  obtain ⟨z, hz, hz40⟩ : ∃ z : Nat, (IntKind.u64.wrap a0).tmod 40 = (z : Int) ∧ z < 40 := by
    have h0 : 0 ≤ IntKind.u64.wrap a0 := by rw [IntKind.wrap_u64]; omega
    refine ⟨(IntKind.u64.wrap a0 % 40).toNat, ?_, by omega⟩
    rw [Int.tmod_eq_emod_of_nonneg h0]; omega
  go_enter Try.func3, Try.ntmps3
  go_wp2_with fail
  refine N.out.mono ?_
  rintro e wn ⟨d, rfl, hD1, hb1⟩
  replace hD1 := Lib.hid hD1
  replace hb1 := Lib.hid hb1
  replace hr1 := Lib.hid hr1
  replace hr2 := Lib.hid hr2
  replace hkr := Lib.hid hkr
  replace hl1 := Lib.hid hl1
  replace hl2 := Lib.hid hl2
  replace hks := Lib.hid hks
  clear N
  go_wp2_with fail
  obtain ⟨n1, hn1⟩ : ∃ n1, n1 = min len1 2000 := ⟨_, rfl⟩
  obtain ⟨n2, hn2⟩ : ∃ n2, n2 = min len2 2000 := ⟨_, rfl⟩
  replace hn1 := Lib.hid hn1
  replace hn2 := Lib.hid hn2
  go_cut [1, 2] (fun s1 s2 wx => s1 = .slice a1 n1 cap1 ∧ s2 = .slice a2 n2 cap2 ∧ Below wn.heap.size wn wx)
  case first =>
    have hB := Lib.hid (below_drewN (Below.refl wn.heap.size wn))
    by_cases h1 : len1 ≤ 2000 <;> by_cases h2 : len2 ≤ 2000
    · have e1 : n1 = len1 := by have := hn1.out; omega
      have e2 : n2 = len2 := by have := hn2.out; omega
      replace e1 := Lib.hid e1
      replace e2 := Lib.hid e2
      go_quiet (fail)
      go_wp2_with fail
      go_meet
      exact ⟨by rw [e1.out], by rw [e2.out], hB.out _⟩
    · have e1 : n1 = len1 := by have := hn1.out; omega
      have e2 : n2 = 2000 := by have := hn2.out; omega
      replace e1 := Lib.hid e1
      replace e2 := Lib.hid e2
      have g2 : (2000 : Int) ≤ (cap2 : Int) := by omega
      go_quiet (fail)
      go_wp2_with fail
      go_meet
      exact ⟨by rw [e1.out], by rw [e2.out], hB.out _⟩
    · have e1 : n1 = 2000 := by have := hn1.out; omega
      have e2 : n2 = len2 := by have := hn2.out; omega
      replace e1 := Lib.hid e1
      replace e2 := Lib.hid e2
      have g2 : (2000 : Int) ≤ (cap1 : Int) := by omega
      go_quiet (fail)
      go_wp2_with fail
      go_meet
      exact ⟨by rw [e1.out], by rw [e2.out], hB.out _⟩
    · have e1 : n1 = 2000 := by have := hn1.out; omega
      have e2 : n2 = 2000 := by have := hn2.out; omega
      replace e1 := Lib.hid e1
      replace e2 := Lib.hid e2
      have g1 : (2000 : Int) ≤ (cap1 : Int) := by omega
      have g2 : (2000 : Int) ≤ (cap2 : Int) := by omega
      go_quiet (fail)
      go_wp2_with fail
      go_meet
      exact ⟨by rw [e1.out], by rw [e2.out], hB.out _⟩
  case rest =>
    obtain ⟨rfl, rfl, hbc⟩ := hcut
    have hn1' : n1 ≤ 2000 ∧ n1 ≤ len1 := by have := hn1.out; omega
    have hn2' : n2 ≤ 2000 ∧ n2 ≤ len2 := by have := hn2.out; omega
    have hnl1 : a1 = none → n1 = 0 ∧ cap1 = 0 := fun h => ⟨by have := (hnil1 h).1; omega, (hnil1 h).2⟩
    have hnl2 : a2 = none → n2 = 0 ∧ cap2 = 0 := fun h => ⟨by have := (hnil2 h).1; omega, (hnil2 h).2⟩
    have hls : (l1.take n1).length = n1 := by rw [List.length_take, hl1.out]; omega
    have hlt : (l2.take n2).length = n2 := by rw [List.length_take, hl2.out]; omega
    have hrs := fun w' (hb : Below w.heap.size w w') => row_take (hr1.out.below hb) n1
    have hrt := fun w' (hb : Below w.heap.size w w') => row_take (hr2.out.below hb) n2
    have hkr' := fun w' (hb : Below w.heap.size w w') => irow_below hkr.out hb
    generalize l1.take n1 = s at *
    generalize l2.take n2 = t at *
    have hbb := hb1.out.trans (hbc.mono hb1.out.size)
    have A1 := append_ok wc w.heap.size d (fun _ => none) 10000 0 false 0 (hD1.out.below hbc) (z : Int) a1 s n1 cap1 (hrs wc hbb) hls hnl1 (by omega) (by omega) hbb.size (by decide) (by decide) (by omega) (by decide) rfl (fun q h => by cases h)
    have A2 := fun w' (hD : DiskAt w' w.heap.size d (syncSt (setZ (fun _ => none) (z : Int) (appZ ([], 0) s))) 10000 (n1 : Int) false 0 false) (hb : Below w.heap.size w w') => append_ok w' w.heap.size d _ 10000 (n1 : Int) false 0 hD (z : Int) a2 t n2 cap2 (hrt w' hb) hlt hnl2 (by omega) (by omega) hb.size (by omega) (by decide) (by omega) (by decide) rfl (sync_small (setZ_small (fun z q h => by cases h) _ _ (app_small (by simp; omega))) (z : Int))
    replace A1 := Lib.hid A1
    replace A2 := Lib.hid A2
    replace hrs := Lib.hid hrs
    replace hrt := Lib.hid hrt
    replace hkr' := Lib.hid hkr'
    replace hls := Lib.hid hls
    replace hlt := Lib.hid hlt
    replace hbb := Lib.hid hbb
    replace hbc := Lib.hid hbc
    have hsm3 : Small16 (setZ (syncSt (setZ (fun _ => none) (z : Int) (appZ ([], 0) s))) (z : Int) (appZ (((syncSt (setZ (fun _ => none) (z : Int) (appZ ([], 0) s))) (z : Int)).getD ([], 0)) t)) :=
      setZ_small (sync_small (setZ_small (fun z q h => by cases h) _ _ (app_small (by have := hls.out; simp; omega)))) _ _ (app_small (by rw [one_at]; have := hls.out; have := hlt.out; simp only; omega))
    have hsi3 : Single (setZ (syncSt (setZ (fun _ => none) (z : Int) (appZ ([], 0) s))) (z : Int) (appZ (((syncSt (setZ (fun _ => none) (z : Int) (appZ ([], 0) s))) (z : Int)).getD ([], 0)) t)) (z : Int) :=
      single_set (single_sync (single_set (fun _ _ => rfl) _)) _
    have hat3 := two_at (z : Int) s t
    replace hsm3 := Lib.hid hsm3
    replace hsi3 := Lib.hid hsi3
    replace hat3 := Lib.hid hat3
    clear hnil1 hnil2 hn1 hn2 hD1
    go_wp2_with fail
    refine A1.out.mono ?_
    rintro e w3 ⟨rfl, hD3, hb3⟩
    have hD3' : DiskAt w3 w.heap.size d (setZ (fun _ => none) (z : Int) (appZ ([], 0) s)) 10000 (n1 : Int) false 0 false := by
      have h := hD3
      rw [Int.zero_add] at h
      exact h
    have hbb3 := hbb.out.trans hb3
    have S := Lib.hid (sync_ok w3 w.heap.size d _ 10000 (n1 : Int) false 0 hD3' hbb3.size (by decide) rfl)
    replace hbb3 := Lib.hid hbb3
    clear A1 hD3 hD3' hb3
    go_wp2_with fail
    refine S.out.mono ?_
    rintro e w4 ⟨rfl, hD4, hb4⟩
    have hbb4 := hbb3.out.trans hb4
    have A2' := Lib.hid (A2.out w4 hD4 hbb4)
    replace hbb4 := Lib.hid hbb4
    clear S A2 hD4 hb4
    go_wp2_with fail
    refine A2'.out.mono ?_
    rintro e w5 ⟨rfl, hD5, hb5⟩
    have hbb5 := hbb4.out.trans hb5
    have C := Lib.hid (crash w5 w.heap.size d _ 10000 ((n1 : Int) + n2) false 0 false hD5 hbb5.size (by omega) hsm3.out a3 ks len3 cap3 (fun w' hb _ => hkr'.out w' (hbb5.trans hb)) hks.out hk63)
    replace hbb5 := Lib.hid hbb5
    clear A2' hD5 hb5
    go_wp2_with fail
    refine C.out.mono ?_
    rintro e w6 ⟨rfl, ⟨used', hD6⟩, hb6⟩
    have hcs := crash_single hsi3.out (by omega) (by omega) ks (by rw [hat3.out]; show s.length ≤ (s ++ t).length; simp)
    rw [hat3.out] at hcs
    have R := read_more w6 w.heap.size d _ 10000 used' false 0 hD6 (z : Int) (by omega) (by omega) (fun q hq => (crash_small (ks := ks) hsm3.out _).1 (z : Int) q hq)
    rw [hcs] at R
    have hbb6 := hbb5.out.trans hb6
    replace R := Lib.hid R
    replace hbb6 := Lib.hid hbb6
    clear C hD6 hb6 hcs hsm3 hsi3 hat3
    go_wp2_with fail
    refine R.out.mono ?_
    rintro e w7 ⟨x, cx, rfl, hr7, hb7, hle7, hnil7⟩
    obtain ⟨b, hb⟩ : ∃ b, b = left1 ks (s ++ t, s.length) := ⟨_, rfl⟩
    rw [← hb] at hr7 hle7 ⊢
    have hb' : b = (s ++ t).take (s.length + keepN ks 0 ((s ++ t).length - s.length)) := hb
    obtain ⟨p1, p2⟩ := kept_has s t (keepN ks 0 ((s ++ t).length - s.length))
    rw [← hb'] at p1 p2
    have p3 := kept_of (s ++ t) (s.length + keepN ks 0 ((s ++ t).length - s.length))
    rw [← hb'] at p3
    have hbb7 := hbb6.out.trans (hb7.mono hbb6.out.size)
    obtain ⟨nb, hnb⟩ : ∃ nb, nb = b.length := ⟨_, rfl⟩
    rw [← hnb] at hle7 p1 p3 ⊢
    have H1 := Lib.hid (hasprefix w7 x a1 b s nb n1 cx cap1 hr7 (hrs.out w7 hbb7) hnb.symm hls.out (by rw [← hls.out]; exact p1) hle7 hnil7 (by rw [← hls.out]; exact p2))
    have hY := heap_alloc_new w7 (.cells #[.slice a1 n1 cap1, .slice a2 n2 cap2] 22)
    have hb8 : Below w7.heap.size w7 (w7.alloc (.cells #[.slice a1 n1 cap1, .slice a2 n2 cap2] 22)) := (Below.refl _ _).alloc (Nat.le_refl _) _
    have hbb8 := hbb7.trans (hb8.mono hbb7.size)
    have K := Lib.hid (concat_any _ w7.heap.size a1 a2 cap1 cap2 n1 n2 s t (hrs.out _ hbb8) (hrt.out _ hbb8) hls.out hlt.out hnl1 hnl2 (by rw [cell_of_row _ _ _ _ _ _ hY]; rfl) (by rw [cell_of_row _ _ _ _ _ _ hY]; rfl) (by omega))
    have hr8 := Lib.hid (hr7.below hb8)
    replace hbb8 := Lib.hid hbb8
    replace hnb := Lib.hid hnb
    have p3' := Lib.hid p3
    clear R hr7 hb7 hb hb' hY hb8 p1 p2 p3 hle7
    go_wp2_with fail
    refine H1.out.mono ?_
    rintro e w8 ⟨rfl, rfl⟩
    go_wp2_with fail
    refine K.out.mono ?_
    rintro e w9 ⟨y, cy, rfl, hr9, hb9, hle9, hmx9, hnil9, _⟩
    have hbb9 := hbb8.out.trans (hb9.mono hbb8.out.size)
    have H2 := Lib.hid (hasprefix w9 y x (s ++ t) b (s ++ t).length nb cy cx hr9 (hr8.out.below hb9) rfl hnb.out.symm p3'.out.1 hle9 (fun h => (hnil9 h).2) (by rw [hnb.out]; have := p3'.out.2; rw [hnb.out] at this; exact this))
    obtain ⟨u, hu⟩ : ∃ u, u = (s ++ t).length := ⟨_, rfl⟩
    rw [← hu] at H2 ⊢
    replace hu := Lib.hid hu
    replace hbb9 := Lib.hid hbb9
    clear H1 K hr9 hb9 hle9 hnil9
    go_wp2_with fail
    refine H2.out.mono ?_
    rintro e w10 ⟨rfl, rfl⟩
    go_wp2_with fail
    refine (awake w9).mono ?_
    rintro e w11 ⟨rfl, h11⟩
    have hbb11 := Lib.hid (hbb9.out.trans (h11.mono hbb9.out.size))
    clear h11
    go_wp2_with fail
    go_ret
    exact ⟨rfl, hbb11.out⟩

/-! ### THE ROW's STEP: WRITTEN OUT: LEAVE IT -/
set_option maxRecDepth 100000 in
theorem lifted (os : Os) (started : os.Started) (H : Type) (enc : TypeId × Value → H) :
    ReturnsInHanded {} Try.checked os 3 .any (Rows.diskStaysSpec.pre6 enc Try.prog Try.f3 Rows.diskStaysRow.domain false) (Rows.diskStaysSpec.post enc Try.prog Try.f3 false true false false) := by
  refine returnsInHanded_of_change (C := Try.checked) own started (by kernel_rfl) Try.func3
    (ChangeSpec.witness6 (enc := enc) (C := Try.checked) false ⟨#[], #[.int .i64 0, .slice none 0 0, .slice none 0 0, .slice none 0 0], []⟩ 8 (by kernel_rfl) (by kernel_rfl) (by kernel_rfl) (by kernel_rfl)) ?_
  intro W base args ds gs before hval0 hW hcnd _
  have hval : ∀ (j : Nat) t v, Try.f3.params[j]? = some t → args[j]? = some v → Value.okWide Try.prog W .any base t v := hval0
  have hW' := hW
  obtain ⟨p, q, hA0, hV, rfl, hfz, hnd⟩ := hW
  have hA : DataW.TrodAll enc Try.prog W 0 (fun _ => true) true Try.f3.params.toList args.toList ds p := hA0
  rw [Try.params3] at hA hval
  obtain ⟨v0, vs0, d0, ds0, p0, q0, hargs, rfl, rfl, h0, r0⟩ := trodAll_cons hA
  obtain ⟨v1, vs1, d1, ds1, p1, q1, rfl, rfl, rfl, h1, r1⟩ := trodAll_cons r0
  obtain ⟨v2, vs2, d2, ds2, p2, q2, rfl, rfl, rfl, h2, r2⟩ := trodAll_cons r1
  obtain ⟨v3, vs3, d3, ds3, p3, q3, rfl, rfl, rfl, h3, r3⟩ := trodAll_cons r2
  obtain ⟨rfl, rfl, rfl⟩ := trodAll_nil r3
  obtain rfl : args = #[v0, v1, v2, v3] := by cases args; simp_all
  obtain ⟨rfl, rfl⟩ := trodVars_none hV
  obtain ⟨a0, rfl, rfl, rfl, w0⟩ := open_int Try.underlying3 (hval 0 3 v0 rfl rfl) h0
  obtain ⟨a1, len1, cap1, rfl⟩ := okWide_slice Try.underlying22 (hval 1 22 v1 rfl rfl)
  have k1 := h1
  have lt1 : ∀ x ∈ p1, x.block < W.heap.size := by obtain ⟨m, hm⟩ := k1; exact DataW.trod_lt m _ _ _ hm
  obtain ⟨z1, w1⟩ : ∃ zs, IsRow .u8 W a1 len1 cap1 zs := by
    obtain ⟨fuel, hf⟩ := h1
    rcases open_ints Try.underlying22 Try.underlying5 (by kernel_rfl) hf with ⟨hcs, _⟩ | ⟨x, l, c, zs, hcs, _, hl, hm, hz, _, hcell, hwz⟩
    · simp [Value.cells] at hcs
      obtain ⟨rfl, rfl, rfl⟩ := hcs
      exact ⟨[], .inl ⟨rfl, rfl, rfl, rfl⟩⟩
    · simp [Value.cells] at hcs
      obtain ⟨rfl, rfl, rfl⟩ := hcs
      exact ⟨zs, .inr ⟨_, rfl, hl, hm, by simpa using hz, hcell, hwz⟩⟩
  obtain ⟨a2, len2, cap2, rfl⟩ := okWide_slice Try.underlying22 (hval 2 22 v2 rfl rfl)
  have k2 := h2
  have lt2 : ∀ x ∈ p2, x.block < W.heap.size := by obtain ⟨m, hm⟩ := k2; exact DataW.trod_lt m _ _ _ hm
  obtain ⟨z2, w2⟩ : ∃ zs, IsRow .u8 W a2 len2 cap2 zs := by
    obtain ⟨fuel, hf⟩ := h2
    rcases open_ints Try.underlying22 Try.underlying5 (by kernel_rfl) hf with ⟨hcs, _⟩ | ⟨x, l, c, zs, hcs, _, hl, hm, hz, _, hcell, hwz⟩
    · simp [Value.cells] at hcs
      obtain ⟨rfl, rfl, rfl⟩ := hcs
      exact ⟨[], .inl ⟨rfl, rfl, rfl, rfl⟩⟩
    · simp [Value.cells] at hcs
      obtain ⟨rfl, rfl, rfl⟩ := hcs
      exact ⟨zs, .inr ⟨_, rfl, hl, hm, by simpa using hz, hcell, hwz⟩⟩
  obtain ⟨a3, len3, cap3, rfl⟩ := okWide_slice Try.underlying23 (hval 3 23 v3 rfl rfl)
  have k3 := h3
  have lt3 : ∀ x ∈ p3, x.block < W.heap.size := by obtain ⟨m, hm⟩ := k3; exact DataW.trod_lt m _ _ _ hm
  obtain ⟨z3, w3⟩ : ∃ zs, IsRow .i64 W a3 len3 cap3 zs := by
    obtain ⟨fuel, hf⟩ := h3
    rcases open_ints Try.underlying23 Try.underlying3 (by kernel_rfl) hf with ⟨hcs, _⟩ | ⟨x, l, c, zs, hcs, _, hl, hm, hz, _, hcell, hwz⟩
    · simp [Value.cells] at hcs
      obtain ⟨rfl, rfl, rfl⟩ := hcs
      exact ⟨[], .inl ⟨rfl, rfl, rfl, rfl⟩⟩
    · simp [Value.cells] at hcs
      obtain ⟨rfl, rfl, rfl⟩ := hcs
      exact ⟨zs, .inr ⟨_, rfl, hl, hm, by simpa using hz, hcell, hwz⟩⟩
  clear hA0 hval0
  refine (walk a0 a1 len1 cap1 z1 a2 len2 cap2 z2 a3 len3 cap3 z3 W w0 w1 w2 w3).mono fun e W' ⟨he, bel⟩ => ?_
  subst he
  exact ⟨_, rfl, _, _, _, [], _, [], hW', trodAll_mk1 (shut_bool Try.underlying4 _), (trodAll_cons_mk (shut_int Try.underlying3 w0) (trodAll_cons_mk (Below.trod laidOut (by kernel_rfl) (of_decide_eq_true (by kernel_rfl)) k1 bel lt1) (trodAll_cons_mk (Below.trod laidOut (by kernel_rfl) (of_decide_eq_true (by kernel_rfl)) k2 bel lt2) (trodAll_cons_mk (Below.trod laidOut (by kernel_rfl) (of_decide_eq_true (by kernel_rfl)) k3 bel lt3) trodAll_mk0)))), rfl, bel.frame _, fun h => by cases h⟩

theorem over : Rows.diskStaysRow.holds Try.pinned (OpenSpec.ofChange Rows.diskStaysSpec) :=
  OpenClaim.holds_of_wide 3 Try.f3 rfl rfl rfl rfl rfl rfl rfl ⟨rfl, rfl, rfl, rfl, rfl⟩ rfl rfl rfl rfl rfl (by kernel_rfl) Try.func3 (by kernel_rfl)
    (of_decide_eq_true (by kernel_rfl)) (by unfold Func.isWrapper; first | (rw [if_pos (by decide +kernel)]; kernel_rfl) | (rw [if_neg (by decide +kernel)]; exact ⟨rfl, rfl⟩))
    (fun os started H enc _ => lifted os started H enc)

/-- ████ THE STATEMENT ████ -/
theorem proved : Rows.DiskStaysSaid := over
#print axioms proved
end Go.Proofs.Ytjphboljhkddaaa.diskStays
