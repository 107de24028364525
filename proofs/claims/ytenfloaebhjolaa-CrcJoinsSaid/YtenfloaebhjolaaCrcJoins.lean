/- Proved: the sum of two texts together comes of their sums. No condition. -/
import Derived.Test.YtenfloaebhjolaaRows
import Derived.Test.YtenfloaebhjolaaConcat
import Derived.WalkKit
import Derived.ProofKit
import Derived.SizedLaws
import Derived.OpenShut
import Derived.ShutString
import Derived.ChangeOld
import Derived.Below
namespace Go.Proofs.Ytenfloaebhjolaa.crcJoins
open CM Go.ChangeShapes Go.WideShapes Go.ChangeAt Go.RowKit
open Go.ChangeMaps (open_string shut_string)
set_option linter.unusedVariables false

theorem own : ownKnob Try.prog.godebug = none := by kernel_rfl
theorem laidOut : laidOutB Try.prog = true := by kernel_rfl

/-- WHAT THE WALK IS TOLD OF A SLICE OF INTEGERS THAT CAME IN: it is nil; or it leads to a row of 'cap' cells, the numbers 'zs' (the first 'len' are its elements, the rest its spare room), each fitting its kind. -/
def IsRow (k : IntKind) (w : World) (a : Option Addr) (len cap : Nat) (zs : List Int) : Prop :=
  (a = none ∧ len = 0 ∧ cap = 0 ∧ zs = []) ∨
  ∃ x, a = some x ∧ len ≤ cap ∧ cap ≤ maxLen ∧ zs.length = cap ∧ (∀ i, i < zs.length → w.cell? (x.add i) = some (.int k (zs.getD i 0))) ∧ ∀ n ∈ zs, (Lit.int k n).wf = true


theorem more_lt (l : List Nat) (h : ∀ c ∈ l, c < 256) : CM.more 0 l < 4294967296 := flip_lt _ (run_lt l _ (flip_lt 0 (by decide)) h)
theorem jn_join (b : List Nat) (n : Nat) (a : List Nat) (hn : b.length = n) (h : n ≤ 1048576) : jn ((n : Nat) : Int) (CM.more 0 a) (CM.more 0 b) = CM.more 0 (a ++ b) := by
  unfold jn zr
  rw [if_neg (by omega), Int.toNat_natCast, ← join, hn]
theorem row_take {w : World} {a : Option Addr} {l : List Nat} (h : Row w a l) (n : Nat) : Row w a (l.take n) := by
  obtain ⟨h1, h2, h3⟩ := h
  refine ⟨fun c hc => h1 c (List.mem_of_mem_take hc), Nat.le_trans (by rw [List.length_take]; omega) h2, ?_⟩
  rcases h3 with rfl | ⟨b, off, ha, hc⟩
  · exact .inl (by simp)
  · refine .inr ⟨b, off, ha, fun i hi => ?_⟩
    rw [List.length_take] at hi
    rw [hc i (by omega)]
    congr 3
    rw [List.getD_eq_getElem?_getD, List.getD_eq_getElem?_getD, List.getElem?_take_of_lt (by omega)]

theorem row_of {w : World} {a : Option Addr} {len cap : Nat} {zs : List Int} (h : IsRow .u8 w a len cap zs) : ∃ l : List Nat, l.length = len ∧ Row w a l ∧ (a = none → len = 0 ∧ cap = 0) ∧ len ≤ cap := by
  rcases h with ⟨rfl, rfl, rfl, rfl⟩ | ⟨x, rfl, hl, hm, hz, hcell, hwz⟩
  · exact ⟨[], rfl, ⟨fun c hc => (by cases hc), by decide, .inl rfl⟩, fun _ => ⟨rfl, rfl⟩, Nat.le_refl _⟩
  by_cases h0 : len = 0
  · subst h0
    exact ⟨[], rfl, ⟨fun c hc => (by cases hc), by decide, .inl rfl⟩, fun h => (by cases h), Nat.zero_le _⟩
  obtain ⟨b, off, spot⟩ := x
  have hc := hcell 0 (by omega)
  have hspot : spot = none := by simpa [Addr.add] using World.cell?_spot hc
  subst hspot
  have hw : ∀ n ∈ zs, 0 ≤ n ∧ n ≤ 255 := by
    intro n hn
    have := hwz n hn
    simp only [Lit.wf, Bool.and_eq_true, decide_eq_true_eq] at this
    exact this
  have hlen : ((zs.take len).map Int.toNat).length = len := by simp; omega
  refine ⟨(zs.take len).map Int.toNat, hlen, ⟨?_, ?_, .inr ⟨b, off, rfl, fun i hi => ?_⟩⟩, fun h => (by cases h), hl⟩
  · intro c hc
    obtain ⟨n, hn, rfl⟩ := List.mem_map.1 hc
    have := hw n (List.mem_of_mem_take hn)
    omega
  · rw [hlen]; unfold maxLen at hm; omega
  · rw [hlen] at hi
    have h1 := hcell i (by omega)
    have e1 : (⟨b, off, none⟩ : Addr).add i = ⟨b, off + i, none⟩ := by simp [Addr.add]
    rw [e1] at h1
    rw [h1]
    have hi' : i < zs.length := by omega
    have h2 := hw zs[i] (List.getElem_mem hi')
    have e2 : zs.getD i 0 = zs[i] := by simp [hi']
    have e3 : ((zs.take len).map Int.toNat).getD i 0 = zs[i].toNat := by simp [hi, hi']
    rw [e2, e3]
    congr 2
    omega

/-! ### STEP 1: THE WALK: the Go text returns true, AND WRITES NOTHING THAT WAS THERE: 'Below w.heap.size w w'' (Derived/Below.lean: '.refl', '.alloc', '.drew', '.setCell' at a new block, '.trans'). Open each 'IsRow' by 'rcases' AHEAD of 'go_enter'; part every test ahead of the walk. -/
theorem walk (a0 : Option Addr) (len0 cap0 : Nat) (z0 : List Int) (a1 : Option Addr) (len1 cap1 : Nat) (z1 : List Int) (w : World) (w0 : IsRow .u8 w a0 len0 cap0 z0) (w1 : IsRow .u8 w a1 len1 cap1 z1) (b0 : cap0 ≤ 140737488351232) (b1 : cap1 ≤ 140737488351232) :
    Calls Try.prog 6 #[.slice a0 len0 cap0, .slice a1 len1 cap1] w fun e w' => e = .returned (.bool true) ∧ Below w.heap.size w w' := by
  obtain ⟨l1, hl1, hr1, hn1, hc1⟩ := row_of w0
  obtain ⟨l2, hl2, hr2, hn2, hc2⟩ := row_of w1
  replace hl1 := Lib.hid hl1
  replace hr1 := Lib.hid hr1
  replace hn1 := Lib.hid hn1
  replace hl2 := Lib.hid hl2
  replace hr2 := Lib.hid hr2
  replace hn2 := Lib.hid hn2
  have hl0 : len0 ≤ 140737488351232 := by omega
  clear w0 w1
  by_cases hlen : len1 ≤ 1048576
  · have hle : len1 ≤ cap1 := hc2
    have CC := Lib.hid (concat_any (w.alloc (.cells #[.slice a0 len0 cap0, .slice a1 len1 cap1] 22)) w.heap.size a0 a1 cap0 cap1 len0 (len1) l1 (l2)
      (hr1.out.below ((Below.refl _ _).alloc (Nat.le_refl _) _)) (hr2.out.below ((Below.refl _ _).alloc (Nat.le_refl _) _)) hl1.out hl2.out hn1.out hn2.out
      (by rw [cell_of_row _ w.heap.size _ _ _ _ (heap_alloc_new w _)]; rfl) (by rw [cell_of_row _ w.heap.size _ _ _ _ (heap_alloc_new w _)]; rfl) (by omega))
    clear b0 b1 hc1 hc2 hl0
    go_enter Try.func6, Try.ntmps6
    go_wp2_with fail
    refine CC.out.mono ?_
    rintro e w1 ⟨v, a', cap', rfl, rfl, hr', h1⟩
    replace h1 := Lib.hid (((Below.refl w.heap.size w).alloc (Nat.le_refl _) _).trans (h1.mono (by simp)))
    replace hr' := Lib.hid hr'
    have A := Lib.hid (fun (w' : World) (h : Below w.heap.size w w') => sum a0 l1 cap0 len0 w' (hr1.out.below h) hl1.out)
    have B := Lib.hid (fun (w' : World) (h : Below w.heap.size w w') => sum a1 l2 cap1 len1 w' (hr2.out.below h) hl2.out)
    have J := Lib.hid (fun (w' : World) => join_walk (CM.more 0 l1) (CM.more 0 l2) ((len1 : Nat) : Int) w' (more_lt _ hr1.out.1) (more_lt _ hr2.out.1))
    have C := Lib.hid (fun (w' : World) (h : Below w1.heap.size w1 w') => sum a' (l1 ++ l2) cap' _ w' (hr'.out.below h) rfl)
    have M := Lib.hid (fun (w' : World) (h : Below w.heap.size w w') => more (CM.more 0 l1) a1 l2 cap1 len1 w' (more_lt _ hr1.out.1) (hr2.out.below h) hl2.out)
    rw [jn_join l2 (len1) l1 hl2.out (by omega)] at J
    rw [more_more] at M
    have hll : (l1 ++ l2).length = len0 + len1 := by rw [List.length_append, hl1.out, hl2.out]
    rw [hll] at C ⊢
    clear hll
    generalize CM.more 0 (l1 ++ l2) = q at *
    generalize CM.more 0 l1 = qa at *
    generalize CM.more 0 l2 = qb at *
    go_wp2_with fail
    refine (A.out w1 h1.out).mono ?_
    rintro e w2 ⟨rfl, g2⟩
    have h2 := Lib.hid (h1.out.trans (g2.mono h1.out.size))
    replace g2 := Lib.hid g2
    go_wp2_with fail
    refine (B.out w2 h2.out).mono ?_
    rintro e w3 ⟨rfl, g3⟩
    have h3 := Lib.hid (h2.out.trans (g3.mono h2.out.size))
    replace g3 := Lib.hid (g2.out.trans (g3.mono g2.out.size))
    go_wp2_with fail
    refine (J.out w3).mono ?_
    rintro e w4 ⟨rfl, g4⟩
    have h4 := Lib.hid (h3.out.trans (g4.mono h3.out.size))
    replace g4 := Lib.hid (g3.out.trans (g4.mono g3.out.size))
    go_wp2_with fail
    refine (C.out w4 g4.out).mono ?_
    rintro e w5 ⟨rfl, g5⟩
    have h5 := Lib.hid (h4.out.trans (g5.mono h4.out.size))
    replace g5 := Lib.hid (g4.out.trans (g5.mono g4.out.size))
    go_wp2_with fail
    refine (A.out w5 h5.out).mono ?_
    rintro e w6 ⟨rfl, g6⟩
    have h6 := Lib.hid (h5.out.trans (g6.mono h5.out.size))
    replace g6 := Lib.hid (g5.out.trans (g6.mono g5.out.size))
    go_wp2_with fail
    refine (M.out w6 h6.out).mono ?_
    rintro e w7 ⟨rfl, g7⟩
    have h7 := Lib.hid (h6.out.trans (g7.mono h6.out.size))
    replace g7 := Lib.hid (g6.out.trans (g7.mono g6.out.size))
    go_wp2_with fail
    refine (C.out w7 g7.out).mono ?_
    rintro e w8 ⟨rfl, g8⟩
    have h8 := Lib.hid (h7.out.trans (g8.mono h7.out.size))
    clear g8
    go_wp2_with fail
    refine (awake _).mono ?_
    rintro e w9 ⟨rfl, g9⟩
    replace g9 := Lib.hid (h8.out.trans (g9.mono h8.out.size))
    go_wp2_with fail
    go_ret
    exact ⟨rfl, g9.out⟩
  · have hd2 := Lib.hid (row_take hr2.out 1048576)
    have hm : (l2.take 1048576).length = 1048576 := by rw [List.length_take, hl2.out]; omega
    replace hm := Lib.hid hm
    have hlt : 1048576 < len1 := by omega
    have hle : 1048576 ≤ cap1 := by omega
    have hle2 : len1 ≤ cap1 := hc2
    have CC := Lib.hid (concat_any (w.alloc (.cells #[.slice a0 len0 cap0, .slice a1 1048576 cap1] 22)) w.heap.size a0 a1 cap0 cap1 len0 (1048576) l1 ((l2.take 1048576))
      (hr1.out.below ((Below.refl _ _).alloc (Nat.le_refl _) _)) (hd2.out.below ((Below.refl _ _).alloc (Nat.le_refl _) _)) hl1.out hm.out hn1.out (fun h => by have := (hn2.out h).1; omega)
      (by rw [cell_of_row _ w.heap.size _ _ _ _ (heap_alloc_new w _)]; rfl) (by rw [cell_of_row _ w.heap.size _ _ _ _ (heap_alloc_new w _)]; rfl) (by omega))
    clear b0 b1 hc1 hc2 hl0 hlen
    go_enter Try.func6, Try.ntmps6
    go_wp2_with fail
    refine CC.out.mono ?_
    rintro e w1 ⟨v, a', cap', rfl, rfl, hr', h1⟩
    replace h1 := Lib.hid (((Below.refl w.heap.size w).alloc (Nat.le_refl _) _).trans (h1.mono (by simp)))
    replace hr' := Lib.hid hr'
    have A := Lib.hid (fun (w' : World) (h : Below w.heap.size w w') => sum a0 l1 cap0 len0 w' (hr1.out.below h) hl1.out)
    have B := Lib.hid (fun (w' : World) (h : Below w.heap.size w w') => sum a1 (l2.take 1048576) cap1 1048576 w' (hd2.out.below h) hm.out)
    have J := Lib.hid (fun (w' : World) => join_walk (CM.more 0 l1) (CM.more 0 (l2.take 1048576)) ((1048576 : Nat) : Int) w' (more_lt _ hr1.out.1) (more_lt _ hd2.out.1))
    have C := Lib.hid (fun (w' : World) (h : Below w1.heap.size w1 w') => sum a' (l1 ++ (l2.take 1048576)) cap' _ w' (hr'.out.below h) rfl)
    have M := Lib.hid (fun (w' : World) (h : Below w.heap.size w w') => more (CM.more 0 l1) a1 (l2.take 1048576) cap1 1048576 w' (more_lt _ hr1.out.1) (hd2.out.below h) hm.out)
    rw [jn_join (l2.take 1048576) (1048576) l1 hm.out (by omega)] at J
    rw [more_more] at M
    have hll : (l1 ++ (l2.take 1048576)).length = len0 + 1048576 := by rw [List.length_append, hl1.out, hm.out]
    rw [hll] at C ⊢
    clear hll
    generalize CM.more 0 (l1 ++ (l2.take 1048576)) = q at *
    generalize CM.more 0 l1 = qa at *
    generalize CM.more 0 (l2.take 1048576) = qb at *
    go_wp2_with fail
    refine (A.out w1 h1.out).mono ?_
    rintro e w2 ⟨rfl, g2⟩
    have h2 := Lib.hid (h1.out.trans (g2.mono h1.out.size))
    replace g2 := Lib.hid g2
    go_wp2_with fail
    refine (B.out w2 h2.out).mono ?_
    rintro e w3 ⟨rfl, g3⟩
    have h3 := Lib.hid (h2.out.trans (g3.mono h2.out.size))
    replace g3 := Lib.hid (g2.out.trans (g3.mono g2.out.size))
    go_wp2_with fail
    refine (J.out w3).mono ?_
    rintro e w4 ⟨rfl, g4⟩
    have h4 := Lib.hid (h3.out.trans (g4.mono h3.out.size))
    replace g4 := Lib.hid (g3.out.trans (g4.mono g3.out.size))
    go_wp2_with fail
    refine (C.out w4 g4.out).mono ?_
    rintro e w5 ⟨rfl, g5⟩
    have h5 := Lib.hid (h4.out.trans (g5.mono h4.out.size))
    replace g5 := Lib.hid (g4.out.trans (g5.mono g4.out.size))
    go_wp2_with fail
    refine (A.out w5 h5.out).mono ?_
    rintro e w6 ⟨rfl, g6⟩
    have h6 := Lib.hid (h5.out.trans (g6.mono h5.out.size))
    replace g6 := Lib.hid (g5.out.trans (g6.mono g5.out.size))
    go_wp2_with fail
    refine (M.out w6 h6.out).mono ?_
    rintro e w7 ⟨rfl, g7⟩
    have h7 := Lib.hid (h6.out.trans (g7.mono h6.out.size))
    replace g7 := Lib.hid (g6.out.trans (g7.mono g6.out.size))
    go_wp2_with fail
    refine (C.out w7 g7.out).mono ?_
    rintro e w8 ⟨rfl, g8⟩
    have h8 := Lib.hid (h7.out.trans (g8.mono h7.out.size))
    clear g8
    go_wp2_with fail
    refine (awake _).mono ?_
    rintro e w9 ⟨rfl, g9⟩
    replace g9 := Lib.hid (h8.out.trans (g9.mono h8.out.size))
    go_wp2_with fail
    go_ret
    exact ⟨rfl, g9.out⟩

/-! ### THE ROW's STEP: WRITTEN OUT: LEAVE IT -/
set_option maxRecDepth 100000 in
theorem lifted (os : Os) (started : os.Started) (H : Type) (enc : TypeId × Value → H) :
    ReturnsInHanded {} Try.checked os 6 .any (Rows.crcJoinsSpec.pre6 enc Try.prog Try.f6 Rows.crcJoinsRow.domain false) (Rows.crcJoinsSpec.post enc Try.prog Try.f6 false true false false) := by
  refine returnsInHanded_of_change_sized (C := Try.checked) own started (by kernel_rfl) Try.func6
    (ChangeSpec.witness6 (enc := enc) (C := Try.checked) false ⟨#[], #[.slice none 0 0, .slice none 0 0], []⟩ 8 (by kernel_rfl) (by kernel_rfl) (by kernel_rfl) (by kernel_rfl)) ?_
  intro W base args ds gs before hval0 hW hcnd hsz0 _
  have hsz : (DataW.weightsEach Try.prog (Try.f6.params.toList ++ Rows.crcJoinsSpec.plain.varTypes Try.prog) (ds ++ gs)).all (· ≤ reachBytes) = true := hsz0
  clear hsz0
  have hval : ∀ (j : Nat) t v, Try.f6.params[j]? = some t → args[j]? = some v → Value.okWide Try.prog W .any base t v := hval0
  have hW' := hW
  obtain ⟨p, q, hA0, hV, rfl, hfz, hnd⟩ := hW
  have hA : DataW.TrodAll enc Try.prog W 0 (fun _ => true) true Try.f6.params.toList args.toList ds p := hA0
  rw [Try.params6] at hA hval hsz
  obtain ⟨v0, vs0, d0, ds0, p0, q0, hargs, rfl, rfl, h0, r0⟩ := trodAll_cons hA
  obtain ⟨v1, vs1, d1, ds1, p1, q1, rfl, rfl, rfl, h1, r1⟩ := trodAll_cons r0
  obtain ⟨rfl, rfl, rfl⟩ := trodAll_nil r1
  obtain rfl : args = #[v0, v1] := by cases args; simp_all
  obtain ⟨rfl, rfl⟩ := trodVars_none hV
  obtain ⟨a0, len0, cap0, rfl⟩ := okWide_slice Try.underlying22 (hval 0 22 v0 rfl rfl)
  have k0 := h0
  have lt0 : ∀ x ∈ p0, x.block < W.heap.size := by obtain ⟨m, hm⟩ := k0; exact DataW.trod_lt m _ _ _ hm
  obtain ⟨z0, w0, b0⟩ : ∃ zs, IsRow .u8 W a0 len0 cap0 zs ∧ cap0 ≤ 140737488351232 := by
    obtain ⟨fuel, hf⟩ := h0
    rcases open_ints Try.underlying22 Try.underlying5 (by kernel_rfl) hf with ⟨hcs, _⟩ | ⟨x, l, c, zs, hcs, _, hl, hm, hz, hx, hcell, hwz⟩
    · simp [Value.cells] at hcs
      obtain ⟨rfl, rfl, rfl⟩ := hcs
      exact ⟨[], .inl ⟨rfl, rfl, rfl, rfl⟩, by decide⟩
    · simp [Value.cells] at hcs
      obtain ⟨rfl, rfl, rfl⟩ := hcs
      refine ⟨zs, .inr ⟨_, rfl, hl, hm, by simpa using hz, hcell, hwz⟩, ?_⟩
      have hd : d0 = .slice (lits .u8 (zs.take len0)) (lits .u8 (zs.drop len0)) := congrArg Prod.fst hx
      subst hd
      have hb := sized_slice hsz (j := 0) (t := 22) (e := 5) rfl rfl Try.underlying22
      rw [show Try.prog.bytesOf 5 = 1 by kernel_rfl] at hb
      simp [lits] at hb
      simp at hz
      unfold reachBytes at hb
      omega
  obtain ⟨a1, len1, cap1, rfl⟩ := okWide_slice Try.underlying22 (hval 1 22 v1 rfl rfl)
  have k1 := h1
  have lt1 : ∀ x ∈ p1, x.block < W.heap.size := by obtain ⟨m, hm⟩ := k1; exact DataW.trod_lt m _ _ _ hm
  obtain ⟨z1, w1, b1⟩ : ∃ zs, IsRow .u8 W a1 len1 cap1 zs ∧ cap1 ≤ 140737488351232 := by
    obtain ⟨fuel, hf⟩ := h1
    rcases open_ints Try.underlying22 Try.underlying5 (by kernel_rfl) hf with ⟨hcs, _⟩ | ⟨x, l, c, zs, hcs, _, hl, hm, hz, hx, hcell, hwz⟩
    · simp [Value.cells] at hcs
      obtain ⟨rfl, rfl, rfl⟩ := hcs
      exact ⟨[], .inl ⟨rfl, rfl, rfl, rfl⟩, by decide⟩
    · simp [Value.cells] at hcs
      obtain ⟨rfl, rfl, rfl⟩ := hcs
      refine ⟨zs, .inr ⟨_, rfl, hl, hm, by simpa using hz, hcell, hwz⟩, ?_⟩
      have hd : d1 = .slice (lits .u8 (zs.take len1)) (lits .u8 (zs.drop len1)) := congrArg Prod.fst hx
      subst hd
      have hb := sized_slice hsz (j := 1) (t := 22) (e := 5) rfl rfl Try.underlying22
      rw [show Try.prog.bytesOf 5 = 1 by kernel_rfl] at hb
      simp [lits] at hb
      simp at hz
      unfold reachBytes at hb
      omega
  clear hA0 hval0
  refine (walk a0 len0 cap0 z0 a1 len1 cap1 z1 W w0 w1 b0 b1).mono fun e W' ⟨he, bel⟩ => ?_
  subst he
  exact ⟨_, rfl, _, _, _, [], _, [], hW', trodAll_mk1 (shut_bool Try.underlying4 _), (trodAll_cons_mk (Below.trod laidOut (by kernel_rfl) (of_decide_eq_true (by kernel_rfl)) k0 bel lt0) (trodAll_cons_mk (Below.trod laidOut (by kernel_rfl) (of_decide_eq_true (by kernel_rfl)) k1 bel lt1) trodAll_mk0)), rfl, bel.frame _, fun h => by cases h⟩

theorem over : Rows.crcJoinsRow.holds Try.pinned (OpenSpec.ofChange Rows.crcJoinsSpec) :=
  OpenClaim.holds_of_wide 6 Try.f6 rfl rfl rfl rfl rfl rfl rfl ⟨rfl, rfl, rfl, rfl, rfl⟩ rfl rfl rfl rfl rfl (by kernel_rfl) Try.func6 (by kernel_rfl)
    (of_decide_eq_true (by kernel_rfl)) (by unfold Func.isWrapper; first | (rw [if_pos (by decide +kernel)]; kernel_rfl) | (rw [if_neg (by decide +kernel)]; exact ⟨rfl, rfl⟩))
    (fun os started H enc _ => lifted os started H enc)

/-- THE STATEMENT -/
theorem proved : Rows.CrcJoinsSaid := over
end Go.Proofs.Ytenfloaebhjolaa.crcJoins
