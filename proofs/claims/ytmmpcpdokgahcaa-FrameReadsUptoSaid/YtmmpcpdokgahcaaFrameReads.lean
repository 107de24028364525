/- Proved: the frames of any bytes are the document's, where the input's bulk is at most the bound. -/
import Derived.Test.YtmmpcpdokgahcaaRows
import Derived.Test.YtmmpcpdokgahcaaSame
import Derived.WalkKit
import Derived.ProofKit
import Derived.OpenShut
import Derived.ShutString
import Derived.ChangeOld
import Derived.Below
import Derived.JoinedCond
import Derived.Deep.Slices
namespace Go.Proofs.Ytmmpcpdokgahcaa.frameReads
open CM Go.ChangeShapes Go.WideShapes Go.ChangeAt Go.RowKit
open Go.ChangeMaps (open_string shut_string)
set_option linter.unusedVariables false

theorem own : ownKnob Try.prog.godebug = none := by kernel_rfl
theorem laidOut : laidOutB Try.prog = true := by kernel_rfl

/-- WHAT THE WALK IS TOLD OF A SLICE OF INTEGERS THAT CAME IN: it is nil; or it leads to a row of 'cap' cells, the numbers 'zs' (the first 'len' are its elements, the rest its spare room), each fitting its kind. -/
def IsRow (k : IntKind) (w : World) (a : Option Addr) (len cap : Nat) (zs : List Int) : Prop :=
  (a = none ∧ len = 0 ∧ cap = 0 ∧ zs = []) ∨
  ∃ x, a = some x ∧ len ≤ cap ∧ cap ≤ maxLen ∧ zs.length = cap ∧ (∀ i, i < zs.length → w.cell? (x.add i) = some (.int k (zs.getD i 0))) ∧ ∀ n ∈ zs, (Lit.int k n).wf = true


theorem row_of {w : World} {a : Option Addr} {len cap : Nat} {zs : List Int} (h : IsRow .u8 w a len cap zs) : ∃ l : List Nat, l.length = len ∧ Row w a l ∧ (a = none → len = 0 ∧ cap = 0) ∧ len ≤ cap := by
  rcases h with ⟨rfl, rfl, rfl, rfl⟩ | ⟨x, rfl, hl, hm, hz, hcell, hwz⟩
  · exact ⟨[], rfl, ⟨fun c hc => (by cases hc), by decide, .inl rfl⟩, fun _ => ⟨rfl, rfl⟩, Nat.le_refl _⟩
  by_cases h0 : len = 0
  · subst h0
    exact ⟨[], rfl, ⟨fun c hc => (by cases hc), by decide, .inl rfl⟩, fun h => (by cases h), Nat.zero_le _⟩
  obtain ⟨b, off, spot⟩ := x
  have hc := hcell 0 (by omega)
  have hspot : spot = none := by simpa [Addr.add] using World.cell?_spot hc
  subst hspot
  have hw : ∀ n ∈ zs, 0 ≤ n ∧ n ≤ 255 := by
    intro n hn
    have := hwz n hn
    simp only [Lit.wf, Bool.and_eq_true, decide_eq_true_eq] at this
    exact this
  have hlen : ((zs.take len).map Int.toNat).length = len := by simp; omega
  refine ⟨(zs.take len).map Int.toNat, hlen, ⟨?_, ?_, .inr ⟨b, off, rfl, fun i hi => ?_⟩⟩, fun h => (by cases h), hl⟩
  · intro c hc
    obtain ⟨n, hn, rfl⟩ := List.mem_map.1 hc
    have := hw n (List.mem_of_mem_take hn)
    omega
  · rw [hlen]; unfold maxLen at hm; omega
  · rw [hlen] at hi
    have h1 := hcell i (by omega)
    have e1 : (⟨b, off, none⟩ : Addr).add i = ⟨b, off + i, none⟩ := by simp [Addr.add]
    rw [e1] at h1
    rw [h1]
    have hi' : i < zs.length := by omega
    have h2 := hw zs[i] (List.getElem_mem hi')
    have e2 : zs.getD i 0 = zs[i] := by simp [hi']
    have e3 : ((zs.take len).map Int.toNat).getD i 0 = zs[i].toNat := by simp [hi, hi']
    rw [e2, e3]
    congr 2
    omega

theorem length_le {H : Type} (l : List (DataW H)) : l.length ≤ Rows.uptoBulkAll l := by
  induction l with
  | nil => simp [Rows.uptoBulkAll]
  | cons d l ih =>
    have h1 : 1 ≤ Rows.uptoBulk d := by
      cases d with
      | lit x => cases x <;> simp [Rows.uptoBulk]
      | nil => simp [Rows.uptoBulk]
      | ptr d => simp [Rows.uptoBulk]
      | slice elems spare => simp [Rows.uptoBulk]
      | agg parts => simp [Rows.uptoBulk]
      | iface t d => simp [Rows.uptoBulk]
      | map entries => simp [Rows.uptoBulk]
      | held h => simp [Rows.uptoBulk]
    simp only [Rows.uptoBulkAll, List.length_cons]; omega

theorem walk (a0 : Option Addr) (len0 cap0 : Nat) (z0 : List Int) (w : World) (w0 : IsRow .u8 w a0 len0 cap0 z0) (b0 : len0 ≤ 1048576) (bc : cap0 ≤ 9223372036854775807) :
    Calls Try.prog 4 #[.slice a0 len0 cap0] w fun e w' => e = .returned (.bool true) ∧ Below w.heap.size w w' := by
  obtain ⟨l, hl, hr, hnil, hc⟩ := row_of w0
  have A := Lib.hid (fun (w' : World) (h : Below w.heap.size w w') => next_any a0 l cap0 len0 w' (hr.below h) hl hc bc)
  have B := Lib.hid (fun (w' : World) (h : Below w.heap.size w w') => rnext a0 l cap0 len0 w' (hr.below h) hl hc bc)
  have C := Lib.hid (fun (w' : World) (h : Below w.heap.size w w') => scan_walk a0 l cap0 len0 w' (hr.below h) hl hc bc hnil b0)
  have D := Lib.hid (fun (w' : World) (h : Below w.heap.size w w') => rscan_walk a0 l cap0 len0 w' (hr.below h) hl hc bc hnil b0)
  clear w0 hr hnil hc
  generalize nextF l = R at *
  obtain ⟨⟨rk, rp⟩, rx, ry⟩ := R
  go_enter Try.func4, Try.ntmps4
  go_wp2_with fail
  refine (A.out w (Below.refl _ _)).mono ?_
  rintro e w1 ⟨a1, c1, rfl, hr1, h1, _, _, _, _⟩
  replace h1 := Lib.hid h1
  replace hr1 := Lib.hid hr1
  have hA1 := heap_alloc_new w1 (.cells #[.int .i64 (rk : Int), .slice a1 rp.length c1] 29)
  have hB1 : Below w1.heap.size w1 (w1.alloc (.cells #[.int .i64 (rk : Int), .slice a1 rp.length c1] 29)) := (Below.refl _ _).alloc (Nat.le_refl _) _
  have hs1 : (w1.alloc (.cells #[.int .i64 (rk : Int), .slice a1 rp.length c1] 29)).heap.size = w1.heap.size + 1 := by simp
  have hbw1 := h1.out.trans (hB1.mono h1.out.size)
  have hrw1 := hr1.out.below hB1
  generalize hW1 : w1.alloc (.cells #[.int .i64 (rk : Int), .slice a1 rp.length c1] 29) = W1 at *
  replace hA1 := Lib.hid hA1
  replace hB1 := Lib.hid hB1
  replace hs1 := Lib.hid hs1
  replace hbw1 := Lib.hid hbw1
  replace hrw1 := Lib.hid hrw1
  go_wp2_with (go_at_call 13; rw [hW1])
  replace hW1 := Lib.hid hW1
  refine (B.out W1 hbw1.out).mono ?_
  rintro e w2 ⟨a2, c2, rfl, hr2, h2, _, _, _, _⟩
  have hA2 := heap_alloc_new w2 (.cells #[.int .i64 (rk : Int), .slice a2 rp.length c2] 29)
  have hB2 : Below w2.heap.size w2 (w2.alloc (.cells #[.int .i64 (rk : Int), .slice a2 rp.length c2] 29)) := (Below.refl _ _).alloc (Nat.le_refl _) _
  have hs2 : (w2.alloc (.cells #[.int .i64 (rk : Int), .slice a2 rp.length c2] 29)).heap.size = w2.heap.size + 1 := by simp
  have hb12 := h2.trans (hB2.mono h2.size)
  have hrw2 := hr2.below hB2
  have hlt12 := h2.size
  generalize hW2 : w2.alloc (.cells #[.int .i64 (rk : Int), .slice a2 rp.length c2] 29) = W2 at *
  have hbw2 := hbw1.out.trans (hb12.mono hbw1.out.size)
  have hrx := hrw1.out.below hb12
  have hA12 : W2.heap[w1.heap.size]? = some (.cells #[.int .i64 (rk : Int), .slice a1 rp.length c1] 29 (0, 0)) := by rw [hb12.block _ (by rw [hs1.out]; omega)]; exact hA1.out
  replace hA2 := Lib.hid hA2
  replace hs2 := Lib.hid hs2
  replace hrw2 := Lib.hid hrw2
  replace hbw2 := Lib.hid hbw2
  replace hrx := Lib.hid hrx
  replace hA12 := Lib.hid hA12
  replace hlt12 := Lib.hid hlt12
  clear hB2 hb12 hr2 h2
  go_wp2_with (go_at_call 14; rw [hW2])
  replace hW2 := Lib.hid hW2
  refine (C.out W2 hbw2.out).mono ?_
  rintro e w3 ⟨k, v3, xs, rfl, hok3, hno3, ho3, hF3, h3⟩
  have hbw3 := Lib.hid (hbw2.out.trans (h3.mono hbw2.out.size))
  replace hok3 := Lib.hid hok3
  replace hno3 := Lib.hid hno3
  replace ho3 := Lib.hid ho3
  replace hF3 := Lib.hid hF3
  replace h3 := Lib.hid h3
  go_wp2_with fail
  refine (D.out w3 hbw3.out).mono ?_
  rintro e w4 ⟨k', v4, ys, rfl, hok4, hno4, ho4, hF4, h4⟩
  obtain rfl := scan_one_end hok3.out hno3.out hok4 hno4
  have hbw4 := Lib.hid (hbw3.out.trans (h4.mono hbw3.out.size))
  have h24 := h3.out.trans (h4.mono h3.out.size)
  have hx1 : w4.heap[w1.heap.size]? = some (.cells #[.int .i64 (rk : Int), .slice a1 rp.length c1] 29 (0, 0)) := by rw [h24.block _ (lt_of_block hA12.out)]; exact hA12.out
  have hx2 : w4.heap[w2.heap.size]? = some (.cells #[.int .i64 (rk : Int), .slice a2 rp.length c2] 29 (0, 0)) := by rw [h24.block _ (lt_of_block hA2.out)]; exact hA2.out
  have q0 : w4.cell? ⟨w1.heap.size, 0, none⟩ = some (.int .i64 (rk : Int)) := by rw [cell_of_row _ _ _ _ _ _ hx1]; rfl
  have q1 : w4.cell? ⟨w1.heap.size, 1, none⟩ = some (.slice a1 rp.length c1) := by rw [cell_of_row _ _ _ _ _ _ hx1]; rfl
  have q2 : w4.cell? ⟨w2.heap.size, 0, none⟩ = some (.int .i64 (rk : Int)) := by rw [cell_of_row _ _ _ _ _ _ hx2]; rfl
  have q3 : w4.cell? ⟨w2.heap.size, 1, none⟩ = some (.slice a2 rp.length c2) := by rw [cell_of_row _ _ _ _ _ _ hx2]; rfl
  have M := Lib.hid (same_walk rk rp a1 a2 c1 c2 rp.length w4 (hrx.out.below h24) (hrw2.out.below h24) rfl)
  have ho34 := own_below ho3.out h4
  have hF34 := hF3.out.below h4
  have hk2 : k ≤ 200000 := by
    obtain ⟨e1, e2⟩ := scanS_at l k hok3.out
    omega
  have E := Lib.hid (fun w5 (hb : Below w4.heap.size w4 w5) => equalfunc (scanS l k).1 v3 v4 xs ys k _ _ w5 (own_below ho34 hb) (own_below ho4 hb) (hF34.below hb) (hF4.below hb) (scanS_len l k) hk2)
  clear hx1 hx2 h24 ho34 hF34 h4 hok4 hno4 ho4 hF4
  go_wp2_with fail
  refine M.out.mono ?_
  rintro e w5 ⟨rfl, h5⟩
  have hbw5 := Lib.hid (hbw4.out.trans (h5.mono hbw4.out.size))
  replace h5 := Lib.hid h5
  go_wp2_with fail
  refine (E.out w5 h5.out).mono ?_
  rintro e w6 ⟨rfl, h6⟩
  have hbw6 := Lib.hid (hbw5.out.trans (h6.mono hbw5.out.size))
  clear h6
  go_wp2_with fail
  refine (awake w6).mono ?_
  rintro e w7 ⟨rfl, h7⟩
  have hbw7 := Lib.hid (hbw6.out.trans (h7.mono hbw6.out.size))
  clear h7
  go_wp2_with fail
  go_ret
  exact ⟨rfl, hbw7.out⟩

/-! ### THE ROW's STEP: WRITTEN OUT: LEAVE IT -/
theorem contract (H : Type) (enc : TypeId × Value → H) (W : World) (base : Nat) (args : Array Value) (ds gs : List (DataW H)) (before : List MemPlace)
    (hval0 : ∀ (j : Nat) t v, Try.f4.params[j]? = some t → args[j]? = some v → Value.okWide Try.prog W .any base t v)
    (hW : DataW.Whole enc Try.prog Try.f4.params.toList Rows.frameReadsSpec.vars false W args.toList ds gs before) (hk : Rows.uptoSmall H (ds ++ gs) = true) :
    Calls Try.prog 4 args W fun e W' => ∃ v, e = .returned v ∧ Rows.frameReadsSpec.post enc Try.prog Try.f4 false true false false W args v W' := by
  have hval : ∀ (j : Nat) t v, Try.f4.params[j]? = some t → args[j]? = some v → Value.okWide Try.prog W .any base t v := hval0
  have hW' := hW
  obtain ⟨p, q, hA0, hV, rfl, hfz, hnd⟩ := hW
  have hA : DataW.TrodAll enc Try.prog W 0 (fun _ => true) true Try.f4.params.toList args.toList ds p := hA0
  rw [Try.params4] at hA hval
  obtain ⟨v0, vs0, d0, ds0, p0, q0, hargs, rfl, rfl, h0, r0⟩ := trodAll_cons hA
  obtain ⟨rfl, rfl, rfl⟩ := trodAll_nil r0
  obtain rfl : args = #[v0] := by cases args; simp_all
  obtain ⟨rfl, rfl⟩ := trodVars_none hV
  obtain ⟨a0, len0, cap0, rfl⟩ := okWide_slice Try.underlying22 (hval 0 22 v0 rfl rfl)
  have k0 := h0
  have lt0 : ∀ x ∈ p0, x.block < W.heap.size := by obtain ⟨m, hm⟩ := k0; exact DataW.trod_lt m _ _ _ hm
  have hbulk : Rows.uptoBulkAll ([d0] ++ ([] : List (DataW H))) ≤ 1048576 := of_decide_eq_true hk
  have hbulk' : Rows.uptoBulk d0 ≤ 1048576 := by simpa only [List.append_nil, Rows.uptoBulkAll, Nat.add_zero] using hbulk
  have hlen : len0 ≤ 1048576 ∧ cap0 ≤ 9223372036854775807 := by
    obtain ⟨fuel, hf⟩ := k0
    rcases Go.Deep.open_slice1 Try.underlying22 (by kernel_rfl) hf with ⟨hcs, _⟩ | ⟨x, l, c, m, nn, V, D, Pl, hcs, _, hl, hm, _, hx, _⟩
    · simp [Value.cells] at hcs
      obtain ⟨rfl, rfl, rfl⟩ := hcs
      exact ⟨by decide, by decide⟩
    · simp [Value.cells] at hcs
      obtain ⟨rfl, rfl, rfl⟩ := hcs
      cases hx
      have := length_le ((List.range len0).map D)
      simp only [List.length_map, List.length_range] at this
      simp only [Rows.uptoBulk] at hbulk'
      unfold maxLen at hm
      exact ⟨by omega, by omega⟩
  obtain ⟨z0, w0⟩ : ∃ zs, IsRow .u8 W a0 len0 cap0 zs := by
    obtain ⟨fuel, hf⟩ := h0
    rcases open_ints Try.underlying22 Try.underlying5 (by kernel_rfl) hf with ⟨hcs, _⟩ | ⟨x, l, c, zs, hcs, _, hl, hm, hz, _, hcell, hwz⟩
    · simp [Value.cells] at hcs
      obtain ⟨rfl, rfl, rfl⟩ := hcs
      exact ⟨[], .inl ⟨rfl, rfl, rfl, rfl⟩⟩
    · simp [Value.cells] at hcs
      obtain ⟨rfl, rfl, rfl⟩ := hcs
      exact ⟨zs, .inr ⟨_, rfl, hl, hm, by simpa using hz, hcell, hwz⟩⟩
  clear hA0 hval0
  refine (walk a0 len0 cap0 z0 W w0 hlen.1 hlen.2).mono fun e W' ⟨he, bel⟩ => ?_
  subst he
  exact ⟨_, rfl, _, _, _, [], _, [], hW', trodAll_mk1 (shut_bool Try.underlying4 _), (trodAll_cons_mk (Below.trod laidOut (by kernel_rfl) (of_decide_eq_true (by kernel_rfl)) k0 bel lt0) trodAll_mk0), rfl, bel.frame _, fun h => by cases h⟩

set_option maxRecDepth 100000 in
theorem lifted (os : Os) (started : os.Started) (H : Type) (enc : TypeId × Value → H) (F : Stop.Interp) :
    ReturnsInHanded {} Try.checked os 4 .any ((Rows.OpenSpec.upto Rows.frameReadsSpec).pre6 enc Try.prog Try.f4 Rows.frameReadsUptoRow.domain false) (((Rows.OpenSpec.upto Rows.frameReadsSpec).at F).post enc Try.prog Try.f4 false true false false) := by
  refine returnsInHanded_of_cond (C := Try.checked) (s := Rows.OpenSpec.upto Rows.frameReadsSpec) (k := Rows.uptoSmall) rfl own started (by kernel_rfl) Try.func4
    (OpenSpec.witness (enc := enc) (C := Try.checked) (s := Rows.OpenSpec.upto Rows.frameReadsSpec) (k := Rows.uptoSmall) rfl false ⟨#[], #[.slice none 0 0], []⟩ 8 (by kernel_rfl) (by kernel_rfl) (by kernel_rfl)
      (x := ([.nil], [], [])) (by kernel_rfl) rfl (by kernel_rfl)) ?_
  intro W base args ds gs before hval hW _ hk _
  exact contract H enc W base args ds gs before hval hW hk

theorem over : Rows.frameReadsUptoRow.holds Try.pinned (Rows.OpenSpec.upto Rows.frameReadsSpec) :=
  OpenClaim.holds_of_cond 4 Try.f4 rfl rfl rfl rfl rfl rfl rfl ⟨rfl, rfl, rfl, rfl, rfl⟩ rfl rfl rfl rfl rfl (by kernel_rfl) Try.func4 (by kernel_rfl)
    (of_decide_eq_true (by kernel_rfl)) (by unfold Func.isWrapper; first | (rw [if_pos (by decide +kernel)]; kernel_rfl) | (rw [if_neg (by decide +kernel)]; exact ⟨rfl, rfl⟩))
    (fun os started H enc _ F => lifted os started H enc F)

/-- ████ THE STATEMENT ████ -/
theorem proved : Rows.FrameReadsUptoSaid := over
#print axioms proved
end Go.Proofs.Ytmmpcpdokgahcaa.frameReads
