/- The walk of WaitsOver. -/
import Derived.Test.YtncmjkaclfcbmaaHanded
import Derived.Test.YtncmjkaclfcbmaaSameW
import Derived.Test.YtncmjkaclfcbmaaReads2
import Derived.Test.YtncmjkaclfcbmaaOn
import Derived.Deep.QuietTactic
import Derived.BigQuiet
set_option linter.unusedVariables false
set_option linter.unusedSimpArgs false
namespace Go.Proofs.Ytncmjkaclfcbmaa
open Go.RowKit

theorem onF_map (k : DT) (ws : List WT) (h0 : opN k ≠ 0) (h1 : opN k ≠ 1) : ∃ f : WT → WT, onF k ws = ws.map f ∧ ∀ x, (f x).op = x.op ∧ (x.over = true → f x = x) := by
  unfold onF
  rw [if_neg h0, if_neg h1]
  split
  · refine ⟨_, rfl, fun x => ⟨by split <;> rfl, fun ho => if_neg (by simp [quB, ho])⟩⟩
  split
  · refine ⟨_, rfl, fun x => ⟨by split <;> rfl, fun ho => if_neg (by simp [ansB, ho])⟩⟩
  · refine ⟨_, rfl, fun x => ⟨by split <;> rfl, fun ho => if_neg (by simp [refB, upB, ho])⟩⟩
theorem Sl.cut {w : World} {a : Option Addr} {l : List WT} {g off j : Nat} {x : WT} {cs : List Value} (ha : a = some ⟨g, off, none⟩) (hg : Live w g) (hc : WAt (Live w) w x cs) (hr : w.rangeAt g (off + j * 19) cs) : Sl 19 (WAt (Live w) w) (Live w) w (some ⟨g, off + j * 19, none⟩) [x] :=
  ⟨cs, Els.one hc.len hc, fun _ => ⟨g, _, rfl, hg, hr⟩⟩
attribute [local go_sem ↓] Go.wp_at_zero Go.wp_at_succ
theorem box_range {w : World} {g : Nat} {cs : List Value} {t : TypeId} (h : w.heap[g]? = some (.cells cs.toArray t (0, 0))) : w.rangeAt g 0 cs := fun j v hv => box_cell h _ _ (by simpa using hv)
set_option maxHeartbeats 20000000 in
theorem over_walk (a : Option Addr) (n cap : Nat) (ws : List WT) (k : DT) (cs : List Value) (w : World) (h1 : IsWaits w a n cap ws) (hk : DAt w k cs) :
    Calls Try.prog 5 #[.slice a n cap, .agg cs.toArray] w fun e w' => e = .returned (.bool true) ∧ Below w.heap.size w w' := by
  obtain ⟨m, hm⟩ : ∃ m, m = min n 40 := ⟨_, rfl⟩
  have hm40 : m ≤ 40 ∧ m ≤ n := by omega
  have h1' := h1.take m hm40.2
  have hnc := h1.2.2.1
  have hcm := h1.2.2.2.1
  have hcl := hk.len
  have hlo : cs.toArray.size = 26 := by simp [hcl]
  have hX := Lib.hid (heap_alloc_new w (.cells cs.toArray 41))
  have hb0 := Lib.hid ((Below.refl w.heap.size w).alloc (Nat.le_refl _) (.cells cs.toArray 41))
  have hc0 : (w.alloc (.cells cs.toArray 41)).cell? ⟨w.heap.size, 0, none⟩ = some (.int .i64 k.op) := box_cell hX.out 0 _ (by have := hk.cells.1; simpa using this)
  have hsz0 : (w.alloc (.cells cs.toArray 41)).heap.size = w.heap.size + 1 := by simp
  have hds := Lib.hid (d_size hcl)
  replace hm := Lib.hid hm
  replace h1' := Lib.hid h1'
  replace hk := Lib.hid hk
  replace hcl := Lib.hid hcl
  replace hc0 := Lib.hid hc0
  replace hsz0 := Lib.hid hsz0
  clear h1
  go_enter Try.func5, Try.ntmps5
  go_upto_region 1 with (fail)
  generalize w.alloc (.cells cs.toArray 41) = W at *
  go_cut [0] (fun s0 wx => s0 = .slice a m cap ∧ wx = W)
  case first =>
    by_cases h40 : n ≤ 40
    · have e1 : m = n := by have := hm.out; omega
      replace e1 := Lib.hid e1
      go_wp2_with fail
      go_meet
      exact ⟨by rw [e1.out], rfl⟩
    · have e1 : m = 40 := by have := hm.out; omega
      replace e1 := Lib.hid e1
      have g1 : (40 : Int) ≤ (cap : Int) := by omega
      go_wp2_with fail
      go_meet
      exact ⟨by rw [e1.out], rfl⟩
  case rest =>
    obtain ⟨rfl, rfl⟩ := hcut
    have h1w := Lib.hid (h1'.out.below hb0.out)
    have hkw := Lib.hid (hk.out.below hb0.out)
    have hsz1 := hsz0.out
    have c0 := hc0.out
    by_cases hlow : opN k < 2
    · have hz : decide ((IntKind.u64.wrap k.op).tmod 5 < 2) = true := decide_eq_true hlow
      have A := Lib.hid (awake wc)
      go_wp2_with fail
      refine A.out.mono ?_
      rintro e w2 ⟨rfl, hb2⟩
      go_wp2_with fail
      go_ret
      exact ⟨rfl, hb0.out.trans (hb2.mono (by omega))⟩
    · have hz : decide ((IntKind.u64.wrap k.op).tmod 5 < 2) = false := decide_eq_false hlow
      have F := Lib.hid (few k cs wc hkw.out)
      obtain ⟨f, hf1, hf2⟩ := onF_map k (ws.take m) (by omega) (by omega)
      go_wp2_with (first | (with_reducible refine wpList_load_want (by kernel_rfl) 41 (.tmp 3) rfl w.heap.size rfl 41 cs.toArray (0, 0) _ hX.out Try.underlying41 rfl (hds.out) ?_))
      refine F.out.mono ?_
      rintro e w2 ⟨rfl, hb2⟩
      have hb2' := Lib.hid (hb0.out.trans (hb2.mono (by omega)))
      have h1w2 := Lib.hid (h1w.out.below hb2)
      have hkw2 := Lib.hid (hkw.out.below hb2)
      have hX2 : w2.heap[w.heap.size]? = some (.cells cs.toArray 41 (0, 0)) := by rw [hb2.block _ (by omega)]; exact hX.out
      clear F hb2
      cases hfw : fewB k.answers.length k.asks.length with
      | false =>
        have A := Lib.hid (awake w2)
        go_wp2_with fail
        refine A.out.mono ?_
        rintro e w3 ⟨rfl, hb3⟩
        go_wp2_with fail
        go_ret
        exact ⟨rfl, hb2'.out.trans (hb3.mono hb2'.out.size)⟩
      | true =>
        obtain ⟨hwl, hws, hmc, _, _⟩ := h1w2.out
        have O := Lib.hid (on a m cap (ws.take m) k cs w2 hws hwl hmc (by omega) hkw2.out)
        rw [hf1] at O
        have hwl' := Lib.hid hwl
        replace hws := Lib.hid hws
        clear hwl
        go_wp2_with (with_reducible refine wpList_load_row rfl 41 (.tmp 3) rfl w.heap.size rfl 41 cs.toArray (0, 0) _ hX2 Try.underlying41 rfl hds.out ?_)
        refine O.out.mono ?_
        rintro e w3 ⟨v, rfl, hout, hb3⟩
        obtain ⟨ax, cx, rfl, hx⟩ := hout.waits
        have hxl : ((ws.take m).map f).length = m := by rw [List.length_map]; exact hwl'.out
        rw [hxl] at hx ⊢
        have hmx : m ≤ cx := hx.2.2.1
        have hbE := Lib.hid (hb2'.out.trans (hb3.mono hb2'.out.size))
        have hws3 := Lib.hid ((h1w2.out.below hb3).2.1)
        replace hx := Lib.hid hx
        clear O hout hxl hb3 hX2
        go_wp2_with fail
        go_loopw [36] (fun i wr => ∃ j : Nat, j ≤ m ∧ i = .int .i64 (j : Int) ∧ Below w3.heap.size w3 wr) (fun i _ => m - (intOf i).toNat)
        case atStart => exact ⟨0, Nat.zero_le _, rfl, Below.refl _ _⟩
        case round =>
          obtain ⟨j, hj, rfl, hbr⟩ := hrel
          by_cases hlt : j < m
          · obtain ⟨x, hx0⟩ : ∃ x, (ws.take m)[j]? = some x := ⟨_, List.getElem?_eq_getElem (by rw [hwl'.out]; exact hlt)⟩
            obtain ⟨g, off, ds, rfl, hg, hdl, hdt, hdr⟩ := hws3.out.get j x hx0
            have hdr' : wr.rangeAt g (off + j * 19) ds := range_keep hdr (hbr.block _ hg)
            have hone := all_one hdt.one
            have hz19 := Lib.hid (heap_alloc_new wr (.cells Z19 31))
            unfold Z19 at hz19
            have hn := heap_alloc_new wr (.cells ds.toArray 31)
            have hlo2 : ds.toArray.size = 19 := by simp [hdl]
            have hlo3 : ds.length = 19 := hdl
            have hy0 : ((ws.take m).map f)[j]? = some (f x) := by rw [List.getElem?_map, hx0]; rfl
            have hxb := (hx.out.below hbr).2.1
            obtain ⟨g', off', cs', rfl, hg', hcl', hct', hcr'⟩ := hxb.get j _ hy0
            have hf0 := (hf2 x).1
            have hlb : g' < wr.heap.size := hg'
            have hb1 : Below wr.heap.size wr (wr.alloc (.cells ds.toArray 31)) := (Below.refl _ _).alloc (Nat.le_refl _) _
            have hsz3 : (wr.alloc (.cells ds.toArray 31)).heap.size = wr.heap.size + 1 := by simp
            have q0 : ∀ wS : World, Below (wr.heap.size + 1) (wr.alloc (.cells ds.toArray 31)) wS → wS.cell? ⟨g', off' + j * 19, none⟩ = some (.int .i64 x.op) := fun wS hS => by
              have h := range_keep (range_keep hcr' (hb1.block _ hg')) (hS.block _ (by omega)) 0 _ hct'.cells.1
              rw [hf0] at h
              simpa using h
            have p0 : ∀ wS : World, Below (wr.heap.size + 1) (wr.alloc (.cells ds.toArray 31)) wS → wS.heap[wr.heap.size]? = some (.cells ds.toArray 31 (0, 0)) := fun wS hS => (hS.block _ (by omega)).trans hn
            have hcc := hdt.cells
            have k0 : ∀ wS : World, Below (wr.heap.size + 1) (wr.alloc (.cells ds.toArray 31)) wS → wS.cell? ⟨wr.heap.size, 0, none⟩ = some (.int .i64 x.op) := fun wS hS => box_cell (p0 wS hS) 0 _ (by have := hcc.1; simpa using this)
            have k17 : ∀ wS : World, Below (wr.heap.size + 1) (wr.alloc (.cells ds.toArray 31)) wS → wS.cell? ⟨wr.heap.size, 17, none⟩ = some (.bool x.over) := fun wS hS => box_cell (p0 wS hS) 17 _ (by have := hcc.2.2.2.2.2.2.2.1; simpa using this)
            have hbF := Lib.hid (hbE.out.trans ((hbr.alloc hbr.size (.cells ds.toArray 31)).mono hbE.out.size))
            have hbR := Lib.hid (hbr.alloc hbr.size (.cells ds.toArray 31))
            have hdw := Lib.hid (hdt.below hbr)
            replace hdr' := Lib.hid hdr'
            replace hdl := Lib.hid hdl
            replace hone := Lib.hid hone
            replace hn := Lib.hid hn
            replace hcr' := Lib.hid hcr'
            replace hct' := Lib.hid hct'
            replace hf0 := Lib.hid hf0
            clear hbr hdr hdt hcc hcl' hy0 hx0 hxb
            replace hz19 := hz19
            go_wp2_with (first | (with_reducible refine wpList_load_mid rfl 31 (.tmp 39) rfl g (off + j * 19) rfl ds _ hdr'.out Try.underlying31 rfl (w_size hdl.out) ?_) | (with_reducible refine wpList_store_row rfl 31 (.tmp 8) (.tmp 40) rfl wr.heap.size ds.toArray rfl rfl 31 _ hz19.out (w_size' hdl.out) (by simp [hdl.out]) hone.out ?_; rw [alloc_setRow]))
            go_frame
            have b1 : (0 : Int) ≤ (j : Int) := by omega
            have b2 : (j : Int) ≤ (j : Int) + 1 := by omega
            have b3 : (j : Int) + 1 ≤ (cx : Int) := by omega
            have b4 : (j : Int) < (m : Int) := by omega
            have b5 : IntKind.i64.wrap ((j : Int) + 1) = (j : Int) + 1 := IntWalk.i64_in _ (by omega)
            have b6 : ((j : Int) + 1).toNat = j + 1 := by omega
            have b7 : ¬ (cx = j) := by omega
            have b8 : (0 : Int) ≤ (j : Int) + 1 := by omega
            have b9 : j + 1 - j = 1 := by omega
            have b10 : j ≤ j + 1 := by omega
            go_cut [63] (fun s wx => s = .bool false ∧ Below (wr.heap.size + 1) (wr.alloc (.cells ds.toArray 31)) wx)
            case first =>
              have hS0 : Below (wr.heap.size + 1) (wr.alloc (.cells ds.toArray 31)) (wr.alloc (.cells ds.toArray 31)).drew := (Below.refl _ _).drew
              cases hO : x.over with
              | false =>
                rw [hO] at k17
                replace hO := Lib.hid hO
                refine wp_region_held_drew (S := Below (wr.heap.size + 1) (wr.alloc (.cells ds.toArray 31))) (by kernel_rfl) hS0 (fun hHeld => ?_)
                have hHH := hHeld
                refine wpAnyH_take (i := 0) (v := ?_) rfl (by kernel_rfl) (by kernel_rfl) (by kernel_rfl) (fun _ _ _ h => h) (Or.inl ⟨by rfl, ?_⟩) (by assumption) ?_
                rotate_left
                · intro wS hSw; skip; go_simp; (try with_reducible rfl)
                change wpAnyH _ _ _ _ _ _ _ (Act.put _ (some 41) _) _
                simp only [Act.put, List.setIfInBounds_toArray, List.set_cons_zero, List.set_cons_succ]
                refine wpAnyH_take (i := 1) (v := ?_) rfl (by kernel_rfl) (by kernel_rfl) (by kernel_rfl) (fun _ _ _ h => h) (Or.inl ⟨by rfl, ?_⟩) (by assumption) ?_
                rotate_left
                · intro wS hSw; have q := k17 wS hSw; go_simp; (try with_reducible rfl)
                change wpAnyH _ _ _ _ _ _ _ (Act.put _ (some 42) _) _
                simp only [Act.put, List.setIfInBounds_toArray, List.set_cons_zero, List.set_cons_succ]
                refine wpAnyH_take (i := 2) (v := ?_) rfl (by kernel_rfl) (by kernel_rfl) (by kernel_rfl) (fun _ _ _ h => h) (Or.inl ⟨by rfl, ?_⟩) (by assumption) ?_
                rotate_left
                · intro wS hSw; skip; go_simp; (try with_reducible rfl)
                change wpAnyH _ _ _ _ _ _ _ (Act.put _ (some 43) _) _
                simp only [Act.put, List.setIfInBounds_toArray, List.set_cons_zero, List.set_cons_succ]
                refine wpAnyH_take (i := 3) (v := undef) rfl (by kernel_rfl) (by kernel_rfl) (by kernel_rfl) (fun _ _ _ h => h) (Or.inr ⟨by rfl, rfl⟩) (by assumption) ?_
                change wpAnyH _ _ _ _ _ _ _ (Act.put _ (some 44) _) _
                simp only [Act.put, List.setIfInBounds_toArray, List.set_cons_zero, List.set_cons_succ]
                refine wpAnyH_take (i := 4) (v := undef) rfl (by kernel_rfl) (by kernel_rfl) (by kernel_rfl) (fun _ _ _ h => h) (Or.inr ⟨by rfl, rfl⟩) (by assumption) ?_
                change wpAnyH _ _ _ _ _ _ _ (Act.put _ (some 45) _) _
                simp only [Act.put, List.setIfInBounds_toArray, List.set_cons_zero, List.set_cons_succ]
                refine wpAnyH_take (i := 5) (v := undef) rfl (by kernel_rfl) (by kernel_rfl) (by kernel_rfl) (fun _ _ _ h => h) (Or.inr ⟨by rfl, rfl⟩) (by assumption) ?_
                change wpAnyH _ _ _ _ _ _ _ (Act.put _ (some 46) _) _
                simp only [Act.put, List.setIfInBounds_toArray, List.set_cons_zero, List.set_cons_succ]
                refine wpAnyH_take (i := 6) (v := undef) rfl (by kernel_rfl) (by kernel_rfl) (by kernel_rfl) (fun _ _ _ h => h) (Or.inr ⟨by rfl, rfl⟩) (by assumption) ?_
                change wpAnyH _ _ _ _ _ _ _ (Act.put _ (some 47) _) _
                simp only [Act.put, List.setIfInBounds_toArray, List.set_cons_zero, List.set_cons_succ]
                refine wpAnyH_take (i := 7) (v := undef) rfl (by kernel_rfl) (by kernel_rfl) (by kernel_rfl) (fun _ _ _ h => h) (Or.inr ⟨by rfl, rfl⟩) (by assumption) ?_
                change wpAnyH _ _ _ _ _ _ _ (Act.put _ (some 48) _) _
                simp only [Act.put, List.setIfInBounds_toArray, List.set_cons_zero, List.set_cons_succ]
                refine wpAnyH_take (i := 8) (v := undef) rfl (by kernel_rfl) (by kernel_rfl) (by kernel_rfl) (fun _ _ _ h => h) (Or.inr ⟨by rfl, rfl⟩) (by assumption) ?_
                change wpAnyH _ _ _ _ _ _ _ (Act.put _ (some 49) _) _
                simp only [Act.put, List.setIfInBounds_toArray, List.set_cons_zero, List.set_cons_succ]
                refine wpAnyH_take (i := 9) (v := undef) rfl (by kernel_rfl) (by kernel_rfl) (by kernel_rfl) (fun _ _ _ h => h) (Or.inr ⟨by rfl, rfl⟩) (by assumption) ?_
                change wpAnyH _ _ _ _ _ _ _ (Act.put _ (some 50) _) _
                simp only [Act.put, List.setIfInBounds_toArray, List.set_cons_zero, List.set_cons_succ]
                refine wpAnyH_take (i := 10) (v := undef) rfl (by kernel_rfl) (by kernel_rfl) (by kernel_rfl) (fun _ _ _ h => h) (Or.inr ⟨by rfl, rfl⟩) (by assumption) ?_
                change wpAnyH _ _ _ _ _ _ _ (Act.put _ (some 51) _) _
                simp only [Act.put, List.setIfInBounds_toArray, List.set_cons_zero, List.set_cons_succ]
                refine wpAnyH_take (i := 11) (v := undef) rfl (by kernel_rfl) (by kernel_rfl) (by kernel_rfl) (fun _ _ _ h => h) (Or.inr ⟨by rfl, rfl⟩) (by assumption) ?_
                change wpAnyH _ _ _ _ _ _ _ (Act.put _ (some 52) _) _
                simp only [Act.put, List.setIfInBounds_toArray, List.set_cons_zero, List.set_cons_succ]
                refine wpAnyH_take (i := 12) (v := ?_) rfl (by kernel_rfl) (by kernel_rfl) (by kernel_rfl) (fun _ _ _ h => h) (Or.inl ⟨by rfl, ?_⟩) (by assumption) ?_
                rotate_left
                · intro wS hSw; skip; go_simp; (try with_reducible rfl)
                change wpAnyH _ _ _ _ _ _ _ (Act.put _ (some 53) _) _
                simp only [Act.put, List.setIfInBounds_toArray, List.set_cons_zero, List.set_cons_succ]
                refine wpAnyH_take (i := 13) (v := ?_) rfl (by kernel_rfl) (by kernel_rfl) (by kernel_rfl) (fun _ _ _ h => h) (Or.inl ⟨by rfl, ?_⟩) (by assumption) ?_
                rotate_left
                · intro wS hSw; skip; go_simp; (try with_reducible rfl)
                change wpAnyH _ _ _ _ _ _ _ (Act.put _ (some 54) _) _
                simp only [Act.put, List.setIfInBounds_toArray, List.set_cons_zero, List.set_cons_succ]
                refine wpAnyH_take (i := 14) (v := ?_) rfl (by kernel_rfl) (by kernel_rfl) (by kernel_rfl) (fun _ _ _ h => h) (Or.inl ⟨by rfl, ?_⟩) (by assumption) ?_
                rotate_left
                · intro wS hSw; skip; go_simp; (try with_reducible rfl)
                change wpAnyH _ _ _ _ _ _ _ (Act.put _ (some 55) _) _
                simp only [Act.put, List.setIfInBounds_toArray, List.set_cons_zero, List.set_cons_succ]
                refine wpAnyH_take (i := 15) (v := ?_) rfl (by kernel_rfl) (by kernel_rfl) (by kernel_rfl) (fun _ _ _ h => h) (Or.inl ⟨by rfl, ?_⟩) (by assumption) ?_
                rotate_left
                · intro wS hSw; skip; go_simp; (try with_reducible rfl)
                change wpAnyH _ _ _ _ _ _ _ (Act.put _ (some 56) _) _
                simp only [Act.put, List.setIfInBounds_toArray, List.set_cons_zero, List.set_cons_succ]
                refine wpAnyH_take (i := 16) (v := ?_) rfl (by kernel_rfl) (by kernel_rfl) (by kernel_rfl) (fun _ _ _ h => h) (Or.inl ⟨by rfl, ?_⟩) (by assumption) ?_
                rotate_left
                · intro wS hSw; skip; go_simp; (try with_reducible rfl)
                change wpAnyH _ _ _ _ _ _ _ (Act.put _ (some 57) _) _
                simp only [Act.put, List.setIfInBounds_toArray, List.set_cons_zero, List.set_cons_succ]
                refine wpAnyH_take (i := 17) (v := ?_) rfl (by kernel_rfl) (by kernel_rfl) (by kernel_rfl) (fun _ _ _ h => h) (Or.inl ⟨by rfl, ?_⟩) (by assumption) ?_
                rotate_left
                · intro wS hSw; skip; go_simp; (try with_reducible rfl)
                change wpAnyH _ _ _ _ _ _ _ (Act.put _ (some 58) _) _
                simp only [Act.put, List.setIfInBounds_toArray, List.set_cons_zero, List.set_cons_succ]
                refine wpAnyH_take (i := 18) (v := ?_) rfl (by kernel_rfl) (by kernel_rfl) (by kernel_rfl) (fun _ _ _ h => h) (Or.inl ⟨by rfl, ?_⟩) (by assumption) ?_
                rotate_left
                · intro wS hSw; have q := q0 wS hSw; go_simp; (try with_reducible rfl)
                change wpAnyH _ _ _ _ _ _ _ (Act.put _ (some 59) _) _
                simp only [Act.put, List.setIfInBounds_toArray, List.set_cons_zero, List.set_cons_succ]
                refine wpAnyH_take (i := 19) (v := ?_) rfl (by kernel_rfl) (by kernel_rfl) (by kernel_rfl) (fun _ _ _ h => h) (Or.inl ⟨by rfl, ?_⟩) (by assumption) ?_
                rotate_left
                · intro wS hSw; skip; go_simp; (try with_reducible rfl)
                change wpAnyH _ _ _ _ _ _ _ (Act.put _ (some 60) _) _
                simp only [Act.put, List.setIfInBounds_toArray, List.set_cons_zero, List.set_cons_succ]
                refine wpAnyH_take (i := 20) (v := ?_) rfl (by kernel_rfl) (by kernel_rfl) (by kernel_rfl) (fun _ _ _ h => h) (Or.inl ⟨by rfl, ?_⟩) (by assumption) ?_
                rotate_left
                · intro wS hSw; have q := k0 wS hSw; go_simp; (try with_reducible rfl)
                change wpAnyH _ _ _ _ _ _ _ (Act.put _ (some 61) _) _
                simp only [Act.put, List.setIfInBounds_toArray, List.set_cons_zero, List.set_cons_succ]
                refine wpAnyH_take (i := 21) (v := ?_) rfl (by kernel_rfl) (by kernel_rfl) (by kernel_rfl) (fun _ _ _ h => h) (Or.inl ⟨by rfl, ?_⟩) (by assumption) ?_
                rotate_left
                · intro wS hSw; skip; go_simp; (try with_reducible rfl)
                change wpAnyH _ _ _ _ _ _ _ (Act.put _ (some 62) _) _
                simp only [Act.put, List.setIfInBounds_toArray, List.set_cons_zero, List.set_cons_succ]
                refine wpAnyH_take (i := 22) (v := ?_) rfl (by kernel_rfl) (by kernel_rfl) (by kernel_rfl) (fun _ _ _ h => h) (Or.inl ⟨by rfl, ?_⟩) (by assumption) ?_
                rotate_left
                · intro wS hSw; skip; go_simp; (try with_reducible rfl)
                change wpAnyH _ _ _ _ _ _ _ (Act.put _ (some 63) _) _
                simp only [Act.put, List.setIfInBounds_toArray, List.set_cons_zero, List.set_cons_succ]
                refine wpAnyH_done (by kernel_rfl) ?_ _
                go_wp2_with fail
                go_meet
                exact ⟨rfl, hHH⟩
              | true =>
                have hfx : f x = x := (hf2 x).2 hO
                rw [hfx] at hct'
                rw [hO] at k17
                replace hO := Lib.hid hO
                replace hfx := Lib.hid hfx
                have hfold : List.foldl (fun cs x => cs.setIfInBounds x.snd x.fst) Z19 ds.zipIdx = ds.toArray := foldl_cells hdl.out
                unfold Z19 at hfold
                refine wp_region_held_drew (S := Below (wr.heap.size + 1) (wr.alloc (.cells ds.toArray 31))) (by kernel_rfl) hS0 (fun hHeld => ?_)
                refine wpAnyH_take (i := 0) (v := ?_) rfl (by kernel_rfl) (by kernel_rfl) (by kernel_rfl) (fun _ _ _ h => h) (Or.inl ⟨by rfl, ?_⟩) (by assumption) ?_
                rotate_left
                · intro wS hSw; skip; go_simp; (try with_reducible rfl)
                change wpAnyH _ _ _ _ _ _ _ (Act.put _ (some 41) _) _
                simp only [Act.put, List.setIfInBounds_toArray, List.set_cons_zero, List.set_cons_succ]
                refine wpAnyH_take (i := 1) (v := ?_) rfl (by kernel_rfl) (by kernel_rfl) (by kernel_rfl) (fun _ _ _ h => h) (Or.inl ⟨by rfl, ?_⟩) (by assumption) ?_
                rotate_left
                · intro wS hSw; have q := k17 wS hSw; go_simp; (try with_reducible rfl)
                change wpAnyH _ _ _ _ _ _ _ (Act.put _ (some 42) _) _
                simp only [Act.put, List.setIfInBounds_toArray, List.set_cons_zero, List.set_cons_succ]
                refine wpAnyH_take (i := 2) (v := ?_) rfl (by kernel_rfl) (by kernel_rfl) (by kernel_rfl) (fun _ _ _ h => h) (Or.inl ⟨by rfl, ?_⟩) (by assumption) ?_
                rotate_left
                · intro wS hSw; skip; go_simp; (try with_reducible rfl)
                change wpAnyH _ _ _ _ _ _ _ (Act.put _ (some 43) _) _
                simp only [Act.put, List.setIfInBounds_toArray, List.set_cons_zero, List.set_cons_succ]
                refine wpAnyH_take (i := 3) rfl (by kernel_rfl) (by kernel_rfl) (by kernel_rfl) (fun _ _ _ h => h) (yieldsIf_load_mid (by rfl) 31 (.tmp 8) rfl wr.heap.size 0 rfl ds _ (fun w' h => box_range (p0 w' h)) Try.underlying31 rfl (w_size hdl.out)) (by assumption) ?_
                change wpAnyH _ _ _ _ _ _ _ (Act.put _ (some 44) _) _
                simp only [Act.put, List.setIfInBounds_toArray, List.set_cons_zero, List.set_cons_succ]
                refine wpAnyH_take (i := 5) (v := ?_) rfl (by kernel_rfl) (by kernel_rfl) (by kernel_rfl) (fun _ _ _ h => h) (Or.inl ⟨by rfl, ?_⟩) (by assumption) ?_
                rotate_left
                · intro wS hSw; skip; go_simp; (try with_reducible rfl)
                change wpAnyH _ _ _ _ _ _ _ (Act.put _ (some 46) _) _
                simp only [Act.put, List.setIfInBounds_toArray, List.set_cons_zero, List.set_cons_succ]
                refine wpAnyH_take (i := 6) (v := ?_) rfl (by kernel_rfl) (by kernel_rfl) (by kernel_rfl) (fun _ _ _ h => h) (Or.inl ⟨by rfl, ?_⟩) (by assumption) ?_
                rotate_left
                · intro wS hSw; skip; go_simp; (try with_reducible rfl)
                change wpAnyH _ _ _ _ _ _ _ (Act.put _ (some 47) _) _
                simp only [Act.put, List.setIfInBounds_toArray, List.set_cons_zero, List.set_cons_succ]
                refine wpAnyH_take (i := 7) (v := ?_) rfl (by kernel_rfl) (by kernel_rfl) (by kernel_rfl) (fun _ _ _ h => h) (Or.inl ⟨by rfl, ?_⟩) (by assumption) ?_
                rotate_left
                · intro wS hSw; skip; go_simp; (try with_reducible rfl)
                change wpAnyH _ _ _ _ _ _ _ (Act.put _ (some 48) _) _
                simp only [Act.put, List.setIfInBounds_toArray, List.set_cons_zero, List.set_cons_succ]
                refine wpAnyH_take (i := 8) (v := ?_) rfl (by kernel_rfl) (by kernel_rfl) (by kernel_rfl) (fun _ _ _ h => h) (Or.inl ⟨by rfl, ?_⟩) (by assumption) ?_
                rotate_left
                · intro wS hSw; skip; go_simp; (try with_reducible rfl)
                change wpAnyH _ _ _ _ _ _ _ (Act.put _ (some 49) _) _
                simp only [Act.put, List.setIfInBounds_toArray, List.set_cons_zero, List.set_cons_succ]
                refine wpAnyH_take (i := 9) (v := ?_) rfl (by kernel_rfl) (by kernel_rfl) (by kernel_rfl) (fun _ _ _ h => h) (Or.inl ⟨by rfl, ?_⟩) (by assumption) ?_
                rotate_left
                · intro wS hSw; skip; go_simp; (try with_reducible rfl)
                change wpAnyH _ _ _ _ _ _ _ (Act.put _ (some 50) _) _
                simp only [Act.put, List.setIfInBounds_toArray, List.set_cons_zero, List.set_cons_succ]
                refine wpAnyH_ready (rs := [4]) (by kernel_rfl) (by simp) ?_
                refine AllReadyH.cons rfl (fun K hK => ?_) AllReadyH.nil
                go_simp
                refine hK.out _ _ (hHeld.alloc (by simp) _) (fun hHeld => ?_)
                clear hK K
                (try simp only [Act.put, List.setIfInBounds_toArray, List.set_cons_zero, List.set_cons_succ])
                refine wpAnyH_ready (rs := [10]) (by kernel_rfl) (by simp) ?_
                refine AllReadyH.cons rfl (fun K hK => ?_) AllReadyH.nil
                go_simp
                have hBW : Below wr.heap.size wr (((wr.alloc (.cells ds.toArray 31)).alloc (.cells ds.toArray 31)).drew) := (((Below.refl _ _).alloc (Nat.le_refl _) _).alloc (by simp) _).drew
                have hh1 : (((wr.alloc (.cells ds.toArray 31)).alloc (.cells ds.toArray 31)).drew).heap[wr.heap.size + 1]? = some (.cells ds.toArray 31 (0, 0)) := by
                  have h := heap_alloc_new (wr.alloc (.cells ds.toArray 31)) (.cells ds.toArray 31)
                  rw [hsz3] at h
                  exact h
                have s1 : Sl 19 (WAt (Live (((wr.alloc (.cells ds.toArray 31)).alloc (.cells ds.toArray 31)).drew)) (((wr.alloc (.cells ds.toArray 31)).alloc (.cells ds.toArray 31)).drew)) (Live (((wr.alloc (.cells ds.toArray 31)).alloc (.cells ds.toArray 31)).drew)) (((wr.alloc (.cells ds.toArray 31)).alloc (.cells ds.toArray 31)).drew) (some ⟨wr.heap.size + 1, 0, none⟩) [x] := ⟨ds, Els.one hdw.out.len (hdw.out.below hBW), fun _ => ⟨wr.heap.size + 1, 0, rfl, (by show _ < _; simp), box_range hh1⟩⟩
                have s2 : Sl 19 (WAt (Live (((wr.alloc (.cells ds.toArray 31)).alloc (.cells ds.toArray 31)).drew)) (((wr.alloc (.cells ds.toArray 31)).alloc (.cells ds.toArray 31)).drew)) (Live (((wr.alloc (.cells ds.toArray 31)).alloc (.cells ds.toArray 31)).drew)) (((wr.alloc (.cells ds.toArray 31)).alloc (.cells ds.toArray 31)).drew) (some ⟨g', off' + j * 19, none⟩) [x] := ⟨cs', Els.one hct'.out.len (hct'.out.below hBW), fun _ => ⟨g', off' + j * 19, rfl, Nat.lt_of_lt_of_le hg' hBW.size, range_keep hcr'.out (hBW.block _ hg')⟩⟩
                refine (same30 _ _ 1 1 (cx - j) [x] _ s1 s2 rfl (by decide)).mono ?_
                rintro e w4 ⟨rfl, hb4⟩
                have hW4 : Below (wr.heap.size + 1) (wr.alloc (.cells ds.toArray 31)) w4 := (((Below.refl _ _).alloc (by simp) (.cells ds.toArray 31)).drew).trans (hb4.mono (by simp))
                clear s1 s2 hh1 hBW hfold
                go_wp2_with fail
                refine hK.out _ _ (hW4) (fun hHeld => ?_)
                clear hK K
                (try simp only [Act.put, List.setIfInBounds_toArray, List.set_cons_zero, List.set_cons_succ])
                have hHH := hHeld
                refine wpAnyH_take (i := 11) (v := ?_) rfl (by kernel_rfl) (by kernel_rfl) (by kernel_rfl) (fun _ _ _ h => h) (Or.inl ⟨by rfl, ?_⟩) (by assumption) ?_
                rotate_left
                · intro wS hSw; skip; go_simp; (try with_reducible rfl)
                change wpAnyH _ _ _ _ _ _ _ (Act.put _ (some 52) _) _
                simp only [Act.put, List.setIfInBounds_toArray, List.set_cons_zero, List.set_cons_succ]
                refine wpAnyH_take (i := 12) (v := ?_) rfl (by kernel_rfl) (by kernel_rfl) (by kernel_rfl) (fun _ _ _ h => h) (Or.inl ⟨by rfl, ?_⟩) (by assumption) ?_
                rotate_left
                · intro wS hSw; skip; go_simp; (try with_reducible rfl)
                change wpAnyH _ _ _ _ _ _ _ (Act.put _ (some 53) _) _
                simp only [Act.put, List.setIfInBounds_toArray, List.set_cons_zero, List.set_cons_succ]
                refine wpAnyH_take (i := 13) (v := ?_) rfl (by kernel_rfl) (by kernel_rfl) (by kernel_rfl) (fun _ _ _ h => h) (Or.inl ⟨by rfl, ?_⟩) (by assumption) ?_
                rotate_left
                · intro wS hSw; skip; go_simp; (try with_reducible rfl)
                change wpAnyH _ _ _ _ _ _ _ (Act.put _ (some 54) _) _
                simp only [Act.put, List.setIfInBounds_toArray, List.set_cons_zero, List.set_cons_succ]
                refine wpAnyH_take (i := 14) (v := ?_) rfl (by kernel_rfl) (by kernel_rfl) (by kernel_rfl) (fun _ _ _ h => h) (Or.inl ⟨by rfl, ?_⟩) (by assumption) ?_
                rotate_left
                · intro wS hSw; skip; go_simp; (try with_reducible rfl)
                change wpAnyH _ _ _ _ _ _ _ (Act.put _ (some 55) _) _
                simp only [Act.put, List.setIfInBounds_toArray, List.set_cons_zero, List.set_cons_succ]
                refine wpAnyH_take (i := 15) (v := ?_) rfl (by kernel_rfl) (by kernel_rfl) (by kernel_rfl) (fun _ _ _ h => h) (Or.inl ⟨by rfl, ?_⟩) (by assumption) ?_
                rotate_left
                · intro wS hSw; skip; go_simp; (try with_reducible rfl)
                change wpAnyH _ _ _ _ _ _ _ (Act.put _ (some 56) _) _
                simp only [Act.put, List.setIfInBounds_toArray, List.set_cons_zero, List.set_cons_succ]
                refine wpAnyH_take (i := 16) (v := ?_) rfl (by kernel_rfl) (by kernel_rfl) (by kernel_rfl) (fun _ _ _ h => h) (Or.inl ⟨by rfl, ?_⟩) (by assumption) ?_
                rotate_left
                · intro wS hSw; skip; go_simp; (try with_reducible rfl)
                change wpAnyH _ _ _ _ _ _ _ (Act.put _ (some 57) _) _
                simp only [Act.put, List.setIfInBounds_toArray, List.set_cons_zero, List.set_cons_succ]
                refine wpAnyH_take (i := 17) (v := ?_) rfl (by kernel_rfl) (by kernel_rfl) (by kernel_rfl) (fun _ _ _ h => h) (Or.inl ⟨by rfl, ?_⟩) (by assumption) ?_
                rotate_left
                · intro wS hSw; skip; go_simp; (try with_reducible rfl)
                change wpAnyH _ _ _ _ _ _ _ (Act.put _ (some 58) _) _
                simp only [Act.put, List.setIfInBounds_toArray, List.set_cons_zero, List.set_cons_succ]
                refine wpAnyH_take (i := 18) (v := ?_) rfl (by kernel_rfl) (by kernel_rfl) (by kernel_rfl) (fun _ _ _ h => h) (Or.inl ⟨by rfl, ?_⟩) (by assumption) ?_
                rotate_left
                · intro wS hSw; have q := q0 wS hSw; go_simp; (try with_reducible rfl)
                change wpAnyH _ _ _ _ _ _ _ (Act.put _ (some 59) _) _
                simp only [Act.put, List.setIfInBounds_toArray, List.set_cons_zero, List.set_cons_succ]
                refine wpAnyH_take (i := 19) (v := ?_) rfl (by kernel_rfl) (by kernel_rfl) (by kernel_rfl) (fun _ _ _ h => h) (Or.inl ⟨by rfl, ?_⟩) (by assumption) ?_
                rotate_left
                · intro wS hSw; skip; go_simp; (try with_reducible rfl)
                change wpAnyH _ _ _ _ _ _ _ (Act.put _ (some 60) _) _
                simp only [Act.put, List.setIfInBounds_toArray, List.set_cons_zero, List.set_cons_succ]
                refine wpAnyH_take (i := 20) (v := ?_) rfl (by kernel_rfl) (by kernel_rfl) (by kernel_rfl) (fun _ _ _ h => h) (Or.inl ⟨by rfl, ?_⟩) (by assumption) ?_
                rotate_left
                · intro wS hSw; have q := k0 wS hSw; go_simp; (try with_reducible rfl)
                change wpAnyH _ _ _ _ _ _ _ (Act.put _ (some 61) _) _
                simp only [Act.put, List.setIfInBounds_toArray, List.set_cons_zero, List.set_cons_succ]
                refine wpAnyH_take (i := 21) (v := ?_) rfl (by kernel_rfl) (by kernel_rfl) (by kernel_rfl) (fun _ _ _ h => h) (Or.inl ⟨by rfl, ?_⟩) (by assumption) ?_
                rotate_left
                · intro wS hSw; skip; go_simp; (try with_reducible rfl)
                change wpAnyH _ _ _ _ _ _ _ (Act.put _ (some 62) _) _
                simp only [Act.put, List.setIfInBounds_toArray, List.set_cons_zero, List.set_cons_succ]
                refine wpAnyH_take (i := 22) (v := ?_) rfl (by kernel_rfl) (by kernel_rfl) (by kernel_rfl) (fun _ _ _ h => h) (Or.inl ⟨by rfl, ?_⟩) (by assumption) ?_
                rotate_left
                · intro wS hSw; skip; go_simp; (try with_reducible rfl)
                change wpAnyH _ _ _ _ _ _ _ (Act.put _ (some 63) _) _
                simp only [Act.put, List.setIfInBounds_toArray, List.set_cons_zero, List.set_cons_succ]
                refine wpAnyH_done (by kernel_rfl) ?_ _
                go_wp2_with fail
                go_meet
                exact ⟨rfl, hHH⟩
            case rest =>
              obtain ⟨rfl, hbc⟩ := hcut
              have hbS := Lib.hid (hbR.out.trans (hbc.mono (by have := hbR.out.size; omega)))
              clear hbc q0 p0 k0 k17
              go_wp2_with fail
              go_roundw
              case rel => exact ⟨j + 1, by omega, by go_num, hbS.out⟩
              case measure => simp [intOf]; omega
          · have A := Lib.hid (awake wr)
            have hbF := Lib.hid (hbE.out.trans (hbr.mono hbE.out.size))
            clear hbr
            go_wp2_with fail
            refine A.out.mono ?_
            rintro e w4 ⟨rfl, hb4⟩
            have hbG := Lib.hid (hbF.out.trans (hb4.mono hbF.out.size))
            clear hb4
            go_wp2_with fail
            go_ret
            exact ⟨rfl, hbG.out⟩
end Go.Proofs.Ytncmjkaclfcbmaa
