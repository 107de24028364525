/- The walk of WaitsLives. -/
import Derived.Test.YtncmjkaclfcbmaaHanded
import Derived.Test.YtncmjkaclfcbmaaSameW
import Derived.Test.YtncmjkaclfcbmaaReads2
import Derived.Test.YtncmjkaclfcbmaaBy
import Derived.Test.YtncmjkaclfcbmaaRFind
import Derived.Test.YtncmjkaclfcbmaaRAsks
import Derived.Test.YtncmjkaclfcbmaaSameAsks
set_option linter.unusedVariables false
set_option linter.unusedSimpArgs false
namespace Go.Proofs.Ytncmjkaclfcbmaa
open Go.RowKit

theorem onF_len (k : DT) (ws : List WT) : (onF k ws).length ≤ ws.length + 1 := by
  unfold onF
  have h0 : (dropF k.n ws).length ≤ ws.length := List.length_filter_le _ _
  have h1 : (dropF k.w.op ws).length ≤ ws.length := List.length_filter_le _ _
  split
  · unfold addF; rw [List.length_append]; simp; exact h1
  split
  · omega
  split
  · unfold handF; rw [List.length_map]; omega
  split
  · unfold ansF; rw [List.length_map]; omega
  · unfold refF; rw [List.length_map]; omega
theorem d_size' {cs : List Value} (h : cs.length = 26) : (Try.prog.info? 41).map (·.size) = some cs.length := by
  have := d_size h
  simpa using this
theorem row_range {w : World} {g : Nat} {cs : List Value} {t : TypeId} (h : w.heap[g]? = some (.cells cs.toArray t (0, 0))) : w.rangeAt g 0 cs := fun j v hv => box_cell h _ _ (by simpa using hv)
def TwoL (w : World) (c : Nat) (x y : Value) (wr : World) : Prop :=
  ∃ (ax : Option Addr) (cx : Nat) (ay : Option Addr) (cy : Nat) (l : List WT), x = .slice ax l.length cx ∧ y = .slice ay l.length cy ∧ IsWaits wr ax l.length cx l ∧ IsWaits wr ay l.length cy l ∧ l.length ≤ c ∧ Below w.heap.size w wr
attribute [local go_sem ↓] Go.wp_at_zero Go.wp_at_succ
set_option maxRecDepth 100000 in
set_option maxHeartbeats 20000000 in
theorem lives_walk (a : Option Addr) (n cap : Nat) (ws : List WT) (a2 : Option Addr) (n2 cap2 : Nat) (ds : List DT) (flow : ByteArray) (run op : Int) (w : World) (h1 : IsWaits w a n cap ws) (h2 : IsDos w a2 n2 cap2 ds) :
    Calls Try.prog 6 #[.slice a n cap, .slice a2 n2 cap2, .string flow, .int .i64 run, .int .i64 op] w fun e w' => e = .returned (.bool true) ∧ Below w.heap.size w w' := by
  obtain ⟨m, hm⟩ : ∃ m, m = min n 40 := ⟨_, rfl⟩
  have hm40 : m ≤ 40 ∧ m ≤ n := by omega
  have h1' := h1.take m hm40.2
  have hnc := h1.2.2.1
  have hcm := h1.2.2.2.1
  have hdl := Lib.hid h2.1
  have hds := Lib.hid h2.2.1
  have hn2c := h2.2.2.1
  have hcm2 := h2.2.2.2.1
  replace hm := Lib.hid hm
  replace h1' := Lib.hid h1'
  clear h1 h2
  go_enter Try.func6, Try.ntmps6
  go_upto_region 1 with (fail)
  go_cut [0] (fun s0 wx => s0 = .slice a m cap ∧ wx = w)
  case first =>
    by_cases h40 : n ≤ 40
    · have e1 : m = n := by have := hm.out; omega
      replace e1 := Lib.hid e1
      go_wp2_with fail
      go_meet
      exact ⟨by rw [e1.out], rfl⟩
    · have e1 : m = 40 := by have := hm.out; omega
      replace e1 := Lib.hid e1
      have g1 : (40 : Int) ≤ (cap : Int) := by omega
      go_wp2_with fail
      go_meet
      exact ⟨by rw [e1.out], rfl⟩
  case rest =>
    obtain ⟨rfl, rfl⟩ := hcut
    have hwl := Lib.hid h1'.out.1
    go_wp2_with fail
    go_loopw [11, 12, 29] (fun x y i wr => ∃ j : Nat, j ≤ n2 ∧ i = .int .i64 (j : Int) ∧ TwoL wc (40 + min j 20) x y wr) (fun _ _ i _ => n2 - (intOf i).toNat)
    case atStart => exact ⟨0, Nat.zero_le _, rfl, a, cap, a, cap, ws.take m, by rw [hwl.out], by rw [hwl.out], by rw [hwl.out]; exact h1'.out, by rw [hwl.out]; exact h1'.out, by rw [hwl.out]; omega, Below.refl _ _⟩
    case round =>
      obtain ⟨j, hj, rfl, hT⟩ := hrel
      by_cases hlt : j < n2
      · obtain ⟨k, hk0⟩ : ∃ k, ds[j]? = some k := ⟨_, List.getElem?_eq_getElem (by rw [hdl.out]; exact hlt)⟩
        obtain ⟨ax, cx, ay, cy, l, rfl, rfl, hx, hy, hl40, hbr⟩ := hT
        obtain ⟨g, off, cs, rfl, hg, hcl, hct, hcr⟩ := hds.out.get j k hk0
        have hcr' : wr.rangeAt g (off + j * 26) cs := range_keep hcr (hbr.block _ hg)
        have hone := all_one hct.one
        have hct' := hct.below hbr
        have hz26 := Lib.hid (heap_alloc_new wr (.cells Z26 41))
        have hz26' : Z26 = #[.int .i64 0, .int .i64 0, .int .i64 0, .int .i64 0, .string { data := #[] }, .int .i64 0, .int .i64 0, .int .i64 0, .int .i64 0, .string { data := #[] }, .string { data := #[] }, .int .i64 0, .int .i64 0, .int .u64 0, .string { data := #[] }, .slice none 0 0, .int .i64 0, .int .i64 0, .int .u64 0, .string { data := #[] }, .slice none 0 0, .bool false, .bool false, .int .i64 0, .slice none 0 0, .slice none 0 0] := rfl
        rw [hz26'] at hz26
        clear hz26'
        have hn := Lib.hid (heap_alloc_new wr (.cells cs.toArray 41))
        have hlo2 : cs.toArray.size = 26 := by simp [hcl]
        have hA1 : Below wr.heap.size wr (wr.alloc (.cells cs.toArray 41)) := (Below.refl _ _).alloc (Nat.le_refl _) _
        have hsz3 : (wr.alloc (.cells cs.toArray 41)).heap.size = wr.heap.size + 1 := by simp
        have hdsz := Lib.hid (d_size hcl)
        have hxA := Lib.hid (hx.below hA1)
        have hyA := Lib.hid (hy.below hA1)
        have hkA := Lib.hid (hct'.below hA1)
        have hbA := Lib.hid (hbr.trans (hA1.mono hbr.size))
        have hmx := hx.2.2.1
        have hmy := hy.2.2.1
        obtain ⟨q, hq⟩ : ∃ q, q = l.length := ⟨_, rfl⟩
        rw [← hq] at hxA hyA hl40 hmx hmy ⊢
        replace hq := Lib.hid hq
        replace hcr' := Lib.hid hcr'
        replace hcl := Lib.hid hcl
        replace hone := Lib.hid hone
        replace hsz3 := Lib.hid hsz3
        clear hcr hct hct' hA1 hx hy hbr hk0
        go_upto_region 6 with (first | (with_reducible refine wpList_load_mid rfl 41 (.tmp 32) rfl g (off + j * 26) rfl cs _ hcr'.out Try.underlying41 rfl (d_size' hcl.out) ?_) | (with_reducible refine wpList_store_row rfl 41 (.tmp 14) (.tmp 33) rfl wr.heap.size cs.toArray rfl rfl 41 _ hz26.out hdsz.out (by simp [hcl.out]) hone.out ?_; rw [alloc_setRow]))
        go_frame
        generalize wr.alloc (.cells cs.toArray 41) = W at *
        generalize wr.heap.size = b at *
        by_cases h20 : 20 ≤ j
        · have e20 : decide ((20 : Int) ≤ (j : Int)) = true := decide_eq_true (by omega)
          clear hone hz26
          go_wp2_with fail
          go_roundw
          case rel => exact ⟨j + 1, by omega, by go_num, ax, cx, ay, cy, l, by rw [hq.out], by rw [hq.out], by rw [← hq.out]; exact hxA.out, by rw [← hq.out]; exact hyA.out, by rw [← hq.out]; omega, hbA.out⟩
          case measure => simp [intOf]; omega
        · have e20 : decide ((20 : Int) ≤ (j : Int)) = false := decide_eq_false (by omega)
          have F := Lib.hid (few k cs W hkA.out)
          clear hone hz26
          go_upto_region 7 with (with_reducible refine wpList_load_want (by kernel_rfl) 41 (.tmp 14) rfl b rfl 41 cs.toArray (0, 0) _ hn.out Try.underlying41 rfl hdsz.out ?_)
          refine F.out.mono ?_
          rintro e w3 ⟨rfl, hb3⟩
          have hx3 := Lib.hid (hxA.out.below hb3)
          have hy3 := Lib.hid (hyA.out.below hb3)
          have hk3 := Lib.hid (hkA.out.below hb3)
          have hX3 : w3.heap[b]? = some (.cells cs.toArray 41 (0, 0)) := (hb3.block _ (by rw [hsz3.out]; omega)).trans hn.out
          have hb3' := Lib.hid (hbA.out.trans (hb3.mono hbA.out.size))
          have hlt3 : b < w3.heap.size := by have := hb3.size; rw [hsz3.out] at this; omega
          have hlq : l.length = q := hq.out.symm
          replace hlq := Lib.hid hlq
          clear hb3 F hxA hyA hkA
          cases hfw : fewB k.answers.length k.asks.length with
          | false =>
            replace hX3 := Lib.hid hX3
            go_wp2_with fail
            go_roundw
            case rel => exact ⟨j + 1, by omega, by go_num, ax, cx, ay, cy, l, by rw [hq.out], by rw [hq.out], by rw [← hq.out]; exact hx3.out, by rw [← hq.out]; exact hy3.out, by rw [← hq.out]; omega, hb3'.out⟩
            case measure => simp [intOf]; omega
          | true =>
            replace hX3 := Lib.hid hX3
            go_upto_region 7 with (fail)
            have hS0 : Below w3.heap.size w3 w3.drew := (Below.refl _ _).drew
            refine wp_region_held_drew (S := Below w3.heap.size w3) (by kernel_rfl) hS0 (fun hHeld => ?_)
            refine wpAnyH_take (i := 0) rfl (by kernel_rfl) (by kernel_rfl) (by kernel_rfl) (fun _ _ _ h => h) (yieldsIf_load_mid (by rfl) 41 (.tmp 14) rfl b 0 rfl cs _ (fun w' h => row_range ((h.block _ hlt3).trans hX3.out)) Try.underlying41 rfl (d_size' hcl.out)) (by assumption) ?_
            change wpAnyH _ _ _ _ _ _ _ (Act.put _ (some 41) _) _
            simp only [Act.put, List.setIfInBounds_toArray, List.set_cons_zero, List.set_cons_succ]
            refine wpAnyH_take (i := 1) (v := ?_) rfl (by kernel_rfl) (by kernel_rfl) (by kernel_rfl) (fun _ _ _ h => h) (Or.inl ⟨by rfl, ?_⟩) (by assumption) ?_
            rotate_left
            · intro wS hSw; skip; go_simp; (try with_reducible rfl)
            change wpAnyH _ _ _ _ _ _ _ (Act.put _ (some 42) _) _
            simp only [Act.put, List.setIfInBounds_toArray, List.set_cons_zero, List.set_cons_succ]
            refine wpAnyH_take (i := 3) rfl (by kernel_rfl) (by kernel_rfl) (by kernel_rfl) (fun _ _ _ h => h) (yieldsIf_load_mid (by rfl) 41 (.tmp 14) rfl b 0 rfl cs _ (fun w' h => row_range ((h.block _ hlt3).trans hX3.out)) Try.underlying41 rfl (d_size' hcl.out)) (by assumption) ?_
            change wpAnyH _ _ _ _ _ _ _ (Act.put _ (some 44) _) _
            simp only [Act.put, List.setIfInBounds_toArray, List.set_cons_zero, List.set_cons_succ]
            refine wpAnyH_take (i := 4) (v := ?_) rfl (by kernel_rfl) (by kernel_rfl) (by kernel_rfl) (fun _ _ _ h => h) (Or.inl ⟨by rfl, ?_⟩) (by assumption) ?_
            rotate_left
            · intro wS hSw; skip; go_simp; (try with_reducible rfl)
            change wpAnyH _ _ _ _ _ _ _ (Act.put _ (some 45) _) _
            simp only [Act.put, List.setIfInBounds_toArray, List.set_cons_zero, List.set_cons_succ]
            refine wpAnyH_ready (rs := [2]) (by kernel_rfl) (by simp) ?_
            refine AllReadyH.cons rfl (fun K hK => ?_) AllReadyH.nil
            go_simp
            refine (on ax q cx l k cs _ (hx3.out.below hHeld).2.1 hlq.out hmx (by omega) (hk3.out.below hHeld)).mono ?_
            rintro e w4 ⟨v1, rfl, ho1, hb4⟩
            obtain ⟨a1, c1, rfl, hx4⟩ := ho1.waits
            have hW4 : Below w3.heap.size w3 w4 := hHeld.trans (hb4.mono hHeld.size)
            replace hx4 := Lib.hid hx4
            clear ho1 hb4
            go_wp2_with fail
            refine hK.out _ _ (hW4) (fun hHeld => ?_)
            clear hK K
            (try simp only [Act.put, List.setIfInBounds_toArray, List.set_cons_zero, List.set_cons_succ])
            refine wpAnyH_ready (rs := [5]) (by kernel_rfl) (by simp) ?_
            refine AllReadyH.cons rfl (fun K hK => ?_) AllReadyH.nil
            go_simp
            refine (by_ ay q cy l k cs _ (hy3.out.below hHeld).2.1 hlq.out hmy (by omega) (hk3.out.below hHeld)).mono ?_
            rintro e w5 ⟨v2, rfl, ho2, hb5⟩
            obtain ⟨a3, c3, rfl, hy5⟩ := ho2.waits
            have hW5 : Below w3.heap.size w3 w5 := hHeld.trans (hb5.mono hHeld.size)
            have hx5 := Lib.hid (hx4.out.below hb5)
            replace hy5 := Lib.hid hy5
            clear ho2 hb5
            go_wp2_with fail
            refine hK.out _ _ (hW5) (fun hHeld => ?_)
            clear hK K
            (try simp only [Act.put, List.setIfInBounds_toArray, List.set_cons_zero, List.set_cons_succ])
            refine wpAnyH_take (i := 6) (v := ?_) rfl (by kernel_rfl) (by kernel_rfl) (by kernel_rfl) (fun _ _ _ h => h) (Or.inl ⟨by rfl, ?_⟩) (by assumption) ?_
            rotate_left
            · intro wS hSw; skip; go_simp; (try with_reducible rfl)
            change wpAnyH _ _ _ _ _ _ _ (Act.put _ (some 11) _) _
            simp only [Act.put, List.setIfInBounds_toArray, List.set_cons_zero, List.set_cons_succ]
            refine wpAnyH_take (i := 7) (v := ?_) rfl (by kernel_rfl) (by kernel_rfl) (by kernel_rfl) (fun _ _ _ h => h) (Or.inl ⟨by rfl, ?_⟩) (by assumption) ?_
            rotate_left
            · intro wS hSw; skip; go_simp; (try with_reducible rfl)
            change wpAnyH _ _ _ _ _ _ _ (Act.put _ (some 12) _) _
            simp only [Act.put, List.setIfInBounds_toArray, List.set_cons_zero, List.set_cons_succ]
            refine wpAnyH_done (by kernel_rfl) ?_ _
            have hbB := Lib.hid (hb3'.out.trans (hHeld.mono hb3'.out.size))
            have hlen : (onF k l).length ≤ q + 1 := by have := onF_len k l; rw [hlq.out] at this; exact this
            have SM := Lib.hid (same30 a1 a3 (onF k l).length c1 c3 (onF k l) w5 hx5.out.2.1 hy5.out.2.1 rfl (by omega))
            generalize onF k l = l' at *
            obtain ⟨q', hq'⟩ : ∃ q', q' = l'.length := ⟨_, rfl⟩
            rw [← hq'] at hx5 hy5 hlen SM ⊢
            replace hq' := Lib.hid hq'
            clear hHeld hW4 hW5
            go_wp2_with fail
            refine SM.out.mono ?_
            rintro e w6 ⟨rfl, hb6⟩
            have hx6 := Lib.hid (hx5.out.below hb6)
            have hy6 := Lib.hid (hy5.out.below hb6)
            have hbC := Lib.hid (hbB.out.trans (hb6.mono hbB.out.size))
            clear hb6 SM
            go_wp2_with fail
            go_roundw
            case rel => exact ⟨j + 1, by omega, by go_num, a1, c1, a3, c3, l', by rw [hq'.out], by rw [hq'.out], by rw [← hq'.out]; exact hx6.out, by rw [← hq'.out]; exact hy6.out, by rw [← hq'.out]; omega, hbC.out⟩
            case measure => simp [intOf]; omega
      · obtain ⟨ax, cx, ay, cy, l, rfl, rfl, hx, hy, hl40, hbr⟩ := hT
        obtain ⟨q, hq⟩ : ∃ q, q = l.length := ⟨_, rfl⟩
        rw [← hq] at hx hy hl40 ⊢
        replace hl40 : q ≤ 60 := by omega
        have hmx := hx.2.2.1
        have hmy := hy.2.2.1
        have F := find ax q cx l op wr hx.2.1 hq.symm hmx (by omega)
        replace F := Lib.hid F
        replace hx := Lib.hid hx
        replace hy := Lib.hid hy
        replace hq := Lib.hid hq
        replace hbr := Lib.hid hbr
        go_wp2_with fail
        refine F.out.mono ?_
        rintro e w1 ⟨cs1, rfl, hv1, hb1⟩
        have hz1 := Lib.hid (heap_alloc_new w1 (.cells Z19 31))
        unfold Z19 at hz1
        have hcl1 := Lib.hid hv1.len
        have hone1 := Lib.hid (all_one hv1.one)
        have hlo1 : cs1.toArray.size = 19 := by simp [hcl1.out]
        have hlo1' : cs1.length = 19 := hcl1.out
        have hA1 : Below w1.heap.size w1 (w1.alloc (.cells cs1.toArray 31)) := (Below.refl _ _).alloc (Nat.le_refl _) _
        have hB1 : Below wr.heap.size wr (w1.alloc (.cells cs1.toArray 31)) := hb1.trans (hA1.mono hb1.size)
        have hX1 := Lib.hid (heap_alloc_new w1 (.cells cs1.toArray 31))
        have hw1 : WAt (Live (w1.alloc (.cells cs1.toArray 31))) (w1.alloc (.cells cs1.toArray 31)) ((findF op l).getD zeroW) cs1 := hv1.change (fun r hr => by have := hr.2; show _ < _; simp; omega) (fun r hr => hA1.block r hr.2)
        have hx1 := Lib.hid (hx.out.below hB1)
        have hy1 := Lib.hid (hy.out.below hB1)
        have hsz1 : (w1.alloc (.cells cs1.toArray 31)).heap.size = w1.heap.size + 1 := by simp
        have hbD := Lib.hid (hbr.out.trans (hB1.mono hbr.out.size))
        have RF := Lib.hid (rfind ay q cy l op _ hy1.out.2.1 hq.out.symm hmy (by omega))
        replace hw1 := Lib.hid hw1
        replace hsz1 := Lib.hid hsz1
        clear hv1 hb1 hA1 hB1 F
        go_wp2_with (with_reducible refine wpList_store_row rfl 31 (.tmp 15) (.tmp 56) rfl w1.heap.size cs1.toArray rfl rfl 31 _ hz1.out (w_size' hcl1.out) (by simp [hcl1.out]) hone1.out ?_; rw [alloc_setRow])
        clear hz1
        generalize w1.alloc (.cells cs1.toArray 31) = W1 at *
        generalize w1.heap.size = b1 at *
        refine RF.out.mono ?_
        rintro e w2 ⟨cs2, rfl, hv2, hb2⟩
        have hz2 := Lib.hid (heap_alloc_new w2 (.cells Z19 31))
        unfold Z19 at hz2
        have hcl2 := Lib.hid hv2.len
        have hone2 := Lib.hid (all_one hv2.one)
        have hlo2 : cs2.toArray.size = 19 := by simp [hcl2.out]
        have hlo2' : cs2.length = 19 := hcl2.out
        have hA2 : Below w2.heap.size w2 (w2.alloc (.cells cs2.toArray 31)) := (Below.refl _ _).alloc (Nat.le_refl _) _
        have hB2 : Below W1.heap.size W1 (w2.alloc (.cells cs2.toArray 31)) := hb2.trans (hA2.mono hb2.size)
        have hX2 := Lib.hid (heap_alloc_new w2 (.cells cs2.toArray 31))
        have hX12 := Lib.hid ((hB2.block b1 (by rw [hsz1.out]; omega)).trans hX1.out)
        have hw2 : WAt (Live (w2.alloc (.cells cs2.toArray 31))) (w2.alloc (.cells cs2.toArray 31)) ((findF op l).getD zeroW) cs2 := hv2.change (fun r hr => by have := hr.2; show _ < _; simp; omega) (fun r hr => hA2.block r hr.2)
        have hw12 := Lib.hid (hw1.out.below hB2)
        have hx2 := Lib.hid (hx1.out.below hB2)
        have hy2 := Lib.hid (hy1.out.below hB2)
        have hsz2 : (w2.alloc (.cells cs2.toArray 31)).heap.size = w2.heap.size + 1 := by simp
        have hb12 : b1 < w2.heap.size := by have := hb2.size; rw [hsz1.out] at this; omega
        have hbE := Lib.hid (hbD.out.trans (hB2.mono hbD.out.size))
        have U := Lib.hid (updates ax q cx l flow run _ hx2.out.2.1 hq.out.symm hmx (by omega))
        replace hw2 := Lib.hid hw2
        replace hsz2 := Lib.hid hsz2
        clear hv2 hb2 hA2 hB2 RF hw1 hx1 hy1 hX1
        go_wp2_with (with_reducible refine wpList_store_row rfl 31 (.tmp 17) (.tmp 62) rfl w2.heap.size cs2.toArray rfl rfl 31 _ hz2.out (w_size' hcl2.out) (by simp [hcl2.out]) hone2.out ?_; rw [alloc_setRow])
        clear hz2
        generalize w2.alloc (.cells cs2.toArray 31) = W2 at *
        generalize w2.heap.size = b2 at *
        have hb2l : b2 < W2.heap.size := by rw [hsz2.out]; omega
        have hb1l : b1 < W2.heap.size := by omega
        refine U.out.mono ?_
        rintro e w3 ⟨v3, rfl, ho3, hb3⟩
        obtain ⟨a3, c3, rfl, o31, o32, o33⟩ := ho3.live carried_k
        have hlu : (updL flow run l).length ≤ 60 := Nat.le_trans (askG_len _ _ _) (by rw [← hq.out]; exact hl40)
        have hlq : (queL flow run l).length ≤ 60 := Nat.le_trans (askG_len _ _ _) (by rw [← hq.out]; exact hl40)
        have hBB3 := Lib.hid hb3
        have RU := Lib.hid (rupdates ay q cy l flow run w3 (hy2.out.below hb3).2.1 hq.out.symm hmy (by omega))
        replace o33 := Lib.hid o33
        clear U ho3 hb3
        generalize updL flow run l = lu at *
        obtain ⟨nu, hnu⟩ : ∃ nu, nu = lu.length := ⟨_, rfl⟩
        rw [← hnu] at hlu o31 ⊢
        replace hnu := Lib.hid hnu
        go_wp2_with fail
        refine RU.out.mono ?_
        rintro e w4 ⟨v4, rfl, ho4, hb4⟩
        obtain ⟨a4, c4, rfl, o41, o42, o43⟩ := ho4.live carried_k
        rw [← hnu.out] at o41 ⊢
        have SA := Lib.hid (sameAsks a3 a4 nu c3 c4 lu w4 (o33.out.change (fun r hr => Nat.lt_of_lt_of_le hr hb4.size) (fun r hr => hb4.block r hr) (fun t _ cs h => carried_k _ _ _ _ t cs (fun r hr => Nat.lt_of_lt_of_le hr hb4.size) (fun r hr => hb4.block r hr) h)) o43 hnu.out.symm (by omega))
        have hBB4 := Lib.hid (hBB3.out.trans (hb4.mono hBB3.out.size))
        clear RU ho4 hb4 o43
        go_wp2_with fail
        refine SA.out.mono ?_
        rintro e w5 ⟨rfl, hb5⟩
        have hBB5 := Lib.hid (hBB4.out.trans (hb5.mono hBB4.out.size))
        have Q := Lib.hid (queries ax q cx l flow run w5 (hx2.out.below hBB5.out).2.1 hq.out.symm hmx (by omega))
        clear SA hb5 hBB4
        go_wp2_with fail
        refine Q.out.mono ?_
        rintro e w6 ⟨v6, rfl, ho6, hb6⟩
        obtain ⟨a6, c6, rfl, o61, o62, o63⟩ := ho6.live carried_k
        have hBB6 := Lib.hid (hBB5.out.trans (hb6.mono hBB5.out.size))
        have RQ := Lib.hid (rqueries ay q cy l flow run w6 (hy2.out.below hBB6.out).2.1 hq.out.symm hmy (by omega))
        replace o63 := Lib.hid o63
        clear Q ho6 hb6 hBB5
        generalize queL flow run l = lq at *
        obtain ⟨nq, hnq⟩ : ∃ nq, nq = lq.length := ⟨_, rfl⟩
        rw [← hnq] at hlq o61 ⊢
        replace hnq := Lib.hid hnq
        go_wp2_with fail
        refine RQ.out.mono ?_
        rintro e w7 ⟨v7, rfl, ho7, hb7⟩
        obtain ⟨a7, c7, rfl, o71, o72, o73⟩ := ho7.live carried_k
        rw [← hnq.out] at o71 ⊢
        have SQ := Lib.hid (sameAsks a6 a7 nq c6 c7 lq w7 (o63.out.change (fun r hr => Nat.lt_of_lt_of_le hr hb7.size) (fun r hr => hb7.block r hr) (fun t _ cs h => carried_k _ _ _ _ t cs (fun r hr => Nat.lt_of_lt_of_le hr hb7.size) (fun r hr => hb7.block r hr) h)) o73 hnq.out.symm (by omega))
        have hBB7 := Lib.hid (hBB6.out.trans (hb7.mono hBB6.out.size))
        clear RQ ho7 hb7 o73 hBB6
        go_wp2_with fail
        refine SQ.out.mono ?_
        rintro e w8 ⟨rfl, hb8⟩
        have hBB8 := Lib.hid (hBB7.out.trans (hb8.mono hBB7.out.size))
        clear SQ hb8 hBB7
        -- the two waits that were found
        have hfold : List.foldl (fun cs x => cs.setIfInBounds x.snd x.fst) Z19 cs1.zipIdx = cs1.toArray := foldl_cells hcl1.out
        have hfold2 : List.foldl (fun cs x => cs.setIfInBounds x.snd x.fst) Z19 cs2.zipIdx = cs2.toArray := foldl_cells hcl2.out
        unfold Z19 at hfold hfold2
        have y1 : w8.heap[b1]? = some (.cells cs1.toArray 31 (0, 0)) := (hBB8.out.block _ hb1l).trans hX12.out
        have y2 : (w8.alloc (.cells cs1.toArray 31)).heap[b2]? = some (.cells cs2.toArray 31 (0, 0)) := (heap_alloc_old _ _ (Nat.lt_of_lt_of_le hb2l hBB8.out.size)).trans ((hBB8.out.block _ hb2l).trans hX2.out)
        have e1 : Below w8.heap.size w8 (w8.alloc (.cells cs1.toArray 31)) := (Below.refl _ _).alloc (Nat.le_refl _) _
        have e2 : Below w8.heap.size w8 ((w8.alloc (.cells cs1.toArray 31)).alloc (.cells cs2.toArray 31)) := e1.alloc (by simp) _
        have z1 : ((w8.alloc (.cells cs1.toArray 31)).alloc (.cells cs2.toArray 31)).heap[w8.heap.size]? = some (.cells cs1.toArray 31 (0, 0)) := heap_alloc2_old w8 _ _
        have z2 : ((w8.alloc (.cells cs1.toArray 31)).alloc (.cells cs2.toArray 31)).heap[w8.heap.size + 1]? = some (.cells cs2.toArray 31 (0, 0)) := heap_alloc2_new w8 _ _
        have s1 : Sl 19 (WAt (Live ((w8.alloc (.cells cs1.toArray 31)).alloc (.cells cs2.toArray 31))) ((w8.alloc (.cells cs1.toArray 31)).alloc (.cells cs2.toArray 31))) (Live ((w8.alloc (.cells cs1.toArray 31)).alloc (.cells cs2.toArray 31))) ((w8.alloc (.cells cs1.toArray 31)).alloc (.cells cs2.toArray 31)) (some ⟨w8.heap.size, 0, none⟩) [(findF op l).getD zeroW] := ⟨cs1, Els.one hcl1.out ((hw12.out.below hBB8.out).below e2), fun _ => ⟨w8.heap.size, 0, rfl, (Array.getElem?_eq_some_iff.1 z1).1, row_range z1⟩⟩
        have s2 : Sl 19 (WAt (Live ((w8.alloc (.cells cs1.toArray 31)).alloc (.cells cs2.toArray 31))) ((w8.alloc (.cells cs1.toArray 31)).alloc (.cells cs2.toArray 31))) (Live ((w8.alloc (.cells cs1.toArray 31)).alloc (.cells cs2.toArray 31))) ((w8.alloc (.cells cs1.toArray 31)).alloc (.cells cs2.toArray 31)) (some ⟨w8.heap.size + 1, 0, none⟩) [(findF op l).getD zeroW] := ⟨cs2, Els.one hcl2.out ((hw2.out.below hBB8.out).below e2), fun _ => ⟨w8.heap.size + 1, 0, rfl, (Array.getElem?_eq_some_iff.1 z2).1, row_range z2⟩⟩
        have SM := Lib.hid (same30 _ _ 1 1 1 _ _ s1 s2 rfl (by decide))
        have hbG := Lib.hid ((hbE.out.trans (hBB8.out.mono hbE.out.size)).trans (e2.mono (Nat.le_trans hbE.out.size hBB8.out.size)))
        replace y1 := Lib.hid y1
        replace y2 := Lib.hid y2
        clear s1 s2 z1 z2 e1 e2 hw2 hw12 hX12 hX2
        generalize (findF op l).isSome = is at *
        go_wp2_with (first | (with_reducible refine wpList_load_want (by kernel_rfl) 31 (.tmp 15) rfl b1 rfl 31 cs1.toArray (0, 0) _ y1.out Try.underlying31 rfl (w_size' hcl1.out) ?_) | (with_reducible refine wpList_load_want (by kernel_rfl) 31 (.tmp 17) rfl b2 rfl 31 cs2.toArray (0, 0) _ y2.out Try.underlying31 rfl (w_size' hcl2.out) ?_))
        refine SM.out.mono ?_
        rintro e w9 ⟨rfl, hb9⟩
        have hbH := Lib.hid (hbG.out.trans (hb9.mono hbG.out.size))
        have AW := Lib.hid (awake w9)
        clear hb9 SM hfold hfold2
        have hbe : (is == is) = true := by simp
        go_wp2_with fail
        refine AW.out.mono ?_
        rintro e w10 ⟨rfl, hb10⟩
        have hbI := Lib.hid (hbH.out.trans (hb10.mono hbH.out.size))
        clear hb10
        go_wp2_with fail
        go_ret
        exact ⟨rfl, hbI.out⟩
end Go.Proofs.Ytncmjkaclfcbmaa
