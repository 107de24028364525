/- usherref30.Find. -/
import Derived.Test.YtncmjkaclfcbmaaFind
import Derived.Test.YtncmjkaclfcbmaaOwnR
import Derived.Outline
set_option linter.unusedVariables false
set_option linter.unusedSimpArgs false
namespace Go.Proofs.Ytncmjkaclfcbmaa
open Go.RowKit

set_option maxHeartbeats 800000 in
theorem rfind (a : Option Addr) (n cap : Nat) (ws : List WT) (op : Int) (w : World) (hs : Sl 19 (WAt (Live w) w) (Live w) w a ws) (hn : ws.length = n) (hc : n ≤ cap) (h9 : n ≤ 1000000) :
    Calls Try.prog 16 #[.slice a n cap, .int .i64 op] w (FindP w ws op) := by
  have hR0 := Lib.hid (heap_alloc_new w (.cells Z19 31))
  have hB0 := Lib.hid ((Below.refl w.heap.size w).alloc (Nat.le_refl _) (.cells Z19 31))
  unfold Z19 at hR0 hB0
  replace hs := Lib.hid hs
  replace hn := Lib.hid hn
  go_enter Try.func16, Try.ntmps16
  go_wp2_with fail
  have hsz : (w.alloc (.cells #[.int .i64 0, .int .i64 0, .int .i64 0, .int .i64 0, .string { data := #[] }, .string { data := #[] }, .int .i64 0, .int .i64 0, .int .u64 0, .string { data := #[] }, .slice none 0 0, .int .i64 0, .int .i64 0, .int .u64 0, .string { data := #[] }, .slice none 0 0, .bool false, .bool false, .int .i64 0] 31)).heap.size = w.heap.size + 1 := by simp
  generalize w.alloc (.cells #[.int .i64 0, .int .i64 0, .int .i64 0, .int .i64 0, .string { data := #[] }, .string { data := #[] }, .int .i64 0, .int .i64 0, .int .u64 0, .string { data := #[] }, .slice none 0 0, .int .i64 0, .int .i64 0, .int .u64 0, .string { data := #[] }, .slice none 0 0, .bool false, .bool false, .int .i64 0] 31) = W at *
  replace hsz := Lib.hid hsz
  go_loopw [6] (fun i wr => ∃ j : Nat, j ≤ n ∧ i = .int .i64 (j : Int) ∧ (∀ x ∈ ws.take j, (x.op == op) = false) ∧ Below (w.heap.size + 1) W wr) (fun i _ => n - (intOf i).toNat)
  case atStart => exact ⟨0, Nat.zero_le _, rfl, by simp, Below.refl _ _⟩
  case round =>
    obtain ⟨j, hj, rfl, hno, hbr⟩ := hrel
    have hbw : Below w.heap.size w wr := hB0.out.trans (hbr.mono (Nat.le_succ _))
    have hRr : wr.heap[w.heap.size]? = some (.cells Z19 31 (0, 0)) := by rw [hbr.block _ (by omega)]; exact hR0.out
    have hlt0 : w.heap.size + 1 ≤ wr.heap.size := by have := hbr.size; rw [hsz.out] at this; exact this
    replace hno := Lib.hid hno
    replace hbr := Lib.hid hbr
    by_cases hlt : j < n
    · obtain ⟨x, hx⟩ : ∃ x, ws[j]? = some x := ⟨_, List.getElem?_eq_getElem (by rw [hn.out]; exact hlt)⟩
      obtain ⟨g, off, cs, rfl, hg, hcl, hct, hcr⟩ := hs.out.get j x hx
      have hcr' : wr.rangeAt g (off + j * 19) cs := range_keep hcr (hbw.block _ hg)
      have hct' := hct.below hbw
      have q0 : wr.cell? ⟨g, off + j * 19, none⟩ = some (.int .i64 x.op) := by have := hcr' 0 _ hct.cells.1; simpa using this
      have J := Lib.hid (rown x cs wr hct')
      have hbj : (0 : Int) ≤ (j : Int) := by omega
      have hbn : (j : Int) < (n : Int) := by omega
      replace hcr := Lib.hid hcr
      replace hct := Lib.hid hct
      replace hcr' := Lib.hid hcr'
      replace hct' := Lib.hid hct'
      replace hcl := Lib.hid hcl
      replace hbw := Lib.hid hbw
      replace hRr := Lib.hid hRr
      cases hop : (x.op == op) with
      | false =>
        replace hx := Lib.hid hx
        have hq : decide (x.op = op) = false := hop
        have hq2 : (x.op = op) = False := by simpa using hq
        go_wp2_with fail
        go_roundw
        case rel =>
          refine ⟨j + 1, by omega, by go_num, fun y hy => ?_, hbr.out⟩
          rw [List.take_add_one, hx.out, Option.toList_some] at hy
          rcases List.mem_append.1 hy with hy | hy
          · exact hno.out y hy
          · rw [List.mem_singleton.1 hy]; exact hop
        case measure => simp [intOf]; omega
      | true =>
        have hf := Lib.hid (find_take hno.out hx hop)
        replace hx := Lib.hid hx
        have hq : decide (x.op = op) = true := hop
        go_wp2_with (with_reducible refine wpList_load_mid rfl 31 (.tmp 22) rfl g (off + j * 19) rfl cs _ hcr'.out Try.underlying31 rfl (w_size hcl.out) ?_)
        refine J.out.mono ?_
        rintro e w3 ⟨cs', rfl, hv3, hb3⟩
        have hR3 : w3.heap[w.heap.size]? = some (.cells Z19 31 (0, 0)) := by
          rw [hb3.block _ (by omega)]; exact hRr.out
        unfold Z19 at hR3
        have hcl3 := Lib.hid hv3.len
        have hone3 := Lib.hid (all_one hv3.one)
        have hb3' : Below w.heap.size w w3 := hbw.out.trans (hb3.mono (by omega))
        have hsz3 : wr.heap.size ≤ w3.heap.size := hb3.size
        replace hR3 := Lib.hid hR3
        replace hv3 := Lib.hid hv3
        replace hb3' := Lib.hid hb3'
        clear hb3 J
        go_wp2_with (first | (with_reducible refine wpList_store_row rfl 31 (.tmp 4) (.tmp 24) rfl w.heap.size cs'.toArray rfl rfl 31 _ hR3.out (w_size' hcl3.out) (by simp [hcl3.out]) hone3.out ?_))
        have hk : ∀ q : Nat, q ≠ w.heap.size → (w3.setRow w.heap.size cs'.toArray).heap[q]? = w3.heap[q]? := fun q hq => setRow_other _ _ _ _ hq
        have hs3 : (w3.setRow w.heap.size cs'.toArray).heap.size = w3.heap.size := size_setRow _ _ _
        refine bodyPost_ret (v := .tuple #[.agg cs'.toArray, .bool true]) (results_cell_slot (fn := Try.f16) (p := 4) (q := 5) (by kernel_rfl) _ _ w.heap.size 31 cs'.toArray (0, 0) _ rfl _ rfl (setRow_heap _ _ _ _ _ _ hR3.out) Try.underlying31 rfl (w_size' hcl3.out)) rfl ⟨cs', by rw [hf.out]; rfl, ?_, below_setRow hb3'.out (Nat.le_refl _) _⟩
        rw [hf.out]
        exact hv3.out.change (fun q hq => ⟨by have := hq.1; omega, by rw [hs3]; exact hq.2⟩) (fun q hq => hk q (by have := hq.1; omega))
    · obtain rfl : j = n := by omega
      have hf : findF op ws = none := by
        unfold findF
        refine List.find?_eq_none.2 fun y hy => ?_
        rw [hno.out y (by rw [List.take_of_length_le (by rw [hn.out]; exact Nat.le_refl _)]; exact hy)]; simp
      replace hf := Lib.hid hf
      unfold Z19 at hRr
      replace hRr := Lib.hid hRr
      replace hbw := Lib.hid hbw
      go_wp2_with (first | (with_reducible refine wpList_store_row rfl 31 (.tmp 4) (.tmp 25) rfl w.heap.size _ rfl rfl 31 _ hRr.out (by kernel_rfl) (by kernel_rfl) (by kernel_rfl) ?_))
      refine bodyPost_ret (v := .tuple #[.agg Z19, .bool false]) (results_cell_slot (fn := Try.f16) (p := 4) (q := 5) (by kernel_rfl) _ _ w.heap.size 31 Z19 (0, 0) _ rfl _ rfl (setRow_heap _ _ _ _ _ _ hRr.out) Try.underlying31 rfl (by kernel_rfl)) rfl ⟨Z19.toList, by rw [hf.out]; rfl, ?_, below_setRow hbw.out (Nat.le_refl _) _⟩
      rw [hf.out]
      exact zeroW_at _ _
end Go.Proofs.Ytncmjkaclfcbmaa
