/- waits.Find. -/
import Derived.Test.YtncmjkaclfcbmaaKept
import Derived.Outline
set_option linter.unusedVariables false
namespace Go.Proofs.Ytncmjkaclfcbmaa
open Go.RowKit

def zeroV : VT := .mk 0 0 0 ByteArray.empty []
def zeroW : WT := { op := 0, run := 0, seen := 0, upto := 0, flow := ByteArray.empty, name := ByteArray.empty, asked := zeroV, value := zeroV, query := false, over := false, handed := 0 }
theorem zeroV_at (S : Nat → Prop) (w : World) : VAt S w zeroV [.int .i64 0, .int .i64 0, .int .u64 0, .string ByteArray.empty, .slice none 0 0] :=
  VAt_mk.2 ⟨none, 0, rfl, Sl.nil _ _ _ _ _, by simp, by decide, by simp⟩
theorem zeroW_at (S : Nat → Prop) (w : World) : WAt S w zeroW Z19.toList := ⟨_, _, rfl, zeroV_at S w, zeroV_at S w⟩
/-- the first of an operation -/
def findF (op : Int) (ws : List WT) : Option WT := ws.find? fun x => x.op == op
def FindP (w : World) (ws : List WT) (op : Int) (e : Ending) (w' : World) : Prop :=
  ∃ cs : List Value, e = .returned (.tuple #[.agg cs.toArray, .bool (findF op ws).isSome]) ∧ WAt (Fresh w w') w' ((findF op ws).getD zeroW) cs ∧ Below w.heap.size w w'
theorem results_cell_slot {P : Program} {fn : Func} {p q : Tmp} {ty : TypeId} (h : fn.results = #[.cell p ty, .tmp q]) (tmps : Array Value) (w : World) (g : Nat) (t : TypeId) (cs : Array Value) (fr : Nat × Nat) (d : TypeDesc)
    (hp : tmps.getD p undef = .pointer (some ⟨g, 0, none⟩)) (v : Value) (hq : tmps.getD q undef = v) (hg : w.heap[g]? = some (.cells cs t fr))
    (hu : P.underlying ty = some d) (hd : (match d with | .struct _ | .array _ _ => true | _ => false) = true) (hi : (P.info? ty).map (·.size) = some cs.size) :
    (results fn tmps).run P w = .ok (.tuple #[.agg cs, v]) w := by
  have hp' : tmps[p]?.getD undef = .pointer (some ⟨g, 0, none⟩) := by simpa using hp
  have hq' : tmps[q]?.getD undef = v := by simpa using hq
  simp [results, h, hp', hq', asAddr, run_loadVar_row w g t ty cs fr d hg hu hd hi]
theorem find_take {op : Int} {ws : List WT} {j : Nat} (h : ∀ x ∈ ws.take j, (x.op == op) = false) {x : WT} (hx : ws[j]? = some x) (hop : (x.op == op) = true) : findF op ws = some x := by
  have e : ws = ws.take j ++ x :: ws.drop (j + 1) := by
    obtain ⟨hj, rfl⟩ := List.getElem?_eq_some_iff.1 hx
    rw [← List.drop_eq_getElem_cons hj, List.take_append_drop]
  unfold findF
  rw [e, List.find?_append, List.find?_eq_none.2 (fun y hy => by rw [h y hy]; simp), List.find?_cons, hop]; rfl
set_option maxHeartbeats 800000 in
theorem find (a : Option Addr) (n cap : Nat) (ws : List WT) (op : Int) (w : World) (hs : Sl 19 (WAt (Live w) w) (Live w) w a ws) (hn : ws.length = n) (hc : n ≤ cap) (h9 : n ≤ 1000000) :
    Calls Try.prog 10 #[.slice a n cap, .int .i64 op] w (FindP w ws op) := by
  have hR0 := Lib.hid (heap_alloc_new w (.cells Z19 31))
  have hB0 := Lib.hid ((Below.refl w.heap.size w).alloc (Nat.le_refl _) (.cells Z19 31))
  unfold Z19 at hR0 hB0
  replace hs := Lib.hid hs
  replace hn := Lib.hid hn
  go_enter Try.func10, Try.ntmps10
  go_wp2_with fail
  have hsz : (w.alloc (.cells #[.int .i64 0, .int .i64 0, .int .i64 0, .int .i64 0, .string { data := #[] }, .string { data := #[] }, .int .i64 0, .int .i64 0, .int .u64 0, .string { data := #[] }, .slice none 0 0, .int .i64 0, .int .i64 0, .int .u64 0, .string { data := #[] }, .slice none 0 0, .bool false, .bool false, .int .i64 0] 31)).heap.size = w.heap.size + 1 := by simp
  generalize w.alloc (.cells #[.int .i64 0, .int .i64 0, .int .i64 0, .int .i64 0, .string { data := #[] }, .string { data := #[] }, .int .i64 0, .int .i64 0, .int .u64 0, .string { data := #[] }, .slice none 0 0, .int .i64 0, .int .i64 0, .int .u64 0, .string { data := #[] }, .slice none 0 0, .bool false, .bool false, .int .i64 0] 31) = W at *
  replace hsz := Lib.hid hsz
  go_loopw [10] (fun i wr => ∃ j : Nat, j ≤ n ∧ i = .int .i64 (j : Int) ∧ (∀ x ∈ ws.take j, (x.op == op) = false) ∧ Below (w.heap.size + 1) W wr) (fun i _ => n - (intOf i).toNat)
  case atStart => exact ⟨0, Nat.zero_le _, rfl, by simp, Below.refl _ _⟩
  case round =>
    obtain ⟨j, hj, rfl, hno, hbr⟩ := hrel
    have hbw : Below w.heap.size w wr := hB0.out.trans (hbr.mono (Nat.le_succ _))
    have hRr : wr.heap[w.heap.size]? = some (.cells Z19 31 (0, 0)) := by rw [hbr.block _ (by omega)]; exact hR0.out
    have hlt0 : w.heap.size + 1 ≤ wr.heap.size := by have := hbr.size; rw [hsz.out] at this; exact this
    replace hno := Lib.hid hno
    replace hbr := Lib.hid hbr
    by_cases hlt : j < n
    · obtain ⟨x, hx⟩ : ∃ x, ws[j]? = some x := ⟨_, List.getElem?_eq_getElem (by rw [hn.out]; exact hlt)⟩
      obtain ⟨g, off, cs, rfl, hg, hcl, hct, hcr⟩ := hs.out.get j x hx
      have hcr' : wr.rangeAt g (off + j * 19) cs := range_keep hcr (hbw.block _ hg)
      have hct' := hct.below hbw
      have hone := all_one hct.one
      have hz := Lib.hid (heap_alloc_new wr (.cells Z19 31))
      unfold Z19 at hz
      have hw2 := Lib.hid (heap_alloc_new wr (.cells cs.toArray 31))
      have hbW2 : Below wr.heap.size wr (wr.alloc (.cells cs.toArray 31)) := (Below.refl _ _).alloc (Nat.le_refl _) _
      have J := Lib.hid (own x cs _ (hct'.below hbW2))
      have hlo : cs.toArray.size = 19 := by simp [hcl]
      have q0 : (wr.alloc (.cells cs.toArray 31)).cell? ⟨wr.heap.size, 0, none⟩ = some (.int .i64 x.op) := by
        rw [cell_of_row _ _ _ _ _ _ hw2.out]; have := hct.cells.1; simpa using this
      replace hcr := Lib.hid hcr
      replace hct := Lib.hid hct
      replace hcr' := Lib.hid hcr'
      replace hct' := Lib.hid hct'
      replace hcl := Lib.hid hcl
      replace hone := Lib.hid hone
      replace hbW2 := Lib.hid hbW2
      replace hbw := Lib.hid hbw
      replace hRr := Lib.hid hRr
      cases hop : (x.op == op) with
      | false =>
        replace hx := Lib.hid hx
        go_wp2_with (first | (with_reducible refine wpList_load_mid rfl 31 (.tmp 12) rfl g (off + j * 19) rfl cs _ hcr'.out Try.underlying31 rfl (w_size hcl.out) ?_) | (with_reducible refine wpList_store_row rfl 31 (.tmp 7) (.tmp 13) rfl wr.heap.size cs.toArray rfl rfl 31 _ hz.out (w_size' hcl.out) (by simp [hcl.out]) hone.out ?_; rw [alloc_setRow]))
        go_roundw
        case rel =>
          refine ⟨j + 1, by omega, by go_num, fun y hy => ?_, hbr.out.trans (hbW2.out.mono hlt0)⟩
          rw [List.take_add_one, hx.out, Option.toList_some] at hy
          rcases List.mem_append.1 hy with hy | hy
          · exact hno.out y hy
          · rw [List.mem_singleton.1 hy]; exact hop
        case measure => simp [intOf]; omega
      | true =>
        have hf := Lib.hid (find_take hno.out hx hop)
        replace hx := Lib.hid hx
        go_wp2_with (first | (with_reducible refine wpList_load_mid rfl 31 (.tmp 12) rfl g (off + j * 19) rfl cs _ hcr'.out Try.underlying31 rfl (w_size hcl.out) ?_) | (with_reducible refine wpList_store_row rfl 31 (.tmp 7) (.tmp 13) rfl wr.heap.size cs.toArray rfl rfl 31 _ hz.out (w_size' hcl.out) (by simp [hcl.out]) hone.out ?_; rw [alloc_setRow]) | (with_reducible refine wpList_load_row rfl 31 (.tmp 7) rfl wr.heap.size rfl 31 cs.toArray (0, 0) _ hw2.out Try.underlying31 rfl (w_size' hcl.out) ?_))
        refine J.out.mono ?_
        rintro e w3 ⟨cs', rfl, hv3, hb3⟩
        have hR3 : w3.heap[w.heap.size]? = some (.cells Z19 31 (0, 0)) := by
          rw [hb3.block _ (by simp; omega), hbW2.out.block _ (by omega)]; exact hRr.out
        unfold Z19 at hR3
        have hcl3 := Lib.hid hv3.len
        have hone3 := Lib.hid (all_one hv3.one)
        have hb3' : Below w.heap.size w w3 := (hbw.out.trans (hbW2.out.mono (by omega))).trans (hb3.mono (by simp; omega))
        have hsz3 : wr.heap.size + 1 ≤ w3.heap.size := by have := hb3.size; simpa using this
        replace hR3 := Lib.hid hR3
        replace hv3 := Lib.hid hv3
        replace hb3' := Lib.hid hb3'
        clear hb3 J
        go_wp2_with (first | (with_reducible refine wpList_store_row rfl 31 (.tmp 4) (.tmp 19) rfl w.heap.size cs'.toArray rfl rfl 31 _ hR3.out (w_size' hcl3.out) (by simp [hcl3.out]) hone3.out ?_))
        have hk : ∀ q : Nat, q ≠ w.heap.size → (w3.setRow w.heap.size cs'.toArray).heap[q]? = w3.heap[q]? := fun q hq => setRow_other _ _ _ _ hq
        have hs3 : (w3.setRow w.heap.size cs'.toArray).heap.size = w3.heap.size := size_setRow _ _ _
        refine bodyPost_ret (v := .tuple #[.agg cs'.toArray, .bool true]) (results_cell_slot (fn := Try.f10) (p := 4) (q := 5) (by kernel_rfl) _ _ w.heap.size 31 cs'.toArray (0, 0) _ rfl _ rfl (setRow_heap _ _ _ _ _ _ hR3.out) Try.underlying31 rfl (w_size' hcl3.out)) rfl ⟨cs', by rw [hf.out]; rfl, ?_, below_setRow hb3'.out (Nat.le_refl _) _⟩
        rw [hf.out]
        exact hv3.out.change (fun q hq => ⟨by have := hq.1; simp at this; omega, by rw [hs3]; exact hq.2⟩) (fun q hq => hk q (by have := hq.1; simp at this; omega))
    · obtain rfl : j = n := by omega
      have hf : findF op ws = none := by
        unfold findF
        refine List.find?_eq_none.2 fun y hy => ?_
        rw [hno.out y (by rw [List.take_of_length_le (by rw [hn.out]; exact Nat.le_refl _)]; exact hy)]; simp
      replace hf := Lib.hid hf
      unfold Z19 at hRr
      replace hRr := Lib.hid hRr
      replace hbw := Lib.hid hbw
      go_wp2_with (first | (with_reducible refine wpList_store_row rfl 31 (.tmp 4) (.tmp 21) rfl w.heap.size _ rfl rfl 31 _ hRr.out (by kernel_rfl) (by kernel_rfl) (by kernel_rfl) ?_))
      refine bodyPost_ret (v := .tuple #[.agg Z19, .bool false]) (results_cell_slot (fn := Try.f10) (p := 4) (q := 5) (by kernel_rfl) _ _ w.heap.size 31 Z19 (0, 0) _ rfl _ rfl (setRow_heap _ _ _ _ _ _ hRr.out) Try.underlying31 rfl (by kernel_rfl)) rfl ⟨Z19.toList, by rw [hf.out]; rfl, ?_, below_setRow hbw.out (Nat.le_refl _) _⟩
      rw [hf.out]
      exact zeroW_at _ _
end Go.Proofs.Ytncmjkaclfcbmaa
