/- turned: a list with those that a call takes turned by another one. -/
import Derived.Test.YtncmjkaclfcbmaaKept
set_option linter.unusedVariables false
namespace Go.Proofs.Ytncmjkaclfcbmaa
open Go.RowKit

def TurnP (w : World) (b : Nat) (y : WT) (e : Ending) (w' : World) : Prop :=
  e = .returned (.tuple #[]) ∧ ∃ cs' : List Value, w'.heap[b]? = some (.cells cs'.toArray 31 (0, 0)) ∧ WAt (fun q => b < q ∧ q < w'.heap.size) w' y cs' ∧ w.grownBy w' (some b)
/-- what turns a wait in its box b -/
def Turns (w : World) (fh : Nat) (caps : Array Value) (p : WT → Bool) (g : WT → WT) : Prop :=
  ∀ (w' : World) (x : WT) (cs : List Value) (b : Nat), Below w.heap.size w w' → w.heap.size ≤ b → p x = true → w'.heap[b]? = some (.cells cs.toArray 31 (0, 0)) → WAt (fun q => b < q ∧ q < w'.heap.size) w' x cs →
    Calls Try.prog fh (#[.pointer (some ⟨b, 0, none⟩)] ++ caps) w' (TurnP w' b (g x))
theorem below_but {B b : Nat} {a w w' : World} (h : Below B a w) (hg : w.grownBy w' (some b)) (hB : B ≤ w.heap.size) (hb : B ≤ b) : Below B a w' := h.grown hg hB (fun k hk => by cases hk; exact hb)
set_option maxHeartbeats 1600000 in
theorem turned (fw : Nat) (cw : Array Value) (p : WT → Bool) (fh : Nat) (ch : Array Value) (f : WT → WT) (w : World) (hew : Enters fw) (hp : Asks w fw cw p) (heh : Enters fh) (hf : Turns w fh ch p f) (a : Option Addr) (n cap : Nat) (ws : List WT) (hs : Sl 19 (WAt (Live w) w) (Live w) w a ws) (hn : ws.length = n) (hc : n ≤ cap) (h9 : n ≤ 1000000) :
    Calls Try.prog 25 #[.slice a n cap, .func (.func fw) #[] cw, .func (.func fh) #[] ch] w (ListP w (ws.map fun x => if p x then f x else x)) := by
  obtain ⟨i0, hi, hz0, hz1, hz2⟩ := w_info
  replace hs := Lib.hid hs
  replace hn := Lib.hid hn
  replace hp := Lib.hid hp
  replace hf := Lib.hid hf
  replace hew := Lib.hid hew
  replace heh := Lib.hid heh
  replace hi := Lib.hid hi
  replace hz0 := Lib.hid hz0
  replace hz1 := Lib.hid hz1
  replace hz2 := Lib.hid hz2
  go_enter Try.func25, Try.ntmps25
  go_wp2_with fail
  go_loopw [7, 12] (fun v i wr => ∃ j : Nat, j ≤ n ∧ i = .int .i64 (j : Int) ∧ Out WAt 19 31 w.heap.size wr v ((ws.map fun x => if p x then f x else x).take j) ∧ Below w.heap.size w wr) (fun _ i _ => n - (intOf i).toNat)
  case atStart => exact ⟨0, Nat.zero_le _, rfl, Out.nil _ _ _ _ _, Below.refl _ _⟩
  case round =>
    obtain ⟨j, hj, rfl, ho, hbr⟩ := hrel
    by_cases hlt : j < n
    · obtain ⟨x, hx⟩ : ∃ x, ws[j]? = some x := ⟨_, List.getElem?_eq_getElem (by rw [hn.out]; exact hlt)⟩
      obtain ⟨g, off, cs, rfl, hg, hcl, hct, hcr⟩ := hs.out.get j x hx
      have hcr' : wr.rangeAt g (off + j * 19) cs := range_keep hcr (hbr.block _ hg)
      have hct' := hct.below hbr
      have hone := all_one hct.one
      have hstep : ((ws.map fun x => if p x then f x else x).take (j + 1)) = ((ws.map fun x => if p x then f x else x).take j) ++ [if p x then f x else x] := by
        rw [List.take_add_one, List.getElem?_map, hx]; rfl
      have hlen : ((ws.map fun x => if p x then f x else x).take j).length = j := by rw [List.length_take, List.length_map, hn.out]; omega
      have hsz0 : w.heap.size ≤ wr.heap.size := hbr.size
      have hz := Lib.hid (heap_alloc_new wr (.cells Z19 31))
      unfold Z19 at hz
      have hw2 := Lib.hid (heap_alloc_new wr (.cells cs.toArray 31))
      have hbW2 : Below wr.heap.size wr (wr.alloc (.cells cs.toArray 31)) := (Below.refl _ _).alloc (Nat.le_refl _) _
      have J := Lib.hid (own x cs _ (hct'.below hbW2))
      replace hcr := Lib.hid hcr
      replace hct := Lib.hid hct
      replace hx := Lib.hid hx
      replace ho := Lib.hid ho
      replace hbr := Lib.hid hbr
      replace hcr' := Lib.hid hcr'
      replace hct' := Lib.hid hct'
      replace hcl := Lib.hid hcl
      replace hone := Lib.hid hone
      replace hlen := Lib.hid hlen
      replace hbW2 := Lib.hid hbW2
      replace hstep := Lib.hid hstep
      have hlo : cs.toArray.size = 19 := by simp [hcl.out]
      go_wp2_with (first | (with_reducible refine wpList_load_mid rfl 31 (.tmp 14) rfl g (off + j * 19) rfl cs _ hcr'.out Try.underlying31 rfl (w_size hcl.out) ?_) | (with_reducible refine wpList_store_row rfl 31 (.tmp 9) (.tmp 15) rfl wr.heap.size cs.toArray rfl rfl 31 _ hz.out (w_size' hcl.out) (by simp [hcl.out]) hone.out ?_; rw [alloc_setRow]) | (with_reducible refine wpList_load_row rfl 31 (.tmp 9) rfl wr.heap.size rfl 31 cs.toArray (0, 0) _ hw2.out Try.underlying31 rfl (w_size' hcl.out) ?_))
      refine J.out.mono ?_
      rintro e w3 ⟨cs', rfl, hv3, hb3⟩
      -- the box holds the wait's own copy
      have hcl3 := Lib.hid hv3.len
      have hone3 := Lib.hid (all_one hv3.one)
      have hlo3 : cs'.toArray.size = 19 := by simp [hcl3.out]
      have hw3 : w3.heap[wr.heap.size]? = some (.cells cs.toArray 31 (0, 0)) := by rw [hb3.block _ (by simp)]; exact hw2.out
      have hw4 : (w3.setRow wr.heap.size cs'.toArray).heap[wr.heap.size]? = some (.cells cs'.toArray 31 (0, 0)) := setRow_heap w3 wr.heap.size _ _ 31 (0, 0) hw3
      have hbE : Below wr.heap.size wr w3 := hbW2.out.trans (hb3.mono (by simp))
      have hb4 : Below wr.heap.size wr (w3.setRow wr.heap.size cs'.toArray) := below_setRow hbE (Nat.le_refl _) _
      have hsz3 : wr.heap.size < w3.heap.size := by have := hb3.size; simp at this; omega
      have hv4 : WAt (fun q => wr.heap.size < q ∧ q < w3.heap.size) (w3.setRow wr.heap.size cs'.toArray) x cs' := hv3.change (fun q hq => ⟨by have := hq.1; simp at this; omega, hq.2⟩) (fun q hq => setRow_other _ _ _ _ (by have := hq.1; simp at this; omega))
      have hsz4 : (w3.setRow wr.heap.size cs'.toArray).heap.size = w3.heap.size := size_setRow _ _ _
      have I := hp.out _ x cs' (hbr.out.trans (hb4.mono hsz0)) (hv4.change (fun q hq => by show q < _; rw [hsz4]; exact hq.2) (fun _ _ => rfl))
      have hE := fun w => hew.out (#[.agg cs'.toArray] ++ cw) w
      replace hw3 := Lib.hid hw3
      clear J hv3 hb3 hbE
      replace hb4 := Lib.hid hb4
      replace hv4 := Lib.hid hv4
      replace hw4 := Lib.hid hw4
      replace hsz4 := Lib.hid hsz4
      have hT : ∀ (w7 : World) (y : WT) (cs7 : List Value), w7.heap[wr.heap.size]? = some (.cells cs7.toArray 31 (0, 0)) → WAt (fun q => wr.heap.size < q ∧ q < w7.heap.size) w7 y cs7 → Below wr.heap.size wr w7 → y = (if p x then f x else x) →
          True ∧ (∀ v' w9, Out WAt 19 31 w.heap.size w9 v' (((ws.map fun x => if p x then f x else x).take j) ++ [y]) → Below w.heap.size (w7.alloc (.cells cs7.toArray 31)) w9 → Out WAt 19 31 w.heap.size w9 v' ((ws.map fun x => if p x then f x else x).take (j + 1)) ∧ Below w.heap.size w w9) ∧
            Out WAt 19 31 w.heap.size (w7.alloc (.cells cs7.toArray 31)) u7 ((ws.map fun x => if p x then f x else x).take j) ∧ WAt (fun q => wr.heap.size < q ∧ q < w7.heap.size) (w7.alloc (.cells cs7.toArray 31)) y cs7 ∧ (w7.alloc (.cells cs7.toArray 31)).rangeAt w7.heap.size 0 cs7 ∧ cs7.length = 19 ∧ (∀ u ∈ cs7, u.oneCell' = true) ∧
            (∀ q, (wr.heap.size < q ∧ q < w7.heap.size) → w.heap.size ≤ q ∧ q < (w7.alloc (.cells cs7.toArray 31)).heap.size ∧ u7.ownBlock ≠ some q) ∧ wr.heap.size ≤ w7.heap.size := by
        intro w7 y cs7 h7 hv7 hb7 hy
        have hW8 : Below w7.heap.size w7 (w7.alloc (.cells cs7.toArray 31)) := (Below.refl _ _).alloc (Nat.le_refl _) _
        have h8 := hb7.trans (hW8.mono hb7.size)
        refine ⟨trivial, fun v' w9 h1 h2 => ⟨by rw [hstep.out, ← hy]; exact h1, (hbr.out.trans (h8.mono hsz0)).trans h2⟩, ho.out.below carried_w h8, hv7.change (fun q hq => hq) (fun q hq => hW8.block q hq.2), range_new _ _ _, hv7.len, hv7.one, fun q hq => ⟨by omega, by simp; omega, fun e => ?_⟩, hb7.size⟩
        obtain ⟨xs, o1, _⟩ := ho.out
        have := (own_from o1 q e).2
        omega
      replace hT := Lib.hid hT
      cases hpx : p x with
      | false =>
        rw [hpx] at I
        replace hpx := Lib.hid hpx
        replace I := Lib.hid I
        go_wp2_with (first | (with_reducible refine wpList_store_row rfl 31 (.tmp 9) (.tmp 17) rfl wr.heap.size cs'.toArray rfl rfl 31 _ hw3.out (w_size' hcl3.out) (by simp [hcl.out, hcl3.out]) hone3.out ?_) | (with_reducible refine wpList_load_row rfl 31 (.tmp 9) rfl wr.heap.size rfl 31 cs'.toArray (0, 0) _ hw4.out Try.underlying31 rfl (w_size' hcl3.out) ?_))
        refine I.out.mono ?_
        rintro e w7 ⟨rfl, hb7⟩
        have hw7 : w7.heap[wr.heap.size]? = some (.cells cs'.toArray 31 (0, 0)) := by rw [hb7.block _ (by rw [hsz4.out]; exact hsz3)]; exact hw4.out
        obtain ⟨_, t1, t2, t3, t4, t5, t6, t7, t8⟩ := hT.out w7 x cs' hw7 (hv4.out.change (fun q hq => ⟨hq.1, by have := hb7.size; rw [hsz4.out] at this; omega⟩) (fun q hq => hb7.block q (by rw [hsz4.out]; exact hq.2))) (hb4.out.trans (hb7.mono hb4.out.size)) (by rw [hpx.out]; rfl)
        have hfold : List.foldl (fun cs x => cs.setIfInBounds x.snd x.fst) Z19 cs'.zipIdx = cs'.toArray := foldl_cells hcl3.out
        unfold Z19 at hfold
        have hlo4 : cs'.length = 19 := hcl3.out
        replace hw7 := Lib.hid hw7
        replace t1 := Lib.hid t1
        replace t2 := Lib.hid t2
        replace t3 := Lib.hid t3
        replace t4 := Lib.hid t4
        replace t5 := Lib.hid t5
        replace t6 := Lib.hid t6
        replace t7 := Lib.hid t7
        clear hb7 I hT
        go_wp2_with (first | (with_reducible refine wpList_load_row rfl 31 (.tmp 9) rfl wr.heap.size rfl 31 cs'.toArray (0, 0) _ hw7.out Try.underlying31 rfl (w_size' hcl3.out) ?_) | (at_builtin; refine wpList_push carried_w rfl (.tmp 23) (.tmp 25) 22 rfl w.heap.size 31 i0 _ 19 208 Try.underlying22 hi.out hz0.out hz1.out hz2.out rfl (by decide) u7 _ rfl t2.out w7.heap.size 1 x cs' _ rfl t5.out t3.out t7.out t4.out t6.out ?c2 ?c3 ?c4 ?_))
        case c2 => rw [hlen.out]; unfold maxLen; omega
        case c3 => rw [hlen.out]; omega
        case c4 => simp; omega
        intro v' w9 ho9 _ hb9
        obtain ⟨k1, k2⟩ := t1.out v' w9 ho9 hb9
        replace k1 := Lib.hid k1
        replace k2 := Lib.hid k2
        clear hfold hlo4 ho9 hb9
        go_wp2_with fail
        go_roundw
        case rel => exact ⟨j + 1, by omega, by go_num, k1.out, k2.out⟩
        case measure => simp [intOf]; omega
      | true =>
        rw [hpx] at I
        have hE2 := fun w => heh.out (#[.pointer (some ⟨wr.heap.size, 0, none⟩)] ++ ch) w
        have F := fun w7 cs7 h1 h2 h3 => hf.out w7 x cs7 wr.heap.size h1 hsz0 hpx h2 h3
        replace hpx := Lib.hid hpx
        replace I := Lib.hid I
        replace F := Lib.hid F
        go_wp2_with (first | (with_reducible refine wpList_store_row rfl 31 (.tmp 9) (.tmp 17) rfl wr.heap.size cs'.toArray rfl rfl 31 _ hw3.out (w_size' hcl3.out) (by simp [hcl.out, hcl3.out]) hone3.out ?_) | (with_reducible refine wpList_load_row rfl 31 (.tmp 9) rfl wr.heap.size rfl 31 cs'.toArray (0, 0) _ hw4.out Try.underlying31 rfl (w_size' hcl3.out) ?_))
        refine I.out.mono ?_
        rintro e w6 ⟨rfl, hb6⟩
        have hw6 : w6.heap[wr.heap.size]? = some (.cells cs'.toArray 31 (0, 0)) := by rw [hb6.block _ (by rw [hsz4.out]; exact hsz3)]; exact hw4.out
        have hb6w : Below wr.heap.size wr w6 := hb4.out.trans (hb6.mono hb4.out.size)
        have F2 := F.out w6 cs' (hbr.out.trans (hb6w.mono hsz0)) hw6 (hv4.out.change (fun q hq => ⟨hq.1, by have := hb6.size; rw [hsz4.out] at this; omega⟩) (fun q hq => hb6.block q (by rw [hsz4.out]; exact hq.2)))
        replace hw6 := Lib.hid hw6
        replace hb6w := Lib.hid hb6w
        replace F2 := Lib.hid F2
        clear hb6 I F
        go_wp2_with fail
        refine F2.out.mono ?_
        rintro e w7 ⟨rfl, cs7, hw7, hv7, hg7⟩
        obtain ⟨_, t1, t2, t3, t4, t5, t6, t7, t8⟩ := hT.out w7 (f x) cs7 hw7 hv7 (below_but hb6w.out hg7 hb6w.out.size (Nat.le_refl _)) (by rw [hpx.out]; rfl)
        have hfold : List.foldl (fun cs x => cs.setIfInBounds x.snd x.fst) Z19 cs7.zipIdx = cs7.toArray := foldl_cells t5
        unfold Z19 at hfold
        have hlo4 : cs7.length = 19 := t5
        replace hw7 := Lib.hid hw7
        replace t1 := Lib.hid t1
        replace t2 := Lib.hid t2
        replace t3 := Lib.hid t3
        replace t4 := Lib.hid t4
        replace t5 := Lib.hid t5
        replace t6 := Lib.hid t6
        replace t7 := Lib.hid t7
        clear hv7 hg7 F2 hT
        go_wp2_with (first | (with_reducible refine wpList_load_row rfl 31 (.tmp 9) rfl wr.heap.size rfl 31 cs7.toArray (0, 0) _ hw7.out Try.underlying31 rfl (w_size' t5.out) ?_) | (at_builtin; refine wpList_push carried_w rfl (.tmp 23) (.tmp 25) 22 rfl w.heap.size 31 i0 _ 19 208 Try.underlying22 hi.out hz0.out hz1.out hz2.out rfl (by decide) u7 _ rfl t2.out w7.heap.size 1 (f x) cs7 _ rfl t5.out t3.out t7.out t4.out t6.out ?d2 ?d3 ?d4 ?_))
        case d2 => rw [hlen.out]; unfold maxLen; omega
        case d3 => rw [hlen.out]; omega
        case d4 => simp; omega
        intro v' w9 ho9 _ hb9
        obtain ⟨k1, k2⟩ := t1.out v' w9 ho9 hb9
        replace k1 := Lib.hid k1
        replace k2 := Lib.hid k2
        clear hfold hlo4 ho9 hb9
        go_wp2_with fail
        go_roundw
        case rel => exact ⟨j + 1, by omega, by go_num, k1.out, k2.out⟩
        case measure => simp [intOf]; omega
    · obtain rfl : j = n := by omega
      have hlj : (ws.map fun x => if p x then f x else x).take j = (ws.map fun x => if p x then f x else x) := List.take_of_length_le (by rw [List.length_map, hn.out]; exact Nat.le_refl _)
      rw [hlj] at ho
      replace ho := Lib.hid ho
      replace hbr := Lib.hid hbr
      clear hlj
      go_wp2_with fail
      go_ret
      exact ⟨_, rfl, ho.out, hbr.out⟩
end Go.Proofs.Ytncmjkaclfcbmaa
