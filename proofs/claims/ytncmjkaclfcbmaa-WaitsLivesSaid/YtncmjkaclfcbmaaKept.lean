/- kept: a list without those that a call takes. -/
import Derived.Test.YtncmjkaclfcbmaaOwn
set_option linter.unusedVariables false
namespace Go.Proofs.Ytncmjkaclfcbmaa
open Go.RowKit

theorem w_info : ∃ i0 : TypeInfo, Try.prog.info? 31 = some i0 ∧ i0.zero = some (.agg Z19) ∧ i0.size = 19 ∧ i0.bytes = 208 := by
  obtain ⟨i0, hi, hz0, hz1, hz2⟩ := info_parts (show (Try.prog.info? 31).map (fun i => (i.zero, i.size, i.bytes)) = some (some (.agg Z19), 19, 208) by kernel_rfl)
  exact ⟨i0, hi, hz0, hz1, hz2⟩
theorem w_size {cs : List Value} (h : cs.length = 19) : (Try.prog.info? 31).map (·.size) = some cs.length := by
  obtain ⟨i0, hi, _, h1, _⟩ := w_info
  rw [hi, h]; simp [h1]
theorem w_size' {cs : List Value} (h : cs.length = 19) : (Try.prog.info? 31).map (·.size) = some cs.toArray.size := by
  rw [w_size h]; simp
theorem z19_size : Z19.size = 19 := rfl
/-- a list comes back -/
def ListP (w : World) (l : List WT) (e : Ending) (w' : World) : Prop := ∃ v, e = .returned v ∧ Out WAt 19 31 w.heap.size w' v l ∧ Below w.heap.size w w'
/-- a function that is entered -/
def Enters (f : FuncId) : Prop := ∀ (args : Array Value) (w : World), (callFunc f args).run Try.prog w = .ok (.enter f args) w
theorem enters {f : FuncId} {fn : Func} {c : Code} (hf : Try.prog.funcs[f]? = some fn) (hname : (fn.name == "runtime.NumGoroutine") = false) (hb : fn.body = some c) : Enters f := by
  intro args w
  have h1 : ¬ fn.name = "runtime.NumGoroutine" := by simpa using hname
  simp [callFunc, hf, h1, hb]
/-- what asks a wait -/
def Asks (w : World) (fw : Nat) (caps : Array Value) (p : WT → Bool) : Prop :=
  ∀ (w' : World) (x : WT) (cs : List Value), Below w.heap.size w w' → WAt (Live w') w' x cs → Calls Try.prog fw (#[.agg cs.toArray] ++ caps) w' fun e w'' => e = .returned (.bool (p x)) ∧ Below w'.heap.size w' w''
theorem WAt.below {w w' : World} {x : WT} {cs : List Value} (h : WAt (Live w) w x cs) (hb : Below w.heap.size w w') : WAt (Live w') w' x cs :=
  h.change (fun b hb' => Nat.lt_of_lt_of_le hb' hb.size) (fun b hb' => hb.block b hb')
set_option maxHeartbeats 800000 in
theorem kept (fw : Nat) (caps : Array Value) (p : WT → Bool) (w : World) (hent : Enters fw) (hp : Asks w fw caps p) (a : Option Addr) (n cap : Nat) (ws : List WT) (hs : Sl 19 (WAt (Live w) w) (Live w) w a ws) (hn : ws.length = n) (hc : n ≤ cap) (h9 : n ≤ 1000000) :
    Calls Try.prog 30 #[.slice a n cap, .func (.func fw) #[] caps] w (ListP w (ws.filter fun x => !p x)) := by
  obtain ⟨i0, hi, hz0, hz1, hz2⟩ := w_info
  replace hs := Lib.hid hs
  replace hn := Lib.hid hn
  replace hp := Lib.hid hp
  replace hent := Lib.hid hent
  replace hi := Lib.hid hi
  replace hz0 := Lib.hid hz0
  replace hz1 := Lib.hid hz1
  replace hz2 := Lib.hid hz2
  go_enter Try.func30, Try.ntmps30
  go_wp2_with fail
  go_loopw [5, 10] (fun v i wr => ∃ j : Nat, j ≤ n ∧ i = .int .i64 (j : Int) ∧ Out WAt 19 31 w.heap.size wr v ((ws.take j).filter fun x => !p x) ∧ Below w.heap.size w wr) (fun _ i _ => n - (intOf i).toNat)
  case atStart => exact ⟨0, Nat.zero_le _, rfl, Out.nil _ _ _ _ _, Below.refl _ _⟩
  case round =>
    obtain ⟨j, hj, rfl, ho, hbr⟩ := hrel
    by_cases hlt : j < n
    · obtain ⟨x, hx⟩ : ∃ x, ws[j]? = some x := ⟨_, List.getElem?_eq_getElem (by rw [hn.out]; exact hlt)⟩
      obtain ⟨g, off, cs, rfl, hg, hcl, hct, hcr⟩ := hs.out.get j x hx
      have hcr' : wr.rangeAt g (off + j * 19) cs := range_keep hcr (hbr.block _ hg)
      have hct' := hct.below hbr
      have hone := all_one hct.one
      have hstep : ((ws.take (j + 1)).filter fun x => !p x) = ((ws.take j).filter fun x => !p x) ++ (if p x then [] else [x]) := by
        rw [List.take_add_one, hx, Option.toList_some, List.filter_append]
        cases hpx : p x <;> simp [hpx]
      have hlen : ((ws.take j).filter fun x => !p x).length ≤ n := Nat.le_trans (List.length_filter_le _ _) (by rw [List.length_take]; omega)
      have hsz0 : w.heap.size ≤ wr.heap.size := hbr.size
      replace hcr := Lib.hid hcr
      replace hct := Lib.hid hct
      replace hx := Lib.hid hx
      replace ho := Lib.hid ho
      replace hbr := Lib.hid hbr
      replace hcr' := Lib.hid hcr'
      replace hct' := Lib.hid hct'
      replace hcl := Lib.hid hcl
      replace hone := Lib.hid hone
      have hz := Lib.hid (heap_alloc_new wr (.cells Z19 31))
      unfold Z19 at hz
      have hw2 := Lib.hid (heap_alloc_new wr (.cells cs.toArray 31))
      have hbW2 : Below wr.heap.size wr (wr.alloc (.cells cs.toArray 31)) := (Below.refl _ _).alloc (Nat.le_refl _) _
      have I := hp.out _ x cs (hbr.out.trans (hbW2.mono hsz0)) (hct'.out.below hbW2)
      have hE := fun w => hent.out (#[.agg cs.toArray] ++ caps) w
      have hlo : cs.toArray.size = 19 := by simp [hcl.out]
      cases hpx : p x with
      | true =>
        rw [hpx] at I hstep
        rw [if_pos rfl, List.append_nil] at hstep
        replace I := Lib.hid I
        replace hbW2 := Lib.hid hbW2
        replace hpx := Lib.hid hpx
        replace hstep := Lib.hid hstep
        go_wp2_with (first | (with_reducible refine wpList_load_mid rfl 31 (.tmp 12) rfl g (off + j * 19) rfl cs _ hcr'.out Try.underlying31 rfl (w_size hcl.out) ?_) | (with_reducible refine wpList_store_row rfl 31 (.tmp 7) (.tmp 13) rfl wr.heap.size cs.toArray rfl rfl 31 _ hz.out (w_size' hcl.out) (by simp [hcl.out]) hone.out ?_; rw [alloc_setRow]) | (with_reducible refine wpList_load_row rfl 31 (.tmp 7) rfl wr.heap.size rfl 31 cs.toArray (0, 0) _ hw2.out Try.underlying31 rfl (w_size' hcl.out) ?_))
        refine I.out.mono ?_
        rintro e w3 ⟨rfl, hb3⟩
        have hbE := Lib.hid (hbW2.out.trans (hb3.mono (by simp)))
        clear hb3
        go_wp2_with fail
        go_roundw
        case rel => exact ⟨j + 1, by omega, by go_num, by rw [hstep.out]; exact ho.out.below carried_w hbE.out, hbr.out.trans (hbE.out.mono hsz0)⟩
        case measure => simp [intOf]; omega
      | false =>
        rw [hpx] at I hstep
        rw [if_neg (by simp)] at hstep
        replace I := Lib.hid I
        replace hpx := Lib.hid hpx
        replace hstep := Lib.hid hstep
        replace hbW2 := Lib.hid hbW2
        go_wp2_with (first | (with_reducible refine wpList_load_mid rfl 31 (.tmp 12) rfl g (off + j * 19) rfl cs _ hcr'.out Try.underlying31 rfl (w_size hcl.out) ?_) | (with_reducible refine wpList_store_row rfl 31 (.tmp 7) (.tmp 13) rfl wr.heap.size cs.toArray rfl rfl 31 _ hz.out (w_size' hcl.out) (by simp [hcl.out]) hone.out ?_; rw [alloc_setRow]) | (with_reducible refine wpList_load_row rfl 31 (.tmp 7) rfl wr.heap.size rfl 31 cs.toArray (0, 0) _ hw2.out Try.underlying31 rfl (w_size' hcl.out) ?_))
        refine I.out.mono ?_
        rintro e w3 ⟨rfl, hb3⟩
        have hw3 : w3.heap[wr.heap.size]? = some (.cells cs.toArray 31 (0, 0)) := by rw [hb3.block _ (by simp)]; exact hw2.out
        have hbE := hbW2.out.trans (hb3.mono (by simp))
        have J := Lib.hid (own x cs w3 (hct'.out.below hbE))
        have hszE : wr.heap.size ≤ w3.heap.size := hbE.size
        have hoE := ho.out.below carried_w hbE
        have hbrE := hbr.out.trans (hbE.mono hsz0)
        replace hw3 := Lib.hid hw3
        replace hbE := Lib.hid hbE
        replace hoE := Lib.hid hoE
        replace hbrE := Lib.hid hbrE
        clear hb3
        go_wp2_with (first | (with_reducible refine wpList_load_row rfl 31 (.tmp 7) rfl wr.heap.size rfl 31 cs.toArray (0, 0) _ hw3.out Try.underlying31 rfl (w_size' hcl.out) ?_))
        refine J.out.mono ?_
        rintro e w4 ⟨cs', rfl, hv4, hb4⟩
        have hcl4 := Lib.hid hv4.len
        have hfold : List.foldl (fun cs x => cs.setIfInBounds x.snd x.fst) Z19 cs'.zipIdx = cs'.toArray := foldl_cells hcl4.out
        unfold Z19 at hfold
        have hlo4 : cs'.length = 19 := hcl4.out
        have hW5 : Below w4.heap.size w4 (w4.alloc (.cells cs'.toArray 31)) := (Below.refl _ _).alloc (Nat.le_refl _) _
        have ho5 := (hoE.out.below carried_w hb4).below carried_w hW5
        have hv5 : WAt (fun b => w3.heap.size ≤ b ∧ b < w4.heap.size) (w4.alloc (.cells cs'.toArray 31)) x cs' := hv4.change (fun b hb => hb) (fun b hb => hW5.block b hb.2)
        have hown : ∀ k, u5.ownBlock = some k → k < w3.heap.size := by obtain ⟨xs, o1, _⟩ := hoE.out; exact fun k hk => (own_from o1 k hk).2
        have hr5 := range_new w4 cs' 31
        have h15 := hv5.one
        have hsz4 : w3.heap.size ≤ w4.heap.size := hb4.size
        have hb5 : Below w.heap.size w (w4.alloc (.cells cs'.toArray 31)) := hbrE.out.trans ((hb4.trans (hW5.mono hb4.size)).mono (by omega))
        replace hv4 := Lib.hid hv4
        replace hb4 := Lib.hid hb4
        replace hW5 := Lib.hid hW5
        replace ho5 := Lib.hid ho5
        replace hv5 := Lib.hid hv5
        replace hr5 := Lib.hid hr5
        replace h15 := Lib.hid h15
        replace hown := Lib.hid hown
        replace hb5 := Lib.hid hb5
        go_wp2_with (at_builtin; refine wpList_push carried_w rfl (.tmp 18) (.tmp 21) 22 rfl w.heap.size 31 i0 _ 19 208 Try.underlying22 hi.out hz0.out hz1.out hz2.out rfl (by decide) u5 _ rfl ho5.out w4.heap.size 1 x cs' _ rfl hcl4.out hv5.out ?c1 hr5.out h15.out ?c2 ?c3 ?c4 ?_)
        case c1 => intro b hb; exact ⟨by omega, by simp; omega, fun e => by have := hown.out b e; omega⟩
        case c2 => unfold maxLen; omega
        case c3 => omega
        case c4 => simp; omega
        intro v' w6 ho6 _ hb6
        rw [← hstep.out] at ho6
        replace ho6 := Lib.hid ho6
        replace hb6 := Lib.hid hb6
        clear hfold hlo4
        go_wp2_with fail
        go_roundw
        case rel => exact ⟨j + 1, by omega, by go_num, ho6.out, hb5.out.trans hb6.out⟩
        case measure => simp [intOf]; omega
    · obtain rfl : j = n := by omega
      have hlj : ws.take j = ws := List.take_of_length_le (by rw [hn.out]; exact Nat.le_refl _)
      rw [hlj] at ho
      replace ho := Lib.hid ho
      replace hbr := Lib.hid hbr
      clear hlj
      go_wp2_with fail
      go_ret
      exact ⟨_, rfl, ho.out, hbr.out⟩
end Go.Proofs.Ytncmjkaclfcbmaa
