/- waits.asks: the asks of those waits that a call takes, one behind the other; the call may remember what it was asked. -/
import Derived.Test.YtncmjkaclfcbmaaRefuse
import Derived.Test.YtncmjkaclfcbmaaAwake
import Derived.Deep.RegionHeld3
import Derived.Deep.DrawnRows
set_option linter.unusedVariables false
set_option linter.unusedSimpArgs false
namespace Go.Proofs.Ytncmjkaclfcbmaa
open Go.RowKit

def askOf (x : WT) : KT := { op := x.op, name := x.name, value := x.asked }
def askG (p : List WT → WT → Bool) : List WT → List WT → List KT
  | _, [] => []
  | pre, x :: r => (if p pre x then [askOf x] else []) ++ askG p (pre ++ [x]) r
theorem askG_snoc (p : List WT → WT → Bool) (x : WT) : ∀ (l pre : List WT), askG p pre (l ++ [x]) = askG p pre l ++ (if p (pre ++ l) x then [askOf x] else [])
  | [], pre => by simp [askG]
  | y :: l, pre => by
    simp only [List.cons_append, askG]
    rw [askG_snoc p x l (pre ++ [y])]
    simp
theorem askG_len (p : List WT → WT → Bool) : ∀ (l pre : List WT), (askG p pre l).length ≤ l.length
  | [], pre => by simp [askG]
  | y :: l, pre => by
    have := askG_len p l (pre ++ [y])
    simp only [askG, List.length_append, List.length_cons]
    split <;> simp <;> omega
theorem Out.keep {α : Type} {P : (Nat → Prop) → World → α → List Value → Prop} {n : Nat} {e : TypeId} {B : Nat} {w w' : World} {v : Value} {l : List α} (hP : Carried P) (h : Out P n e B w v l) (hsz : w.heap.size ≤ w'.heap.size) (hk : ∀ b, B ≤ b → b < w.heap.size → w'.heap[b]? = w.heap[b]?) : Out P n e B w' v l := by
  obtain ⟨xs, ⟨o1, o2⟩, h2⟩ := h
  refine ⟨xs, ⟨o1, ?_⟩, Els.mono (fun t cs h => hP _ _ _ _ t cs (fun b hb' => ⟨hb'.1, Nat.lt_of_lt_of_le hb'.2.1 hsz, hb'.2.2⟩) (fun b hb' => hk b hb'.1 hb'.2.1) h) h2⟩
  rcases o2 with o2 | ⟨g, cap, cur, hv, hg, hh, r⟩
  · exact .inl o2
  · exact .inr ⟨g, cap, cur, hv, hg, by rw [hk g hg (Array.getElem?_eq_some_iff.1 hh).1]; exact hh, r⟩
theorem k_info : ∃ i0 : TypeInfo, Try.prog.info? 67 = some i0 ∧ i0.zero = some (.agg #[.int .i64 0, .string ByteArray.empty, .int .i64 0, .int .i64 0, .int .u64 0, .string ByteArray.empty, .slice none 0 0]) ∧ i0.size = 7 ∧ i0.bytes = 88 := by
  obtain ⟨i0, hi, hz0, hz1, hz2⟩ := info_parts (show (Try.prog.info? 67).map (fun i => (i.zero, i.size, i.bytes)) = some (some (.agg #[.int .i64 0, .string ByteArray.empty, .int .i64 0, .int .i64 0, .int .u64 0, .string ByteArray.empty, .slice none 0 0]), 7, 88) by kernel_rfl)
  exact ⟨i0, hi, hz0, hz1, hz2⟩
theorem WAt.ask {S : Nat → Prop} {w : World} {x : WT} {cs : List Value} (h : WAt S w x cs) : ∃ A, VAt S w x.asked A ∧ A.length = 5 ∧ ∀ j u, A[j]? = some u → cs[6 + j]? = some u := by
  obtain ⟨A, B, rfl, hA, hB⟩ := h
  refine ⟨A, hA, hA.len, fun j u hu => ?_⟩
  have hj : j < A.length := (List.getElem?_eq_some_iff.1 hu).1
  rw [List.getElem?_append_right (by simp), List.getElem?_append_left (by simp; omega)]
  simpa using hu
def AskListP (w : World) (row : Option Nat) (l : List KT) (e : Ending) (w' : World) : Prop := ∃ v, e = .returned v ∧ Out KAt 7 67 w.heap.size w' v l ∧ w.grownBy w' row
def AskS (B : Nat) (w3 : World) (b : Nat) (cs : List Value) (w' : World) : Prop := w'.rangeAt b 0 cs ∧ b < w'.heap.size ∧ Below B w3 w'
theorem AskS.below {B : Nat} {w3 : World} {b : Nat} {cs : List Value} {w' w'' : World} (h : AskS B w3 b cs w') (hB : B ≤ w'.heap.size) (hb : Below w'.heap.size w' w'') : AskS B w3 b cs w'' :=
  ⟨range_keep h.1 (hb.block _ h.2.1), Nat.lt_of_lt_of_le h.2.1 hb.size, h.2.2.trans (hb.mono hB)⟩
theorem AskS.cell {B : Nat} {w3 : World} {b : Nat} {cs : List Value} {w' : World} (h : AskS B w3 b cs w') (i : Nat) (u : Value) (hu : cs[i]? = some u) : w'.cell? ⟨b, i, none⟩ = some u := by
  have := h.1 i u hu; simpa using this
attribute [local go_sem ↓] Go.wp_at_zero Go.wp_at_succ
set_option maxHeartbeats 6400000 in
theorem asksC (fw : Nat) (caps : Array Value) (p : List WT → WT → Bool) (St : List WT → World → Prop) (B : Nat) (row : Option Nat) (w : World) (hB : B ≤ w.heap.size) (hrow : ∀ k, row = some k → B ≤ k ∧ k < w.heap.size) (hent : Enters fw) (hSt : St [] w)
    (hkeep : ∀ pre w' w'', St pre w' → w.heap.size ≤ w'.heap.size → (∀ b, b < w.heap.size → w''.heap[b]? = w'.heap[b]?) → St pre w'')
    (hp : ∀ (pre : List WT) (w' : World) (x : WT) (cs : List Value), w.grownBy w' row → St pre w' → WAt (fun b => b < B) w' x cs → Calls Try.prog fw (#[.agg cs.toArray] ++ caps) w' fun e w'' => e = .returned (.bool (p pre x)) ∧ St (pre ++ [x]) w'' ∧ w'.grownBy w'' row)
    (a : Option Addr) (n cap : Nat) (ws : List WT) (hs : Sl 19 (WAt (fun b => b < B) w) (fun b => b < B) w a ws) (hn : ws.length = n) (hc : n ≤ cap) (h9 : n ≤ 1000000) :
    Calls Try.prog 40 #[.slice a n cap, .func (.func fw) #[] caps] w (AskListP w row (askG p [] ws)) := by
  obtain ⟨i0, hi, hz0, hz1, hz2⟩ := k_info
  have hne : ∀ b, b < B → some b ≠ row := fun b hb e => by have := (hrow b e.symm).1; omega
  have hne2 : ∀ b, w.heap.size ≤ b → some b ≠ row := fun b hb e => by have := (hrow b e.symm).2; omega
  replace hs := Lib.hid hs
  replace hn := Lib.hid hn
  replace hp := Lib.hid hp
  replace hent := Lib.hid hent
  replace hi := Lib.hid hi
  replace hz0 := Lib.hid hz0
  replace hz1 := Lib.hid hz1
  replace hz2 := Lib.hid hz2
  replace hne := Lib.hid hne
  replace hne2 := Lib.hid hne2
  replace hkeep := Lib.hid hkeep
  replace hrow := Lib.hid hrow
  replace hSt := Lib.hid hSt
  go_enter Try.func40, Try.ntmps40
  go_wp2_with fail
  go_loopw [5, 10] (fun v i wr => ∃ j : Nat, j ≤ n ∧ i = .int .i64 (j : Int) ∧ Out KAt 7 67 w.heap.size wr v (askG p [] (ws.take j)) ∧ St (ws.take j) wr ∧ w.grownBy wr row) (fun _ i _ => n - (intOf i).toNat)
  case atStart => exact ⟨0, Nat.zero_le _, rfl, Out.nil _ _ _ _ _, hSt.out, World.grownBy.refl _ _⟩
  case round =>
    obtain ⟨j, hj, rfl, ho, hst, hgr⟩ := hrel
    by_cases hlt : j < n
    · obtain ⟨x, hx⟩ : ∃ x, ws[j]? = some x := ⟨_, List.getElem?_eq_getElem (by rw [hn.out]; exact hlt)⟩
      obtain ⟨g, off, cs, rfl, hg, hcl, hct, hcr⟩ := hs.out.get j x hx
      have hsz0 : w.heap.size ≤ wr.heap.size := hgr.size
      have hcr' : wr.rangeAt g (off + j * 19) cs := range_keep hcr (hgr.block _ (by omega) (hne.out g hg))
      have hone := all_one hct.one
      have htk : ws.take (j + 1) = ws.take j ++ [x] := by rw [List.take_add_one, hx, Option.toList_some]
      have hstep := askG_snoc p x (ws.take j) []
      rw [← htk, List.nil_append] at hstep
      have hlen : (askG p [] (ws.take j)).length ≤ n := Nat.le_trans (askG_len p _ _) (by rw [List.length_take]; omega)
      have hz := Lib.hid (heap_alloc_new wr (.cells Z19 31))
      unfold Z19 at hz
      have hw2 := Lib.hid (heap_alloc_new wr (.cells cs.toArray 31))
      have hA1 : Below wr.heap.size wr (wr.alloc (.cells cs.toArray 31)) := (Below.refl _ _).alloc (Nat.le_refl _) _
      have hgr1 : w.grownBy (wr.alloc (.cells cs.toArray 31)) row := World.grownBy.trans hgr (World.grownBy_alloc _ _ _)
      have hst1 := hkeep.out (ws.take j) wr (wr.alloc (.cells cs.toArray 31)) hst hsz0 (fun b hb => hA1.block b (by omega))
      have hct1 : WAt (fun b => b < B) (wr.alloc (.cells cs.toArray 31)) x cs := hct.change (fun _ h => h) (fun b hb => (hA1.block b (by omega)).trans (hgr.block b (by omega) (hne.out b hb)))
      have I := hp.out (ws.take j) _ x cs hgr1 hst1 hct1
      have hE := fun w => hent.out (#[.agg cs.toArray] ++ caps) w
      have hlo : cs.toArray.size = 19 := by simp [hcl]
      have hszA : (wr.alloc (.cells cs.toArray 31)).heap.size = wr.heap.size + 1 := by simp
      replace I := Lib.hid I
      replace hcr := Lib.hid hcr
      replace hct := Lib.hid hct
      replace hx := Lib.hid hx
      replace ho := Lib.hid ho
      replace hgr := Lib.hid hgr
      replace hst := Lib.hid hst
      replace hst1 := Lib.hid hst1
      replace hct1 := Lib.hid hct1
      replace hgr1 := Lib.hid hgr1
      replace hA1 := Lib.hid hA1
      replace hcr' := Lib.hid hcr'
      replace hcl := Lib.hid hcl
      replace hone := Lib.hid hone
      replace htk := Lib.hid htk
      replace hstep := Lib.hid hstep
      replace hszA := Lib.hid hszA
      go_wp2_with (first | (with_reducible refine wpList_load_mid rfl 31 (.tmp 12) rfl g (off + j * 19) rfl cs _ hcr'.out Try.underlying31 rfl (w_size hcl.out) ?_) | (with_reducible refine wpList_store_row rfl 31 (.tmp 7) (.tmp 13) rfl wr.heap.size cs.toArray rfl rfl 31 _ hz.out (w_size' hcl.out) (by simp [hcl.out]) hone.out ?_; rw [alloc_setRow]) | (with_reducible refine wpList_load_row rfl 31 (.tmp 7) rfl wr.heap.size rfl 31 cs.toArray (0, 0) _ hw2.out Try.underlying31 rfl (w_size' hcl.out) ?_))
      refine I.out.mono ?_
      rintro e w3 ⟨rfl, hst3, hg3⟩
      have hsz3 : wr.heap.size + 1 ≤ w3.heap.size := by have := hg3.size; rw [hszA.out] at this; exact this
      have hw3 : w3.heap[wr.heap.size]? = some (.cells cs.toArray 31 (0, 0)) := by rw [hg3.block _ (by rw [hszA.out]; omega) (hne2.out _ hsz0)]; exact hw2.out
      have ho3 : Out KAt 7 67 w.heap.size w3 u5 (askG p [] (ws.take j)) := ho.out.keep carried_k (by omega) (fun b hb1 hb2 => (hg3.block b (by rw [hszA.out]; omega) (hne2.out b hb1)).trans (hA1.out.block b hb2))
      have hgr3 := World.grownBy.trans hgr1.out hg3
      rw [← htk.out] at hst3
      obtain ⟨A, hA, hAl, hAc⟩ := hct.out.ask
      have hcells := hct.out.cells
      have hA3 : ∀ w', Below w.heap.size w3 w' → VAt (Live w') w' x.asked A := fun w' hb => VAt.change (fun b hb' => by have := hb.size; show b < _; omega) (fun b hb' => (hb.block b (by omega)).trans (hgr3.block b (by omega) (hne.out b hb'))) _ _ hA
      replace hst3 := Lib.hid hst3
      replace hw3 := Lib.hid hw3
      replace ho3 := Lib.hid ho3
      replace hgr3 := Lib.hid hgr3
      clear hg3 hw2 hz hst1 hct1 hgr1 I hA
      cases hpx : p (ws.take j) x with
      | false =>
        replace hpx := Lib.hid hpx
        have hs2 : askG p [] (ws.take (j + 1)) = askG p [] (ws.take j) := by rw [hstep.out, hpx.out]; simp
        replace hs2 := Lib.hid hs2
        go_wp2_with fail
        go_roundw
        case rel => exact ⟨j + 1, by omega, by go_num, by rw [hs2.out]; exact ho3.out, hst3.out, hgr3.out⟩
        case measure => simp [intOf]; omega
      | true =>
        replace hpx := Lib.hid hpx
        have hs2 : askG p [] (ws.take (j + 1)) = askG p [] (ws.take j) ++ [askOf x] := by rw [hstep.out, hpx.out, if_pos rfl]
        replace hs2 := Lib.hid hs2
        go_upto_region 6 with (fail)
        have hownr : ∀ k, u5.ownBlock = some k → k < wr.heap.size := by obtain ⟨xs, o1, _⟩ := ho.out; exact fun k hk => (own_from o1 k hk).2
        have hS0 : AskS w.heap.size w3 wr.heap.size cs w3.drew := ⟨fun i u hu => box_cell hw3.out _ _ (by simpa using hu), (by show _ < w3.heap.size; omega), (Below.refl _ _).drew⟩
        refine wp_region_held_drew (S := AskS w.heap.size w3 wr.heap.size cs) (by kernel_rfl) hS0 (fun hHeld => ?_)
        refine wpAnyH_take (i := 0) (v := ?_) rfl (by kernel_rfl) (by kernel_rfl) (by kernel_rfl) (fun _ _ _ h => h) (Or.inl ⟨by rfl, ?_⟩) (by assumption) ?_
        rotate_left
        · intro wS hSw; skip; go_simp; (try with_reducible rfl)
        change wpAnyH _ _ _ _ _ _ _ (Act.put _ (some 17) _) _
        simp only [Act.put, List.setIfInBounds_toArray, List.set_cons_zero, List.set_cons_succ]
        refine wpAnyH_take (i := 1) (v := ?_) rfl (by kernel_rfl) (by kernel_rfl) (by kernel_rfl) (fun _ _ _ h => h) (Or.inl ⟨by rfl, ?_⟩) (by assumption) ?_
        rotate_left
        · intro wS hSw; skip; go_simp; (try with_reducible rfl)
        change wpAnyH _ _ _ _ _ _ _ (Act.put _ (some 18) _) _
        simp only [Act.put, List.setIfInBounds_toArray, List.set_cons_zero, List.set_cons_succ]
        refine wpAnyH_take (i := 2) (v := ?_) rfl (by kernel_rfl) (by kernel_rfl) (by kernel_rfl) (fun _ _ _ h => h) (Or.inl ⟨by rfl, ?_⟩) (by assumption) ?_
        rotate_left
        · intro wS hSw; have q := hSw.cell 0 _ hcells.1; go_simp; (try with_reducible rfl)
        change wpAnyH _ _ _ _ _ _ _ (Act.put _ (some 19) _) _
        simp only [Act.put, List.setIfInBounds_toArray, List.set_cons_zero, List.set_cons_succ]
        refine wpAnyH_take (i := 3) (v := ?_) rfl (by kernel_rfl) (by kernel_rfl) (by kernel_rfl) (fun _ _ _ h => h) (Or.inl ⟨by rfl, ?_⟩) (by assumption) ?_
        rotate_left
        · intro wS hSw; skip; go_simp; (try with_reducible rfl)
        change wpAnyH _ _ _ _ _ _ _ (Act.put _ (some 20) _) _
        simp only [Act.put, List.setIfInBounds_toArray, List.set_cons_zero, List.set_cons_succ]
        refine wpAnyH_take (i := 4) (v := ?_) rfl (by kernel_rfl) (by kernel_rfl) (by kernel_rfl) (fun _ _ _ h => h) (Or.inl ⟨by rfl, ?_⟩) (by assumption) ?_
        rotate_left
        · intro wS hSw; have q := hSw.cell 5 _ hcells.2.2.2.2.2.1; go_simp; (try with_reducible rfl)
        change wpAnyH _ _ _ _ _ _ _ (Act.put _ (some 21) _) _
        simp only [Act.put, List.setIfInBounds_toArray, List.set_cons_zero, List.set_cons_succ]
        refine wpAnyH_take (i := 5) (v := ?_) rfl (by kernel_rfl) (by kernel_rfl) (by kernel_rfl) (fun _ _ _ h => h) (Or.inl ⟨by rfl, ?_⟩) (by assumption) ?_
        rotate_left
        · intro wS hSw; skip; go_simp; (try with_reducible rfl)
        change wpAnyH _ _ _ _ _ _ _ (Act.put _ (some 22) _) _
        simp only [Act.put, List.setIfInBounds_toArray, List.set_cons_zero, List.set_cons_succ]
        refine wpAnyH_take (i := 6) rfl (by kernel_rfl) (by kernel_rfl) (by kernel_rfl) (fun _ _ _ h => h) (yieldsIf_load_mid (by rfl) 29 (.tmp 22) rfl wr.heap.size 6 rfl A _ (fun w' h i u hu => by have := h.1 (6 + i) u (hAc i u hu); simpa using this) Try.underlying29 rfl (v_size hAl)) (by assumption) ?_
        change wpAnyH _ _ _ _ _ _ _ (Act.put _ (some 23) _) _
        simp only [Act.put, List.setIfInBounds_toArray, List.set_cons_zero, List.set_cons_succ]
        refine wpAnyH_ready (rs := [7]) (by kernel_rfl) (by simp) ?_
        refine AllReadyH.cons rfl (fun K hK => ?_) AllReadyH.nil
        go_simp
        refine (clone x.asked A _ (hA3 _ hHeld.2.2)).mono ?_
        rintro e w4 ⟨c5, rfl, hv5, hb5⟩
        have hb5' : Below w3.heap.size w3 w4 := (Below.refl _ _).drew.trans hb5
        obtain ⟨v0, v1, v2, v3, v4, v5, v6, rfl⟩ := hv5.shape
        have hS4 : AskS w.heap.size w3 wr.heap.size cs w4 := hHeld.below (by show w.heap.size ≤ w3.heap.size; omega) hb5
        replace hb5' := Lib.hid hb5'
        replace hv5 := Lib.hid hv5
        clear hb5
        go_wp2_with fail
        refine hK.out _ _ (hS4) (fun hHeld => ?_)
        clear hK K
        (try simp only [Act.put, List.setIfInBounds_toArray, List.set_cons_zero, List.set_cons_succ])
        refine wpAnyH_take (i := 8) (v := ?_) rfl (by kernel_rfl) (by kernel_rfl) (by kernel_rfl) (fun _ _ _ h => h) (Or.inl ⟨by rfl, ?_⟩) (by assumption) ?_
        rotate_left
        · intro wS hSw; skip; go_simp; (try with_reducible rfl)
        change wpAnyH _ _ _ _ _ _ _ (Act.put _ (some 25) _) _
        simp only [Act.put, List.setIfInBounds_toArray, List.set_cons_zero, List.set_cons_succ]
        have hsz4 : w3.heap.size ≤ w4.heap.size := hb5'.out.size
        have hA4 : Below w4.heap.size w4 (w4.alloc (.cells #[.int .i64 x.op, .string x.name, .int .i64 v0, .int .i64 v1, .int .u64 v2, .string v3, .slice v4 v5 v6] 67)) := (Below.refl _ _).alloc (Nat.le_refl _) _
        have hS5 := hHeld.below (by omega) hA4
        refine wpAnyH_ready (rs := [9]) (by kernel_rfl) (by simp) ?_
        refine AllReadyH.cons rfl (fun K hK => ?_) AllReadyH.nil
        go_simp
        refine hK.out _ _ (hS5) (fun hHeld => ?_)
        clear hK K
        (try simp only [Act.put, List.setIfInBounds_toArray, List.set_cons_zero, List.set_cons_succ])
        refine wpAnyH_ready (rs := [10]) (by kernel_rfl) (by simp) ?_
        refine AllReadyH.cons rfl (fun K hK => ?_) AllReadyH.nil
        have hown : ∀ k, u5.ownBlock = some k → k < w3.heap.size := fun k hk => by have := hownr k hk; omega
        refine step_push carried_k rfl (.tmp 17) (.tmp 26) 39 rfl w.heap.size 67 i0 _ 7 88 Try.underlying39 hi.out hz0.out hz1.out hz2.out rfl (by decide) u5 (askG p [] (ws.take j)) rfl ?_ w4.heap.size 1 (askOf x) [.int .i64 x.op, .string x.name, .int .i64 v0, .int .i64 v1, .int .u64 v2, .string v3, .slice v4 v5 v6] (fun b => w3.heap.size ≤ b ∧ b < w4.heap.size) rfl rfl ?_ ?_ (range_new w4 [.int .i64 x.op, .string x.name, .int .i64 v0, .int .i64 v1, .int .u64 v2, .string v3, .slice v4 v5 v6] 67) ?_ ?_ ?_ ?_ ?_
        · exact (ho3.out.below carried_k hb5'.out).below carried_k hA4
        · exact ⟨_, rfl, VAt.change (fun b hb => hb) (fun b hb => hA4.block b hb.2) _ _ hv5.out⟩
        · intro b hb
          exact ⟨by omega, by simp; omega, fun e => by have := hown b e; omega⟩
        · intro u hu; simp only [List.mem_cons, List.not_mem_nil, or_false] at hu; rcases hu with rfl | rfl | rfl | rfl | rfl | rfl | rfl <;> rfl
        · unfold maxLen; omega
        · omega
        · simp; omega
        intro v' w6 ho6 hg6 hb6
        change K (Act.put _ (some 27) v') w6
        have hS6 : AskS w.heap.size w3 wr.heap.size cs w6 := ⟨range_keep hHeld.1 (hg6.block _ hHeld.2.1 (fun e => by have := hownr _ e.symm; omega)), Nat.lt_of_lt_of_le hHeld.2.1 hg6.size, hHeld.2.2.trans hb6⟩
        replace ho6 := Lib.hid ho6
        refine hK.out _ _ (hS6) (fun hHeld => ?_)
        clear hK K
        (try simp only [Act.put, List.setIfInBounds_toArray, List.set_cons_zero, List.set_cons_succ])
        refine wpAnyH_take (i := 11) (v := ?_) rfl (by kernel_rfl) (by kernel_rfl) (by kernel_rfl) (fun _ _ _ h => h) (Or.inl ⟨by rfl, ?_⟩) (by assumption) ?_
        rotate_left
        · intro wS hSw; skip; go_simp; (try with_reducible rfl)
        change wpAnyH _ _ _ _ _ _ _ (Act.put _ (some 5) _) _
        simp only [Act.put, List.setIfInBounds_toArray, List.set_cons_zero, List.set_cons_succ]
        refine wpAnyH_done (by kernel_rfl) ?_ _
        have hHH := Lib.hid hHeld
        clear hS6 hS5 hS4 hb6 hA4 hg6
        go_wp2_with fail
        go_roundw
        case rel => exact ⟨j + 1, by omega, by go_num, by rw [hs2.out]; exact ho6.out, hkeep.out _ w3 w6 hst3.out (by omega) (fun b hb => hHH.out.2.2.block b hb), ⟨hHH.out.2.2.os.trans hgr3.out.os, hHH.out.2.2.tape.trans hgr3.out.tape, hHH.out.2.2.output.trans hgr3.out.output, Nat.le_trans hgr3.out.size hHH.out.2.2.size, fun k hk hk2 => (hHH.out.2.2.block k hk).trans (hgr3.out.block k hk hk2)⟩⟩
        case measure => simp [intOf]; omega
    · obtain rfl : j = n := by omega
      have hlj : ws.take j = ws := List.take_of_length_le (by rw [hn.out]; exact Nat.le_refl _)
      rw [hlj] at ho
      replace ho := Lib.hid ho
      replace hgr := Lib.hid hgr
      clear hlj hst
      go_wp2_with fail
      go_ret
      exact ⟨_, rfl, ho.out, hgr.out⟩
end Go.Proofs.Ytncmjkaclfcbmaa
