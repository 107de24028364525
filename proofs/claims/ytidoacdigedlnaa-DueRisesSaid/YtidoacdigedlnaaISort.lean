/- The insertion sort of timers, by the shelf's contract. -/
import Derived.Test.YtidoacdigedlnaaTRow
import Derived.Test.YtidoacdigedlnaaByDue
import Derived.Test.YtidoacdigedlnaaLate
import Derived.Shelf.SlSortCmp.InsertionK
set_option linter.unusedVariables false
set_option linter.unusedSimpArgs false
namespace Go.Proofs.Ytidoacdigedlnaa
open Go.RowKit Go.Shelf Go.Sort

def Gr (w w' : World) : Prop := ∃ n os, w' = grow (w.drewN n) os
theorem Gr.refl (w : World) : Gr w w := ⟨0, #[], by rw [grow_empty]; rfl⟩
theorem Gr.drew {w w' : World} (h : Gr w w') : Gr w w'.drew := by
  obtain ⟨n, os, rfl⟩ := h
  exact ⟨n + 1, os, rfl⟩
theorem Gr.alloc {w w' : World} (h : Gr w w') (o : Obj) : Gr w (w'.alloc o) := by
  obtain ⟨n, os, rfl⟩ := h
  exact ⟨n, os ++ #[o], by rw [alloc_eq_grow, grow_grow]⟩
theorem Gr.trans {a b c : World} (h : Gr a b) (k : Gr b c) : Gr a c := by
  obtain ⟨n, os, rfl⟩ := h
  obtain ⟨m, os', rfl⟩ := k
  exact ⟨n + m, os ++ os', by show grow (grow ((a.drewN n).drewN m) os) os' = _; rw [grow_grow, World.drewN_drewN]⟩
theorem Gr.below {w w' : World} (h : Gr w w') : Below w.heap.size w w' := by
  obtain ⟨n, os, rfl⟩ := h
  exact ⟨rfl, rfl, rfl, by simp, fun k hk => by rw [heap_grow_old _ _ (by exact hk)]; rfl⟩
attribute [local go_sem ↓] Go.wp_at_zero Go.wp_at_succ
theorem byDueG (x y : TM) (w : World) : Calls Try.prog 39 #[.agg #[.string x.name, .int .i64 x.due], .agg #[.string y.name, .int .i64 y.due]] w fun e w' => e = .returned (.int .i64 (byI x y)) ∧ Gr w w' := by
  have h1 : ((w.alloc (.cells #[.string x.name, .int .i64 x.due] 52)).alloc (.cells #[.string y.name, .int .i64 y.due] 52)).heap[w.heap.size]? = some (.cells #[.string x.name, .int .i64 x.due] 52 (0, 0)) := heap_alloc2_old w _ _
  have h2 : ((w.alloc (.cells #[.string x.name, .int .i64 x.due] 52)).alloc (.cells #[.string y.name, .int .i64 y.due] 52)).heap[w.heap.size + 1]? = some (.cells #[.string y.name, .int .i64 y.due] 52 (0, 0)) := heap_alloc2_new w _ _
  have hb : Gr w ((w.alloc (.cells #[.string x.name, .int .i64 x.due] 52)).alloc (.cells #[.string y.name, .int .i64 y.due] 52)) := ((Gr.refl _).alloc _).alloc _
  have hsz : ((w.alloc (.cells #[.string x.name, .int .i64 x.due] 52)).alloc (.cells #[.string y.name, .int .i64 y.due] 52)).heap.size = w.heap.size + 2 := by simp
  generalize hW : (w.alloc (.cells #[.string x.name, .int .i64 x.due] 52)).alloc (.cells #[.string y.name, .int .i64 y.due] 52) = W at *
  have k : ∀ (wS : World), Gr W wS → wS.cell? ⟨w.heap.size, 0, none⟩ = some (.string x.name) ∧ wS.cell? ⟨w.heap.size, 1, none⟩ = some (.int .i64 x.due) ∧ wS.cell? ⟨w.heap.size + 1, 0, none⟩ = some (.string y.name) ∧ wS.cell? ⟨w.heap.size + 1, 1, none⟩ = some (.int .i64 y.due) := fun wS hG => by
    have h := hG.below
    have e1 := (h.block w.heap.size (by omega)).trans h1
    have e2 := (h.block (w.heap.size + 1) (by omega)).trans h2
    exact ⟨box_cell e1 0 _ rfl, box_cell e1 1 _ rfl, box_cell e2 0 _ rfl, box_cell e2 1 _ rfl⟩
  replace hb := Lib.hid hb
  replace hW := Lib.hid hW
  clear h1 h2
  go_enter Try.func39, Try.ntmps39
  go_wp2_with fail
  rw [hW.out]
  have hS0 : Gr W W.drew := (Gr.refl _).drew
  refine wp_region_held_drew (S := Gr W) (by kernel_rfl) hS0 (fun hHeld => ?_)
  refine wpAnyH_take (i := 0) (v := ?_) rfl (by kernel_rfl) (by kernel_rfl) (by kernel_rfl) (fun _ _ _ h => h) (Or.inl ⟨by rfl, ?_⟩) (by assumption) ?_
  rotate_left
  · intro wS hSw; skip; go_simp; (try with_reducible rfl)
  change wpAnyH _ _ _ _ _ _ _ (Act.put _ (some 5) _) _
  simp only [Act.put, List.setIfInBounds_toArray, List.set_cons_zero, List.set_cons_succ]
  refine wpAnyH_take (i := 1) (v := ?_) rfl (by kernel_rfl) (by kernel_rfl) (by kernel_rfl) (fun _ _ _ h => h) (Or.inl ⟨by rfl, ?_⟩) (by assumption) ?_
  rotate_left
  · intro wS hSw; obtain ⟨q1, q2, q3, q4⟩ := k wS hSw; go_simp; (try with_reducible rfl)
  change wpAnyH _ _ _ _ _ _ _ (Act.put _ (some 6) _) _
  simp only [Act.put, List.setIfInBounds_toArray, List.set_cons_zero, List.set_cons_succ]
  refine wpAnyH_take (i := 2) (v := ?_) rfl (by kernel_rfl) (by kernel_rfl) (by kernel_rfl) (fun _ _ _ h => h) (Or.inl ⟨by rfl, ?_⟩) (by assumption) ?_
  rotate_left
  · intro wS hSw; skip; go_simp; (try with_reducible rfl)
  change wpAnyH _ _ _ _ _ _ _ (Act.put _ (some 7) _) _
  simp only [Act.put, List.setIfInBounds_toArray, List.set_cons_zero, List.set_cons_succ]
  refine wpAnyH_take (i := 3) (v := ?_) rfl (by kernel_rfl) (by kernel_rfl) (by kernel_rfl) (fun _ _ _ h => h) (Or.inl ⟨by rfl, ?_⟩) (by assumption) ?_
  rotate_left
  · intro wS hSw; obtain ⟨q1, q2, q3, q4⟩ := k wS hSw; go_simp; (try with_reducible rfl)
  change wpAnyH _ _ _ _ _ _ _ (Act.put _ (some 8) _) _
  simp only [Act.put, List.setIfInBounds_toArray, List.set_cons_zero, List.set_cons_succ]
  refine wpAnyH_take (i := 5) (v := ?_) rfl (by kernel_rfl) (by kernel_rfl) (by kernel_rfl) (fun _ _ _ h => h) (Or.inl ⟨by rfl, ?_⟩) (by assumption) ?_
  rotate_left
  · intro wS hSw; skip; go_simp; (try with_reducible rfl)
  change wpAnyH _ _ _ _ _ _ _ (Act.put _ (some 10) _) _
  simp only [Act.put, List.setIfInBounds_toArray, List.set_cons_zero, List.set_cons_succ]
  refine wpAnyH_take (i := 6) (v := ?_) rfl (by kernel_rfl) (by kernel_rfl) (by kernel_rfl) (fun _ _ _ h => h) (Or.inl ⟨by rfl, ?_⟩) (by assumption) ?_
  rotate_left
  · intro wS hSw; obtain ⟨q1, q2, q3, q4⟩ := k wS hSw; go_simp; (try with_reducible rfl)
  change wpAnyH _ _ _ _ _ _ _ (Act.put _ (some 11) _) _
  simp only [Act.put, List.setIfInBounds_toArray, List.set_cons_zero, List.set_cons_succ]
  refine wpAnyH_take (i := 7) (v := ?_) rfl (by kernel_rfl) (by kernel_rfl) (by kernel_rfl) (fun _ _ _ h => h) (Or.inl ⟨by rfl, ?_⟩) (by assumption) ?_
  rotate_left
  · intro wS hSw; skip; go_simp; (try with_reducible rfl)
  change wpAnyH _ _ _ _ _ _ _ (Act.put _ (some 12) _) _
  simp only [Act.put, List.setIfInBounds_toArray, List.set_cons_zero, List.set_cons_succ]
  refine wpAnyH_take (i := 8) (v := ?_) rfl (by kernel_rfl) (by kernel_rfl) (by kernel_rfl) (fun _ _ _ h => h) (Or.inl ⟨by rfl, ?_⟩) (by assumption) ?_
  rotate_left
  · intro wS hSw; obtain ⟨q1, q2, q3, q4⟩ := k wS hSw; go_simp; (try with_reducible rfl)
  change wpAnyH _ _ _ _ _ _ _ (Act.put _ (some 13) _) _
  simp only [Act.put, List.setIfInBounds_toArray, List.set_cons_zero, List.set_cons_succ]
  refine wpAnyH_ready (rs := [4]) (by kernel_rfl) (by simp) ?_
  refine AllReadyH.cons rfl (fun K hK => ?_) AllReadyH.nil
  go_simp
  refine (cmp_i _ _ _).mono ?_
  rintro e w4 ⟨rfl, rfl⟩
  have hH := hHeld
  go_wp2_with fail
  refine hK.out _ _ (hH) (fun hHeld => ?_)
  clear hK K
  (try simp only [Act.put, List.setIfInBounds_toArray, List.set_cons_zero, List.set_cons_succ])
  refine wpAnyH_ready (rs := [9]) (by kernel_rfl) (by simp) ?_
  refine AllReadyH.cons rfl (fun K hK => ?_) AllReadyH.nil
  go_simp
  refine (cmp_s _ _ _).mono ?_
  rintro e w4 ⟨rfl, rfl⟩
  have hH := hHeld
  go_wp2_with fail
  refine hK.out _ _ (hH) (fun hHeld => ?_)
  clear hK K
  (try simp only [Act.put, List.setIfInBounds_toArray, List.set_cons_zero, List.set_cons_succ])
  refine wpAnyH_ready (rs := [10]) (by kernel_rfl) (by simp) ?_
  refine AllReadyH.cons rfl (fun K hK => ?_) AllReadyH.nil
  go_simp
  refine hK.out _ _ (hHeld.alloc _) (fun hHeld => ?_)
  clear hK K
  (try simp only [Act.put, List.setIfInBounds_toArray, List.set_cons_zero, List.set_cons_succ])
  have hfin := heap_alloc_new W (.cells #[.int .i64 (cmpI x.due y.due), .int .i64 (cmpS x.name y.name)] 3)
  rw [hsz] at hfin
  have hfin2 : (W.alloc (.cells #[.int .i64 (cmpI x.due y.due), .int .i64 (cmpS x.name y.name)] 3)).drew.heap[w.heap.size + 2]? = some (.cells #[.int .i64 (cmpI x.due y.due), .int .i64 (cmpS x.name y.name)] 3 (0, 0)) := hfin
  refine wpAnyH_ready (rs := [11]) (by kernel_rfl) (by simp) ?_
  refine AllReadyH.cons rfl (fun K hK => ?_) AllReadyH.nil
  go_simp
  refine (or_ _ _ (w.heap.size + 2) _ hfin2).mono ?_
  rintro e w4 ⟨rfl, rfl⟩
  have hH := hHeld
  go_wp2_with fail
  refine hK.out _ _ (hH) (fun hHeld => ?_)
  clear hK K
  (try simp only [Act.put, List.setIfInBounds_toArray, List.set_cons_zero, List.set_cons_succ])
  refine wpAnyH_take (i := 12) (v := ?_) rfl (by kernel_rfl) (by kernel_rfl) (by kernel_rfl) (fun _ _ _ h => h) (Or.inl ⟨by rfl, ?_⟩) (by assumption) ?_
  rotate_left
  · intro wS hSw; skip; go_simp; (try with_reducible rfl)
  change wpAnyH _ _ _ _ _ _ _ (Act.put _ (some 4) _) _
  simp only [Act.put, List.setIfInBounds_toArray, List.set_cons_zero, List.set_cons_succ]
  refine wpAnyH_done (by kernel_rfl) ?_ _
  have hBB := Lib.hid hHeld
  clear hfin hfin2 hH
  go_wp2_with fail
  go_ret
  exact ⟨rfl, hb.out.trans hBB.out⟩

def rho : Ren := ⟨fun n => if n = 20 then 76 else n, fun t => if t = 22 then 30 else if t = 24 then 52 else if t = 25 then 76 else t, fun x => x⟩
theorem lays : SlLaysF0.n20 Try.prog rho where
  mixed := by kernel_rfl
  f20 := ⟨"slices.insertionSortCmpFunc[usher/api.Timer]", by decide, by kernel_rfl⟩
  t0 := by kernel_rfl
  a0 := Try.isAgg0
  z0 := Try.sizeOf0
  v0 := Try.zeroValue0
  t3 := by kernel_rfl
  a3 := Try.isAgg3
  z3 := Try.sizeOf3
  v3 := Try.zeroValue3
  t4 := by kernel_rfl
  a4 := Try.isAgg4
  z4 := Try.sizeOf4
  v4 := Try.zeroValue4
  t22 := by kernel_rfl
  a22 := Try.isAgg30
  z22 := Try.sizeOf30
  v22 := Try.zeroValue30
  t25 := by kernel_rfl
  a25 := Try.isAgg76
  z25 := Try.sizeOf76
  v25 := Try.zeroValue76
instance : Inhabited TM := ⟨⟨ByteArray.empty, 0⟩⟩
theorem cmpLays (blk off size : Nat) (w : World) : CmpLays Try.prog 39 #[] tmc 2 byI blk off size w := fun m os dk hdk x y => by
  refine (byDueG x y _).mono ?_
  rintro e w' ⟨rfl, h⟩
  exact ⟨rfl, h⟩
theorem tmc_len (x : TM) : (tmc x).length = 2 := rfl
theorem tmc_one (x : TM) : ∀ v ∈ tmc x, v.oneCell' = true := by
  intro v hv
  simp [tmc] at hv
  rcases hv with rfl | rfl <;> rfl
theorem flatK_flat (l : List TM) : (flatK tmc 2 l.toArray).toList = flat l := by
  apply List.ext_getElem?
  intro j
  by_cases hj : j < l.length * 2
  · obtain ⟨i, c, hc, rfl⟩ : ∃ i c, c < 2 ∧ j = i * 2 + c := ⟨j / 2, j % 2, Nat.mod_lt _ (by decide), by omega⟩
    have hi : i < l.length := by omega
    have hx : l[i]? = some l[i] := List.getElem?_eq_getElem hi
    obtain ⟨f0, f1⟩ := flat_get hx
    have hg := get_flatK tmc 2 l.toArray (i * 2 + c) (by simpa using hj)
    rw [show (i * 2 + c) / 2 = i by omega, show (i * 2 + c) % 2 = c by omega] at hg
    have hsz : i * 2 + c < (flatK tmc 2 l.toArray).size := by simpa using hj
    rw [_root_.getElem!_pos (flatK tmc 2 l.toArray) (i * 2 + c) hsz] at hg
    rw [Array.getElem?_toList, Array.getElem?_eq_getElem hsz, hg]
    have hl : l.toArray[i]! = l[i] := by rw [_root_.getElem!_pos l.toArray i (by simpa using hi)]; simp
    rw [hl]
    obtain rfl | rfl : c = 0 ∨ c = 1 := by omega
    · exact f0.symm
    · exact f1.symm
  · rw [List.getElem?_eq_none (by simp; omega), List.getElem?_eq_none (by rw [flat_len]; omega)]
theorem holdsK_hd {w : World} {g off : Nat} {l : List TM} : HoldsK tmc 2 w g off l.toArray ↔ Hd w g off l := by
  have e := flatK_flat l
  constructor
  · intro h j u hu
    rw [← e] at hu
    have hj : j < (flatK tmc 2 l.toArray).size := by simpa using (List.getElem?_eq_some_iff.1 hu).1
    have := h j hj
    rw [_root_.getElem!_pos (flatK tmc 2 l.toArray) j hj] at this
    rw [Array.getElem?_toList, Array.getElem?_eq_getElem hj] at hu
    cases hu
    exact this
  · intro h j hj
    refine h j _ ?_
    rw [← e, Array.getElem?_toList, Array.getElem?_eq_getElem hj, _root_.getElem!_pos (flatK tmc 2 l.toArray) j hj]; rfl
theorem inner_size (lt : TM → TM → Bool) (a : Nat) : ∀ (j : Nat) (d : Array TM), (insInner lt a j d).size = d.size
  | 0, d => rfl
  | j + 1, d => by
    unfold insInner
    split
    · rw [inner_size lt a j, size_swp]
    · rfl
theorem outer_size (lt : TM → TM → Bool) (a b : Nat) : ∀ (k i : Nat) (d : Array TM), b - i = k → (insOuter lt a b i d).size = d.size
  | 0, i, d, h => by unfold insOuter; rw [if_neg (by omega)]
  | k + 1, i, d, h => by unfold insOuter; rw [if_pos (by omega), outer_size lt a b k (i + 1) _ (by omega), inner_size]
def ins (l : List TM) : List TM := (Sort.insertionSort (ltOf byI) l.toArray 0 l.length).toList
theorem ins_len (l : List TM) : (ins l).length = l.length := by
  unfold ins Sort.insertionSort
  rw [Array.length_toList, outer_size _ _ _ _ _ _ rfl]
  simp
theorem isort (g off cap n : Nat) (l : List TM) (w : World) (hH : Hd w g off l) (hg : g < w.heap.size) (hn : l.length = n) (h9 : n ≤ 1000000) :
    Calls Try.prog 76 #[.slice (some ⟨g, off, none⟩) n cap, .int .i64 0, .int .i64 n, .func (.func 39) #[] #[]] w fun e w' =>
      e = .returned (.tuple #[]) ∧ Hd w' g off (ins l) ∧ Below g w w' := by
  have hlen : (ins l).length = n := (ins_len l).trans hn
  have eg : ∀ args w, (callFunc 39 args).run Try.prog w = .ok (.enter 39 args) w := enters Try.func39 (by kernel_rfl) rfl
  have hcon := AnyQ.insertionSortCmpFunc lays 2 Try.isAgg52 Try.sizeOf52 tmc tmc_len tmc_one byI 39 #[] g off cap 0 n l.toArray w eg (cmpLays _ _ _ _) (holdsK_hd.2 hH) hg (Nat.zero_le _) (by simp [hn]) (by simp; omega)
  rw [show l.toArray.size = n by simp [hn]] at hcon
  refine Calls.mono hcon ?_
  rintro e w' ⟨rfl, m, os, rfl⟩
  have hsz : (Sort.insertionSort (ltOf byI) l.toArray 0 n).size = l.toArray.size := by
    have : (Sort.insertionSort (ltOf byI) l.toArray 0 l.length).toList.length = n := hlen
    rw [hn] at this
    simpa [hn] using this
  refine ⟨rfl, ?_, ?_⟩
  · have h2 := holdsK_sortWorldK_c tmc 2 w g off l.toArray (Sort.insertionSort (ltOf byI) l.toArray 0 n) m os (holdsK_hd.2 hH) hg hsz
    refine holdsK_hd.1 ?_
    unfold ins
    rw [hn]
    exact h2
  · refine ⟨rfl, rfl, rfl, size_sortWorldK_c tmc 2 w g off m _ os, fun k hk => ?_⟩
    unfold sortWorldK
    rw [heap_grow_old _ _ (by rw [size_putRowK]; exact Nat.lt_trans hk hg)]
    simp only [putRowK, putRow, mapBlock, Array.getElem?_modify]
    rw [if_neg (by omega)]
    rfl
end Go.Proofs.Ytidoacdigedlnaa
