/- New, Fuse, Dead, loose, keep, put. -/
import Derived.Test.YtjphboljhkddaaaDisk
import Derived.WideMake
import Derived.StillTailTactics
set_option linter.unusedVariables false
namespace Go.Proofs.Ytjphboljhkddaaa
open Go.RowKit

def NewP (w : World) (room : Int) (e : Ending) (w' : World) : Prop :=
  ∃ d, e = .returned (.tuple #[.pointer (some ⟨d, 0, none⟩), .int .i64 0]) ∧ DiskAt w' w.heap.size d (fun _ => none) room 0 false 0 false ∧ Below w.heap.size w w'
theorem new_ok (room : Int) (w : World) (h0 : 0 ≤ room) (h1 : room ≤ 16777216) : Calls Try.prog 7 #[.int .i64 room] w (NewP w room) := by
  have hfin : ∀ w', w' = (w.alloc (.map #[] 0)).alloc (.cells (dCells w.heap.size room 0 false 0 false) 44) → NewP w room (.returned (.tuple #[.pointer (some ⟨w.heap.size + 1, 0, none⟩), .int .i64 0])) w' := by
    rintro w' rfl
    have e1 := heap_alloc_new (w.alloc (.map #[] 0)) (.cells (dCells w.heap.size room 0 false 0 false) 44)
    rw [show (w.alloc (.map #[] 0)).heap.size = w.heap.size + 1 by simp] at e1
    have e2 : ((w.alloc (.map #[] 0)).alloc (.cells (dCells w.heap.size room 0 false 0 false) 44)).heap[w.heap.size]? = some (.map #[] 0) := by
      rw [heap_alloc_old _ _ (by simp), heap_alloc_new]
    exact ⟨_, rfl, ⟨w.heap.size, [], by omega, Nat.le_refl _, e1, ⟨0, e2, (fun e he => by cases he), List.nodup_nil, List.nodup_nil⟩, fun z => .inl ⟨rfl, rfl⟩⟩, ((Below.refl _ _).alloc (Nat.le_refl _) _).alloc (by simp) _⟩
  have t0 : decide (room < 0) = false := decide_eq_false (by omega)
  have t1 : decide (16777216 < room) = false := decide_eq_false (by omega)
  replace hfin := Lib.hid hfin
  have hmm := fun w : World => run_makeMap_plain (P := Try.prog) w 40
  clear h0 h1
  go_enter Try.func7, Try.ntmps7
  go_wp2_with fail
  go_ret2
  exact hfin.out _ rfl
theorem loose (a : Option Addr) (n cap : Nat) (s : Int) (w : World) (hs : 0 ≤ s ∧ s ≤ 4611686018427387904) (hn : n ≤ 4611686018427387904) : Calls Try.prog 31 #[zVal a n cap s] w fun e w' => e = .returned (.int .i64 ((n : Int) - s)) ∧ w' = w.alloc (.cells #[.slice a n cap, .int .i64 s] 65) := by
  have hw : IntKind.i64.wrap ((n : Int) - s) = (n : Int) - s := IntWalk.i64_in _ (by omega)
  unfold zVal
  go_enter Try.func31, Try.ntmps31
  go_wp2_with fail
  go_ret
  exact ⟨rfl, rfl⟩
theorem deadness (d m : Nat) (dead : Bool) (w : World) (h0 : w.cell? ⟨d, 0, none⟩ = some (.map (some m))) (h : w.cell? ⟨d, 5, none⟩ = some (.bool dead)) : Calls Try.prog 16 #[.pointer (some ⟨d, 0, none⟩)] w fun e w' => e = .returned (.bool dead) ∧ w = w' := by
  have M := fun w' (hh : w'.cell? ⟨d, 0, none⟩ = some (.map (some m))) => made_some d m w' hh
  go_enter Try.func16, Try.ntmps16
  go_wp2_with (go_at_call 30; refine (M _ h0).mono ?_; rintro e w1 ⟨rfl, rfl⟩)
  go_ret
  exact ⟨rfl, rfl⟩
theorem fuse_ok (w : World) (B d : Nat) (st : ZSt) (room used : Int) (lit : Bool) (left n : Int) (h : DiskAt w B d st room used lit left false) (hn : 0 ≤ n) :
    Calls Try.prog 15 #[.pointer (some ⟨d, 0, none⟩), .int .i64 n] w fun e w' => e = .returned (.int .i64 0) ∧ DiskAt w' B d st room used true n false ∧ Below B w w' := by
  obtain ⟨m, L, hBd, hBm, h3, h4, h5⟩ := id h
  obtain ⟨c0, c1, c2, c3, c4, c5, cf⟩ := dcell h3
  have f3 := cf 3
  have f4 := cf 4
  have M := made_some d m w c0
  have A := alive d false w c5
  have t0 : decide (n < 0) = false := decide_eq_false (by omega)
  have hfin : DiskAt ((w.setCell ⟨d, 3, none⟩ (.bool true)).setCell ⟨d, 4, none⟩ (.int .i64 n)) B d st room used true n false ∧ Below B w ((w.setCell ⟨d, 3, none⟩ (.bool true)).setCell ⟨d, 4, none⟩ (.int .i64 n)) :=
    ⟨(h.rewrite (fun m hm => dset3 hm true) (fun k hk => heap_setCell_other _ _ _ _ hk)).rewrite (fun m hm => dset4 hm n) (fun k hk => heap_setCell_other _ _ _ _ hk), ((Below.refl _ _).setCell hBd _).setCell hBd _⟩
  replace hfin := Lib.hid hfin
  clear h h3 h4 h5 c0 c1 c2 cf hn
  go_enter Try.func15, Try.ntmps15
  go_wp2_with (first | (go_at_call 30; refine M.mono ?_; rintro e w1 ⟨rfl, rfl⟩) | (go_at_call 27; refine A.mono ?_; rintro e w1 ⟨rfl, rfl⟩))
  go_ret
  exact ⟨rfl, hfin.out⟩
theorem field0 (a : Option Addr) (n cap : Nat) (s : Int) (w : World) : (Instr.field 65 (.agg #[.slice a n cap, .int .i64 s]) 0).run Try.prog w = .ok (.slice a n cap) w := by
  unfold Instr.field
  simp [run_underlying Try.underlying65, Result.andThen, asAgg, part, Sem.run_pure]
/-- cells stay, but a disk's -/
def Still (w w' : World) : Prop := ∀ (g : Nat) (cur : Array Value) (t : TypeId), t ≠ 44 → w.heap[g]? = some (.cells cur t (0, 0)) → w'.heap[g]? = w.heap[g]?
/-- put: a zone that has bytes, or none -/
theorem put_some (w : World) (B d : Nat) (st : ZSt) (room used : Int) (lit : Bool) (left : Int) (dead : Bool) (h : DiskAt w B d st room used lit left dead) (z : Int) (a : Option Addr) (l : List Nat) (n cap : Nat) (s : Nat) (hr : Row w a l) (hn : l.length = n) (hc : n ≤ cap) (hcap : cap ≤ 9223372036854775807)
    (ht : ∀ ad, a = some ad → ∃ cur, w.heap[ad.block]? = some (.cells cur 5 (0, 0))) (h0 : 0 < n) (hs : s ≤ n) (hB : B ≤ w.heap.size) (hu : -4611686018427387904 ≤ used ∧ used ≤ 4611686018427387904) (hn2 : n ≤ 1152921504606846976) (hl2 : ∀ q, st z = some q → q.1.length ≤ 1152921504606846976) :
    Calls Try.prog 29 #[.pointer (some ⟨d, 0, none⟩), .int .i64 z, zVal a n cap s] w fun e w' => e = .returned (.tuple #[]) ∧ DiskAt w' B d (fun z' => if z' = z then some (l, s) else st z') room (used + ((n : Int) - ((((st z).getD ([], 0)).1.length : Nat) : Int))) lit left dead ∧ Below B w w' ∧ Still w w' := by
  obtain ⟨m, L, hBd, hBm, h3, h4, h5⟩ := id h
  obtain ⟨a', n', cap', s', hv, hn'⟩ : ∃ (a' : Option Addr) (n' cap' : Nat) (s' : Int), (zfind L z).getD (zVal none 0 0 0) = zVal a' n' cap' s' ∧ ((st z).getD ([], 0)).1.length = n' := by
    rcases h5 z with ⟨e1, e2⟩ | ⟨q, v, e1, e2, aq, cq, rfl, _⟩
    · exact ⟨none, 0, 0, 0, by rw [e2]; rfl, by rw [e1]; rfl⟩
    · exact ⟨aq, q.1.length, cq, q.2, by rw [e2]; rfl, by rw [e1]; rfl⟩
  have hn3 : n' ≤ 1152921504606846976 := by
    rw [← hn']
    cases e : st z with
    | none => simp
    | some q => exact hl2 q e
  rw [hn']
  have hdl : d < w.heap.size := (Array.getElem?_eq_some_iff.1 h3).1
  have hml : m < w.heap.size := h4.lt
  have hdm : d ≠ m := by intro e; obtain ⟨c, hb, _⟩ := h4; rw [← e, h3] at hb; cases hb
  have hX := heap_alloc_new w (.cells #[.slice a n cap, .int .i64 (s : Int)] 65)
  have hb1 : Below w.heap.size w (w.alloc (.cells #[.slice a n cap, .int .i64 (s : Int)] 65)) := (Below.refl _ _).alloc (Nat.le_refl _) _
  have hsz : (w.alloc (.cells #[.slice a n cap, .int .i64 (s : Int)] 65)).heap.size = w.heap.size + 1 := by simp
  have x0 : (w.alloc (.cells #[.slice a n cap, .int .i64 (s : Int)] 65)).cell? ⟨w.heap.size, 0, none⟩ = some (.slice a n cap) := by rw [cell_of_row _ _ _ _ _ _ hX]; rfl
  have x1 : (w.alloc (.cells #[.slice a n cap, .int .i64 (s : Int)] 65)).cell? ⟨w.heap.size, 1, none⟩ = some (.int .i64 (s : Int)) := by rw [cell_of_row _ _ _ _ _ _ hX]; rfl
  have hd1 := hb1.block d hdl
  have hm1 := hb1.block m hml
  unfold zVal
  go_enter Try.func29, Try.ntmps29
  go_wp2_with fail
  generalize w.alloc (.cells #[.slice a n cap, .int .i64 (s : Int)] 65) = W at *
  have hM := h4.keep hm1
  rw [← hd1] at h3
  obtain ⟨c0, c1, c2, c3, c4, c5, cf⟩ := dcell h3
  have f2 := cf 2
  have K := lookup_any W.drew m L z (hM.keep rfl)
  rw [hv] at K
  unfold zVal at K
  have K2 := lookup_any W m L z hM
  rw [hv] at K2
  unfold zVal at K2
  have hw1 : IntKind.i64.wrap ((n : Int) - n') = (n : Int) - n' := IntWalk.i64_in _ (by omega)
  have hw2 : IntKind.i64.wrap (used + ((n : Int) - n')) = used + ((n : Int) - n') := IntWalk.i64_in _ (by omega)
  have hfl := field0
  replace h4 := Lib.hid h4
  replace h5 := Lib.hid h5
  go_still_tail 19, (by kernel_rfl)
  change wpList _ _ _ _ _ W.drew
  have hWB : Below w.heap.size w W.drew := hb1.drew
  have hk3 : W.drew.heap[d]? = some (.cells (dCells m room used lit left dead) 44 (0, 0)) := h3
  have hX2 : W.drew.heap[w.heap.size]? = some (.cells #[.slice a n cap, .int .i64 (s : Int)] 65 (0, 0)) := hX
  have hM2 : MapAt W.drew m L := hM.keep rfl
  clear hb1 h3 hX x0 x1 hd1 hm1 hM c0 c1 c2 c3 c4 c5 cf f2 K K2 hw1 hsz
  generalize W.drew = V at *
  have g3 := dset2 hk3 (used + ((n : Int) - n'))
  have f2 : V.frozen? ⟨d, 2, none⟩ = false := frozen_of_row _ _ _ _ _ hk3
  have e2 : V.cell? ⟨d, 2, none⟩ = some (.int .i64 used) := (dcell hk3).2.2.1
  have hXd : w.heap.size ≠ d := by omega
  have hgX : (V.setCell ⟨d, 2, none⟩ (.int .i64 (used + ((n : Int) - n')))).heap[w.heap.size]? = some (.cells #[.slice a n cap, .int .i64 (s : Int)] 65 (0, 0)) := by rw [heap_setCell_other _ _ _ _ hXd]; exact hX2
  have hgM : MapAt (V.setCell ⟨d, 2, none⟩ (.int .i64 (used + ((n : Int) - n')))) m L := hM2.keep (heap_setCell_other _ _ _ _ (Ne.symm hdm))
  have hgB : Below B w (V.setCell ⟨d, 2, none⟩ (.int .i64 (used + ((n : Int) - n')))) := (hWB.mono hB).setCell hBd _
  have hgO : ∀ k, k < w.heap.size → k ≠ d → (V.setCell ⟨d, 2, none⟩ (.int .i64 (used + ((n : Int) - n')))).heap[k]? = w.heap[k]? := fun k h1 h2 => by rw [heap_setCell_other _ _ _ _ h2]; exact hWB.block k h1
  replace hWB := Lib.hid hWB
  replace hk3 := Lib.hid hk3
  replace hX2 := Lib.hid hX2
  replace hM2 := Lib.hid hM2
  replace hgM := Lib.hid hgM
  replace hgB := Lib.hid hgB
  replace hgO := Lib.hid hgO
  replace g3 := Lib.hid g3
  replace hgX := Lib.hid hgX
  have hn0 : ((n : Int) == 0) = false := beq_eq_false_iff_ne.2 (by omega)
  have q0 : (V.setCell ⟨d, 2, none⟩ (.int .i64 (used + ((n : Int) - n')))).cell? ⟨w.heap.size, 0, none⟩ = some (.slice a n cap) := by rw [cell_of_row _ _ _ _ _ _ hgX.out]; rfl
  have q1 : (V.setCell ⟨d, 2, none⟩ (.int .i64 (used + ((n : Int) - n')))).cell? ⟨w.heap.size, 1, none⟩ = some (.int .i64 (s : Int)) := by rw [cell_of_row _ _ _ _ _ _ hgX.out]; rfl
  have q2 : (V.setCell ⟨d, 2, none⟩ (.int .i64 (used + ((n : Int) - n')))).cell? ⟨d, 0, none⟩ = some (.map (some m)) := (dcell g3.out).1
  go_wp2_with fail
  generalize V.setCell ⟨d, 2, none⟩ (.int .i64 (used + ((n : Int) - n'))) = U at *
  go_still_tail 6, (by kernel_rfl)
  change wpList _ _ _ _ _ U.drew
  obtain ⟨o, L', hrun, hmap, hfind⟩ := update_any U.drew m L z (zVal a n cap s) (hgM.out.keep rfl)
  have hfin : DiskAt (setMap U.drew m o) B d (fun z' => if z' = z then some (l, s) else st z') room (used + ((n : Int) - n')) lit left dead ∧ Below B w (setMap U.drew m o) ∧ Still w (setMap U.drew m o) := by
    have hst : Still w (setMap U.drew m o) := by
      intro g cur t ht4 hg
      have hgm : g ≠ m := by intro e; obtain ⟨c, hb, _⟩ := h4.out; rw [← e, hg] at hb; cases hb
      have hgd : g ≠ d := by
        intro e; subst e
        obtain ⟨m', L'', _, _, h3', _⟩ := h
        rw [hg] at h3'; cases h3'; exact ht4 rfl
      rw [setMap_other _ hgm]
      exact hgO.out g (Array.getElem?_eq_some_iff.1 hg).1 hgd
    have hs5 := fun g cur hg => hst g cur 5 (by decide) hg
    refine ⟨⟨m, L', hBd, hBm, ?_, hmap, ?_⟩, below_setMap hgB.out.drew hBm _, hst⟩
    · rw [setMap_other _ hdm]; exact g3.out
    · intro z'
      by_cases hz : z' = z
      · refine .inr ⟨(l, s), zVal a n cap s, by simp [hz], by rw [hfind, if_pos hz], a, cap, by rw [← hn], row_change hr (fun ad ha => ?_), (by show l.length ≤ cap; omega), hcap, fun ad ha => ?_, ?_, by simpa [hn] using hs⟩
        · obtain ⟨cur, hc'⟩ := ht ad ha; exact hs5 _ _ hc'
        · obtain ⟨cur, hc'⟩ := ht ad ha; exact ⟨cur, by rw [hs5 _ _ hc']; exact hc'⟩
        · intro e
          have e' : l = [] := e
          rw [e'] at hn; simp at hn; omega
      · rcases (h5.out.change hs5) z' with ⟨e1, e2⟩ | ⟨q, v, e1, e2, e3⟩
        · exact .inl ⟨by simp [hz, e1], by rw [hfind, if_neg hz, e2]⟩
        · exact .inr ⟨q, v, by simp [hz, e1], by rw [hfind, if_neg hz, e2], e3⟩
  unfold zVal at hrun
  replace hfin := Lib.hid hfin
  clear hmap hfind
  go_wp2_with fail
  go_end0
  exact ⟨rfl, hfin.out⟩
/-- put: no bytes: the zone is none -/
theorem put_none (w : World) (B d : Nat) (st : ZSt) (room used : Int) (lit : Bool) (left : Int) (dead : Bool) (h : DiskAt w B d st room used lit left dead) (z : Int) (a : Option Addr) (cap : Nat) (s : Int)
    (hB : B ≤ w.heap.size) (hu : -4611686018427387904 ≤ used ∧ used ≤ 4611686018427387904) (hl2 : ∀ q, st z = some q → q.1.length ≤ 1152921504606846976) :
    Calls Try.prog 29 #[.pointer (some ⟨d, 0, none⟩), .int .i64 z, zVal a 0 cap s] w fun e w' => e = .returned (.tuple #[]) ∧ DiskAt w' B d (fun z' => if z' = z then none else st z') room (used - ((((st z).getD ([], 0)).1.length : Nat) : Int)) lit left dead ∧ Below B w w' ∧ Still w w' := by
  obtain ⟨m, L, hBd, hBm, h3, h4, h5⟩ := id h
  obtain ⟨a', n', cap', s', hv, hn'⟩ : ∃ (a' : Option Addr) (n' cap' : Nat) (s' : Int), (zfind L z).getD (zVal none 0 0 0) = zVal a' n' cap' s' ∧ ((st z).getD ([], 0)).1.length = n' := by
    rcases h5 z with ⟨e1, e2⟩ | ⟨q, v, e1, e2, aq, cq, rfl, _⟩
    · exact ⟨none, 0, 0, 0, by rw [e2]; rfl, by rw [e1]; rfl⟩
    · exact ⟨aq, q.1.length, cq, q.2, by rw [e2]; rfl, by rw [e1]; rfl⟩
  have hn3 : n' ≤ 1152921504606846976 := by
    rw [← hn']
    cases e : st z with
    | none => simp
    | some q => exact hl2 q e
  rw [hn']
  have hdl : d < w.heap.size := (Array.getElem?_eq_some_iff.1 h3).1
  have hml : m < w.heap.size := h4.lt
  have hdm : d ≠ m := by intro e; obtain ⟨c, hb, _⟩ := h4; rw [← e, h3] at hb; cases hb
  have hX := heap_alloc_new w (.cells #[.slice a 0 cap, .int .i64 s] 65)
  have hb1 : Below w.heap.size w (w.alloc (.cells #[.slice a 0 cap, .int .i64 s] 65)) := (Below.refl _ _).alloc (Nat.le_refl _) _
  have hsz : (w.alloc (.cells #[.slice a 0 cap, .int .i64 s] 65)).heap.size = w.heap.size + 1 := by simp
  have x0 : (w.alloc (.cells #[.slice a 0 cap, .int .i64 s] 65)).cell? ⟨w.heap.size, 0, none⟩ = some (.slice a 0 cap) := by rw [cell_of_row _ _ _ _ _ _ hX]; rfl
  have x1 : (w.alloc (.cells #[.slice a 0 cap, .int .i64 s] 65)).cell? ⟨w.heap.size, 1, none⟩ = some (.int .i64 s) := by rw [cell_of_row _ _ _ _ _ _ hX]; rfl
  have hd1 := hb1.block d hdl
  have hm1 := hb1.block m hml
  unfold zVal
  go_enter Try.func29, Try.ntmps29
  go_wp2_with fail
  generalize w.alloc (.cells #[.slice a 0 cap, .int .i64 s] 65) = W at *
  have hM := h4.keep hm1
  rw [← hd1] at h3
  obtain ⟨c0, c1, c2, c3, c4, c5, cf⟩ := dcell h3
  have f2 := cf 2
  have K := lookup_any W.drew m L z (hM.keep rfl)
  rw [hv] at K
  unfold zVal at K
  have K2 := lookup_any W m L z hM
  rw [hv] at K2
  unfold zVal at K2
  have hw1 : IntKind.i64.wrap (0 - (n' : Int)) = -(n' : Int) := by rw [Int.zero_sub]; exact IntWalk.i64_in _ (by omega)
  have hw1' : IntKind.i64.wrap (-(n' : Int)) = -(n' : Int) := IntWalk.i64_in _ (by omega)
  have hw2 : IntKind.i64.wrap (used + -(n' : Int)) = used - (n' : Int) := IntWalk.i64_in _ (by omega)
  have hfl := field0
  replace h4 := Lib.hid h4
  replace h5 := Lib.hid h5
  go_still_tail 19, (by kernel_rfl)
  change wpList _ _ _ _ _ W.drew
  have hWB : Below w.heap.size w W.drew := hb1.drew
  have hk3 : W.drew.heap[d]? = some (.cells (dCells m room used lit left dead) 44 (0, 0)) := h3
  have hX2 : W.drew.heap[w.heap.size]? = some (.cells #[.slice a 0 cap, .int .i64 s] 65 (0, 0)) := hX
  have hM2 : MapAt W.drew m L := hM.keep rfl
  clear hb1 h3 hX x0 x1 hd1 hm1 hM c0 c1 c2 c3 c4 c5 cf f2 K K2 hw1 hsz
  generalize W.drew = V at *
  have g3 := dset2 hk3 (used - (n' : Int))
  have f2 : V.frozen? ⟨d, 2, none⟩ = false := frozen_of_row _ _ _ _ _ hk3
  have e2 : V.cell? ⟨d, 2, none⟩ = some (.int .i64 used) := (dcell hk3).2.2.1
  have hXd : w.heap.size ≠ d := by omega
  have hgX : (V.setCell ⟨d, 2, none⟩ (.int .i64 (used - (n' : Int)))).heap[w.heap.size]? = some (.cells #[.slice a 0 cap, .int .i64 s] 65 (0, 0)) := by rw [heap_setCell_other _ _ _ _ hXd]; exact hX2
  have hgM : MapAt (V.setCell ⟨d, 2, none⟩ (.int .i64 (used - (n' : Int)))) m L := hM2.keep (heap_setCell_other _ _ _ _ (Ne.symm hdm))
  have hgB : Below B w (V.setCell ⟨d, 2, none⟩ (.int .i64 (used - (n' : Int)))) := (hWB.mono hB).setCell hBd _
  have hgO : ∀ k, k < w.heap.size → k ≠ d → (V.setCell ⟨d, 2, none⟩ (.int .i64 (used - (n' : Int)))).heap[k]? = w.heap[k]? := fun k h1 h2 => by rw [heap_setCell_other _ _ _ _ h2]; exact hWB.block k h1
  replace hWB := Lib.hid hWB
  replace hk3 := Lib.hid hk3
  replace hX2 := Lib.hid hX2
  replace hM2 := Lib.hid hM2
  replace hgM := Lib.hid hgM
  replace hgB := Lib.hid hgB
  replace hgO := Lib.hid hgO
  replace g3 := Lib.hid g3
  replace hgX := Lib.hid hgX
  have q0 : (V.setCell ⟨d, 2, none⟩ (.int .i64 (used - (n' : Int)))).cell? ⟨w.heap.size, 0, none⟩ = some (.slice a 0 cap) := by rw [cell_of_row _ _ _ _ _ _ hgX.out]; rfl
  have q1 : (V.setCell ⟨d, 2, none⟩ (.int .i64 (used - (n' : Int)))).cell? ⟨w.heap.size, 1, none⟩ = some (.int .i64 s) := by rw [cell_of_row _ _ _ _ _ _ hgX.out]; rfl
  have q2 : (V.setCell ⟨d, 2, none⟩ (.int .i64 (used - (n' : Int)))).cell? ⟨d, 0, none⟩ = some (.map (some m)) := (dcell g3.out).1
  obtain ⟨o, L', hrun, hmap, hfind⟩ := delete_any (V.setCell ⟨d, 2, none⟩ (.int .i64 (used - (n' : Int)))) m L z 0 hgM.out
  have hfin : DiskAt (setMap (V.setCell ⟨d, 2, none⟩ (.int .i64 (used - (n' : Int)))) m o) B d (fun z' => if z' = z then none else st z') room (used - (n' : Int)) lit left dead ∧ Below B w (setMap (V.setCell ⟨d, 2, none⟩ (.int .i64 (used - (n' : Int)))) m o) ∧ Still w (setMap (V.setCell ⟨d, 2, none⟩ (.int .i64 (used - (n' : Int)))) m o) := by
    have hst : Still w (setMap (V.setCell ⟨d, 2, none⟩ (.int .i64 (used - (n' : Int)))) m o) := by
      intro g cur t ht4 hg
      have hgm : g ≠ m := by intro e; obtain ⟨c, hb, _⟩ := h4.out; rw [← e, hg] at hb; cases hb
      have hgd : g ≠ d := by
        intro e; subst e
        obtain ⟨m', L'', _, _, h3', _⟩ := h
        rw [hg] at h3'; cases h3'; exact ht4 rfl
      rw [setMap_other _ hgm]
      exact hgO.out g (Array.getElem?_eq_some_iff.1 hg).1 hgd
    have hs5 := fun g cur hg => hst g cur 5 (by decide) hg
    refine ⟨⟨m, L', hBd, hBm, ?_, hmap, ?_⟩, below_setMap hgB.out hBm _, hst⟩
    · rw [setMap_other _ hdm]; exact g3.out
    · intro z'
      by_cases hz : z' = z
      · exact .inl ⟨by simp [hz], by rw [hfind, if_pos hz]⟩
      · rcases (h5.out.change hs5) z' with ⟨e1, e2⟩ | ⟨q, v, e1, e2, e3⟩
        · exact .inl ⟨by simp [hz, e1], by rw [hfind, if_neg hz, e2]⟩
        · exact .inr ⟨q, v, by simp [hz, e1], by rw [hfind, if_neg hz, e2], e3⟩
  replace hfin := Lib.hid hfin
  clear hmap hfind
  go_wp2_with fail
  exact bodyPost_ret (v := .tuple #[]) (by simp [results, Try.results29, go_sem]) rfl ⟨rfl, hfin.out⟩
end Go.Proofs.Ytjphboljhkddaaa
