/- A disk in memory; the small calls. -/
import Derived.Test.YtjphboljhkddaaaZone
import Derived.WalkSpells
set_option linter.unusedVariables false
namespace Go.Proofs.Ytjphboljhkddaaa
open Go.RowKit

abbrev ZSt := Int → Option (List Nat × Nat)
def ZR (w : World) (v : Value) (q : List Nat × Nat) : Prop :=
  ∃ a cap, v = zVal a q.1.length cap (q.2 : Int) ∧ Row w a q.1 ∧ q.1.length ≤ cap ∧ cap ≤ 9223372036854775807 ∧ (∀ ad, a = some ad → ∃ cur, w.heap[ad.block]? = some (.cells cur 5 (0, 0))) ∧ q.1 ≠ [] ∧ q.2 ≤ q.1.length
def ZS (w : World) (L : List ZE) (st : ZSt) : Prop := ∀ z, (st z = none ∧ zfind L z = none) ∨ ∃ q v, st z = some q ∧ zfind L z = some v ∧ ZR w v q
def dCells (m : Nat) (room used : Int) (lit : Bool) (left : Int) (dead : Bool) : Array Value := #[.map (some m), .int .i64 room, .int .i64 used, .bool lit, .int .i64 left, .bool dead]
def DiskAt (w : World) (B d : Nat) (st : ZSt) (room used : Int) (lit : Bool) (left : Int) (dead : Bool) : Prop :=
  ∃ m L, B ≤ d ∧ B ≤ m ∧ w.heap[d]? = some (.cells (dCells m room used lit left dead) 44 (0, 0)) ∧ MapAt w m L ∧ ZS w L st
theorem row_change {w w' : World} {a : Option Addr} {l : List Nat} (h : Row w a l) (hs : ∀ ad, a = some ad → w'.heap[ad.block]? = w.heap[ad.block]?) : Row w' a l := by
  obtain ⟨h1, h2, h3⟩ := h
  refine ⟨h1, h2, ?_⟩
  rcases h3 with h3 | ⟨b, off, ha, hc⟩
  · exact .inl h3
  · refine .inr ⟨b, off, ha, fun i hi => ?_⟩
    have := hc i hi
    have hsb : w'.heap[b]? = w.heap[b]? := hs ⟨b, off, none⟩ ha
    rw [World.cell?_of_block (a := ⟨b, off + i, none⟩) hsb]
    exact this
theorem ZR.change {w w' : World} {v : Value} {q : List Nat × Nat} (h : ZR w v q) (hs : ∀ (g : Nat) (cur : Array Value), w.heap[g]? = some (.cells cur 5 (0, 0)) → w'.heap[g]? = w.heap[g]?) : ZR w' v q := by
  obtain ⟨a, cap, h1, hr, h2, h3, h4, h5⟩ := h
  refine ⟨a, cap, h1, row_change hr (fun ad ha => ?_), h2, h3, fun ad ha => ?_, h5⟩
  · obtain ⟨cur, hc⟩ := h4 ad ha; exact hs _ _ hc
  · obtain ⟨cur, hc⟩ := h4 ad ha; exact ⟨cur, by rw [hs _ _ hc]; exact hc⟩
theorem ZS.change {w w' : World} {L : List ZE} {st : ZSt} (h : ZS w L st) (hs : ∀ (g : Nat) (cur : Array Value), w.heap[g]? = some (.cells cur 5 (0, 0)) → w'.heap[g]? = w.heap[g]?) : ZS w' L st := by
  intro z
  rcases h z with h | ⟨q, v, h1, h2, h3⟩
  · exact .inl h
  · exact .inr ⟨q, v, h1, h2, h3.change hs⟩
theorem MapAt.keep {w w' : World} {m : Nat} {L : List ZE} (h : MapAt w m L) (hs : w'.heap[m]? = w.heap[m]?) : MapAt w' m L := by
  obtain ⟨c, hb, r⟩ := h
  exact ⟨c, by rw [hs]; exact hb, r⟩
theorem MapAt.lt {w : World} {m : Nat} {L : List ZE} (h : MapAt w m L) : m < w.heap.size := by
  obtain ⟨c, hb, r⟩ := h
  exact (Array.getElem?_eq_some_iff.1 hb).1
theorem DiskAt.below {w w' : World} {B d : Nat} {st : ZSt} {room used : Int} {lit : Bool} {left : Int} {dead : Bool} (h : DiskAt w B d st room used lit left dead) (hb : Below w.heap.size w w') : DiskAt w' B d st room used lit left dead := by
  obtain ⟨m, L, h1, h2, h3, h4, h5⟩ := h
  exact ⟨m, L, h1, h2, by rw [hb.block _ (Array.getElem?_eq_some_iff.1 h3).1]; exact h3, h4.keep (hb.block _ h4.lt), h5.change fun g cur hg => hb.block _ (Array.getElem?_eq_some_iff.1 hg).1⟩
theorem below_setMap {B : Nat} {a w : World} (h : Below B a w) {m : Nat} (hm : B ≤ m) (o : Obj) : Below B a (setMap w m o) :=
  h.trans ⟨rfl, rfl, rfl, by simp [setMap], fun k hk => by
    show (w.heap.setIfInBounds m o)[k]? = _
    have : ¬ m = k := by omega
    simp [this]⟩
theorem setMap_other {w : World} {m k : Nat} (o : Obj) (h : k ≠ m) : (setMap w m o).heap[k]? = w.heap[k]? := by
  show (w.heap.setIfInBounds m o)[k]? = _
  simp [Ne.symm h]
/-- the cells of a disk -/
theorem dcell {w : World} {d m : Nat} {room used : Int} {lit : Bool} {left : Int} {dead : Bool} (h : w.heap[d]? = some (.cells (dCells m room used lit left dead) 44 (0, 0))) :
    w.cell? ⟨d, 0, none⟩ = some (.map (some m)) ∧ w.cell? ⟨d, 1, none⟩ = some (.int .i64 room) ∧ w.cell? ⟨d, 2, none⟩ = some (.int .i64 used) ∧ w.cell? ⟨d, 3, none⟩ = some (.bool lit) ∧ w.cell? ⟨d, 4, none⟩ = some (.int .i64 left) ∧ w.cell? ⟨d, 5, none⟩ = some (.bool dead) ∧ ∀ i, w.frozen? ⟨d, i, none⟩ = false := by
  refine ⟨?_, ?_, ?_, ?_, ?_, ?_, fun i => frozen_of_row _ _ _ _ _ h⟩ <;> rw [cell_of_row _ _ _ _ _ _ h] <;> rfl

theorem made_some (d m : Nat) (w : World) (h : w.cell? ⟨d, 0, none⟩ = some (.map (some m))) : Calls Try.prog 30 #[.pointer (some ⟨d, 0, none⟩)] w fun e w' => e = .returned (.int .i64 0) ∧ w = w' := by
  have hq := fun w : World => run_eql_map_nil (P := Try.prog) w 40 3 65 (some m) Try.underlying40
  go_enter Try.func30, Try.ntmps30
  go_wp2_with fail
  go_ret
  exact ⟨rfl, rfl⟩
theorem made_zero (d : Nat) (w : World) (h : w.cell? ⟨d, 0, none⟩ = some (.map none)) : Calls Try.prog 30 #[.pointer (some ⟨d, 0, none⟩)] w fun e w' => e = .returned (.int .i64 2) ∧ w = w' := by
  have hq := fun w : World => run_eql_map_nil (P := Try.prog) w 40 3 65 none Try.underlying40
  go_enter Try.func30, Try.ntmps30
  go_wp2_with fail
  go_ret
  exact ⟨rfl, rfl⟩
theorem made_nil (w : World) : Calls Try.prog 30 #[.pointer none] w fun e w' => e = .returned (.int .i64 2) ∧ w = w' := by
  go_enter Try.func30, Try.ntmps30
  go_wp2_with fail
  go_ret
  exact ⟨rfl, rfl⟩
theorem known_some (d m : Nat) (z : Int) (w : World) (h : w.cell? ⟨d, 0, none⟩ = some (.map (some m))) (h0 : 0 ≤ z) (h1 : z < 40) : Calls Try.prog 26 #[.pointer (some ⟨d, 0, none⟩), .int .i64 z] w fun e w' => e = .returned (.int .i64 0) ∧ w = w' := by
  have M := made_some d m w h
  have t0 : decide (z < 0) = false := decide_eq_false (by omega)
  have t1 : decide (40 ≤ z) = false := decide_eq_false (by omega)
  go_enter Try.func26, Try.ntmps26
  go_wp2_with (go_at_call 30; refine M.mono ?_; rintro e w1 ⟨rfl, rfl⟩)
  go_ret
  exact ⟨rfl, rfl⟩
theorem known_none (p : Option Addr) (z : Int) (w : World) (M : Calls Try.prog 30 #[.pointer p] w fun e w' => e = .returned (.int .i64 2) ∧ w = w') : Calls Try.prog 26 #[.pointer p, .int .i64 z] w fun e w' => e = .returned (.int .i64 2) ∧ w = w' := by
  go_enter Try.func26, Try.ntmps26
  go_wp2_with (go_at_call 30; refine M.mono ?_; rintro e w1 ⟨rfl, rfl⟩)
  go_ret
  exact ⟨rfl, rfl⟩
theorem alive (d : Nat) (dead : Bool) (w : World) (h : w.cell? ⟨d, 5, none⟩ = some (.bool dead)) : Calls Try.prog 27 #[.pointer (some ⟨d, 0, none⟩)] w fun e w' => e = .returned (.int .i64 (if dead then 8 else 0)) ∧ w = w' := by
  cases dead with
  | true =>
    go_enter Try.func27, Try.ntmps27
    go_wp2_with fail
    go_ret
    exact ⟨rfl, rfl⟩
  | false =>
    go_enter Try.func27, Try.ntmps27
    go_wp2_with fail
    go_ret
    exact ⟨rfl, rfl⟩
theorem dset5 {w : World} {d m : Nat} {room used : Int} {lit : Bool} {left : Int} {dead : Bool} (h : w.heap[d]? = some (.cells (dCells m room used lit left dead) 44 (0, 0))) (b : Bool) :
    (w.setCell ⟨d, 5, none⟩ (.bool b)).heap[d]? = some (.cells (dCells m room used lit left b) 44 (0, 0)) := by
  rw [heap_setCell_same _ _ _ _ _ _ h]; rfl
theorem dset4 {w : World} {d m : Nat} {room used : Int} {lit : Bool} {left : Int} {dead : Bool} (h : w.heap[d]? = some (.cells (dCells m room used lit left dead) 44 (0, 0))) (b : Int) :
    (w.setCell ⟨d, 4, none⟩ (.int .i64 b)).heap[d]? = some (.cells (dCells m room used lit b dead) 44 (0, 0)) := by
  rw [heap_setCell_same _ _ _ _ _ _ h]; rfl
theorem dset3 {w : World} {d m : Nat} {room used : Int} {lit : Bool} {left : Int} {dead : Bool} (h : w.heap[d]? = some (.cells (dCells m room used lit left dead) 44 (0, 0))) (b : Bool) :
    (w.setCell ⟨d, 3, none⟩ (.bool b)).heap[d]? = some (.cells (dCells m room used b left dead) 44 (0, 0)) := by
  rw [heap_setCell_same _ _ _ _ _ _ h]; rfl
theorem dset2 {w : World} {d m : Nat} {room used : Int} {lit : Bool} {left : Int} {dead : Bool} (h : w.heap[d]? = some (.cells (dCells m room used lit left dead) 44 (0, 0))) (b : Int) :
    (w.setCell ⟨d, 2, none⟩ (.int .i64 b)).heap[d]? = some (.cells (dCells m room b lit left dead) 44 (0, 0)) := by
  rw [heap_setCell_same _ _ _ _ _ _ h]; rfl
/-- a world in which the disk's own cells alone were written -/
theorem DiskAt.rewrite {w w' : World} {B d : Nat} {st : ZSt} {room used : Int} {lit : Bool} {left : Int} {dead : Bool} (h : DiskAt w B d st room used lit left dead) {room' used' : Int} {lit' : Bool} {left' : Int} {dead' : Bool}
    (hd : ∀ m, w.heap[d]? = some (.cells (dCells m room used lit left dead) 44 (0, 0)) → w'.heap[d]? = some (.cells (dCells m room' used' lit' left' dead') 44 (0, 0))) (ho : ∀ k, k ≠ d → w'.heap[k]? = w.heap[k]?) : DiskAt w' B d st room' used' lit' left' dead' := by
  obtain ⟨m, L, h1, h2, h3, h4, h5⟩ := h
  refine ⟨m, L, h1, h2, hd m h3, h4.keep (ho _ ?_), h5.change fun g cur hg => ho _ ?_⟩
  · intro e; obtain ⟨c, hb, _⟩ := h4; rw [e, h3] at hb; cases hb
  · intro e; rw [e, h3] at hg; cases hg
/-- a row of bytes does not lie in a disk -/
theorem row_not_disk {w : World} {d m : Nat} {room used : Int} {lit : Bool} {left : Int} {dead : Bool} (h : w.heap[d]? = some (.cells (dCells m room used lit left dead) 44 (0, 0))) {a : Option Addr} {l : List Nat} (hr : Row w a l) (hl : l ≠ []) : ∀ ad, a = some ad → ad.block ≠ d := by
  intro ad ha e
  rcases hr.2.2 with h' | ⟨b, off, hb, hc⟩
  · exact hl h'
  · rw [ha] at hb; cases hb
    have e' : b = d := e
    subst e'
    have := hc 0 (List.length_pos_iff.2 hl)
    rw [cell_of_row _ _ _ _ _ _ h] at this
    unfold dCells at this
    match hoff : off + 0, this with
    | 0, this => simp at this
    | 1, this => simp at this
    | 2, this => simp at this
    | 3, this => simp at this
    | 4, this => simp at this
    | 5, this => simp at this
    | k + 6, this => simp at this
theorem row_at_disk {w w' : World} {d m : Nat} {room used : Int} {lit : Bool} {left : Int} {dead : Bool} (h : w.heap[d]? = some (.cells (dCells m room used lit left dead) 44 (0, 0))) {a : Option Addr} {l : List Nat} (hr : Row w a l) (ho : ∀ k, k ≠ d → w'.heap[k]? = w.heap[k]?) : Row w' a l := by
  by_cases hl : l = []
  · subst hl; exact row_nil _ _
  · exact row_change hr fun ad ha => ho _ (row_not_disk h hr hl ad ha)
def burnt (lit : Bool) (left : Int) (dead : Bool) : Bool := dead || (lit && left == 0)
def leftOver (lit : Bool) (left : Int) (dead : Bool) : Int := if lit && !burnt lit left dead then left - 1 else left
def BurnP (w : World) (B d : Nat) (st : ZSt) (room used : Int) (lit : Bool) (left : Int) (dead : Bool) (e : Ending) (w' : World) : Prop :=
  e = .returned (.int .i64 (if burnt lit left dead then 8 else 0)) ∧ DiskAt w' B d st room used lit (leftOver lit left dead) (burnt lit left dead) ∧ Below B w w' ∧ ∀ k, k ≠ d → w'.heap[k]? = w.heap[k]?
theorem burn (w : World) (B d : Nat) (st : ZSt) (room used : Int) (lit : Bool) (left : Int) (dead : Bool) (h : DiskAt w B d st room used lit left dead) (hl : 0 ≤ left ∧ left ≤ 4611686018427387904) :
    Calls Try.prog 28 #[.pointer (some ⟨d, 0, none⟩)] w (BurnP w B d st room used lit left dead) := by
  obtain ⟨m, L, hBd, hBm, h3, h4, h5⟩ := id h
  obtain ⟨c0, c1, c2, c3, c4, c5, cf⟩ := dcell h3
  have f3 := cf 3
  have f4 := cf 4
  have f5 := cf 5
  cases lit with
  | false =>
    cases dead with
    | true =>
      have hfin : BurnP w B d st room used false left true (.returned (.int .i64 8)) w := ⟨by simp [burnt], by simpa [burnt, leftOver] using h, Below.refl _ _, fun _ _ => rfl⟩
      have A := alive d true w c5
      replace hfin := Lib.hid hfin
      clear h h3 h4 h5 c0 c1 c2
      go_enter Try.func28, Try.ntmps28
      go_wp2_with (go_at_call 27; refine A.mono ?_; rintro e w1 ⟨rfl, rfl⟩)
      go_ret
      exact hfin.out
    | false =>
      have hfin : BurnP w B d st room used false left false (.returned (.int .i64 0)) w := ⟨by simp [burnt], by simpa [burnt, leftOver] using h, Below.refl _ _, fun _ _ => rfl⟩
      have A := alive d false w c5
      replace hfin := Lib.hid hfin
      clear h h3 h4 h5 c0 c1 c2
      go_enter Try.func28, Try.ntmps28
      go_wp2_with (go_at_call 27; refine A.mono ?_; rintro e w1 ⟨rfl, rfl⟩)
      go_ret
      exact hfin.out
  | true =>
    by_cases h0 : left = 0
    · subst h0
      have g5 := dset5 h3 true
      obtain ⟨_, _, _, _, _, e5, _⟩ := dcell g5
      have hfin : BurnP w B d st room used true 0 dead (.returned (.int .i64 8)) (w.setCell ⟨d, 5, none⟩ (.bool true)) := by
        refine ⟨by simp [burnt], ?_, (Below.refl _ _).setCell hBd _, fun k hk => heap_setCell_other _ _ _ _ hk⟩
        have : DiskAt (w.setCell ⟨d, 5, none⟩ (.bool true)) B d st room used true 0 true := h.rewrite (fun m hm => dset5 hm true) (fun k hk => heap_setCell_other _ _ _ _ hk)
        simpa [burnt, leftOver] using this
      have A := alive d true _ e5
      replace hfin := Lib.hid hfin
      clear h h3 h4 h5 c0 c1 c2 hl g5
      go_enter Try.func28, Try.ntmps28
      go_wp2_with (go_at_call 27; refine A.mono ?_; rintro e w1 ⟨rfl, rfl⟩)
      go_ret
      exact hfin.out
    · have h0' : (left == 0) = false := beq_eq_false_iff_ne.2 h0
      cases dead with
      | true =>
        have hfin : BurnP w B d st room used true left true (.returned (.int .i64 8)) w := ⟨by simp [burnt], by simpa [burnt, leftOver] using h, Below.refl _ _, fun _ _ => rfl⟩
        have A := alive d true w c5
        replace hfin := Lib.hid hfin
        clear h h3 h4 h5 c0 c1 c2 hl h0
        go_enter Try.func28, Try.ntmps28
        go_wp2_with (go_at_call 27; refine A.mono ?_; rintro e w1 ⟨rfl, rfl⟩)
        go_ret
        exact hfin.out
      | false =>
        have g4 := dset4 h3 (left - 1)
        obtain ⟨_, _, _, _, _, e5, _⟩ := dcell g4
        have hfin : BurnP w B d st room used true left false (.returned (.int .i64 0)) (w.setCell ⟨d, 4, none⟩ (.int .i64 (left - 1))) := by
          refine ⟨by simp [burnt, h0], ?_, (Below.refl _ _).setCell hBd _, fun k hk => heap_setCell_other _ _ _ _ hk⟩
          have : DiskAt (w.setCell ⟨d, 4, none⟩ (.int .i64 (left - 1))) B d st room used true (left - 1) false := h.rewrite (fun m hm => dset4 hm (left - 1)) (fun k hk => heap_setCell_other _ _ _ _ hk)
          simpa [burnt, leftOver, h0, h0'] using this
        have A := alive d false _ e5
        have hw : IntKind.i64.wrap (left - 1) = left - 1 := IntWalk.i64_in _ (by omega)
        replace hfin := Lib.hid hfin
        clear h h3 h4 h5 c0 c1 c2 hl h0 g4
        go_enter Try.func28, Try.ntmps28
        go_wp2_with (go_at_call 27; refine A.mono ?_; rintro e w1 ⟨rfl, rfl⟩)
        go_ret
        exact hfin.out
end Go.Proofs.Ytjphboljhkddaaa
