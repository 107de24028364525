/- Append. -/
import Derived.Test.YtjphboljhkddaaaSmall
import Derived.Test.YtjphboljhkddaaaConcat
set_option linter.unusedVariables false
namespace Go.Proofs.Ytjphboljhkddaaa
open Go.RowKit

theorem DiskAt.setOther {w : World} {B d : Nat} {st : ZSt} {room used : Int} {lit : Bool} {left : Int} {dead : Bool} (h : DiskAt w B d st room used lit left dead) {X t : Nat} {cs : Array Value} (hX : w.heap[X]? = some (.cells cs t (0, 0))) (ht : t ≠ 44 ∧ t ≠ 5) (i : Nat) (v : Value) : DiskAt (w.setCell ⟨X, i, none⟩ v) B d st room used lit left dead := by
  obtain ⟨m, L, h1, h2, h3, h4, h5⟩ := h
  have hXd : d ≠ X := by intro e; rw [e, hX] at h3; cases h3; exact ht.1 rfl
  have hXm : m ≠ X := by intro e; obtain ⟨c, hb, _⟩ := h4; rw [e, hX] at hb; cases hb
  refine ⟨m, L, h1, h2, by rw [heap_setCell_other _ _ _ _ hXd]; exact h3, h4.keep (heap_setCell_other _ _ _ _ hXm), h5.change fun g cur hg => heap_setCell_other _ _ _ _ ?_⟩
  intro e; have e' : g = X := e
  rw [e', hX] at hg; cases hg; exact ht.2 rfl
/-- what lies at a key, as the map hands it out -/
theorem zone_at {w : World} {L : List ZE} {st : ZSt} (h : ZS w L st) (z : Int) : ∃ (a' : Option Addr) (cap' : Nat), (zfind L z).getD (zVal none 0 0 0) = zVal a' ((st z).getD ([], 0)).1.length cap' ((((st z).getD ([], 0)).2 : Nat) : Int) ∧
    Row w a' ((st z).getD ([], 0)).1 ∧ (a' = none → ((st z).getD ([], 0)).1.length = 0 ∧ cap' = 0) ∧ ((st z).getD ([], 0)).2 ≤ ((st z).getD ([], 0)).1.length ∧ ((st z).getD ([], 0)).1.length ≤ cap' ∧ cap' ≤ 9223372036854775807 := by
  rcases h z with ⟨e1, e2⟩ | ⟨q, v, e1, e2, aq, cq, rfl, hr, h3, h4, h5, h6, h7⟩
  · rw [e1, e2]
    exact ⟨none, 0, rfl, row_nil _ _, fun _ => ⟨rfl, rfl⟩, Nat.le_refl _, Nat.le_refl _, by decide⟩
  · rw [e1, e2]
    refine ⟨aq, cq, rfl, hr, fun e => ?_, h7, h3, h4⟩
    obtain ⟨b, off, hb, _⟩ := row_lt hr h6
    rw [e] at hb; cases hb
def appZ (q : List Nat × Nat) (l : List Nat) : Option (List Nat × Nat) := if q.1 ++ l = [] then none else some (q.1 ++ l, q.2)
def setZ (st : ZSt) (z : Int) (o : Option (List Nat × Nat)) : ZSt := fun z' => if z' = z then o else st z'
theorem put_any (w : World) (B d : Nat) (st : ZSt) (room used : Int) (lit : Bool) (left : Int) (dead : Bool) (h : DiskAt w B d st room used lit left dead) (z : Int) (a : Option Addr) (l : List Nat) (n cap : Nat) (s : Nat) (hr : Row w a l) (hn : l.length = n) (hc : n ≤ cap) (hcap : cap ≤ 9223372036854775807)
    (ht : ∀ ad, a = some ad → ∃ cur, w.heap[ad.block]? = some (.cells cur 5 (0, 0))) (hs : s ≤ n) (hB : B ≤ w.heap.size) (hu : -4611686018427387904 ≤ used ∧ used ≤ 4611686018427387904) (hn2 : n ≤ 1152921504606846976) (hl2 : ∀ q, st z = some q → q.1.length ≤ 1152921504606846976) :
    Calls Try.prog 29 #[.pointer (some ⟨d, 0, none⟩), .int .i64 z, .agg #[.slice a n cap, .int .i64 s]] w fun e w' => e = .returned (.tuple #[]) ∧ DiskAt w' B d (setZ st z (if l = [] then none else some (l, s))) room (used + ((n : Int) - ((((st z).getD ([], 0)).1.length : Nat) : Int))) lit left dead ∧ Below B w w' ∧ Still w w' := by
  by_cases h0 : l = []
  · subst h0
    obtain rfl : n = 0 := hn.symm
    have := put_none w B d st room used lit left dead h z a cap s hB hu hl2
    unfold zVal at this
    refine this.mono fun e w' ⟨h1, h2, h3, h4⟩ => ⟨h1, ?_, h3, h4⟩
    have e : used + (((0 : Nat) : Int) - ((((st z).getD ([], 0)).1.length : Nat) : Int)) = used - ((((st z).getD ([], 0)).1.length : Nat) : Int) := by omega
    rw [e]; exact h2
  · have := put_some w B d st room used lit left dead h z a l n cap s hr hn hc hcap ht (by rw [← hn]; exact List.length_pos_iff.2 h0) hs hB hu hn2 hl2
    unfold zVal at this
    rw [if_neg h0]; exact this
set_option maxHeartbeats 800000 in
theorem append_ok (w : World) (B d : Nat) (st : ZSt) (room used : Int) (lit : Bool) (left : Int) (h : DiskAt w B d st room used lit left false) (z : Int) (a : Option Addr) (l : List Nat) (n cap : Nat) (hr : Row w a l) (hn : l.length = n) (hnil : a = none → n = 0 ∧ cap = 0)
    (h0 : 0 ≤ z) (h1 : z < 40) (hB : B ≤ w.heap.size) (hu : 0 ≤ used ∧ used ≤ 16777216) (hroom : 0 ≤ room ∧ room ≤ 16777216) (hfit : (n : Int) ≤ room - used) (hl : 0 ≤ left ∧ left ≤ 4611686018427387904) (hbu : burnt lit left false = false)
    (hl2 : ∀ q, st z = some q → q.1.length ≤ 16777216) :
    Calls Try.prog 8 #[.pointer (some ⟨d, 0, none⟩), .int .i64 z, .slice a n cap] w fun e w' => e = .returned (.int .i64 0) ∧ DiskAt w' B d (setZ st z (appZ ((st z).getD ([], 0)) l)) room (used + n) lit (leftOver lit left false) false ∧ Below B w w' := by
  obtain ⟨m, L, hBd, hBm, h3, h4, h5⟩ := id h
  obtain ⟨c0, c1, c2, c3, c4, c5, cf⟩ := dcell h3
  have N := known_some d m z w c0 h0 h1
  have A := alive d false w c5
  have hn2 : n ≤ 16777216 := by omega
  have t1 : decide (room - used < (n : Int)) = false := decide_eq_false (by omega)
  have hw1 : IntKind.i64.wrap (room - used) = room - used := IntWalk.i64_in _ (by omega)
  have U := fun k => burn (w.drewN k) B d st room used lit left false (h.below (below_drewN (Below.refl _ _) k)) hl
  replace U := Lib.hid U
  clear hl
  obtain ⟨q, hq⟩ : ∃ q, q = (st z).getD ([], 0) := ⟨_, rfl⟩
  rw [← hq]
  replace hq := Lib.hid hq
  go_enter Try.func8, Try.ntmps8
  go_wp2_with (first | (go_at_call 26; refine N.mono ?_; rintro e w1 ⟨rfl, rfl⟩) | (go_at_call 27; refine A.mono ?_; rintro e w1 ⟨rfl, rfl⟩))
  go_quiet (fail)
  go_wp2_with fail
  refine (U.out _).mono ?_
  rintro e w1 ⟨rfl, hD1, hb1, ho1⟩
  rw [hbu] at hD1 ⊢
  obtain ⟨m1, L1, _, _, k3, k4, k5⟩ := id hD1
  obtain ⟨e0, e1, e2, e3, e4, e5, ef⟩ := dcell k3
  obtain ⟨a', cap', hv, hr', hnil', hs', hc', hcm'⟩ := zone_at k5 z
  have K := lookup_any w1 m1 L1 z k4
  rw [hv] at K
  unfold zVal at K
  have hbw1 : Below B w w1 := (below_drewN (Below.refl _ _) _).trans hb1
  have hr1 : Row w1 a l := row_at_disk h3 hr ho1
  have hq16 : ((st z).getD ([], 0)).1.length ≤ 16777216 := by
    cases e : st z with
    | none => simp
    | some q => exact hl2 q e
  have hl2' : ∀ q, st z = some q → q.1.length ≤ 1152921504606846976 := fun q hq => by have := hl2 q hq; omega
  clear h3 h4 h5 c0 c1 c2 c3 c4 c5 cf N A t1 hw1 U h k3 k4 k5 hv
  rw [← hq.out] at hr' hnil' hs' hc' hq16 K
  obtain ⟨n', hn'⟩ : ∃ n', n' = q.1.length := ⟨_, rfl⟩
  rw [← hn'] at hnil' hs' hc' hq16 K
  have hX1 := heap_alloc_new w1 (.cells #[.slice a' n' cap', .int .i64 (q.2 : Int)] 65)
  have hs1 : (w1.alloc (.cells #[.slice a' n' cap', .int .i64 (q.2 : Int)] 65)).heap.size = w1.heap.size + 1 := by simp
  have hY := heap_alloc_new (w1.alloc (.cells #[.slice a' n' cap', .int .i64 (q.2 : Int)] 65)) (.cells #[.slice a' n' cap', .slice a n cap] 22)
  rw [hs1] at hY
  have hb2 : Below w1.heap.size w1 ((w1.alloc (.cells #[.slice a' n' cap', .int .i64 (q.2 : Int)] 65)).alloc (.cells #[.slice a' n' cap', .slice a n cap] 22)) := ((Below.refl _ _).alloc (Nat.le_refl _) _).alloc (by simp) _
  have hs2 : ((w1.alloc (.cells #[.slice a' n' cap', .int .i64 (q.2 : Int)] 65)).alloc (.cells #[.slice a' n' cap', .slice a n cap] 22)).heap.size = w1.heap.size + 2 := by simp
  have hX : ((w1.alloc (.cells #[.slice a' n' cap', .int .i64 (q.2 : Int)] 65)).alloc (.cells #[.slice a' n' cap', .slice a n cap] 22)).heap[w1.heap.size]? = some (.cells #[.slice a' n' cap', .int .i64 (q.2 : Int)] 65 (0, 0)) := by rw [heap_alloc_old _ _ (by simp)]; exact hX1
  have y0 := hb2
  generalize hW2 : (w1.alloc (.cells #[.slice a' n' cap', .int .i64 (q.2 : Int)] 65)).alloc (.cells #[.slice a' n' cap', .slice a n cap] 22) = W2 at *
  have C := concat_any W2 (w1.heap.size + 1) a' a cap' cap n' n q.1 l (hr'.below hb2) (hr1.below hb2) hn'.symm hn hnil' hnil (by rw [cell_of_row _ _ _ _ _ _ hY]; rfl) (by rw [cell_of_row _ _ _ _ _ _ hY]; rfl) (by omega)
  have hD2 := hD1.below hb2
  have hBw2 : Below B w W2 := hbw1.trans (hb2.mono (Nat.le_trans hB hbw1.size))
  replace C := Lib.hid C
  replace hn' := Lib.hid hn'
  replace hD1 := Lib.hid hD1
  replace hD2 := Lib.hid hD2
  replace hBw2 := Lib.hid hBw2
  replace hX := Lib.hid hX
  replace hs2 := Lib.hid hs2
  clear hX1 hs1 hY y0 hr' hr1 hr
  go_wp2_with fail
  replace hW2 := Lib.hid hW2
  refine C.out.mono ?_
  rintro e w3 ⟨x, cx, rfl, hr3, hb3, hle3, hmx3, hnil3, ht3⟩
  have hlen : (q.1 ++ l).length = n' + n := by rw [List.length_append, hn, hn'.out]
  obtain ⟨ql, hql⟩ : ∃ ql, ql = q.1 ++ l := ⟨_, rfl⟩
  rw [← hql] at hr3 hle3 hlen ⊢
  replace hql := Lib.hid hql
  obtain ⟨N, hN⟩ : ∃ N, N = ql.length := ⟨_, rfl⟩
  rw [← hN] at hle3 hlen ⊢
  replace hN := Lib.hid hN
  have hX3 : w3.heap[w1.heap.size]? = some (.cells #[.slice a' n' cap', .int .i64 (q.2 : Int)] 65 (0, 0)) := by rw [hb3.block _ (by rw [hs2.out]; omega)]; exact hX.out
  have x0 := cell_of_row _ _ 0 _ _ _ hX3
  have x1 := cell_of_row _ _ 1 _ _ _ hX3
  have fX : ∀ i, w3.frozen? ⟨w1.heap.size, i, none⟩ = false := fun i => frozen_of_row _ _ _ _ _ hX3
  have fX0 := fX 0
  have hD3 := hD2.out.below hb3
  have hXl : w1.heap.size < w3.heap.size := (Array.getElem?_eq_some_iff.1 hX3).1
  have hD4 := hD3.setOther hX3 (by decide) 0 (.slice x N cx)
  have hX4 : (w3.setCell ⟨w1.heap.size, 0, none⟩ (.slice x N cx)).heap[w1.heap.size]? = some (.cells #[.slice x N cx, .int .i64 (q.2 : Int)] 65 (0, 0)) := by
    rw [heap_setCell_same _ _ _ _ _ _ hX3]; rfl
  have hk4 : ∀ (g : Nat) (cur : Array Value), w3.heap[g]? = some (.cells cur 5 (0, 0)) → (w3.setCell ⟨w1.heap.size, 0, none⟩ (.slice x N cx)).heap[g]? = w3.heap[g]? := fun g cur hg => heap_setCell_other _ _ _ _ (fun e => by
    have e' : g = w1.heap.size := e
    rw [e', hX3] at hg; cases hg)
  have hr4 : Row (w3.setCell ⟨w1.heap.size, 0, none⟩ (.slice x N cx)) x ql := row_change hr3 fun ad ha => by obtain ⟨cur, hc⟩ := ht3 ad ha; exact hk4 _ _ hc
  have ht4 : ∀ ad, x = some ad → ∃ cur, (w3.setCell ⟨w1.heap.size, 0, none⟩ (.slice x N cx)).heap[ad.block]? = some (.cells cur 5 (0, 0)) := fun ad ha => by
    obtain ⟨cur, hc⟩ := ht3 ad ha; exact ⟨cur, by rw [hk4 _ _ hc]; exact hc⟩
  have hBw3 : Below B w w3 := hBw2.out.trans (hb3.mono (Nat.le_trans hB hBw2.out.size))
  have hBw4 : Below B w (w3.setCell ⟨w1.heap.size, 0, none⟩ (.slice x N cx)) := hBw3.setCell (by have := hbw1.size; show B ≤ w1.heap.size; omega) _
  have P := put_any _ B d st room used lit (leftOver lit left false) false hD4 z x ql N cx q.2 hr4 hN.out.symm hle3 hmx3 ht4 (by omega) (by have := hBw4.size; omega) (by omega) (by omega) hl2'
  rw [← hq.out] at P
  have hu2 : used + ((N : Nat) : Int) - (n' : Int) = used + n := by rw [hlen]; omega
  have z0 : (w3.setCell ⟨w1.heap.size, 0, none⟩ (.slice x N cx)).cell? ⟨w1.heap.size, 0, none⟩ = some (.slice x N cx) := by rw [cell_of_row _ _ _ _ _ _ hX4]; rfl
  have z1 : (w3.setCell ⟨w1.heap.size, 0, none⟩ (.slice x N cx)).cell? ⟨w1.heap.size, 1, none⟩ = some (.int .i64 (q.2 : Int)) := by rw [cell_of_row _ _ _ _ _ _ hX4]; rfl
  replace hlen := Lib.hid hlen
  replace P := Lib.hid P
  replace hBw4 := Lib.hid hBw4
  replace hu2 := Lib.hid hu2
  clear hr3 hb3 hnil3 ht3 hX3 fX hD3 hD4 hX4 hk4 hr4 ht4 hBw3
  go_wp2_with fail
  refine P.out.mono ?_
  rintro e w5 ⟨rfl, hD5, hb5, _⟩
  replace hD5 := Lib.hid hD5
  replace hb5 := Lib.hid hb5
  go_wp2_with fail
  go_ret
  refine ⟨rfl, ?_, hBw4.out.trans hb5.out⟩
  have e6 : used + ((N : Int) - ((q.1.length : Nat) : Int)) = used + n := by rw [← hn'.out]; have := hu2.out; omega
  have := hD5.out
  rw [e6, hql.out] at this
  exact this
/-- a disk that is dead -/
theorem append_dead (w : World) (d m : Nat) (z : Int) (v : Value) (c0 : w.cell? ⟨d, 0, none⟩ = some (.map (some m))) (c5 : w.cell? ⟨d, 5, none⟩ = some (.bool true)) (h0 : 0 ≤ z) (h1 : z < 40) :
    Calls Try.prog 8 #[.pointer (some ⟨d, 0, none⟩), .int .i64 z, v] w fun e w' => e = .returned (.int .i64 8) ∧ w = w' := by
  have N := known_some d m z w c0 h0 h1
  have A := alive d true w c5
  go_enter Try.func8, Try.ntmps8
  go_wp2_with (first | (go_at_call 26; refine N.mono ?_; rintro e w1 ⟨rfl, rfl⟩) | (go_at_call 27; refine A.mono ?_; rintro e w1 ⟨rfl, rfl⟩))
  go_ret
  exact ⟨rfl, rfl⟩
/-- the change at which the fuse is at its end -/
theorem append_burnt (w : World) (B d : Nat) (st : ZSt) (room used : Int) (h : DiskAt w B d st room used true 0 false) (z : Int) (a : Option Addr) (n cap : Nat)
    (h0 : 0 ≤ z) (h1 : z < 40) (hu : 0 ≤ used ∧ used ≤ 16777216) (hroom : 0 ≤ room ∧ room ≤ 16777216) (hfit : (n : Int) ≤ room - used) :
    Calls Try.prog 8 #[.pointer (some ⟨d, 0, none⟩), .int .i64 z, .slice a n cap] w fun e w' => e = .returned (.int .i64 8) ∧ DiskAt w' B d st room used true 0 true ∧ Below B w w' := by
  obtain ⟨m, L, hBd, hBm, h3, h4, h5⟩ := id h
  obtain ⟨c0, c1, c2, c3, c4, c5, cf⟩ := dcell h3
  have N := known_some d m z w c0 h0 h1
  have A := alive d false w c5
  have t1 : decide (room - used < (n : Int)) = false := decide_eq_false (by omega)
  have hw1 : IntKind.i64.wrap (room - used) = room - used := IntWalk.i64_in _ (by omega)
  have U := fun k => burn (w.drewN k) B d st room used true 0 false (h.below (below_drewN (Below.refl _ _) k)) (by decide)
  replace U := Lib.hid U
  go_enter Try.func8, Try.ntmps8
  go_wp2_with (first | (go_at_call 26; refine N.mono ?_; rintro e w1 ⟨rfl, rfl⟩) | (go_at_call 27; refine A.mono ?_; rintro e w1 ⟨rfl, rfl⟩))
  go_quiet (fail)
  go_wp2_with fail
  refine (U.out _).mono ?_
  rintro e w1 ⟨rfl, hD1, hb1, ho1⟩
  have hD2 : DiskAt w1 B d st room used true 0 true := hD1
  clear hD1
  replace hD2 := Lib.hid hD2
  replace hb1 := Lib.hid ((below_drewN (Below.refl _ _) _).trans hb1)
  clear h3 h4 h5 c0 c1 c2 c3 c4 c5 cf N A t1 hw1 U h ho1
  rw [show burnt true 0 false = true from rfl]
  go_wp2_with fail
  go_ret
  exact ⟨rfl, hD2.out, hb1.out⟩
/-- the bytes of a zone -/
theorem read_ok (w : World) (B d : Nat) (st : ZSt) (room used : Int) (lit : Bool) (left : Int) (h : DiskAt w B d st room used lit left false) (z : Int) (h0 : 0 ≤ z) (h1 : z < 40) (hl2 : ∀ q, st z = some q → q.1.length ≤ 16777216) :
    Calls Try.prog 11 #[.pointer (some ⟨d, 0, none⟩), .int .i64 z] w fun e w' => ∃ a cap, e = .returned (.tuple #[.slice a ((st z).getD ([], 0)).1.length cap, .int .i64 0]) ∧ Row w' a ((st z).getD ([], 0)).1 ∧ Below w.heap.size w w' := by
  obtain ⟨m, L, hBd, hBm, h3, h4, h5⟩ := id h
  obtain ⟨c0, c1, c2, c3, c4, c5, cf⟩ := dcell h3
  have N := known_some d m z w c0 h0 h1
  have A := alive d false w c5
  obtain ⟨a', cap', hv, hr', hnil', hs', hc', hcm'⟩ := zone_at h5 z
  have K := lookup_any w m L z h4
  rw [hv] at K
  unfold zVal at K
  have hq16 : ((st z).getD ([], 0)).1.length ≤ 16777216 := by
    cases e : st z with
    | none => simp
    | some q => exact hl2 q e
  have C := clone a' ((st z).getD ([], 0)).1 _ cap' w hr' rfl hnil' (by omega)
  have hfl := field0
  clear hv hr' hnil' hs' hc' h5 hl2 hq16 h
  generalize (st z).getD ([], 0) = q at *
  obtain ⟨n', hn'⟩ : ∃ n', n' = q.1.length := ⟨_, rfl⟩
  rw [← hn'] at K C ⊢
  replace hn' := Lib.hid hn'
  replace C := Lib.hid C
  go_enter Try.func11, Try.ntmps11
  go_wp2_with (first | (go_at_call 26; refine N.mono ?_; rintro e w1 ⟨rfl, rfl⟩) | (go_at_call 27; refine A.mono ?_; rintro e w1 ⟨rfl, rfl⟩))
  refine C.out.mono ?_
  rintro e w1 ⟨x, cx, rfl, hr3, hb3, hle3, hmx3, hnil3, ht3⟩
  rw [← hn'.out]
  replace hr3 := Lib.hid hr3
  replace hb3 := Lib.hid hb3
  clear hle3 hnil3 ht3
  go_wp2_with fail
  go_ret2
  exact ⟨x, cx, rfl, hr3.out, hb3.out⟩
end Go.Proofs.Ytjphboljhkddaaa
