/- due.At: what is due at a time. -/
import Derived.Test.YtidoacdigedlnaaLateS
import Derived.Test.YtidoacdigedlnaaAgain
set_option linter.unusedVariables false
set_option linter.unusedSimpArgs false
namespace Go.Proofs.Ytidoacdigedlnaa
open Go.RowKit

def eFl : List ET → List Value
  | [] => []
  | x :: l => eCells x ++ eFl l
theorem eFl_len : ∀ l : List ET, (eFl l).length = l.length * 13
  | [] => rfl
  | x :: l => by simp [eFl, eFl_len l, eCells]; omega
theorem eFl_append : ∀ l m : List ET, eFl (l ++ m) = eFl l ++ eFl m
  | [], m => rfl
  | x :: l, m => by simp [eFl, eFl_append l m]
theorem eCells_one (x : ET) : ∀ u ∈ eCells x, u.oneCell' = true := by
  intro u hu
  simp only [eCells, List.mem_cons, List.not_mem_nil, or_false] at hu
  rcases hu with rfl | rfl | rfl | rfl | rfl | rfl | rfl | rfl | rfl | rfl | rfl | rfl | rfl <;> rfl
theorem eFl_one : ∀ l : List ET, ∀ u ∈ eFl l, u.oneCell' = true
  | [], u, h => by cases h
  | x :: l, u, h => by
    rcases List.mem_append.1 h with h | h
    · exact eCells_one x u h
    · exact eFl_one l u h
def ev19 (t : Int) : ET := { kind := 19, time := t, num := 0, due := 0, name := ByteArray.empty }
def ev6 (t : Int) : ET := { kind := 6, time := t, num := 0, due := 0, name := ByteArray.empty }
def evA (x : ST) (t wait : Int) : ET := { kind := 2, time := t, num := wrap64 (1 + min x.task.attempt 2147483647), due := wrap64 (t + wait), name := ByteArray.empty }
def ev10 (t : Int) (y : TM) : ET := { kind := 10, time := t, num := 0, due := 0, name := y.name }
def ev2 (t : Int) : ET := { kind := 2, time := t, num := 1, due := t, name := ByteArray.empty }
def LostR (x : ST) (t : Int) (A : List ET) : Prop := if lostB x t = true then ∃ wait : Int, 0 ≤ wait ∧ wait ≤ 1073741824 ∧ A = [ev6 t, evA x t wait] else A = []
def AtR (x : ST) (now : Int) (L : List ET) : Prop :=
  if (x.status == 1) = true then (if overB x (timeF x now) = true then L = [ev19 (timeF x now)] else ∃ A, LostR x (timeF x now) A ∧
    L = A ++ (lateL (timeF x now) x.timers).map (ev10 (timeF x now)) ++ (if ((x.task.state == 0) && (x.fresh || decide (0 < (lateL (timeF x now) x.timers).length))) = true then [ev2 (timeF x now)] else [])) else L = []
def AtP (w : World) (x : ST) (now : Int) (e : Ending) (w' : World) : Prop := ∃ v L, e = .returned v ∧ w'.ownsRow w.heap.size 54 13 v L.length (eFl L) ∧ AtR x now L ∧ Below w.heap.size w w'
theorem again' (S : Nat → Prop) (x : ST) (cs : List Value) (t : Int) (w : World) (h : SAt S w x cs) : Calls Try.prog 23 #[.agg cs.toArray, .int .i64 t] w fun e w' => ∃ wait : Int, 0 ≤ wait ∧ wait ≤ 1073741824 ∧
    e = .returned (.agg #[.int .i64 2, .int .i64 t, .int .i64 (wrap64 (1 + min x.task.attempt 2147483647)), .int .i64 (wrap64 (t + wait)), .string ByteArray.empty, .int .i64 0, .int .i64 0, .int .u64 0, .string ByteArray.empty, .slice none 0 0, .int .i64 0, .int .u64 0, .int .i64 0]) ∧ Below w.heap.size w w' := again S x cs t w h

set_option maxRecDepth 100000 in
set_option maxHeartbeats 1600000 in
theorem at_off (x : ST) (cs : List Value) (now : Int) (w : World) (h : SAt (Live w) w x cs) (h19 : x.timers.length ≤ 19) (hst : (x.status == 1) = false) :
    Calls Try.prog 8 #[.agg cs.toArray, .int .i64 now] w (AtP w x now) := by
  have hl := h.len
  have hlo : cs.toArray.size = 31 := by simp [hl]
  have hss := Lib.hid (s_size hl)
  have hb : Below w.heap.size w (w.alloc (.cells cs.toArray 33)) := (Below.refl _ _).alloc (Nat.le_refl _) _
  have hX : (w.alloc (.cells cs.toArray 33)).heap[w.heap.size]? = some (.cells cs.toArray 33 (0, 0)) := heap_alloc_new w _
  have hsz : (w.alloc (.cells cs.toArray 33)).heap.size = w.heap.size + 1 := by simp
  have kp : ∀ w', Below w.heap.size w w' → SAt (Live w') w' x cs := fun w' hb => h.below hb
  obtain ⟨k0, k1, k2, k3, k4, k5, k6, k7, k13, k14, k15, k16, k17, k18, k19, k20, k21, k22, k30, hrest⟩ := h.cells
  have R := running _ x cs _ (kp _ hb)
  have kx : ∀ w', Below (w.heap.size + 1) (w.alloc (.cells cs.toArray 33)) w' → w'.heap[w.heap.size]? = some (.cells cs.toArray 33 (0, 0)) := fun w' hb => (hb.block _ (Nat.lt_succ_self _)).trans hX
  replace hb := Lib.hid hb
  replace hX := Lib.hid hX
  replace hsz := Lib.hid hsz
  replace kp := Lib.hid kp
  replace kx := Lib.hid kx
  replace k16 := Lib.hid k16
  replace k21 := Lib.hid k21
  clear h hl hrest k0 k1 k2 k3 k4 k5 k6 k7 k13 k14 k15 k17 k18 k19 k20 k22 k30
  rw [hst] at R
  replace R := Lib.hid R
  replace hst := Lib.hid hst
  go_enter Try.func8, Try.ntmps8
  go_wp2_with (first | (with_reducible refine wpList_load_row rfl 33 (.tmp 2) rfl w.heap.size rfl 33 cs.toArray (0, 0) _ hX.out Try.underlying33 rfl hss.out ?_) | (go_at_call 20; refine R.out.mono ?_; rintro e w1 ⟨rfl, hb1⟩))
  replace hb1 := Lib.hid (hb.out.trans (hb1.mono (by rw [hsz.out]; omega)))
  clear R
  go_wp2_with fail
  go_ret
  exact ⟨.slice none 0 0, [], rfl, ⟨rfl, .inl ⟨rfl, rfl⟩⟩, by unfold AtR; rw [hst.out]; rfl, hb1.out⟩

set_option maxRecDepth 100000 in
set_option maxHeartbeats 1600000 in
theorem at_over (x : ST) (cs : List Value) (now : Int) (w : World) (h : SAt (Live w) w x cs) (h19 : x.timers.length ≤ 19) (hst : (x.status == 1) = true) (hov : overB x (timeF x now) = true) :
    Calls Try.prog 8 #[.agg cs.toArray, .int .i64 now] w (AtP w x now) := by
  have hl := h.len
  have hlo : cs.toArray.size = 31 := by simp [hl]
  have hss := Lib.hid (s_size hl)
  have hb : Below w.heap.size w (w.alloc (.cells cs.toArray 33)) := (Below.refl _ _).alloc (Nat.le_refl _) _
  have hX : (w.alloc (.cells cs.toArray 33)).heap[w.heap.size]? = some (.cells cs.toArray 33 (0, 0)) := heap_alloc_new w _
  have hsz : (w.alloc (.cells cs.toArray 33)).heap.size = w.heap.size + 1 := by simp
  have kp : ∀ w', Below w.heap.size w w' → SAt (Live w') w' x cs := fun w' hb => h.below hb
  obtain ⟨k0, k1, k2, k3, k4, k5, k6, k7, k13, k14, k15, k16, k17, k18, k19, k20, k21, k22, k30, hrest⟩ := h.cells
  have R := running _ x cs _ (kp _ hb)
  have kx : ∀ w', Below (w.heap.size + 1) (w.alloc (.cells cs.toArray 33)) w' → w'.heap[w.heap.size]? = some (.cells cs.toArray 33 (0, 0)) := fun w' hb => (hb.block _ (Nat.lt_succ_self _)).trans hX
  replace hb := Lib.hid hb
  replace hX := Lib.hid hX
  replace hsz := Lib.hid hsz
  replace kp := Lib.hid kp
  replace kx := Lib.hid kx
  replace k16 := Lib.hid k16
  replace k21 := Lib.hid k21
  clear h hl hrest k0 k1 k2 k3 k4 k5 k6 k7 k13 k14 k15 k17 k18 k19 k20 k22 k30
  rw [hst] at R
  replace R := Lib.hid R
  replace hst := Lib.hid hst
  generalize hTT : timeF x now = tt at *
  replace hTT := Lib.hid hTT
  replace hov := Lib.hid hov
  go_enter Try.func8, Try.ntmps8
  go_wp2_with (first | (with_reducible refine wpList_load_row rfl 33 (.tmp 2) rfl w.heap.size rfl 33 cs.toArray (0, 0) _ hX.out Try.underlying33 rfl hss.out ?_) | (with_reducible refine wpList_load_row rfl 33 (.tmp 2) rfl w.heap.size rfl 33 cs.toArray (0, 0) _ hX1.out Try.underlying33 rfl hss.out ?_) | (with_reducible refine wpList_load_row rfl 33 (.tmp 2) rfl w.heap.size rfl 33 cs.toArray (0, 0) _ hX2.out Try.underlying33 rfl hss.out ?_) | (with_reducible refine wpList_load_row rfl 33 (.tmp 2) rfl w.heap.size rfl 33 cs.toArray (0, 0) _ hX3.out Try.underlying33 rfl hss.out ?_) | (go_at_call 20; refine R.out.mono ?_; rintro e w1 ⟨rfl, hb1⟩; replace hb1 := hb1.mono (Nat.le_of_eq hsz.out.symm); have hX1 := Lib.hid (kx.out w1 hb1); have TM_ := time_ _ x cs now w1 (kp.out w1 (hb.out.trans (hb1.mono (Nat.le_succ _)))); rw [hTT.out] at TM_; replace TM_ := Lib.hid TM_; replace hb1 := Lib.hid hb1; clear R) | (go_at_call 10; refine TM_.out.mono ?_; rintro e w2 ⟨rfl, hb2⟩; replace hb2 := hb1.out.trans (hb2.mono (by have := hb1.out.size; rw [hsz.out] at this; omega)); have hX2 := Lib.hid (kx.out w2 hb2); have OV := over _ x cs tt w2 (kp.out w2 (hb.out.trans (hb2.mono (Nat.le_succ _)))); rw [hov.out] at OV; replace OV := Lib.hid OV; replace hb2 := Lib.hid hb2; clear TM_ hX1 hb1) | (go_at_call 21; refine OV.out.mono ?_; rintro e w3 ⟨rfl, hb3⟩; replace hb3 := hb2.out.trans (hb3.mono (by have := hb2.out.size; rw [hsz.out] at this; omega)); have hX3 := Lib.hid (kx.out w3 hb3); have hw3 := Lib.hid (hb.out.trans (hb3.mono (Nat.le_succ _))); have hB3 : w.heap.size + 1 ≤ w3.heap.size := (by have := hb3.size; rw [hsz.out] at this; exact this); replace hb3 := Lib.hid hb3; clear OV hX2 hb2))
  have hfin := Lib.hid (hw3.out.alloc (by omega) (.cells (eCells (ev19 tt)).toArray 54))
  go_ret
  refine ⟨.slice (some ⟨w3.heap.size, 0, none⟩) 1 1, [ev19 tt], rfl, ⟨rfl, .inr ⟨w3.heap.size, 1, (eCells (ev19 tt)).toArray, rfl, by omega, heap_alloc_new w3 _, Nat.le_refl _, by decide, rfl, rfl⟩⟩, ?_, hfin.out⟩
  unfold AtR
  rw [hTT.out, hst.out, hov.out]; rfl
end Go.Proofs.Ytidoacdigedlnaa
