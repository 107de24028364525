/- due.again: the event by which a task is tried again. -/
import Derived.Test.YtidoacdigedlnaaCourse
import Derived.Test.YtidoacdigedlnaaSmall
import Derived.Test.YtidoacdigedlnaaPush
set_option linter.unusedVariables false
set_option linter.unusedSimpArgs false
namespace Go.Proofs.Ytidoacdigedlnaa
open Go.RowKit FM Ieee

def eCells (x : ET) : List Value := [.int .i64 x.kind, .int .i64 x.time, .int .i64 x.num, .int .i64 x.due, .string x.name, .int .i64 0, .int .i64 0, .int .u64 0, .string ByteArray.empty, .slice none 0 0, .int .i64 0, .int .u64 0, .int .i64 0]
theorem results_cell {P : Program} {fn : Func} {p : Tmp} {ty : TypeId} (h : fn.results = #[.cell p ty]) (tmps : Array Value) (w : World) (g : Nat) (t : TypeId) (cs : Array Value) (fr : Nat × Nat) (d : TypeDesc)
    (hp : tmps.getD p undef = .pointer (some ⟨g, 0, none⟩)) (hg : w.heap[g]? = some (.cells cs t fr))
    (hu : P.underlying ty = some d) (hd : (match d with | .struct _ | .array _ _ => true | _ => false) = true) (hi : (P.info? ty).map (·.size) = some cs.size) :
    (results fn tmps).run P w = .ok (.agg cs) w := by
  have hp' : tmps[p]?.getD undef = .pointer (some ⟨g, 0, none⟩) := by simpa using hp
  simp [results, h, hp', asAddr, run_loadVar_row w g t ty cs fr d hg hu hd hi]
theorem e_size {cells : Array Value} (h : cells.size = 13) : (Try.prog.info? 54).map (·.size) = some cells.size := by
  have e : (Try.prog.info? 54).map (·.size) = some 13 := by kernel_rfl
  rw [e, h]
theorem e_one (x : ET) : (eCells x).toArray.all (·.oneCell') = true := all_one (cs := eCells x) (by
  intro u hu
  simp only [eCells, List.mem_cons, List.not_mem_nil, or_false] at hu
  rcases hu with rfl | rfl | rfl | rfl | rfl | rfl | rfl | rfl | rfl | rfl | rfl | rfl | rfl <;> rfl)
def AgainP (w : World) (x : ST) (t : Int) (e : Ending) (w' : World) : Prop := ∃ wait : Int, 0 ≤ wait ∧ wait ≤ 1073741824 ∧ e = .returned (.agg (eCells { kind := 2, time := t, num := wrap64 (1 + min x.task.attempt 2147483647), due := wrap64 (t + wait), name := ByteArray.empty }).toArray) ∧ Below w.heap.size w w'
set_option maxRecDepth 100000 in
set_option maxHeartbeats 800000 in
theorem again (S : Nat → Prop) (x : ST) (cs : List Value) (t : Int) (w : World) (h : SAt S w x cs) : Calls Try.prog 23 #[.agg cs.toArray, .int .i64 t] w (AgainP w x t) := by
  have hX := heap_alloc_new w (.cells cs.toArray 33)
  have hl := h.len
  have hlo : cs.toArray.size = 31 := by simp [hl]
  have hb : Below w.heap.size w (w.alloc (.cells cs.toArray 33)) := (Below.refl _ _).alloc (Nat.le_refl _) _
  obtain ⟨k0, k1, k2, k3, k4, k5, k6, k7, k13, k14, k15, k16, k17, k18, k19, k20, k21, k22, k30, hrest⟩ := h.cells
  have hcf : x.coef < 18446744073709551616 := by obtain ⟨_, _, _, _, _, _, _, _, _, _, _, _, _, _, _, _, _, _, _, _, h⟩ := hrest; exact h
  have hsz : (w.alloc (.cells cs.toArray 33)).heap.size = w.heap.size + 1 := by simp
  have hZ := heap_alloc_new (w.alloc (.cells cs.toArray 33)) (.cells #[.int .i64 0, .int .i64 0, .int .i64 0, .int .i64 0, .string { data := #[] }, .int .i64 0, .int .i64 0, .int .u64 0, .string { data := #[] }, .slice none 0 0, .int .i64 0, .int .u64 0, .int .i64 0] 54)
  have hb2 : Below w.heap.size w ((w.alloc (.cells cs.toArray 33)).alloc (.cells #[.int .i64 0, .int .i64 0, .int .i64 0, .int .i64 0, .string { data := #[] }, .int .i64 0, .int .i64 0, .int .u64 0, .string { data := #[] }, .slice none 0 0, .int .i64 0, .int .u64 0, .int .i64 0] 54)) := hb.alloc (by simp) _
  have hX2 := (heap_alloc_old (w.alloc (.cells cs.toArray 33)) (.cells #[.int .i64 0, .int .i64 0, .int .i64 0, .int .i64 0, .string { data := #[] }, .int .i64 0, .int .i64 0, .int .u64 0, .string { data := #[] }, .slice none 0 0, .int .i64 0, .int .u64 0, .int .i64 0] 54) (show w.heap.size < (w.alloc (.cells cs.toArray 33)).heap.size by simp)).trans hX
  rw [hsz] at hZ
  have hs2 : ((w.alloc (.cells cs.toArray 33)).alloc (.cells #[.int .i64 0, .int .i64 0, .int .i64 0, .int .i64 0, .string { data := #[] }, .int .i64 0, .int .i64 0, .int .u64 0, .string { data := #[] }, .slice none 0 0, .int .i64 0, .int .u64 0, .int .i64 0] 54)).heap.size = w.heap.size + 2 := by simp
  have q : ∀ (wS : World) (i : Nat) (v : Value), wS.heap[w.heap.size]? = some (.cells cs.toArray 33 (0, 0)) → cs[i]? = some v → wS.cell? ⟨w.heap.size, i, none⟩ = some v := fun wS i v h1 h2 => box_cell h1 i v (by simpa using h2)
  have q13 := q _ 13 _ hX2 k13
  have q14 := q _ 14 _ hX2 k14
  have q15 := q _ 15 _ hX2 k15
  have q17 := q _ 17 _ hX2 k17
  have D := Lib.hid (delayC x.first x.coef x.most x.task.attempt hcf ((w.alloc (.cells cs.toArray 33)).alloc (.cells #[.int .i64 0, .int .i64 0, .int .i64 0, .int .i64 0, .string { data := #[] }, .int .i64 0, .int .i64 0, .int .u64 0, .string { data := #[] }, .slice none 0 0, .int .i64 0, .int .u64 0, .int .i64 0] 54)))
  replace hX2 := Lib.hid hX2
  replace hb2 := Lib.hid hb2
  replace hZ := Lib.hid hZ
  replace hs2 := Lib.hid hs2
  replace k17 := Lib.hid k17
  replace q := Lib.hid q
  clear h hX hl k0 k1 k2 k3 k4 k5 k6 k7 k13 k14 k15 k16 k18 k19 k20 k21 k22 k30 hrest hcf hb hsz
  go_enter Try.func23, Try.ntmps23
  go_wp2_with fail
  refine D.out.mono ?_
  rintro e w2 ⟨n, n0, n1, rfl, hb3⟩
  have hX3 : w2.heap[w.heap.size]? = some (.cells cs.toArray 33 (0, 0)) := (hb3.block _ (by rw [hs2.out]; omega)).trans hX2.out
  have hZ3 : w2.heap[w.heap.size + 1]? = some (.cells #[.int .i64 0, .int .i64 0, .int .i64 0, .int .i64 0, .string { data := #[] }, .int .i64 0, .int .i64 0, .int .u64 0, .string { data := #[] }, .slice none 0 0, .int .i64 0, .int .u64 0, .int .i64 0] 54 (0, 0)) := (hb3.block _ (by rw [hs2.out]; omega)).trans hZ.out
  have r17 := q.out _ 17 _ hX3 k17.out
  have hbw := Lib.hid (hb2.out.trans (hb3.mono (by rw [hs2.out]; omega)))
  replace hZ3 := Lib.hid hZ3
  replace n0 := Lib.hid n0
  replace n1 := Lib.hid n1
  clear hX3 hb3 q13 q14 q15 q17 D
  go_wp2_with (refine wpList_store_row rfl 54 (.tmp 4) (.tmp 21) rfl (w.heap.size + 1) _ rfl rfl 54 _ hZ3.out (e_size (by rfl)) (by rfl) (e_one { kind := 2, time := t, num := _, due := _, name := ByteArray.empty }) ?_)
  · refine bodyPost_ret (v := .agg (eCells { kind := 2, time := t, num := wrap64 (2147483648), due := wrap64 (t + n), name := ByteArray.empty }).toArray) (results_cell (fn := Try.f23) (p := 4) (by kernel_rfl) _ _ (w.heap.size + 1) 54 (eCells { kind := 2, time := t, num := wrap64 (2147483648), due := wrap64 (t + n), name := ByteArray.empty }).toArray (0, 0) _ rfl (setRow_heap _ _ _ _ _ _ hZ3.out) Try.underlying54 rfl (e_size rfl)) rfl ⟨n, n0.out, n1.out, ?_, below_setRow hbw.out (Nat.le_succ _) _⟩
    have e : min x.task.attempt 2147483647 = 2147483647 := by omega
    rw [e] <;> rfl
  · refine bodyPost_ret (v := .agg (eCells { kind := 2, time := t, num := wrap64 (1 + x.task.attempt), due := wrap64 (t + n), name := ByteArray.empty }).toArray) (results_cell (fn := Try.f23) (p := 4) (by kernel_rfl) _ _ (w.heap.size + 1) 54 (eCells { kind := 2, time := t, num := wrap64 (1 + x.task.attempt), due := wrap64 (t + n), name := ByteArray.empty }).toArray (0, 0) _ rfl (setRow_heap _ _ _ _ _ _ hZ3.out) Try.underlying54 rfl (e_size rfl)) rfl ⟨n, n0.out, n1.out, ?_, below_setRow hbw.out (Nat.le_succ _) _⟩
    have e : min x.task.attempt 2147483647 = x.task.attempt := by omega
    rw [e] <;> rfl
end Go.Proofs.Ytidoacdigedlnaa
