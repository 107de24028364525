/- The closures that ask and turn a wait. -/
import Derived.Test.YtncmjkaclfcbmaaOver
import Derived.Test.YtncmjkaclfcbmaaMaps
import Derived.Test.YtncmjkaclfcbmaaWant
set_option linter.unusedVariables false
namespace Go.Proofs.Ytncmjkaclfcbmaa
open Go.RowKit

theorem cell_later {w : World} {g i : Nat} {v : Value} (h : w.cell? ⟨g, i, none⟩ = some v) (o : Obj) : (w.alloc o).cell? ⟨g, i, none⟩ = some v := by
  rw [World.cell?_alloc_past _ _ _ (block_lt_of_cell h)]; exact h
theorem box_cell {w : World} {g : Nat} {C : Array Value} {t : TypeId} (h : w.heap[g]? = some (.cells C t (0, 0))) (i : Nat) (v : Value) (hv : C[i]? = some v) : w.cell? ⟨g, i, none⟩ = some v := by rw [cell_of_row _ _ _ _ _ _ h]; exact hv
theorem gb_drew (w : World) (row : Option Nat) : w.grownBy w.drew row := ⟨rfl, rfl, rfl, Nat.le_refl _, fun _ _ _ => rfl⟩
theorem asks_drop (g : Nat) (op : Int) (w : World) (h : w.heap[g]? = some (.cells #[.int .i64 op] 3 (0, 0))) : Asks w 31 #[.pointer (some ⟨g, 0, none⟩)] (fun x => x.op == op) := by
  intro w' x cs hb hx
  have hg : g < w.heap.size := (Array.getElem?_eq_some_iff.1 h).1
  have h' : w'.heap[g]? = some (.cells #[.int .i64 op] 3 (0, 0)) := by rw [hb.block _ hg]; exact h
  obtain ⟨k1, n1, b1, s1, a1, m1, c1, k2, n2, b2, s2, a2, m2, c2, rfl⟩ := hx.shape
  have c0 := fun o => cell_later (box_cell h' 0 _ rfl) o
  have hfin : ∀ b, b = (x.op == op) → BoolP w' (x.op == op) (.returned (.bool b)) (w'.alloc (.cells #[.int .i64 x.op, .int .i64 x.run, .int .i64 x.seen, .int .i64 x.upto, .string x.flow, .string x.name, .int .i64 k1, .int .i64 n1, .int .u64 b1, .string s1, .slice a1 m1 c1, .int .i64 k2, .int .i64 n2, .int .u64 b2, .string s2, .slice a2 m2 c2, .bool x.query, .bool x.over, .int .i64 x.handed] 31)) := fun b hb => ⟨by rw [hb], (Below.refl _ _).alloc (Nat.le_refl _) _⟩
  have r := Lib.hid (hfin _ rfl)
  show Calls Try.prog 31 #[_, .pointer (some ⟨g, 0, none⟩)] w' (BoolP w' (x.op == op))
  obtain ⟨xop, run, seen, upto, flow, name, asked, value, query, over, handed⟩ := x
  simp only at *
  clear hb hx h h' hfin hg
  go_enter Try.func31, Try.ntmps31
  go_wp2_with fail
  go_ret
  exact r.out
theorem asks_hand (g g' : Nat) (who : Int) (flow : ByteArray) (run : Int) (w : World) (h : w.heap[g]? = some (.cells #[.int .i64 who] 3 (0, 0))) (h2 : w.heap[g']? = some (.cells #[.string flow, .int .i64 run] 69 (0, 0))) :
    Asks w 47 #[.pointer (some ⟨g, 0, none⟩), .pointer (some ⟨g', 0, none⟩)] (fun x => sesB who && quB flow run x) := by
  intro w' x cs hb hx
  have hg : g < w.heap.size := (Array.getElem?_eq_some_iff.1 h).1
  have hg' : g' < w.heap.size := (Array.getElem?_eq_some_iff.1 h2).1
  have h' : w'.heap[g]? = some (.cells #[.int .i64 who] 3 (0, 0)) := by rw [hb.block _ hg]; exact h
  have h2' : w'.heap[g']? = some (.cells #[.string flow, .int .i64 run] 69 (0, 0)) := by rw [hb.block _ hg']; exact h2
  have c0 := fun o => cell_later (box_cell h' 0 _ rfl) o
  have c1' := fun o => cell_later (box_cell h2' 0 _ rfl) o
  have c2' := fun o => cell_later (box_cell h2' 1 _ rfl) o
  have hbx : ∀ o, Below w'.heap.size w' (w'.alloc o) := fun o => (Below.refl _ _).alloc (Nat.le_refl _) _
  have S := fun w => session who w
  have Q := fun o => query flow run _ x cs (w'.alloc o) (hx.below (hbx o))
  have hfin : ∀ b w'', b = (sesB who && quB flow run x) → (Below w'.heap.size w' w'') → BoolP w' (sesB who && quB flow run x) (.returned (.bool b)) w'' := fun b w'' h1 h2 => ⟨by rw [h1], h2⟩
  show Calls Try.prog 47 #[_, .pointer (some ⟨g, 0, none⟩), .pointer (some ⟨g', 0, none⟩)] w' (BoolP w' (sesB who && quB flow run x))
  obtain ⟨k1, n1, b1, s1, a1, m1, c1, k2, n2, b2, s2, a2, m2, c2, rfl⟩ := hx.shape
  have hX := Lib.hid (heap_alloc_new w' (.cells #[.int .i64 x.op, .int .i64 x.run, .int .i64 x.seen, .int .i64 x.upto, .string x.flow, .string x.name, .int .i64 k1, .int .i64 n1, .int .u64 b1, .string s1, .slice a1 m1 c1, .int .i64 k2, .int .i64 n2, .int .u64 b2, .string s2, .slice a2 m2 c2, .bool x.query, .bool x.over, .int .i64 x.handed] 31))
  clear hb hx h h' h2 h2' hg hg'
  replace S := Lib.hid S
  replace Q := Lib.hid Q
  replace hfin := Lib.hid hfin
  replace hbx := Lib.hid hbx
  cases hs : sesB who with
  | false =>
    rw [hs] at S hfin
    replace hs := Lib.hid hs
    go_enter Try.func47, Try.ntmps47
    go_wp2_with (go_at_call 24; refine (S.out _).mono ?_; rintro e w2 ⟨rfl, rfl⟩)
    go_ret
    exact hfin.out _ _ rfl (hbx.out _)
  | true =>
    rw [hs] at S hfin
    replace hs := Lib.hid hs
    go_enter Try.func47, Try.ntmps47
    go_wp2_with (first | (go_at_call 24; refine (S.out _).mono ?_; rintro e w2 ⟨rfl, rfl⟩) | (with_reducible refine wpList_load_want (by kernel_rfl) 31 (.tmp 3) rfl w'.heap.size rfl 31 _ (0, 0) _ hX.out Try.underlying31 rfl (by kernel_rfl) ?_) | (go_at_call 46; refine (Q.out _).mono ?_; rintro e w3 ⟨rfl, hb3⟩))
    go_ret
    exact hfin.out _ _ (Bool.true_and _).symm ((hbx.out _).trans (hb3.mono (hbx.out _).size))
theorem turns_hand (g g' : Nat) (who upto : Int) (p : WT → Bool) (hp : ∀ x, p x = true → sesB who = true) (w : World) (h : w.heap[g]? = some (.cells #[.int .i64 who] 3 (0, 0))) (h2 : w.heap[g']? = some (.cells #[.int .i64 upto] 3 (0, 0))) :
    Turns w 48 #[.pointer (some ⟨g, 0, none⟩), .pointer (some ⟨g', 0, none⟩)] p (fun x => { x with handed := who + 1, upto := upto }) := by
  intro w' x cs b hb hB hpx hX hx
  have hwho := hp x hpx
  have hg : g < w.heap.size := (Array.getElem?_eq_some_iff.1 h).1
  have hg' : g' < w.heap.size := (Array.getElem?_eq_some_iff.1 h2).1
  have h' : w'.heap[g]? = some (.cells #[.int .i64 who] 3 (0, 0)) := by rw [hb.block _ hg]; exact h
  have h2' : w'.heap[g']? = some (.cells #[.int .i64 upto] 3 (0, 0)) := by rw [hb.block _ hg']; exact h2
  have c0 := box_cell h' 0 _ rfl
  have c1 := box_cell h2' 0 _ rfl
  have hgb : g ≠ b := by omega
  have hgb' : g' ≠ b := by omega
  have hwr : IntKind.i64.wrap (who + 1) = who + 1 := IntWalk.i64_in _ (by simp [sesB] at hwho; omega)
  obtain ⟨op, run, seen, xupto, flow, name, asked, value, query, over, handed⟩ := x
  obtain ⟨A, B, rfl, hA, hB'⟩ := hx
  obtain ⟨a0, a1, a2, a3, a4, a5, a6, rfl⟩ := hA.shape
  obtain ⟨b0, b1, b2, b3, b4, b5, b6, rfl⟩ := hB'.shape
  simp only [List.cons_append, List.nil_append] at *
  have q3 := box_cell hX 3 _ rfl
  have q18 := box_cell hX 18 _ rfl
  have f3 : w'.frozen? ⟨b, 3, none⟩ = false := frozen_of_row _ _ _ _ _ hX
  have f18 : w'.frozen? ⟨b, 18, none⟩ = false := frozen_of_row _ _ _ _ _ hX
  have hfin : ∀ w'' : World, w''.heap[b]? = some (.cells #[.int .i64 op, .int .i64 run, .int .i64 seen, .int .i64 upto, .string flow, .string name, .int .i64 a0, .int .i64 a1, .int .u64 a2, .string a3, .slice a4 a5 a6, .int .i64 b0, .int .i64 b1, .int .u64 b2, .string b3, .slice b4 b5 b6, .bool query, .bool over, .int .i64 (who + 1)] 31 (0, 0)) → w'.grownBy w'' (some b) → w''.heap.size = w'.heap.size →
      TurnP w' b { op := op, run := run, seen := seen, upto := upto, flow := flow, name := name, asked := asked, value := value, query := query, over := over, handed := who + 1 } (.returned (.tuple #[])) w'' := by
    intro w'' k1 k2 k3
    have hk : ∀ q, (b < q ∧ q < w'.heap.size) → w''.heap[q]? = w'.heap[q]? := fun q hq => k2.block q hq.2 (fun e => by have := Option.some.inj e; omega)
    exact ⟨rfl, [.int .i64 op, .int .i64 run, .int .i64 seen, .int .i64 upto, .string flow, .string name, .int .i64 a0, .int .i64 a1, .int .u64 a2, .string a3, .slice a4 a5 a6, .int .i64 b0, .int .i64 b1, .int .u64 b2, .string b3, .slice b4 b5 b6, .bool query, .bool over, .int .i64 (who + 1)], k1, ⟨_, _, rfl, VAt.change (fun q hq => ⟨hq.1, by rw [k3]; exact hq.2⟩) hk _ _ hA, VAt.change (fun q hq => ⟨hq.1, by rw [k3]; exact hq.2⟩) hk _ _ hB'⟩, k2⟩
  have r1 : TurnP w' b { op := op, run := run, seen := seen, upto := upto, flow := flow, name := name, asked := asked, value := value, query := query, over := over, handed := who + 1 } (.returned (.tuple #[])) ((w'.drew.setCell ⟨b, 18, none⟩ (.int .i64 (who + 1))).setCell ⟨b, 3, none⟩ (.int .i64 upto)) :=
    hfin _ (by rw [box_set (box_set (w := w'.drew) hX 18 (.int .i64 (who + 1))) 3 (.int .i64 upto)]; simp) (((gb_drew w' (some b)).trans (gb_set w'.drew b 18 _)).trans (gb_set _ b 3 _)) (by simp [World.setCell])
  have r2 : TurnP w' b { op := op, run := run, seen := seen, upto := upto, flow := flow, name := name, asked := asked, value := value, query := query, over := over, handed := who + 1 } (.returned (.tuple #[])) ((w'.drew.setCell ⟨b, 3, none⟩ (.int .i64 upto)).setCell ⟨b, 18, none⟩ (.int .i64 (who + 1))) :=
    hfin _ (by rw [box_set (box_set (w := w'.drew) hX 3 (.int .i64 upto)) 18 (.int .i64 (who + 1))]; simp) (((gb_drew w' (some b)).trans (gb_set w'.drew b 3 _)).trans (gb_set _ b 18 _)) (by simp [World.setCell])
  replace r1 := Lib.hid r1
  replace r2 := Lib.hid r2
  show Calls Try.prog 48 #[.pointer (some ⟨b, 0, none⟩), .pointer (some ⟨g, 0, none⟩), .pointer (some ⟨g', 0, none⟩)] w' _
  clear hfin hX hA hB' h h2 h' h2' hb hB hpx hwho hp
  go_enter Try.func48, Try.ntmps48
  go_wp2_with fail
  go_region
  all_goals
    go_end0
    first | exact r1.out | exact r2.out
end Go.Proofs.Ytncmjkaclfcbmaa
