/- The closures of Refuse. -/
import Derived.Test.YtncmjkaclfcbmaaAnsC
set_option linter.unusedVariables false
namespace Go.Proofs.Ytncmjkaclfcbmaa
open Go.RowKit

def refB (told : ByteArray → Option VT) (flow : ByteArray) (run : Int) (x : WT) : Bool := (told x.name).isSome && upB flow run x
set_option maxHeartbeats 800000 in
theorem asks_refuse (g g' m : Nat) (flow : ByteArray) (run : Int) (told : ByteArray → Option VT) (w : World) (h : w.heap[g]? = some (.cells #[.map (some m)] 76 (0, 0))) (h2 : w.heap[g']? = some (.cells #[.string flow, .int .i64 run] 69 (0, 0))) (B : Nat) (hF : First ks .string B w m told) :
    Asks w 50 #[.pointer (some ⟨g, 0, none⟩), .pointer (some ⟨g', 0, none⟩)] (refB told flow run) := by
  intro w' x cs hb hx
  have hg : g < w.heap.size := (Array.getElem?_eq_some_iff.1 h).1
  have hg' : g' < w.heap.size := (Array.getElem?_eq_some_iff.1 h2).1
  have h' : w'.heap[g]? = some (.cells #[.map (some m)] 76 (0, 0)) := by rw [hb.block _ hg]; exact h
  have h2' : w'.heap[g']? = some (.cells #[.string flow, .int .i64 run] 69 (0, 0)) := by rw [hb.block _ hg']; exact h2
  have c0 := fun o => cell_later (box_cell h' 0 _ rfl) o
  have c1 := fun o o' => cell_later (cell_later (box_cell h2' 0 _ rfl) o) o'
  have c2 := fun o o' => cell_later (cell_later (box_cell h2' 1 _ rfl) o) o'
  have hmlt := (hF.below hb).lt
  obtain ⟨hBm, L, hM, hT⟩ := hF.below hb
  have hbl : ∀ o o', Below w'.heap.size w' ((w'.alloc o).alloc o') := fun o o' => ((Below.refl _ _).alloc (Nat.le_refl _) _).alloc (by simp) _
  have Q := fun o o' => update flow run _ x cs ((w'.alloc o).alloc o') (hx.below (hbl o o'))
  obtain ⟨k1, n1, b1, s1, a1, m1, c1', k2, n2, b2, s2, a2, m2, c2', rfl⟩ := hx.shape
  have hfin : ∀ b w'', b = refB told flow run x → Below w'.heap.size w' w'' → BoolP w' (refB told flow run x) (.returned (.bool b)) w'' := fun b w'' e1 e2 => ⟨by rw [e1], e2⟩
  have K := fun o => lookup_ok kit76 (w'.alloc o) m L (.string x.name) (by simp [MapKept.IsKey]) (hM.keep (heap_alloc_old _ _ hM.lt))
  show Calls Try.prog 50 #[_, .pointer (some ⟨g, 0, none⟩), .pointer (some ⟨g', 0, none⟩)] w' (BoolP w' (refB told flow run x))
  have hTx := hT x.name
  have hX := Lib.hid (fun o => heap_alloc2_old w' (.cells #[.int .i64 x.op, .int .i64 x.run, .int .i64 x.seen, .int .i64 x.upto, .string x.flow, .string x.name, .int .i64 k1, .int .i64 n1, .int .u64 b1, .string s1, .slice a1 m1 c1', .int .i64 k2, .int .i64 n2, .int .u64 b2, .string s2, .slice a2 m2 c2', .bool x.query, .bool x.over, .int .i64 x.handed] 31) o)
  simp only [ks] at hTx
  clear hx h h2 h' h2' hF hb hg hg' hM hT
  replace Q := Lib.hid Q
  replace hfin := Lib.hid hfin
  replace hbl := Lib.hid hbl
  rcases hTx with ⟨e1, e2⟩ | ⟨t, cs, e1, e2, e3⟩
  · rw [e2] at K
    have r := Lib.hid (fun w'' => hfin.out false w'' (by simp [refB, e1]))
    replace e1 := Lib.hid e1
    clear e2
    simp only [Option.getD_none, Option.isSome_none] at K
    go_enter Try.func50, Try.ntmps50
    go_wp2_with fail
    go_ret
    exact r.out _ (hbl.out _ _)
  · obtain ⟨v0, v1, v2, v3, v4, v5, v6, rfl⟩ := e3.shape
    rw [e2] at K
    simp only [Option.getD_some, Option.isSome_some] at K
    have r := Lib.hid (fun w'' => hfin.out (upB flow run x) w'' (by simp [refB, e1]))
    replace e1 := Lib.hid e1
    replace e3 := Lib.hid e3
    clear e2
    go_enter Try.func50, Try.ntmps50
    go_wp2_with (first | (with_reducible refine wpList_load_want (by kernel_rfl) 31 (.tmp 3) rfl w'.heap.size rfl 31 _ (0, 0) _ (hX.out _) Try.underlying31 rfl (by kernel_rfl) ?_) | (go_at_call 42; refine (Q.out _ _).mono ?_; rintro e w3 ⟨rfl, hb3⟩))
    go_ret
    exact r.out _ ((hbl.out _ _).trans (hb3.mono (hbl.out _ _).size))
theorem turns_refuse (g m : Nat) (told : ByteArray → Option VT) (p : WT → Bool) (hp : ∀ x, p x = true → (told x.name).isSome = true) (d : VT) (w : World) (h : w.heap[g]? = some (.cells #[.map (some m)] 76 (0, 0))) (B : Nat) (hF : First ks .string B w m told) :
    Turns w 51 #[.pointer (some ⟨g, 0, none⟩)] p (fun x => { x with over := true, value := (told x.name).getD d }) := by
  intro w' x cs b hb hB hpx hX hx
  have hg : g < w.heap.size := (Array.getElem?_eq_some_iff.1 h).1
  have h' : w'.heap[g]? = some (.cells #[.map (some m)] 76 (0, 0)) := by rw [hb.block _ hg]; exact h
  have c0 := box_cell h' 0 _ rfl
  have hmlt := (hF.below hb).lt
  obtain ⟨hBm, L, hM, hT⟩ := hF.below hb
  have K := lookup_any kit76 w' m L (.string x.name) (by simp [MapKept.IsKey]) hM
  have K2 := lookup_any kit76 w'.drew m L (.string x.name) (by simp [MapKept.IsKey]) (hM.keep rfl)
  have hs := hp x hpx
  have q0 : w'.cell? ⟨b, 5, none⟩ = some (.string x.name) := box_cell hX 5 _ (by have := hx.cells.2.2.2.2.2.1; simpa using this)
  rcases hT x.name with ⟨e1, e2⟩ | ⟨t, vs, e1, e2, e3⟩
  · rw [e1] at hs; cases hs
  simp only [ks] at e2
  rw [e2] at K K2
  have O := overC b x cs t vs w'.drew hX (WAt.change (S := fun q => b < q ∧ q < w'.heap.size) (S' := fun q => b < q ∧ q < w'.drew.heap.size) (w := w') (w' := w'.drew) (fun _ h => h) (fun _ _ => rfl) hx) ((e3.sub (S' := Live w'.drew) (fun q hq => by show q < w'.heap.size; omega)).drew)
  have hy : { x with over := true, value := (told x.name).getD d } = { x with over := true, value := t } := by rw [e1]; rfl
  show Calls Try.prog 51 #[.pointer (some ⟨b, 0, none⟩), .pointer (some ⟨g, 0, none⟩)] w' (TurnP w' b { x with over := true, value := (told x.name).getD d })
  rw [hy]
  simp only [Option.getD_some] at K K2
  replace O := Lib.hid O
  clear hs hpx hX hx hT hM h h' hb hF hy e1 e2 e3 hp
  go_enter Try.func51, Try.ntmps51
  go_wp2_with fail
  go_still_tail 7, (by kernel_rfl)
  change wpList _ _ _ _ _ w'.drew
  go_wp2_with fail
  refine O.out.mono ?_
  rintro e w2 ho
  have ho' := TurnP.drew ho
  obtain ⟨rfl, r⟩ := id ho
  replace ho' := Lib.hid ho'
  clear r ho
  go_wp2_with fail
  go_end0
  exact ho'.out
end Go.Proofs.Ytncmjkaclfcbmaa
