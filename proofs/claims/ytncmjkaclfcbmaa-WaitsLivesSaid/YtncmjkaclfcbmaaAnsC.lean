/- The closures of Answer. -/
import Derived.Test.YtncmjkaclfcbmaaClos
set_option linter.unusedVariables false
namespace Go.Proofs.Ytncmjkaclfcbmaa
open Go.RowKit

theorem VAt.sub {S S' : Nat → Prop} {w : World} {t : VT} {cs : List Value} (h : VAt S w t cs) (hS : ∀ b, S b → S' b) : VAt S' w t cs := VAt.change hS (fun _ _ => rfl) _ _ h
theorem VAt.drew {S : Nat → Prop} {w : World} {t : VT} {cs : List Value} (h : VAt S w t cs) : VAt S w.drew t cs := VAt.change (S := S) (S' := S) (w := w) (w' := w.drew) (fun _ h => h) (fun _ _ => rfl) _ _ h
/-- a map of values reads as a function; its values lie below B -/
def First {κ : Type} (K : κ → Value) (kd : TypeDesc) (B : Nat) (w : World) (m : Nat) (told : κ → Option VT) : Prop :=
  B ≤ m ∧ ∃ L, MapAt kd w m L ∧ ∀ z : κ, (told z = none ∧ zfind L (K z) = none) ∨ ∃ t cs, told z = some t ∧ zfind L (K z) = some (.agg cs.toArray) ∧ VAt (fun b => b < B) w t cs
theorem First.lt {κ : Type} {K : κ → Value} {kd : TypeDesc} {B : Nat} {w : World} {m : Nat} {told : κ → Option VT} (h : First K kd B w m told) : m < w.heap.size := by
  obtain ⟨_, L, h1, _⟩ := h; exact h1.lt
theorem First.below {κ : Type} {K : κ → Value} {kd : TypeDesc} {B : Nat} {w w' : World} {m : Nat} {told : κ → Option VT} (h : First K kd B w m told) (hb : Below w.heap.size w w') : First K kd B w' m told := by
  have hlt := h.lt
  obtain ⟨hB, L, h1, h2⟩ := h
  refine ⟨hB, L, h1.keep (hb.block _ h1.lt), fun z => ?_⟩
  rcases h2 z with h | ⟨t, cs, e1, e2, e3⟩
  · exact .inl h
  · exact .inr ⟨t, cs, e1, e2, e3.change (fun _ h => h) (fun b hb' => hb.block b (by omega))⟩
theorem First.start {κ : Type} (K : κ → Value) (kd : TypeDesc) (B : Nat) (w : World) (hB : B ≤ w.heap.size) : First K kd B (w.alloc (.map #[] 0)) w.heap.size (fun _ => none) :=
  ⟨hB, [], map_new kd w, fun z => .inl ⟨rfl, rfl⟩⟩
/-- one more -/
theorem First.update {κ : Type} {K : κ → Value} (hK : ∀ a b, K a = K b → a = b) {mt kt et : TypeId} {kd : TypeDesc} {z0 : Value} (kit : Kit mt kt et kd z0) {B : Nat} {w : World} {m : Nat} {told : κ → Option VT} (h : First K kd B w m told) (z : κ) (hz : MapKept.IsKey kd (K z)) {t : VT} {vs : List Value} (hv : VAt (fun b => b < B) w t vs)
    (told' : κ → Option VT) (ht : told' z = some t) (ht' : ∀ z', z' ≠ z → told' z' = told z') : ∃ o, (Instr.mapUpdate mt (.map (some m)) (K z) (.agg vs.toArray)).run Try.prog w = .ok () (setMap w m o) ∧ First K kd B (setMap w m o) m told' := by
  obtain ⟨hB, L, hM, hT⟩ := h
  obtain ⟨o, L', h1, h2, h3⟩ := update_any kit w m L (K z) hz (.agg vs.toArray) hM
  have hm : ∀ b, b < B → (setMap w m o).heap[b]? = w.heap[b]? := fun b hb => setMap_other o (by omega)
  refine ⟨o, h1, hB, L', h2, fun z' => ?_⟩
  rw [h3]
  by_cases e : z' = z
  · subst e
    rw [if_pos rfl]
    exact .inr ⟨t, vs, ht, rfl, hv.change (fun _ h => h) hm⟩
  · rw [if_neg (fun e' => e (hK _ _ e')), ht' z' e]
    rcases hT z' with h | ⟨t, cs, e1, e2, e3⟩
    · exact .inl h
    · exact .inr ⟨t, cs, e1, e2, e3.change (fun _ h => h) hm⟩
abbrev ki (z : Int) : Value := .int .i64 z
abbrev ks (z : ByteArray) : Value := .string z
def ansB (told : Int → Option VT) (who : Int) (x : WT) : Bool := (told x.op).isSome && (sesB who && (x.query && (!x.over && (x.handed == who + 1))))
theorem wrap_who {who : Int} (h : sesB who = true) : IntKind.i64.wrap (who + 1) = who + 1 := IntWalk.i64_in _ (by simp [sesB] at h; omega)
set_option maxHeartbeats 800000 in
theorem asks_answer (g g' m : Nat) (who : Int) (told : Int → Option VT) (w : World) (h : w.heap[g]? = some (.cells #[.map (some m)] 53 (0, 0))) (h2 : w.heap[g']? = some (.cells #[.int .i64 who] 3 (0, 0))) (B : Nat) (hF : First ki (.int .i64) B w m told) :
    Asks w 23 #[.pointer (some ⟨g, 0, none⟩), .pointer (some ⟨g', 0, none⟩)] (ansB told who) := by
  intro w' x cs hb hx
  have hg : g < w.heap.size := (Array.getElem?_eq_some_iff.1 h).1
  have hg' : g' < w.heap.size := (Array.getElem?_eq_some_iff.1 h2).1
  have h' : w'.heap[g]? = some (.cells #[.map (some m)] 53 (0, 0)) := by rw [hb.block _ hg]; exact h
  have h2' : w'.heap[g']? = some (.cells #[.int .i64 who] 3 (0, 0)) := by rw [hb.block _ hg']; exact h2
  have hglt : g < w'.heap.size := (Array.getElem?_eq_some_iff.1 h').1
  have hglt' : g' < w'.heap.size := (Array.getElem?_eq_some_iff.1 h2').1
  have c0 := fun o => cell_later (box_cell h' 0 _ rfl) o
  have c1 := fun o o' => cell_later (cell_later (box_cell h2' 0 _ rfl) o) o'
  have hmlt := (hF.below hb).lt
  obtain ⟨hBm, L, hM, hT⟩ := hF.below hb
  have S := fun w => session who w
  obtain ⟨k1, n1, b1, s1, a1, m1, c1', k2, n2, b2, s2, a2, m2, c2', rfl⟩ := hx.shape
  have hfin : ∀ b w'', b = ansB told who x → Below w'.heap.size w' w'' → BoolP w' (ansB told who x) (.returned (.bool b)) w'' := fun b w'' e1 e2 => ⟨by rw [e1], e2⟩
  have hbl : ∀ o o', Below w'.heap.size w' ((w'.alloc o).alloc o') := fun o o' => ((Below.refl _ _).alloc (Nat.le_refl _) _).alloc (by simp) _
  have K := fun o => lookup_ok kit53 (w'.alloc o) m L (.int .i64 x.op) (by simp [MapKept.IsKey]) (hM.keep (heap_alloc_old _ _ hM.lt))
  show Calls Try.prog 23 #[_, .pointer (some ⟨g, 0, none⟩), .pointer (some ⟨g', 0, none⟩)] w' (BoolP w' (ansB told who x))
  obtain ⟨op, run, seen, upto, flow, name, asked, value, query, over, handed⟩ := x
  simp only [ki] at hT hx hfin K ⊢
  have hTx := hT op
  clear hx h h2 h' h2' hF hb hg hg' hM hT
  replace S := Lib.hid S
  replace hfin := Lib.hid hfin
  replace hbl := Lib.hid hbl
  rcases hTx with ⟨e1, e2⟩ | ⟨t, cs, e1, e2, e3⟩
  · rw [e2] at K
    have r := Lib.hid (fun w'' => hfin.out false w'' (by simp [ansB, e1]))
    replace e1 := Lib.hid e1
    clear e2
    simp only [Option.getD_none, Option.isSome_none] at K
    go_enter Try.func23, Try.ntmps23
    go_wp2_with (go_at_call 24; refine (S.out _).mono ?_; rintro e w2 ⟨rfl, rfl⟩)
    go_ret
    exact r.out _ (hbl.out _ _)
  · obtain ⟨v0, v1, v2, v3, v4, v5, v6, rfl⟩ := e3.shape
    rw [e2] at K
    simp only [Option.getD_some, Option.isSome_some] at K
    replace e3 := Lib.hid e3
    clear e2
    cases hs : sesB who with
    | false =>
      rw [hs] at S
      have r := Lib.hid (fun w'' => hfin.out false w'' (by simp [ansB, hs]))
      replace hs := Lib.hid hs
      replace e1 := Lib.hid e1
      go_enter Try.func23, Try.ntmps23
      go_wp2_with (go_at_call 24; refine (S.out _).mono ?_; rintro e w2 ⟨rfl, rfl⟩)
      go_ret
      exact r.out _ (hbl.out _ _)
    | true =>
      rw [hs] at S
      have hw := wrap_who hs
      cases query with
      | false =>
        have r := Lib.hid (fun w'' => hfin.out false w'' (by simp [ansB]))
        replace hs := Lib.hid hs
        replace e1 := Lib.hid e1
        go_enter Try.func23, Try.ntmps23
        go_wp2_with (go_at_call 24; refine (S.out _).mono ?_; rintro e w2 ⟨rfl, rfl⟩)
        go_ret
        exact r.out _ (hbl.out _ _)
      | true =>
        cases over with
        | true =>
          have r := Lib.hid (fun w'' => hfin.out false w'' (by simp [ansB]))
          replace hs := Lib.hid hs
          replace e1 := Lib.hid e1
          go_enter Try.func23, Try.ntmps23
          go_wp2_with (go_at_call 24; refine (S.out _).mono ?_; rintro e w2 ⟨rfl, rfl⟩)
          go_ret
          exact r.out _ (hbl.out _ _)
        | false =>
          have r := Lib.hid (fun w'' => hfin.out (handed == who + 1) w'' (by simp [ansB, e1, hs]))
          replace hs := Lib.hid hs
          replace e1 := Lib.hid e1
          go_enter Try.func23, Try.ntmps23
          go_wp2_with (go_at_call 24; refine (S.out _).mono ?_; rintro e w2 ⟨rfl, rfl⟩)
          go_ret
          exact r.out _ (hbl.out _ _)
theorem TurnP.drew {w : World} {b : Nat} {y : WT} {e : Ending} {w' : World} (h : TurnP w.drew b y e w') : TurnP w b y e w' := by
  obtain ⟨h1, cs, h2, h3, h4⟩ := h
  exact ⟨h1, cs, h2, h3, (gb_drew w _).trans h4⟩
theorem turns_answer (g m : Nat) (told : Int → Option VT) (p : WT → Bool) (hp : ∀ x, p x = true → (told x.op).isSome = true) (d : VT) (w : World) (h : w.heap[g]? = some (.cells #[.map (some m)] 53 (0, 0))) (B : Nat) (hF : First ki (.int .i64) B w m told) :
    Turns w 26 #[.pointer (some ⟨g, 0, none⟩)] p (fun x => { x with over := true, value := (told x.op).getD d }) := by
  intro w' x cs b hb hB hpx hX hx
  have hg : g < w.heap.size := (Array.getElem?_eq_some_iff.1 h).1
  have h' : w'.heap[g]? = some (.cells #[.map (some m)] 53 (0, 0)) := by rw [hb.block _ hg]; exact h
  have c0 := box_cell h' 0 _ rfl
  have hmlt := (hF.below hb).lt
  obtain ⟨hBm, L, hM, hT⟩ := hF.below hb
  have K := lookup_any kit53 w' m L (.int .i64 x.op) (by simp [MapKept.IsKey]) hM
  have K2 := lookup_any kit53 w'.drew m L (.int .i64 x.op) (by simp [MapKept.IsKey]) (hM.keep rfl)
  have hs := hp x hpx
  have q0 : w'.cell? ⟨b, 0, none⟩ = some (.int .i64 x.op) := box_cell hX 0 _ (by have := hx.cells.1; simpa using this)
  rcases hT x.op with ⟨e1, e2⟩ | ⟨t, vs, e1, e2, e3⟩
  · rw [e1] at hs; cases hs
  simp only [ki] at e2
  rw [e2] at K K2
  have O := overC b x cs t vs w'.drew hX (WAt.change (S := fun q => b < q ∧ q < w'.heap.size) (S' := fun q => b < q ∧ q < w'.drew.heap.size) (w := w') (w' := w'.drew) (fun _ h => h) (fun _ _ => rfl) hx) ((e3.sub (S' := Live w'.drew) (fun q hq => by show q < w'.heap.size; omega)).drew)
  have hy : { x with over := true, value := (told x.op).getD d } = { x with over := true, value := t } := by rw [e1]; rfl
  show Calls Try.prog 26 #[.pointer (some ⟨b, 0, none⟩), .pointer (some ⟨g, 0, none⟩)] w' (TurnP w' b { x with over := true, value := (told x.op).getD d })
  rw [hy]
  simp only [Option.getD_some] at K K2
  replace O := Lib.hid O
  clear hs hpx hX hx hT hM h h' hb hF hy e1 e2 e3 hp
  go_enter Try.func26, Try.ntmps26
  go_wp2_with fail
  go_still_tail 7, (by kernel_rfl)
  change wpList _ _ _ _ _ w'.drew
  go_wp2_with fail
  refine O.out.mono ?_
  rintro e w2 ho
  have ho' := TurnP.drew ho
  obtain ⟨rfl, r⟩ := id ho
  replace ho' := Lib.hid ho'
  clear r ho
  go_wp2_with fail
  go_end0
  exact ho'.out
end Go.Proofs.Ytncmjkaclfcbmaa
