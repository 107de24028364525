/- The walks of Scan: the closure, 'each', the reference's. -/
import Derived.Test.YtmmpcpdokgahcaaFrames
import Derived.OneCell
set_option linter.unusedVariables false
namespace Go.Proofs.Ytmmpcpdokgahcaa
open Go.RowKit CM

/-- a row of another type is none that is owned -/
theorem own_ne {w : World} {B s n g t : Nat} {e : TypeId} {v : Value} {xs : List Value} {cur : Array Value} (h : w.ownsRow B e s v n xs) (hg : w.heap[g]? = some (.cells cur t (0, 0))) (ht : t ≠ e) : v.ownBlock ≠ some g := by
  rcases h.2 with ⟨rfl, _⟩ | ⟨g', cap, cur', rfl, _, hh, _⟩
  · intro h; cases h
  · intro h
    cases h
    rw [hh] at hg
    cases hg
    exact ht rfl
def OneP (B0 B S m : Nat) (xs ys : List Value) (w : World) (e : Ending) (w' : World) : Prop :=
  e = .returned (.bool true) ∧ ∃ v', w'.heap[S]? = some (.cells #[v'] 33 (0, 0)) ∧ w'.ownsRow B 29 2 v' (m + 1) (xs ++ ys) ∧ (∀ (g : Nat) (cur : Array Value), w.heap[g]? = some (.cells cur 5 (0, 0)) → w'.heap[g]? = w.heap[g]?) ∧ Below B0 w w'
/-- the closure: one frame more -/
theorem scan_one (B0 B S k : Nat) (a : Option Addr) (n cap : Nat) (v : Value) (m : Nat) (xs : List Value) (w : World) (hS : w.heap[S]? = some (.cells #[v] 33 (0, 0))) (ho : w.ownsRow B 29 2 v m xs) (hB : B ≤ w.heap.size) (hm : m ≤ 200000) (h0 : B0 ≤ S) (h1 : B0 ≤ B) :
    Calls Try.prog 26 #[.agg #[.int .i64 (k : Int), .slice a n cap], .pointer (some ⟨S, 0, none⟩)] w (OneP B0 B S m xs [.int .i64 (k : Int), .slice a n cap] w) := by
  obtain ⟨i0, hi, hz0, hz1, hz2⟩ := fr_info
  have hlt : S < w.heap.size := lt_of_block hS
  have hl0 : (w.alloc (.cells #[.int .i64 (k : Int), .slice a n cap] 29)).cell? ⟨S, 0, none⟩ = some v := by rw [World.cell?_alloc_past _ _ _ hlt]; exact cell_of_one hS
  have ho1 : ((w.alloc (.cells #[.int .i64 (k : Int), .slice a n cap] 29)).alloc (.cells #[.int .i64 (k : Int), .slice a n cap] 29)).ownsRow B 29 2 v m xs := own_below ho (((Below.refl _ _).alloc (Nat.le_refl _) _).alloc (by simp) _)
  have hnews : ∀ ad, (some ⟨w.heap.size + 1, 0, none⟩ : Option Addr) = some ad → ∀ j u, [Value.int .i64 (k : Int), .slice a n cap][j]? = some u → ((w.alloc (.cells #[.int .i64 (k : Int), .slice a n cap] 29)).alloc (.cells #[.int .i64 (k : Int), .slice a n cap] 29)).cell? (ad.add j) = some u := by
    intro ad had j u hj
    cases had
    have hh := heap_alloc_new (w.alloc (.cells #[.int .i64 (k : Int), .slice a n cap] 29)) (.cells #[.int .i64 (k : Int), .slice a n cap] 29)
    rw [show (w.alloc (.cells #[.int .i64 (k : Int), .slice a n cap] 29)).heap.size = w.heap.size + 1 by simp] at hh
    match j, hj with
    | 0, hj => cases hj; show World.cell? _ ⟨w.heap.size + 1, 0 + 0, none⟩ = _; rw [cell_of_row _ _ _ _ _ _ hh]; rfl
    | 1, hj => cases hj; show World.cell? _ ⟨w.heap.size + 1, 0 + 1, none⟩ = _; rw [cell_of_row _ _ _ _ _ _ hh]; rfl
  replace ho1 := Lib.hid ho1
  replace hnews := Lib.hid hnews
  replace hS := Lib.hid hS
  replace ho := Lib.hid ho
  replace hi := Lib.hid hi
  replace hz0 := Lib.hid hz0
  replace hz1 := Lib.hid hz1
  replace hz2 := Lib.hid hz2
  go_enter Try.func26, Try.ntmps26
  go_wp2_with (at_builtin; refine append_src rfl (.tmp 4) (.tmp 6) 33 rfl B 29 i0 (.agg #[.int .i64 0, .slice none 0 0]) 2 32 Try.underlying33 hi.out hz0.out hz1.out hz2.out rfl (by decide) v m xs rfl ho1.out (some ⟨w.heap.size + 1, 0, none⟩) 1 1 [.int .i64 (k : Int), .slice a n cap] rfl (fun h => by cases h) rfl hnews.out ?c1 ?c2 ?c3 ?c4 ?_)
  case c1 => intro u hu; simp at hu; rcases hu with rfl | rfl <;> rfl
  case c2 => unfold maxLen; omega
  case c3 => omega
  case c4 => simp; omega
  intro v' w2 ho2 g2
  have hne : v.ownBlock ≠ some S := own_ne ho.out hS.out (by decide)
  have hS2 : w2.heap[S]? = some (.cells #[v] 33 (0, 0)) := by
    rw [g2.block S (by simp; omega) (fun e => hne e.symm)]
    rw [heap_alloc_old _ _ (by simp; omega), heap_alloc_old _ _ hlt]
    exact hS.out
  have hf2 := free_of_one hS2
  have hcS2 := cell_of_one hS2
  have hb2 : Below B0 w w2 := ((((Below.refl B0 w).alloc (by have := ho.out; omega) _).alloc (by simp; omega) _)).grown g2 (by simp; omega) (fun k h => by have := own_from ho.out k h; omega)
  have hk2 : ∀ (g : Nat) (cur : Array Value), w.heap[g]? = some (.cells cur 5 (0, 0)) → w2.heap[g]? = w.heap[g]? := by
    intro g cur hg
    have hl : g < w.heap.size := (Array.getElem?_eq_some_iff.1 hg).1
    rw [g2.block g (by simp; omega) (fun e => own_ne ho.out hg (by decide) e.symm), heap_alloc_old _ _ (by simp; omega), heap_alloc_old _ _ hl]
  obtain ⟨x2, c2, rfl, _⟩ := own_len ho2
  have hne2 : (Value.slice x2 (m + 1) c2).ownBlock ≠ some S := own_ne ho2 hS2 (by decide)
  have ho3 : (w2.setCell ⟨S, 0, none⟩ (.slice x2 (m + 1) c2)).ownsRow B 29 2 (.slice x2 (m + 1) c2) (m + 1) (xs ++ [.int .i64 (k : Int), .slice a n cap]) := ownsRow_setCell_other ho2 (by exact hne2) _
  replace hS2 := Lib.hid hS2
  replace hb2 := Lib.hid hb2
  replace hk2 := Lib.hid hk2
  replace ho3 := Lib.hid ho3
  clear ho1 hnews g2 ho2 hl0
  go_wp2_with fail
  go_ret
  refine ⟨rfl, _, one_setCell hS2.out, ho3.out, fun g cur hg => ?_, hb2.out.setCell h0 _⟩
  have hgs : g ≠ S := by
    intro e; subst e; have := hS.out; rw [hg] at this; cases this
  rw [heap_setCell_other _ _ _ _ hgs]
  exact hk2.out g cur hg
end Go.Proofs.Ytmmpcpdokgahcaa
