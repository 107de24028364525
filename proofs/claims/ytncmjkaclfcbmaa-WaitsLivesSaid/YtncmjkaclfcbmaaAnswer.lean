/- waits.Answer. -/
import Derived.Test.YtncmjkaclfcbmaaAnsC
import Derived.WideMake
set_option linter.unusedVariables false
namespace Go.Proofs.Ytncmjkaclfcbmaa
open Go.RowKit

/-- an answer -/
structure AT where
  op : Int
  value : VT
def AAt (S : Nat → Prop) (w : World) (x : AT) (cs : List Value) : Prop := ∃ A, cs = .int .i64 x.op :: A ∧ VAt S w x.value A
theorem AAt.len {S : Nat → Prop} {w : World} {x : AT} {cs : List Value} (h : AAt S w x cs) : cs.length = 6 := by
  obtain ⟨A, rfl, h1⟩ := h
  simp [h1.len]
theorem carried_a : Carried AAt := by
  rintro S S' w w' t cs h1 h2 ⟨A, rfl, h⟩
  exact ⟨A, rfl, h.change h1 h2⟩
def firstOf (l : List AT) (z : Int) : Option VT := (l.find? (fun a => a.op == z)).map (·.value)
theorem firstOf_cons (a : AT) (l : List AT) (z : Int) : firstOf (a :: l) z = if z = a.op then some a.value else firstOf l z := by
  unfold firstOf
  by_cases h : z = a.op
  · subst h; simp
  · rw [if_neg h, List.find?_cons_of_neg]
    simp; exact fun e => h e.symm
def ansF (ans : List AT) (who : Int) (d : VT) (ws : List WT) : List WT := ws.map fun x => if ansB (firstOf ans) who x then { x with over := true, value := (firstOf ans x.op).getD d } else x
theorem Out.base {α : Type} {P : (Nat → Prop) → World → α → List Value → Prop} (hP : Carried P) {n : Nat} {e : TypeId} {B B' : Nat} {w : World} {v : Value} {l : List α} (h : Out P n e B w v l) (hB : B' ≤ B) : Out P n e B' w v l := h.mono hP hB
set_option maxHeartbeats 1600000 in
theorem answer (a : Option Addr) (n cap : Nat) (ws : List WT) (who : Int) (a2 : Option Addr) (n2 cap2 : Nat) (ans : List AT) (d : VT) (w : World) (hs : Sl 19 (WAt (Live w) w) (Live w) w a ws) (hn : ws.length = n) (hc : n ≤ cap) (h9 : n ≤ 1000000)
    (hs2 : Sl 6 (AAt (Live w) w) (Live w) w a2 ans) (hn2 : ans.length = n2) (hc2 : n2 ≤ cap2) (h92 : cap2 ≤ 9223372036854775807) :
    Calls Try.prog 8 #[.slice a n cap, .int .i64 who, .slice a2 n2 cap2] w (ListP w (ansF ans who d ws)) := by
  replace hs := Lib.hid hs
  replace hs2 := Lib.hid hs2
  replace hn := Lib.hid hn
  replace hn2 := Lib.hid hn2
  have hw1 : IntKind.i64.wrap ((n2 : Int) - 1) = (n2 : Int) - 1 := IntWalk.i64_in _ (by omega)
  have hmm := fun w : World => run_makeMap_plain (P := Try.prog) w 53
  go_enter Try.func8, Try.ntmps8
  go_wp2_with fail
  have hF0 : First ki (.int .i64) w.heap.size (((w.alloc (.cells #[.int .i64 who] 3)).alloc (.map #[] 0)).alloc (.cells #[.map (some (w.heap.size + 1))] 53)) (w.heap.size + 1) (firstOf (ans.drop n2)) := by
    have h := First.start ki (.int .i64) w.heap.size (w.alloc (.cells #[.int .i64 who] 3)) (by simp)
    rw [show (w.alloc (.cells #[.int .i64 who] 3)).heap.size = w.heap.size + 1 by simp] at h
    rw [List.drop_of_length_le (by rw [hn2.out]; exact Nat.le_refl _)]
    exact h.below ((Below.refl _ _).alloc (Nat.le_refl _) _)
  have hX : (((w.alloc (.cells #[.int .i64 who] 3)).alloc (.map #[] 0)).alloc (.cells #[.map (some (w.heap.size + 1))] 53)).heap[w.heap.size]? = some (.cells #[.int .i64 who] 3 (0, 0)) := by
    rw [heap_alloc_old _ _ (by simp; omega), heap_alloc_old _ _ (by simp)]; exact heap_alloc_new _ _
  have hY : (((w.alloc (.cells #[.int .i64 who] 3)).alloc (.map #[] 0)).alloc (.cells #[.map (some (w.heap.size + 1))] 53)).heap[w.heap.size + 2]? = some (.cells #[.map (some (w.heap.size + 1))] 53 (0, 0)) := by
    have h := heap_alloc_new ((w.alloc (.cells #[.int .i64 who] 3)).alloc (.map #[] 0)) (.cells #[.map (some (w.heap.size + 1))] 53)
    rw [show ((w.alloc (.cells #[.int .i64 who] 3)).alloc (.map #[] 0)).heap.size = w.heap.size + 2 by simp] at h
    exact h
  have hB0 : Below w.heap.size w (((w.alloc (.cells #[.int .i64 who] 3)).alloc (.map #[] 0)).alloc (.cells #[.map (some (w.heap.size + 1))] 53)) := (((Below.refl _ _).alloc (Nat.le_refl _) _).alloc (by simp) _).alloc (by simp; omega) _
  generalize ((w.alloc (.cells #[.int .i64 who] 3)).alloc (.map #[] 0)).alloc (.cells #[.map (some (w.heap.size + 1))] 53) = W at *
  replace hF0 := Lib.hid hF0
  replace hX := Lib.hid hX
  replace hY := Lib.hid hY
  replace hB0 := Lib.hid hB0
  go_loopw [8] (fun i wr => ∃ (k : Nat) (z : Int), k ≤ n2 ∧ z = (k : Int) - 1 ∧ i = .int .i64 z ∧ First ki (.int .i64) w.heap.size wr (w.heap.size + 1) (firstOf (ans.drop k)) ∧ wr.heap[w.heap.size]? = some (.cells #[.int .i64 who] 3 (0, 0)) ∧ wr.heap[w.heap.size + 2]? = some (.cells #[.map (some (w.heap.size + 1))] 53 (0, 0)) ∧ Below w.heap.size w wr) (fun i _ => (intOf i + 1).toNat)
  case atStart => exact ⟨n2, _, Nat.le_refl _, rfl, rfl, hF0.out, hX.out, hY.out, hB0.out⟩
  case round =>
    obtain ⟨k, z, hk, hz, rfl, hF, hXr, hYr, hbr⟩ := hrel
    by_cases h0 : k = 0
    · subst h0
      obtain rfl : z = -1 := by omega
      clear hz
      have hA := asks_answer (w.heap.size + 2) w.heap.size (w.heap.size + 1) who _ wr hYr hXr _ hF
      have hT := turns_answer (w.heap.size + 2) (w.heap.size + 1) _ (ansB (firstOf (ans.drop 0)) who) (fun x hx => by unfold ansB at hx; simp only [Bool.and_eq_true] at hx; exact hx.1) d wr hYr _ hF
      have hsr : Sl 19 (WAt (Live wr) wr) (Live wr) wr a ws := hs.out.change (fun b hb => Nat.lt_of_lt_of_le hb hbr.size) (fun b hb => hbr.block b hb) (fun t _ cs h => h.below hbr)
      have T := turned 23 #[.pointer (some ⟨w.heap.size + 2, 0, none⟩), .pointer (some ⟨w.heap.size, 0, none⟩)] _ 26 #[.pointer (some ⟨w.heap.size + 2, 0, none⟩)] _ wr (enters (fn := Try.f23) (by kernel_rfl) (by kernel_rfl) rfl) hA (enters (fn := Try.f26) (by kernel_rfl) (by kernel_rfl) rfl) hT a n cap ws hsr hn.out hc h9
      replace T := Lib.hid T
      replace hbr := Lib.hid hbr
      clear hF hXr hYr hA hT hsr
      go_wp2_with fail
      refine T.out.mono ?_
      rintro e w2 ⟨v, rfl, hout, hb2⟩
      replace hout := Lib.hid hout
      replace hb2 := Lib.hid hb2
      go_wp2_with fail
      go_ret
      exact ⟨v, rfl, hout.out.mono carried_w hbr.out.size, hbr.out.trans (hb2.out.mono hbr.out.size)⟩
    · obtain ⟨j, rfl⟩ : ∃ j, k = j + 1 := ⟨k - 1, by omega⟩
      obtain rfl : z = (j : Int) := by omega
      clear hz h0
      obtain ⟨x, hx⟩ : ∃ x, ans[j]? = some x := ⟨_, List.getElem?_eq_getElem (by rw [hn2.out]; omega)⟩
      obtain ⟨g, off, cs, rfl, hg, hcl, hct, hcr⟩ := hs2.out.get j x hx
      obtain ⟨A, rfl, hA⟩ := hct
      obtain ⟨v0, v1, v2, v3, v4, v5, v6, rfl⟩ := hA.shape
      have hcr' : wr.rangeAt g (off + j * 6) [.int .i64 x.op, .int .i64 v0, .int .i64 v1, .int .u64 v2, .string v3, .slice v4 v5 v6] := range_keep hcr (hbr.block _ hg)
      have q0 : wr.cell? ⟨g, off + j * 6, none⟩ = some (.int .i64 x.op) := hcr' 0 _ rfl
      have q1 := hcr' 1 _ rfl
      have q2 : wr.cell? ⟨g, off + j * 6 + 1 + 1, none⟩ = some (.int .i64 v1) := hcr' 2 _ rfl
      have q3 : wr.cell? ⟨g, off + j * 6 + 1 + 2, none⟩ = some (.int .u64 v2) := hcr' 3 _ rfl
      have q4 : wr.cell? ⟨g, off + j * 6 + 1 + 3, none⟩ = some (.string v3) := hcr' 4 _ rfl
      have q5 : wr.cell? ⟨g, off + j * 6 + 1 + 4, none⟩ = some (.slice v4 v5 v6) := hcr' 5 _ rfl
      have qm := box_cell hYr 0 _ rfl
      have hFd : First ki (.int .i64) w.heap.size wr.drew (w.heap.size + 1) (firstOf (ans.drop (j + 1))) := hF.below (Below.refl _ _).drew
      have hvd : VAt (fun b => b < w.heap.size) wr.drew x.value [.int .i64 v0, .int .i64 v1, .int .u64 v2, .string v3, .slice v4 v5 v6] := (VAt.change (S := Live w) (S' := fun b => b < w.heap.size) (w := w) (w' := wr) (fun _ h => h) (fun b hb => hbr.block b hb) _ _ hA).drew
      have hdrop : ans.drop j = x :: ans.drop (j + 1) := by
        obtain ⟨hj, hxe⟩ := List.getElem?_eq_some_iff.1 hx
        rw [List.drop_eq_getElem_cons hj, hxe]
      obtain ⟨o, hU, hF2⟩ := First.update (K := ki) (fun a b h => by cases h; rfl) kit53 hFd x.op (by simp [MapKept.IsKey]) hvd (firstOf (ans.drop j)) (by rw [hdrop, firstOf_cons, if_pos rfl]) (fun z' hz' => by rw [hdrop, firstOf_cons, if_neg hz'])
      simp only [ki] at hU
      have hX2 : (setMap wr.drew (w.heap.size + 1) o).heap[w.heap.size]? = some (.cells #[.int .i64 who] 3 (0, 0)) := by rw [setMap_other _ (by omega)]; exact hXr
      have hY2 : (setMap wr.drew (w.heap.size + 1) o).heap[w.heap.size + 2]? = some (.cells #[.map (some (w.heap.size + 1))] 53 (0, 0)) := by rw [setMap_other _ (by omega)]; exact hYr
      have hB2 : Below w.heap.size w (setMap wr.drew (w.heap.size + 1) o) := below_setMap hbr.drew (by omega) o
      have hbd1 : (0 : Int) ≤ (j : Int) := by omega
      have hbd2 : (j : Int) < (n2 : Int) := by omega
      have hw3 : IntKind.i64.wrap ((j : Int) - 1) = (j : Int) - 1 := IntWalk.i64_in _ (by omega)
      replace hF2 := Lib.hid hF2
      replace hX2 := Lib.hid hX2
      replace hY2 := Lib.hid hY2
      replace hB2 := Lib.hid hB2
      clear hF hXr hYr hbr hcr hcr' hA hFd hvd hdrop hx hcl
      go_wp2_with fail
      go_still_tail 11, (by kernel_rfl)
      change wpList _ _ _ _ _ wr.drew
      go_wp2_with fail
      go_roundw
      case rel => exact ⟨j, (j : Int) - 1, by omega, rfl, rfl, hF2.out, hX2.out, hY2.out, hB2.out⟩
      case measure => first | (simp [intOf]; done) | (simp [intOf]; omega)
end Go.Proofs.Ytncmjkaclfcbmaa
