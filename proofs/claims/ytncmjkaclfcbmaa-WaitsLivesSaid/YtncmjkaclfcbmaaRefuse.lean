/- waits.Refuse. -/
import Derived.Test.YtncmjkaclfcbmaaRefC
import Derived.WideMake
set_option linter.unusedVariables false
namespace Go.Proofs.Ytncmjkaclfcbmaa
open Go.RowKit

/-- an ask -/
structure KT where
  op : Int
  name : ByteArray
  value : VT
def KAt (S : Nat → Prop) (w : World) (x : KT) (cs : List Value) : Prop := ∃ A, cs = .int .i64 x.op :: .string x.name :: A ∧ VAt S w x.value A
theorem KAt.len {S : Nat → Prop} {w : World} {x : KT} {cs : List Value} (h : KAt S w x cs) : cs.length = 7 := by
  obtain ⟨A, rfl, h1⟩ := h
  simp [h1.len]
theorem carried_k : Carried KAt := by
  rintro S S' w w' t cs h1 h2 ⟨A, rfl, h⟩
  exact ⟨A, rfl, h.change h1 h2⟩
def firstN (l : List KT) (z : ByteArray) : Option VT := (l.find? (fun a => decide (a.name = z))).map (·.value)
theorem firstN_cons (a : KT) (l : List KT) (z : ByteArray) : firstN (a :: l) z = if z = a.name then some a.value else firstN l z := by
  unfold firstN
  by_cases h : z = a.name
  · subst h; simp
  · rw [if_neg h, List.find?_cons_of_neg]
    simp; exact fun e => h e.symm
def refF (asks : List KT) (flow : ByteArray) (run : Int) (d : VT) (ws : List WT) : List WT := ws.map fun x => if refB (firstN asks) flow run x then { x with over := true, value := (firstN asks x.name).getD d } else x
set_option maxHeartbeats 1600000 in
theorem refuse (a : Option Addr) (n cap : Nat) (ws : List WT) (flow : ByteArray) (run : Int) (a2 : Option Addr) (n2 cap2 : Nat) (ans : List KT) (d : VT) (w : World) (hs : Sl 19 (WAt (Live w) w) (Live w) w a ws) (hn : ws.length = n) (hc : n ≤ cap) (h9 : n ≤ 1000000)
    (hs2 : Sl 7 (KAt (Live w) w) (Live w) w a2 ans) (hn2 : ans.length = n2) (hc2 : n2 ≤ cap2) (h92 : cap2 ≤ 9223372036854775807) :
    Calls Try.prog 33 #[.slice a n cap, .string flow, .int .i64 run, .slice a2 n2 cap2] w (ListP w (refF ans flow run d ws)) := by
  replace hs := Lib.hid hs
  replace hs2 := Lib.hid hs2
  replace hn := Lib.hid hn
  replace hn2 := Lib.hid hn2
  have hw1 : IntKind.i64.wrap ((n2 : Int) - 1) = (n2 : Int) - 1 := IntWalk.i64_in _ (by omega)
  have hmm := fun w : World => run_makeMap_plain (P := Try.prog) w 76
  go_enter Try.func33, Try.ntmps33
  go_wp2_with fail
  have hF0 : First ks .string w.heap.size (((w.alloc (.map #[] 0)).alloc (.cells #[.string flow, .int .i64 run] 69)).alloc (.cells #[.map (some w.heap.size)] 76)) w.heap.size (firstN (ans.drop n2)) := by
    have h := First.start ks .string w.heap.size w (Nat.le_refl _)
    rw [List.drop_of_length_le (by rw [hn2.out]; exact Nat.le_refl _)]
    exact (h.below ((Below.refl _ _).alloc (Nat.le_refl _) _)).below ((Below.refl _ _).alloc (Nat.le_refl _) _)
  have hX : (((w.alloc (.map #[] 0)).alloc (.cells #[.string flow, .int .i64 run] 69)).alloc (.cells #[.map (some w.heap.size)] 76)).heap[w.heap.size + 1]? = some (.cells #[.string flow, .int .i64 run] 69 (0, 0)) := by
    rw [heap_alloc_old _ _ (by simp)]
    have h := heap_alloc_new (w.alloc (.map #[] 0)) (.cells #[.string flow, .int .i64 run] 69)
    rw [show (w.alloc (.map #[] 0)).heap.size = w.heap.size + 1 by simp] at h
    exact h
  have hY : (((w.alloc (.map #[] 0)).alloc (.cells #[.string flow, .int .i64 run] 69)).alloc (.cells #[.map (some w.heap.size)] 76)).heap[w.heap.size + 2]? = some (.cells #[.map (some w.heap.size)] 76 (0, 0)) := by
    have h := heap_alloc_new ((w.alloc (.map #[] 0)).alloc (.cells #[.string flow, .int .i64 run] 69)) (.cells #[.map (some w.heap.size)] 76)
    rw [show ((w.alloc (.map #[] 0)).alloc (.cells #[.string flow, .int .i64 run] 69)).heap.size = w.heap.size + 2 by simp] at h
    exact h
  have hB0 : Below w.heap.size w (((w.alloc (.map #[] 0)).alloc (.cells #[.string flow, .int .i64 run] 69)).alloc (.cells #[.map (some w.heap.size)] 76)) := (((Below.refl _ _).alloc (Nat.le_refl _) _).alloc (by simp) _).alloc (by simp; omega) _
  generalize ((w.alloc (.map #[] 0)).alloc (.cells #[.string flow, .int .i64 run] 69)).alloc (.cells #[.map (some w.heap.size)] 76) = W at *
  replace hF0 := Lib.hid hF0
  replace hX := Lib.hid hX
  replace hY := Lib.hid hY
  replace hB0 := Lib.hid hB0
  go_loopw [11] (fun i wr => ∃ (k : Nat) (z : Int), k ≤ n2 ∧ z = (k : Int) - 1 ∧ i = .int .i64 z ∧ First ks .string w.heap.size wr w.heap.size (firstN (ans.drop k)) ∧ wr.heap[w.heap.size + 1]? = some (.cells #[.string flow, .int .i64 run] 69 (0, 0)) ∧ wr.heap[w.heap.size + 2]? = some (.cells #[.map (some w.heap.size)] 76 (0, 0)) ∧ Below w.heap.size w wr) (fun i _ => (intOf i + 1).toNat)
  case atStart => exact ⟨n2, _, Nat.le_refl _, rfl, rfl, hF0.out, hX.out, hY.out, hB0.out⟩
  case round =>
    obtain ⟨k, z, hk, hz, rfl, hF, hXr, hYr, hbr⟩ := hrel
    by_cases h0 : k = 0
    · subst h0
      obtain rfl : z = -1 := by omega
      clear hz
      have hA := asks_refuse (w.heap.size + 2) (w.heap.size + 1) w.heap.size flow run _ wr hYr hXr _ hF
      have hT := turns_refuse (w.heap.size + 2) w.heap.size _ (refB (firstN (ans.drop 0)) flow run) (fun x hx => by unfold refB at hx; simp only [Bool.and_eq_true] at hx; exact hx.1) d wr hYr _ hF
      have hsr : Sl 19 (WAt (Live wr) wr) (Live wr) wr a ws := hs.out.change (fun b hb => Nat.lt_of_lt_of_le hb hbr.size) (fun b hb => hbr.block b hb) (fun t _ cs h => h.below hbr)
      have T := turned 50 #[.pointer (some ⟨w.heap.size + 2, 0, none⟩), .pointer (some ⟨w.heap.size + 1, 0, none⟩)] _ 51 #[.pointer (some ⟨w.heap.size + 2, 0, none⟩)] _ wr (enters (fn := Try.f50) (by kernel_rfl) (by kernel_rfl) rfl) hA (enters (fn := Try.f51) (by kernel_rfl) (by kernel_rfl) rfl) hT a n cap ws hsr hn.out hc h9
      replace T := Lib.hid T
      replace hbr := Lib.hid hbr
      clear hF hXr hYr hA hT hsr
      go_wp2_with fail
      refine T.out.mono ?_
      rintro e w2 ⟨v, rfl, hout, hb2⟩
      replace hout := Lib.hid hout
      replace hb2 := Lib.hid hb2
      go_wp2_with fail
      go_ret
      exact ⟨v, rfl, hout.out.mono carried_w hbr.out.size, hbr.out.trans (hb2.out.mono hbr.out.size)⟩
    · obtain ⟨j, rfl⟩ : ∃ j, k = j + 1 := ⟨k - 1, by omega⟩
      obtain rfl : z = (j : Int) := by omega
      clear hz h0
      obtain ⟨x, hx⟩ : ∃ x, ans[j]? = some x := ⟨_, List.getElem?_eq_getElem (by rw [hn2.out]; omega)⟩
      obtain ⟨g, off, cs, rfl, hg, hcl, hct, hcr⟩ := hs2.out.get j x hx
      obtain ⟨A, rfl, hA⟩ := hct
      obtain ⟨v0, v1, v2, v3, v4, v5, v6, rfl⟩ := hA.shape
      have hcr' : wr.rangeAt g (off + j * 7) [.int .i64 x.op, .string x.name, .int .i64 v0, .int .i64 v1, .int .u64 v2, .string v3, .slice v4 v5 v6] := range_keep hcr (hbr.block _ hg)
      have q1 := hcr' 1 _ rfl
      have q2 := hcr' 2 _ rfl
      have q3 : wr.cell? ⟨g, off + j * 7 + 2 + 1, none⟩ = some (.int .i64 v1) := hcr' 3 _ rfl
      have q4 : wr.cell? ⟨g, off + j * 7 + 2 + 2, none⟩ = some (.int .u64 v2) := hcr' 4 _ rfl
      have q5 : wr.cell? ⟨g, off + j * 7 + 2 + 3, none⟩ = some (.string v3) := hcr' 5 _ rfl
      have q6 : wr.cell? ⟨g, off + j * 7 + 2 + 4, none⟩ = some (.slice v4 v5 v6) := hcr' 6 _ rfl
      have qm := box_cell hYr 0 _ rfl
      have hFd : First ks .string w.heap.size wr.drew w.heap.size (firstN (ans.drop (j + 1))) := hF.below (Below.refl _ _).drew
      have hvd : VAt (fun b => b < w.heap.size) wr.drew x.value [.int .i64 v0, .int .i64 v1, .int .u64 v2, .string v3, .slice v4 v5 v6] := (VAt.change (S := Live w) (S' := fun b => b < w.heap.size) (w := w) (w' := wr) (fun _ h => h) (fun b hb => hbr.block b hb) _ _ hA).drew
      have hdrop : ans.drop j = x :: ans.drop (j + 1) := by
        obtain ⟨hj, hxe⟩ := List.getElem?_eq_some_iff.1 hx
        rw [List.drop_eq_getElem_cons hj, hxe]
      obtain ⟨o, hU, hF2⟩ := First.update (K := ks) (fun a b h => by cases h; rfl) kit76 hFd x.name (by simp [MapKept.IsKey]) hvd (firstN (ans.drop j)) (by rw [hdrop, firstN_cons, if_pos rfl]) (fun z' hz' => by rw [hdrop, firstN_cons, if_neg hz'])
      simp only [ks] at hU
      have hX2 : (setMap wr.drew w.heap.size o).heap[w.heap.size + 1]? = some (.cells #[.string flow, .int .i64 run] 69 (0, 0)) := by rw [setMap_other _ (by omega)]; exact hXr
      have hY2 : (setMap wr.drew w.heap.size o).heap[w.heap.size + 2]? = some (.cells #[.map (some w.heap.size)] 76 (0, 0)) := by rw [setMap_other _ (by omega)]; exact hYr
      have hB2 : Below w.heap.size w (setMap wr.drew w.heap.size o) := below_setMap hbr.drew (by omega) o
      have hbd1 : (0 : Int) ≤ (j : Int) := by omega
      have hbd2 : (j : Int) < (n2 : Int) := by omega
      have hw3 : IntKind.i64.wrap ((j : Int) - 1) = (j : Int) - 1 := IntWalk.i64_in _ (by omega)
      replace hF2 := Lib.hid hF2
      replace hX2 := Lib.hid hX2
      replace hY2 := Lib.hid hY2
      replace hB2 := Lib.hid hB2
      clear hF hXr hYr hbr hcr hcr' hA hFd hvd hdrop hx hcl
      go_wp2_with fail
      go_still_tail 11, (by kernel_rfl)
      change wpList _ _ _ _ _ wr.drew
      go_wp2_with fail
      go_roundw
      case rel => exact ⟨j, (j : Int) - 1, by omega, rfl, rfl, hF2.out, hX2.out, hY2.out, hB2.out⟩
      case measure => first | (simp [intOf]; done) | (simp [intOf]; omega)
end Go.Proofs.Ytncmjkaclfcbmaa
