/- A call over a list. -/
import Derived.Test.YtncmjkaclfcbmaaDo
set_option linter.unusedVariables false
namespace Go.Proofs.Ytncmjkaclfcbmaa
open Go.RowKit

def opN (k : DT) : Int := (IntKind.u64.wrap k.op).tmod 5
def onF (k : DT) (ws : List WT) : List WT := if opN k = 0 then addF k.w ws else if opN k = 1 then dropF k.n ws else if opN k = 2 then handF k.flow k.run k.n k.upto ws else if opN k = 3 then ansF k.answers k.n zeroV ws else refF k.asks k.flow k.run zeroV ws
theorem opN_cases (k : DT) : opN k = 0 ∨ opN k = 1 ∨ opN k = 2 ∨ opN k = 3 ∨ opN k = 4 := by
  unfold opN
  have h0 : 0 ≤ IntKind.u64.wrap k.op := by rw [IntKind.wrap_u64]; omega
  rw [Int.tmod_eq_emod_of_nonneg h0]; omega
set_option maxHeartbeats 1600000 in
theorem on (a : Option Addr) (n cap : Nat) (ws : List WT) (x : DT) (cs : List Value) (w : World) (hs : Sl 19 (WAt (Live w) w) (Live w) w a ws) (hn : ws.length = n) (hc : n ≤ cap) (h9 : n ≤ 900000) (h : DAt w x cs) :
    Calls Try.prog 14 #[.agg cs.toArray, .slice a n cap] w (ListP w (onF x ws)) := by
  have hX := heap_alloc_new w (.cells cs.toArray 41)
  have hl := h.len
  have hlo : cs.toArray.size = 26 := by simp [hl]
  have hb : Below w.heap.size w (w.alloc (.cells cs.toArray 41)) := (Below.refl _ _).alloc (Nat.le_refl _) _
  obtain ⟨k0, k1, k2, k3, k4, Wc, a1, c1, a2, c2, k24, k25, kW, hw, hs1, hs2, g1, g2, g3, g4⟩ := (h.below hb).cells
  have hsw : Sl 19 (WAt (Live (w.alloc (.cells cs.toArray 41))) (w.alloc (.cells cs.toArray 41))) (Live (w.alloc (.cells cs.toArray 41))) (w.alloc (.cells cs.toArray 41)) a ws := hs.change (fun b hb' => Nat.lt_of_lt_of_le hb' hb.size) (fun b hb' => hb.block b hb') (fun t _ cs h => h.below hb)
  have q0 : (w.alloc (.cells cs.toArray 41)).cell? ⟨w.heap.size, 0, none⟩ = some (.int .i64 x.op) := box_cell hX 0 _ (by simpa using k0)
  have q1 : (w.alloc (.cells cs.toArray 41)).cell? ⟨w.heap.size, 1, none⟩ = some (.int .i64 x.n) := box_cell hX 1 _ (by simpa using k1)
  have q2 : (w.alloc (.cells cs.toArray 41)).cell? ⟨w.heap.size, 2, none⟩ = some (.int .i64 x.run) := box_cell hX 2 _ (by simpa using k2)
  have q3 : (w.alloc (.cells cs.toArray 41)).cell? ⟨w.heap.size, 3, none⟩ = some (.int .i64 x.upto) := box_cell hX 3 _ (by simpa using k3)
  have q4 : (w.alloc (.cells cs.toArray 41)).cell? ⟨w.heap.size, 4, none⟩ = some (.string x.flow) := box_cell hX 4 _ (by simpa using k4)
  have q24 : (w.alloc (.cells cs.toArray 41)).cell? ⟨w.heap.size, 24, none⟩ = some (.slice a1 x.answers.length c1) := box_cell hX 24 _ (by simpa using k24)
  have q25 : (w.alloc (.cells cs.toArray 41)).cell? ⟨w.heap.size, 25, none⟩ = some (.slice a2 x.asks.length c2) := box_cell hX 25 _ (by simpa using k25)
  have hr : (w.alloc (.cells cs.toArray 41)).rangeAt w.heap.size 5 Wc := fun j u hu => box_cell hX (5 + j) _ (by simpa using kW j u hu)
  have hwl := w_size hw.len
  have hsz : (w.alloc (.cells cs.toArray 41)).heap.size = w.heap.size + 1 := by simp
  have A := fun (h0 : opN x = 0) => add a n cap ws x.w Wc _ hsw hn hc h9 hw
  have D := fun (h0 : opN x = 1) => drop a n cap ws x.n _ hsw hn hc (by omega)
  have H := fun (h0 : opN x = 2) => hand a n cap ws x.flow x.run x.n x.upto _ hsw hn hc (by omega)
  have N := fun (h0 : opN x = 3) => answer a n cap ws x.n a1 x.answers.length c1 x.answers zeroV _ hsw hn hc (by omega) hs1 rfl g1 g2
  have R := fun (h0 : opN x = 4) => refuse a n cap ws x.flow x.run a2 x.asks.length c2 x.asks zeroV _ hsw hn hc (by omega) hs2 rfl g3 g4
  have cs5 := opN_cases x
  have hon : ∀ c, opN x = c → onF x ws = if c = 0 then addF x.w ws else if c = 1 then dropF x.n ws else if c = 2 then handF x.flow x.run x.n x.upto ws else if c = 3 then ansF x.answers x.n zeroV ws else refF x.asks x.flow x.run zeroV ws := fun c hc => by unfold onF; rw [hc]
  replace A := Lib.hid A
  replace D := Lib.hid D
  replace H := Lib.hid H
  replace N := Lib.hid N
  replace R := Lib.hid R
  replace hon := Lib.hid hon
  replace hb := Lib.hid hb
  replace hr := Lib.hid hr
  replace hwl := Lib.hid hwl
  replace hsz := Lib.hid hsz
  replace hX := Lib.hid hX
  clear hs hsw h hn hw hs1 hs2 k0 k1 k2 k3 k4 k24 k25 kW hl
  rcases cs5 with h0 | h0 | h0 | h0 | h0
  · have hz := h0
    unfold opN at hz
    have K0 := Lib.hid (A.out h0)
    have e := hon.out _ h0
    simp at e
    replace e := Lib.hid e
    replace h0 := Lib.hid h0
    clear A D H N R hon
    go_enter Try.func14, Try.ntmps14
    go_wp2_with (with_reducible refine wpList_load_mid rfl 31 (.tmp 12) rfl w.heap.size 5 rfl Wc _ hr.out Try.underlying31 rfl hwl.out ?_)
    refine K0.out.mono ?_
    rintro e' w2 ⟨v, rfl, hout, hb2⟩
    replace hout := Lib.hid hout
    replace hb2 := Lib.hid hb2
    go_wp2_with fail
    go_ret
    exact ⟨v, rfl, by rw [e.out]; exact hout.out.mono carried_w (by rw [hsz.out]; omega), hb.out.trans (hb2.out.mono (by rw [hsz.out]; omega))⟩
  · have hz := h0
    unfold opN at hz
    have K0 := Lib.hid (D.out h0)
    have e := hon.out _ h0
    simp at e
    replace e := Lib.hid e
    replace h0 := Lib.hid h0
    clear A D H N R hon
    go_enter Try.func14, Try.ntmps14
    go_wp2_with fail
    refine K0.out.mono ?_
    rintro e' w2 ⟨v, rfl, hout, hb2⟩
    replace hout := Lib.hid hout
    replace hb2 := Lib.hid hb2
    go_wp2_with fail
    go_ret
    exact ⟨v, rfl, by rw [e.out]; exact hout.out.mono carried_w (by rw [hsz.out]; omega), hb.out.trans (hb2.out.mono (by rw [hsz.out]; omega))⟩
  · have hz := h0
    unfold opN at hz
    have K0 := Lib.hid (H.out h0)
    have e := hon.out _ h0
    simp at e
    replace e := Lib.hid e
    replace h0 := Lib.hid h0
    clear A D H N R hon
    go_enter Try.func14, Try.ntmps14
    go_wp2_with fail
    refine K0.out.mono ?_
    rintro e' w2 ⟨v, rfl, hout, hb2⟩
    replace hout := Lib.hid hout
    replace hb2 := Lib.hid hb2
    go_wp2_with fail
    go_ret
    exact ⟨v, rfl, by rw [e.out]; exact hout.out.mono carried_w (by rw [hsz.out]; omega), hb.out.trans (hb2.out.mono (by rw [hsz.out]; omega))⟩
  · have hz := h0
    unfold opN at hz
    have K0 := Lib.hid (N.out h0)
    have e := hon.out _ h0
    simp at e
    replace e := Lib.hid e
    replace h0 := Lib.hid h0
    clear A D H N R hon
    go_enter Try.func14, Try.ntmps14
    go_wp2_with fail
    refine K0.out.mono ?_
    rintro e' w2 ⟨v, rfl, hout, hb2⟩
    replace hout := Lib.hid hout
    replace hb2 := Lib.hid hb2
    go_wp2_with fail
    go_ret
    exact ⟨v, rfl, by rw [e.out]; exact hout.out.mono carried_w (by rw [hsz.out]; omega), hb.out.trans (hb2.out.mono (by rw [hsz.out]; omega))⟩
  · have hz := h0
    unfold opN at hz
    have K0 := Lib.hid (R.out h0)
    have e := hon.out _ h0
    simp at e
    replace e := Lib.hid e
    replace h0 := Lib.hid h0
    clear A D H N R hon
    go_enter Try.func14, Try.ntmps14
    go_wp2_with fail
    refine K0.out.mono ?_
    rintro e' w2 ⟨v, rfl, hout, hb2⟩
    replace hout := Lib.hid hout
    replace hb2 := Lib.hid hb2
    go_wp2_with fail
    go_ret
    exact ⟨v, rfl, by rw [e.out]; exact hout.out.mono carried_w (by rw [hsz.out]; omega), hb.out.trans (hb2.out.mono (by rw [hsz.out]; omega))⟩
end Go.Proofs.Ytncmjkaclfcbmaa
