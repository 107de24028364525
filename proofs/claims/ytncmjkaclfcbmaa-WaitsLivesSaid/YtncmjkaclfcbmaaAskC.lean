/- waits.Updates, waits.Queries. -/
import Derived.Test.YtncmjkaclfcbmaaAsks
import Derived.Laws.Strings
set_option linter.unusedVariables false
set_option linter.unusedSimpArgs false
namespace Go.Proofs.Ytncmjkaclfcbmaa
open Go.RowKit

def KListP (w : World) (l : List KT) (e : Ending) (w' : World) : Prop := ∃ v, e = .returned v ∧ Out KAt 7 67 w.heap.size w' v l ∧ Below w.heap.size w w'
def queL (flow : ByteArray) (run : Int) (ws : List WT) : List KT := askG (fun _ x => quB flow run x) [] ws
def seenB (flow : ByteArray) (run : Int) (pre : List WT) (z : ByteArray) : Bool := pre.any fun y => upB flow run y && (y.name.toList == z.toList)
def updP (flow : ByteArray) (run : Int) (pre : List WT) (x : WT) : Bool := upB flow run x && !seenB flow run pre x.name
def updL (flow : ByteArray) (run : Int) (ws : List WT) : List KT := askG (updP flow run) [] ws
theorem below_of_gb {w w' : World} {row : Option Nat} (h : w.grownBy w' row) {B : Nat} {a : World} (ha : Below B a w) (hB : B ≤ w.heap.size) (hr : ∀ k, row = some k → B ≤ k) : Below B a w' := ha.grown h hB hr
theorem q_asks (g : Nat) (flow : ByteArray) (run : Int) (pre : List WT) (w' : World) (x : WT) (S : Nat → Prop) (cs : List Value) (h : w'.heap[g]? = some (.cells #[.string flow, .int .i64 run] 69 (0, 0))) (hx : WAt S w' x cs) (hS : ∀ b, S b → b < w'.heap.size) :
    Calls Try.prog 45 #[.agg cs.toArray, .pointer (some ⟨g, 0, none⟩)] w' fun e w'' => e = .returned (.bool (quB flow run x)) ∧ w''.heap[g]? = some (.cells #[.string flow, .int .i64 run] 69 (0, 0)) ∧ w'.grownBy w'' none := by
  have hg : g < w'.heap.size := (Array.getElem?_eq_some_iff.1 h).1
  have hA : Below w'.heap.size w' (w'.alloc (.cells cs.toArray 31)) := (Below.refl _ _).alloc (Nat.le_refl _) _
  have c0 : (w'.alloc (.cells cs.toArray 31)).cell? ⟨g, 0, none⟩ = some (.string flow) := cell_later (box_cell h 0 _ rfl) _
  have c1 : (w'.alloc (.cells cs.toArray 31)).cell? ⟨g, 1, none⟩ = some (.int .i64 run) := cell_later (box_cell h 1 _ rfl) _
  have hX := Lib.hid (heap_alloc_new w' (.cells cs.toArray 31))
  have hl := hx.len
  have hlo : cs.toArray.size = 19 := by simp [hl]
  have Q := Lib.hid (query flow run S x cs (w'.alloc (.cells cs.toArray 31)) (hx.change (fun _ h => h) (fun b hb => hA.block b (hS b hb))))
  have hfin : ∀ w'', Below (w'.alloc (.cells cs.toArray 31)).heap.size (w'.alloc (.cells cs.toArray 31)) w'' → w''.heap[g]? = some (.cells #[.string flow, .int .i64 run] 69 (0, 0)) ∧ w'.grownBy w'' none := fun w'' hb => by
    have hb' := hA.trans (hb.mono hA.size)
    exact ⟨(hb'.block g hg).trans h, below_gb hb' _⟩
  replace hfin := Lib.hid hfin
  replace hl := Lib.hid hl
  clear h hx hA hS
  go_enter Try.func45, Try.ntmps45
  go_wp2_with (first | (with_reducible refine wpList_load_row rfl 31 (.tmp 2) rfl w'.heap.size rfl 31 cs.toArray (0, 0) _ hX.out Try.underlying31 rfl (w_size' hl.out) ?_) | (go_at_call 46; refine Q.out.mono ?_; rintro e w3 ⟨rfl, hb3⟩))
  go_ret
  exact ⟨rfl, hfin.out _ hb3⟩
set_option maxHeartbeats 800000 in
theorem queries (a : Option Addr) (n cap : Nat) (ws : List WT) (flow : ByteArray) (run : Int) (w : World) (hs : Sl 19 (WAt (Live w) w) (Live w) w a ws) (hn : ws.length = n) (hc : n ≤ cap) (h9 : n ≤ 1000000) :
    Calls Try.prog 20 #[.slice a n cap, .string flow, .int .i64 run] w (KListP w (queL flow run ws)) := by
  have hA : Below w.heap.size w (w.alloc (.cells #[.string flow, .int .i64 run] 69)) := (Below.refl _ _).alloc (Nat.le_refl _) _
  have hX := heap_alloc_new w (.cells #[.string flow, .int .i64 run] 69)
  have hsz : (w.alloc (.cells #[.string flow, .int .i64 run] 69)).heap.size = w.heap.size + 1 := by simp
  have hs' : Sl 19 (WAt (fun b => b < w.heap.size) (w.alloc (.cells #[.string flow, .int .i64 run] 69))) (fun b => b < w.heap.size) (w.alloc (.cells #[.string flow, .int .i64 run] 69)) a ws := hs.change (fun b hb => hb) (fun b hb => hA.block b hb) (fun t _ cs h => h.change (fun b hb => hb) (fun b hb => hA.block b hb))
  have K := asksC 45 #[.pointer (some ⟨w.heap.size, 0, none⟩)] (fun _ x => quB flow run x) (fun _ w' => w'.heap[w.heap.size]? = some (.cells #[.string flow, .int .i64 run] 69 (0, 0))) w.heap.size none _ hA.size (fun k hk => by cases hk) (enters (fn := Try.f45) (by kernel_rfl) (by kernel_rfl) rfl) hX
    (fun pre w' w'' h h2 h3 => (h3 _ (by rw [hsz]; omega)).trans h) (fun pre w' x cs hg h hx => q_asks w.heap.size flow run pre w' x _ cs h hx (fun b hb => by have := hg.size; omega)) a n cap ws hs' hn hc h9
  replace K := Lib.hid K
  replace hA := Lib.hid hA
  clear hs hs' hn hX
  go_enter Try.func20, Try.ntmps20
  go_wp2_with fail
  refine K.out.mono ?_
  rintro e w2 ⟨v, rfl, hout, hg2⟩
  have hb := Lib.hid (hA.out.grown hg2 hA.out.size (fun k hk => by cases hk))
  replace hout := Lib.hid hout
  clear hg2
  go_wp2_with fail
  go_ret
  exact ⟨v, rfl, hout.out.mono carried_k (by omega), hb.out⟩
/-- what Updates remembers -/
def UpSt (g g' m : Nat) (flow : ByteArray) (run : Int) (pre : List WT) (w' : World) : Prop :=
  w'.heap[g]? = some (.cells #[.string flow, .int .i64 run] 69 (0, 0)) ∧ w'.heap[g']? = some (.cells #[.map (some m)] 70 (0, 0)) ∧ ∃ L, MapAt .string w' m L ∧ ∀ z : ByteArray, zfind L (.string z) = if seenB flow run pre z then some (.bool true) else none
theorem UpSt.keep {g g' m : Nat} {flow : ByteArray} {run : Int} {pre : List WT} {w' w'' : World} (h : UpSt g g' m flow run pre w') (h1 : w''.heap[g]? = w'.heap[g]?) (h2 : w''.heap[g']? = w'.heap[g']?) (h3 : w''.heap[m]? = w'.heap[m]?) : UpSt g g' m flow run pre w'' := by
  obtain ⟨k1, k2, L, k3, k4⟩ := h
  exact ⟨h1.trans k1, h2.trans k2, L, k3.keep h3, k4⟩
theorem UpSt.lt {g g' m : Nat} {flow : ByteArray} {run : Int} {pre : List WT} {w' : World} (h : UpSt g g' m flow run pre w') : g < w'.heap.size ∧ g' < w'.heap.size ∧ m < w'.heap.size := by
  obtain ⟨k1, k2, L, k3, k4⟩ := h
  exact ⟨(Array.getElem?_eq_some_iff.1 k1).1, (Array.getElem?_eq_some_iff.1 k2).1, k3.lt⟩
theorem seen_snoc (flow : ByteArray) (run : Int) (pre : List WT) (x : WT) (z : ByteArray) : seenB flow run (pre ++ [x]) z = (seenB flow run pre z || (upB flow run x && (x.name.toList == z.toList))) := by
  unfold seenB; rw [List.any_append]; simp
theorem UpSt.same {g g' m : Nat} {flow : ByteArray} {run : Int} {pre pre' : List WT} {w' : World} (h : UpSt g g' m flow run pre w') (he : ∀ z, seenB flow run pre' z = seenB flow run pre z) : UpSt g g' m flow run pre' w' := by
  obtain ⟨k1, k2, L, k3, k4⟩ := h
  exact ⟨k1, k2, L, k3, fun z => by rw [he]; exact k4 z⟩
theorem beq_list_true {a b : ByteArray} : (a.toList == b.toList) = true ↔ a = b := by
  rw [beq_iff_eq, ByteArray.toList_eq, ByteArray.toList_eq]
  exact ⟨fun h => ByteArray.ext (Array.toList_inj.mp h), fun h => by rw [h]⟩
theorem seen_name {flow : ByteArray} {run : Int} {pre : List WT} {a b : ByteArray} (h : (a.toList == b.toList) = true) : seenB flow run pre a = seenB flow run pre b := by rw [beq_list_true.1 h]
set_option maxHeartbeats 1600000 in
theorem u_asks (g g' m : Nat) (hgm : g ≠ m) (hgm' : g' ≠ m) (flow : ByteArray) (run : Int) (pre : List WT) (w' : World) (x : WT) (S : Nat → Prop) (cs : List Value) (h : UpSt g g' m flow run pre w') (hx : WAt S w' x cs) (hS : ∀ b, S b → b < w'.heap.size) :
    Calls Try.prog 41 #[.agg cs.toArray, .pointer (some ⟨g, 0, none⟩), .pointer (some ⟨g', 0, none⟩)] w' fun e w'' => e = .returned (.bool (updP flow run pre x)) ∧ UpSt g g' m flow run (pre ++ [x]) w'' ∧ w'.grownBy w'' (some m) := by
  obtain ⟨hg, hg', hm⟩ := h.lt
  have hA : Below w'.heap.size w' (w'.alloc (.cells cs.toArray 31)) := (Below.refl _ _).alloc (Nat.le_refl _) _
  have c0 : (w'.alloc (.cells cs.toArray 31)).cell? ⟨g, 0, none⟩ = some (.string flow) := cell_later (box_cell h.1 0 _ rfl) _
  have c1 : (w'.alloc (.cells cs.toArray 31)).cell? ⟨g, 1, none⟩ = some (.int .i64 run) := cell_later (box_cell h.1 1 _ rfl) _
  have hX := Lib.hid (heap_alloc_new w' (.cells cs.toArray 31))
  have hl := hx.len
  have hcc := hx.cells
  have hlo : cs.toArray.size = 19 := by simp [hl]
  have hszA : (w'.alloc (.cells cs.toArray 31)).heap.size = w'.heap.size + 1 := by simp
  have Q := Lib.hid (update flow run S x cs (w'.alloc (.cells cs.toArray 31)) (hx.change (fun _ h => h) (fun b hb => hA.block b (hS b hb))))
  have hfin : ∀ w'', Below (w'.alloc (.cells cs.toArray 31)).heap.size (w'.alloc (.cells cs.toArray 31)) w'' → UpSt g g' m flow run pre w'' ∧ w'.grownBy w'' (some m) := fun w'' hb => by
    have hb' := hA.trans (hb.mono hA.size)
    exact ⟨h.keep (hb'.block g hg) (hb'.block g' hg') (hb'.block m hm), below_gb hb' _⟩
  replace hfin := Lib.hid hfin
  replace hl := Lib.hid hl
  replace hszA := Lib.hid hszA
  clear h hx hA hS
  cases hu : upB flow run x with
  | false =>
    have e1 : updP flow run pre x = false := by unfold updP; rw [hu]; rfl
    have e2 : ∀ z, seenB flow run (pre ++ [x]) z = seenB flow run pre z := fun z => by rw [seen_snoc, hu]; simp
    rw [hu] at Q
    replace hu := Lib.hid hu
    replace e2 := Lib.hid e2
    replace e1 := Lib.hid e1
    go_enter Try.func41, Try.ntmps41
    go_wp2_with (first | (with_reducible refine wpList_load_row rfl 31 (.tmp 3) rfl w'.heap.size rfl 31 cs.toArray (0, 0) _ hX.out Try.underlying31 rfl (w_size' hl.out) ?_) | (go_at_call 42; refine Q.out.mono ?_; rintro e w3 ⟨rfl, hb3⟩))
    go_ret
    exact ⟨by rw [e1.out]; rfl, (hfin.out _ hb3).1.same e2.out, (hfin.out _ hb3).2⟩
  | true =>
    rw [hu] at Q
    cases hsn : seenB flow run pre x.name with
    | true =>
      have e1 : updP flow run pre x = false := by unfold updP; rw [hu, hsn]; rfl
      have e2 : ∀ z, seenB flow run (pre ++ [x]) z = seenB flow run pre z := fun z => by
        rw [seen_snoc, hu]
        cases hz : (x.name.toList == z.toList) with
        | false => simp
        | true => rw [← seen_name hz, hsn]; rfl
      replace hu := Lib.hid hu
      replace hsn := Lib.hid hsn
      replace e2 := Lib.hid e2
      replace e1 := Lib.hid e1
      go_enter Try.func41, Try.ntmps41
      go_upto_region 1 with (fail)
      go_wp2_with (first | (with_reducible refine wpList_load_row rfl 31 (.tmp 3) rfl w'.heap.size rfl 31 cs.toArray (0, 0) _ hX.out Try.underlying31 rfl (w_size' hl.out) ?_) | (go_at_call 42; refine Q.out.mono ?_; rintro e w3 ⟨rfl, hb3⟩; obtain ⟨⟨k1, k2, L, k3, k4⟩, k5⟩ := hfin.out _ hb3; have hLK := lookup_any kit70 w3 m L (.string x.name) (by simp [MapKept.IsKey]) k3; rw [k4, hsn.out, if_pos rfl] at hLK; have q5 : w3.cell? ⟨w'.heap.size, 5, none⟩ = some (.string x.name) := box_cell ((hb3.block _ (by rw [hszA.out]; omega)).trans hX.out) 5 _ (by have := hcc.2.2.2.2.2.1; simpa using this); have qm := box_cell k2 0 _ rfl; simp only [Option.getD_some] at hLK; replace k3 := Lib.hid k3; replace k4 := Lib.hid k4; replace k5 := Lib.hid k5; replace hb3 := Lib.hid hb3))
      go_ret
      exact ⟨by rw [e1.out]; rfl, (hfin.out _ hb3.out).1.same e2.out, (hfin.out _ hb3.out).2⟩
    | false =>
      have e1 : updP flow run pre x = true := by unfold updP; rw [hu, hsn]; rfl
      have e2 : ∀ z, seenB flow run (pre ++ [x]) z = (seenB flow run pre z || (x.name.toList == z.toList)) := fun z => by rw [seen_snoc, hu]; simp
      replace hu := Lib.hid hu
      replace hsn := Lib.hid hsn
      replace e2 := Lib.hid e2
      replace e1 := Lib.hid e1
      go_enter Try.func41, Try.ntmps41
      go_upto_region 1 with (fail)
      go_wp2_with (first | (with_reducible refine wpList_load_row rfl 31 (.tmp 3) rfl w'.heap.size rfl 31 cs.toArray (0, 0) _ hX.out Try.underlying31 rfl (w_size' hl.out) ?_) | (go_at_call 42; refine Q.out.mono ?_; rintro e w3 ⟨rfl, hb3⟩; obtain ⟨⟨k1, k2, L, k3, k4⟩, k5⟩ := hfin.out _ hb3; have hLK := lookup_any kit70 w3 m L (.string x.name) (by simp [MapKept.IsKey]) k3; rw [k4, hsn.out, if_neg (by simp)] at hLK; have q5 : w3.cell? ⟨w'.heap.size, 5, none⟩ = some (.string x.name) := box_cell ((hb3.block _ (by rw [hszA.out]; omega)).trans hX.out) 5 _ (by have := hcc.2.2.2.2.2.1; simpa using this); have qm := box_cell k2 0 _ rfl; simp only [Option.getD_none] at hLK; obtain ⟨o, L', hU, u1, u2⟩ := update_any kit70 w3 m L (.string x.name) (by simp [MapKept.IsKey]) (.bool true) k3; replace u1 := Lib.hid u1; replace u2 := Lib.hid u2; replace k3 := Lib.hid k3; replace k4 := Lib.hid k4; replace k5 := Lib.hid k5; replace hb3 := Lib.hid hb3; replace k1 := Lib.hid k1))
      go_ret
      refine ⟨by rw [e1.out]; rfl, ⟨(setMap_other o hgm).trans k1.out, (setMap_other o hgm').trans k2, L', u1.out, fun z => ?_⟩, World.grownBy.trans k5.out ⟨rfl, rfl, rfl, by simp [setMap], fun k hk hne => setMap_other o (fun e => hne (by rw [e]))⟩⟩
      rw [u2.out, e2.out, k4.out]
      by_cases hz : z = x.name
      · subst hz; simp
      · have hz2 : (x.name.toList == z.toList) = false := by
          cases hb : (x.name.toList == z.toList) with
          | false => rfl
          | true => exact absurd (beq_list_true.1 hb).symm hz
        rw [if_neg (by simpa using hz), hz2, Bool.or_false]
set_option maxHeartbeats 800000 in
theorem updates (a : Option Addr) (n cap : Nat) (ws : List WT) (flow : ByteArray) (run : Int) (w : World) (hs : Sl 19 (WAt (Live w) w) (Live w) w a ws) (hn : ws.length = n) (hc : n ≤ cap) (h9 : n ≤ 1000000) :
    Calls Try.prog 18 #[.slice a n cap, .string flow, .int .i64 run] w (KListP w (updL flow run ws)) := by
  have hmm := fun w : World => run_makeMap_plain (P := Try.prog) w 70
  replace hs := Lib.hid hs
  replace hn := Lib.hid hn
  go_enter Try.func18, Try.ntmps18
  go_upto_region 2 with (fail)
  have hX : (((w.alloc (.map #[] 0)).alloc (.cells #[.string flow, .int .i64 run] 69)).alloc (.cells #[.map (some w.heap.size)] 70)).heap[w.heap.size + 1]? = some (.cells #[.string flow, .int .i64 run] 69 (0, 0)) := by
    rw [heap_alloc_old _ _ (by simp)]
    have h := heap_alloc_new (w.alloc (.map #[] 0)) (.cells #[.string flow, .int .i64 run] 69)
    rw [show (w.alloc (.map #[] 0)).heap.size = w.heap.size + 1 by simp] at h
    exact h
  have hY : (((w.alloc (.map #[] 0)).alloc (.cells #[.string flow, .int .i64 run] 69)).alloc (.cells #[.map (some w.heap.size)] 70)).heap[w.heap.size + 1 + 1]? = some (.cells #[.map (some w.heap.size)] 70 (0, 0)) := by
    have h := heap_alloc_new ((w.alloc (.map #[] 0)).alloc (.cells #[.string flow, .int .i64 run] 69)) (.cells #[.map (some w.heap.size)] 70)
    rw [show ((w.alloc (.map #[] 0)).alloc (.cells #[.string flow, .int .i64 run] 69)).heap.size = w.heap.size + 1 + 1 by simp] at h
    exact h
  have hM : MapAt .string (((w.alloc (.map #[] 0)).alloc (.cells #[.string flow, .int .i64 run] 69)).alloc (.cells #[.map (some w.heap.size)] 70)) w.heap.size [] := (map_new .string w).keep (by rw [heap_alloc_old _ _ (by simp; omega), heap_alloc_old _ _ (by simp)])
  have hA : Below w.heap.size w (((w.alloc (.map #[] 0)).alloc (.cells #[.string flow, .int .i64 run] 69)).alloc (.cells #[.map (some w.heap.size)] 70)) := (((Below.refl _ _).alloc (Nat.le_refl _) _).alloc (by simp) _).alloc (by simp; omega) _
  have hsz : (((w.alloc (.map #[] 0)).alloc (.cells #[.string flow, .int .i64 run] 69)).alloc (.cells #[.map (some w.heap.size)] 70)).heap.size = w.heap.size + 3 := by simp
  generalize (((w.alloc (.map #[] 0)).alloc (.cells #[.string flow, .int .i64 run] 69)).alloc (.cells #[.map (some w.heap.size)] 70)) = W at *
  have hs' : Sl 19 (WAt (fun b => b < w.heap.size) W) (fun b => b < w.heap.size) W a ws := hs.out.change (fun b hb => hb) (fun b hb => hA.block b hb) (fun t _ cs h => h.change (fun b hb => hb) (fun b hb => hA.block b hb))
  have K := asksC 41 #[.pointer (some ⟨w.heap.size + 1, 0, none⟩), .pointer (some ⟨w.heap.size + 1 + 1, 0, none⟩)] (updP flow run) (UpSt (w.heap.size + 1) (w.heap.size + 1 + 1) w.heap.size flow run) w.heap.size (some w.heap.size) W hA.size (fun k hk => by cases hk; omega) (enters (fn := Try.f41) (by kernel_rfl) (by kernel_rfl) rfl) ⟨hX, hY, [], hM, fun z => by simp [seenB, zfind]⟩
    (fun pre w' w'' h h2 h3 => h.keep (h3 _ (by omega)) (h3 _ (by omega)) (h3 _ (by omega))) (fun pre w' x cs hg h hx => u_asks _ _ _ (by omega) (by omega) flow run pre w' x _ cs h hx (fun b hb => by have := hg.size; omega)) a n cap ws hs' hn.out hc h9
  replace K := Lib.hid K
  replace hA := Lib.hid hA
  replace hsz := Lib.hid hsz
  clear hs' hX hY hM
  go_wp2_with fail
  refine K.out.mono ?_
  rintro e w2 ⟨v, rfl, hout, hg2⟩
  have hb := Lib.hid (hA.out.grown hg2 hA.out.size (fun k hk => by cases hk; exact Nat.le_refl _))
  replace hout := Lib.hid hout
  clear hg2
  go_wp2_with fail
  go_ret
  exact ⟨v, rfl, hout.out.mono carried_k (by rw [hsz.out]; omega), hb.out⟩
end Go.Proofs.Ytncmjkaclfcbmaa
