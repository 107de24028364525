/- slices.DeleteFunc of timers. -/
import Derived.Test.YtidoacdigedlnaaTRow
import Derived.Test.YtidoacdigedlnaaLate
set_option linter.unusedVariables false
set_option linter.unusedSimpArgs false
namespace Go.Proofs.Ytidoacdigedlnaa
open Go.RowKit

def AsksB (b : Nat) (w : World) (fw : Nat) (caps : Array Value) (p : TM → Bool) : Prop :=
  ∀ (w' : World) (x : TM), Below b w w' → Calls Try.prog fw (#[.agg #[.string x.name, .int .i64 x.due]] ++ caps) w' fun e w'' => e = .returned (.bool (p x)) ∧ Below w'.heap.size w' w''
theorem AsksB.t {b : Nat} {w : World} {fw : Nat} {caps : Array Value} {p : TM → Bool} (h : AsksB b w fw caps p) (hb : b ≤ w.heap.size) : AsksT w fw caps p := fun w' x hw => h w' x (hw.mono hb)
theorem idxF_cases (p : TM → Bool) : ∀ l : List TM, (idxF p l = -1 ∧ l.filter (fun x => !p x) = l) ∨ (∃ i : Nat, idxF p l = (i : Int) ∧ i < l.length ∧ (l.take i).filter (fun x => !p x) = l.take i ∧ (l.take (i + 1)).filter (fun x => !p x) = l.take i)
  | [] => Or.inl ⟨rfl, rfl⟩
  | x :: l => by
    by_cases hp : p x = true
    · right
      refine ⟨0, by simp [idxF, hp], by simp, by simp, by simp [hp]⟩
    · have hp' : p x = false := by simpa using hp
      rcases idxF_cases p l with ⟨h1, h2⟩ | ⟨i, h1, h2, h3, h4⟩
      · left
        exact ⟨by simp [idxF, hp', h1], by rw [List.filter_cons, hp', h2]; rfl⟩
      · right
        refine ⟨i + 1, ?_, by simpa using h2, ?_, ?_⟩
        · simp only [idxF, hp', h1]
          rw [if_neg (by simp), if_neg (by omega)]; omega
        · rw [List.take_succ_cons, List.filter_cons, hp', h3]; rfl
        · rw [List.take_succ_cons, List.filter_cons, hp', h4, List.take_succ_cons]; rfl
theorem keep_step {p : TM → Bool} {l cur : List TM} {i j n : Nat} {x : TM} (h1 : cur.length = n) (h2 : l.length = n) (h3 : cur.take i = (l.take j).filter (fun x => !p x)) (h4 : cur.drop j = l.drop j) (hij : i < j) (hx : l[j]? = some x) (hp : p x = false) :
    (cur.set i x).take (i + 1) = (l.take (j + 1)).filter (fun x => !p x) ∧ (cur.set i x).drop (j + 1) = l.drop (j + 1) := by
  have hj : j < l.length := (List.getElem?_eq_some_iff.1 hx).1
  constructor
  · rw [List.take_add_one, List.take_add_one, List.filter_append, ← h3, hx]
    rw [List.getElem?_set_self (by omega), List.take_set_of_le (Nat.le_refl _)]
    simp [hp]
  · rw [List.drop_set_of_lt (by omega), ← List.drop_drop, h4, List.drop_drop]
theorem skip_step {p : TM → Bool} {l cur : List TM} {i j : Nat} {x : TM} (h3 : cur.take i = (l.take j).filter (fun x => !p x)) (h4 : cur.drop j = l.drop j) (hx : l[j]? = some x) (hp : p x = true) :
    cur.take i = (l.take (j + 1)).filter (fun x => !p x) ∧ cur.drop (j + 1) = l.drop (j + 1) := by
  constructor
  · rw [List.take_add_one, List.filter_append, ← h3, hx]
    simp [hp]
  · rw [← List.drop_drop, h4, List.drop_drop]
theorem drop_get {l cur : List TM} {j : Nat} (h : cur.drop j = l.drop j) : cur[j]? = l[j]? := by
  have h1 : (cur.drop j)[0]? = (l.drop j)[0]? := by rw [h]
  simpa using h1

theorem clear_T (g o m c : Nat) (w : World) (hm : 0 < m) (ht : w.there g o (m * 2)) (ty : TypeId) :
    (Builtin.clear_ #[30] ty #[.slice (some ⟨g, o, none⟩) m c]).run Try.prog w = .ok (.tuple #[]) (w.setCells g o (Builtin.zeroCells #[.string ByteArray.empty, .int .i64 0] m).toList) := by
  have hst := run_storeCells_cells (P := Try.prog) g o (Builtin.zeroCells #[.string ByteArray.empty, .int .i64 0] m).toList 0 w (fun j hj => by
      rw [Nat.add_zero]; exact (ht j (by simpa [Builtin.zeroCells] using hj)).1) (fun j hj => by
      rw [Nat.add_zero]; exact (ht j (by simpa [Builtin.zeroCells] using hj)).2) (by
      intro v hv
      simp [Builtin.zeroCells] at hv
      obtain ⟨a, ha, rfl⟩ := hv
      have h2 : a % 2 = 0 ∨ a % 2 = 1 := by omega
      rcases h2 with h | h <;> simp [h] <;> rfl)
  simp only [Nat.add_zero] at hst
  obtain ⟨m, rfl⟩ : ∃ k, m = k + 1 := ⟨m - 1, by omega⟩
  simp [Builtin.clear_, run_underlying Try.underlying30, Try.zeroValue52, Value.cells]
  rw [show (⟨#[]⟩ : ByteArray) = ByteArray.empty from rfl, hst]
  rfl
theorem tmc_one' (x : TM) : ∀ v ∈ [.string x.name, .int .i64 x.due], Value.oneCell' v = true := by
  intro v hv
  simp at hv
  rcases hv with rfl | rfl <;> rfl
set_option maxHeartbeats 800000 in
set_option maxRecDepth 100000 in
theorem delT (fw : Nat) (caps : Array Value) (p : TM → Bool) (b : Nat) (w : World) (hent : Enters fw) (hp : AsksB b w fw caps p) (hbw : b ≤ w.heap.size) (a : Option Addr) (n cap : Nat) (l : List TM) (ht : TR b w a l) (hn : l.length = n) (h9 : n ≤ 1000000) (hc : n ≤ cap) (hc9 : cap ≤ 9223372036854775807) :
    Calls Try.prog 35 #[.slice a n cap, .func (.func fw) #[] caps] w fun e w' => ∃ a', e = .returned (.slice a' (l.filter (fun x => !p x)).length cap) ∧ TR b w' a' (l.filter (fun x => !p x)) ∧ Below b w w' := by
  have hidx := index fw caps p w hent (hp.t hbw) a n cap l ht.sl hn h9
  rcases idxF_cases p l with ⟨h1, h2⟩ | ⟨i0, h1, h2, h3, h4⟩
  · rw [h2, hn]
    rw [h1] at hidx
    clear h1 h2 hp hent
    replace hidx := Lib.hid hidx
    replace ht := Lib.hid ht
    replace hn := Lib.hid hn
    go_enter Try.func35, Try.ntmps35
    go_wp2_with (go_at_call 56; refine hidx.out.mono ?_; rintro e w1 ⟨rfl, hb⟩)
    replace hb := Lib.hid hb
    clear hidx
    go_wp2_with fail
    go_ret
    refine ⟨a, rfl, fun hl => ?_, hb.out.mono hbw⟩
    obtain ⟨g, off, g1, g2, rfl, g3⟩ := ht.out hl
    exact ⟨g, off, g1, Nat.lt_of_lt_of_le g2 hb.out.size, rfl, g3.keep (hb.out.block _ g2)⟩
  · rw [h1] at hidx
    have hl : l ≠ [] := by rintro rfl; simp at h2
    obtain ⟨g, off, g1, g2, rfl, g3⟩ := ht hl
    have hne : ((i0 : Int) == -1) = false := beq_eq_false_iff_ne.2 (by omega)
    have hi0 : i0 < n := by omega
    clear h1 ht
    replace h2 := Lib.hid h2
    replace h3 := Lib.hid h3
    replace h4 := Lib.hid h4
    replace hidx := Lib.hid hidx
    replace hp := Lib.hid hp
    replace hn := Lib.hid hn
    replace hent := Lib.hid hent
    replace g3 := Lib.hid g3
    go_enter Try.func35, Try.ntmps35
    go_wp2_with (go_at_call 56; refine hidx.out.mono ?_; rintro e w1 ⟨rfl, hb⟩)
    replace hb := Lib.hid hb
    clear hidx
    go_wp2_with fail
    go_loopw [5, 6] (fun s5 s6 wr => ∃ (i j : Nat) (cur : List TM), s5 = .int .i64 (i : Int) ∧ s6 = .int .i64 (j : Int) ∧ i < j ∧ j ≤ n ∧ cur.length = n ∧ cur.take i = (l.take j).filter (fun x => !p x) ∧ cur.drop j = l.drop j ∧ g < wr.heap.size ∧ Hd wr g off cur ∧ Below b w wr) (fun _ s6 _ => n - (intOf s6).toNat)
    case atStart => exact ⟨i0, i0 + 1, l, by go_num, by go_num, by omega, by omega, hn.out, h4.out.symm, rfl, Nat.lt_of_lt_of_le g2 hb.out.size, g3.out.keep (hb.out.block _ g2), hb.out.mono hbw⟩
    case round =>
      obtain ⟨i, j, cur, rfl, rfl, hij, hjn, k1, k2, k3, k4, k5, k6⟩ := hrel
      clear hb g3
      by_cases hlt : j < n
      · obtain ⟨x, hx⟩ : ∃ x, l[j]? = some x := ⟨_, List.getElem?_eq_getElem (by rw [hn.out]; exact hlt)⟩
        obtain ⟨q0, q1⟩ := k5.get ((drop_get k3).trans hx)
        have b0 : (0 : Int) ≤ (j : Int) := by omega
        have b1 : (j : Int) < (n : Int) := by omega
        have b2 : (0 : Int) ≤ (i : Int) := by omega
        have b3 : (i : Int) < (n : Int) := by omega
        have I := hp.out (wr.alloc (.cells #[.string x.name, .int .i64 x.due] 52)) x (k6.alloc (Nat.le_trans g1 (Nat.le_of_lt k4)) _)
        have hE := fun w => hent.out (#[.agg #[.string x.name, .int .i64 x.due]] ++ caps) w
        have hnew := heap_alloc_new wr (.cells #[.string x.name, .int .i64 x.due] 52)
        have hA : Below b w (wr.alloc (.cells #[.string x.name, .int .i64 x.due] 52)) := k6.alloc (Nat.le_trans g1 (Nat.le_of_lt k4)) _
        have hD : Hd (wr.alloc (.cells #[.string x.name, .int .i64 x.due] 52)) g off cur := k5.keep (Below.heap_alloc _ _ _ k4)
        have hS : (wr.alloc (.cells #[.string x.name, .int .i64 x.due] 52)).heap.size = wr.heap.size + 1 := by simp
        replace k1 := Lib.hid k1
        replace k2 := Lib.hid k2
        replace k3 := Lib.hid k3
        replace k5 := Lib.hid k5
        replace k6 := Lib.hid k6
        replace hA := Lib.hid hA
        replace hD := Lib.hid hD
        replace hS := Lib.hid hS
        replace hx := Lib.hid hx
        replace hnew := Lib.hid hnew
        generalize hbx : wr.heap.size = bx at *
        cases hpx : p x with
        | true =>
          rw [hpx] at I
          replace I := Lib.hid I
          replace hpx := Lib.hid hpx
          go_wp2_with fail
          refine I.out.mono ?_
          rintro e w3 ⟨rfl, hb3⟩
          have hb3' : Below (bx + 1) (wr.alloc (.cells #[.string x.name, .int .i64 x.due] 52)) w3 := hb3.mono (Nat.le_of_eq hS.out.symm)
          have hD3 := Lib.hid (hD.out.keep (hb3'.block g (by omega)))
          have hb4 : Below b w w3 := hA.out.trans (hb3'.mono (by omega))
          have hg3 : g < w3.heap.size := Nat.lt_of_lt_of_le (by rw [hS.out]; omega) hb3'.size
          replace hb4 := Lib.hid hb4
          clear hb3 hb3' I
          go_wp2_with fail
          go_roundw
          case rel =>
            obtain ⟨m1, m2⟩ := skip_step k2.out k3.out hx.out hpx.out
            exact ⟨i, j + 1, cur, rfl, by go_num, by omega, by omega, k1.out, m1, m2, hg3, hD3.out, hb4.out⟩
          case measure => simp [intOf]; omega
        | false =>
          rw [hpx] at I
          replace I := Lib.hid I
          replace hpx := Lib.hid hpx
          go_wp2_with fail
          refine I.out.mono ?_
          rintro e w3 ⟨rfl, hb3⟩
          have hb3' : Below (bx + 1) (wr.alloc (.cells #[.string x.name, .int .i64 x.due] 52)) w3 := hb3.mono (Nat.le_of_eq hS.out.symm)
          have hD3 := hD.out.keep (hb3'.block g (by omega))
          have hb4 : Below b w w3 := hA.out.trans (hb3'.mono (by omega))
          have hg3 : g < w3.heap.size := Nat.lt_of_lt_of_le (by rw [hS.out]; omega) hb3'.size
          have hn3 : w3.heap[bx]? = some (.cells #[.string x.name, .int .i64 x.due] 52 (0, 0)) := (hb3'.block bx (by omega)).trans hnew.out
          have r0 := box_cell hn3 0 _ rfl
          have r1 := box_cell hn3 1 _ rfl
          have hth : w3.there g (off + i * 2) 2 := hD3.there 2 (by rw [k1.out]; omega)
          have hD4 := Lib.hid (hD3.set (i := i) (by rw [k1.out]; omega) x)
          have hb5 := Lib.hid (below_setCells g g1 (tmc x) (off + i * 2) w3 hb4)
          have hs5 := Lib.hid (heap_size_setCells g (tmc x) (off + i * 2) w3)
          replace hth := Lib.hid hth
          replace hb4 := Lib.hid hb4
          replace hD3 := Lib.hid hD3
          clear hb3 hb3' I hn3
          have hsz2 : (Try.prog.info? 52).map (·.size) = some 2 := by kernel_rfl
          replace hsz2 := Lib.hid hsz2
          go_wp2_with (refine wpList_store_mid rfl 52 (.tmp 33) (.tmp 32) rfl g (off + i * 2) _ rfl rfl hth.out hsz2.out (all_oneCell_toArray (tmc_one' x)) ?_)
          go_roundw
          case rel =>
            obtain ⟨m1, m2⟩ := keep_step k1.out hn.out k2.out k3.out hij hx.out hpx.out
            exact ⟨i + 1, j + 1, cur.set i x, by go_num, by go_num, by omega, by omega, by rw [List.length_set]; exact k1.out, m1, m2, Nat.lt_of_lt_of_le hg3 (Nat.le_of_eq hs5.out.symm), hD4.out, hb5.out⟩
          case measure => simp [intOf]; omega
      · obtain rfl : j = n := by omega
        have hfil : l.filter (fun x => !p x) = cur.take i := by rw [k2, List.take_of_length_le (by rw [hn.out]; exact Nat.le_refl _)]
        have hcl := clear_T g (off + i * 2) (j - i) (cap - i) wr (by omega) (k5.there _ (by rw [k1]; omega))
        have hD : Hd (wr.setCells g (off + i * 2) (Builtin.zeroCells #[.string ByteArray.empty, .int .i64 0] (j - i)).toList) g off (cur.take i) := Hd.clear (l := cur.take i) (Hd.cut (m := cur.drop i) (by rw [List.take_append_drop]; exact k5)) _ _ (by rw [List.length_take]; omega)
        have hb5 := below_setCells g g1 (Builtin.zeroCells #[.string ByteArray.empty, .int .i64 0] (j - i)).toList (off + i * 2) wr k6
        have hs5 := heap_size_setCells g (Builtin.zeroCells #[.string ByteArray.empty, .int .i64 0] (j - i)).toList (off + i * 2) wr
        have hlen : (cur.take i).length = i := by rw [List.length_take]; omega
        generalize wr.setCells g (off + i * 2) (Builtin.zeroCells #[.string ByteArray.empty, .int .i64 0] (j - i)).toList = W5 at *
        replace hs5 := Lib.hid hs5
        replace hfil := Lib.hid hfil
        replace hlen := Lib.hid hlen
        replace k1 := Lib.hid k1
        replace k2 := Lib.hid k2
        replace k3 := Lib.hid k3
        replace k5 := Lib.hid k5
        replace k6 := Lib.hid k6
        replace hD := Lib.hid hD
        replace hb5 := Lib.hid hb5
        have c1 : (i : Int) ≤ (j : Int) := by omega
        have c2 : (i : Int) ≤ (cap : Int) := by omega
        have c3 : (j : Int) ≤ (cap : Int) := by omega
        have c0 : (0 : Int) ≤ (i : Int) := by omega
        go_wp2_with fail
        go_ret
        rw [hfil.out, hlen.out]
        exact ⟨_, rfl, fun _ => ⟨g, off, g1, by rw [hs5.out]; exact k4, rfl, hD.out⟩, hb5.out⟩
end Go.Proofs.Ytidoacdigedlnaa
