/- slices.Concat of two rows of bytes. -/
import Derived.Test.YtjphboljhkddaaaMem
import Derived.WalkSpells
import Derived.Lib.LazyBuf
import Derived.Lib.AppendZerosOnto
namespace Go.Proofs.Ytjphboljhkddaaa
open Go.RowKit

def Made (w : World) (n : Nat) (v : Value) (w' : World) : Prop := ∃ G, n ≤ G ∧ G ≤ maxLen ∧ v = .slice (some ⟨w.heap.size, 0, none⟩) 0 G ∧ Below w.heap.size w w' ∧ w.heap.size < w'.heap.size ∧ w'.ownsRow w.heap.size 5 1 v 0 []
def MadeP (w : World) (n : Nat) (e : Ending) (w' : World) : Prop := ∃ v, e = .returned v ∧ Made w n v w'
theorem grow_zero (w : World) : Calls Try.prog 35 #[.slice none 0 0, .int .i64 0] w fun e w' => e = .returned (.slice none 0 0) ∧ w = w' := by
  go_enter Try.func35, Try.ntmps35
  go_wp2_with fail
  go_ret
  exact ⟨rfl, rfl⟩
theorem grow (n : Nat) (w : World) (h0 : 0 < n) (hn : n ≤ 281474976710656) : Calls Try.prog 35 #[.slice none 0 0, .int .i64 (n : Int)] w (MadeP w n) := by
  obtain ⟨i0, hi, hz0, hz1, hz2⟩ := info_parts (show (Try.prog.info? 5).map (fun i => (i.zero, i.size, i.bytes)) = some (some (.int .u8 0), 1, 1) by kernel_rfl)
  have hrz := fun ty => Lib.run_append_grow_zeros (P := Try.prog) w 22 3 ty 5 i0 (.int .u8 0) .i64 .i64 Try.underlying22 Try.underlying3 hi hz0 none 0 0 [] (run_firstCells_none w.drew i0.size 0 0 0) n h0 (by omega) (by omega) (by omega) (by rw [hz2]; omega) (by rw [hz2, Nat.zero_add, nextslicecap_zero h0]; omega)
  have h4 : decide (0 < (n : Int)) = true := decide_eq_true (by omega)
  have hG1 := grownCap_ge w (0 + n) 0 5
  have hG2 := grownCap_le_maxLen w (0 + n) 0 5 (by unfold maxLen; omega)
  rw [Nat.zero_add] at hG1 hG2
  simp only [Nat.zero_add] at hrz
  generalize hG : grownCap w n 0 5 = G at *
  have hsz : ((([] : List Value).toArray ++ Builtin.zeroCells (Value.int .u8 0).cells n ++ Builtin.zeroCells (Value.int .u8 0).cells (G - n))).size = G := by
    simp [Builtin.zeroCells, Value.cells]; omega
  generalize (([] : List Value).toArray ++ Builtin.zeroCells (Value.int .u8 0).cells n ++ Builtin.zeroCells (Value.int .u8 0).cells (G - n)) = X at *
  have hend : MadeP w n (.returned (.slice (some ⟨w.heap.size, 0, none⟩) 0 G)) (w.drew.alloc (.cells X 5)) := by
    refine ⟨_, rfl, G, hG1, hG2, rfl, ((Below.refl _ _).drew.alloc (Nat.le_refl _) _), by simp, rfl, .inr ⟨w.heap.size, G, X, rfl, Nat.le_refl _, heap_alloc_new w.drew _, by omega, hG2, by omega, by simp⟩⟩
  have hG2' : G ≤ 9223372036854775807 := hG2
  replace hend := Lib.hid hend
  clear hi hz0 hz1 hz2 hsz hG hG2
  go_enter Try.func35, Try.ntmps35
  go_wp2_with (at_builtin; refine Lib.wpList_append_run _ rfl _ _ _ _ rfl _ _ rfl rfl _ _ (hrz _) ?_)
  go_ret
  exact hend.out
namespace CM2
def part (l1 l2 : List Nat) : Nat → List Nat
  | 0 => []
  | 1 => l1
  | _ => l1 ++ l2
end CM2
/-- bytes are handed back, in memory of the call's own -/
def ConcatP (w : World) (l : List Nat) (e : Ending) (w' : World) : Prop := ∃ a cap, e = .returned (.slice a l.length cap) ∧ Row w' a l ∧ Below w.heap.size w w' ∧ l.length ≤ cap ∧ cap ≤ 9223372036854775807 ∧ (a = none → l.length = 0 ∧ cap = 0) ∧ ∀ ad, a = some ad → ∃ cur, w'.heap[ad.block]? = some (.cells cur 5 (0, 0))
theorem bytes_of_own {w w' : World} {B : Nat} {v : Value} {l : List Nat} (ho : w'.ownsRow B 5 1 v l.length (u8s l)) (hl : ∀ c ∈ l, c < 256) (hn : l.length ≤ 9223372036854775807) (hb : Below w.heap.size w w') : ConcatP w l (.returned v) w' := by
  obtain ⟨a, cap, rfl, _, hr⟩ := own_row ho hl hn
  obtain ⟨a', cap', e, h1, h2, h3⟩ := own_len ho
  cases e
  refine ⟨a, cap, rfl, hr, hb, h2, h3, h1, fun ad ha => ?_⟩
  rcases ho.2 with ⟨hv, _⟩ | ⟨g, c3, cur, hv, _, hh, _⟩
  · rw [ha] at hv; cases hv
  · rw [ha] at hv; cases hv; exact ⟨cur, hh⟩
theorem Row.below' {w w' : World} {a : Option Addr} {l : List Nat} (h : Row w a l) (hb : Below w.heap.size w w') : Row w' a l := h.below hb
theorem concat (w : World) (B : Nat) (a b : Option Addr) (ca cb n1 n2 : Nat) (l1 l2 : List Nat) (h1 : Row w a l1) (h2 : Row w b l2) (hn1 : l1.length = n1) (hn2 : l2.length = n2)
    (ha : a = none → n1 = 0 ∧ ca = 0) (hb : b = none → n2 = 0 ∧ cb = 0) (c0 : w.cell? ⟨B, 0, none⟩ = some (.slice a n1 ca)) (c1 : w.cell? ⟨B, 1, none⟩ = some (.slice b n2 cb))
    (hs : n1 + n2 ≤ 281474976710656) (hpos : 0 < n1 + n2) : Calls Try.prog 13 #[.slice (some ⟨B, 0, none⟩) 2 2] w (ConcatP w (l1 ++ l2)) := by
  replace h1 := Lib.hid h1
  replace h2 := Lib.hid h2
  replace hn1 := Lib.hid hn1
  replace hn2 := Lib.hid hn2
  replace ha := Lib.hid ha
  replace hb := Lib.hid hb
  go_enter Try.func13, Try.ntmps13
  go_wp2_with fail
  go_loop [3, 11] (fun s i => ∃ k : Nat, k ≤ 2 ∧ i = .int .i64 k ∧ s = .int .i64 ((if k = 0 then 0 else if k = 1 then n1 else n1 + n2 : Nat) : Int)) (fun _ i => 2 - (intOf i).toNat)
  case atStart => exact ⟨0, by omega, rfl, rfl⟩
  case round =>
    obtain ⟨k, hk, rfl, rfl⟩ := hrel
    have hk' : k = 0 ∨ k = 1 ∨ k = 2 := by omega
    rcases hk' with rfl | rfl | rfl
    · go_wp2_with fail
      go_round
      case rel => exact ⟨1, by omega, rfl, by simp⟩
      case measure => simp [intOf]
    · go_wp2_with fail
      go_round
      case rel => exact ⟨2, by omega, rfl, by simp⟩
      case measure => simp [intOf]
    · have gr := grow (n1 + n2) w hpos hs
      rw [Int.natCast_add] at gr
      replace gr := Lib.hid gr
      go_wp2_with fail
      refine gr.out.mono ?_
      rintro e w1 ⟨v, rfl, G, hG1, hG2, rfl, hb1, hlt, hown⟩
      have hc0 : ∀ wr : World, Below w.heap.size w wr → wr.cell? ⟨B, 0, none⟩ = some (.slice a n1 ca) := fun wr h => by rw [h.cell (p := ⟨B, 0, none⟩) (block_lt_of_cell c0)]; exact c0
      have hc1 : ∀ wr : World, Below w.heap.size w wr → wr.cell? ⟨B, 1, none⟩ = some (.slice b n2 cb) := fun wr h => by rw [h.cell (p := ⟨B, 1, none⟩) (block_lt_of_cell c1)]; exact c1
      replace hc0 := Lib.hid hc0
      replace hc1 := Lib.hid hc1
      replace hG1 := Lib.hid hG1
      replace hG2 := Lib.hid hG2
      replace hb1 := Lib.hid hb1
      replace hlt := Lib.hid hlt
      replace hown := Lib.hid hown
      clear c0 c1
      obtain ⟨i0, hi, hz0, hz1, hz2⟩ := info_parts (show (Try.prog.info? 5).map (fun i => (i.zero, i.size, i.bytes)) = some (some (.int .u8 0), 1, 1) by kernel_rfl)
      replace hi := Lib.hid hi
      replace hz1 := Lib.hid hz1
      clear hz0 hz2
      go_wp2_with fail
      go_loopw [6, 27] (fun v i wr => ∃ k : Nat, k ≤ 2 ∧ i = .int .i64 k ∧ v = .slice (some ⟨w.heap.size, 0, none⟩) (CM2.part l1 l2 k).length G ∧ wr.ownsRow w.heap.size 5 1 v (CM2.part l1 l2 k).length (u8s (CM2.part l1 l2 k)) ∧ Below w.heap.size w wr ∧ w.heap.size < wr.heap.size) (fun _ i _ => 2 - (intOf i).toNat)
      case atStart => exact ⟨0, by omega, rfl, rfl, hown.out, hb1.out, hlt.out⟩
      case round =>
        clear hb1 hlt hown
        obtain ⟨k, hk2, rfl, rfl, hown, hbel, hsz⟩ := hrel
        replace hown := Lib.hid hown
        replace hbel := Lib.hid hbel
        replace hsz := Lib.hid hsz
        have hk' : k = 0 ∨ k = 1 ∨ k = 2 := by omega
        rcases hk' with rfl | rfl | rfl
        · have hcc := hc0.out wr hbel.out
          have hr := Lib.hid (h1.out.below' hbel.out)
          go_wp2_with (at_builtin; refine wpList_append_fits_any wr rfl (.tmp 31) (.tmp 32) 22 rfl w.heap.size 5 i0 1 Try.underlying22 hi.out hz1.out w.heap.size 0 G [] rfl hown.out a n1 ca (u8s l1) rfl ?c1 ?c2 ?c3 (u8s_one l1) ?c4 ?_)
          case c1 => rw [u8s_len, hn1.out]; omega
          case c2 => exact ha.out
          case c3 => exact fun ad h => hr.out.news h
          case c4 => have := hG1.out; omega
          intro w2 ho hg
          have hb2 := hbel.out.grown hg (Nat.le_of_lt hsz.out) (fun k h => by cases h; exact Nat.le_refl _)
          have hs2 := Nat.lt_of_lt_of_le hsz.out hg.size
          clear hg
          replace ho := Lib.hid ho
          replace hb2 := Lib.hid hb2
          replace hs2 := Lib.hid hs2
          go_wp2_with fail
          go_roundw
          case rel => exact ⟨1, by omega, rfl, by show _ = Value.slice _ l1.length G; rw [hn1.out], by show World.ownsRow _ _ _ _ _ l1.length (u8s l1); rw [hn1.out]; exact ho.out, hb2.out, hs2.out⟩
          case measure => simp [intOf]
        · have hcc := hc1.out wr hbel.out
          have hr := Lib.hid (h2.out.below' hbel.out)
          have e1 : (CM2.part l1 l2 1).length = n1 := hn1.out
          rw [e1] at hown ⊢
          clear e1
          go_wp2_with (at_builtin; refine wpList_append_fits_any wr rfl (.tmp 31) (.tmp 32) 22 rfl w.heap.size 5 i0 1 Try.underlying22 hi.out hz1.out w.heap.size n1 G (u8s l1) rfl hown.out b n2 cb (u8s l2) rfl ?c1 ?c2 ?c3 (u8s_one l2) ?c4 ?_)
          case c1 => rw [u8s_len, hn2.out]; omega
          case c2 => exact hb.out
          case c3 => exact fun ad h => hr.out.news h
          case c4 => have := hG1.out; omega
          intro w2 ho hg
          have hb2 := hbel.out.grown hg (Nat.le_of_lt hsz.out) (fun k h => by cases h; exact Nat.le_refl _)
          have hs2 := Nat.lt_of_lt_of_le hsz.out hg.size
          clear hg
          rw [← u8s_append] at ho
          replace ho := Lib.hid ho
          replace hb2 := Lib.hid hb2
          replace hs2 := Lib.hid hs2
          have e2 : n1 + n2 = (l1 ++ l2).length := by rw [List.length_append, hn1.out, hn2.out]
          replace e2 := Lib.hid e2
          go_wp2_with fail
          go_roundw
          case rel => exact ⟨2, by omega, rfl, by show _ = Value.slice _ (l1 ++ l2).length G; rw [e2.out], by show World.ownsRow _ _ _ _ _ (l1 ++ l2).length (u8s (l1 ++ l2)); rw [← e2.out]; exact ho.out, hb2.out, hs2.out⟩
          case measure => simp [intOf]
        · have hfin : ConcatP w (l1 ++ l2) (.returned (.slice (some ⟨w.heap.size, 0, none⟩) (l1 ++ l2).length G)) wr := by
            exact bytes_of_own hown.out (fun c hc => (List.mem_append.1 hc).elim (h1.out.1 c) (h2.out.1 c)) (by
              show (l1 ++ l2).length ≤ _; rw [List.length_append, hn1.out, hn2.out]; omega) hbel.out
          replace hfin := Lib.hid hfin
          show Code.wp _ _ _ _ _
          go_wp2_with fail
          go_ret
          exact hfin.out
theorem concat0 (w : World) (B : Nat) (a b : Option Addr) (ca cb : Nat) (ha : a = none → ca = 0) (hb : b = none → cb = 0) (c0 : w.cell? ⟨B, 0, none⟩ = some (.slice a 0 ca)) (c1 : w.cell? ⟨B, 1, none⟩ = some (.slice b 0 cb)) :
    Calls Try.prog 13 #[.slice (some ⟨B, 0, none⟩) 2 2] w (ConcatP w []) := by
  replace ha := Lib.hid ha
  replace hb := Lib.hid hb
  go_enter Try.func13, Try.ntmps13
  go_wp2_with fail
  go_loop [3, 11] (fun s i => ∃ k : Nat, k ≤ 2 ∧ i = .int .i64 k ∧ s = .int .i64 0) (fun _ i => 2 - (intOf i).toNat)
  case atStart => exact ⟨0, by omega, rfl, rfl⟩
  case round =>
    obtain ⟨k, hk, rfl, rfl⟩ := hrel
    have hk' : k = 0 ∨ k = 1 ∨ k = 2 := by omega
    rcases hk' with rfl | rfl | rfl
    · go_wp2_with fail
      go_round
      case rel => exact ⟨1, by omega, rfl, rfl⟩
      case measure => simp [intOf]
    · go_wp2_with fail
      go_round
      case rel => exact ⟨2, by omega, rfl, rfl⟩
      case measure => simp [intOf]
    · go_wp2_with fail
      refine (grow_zero w).mono ?_
      rintro e w1 ⟨rfl, rfl⟩
      have hc0 : ∀ wr : World, Below w.heap.size w wr → wr.cell? ⟨B, 0, none⟩ = some (.slice a 0 ca) := fun wr h => by rw [h.cell (p := ⟨B, 0, none⟩) (block_lt_of_cell c0)]; exact c0
      have hc1 : ∀ wr : World, Below w.heap.size w wr → wr.cell? ⟨B, 1, none⟩ = some (.slice b 0 cb) := fun wr h => by rw [h.cell (p := ⟨B, 1, none⟩) (block_lt_of_cell c1)]; exact c1
      replace hc0 := Lib.hid hc0
      replace hc1 := Lib.hid hc1
      clear c0 c1
      go_wp2_with fail
      go_loopw [6, 27] (fun v i wr => ∃ k : Nat, k ≤ 2 ∧ i = .int .i64 k ∧ v = .slice none 0 0 ∧ Below w.heap.size w wr ∧ w.heap.size ≤ wr.heap.size) (fun _ i _ => 2 - (intOf i).toNat)
      case atStart => exact ⟨0, by omega, rfl, rfl, Below.refl _ _, Nat.le_refl _⟩
      case round =>
        obtain ⟨k, hk2, rfl, rfl, hbel, hsz⟩ := hrel
        replace hbel := Lib.hid hbel
        replace hsz := Lib.hid hsz
        have hk' : k = 0 ∨ k = 1 ∨ k = 2 := by omega
        rcases hk' with rfl | rfl | rfl
        · have hcc := hc0.out wr hbel.out
          cases a with
          | none =>
            go_wp2_with fail
            go_roundw
            case rel => exact ⟨1, by omega, rfl, rfl, hbel.out, hsz.out⟩
            case measure => simp [intOf]
          | some ad =>
            go_wp2_with fail
            go_roundw
            case rel => exact ⟨1, by omega, rfl, rfl, hbel.out, hsz.out⟩
            case measure => simp [intOf]
        · have hcc := hc1.out wr hbel.out
          cases b with
          | none =>
            go_wp2_with fail
            go_roundw
            case rel => exact ⟨2, by omega, rfl, rfl, hbel.out, hsz.out⟩
            case measure => simp [intOf]
          | some ad =>
            go_wp2_with fail
            go_roundw
            case rel => exact ⟨2, by omega, rfl, rfl, hbel.out, hsz.out⟩
            case measure => simp [intOf]
        · have hfin : ConcatP w [] (.returned (.slice none 0 0)) wr := ⟨none, 0, rfl, ⟨fun c hc => (by cases hc), by decide, .inl rfl⟩, hbel.out, Nat.le_refl _, by decide, fun _ => ⟨rfl, rfl⟩, fun _ h => by cases h⟩
          replace hfin := Lib.hid hfin
          go_wp2_with fail
          go_ret
          exact hfin.out
theorem concat_any (w : World) (B : Nat) (a b : Option Addr) (ca cb n1 n2 : Nat) (l1 l2 : List Nat) (h1 : Row w a l1) (h2 : Row w b l2) (hn1 : l1.length = n1) (hn2 : l2.length = n2)
    (ha : a = none → n1 = 0 ∧ ca = 0) (hb : b = none → n2 = 0 ∧ cb = 0) (c0 : w.cell? ⟨B, 0, none⟩ = some (.slice a n1 ca)) (c1 : w.cell? ⟨B, 1, none⟩ = some (.slice b n2 cb))
    (hs : n1 + n2 ≤ 281474976710656) : Calls Try.prog 13 #[.slice (some ⟨B, 0, none⟩) 2 2] w (ConcatP w (l1 ++ l2)) := by
  by_cases hpos : 0 < n1 + n2
  · exact concat w B a b ca cb n1 n2 l1 l2 h1 h2 hn1 hn2 ha hb c0 c1 hs hpos
  · obtain rfl : n1 = 0 := by omega
    obtain rfl : n2 = 0 := by omega
    rw [List.length_eq_zero_iff.1 hn1, List.length_eq_zero_iff.1 hn2]
    exact concat0 w B a b ca cb (fun h => (ha h).2) (fun h => (hb h).2) c0 c1
/-- slices.Clone -/
theorem clone (a : Option Addr) (l : List Nat) (n cap : Nat) (w : World) (hr : Row w a l) (hn : l.length = n) (hnil : a = none → n = 0 ∧ cap = 0) (hb : n ≤ 140737488355328) :
    Calls Try.prog 33 #[.slice a n cap] w (ConcatP w l) := by
  rcases a with _ | ad
  · obtain ⟨rfl, rfl⟩ := hnil rfl
    obtain rfl : l = [] := List.length_eq_zero_iff.1 hn
    have hfin : ConcatP w [] (.returned (.slice none 0 0)) w := ⟨none, 0, rfl, ⟨fun c hc => (by cases hc), by decide, .inl rfl⟩, Below.refl _ _, Nat.le_refl _, by decide, fun _ => ⟨rfl, rfl⟩, fun _ h => by cases h⟩
    replace hfin := Lib.hid hfin
    clear hr hn hnil
    have hq := fun w : World => Go.run_eql_slice_nil (P := Try.prog) w 22 5 none 0 0 Try.underlying22
    go_enter Try.func33, Try.ntmps33
    go_wp2_with fail
    go_ret
    exact hfin.out
  · obtain ⟨i0, hi, hz0, hz1, hz2⟩ := u8_info
    have hnews := fun w' (hb : Below w.heap.size w w') => (hr.below hb).news (ad := ad) rfl
    have hlen : (u8s l).length = n * 1 := by rw [u8s_len, hn]; omega
    replace hi := Lib.hid hi
    replace hz0 := Lib.hid hz0
    replace hz1 := Lib.hid hz1
    replace hz2 := Lib.hid hz2
    replace hnews := Lib.hid hnews
    replace hlen := Lib.hid hlen
    replace hr := Lib.hid hr
    replace hn := Lib.hid hn
    clear hnil
    have hq := fun w : World => Go.run_eql_slice_nil (P := Try.prog) w 22 5 (some ad) n cap Try.underlying22
    go_enter Try.func33, Try.ntmps33
    go_wp2_with (at_builtin; refine append_src rfl (.tmp 5) (.tmp 6) 22 rfl w.heap.size 5 i0 (.int .u8 0) 1 1 Try.underlying22 hi.out hz0.out hz1.out hz2.out rfl (by decide) (.slice (some ⟨w.heap.size, 0, none⟩) 0 0) 0 [] rfl (own_new w [] w.heap.size (Nat.le_refl _) (by decide)) (some ad) n cap (u8s l) rfl (fun h => by cases h) hlen.out (fun ad' h => by cases h; exact hnews.out _ ((Below.refl _ _).alloc (Nat.le_refl _) _)) (u8s_one l) (by unfold maxLen; omega) (by omega) (by simp) ?_)
    intro v' w2 ho g2
    have hb2 : Below w.heap.size w w2 := ((Below.refl _ _).alloc (Nat.le_refl _) _).grown g2 (by simp) (fun k h => by cases h; exact Nat.le_refl _)
    have hfin : ConcatP w l (.returned v') w2 := by
      refine bytes_of_own (B := w.heap.size) ?_ hr.out.1 hr.out.2.1 hb2
      rw [hn.out]
      simpa using ho
    replace hfin := Lib.hid hfin
    clear ho g2 hb2
    go_wp2_with fail
    go_ret
    exact hfin.out
end Go.Proofs.Ytjphboljhkddaaa
