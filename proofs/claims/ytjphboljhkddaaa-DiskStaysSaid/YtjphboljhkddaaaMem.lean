/- Rows of bytes in memory: what is owned, read, compared. -/
import Derived.Test.YtjphboljhkddaaaRows
import Derived.WalkKit
import Derived.ProofKit
import Derived.WalkLawsBesides
import Derived.Lib.Hide
import Derived.Below
import Derived.OneCell
import Derived.Laws.BytesArg
import Derived.Deep.QuietTactic
import Derived.BigQuiet
import Derived.Deep.RegionWith
import Derived.RegionTactic
import Derived.Deep.DeepCutAuto
import Derived.Lib.AppendZerosOnto
import Derived.Laws.AppendOwnNone
set_option linter.unusedVariables false
namespace Go.Proofs.Ytjphboljhkddaaa
open Go.RowKit

theorem ret_int {k : IntKind} {a b : Int} (h : a = b) : Ending.returned (.int k a) = .returned (.int k b) := by rw [h]
theorem ret_bool {a b : Bool} (h : a = b) : Ending.returned (.bool a) = .returned (.bool b) := by rw [h]
theorem below_setRow {B : Nat} {a w : World} (h : Below B a w) {g : Nat} (hg : B ≤ g) (cs : Array Value) : Below B a (w.setRow g cs) :=
  h.trans ⟨rfl, rfl, rfl, by simp, fun k hk => setRow_other w g k cs (by omega)⟩
def Row (w : World) (a : Option Addr) (l : List Nat) : Prop :=
  (∀ c ∈ l, c < 256) ∧ l.length ≤ 9223372036854775807 ∧ (l = [] ∨ ∃ b off, a = some ⟨b, off, none⟩ ∧ ∀ i, i < l.length → w.cell? ⟨b, off + i, none⟩ = some (.int .u8 ((l.getD i 0 : Nat) : Int)))
theorem Row.below {w w' : World} {a : Option Addr} {l : List Nat} (h : Row w a l) (hb : Below w.heap.size w w') : Row w' a l := by
  obtain ⟨h1, h2, h3⟩ := h
  refine ⟨h1, h2, ?_⟩
  rcases h3 with h3 | ⟨b, off, ha, hc⟩
  · exact .inl h3
  · refine .inr ⟨b, off, ha, fun i hi => ?_⟩
    have := hc i hi
    have hlt : b < w.heap.size := block_lt_of_cell this
    rw [hb.cell (p := ⟨b, off + i, none⟩) hlt]; exact this
def u8s (l : List Nat) : List Value := l.map fun c => .int .u8 ((c : Nat) : Int)
theorem u8s_len (l : List Nat) : (u8s l).length = l.length := by simp [u8s]
theorem u8s_append (l m : List Nat) : u8s (l ++ m) = u8s l ++ u8s m := by simp [u8s]
theorem u8s_one (l : List Nat) : ∀ u ∈ u8s l, u.oneCell' = true := by
  intro u hu
  obtain ⟨c, _, rfl⟩ := List.mem_map.1 hu
  rfl
theorem u8s_at {l : List Nat} {j : Nat} {u : Value} (h : (u8s l)[j]? = some u) : j < l.length ∧ u = .int .u8 ((l.getD j 0 : Nat) : Int) := by
  have hj : j < l.length := by have := (List.getElem?_eq_some_iff.1 h).1; rwa [u8s_len] at this
  refine ⟨hj, ?_⟩
  unfold u8s at h
  simp [hj] at h
  rw [← h]
  simp [hj]
/-- a row's cells, for a source of append -/
theorem Row.news {w : World} {a : Option Addr} {l : List Nat} (h : Row w a l) {ad : Addr} (ha : a = some ad) : ∀ j u, (u8s l)[j]? = some u → w.cell? (ad.add j) = some u := by
  intro j u hu
  obtain ⟨hj, rfl⟩ := u8s_at hu
  rcases h.2.2 with h | ⟨b, off, hb, hc⟩
  · rw [h] at hj; simp at hj
  · rw [ha] at hb
    obtain rfl := Option.some.inj hb
    have : (⟨b, off, none⟩ : Addr).add j = ⟨b, off + j, none⟩ := by simp [Addr.add]
    rw [this]; exact hc j hj
/-- what is owned reads as a row -/
theorem own_row {w : World} {B n : Nat} {v : Value} {l : List Nat} (h : w.ownsRow B 5 1 v n (u8s l)) (hl : ∀ c ∈ l, c < 256) (hn : l.length ≤ 9223372036854775807) : ∃ a cap, v = .slice a n cap ∧ l.length = n ∧ Row w a l := by
  obtain ⟨h1, h2⟩ := h
  rw [u8s_len, Nat.mul_one] at h1
  rcases h2 with ⟨rfl, rfl⟩ | ⟨g, cap, cur, rfl, hg, hh, hc, hm, hz, ht⟩
  · refine ⟨none, 0, rfl, h1, hl, hn, .inl (List.length_eq_zero_iff.1 h1)⟩
  · refine ⟨_, cap, rfl, h1, hl, hn, .inr ⟨g, 0, rfl, fun i hi => ?_⟩⟩
    rw [Nat.zero_add, cell_of_row w g i cur 5 (0, 0) hh]
    have e : (cur.toList.take (n * 1))[i]? = (u8s l)[i]? := by rw [ht]
    rw [Nat.mul_one, List.getElem?_take_of_lt (by omega)] at e
    rw [← Array.getElem?_toList, e]
    have hi' : i < (u8s l).length := by rw [u8s_len]; exact hi
    have h3 := u8s_at (List.getElem?_eq_getElem hi')
    rw [List.getElem?_eq_getElem hi', h3.2]

/-- a string of bytes -/
def strOf (l : List Nat) : ByteArray := strOfNums (l.map fun c : Nat => (c : Int))
theorem strOf_nil : strOf [] = ByteArray.empty := by
  simp [strOf, strOfNums, ByteArray.empty, ByteArray.emptyWithCapacity]
  rfl
theorem conv_str {w : World} {a : Option Addr} {l : List Nat} (h : Row w a l) (n cap : Nat) (hn : l.length = n) : Sem.run Try.prog (convert 22 9 (.slice a n cap)) w = .ok (.string (strOf l)) w := by
  rcases h.2.2 with rfl | ⟨b, off, rfl, hc⟩
  · obtain rfl : n = 0 := by rw [← hn]; rfl
    rw [run_convert_bytes_string w 22 9 5 _ 0 cap Try.underlying22 Try.underlying5 Try.underlying9]
    cases a with
    | none => simp [Conv.bytesToString, strOf_nil]
    | some ad => rw [run_bytesToString w ad 0 cap [] (by simp [loadCells, loadCellsFrom])]; simp [strOf_nil]
  · refine run_convert_bytes_arg w 22 5 Try.underlying22 Try.underlying5 b off n cap (l.map fun c : Nat => (c : Int)) (by simpa using hn) (fun i hi => ?_) 9 Try.underlying9
    rw [hc i (by omega)]
    have hi' : i < l.length := by omega
    simp [hi']
theorem strOf_inj {l m : List Nat} (hl : ∀ c ∈ l, c < 256) (hm : ∀ c ∈ m, c < 256) (h : strOf l = strOf m) : l = m := by
  have e : (l.map fun c => UInt8.ofNat c) = (m.map fun c => UInt8.ofNat c) := by
    have := congrArg (fun s : ByteArray => s.data.toList) h
    simpa [strOf, strOfNums, Function.comp_def] using this
  have hlen : l.length = m.length := by have := congrArg List.length e; simpa using this
  apply List.ext_getElem hlen
  intro i h1 h2
  have e2 : (l.map fun c => UInt8.ofNat c)[i]? = (m.map fun c => UInt8.ofNat c)[i]? := by rw [e]
  simp [h1, h2] at e2
  have a1 := hl _ (List.getElem_mem h1)
  have a2 := hm _ (List.getElem_mem h2)
  have := congrArg UInt8.toNat e2
  simp only [UInt8.toNat_ofNat'] at this
  omega
theorem equal (w : World) (a b : Option Addr) (l m : List Nat) (n k ca cb : Nat) (ha : Row w a l) (hb : Row w b m) (hn : l.length = n) (hk : m.length = k) :
    Calls Try.prog 34 #[.slice a n ca, .slice b k cb] w fun e w' => e = .returned (.bool (decide (l = m))) ∧ w = w' := by
  have e1 := conv_str ha n ca hn
  have e2 := conv_str hb k cb hk
  have e3 : ((strOf l).toList == (strOf m).toList) = decide (l = m) := by
    rw [Bool.eq_iff_iff, beq_iff_eq, decide_eq_true_iff, ByteArray.toList_eq, ByteArray.toList_eq]
    exact ⟨fun h => strOf_inj ha.1 hb.1 (WideShapes.bytes_inj h), fun h => by rw [h]⟩
  replace e3 := Lib.hid e3
  generalize strOf l = s at *
  generalize strOf m = t at *
  clear ha hb hn hk
  go_enter Try.func34, Try.ntmps34
  go_wp2_with fail
  go_ret
  exact ⟨ret_bool e3.out, rfl⟩
theorem append_src {P : Program} {w : World} {ops : Array Oper} {rest : List Oper} {o : Oper} {a : Act} {Q : Exit → Act → World → Prop} (hgd : o.guard = none) (s x : Operand) (t : TypeId)
    (ho : o.op = .call { callee := .builtin .append, args := #[s, x], argTypes := #[t, t] })
    (base : Nat) (e : TypeId) (i : TypeInfo) (z : Value) (size bytes : Nat) (ht : P.underlying t = some (.slice e)) (hi : P.info? e = some i) (hz : i.zero = some z)
    (hsize : i.size = size) (hby : i.bytes = bytes) (hzs : z.cells.size = size) (hsz : 0 < size)
    (v : Value) (n : Nat) (xs : List Value) (hs : a.eval s = v) (hown : w.ownsRow base e size v n xs)
    (ao : Option Addr) (m c : Nat) (news : List Value) (hx : a.eval x = .slice ao m c) (hnone : ao = none → m = 0 ∧ c = 0) (hl : news.length = m * size)
    (hnews : ∀ ad, ao = some ad → ∀ j u, news[j]? = some u → w.cell? (ad.add j) = some u) (h1 : ∀ u ∈ news, u.oneCell' = true)
    (h63 : n + m ≤ maxLen) (hbytes : (n + m) * bytes ≤ 140737488355328) (hbase : base ≤ w.heap.size)
    (h : ∀ v' w', w'.ownsRow base e size v' (n + m) (xs ++ news) → w.grownBy w' v.ownBlock → wpList P ops Q rest (a.put o.dst v') w') : wpList P ops Q (o :: rest) a w := by
  cases ao with
  | some ad => exact wpList_append_own w hgd s x t ho base e i z size bytes ht hi hz hsize hby hzs hsz v n xs hs hown ad m c news hx hl (hnews ad rfl) h1 h63 hbytes hbase fun v' w' a b _ => h v' w' a b
  | none =>
    obtain ⟨rfl, rfl⟩ := hnone rfl
    have hn : news = [] := List.eq_nil_of_length_eq_zero (by simpa using hl)
    subst hn
    refine wpList_append_own_none hgd s x t ho base e i size ht hi v n xs hs hown hx (h v w ?_ (World.grownBy.refl _ _))
    rw [List.append_nil, Nat.add_zero]; exact hown
theorem u8_info : ∃ i0 : TypeInfo, Try.prog.info? 5 = some i0 ∧ i0.zero = some (.int .u8 0) ∧ i0.size = 1 ∧ i0.bytes = 1 := by
  obtain ⟨i0, hi, hz0, hz1, hz2⟩ := info_parts (show (Try.prog.info? 5).map (fun i => (i.zero, i.size, i.bytes)) = some (some (.int .u8 0), 1, 1) by kernel_rfl)
  exact ⟨i0, hi, hz0, hz1, hz2⟩
theorem own_new (w : World) (l : List Nat) (B : Nat) (hB : B ≤ w.heap.size) (hl : l.length ≤ maxLen) : (w.alloc (.cells (u8s l).toArray 5)).ownsRow B 5 1 (.slice (some ⟨w.heap.size, 0, none⟩) l.length l.length) l.length (u8s l) :=
  ⟨by rw [u8s_len, Nat.mul_one], .inr ⟨w.heap.size, l.length, (u8s l).toArray, rfl, hB, heap_alloc_new w _, Nat.le_refl _, hl, by simp [u8s_len], by rw [Nat.mul_one]; exact List.take_of_length_le (by simp [u8s_len])⟩⟩
theorem own_below {w w' : World} {B n s : Nat} {e : TypeId} {v : Value} {xs : List Value} (h : w.ownsRow B e s v n xs) (hb : Below w.heap.size w w') : w'.ownsRow B e s v n xs := by
  obtain ⟨h1, h2⟩ := h
  refine ⟨h1, ?_⟩
  rcases h2 with h2 | ⟨g, cap, cur, hv, hg, hh, r⟩
  · exact .inl h2
  · exact .inr ⟨g, cap, cur, hv, hg, by rw [hb.block g (Array.getElem?_eq_some_iff.1 hh).1]; exact hh, r⟩
theorem own_mono {w : World} {B B' n s : Nat} {e : TypeId} {v : Value} {xs : List Value} (h : w.ownsRow B e s v n xs) (hB : B' ≤ B) : w.ownsRow B' e s v n xs := by
  obtain ⟨h1, h2⟩ := h
  refine ⟨h1, ?_⟩
  rcases h2 with h2 | ⟨g, cap, cur, hv, hg, r⟩
  · exact .inl h2
  · exact .inr ⟨g, cap, cur, hv, by omega, r⟩
theorem own_from {w : World} {B n s : Nat} {e : TypeId} {v : Value} {xs : List Value} (h : w.ownsRow B e s v n xs) : ∀ k, v.ownBlock = some k → B ≤ k := by
  intro k hk
  rcases h.2 with ⟨rfl, _⟩ | ⟨g, cap, cur, rfl, hg, _⟩
  · cases hk
  · cases hk; exact hg
theorem own_len {w : World} {B n s : Nat} {e : TypeId} {v : Value} {xs : List Value} (h : w.ownsRow B e s v n xs) : ∃ a cap, v = .slice a n cap ∧ (a = none → n = 0 ∧ cap = 0) ∧ n ≤ cap ∧ cap ≤ 9223372036854775807 := by
  rcases h.2 with ⟨rfl, rfl⟩ | ⟨g, cap, cur, rfl, hg, _, hc, hm, _⟩
  · exact ⟨none, 0, rfl, fun _ => ⟨rfl, rfl⟩, Nat.le_refl _, by decide⟩
  · exact ⟨_, cap, rfl, (fun h => by cases h), hc, hm⟩
theorem byte_at {l : List Nat} (h : ∀ c ∈ l, c < 256) (i : Nat) : l.getD i 0 < 256 := by
  by_cases hi : i < l.length
  · rw [List.getD_eq_getElem?_getD, List.getElem?_eq_getElem hi]; exact h _ (List.getElem_mem hi)
  · rw [List.getD_eq_getElem?_getD, List.getElem?_eq_none (by omega)]; simp
theorem row_drop {w : World} {b off : Nat} {l : List Nat} (h : Row w (some ⟨b, off, none⟩) l) (k : Nat) : Row w (some ⟨b, off + k, none⟩) (l.drop k) := by
  obtain ⟨h1, h2, h3⟩ := h
  refine ⟨fun c hc => h1 c (List.mem_of_mem_drop hc), Nat.le_trans (by rw [List.length_drop]; omega) h2, ?_⟩
  rcases h3 with rfl | ⟨b', off', ha, hc⟩
  · exact .inl (by simp)
  · cases ha
    refine .inr ⟨_, _, rfl, fun i hi => ?_⟩
    rw [List.length_drop] at hi
    rw [Nat.add_assoc, hc (k + i) (by omega)]
    congr 3
    simp
theorem row_take {w : World} {a : Option Addr} {l : List Nat} (h : Row w a l) (n : Nat) : Row w a (l.take n) := by
  obtain ⟨h1, h2, h3⟩ := h
  refine ⟨fun c hc => h1 c (List.mem_of_mem_take hc), Nat.le_trans (by rw [List.length_take]; omega) h2, ?_⟩
  rcases h3 with rfl | ⟨b, off, ha, hc⟩
  · exact .inl (by simp)
  · refine .inr ⟨b, off, ha, fun i hi => ?_⟩
    rw [List.length_take] at hi
    rw [hc i (by omega)]
    congr 3
    rw [List.getD_eq_getElem?_getD, List.getD_eq_getElem?_getD, List.getElem?_take_of_lt (by omega)]
theorem own_ne {w : World} {B s n g t : Nat} {e : TypeId} {v : Value} {xs : List Value} {cur : Array Value} (h : w.ownsRow B e s v n xs) (hg : w.heap[g]? = some (.cells cur t (0, 0))) (ht : t ≠ e) : v.ownBlock ≠ some g := by
  rcases h.2 with ⟨rfl, _⟩ | ⟨g', cap, cur', rfl, _, hh, _⟩
  · intro h; cases h
  · intro h
    cases h
    rw [hh] at hg
    cases hg
    exact ht rfl
theorem row_lt {w : World} {a : Option Addr} {l : List Nat} (h : Row w a l) (hl : l ≠ []) : ∃ b off, a = some ⟨b, off, none⟩ ∧ b < w.heap.size := by
  obtain ⟨h1, h2, h3⟩ := h
  rcases h3 with h3 | ⟨b, off, ha, hc⟩
  · exact absurd h3 hl
  · exact ⟨b, off, ha, block_lt_of_cell (hc 0 (List.length_pos_iff.2 hl))⟩
theorem row_nil (w : World) (a : Option Addr) : Row w a [] := ⟨fun c hc => (by cases hc), by simp, .inl rfl⟩
end Go.Proofs.Ytjphboljhkddaaa
