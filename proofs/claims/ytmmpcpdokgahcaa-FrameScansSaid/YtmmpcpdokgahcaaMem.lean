/- Rows of bytes in memory: what is owned, read, compared. -/
import Derived.Test.YtmmpcpdokgahcaaWalks2
import Derived.Laws.BytesArg
namespace Go.Proofs.Ytmmpcpdokgahcaa
open Go.RowKit CM

def u8s (l : List Nat) : List Value := l.map fun c => .int .u8 ((c : Nat) : Int)
theorem u8s_len (l : List Nat) : (u8s l).length = l.length := by simp [u8s]
theorem u8s_append (l m : List Nat) : u8s (l ++ m) = u8s l ++ u8s m := by simp [u8s]
theorem u8s_one (l : List Nat) : ∀ u ∈ u8s l, u.oneCell' = true := by
  intro u hu
  obtain ⟨c, _, rfl⟩ := List.mem_map.1 hu
  rfl
theorem u8s_at {l : List Nat} {j : Nat} {u : Value} (h : (u8s l)[j]? = some u) : j < l.length ∧ u = .int .u8 ((l.getD j 0 : Nat) : Int) := by
  have hj : j < l.length := by have := (List.getElem?_eq_some_iff.1 h).1; rwa [u8s_len] at this
  refine ⟨hj, ?_⟩
  unfold u8s at h
  simp [hj] at h
  rw [← h]
  simp [hj]
/-- a row's cells, for a source of append -/
theorem Row.news {w : World} {a : Option Addr} {l : List Nat} (h : Row w a l) {ad : Addr} (ha : a = some ad) : ∀ j u, (u8s l)[j]? = some u → w.cell? (ad.add j) = some u := by
  intro j u hu
  obtain ⟨hj, rfl⟩ := u8s_at hu
  rcases h.2.2 with h | ⟨b, off, hb, hc⟩
  · rw [h] at hj; simp at hj
  · rw [ha] at hb
    obtain rfl := Option.some.inj hb
    have : (⟨b, off, none⟩ : Addr).add j = ⟨b, off + j, none⟩ := by simp [Addr.add]
    rw [this]; exact hc j hj
/-- what is owned reads as a row -/
theorem own_row {w : World} {B n : Nat} {v : Value} {l : List Nat} (h : w.ownsRow B 5 1 v n (u8s l)) (hl : ∀ c ∈ l, c < 256) (hn : l.length ≤ 9223372036854775807) : ∃ a cap, v = .slice a n cap ∧ l.length = n ∧ Row w a l := by
  obtain ⟨h1, h2⟩ := h
  rw [u8s_len, Nat.mul_one] at h1
  rcases h2 with ⟨rfl, rfl⟩ | ⟨g, cap, cur, rfl, hg, hh, hc, hm, hz, ht⟩
  · refine ⟨none, 0, rfl, h1, hl, hn, .inl (List.length_eq_zero_iff.1 h1)⟩
  · refine ⟨_, cap, rfl, h1, hl, hn, .inr ⟨g, 0, rfl, fun i hi => ?_⟩⟩
    rw [Nat.zero_add, cell_of_row w g i cur 5 (0, 0) hh]
    have e : (cur.toList.take (n * 1))[i]? = (u8s l)[i]? := by rw [ht]
    rw [Nat.mul_one, List.getElem?_take_of_lt (by omega)] at e
    rw [← Array.getElem?_toList, e]
    have hi' : i < (u8s l).length := by rw [u8s_len]; exact hi
    have h3 := u8s_at (List.getElem?_eq_getElem hi')
    rw [List.getElem?_eq_getElem hi', h3.2]

/-- a string of bytes -/
def strOf (l : List Nat) : ByteArray := strOfNums (l.map fun c : Nat => (c : Int))
theorem strOf_nil : strOf [] = ByteArray.empty := by
  simp [strOf, strOfNums, ByteArray.empty, ByteArray.emptyWithCapacity]
  rfl
theorem conv_str {w : World} {a : Option Addr} {l : List Nat} (h : Row w a l) (n cap : Nat) (hn : l.length = n) : Sem.run Try.prog (convert 22 9 (.slice a n cap)) w = .ok (.string (strOf l)) w := by
  rcases h.2.2 with rfl | ⟨b, off, rfl, hc⟩
  · obtain rfl : n = 0 := by rw [← hn]; rfl
    rw [run_convert_bytes_string w 22 9 5 _ 0 cap Try.underlying22 Try.underlying5 Try.underlying9]
    cases a with
    | none => simp [Conv.bytesToString, strOf_nil]
    | some ad => rw [run_bytesToString w ad 0 cap [] (by simp [loadCells, loadCellsFrom])]; simp [strOf_nil]
  · refine run_convert_bytes_arg w 22 5 Try.underlying22 Try.underlying5 b off n cap (l.map fun c : Nat => (c : Int)) (by simpa using hn) (fun i hi => ?_) 9 Try.underlying9
    rw [hc i (by omega)]
    have hi' : i < l.length := by omega
    simp [hi']
theorem strOf_inj {l m : List Nat} (hl : ∀ c ∈ l, c < 256) (hm : ∀ c ∈ m, c < 256) (h : strOf l = strOf m) : l = m := by
  have e : (l.map fun c => UInt8.ofNat c) = (m.map fun c => UInt8.ofNat c) := by
    have := congrArg (fun s : ByteArray => s.data.toList) h
    simpa [strOf, strOfNums, Function.comp_def] using this
  have hlen : l.length = m.length := by have := congrArg List.length e; simpa using this
  apply List.ext_getElem hlen
  intro i h1 h2
  have e2 : (l.map fun c => UInt8.ofNat c)[i]? = (m.map fun c => UInt8.ofNat c)[i]? := by rw [e]
  simp [h1, h2] at e2
  have a1 := hl _ (List.getElem_mem h1)
  have a2 := hm _ (List.getElem_mem h2)
  have := congrArg UInt8.toNat e2
  simp only [UInt8.toNat_ofNat'] at this
  omega
theorem equal (w : World) (a b : Option Addr) (l m : List Nat) (n k ca cb : Nat) (ha : Row w a l) (hb : Row w b m) (hn : l.length = n) (hk : m.length = k) :
    Calls Try.prog 6 #[.slice a n ca, .slice b k cb] w fun e w' => e = .returned (.bool (decide (l = m))) ∧ w = w' := by
  have e1 := conv_str ha n ca hn
  have e2 := conv_str hb k cb hk
  have e3 : ((strOf l).toList == (strOf m).toList) = decide (l = m) := by
    rw [Bool.eq_iff_iff, beq_iff_eq, decide_eq_true_iff, ByteArray.toList_eq, ByteArray.toList_eq]
    exact ⟨fun h => strOf_inj ha.1 hb.1 (WideShapes.bytes_inj h), fun h => by rw [h]⟩
  replace e3 := Lib.hid e3
  generalize strOf l = s at *
  generalize strOf m = t at *
  clear ha hb hn hk
  go_enter Try.func6, Try.ntmps6
  go_wp2_with fail
  go_ret
  exact ⟨ret_bool e3.out, rfl⟩
end Go.Proofs.Ytmmpcpdokgahcaa
