/- The walks of crc and of its reference: each function once. -/
import Derived.Test.YtmmpcpdokgahcaaRows
import Derived.Test.YtmmpcpdokgahcaaBits
import Derived.WalkKit
import Derived.ProofKit
import Derived.WalkLawsBesides
import Derived.Lib.Hide
import Derived.Below
namespace Go.Proofs.Ytmmpcpdokgahcaa
open Go.RowKit CM
theorem ret_int {k : IntKind} {a b : Int} (h : a = b) : Ending.returned (.int k a) = .returned (.int k b) := by rw [h]
theorem ret_bool {a b : Bool} (h : a = b) : Ending.returned (.bool a) = .returned (.bool b) := by rw [h]

theorem rbit (a : Nat) (w : World) (ha : a < 4294967296) : Calls Try.prog 32 #[.int .u32 (a : Int)] w fun e w' => e = .returned (.int .u32 (bit a : Nat)) ∧ w = w' := by
  have e2 : bits .xor .u32 ((a : Int) / 2) 2197175160 = ((a / 2 ^^^ P : Nat) : Int) := by
    rw [show (a : Int) / 2 = ((a / 2 : Nat) : Int) by omega]
    exact w_xor (a / 2) 2197175160 (by omega) (by decide)
  have E2 := Lib.hid e2
  clear e2
  by_cases h : a % 2 = 1
  · have e1 : bit a = a / 2 ^^^ P := by unfold bit; rw [if_pos h]
    have h' : ((a : Int) % 2 == 1) = true := beq_iff_eq.2 (by omega)
    have E1 := Lib.hid e1
    clear e1 h
    go_enter Try.func32, Try.ntmps32
    go_wp2_with fail
    go_ret
    exact ⟨ret_int (by rw [E1.out, E2.out]), rfl⟩
  · have e1 : bit a = a / 2 := by unfold bit; rw [if_neg h]
    have h' : ((a : Int) % 2 == 1) = false := beq_eq_false_iff_ne.2 (by omega)
    have E1 := Lib.hid e1
    clear e1 h
    go_enter Try.func32, Try.ntmps32
    go_wp2_with fail
    go_ret
    exact ⟨ret_int (by rw [E1.out]; omega), rfl⟩
theorem below_setRow {B : Nat} {a w : World} (h : Below B a w) {g : Nat} (hg : B ≤ g) (cs : Array Value) : Below B a (w.setRow g cs) :=
  h.trans ⟨rfl, rfl, rfl, by simp, fun k hk => setRow_other w g k cs (by omega)⟩
theorem alloc_setRow (w : World) (z cs : Array Value) (t : TypeId) : (w.alloc (.cells z t)).setRow w.heap.size cs = w.alloc (.cells cs t) := by
  have e : ((w.alloc (.cells z t)).setRow w.heap.size cs).heap = (w.alloc (.cells cs t)).heap := by
    apply Array.ext_getElem?
    intro i
    by_cases hi : i = w.heap.size
    · subst hi
      rw [setRow_heap (w.alloc (.cells z t)) w.heap.size z cs t (0, 0) (heap_alloc_new w _), heap_alloc_new]
    · rw [setRow_other _ _ _ _ hi]
      by_cases hlt : i < w.heap.size
      · rw [Below.heap_alloc w _ i hlt, Below.heap_alloc w _ i hlt]
      · rw [Array.getElem?_eq_none (by simp; omega), Array.getElem?_eq_none (by simp; omega)]
  show { w.alloc (.cells z t) with heap := ((w.alloc (.cells z t)).setRow w.heap.size cs).heap } = _
  rw [e]; rfl
@[reducible] def Z16 : Array Value := #[.int .u32 0, .int .u32 0, .int .u32 0, .int .u32 0, .int .u32 0, .int .u32 0, .int .u32 0, .int .u32 0, .int .u32 0, .int .u32 0, .int .u32 0, .int .u32 0, .int .u32 0, .int .u32 0, .int .u32 0, .int .u32 0]
def tab : Array Value := (Array.range 16).map fun j => .int .u32 ((bitn 4 j : Nat) : Int)
set_option maxHeartbeats 400000 in
theorem nibbles (w : World) : Calls Try.prog 31 #[] w fun e w' => e = .returned (.agg tab) ∧ Below w.heap.size w w' := by
  go_enter Try.func31, Try.ntmps31
  go_wp2_with fail
  go_loopw [4] (fun i wr => ∃ (k : Nat) (X : Array Value), k ≤ 16 ∧ i = .int .u32 k ∧ X.size = 16 ∧ (∀ j, j < k → X[j]? = some (.int .u32 ((bitn 4 j : Nat) : Int))) ∧ wr = (w.alloc (.cells Z16 54)).alloc (.cells X 54)) (fun i _ => 16 - (intOf i).toNat)
  case atStart => exact ⟨0, Z16, by omega, rfl, rfl, fun j h => by omega, rfl⟩
  case round =>
    obtain ⟨k, X, hk, rfl, hX, hj, rfl⟩ := hrel
    by_cases hlt : k < 16
    · have h5 : decide ((k : Int) < 16) = true := decide_eq_true (by omega)
      have hX := Lib.hid hX
      have hj := Lib.hid hj
      have hlt := Lib.hid hlt
      go_wp2_with fail
      go_loop [3, 8] (fun s i => ∃ m : Nat, m ≤ 4 ∧ i = .int .i64 m ∧ s = .int .u32 ((bitn m k : Nat) : Int)) (fun _ i => 4 - (intOf i).toNat)
      case atStart => exact ⟨0, by omega, rfl, rfl⟩
      case round =>
        obtain ⟨m, hm, rfl, rfl⟩ := hrel
        by_cases hl2 : m < 4
        · have e := bit_code (bitn m k) (bitn_lt m k (by have := hlt.out; omega))
          rw [← bitn_succ] at e
          have E := Lib.hid e
          clear e
          go_wp2_with fail
          go_round
          case rel => exact ⟨m + 1, by omega, by go_num, by rw [E.out]⟩
          case measure => simp [intOf]; omega
        · obtain rfl : m = 4 := by omega
          have hs : ((w.alloc (.cells Z16 54)).alloc (.cells X 54)).heap[w.heap.size + 1]? = some (.cells X 54 (0, 0)) := heap_alloc2_new w _ _
          have hlt' := hlt.out
          have hX' := hX.out
          go_wp2_with fail
          go_roundw
          case rel =>
            refine ⟨k + 1, X.setIfInBounds k (.int .u32 ((bitn 4 k : Nat) : Int)), by omega, by go_num, by simp [hX'], fun j hj' => ?_, rfl⟩
            by_cases hjk : j = k
            · subst hjk; rw [Array.getElem?_setIfInBounds_self_of_lt (by omega)]
            · rw [Array.getElem?_setIfInBounds_ne (by omega)]; exact hj.out j (by omega)
          case measure => simp [intOf]; omega
    · obtain rfl : k = 16 := by omega
      obtain rfl : X = tab := by
        apply Array.ext_getElem?
        intro i
        by_cases hi : i < 16
        · rw [hj i hi]; unfold tab; simp [hi]
        · rw [Array.getElem?_eq_none (by omega), Array.getElem?_eq_none (by unfold tab; simp; omega)]
      clear hj hX hlt hk
      have ht : ((w.alloc (.cells Z16 54)).alloc (.cells tab 54)).heap[w.heap.size + 1]? = some (.cells tab 54 (0, 0)) := heap_alloc2_new w _ _
      have hr : ((w.alloc (.cells Z16 54)).alloc (.cells tab 54)).heap[w.heap.size]? = some (.cells Z16 54 (0, 0)) := heap_alloc2_old w _ _
      have ht := Lib.hid ht
      have hr := Lib.hid hr
      go_wp2_with (first | (with_reducible refine wpList_load_row rfl 54 (.tmp 1) rfl (w.heap.size + 1) rfl 54 tab (0, 0) _ ht.out Try.underlying54 rfl (by kernel_rfl) ?_) | (with_reducible refine wpList_store_row rfl 54 (.tmp 0) (.tmp 22) rfl w.heap.size tab rfl rfl 54 Z16 hr.out (by kernel_rfl) (by kernel_rfl) (by kernel_rfl) ?_))
      exact bodyPost_ret (v := .agg tab) (results_cell_row (fn := Try.f31) (p := 0) (by kernel_rfl) _ _ w.heap.size 54 tab (0, 0) _ rfl (setRow_heap _ _ _ _ _ _ hr.out) Try.underlying54 rfl (by kernel_rfl)) rfl ⟨rfl, below_setRow (((Below.refl _ _).alloc (Nat.le_refl _) _).alloc (by simp) _) (Nat.le_refl _) _⟩
def Row (w : World) (a : Option Addr) (l : List Nat) : Prop :=
  (∀ c ∈ l, c < 256) ∧ l.length ≤ 9223372036854775807 ∧ (l = [] ∨ ∃ b off, a = some ⟨b, off, none⟩ ∧ ∀ i, i < l.length → w.cell? ⟨b, off + i, none⟩ = some (.int .u8 ((l.getD i 0 : Nat) : Int)))
theorem Row.below {w w' : World} {a : Option Addr} {l : List Nat} (h : Row w a l) (hb : Below w.heap.size w w') : Row w' a l := by
  obtain ⟨h1, h2, h3⟩ := h
  refine ⟨h1, h2, ?_⟩
  rcases h3 with h3 | ⟨b, off, ha, hc⟩
  · exact .inl h3
  · refine .inr ⟨b, off, ha, fun i hi => ?_⟩
    have := hc i hi
    have hlt : b < w.heap.size := block_lt_of_cell this
    rw [hb.cell (p := ⟨b, off + i, none⟩) hlt]; exact this
theorem run_step (s : Nat) (l : List Nat) (k : Nat) (h : k < l.length) : CM.run s (l.take (k + 1)) = bitn 8 (CM.run s (l.take k) ^^^ l.getD k 0) := by
  rw [List.take_succ_eq_append_getElem h, run_append]
  simp [CM.run, h]
theorem tab_at (j : Nat) (h : j < 16) : tab[j]? = some (.int .u32 ((bitn 4 j : Nat) : Int)) := by unfold tab; simp [h]
/-- a round of run: what each operation comes to -/
theorem run_round (s : Nat) (l : List Nat) (k : Nat) (w1 : World) (h : k < l.length) (hs : s < 4294967296) (hl : ∀ c ∈ l, c < 256) :
    ∃ c x t y t' z : Nat, l.getD k 0 = c ∧ c < 256 ∧ bits .xor .u32 ((CM.run s (l.take k) : Nat) : Int) (c : Int) = (x : Int) ∧ bits .and .u32 (x : Int) 15 = ((x % 16 : Nat) : Int) ∧
      bits .xor .u32 ((x : Int) / 16) (t : Int) = (y : Int) ∧ bits .and .u32 (y : Int) 15 = ((y % 16 : Nat) : Int) ∧ bits .xor .u32 ((y : Int) / 16) (t' : Int) = (z : Int) ∧
      (w1.alloc (.cells tab 54)).cell? ⟨w1.heap.size, x % 16, none⟩ = some (.int .u32 (t : Int)) ∧ (w1.alloc (.cells tab 54)).cell? ⟨w1.heap.size, y % 16, none⟩ = some (.int .u32 (t' : Int)) ∧
      CM.run s (l.take (k + 1)) = z := by
  have hv : CM.run s (l.take k) < 4294967296 := run_lt _ _ hs fun c hc => hl c (List.mem_of_mem_take hc)
  have hc : l.getD k 0 < 256 := by
    rw [List.getD_eq_getElem?_getD, List.getElem?_eq_getElem h]; exact hl _ (List.getElem_mem h)
  have hx : CM.run s (l.take k) ^^^ l.getD k 0 < 4294967296 := Nat.xor_lt_two_pow (n := 32) hv (by omega)
  rw [run_step s l k h]
  refine ⟨l.getD k 0, ?_⟩
  rw [w_xor _ _ hv (by omega)]
  generalize CM.run s (l.take k) ^^^ l.getD k 0 = x at *
  have hy := bitn_lt 4 x hx
  have hn : ∀ j, bitn 4 (j % 16) < 4294967296 := fun j => bitn_lt 4 _ (by omega)
  refine ⟨x, bitn 4 (x % 16), bitn 4 x, bitn 4 (bitn 4 x % 16), bitn 4 (bitn 4 x), rfl, hc, rfl, w_nib x hx, ?_, w_nib _ hy, ?_, ?_, ?_, bitn_add 4 4 x⟩
  · rw [show (x : Int) / 16 = ((x / 16 : Nat) : Int) by omega, w_xor _ _ (by omega) (hn _), ← half]
  · rw [show ((bitn 4 x : Nat) : Int) / 16 = ((bitn 4 x / 16 : Nat) : Int) by omega, w_xor _ _ (by omega) (hn _), ← half]
  · rw [World.cell?_alloc_new]; exact tab_at _ (by omega)
  · rw [World.cell?_alloc_new]; exact tab_at _ (by omega)
theorem run (s : Nat) (a : Option Addr) (l : List Nat) (cap : Nat) (w : World) (hs : s < 4294967296) (hr : Row w a l) :
    Calls Try.prog 29 #[.int .u32 (s : Int), .slice a l.length cap] w fun e w' => e = .returned (.int .u32 ((CM.run s l : Nat) : Int)) ∧ Below w.heap.size w w' := by
  have HR := Lib.hid hr
  clear hr
  go_enter Try.func29, Try.ntmps29
  go_wp2_with fail
  refine (nibbles _).mono ?_
  rintro e w1 ⟨rfl, hb⟩
  have HB := Lib.hid hb
  have hr1 := HR.out.below hb
  clear hb HR
  have hh : (w1.alloc (.cells Z16 54)).heap[w1.heap.size]? = some (.cells Z16 54 (0, 0)) := heap_alloc_new w1 _
  have hh := Lib.hid hh
  go_wp2_with (first | (with_reducible refine wpList_store_row rfl 54 (.tmp 5) (.tmp 8) rfl w1.heap.size tab rfl rfl 54 Z16 hh.out (by kernel_rfl) (by kernel_rfl) (by kernel_rfl) ?_; rw [alloc_setRow]))
  generalize hL : l.length = n at *
  have HL := Lib.hid hL
  have hn := hr1.2.1
  rw [hL] at hn
  have HR := Lib.hid hr1
  clear hL hr1
  go_loop [0, 11] (fun v i => ∃ k : Nat, k ≤ n ∧ i = .int .i64 k ∧ v = .int .u32 ((CM.run s (l.take k) : Nat) : Int)) (fun _ i => n - (intOf i).toNat)
  case atStart => exact ⟨0, Nat.zero_le _, rfl, rfl⟩
  case round =>
    obtain ⟨k, hk, rfl, rfl⟩ := hrel
    by_cases hlt : k < n
    · obtain ⟨b, off, ha, hc⟩ : ∃ b off, a = some ⟨b, off, none⟩ ∧ (w1.alloc (.cells tab 54)).cell? ⟨b, off + k, none⟩ = some (.int .u8 ((l.getD k 0 : Nat) : Int)) := by
        rcases HR.out.2.2 with h | ⟨b, off, ha, hc⟩
        · have := HL.out; rw [h] at this; simp at this; omega
        · refine ⟨b, off, ha, ?_⟩
          have := hc k (by have := HL.out; omega)
          rw [World.cell?_alloc_lt w1 _ _ (block_lt_of_cell this)]; exact this
      subst ha
      obtain ⟨c, x, t, y, t', z, h0, hc256, h1, h2, h3, h4, h5, c1, c2, hz⟩ := run_round s l k w1 (by have := HL.out; omega) hs HR.out.1
      rw [h0] at hc
      clear h0
      have hz := Lib.hid hz
      generalize CM.run s (l.take k) = v at *
      go_wp2_with fail
      go_round
      case rel => exact ⟨k + 1, by omega, by go_num, by rw [hz.out]⟩
      case measure => simp [intOf]; omega
    · obtain rfl : k = n := by omega
      go_wp2_with fail
      go_ret
      refine ⟨ret_int ?_, ?_⟩
      · rw [List.take_of_length_le (by have := HL.out; omega)]
      · exact (HB.out.trans ((Below.refl _ _).alloc HB.out.size _))
end Go.Proofs.Ytmmpcpdokgahcaa
