/- The walks of frame.Seal and of its reference. -/
import Derived.Test.YtmmpcpdokgahcaaMem
namespace Go.Proofs.Ytmmpcpdokgahcaa
open Go.RowKit CM

def sizeF (n : Int) : Int := if n < 0 ∨ 1048576 < n then 0 else 9 + n
theorem size (n : Int) (w : World) : Calls Try.prog 9 #[.int .i64 n] w fun e w' => e = .returned (.int .i64 (sizeF n)) ∧ w = w' := by
  unfold sizeF
  by_cases h1 : n < 0
  · have e1 : decide (n < 0) = true := decide_eq_true h1
    rw [if_pos (.inl h1)]
    go_enter Try.func9, Try.ntmps9
    go_wp2_with fail
    go_ret
    exact ⟨rfl, rfl⟩
  have e1 : decide (n < 0) = false := decide_eq_false h1
  by_cases h2 : 1048576 < n
  · have e2 : decide (1048576 < n) = true := decide_eq_true h2
    rw [if_pos (.inr h2)]
    go_enter Try.func9, Try.ntmps9
    go_wp2_with fail
    go_ret
    exact ⟨rfl, rfl⟩
  have e2 : decide (1048576 < n) = false := decide_eq_false h2
  rw [if_neg (by omega)]
  have h3 : 0 ≤ n := by omega
  have h4 : n ≤ 1048576 := by omega
  clear h1 h2
  go_enter Try.func9, Try.ntmps9
  go_wp2_with fail
  go_ret
  exact ⟨rfl, rfl⟩
theorem rsize (n : Int) (w : World) : Calls Try.prog 10 #[.int .i64 n] w fun e w' => e = .returned (.int .i64 (sizeF n)) ∧ w = w' := by
  unfold sizeF
  by_cases h1 : n < 0
  · have e1 : decide (n < 0) = true := decide_eq_true h1
    rw [if_pos (.inl h1)]
    go_enter Try.func10, Try.ntmps10
    go_wp2_with fail
    go_ret
    exact ⟨rfl, rfl⟩
  have e1 : decide (n < 0) = false := decide_eq_false h1
  by_cases h2 : 1048576 < n
  · have e2 : decide (1048576 < n) = true := decide_eq_true h2
    rw [if_pos (.inr h2)]
    go_enter Try.func10, Try.ntmps10
    go_wp2_with fail
    go_ret
    exact ⟨rfl, rfl⟩
  have e2 : decide (1048576 < n) = false := decide_eq_false h2
  rw [if_neg (by omega)]
  have h3 : 0 ≤ n := by omega
  have h4 : n ≤ 1048576 := by omega
  clear h1 h2
  go_enter Try.func10, Try.ntmps10
  go_wp2_with fail
  go_ret
  exact ⟨rfl, rfl⟩

/-- w' is w but for block g -/
structure Only (g : Nat) (w w' : World) : Prop where
  os : w'.os = w.os
  tape : w'.tape = w.tape
  output : w'.output = w.output
  size : w'.heap.size = w.heap.size
  block : ∀ k, k ≠ g → w'.heap[k]? = w.heap[k]?
theorem Only.refl (g : Nat) (w : World) : Only g w w := ⟨rfl, rfl, rfl, rfl, fun _ _ => rfl⟩
theorem Only.set {g : Nat} {w w' : World} (h : Only g w w') (i : Nat) (v : Value) : Only g w (w'.setCell ⟨g, i, none⟩ v) :=
  ⟨h.os, h.tape, h.output, by rw [World.size_setCell]; exact h.size, fun k hk => by rw [heap_setCell_other _ _ _ _ hk]; exact h.block k hk⟩
theorem Only.below {g B : Nat} {w w' : World} (h : Only g w w') (hB : B ≤ g) : Below B w w' := ⟨h.os, h.tape, h.output, Nat.le_of_eq h.size.symm, fun k hk => h.block k (by omega)⟩
/-- block g holds these bytes -/
def Holds (w : World) (g : Nat) (l : List Nat) : Prop := w.heap[g]? = some (.cells (u8s l).toArray 5 (0, 0))
theorem Holds.cell {w : World} {g : Nat} {l : List Nat} (h : Holds w g l) (i : Nat) (hi : i < l.length) : w.cell? ⟨g, i, none⟩ = some (.int .u8 ((l.getD i 0 : Nat) : Int)) := by
  rw [cell_of_row w g i _ 5 (0, 0) h]
  simp [u8s, hi]
theorem Holds.set {w : World} {g : Nat} {l : List Nat} (h : Holds w g l) (i c : Nat) : Holds (w.setCell ⟨g, i, none⟩ (.int .u8 (c : Int))) g (l.set i c) := by
  unfold Holds
  rw [heap_setCell_same w g i _ 5 _ h]
  congr 2
  apply Array.ext'
  simp [u8s, List.map_set]
theorem Holds.row {w : World} {g : Nat} {l : List Nat} (h : Holds w g l) (hl : ∀ c ∈ l, c < 256) (hn : l.length ≤ 9223372036854775807) (k : Nat) : Row w (some ⟨g, k, none⟩) (l.drop k) := by
  refine ⟨fun c hc => hl c (List.mem_of_mem_drop hc), by rw [List.length_drop]; omega, .inr ⟨g, k, rfl, fun i hi => ?_⟩⟩
  rw [List.length_drop] at hi
  rw [h.cell (k + i) (by omega)]
  congr 3
  simp
def be4 (n : Nat) : List Nat := [n / 16777216 % 256, n / 65536 % 256, n / 256 % 256, n % 256]
/-- four bytes put into a place -/
def put4 (l : List Nat) (at' n : Nat) : List Nat := (((l.set at' (n / 16777216 % 256)).set (at' + 1) (n / 65536 % 256)).set (at' + 2) (n / 256 % 256)).set (at' + 3) (n % 256)
def putk (l : List Nat) (at' n : Nat) : Nat → List Nat
  | 0 => l
  | 1 => l.set at' (n / 16777216 % 256)
  | 2 => (l.set at' (n / 16777216 % 256)).set (at' + 1) (n / 65536 % 256)
  | 3 => ((l.set at' (n / 16777216 % 256)).set (at' + 1) (n / 65536 % 256)).set (at' + 2) (n / 256 % 256)
  | _ => put4 l at' n
theorem putk_len (l : List Nat) (a n k : Nat) : (putk l a n k).length = l.length := by
  unfold putk put4; split <;> simp
theorem put_walk (w : World) (g N cap a n : Nat) (l : List Nat) (h : Holds w g l) (hN : l.length = N) (ha : a + 4 ≤ N) (hbig : N ≤ 1073741824) (hn : n < 4294967296) :
    Calls Try.prog 18 #[.slice (some ⟨g, 0, none⟩) N cap, .int .i64 (a : Int), .int .u32 (n : Int)] w fun e w' => e = .returned (.tuple #[]) ∧ Holds w' g (put4 l a n) ∧ Only g w w' := by
  replace hN := Lib.hid hN
  go_enter Try.func18, Try.ntmps18
  go_wp2_with fail
  go_loopw [7] (fun i wr => ∃ k : Nat, k ≤ 4 ∧ i = .int .i64 k ∧ Holds wr g (putk l a n k) ∧ Only g w wr) (fun i _ => 4 - (intOf i).toNat)
  case atStart => exact ⟨0, by omega, rfl, h, Only.refl _ _⟩
  case round =>
    obtain ⟨k, hk, rfl, hh, ho⟩ := hrel
    have hk' : k = 0 ∨ k = 1 ∨ k = 2 ∨ k = 3 ∨ k = 4 := by omega
    have hlen := putk_len l a n k
    rw [hN.out] at hlen
    have hfz : ∀ j, wr.frozen? ⟨g, j, none⟩ = false := fun j => frozen_of_row wr g j _ 5 hh
    have hce : ∀ j, j < N → wr.cell? ⟨g, j, none⟩ = some (.int .u8 (((putk l a n k).getD j 0 : Nat) : Int)) := fun j hj => hh.cell j (by omega)
    clear hlen
    replace hh := Lib.hid hh
    replace ho := Lib.hid ho
    rcases hk' with rfl | rfl | rfl | rfl | rfl
    · have c1 := hce (a + 0) (by omega)
      have f1 := hfz (a + 0)
      rw [Nat.add_zero] at c1 f1
      clear hce hfz
      have e1 : (n : Int) / 16777216 = ((n / 16777216 % 256 : Nat) : Int) := by omega
      replace e1 := Lib.hid e1
      go_wp2_with fail
      go_roundw
      case rel =>
        rw [e1.out]
        exact ⟨1, by omega, rfl, hh.out.set a _, ho.out.set a _⟩
      case measure => simp [intOf]
    · have c1 := hce (a + 1) (by omega)
      have f1 := hfz (a + 1)
      clear hce hfz
      have e1 : (n : Int) / 65536 % 256 = ((n / 65536 % 256 : Nat) : Int) := by omega
      replace e1 := Lib.hid e1
      go_wp2_with fail
      go_roundw
      case rel =>
        rw [e1.out]
        exact ⟨2, by omega, rfl, hh.out.set (a + 1) _, ho.out.set (a + 1) _⟩
      case measure => simp [intOf]
    · have c1 := hce (a + 2) (by omega)
      have f1 := hfz (a + 2)
      clear hce hfz
      have e1 : (n : Int) / 256 % 256 = ((n / 256 % 256 : Nat) : Int) := by omega
      replace e1 := Lib.hid e1
      go_wp2_with fail
      go_roundw
      case rel =>
        rw [e1.out]
        exact ⟨3, by omega, rfl, hh.out.set (a + 2) _, ho.out.set (a + 2) _⟩
      case measure => simp [intOf]
    · have c1 := hce (a + 3) (by omega)
      have f1 := hfz (a + 3)
      clear hce hfz
      have e1 : (n : Int) % 256 = ((n % 256 : Nat) : Int) := by omega
      replace e1 := Lib.hid e1
      go_wp2_with fail
      go_roundw
      case rel =>
        rw [e1.out]
        exact ⟨4, by omega, rfl, hh.out.set (a + 3) _, ho.out.set (a + 3) _⟩
      case measure => simp [intOf]
    · clear hce hfz
      go_wp2_with fail
      go_end0
      exact ⟨rfl, hh.out, ho.out⟩
end Go.Proofs.Ytmmpcpdokgahcaa
