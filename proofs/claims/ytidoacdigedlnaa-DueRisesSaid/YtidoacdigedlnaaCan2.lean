/- usherref02: bytes behind bytes, by their lengths alone. -/
import Derived.Test.YtidoacdigedlnaaPush
import Derived.Lib.AppendStr
set_option linter.unusedVariables false
set_option linter.unusedSimpArgs false
namespace Go.Proofs.Ytidoacdigedlnaa
open Go.RowKit

/-- a row of so many bytes in memory of one's own, each one cell -/
def UR (w : World) (B : Nat) (v : Value) (n : Nat) : Prop := ∃ xs, w.ownsRow B 5 1 v n xs ∧ ∀ u ∈ xs, Value.oneCell' u = true
theorem UR.nil (w : World) (B : Nat) : UR w B (.slice none 0 0) 0 := ⟨[], ⟨rfl, .inl ⟨rfl, rfl⟩⟩, fun _ h => by cases h⟩
theorem UR.below {w w' : World} {B n : Nat} {v : Value} (h : UR w B v n) (hb : Below w.heap.size w w') : UR w' B v n := by
  obtain ⟨xs, h1, h2⟩ := h
  exact ⟨xs, own_below h1 hb, h2⟩
theorem UR.mono {w : World} {B B' n : Nat} {v : Value} (h : UR w B v n) (hB : B' ≤ B) : UR w B' v n := by
  obtain ⟨xs, h1, h2⟩ := h
  exact ⟨xs, own_mono h1 hB, h2⟩
theorem u_one (x : Int) : ∀ u ∈ [Value.int .u8 x], u.oneCell' = true := by
  intro u hu
  simp at hu
  subst hu; rfl
def URP (w : World) (m : Nat) (e : Ending) (w' : World) : Prop := ∃ v, e = .returned v ∧ UR w' w.heap.size v m ∧ Below w.heap.size w w'
set_option maxRecDepth 100000 in
theorem copied (B n : Nat) (v : Value) (w : World) (h : UR w B v n) (h9 : n ≤ 100000000) : Calls Try.prog 68 #[v] w (URP w n) := by
  obtain ⟨i0, hi, hz0, hz1, hz2⟩ := info_parts (show (Try.prog.info? 5).map (fun i => (i.zero, i.size, i.bytes)) = some (some (.int .u8 0), 1, 1) by kernel_rfl)
  replace hi := Lib.hid hi
  replace hz0 := Lib.hid hz0
  replace hz1 := Lib.hid hz1
  replace hz2 := Lib.hid hz2
  obtain ⟨xs, h1, h2⟩ := h
  obtain ⟨hl, ⟨rfl, rfl⟩ | ⟨g, cap, cur, rfl, g2, g3, g4, g5, g6, g7⟩⟩ := h1
  · have ho : w.ownsRow w.heap.size 5 1 (.slice none 0 0) 0 [] := ⟨rfl, .inl ⟨rfl, rfl⟩⟩
    replace ho := Lib.hid ho
    go_enter Try.func68, Try.ntmps68
    go_wp2_with fail
    go_ret
    exact ⟨_, rfl, UR.nil _ _, Below.refl _ _⟩
  · have hr : ∀ j u, xs[j]? = some u → w.cell? ((⟨g, 0, none⟩ : Addr).add j) = some u := by
      intro j u hu
      rw [Addr.add_mid]
      refine box_cell g3 _ _ ?_
      rw [Nat.zero_add, ← Array.getElem?_toList]
      rw [← g7, List.getElem?_take] at hu
      split at hu
      · exact hu
      · cases hu
    have ho : w.ownsRow w.heap.size 5 1 (.slice none 0 0) 0 [] := ⟨rfl, .inl ⟨rfl, rfl⟩⟩
    replace ho := Lib.hid ho
    replace hr := Lib.hid hr
    replace hl := Lib.hid hl
    replace h2 := Lib.hid h2
    clear g3 g6 g7
    go_enter Try.func68, Try.ntmps68
    go_wp2_with (at_builtin; refine wpList_append_own_at _ rfl (.const (.slice none 0 0)) (.tmp 3) 64 rfl w.heap.size 5 i0 _ 1 1 Try.underlying64 hi.out hz0.out hz1.out hz2.out rfl (by decide) _ 0 [] rfl ho.out ⟨g, 0, none⟩ n cap xs rfl hl.out hr.out h2.out (Nat.le_trans (show 0 + n ≤ 1000000000 by omega) (by decide)) (by omega) (Nat.le_refl _) ?_; intro v8 w8 q1 q2 q3 q4; replace q1 := Lib.hid q1; replace q2 := Lib.hid q2; clear q3 q4)
    go_ret
    have q := q1.out
    rw [Nat.zero_add, List.nil_append] at q
    exact ⟨_, rfl, ⟨xs, q, h2.out⟩, (Below.refl _ _).grown q2.out (Nat.le_refl _) (fun k hk => by cases hk)⟩
theorem append_byte {ops : Array Oper} {rest : List Oper} {o : Oper} {a : Act} {Q : Exit → Act → World → Prop} (w1 : World) (y : Int) (hgd : o.guard = none) (s x : Operand) (ho : o.op = .call { callee := .builtin .append, args := #[s, x], argTypes := #[64, 64] })
    (B n : Nat) (v : Value) (hs : a.eval s = v) (hu : UR w1 B v n) (hx : a.eval x = .slice (some ⟨w1.heap.size, 0, none⟩) 1 1) (hB : B ≤ w1.heap.size) (h9 : n ≤ 100000000)
    (h : ∀ v' w', UR w' B v' (n + 1) → Below B w1 w' → wpList Try.prog ops Q rest (a.put o.dst v') w') : wpList Try.prog ops Q (o :: rest) a (w1.alloc (.cells #[.int .u8 y] 5)) := by
  obtain ⟨i0, hi, hz0, hz1, hz2⟩ := info_parts (show (Try.prog.info? 5).map (fun i => (i.zero, i.size, i.bytes)) = some (some (.int .u8 0), 1, 1) by kernel_rfl)
  replace hi := Lib.hid hi
  replace hz0 := Lib.hid hz0
  replace hz1 := Lib.hid hz1
  replace hz2 := Lib.hid hz2
  obtain ⟨xs, o1, o2⟩ := hu
  refine wpList_append_own_at _ hgd s x 64 ho B 5 i0 _ 1 1 Try.underlying64 hi.out hz0.out hz1.out hz2.out rfl (by decide) v n xs hs (own_below o1 ((Below.refl _ _).alloc (Nat.le_refl _) _)) ⟨w1.heap.size, 0, none⟩ 1 1 [.int .u8 y] hx rfl (fun j u hu => by rw [Addr.add_mid]; exact box_range (cs := [.int .u8 y]) (heap_alloc_new _ _) j u hu) (u_one _) (Nat.le_trans (show n + 1 ≤ 1000000000 by omega) (by decide)) (by omega) (by simp; omega) ?_
  intro v' w' q1 q2 _ _
  refine h v' w' ⟨xs ++ [.int .u8 y], q1, ?_⟩ (((Below.refl B w1).alloc hB _).grown q2 (by simp; omega) (fun k hk => (own_from o1 k hk).1))
  intro u hu
  rcases List.mem_append.1 hu with hu | hu
  · exact o2 u hu
  · exact u_one y u hu
theorem strCells_one (s : ByteArray) : ∀ u ∈ Lib.strCells s, Value.oneCell' u = true := by
  intro u hu
  simp [Lib.strCells] at hu
  obtain ⟨q, _, rfl⟩ := hu
  rfl
theorem append_str {ops : Array Oper} {rest : List Oper} {o : Oper} {a : Act} {Q : Exit → Act → World → Prop} (w1 : World) (hgd : o.guard = none) (s x : Operand) (ho : o.op = .call { callee := .builtin .append, args := #[s, x], argTypes := #[64, 9] })
    (B n : Nat) (v : Value) (hs : a.eval s = v) (hu : UR w1 B v n) (t : ByteArray) (hx : a.eval x = .string t) (hB : B ≤ w1.heap.size) (h9 : n + t.size ≤ 100000000)
    (h : ∀ v' w', UR w' B v' (n + t.size) → Below B w1 w' → wpList Try.prog ops Q rest (a.put o.dst v') w') : wpList Try.prog ops Q (o :: rest) a w1 := by
  obtain ⟨i0, hi, hz0, hz1, hz2⟩ := info_parts (show (Try.prog.info? 5).map (fun i => (i.zero, i.size, i.bytes)) = some (some (.int .u8 0), 1, 1) by kernel_rfl)
  replace hi := Lib.hid hi
  replace hz0 := Lib.hid hz0
  replace hz1 := Lib.hid hz1
  replace hz2 := Lib.hid hz2
  obtain ⟨xs, o1, o2⟩ := hu
  refine Lib.wpList_append_own_string _ hgd s x 64 9 ho B 5 i0 Try.underlying64 Try.underlying9 hi.out hz0.out hz1.out hz2.out v n xs hs o1 t hx (Nat.le_trans (show n + t.size ≤ 1000000000 by omega) (by decide)) (by omega) hB ?_
  intro v' w' q1 q2 _
  refine h v' w' ⟨xs ++ Lib.strCells t, q1, ?_⟩ ((Below.refl B w1).grown q2 hB (fun k hk => (own_from o1 k hk).1))
  intro u hu
  rcases List.mem_append.1 hu with hu | hu
  · exact o2 u hu
  · exact strCells_one t u hu
set_option maxRecDepth 100000 in
theorem num (B n : Nat) (v : Value) (k : Int) (w : World) (h : UR w B v n) (h9 : n ≤ 10000000) (k0 : 0 ≤ k) (k1 : k < 240) : Calls Try.prog 46 #[v, .int .i64 k] w (URP w (n + 1)) := by
  have C := copied B n v w h (by omega)
  have kk0 : ¬ k < 0 := by omega
  replace C := Lib.hid C
  clear h
  go_enter Try.func46, Try.ntmps46
  go_wp2_with (first | (go_at_call 68; refine C.out.mono ?_; rintro e w1 ⟨v1, rfl, o1, hb1⟩; replace hb1 := Lib.hid hb1; replace o1 := Lib.hid o1; clear C) | (at_builtin; refine append_byte w1 _ rfl (.tmp 11) (.tmp 14) rfl w.heap.size n v1 rfl o1.out rfl hb1.out.size (by omega) ?_; intro v8 w8 q1 q2; replace q1 := Lib.hid q1; replace q2 := Lib.hid q2))
  go_ret
  exact ⟨_, rfl, q1.out, hb1.out.trans q2.out⟩
set_option maxRecDepth 100000 in
theorem high (B n : Nat) (v : Value) (x : Int) (w : World) (h : UR w B v n) (hB : B ≤ w.heap.size) (h9 : n ≤ 10000000) : Calls Try.prog 70 #[v, .int .u64 x, .int .i64 8] w fun e w' => ∃ v', e = .returned v' ∧ UR w' B v' (n + 8) ∧ Below B w w' := by
  replace h := Lib.hid h
  go_enter Try.func70, Try.ntmps70
  go_wp2_with fail
  go_loopw [0, 2] (fun s0 s2 wr => ∃ j : Nat, j ≤ 8 ∧ s2 = .int .i64 (j : Int) ∧ UR wr B s0 (n + (8 - j)) ∧ Below B w wr) (fun _ s2 _ => (intOf s2).toNat)
  case atStart => exact ⟨8, Nat.le_refl _, rfl, h.out, Below.refl _ _⟩
  case round =>
    obtain ⟨j, hj, rfl, hu, hbr⟩ := hrel
    clear h
    by_cases h0 : j = 0
    · subst h0
      replace hu := Lib.hid hu
      replace hbr := Lib.hid hbr
      go_wp2_with fail
      go_ret
      exact ⟨u0, rfl, hu.out, hbr.out⟩
    · have b0 : (0 : Int) < (j : Int) := by omega
      obtain ⟨m, rfl⟩ : ∃ m, j = m + 1 := ⟨j - 1, by omega⟩
      have hw : IntKind.i64.wrap (((m + 1 : Nat) : Int) - 1) = (m : Int) := by rw [IntKind.wrap_i64]; omega
      have hw' : IntKind.i64.wrap ((m : Int)) = (m : Int) := by rw [IntKind.wrap_i64]; omega
      obtain ⟨wo, hwo⟩ : ∃ wo, wo = wr := ⟨_, rfl⟩
      subst hwo
      replace hu := Lib.hid hu
      replace hbr := Lib.hid hbr
      go_wp2_with fail
      go_loopw [7, 8] (fun s7 s8 wx => ∃ (y : Int) (i : Nat), i ≤ m ∧ s7 = .int .u64 y ∧ s8 = .int .i64 (i : Int) ∧ wx = wo) (fun _ s8 _ => m - (intOf s8).toNat)
      case atStart => exact ⟨x, 0, Nat.zero_le _, rfl, rfl, rfl⟩
      case round =>
        obtain ⟨y, i, hi, rfl, rfl, rfl⟩ := hrel
        by_cases hlt : i < m
        · have c0 : (i : Int) < (m : Int) := by omega
          go_wp2_with fail
          go_roundw
          case rel => exact ⟨_, i + 1, by omega, rfl, by go_num, by first | rfl | trivial⟩
          case measure => simp [intOf]; omega
        · have c0 : ¬ (i : Int) < (m : Int) := by omega
          go_wp2_with (at_builtin; refine append_byte _ _ rfl (.tmp 21) (.tmp 25) rfl B (n + (8 - (m + 1))) u0 rfl hu.out rfl (Nat.le_trans hB hbr.out.size) (by omega) ?_; intro v8 w8 q1 q2; replace q1 := Lib.hid q1; replace q2 := Lib.hid q2)
          go_roundw
          case rel =>
            have q := q1.out
            rw [show n + (8 - (m + 1)) + 1 = n + (8 - m) by omega] at q
            exact ⟨m, by omega, by go_num, q, hbr.out.trans q2.out⟩
          case measure => simp [intOf]
set_option maxRecDepth 100000 in
theorem int_ (B n : Nat) (v : Value) (k : Int) (w : World) (h : UR w B v n) (h9 : n ≤ 10000000) : Calls Try.prog 47 #[v, .int .i64 k] w (URP w (n + 8)) := by
  have C := copied B n v w h (by omega)
  replace C := Lib.hid C
  clear h
  go_enter Try.func47, Try.ntmps47
  go_wp2_with (first | (go_at_call 68; refine C.out.mono ?_; rintro e w1 ⟨v1, rfl, o1, hb1⟩; replace hb1 := Lib.hid hb1; replace o1 := Lib.hid o1; clear C) | (go_at_call 70; refine (high w.heap.size n v1 _ w1 o1.out hb1.out.size h9).mono ?_; rintro e w2 ⟨v2, rfl, o2, hb2⟩; replace hb2 := Lib.hid hb2; replace o2 := Lib.hid o2))
  go_ret
  exact ⟨_, rfl, o2.out, hb1.out.trans hb2.out⟩
set_option maxRecDepth 100000 in
theorem bits_ (B n : Nat) (v : Value) (k : Int) (w : World) (h : UR w B v n) (h9 : n ≤ 10000000) : Calls Try.prog 48 #[v, .int .u64 k] w (URP w (n + 8)) := by
  have C := copied B n v w h (by omega)
  replace C := Lib.hid C
  clear h
  go_enter Try.func48, Try.ntmps48
  go_wp2_with (first | (go_at_call 68; refine C.out.mono ?_; rintro e w1 ⟨v1, rfl, o1, hb1⟩; replace hb1 := Lib.hid hb1; replace o1 := Lib.hid o1; clear C) | (go_at_call 70; refine (high w.heap.size n v1 _ w1 o1.out hb1.out.size h9).mono ?_; rintro e w2 ⟨v2, rfl, o2, hb2⟩; replace hb2 := Lib.hid hb2; replace o2 := Lib.hid o2))
  go_ret
  exact ⟨_, rfl, o2.out, hb1.out.trans hb2.out⟩
set_option maxRecDepth 100000 in
theorem textB (B n : Nat) (v : Value) (s : ByteArray) (w : World) (h : UR w B v n) (h9 : n ≤ 10000000) (hs : s.size ≤ 200) : Calls Try.prog 49 #[v, .string s] w (URP w (n + 1 + s.size)) := by
  have C := num B n v (s.size : Int) w h h9 (by omega) (by omega)
  replace C := Lib.hid C
  clear h
  go_enter Try.func49, Try.ntmps49
  go_wp2_with (first | (go_at_call 46; refine C.out.mono ?_; rintro e w1 ⟨v1, rfl, o1, hb1⟩; replace hb1 := Lib.hid hb1; replace o1 := Lib.hid o1; clear C) | (at_builtin; refine append_str w1 rfl (.tmp 8) (.tmp 9) rfl w.heap.size (n + 1) v1 rfl o1.out s rfl hb1.out.size (by omega) ?_; intro v8 w8 q1 q2; replace q1 := Lib.hid q1; replace q2 := Lib.hid q2))
  go_ret
  exact ⟨_, rfl, q1.out, hb1.out.trans q2.out⟩
end Go.Proofs.Ytidoacdigedlnaa
