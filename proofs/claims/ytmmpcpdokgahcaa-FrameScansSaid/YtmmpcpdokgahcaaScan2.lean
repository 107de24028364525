/- The walk of Scan. -/
import Derived.Test.YtmmpcpdokgahcaaEach
set_option linter.unusedVariables false
namespace Go.Proofs.Ytmmpcpdokgahcaa
open Go.RowKit CM

theorem row_nil (w : World) (a : Option Addr) : Row w a [] := ⟨fun c hc => (by cases hc), by simp, .inl rfl⟩
theorem each_none (w : World) (B0 S : Nat) (hS : w.heap[S]? = some (.cells #[.slice none 0 0] 33 (0, 0))) (h0 : B0 ≤ w.heap.size) :
    Calls Try.prog 25 #[.slice none 0 0, .func (.func 26) #[] #[.pointer (some ⟨S, 0, none⟩)]] w (EachP w B0 S []) := by
  have N := next_any none [] 0 0 w (row_nil w _) rfl (Nat.le_refl _) (by decide)
  have e0 : nextF [] = ((0, []), 0, 4) := by decide +kernel
  rw [e0] at N
  have hno : ¬ scanOk [] 0 := by
    have : nextF (([] : List Nat).drop (scanS [] 0).2) = ((0, []), 0, 4) := e0
    unfold scanOk; rw [this]; decide
  have hlt : S < w.heap.size := lt_of_block hS
  replace hS := Lib.hid hS
  replace N := Lib.hid N
  go_enter Try.func25, Try.ntmps25
  go_wp2_with fail
  refine wp_loop_rounds 1 ?_
  rw [rounds_succ]
  go_wp2_with (go_at_call 12; refine N.out.mono ?_; rintro e w1 ⟨a1, c1, rfl, hr1, hb1, hnil1, hle1, hmx1, ht1⟩)
  go_ret
  refine ⟨0, .slice none 0 0, [], rfl, fun j hj => absurd hj (Nat.not_lt_zero _), hno, ?_, ⟨rfl, .inl ⟨rfl, rfl⟩⟩, rfl, (hb1.mono h0).alloc (by have := hb1.size; omega) _⟩
  rw [heap_alloc_old _ _ (by have := hb1.size; omega), hb1.block _ hlt]; exact hS.out
theorem each_empty (ad : Addr) (cap : Nat) (hcap : cap ≤ 9223372036854775807) (w : World) (B0 S : Nat) (hS : w.heap[S]? = some (.cells #[.slice none 0 0] 33 (0, 0))) (h0 : B0 ≤ w.heap.size) :
    Calls Try.prog 25 #[.slice (some ad) 0 cap, .func (.func 26) #[] #[.pointer (some ⟨S, 0, none⟩)]] w (EachP w B0 S []) := by
  have N := fun A c (h : c ≤ 9223372036854775807) => next_any A [] c 0 w (row_nil w _) rfl (Nat.zero_le _) h
  have e0 : nextF [] = ((0, []), 0, 4) := by decide +kernel
  rw [e0] at N
  have hno : ¬ scanOk [] 0 := by
    have : nextF (([] : List Nat).drop (scanS [] 0).2) = ((0, []), 0, 4) := e0
    unfold scanOk; rw [this]; decide
  have hlt : S < w.heap.size := lt_of_block hS
  replace hS := Lib.hid hS
  replace N := Lib.hid N
  go_enter Try.func25, Try.ntmps25
  go_wp2_with fail
  refine wp_loop_rounds 1 ?_
  rw [rounds_succ]
  go_wp2_with (go_at_call 12; refine (N.out _ _ (by first | omega | decide)).mono ?_; rintro e w1 ⟨a1, c1, rfl, hr1, hb1, hnil1, hle1, hmx1, ht1⟩)
  all_goals
    go_ret
    refine ⟨0, .slice none 0 0, [], rfl, fun j hj => absurd hj (Nat.not_lt_zero _), hno, ?_, ⟨rfl, .inl ⟨rfl, rfl⟩⟩, rfl, (hb1.mono h0).alloc (by have := hb1.size; omega) _⟩
    rw [heap_alloc_old _ _ (by have := hb1.size; omega), hb1.block _ hlt]; exact hS.out
theorem scan_walk (a : Option Addr) (l : List Nat) (cap n : Nat) (w : World) (hr : Row w a l) (hn : l.length = n) (hc : n ≤ cap) (hcap : cap ≤ 9223372036854775807) (hnil : a = none → n = 0 ∧ cap = 0) (h20 : n ≤ 1048576) :
    Calls Try.prog 14 #[.slice a n cap] w (ScanP w l) := by
  have hS := heap_alloc_new w (.cells #[.slice none 0 0] 33)
  have hE : Calls Try.prog 25 #[.slice a n cap, .func (.func 26) #[] #[.pointer (some ⟨w.heap.size, 0, none⟩)]] (w.alloc (.cells #[.slice none 0 0] 33)) (EachP (w.alloc (.cells #[.slice none 0 0] 33)) w.heap.size w.heap.size l) := by
    rcases a with _ | ad
    · obtain ⟨rfl, rfl⟩ := hnil rfl
      obtain rfl : l = [] := List.length_eq_zero_iff.1 hn
      exact each_none _ w.heap.size w.heap.size hS (by simp)
    · by_cases hl : l = []
      · subst hl
        obtain rfl : n = 0 := hn.symm
        exact each_empty ad cap hcap _ w.heap.size w.heap.size hS (by simp)
      · obtain ⟨b, off, hab, hc'⟩ := hr.2.2.resolve_left hl
        cases hab
        exact each_some b off l cap n _ w.heap.size w.heap.size (fun w' hb => hr.below (((Below.refl _ _).alloc (Nat.le_refl _) _).trans hb)) hn hc hcap h20 hS (Nat.le_refl _)
  have hmf : ∀ (fn : Fn) (first cap : Array Value) (w : World), (Instr.makeFunc fn first cap).run Try.prog w = .ok (.func fn first cap) w := fun _ _ _ _ => rfl
  replace hE := Lib.hid hE
  clear hS
  go_enter Try.func14, Try.ntmps14
  go_wp2_with (go_at_call 25; refine hE.out.mono ?_; rintro e w1 ⟨k, v, xs, rfl, hok, hno, hS1, ho1, hF1, hb1⟩; have hc1 := cell_of_one hS1; obtain ⟨x1, c1, rfl, _⟩ := own_len ho1)
  go_ret2
  refine ⟨k, _, xs, rfl, hok, hno, own_mono ho1 (by simp), hF1, ?_⟩
  exact ((Below.refl _ _).alloc (Nat.le_refl _) _).trans hb1
theorem pair_news (w1 : World) (x y : Value) : ∀ ad, (some ⟨w1.heap.size + 1, 0, none⟩ : Option Addr) = some ad → ∀ j u, [x, y][j]? = some u → ((w1.alloc (.cells #[x, y] 29)).alloc (.cells #[x, y] 29)).cell? (ad.add j) = some u := by
  intro ad had j u hj
  cases had
  have hh := heap_alloc_new (w1.alloc (.cells #[x, y] 29)) (.cells #[x, y] 29)
  rw [show (w1.alloc (.cells #[x, y] 29)).heap.size = w1.heap.size + 1 by simp] at hh
  match j, hj with
  | 0, hj => cases hj; show World.cell? _ ⟨w1.heap.size + 1, 0 + 0, none⟩ = _; rw [cell_of_row _ _ _ _ _ _ hh]; rfl
  | 1, hj => cases hj; show World.cell? _ ⟨w1.heap.size + 1, 0 + 1, none⟩ = _; rw [cell_of_row _ _ _ _ _ _ hh]; rfl
/-- the reference's -/
theorem rscan_some (b off : Nat) (l : List Nat) (cap n : Nat) (w : World) (hr : ∀ w', Below w.heap.size w w' → Row w' (some ⟨b, off, none⟩) l) (hn : l.length = n) (hc : n ≤ cap) (hcap : cap ≤ 9223372036854775807) (h20 : n ≤ 1048576) :
    Calls Try.prog 15 #[.slice (some ⟨b, off, none⟩) n cap] w (ScanP w l) := by
  obtain ⟨i0, hi, hz0, hz1, hz2⟩ := fr_info
  replace hi := Lib.hid hi
  replace hz0 := Lib.hid hz0
  replace hz1 := Lib.hid hz1
  replace hz2 := Lib.hid hz2
  replace hr := Lib.hid hr
  replace hn := Lib.hid hn
  go_enter Try.func15, Try.ntmps15
  go_wp2_with fail
  go_loopw [4, 5] (fun v i wr => ∃ (k : Nat) (xs : List Value), i = .int .i64 ((scanS l k).2 : Int) ∧ (∀ j, j < k → scanOk l j) ∧ wr.ownsRow w.heap.size 29 2 v k xs ∧ FR wr (scanS l k).1 xs ∧ Below w.heap.size w wr)
    (fun _ i _ => n - (intOf i).toNat)
  case atStart =>
    exact ⟨0, [], rfl, fun j hj => absurd hj (Nat.not_lt_zero _), ⟨rfl, .inl ⟨rfl, rfl⟩⟩, rfl, Below.refl _ _⟩
  case round =>
    obtain ⟨k, xs, rfl, hok, hor, hFR, hbr⟩ := hrel
    obtain ⟨hat, hk9⟩ := scanS_at l k hok
    rw [hn.out] at hat
    obtain ⟨i, hA⟩ : ∃ i, i = (scanS l k).2 := ⟨_, rfl⟩
    rw [← hA] at hat hk9 ⊢
    have hN : ∀ c, (cap ≠ i → c = cap - i) → n - i ≤ c → c ≤ 9223372036854775807 → ∀ A, (cap ≠ i → A = some ⟨b, off + i, none⟩) → Calls Try.prog 13 #[.slice A (n - i) c] wr (NextP wr (nextF (l.drop i))) := by
      intro c h1 h2 h3 A hA'
      by_cases hci : cap = i
      · refine rnext A _ c (n - i) wr ?_ (by rw [List.length_drop, hn.out]) h2 h3
        have e0 : l.drop i = [] := List.drop_eq_nil_of_le (by rw [hn.out]; omega)
        rw [e0]
        exact row_nil _ _
      · refine rnext A _ c (n - i) wr ?_ (by rw [List.length_drop, hn.out]) h2 h3
        rw [hA' hci]
        exact row_drop (hr.out _ hbr) i
    have hstep : (nextF (l.drop i)).2.2 = 0 → 9 ≤ (nextF (l.drop i)).2.1 ∧ (nextF (l.drop i)).2.1 + i ≤ n := by
      intro h
      obtain ⟨h3, h4⟩ := nextF_ok _ h
      rw [List.length_drop, hn.out] at h4
      omega
    have hiff : scanOk l k ↔ (nextF (l.drop i)).2.2 = 0 := by unfold scanOk; rw [← hA]
    have hS1 : scanS l (k + 1) = ((scanS l k).1 ++ [(nextF (l.drop i)).1], i + (nextF (l.drop i)).2.1.toNat) := by simp only [scanS, ← hA]
    generalize nextF (l.drop i) = R at *
    obtain ⟨⟨rk, rp⟩, rx, ry⟩ := R
    replace hA := Lib.hid hA
    replace hok := Lib.hid hok
    replace hor := Lib.hid hor
    replace hFR := Lib.hid hFR
    replace hbr := Lib.hid hbr
    replace hS1 := Lib.hid hS1
    replace hiff := Lib.hid hiff
    replace hN := Lib.hid hN
    by_cases hy : ry = 0
    · obtain ⟨hx9, hxn⟩ := hstep hy
      subst hy
      clear hstep
      have hci : ¬ cap = i := by omega
      have hk2 : k ≤ 200000 := by omega
      go_wp2_with (first | (go_at_call 13; refine (hN.out _ (by intro h; first | rfl | omega) (by omega) (by omega) _ (by intro h; first | rfl | omega)).mono ?_; rintro e w1 ⟨a1, c1, rfl, hr1, hb1, hnil1, hle1, hmx1, ht1⟩) | (at_builtin; refine append_src rfl (.tmp 21) (.tmp 23) 33 rfl w.heap.size 29 i0 (.agg #[.int .i64 0, .slice none 0 0]) 2 32 Try.underlying33 hi.out hz0.out hz1.out hz2.out rfl (by decide) u4 k xs rfl (own_below hor.out ((hb1.alloc hb1.size _).alloc (by have := hb1.size; simp; omega) _)) (some ⟨w1.heap.size + 1, 0, none⟩) 1 1 [.int .i64 (rk : Int), .slice a1 rp.length c1] rfl (fun h => by cases h) rfl (pair_news w1 _ _) ?c1 (by unfold maxLen; omega) (by omega) (by have := hb1.size; have := hbr.out.size; simp; omega) ?_))
      case c1 => intro u hu; simp at hu; rcases hu with rfl | rfl <;> rfl
      intro v' w3 ho3 g3
      have hbw : Below w.heap.size w w1 := hbr.out.trans (hb1.mono hbr.out.size)
      have hB2 : Below wr.heap.size wr ((w1.alloc (.cells #[.int .i64 (rk : Int), .slice a1 rp.length c1] 29)).alloc (.cells #[.int .i64 (rk : Int), .slice a1 rp.length c1] 29)) := (hb1.alloc hb1.size _).alloc (by have := hb1.size; simp; omega) _
      have hbw2 : Below w.heap.size w w3 := ((hbw.alloc hbw.size _).alloc (by have := hbw.size; simp; omega) _).grown g3 (by have := hbw.size; simp; omega) (own_from hor.out)
      have hFR2 : FR ((w1.alloc (.cells #[.int .i64 (rk : Int), .slice a1 rp.length c1] 29)).alloc (.cells #[.int .i64 (rk : Int), .slice a1 rp.length c1] 29)) ((scanS l k).1 ++ [(rk, rp)]) (xs ++ [.int .i64 (rk : Int), .slice a1 rp.length c1]) := by
        refine FR.snoc (rk, rp) a1 c1 (hr1.below (((Below.refl _ _).alloc (Nat.le_refl _) _).alloc (by simp) _)) hle1 (fun ad ha => ?_) _ _ (hFR.out.below hB2)
        obtain ⟨cur, hcur⟩ := ht1 ad ha
        have hl := (Array.getElem?_eq_some_iff.1 hcur).1
        exact ⟨cur, by rw [heap_alloc_old _ _ (by simp; omega), heap_alloc_old _ _ hl]; exact hcur⟩
      have ho2 := own_below hor.out hB2
      have hFR3 : FR w3 ((scanS l k).1 ++ [(rk, rp)]) (xs ++ [.int .i64 (rk : Int), .slice a1 rp.length c1]) :=
        FR.change (fun g cur hg => g3.block g (Array.getElem?_eq_some_iff.1 hg).1 (fun e => own_ne ho2 hg (by decide) e.symm)) _ _ hFR2
      replace hFR3 := Lib.hid hFR3
      replace hbw2 := Lib.hid hbw2
      replace ho3 := Lib.hid ho3
      clear hbw hB2 hFR2 ho2 g3 hr1 hb1 ht1 hnil1 hle1 hmx1
      go_wp2_with fail
      go_roundw
      case rel =>
        refine ⟨k + 1, _, ?_, ?_, ho3.out, ?_, hbw2.out⟩
        · rw [hS1.out]
          show Value.int .i64 _ = Value.int .i64 _
          congr 1
          show _ = ((i + rx.toNat : Nat) : Int)
          omega
        · intro j hj
          rcases Nat.lt_succ_iff_lt_or_eq.1 hj with h | rfl
          · exact hok.out j h
          · exact hiff.out.2 (by first | rfl | trivial)
        · rw [hS1.out]
          exact hFR3.out
      case measure => simp [intOf]; omega
    · have hy' : (ry != 0) = true := bne_iff_ne.2 hy
      clear hstep
      go_wp2_with (go_at_call 13; refine (hN.out _ (by intro h; first | rfl | omega) (by omega) (by omega) _ (by intro h; first | rfl | omega)).mono ?_; rintro e w1 ⟨a1, c1, rfl, hr1, hb1, hnil1, hle1, hmx1, ht1⟩)
      all_goals
        have hbw : Below w.heap.size w w1 := hbr.out.trans (hb1.mono hbr.out.size)
        have hB2 : Below wr.heap.size wr (w1.alloc (.cells #[.int .i64 (rk : Int), .slice a1 rp.length c1] 29)) := hb1.alloc hb1.size _
        go_ret2
        refine ⟨k, u4, xs, ?_, hok.out, fun h => hy (hiff.out.1 h), own_below hor.out hB2, hFR.out.below hB2, hbw.alloc (by have := hbw.size; omega) _⟩
        exact congrArg (fun x : Nat => Ending.returned (.tuple #[u4, .int .i64 (x : Int)])) hA.out
theorem rscan_empty (a : Option Addr) (cap : Nat) (hcap : cap ≤ 9223372036854775807) (hnil : a = none → cap = 0) (w : World) : Calls Try.prog 15 #[.slice a 0 cap] w (ScanP w []) := by
  have N := fun A c (h : c ≤ 9223372036854775807) => rnext A [] c 0 w (row_nil w _) rfl (Nat.zero_le _) h
  have e0 : nextF [] = ((0, []), 0, 4) := by decide +kernel
  rw [e0] at N
  have hno : ¬ scanOk [] 0 := by
    have : nextF (([] : List Nat).drop (scanS [] 0).2) = ((0, []), 0, 4) := e0
    unfold scanOk; rw [this]; decide
  replace N := Lib.hid N
  rcases a with _ | ad
  · obtain rfl := hnil rfl
    go_enter Try.func15, Try.ntmps15
    go_wp2_with fail
    refine wp_loop_rounds 1 ?_
    rw [rounds_succ]
    go_wp2_with (go_at_call 13; refine (N.out _ _ (by first | omega | decide)).mono ?_; rintro e w1 ⟨a1, c1, rfl, hr1, hb1, hnil1, hle1, hmx1, ht1⟩)
    all_goals
      go_ret2
      exact ⟨0, .slice none 0 0, [], rfl, fun j hj => absurd hj (Nat.not_lt_zero _), hno, ⟨rfl, .inl ⟨rfl, rfl⟩⟩, rfl, hb1.alloc hb1.size _⟩
  · clear hnil
    go_enter Try.func15, Try.ntmps15
    go_wp2_with fail
    refine wp_loop_rounds 1 ?_
    rw [rounds_succ]
    go_wp2_with (go_at_call 13; refine (N.out _ _ (by first | omega | decide)).mono ?_; rintro e w1 ⟨a1, c1, rfl, hr1, hb1, hnil1, hle1, hmx1, ht1⟩)
    all_goals
      go_ret2
      exact ⟨0, .slice none 0 0, [], rfl, fun j hj => absurd hj (Nat.not_lt_zero _), hno, ⟨rfl, .inl ⟨rfl, rfl⟩⟩, rfl, hb1.alloc hb1.size _⟩
theorem rscan_walk (a : Option Addr) (l : List Nat) (cap n : Nat) (w : World) (hr : Row w a l) (hn : l.length = n) (hc : n ≤ cap) (hcap : cap ≤ 9223372036854775807) (hnil : a = none → n = 0 ∧ cap = 0) (h20 : n ≤ 1048576) :
    Calls Try.prog 15 #[.slice a n cap] w (ScanP w l) := by
  by_cases hl : l = []
  · subst hl
    obtain rfl : n = 0 := hn.symm
    exact rscan_empty a cap hcap (fun h => (hnil h).2) w
  · obtain ⟨b, off, hab, hc'⟩ := hr.2.2.resolve_left hl
    subst hab
    exact rscan_some b off l cap n w (fun w' hb => hr.below hb) hn hc hcap h20
end Go.Proofs.Ytmmpcpdokgahcaa
