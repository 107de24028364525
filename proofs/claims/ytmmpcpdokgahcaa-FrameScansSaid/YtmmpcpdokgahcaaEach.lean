/- The walk of 'each'. -/
import Derived.Test.YtmmpcpdokgahcaaScan
set_option linter.unusedVariables false
namespace Go.Proofs.Ytmmpcpdokgahcaa
open Go.RowKit CM

def EachP (w : World) (B0 S : Nat) (l : List Nat) (e : Ending) (w' : World) : Prop :=
  ∃ k v xs, e = .returned (.int .i64 ((scanS l k).2 : Int)) ∧ (∀ j, j < k → scanOk l j) ∧ ¬ scanOk l k ∧ w'.heap[S]? = some (.cells #[v] 33 (0, 0)) ∧ w'.ownsRow w.heap.size 29 2 v k xs ∧ FR w' (scanS l k).1 xs ∧ Below B0 w w'

theorem each_some (b off : Nat) (l : List Nat) (cap n : Nat) (w : World) (B0 S : Nat) (hr : ∀ w', Below B0 w w' → Row w' (some ⟨b, off, none⟩) l) (hn : l.length = n) (hc : n ≤ cap) (hcap : cap ≤ 9223372036854775807) (h20 : n ≤ 1048576)
    (hS : w.heap[S]? = some (.cells #[.slice none 0 0] 33 (0, 0))) (h0 : B0 ≤ S) :
    Calls Try.prog 25 #[.slice (some ⟨b, off, none⟩) n cap, .func (.func 26) #[] #[.pointer (some ⟨S, 0, none⟩)]] w (EachP w B0 S l) := by
  have hSl : S < w.heap.size := lt_of_block hS
  replace hr := Lib.hid hr
  replace hn := Lib.hid hn
  replace hS := Lib.hid hS
  go_enter Try.func25, Try.ntmps25
  go_wp2_with fail
  go_loopw [5] (fun i wr => ∃ (k : Nat) (v : Value) (xs : List Value), i = .int .i64 ((scanS l k).2 : Int) ∧ (∀ j, j < k → scanOk l j) ∧ wr.heap[S]? = some (.cells #[v] 33 (0, 0)) ∧ wr.ownsRow w.heap.size 29 2 v k xs ∧ FR wr (scanS l k).1 xs ∧ Below B0 w wr)
    (fun i _ => n - (intOf i).toNat)
  case atStart =>
    exact ⟨0, .slice none 0 0, [], rfl, fun j hj => absurd hj (Nat.not_lt_zero _), hS.out, ⟨rfl, .inl ⟨rfl, rfl⟩⟩, rfl, Below.refl _ _⟩
  case round =>
    obtain ⟨k, v, xs, rfl, hok, hSr, hor, hFR, hbr⟩ := hrel
    obtain ⟨hat, hk9⟩ := scanS_at l k hok
    rw [hn.out] at hat
    have hFl := FR.len _ _ hFR
    obtain ⟨i, hA⟩ : ∃ i, i = (scanS l k).2 := ⟨_, rfl⟩
    rw [← hA] at hat hk9 ⊢
    have hN : ∀ c, (cap ≠ i → c = cap - i) → n - i ≤ c → c ≤ 9223372036854775807 → ∀ A, (cap ≠ i → A = some ⟨b, off + i, none⟩) → Calls Try.prog 12 #[.slice A (n - i) c] wr (NextP wr (nextF (l.drop i))) := by
      intro c h1 h2 h3 A hA'
      by_cases hci : cap = i
      · refine next_any A _ c (n - i) wr ?_ (by rw [List.length_drop, hn.out]) h2 h3
        have e0 : l.drop i = [] := List.drop_eq_nil_of_le (by rw [hn.out]; omega)
        rw [e0]
        exact ⟨fun c hc => (by cases hc), by simp, .inl rfl⟩
      · refine next_any A _ c (n - i) wr ?_ (by rw [List.length_drop, hn.out]) h2 h3
        rw [hA' hci]
        exact row_drop (hr.out _ hbr) i
    have hstep : (nextF (l.drop i)).2.2 = 0 → 9 ≤ (nextF (l.drop i)).2.1 ∧ (nextF (l.drop i)).2.1 + i ≤ n := by
      intro h
      obtain ⟨h3, h4⟩ := nextF_ok _ h
      rw [List.length_drop, hn.out] at h4
      omega
    have hiff : scanOk l k ↔ (nextF (l.drop i)).2.2 = 0 := by unfold scanOk; rw [← hA]
    have hS1 : scanS l (k + 1) = ((scanS l k).1 ++ [(nextF (l.drop i)).1], i + (nextF (l.drop i)).2.1.toNat) := by simp only [scanS, ← hA]
    generalize nextF (l.drop i) = R at *
    obtain ⟨⟨rk, rp⟩, rx, ry⟩ := R
    replace hA := Lib.hid hA
    replace hok := Lib.hid hok
    have hlt2 : S < wr.heap.size := lt_of_block hSr
    replace hSr := Lib.hid hSr
    replace hor := Lib.hid hor
    replace hFR := Lib.hid hFR
    replace hbr := Lib.hid hbr
    replace hS1 := Lib.hid hS1
    replace hiff := Lib.hid hiff
    replace hN := Lib.hid hN
    by_cases hy : ry = 0
    · obtain ⟨hx9, hxn⟩ := hstep hy
      subst hy
      clear hstep
      have hci : ¬ cap = i := by omega
      have hk2 : k ≤ 200000 := by omega
      go_wp2_with (go_at_call 12; refine (hN.out _ (by intro h; first | rfl | omega) (by omega) (by omega) _ (by intro h; first | rfl | omega)).mono ?_; rintro e w1 ⟨a1, c1, rfl, hr1, hb1, hnil1, hle1, hmx1, ht1⟩)
      have hb1o := hb1
      have hbw : Below B0 w w1 := hbr.out.trans (hb1.mono (by have := hbr.out.size; omega))
      have hS2 : (w1.alloc (.cells #[.int .i64 (rk : Int), .slice a1 rp.length c1] 29)).heap[S]? = some (.cells #[v] 33 (0, 0)) := by
        rw [heap_alloc_old _ _ (by have := hb1.size; omega), hb1.block _ hlt2]; exact hSr.out
      have hB2 : Below wr.heap.size wr (w1.alloc (.cells #[.int .i64 (rk : Int), .slice a1 rp.length c1] 29)) := hb1.alloc hb1.size _
      have ho2 := own_below hor.out hB2
      have O := Lib.hid (scan_one B0 w.heap.size S rk a1 rp.length c1 v k xs _ hS2 ho2 (by have := hbw.size; simp; omega) hk2 h0 (by omega))
      have hFR2 : FR (w1.alloc (.cells #[.int .i64 (rk : Int), .slice a1 rp.length c1] 29)) ((scanS l k).1 ++ [(rk, rp)]) (xs ++ [.int .i64 (rk : Int), .slice a1 rp.length c1]) := by
        refine FR.snoc (rk, rp) a1 c1 (hr1.below ((Below.refl _ _).alloc (Nat.le_refl _) _)) hle1 (fun ad ha => ?_) _ _ (hFR.out.below hB2)
        obtain ⟨cur, hcur⟩ := ht1 ad ha
        exact ⟨cur, by rw [heap_alloc_old _ _ (Array.getElem?_eq_some_iff.1 hcur).1]; exact hcur⟩
      have hbw2 : Below B0 w (w1.alloc (.cells #[.int .i64 (rk : Int), .slice a1 rp.length c1] 29)) := hbw.alloc (by have := hbw.size; omega) _
      replace hFR2 := Lib.hid hFR2
      replace hbw2 := Lib.hid hbw2
      clear hb1 hb1o hbw hS2 hB2 ho2 hr1 ht1 hnil1 hle1 hmx1
      refine O.out.mono ?_
      rintro e w3 ⟨rfl, v', hS3, ho3, hk3, hb3⟩
      replace hS3 := Lib.hid hS3
      replace ho3 := Lib.hid ho3
      replace hk3 := Lib.hid hk3
      replace hb3 := Lib.hid hb3
      go_wp2_with fail
      go_roundw
      case rel =>
        refine ⟨k + 1, v', _, ?_, ?_, hS3.out, ho3.out, ?_, hbw2.out.trans hb3.out⟩
        · rw [hS1.out]
          show Value.int .i64 _ = Value.int .i64 _
          congr 1
          show _ = ((i + rx.toNat : Nat) : Int)
          omega
        · intro j hj
          rcases Nat.lt_succ_iff_lt_or_eq.1 hj with h | rfl
          · exact hok.out j h
          · exact hiff.out.2 (by first | rfl | trivial)
        · rw [hS1.out]
          exact FR.change hk3.out _ _ hFR2.out
      case measure => simp [intOf]; omega
    · have hy' : (ry != 0) = true := bne_iff_ne.2 hy
      clear hstep
      go_wp2_with (go_at_call 12; refine (hN.out _ (by intro h; first | rfl | omega) (by omega) (by omega) _ (by intro h; first | rfl | omega)).mono ?_; rintro e w1 ⟨a1, c1, rfl, hr1, hb1, hnil1, hle1, hmx1, ht1⟩)
      all_goals
        have hbw : Below B0 w w1 := hbr.out.trans (hb1.mono (by have := hbr.out.size; omega))
        have hB2 : Below wr.heap.size wr (w1.alloc (.cells #[.int .i64 (rk : Int), .slice a1 rp.length c1] 29)) := hb1.alloc hb1.size _
        go_ret
        refine ⟨k, v, xs, ?_, hok.out, fun h => hy (hiff.out.1 h), ?_, own_below hor.out hB2, hFR.out.below hB2, hbw.alloc (by have := hbw.size; omega) _⟩
        · exact congrArg (fun x : Nat => Ending.returned (.int .i64 (x : Int))) hA.out
        · rw [heap_alloc_old _ _ (by have := hb1.size; omega), hb1.block _ hlt2]; exact hSr.out
end Go.Proofs.Ytmmpcpdokgahcaa
