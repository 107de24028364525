/- usherref16.Can's small parts: each hands back some Boolean. -/
import Derived.Test.YtidoacdigedlnaaFWalks
import Derived.Test.YtidoacdigedlnaaMem
set_option linter.unusedVariables false
set_option linter.unusedSimpArgs false
namespace Go.Proofs.Ytidoacdigedlnaa
open Go.RowKit FM Ieee

def BoolS (b : Bool) (w : World) (e : Ending) (w' : World) : Prop := e = .returned (.bool b) ∧ w' = w
def withinB (n lo hi : Int) : Bool := decide (lo ≤ n) && decide (n ≤ hi)
theorem within (n lo hi : Int) (w : World) : Calls Try.prog 12 #[.int .i64 n, .int .i64 lo, .int .i64 hi] w (BoolS (withinB n lo hi) w) := by
  cases h1 : decide (lo ≤ n) <;> cases h2 : decide (n ≤ hi) <;>
  · go_enter Try.func12, Try.ntmps12
    go_wp2_with fail
    go_ret
    exact ⟨by simp only [withinB, h1, h2]; rfl, rfl⟩
def letB (x : Int) : Bool := (decide (97 ≤ x) && decide (x ≤ 122)) || (decide (65 ≤ x) && decide (x ≤ 90)) || (decide (48 ≤ x) && decide (x ≤ 57)) || x == 45 || x == 95 || x == 46
theorem letter (x : Int) (w : World) : Calls Try.prog 28 #[.int .u8 x] w (BoolS (letB x) w) := by
  go_enter Try.func28, Try.ntmps28
  go_wp2_with fail
  all_goals
    go_ret
    refine ⟨congrArg (fun b => Ending.returned (.bool b)) ?_, rfl⟩
    first | rfl | (unfold letB; simp [*]; done) | (unfold letB; simp [*]; omega) | (unfold letB; rw [Bool.eq_iff_iff]; simp; omega)
theorem text_ (s : ByteArray) (w : World) : Calls Try.prog 19 #[.string s] w (BoolS (decide ((s.size : Int) ≤ 200)) w) := by
  go_enter Try.func19, Try.ntmps19
  go_wp2_with fail
  all_goals
    go_ret
    exact ⟨rfl, rfl⟩
def cI (x : Int) : Int := if isN x.toNat then 9221120237041090560 else x
theorem runI (x : Int) (w : World) : Sem.run Try.prog (callFunc 50 #[.int .u64 x]) w = .ok (.value (.float .f64 x.toNat)) w := by kernel_rfl
theorem rcanonI (n : Int) (w : World) : Calls Try.prog 31 #[.int .u64 n] w fun e w' => e = .returned (.int .u64 (cI n)) ∧ w' = w := by
  have e0 := fun w => runI n w
  go_enter Try.func31, Try.ntmps31
  have hne : (FloatKind.f64.format.order n.toNat n.toNat != some Ordering.eq) = decide (isN n.toNat) := ne_self n.toNat
  by_cases h : isN n.toNat
  · rw [decide_eq_true h] at hne
    go_wp2_with fail
    go_ret
    exact ⟨ret_int (by unfold cI; rw [if_pos h]), rfl⟩
  · rw [decide_eq_false h] at hne
    go_wp2_with fail
    go_ret
    exact ⟨ret_int (by unfold cI; rw [if_neg h]), rfl⟩
def byteAt (s : ByteArray) (i : Nat) : Int := if h : i < s.size then (s[i].toNat : Int) else 0
def nameB (s : ByteArray) : Bool := decide (1 ≤ s.size) && (decide (s.size ≤ 24) && (!(byteAt s 0 == 46) && (!(byteAt s 0 == 45) && (List.range s.size).all fun i => letB (byteAt s i))))
theorem name_ (s : ByteArray) (w : World) : Calls Try.prog 13 #[.string s] w (BoolS (nameB s) w) := by
  by_cases a1 : s.size < 1
  · have hn : nameB s = false := by unfold nameB; rw [decide_eq_false (by omega)]; rfl
    have a1' : (s.size : Int) < 1 := by omega
    rw [hn]
    clear hn
    go_enter Try.func13, Try.ntmps13
    go_wp2_with fail
    go_ret
    exact ⟨rfl, rfl⟩
  have a1' : ¬ (s.size : Int) < 1 := by omega
  by_cases a2 : 24 < s.size
  · have hn : nameB s = false := by unfold nameB; rw [decide_eq_true (show 1 ≤ s.size by omega), decide_eq_false (show ¬ s.size ≤ 24 by omega)]; rfl
    have a2' : (24 : Int) < (s.size : Int) := by omega
    rw [hn]
    clear hn
    go_enter Try.func13, Try.ntmps13
    go_wp2_with fail
    go_ret
    exact ⟨rfl, rfl⟩
  have a2' : ¬ (24 : Int) < (s.size : Int) := by omega
  have hs : 0 < s.size := by omega
  have e0 : byteAt s 0 = (s[0].toNat : Int) := dif_pos hs
  have hn0 : nameB s = (!(byteAt s 0 == 46) && (!(byteAt s 0 == 45) && (List.range s.size).all fun i => letB (byteAt s i))) := by unfold nameB; rw [decide_eq_true (show 1 ≤ s.size by omega), decide_eq_true (show s.size ≤ 24 by omega)]; rfl
  rw [hn0, e0]
  clear hn0 e0
  cases a3 : ((s[0].toNat : Int) == 46) with
  | true =>
    go_enter Try.func13, Try.ntmps13
    go_wp2_with fail
    go_ret
    exact ⟨rfl, rfl⟩
  | false =>
    cases a4 : ((s[0].toNat : Int) == 45) with
    | true =>
      go_enter Try.func13, Try.ntmps13
      go_wp2_with fail
      go_ret
      exact ⟨rfl, rfl⟩
    | false =>
      generalize hR : ((List.range s.size).all fun i => letB (byteAt s i)) = R
      replace hR := Lib.hid hR
      show Calls Try.prog 13 #[.string s] w (BoolS R w)
      go_enter Try.func13, Try.ntmps13
      go_wp2_with fail
      go_loopw [3] (fun s3 wr => ∃ j : Nat, j ≤ s.size ∧ s3 = .int .i64 (j : Int) ∧ (∀ i, i < j → letB (byteAt s i) = true) ∧ w = wr) (fun s3 _ => s.size - (intOf s3).toNat)
      case atStart => exact ⟨0, Nat.zero_le _, rfl, fun i hi => absurd hi (Nat.not_lt_zero _), rfl⟩
      case round =>
        obtain ⟨j, hj, rfl, hall, rfl⟩ := hrel
        by_cases hlt : j < s.size
        · have b1 : (0 : Int) ≤ (j : Int) := by omega
          have b2 : (j : Int) < (s.size : Int) := by omega
          have ej : byteAt s j = (s[j].toNat : Int) := dif_pos hlt
          have L := letter (s[j].toNat : Int) w
          cases hL : letB (s[j].toNat : Int) with
          | true =>
            rw [hL] at L
            replace L := Lib.hid L
            have hall' : ∀ i, i < j + 1 → letB (byteAt s i) = true := fun i hi => by
              by_cases h : i = j
              · subst h; rw [ej]; exact hL
              · exact hall i (by omega)
            replace hall' := Lib.hid hall'
            clear hall ej hL
            go_wp2_with (go_at_call 28; refine L.out.mono ?_; rintro e w2 ⟨rfl, rfl⟩)
            go_roundw
            case rel => exact ⟨j + 1, by omega, by go_num, hall'.out, by first | rfl | trivial⟩
            case measure => simp [intOf]; omega
          | false =>
            rw [hL] at L
            replace L := Lib.hid L
            have hRf : R = false := by
              rw [← hR.out, List.all_eq_false]
              exact ⟨j, List.mem_range.2 hlt, by rw [ej, hL]; decide⟩
            clear hall ej hL hR
            subst hRf
            go_wp2_with (go_at_call 28; refine L.out.mono ?_; rintro e w2 ⟨rfl, rfl⟩)
            go_ret
            exact ⟨rfl, rfl⟩
        · have hRt : R = true := by
            rw [← hR.out, List.all_eq_true]
            exact fun i hi => hall i (by have := List.mem_range.1 hi; omega)
          clear hall hR
          subst hRt
          have b2 : ¬ (j : Int) < (s.size : Int) := by omega
          go_wp2_with fail
          go_ret
          exact ⟨rfl, rfl⟩
end Go.Proofs.Ytidoacdigedlnaa
