/- HasPrefix; what a zone reads. -/
import Derived.Test.YtjphboljhkddaaaSingle
set_option linter.unusedVariables false
namespace Go.Proofs.Ytjphboljhkddaaa
open Go.RowKit

theorem hasprefix (w : World) (a b : Option Addr) (l m : List Nat) (n k ca cb : Nat) (ha : Row w a l) (hb : Row w b m) (hn : l.length = n) (hk : m.length = k) (hle : k ≤ n) (hc : n ≤ ca) (hnil : a = none → ca = 0) (hp : l.take k = m) :
    Calls Try.prog 12 #[.slice a n ca, .slice b k cb] w fun e w' => e = .returned (.bool true) ∧ w = w' := by
  have E := equal w a b (l.take k) m k k ca cb (row_take ha k) hb (by rw [List.length_take]; omega) hk
  rw [hp, decide_eq_true (rfl : m = m)] at E
  replace E := Lib.hid E
  have t1 : decide ((k : Int) ≤ (n : Int)) = true := decide_eq_true (by omega)
  have t2 : (k : Int) ≤ (ca : Int) := by omega
  clear ha hb hn hk hp
  rcases a with _ | ⟨ab, ao, asp⟩
  · obtain rfl := hnil rfl
    obtain rfl : n = 0 := by omega
    obtain rfl : k = 0 := by omega
    go_enter Try.func12, Try.ntmps12
    go_wp2_with (go_at_call 34; refine E.out.mono ?_; rintro e w1 ⟨rfl, rfl⟩)
    go_ret
    exact ⟨rfl, rfl⟩
  · clear hnil
    go_enter Try.func12, Try.ntmps12
    go_wp2_with (go_at_call 34; refine E.out.mono ?_; rintro e w1 ⟨rfl, rfl⟩)
    go_ret
    exact ⟨rfl, rfl⟩
/-- the bytes of a zone -/
theorem read_more (w : World) (B d : Nat) (st : ZSt) (room used : Int) (lit : Bool) (left : Int) (h : DiskAt w B d st room used lit left false) (z : Int) (h0 : 0 ≤ z) (h1 : z < 40) (hl2 : ∀ q, st z = some q → q.1.length ≤ 16777216) :
    Calls Try.prog 11 #[.pointer (some ⟨d, 0, none⟩), .int .i64 z] w fun e w' => ∃ a cap, e = .returned (.tuple #[.slice a ((st z).getD ([], 0)).1.length cap, .int .i64 0]) ∧ Row w' a ((st z).getD ([], 0)).1 ∧ Below w.heap.size w w' ∧ ((st z).getD ([], 0)).1.length ≤ cap ∧ (a = none → cap = 0) := by
  obtain ⟨m, L, hBd, hBm, h3, h4, h5⟩ := id h
  obtain ⟨c0, c1, c2, c3, c4, c5, cf⟩ := dcell h3
  have N := known_some d m z w c0 h0 h1
  have A := alive d false w c5
  obtain ⟨a', cap', hv, hr', hnil', hs', hc', hcm'⟩ := zone_at h5 z
  have K := lookup_any w m L z h4
  rw [hv] at K
  unfold zVal at K
  have hq16 : ((st z).getD ([], 0)).1.length ≤ 16777216 := by
    cases e : st z with
    | none => simp
    | some q => exact hl2 q e
  have C := clone a' ((st z).getD ([], 0)).1 _ cap' w hr' rfl hnil' (by omega)
  have hfl := field0
  clear hv hr' hnil' hs' hc' h5 hl2 hq16 h
  generalize (st z).getD ([], 0) = q at *
  obtain ⟨n', hn'⟩ : ∃ n', n' = q.1.length := ⟨_, rfl⟩
  rw [← hn'] at K C ⊢
  replace hn' := Lib.hid hn'
  replace C := Lib.hid C
  go_enter Try.func11, Try.ntmps11
  go_wp2_with (first | (go_at_call 26; refine N.mono ?_; rintro e w1 ⟨rfl, rfl⟩) | (go_at_call 27; refine A.mono ?_; rintro e w1 ⟨rfl, rfl⟩))
  refine C.out.mono ?_
  rintro e w1 ⟨x, cx, rfl, hr3, hb3, hle3, hmx3, hnil3, ht3⟩
  rw [← hn'.out]
  replace hr3 := Lib.hid hr3
  replace hb3 := Lib.hid hb3
  have hle4 : q.1.length ≤ cx := hle3
  have hnil4 : x = none → cx = 0 := fun h => (hnil3 h).2
  replace hle4 := Lib.hid hle4
  replace hnil4 := Lib.hid hnil4
  clear hle3 hnil3 ht3
  go_wp2_with fail
  go_ret2
  exact ⟨x, cx, rfl, hr3.out, hb3.out, (by rw [hn'.out]; exact hle4.out), hnil4.out⟩
/-- what is synced, and what is put behind it -/
theorem two_at (z : Int) (s t : List Nat) : ((setZ (syncSt (setZ (fun _ => none) z (appZ ([], 0) s))) z (appZ (((syncSt (setZ (fun _ => none) z (appZ ([], 0) s))) z).getD ([], 0)) t)) z).getD ([], 0) = (s ++ t, s.length) := by
  have e1 : ((syncSt (setZ (fun _ => none) z (appZ ([], 0) s))) z).getD ([], 0) = (s, s.length) := by
    simp only [syncSt, setZ, if_true, appZ, List.nil_append]
    by_cases h : s = []
    · subst h; rfl
    · rw [if_neg h]; rfl
  rw [e1]
  simp only [setZ, if_true, appZ]
  by_cases h : s ++ t = []
  · rw [if_pos h]
    obtain ⟨rfl, rfl⟩ := List.append_eq_nil_iff.1 h
    rfl
  · rw [if_neg h]; rfl
theorem one_at (z : Int) (s : List Nat) : ((syncSt (setZ (fun _ => none) z (appZ ([], 0) s))) z).getD ([], 0) = (s, s.length) := by
  simp only [syncSt, setZ, if_true, appZ, List.nil_append]
  by_cases h : s = []
  · subst h; rfl
  · rw [if_neg h]; rfl
theorem app_small {q : List Nat × Nat} {l : List Nat} (h : q.1.length + l.length ≤ 16777216) : ∀ q', appZ q l = some q' → q'.1.length ≤ 16777216 := by
  intro q' hq
  unfold appZ at hq
  split at hq
  · cases hq
  · cases hq; simp only [List.length_append]; omega
theorem kept_has (s t : List Nat) (k : Nat) : s.length ≤ ((s ++ t).take (s.length + k)).length ∧ ((s ++ t).take (s.length + k)).take s.length = s := by
  constructor
  · simp only [List.length_take, List.length_append]; omega
  · rw [List.take_take, Nat.min_eq_left (by omega)]
    simp
theorem kept_of (u : List Nat) (m : Nat) : (u.take m).length ≤ u.length ∧ u.take (u.take m).length = u.take m := by
  constructor
  · simp only [List.length_take]; omega
  · rw [List.length_take]
    by_cases h : m ≤ u.length
    · rw [Nat.min_eq_left h]
    · rw [Nat.min_eq_right (by omega), List.take_of_length_le (Nat.le_refl _), List.take_of_length_le (by omega)]
theorem single_set {st : ZSt} {z : Int} (h : Single st z) (o : Option (List Nat × Nat)) : Single (setZ st z o) z := fun z' hz => by unfold setZ; rw [if_neg hz]; exact h z' hz
theorem single_sync {st : ZSt} {z : Int} (h : Single st z) : Single (syncSt st) z := fun z' hz => by unfold syncSt; rw [h z' hz]; rfl
end Go.Proofs.Ytjphboljhkddaaa
