/- Crash. -/
import Derived.Test.YtjphboljhkddaaaZones
set_option linter.unusedVariables false
namespace Go.Proofs.Ytjphboljhkddaaa
open Go.RowKit

/-- a row of numbers -/
def IRow (w : World) (a : Option Addr) (ks : List Int) : Prop := ks = [] ∨ ∃ b off, a = some ⟨b, off, none⟩ ∧ ∀ i, i < ks.length → w.cell? ⟨b, off + i, none⟩ = some (.int .i64 (ks.getD i 0))
theorem IRow.change {w w' : World} {a : Option Addr} {ks : List Int} (h : IRow w a ks) (hs : ∀ ad, a = some ad → w'.heap[ad.block]? = w.heap[ad.block]?) : IRow w' a ks := by
  rcases h with h | ⟨b, off, ha, hc⟩
  · exact .inl h
  · refine .inr ⟨b, off, ha, fun i hi => ?_⟩
    have := hc i hi
    have hsb : w'.heap[b]? = w.heap[b]? := hs ⟨b, off, none⟩ ha
    rw [World.cell?_of_block (a := ⟨b, off + i, none⟩) hsb]
    exact this
def keepN (ks : List Int) (i lo : Nat) : Nat := if ks.length = 0 then 0 else min (max (ks.getD (i % ks.length) 0) 0).toNat lo
theorem keepN_le (ks : List Int) (i lo : Nat) : keepN ks i lo ≤ lo := by unfold keepN; split <;> omega
theorem keep (a : Option Addr) (ks : List Int) (n cap i lo : Nat) (w : World) (hr : IRow w a ks) (hn : ks.length = n) (hn2 : n ≤ 9223372036854775807) (hi : i ≤ 1000) (hlo : lo ≤ 4611686018427387904) :
    Calls Try.prog 32 #[.slice a n cap, .int .i64 (i : Int), .int .i64 (lo : Int)] w fun e w' => e = .returned (.int .i64 ((keepN ks i lo : Nat) : Int)) ∧ ∃ k, w' = w.drewN k := by
  unfold keepN
  by_cases h0 : n = 0
  · subst h0
    rw [if_pos hn]
    clear hr hn
    go_enter Try.func32, Try.ntmps32
    go_wp2_with fail
    go_ret
    exact ⟨rfl, 0, rfl⟩
  · rw [if_neg (by omega), hn]
    rcases hr with hr | ⟨b, off, rfl, hc⟩
    · rw [hr] at hn; simp at hn; omega
    have hm : i % n < n := Nat.mod_lt _ (by omega)
    have c := hc (i % n) (by omega)
    have hn0 : ((n : Int) == 0) = false := beq_eq_false_iff_ne.2 (by omega)
    have hrem : (i : Int).tmod n = ((i % n : Nat) : Int) := by rw [Int.tmod_eq_emod_of_nonneg (by omega)]; rfl
    have hidx : ((i % n : Nat) : Int) < (n : Int) := by omega
    generalize ks.getD (i % n) 0 = x at *
    generalize i % n = j at *
    clear hc
    have hfin : ((min (max x 0).toNat lo : Nat) : Int) = min (max x 0) (lo : Int) := by omega
    rw [hfin]
    clear hfin
    go_enter Try.func32, Try.ntmps32
    go_wp2_with fail
    all_goals
      go_ret
      exact ⟨ret_int (by show (_ : Int) = min (max x 0) (lo : Int); omega), 0, rfl⟩
theorem Still.refl (w : World) : Still w w := fun _ _ _ _ _ => rfl
theorem Still.trans {a b c : World} (h : Still a b) (h' : Still b c) : Still a c := fun g cur t ht hg => by
  have e1 := h g cur t ht hg
  rw [h' g cur t ht (by rw [e1]; exact hg), e1]
theorem Still.alloc {a b : World} (h : Still a b) (o : Obj) : Still a (b.alloc o) := fun g cur t ht hg => by
  have e1 := h g cur t ht hg
  rw [heap_alloc_old _ _ (Array.getElem?_eq_some_iff.1 (e1.trans hg)).1, e1]
theorem Still.below {a b c : World} (h : Still a b) (hb : Below b.heap.size b c) : Still a c := fun g cur t ht hg => by
  have e1 := h g cur t ht hg
  rw [hb.block _ (Array.getElem?_eq_some_iff.1 (e1.trans hg)).1, e1]
def crashStep (ks : List Int) (si : ZSt × Nat) (z : Int) : ZSt × Nat :=
  if ((si.1 z).getD ([], 0)).1.length - ((si.1 z).getD ([], 0)).2 = 0 then si else
    (setZ si.1 z (if ((si.1 z).getD ([], 0)).1.take (((si.1 z).getD ([], 0)).2 + keepN ks si.2 (((si.1 z).getD ([], 0)).1.length - ((si.1 z).getD ([], 0)).2)) = [] then none else
      some (((si.1 z).getD ([], 0)).1.take (((si.1 z).getD ([], 0)).2 + keepN ks si.2 (((si.1 z).getD ([], 0)).1.length - ((si.1 z).getD ([], 0)).2)), ((si.1 z).getD ([], 0)).2 + keepN ks si.2 (((si.1 z).getD ([], 0)).1.length - ((si.1 z).getD ([], 0)).2))), si.2 + 1)
def crashL (ks : List Int) (st : ZSt) (zs : List Int) : ZSt × Nat := zs.foldl (crashStep ks) (st, 0)
theorem crash_take (ks : List Int) (st : ZSt) (zs : List Int) (j : Nat) (h : j < zs.length) : crashL ks st (zs.take (j + 1)) = crashStep ks (crashL ks st (zs.take j)) (zs.getD j 0) := by
  unfold crashL
  rw [List.take_succ_eq_append_getElem h, List.foldl_append]
  simp [h]
def Small16 (st : ZSt) : Prop := ∀ z q, st z = some q → q.1.length ≤ 16777216
theorem step_small {ks : List Int} {si : ZSt × Nat} (h : Small16 si.1) (z : Int) : Small16 (crashStep ks si z).1 := by
  unfold crashStep
  split
  · exact h
  · intro z' q hq
    simp only [setZ] at hq
    by_cases hz : z' = z
    · rw [if_pos hz] at hq
      split at hq
      · cases hq
      · cases hq
        have : ((si.1 z).getD ([], 0)).1.length ≤ 16777216 := by
          cases e : si.1 z with
          | none => simp
          | some q0 => exact h z q0 e
        simp only [List.length_take]; omega
    · rw [if_neg hz] at hq; exact h z' q hq
theorem step_count (ks : List Int) (si : ZSt × Nat) (z : Int) : (crashStep ks si z).2 ≤ si.2 + 1 := by
  unfold crashStep; split <;> simp
theorem crash_small {ks : List Int} {st : ZSt} (h : Small16 st) (zs : List Int) : Small16 (crashL ks st zs).1 ∧ (crashL ks st zs).2 ≤ zs.length := by
  suffices H : ∀ (zs : List Int) (si : ZSt × Nat), Small16 si.1 → Small16 (zs.foldl (crashStep ks) si).1 ∧ (zs.foldl (crashStep ks) si).2 ≤ si.2 + zs.length by
    have := H zs (st, 0) h
    exact ⟨this.1, by have := this.2; rw [Nat.zero_add] at this; exact this⟩
  intro zs
  induction zs with
  | nil => intro si h; exact ⟨h, by simp⟩
  | cons z zs ih =>
    intro si h
    have := ih (crashStep ks si z) (step_small h z)
    have h2 := step_count ks si z
    refine ⟨this.1, ?_⟩
    simp only [List.foldl_cons, List.length_cons]
    omega
/-- numbers of the call's own -/
theorem own_irow {w : World} {B n : Nat} {v : Value} {l : List Int} (h : w.ownsRow B 3 1 v n (i64s l)) : ∃ a cap, v = .slice a n cap ∧ l.length = n ∧ IRow w a l ∧ ∀ ad, a = some ad → ∃ cur, w.heap[ad.block]? = some (.cells cur 3 (0, 0)) := by
  obtain ⟨h1, h2⟩ := h
  have hl : l.length = n := by simpa [i64s] using h1
  rcases h2 with ⟨rfl, rfl⟩ | ⟨g, cap, cur, rfl, hg, hh, hc, hm, hz, ht⟩
  · exact ⟨none, 0, rfl, hl, .inl (List.length_eq_zero_iff.1 hl), fun _ h => by cases h⟩
  · refine ⟨_, cap, rfl, hl, .inr ⟨g, 0, rfl, fun i hi => ?_⟩, fun ad ha => by cases ha; exact ⟨cur, hh⟩⟩
    rw [cell_of_row _ _ _ _ _ _ hh, Nat.zero_add, ← Array.getElem?_toList]
    have e : (cur.toList.take (n * 1))[i]? = (i64s l)[i]? := by rw [ht]
    rw [Nat.mul_one, List.getElem?_take_of_lt (by omega)] at e
    rw [e]
    simp [i64s, hi]
/-- where Crash's loop stands -/
def CrashR (w : World) (B d : Nat) (st : ZSt) (room used : Int) (lit : Bool) (left : Int) (dead : Bool) (a : Option Addr) (ks : List Int) (az : Option Addr) (zs : List Int) (i j : Value) (wr : World) : Prop :=
  ∃ (n : Nat) (used' : Int), n ≤ zs.length ∧ j = .int .i64 (n : Int) ∧ i = .int .i64 ((crashL ks st (zs.take n)).2 : Int) ∧ used - n * 16777216 ≤ used' ∧ used' ≤ used + n * 16777216 ∧
    DiskAt wr B d (crashL ks st (zs.take n)).1 room used' lit left dead ∧ Below B w wr ∧ Still w wr ∧ IRow wr az zs ∧ (∀ ad, az = some ad → ∃ cur, wr.heap[ad.block]? = some (.cells cur 3 (0, 0)))
set_option maxHeartbeats 1600000 in
theorem crash (w : World) (B d : Nat) (st : ZSt) (room used : Int) (lit : Bool) (left : Int) (dead : Bool) (h : DiskAt w B d st room used lit left dead) (hB : B ≤ w.heap.size) (hu : 0 ≤ used ∧ used ≤ 16777216) (hsm : Small16 st)
    (a : Option Addr) (ks : List Int) (n cap : Nat) (hK : ∀ w', Below B w w' → Still w w' → IRow w' a ks) (hn : ks.length = n) (hn2 : n ≤ 9223372036854775807) :
    Calls Try.prog 10 #[.pointer (some ⟨d, 0, none⟩), .slice a n cap] w fun e w' => e = .returned (.int .i64 0) ∧ (∃ used', DiskAt w' B d (crashL ks st (zonesTo st 40)).1 room used' false 0 false) ∧ Below B w w' := by
  obtain ⟨m, L, hBd, hBm, h3, h4, h5⟩ := id h
  obtain ⟨c0, c1, c2, c3, c4, c5, cf⟩ := dcell h3
  have M := made_some d m w c0
  have Z := zones w B d st room used lit left dead h
  have hzl := zonesTo_len st 40
  replace Z := Lib.hid Z
  replace hK := Lib.hid hK
  replace hn := Lib.hid hn
  replace hsm := Lib.hid hsm
  replace h := Lib.hid h
  clear h3 h4 h5 c1 c2 c3 c4 c5 cf
  generalize zonesTo st 40 = zs at *
  go_enter Try.func10, Try.ntmps10
  go_wp2_with (first | (go_at_call 30; refine M.mono ?_; rintro e w1 ⟨rfl, rfl⟩))
  refine Z.out.mono ?_
  rintro e w1 ⟨v, rfl, ho1, hb1⟩
  obtain ⟨az, cz, rfl, hzn, hzr, hzt⟩ := own_irow ho1
  have hD1 := h.out.below hb1
  have hR : CrashR w B d st room used lit left dead a ks az zs (.int .i64 0) (.int .i64 0) w1 := ⟨0, used, Nat.zero_le _, rfl, rfl, by omega, by omega, hD1, hb1.mono hB, (Still.refl w).below hb1, hzr, hzt⟩
  replace hR := Lib.hid hR
  clear ho1 hzr hzt hD1 hb1
  obtain ⟨N, hN⟩ : ∃ N, N = zs.length := ⟨_, rfl⟩
  rw [← hN] at hzl ⊢
  replace hN := Lib.hid hN
  go_wp2_with fail
  go_loopw [6, 19] (fun i j wr => CrashR w B d st room used lit left dead a ks az zs i j wr) (fun _ j _ => N - (intOf j).toNat)
  case atStart => exact hR.out
  case round =>
    obtain ⟨k, used', hk, rfl, rfl, hu1, hu2, hDr, hbr, hsr, hzr, hzt⟩ := hrel
    by_cases hkN : k < N
    · have hkz : k < zs.length := by rw [← hN.out]; exact hkN
      have hstep := crash_take ks st zs k hkz
      obtain ⟨hS16, hS2⟩ := crash_small (ks := ks) hsm.out (zs.take k)
      rw [List.length_take] at hS2
      obtain ⟨bz, offz, rfl, hcz⟩ := hzr.resolve_left (by intro e; rw [e] at hkz; simp at hkz)
      have cz1 := hcz k hkz
      have hzr' : IRow wr (some ⟨bz, offz, none⟩) zs := .inr ⟨bz, offz, rfl, hcz⟩
      clear hzr hcz
      generalize zs.getD k 0 = z at *
      generalize crashL ks st (zs.take k) = S at *
      obtain ⟨S1, si⟩ := S
      obtain ⟨m1, L1, _, hBm1, k3, k4, k5⟩ := id hDr
      obtain ⟨e0, e1, e2, e3, e4, e5, ef⟩ := dcell k3
      obtain ⟨a', cap', hv, hr', hnil', hs', hc', hcm'⟩ := zone_at k5 z
      have K := lookup_any wr m1 L1 z k4
      rw [hv] at K
      unfold zVal at K
      clear hv k3 k4 k5 e1 e2 e3 e4 e5 ef
      have hq16 : ((S1 z).getD ([], 0)).1.length ≤ 16777216 := by
        cases e : S1 z with
        | none => simp
        | some q => exact hS16 z q e
      unfold crashStep at hstep
      simp only at hstep hS2 hS16 hDr ⊢
      obtain ⟨q, hq⟩ : ∃ q, q = (S1 z).getD ([], 0) := ⟨_, rfl⟩
      rw [← hq] at hr' hnil' hs' hc' hq16 K hstep
      replace hq := Lib.hid hq
      obtain ⟨n', hn'⟩ : ∃ n', n' = q.1.length := ⟨_, rfl⟩
      rw [← hn'] at hnil' hs' hc' hq16 K hstep
      replace hn' := Lib.hid hn'
      replace hDr := Lib.hid hDr
      replace hbr := Lib.hid hbr
      replace hsr := Lib.hid hsr
      replace hr' := Lib.hid hr'
      replace hzr' := Lib.hid hzr'
      replace hzt := Lib.hid hzt
      replace hS16 := Lib.hid hS16
      have hlo := fun w' => loose a' n' cap' q.2 w' (by omega) (by omega)
      unfold zVal at hlo
      obtain ⟨s', hs2⟩ : ∃ s', s' = q.2 := ⟨_, rfl⟩
      rw [← hs2] at hs' K hstep hlo
      replace hs2 := Lib.hid hs2
      by_cases hl0 : n' - s' = 0
      · rw [if_pos hl0] at hstep
        have ht0 : ((n' : Int) - (s' : Int) == 0) = true := beq_iff_eq.2 (by omega)
        replace hstep := Lib.hid hstep
        go_wp2_with (go_at_call 31; refine (hlo _).mono ?_; rintro e w2 ⟨rfl, rfl⟩)
        go_roundw
        case rel =>
          refine ⟨k + 1, used', by omega, by go_num, by rw [hstep.out], by omega, by omega, ?_, ?_, ?_, ?_, ?_⟩
          · rw [hstep.out]; exact hDr.out.below (((Below.refl _ _).alloc (Nat.le_refl _) _).alloc (by simp) _)
          · exact hbr.out.trans ((((Below.refl _ _).alloc (Nat.le_refl _) _).alloc (by simp) _).mono (Nat.le_trans hB hbr.out.size))
          · exact (hsr.out.alloc _).alloc _
          · exact hzr'.out.change fun ad ha => by
              obtain ⟨cur, hcur⟩ := hzt.out ad ha
              have hl := (Array.getElem?_eq_some_iff.1 hcur).1
              rw [heap_alloc_old _ _ (by simp; omega), heap_alloc_old _ _ hl]
          · intro ad ha
            obtain ⟨cur, hcur⟩ := hzt.out ad ha
            have hl := (Array.getElem?_eq_some_iff.1 hcur).1
            exact ⟨cur, by rw [heap_alloc_old _ _ (by simp; omega), heap_alloc_old _ _ hl]; exact hcur⟩
        case measure => simp [intOf]; omega
      · rw [if_neg hl0] at hstep
        have ht0 : ((n' : Int) - (s' : Int) == 0) = false := beq_eq_false_iff_ne.2 (by omega)
        replace hstep := Lib.hid hstep
        go_wp2_with (go_at_call 31; refine (hlo _).mono ?_; rintro e w2 ⟨rfl, rfl⟩)
        have hq0 : q.1 ≠ [] := by intro e; have := hn'.out; rw [e] at this; simp at this; omega
        obtain ⟨ba, offa, hab, _⟩ := row_lt hr'.out hq0
        subst hab
        have hX1 := heap_alloc_new wr (.cells #[.slice (some ⟨ba, offa, none⟩) n' cap', .int .i64 (s' : Int)] 65)
        have hbW : Below wr.heap.size wr ((wr.alloc (.cells #[.slice (some ⟨ba, offa, none⟩) n' cap', .int .i64 (s' : Int)] 65)).alloc (.cells #[.slice (some ⟨ba, offa, none⟩) n' cap', .int .i64 (s' : Int)] 65)) := ((Below.refl _ _).alloc (Nat.le_refl _) _).alloc (by simp) _
        have hX : ((wr.alloc (.cells #[.slice (some ⟨ba, offa, none⟩) n' cap', .int .i64 (s' : Int)] 65)).alloc (.cells #[.slice (some ⟨ba, offa, none⟩) n' cap', .int .i64 (s' : Int)] 65)).heap[wr.heap.size]? = some (.cells #[.slice (some ⟨ba, offa, none⟩) n' cap', .int .i64 (s' : Int)] 65 (0, 0)) := by rw [heap_alloc_old _ _ (by simp)]; exact hX1
        have hlt1 : wr.heap.size < ((wr.alloc (.cells #[.slice (some ⟨ba, offa, none⟩) n' cap', .int .i64 (s' : Int)] 65)).alloc (.cells #[.slice (some ⟨ba, offa, none⟩) n' cap', .int .i64 (s' : Int)] 65)).heap.size := by simp; omega
        clear hX1
        generalize (wr.alloc (.cells #[.slice (some ⟨ba, offa, none⟩) n' cap', .int .i64 (s' : Int)] 65)).alloc (.cells #[.slice (some ⟨ba, offa, none⟩) n' cap', .int .i64 (s' : Int)] 65) = W at *
        have hBW : Below B w W := hbr.out.trans (hbW.mono (Nat.le_trans hB hbr.out.size))
        have hSW : Still w W := hsr.out.below hbW
        have keepC := fun w' (hb : Below W.heap.size W w') => keep a ks n cap si (n' - s') w' (hK.out w' (hBW.trans (hb.mono (Nat.le_trans hB hBW.size))) (hSW.below hb)) hn.out hn2 (by omega) (by omega)
        rw [show ((n' - s' : Nat) : Int) = (n' : Int) - (s' : Int) by omega] at keepC
        have hkl := keepN_le ks si (n' - s')
        generalize keepN ks si (n' - s') = kp at *
        have x0 : W.cell? ⟨wr.heap.size, 0, none⟩ = some (.slice (some ⟨ba, offa, none⟩) n' cap') := by rw [cell_of_row _ _ _ _ _ _ hX]; rfl
        have x1 : W.cell? ⟨wr.heap.size, 1, none⟩ = some (.int .i64 (s' : Int)) := by rw [cell_of_row _ _ _ _ _ _ hX]; rfl
        replace keepC := Lib.hid keepC
        replace hX := Lib.hid hX
        replace hbW := Lib.hid hbW
        replace hBW := Lib.hid hBW
        replace hSW := Lib.hid hSW
        go_cut [10] (fun s10 wx => s10 = .int .i64 ((s' + kp : Nat) : Int) ∧ Below W.heap.size W wx)
        case first =>
          go_region_with (first | (go_at_call 31; refine (hlo _).mono ?_; rintro e w2 ⟨rfl, rfl⟩) | (go_at_call 32; refine (keepC.out _ ?_).mono ?_; exact (Below.refl _ _).drew.alloc (Nat.le_refl _) _; rintro e w2 ⟨rfl, kk, rfl⟩))
          all_goals
            go_wp2_with fail
            go_meet
            refine ⟨?_, below_drewN ((Below.refl W.heap.size W).alloc (Nat.le_refl _) _) _⟩
            rw [IntWalk.i64_in _ (by omega : -9223372036854775808 ≤ (s' : Int) + kp ∧ (s' : Int) + kp ≤ 9223372036854775807)]
            rfl
        case rest =>
          obtain ⟨rfl, hbc⟩ := hcut
          have hszn : s' + kp ≤ n' := by omega
          clear hkl
          generalize s' + kp = sz at *
          have hXc : wc.heap[wr.heap.size]? = some (.cells #[.slice (some ⟨ba, offa, none⟩) n' cap', .int .i64 (s' : Int)] 65 (0, 0)) := by rw [hbc.block _ hlt1]; exact hX.out
          have y0 : wc.cell? ⟨wr.heap.size, 0, none⟩ = some (.slice (some ⟨ba, offa, none⟩) n' cap') := by rw [cell_of_row _ _ _ _ _ _ hXc]; rfl
          have hDc := (hDr.out.below hbW.out).below hbc
          have hBc : Below B w wc := hBW.out.trans (hbc.mono (Nat.le_trans hB hBW.out.size))
          have hSc : Still w wc := hSW.out.below hbc
          have hrc := row_take ((hr'.out.below hbW.out).below hbc) sz
          have hlt : (q.1.take sz).length = sz := by rw [List.length_take, ← hn'.out]; omega
          have hzc : IRow wc (some ⟨bz, offz, none⟩) zs ∧ ∀ ad, (some ⟨bz, offz, none⟩ : Option Addr) = some ad → ∃ cur, wc.heap[ad.block]? = some (.cells cur 3 (0, 0)) := by
            have hlz : bz < wr.heap.size := by obtain ⟨cur, hcur⟩ := hzt.out _ rfl; exact (Array.getElem?_eq_some_iff.1 hcur).1
            have hez : wc.heap[bz]? = wr.heap[bz]? := by rw [hbc.block _ (by have := hbW.out.size; omega), hbW.out.block _ hlz]
            exact ⟨hzr'.out.change (fun ad ha => by cases ha; exact hez), fun ad ha => by cases ha; obtain ⟨cur, hcur⟩ := hzt.out _ rfl; exact ⟨cur, hez.trans hcur⟩⟩
          have C := clone (some ⟨ba, offa, none⟩) (q.1.take sz) sz cap' wc hrc hlt (fun h => by cases h) (by omega)
          obtain ⟨ql, hql⟩ : ∃ ql, ql = q.1.take sz := ⟨_, rfl⟩
          rw [← hql] at C hlt
          replace hql := Lib.hid hql
          replace hlt := Lib.hid hlt
          replace C := Lib.hid C
          replace hDc := Lib.hid hDc
          replace hBc := Lib.hid hBc
          replace hSc := Lib.hid hSc
          replace hzc := Lib.hid hzc
          clear hXc hrc hbc x0 x1 hX hbW hBW hSW keepC hlo hr'
          have g1 : (sz : Int) ≤ (cap' : Int) := by omega
          go_wp2_with fail
          refine C.out.mono ?_
          rintro e w4 ⟨x, cx, rfl, hr4, hb4, hle4, hmx4, hnil4, ht4⟩
          rw [hlt.out] at hle4 ⊢
          have P := put_any w4 B d S1 room used' lit left dead (hDc.out.below hb4) z x ql sz cx sz hr4 hlt.out hle4 hmx4 ht4 (Nat.le_refl _) (by have := hBc.out.size; have := hb4.size; omega) (by omega) (by omega) (fun q' hq' => by have := hS16.out z q' hq'; omega)
          rw [← hq.out, ← hn'.out] at P
          have hB4 := hBc.out.trans (hb4.mono (Nat.le_trans hB hBc.out.size))
          have hS4 := hSc.out.below hb4
          have hz4 : IRow w4 (some ⟨bz, offz, none⟩) zs ∧ ∀ ad, (some ⟨bz, offz, none⟩ : Option Addr) = some ad → ∃ cur, w4.heap[ad.block]? = some (.cells cur 3 (0, 0)) := by
            obtain ⟨cur, hcur⟩ := hzc.out.2 _ rfl
            have hez := hb4.block bz (Array.getElem?_eq_some_iff.1 hcur).1
            exact ⟨hzc.out.1.change (fun ad ha => by cases ha; exact hez), fun ad ha => by cases ha; exact ⟨cur, hez.trans hcur⟩⟩
          replace P := Lib.hid P
          replace hB4 := Lib.hid hB4
          replace hS4 := Lib.hid hS4
          replace hz4 := Lib.hid hz4
          clear hr4 hb4 hle4 hmx4 hnil4 ht4 C hDc hBc hSc hzc
          go_wp2_with fail
          refine P.out.mono ?_
          rintro e w5 ⟨rfl, hD5, hb5, hs5⟩
          replace hD5 := Lib.hid hD5
          replace hb5 := Lib.hid hb5
          replace hs5 := Lib.hid hs5
          go_wp2_with fail
          go_roundw
          case rel =>
            refine ⟨k + 1, used' + ((sz : Int) - (n' : Int)), by omega, by go_num, by rw [hstep.out]; show Value.int .i64 _ = Value.int .i64 _; congr 1, by omega, by omega, ?_, hB4.out.trans hb5.out, hS4.out.trans hs5.out, ?_, ?_⟩
            · rw [hstep.out, ← hql.out]; exact hD5.out
            · obtain ⟨cur, hcur⟩ := hz4.out.2 _ rfl
              exact hz4.out.1.change (fun ad ha => by cases ha; exact hs5.out bz cur 3 (by decide) hcur)
            · obtain ⟨cur, hcur⟩ := hz4.out.2 _ rfl
              exact fun ad ha => by cases ha; exact ⟨cur, (hs5.out bz cur 3 (by decide) hcur).trans hcur⟩
          case measure => simp [intOf]; omega
    · have hkN' : k = N := by have := hN.out; omega
      subst hkN'
      have hzs : zs.take k = zs := List.take_of_length_le (by rw [← hN.out]; exact Nat.le_refl _)
      rw [hzs] at hDr
      obtain ⟨m1, L1, _, hBm1, k3, k4, k5⟩ := id hDr
      obtain ⟨e0, e1, e2, e3, e4, e5, ef⟩ := dcell k3
      have f3 := ef 3
      have f4 := ef 4
      have f5 := ef 5
      have hfin : DiskAt (((wr.setCell ⟨d, 3, none⟩ (.bool false)).setCell ⟨d, 4, none⟩ (.int .i64 0)).setCell ⟨d, 5, none⟩ (.bool false)) B d (crashL ks st zs).1 room used' false 0 false ∧ Below B w (((wr.setCell ⟨d, 3, none⟩ (.bool false)).setCell ⟨d, 4, none⟩ (.int .i64 0)).setCell ⟨d, 5, none⟩ (.bool false)) :=
        ⟨((hDr.rewrite (fun m hm => dset3 hm false) (fun k hk => heap_setCell_other _ _ _ _ hk)).rewrite (fun m hm => dset4 hm 0) (fun k hk => heap_setCell_other _ _ _ _ hk)).rewrite (fun m hm => dset5 hm false) (fun k hk => heap_setCell_other _ _ _ _ hk), ((hbr.setCell hBd _).setCell hBd _).setCell hBd _⟩
      replace hfin := Lib.hid hfin
      clear hDr hbr hsr hzr hzt k3 k4 k5 ef e1 e2
      go_wp2_with fail
      go_ret
      exact ⟨rfl, ⟨used', hfin.out.1⟩, hfin.out.2⟩
end Go.Proofs.Ytjphboljhkddaaa
