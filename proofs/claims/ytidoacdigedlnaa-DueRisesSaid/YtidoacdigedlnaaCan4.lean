/- usherref05.bytes, by lengths; usherref05.Check. -/
import Derived.Test.YtidoacdigedlnaaCan3
set_option linter.unusedVariables false
set_option linter.unusedSimpArgs false
namespace Go.Proofs.Ytidoacdigedlnaa
open Go.RowKit

def KD : Nat → Nat
  | 0 => 202
  | d + 1 => 202 + 12 * KD d
theorem Fits.all {d : Nat} {k n b : Int} {s : ByteArray} {l : List VT} (h : Fits d (.mk k n b s l)) : 0 ≤ k ∧ k ≤ 4 ∧ s.size ≤ 200 ∧ l.length ≤ 12 ∧ ((l = []) ∨ ∃ d', d = d' + 1 ∧ ∀ t ∈ l, Fits d' t) := by
  cases d with
  | zero =>
    obtain ⟨h1, h2, h3, rfl⟩ := h
    exact ⟨h1, h2, h3, by simp, Or.inl rfl⟩
  | succ d =>
    obtain ⟨h1, h2, h3, h4, h5⟩ := h
    exact ⟨h1, h2, h3, h4, Or.inr ⟨d, rfl, h5⟩⟩
theorem KD_pos (d : Nat) : 202 ≤ KD d := by cases d <;> simp [KD]
def BytesP (w : World) (lo hi : Nat) (e : Ending) (w' : World) : Prop := ∃ v m, e = .returned v ∧ lo ≤ m ∧ m ≤ hi ∧ UR w' w.heap.size v m ∧ Below w.heap.size w w'
set_option maxRecDepth 100000 in
set_option maxHeartbeats 3200000 in
theorem bytes : ∀ (t : VT) (deep : Nat) (cs : List Value) (B nb : Nat) (v : Value) (w : World), VAt (Live w) w t cs → Fits deep t → UR w B v nb → nb + KD deep ≤ 10000000 → Calls Try.prog 30 #[v, .agg cs.toArray] w (BytesP w nb (nb + KD deep)) := by
  intro t
  induction t using VT.ind with
  | h k n b s l ih =>
    intro deep cs B nb v w h hF hu h9
    obtain ⟨a, cap, rfl, hs, hc, hc2, h64⟩ := VAt_mk.1 h
    obtain ⟨f0, f1, f2, f3, f4⟩ := hF.all
    have hKp := KD_pos deep
    replace ih := Lib.hid ih
    replace hs := Lib.hid hs
    clear h hF
    obtain ⟨N, hN⟩ : ∃ N, N = l.length := ⟨_, rfl⟩
    rw [← hN] at hc h64 f3 ⊢
    obtain ⟨W, hW⟩ : ∃ W, W = w.alloc (.cells #[.int .i64 k, .int .i64 n, .int .u64 b, .string s, .slice a N cap] 25) := ⟨_, rfl⟩
    have hX : W.heap[w.heap.size]? = some (.cells #[.int .i64 k, .int .i64 n, .int .u64 b, .string s, .slice a N cap] 25 (0, 0)) := by rw [hW]; exact heap_alloc_new w _
    have hb : Below w.heap.size w W := by rw [hW]; exact (Below.refl _ _).alloc (Nat.le_refl _) _
    have hsz : W.heap.size = w.heap.size + 1 := by rw [hW]; simp
    have c0 : W.cell? ⟨w.heap.size, 0, none⟩ = some (.int .i64 k) := box_cell hX 0 _ rfl
    have NM := num B nb v k W (hu.below hb) (by omega) f0 (by omega)
    have kc : ∀ w', Below (w.heap.size + 1) W w' → (w'.cell? ⟨w.heap.size, 0, none⟩ = some (.int .i64 k) ∧ w'.cell? ⟨w.heap.size, 1, none⟩ = some (.int .i64 n) ∧ w'.cell? ⟨w.heap.size, 2, none⟩ = some (.int .u64 b) ∧ w'.cell? ⟨w.heap.size, 3, none⟩ = some (.string s) ∧ w'.cell? ⟨w.heap.size, 4, none⟩ = some (.slice a N cap)) := fun w' hb' => by
      have e : w'.heap[w.heap.size]? = some (.cells #[.int .i64 k, .int .i64 n, .int .u64 b, .string s, .slice a N cap] 25 (0, 0)) := (hb'.block _ (Nat.lt_succ_self _)).trans hX
      exact ⟨box_cell e 0 _ rfl, box_cell e 1 _ rfl, box_cell e 2 _ rfl, box_cell e 3 _ rfl, box_cell e 4 _ rfl⟩
    replace hX := Lib.hid hX
    replace hb := Lib.hid hb
    replace hsz := Lib.hid hsz
    replace hW := Lib.hid hW
    replace kc := Lib.hid kc
    replace NM := Lib.hid NM
    replace hN := Lib.hid hN
    replace f4 := Lib.hid f4
    replace hu := Lib.hid hu
    show Calls Try.prog 30 #[v, .agg #[.int .i64 k, .int .i64 n, .int .u64 b, .string s, .slice a N cap]] w (BytesP w nb (nb + KD deep))
    go_enter Try.func30, Try.ntmps30
    go_upto_region 1 with (fail)
    rw [← hW.out]
    go_wp2_with (go_at_call 46; refine NM.out.mono ?_; rintro e w1 ⟨v1, rfl, o1, hb1⟩; replace hb1 := hb1.mono (Nat.le_of_eq hsz.out.symm); obtain ⟨r0, r1, r2, r3, r4⟩ := kc.out w1 hb1; replace o1 := Lib.hid (o1.mono (Nat.le_of_eq hsz.out.symm)); replace hb1 := Lib.hid hb1; clear NM c0)
    · refine (int_ _ _ v1 n w1 o1.out (by omega)).mono ?_
      rintro e w2 ⟨v2, rfl, o2, hb2⟩
      have hz := hb.out.trans ((hb1.out.mono (Nat.le_succ _)))
      replace hb2 := Lib.hid hb2
      replace o2 := Lib.hid o2
      replace hz := Lib.hid hz
      go_wp2_with fail
      go_ret
      exact ⟨v2, nb + 1 + 8, rfl, by omega, by omega, o2.out.mono hz.out.size, hz.out.trans (hb2.out.mono hz.out.size)⟩
    · refine (bits_ _ _ v1 b w1 o1.out (by omega)).mono ?_
      rintro e w2 ⟨v2, rfl, o2, hb2⟩
      have hz := hb.out.trans ((hb1.out.mono (Nat.le_succ _)))
      replace hb2 := Lib.hid hb2
      replace o2 := Lib.hid o2
      replace hz := Lib.hid hz
      go_wp2_with fail
      go_ret
      exact ⟨v2, nb + 1 + 8, rfl, by omega, by omega, o2.out.mono hz.out.size, hz.out.trans (hb2.out.mono hz.out.size)⟩
    · refine (textB _ _ v1 s w1 o1.out (by omega) f2).mono ?_
      rintro e w2 ⟨v2, rfl, o2, hb2⟩
      have hz := hb.out.trans ((hb1.out.mono (Nat.le_succ _)))
      replace hb2 := Lib.hid hb2
      replace o2 := Lib.hid o2
      replace hz := Lib.hid hz
      go_wp2_with fail
      go_ret
      exact ⟨v2, nb + 1 + 1 + s.size, rfl, by omega, by omega, o2.out.mono hz.out.size, hz.out.trans (hb2.out.mono hz.out.size)⟩
    · refine (num _ _ v1 (N : Int) w1 o1.out (by omega) (by omega) (by omega)).mono ?_
      rintro e w2 ⟨v2, rfl, o2, hb2⟩
      have hsz1 : w.heap.size + 1 ≤ w1.heap.size := by have := hb1.out.size; rw [hsz.out] at this; exact this
      have hbw2 := Lib.hid (hb1.out.trans (hb2.mono hsz1))
      have o3 := Lib.hid (o2.mono hsz1)
      obtain ⟨KK, hK1, hK2⟩ : ∃ KK, (∀ t ∈ l, ∃ d', KD d' = KK ∧ Fits d' t) ∧ nb + 2 + N * KK ≤ nb + KD deep := by
        rcases f4.out with rfl | ⟨d', rfl, hf⟩
        · exact ⟨0, ⟨fun t ht => (List.not_mem_nil ht).elim, by omega⟩⟩
        · refine ⟨KD d', fun t ht => ⟨d', rfl, hf t ht⟩, ?_⟩
          have := Nat.mul_le_mul_right (KD d') f3
          simp only [KD]; omega
      replace hK1 := Lib.hid hK1
      replace hK2 := Lib.hid hK2
      clear r0 r1 r2 r3 r4 hb2 o2
      go_wp2_with fail
      go_loopw [0, 5] (fun s0 s5 wr => ∃ j m : Nat, s5 = .int .i64 (j : Int) ∧ j ≤ N ∧ nb ≤ m ∧ m ≤ nb + 2 + j * KK ∧ UR wr (w.heap.size + 1) s0 m ∧ Below (w.heap.size + 1) W wr) (fun _ s5 _ => N - (intOf s5).toNat)
      case atStart => exact ⟨0, nb + 1 + 1, rfl, Nat.zero_le _, by omega, by omega, o3.out, hbw2.out⟩
      case round =>
        obtain ⟨j, m, rfl, hj, m1, m2, hur, hbr⟩ := hrel
        obtain ⟨r0, r1, r2, r3, r4⟩ := kc.out wr hbr
        have hbw : Below w.heap.size w wr := hb.out.trans (hbr.mono (by omega))
        have hsz' : w.heap.size + 1 ≤ wr.heap.size := by have := hbr.size; rw [hsz.out] at this; exact this
        replace m1 := Lib.hid m1
        replace m2 := Lib.hid m2
        by_cases hlt : j < N
        · obtain ⟨y, hy⟩ : ∃ y, l[j]? = some y := ⟨_, List.getElem?_eq_getElem (by rw [← hN.out]; exact hlt)⟩
          have hym : y ∈ l := List.mem_of_getElem? hy
          obtain ⟨d', hKd, hfy⟩ := hK1.out y hym
          obtain ⟨g, off, ds, rfl, hg, hcl, hct, hcr⟩ := hs.out.get j y hy
          have hr := range_keep hcr (hbw.block _ hg)
          have hmul : (j + 1) * KK ≤ N * KK := Nat.mul_le_mul_right KK hlt
          have hsm : (j + 1) * KK = j * KK + KK := Nat.succ_mul j KK
          have I := ih.out y hym d' ds (w.heap.size + 1) m u0 wr (hct.below hbw) hfy hur (by rw [hKd]; have := m2.out; have := hK2.out; omega)
          rw [hKd] at I
          obtain ⟨v0, v1', v2', v3, v4, v5, v6, rfl⟩ := hct.shape
          have q0 : wr.cell? ⟨g, off + j * 5, none⟩ = some (.int .i64 v0) := hr 0 _ rfl
          have q1 := hr 1 _ rfl
          have q2 := hr 2 _ rfl
          have q3 := hr 3 _ rfl
          have q4 := hr 4 _ rfl
          have hb1' : (0 : Int) ≤ (j : Int) := by omega
          have hb2' : (j : Int) < (N : Int) := by omega
          replace I := Lib.hid I
          replace hbr := Lib.hid hbr
          replace hur := Lib.hid hur
          replace hbw := Lib.hid hbw
          replace hmul := Lib.hid hmul
          replace hsm := Lib.hid hsm
          clear hr hcr hct hcl hKd hfy hy hym
          go_wp2_with (go_at_call 30; refine I.out.mono ?_; rintro e w3 ⟨v9, m9, rfl, n1, n2, o9, hb9⟩; have hbE := Lib.hid (hbr.out.trans (hb9.mono hsz')); have o9' := Lib.hid (o9.mono hsz'); replace n1 := Lib.hid n1; replace n2 := Lib.hid n2; clear hb9 o9)
          go_roundw
          case rel => exact ⟨j + 1, m9, by go_num, by omega, by have := m1.out; have := n1.out; omega, by have := m2.out; have := n2.out; have := hsm.out; omega, o9'.out, hbE.out⟩
          case measure => simp [intOf]; omega
        · obtain rfl : j = N := by omega
          replace hbw := Lib.hid hbw
          replace hur := Lib.hid hur
          replace hbr := Lib.hid hbr
          go_wp2_with fail
          go_ret
          exact ⟨u0, m, rfl, m1.out, by have := m2.out; have := hK2.out; omega, hur.out.mono (Nat.le_succ _), hbw.out⟩
    · have hz := hb.out.trans ((hb1.out.mono (Nat.le_succ _)))
      replace hz := Lib.hid hz
      go_ret
      exact ⟨v1, nb + 1, rfl, by omega, by omega, o1.out.mono (Nat.le_succ _), hz.out⟩
def CheckP (w : World) (t : VT) (e : Ending) (w' : World) : Prop := ∃ q : Int, e = .returned (.int .i64 q) ∧ (q = 0 → Fits 4 t) ∧ Below w.heap.size w w'
set_option maxRecDepth 100000 in
theorem check05 (t : VT) (cs : List Value) (w : World) (h : VAt (Live w) w t cs) : Calls Try.prog 14 #[.agg cs.toArray] w (CheckP w t) := by
  obtain ⟨k, n, b, s, a, N, cap, rfl⟩ := h.shape
  have hb : Below w.heap.size w (w.alloc (.cells #[.int .i64 k, .int .i64 n, .int .u64 b, .string s, .slice a N cap] 25)) := (Below.refl _ _).alloc (Nat.le_refl _) _
  have hX : (w.alloc (.cells #[.int .i64 k, .int .i64 n, .int .u64 b, .string s, .slice a N cap] 25)).heap[w.heap.size]? = some (.cells #[.int .i64 k, .int .i64 n, .int .u64 b, .string s, .slice a N cap] 25 (0, 0)) := heap_alloc_new w _
  have hsz : (w.alloc (.cells #[.int .i64 k, .int .i64 n, .int .u64 b, .string s, .slice a N cap] 25)).heap.size = w.heap.size + 1 := by simp
  have c0 : (w.alloc (.cells #[.int .i64 k, .int .i64 n, .int .u64 b, .string s, .slice a N cap] 25)).cell? ⟨w.heap.size, 0, none⟩ = some (.int .i64 k) := box_cell hX 0 _ rfl
  have c1 : (w.alloc (.cells #[.int .i64 k, .int .i64 n, .int .u64 b, .string s, .slice a N cap] 25)).cell? ⟨w.heap.size, 1, none⟩ = some (.int .i64 n) := box_cell hX 1 _ rfl
  have c2 : (w.alloc (.cells #[.int .i64 k, .int .i64 n, .int .u64 b, .string s, .slice a N cap] 25)).cell? ⟨w.heap.size, 2, none⟩ = some (.int .u64 b) := box_cell hX 2 _ rfl
  have c3 : (w.alloc (.cells #[.int .i64 k, .int .i64 n, .int .u64 b, .string s, .slice a N cap] 25)).cell? ⟨w.heap.size, 3, none⟩ = some (.string s) := box_cell hX 3 _ rfl
  have c4 : (w.alloc (.cells #[.int .i64 k, .int .i64 n, .int .u64 b, .string s, .slice a N cap] 25)).cell? ⟨w.heap.size, 4, none⟩ = some (.slice a N cap) := box_cell hX 4 _ rfl
  have S := shape t 4 _ (w.alloc (.cells #[.int .i64 k, .int .i64 n, .int .u64 b, .string s, .slice a N cap] 25)) (Nat.le_refl _) (h.below hb)
  have kc : ∀ w', Below (w.heap.size + 1) (w.alloc (.cells #[.int .i64 k, .int .i64 n, .int .u64 b, .string s, .slice a N cap] 25)) w' → (w'.cell? ⟨w.heap.size, 0, none⟩ = some (.int .i64 k) ∧ w'.cell? ⟨w.heap.size, 1, none⟩ = some (.int .i64 n) ∧ w'.cell? ⟨w.heap.size, 2, none⟩ = some (.int .u64 b) ∧ w'.cell? ⟨w.heap.size, 3, none⟩ = some (.string s) ∧ w'.cell? ⟨w.heap.size, 4, none⟩ = some (.slice a N cap)) := fun w' hb' => by
    have e : w'.heap[w.heap.size]? = some (.cells #[.int .i64 k, .int .i64 n, .int .u64 b, .string s, .slice a N cap] 25 (0, 0)) := (hb'.block _ (Nat.lt_succ_self _)).trans hX
    exact ⟨box_cell e 0 _ rfl, box_cell e 1 _ rfl, box_cell e 2 _ rfl, box_cell e 3 _ rfl, box_cell e 4 _ rfl⟩
  replace S := Lib.hid S
  replace hb := Lib.hid hb
  replace hX := Lib.hid hX
  replace hsz := Lib.hid hsz
  replace kc := Lib.hid kc
  replace h := Lib.hid h
  go_enter Try.func14, Try.ntmps14
  go_wp2_with fail
  refine S.out.mono ?_
  rintro e w1 ⟨q, rfl, hq, hb1⟩
  have hb1' := hb1.mono (Nat.le_of_eq hsz.out.symm)
  have hz := hb.out.trans (hb1'.mono (Nat.le_succ _))
  obtain ⟨r0, r1, r2, r3, r4⟩ := kc.out w1 hb1'
  replace hq := Lib.hid hq
  replace hz := Lib.hid hz
  clear hb1 hb1' c0 c1 c2 c3 c4 S
  cases q with
  | false =>
    go_wp2_with fail
    go_ret
    exact ⟨1, rfl, (fun h => by simp at h), hz.out⟩
  | true =>
    have hF : Fits 4 t := by first | exact hq.out rfl | exact hq.out trivial
    have BB := bytes t 4 _ w.heap.size 0 (.slice none 0 0) w1 (h.out.below hz.out) hF (UR.nil _ _) (by simp [KD])
    replace BB := Lib.hid BB
    replace hF := Lib.hid hF
    clear hq
    go_wp2_with (go_at_call 30; refine BB.out.mono ?_; rintro e w2 ⟨v2, m, rfl, _, m2, ⟨xs, o2, _⟩, hb2⟩; obtain ⟨ar, cr, rfl, _, _, _⟩ := own_len o2; have hzz := Lib.hid (hz.out.trans (hb2.mono hz.out.size)); clear o2 hb2 BB)
    all_goals
      go_ret
      first | exact ⟨1, rfl, (fun h => by simp at h), hzz.out⟩ | exact ⟨0, rfl, fun _ => hF.out, hzz.out⟩
end Go.Proofs.Ytidoacdigedlnaa
