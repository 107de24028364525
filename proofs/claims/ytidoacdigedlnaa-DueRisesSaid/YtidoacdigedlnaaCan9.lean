/- usherref16.Can: some Boolean; true: at most ten timers. -/
import Derived.Test.YtidoacdigedlnaaCan8
set_option linter.unusedVariables false
set_option linter.unusedSimpArgs false
namespace Go.Proofs.Ytidoacdigedlnaa
open Go.RowKit

/-- a whole row is read, behind a guard that says yes -/
theorem wpList_load_want {P : Program} {ops : Array Oper} {rest : List Oper} {o : Oper} {a : Act} {w : World} {Q : Exit → Act → World → Prop} (hw : Region.wanted o (yielded ops a.tmps) = true) (ty : TypeId) (x : Operand) (ho : o.op = .load ty x)
    (g : Nat) (hx : a.eval x = .pointer (some ⟨g, 0, none⟩)) (t : TypeId) (cs : Array Value) (fr : Nat × Nat) (d : TypeDesc) (hg : w.heap[g]? = some (.cells cs t fr))
    (hu : P.underlying ty = some d) (hd : (match d with | .struct _ | .array _ _ => true | _ => false) = true) (hi : (P.info? ty).map (·.size) = some cs.size)
    (h : wpList P ops Q rest (a.put o.dst (.agg cs)) w) : wpList P ops Q (o :: rest) a w :=
  wpList_step fun K hK => by rw [if_pos hw]; exact wp_load_row ty x ho g hx t cs fr d hg hu hd hi (hK _ _ h)
def CanP (w : World) (x : ST) (e : Ending) (w' : World) : Prop := ∃ q : Bool, e = .returned (.bool q) ∧ (q = true → x.timers.length ≤ 10) ∧ Below w.heap.size w w'
set_option maxRecDepth 100000 in
set_option maxHeartbeats 6400000 in
theorem can_ (x : ST) (cs : List Value) (w : World) (h : SAt (Live w) w x cs) : Calls Try.prog 6 #[.agg cs.toArray] w (CanP w x) := by
  have hl := h.len
  have hlo : cs.toArray.size = 31 := by simp [hl]
  have hss := Lib.hid (s_size hl)
  obtain ⟨k0, k1, k2, k3, k4, k5, k6, k7, k13, k14, k15, k16, k17, k18, k19, k20, k21, k22, k30, A_, R_, p1, c1, p2, c2, hA8, hR25, k23, k24, hA, hR, hsT, hsU, hc1, hc9, _⟩ := h.cells
  obtain ⟨a0, a1, a2, a3, a4, a5, a6, rfl⟩ := hA.shape
  obtain ⟨b0, b1, b2, b3, b4, b5, b6, rfl⟩ := hR.shape
  obtain ⟨n, hn⟩ : ∃ n, x.timers.length = n := ⟨_, rfl⟩
  rw [hn] at k23 hc1
  generalize x.status = st at *
  generalize x.task.state = ts at *
  obtain ⟨W, hW⟩ : ∃ W, W = w.alloc (.cells cs.toArray 33) := ⟨_, rfl⟩
  have e1 : W.heap[w.heap.size]? = some (.cells cs.toArray 33 (0, 0)) := by rw [hW]; exact heap_alloc_new w _
  have e3 : Below w.heap.size w W := by rw [hW]; exact ((Below.refl _ _).alloc (Nat.le_refl _) _)
  have e4 : W.heap.size = w.heap.size + 1 := by rw [hW]; simp
  have kx : ∀ w', Below (w.heap.size + 1) W w' → w'.heap[w.heap.size]? = some (.cells cs.toArray 33 (0, 0)) := fun w' hb' => (hb'.block _ (Nat.lt_succ_self _)).trans e1
  have kc : ∀ w', Below (w.heap.size + 1) W w' → (w'.cell? ⟨w.heap.size, 0, none⟩ = some (.int .i64 x.run) ∧ w'.cell? ⟨w.heap.size, 1, none⟩ = some (.int .i64 st) ∧ w'.cell? ⟨w.heap.size, 2, none⟩ = some (.int .i64 x.count) ∧ w'.cell? ⟨w.heap.size, 3, none⟩ = some (.int .i64 x.time) ∧ w'.cell? ⟨w.heap.size, 4, none⟩ = some (.int .i64 x.deadline) ∧ w'.cell? ⟨w.heap.size, 5, none⟩ = some (.int .i64 x.from_) ∧ w'.cell? ⟨w.heap.size, 6, none⟩ = some (.int .i64 x.signals) ∧ w'.cell? ⟨w.heap.size, 7, none⟩ = some (.string x.type) ∧ w'.cell? ⟨w.heap.size, 8, none⟩ = some (.int .i64 a0) ∧ w'.cell? ⟨w.heap.size, 9, none⟩ = some (.int .i64 a1) ∧ w'.cell? ⟨w.heap.size, 10, none⟩ = some (.int .u64 a2) ∧ w'.cell? ⟨w.heap.size, 11, none⟩ = some (.string a3) ∧ w'.cell? ⟨w.heap.size, 12, none⟩ = some (.slice a4 a5 a6) ∧ w'.cell? ⟨w.heap.size, 13, none⟩ = some (.int .i64 x.first) ∧ w'.cell? ⟨w.heap.size, 14, none⟩ = some (.int .u64 (x.coef : Int)) ∧ w'.cell? ⟨w.heap.size, 15, none⟩ = some (.int .i64 x.most) ∧ w'.cell? ⟨w.heap.size, 16, none⟩ = some (.int .i64 ts) ∧ w'.cell? ⟨w.heap.size, 23, none⟩ = some (.slice p1 n c1) ∧ w'.cell? ⟨w.heap.size, 25, none⟩ = some (.int .i64 b0) ∧ w'.cell? ⟨w.heap.size, 26, none⟩ = some (.int .i64 b1) ∧ w'.cell? ⟨w.heap.size, 27, none⟩ = some (.int .u64 b2) ∧ w'.cell? ⟨w.heap.size, 28, none⟩ = some (.string b3) ∧ w'.cell? ⟨w.heap.size, 29, none⟩ = some (.slice b4 b5 b6) ∧ w'.cell? ⟨w.heap.size, 30, none⟩ = some (.string x.reason)) := fun w' hb' => by
    have e := kx w' hb'
    exact ⟨box_cell e 0 _ (by simpa using k0), box_cell e 1 _ (by simpa using k1), box_cell e 2 _ (by simpa using k2), box_cell e 3 _ (by simpa using k3), box_cell e 4 _ (by simpa using k4), box_cell e 5 _ (by simpa using k5), box_cell e 6 _ (by simpa using k6), box_cell e 7 _ (by simpa using k7), box_cell e 8 _ (by simpa using (hA8 0 _ rfl)), box_cell e 9 _ (by simpa using (hA8 1 _ rfl)), box_cell e 10 _ (by simpa using (hA8 2 _ rfl)), box_cell e 11 _ (by simpa using (hA8 3 _ rfl)), box_cell e 12 _ (by simpa using (hA8 4 _ rfl)), box_cell e 13 _ (by simpa using k13), box_cell e 14 _ (by simpa using k14), box_cell e 15 _ (by simpa using k15), box_cell e 16 _ (by simpa using k16), box_cell e 23 _ (by simpa using k23), box_cell e 25 _ (by simpa using (hR25 0 _ rfl)), box_cell e 26 _ (by simpa using (hR25 1 _ rfl)), box_cell e 27 _ (by simpa using (hR25 2 _ rfl)), box_cell e 28 _ (by simpa using (hR25 3 _ rfl)), box_cell e 29 _ (by simpa using (hR25 4 _ rfl)), box_cell e 30 _ (by simpa using k30)⟩
  have kA : ∀ w', Below (w.heap.size + 1) W w' → VAt (Live w') w' x.input [.int .i64 a0, .int .i64 a1, .int .u64 a2, .string a3, .slice a4 a5 a6] := fun w' hb' => hA.below (e3.trans (hb'.mono (Nat.le_succ _)))
  have kR : ∀ w', Below (w.heap.size + 1) W w' → VAt (Live w') w' x.result [.int .i64 b0, .int .i64 b1, .int .u64 b2, .string b3, .slice b4 b5 b6] := fun w' hb' => hR.below (e3.trans (hb'.mono (Nat.le_succ _)))
  have kS : ∀ w', Below (w.heap.size + 1) W w' → SAt (Live w') w' x cs := fun w' hb' => h.below (e3.trans (hb'.mono (Nat.le_succ _)))
  have kz : ∀ w', Below (w.heap.size + 1) W w' → w.heap.size + 1 ≤ w'.heap.size := fun w' hb' => by have := hb'.size; rw [e4] at this; exact this
  have kb : ∀ w', Below (w.heap.size + 1) W w' → Below w.heap.size w w' := fun w' hb' => e3.trans (hb'.mono (Nat.le_succ _))
  obtain ⟨d0, d1, d2, d3, d4, d5, d6, d7, d8, d9, d10, d11, d12, d13, d14, d15, d16, d23, d25, d26, d27, d28, d29, d30⟩ := kc W (Below.refl _ _)
  replace hn := Lib.hid hn
  replace hW := Lib.hid hW
  replace e1 := Lib.hid e1
  replace e3 := Lib.hid e3
  replace e4 := Lib.hid e4
  replace kx := Lib.hid kx
  replace kc := Lib.hid kc
  replace kA := Lib.hid kA
  replace kR := Lib.hid kR
  replace kS := Lib.hid kS
  replace kz := Lib.hid kz
  replace kb := Lib.hid kb
  clear h hl k0 k1 k2 k3 k4 k5 k6 k7 k13 k14 k15 k16 k17 k18 k19 k20 k21 k22 k30 k23 k24 hA hR hsT hsU hA8 hR25
  go_enter Try.func6, Try.ntmps6
  go_upto_region 1 with (fail)
  rw [← hW.out]
  go_cut [3] (fun s3 wx => (∃ q, s3 = .bool q) ∧ wx = W)
  case first =>
    go_wp2_with (go_at_call 12; refine (within _ _ _ _).mono ?_; rintro e w1 ⟨rfl, rfl⟩)
    all_goals
      go_meet
      exact ⟨⟨_, rfl⟩, rfl⟩
  case rest =>
    obtain ⟨⟨q, rfl⟩, hwc⟩ := hcut
    subst wc
    cases q with
    | false =>
      go_wp2_with fail
      go_ret
      exact ⟨false, rfl, (fun h => by cases h), e3.out⟩
    | true =>
      have NM : ∀ w', Calls Try.prog 13 #[.string x.type] w' (BoolS (nameB x.type) w') := fun w' => name_ x.type w'
      generalize nameB x.type = nb at NM
      replace NM := Lib.hid NM
      cases nb with
      | false =>
        go_wp2_with (go_at_call 13; refine (NM.out _).mono ?_; rintro e w1 ⟨rfl, rfl⟩)
        go_ret
        exact ⟨false, rfl, (fun h => by cases h), e3.out⟩
      | true =>
        have hb0 : Below (w.heap.size + 1) W W := Below.refl _ _
        replace hb0 := Lib.hid hb0
        have hX := Lib.hid (kx.out W hb0.out)
        go_wp2_with (first | (go_at_call 13; refine (NM.out _).mono ?_; rintro e w1 ⟨rfl, rfl⟩) | (go_at_call 14; refine (check05 x.input _ _ (kA.out _ hb0.out)).mono ?_))
        rintro e w1 ⟨q1, rfl, _, hb⟩
        have hb1 := hb0.out.trans (hb.mono (kz.out _ hb0.out))
        clear hb d0 d1 d2 d3 d4 d5 d6 d7 d8 d9 d10 d11 d12 d13 d14 d15 d16 d23 d25 d26 d27 d28 d29 d30
        obtain ⟨d0, d1, d2, d3, d4, d5, d6, d7, d8, d9, d10, d11, d12, d13, d14, d15, d16, d23, d25, d26, d27, d28, d29, d30⟩ := kc.out w1 hb1
        have hX := Lib.hid (kx.out w1 hb1)
        replace hb1 := Lib.hid hb1
        cases z1 : (q1 == 0) with
        | false =>
          have z1n : (q1 != 0) = true := by rw [bne, z1]; rfl
          go_wp2_with fail
          go_ret
          exact ⟨false, rfl, (fun h => by cases h), kb.out _ hb1.out⟩
        | true =>
          have z1n : (q1 != 0) = false := by rw [bne, z1]; rfl
          go_wp2_with (go_at_call 14; refine (check05 x.result _ _ (kR.out _ hb1.out)).mono ?_)
          rintro e w2 ⟨q2, rfl, _, hb⟩
          have hb2 := hb1.out.trans (hb.mono (kz.out _ hb1.out))
          clear hb d0 d1 d2 d3 d4 d5 d6 d7 d8 d9 d10 d11 d12 d13 d14 d15 d16 d23 d25 d26 d27 d28 d29 d30
          obtain ⟨d0, d1, d2, d3, d4, d5, d6, d7, d8, d9, d10, d11, d12, d13, d14, d15, d16, d23, d25, d26, d27, d28, d29, d30⟩ := kc.out w2 hb2
          have hX := Lib.hid (kx.out w2 hb2)
          replace hb2 := Lib.hid hb2
          cases z2 : (q2 == 0) with
          | false =>
            have z2n : (q2 != 0) = true := by rw [bne, z2]; rfl
            go_wp2_with fail
            go_ret
            exact ⟨false, rfl, (fun h => by cases h), kb.out _ hb2.out⟩
          | true =>
            have z2n : (q2 != 0) = false := by rw [bne, z2]; rfl
            go_wp2_with (go_at_call 15; refine (check13 x.first x.coef x.most _).mono ?_)
            rintro e w3 ⟨q3, rfl, hb⟩
            have hb3 := hb2.out.trans (hb.mono (kz.out _ hb2.out))
            clear hb d0 d1 d2 d3 d4 d5 d6 d7 d8 d9 d10 d11 d12 d13 d14 d15 d16 d23 d25 d26 d27 d28 d29 d30
            obtain ⟨d0, d1, d2, d3, d4, d5, d6, d7, d8, d9, d10, d11, d12, d13, d14, d15, d16, d23, d25, d26, d27, d28, d29, d30⟩ := kc.out w3 hb3
            have hX := Lib.hid (kx.out w3 hb3)
            replace hb3 := Lib.hid hb3
            cases z3 : (q3 == 0) with
            | false =>
              have z3n : (q3 != 0) = true := by rw [bne, z3]; rfl
              go_wp2_with fail
              go_ret
              exact ⟨false, rfl, (fun h => by cases h), kb.out _ hb3.out⟩
            | true =>
              have z3n : (q3 != 0) = false := by rw [bne, z3]; rfl
              go_wp2_with (first | (with_reducible refine wpList_load_want (by kernel_rfl) 33 (.tmp 1) rfl w.heap.size rfl 33 cs.toArray (0, 0) _ hX.out Try.underlying33 rfl hss.out ?_) | (go_at_call 16; refine (task_ x cs _ (kS.out _ hb3.out)).mono ?_))
              rintro e w4 ⟨q4, rfl, hb⟩
              have hb4 := hb3.out.trans (hb.mono (kz.out _ hb3.out))
              clear hb d0 d1 d2 d3 d4 d5 d6 d7 d8 d9 d10 d11 d12 d13 d14 d15 d16 d23 d25 d26 d27 d28 d29 d30
              obtain ⟨d0, d1, d2, d3, d4, d5, d6, d7, d8, d9, d10, d11, d12, d13, d14, d15, d16, d23, d25, d26, d27, d28, d29, d30⟩ := kc.out w4 hb4
              have hX := Lib.hid (kx.out w4 hb4)
              replace hb4 := Lib.hid hb4
              cases q4 with
              | false =>
                go_wp2_with fail
                go_ret
                exact ⟨false, rfl, (fun h => by cases h), kb.out _ hb4.out⟩
              | true =>
                go_wp2_with (first | (with_reducible refine wpList_load_want (by kernel_rfl) 33 (.tmp 1) rfl w.heap.size rfl 33 cs.toArray (0, 0) _ hX.out Try.underlying33 rfl hss.out ?_) | (go_at_call 17; refine (lists_ x cs _ (kS.out _ hb4.out)).mono ?_))
                rintro e w5 ⟨q5, rfl, hq5, hb⟩
                have hb5 := hb4.out.trans (hb.mono (kz.out _ hb4.out))
                clear hb d0 d1 d2 d3 d4 d5 d6 d7 d8 d9 d10 d11 d12 d13 d14 d15 d16 d23 d25 d26 d27 d28 d29 d30
                obtain ⟨d0, d1, d2, d3, d4, d5, d6, d7, d8, d9, d10, d11, d12, d13, d14, d15, d16, d23, d25, d26, d27, d28, d29, d30⟩ := kc.out w5 hb5
                have hX := Lib.hid (kx.out w5 hb5)
                replace hb5 := Lib.hid hb5
                cases q5 with
                | false =>
                  go_wp2_with fail
                  go_ret
                  exact ⟨false, rfl, (fun h => by cases h), kb.out _ hb5.out⟩
                | true =>
                  have hT : Hid (x.timers.length ≤ 10) := (hq5 rfl : x.timers.length ≤ 10)
                  clear hq5
                  cases y2 : (st == 2) with
                  | true =>
                    have y2n : (st != 2) = false := by rw [bne, y2]; rfl
                    have y2e : st = 2 := beq_iff_eq.1 y2
                    subst y2e
                    go_wp2_with (go_at_call 19; refine (text_ _ _).mono ?_; rintro e w9 ⟨rfl, rfl⟩)
                    all_goals (try subst_vars)
                    all_goals
                      go_ret
                      first | exact ⟨false, rfl, (fun h => by cases h), kb.out _ hb5.out⟩ | exact ⟨_, rfl, fun _ => hT.out, kb.out _ hb5.out⟩
                  | false =>
                    have y2n : (st != 2) = true := by rw [bne, y2]; rfl
                    go_wp2_with (go_at_call 18; refine (same05 x.result zv _ _ _ (kR.out _ hb5.out) (zv_at _ _)).mono ?_)
                    rintro e w6 ⟨q6, rfl, hb⟩
                    have hb6 := hb5.out.trans (hb.mono (kz.out _ hb5.out))
                    clear hb d0 d1 d2 d3 d4 d5 d6 d7 d8 d9 d10 d11 d12 d13 d14 d15 d16 d23 d25 d26 d27 d28 d29 d30
                    obtain ⟨d0, d1, d2, d3, d4, d5, d6, d7, d8, d9, d10, d11, d12, d13, d14, d15, d16, d23, d25, d26, d27, d28, d29, d30⟩ := kc.out w6 hb6
                    have hX := Lib.hid (kx.out w6 hb6)
                    replace hb6 := Lib.hid hb6
                    cases q6 with
                    | false =>
                      go_wp2_with fail
                      go_ret
                      exact ⟨false, rfl, (fun h => by cases h), kb.out _ hb6.out⟩
                    | true =>
                      go_wp2_with (go_at_call 19; refine (text_ _ _).mono ?_; rintro e w9 ⟨rfl, rfl⟩)
                      all_goals (try subst_vars)
                      all_goals
                        go_ret
                        first | exact ⟨false, rfl, (fun h => by cases h), kb.out _ hb6.out⟩ | exact ⟨_, rfl, fun _ => hT.out, kb.out _ hb6.out⟩
end Go.Proofs.Ytidoacdigedlnaa
