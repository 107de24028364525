/- The walk of the reference's Seal. -/
import Derived.Test.YtmmpcpdokgahcaaSeal2
import Derived.Laws.AppendOwnNone
namespace Go.Proofs.Ytmmpcpdokgahcaa
open Go.RowKit CM

/-- 'append(own, src...)', whatever the source: nil or not -/
theorem append_src {P : Program} {w : World} {ops : Array Oper} {rest : List Oper} {o : Oper} {a : Act} {Q : Exit → Act → World → Prop} (hgd : o.guard = none) (s x : Operand) (t : TypeId)
    (ho : o.op = .call { callee := .builtin .append, args := #[s, x], argTypes := #[t, t] })
    (base : Nat) (e : TypeId) (i : TypeInfo) (z : Value) (size bytes : Nat) (ht : P.underlying t = some (.slice e)) (hi : P.info? e = some i) (hz : i.zero = some z)
    (hsize : i.size = size) (hby : i.bytes = bytes) (hzs : z.cells.size = size) (hsz : 0 < size)
    (v : Value) (n : Nat) (xs : List Value) (hs : a.eval s = v) (hown : w.ownsRow base e size v n xs)
    (ao : Option Addr) (m c : Nat) (news : List Value) (hx : a.eval x = .slice ao m c) (hnone : ao = none → m = 0 ∧ c = 0) (hl : news.length = m * size)
    (hnews : ∀ ad, ao = some ad → ∀ j u, news[j]? = some u → w.cell? (ad.add j) = some u) (h1 : ∀ u ∈ news, u.oneCell' = true)
    (h63 : n + m ≤ maxLen) (hbytes : (n + m) * bytes ≤ 140737488355328) (hbase : base ≤ w.heap.size)
    (h : ∀ v' w', w'.ownsRow base e size v' (n + m) (xs ++ news) → w.grownBy w' v.ownBlock → wpList P ops Q rest (a.put o.dst v') w') : wpList P ops Q (o :: rest) a w := by
  cases ao with
  | some ad => exact wpList_append_own w hgd s x t ho base e i z size bytes ht hi hz hsize hby hzs hsz v n xs hs hown ad m c news hx hl (hnews ad rfl) h1 h63 hbytes hbase fun v' w' a b _ => h v' w' a b
  | none =>
    obtain ⟨rfl, rfl⟩ := hnone rfl
    have hn : news = [] := List.eq_nil_of_length_eq_zero (by simpa using hl)
    subst hn
    refine wpList_append_own_none hgd s x t ho base e i size ht hi v n xs hs hown hx (h v w ?_ (World.grownBy.refl _ _))
    rw [List.append_nil, Nat.add_zero]; exact hown
theorem u8_info : ∃ i0 : TypeInfo, Try.prog.info? 5 = some i0 ∧ i0.zero = some (.int .u8 0) ∧ i0.size = 1 ∧ i0.bytes = 1 := by
  obtain ⟨i0, hi, hz0, hz1, hz2⟩ := info_parts (show (Try.prog.info? 5).map (fun i => (i.zero, i.size, i.bytes)) = some (some (.int .u8 0), 1, 1) by kernel_rfl)
  exact ⟨i0, hi, hz0, hz1, hz2⟩
/-- a row of bytes of the call's own is handed back -/
def OwnP (w : World) (l : List Nat) (e : Ending) (w' : World) : Prop := ∃ v, e = .returned v ∧ w'.ownsRow w.heap.size 5 1 v l.length (u8s l) ∧ Below w.heap.size w w'
theorem own_new (w : World) (l : List Nat) (B : Nat) (hB : B ≤ w.heap.size) (hl : l.length ≤ maxLen) : (w.alloc (.cells (u8s l).toArray 5)).ownsRow B 5 1 (.slice (some ⟨w.heap.size, 0, none⟩) l.length l.length) l.length (u8s l) :=
  ⟨by rw [u8s_len, Nat.mul_one], .inr ⟨w.heap.size, l.length, (u8s l).toArray, rfl, hB, heap_alloc_new w _, Nat.le_refl _, hl, by simp [u8s_len], by rw [Nat.mul_one]; exact List.take_of_length_le (by simp [u8s_len])⟩⟩
theorem four (n : Nat) (w : World) (hn : n < 4294967296) : Calls Try.prog 20 #[.int .u32 (n : Int)] w (OwnP w (be4 n)) := by
  have e1 : (n : Int) / 16777216 = ((n / 16777216 % 256 : Nat) : Int) := by omega
  have e2 : (n : Int) / 65536 % 256 = ((n / 65536 % 256 : Nat) : Int) := by omega
  have e3 : (n : Int) / 256 % 256 = ((n / 256 % 256 : Nat) : Int) := by omega
  have e4 : (n : Int) % 256 = ((n % 256 : Nat) : Int) := by omega
  have hfin : OwnP w (be4 n) (.returned (.slice (some ⟨w.heap.size, 0, none⟩) 4 4)) (w.alloc (.cells #[.int .u8 ((n : Int) / 16777216), .int .u8 ((n : Int) / 65536 % 256), .int .u8 ((n : Int) / 256 % 256), .int .u8 ((n : Int) % 256)] 5)) := by
    rw [e1, e2, e3, e4]
    exact ⟨_, rfl, own_new w (be4 n) _ (Nat.le_refl _) (by simp [be4, maxLen]), (Below.refl _ _).alloc (Nat.le_refl _) _⟩
  replace hfin := Lib.hid hfin
  clear e1 e2 e3 e4
  go_enter Try.func20, Try.ntmps20
  go_wp2_with fail
  go_ret
  exact hfin.out
theorem rsum_walk (k : Nat) (a : Option Addr) (p : List Nat) (cap n : Nat) (w : World) (hk : k < 256) (hr : Row w a p) (hn : p.length = n) (hb : n ≤ 1073741824) (hnil : a = none → cap = 0) :
    Calls Try.prog 21 #[.int .u8 (k : Int), .slice a n cap] w fun e w' => e = .returned (.int .u32 ((CM.more 0 (k :: p) : Nat) : Int)) ∧ Below w.heap.size w w' := by
  obtain ⟨i0, hi, hz0, hz1, hz2⟩ := u8_info
  have h1 := own_new w [k] w.heap.size (Nat.le_refl _) (by simp [maxLen])
  have hr1 : Row (w.alloc (.cells (u8s [k]).toArray 5)) a p := hr.below ((Below.refl _ _).alloc (Nat.le_refl _) _)
  have hall : ∀ c ∈ k :: p, c < 256 := by
    intro c hc
    rcases List.mem_cons.1 hc with rfl | hc
    · exact hk
    · exact hr.1 c hc
  replace hi := Lib.hid hi
  replace hz0 := Lib.hid hz0
  replace hz1 := Lib.hid hz1
  replace hz2 := Lib.hid hz2
  replace h1 := Lib.hid h1
  replace hr1 := Lib.hid hr1
  replace hn := Lib.hid hn
  replace hr := Lib.hid hr
  replace hnil := Lib.hid hnil
  replace hall := Lib.hid hall
  go_enter Try.func21, Try.ntmps21
  go_wp2_with (at_builtin; refine append_src rfl (.tmp 6) (.tmp 7) 22 rfl w.heap.size 5 i0 (.int .u8 0) 1 1 Try.underlying22 hi.out hz0.out hz1.out hz2.out rfl (by decide) _ 1 (u8s [k]) rfl h1.out a n cap (u8s p) rfl ?c1 ?c2 ?c3 (u8s_one p) ?c4 ?c5 ?c6 ?_)
  case c1 =>
    intro h
    refine ⟨?_, hnil.out h⟩
    rcases hr.out.2.2 with h' | ⟨b, off, h', _⟩
    · rw [← hn.out, h']; rfl
    · rw [h] at h'; cases h'
  case c2 => rw [u8s_len, hn.out]; omega
  case c3 => exact fun ad h => hr1.out.news h
  case c4 => unfold maxLen; omega
  case c5 => omega
  case c6 => simp
  intro v' w2 ho hg
  rw [← u8s_append] at ho
  have hb2 : Below w.heap.size w w2 := ((Below.refl w.heap.size w).alloc (Nat.le_refl _) _).grown hg (by simp) (fun k h => by cases h; exact Nat.le_refl _)
  obtain ⟨x, cap', rfl, hl, hrow⟩ := own_row ho hall.out (by simp [hn.out]; omega)
  have S := Lib.hid (rsum x (k :: p) cap' (1 + n) w2 hrow hl)
  clear ho hg hrow hl
  replace hb2 := Lib.hid hb2
  go_wp2_with fail
  refine S.out.mono ?_
  rintro e w3 ⟨rfl, rfl⟩
  go_wp2_with fail
  go_ret
  exact ⟨rfl, hb2.out⟩
theorem own_below {w w' : World} {B n s : Nat} {e : TypeId} {v : Value} {xs : List Value} (h : w.ownsRow B e s v n xs) (hb : Below w.heap.size w w') : w'.ownsRow B e s v n xs := by
  obtain ⟨h1, h2⟩ := h
  refine ⟨h1, ?_⟩
  rcases h2 with h2 | ⟨g, cap, cur, hv, hg, hh, r⟩
  · exact .inl h2
  · exact .inr ⟨g, cap, cur, hv, hg, by rw [hb.block g (Array.getElem?_eq_some_iff.1 hh).1]; exact hh, r⟩
theorem own_mono {w : World} {B B' n s : Nat} {e : TypeId} {v : Value} {xs : List Value} (h : w.ownsRow B e s v n xs) (hB : B' ≤ B) : w.ownsRow B' e s v n xs := by
  obtain ⟨h1, h2⟩ := h
  refine ⟨h1, ?_⟩
  rcases h2 with h2 | ⟨g, cap, cur, hv, hg, r⟩
  · exact .inl h2
  · exact .inr ⟨g, cap, cur, hv, by omega, r⟩
/-- the block that a value owns lies from B on -/
theorem own_from {w : World} {B n s : Nat} {e : TypeId} {v : Value} {xs : List Value} (h : w.ownsRow B e s v n xs) : ∀ k, v.ownBlock = some k → B ≤ k := by
  intro k hk
  rcases h.2 with ⟨rfl, _⟩ | ⟨g, cap, cur, rfl, hg, _⟩
  · cases hk
  · cases hk; exact hg
theorem own_len {w : World} {B n s : Nat} {e : TypeId} {v : Value} {xs : List Value} (h : w.ownsRow B e s v n xs) : ∃ a cap, v = .slice a n cap ∧ (a = none → n = 0 ∧ cap = 0) ∧ n ≤ cap ∧ cap ≤ 9223372036854775807 := by
  rcases h.2 with ⟨rfl, rfl⟩ | ⟨g, cap, cur, rfl, hg, _, hc, hm, _⟩
  · exact ⟨none, 0, rfl, fun _ => ⟨rfl, rfl⟩, Nat.le_refl _, by decide⟩
  · exact ⟨_, cap, rfl, (fun h => by cases h), hc, hm⟩
theorem rseal_long (kind : Int) (a : Option Addr) (cap n : Nat) (w : World) (hb : n ≤ 140737488351232) (h : 1048576 < n) :
    Calls Try.prog 8 #[.int .i64 kind, .slice a n cap] w fun e w' => e = .returned (.slice none 0 0) ∧ w = w' := by
  have e : decide (1048576 < (n : Int)) = true := decide_eq_true (by omega)
  go_enter Try.func8, Try.ntmps8
  go_wp2_with fail
  go_ret
  exact ⟨rfl, rfl⟩
theorem rseal_short (kind : Int) (a : Option Addr) (p : List Nat) (cap n : Nat) (w : World) (hr : Row w a p) (hn : p.length = n) (h : n ≤ 1048576) (hnil : a = none → cap = 0) :
    Calls Try.prog 8 #[.int .i64 kind, .slice a n cap] w (GivesP w (sealB (kind % 256).toNat p)) := by
  obtain ⟨i0, hi, hz0, hz1, hz2⟩ := u8_info
  generalize hk : (kind % 256).toNat = k
  have hk1 : kind % 256 = (k : Int) := by omega
  have hk2 : k < 256 := by omega
  have e : decide (1048576 < (n : Int)) = false := decide_eq_false (by omega)
  have hq : CM.more 0 (k :: p) < 4294967296 := flip_lt _ (run_lt _ _ (flip_lt 0 (by decide)) (by
    intro c hc
    rcases List.mem_cons.1 hc with rfl | hc
    · exact hk2
    · exact hr.1 c hc))
  have F1 := Lib.hid (four n w (by omega))
  have F2 := Lib.hid (fun w => four (CM.more 0 (k :: p)) w hq)
  have S := Lib.hid (fun w' (hb : Below w.heap.size w w') => rsum_walk k a p cap n w' hk2 (hr.below hb) hn (by omega) hnil)
  rw [← hk1] at S
  have hall := Lib.hid (seal_len k p hk2 hr.1)
  have hpn : a = none → n = 0 ∧ cap = 0 := by
    intro h
    refine ⟨?_, hnil h⟩
    rcases hr.2.2 with h' | ⟨b, off, h', _⟩
    · rw [← hn, h']; rfl
    · rw [h] at h'; cases h'
  replace hi := Lib.hid hi
  replace hz0 := Lib.hid hz0
  replace hz1 := Lib.hid hz1
  replace hz2 := Lib.hid hz2
  replace hn := Lib.hid hn
  replace hr := Lib.hid hr
  replace hpn := Lib.hid hpn
  replace hk := Lib.hid hk
  replace hk1 := Lib.hid hk1
  clear hq hnil
  go_enter Try.func8, Try.ntmps8
  go_wp2_with fail
  refine F1.out.mono ?_
  rintro e w1 ⟨v1, rfl, ho1, hb1⟩
  replace ho1 := Lib.hid ho1
  replace hb1 := Lib.hid hb1
  go_wp2_with fail
  refine (S.out w1 hb1.out).mono ?_
  rintro e w2 ⟨rfl, g2⟩
  have ho2 := own_below ho1.out g2
  have hb2 := hb1.out.trans (g2.mono hb1.out.size)
  replace ho2 := Lib.hid ho2
  replace hb2 := Lib.hid hb2
  clear g2
  go_wp2_with fail
  refine (F2.out w2).mono ?_
  rintro e w3 ⟨v3, rfl, ho3, g3⟩
  have hoA := own_below ho2.out g3
  have hb3 := hb2.out.trans (g3.mono hb2.out.size)
  obtain ⟨x3, c3, rfl, hr3, hx3⟩ := own_row ho3 (be4_lt _) (by simp [be4])
  have hnil3 := own_len ho3
  obtain ⟨x3', c3', he3, hnone3, _⟩ := hnil3
  cases he3
  replace hoA := Lib.hid hoA
  replace hb3 := Lib.hid hb3
  replace hx3 := Lib.hid hx3
  replace hnone3 := Lib.hid hnone3
  clear g3 ho3 hr3
  go_wp2_with (at_builtin; refine append_src rfl (.tmp 12) (.tmp 17) 22 rfl w.heap.size 5 i0 (.int .u8 0) 1 1 Try.underlying22 hi.out hz0.out hz1.out hz2.out rfl (by decide) v1 4 (u8s (be4 n)) rfl hoA.out x3 4 c3 (u8s (be4 (CM.more 0 (k :: p)))) rfl hnone3.out rfl ?c3 (u8s_one _) (by decide) (by decide) hb3.out.size ?_)
  case c3 => exact fun ad h => hx3.out.news h
  intro v4 w4 ho4 g4
  have hb4 := hb3.out.grown g4 hb3.out.size (own_from hoA.out)
  replace ho4 := Lib.hid ho4
  replace hb4 := Lib.hid hb4
  clear g4
  have ho5 := own_below ho4.out ((Below.refl w4.heap.size w4).alloc (Nat.le_refl _) (.cells #[.int .u8 (kind % 256)] 5))
  have hb5 : Below w.heap.size w (w4.alloc (.cells #[.int .u8 (kind % 256)] 5)) := hb4.out.alloc hb4.out.size _
  have hc5 : ∀ j u, [Value.int .u8 (kind % 256)][j]? = some u → (w4.alloc (.cells #[.int .u8 (kind % 256)] 5)).cell? ((⟨w4.heap.size, 0, none⟩ : Addr).add j) = some u := by
    intro j u hu
    match j, hu with
    | 0, hu =>
      cases hu
      show (w4.alloc _).cell? ((⟨w4.heap.size, 0, none⟩ : Addr).add 0) = _
      have : (⟨w4.heap.size, 0, none⟩ : Addr).add 0 = ⟨w4.heap.size, 0, none⟩ := by simp [Addr.add]
      rw [this, cell_of_row _ w4.heap.size _ _ _ _ (heap_alloc_new w4 _)]; rfl
  replace ho5 := Lib.hid ho5
  replace hb5 := Lib.hid hb5
  replace hc5 := Lib.hid hc5
  go_wp2_with (at_builtin; refine append_src rfl (.tmp 19) (.tmp 22) 22 rfl w.heap.size 5 i0 (.int .u8 0) 1 1 Try.underlying22 hi.out hz0.out hz1.out hz2.out rfl (by decide) v4 (4 + 4) _ rfl ho5.out (some ⟨w4.heap.size, 0, none⟩) 1 1 [.int .u8 (kind % 256)] rfl (fun h => by cases h) rfl (fun ad h => by cases h; exact hc5.out) (fun u hu => by rw [List.mem_singleton.1 hu]; rfl) (by decide) (by decide) hb5.out.size ?_)
  intro v6 w6 ho6 g6
  have hb6 := hb5.out.grown g6 hb5.out.size (own_from ho5.out)
  have hr6 := hr.out.below hb6
  replace ho6 := Lib.hid ho6
  replace hb6 := Lib.hid hb6
  replace hr6 := Lib.hid hr6
  clear g6
  go_wp2_with (at_builtin; refine append_src rfl (.tmp 23) (.tmp 24) 22 rfl w.heap.size 5 i0 (.int .u8 0) 1 1 Try.underlying22 hi.out hz0.out hz1.out hz2.out rfl (by decide) v6 (4 + 4 + 1) _ rfl ho6.out a n cap (u8s p) rfl hpn.out ?d2 ?d3 (u8s_one p) ?d4 ?d5 hb6.out.size ?_)
  case d2 => rw [u8s_len, hn.out]; omega
  case d3 => exact fun ad h => hr6.out.news h
  case d4 => unfold maxLen; omega
  case d5 => omega
  intro v7 w7 ho7 g7
  have hb7 := hb6.out.grown g7 hb6.out.size (own_from ho6.out)
  have hfin : GivesP w (sealB k p) (.returned v7) w7 := by
    have e1 : u8s (be4 n) ++ (u8s (be4 (CM.more 0 (k :: p))) ++ Value.int .u8 (kind % 256) :: u8s p) = u8s (sealB k p) := by
      rw [hk1.out]; unfold sealB; simp [u8s, hn.out]
    have e2 : 9 + n = (sealB k p).length := by rw [hall.out.1, hn.out]
    rw [e1, e2] at ho7
    obtain ⟨x, c7, rfl, hl, hx⟩ := own_row ho7 hall.out.2 (by rw [hall.out.1, hn.out]; omega)
    obtain ⟨x', c7', he, hnone, hle, hmx⟩ := own_len ho7
    cases he
    exact ⟨x, c7, rfl, hx, hb7, hnone, hle, hmx⟩
  replace hfin := Lib.hid hfin
  clear ho7 g7 hb7
  go_wp2_with fail
  go_ret
  exact hfin.out
theorem rseal_any (kind : Int) (a : Option Addr) (p : List Nat) (cap n : Nat) (w : World) (hr : Row w a p) (hn : p.length = n) (hb : n ≤ 140737488351232) (hnil : a = none → cap = 0) :
    Calls Try.prog 8 #[.int .i64 kind, .slice a n cap] w (GivesP w (sealL (kind % 256).toNat p)) := by
  unfold sealL
  by_cases h : 1048576 < p.length
  · rw [if_pos h]
    refine (rseal_long kind a cap n w hb (by omega)).mono ?_
    rintro e w' ⟨rfl, rfl⟩
    exact ⟨none, 0, rfl, ⟨fun c hc => (by cases hc), by simp, .inl rfl⟩, Below.refl _ _, fun _ => ⟨rfl, rfl⟩, Nat.le_refl _, by decide⟩
  · rw [if_neg h]
    exact rseal_short kind a p cap n w hr hn (by omega) hnil
end Go.Proofs.Ytmmpcpdokgahcaa
