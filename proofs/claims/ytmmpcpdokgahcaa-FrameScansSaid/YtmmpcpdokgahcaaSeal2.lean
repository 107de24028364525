/- The walk of frame.Seal. -/
import Derived.Test.YtmmpcpdokgahcaaSeal
import Derived.Laws.CopyOwn
namespace Go.Proofs.Ytmmpcpdokgahcaa
open Go.RowKit CM
/-- a frame -/
def sealB (k : Nat) (p : List Nat) : List Nat := be4 p.length ++ (be4 (CM.more 0 (k :: p)) ++ k :: p)
def sealL (k : Nat) (p : List Nat) : List Nat := if 1048576 < p.length then [] else sealB k p
/-- a row of bytes is handed back -/
def GivesP (w : World) (l : List Nat) (e : Ending) (w' : World) : Prop := ∃ a cap, e = .returned (.slice a l.length cap) ∧ Row w' a l ∧ Below w.heap.size w w' ∧ (a = none → l.length = 0 ∧ cap = 0) ∧ l.length ≤ cap ∧ cap ≤ 9223372036854775807
theorem zeros_hold {w : World} {g N B : Nat} (h : w.ownsRow B 5 1 (.slice (some ⟨g, 0, none⟩) N N) N (madeCells #[.int .u8 0] N).toList) : Holds w g (List.replicate N 0) := by
  obtain ⟨h1, h2⟩ := h
  rcases h2 with ⟨h2, _⟩ | ⟨g', cap, cur, h2, _, hh, _, _, hs, ht⟩
  · cases h2
  · cases h2
    unfold Holds
    rw [hh]
    congr 2
    apply Array.ext'
    rw [Nat.mul_one] at hs ht
    rw [List.take_of_length_le (by simp; omega)] at ht
    rw [ht]
    have e : ∀ i : Nat, (#[Value.int .u8 0] : Array Value)[i % 1]! = .int .u8 0 := fun i => by rw [Nat.mod_one]; rfl
    apply List.ext_getElem?
    intro i
    by_cases hi : i < N
    · simp [u8s, madeCells, hi, e]
    · rw [List.getElem?_eq_none (by simp [madeCells]; omega), List.getElem?_eq_none (by simp [u8s]; omega)]
theorem seal_lists (n k s : Nat) (p : List Nat) (hp : p.length = n) (hs : s = CM.more 0 (k :: p)) :
    splice (u8s ((List.replicate (9 + n) 0).set 8 k)) 9 (u8s p) = u8s ([0, 0, 0, 0, 0, 0, 0, 0] ++ k :: p) ∧
    (put4 ([0, 0, 0, 0, 0, 0, 0, 0] ++ k :: p) 0 n) = be4 n ++ ([0, 0, 0, 0] ++ k :: p) ∧ put4 (be4 n ++ ([0, 0, 0, 0] ++ k :: p)) 4 s = sealB k p ∧ (be4 n ++ ([0, 0, 0, 0] ++ k :: p)).drop 8 = k :: p := by
  have e : (List.replicate (9 + n) 0).set 8 k = [0, 0, 0, 0, 0, 0, 0, 0] ++ k :: List.replicate n 0 := by
    rw [← List.replicate_append_replicate]; rfl
  refine ⟨?_, rfl, ?_, rfl⟩
  · rw [e]
    unfold splice
    rw [u8s_len, hp]
    simp [u8s]
    omega
  · unfold sealB; rw [hp, hs]; rfl
theorem be4_lt (n : Nat) : ∀ c ∈ be4 n, c < 256 := by
  intro c hc
  simp only [be4, List.mem_cons, List.not_mem_nil, or_false] at hc
  omega
theorem seal_len (k : Nat) (p : List Nat) (hk : k < 256) (hp : ∀ c ∈ p, c < 256) : (sealB k p).length = 9 + p.length ∧ ∀ c ∈ sealB k p, c < 256 := by
  refine ⟨by simp [sealB, be4]; omega, ?_⟩
  intro c hc
  rcases List.mem_append.1 hc with h | hc
  · exact be4_lt _ c h
  rcases List.mem_append.1 hc with h | hc
  · exact be4_lt _ c h
  rcases List.mem_cons.1 hc with rfl | h
  · exact hk
  · exact hp c h
theorem Holds.below {w w' : World} {g : Nat} {l : List Nat} (h : Holds w g l) (hb : Below w.heap.size w w') : Holds w' g l := by
  unfold Holds
  rw [hb.block g (Array.getElem?_eq_some_iff.1 h).1]; exact h
theorem seal_long (kind : Int) (a : Option Addr) (p : List Nat) (cap n : Nat) (w : World) (hn : p.length = n) (hb : n ≤ 140737488351232) (h : 1048576 < n) :
    Calls Try.prog 7 #[.int .i64 kind, .slice a n cap] w fun e w' => e = .returned (.slice none 0 0) ∧ w = w' := by
  have S := fun w => size (n : Int) w
  have e : sizeF (n : Int) = 0 := by unfold sizeF; rw [if_pos (.inr (by omega))]
  rw [e] at S
  replace S := Lib.hid S
  clear e hn h
  go_enter Try.func7, Try.ntmps7
  go_wp2_with (go_at_call 9; refine (S.out _).mono ?_; rintro e w' ⟨rfl, rfl⟩)
  go_ret
  exact ⟨rfl, rfl⟩
theorem seal_pos (kind : Int) (a : Option Addr) (p : List Nat) (cap n : Nat) (w : World) (hr : Row w a p) (hn : p.length = n) (h : n ≤ 1048576) (hnil : a = none → cap = 0) (hcap : n ≤ cap) (hn0 : ¬ n = 0) :
    Calls Try.prog 7 #[.int .i64 kind, .slice a n cap] w (GivesP w (sealB (kind % 256).toNat p)) := by
  have S := fun w => size (n : Int) w
  have e : sizeF (n : Int) = 9 + (n : Int) := by unfold sizeF; rw [if_neg (by omega)]
  rw [e] at S
  replace S := Lib.hid S
  clear e
  have h0 : ((9 + (n : Int)) == 0) = false := beq_eq_false_iff_ne.2 (by omega)
  replace hn := Lib.hid hn
  replace hr := Lib.hid hr
  replace hnil := Lib.hid hnil
  replace hcap := Lib.hid hcap
  obtain ⟨i0, hi, hz0, hz1, hz2⟩ := info_parts (show (Try.prog.info? 5).map (fun i => (i.zero, i.size, i.bytes)) = some (some (.int .u8 0), 1, 1) by kernel_rfl)
  replace hi := Lib.hid hi
  replace hz0 := Lib.hid hz0
  replace hz1 := Lib.hid hz1
  replace hz2 := Lib.hid hz2
  go_enter Try.func7, Try.ntmps7
  go_wp2_with (first | (go_at_call 9; refine (S.out _).mono ?_; rintro e w' ⟨rfl, rfl⟩) | (at_make; refine wpList_make_full w rfl (.tmp 12) (.tmp 12) 22 rfl w.heap.size 5 i0 (.int .u8 0) 1 Try.underlying22 hi.out hz0.out hz1.out .i64 .i64 (9 + (n : Int)) (9 + (n : Int)) (9 + n) rfl rfl (by omega) (by omega) (by rw [hz2.out]; omega) (by unfold maxLen; omega) (Nat.le_refl _) ?_))
  intro w1 ho hg
  have hh := zeros_hold ho
  have hb1 := (Below.refl w.heap.size w).grown hg (Nat.le_refl _) (fun k h => by cases h)
  clear ho hg
  generalize hk : (kind % 256).toNat = k
  have hk1 : kind % 256 = (k : Int) := by omega
  have hk2 : k < 256 := by omega
  have hc := hh.cell 8 (by simp; omega)
  have hf : w1.frozen? ⟨w.heap.size, 8, none⟩ = false := frozen_of_row w1 _ 8 _ 5 hh
  have hh2 := hh.set 8 k
  have hb2 := hb1.setCell (p := ⟨w.heap.size, 8, none⟩) (Nat.le_refl _) (.int .u8 (k : Int))
  have hc' := Lib.hid hc
  clear hc
  obtain ⟨v8, hc⟩ : ∃ v, w1.cell? ⟨w.heap.size, 8, none⟩ = some v := ⟨_, hc'.out⟩
  clear hc'
  rw [← hk1] at hh2 hb2
  have hr1 : Row (w1.setCell ⟨w.heap.size, 8, none⟩ (.int .u8 (kind % 256))) a p := hr.out.below hb2
  replace hr1 := Lib.hid hr1
  replace hh := Lib.hid hh
  replace hb1 := Lib.hid hb1
  replace hh2 := Lib.hid hh2
  replace hb2 := Lib.hid hb2
  replace hk := Lib.hid hk
  replace hk1 := Lib.hid hk1
  go_wp2_with (refine wpList_copy_splice rfl (.tmp 19) (.tmp 20) 22 22 rfl 5 Try.underlying22 (by kernel_rfl) _ _ _ _ _ _ rfl rfl w.heap.size 9 (u8s ((List.replicate (9 + n) 0).set 8 k)) 5 hh2.out (u8s p) ?c1 ?c2 ?c3 (u8s_one p) w.heap.size w hb2.out (Nat.le_refl _) ?_)
  case c1 => rw [u8s_len, hn.out]; simp
  case c2 =>
    intro h0
    rcases hr1.out.2.2 with h | ⟨b, off, ha, hcs⟩
    · rw [h] at h0; simp [u8s] at h0
    · exact ⟨_, ha, fun j v hj => hr1.out.news ha j v hj⟩
  case c3 => rw [u8s_len, u8s_len, hn.out]; simp
  intro w2 hx hb3
  have hx1 : Holds w2 w.heap.size ([0, 0, 0, 0, 0, 0, 0, 0] ++ k :: p) := by
    have := hx.out
    rw [(seal_lists n k (CM.more 0 (k :: p)) p hn.out rfl).1] at this
    exact this
  have hlen : ([0, 0, 0, 0, 0, 0, 0, 0] ++ k :: p).length = 9 + n := by simp [hn.out]; omega
  have P1 := Lib.hid (put_walk w2 w.heap.size (9 + n) (9 + n) 0 n _ hx1 hlen (by omega) (by omega) (by omega))
  clear hx hx1 hlen
  replace hb3 := Lib.hid hb3
  go_wp2_with fail
  refine P1.out.mono ?_
  rintro e w3 ⟨rfl, hx3, o3⟩
  rw [(seal_lists n k (CM.more 0 (k :: p)) p hn.out rfl).2.1] at hx3
  have hb4 := hb3.out.trans (o3.below (Nat.le_refl _))
  have hall : ∀ c ∈ (be4 n ++ ([0, 0, 0, 0] ++ k :: p)), c < 256 := by
    intro c hc
    simp only [be4, List.mem_append, List.mem_cons, List.not_mem_nil, or_false] at hc
    rcases hc with (rfl | rfl | rfl | rfl) | (rfl | rfl | rfl | rfl) | rfl | hc
    all_goals first | omega | exact hr.out.1 c hc
  have hlen : (be4 n ++ ([0, 0, 0, 0] ++ k :: p)).length = 9 + n := by simp [be4, hn.out]; omega
  have hrow := hx3.row hall (by omega) 8
  rw [(seal_lists n k (CM.more 0 (k :: p)) p hn.out rfl).2.2.2] at hrow
  have S2 := Lib.hid (sum _ (k :: p) (9 + n - 8) (9 + n - 8) w3 hrow (by rw [List.length_cons, hn.out]; omega))
  replace hb4 := Lib.hid hb4
  replace hx3 := Lib.hid hx3
  replace hlen := Lib.hid hlen
  clear hrow o3 hall
  go_wp2_with fail
  refine S2.out.mono ?_
  rintro e w4 ⟨rfl, b5⟩
  have hx4 := hx3.out.below b5
  have hb5 := hb4.out.trans (b5.mono hb4.out.size)
  have hq : CM.more 0 (k :: p) < 4294967296 := flip_lt _ (run_lt _ _ (flip_lt 0 (by decide)) (by
    intro c hc
    rcases List.mem_cons.1 hc with rfl | hc
    · exact hk2
    · exact hr.out.1 c hc))
  have P2 := Lib.hid (put_walk w4 w.heap.size (9 + n) (9 + n) 4 (CM.more 0 (k :: p)) _ hx4 hlen.out (by omega) (by omega) hq)
  rw [(seal_lists n k (CM.more 0 (k :: p)) p hn.out rfl).2.2.1] at P2
  replace hb5 := Lib.hid hb5
  clear b5 hx4 hq
  generalize CM.more 0 (k :: p) = q at *
  go_wp2_with fail
  refine P2.out.mono ?_
  rintro e w5 ⟨rfl, hx5, o5⟩
  have hfin : GivesP w (sealB k p) (.returned (.slice (some ⟨w.heap.size, 0, none⟩) (9 + n) (9 + n))) w5 := by
    have e1 := seal_len k p hk2 hr.out.1
    have hL : (sealB k p).length = 9 + n := by rw [e1.1, hn.out]
    refine ⟨_, 9 + n, by rw [hL], ?_, hb5.out.trans (o5.below (Nat.le_refl _)), (fun h => by cases h), by omega, by omega⟩
    have := hx5.row e1.2 (by omega) 0
    rw [List.drop_zero] at this
    exact this
  replace hfin := Lib.hid hfin
  clear hx5 o5
  go_wp2_with fail
  go_ret
  rw [hk.out]
  exact hfin.out
theorem seal_zero (kind : Int) (a : Option Addr) (cap : Nat) (w : World) :
    Calls Try.prog 7 #[.int .i64 kind, .slice a 0 cap] w (GivesP w (sealB (kind % 256).toNat [])) := by
  have S := fun w => size 0 w
  have e : sizeF 0 = 9 := rfl
  rw [e] at S
  replace S := Lib.hid S
  clear e
  obtain ⟨i0, hi, hz0, hz1, hz2⟩ := info_parts (show (Try.prog.info? 5).map (fun i => (i.zero, i.size, i.bytes)) = some (some (.int .u8 0), 1, 1) by kernel_rfl)
  replace hi := Lib.hid hi
  replace hz0 := Lib.hid hz0
  replace hz1 := Lib.hid hz1
  replace hz2 := Lib.hid hz2
  go_enter Try.func7, Try.ntmps7
  go_wp2_with (first | (go_at_call 9; refine (S.out _).mono ?_; rintro e w' ⟨rfl, rfl⟩) | (at_make; refine wpList_make_full w rfl (.tmp 12) (.tmp 12) 22 rfl w.heap.size 5 i0 (.int .u8 0) 1 Try.underlying22 hi.out hz0.out hz1.out .i64 .i64 9 9 9 rfl rfl rfl rfl (by rw [hz2.out]; omega) (by unfold maxLen; omega) (Nat.le_refl _) ?_))
  intro w1 ho hg
  have hh := zeros_hold ho
  have hb1 := (Below.refl w.heap.size w).grown hg (Nat.le_refl _) (fun k h => by cases h)
  clear ho hg
  generalize hk : (kind % 256).toNat = k
  have hk1 : kind % 256 = (k : Int) := by omega
  have hk2 : k < 256 := by omega
  have hc := hh.cell 8 (by simp)
  have hf : w1.frozen? ⟨w.heap.size, 8, none⟩ = false := frozen_of_row w1 _ 8 _ 5 hh
  have hh2 := hh.set 8 k
  have hb2 := hb1.setCell (p := ⟨w.heap.size, 8, none⟩) (Nat.le_refl _) (.int .u8 (k : Int))
  have hc' := Lib.hid hc
  clear hc
  obtain ⟨v8, hc⟩ : ∃ v, w1.cell? ⟨w.heap.size, 8, none⟩ = some v := ⟨_, hc'.out⟩
  clear hc'
  rw [← hk1] at hh2 hb2
  replace hh := Lib.hid hh
  replace hb1 := Lib.hid hb1
  replace hh2 := Lib.hid hh2
  replace hb2 := Lib.hid hb2
  replace hk := Lib.hid hk
  replace hk1 := Lib.hid hk1
  go_wp2_with (refine wpList_copy_splice rfl (.tmp 19) (.tmp 20) 22 22 rfl 5 Try.underlying22 (by kernel_rfl) _ _ _ _ _ _ rfl rfl w.heap.size 9 (u8s ((List.replicate 9 0).set 8 k)) 5 hh2.out (u8s []) ?c1 ?c2 ?c3 (u8s_one []) w.heap.size w hb2.out (Nat.le_refl _) ?_)
  case c1 => rfl
  case c2 => intro h0; simp [u8s] at h0
  case c3 => simp [u8s]
  intro w2 hx hb3
  have hx1 : Holds w2 w.heap.size ([0, 0, 0, 0, 0, 0, 0, 0] ++ [k]) := hx.out
  have P1 := Lib.hid (put_walk w2 w.heap.size 9 9 0 0 _ hx1 rfl (by omega) (by omega) (by omega))
  clear hx hx1
  replace hb3 := Lib.hid hb3
  go_wp2_with fail
  refine P1.out.mono ?_
  rintro e w3 ⟨rfl, hx3, o3⟩
  have hx3' : Holds w3 w.heap.size (be4 0 ++ ([0, 0, 0, 0] ++ [k])) := hx3
  have hb4 := hb3.out.trans (o3.below (Nat.le_refl _))
  have hall : ∀ c ∈ (be4 0 ++ ([0, 0, 0, 0] ++ [k])), c < 256 := by
    intro c hc
    simp only [be4, List.mem_append, List.mem_cons, List.not_mem_nil, or_false] at hc
    omega
  have hrow : Row w3 (some ⟨w.heap.size, 8, none⟩) [k] := hx3'.row hall (by simp [be4]) 8
  have S2 := Lib.hid (sum _ [k] 1 1 w3 hrow rfl)
  replace hb4 := Lib.hid hb4
  replace hx3' := Lib.hid hx3'
  clear hrow o3 hall hx3
  go_wp2_with fail
  refine S2.out.mono ?_
  rintro e w4 ⟨rfl, b5⟩
  have hx4 := hx3'.out.below b5
  have hb5 := hb4.out.trans (b5.mono hb4.out.size)
  have hq : CM.more 0 [k] < 4294967296 := flip_lt _ (run_lt _ _ (flip_lt 0 (by decide)) (by
    intro c hc
    rw [List.mem_singleton.1 hc]; exact hk2))
  have P2 := Lib.hid (put_walk w4 w.heap.size 9 9 4 (CM.more 0 [k]) _ hx4 rfl (by omega) (by omega) hq)
  rw [(seal_lists 0 k (CM.more 0 [k]) [] rfl rfl).2.2.1] at P2
  replace hb5 := Lib.hid hb5
  clear b5 hx4 hq
  generalize CM.more 0 [k] = q at *
  go_wp2_with fail
  refine P2.out.mono ?_
  rintro e w5 ⟨rfl, hx5, o5⟩
  have hfin : GivesP w (sealB k []) (.returned (.slice (some ⟨w.heap.size, 0, none⟩) 9 9)) w5 := by
    have e1 := seal_len k [] hk2 (fun c hc => (by cases hc))
    have hL : (sealB k []).length = 9 := e1.1
    refine ⟨_, 9, by rw [hL], ?_, hb5.out.trans (o5.below (Nat.le_refl _)), (fun h => by cases h), by omega, by omega⟩
    have := hx5.row e1.2 (by omega) 0
    rw [List.drop_zero] at this
    exact this
  replace hfin := Lib.hid hfin
  clear hx5 o5
  go_wp2_with fail
  go_ret
  rw [hk.out]
  exact hfin.out
theorem seal_any (kind : Int) (a : Option Addr) (p : List Nat) (cap n : Nat) (w : World) (hr : Row w a p) (hn : p.length = n) (hb : n ≤ 140737488351232) (hnil : a = none → cap = 0) (hcap : n ≤ cap) :
    Calls Try.prog 7 #[.int .i64 kind, .slice a n cap] w (GivesP w (sealL (kind % 256).toNat p)) := by
  unfold sealL
  by_cases h : 1048576 < p.length
  · rw [if_pos h]
    refine (seal_long kind a p cap n w hn hb (by omega)).mono ?_
    rintro e w' ⟨rfl, rfl⟩
    exact ⟨none, 0, rfl, ⟨fun c hc => (by cases hc), by simp, .inl rfl⟩, Below.refl _ _, fun _ => ⟨rfl, rfl⟩, Nat.le_refl _, by decide⟩
  · rw [if_neg h]
    by_cases h0 : n = 0
    · subst h0
      rw [List.length_eq_zero_iff.1 hn]
      exact seal_zero kind a cap w
    · exact seal_pos kind a p cap n w hr hn (by omega) hnil hcap h0
end Go.Proofs.Ytmmpcpdokgahcaa
