/- usherref30's named, Updates, Queries. -/
import Derived.Test.YtncmjkaclfcbmaaAskC
import Derived.Test.YtncmjkaclfcbmaaBox
set_option linter.unusedVariables false
set_option linter.unusedSimpArgs false
namespace Go.Proofs.Ytncmjkaclfcbmaa
open Go.RowKit

def nameB (l : List KT) (z : ByteArray) : Bool := l.any fun k => k.name.toList == z.toList
theorem named_seen' (flow : ByteArray) (run : Int) (z : ByteArray) : ∀ (l pre : List WT), (seenB flow run pre z || nameB (askG (updP flow run) pre l) z) = seenB flow run (pre ++ l) z
  | [], pre => by simp [askG, nameB]
  | x :: r, pre => by
    have ih := named_seen' flow run z r (pre ++ [x])
    rw [List.append_assoc, List.singleton_append] at ih
    rw [← ih, seen_snoc]
    simp only [askG]
    have e : nameB ((if updP flow run pre x then [askOf x] else []) ++ askG (updP flow run) (pre ++ [x]) r) z = (nameB (if updP flow run pre x then [askOf x] else []) z || nameB (askG (updP flow run) (pre ++ [x]) r) z) := by unfold nameB; rw [List.any_append]
    rw [e, ← Bool.or_assoc]
    congr 1
    cases hu : upB flow run x with
    | false => rw [if_neg (by unfold updP; rw [hu]; simp)]; simp [nameB]
    | true =>
      cases hs : seenB flow run pre x.name with
      | false => rw [if_pos (by unfold updP; rw [hu, hs]; rfl)]; simp [askOf, nameB]
      | true =>
        rw [if_neg (by unfold updP; rw [hu, hs]; simp)]
        cases hz : (x.name.toList == z.toList) with
        | false => simp [nameB]
        | true => rw [seen_name hz] at hs; rw [hs]; rfl
theorem named_seen (flow : ByteArray) (run : Int) (z : ByteArray) (l : List WT) : nameB (askG (updP flow run) [] l) z = seenB flow run l z := by
  have h := named_seen' flow run z l []
  simpa [seenB] using h
theorem named (a : Option Addr) (n cap : Nat) (l : List KT) (z : ByteArray) (w : World) (hs : Sl 7 (KAt (Live w) w) (Live w) w a l) (hn : l.length = n) (h9 : n ≤ 1000000) :
    Calls Try.prog 44 #[.slice a n cap, .string z] w fun e w' => e = .returned (.bool (nameB l z)) ∧ w = w' := by
  replace hs := Lib.hid hs
  replace hn := Lib.hid hn
  go_enter Try.func44, Try.ntmps44
  go_wp2_with fail
  go_loopw [5] (fun i wr => ∃ j : Nat, j ≤ n ∧ i = .int .i64 (j : Int) ∧ nameB (l.take j) z = false ∧ wr = w) (fun i _ => n - (intOf i).toNat)
  case atStart => exact ⟨0, Nat.zero_le _, rfl, rfl, rfl⟩
  case round =>
    obtain ⟨j, hj, rfl, hno, rfl⟩ := hrel
    by_cases hlt : j < n
    · obtain ⟨x, hx⟩ : ∃ x, l[j]? = some x := ⟨_, List.getElem?_eq_getElem (by rw [hn.out]; exact hlt)⟩
      obtain ⟨g, off, cs, rfl, hg, hcl, hct, hcr⟩ := hs.out.get j x hx
      obtain ⟨A, rfl, hA⟩ := hct
      have q1 := hcr 1 _ rfl
      have b1 : (0 : Int) ≤ (j : Int) := by omega
      have b2 : (j : Int) < (n : Int) := by omega
      have hst : nameB (l.take (j + 1)) z = (nameB (l.take j) z || (x.name.toList == z.toList)) := by
        unfold nameB; rw [List.take_add_one, hx, Option.toList_some, List.any_append]; simp
      rw [hno, Bool.false_or] at hst
      have hsub : nameB (l.take (j + 1)) z = true → nameB l z = true := by
        unfold nameB; intro h
        obtain ⟨y, hy, hz⟩ := List.any_eq_true.1 h
        exact List.any_eq_true.2 ⟨y, List.mem_of_mem_take hy, hz⟩
      replace hno := Lib.hid hno
      replace hx := Lib.hid hx
      replace hsub := Lib.hid hsub
      clear hcr hA hcl
      cases hz : (x.name.toList == z.toList) with
      | false =>
        rw [hz] at hst
        replace hst := Lib.hid hst
        go_wp2_with fail
        go_roundw
        case rel => exact ⟨j + 1, by omega, by go_num, hst.out, trivial⟩
        case measure => simp [intOf]; omega
      | true =>
        rw [hz] at hst
        have hall := Lib.hid (hsub.out hst)
        replace hst := Lib.hid hst
        go_wp2_with fail
        go_ret
        exact ⟨by rw [hall.out]; rfl, rfl⟩
    · obtain rfl : j = n := by omega
      have hlj : l.take j = l := List.take_of_length_le (by rw [hn.out]; exact Nat.le_refl _)
      rw [hlj] at hno
      replace hno := Lib.hid hno
      clear hlj
      go_wp2_with fail
      go_ret
      exact ⟨by rw [hno.out]; rfl, rfl⟩
theorem BoxP.asks {W w7 : World} {b : Nat} {y : WT} {cs : List Value} (h : BoxP W b y w7 cs) {B : Nat} {v : Value} {l : List KT} (ho : Out KAt 7 67 B W v l) (hB : B ≤ W.heap.size) :
    ∃ (v0 v1 v2 : Int) (v3 : ByteArray) (v4 : Option Addr) (v5 v6 : Nat), w7.rangeAt b 6 [.int .i64 v0, .int .i64 v1, .int .u64 v2, .string v3, .slice v4 v5 v6] ∧
      Out KAt 7 67 B (w7.alloc (.cells #[.int .i64 y.op, .string y.name, .int .i64 v0, .int .i64 v1, .int .u64 v2, .string v3, .slice v4 v5 v6] 67)) v l ∧ KAt (BoxS W b w7) (w7.alloc (.cells #[.int .i64 y.op, .string y.name, .int .i64 v0, .int .i64 v1, .int .u64 v2, .string v3, .slice v4 v5 v6] 67)) (askOf y) ([.int .i64 y.op, .string y.name, .int .i64 v0, .int .i64 v1, .int .u64 v2, .string v3, .slice v4 v5 v6] : List Value) ∧ (w7.alloc (.cells #[.int .i64 y.op, .string y.name, .int .i64 v0, .int .i64 v1, .int .u64 v2, .string v3, .slice v4 v5 v6] 67)).rangeAt w7.heap.size 0 ([.int .i64 y.op, .string y.name, .int .i64 v0, .int .i64 v1, .int .u64 v2, .string v3, .slice v4 v5 v6] : List Value) ∧ (∀ u ∈ ([.int .i64 y.op, .string y.name, .int .i64 v0, .int .i64 v1, .int .u64 v2, .string v3, .slice v4 v5 v6] : List Value), u.oneCell' = true) ∧
      (∀ q, BoxS W b w7 q → B ≤ q ∧ q < (w7.alloc (.cells #[.int .i64 y.op, .string y.name, .int .i64 v0, .int .i64 v1, .int .u64 v2, .string v3, .slice v4 v5 v6] 67)).heap.size ∧ v.ownBlock ≠ some q) ∧ B ≤ (w7.alloc (.cells #[.int .i64 y.op, .string y.name, .int .i64 v0, .int .i64 v1, .int .u64 v2, .string v3, .slice v4 v5 v6] 67)).heap.size ∧ Below W.heap.size W (w7.alloc (.cells #[.int .i64 y.op, .string y.name, .int .i64 v0, .int .i64 v1, .int .u64 v2, .string v3, .slice v4 v5 v6] 67)) ∧ w7.cell? ⟨b, 0, none⟩ = some (.int .i64 y.op) ∧ w7.cell? ⟨b, 5, none⟩ = some (.string y.name) := by
  have hcc := h.2.1.cells
  have c0 := box_cell h.1 0 (.int .i64 y.op) (by have := hcc.1; simpa using this)
  have c5 := box_cell h.1 5 (.string y.name) (by have := hcc.2.2.2.2.2.1; simpa using this)
  obtain ⟨h1, h2, h3, h4⟩ := h
  obtain ⟨A, hA, hAl, hAc⟩ := h2.ask
  obtain ⟨v0, v1, v2, v3, v4, v5, v6, rfl⟩ := hA.shape
  have hA1 : Below w7.heap.size w7 (w7.alloc (.cells #[.int .i64 y.op, .string y.name, .int .i64 v0, .int .i64 v1, .int .u64 v2, .string v3, .slice v4 v5 v6] 67)) := (Below.refl _ _).alloc (Nat.le_refl _) _
  have h8 := h3.trans (hA1.mono h3.size)
  refine ⟨v0, v1, v2, v3, v4, v5, v6, fun j u hu => box_cell h1 (6 + j) u (by simpa using hAc j u hu), ho.below carried_k h8, ⟨_, rfl, VAt.change (fun q hq => hq) (fun q hq => hA1.block q hq.2.1) _ _ hA⟩, range_new w7 ([.int .i64 y.op, .string y.name, .int .i64 v0, .int .i64 v1, .int .u64 v2, .string v3, .slice v4 v5 v6] : List Value) 67, ?_, fun q hq => ⟨Nat.le_trans hB hq.1, by have := hq.2.1; simp; omega, fun e => ?_⟩, Nat.le_trans hB h8.size, h8, c0, c5⟩
  · intro u hu
    simp only [List.mem_cons, List.not_mem_nil, or_false] at hu
    rcases hu with rfl | rfl | rfl | rfl | rfl | rfl | rfl <;> rfl
  · obtain ⟨xs, o1, _⟩ := ho
    have := (own_from o1 q e).2
    have := hq.1
    omega
set_option maxHeartbeats 3200000 in
theorem rqueries (a : Option Addr) (n cap : Nat) (ws : List WT) (flow : ByteArray) (run : Int) (w : World) (hs : Sl 19 (WAt (Live w) w) (Live w) w a ws) (hn : ws.length = n) (hc : n ≤ cap) (h9 : n ≤ 1000000) :
    Calls Try.prog 21 #[.slice a n cap, .string flow, .int .i64 run] w (KListP w (queL flow run ws)) := by
  unfold queL
  obtain ⟨i0, hi, hz0, hz1, hz2⟩ := k_info
  replace hs := Lib.hid hs
  replace hn := Lib.hid hn
  replace hi := Lib.hid hi
  replace hz0 := Lib.hid hz0
  replace hz1 := Lib.hid hz1
  replace hz2 := Lib.hid hz2
  go_enter Try.func21, Try.ntmps21
  go_wp2_with fail
  go_loopw [7, 8] (fun v i wr => ∃ j : Nat, j ≤ n ∧ i = .int .i64 (j : Int) ∧ Out KAt 7 67 w.heap.size wr v (askG (fun _ x => quB flow run x) [] (ws.take j)) ∧ Below w.heap.size w wr) (fun _ i _ => n - (intOf i).toNat)
  case atStart => exact ⟨0, Nat.zero_le _, rfl, Out.nil _ _ _ _ _, Below.refl _ _⟩
  case round =>
    obtain ⟨j, hj, rfl, ho, hbr⟩ := hrel
    by_cases hlt : j < n
    · obtain ⟨x, hx⟩ : ∃ x, ws[j]? = some x := ⟨_, List.getElem?_eq_getElem (by rw [hn.out]; exact hlt)⟩
      obtain ⟨g, off, cs, rfl, hg, hcl, hct, hcr⟩ := hs.out.get j x hx
      have hcr' : wr.rangeAt g (off + j * 19) cs := range_keep hcr (hbr.block _ hg)
      have hct' := hct.below hbr
      have htk : ws.take (j + 1) = ws.take j ++ [x] := by rw [List.take_add_one, hx, Option.toList_some]
      have hstep := askG_snoc (fun _ x => quB flow run x) x (ws.take j) []
      rw [← htk] at hstep
      try rw [List.nil_append] at hstep
      have hlen : (askG (fun _ x => quB flow run x) [] (ws.take j)).length ≤ n := Nat.le_trans (askG_len _ _ _) (by rw [List.length_take]; omega)
      have hnm : nameB (askG (updP flow run) [] (ws.take j)) x.name = seenB flow run (ws.take j) x.name := named_seen _ _ _ _
      have hsz0 : w.heap.size ≤ wr.heap.size := hbr.size
      have J := Lib.hid (rown x cs wr hct')
      replace hcr := Lib.hid hcr
      replace hct := Lib.hid hct
      replace hx := Lib.hid hx
      replace ho := Lib.hid ho
      replace hbr := Lib.hid hbr
      replace hcr' := Lib.hid hcr'
      replace hct' := Lib.hid hct'
      replace hcl := Lib.hid hcl
      replace htk := Lib.hid htk
      replace hstep := Lib.hid hstep
      replace hnm := Lib.hid hnm
      go_upto_region 6 with (with_reducible refine wpList_load_mid rfl 31 (.tmp 18) rfl g (off + j * 19) rfl cs _ hcr'.out Try.underlying31 rfl (w_size hcl.out) ?_)
      refine J.out.mono ?_
      rintro e w1 ⟨cs1, rfl, hv1, hb1⟩
      have hcl1 := Lib.hid hv1.len
      have hone1 := Lib.hid (all_one hv1.one)
      have hlo1 : cs1.toArray.size = 19 := by simp [hcl1.out]
      have hz := Lib.hid (heap_alloc_new w1 (.cells Z19 31))
      unfold Z19 at hz
      have hX := Lib.hid (BoxP.new hv1 hb1)
      clear hv1 hb1 J
      go_upto_region 6 with (with_reducible refine wpList_store_row rfl 31 (.tmp 9) (.tmp 20) rfl w1.heap.size cs1.toArray rfl rfl 31 _ hz.out (w_size' hcl1.out) (by simp [hcl1.out]) hone1.out ?_; rw [alloc_setRow])
      go_frame
      clear hz
      generalize w1.alloc (.cells cs1.toArray 31) = w2 at *
      generalize w1.heap.size = b at *
      have O := Lib.hid (of_query flow run _ x cs1 w2 hX.out.live)
      have hX2 := hX.out.1
      cases hp : quB flow run x with
      | false =>
        rw [hp] at O
        replace hp := Lib.hid hp
        have hs2 : askG (fun _ x => quB flow run x) [] (ws.take (j + 1)) = askG (fun _ x => quB flow run x) [] (ws.take j) := by rw [hstep.out, if_neg (by rw [hp.out]; simp)]; simp
        replace hs2 := Lib.hid hs2
        go_wp2_with (with_reducible refine wpList_load_row rfl 31 (.tmp 9) rfl b rfl 31 cs1.toArray (0, 0) _ hX2 Try.underlying31 rfl (w_size' hcl1.out) ?_)
        refine O.out.mono ?_
        rintro e w3 ⟨rfl, hb3⟩
        have hX3 := Lib.hid (hX.out.below hb3)
        clear hb3 O hX2
        have hb7 := Lib.hid (hbr.out.trans (hX3.out.2.2.1.mono hsz0))
        have ho7 := Lib.hid (ho.out.below carried_k hX3.out.2.2.1)
        go_wp2_with fail
        go_roundw
        case rel => exact ⟨j + 1, by omega, by go_num, by rw [hs2.out]; exact ho7.out, hb7.out⟩
        case measure => simp [intOf]; omega
      | true =>
        rw [hp] at O
        replace hp := Lib.hid hp
        go_wp2_with (with_reducible refine wpList_load_row rfl 31 (.tmp 9) rfl b rfl 31 cs1.toArray (0, 0) _ hX2 Try.underlying31 rfl (w_size' hcl1.out) ?_)
        refine O.out.mono ?_
        rintro e w3 ⟨rfl, hb3⟩
        have hX3 := Lib.hid (hX.out.below hb3)
        clear hb3 O hX2
        have hs2 : askG (fun _ x => quB flow run x) [] (ws.take (j + 1)) = askG (fun _ x => quB flow run x) [] (ws.take j) ++ [askOf x] := by rw [hstep.out, if_pos (by rw [hp.out])]
        replace hs2 := Lib.hid hs2
        obtain ⟨v0, v1, v2, v3, v4, v5, v6, r1, t2, t5, t3, t4, t6, t8, t9, q0, q5⟩ := hX3.out.asks ho.out hbr.out.size
        have hb9 := Lib.hid (hbr.out.trans (t9.mono hsz0))
        replace r1 := Lib.hid r1
        replace t2 := Lib.hid t2
        replace t3 := Lib.hid t3
        replace t4 := Lib.hid t4
        replace t5 := Lib.hid t5
        replace t6 := Lib.hid t6
        clear t9
        go_wp2_with (first | (with_reducible refine wpList_load_mid rfl 29 (.tmp 30) rfl b 6 rfl _ _ r1.out Try.underlying29 rfl (v_size rfl) ?_) | (at_builtin; refine wpList_push carried_k rfl (.tmp 25) (.tmp 33) 39 rfl w.heap.size 67 i0 _ 7 88 Try.underlying39 hi.out hz0.out hz1.out hz2.out rfl (by decide) u7 _ rfl t2.out w3.heap.size 1 (askOf x) _ _ rfl rfl t5.out t6.out t3.out t4.out ?c2 ?c3 ?c4 ?_))
        case c2 => (try have e := hLL.out); unfold maxLen; omega
        case c3 => (try have e := hLL.out); omega
        case c4 => simpa using t8
        intro v' w9 ho9 _ hb10
        rw [← hs2.out] at ho9
        have k2 := Lib.hid (hb9.out.trans hb10)
        replace ho9 := Lib.hid ho9
        clear hb10
        go_wp2_with fail
        go_roundw
        case rel => exact ⟨j + 1, by omega, by go_num, ho9.out, k2.out⟩
        case measure => simp [intOf]; omega
    · obtain rfl : j = n := by omega
      have hlj : ws.take j = ws := List.take_of_length_le (by rw [hn.out]; exact Nat.le_refl _)
      rw [hlj] at ho
      replace ho := Lib.hid ho
      replace hbr := Lib.hid hbr
      clear hlj
      go_wp2_with fail
      go_ret
      exact ⟨_, rfl, ho.out, hbr.out⟩
set_option maxHeartbeats 3200000 in
theorem rupdates (a : Option Addr) (n cap : Nat) (ws : List WT) (flow : ByteArray) (run : Int) (w : World) (hs : Sl 19 (WAt (Live w) w) (Live w) w a ws) (hn : ws.length = n) (hc : n ≤ cap) (h9 : n ≤ 1000000) :
    Calls Try.prog 19 #[.slice a n cap, .string flow, .int .i64 run] w (KListP w (updL flow run ws)) := by
  unfold updL
  obtain ⟨i0, hi, hz0, hz1, hz2⟩ := k_info
  replace hs := Lib.hid hs
  replace hn := Lib.hid hn
  replace hi := Lib.hid hi
  replace hz0 := Lib.hid hz0
  replace hz1 := Lib.hid hz1
  replace hz2 := Lib.hid hz2
  go_enter Try.func19, Try.ntmps19
  go_wp2_with fail
  go_loopw [7, 8] (fun v i wr => ∃ j : Nat, j ≤ n ∧ i = .int .i64 (j : Int) ∧ Out KAt 7 67 w.heap.size wr v (askG (updP flow run) [] (ws.take j)) ∧ Below w.heap.size w wr) (fun _ i _ => n - (intOf i).toNat)
  case atStart => exact ⟨0, Nat.zero_le _, rfl, Out.nil _ _ _ _ _, Below.refl _ _⟩
  case round =>
    obtain ⟨j, hj, rfl, ho, hbr⟩ := hrel
    by_cases hlt : j < n
    · obtain ⟨x, hx⟩ : ∃ x, ws[j]? = some x := ⟨_, List.getElem?_eq_getElem (by rw [hn.out]; exact hlt)⟩
      obtain ⟨g, off, cs, rfl, hg, hcl, hct, hcr⟩ := hs.out.get j x hx
      have hcr' : wr.rangeAt g (off + j * 19) cs := range_keep hcr (hbr.block _ hg)
      have hct' := hct.below hbr
      have htk : ws.take (j + 1) = ws.take j ++ [x] := by rw [List.take_add_one, hx, Option.toList_some]
      have hstep := askG_snoc (updP flow run) x (ws.take j) []
      rw [← htk] at hstep
      try rw [List.nil_append] at hstep
      have hlen : (askG (updP flow run) [] (ws.take j)).length ≤ n := Nat.le_trans (askG_len _ _ _) (by rw [List.length_take]; omega)
      have hnm : nameB (askG (updP flow run) [] (ws.take j)) x.name = seenB flow run (ws.take j) x.name := named_seen _ _ _ _
      have hsz0 : w.heap.size ≤ wr.heap.size := hbr.size
      have J := Lib.hid (rown x cs wr hct')
      replace hcr := Lib.hid hcr
      replace hct := Lib.hid hct
      replace hx := Lib.hid hx
      replace ho := Lib.hid ho
      replace hbr := Lib.hid hbr
      replace hcr' := Lib.hid hcr'
      replace hct' := Lib.hid hct'
      replace hcl := Lib.hid hcl
      replace htk := Lib.hid htk
      replace hstep := Lib.hid hstep
      replace hnm := Lib.hid hnm
      go_upto_region 6 with (with_reducible refine wpList_load_mid rfl 31 (.tmp 18) rfl g (off + j * 19) rfl cs _ hcr'.out Try.underlying31 rfl (w_size hcl.out) ?_)
      refine J.out.mono ?_
      rintro e w1 ⟨cs1, rfl, hv1, hb1⟩
      have hcl1 := Lib.hid hv1.len
      have hone1 := Lib.hid (all_one hv1.one)
      have hlo1 : cs1.toArray.size = 19 := by simp [hcl1.out]
      have hz := Lib.hid (heap_alloc_new w1 (.cells Z19 31))
      unfold Z19 at hz
      have hX := Lib.hid (BoxP.new hv1 hb1)
      clear hv1 hb1 J
      go_upto_region 6 with (with_reducible refine wpList_store_row rfl 31 (.tmp 9) (.tmp 20) rfl w1.heap.size cs1.toArray rfl rfl 31 _ hz.out (w_size' hcl1.out) (by simp [hcl1.out]) hone1.out ?_; rw [alloc_setRow])
      go_frame
      clear hz
      generalize w1.alloc (.cells cs1.toArray 31) = w2 at *
      generalize w1.heap.size = b at *
      have O := Lib.hid (of_update flow run _ x cs1 w2 hX.out.live)
      have hX2 := hX.out.1
      cases hp : upB flow run x with
      | false =>
        rw [hp] at O
        replace hp := Lib.hid hp
        have hs2 : askG (updP flow run) [] (ws.take (j + 1)) = askG (updP flow run) [] (ws.take j) := by rw [hstep.out, if_neg (by unfold updP; rw [hp.out]; simp)]; simp
        replace hs2 := Lib.hid hs2
        go_wp2_with (with_reducible refine wpList_load_row rfl 31 (.tmp 9) rfl b rfl 31 cs1.toArray (0, 0) _ hX2 Try.underlying31 rfl (w_size' hcl1.out) ?_)
        refine O.out.mono ?_
        rintro e w3 ⟨rfl, hb3⟩
        have hX3 := Lib.hid (hX.out.below hb3)
        clear hb3 O hX2
        have hb7 := Lib.hid (hbr.out.trans (hX3.out.2.2.1.mono hsz0))
        have ho7 := Lib.hid (ho.out.below carried_k hX3.out.2.2.1)
        go_wp2_with fail
        go_roundw
        case rel => exact ⟨j + 1, by omega, by go_num, by rw [hs2.out]; exact ho7.out, hb7.out⟩
        case measure => simp [intOf]; omega
      | true =>
        rw [hp] at O
        replace hp := Lib.hid hp
        go_wp2_with (with_reducible refine wpList_load_row rfl 31 (.tmp 9) rfl b rfl 31 cs1.toArray (0, 0) _ hX2 Try.underlying31 rfl (w_size' hcl1.out) ?_)
        refine O.out.mono ?_
        rintro e w3 ⟨rfl, hb3⟩
        have hX3 := Lib.hid (hX.out.below hb3)
        clear hb3 O hX2
        have hoo := ho.out.below carried_k hX3.out.2.2.1
        obtain ⟨ao, co, rfl, o1, o2, o3⟩ := hoo.live carried_k
        have NM := Lib.hid (named ao _ co _ x.name w3 o3 rfl (by omega))
        have q5' : w3.cell? ⟨b, 5, none⟩ = some (.string x.name) := box_cell hX3.out.1 5 _ (by have := hX3.out.2.1.cells.2.2.2.2.2.1; simpa using this)
        clear o3 hoo
        rw [hnm.out] at NM
        generalize hLL : (askG (updP flow run) [] (ws.take j)).length = k at *
        cases hsn : seenB flow run (ws.take j) x.name with
        | true =>
          rw [hsn] at NM
          have hs2 : askG (updP flow run) [] (ws.take (j + 1)) = askG (updP flow run) [] (ws.take j) := by rw [hstep.out, if_neg (by unfold updP; rw [hp.out, hsn]; simp)]; simp
          replace hs2 := Lib.hid hs2
          replace hsn := Lib.hid hsn
          replace hLL := Lib.hid hLL
          go_wp2_with fail
          refine NM.out.mono ?_
          rintro e w4 ⟨rfl, rfl⟩
          have hb7 := Lib.hid (hbr.out.trans (hX3.out.2.2.1.mono hsz0))
          have ho7 := Lib.hid (ho.out.below carried_k hX3.out.2.2.1)
          go_wp2_with fail
          go_roundw
          case rel => exact ⟨j + 1, by omega, by go_num, by rw [hs2.out]; exact ho7.out, hb7.out⟩
          case measure => simp [intOf]; omega
        | false =>
          rw [hsn] at NM
          have hst' : updP flow run (ws.take j) x = true := by unfold updP; rw [hp.out, hsn]; rfl
          replace hst' := Lib.hid hst'
          replace hsn := Lib.hid hsn
          replace hLL := Lib.hid hLL
          go_wp2_with fail
          refine NM.out.mono ?_
          rintro e w4 ⟨rfl, rfl⟩
          clear NM
          have hs2 : askG (updP flow run) [] (ws.take (j + 1)) = askG (updP flow run) [] (ws.take j) ++ [askOf x] := by rw [hstep.out, if_pos (by rw [hst'.out])]
          replace hs2 := Lib.hid hs2
          obtain ⟨v0, v1, v2, v3, v4, v5, v6, r1, t2, t5, t3, t4, t6, t8, t9, q0, q5⟩ := hX3.out.asks ho.out hbr.out.size
          have hb9 := Lib.hid (hbr.out.trans (t9.mono hsz0))
          replace r1 := Lib.hid r1
          replace t2 := Lib.hid t2
          replace t3 := Lib.hid t3
          replace t4 := Lib.hid t4
          replace t5 := Lib.hid t5
          replace t6 := Lib.hid t6
          clear t9
          go_wp2_with (first | (with_reducible refine wpList_load_mid rfl 29 (.tmp 37) rfl b 6 rfl _ _ r1.out Try.underlying29 rfl (v_size rfl) ?_) | (at_builtin; refine wpList_push carried_k rfl (.tmp 32) (.tmp 40) 39 rfl w.heap.size 67 i0 _ 7 88 Try.underlying39 hi.out hz0.out hz1.out hz2.out rfl (by decide) (.slice ao k co) _ rfl t2.out w3.heap.size 1 (askOf x) _ _ rfl rfl t5.out t6.out t3.out t4.out ?c2 ?c3 ?c4 ?_))
          case c2 => (try have e := hLL.out); unfold maxLen; omega
          case c3 => (try have e := hLL.out); omega
          case c4 => simpa using t8
          intro v' w9 ho9 _ hb10
          rw [← hs2.out] at ho9
          have k2 := Lib.hid (hb9.out.trans hb10)
          replace ho9 := Lib.hid ho9
          clear hb10
          go_wp2_with fail
          go_roundw
          case rel => exact ⟨j + 1, by omega, by go_num, ho9.out, k2.out⟩
          case measure => simp [intOf]; omega
    · obtain rfl : j = n := by omega
      have hlj : ws.take j = ws := List.take_of_length_le (by rw [hn.out]; exact Nat.le_refl _)
      rw [hlj] at ho
      replace ho := Lib.hid ho
      replace hbr := Lib.hid hbr
      clear hlj
      go_wp2_with fail
      go_ret
      exact ⟨_, rfl, ho.out, hbr.out⟩
end Go.Proofs.Ytncmjkaclfcbmaa
