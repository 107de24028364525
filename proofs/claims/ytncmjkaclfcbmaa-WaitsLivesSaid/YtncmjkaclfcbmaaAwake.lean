/- waits.Hand; awake. -/
import Derived.Test.YtncmjkaclfcbmaaAnswer
import Derived.Test.YtncmjkaclfcbmaaAdd
import Derived.Test.YtncmjkaclfcbmaaFind
set_option linter.unusedVariables false
namespace Go.Proofs.Ytncmjkaclfcbmaa
open Go.RowKit

def handF (flow : ByteArray) (run who upto : Int) (ws : List WT) : List WT := ws.map fun x => if sesB who && quB flow run x then { x with handed := who + 1, upto := upto } else x
theorem hand (a : Option Addr) (n cap : Nat) (ws : List WT) (flow : ByteArray) (run who upto : Int) (w : World) (hs : Sl 19 (WAt (Live w) w) (Live w) w a ws) (hn : ws.length = n) (hc : n ≤ cap) (h9 : n ≤ 1000000) :
    Calls Try.prog 22 #[.slice a n cap, .string flow, .int .i64 run, .int .i64 who, .int .i64 upto] w (ListP w (handF flow run who upto ws)) := by
  have e0 : ((w.alloc (.cells #[.int .i64 who] 3)).alloc (.cells #[.int .i64 upto] 3)).heap.size = w.heap.size + 2 := by simp
  have e1 : (w.alloc (.cells #[.int .i64 who] 3)).heap.size = w.heap.size + 1 := by simp
  have hX := heap_alloc_new w (.cells #[.int .i64 who] 3)
  have hY := heap_alloc_new (w.alloc (.cells #[.int .i64 who] 3)) (.cells #[.int .i64 upto] 3)
  have hZ := heap_alloc_new ((w.alloc (.cells #[.int .i64 who] 3)).alloc (.cells #[.int .i64 upto] 3)) (.cells #[.string flow, .int .i64 run] 69)
  rw [e1] at hY
  rw [e0] at hZ
  have hX3 : (((w.alloc (.cells #[.int .i64 who] 3)).alloc (.cells #[.int .i64 upto] 3)).alloc (.cells #[.string flow, .int .i64 run] 69)).heap[w.heap.size]? = some (.cells #[.int .i64 who] 3 (0, 0)) := by
    rw [heap_alloc_old _ _ (by simp; omega), heap_alloc_old _ _ (by simp)]; exact hX
  have hY3 : (((w.alloc (.cells #[.int .i64 who] 3)).alloc (.cells #[.int .i64 upto] 3)).alloc (.cells #[.string flow, .int .i64 run] 69)).heap[w.heap.size + 1]? = some (.cells #[.int .i64 upto] 3 (0, 0)) := by
    rw [heap_alloc_old _ _ (by simp)]; exact hY
  have hb : Below w.heap.size w (((w.alloc (.cells #[.int .i64 who] 3)).alloc (.cells #[.int .i64 upto] 3)).alloc (.cells #[.string flow, .int .i64 run] 69)) := (((Below.refl _ _).alloc (Nat.le_refl _) _).alloc (by simp) _).alloc (by simp; omega) _
  clear hX hY e0 e1
  have K : Calls Try.prog 25 #[.slice a n cap, .func (.func 47) #[] #[.pointer (some ⟨w.heap.size, 0, none⟩), .pointer (some ⟨w.heap.size + 2, 0, none⟩)], .func (.func 48) #[] #[.pointer (some ⟨w.heap.size, 0, none⟩), .pointer (some ⟨w.heap.size + 1, 0, none⟩)]] (((w.alloc (.cells #[.int .i64 who] 3)).alloc (.cells #[.int .i64 upto] 3)).alloc (.cells #[.string flow, .int .i64 run] 69)) (ListP (((w.alloc (.cells #[.int .i64 who] 3)).alloc (.cells #[.int .i64 upto] 3)).alloc (.cells #[.string flow, .int .i64 run] 69)) (handF flow run who upto ws)) :=
    turned 47 _ _ 48 _ _ _ (enters (fn := Try.f47) (by kernel_rfl) (by kernel_rfl) rfl) (asks_hand w.heap.size (w.heap.size + 2) who flow run _ hX3 hZ) (enters (fn := Try.f48) (by kernel_rfl) (by kernel_rfl) rfl)
      (turns_hand w.heap.size (w.heap.size + 1) who upto _ (fun x hx => by simp only [Bool.and_eq_true] at hx; exact hx.1) _ hX3 hY3) a n cap ws
      (hs.change (fun b hb' => Nat.lt_of_lt_of_le hb' hb.size) (fun b hb' => hb.block b hb') (fun t _ cs h => h.below hb)) hn hc h9
  replace K := Lib.hid K
  replace hb := Lib.hid hb
  clear hs hn hX3 hY3 hZ
  go_enter Try.func22, Try.ntmps22
  go_wp2_with fail
  refine K.out.mono ?_
  rintro e w2 ⟨v, rfl, hout, hb2⟩
  replace hout := Lib.hid hout
  replace hb2 := Lib.hid hb2
  go_wp2_with fail
  go_ret
  exact ⟨v, rfl, hout.out.mono carried_w (by simp; omega), hb.out.trans (hb2.out.mono (by simp; omega))⟩
/-- what came back, as a slice that is read -/
theorem Out.live {α : Type} {P : (Nat → Prop) → World → α → List Value → Prop} (hP : Carried P) {n : Nat} {e : TypeId} {B : Nat} {w : World} {v : Value} {l : List α} (h : Out P n e B w v l) :
    ∃ a cap, v = .slice a l.length cap ∧ l.length ≤ cap ∧ cap ≤ 9223372036854775807 ∧ Sl n (P (Live w) w) (Live w) w a l := by
  obtain ⟨a, cap, rfl, _, h2, h3, h4⟩ := h.sl hP
  exact ⟨a, cap, rfl, h2, h3, h4.change (fun b hb => hb.2) (fun _ _ => rfl) (fun t _ cs h => hP _ _ _ _ t cs (fun b hb => hb.2) (fun _ _ => rfl) h)⟩
def fA : ByteArray := { data := #[97] }
def x0 : WT := { zeroW with op := 1, run := 1, flow := fA, query := true }
def x1 : WT := { x0 with handed := 3, upto := 5 }
def x2 : WT := { x1 with over := true, value := zeroV }
theorem aw1 : addF x0 [] = [x0] := rfl
theorem aw2 : handF fA 1 2 5 [x0] = [x1] := by
  have : (sesB 2 && quB fA 1 x0) = true := by simp [sesB, quB, x0, zeroW]
  simp only [handF, List.map_cons, List.map_nil, this, if_true]; rfl
theorem aw3 : ansF [⟨1, zeroV⟩] 3 zeroV [x1] = [x1] := by
  have : ansB (firstOf [⟨1, zeroV⟩]) 3 x1 = false := by simp [ansB, firstOf, x1, x0, zeroW]
  simp [ansF, this]
theorem aw4 : ansF [⟨1, zeroV⟩] 2 zeroV [x1] = [x2] := by
  have : ansB (firstOf [⟨1, zeroV⟩]) 2 x1 = true := by simp [ansB, firstOf, x1, x0, zeroW, sesB]
  simp only [ansF, List.map_cons, List.map_nil, this, if_true]; rfl
theorem x0_at (S : Nat → Prop) (w : World) : WAt S w x0 [.int .i64 1, .int .i64 1, .int .i64 0, .int .i64 0, .string { data := #[97] }, .string { data := #[] }, .int .i64 0, .int .i64 0, .int .u64 0, .string { data := #[] }, .slice none 0 0, .int .i64 0, .int .i64 0, .int .u64 0, .string { data := #[] }, .slice none 0 0, .bool true, .bool false, .int .i64 0] :=
  ⟨_, _, rfl, zeroV_at S w, zeroV_at S w⟩
theorem a_at (w : World) : Sl 6 (AAt (Live (w.alloc (.cells #[.int .i64 1, .int .i64 0, .int .i64 0, .int .u64 0, .string { data := #[] }, .slice none 0 0] 52))) (w.alloc (.cells #[.int .i64 1, .int .i64 0, .int .i64 0, .int .u64 0, .string { data := #[] }, .slice none 0 0] 52))) (Live (w.alloc (.cells #[.int .i64 1, .int .i64 0, .int .i64 0, .int .u64 0, .string { data := #[] }, .slice none 0 0] 52))) (w.alloc (.cells #[.int .i64 1, .int .i64 0, .int .i64 0, .int .u64 0, .string { data := #[] }, .slice none 0 0] 52)) (some ⟨w.heap.size, 0, none⟩) [⟨1, zeroV⟩] :=
  ⟨[.int .i64 1, .int .i64 0, .int .i64 0, .int .u64 0, .string { data := #[] }, .slice none 0 0], Els.one rfl ⟨_, rfl, zeroV_at _ _⟩, fun _ => ⟨_, _, rfl, by show w.heap.size < _; simp, range_new w [.int .i64 1, .int .i64 0, .int .i64 0, .int .u64 0, .string { data := #[] }, .slice none 0 0] 52⟩⟩
set_option maxHeartbeats 1600000 in
theorem awake (w : World) : Calls Try.prog 7 #[] w fun e w' => e = .returned (.bool true) ∧ Below w.heap.size w w' := by
  have A := add none 0 0 [] x0 _ w (Sl.nil _ _ _ _ _) rfl (Nat.le_refl _) (by decide) (x0_at _ _)
  rw [aw1] at A
  replace A := Lib.hid A
  go_enter Try.func7, Try.ntmps7
  go_wp2_with fail
  refine A.out.mono ?_
  rintro e w1 ⟨v1, rfl, ho1, hb1⟩
  obtain ⟨s1, c1, rfl, hc1, _, hs1⟩ := ho1.live carried_w
  have H := hand s1 1 c1 [x0] fA 1 2 5 w1 hs1 rfl hc1 (by decide)
  rw [aw2] at H
  unfold fA at H
  replace H := Lib.hid H
  replace hb1 := Lib.hid hb1
  clear ho1 hs1 A
  simp only [List.length_singleton] at hc1 ⊢
  go_wp2_with fail
  refine H.out.mono ?_
  rintro e w2 ⟨v2, rfl, ho2, hb2⟩
  obtain ⟨s2, c2, rfl, hc2, _, hs2⟩ := ho2.live carried_w
  have hW3 : Below w2.heap.size w2 (w2.alloc (.cells #[.int .i64 1, .int .i64 0, .int .i64 0, .int .u64 0, .string { data := #[] }, .slice none 0 0] 52)) := (Below.refl _ _).alloc (Nat.le_refl _) _
  have hs2' := hs2.change (S' := Live (w2.alloc (.cells #[.int .i64 1, .int .i64 0, .int .i64 0, .int .u64 0, .string { data := #[] }, .slice none 0 0] 52))) (P' := WAt (Live (w2.alloc (.cells #[.int .i64 1, .int .i64 0, .int .i64 0, .int .u64 0, .string { data := #[] }, .slice none 0 0] 52))) (w2.alloc (.cells #[.int .i64 1, .int .i64 0, .int .i64 0, .int .u64 0, .string { data := #[] }, .slice none 0 0] 52))) (w' := w2.alloc (.cells #[.int .i64 1, .int .i64 0, .int .i64 0, .int .u64 0, .string { data := #[] }, .slice none 0 0] 52)) (fun b hb => Nat.lt_of_lt_of_le hb hW3.size) (fun b hb => hW3.block b hb) (fun t _ cs h => h.below hW3)
  have N := answer s2 1 c2 [x1] 3 _ 1 1 [⟨1, zeroV⟩] zeroV _ hs2' rfl hc2 (by decide) (a_at w2) rfl (Nat.le_refl _) (by decide)
  rw [aw3] at N
  replace N := Lib.hid N
  replace hb2 := Lib.hid (hb1.out.trans (hb2.mono hb1.out.size))
  replace hW3 := Lib.hid hW3
  clear ho2 hs2 hs2' H
  simp only [List.length_singleton] at hc2 ⊢
  go_wp2_with fail
  refine N.out.mono ?_
  rintro e w3 ⟨v3, rfl, ho3, hb3⟩
  obtain ⟨s3, c3, rfl, hc3, _, hs3⟩ := ho3.live carried_w
  have F := find s3 1 c3 [x1] 1 w3 hs3 rfl hc3 (by decide)
  replace F := Lib.hid F
  replace hb3 := Lib.hid ((hb2.out.trans (hW3.out.mono hb2.out.size)).trans (hb3.mono (Nat.le_trans hb2.out.size hW3.out.size)))
  replace ho3 := Lib.hid ho3
  clear hs3 N
  simp only [List.length_singleton] at hc3 ⊢
  go_wp2_with fail
  refine F.out.mono ?_
  rintro e w4 ⟨cs4, rfl, hv4, hb4⟩
  have fw1 : findF 1 [x1] = some x1 := rfl
  rw [fw1] at hv4 ⊢
  simp only [Option.getD_some, Option.isSome_some] at hv4 ⊢
  have hcl4 := Lib.hid hv4.len
  have hone4 := Lib.hid (all_one hv4.one)
  have hlo4 : cs4.toArray.size = 19 := by simp [hcl4.out]
  have hz4 := Lib.hid (heap_alloc_new w4 (.cells Z19 31))
  unfold Z19 at hz4
  have hn4 := heap_alloc_new w4 (.cells cs4.toArray 31)
  have hW5 : Below w4.heap.size w4 (w4.alloc (.cells cs4.toArray 31)) := (Below.refl _ _).alloc (Nat.le_refl _) _
  have hb5 : Below w3.heap.size w3 (w4.alloc (.cells cs4.toArray 31)) := hb4.trans (hW5.mono hb4.size)
  have h17 : cs4[17]? = some (.bool false) := hv4.cells.2.2.2.2.2.2.2.1
  have p17 : (w4.alloc (.cells cs4.toArray 31)).cell? ⟨w4.heap.size, 17, none⟩ = some (.bool false) := box_cell hn4 17 _ (by simpa using h17)
  have hlt4 : w4.heap.size < (w4.alloc (.cells cs4.toArray 31)).heap.size := by simp
  obtain ⟨w5, hw5⟩ : ∃ w5, w5 = w4.alloc (.cells cs4.toArray 31) := ⟨_, rfl⟩
  rw [← hw5] at p17 hlt4 hb5
  replace hw5 := Lib.hid hw5.symm
  have hW6 : Below w5.heap.size w5 (w5.alloc (.cells #[.int .i64 1, .int .i64 0, .int .i64 0, .int .u64 0, .string { data := #[] }, .slice none 0 0] 52)) := (Below.refl _ _).alloc (Nat.le_refl _) _
  obtain ⟨s3', c3', e3, _, _, hs5⟩ := ((ho3.out.below carried_w hb5).below carried_w hW6).live carried_w
  obtain ⟨rfl, rfl⟩ : s3 = s3' ∧ c3 = c3' := by simpa using e3
  have M := answer s3 1 c3 [x1] 2 _ 1 1 [⟨1, zeroV⟩] zeroV _ hs5 rfl hc3 (by decide) (a_at w5) rfl (Nat.le_refl _) (by decide)
  rw [aw4] at M
  have hb6 := Lib.hid (hb3.out.trans (hb5.mono hb3.out.size))
  replace hv4 := Lib.hid hv4
  replace M := Lib.hid M
  replace hW6 := Lib.hid hW6
  clear F e3 hn4 hb5 hs5 hW5 h17
  replace p17 := Lib.hid p17
  go_wp2_with (first | (with_reducible refine wpList_store_row rfl 31 (.tmp 2) (.tmp 17) rfl w4.heap.size cs4.toArray rfl rfl 31 _ hz4.out (w_size' hcl4.out) (by simp [hcl4.out]) hone4.out ?_; rw [alloc_setRow, hw5.out]))
  refine M.out.mono ?_
  rintro e w7 ⟨v7, rfl, ho7, hb7⟩
  obtain ⟨s7, c7, rfl, hc7, _, hs7⟩ := ho7.live carried_w
  have F := find s7 1 c7 [x2] 1 w7 hs7 rfl hc7 (by decide)
  have hb57 : Below w5.heap.size w5 w7 := hW6.out.trans (hb7.mono hW6.out.size)
  replace F := Lib.hid F
  replace hb57 := Lib.hid hb57
  clear hs7 M ho7 hb7
  simp only [List.length_singleton] at hc7 ⊢
  go_wp2_with fail
  refine F.out.mono ?_
  rintro e w8 ⟨cs8, rfl, hv8, hb8⟩
  have fw2 : findF 1 [x2] = some x2 := rfl
  rw [fw2] at hv8 ⊢
  simp only [Option.getD_some, Option.isSome_some] at hv8 ⊢
  have hcl8 := Lib.hid hv8.len
  have hone8 := Lib.hid (all_one hv8.one)
  have hlo8 : cs8.toArray.size = 19 := by simp [hcl8.out]
  have hz8 := Lib.hid (heap_alloc_new w8 (.cells Z19 31))
  unfold Z19 at hz8
  have hn8 := heap_alloc_new w8 (.cells cs8.toArray 31)
  have k17 : cs8[17]? = some (.bool true) := hv8.cells.2.2.2.2.2.2.2.1
  have k3 : cs8[3]? = some (.int .i64 5) := hv8.cells.2.2.2.1
  have r17 : (w8.alloc (.cells cs8.toArray 31)).cell? ⟨w8.heap.size, 17, none⟩ = some (.bool true) := box_cell hn8 17 _ (by simpa using k17)
  have r3 : (w8.alloc (.cells cs8.toArray 31)).cell? ⟨w8.heap.size, 3, none⟩ = some (.int .i64 5) := box_cell hn8 3 _ (by simpa using k3)
  have hb58 : Below w5.heap.size w5 (w8.alloc (.cells cs8.toArray 31)) := (hb57.out.trans (hb8.mono hb57.out.size)).alloc (Nat.le_trans hb57.out.size hb8.size) _
  have r2 : (w8.alloc (.cells cs8.toArray 31)).cell? ⟨w4.heap.size, 17, none⟩ = some (.bool false) := by
    rw [hb58.cell (p := ⟨w4.heap.size, 17, none⟩) hlt4]; exact p17.out
  have hb9 := Lib.hid (hb6.out.trans (hb58.mono hb6.out.size))
  replace hn8 := Lib.hid hn8
  clear hv8 hb8 hb58 k17 k3 F
  go_wp2_with (first | (with_reducible refine wpList_store_row rfl 31 (.tmp 4) (.tmp 26) rfl w8.heap.size cs8.toArray rfl rfl 31 _ hz8.out (w_size' hcl8.out) (by simp [hcl8.out]) hone8.out ?_; rw [alloc_setRow]))
  go_ret
  exact ⟨rfl, hb9.out⟩
end Go.Proofs.Ytncmjkaclfcbmaa
