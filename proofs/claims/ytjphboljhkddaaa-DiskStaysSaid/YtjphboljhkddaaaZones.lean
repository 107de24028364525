/- Zones. -/
import Derived.Test.YtjphboljhkddaaaSync
set_option linter.unusedVariables false
namespace Go.Proofs.Ytjphboljhkddaaa
open Go.RowKit

/-- the numbers below k of the zones that have bytes -/
def zonesTo (st : ZSt) : Nat → List Int
  | 0 => []
  | k + 1 => zonesTo st k ++ if (st (k : Int)).isSome then [(k : Int)] else []
theorem zonesTo_len (st : ZSt) : ∀ k, (zonesTo st k).length ≤ k
  | 0 => Nat.le_refl _
  | k + 1 => by
    have := zonesTo_len st k
    simp only [zonesTo, List.length_append]
    split <;> simp <;> omega
def i64s (l : List Int) : List Value := l.map (Value.int .i64)
theorem i64_info : ∃ i0 : TypeInfo, Try.prog.info? 3 = some i0 ∧ i0.zero = some (.int .i64 0) ∧ i0.size = 1 ∧ i0.bytes = 8 := by
  obtain ⟨i0, hi, hz0, hz1, hz2⟩ := info_parts (show (Try.prog.info? 3).map (fun i => (i.zero, i.size, i.bytes)) = some (some (.int .i64 0), 1, 8) by kernel_rfl)
  exact ⟨i0, hi, hz0, hz1, hz2⟩
theorem find_some {w : World} {L : List ZE} {st : ZSt} (h : ZS w L st) (z : Int) : (zfind L z).isSome = (st z).isSome := by
  rcases h z with ⟨e1, e2⟩ | ⟨q, v, e1, e2, _⟩
  · simp [e1, e2]
  · simp [e1, e2]
theorem one_news (w1 : World) (o : Obj) (x : Value) : ∀ ad, (some ⟨w1.heap.size + 1, 0, none⟩ : Option Addr) = some ad → ∀ j u, [x][j]? = some u → ((w1.alloc o).alloc (.cells #[x] 3)).cell? (ad.add j) = some u := by
  intro ad had j u hj
  cases had
  have hh := heap_alloc_new (w1.alloc o) (.cells #[x] 3)
  rw [show (w1.alloc o).heap.size = w1.heap.size + 1 by simp] at hh
  match j, hj with
  | 0, hj => cases hj; show World.cell? _ ⟨w1.heap.size + 1, 0 + 0, none⟩ = _; rw [cell_of_row _ _ _ _ _ _ hh]; rfl
def ZonesP (w : World) (l : List Int) (e : Ending) (w' : World) : Prop := ∃ v, e = .returned v ∧ w'.ownsRow w.heap.size 3 1 v l.length (i64s l) ∧ Below w.heap.size w w'
theorem zones (w : World) (B d : Nat) (st : ZSt) (room used : Int) (lit : Bool) (left : Int) (dead : Bool) (h : DiskAt w B d st room used lit left dead) :
    Calls Try.prog 20 #[.pointer (some ⟨d, 0, none⟩)] w (ZonesP w (zonesTo st 40)) := by
  obtain ⟨m, L, hBd, hBm, h3, h4, h5⟩ := id h
  obtain ⟨c0, c1, c2, c3, c4, c5, cf⟩ := dcell h3
  obtain ⟨i0, hi, hz0, hz1, hz2⟩ := i64_info
  have M := made_some d m w c0
  have hdl : d < w.heap.size := (Array.getElem?_eq_some_iff.1 h3).1
  have hml : m < w.heap.size := h4.lt
  have K := fun w' (hb : Below w.heap.size w w') (z : Int) => lookup_ok w' m L z (h4.keep (hb.block _ hml))
  have hdc := fun w' (hb : Below w.heap.size w w') => (dcell (by rw [hb.block _ hdl]; exact h3 : w'.heap[d]? = some (.cells (dCells m room used lit left dead) 44 (0, 0)))).1
  have hfs := find_some h5
  replace hi := Lib.hid hi
  replace hz0 := Lib.hid hz0
  replace hz1 := Lib.hid hz1
  replace hz2 := Lib.hid hz2
  replace K := Lib.hid K
  replace hdc := Lib.hid hdc
  replace hfs := Lib.hid hfs
  have hzl := zonesTo_len st
  replace hzl := Lib.hid hzl
  have hzv : ∀ z : Int, ∃ (a' : Option Addr) (n' cap' : Nat) (s' : Int), (zfind L z).getD (zVal none 0 0 0) = zVal a' n' cap' s' := fun z => by
    obtain ⟨a', cap', hv, _⟩ := zone_at h5 z
    exact ⟨_, _, _, _, hv⟩
  replace hzv := Lib.hid hzv
  clear h h3 h4 h5 c1 c2 c3 c4 c5 cf
  go_enter Try.func20, Try.ntmps20
  go_wp2_with (first | (go_at_call 30; refine M.mono ?_; rintro e w1 ⟨rfl, rfl⟩))
  go_loopw [3, 10] (fun v i wr => ∃ k : Nat, k ≤ 40 ∧ i = .int .i64 (k : Int) ∧ wr.ownsRow w.heap.size 3 1 v (zonesTo st k).length (i64s (zonesTo st k)) ∧ Below w.heap.size w wr) (fun _ i _ => 40 - (intOf i).toNat)
  case atStart => exact ⟨0, by omega, rfl, ⟨rfl, .inl ⟨rfl, rfl⟩⟩, Below.refl _ _⟩
  case round =>
    obtain ⟨k, hk, rfl, hown, hbr⟩ := hrel
    by_cases hk40 : k < 40
    · have Kr := K.out wr hbr (k : Int)
      have hc := hdc.out wr hbr
      have hs := hfs.out (k : Int)
      obtain ⟨a', n', cap', s', hv⟩ := hzv.out (k : Int)
      rw [hs, hv] at Kr
      unfold zVal at Kr
      have hzk := hzl.out k
      replace hown := Lib.hid hown
      replace hbr := Lib.hid hbr
      cases hb : (st (k : Int)).isSome with
      | false =>
        rw [hb] at Kr
        have hz1' : zonesTo st (k + 1) = zonesTo st k := by simp only [zonesTo, hb]; simp
        clear hs hv hb hfs
        generalize zonesTo st k = zl at *
        replace hz1' := Lib.hid hz1'
        go_wp2_with fail
        go_roundw
        case rel => exact ⟨k + 1, by omega, by go_num, by rw [hz1'.out]; exact own_below hown.out ((Below.refl _ _).alloc (Nat.le_refl _) _), hbr.out.alloc hbr.out.size _⟩
        case measure => simp [intOf]; omega
      | true =>
        rw [hb] at Kr
        have hz1' : zonesTo st (k + 1) = zonesTo st k ++ [(k : Int)] := by simp only [zonesTo, hb]; simp
        clear hs hv hb hfs
        generalize zonesTo st k = zl at *
        replace hz1' := Lib.hid hz1'
        go_wp2_with (at_builtin; refine append_src rfl (.tmp 23) (.tmp 25) 23 rfl w.heap.size 3 i0 (.int .i64 0) 1 8 Try.underlying23 hi.out hz0.out hz1.out hz2.out rfl (by decide) u3 zl.length (i64s zl) rfl (own_below hown.out (((Below.refl _ _).alloc (Nat.le_refl _) _).alloc (by simp) _)) (some ⟨wr.heap.size + 1, 0, none⟩) 1 1 [.int .i64 (k : Int)] rfl (fun h => by cases h) rfl (one_news wr _ _) (by intro u hu; rw [List.mem_singleton.1 hu]; rfl) (by unfold maxLen; omega) (by omega) (by have := hbr.out.size; simp; omega) ?_)
        intro v' w2 ho g2
        have hb2 : Below w.heap.size w w2 := ((hbr.out.alloc hbr.out.size _).alloc (by have := hbr.out.size; simp; omega) _).grown g2 (by have := hbr.out.size; simp; omega) (own_from hown.out)
        have ho2 : w2.ownsRow w.heap.size 3 1 v' (zl ++ [(k : Int)]).length (i64s (zl ++ [(k : Int)])) := by
          simpa [i64s] using ho
        replace ho2 := Lib.hid ho2
        replace hb2 := Lib.hid hb2
        clear ho g2
        go_wp2_with fail
        go_roundw
        case rel => exact ⟨k + 1, by omega, by go_num, by rw [hz1'.out]; exact ho2.out, hb2.out⟩
        case measure => simp [intOf]; omega
    · obtain rfl : k = 40 := by omega
      replace hown := Lib.hid hown
      replace hbr := Lib.hid hbr
      go_wp2_with fail
      go_ret
      exact ⟨_, rfl, hown.out, hbr.out⟩
end Go.Proofs.Ytjphboljhkddaaa
