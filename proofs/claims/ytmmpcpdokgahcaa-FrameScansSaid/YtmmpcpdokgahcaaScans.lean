/- The walk of FrameScans. -/
import Derived.Test.YtmmpcpdokgahcaaGiven
set_option linter.unusedVariables false
namespace Go.Proofs.Ytmmpcpdokgahcaa
open Go.RowKit CM

theorem GR.blocks {w w' : World} {B : Nat} (hb : ∀ g, g < B → w'.heap[g]? = w.heap[g]?) : ∀ (fs : List Fr) (xs : List Value), GR w B fs xs → GR w' B fs xs
  | [], xs, h => h
  | f :: fs, xs, h => by
    obtain ⟨a, cap, ys, e, hr, h3, h4⟩ := h
    refine ⟨a, cap, ys, e, ?_, h3, GR.blocks hb fs ys h4⟩
    by_cases hl : f.2 = []
    · rw [hl]; exact row_nil' _ _
    · exact row_change hr fun ad ha => hb _ (h3 ad ha hl)
theorem blk_grown {w0 W w' : World} {g t n s B : Nat} {e : TypeId} {cur : Array Value} {v : Value} {xs : List Value} (hX : w0.heap[g]? = some (.cells cur t (0, 0))) (hb : Below w0.heap.size w0 W) (h : w0.ownsRow B e s v n xs) (hne : t ≠ e) (gr : W.grownBy w' v.ownBlock) : w'.heap[g]? = some (.cells cur t (0, 0)) := by
  have hl := (Array.getElem?_eq_some_iff.1 hX).1
  rw [gr.block g (by have := hb.size; omega) (fun ee => own_ne h hX hne ee.symm), hb.block g hl]; exact hX
theorem own_keep {w0 W w' : World} {B B' s s' n n' : Nat} {e e' : TypeId} {v v' : Value} {xs ys : List Value} (h : w0.ownsRow B e s v n xs) (hb : Below w0.heap.size w0 W) (h' : w0.ownsRow B' e' s' v' n' ys) (hne : e ≠ e') (g : W.grownBy w' v'.ownBlock) : w'.ownsRow B e s v n xs :=
  own_grown (own_below h hb) (own_below h' hb) hne g
theorem bel_grown {w w0 W w' : World} {B s n : Nat} {e : TypeId} {v : Value} {xs : List Value} (hB : Below B w w0) (hb : Below w0.heap.size w0 W) (h : w0.ownsRow B e s v n xs) (hle : B ≤ w0.heap.size) (g : W.grownBy w' v.ownBlock) : Below B w w' :=
  (hB.trans (hb.mono hle)).grown g (by have := hb.size; omega) (own_from h)
theorem keep_all {W w' : World} {B s n : Nat} {e : TypeId} {v : Value} {xs : List Value} (h : W.ownsRow B e s v n xs) (gr : W.grownBy w' v.ownBlock) : ∀ (g : Nat) (cur : Array Value) (t : TypeId), t ≠ e → W.heap[g]? = some (.cells cur t (0, 0)) → w'.heap[g]? = some (.cells cur t (0, 0)) := by
  intro g cur t ht hg
  rw [gr.block g (Array.getElem?_eq_some_iff.1 hg).1 (fun ee => own_ne h hg ht ee.symm)]; exact hg
theorem cell_of_row' {w : World} {g i : Nat} {cur : Array Value} {t : TypeId} {u : Value} (h : w.heap[g]? = some (.cells cur t (0, 0))) (hu : cur[i]? = some u) : w.cell? ((⟨g, 0, none⟩ : Addr).add i) = some u := by
  have e : (⟨g, 0, none⟩ : Addr).add i = ⟨g, i, none⟩ := by cases i <;> simp [Addr.add]
  rw [e, cell_of_row _ _ _ _ _ _ h]; exact hu
theorem pair_cells {w : World} {g : Nat} {x y : Value} (hX : w.heap[g]? = some (.cells #[x, y] 29 (0, 0))) : w.cell? ⟨g, 0, none⟩ = some x ∧ w.cell? ⟨g, 1, none⟩ = some y := by
  constructor <;> rw [cell_of_row _ _ _ _ _ _ hX] <;> rfl
def frOf (f : Int × List Nat) : Fr := ((f.1 % 256).toNat, f.2.take 1000)
def endsTo (fs : List Fr) (i : Nat) : List Value := (List.range i).map fun j => Value.int .i64 ((allF (fs.take (j + 1))).length : Int)
theorem int_info : ∃ i0 : TypeInfo, Try.prog.info? 3 = some i0 ∧ i0.zero = some (.int .i64 0) ∧ i0.size = 1 ∧ i0.bytes = 8 := by
  obtain ⟨i0, hi, hz0, hz1, hz2⟩ := info_parts (show (Try.prog.info? 3).map (fun i => (i.zero, i.size, i.bytes)) = some (some (.int .i64 0), 1, 8) by kernel_rfl)
  exact ⟨i0, hi, hz0, hz1, hz2⟩
/-- what came in -/
def InAt (w : World) (a0 : Option Addr) (ins : List (Int × List Nat)) : Prop := ∀ i f, ins[i]? = some f → ∃ b off a c, a0 = some ⟨b, off, none⟩ ∧ w.cell? ⟨b, off + i * 2, none⟩ = some (.int .i64 f.1) ∧ w.cell? ⟨b, off + i * 2 + 1, none⟩ = some (.slice a f.2.length c) ∧ Row w a f.2 ∧ f.2.length ≤ c ∧ c ≤ 9223372036854775807 ∧ (a = none → c = 0)
def GatherR (w : World) (fs : List Fr) (v5 v6 v7 c : Value) (wr : World) : Prop :=
  ∃ i xs, i ≤ fs.length ∧ c = .int .i64 (i : Int) ∧ wr.ownsRow w.heap.size 5 1 v5 (allF (fs.take i)).length (u8s (allF (fs.take i))) ∧ wr.ownsRow w.heap.size 3 1 v6 i (endsTo fs i) ∧ wr.ownsRow w.heap.size 29 2 v7 i xs ∧ GR wr w.heap.size (fs.take i) xs ∧ Below w.heap.size w wr
theorem allF_len (fs : List Fr) (h : ∀ f ∈ fs, OkF f) : (allF fs).length ≤ 1009 * fs.length := by
  induction fs with
  | nil => simp [allF]
  | cons f fs ih =>
    have e : allF (f :: fs) = sealB f.1 f.2 ++ allF fs := rfl
    have h1 := (h f List.mem_cons_self).2.1
    have h2 := ih fun g hg => h g (List.mem_cons_of_mem _ hg)
    rw [e, List.length_append, seal_len9, List.length_cons]
    omega
theorem allF_lt (fs : List Fr) (h : ∀ f ∈ fs, OkF f) : ∀ c ∈ allF fs, c < 256 := by
  intro c hc
  unfold allF at hc
  obtain ⟨l, hl, hcl⟩ := List.mem_flatten.1 hc
  obtain ⟨f, hf, rfl⟩ := List.mem_map.1 hl
  obtain ⟨h1, h2, h3⟩ := h f hf
  unfold sealB at hcl
  rcases List.mem_append.1 hcl with h4 | h4
  · exact be4_lt _ _ h4
  rcases List.mem_append.1 h4 with h5 | h5
  · exact be4_lt _ _ h5
  rcases List.mem_cons.1 h5 with rfl | h6
  · exact h1
  · exact h3 c h6
set_option maxHeartbeats 1600000 in
set_option maxRecDepth 100000 in
theorem scans (a0 : Option Addr) (len cap : Nat) (ins : List (Int × List Nat)) (cut : Int) (w : World) (hin : InAt w a0 ins) (hlen : ins.length = len) (hc : len ≤ cap) (hcap : cap ≤ 9223372036854775807) (hcut : -9223372036854775808 ≤ cut ∧ cut ≤ 9223372036854775807) (hnil : a0 = none → cap = 0) :
    Calls Try.prog 5 #[.slice a0 len cap, .int .i64 cut] w fun e w' => e = .returned (.bool true) ∧ Below w.heap.size w w' := by
  obtain ⟨n0, hn0⟩ : ∃ n0, n0 = min len 20 := ⟨_, rfl⟩
  obtain ⟨fs, hfs⟩ : ∃ fs, fs = (ins.take 20).map frOf := ⟨_, rfl⟩
  have hfl : fs.length = n0 := by rw [hfs, List.length_map, List.length_take, hlen, hn0]; omega
  have hok : ∀ f ∈ fs, OkF f := by
    intro f hf
    rw [hfs] at hf
    obtain ⟨g, hg, rfl⟩ := List.mem_map.1 hf
    obtain ⟨i, hi⟩ := List.mem_iff_getElem?.1 (List.mem_of_mem_take hg)
    obtain ⟨b, off, a, c, _, _, _, hr, _⟩ := hin i g hi
    refine ⟨by show (g.1 % 256).toNat < 256; omega, by show (g.2.take 1000).length ≤ 1000; rw [List.length_take]; omega, fun x hx => hr.1 x (List.mem_of_mem_take hx)⟩
  replace hok := Lib.hid hok
  replace hn0 := Lib.hid hn0
  replace hfs := Lib.hid hfs
  replace hfl := Lib.hid hfl
  replace hin := Lib.hid hin
  replace hlen := Lib.hid hlen
  replace hcut := Lib.hid hcut
  replace hcap := Lib.hid hcap
  go_enter Try.func5, Try.ntmps5
  go_upto_region 1 with fail
  go_cut [0] (fun s0 wx => s0 = .slice a0 n0 cap ∧ Below w.heap.size w wx)
  case first =>
    by_cases h1 : len ≤ 20
    · have e1 : n0 = len := by have := hn0.out; omega
      replace e1 := Lib.hid e1
      go_wp2_with fail
      go_meet
      exact ⟨by rw [e1.out], Below.refl _ _⟩
    · have e1 : n0 = 20 := by have := hn0.out; omega
      replace e1 := Lib.hid e1
      have g1 : (20 : Int) ≤ (cap : Int) := by omega
      go_wp2_with fail
      go_meet
      exact ⟨by rw [e1.out], Below.refl _ _⟩
  case rest =>
    obtain ⟨rfl, hbc⟩ := hcut
    obtain ⟨i3, hi3, hz30, hz31, hz32⟩ := int_info
    obtain ⟨i5, hi5, hz50, hz51, hz52⟩ := u8_info
    obtain ⟨i29, hi29, hz290, hz291, hz292⟩ := fr_info
    replace hi3 := Lib.hid hi3
    replace hz30 := Lib.hid hz30
    replace hz31 := Lib.hid hz31
    replace hz32 := Lib.hid hz32
    replace hi5 := Lib.hid hi5
    replace hz50 := Lib.hid hz50
    replace hz51 := Lib.hid hz51
    replace hz52 := Lib.hid hz52
    replace hi29 := Lib.hid hi29
    replace hz290 := Lib.hid hz290
    replace hz291 := Lib.hid hz291
    replace hz292 := Lib.hid hz292
    replace hbc := Lib.hid hbc
    go_wp2_with fail
    go_loopw [5, 6, 7, 23] (fun v5 v6 v7 c wr => GatherR w fs v5 v6 v7 c wr) (fun _ _ _ c _ => n0 - (intOf c).toNat)
    case atStart =>
      exact ⟨0, [], Nat.zero_le _, rfl, ⟨rfl, .inl ⟨rfl, rfl⟩⟩, ⟨rfl, .inl ⟨rfl, rfl⟩⟩, ⟨rfl, .inl ⟨rfl, rfl⟩⟩, rfl, hbc.out⟩
    case round =>
      obtain ⟨i, xs, hi, rfl, h5, h6, h7, hG, hbr⟩ := hrel
      rw [hfl.out] at hi
      by_cases hin0 : i < n0
      · have hil : i < ins.length := by have := hn0.out; rw [hlen.out]; omega
        have hi20 : i < 20 := by have := hn0.out; omega
        obtain ⟨b, off, a, c, rfl, q0, q1, hr, hfc, hc63, hanil⟩ := hin.out i ins[i] (List.getElem?_eq_getElem hil)
        have hfi : fs[i]? = some (frOf ins[i]) := by
          rw [hfs.out, List.getElem?_map, List.getElem?_take_of_lt hi20, List.getElem?_eq_getElem hil]; rfl
        generalize ins[i] = f at *
        obtain ⟨ki, pi⟩ := f
        have q0' : wr.cell? ⟨b, off + i * 2, none⟩ = some (.int .i64 ki) := by rw [hbr.cell (p := ⟨b, off + i * 2, none⟩) (block_lt_of_cell q0)]; exact q0
        have q1' : wr.cell? ⟨b, off + i * 2 + 1, none⟩ = some (.slice a pi.length c) := by
          have hlt : b < w.heap.size := block_lt_of_cell q0
          rw [hbr.cell (p := ⟨b, off + i * 2 + 1, none⟩) hlt]; exact q1
        have hblt : b < wr.heap.size := Nat.lt_of_lt_of_le (block_lt_of_cell q0) hbr.size
        have hra : Row wr a (pi.take 1000) := row_take (hr.below hbr) 1000
        obtain ⟨np, hnp⟩ : ∃ np, np = min pi.length 1000 := ⟨_, rfl⟩
        obtain ⟨pl, hpl⟩ : ∃ pl, pl = pi.length := ⟨_, rfl⟩
        rw [← hpl] at q1' hnp hfc
        have hplen : (pi.take 1000).length = np := by rw [List.length_take, ← hpl, hnp]; omega
        have hk8 : IntKind.u8.wrap ki = ki % 256 := by rw [IntKind.wrap_u8]
        have hk64 : IntKind.i64.wrap (ki % 256) = ki % 256 := IntWalk.i64_in _ (by omega)
        have hpb : ∀ ad, a = some ad → pi.take 1000 ≠ [] → ad.block < w.heap.size := by
          intro ad ha hne
          obtain ⟨b', off', hb', hlt⟩ : ∃ b off, a = some ⟨b, off, none⟩ ∧ b < w.heap.size := by
            rcases (row_take hr 1000).2.2 with h | ⟨b', off', h, hcc⟩
            · exact absurd h hne
            · exact ⟨b', off', h, block_lt_of_cell (hcc 0 (List.length_pos_iff.2 hne))⟩
          rw [ha] at hb'; cases hb'; exact hlt
        replace hpl := Lib.hid hpl
        replace hnp := Lib.hid hnp
        replace hplen := Lib.hid hplen
        replace hpb := Lib.hid hpb
        replace hra := Lib.hid hra
        replace h5 := Lib.hid h5
        replace h6 := Lib.hid h6
        replace h7 := Lib.hid h7
        replace hG := Lib.hid hG
        replace hbr := Lib.hid hbr
        replace hc63 := Lib.hid hc63
        clear q0 q1 hr
        go_upto_region 8 with fail
        go_cut [9] (fun s9 wx => s9 = .pointer (some ⟨wr.heap.size, 0, none⟩) ∧ wx.heap[wr.heap.size]? = some (.cells #[.int .i64 (ki % 256), .slice a np c] 29 (0, 0)) ∧ Below wr.heap.size wr wx)
        case first =>
          by_cases h1000 : pl ≤ 1000
          · have e1 : np = pl := by have := hnp.out; omega
            replace e1 := Lib.hid e1
            go_region
            go_wp2_with fail
            go_meet
            rw [e1.out]
            exact ⟨rfl, heap_alloc_new wr _, (Below.refl _ _).drew.alloc (Nat.le_refl _) _⟩
          · have e1 : np = 1000 := by have := hnp.out; omega
            replace e1 := Lib.hid e1
            have g1 : (1000 : Int) ≤ (c : Int) := by omega
            go_region
            go_wp2_with fail
            go_meet
            rw [e1.out]
            exact ⟨rfl, heap_alloc_new wr _, (Below.refl _ _).drew.alloc (Nat.le_refl _) _⟩
        case rest =>
          obtain ⟨rfl, hX, hb8⟩ := hcut
          have hbw8 := hbr.out.trans (hb8.mono hbr.out.size)
          have x0 : wc.cell? ⟨wr.heap.size, 0, none⟩ = some (.int .i64 (ki % 256)) := by rw [cell_of_row _ _ _ _ _ _ hX]; rfl
          have x1 : wc.cell? ⟨wr.heap.size, 1, none⟩ = some (.slice a np c) := by rw [cell_of_row _ _ _ _ _ _ hX]; rfl
          have S := seal_any (ki % 256) a (pi.take 1000) c np wc (hra.out.below hb8) hplen.out (by have := hnp.out; omega) hanil (by have := hnp.out; omega)
          have es : sealL (ki % 256 % 256).toNat (pi.take 1000) = sealB (ki % 256).toNat (pi.take 1000) := by
            unfold sealL
            rw [if_neg (by have := hnp.out; rw [hplen.out]; omega), show ki % 256 % 256 = ki % 256 by omega]
          rw [es] at S
          have hsl : (sealB (ki % 256).toNat (pi.take 1000)).length = 9 + np := by
            have := seal_len9 ((ki % 256).toNat, pi.take 1000)
            rw [hplen.out] at this; exact this
          obtain ⟨sb, hsb⟩ : ∃ sb, sb = sealB (ki % 256).toNat (pi.take 1000) := ⟨_, rfl⟩
          rw [← hsb] at S hsl
          replace S := Lib.hid S
          replace hsb := Lib.hid hsb
          replace hsl := Lib.hid hsl
          replace hX := Lib.hid hX
          replace hb8 := Lib.hid hb8
          replace hbw8 := Lib.hid hbw8
          clear es
          go_wp2_with fail
          refine S.out.mono ?_
          rintro e w9 ⟨y, cy, rfl, hr9, hb9, hnil9, hle9, hmx9⟩
          obtain ⟨ns, hns⟩ : ∃ ns, ns = sb.length := ⟨_, rfl⟩
          rw [← hns] at hle9 hnil9 ⊢
          have hAl := allF_len (fs.take i) (fun g hg => hok.out g (List.mem_of_mem_take hg))
          rw [List.length_take, hfl.out] at hAl
          have hAl2 : (allF (fs.take i)).length ≤ 20180 := by have := hn0.out; omega
          have hAs : allF (fs.take (i + 1)) = allF (fs.take i) ++ sb := by
            obtain ⟨hil2, hie⟩ := List.getElem?_eq_some_iff.1 hfi
            rw [List.take_succ_eq_append_getElem hil2, allF_snoc, hie, hsb.out]; rfl
          have h59 := own_below (own_below h5.out hb8.out) hb9
          have h69 := own_below (own_below h6.out hb8.out) hb9
          have h79 := own_below (own_below h7.out hb8.out) hb9
          have hX9 : w9.heap[wr.heap.size]? = some (.cells #[.int .i64 (ki % 256), .slice a np c] 29 (0, 0)) := by rw [hb9.block _ (Array.getElem?_eq_some_iff.1 hX.out).1]; exact hX.out
          have hbw9 := hbw8.out.trans (hb9.mono hbw8.out.size)
          have hlA : (allF (fs.take (i + 1))).length = (allF (fs.take i)).length + ns := by rw [hAs, List.length_append, hns]
          have hend : endsTo fs (i + 1) = endsTo fs i ++ [.int .i64 (((allF (fs.take i)).length + ns : Nat) : Int)] := by
            unfold endsTo
            rw [List.range_succ, List.map_append, List.map_singleton, hlA]
          generalize allF (fs.take i) = A at *
          generalize endsTo fs i = E0 at *
          obtain ⟨la, hla⟩ : ∃ la, la = A.length := ⟨_, rfl⟩
          rw [← hla] at h59 hAl2 hend
          have hns20 : ns ≤ 1009 := by have := hsl.out; have := hnp.out; omega
          replace hla := Lib.hid hla
          replace hns := Lib.hid hns
          replace hAs := Lib.hid hAs
          clear hlA
          replace hend := Lib.hid hend
          replace h59 := Lib.hid h59
          replace h69 := Lib.hid h69
          replace h79 := Lib.hid h79
          replace hX9 := Lib.hid hX9
          replace hbw9 := Lib.hid hbw9
          replace hr9 := Lib.hid hr9
          clear hAl h5 h6 h7 hb9 S
          go_wp2_with (at_builtin; refine append_src rfl (.tmp 40) (.tmp 45) 22 rfl w.heap.size 5 i5 (.int .u8 0) 1 1 Try.underlying22 hi5.out hz50.out hz51.out hz52.out rfl (by decide) u5 la (u8s A) rfl h59.out y ns cy (u8s sb) rfl hnil9 (by rw [u8s_len, hns.out]; omega) (fun ad h => hr9.out.news h) (u8s_one sb) (by unfold maxLen; omega) (by omega) hbw9.out.size ?_)
          intro v5' w10 ho10 g10
          have hbw10 := hbw9.out.grown g10 hbw9.out.size (own_from h59.out)
          have h610 := own_grown h69.out h59.out (by decide) g10
          have h710 := own_grown h79.out h59.out (by decide) g10
          have hX10 : w10.heap[wr.heap.size]? = some (.cells #[.int .i64 (ki % 256), .slice a np c] 29 (0, 0)) := by
            rw [g10.block _ (Array.getElem?_eq_some_iff.1 hX9.out).1 (fun e => own_ne h59.out hX9.out (by decide) e.symm)]; exact hX9.out
          have z0 : w10.cell? ⟨wr.heap.size, 0, none⟩ = some (.int .i64 (ki % 256)) := by rw [cell_of_row _ _ _ _ _ _ hX10]; rfl
          have z1 : w10.cell? ⟨wr.heap.size, 1, none⟩ = some (.slice a np c) := by rw [cell_of_row _ _ _ _ _ _ hX10]; rfl
          obtain ⟨y5, c5, rfl, _⟩ := own_len ho10
          rw [← u8s_append] at ho10
          replace ho10 := Lib.hid ho10
          replace hbw10 := Lib.hid hbw10
          replace h610 := Lib.hid h610
          replace h710 := Lib.hid h710
          replace hX10 := Lib.hid hX10
          clear g10 h59 h69 h79 hX9
          go_wp2_with fail
          have hFl := (Array.getElem?_eq_some_iff.1 hX10.out).1
          go_region_law (first | (refine step_append_own rfl (.tmp 47) (.tmp 50) 39 rfl w.heap.size 3 i3 (.int .i64 0) 1 8 Try.underlying39 hi3.out hz30.out hz31.out hz32.out rfl (by decide) u6 i E0 rfl (own_below h610.out (by first | exact Below.refl _ _ | exact (Below.refl _ _).drew | exact (Below.refl _ _).alloc (Nat.le_refl _) _ | exact ((Below.refl _ _).alloc (Nat.le_refl _) _).drew | exact ((Below.refl _ _).alloc (Nat.le_refl _) _).alloc (by simp) _ | exact (((Below.refl _ _).alloc (Nat.le_refl _) _).alloc (by simp) _).drew)) _ 1 1 [.int .i64 ((la : Int) + ns)] rfl rfl (by intro j u hj; match j, hj with | 0, hj => (cases hj; first | (simp [Addr.add]; done) | (exact cell_of_row' (kp.out _ _ 3 (by decide) (by first | exact heap_alloc2_new _ _ _ | exact heap_alloc2_old _ _ _ | exact heap_alloc_new _ _)) rfl) | exact cell_of_row' (kp.out _ _ 3 (by decide) (by first | exact heap_alloc2_new _ _ _ | exact heap_alloc2_old _ _ _ | exact heap_alloc_new _ _)) rfl)) (by intro u hu; rw [List.mem_singleton.1 hu]; rfl) (by unfold maxLen; omega) (by omega) (by have := hbw10.out.size; simp; omega) ?_; intro v' w' hn g; have kp := Lib.hid (keep_all (own_below h610.out (by first | exact Below.refl _ _ | exact (Below.refl _ _).drew | exact (Below.refl _ _).alloc (Nat.le_refl _) _ | exact ((Below.refl _ _).alloc (Nat.le_refl _) _).drew | exact ((Below.refl _ _).alloc (Nat.le_refl _) _).alloc (by simp) _ | exact (((Below.refl _ _).alloc (Nat.le_refl _) _).alloc (by simp) _).drew)) g); have hX' := blk_grown hX10.out (by first | exact Below.refl _ _ | exact (Below.refl _ _).drew | exact (Below.refl _ _).alloc (Nat.le_refl _) _ | exact ((Below.refl _ _).alloc (Nat.le_refl _) _).drew | exact ((Below.refl _ _).alloc (Nat.le_refl _) _).alloc (by simp) _ | exact (((Below.refl _ _).alloc (Nat.le_refl _) _).alloc (by simp) _).drew) h610.out (by decide) g; have hFl' := (Array.getElem?_eq_some_iff.1 hX').1; have z0' := (pair_cells hX').1; have z1' := (pair_cells hX').2; replace hX10 := Lib.hid hX'; clear hX'; have n5 := own_keep ho10.out (by first | exact Below.refl _ _ | exact (Below.refl _ _).drew | exact (Below.refl _ _).alloc (Nat.le_refl _) _ | exact ((Below.refl _ _).alloc (Nat.le_refl _) _).drew | exact ((Below.refl _ _).alloc (Nat.le_refl _) _).alloc (by simp) _ | exact (((Below.refl _ _).alloc (Nat.le_refl _) _).alloc (by simp) _).drew) h610.out (by decide) g; have no := own_keep h710.out (by first | exact Below.refl _ _ | exact (Below.refl _ _).drew | exact (Below.refl _ _).alloc (Nat.le_refl _) _ | exact ((Below.refl _ _).alloc (Nat.le_refl _) _).drew | exact ((Below.refl _ _).alloc (Nat.le_refl _) _).alloc (by simp) _ | exact (((Below.refl _ _).alloc (Nat.le_refl _) _).alloc (by simp) _).drew) h610.out (by decide) g; have nB := bel_grown hbw10.out (by first | exact Below.refl _ _ | exact (Below.refl _ _).drew | exact (Below.refl _ _).alloc (Nat.le_refl _) _ | exact ((Below.refl _ _).alloc (Nat.le_refl _) _).drew | exact ((Below.refl _ _).alloc (Nat.le_refl _) _).alloc (by simp) _ | exact (((Below.refl _ _).alloc (Nat.le_refl _) _).alloc (by simp) _).drew) h610.out hbw10.out.size g; replace ho10 := Lib.hid n5; replace h710 := Lib.hid no; replace hbw10 := Lib.hid nB; replace h610 := Lib.hid hn; clear g n5 no nB hn) | (refine step_append_own rfl (.tmp 52) (.tmp 54) 33 rfl w.heap.size 29 i29 (.agg #[.int .i64 0, .slice none 0 0]) 2 32 Try.underlying33 hi29.out hz290.out hz291.out hz292.out rfl (by decide) u7 i xs rfl (own_below h710.out (by first | exact Below.refl _ _ | exact (Below.refl _ _).drew | exact (Below.refl _ _).alloc (Nat.le_refl _) _ | exact ((Below.refl _ _).alloc (Nat.le_refl _) _).drew | exact ((Below.refl _ _).alloc (Nat.le_refl _) _).alloc (by simp) _ | exact (((Below.refl _ _).alloc (Nat.le_refl _) _).alloc (by simp) _).drew)) _ 1 1 [.int .i64 (ki % 256), .slice a np c] rfl rfl (by intro j u hj; match j, hj with | 0, hj => (cases hj; first | (simp [Addr.add]; done) | (exact cell_of_row' (kp.out _ _ 29 (by decide) (by first | exact heap_alloc2_new _ _ _ | exact heap_alloc2_old _ _ _ | exact heap_alloc_new _ _)) rfl) | exact cell_of_row' (kp.out _ _ 29 (by decide) (by first | exact heap_alloc2_new _ _ _ | exact heap_alloc2_old _ _ _ | exact heap_alloc_new _ _)) rfl) | 1, hj => (cases hj; first | (simp [Addr.add]; done) | (exact cell_of_row' (kp.out _ _ 29 (by decide) (by first | exact heap_alloc2_new _ _ _ | exact heap_alloc2_old _ _ _ | exact heap_alloc_new _ _)) rfl) | exact cell_of_row' (kp.out _ _ 29 (by decide) (by first | exact heap_alloc2_new _ _ _ | exact heap_alloc2_old _ _ _ | exact heap_alloc_new _ _)) rfl)) (by intro u hu; simp at hu; rcases hu with rfl | rfl <;> rfl) (by unfold maxLen; omega) (by omega) (by have := hbw10.out.size; simp; omega) ?_; intro v' w' hn g; have kp := Lib.hid (keep_all (own_below h710.out (by first | exact Below.refl _ _ | exact (Below.refl _ _).drew | exact (Below.refl _ _).alloc (Nat.le_refl _) _ | exact ((Below.refl _ _).alloc (Nat.le_refl _) _).drew | exact ((Below.refl _ _).alloc (Nat.le_refl _) _).alloc (by simp) _ | exact (((Below.refl _ _).alloc (Nat.le_refl _) _).alloc (by simp) _).drew)) g); have n5 := own_keep ho10.out (by first | exact Below.refl _ _ | exact (Below.refl _ _).drew | exact (Below.refl _ _).alloc (Nat.le_refl _) _ | exact ((Below.refl _ _).alloc (Nat.le_refl _) _).drew | exact ((Below.refl _ _).alloc (Nat.le_refl _) _).alloc (by simp) _ | exact (((Below.refl _ _).alloc (Nat.le_refl _) _).alloc (by simp) _).drew) h710.out (by decide) g; have no := own_keep h610.out (by first | exact Below.refl _ _ | exact (Below.refl _ _).drew | exact (Below.refl _ _).alloc (Nat.le_refl _) _ | exact ((Below.refl _ _).alloc (Nat.le_refl _) _).drew | exact ((Below.refl _ _).alloc (Nat.le_refl _) _).alloc (by simp) _ | exact (((Below.refl _ _).alloc (Nat.le_refl _) _).alloc (by simp) _).drew) h710.out (by decide) g; have nB := bel_grown hbw10.out (by first | exact Below.refl _ _ | exact (Below.refl _ _).drew | exact (Below.refl _ _).alloc (Nat.le_refl _) _ | exact ((Below.refl _ _).alloc (Nat.le_refl _) _).drew | exact ((Below.refl _ _).alloc (Nat.le_refl _) _).alloc (by simp) _ | exact (((Below.refl _ _).alloc (Nat.le_refl _) _).alloc (by simp) _).drew) h710.out hbw10.out.size g; replace ho10 := Lib.hid n5; replace h610 := Lib.hid no; replace hbw10 := Lib.hid nB; replace h710 := Lib.hid hn; clear g n5 no nB hn))
          all_goals
            go_wp2_with fail
            go_roundw
            case rel =>
              have hlen2 : (A ++ sb).length = la + ns := by rw [List.length_append, ← hla.out, ← hns.out]
              refine ⟨i + 1, xs ++ [.int .i64 (ki % 256), .slice a np c], by rw [hfl.out]; omega, by go_num, ?_, ?_, h710.out, ?_, hbw10.out⟩
              · rw [hAs.out, hlen2]; exact ho10.out
              · rw [hend.out]; exact h610.out
              · have ef : fs.take (i + 1) = fs.take i ++ [frOf (ki, pi)] := by
                  obtain ⟨hil2, hie⟩ := List.getElem?_eq_some_iff.1 hfi
                  rw [List.take_succ_eq_append_getElem hil2, hie]
                have g1 := GR.snoc (frOf (ki, pi)) a c (hra.out) hpb.out _ _ hG.out
                rw [← ef] at g1
                have e1 : (((frOf (ki, pi)).1 : Nat) : Int) = ki % 256 := by show (((ki % 256).toNat : Nat) : Int) = ki % 256; omega
                have e2 : (frOf (ki, pi)).2.length = np := hplen.out
                rw [e1, e2] at g1
                exact GR.blocks (fun g hg => by rw [hbw10.out.block g hg, hbr.out.block g hg]) _ _ g1
            case measure => simp [intOf]; omega
      · obtain rfl : i = n0 := by omega
        have hft : fs.take i = fs := List.take_of_length_le (by rw [hfl.out]; exact Nat.le_refl _)
        rw [hft] at h5 hG
        have hAl := allF_len fs hok.out
        rw [hfl.out] at hAl
        have hA20 : (allF fs).length ≤ 20180 := by have := hn0.out; omega
        obtain ⟨y5, c5, rfl, hy5, hc5, hm5⟩ := own_len h5
        obtain ⟨y5', c5', e5, _, hr5⟩ := own_row h5 (allF_lt fs hok.out) (by omega)
        cases e5
        have hsa := scan_at fs (allF fs).length i hok.out (by rw [hfl.out]; exact Nat.le_refl _) (by rw [hft]; exact Nat.le_refl _) (fun h => by rw [hfl.out] at h; omega)
        rw [List.take_length, hft] at hsa
        have C := Lib.hid (scan_walk y5 (allF fs) c5 (allF fs).length wr hr5 rfl hc5 hm5 hy5 (by omega))
        obtain ⟨la, hla⟩ : ∃ la, la = (allF fs).length := ⟨_, rfl⟩
        rw [← hla] at C hA20 h5 hc5 hy5 hsa ⊢
        have hEr := GR.er _ _ hG
        replace hla := Lib.hid hla
        replace hsa := Lib.hid hsa
        replace h5 := Lib.hid h5
        replace h6 := Lib.hid h6
        replace h7 := Lib.hid h7
        replace hEr := Lib.hid hEr
        replace hr5 := Lib.hid hr5
        replace hbr := Lib.hid hbr
        clear hG hAl
        go_wp2_with fail
        refine C.out.mono ?_
        rintro e w2 ⟨k, v2, xs2, rfl, hk1, hk2, ho2, hF2, hb2⟩
        obtain rfl : k = i := scan_one_end hk1 hk2 hsa.out.2.1 hsa.out.2.2
        rw [hsa.out.1] at hF2 ⊢
        rw [show (fs, la).snd = la from rfl]
        have hF2' : FR w2 fs xs2 := hF2
        have hk20 : k ≤ 200000 := by have := hn0.out; omega
        have E1 := Lib.hid (equalgiven fs v2 u7 xs2 xs k wr.heap.size w.heap.size w2 ho2 (own_below h7.out hb2) (FR.er _ _ hF2') (ER.below hb2 _ _ hEr.out) hfl.out hk20)
        have hbw2 := hbr.out.trans (hb2.mono hbr.out.size)
        obtain ⟨m, hm, hmla⟩ : ∃ m : Nat, (IntKind.u64.wrap cut).tmod ((la : Int) + 1) = (m : Int) ∧ m ≤ la := by
          have h0 : 0 ≤ IntKind.u64.wrap cut := by rw [IntKind.wrap_u64]; omega
          refine ⟨(IntKind.u64.wrap cut % ((la : Int) + 1)).toNat, ?_, ?_⟩
          · rw [Int.tmod_eq_emod_of_nonneg h0]
            have := Int.emod_nonneg (IntKind.u64.wrap cut) (show (la : Int) + 1 ≠ 0 by omega)
            omega
          · have := Int.emod_lt_of_pos (IntKind.u64.wrap cut) (show 0 < (la : Int) + 1 by omega)
            have := Int.emod_nonneg (IntKind.u64.wrap cut) (show (la : Int) + 1 ≠ 0 by omega)
            omega
        have hw64 : IntKind.u64.wrap ((la : Int) + 1) = (la : Int) + 1 := by rw [IntKind.wrap_u64]; omega
        have hne : ((la : Int) + 1 == 0) = false := beq_eq_false_iff_ne.2 (by omega)
        have hr52 := Lib.hid (hr5.out.below hb2)
        have h62 := Lib.hid (own_below h6.out hb2)
        have h72 := Lib.hid (own_below h7.out hb2)
        have hEr2 := Lib.hid (ER.below hb2 _ _ hEr.out)
        replace hbw2 := Lib.hid hbw2
        clear C ho2 hF2 hF2' hb2 hk1 hk2
        go_wp2_with fail
        refine E1.out.mono ?_
        rintro e w3 ⟨rfl, hb3⟩
        have hbw3 := Lib.hid (hbw2.out.trans (hb3.mono hbw2.out.size))
        have hr53 := Lib.hid (hr52.out.below hb3)
        have h63 := own_below h62.out hb3
        have h73 := Lib.hid (own_below h72.out hb3)
        have hEr3 := Lib.hid (ER.below hb3 _ _ hEr2.out)
        obtain ⟨y6, c6, rfl, _, hc6, _⟩ := own_len h63
        have hend : ∀ W, W < k → ∃ g, y6 = some ⟨g, 0, none⟩ ∧ w3.cell? ⟨g, W, none⟩ = some (.int .i64 ((allF (fs.take (W + 1))).length : Int)) := by
          intro W hW
          rcases h63.2 with ⟨hv, h0⟩ | ⟨g, cap', cur, hv, hg, hh, hcc, hm', hz, ht⟩
          · omega
          · cases hv
            refine ⟨g, rfl, ?_⟩
            rw [cell_of_row _ _ _ _ _ _ hh, ← Array.getElem?_toList]
            have e : (cur.toList.take (k * 1))[W]? = (endsTo fs k)[W]? := by rw [ht]
            rw [Nat.mul_one, List.getElem?_take_of_lt hW] at e
            rw [e]
            simp [endsTo, hW]
        obtain ⟨y7, c7, rfl, _, hc7, _⟩ := own_len h73.out
        replace hend := Lib.hid hend
        clear E1 h62 h72 hEr2 hr52 hb3 h63
        go_wp2_with fail
        go_loop [12] (fun s12 => ∃ W : Nat, W ≤ k ∧ s12 = .int .i64 (W : Int) ∧ (allF (fs.take W)).length ≤ m) (fun s12 => k - (intOf s12).toNat)
        case atStart => exact ⟨0, Nat.zero_le _, rfl, by simp [allF]⟩
        case round =>
          obtain ⟨W, hWk, rfl, hWm⟩ := hrel
          by_cases hW : W < k
          · obtain ⟨g6, hy6, q6⟩ := hend.out W hW
            subst hy6
            by_cases hle : (allF (fs.take (W + 1))).length ≤ m
            · generalize hE : (allF (fs.take (W + 1))).length = en at *
              replace hE := Lib.hid hE
              go_wp2_with fail
              go_round
              case rel => exact ⟨W + 1, by omega, by go_num, by rw [hE.out]; exact hle⟩
              case measure => simp [intOf]; omega
            · have hle' : m < (allF (fs.take (W + 1))).length := by omega
              have hsW := scan_at fs m W hok.out (by rw [hfl.out]; exact hWk) hWm (fun h => by rw [hfl.out] at h; omega)
              have C2 := scan_walk y5 ((allF fs).take m) c5 m w3 (row_take hr53.out m) (by rw [List.length_take, ← hla.out]; omega) (by omega) hm5 (fun h => ⟨by have := (hy5 h).1; omega, (hy5 h).2⟩) (by omega)
              replace hsW := Lib.hid hsW
              replace C2 := Lib.hid C2
              generalize (allF (fs.take (W + 1))).length = en at *
              go_wp2_with fail
              refine C2.out.mono ?_
              rintro e w4 ⟨k2, v4, xs4, rfl, hj1, hj2, ho4, hF4, hb4⟩
              obtain rfl : k2 = W := scan_one_end hj1 hj2 hsW.out.2.1 hsW.out.2.2
              rw [hsW.out.1] at hF4 ⊢
              rw [show (fs.take k2, (allF (fs.take k2)).length).snd = (allF (fs.take k2)).length from rfl]
              have hF4' : FR w4 (fs.take k2) xs4 := hF4
              have E2 := Lib.hid (equalgiven (fs.take k2) v4 (.slice y7 k2 c7) xs4 (xs.take (k2 * 2)) k2 _ _ w4 ho4 (own_prefix (own_below h73.out hb4) (by omega)) (FR.er _ _ hF4') (ER.take k2 _ _ (ER.below hb4 _ _ hEr3.out)) (by rw [List.length_take, hfl.out]; omega) (by omega))
              have hbw4 := hbw3.out.trans (hb4.mono hbw3.out.size)
              have hpe0 : k2 = 0 → (allF (fs.take k2)).length = 0 := fun h => by rw [h]; simp [allF]
              have hq7 : 0 < k2 → ∃ g, (some ⟨g6, 0, none⟩ : Option Addr) = some ⟨g, 0, none⟩ ∧ w4.cell? ⟨g, k2 - 1, none⟩ = some (.int .i64 ((allF (fs.take k2)).length : Int)) := by
                intro h
                obtain ⟨g, hg, hq⟩ := hend.out (k2 - 1) (by omega)
                refine ⟨g, hg, ?_⟩
                rw [hb4.cell (p := ⟨g, k2 - 1, none⟩) (block_lt_of_cell hq), hq, show k2 - 1 + 1 = k2 by omega]
              generalize (allF (fs.take k2)).length = pe at *
              replace hbw4 := Lib.hid hbw4
              clear C2 ho4 hF4 hF4' hb4 hj1 hj2 hsW
              by_cases hk0 : k2 = 0
              · have hp0 := hpe0 hk0
                subst hk0
                subst hp0
                clear hpe0 hq7
                go_wp2_with fail
                refine E2.out.mono ?_
                rintro e w5 ⟨rfl, hb5⟩
                have hbw5 := Lib.hid (hbw4.out.trans (hb5.mono hbw4.out.size))
                clear hb5
                go_wp2_with fail
                refine (awake w5).mono ?_
                rintro e w6 ⟨rfl, hb6⟩
                have hbw6 := Lib.hid (hbw5.out.trans (hb6.mono hbw5.out.size))
                clear hb6
                go_wp2_with fail
                go_ret
                exact ⟨rfl, hbw6.out⟩
              · obtain ⟨g7, hg7, hc7'⟩ := hq7 (by omega)
                cases hg7
                obtain ⟨jj, rfl⟩ : ∃ jj, k2 = jj + 1 := ⟨k2 - 1, by omega⟩
                rw [Nat.add_sub_cancel] at hc7'
                clear hpe0 hq7
                go_wp2_with fail
                refine E2.out.mono ?_
                rintro e w5 ⟨rfl, hb5⟩
                have hbw5 := Lib.hid (hbw4.out.trans (hb5.mono hbw4.out.size))
                clear hb5
                go_wp2_with fail
                refine (awake w5).mono ?_
                rintro e w6 ⟨rfl, hb6⟩
                have hbw6 := Lib.hid (hbw5.out.trans (hb6.mono hbw5.out.size))
                clear hb6
                go_wp2_with fail
                go_ret
                exact ⟨rfl, hbw6.out⟩
          · have hWk2 : k ≤ W := by omega
            have hsW := scan_at fs m W hok.out (by rw [hfl.out]; exact hWk) hWm (fun h => by rw [hfl.out] at h; omega)
            have C2 := scan_walk y5 ((allF fs).take m) c5 m w3 (row_take hr53.out m) (by rw [List.length_take, ← hla.out]; omega) (by omega) hm5 (fun h => ⟨by have := (hy5 h).1; omega, (hy5 h).2⟩) (by omega)
            replace hsW := Lib.hid hsW
            replace C2 := Lib.hid C2
            go_wp2_with fail
            refine C2.out.mono ?_
            rintro e w4 ⟨k2, v4, xs4, rfl, hj1, hj2, ho4, hF4, hb4⟩
            obtain rfl : k2 = W := scan_one_end hj1 hj2 hsW.out.2.1 hsW.out.2.2
            rw [hsW.out.1] at hF4 ⊢
            rw [show (fs.take k2, (allF (fs.take k2)).length).snd = (allF (fs.take k2)).length from rfl]
            have hF4' : FR w4 (fs.take k2) xs4 := hF4
            have E2 := Lib.hid (equalgiven (fs.take k2) v4 (.slice y7 k2 c7) xs4 (xs.take (k2 * 2)) k2 _ _ w4 ho4 (own_prefix (own_below h73.out hb4) (by omega)) (FR.er _ _ hF4') (ER.take k2 _ _ (ER.below hb4 _ _ hEr3.out)) (by rw [List.length_take, hfl.out]; omega) (by omega))
            have hbw4 := hbw3.out.trans (hb4.mono hbw3.out.size)
            have hpe0 : k2 = 0 → (allF (fs.take k2)).length = 0 := fun h => by rw [h]; simp [allF]
            have hq7 : 0 < k2 → ∃ g, y6 = some ⟨g, 0, none⟩ ∧ w4.cell? ⟨g, k2 - 1, none⟩ = some (.int .i64 ((allF (fs.take k2)).length : Int)) := by
              intro h
              obtain ⟨g, hg, hq⟩ := hend.out (k2 - 1) (by omega)
              refine ⟨g, hg, ?_⟩
              rw [hb4.cell (p := ⟨g, k2 - 1, none⟩) (block_lt_of_cell hq), hq, show k2 - 1 + 1 = k2 by omega]
            generalize (allF (fs.take k2)).length = pe at *
            replace hbw4 := Lib.hid hbw4
            clear C2 ho4 hF4 hF4' hb4 hj1 hj2 hsW
            by_cases hk0 : k2 = 0
            · have hp0 := hpe0 hk0
              subst hk0
              subst hp0
              clear hpe0 hq7
              go_wp2_with fail
              refine E2.out.mono ?_
              rintro e w5 ⟨rfl, hb5⟩
              have hbw5 := Lib.hid (hbw4.out.trans (hb5.mono hbw4.out.size))
              clear hb5
              go_wp2_with fail
              refine (awake w5).mono ?_
              rintro e w6 ⟨rfl, hb6⟩
              have hbw6 := Lib.hid (hbw5.out.trans (hb6.mono hbw5.out.size))
              clear hb6
              go_wp2_with fail
              go_ret
              exact ⟨rfl, hbw6.out⟩
            · obtain ⟨g7, hg7, hc7'⟩ := hq7 (by omega)
              subst hg7
              obtain ⟨jj, rfl⟩ : ∃ jj, k2 = jj + 1 := ⟨k2 - 1, by omega⟩
              rw [Nat.add_sub_cancel] at hc7'
              clear hpe0 hq7
              go_wp2_with fail
              refine E2.out.mono ?_
              rintro e w5 ⟨rfl, hb5⟩
              have hbw5 := Lib.hid (hbw4.out.trans (hb5.mono hbw4.out.size))
              clear hb5
              go_wp2_with fail
              refine (awake w5).mono ?_
              rintro e w6 ⟨rfl, hb6⟩
              have hbw6 := Lib.hid (hbw5.out.trans (hb6.mono hbw5.out.size))
              clear hb6
              go_wp2_with fail
              go_ret
              exact ⟨rfl, hbw6.out⟩
end Go.Proofs.Ytmmpcpdokgahcaa
