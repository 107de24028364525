/- Rows of frames whose payloads lie anywhere; slices.EqualFunc over them; an append inside a region that draws. -/
import Derived.Test.YtmmpcpdokgahcaaPlain
import Derived.Deep.RegionLaw
set_option linter.unusedVariables false
namespace Go.Proofs.Ytmmpcpdokgahcaa
open Go.RowKit CM

/-- the cells of a row of frames; payloads below block B, where they have bytes -/
def GR (w : World) (B : Nat) : List Fr → List Value → Prop
  | [], xs => xs = []
  | f :: fs, xs => ∃ a cap ys, xs = .int .i64 (f.1 : Int) :: .slice a f.2.length cap :: ys ∧ Row w a f.2 ∧ (∀ ad, a = some ad → f.2 ≠ [] → ad.block < B) ∧ GR w B fs ys
/-- the same, payloads anywhere -/
def ER (w : World) : List Fr → List Value → Prop
  | [], xs => xs = []
  | f :: fs, xs => ∃ a cap ys, xs = .int .i64 (f.1 : Int) :: .slice a f.2.length cap :: ys ∧ Row w a f.2 ∧ ER w fs ys
theorem GR.er {w : World} {B : Nat} : ∀ (fs : List Fr) (xs : List Value), GR w B fs xs → ER w fs xs
  | [], xs, h => h
  | f :: fs, xs, h => by
    obtain ⟨a, cap, ys, e, hr, _, h4⟩ := h
    exact ⟨a, cap, ys, e, hr, GR.er fs ys h4⟩
theorem FR.er {w : World} : ∀ (fs : List Fr) (xs : List Value), FR w fs xs → ER w fs xs
  | [], xs, h => h
  | f :: fs, xs, h => by
    obtain ⟨a, cap, ys, e, hr, _, _, h4⟩ := h
    exact ⟨a, cap, ys, e, hr, FR.er fs ys h4⟩
theorem row_nil' (w : World) (a : Option Addr) : Row w a [] := ⟨fun c hc => (by cases hc), by simp, .inl rfl⟩
theorem GR.below {w w' : World} {B : Nat} (hb : Below B w w') : ∀ (fs : List Fr) (xs : List Value), GR w B fs xs → GR w' B fs xs
  | [], xs, h => h
  | f :: fs, xs, h => by
    obtain ⟨a, cap, ys, e, hr, h3, h4⟩ := h
    refine ⟨a, cap, ys, e, ?_, h3, GR.below hb fs ys h4⟩
    by_cases hl : f.2 = []
    · rw [hl]; exact row_nil' _ _
    · exact row_change hr fun ad ha => hb.block _ (h3 ad ha hl)
theorem GR.snoc {w : World} {B : Nat} (f : Fr) (a : Option Addr) (cap : Nat) (hr : Row w a f.2) (h3 : ∀ ad, a = some ad → f.2 ≠ [] → ad.block < B) :
    ∀ (fs : List Fr) (xs : List Value), GR w B fs xs → GR w B (fs ++ [f]) (xs ++ [.int .i64 (f.1 : Int), .slice a f.2.length cap])
  | [], xs, h => by
    have h : xs = [] := h
    subst h
    exact ⟨a, cap, [], rfl, hr, h3, rfl⟩
  | g :: fs, xs, h => by
    obtain ⟨a', cap', ys, rfl, hr', h3', h4⟩ := h
    exact ⟨a', cap', _, rfl, hr', h3', GR.snoc f a cap hr h3 fs ys h4⟩
theorem ER.below {w w' : World} (hb : Below w.heap.size w w') : ∀ (fs : List Fr) (xs : List Value), ER w fs xs → ER w' fs xs
  | [], xs, h => h
  | f :: fs, xs, h => by
    obtain ⟨a, cap, ys, e, hr, h4⟩ := h
    exact ⟨a, cap, ys, e, hr.below hb, ER.below hb fs ys h4⟩
theorem ER.take {w : World} : ∀ (k : Nat) (fs : List Fr) (xs : List Value), ER w fs xs → ER w (fs.take k) (xs.take (k * 2))
  | 0, fs, xs, h => by simp [ER]
  | k + 1, [], xs, h => by
    have h : xs = [] := h
    subst h; simp [ER]
  | k + 1, f :: fs, xs, h => by
    obtain ⟨a, cap, ys, rfl, hr, h4⟩ := h
    refine ⟨a, cap, ys.take (k * 2), ?_, hr, ER.take k fs ys h4⟩
    rw [show (k + 1) * 2 = k * 2 + 1 + 1 by omega]
    rfl
theorem ER.get {w : World} : ∀ (fs : List Fr) (xs : List Value) (i : Nat) (f : Fr), ER w fs xs → fs[i]? = some f → ∃ a cap, xs[i * 2]? = some (.int .i64 (f.1 : Int)) ∧ xs[i * 2 + 1]? = some (.slice a f.2.length cap) ∧ Row w a f.2
  | g :: fs, xs, 0, f, h, hf => by
    obtain ⟨a, cap, ys, rfl, hr, _⟩ := h
    simp at hf; subst hf
    exact ⟨a, cap, rfl, rfl, hr⟩
  | g :: fs, xs, i + 1, f, h, hf => by
    obtain ⟨a, cap, ys, rfl, _, h4⟩ := h
    obtain ⟨a', cap', e1, e2, e3⟩ := ER.get fs ys i f h4 (by simpa using hf)
    refine ⟨a', cap', ?_, ?_, e3⟩
    · rw [show (i + 1) * 2 = i * 2 + 1 + 1 by omega]; simpa using e1
    · rw [show (i + 1) * 2 + 1 = i * 2 + 1 + 1 + 1 by omega]; simpa using e2
/-- the first of what is owned -/
theorem own_prefix {w : World} {B n s k : Nat} {e : TypeId} {a : Option Addr} {cap : Nat} {xs : List Value} (h : w.ownsRow B e s (.slice a n cap) n xs) (hk : k ≤ n) : w.ownsRow B e s (.slice a k cap) k (xs.take (k * s)) := by
  obtain ⟨h1, h2⟩ := h
  have hks : k * s ≤ n * s := Nat.mul_le_mul_right s hk
  refine ⟨by rw [List.length_take, h1]; omega, ?_⟩
  rcases h2 with ⟨hv, h0⟩ | ⟨g, cap', cur, hv, hg, hh, hc, hm, hz, ht⟩
  · cases hv
    obtain rfl : k = 0 := by omega
    exact .inl ⟨rfl, rfl⟩
  · cases hv
    refine .inr ⟨g, cap, cur, rfl, hg, hh, by omega, hm, hz, ?_⟩
    rw [← ht, List.take_take, Nat.min_eq_left hks]
theorem step_append_own {P : Program} {ops : Array Oper} {o : Oper} {a : Act} {w : World} {K : Act → World → Prop} {Q : Exit → Act → World → Prop} {E : Prop}
    (hg : o.guard = none) (s x : Operand) (t : TypeId) (hop : o.op = Op.call { callee := Callee.builtin Builtin.append, args := #[s, x], argTypes := #[t, t] })
    (base : Nat) (e : TypeId) (i : TypeInfo) (z : Value) (size bytes : Nat) (h1 : P.underlying t = some (.slice e)) (h2 : P.info? e = some i) (h3 : i.zero = some z) (h4 : i.size = size) (h5 : i.bytes = bytes) (h6 : z.cells.size = size) (h7 : 0 < size)
    (v : Value) (n : Nat) (xs : List Value) (hs : a.eval s = v) (hown : w.ownsRow base e size v n xs)
    (ad : Addr) (m c : Nat) (news : List Value) (hx : a.eval x = .slice (some ad) m c) (hn : news.length = m * size) (hc : ∀ j u, news[j]? = some u → w.cell? (ad.add j) = some u) (h1c : ∀ u ∈ news, u.oneCell' = true)
    (b1 : n + m ≤ maxLen) (b2 : (n + m) * bytes ≤ 140737488355328) (hbase : base ≤ w.heap.size)
    (hK : ∀ v' w', w'.ownsRow base e size v' (n + m) (xs ++ news) → w.grownBy w' v.ownBlock → K (a.put o.dst v') w') :
    if Region.wanted o (yielded ops a.tmps) = true then Oper.wp P o a w K Q else E := by
  have hw : Region.wanted o (yielded ops a.tmps) = true := by simp [Region.wanted, hg]
  rw [if_pos hw]
  exact wp_append_own w s x t hop base e i z size bytes h1 h2 h3 h4 h5 h6 h7 v n xs hs hown ad m c news hx hn hc h1c b1 b2 hbase fun v' w' r1 r2 _ => hK v' w' r1 r2
/-- a row of another type is kept when one grows -/
theorem own_grown {w w' : World} {B B' s s' n n' : Nat} {e e' : TypeId} {v v' : Value} {xs ys : List Value} (h : w.ownsRow B e s v n xs) (h' : w.ownsRow B' e' s' v' n' ys) (hne : e ≠ e') (g : w.grownBy w' v'.ownBlock) : w'.ownsRow B e s v n xs := by
  obtain ⟨h1, h2⟩ := h
  refine ⟨h1, ?_⟩
  rcases h2 with h2 | ⟨b, cap, cur, hv, hb, hh, r⟩
  · exact .inl h2
  · refine .inr ⟨b, cap, cur, hv, hb, ?_, r⟩
    rw [g.block b (Array.getElem?_eq_some_iff.1 hh).1 (fun ee => own_ne h' hh hne ee.symm)]
    exact hh
theorem equalgiven (fs : List Fr) (v u : Value) (xs ys : List Value) (n B B' : Nat) (w : World) (hv : w.ownsRow B 29 2 v n xs) (hu : w.ownsRow B' 29 2 u n ys) (hx : ER w fs xs) (hy : ER w fs ys) (hn : fs.length = n) (hn2 : n ≤ 200000) :
    Calls Try.prog 17 #[v, u, .func (.func 16) #[] #[]] w fun e w' => e = .returned (.bool true) ∧ Below w.heap.size w w' := by
  by_cases h0 : n = 0
  · subst h0
    obtain ⟨x1, c1, rfl, _⟩ := own_len hv
    obtain ⟨x2, c2, rfl, _⟩ := own_len hu
    go_enter Try.func17, Try.ntmps17
    go_wp2_with fail
    refine wp_loop_rounds 1 ?_
    rw [rounds_succ]
    go_wp2_with fail
    go_ret
    exact ⟨rfl, Below.refl _ _⟩
  obtain ⟨g, c1, rfl, hg1, hc1, hcx⟩ := own_cells hv (by omega)
  obtain ⟨g', c2, rfl, hg2, hc2, hcy⟩ := own_cells hu (by omega)
  replace hcx := Lib.hid hcx
  replace hcy := Lib.hid hcy
  replace hx := Lib.hid hx
  replace hy := Lib.hid hy
  replace hn := Lib.hid hn
  clear hv hu
  go_enter Try.func17, Try.ntmps17
  go_wp2_with fail
  go_loopw [17] (fun j wr => ∃ i : Nat, i ≤ n ∧ j = .int .i64 (i : Int) ∧ Below w.heap.size w wr) (fun j _ => n - (intOf j).toNat)
  case atStart => exact ⟨0, Nat.zero_le _, rfl, Below.refl _ _⟩
  case round =>
    obtain ⟨i, hi, rfl, hbr⟩ := hrel
    by_cases hin : i < n
    · obtain ⟨f, hf⟩ : ∃ f, fs[i]? = some f := ⟨_, List.getElem?_eq_getElem (by rw [hn.out]; exact hin)⟩
      obtain ⟨a, ca, ex0, ex1, hra⟩ := hx.out.get _ _ _ _ hf
      obtain ⟨b, cb, ey0, ey1, hrb⟩ := hy.out.get _ _ _ _ hf
      have q0 : wr.cell? ⟨g, i * 2, none⟩ = some (.int .i64 (f.1 : Int)) := hcx.out wr (hbr.block _ hg1) _ _ ex0
      have q1 : wr.cell? ⟨g, i * 2 + 1, none⟩ = some (.slice a f.2.length ca) := hcx.out wr (hbr.block _ hg1) _ _ ex1
      have q2 : wr.cell? ⟨g', i * 2, none⟩ = some (.int .i64 (f.1 : Int)) := hcy.out wr (hbr.block _ hg2) _ _ ey0
      have q3 : wr.cell? ⟨g', i * 2 + 1, none⟩ = some (.slice b f.2.length cb) := hcy.out wr (hbr.block _ hg2) _ _ ey1
      have hg1' : g < wr.heap.size := Nat.lt_of_lt_of_le hg1 hbr.size
      have hg2' : g' < wr.heap.size := Nat.lt_of_lt_of_le hg2 hbr.size
      have hB3 : ∀ o o', Below wr.heap.size wr ((wr.alloc o).alloc o') := fun o o' => ((Below.refl _ _).alloc (Nat.le_refl _) _).alloc (by simp) _
      have M := fun w' (hb : Below wr.heap.size wr w') => same_walk f.1 f.2 a b ca cb f.2.length w' ((hra.below hbr).below hb) ((hrb.below hbr).below hb) rfl
      replace M := Lib.hid M
      replace hB3 := Lib.hid hB3
      replace hbr := Lib.hid hbr
      clear ex0 ex1 ey0 ey1 hra hrb hf
      go_wp2_with (go_at_call 16; refine (M.out _ ?_).mono ?_; exact hB3.out _ _; rintro e w1 ⟨rfl, hb1⟩)
      go_roundw
      case rel => exact ⟨i + 1, by omega, by go_num, hbr.out.trans (((hB3.out _ _).trans (hb1.mono (hB3.out _ _).size)).mono hbr.out.size)⟩
      case measure => simp [intOf]; omega
    · have : i = n := by omega
      subst this
      go_wp2_with fail
      go_ret
      exact ⟨rfl, hbr⟩
end Go.Proofs.Ytmmpcpdokgahcaa
