/- due.late's call, slices.IndexFunc. -/
import Derived.Test.YtidoacdigedlnaaPush
set_option linter.unusedVariables false
set_option linter.unusedSimpArgs false
namespace Go.Proofs.Ytidoacdigedlnaa
open Go.RowKit

theorem isLate (x : TM) (g : Nat) (t : Int) (w : World) (h : w.cell? ⟨g, 0, none⟩ = some (.int .i64 t)) : Calls Try.prog 37 #[.agg #[.string x.name, .int .i64 x.due], .pointer (some ⟨g, 0, none⟩)] w fun e w' => e = .returned (.bool (decide (t < x.due))) ∧ Below w.heap.size w w' := by
  have hb : Below w.heap.size w (w.alloc (.cells #[.string x.name, .int .i64 x.due] 52)) := (Below.refl _ _).alloc (Nat.le_refl _) _
  have q := cell_later h (.cells #[.string x.name, .int .i64 x.due] 52)
  replace hb := Lib.hid hb
  clear h
  go_enter Try.func37, Try.ntmps37
  go_wp2_with fail
  go_ret
  exact ⟨rfl, hb.out⟩
def idxF (p : TM → Bool) : List TM → Int
  | [] => -1
  | x :: l => if p x then 0 else (if idxF p l = -1 then -1 else idxF p l + 1)
theorem idxF_take {p : TM → Bool} : ∀ {l : List TM} {j : Nat} {x : TM}, (∀ y ∈ l.take j, p y = false) → l[j]? = some x → p x = true → idxF p l = j
  | y :: l, 0, x, _, hx, hp => by
    simp at hx; subst hx
    simp [idxF, hp]
  | y :: l, j + 1, x, h, hx, hp => by
    have h0 : p y = false := h y (by simp)
    have ih := idxF_take (l := l) (j := j) (x := x) (fun z hz => h z (by simp [hz])) (by simpa using hx) hp
    simp only [idxF, h0]
    rw [ih, if_neg (by simp), if_neg (by omega)]
    omega
theorem idxF_none {p : TM → Bool} : ∀ {l : List TM}, (∀ y ∈ l, p y = false) → idxF p l = -1
  | [], _ => rfl
  | y :: l, h => by
    simp only [idxF, h y (by simp)]
    rw [idxF_none (fun z hz => h z (by simp [hz]))]
    simp
def Enters (f : FuncId) : Prop := ∀ (args : Array Value) (w : World), (callFunc f args).run Try.prog w = .ok (.enter f args) w
theorem enters {f : FuncId} {fn : Func} {c : Code} (hf : Try.prog.funcs[f]? = some fn) (hname : (fn.name == "runtime.NumGoroutine") = false) (hb : fn.body = some c) : Enters f := by
  intro args w
  have h1 : ¬ fn.name = "runtime.NumGoroutine" := by simpa using hname
  simp [callFunc, hf, h1, hb]
def AsksT (w : World) (fw : Nat) (caps : Array Value) (p : TM → Bool) : Prop :=
  ∀ (w' : World) (x : TM), Below w.heap.size w w' → Calls Try.prog fw (#[.agg #[.string x.name, .int .i64 x.due]] ++ caps) w' fun e w'' => e = .returned (.bool (p x)) ∧ Below w'.heap.size w' w''
set_option maxHeartbeats 800000 in
theorem index (fw : Nat) (caps : Array Value) (p : TM → Bool) (w : World) (hent : Enters fw) (hp : AsksT w fw caps p) (a : Option Addr) (n cap : Nat) (l : List TM) (hs : Sl 2 (TMAt (Live w) w) (Live w) w a l) (hn : l.length = n) (h9 : n ≤ 1000000) :
    Calls Try.prog 56 #[.slice a n cap, .func (.func fw) #[] caps] w fun e w' => e = .returned (.int .i64 (idxF p l)) ∧ Below w.heap.size w w' := by
  replace hs := Lib.hid hs
  replace hn := Lib.hid hn
  replace hp := Lib.hid hp
  replace hent := Lib.hid hent
  go_enter Try.func56, Try.ntmps56
  go_wp2_with fail
  go_loopw [8] (fun i wr => ∃ j : Nat, j ≤ n ∧ i = .int .i64 (j : Int) ∧ (∀ y ∈ l.take j, p y = false) ∧ Below w.heap.size w wr) (fun i _ => n - (intOf i).toNat)
  case atStart => exact ⟨0, Nat.zero_le _, rfl, by simp, Below.refl _ _⟩
  case round =>
    obtain ⟨j, hj, rfl, hno, hbr⟩ := hrel
    by_cases hlt : j < n
    · obtain ⟨x, hx⟩ : ∃ x, l[j]? = some x := ⟨_, List.getElem?_eq_getElem (by rw [hn.out]; exact hlt)⟩
      obtain ⟨g, off, cs, rfl, hg, hcl, hct, hcr⟩ := hs.out.get j x hx
      have hct : cs = [.string x.name, .int .i64 x.due] := hct
      subst hct
      have hcr' := range_keep hcr (hbr.block _ hg)
      have q0 : wr.cell? ⟨g, off + j * 2, none⟩ = some (.string x.name) := by have := hcr' 0 _ rfl; simpa using this
      have q1 := hcr' 1 _ rfl
      have b1 : (0 : Int) ≤ (j : Int) := by omega
      have b2 : (j : Int) < (n : Int) := by omega
      have I := hp.out wr x hbr
      have hE := fun w => hent.out (#[.agg #[.string x.name, .int .i64 x.due]] ++ caps) w
      replace hno := Lib.hid hno
      replace hbr := Lib.hid hbr
      clear hcr hcr' hcl
      cases hpx : p x with
      | false =>
        rw [hpx] at I
        replace I := Lib.hid I
        replace hx := Lib.hid hx
        replace hpx := Lib.hid hpx
        go_wp2_with fail
        refine I.out.mono ?_
        rintro e w3 ⟨rfl, hb3⟩
        have hb := Lib.hid (hbr.out.trans (hb3.mono hbr.out.size))
        clear hb3 I
        go_wp2_with fail
        go_roundw
        case rel =>
          refine ⟨j + 1, by omega, by go_num, fun y hy => ?_, hb.out⟩
          rw [List.take_add_one, hx.out, Option.toList_some] at hy
          rcases List.mem_append.1 hy with hy | hy
          · exact hno.out y hy
          · rw [List.mem_singleton.1 hy]; exact hpx.out
        case measure => simp [intOf]; omega
      | true =>
        rw [hpx] at I
        have hf := Lib.hid (idxF_take hno.out hx hpx)
        replace I := Lib.hid I
        replace hx := Lib.hid hx
        replace hpx := Lib.hid hpx
        go_wp2_with fail
        refine I.out.mono ?_
        rintro e w3 ⟨rfl, hb3⟩
        have hb := Lib.hid (hbr.out.trans (hb3.mono hbr.out.size))
        clear hb3 I
        go_wp2_with fail
        go_ret
        exact ⟨by rw [hf.out]; rfl, hb.out⟩
    · obtain rfl : j = n := by omega
      have hf : idxF p l = -1 := idxF_none fun y hy => hno y (by rw [List.take_of_length_le (by rw [hn.out]; exact Nat.le_refl _)]; exact hy)
      replace hf := Lib.hid hf
      replace hno := Lib.hid hno
      replace hbr := Lib.hid hbr
      go_wp2_with fail
      go_ret
      exact ⟨by rw [hf.out]; rfl, hbr.out⟩
end Go.Proofs.Ytidoacdigedlnaa
