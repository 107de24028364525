/- A row of timers that is written in place. -/
import Derived.Test.YtidoacdigedlnaaPush
set_option linter.unusedVariables false
set_option linter.unusedSimpArgs false
namespace Go.Proofs.Ytidoacdigedlnaa
open Go.RowKit

def flat : List TM → List Value
  | [] => []
  | x :: l => .string x.name :: .int .i64 x.due :: flat l
theorem flat_len : ∀ l : List TM, (flat l).length = l.length * 2
  | [] => rfl
  | x :: l => by simp [flat, flat_len l]; omega
theorem els_flat (S : Nat → Prop) (w : World) : ∀ l : List TM, Els 2 (TMAt S w) l (flat l)
  | [] => rfl
  | x :: l => ⟨[.string x.name, .int .i64 x.due], flat l, rfl, rfl, rfl, els_flat S w l⟩
theorem flat_els {S : Nat → Prop} {w : World} : ∀ {l : List TM} {xs : List Value}, Els 2 (TMAt S w) l xs → xs = flat l
  | [], xs, h => h
  | x :: l, xs, ⟨cs, ys, h1, h2, h3, h4⟩ => by
    have h3 : cs = [.string x.name, .int .i64 x.due] := h3
    rw [h1, h3, flat_els h4]; rfl
theorem flat_set : ∀ (l : List TM) (i : Nat) (x : TM), i < l.length → flat (l.set i x) = ((flat l).set (i * 2) (.string x.name)).set (i * 2 + 1) (.int .i64 x.due)
  | y :: l, 0, x, _ => rfl
  | y :: l, i + 1, x, h => by
    have ih := flat_set l i x (by simpa using h)
    show _ :: _ :: flat (l.set i x) = _
    rw [ih, show (i + 1) * 2 = i * 2 + 2 by omega]
    rfl
end Go.Proofs.Ytidoacdigedlnaa
