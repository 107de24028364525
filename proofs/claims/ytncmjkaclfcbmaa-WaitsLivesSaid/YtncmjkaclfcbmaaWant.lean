/- A whole row is read behind a guard. -/
import Derived.Test.YtncmjkaclfcbmaaPush
set_option linter.unusedVariables false
namespace Go.Proofs.Ytncmjkaclfcbmaa
open Go.RowKit
/-- a whole row is read, behind a guard that says yes -/
theorem wpList_load_want {P : Program} {ops : Array Oper} {rest : List Oper} {o : Oper} {a : Act} {w : World} {Q : Exit → Act → World → Prop} (hw : Region.wanted o (yielded ops a.tmps) = true) (ty : TypeId) (x : Operand) (ho : o.op = .load ty x)
    (g : Nat) (hx : a.eval x = .pointer (some ⟨g, 0, none⟩)) (t : TypeId) (cs : Array Value) (fr : Nat × Nat) (d : TypeDesc) (hg : w.heap[g]? = some (.cells cs t fr))
    (hu : P.underlying ty = some d) (hd : (match d with | .struct _ | .array _ _ => true | _ => false) = true) (hi : (P.info? ty).map (·.size) = some cs.size)
    (h : wpList P ops Q rest (a.put o.dst (.agg cs)) w) : wpList P ops Q (o :: rest) a w :=
  wpList_step fun K hK => by rw [if_pos hw]; exact wp_load_row ty x ho g hx t cs fr d hg hu hd hi (hK _ _ h)
/-- AT A STEP OF A REGION THAT DRAWS: 'append(out, x)' -/
theorem step_push {Q' : Program} {α : Type} {P : (Nat → Prop) → World → α → List Value → Prop} (hP : Carried P) {w : World} {ops : Array Oper} {o : Oper} {a : Act} {K : Act → World → Prop} {Q : Exit → Act → World → Prop} {E : Prop} (hgd : o.guard = none) (s x : Operand) (ty : TypeId)
    (ho : o.op = .call { callee := .builtin .append, args := #[s, x], argTypes := #[ty, ty] })
    (B : Nat) (e : TypeId) (i : TypeInfo) (z : Value) (size bytes : Nat) (hu : Q'.underlying ty = some (.slice e)) (hi : Q'.info? e = some i) (hz : i.zero = some z)
    (hsize : i.size = size) (hby : i.bytes = bytes) (hzs : z.cells.size = size) (hsz : 0 < size)
    (v : Value) (l : List α) (hs : a.eval s = v) (hout : Out P size e B w v l)
    (g c : Nat) (t : α) (cs : List Value) (S : Nat → Prop) (hx : a.eval x = .slice (some ⟨g, 0, none⟩) 1 c) (hc : cs.length = size) (ht : P S w t cs) (hS : ∀ b, S b → B ≤ b ∧ b < w.heap.size ∧ v.ownBlock ≠ some b) (hr : w.rangeAt g 0 cs) (h1 : ∀ u ∈ cs, u.oneCell' = true)
    (h63 : l.length + 1 ≤ maxLen) (hbytes : (l.length + 1) * bytes ≤ 140737488355328) (hbase : B ≤ w.heap.size)
    (h : ∀ v' w', Out P size e B w' v' (l ++ [t]) → w.grownBy w' v.ownBlock → Below B w w' → K (a.put o.dst v') w') : if Region.wanted o (yielded ops a.tmps) = true then Oper.wp Q' o a w K Q else E := by
  have hw : Region.wanted o (yielded ops a.tmps) = true := by simp [Region.wanted, hgd]
  rw [if_pos hw]
  obtain ⟨xs, o1, o2⟩ := hout
  obtain ⟨v', w', hr', k1, k2, _, k3⟩ := run_append_own_at (P := Q') w B ty o.type e i z size bytes hu hi hz hsize hby hzs hsz v l.length xs o1 ⟨g, 0, none⟩ 1 c cs (by omega) (fun j u hu' => by rw [Addr.add_mid]; exact hr j u hu') h1 h63 hbytes hbase
  unfold Oper.wp execOp
  simp only [ho, resolve, invoke, builtin, Sem.run_bind, Sem.run_pure, Result.andThen_ok, List.map_toArray, List.map_cons, List.map_nil, hs, hx, hr']
  exact h _ _ (Out.push hP o1 o2 hc ht hS k1 k2 k3) k2 ((Below.refl _ _).grown k2 hbase fun k hk => (own_from o1 k hk).1)
end Go.Proofs.Ytncmjkaclfcbmaa
