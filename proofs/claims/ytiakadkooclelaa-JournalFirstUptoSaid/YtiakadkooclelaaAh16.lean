/- More words for the printed functions, and where a loop stands in a text. -/
import Derived.Test.YtiakadkooclelaaAh15
set_option linter.unusedVariables false
set_option linter.unusedSimpArgs false
namespace Go.Proofs.Ytiakadkooclelaa.Ah
open Go

def buildA (ps : List (Nat × Nat × Bool × Value)) (z : List Value) (K : Kont) : Hp → Prop := fillA ps z fun cs h => K (.agg cs.toArray) h
def bslA (ps : List (Nat × Nat × Bool × Value)) (z : List Value) (len s : Nat) (K : Kont) (h : Hp) : Prop :=
  fillA ps z (fun cs h => K (.slice (some ⟨h.next, 0, none⟩) len len) (h.new cs s)) h
def mkFnA (f : FuncId) (a c : List Value) (K : Kont) (h : Hp) : Prop := (∀ v, v ∈ a ++ c → v ≠ junk) ∧ K (.func (.func f) a.toArray c.toArray) h
def lenStr (x : Value) : Option Value := match x with | .string s => some (.int .i64 (s.size : Int)) | _ => none
def lenSl (x : Value) : Option Value := match x with | .slice _ n _ => some (.int .i64 (n : Int)) | _ => none
def callA (P : Program) (w0 : World) (f : FuncId) (args : List Value) (K : Kont) (h : Hp) : Prop := ACalls P w0 f args h K
def allA : List (Hp → Prop) → Hp → Prop
  | [], _ => True
  | a :: l, h => a h ∧ allA l h
def stillA (G : List (Hp → Prop)) (k : Hp → Prop) (h : Hp) : Prop := allA G h ∧ k h
def sameQ (m : Kont → Hp → Prop) (v : Value) (h0 : Hp) : Prop := m (fun v' h' => v' = v ∧ h' = h0) h0
def endA (k : Hp → Prop) (h : Hp) : Prop := ([] : List Nat) = [] ∧ k h

def loopsOf : Code → List Code
  | .seq a b => loopsOf a ++ loopsOf b
  | .cond _ a b => loopsOf a ++ loopsOf b
  | .block _ c => loopsOf c
  | .loop c => c :: loopsOf c
  | .rangeFunc _ _ a b => loopsOf a ++ loopsOf b
  | _ => []
def loopAt (fn : Func) (i : Nat) : Code :=
  match fn.body with
  | some c => (loopsOf c).getD i .skip
  | none => .skip
noncomputable def stepL (C : Cx) (draw : List Oper → Fr → (Fr → Hp → Prop) → Hp → Prop) (c : Code) : Fr → (Fr → Hp → Prop) → List (Fr → Hp → Prop) → Hp → Prop :=
  fun t R K h => vcCode C draw c t (fun e t h => match e with
    | .normal => R (scrub (keepOf C.ks (keyOf c)).1 t) h
    | .exit id => pickK (outs c) K (some id) (scrub (keepOf C.ks (keyOf c)).2 t) h
    | .ret => pickK (outs c) K none (scrub (keepOf C.ks (keyOf c)).2 t) h
    | _ => False) h

theorem acalls_of_eq {P : Program} {w0 : World} {f : FuncId} {fn : Func} {n : Nat} {ks : List (Nat × List Nat × List Nat)} {draw : List Oper → Fr → (Fr → Hp → Prop) → Hp → Prop} {args : List Value} {h : Hp} {R : Kont} {S : Prop}
    (hf : P.funcs[f]? = some fn) (hn : fn.ntmps = n) (hd : DrawOK P w0 n draw) (hl : args.length ≤ n) (hj : ∀ v, v ∈ args → v ≠ junk)
    (e : vcFn ⟨P, w0, n, ks⟩ draw fn args R h = S) (hv : S) : ACalls P w0 f args h R := by
  subst hn
  exact acalls_of_vc hf hd hl hj (e ▸ hv)

end Go.Proofs.Ytiakadkooclelaa.Ah
