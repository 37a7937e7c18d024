/- vcOps, vcCode, vcFn: what is to be shown of a region, a body, a function; and that it then runs so. -/
import Derived.Test.YtiakadkooclelaaAh11
import Derived.LoopNIn
set_option linter.unusedVariables false
set_option linter.unusedSimpArgs false
namespace Go.Proofs.Ytiakadkooclelaa.Ah
open Go

structure guardA (x : Value) (want : Bool) (m : Kont → Hp → Prop) (K : Kont) (h : Hp) : Prop where
  fit : x ≠ junk ∧ x ≠ unk
  yes : x = .bool want → m K h
  no : x ≠ .bool want → K undef h
def guardV (n : Nat) (all : List Oper) (t : Fr) (j : Nat) : Value :=
  match (all[j]?).bind (·.dst) with
  | some d => ev n t (.tmp d)
  | none => undef
noncomputable def vcStep (P : Program) (w0 : World) (n : Nat) (all : List Oper) (o : Oper) (t : Fr) (K : Kont) (h : Hp) : Prop :=
  Option.rec (motive := fun _ => Prop) (vcOp P w0 n o t K h) (fun g => guardA (guardV n all t g.1) g.2 (vcOp P w0 n o t) K h) o.guard
theorem vcStep_def (P : Program) (w0 : World) (n : Nat) (all : List Oper) (o : Oper) (t : Fr) (K : Kont) (h : Hp) : vcStep P w0 n all o t K h = (match o.guard with
  | none => vcOp P w0 n o t K h
  | some (j, want) => guardA (guardV n all t j) want (vcOp P w0 n o t) K h) := by
  unfold vcStep
  cases o.guard <;> rfl
noncomputable def vcOps (P : Program) (w0 : World) (n : Nat) (all : List Oper) : List Oper → Fr → (Fr → Hp → Prop) → Hp → Prop
  | [], t, K, h => K t h
  | o :: os, t, K, h => vcStep P w0 n all o t (fun v h => vcOps P w0 n all os (putA t o.dst v) K h) h

def Fw (ro : Option Nat) : Fence := { Fence.wide with round := ro }

section
variable {P : Program} {w0 : World}

/-! ### One step of the machine -/
variable {ι : Inj} {h : Hp} {w : World} {K : Kont}

theorem noDefer {n : Nat} {o : Oper} {t : Fr} (hv : vcOp P w0 n o t K h) : ∀ c, o.op ≠ .defer c := by
  intro c e
  unfold vcOp at hv
  rw [e] at hv
  exact hv

theorem upon_of_out {ro : Option Nat} {ops : Array Oper} {Q : Exit → Act → World → Prop} {o : Oper} {a : Act} {next : Act → World → Prop} {res : Result Next} (ho : OpOut P w0 ι h K res)
    (hn : ∀ ι' h' v v' w', Ext ι h ι' h' → HRel w0 ι' h' w' → (v = junk ∨ VRel w0.heap.size h'.next ι' v v') → K v h' → next (a.put o.dst v') w') : o.uponIn (Fw ro) 0 P a next Q res := by
  have hund : ∀ nx ι', VRel w0.heap.size nx ι' undef undef := fun nx ι' => .tuple _ _ rfl (fun i v v' h => by simp at h)
  cases res with
  | halt x w' => exact ho.elim
  | ok x w' =>
    cases x with
    | value v' =>
      obtain ⟨ι', h', v, g1, g2, g3, g4⟩ := ho
      exact hn ι' h' v v' w' g1 g2 g3 g4
    | skip =>
      obtain ⟨ι', h', g1, g2, g3⟩ := ho
      exact hn ι' h' undef undef w' g1 g2 (.inr (hund _ _)) g3
    | enter f args' =>
      obtain ⟨args, g1, g2, g3⟩ := ho
      refine ⟨fun hd => by simp [Fw, Fence.wide] at hd, ?_⟩
      have := (g3.2 ι w' args' g1 g2).mono (R' := fun
        | .returned v, w'' => next (a.put o.dst v) w''
        | .panicked chain, w'' => Q (.panic chain) a w''
        | .outgrown, _ => LetsOut Q) (by
          rintro e w'' ⟨v', ι', h', v, rfl, q1, q2, q3, q4⟩
          exact hn ι' h' v v' w'' q1 q2 (.inr q3) q4)
      exact this
    | round l f tmps as bd =>
      refine ⟨fun hd => by simp [Fw, Fence.wide] at hd, ?_⟩
      have := RoundIn.mono (R' := fun
        | .returned v, w'' => next (a.put o.dst v) w''
        | .panicked chain, w'' => Q (.panic chain) a w''
        | .outgrown, _ => LetsOut Q) ho (by
          rintro e w'' ⟨v', ι', h', v, rfl, q1, q2, q3, q4⟩
          exact hn ι' h' v v' w'' q1 q2 (.inr q3) q4)
      exact this
    | _ => exact ho.elim

theorem wanted_none {o : Oper} (hg : o.guard = none) (y : Nat → Option Bool) : Region.wanted o y = true := by simp [Region.wanted, hg]

theorem guard_yield {n : Nat} {ops : Array Oper} {t : Fr} {a : Act} {j : Nat} {want : Bool} (f : FRel w0.heap.size h.next ι n t a.tmps) (hj : guardV n ops.toList t j ≠ junk) (hu : guardV n ops.toList t j ≠ unk) :
    (yielded ops a.tmps j == some want) = true ↔ guardV n ops.toList t j = .bool want := by
  unfold guardV at hj hu ⊢
  unfold yielded
  have e : (ops.toList[j]?).bind (·.dst) = (ops[j]?).bind (·.dst) := by simp
  rw [e] at hj hu ⊢
  cases hd : (ops[j]?).bind (·.dst) with
  | none => simp [undef]
  | some d =>
    rw [hd] at hj hu
    simp only [ev] at hj hu ⊢
    split at hj
    case isFalse => exact absurd rfl hj
    rename_i hdn
    rw [if_pos hdn]
    have hr := f.2 d hdn hj
    have hdl : d < a.tmps.size := by rw [f.1]; exact hdn
    have hgd : a.tmps.getD d undef = a.tmps[d] := by simp [Array.getD, hdl]
    rw [hgd] at hr
    simp only [Option.bind_some, Array.getElem?_eq_getElem hdl]
    generalize a.tmps[d] = y at hr
    generalize t d = x at hr hj hu
    rw [if_pos hdn] at hu
    cases hr <;> first | exact absurd rfl hu | simp

theorem step_sound {ro : Option Nat} {n : Nat} {ops : Array Oper} {Q : Exit → Act → World → Prop} {o : Oper} {t : Fr} {a : Act} {next : Act → World → Prop} (r : HRel w0 ι h w) (f : FRel w0.heap.size h.next ι n t a.tmps)
    (hv : vcStep P w0 n ops.toList o t K h)
    (hn : ∀ ι' h' v v' w', Ext ι h ι' h' → HRel w0 ι' h' w' → (v = junk ∨ VRel w0.heap.size h'.next ι' v v') → K v h' → next (a.put o.dst v') w') :
    if Region.wanted o (yielded ops a.tmps) then o.wpIn (Fw ro) 0 P a w next Q else (∀ f, o.about P w a.eval = some f → (Fw ro).fn f) ∧ next (a.put o.dst undef) w := by
  have hund : VRel w0.heap.size h.next ι undef undef := .tuple _ _ rfl (fun i v v' h => by simp at h)
  have hrun : vcOp P w0 n o t K h → o.wpIn (Fw ro) 0 P a w next Q := by
    intro hv
    refine ⟨fun _ _ => trivial, ?_⟩
    rw [Oper.semAt_eq _ _ _ (noDefer hv)]
    exact upon_of_out (ops := ops) (vcOp_sound r (fun x hx => f.eval x hx) (fun _ => rfl) hv) hn
  rw [vcStep_def] at hv
  split at hv
  · rename_i hg
    rw [if_pos (wanted_none hg _)]
    exact hrun hv
  · rename_i j want hg
    obtain ⟨⟨hj, hu⟩, h1, h2⟩ := hv
    have key := guard_yield (w0 := w0) (want := want) (ops := ops) f hj hu
    have hw : Region.wanted o (yielded ops a.tmps) = (yielded ops a.tmps j == some want) := by simp [Region.wanted, hg]
    by_cases hy : guardV n ops.toList t j = .bool want
    · rw [if_pos (by rw [hw]; exact key.2 hy)]
      exact hrun (h1 hy)
    · rw [if_neg (by rw [hw]; exact fun e => hy (key.1 e))]
      exact ⟨fun _ _ => trivial, hn ι h undef undef w (Ext.refl _ _) r (.inr hund) (h2 hy)⟩
end
end Go.Proofs.Ytiakadkooclelaa.Ah
