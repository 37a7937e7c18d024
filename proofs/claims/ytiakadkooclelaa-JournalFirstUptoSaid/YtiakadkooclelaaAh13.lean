/- vcCode, vcFn and their soundness (regions that draw their order: XAh14). -/
import Derived.Test.YtiakadkooclelaaAh12
set_option linter.unusedVariables false
set_option linter.unusedSimpArgs false
namespace Go.Proofs.Ytiakadkooclelaa.Ah
open Go

abbrev KontX := Exit → Fr → Hp → Prop

def mkFr : List (Nat × Value) → Fr
  | [] => fun _ => junk
  | (d, v) :: l => upd (mkFr l) d v
def scrub (keep : List Nat) (t : Fr) : Fr := mkFr (keep.map fun i => (i, t i))

def condA (c : Value) (x y : Hp → Prop) (h : Hp) : Prop := ∃ q, c = .bool q ∧ (q = true → x h) ∧ (q = false → y h)
def outs : Code → List (Option Nat)
  | .exit id => [some id]
  | .ret => [none]
  | .seq a b => outs a ++ (outs b).filter fun x => !((outs a).contains x)
  | .cond _ a b => outs a ++ (outs b).filter fun x => !((outs a).contains x)
  | .block id c => (outs c).filter fun x => x != some id
  | .loop c => outs c
  | .rangeFunc _ _ _ b => outs b
  | _ => []
def exitOf : Option Nat → Exit
  | some id => .exit id
  | none => .ret
def pickK : List (Option Nat) → List (Fr → Hp → Prop) → Option Nat → Fr → Hp → Prop
  | o :: os, k :: ks, x, t, h => bif o == x then k t h else pickK os ks x t h
  | _, _, _, _, _ => False
def loopA (step : Fr → (Fr → Hp → Prop) → List (Fr → Hp → Prop) → Hp → Prop) : Nat → Fr → List (Fr → Hp → Prop) → Hp → Prop
  | 0, _, _, _ => False
  | m + 1, t, K, h => step t (fun t h => loopA step m t K h) K h

theorem pickK_map {K : KontX} {x : Option Nat} {t : Fr} {h : Hp} : ∀ {os : List (Option Nat)}, pickK os (os.map fun o t h => K (exitOf o) t h) x t h → K (exitOf x) t h := by
  intro os
  induction os with
  | nil => intro hv; exact hv.elim
  | cons o os ih =>
    intro hv
    simp only [List.map_cons, pickK] at hv
    cases e : o == x with
    | true => rw [e] at hv; have := eq_of_beq e; subst this; exact hv
    | false => rw [e] at hv; exact ih hv

def keyOf : Code → Nat
  | .region id _ _ => id
  | .seq a _ => keyOf a
  | .block _ c => keyOf c
  | .loop c => keyOf c
  | .cond _ a _ => keyOf a
  | .scope c => keyOf c
  | .rangeFunc _ _ a _ => keyOf a
  | _ => 0
def keepOf (ks : List (Nat × List Nat × List Nat)) (k : Nat) : List Nat × List Nat := (ks.lookup k).getD ([], [])

structure Cx where
  P : Program
  w0 : World
  n : Nat
  ks : List (Nat × List Nat × List Nat)

noncomputable def vcCode (C : Cx) (draw : List Oper → Fr → (Fr → Hp → Prop) → Hp → Prop) : Code → Fr → KontX → Hp → Prop
  | .skip, t, K, h => K .normal t h
  | .region _ ops d, t, K, h => bif d then draw ops.toList t (fun t h => K .normal t h) h else vcOps C.P C.w0 C.n ops.toList ops.toList t (fun t h => K .normal t h) h
  | .seq a b, t, K, h => vcCode C draw a t (fun e t h => match e with | .normal => vcCode C draw b t K h | e => K e t h) h
  | .cond c x y, t, K, h => condA (ev C.n t c) (fun h => vcCode C draw x t K h) (fun h => vcCode C draw y t K h) h
  | .block id c, t, K, h => vcCode C draw c t (fun e t h => match e with | .exit id' => if id' = id then K .normal t h else K (.exit id') t h | e => K e t h) h
  | .loop c, t, K, h => ∃ m, loopA (fun t R K h => vcCode C draw c t (fun e t h => match e with | .normal => R (scrub (keepOf C.ks (keyOf c)).1 t) h | .exit id => pickK (outs c) K (some id) (scrub (keepOf C.ks (keyOf c)).2 t) h | .ret => pickK (outs c) K none (scrub (keepOf C.ks (keyOf c)).2 t) h | _ => False) h) m (scrub (keepOf C.ks (keyOf c)).1 t) ((outs c).map fun o t h => K (exitOf o) t h) h
  | .exit id, t, K, h => K (.exit id) t h
  | .ret, t, K, h => K .ret t h
  | _, _, _, _ => False

def resA (P : Program) (w0 : World) (n : Nat) : List ResultVar → Fr → (List Value → Hp → Prop) → Hp → Prop
  | [], t, K, h => K [] h
  | .tmp d :: r, t, K, h => resA P w0 n r t (fun vs h => K (ev n t (.tmp d) :: vs) h) h
  | .cell a T :: r, t, K, h =>
    if okT P T = true then
      (if aggT P T = true then loadNA w0 (ev n t (.tmp a)) (szT P T) (fun v h => resA P w0 n r t (fun vs h => K (v :: vs) h) h) h
      else loadA w0 (ev n t (.tmp a)) (fun v h => resA P w0 n r t (fun vs h => K (v :: vs) h) h) h)
    else False
def oneOf : List Value → Value
  | [v] => v
  | vs => .tuple vs.toArray
def retA (vs : List Value) (R : Kont) (h : Hp) : Prop := (∀ v, v ∈ vs → v ≠ junk) ∧ R (oneOf vs) h
def argFr (args : List Value) : Fr := fun i => args.getD i undef

noncomputable def vcFn (C : Cx) (draw : List Oper → Fr → (Fr → Hp → Prop) → Hp → Prop) (fn : Func) (args : List Value) (R : Kont) (h : Hp) : Prop :=
  match fn.body with
  | some c => vcCode C draw c (argFr args) (fun e t h => match e with
    | .normal => resA C.P C.w0 C.n fn.results.toList t (fun vs h => retA vs R h) h
    | .ret => resA C.P C.w0 C.n fn.results.toList t (fun vs h => retA vs R h) h
    | _ => False) h
  | none => False

section
variable {P : Program} {w0 : World} {ι : Inj} {h : Hp} {w : World}

theorem scrub_get (keep : List Nat) (t : Fr) (i : Nat) : scrub keep t i = junk ∨ scrub keep t i = t i := by
  unfold scrub
  induction keep with
  | nil => exact .inl rfl
  | cons k r ih =>
    simp only [List.map_cons, mkFr, upd]
    split
    · rename_i e; rw [e]; exact .inr rfl
    · exact ih

theorem FRel.scrub {B nx : Nat} {n : Nat} {t : Fr} {tmps : Array Value} (f : FRel B nx ι n t tmps) (keep : List Nat) : FRel B nx ι n (scrub keep t) tmps := by
  refine ⟨f.1, fun i hi hj => ?_⟩
  rcases scrub_get keep t i with e | e
  · exact absurd e hj
  · rw [e] at hj ⊢; exact f.2 i hi hj

theorem Act.put_ds (a : Act) (d : Option Nat) (v : Value) : (a.put d v).defers = a.defers := by cases d <;> rfl

theorem ops_sound {ro : Option Nat} {n : Nat} {ops : Array Oper} {K : Fr → Hp → Prop} {Q : Exit → Act → World → Prop} : ∀ (post pre : List Oper) (t : Fr) (a : Act) (ι : Inj) (h : Hp) (w : World),
    ops.toList = pre ++ post → HRel w0 ι h w → FRel w0.heap.size h.next ι n t a.tmps → vcOps P w0 n ops.toList post t K h →
    (∀ ι' h' t' a' w', Ext ι h ι' h' → HRel w0 ι' h' w' → FRel w0.heap.size h'.next ι' n t' a'.tmps → a'.defers = a.defers → K t' h' → Q .normal a' w') →
    wpOpsIn (Fw ro) 0 P ops Q (List.range' pre.length post.length) a w := by
  intro post
  induction post with
  | nil =>
    intro pre t a ι h w _ r f hv hq
    exact hq ι h t a w (Ext.refl _ _) r f rfl hv
  | cons o os ih =>
    intro pre t a ι h w he r f hv hq
    have hoi : ops[pre.length]? = some o := by
      rw [← Array.getElem?_toList, he]
      simp
    simp only [List.length_cons, List.range'_succ, wpOpsIn, hoi]
    simp only [vcOps] at hv
    refine step_sound (ro := ro) r f hv (fun ι' h' v v' w' g1 g2 g3 g4 => ?_)
    have := ih (pre ++ [o]) (putA t o.dst v) (a.put o.dst v') ι' h' w' (by rw [he]; simp) g2 ((f.mono g1.1 g1.2).put o.dst g3) g4 (fun ι2 h2 t2 a2 w2 q1 q2 q3 q4 q5 =>
      hq ι2 h2 t2 a2 w2 (g1.trans q1) q2 q3 (by rw [q4, Act.put_ds]) q5)
    simpa using this

def DrawOK (P : Program) (w0 : World) (n : Nat) (draw : List Oper → Fr → (Fr → Hp → Prop) → Hp → Prop) : Prop :=
  ∀ (ro : Option Nat) (id : Nat) (ops : Array Oper) (K : Fr → Hp → Prop) (Q : Exit → Act → World → Prop) (t : Fr) (a : Act) (ι : Inj) (h : Hp) (w : World),
    HRel w0 ι h w → FRel w0.heap.size h.next ι n t a.tmps → draw ops.toList t K h →
    (∀ ι' h' t' a' w', Ext ι h ι' h' → HRel w0 ι' h' w' → FRel w0.heap.size h'.next ι' n t' a'.tmps → a'.defers = a.defers → K t' h' → Q .normal a' w') →
    (Code.region id ops true).wpIn (Fw ro) 0 P Q a w

theorem code_sound {C : Cx} {draw : List Oper → Fr → (Fr → Hp → Prop) → Hp → Prop} (hd : DrawOK C.P C.w0 C.n draw) {ro : Option Nat} : ∀ (c : Code) (t : Fr) (K : KontX) (Q : Exit → Act → World → Prop) (a : Act) (ι : Inj) (h : Hp) (w : World),
    HRel C.w0 ι h w → FRel C.w0.heap.size h.next ι C.n t a.tmps → vcCode C draw c t K h →
    (∀ e ι' h' t' a' w', Ext ι h ι' h' → HRel C.w0 ι' h' w' → FRel C.w0.heap.size h'.next ι' C.n t' a'.tmps → a'.defers = a.defers → K e t' h' → Q e a' w') →
    c.wpIn (Fw ro) 0 C.P Q a w := by
  intro c
  induction c with
  | skip => intro t K Q a ι h w r f hv hq; exact wpIn_skip (hq .normal ι h t a w (Ext.refl _ _) r f rfl hv)
  | region id ops d =>
    intro t K Q a ι h w r f hv hq
    cases d with
    | true => exact hd ro id ops _ Q t a ι h w r f hv (fun ι' h' t' a' w' g1 g2 g3 g4 g5 => hq .normal ι' h' t' a' w' g1 g2 g3 g4 g5)
    | false =>
      refine wpIn_region ?_
      have := ops_sound (ro := ro) (n := C.n) (ops := ops) (Q := Q) ops.toList [] t a ι h w rfl r f hv (fun ι' h' t' a' w' g1 g2 g3 g4 g5 => hq .normal ι' h' t' a' w' g1 g2 g3 g4 g5)
      simpa [List.range_eq_range'] using this
  | seq x y ihx ihy =>
    intro t K Q a ι h w r f hv hq
    refine wpIn_seq (ihx t _ _ a ι h w r f hv (fun e ι' h' t' a' w' g1 g2 g3 g4 g5 => ?_))
    cases e with
    | normal => exact ihy t' K Q a' ι' h' w' g2 g3 g5 (fun e2 ι2 h2 t2 a2 w2 q1 q2 q3 q4 q5 => hq e2 ι2 h2 t2 a2 w2 (g1.trans q1) q2 q3 (q4.trans g4) q5)
    | exit id => exact hq _ ι' h' t' a' w' g1 g2 g3 g4 g5
    | goto l => exact hq _ ι' h' t' a' w' g1 g2 g3 g4 g5
    | ret => exact hq _ ι' h' t' a' w' g1 g2 g3 g4 g5
    | panic ch => exact hq _ ι' h' t' a' w' g1 g2 g3 g4 g5
    | outgrown => exact hq _ ι' h' t' a' w' g1 g2 g3 g4 g5
  | cond c x y ihx ihy =>
    intro t K Q a ι h w r f hv hq
    obtain ⟨q, e, h1, h2⟩ := hv
    have hc : a.eval c = .bool q := by
      have := f.eval c (by rw [e]; simp [junk])
      rw [e] at this
      exact this.bool_inv
    cases q with
    | true => exact wpIn_cond hc (ihx t K Q a ι h w r f (h1 rfl) hq)
    | false => exact wpIn_cond hc (ihy t K Q a ι h w r f (h2 rfl) hq)
  | block id c ih =>
    intro t K Q a ι h w r f hv hq
    refine wpIn_block (ih t _ _ a ι h w r f hv (fun e ι' h' t' a' w' g1 g2 g3 g4 g5 => ?_))
    cases e with
    | exit id' =>
      simp only [Exit.inBlock]
      by_cases hid : id' = id
      · rw [if_pos hid]
        simp only [if_pos hid] at g5
        exact hq _ ι' h' t' a' w' g1 g2 g3 g4 g5
      · rw [if_neg hid]
        simp only [if_neg hid] at g5
        exact hq _ ι' h' t' a' w' g1 g2 g3 g4 g5
    | normal => exact hq _ ι' h' t' a' w' g1 g2 g3 g4 g5
    | goto l => exact hq _ ι' h' t' a' w' g1 g2 g3 g4 g5
    | ret => exact hq _ ι' h' t' a' w' g1 g2 g3 g4 g5
    | panic ch => exact hq _ ι' h' t' a' w' g1 g2 g3 g4 g5
    | outgrown => exact hq _ ι' h' t' a' w' g1 g2 g3 g4 g5
  | loop c ih =>
    intro t K Q a ι h w r f hv hq
    obtain ⟨m, hv⟩ := hv
    refine wpIn_loop_rounds m ?_
    have key : ∀ (m : Nat) (t : Fr) (a2 : Act) (ι2 : Inj) (h2 : Hp) (w2 : World), Ext ι h ι2 h2 → HRel C.w0 ι2 h2 w2 → FRel C.w0.heap.size h2.next ι2 C.n t a2.tmps → a2.defers = a.defers →
        loopA (fun t R K h => vcCode C draw c t (fun e t h => match e with | .normal => R (scrub (keepOf C.ks (keyOf c)).1 t) h | .exit id => pickK (outs c) K (some id) (scrub (keepOf C.ks (keyOf c)).2 t) h | .ret => pickK (outs c) K none (scrub (keepOf C.ks (keyOf c)).2 t) h | _ => False) h) m t ((outs c).map fun o t h => K (exitOf o) t h) h2 →
        Code.roundsIn (Fw ro) 0 C.P c Q m a2 w2 := by
      intro m
      induction m with
      | zero => intro t a2 ι2 h2 w2 _ _ _ _ hv; exact hv.elim
      | succ m ihm =>
        intro t a2 ι2 h2 w2 hx r2 f2 hds hv
        rw [roundsIn_succ]
        refine ih t _ _ a2 ι2 h2 w2 r2 f2 hv (fun e ι' h' t' a' w' g1 g2 g3 g4 g5 => ?_)
        cases e with
        | normal => exact ihm _ a' ι' h' w' (hx.trans g1) g2 (g3.scrub _) (g4.trans hds) g5
        | exit id => exact hq _ ι' h' _ a' w' (hx.trans g1) g2 (g3.scrub _) (g4.trans hds) (pickK_map (x := some id) g5)
        | goto l => exact g5.elim
        | ret => exact hq _ ι' h' _ a' w' (hx.trans g1) g2 (g3.scrub _) (g4.trans hds) (pickK_map (x := none) g5)
        | panic ch => exact g5.elim
        | outgrown => exact g5.elim
    exact key m _ a ι h w (Ext.refl _ _) r (f.scrub _) rfl hv
  | exit id => intro t K Q a ι h w r f hv hq; exact wpIn_exit (hq _ ι h t a w (Ext.refl _ _) r f rfl hv)
  | ret => intro t K Q a ι h w r f hv hq; exact wpIn_ret (hq _ ι h t a w (Ext.refl _ _) r f rfl hv)
  | rangeFunc _ _ _ _ _ _ => intro t K Q a ι h w r f hv hq; exact hv.elim
  | scope _ _ => intro t K Q a ι h w r f hv hq; exact hv.elim
  | label _ => intro t K Q a ι h w r f hv hq; exact hv.elim
  | goto _ => intro t K Q a ι h w r f hv hq; exact hv.elim
  | refuse _ => intro t K Q a ι h w r f hv hq; exact hv.elim

/-! ### Results and calls -/
def rvA (tmps : Array Value) : ResultVar → Sem Value
  | .tmp t => pure (tmps.getD t undef)
  | .cell a t => do loadVar t (← asAddr (tmps.getD a undef))

theorem res_sound {n : Nat} {t : Fr} {a : Act} (r : HRel w0 ι h w) (f : FRel w0.heap.size h.next ι n t a.tmps) : ∀ (l : List ResultVar) (K : List Value → Hp → Prop), resA P w0 n l t K h →
    ∃ vs vs', (l.mapM (rvA a.tmps)).run P w = .ok vs' w ∧ vs.length = l.length ∧ vs'.length = l.length ∧
      (∀ (i : Nat) v v', vs[i]? = some v → vs'[i]? = some v' → v ≠ junk → VRel w0.heap.size h.next ι v v') ∧ K vs h := by
  intro l
  induction l with
  | nil => intro K hv; exact ⟨[], [], by simp, rfl, rfl, fun i v v' h => by simp at h, hv⟩
  | cons x l ih =>
    intro K hv
    have fin : ∀ (v v' : Value), (rvA a.tmps x).run P w = .ok v' w → (v ≠ junk → VRel w0.heap.size h.next ι v v') → resA P w0 n l t (fun vs h => K (v :: vs) h) h →
      ∃ vs vs', ((x :: l).mapM (rvA a.tmps)).run P w = .ok vs' w ∧ vs.length = (x :: l).length ∧ vs'.length = (x :: l).length ∧
        (∀ (i : Nat) v v', vs[i]? = some v → vs'[i]? = some v' → v ≠ junk → VRel w0.heap.size h.next ι v v') ∧ K vs h := by
      intro v v' hr hvr hk
      obtain ⟨vs, vs', g1, g2, g3, g4, g5⟩ := ih _ hk
      refine ⟨v :: vs, v' :: vs', ?_, by simp [g2], by simp [g3], fun i y y' e e' hne => ?_, g5⟩
      · rw [List.mapM_cons]
        simp only [Sem.run_bind, hr, Result.andThen_ok, g1, Sem.run_pure]
      · cases i with
        | zero => simp at e e'; subst e; subst e'; exact hvr hne
        | succ i => simp at e e'; exact g4 i y y' e e' hne
    cases x with
    | tmp d => exact fin (ev n t (.tmp d)) (a.tmps.getD d undef) rfl (fun hne => f.eval (.tmp d) hne) hv
    | cell b T =>
      simp only [resA] at hv
      split at hv
      case isFalse => exact hv.elim
      rename_i hT
      have he : a.eval (.tmp b) = a.tmps.getD b undef := rfl
      have addr : ∀ ad, ev n t (.tmp b) = .pointer (some ad) → ∃ a', a.tmps.getD b undef = .pointer (some a') ∧ PRel w0.heap.size h.next ι ad a' := fun ad e => by
        have := f.eval (.tmp b) (by rw [e]; simp [junk])
        rw [e, he] at this
        obtain ⟨a', e'⟩ := PRel.of this
        exact ⟨a', e', by rw [e'] at this; exact this⟩
      obtain ⟨i, z, d, hi, hz, hd, _, hs, _, _, _, hagg, _⟩ := okT_inv hT
      split at hv
      · rename_i ha
        obtain ⟨ad, vs, e, hg, hcl, hk⟩ := hv
        obtain ⟨a', e', hp⟩ := addr ad e
        obtain ⟨vs', hrun, hr⟩ := r.readN (P := P) hp hg (fun hlt v hv => (hcl hlt v hv).1)
        have hcell := r.cells_of hg hcl
        refine fin (.agg vs.toArray) (.agg vs'.toArray) ?_ (fun _ => .agg _ _ hr.toArray.1 hr.toArray.2 (fun i v hv => hcell v (by have := List.mem_of_getElem? (l := vs) (i := i) (a := v) (by simpa using hv); exact this))) hk
        have h3 := hrun w rfl
        rw [hs] at h3
        simp only [rvA, e', asAddr, pure_bind, loadVar, Sem.run_bind, hagg, ha, Result.andThen_ok, if_true, run_szOf hi, h3, Sem.run_pure]
      · rename_i ha
        have ha : aggT P T = false := by simpa using ha
        obtain ⟨ad, v, e, hg, hcl, hk⟩ := hv
        obtain ⟨a', e', hp⟩ := addr ad e
        obtain ⟨v', hc, hr⟩ := r.read hp hg hcl
        refine fin v v' ?_ (fun _ => hr) hk
        simp only [rvA, e', asAddr, pure_bind, loadVar, Sem.run_bind, hagg, ha, Result.andThen_ok, Bool.false_eq_true, if_false]
        simp [hc]

theorem results_run (fn : Func) (tmps : Array Value) {vs' : List Value} (h : (fn.results.toList.mapM (rvA tmps)).run P w = .ok vs' w) : (results fn tmps).run P w = .ok (oneOf vs') w := by
  have e : (results fn tmps) = (do let vs ← fn.results.mapM (rvA tmps); pure (if h : vs.size = 1 then vs[0] else .tuple vs)) := by
    unfold results
    congr 1
  rw [e, Array.mapM_eq_mapM_toList]
  simp only [Sem.run_bind, Sem.run_map]
  rw [h]
  simp only [Result.andThen_ok, Sem.run_pure]
  congr 1
  unfold oneOf
  split
  · rename_i hl
    simp at hl
    split
    · rfl
    · rename_i hne
      obtain ⟨v, rfl⟩ := List.length_eq_one_iff.1 hl
      exact absurd rfl (hne v)
  · rename_i hl
    split
    · simp at hl
    · rfl

theorem acalls_of_vc {P : Program} {w0 : World} {f : FuncId} {fn : Func} {ks : List (Nat × List Nat × List Nat)} {draw : List Oper → Fr → (Fr → Hp → Prop) → Hp → Prop} {args : List Value} {h : Hp} {R : Kont}
    (hf : P.funcs[f]? = some fn) (hd : DrawOK P w0 fn.ntmps draw) (hn : args.length ≤ fn.ntmps) (hj : ∀ v, v ∈ args → v ≠ junk)
    (hv : vcFn ⟨P, w0, fn.ntmps, ks⟩ draw fn args R h) : ACalls P w0 f args h R := by
  refine ⟨hj, fun ι w args' r ha => ?_⟩
  unfold vcFn at hv
  split at hv
  case h_2 => exact hv.elim
  rename_i c hb
  have hal : args'.size = args.length := by have := ha.1; simpa using this.symm
  have hfr : FRel w0.heap.size h.next ι fn.ntmps (argFr args) (args' ++ Array.replicate (fn.ntmps - args'.size) undef) := by
    refine ⟨by simp; omega, fun i hi hne => ?_⟩
    unfold argFr at hne ⊢
    by_cases hia : i < args.length
    · have e : args[i]? = some args[i] := by simp [hia]
      have e' : args'.toList[i]? = some (args'[i]'(by omega)) := by simp
      have h1 : args.getD i undef = args[i] := by simp [List.getD, hia]
      have h2 : (args' ++ Array.replicate (fn.ntmps - args'.size) undef).getD i undef = args'[i]'(by omega) := by
        rw [Array.getD_eq_getD_getElem?, Array.getElem?_append_left (by omega)]
        simp [show i < args'.size by omega]
      rw [h1, h2]
      exact ha.2 i _ _ e e'
    · have h1 : args.getD i undef = undef := by simp [List.getD, List.getElem?_eq_none (show args.length ≤ i by omega)]
      have h2 : (args' ++ Array.replicate (fn.ntmps - args'.size) undef).getD i undef = undef := by
        rw [Array.getD_eq_getD_getElem?, Array.getElem?_append_right (by omega)]
        simp [Array.getElem?_replicate]
        split <;> rfl
      rw [h1, h2]
      exact .tuple _ _ rfl (fun i v v' h => by simp at h)
  refine callsIn_of_wp hf hb trivial (code_sound (C := ⟨P, w0, fn.ntmps, ks⟩) (ro := none) hd c _ _ _ _ ι h w r hfr hv (fun e ι' h' t' a' w' g1 g2 g3 g4 g5 => ?_)) rfl
  have fin : resA P w0 fn.ntmps fn.results.toList t' (fun vs h => retA vs R h) h' → a'.defers = [] ∧ ∃ v, (results fn a'.tmps).run P w' = .ok v w' ∧
      ∃ v' ι'' h'' v2, Ending.returned v = .returned v' ∧ Ext ι h ι'' h'' ∧ HRel w0 ι'' h'' w' ∧ VRel w0.heap.size h''.next ι'' v2 v' ∧ R v2 h'' := by
    intro hres
    refine ⟨g4, ?_⟩
    obtain ⟨vs, vs', q1, q2, q3, q4, q5, q6⟩ := res_sound g2 g3 _ _ hres
    have hrels : VRels w0.heap.size h'.next ι' vs vs' := ⟨by omega, fun i v v' e e' => q4 i v v' e e' (q5 v (List.mem_of_getElem? e))⟩
    have hrun := results_run fn a'.tmps q1
    refine ⟨_, hrun, _, ι', h', oneOf vs, rfl, g1, g2, ?_, q6⟩
    unfold oneOf
    split
    · obtain ⟨v', l', rfl, hv', hl'⟩ := hrels.cons_inv
      have : l' = [] := by have := hl'.1; exact List.eq_nil_of_length_eq_zero (by simpa using this.symm)
      subst this
      exact hv'
    · rename_i hne
      have hl := hrels.1
      split
      · rename_i v'
        obtain ⟨v, rfl⟩ := List.length_eq_one_iff.1 (show vs.length = 1 by simpa using hl)
        exact absurd rfl (hne v)
      · exact .tuple _ _ hrels.toArray.1 hrels.toArray.2
  cases e with
  | normal => exact fin g5
  | ret => exact fin g5
  | exit id => exact g5.elim
  | goto l => exact g5.elim
  | panic ch => exact g5.elim
  | outgrown => exact g5.elim
end
end Go.Proofs.Ytiakadkooclelaa.Ah
