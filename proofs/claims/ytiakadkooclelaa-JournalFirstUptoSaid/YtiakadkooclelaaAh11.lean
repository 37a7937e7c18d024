/- Soundness of vcOp: all operations. -/
import Derived.Test.YtiakadkooclelaaAh10
set_option linter.unusedVariables false
set_option linter.unusedSimpArgs false
namespace Go.Proofs.Ytiakadkooclelaa.Ah
open Go

section
variable {P : Program} {w0 : World} {ι : Inj} {h : Hp} {w : World} {K : Kont}

theorem ORel.of {B nx : Nat} {ι : Inj} {n : Nat} {t : Fr} {ρ : Operand → Value} (hev : ∀ x, ev n t x ≠ junk → VRel B nx ι (ev n t x) (ρ x)) (o : Option Operand) : ORel B nx ι (o.map (ev n t)) (o.map ρ) := by
  cases o with
  | none => exact .inl ⟨rfl, rfl⟩
  | some x => exact .inr ⟨_, _, rfl, rfl, hev x⟩

theorem args_rel {B nx : Nat} {ι : Inj} {n : Nat} {t : Fr} {ρ : Operand → Value} (hev : ∀ x, ev n t x ≠ junk → VRel B nx ι (ev n t x) (ρ x)) (l : List Operand) (hj : ∀ v, v ∈ l.map (ev n t) → v ≠ junk) : VRels B nx ι (l.map (ev n t)) (l.map ρ) := by
  induction l with
  | nil => exact .nil
  | cons x l ih => exact .cons (hev x (hj _ (by simp))) (ih fun v hv => hj v (by simp [List.mem_map] at hv ⊢; exact .inr hv))

theorem parts_struct {B nx : Nat} {ι : Inj} {n : Nat} {t : Fr} {ρ : Operand → Value} {fs : Array Field} (hev : ∀ x, ev n t x ≠ junk → VRel B nx ι (ev n t x) (ρ x)) (hok : ∀ (i : Nat) f, fs[i]? = some f → okT P f.type = true) :
    ∀ (l : List (Nat × Operand)), (∀ p, p ∈ l → p.1 < fs.size) → PartsRel B nx ι (fun i => fs[i]?.map fun f => (f.offset, szT P f.type)) (l.map (placeS P n t fs)) (l.map fun (i, x) => (i, ρ x)) := by
  intro l
  induction l with
  | nil => intro _; trivial
  | cons p l ih =>
    intro hl
    obtain ⟨i, x⟩ := p
    have hi : i < fs.size := hl (i, x) (by simp)
    have e : fs[i]? = some fs[i] := by simp [hi]
    simp only [List.map_cons, PartsRel, placeS, e]
    exact ⟨by simp [hi], fun ha => okT_one (hok i _ e) ha, hev x, ih fun p hp => hl p (by simp [hp])⟩

theorem parts_elem {B nx : Nat} {ι : Inj} {n : Nat} {t : Fr} {ρ : Operand → Value} {e : TypeId} (hev : ∀ x, ev n t x ≠ junk → VRel B nx ι (ev n t x) (ρ x)) (hok : okT P e = true) :
    ∀ (l : List (Nat × Operand)), PartsRel B nx ι (fun i => some (i * szT P e, szT P e)) (l.map (placeE P n t e)) (l.map fun (i, x) => (i, ρ x)) := by
  intro l
  induction l with
  | nil => trivial
  | cons p l ih =>
    simp only [List.map_cons, PartsRel, placeE]
    exact ⟨by first | rfl | trivial, fun ha => okT_one hok ha, hev p.2, ih⟩

theorem run_mapM_fields {fs : Array Field} (hok : ∀ (i : Nat) f, fs[i]? = some f → okT P f.type = true) (w : World) :
    (fs.mapM fun f => do pure (f.offset, ← sizeOf f.type) : Sem (Array (Nat × Nat))).run P w = .ok (fs.map fun f => (f.offset, szT P f.type)) w := by
  have key : ∀ (l : List Field), (∀ f, f ∈ l → okT P f.type = true) → (l.mapM fun f => do pure (f.offset, ← sizeOf f.type) : Sem (List (Nat × Nat))).run P w = .ok (l.map fun f => (f.offset, szT P f.type)) w := by
    intro l
    induction l with
    | nil => intro _; simp
    | cons f l ih =>
      intro hl
      obtain ⟨ti, z, d, hti, _, _, _, hs, _⟩ := okT_inv (hl f (by simp))
      have ih' := ih (fun g hg => hl g (by simp [hg]))
      simp only [List.mapM_cons, Sem.run_bind, run_szOf hti, Result.andThen_ok, Sem.run_pure, ih', hs, List.map_cons]
  rw [Array.mapM_eq_mapM_toList]
  simp only [Sem.run_map]
  rw [key fs.toList (fun f hf => by
    obtain ⟨j, hj, he⟩ := Array.getElem_of_mem (Array.mem_toList_iff.1 hf)
    exact hok j f (by simp [hj, he]))]
  simp only [Result.andThen_ok]
  congr 1
  apply Array.ext'
  simp

theorem flat_ne {v : Value} (hf : flat v = true) : v ≠ junk := by intro e; rw [e] at hf; simp [flat, junk] at hf

theorem call_run {f : FuncId} (hok : callOK P f = true) (args : Array Value) (w : World) : (callFunc f args).run P w = .ok (.enter f args) w := by
  unfold callOK at hok
  split at hok
  · rename_i fn hfn
    simp only [Bool.and_eq_true, Bool.not_eq_true', beq_eq_false_iff_ne] at hok
    have hb : fn.body.isNone = false := by cases hb : fn.body <;> simp_all
    simp only [callFunc, Sem.run_bind, run_program, Result.andThen_ok, hfn]
    rw [if_neg (by simpa using hok.2), if_neg (by simp [hb])]
    rfl
  · simp at hok

def ARel (B nx : Nat) (ι : Inj) : List Value → List Value → Prop
  | [], [] => True
  | v :: l, v' :: l' => (v ≠ junk → VRel B nx ι v v') ∧ ARel B nx ι l l'
  | _, _ => False

theorem ARel.of {B nx : Nat} {ι : Inj} {n : Nat} {t : Fr} {ρ : Operand → Value} (hev : ∀ x, ev n t x ≠ junk → VRel B nx ι (ev n t x) (ρ x)) : ∀ (l : List Operand), ARel B nx ι (l.map (ev n t)) (l.map ρ)
  | [] => trivial
  | x :: l => ⟨hev x, ARel.of hev l⟩

theorem ARel.one {B nx : Nat} {ι : Inj} {x : Value} {l : List Value} (ha : ARel B nx ι [x] l) : ∃ x', l = [x'] ∧ (x ≠ junk → VRel B nx ι x x') := by
  cases l with
  | nil => exact ha.elim
  | cons x' l => cases l with
    | nil => exact ⟨x', rfl, ha.1⟩
    | cons _ _ => exact ha.2.elim
theorem ARel.two {B nx : Nat} {ι : Inj} {x y : Value} {l : List Value} (ha : ARel B nx ι [x, y] l) : ∃ x' y', l = [x', y'] ∧ (x ≠ junk → VRel B nx ι x x') ∧ (y ≠ junk → VRel B nx ι y y') := by
  cases l with
  | nil => exact ha.elim
  | cons x' l =>
    obtain ⟨y', rfl, hy⟩ := ARel.one ha.2
    exact ⟨x', y', rfl, ha.1, hy⟩
theorem ARel.flats {B nx : Nat} {ι : Inj} : ∀ {l l' : List Value}, ARel B nx ι l l' → (∀ y, y ∈ l → flat y = true) → l' = l
  | [], [], _, _ => rfl
  | v :: l, v' :: l', ha, hf => by
    rw [flat_eq (hf v (by simp)) (ha.1 (flat_ne (hf v (by simp)))), ARel.flats ha.2 (fun y hy => hf y (by simp [hy]))]
  | [], _ :: _, ha, _ => ha.elim
  | _ :: _, [], ha, _ => ha.elim

theorem vcBuiltin_sound {b : Builtin} {tl : List TypeId} {vs vs' : List Value} {ty : TypeId} {cb : Array Bool} (r : HRel w0 ι h w) (ha : ARel w0.heap.size h.next ι vs vs') (hv : vcBuiltin P w0 b tl vs K h) :
    OpOut P w0 ι h K ((builtin b tl.toArray ty cb vs'.toArray).run P w) := by
  unfold vcBuiltin at hv
  split at hv
  · -- append
    rename_i T T2 x y
    obtain ⟨x', y', rfl, hx, hy⟩ := ha.two
    split at hv
    · rename_i hT hT2
      split at hv
      · rename_i hok
        exact (appA_sound hT hT2 (by simp) hok.1 hok.2 r hx hy hv).op
      · exact hv.elim
    · rename_i hT hT2
      split at hv
      · rename_i hok
        exact (appA_sound hT hT2 (by simp) hok.1 hok.2 r hx hy hv).op
      · exact hv.elim
    · rename_i hT hT2
      split at hv
      · rename_i hok
        exact (appZA_sound hT hT2 hok.1 hok.2 r hx hy hv).op
      · exact hv.elim
    · exact hv.elim
  · -- copy
    rename_i T tr x y
    obtain ⟨x', y', rfl, hx, hy⟩ := ha.two
    split at hv
    · rename_i e hT
      split at hv
      · exact (copyA_sound (T2 := 0) hT (by assumption) r hx hy hv _ (by simp)).op
      · exact hv.elim
    · exact hv.elim
  · -- cap
    rename_i T x
    obtain ⟨x', rfl, hx⟩ := ha.one
    split at hv
    · rename_i e hT
      split at hv
      · exact (capA_sound hT r hx hv).op
      · exact hv.elim
    · exact hv.elim
  · -- clear
    rename_i T x
    obtain ⟨x', rfl, hx⟩ := ha.one
    split at hv
    · rename_i e hT
      split at hv
      · exact (clearA_sound hT (by assumption) r hx hv).op
      · exact hv.elim
    · exact hv.elim
  · -- len
    rename_i T x
    obtain ⟨x', rfl, hx⟩ := ha.one
    split at hv
    · rename_i hT
      refine ValOut.op (s := Builtin.len_ #[T] ty #[x']) (pureA_sound r (fun v e => ?_) hv)
      split at e
      · rename_i s
        cases e
        obtain rfl := (hx (by simp [junk])).string_inv
        exact ⟨_, by simp [Builtin.len_, run_und hT, goInt], .int _ _⟩
      · simp at e
    · rename_i e hT
      refine ValOut.op (s := Builtin.len_ #[T] ty #[x']) (pureA_sound r (fun v e => ?_) hv)
      split at e
      · rename_i a n c
        cases e
        have hx := hx (by simp [junk])
        have : ∃ a' c', x' = .slice a' n c' := by
          rcases hx.slice_inv with ⟨_, rfl, _, rfl⟩ | ⟨_, _, _, _, rfl, _⟩ <;> exact ⟨_, _, rfl⟩
        obtain ⟨a', c', rfl⟩ := this
        exact ⟨_, by simp [Builtin.len_, run_und hT, goInt], .int _ _⟩
      · simp at e
    · rename_i len e hT
      refine ValOut.op (s := Builtin.len_ #[T] ty #[x']) (w := w) ?_
      have : (Builtin.len_ #[T] ty #[x']).run P w = .ok (.int .i64 (len : Int)) w := by simp [Builtin.len_, run_und hT, goInt]
      rw [this]
      exact .mk r (.int _ _) hv
    · exact hv.elim
  · -- max
    rename_i x y l
    have key : ∀ (v : Value), foldA max2A x (y :: l) = some v → ∃ v', (Builtin.max_ tl.toArray ty vs'.toArray).run P w = .ok v' w ∧ VRel w0.heap.size h.next ι v v' := by
      intro v e
      obtain ⟨h1, h2, h3⟩ := foldA_run (P := P) (w := w) (g := Builtin.max2) (fun x y v e => max2A_run e) (y :: l) x v e (by simp)
      rw [ha.flats h1]
      exact ⟨v, h2, flat_cl h3 _ _⟩
    exact ValOut.op (s := Builtin.max_ tl.toArray ty vs'.toArray) (pureA_sound r key hv)
  · -- min
    rename_i x y l
    have key : ∀ (v : Value), foldA min2A x (y :: l) = some v → ∃ v', (Builtin.min_ tl.toArray ty vs'.toArray).run P w = .ok v' w ∧ VRel w0.heap.size h.next ι v v' := by
      intro v e
      obtain ⟨h1, h2, h3⟩ := foldA_run (P := P) (w := w) (g := Builtin.min2) (fun x y v e => min2A_run e) (y :: l) x v e (by simp)
      rw [ha.flats h1]
      exact ⟨v, h2, flat_cl h3 _ _⟩
    exact ValOut.op (s := Builtin.min_ tl.toArray ty vs'.toArray) (pureA_sound r key hv)
  · exact hv.elim

set_option maxHeartbeats 1000000 in
theorem vcOp_sound {n : Nat} {o : Oper} {t : Fr} {ρ : Operand → Value} (r : HRel w0 ι h w) (hev : ∀ x, ev n t x ≠ junk → VRel w0.heap.size h.next ι (ev n t x) (ρ x)) (hfun : ∀ f, ρ (.func f) = .func (.func f) #[] #[])
    (hv : vcOp P w0 n o t K h) : OpOut P w0 ι h K ((execOp ρ o).run P w) := by
  unfold vcOp at hv
  have hflat : ∀ (x : Operand), flat (ev n t x) = true → ρ x = ev n t x := fun x hf => flat_eq hf (hev x (flat_ne hf))
  have hjv : ∀ x, K (ev n t x) h → OpOut P w0 ι h K (.ok (.value (ρ x)) w) := fun x hk => by
    by_cases hj : ev n t x = junk
    · exact ⟨ι, h, _, Ext.refl _ _, r, .inl hj, hk⟩
    · exact ⟨ι, h, _, Ext.refl _ _, r, .inr (hev x hj), hk⟩
  unfold execOp
  split at hv
  all_goals try simp only [*]
  · exact hjv _ hv
  · exact hjv _ hv
  · -- pick
    rename_i c a b _
    obtain ⟨q, e, hk⟩ := hv
    have hc : ρ c = .bool q := by rw [hflat c (by rw [e]; rfl), e]
    simp only [Sem.run_bind, hc, asBool, Sem.run_pure, Result.andThen_ok]
    cases q
    · exact hjv _ hk
    · exact hjv _ hk
  · -- alloc
    split at hv
    · exact (newA_sound (by assumption) r hv).op
    · exact hv.elim
  · -- box
    split at hv
    · exact (boxA_sound (by assumption) r (hev _) hv).op
    · exact hv.elim
  · -- build
    rename_i T parts _
    split at hv
    case isFalse => exact hv.elim
    rename_i hT
    obtain ⟨ti, z, d, hti, hz, hd, hzs, hs, hby, hzt, hcst, hagg, hzr⟩ := okT_inv hT
    split at hv
    · rename_i fs hfs
      split at hv
      case isFalse => exact hv.elim
      rename_i hall
      have hok : ∀ (i : Nat) f, fs[i]? = some f → okT P f.type = true := fun i f hf => List.all_eq_true.1 hall.1 f (by
        obtain ⟨hi, rfl⟩ := Array.getElem?_eq_some_iff.1 hf
        simp)
      obtain ⟨l, l', h1, h2, h3, h4, hk⟩ := fillA_sound (w0 := w0) (ι := ι) (h := h) (place := fun i => fs[i]?.map fun f => (f.offset, szT P f.type)) _ (parts.toList.map fun (i, x) => (i, ρ x)) (zeroT P T) z.cells
        (parts_struct hev hok _ (fun p hp => by simpa using List.all_eq_true.1 hall.2 p hp)) (by rw [hzt]; exact const_rels hcst) (by rw [hzt]; exact const_cells hcst) hv
      refine ValOut.op ?_
      have hrun : (Instr.build T (parts.map fun x => (x.1, ρ x.2))).run P w = .ok (.agg l') w := by
        have hm := run_mapM_fields (P := P) hok w
        have hpl : (fun i : Nat => (fs.map fun f : Field => (f.offset, szT P f.type))[i]?) = fun i : Nat => fs[i]?.map fun f : Field => (f.offset, szT P f.type) := by
          funext i
          simp
        simp only [Instr.build, Sem.run_bind, hzr, Result.andThen_ok, run_und hfs, hm, hpl]
        have : (parts.map fun x => (x.1, ρ x.2)).toList = parts.toList.map fun (i, x) => (i, ρ x) := by simp
        rw [this, h1]
        rfl
      rw [hrun]
      exact .mk r (.agg _ _ h2.toArray.1 h2.toArray.2 (fun i v hv => h3 v (by have := List.mem_of_getElem? (l := l) (i := i) (a := v) (by simpa using hv); exact this))) hk
    · rename_i len e hfs
      split at hv
      case isFalse => exact hv.elim
      rename_i hoe
      obtain ⟨ti2, _, _, hti2, _, _, _, hs2, _⟩ := okT_inv hoe
      obtain ⟨l, l', h1, h2, h3, h4, hk⟩ := fillA_sound (w0 := w0) (ι := ι) (h := h) (place := fun i => some (i * szT P e, szT P e)) _ (parts.toList.map fun (i, x) => (i, ρ x)) (zeroT P T) z.cells
        (parts_elem hev hoe _) (by rw [hzt]; exact const_rels hcst) (by rw [hzt]; exact const_cells hcst) hv
      refine ValOut.op ?_
      have hrun : (Instr.build T (parts.map fun x => (x.1, ρ x.2))).run P w = .ok (.agg l') w := by
        simp only [Instr.build, Sem.run_bind, hzr, Result.andThen_ok, run_und hfs, run_szOf hti2]
        have : (parts.map fun x => (x.1, ρ x.2)).toList = parts.toList.map fun (i, x) => (i, ρ x) := by simp
        rw [this, ← hs2, h1]
        rfl
      rw [hrun]
      exact .mk r (.agg _ _ h2.toArray.1 h2.toArray.2 (fun i v hv => h3 v (by have := List.mem_of_getElem? (l := l) (i := i) (a := v) (by simpa using hv); exact this))) hk
    · exact hv.elim
  · -- buildSlice
    rename_i T len parts _
    split at hv
    case h_2 => exact hv.elim
    rename_i e hT
    split at hv
    case isFalse => exact hv.elim
    rename_i hoe
    obtain ⟨hoe, hsz, hlen⟩ := hoe
    obtain ⟨ti, z, d, hti, hz, hd, hzs, hs, hby, hzt, hcst, hagg, hzr⟩ := okT_inv hoe
    have hzc : ∀ v, v ∈ zerosL (zeroT P e) len → constOK v = true := fun v hv => hcst v (by rw [hzt] at hv; exact mem_zerosL hv)
    obtain ⟨l, l', h1, h2, h3, h4, hk⟩ := fillA_sound (w0 := w0) (ι := ι) (h := h) (place := fun i => some (i * szT P e, szT P e)) _ (parts.toList.map fun (i, x) => (i, ρ x)) (zerosL (zeroT P e) len) (zerosL (zeroT P e) len).toArray
      (parts_elem hev hoe _) (const_rels hzc) (const_cells hzc) hv
    refine ValOut.op ?_
    obtain ⟨ι', he, hr, _, hsl⟩ := newrow_sound (e := e) (s := szT P e) r h3 h2
    have hrun : (Instr.buildSlice T len (parts.map fun x => (x.1, ρ x.2))).run P w = .ok (.slice (some ⟨w.heap.size, 0, none⟩) len len) (w.alloc (.cells l' e)) := by
      rw [hs] at hsz h1
      have hpt : (parts.map fun x => (x.1, ρ x.2)).toList = parts.toList.map fun (i, x) => (i, ρ x) := by simp
      have hzz : ((Array.range (len * ti.size)).map (z.cells[· % z.cells.size]!)) = (zerosL (zeroT P e) len).toArray := by
        have := zerosL_array (z := z.cells) (n := len)
        apply Array.ext'
        rw [hzt, ← this, hzs]
      by_cases h0 : len * ti.size = 0
      · have hz0 : (zerosL (zeroT P e) len).toArray = #[] := by
          have : (zerosL (zeroT P e) len).length = 0 := by rw [zerosL_length, hzt]; simpa [hzs] using h0
          rw [List.eq_nil_of_length_eq_zero this]
        rw [hz0] at h1
        simp only [Instr.buildSlice, Sem.run_bind, run_und hT, Result.andThen_ok, run_szOf hti]
        rw [if_neg (by omega)]
        have hr0 : ∀ f : Nat → Value, (Array.range 0).map f = #[] := fun f => by simp
        simp only [h0, if_true, Sem.run_pure, Sem.run_bind, Result.andThen_ok, hr0, hpt, h1, newRow, run_newObj]
        rfl
      · simp only [Instr.buildSlice, Sem.run_bind, run_und hT, Result.andThen_ok, run_szOf hti]
        rw [if_neg (by omega)]
        simp only [if_neg h0, Sem.run_pure, Sem.run_bind, Result.andThen_ok, hzr, hzz, hpt, h1, newRow, run_newObj]
        rfl
    rw [hrun]
    exact ⟨ι', _, _, he, hr, .inr (hsl len len (Nat.le_refl _) (by unfold ucap; omega)), hk⟩
  · -- load
    split at hv
    case isFalse => exact hv.elim
    rename_i hT
    split at hv
    · exact (loadNA_sound hT (by assumption) r (hev _) hv).op
    · exact (loadA_sound hT (by simpa using (by assumption : ¬ aggT P _ = true)) r (hev _) hv).op
  · -- store
    split at hv
    case isFalse => exact hv.elim
    rename_i hT
    split at hv
    · exact storeNA_sound hT r (hev _) (hev _) hv
    · exact storeA_sound hT (by simpa using (by assumption : ¬ aggT P _ = true)) r (hev _) (hev _) hv
  · -- nilCheck
    rename_i x _
    obtain ⟨hform, hk⟩ := hv
    rcases hform with ⟨ad, e⟩ | ⟨f, a, b, e⟩ | ⟨b, e⟩
    · have hx := hev x (by rw [e]; simp [junk])
      rw [e] at hx hk
      obtain ⟨a', e'⟩ := PRel.of hx
      rw [e'] at hx ⊢
      exact ⟨ι, h, _, Ext.refl _ _, r, .inr hx, hk⟩
    · have hx := hev x (by rw [e]; simp [junk])
      rw [e] at hx hk
      have : ∃ a' b', ρ x = .func (.func f) a' b' := by
        generalize ρ x = y at hx
        cases hx
        exact ⟨_, _, rfl⟩
      obtain ⟨a', b', e'⟩ := this
      rw [e'] at hx ⊢
      exact ⟨ι, h, _, Ext.refl _ _, r, .inr hx, hk⟩
    · have hx := hev x (by rw [e]; simp [junk])
      rw [e] at hx hk
      have e' : ρ x = .func (.yield (ι b).β) #[] #[] := hx.yld_inv.1
      rw [e'] at hx ⊢
      exact ⟨ι, h, _, Ext.refl _ _, r, .inr hx, hk⟩
  · -- binOp
    rename_i op T x y T2 _
    have pl : ∀ (o : Option Value), (∀ v, o = some v → (binOp op T (ρ x) (ρ y)).run P w = .ok v w ∧ flat v = true ∧ (∀ c, ρ x ≠ .agg c) ∧ ρ x ≠ .nilIface) → pureA o K h →
        OpOut P w0 ι h K ((do pure (Next.value (← (do eqGuard op T x y (ρ x) (ρ y); binOp op T (ρ x) (ρ y)))) : Sem Next).run P w) := by
      intro o ho hp
      refine ValOut.op (pureA_sound r (fun v e => ?_) hp)
      obtain ⟨g1, g2, g3, g4⟩ := ho v e
      exact ⟨v, by simp only [Sem.run_bind, eqGuard_plain g3 g4, Result.andThen_ok, g1], flat_cl g2 _ _⟩
    have scal : ∀ v, binA op (ev n t x) (ev n t y) = some v → (binOp op T (ρ x) (ρ y)).run P w = .ok v w ∧ flat v = true ∧ (∀ c, ρ x ≠ .agg c) ∧ ρ x ≠ .nilIface := by
      intro v e
      obtain ⟨f1, f2, g1, g2⟩ := binA_run (P := P) (w := w) T e
      rw [hflat x f1, hflat y f2]
      exact ⟨g1, g2, fun c e => by rw [e] at f1; simp [flat] at f1, fun e => by rw [e] at f1; simp [flat] at f1⟩
    split at hv
    · exact pl _ scal hv
    · exact pl _ scal hv
    · rename_i hT
      refine pl _ (fun v e => ?_) hv
      obtain ⟨f1, f2, g1, g2⟩ := binBoolA_run (P := P) (w := w) hT e
      rw [hflat x f1, hflat y f2]
      exact ⟨g1, g2, fun c e => by rw [e] at f1; simp [flat] at f1, fun e => by rw [e] at f1; simp [flat] at f1⟩
    · rename_i hT
      refine pl _ (fun v e => ?_) hv
      obtain ⟨g1, g2, a, g3⟩ := binPtrA_run (P := P) (w := w) hT (hev x) (hev y) e
      refine ⟨g1, g2, ?_, ?_⟩ <;> simp [g3]
    · rename_i hT
      refine pl _ (fun v e => ?_) hv
      obtain ⟨g1, g2, a, p, q, g3⟩ := binSlA_run (P := P) (w := w) hT (hev x) (hev y) e
      refine ⟨g1, g2, ?_, ?_⟩ <;> simp [g3]
    · rename_i hT
      refine pl _ (fun v e => ?_) hv
      obtain ⟨g1, g2, g3⟩ := binFnA_run (P := P) (w := w) hT (hev x) (hev y) e
      rcases g3 with ⟨a, p, q, g3⟩ | g3
      · refine ⟨g1, g2, ?_, ?_⟩ <;> simp [g3]
      · refine ⟨g1, g2, ?_, ?_⟩ <;> simp [g3]
    · rename_i hT
      obtain ⟨xs, ys, q, ex, ey, fx, fy, hb, hg, hk⟩ := hv
      have rx : ρ x = .agg xs := flat_agg fx (by have := hev x (by rw [ex]; simp [junk]); rwa [ex] at this)
      have ry : ρ y = .agg ys := flat_agg fy (by have := hev y (by rw [ey]; simp [junk]); rwa [ey] at this)
      refine ValOut.op ?_
      have hg' : (eqGuard op T x y (ρ x) (ρ y)).run P w = .ok () w := by
        have := hg w
        rw [ex, ey] at this
        rw [rx, ry]
        exact this
      rw [ex, ey] at hb
      simp only [Sem.run_bind, hg', Result.andThen_ok]
      rw [rx, ry, hb w]
      exact .mk r (.bool _) hk
    · exact hv.elim
  · -- unOp
    rename_i op T x _
    refine ValOut.op (pureA_sound r (fun v e => ?_) hv)
    obtain ⟨f1, g1, g2⟩ := unA_run (P := P) (w := w) e
    rw [hflat x f1]
    exact ⟨v, g1, flat_cl g2 _ _⟩
  · -- convert
    rename_i src dst x _
    split at hv
    · rename_i k0 k hs hd
      refine ValOut.op (pureA_sound r (fun v e => ?_) hv)
      obtain ⟨f1, g1, g2⟩ := convA_run (P := P) (w := w) hs hd e
      rw [hflat x f1]
      exact ⟨v, g1, flat_cl g2 _ _⟩
    · rename_i hs hd
      refine ValOut.op (pureA_sound r (fun v e => ?_) hv)
      obtain ⟨f1, g1, g2⟩ := strOf_run (P := P) (w := w) hs hd e
      rw [hflat x f1]
      exact ⟨v, g1, flat_cl g2 _ _⟩
    · rename_i e hs hd
      split at hv
      · rename_i he
        exact (b2sA_sound hs he hd r (hev x) hv).op
      · exact hv.elim
    · rename_i e hs hd
      split at hv
      · rename_i he
        exact (s2bA_sound hs hd he r (hev x) hv).op
      · exact hv.elim
    · rename_i e e2 hs hd
      split at hv
      · rename_i he
        split at hv
        · rename_i hsd
          have hsd : src = dst := by simpa using hsd
          subst hsd
          exact (sl2slA_sound hs he r (hev x) hv).op
        · exact hv.elim
      · exact hv.elim
    · exact hv.elim
  · -- makeFunc
    rename_i k first cap _
    obtain ⟨hj, hk⟩ := hv
    have h1 := args_rel hev first.toList (fun v hv => hj v (List.mem_append.2 (.inl hv)))
    have h2 := args_rel hev cap.toList (fun v hv => hj v (List.mem_append.2 (.inr hv)))
    refine ValOut.op (w := w) ?_
    have hrun : (Instr.makeFunc (.func k) (first.map ρ) (cap.map ρ)).run P w = .ok (.func (.func k) (first.toList.map ρ).toArray (cap.toList.map ρ).toArray) w := by
      have e1 : first.map ρ = (first.toList.map ρ).toArray := by apply Array.ext'; simp
      have e2 : cap.map ρ = (cap.toList.map ρ).toArray := by apply Array.ext'; simp
      rw [e1, e2]
      rfl
    rw [hrun]
    exact .mk r (.func _ _ _ _ _ h1.toArray.1 h2.toArray.1 h1.toArray.2 h2.toArray.2 ⟨k, rfl⟩) hk
  · -- makeSlice
    split at hv
    · rename_i e hT
      split at hv
      · exact (mkA_sound hT (by assumption) r (hev _) (hev _) hv).op
      · exact hv.elim
    · exact hv.elim
  · -- slice
    rename_i T x lo hi mx _
    split at hv
    · rename_i hT
      split at hv
      · rename_i hmx
        have hmx : mx = none := by simpa using hmx
        subst hmx
        refine ValOut.op (pureA_sound r (fun v e => ?_) hv)
        obtain ⟨f1, g1, g2⟩ := strSlA_run (P := P) (w := w) (w0 := w0) (h := h) (ι := ι) hT (.of hev lo) (.of hev hi) e
        rw [hflat x f1]
        exact ⟨v, g1, flat_cl g2 _ _⟩
      · exact hv.elim
    · rename_i e hT
      split at hv
      · exact (slSlA_sound hT (by assumption) r (hev _) (.of hev _) (.of hev _) (.of hev _) hv).op
      · exact hv.elim
    · rename_i len e hT
      split at hv
      · rename_i hoe
        have hmx : mx = none := by simpa using hoe.2
        subst hmx
        exact (arSlA_sound hT hoe.1 r (hev _) (.of hev _) (.of hev _) hv).op
      · exact hv.elim
    · exact hv.elim
  · -- fieldAddr
    split at hv
    · rename_i fs hS
      split at hv
      · rename_i fd hf
        split at hv
        · rename_i hok
          exact (addA_sound hS hf hok.1 hok.2 r (hev _) hv).op
        · exact hv.elim
      · exact hv.elim
    · exact hv.elim
  · -- field
    split at hv
    · rename_i fs hS
      split at hv
      · rename_i fd hf
        split at hv
        · exact ValOut.op (pureA_sound r (fun v e => fldA_run hS hf (by assumption) (hev _) e) hv)
        · exact hv.elim
      · exact hv.elim
    · exact hv.elim
  · -- indexAddr
    split at hv
    · rename_i e hT
      split at hv
      · exact (idxSlA_sound hT (by assumption) r (hev _) (hev _) hv).op
      · exact hv.elim
    · rename_i len e hT
      split at hv
      · exact (idxArA_sound hT (by assumption) r (hev _) (hev _) hv).op
      · exact hv.elim
    · exact hv.elim
  · -- index
    rename_i T x i _
    split at hv
    · rename_i hT
      refine ValOut.op (pureA_sound r (fun v e => ?_) hv)
      obtain ⟨f1, f2, g1, g2⟩ := strIdxA_run (P := P) (w := w) hT e
      rw [hflat x f1, hflat i f2]
      exact ⟨v, g1, flat_cl g2 _ _⟩
    · rename_i len e hT
      split at hv
      · exact ValOut.op (pureA_sound r (fun v e => arIdxA_run hT (by assumption) (hev _) (hev _) e) hv)
      · exact hv.elim
    · exact hv.elim
  · -- extract
    exact ValOut.op (pureA_sound r (fun v e => extA_run (hev _) e) hv)
  · -- call
    rename_i c _
    split at hv
    · -- a builtin
      rename_i b hc
      have hb := vcBuiltin_sound (b := b) (tl := c.argTypes.toList) (ty := o.type) (cb := c.args.map fun | .const _ => true | _ => false) r (ARel.of hev c.args.toList) hv
      have hca : (c.args.toList.map ρ).toArray = c.args.map ρ := by apply Array.ext'; simp
      rw [hca] at hb
      simp only [Sem.run_bind, resolve, hc, Sem.run_pure, Result.andThen_ok, invoke]
      exact hb
    · -- a function
      rename_i f hc
      split at hv
      · rename_i hok
        have hargs := args_rel hev c.args.toList hv.1
        simp only [Sem.run_bind, resolve, hc, hfun, Deferred.ofValue, Sem.run_pure, Result.andThen_ok, invoke, call_run hok]
        refine ⟨_, r, ?_, hv⟩
        simpa using hargs
      · simp only [Sem.run_bind, resolve, hc, hfun, Deferred.ofValue, Sem.run_pure, Result.andThen_ok, invoke]
        unfold ovL at hv
        split at hv
        · rename_i x y hxy
          obtain ⟨o1, o2, e1, e2, e3⟩ : ∃ o1 o2, c.args.toList = [o1, o2] ∧ ev n t o1 = x ∧ ev n t o2 = y := by
            generalize c.args.toList = l at hxy
            cases l with
            | nil => simp at hxy
            | cons a l => cases l with
              | nil => simp at hxy
              | cons b l => cases l with
                | nil => simp at hxy; exact ⟨a, b, rfl, hxy.1, hxy.2⟩
                | cons _ _ => simp at hxy
          have hca : c.args = #[o1, o2] := by apply Array.ext'; simpa using e1
          subst e2 e3
          rw [hca]
          simpa using ovA_sound r (hev o1) (hev o2) hv
        · exact hv.elim
    · -- a function value
      rename_i fo _ hc
      rcases hv with ⟨f, fi, ca, e, hok, hcall⟩ | ⟨b, e, hcall⟩
      rotate_left
      · have hf := hev fo (by rw [e]; simp [junk])
        rw [e] at hf
        have e' : ρ fo = .func (.yield (ι b).β) #[] #[] := hf.yld_inv.1
        have hargs := args_rel hev c.args.toList hcall.1
        obtain ⟨g, tmps, as, bd, q1, q2⟩ := hcall.2 ι w (c.args.map ρ) r (by simpa using hargs)
        simp only [Sem.run_bind, resolve, hc, e', Deferred.ofValue, Sem.run_pure, Result.andThen_ok, invoke, Array.empty_append, q1]
        exact q2
      have hf := hev fo (by rw [e]; simp [junk])
      rw [e] at hf
      have : ∃ fi' ca', ρ fo = .func (.func f) fi' ca' ∧ VRels w0.heap.size h.next ι fi.toList fi'.toList ∧ VRels w0.heap.size h.next ι ca.toList ca'.toList := by
        generalize ρ fo = y at hf
        cases hf with
        | func _ _ _ f' c' g1 g2 g3 g4 _ => exact ⟨f', c', rfl, VRels.of_array g1 g3, VRels.of_array g2 g4⟩
      obtain ⟨fi', ca', e', h1, h2⟩ := this
      have hargs := args_rel hev c.args.toList (fun v hv => hcall.1 v (List.mem_append.2 (.inl (List.mem_append.2 (.inr hv)))))
      simp only [Sem.run_bind, resolve, hc, e', Deferred.ofValue, Sem.run_pure, Result.andThen_ok, invoke, call_run hok]
      refine ⟨_, r, ?_, hcall⟩
      have := (h1.append hargs).append h2
      simpa using this
    · exact hv.elim
  · exact hv.elim
end
end Go.Proofs.Ytiakadkooclelaa.Ah
