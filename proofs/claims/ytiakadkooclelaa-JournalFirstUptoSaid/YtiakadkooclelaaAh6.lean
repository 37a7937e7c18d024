/- vcOp: what is to be shown of one operation; and that the model's operation then does it. -/
import Derived.Test.YtiakadkooclelaaAh5
import Derived.Laws.Strings
import Derived.Laws.BytesString
import Derived.Laws.MakeOwn
set_option linter.unusedVariables false
set_option linter.unusedSimpArgs false
namespace Go.Proofs.Ytiakadkooclelaa.Ah
open Go

def placeS (P : Program) (n : Nat) (t : Fr) (fs : Array Field) (p : Nat × Operand) : Nat × Nat × Bool × Value :=
  match fs[p.1]? with
  | some f => (f.offset, szT P f.type, aggT P f.type, ev n t p.2)
  | none => (0, 0, true, junk)
def placeE (P : Program) (n : Nat) (t : Fr) (e : TypeId) (p : Nat × Operand) : Nat × Nat × Bool × Value := (p.1 * szT P e, szT P e, aggT P e, ev n t p.2)

def vcBuiltin (P : Program) (w0 : World) (b : Builtin) (argTypes : List TypeId) (args : List Value) (K : Kont) (h : Hp) : Prop :=
  match b, argTypes, args with
  | .append, [T, T2], [x, y] =>
    match P.underlying T, P.underlying T2 with
    | some (.slice e), some (.slice _) => if okT P e = true ∧ szT P e ≠ 0 then appA w0 (szT P e) (byT P e) x y K h else False
    | some (.slice e), some .string => if okT P e = true ∧ szT P e ≠ 0 then appA w0 (szT P e) (byT P e) x y K h else False
    | some (.slice e), some (.int _) => if okT P e = true ∧ szT P e ≠ 0 then appZA w0 (szT P e) (byT P e) (zeroT P e) x y K h else False
    | _, _ => False
  | .copy, (T :: _), [x, y] =>
    match P.underlying T with
    | some (.slice e) => if okT P e = true then copyA w0 (szT P e) x y K h else False
    | _ => False
  | .cap, [T], [x] =>
    match P.underlying T with
    | some (.slice e) => if okT P e = true then capA w0 (szT P e) x K h else False
    | _ => False
  | .clear, [T], [x] =>
    match P.underlying T with
    | some (.slice e) => if okT P e = true then clearA w0 (szT P e) (zeroT P e) x K h else False
    | _ => False
  | .len, [T], [x] =>
    match P.underlying T with
    | some .string => pureA (match x with | .string s => some (.int .i64 (s.size : Int)) | _ => none) K h
    | some (.slice _) => pureA (match x with | .slice _ n _ => some (.int .i64 (n : Int)) | _ => none) K h
    | some (.array n _) => K (.int .i64 (n : Int)) h
    | _ => False
  | .max, _, (x :: y :: r) => pureA (foldA max2A x (y :: r)) K h
  | .min, _, (x :: y :: r) => pureA (foldA min2A x (y :: r)) K h
  | _, _, _ => False

def vcOp (P : Program) (w0 : World) (n : Nat) (o : Oper) (t : Fr) (K : Kont) (h : Hp) : Prop :=
  match o.op with
  | .move x => K (ev n t x) h
  | .assign x => K (ev n t x) h
  | .pick c a b => pickA (ev n t c) (ev n t a) (ev n t b) K h
  | .alloc e => if okT P e = true then newA (zeroT P e) (szT P e) K h else False
  | .box e x => if okT P e = true then boxA (aggT P e) (szT P e) (ev n t x) K h else False
  | .build T parts =>
    if okT P T = true then
      match P.underlying T with
      | some (.struct fs) => if fs.toList.all (fun f => okT P f.type) = true ∧ parts.toList.all (fun p => decide (p.1 < fs.size)) = true then fillA (parts.toList.map (placeS P n t fs)) (zeroT P T) (fun cs h => K (.agg cs.toArray) h) h else False
      | some (.array _ e) => if okT P e = true then fillA (parts.toList.map (placeE P n t e)) (zeroT P T) (fun cs h => K (.agg cs.toArray) h) h else False
      | _ => False
    else False
  | .buildSlice T len parts =>
    match P.underlying T with
    | some (.slice e) =>
      if okT P e = true ∧ len * szT P e ≤ 2 ^ 24 ∧ len ≤ 2 ^ 24 then
        fillA (parts.toList.map (placeE P n t e)) (zerosL (zeroT P e) len) (fun cs h => K (.slice (some ⟨h.next, 0, none⟩) len len) (h.new cs (szT P e))) h
      else False
    | _ => False
  | .load T a => if okT P T = true then (if aggT P T = true then loadNA w0 (ev n t a) (szT P T) K h else loadA w0 (ev n t a) K h) else False
  | .store T a x => if okT P T = true then (if aggT P T = true then storeNA w0 (ev n t a) (ev n t x) (szT P T) K h else storeA w0 (ev n t a) (ev n t x) K h) else False
  | .nilCheck x => nilA (ev n t x) K h
  | .binOp op T x y _ =>
    match P.underlying T with
    | some (.int _) => pureA (binA op (ev n t x) (ev n t y)) K h
    | some .string => pureA (binA op (ev n t x) (ev n t y)) K h
    | some .bool => pureA (binBoolA op (ev n t x) (ev n t y)) K h
    | some (.pointer _) => pureA (binPtrA op (ev n t x) (ev n t y)) K h
    | some (.slice _) => pureA (binSlA op (ev n t x) (ev n t y)) K h
    | some (.func _ _ _) => pureA (binFnA op (ev n t x) (ev n t y)) K h
    | some (.struct _) => eqStA P op T (ev n t x) (ev n t y) K h
    | _ => False
  | .unOp op _ x => pureA (unA op (ev n t x)) K h
  | .convert src dst x =>
    match P.underlying src, P.underlying dst with
    | some (.int _), some (.int k) => pureA (convA k (ev n t x)) K h
    | some .string, some .string => pureA (strOf (ev n t x)) K h
    | some (.slice e), some .string => match P.underlying e with
      | some (.int .u8) => b2sA w0 (ev n t x) K h
      | _ => False
    | some .string, some (.slice e) => match P.underlying e with
      | some (.int .u8) => s2bA (ev n t x) K h
      | _ => False
    | some (.slice e), some (.slice _) => match P.underlying e with
      | some (.int .u8) => if (src == dst) = true then sl2slA w0 (ev n t x) K h else False
      | _ => False
    | _, _ => False
  | .makeFunc (.func k) first cap => (∀ v, v ∈ first.toList.map (ev n t) ++ cap.toList.map (ev n t) → v ≠ junk) ∧ K (.func (.func k) (first.toList.map (ev n t)).toArray (cap.toList.map (ev n t)).toArray) h
  | .makeSlice T l c =>
    match P.underlying T with
    | some (.slice e) => if okT P e = true then mkA (szT P e) (byT P e) (zeroT P e) (ev n t l) (ev n t c) K h else False
    | _ => False
  | .slice T x lo hi mx =>
    match P.underlying T with
    | some .string => if mx.isNone then pureA (strSlA (ev n t x) (lo.map (ev n t)) (hi.map (ev n t))) K h else False
    | some (.slice e) => if okT P e = true then slSlA (szT P e) (ev n t x) (lo.map (ev n t)) (hi.map (ev n t)) (mx.map (ev n t)) K h else False
    | some (.array len e) => if okT P e = true ∧ mx.isNone then arSlA len (szT P e) (ev n t x) (lo.map (ev n t)) (hi.map (ev n t)) K h else False
    | _ => False
  | .fieldAddr S x f =>
    match P.underlying S with
    | some (.struct fs) => match fs[f]? with
      | some fd => if okT P fd.type = true ∧ szT P fd.type ≠ 0 then addA (ev n t x) fd.offset K h else False
      | none => False
    | _ => False
  | .field S x f =>
    match P.underlying S with
    | some (.struct fs) => match fs[f]? with
      | some fd => if okT P fd.type = true then pureA (fldA (aggT P fd.type) fd.offset (szT P fd.type) (ev n t x)) K h else False
      | none => False
    | _ => False
  | .indexAddr T x i =>
    match P.underlying T with
    | some (.slice e) => if okT P e = true then idxSlA (szT P e) (ev n t x) (ev n t i) K h else False
    | some (.array len e) => if okT P e = true then idxArA len (szT P e) (ev n t x) (ev n t i) K h else False
    | _ => False
  | .index T x i =>
    match P.underlying T with
    | some .string => pureA (strIdxA (ev n t x) (ev n t i)) K h
    | some (.array len e) => if okT P e = true then pureA (arIdxA (aggT P e) len (szT P e) (ev n t x) (ev n t i)) K h else False
    | _ => False
  | .extract x i => pureA (extA (ev n t x) i) K h
  | .call c =>
    match c.callee with
    | .builtin b => vcBuiltin P w0 b c.argTypes.toList (c.args.toList.map (ev n t)) K h
    | .value (.func f) => if callOK P f = true then ACalls P w0 f (c.args.toList.map (ev n t)) h K else ovL P w0 f (c.args.toList.map (ev n t)) K h
    | .value f => callVA P w0 (ev n t f) (c.args.toList.map (ev n t)) K h
    | _ => False
  | _ => False

/-! ### Outcomes -/
def ValOut (w0 : World) (ι : Inj) (h : Hp) (K : Kont) : Result Value → Prop
  | .ok v' w' => ∃ ι' h' v, Ext ι h ι' h' ∧ HRel w0 ι' h' w' ∧ (v = junk ∨ VRel w0.heap.size h'.next ι' v v') ∧ K v h'
  | _ => False
def OpOut (P : Program) (w0 : World) (ι : Inj) (h : Hp) (K : Kont) : Result Next → Prop
  | .ok (.value v') w' => ∃ ι' h' v, Ext ι h ι' h' ∧ HRel w0 ι' h' w' ∧ (v = junk ∨ VRel w0.heap.size h'.next ι' v v') ∧ K v h'
  | .ok .skip w' => ∃ ι' h', Ext ι h ι' h' ∧ HRel w0 ι' h' w' ∧ K undef h'
  | .ok (.enter f args') w' => ∃ args, HRel w0 ι h w' ∧ VRels w0.heap.size h.next ι args args'.toList ∧ ACalls P w0 f args h K
  | .ok (.round l f tmps as bd) w' => RoundIn Fence.wide 0 P l f tmps as bd w' fun e w'' => ∃ v' ι' h' v, e = .returned v' ∧ Ext ι h ι' h' ∧ HRel w0 ι' h' w'' ∧ VRel w0.heap.size h'.next ι' v v' ∧ K v h'
  | _ => False

section
variable {P : Program} {w0 : World} {ι : Inj} {h : Hp} {w : World} {K : Kont}

theorem ValOut.mk {v v' : Value} (r : HRel w0 ι h w) (hv : VRel w0.heap.size h.next ι v v') (hk : K v h) : ValOut w0 ι h K (.ok v' w) := ⟨ι, h, v, Ext.refl _ _, r, .inr hv, hk⟩
theorem ValOut.op {s : Sem Value} (hs : ValOut w0 ι h K (s.run P w)) : OpOut P w0 ι h K ((do pure (Next.value (← s)) : Sem Next).run P w) := by
  simp only [Sem.run_bind]
  cases hr : s.run P w with
  | ok v' w' => rw [hr] at hs; exact hs
  | halt x w' => rw [hr] at hs; exact hs.elim

theorem run_und {t : TypeId} {d : TypeDesc} (ht : P.underlying t = some d) (w : World) : (underlying t).run P w = .ok d w := run_underlying ht w
theorem run_tinfo {t : TypeId} {i : TypeInfo} (ht : P.info? t = some i) (w : World) : (typeInfo t).run P w = .ok i w := by simp [typeInfo, ht]
theorem run_szOf {t : TypeId} {i : TypeInfo} (ht : P.info? t = some i) (w : World) : (sizeOf t).run P w = .ok i.size w := by simp [sizeOf, run_tinfo ht]

theorem okT_inv {t : TypeId} (ho : okT P t = true) : ∃ i z d, P.info? t = some i ∧ i.zero = some z ∧ P.underlying t = some d ∧ z.cells.size = i.size ∧ szT P t = i.size ∧ byT P t = i.bytes ∧ zeroT P t = z.cells.toList ∧
    (∀ v, v ∈ z.cells.toList → constOK v = true) ∧ (∀ w : World, (isAgg t).run P w = .ok (aggT P t) w) ∧ (∀ w : World, (zeroValue t).run P w = .ok z w) := by
  unfold okT at ho
  split at ho
  case h_2 => simp at ho
  rename_i i hi
  split at ho
  case h_2 => simp at ho
  rename_i z hz
  simp only [Bool.and_eq_true, beq_iff_eq] at ho
  obtain ⟨⟨⟨h1, h2⟩, h3⟩, h4⟩ := ho
  obtain ⟨d, hd⟩ := Option.isSome_iff_exists.1 h3
  refine ⟨i, z, d, hi, hz, hd, h1, by simp [szT, hi], by simp [byT, hi], by simp [zeroT, hi, hz], fun v hv => List.all_eq_true.1 h2 v hv, fun w => ?_, fun w => by simp [zeroValue, run_tinfo hi, hz]⟩
  simp only [isAgg, Sem.run_bind, run_und hd, Result.andThen_ok, aggT, hd]
  cases d <;> rfl

theorem constOK_cl {B : Nat} {v : Value} (hc : constOK v = true) : Cl B v ∧ isCell v = true := by
  unfold constOK at hc
  split at hc <;> first | exact ⟨fun nx ι => .bool _, rfl⟩ | exact ⟨fun nx ι => .int _ _, rfl⟩ | exact ⟨fun nx ι => .string _, rfl⟩ | exact ⟨fun nx ι => .pnil, rfl⟩ | exact ⟨fun nx ι => .snil, rfl⟩ | exact ⟨fun nx ι => .nilFunc, rfl⟩ | simp at hc

theorem const_rels {B nx : Nat} {ι : Inj} {l : List Value} (hl : ∀ v, v ∈ l → constOK v = true) : VRels B nx ι l l :=
  ⟨rfl, fun i v v' a b => by rw [a] at b; cases b; exact (constOK_cl (hl v (List.mem_of_getElem? a))).1 nx ι⟩

/-! ### Memory -/
theorem loadA_sound {T : TypeId} {x x' : Value} (ho : okT P T = true) (ha : aggT P T = false) (r : HRel w0 ι h w) (hx : x ≠ junk → VRel w0.heap.size h.next ι x x') (hv : loadA w0 x K h) :
    ValOut w0 ι h K ((Instr.loadAt T x').run P w) := by
  obtain ⟨ad, v, rfl, hg, hcl, hk⟩ := hv
  obtain ⟨i, z, d, hi, hz, hd, _, _, _, _, _, hagg, _⟩ := okT_inv ho
  have hx := hx (by simp [junk])
  have hp : ∃ a', x' = .pointer (some a') := by cases hx <;> exact ⟨_, rfl⟩
  obtain ⟨a', rfl⟩ := hp
  obtain ⟨v', hc, hr⟩ := r.read hx hg hcl
  have : (Instr.loadAt T (.pointer (some a'))).run P w = .ok v' w := by
    simp only [Instr.loadAt, Instr.sureAddr, pure_bind, loadVar, Sem.run_bind, hagg, ha, Result.andThen_ok]
    simp [hc]
  rw [this]
  exact .mk r hr hk

theorem loadNA_sound {T : TypeId} {x x' : Value} (ho : okT P T = true) (ha : aggT P T = true) (r : HRel w0 ι h w) (hx : x ≠ junk → VRel w0.heap.size h.next ι x x') (hv : loadNA w0 x (szT P T) K h) :
    ValOut w0 ι h K ((Instr.loadAt T x').run P w) := by
  obtain ⟨ad, vs, rfl, hg, hcl, hk⟩ := hv
  obtain ⟨i, z, d, hi, hz, hd, _, hs, _, _, _, hagg, _⟩ := okT_inv ho
  have hx := hx (by simp [junk])
  have hp : ∃ a', x' = .pointer (some a') := by cases hx <;> exact ⟨_, rfl⟩
  obtain ⟨a', rfl⟩ := hp
  have hcell := r.cells_of hg hcl
  obtain ⟨vs', hrun, hr⟩ := r.readN (P := P) hx hg (fun hlt v hv => (hcl hlt v hv).1)
  have : (Instr.loadAt T (.pointer (some a'))).run P w = .ok (.agg vs'.toArray) w := by
    have := hrun w rfl
    rw [hs] at this
    simp only [Instr.loadAt, Instr.sureAddr, pure_bind, loadVar, Sem.run_bind, hagg, ha, Result.andThen_ok, if_true, run_szOf hi, this, Sem.run_pure]
  rw [this]
  exact .mk r (.agg _ _ hr.toArray.1 hr.toArray.2 (fun i v hv => hcell v (by have := List.mem_of_getElem? (l := vs) (i := i) (a := v) (by simpa using hv); exact this))) hk

theorem okT_one {t : TypeId} (ho : okT P t = true) (ha : aggT P t = false) : szT P t = 1 := by
  unfold okT at ho
  split at ho
  case h_2 => simp at ho
  rename_i i hi
  split at ho
  case h_2 => simp at ho
  rename_i z hz
  simp only [Bool.and_eq_true, beq_iff_eq] at ho
  obtain ⟨⟨⟨h1, h2⟩, h3⟩, h4⟩ := ho
  have : szT P t = i.size := by simp [szT, hi]
  rw [this, ← h1]
  split at h4
  · rw [ha] at h4; simp at h4
  · simp at h4
  · rename_i hn1 hn2
    unfold Value.cells
    split
    · rename_i cs; exact absurd rfl (hn1 cs)
    · rfl

theorem cells_one {v : Value} (hc : isCell v = true) : v.cells = #[v] := by cases v <;> first | rfl | simp [isCell] at hc

theorem PRel.of {nx B : Nat} {ι : Inj} {ad : Addr} {x' : Value} (hx : VRel B nx ι (.pointer (some ad)) x') : ∃ a', x' = .pointer (some a') := by cases hx <;> exact ⟨_, rfl⟩

theorem storeA_sound {T : TypeId} {x x' v v' : Value} (ho : okT P T = true) (ha : aggT P T = false) (r : HRel w0 ι h w) (hx : x ≠ junk → VRel w0.heap.size h.next ι x x') (hvr : v ≠ junk → VRel w0.heap.size h.next ι v v')
    (hv : storeA w0 x v K h) : OpOut P w0 ι h K ((do Instr.storeAt T x' v'; pure Next.skip : Sem Next).run P w) := by
  obtain ⟨b, o, cs, rfl, hb, hc, hlt, hcell, hk⟩ := hv
  obtain ⟨i, z, d, hi, hz, hd, _, hs, _, _, _, hagg, _⟩ := okT_inv ho
  have hx := hx (by simp [junk])
  obtain ⟨a', rfl⟩ := PRel.of hx
  have hvr := hvr (by intro e; rw [e] at hcell; simp [junk, isCell] at hcell)
  obtain ⟨w', hst, hrel⟩ := r.storeN (P := P) (xs := [v]) (xs' := [v']) hx hb hc (by simp; omega) (fun y hy => by simp at hy; rw [hy]; exact hcell) (.cons hvr .nil)
  have hc' : isCell v' = true := by rw [hvr.isCell_eq]; exact hcell
  have h1 := okT_one ho ha
  rw [hs] at h1
  rw [splice_one _ _ _ hlt] at hrel
  have : (Instr.storeAt T (.pointer (some a')) v').run P w = .ok () w' := by
    simp only [Instr.storeAt, Instr.sureAddr, pure_bind, storeVar, Sem.run_bind, run_szOf hi, Result.andThen_ok, cells_one hc', h1]
    simpa using hst
  simp only [Sem.run_bind, this, Result.andThen_ok, Sem.run_pure]
  exact ⟨ι, h.put b (cs.set o v), ⟨Nat.le_refl _, fun _ _ => rfl, fun _ _ e => e⟩, hrel, hk⟩

theorem storeNA_sound {T : TypeId} {x x' v v' : Value} (ho : okT P T = true) (r : HRel w0 ι h w) (hx : x ≠ junk → VRel w0.heap.size h.next ι x x') (hvr : v ≠ junk → VRel w0.heap.size h.next ι v v')
    (hv : storeNA w0 x v (szT P T) K h) : OpOut P w0 ι h K ((do Instr.storeAt T x' v'; pure Next.skip : Sem Next).run P w) := by
  obtain ⟨b, o, cs, vs, rfl, hb, rfl, hsz, hc, hle, hk⟩ := hv
  obtain ⟨i, z, d, hi, hz, hd, _, hs, _, _, _, hagg, _⟩ := okT_inv ho
  have hx := hx (by simp [junk])
  obtain ⟨a', rfl⟩ := PRel.of hx
  have hvr := hvr (by simp [junk])
  cases hvr with
  | agg _ vs' hc' h1 hi' =>
    obtain ⟨w', hst, hrel⟩ := r.storeN (P := P) (xs := vs.toList) (xs' := vs'.toList) hx hb hc (by simp; omega) (fun y hy => by
      obtain ⟨j, hj, he⟩ := Array.getElem_of_mem (Array.mem_toList_iff.1 hy)
      exact hi' j y (by simp [hj, he])) (VRels.of_array hc' h1)
    have : (Instr.storeAt T (.pointer (some a')) (.agg vs')).run P w = .ok () w' := by
      have hcs : (Value.agg vs').cells = vs' := rfl
      have hss : vs'.size = i.size := by rw [← hc', hsz, hs]
      simp [Instr.storeAt, Instr.sureAddr, storeVar, run_szOf hi, hcs, hss, hst]
    simp only [Sem.run_bind, this, Result.andThen_ok, Sem.run_pure]
    exact ⟨ι, h.put b (splice cs o vs.toList), ⟨Nat.le_refl _, fun _ _ => rfl, fun _ _ e => e⟩, hrel, hk⟩

theorem newrow_sound {e : TypeId} {s : Nat} {cs cs' : List Value} (r : HRel w0 ι h w) (hc : ∀ v, v ∈ cs → isCell v = true) (hv : VRels w0.heap.size h.next ι cs cs')  :
    ∃ ι', Ext ι h ι' (h.new cs s) ∧ HRel w0 ι' (h.new cs s) (w.alloc (.cells cs'.toArray e)) ∧ VRel w0.heap.size (h.new cs s).next ι' (.pointer (some ⟨h.next, 0, none⟩)) (.pointer (some ⟨w.heap.size, 0, none⟩)) ∧
      ∀ n c, n ≤ c → c < ucap → VRel w0.heap.size (h.new cs s).next ι' (.slice (some ⟨h.next, 0, none⟩) n c) (.slice (some ⟨w.heap.size, 0, none⟩) n c) := by
  obtain ⟨ι', he, hn, hr⟩ := r.new cs cs' s e (0, 0) hc (by rw [hv.1, List.take_length]; exact hv) (.inr (by simp)) (hv.cells hc)
  have hb := r.base
  refine ⟨ι', he, hr, ?_, fun n c hnc hnu => ?_⟩
  · have := VRel.pint (B := w0.heap.size) (nx := (h.new cs s).next) (ι := ι') h.next 0 hb (by simp [Hp.new])
    rw [hn] at this
    simpa using this
  · have := VRel.sint (B := w0.heap.size) (nx := (h.new cs s).next) (ι := ι') h.next 0 n c c hb (by simp [Hp.new]) hnc (.inr ⟨rfl, hnu⟩)
    rw [hn] at this
    simpa using this

theorem newA_sound {e : TypeId} (ho : okT P e = true) (r : HRel w0 ι h w) (hv : newA (zeroT P e) (szT P e) K h) : ValOut w0 ι h K ((Instr.alloc e true (.tuple #[])).run P w) := by
  obtain ⟨i, z, d, hi, hz, hd, _, hs, _, hzt, hcst, hagg, hzr⟩ := okT_inv ho
  obtain ⟨hc, hk⟩ := hv
  rw [hzt] at hc hk
  obtain ⟨ι', he, hr, hp, _⟩ := newrow_sound (e := e) (s := szT P e) r hc (const_rels hcst)
  have : (Instr.alloc e true (.tuple #[])).run P w = .ok (.pointer (some ⟨w.heap.size, 0, none⟩)) (w.alloc (.cells z.cells e)) := by
    simp [Instr.alloc, hzr, newVar, newRow]
  rw [this]
  refine ⟨ι', _, _, he, ?_, .inr hp, hk⟩
  simpa using hr

theorem boxA_sound {e : TypeId} {v v' : Value} (ho : okT P e = true) (r : HRel w0 ι h w) (hvr : v ≠ junk → VRel w0.heap.size h.next ι v v') (hv : boxA (aggT P e) (szT P e) v K h) :
    ValOut w0 ι h K ((Instr.box e v').run P w) := by
  unfold boxA at hv
  cases ha : aggT P e with
  | true =>
    rw [ha] at hv
    obtain ⟨vs, rfl, hk⟩ := hv
    have hvr := hvr (by simp [junk])
    cases hvr with
    | agg _ vs' hc' h1 hi' =>
      obtain ⟨ι', he, hr, hp, _⟩ := newrow_sound (e := e) (s := szT P e) r (fun y hy => by
        obtain ⟨j, hj, he⟩ := Array.getElem_of_mem (Array.mem_toList_iff.1 hy)
        exact hi' j y (by simp [hj, he])) (VRels.of_array hc' h1)
      have : (Instr.box e (.agg vs')).run P w = .ok (.pointer (some ⟨w.heap.size, 0, none⟩)) (w.alloc (.cells vs' e)) := by
        simp [Instr.box, newVar, newRow, Value.cells]
      rw [this]
      exact ⟨ι', _, _, he, by simpa using hr, .inr hp, hk⟩
  | false =>
    rw [ha] at hv
    obtain ⟨hc, hk⟩ := hv
    have hvr := hvr (by intro e; rw [e] at hc; simp [junk, isCell] at hc)
    obtain ⟨ι', he, hr, hp, _⟩ := newrow_sound (e := e) (s := szT P e) (cs := [v]) (cs' := [v']) r (fun y hy => by simp at hy; rw [hy]; exact hc) (.cons hvr .nil)
    have hc' : isCell v' = true := by rw [hvr.isCell_eq]; exact hc
    have : (Instr.box e v').run P w = .ok (.pointer (some ⟨w.heap.size, 0, none⟩)) (w.alloc (.cells #[v'] e)) := by
      simp [Instr.box, newVar, newRow, cells_one hc']
    rw [this]
    exact ⟨ι', _, _, he, by simpa using hr, .inr hp, hk⟩

theorem addA_sound {x x' : Value} {S f : Nat} {fs : Array Field} {fd : Field} (hS : P.underlying S = some (.struct fs)) (hf : fs[f]? = some fd) (ho : okT P fd.type = true) (h0 : szT P fd.type ≠ 0)
    (r : HRel w0 ι h w) (hx : x ≠ junk → VRel w0.heap.size h.next ι x x') (hv : addA x fd.offset K h) : ValOut w0 ι h K ((Instr.fieldAt S x' f).run P w) := by
  obtain ⟨ad, rfl, hk⟩ := hv
  have hx := hx (by simp [junk])
  obtain ⟨a', rfl⟩ := PRel.of hx
  obtain ⟨i, z, d, hi, _, _, _, hs, _⟩ := okT_inv ho
  rw [hs] at h0
  have : (Instr.fieldAt S (.pointer (some a')) f).run P w = .ok (.pointer (some (a'.add fd.offset))) w := by
    simp [Instr.fieldAt, run_und hS, hf, Instr.sureAddr, fieldPlace, run_szOf hi, h0]
  rw [this]
  exact .mk r (PRel.add hx _) hk

theorem pureA_sound {o : Option Value} {s : Sem Value} (r : HRel w0 ι h w) (hs : ∀ v, o = some v → ∃ v', s.run P w = .ok v' w ∧ VRel w0.heap.size h.next ι v v') (hv : pureA o K h) : ValOut w0 ι h K (s.run P w) := by
  obtain ⟨v, e, hk⟩ := hv
  obtain ⟨v', hr, hvr⟩ := hs v e
  rw [hr]
  exact .mk r hvr hk
end
end Go.Proofs.Ytiakadkooclelaa.Ah
