/- The words' soundness, continued. -/
import Derived.Test.YtiakadkooclelaaAh6
set_option linter.unusedVariables false
set_option linter.unusedSimpArgs false
namespace Go.Proofs.Ytiakadkooclelaa.Ah
open Go

section
variable {P : Program} {w0 : World} {ι : Inj} {h : Hp} {w : World} {K : Kont}

/-! ### Filling in -/
theorem foldl_set_get (vs : List Value) : ∀ (k off : Nat) (cs : Array Value), off + k + vs.length ≤ cs.size →
    (((vs.zipIdx k).foldl (fun cs (p : Value × Nat) => cs.setIfInBounds (off + p.2) p.1) cs).size = cs.size) ∧
    ∀ j : Nat, ((vs.zipIdx k).foldl (fun cs (p : Value × Nat) => cs.setIfInBounds (off + p.2) p.1) cs)[j]? = if off + k ≤ j ∧ j < off + k + vs.length then vs[j - (off + k)]? else cs[j]? := by
  induction vs with
  | nil =>
    intro k off cs _
    refine ⟨rfl, fun j => ?_⟩
    rw [if_neg (by simp)]
    rfl
  | cons v t ih =>
    intro k off cs hle
    simp only [List.length_cons] at hle
    simp only [List.zipIdx_cons, List.foldl_cons]
    obtain ⟨h1, h2⟩ := ih (k + 1) off (cs.setIfInBounds (off + k) v) (by simp; omega)
    refine ⟨by rw [h1]; simp, fun j => ?_⟩
    rw [h2]
    simp only [List.length_cons, Array.getElem?_setIfInBounds]
    by_cases hj : j = off + k
    · subst hj
      rw [if_neg (by omega), if_pos rfl, if_pos (by omega), if_pos (by omega)]
      simp
    · by_cases h3 : off + (k + 1) ≤ j ∧ j < off + (k + 1) + t.length
      · rw [if_pos h3, if_pos (by omega), show j - (off + k) = (j - (off + (k + 1))) + 1 by omega]
        simp
      · rw [if_neg h3, if_neg (by omega), if_neg (by omega)]

def PartsRel (B nx : Nat) (ι : Inj) (place : Nat → Option (Nat × Nat)) : List (Nat × Nat × Bool × Value) → List (Nat × Value) → Prop
  | [], [] => True
  | (off, size, agg, v) :: r, (i, v') :: r' => place i = some (off, size) ∧ (agg = false → size = 1) ∧ (v ≠ junk → VRel B nx ι v v') ∧ PartsRel B nx ι place r r'
  | _, _ => False

theorem fillA_sound {place : Nat → Option (Nat × Nat)} {KL : List Value → Hp → Prop} : ∀ (ps : List (Nat × Nat × Bool × Value)) (ps' : List (Nat × Value)) (cs : List Value) (cs' : Array Value),
    PartsRel w0.heap.size h.next ι place ps ps' → VRels w0.heap.size h.next ι cs cs'.toList → (∀ v, v ∈ cs → isCell v = true) → fillA ps cs KL h →
    ∃ l l', Instr.fill place cs' ps' = some l' ∧ VRels w0.heap.size h.next ι l l'.toList ∧ (∀ v, v ∈ l → isCell v = true) ∧ l.length = cs.length ∧ KL l h := by
  intro ps
  induction ps with
  | nil =>
    intro ps' cs cs' hp hv hc hk
    cases ps' with
    | nil => exact ⟨cs, cs', rfl, hv, hc, rfl, hk⟩
    | cons _ _ => exact hp.elim
  | cons p r ih =>
    intro ps' cs cs' hp hv hc hk
    obtain ⟨off, size, agg, v⟩ := p
    cases ps' with
    | nil => exact hp.elim
    | cons q r' =>
      obtain ⟨i, v'⟩ := q
      obtain ⟨hpl, h1, hvr, hrest⟩ := hp
      have key : ∀ (xs : List Value), (v = .agg xs.toArray ∧ agg = true ∨ xs = [v] ∧ isCell v = true) → xs.length = size → off + size ≤ cs.length → (∀ y, y ∈ xs → isCell y = true) → VRels w0.heap.size h.next ι xs v'.cells.toList →
          fillA r (splice cs off xs) KL h → ∃ l l', Instr.fill place cs' ((i, v') :: r') = some l' ∧ VRels w0.heap.size h.next ι l l'.toList ∧ (∀ v, v ∈ l → isCell v = true) ∧ l.length = cs.length ∧ KL l h := by
        intro xs _ hsz hle hcx hxr hk'
        have hlen : v'.cells.size = size := by have := hxr.1; simp at this; omega
        have hcl : cs'.size = cs.length := by have := hv.1; simp at this; omega
        have hz := foldl_set_get v'.cells.toList 0 off cs' (by simp; omega)
        have heq : (v'.cells.zipIdx.foldl (fun cs (p : Value × Nat) => cs.setIfInBounds (off + p.2) p.1) cs') = (v'.cells.toList.zipIdx 0).foldl (fun cs (p : Value × Nat) => cs.setIfInBounds (off + p.2) p.1) cs' := by
          rw [← Array.foldl_toList, Array.toList_zipIdx]
        obtain ⟨l, l', g1, g2, g3, g4, g5⟩ := ih r' (splice cs off xs) ((v'.cells.toList.zipIdx 0).foldl (fun cs (p : Value × Nat) => cs.setIfInBounds (off + p.2) p.1) cs') hrest (by
          refine ⟨by rw [splice_length (by omega)]; simp [hz.1, hcl], fun j y y' a b => ?_⟩
          rw [splice_get (by omega)] at a
          have b' : ((v'.cells.toList.zipIdx 0).foldl (fun cs (p : Value × Nat) => cs.setIfInBounds (off + p.2) p.1) cs')[j]? = some y' := by simpa using b
          rw [hz.2] at b'
          have hxl := hxr.1
          by_cases hj : off ≤ j ∧ j < off + xs.length
          · rw [if_pos hj] at a
            rw [if_pos (by omega)] at b'
            exact hxr.2 _ y y' a (by rw [← b']; congr 1)
          · rw [if_neg hj] at a
            rw [if_neg (by omega)] at b'
            exact hv.2 j y y' a (by simpa using b')) (fun y hy => by
          simp only [splice, List.mem_append] at hy
          rcases hy with (hy | hy) | hy
          · exact hc y (List.mem_of_mem_take hy)
          · exact hcx y hy
          · exact hc y (List.mem_of_mem_drop hy)) hk'
        refine ⟨l, l', ?_, g2, g3, by rw [g4, splice_length (by omega)], g5⟩
        simp only [Instr.fill, hpl]
        rw [if_neg (by simp; omega), heq]
        exact g1
      simp only [fillA] at hk
      cases agg with
      | true =>
        obtain ⟨vs, rfl, hs, hle, hk'⟩ := hk
        have hvr := hvr (by simp [junk])
        cases hvr with
        | agg _ vs' hc' g1 g2 =>
          refine key vs.toList (.inl ⟨by simp, rfl⟩) (by simpa using hs) hle (fun y hy => ?_) (VRels.of_array hc' g1) hk'
          obtain ⟨j, hj, he⟩ := Array.getElem_of_mem (Array.mem_toList_iff.1 hy)
          exact g2 j y (by simp [hj, he])
      | false =>
        obtain ⟨hcv, hlt, hk'⟩ := hk
        have hvr := hvr (by intro e; rw [e] at hcv; simp [junk, isCell] at hcv)
        have hc' : isCell v' = true := by rw [hvr.isCell_eq]; exact hcv
        have h1 := h1 rfl
        refine key [v] (.inr ⟨rfl, hcv⟩) (by simp [h1]) (by omega) (fun y hy => by simp at hy; rw [hy]; exact hcv) (by rw [cells_one hc']; exact .cons hvr .nil) ?_
        rw [splice_one _ _ _ hlt]
        exact hk'

/-! ### Indices -/
theorem idxSlA_sound {T e : TypeId} {x x' i i' : Value} (hT : P.underlying T = some (.slice e)) (ho : okT P e = true) (r : HRel w0 ι h w) (hx : x ≠ junk → VRel w0.heap.size h.next ι x x') (hi : i ≠ junk → VRel w0.heap.size h.next ι i i')
    (hv : idxSlA (szT P e) x i K h) : ValOut w0 ι h K ((Instr.indexAt T x' i').run P w) := by
  obtain ⟨ad, n, c, k, j, rfl, rfl, h0, hlt, hk⟩ := hv
  obtain rfl := (hi (by simp [junk])).int_inv
  obtain ⟨ti, z, d, hti, _, _, _, hs, _⟩ := okT_inv ho
  rcases (hx (by simp [junk])).slice_inv with ⟨e0, _⟩ | ⟨ad0, a', c', e0, rfl, hn, hp, _⟩
  · cases e0
  · cases e0
    have hp := hp (by omega)
    have : (Instr.indexAt T (.slice (some a') n c') (.int k j)).run P w = .ok (.pointer (some (a'.add (j.toNat * szT P e)))) w := by
      simp [Instr.indexAt, asIntOf, run_und hT, run_szOf hti, h0, hlt, hs]
    rw [this]
    exact .mk r (PRel.add hp _) hk

theorem idxArA_sound {T e : TypeId} {len : Nat} {x x' i i' : Value} (hT : P.underlying T = some (.array len e)) (ho : okT P e = true) (r : HRel w0 ι h w) (hx : x ≠ junk → VRel w0.heap.size h.next ι x x') (hi : i ≠ junk → VRel w0.heap.size h.next ι i i')
    (hv : idxArA len (szT P e) x i K h) : ValOut w0 ι h K ((Instr.indexAt T x' i').run P w) := by
  obtain ⟨ad, k, j, rfl, rfl, h0, hlt, hk⟩ := hv
  obtain rfl := (hi (by simp [junk])).int_inv
  obtain ⟨ti, z, d, hti, _, _, _, hs, _⟩ := okT_inv ho
  have hp := hx (by simp [junk])
  obtain ⟨a', rfl⟩ := PRel.of hp
  have : (Instr.indexAt T (.pointer (some a')) (.int k j)).run P w = .ok (.pointer (some (a'.add (j.toNat * szT P e)))) w := by
    simp [Instr.indexAt, asIntOf, run_und hT, run_szOf hti, h0, hlt, hs, Instr.sureAddr]
  rw [this]
  exact .mk r (PRel.add hp _) hk

theorem part_run {t : TypeId} {cs cs' : Array Value} {off : Nat} {v : Value} (ho : okT P t = true) (hc : cs.size = cs'.size) (h1 : ∀ (i : Nat) v v', cs[i]? = some v → cs'[i]? = some v' → VRel w0.heap.size h.next ι v v')
    (h2 : ∀ (i : Nat) v, cs[i]? = some v → isCell v = true) (hv : partA (aggT P t) off (szT P t) cs = some v) : ∃ v', (part t cs' off).run P w = .ok v' w ∧ VRel w0.heap.size h.next ι v v' := by
  obtain ⟨ti, z, d, hti, _, _, _, hs, _, _, _, hagg, _⟩ := okT_inv ho
  unfold partA at hv
  cases ha : aggT P t with
  | true =>
    rw [ha] at hv
    simp only [cond_true, Option.some.injEq] at hv
    subst hv
    refine ⟨.agg (cs'.extract off (off + szT P t)), by simp [part, hagg, ha, run_szOf hti, hs], ?_⟩
    refine .agg _ _ (by simp [hc]) (fun i v v' a b => ?_) (fun i v a => ?_)
    · rw [Array.getElem?_extract] at a b
      split at a
      · rw [hc] at *
        rename_i hlt
        rw [if_pos hlt] at b
        exact h1 _ _ _ a b
      · simp at a
    · rw [Array.getElem?_extract] at a
      split at a
      · exact h2 _ _ a
      · simp at a
  | false =>
    rw [ha] at hv
    simp only [cond_false] at hv
    have hlt : off < cs'.size := by rw [← hc]; exact (Array.getElem?_eq_some_iff.1 hv).1
    refine ⟨cs'[off], by simp [part, hagg, ha, hlt], h1 off v _ hv (by simp [hlt])⟩

/-! ### Values -/
theorem flat_eq {B nx : Nat} {ι : Inj} {v v' : Value} (hf : flat v = true) (hv : VRel B nx ι v v') : v' = v := by
  cases hv <;> first | rfl | simp [flat] at hf
theorem flat_agg {B nx : Nat} {ι : Inj} {xs : Array Value} {v' : Value} (hf : ∀ v, v ∈ xs.toList → flat v = true) (hv : VRel B nx ι (.agg xs) v') : v' = .agg xs := by
  cases hv with
  | agg _ c' hc h1 h2 =>
    congr 1
    apply Array.ext_getElem?
    intro i
    by_cases hi : i < xs.size
    · have e : xs[i]? = some xs[i] := by simp [hi]
      have e' : c'[i]? = some c'[i] := by simp [← hc, hi]
      rw [e, e']
      congr 1
      exact flat_eq (hf _ (by simp)) (h1 i _ _ e e')
    · rw [Array.getElem?_eq_none (by omega), Array.getElem?_eq_none (by omega)]

theorem flat_cl {B : Nat} {v : Value} (hf : flat v = true) : Cl B v := by
  unfold flat at hf
  split at hf <;> first | exact fun nx ι => .bool _ | exact fun nx ι => .int _ _ | exact fun nx ι => .string _ | simp at hf

theorem intA_run {op : BinOp} {k : IntKind} {a b : Int} {v : Value} (T : TypeId) (hs : op ≠ .shl) (hr : op ≠ .shr) (hv : intA op k a b = some v) : (binOp op T (.int k a) (.int k b)).run P w = .ok v w ∧ flat v = true := by
  cases op
  all_goals first
    | exact absurd rfl hs
    | exact absurd rfl hr
    | (simp only [intA, reduceCtorEq] at hv; done)
    | (simp only [intA, Option.some.injEq] at hv; subst hv; exact ⟨by simp [binOp, Op.intArith, Op.intBits, Op.intCmp], rfl⟩)
    | (simp only [intA] at hv; split at hv; · simp at hv
       simp only [Option.some.injEq] at hv; subst hv; exact ⟨by simp [binOp, Op.intDiv, *], rfl⟩)

theorem binA_run {op : BinOp} {x y v : Value} (T : TypeId) (hv : binA op x y = some v) : flat x = true ∧ flat y = true ∧ (binOp op T x y).run P w = .ok v w ∧ flat v = true := by
  unfold binA at hv
  split at hv
  · rename_i k a k' b
    split at hv
    · split at hv
      · simp at hv
      · cases hv
        refine ⟨rfl, rfl, ?_, rfl⟩
        simp [binOp, Op.shift, *]
    · split at hv
      · simp at hv
      · cases hv
        refine ⟨rfl, rfl, ?_, rfl⟩
        simp [binOp, Op.shift, *]
    · rename_i hn1 hn2
      split at hv
      · rename_i hkk
        subst hkk
        have := intA_run (P := P) (w := w) T (fun e => hn1 e) (fun e => hn2 e) hv
        exact ⟨rfl, rfl, this.1, this.2⟩
      · simp at hv
  · rename_i a b
    refine ⟨rfl, rfl, ?_⟩
    have hm : IntKind.i64.max = 9223372036854775807 := by decide
    cases op
    all_goals first
      | (simp only [strA, reduceCtorEq] at hv; done)
      | (simp only [strA, Option.some.injEq] at hv; subst hv; exact ⟨by simp [binOp, Op.stringOp], rfl⟩)
      | (simp only [strA] at hv; split at hv
         · simp only [Option.some.injEq] at hv; subst hv
           refine ⟨?_, rfl⟩
           simp only [binOp, Op.stringOp, hm]
           rw [if_neg (by omega)]
           rfl
         · simp at hv)
  · simp at hv

theorem eqGuard_plain {op : BinOp} {T : TypeId} {p q : Operand} {x y : Value} (h1 : ∀ c, x ≠ .agg c) (h2 : x ≠ .nilIface) : (eqGuard op T p q x y).run P w = .ok () w := by
  unfold eqGuard
  cases op <;> (try rfl) <;> (cases x <;> first | rfl | exact absurd rfl h2 | (rename_i c; exact absurd rfl (h1 c)))

end
end Go.Proofs.Ytiakadkooclelaa.Ah
