/- Elements of slices that were there, and their fields. -/
import Derived.Test.YthjpddggnhgjhaaAh25
import Derived.Carry
set_option linter.unusedVariables false
set_option linter.unusedSimpArgs false
namespace Go.Proofs.Ythjpddggnhgjhaa.Ah
open Go

theorem bulk_len {α : Type} (b : α → Nat) (hb : ∀ x, 1 ≤ b x) (l : List α) : l.length ≤ (l.map b).sum := by
  induction l with
  | nil => simp
  | cons x l ih => simp only [List.length_cons, List.map_cons, List.sum_cons]; have := hb x; omega
theorem bulk_mem {α : Type} (b : α → Nat) {l : List α} {x : α} (h : x ∈ l) : b x ≤ (l.map b).sum := by
  induction l with
  | nil => simp at h
  | cons y l ih =>
    simp only [List.map_cons, List.sum_cons]
    rcases List.mem_cons.1 h with rfl | h
    · omega
    · have := ih h; omega
section
open Go.ChangeShapes
variable {H : Type} {enc : TypeId × Value → H} {P : Program} {w : World} {base : Nat} {spare : Nat → Bool} {held : Bool}
theorem trodAll_five {t t' t'' t3 t4 : TypeId} {args : Array Value} {ds : List (DataW H)} {ps : List MemPlace} (h : DataW.TrodAll enc P w base spare held [t, t', t'', t3, t4] args.toList ds ps) :
    ∃ v v' v'' v3 v4 d d' d'' d3 d4 p p' p'' p3 p4, args = #[v, v', v'', v3, v4] ∧ ds = [d, d', d'', d3, d4] ∧ ps = p ++ p' ++ p'' ++ p3 ++ p4 ∧ DataW.Trod enc P w base spare held t v d p ∧ DataW.Trod enc P w base spare held t' v' d' p' ∧ DataW.Trod enc P w base spare held t'' v'' d'' p'' ∧ DataW.Trod enc P w base spare held t3 v3 d3 p3 ∧ DataW.Trod enc P w base spare held t4 v4 d4 p4 := by
  obtain ⟨v, vs, d, ds', p, q, hargs, rfl, rfl, hd, hrest⟩ := trodAll_cons h
  obtain ⟨v', vs', d', ds'', p', q', rfl, rfl, rfl, hd', hrest'⟩ := trodAll_cons hrest
  obtain ⟨v'', vs'', d'', ds''', p'', q'', rfl, rfl, rfl, hd'', hrest''⟩ := trodAll_cons hrest'
  obtain ⟨v3, vs3, d3, ds3, p3, q3, rfl, rfl, rfl, hd3, hrest3⟩ := trodAll_cons hrest''
  obtain ⟨v4, vs4, d4, ds4, p4, q4, rfl, rfl, rfl, hd4, hrest4⟩ := trodAll_cons hrest3
  obtain ⟨rfl, rfl, rfl⟩ := trodAll_nil hrest4
  exact ⟨v, v', v'', v3, v4, d, d', d'', d3, d4, p, p', p'', p3, p4, by cases args; simp_all, rfl, by simp, hd, hd', hd'', hd3, hd4⟩
end
section
variable {w0 : World}
theorem cl_block {B n c : Nat} {a : Addr} (h : Cl B (.slice (some a) n c)) (hn : 0 < n) : a.block < B := by
  have h1 := h (a.block + 1) (fun b => ⟨b + 1, 0, 0, 1⟩)
  cases h1 with
  | sext _ _ _ hlt => exact hlt
  | szero => omega
  | sempty => omega
/-- An element of what was there: where it lies, and that its cells are read so in every heap. -/
theorem ext_idx {s n i : Nat} {v : Value} {ys : List Value} {h : Hp} {kt : IntKind} {K : Kont} (hx : ExtSl w0 s v n ys) (f : Fit w0 h) (hi : i < n) (hs : 0 < s) (hyl : ys.length = n * s)
    (hk : ∀ b o0, b < w0.heap.size → (∀ (h' : Hp) (o : Nat) (v' : Value) (K' : Kont), Fit w0 h' → o < s → ys[i * s + o]? = some v' → K' v' h' → loadA w0 (.pointer (some ⟨b, o0 + o, none⟩)) K' h') → K (.pointer (some ⟨b, o0, none⟩)) h) :
    idxSlA s v (.int kt (i : Int)) K h := by
  obtain ⟨a, c, rfl, hn, hc⟩ := hx.sl
  have hsrc := hx.src h f
  rcases hsrc.2 with h0 | ⟨h0, ad, rfl, hg, hcl⟩
  · omega
  have hb := cl_block hx.cl (by omega)
  obtain ⟨hsp, cs, hbk, hle, hv⟩ := Hp.getN_some hg
  obtain ⟨b, o, sp⟩ := ad
  simp only at hsp hbk hle hv hb
  subst hsp
  have his : (i + 1) * s ≤ n * s := Nat.mul_le_mul_right _ hi
  rw [Nat.add_mul, Nat.one_mul] at his
  rw [idxSlA_iff]
  refine ⟨by omega, by omega, ?_⟩
  rw [addr_add, Int.toNat_natCast]
  refine hk b (o + i * s) hb fun h' o' v' K' f' ho hv' hK => ?_
  have hbk' : h'.blk b = some cs := by rw [f'.ext b hb, ← f.ext b hb]; exact hbk
  rw [loadA_own]
  refine ⟨v', ?_, fun _ => (hcl hb v' (List.mem_of_getElem? hv')).1, hK⟩
  rw [hbk', Option.bind_some]
  rw [hv, List.getElem?_take, if_pos (by omega), List.getElem?_drop] at hv'
  rw [show o + i * s + o' = o + (i * s + o') by omega]
  exact hv'
theorem flat_len {α : Type} {e : α → List Value} {s : Nat} (he : ∀ a, (e a).length = s) : ∀ (xs : List α), (xs.flatMap e).length = xs.length * s := by
  intro xs
  induction xs with
  | nil => simp
  | cons x xs ih => rw [List.flatMap_cons, List.length_append, he, ih, List.length_cons, Nat.add_mul, Nat.one_mul, Nat.add_comm]
theorem flat_get {α : Type} {e : α → List Value} {s : Nat} (he : ∀ a, (e a).length = s) {xs : List α} {i o : Nat} {a : α} (hi : xs[i]? = some a) (ho : o < s) : (xs.flatMap e)[i * s + o]? = (e a)[o]? := by
  have h1 := drop_flatMap he xs i a hi
  have h2 := congrArg (·[o]?) h1
  simp only [List.getElem?_take, if_pos ho, List.getElem?_drop] at h2
  exact h2
/-- What a call may touch, and what lies apart from it. -/
theorem apart_step {h h' : Hp} {S S' T : List Nat} (st : Step h h' S S') (hd : ∀ b, b ∈ T → b ∉ S) (hT : ∀ b, b ∈ T → b < h.next) : ∀ b, b ∈ T → b ∉ S' := fun b hb he => by
  rcases (st.own b he).2 with g | g
  · exact hd b hb g
  · have := hT b hb; omega
end
end Go.Proofs.Ythjpddggnhgjhaa.Ah
