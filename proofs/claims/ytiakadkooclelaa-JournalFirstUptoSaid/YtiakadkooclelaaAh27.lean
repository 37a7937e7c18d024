/- Slices that are read, wherever they lie, and parts of them. -/
import Derived.Test.YtiakadkooclelaaAhq
import Derived.Laws.StructEq
set_option linter.unusedVariables false
set_option linter.unusedSimpArgs false
namespace Go.Proofs.Ytiakadkooclelaa.Ah
open Go

def Sl (w0 : World) (h : Hp) (s : Nat) (x : Value) (n : Nat) (ys : List Value) : Prop :=
  ∃ a c, x = .slice a n c ∧ Src w0.heap.size h s x n ys ∧ ys.length = n * s ∧ ((c < ucap ∧ n ≤ c) ∨ (c = ucap ∧ ∃ ad, a = some ad ∧ h.esz ad.block = s ∧ ∃ cs, h.blk ad.block = some cs))
section
variable {w0 : World} {h h' : Hp} {s n : Nat} {x : Value} {ys : List Value}
theorem Sl.src (v : Sl w0 h s x n ys) : Src w0.heap.size h s x n ys := by obtain ⟨a, c, rfl, b, -⟩ := v; exact b
theorem Sl.slice (v : Sl w0 h s x n ys) : ∃ a c, x = .slice a n c := by obtain ⟨a, c, rfl, -⟩ := v; exact ⟨a, c, rfl⟩
theorem Sl.len (v : Sl w0 h s x n ys) : ys.length = n * s := by obtain ⟨a, c, rfl, b, e, -⟩ := v; exact e
theorem Sl.junk (v : Sl w0 h s x n ys) : x ≠ junk := by obtain ⟨a, c, rfl, -⟩ := v; simp [junk]
theorem Sl.nil : Sl w0 h s (.slice none 0 0) 0 [] := ⟨none, 0, rfl, by simp [Src], by simp, .inl ⟨by decide, Nat.le_refl _⟩⟩
theorem GV.sl {S : List Nat} (v : GV w0 h s x n ys S) : Sl w0 h s x n ys := by
  have h1 := v.src
  have h2 := v.len
  rcases v with v | ⟨q, rfl, -, a, b, c, e, f, g⟩
  · rcases v with ⟨rfl, rfl, rfl, rfl⟩ | ⟨q, rfl, rfl, a, b, d, e, f⟩
    · exact .nil
    · exact ⟨_, _, rfl, h1, h2, .inr ⟨rfl, _, rfl, e, _, d⟩⟩
  · exact ⟨_, _, rfl, h1, h2, .inl ⟨f, Nat.le_refl _⟩⟩
theorem Vec.sl {S : List Nat} (v : Vec w0 h s x n ys S) : Sl w0 h s x n ys := v.gv.sl
theorem ExtSl.sl' (v : ExtSl w0 s x n ys) (f : Fit w0 h) (hl : ys.length = n * s) : Sl w0 h s x n ys := by
  obtain ⟨a, c, rfl, h1, h2⟩ := v.sl
  exact ⟨a, c, rfl, v.src h f, hl, .inl ⟨h2, h1⟩⟩
theorem Sl.step (v : Sl w0 h s x n ys) (f : Fit w0 h) {S S' : List Nat} (st : Step h h' S S') (hd : ∀ b, b ∈ sblk x → b ∉ S) : Sl w0 h' s x n ys := by
  obtain ⟨a, c, rfl, h1, h2, h3⟩ := v
  refine ⟨a, c, rfl, h1.step f st hd, h2, ?_⟩
  rcases h3 with h3 | ⟨rfl, ad, rfl, h4, cs, h5⟩
  · exact .inl h3
  · obtain ⟨k1, k2⟩ := st.keep ad.block (f.lt _ _ h5) (hd _ (by simp [sblk]))
    exact .inr ⟨rfl, ad, rfl, by rw [k2]; exact h4, cs, by rw [k1]; exact h5⟩
theorem add_block (a : Addr) (k : Nat) : (a.add k).block = a.block := by unfold Addr.add; split <;> rfl
def cutV (s : Nat) (x : Value) (lo hi : Nat) : Value :=
  match x with
  | .slice a n c => if c = ucap then .slice (a.map (·.add (lo * s))) (hi - lo) ucap else .slice (if c = lo then a else a.map (·.add (lo * s))) (hi - lo) (c - lo)
  | v => v
theorem Sl.cutN (v : Sl w0 h s x n ys) {lo hi : Nat} {olo ohi : Option Value} {K : Kont} (h1 : boundA olo 0 = some lo) (h2 : boundA ohi n = some hi) (hl : lo ≤ hi) (hh : hi ≤ n)
    (hk : ∀ x', x' = cutV s x lo hi → sblk x' = sblk x → Sl w0 h s x' (hi - lo) ((ys.take (hi * s)).drop (lo * s)) → K x' h) : slSlA s x olo ohi none K h := by
  obtain ⟨a, c, rfl, ⟨-, hs⟩, hy, hc⟩ := v
  have hmul : (hi - lo) * s = hi * s - lo * s := Nat.sub_mul _ _ _
  have hle1 : lo * s ≤ hi * s := Nat.mul_le_mul_right _ hl
  have hle2 : hi * s ≤ n * s := Nat.mul_le_mul_right _ hh
  have hlen : ((ys.take (hi * s)).drop (lo * s)).length = (hi - lo) * s := by simp; omega
  have hsrc : ∀ ad' c', (∀ b o, a = some ⟨b, o, none⟩ → 0 < hi - lo → ad' = some ⟨b, o + lo * s, none⟩) → Src w0.heap.size h s (.slice ad' (hi - lo) c') (hi - lo) ((ys.take (hi * s)).drop (lo * s)) := by
    intro ad' c' hx
    clear hc
    refine ⟨Nat.le_refl _, ?_⟩
    rcases Nat.eq_zero_or_pos (hi - lo) with hz | hz
    · left; refine ⟨hz, List.eq_nil_of_length_eq_zero (by rw [hlen, hz, Nat.zero_mul])⟩
    · right
      rcases hs with ⟨h0, -⟩ | ⟨h0, ad, rfl, hg, hcl⟩
      · omega
      obtain ⟨hsp, cs, hb, hle, hv⟩ := Hp.getN_some hg
      obtain ⟨b, o, sp⟩ := ad
      simp only at hsp hb hle hv
      subst hsp
      have e := hx b o rfl hz
      subst e
      refine ⟨hz, _, rfl, ?_, fun hb v hv => hcl hb v (List.mem_of_mem_take (List.mem_of_mem_drop hv))⟩
      have hle3 : o + lo * s + (hi - lo) * s ≤ cs.length := by rw [hmul]; omega
      rw [getN_eq, hb, Option.bind_some, if_pos hle3, hv]
      congr 1
      rw [List.take_take, Nat.min_eq_left hle2, List.drop_take, List.drop_drop, hmul]
  refine ⟨a, n, c, lo, hi, rfl, h1, h2, hl, by simp, ?_⟩
  rcases hc with ⟨hcu, hnc⟩ | ⟨rfl, ad, rfl, he, cs, hb⟩
  · show (if c = ucap then _ else _)
    have hne : ¬ c = ucap := Nat.ne_of_lt hcu
    rw [if_neg hne]
    refine ⟨Nat.le_trans hh hnc, hk _ (by simp only [cutV]; rw [if_neg hne]) ?_ ⟨_, _, rfl, hsrc _ _ ?_, hlen, .inl ⟨Nat.lt_of_le_of_lt (Nat.sub_le _ _) hcu, Nat.sub_le_sub_right (Nat.le_trans hh hnc) _⟩⟩⟩
    · split
      · cases a <;> rfl
      · cases a <;> simp [sblk, add_block]
    · rintro b o rfl hz
      split
      · rename_i e
        subst e
        exact absurd hz (by have := Nat.le_trans hh hnc; rw [Nat.sub_eq_zero_of_le this]; exact Nat.lt_irrefl 0)
      · simp
  · rw [if_pos rfl]
    refine ⟨.inl hh, ad, rfl, he, ⟨cs, hb⟩, hk _ (by simp [cutV]) ?_ ⟨_, _, rfl, hsrc _ _ ?_, hlen, .inr ⟨rfl, _, rfl, ?_, cs, ?_⟩⟩⟩
    · simp [sblk, add_block]
    · rintro b o e hz
      cases e
      simp
    · rw [add_block]; exact he
    · rw [add_block]; exact hb
end
/-! ### Slices of bytes -/
section
variable {w0 : World} {h h' : Hp} {x : Value} {l : List UInt8}
abbrev Bs (w0 : World) (h : Hp) (x : Value) (l : List UInt8) : Prop := Sl w0 h 1 x l.length (bvs l)
theorem Bs.cut (v : Bs w0 h x l) {lo hi : Nat} {olo ohi : Option Value} {K : Kont} (h1 : boundA olo 0 = some lo) (h2 : boundA ohi l.length = some hi) (hl : lo ≤ hi) (hh : hi ≤ l.length)
    (hk : ∀ x', x' = cutV 1 x lo hi → sblk x' = sblk x → Bs w0 h x' ((l.take hi).drop lo) → K x' h) : slSlA 1 x olo ohi none K h := by
  refine v.cutN h1 h2 hl hh fun x' e0 e v' => hk x' e0 e ?_
  have e1 : ((l.take hi).drop lo).length = hi - lo := by simp; omega
  unfold Bs
  rw [e1]
  simpa using v'
theorem Bs.b2s {K : Kont} (v : Bs w0 h x l) (hk : K (.string (str l)) h) : b2sA w0 x K h := by
  obtain ⟨a, c, rfl, h1, -⟩ := v
  exact b2sA_of h1 hk
theorem boundA_nat {k : IntKind} {d i : Nat} : boundA (some (.int k (i : Int))) d = some i := by simp [boundA]
theorem boundA_none {d : Nat} : boundA none d = some d := rfl
theorem Sl.cut_sl {s n : Nat} {ys : List Value} {x : Value} (v : Sl w0 h s x n ys) {lo hi : Nat} (hl : lo ≤ hi) (hh : hi ≤ n) : Sl w0 h s (cutV s x lo hi) (hi - lo) ((ys.take (hi * s)).drop (lo * s)) ∧ sblk (cutV s x lo hi) = sblk x := by
  have := v.cutN (olo := some (.int .i64 lo)) (ohi := some (.int .i64 hi)) (K := fun _ _ => Sl w0 h s (cutV s x lo hi) (hi - lo) ((ys.take (hi * s)).drop (lo * s)) ∧ sblk (cutV s x lo hi) = sblk x) boundA_nat boundA_nat hl hh (fun x' e e2 v' => by subst e; exact ⟨v', e2⟩)
  obtain ⟨a, n, c, l, u, -, -, -, -, -, k⟩ := this
  simp only at k
  split at k
  · obtain ⟨-, ad, -, -, -, k⟩ := k; exact k
  · exact k.2
theorem Bs.cut_sl (v : Bs w0 h x l) {lo hi : Nat} (hl : lo ≤ hi) (hh : hi ≤ l.length) : Bs w0 h (cutV 1 x lo hi) ((l.take hi).drop lo) := by
  have := (Sl.cut_sl v hl hh).1
  have e1 : ((l.take hi).drop lo).length = hi - lo := by simp; omega
  unfold Bs
  rw [e1]
  simpa using this
theorem sameQ_slSlA {s : Nat} {y v : Value} {lo hi : Option Value} : sameQ (slSlA s y lo hi none) v h ↔ slSlA s y lo hi none (fun v' _ => v' = v) h := by
  rw [sameQ_iff]
  constructor
  · rintro ⟨a, n, c, l, u, e1, e2, e3, e4, e5, e6⟩
    refine ⟨a, n, c, l, u, e1, e2, e3, e4, e5, ?_⟩
    simp only at e6 ⊢
    split
    · rename_i hc
      rw [if_pos hc] at e6
      obtain ⟨g1, ad, g2, g3, g4, g5, -⟩ := e6
      exact ⟨g1, ad, g2, g3, g4, g5⟩
    · rename_i hc
      rw [if_neg hc] at e6
      exact ⟨e6.1, e6.2.1⟩
  · rintro ⟨a, n, c, l, u, e1, e2, e3, e4, e5, e6⟩
    refine ⟨a, n, c, l, u, e1, e2, e3, e4, e5, ?_⟩
    simp only at e6 ⊢
    split
    · rename_i hc
      rw [if_pos hc] at e6
      obtain ⟨g1, ad, g2, g3, g4, g5⟩ := e6
      exact ⟨g1, ad, g2, g3, g4, g5, trivial⟩
    · rename_i hc
      rw [if_neg hc] at e6
      exact ⟨e6.1, e6.2, trivial⟩
end
/-! ### Bytes that were there -/
def dByte : Dec UInt8 := ⟨fun b => [bv b], fun _ => True, fun _ => 1⟩
theorem flat_bytes (l : List UInt8) : l.flatMap dByte.e = bvs l := by
  induction l with
  | nil => rfl
  | cons b l ih => rw [List.flatMap_cons, ih]; rfl
theorem ExtSl.bytes {w0 : World} {v : Value} {l : List UInt8} (x : ExtSl w0 1 v l.length (l.flatMap dByte.e)) (h : Hp) (f : Fit w0 h) : Bs w0 h v l := by
  rw [flat_bytes] at x
  exact x.sl' f (by simp)
/-! ### Slices of bytes inside of structs -/
section
open Go.ChangeShapes
end
end Go.Proofs.Ytiakadkooclelaa.Ah
