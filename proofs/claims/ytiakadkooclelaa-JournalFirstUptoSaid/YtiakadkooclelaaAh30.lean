/- Functions that are ranged over: what one promises, and how a loop over it goes. -/
import Derived.Test.YtiakadkooclelaaAh27
import Derived.Test.YtiakadkooclelaaAh28
set_option linter.unusedVariables false
set_option linter.unusedSimpArgs false
namespace Go.Proofs.Ytiakadkooclelaa.Ah
open Go

/-! ### What holds of the heaps -/
section
variable {P : Program} {w0 : World} {h h' h1 h2 : Hp} {b : Nat} {args : List Value} {R : Kont}
theorem AYield.fit (c : AYield P w0 b args h fun v h' => Fit w0 h' → R v h') : AYield P w0 b args h R :=
  ⟨c.1, fun ι w args' r v => by
    obtain ⟨f, tmps, as', bd, e, k⟩ := c.2 ι w args' r v
    exact ⟨f, tmps, as', bd, e, k.mono fun e w' ⟨v', ι', h', v, a, b, c, d, e⟩ => ⟨v', ι', h', v, a, b, c, d, e c.fit⟩⟩⟩
theorem AYield.of_fit (hj : ∀ v, v ∈ args → v ≠ junk) (c : Fit w0 h → AYield P w0 b args h R) : AYield P w0 b args h R :=
  ⟨hj, fun ι w args' r v => (c r.fit).2 ι w args' r v⟩
theorem callVA_of {y : Value} {K : Kont} (c : callVA P w0 y args R h) (hk : ∀ v h', R v h' → Fit w0 h' → K v h') : callVA P w0 y args K h := by
  rcases c with ⟨f, a, c, e, ok, k⟩ | ⟨b, e, k⟩
  · exact .inl ⟨f, a, c, e, ok, ACalls.fit (k.mono fun v h' r f => hk v h' r f)⟩
  · exact .inr ⟨b, e, AYield.fit (k.mono fun v h' r f => hk v h' r f)⟩
theorem callFA_of {y : Value} {K : Kont} (c : callFA P w0 y args R h) (hk : ∀ v h', R v h' → Fit w0 h' → K v h') : callFA P w0 y args K h := by
  obtain ⟨f, a, c, e, ok, k⟩ := c
  exact ⟨f, a, c, e, ok, ACalls.fit (k.mono fun v h' r f => hk v h' r f)⟩
theorem Fit.setLp (f : Fit w0 h) {g : Lp} {s : Lst} (hB : w0.heap.size ≤ b) (hb : b < h.next) : Fit w0 (h.setLp b g s) :=
  ⟨f.base, f.ext, f.lt, f.cell, fun c x e => by
    rw [setLp_lp] at e
    split at e
    · rename_i e'; subst e'; exact ⟨hB, hb⟩
    · exact f.lps c x e, f.um⟩
end

def Hp.as (h' h : Hp) : Hp := { h' with lp := h.lp }
structure YStep (N : Nat) (h h' : Hp) (S S' : List Nat) : Prop where
  next : h.next ≤ h'.next
  keep : ∀ b, b < h.next → b ∉ S → h'.blk b = h.blk b ∧ h'.esz b = h.esz b
  own : ∀ b, b ∈ S' → b < h'.next ∧ (b ∈ S ∨ h.next ≤ b)
  lp : ∀ b, N ≤ b → b < h.next → h'.lp b = h.lp b
section
variable {N : Nat} {h h' h1 h2 : Hp} {S S' S1 S2 T T' : List Nat}
theorem Step.y (s : Step h h' S S') (N : Nat) : YStep N h h' S S' := ⟨s.1, s.2, s.3, fun b _ _ => by rw [s.4]⟩
theorem YStep.step (s : YStep N h h' S S') : Step h (h'.as h) S S' := ⟨s.1, s.2, s.3, rfl⟩
theorem YStep.refl (N : Nat) (h : Hp) (S : List Nat) (hs : ∀ b, b ∈ S → b < h.next) : YStep N h h S S := (Step.refl h S hs).y N
theorem YStep.trans (a : YStep N h h1 S S1) (b : YStep N h1 h2 S1 S2) : YStep N h h2 S S2 := by
  refine ⟨Nat.le_trans a.1 b.1, fun i hi hs => ?_, fun i hi => ?_, fun i hN hi => ?_⟩
  · have h1 : i ∉ S1 := fun e => by rcases (a.3 i e).2 with e | e; exact hs e; omega
    have := b.2 i (by have := a.1; omega) h1
    rw [this.1, this.2]
    exact a.2 i hi hs
  · refine ⟨(b.3 i hi).1, ?_⟩
    rcases (b.3 i hi).2 with e | e
    · exact (a.3 i e).2
    · right; have := a.1; omega
  · rw [b.4 i hN (by have := a.1; omega)]
    exact a.4 i hN hi
theorem YStep.less (a : YStep N h h' S S') (hT : ∀ b, b ∈ T → b ∈ S') : YStep N h h' S T := ⟨a.1, a.2, fun b hb => a.3 b (hT b hb), a.4⟩
theorem YStep.wide (a : YStep N h h' S S') (hS : ∀ b, b ∈ S → b ∈ T ∨ h.next ≤ b) (hS' : ∀ b, b ∈ T' → b ∈ S' ∨ (b ∈ T ∧ b < h.next)) : YStep N h h' T T' := by
  refine ⟨a.1, fun b hb hs => a.2 b hb (fun e => by rcases hS b e with q | q; exact hs q; omega), fun b hb => ?_, a.4⟩
  rcases hS' b hb with e | ⟨e, f⟩
  · exact ⟨(a.3 b e).1, by rcases (a.3 b e).2 with q | q; exact hS b q; exact .inr q⟩
  · exact ⟨by have := a.1; omega, .inl e⟩
theorem YStep.cut (s : YStep 0 h h' S S') : Step h (h'.cutLp h) S S' := ⟨s.1, s.2, s.3, by
  funext b
  rw [cutLp_lp]
  split
  · rename_i hb; exact s.4 b (Nat.zero_le _) hb
  · rfl⟩
theorem YStep.more (a : YStep N h h' S S') (T : List Nat) (ht : ∀ b, b ∈ T → b < h.next) : YStep N h h' (S ++ T) (S' ++ T) := by
  refine ⟨a.1, fun b hb hs => a.2 b hb (fun e => hs (by simp [e])), fun b hb => ?_, a.4⟩
  rcases List.mem_append.1 hb with e | e
  · exact ⟨(a.3 b e).1, by rcases (a.3 b e).2 with q | q <;> simp [q]⟩
  · exact ⟨by have := ht b e; have := a.1; omega, by simp [e]⟩
end

structure KeepC (w0 : World) (N B : Nat) (C : Hp → List Nat → Prop) : Prop where
  ins : ∀ h lp S, (∀ b, b < N → lp b = h.lp b) → C h S → C { h with lp := lp } S
  step : ∀ h h' S T T', Fit w0 h → C h S → Step h h' T T' → (∀ b, b ∈ S → b ∉ T) → (∀ b, b ∈ T → B ≤ b) → C h' S
  lt : ∀ h S, C h S → ∀ b, b ∈ S → b < h.next

theorem KeepC.y {w0 : World} {N M B : Nat} {C : Hp → List Nat → Prop} (k : KeepC w0 N B C) {h h' : Hp} {S T T' : List Nat} (f : Fit w0 h) (c : C h S) (st : YStep M h h' T T') (hd : ∀ b, b ∈ S → b ∉ T) (hB : ∀ b, b ∈ T → B ≤ b) (hl : ∀ b, b < N → h'.lp b = h.lp b) : C h' S :=
  k.ins (h'.as h) h'.lp S hl (k.step h _ S T T' f c st.step hd hB)

def ItC (P : Program) (w0 : World) (fv : Value) (hh : Hp) (T : List Nat) (xs : List (List Value)) : Prop :=
  ∀ (y : Value) (N : Nat) (S : List Nat) (C : Nat → Hp → List Nat → Prop) (D : Hp → List Nat → Prop), y ≠ junk → N ≤ hh.next → (∀ i, KeepC w0 N hh.next (C i)) → KeepC w0 N hh.next D →
    (∀ i x h1 S1, xs[i]? = some x → Fit w0 h1 → C i h1 S1 → callVA P w0 y x (fun v h2 => ∃ S2, YStep N h1 h2 S1 S2 ∧ ((v = .bool true ∧ C (i + 1) h2 S2) ∨ (v = .bool false ∧ D h2 S2))) h1) →
    C 0 hh S → (∀ b, b ∈ S → b ∉ T) → callFA P w0 fv [y] (fun _ h2 => ∃ S2, YStep N hh h2 S S2 ∧ (C xs.length h2 S2 ∨ D h2 S2)) hh

theorem rangeA_of {P : Program} {w0 : World} {fv : Value} {np : Nat} {round : Nat → Lp → List Value → Kont → Hp → Prop} {K0 : Hp → Prop} {Ks : List (Option Nat × (Hp → Prop))} {h : Hp} {xs : List (List Value)} {T : List Nat}
    (N : Nat) (hN : N ≤ h.next) (f : Fit w0 h) (it : ∀ g, ItC P w0 fv (h.newLp g) T xs) (body : Nat → Lp → List Value → Kont → Hp → Prop) (hround : ∀ b g x K, round b g x K = beginA b g (body b g x K))
    (S : List Nat) (C : Nat → Hp → List Nat → Prop) (D : Option Nat → Hp → List Nat → Prop) (kC : ∀ i, KeepC w0 N h.next (C i)) (kD : ∀ o, KeepC w0 N h.next (D o)) (h0 : C 0 h S) (hd : ∀ b, b ∈ S → b ∉ T)
    (hx : ∀ x, x ∈ xs → x.length = np ∧ ∀ v, v ∈ x → v ≠ junk)
    (hr : ∀ i x h1 S1 g K, xs[i]? = some x → Fit w0 h1 → C i h1 S1 → h1.lp h.next = some (g, .busy) → h.next < h1.next →
      (∀ h2 S2, YStep N h1 h2 S1 S2 → C (i + 1) h2 S2 → endR h.next g none K h2) → (∀ o h2 S2, YStep N h1 h2 S1 S2 → D o h2 S2 → endR h.next g (some o) K h2) → body h.next g x K h1)
    (k0 : ∀ h3 S2, Fit w0 h3 → YStep N h h3 S S2 → C xs.length h3 S2 → K0 h3)
    (ks : ∀ o h3 S2, Fit w0 h3 → YStep N h h3 S S2 → D o h3 S2 → ∃ p, p ∈ Ks ∧ p.1 = o ∧ p.2 h3) : rangeA P w0 fv np round K0 Ks h := by
  refine ⟨fun g hy => ?_⟩
  let L : Hp → Prop := fun h1 => h.next < h1.next ∧ ∀ c, N ≤ c → c < h.next → h1.lp c = h.lp c
  have hLs : ∀ h1 h2, L h1 → h1.next ≤ h2.next → (∀ c, c < h.next → h2.lp c = h1.lp c) → L h2 := fun h1 h2 a n e => ⟨Nat.lt_of_lt_of_le a.1 n, fun c h3 h4 => by rw [e c h4]; exact a.2 c h3 h4⟩
  have key := it g (.func (.yield h.next) #[] #[]) (h.next + 1) S (fun i h1 S1 => C i h1 S1 ∧ h1.lp h.next = some (g, .ready) ∧ L h1) (fun h1 S1 => ∃ o, D o h1 S1 ∧ h1.lp h.next = some (g, .done o) ∧ L h1)
    (by simp [junk]) (Nat.le_refl _) (fun i => ⟨fun h1 lp S1 e ⟨a, b, c⟩ => ⟨(kC i).ins h1 lp S1 (fun b hb => e b (by omega)) a, by show lp h.next = _; rw [e _ (by omega)]; exact b, hLs h1 _ c (Nat.le_refl _) fun c hc => e c (by omega)⟩,
      fun h1 h2 S1 T1 T2 f1 ⟨a, b, c⟩ st hdj hB => ⟨(kC i).step h1 h2 S1 T1 T2 f1 a st hdj (fun b hb => Nat.le_of_succ_le (hB b hb)), by rw [st.lp]; exact b, hLs h1 _ c st.1 fun c hc => by rw [st.lp]⟩, fun h1 S1 ⟨a, b, c⟩ => (kC i).lt h1 S1 a⟩)
    ⟨fun h1 lp S1 e ⟨o, a, b, c⟩ => ⟨o, (kD o).ins h1 lp S1 (fun b hb => e b (by omega)) a, by show lp h.next = _; rw [e _ (by omega)]; exact b, hLs h1 _ c (Nat.le_refl _) fun c hc => e c (by omega)⟩,
      fun h1 h2 S1 T1 T2 f1 ⟨o, a, b, c⟩ st hdj hB => ⟨o, (kD o).step h1 h2 S1 T1 T2 f1 a st hdj (fun b hb => Nat.le_of_succ_le (hB b hb)), by rw [st.lp]; exact b, hLs h1 _ c st.1 fun c hc => by rw [st.lp]⟩, fun h1 S1 ⟨o, a, b, c⟩ => (kD o).lt h1 S1 a⟩
    (fun i x h1 S1 hi f1 ⟨c1, c2, c3⟩ => ?_) ⟨(kC 0).ins { h with next := h.next + 1 } (h.newLp g).lp S (fun b hb => by rw [newLp_lp, if_neg (by omega)]) ((kC 0).step h _ S [] [] f h0 ⟨Nat.le_succ _, fun _ _ _ => ⟨rfl, rfl⟩, fun b hb => by simp at hb, rfl⟩ (by simp) (by simp)), by simp, by simp, fun c h1 h2 => by rw [newLp_lp, if_neg (by omega)]⟩ hd
  · refine callFA_of key fun _ h2 ⟨S2, ys, hk⟩ f2 => ?_
    have hY : L h2 → ∀ s, YStep N h (h2.setLp h.next g s) S S2 := fun l s => ⟨by have := ys.next; simp at this ⊢; omega, fun b hb hs => ys.keep b (by simp; omega) hs, fun b hb => ⟨(ys.own b hb).1, by
      rcases (ys.own b hb).2 with q | q
      · exact .inl q
      · right; simp at q; omega⟩, fun b h3 h4 => by rw [setLp_lp, if_neg (by omega)]; exact l.2 b h3 h4⟩
    rcases hk with ⟨c1, c2, c3⟩ | ⟨o, c1, c2, c3⟩
    · exact .inl ⟨c2, k0 _ S2 (f2.setLp f.base c3.1) (hY c3 _) ((kC _).ins h2 _ S2 (fun b hb => by rw [if_neg (by omega)]) c1)⟩
    · obtain ⟨p, hp, hpo, hpk⟩ := ks o _ S2 (f2.setLp f.base c3.1) (hY c3 .mark) ((kD _).ins h2 _ S2 (fun b hb => by rw [if_neg (by omega)]) c1)
      exact .inr ⟨p, hp, by rw [hpo]; exact c2, hpk⟩
  · obtain ⟨hxl, hxj⟩ := hx x (List.mem_of_getElem? hi)
    refine .inr ⟨h.next, rfl, hy x h1 _ hxl hxj c2 ?_⟩
    rw [hround]
    refine ⟨c2, hr i x (h1.setLp h.next g .busy) S1 g _ hi (f1.setLp f.base c3.1) ((kC i).ins h1 _ S1 (fun b hb => by rw [if_neg (by omega)]) c1) (by simp) c3.1 (fun h2 S2 ys c4 => ?_) (fun o h2 S2 ys c4 => ?_)⟩
    · refine ⟨by rw [ys.lp h.next hN c3.1]; simp, S2, ⟨ys.next, ys.keep, ys.own, fun b h3 h4 => ?_⟩, .inl ⟨rfl, (kC _).ins h2 _ S2 (fun b hb => by rw [if_neg (by omega)]) c4, by simp [stAt], Nat.lt_of_lt_of_le c3.1 ys.next, fun c h3 h4 => ?_⟩⟩
      · rw [setLp_lp, if_neg (by omega), ys.lp b (by omega) h4, setLp_lp, if_neg (by omega)]
      · rw [setLp_lp, if_neg (by omega), ys.lp c h3 (by have := c3.1; simp; omega), setLp_lp, if_neg (by omega)]
        exact c3.2 c h3 h4
    · refine ⟨by rw [ys.lp h.next hN c3.1]; simp, S2, ⟨ys.next, ys.keep, ys.own, fun b h3 h4 => ?_⟩, .inr ⟨rfl, o, (kD _).ins h2 _ S2 (fun b hb => by rw [if_neg (by omega)]) c4, by simp [stAt], Nat.lt_of_lt_of_le c3.1 ys.next, fun c h3 h4 => ?_⟩⟩
      · rw [setLp_lp, if_neg (by omega), ys.lp b (by omega) h4, setLp_lp, if_neg (by omega)]
      · rw [setLp_lp, if_neg (by omega), ys.lp c h3 (by have := c3.1; simp; omega), setLp_lp, if_neg (by omega)]
        exact c3.2 c h3 h4
section
variable {w0 : World} {h h' : Hp} {s n : Nat} {x : Value} {ys : List Value}
def cut3V (s : Nat) (x : Value) (lo hi : Nat) : Value :=
  match x with
  | .slice a _ _ => .slice (if hi = lo then a else a.map (·.add (lo * s))) (hi - lo) (hi - lo)
  | v => v
theorem Sl.cut3 (v : Sl w0 h s x n ys) {lo hi : Nat} {olo ohi : Option Value} {mv : Value} {K : Kont} (h1 : boundA olo 0 = some lo) (h2 : boundA ohi n = some hi) (h3 : boundA (some mv) 0 = some hi) (ho : ohi.isSome = true) (hl : lo ≤ hi) (hh : hi ≤ n) (hn : n < ucap)
    (hk : sblk (cut3V s x lo hi) = sblk x → Sl w0 h s (cut3V s x lo hi) (hi - lo) ((ys.take (hi * s)).drop (lo * s)) → K (cut3V s x lo hi) h) : slSlA s x olo ohi (some mv) K h := by
  obtain ⟨a, c, rfl, ⟨-, hs⟩, hy, hc⟩ := v
  have hmul : (hi - lo) * s = hi * s - lo * s := Nat.sub_mul _ _ _
  have hle1 : lo * s ≤ hi * s := Nat.mul_le_mul_right _ hl
  have hle2 : hi * s ≤ n * s := Nat.mul_le_mul_right _ hh
  have hlen : ((ys.take (hi * s)).drop (lo * s)).length = (hi - lo) * s := by simp; omega
  refine ⟨a, n, c, lo, hi, rfl, h1, h2, hl, fun _ => ho, hi, h3, Nat.le_refl _, by omega, ?_, hk ?_ ⟨_, _, rfl, ⟨Nat.le_refl _, ?_⟩, hlen, .inl ⟨by omega, Nat.le_refl _⟩⟩⟩
  · split
    · exact hh
    · rename_i hne
      rcases hc with ⟨-, q⟩ | ⟨q, -⟩
      · omega
      · exact absurd q hne
  · simp only [cut3V]
    split
    · cases a <;> rfl
    · cases a <;> simp [sblk, add_block]
  · clear hc
    rcases Nat.eq_zero_or_pos (hi - lo) with hz | hz
    · left; exact ⟨hz, List.eq_nil_of_length_eq_zero (by rw [hlen, hz, Nat.zero_mul])⟩
    · right
      rw [if_neg (by omega)]
      rcases hs with ⟨h0, -⟩ | ⟨h0, ad, rfl, hg, hcl⟩
      · omega
      obtain ⟨hsp, cs, hb, hle, hv⟩ := Hp.getN_some hg
      obtain ⟨b, o, sp⟩ := ad
      simp only at hsp hb hle hv
      subst hsp
      refine ⟨hz, ⟨b, o + lo * s, none⟩, by simp, ?_, fun hb v hv => hcl hb v (List.mem_of_mem_take (List.mem_of_mem_drop hv))⟩
      have hle3 : o + lo * s + (hi - lo) * s ≤ cs.length := by rw [hmul]; omega
      rw [getN_eq, hb, Option.bind_some, if_pos hle3, hv]
      congr 1
      rw [List.take_take, Nat.min_eq_left hle2, List.drop_take, List.drop_drop, hmul]
theorem Bs.cut3 {l : List UInt8} (v : Bs w0 h x l) {lo hi : Nat} {olo ohi : Option Value} {mv : Value} {K : Kont} (h1 : boundA olo 0 = some lo) (h2 : boundA ohi l.length = some hi) (h3 : boundA (some mv) 0 = some hi) (ho : ohi.isSome = true) (hl : lo ≤ hi) (hh : hi ≤ l.length) (hn : l.length < ucap)
    (hk : sblk (cut3V 1 x lo hi) = sblk x → Bs w0 h (cut3V 1 x lo hi) ((l.take hi).drop lo) → K (cut3V 1 x lo hi) h) : slSlA 1 x olo ohi (some mv) K h := by
  refine Sl.cut3 v h1 h2 h3 ho hl hh hn fun e v' => hk e ?_
  have e1 : ((l.take hi).drop lo).length = hi - lo := by simp; omega
  unfold Bs
  rw [e1]
  simpa using v'
theorem Bs.cut3_sl {l : List UInt8} (v : Bs w0 h x l) {lo hi : Nat} (hl : lo ≤ hi) (hh : hi ≤ l.length) (hn : l.length < ucap) : Bs w0 h (cut3V 1 x lo hi) ((l.take hi).drop lo) ∧ sblk (cut3V 1 x lo hi) = sblk x := by
  have := v.cut3 (olo := some (.int .i64 lo)) (ohi := some (.int .i64 hi)) (mv := .int .i64 hi) (K := fun _ _ => Bs w0 h (cut3V 1 x lo hi) ((l.take hi).drop lo) ∧ sblk (cut3V 1 x lo hi) = sblk x) boundA_nat boundA_nat boundA_nat rfl hl hh hn (fun e v' => ⟨v', e⟩)
  obtain ⟨a, n, c, l, u, -, -, -, -, -, k⟩ := this
  simp only at k
  obtain ⟨m, -, -, -, -, k⟩ := k
  exact k
end
section
variable {w0 : World} {h : Hp}
theorem Sl.stepL {h' : Hp} {s n : Nat} {x : Value} {ys : List Value} (v : Sl w0 h s x n ys) (hx : ∀ b, b ∈ sblk x → b < h.next) {S S' : List Nat} (st : Step h h' S S') (hd : ∀ b, b ∈ sblk x → b ∉ S) : Sl w0 h' s x n ys := by
  obtain ⟨a, c, rfl, h1, h2, h3⟩ := v
  refine ⟨a, c, rfl, h1.frame fun b cs hb hbk => by rw [(st.keep b (hx b hb) (hd b hb)).1]; exact hbk, h2, ?_⟩
  rcases h3 with h3 | ⟨rfl, ad, rfl, h4, cs, h5⟩
  · exact .inl h3
  · obtain ⟨k1, k2⟩ := st.keep ad.block (hx _ (by simp [sblk])) (hd _ (by simp [sblk]))
    exact .inr ⟨rfl, ad, rfl, by rw [k2]; exact h4, cs, by rw [k1]; exact h5⟩
theorem Vec.sblk_eq {s n : Nat} {x : Value} {cs : List Value} {S : List Nat} (v : Vec w0 h s x n cs S) : sblk x = S := by
  rcases v with ⟨rfl, -, -, rfl⟩ | ⟨q, rfl, rfl, -⟩ <;> rfl
end
/-! ### What is forgotten -/
/-! ### Cells that are moved -/
/-! ### append in place, where that is known -/
end Go.Proofs.Ytiakadkooclelaa.Ah
