/- Regions that draw their order: the proof. -/
import Derived.Test.YtiakadkooclelaaAh14
set_option linter.unusedVariables false
set_option linter.unusedSimpArgs false
namespace Go.Proofs.Ytiakadkooclelaa.Ah
open Go

section
variable {P : Program} {w0 : World}

theorem late_filter : ∀ (R : List Late) (x : Late), x ∈ R → R.Pairwise (fun x y => x.i ≠ y.i) → (R.filter fun y => decide (y.i ≠ x.i)).length + 1 = R.length := by
  intro R
  induction R with
  | nil => intro x h; simp at h
  | cons y R ih =>
    intro x hx hp
    rw [List.pairwise_cons] at hp
    rcases List.mem_cons.1 hx with rfl | hx
    · have : R.filter (fun y => decide (y.i ≠ x.i)) = R := List.filter_eq_self.2 fun z hz => by
        have := hp.1 z hz
        simp only [decide_eq_true_eq]
        exact fun e => this e.symm
      rw [List.filter_cons_of_neg (by simp), this]
      rfl
    · rw [List.filter_cons_of_pos (by simp only [decide_eq_true_eq]; exact hp.1 x hx)]
      simp only [List.length_cons]
      rw [ih x hx hp.2]

theorem ready_exists {ops : Array Oper} {an : List (List Nat)} {listed : Array Bool} (tb : Tbl ops.toList an) (hs : listed.size = ops.size) : ∀ (i : Nat), i < ops.size → listed.getD i true = false → Region.ready .any ops listed ≠ [] := by
  intro i
  induction i using Nat.strongRecOn with
  | _ i ih =>
    intro hi hl he
    have ho : ops[i]? = some ops[i] := by simp [hi]
    have ho' : ops.toList[i]? = some ops[i] := by simp [hi]
    by_cases hall : ∀ p, p ∈ predsOf ops[i] → listed.getD p false = true
    · have : i ∈ Region.ready .any ops listed := mem_ready.2 ⟨hl, _, ho, fun e hem hb => hall e.on (by
        unfold predsOf
        exact List.mem_map.2 ⟨e, List.mem_filter.2 ⟨by simpa using hem, hb⟩, rfl⟩)⟩
      rw [he] at this
      simp at this
    · have : ∃ p, p ∈ predsOf ops[i] ∧ listed.getD p false = false := by
        apply Classical.byContradiction
        intro hn
        exact hall fun p hp => by
          cases hq : listed.getD p false with
          | true => rfl
          | false => exact absurd ⟨p, hp, hq⟩ hn
      obtain ⟨p, hp, hq⟩ := this
      have hpi := tb.lt i _ ho' p hp
      have hps : p < listed.size := by omega
      refine ih p hpi (by omega) ?_ he
      simp only [Array.getD_eq_getD_getElem?, Array.getElem?_eq_getElem hps, Option.getD_some] at hq ⊢
      exact hq

theorem getD_both {listed : Array Bool} {i : Nat} (h : i < listed.size) : listed.getD i true = listed.getD i false := by
  simp [Array.getD_eq_getD_getElem?, Array.getElem?_eq_getElem h]

theorem set_getD {listed : Array Bool} {i j : Nat} (h : j < listed.size) : (listed.setIfInBounds i true).getD j true = if i = j then true else listed.getD j true := by
  simp only [Array.getD_eq_getD_getElem?, Array.getElem?_setIfInBounds]
  by_cases e : i = j
  · subst e; simp [h]
  · simp [e]

theorem Inv.ancs {n : Nat} {all : List Oper} {an : List (List Nat)} {listed : Array Bool} {rem : List Nat} {R : List Late} {t : Fr} {G : List (Nat × (Hp → Prop))} {ι : Inj} {h : Hp} {a : Act} {w : World}
    (tb : Tbl all an) (v : Inv P w0 n all an listed rem R t G ι h a w) {i : Nat} {o : Oper} (ho : all[i]? = some o) (hp : ∀ p, p ∈ predsOf o → listed.getD p false = true) : ∀ j, j ∈ an.getD i [] → listed.getD j true = true := by
  intro j hj
  have hil : i < all.length := (List.getElem?_eq_some_iff.1 ho).1
  have lt : ∀ p, p ∈ predsOf o → p < listed.size := fun p hp => by have := tb.lt i o ho p hp; rw [v.size]; omega
  rcases tb.anc i o ho j hj with h1 | ⟨p, h1, h2⟩
  · rw [getD_both (lt j h1)]; exact hp j h1
  · exact v.down p (by have := lt p h1; rw [v.size] at this; exact this) (by rw [getD_both (lt p h1)]; exact hp p h1) j h2

set_option maxHeartbeats 2000000 in
theorem sim {ro : Option Nat} {n : Nat} {ops : Array Oper} {an : List (List Nat)} {K : Fr → Hp → Prop} {Q : Exit → Act → World → Prop} {ι0 : Inj} {h0 : Hp} {ds : List Deferred} (tb : Tbl ops.toList an)
    (hQ : ∀ ι' h' t' a' w', Ext ι0 h0 ι' h' → HRel w0 ι' h' w' → FRel w0.heap.size h'.next ι' n t' a'.tmps → a'.defers = ds → K t' h' → Q .normal a' w') :
    ∀ (m k : Nat) (listed : Array Bool) (rem : List Nat) (R : List Late) (t : Fr) (G : List (Nat × (Hp → Prop))) (ι : Inj) (h : Hp) (a : Act) (w : World) (f : Nat), m = rem.length + R.length → k = rem.length → rem.length ≤ f →
      Inv P w0 n ops.toList an listed rem R t G ι h a w → Ext ι0 h0 ι h → a.defers = ds → vcTree P w0 n ops.toList an f rem t G K h → wpAnyIn (Fw ro) 0 P .any ops Q m listed a w := by
  have hsz : ops.toList.length = ops.size := by simp
  intro m
  induction m with
  | zero =>
    intro k listed rem R t G ι h a w f hm hk hf iv he hds hv
    obtain rfl : rem = [] := List.eq_nil_of_length_eq_zero (by omega)
    obtain rfl : R = [] := List.eq_nil_of_length_eq_zero (by simp at hm; omega)
    refine ⟨?_, ?_⟩
    · apply List.eq_nil_iff_forall_not_mem.2
      intro i hi
      obtain ⟨h1, o, h2, _⟩ := mem_ready.1 hi
      have hil : i < ops.size := (Array.getElem?_eq_some_iff.1 h2).1
      have := (iv.un i (by omega)).1 h1
      simp at this
    · have hk : K t h := by
        cases f with
        | zero => exact hv.2
        | succ f => exact hv.2
      exact hQ ι h t a w he iv.rel ⟨iv.sz, fun s hs hne => iv.fr s hs (fun x hx => by simp at hx) hne⟩ hds hk
  | succ m ihm =>
    -- the machine's step, where no quiet operation is left to the walk
    have step : ∀ (listed : Array Bool) (rem : List Nat) (R : List Late) (t : Fr) (G : List (Nat × (Hp → Prop))) (ι : Inj) (h : Hp) (a : Act) (w : World) (f : Nat), m + 1 = rem.length + R.length → rem.length ≤ f →
        Inv P w0 n ops.toList an listed rem R t G ι h a w → Ext ι0 h0 ι h → a.defers = ds → vcTree P w0 n ops.toList an f rem t G K h →
        (∀ i, i ∈ rem → rdy ops.toList rem i = true → ∃ o f', ops.toList[i]? = some o ∧ rem.length ≤ f' + 1 ∧ stepD P w0 n ops.toList o t (fun v h' => gOK (an.getD i []) G h' ∧ vcTree P w0 n ops.toList an f' (rem.erase i) (putA t o.dst v) G K h') h) →
        wpAnyIn (Fw ro) 0 P .any ops Q (m + 1) listed a w := by
      intro listed rem R t G ι h a w f hm hf iv he hds hv hEff
      have lateLt : ∀ y, y ∈ R → y.i < ops.size := fun y hy => by
        obtain ⟨o, ho, _⟩ := iv.late y hy
        have := (List.getElem?_eq_some_iff.1 ho).1
        omega
      have lateUn : ∀ y, y ∈ R → listed.getD y.i true = false := fun y hy => (iv.un y.i (by rw [hsz]; exact lateLt y hy)).2 (.inr ⟨y, hy, rfl⟩)
      refine ⟨fun hnil => ?_, fun i hi => ?_⟩
      · exfalso
        cases hr : rem with
        | cons i r =>
          have hir : i ∈ rem := by rw [hr]; simp
          exact ready_exists tb (by rw [iv.size, hsz]) i (by rw [← hsz]; exact iv.lt i hir) ((iv.un i (iv.lt i hir)).2 (.inl hir)) hnil
        | nil =>
          cases hR : R with
          | nil => rw [hr, hR] at hm; simp at hm
          | cons y r =>
            have hyR : y ∈ R := by rw [hR]; simp
            exact ready_exists tb (by rw [iv.size, hsz]) y.i (lateLt y hyR) (lateUn y hyR) hnil
      obtain ⟨hl, o, ho, hpr⟩ := mem_ready.1 hi
      have hil : i < ops.size := (Array.getElem?_eq_some_iff.1 ho).1
      have ho' : ops.toList[i]? = some o := by simpa using ho
      have hp : ∀ p, p ∈ predsOf o → listed.getD p false = true := fun p hp => by
        obtain ⟨e, he, rfl⟩ := List.mem_map.1 hp
        obtain ⟨h1, h2⟩ := List.mem_filter.1 he
        exact hpr e (by simpa using h1) h2
      have hanc := iv.ancs tb ho' hp
      have hls : listed.size = ops.size := by rw [iv.size, hsz]
      have hset : ∀ j, j < ops.size → (listed.setIfInBounds i true).getD j true = if i = j then true else listed.getD j true := fun j hj => set_getD (by omega)
      have hdown : ∀ q, q < ops.toList.length → (listed.setIfInBounds i true).getD q true = true → ∀ j, j ∈ an.getD q [] → (listed.setIfInBounds i true).getD j true = true := by
        intro q hq hql j hj
        have hjl : listed.getD j true = true := by
          rw [hset q (by omega)] at hql
          by_cases e : i = q
          · subst e; exact hanc j hj
          · rw [if_neg e] at hql; exact iv.down q hq hql j hj
        simp only [Array.getD_eq_getD_getElem?, Array.getElem?_setIfInBounds] at hjl ⊢
        by_cases e : i = j
        · subst e; simp; split <;> rfl
        · simpa [e] using hjl
      simp only [wpOpIn, ho]
      rcases (iv.un i (by omega)).1 hl with hrem | ⟨x, hxR, hxi⟩
      · -- an effect: the walk goes with the machine
        have hrdy : rdy ops.toList rem i = true := by
          unfold rdy
          rw [ho']
          simp only [List.all_eq_true, Bool.not_eq_true', List.contains_eq_mem, decide_eq_false_iff_not]
          intro p hpp hpm
          have hlt : p < ops.toList.length := iv.lt p hpm
          have h1 := (iv.un p hlt).2 (.inl hpm)
          rw [getD_both (by omega), hp p hpp] at h1
          simp at h1
        obtain ⟨o2, f', ho2, hf', hstep⟩ := hEff i hrem hrdy
        rw [ho'] at ho2
        obtain rfl : o = o2 := by simpa using ho2
        have noLate : ∀ s, s ∈ looks ops.toList o → ∀ y, y ∈ R → ∀ oy, ops.toList[y.i]? = some oy → oy.dst ≠ some s := by
          intro s hs y hy oy hoy e
          rcases tb.ssa i y.i o oy s ho' hoy hs e with h1 | h1
          · have := hanc y.i h1
            rw [lateUn y hy] at this
            simp at this
          · exact iv.gdown y.i (by rw [hsz]; exact lateLt y hy) (iv.apart y hy) i h1 hrem
        have hfr : FRel w0.heap.size h.next ι n (scrub (looks ops.toList o) t) a.tmps := by
          refine ⟨iv.sz, fun s hs hne => ?_⟩
          by_cases hm : s ∈ looks ops.toList o
          · rcases scrub_get (looks ops.toList o) t s with e | e
            · exact absurd e hne
            · rw [e] at hne ⊢
              exact iv.fr s hs (fun y hy oy hoy => noLate s hm y hy oy hoy) hne
          · exact absurd (scrub_not hm) hne
        refine step_sound (ro := ro) iv.rel hfr hstep (fun ι' h' v v' w' g1 g2 g3 g4 => ?_)
        have hlen := List.length_erase_of_mem hrem
        have hpos : 0 < rem.length := List.length_pos_of_mem hrem
        refine ihm (rem.erase i).length (listed.setIfInBounds i true) (rem.erase i) R (putA t o.dst v) G ι' h' (a.put o.dst v') w' f' (by rw [hlen]; omega) rfl (by rw [hlen]; omega) ?_ (he.trans g1) (by rw [Act.put_ds]; exact hds) g4.2
        have dstNe : ∀ y, y ∈ R → ∀ oy, ops.toList[y.i]? = some oy → ∀ d, o.dst = some d → oy.dst ≠ some d := by
          intro y hy oy hoy d hd e
          have := tb.dst i y.i o oy d ho' hoy hd e
          exact iv.apart y hy (this ▸ hrem)
        refine ⟨by simp [iv.size], fun q hq => ?_, iv.nodup.erase i, fun q hq => iv.lt q (List.mem_of_mem_erase hq), fun y hy hm => iv.apart y hy (List.mem_of_mem_erase hm), iv.one, hdown, fun q hq hqr j hj hjr => ?_, g2, by simp [Act.put]; cases o.dst <;> simp [iv.sz], fun s hs hy hne => ?_, fun y hy => ?_⟩
        · rw [hset q (by omega)]
          by_cases e : i = q
          · subst e
            simp only [if_true]
            constructor
            · intro h; simp at h
            · rintro (h | ⟨y, hy, e⟩)
              · exact absurd h (List.Nodup.not_mem_erase iv.nodup)
              · exact absurd (e ▸ hrem) (iv.apart y hy)
          · rw [if_neg e, iv.un q hq, List.mem_erase_of_ne (fun h => e h.symm)]
        · by_cases e : q = i
          · subst e
            have hjl := hanc j hj
            have hjr' := List.mem_of_mem_erase hjr
            rw [(iv.un j (iv.lt j hjr')).2 (.inl hjr')] at hjl
            simp at hjl
          · have : q ∉ rem := fun hm => hqr ((List.mem_erase_of_ne e).2 hm)
            exact iv.gdown q hq this j hj (List.mem_of_mem_erase hjr)
        · rw [put_getD _ _ _ _ (by rw [iv.sz]; exact hs)]
          rw [putA_get] at hne ⊢
          split at hne
          · rename_i e
            rw [if_pos e, if_pos e]
            rcases g3 with g3 | g3
            · exact absurd g3 hne
            · exact g3
          · rename_i e
            rw [if_neg e, if_neg e]
            exact (iv.fr s hs hy hne).mono g1.1 g1.2
        · obtain ⟨oy, hoy, hfact, hstab, hdst, hrel, hyy⟩ := iv.late y hy
          have hyi : y.i ∉ an.getD i [] := fun hm => by
            have := hanc y.i hm
            rw [lateUn y hy] at this
            simp at this
          refine ⟨oy, hoy, ?_, hstab, fun d hd => ?_, fun s hs hm hall hne => ?_, hyy⟩
          · rcases hstab with h1 | h1
            · exact h1 h'
            · exact gOK_mem g4.1 h1 hyi
          · rw [putA_get, if_neg (fun e => dstNe y hy oy hoy d e hd)]
            exact hdst d hd
          · have hsd : o.dst ≠ some s := fun e => by
              rcases tb.ssa y.i i oy o s hoy ho' hm e with h1 | h1
              · exact iv.gdown y.i (by rw [hsz]; exact lateLt y hy) (iv.apart y hy) i h1 hrem
              · exact hyi h1
            rw [put_getD _ _ _ _ (by rw [iv.sz]; exact hs), if_neg hsd]
            refine (hrel s hs hm (fun j oj hj hoj hd => ?_) hne).mono g1.1 g1.2
            have := hall j oj hj hoj hd
            have hjl : j < ops.size := by have := (List.getElem?_eq_some_iff.1 hoj).1; omega
            rw [hset j hjl] at this
            by_cases e : i = j
            · subst e
              rw [ho'] at hoj
              obtain rfl : o = oj := by simpa using hoj
              exact absurd hd hsd
            · rwa [if_neg e] at this
      · -- a quiet operation that the walk has done before
        subst hxi
        obtain ⟨o2, ho2, hfact, hstab, hdst, hrel, hyy⟩ := iv.late x hxR
        rw [ho'] at ho2
        obtain rfl : o = o2 := by simpa using ho2
        have hfr : FRel w0.heap.size h.next ι n (scrub (looks ops.toList o) x.t) a.tmps := by
          refine ⟨iv.sz, fun s hs hne => ?_⟩
          by_cases hm : s ∈ looks ops.toList o
          · rcases scrub_get (looks ops.toList o) x.t s with e | e
            · exact absurd e hne
            · rw [e] at hne ⊢
              exact hrel s hs hm (fun j _ hj _ _ => hanc j hj) hne
          · exact absurd (scrub_not hm) hne
        refine step_sound (ro := ro) iv.rel hfr hfact (fun ι' h' v v' w' g1 g2 g3 g4 => ?_)
        obtain ⟨rfl, rfl⟩ := g4
        have hlen := late_filter R x hxR iv.one
        have hmf : ∀ y, y ∈ R.filter (fun y => decide (y.i ≠ x.i)) ↔ y ∈ R ∧ y.i ≠ x.i := fun y => by simp [List.mem_filter]
        refine ihm rem.length (listed.setIfInBounds x.i true) rem (R.filter fun y => decide (y.i ≠ x.i)) t G ι' h' (a.put o.dst v') w' f (by omega) rfl hf ?_ (he.trans g1) (by rw [Act.put_ds]; exact hds) hv
        refine ⟨by simp [iv.size], fun q hq => ?_, iv.nodup, iv.lt, fun y hy => iv.apart y ((hmf y).1 hy).1, iv.one.filter _, hdown, iv.gdown, g2, by simp [Act.put]; cases o.dst <;> simp [iv.sz], fun s hs hy hne => ?_, fun y hy => ?_⟩
        · rw [hset q (by omega)]
          by_cases e : x.i = q
          · subst e
            simp only [if_true]
            constructor
            · intro h; simp at h
            · rintro (h | ⟨y, hy, e⟩)
              · exact absurd h (iv.apart x hxR)
              · exact absurd e ((hmf y).1 hy).2
          · rw [if_neg e, iv.un q hq]
            constructor
            · rintro (h | ⟨y, hy, e2⟩)
              · exact .inl h
              · exact .inr ⟨y, (hmf y).2 ⟨hy, fun e3 => e (e3 ▸ e2)⟩, e2⟩
            · rintro (h | ⟨y, hy, e2⟩)
              · exact .inl h
              · exact .inr ⟨y, ((hmf y).1 hy).1, e2⟩
        · rw [put_getD _ _ _ _ (by rw [iv.sz]; exact hs)]
          by_cases e : o.dst = some s
          · rw [if_pos e]
            have ht := hdst s e
            rw [ht] at hne ⊢
            rcases g3 with g3 | g3
            · exact absurd g3 hne
            · exact g3
          · rw [if_neg e]
            refine (iv.fr s hs (fun y hyR oy hoy => ?_) hne).mono g1.1 g1.2
            by_cases hyx : y.i = x.i
            · rw [hyx, ho'] at hoy
              obtain rfl : o = oy := by simpa using hoy
              exact e
            · exact hy y ((hmf y).2 ⟨hyR, hyx⟩) oy hoy
        · obtain ⟨hyR, hyx⟩ := (hmf y).1 hy
          obtain ⟨oy, hoy, hfacty, hstaby, hdsty, hrely, hyyy⟩ := iv.late y hyR
          refine ⟨oy, hoy, hfacty, hstaby, hdsty, fun s hs hm hall hne => ?_, fun z hz => hyyy z ((hmf z).1 hz).1⟩
          rw [put_getD _ _ _ _ (by rw [iv.sz]; exact hs)]
          by_cases e : o.dst = some s
          · rw [if_pos e]
            have hin : x.i ∈ an.getD y.i [] := by
              rcases tb.ssa y.i x.i oy o s hoy ho' hm e with h1 | h1
              · exact h1
              · have := hanc y.i h1
                rw [lateUn y hyR] at this
                simp at this
            have ht := hyyy x hxR o s ho' e hin hm
            rw [ht] at hne ⊢
            rcases g3 with g3 | g3
            · exact absurd g3 hne
            · exact g3
          · rw [if_neg e]
            refine (hrely s hs hm (fun j oj hj hoj hd => ?_) hne).mono g1.1 g1.2
            have := hall j oj hj hoj hd
            have hjl : j < ops.size := by have := (List.getElem?_eq_some_iff.1 hoj).1; omega
            rw [hset j hjl] at this
            by_cases e2 : x.i = j
            · subst e2
              rw [ho'] at hoj
              obtain rfl : o = oj := by simpa using hoj
              exact absurd hd e
            · rwa [if_neg e2] at this
    intro k
    induction k with
    | zero =>
      intro listed rem R t G ι h a w f hm hk hf iv he hds hv
      obtain rfl : rem = [] := List.eq_nil_of_length_eq_zero (by omega)
      exact step listed [] R t G ι h a w f hm hf iv he hds hv (fun i hi => by simp at hi)
    | succ k ihk =>
      intro listed rem R t G ι h a w f hm hk hf iv he hds hv
      obtain ⟨f, rfl⟩ : ∃ q, f = q + 1 := ⟨f - 1, by omega⟩
      have hv0 := hv
      simp only [vcTree] at hv
      cases hfi : rem.find? (fun i => quietAt P ops.toList i && rdy ops.toList rem i) with
      | none =>
        rw [hfi] at hv
        refine step listed rem R t G ι h a w (f + 1) hm hf iv he hds hv0 (fun i hi hr => ?_)
        have hmem : i ∈ rem.filter fun i => rdy ops.toList rem i := List.mem_filter.2 ⟨hi, hr⟩
        simp only at hv
        split at hv
        · rename_i hnil
          rw [hnil] at hmem
          simp at hmem
        · rename_i x xs hxs
          rw [hxs] at hmem
          have := allP_mem hv hmem
          split at this
          · rename_i o ho
            exact ⟨o, f, ho, by omega, this⟩
          · exact this.elim
      | some i =>
        rw [hfi] at hv
        have hpred := List.find?_some hfi
        have hmem := List.mem_of_find?_eq_some hfi
        simp only [Bool.and_eq_true] at hpred
        simp only at hv
        have hil := iv.lt i hmem
        split at hv
        case h_2 => exact hv.elim
        rename_i o ho
        have hlen := List.length_erase_of_mem hmem
        have hrd := hpred.2
        unfold rdy at hrd
        rw [ho] at hrd
        simp only [List.all_eq_true, Bool.not_eq_true', List.contains_eq_mem, decide_eq_false_iff_not] at hrd
        have lateUn : ∀ y, y ∈ R → listed.getD y.i true = false := fun y hy => (iv.un y.i (by
          obtain ⟨o, ho, _⟩ := iv.late y hy
          exact (List.getElem?_eq_some_iff.1 ho).1)).2 (.inr ⟨y, hy, rfl⟩)
        have hgd : ∀ j, j ∈ an.getD i [] → j ∉ rem := fun j hj => by
          rcases tb.anc i o ho j hj with h1 | ⟨p, h1, h2⟩
          · exact hrd j h1
          · have := tb.lt i o ho p h1
            exact iv.gdown p (by omega) (hrd p h1) j h2
        -- what the walk has now done
        have go : ∀ (v : Value) (G' : List (Nat × (Hp → Prop))), (∀ g, g ∈ G → g ∈ G') → stepD P w0 n ops.toList o t (fun v' h' => v' = v ∧ h' = h) h →
            ((∀ h0, stepD P w0 n ops.toList o t (fun v' h' => v' = v ∧ h' = h0) h0) ∨ (i, fun h0 => stepD P w0 n ops.toList o t (fun v' h'' => v' = v ∧ h'' = h0) h0) ∈ G') →
            vcTree P w0 n ops.toList an f (rem.erase i) (putA t o.dst v) G' K h → wpAnyIn (Fw ro) 0 P .any ops Q (m + 1) listed a w := by
          intro v G' hG hfact hstab hvt
          refine ihk listed (rem.erase i) (⟨i, t, v⟩ :: R) (putA t o.dst v) G' ι h a w f (by simp only [List.length_cons, hlen]; omega) (by omega) (by omega) ?_ he hds hvt
          refine ⟨iv.size, fun q hq => ?_, iv.nodup.erase i, fun q hq => iv.lt q (List.mem_of_mem_erase hq), fun y hy => ?_, ?_, iv.down, fun q hq hqr j hj hjr => ?_, iv.rel, iv.sz, fun s hs hy hne => ?_, fun y hy => ?_⟩
          · rw [iv.un q hq]
            by_cases e : q = i
            · subst e
              constructor
              · intro _; exact .inr ⟨⟨q, t, v⟩, by simp, rfl⟩
              · intro _; exact .inl hmem
            · constructor
              · rintro (h1 | ⟨y, hy, e2⟩)
                · exact .inl ((List.mem_erase_of_ne e).2 h1)
                · exact .inr ⟨y, by simp [hy], e2⟩
              · rintro (h1 | ⟨y, hy, e2⟩)
                · exact .inl (List.mem_of_mem_erase h1)
                · rcases List.mem_cons.1 hy with rfl | hy
                  · exact absurd e2.symm e
                  · exact .inr ⟨y, hy, e2⟩
          · rcases List.mem_cons.1 hy with rfl | hy
            · exact List.Nodup.not_mem_erase iv.nodup
            · exact fun hm => iv.apart y hy (List.mem_of_mem_erase hm)
          · rw [List.pairwise_cons]
            exact ⟨fun y hy e => iv.apart y hy (e ▸ hmem), iv.one⟩
          · by_cases e : q = i
            · subst e
              exact hgd j hj (List.mem_of_mem_erase hjr)
            · have : q ∉ rem := fun hm => hqr ((List.mem_erase_of_ne e).2 hm)
              exact iv.gdown q hq this j hj (List.mem_of_mem_erase hjr)
          · have hod : o.dst ≠ some s := hy ⟨i, t, v⟩ (by simp) o ho
            rw [putA_get, if_neg hod] at hne ⊢
            exact iv.fr s hs (fun y hyR oy hoy => hy y (by simp [hyR]) oy hoy) hne
          · rcases List.mem_cons.1 hy with rfl | hyR
            · refine ⟨o, ho, hfact, hstab, fun d hd => by rw [putA_get, if_pos hd], fun s hs hm hall hne => ?_, fun z hz oz s hoz hd hin hm => ?_⟩
              · refine iv.fr s hs (fun z hzR oz hoz e => ?_) hne
                rcases tb.ssa i z.i o oz s ho hoz hm e with h1 | h1
                · have := hall z.i oz h1 hoz e
                  rw [lateUn z hzR] at this
                  simp at this
                · exact iv.gdown z.i ((List.getElem?_eq_some_iff.1 hoz).1) (iv.apart z hzR) i h1 hmem
              · rcases List.mem_cons.1 hz with rfl | hzR
                · exact absurd hmem (hgd i hin)
                · obtain ⟨oz2, hoz2, _, _, hdz, _⟩ := iv.late z hzR
                  rw [hoz] at hoz2
                  obtain rfl : oz = oz2 := by simpa using hoz2
                  exact hdz s hd
            · obtain ⟨oy, hoy, hfacty, hstaby, hdsty, hrely, hyyy⟩ := iv.late y hyR
              refine ⟨oy, hoy, hfacty, hstaby.imp id (hG _), fun d hd => ?_, hrely, fun z hz oz s hoz hd hin hm => ?_⟩
              · rw [putA_get, if_neg (fun e => ?_)]
                · exact hdsty d hd
                · have := tb.dst i y.i o oy d ho hoy e hd
                  exact iv.apart y hyR (this ▸ hmem)
              · rcases List.mem_cons.1 hz with rfl | hzR
                · exact absurd hmem (iv.gdown y.i ((List.getElem?_eq_some_iff.1 hoy).1) (iv.apart y hyR) i hin)
                · exact hyyy z hzR oz s hoz hd hin hm
        cases hpu : isPure P o <;> rw [hpu] at hv
        · obtain ⟨v, h1, h2⟩ := hv
          exact go v _ (fun g hg => List.mem_cons_of_mem _ hg) h1 (.inr (List.mem_cons_self ..)) h2
        · obtain ⟨v, h1, h2⟩ := hv
          exact go v G (fun g hg => hg) (h1 h) (.inl h1) h2

theorem draw_ok {n : Nat} (hm : P.follows .mixedOrders = true) : DrawOK P w0 n (vcDraw P w0 n) := by
  intro ro id ops K Q t a ι h w r f hv hq
  unfold vcDraw at hv
  split at hv
  case isFalse => exact hv.elim
  rename_i hc
  have tb := tbl_of_check hc
  refine wpIn_region_any hm ?_
  have hsz : ops.toList.length = ops.size := by simp
  refine sim (ro := ro) tb (ι0 := ι) (h0 := h) (ds := a.defers) hq ops.size ops.size _ (List.range ops.toList.length) [] t [] ι h a _ ops.toList.length (by simp) (by simp) (by simp) ?_ (Ext.refl _ _) rfl hv
  refine ⟨by simp, fun i hi => ?_, List.nodup_range, fun i hi => List.mem_range.1 hi, fun x hx => by simp at hx, List.Pairwise.nil, fun i hi hl => ?_, fun i hi hn => absurd (List.mem_range.2 hi) hn, r.drew _, f.1, fun s hs _ hne => f.2 s hs hne, fun x hx => by simp at hx⟩
  · simp only [List.mem_range, hi, true_or, iff_true]
    rw [Array.getD_eq_getD_getElem?]
    simp [show i < ops.size by omega]
  · rw [Array.getD_eq_getD_getElem?] at hl
    simp [show i < ops.size by omega] at hl
end
end Go.Proofs.Ytiakadkooclelaa.Ah
