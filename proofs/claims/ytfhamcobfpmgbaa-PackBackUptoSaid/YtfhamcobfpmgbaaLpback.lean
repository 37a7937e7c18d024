/- PackBack: the walk. -/
import Derived.Test.YtfhamcobfpmgbaaPw
import Derived.Test.YtfhamcobfpmgbaaLplays
set_option linter.unusedVariables false
set_option linter.unusedSimpArgs false
namespace Go.Proofs.Ytfhamcobfpmgbaa.Ah
open Go

/-- What was there is there. -/
def Far (w0 : World) (h : Hp) : Prop := w0.heap.size ≤ h.next ∧ ∃ h0, Fit w0 h0 ∧ ∀ b, b < w0.heap.size → h.blk b = h0.blk b
theorem Fit.far {w0 : World} {h : Hp} (f : Fit w0 h) : Far w0 h := ⟨f.base, h, f, fun _ _ => rfl⟩
theorem Far.step {w0 : World} {h h' : Hp} (f : Far w0 h) {T T' : List Nat} (s : Step h h' T T') (hT : ∀ b, b ∈ T → w0.heap.size ≤ b) : Far w0 h' := by
  obtain ⟨hb, h0, f0, e⟩ := f
  refine ⟨Nat.le_trans hb s.next, h0, f0, fun b hlt => ?_⟩
  rw [(s.keep b (by omega) (fun q => by have := hT b q; omega)).1]
  exact e b hlt
theorem Far.src {w0 : World} {h : Hp} (F : Far w0 h) {s n : Nat} {v : Value} {ys : List Value} (hx : ExtSl w0 s v n ys) : Src w0.heap.size h s v n ys := by
  obtain ⟨hb, h0, f, e⟩ := F
  have hs := hx.src h0 f
  obtain ⟨a, c, rfl, hn, hc⟩ := hx.sl
  refine ⟨hs.1, ?_⟩
  rcases hs.2 with g | ⟨h1, ad, rfl, hg, hcl⟩
  · exact .inl g
  · right
    refine ⟨h1, ad, rfl, ?_, hcl⟩
    have hlt := cl_block hx.cl (by omega)
    obtain ⟨hsp, cs, hbk, hle, hv⟩ := Hp.getN_some hg
    obtain ⟨b, o, sp⟩ := ad
    simp only at hsp hbk hle hv hlt
    subst hsp
    rw [getN_eq, e _ hlt, hbk, Option.bind_some, if_pos hle, hv]
theorem Far.sl {w0 : World} {h : Hp} (F : Far w0 h) {s n : Nat} {v : Value} {ys : List Value} (hx : ExtSl w0 s v n ys) (hl : ys.length = n * s) : Sl w0 h s v n ys := by
  obtain ⟨a, c, rfl, h1, h2⟩ := hx.sl
  exact ⟨a, c, rfl, F.src hx, hl, .inl ⟨h2, h1⟩⟩
/-- A cell of an element of what was there. -/
theorem far_load {w0 : World} {h : Hp} (F : Far w0 h) {s n i o : Nat} {v v' : Value} {ys : List Value} {kt : IntKind} {K : Kont} (hx : ExtSl w0 s v n ys) (hi : i < n) (ho : o < s) (hyl : ys.length = n * s) (hv' : ys[i * s + o]? = some v') (hK : K v' h) :
    idxSlA s v (.int kt (i : Int)) (fun p => addA p o fun q => loadA w0 q K) h := by
  obtain ⟨a, c, rfl, hn, hc⟩ := hx.sl
  have hsrc := F.src hx
  rcases hsrc.2 with h0 | ⟨h0, ad, rfl, hg, hcl⟩
  · omega
  obtain ⟨hsp, cs, hbk, hle, hv⟩ := Hp.getN_some hg
  obtain ⟨b, o0, sp⟩ := ad
  simp only at hsp hbk hle hv
  subst hsp
  have his : (i + 1) * s ≤ n * s := Nat.mul_le_mul_right _ hi
  rw [Nat.add_mul, Nat.one_mul] at his
  rw [idxSlA_iff]
  refine ⟨by omega, by omega, ?_⟩
  rw [addr_add, Int.toNat_natCast]
  simp only [faddA_ptr, addr_add]
  rw [loadA_own]
  refine ⟨v', ?_, fun hlt => (hcl hlt v' (List.mem_of_getElem? hv')).1, hK⟩
  rw [hbk, Option.bind_some]
  rw [hv, List.getElem?_take, if_pos (by omega), List.getElem?_drop] at hv'
  rw [show o0 + i * s + o = o0 + (i * s + o) by omega]
  exact hv'
/-- The chunks, as they were told. -/
def Told (w0 : World) (vs : List Value) (cs : List (List UInt8)) : Prop := vs.length = cs.length ∧ ∀ (i : Nat) (c : List UInt8), cs[i]? = some c → ∃ v, vs[i]? = some v ∧ ExtSl w0 1 v c.length (bvs c)
theorem Told.snoc {w0 : World} {vs : List Value} {cs : List (List UInt8)} (t : Told w0 vs cs) {v : Value} {c : List UInt8} (hv : ExtSl w0 1 v c.length (bvs c)) : Told w0 (vs ++ [v]) (cs ++ [c]) := by
  refine ⟨by simp [t.1], fun i d hd => ?_⟩
  by_cases hi : i < cs.length
  · rw [List.getElem?_append_left hi] at hd
    obtain ⟨u, hu, e⟩ := t.2 i d hd
    exact ⟨u, by rw [List.getElem?_append_left (by rw [t.1]; exact hi)]; exact hu, e⟩
  · have hi2 := (List.getElem?_eq_some_iff.1 hd).1
    simp at hi2
    have : i = cs.length := by omega
    subst this
    simp at hd
    subst hd
    exact ⟨v, by rw [← t.1]; simp, hv⟩
section
variable {w0 : World} {h h' : Hp} {p : Nat} {x0 xw xc : Value} {st : PS} {Sp SI SW SC : List Nat} {vs : List Value}
/-- What is held while it is filled. -/
structure BK (w0 : World) (h : Hp) (p : Nat) (x0 xw xc : Value) (st : PS) (vs : List Value) (Sp SI SW SC : List Nat) : Prop where
  pk : Pk w0 h p st Sp
  gi : GV w0 h 1 x0 st.bytes (bvs st.cur) SI
  gw : GV w0 h 2 xw (slotsFrom 16 st.chunks).length (slotC (slotsFrom 16 st.chunks)) SW
  gc : GV w0 h 1 xc vs.length vs SC
  told : Told w0 vs st.chunks
  fl : fills st.cur st.image
  dp : ∀ b, b ∈ SI ++ (SW ++ SC) → b ∉ Sp
  di : ∀ b, b ∈ SW ++ SC → b ∉ SI
  dw : ∀ b, b ∈ SC → b ∉ SW
/-- A chunk goes behind the others that were told. -/
theorem app_told {v : Value} {S : List Nat} {K : Kont} (hf : w0.heap.size ≤ h.next) (g : GV w0 h 1 xc vs.length vs S) (hl : vs.length ≤ 1000000000) (hv : isCell v = true)
    (hk : ∀ x' h' S', GV w0 h' 1 x' (vs ++ [v]).length (vs ++ [v]) S' → Step h h' S S' → K x' h') :
    bslA [(0, 1, false, v)] (zerosL [(.slice none 0 0)] 1) 1 1 (fun v5 => appA w0 1 24 xc v5 K) h := by
  have hz : zerosL [(.slice none 0 0 : Value)] 1 = [.slice none 0 0] := rfl
  simp only [hz, bslA_iff, fillA_one, fillA_nil, hv, true_and, List.set_cons_zero, List.length_cons, List.length_nil]
  refine ⟨by omega, ?_⟩
  have s9 : Step h (h.new [v] 1) [] [h.next] := (Step.refl h [] (by simp)).new _ _
  refine appA_gv (m := 1) (by simp; omega) (g.frame s9 (by simp)) (by simp) (src_new hf (by simp)) (by simp) (by omega) (by omega) (by omega) fun x' h' S' v' s' => ?_
  refine hk x' h' S' (by rw [List.length_append]; exact v') ?_
  exact (s9.idle S fun b hb => (g.lt b hb).2).trans s'
theorem new_apart {T T' U : List Nat} (s : Step h h' T T') (hd : ∀ b, b ∈ T → b ∉ U) (hU : ∀ b, b ∈ U → b < h.next) : ∀ b, b ∈ T' → b ∉ U := fun b hb he => by
  rcases (s.own b hb).2 with g | g
  · exact hd b g he
  · have := hU b he; omega
theorem BK.lt (b : BK w0 h p x0 xw xc st vs Sp SI SW SC) : ∀ c, c ∈ SI ++ (SW ++ SC) → c < h.next := fun c hc => by
  rcases List.mem_append.1 hc with e | e
  · exact (b.gi.lt c e).2
  · rcases List.mem_append.1 e with e | e
    · exact (b.gw.lt c e).2
    · exact (b.gc.lt c e).2
theorem BK.frame (b : BK w0 h p x0 xw xc st vs Sp SI SW SC) {T T' : List Nat} (s : Step h h' T T') (h1 : ∀ c, c ∈ Sp → c ∉ T) (h2 : ∀ c, c ∈ SI ++ (SW ++ SC) → c ∉ T) : BK w0 h' p x0 xw xc st vs Sp SI SW SC :=
  ⟨b.pk.frame s h1, b.gi.frame s fun c hc => h2 c (by simp [hc]), b.gw.frame s fun c hc => h2 c (by simp [hc]), b.gc.frame s fun c hc => h2 c (by simp [hc]), b.told, b.fl, b.dp, b.di, b.dw⟩
/-- Taken, and laid. -/
theorem back_take {K : Value → Hp → Prop} (b : BK w0 h p x0 xw xc st vs Sp SI SW SC) (o : st.Ok) (hK : ∀ h' Sp', Fit w0 h' → BK w0 h' p x0 xw xc st.take vs Sp' SI SW SC → K (.bool true) h') :
    callA prog w0 n_pack_Pack_Take [ptr p] (fun v => callA prog w0 n_deduplaw13_laid [x0, .int .i64 (st.size : Int), v] K) h := by
  have hby := o.bytes
  have hsz := o.size
  have hct := o.count
  have hi := o.image
  refine callA_of (pTake_spec b.pk o) fun v2 h2 ⟨SO, Sp', w2, q2, hSO, hdS, s2⟩ f2 => ?_
  have hlt := b.lt
  have g2 := b.gi.frame s2 (fun c hc => b.dp c (by simp [hc]))
  obtain ⟨l1, l2⟩ := secs_len st o st.count 0 (by omega)
  have dSO : ∀ c, c ∈ SO → c ∉ SI ++ (SW ++ SC) := fun c hc he => by have := hSO c hc; have := hlt c he; omega
  refine callA_of (laid_spec (M := st.image) (size := st.size) (N := st.bytes) hi (by omega) (by omega) (by omega) (by omega) (fun q hq => by
    obtain ⟨a1, a2, a3⟩ := secs_mem st _ _ _ hq
    exact ⟨a3, l2 q hq, (sec_range o (show q.1 < st.count by omega)).1⟩) g2 q2 (fun c hc he => dSO c hc (by simp [he])) b.fl) fun v3 h3 ⟨e, L2, g3, fl3, ag, s3⟩ f3 => ?_
  subst e
  have hL : L2 = st.image := laid_all o fl3.1 (fun j hj => ag j (.inl hj)) (fun n r hn j h1 h2 => ag j (.inr ⟨(n, r), hn, h1, h2⟩))
  subst hL
  have hd2 : ∀ c, c ∈ SI ++ (SW ++ SC) → c ∉ SO ++ Sp' := apart_step s2 (fun c hc => b.dp c hc) hlt
  have hd3 : ∀ c, c ∈ Sp' → c ∉ SI := fun c hc he => hd2 c (by simp [he]) (by simp [hc])
  refine hK h3 Sp' f3 ⟨w2.frame s3 hd3, g3, (b.gw.frame s2 fun c hc => b.dp c (by simp [hc])).frame s3 fun c hc => b.di c (by simp [hc]), (b.gc.frame s2 fun c hc => b.dp c (by simp [hc])).frame s3 fun c hc => b.di c (by simp [hc]), b.told, ?_, fun c hc he => hd2 c hc (by simp [he]), b.di, b.dw⟩
  exact fills_refl _
theorem pback_loop {k0 kr : Value → Value → Value → Value → Value → Value → Value → Value → Value → Hp → Prop} {v a0 a1 a2 x8 : Value} {os : List POp} (hx : ExtSl w0 5 v os.length (os.flatMap POp.e)) (hok : ∀ o, o ∈ os → (dPOp w0).ok o ∧ o.bs.length ≤ 1000000000) (hos : os.length ≤ 1000000000) : ∀ (post pre : List POp) (h : Hp) (xw xc : Value) (st : PS) (vs : List Value) (Sp SI SW SC : List Nat), pre ++ post = os → Far w0 h → BK w0 h p x0 xw xc st vs Sp SI SW SC → st.Ok → a0 = .int .i64 (st.size : Int) →
    (∀ h' xw' xc' st' vs' Sp' SW' SC', Far w0 h' → BK w0 h' p x0 xw' xc' st' vs' Sp' SI SW' SC' → st'.Ok → st'.size = st.size → st'.count = st.count → st'.id = st.id → k0 a0 a1 a2 x8 (ptr p) x0 xw' xc' (.bool st'.shut) h') →
    deduplaw13_PackBack_L1 prog w0 k0 kr (post.length + 1) a0 a1 a2 v x8 (ptr p) x0 xw xc (.bool st.shut) (.int .i64 (pre.length : Int)) h := by
  obtain ⟨a, c, hv, hn, hc⟩ := hx.sl
  intro post
  induction post with
  | nil =>
    intro pre h xw xc st vs Sp SI SW SC he f w o ha hk
    have hpre : pre = os := by simpa using he
    rw [deduplaw13_PackBack_L1, hv]
    simp only [deduplaw13_PackBack_B1, lenSl_slice, lenStr_string, str_size, fpureA_some, fnilA_ptr, faddA_ptr, addr_add, Nat.zero_add, Nat.add_zero, fpureQ_k, fpureQ_nilA, fpureQ_addA, fpureQ_pureA, fpureQ_guardA, fpureQ_idxSlA, fpureQ_pickA, freadQ_loadA, freadQ_loadNA, freadQ_b2sA, freadQ_guardA, freadQ_slSlA, freadQ_k, fendA, fallA_one, fstillA_nil, fguardA_tt, fguardA_ff, fguardA_tf, fguardA_ft, fguardA_undef, fpickA_true, fpickA_false, fcondA_true, fcondA_false, binA_add, binA_sub, binA_mul, binA_eql, binA_neq, binA_lss, binA_leq, binA_gtr, binA_geq, unA_not, Bool.not_true, Bool.not_false, convA_int, extA_tuple, List.getElem?_toArray, List.getElem?_cons_zero, List.getElem?_cons_succ, hpre, Int.lt_irrefl, decide_false]
    exact hk h xw xc st vs Sp SW SC f w o rfl rfl rfl
  | cons o1 post ih =>
    intro pre h xw xc st vs Sp SI SW SC he f w o ha hk
    have hlen : pre.length + (post.length + 1) = os.length := by rw [← he]; simp
    have ho : o1 ∈ os := by rw [← he]; simp
    obtain ⟨hop, hbl⟩ := hok o1 ho
    have hby := o.bytes
    have hr := o.room
    have hcl := chunks_le (cs := st.chunks)
    have hvl := w.told.1
    have c1 : decide ((pre.length : Int) < (os.length : Int)) = true := decide_eq_true (by omega)
    have e5 : IntKind.i64.wrap ((pre.length : Int) + 1) = ((pre.length + 1 : Nat) : Int) := by rw [IntWalk.i64_in _ (by omega)]; simp
    have hyl := flat_len (e := POp.e) (s := 5) (fun _ => rfl) os
    rw [List.length_cons, deduplaw13_PackBack_L1]
    rw [hv] at hx ih ⊢
    have on : ∀ h' xw' xc' st' vs' Sp' SW' SC', Far w0 h' → BK w0 h' p x0 xw' xc' st' vs' Sp' SI SW' SC' → st'.Ok → st'.size = st.size → st'.count = st.count → st'.id = st.id →
        deduplaw13_PackBack_L1 prog w0 k0 kr (post.length + 1) a0 a1 a2 (.slice a os.length c) x8 (ptr p) x0 xw' xc' (.bool st'.shut) (.int .i64 ((pre.length + 1 : Nat) : Int)) h' := by
      intro h' xw' xc' st' vs' Sp' SW' SC' f' w' o' e1 e2 e3
      have := ih (pre ++ [o1]) h' xw' xc' st' vs' Sp' SI SW' SC' (by simpa using he) f' w' o' (by rw [ha, e1]) (fun h'' xw'' xc'' st'' vs'' Sp'' SW'' SC'' f'' w'' o'' e1' e2' e3' => hk h'' xw'' xc'' st'' vs'' Sp'' SW'' SC'' f'' w'' o'' (e1'.trans e1) (e2'.trans e2) (e3'.trans e3))
      simpa using this
    simp only [deduplaw13_PackBack_B1, lenSl_slice, lenStr_string, str_size, fpureA_some, fnilA_ptr, faddA_ptr, addr_add, Nat.zero_add, Nat.add_zero, fpureQ_k, fpureQ_nilA, fpureQ_addA, fpureQ_pureA, fpureQ_guardA, fpureQ_idxSlA, fpureQ_pickA, freadQ_loadA, freadQ_loadNA, freadQ_b2sA, freadQ_guardA, freadQ_slSlA, freadQ_k, fendA, fallA_one, fstillA_nil, fguardA_tt, fguardA_ff, fguardA_tf, fguardA_ft, fguardA_undef, fpickA_true, fpickA_false, fcondA_true, fcondA_false, binA_add, binA_sub, binA_mul, binA_eql, binA_neq, binA_lss, binA_leq, binA_gtr, binA_geq, unA_not, Bool.not_true, Bool.not_false, convA_int, extA_tuple, List.getElem?_toArray, List.getElem?_cons_zero, List.getElem?_cons_succ, c1]
    refine far_load f hx (by omega) (by omega) hyl (v' := .int .i64 o1.k) (by rw [pop_get he 0 (by omega)]; rfl) ?_
    simp only [lenSl_slice, lenStr_string, str_size, fpureA_some, fnilA_ptr, faddA_ptr, addr_add, Nat.zero_add, Nat.add_zero, fpureQ_k, fpureQ_nilA, fpureQ_addA, fpureQ_pureA, fpureQ_guardA, fpureQ_idxSlA, fpureQ_pickA, freadQ_loadA, freadQ_loadNA, freadQ_b2sA, freadQ_guardA, freadQ_slSlA, freadQ_k, fendA, fallA_one, fstillA_nil, fguardA_tt, fguardA_ff, fguardA_tf, fguardA_ft, fguardA_undef, fpickA_true, fpickA_false, fcondA_true, fcondA_false, binA_add, binA_sub, binA_mul, binA_eql, binA_neq, binA_lss, binA_leq, binA_gtr, binA_geq, unA_not, Bool.not_true, Bool.not_false, convA_int, extA_tuple, List.getElem?_toArray, List.getElem?_cons_zero, List.getElem?_cons_succ, e5]
    by_cases k1 : o1.k = 1
    · have c2 : (o1.k == 1) = true := by simp [k1]
      simp only [c2, lenSl_slice, lenStr_string, str_size, fpureA_some, fnilA_ptr, faddA_ptr, addr_add, Nat.zero_add, Nat.add_zero, fpureQ_k, fpureQ_nilA, fpureQ_addA, fpureQ_pureA, fpureQ_guardA, fpureQ_idxSlA, fpureQ_pickA, freadQ_loadA, freadQ_loadNA, freadQ_b2sA, freadQ_guardA, freadQ_slSlA, freadQ_k, fendA, fallA_one, fstillA_nil, fguardA_tt, fguardA_ff, fguardA_tf, fguardA_ft, fguardA_undef, fpickA_true, fpickA_false, fcondA_true, fcondA_false, binA_add, binA_sub, binA_mul, binA_eql, binA_neq, binA_lss, binA_leq, binA_gtr, binA_geq, unA_not, Bool.not_true, Bool.not_false, convA_int, extA_tuple, List.getElem?_toArray, List.getElem?_cons_zero, List.getElem?_cons_succ]
      refine far_load f hx (by omega) (by omega) hyl (v' := o1.v) (by rw [pop_get he 2 (by omega)]; rfl) ?_
      refine callA_of (pAppend_spec w.pk o (f.sl hop.2.2.1 (by simp) : Bs w0 h o1.v o1.bs) hbl) fun v6 h6 ⟨S6, e, w6, s6⟩ f6 => ?_
      subst e
      have hd6 := apart_step s6 w.dp w.lt
      have gi6 := w.gi.frame s6 fun c hc => w.dp c (by simp [hc])
      have gw6 := w.gw.frame s6 fun c hc => w.dp c (by simp [hc])
      have gc6 := w.gc.frame s6 fun c hc => w.dp c (by simp [hc])
      have hfl := fills_trans w.fl (fills_append o o1.bs)
      have oo := o.append o1.bs
      have hcur : (st.append o1.bs).2.cur = st.cur := by unfold PS.append; split; rfl; split; rfl; split <;> rfl
      have hbt : (st.append o1.bs).2.bytes = st.bytes := by unfold PS.append; split; rfl; split; rfl; split <;> rfl
      have hs1 : (st.append o1.bs).2.size = st.size := by unfold PS.append; split; rfl; split; rfl; split <;> rfl
      have hs2 : (st.append o1.bs).2.count = st.count := by unfold PS.append; split; rfl; split; rfl; split <;> rfl
      have hs3 : (st.append o1.bs).2.id = st.id := by unfold PS.append; split; rfl; split; rfl; split <;> rfl
      have hs4 : (st.append o1.bs).2.shut = st.shut := by unfold PS.append; split; rfl; split; rfl; split <;> rfl
      have hcase : ((st.append o1.bs).1.2.2 = 0 ∧ (st.append o1.bs).2.chunks = st.chunks ++ [o1.bs] ∧ (st.append o1.bs).1.1 = endOf st.chunks + 8 ∧ (st.append o1.bs).1.2.1 = o1.bs.length) ∨ ((st.append o1.bs).1.2.2 ≠ 0 ∧ (st.append o1.bs).2.chunks = st.chunks) := by
        unfold PS.append
        split
        · right; exact ⟨by simp, rfl⟩
        split
        · right; exact ⟨by simp, rfl⟩
        split
        · right; exact ⟨by simp, rfl⟩
        · left; exact ⟨rfl, rfl, rfl, rfl⟩
      generalize st.append o1.bs = res at *
      simp only [appV, slt, lenSl_slice, lenStr_string, str_size, fpureA_some, fnilA_ptr, faddA_ptr, addr_add, Nat.zero_add, Nat.add_zero, fpureQ_k, fpureQ_nilA, fpureQ_addA, fpureQ_pureA, fpureQ_guardA, fpureQ_idxSlA, fpureQ_pickA, freadQ_loadA, freadQ_loadNA, freadQ_b2sA, freadQ_guardA, freadQ_slSlA, freadQ_k, fendA, fallA_one, fstillA_nil, fguardA_tt, fguardA_ff, fguardA_tf, fguardA_ft, fguardA_undef, fpickA_true, fpickA_false, fcondA_true, fcondA_false, binA_add, binA_sub, binA_mul, binA_eql, binA_neq, binA_lss, binA_leq, binA_gtr, binA_geq, unA_not, Bool.not_true, Bool.not_false, convA_int, extA_tuple, List.getElem?_toArray, List.getElem?_cons_zero, List.getElem?_cons_succ, newA_iff]
      refine ⟨by simp, store2 (cs := [.int .i64 0, .int .i64 0]) f6.base (by simp) rfl ?_⟩
      rw [put_new]
      have s7 : Step h6 (h6.new [.int .i64 ((res.1.1 : Nat) : Int), .int .i64 ((res.1.2.1 : Nat) : Int)] 2) [] [h6.next] := (Step.refl h6 [] (by simp)).new _ _
      have hr7 : (h6.new [.int .i64 ((res.1.1 : Nat) : Int), .int .i64 ((res.1.2.1 : Nat) : Int)] 2).blk h6.next = some [.int .i64 ((res.1.1 : Nat) : Int), .int .i64 ((res.1.2.1 : Nat) : Int)] := by simp
      have f7 : Fit w0 (h6.new [.int .i64 ((res.1.1 : Nat) : Int), .int .i64 ((res.1.2.1 : Nat) : Int)] 2) := f6.new (by simp)
      generalize h6.new [.int .i64 ((res.1.1 : Nat) : Int), .int .i64 ((res.1.2.1 : Nat) : Int)] 2 = h7 at s7 hr7 f7 ⊢
      have w7 := w6.frame s7 (by simp)
      have gi7 := gi6.frame s7 (by simp)
      have gw7 := gw6.frame s7 (by simp)
      have gc7 := gc6.frame s7 (by simp)
      rcases hcase with ⟨r1, r2, r3, r4⟩ | ⟨r1, r2⟩
      · have c3 : (res.1.2.2 == 0) = true := by simp [r1]
        simp only [c3, lenSl_slice, lenStr_string, str_size, fpureA_some, fnilA_ptr, faddA_ptr, addr_add, Nat.zero_add, Nat.add_zero, fpureQ_k, fpureQ_nilA, fpureQ_addA, fpureQ_pureA, fpureQ_guardA, fpureQ_idxSlA, fpureQ_pickA, freadQ_loadA, freadQ_loadNA, freadQ_b2sA, freadQ_guardA, freadQ_slSlA, freadQ_k, fendA, fallA_one, fstillA_nil, fguardA_tt, fguardA_ff, fguardA_tf, fguardA_ft, fguardA_undef, fpickA_true, fpickA_false, fcondA_true, fcondA_false, binA_add, binA_sub, binA_mul, binA_eql, binA_neq, binA_lss, binA_leq, binA_gtr, binA_geq, unA_not, Bool.not_true, Bool.not_false, convA_int, extA_tuple, List.getElem?_toArray, List.getElem?_cons_zero, List.getElem?_cons_succ]
        refine loadNA_whole f6.base hr7 rfl ?_
        refine app_slot f7.base gw7 (by simp; omega) fun x8' h8 SW' gw8 s8 => ?_
        have f8 : Far w0 h8 := f7.far.step s8 fun c hc => (gw7.lt c hc).1
        refine far_load f8 hx (by omega) (by omega) hyl (v' := o1.v) (by rw [pop_get he 2 (by omega)]; rfl) ?_
        have dpw : ∀ c, c ∈ S6 → c ∉ SW := fun c hc he => hd6 c (by simp [he]) hc
        have l7 : ∀ c, c ∈ SI ++ (SW ++ SC) → c < h7.next := fun c hc => by have := w.lt c hc; have := s6.next; have := s7.next; omega
        have l7p : ∀ c, c ∈ S6 → c < h7.next := fun c hc => (w7.lts c hc).2
        have w8 := w7.frame s8 dpw
        have gi8 := gi7.frame s8 fun c hc he => w.di c (by simp [he]) hc
        have gc8 := gc7.frame s8 w.dw
        obtain ⟨av, cv, hvv, -⟩ := hop.2.2.1.sl
        refine app_told f8.1 gc8 (by omega) (by rw [hvv]; rfl) fun x9 h9 SC' gc9 s9 => ?_
        have f9 : Far w0 h9 := f8.step s9 fun c hc => (gc8.lt c hc).1
        have hcc : res.2.chunks = st.chunks ++ [o1.bs] := r2
        rw [← hs4]
        have d8p := new_apart s8 (fun c hc he => dpw c he hc) l7p
        have d8i := new_apart s8 (fun c hc he => w.di c (by simp [hc]) he) (fun c hc => l7 c (by simp [hc]))
        have d8c := apart_step s8 w.dw (fun c hc => l7 c (by simp [hc]))
        have l8 : ∀ {c}, c < h7.next → c < h8.next := fun hc => Nat.lt_of_lt_of_le hc s8.next
        have d9p := new_apart s9 (fun c hc he => hd6 c (by simp [hc]) he) (fun c hc => l8 (l7p c hc))
        have d9i := new_apart s9 (fun c hc he => w.di c (by simp [hc]) he) (fun c hc => l8 (l7 c (by simp [hc])))
        have d9w := new_apart s9 d8c (fun c hc => (gw8.lt c hc).2)
        refine on h9 _ _ res.2 (vs ++ [o1.v]) S6 SW' SC' f9 ⟨w8.frame s9 fun c hc he => hd6 c (by simp [he]) hc, ?_, ?_, gc9, ?_, by rw [hcur]; exact hfl, ?_, ?_, d9w⟩ oo hs1 hs2 hs3
        · rw [hbt, hcur]
          exact gi8.frame s9 fun c hc he => w.di c (by simp [he]) hc
        · rw [hcc, slotsFrom_snoc, ← r3, ← r4]
          exact gw8.frame s9 fun c hc he => d8c c he hc
        · rw [hcc]
          exact w.told.snoc hop.2.2.1
        · intro c hc
          rcases List.mem_append.1 hc with e | e
          · exact hd6 c (by simp [e])
          · rcases List.mem_append.1 e with e | e
            · exact d8p c e
            · exact d9p c e
        · intro c hc
          rcases List.mem_append.1 hc with e | e
          · exact d8i c e
          · exact d9i c e
      · have c3 : (res.1.2.2 == 0) = false := by simp [r1]
        simp only [c3, lenSl_slice, lenStr_string, str_size, fpureA_some, fnilA_ptr, faddA_ptr, addr_add, Nat.zero_add, Nat.add_zero, fpureQ_k, fpureQ_nilA, fpureQ_addA, fpureQ_pureA, fpureQ_guardA, fpureQ_idxSlA, fpureQ_pickA, freadQ_loadA, freadQ_loadNA, freadQ_b2sA, freadQ_guardA, freadQ_slSlA, freadQ_k, fendA, fallA_one, fstillA_nil, fguardA_tt, fguardA_ff, fguardA_tf, fguardA_ft, fguardA_undef, fpickA_true, fpickA_false, fcondA_true, fcondA_false, binA_add, binA_sub, binA_mul, binA_eql, binA_neq, binA_lss, binA_leq, binA_gtr, binA_geq, unA_not, Bool.not_true, Bool.not_false, convA_int, extA_tuple, List.getElem?_toArray, List.getElem?_cons_zero, List.getElem?_cons_succ]
        rw [← hs4]
        exact on h7 _ _ res.2 vs S6 SW SC f7.far ⟨w7, by rw [hbt, hcur]; exact gi7, by rw [r2]; exact gw7, gc7, by rw [r2]; exact w.told, by rw [hcur]; exact hfl, hd6, w.di, w.dw⟩ oo hs1 hs2 hs3
    have c2 : (o1.k == 1) = false := by simp [k1]
    simp only [c2, lenSl_slice, lenStr_string, str_size, fpureA_some, fnilA_ptr, faddA_ptr, addr_add, Nat.zero_add, Nat.add_zero, fpureQ_k, fpureQ_nilA, fpureQ_addA, fpureQ_pureA, fpureQ_guardA, fpureQ_idxSlA, fpureQ_pickA, freadQ_loadA, freadQ_loadNA, freadQ_b2sA, freadQ_guardA, freadQ_slSlA, freadQ_k, fendA, fallA_one, fstillA_nil, fguardA_tt, fguardA_ff, fguardA_tf, fguardA_ft, fguardA_undef, fpickA_true, fpickA_false, fcondA_true, fcondA_false, binA_add, binA_sub, binA_mul, binA_eql, binA_neq, binA_lss, binA_leq, binA_gtr, binA_geq, unA_not, Bool.not_true, Bool.not_false, convA_int, extA_tuple, List.getElem?_toArray, List.getElem?_cons_zero, List.getElem?_cons_succ]
    by_cases k3 : o1.k = 3
    · have c3 : (o1.k == 3) = true := by simp [k3]
      simp only [c3, lenSl_slice, lenStr_string, str_size, fpureA_some, fnilA_ptr, faddA_ptr, addr_add, Nat.zero_add, Nat.add_zero, fpureQ_k, fpureQ_nilA, fpureQ_addA, fpureQ_pureA, fpureQ_guardA, fpureQ_idxSlA, fpureQ_pickA, freadQ_loadA, freadQ_loadNA, freadQ_b2sA, freadQ_guardA, freadQ_slSlA, freadQ_k, fendA, fallA_one, fstillA_nil, fguardA_tt, fguardA_ff, fguardA_tf, fguardA_ft, fguardA_undef, fpickA_true, fpickA_false, fcondA_true, fcondA_false, binA_add, binA_sub, binA_mul, binA_eql, binA_neq, binA_lss, binA_leq, binA_gtr, binA_geq, unA_not, Bool.not_true, Bool.not_false, convA_int, extA_tuple, List.getElem?_toArray, List.getElem?_cons_zero, List.getElem?_cons_succ]
      subst ha
      refine back_take w o fun h2 Sp' f2 w2 => ?_
      simp only [lenSl_slice, lenStr_string, str_size, fpureA_some, fnilA_ptr, faddA_ptr, addr_add, Nat.zero_add, Nat.add_zero, fpureQ_k, fpureQ_nilA, fpureQ_addA, fpureQ_pureA, fpureQ_guardA, fpureQ_idxSlA, fpureQ_pickA, freadQ_loadA, freadQ_loadNA, freadQ_b2sA, freadQ_guardA, freadQ_slSlA, freadQ_k, fendA, fallA_one, fstillA_nil, fguardA_tt, fguardA_ff, fguardA_tf, fguardA_ft, fguardA_undef, fpickA_true, fpickA_false, fcondA_true, fcondA_false, binA_add, binA_sub, binA_mul, binA_eql, binA_neq, binA_lss, binA_leq, binA_gtr, binA_geq, unA_not, Bool.not_true, Bool.not_false, convA_int, extA_tuple, List.getElem?_toArray, List.getElem?_cons_zero, List.getElem?_cons_succ]
      exact on h2 xw xc st.take vs Sp' SW SC f2.far w2 o.take rfl rfl rfl
    have c3 : (o1.k == 3) = false := by simp [k3]
    simp only [c3, lenSl_slice, lenStr_string, str_size, fpureA_some, fnilA_ptr, faddA_ptr, addr_add, Nat.zero_add, Nat.add_zero, fpureQ_k, fpureQ_nilA, fpureQ_addA, fpureQ_pureA, fpureQ_guardA, fpureQ_idxSlA, fpureQ_pickA, freadQ_loadA, freadQ_loadNA, freadQ_b2sA, freadQ_guardA, freadQ_slSlA, freadQ_k, fendA, fallA_one, fstillA_nil, fguardA_tt, fguardA_ff, fguardA_tf, fguardA_ft, fguardA_undef, fpickA_true, fpickA_false, fcondA_true, fcondA_false, binA_add, binA_sub, binA_mul, binA_eql, binA_neq, binA_lss, binA_leq, binA_gtr, binA_geq, unA_not, Bool.not_true, Bool.not_false, convA_int, extA_tuple, List.getElem?_toArray, List.getElem?_cons_zero, List.getElem?_cons_succ]
    by_cases k7 : o1.k = 7
    · have c4 : (o1.k == 7) = true := by simp [k7]
      simp only [c4, lenSl_slice, lenStr_string, str_size, fpureA_some, fnilA_ptr, faddA_ptr, addr_add, Nat.zero_add, Nat.add_zero, fpureQ_k, fpureQ_nilA, fpureQ_addA, fpureQ_pureA, fpureQ_guardA, fpureQ_idxSlA, fpureQ_pickA, freadQ_loadA, freadQ_loadNA, freadQ_b2sA, freadQ_guardA, freadQ_slSlA, freadQ_k, fendA, fallA_one, fstillA_nil, fguardA_tt, fguardA_ff, fguardA_tf, fguardA_ft, fguardA_undef, fpickA_true, fpickA_false, fcondA_true, fcondA_false, binA_add, binA_sub, binA_mul, binA_eql, binA_neq, binA_lss, binA_leq, binA_gtr, binA_geq, unA_not, Bool.not_true, Bool.not_false, convA_int, extA_tuple, List.getElem?_toArray, List.getElem?_cons_zero, List.getElem?_cons_succ]
      refine callA_of (pSeal_spec w.pk o) fun v2 h2 ⟨e, w2, s2⟩ f2 => ?_
      have hd2 := w.dp
      have hfl := fills_trans w.fl (fills_seal o)
      have hcur : st.seal.2.cur = st.cur := by unfold PS.seal; split <;> rfl
      have hbt : st.seal.2.bytes = st.bytes := by unfold PS.seal; split <;> rfl
      have hch : st.seal.2.chunks = st.chunks := by unfold PS.seal; split <;> rfl
      have hsh : st.seal.2.shut = true := by unfold PS.seal; split <;> simp_all
      have oo := o.seal
      have e1 : st.seal.2.size = st.size := by unfold PS.seal; split <;> rfl
      have e2 : st.seal.2.count = st.count := by unfold PS.seal; split <;> rfl
      have e3 : st.seal.2.id = st.id := by unfold PS.seal; split <;> rfl
      rw [← hsh]
      generalize st.seal = res at *
      exact on h2 xw xc res.2 vs Sp SW SC f2.far ⟨w2, by rw [hbt, hcur]; exact w.gi.frame s2 fun c hc => w.dp c (by simp [hc]), by rw [hch]; exact w.gw.frame s2 fun c hc => w.dp c (by simp [hc]), w.gc.frame s2 fun c hc => w.dp c (by simp [hc]), by rw [hch]; exact w.told, by rw [hcur]; exact hfl, w.dp, w.di, w.dw⟩ oo e1 e2 e3
    have c4 : (o1.k == 7) = false := by simp [k7]
    simp only [c4, lenSl_slice, lenStr_string, str_size, fpureA_some, fnilA_ptr, faddA_ptr, addr_add, Nat.zero_add, Nat.add_zero, fpureQ_k, fpureQ_nilA, fpureQ_addA, fpureQ_pureA, fpureQ_guardA, fpureQ_idxSlA, fpureQ_pickA, freadQ_loadA, freadQ_loadNA, freadQ_b2sA, freadQ_guardA, freadQ_slSlA, freadQ_k, fendA, fallA_one, fstillA_nil, fguardA_tt, fguardA_ff, fguardA_tf, fguardA_ft, fguardA_undef, fpickA_true, fpickA_false, fcondA_true, fcondA_false, binA_add, binA_sub, binA_mul, binA_eql, binA_neq, binA_lss, binA_leq, binA_gtr, binA_geq, unA_not, Bool.not_true, Bool.not_false, convA_int, extA_tuple, List.getElem?_toArray, List.getElem?_cons_zero, List.getElem?_cons_succ]
    exact on h xw xc st vs Sp SW SC f w o rfl rfl rfl
theorem flat_whole {l : List (Nat × Nat)} {i : Nat} {q : Nat × Nat} (hq : l[i]? = some q) : ((slotC l).drop (i * 2)).take 2 = [.int .i64 (q.1 : Int), .int .i64 (q.2 : Int)] :=
  drop_flatMap (e := fun p : Nat × Nat => [(.int .i64 (p.1 : Int) : Value), .int .i64 (p.2 : Int)]) (s := 2) (fun _ => rfl) l i q hq
/-- Each chunk, in the image and in the container. -/
theorem pback_loop2 {k3 kr : Value → Hp → Prop} {x8 : Value} (w : BK w0 h p x0 xw xc st vs Sp SI SW SC) (o : st.Ok) (hc : st.cur = st.image) : ∀ (m i : Nat) (h' : Hp), i + m = st.chunks.length → Step h h' [] [] → (∀ h'', k3 x8 h'') →
    deduplaw13_PackBack_L2 prog w0 k3 kr (m + 1) x8 (ptr p) x0 xw xc (.int .i64 (i : Int)) h' := by
  intro m
  induction m with
  | zero =>
    intro i h' hi s hk
    obtain ⟨a, c, hx⟩ := w.gw.slice
    have hlx : lenSl xw = some (.int .i64 st.chunks.length) := by rw [hx]; simp [lenSl]
    have : i = st.chunks.length := by omega
    subst this
    rw [deduplaw13_PackBack_L2]
    simp only [deduplaw13_PackBack_B2, hlx, lenSl_slice, lenStr_string, str_size, fpureA_some, fnilA_ptr, faddA_ptr, addr_add, Nat.zero_add, Nat.add_zero, fpureQ_k, fpureQ_nilA, fpureQ_addA, fpureQ_pureA, fpureQ_guardA, fpureQ_idxSlA, fpureQ_pickA, freadQ_loadA, freadQ_loadNA, freadQ_b2sA, freadQ_guardA, freadQ_slSlA, freadQ_k, fendA, fallA_one, fstillA_nil, fguardA_tt, fguardA_ff, fguardA_tf, fguardA_ft, fguardA_undef, fpickA_true, fpickA_false, fcondA_true, fcondA_false, binA_add, binA_sub, binA_mul, binA_eql, binA_neq, binA_lss, binA_leq, binA_gtr, binA_geq, unA_not, Bool.not_true, Bool.not_false, convA_int, extA_tuple, List.getElem?_toArray, List.getElem?_cons_zero, List.getElem?_cons_succ, Int.lt_irrefl, decide_false]
    exact hk h'
  | succ m ih =>
    intro i h' hi s hk
    have hby := o.bytes
    have hr := o.room
    have hcl := chunks_le (cs := st.chunks)
    have him := o.image
    obtain ⟨a, c, hx⟩ := w.gw.slice
    have hlx : lenSl xw = some (.int .i64 st.chunks.length) := by rw [hx]; simp [lenSl]
    have c1 : decide ((i : Int) < (st.chunks.length : Int)) = true := decide_eq_true (by omega)
    have e5 : IntKind.i64.wrap ((i : Int) + 1) = ((i + 1 : Nat) : Int) := by rw [IntWalk.i64_in _ (by omega)]; simp
    obtain ⟨r, hr1⟩ : ∃ r, st.chunks[i]? = some r := ⟨st.chunks[i]'(by omega), by simp⟩
    obtain ⟨q, hq1⟩ : ∃ q, (slotsFrom 16 st.chunks)[i]? = some q := ⟨(slotsFrom 16 st.chunks)[i]'(by simp; omega), by simp⟩
    obtain ⟨k1, k2, k3', k4⟩ := image_chunk o hr1 hq1
    obtain ⟨v, hv, ex⟩ := w.told.2 i r hr1
    have hvl := w.told.1
    have hrl : r.length ≤ 1000000000 := by
      have := (readFrom_at _ _ _ _ _ hr1 hq1).2.2.1
      omega
    have lds : ∀ {h2 : Hp} {K : Kont}, Step h h2 [] [] → K (slt q.1 q.2) h2 → idxSlA 2 xw (.int .i64 (i : Int)) (fun p => loadNA w0 p 2 K) h2 := by
      intro h2 K s2 hK
      have g2 := w.gw.frame s2 (by simp)
      refine g2.idx (by simp; omega) fun b hb hB hbk => ?_
      rw [loadNA_own]
      have hsc := slotC_get hq1
      have hlc := slotC_len (slotsFrom 16 st.chunks)
      have h2l : i * 2 + 2 ≤ (slotC (slotsFrom 16 st.chunks)).length := by rw [hlc, slotsFrom_length]; omega
      refine ⟨[.int .i64 (q.1 : Int), .int .i64 (q.2 : Int)], ?_, fun hlt => by omega, hK⟩
      rw [getN_eq, hbk, Option.bind_some, if_pos h2l]
      congr 1
      exact flat_whole hq1
    rw [deduplaw13_PackBack_L2]
    simp only [deduplaw13_PackBack_B2, hlx, lenSl_slice, lenStr_string, str_size, fpureA_some, fnilA_ptr, faddA_ptr, addr_add, Nat.zero_add, Nat.add_zero, fpureQ_k, fpureQ_nilA, fpureQ_addA, fpureQ_pureA, fpureQ_guardA, fpureQ_idxSlA, fpureQ_pickA, freadQ_loadA, freadQ_loadNA, freadQ_b2sA, freadQ_guardA, freadQ_slSlA, freadQ_k, fendA, fallA_one, fstillA_nil, fguardA_tt, fguardA_ff, fguardA_tf, fguardA_ft, fguardA_undef, fpickA_true, fpickA_false, fcondA_true, fcondA_false, binA_add, binA_sub, binA_mul, binA_eql, binA_neq, binA_lss, binA_leq, binA_gtr, binA_geq, unA_not, Bool.not_true, Bool.not_false, convA_int, extA_tuple, List.getElem?_toArray, List.getElem?_cons_zero, List.getElem?_cons_succ, c1]
    refine lds s ?_
    have w1 := w.frame s (by simp) (by simp)
    have v1 : Bs w0 h' x0 st.image := by
      have := w1.gi.sl
      rw [hc, ← him] at this
      exact this
    refine callA_of (Chunk_spec v1 (by omega) q.1 q.2 (by omega) (by omega)) fun v2 h2 ⟨e2, s2⟩ f2 => ?_
    rw [k1] at e2
    obtain ⟨x2, S2, e2, g2⟩ := e2
    subst e2
    simp only [lenSl_slice, lenStr_string, str_size, fpureA_some, fnilA_ptr, faddA_ptr, addr_add, Nat.zero_add, Nat.add_zero, fpureQ_k, fpureQ_nilA, fpureQ_addA, fpureQ_pureA, fpureQ_guardA, fpureQ_idxSlA, fpureQ_pickA, freadQ_loadA, freadQ_loadNA, freadQ_b2sA, freadQ_guardA, freadQ_slSlA, freadQ_k, fendA, fallA_one, fstillA_nil, fguardA_tt, fguardA_ff, fguardA_tf, fguardA_ft, fguardA_undef, fpickA_true, fpickA_false, fcondA_true, fcondA_false, binA_add, binA_sub, binA_mul, binA_eql, binA_neq, binA_lss, binA_leq, binA_gtr, binA_geq, unA_not, Bool.not_true, Bool.not_false, convA_int, extA_tuple, List.getElem?_toArray, List.getElem?_cons_zero, List.getElem?_cons_succ]
    have st2 := s.trans s2
    refine lds st2 ?_
    have w2 := w.frame st2 (by simp) (by simp)
    refine callA_of (pRead_spec w2.pk o q.1 q.2) fun v3 h3 e3 f3 => ?_
    rw [k2] at e3
    obtain ⟨x3, S3, e3, g3, -, s3⟩ := e3
    subst e3
    simp only [lenSl_slice, lenStr_string, str_size, fpureA_some, fnilA_ptr, faddA_ptr, addr_add, Nat.zero_add, Nat.add_zero, fpureQ_k, fpureQ_nilA, fpureQ_addA, fpureQ_pureA, fpureQ_guardA, fpureQ_idxSlA, fpureQ_pickA, freadQ_loadA, freadQ_loadNA, freadQ_b2sA, freadQ_guardA, freadQ_slSlA, freadQ_k, fendA, fallA_one, fstillA_nil, fguardA_tt, fguardA_ff, fguardA_tf, fguardA_ft, fguardA_undef, fpickA_true, fpickA_false, fcondA_true, fcondA_false, binA_add, binA_sub, binA_mul, binA_eql, binA_neq, binA_lss, binA_leq, binA_gtr, binA_geq, unA_not, Bool.not_true, Bool.not_false, convA_int, extA_tuple, List.getElem?_toArray, List.getElem?_cons_zero, List.getElem?_cons_succ, bne_self_eq_false]
    have s3' := s3.drop
    have st3 := st2.trans s3'
    have w3 := w.frame st3 (by simp) (by simp)
    refine w3.gc.idx (by omega) fun b hb hB hbk => ?_
    rw [Nat.mul_one]
    refine loadA_at hB hbk hv ?_
    refine callA_of (sameB_spec ((g2.frame s3' (by simp)).sl : Bs w0 h3 x2 r) (ex.sl' f3 (by simp)) hrl) fun _ h4 ⟨e, e4⟩ f4 => ?_
    subst e e4
    simp only [lenSl_slice, lenStr_string, str_size, fpureA_some, fnilA_ptr, faddA_ptr, addr_add, Nat.zero_add, Nat.add_zero, fpureQ_k, fpureQ_nilA, fpureQ_addA, fpureQ_pureA, fpureQ_guardA, fpureQ_idxSlA, fpureQ_pickA, freadQ_loadA, freadQ_loadNA, freadQ_b2sA, freadQ_guardA, freadQ_slSlA, freadQ_k, fendA, fallA_one, fstillA_nil, fguardA_tt, fguardA_ff, fguardA_tf, fguardA_ft, fguardA_undef, fpickA_true, fpickA_false, fcondA_true, fcondA_false, binA_add, binA_sub, binA_mul, binA_eql, binA_neq, binA_lss, binA_leq, binA_gtr, binA_geq, unA_not, Bool.not_true, Bool.not_false, convA_int, extA_tuple, List.getElem?_toArray, List.getElem?_cons_zero, List.getElem?_cons_succ, decide_true]
    refine w3.gc.idx (by omega) fun b hb hB hbk => ?_
    rw [Nat.mul_one]
    refine loadA_at hB hbk hv ?_
    refine callA_of (sameB_spec (g3.sl : Bs w0 h4 x3 r) (ex.sl' f3 (by simp)) hrl) fun _ h5 ⟨e, e5'⟩ f5 => ?_
    subst e e5'
    simp only [lenSl_slice, lenStr_string, str_size, fpureA_some, fnilA_ptr, faddA_ptr, addr_add, Nat.zero_add, Nat.add_zero, fpureQ_k, fpureQ_nilA, fpureQ_addA, fpureQ_pureA, fpureQ_guardA, fpureQ_idxSlA, fpureQ_pickA, freadQ_loadA, freadQ_loadNA, freadQ_b2sA, freadQ_guardA, freadQ_slSlA, freadQ_k, fendA, fallA_one, fstillA_nil, fguardA_tt, fguardA_ff, fguardA_tf, fguardA_ft, fguardA_undef, fpickA_true, fpickA_false, fcondA_true, fcondA_false, binA_add, binA_sub, binA_mul, binA_eql, binA_neq, binA_lss, binA_leq, binA_gtr, binA_geq, unA_not, Bool.not_true, Bool.not_false, convA_int, extA_tuple, List.getElem?_toArray, List.getElem?_cons_zero, List.getElem?_cons_succ, decide_true, e5]
    exact ih (i + 1) h5 (by omega) st3 hk
/-- PackBack: true. -/
theorem PackBack_top {h : Hp} (n s : Int) (id : Nat) (hn : -9223372036854775808 ≤ n ∧ n ≤ 9223372036854775807) (hid : id < 4294967296) {v : Value} {os : List POp} (hx : ExtSl w0 5 v os.length (os.flatMap POp.e)) (hok : ∀ o, o ∈ os → (dPOp w0).ok o ∧ o.bs.length ≤ 1000000000) (hos : os.length ≤ 1000000000) :
    ACalls prog w0 n_deduplaw13_PackBack [.int .i64 n, .int .i64 s, .int .u32 id, v] h fun r h' => r = .bool true := by
  obtain ⟨av, cv, hv, -⟩ := hx.sl
  refine ACalls.of_fit (by rw [hv]; simp) fun f => c_deduplaw13_PackBack (by rw [hv]; simp) ?_
  simp only [s_deduplaw13_PackBack]
  refine callA_of lives_spec fun v1 h1 ⟨e, s1⟩ f1 => ?_
  subst e
  simp only [lenSl_slice, lenStr_string, str_size, fpureA_some, fnilA_ptr, faddA_ptr, addr_add, Nat.zero_add, Nat.add_zero, fpureQ_k, fpureQ_nilA, fpureQ_addA, fpureQ_pureA, fpureQ_guardA, fpureQ_idxSlA, fpureQ_pickA, freadQ_loadA, freadQ_loadNA, freadQ_b2sA, freadQ_guardA, freadQ_slSlA, freadQ_k, fendA, fallA_one, fstillA_nil, fguardA_tt, fguardA_ff, fguardA_tf, fguardA_ft, fguardA_undef, fpickA_true, fpickA_false, fcondA_true, fcondA_false, binA_add, binA_sub, binA_mul, binA_eql, binA_neq, binA_lss, binA_leq, binA_gtr, binA_geq, unA_not, Bool.not_true, Bool.not_false, convA_int, extA_tuple, List.getElem?_toArray, List.getElem?_cons_zero, List.getElem?_cons_succ]
  refine callA_of (pNew_spec n s id hn hid) fun v2 h2 ⟨gt, gf⟩ f2 => ?_
  cases hj : pfits n s with
  | false =>
    obtain ⟨e, e2⟩ := gf hj
    subst e e2
    have c1 : ((1 : Int) != 0) = true := by decide
    simp only [lenSl_slice, lenStr_string, str_size, fpureA_some, fnilA_ptr, faddA_ptr, addr_add, Nat.zero_add, Nat.add_zero, fpureQ_k, fpureQ_nilA, fpureQ_addA, fpureQ_pureA, fpureQ_guardA, fpureQ_idxSlA, fpureQ_pickA, freadQ_loadA, freadQ_loadNA, freadQ_b2sA, freadQ_guardA, freadQ_slSlA, freadQ_k, fendA, fallA_one, fstillA_nil, fguardA_tt, fguardA_ff, fguardA_tf, fguardA_ft, fguardA_undef, fpickA_true, fpickA_false, fcondA_true, fcondA_false, binA_add, binA_sub, binA_mul, binA_eql, binA_neq, binA_lss, binA_leq, binA_gtr, binA_geq, unA_not, Bool.not_true, Bool.not_false, convA_int, extA_tuple, List.getElem?_toArray, List.getElem?_cons_zero, List.getElem?_cons_succ, c1, binPtrA_eql0, retA_iff, oneOf_one]
    simp
  | true =>
    obtain ⟨p, Sp, e, w2, s2⟩ := gt hj
    subst e
    obtain ⟨r1, r2, r3, r4⟩ := pfits_range hj
    obtain ⟨n, rfl⟩ := Int.eq_ofNat_of_zero_le (show 0 ≤ n by omega)
    obtain ⟨s, rfl⟩ := Int.eq_ofNat_of_zero_le (show 0 ≤ s by omega)
    have o0 := PS.Ok.new (id := id) hj hid
    have hby := o0.bytes
    have hbe : (PS.new (n : Int) (s : Int) id).bytes = n * s := by simp [PS.new, PS.bytes]
    rw [hbe] at hby
    have e6 : IntKind.i64.wrap ((n : Int) * (s : Int)) = ((n * s : Nat) : Int) := by rw [← Int.natCast_mul, IntWalk.i64_in _ (by omega)]
    simp only [lenSl_slice, lenStr_string, str_size, fpureA_some, fnilA_ptr, faddA_ptr, addr_add, Nat.zero_add, Nat.add_zero, fpureQ_k, fpureQ_nilA, fpureQ_addA, fpureQ_pureA, fpureQ_guardA, fpureQ_idxSlA, fpureQ_pickA, freadQ_loadA, freadQ_loadNA, freadQ_b2sA, freadQ_guardA, freadQ_slSlA, freadQ_k, fendA, fallA_one, fstillA_nil, fguardA_tt, fguardA_ff, fguardA_tf, fguardA_ft, fguardA_undef, fpickA_true, fpickA_false, fcondA_true, fcondA_false, binA_add, binA_sub, binA_mul, binA_eql, binA_neq, binA_lss, binA_leq, binA_gtr, binA_geq, unA_not, Bool.not_true, Bool.not_false, convA_int, extA_tuple, List.getElem?_toArray, List.getElem?_cons_zero, List.getElem?_cons_succ, bne_self_eq_false, e6, mkA_nat]
    refine ⟨Nat.le_refl _, by omega, by omega, ?_⟩
    have hz : zerosL [(.int .u8 0 : Value)] (n * s) = bvs (List.replicate (n * s) 0) := by rw [zerosL_single]; simp [bvs, bv]
    rw [hz]
    have s3 : Step h2 (h2.new (bvs (List.replicate (n * s) 0)) 1) [] [h2.next] := (Step.refl h2 [] (by simp)).new _ _
    have g3 : GV w0 (h2.new (bvs (List.replicate (n * s) 0)) 1) 1 (.slice (some ⟨h2.next, 0, none⟩) (n * s) (n * s)) (n * s) (bvs (List.replicate (n * s) 0)) [h2.next] := GV.new f2.base (by simp) (by show n * s < 18446744073709551616; omega)
    have f3 : Fit w0 (h2.new (bvs (List.replicate (n * s) 0)) 1) := f2.new (by simp [bvs, bv, isCell])
    generalize h2.new (bvs (List.replicate (n * s) 0)) 1 = h3 at s3 g3 f3 ⊢
    have hlp := fun c (hc : c ∈ Sp) => (w2.lts c hc).2
    have B3 : BK w0 h3 p (.slice (some ⟨h2.next, 0, none⟩) (n * s) (n * s)) (.slice none 0 0) (.slice none 0 0) (PS.new (n : Int) (s : Int) id) [] Sp [h2.next] [] [] :=
      ⟨w2.frame s3 (by simp), by rw [hbe]; exact g3, .inl .nil, .inl .nil, ⟨rfl, by simp [PS.new]⟩, fills_zero _ _ o0.image, fun c hc he => by
        simp at hc
        subst hc
        have := hlp _ he
        omega, by simp, by simp⟩
    generalize (Value.slice (some ⟨h2.next, 0, none⟩) (n * s) (n * s)) = x0 at *
    refine ⟨os.length + 1, pback_loop (p := p) hx hok hos os [] h3 (.slice none 0 0) (.slice none 0 0) (PS.new (n : Int) (s : Int) id) [] Sp [h2.next] [] [] rfl f3.far B3 o0 (by simp [PS.new]) fun h4 xw xc st vs Sp4 SW SC f4 w4 o4 e1 e2 e3 => ?_⟩
    have en : n = st.size := by rw [e1]; simp [PS.new]
    have es : s = st.count := by rw [e2]; simp [PS.new]
    have ei : id = st.id := by rw [e3]; rfl
    have hz4 := o4.size
    have hc4 := o4.count
    have hb4 := o4.bytes
    have hr4 := o4.room
    have hcl := chunks_le (cs := st.chunks)
    have him := o4.image
    subst en es ei
    refine back_take w4 o4 fun h5 Sp5 f5 w5 => ?_
    have o5 := o4.take
    have hcur : st.take.cur = st.take.image := rfl
    have himt : st.take.image = st.image := rfl
    have hch : st.take.chunks = st.chunks := rfl
    have hsh : st.take.shut = st.shut := rfl
    have hsz5 : st.take.size = st.size := rfl
    have hct5 : st.take.count = st.count := rfl
    have hid5 : st.take.id = st.id := rfl
    have hbt5 : st.take.bytes = st.bytes := rfl
    rw [← hsh, ← hsz5, ← hct5, ← hid5]
    rw [← hsz5, ← hct5] at hj
    rw [← hbt5] at hb4 hr4
    rw [← hch] at hr4 hcl
    rw [← hsz5] at hz4
    rw [← hct5] at hc4
    generalize st.take = t at *
    have him := o5.image
    simp only [lenSl_slice, lenStr_string, str_size, fpureA_some, fnilA_ptr, faddA_ptr, addr_add, Nat.zero_add, Nat.add_zero, fpureQ_k, fpureQ_nilA, fpureQ_addA, fpureQ_pureA, fpureQ_guardA, fpureQ_idxSlA, fpureQ_pickA, freadQ_loadA, freadQ_loadNA, freadQ_b2sA, freadQ_guardA, freadQ_slSlA, freadQ_k, fendA, fallA_one, fstillA_nil, fguardA_tt, fguardA_ff, fguardA_tf, fguardA_ft, fguardA_undef, fpickA_true, fpickA_false, fcondA_true, fcondA_false, binA_add, binA_sub, binA_mul, binA_eql, binA_neq, binA_lss, binA_leq, binA_gtr, binA_geq, unA_not, Bool.not_true, Bool.not_false, convA_int, extA_tuple, List.getElem?_toArray, List.getElem?_cons_zero, List.getElem?_cons_succ]
    have v5 : ∀ {h' : Hp}, Step h5 h' [] [] → Bs w0 h' x0 t.image := by
      intro h' s'
      have := (w5.frame s' (by simp) (by simp)).gi.sl
      rw [hcur, ← him] at this
      exact this
    refine callA_of (pImage_spec w5.pk o5) fun v6 h6 ⟨T6, g6, s6⟩ f6 => ?_
    refine callA_of (sameB_spec (v5 s6.drop) (g6.sl : Bs w0 h6 v6 t.image) (by omega)) fun _ h7 ⟨e, e7⟩ f7 => ?_
    subst e e7
    simp only [lenSl_slice, lenStr_string, str_size, fpureA_some, fnilA_ptr, faddA_ptr, addr_add, Nat.zero_add, Nat.add_zero, fpureQ_k, fpureQ_nilA, fpureQ_addA, fpureQ_pureA, fpureQ_guardA, fpureQ_idxSlA, fpureQ_pickA, freadQ_loadA, freadQ_loadNA, freadQ_b2sA, freadQ_guardA, freadQ_slSlA, freadQ_k, fendA, fallA_one, fstillA_nil, fguardA_tt, fguardA_ff, fguardA_tf, fguardA_ft, fguardA_undef, fpickA_true, fpickA_false, fcondA_true, fcondA_false, binA_add, binA_sub, binA_mul, binA_eql, binA_neq, binA_lss, binA_leq, binA_gtr, binA_geq, unA_not, Bool.not_true, Bool.not_false, convA_int, extA_tuple, List.getElem?_toArray, List.getElem?_cons_zero, List.getElem?_cons_succ, decide_true]
    refine callA_of (Scan_spec (v5 s6.drop) (by omega) (t.size : Int) (t.count : Int) (by omega)) fun v8 h8 ⟨s8, e8⟩ f8 => ?_
    have hlen : ((t.image.length : Nat) : Int) = (t.size : Int) * (t.count : Int) := by rw [him]; simp [PS.bytes]
    obtain ⟨hd1, hd2⟩ := image_front o5
    have hfoot := image_foot o5
    have hscan := image_scan o5
    rw [if_pos ⟨hj, hlen⟩, Int.toNat_natCast, if_pos hd1, hd2] at e8
    rw [him] at hfoot e8
    rw [hscan] at e8
    simp only at e8
    rw [hfoot] at e8
    obtain ⟨xl, S8, e8, g8⟩ := e8
    subst e8
    have st8 : Step h5 h8 [] [] := s6.drop.trans s8
    have w8 := w5.frame st8 (by simp) (by simp)
    simp only [lenSl_slice, lenStr_string, str_size, fpureA_some, fnilA_ptr, faddA_ptr, addr_add, Nat.zero_add, Nat.add_zero, fpureQ_k, fpureQ_nilA, fpureQ_addA, fpureQ_pureA, fpureQ_guardA, fpureQ_idxSlA, fpureQ_pickA, freadQ_loadA, freadQ_loadNA, freadQ_b2sA, freadQ_guardA, freadQ_slSlA, freadQ_k, fendA, fallA_one, fstillA_nil, fguardA_tt, fguardA_ff, fguardA_tf, fguardA_ft, fguardA_undef, fpickA_true, fpickA_false, fcondA_true, fcondA_false, binA_add, binA_sub, binA_mul, binA_eql, binA_neq, binA_lss, binA_leq, binA_gtr, binA_geq, unA_not, Bool.not_true, Bool.not_false, convA_int, extA_tuple, List.getElem?_toArray, List.getElem?_cons_zero, List.getElem?_cons_succ, bne_self_eq_false]
    refine callA_of (sameS_spec g8.sl w8.gw.sl (by simp; omega)) fun _ h9 ⟨e, e9⟩ f9 => ?_
    subst e e9
    have cb : (!(t.shut == t.shut)) = false := by simp
    simp only [lenSl_slice, lenStr_string, str_size, fpureA_some, fnilA_ptr, faddA_ptr, addr_add, Nat.zero_add, Nat.add_zero, fpureQ_k, fpureQ_nilA, fpureQ_addA, fpureQ_pureA, fpureQ_guardA, fpureQ_idxSlA, fpureQ_pickA, freadQ_loadA, freadQ_loadNA, freadQ_b2sA, freadQ_guardA, freadQ_slSlA, freadQ_k, fendA, fallA_one, fstillA_nil, fguardA_tt, fguardA_ff, fguardA_tf, fguardA_ft, fguardA_undef, fpickA_true, fpickA_false, fcondA_true, fcondA_false, binA_add, binA_sub, binA_mul, binA_eql, binA_neq, binA_lss, binA_leq, binA_gtr, binA_geq, unA_not, Bool.not_true, Bool.not_false, convA_int, extA_tuple, List.getElem?_toArray, List.getElem?_cons_zero, List.getElem?_cons_succ, decide_true, binBoolA_neq, bne_self_eq_false, cb]
    refine callA_of (pSlots_spec w8.pk o5) fun v10 h10 ⟨T10, g10, s10⟩ f10 => ?_
    have w10 := w8.frame s10 (by simp) (by simp)
    refine callA_of (sameS_spec g10.sl w10.gw.sl (by simp; omega)) fun _ h11 ⟨e, e11⟩ f11 => ?_
    subst e e11
    simp only [lenSl_slice, lenStr_string, str_size, fpureA_some, fnilA_ptr, faddA_ptr, addr_add, Nat.zero_add, Nat.add_zero, fpureQ_k, fpureQ_nilA, fpureQ_addA, fpureQ_pureA, fpureQ_guardA, fpureQ_idxSlA, fpureQ_pickA, freadQ_loadA, freadQ_loadNA, freadQ_b2sA, freadQ_guardA, freadQ_slSlA, freadQ_k, fendA, fallA_one, fstillA_nil, fguardA_tt, fguardA_ff, fguardA_tf, fguardA_ft, fguardA_undef, fpickA_true, fpickA_false, fcondA_true, fcondA_false, binA_add, binA_sub, binA_mul, binA_eql, binA_neq, binA_lss, binA_leq, binA_gtr, binA_geq, unA_not, Bool.not_true, Bool.not_false, convA_int, extA_tuple, List.getElem?_toArray, List.getElem?_cons_zero, List.getElem?_cons_succ, decide_true]
    refine ⟨t.chunks.length + 1, pback_loop2 w10 o5 hcur t.chunks.length 0 h11 (by omega) (Step.refl _ _ (by simp)) fun h12 => ?_⟩
    simp
end
end Go.Proofs.Ytfhamcobfpmgbaa.Ah
