/- PackPlays: the walk. -/
import Derived.Test.YtfhamcobfpmgbaaPv
set_option linter.unusedVariables false
set_option linter.unusedSimpArgs false
namespace Go.Proofs.Ytfhamcobfpmgbaa.Ah
open Go

section
variable {w0 : World} {p x : Nat}
/-- An element of what was there, read whole. -/
theorem ext_idxN {s n i : Nat} {v : Value} {ys : List Value} {h : Hp} {kt : IntKind} {K : Kont} (hx : ExtSl w0 s v n ys) (f : Fit w0 h) (hi : i < n) (hs : 0 < s) (hyl : ys.length = n * s)
    (hk : ∀ b o0, b < w0.heap.size → (∀ (h' : Hp) (K' : Kont), Fit w0 h' → K' (.agg ((ys.drop (i * s)).take s).toArray) h' → loadNA w0 (.pointer (some ⟨b, o0, none⟩)) s K' h') → K (.pointer (some ⟨b, o0, none⟩)) h) :
    idxSlA s v (.int kt (i : Int)) K h := by
  obtain ⟨a, c, rfl, hn, hc⟩ := hx.sl
  have hsrc := hx.src h f
  rcases hsrc.2 with h0 | ⟨h0, ad, rfl, hg, hcl⟩
  · omega
  have hb := cl_block hx.cl (by omega)
  obtain ⟨hsp, cs, hbk, hle, hv⟩ := Hp.getN_some hg
  obtain ⟨b, o, sp⟩ := ad
  simp only at hsp hbk hle hv hb
  subst hsp
  have his : (i + 1) * s ≤ n * s := Nat.mul_le_mul_right _ hi
  rw [Nat.add_mul, Nat.one_mul] at his
  rw [idxSlA_iff]
  refine ⟨by omega, by omega, ?_⟩
  rw [addr_add, Int.toNat_natCast]
  refine hk b (o + i * s) hb fun h' K' f' hK => ?_
  have hbk' : h'.blk b = some cs := by rw [f'.ext b hb, ← f.ext b hb]; exact hbk
  have he : (ys.drop (i * s)).take s = (cs.drop (o + i * s)).take s := by
    rw [hv, List.drop_take, List.take_take, List.drop_drop, Nat.min_eq_left (by omega)]
  rw [loadNA_own]
  refine ⟨_, ?_, fun _ v' hv' => hcl hb v' (List.mem_of_mem_drop (List.mem_of_mem_take hv')), hK⟩
  rw [he, getN_eq, hbk', Option.bind_some, if_pos (by omega)]
theorem pop_get {os pre post : List POp} {o : POp} (he : pre ++ o :: post = os) (j : Nat) (hj : j < 5) : (os.flatMap POp.e)[pre.length * 5 + j]? = o.e[j]? :=
  flat_get (e := POp.e) (s := 5) (fun _ => rfl) (by rw [← he]; simp) hj
theorem pop_whole {os pre post : List POp} {o : POp} (he : pre ++ o :: post = os) : ((os.flatMap POp.e).drop (pre.length * 5)).take 5 = o.e :=
  drop_flatMap (e := POp.e) (s := 5) (fun _ => rfl) os pre.length o (by rw [← he]; simp)
/-- The one ahead goes on alone; the fork goes on with the other. -/
theorem fork_on {h h' : Hp} {st : PS} {Sp Sx R S' : List Nat} {q : Nat} (b : Both w0 h p x st Sp Sx R) (w : Pk w0 h' q st S') (hS : ∀ c, c ∈ S' → h.next ≤ c) (s : Step h h' [] S') :
    Both w0 h' q x st S' Sx R ∧ Pk w0 h' p st Sp ∧ (∀ c, c ∈ S' → c ∉ Sp) :=
  ⟨⟨w, b.rf.frame s (by simp) (by simp), fun c hc he => by have := hS c hc; have := (b.rf.lts c he).2; omega, fun c hc he => by have := hS c hc; have := (b.rf.ltr c he).2; omega⟩,
    b.pk.frame s (by simp), fun c hc he => by have := hS c hc; have := (b.pk.lts c he).2; omega⟩
theorem Both.apart {h h' : Hp} {st : PS} {Sp Sx R T T' : List Nat} (b : Both w0 h p x st Sp Sx R) (s : Step h h' T T') (hd : ∀ c, c ∈ Sp ++ (Sx ++ R) → c ∉ T) : Both w0 h' p x st Sp Sx R ∧ ∀ c, c ∈ Sp ++ (Sx ++ R) → c ∉ T' := by
  refine ⟨b.frame s (fun c hc => hd c (by simp [hc])) (fun c hc => hd c (by simp [hc])) (fun c hc => hd c (by simp [hc])), apart_step s hd fun c hc => ?_⟩
  rcases List.mem_append.1 hc with e | e
  · exact (b.pk.lts c e).2
  · rcases List.mem_append.1 e with e | e
    · exact (b.rf.lts c e).2
    · exact (b.rf.ltr c e).2
theorem plays_loop {k0 kr : Value → Value → Value → Hp → Prop} {v x8 : Value} {os : List POp} (hx : ExtSl w0 5 v os.length (os.flatMap POp.e)) (hok : ∀ o, o ∈ os → (dPOp w0).ok o ∧ o.bs.length ≤ 1000000000) (hos : os.length ≤ 1000000000) : ∀ (post pre : List POp) (h : Hp) (p : Nat) (st : PS) (Sp Sx R : List Nat), pre ++ post = os → Fit w0 h → Both w0 h p x st Sp Sx R → st.Ok →
    (∀ h' p' st' Sp' Sx' R', Fit w0 h' → Both w0 h' p' x st' Sp' Sx' R' → st'.Ok → k0 x8 (ptr p') (ptr x) h') →
    deduplaw13_PackPlays_L1 prog w0 k0 kr (post.length + 1) v x8 (ptr p) (ptr x) (.int .i64 (pre.length : Int)) h := by
  obtain ⟨a, c, hv, hn, hc⟩ := hx.sl
  intro post
  induction post with
  | nil =>
    intro pre h p st Sp Sx R he f w o hk
    have hpre : pre = os := by simpa using he
    rw [deduplaw13_PackPlays_L1, hv]
    simp only [deduplaw13_PackPlays_B1, lenSl_slice, lenStr_string, str_size, fpureA_some, fnilA_ptr, faddA_ptr, addr_add, Nat.zero_add, Nat.add_zero, fpureQ_k, fpureQ_nilA, fpureQ_addA, fpureQ_pureA, fpureQ_guardA, fpureQ_idxSlA, fpureQ_pickA, freadQ_loadA, freadQ_loadNA, freadQ_b2sA, freadQ_guardA, freadQ_slSlA, freadQ_k, fendA, fallA_one, fstillA_nil, fguardA_tt, fguardA_ff, fguardA_tf, fguardA_ft, fguardA_undef, fpickA_true, fpickA_false, fcondA_true, fcondA_false, binA_add, binA_sub, binA_mul, binA_eql, binA_neq, binA_lss, binA_leq, binA_gtr, binA_geq, unA_not, Bool.not_true, Bool.not_false, convA_int, extA_tuple, List.getElem?_toArray, List.getElem?_cons_zero, List.getElem?_cons_succ, hpre, Int.lt_irrefl, decide_false]
    exact hk h p st Sp Sx R f w o
  | cons o1 post ih =>
    intro pre h p st Sp Sx R he f w o hk
    have hlen : pre.length + (post.length + 1) = os.length := by rw [← he]; simp
    have ho : o1 ∈ os := by rw [← he]; simp
    obtain ⟨hop, hbl⟩ := hok o1 ho
    have c1 : decide ((pre.length : Int) < (os.length : Int)) = true := decide_eq_true (by omega)
    have e5 : IntKind.i64.wrap ((pre.length : Int) + 1) = ((pre.length + 1 : Nat) : Int) := by rw [IntWalk.i64_in _ (by omega)]; simp
    have hyl := flat_len (e := POp.e) (s := 5) (fun _ => rfl) os
    rw [List.length_cons, deduplaw13_PackPlays_L1]
    rw [hv] at hx ih ⊢
    have on : ∀ h' p' st' Sp' Sx' R', Fit w0 h' → Both w0 h' p' x st' Sp' Sx' R' → st'.Ok → deduplaw13_PackPlays_L1 prog w0 k0 kr (post.length + 1) (.slice a os.length c) x8 (ptr p') (ptr x) (.int .i64 ((pre.length + 1 : Nat) : Int)) h' := by
      intro h' p' st' Sp' Sx' R' f' w' o'
      have := ih (pre ++ [o1]) h' p' st' Sp' Sx' R' (by simpa using he) f' w' o' hk
      simpa using this
    simp only [deduplaw13_PackPlays_B1, lenSl_slice, lenStr_string, str_size, fpureA_some, fnilA_ptr, faddA_ptr, addr_add, Nat.zero_add, Nat.add_zero, fpureQ_k, fpureQ_nilA, fpureQ_addA, fpureQ_pureA, fpureQ_guardA, fpureQ_idxSlA, fpureQ_pickA, freadQ_loadA, freadQ_loadNA, freadQ_b2sA, freadQ_guardA, freadQ_slSlA, freadQ_k, fendA, fallA_one, fstillA_nil, fguardA_tt, fguardA_ff, fguardA_tf, fguardA_ft, fguardA_undef, fpickA_true, fpickA_false, fcondA_true, fcondA_false, binA_add, binA_sub, binA_mul, binA_eql, binA_neq, binA_lss, binA_leq, binA_gtr, binA_geq, unA_not, Bool.not_true, Bool.not_false, convA_int, extA_tuple, List.getElem?_toArray, List.getElem?_cons_zero, List.getElem?_cons_succ, c1]
    refine ext_idx hx f (by omega) (by omega) hyl fun b o0 hb ld => ?_
    simp only [lenSl_slice, lenStr_string, str_size, fpureA_some, fnilA_ptr, faddA_ptr, addr_add, Nat.zero_add, Nat.add_zero, fpureQ_k, fpureQ_nilA, fpureQ_addA, fpureQ_pureA, fpureQ_guardA, fpureQ_idxSlA, fpureQ_pickA, freadQ_loadA, freadQ_loadNA, freadQ_b2sA, freadQ_guardA, freadQ_slSlA, freadQ_k, fendA, fallA_one, fstillA_nil, fguardA_tt, fguardA_ff, fguardA_tf, fguardA_ft, fguardA_undef, fpickA_true, fpickA_false, fcondA_true, fcondA_false, binA_add, binA_sub, binA_mul, binA_eql, binA_neq, binA_lss, binA_leq, binA_gtr, binA_geq, unA_not, Bool.not_true, Bool.not_false, convA_int, extA_tuple, List.getElem?_toArray, List.getElem?_cons_zero, List.getElem?_cons_succ]
    refine ld h 0 (.int .i64 o1.k) _ f (by omega) (by rw [pop_get he 0 (by omega)]; rfl) ?_
    simp only [lenSl_slice, lenStr_string, str_size, fpureA_some, fnilA_ptr, faddA_ptr, addr_add, Nat.zero_add, Nat.add_zero, fpureQ_k, fpureQ_nilA, fpureQ_addA, fpureQ_pureA, fpureQ_guardA, fpureQ_idxSlA, fpureQ_pickA, freadQ_loadA, freadQ_loadNA, freadQ_b2sA, freadQ_guardA, freadQ_slSlA, freadQ_k, fendA, fallA_one, fstillA_nil, fguardA_tt, fguardA_ff, fguardA_tf, fguardA_ft, fguardA_undef, fpickA_true, fpickA_false, fcondA_true, fcondA_false, binA_add, binA_sub, binA_mul, binA_eql, binA_neq, binA_lss, binA_leq, binA_gtr, binA_geq, unA_not, Bool.not_true, Bool.not_false, convA_int, extA_tuple, List.getElem?_toArray, List.getElem?_cons_zero, List.getElem?_cons_succ, e5]
    by_cases k9 : o1.k = 9
    · have c2 : (o1.k == 9) = true := by simp [k9]
      simp only [c2, lenSl_slice, lenStr_string, str_size, fpureA_some, fnilA_ptr, faddA_ptr, addr_add, Nat.zero_add, Nat.add_zero, fpureQ_k, fpureQ_nilA, fpureQ_addA, fpureQ_pureA, fpureQ_guardA, fpureQ_idxSlA, fpureQ_pickA, freadQ_loadA, freadQ_loadNA, freadQ_b2sA, freadQ_guardA, freadQ_slSlA, freadQ_k, fendA, fallA_one, fstillA_nil, fguardA_tt, fguardA_ff, fguardA_tf, fguardA_ft, fguardA_undef, fpickA_true, fpickA_false, fcondA_true, fcondA_false, binA_add, binA_sub, binA_mul, binA_eql, binA_neq, binA_lss, binA_leq, binA_gtr, binA_geq, unA_not, Bool.not_true, Bool.not_false, convA_int, extA_tuple, List.getElem?_toArray, List.getElem?_cons_zero, List.getElem?_cons_succ]
      refine callA_of (pFork_spec w.pk o) fun v5 h5 ⟨q, S5, e, w5, d5, s5⟩ f5 => ?_
      subst e
      obtain ⟨b5, wp, dp⟩ := fork_on w w5 d5 s5
      simp only [lenSl_slice, lenStr_string, str_size, fpureA_some, fnilA_ptr, faddA_ptr, addr_add, Nat.zero_add, Nat.add_zero, fpureQ_k, fpureQ_nilA, fpureQ_addA, fpureQ_pureA, fpureQ_guardA, fpureQ_idxSlA, fpureQ_pickA, freadQ_loadA, freadQ_loadNA, freadQ_b2sA, freadQ_guardA, freadQ_slSlA, freadQ_k, fendA, fallA_one, fstillA_nil, fguardA_tt, fguardA_ff, fguardA_tf, fguardA_ft, fguardA_undef, fpickA_true, fpickA_false, fcondA_true, fcondA_false, binA_add, binA_sub, binA_mul, binA_eql, binA_neq, binA_lss, binA_leq, binA_gtr, binA_geq, unA_not, Bool.not_true, Bool.not_false, convA_int, extA_tuple, List.getElem?_toArray, List.getElem?_cons_zero, List.getElem?_cons_succ, binPtr_ptr]
      refine ext_idx hx f5 (by omega) (by omega) hyl fun b o0 hb ld => ?_
      simp only [lenSl_slice, lenStr_string, str_size, fpureA_some, fnilA_ptr, faddA_ptr, addr_add, Nat.zero_add, Nat.add_zero, fpureQ_k, fpureQ_nilA, fpureQ_addA, fpureQ_pureA, fpureQ_guardA, fpureQ_idxSlA, fpureQ_pickA, freadQ_loadA, freadQ_loadNA, freadQ_b2sA, freadQ_guardA, freadQ_slSlA, freadQ_k, fendA, fallA_one, fstillA_nil, fguardA_tt, fguardA_ff, fguardA_tf, fguardA_ft, fguardA_undef, fpickA_true, fpickA_false, fcondA_true, fcondA_false, binA_add, binA_sub, binA_mul, binA_eql, binA_neq, binA_lss, binA_leq, binA_gtr, binA_geq, unA_not, Bool.not_true, Bool.not_false, convA_int, extA_tuple, List.getElem?_toArray, List.getElem?_cons_zero, List.getElem?_cons_succ]
      refine ld h5 2 o1.v _ f5 (by omega) (by rw [pop_get he 2 (by omega)]; rfl) ?_
      have hd5 : ∀ c, c ∈ S5 ++ (Sx ++ R) → c ∉ Sp := fun c hc he => by
        rcases List.mem_append.1 hc with e | e
        · exact dp c e he
        · rcases List.mem_append.1 e with e | e
          · exact w.d1 c he e
          · exact w.d2 c he e
      refine callA_of (pAppend_spec wp o (hop.2.2.1.sl' f5 (by simp) : Bs w0 h5 o1.v o1.bs) hbl) fun v6 h6 ⟨S6, e, w6, s6⟩ f6 => ?_
      subst e
      obtain ⟨b6, d6⟩ := b5.apart s6 hd5
      refine callA_of (pTake_spec w6 (o.append _)) fun v7 h7 ⟨SO, S7, w7, z1, z2, z3, s7⟩ f7 => ?_
      obtain ⟨b7, d7⟩ := b6.apart s7 d6
      refine callA_of (pSeal_spec w7 (o.append _).take) fun v8 h8 ⟨e, w8, s8⟩ f8 => ?_
      subst e
      obtain ⟨b8, d8⟩ := b7.apart s8 (fun c hc he => d7 c hc (by simp [he]))
      exact on h8 q st _ _ _ f8 b8 o
    have c2 : (o1.k == 9) = false := by simp [k9]
    simp only [c2, lenSl_slice, lenStr_string, str_size, fpureA_some, fnilA_ptr, faddA_ptr, addr_add, Nat.zero_add, Nat.add_zero, fpureQ_k, fpureQ_nilA, fpureQ_addA, fpureQ_pureA, fpureQ_guardA, fpureQ_idxSlA, fpureQ_pickA, freadQ_loadA, freadQ_loadNA, freadQ_b2sA, freadQ_guardA, freadQ_slSlA, freadQ_k, fendA, fallA_one, fstillA_nil, fguardA_tt, fguardA_ff, fguardA_tf, fguardA_ft, fguardA_undef, fpickA_true, fpickA_false, fcondA_true, fcondA_false, binA_add, binA_sub, binA_mul, binA_eql, binA_neq, binA_lss, binA_leq, binA_gtr, binA_geq, unA_not, Bool.not_true, Bool.not_false, convA_int, extA_tuple, List.getElem?_toArray, List.getElem?_cons_zero, List.getElem?_cons_succ]
    refine ext_idxN hx f (by omega) (by omega) hyl fun b o0 hb ldn => ?_
    refine ldn h _ f ?_
    rw [pop_whole he]
    refine callA_of (step_spec w o o1 hop hbl) fun v6 h6 ⟨e, Sp', Sx', R', b6, z1, z2⟩ f6 => ?_
    subst e
    simp only [lenSl_slice, lenStr_string, str_size, fpureA_some, fnilA_ptr, faddA_ptr, addr_add, Nat.zero_add, Nat.add_zero, fpureQ_k, fpureQ_nilA, fpureQ_addA, fpureQ_pureA, fpureQ_guardA, fpureQ_idxSlA, fpureQ_pickA, freadQ_loadA, freadQ_loadNA, freadQ_b2sA, freadQ_guardA, freadQ_slSlA, freadQ_k, fendA, fallA_one, fstillA_nil, fguardA_tt, fguardA_ff, fguardA_tf, fguardA_ft, fguardA_undef, fpickA_true, fpickA_false, fcondA_true, fcondA_false, binA_add, binA_sub, binA_mul, binA_eql, binA_neq, binA_lss, binA_leq, binA_gtr, binA_geq, unA_not, Bool.not_true, Bool.not_false, convA_int, extA_tuple, List.getElem?_toArray, List.getElem?_cons_zero, List.getElem?_cons_succ]
    exact on h6 p _ _ _ _ f6 b6 (o.doit o1)
/-- Taken from both, and the same. -/
theorem both_take {K : Value → Hp → Prop} {h : Hp} {st : PS} {Sp Sx R : List Nat} (b : Both w0 h p x st Sp Sx R) (o : st.Ok) (hK : ∀ h', Fit w0 h' → After w0 h h' p x st.take Sp Sx R → K (.bool true) h') :
    callA prog w0 n_pack_Pack_Take [ptr p] (fun v => callA prog w0 n_dedupref13_Pack_Take [ptr x] fun u => callA prog w0 n_deduplaw13_sectors [v, u] K) h := by
  refine callA_of (pTake_spec b.pk o) fun v2 h2 ⟨SO, Sp', w2, q2, hSO, hdS, s2⟩ f2 => ?_
  have hx1 : ∀ c, c ∈ Sx → c < h.next := fun c hc => (b.rf.lts c hc).2
  have hr1 : ∀ c, c ∈ R → c < h.next := fun c hc => (b.rf.ltr c hc).2
  have rf2 := b.rf.frame s2 (fun c hc he => b.d1 c he hc) (fun c hc he => b.d2 c he hc)
  refine callA_of (xTake_spec rf2 o) fun v3 h3 ⟨SQ, R', w3, q3, hSQ, hdQ, hR3, s3⟩ f3 => ?_
  have q23 := q2.frame s3 (fun c hc he => by have := hSO c hc; have := hx1 c he; omega)
  have hct := o.count
  have hsz := o.size
  obtain ⟨l1, l2⟩ := secs_len st o st.count 0 (by omega)
  refine callA_of (sectors_spec q23 q3 (fun c hc he => by have := hSQ c he; have := (q2.lt c hc).2; omega) (by omega) (fun q hq => by have := l2 q hq; omega)) fun _ h4 ⟨e, s4⟩ f4 => ?_
  subst e
  have s2' : Step h h2 Sp Sp' := s2.less (fun c hc => by simp [hc])
  have s3' : Step h2 h3 Sx Sx := s3.less (fun c hc => by simp [hc])
  obtain ⟨bb, ss, rr⟩ := b.two w2 s2' w3 s3' hR3
  have hSO2 : ∀ c, c ∈ SO → c < h2.next := fun c hc => (q2.lt c hc).2
  have b4 := bb.frame s4 (fun c hc he => hdS c he hc) (fun c hc he => by have := hSO c he; have := hx1 c hc; omega) (fun c hc he => by
    rcases hR3 c hc with g | g
    · have := hSO c he; have := hr1 c g; omega
    · have := hSO2 c he; omega)
  exact hK h4 f4 ⟨Sp', Sx, R', b4, ss.after s4 (fun c hc => hSO c hc), rr⟩
/-- The images of both, the same. -/
theorem both_image {K : Value → Hp → Prop} {h : Hp} {st : PS} {Sp Sx R : List Nat} (b : Both w0 h p x st Sp Sx R) (o : st.Ok) (hK : ∀ h', Fit w0 h' → Step h h' [] [] → K (.bool true) h') :
    callA prog w0 n_pack_Pack_Image [ptr p] (fun v => callA prog w0 n_dedupref13_Pack_Image [ptr x] fun u => callA prog w0 n_deduplaw13_sameBytes [v, u] K) h := by
  have hi := o.image
  have hb := o.bytes
  refine callA_of (pImage_spec b.pk o) fun v2 h2 ⟨T2, g2, s2⟩ f2 => ?_
  have rf2 := b.rf.frame s2 (by simp) (by simp)
  refine callA_of (xImage_spec rf2 o) fun v3 h3 ⟨T3, g3, s3⟩ f3 => ?_
  refine callA_of (sameB_spec ((g2.frame s3 (by simp)).sl : Bs w0 h3 v2 st.image) g3.sl (by omega)) fun _ h4 ⟨e, e4⟩ f4 => ?_
  subst e e4
  simp only [decide_true]
  exact hK h4 f4 (s2.drop.trans s3.drop)
/-- The slots of both, the same. -/
theorem both_slots {K : Value → Hp → Prop} {h : Hp} {st : PS} {Sp Sx R : List Nat} (b : Both w0 h p x st Sp Sx R) (o : st.Ok) (hK : ∀ h', Fit w0 h' → Step h h' [] [] → K (.bool true) h') :
    callA prog w0 n_pack_Pack_Slots [ptr p] (fun v => callA prog w0 n_dedupref13_Pack_Slots [ptr x] fun u => callA prog w0 n_deduplaw13_sameSlots [v, u] K) h := by
  have hby := o.bytes
  have hr := o.room
  have hct := o.count
  have hsz := o.size
  have hcl := chunks_le (cs := st.chunks)
  refine callA_of (pSlots_spec b.pk o) fun v2 h2 ⟨T2, g2, s2⟩ f2 => ?_
  have rf2 := b.rf.frame s2 (by simp) (by simp)
  refine callA_of (xSlots_spec rf2 o) fun v3 h3 ⟨T3, g3, s3⟩ f3 => ?_
  refine callA_of (sameS_spec (g2.frame s3 (by simp)).sl g3.sl (by simp; omega)) fun _ h4 ⟨e, e4⟩ f4 => ?_
  subst e e4
  simp only [decide_true]
  exact hK h4 f4 (s2.drop.trans s3.drop)
/-- PackPlays: true. -/
theorem PackPlays_top {h : Hp} (n s : Int) (id : Nat) (hn : -9223372036854775808 ≤ n ∧ n ≤ 9223372036854775807) (hid : id < 4294967296) {v : Value} {os : List POp} (hx : ExtSl w0 5 v os.length (os.flatMap POp.e)) (hok : ∀ o, o ∈ os → (dPOp w0).ok o ∧ o.bs.length ≤ 1000000000) (hos : os.length ≤ 1000000000) :
    ACalls prog w0 n_deduplaw13_PackPlays [.int .i64 n, .int .i64 s, .int .u32 id, v] h fun r h' => r = .bool true := by
  obtain ⟨av, cv, hv, -⟩ := hx.sl
  refine ACalls.of_fit (by rw [hv]; simp) fun f => c_deduplaw13_PackPlays (by rw [hv]; simp) ?_
  simp only [s_deduplaw13_PackPlays]
  refine callA_of lives_spec fun v1 h1 ⟨e, s1⟩ f1 => ?_
  subst e
  simp only [lenSl_slice, lenStr_string, str_size, fpureA_some, fnilA_ptr, faddA_ptr, addr_add, Nat.zero_add, Nat.add_zero, fpureQ_k, fpureQ_nilA, fpureQ_addA, fpureQ_pureA, fpureQ_guardA, fpureQ_idxSlA, fpureQ_pickA, freadQ_loadA, freadQ_loadNA, freadQ_b2sA, freadQ_guardA, freadQ_slSlA, freadQ_k, fendA, fallA_one, fstillA_nil, fguardA_tt, fguardA_ff, fguardA_tf, fguardA_ft, fguardA_undef, fpickA_true, fpickA_false, fcondA_true, fcondA_false, binA_add, binA_sub, binA_mul, binA_eql, binA_neq, binA_lss, binA_leq, binA_gtr, binA_geq, unA_not, Bool.not_true, Bool.not_false, convA_int, extA_tuple, List.getElem?_toArray, List.getElem?_cons_zero, List.getElem?_cons_succ]
  refine callA_of (pNew_spec n s id hn hid) fun v2 h2 ⟨gt, gf⟩ f2 => ?_
  cases hj : pfits n s with
  | false =>
    obtain ⟨e, e2⟩ := gf hj
    subst e e2
    simp only [lenSl_slice, lenStr_string, str_size, fpureA_some, fnilA_ptr, faddA_ptr, addr_add, Nat.zero_add, Nat.add_zero, fpureQ_k, fpureQ_nilA, fpureQ_addA, fpureQ_pureA, fpureQ_guardA, fpureQ_idxSlA, fpureQ_pickA, freadQ_loadA, freadQ_loadNA, freadQ_b2sA, freadQ_guardA, freadQ_slSlA, freadQ_k, fendA, fallA_one, fstillA_nil, fguardA_tt, fguardA_ff, fguardA_tf, fguardA_ft, fguardA_undef, fpickA_true, fpickA_false, fcondA_true, fcondA_false, binA_add, binA_sub, binA_mul, binA_eql, binA_neq, binA_lss, binA_leq, binA_gtr, binA_geq, unA_not, Bool.not_true, Bool.not_false, convA_int, extA_tuple, List.getElem?_toArray, List.getElem?_cons_zero, List.getElem?_cons_succ]
    refine callA_of (xNew_spec n s id hn) fun v3 h3 ⟨gt3, gf3⟩ f3 => ?_
    obtain ⟨e, e3⟩ := gf3 hj
    subst e e3
    simp only [lenSl_slice, lenStr_string, str_size, fpureA_some, fnilA_ptr, faddA_ptr, addr_add, Nat.zero_add, Nat.add_zero, fpureQ_k, fpureQ_nilA, fpureQ_addA, fpureQ_pureA, fpureQ_guardA, fpureQ_idxSlA, fpureQ_pickA, freadQ_loadA, freadQ_loadNA, freadQ_b2sA, freadQ_guardA, freadQ_slSlA, freadQ_k, fendA, fallA_one, fstillA_nil, fguardA_tt, fguardA_ff, fguardA_tf, fguardA_ft, fguardA_undef, fpickA_true, fpickA_false, fcondA_true, fcondA_false, binA_add, binA_sub, binA_mul, binA_eql, binA_neq, binA_lss, binA_leq, binA_gtr, binA_geq, unA_not, Bool.not_true, Bool.not_false, convA_int, extA_tuple, List.getElem?_toArray, List.getElem?_cons_zero, List.getElem?_cons_succ, bne_self_eq_false, binPtrA_eql0, binBoolA_neq, beq_self_eq_true, retA_iff, oneOf_one]
    simp
  | true =>
    obtain ⟨p, Sp, e, w2, s2⟩ := gt hj
    subst e
    simp only [lenSl_slice, lenStr_string, str_size, fpureA_some, fnilA_ptr, faddA_ptr, addr_add, Nat.zero_add, Nat.add_zero, fpureQ_k, fpureQ_nilA, fpureQ_addA, fpureQ_pureA, fpureQ_guardA, fpureQ_idxSlA, fpureQ_pickA, freadQ_loadA, freadQ_loadNA, freadQ_b2sA, freadQ_guardA, freadQ_slSlA, freadQ_k, fendA, fallA_one, fstillA_nil, fguardA_tt, fguardA_ff, fguardA_tf, fguardA_ft, fguardA_undef, fpickA_true, fpickA_false, fcondA_true, fcondA_false, binA_add, binA_sub, binA_mul, binA_eql, binA_neq, binA_lss, binA_leq, binA_gtr, binA_geq, unA_not, Bool.not_true, Bool.not_false, convA_int, extA_tuple, List.getElem?_toArray, List.getElem?_cons_zero, List.getElem?_cons_succ]
    refine callA_of (xNew_spec n s id hn) fun v3 h3 ⟨gt3, gf3⟩ f3 => ?_
    obtain ⟨x, Sx, e, w3, s3⟩ := gt3 hj
    subst e
    have o0 := PS.Ok.new (id := id) hj hid
    have B0 : Both w0 h3 p x (PS.new n s id) Sp Sx [] := ⟨w2.frame s3 (by simp), w3, fun c hc he => by
      have := (w2.lts c hc).2
      rcases (s3.own c he).2 with g | g
      · simp at g
      · omega, by simp⟩
    simp only [lenSl_slice, lenStr_string, str_size, fpureA_some, fnilA_ptr, faddA_ptr, addr_add, Nat.zero_add, Nat.add_zero, fpureQ_k, fpureQ_nilA, fpureQ_addA, fpureQ_pureA, fpureQ_guardA, fpureQ_idxSlA, fpureQ_pickA, freadQ_loadA, freadQ_loadNA, freadQ_b2sA, freadQ_guardA, freadQ_slSlA, freadQ_k, fendA, fallA_one, fstillA_nil, fguardA_tt, fguardA_ff, fguardA_tf, fguardA_ft, fguardA_undef, fpickA_true, fpickA_false, fcondA_true, fcondA_false, binA_add, binA_sub, binA_mul, binA_eql, binA_neq, binA_lss, binA_leq, binA_gtr, binA_geq, unA_not, Bool.not_true, Bool.not_false, convA_int, extA_tuple, List.getElem?_toArray, List.getElem?_cons_zero, List.getElem?_cons_succ, bne_self_eq_false, binPtr_ptr, binBoolA_neq, beq_self_eq_true]
    refine ⟨os.length + 1, plays_loop hx hok hos os [] h3 _ _ _ _ _ rfl f3 B0 o0 fun h4 p4 st S4 X4 R4 f4 w4 o4 => ?_⟩
    refine both_image w4 o4 fun h5 f5 s5 => ?_
    simp only [lenSl_slice, lenStr_string, str_size, fpureA_some, fnilA_ptr, faddA_ptr, addr_add, Nat.zero_add, Nat.add_zero, fpureQ_k, fpureQ_nilA, fpureQ_addA, fpureQ_pureA, fpureQ_guardA, fpureQ_idxSlA, fpureQ_pickA, freadQ_loadA, freadQ_loadNA, freadQ_b2sA, freadQ_guardA, freadQ_slSlA, freadQ_k, fendA, fallA_one, fstillA_nil, fguardA_tt, fguardA_ff, fguardA_tf, fguardA_ft, fguardA_undef, fpickA_true, fpickA_false, fcondA_true, fcondA_false, binA_add, binA_sub, binA_mul, binA_eql, binA_neq, binA_lss, binA_leq, binA_gtr, binA_geq, unA_not, Bool.not_true, Bool.not_false, convA_int, extA_tuple, List.getElem?_toArray, List.getElem?_cons_zero, List.getElem?_cons_succ]
    refine both_slots (w4.frame s5 (by simp) (by simp) (by simp)) o4 fun h6 f6 s6 => ?_
    simp only [lenSl_slice, lenStr_string, str_size, fpureA_some, fnilA_ptr, faddA_ptr, addr_add, Nat.zero_add, Nat.add_zero, fpureQ_k, fpureQ_nilA, fpureQ_addA, fpureQ_pureA, fpureQ_guardA, fpureQ_idxSlA, fpureQ_pickA, freadQ_loadA, freadQ_loadNA, freadQ_b2sA, freadQ_guardA, freadQ_slSlA, freadQ_k, fendA, fallA_one, fstillA_nil, fguardA_tt, fguardA_ff, fguardA_tf, fguardA_ft, fguardA_undef, fpickA_true, fpickA_false, fcondA_true, fcondA_false, binA_add, binA_sub, binA_mul, binA_eql, binA_neq, binA_lss, binA_leq, binA_gtr, binA_geq, unA_not, Bool.not_true, Bool.not_false, convA_int, extA_tuple, List.getElem?_toArray, List.getElem?_cons_zero, List.getElem?_cons_succ]
    refine both_take ((w4.frame s5 (by simp) (by simp) (by simp)).frame s6 (by simp) (by simp) (by simp)) o4 fun h7 f7 a7 => ?_
    simp
end
end Go.Proofs.Ytfhamcobfpmgbaa.Ah
