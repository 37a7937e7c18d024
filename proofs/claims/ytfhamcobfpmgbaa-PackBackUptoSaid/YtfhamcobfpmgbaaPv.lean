/- A call on both; PackPlays, PackForks. -/
import Derived.Test.YtfhamcobfpmgbaaPu
set_option linter.unusedVariables false
set_option linter.unusedSimpArgs false
namespace Go.Proofs.Ytfhamcobfpmgbaa.Ah
open Go

/-- A call. -/
structure POp where
  k : Int
  n : Int
  v : Value
  bs : List UInt8
  o : Int
  m : Int
def POp.e (p : POp) : List Value := [.int .i64 p.k, .int .i64 p.n, p.v, .int .i64 p.o, .int .i64 p.m]
def i64R (n : Int) : Prop := -9223372036854775808 ≤ n ∧ n ≤ 9223372036854775807
def dPOp (w0 : World) : Dec POp := ⟨POp.e, fun p => i64R p.k ∧ i64R p.n ∧ ExtSl w0 1 p.v p.bs.length (bvs p.bs) ∧ i64R p.o ∧ i64R p.m, fun p => p.bs.length + 1⟩
def PS.doit (st : PS) (op : POp) : PS :=
  if op.k = 1 then (st.append op.bs).2 else if op.k = 3 then st.take else if op.k = 7 then st.seal.2 else if op.k = 8 then (st.back op.n).2 else st
theorem PS.Ok.doit {st : PS} (o : st.Ok) (op : POp) : (st.doit op).Ok := by
  unfold PS.doit
  split
  · exact o.append _
  split
  · exact o.take
  split
  · exact o.seal
  split
  · exact o.back _
  · exact o
section
variable {w0 : World} {h : Hp} {p x : Nat} {st : PS} {Sp Sx R : List Nat}
/-- Both hold the same, apart from each other. -/
structure Both (w0 : World) (h : Hp) (p x : Nat) (st : PS) (Sp Sx R : List Nat) : Prop where
  pk : Pk w0 h p st Sp
  rf : Rf w0 h x st Sx R
  d1 : ∀ b, b ∈ Sp → b ∉ Sx
  d2 : ∀ b, b ∈ Sp → b ∉ R
theorem Both.frame {h' : Hp} {T T' : List Nat} (b : Both w0 h p x st Sp Sx R) (s : Step h h' T T') (h1 : ∀ c, c ∈ Sp → c ∉ T) (h2 : ∀ c, c ∈ Sx → c ∉ T) (h3 : ∀ c, c ∈ R → c ∉ T) : Both w0 h' p x st Sp Sx R :=
  ⟨b.pk.frame s h1, b.rf.frame s h2 h3, b.d1, b.d2⟩
theorem Both.lts (b : Both w0 h p x st Sp Sx R) : ∀ c, c ∈ Sp ++ Sx → c < h.next := fun c hc => by
  rcases List.mem_append.1 hc with e | e
  · exact (b.pk.lts c e).2
  · exact (b.rf.lts c e).2
theorem Both.two {st' : PS} {h1 h2 : Hp} {Sp' Sx' R' : List Nat} (b : Both w0 h p x st Sp Sx R) (w1 : Pk w0 h1 p st' Sp') (s1 : Step h h1 Sp Sp') (w2 : Rf w0 h2 x st' Sx' R') (s2 : Step h1 h2 Sx Sx') (hR : ∀ c, c ∈ R' → c ∈ R ∨ h1.next ≤ c) :
    Both w0 h2 p x st' Sp' Sx' R' ∧ Step h h2 (Sp ++ Sx) (Sp' ++ Sx') ∧ ∀ c, c ∈ R' → c ∈ R ∨ h.next ≤ c := by
  have hx := fun c hc => (b.rf.lts c hc).2
  have hr := fun c hc => (b.rf.ltr c hc).2
  have d1 : ∀ c, c ∈ Sp' → c ∉ Sx := fun c hc he => by
    rcases (s1.own c hc).2 with g | g
    · exact b.d1 c g he
    · have := hx c he; omega
  refine ⟨⟨w1.frame s2 d1, w2, fun c hc he => ?_, fun c hc he => ?_⟩, ?_, fun c hc => ?_⟩
  · rcases (s2.own c he).2 with g | g
    · exact d1 c hc g
    · have := (w1.lts c hc).2; omega
  · rcases hR c he with g | g
    · rcases (s1.own c hc).2 with k | k
      · exact b.d2 c k g
      · have := hr c g; omega
    · have := (w1.lts c hc).2; omega
  · have a1 : Step h h1 (Sp ++ Sx) (Sp' ++ Sx) := s1.wide (fun c hc => by simp [hc]) fun c hc => by
      rcases List.mem_append.1 hc with e | e
      · exact .inl e
      · exact .inr ⟨by simp [e], hx c e⟩
    exact a1.trans (s2.wide (fun c hc => by simp [hc]) fun c hc => by
      rcases List.mem_append.1 hc with e | e
      · exact .inr ⟨by simp [e], (w1.lts c e).2⟩
      · exact .inl e)
  · rcases hR c hc with g | g
    · exact .inl g
    · have := s1.next; right; omega
/-- What a call on both leaves. -/
def After (w0 : World) (h h' : Hp) (p x : Nat) (st' : PS) (Sp Sx R : List Nat) : Prop :=
  ∃ Sp' Sx' R', Both w0 h' p x st' Sp' Sx' R' ∧ Step h h' (Sp ++ Sx) (Sp' ++ Sx') ∧ ∀ c, c ∈ R' → c ∈ R ∨ h.next ≤ c
theorem Both.idle {h' : Hp} {T : List Nat} (b : Both w0 h p x st Sp Sx R) (s : Step h h' [] T) : After w0 h h' p x st Sp Sx R :=
  ⟨Sp, Sx, R, b.frame s (by simp) (by simp) (by simp), s.idle _ b.lts, fun c hc => .inl hc⟩
/-- What came before touches neither. -/
theorem After.pre {h0 h1 : Hp} {T : List Nat} {st' : PS} (s0 : Step h0 h [] T) (a : After w0 h h1 p x st' Sp Sx R) (hlt : ∀ c, c ∈ Sp ++ Sx → c < h0.next) : After w0 h0 h1 p x st' Sp Sx R := by
  obtain ⟨Sp', Sx', R', b, s, hR⟩ := a
  refine ⟨Sp', Sx', R', b, (s0.idle _ hlt).trans s, fun c hc => ?_⟩
  rcases hR c hc with g | g
  · exact .inl g
  · have := s0.next; right; omega
/-- What is new may be written over. -/
theorem Step.after {h h1 h2 : Hp} {S S' T T' : List Nat} (s : Step h h1 S S') (t : Step h1 h2 T T') (hT : ∀ c, c ∈ T → h.next ≤ c) : Step h h2 S S' := by
  refine ⟨Nat.le_trans s.next t.next, fun c hc hn => ?_, fun c hc => ⟨Nat.lt_of_lt_of_le (s.own c hc).1 t.next, (s.own c hc).2⟩⟩
  have k1 := s.keep c hc hn
  have k2 := t.keep c (Nat.lt_of_lt_of_le hc s.next) (fun he => by have := hT c he; omega)
  exact ⟨k2.1.trans k1.1, k2.2.trans k1.2⟩
/-- Bytes of one's own are counted up. -/
theorem incr1_loop {K : Hp → Prop} {v : Value} {r : List UInt8} {T : List Nat} (hl : r.length ≤ 1000000000) : ∀ (m j : Nat) (h' : Hp) (c : List UInt8), j + m = r.length → c.length = r.length → GV w0 h' 1 v r.length (bvs c) T → (∀ h2, Step h' h2 T [] → K h2) →
    deduplaw13_step_L1 prog w0 K (m + 1) v (.int .i64 (j : Int)) h' := by
  intro m
  induction m with
  | zero =>
    intro j h' c hj hc g hk
    obtain ⟨a, cc, hvs⟩ := g.slice
    have hlv : lenSl v = some (.int .i64 r.length) := by rw [hvs]; rfl
    have : j = r.length := by omega
    subst this
    rw [deduplaw13_step_L1]
    simp only [deduplaw13_step_B1, hlv, lenSl_slice, lenStr_string, str_size, fpureA_some, fnilA_ptr, faddA_ptr, addr_add, Nat.zero_add, Nat.add_zero, fpureQ_k, fpureQ_nilA, fpureQ_addA, fpureQ_pureA, fpureQ_guardA, fpureQ_idxSlA, fpureQ_pickA, freadQ_loadA, freadQ_loadNA, freadQ_b2sA, freadQ_guardA, freadQ_slSlA, freadQ_k, fendA, fallA_one, fstillA_nil, fguardA_tt, fguardA_ff, fguardA_tf, fguardA_ft, fguardA_undef, fpickA_true, fpickA_false, fcondA_true, fcondA_false, binA_add, binA_sub, binA_mul, binA_eql, binA_neq, binA_lss, binA_leq, binA_gtr, binA_geq, unA_not, Bool.not_true, Bool.not_false, convA_int, extA_tuple, List.getElem?_toArray, List.getElem?_cons_zero, List.getElem?_cons_succ, Int.lt_irrefl, decide_false]
    exact hk h' g.refl.drop
  | succ m ih =>
    intro j h' c hj hc g hk
    obtain ⟨a, cc, hvs⟩ := g.slice
    have hlv : lenSl v = some (.int .i64 r.length) := by rw [hvs]; rfl
    have c1 : decide ((j : Int) < (r.length : Int)) = true := decide_eq_true (by omega)
    have e5 : IntKind.i64.wrap ((j : Int) + 1) = ((j + 1 : Nat) : Int) := by rw [IntWalk.i64_in _ (by omega)]; simp
    obtain ⟨b, hb⟩ : ∃ b, c[j]? = some b := ⟨c[j], by simp [show j < c.length by omega]⟩
    have hbv : (bvs c)[j]? = some (.int .u8 (b.toNat : Int)) := by rw [bvs_get, hb]; rfl
    have hw : (.int .u8 (IntKind.u8.wrap ((b.toNat : Int) + 1)) : Value) = bv (UInt8.ofNat (b.toNat + 1)) := by
      have := wrap_u8_nat (b.toNat + 1)
      simpa using this
    rw [deduplaw13_step_L1]
    simp only [deduplaw13_step_B1, hlv, lenSl_slice, lenStr_string, str_size, fpureA_some, fnilA_ptr, faddA_ptr, addr_add, Nat.zero_add, Nat.add_zero, fpureQ_k, fpureQ_nilA, fpureQ_addA, fpureQ_pureA, fpureQ_guardA, fpureQ_idxSlA, fpureQ_pickA, freadQ_loadA, freadQ_loadNA, freadQ_b2sA, freadQ_guardA, freadQ_slSlA, freadQ_k, fendA, fallA_one, fstillA_nil, fguardA_tt, fguardA_ff, fguardA_tf, fguardA_ft, fguardA_undef, fpickA_true, fpickA_false, fcondA_true, fcondA_false, binA_add, binA_sub, binA_mul, binA_eql, binA_neq, binA_lss, binA_leq, binA_gtr, binA_geq, unA_not, Bool.not_true, Bool.not_false, convA_int, extA_tuple, List.getElem?_toArray, List.getElem?_cons_zero, List.getElem?_cons_succ, c1]
    refine g.idx (by omega) fun q1 hq1 hB1 hb1 => ?_
    rw [Nat.mul_one]
    refine loadA_at hB1 hb1 hbv ?_
    simp only [lenSl_slice, lenStr_string, str_size, fpureA_some, fnilA_ptr, faddA_ptr, addr_add, Nat.zero_add, Nat.add_zero, fpureQ_k, fpureQ_nilA, fpureQ_addA, fpureQ_pureA, fpureQ_guardA, fpureQ_idxSlA, fpureQ_pickA, freadQ_loadA, freadQ_loadNA, freadQ_b2sA, freadQ_guardA, freadQ_slSlA, freadQ_k, fendA, fallA_one, fstillA_nil, fguardA_tt, fguardA_ff, fguardA_tf, fguardA_ft, fguardA_undef, fpickA_true, fpickA_false, fcondA_true, fcondA_false, binA_add, binA_sub, binA_mul, binA_eql, binA_neq, binA_lss, binA_leq, binA_gtr, binA_geq, unA_not, Bool.not_true, Bool.not_false, convA_int, extA_tuple, List.getElem?_toArray, List.getElem?_cons_zero, List.getElem?_cons_succ, hw]
    refine g.idx (by omega) fun q3 hq3 hB3 hb3 => ?_
    rw [Nat.mul_one]
    refine storeA_at hB3 hb3 (by simp; omega) rfl ?_
    have hset : (bvs c).set j (bv (UInt8.ofNat (b.toNat + 1))) = bvs (c.set j (UInt8.ofNat (b.toNat + 1))) := by simp [bvs, List.map_set]
    rw [hset]
    have s2 : Step h' (h'.put q3 (bvs (c.set j (UInt8.ofNat (b.toNat + 1))))) T T := g.refl.put hq3 _
    have g' := g.write (q := q3) (cs' := bvs (c.set j (UInt8.ofNat (b.toNat + 1)))) hq3 (by simp)
    simp only [e5]
    exact ih (j + 1) _ _ (by omega) (by simpa using hc) g' (fun h2 s => hk h2 (s2.trans s))
theorem incr2_loop {K : Value → Hp → Prop} {ok v : Value} {r : List UInt8} {T : List Nat} (hl : r.length ≤ 1000000000) : ∀ (m j : Nat) (h' : Hp) (c : List UInt8), j + m = r.length → c.length = r.length → GV w0 h' 1 v r.length (bvs c) T → (∀ h2, Step h' h2 T [] → K ok h2) →
    deduplaw13_step_L2 prog w0 K (m + 1) v ok (.int .i64 (j : Int)) h' := by
  intro m
  induction m with
  | zero =>
    intro j h' c hj hc g hk
    obtain ⟨a, cc, hvs⟩ := g.slice
    have hlv : lenSl v = some (.int .i64 r.length) := by rw [hvs]; rfl
    have : j = r.length := by omega
    subst this
    rw [deduplaw13_step_L2]
    simp only [deduplaw13_step_B2, hlv, lenSl_slice, lenStr_string, str_size, fpureA_some, fnilA_ptr, faddA_ptr, addr_add, Nat.zero_add, Nat.add_zero, fpureQ_k, fpureQ_nilA, fpureQ_addA, fpureQ_pureA, fpureQ_guardA, fpureQ_idxSlA, fpureQ_pickA, freadQ_loadA, freadQ_loadNA, freadQ_b2sA, freadQ_guardA, freadQ_slSlA, freadQ_k, fendA, fallA_one, fstillA_nil, fguardA_tt, fguardA_ff, fguardA_tf, fguardA_ft, fguardA_undef, fpickA_true, fpickA_false, fcondA_true, fcondA_false, binA_add, binA_sub, binA_mul, binA_eql, binA_neq, binA_lss, binA_leq, binA_gtr, binA_geq, unA_not, Bool.not_true, Bool.not_false, convA_int, extA_tuple, List.getElem?_toArray, List.getElem?_cons_zero, List.getElem?_cons_succ, Int.lt_irrefl, decide_false]
    exact hk h' g.refl.drop
  | succ m ih =>
    intro j h' c hj hc g hk
    obtain ⟨a, cc, hvs⟩ := g.slice
    have hlv : lenSl v = some (.int .i64 r.length) := by rw [hvs]; rfl
    have c1 : decide ((j : Int) < (r.length : Int)) = true := decide_eq_true (by omega)
    have e5 : IntKind.i64.wrap ((j : Int) + 1) = ((j + 1 : Nat) : Int) := by rw [IntWalk.i64_in _ (by omega)]; simp
    obtain ⟨b, hb⟩ : ∃ b, c[j]? = some b := ⟨c[j], by simp [show j < c.length by omega]⟩
    have hbv : (bvs c)[j]? = some (.int .u8 (b.toNat : Int)) := by rw [bvs_get, hb]; rfl
    have hw : (.int .u8 (IntKind.u8.wrap ((b.toNat : Int) + 1)) : Value) = bv (UInt8.ofNat (b.toNat + 1)) := by
      have := wrap_u8_nat (b.toNat + 1)
      simpa using this
    rw [deduplaw13_step_L2]
    simp only [deduplaw13_step_B2, hlv, lenSl_slice, lenStr_string, str_size, fpureA_some, fnilA_ptr, faddA_ptr, addr_add, Nat.zero_add, Nat.add_zero, fpureQ_k, fpureQ_nilA, fpureQ_addA, fpureQ_pureA, fpureQ_guardA, fpureQ_idxSlA, fpureQ_pickA, freadQ_loadA, freadQ_loadNA, freadQ_b2sA, freadQ_guardA, freadQ_slSlA, freadQ_k, fendA, fallA_one, fstillA_nil, fguardA_tt, fguardA_ff, fguardA_tf, fguardA_ft, fguardA_undef, fpickA_true, fpickA_false, fcondA_true, fcondA_false, binA_add, binA_sub, binA_mul, binA_eql, binA_neq, binA_lss, binA_leq, binA_gtr, binA_geq, unA_not, Bool.not_true, Bool.not_false, convA_int, extA_tuple, List.getElem?_toArray, List.getElem?_cons_zero, List.getElem?_cons_succ, c1]
    refine g.idx (by omega) fun q1 hq1 hB1 hb1 => ?_
    rw [Nat.mul_one]
    refine loadA_at hB1 hb1 hbv ?_
    simp only [lenSl_slice, lenStr_string, str_size, fpureA_some, fnilA_ptr, faddA_ptr, addr_add, Nat.zero_add, Nat.add_zero, fpureQ_k, fpureQ_nilA, fpureQ_addA, fpureQ_pureA, fpureQ_guardA, fpureQ_idxSlA, fpureQ_pickA, freadQ_loadA, freadQ_loadNA, freadQ_b2sA, freadQ_guardA, freadQ_slSlA, freadQ_k, fendA, fallA_one, fstillA_nil, fguardA_tt, fguardA_ff, fguardA_tf, fguardA_ft, fguardA_undef, fpickA_true, fpickA_false, fcondA_true, fcondA_false, binA_add, binA_sub, binA_mul, binA_eql, binA_neq, binA_lss, binA_leq, binA_gtr, binA_geq, unA_not, Bool.not_true, Bool.not_false, convA_int, extA_tuple, List.getElem?_toArray, List.getElem?_cons_zero, List.getElem?_cons_succ, hw]
    refine g.idx (by omega) fun q3 hq3 hB3 hb3 => ?_
    rw [Nat.mul_one]
    refine storeA_at hB3 hb3 (by simp; omega) rfl ?_
    have hset : (bvs c).set j (bv (UInt8.ofNat (b.toNat + 1))) = bvs (c.set j (UInt8.ofNat (b.toNat + 1))) := by simp [bvs, List.map_set]
    rw [hset]
    have s2 : Step h' (h'.put q3 (bvs (c.set j (UInt8.ofNat (b.toNat + 1))))) T T := g.refl.put hq3 _
    have g' := g.write (q := q3) (cs' := bvs (c.set j (UInt8.ofNat (b.toNat + 1)))) hq3 (by simp)
    simp only [e5]
    exact ih (j + 1) _ _ (by omega) (by simpa using hc) g' (fun h2 s => hk h2 (s2.trans s))
theorem secs_len (st : PS) (o : st.Ok) : ∀ (m k : Nat), k + m = st.count → (st.secs k m).length ≤ m ∧ ∀ q, q ∈ st.secs k m → q.2.length = st.size := by
  intro m
  induction m with
  | zero => intro k _; simp [PS.secs]
  | succ m ih =>
    intro k hk
    obtain ⟨a, b⟩ := ih (k + 1) (by omega)
    have hs := secAt_length o (show k < st.count by omega) o.image
    simp only [PS.secs]
    cases st.parted k with
    | false => simp; exact ⟨by omega, fun q1 q2 hq => b (q1, q2) hq⟩
    | true =>
      simp only [if_true, List.singleton_append, List.length_cons, List.mem_cons]
      refine ⟨by omega, fun q hq => ?_⟩
      rcases hq with rfl | hq
      · exact hs
      · exact b q hq
theorem step_spec (b : Both w0 h p x st Sp Sx R) (o : st.Ok) (op : POp) (hop : (dPOp w0).ok op) (hbl : op.bs.length ≤ 1000000000) :
    ACalls prog w0 n_deduplaw13_step [ptr p, ptr x, .agg op.e.toArray] h fun r h' => r = .bool true ∧ After w0 h h' p x (st.doit op) Sp Sx R := by
  refine ACalls.of_fit (by simp [ptr]) fun f => c_deduplaw13_step (by simp [ptr]) ?_
  obtain ⟨hk, hn, hx, ho, hm⟩ := hop
  obtain ⟨av, cv, hv, hv1, hv2⟩ := hx.sl
  have hby := o.bytes
  have hr := o.room
  have hct := o.count
  have hsz := o.size
  have hcl := chunks_le (cs := st.chunks)
  have hlt := b.lts
  simp only [s_deduplaw13_step, boxA_agg, List.toList_toArray, lenSl_slice, lenStr_string, str_size, fpureA_some, fnilA_ptr, faddA_ptr, addr_add, Nat.zero_add, Nat.add_zero, fpureQ_k, fpureQ_nilA, fpureQ_addA, fpureQ_pureA, fpureQ_guardA, fpureQ_idxSlA, fpureQ_pickA, freadQ_loadA, freadQ_loadNA, freadQ_b2sA, freadQ_guardA, freadQ_slSlA, freadQ_k, fendA, fallA_one, fstillA_nil, fguardA_tt, fguardA_ff, fguardA_tf, fguardA_ft, fguardA_undef, fpickA_true, fpickA_false, fcondA_true, fcondA_false, binA_add, binA_sub, binA_mul, binA_eql, binA_neq, binA_lss, binA_leq, binA_gtr, binA_geq, unA_not, Bool.not_true, Bool.not_false, convA_int, extA_tuple, List.getElem?_toArray, List.getElem?_cons_zero, List.getElem?_cons_succ]
  have s1 : Step h (h.new op.e 5) [] [h.next] := (Step.refl h [] (by simp)).new _ _
  have hq1 : (h.new op.e 5).blk h.next = some op.e := by simp
  have hl1 : h.next < (h.new op.e 5).next := by simp
  have f1 : Fit w0 (h.new op.e 5) := f.new (by
    intro v hv'
    simp only [POp.e, List.mem_cons, List.not_mem_nil, or_false] at hv'
    rcases hv' with rfl | rfl | rfl | rfl | rfl <;> first | rfl | (rw [hv]; rfl))
  have b1 := b.frame s1 (by simp) (by simp) (by simp)
  generalize h.new op.e 5 = h1 at s1 hq1 hl1 f1 b1 ⊢
  have hB := f.base
  have extB : ∀ {h' : Hp}, Fit w0 h' → Bs w0 h' op.v op.bs := fun f' => hx.sl' f' (by simp)
  have hS1 : ∀ c, c ∈ Sp ++ Sx → c < h1.next := fun c hc => by have := hlt c hc; have := s1.next; omega
  -- nothing more is touched
  have done : ∀ {h2 : Hp}, After w0 h1 h2 p x (st.doit op) Sp Sx R → After w0 h h2 p x (st.doit op) Sp Sx R := fun a =>
    After.pre s1 a hlt
  refine loadA_at hB hq1 (by rfl) ?_
  simp only [lenSl_slice, lenStr_string, str_size, fpureA_some, fnilA_ptr, faddA_ptr, addr_add, Nat.zero_add, Nat.add_zero, fpureQ_k, fpureQ_nilA, fpureQ_addA, fpureQ_pureA, fpureQ_guardA, fpureQ_idxSlA, fpureQ_pickA, freadQ_loadA, freadQ_loadNA, freadQ_b2sA, freadQ_guardA, freadQ_slSlA, freadQ_k, fendA, fallA_one, fstillA_nil, fguardA_tt, fguardA_ff, fguardA_tf, fguardA_ft, fguardA_undef, fpickA_true, fpickA_false, fcondA_true, fcondA_false, binA_add, binA_sub, binA_mul, binA_eql, binA_neq, binA_lss, binA_leq, binA_gtr, binA_geq, unA_not, Bool.not_true, Bool.not_false, convA_int, extA_tuple, List.getElem?_toArray, List.getElem?_cons_zero, List.getElem?_cons_succ]
  by_cases k1 : op.k = 1
  · have c1 : (op.k == 1) = true := beq_iff_eq.2 k1
    have hdo : st.doit op = (st.append op.bs).2 := by unfold PS.doit; rw [if_pos k1]
    have hz : zerosL [(.int .u8 0 : Value)] 0 = [] := rfl
    simp only [c1, lenSl_slice, lenStr_string, str_size, fpureA_some, fnilA_ptr, faddA_ptr, addr_add, Nat.zero_add, Nat.add_zero, fpureQ_k, fpureQ_nilA, fpureQ_addA, fpureQ_pureA, fpureQ_guardA, fpureQ_idxSlA, fpureQ_pickA, freadQ_loadA, freadQ_loadNA, freadQ_b2sA, freadQ_guardA, freadQ_slSlA, freadQ_k, fendA, fallA_one, fstillA_nil, fguardA_tt, fguardA_ff, fguardA_tf, fguardA_ft, fguardA_undef, fpickA_true, fpickA_false, fcondA_true, fcondA_false, binA_add, binA_sub, binA_mul, binA_eql, binA_neq, binA_lss, binA_leq, binA_gtr, binA_geq, unA_not, Bool.not_true, Bool.not_false, convA_int, extA_tuple, List.getElem?_toArray, List.getElem?_cons_zero, List.getElem?_cons_succ, bslA_iff, fillA_nil, hz]
    have s2 : Step h1 (h1.new [] 1) [] [h1.next] := (Step.refl h1 [] (by simp)).new _ _
    have g2 : GV w0 (h1.new [] 1) 1 (.slice (some ⟨h1.next, 0, none⟩) 0 0) ([] : List UInt8).length (bvs []) [h1.next] := GV.new f1.base rfl (by decide)
    have f2 : Fit w0 (h1.new [] 1) := f1.new (by simp)
    generalize h1.new [] 1 = h2 at s2 g2 f2 ⊢
    have hq2 := (s2.keep _ hl1 (by simp)).1.trans hq1
    refine loadA_at hB hq2 (by rfl) ?_
    refine app_bytes f2.base g2 (extB f2) (by simp; omega) fun xo h3 To go s3 => ?_
    rw [List.nil_append] at go
    have t3 : Step h1 h3 [] To := s2.trans s3
    have hTo : ∀ c, c ∈ To → h1.next ≤ c := fun c hc => by rcases (t3.own c hc).2 with g | g; simp at g; exact g
    have hq3 := (t3.keep _ hl1 (by simp)).1.trans hq1
    have b3 := b1.frame t3 (by simp) (by simp) (by simp)
    have hS3 : ∀ c, c ∈ Sp ++ Sx → c < h3.next := b3.lts
    have hl3 : h.next < h3.next := by have := t3.next; omega
    refine callA_of (pAppend_spec b3.pk o (go.sl : Bs w0 h3 xo op.bs) hbl) fun _ h4 ⟨Sp', e, w4, s4⟩ f4 => ?_
    subst e
    have hdo4 : ∀ c, c ∈ To → c ∉ Sp := fun c hc he => by have := hTo c hc; have := hlt c (by simp [he]); have := s1.next; omega
    have go4 := go.frame s4 hdo4
    have hqSp : h.next ∉ Sp := fun e => by have := hlt _ (List.mem_append.2 (.inl e)); omega
    have hqSx : h.next ∉ Sx := fun e => by have := hlt _ (List.mem_append.2 (.inr e)); omega
    have hq4 := (s4.keep _ hl3 hqSp).1.trans hq3
    have rf4 := b3.rf.frame s4 (fun c hc he => b.d1 c he hc) (fun c hc he => b.d2 c he hc)
    simp only [appV, slt, lenSl_slice, lenStr_string, str_size, fpureA_some, fnilA_ptr, faddA_ptr, addr_add, Nat.zero_add, Nat.add_zero, fpureQ_k, fpureQ_nilA, fpureQ_addA, fpureQ_pureA, fpureQ_guardA, fpureQ_idxSlA, fpureQ_pickA, freadQ_loadA, freadQ_loadNA, freadQ_b2sA, freadQ_guardA, freadQ_slSlA, freadQ_k, fendA, fallA_one, fstillA_nil, fguardA_tt, fguardA_ff, fguardA_tf, fguardA_ft, fguardA_undef, fpickA_true, fpickA_false, fcondA_true, fcondA_false, binA_add, binA_sub, binA_mul, binA_eql, binA_neq, binA_lss, binA_leq, binA_gtr, binA_geq, unA_not, Bool.not_true, Bool.not_false, convA_int, extA_tuple, List.getElem?_toArray, List.getElem?_cons_zero, List.getElem?_cons_succ, newA_iff]
    refine ⟨by simp, store2 (cs := [.int .i64 0, .int .i64 0]) f4.base (by simp) rfl ?_⟩
    rw [put_new]
    generalize hres : (st.append op.bs).1 = res at *
    have s5 : Step h4 (h4.new [.int .i64 ((res.1 : Nat) : Int), .int .i64 ((res.2.1 : Nat) : Int)] 2) [] [h4.next] := (Step.refl h4 [] (by simp)).new _ _
    have hr5 : (h4.new [.int .i64 ((res.1 : Nat) : Int), .int .i64 ((res.2.1 : Nat) : Int)] 2).blk h4.next = some [.int .i64 ((res.1 : Nat) : Int), .int .i64 ((res.2.1 : Nat) : Int)] := by simp
    have hlr5 : h4.next < (h4.new [.int .i64 ((res.1 : Nat) : Int), .int .i64 ((res.2.1 : Nat) : Int)] 2).next := by simp
    have f5 : Fit w0 (h4.new [.int .i64 ((res.1 : Nat) : Int), .int .i64 ((res.2.1 : Nat) : Int)] 2) := f4.new (by simp)
    generalize h4.new [.int .i64 ((res.1 : Nat) : Int), .int .i64 ((res.2.1 : Nat) : Int)] 2 = h5 at s5 hr5 hlr5 f5 ⊢
    have hl4 : h.next < h4.next := by have := s4.next; omega
    have hq5 := (s5.keep _ hl4 (by simp)).1.trans hq4
    refine loadA_at hB hq5 (by rfl) ?_
    have rf5 := rf4.frame s5 (by simp) (by simp)
    refine callA_of (xAppend_spec rf5 o (extB f5) hbl) fun _ h6 ⟨Sx', R', e, w6, hR6, s6⟩ f6 => ?_
    subst e
    rw [hres]
    have hSx4 : ∀ c, c ∈ Sx → c < h4.next := fun c hc => (rf4.lts c hc).2
    have hr4Sx : h4.next ∉ Sx := fun e => by have := hSx4 _ e; omega
    have hl5 : h.next < h5.next := by have := s5.next; omega
    have hq6 := (s6.keep _ hl5 hqSx).1.trans hq5
    have hr6 := (s6.keep _ hlr5 hr4Sx).1.trans hr5
    have hToSx : ∀ c, c ∈ To → c ∉ Sx := fun c hc he => by have := hTo c hc; have := hlt c (by simp [he]); have := s1.next; omega
    have go6 := (go4.frame s5 (by simp)).frame s6 hToSx
    simp only [appV, slt, lenSl_slice, lenStr_string, str_size, fpureA_some, fnilA_ptr, faddA_ptr, addr_add, Nat.zero_add, Nat.add_zero, fpureQ_k, fpureQ_nilA, fpureQ_addA, fpureQ_pureA, fpureQ_guardA, fpureQ_idxSlA, fpureQ_pickA, freadQ_loadA, freadQ_loadNA, freadQ_b2sA, freadQ_guardA, freadQ_slSlA, freadQ_k, fendA, fallA_one, fstillA_nil, fguardA_tt, fguardA_ff, fguardA_tf, fguardA_ft, fguardA_undef, fpickA_true, fpickA_false, fcondA_true, fcondA_false, binA_add, binA_sub, binA_mul, binA_eql, binA_neq, binA_lss, binA_leq, binA_gtr, binA_geq, unA_not, Bool.not_true, Bool.not_false, convA_int, extA_tuple, List.getElem?_toArray, List.getElem?_cons_zero, List.getElem?_cons_succ, newA_iff]
    refine ⟨by simp, store2 (cs := [.int .i64 0, .int .i64 0]) f6.base (by simp) rfl ?_⟩
    rw [put_new]
    have s7 : Step h6 (h6.new [.int .i64 ((res.1 : Nat) : Int), .int .i64 ((res.2.1 : Nat) : Int)] 2) [] [h6.next] := (Step.refl h6 [] (by simp)).new _ _
    have hr7 : (h6.new [.int .i64 ((res.1 : Nat) : Int), .int .i64 ((res.2.1 : Nat) : Int)] 2).blk h6.next = some [.int .i64 ((res.1 : Nat) : Int), .int .i64 ((res.2.1 : Nat) : Int)] := by simp
    have f7 : Fit w0 (h6.new [.int .i64 ((res.1 : Nat) : Int), .int .i64 ((res.2.1 : Nat) : Int)] 2) := f6.new (by simp)
    generalize h6.new [.int .i64 ((res.1 : Nat) : Int), .int .i64 ((res.2.1 : Nat) : Int)] 2 = h7 at s7 hr7 f7 ⊢
    have hl6 : h.next < h6.next := by have := s6.next; omega
    have hlr6 : h4.next < h6.next := by have := s6.next; omega
    have hq7 := (s7.keep _ hl6 (by simp)).1.trans hq6
    refine loadNA_whole f4.base ((s7.keep _ hlr6 (by simp)).1.trans hr6) rfl ?_
    refine loadNA_whole f6.base hr7 rfl ?_
    simp only [neSlot w0, beq_self_eq_true, Bool.and_self, lenSl_slice, lenStr_string, str_size, fpureA_some, fnilA_ptr, faddA_ptr, addr_add, Nat.zero_add, Nat.add_zero, fpureQ_k, fpureQ_nilA, fpureQ_addA, fpureQ_pureA, fpureQ_guardA, fpureQ_idxSlA, fpureQ_pickA, freadQ_loadA, freadQ_loadNA, freadQ_b2sA, freadQ_guardA, freadQ_slSlA, freadQ_k, fendA, fallA_one, fstillA_nil, fguardA_tt, fguardA_ff, fguardA_tf, fguardA_ft, fguardA_undef, fpickA_true, fpickA_false, fcondA_true, fcondA_false, binA_add, binA_sub, binA_mul, binA_eql, binA_neq, binA_lss, binA_leq, binA_gtr, binA_geq, unA_not, Bool.not_true, Bool.not_false, convA_int, extA_tuple, List.getElem?_toArray, List.getElem?_cons_zero, List.getElem?_cons_succ, bne_self_eq_false]
    refine loadA_at hB hq7 (by rfl) ?_
    have go7 := go6.frame s7 (by simp)
    refine callA_of (sameB_spec (go7.sl : Bs w0 h7 xo op.bs) (extB f7) hbl) fun _ h8 ⟨e, e8⟩ f8 => ?_
    subst e e8
    simp only [lenSl_slice, lenStr_string, str_size, fpureA_some, fnilA_ptr, faddA_ptr, addr_add, Nat.zero_add, Nat.add_zero, fpureQ_k, fpureQ_nilA, fpureQ_addA, fpureQ_pureA, fpureQ_guardA, fpureQ_idxSlA, fpureQ_pickA, freadQ_loadA, freadQ_loadNA, freadQ_b2sA, freadQ_guardA, freadQ_slSlA, freadQ_k, fendA, fallA_one, fstillA_nil, fguardA_tt, fguardA_ff, fguardA_tf, fguardA_ft, fguardA_undef, fpickA_true, fpickA_false, fcondA_true, fcondA_false, binA_add, binA_sub, binA_mul, binA_eql, binA_neq, binA_lss, binA_leq, binA_gtr, binA_geq, unA_not, Bool.not_true, Bool.not_false, convA_int, extA_tuple, List.getElem?_toArray, List.getElem?_cons_zero, List.getElem?_cons_succ, decide_true]
    refine ⟨op.bs.length + 1, ?_⟩
    refine incr1_loop hbl op.bs.length 0 h8 op.bs (by omega) rfl go7 fun h9 s9 => ?_
    simp only [retA_iff, oneOf_one]
    refine ⟨by simp, by trivial, ?_⟩
    rw [hdo]
    obtain ⟨bb, ss, rr⟩ := b3.two w4 s4 w6 (s5.idle Sx hSx4 |>.trans s6) (fun c hc => by
      rcases hR6 c hc with g | g
      · exact .inl g
      · have := s5.next; right; omega)
    have ss8 : Step h3 h8 (Sp ++ Sx) (Sp' ++ Sx') := ss.trans (s7.idle _ bb.lts)
    have bb8 := bb.frame s7 (by simp) (by simp) (by simp)
    have hTo3 : ∀ c, c ∈ To → c < h3.next := fun c hc => (go.lt c hc).2
    have dS : ∀ c, c ∈ Sp' ++ Sx' → c ∉ To := fun c hc he => by
      rcases (ss.own c hc).2 with g | g
      · have := hTo c he; have := hlt c g; have := s1.next; omega
      · have := hTo3 c he; omega
    have dR : ∀ c, c ∈ R' → c ∉ To := fun c hc he => by
      rcases rr c hc with g | g
      · have := hTo c he; have := (b.rf.ltr c g).2; have := s1.next; omega
      · have := hTo3 c he; omega
    have b9 := bb8.frame s9 (fun c hc => dS c (by simp [hc])) (fun c hc => dS c (by simp [hc])) dR
    refine After.pre s1 ⟨Sp', Sx', R', b9, ((t3.idle (Sp ++ Sx) hS1).trans ss8).after s9 (fun c hc => hTo c hc), fun c hc => ?_⟩ hlt
    rcases rr c hc with g | g
    · exact .inl g
    · have := t3.next; right; omega
  have c1 : (op.k == 1) = false := beq_eq_false_iff_ne.2 k1
  simp only [c1, lenSl_slice, lenStr_string, str_size, fpureA_some, fnilA_ptr, faddA_ptr, addr_add, Nat.zero_add, Nat.add_zero, fpureQ_k, fpureQ_nilA, fpureQ_addA, fpureQ_pureA, fpureQ_guardA, fpureQ_idxSlA, fpureQ_pickA, freadQ_loadA, freadQ_loadNA, freadQ_b2sA, freadQ_guardA, freadQ_slSlA, freadQ_k, fendA, fallA_one, fstillA_nil, fguardA_tt, fguardA_ff, fguardA_tf, fguardA_ft, fguardA_undef, fpickA_true, fpickA_false, fcondA_true, fcondA_false, binA_add, binA_sub, binA_mul, binA_eql, binA_neq, binA_lss, binA_leq, binA_gtr, binA_geq, unA_not, Bool.not_true, Bool.not_false, convA_int, extA_tuple, List.getElem?_toArray, List.getElem?_cons_zero, List.getElem?_cons_succ]
  by_cases k2 : op.k = 2
  · have c2 : (op.k == 2) = true := beq_iff_eq.2 k2
    have hdo : st.doit op = st := by unfold PS.doit; simp [k2]
    simp only [c2, lenSl_slice, lenStr_string, str_size, fpureA_some, fnilA_ptr, faddA_ptr, addr_add, Nat.zero_add, Nat.add_zero, fpureQ_k, fpureQ_nilA, fpureQ_addA, fpureQ_pureA, fpureQ_guardA, fpureQ_idxSlA, fpureQ_pickA, freadQ_loadA, freadQ_loadNA, freadQ_b2sA, freadQ_guardA, freadQ_slSlA, freadQ_k, fendA, fallA_one, fstillA_nil, fguardA_tt, fguardA_ff, fguardA_tf, fguardA_ft, fguardA_undef, fpickA_true, fpickA_false, fcondA_true, fcondA_false, binA_add, binA_sub, binA_mul, binA_eql, binA_neq, binA_lss, binA_leq, binA_gtr, binA_geq, unA_not, Bool.not_true, Bool.not_false, convA_int, extA_tuple, List.getElem?_toArray, List.getElem?_cons_zero, List.getElem?_cons_succ]
    refine callA_of (pLeft_spec b1.pk o) fun _ h2 ⟨e, e2⟩ f2 => ?_
    subst e e2
    refine callA_of (xLeft_spec b1.rf o) fun _ h2 ⟨e, e2⟩ f2' => ?_
    subst e e2
    simp only [lenSl_slice, lenStr_string, str_size, fpureA_some, fnilA_ptr, faddA_ptr, addr_add, Nat.zero_add, Nat.add_zero, fpureQ_k, fpureQ_nilA, fpureQ_addA, fpureQ_pureA, fpureQ_guardA, fpureQ_idxSlA, fpureQ_pickA, freadQ_loadA, freadQ_loadNA, freadQ_b2sA, freadQ_guardA, freadQ_slSlA, freadQ_k, fendA, fallA_one, fstillA_nil, fguardA_tt, fguardA_ff, fguardA_tf, fguardA_ft, fguardA_undef, fpickA_true, fpickA_false, fcondA_true, fcondA_false, binA_add, binA_sub, binA_mul, binA_eql, binA_neq, binA_lss, binA_leq, binA_gtr, binA_geq, unA_not, Bool.not_true, Bool.not_false, convA_int, extA_tuple, List.getElem?_toArray, List.getElem?_cons_zero, List.getElem?_cons_succ, beq_self_eq_true, ptr]
    obtain ⟨xc, xl, vs, B, w, hSx⟩ := b1.rf
    obtain ⟨ac, cc, hxc⟩ := w.vc.slice
    have hlc : lenSl xc = some (.int .i64 st.chunks.length) := by rw [hxc]; rfl
    refine loadA_at w.base w.blk (by rfl) ?_
    simp only [hlc, lenSl_slice, lenStr_string, str_size, fpureA_some, fnilA_ptr, faddA_ptr, addr_add, Nat.zero_add, Nat.add_zero, fpureQ_k, fpureQ_nilA, fpureQ_addA, fpureQ_pureA, fpureQ_guardA, fpureQ_idxSlA, fpureQ_pickA, freadQ_loadA, freadQ_loadNA, freadQ_b2sA, freadQ_guardA, freadQ_slSlA, freadQ_k, fendA, fallA_one, fstillA_nil, fguardA_tt, fguardA_ff, fguardA_tf, fguardA_ft, fguardA_undef, fpickA_true, fpickA_false, fcondA_true, fcondA_false, binA_add, binA_sub, binA_mul, binA_eql, binA_neq, binA_lss, binA_leq, binA_gtr, binA_geq, unA_not, Bool.not_true, Bool.not_false, convA_int, extA_tuple, List.getElem?_toArray, List.getElem?_cons_zero, List.getElem?_cons_succ]
    refine callA_of (pMark_spec b1.pk o) fun _ h2 ⟨e, e2⟩ f2'' => ?_
    subst e e2
    simp only [stillA_iff, allA_cons, allA_one, sameQ_loadA]
    refine ⟨loadA_at w.base w.blk (by rfl) rfl, ?_⟩
    simp only [lenSl_slice, lenStr_string, str_size, fpureA_some, fnilA_ptr, faddA_ptr, addr_add, Nat.zero_add, Nat.add_zero, fpureQ_k, fpureQ_nilA, fpureQ_addA, fpureQ_pureA, fpureQ_guardA, fpureQ_idxSlA, fpureQ_pickA, freadQ_loadA, freadQ_loadNA, freadQ_b2sA, freadQ_guardA, freadQ_slSlA, freadQ_k, fendA, fallA_one, fstillA_nil, fguardA_tt, fguardA_ff, fguardA_tf, fguardA_ft, fguardA_undef, fpickA_true, fpickA_false, fcondA_true, fcondA_false, binA_add, binA_sub, binA_mul, binA_eql, binA_neq, binA_lss, binA_leq, binA_gtr, binA_geq, unA_not, Bool.not_true, Bool.not_false, convA_int, extA_tuple, List.getElem?_toArray, List.getElem?_cons_zero, List.getElem?_cons_succ, beq_self_eq_true, retA_iff, oneOf_one]
    exact ⟨by simp, by trivial, done (by rw [hdo]; exact b1.idle (.refl _ _ (by simp)))⟩
  have c2 : (op.k == 2) = false := beq_eq_false_iff_ne.2 k2
  simp only [c2, lenSl_slice, lenStr_string, str_size, fpureA_some, fnilA_ptr, faddA_ptr, addr_add, Nat.zero_add, Nat.add_zero, fpureQ_k, fpureQ_nilA, fpureQ_addA, fpureQ_pureA, fpureQ_guardA, fpureQ_idxSlA, fpureQ_pickA, freadQ_loadA, freadQ_loadNA, freadQ_b2sA, freadQ_guardA, freadQ_slSlA, freadQ_k, fendA, fallA_one, fstillA_nil, fguardA_tt, fguardA_ff, fguardA_tf, fguardA_ft, fguardA_undef, fpickA_true, fpickA_false, fcondA_true, fcondA_false, binA_add, binA_sub, binA_mul, binA_eql, binA_neq, binA_lss, binA_leq, binA_gtr, binA_geq, unA_not, Bool.not_true, Bool.not_false, convA_int, extA_tuple, List.getElem?_toArray, List.getElem?_cons_zero, List.getElem?_cons_succ]
  by_cases k3 : op.k = 3
  · have c3 : (op.k == 3) = true := beq_iff_eq.2 k3
    have hdo : st.doit op = st.take := by unfold PS.doit; simp [k3]
    simp only [c3, lenSl_slice, lenStr_string, str_size, fpureA_some, fnilA_ptr, faddA_ptr, addr_add, Nat.zero_add, Nat.add_zero, fpureQ_k, fpureQ_nilA, fpureQ_addA, fpureQ_pureA, fpureQ_guardA, fpureQ_idxSlA, fpureQ_pickA, freadQ_loadA, freadQ_loadNA, freadQ_b2sA, freadQ_guardA, freadQ_slSlA, freadQ_k, fendA, fallA_one, fstillA_nil, fguardA_tt, fguardA_ff, fguardA_tf, fguardA_ft, fguardA_undef, fpickA_true, fpickA_false, fcondA_true, fcondA_false, binA_add, binA_sub, binA_mul, binA_eql, binA_neq, binA_lss, binA_leq, binA_gtr, binA_geq, unA_not, Bool.not_true, Bool.not_false, convA_int, extA_tuple, List.getElem?_toArray, List.getElem?_cons_zero, List.getElem?_cons_succ]
    refine callA_of (pTake_spec b1.pk o) fun v2 h2 ⟨SO, Sp', w2, q2, hSO, hdS, s2⟩ f2 => ?_
    have hx1 : ∀ c, c ∈ Sx → c < h1.next := fun c hc => hS1 c (by simp [hc])
    have hr1 : ∀ c, c ∈ R → c < h1.next := fun c hc => (b1.rf.ltr c hc).2
    have rf2 := b1.rf.frame s2 (fun c hc he => b.d1 c he hc) (fun c hc he => b.d2 c he hc)
    refine callA_of (xTake_spec rf2 o) fun v3 h3 ⟨SQ, R', w3, q3, hSQ, hdQ, hR3, s3⟩ f3 => ?_
    have q23 := q2.frame s3 (fun c hc he => by have := hSO c hc; have := hx1 c he; omega)
    obtain ⟨l1, l2⟩ := secs_len st o st.count 0 (by omega)
    refine callA_of (sectors_spec q23 q3 (fun c hc he => by have := hSQ c he; have := (q2.lt c hc).2; omega) (by omega) (fun q hq => by have := l2 q hq; omega)) fun _ h4 ⟨e, s4⟩ f4 => ?_
    subst e
    simp only [lenSl_slice, lenStr_string, str_size, fpureA_some, fnilA_ptr, faddA_ptr, addr_add, Nat.zero_add, Nat.add_zero, fpureQ_k, fpureQ_nilA, fpureQ_addA, fpureQ_pureA, fpureQ_guardA, fpureQ_idxSlA, fpureQ_pickA, freadQ_loadA, freadQ_loadNA, freadQ_b2sA, freadQ_guardA, freadQ_slSlA, freadQ_k, fendA, fallA_one, fstillA_nil, fguardA_tt, fguardA_ff, fguardA_tf, fguardA_ft, fguardA_undef, fpickA_true, fpickA_false, fcondA_true, fcondA_false, binA_add, binA_sub, binA_mul, binA_eql, binA_neq, binA_lss, binA_leq, binA_gtr, binA_geq, unA_not, Bool.not_true, Bool.not_false, convA_int, extA_tuple, List.getElem?_toArray, List.getElem?_cons_zero, List.getElem?_cons_succ, retA_iff, oneOf_one]
    refine ⟨by simp, by trivial, ?_⟩
    rw [hdo]
    have s2' : Step h1 h2 Sp Sp' := s2.less (fun c hc => by simp [hc])
    have s3' : Step h2 h3 Sx Sx := s3.less (fun c hc => by simp [hc])
    obtain ⟨bb, ss, rr⟩ := b1.two w2 s2' w3 s3' hR3
    have hSO2 : ∀ c, c ∈ SO → c < h2.next := fun c hc => (q2.lt c hc).2
    have b4 := bb.frame s4 (fun c hc he => hdS c he hc) (fun c hc he => by have := hSO c he; have := hx1 c hc; omega) (fun c hc he => by
      rcases hR3 c hc with g | g
      · have := hSO c he; have := hr1 c g; omega
      · have := hSO2 c he; omega)
    exact hdo ▸ done (by rw [hdo]; exact ⟨Sp', Sx, R', b4, ss.after s4 (fun c hc => hSO c hc), rr⟩)
  have c3 : (op.k == 3) = false := beq_eq_false_iff_ne.2 k3
  simp only [c3, lenSl_slice, lenStr_string, str_size, fpureA_some, fnilA_ptr, faddA_ptr, addr_add, Nat.zero_add, Nat.add_zero, fpureQ_k, fpureQ_nilA, fpureQ_addA, fpureQ_pureA, fpureQ_guardA, fpureQ_idxSlA, fpureQ_pickA, freadQ_loadA, freadQ_loadNA, freadQ_b2sA, freadQ_guardA, freadQ_slSlA, freadQ_k, fendA, fallA_one, fstillA_nil, fguardA_tt, fguardA_ff, fguardA_tf, fguardA_ft, fguardA_undef, fpickA_true, fpickA_false, fcondA_true, fcondA_false, binA_add, binA_sub, binA_mul, binA_eql, binA_neq, binA_lss, binA_leq, binA_gtr, binA_geq, unA_not, Bool.not_true, Bool.not_false, convA_int, extA_tuple, List.getElem?_toArray, List.getElem?_cons_zero, List.getElem?_cons_succ]
  by_cases k4 : op.k = 4
  · have c4 : (op.k == 4) = true := beq_iff_eq.2 k4
    have hdo : st.doit op = st := by unfold PS.doit; simp [k4]
    simp only [c4, lenSl_slice, lenStr_string, str_size, fpureA_some, fnilA_ptr, faddA_ptr, addr_add, Nat.zero_add, Nat.add_zero, fpureQ_k, fpureQ_nilA, fpureQ_addA, fpureQ_pureA, fpureQ_guardA, fpureQ_idxSlA, fpureQ_pickA, freadQ_loadA, freadQ_loadNA, freadQ_b2sA, freadQ_guardA, freadQ_slSlA, freadQ_k, fendA, fallA_one, fstillA_nil, fguardA_tt, fguardA_ff, fguardA_tf, fguardA_ft, fguardA_undef, fpickA_true, fpickA_false, fcondA_true, fcondA_false, binA_add, binA_sub, binA_mul, binA_eql, binA_neq, binA_lss, binA_leq, binA_gtr, binA_geq, unA_not, Bool.not_true, Bool.not_false, convA_int, extA_tuple, List.getElem?_toArray, List.getElem?_cons_zero, List.getElem?_cons_succ]
    have lds : ∀ {h' : Hp} {K : Kont}, h'.blk h.next = some op.e → K (slt op.o op.m) h' → loadNA w0 (.pointer (some ⟨h.next, 3, none⟩)) 2 K h' := by
      intro h' K hq' hK
      rw [loadNA_own]
      exact ⟨[.int .i64 op.o, .int .i64 op.m], by rw [getN_eq, hq']; rfl, fun hlt => by omega, hK⟩
    refine lds hq1 ?_
    refine callA_of (pRead_spec b1.pk o op.o op.m) fun v2 h2 e2 f2 => ?_
    have key : ∀ {h' h'' : Hp} {v : Value}, (match st.read op.o op.m with
        | some c => ∃ x T, v = .tuple #[x, .int .i64 0] ∧ GV w0 h'' 1 x c.length (bvs c) T ∧ (∀ b, b ∈ T → h'.next ≤ b) ∧ Step h' h'' [] T
        | none => v = .tuple #[.slice none 0 0, .int .i64 130] ∧ Step h' h'' [] []) →
        ∃ x T, v = .tuple #[x, .int .i64 (match st.read op.o op.m with | some _ => 0 | none => 130)] ∧ GV w0 h'' 1 x ((st.read op.o op.m).getD []).length (bvs ((st.read op.o op.m).getD [])) T ∧ (∀ b, b ∈ T → h'.next ≤ b) ∧ Step h' h'' [] T := by
      intro h' h'' v e
      cases hrd : st.read op.o op.m with
      | none => rw [hrd] at e; exact ⟨_, [], e.1, .inl .nil, by simp, e.2⟩
      | some c => rw [hrd] at e; exact e
    obtain ⟨y2, T2, e2, g2, hT2, s2⟩ := key e2
    subst e2
    have hlen : ((st.read op.o op.m).getD []).length ≤ 1000000000 := by
      cases hrd : st.read op.o op.m with
      | none => simp
      | some c =>
        obtain ⟨k, m, _, _, h3, _, h5, _⟩ := o.read hrd
        simp
        omega
    have hq2 := (s2.keep _ hl1 (by simp)).1.trans hq1
    simp only [lenSl_slice, lenStr_string, str_size, fpureA_some, fnilA_ptr, faddA_ptr, addr_add, Nat.zero_add, Nat.add_zero, fpureQ_k, fpureQ_nilA, fpureQ_addA, fpureQ_pureA, fpureQ_guardA, fpureQ_idxSlA, fpureQ_pickA, freadQ_loadA, freadQ_loadNA, freadQ_b2sA, freadQ_guardA, freadQ_slSlA, freadQ_k, fendA, fallA_one, fstillA_nil, fguardA_tt, fguardA_ff, fguardA_tf, fguardA_ft, fguardA_undef, fpickA_true, fpickA_false, fcondA_true, fcondA_false, binA_add, binA_sub, binA_mul, binA_eql, binA_neq, binA_lss, binA_leq, binA_gtr, binA_geq, unA_not, Bool.not_true, Bool.not_false, convA_int, extA_tuple, List.getElem?_toArray, List.getElem?_cons_zero, List.getElem?_cons_succ]
    refine lds hq2 ?_
    have rf2 := b1.rf.frame s2 (by simp) (by simp)
    refine callA_of (xRead_spec rf2 o op.o op.m) fun v3 h3 e3 f3 => ?_
    obtain ⟨y3, T3, e3, g3, hT3, s3⟩ := key e3
    subst e3
    simp only [lenSl_slice, lenStr_string, str_size, fpureA_some, fnilA_ptr, faddA_ptr, addr_add, Nat.zero_add, Nat.add_zero, fpureQ_k, fpureQ_nilA, fpureQ_addA, fpureQ_pureA, fpureQ_guardA, fpureQ_idxSlA, fpureQ_pickA, freadQ_loadA, freadQ_loadNA, freadQ_b2sA, freadQ_guardA, freadQ_slSlA, freadQ_k, fendA, fallA_one, fstillA_nil, fguardA_tt, fguardA_ff, fguardA_tf, fguardA_ft, fguardA_undef, fpickA_true, fpickA_false, fcondA_true, fcondA_false, binA_add, binA_sub, binA_mul, binA_eql, binA_neq, binA_lss, binA_leq, binA_gtr, binA_geq, unA_not, Bool.not_true, Bool.not_false, convA_int, extA_tuple, List.getElem?_toArray, List.getElem?_cons_zero, List.getElem?_cons_succ, beq_self_eq_true]
    have g23 := g2.frame s3 (by simp)
    refine callA_of (sameB_spec (g23.sl : Bs w0 h3 y2 _) g3.sl hlen) fun _ h4 ⟨e, e4⟩ f4 => ?_
    subst e e4
    simp only [lenSl_slice, lenStr_string, str_size, fpureA_some, fnilA_ptr, faddA_ptr, addr_add, Nat.zero_add, Nat.add_zero, fpureQ_k, fpureQ_nilA, fpureQ_addA, fpureQ_pureA, fpureQ_guardA, fpureQ_idxSlA, fpureQ_pickA, freadQ_loadA, freadQ_loadNA, freadQ_b2sA, freadQ_guardA, freadQ_slSlA, freadQ_k, fendA, fallA_one, fstillA_nil, fguardA_tt, fguardA_ff, fguardA_tf, fguardA_ft, fguardA_undef, fpickA_true, fpickA_false, fcondA_true, fcondA_false, binA_add, binA_sub, binA_mul, binA_eql, binA_neq, binA_lss, binA_leq, binA_gtr, binA_geq, unA_not, Bool.not_true, Bool.not_false, convA_int, extA_tuple, List.getElem?_toArray, List.getElem?_cons_zero, List.getElem?_cons_succ, decide_true]
    refine ⟨((st.read op.o op.m).getD []).length + 1, ?_⟩
    refine incr2_loop hlen ((st.read op.o op.m).getD []).length 0 h4 ((st.read op.o op.m).getD []) (by omega) rfl g23 fun h5 s5 => ?_
    simp only [retA_iff, oneOf_one]
    refine ⟨by simp, by trivial, done ?_⟩
    rw [hdo]
    have t3 : Step h1 h4 [] [] := s2.drop.trans s3.drop
    obtain ⟨Sp', Sx', R', bb, ss, rr⟩ := b1.idle t3
    have b4 := b1.frame t3 (by simp) (by simp) (by simp)
    have b5 := b4.frame s5 (fun c hc he => by have := hT2 c he; have := hS1 c (by simp [hc]); omega) (fun c hc he => by have := hT2 c he; have := hS1 c (by simp [hc]); omega) (fun c hc he => by have := hT2 c he; have := (b1.rf.ltr c hc).2; omega)
    exact ⟨Sp, Sx, R, b5, (t3.idle _ hS1).after s5 hT2, fun c hc => .inl hc⟩
  have c4 : (op.k == 4) = false := beq_eq_false_iff_ne.2 k4
  simp only [c4, lenSl_slice, lenStr_string, str_size, fpureA_some, fnilA_ptr, faddA_ptr, addr_add, Nat.zero_add, Nat.add_zero, fpureQ_k, fpureQ_nilA, fpureQ_addA, fpureQ_pureA, fpureQ_guardA, fpureQ_idxSlA, fpureQ_pickA, freadQ_loadA, freadQ_loadNA, freadQ_b2sA, freadQ_guardA, freadQ_slSlA, freadQ_k, fendA, fallA_one, fstillA_nil, fguardA_tt, fguardA_ff, fguardA_tf, fguardA_ft, fguardA_undef, fpickA_true, fpickA_false, fcondA_true, fcondA_false, binA_add, binA_sub, binA_mul, binA_eql, binA_neq, binA_lss, binA_leq, binA_gtr, binA_geq, unA_not, Bool.not_true, Bool.not_false, convA_int, extA_tuple, List.getElem?_toArray, List.getElem?_cons_zero, List.getElem?_cons_succ]
  by_cases k5 : op.k = 5
  · have c5 : (op.k == 5) = true := beq_iff_eq.2 k5
    have hdo : st.doit op = st := by unfold PS.doit; simp [k5]
    simp only [c5, lenSl_slice, lenStr_string, str_size, fpureA_some, fnilA_ptr, faddA_ptr, addr_add, Nat.zero_add, Nat.add_zero, fpureQ_k, fpureQ_nilA, fpureQ_addA, fpureQ_pureA, fpureQ_guardA, fpureQ_idxSlA, fpureQ_pickA, freadQ_loadA, freadQ_loadNA, freadQ_b2sA, freadQ_guardA, freadQ_slSlA, freadQ_k, fendA, fallA_one, fstillA_nil, fguardA_tt, fguardA_ff, fguardA_tf, fguardA_ft, fguardA_undef, fpickA_true, fpickA_false, fcondA_true, fcondA_false, binA_add, binA_sub, binA_mul, binA_eql, binA_neq, binA_lss, binA_leq, binA_gtr, binA_geq, unA_not, Bool.not_true, Bool.not_false, convA_int, extA_tuple, List.getElem?_toArray, List.getElem?_cons_zero, List.getElem?_cons_succ]
    refine callA_of (pSlots_spec b1.pk o) fun v2 h2 ⟨T2, g2, s2⟩ f2 => ?_
    have rf2 := b1.rf.frame s2 (by simp) (by simp)
    refine callA_of (xSlots_spec rf2 o) fun v3 h3 ⟨T3, g3, s3⟩ f3 => ?_
    refine callA_of (sameS_spec (g2.frame s3 (by simp)).sl g3.sl (by simp; omega)) fun _ h4 ⟨e, e4⟩ f4 => ?_
    subst e e4
    simp only [lenSl_slice, lenStr_string, str_size, fpureA_some, fnilA_ptr, faddA_ptr, addr_add, Nat.zero_add, Nat.add_zero, fpureQ_k, fpureQ_nilA, fpureQ_addA, fpureQ_pureA, fpureQ_guardA, fpureQ_idxSlA, fpureQ_pickA, freadQ_loadA, freadQ_loadNA, freadQ_b2sA, freadQ_guardA, freadQ_slSlA, freadQ_k, fendA, fallA_one, fstillA_nil, fguardA_tt, fguardA_ff, fguardA_tf, fguardA_ft, fguardA_undef, fpickA_true, fpickA_false, fcondA_true, fcondA_false, binA_add, binA_sub, binA_mul, binA_eql, binA_neq, binA_lss, binA_leq, binA_gtr, binA_geq, unA_not, Bool.not_true, Bool.not_false, convA_int, extA_tuple, List.getElem?_toArray, List.getElem?_cons_zero, List.getElem?_cons_succ, decide_true, retA_iff, oneOf_one]
    exact ⟨by simp, by trivial, done (by rw [hdo]; exact b1.idle (s2.drop.trans s3))⟩
  have c5 : (op.k == 5) = false := beq_eq_false_iff_ne.2 k5
  simp only [c5, lenSl_slice, lenStr_string, str_size, fpureA_some, fnilA_ptr, faddA_ptr, addr_add, Nat.zero_add, Nat.add_zero, fpureQ_k, fpureQ_nilA, fpureQ_addA, fpureQ_pureA, fpureQ_guardA, fpureQ_idxSlA, fpureQ_pickA, freadQ_loadA, freadQ_loadNA, freadQ_b2sA, freadQ_guardA, freadQ_slSlA, freadQ_k, fendA, fallA_one, fstillA_nil, fguardA_tt, fguardA_ff, fguardA_tf, fguardA_ft, fguardA_undef, fpickA_true, fpickA_false, fcondA_true, fcondA_false, binA_add, binA_sub, binA_mul, binA_eql, binA_neq, binA_lss, binA_leq, binA_gtr, binA_geq, unA_not, Bool.not_true, Bool.not_false, convA_int, extA_tuple, List.getElem?_toArray, List.getElem?_cons_zero, List.getElem?_cons_succ]
  by_cases k7 : op.k = 7
  · have c7 : (op.k == 7) = true := beq_iff_eq.2 k7
    have hdo : st.doit op = st.seal.2 := by unfold PS.doit; simp [k7]
    simp only [c7, lenSl_slice, lenStr_string, str_size, fpureA_some, fnilA_ptr, faddA_ptr, addr_add, Nat.zero_add, Nat.add_zero, fpureQ_k, fpureQ_nilA, fpureQ_addA, fpureQ_pureA, fpureQ_guardA, fpureQ_idxSlA, fpureQ_pickA, freadQ_loadA, freadQ_loadNA, freadQ_b2sA, freadQ_guardA, freadQ_slSlA, freadQ_k, fendA, fallA_one, fstillA_nil, fguardA_tt, fguardA_ff, fguardA_tf, fguardA_ft, fguardA_undef, fpickA_true, fpickA_false, fcondA_true, fcondA_false, binA_add, binA_sub, binA_mul, binA_eql, binA_neq, binA_lss, binA_leq, binA_gtr, binA_geq, unA_not, Bool.not_true, Bool.not_false, convA_int, extA_tuple, List.getElem?_toArray, List.getElem?_cons_zero, List.getElem?_cons_succ]
    refine callA_of (pSeal_spec b1.pk o) fun _ h2 ⟨e, w2, s2⟩ f2 => ?_
    subst e
    have rf2 := b1.rf.frame s2 (fun c hc he => b.d1 c he hc) (fun c hc he => b.d2 c he hc)
    refine callA_of (xSeal_spec rf2 o) fun _ h3 ⟨e, w3, s3⟩ f3 => ?_
    subst e
    simp only [lenSl_slice, lenStr_string, str_size, fpureA_some, fnilA_ptr, faddA_ptr, addr_add, Nat.zero_add, Nat.add_zero, fpureQ_k, fpureQ_nilA, fpureQ_addA, fpureQ_pureA, fpureQ_guardA, fpureQ_idxSlA, fpureQ_pickA, freadQ_loadA, freadQ_loadNA, freadQ_b2sA, freadQ_guardA, freadQ_slSlA, freadQ_k, fendA, fallA_one, fstillA_nil, fguardA_tt, fguardA_ff, fguardA_tf, fguardA_ft, fguardA_undef, fpickA_true, fpickA_false, fcondA_true, fcondA_false, binA_add, binA_sub, binA_mul, binA_eql, binA_neq, binA_lss, binA_leq, binA_gtr, binA_geq, unA_not, Bool.not_true, Bool.not_false, convA_int, extA_tuple, List.getElem?_toArray, List.getElem?_cons_zero, List.getElem?_cons_succ, beq_self_eq_true, retA_iff, oneOf_one]
    refine ⟨by simp, by trivial, done ?_⟩
    rw [hdo]
    obtain ⟨bb, ss, rr⟩ := b1.two w2 s2 w3 s3 (fun c hc => .inl hc)
    exact ⟨_, _, _, bb, ss, rr⟩
  have c7 : (op.k == 7) = false := beq_eq_false_iff_ne.2 k7
  simp only [c7, lenSl_slice, lenStr_string, str_size, fpureA_some, fnilA_ptr, faddA_ptr, addr_add, Nat.zero_add, Nat.add_zero, fpureQ_k, fpureQ_nilA, fpureQ_addA, fpureQ_pureA, fpureQ_guardA, fpureQ_idxSlA, fpureQ_pickA, freadQ_loadA, freadQ_loadNA, freadQ_b2sA, freadQ_guardA, freadQ_slSlA, freadQ_k, fendA, fallA_one, fstillA_nil, fguardA_tt, fguardA_ff, fguardA_tf, fguardA_ft, fguardA_undef, fpickA_true, fpickA_false, fcondA_true, fcondA_false, binA_add, binA_sub, binA_mul, binA_eql, binA_neq, binA_lss, binA_leq, binA_gtr, binA_geq, unA_not, Bool.not_true, Bool.not_false, convA_int, extA_tuple, List.getElem?_toArray, List.getElem?_cons_zero, List.getElem?_cons_succ]
  by_cases k8 : op.k = 8
  · have c8 : (op.k == 8) = true := beq_iff_eq.2 k8
    have hdo : st.doit op = (st.back op.n).2 := by unfold PS.doit; simp [k8]
    simp only [c8, lenSl_slice, lenStr_string, str_size, fpureA_some, fnilA_ptr, faddA_ptr, addr_add, Nat.zero_add, Nat.add_zero, fpureQ_k, fpureQ_nilA, fpureQ_addA, fpureQ_pureA, fpureQ_guardA, fpureQ_idxSlA, fpureQ_pickA, freadQ_loadA, freadQ_loadNA, freadQ_b2sA, freadQ_guardA, freadQ_slSlA, freadQ_k, fendA, fallA_one, fstillA_nil, fguardA_tt, fguardA_ff, fguardA_tf, fguardA_ft, fguardA_undef, fpickA_true, fpickA_false, fcondA_true, fcondA_false, binA_add, binA_sub, binA_mul, binA_eql, binA_neq, binA_lss, binA_leq, binA_gtr, binA_geq, unA_not, Bool.not_true, Bool.not_false, convA_int, extA_tuple, List.getElem?_toArray, List.getElem?_cons_zero, List.getElem?_cons_succ]
    refine loadA_at hB hq1 (by rfl) ?_
    refine loadA_at hB hq1 (by rfl) ?_
    refine callA_of (pBack_spec b1.pk o op.n hn) fun _ h2 ⟨Sp', e, w2, s2⟩ f2 => ?_
    subst e
    have hqSp : h.next ∉ Sp := fun e => by have := hlt _ (List.mem_append.2 (.inl e)); omega
    have hq2 := (s2.keep _ hl1 hqSp).1.trans hq1
    simp only [stillA_iff, allA_cons, allA_one, sameQ_loadA]
    refine ⟨loadA_at hB hq2 (by rfl) rfl, ?_⟩
    have rf2 := b1.rf.frame s2 (fun c hc he => b.d1 c he hc) (fun c hc he => b.d2 c he hc)
    refine callA_of (xBack_spec rf2 o op.n hn) fun _ h3 ⟨Sx', e, w3, s3⟩ f3 => ?_
    subst e
    simp only [lenSl_slice, lenStr_string, str_size, fpureA_some, fnilA_ptr, faddA_ptr, addr_add, Nat.zero_add, Nat.add_zero, fpureQ_k, fpureQ_nilA, fpureQ_addA, fpureQ_pureA, fpureQ_guardA, fpureQ_idxSlA, fpureQ_pickA, freadQ_loadA, freadQ_loadNA, freadQ_b2sA, freadQ_guardA, freadQ_slSlA, freadQ_k, fendA, fallA_one, fstillA_nil, fguardA_tt, fguardA_ff, fguardA_tf, fguardA_ft, fguardA_undef, fpickA_true, fpickA_false, fcondA_true, fcondA_false, binA_add, binA_sub, binA_mul, binA_eql, binA_neq, binA_lss, binA_leq, binA_gtr, binA_geq, unA_not, Bool.not_true, Bool.not_false, convA_int, extA_tuple, List.getElem?_toArray, List.getElem?_cons_zero, List.getElem?_cons_succ, beq_self_eq_true, retA_iff, oneOf_one]
    refine ⟨by simp, by trivial, done ?_⟩
    rw [hdo]
    obtain ⟨bb, ss, rr⟩ := b1.two w2 s2 w3 s3 (fun c hc => .inl hc)
    exact ⟨_, _, _, bb, ss, rr⟩
  have c8 : (op.k == 8) = false := beq_eq_false_iff_ne.2 k8
  have hdo : st.doit op = st := by unfold PS.doit; simp [k1, k3, k7, k8]
  simp only [c8, lenSl_slice, lenStr_string, str_size, fpureA_some, fnilA_ptr, faddA_ptr, addr_add, Nat.zero_add, Nat.add_zero, fpureQ_k, fpureQ_nilA, fpureQ_addA, fpureQ_pureA, fpureQ_guardA, fpureQ_idxSlA, fpureQ_pickA, freadQ_loadA, freadQ_loadNA, freadQ_b2sA, freadQ_guardA, freadQ_slSlA, freadQ_k, fendA, fallA_one, fstillA_nil, fguardA_tt, fguardA_ff, fguardA_tf, fguardA_ft, fguardA_undef, fpickA_true, fpickA_false, fcondA_true, fcondA_false, binA_add, binA_sub, binA_mul, binA_eql, binA_neq, binA_lss, binA_leq, binA_gtr, binA_geq, unA_not, Bool.not_true, Bool.not_false, convA_int, extA_tuple, List.getElem?_toArray, List.getElem?_cons_zero, List.getElem?_cons_succ]
  refine callA_of (pImage_spec b1.pk o) fun v2 h2 ⟨T2, g2, s2⟩ f2 => ?_
  have rf2 := b1.rf.frame s2 (by simp) (by simp)
  refine callA_of (xImage_spec rf2 o) fun v3 h3 ⟨T3, g3, s3⟩ f3 => ?_
  have hi := o.image
  refine callA_of (sameB_spec ((g2.frame s3 (by simp)).sl : Bs w0 h3 v2 st.image) g3.sl (by omega)) fun _ h4 ⟨e, e4⟩ f4 => ?_
  subst e e4
  simp only [lenSl_slice, lenStr_string, str_size, fpureA_some, fnilA_ptr, faddA_ptr, addr_add, Nat.zero_add, Nat.add_zero, fpureQ_k, fpureQ_nilA, fpureQ_addA, fpureQ_pureA, fpureQ_guardA, fpureQ_idxSlA, fpureQ_pickA, freadQ_loadA, freadQ_loadNA, freadQ_b2sA, freadQ_guardA, freadQ_slSlA, freadQ_k, fendA, fallA_one, fstillA_nil, fguardA_tt, fguardA_ff, fguardA_tf, fguardA_ft, fguardA_undef, fpickA_true, fpickA_false, fcondA_true, fcondA_false, binA_add, binA_sub, binA_mul, binA_eql, binA_neq, binA_lss, binA_leq, binA_gtr, binA_geq, unA_not, Bool.not_true, Bool.not_false, convA_int, extA_tuple, List.getElem?_toArray, List.getElem?_cons_zero, List.getElem?_cons_succ, decide_true, retA_iff, oneOf_one]
  exact ⟨by simp, by trivial, done (by rw [hdo]; exact b1.idle (s2.drop.trans s3))⟩
end
end Go.Proofs.Ytfhamcobfpmgbaa.Ah
