/- Bytes of superblocks; EncodeSuper, DecodeSuper; awake. -/
import Derived.Test.YtihebhdgjnibfaaYa
import Derived.Test.YtihebhdgjnibfaaLfr
import Derived.Test.YtihebhdgjnibfaaGlaw04
set_option linter.unusedVariables false
set_option linter.unusedSimpArgs false
namespace Go.Proofs.Ytihebhdgjnibfaa.Ah
open Go

/-- What is written. -/
def Sup.ints (x : Sup) : List Int := [x.root, x.s.sec, x.s.tot, x.s.jou, x.s.pck, x.s.mn, x.s.nm, x.s.mx]
def Sup.body (x : Sup) : List UInt8 := be 8 x.gen.toNat ++ x.ints.flatMap (fun n => be 4 n.toNat) ++ be 8 x.s.seed.toNat ++ be 2 x.s.bits.toNat ++ [if x.s.dd then 1 else 0]
theorem Sup.body_length (x : Sup) : x.body.length = 51 := by simp [Sup.body, Sup.ints]
def Sup.enc (x : Sup) : List UInt8 := frame 83 x.body ++ List.replicate (x.s.sec.toNat - 63) 0
theorem Sup.good {x : Sup} (h : x.check = 0) : x.s.good = true := by
  unfold Sup.check at h
  split at h
  · assumption
  · simp at h
theorem Sup.root_in {x : Sup} (h : x.check = 0) : 0 ≤ x.root ∧ x.root ≤ 4096 := by
  have g := Sup.good h
  have G := x.s.good_iff.1 g
  have := G.tot
  unfold Sup.check at h
  rw [if_pos g] at h
  split at h
  · rename_i h1
    rcases h1 with h1 | h1
    · omega
    · unfold Shp.kind at h1
      split at h1
      · simp at h1
      · rename_i h2
        simp [g] at h2
        omega
  · simp at h
theorem Sup.sizes {x : Sup} (h : x.check = 0) : 512 ≤ x.s.sec ∧ x.s.sec ≤ 4096 := pow2_range (x.s.good_iff.1 (Sup.good h)).sec
theorem Sup.ints_in {x : Sup} (h : x.check = 0) : ∀ n, n ∈ x.ints → 0 ≤ n ∧ n < 4294967296 := by
  have hr := Sup.root_in h
  have G := x.s.good_iff.1 (Sup.good h)
  have h1 := pow2_range G.sec
  have h2 := pow2_range G.nm
  have h3 := G.tot
  have h4 := G.jou
  have h5 := G.pck
  have h6 := G.mn
  have h7 := G.mx
  intro n hn
  simp only [Sup.ints, List.mem_cons, List.not_mem_nil, or_false] at hn
  rcases hn with rfl | rfl | rfl | rfl | rfl | rfl | rfl | rfl <;> omega
theorem Sup.enc_length {x : Sup} (h : x.check = 0) : x.enc.length = x.s.sec.toNat := by
  have := Sup.sizes h
  simp only [Sup.enc, List.length_append, frame_length, Sup.body_length, List.length_replicate]
  omega
theorem Sup.unf_enc (x : Sup) : unf x.enc = (83, x.body, 63, 0) := by
  have := unf_frame 83 (by omega) x.body (List.replicate (x.s.sec.toNat - 63) 0) (by rw [Sup.body_length]; omega)
  rw [Sup.body_length] at this
  exact this
theorem WS.put_ok {m : Int} {bs l : List UInt8} (h : (bs.length : Int) + l.length ≤ m) : (⟨m, bs, false⟩ : WS).put l = ⟨m, bs ++ l, false⟩ := by
  unfold WS.put
  simp only [Bool.false_eq_true, if_false]
  rw [if_neg (by omega)]
section
variable {w0 : World} {h : Hp} {K : Kont} {s : Shp} {x : Sup}
theorem conv_u32 {a : Int} (h : 0 ≤ a ∧ a < 4294967296) : IntKind.u32.wrap a = ((a.toNat : Nat) : Int) := by rw [IntWalk.u32_in _ (by omega)]; omega
theorem enc_loop {k0 : Value → Value → Hp → Prop} {x5 : Value} {p q : Nat} {m : Int} {ns : List Int} (has : ∀ a, a ∈ ns → 0 ≤ a ∧ a < 4294967296) (hl : ns.length ≤ 1000) (hq : w0.heap.size ≤ q) : ∀ (post pre : List Int) (h : Hp) (bs : List UInt8) (S : List Nat), pre ++ post = ns → Wr w0 h p ⟨m, bs, false⟩ S → h.blk q = some (ns.map (.int .i64 ·)) → q ∉ S → q < h.next → (bs.length : Int) + 4 * post.length ≤ m → m ≤ 1000000 →
    (∀ h' S', Wr w0 h' p ⟨m, bs ++ post.flatMap (fun n => be 4 n.toNat), false⟩ S' → Step h h' S S' → k0 x5 (ptr p) h') →
    layout_EncodeSuper_L1 prog w0 k0 (post.length + 1) x5 (ptr p) (.slice (some ⟨q, 0, none⟩) ns.length ns.length) (.int .i64 ns.length) (.int .i64 (pre.length : Int)) h := by
  intro post
  induction post with
  | nil =>
    intro pre h bs S he w hb hqS hql hm hm2 hk
    have : pre = ns := by simpa using he
    subst this
    rw [List.length_nil, layout_EncodeSuper_L1]
    simp only [layout_EncodeSuper_B1, lenSl_slice, lenStr_string, str_size, fpureA_some, fnilA_ptr, faddA_ptr, addr_add, Nat.zero_add, Nat.add_zero, fpureQ_k, fpureQ_nilA, fpureQ_addA, fpureQ_pureA, fpureQ_guardA, fpureQ_idxSlA, fpureQ_pickA, freadQ_loadA, freadQ_loadNA, freadQ_b2sA, freadQ_guardA, freadQ_slSlA, freadQ_k, fendA, fallA_one, fstillA_nil, fguardA_tt, fguardA_ff, fguardA_tf, fguardA_ft, fguardA_undef, fpickA_true, fpickA_false, fcondA_true, fcondA_false, binA_add, binA_sub, binA_mul, binA_eql, binA_neq, binA_lss, binA_leq, binA_gtr, binA_geq, unA_not, Bool.not_true, Bool.not_false, convA_int, extA_tuple, List.getElem?_toArray, List.getElem?_cons_zero, List.getElem?_cons_succ, Int.lt_irrefl, decide_false]
    exact hk h S (by simpa using w) (Step.refl _ _ fun b hb => (w.lt b hb).2)
  | cons a post ih =>
    intro pre h bs S he w hb hqS hql hm hm2 hk
    have hlen : pre.length + (post.length + 1) = ns.length := by rw [← he]; simp
    have ha := has a (by rw [← he]; simp)
    have c1 : decide ((pre.length : Int) < (ns.length : Int)) = true := decide_eq_true (by omega)
    have e5 : IntKind.i64.wrap ((pre.length : Int) + 1) = ((pre.length + 1 : Nat) : Int) := by rw [IntWalk.i64_in _ (by omega)]; simp
    have hg : (ns.map (Value.int .i64 ·))[pre.length]? = some (.int .i64 a) := by rw [← he]; simp
    simp only [List.length_cons] at hm
    rw [List.length_cons, layout_EncodeSuper_L1]
    simp only [layout_EncodeSuper_B1, lenSl_slice, lenStr_string, str_size, fpureA_some, fnilA_ptr, faddA_ptr, addr_add, Nat.zero_add, Nat.add_zero, fpureQ_k, fpureQ_nilA, fpureQ_addA, fpureQ_pureA, fpureQ_guardA, fpureQ_idxSlA, fpureQ_pickA, freadQ_loadA, freadQ_loadNA, freadQ_b2sA, freadQ_guardA, freadQ_slSlA, freadQ_k, fendA, fallA_one, fstillA_nil, fguardA_tt, fguardA_ff, fguardA_tf, fguardA_ft, fguardA_undef, fpickA_true, fpickA_false, fcondA_true, fcondA_false, binA_add, binA_sub, binA_mul, binA_eql, binA_neq, binA_lss, binA_leq, binA_gtr, binA_geq, unA_not, Bool.not_true, Bool.not_false, convA_int, extA_tuple, List.getElem?_toArray, List.getElem?_cons_zero, List.getElem?_cons_succ, c1]
    rw [idxSlA_iff]
    refine ⟨by omega, by omega, ?_⟩
    rw [addr_add, Int.toNat_natCast, Nat.mul_one, Nat.zero_add]
    refine loadA_at hq hb hg ?_
    simp only [lenSl_slice, lenStr_string, str_size, fpureA_some, fnilA_ptr, faddA_ptr, addr_add, Nat.zero_add, Nat.add_zero, fpureQ_k, fpureQ_nilA, fpureQ_addA, fpureQ_pureA, fpureQ_guardA, fpureQ_idxSlA, fpureQ_pickA, freadQ_loadA, freadQ_loadNA, freadQ_b2sA, freadQ_guardA, freadQ_slSlA, freadQ_k, fendA, fallA_one, fstillA_nil, fguardA_tt, fguardA_ff, fguardA_tf, fguardA_ft, fguardA_undef, fpickA_true, fpickA_false, fcondA_true, fcondA_false, binA_add, binA_sub, binA_mul, binA_eql, binA_neq, binA_lss, binA_leq, binA_gtr, binA_geq, unA_not, Bool.not_true, Bool.not_false, convA_int, extA_tuple, List.getElem?_toArray, List.getElem?_cons_zero, List.getElem?_cons_succ, conv_u32 ha]
    refine callA_of (U32_spec a.toNat w (by simp; omega)) fun v h1 ⟨S1, w1, s1⟩ f1 => ?_
    rw [WS.put_ok (by simp; omega)] at w1
    simp only [lenSl_slice, lenStr_string, str_size, fpureA_some, fnilA_ptr, faddA_ptr, addr_add, Nat.zero_add, Nat.add_zero, fpureQ_k, fpureQ_nilA, fpureQ_addA, fpureQ_pureA, fpureQ_guardA, fpureQ_idxSlA, fpureQ_pickA, freadQ_loadA, freadQ_loadNA, freadQ_b2sA, freadQ_guardA, freadQ_slSlA, freadQ_k, fendA, fallA_one, fstillA_nil, fguardA_tt, fguardA_ff, fguardA_tf, fguardA_ft, fguardA_undef, fpickA_true, fpickA_false, fcondA_true, fcondA_false, binA_add, binA_sub, binA_mul, binA_eql, binA_neq, binA_lss, binA_leq, binA_gtr, binA_geq, unA_not, Bool.not_true, Bool.not_false, convA_int, extA_tuple, List.getElem?_toArray, List.getElem?_cons_zero, List.getElem?_cons_succ, e5]
    have := ih (pre ++ [a]) h1 (bs ++ be 4 a.toNat) S1 (by simpa using he) w1 ((s1.keep _ hql hqS).1.trans hb) (fun e => by
      rcases (s1.own _ e).2 with g | g
      · exact hqS g
      · omega) (by have := s1.next; omega) (by simp; omega) hm2 (fun h' S' w' s' => hk h' S' (by simpa using w') (s1.trans s'))
    simpa using this
theorem fill8 {a b c d e f g i : Value} {K : Kont} (ha : isCell a = true) (hb : isCell b = true) (hc : isCell c = true) (hd : isCell d = true) (he : isCell e = true) (hf : isCell f = true) (hg : isCell g = true) (hi : isCell i = true)
    {z : List Value} (hz : z.length = 8) (hk : K (.slice (some ⟨h.next, 0, none⟩) 8 8) (h.new [a, b, c, d, e, f, g, i] 1)) :
    bslA [(0, 1, false, a), (1, 1, false, b), (2, 1, false, c), (3, 1, false, d), (4, 1, false, e), (5, 1, false, f), (6, 1, false, g), (7, 1, false, i)] z 8 1 K h := by
  obtain ⟨z0, z1, z2, z3, z4, z5, z6, z7, rfl⟩ : ∃ z0 z1 z2 z3 z4 z5 z6 z7, z = [z0, z1, z2, z3, z4, z5, z6, z7] := by
    match z, hz with
    | [z0, z1, z2, z3, z4, z5, z6, z7], _ => exact ⟨_, _, _, _, _, _, _, _, rfl⟩
  simp only [bslA_iff, fillA_one, fillA_nil, ha, hb, hc, hd, he, hf, hg, hi, true_and, List.set_cons_zero, List.set_cons_succ, List.length_cons, List.length_nil]
  exact ⟨by omega, by omega, by omega, by omega, by omega, by omega, by omega, by omega, hk⟩
theorem splice_bvs (l m : List UInt8) (lo : Nat) : splice (bvs l) lo (bvs m) = bvs (l.take lo ++ m ++ l.drop (lo + m.length)) := by
  unfold splice
  simp
/-- A frame is laid into zeros. -/
theorem mk_copy {n : Nat} {m : List UInt8} (f : Fit w0 h) (hm : m.length ≤ n) (hm0 : 0 < m.length) (hn : n ≤ 1000000)
    (hk : ∀ h' q, GV w0 h' 1 (.slice (some ⟨q, 0, none⟩) n n) n (bvs (m ++ List.replicate (n - m.length) 0)) [q] → h.next ≤ q → Step h h' [] [q] → K (.slice (some ⟨q, 0, none⟩) n n) h') :
    mkA 1 1 [(.int .u8 0)] (.int .i64 (n : Int)) (.int .i64 (n : Int)) (fun v => copyA w0 1 v (.string (str m)) fun _ => K v) h := by
  simp only [mkA_nat]
  refine ⟨Nat.le_refl _, by omega, by omega, ?_⟩
  have hz : zerosL [(.int .u8 0 : Value)] n = bvs (List.replicate n 0) := by rw [zerosL_single]; simp [bvs, bv]
  rw [hz]
  have hB := f.base
  have s1 : Step h (h.new (bvs (List.replicate n 0)) 1) [] [h.next] := (Step.refl h [] (by simp)).new _ _
  refine ⟨some ⟨h.next, 0, none⟩, n, n, m.length, rfl, by simp [lenA], fun h0 => by omega, fun h0 => ⟨h.next, 0, bvs (List.replicate n 0), bvs m, rfl, hB, by simp, by simp; omega, ?_, ?_⟩⟩
  · rw [Nat.min_eq_left hm]
    exact ⟨rfl, by simp, by simp [bvs_eq]⟩
  · rw [splice_bvs, List.take_zero, List.nil_append, Nat.zero_add, List.drop_replicate]
    refine hk _ h.next ?_ (Nat.le_refl _) (s1.put (by simp) _)
    exact .inr ⟨h.next, rfl, rfl, hB, by simp, by simp, by simp; omega, by show n < 18446744073709551616; omega⟩
/-- What EncodeSuper tells. -/
def EncP (w0 : World) (h : Hp) (x : Sup) (v : Value) (h' : Hp) : Prop :=
  (x.check = 0 → ∃ q, v = .tuple #[.slice (some ⟨q, 0, none⟩) x.s.sec.toNat x.s.sec.toNat, .int .i64 0] ∧ GV w0 h' 1 (.slice (some ⟨q, 0, none⟩) x.s.sec.toNat x.s.sec.toNat) x.s.sec.toNat (bvs x.enc) [q] ∧ h.next ≤ q ∧ Step h h' [] [q]) ∧
  (x.check ≠ 0 → v = .tuple #[.slice none 0 0, .int .i64 x.check] ∧ Step h h' [] [])
theorem EncodeSuper_spec (i : x.In) : ACalls prog w0 n_layout_EncodeSuper [x.v] h (EncP w0 h x) := by
  refine ACalls.of_fit (by simpa using x.junk) fun f => c_layout_EncodeSuper (by simpa using x.junk) ?_
  simp only [s_layout_EncodeSuper, Sup.v, boxA_agg, List.toList_toArray, lenSl_slice, lenStr_string, str_size, fpureA_some, fnilA_ptr, faddA_ptr, addr_add, Nat.zero_add, Nat.add_zero, fpureQ_k, fpureQ_nilA, fpureQ_addA, fpureQ_pureA, fpureQ_guardA, fpureQ_idxSlA, fpureQ_pickA, freadQ_loadA, freadQ_loadNA, freadQ_b2sA, freadQ_guardA, freadQ_slSlA, freadQ_k, fendA, fallA_one, fstillA_nil, fguardA_tt, fguardA_ff, fguardA_tf, fguardA_ft, fguardA_undef, fpickA_true, fpickA_false, fcondA_true, fcondA_false, binA_add, binA_sub, binA_mul, binA_eql, binA_neq, binA_lss, binA_leq, binA_gtr, binA_geq, unA_not, Bool.not_true, Bool.not_false, convA_int, extA_tuple, List.getElem?_toArray, List.getElem?_cons_zero, List.getElem?_cons_succ]
  have s1 : Step h (h.new x.e 12) [] [] := ((Step.refl h [] (by simp)).new _ _).drop
  have hq1 : (h.new x.e 12).blk h.next = some x.e := by simp
  have hn1 : h.next < (h.new x.e 12).next := by simp
  have hB := f.base
  generalize h.new x.e 12 = h1 at s1 hq1 hn1 ⊢
  refine loadNA_whole hB hq1 rfl ?_
  refine callA_of (CheckSuper_spec i) fun _ h2 ⟨e, s2⟩ f2 => ?_
  subst e
  have hq2 := (s2.keep _ hn1 (by simp)).1.trans hq1
  have st := s1.trans s2
  by_cases hc : x.check = 0
  · have c1 : (x.check != 0) = false := by simp [hc]
    have hsz := Sup.sizes hc
    have hin := Sup.ints_in hc
    have G := x.s.good_iff.1 (Sup.good hc)
    have gb := G.bits
    have hgen := i.gen
    have hseed := i.s.seed
    simp only [c1, lenSl_slice, lenStr_string, str_size, fpureA_some, fnilA_ptr, faddA_ptr, addr_add, Nat.zero_add, Nat.add_zero, fpureQ_k, fpureQ_nilA, fpureQ_addA, fpureQ_pureA, fpureQ_guardA, fpureQ_idxSlA, fpureQ_pickA, freadQ_loadA, freadQ_loadNA, freadQ_b2sA, freadQ_guardA, freadQ_slSlA, freadQ_k, fendA, fallA_one, fstillA_nil, fguardA_tt, fguardA_ff, fguardA_tf, fguardA_ft, fguardA_undef, fpickA_true, fpickA_false, fcondA_true, fcondA_false, binA_add, binA_sub, binA_mul, binA_eql, binA_neq, binA_lss, binA_leq, binA_gtr, binA_geq, unA_not, Bool.not_true, Bool.not_false, convA_int, extA_tuple, List.getElem?_toArray, List.getElem?_cons_zero, List.getElem?_cons_succ]
    have hcut : (x.e.drop 2).take 10 = x.s.e := rfl
    refine loadNA_part hB hq2 hcut (by simp [Sup.e, Shp.e]) ?_
    simp only [newA_iff]
    refine ⟨by simp, storeN0 (cs := [.int .i64 0, .int .i64 0, .int .i64 0, .int .i64 0, .int .i64 0, .int .i64 0, .int .i64 0, .int .u64 0, .int .i64 0, .bool false]) f2.base (by simp) rfl rfl (by rfl) ?_⟩
    rw [put_new]
    have s3 : Step h2 (h2.new x.s.e 10) [] [] := ((Step.refl h2 [] (by simp)).new _ _).drop
    have hq3 : (h2.new x.s.e 10).blk h2.next = some x.s.e := by simp
    have hn3 : h2.next < (h2.new x.s.e 10).next := by simp
    have hB3 := f2.base
    have hn2 : h.next < h2.next := by have := s2.next; omega
    generalize h2.new x.s.e 10 = h3 at s3 hq3 hn3 ⊢
    have hq13 := (s3.keep _ hn2 (by simp)).1.trans hq2
    have hn13 : h.next < h3.next := by have := s3.next; omega
    have st3 := st.trans s3
    try simp only [lenSl_slice, lenStr_string, str_size, fpureA_some, fnilA_ptr, faddA_ptr, addr_add, Nat.zero_add, Nat.add_zero, fpureQ_k, fpureQ_nilA, fpureQ_addA, fpureQ_pureA, fpureQ_guardA, fpureQ_idxSlA, fpureQ_pickA, freadQ_loadA, freadQ_loadNA, freadQ_b2sA, freadQ_guardA, freadQ_slSlA, freadQ_k, fendA, fallA_one, fstillA_nil, fguardA_tt, fguardA_ff, fguardA_tf, fguardA_ft, fguardA_undef, fpickA_true, fpickA_false, fcondA_true, fcondA_false, binA_add, binA_sub, binA_mul, binA_eql, binA_neq, binA_lss, binA_leq, binA_gtr, binA_geq, unA_not, Bool.not_true, Bool.not_false, convA_int, extA_tuple, List.getElem?_toArray, List.getElem?_cons_zero, List.getElem?_cons_succ]
    refine loadA_at hB3 hq3 (by rfl) ?_
    refine callA_of (NewWriter_spec x.s.sec i.s.sec) fun _ h4 ⟨e, w4, s4⟩ f4 => ?_
    subst e
    rw [show max x.s.sec 0 = x.s.sec by omega] at w4
    have hq14 := (s4.keep _ hn13 (by simp)).1.trans hq13
    have hq34 := (s4.keep _ hn3 (by simp)).1.trans hq3
    have st4 := st3.after s4 (by simp)
    try simp only [lenSl_slice, lenStr_string, str_size, fpureA_some, fnilA_ptr, faddA_ptr, addr_add, Nat.zero_add, Nat.add_zero, fpureQ_k, fpureQ_nilA, fpureQ_addA, fpureQ_pureA, fpureQ_guardA, fpureQ_idxSlA, fpureQ_pickA, freadQ_loadA, freadQ_loadNA, freadQ_b2sA, freadQ_guardA, freadQ_slSlA, freadQ_k, fendA, fallA_one, fstillA_nil, fguardA_tt, fguardA_ff, fguardA_tf, fguardA_ft, fguardA_undef, fpickA_true, fpickA_false, fcondA_true, fcondA_false, binA_add, binA_sub, binA_mul, binA_eql, binA_neq, binA_lss, binA_leq, binA_gtr, binA_geq, unA_not, Bool.not_true, Bool.not_false, convA_int, extA_tuple, List.getElem?_toArray, List.getElem?_cons_zero, List.getElem?_cons_succ]
    refine loadA_at hB hq14 (by rfl) ?_
    obtain ⟨g, hg⟩ := Int.eq_ofNat_of_zero_le hgen.1
    rw [hg]
    refine callA_of (U64_spec g w4 (by simp)) fun _ h5 ⟨S5, w5, s5⟩ f5 => ?_
    rw [WS.put_ok (by simp; omega), List.nil_append] at w5
    have n34 := s4.next
    have n45 := s5.next
    have hn14 : h.next < h4.next := by omega
    have hn34 : h2.next < h4.next := by omega
    have hq15 := (s5.keep _ hn14 (by simp; omega)).1.trans hq14
    have hq35 := (s5.keep _ hn34 (by simp; omega)).1.trans hq34
    have hS5 : ∀ b, b ∈ S5 → h3.next ≤ b := s5.fresh (by simp) (by omega)
    have st5 := st4.after s5 (by simp; omega)
    try simp only [lenSl_slice, lenStr_string, str_size, fpureA_some, fnilA_ptr, faddA_ptr, addr_add, Nat.zero_add, Nat.add_zero, fpureQ_k, fpureQ_nilA, fpureQ_addA, fpureQ_pureA, fpureQ_guardA, fpureQ_idxSlA, fpureQ_pickA, freadQ_loadA, freadQ_loadNA, freadQ_b2sA, freadQ_guardA, freadQ_slSlA, freadQ_k, fendA, fallA_one, fstillA_nil, fguardA_tt, fguardA_ff, fguardA_tf, fguardA_ft, fguardA_undef, fpickA_true, fpickA_false, fcondA_true, fcondA_false, binA_add, binA_sub, binA_mul, binA_eql, binA_neq, binA_lss, binA_leq, binA_gtr, binA_geq, unA_not, Bool.not_true, Bool.not_false, convA_int, extA_tuple, List.getElem?_toArray, List.getElem?_cons_zero, List.getElem?_cons_succ]
    refine loadA_at hB hq15 (by rfl) ?_
    refine loadA_at hB3 hq35 (by rfl) ?_
    refine loadA_at hB3 hq35 (by rfl) ?_
    refine loadA_at hB3 hq35 (by rfl) ?_
    refine loadA_at hB3 hq35 (by rfl) ?_
    refine loadA_at hB3 hq35 (by rfl) ?_
    refine loadA_at hB3 hq35 (by rfl) ?_
    refine loadA_at hB3 hq35 (by rfl) ?_
    refine fill8 rfl rfl rfl rfl rfl rfl rfl rfl (by rfl) ?_
    have hmap : [(Value.int .i64 x.root), .int .i64 x.s.sec, .int .i64 x.s.tot, .int .i64 x.s.jou, .int .i64 x.s.pck, .int .i64 x.s.mn, .int .i64 x.s.nm, .int .i64 x.s.mx] = x.ints.map (.int .i64 ·) := rfl
    rw [hmap]
    have s6 : Step h5 (h5.new (x.ints.map (.int .i64 ·)) 1) [] [h5.next] := (Step.refl h5 [] (by simp)).new _ _
    have hq6 : (h5.new (x.ints.map (.int .i64 ·)) 1).blk h5.next = some (x.ints.map (.int .i64 ·)) := by simp
    have hn6 : h5.next < (h5.new (x.ints.map (.int .i64 ·)) 1).next := by simp
    generalize h5.new (x.ints.map (.int .i64 ·)) 1 = h6 at s6 hq6 hn6 ⊢
    have w6 := w5.frame s6 (by simp)
    have st6 := st5.after s6 (by simp)
    try simp only [lenSl_slice, lenStr_string, str_size, fpureA_some, fnilA_ptr, faddA_ptr, addr_add, Nat.zero_add, Nat.add_zero, fpureQ_k, fpureQ_nilA, fpureQ_addA, fpureQ_pureA, fpureQ_guardA, fpureQ_idxSlA, fpureQ_pickA, freadQ_loadA, freadQ_loadNA, freadQ_b2sA, freadQ_guardA, freadQ_slSlA, freadQ_k, fendA, fallA_one, fstillA_nil, fguardA_tt, fguardA_ff, fguardA_tf, fguardA_ft, fguardA_undef, fpickA_true, fpickA_false, fcondA_true, fcondA_false, binA_add, binA_sub, binA_mul, binA_eql, binA_neq, binA_lss, binA_leq, binA_gtr, binA_geq, unA_not, Bool.not_true, Bool.not_false, convA_int, extA_tuple, List.getElem?_toArray, List.getElem?_cons_zero, List.getElem?_cons_succ]
    have hl8 : x.ints.length = 8 := rfl
    have hS5' : ∀ b, b ∈ S5 → b < h5.next := fun b hb => (w5.lt b hb).2
    refine ⟨9, ?_⟩
    refine enc_loop (p := h3.next) (q := h5.next) (m := x.s.sec) hin (by simp [hl8]) (by have := f5.base; omega) x.ints [] h6 (be 8 g) S5 rfl w6 hq6 (fun e => by have := hS5' _ e; omega) hn6 (by simp [hl8]; omega) (by omega) fun h7 S7 w7 s7 => ?_
    have n67 := s7.next
    have hS7 : ∀ b, b ∈ S7 → h3.next ≤ b := s7.fresh hS5 (by omega)
    have st7 := st6.after s7 (fun b hb => by have := hS5 b hb; omega)
    have hq37 := (s7.keep _ (show h2.next < h6.next by omega) (fun e => by have := hS5 _ e; omega)).1.trans ((s6.keep _ (show h2.next < h5.next by omega) (by simp)).1.trans hq35)
    have hbody7 : (be 8 g ++ x.ints.flatMap (fun n => be 4 n.toNat)).length = 40 := by simp [Sup.ints]
    try simp only [lenSl_slice, lenStr_string, str_size, fpureA_some, fnilA_ptr, faddA_ptr, addr_add, Nat.zero_add, Nat.add_zero, fpureQ_k, fpureQ_nilA, fpureQ_addA, fpureQ_pureA, fpureQ_guardA, fpureQ_idxSlA, fpureQ_pickA, freadQ_loadA, freadQ_loadNA, freadQ_b2sA, freadQ_guardA, freadQ_slSlA, freadQ_k, fendA, fallA_one, fstillA_nil, fguardA_tt, fguardA_ff, fguardA_tf, fguardA_ft, fguardA_undef, fpickA_true, fpickA_false, fcondA_true, fcondA_false, binA_add, binA_sub, binA_mul, binA_eql, binA_neq, binA_lss, binA_leq, binA_gtr, binA_geq, unA_not, Bool.not_true, Bool.not_false, convA_int, extA_tuple, List.getElem?_toArray, List.getElem?_cons_zero, List.getElem?_cons_succ]
    refine loadA_at hB3 hq37 (by rfl) ?_
    obtain ⟨sd, hsd⟩ := Int.eq_ofNat_of_zero_le hseed.1
    rw [hsd]
    refine callA_of (U64_spec sd w7 (by simp only [hbody7]; omega)) fun _ h8 ⟨S8, w8, s8⟩ f8 => ?_
    rw [WS.put_ok (by rw [hbody7]; simp; omega)] at w8
    have n78 := s8.next
    have hq38 := (s8.keep _ (show h2.next < h7.next by omega) (fun e => by have := hS7 _ e; omega)).1.trans hq37
    have hS8 : ∀ b, b ∈ S8 → h3.next ≤ b := s8.fresh hS7 (by omega)
    have st8 := st7.after s8 (fun b hb => by have := hS7 b hb; omega)
    have hbody8 : (be 8 g ++ x.ints.flatMap (fun n => be 4 n.toNat) ++ be 8 sd).length = 48 := by rw [List.length_append, hbody7]; simp
    try simp only [lenSl_slice, lenStr_string, str_size, fpureA_some, fnilA_ptr, faddA_ptr, addr_add, Nat.zero_add, Nat.add_zero, fpureQ_k, fpureQ_nilA, fpureQ_addA, fpureQ_pureA, fpureQ_guardA, fpureQ_idxSlA, fpureQ_pickA, freadQ_loadA, freadQ_loadNA, freadQ_b2sA, freadQ_guardA, freadQ_slSlA, freadQ_k, fendA, fallA_one, fstillA_nil, fguardA_tt, fguardA_ff, fguardA_tf, fguardA_ft, fguardA_undef, fpickA_true, fpickA_false, fcondA_true, fcondA_false, binA_add, binA_sub, binA_mul, binA_eql, binA_neq, binA_lss, binA_leq, binA_gtr, binA_geq, unA_not, Bool.not_true, Bool.not_false, convA_int, extA_tuple, List.getElem?_toArray, List.getElem?_cons_zero, List.getElem?_cons_succ]
    refine loadA_at hB3 hq38 (by rfl) ?_
    have eb : IntKind.u16.wrap x.s.bits = ((x.s.bits.toNat : Nat) : Int) := by rw [IntWalk.u16_in _ (by omega)]; omega
    simp only [lenSl_slice, lenStr_string, str_size, fpureA_some, fnilA_ptr, faddA_ptr, addr_add, Nat.zero_add, Nat.add_zero, fpureQ_k, fpureQ_nilA, fpureQ_addA, fpureQ_pureA, fpureQ_guardA, fpureQ_idxSlA, fpureQ_pickA, freadQ_loadA, freadQ_loadNA, freadQ_b2sA, freadQ_guardA, freadQ_slSlA, freadQ_k, fendA, fallA_one, fstillA_nil, fguardA_tt, fguardA_ff, fguardA_tf, fguardA_ft, fguardA_undef, fpickA_true, fpickA_false, fcondA_true, fcondA_false, binA_add, binA_sub, binA_mul, binA_eql, binA_neq, binA_lss, binA_leq, binA_gtr, binA_geq, unA_not, Bool.not_true, Bool.not_false, convA_int, extA_tuple, List.getElem?_toArray, List.getElem?_cons_zero, List.getElem?_cons_succ, eb]
    refine callA_of (U16_spec x.s.bits.toNat w8 (by simp only [hbody8]; omega)) fun _ h9 ⟨S9, w9, s9⟩ f9 => ?_
    rw [WS.put_ok (by rw [hbody8]; simp; omega)] at w9
    have n89 := s9.next
    have hq39 := (s9.keep _ (show h2.next < h8.next by omega) (fun e => by have := hS8 _ e; omega)).1.trans hq38
    have hS9 : ∀ b, b ∈ S9 → h3.next ≤ b := s9.fresh hS8 (by omega)
    have st9 := st8.after s9 (fun b hb => by have := hS8 b hb; omega)
    have hbody9 : (be 8 g ++ x.ints.flatMap (fun n => be 4 n.toNat) ++ be 8 sd ++ be 2 x.s.bits.toNat).length = 50 := by rw [List.length_append, hbody8]; simp
    have gt : x.gen.toNat = g := by omega
    have sdt : x.s.seed.toNat = sd := by omega
    obtain ⟨sec, hsec⟩ := Int.eq_ofNat_of_zero_le (show 0 ≤ x.s.sec by omega)
    have sect : x.s.sec.toNat = sec := by omega
    -- the byte that tells whether it takes twins together, and what comes then
    have fin : ∀ (d : Nat), d = (if x.s.dd then 1 else 0) → ∀ {h' : Hp}, Fit w0 h' → ∀ {S : List Nat}, Wr w0 h' h3.next ((⟨x.s.sec, be 8 g ++ x.ints.flatMap (fun n => be 4 n.toNat) ++ be 8 sd ++ be 2 x.s.bits.toNat, false⟩ : WS).put (be 1 d)) S → h'.blk h2.next = some x.s.e → Step h h' [] [] → h3.next ≤ h'.next →
        (callA prog w0 n_codec_Writer_Done [ptr h3.next] fun v76 => pureA (extA v76 0) fun v77 => pureA (extA v76 1) fun v78 => callA prog w0 n_codec_Frame [.int .u8 83, v77] fun v81 => pureA (extA v81 0) fun v82 => pureA (extA v81 1) fun v83 => loadA w0 (.pointer (some ⟨h2.next, 0, none⟩)) fun v85 =>
          mkA 1 1 [(.int .u8 0)] v85 v85 fun v86 => copyA w0 1 v86 v82 fun v89 => retA [v86, (.int .i64 0)] (EncP w0 h x)) h' := by
      intro d hd h' f' S w' hb' st' hn'
      have hd2 : d < 256 := by rw [hd]; split <;> omega
      rw [WS.put_ok (by rw [hbody9]; simp; omega)] at w'
      refine callA_of (WDone_spec w') fun _ h10 ⟨e, e10⟩ f10 => ?_
      subst e e10
      have hbe : be 1 d = [if x.s.dd then 1 else 0] := by
        rw [hd]
        cases x.s.dd <;> rfl
      have hbody : be 8 g ++ x.ints.flatMap (fun n => be 4 n.toNat) ++ be 8 sd ++ be 2 x.s.bits.toNat ++ be 1 d = x.body := by rw [hbe, Sup.body, gt, sdt]
      simp only [WS.out, WS.err, Bool.false_eq_true, if_false, hbody, lenSl_slice, lenStr_string, str_size, fpureA_some, fnilA_ptr, faddA_ptr, addr_add, Nat.zero_add, Nat.add_zero, fpureQ_k, fpureQ_nilA, fpureQ_addA, fpureQ_pureA, fpureQ_guardA, fpureQ_idxSlA, fpureQ_pickA, freadQ_loadA, freadQ_loadNA, freadQ_b2sA, freadQ_guardA, freadQ_slSlA, freadQ_k, fendA, fallA_one, fstillA_nil, fguardA_tt, fguardA_ff, fguardA_tf, fguardA_ft, fguardA_undef, fpickA_true, fpickA_false, fcondA_true, fcondA_false, binA_add, binA_sub, binA_mul, binA_eql, binA_neq, binA_lss, binA_leq, binA_gtr, binA_geq, unA_not, Bool.not_true, Bool.not_false, convA_int, extA_tuple, List.getElem?_toArray, List.getElem?_cons_zero, List.getElem?_cons_succ]
      refine callA_of (Frame_spec 83 (by omega) x.body (by rw [Sup.body_length]; omega)) fun _ h11 ⟨e, s11⟩ f11 => ?_
      rw [if_neg (by rw [Sup.body_length]; omega)] at e
      subst e
      have n11 := s11.next
      have hq11 := (s11.keep _ (show h2.next < h10.next by omega) (by simp)).1.trans hb'
      try simp only [lenSl_slice, lenStr_string, str_size, fpureA_some, fnilA_ptr, faddA_ptr, addr_add, Nat.zero_add, Nat.add_zero, fpureQ_k, fpureQ_nilA, fpureQ_addA, fpureQ_pureA, fpureQ_guardA, fpureQ_idxSlA, fpureQ_pickA, freadQ_loadA, freadQ_loadNA, freadQ_b2sA, freadQ_guardA, freadQ_slSlA, freadQ_k, fendA, fallA_one, fstillA_nil, fguardA_tt, fguardA_ff, fguardA_tf, fguardA_ft, fguardA_undef, fpickA_true, fpickA_false, fcondA_true, fcondA_false, binA_add, binA_sub, binA_mul, binA_eql, binA_neq, binA_lss, binA_leq, binA_gtr, binA_geq, unA_not, Bool.not_true, Bool.not_false, convA_int, extA_tuple, List.getElem?_toArray, List.getElem?_cons_zero, List.getElem?_cons_succ]
      refine loadA_at hB3 hq11 (by rfl) ?_
      rw [hsec]
      have hfl : (frame 83 x.body).length = 63 := by rw [frame_length, Sup.body_length]
      refine mk_copy f11 (by rw [hfl]; omega) (by rw [hfl]; omega) (by omega) fun h12 q g12 hq12 s12 => ?_
      rw [hfl] at g12
      simp only [retA_iff, oneOf_two]
      refine ⟨by simp, fun _ => ⟨q, by rw [sect], ?_, by have := st'.next; omega, ?_⟩, fun hne => absurd hc hne⟩
      · rw [sect, Sup.enc, sect]; exact g12
      · exact (st'.trans s11).trans s12
    try simp only [lenSl_slice, lenStr_string, str_size, fpureA_some, fnilA_ptr, faddA_ptr, addr_add, Nat.zero_add, Nat.add_zero, fpureQ_k, fpureQ_nilA, fpureQ_addA, fpureQ_pureA, fpureQ_guardA, fpureQ_idxSlA, fpureQ_pickA, freadQ_loadA, freadQ_loadNA, freadQ_b2sA, freadQ_guardA, freadQ_slSlA, freadQ_k, fendA, fallA_one, fstillA_nil, fguardA_tt, fguardA_ff, fguardA_tf, fguardA_ft, fguardA_undef, fpickA_true, fpickA_false, fcondA_true, fcondA_false, binA_add, binA_sub, binA_mul, binA_eql, binA_neq, binA_lss, binA_leq, binA_gtr, binA_geq, unA_not, Bool.not_true, Bool.not_false, convA_int, extA_tuple, List.getElem?_toArray, List.getElem?_cons_zero, List.getElem?_cons_succ]
    refine loadA_at hB3 hq39 (by rfl) ?_
    simp only [condA_bool]
    refine ⟨fun hdd => ?_, fun hdd => ?_⟩
    · refine callA_of (U8_spec 1 (by omega) w9 (by simp only [hbody9]; omega)) fun _ h10 ⟨S10, w10, s10⟩ f10 => ?_
      have n910 := s10.next
      exact fin 1 (by rw [hdd]; rfl) f10 w10 ((s10.keep _ (show h2.next < h9.next by omega) (fun e => by have := hS9 _ e; omega)).1.trans hq39) (st9.after s10 (fun b hb => by have := hS9 b hb; omega)) (by omega)
    · refine callA_of (U8_spec 0 (by omega) w9 (by simp only [hbody9]; omega)) fun _ h10 ⟨S10, w10, s10⟩ f10 => ?_
      have n910 := s10.next
      exact fin 0 (by rw [hdd]; rfl) f10 w10 ((s10.keep _ (show h2.next < h9.next by omega) (fun e => by have := hS9 _ e; omega)).1.trans hq39) (st9.after s10 (fun b hb => by have := hS9 b hb; omega)) (by omega)
  · have c1 : (x.check != 0) = true := by simp [hc]
    simp only [c1, lenSl_slice, lenStr_string, str_size, fpureA_some, fnilA_ptr, faddA_ptr, addr_add, Nat.zero_add, Nat.add_zero, fpureQ_k, fpureQ_nilA, fpureQ_addA, fpureQ_pureA, fpureQ_guardA, fpureQ_idxSlA, fpureQ_pickA, freadQ_loadA, freadQ_loadNA, freadQ_b2sA, freadQ_guardA, freadQ_slSlA, freadQ_k, fendA, fallA_one, fstillA_nil, fguardA_tt, fguardA_ff, fguardA_tf, fguardA_ft, fguardA_undef, fpickA_true, fpickA_false, fcondA_true, fcondA_false, binA_add, binA_sub, binA_mul, binA_eql, binA_neq, binA_lss, binA_leq, binA_gtr, binA_geq, unA_not, Bool.not_true, Bool.not_false, convA_int, extA_tuple, List.getElem?_toArray, List.getElem?_cons_zero, List.getElem?_cons_succ, retA_iff, oneOf_two]
    exact ⟨by simp, fun e => absurd e hc, fun _ => ⟨rfl, st⟩⟩
end
end Go.Proofs.Ytihebhdgjnibfaa.Ah
namespace Go.Proofs.Ytihebhdgjnibfaa.Ah
open Go

/-- Numbers of these widths, one behind the other. -/
def RS.nums : RS → List Nat → List Nat × RS
  | st, [] => ([], st)
  | st, k :: ks => (rdn (st.raw k).1 :: ((st.raw k).2.nums ks).1, ((st.raw k).2.nums ks).2)
theorem numsK_length : ∀ (ks : List Nat) (st : RS), (st.nums ks).1.length = ks.length := by
  intro ks
  induction ks with
  | nil => intro st; rfl
  | cons k ks ih => intro st; simp [RS.nums, ih]
theorem nums_append : ∀ (ks ms : List Nat) (st : RS), st.nums (ks ++ ms) = ((st.nums ks).1 ++ ((st.nums ks).2.nums ms).1, ((st.nums ks).2.nums ms).2) := by
  intro ks
  induction ks with
  | nil => intro ms st; simp [RS.nums]
  | cons k ks ih => intro ms st; simp [RS.nums, ih]
theorem nums_err : ∀ (ks : List Nat) (st : RS), st.err ≠ 0 → (st.nums ks).2.err ≠ 0 := by
  intro ks
  induction ks with
  | nil => intro st h; exact h
  | cons k ks ih =>
    intro st h
    simp only [RS.nums]
    apply ih
    simp [RS.raw, h]
theorem raw_at {st : RS} {k : Nat} (h : st.err = 0) (hk : k ≤ st.s.length) : st.raw k = (st.s.take k, ⟨st.s.drop k, 0⟩) := by
  obtain ⟨s, e⟩ := st
  simp only at h hk
  subst h
  unfold RS.raw
  rw [if_neg (by simp), if_neg (by omega), if_neg (by show ¬ ((s.length : Int) < (k : Int)); omega)]
  simp
theorem nums_short : ∀ (ks : List Nat) (st : RS), st.s.length < ks.sum → (st.nums ks).2.err ≠ 0 := by
  intro ks
  induction ks with
  | nil => intro st h; simp at h
  | cons k ks ih =>
    intro st h
    simp only [RS.nums]
    by_cases he : st.err = 0
    · by_cases hk : k ≤ st.s.length
      · rw [raw_at he hk]
        apply ih
        simp at h ⊢
        omega
      · apply nums_err
        unfold RS.raw
        rw [if_neg (by simpa using he), if_neg (by omega), if_pos (by omega)]
        simp
    · apply nums_err
      simp [RS.raw, he]
theorem nums_left : ∀ (ks : List Nat) (st : RS), st.err = 0 → ks.sum ≤ st.s.length → (st.nums ks).2 = ⟨st.s.drop ks.sum, 0⟩ := by
  intro ks
  induction ks with
  | nil => intro st h _; obtain ⟨s, e⟩ := st; simp at h; subst h; simp [RS.nums]
  | cons k ks ih =>
    intro st h hs
    simp only [List.sum_cons] at hs
    simp only [RS.nums]
    rw [raw_at h (by omega), ih _ rfl (by simp; omega)]
    simp
theorem nums_be : ∀ (kv : List (Nat × Nat)) (rest : List UInt8), (∀ p, p ∈ kv → p.2 < 256 ^ p.1) → (⟨kv.flatMap (fun p => be p.1 p.2) ++ rest, 0⟩ : RS).nums (kv.map (·.1)) = (kv.map (·.2), ⟨rest, 0⟩) := by
  intro kv
  induction kv with
  | nil => intro rest h; simp [RS.nums]
  | cons p kv ih =>
    intro rest h
    have h0 := h p (by simp)
    simp only [List.map_cons, RS.nums, List.flatMap_cons, List.append_assoc]
    rw [raw_at rfl (by simp)]
    have e1 : (be p.1 p.2 ++ (kv.flatMap (fun p => be p.1 p.2) ++ rest)).take p.1 = be p.1 p.2 := List.take_left' (by simp)
    have e2 : (be p.1 p.2 ++ (kv.flatMap (fun p => be p.1 p.2) ++ rest)).drop p.1 = kv.flatMap (fun p => be p.1 p.2) ++ rest := List.drop_left' (by simp)
    simp only [e1, e2]
    rw [ih rest (fun q hq => h q (by simp [hq])), rdn_be, Nat.mod_eq_of_lt h0]
def lens : List Nat := [8, 4, 4, 4, 4, 4, 4, 4, 4, 8, 2, 1]
theorem nums_lt : ∀ (ks : List Nat) (st : RS) (i k : Nat), ks[i]? = some k → ((st.nums ks).1.getD i 0) < 256 ^ k := by
  intro ks
  induction ks with
  | nil => intro st i k h; simp at h
  | cons j ks ih =>
    intro st i k h
    cases i with
    | zero =>
      simp at h
      subst h
      simpa [RS.nums] using rdn_raw st j
    | succ i =>
      simp only [List.getElem?_cons_succ] at h
      simpa [RS.nums] using ih (st.raw j).2 i k h
/-- The superblock of these numbers. -/
def supOf (ns : List Nat) : Sup :=
  ⟨(ns.getD 0 0 : Nat), (ns.getD 1 0 : Nat), ⟨(ns.getD 2 0 : Nat), (ns.getD 3 0 : Nat), (ns.getD 4 0 : Nat), (ns.getD 5 0 : Nat), (ns.getD 6 0 : Nat), (ns.getD 7 0 : Nat), (ns.getD 8 0 : Nat), (ns.getD 9 0 : Nat), (ns.getD 10 0 : Nat), decide (ns.getD 11 0 = 1)⟩⟩
/-- What a body says. -/
def supB (l : List UInt8) : Sup := supOf ((⟨l, 0⟩ : RS).nums lens).1
theorem supB_in (l : List UInt8) : (supB l).In := by
  have b := fun i k h => nums_lt lens ⟨l, 0⟩ i k h
  have b0 := b 0 8 rfl
  have b1 := b 1 4 rfl
  have b2 := b 2 4 rfl
  have b3 := b 3 4 rfl
  have b4 := b 4 4 rfl
  have b5 := b 5 4 rfl
  have b6 := b 6 4 rfl
  have b7 := b 7 4 rfl
  have b8 := b 8 4 rfl
  have b9 := b 9 8 rfl
  have b10 := b 10 2 rfl
  unfold supB supOf
  generalize ((⟨l, 0⟩ : RS).nums lens).1 = ns at *
  generalize ns.getD 0 0 = n0 at *
  generalize ns.getD 1 0 = n1 at *
  generalize ns.getD 2 0 = n2 at *
  generalize ns.getD 3 0 = n3 at *
  generalize ns.getD 4 0 = n4 at *
  generalize ns.getD 5 0 = n5 at *
  generalize ns.getD 6 0 = n6 at *
  generalize ns.getD 7 0 = n7 at *
  generalize ns.getD 8 0 = n8 at *
  generalize ns.getD 9 0 = n9 at *
  generalize ns.getD 10 0 = n10 at *
  clear b
  refine ⟨?_, ?_, ⟨?_, ?_, ?_, ?_, ?_, ?_, ?_, ?_, ?_⟩⟩ <;> simp only [i64R] <;> omega
/-- The superblock of any bytes. -/
def decB (l : List UInt8) : Option Sup :=
  if (unf l).2.2.2 = 0 ∧ (unf l).1 = 83 ∧ (unf l).2.1.length = 51 ∧ (supB (unf l).2.1).check = 0 ∧ (supB (unf l).2.1).enc = l then some (supB (unf l).2.1) else none
theorem supB_body {x : Sup} (i : x.In) (h : x.check = 0) : supB x.body = x := by
  have hin := Sup.ints_in h
  have G := x.s.good_iff.1 (Sup.good h)
  have gb := G.bits
  have hgen := i.gen
  have hseed := i.s.seed
  obtain ⟨gen, root, ⟨sec, tot, jou, pck, mn, nm, mx, seed, bits, dd⟩⟩ := x
  simp only [Sup.ints, List.mem_cons, List.not_mem_nil, or_false, forall_eq_or_imp, forall_eq] at hin
  simp only at hgen hseed gb hin
  have hb : (⟨gen, root, ⟨sec, tot, jou, pck, mn, nm, mx, seed, bits, dd⟩⟩ : Sup).body = ([(8, gen.toNat), (4, root.toNat), (4, sec.toNat), (4, tot.toNat), (4, jou.toNat), (4, pck.toNat), (4, mn.toNat), (4, nm.toNat), (4, mx.toNat), (8, seed.toNat), (2, bits.toNat), (1, if dd then 1 else 0)] : List (Nat × Nat)).flatMap (fun p => be p.1 p.2) ++ [] := by
    cases dd <;> simp [Sup.body, Sup.ints, be]
  have := nums_be [(8, gen.toNat), (4, root.toNat), (4, sec.toNat), (4, tot.toNat), (4, jou.toNat), (4, pck.toNat), (4, mn.toNat), (4, nm.toNat), (4, mx.toNat), (8, seed.toNat), (2, bits.toNat), (1, if dd then 1 else 0)] [] (by
    intro p hp
    simp only [List.mem_cons, List.not_mem_nil, or_false] at hp
    rcases hp with rfl | rfl | rfl | rfl | rfl | rfl | rfl | rfl | rfl | rfl | rfl | rfl <;> simp only <;> first | omega | (split <;> omega))
  unfold supB
  rw [hb]
  have hl : lens = ([(8, gen.toNat), (4, root.toNat), (4, sec.toNat), (4, tot.toNat), (4, jou.toNat), (4, pck.toNat), (4, mn.toNat), (4, nm.toNat), (4, mx.toNat), (8, seed.toNat), (2, bits.toNat), (1, if dd then 1 else 0)] : List (Nat × Nat)).map (·.1) := rfl
  rw [hl, this]
  simp only [supOf, List.map_cons, List.map_nil, List.getD_cons_zero, List.getD_cons_succ]
  have hd : decide ((if dd then 1 else 0) = 1) = dd := by cases dd <;> rfl
  rw [hd]
  congr 1
  · omega
  · omega
  · congr 1 <;> omega
theorem dec_enc {x : Sup} (i : x.In) (h : x.check = 0) : decB x.enc = some x := by
  unfold decB
  rw [Sup.unf_enc]
  simp [supB_body i h, h, Sup.body_length]
theorem dec_some {l : List UInt8} {x : Sup} (h : decB l = some x) : x.In ∧ x.check = 0 ∧ x.enc = l := by
  unfold decB at h
  split at h
  · rename_i h1
    simp at h
    subst h
    exact ⟨supB_in _, h1.2.2.2.1, h1.2.2.2.2⟩
  · simp at h
section
variable {w0 : World} {h : Hp} {K : Kont}
def ptrsQ (q : Nat) : List Value := (List.range 8).map fun i => .pointer (some ⟨q, i + 1, none⟩)
theorem lread_loop {k0 : Value → Value → Value → Hp → Prop} {q r qa : Nat} {g : Nat} {x5 : Value} (hq : w0.heap.size ≤ q) (hqa : w0.heap.size ≤ qa) (hqr : q ≠ r) (hqq : q ≠ qa) (hra : r ≠ qa) : ∀ (m i : Nat) (h : Hp) (st : RS) (vals : List Nat) (rest : List Value), i + m = 8 → vals.length = i → rest.length = m + 3 → h.blk q = some (.int .u64 (g : Int) :: (vals.map (fun n : Nat => Value.int .i64 (n : Int)) ++ rest)) → q < h.next → h.blk qa = some (ptrsQ q) → qa < h.next → Rd w0 h r st →
    (∀ h', h'.blk q = some (.int .u64 (g : Int) :: ((vals ++ (st.nums (List.replicate m 4)).1).map (fun n : Nat => Value.int .i64 (n : Int)) ++ rest.drop m)) → Rd w0 h' r (st.nums (List.replicate m 4)).2 → Step h h' [q, r] [q, r] → k0 (ptr q) (ptr r) x5 h') →
    layout_read_L1 prog w0 k0 (m + 1) (ptr q) (ptr r) x5 (.slice (some ⟨qa, 0, none⟩) 8 8) (.int .i64 8) (.int .i64 (i : Int)) h := by
  intro m
  induction m with
  | zero =>
    intro i h st vals rest hi hv hr hb hlt hba hlta w hk
    have : i = 8 := by omega
    subst this
    rw [layout_read_L1]
    simp only [layout_read_B1, lenSl_slice, lenStr_string, str_size, fpureA_some, fnilA_ptr, faddA_ptr, addr_add, Nat.zero_add, Nat.add_zero, fpureQ_k, fpureQ_nilA, fpureQ_addA, fpureQ_pureA, fpureQ_guardA, fpureQ_idxSlA, fpureQ_pickA, freadQ_loadA, freadQ_loadNA, freadQ_b2sA, freadQ_guardA, freadQ_slSlA, freadQ_k, fendA, fallA_one, fstillA_nil, fguardA_tt, fguardA_ff, fguardA_tf, fguardA_ft, fguardA_undef, fpickA_true, fpickA_false, fcondA_true, fcondA_false, binA_add, binA_sub, binA_mul, binA_eql, binA_neq, binA_lss, binA_leq, binA_gtr, binA_geq, unA_not, Bool.not_true, Bool.not_false, convA_int, extA_tuple, List.getElem?_toArray, List.getElem?_cons_zero, List.getElem?_cons_succ]
    have c1 : decide (((8 : Nat) : Int) < 8) = false := rfl
    simp only [c1, lenSl_slice, lenStr_string, str_size, fpureA_some, fnilA_ptr, faddA_ptr, addr_add, Nat.zero_add, Nat.add_zero, fpureQ_k, fpureQ_nilA, fpureQ_addA, fpureQ_pureA, fpureQ_guardA, fpureQ_idxSlA, fpureQ_pickA, freadQ_loadA, freadQ_loadNA, freadQ_b2sA, freadQ_guardA, freadQ_slSlA, freadQ_k, fendA, fallA_one, fstillA_nil, fguardA_tt, fguardA_ff, fguardA_tf, fguardA_ft, fguardA_undef, fpickA_true, fpickA_false, fcondA_true, fcondA_false, binA_add, binA_sub, binA_mul, binA_eql, binA_neq, binA_lss, binA_leq, binA_gtr, binA_geq, unA_not, Bool.not_true, Bool.not_false, convA_int, extA_tuple, List.getElem?_toArray, List.getElem?_cons_zero, List.getElem?_cons_succ]
    refine hk h (by simpa [RS.nums] using hb) (by simpa [RS.nums] using w) (Step.refl _ _ fun b hb => ?_)
    simp only [List.mem_cons, List.not_mem_nil, or_false] at hb
    rcases hb with rfl | rfl
    · exact hlt
    · exact w.2.2.1
  | succ m ih =>
    intro i h st vals rest hi hv hr hb hlt hba hlta w hk
    have c1 : decide ((i : Int) < 8) = true := decide_eq_true (by omega)
    have e5 : IntKind.i64.wrap ((i : Int) + 1) = ((i + 1 : Nat) : Int) := by rw [IntWalk.i64_in _ (by omega)]; simp
    have hg : (ptrsQ q)[i]? = some (.pointer (some ⟨q, i + 1, none⟩)) := by
      simp only [ptrsQ, List.getElem?_map]
      rw [List.getElem?_range (by omega)]
      rfl
    rw [layout_read_L1]
    simp only [layout_read_B1, lenSl_slice, lenStr_string, str_size, fpureA_some, fnilA_ptr, faddA_ptr, addr_add, Nat.zero_add, Nat.add_zero, fpureQ_k, fpureQ_nilA, fpureQ_addA, fpureQ_pureA, fpureQ_guardA, fpureQ_idxSlA, fpureQ_pickA, freadQ_loadA, freadQ_loadNA, freadQ_b2sA, freadQ_guardA, freadQ_slSlA, freadQ_k, fendA, fallA_one, fstillA_nil, fguardA_tt, fguardA_ff, fguardA_tf, fguardA_ft, fguardA_undef, fpickA_true, fpickA_false, fcondA_true, fcondA_false, binA_add, binA_sub, binA_mul, binA_eql, binA_neq, binA_lss, binA_leq, binA_gtr, binA_geq, unA_not, Bool.not_true, Bool.not_false, convA_int, extA_tuple, List.getElem?_toArray, List.getElem?_cons_zero, List.getElem?_cons_succ, c1]
    rw [idxSlA_iff]
    refine ⟨by omega, by omega, ?_⟩
    rw [addr_add, Int.toNat_natCast, Nat.mul_one, Nat.zero_add]
    refine loadA_at hqa hba hg ?_
    refine callA_of (RU32_spec w) fun v h1 ⟨e, w1, s1⟩ f1 => ?_
    subst e
    have hlt4 := rdn_raw st 4
    have e6 : IntKind.i64.wrap ((rdn (st.raw (4 : Nat)).1 : Nat) : Int) = ((rdn (st.raw (4 : Nat)).1 : Nat) : Int) := IntWalk.i64_in _ (by omega)
    have hb1 := (s1.keep q hlt (by simpa using hqr)).1.trans hb
    have hba1 := (s1.keep qa hlta (by simpa using hra.symm)).1.trans hba
    have hn1 := s1.next
    cases rest with
    | nil => simp at hr
    | cons z rest =>
    have e7 : IntKind.i64.wrap ((rdn (st.raw 4).1 : Nat) : Int) = ((rdn (st.raw 4).1 : Nat) : Int) := e6
    simp only [lenSl_slice, lenStr_string, str_size, fpureA_some, fnilA_ptr, faddA_ptr, addr_add, Nat.zero_add, Nat.add_zero, fpureQ_k, fpureQ_nilA, fpureQ_addA, fpureQ_pureA, fpureQ_guardA, fpureQ_idxSlA, fpureQ_pickA, freadQ_loadA, freadQ_loadNA, freadQ_b2sA, freadQ_guardA, freadQ_slSlA, freadQ_k, fendA, fallA_one, fstillA_nil, fguardA_tt, fguardA_ff, fguardA_tf, fguardA_ft, fguardA_undef, fpickA_true, fpickA_false, fcondA_true, fcondA_false, binA_add, binA_sub, binA_mul, binA_eql, binA_neq, binA_lss, binA_leq, binA_gtr, binA_geq, unA_not, Bool.not_true, Bool.not_false, convA_int, extA_tuple, List.getElem?_toArray, List.getElem?_cons_zero, List.getElem?_cons_succ, e7, e5]
    have s2 : Step h1 (h1.put q (.int .u64 (g : Int) :: ((vals ++ [rdn (st.raw 4).1]).map (fun n : Nat => Value.int .i64 (n : Int)) ++ rest))) [q, r] [q, r] := (Step.refl h1 [q, r] (fun b hb => by
      simp only [List.mem_cons, List.not_mem_nil, or_false] at hb
      rcases hb with rfl | rfl
      · omega
      · exact w1.2.2.1)).put (by simp) _
    refine storeA_at hq hb1 (by simp; omega) rfl ?_
    have hset : (Value.int .u64 (g : Int) :: (vals.map (fun n : Nat => Value.int .i64 (n : Int)) ++ z :: rest)).set (i + 1) (.int .i64 ((rdn (st.raw 4).1 : Nat) : Int)) = .int .u64 (g : Int) :: ((vals ++ [rdn (st.raw 4).1]).map (fun n : Nat => Value.int .i64 (n : Int)) ++ rest) := by
      rw [List.set_cons_succ, List.set_append_right _ _ (by simp; omega), show i - (vals.map (fun n : Nat => Value.int .i64 (n : Int))).length = 0 by simp; omega]
      simp
    rw [hset]
    have s3 : Step h (h1.put q (.int .u64 (g : Int) :: ((vals ++ [rdn (st.raw 4).1]).map (fun n : Nat => Value.int .i64 (n : Int)) ++ rest))) [q, r] [q, r] :=
      (s1.wide (T := [q, r]) (T' := [q, r]) (by simp) (fun b hb => by
        simp only [List.mem_cons, List.not_mem_nil, or_false] at hb
        rcases hb with rfl | rfl
        · exact .inr ⟨by simp, hlt⟩
        · exact .inl (by simp))).trans s2
    have s2q : Step h1 (h1.put q (.int .u64 (g : Int) :: ((vals ++ [rdn (st.raw 4).1]).map (fun n : Nat => Value.int .i64 (n : Int)) ++ rest))) [q] [q] := (Step.refl h1 [q] (by simp; omega)).put (by simp) _
    refine ih (i + 1) _ (st.raw 4).2 (vals ++ [rdn (st.raw 4).1]) rest (by omega) (by simp; omega) (by simpa using hr) (by simp) (by simp; omega) (by simpa [hqq.symm] using hba1) (by simp; omega) (w1.frame s2q (by simpa using hqr.symm)) fun h' hb' w' s' => ?_
    refine hk h' ?_ ?_ (s3.trans s')
    · have : List.replicate (m + 1) 4 = 4 :: List.replicate m 4 := rfl
      rw [this, RS.nums]
      simpa using hb'
    · have : List.replicate (m + 1) 4 = 4 :: List.replicate m 4 := rfl
      rw [this, RS.nums]
      exact w'
/-- What the body's reading tells. -/
theorem lread_spec (l : List UInt8) (hl : l.length ≤ 140737488355328) : ACalls prog w0 n_layout_read [.string (str l)] h fun v h' =>
    v = .tuple #[(supB l).v, .bool (decide (((⟨l, 0⟩ : RS).nums lens).1.getD 11 0 ≤ 1) && decide (((⟨l, 0⟩ : RS).nums lens).2.done = 0))] ∧ Step h h' [] [] := by
  refine ACalls.of_fit (by simp) fun f => c_layout_read (by simp) ?_
  simp only [s_layout_read, newA_iff]
  refine ⟨by simp, ?_⟩
  have hz : [(Value.int .u64 0), .int .i64 0, .int .i64 0, .int .i64 0, .int .i64 0, .int .i64 0, .int .i64 0, .int .i64 0, .int .i64 0, .int .u64 0, .int .i64 0, .bool false] = (.int .u64 ((0 : Nat) : Int) :: ([] ++ [.int .i64 0, .int .i64 0, .int .i64 0, .int .i64 0, .int .i64 0, .int .i64 0, .int .i64 0, .int .i64 0, .int .u64 0, .int .i64 0, .bool false])) := rfl
  have s1 : Step h (h.new [(Value.int .u64 0), .int .i64 0, .int .i64 0, .int .i64 0, .int .i64 0, .int .i64 0, .int .i64 0, .int .i64 0, .int .i64 0, .int .u64 0, .int .i64 0, .bool false] 12) [] [h.next] := (Step.refl h [] (by simp)).new _ _
  have hq1 : (h.new [(Value.int .u64 0), .int .i64 0, .int .i64 0, .int .i64 0, .int .i64 0, .int .i64 0, .int .i64 0, .int .i64 0, .int .i64 0, .int .u64 0, .int .i64 0, .bool false] 12).blk h.next = some [(Value.int .u64 0), .int .i64 0, .int .i64 0, .int .i64 0, .int .i64 0, .int .i64 0, .int .i64 0, .int .i64 0, .int .i64 0, .int .u64 0, .int .i64 0, .bool false] := by simp
  have hn1 : h.next < (h.new [(Value.int .u64 0), .int .i64 0, .int .i64 0, .int .i64 0, .int .i64 0, .int .i64 0, .int .i64 0, .int .i64 0, .int .i64 0, .int .u64 0, .int .i64 0, .bool false] 12).next := by simp
  have hB := f.base
  generalize h.new [(Value.int .u64 0), .int .i64 0, .int .i64 0, .int .i64 0, .int .i64 0, .int .i64 0, .int .i64 0, .int .i64 0, .int .i64 0, .int .u64 0, .int .i64 0, .bool false] 12 = h1 at s1 hq1 hn1 ⊢
  refine callA_of (NewReader_spec l hl) fun v h2 ⟨e, w2, s2⟩ f2 => ?_
  subst e
  have hq2 := (s2.keep _ hn1 (by simp)).1.trans hq1
  have n12 := s2.next
  refine callA_of (RU64_spec w2) fun v h3 ⟨e, w3, s3⟩ f3 => ?_
  subst e
  have n23 := s3.next
  have hw2 := w2.2.2.1
  have hq3 := (s3.keep h.next (by omega) (by simp; omega)).1.trans hq2
  try simp only [lenSl_slice, lenStr_string, str_size, fpureA_some, fnilA_ptr, faddA_ptr, addr_add, Nat.zero_add, Nat.add_zero, fpureQ_k, fpureQ_nilA, fpureQ_addA, fpureQ_pureA, fpureQ_guardA, fpureQ_idxSlA, fpureQ_pickA, freadQ_loadA, freadQ_loadNA, freadQ_b2sA, freadQ_guardA, freadQ_slSlA, freadQ_k, fendA, fallA_one, fstillA_nil, fguardA_tt, fguardA_ff, fguardA_tf, fguardA_ft, fguardA_undef, fpickA_true, fpickA_false, fcondA_true, fcondA_false, binA_add, binA_sub, binA_mul, binA_eql, binA_neq, binA_lss, binA_leq, binA_gtr, binA_geq, unA_not, Bool.not_true, Bool.not_false, convA_int, extA_tuple, List.getElem?_toArray, List.getElem?_cons_zero, List.getElem?_cons_succ]
  refine storeA_at hB hq3 (by simp) rfl ?_
  generalize hg : rdn ((⟨l, 0⟩ : RS).raw 8).1 = g at *
  have s4 : Step h3 (h3.put h.next (.int .u64 (g : Int) :: ([] ++ [.int .i64 0, .int .i64 0, .int .i64 0, .int .i64 0, .int .i64 0, .int .i64 0, .int .i64 0, .int .i64 0, .int .u64 0, .int .i64 0, .bool false]))) [h.next] [h.next] := (Step.refl h3 [h.next] (by simp; omega)).put (by simp) _
  have hq4 : (h3.put h.next (.int .u64 (g : Int) :: ([] ++ [.int .i64 0, .int .i64 0, .int .i64 0, .int .i64 0, .int .i64 0, .int .i64 0, .int .i64 0, .int .i64 0, .int .u64 0, .int .i64 0, .bool false]))).blk h.next = some (.int .u64 (g : Int) :: ([] ++ [.int .i64 0, .int .i64 0, .int .i64 0, .int .i64 0, .int .i64 0, .int .i64 0, .int .i64 0, .int .i64 0, .int .u64 0, .int .i64 0, .bool false])) := by simp
  have hset : [(Value.int .u64 0), .int .i64 0, .int .i64 0, .int .i64 0, .int .i64 0, .int .i64 0, .int .i64 0, .int .i64 0, .int .i64 0, .int .u64 0, .int .i64 0, .bool false].set 0 (.int .u64 (g : Int)) = (.int .u64 (g : Int) :: ([] ++ [.int .i64 0, .int .i64 0, .int .i64 0, .int .i64 0, .int .i64 0, .int .i64 0, .int .i64 0, .int .i64 0, .int .u64 0, .int .i64 0, .bool false])) := rfl
  rw [hset]
  have w4 := w3.frame s4 (by simp; omega)
  have st4 : Step h (h3.put h.next (.int .u64 (g : Int) :: ([] ++ [.int .i64 0, .int .i64 0, .int .i64 0, .int .i64 0, .int .i64 0, .int .i64 0, .int .i64 0, .int .i64 0, .int .u64 0, .int .i64 0, .bool false]))) [] [] :=
    ((s1.drop.after s2 (by simp)).drop.after s3 (by simp; omega)).after s4 (by simp)
  have n34 : (h3.put h.next (.int .u64 (g : Int) :: ([] ++ [.int .i64 0, .int .i64 0, .int .i64 0, .int .i64 0, .int .i64 0, .int .i64 0, .int .i64 0, .int .i64 0, .int .u64 0, .int .i64 0, .bool false]))).next = h3.next := by simp
  generalize h3.put h.next (.int .u64 (g : Int) :: ([] ++ [.int .i64 0, .int .i64 0, .int .i64 0, .int .i64 0, .int .i64 0, .int .i64 0, .int .i64 0, .int .i64 0, .int .u64 0, .int .i64 0, .bool false])) = h4 at s4 hq4 w4 st4 n34 ⊢
  try simp only [lenSl_slice, lenStr_string, str_size, fpureA_some, fnilA_ptr, faddA_ptr, addr_add, Nat.zero_add, Nat.add_zero, fpureQ_k, fpureQ_nilA, fpureQ_addA, fpureQ_pureA, fpureQ_guardA, fpureQ_idxSlA, fpureQ_pickA, freadQ_loadA, freadQ_loadNA, freadQ_b2sA, freadQ_guardA, freadQ_slSlA, freadQ_k, fendA, fallA_one, fstillA_nil, fguardA_tt, fguardA_ff, fguardA_tf, fguardA_ft, fguardA_undef, fpickA_true, fpickA_false, fcondA_true, fcondA_false, binA_add, binA_sub, binA_mul, binA_eql, binA_neq, binA_lss, binA_leq, binA_gtr, binA_geq, unA_not, Bool.not_true, Bool.not_false, convA_int, extA_tuple, List.getElem?_toArray, List.getElem?_cons_zero, List.getElem?_cons_succ]
  refine fill8 rfl rfl rfl rfl rfl rfl rfl rfl (by rfl) ?_
  have hmap : [(Value.pointer (some ⟨h.next, 1, none⟩)), .pointer (some ⟨h.next, 2, none⟩), .pointer (some ⟨h.next, 3, none⟩), .pointer (some ⟨h.next, 4, none⟩), .pointer (some ⟨h.next, 5, none⟩), .pointer (some ⟨h.next, 6, none⟩), .pointer (some ⟨h.next, 7, none⟩), .pointer (some ⟨h.next, 8, none⟩)] = ptrsQ h.next := rfl
  rw [hmap]
  have s5 : Step h4 (h4.new (ptrsQ h.next) 1) [] [h4.next] := (Step.refl h4 [] (by simp)).new _ _
  have hq5 : (h4.new (ptrsQ h.next) 1).blk h4.next = some (ptrsQ h.next) := by simp
  have hn5 : h4.next < (h4.new (ptrsQ h.next) 1).next := by simp
  generalize h4.new (ptrsQ h.next) 1 = h5 at s5 hq5 hn5 ⊢
  have w5 := w4.frame s5 (by simp)
  have hq45 := (s5.keep h.next (by omega) (by simp)).1.trans hq4
  have st5 := st4.after s5 (by simp)
  try simp only [lenSl_slice, lenStr_string, str_size, fpureA_some, fnilA_ptr, faddA_ptr, addr_add, Nat.zero_add, Nat.add_zero, fpureQ_k, fpureQ_nilA, fpureQ_addA, fpureQ_pureA, fpureQ_guardA, fpureQ_idxSlA, fpureQ_pickA, freadQ_loadA, freadQ_loadNA, freadQ_b2sA, freadQ_guardA, freadQ_slSlA, freadQ_k, fendA, fallA_one, fstillA_nil, fguardA_tt, fguardA_ff, fguardA_tf, fguardA_ft, fguardA_undef, fpickA_true, fpickA_false, fcondA_true, fcondA_false, binA_add, binA_sub, binA_mul, binA_eql, binA_neq, binA_lss, binA_leq, binA_gtr, binA_geq, unA_not, Bool.not_true, Bool.not_false, convA_int, extA_tuple, List.getElem?_toArray, List.getElem?_cons_zero, List.getElem?_cons_succ]
  have hst5 : (⟨l, 0⟩ : RS).nums lens = (g :: ((((⟨l, 0⟩ : RS).raw 8).2.nums (List.replicate 8 4)).1 ++ ((((⟨l, 0⟩ : RS).raw 8).2.nums (List.replicate 8 4)).2.nums [8, 2, 1]).1), ((((⟨l, 0⟩ : RS).raw 8).2.nums (List.replicate 8 4)).2.nums [8, 2, 1]).2) := by
    have : lens = 8 :: (List.replicate 8 4 ++ [8, 2, 1]) := rfl
    rw [this, RS.nums, nums_append]
    have hg' : rdn ((⟨l, 0⟩ : RS).raw (8 : Nat)).1 = g := hg
    rw [hg']
    rfl
  refine ⟨9, lread_loop (q := h.next) (r := h1.next) (qa := h4.next) (g := g) hB (by omega) (by omega) (by omega) (by omega) 8 0 h5 _ [] _ rfl rfl rfl hq45 (by omega) hq5 hn5 w5 fun h6 hb6 w6 s6 => ?_⟩
  have hlen8 := numsK_length (List.replicate 8 4) ((⟨l, 0⟩ : RS).raw 8).2
  unfold supB
  rw [hst5]
  rw [List.nil_append] at hb6
  generalize ((⟨l, 0⟩ : RS).raw 8).2.nums (List.replicate 8 4) = N at *
  obtain ⟨v8, st6⟩ := N
  simp only at hlen8 hb6 w6 ⊢
  obtain ⟨a1, a2, a3, a4, a5, a6, a7, a8, rfl⟩ : ∃ a1 a2 a3 a4 a5 a6 a7 a8, v8 = [a1, a2, a3, a4, a5, a6, a7, a8] := by
    match v8, hlen8 with
    | [a1, a2, a3, a4, a5, a6, a7, a8], _ => exact ⟨_, _, _, _, _, _, _, _, rfl⟩
  simp only [List.map_cons, List.map_nil, List.drop_succ_cons, List.drop_zero, List.cons_append, List.nil_append] at hb6
  have n56 := s6.next
  have hw5 := w5.2.2.1
  have st6' := st5.after s6 (by simp; omega)
  refine callA_of (RU64_spec w6) fun v h7 ⟨e, w7, s7⟩ f7 => ?_
  subst e
  have n67 := s7.next
  have hb7 := (s7.keep h.next (by omega) (by simp; omega)).1.trans hb6
  have st7 := st6'.after s7 (by simp; omega)
  try simp only [lenSl_slice, lenStr_string, str_size, fpureA_some, fnilA_ptr, faddA_ptr, addr_add, Nat.zero_add, Nat.add_zero, fpureQ_k, fpureQ_nilA, fpureQ_addA, fpureQ_pureA, fpureQ_guardA, fpureQ_idxSlA, fpureQ_pickA, freadQ_loadA, freadQ_loadNA, freadQ_b2sA, freadQ_guardA, freadQ_slSlA, freadQ_k, fendA, fallA_one, fstillA_nil, fguardA_tt, fguardA_ff, fguardA_tf, fguardA_ft, fguardA_undef, fpickA_true, fpickA_false, fcondA_true, fcondA_false, binA_add, binA_sub, binA_mul, binA_eql, binA_neq, binA_lss, binA_leq, binA_gtr, binA_geq, unA_not, Bool.not_true, Bool.not_false, convA_int, extA_tuple, List.getElem?_toArray, List.getElem?_cons_zero, List.getElem?_cons_succ]
  refine storeA_at hB hb7 (by simp) rfl ?_
  simp only [List.set_cons_succ, List.set_cons_zero]
  generalize hn9 : rdn (st6.raw 8).1 = n9 at *
  generalize hst8 : (st6.raw 8).2 = st8 at *
  have s8 := (Step.refl h7 [h.next] (by simp; omega)).put (p := h.next) (by simp) ([(Value.int .u64 (g : Int)), .int .i64 (a1 : Int), .int .i64 (a2 : Int), .int .i64 (a3 : Int), .int .i64 (a4 : Int), .int .i64 (a5 : Int), .int .i64 (a6 : Int), .int .i64 (a7 : Int), .int .i64 (a8 : Int), .int .u64 (n9 : Int), .int .i64 0, .bool false])
  have hb8 : (h7.put h.next [(Value.int .u64 (g : Int)), .int .i64 (a1 : Int), .int .i64 (a2 : Int), .int .i64 (a3 : Int), .int .i64 (a4 : Int), .int .i64 (a5 : Int), .int .i64 (a6 : Int), .int .i64 (a7 : Int), .int .i64 (a8 : Int), .int .u64 (n9 : Int), .int .i64 0, .bool false]).blk h.next = some [(Value.int .u64 (g : Int)), .int .i64 (a1 : Int), .int .i64 (a2 : Int), .int .i64 (a3 : Int), .int .i64 (a4 : Int), .int .i64 (a5 : Int), .int .i64 (a6 : Int), .int .i64 (a7 : Int), .int .i64 (a8 : Int), .int .u64 (n9 : Int), .int .i64 0, .bool false] := by simp
  have n78 : (h7.put h.next [(Value.int .u64 (g : Int)), .int .i64 (a1 : Int), .int .i64 (a2 : Int), .int .i64 (a3 : Int), .int .i64 (a4 : Int), .int .i64 (a5 : Int), .int .i64 (a6 : Int), .int .i64 (a7 : Int), .int .i64 (a8 : Int), .int .u64 (n9 : Int), .int .i64 0, .bool false]).next = h7.next := by simp
  have w8 := w7.frame s8 (by simp; omega)
  have st8' := st7.after s8 (by simp)
  generalize h7.put h.next [(Value.int .u64 (g : Int)), .int .i64 (a1 : Int), .int .i64 (a2 : Int), .int .i64 (a3 : Int), .int .i64 (a4 : Int), .int .i64 (a5 : Int), .int .i64 (a6 : Int), .int .i64 (a7 : Int), .int .i64 (a8 : Int), .int .u64 (n9 : Int), .int .i64 0, .bool false] = h8 at s8 hb8 n78 w8 st8' ⊢
  refine callA_of (RU16_spec w8) fun v h9 ⟨e, w9, s9⟩ f9 => ?_
  subst e
  have n89 := s9.next
  have hb9 := (s9.keep h.next (by omega) (by simp; omega)).1.trans hb8
  have st9 := st8'.after s9 (by simp; omega)
  have hlt2 := rdn_raw st8 2
  have e6 : IntKind.i64.wrap ((rdn (st8.raw 2).1 : Nat) : Int) = ((rdn (st8.raw 2).1 : Nat) : Int) := IntWalk.i64_in _ (by
    have : rdn (st8.raw (2 : Nat)).1 = rdn (st8.raw 2).1 := rfl
    omega)
  simp only [lenSl_slice, lenStr_string, str_size, fpureA_some, fnilA_ptr, faddA_ptr, addr_add, Nat.zero_add, Nat.add_zero, fpureQ_k, fpureQ_nilA, fpureQ_addA, fpureQ_pureA, fpureQ_guardA, fpureQ_idxSlA, fpureQ_pickA, freadQ_loadA, freadQ_loadNA, freadQ_b2sA, freadQ_guardA, freadQ_slSlA, freadQ_k, fendA, fallA_one, fstillA_nil, fguardA_tt, fguardA_ff, fguardA_tf, fguardA_ft, fguardA_undef, fpickA_true, fpickA_false, fcondA_true, fcondA_false, binA_add, binA_sub, binA_mul, binA_eql, binA_neq, binA_lss, binA_leq, binA_gtr, binA_geq, unA_not, Bool.not_true, Bool.not_false, convA_int, extA_tuple, List.getElem?_toArray, List.getElem?_cons_zero, List.getElem?_cons_succ, e6]
  refine storeA_at hB hb9 (by simp) rfl ?_
  simp only [List.set_cons_succ, List.set_cons_zero]
  generalize hn10 : rdn (st8.raw 2).1 = n10 at *
  generalize hst10 : (st8.raw 2).2 = st10 at *
  have s10 := (Step.refl h9 [h.next] (by simp; omega)).put (p := h.next) (by simp) ([(Value.int .u64 (g : Int)), .int .i64 (a1 : Int), .int .i64 (a2 : Int), .int .i64 (a3 : Int), .int .i64 (a4 : Int), .int .i64 (a5 : Int), .int .i64 (a6 : Int), .int .i64 (a7 : Int), .int .i64 (a8 : Int), .int .u64 (n9 : Int), .int .i64 (n10 : Int), .bool false])
  have hb10 : (h9.put h.next [(Value.int .u64 (g : Int)), .int .i64 (a1 : Int), .int .i64 (a2 : Int), .int .i64 (a3 : Int), .int .i64 (a4 : Int), .int .i64 (a5 : Int), .int .i64 (a6 : Int), .int .i64 (a7 : Int), .int .i64 (a8 : Int), .int .u64 (n9 : Int), .int .i64 (n10 : Int), .bool false]).blk h.next = some [(Value.int .u64 (g : Int)), .int .i64 (a1 : Int), .int .i64 (a2 : Int), .int .i64 (a3 : Int), .int .i64 (a4 : Int), .int .i64 (a5 : Int), .int .i64 (a6 : Int), .int .i64 (a7 : Int), .int .i64 (a8 : Int), .int .u64 (n9 : Int), .int .i64 (n10 : Int), .bool false] := by simp
  have n910 : (h9.put h.next [(Value.int .u64 (g : Int)), .int .i64 (a1 : Int), .int .i64 (a2 : Int), .int .i64 (a3 : Int), .int .i64 (a4 : Int), .int .i64 (a5 : Int), .int .i64 (a6 : Int), .int .i64 (a7 : Int), .int .i64 (a8 : Int), .int .u64 (n9 : Int), .int .i64 (n10 : Int), .bool false]).next = h9.next := by simp
  have w10 := w9.frame s10 (by simp; omega)
  have st10' := st9.after s10 (by simp)
  generalize h9.put h.next [(Value.int .u64 (g : Int)), .int .i64 (a1 : Int), .int .i64 (a2 : Int), .int .i64 (a3 : Int), .int .i64 (a4 : Int), .int .i64 (a5 : Int), .int .i64 (a6 : Int), .int .i64 (a7 : Int), .int .i64 (a8 : Int), .int .u64 (n9 : Int), .int .i64 (n10 : Int), .bool false] = h10 at s10 hb10 n910 w10 st10' ⊢
  refine callA_of (RU8_spec w10) fun v h11 ⟨e, w11, s11⟩ f11 => ?_
  subst e
  have n1011 := s11.next
  have hb11 := (s11.keep h.next (by omega) (by simp; omega)).1.trans hb10
  have st11 := st10'.after s11 (by simp; omega)
  generalize hn11 : rdn (st10.raw 1).1 = n11 at *
  generalize hst12 : (st10.raw 1).2 = st12 at *
  try simp only [lenSl_slice, lenStr_string, str_size, fpureA_some, fnilA_ptr, faddA_ptr, addr_add, Nat.zero_add, Nat.add_zero, fpureQ_k, fpureQ_nilA, fpureQ_addA, fpureQ_pureA, fpureQ_guardA, fpureQ_idxSlA, fpureQ_pickA, freadQ_loadA, freadQ_loadNA, freadQ_b2sA, freadQ_guardA, freadQ_slSlA, freadQ_k, fendA, fallA_one, fstillA_nil, fguardA_tt, fguardA_ff, fguardA_tf, fguardA_ft, fguardA_undef, fpickA_true, fpickA_false, fcondA_true, fcondA_false, binA_add, binA_sub, binA_mul, binA_eql, binA_neq, binA_lss, binA_leq, binA_gtr, binA_geq, unA_not, Bool.not_true, Bool.not_false, convA_int, extA_tuple, List.getElem?_toArray, List.getElem?_cons_zero, List.getElem?_cons_succ]
  refine storeA_at hB hb11 (by simp) rfl ?_
  simp only [List.set_cons_succ, List.set_cons_zero]
  have hE : [(Value.int .u64 (g : Int)), .int .i64 (a1 : Int), .int .i64 (a2 : Int), .int .i64 (a3 : Int), .int .i64 (a4 : Int), .int .i64 (a5 : Int), .int .i64 (a6 : Int), .int .i64 (a7 : Int), .int .i64 (a8 : Int), .int .u64 (n9 : Int), .int .i64 (n10 : Int), .bool ((n11 : Int) == 1)] = (supOf [g, a1, a2, a3, a4, a5, a6, a7, a8, n9, n10, n11]).e := by
    have : ((n11 : Int) == 1) = decide (n11 = 1) := by
      by_cases h : n11 = 1
      · subst h; rfl
      · have : ((n11 : Int) == 1) = false := beq_eq_false_iff_ne.2 (by omega)
        rw [this, decide_eq_false h]
    rw [this]
    rfl
  rw [hE]
  have hN : st6.nums [8, 2, 1] = ([n9, n10, n11], st12) := by
    show (rdn (st6.raw 8).1 :: ((st6.raw 8).2.nums [2, 1]).1, ((st6.raw 8).2.nums [2, 1]).2) = _
    rw [hn9, hst8]
    show (n9 :: (rdn (st8.raw 2).1 :: ((st8.raw 2).2.nums [1]).1), ((st8.raw 2).2.nums [1]).2) = _
    rw [hn10, hst10]
    show (n9 :: n10 :: (rdn (st10.raw 1).1 :: []), (st10.raw 1).2) = _
    rw [hn11, hst12]
  rw [hN]
  simp only [List.cons_append, List.nil_append, List.getD_cons_succ, List.getD_cons_zero]
  generalize supOf [g, a1, a2, a3, a4, a5, a6, a7, a8, n9, n10, n11] = X
  have s12 := (Step.refl h11 [h.next] (by simp; omega)).put (p := h.next) (by simp) X.e
  have hb12 : (h11.put h.next X.e).blk h.next = some X.e := by simp
  have w12 := w11.frame s12 (by simp; omega)
  have st12' := st11.after s12 (by simp)
  generalize h11.put h.next X.e = h12 at s12 hb12 w12 st12' ⊢
  have fin : ∀ b : Bool, storeNA w0 (.pointer (some ⟨h.next, 0, none⟩)) (.agg X.e.toArray) 12 (fun _ => loadNA w0 (.pointer (some ⟨h.next, 0, none⟩)) 12 fun v2 => retA [v2, .bool b] fun v h' => v = .tuple #[X.v, .bool b] ∧ Step h h' [] []) h12 := by
    intro b
    refine storeN0 hB hb12 rfl rfl (by rfl) (loadNA_whole (cs := X.e) hB (by simp) rfl ?_)
    simp only [retA_iff, oneOf_two]
    refine ⟨by simp, rfl, ?_⟩
    exact st12'.after ((Step.refl h12 [h.next] (by simp; have := s12.next; omega)).put (p := h.next) (by simp) _) (by simp)
  refine loadNA_whole hB hb12 rfl ?_
  have ed : ((st12.done == 0) : Bool) = decide (st12.done = 0) := rfl
  by_cases hd : n11 ≤ 1
  · have c1 : decide ((n11 : Int) ≤ 1) = true := decide_eq_true (by omega)
    have c2 : decide (n11 ≤ 1) = true := decide_eq_true hd
    simp only [c1, c2, Bool.true_and, lenSl_slice, lenStr_string, str_size, fpureA_some, fnilA_ptr, faddA_ptr, addr_add, Nat.zero_add, Nat.add_zero, fpureQ_k, fpureQ_nilA, fpureQ_addA, fpureQ_pureA, fpureQ_guardA, fpureQ_idxSlA, fpureQ_pickA, freadQ_loadA, freadQ_loadNA, freadQ_b2sA, freadQ_guardA, freadQ_slSlA, freadQ_k, fendA, fallA_one, fstillA_nil, fguardA_tt, fguardA_ff, fguardA_tf, fguardA_ft, fguardA_undef, fpickA_true, fpickA_false, fcondA_true, fcondA_false, binA_add, binA_sub, binA_mul, binA_eql, binA_neq, binA_lss, binA_leq, binA_gtr, binA_geq, unA_not, Bool.not_true, Bool.not_false, convA_int, extA_tuple, List.getElem?_toArray, List.getElem?_cons_zero, List.getElem?_cons_succ]
    refine callA_of (RDone_spec w12) fun v h13 ⟨e, e13⟩ f13 => ?_
    subst e e13
    simp only [stillA_iff, allA_cons, allA_one, sameQ_iff, lenSl_slice, lenStr_string, str_size, fpureA_some, fnilA_ptr, faddA_ptr, addr_add, Nat.zero_add, Nat.add_zero, fpureQ_k, fpureQ_nilA, fpureQ_addA, fpureQ_pureA, fpureQ_guardA, fpureQ_idxSlA, fpureQ_pickA, freadQ_loadA, freadQ_loadNA, freadQ_b2sA, freadQ_guardA, freadQ_slSlA, freadQ_k, fendA, fallA_one, fstillA_nil, fguardA_tt, fguardA_ff, fguardA_tf, fguardA_ft, fguardA_undef, fpickA_true, fpickA_false, fcondA_true, fcondA_false, binA_add, binA_sub, binA_mul, binA_eql, binA_neq, binA_lss, binA_leq, binA_gtr, binA_geq, unA_not, Bool.not_true, Bool.not_false, convA_int, extA_tuple, List.getElem?_toArray, List.getElem?_cons_zero, List.getElem?_cons_succ]
    refine ⟨loadNA_whole hB hb12 rfl ⟨rfl, rfl⟩, ?_⟩
    exact fin _
  · have c1 : decide ((n11 : Int) ≤ 1) = false := decide_eq_false (by omega)
    have c2 : decide (n11 ≤ 1) = false := decide_eq_false hd
    simp only [c1, c2, Bool.false_and, stillA_iff, allA_cons, allA_one, sameQ_iff, lenSl_slice, lenStr_string, str_size, fpureA_some, fnilA_ptr, faddA_ptr, addr_add, Nat.zero_add, Nat.add_zero, fpureQ_k, fpureQ_nilA, fpureQ_addA, fpureQ_pureA, fpureQ_guardA, fpureQ_idxSlA, fpureQ_pickA, freadQ_loadA, freadQ_loadNA, freadQ_b2sA, freadQ_guardA, freadQ_slSlA, freadQ_k, fendA, fallA_one, fstillA_nil, fguardA_tt, fguardA_ff, fguardA_tf, fguardA_ft, fguardA_undef, fpickA_true, fpickA_false, fcondA_true, fcondA_false, binA_add, binA_sub, binA_mul, binA_eql, binA_neq, binA_lss, binA_leq, binA_gtr, binA_geq, unA_not, Bool.not_true, Bool.not_false, convA_int, extA_tuple, List.getElem?_toArray, List.getElem?_cons_zero, List.getElem?_cons_succ]
    refine ⟨loadNA_whole hB hb12 rfl ⟨rfl, rfl⟩, ?_⟩
    exact fin _
end
end Go.Proofs.Ytihebhdgjnibfaa.Ah
namespace Go.Proofs.Ytihebhdgjnibfaa.Ah
open Go

theorem nums_body {x : Sup} (i : x.In) (h : x.check = 0) : (⟨x.body, 0⟩ : RS).nums lens = ([x.gen.toNat, x.root.toNat, x.s.sec.toNat, x.s.tot.toNat, x.s.jou.toNat, x.s.pck.toNat, x.s.mn.toNat, x.s.nm.toNat, x.s.mx.toNat, x.s.seed.toNat, x.s.bits.toNat, if x.s.dd then 1 else 0], ⟨[], 0⟩) := by
  have hin := Sup.ints_in h
  have G := x.s.good_iff.1 (Sup.good h)
  have gb := G.bits
  have hgen := i.gen
  have hseed := i.s.seed
  obtain ⟨gen, root, ⟨sec, tot, jou, pck, mn, nm, mx, seed, bits, dd⟩⟩ := x
  simp only [Sup.ints, List.mem_cons, List.not_mem_nil, or_false, forall_eq_or_imp, forall_eq] at hin
  simp only at hgen hseed gb hin
  have hb : (⟨gen, root, ⟨sec, tot, jou, pck, mn, nm, mx, seed, bits, dd⟩⟩ : Sup).body = ([(8, gen.toNat), (4, root.toNat), (4, sec.toNat), (4, tot.toNat), (4, jou.toNat), (4, pck.toNat), (4, mn.toNat), (4, nm.toNat), (4, mx.toNat), (8, seed.toNat), (2, bits.toNat), (1, if dd then 1 else 0)] : List (Nat × Nat)).flatMap (fun p => be p.1 p.2) ++ [] := by
    cases dd <;> simp [Sup.body, Sup.ints, be]
  have := nums_be [(8, gen.toNat), (4, root.toNat), (4, sec.toNat), (4, tot.toNat), (4, jou.toNat), (4, pck.toNat), (4, mn.toNat), (4, nm.toNat), (4, mx.toNat), (8, seed.toNat), (2, bits.toNat), (1, if dd then 1 else 0)] [] (by
    intro p hp
    simp only [List.mem_cons, List.not_mem_nil, or_false] at hp
    rcases hp with rfl | rfl | rfl | rfl | rfl | rfl | rfl | rfl | rfl | rfl | rfl | rfl <;> simp only <;> first | omega | (split <;> omega))
  rw [hb]
  have hl : lens = ([(8, gen.toNat), (4, root.toNat), (4, sec.toNat), (4, tot.toNat), (4, jou.toNat), (4, pck.toNat), (4, mn.toNat), (4, nm.toNat), (4, mx.toNat), (8, seed.toNat), (2, bits.toNat), (1, if dd then 1 else 0)] : List (Nat × Nat)).map (·.1) := rfl
  rw [hl, this]
  rfl
theorem dec_reads {l : List UInt8} {x : Sup} (h : decB l = some x) : ((⟨(unf l).2.1, 0⟩ : RS).nums lens).1.getD 11 0 ≤ 1 ∧ ((⟨(unf l).2.1, 0⟩ : RS).nums lens).2.done = 0 := by
  obtain ⟨i, hc, he⟩ := dec_some h
  have hu := Sup.unf_enc x
  rw [he] at hu
  rw [hu, nums_body i hc]
  refine ⟨?_, by simp [RS.done]⟩
  show (if x.s.dd then 1 else 0) ≤ 1
  split <;> omega
theorem done_length {l : List UInt8} (h : ((⟨l, 0⟩ : RS).nums lens).2.done = 0) : l.length = 51 := by
  have hs : lens.sum = 51 := rfl
  by_cases h1 : l.length < 51
  · have := nums_short lens ⟨l, 0⟩ (by rw [hs]; exact h1)
    unfold RS.done at h
    rw [if_pos this] at h
    exact absurd h this
  · have := nums_left lens ⟨l, 0⟩ rfl (by rw [hs]; show 51 ≤ l.length; omega)
    rw [this, hs] at h
    unfold RS.done at h
    rw [if_neg (by simp)] at h
    split at h
    · simp at h
    · rename_i h2
      simp at h2
      omega
/-- No superblock. -/
def sup0 : Sup := ⟨0, 0, ⟨0, 0, 0, 0, 0, 0, 0, 0, 0, false⟩⟩
def decV (l : List UInt8) : Value := match decB l with | some x => .tuple #[x.v, .int .i64 0] | none => .tuple #[sup0.v, .int .i64 40]
section
variable {w0 : World} {h : Hp}
theorem DecodeSuper_spec {x : Value} {l : List UInt8} (vb : Bs w0 h x l) (hl : l.length ≤ 1000000000) : ACalls prog w0 n_layout_DecodeSuper [x] h fun v h' => v = decV l ∧ Step h h' [] [] := by
  refine ACalls.of_fit (by simpa using vb.junk) fun f => c_layout_DecodeSuper (by simpa using vb.junk) ?_
  simp only [s_layout_DecodeSuper, newA_iff]
  refine ⟨by simp, ?_⟩
  have h0 : [(Value.int .u64 0), .int .i64 0, .int .i64 0, .int .i64 0, .int .i64 0, .int .i64 0, .int .i64 0, .int .i64 0, .int .i64 0, .int .u64 0, .int .i64 0, .bool false] = sup0.e := rfl
  simp only [h0]
  have s1 : Step h (h.new sup0.e 12) [] [h.next] := (Step.refl h [] (by simp)).new _ _
  have hq1 : (h.new sup0.e 12).blk h.next = some sup0.e := by simp
  have hn1 : h.next < (h.new sup0.e 12).next := by simp
  have hB := f.base
  have f1 : Fit w0 (h.new sup0.e 12) := f.new (by simp [sup0, Sup.e, Shp.e])
  generalize h.new sup0.e 12 = h1 at s1 hq1 hn1 f1 ⊢
  have v1 : Bs w0 h1 x l := Sl.step vb f s1 (by simp)
  refine v1.b2s ?_
  refine callA_of (Unframe_spec l (by omega)) fun v h2 ⟨e, s2⟩ f2 => ?_
  subst e
  have hq2 := (s2.keep _ hn1 (by simp)).1.trans hq1
  have st2 := s1.drop.trans s2
  -- nothing is told
  have bad : ∀ {h' : Hp}, Step h h' [] [] → (∃ cs, h'.blk h.next = some cs ∧ cs.length = 12) → h.next < h'.next → decB l = none → (storeNA w0 (.pointer (some ⟨h.next, 0, none⟩)) (.agg sup0.e.toArray) 12 fun _ => loadNA w0 (.pointer (some ⟨h.next, 0, none⟩)) 12 fun v2 => retA [v2, .int .i64 40] fun v h' => v = decV l ∧ Step h h' [] []) h' := by
    intro h' st ⟨cs, hq, hcl⟩ hn hd
    refine storeN0 hB hq hcl rfl (by rfl) (loadNA_whole (cs := sup0.e) hB (by simp) rfl ?_)
    simp only [retA_iff, oneOf_two]
    refine ⟨by simp, by simp [decV, hd, Sup.v], ?_⟩
    exact st.after ((Step.refl h' [h.next] (by simp; exact hn)).put (p := h.next) (by simp) _) (by simp)
  have n12 := s2.next
  simp only [unfV, lenSl_slice, lenStr_string, str_size, fpureA_some, fnilA_ptr, faddA_ptr, addr_add, Nat.zero_add, Nat.add_zero, fpureQ_k, fpureQ_nilA, fpureQ_addA, fpureQ_pureA, fpureQ_guardA, fpureQ_idxSlA, fpureQ_pickA, freadQ_loadA, freadQ_loadNA, freadQ_b2sA, freadQ_guardA, freadQ_slSlA, freadQ_k, fendA, fallA_one, fstillA_nil, fguardA_tt, fguardA_ff, fguardA_tf, fguardA_ft, fguardA_undef, fpickA_true, fpickA_false, fcondA_true, fcondA_false, binA_add, binA_sub, binA_mul, binA_eql, binA_neq, binA_lss, binA_leq, binA_gtr, binA_geq, unA_not, Bool.not_true, Bool.not_false, convA_int, extA_tuple, List.getElem?_toArray, List.getElem?_cons_zero, List.getElem?_cons_succ]
  by_cases he : (unf l).2.2.2 = 0
  · have c1 : ((unf l).2.2.2 != 0) = false := by simp [he]
    simp only [c1, lenSl_slice, lenStr_string, str_size, fpureA_some, fnilA_ptr, faddA_ptr, addr_add, Nat.zero_add, Nat.add_zero, fpureQ_k, fpureQ_nilA, fpureQ_addA, fpureQ_pureA, fpureQ_guardA, fpureQ_idxSlA, fpureQ_pickA, freadQ_loadA, freadQ_loadNA, freadQ_b2sA, freadQ_guardA, freadQ_slSlA, freadQ_k, fendA, fallA_one, fstillA_nil, fguardA_tt, fguardA_ff, fguardA_tf, fguardA_ft, fguardA_undef, fpickA_true, fpickA_false, fcondA_true, fcondA_false, binA_add, binA_sub, binA_mul, binA_eql, binA_neq, binA_lss, binA_leq, binA_gtr, binA_geq, unA_not, Bool.not_true, Bool.not_false, convA_int, extA_tuple, List.getElem?_toArray, List.getElem?_cons_zero, List.getElem?_cons_succ]
    by_cases hk : (unf l).1 = 83
    · have c2 : (((unf l).1 : Int) != 83) = false := by simp [hk]
      simp only [c2, lenSl_slice, lenStr_string, str_size, fpureA_some, fnilA_ptr, faddA_ptr, addr_add, Nat.zero_add, Nat.add_zero, fpureQ_k, fpureQ_nilA, fpureQ_addA, fpureQ_pureA, fpureQ_guardA, fpureQ_idxSlA, fpureQ_pickA, freadQ_loadA, freadQ_loadNA, freadQ_b2sA, freadQ_guardA, freadQ_slSlA, freadQ_k, fendA, fallA_one, fstillA_nil, fguardA_tt, fguardA_ff, fguardA_tf, fguardA_ft, fguardA_undef, fpickA_true, fpickA_false, fcondA_true, fcondA_false, binA_add, binA_sub, binA_mul, binA_eql, binA_neq, binA_lss, binA_leq, binA_gtr, binA_geq, unA_not, Bool.not_true, Bool.not_false, convA_int, extA_tuple, List.getElem?_toArray, List.getElem?_cons_zero, List.getElem?_cons_succ]
      have hub : (unf l).2.1.length ≤ l.length := by
        unfold unf
        split
        · split
          · simp
          split
          · simp
          split
          · simp
          · simp; omega
        · simp
      refine callA_of (lread_spec (unf l).2.1 (by omega)) fun v h3 ⟨e, s3⟩ f3 => ?_
      subst e
      have n23 := s3.next
      have hq3 := (s3.keep h.next (by omega) (by simp)).1.trans hq2
      have st3 := st2.drop.after s3 (by simp)
      simp only [lenSl_slice, lenStr_string, str_size, fpureA_some, fnilA_ptr, faddA_ptr, addr_add, Nat.zero_add, Nat.add_zero, fpureQ_k, fpureQ_nilA, fpureQ_addA, fpureQ_pureA, fpureQ_guardA, fpureQ_idxSlA, fpureQ_pickA, freadQ_loadA, freadQ_loadNA, freadQ_b2sA, freadQ_guardA, freadQ_slSlA, freadQ_k, fendA, fallA_one, fstillA_nil, fguardA_tt, fguardA_ff, fguardA_tf, fguardA_ft, fguardA_undef, fpickA_true, fpickA_false, fcondA_true, fcondA_false, binA_add, binA_sub, binA_mul, binA_eql, binA_neq, binA_lss, binA_leq, binA_gtr, binA_geq, unA_not, Bool.not_true, Bool.not_false, convA_int, extA_tuple, List.getElem?_toArray, List.getElem?_cons_zero, List.getElem?_cons_succ, newA_iff]
      refine ⟨by simp [sup0, Sup.e, Shp.e], storeN0 (cs := sup0.e) f3.base (by simp) rfl rfl (by rfl) ?_⟩
      rw [put_new]
      have s4 : Step h3 (h3.new (supB (unf l).2.1).e 12) [] [h3.next] := (Step.refl h3 [] (by simp)).new _ _
      have hq4 : (h3.new (supB (unf l).2.1).e 12).blk h3.next = some (supB (unf l).2.1).e := by simp
      have hn4 : h3.next < (h3.new (supB (unf l).2.1).e 12).next := by simp
      have hB3 := f3.base
      generalize h3.new (supB (unf l).2.1).e 12 = h4 at s4 hq4 hn4 ⊢
      have hq34 := (s4.keep h.next (by omega) (by simp)).1.trans hq3
      have st4 := st3.after s4 (by simp)
      cases hok : (decide (((⟨(unf l).2.1, 0⟩ : RS).nums lens).1.getD 11 0 ≤ 1) && decide (((⟨(unf l).2.1, 0⟩ : RS).nums lens).2.done = 0)) with
      | false =>
        have hd : decB l = none := by
          cases e : decB l with
          | none => rfl
          | some X =>
            have := dec_reads e
            rw [decide_eq_true this.1, decide_eq_true this.2] at hok
            simp at hok
        simp only [lenSl_slice, lenStr_string, str_size, fpureA_some, fnilA_ptr, faddA_ptr, addr_add, Nat.zero_add, Nat.add_zero, fpureQ_k, fpureQ_nilA, fpureQ_addA, fpureQ_pureA, fpureQ_guardA, fpureQ_idxSlA, fpureQ_pickA, freadQ_loadA, freadQ_loadNA, freadQ_b2sA, freadQ_guardA, freadQ_slSlA, freadQ_k, fendA, fallA_one, fstillA_nil, fguardA_tt, fguardA_ff, fguardA_tf, fguardA_ft, fguardA_undef, fpickA_true, fpickA_false, fcondA_true, fcondA_false, binA_add, binA_sub, binA_mul, binA_eql, binA_neq, binA_lss, binA_leq, binA_gtr, binA_geq, unA_not, Bool.not_true, Bool.not_false, convA_int, extA_tuple, List.getElem?_toArray, List.getElem?_cons_zero, List.getElem?_cons_succ, buildA_iff, fillA_nil]
        exact bad st4 ⟨_, hq34, rfl⟩ (by omega) hd
      | true =>
        simp only [Bool.and_eq_true, decide_eq_true_eq] at hok
        have h51 := done_length hok.2
        try simp only [lenSl_slice, lenStr_string, str_size, fpureA_some, fnilA_ptr, faddA_ptr, addr_add, Nat.zero_add, Nat.add_zero, fpureQ_k, fpureQ_nilA, fpureQ_addA, fpureQ_pureA, fpureQ_guardA, fpureQ_idxSlA, fpureQ_pickA, freadQ_loadA, freadQ_loadNA, freadQ_b2sA, freadQ_guardA, freadQ_slSlA, freadQ_k, fendA, fallA_one, fstillA_nil, fguardA_tt, fguardA_ff, fguardA_tf, fguardA_ft, fguardA_undef, fpickA_true, fpickA_false, fcondA_true, fcondA_false, binA_add, binA_sub, binA_mul, binA_eql, binA_neq, binA_lss, binA_leq, binA_gtr, binA_geq, unA_not, Bool.not_true, Bool.not_false, convA_int, extA_tuple, List.getElem?_toArray, List.getElem?_cons_zero, List.getElem?_cons_succ]
        refine loadNA_whole hB3 hq4 rfl ?_
        refine callA_of (EncodeSuper_spec (supB_in (unf l).2.1)) fun v h5 ⟨g1, g2⟩ f5 => ?_
        by_cases hc : (supB (unf l).2.1).check = 0
        · obtain ⟨q, e, g5, hq5, s5⟩ := g1 hc
          subst e
          have n45 := s5.next
          have hlen := Sup.enc_length hc
          have hsz := Sup.sizes hc
          simp only [lenSl_slice, lenStr_string, str_size, fpureA_some, fnilA_ptr, faddA_ptr, addr_add, Nat.zero_add, Nat.add_zero, fpureQ_k, fpureQ_nilA, fpureQ_addA, fpureQ_pureA, fpureQ_guardA, fpureQ_idxSlA, fpureQ_pickA, freadQ_loadA, freadQ_loadNA, freadQ_b2sA, freadQ_guardA, freadQ_slSlA, freadQ_k, fendA, fallA_one, fstillA_nil, fguardA_tt, fguardA_ff, fguardA_tf, fguardA_ft, fguardA_undef, fpickA_true, fpickA_false, fcondA_true, fcondA_false, binA_add, binA_sub, binA_mul, binA_eql, binA_neq, binA_lss, binA_leq, binA_gtr, binA_geq, unA_not, Bool.not_true, Bool.not_false, convA_int, extA_tuple, List.getElem?_toArray, List.getElem?_cons_zero, List.getElem?_cons_succ, bne_self_eq_false]
          have gB : Bs w0 h5 (.slice (some ⟨q, 0, none⟩) (supB (unf l).2.1).s.sec.toNat (supB (unf l).2.1).s.sec.toNat) (supB (unf l).2.1).enc := by
            have := g5.sl
            rw [← hlen] at this ⊢
            exact this
          refine gB.b2s ?_
          have v5 : Bs w0 h5 x l := Sl.step vb f (st4.after s5 (by simp)) (by simp)
          refine v5.b2s ?_
          have hq6 := (s5.keep h.next (by omega) (by simp)).1.trans hq34
          have hq46 := (s5.keep h3.next hn4 (by simp)).1.trans hq4
          have st5 := st4.after s5 (by simp)
          rw [binA_strneq]
          by_cases hel : (supB (unf l).2.1).enc = l
          · have c3 : decide (str (supB (unf l).2.1).enc = str l) = true := decide_eq_true (by rw [hel])
            have hd : decB l = some (supB (unf l).2.1) := by
              unfold decB
              rw [if_pos ⟨he, hk, h51, hc, hel⟩]
            simp only [c3, Bool.not_true, lenSl_slice, lenStr_string, str_size, fpureA_some, fnilA_ptr, faddA_ptr, addr_add, Nat.zero_add, Nat.add_zero, fpureQ_k, fpureQ_nilA, fpureQ_addA, fpureQ_pureA, fpureQ_guardA, fpureQ_idxSlA, fpureQ_pickA, freadQ_loadA, freadQ_loadNA, freadQ_b2sA, freadQ_guardA, freadQ_slSlA, freadQ_k, fendA, fallA_one, fstillA_nil, fguardA_tt, fguardA_ff, fguardA_tf, fguardA_ft, fguardA_undef, fpickA_true, fpickA_false, fcondA_true, fcondA_false, binA_add, binA_sub, binA_mul, binA_eql, binA_neq, binA_lss, binA_leq, binA_gtr, binA_geq, unA_not, Bool.not_true, Bool.not_false, convA_int, extA_tuple, List.getElem?_toArray, List.getElem?_cons_zero, List.getElem?_cons_succ]
            refine loadNA_whole hB3 hq46 rfl ?_
            refine storeN0 hB hq6 rfl rfl (by rfl) (loadNA_whole (cs := (supB (unf l).2.1).e) hB (by simp) rfl ?_)
            simp only [retA_iff, oneOf_two]
            refine ⟨by simp, by simp [decV, hd, Sup.v], ?_⟩
            exact st5.after ((Step.refl h5 [h.next] (by simp; omega)).put (p := h.next) (by simp) _) (by simp)
          · have c3 : decide (str (supB (unf l).2.1).enc = str l) = false := decide_eq_false (by rw [str_inj]; exact hel)
            simp only [c3, Bool.not_false, lenSl_slice, lenStr_string, str_size, fpureA_some, fnilA_ptr, faddA_ptr, addr_add, Nat.zero_add, Nat.add_zero, fpureQ_k, fpureQ_nilA, fpureQ_addA, fpureQ_pureA, fpureQ_guardA, fpureQ_idxSlA, fpureQ_pickA, freadQ_loadA, freadQ_loadNA, freadQ_b2sA, freadQ_guardA, freadQ_slSlA, freadQ_k, fendA, fallA_one, fstillA_nil, fguardA_tt, fguardA_ff, fguardA_tf, fguardA_ft, fguardA_undef, fpickA_true, fpickA_false, fcondA_true, fcondA_false, binA_add, binA_sub, binA_mul, binA_eql, binA_neq, binA_lss, binA_leq, binA_gtr, binA_geq, unA_not, Bool.not_true, Bool.not_false, convA_int, extA_tuple, List.getElem?_toArray, List.getElem?_cons_zero, List.getElem?_cons_succ, buildA_iff, fillA_nil]
            refine bad st5 ⟨_, hq6, rfl⟩ (by omega) ?_
            unfold decB
            rw [if_neg fun q => hel q.2.2.2.2]
        · obtain ⟨e, s5⟩ := g2 hc
          subst e
          have n45 := s5.next
          have c3 : ((supB (unf l).2.1).check != 0) = true := by simp [hc]
          simp only [c3, lenSl_slice, lenStr_string, str_size, fpureA_some, fnilA_ptr, faddA_ptr, addr_add, Nat.zero_add, Nat.add_zero, fpureQ_k, fpureQ_nilA, fpureQ_addA, fpureQ_pureA, fpureQ_guardA, fpureQ_idxSlA, fpureQ_pickA, freadQ_loadA, freadQ_loadNA, freadQ_b2sA, freadQ_guardA, freadQ_slSlA, freadQ_k, fendA, fallA_one, fstillA_nil, fguardA_tt, fguardA_ff, fguardA_tf, fguardA_ft, fguardA_undef, fpickA_true, fpickA_false, fcondA_true, fcondA_false, binA_add, binA_sub, binA_mul, binA_eql, binA_neq, binA_lss, binA_leq, binA_gtr, binA_geq, unA_not, Bool.not_true, Bool.not_false, convA_int, extA_tuple, List.getElem?_toArray, List.getElem?_cons_zero, List.getElem?_cons_succ, buildA_iff, fillA_nil]
          refine bad (st4.after s5 (by simp)) ⟨_, (s5.keep h.next (by omega) (by simp)).1.trans hq34, rfl⟩ (by omega) ?_
          unfold decB
          rw [if_neg fun q => hc q.2.2.2.1]
    · have c2 : (((unf l).1 : Int) != 83) = true := by simp; omega
      simp only [c2, lenSl_slice, lenStr_string, str_size, fpureA_some, fnilA_ptr, faddA_ptr, addr_add, Nat.zero_add, Nat.add_zero, fpureQ_k, fpureQ_nilA, fpureQ_addA, fpureQ_pureA, fpureQ_guardA, fpureQ_idxSlA, fpureQ_pickA, freadQ_loadA, freadQ_loadNA, freadQ_b2sA, freadQ_guardA, freadQ_slSlA, freadQ_k, fendA, fallA_one, fstillA_nil, fguardA_tt, fguardA_ff, fguardA_tf, fguardA_ft, fguardA_undef, fpickA_true, fpickA_false, fcondA_true, fcondA_false, binA_add, binA_sub, binA_mul, binA_eql, binA_neq, binA_lss, binA_leq, binA_gtr, binA_geq, unA_not, Bool.not_true, Bool.not_false, convA_int, extA_tuple, List.getElem?_toArray, List.getElem?_cons_zero, List.getElem?_cons_succ, buildA_iff, fillA_nil]
      refine bad st2.drop ⟨_, hq2, rfl⟩ (by omega) ?_
      unfold decB
      rw [if_neg fun q => hk q.2.1]
  · have c1 : ((unf l).2.2.2 != 0) = true := by simp [he]
    simp only [c1, lenSl_slice, lenStr_string, str_size, fpureA_some, fnilA_ptr, faddA_ptr, addr_add, Nat.zero_add, Nat.add_zero, fpureQ_k, fpureQ_nilA, fpureQ_addA, fpureQ_pureA, fpureQ_guardA, fpureQ_idxSlA, fpureQ_pickA, freadQ_loadA, freadQ_loadNA, freadQ_b2sA, freadQ_guardA, freadQ_slSlA, freadQ_k, fendA, fallA_one, fstillA_nil, fguardA_tt, fguardA_ff, fguardA_tf, fguardA_ft, fguardA_undef, fpickA_true, fpickA_false, fcondA_true, fcondA_false, binA_add, binA_sub, binA_mul, binA_eql, binA_neq, binA_lss, binA_leq, binA_gtr, binA_geq, unA_not, Bool.not_true, Bool.not_false, convA_int, extA_tuple, List.getElem?_toArray, List.getElem?_cons_zero, List.getElem?_cons_succ, buildA_iff, fillA_nil]
    refine bad st2.drop ⟨_, hq2, rfl⟩ (by omega) ?_
    unfold decB
    rw [if_neg fun q => he q.1]
theorem Decode_ok {x : Value} {X : Sup} (i : X.In) (hc : X.check = 0) (vb : Bs w0 h x X.enc) : ACalls prog w0 n_layout_DecodeSuper [x] h fun v h' => v = .tuple #[X.v, .int .i64 0] ∧ Step h h' [] [] := by
  have hl := Sup.enc_length hc
  have hs := Sup.sizes hc
  have := DecodeSuper_spec vb (by omega)
  unfold decV at this
  rw [dec_enc i hc] at this
  exact this
def shp0 : Shp := ⟨512, 32, 6, 4, 16, 64, 128, 7, 256, true⟩
theorem shp0_in : shp0.In := by
  refine ⟨?_, ?_, ?_, ?_, ?_, ?_, ?_, ?_, ?_⟩ <;> simp [shp0, i64R]
theorem small_spec : ACalls prog w0 n_deduplaw04_small [] h fun v h' => v = shp0.v ∧ Step h h' [] [] := by
  refine ACalls.of_fit (by simp) fun f => c_deduplaw04_small (by simp) ?_
  simp only [s_deduplaw04_small, newA_iff]
  refine ⟨by simp, ?_⟩
  simp only [buildA_iff, fillA_one, fillA_agg, fillA_nil, isCell_int, isCell_bool, true_and, List.set_cons_zero, List.set_cons_succ, List.length_cons, List.length_nil]
  refine ⟨by omega, by omega, by omega, by omega, by omega, by omega, by omega, by omega, by rfl, by omega, by simp [splice], by simp [splice], ?_⟩
  refine storeN0 (cs := [.int .i64 0, .int .i64 0, .int .i64 0, .int .i64 0, .int .i64 0, .int .i64 0, .int .i64 0, .int .u64 0, .int .i64 0, .bool false]) (vs := shp0.e) f.base (by simp) rfl rfl (by rfl) (loadNA_whole (cs := shp0.e) f.base (by simp) rfl ?_)
  simp only [retA_iff, oneOf_one]
  refine ⟨by simp, by rfl, ?_⟩
  exact (((Step.refl h [] (by simp)).new _ _).put (p := h.next) (by simp) _).drop
def x00 : Sup := ⟨5, 9, shp0⟩
theorem x00_in : x00.In := ⟨by simp [x00], by simp [x00, i64R], shp0_in⟩
theorem shp0_good : shp0.good = true := by decide
theorem x00_check : x00.check = 0 := by decide
theorem awake_spec : ACalls prog w0 n_deduplaw04_awake [] h fun v h' => v = .bool true ∧ Step h h' [] [] := by
  refine ACalls.of_fit (by simp) fun f => c_deduplaw04_awake (by simp) ?_
  simp only [s_deduplaw04_awake]
  refine callA_of small_spec fun v h1 ⟨e, s1⟩ f1 => ?_
  subst e
  simp only [Shp.v, buildA_iff, fillA_one, fillA_agg, fillA_nil, isCell_int, isCell_bool, true_and, List.set_cons_zero, List.set_cons_succ, List.length_cons, List.length_nil]
  refine ⟨by omega, by omega, by rfl, by omega, ?_⟩
  have hX : splice [(Value.int .u64 5), .int .i64 9, .int .i64 0, .int .i64 0, .int .i64 0, .int .i64 0, .int .i64 0, .int .i64 0, .int .i64 0, .int .u64 0, .int .i64 0, .bool false] 2 shp0.e = x00.e := by rfl
  simp only [hX]
  refine callA_of (EncodeSuper_spec x00_in) fun v h2 ⟨g1, g1'⟩ f2 => ?_
  obtain ⟨q, e, g2, hq2, s2⟩ := g1 x00_check
  subst e
  have hlen : x00.enc.length = x00.s.sec.toNat := Sup.enc_length x00_check
  have gB : Bs w0 h2 (.slice (some ⟨q, 0, none⟩) x00.s.sec.toNat x00.s.sec.toNat) x00.enc := by
    have := g2.sl
    rw [← hlen] at this ⊢
    exact this
  simp only [lenSl_slice, lenStr_string, str_size, fpureA_some, fnilA_ptr, faddA_ptr, addr_add, Nat.zero_add, Nat.add_zero, fpureQ_k, fpureQ_nilA, fpureQ_addA, fpureQ_pureA, fpureQ_guardA, fpureQ_idxSlA, fpureQ_pickA, freadQ_loadA, freadQ_loadNA, freadQ_b2sA, freadQ_guardA, freadQ_slSlA, freadQ_k, fendA, fallA_one, fstillA_nil, fguardA_tt, fguardA_ff, fguardA_tf, fguardA_ft, fguardA_undef, fpickA_true, fpickA_false, fcondA_true, fcondA_false, binA_add, binA_sub, binA_mul, binA_eql, binA_neq, binA_lss, binA_leq, binA_gtr, binA_geq, unA_not, Bool.not_true, Bool.not_false, convA_int, extA_tuple, List.getElem?_toArray, List.getElem?_cons_zero, List.getElem?_cons_succ]
  refine callA_of (Decode_ok x00_in x00_check gB) fun v h3 ⟨e, s3⟩ f3 => ?_
  subst e
  have h512 : x00.s.sec.toNat = 512 := rfl
  rw [h512]
  simp only [extA_tuple, List.getElem?_toArray, List.getElem?_cons_zero, List.getElem?_cons_succ, fpureA_some, newA_iff]
  refine ⟨by simp, storeN0 (cs := [(Value.int .u64 0), .int .i64 0, .int .i64 0, .int .i64 0, .int .i64 0, .int .i64 0, .int .i64 0, .int .i64 0, .int .i64 0, .int .u64 0, .int .i64 0, .bool false]) (vs := x00.e) f3.base (by simp) rfl rfl (by rfl) ?_⟩
  rw [put_new]
  have s4 : Step h3 (h3.new x00.e 12) [] [] := ((Step.refl h3 [] (by simp)).new _ _).drop
  have hq4 : (h3.new x00.e 12).blk h3.next = some x00.e := by simp
  have hB := f3.base
  generalize h3.new x00.e 12 = h4 at s4 hq4 ⊢
  have st4 := ((s1.trans s2.drop).trans s3).trans s4
  have z0 : ((0 : Int) == 0) = true := rfl
  have z1 : ((512 : Int) == 512) = true := rfl
  have z2 : ((9 : Int) == 9) = true := rfl
  have z3 : ((5 : Int) == 5) = true := rfl
  have hl512 : lenSl (.slice (some ⟨q, 0, none⟩) 512 512) = some (.int .i64 512) := rfl
  simp only [z0, hl512, z1, lenSl_slice, lenStr_string, str_size, fpureA_some, fnilA_ptr, faddA_ptr, addr_add, Nat.zero_add, Nat.add_zero, fpureQ_k, fpureQ_nilA, fpureQ_addA, fpureQ_pureA, fpureQ_guardA, fpureQ_idxSlA, fpureQ_pickA, freadQ_loadA, freadQ_loadNA, freadQ_b2sA, freadQ_guardA, freadQ_slSlA, freadQ_k, fendA, fallA_one, fstillA_nil, fguardA_tt, fguardA_ff, fguardA_tf, fguardA_ft, fguardA_undef, fpickA_true, fpickA_false, fcondA_true, fcondA_false, binA_add, binA_sub, binA_mul, binA_eql, binA_neq, binA_lss, binA_leq, binA_gtr, binA_geq, unA_not, Bool.not_true, Bool.not_false, convA_int, extA_tuple, List.getElem?_toArray, List.getElem?_cons_zero, List.getElem?_cons_succ]
  refine loadA_at (v := .int .i64 9) hB hq4 (by rfl) ?_
  simp only [z2, lenSl_slice, lenStr_string, str_size, fpureA_some, fnilA_ptr, faddA_ptr, addr_add, Nat.zero_add, Nat.add_zero, fpureQ_k, fpureQ_nilA, fpureQ_addA, fpureQ_pureA, fpureQ_guardA, fpureQ_idxSlA, fpureQ_pickA, freadQ_loadA, freadQ_loadNA, freadQ_b2sA, freadQ_guardA, freadQ_slSlA, freadQ_k, fendA, fallA_one, fstillA_nil, fguardA_tt, fguardA_ff, fguardA_tf, fguardA_ft, fguardA_undef, fpickA_true, fpickA_false, fcondA_true, fcondA_false, binA_add, binA_sub, binA_mul, binA_eql, binA_neq, binA_lss, binA_leq, binA_gtr, binA_geq, unA_not, Bool.not_true, Bool.not_false, convA_int, extA_tuple, List.getElem?_toArray, List.getElem?_cons_zero, List.getElem?_cons_succ]
  refine loadA_at (v := .int .u64 5) hB hq4 (by rfl) ?_
  simp only [z3, lenSl_slice, lenStr_string, str_size, fpureA_some, fnilA_ptr, faddA_ptr, addr_add, Nat.zero_add, Nat.add_zero, fpureQ_k, fpureQ_nilA, fpureQ_addA, fpureQ_pureA, fpureQ_guardA, fpureQ_idxSlA, fpureQ_pickA, freadQ_loadA, freadQ_loadNA, freadQ_b2sA, freadQ_guardA, freadQ_slSlA, freadQ_k, fendA, fallA_one, fstillA_nil, fguardA_tt, fguardA_ff, fguardA_tf, fguardA_ft, fguardA_undef, fpickA_true, fpickA_false, fcondA_true, fcondA_false, binA_add, binA_sub, binA_mul, binA_eql, binA_neq, binA_lss, binA_leq, binA_gtr, binA_geq, unA_not, Bool.not_true, Bool.not_false, convA_int, extA_tuple, List.getElem?_toArray, List.getElem?_cons_zero, List.getElem?_cons_succ]
  refine callA_of small_spec fun v h5 ⟨e, s5⟩ f5 => ?_
  subst e
  refine callA_of (Journal_spec shp0_in) fun v h6 ⟨e, s6⟩ f6 => ?_
  subst e
  have hj : shp0.journal = (2, 6) := by decide
  have hd : shp0.data = (8, 24) := by decide
  rw [hj]
  simp only [buildA_iff, fillA_one, fillA_nil, isCell_int, true_and, List.set_cons_zero, List.set_cons_succ, List.length_cons, List.length_nil, area, eqArea w0]
  refine ⟨by omega, by omega, ?_⟩
  have z4 : ((2 : Int) == 2 && (6 : Int) == 6) = true := rfl
  simp only [z4, lenSl_slice, lenStr_string, str_size, fpureA_some, fnilA_ptr, faddA_ptr, addr_add, Nat.zero_add, Nat.add_zero, fpureQ_k, fpureQ_nilA, fpureQ_addA, fpureQ_pureA, fpureQ_guardA, fpureQ_idxSlA, fpureQ_pickA, freadQ_loadA, freadQ_loadNA, freadQ_b2sA, freadQ_guardA, freadQ_slSlA, freadQ_k, fendA, fallA_one, fstillA_nil, fguardA_tt, fguardA_ff, fguardA_tf, fguardA_ft, fguardA_undef, fpickA_true, fpickA_false, fcondA_true, fcondA_false, binA_add, binA_sub, binA_mul, binA_eql, binA_neq, binA_lss, binA_leq, binA_gtr, binA_geq, unA_not, Bool.not_true, Bool.not_false, convA_int, extA_tuple, List.getElem?_toArray, List.getElem?_cons_zero, List.getElem?_cons_succ]
  refine callA_of small_spec fun v h7 ⟨e, s7⟩ f7 => ?_
  subst e
  refine callA_of (Data_spec shp0_in) fun v h8 ⟨e, s8⟩ f8 => ?_
  subst e
  rw [hd]
  simp only [buildA_iff, fillA_one, fillA_nil, isCell_int, true_and, List.set_cons_zero, List.set_cons_succ, List.length_cons, List.length_nil, area, eqArea w0]
  refine ⟨by omega, by omega, ?_⟩
  have z5 : ((8 : Int) == 8 && (24 : Int) == 24) = true := rfl
  simp only [z5, lenSl_slice, lenStr_string, str_size, fpureA_some, fnilA_ptr, faddA_ptr, addr_add, Nat.zero_add, Nat.add_zero, fpureQ_k, fpureQ_nilA, fpureQ_addA, fpureQ_pureA, fpureQ_guardA, fpureQ_idxSlA, fpureQ_pickA, freadQ_loadA, freadQ_loadNA, freadQ_b2sA, freadQ_guardA, freadQ_slSlA, freadQ_k, fendA, fallA_one, fstillA_nil, fguardA_tt, fguardA_ff, fguardA_tf, fguardA_ft, fguardA_undef, fpickA_true, fpickA_false, fcondA_true, fcondA_false, binA_add, binA_sub, binA_mul, binA_eql, binA_neq, binA_lss, binA_leq, binA_gtr, binA_geq, unA_not, Bool.not_true, Bool.not_false, convA_int, extA_tuple, List.getElem?_toArray, List.getElem?_cons_zero, List.getElem?_cons_succ, retA_iff, oneOf_one]
  exact ⟨by simp, by trivial, (((st4.trans s5).trans s6).trans s7).trans s8⟩
end
end Go.Proofs.Ytihebhdgjnibfaa.Ah
