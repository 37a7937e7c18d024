/- The document's EncodeSuper; superblocks compared. -/
import Derived.Test.YtihebhdgjnibfaaLchecks
set_option linter.unusedVariables false
set_option linter.unusedSimpArgs false
namespace Go.Proofs.Ytihebhdgjnibfaa.Ah
open Go

section
variable {w0 : World} {h : Hp} {K : Kont} {x : Sup}
theorem conv_u64 {a : Int} (h : 0 ≤ a ∧ a < 4294967296) : IntKind.u64.wrap a = ((a.toNat : Nat) : Int) := by rw [IntWalk.u64_in _ (by omega)]; omega
theorem renc_loop {k0 : Value → Value → Hp → Prop} {x5 : Value} {q : Nat} {ns : List Int} (has : ∀ a, a ∈ ns → 0 ≤ a ∧ a < 4294967296) (hl : ns.length ≤ 1000) (hq : w0.heap.size ≤ q) : ∀ (post pre : List Int) (h : Hp) (bs : List UInt8), pre ++ post = ns → h.blk q = some (ns.map (.int .i64 ·)) → q < h.next → bs.length ≤ 100 + 4 * pre.length →
    (∀ h', Step h h' [] [] → k0 x5 (.string (str (bs ++ post.flatMap (fun n => be 4 n.toNat)))) h') →
    dedupref04_EncodeSuper_L1 prog w0 k0 (post.length + 1) x5 (.string (str bs)) (.slice (some ⟨q, 0, none⟩) ns.length ns.length) (.int .i64 ns.length) (.int .i64 (pre.length : Int)) h := by
  intro post
  induction post with
  | nil =>
    intro pre h bs he hb hql hm hk
    have : pre = ns := by simpa using he
    subst this
    rw [List.length_nil, dedupref04_EncodeSuper_L1]
    simp only [dedupref04_EncodeSuper_B1, lenSl_slice, lenStr_string, str_size, fpureA_some, fnilA_ptr, faddA_ptr, addr_add, Nat.zero_add, Nat.add_zero, fpureQ_k, fpureQ_nilA, fpureQ_addA, fpureQ_pureA, fpureQ_guardA, fpureQ_idxSlA, fpureQ_pickA, freadQ_loadA, freadQ_loadNA, freadQ_b2sA, freadQ_guardA, freadQ_slSlA, freadQ_k, fendA, fallA_one, fstillA_nil, fguardA_tt, fguardA_ff, fguardA_tf, fguardA_ft, fguardA_undef, fpickA_true, fpickA_false, fcondA_true, fcondA_false, binA_add, binA_sub, binA_mul, binA_eql, binA_neq, binA_lss, binA_leq, binA_gtr, binA_geq, unA_not, Bool.not_true, Bool.not_false, convA_int, extA_tuple, List.getElem?_toArray, List.getElem?_cons_zero, List.getElem?_cons_succ, Int.lt_irrefl, decide_false]
    simpa using hk h (Step.refl _ _ (by simp))
  | cons a post ih =>
    intro pre h bs he hb hql hm hk
    have hlen : pre.length + (post.length + 1) = ns.length := by rw [← he]; simp
    have ha := has a (by rw [← he]; simp)
    have c1 : decide ((pre.length : Int) < (ns.length : Int)) = true := decide_eq_true (by omega)
    have e5 : IntKind.i64.wrap ((pre.length : Int) + 1) = ((pre.length + 1 : Nat) : Int) := by rw [IntWalk.i64_in _ (by omega)]; simp
    have hg : (ns.map (Value.int .i64 ·))[pre.length]? = some (.int .i64 a) := by rw [← he]; simp
    rw [List.length_cons, dedupref04_EncodeSuper_L1]
    simp only [dedupref04_EncodeSuper_B1, lenSl_slice, lenStr_string, str_size, fpureA_some, fnilA_ptr, faddA_ptr, addr_add, Nat.zero_add, Nat.add_zero, fpureQ_k, fpureQ_nilA, fpureQ_addA, fpureQ_pureA, fpureQ_guardA, fpureQ_idxSlA, fpureQ_pickA, freadQ_loadA, freadQ_loadNA, freadQ_b2sA, freadQ_guardA, freadQ_slSlA, freadQ_k, fendA, fallA_one, fstillA_nil, fguardA_tt, fguardA_ff, fguardA_tf, fguardA_ft, fguardA_undef, fpickA_true, fpickA_false, fcondA_true, fcondA_false, binA_add, binA_sub, binA_mul, binA_eql, binA_neq, binA_lss, binA_leq, binA_gtr, binA_geq, unA_not, Bool.not_true, Bool.not_false, convA_int, extA_tuple, List.getElem?_toArray, List.getElem?_cons_zero, List.getElem?_cons_succ, c1]
    rw [idxSlA_iff]
    refine ⟨by omega, by omega, ?_⟩
    rw [addr_add, Int.toNat_natCast, Nat.mul_one, Nat.zero_add]
    refine loadA_at hq hb hg ?_
    simp only [lenSl_slice, lenStr_string, str_size, fpureA_some, fnilA_ptr, faddA_ptr, addr_add, Nat.zero_add, Nat.add_zero, fpureQ_k, fpureQ_nilA, fpureQ_addA, fpureQ_pureA, fpureQ_guardA, fpureQ_idxSlA, fpureQ_pickA, freadQ_loadA, freadQ_loadNA, freadQ_b2sA, freadQ_guardA, freadQ_slSlA, freadQ_k, fendA, fallA_one, fstillA_nil, fguardA_tt, fguardA_ff, fguardA_tf, fguardA_ft, fguardA_undef, fpickA_true, fpickA_false, fcondA_true, fcondA_false, binA_add, binA_sub, binA_mul, binA_eql, binA_neq, binA_lss, binA_leq, binA_gtr, binA_geq, unA_not, Bool.not_true, Bool.not_false, convA_int, extA_tuple, List.getElem?_toArray, List.getElem?_cons_zero, List.getElem?_cons_succ, conv_u64 ha]
    refine callA_of (rNumber_spec a.toNat 4 (by omega)) fun v h1 ⟨e, s1⟩ f1 => ?_
    subst e
    rw [strA_add _ _ (by rw [str_size, str_size, be_length]; omega)]
    simp only [str_append, lenSl_slice, lenStr_string, str_size, fpureA_some, fnilA_ptr, faddA_ptr, addr_add, Nat.zero_add, Nat.add_zero, fpureQ_k, fpureQ_nilA, fpureQ_addA, fpureQ_pureA, fpureQ_guardA, fpureQ_idxSlA, fpureQ_pickA, freadQ_loadA, freadQ_loadNA, freadQ_b2sA, freadQ_guardA, freadQ_slSlA, freadQ_k, fendA, fallA_one, fstillA_nil, fguardA_tt, fguardA_ff, fguardA_tf, fguardA_ft, fguardA_undef, fpickA_true, fpickA_false, fcondA_true, fcondA_false, binA_add, binA_sub, binA_mul, binA_eql, binA_neq, binA_lss, binA_leq, binA_gtr, binA_geq, unA_not, Bool.not_true, Bool.not_false, convA_int, extA_tuple, List.getElem?_toArray, List.getElem?_cons_zero, List.getElem?_cons_succ, e5]
    have := ih (pre ++ [a]) h1 (bs ++ be 4 a.toNat) (by simpa using he) ((s1.keep _ hql (by simp)).1.trans hb) (by have := s1.next; omega) (by simp; omega) (fun h' s' => by
      have := hk h' (s1.trans s')
      simpa using this)
    simpa using this
theorem rEncodeSuper_spec (i : x.In) : ACalls prog w0 n_dedupref04_EncodeSuper [x.v] h (EncP w0 h x) := by
  refine ACalls.of_fit (by simpa using x.junk) fun f => c_dedupref04_EncodeSuper (by simpa using x.junk) ?_
  simp only [s_dedupref04_EncodeSuper, Sup.v, boxA_agg, List.toList_toArray, lenSl_slice, lenStr_string, str_size, fpureA_some, fnilA_ptr, faddA_ptr, addr_add, Nat.zero_add, Nat.add_zero, fpureQ_k, fpureQ_nilA, fpureQ_addA, fpureQ_pureA, fpureQ_guardA, fpureQ_idxSlA, fpureQ_pickA, freadQ_loadA, freadQ_loadNA, freadQ_b2sA, freadQ_guardA, freadQ_slSlA, freadQ_k, fendA, fallA_one, fstillA_nil, fguardA_tt, fguardA_ff, fguardA_tf, fguardA_ft, fguardA_undef, fpickA_true, fpickA_false, fcondA_true, fcondA_false, binA_add, binA_sub, binA_mul, binA_eql, binA_neq, binA_lss, binA_leq, binA_gtr, binA_geq, unA_not, Bool.not_true, Bool.not_false, convA_int, extA_tuple, List.getElem?_toArray, List.getElem?_cons_zero, List.getElem?_cons_succ]
  have s1 : Step h (h.new x.e 12) [] [] := ((Step.refl h [] (by simp)).new _ _).drop
  have hq1 : (h.new x.e 12).blk h.next = some x.e := by simp
  have hn1 : h.next < (h.new x.e 12).next := by simp
  have hB := f.base
  generalize h.new x.e 12 = h1 at s1 hq1 hn1 ⊢
  refine loadNA_whole hB hq1 rfl ?_
  refine callA_of (rCheckSuper_spec i) fun _ h2 ⟨e, s2⟩ f2 => ?_
  subst e
  have hq2 := (s2.keep _ hn1 (by simp)).1.trans hq1
  have st := s1.trans s2
  by_cases hc : x.check = 0
  · have c1 : (x.check != 0) = false := by simp [hc]
    have hsz := Sup.sizes hc
    have hin := Sup.ints_in hc
    have G := x.s.good_iff.1 (Sup.good hc)
    have gb := G.bits
    have hgen := i.gen
    have hseed := i.s.seed
    simp only [c1, lenSl_slice, lenStr_string, str_size, fpureA_some, fnilA_ptr, faddA_ptr, addr_add, Nat.zero_add, Nat.add_zero, fpureQ_k, fpureQ_nilA, fpureQ_addA, fpureQ_pureA, fpureQ_guardA, fpureQ_idxSlA, fpureQ_pickA, freadQ_loadA, freadQ_loadNA, freadQ_b2sA, freadQ_guardA, freadQ_slSlA, freadQ_k, fendA, fallA_one, fstillA_nil, fguardA_tt, fguardA_ff, fguardA_tf, fguardA_ft, fguardA_undef, fpickA_true, fpickA_false, fcondA_true, fcondA_false, binA_add, binA_sub, binA_mul, binA_eql, binA_neq, binA_lss, binA_leq, binA_gtr, binA_geq, unA_not, Bool.not_true, Bool.not_false, convA_int, extA_tuple, List.getElem?_toArray, List.getElem?_cons_zero, List.getElem?_cons_succ]
    have hcut : (x.e.drop 2).take 10 = x.s.e := rfl
    refine loadNA_part hB hq2 hcut (by simp [Sup.e, Shp.e]) ?_
    simp only [newA_iff]
    refine ⟨by simp, storeN0 (cs := [.int .i64 0, .int .i64 0, .int .i64 0, .int .i64 0, .int .i64 0, .int .i64 0, .int .i64 0, .int .u64 0, .int .i64 0, .bool false]) f2.base (by simp) rfl rfl (by rfl) ?_⟩
    rw [put_new]
    have s3 : Step h2 (h2.new x.s.e 10) [] [] := ((Step.refl h2 [] (by simp)).new _ _).drop
    have hq3 : (h2.new x.s.e 10).blk h2.next = some x.s.e := by simp
    have hn3 : h2.next < (h2.new x.s.e 10).next := by simp
    have hB3 := f2.base
    have hn2 : h.next < h2.next := by have := s2.next; omega
    generalize h2.new x.s.e 10 = h3 at s3 hq3 hn3 ⊢
    have hq13 := (s3.keep _ hn2 (by simp)).1.trans hq2
    have hn13 : h.next < h3.next := by have := s3.next; omega
    have st3 := st.trans s3
    obtain ⟨g, hg⟩ := Int.eq_ofNat_of_zero_le hgen.1
    try simp only [lenSl_slice, lenStr_string, str_size, fpureA_some, fnilA_ptr, faddA_ptr, addr_add, Nat.zero_add, Nat.add_zero, fpureQ_k, fpureQ_nilA, fpureQ_addA, fpureQ_pureA, fpureQ_guardA, fpureQ_idxSlA, fpureQ_pickA, freadQ_loadA, freadQ_loadNA, freadQ_b2sA, freadQ_guardA, freadQ_slSlA, freadQ_k, fendA, fallA_one, fstillA_nil, fguardA_tt, fguardA_ff, fguardA_tf, fguardA_ft, fguardA_undef, fpickA_true, fpickA_false, fcondA_true, fcondA_false, binA_add, binA_sub, binA_mul, binA_eql, binA_neq, binA_lss, binA_leq, binA_gtr, binA_geq, unA_not, Bool.not_true, Bool.not_false, convA_int, extA_tuple, List.getElem?_toArray, List.getElem?_cons_zero, List.getElem?_cons_succ]
    refine loadA_at hB hq13 (by rfl) ?_
    rw [hg]
    refine callA_of (rNumber_spec g 8 (by omega)) fun _ h5 ⟨e, s5⟩ f5 => ?_
    subst e
    have n35 := s5.next
    have hq15 := (s5.keep _ hn13 (by simp)).1.trans hq13
    have hq35 := (s5.keep _ hn3 (by simp)).1.trans hq3
    have st5 := st3.trans s5
    try simp only [lenSl_slice, lenStr_string, str_size, fpureA_some, fnilA_ptr, faddA_ptr, addr_add, Nat.zero_add, Nat.add_zero, fpureQ_k, fpureQ_nilA, fpureQ_addA, fpureQ_pureA, fpureQ_guardA, fpureQ_idxSlA, fpureQ_pickA, freadQ_loadA, freadQ_loadNA, freadQ_b2sA, freadQ_guardA, freadQ_slSlA, freadQ_k, fendA, fallA_one, fstillA_nil, fguardA_tt, fguardA_ff, fguardA_tf, fguardA_ft, fguardA_undef, fpickA_true, fpickA_false, fcondA_true, fcondA_false, binA_add, binA_sub, binA_mul, binA_eql, binA_neq, binA_lss, binA_leq, binA_gtr, binA_geq, unA_not, Bool.not_true, Bool.not_false, convA_int, extA_tuple, List.getElem?_toArray, List.getElem?_cons_zero, List.getElem?_cons_succ]
    refine loadA_at hB hq15 (by rfl) ?_
    refine loadA_at hB3 hq35 (by rfl) ?_
    refine loadA_at hB3 hq35 (by rfl) ?_
    refine loadA_at hB3 hq35 (by rfl) ?_
    refine loadA_at hB3 hq35 (by rfl) ?_
    refine loadA_at hB3 hq35 (by rfl) ?_
    refine loadA_at hB3 hq35 (by rfl) ?_
    refine loadA_at hB3 hq35 (by rfl) ?_
    refine fill8 rfl rfl rfl rfl rfl rfl rfl rfl (by rfl) ?_
    have hmap : [(Value.int .i64 x.root), .int .i64 x.s.sec, .int .i64 x.s.tot, .int .i64 x.s.jou, .int .i64 x.s.pck, .int .i64 x.s.mn, .int .i64 x.s.nm, .int .i64 x.s.mx] = x.ints.map (.int .i64 ·) := rfl
    rw [hmap]
    have s6 : Step h5 (h5.new (x.ints.map (.int .i64 ·)) 1) [] [] := ((Step.refl h5 [] (by simp)).new _ _).drop
    have hq6 : (h5.new (x.ints.map (.int .i64 ·)) 1).blk h5.next = some (x.ints.map (.int .i64 ·)) := by simp
    have hn6 : h5.next < (h5.new (x.ints.map (.int .i64 ·)) 1).next := by simp
    generalize h5.new (x.ints.map (.int .i64 ·)) 1 = h6 at s6 hq6 hn6 ⊢
    have st6 := st5.trans s6
    try simp only [lenSl_slice, lenStr_string, str_size, fpureA_some, fnilA_ptr, faddA_ptr, addr_add, Nat.zero_add, Nat.add_zero, fpureQ_k, fpureQ_nilA, fpureQ_addA, fpureQ_pureA, fpureQ_guardA, fpureQ_idxSlA, fpureQ_pickA, freadQ_loadA, freadQ_loadNA, freadQ_b2sA, freadQ_guardA, freadQ_slSlA, freadQ_k, fendA, fallA_one, fstillA_nil, fguardA_tt, fguardA_ff, fguardA_tf, fguardA_ft, fguardA_undef, fpickA_true, fpickA_false, fcondA_true, fcondA_false, binA_add, binA_sub, binA_mul, binA_eql, binA_neq, binA_lss, binA_leq, binA_gtr, binA_geq, unA_not, Bool.not_true, Bool.not_false, convA_int, extA_tuple, List.getElem?_toArray, List.getElem?_cons_zero, List.getElem?_cons_succ]
    have hl8 : x.ints.length = 8 := rfl
    refine ⟨9, ?_⟩
    refine renc_loop (q := h5.next) hin (by simp [hl8]) (by have := f5.base; omega) x.ints [] h6 (be 8 g) rfl hq6 hn6 (by simp) fun h7 s7 => ?_
    have n67 := s7.next
    have st7 := st6.trans s7
    have hq37 := (s7.keep _ (show h2.next < h6.next by omega) (by simp)).1.trans ((s6.keep _ (show h2.next < h5.next by omega) (by simp)).1.trans hq35)
    have hbody7 : (be 8 g ++ x.ints.flatMap (fun n => be 4 n.toNat)).length = 40 := by simp [Sup.ints]
    obtain ⟨sd, hsd⟩ := Int.eq_ofNat_of_zero_le hseed.1
    have eb : IntKind.u64.wrap x.s.bits = ((x.s.bits.toNat : Nat) : Int) := conv_u64 (by omega)
    try simp only [lenSl_slice, lenStr_string, str_size, fpureA_some, fnilA_ptr, faddA_ptr, addr_add, Nat.zero_add, Nat.add_zero, fpureQ_k, fpureQ_nilA, fpureQ_addA, fpureQ_pureA, fpureQ_guardA, fpureQ_idxSlA, fpureQ_pickA, freadQ_loadA, freadQ_loadNA, freadQ_b2sA, freadQ_guardA, freadQ_slSlA, freadQ_k, fendA, fallA_one, fstillA_nil, fguardA_tt, fguardA_ff, fguardA_tf, fguardA_ft, fguardA_undef, fpickA_true, fpickA_false, fcondA_true, fcondA_false, binA_add, binA_sub, binA_mul, binA_eql, binA_neq, binA_lss, binA_leq, binA_gtr, binA_geq, unA_not, Bool.not_true, Bool.not_false, convA_int, extA_tuple, List.getElem?_toArray, List.getElem?_cons_zero, List.getElem?_cons_succ]
    refine loadA_at (v := .int .u64 x.s.seed) hB3 hq37 (by rfl) ?_
    refine loadA_at (v := .int .i64 x.s.bits) hB3 hq37 (by rfl) ?_
    rw [hsd]
    simp only [lenSl_slice, lenStr_string, str_size, fpureA_some, fnilA_ptr, faddA_ptr, addr_add, Nat.zero_add, Nat.add_zero, fpureQ_k, fpureQ_nilA, fpureQ_addA, fpureQ_pureA, fpureQ_guardA, fpureQ_idxSlA, fpureQ_pickA, freadQ_loadA, freadQ_loadNA, freadQ_b2sA, freadQ_guardA, freadQ_slSlA, freadQ_k, fendA, fallA_one, fstillA_nil, fguardA_tt, fguardA_ff, fguardA_tf, fguardA_ft, fguardA_undef, fpickA_true, fpickA_false, fcondA_true, fcondA_false, binA_add, binA_sub, binA_mul, binA_eql, binA_neq, binA_lss, binA_leq, binA_gtr, binA_geq, unA_not, Bool.not_true, Bool.not_false, convA_int, extA_tuple, List.getElem?_toArray, List.getElem?_cons_zero, List.getElem?_cons_succ, eb]
    refine callA_of (rNumber_spec sd 8 (by omega)) fun _ h8 ⟨e, s8⟩ f8 => ?_
    subst e
    have n78 := s8.next
    have hq38 := (s8.keep _ (show h2.next < h7.next by omega) (by simp)).1.trans hq37
    have st8 := st7.trans s8
    simp only [stillA_iff, allA_one, sameQ_loadA, lenSl_slice, lenStr_string, str_size, fpureA_some, fnilA_ptr, faddA_ptr, addr_add, Nat.zero_add, Nat.add_zero, fpureQ_k, fpureQ_nilA, fpureQ_addA, fpureQ_pureA, fpureQ_guardA, fpureQ_idxSlA, fpureQ_pickA, freadQ_loadA, freadQ_loadNA, freadQ_b2sA, freadQ_guardA, freadQ_slSlA, freadQ_k, fendA, fallA_one, fstillA_nil, fguardA_tt, fguardA_ff, fguardA_tf, fguardA_ft, fguardA_undef, fpickA_true, fpickA_false, fcondA_true, fcondA_false, binA_add, binA_sub, binA_mul, binA_eql, binA_neq, binA_lss, binA_leq, binA_gtr, binA_geq, unA_not, Bool.not_true, Bool.not_false, convA_int, extA_tuple, List.getElem?_toArray, List.getElem?_cons_zero, List.getElem?_cons_succ]
    refine ⟨loadA_at hB3 hq38 (by rfl) rfl, ?_⟩
    refine callA_of (rNumber_spec x.s.bits.toNat 2 (by omega)) fun _ h9 ⟨e, s9⟩ f9 => ?_
    subst e
    have n89 := s9.next
    have hq39 := (s9.keep _ (show h2.next < h8.next by omega) (by simp)).1.trans hq38
    have st9 := st8.trans s9
    rw [strA_add _ _ (by rw [str_size, str_size, be_length, be_length]; omega)]
    simp only [str_append, lenSl_slice, lenStr_string, str_size, fpureA_some, fnilA_ptr, faddA_ptr, addr_add, Nat.zero_add, Nat.add_zero, fpureQ_k, fpureQ_nilA, fpureQ_addA, fpureQ_pureA, fpureQ_guardA, fpureQ_idxSlA, fpureQ_pickA, freadQ_loadA, freadQ_loadNA, freadQ_b2sA, freadQ_guardA, freadQ_slSlA, freadQ_k, fendA, fallA_one, fstillA_nil, fguardA_tt, fguardA_ff, fguardA_tf, fguardA_ft, fguardA_undef, fpickA_true, fpickA_false, fcondA_true, fcondA_false, binA_add, binA_sub, binA_mul, binA_eql, binA_neq, binA_lss, binA_leq, binA_gtr, binA_geq, unA_not, Bool.not_true, Bool.not_false, convA_int, extA_tuple, List.getElem?_toArray, List.getElem?_cons_zero, List.getElem?_cons_succ]
    rw [strA_add _ _ (by rw [str_size, str_size, hbody7]; simp)]
    simp only [str_append, lenSl_slice, lenStr_string, str_size, fpureA_some, fnilA_ptr, faddA_ptr, addr_add, Nat.zero_add, Nat.add_zero, fpureQ_k, fpureQ_nilA, fpureQ_addA, fpureQ_pureA, fpureQ_guardA, fpureQ_idxSlA, fpureQ_pickA, freadQ_loadA, freadQ_loadNA, freadQ_b2sA, freadQ_guardA, freadQ_slSlA, freadQ_k, fendA, fallA_one, fstillA_nil, fguardA_tt, fguardA_ff, fguardA_tf, fguardA_ft, fguardA_undef, fpickA_true, fpickA_false, fcondA_true, fcondA_false, binA_add, binA_sub, binA_mul, binA_eql, binA_neq, binA_lss, binA_leq, binA_gtr, binA_geq, unA_not, Bool.not_true, Bool.not_false, convA_int, extA_tuple, List.getElem?_toArray, List.getElem?_cons_zero, List.getElem?_cons_succ]
    have hbody9 : (be 8 g ++ x.ints.flatMap (fun n => be 4 n.toNat) ++ (be 8 sd ++ be 2 x.s.bits.toNat)).length = 50 := by rw [List.length_append, hbody7]; simp
    have gt : x.gen.toNat = g := by omega
    have sdt : x.s.seed.toNat = sd := by omega
    obtain ⟨sec, hsec⟩ := Int.eq_ofNat_of_zero_le (show 0 ≤ x.s.sec by omega)
    have sect : x.s.sec.toNat = sec := by omega
    have fin : (callA prog w0 n_dedupref02_Frame [.int .u8 83, .string (str x.body)] fun v81 => pureA (extA v81 0) fun v82 => pureA (extA v81 1) fun v83 => loadA w0 (.pointer (some ⟨h2.next, 0, none⟩)) fun v85 =>
          mkA 1 1 [(.int .u8 0)] v85 v85 fun v86 => copyA w0 1 v86 v82 fun v89 => retA [v86, (.int .i64 0)] (EncP w0 h x)) h9 := by
      refine callA_of (rFrame_spec 83 (by omega) x.body (by rw [Sup.body_length]; omega)) fun _ h11 ⟨e, s11⟩ f11 => ?_
      rw [if_neg (by rw [Sup.body_length]; omega)] at e
      subst e
      have n11 := s11.next
      have hq11 := (s11.keep _ (show h2.next < h9.next by omega) (by simp)).1.trans hq39
      simp only [lenSl_slice, lenStr_string, str_size, fpureA_some, fnilA_ptr, faddA_ptr, addr_add, Nat.zero_add, Nat.add_zero, fpureQ_k, fpureQ_nilA, fpureQ_addA, fpureQ_pureA, fpureQ_guardA, fpureQ_idxSlA, fpureQ_pickA, freadQ_loadA, freadQ_loadNA, freadQ_b2sA, freadQ_guardA, freadQ_slSlA, freadQ_k, fendA, fallA_one, fstillA_nil, fguardA_tt, fguardA_ff, fguardA_tf, fguardA_ft, fguardA_undef, fpickA_true, fpickA_false, fcondA_true, fcondA_false, binA_add, binA_sub, binA_mul, binA_eql, binA_neq, binA_lss, binA_leq, binA_gtr, binA_geq, unA_not, Bool.not_true, Bool.not_false, convA_int, extA_tuple, List.getElem?_toArray, List.getElem?_cons_zero, List.getElem?_cons_succ]
      refine loadA_at hB3 hq11 (by rfl) ?_
      rw [hsec]
      have hfl : (frame 83 x.body).length = 63 := by rw [frame_length, Sup.body_length]
      refine mk_copy f11 (by rw [hfl]; omega) (by rw [hfl]; omega) (by omega) fun h12 q g12 hq12 s12 => ?_
      rw [hfl] at g12
      simp only [retA_iff, oneOf_two]
      refine ⟨by simp, fun _ => ⟨q, by rw [sect], ?_, by have := st9.next; omega, ?_⟩, fun hne => absurd hc hne⟩
      · rw [sect, Sup.enc, sect]; exact g12
      · exact (st9.trans s11).trans s12
    refine loadA_at hB3 hq39 (by rfl) ?_
    have b1 : (⟨#[1]⟩ : ByteArray) = str [1] := rfl
    have b0 : (⟨#[0]⟩ : ByteArray) = str [0] := rfl
    simp only [condA_bool]
    refine ⟨fun hdd => ?_, fun hdd => ?_⟩
    · rw [b1, strA_add _ _ (by rw [str_size, str_size, hbody9]; simp)]
      have hbody : be 8 g ++ x.ints.flatMap (fun n => be 4 n.toNat) ++ (be 8 sd ++ be 2 x.s.bits.toNat) ++ [1] = x.body := by rw [Sup.body, gt, sdt, hdd]; simp
      simp only [str_append, lenSl_slice, lenStr_string, str_size, fpureA_some, fnilA_ptr, faddA_ptr, addr_add, Nat.zero_add, Nat.add_zero, fpureQ_k, fpureQ_nilA, fpureQ_addA, fpureQ_pureA, fpureQ_guardA, fpureQ_idxSlA, fpureQ_pickA, freadQ_loadA, freadQ_loadNA, freadQ_b2sA, freadQ_guardA, freadQ_slSlA, freadQ_k, fendA, fallA_one, fstillA_nil, fguardA_tt, fguardA_ff, fguardA_tf, fguardA_ft, fguardA_undef, fpickA_true, fpickA_false, fcondA_true, fcondA_false, binA_add, binA_sub, binA_mul, binA_eql, binA_neq, binA_lss, binA_leq, binA_gtr, binA_geq, unA_not, Bool.not_true, Bool.not_false, convA_int, extA_tuple, List.getElem?_toArray, List.getElem?_cons_zero, List.getElem?_cons_succ, hbody]
      exact fin
    · rw [b0, strA_add _ _ (by rw [str_size, str_size, hbody9]; simp)]
      have hbody : be 8 g ++ x.ints.flatMap (fun n => be 4 n.toNat) ++ (be 8 sd ++ be 2 x.s.bits.toNat) ++ [0] = x.body := by rw [Sup.body, gt, sdt, hdd]; simp
      simp only [str_append, lenSl_slice, lenStr_string, str_size, fpureA_some, fnilA_ptr, faddA_ptr, addr_add, Nat.zero_add, Nat.add_zero, fpureQ_k, fpureQ_nilA, fpureQ_addA, fpureQ_pureA, fpureQ_guardA, fpureQ_idxSlA, fpureQ_pickA, freadQ_loadA, freadQ_loadNA, freadQ_b2sA, freadQ_guardA, freadQ_slSlA, freadQ_k, fendA, fallA_one, fstillA_nil, fguardA_tt, fguardA_ff, fguardA_tf, fguardA_ft, fguardA_undef, fpickA_true, fpickA_false, fcondA_true, fcondA_false, binA_add, binA_sub, binA_mul, binA_eql, binA_neq, binA_lss, binA_leq, binA_gtr, binA_geq, unA_not, Bool.not_true, Bool.not_false, convA_int, extA_tuple, List.getElem?_toArray, List.getElem?_cons_zero, List.getElem?_cons_succ, hbody]
      exact fin
  · have c1 : (x.check != 0) = true := by simp [hc]
    simp only [c1, lenSl_slice, lenStr_string, str_size, fpureA_some, fnilA_ptr, faddA_ptr, addr_add, Nat.zero_add, Nat.add_zero, fpureQ_k, fpureQ_nilA, fpureQ_addA, fpureQ_pureA, fpureQ_guardA, fpureQ_idxSlA, fpureQ_pickA, freadQ_loadA, freadQ_loadNA, freadQ_b2sA, freadQ_guardA, freadQ_slSlA, freadQ_k, fendA, fallA_one, fstillA_nil, fguardA_tt, fguardA_ff, fguardA_tf, fguardA_ft, fguardA_undef, fpickA_true, fpickA_false, fcondA_true, fcondA_false, binA_add, binA_sub, binA_mul, binA_eql, binA_neq, binA_lss, binA_leq, binA_gtr, binA_geq, unA_not, Bool.not_true, Bool.not_false, convA_int, extA_tuple, List.getElem?_toArray, List.getElem?_cons_zero, List.getElem?_cons_succ, retA_iff, oneOf_two]
    exact ⟨by simp, fun e => absurd e hc, fun _ => ⟨rfl, st⟩⟩
theorem eqSup (w0 : World) (x : Sup) : eqStA prog .eql 31 (.agg x.e.toArray) (.agg x.e.toArray) = fun K => K (.bool true) := by
  have hS : prog.underlying 31 = some (.struct (prog.fieldsOf 31)) := by kernel_rfl
  have hp : prog.stoodInHeld 31 = false := by kernel_rfl
  have key : ∀ w, (binOp .eql 31 (.agg x.e.toArray) (.agg x.e.toArray)).run prog w = .ok (.bool true) w := by
    obtain ⟨gen, root, ⟨sec, tot, jou, pck, mn, nm, mx, seed, bits, dd⟩⟩ := x
    intro w
    rw [run_eql_struct, show (10000 : Nat) = 9999 + 1 from rfl, run_equalIn_agg w 9999 31 _ _ hS hp]
    simp only [Program.fieldsOf, Try.underlying31, Sup.e, Shp.e]
    go_simp
  funext K h
  refine propext ⟨?_, fun hk => ?_⟩
  · rintro ⟨xs, ys, q, e1, e2, -, -, e3, -, hk⟩
    cases e1
    cases e2
    have := (e3 w0).symm.trans (key w0)
    simp at this
    subst this
    exact hk
  · refine ⟨_, _, _, rfl, rfl, fun v hv => ?_, fun v hv => ?_, key, fun w => run_eqGuard_agg w _ _ _ _ _ _ (by kernel_rfl), hk⟩
    all_goals
      simp [Sup.e, Shp.e] at hv
      rcases hv with rfl | rfl | rfl | rfl | rfl | rfl | rfl | rfl | rfl | rfl | rfl | rfl <;> rfl
theorem neSup (w0 : World) (x : Sup) : eqStA prog .neq 31 (.agg x.e.toArray) (.agg x.e.toArray) = fun K => K (.bool false) := by
  have hS : prog.underlying 31 = some (.struct (prog.fieldsOf 31)) := by kernel_rfl
  have hp : prog.stoodInHeld 31 = false := by kernel_rfl
  have key : ∀ w, (binOp .neq 31 (.agg x.e.toArray) (.agg x.e.toArray)).run prog w = .ok (.bool false) w := by
    obtain ⟨gen, root, ⟨sec, tot, jou, pck, mn, nm, mx, seed, bits, dd⟩⟩ := x
    intro w
    rw [run_neq_struct, show (10000 : Nat) = 9999 + 1 from rfl, run_equalIn_agg w 9999 31 _ _ hS hp]
    simp only [Program.fieldsOf, Try.underlying31, Sup.e, Shp.e]
    go_simp
  funext K h
  refine propext ⟨?_, fun hk => ?_⟩
  · rintro ⟨xs, ys, q, e1, e2, -, -, e3, -, hk⟩
    cases e1
    cases e2
    have := (e3 w0).symm.trans (key w0)
    simp at this
    subst this
    exact hk
  · refine ⟨_, _, _, rfl, rfl, fun v hv => ?_, fun v hv => ?_, key, fun w => run_eqGuard_agg w _ _ _ _ _ _ (by kernel_rfl), hk⟩
    all_goals
      simp [Sup.e, Shp.e] at hv
      rcases hv with rfl | rfl | rfl | rfl | rfl | rfl | rfl | rfl | rfl | rfl | rfl | rfl <;> rfl
theorem LayoutEncodes_top (i : x.In) : ACalls prog w0 n_deduplaw04_LayoutEncodes [.agg x.e.toArray] h fun v h' => v = .bool true := by
  refine ACalls.of_fit (by simp) fun f => c_deduplaw04_LayoutEncodes (by simp) ?_
  simp only [s_deduplaw04_LayoutEncodes, boxA_agg, List.toList_toArray, allA_one]
  have hq1 : (h.new x.e 12).blk h.next = some x.e := by simp
  have hn1 : h.next < (h.new x.e 12).next := by simp
  have hB := f.base
  generalize h.new x.e 12 = h1 at hq1 hn1 ⊢
  refine callA_of awake_spec fun v h2 ⟨e, s2⟩ f2 => ?_
  subst e
  have hq2 := (s2.keep _ hn1 (by simp)).1.trans hq1
  have hn2 : h.next < h2.next := by have := s2.next; omega
  simp only [stillA_iff, lenSl_slice, lenStr_string, str_size, fpureA_some, fnilA_ptr, faddA_ptr, addr_add, Nat.zero_add, Nat.add_zero, fpureQ_k, fpureQ_nilA, fpureQ_addA, fpureQ_pureA, fpureQ_guardA, fpureQ_idxSlA, fpureQ_pickA, freadQ_loadA, freadQ_loadNA, freadQ_b2sA, freadQ_guardA, freadQ_slSlA, freadQ_k, fendA, fallA_one, fstillA_nil, fguardA_tt, fguardA_ff, fguardA_tf, fguardA_ft, fguardA_undef, fpickA_true, fpickA_false, fcondA_true, fcondA_false, binA_add, binA_sub, binA_mul, binA_eql, binA_neq, binA_lss, binA_leq, binA_gtr, binA_geq, unA_not, Bool.not_true, Bool.not_false, convA_int, extA_tuple, List.getElem?_toArray, List.getElem?_cons_zero, List.getElem?_cons_succ]
  refine ⟨by trivial, loadNA_whole hB hq2 rfl (loadNA_whole hB hq2 rfl ?_)⟩
  try simp only [allA_one, lenSl_slice, lenStr_string, str_size, fpureA_some, fnilA_ptr, faddA_ptr, addr_add, Nat.zero_add, Nat.add_zero, fpureQ_k, fpureQ_nilA, fpureQ_addA, fpureQ_pureA, fpureQ_guardA, fpureQ_idxSlA, fpureQ_pickA, freadQ_loadA, freadQ_loadNA, freadQ_b2sA, freadQ_guardA, freadQ_slSlA, freadQ_k, fendA, fallA_one, fstillA_nil, fguardA_tt, fguardA_ff, fguardA_tf, fguardA_ft, fguardA_undef, fpickA_true, fpickA_false, fcondA_true, fcondA_false, binA_add, binA_sub, binA_mul, binA_eql, binA_neq, binA_lss, binA_leq, binA_gtr, binA_geq, unA_not, Bool.not_true, Bool.not_false, convA_int, extA_tuple, List.getElem?_toArray, List.getElem?_cons_zero, List.getElem?_cons_succ]
  refine callA_of (CheckSuper_spec i) fun v h3 ⟨e, s3⟩ f3 => ?_
  subst e
  have hq3 := (s3.keep _ hn2 (by simp)).1.trans hq2
  have hn3 : h.next < h3.next := by have := s3.next; omega
  simp only [stillA_iff, allA_one, sameQ_loadNA, lenSl_slice, lenStr_string, str_size, fpureA_some, fnilA_ptr, faddA_ptr, addr_add, Nat.zero_add, Nat.add_zero, fpureQ_k, fpureQ_nilA, fpureQ_addA, fpureQ_pureA, fpureQ_guardA, fpureQ_idxSlA, fpureQ_pickA, freadQ_loadA, freadQ_loadNA, freadQ_b2sA, freadQ_guardA, freadQ_slSlA, freadQ_k, fendA, fallA_one, fstillA_nil, fguardA_tt, fguardA_ff, fguardA_tf, fguardA_ft, fguardA_undef, fpickA_true, fpickA_false, fcondA_true, fcondA_false, binA_add, binA_sub, binA_mul, binA_eql, binA_neq, binA_lss, binA_leq, binA_gtr, binA_geq, unA_not, Bool.not_true, Bool.not_false, convA_int, extA_tuple, List.getElem?_toArray, List.getElem?_cons_zero, List.getElem?_cons_succ]
  refine ⟨loadNA_whole hB hq3 rfl rfl, ?_⟩
  refine callA_of (rCheckSuper_spec i) fun v h4 ⟨e, s4⟩ f4 => ?_
  subst e
  have hq4 := (s4.keep _ hn3 (by simp)).1.trans hq3
  have hn4 : h.next < h4.next := by have := s4.next; omega
  simp only [stillA_iff, lenSl_slice, lenStr_string, str_size, fpureA_some, fnilA_ptr, faddA_ptr, addr_add, Nat.zero_add, Nat.add_zero, fpureQ_k, fpureQ_nilA, fpureQ_addA, fpureQ_pureA, fpureQ_guardA, fpureQ_idxSlA, fpureQ_pickA, freadQ_loadA, freadQ_loadNA, freadQ_b2sA, freadQ_guardA, freadQ_slSlA, freadQ_k, fendA, fallA_one, fstillA_nil, fguardA_tt, fguardA_ff, fguardA_tf, fguardA_ft, fguardA_undef, fpickA_true, fpickA_false, fcondA_true, fcondA_false, binA_add, binA_sub, binA_mul, binA_eql, binA_neq, binA_lss, binA_leq, binA_gtr, binA_geq, unA_not, Bool.not_true, Bool.not_false, convA_int, extA_tuple, List.getElem?_toArray, List.getElem?_cons_zero, List.getElem?_cons_succ, bne_self_eq_false]
  refine loadNA_whole hB hq4 rfl ?_
  refine callA_of (EncodeSuper_spec i) fun v h5 ⟨g1, g2⟩ f5 => ?_
  by_cases hc : x.check = 0
  · obtain ⟨q, e, g5, hq5, s5⟩ := g1 hc
    subst e
    have hlen := Sup.enc_length hc
    have hq6 := (s5.keep h.next (by omega) (by simp)).1.trans hq4
    simp only [lenSl_slice, lenStr_string, str_size, fpureA_some, fnilA_ptr, faddA_ptr, addr_add, Nat.zero_add, Nat.add_zero, fpureQ_k, fpureQ_nilA, fpureQ_addA, fpureQ_pureA, fpureQ_guardA, fpureQ_idxSlA, fpureQ_pickA, freadQ_loadA, freadQ_loadNA, freadQ_b2sA, freadQ_guardA, freadQ_slSlA, freadQ_k, fendA, fallA_one, fstillA_nil, fguardA_tt, fguardA_ff, fguardA_tf, fguardA_ft, fguardA_undef, fpickA_true, fpickA_false, fcondA_true, fcondA_false, binA_add, binA_sub, binA_mul, binA_eql, binA_neq, binA_lss, binA_leq, binA_gtr, binA_geq, unA_not, Bool.not_true, Bool.not_false, convA_int, extA_tuple, List.getElem?_toArray, List.getElem?_cons_zero, List.getElem?_cons_succ]
    refine loadNA_whole hB hq6 rfl ?_
    refine callA_of (rEncodeSuper_spec i) fun v h6 ⟨g3, g4⟩ f6 => ?_
    obtain ⟨q2, e, g6, hq7, s6⟩ := g3 hc
    subst e
    have hn5 : h.next < h5.next := by have := s5.next; omega
    have hq8 := (s6.keep h.next hn5 (by simp)).1.trans hq6
    have bs : ∀ {hh : Hp} {qq : Nat}, GV w0 hh 1 (.slice (some ⟨qq, 0, none⟩) x.s.sec.toNat x.s.sec.toNat) x.s.sec.toNat (bvs x.enc) [qq] → Bs w0 hh (.slice (some ⟨qq, 0, none⟩) x.s.sec.toNat x.s.sec.toNat) x.enc := by
      intro hh qq g
      have := g.sl
      rw [← hlen] at this ⊢
      exact this
    have g56 := g5.frame s6 (by simp)
    simp only [lenSl_slice, lenStr_string, str_size, fpureA_some, fnilA_ptr, faddA_ptr, addr_add, Nat.zero_add, Nat.add_zero, fpureQ_k, fpureQ_nilA, fpureQ_addA, fpureQ_pureA, fpureQ_guardA, fpureQ_idxSlA, fpureQ_pickA, freadQ_loadA, freadQ_loadNA, freadQ_b2sA, freadQ_guardA, freadQ_slSlA, freadQ_k, fendA, fallA_one, fstillA_nil, fguardA_tt, fguardA_ff, fguardA_tf, fguardA_ft, fguardA_undef, fpickA_true, fpickA_false, fcondA_true, fcondA_false, binA_add, binA_sub, binA_mul, binA_eql, binA_neq, binA_lss, binA_leq, binA_gtr, binA_geq, unA_not, Bool.not_true, Bool.not_false, convA_int, extA_tuple, List.getElem?_toArray, List.getElem?_cons_zero, List.getElem?_cons_succ]
    refine Bs.b2s (bs g56) ?_
    refine Bs.b2s (bs g6) ?_
    rw [binA_strneq]
    simp only [decide_true, Bool.not_true, lenSl_slice, lenStr_string, str_size, fpureA_some, fnilA_ptr, faddA_ptr, addr_add, Nat.zero_add, Nat.add_zero, fpureQ_k, fpureQ_nilA, fpureQ_addA, fpureQ_pureA, fpureQ_guardA, fpureQ_idxSlA, fpureQ_pickA, freadQ_loadA, freadQ_loadNA, freadQ_b2sA, freadQ_guardA, freadQ_slSlA, freadQ_k, fendA, fallA_one, fstillA_nil, fguardA_tt, fguardA_ff, fguardA_tf, fguardA_ft, fguardA_undef, fpickA_true, fpickA_false, fcondA_true, fcondA_false, binA_add, binA_sub, binA_mul, binA_eql, binA_neq, binA_lss, binA_leq, binA_gtr, binA_geq, unA_not, Bool.not_true, Bool.not_false, convA_int, extA_tuple, List.getElem?_toArray, List.getElem?_cons_zero, List.getElem?_cons_succ, bne_self_eq_false]
    refine callA_of (Decode_ok i hc (bs g56)) fun v h7 ⟨e, s7⟩ f7 => ?_
    subst e
    have hn6 : h.next < h6.next := by have := s6.next; omega
    have hq9 := (s7.keep h.next hn6 (by simp)).1.trans hq8
    have hn7 : h.next < h7.next := by have := s7.next; omega
    simp only [lenSl_slice, lenStr_string, str_size, fpureA_some, fnilA_ptr, faddA_ptr, addr_add, Nat.zero_add, Nat.add_zero, fpureQ_k, fpureQ_nilA, fpureQ_addA, fpureQ_pureA, fpureQ_guardA, fpureQ_idxSlA, fpureQ_pickA, freadQ_loadA, freadQ_loadNA, freadQ_b2sA, freadQ_guardA, freadQ_slSlA, freadQ_k, fendA, fallA_one, fstillA_nil, fguardA_tt, fguardA_ff, fguardA_tf, fguardA_ft, fguardA_undef, fpickA_true, fpickA_false, fcondA_true, fcondA_false, binA_add, binA_sub, binA_mul, binA_eql, binA_neq, binA_lss, binA_leq, binA_gtr, binA_geq, unA_not, Bool.not_true, Bool.not_false, convA_int, extA_tuple, List.getElem?_toArray, List.getElem?_cons_zero, List.getElem?_cons_succ, newA_iff]
    refine ⟨by simp, storeN0 (cs := sup0.e) (vs := x.e) f7.base (by simp; rfl) rfl rfl (by rfl) ?_⟩
    rw [put_new]
    have s8 : Step h7 (h7.new x.e 12) [] [h7.next] := (Step.refl h7 [] (by simp)).new _ _
    refine loadNA_whole (cs := x.e) f7.base (by simp) rfl ?_
    refine loadNA_whole (cs := x.e) hB ((s8.keep h.next hn7 (by simp)).1.trans hq9) rfl ?_
    simp only [eqSup w0, lenSl_slice, lenStr_string, str_size, fpureA_some, fnilA_ptr, faddA_ptr, addr_add, Nat.zero_add, Nat.add_zero, fpureQ_k, fpureQ_nilA, fpureQ_addA, fpureQ_pureA, fpureQ_guardA, fpureQ_idxSlA, fpureQ_pickA, freadQ_loadA, freadQ_loadNA, freadQ_b2sA, freadQ_guardA, freadQ_slSlA, freadQ_k, fendA, fallA_one, fstillA_nil, fguardA_tt, fguardA_ff, fguardA_tf, fguardA_ft, fguardA_undef, fpickA_true, fpickA_false, fcondA_true, fcondA_false, binA_add, binA_sub, binA_mul, binA_eql, binA_neq, binA_lss, binA_leq, binA_gtr, binA_geq, unA_not, Bool.not_true, Bool.not_false, convA_int, extA_tuple, List.getElem?_toArray, List.getElem?_cons_zero, List.getElem?_cons_succ, beq_self_eq_true, retA_iff, oneOf_one]
    simp
  · obtain ⟨e, s5⟩ := g2 hc
    subst e
    have hq6 := (s5.keep h.next hn4 (by simp)).1.trans hq4
    have c1 : (x.check != 0) = true := by simp [hc]
    have nb : ∀ {hh : Hp} {K : Kont}, K (.string (str [])) hh → b2sA w0 (.slice none 0 0) K hh := by
      intro hh K hk
      have : Bs w0 hh (.slice none 0 0) [] := Sl.nil
      exact Bs.b2s this hk
    simp only [lenSl_slice, lenStr_string, str_size, fpureA_some, fnilA_ptr, faddA_ptr, addr_add, Nat.zero_add, Nat.add_zero, fpureQ_k, fpureQ_nilA, fpureQ_addA, fpureQ_pureA, fpureQ_guardA, fpureQ_idxSlA, fpureQ_pickA, freadQ_loadA, freadQ_loadNA, freadQ_b2sA, freadQ_guardA, freadQ_slSlA, freadQ_k, fendA, fallA_one, fstillA_nil, fguardA_tt, fguardA_ff, fguardA_tf, fguardA_ft, fguardA_undef, fpickA_true, fpickA_false, fcondA_true, fcondA_false, binA_add, binA_sub, binA_mul, binA_eql, binA_neq, binA_lss, binA_leq, binA_gtr, binA_geq, unA_not, Bool.not_true, Bool.not_false, convA_int, extA_tuple, List.getElem?_toArray, List.getElem?_cons_zero, List.getElem?_cons_succ]
    refine loadNA_whole hB hq6 rfl ?_
    refine callA_of (rEncodeSuper_spec i) fun v h6 ⟨g3, g4⟩ f6 => ?_
    obtain ⟨e, s6⟩ := g4 hc
    subst e
    simp only [lenSl_slice, lenStr_string, str_size, fpureA_some, fnilA_ptr, faddA_ptr, addr_add, Nat.zero_add, Nat.add_zero, fpureQ_k, fpureQ_nilA, fpureQ_addA, fpureQ_pureA, fpureQ_guardA, fpureQ_idxSlA, fpureQ_pickA, freadQ_loadA, freadQ_loadNA, freadQ_b2sA, freadQ_guardA, freadQ_slSlA, freadQ_k, fendA, fallA_one, fstillA_nil, fguardA_tt, fguardA_ff, fguardA_tf, fguardA_ft, fguardA_undef, fpickA_true, fpickA_false, fcondA_true, fcondA_false, binA_add, binA_sub, binA_mul, binA_eql, binA_neq, binA_lss, binA_leq, binA_gtr, binA_geq, unA_not, Bool.not_true, Bool.not_false, convA_int, extA_tuple, List.getElem?_toArray, List.getElem?_cons_zero, List.getElem?_cons_succ]
    refine nb (nb ?_)
    rw [binA_strneq]
    simp only [decide_true, Bool.not_true, lenSl_slice, lenStr_string, str_size, fpureA_some, fnilA_ptr, faddA_ptr, addr_add, Nat.zero_add, Nat.add_zero, fpureQ_k, fpureQ_nilA, fpureQ_addA, fpureQ_pureA, fpureQ_guardA, fpureQ_idxSlA, fpureQ_pickA, freadQ_loadA, freadQ_loadNA, freadQ_b2sA, freadQ_guardA, freadQ_slSlA, freadQ_k, fendA, fallA_one, fstillA_nil, fguardA_tt, fguardA_ff, fguardA_tf, fguardA_ft, fguardA_undef, fpickA_true, fpickA_false, fcondA_true, fcondA_false, binA_add, binA_sub, binA_mul, binA_eql, binA_neq, binA_lss, binA_leq, binA_gtr, binA_geq, unA_not, Bool.not_true, Bool.not_false, convA_int, extA_tuple, List.getElem?_toArray, List.getElem?_cons_zero, List.getElem?_cons_succ, bne_self_eq_false, c1, retA_iff, oneOf_one]
    simp
end
end Go.Proofs.Ytihebhdgjnibfaa.Ah
