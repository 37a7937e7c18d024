/- The document's DecodeSuper. -/
import Derived.Test.YtihebhdgjnibfaaYh
import Derived.Test.YtihebhdgjnibfaaGrefd
set_option linter.unusedVariables false
set_option linter.unusedSimpArgs false
namespace Go.Proofs.Ytihebhdgjnibfaa.Ah
open Go

def cutsK : List UInt8 → List Nat → List Nat
  | _, [] => []
  | l, k :: ks => rdn (l.take k) :: cutsK (l.drop k) ks
theorem nums_cuts : ∀ (ks : List Nat) (l : List UInt8), ks.sum ≤ l.length → ((⟨l, 0⟩ : RS).nums ks).1 = cutsK l ks := by
  intro ks
  induction ks with
  | nil => intro l _; rfl
  | cons k ks ih =>
    intro l h
    simp only [List.sum_cons] at h
    simp only [RS.nums, cutsK]
    rw [raw_at rfl (by show k ≤ l.length; omega)]
    simp only
    rw [ih _ (by simp; omega)]
def numAt (l : List UInt8) (i : Nat) : Nat := rdn ((l.drop (8 + 4 * i)).take 4)
theorem numAt_lt (l : List UInt8) (i : Nat) : numAt l i < 4294967296 := by
  have := rdn_lt ((l.drop (8 + 4 * i)).take 4) 0 0 (by simp)
  refine Nat.lt_of_lt_of_le this (Nat.le_trans (Nat.pow_le_pow_right (by omega) (show _ ≤ 4 by simp; omega)) (by decide))
theorem supB_cuts {l : List UInt8} (h : l.length = 51) : supB l = ⟨(rdn (l.take 8) : Nat), (numAt l 0 : Nat), ⟨(numAt l 1 : Nat), (numAt l 2 : Nat), (numAt l 3 : Nat), (numAt l 4 : Nat), (numAt l 5 : Nat), (numAt l 6 : Nat), (numAt l 7 : Nat), (rdn ((l.drop 40).take 8) : Nat), (rdn ((l.drop 48).take 2) : Nat), decide (rdn ((l.drop 50).take 1) = 1)⟩⟩ := by
  unfold supB
  rw [nums_cuts lens l (by rw [h]; decide)]
  simp [cutsK, lens, supOf, numAt]
section
variable {w0 : World} {h : Hp}
theorem mid_eq (l : List UInt8) (a n : Nat) : (l.take (a + n)).drop a = (l.drop a).take n := by rw [List.drop_take]; congr 1; omega
def nums8 (l : List UInt8) (i : Nat) : List Value := (List.range i).map (fun j => Value.int .i64 (numAt l j : Nat)) ++ List.replicate (8 - i) (.int .i64 0)
theorem rdec_loop {k0 : Value → Value → Value → Value → Hp → Prop} {x0 x2 : Value} {q : Nat} {l : List UInt8} (hl : l.length = 51) (hq : w0.heap.size ≤ q) : ∀ (m i : Nat) (h : Hp), i + m = 8 → h.blk q = some (nums8 l i) → q < h.next →
    (∀ h', h'.blk q = some (nums8 l 8) → Step h h' [q] [q] → k0 x0 x2 (.string (str l)) (.slice (some ⟨q, 0, none⟩) 8 8) h') →
    dedupref04_DecodeSuper_L1 prog w0 k0 (m + 1) x0 x2 (.string (str l)) (.slice (some ⟨q, 0, none⟩) 8 8) (.int .i64 8) (.int .i64 (i : Int)) h := by
  intro m
  induction m with
  | zero =>
    intro i h hi hb hlt hk
    have : i = 8 := by omega
    subst this
    rw [dedupref04_DecodeSuper_L1]
    have c1 : decide (((8 : Nat) : Int) < 8) = false := rfl
    simp only [dedupref04_DecodeSuper_B1, lenSl_slice, lenStr_string, str_size, fpureA_some, fnilA_ptr, faddA_ptr, addr_add, Nat.zero_add, Nat.add_zero, fpureQ_k, fpureQ_nilA, fpureQ_addA, fpureQ_pureA, fpureQ_guardA, fpureQ_idxSlA, fpureQ_pickA, freadQ_loadA, freadQ_loadNA, freadQ_b2sA, freadQ_guardA, freadQ_slSlA, freadQ_k, fendA, fallA_one, fstillA_nil, fguardA_tt, fguardA_ff, fguardA_tf, fguardA_ft, fguardA_undef, fpickA_true, fpickA_false, fcondA_true, fcondA_false, binA_add, binA_sub, binA_mul, binA_eql, binA_neq, binA_lss, binA_leq, binA_gtr, binA_geq, unA_not, Bool.not_true, Bool.not_false, convA_int, extA_tuple, List.getElem?_toArray, List.getElem?_cons_zero, List.getElem?_cons_succ, c1]
    exact hk h hb (Step.refl _ _ (by simpa using hlt))
  | succ m ih =>
    intro i h hi hb hlt hk
    have c1 : decide ((i : Int) < 8) = true := decide_eq_true (by omega)
    have e5 : IntKind.i64.wrap ((i : Int) + 1) = ((i + 1 : Nat) : Int) := by rw [IntWalk.i64_in _ (by omega)]; simp
    have e1 : IntKind.i64.wrap (4 * (i : Int)) = ((4 * i : Nat) : Int) := by rw [IntWalk.i64_in _ (by omega)]; simp
    have e2 : IntKind.i64.wrap (8 + ((4 * i : Nat) : Int)) = ((8 + 4 * i : Nat) : Int) := by rw [IntWalk.i64_in _ (by omega)]; simp
    have e3 : IntKind.i64.wrap (12 + ((4 * i : Nat) : Int)) = ((8 + 4 * i + 4 : Nat) : Int) := by rw [IntWalk.i64_in _ (by omega)]; simp; omega
    have hlt4 := numAt_lt l i
    have e4 : IntKind.i64.wrap ((numAt l i : Nat) : Int) = ((numAt l i : Nat) : Int) := IntWalk.i64_in _ (by omega)
    rw [dedupref04_DecodeSuper_L1]
    simp only [dedupref04_DecodeSuper_B1, lenSl_slice, lenStr_string, str_size, fpureA_some, fnilA_ptr, faddA_ptr, addr_add, Nat.zero_add, Nat.add_zero, fpureQ_k, fpureQ_nilA, fpureQ_addA, fpureQ_pureA, fpureQ_guardA, fpureQ_idxSlA, fpureQ_pickA, freadQ_loadA, freadQ_loadNA, freadQ_b2sA, freadQ_guardA, freadQ_slSlA, freadQ_k, fendA, fallA_one, fstillA_nil, fguardA_tt, fguardA_ff, fguardA_tf, fguardA_ft, fguardA_undef, fpickA_true, fpickA_false, fcondA_true, fcondA_false, binA_add, binA_sub, binA_mul, binA_eql, binA_neq, binA_lss, binA_leq, binA_gtr, binA_geq, unA_not, Bool.not_true, Bool.not_false, convA_int, extA_tuple, List.getElem?_toArray, List.getElem?_cons_zero, List.getElem?_cons_succ, c1, e1, e2, e3]
    rw [strSlA_mid l .i64 .i64 (8 + 4 * i) (8 + 4 * i + 4) (by omega) (by omega), mid_eq]
    simp only [lenSl_slice, lenStr_string, str_size, fpureA_some, fnilA_ptr, faddA_ptr, addr_add, Nat.zero_add, Nat.add_zero, fpureQ_k, fpureQ_nilA, fpureQ_addA, fpureQ_pureA, fpureQ_guardA, fpureQ_idxSlA, fpureQ_pickA, freadQ_loadA, freadQ_loadNA, freadQ_b2sA, freadQ_guardA, freadQ_slSlA, freadQ_k, fendA, fallA_one, fstillA_nil, fguardA_tt, fguardA_ff, fguardA_tf, fguardA_ft, fguardA_undef, fpickA_true, fpickA_false, fcondA_true, fcondA_false, binA_add, binA_sub, binA_mul, binA_eql, binA_neq, binA_lss, binA_leq, binA_gtr, binA_geq, unA_not, Bool.not_true, Bool.not_false, convA_int, extA_tuple, List.getElem?_toArray, List.getElem?_cons_zero, List.getElem?_cons_succ]
    refine callA_of (rRead_spec _ (by simp; omega)) fun v h1 ⟨e, e1'⟩ f1 => ?_
    subst e e1'
    have hn : rdn ((l.drop (8 + 4 * i)).take 4) = numAt l i := rfl
    simp only [hn, e4, lenSl_slice, lenStr_string, str_size, fpureA_some, fnilA_ptr, faddA_ptr, addr_add, Nat.zero_add, Nat.add_zero, fpureQ_k, fpureQ_nilA, fpureQ_addA, fpureQ_pureA, fpureQ_guardA, fpureQ_idxSlA, fpureQ_pickA, freadQ_loadA, freadQ_loadNA, freadQ_b2sA, freadQ_guardA, freadQ_slSlA, freadQ_k, fendA, fallA_one, fstillA_nil, fguardA_tt, fguardA_ff, fguardA_tf, fguardA_ft, fguardA_undef, fpickA_true, fpickA_false, fcondA_true, fcondA_false, binA_add, binA_sub, binA_mul, binA_eql, binA_neq, binA_lss, binA_leq, binA_gtr, binA_geq, unA_not, Bool.not_true, Bool.not_false, convA_int, extA_tuple, List.getElem?_toArray, List.getElem?_cons_zero, List.getElem?_cons_succ]
    rw [idxSlA_iff]
    refine ⟨by omega, by omega, ?_⟩
    rw [addr_add, Int.toNat_natCast, Nat.mul_one, Nat.zero_add]
    refine storeA_at hq hb (by simp [nums8]; omega) rfl ?_
    have hset : (nums8 l i).set i (.int .i64 ((numAt l i : Nat) : Int)) = nums8 l (i + 1) := by
      unfold nums8
      rw [List.set_append_right _ _ (by simp), show 8 - i = (8 - (i + 1)) + 1 by omega, List.replicate_succ, List.range_succ, List.map_append]
      simp
    rw [hset]
    simp only [lenSl_slice, lenStr_string, str_size, fpureA_some, fnilA_ptr, faddA_ptr, addr_add, Nat.zero_add, Nat.add_zero, fpureQ_k, fpureQ_nilA, fpureQ_addA, fpureQ_pureA, fpureQ_guardA, fpureQ_idxSlA, fpureQ_pickA, freadQ_loadA, freadQ_loadNA, freadQ_b2sA, freadQ_guardA, freadQ_slSlA, freadQ_k, fendA, fallA_one, fstillA_nil, fguardA_tt, fguardA_ff, fguardA_tf, fguardA_ft, fguardA_undef, fpickA_true, fpickA_false, fcondA_true, fcondA_false, binA_add, binA_sub, binA_mul, binA_eql, binA_neq, binA_lss, binA_leq, binA_gtr, binA_geq, unA_not, Bool.not_true, Bool.not_false, convA_int, extA_tuple, List.getElem?_toArray, List.getElem?_cons_zero, List.getElem?_cons_succ, e5]
    have s2 : Step h1 (h1.put q (nums8 l (i + 1))) [q] [q] := (Step.refl h1 [q] (by simpa using hlt)).put (p := q) (by simp) _
    exact ih (i + 1) _ (by omega) (by simp) (by simpa using hlt) fun h' hb' s' => hk h' hb' (s2.trans s')
theorem rDecodeSuper_spec {x : Value} {l : List UInt8} (vb : Bs w0 h x l) (hl : l.length ≤ 1000000000) : ACalls prog w0 n_dedupref04_DecodeSuper [x] h fun v h' => v = decV l ∧ Step h h' [] [] := by
  refine ACalls.of_fit (by simpa using vb.junk) fun f => c_dedupref04_DecodeSuper (by simpa using vb.junk) ?_
  simp only [s_dedupref04_DecodeSuper, newA_iff]
  refine ⟨by simp, ?_⟩
  have h0 : [(Value.int .u64 0), .int .i64 0, .int .i64 0, .int .i64 0, .int .i64 0, .int .i64 0, .int .i64 0, .int .i64 0, .int .i64 0, .int .u64 0, .int .i64 0, .bool false] = sup0.e := rfl
  simp only [h0]
  have s1 : Step h (h.new sup0.e 12) [] [h.next] := (Step.refl h [] (by simp)).new _ _
  have hq1 : (h.new sup0.e 12).blk h.next = some sup0.e := by simp
  have hn1 : h.next < (h.new sup0.e 12).next := by simp
  have hB := f.base
  have f1 : Fit w0 (h.new sup0.e 12) := f.new (by simp [sup0, Sup.e, Shp.e])
  generalize h.new sup0.e 12 = h1 at s1 hq1 hn1 f1 ⊢
  have v1 : Bs w0 h1 x l := Sl.step vb f s1 (by simp)
  refine Bs.b2s v1 ?_
  refine callA_of (rUnframe_spec l (by omega)) fun v h2 ⟨e, e2⟩ f2 => ?_
  subst e e2
  have bad : ∀ {h' : Hp}, Step h h' [] [] → (∃ cs, h'.blk h.next = some cs ∧ cs.length = 12) → h.next < h'.next → decB l = none → (storeNA w0 (.pointer (some ⟨h.next, 0, none⟩)) (.agg sup0.e.toArray) 12 fun _ => loadNA w0 (.pointer (some ⟨h.next, 0, none⟩)) 12 fun v2 => retA [v2, .int .i64 40] fun v h' => v = decV l ∧ Step h h' [] []) h' := by
    intro h' st ⟨cs, hq, hcl⟩ hn hd
    refine storeN0 hB hq hcl rfl (by rfl) (loadNA_whole (cs := sup0.e) hB (by simp) rfl ?_)
    simp only [retA_iff, oneOf_two]
    refine ⟨by simp, by simp [decV, hd, Sup.v], ?_⟩
    exact st.after ((Step.refl h' [h.next] (by simp; exact hn)).put (p := h.next) (by simp) _) (by simp)
  simp only [unfV, lenSl_slice, lenStr_string, str_size, fpureA_some, fnilA_ptr, faddA_ptr, addr_add, Nat.zero_add, Nat.add_zero, fpureQ_k, fpureQ_nilA, fpureQ_addA, fpureQ_pureA, fpureQ_guardA, fpureQ_idxSlA, fpureQ_pickA, freadQ_loadA, freadQ_loadNA, freadQ_b2sA, freadQ_guardA, freadQ_slSlA, freadQ_k, fendA, fallA_one, fstillA_nil, fguardA_tt, fguardA_ff, fguardA_tf, fguardA_ft, fguardA_undef, fpickA_true, fpickA_false, fcondA_true, fcondA_false, binA_add, binA_sub, binA_mul, binA_eql, binA_neq, binA_lss, binA_leq, binA_gtr, binA_geq, unA_not, Bool.not_true, Bool.not_false, convA_int, extA_tuple, List.getElem?_toArray, List.getElem?_cons_zero, List.getElem?_cons_succ]
  by_cases he' : (unf l).2.2.2 ≠ 0
  · have c1 : ((unf l).2.2.2 != 0) = true := by simp [he']
    simp only [c1, lenSl_slice, lenStr_string, str_size, fpureA_some, fnilA_ptr, faddA_ptr, addr_add, Nat.zero_add, Nat.add_zero, fpureQ_k, fpureQ_nilA, fpureQ_addA, fpureQ_pureA, fpureQ_guardA, fpureQ_idxSlA, fpureQ_pickA, freadQ_loadA, freadQ_loadNA, freadQ_b2sA, freadQ_guardA, freadQ_slSlA, freadQ_k, fendA, fallA_one, fstillA_nil, fguardA_tt, fguardA_ff, fguardA_tf, fguardA_ft, fguardA_undef, fpickA_true, fpickA_false, fcondA_true, fcondA_false, binA_add, binA_sub, binA_mul, binA_eql, binA_neq, binA_lss, binA_leq, binA_gtr, binA_geq, unA_not, Bool.not_true, Bool.not_false, convA_int, extA_tuple, List.getElem?_toArray, List.getElem?_cons_zero, List.getElem?_cons_succ, buildA_iff, fillA_nil]
    refine bad s1.drop ⟨_, hq1, rfl⟩ hn1 ?_
    unfold decB
    rw [if_neg fun q => he' q.1]
  have he : (unf l).2.2.2 = 0 := by omega
  have c1 : ((unf l).2.2.2 != 0) = false := by simp [he]
  simp only [c1, lenSl_slice, lenStr_string, str_size, fpureA_some, fnilA_ptr, faddA_ptr, addr_add, Nat.zero_add, Nat.add_zero, fpureQ_k, fpureQ_nilA, fpureQ_addA, fpureQ_pureA, fpureQ_guardA, fpureQ_idxSlA, fpureQ_pickA, freadQ_loadA, freadQ_loadNA, freadQ_b2sA, freadQ_guardA, freadQ_slSlA, freadQ_k, fendA, fallA_one, fstillA_nil, fguardA_tt, fguardA_ff, fguardA_tf, fguardA_ft, fguardA_undef, fpickA_true, fpickA_false, fcondA_true, fcondA_false, binA_add, binA_sub, binA_mul, binA_eql, binA_neq, binA_lss, binA_leq, binA_gtr, binA_geq, unA_not, Bool.not_true, Bool.not_false, convA_int, extA_tuple, List.getElem?_toArray, List.getElem?_cons_zero, List.getElem?_cons_succ]
  by_cases hk' : (unf l).1 ≠ 83
  · have c2 : (((unf l).1 : Int) != 83) = true := by simp; omega
    simp only [c2, lenSl_slice, lenStr_string, str_size, fpureA_some, fnilA_ptr, faddA_ptr, addr_add, Nat.zero_add, Nat.add_zero, fpureQ_k, fpureQ_nilA, fpureQ_addA, fpureQ_pureA, fpureQ_guardA, fpureQ_idxSlA, fpureQ_pickA, freadQ_loadA, freadQ_loadNA, freadQ_b2sA, freadQ_guardA, freadQ_slSlA, freadQ_k, fendA, fallA_one, fstillA_nil, fguardA_tt, fguardA_ff, fguardA_tf, fguardA_ft, fguardA_undef, fpickA_true, fpickA_false, fcondA_true, fcondA_false, binA_add, binA_sub, binA_mul, binA_eql, binA_neq, binA_lss, binA_leq, binA_gtr, binA_geq, unA_not, Bool.not_true, Bool.not_false, convA_int, extA_tuple, List.getElem?_toArray, List.getElem?_cons_zero, List.getElem?_cons_succ, buildA_iff, fillA_nil]
    refine bad s1.drop ⟨_, hq1, rfl⟩ hn1 ?_
    unfold decB
    rw [if_neg fun q => hk' q.2.1]
  have hk : (unf l).1 = 83 := by omega
  have c2 : (((unf l).1 : Int) != 83) = false := by simp [hk]
  simp only [c2, lenSl_slice, lenStr_string, str_size, fpureA_some, fnilA_ptr, faddA_ptr, addr_add, Nat.zero_add, Nat.add_zero, fpureQ_k, fpureQ_nilA, fpureQ_addA, fpureQ_pureA, fpureQ_guardA, fpureQ_idxSlA, fpureQ_pickA, freadQ_loadA, freadQ_loadNA, freadQ_b2sA, freadQ_guardA, freadQ_slSlA, freadQ_k, fendA, fallA_one, fstillA_nil, fguardA_tt, fguardA_ff, fguardA_tf, fguardA_ft, fguardA_undef, fpickA_true, fpickA_false, fcondA_true, fcondA_false, binA_add, binA_sub, binA_mul, binA_eql, binA_neq, binA_lss, binA_leq, binA_gtr, binA_geq, unA_not, Bool.not_true, Bool.not_false, convA_int, extA_tuple, List.getElem?_toArray, List.getElem?_cons_zero, List.getElem?_cons_succ]
  by_cases h51' : (unf l).2.1.length ≠ 51
  · have c3 : (((unf l).2.1.length : Int) != 51) = true := by simp; omega
    simp only [c3, lenSl_slice, lenStr_string, str_size, fpureA_some, fnilA_ptr, faddA_ptr, addr_add, Nat.zero_add, Nat.add_zero, fpureQ_k, fpureQ_nilA, fpureQ_addA, fpureQ_pureA, fpureQ_guardA, fpureQ_idxSlA, fpureQ_pickA, freadQ_loadA, freadQ_loadNA, freadQ_b2sA, freadQ_guardA, freadQ_slSlA, freadQ_k, fendA, fallA_one, fstillA_nil, fguardA_tt, fguardA_ff, fguardA_tf, fguardA_ft, fguardA_undef, fpickA_true, fpickA_false, fcondA_true, fcondA_false, binA_add, binA_sub, binA_mul, binA_eql, binA_neq, binA_lss, binA_leq, binA_gtr, binA_geq, unA_not, Bool.not_true, Bool.not_false, convA_int, extA_tuple, List.getElem?_toArray, List.getElem?_cons_zero, List.getElem?_cons_succ, buildA_iff, fillA_nil]
    refine bad s1.drop ⟨_, hq1, rfl⟩ hn1 ?_
    unfold decB
    rw [if_neg fun q => h51' q.2.2.1]
  have h51 : (unf l).2.1.length = 51 := by omega
  have c3 : (((unf l).2.1.length : Int) != 51) = false := by simp [h51]
  have hX := supB_cuts h51
  have hin := supB_in (unf l).2.1
  have hdec : decB l = if (supB (unf l).2.1).check = 0 ∧ (supB (unf l).2.1).enc = l then some (supB (unf l).2.1) else none := by
    unfold decB
    by_cases hh : (supB (unf l).2.1).check = 0 ∧ (supB (unf l).2.1).enc = l
    · rw [if_pos hh, if_pos ⟨he, hk, h51, hh⟩]
    · rw [if_neg hh, if_neg fun q => hh q.2.2.2]
  simp only [c3, lenSl_slice, lenStr_string, str_size, fpureA_some, fnilA_ptr, faddA_ptr, addr_add, Nat.zero_add, Nat.add_zero, fpureQ_k, fpureQ_nilA, fpureQ_addA, fpureQ_pureA, fpureQ_guardA, fpureQ_idxSlA, fpureQ_pickA, freadQ_loadA, freadQ_loadNA, freadQ_b2sA, freadQ_guardA, freadQ_slSlA, freadQ_k, fendA, fallA_one, fstillA_nil, fguardA_tt, fguardA_ff, fguardA_tf, fguardA_ft, fguardA_undef, fpickA_true, fpickA_false, fcondA_true, fcondA_false, binA_add, binA_sub, binA_mul, binA_eql, binA_neq, binA_lss, binA_leq, binA_gtr, binA_geq, unA_not, Bool.not_true, Bool.not_false, convA_int, extA_tuple, List.getElem?_toArray, List.getElem?_cons_zero, List.getElem?_cons_succ]
  generalize (unf l).2.1 = b at h51 hX hin hdec ⊢
  generalize hXX : supB b = X at hX hin hdec
  have hmk : ∀ {K : Kont}, K (.slice (some ⟨h2.next, 0, none⟩) 8 8) (h2.new (zerosL [.int .i64 0] 8) 1) → mkA 1 8 [(.int .i64 0)] (.int .i64 8) (.int .i64 8) K h2 := by
    intro K hK
    have := (mkA_nat (K := K) (h := h2) 1 8 [(.int .i64 0)] .i64 .i64 8 8).2 ⟨by omega, by omega, by omega, hK⟩
    exact this
  refine hmk ?_
  have hz : zerosL [(.int .i64 0 : Value)] 8 = nums8 b 0 := rfl
  rw [hz]
  have s3 : Step h2 (h2.new (nums8 b 0) 1) [] [h2.next] := (Step.refl h2 [] (by simp)).new _ _
  have hq3 : (h2.new (nums8 b 0) 1).blk h2.next = some (nums8 b 0) := by simp
  have hn3 : h2.next < (h2.new (nums8 b 0) 1).next := by simp
  have hB3 : w0.heap.size ≤ h2.next := f2.base
  generalize h2.new (nums8 b 0) 1 = h3 at s3 hq3 hn3 ⊢
  have hq13 := (s3.keep _ hn1 (by simp)).1.trans hq1
  have st3 := s1.drop.after s3 (by simp)
  simp only [lenSl_slice, lenStr_string, str_size, fpureA_some, fnilA_ptr, faddA_ptr, addr_add, Nat.zero_add, Nat.add_zero, fpureQ_k, fpureQ_nilA, fpureQ_addA, fpureQ_pureA, fpureQ_guardA, fpureQ_idxSlA, fpureQ_pickA, freadQ_loadA, freadQ_loadNA, freadQ_b2sA, freadQ_guardA, freadQ_slSlA, freadQ_k, fendA, fallA_one, fstillA_nil, fguardA_tt, fguardA_ff, fguardA_tf, fguardA_ft, fguardA_undef, fpickA_true, fpickA_false, fcondA_true, fcondA_false, binA_add, binA_sub, binA_mul, binA_eql, binA_neq, binA_lss, binA_leq, binA_gtr, binA_geq, unA_not, Bool.not_true, Bool.not_false, convA_int, extA_tuple, List.getElem?_toArray, List.getElem?_cons_zero, List.getElem?_cons_succ]
  refine ⟨9, rdec_loop (q := h2.next) h51 hB3 8 0 h3 rfl hq3 hn3 fun h4 hb4 s4 => ?_⟩
  have n34 := s4.next
  have hq14 := (s4.keep h.next (by omega) (by simp; omega)).1.trans hq13
  have st4 := st3.after s4 (by simp; omega)
  have hb8 : nums8 b 8 = [.int .i64 (numAt b 0 : Nat), .int .i64 (numAt b 1 : Nat), .int .i64 (numAt b 2 : Nat), .int .i64 (numAt b 3 : Nat), .int .i64 (numAt b 4 : Nat), .int .i64 (numAt b 5 : Nat), .int .i64 (numAt b 6 : Nat), .int .i64 (numAt b 7 : Nat)] := rfl
  rw [hb8] at hb4
  have t8 : strSlA (.string (str b)) none (some (.int .i64 8)) = some (.string (str (b.take 8))) := strSlA_take b .i64 8 (by omega)
  have idx : ∀ (j : Nat) {h' : Hp} {K : Kont}, j < 8 → K (.pointer (some ⟨h2.next, j, none⟩)) h' → idxSlA 1 (.slice (some ⟨h2.next, 0, none⟩) 8 8) (.int .i64 (j : Int)) K h' := by
    intro j h' K hj hK
    rw [idxSlA_iff]
    refine ⟨by omega, by omega, ?_⟩
    rw [addr_add, Int.toNat_natCast, Nat.mul_one, Nat.zero_add]
    exact hK
  simp only [t8, lenSl_slice, lenStr_string, str_size, fpureA_some, fnilA_ptr, faddA_ptr, addr_add, Nat.zero_add, Nat.add_zero, fpureQ_k, fpureQ_nilA, fpureQ_addA, fpureQ_pureA, fpureQ_guardA, fpureQ_idxSlA, fpureQ_pickA, freadQ_loadA, freadQ_loadNA, freadQ_b2sA, freadQ_guardA, freadQ_slSlA, freadQ_k, fendA, fallA_one, fstillA_nil, fguardA_tt, fguardA_ff, fguardA_tf, fguardA_ft, fguardA_undef, fpickA_true, fpickA_false, fcondA_true, fcondA_false, binA_add, binA_sub, binA_mul, binA_eql, binA_neq, binA_lss, binA_leq, binA_gtr, binA_geq, unA_not, Bool.not_true, Bool.not_false, convA_int, extA_tuple, List.getElem?_toArray, List.getElem?_cons_zero, List.getElem?_cons_succ]
  refine idx 0 (by omega) ?_
  refine loadA_at hB3 hb4 (by rfl) ?_
  generalize hg : rdn (b.take 8) = g at hX
  have hq10 : h4.next ≠ h2.next := by omega
  have hq1h : h4.next ≠ h.next := by omega
  have h5 : (h4.new sup0.e 12).blk h2.next = some [.int .i64 (numAt b 0 : Nat), .int .i64 (numAt b 1 : Nat), .int .i64 (numAt b 2 : Nat), .int .i64 (numAt b 3 : Nat), .int .i64 (numAt b 4 : Nat), .int .i64 (numAt b 5 : Nat), .int .i64 (numAt b 6 : Nat), .int .i64 (numAt b 7 : Nat)] := by simpa [hq10.symm] using hb4
  have ht40 : strSlA (.string (str b)) (some (.int .i64 40)) (some (.int .i64 48)) = some (.string (str ((b.drop 40).take 8))) := by
    have := strSlA_mid b .i64 .i64 40 48 (by omega) (by omega)
    rw [show (48 : Nat) = 40 + 8 from rfl, mid_eq] at this
    exact this
  have ht48 : strSlA (.string (str b)) (some (.int .i64 48)) (some (.int .i64 50)) = some (.string (str ((b.drop 48).take 2))) := by
    have := strSlA_mid b .i64 .i64 48 50 (by omega) (by omega)
    rw [show (50 : Nat) = 48 + 2 from rfl, mid_eq] at this
    exact this
  obtain ⟨c, hc⟩ : ∃ c, b[50]? = some c := ⟨b[50]'(by omega), by simp⟩
  have ht50 : strIdxA (.string (str b)) (.int .i64 50) = some (.int .u8 (c.toNat : Int)) := by
    have := strIdxA_str b .i64 50
    rw [hc] at this
    exact this
  have hd50 : rdn ((b.drop 50).take 1) = c.toNat := by
    have hl50 : 50 < b.length := by omega
    have : b.drop 50 = [c] := by
      rw [List.drop_eq_getElem_cons hl50, List.drop_eq_nil_of_le (by omega)]
      rw [List.getElem?_eq_getElem hl50] at hc
      simpa using hc
    rw [this]
    simp [rdn]
  have hdd : decide (rdn ((b.drop 50).take 1) = 1) = ((c.toNat : Int) == 1) := by
    rw [hd50]
    by_cases h : c.toNat = 1
    · rw [h]; rfl
    · have : ((c.toNat : Int) == 1) = false := beq_eq_false_iff_ne.2 (by omega)
      rw [this, decide_eq_false h]
  rw [hdd] at hX
  generalize hsd : rdn ((b.drop 40).take 8) = sd at hX
  generalize hbi : rdn ((b.drop 48).take 2) = bi at hX
  have hbil : bi < 65536 := by
    have := rdn_lt ((b.drop 48).take 2) 0 0 (by simp)
    rw [← hbi]
    refine Nat.lt_of_lt_of_le this (Nat.le_trans (Nat.pow_le_pow_right (by omega) (show _ ≤ 2 by simp; omega)) (by decide))
  have ebi : IntKind.i64.wrap ((bi : Nat) : Int) = ((bi : Nat) : Int) := IntWalk.i64_in _ (by omega)
  repeat any_goals first
    | rw [allA_one]
    | (rw [allA_cons]; refine ⟨?_, ?_⟩)
    | (refine callA_of (rRead_spec (b.take 8) (by simp; omega)) fun _ _ ⟨e, e2⟩ _ => ?_
       have e3 := e2.symm
       subst e e3)
    | (rw [newA_iff]
       refine ⟨by simp [sup0, Sup.e, Shp.e], ?_⟩)
    | (simp only [stillA_iff, sameQ_loadA]
       refine ⟨loadA_at hB3 (by first | exact hb4 | exact h5) (by rfl) rfl, ?_⟩)
    | (simp only [stillA_iff, allA_one, sameQ_loadA]
       refine ⟨loadA_at hB3 (by first | exact hb4 | exact h5) (by rfl) rfl, ?_⟩)
    | (simp only [buildA_iff, fillA_one, fillA_nil, isCell_int, true_and]
       refine ⟨by simp [sup0, Sup.e, Shp.e], by simp [sup0, Sup.e, Shp.e], ?_⟩)
  all_goals
    simp only [hg]
    have hC : (sup0.e.set 0 (.int .u64 (g : Int))).set 1 (.int .i64 ((numAt b 0 : Nat) : Int)) = [(Value.int .u64 (g : Int)), .int .i64 ((numAt b 0 : Nat) : Int), .int .i64 0, .int .i64 0, .int .i64 0, .int .i64 0, .int .i64 0, .int .i64 0, .int .i64 0, .int .u64 0, .int .i64 0, .bool false] := rfl
    rw [hC]
    refine storeN0 (cs := sup0.e) (by omega) (by simp) rfl rfl (by rfl) ?_
    rw [put_new]
    clear h5
    have s5 : Step h4 (h4.new [(Value.int .u64 (g : Int)), .int .i64 ((numAt b 0 : Nat) : Int), .int .i64 0, .int .i64 0, .int .i64 0, .int .i64 0, .int .i64 0, .int .i64 0, .int .i64 0, .int .u64 0, .int .i64 0, .bool false] 12) [] [h4.next] := (Step.refl h4 [] (by simp)).new _ _
    have hq5 : (h4.new [(Value.int .u64 (g : Int)), .int .i64 ((numAt b 0 : Nat) : Int), .int .i64 0, .int .i64 0, .int .i64 0, .int .i64 0, .int .i64 0, .int .i64 0, .int .i64 0, .int .u64 0, .int .i64 0, .bool false] 12).blk h4.next = some [(Value.int .u64 (g : Int)), .int .i64 ((numAt b 0 : Nat) : Int), .int .i64 0, .int .i64 0, .int .i64 0, .int .i64 0, .int .i64 0, .int .i64 0, .int .i64 0, .int .u64 0, .int .i64 0, .bool false] := by simp
    have hn5 : h4.next < (h4.new [(Value.int .u64 (g : Int)), .int .i64 ((numAt b 0 : Nat) : Int), .int .i64 0, .int .i64 0, .int .i64 0, .int .i64 0, .int .i64 0, .int .i64 0, .int .i64 0, .int .u64 0, .int .i64 0, .bool false] 12).next := by simp
    generalize h4.new [(Value.int .u64 (g : Int)), .int .i64 ((numAt b 0 : Nat) : Int), .int .i64 0, .int .i64 0, .int .i64 0, .int .i64 0, .int .i64 0, .int .i64 0, .int .i64 0, .int .u64 0, .int .i64 0, .bool false] 12 = h5 at s5 hq5 hn5 ⊢
    have hb5 := (s5.keep h2.next (by omega) (by simp)).1.trans hb4
    have hq15 := (s5.keep h.next (by omega) (by simp)).1.trans hq14
    have st5 := st4.after s5 (by simp)
    have hB5 : w0.heap.size ≤ h4.next := by omega
    refine idx 1 (by omega) (loadA_at hB3 hb5 (by rfl) ?_)
    refine idx 2 (by omega) (loadA_at hB3 hb5 (by rfl) ?_)
    refine idx 3 (by omega) (loadA_at hB3 hb5 (by rfl) ?_)
    refine idx 4 (by omega) (loadA_at hB3 hb5 (by rfl) ?_)
    refine idx 5 (by omega) (loadA_at hB3 hb5 (by rfl) ?_)
    refine idx 6 (by omega) (loadA_at hB3 hb5 (by rfl) ?_)
    refine idx 7 (by omega) (loadA_at hB3 hb5 (by rfl) ?_)
    simp only [ht40, lenSl_slice, lenStr_string, str_size, fpureA_some, fnilA_ptr, faddA_ptr, addr_add, Nat.zero_add, Nat.add_zero, fpureQ_k, fpureQ_nilA, fpureQ_addA, fpureQ_pureA, fpureQ_guardA, fpureQ_idxSlA, fpureQ_pickA, freadQ_loadA, freadQ_loadNA, freadQ_b2sA, freadQ_guardA, freadQ_slSlA, freadQ_k, fendA, fallA_one, fstillA_nil, fguardA_tt, fguardA_ff, fguardA_tf, fguardA_ft, fguardA_undef, fpickA_true, fpickA_false, fcondA_true, fcondA_false, binA_add, binA_sub, binA_mul, binA_eql, binA_neq, binA_lss, binA_leq, binA_gtr, binA_geq, unA_not, Bool.not_true, Bool.not_false, convA_int, extA_tuple, List.getElem?_toArray, List.getElem?_cons_zero, List.getElem?_cons_succ]
    refine callA_of (rRead_spec ((b.drop 40).take 8) (by simp; omega)) fun _ _ ⟨e, e2⟩ f6 => ?_
    have e3 := e2.symm
    subst e e3
    simp only [hsd, stillA_iff, allA_cons, allA_one, sameQ_loadA]
    refine ⟨by refine ⟨?_, ?_, ?_, ?_, ?_, ?_, ?_⟩ <;> exact loadA_at hB3 hb5 (by rfl) rfl, ?_⟩
    simp only [buildA_iff, fillA_one, fillA_agg, fillA_nil, isCell_int, isCell_bool, true_and, List.set_cons_zero, List.set_cons_succ, List.length_cons, List.length_nil, stillA_iff, allA_cons, allA_one, sameQ_loadA]
    refine ⟨by omega, by omega, by omega, by omega, by refine ⟨?_, ?_, ?_, ?_⟩ <;> exact loadA_at hB3 hb5 (by rfl) rfl, by omega, by omega, by omega, by omega, by rfl, by omega, ?_⟩
    refine storeN (o := 2) (n := 10) (vs := [.int .i64 ((numAt b 1 : Nat) : Int), .int .i64 ((numAt b 2 : Nat) : Int), .int .i64 ((numAt b 3 : Nat) : Int), .int .i64 ((numAt b 4 : Nat) : Int), .int .i64 ((numAt b 5 : Nat) : Int), .int .i64 ((numAt b 6 : Nat) : Int), .int .i64 ((numAt b 7 : Nat) : Int), .int .u64 (sd : Int), .int .i64 0, .bool false]) hB5 hq5 (by simp) rfl (by rfl) ?_
    have hC2 : splice [(Value.int .u64 (g : Int)), .int .i64 ((numAt b 0 : Nat) : Int), .int .i64 0, .int .i64 0, .int .i64 0, .int .i64 0, .int .i64 0, .int .i64 0, .int .i64 0, .int .u64 0, .int .i64 0, .bool false] 2 [.int .i64 ((numAt b 1 : Nat) : Int), .int .i64 ((numAt b 2 : Nat) : Int), .int .i64 ((numAt b 3 : Nat) : Int), .int .i64 ((numAt b 4 : Nat) : Int), .int .i64 ((numAt b 5 : Nat) : Int), .int .i64 ((numAt b 6 : Nat) : Int), .int .i64 ((numAt b 7 : Nat) : Int), .int .u64 (sd : Int), .int .i64 0, .bool false] =
      [(Value.int .u64 (g : Int)), .int .i64 ((numAt b 0 : Nat) : Int), .int .i64 ((numAt b 1 : Nat) : Int), .int .i64 ((numAt b 2 : Nat) : Int), .int .i64 ((numAt b 3 : Nat) : Int), .int .i64 ((numAt b 4 : Nat) : Int), .int .i64 ((numAt b 5 : Nat) : Int), .int .i64 ((numAt b 6 : Nat) : Int), .int .i64 ((numAt b 7 : Nat) : Int), .int .u64 (sd : Int), .int .i64 0, .bool false] := rfl
    rw [hC2]
    have s6 := (Step.refl h5 [h4.next] (by simp; omega)).put (p := h4.next) (by simp) [(Value.int .u64 (g : Int)), .int .i64 ((numAt b 0 : Nat) : Int), .int .i64 ((numAt b 1 : Nat) : Int), .int .i64 ((numAt b 2 : Nat) : Int), .int .i64 ((numAt b 3 : Nat) : Int), .int .i64 ((numAt b 4 : Nat) : Int), .int .i64 ((numAt b 5 : Nat) : Int), .int .i64 ((numAt b 6 : Nat) : Int), .int .i64 ((numAt b 7 : Nat) : Int), .int .u64 (sd : Int), .int .i64 0, .bool false]
    have hq6 : (h5.put h4.next [(Value.int .u64 (g : Int)), .int .i64 ((numAt b 0 : Nat) : Int), .int .i64 ((numAt b 1 : Nat) : Int), .int .i64 ((numAt b 2 : Nat) : Int), .int .i64 ((numAt b 3 : Nat) : Int), .int .i64 ((numAt b 4 : Nat) : Int), .int .i64 ((numAt b 5 : Nat) : Int), .int .i64 ((numAt b 6 : Nat) : Int), .int .i64 ((numAt b 7 : Nat) : Int), .int .u64 (sd : Int), .int .i64 0, .bool false]).blk h4.next = some [(Value.int .u64 (g : Int)), .int .i64 ((numAt b 0 : Nat) : Int), .int .i64 ((numAt b 1 : Nat) : Int), .int .i64 ((numAt b 2 : Nat) : Int), .int .i64 ((numAt b 3 : Nat) : Int), .int .i64 ((numAt b 4 : Nat) : Int), .int .i64 ((numAt b 5 : Nat) : Int), .int .i64 ((numAt b 6 : Nat) : Int), .int .i64 ((numAt b 7 : Nat) : Int), .int .u64 (sd : Int), .int .i64 0, .bool false] := by simp
    have hn6 : (h5.put h4.next [(Value.int .u64 (g : Int)), .int .i64 ((numAt b 0 : Nat) : Int), .int .i64 ((numAt b 1 : Nat) : Int), .int .i64 ((numAt b 2 : Nat) : Int), .int .i64 ((numAt b 3 : Nat) : Int), .int .i64 ((numAt b 4 : Nat) : Int), .int .i64 ((numAt b 5 : Nat) : Int), .int .i64 ((numAt b 6 : Nat) : Int), .int .i64 ((numAt b 7 : Nat) : Int), .int .u64 (sd : Int), .int .i64 0, .bool false]).next = h5.next := by simp
    generalize h5.put h4.next [(Value.int .u64 (g : Int)), .int .i64 ((numAt b 0 : Nat) : Int), .int .i64 ((numAt b 1 : Nat) : Int), .int .i64 ((numAt b 2 : Nat) : Int), .int .i64 ((numAt b 3 : Nat) : Int), .int .i64 ((numAt b 4 : Nat) : Int), .int .i64 ((numAt b 5 : Nat) : Int), .int .i64 ((numAt b 6 : Nat) : Int), .int .i64 ((numAt b 7 : Nat) : Int), .int .u64 (sd : Int), .int .i64 0, .bool false] = h6 at s6 hq6 hn6 ⊢
    have hq16 := (s6.keep h.next (by omega) (by simp; omega)).1.trans hq15
    have st6 := st5.after s6 (by simp; omega)
    simp only [ht48, ht50, lenSl_slice, lenStr_string, str_size, fpureA_some, fnilA_ptr, faddA_ptr, addr_add, Nat.zero_add, Nat.add_zero, fpureQ_k, fpureQ_nilA, fpureQ_addA, fpureQ_pureA, fpureQ_guardA, fpureQ_idxSlA, fpureQ_pickA, freadQ_loadA, freadQ_loadNA, freadQ_b2sA, freadQ_guardA, freadQ_slSlA, freadQ_k, fendA, fallA_one, fstillA_nil, fguardA_tt, fguardA_ff, fguardA_tf, fguardA_ft, fguardA_undef, fpickA_true, fpickA_false, fcondA_true, fcondA_false, binA_add, binA_sub, binA_mul, binA_eql, binA_neq, binA_lss, binA_leq, binA_gtr, binA_geq, unA_not, Bool.not_true, Bool.not_false, convA_int, extA_tuple, List.getElem?_toArray, List.getElem?_cons_zero, List.getElem?_cons_succ]
    refine callA_of (rRead_spec ((b.drop 48).take 2) (by simp; omega)) fun _ _ ⟨e, e2⟩ f7 => ?_
    have e3 := e2.symm
    subst e e3
    simp only [hbi, ebi, lenSl_slice, lenStr_string, str_size, fpureA_some, fnilA_ptr, faddA_ptr, addr_add, Nat.zero_add, Nat.add_zero, fpureQ_k, fpureQ_nilA, fpureQ_addA, fpureQ_pureA, fpureQ_guardA, fpureQ_idxSlA, fpureQ_pickA, freadQ_loadA, freadQ_loadNA, freadQ_b2sA, freadQ_guardA, freadQ_slSlA, freadQ_k, fendA, fallA_one, fstillA_nil, fguardA_tt, fguardA_ff, fguardA_tf, fguardA_ft, fguardA_undef, fpickA_true, fpickA_false, fcondA_true, fcondA_false, binA_add, binA_sub, binA_mul, binA_eql, binA_neq, binA_lss, binA_leq, binA_gtr, binA_geq, unA_not, Bool.not_true, Bool.not_false, convA_int, extA_tuple, List.getElem?_toArray, List.getElem?_cons_zero, List.getElem?_cons_succ]
    refine storeA_at hB5 hq6 (by simp) rfl ?_
    refine storeA_at hB5 (cs := [(Value.int .u64 (g : Int)), .int .i64 ((numAt b 0 : Nat) : Int), .int .i64 ((numAt b 1 : Nat) : Int), .int .i64 ((numAt b 2 : Nat) : Int), .int .i64 ((numAt b 3 : Nat) : Int), .int .i64 ((numAt b 4 : Nat) : Int), .int .i64 ((numAt b 5 : Nat) : Int), .int .i64 ((numAt b 6 : Nat) : Int), .int .i64 ((numAt b 7 : Nat) : Int), .int .u64 (sd : Int), .int .i64 (bi : Int), .bool false]) (by simp) (by simp) rfl ?_
    have hXe : X.e = [(Value.int .u64 (g : Int)), .int .i64 ((numAt b 0 : Nat) : Int), .int .i64 ((numAt b 1 : Nat) : Int), .int .i64 ((numAt b 2 : Nat) : Int), .int .i64 ((numAt b 3 : Nat) : Int), .int .i64 ((numAt b 4 : Nat) : Int), .int .i64 ((numAt b 5 : Nat) : Int), .int .i64 ((numAt b 6 : Nat) : Int), .int .i64 ((numAt b 7 : Nat) : Int), .int .u64 (sd : Int), .int .i64 (bi : Int), .bool ((c.toNat : Int) == 1)] := by rw [hX]; rfl
    simp only [List.set_cons_succ, List.set_cons_zero]
    rw [← hXe]
    have s7 := ((Step.refl h6 [h4.next] (by simp; omega)).put (p := h4.next) (by simp) [(Value.int .u64 (g : Int)), .int .i64 ((numAt b 0 : Nat) : Int), .int .i64 ((numAt b 1 : Nat) : Int), .int .i64 ((numAt b 2 : Nat) : Int), .int .i64 ((numAt b 3 : Nat) : Int), .int .i64 ((numAt b 4 : Nat) : Int), .int .i64 ((numAt b 5 : Nat) : Int), .int .i64 ((numAt b 6 : Nat) : Int), .int .i64 ((numAt b 7 : Nat) : Int), .int .u64 (sd : Int), .int .i64 (bi : Int), .bool false]).put (p := h4.next) (by simp) X.e
    have hq7 : (((h6.put h4.next [(Value.int .u64 (g : Int)), .int .i64 ((numAt b 0 : Nat) : Int), .int .i64 ((numAt b 1 : Nat) : Int), .int .i64 ((numAt b 2 : Nat) : Int), .int .i64 ((numAt b 3 : Nat) : Int), .int .i64 ((numAt b 4 : Nat) : Int), .int .i64 ((numAt b 5 : Nat) : Int), .int .i64 ((numAt b 6 : Nat) : Int), .int .i64 ((numAt b 7 : Nat) : Int), .int .u64 (sd : Int), .int .i64 (bi : Int), .bool false]).put h4.next X.e)).blk h4.next = some X.e := by simp
    have hn7 : (((h6.put h4.next [(Value.int .u64 (g : Int)), .int .i64 ((numAt b 0 : Nat) : Int), .int .i64 ((numAt b 1 : Nat) : Int), .int .i64 ((numAt b 2 : Nat) : Int), .int .i64 ((numAt b 3 : Nat) : Int), .int .i64 ((numAt b 4 : Nat) : Int), .int .i64 ((numAt b 5 : Nat) : Int), .int .i64 ((numAt b 6 : Nat) : Int), .int .i64 ((numAt b 7 : Nat) : Int), .int .u64 (sd : Int), .int .i64 (bi : Int), .bool false]).put h4.next X.e)).next = h6.next := by simp
    generalize ((h6.put h4.next [(Value.int .u64 (g : Int)), .int .i64 ((numAt b 0 : Nat) : Int), .int .i64 ((numAt b 1 : Nat) : Int), .int .i64 ((numAt b 2 : Nat) : Int), .int .i64 ((numAt b 3 : Nat) : Int), .int .i64 ((numAt b 4 : Nat) : Int), .int .i64 ((numAt b 5 : Nat) : Int), .int .i64 ((numAt b 6 : Nat) : Int), .int .i64 ((numAt b 7 : Nat) : Int), .int .u64 (sd : Int), .int .i64 (bi : Int), .bool false]).put h4.next X.e) = h7 at s7 hq7 hn7 ⊢
    have hq17 := (s7.keep h.next (by omega) (by simp; omega)).1.trans hq16
    have st7 := st6.after s7 (by simp; omega)
    clear hX hXe
    try simp only [lenSl_slice, lenStr_string, str_size, fpureA_some, fnilA_ptr, faddA_ptr, addr_add, Nat.zero_add, Nat.add_zero, fpureQ_k, fpureQ_nilA, fpureQ_addA, fpureQ_pureA, fpureQ_guardA, fpureQ_idxSlA, fpureQ_pickA, freadQ_loadA, freadQ_loadNA, freadQ_b2sA, freadQ_guardA, freadQ_slSlA, freadQ_k, fendA, fallA_one, fstillA_nil, fguardA_tt, fguardA_ff, fguardA_tf, fguardA_ft, fguardA_undef, fpickA_true, fpickA_false, fcondA_true, fcondA_false, binA_add, binA_sub, binA_mul, binA_eql, binA_neq, binA_lss, binA_leq, binA_gtr, binA_geq, unA_not, Bool.not_true, Bool.not_false, convA_int, extA_tuple, List.getElem?_toArray, List.getElem?_cons_zero, List.getElem?_cons_succ]
    refine loadNA_whole hB5 hq7 rfl ?_
    refine callA_of (rEncodeSuper_spec hin) fun v h8 ⟨g1, g2⟩ f8 => ?_
    by_cases hck : X.check = 0
    · obtain ⟨q, e, g8, hq8, s8⟩ := g1 hck
      subst e
      have n78 := s8.next
      have hlen := Sup.enc_length hck
      have gB : Bs w0 h8 (.slice (some ⟨q, 0, none⟩) X.s.sec.toNat X.s.sec.toNat) X.enc := by
        have := g8.sl
        rw [← hlen] at this ⊢
        exact this
      simp only [lenSl_slice, lenStr_string, str_size, fpureA_some, fnilA_ptr, faddA_ptr, addr_add, Nat.zero_add, Nat.add_zero, fpureQ_k, fpureQ_nilA, fpureQ_addA, fpureQ_pureA, fpureQ_guardA, fpureQ_idxSlA, fpureQ_pickA, freadQ_loadA, freadQ_loadNA, freadQ_b2sA, freadQ_guardA, freadQ_slSlA, freadQ_k, fendA, fallA_one, fstillA_nil, fguardA_tt, fguardA_ff, fguardA_tf, fguardA_ft, fguardA_undef, fpickA_true, fpickA_false, fcondA_true, fcondA_false, binA_add, binA_sub, binA_mul, binA_eql, binA_neq, binA_lss, binA_leq, binA_gtr, binA_geq, unA_not, Bool.not_true, Bool.not_false, convA_int, extA_tuple, List.getElem?_toArray, List.getElem?_cons_zero, List.getElem?_cons_succ, bne_self_eq_false]
      refine Bs.b2s gB ?_
      have st8 := st7.after s8 (by simp)
      have v8 : Bs w0 h8 x l := Sl.step vb f st8 (by simp)
      refine Bs.b2s v8 ?_
      have hq18 := (s8.keep h.next (by omega) (by simp)).1.trans hq17
      have hq78 := (s8.keep h4.next (by omega) (by simp)).1.trans hq7
      rw [binA_strneq]
      by_cases hel : X.enc = l
      · have k3 : decide (str X.enc = str l) = true := decide_eq_true (by rw [hel])
        rw [if_pos ⟨hck, hel⟩] at hdec
        simp only [k3, Bool.not_true, lenSl_slice, lenStr_string, str_size, fpureA_some, fnilA_ptr, faddA_ptr, addr_add, Nat.zero_add, Nat.add_zero, fpureQ_k, fpureQ_nilA, fpureQ_addA, fpureQ_pureA, fpureQ_guardA, fpureQ_idxSlA, fpureQ_pickA, freadQ_loadA, freadQ_loadNA, freadQ_b2sA, freadQ_guardA, freadQ_slSlA, freadQ_k, fendA, fallA_one, fstillA_nil, fguardA_tt, fguardA_ff, fguardA_tf, fguardA_ft, fguardA_undef, fpickA_true, fpickA_false, fcondA_true, fcondA_false, binA_add, binA_sub, binA_mul, binA_eql, binA_neq, binA_lss, binA_leq, binA_gtr, binA_geq, unA_not, Bool.not_true, Bool.not_false, convA_int, extA_tuple, List.getElem?_toArray, List.getElem?_cons_zero, List.getElem?_cons_succ]
        refine loadNA_whole hB5 hq78 rfl ?_
        refine storeN0 hB hq18 rfl rfl (by rfl) (loadNA_whole (cs := X.e) hB (by simp) rfl ?_)
        simp only [retA_iff, oneOf_two]
        refine ⟨by simp, by simp [decV, hdec, Sup.v], ?_⟩
        exact st8.after ((Step.refl h8 [h.next] (by simp; omega)).put (p := h.next) (by simp) _) (by simp)
      · have k3 : decide (str X.enc = str l) = false := decide_eq_false (by rw [str_inj]; exact hel)
        rw [if_neg fun q => hel q.2] at hdec
        simp only [k3, Bool.not_false, lenSl_slice, lenStr_string, str_size, fpureA_some, fnilA_ptr, faddA_ptr, addr_add, Nat.zero_add, Nat.add_zero, fpureQ_k, fpureQ_nilA, fpureQ_addA, fpureQ_pureA, fpureQ_guardA, fpureQ_idxSlA, fpureQ_pickA, freadQ_loadA, freadQ_loadNA, freadQ_b2sA, freadQ_guardA, freadQ_slSlA, freadQ_k, fendA, fallA_one, fstillA_nil, fguardA_tt, fguardA_ff, fguardA_tf, fguardA_ft, fguardA_undef, fpickA_true, fpickA_false, fcondA_true, fcondA_false, binA_add, binA_sub, binA_mul, binA_eql, binA_neq, binA_lss, binA_leq, binA_gtr, binA_geq, unA_not, Bool.not_true, Bool.not_false, convA_int, extA_tuple, List.getElem?_toArray, List.getElem?_cons_zero, List.getElem?_cons_succ, buildA_iff, fillA_nil]
        exact bad st8 ⟨_, hq18, rfl⟩ (by omega) hdec
    · obtain ⟨e, s8⟩ := g2 hck
      subst e
      have n78 := s8.next
      have k3 : (X.check != 0) = true := by simp [hck]
      rw [if_neg fun q => hck q.1] at hdec
      simp only [k3, lenSl_slice, lenStr_string, str_size, fpureA_some, fnilA_ptr, faddA_ptr, addr_add, Nat.zero_add, Nat.add_zero, fpureQ_k, fpureQ_nilA, fpureQ_addA, fpureQ_pureA, fpureQ_guardA, fpureQ_idxSlA, fpureQ_pickA, freadQ_loadA, freadQ_loadNA, freadQ_b2sA, freadQ_guardA, freadQ_slSlA, freadQ_k, fendA, fallA_one, fstillA_nil, fguardA_tt, fguardA_ff, fguardA_tf, fguardA_ft, fguardA_undef, fpickA_true, fpickA_false, fcondA_true, fcondA_false, binA_add, binA_sub, binA_mul, binA_eql, binA_neq, binA_lss, binA_leq, binA_gtr, binA_geq, unA_not, Bool.not_true, Bool.not_false, convA_int, extA_tuple, List.getElem?_toArray, List.getElem?_cons_zero, List.getElem?_cons_succ, buildA_iff, fillA_nil]
      exact bad (st7.after s8 (by simp)) ⟨_, (s8.keep h.next (by omega) (by simp)).1.trans hq17, rfl⟩ (by omega) hdec
end
end Go.Proofs.Ytihebhdgjnibfaa.Ah
