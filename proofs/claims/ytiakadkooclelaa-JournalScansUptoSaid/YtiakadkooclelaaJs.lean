/- journal: a sector's bytes. -/
import Derived.Test.YtiakadkooclelaaJb
set_option linter.unusedVariables false
set_option linter.unusedSimpArgs false
namespace Go.Proofs.Ytiakadkooclelaa.Ah
open Go

theorem put_ok {m : Int} {bs l : List UInt8} (h : (bs.length : Int) + l.length ≤ m) : (⟨m, bs, false⟩ : WS).put l = ⟨m, bs ++ l, false⟩ := by
  unfold WS.put
  rw [if_neg (by simp), if_neg (by simp; omega)]
theorem zeros_bvs (n : Nat) : zerosL [(.int .u8 0 : Value)] n = bvs (List.replicate n 0) := by
  rw [zerosL_single]
  simp [bvs, bv]
theorem secR_splice {size : Nat} {r : List UInt8} (h : r.length ≤ size - 24) : splice (bvs (List.replicate (size - 24) 0)) 0 (bvs r) = bvs (secR size r) := by
  unfold splice secR
  simp only [List.take_zero, List.nil_append, bvs_append, bvs_length, Nat.zero_add]
  congr 1
  simp [bvs]
section
variable {w0 : World} {h : Hp}
/-- copy of what fits. -/
theorem copy_spec {size q c : Nat} {r : List UInt8} {a : Option Addr} {ca : Nat} {K : Kont} (hr : r.length ≤ size - 24) (hq : w0.heap.size ≤ q) (hb : h.blk q = some (bvs (List.replicate (size - 24) 0))) (hs : Src w0.heap.size h 1 (.slice a r.length ca) r.length (bvs r))
    (hk : ∀ n h', h'.blk q = some (bvs (secR size r)) → Step h h' [q] [q] → K (.int .i64 n) h') (hlt : q < h.next) : copyA w0 1 (.slice (some ⟨q, 0, none⟩) (size - 24) c) (.slice a r.length ca) K h := by
  refine ⟨_, _, _, r.length, rfl, by simp, fun h0 => ?_, fun h0 => ⟨q, 0, _, bvs r, rfl, hq, hb, by simp; omega, ?_, ?_⟩⟩
  · have hr0 : r = [] ∨ size - 24 = 0 := by
      rcases Nat.eq_zero_or_pos r.length with e | e
      · exact .inl (List.eq_nil_of_length_eq_zero e)
      · right; omega
    have : r = [] := by
      rcases hr0 with e | e
      · exact e
      · exact List.eq_nil_of_length_eq_zero (by omega)
    subst this
    exact hk 0 h (by simpa [secR] using hb) (Step.refl _ _ (by simpa using hlt))
  · have : min r.length (size - 24) = r.length := by omega
    rw [this]; exact hs
  · have : min r.length (size - 24) = r.length := by omega
    rw [this, secR_splice hr]
    exact hk _ _ (by simp) ((Step.refl h [q] (by simpa using hlt)).put (by simp) _)
theorem sector_spec {size gen i : Nat} {r : List UInt8} {a : Option Addr} {c : Nat} (hs : 512 ≤ size ∧ size ≤ 4096) (hi : i < 4294967296) (hr : r.length ≤ size - 24) (src : Src w0.heap.size h 1 (.slice a r.length c) r.length (bvs r)) :
    ACalls prog w0 n_journal_sector [.int .i64 size, .int .u64 gen, .int .i64 i, .slice a r.length c] h fun v h' => ∃ S', Vec w0 h' 1 v size (bvs (sec size gen i r)) S' ∧ Step h h' [] S' := by
  refine ACalls.of_fit (by simp) fun f => c_journal_sector (by simp) ?_
  simp only [s_journal_sector]
  refine callA_of (NewWriter_spec size (by omega)) fun v h1 ⟨e, w1, s1⟩ f1 => ?_
  subst e
  rw [Int.max_eq_left (by omega)] at w1
  have e0 : (⟨#[68, 74, 82, 78]⟩ : ByteArray) = str [68, 74, 82, 78] := rfl
  rw [e0]
  refine callA_of (WRaw_spec [68, 74, 82, 78] (by simp) w1 (by simp)) fun v h2 ⟨S2, w2, s2⟩ f2 => ?_
  rw [put_ok (by simp; omega)] at w2
  refine callA_of (U64_spec gen w2 (by simp)) fun v h3 ⟨S3, w3, s3⟩ f3 => ?_
  rw [put_ok (by simp; omega)] at w3
  have e1 : IntKind.u32.wrap (i : Int) = i := IntWalk.u32_in _ (by omega)
  simp only [lenSl_slice, lenStr_string, str_size, fpureA_some, fnilA_ptr, faddA_ptr, addr_add, Nat.zero_add, Nat.add_zero, fpureQ_k, fpureQ_nilA, fpureQ_addA, fpureQ_pureA, fpureQ_guardA, fpureQ_idxSlA, fpureQ_pickA, freadQ_loadA, freadQ_loadNA, freadQ_b2sA, freadQ_guardA, freadQ_slSlA, freadQ_k, fendA, fallA_one, fstillA_nil, fguardA_tt, fguardA_ff, fguardA_tf, fguardA_ft, fguardA_undef, fpickA_true, fpickA_false, fcondA_true, fcondA_false, binA_add, binA_sub, binA_mul, binA_eql, binA_neq, binA_lss, binA_leq, binA_gtr, binA_geq, unA_not, Bool.not_true, Bool.not_false, convA_int, extA_tuple, List.getElem?_toArray, List.getElem?_cons_zero, List.getElem?_cons_succ, e1]
  refine callA_of (U32_spec i w3 (by simp)) fun v h4 ⟨S4, w4, s4⟩ f4 => ?_
  rw [put_ok (by simp; omega)] at w4
  have e2 : IntKind.u32.wrap (r.length : Int) = r.length := IntWalk.u32_in _ (by omega)
  simp only [lenSl_slice, lenStr_string, str_size, fpureA_some, fnilA_ptr, faddA_ptr, addr_add, Nat.zero_add, Nat.add_zero, fpureQ_k, fpureQ_nilA, fpureQ_addA, fpureQ_pureA, fpureQ_guardA, fpureQ_idxSlA, fpureQ_pickA, freadQ_loadA, freadQ_loadNA, freadQ_b2sA, freadQ_guardA, freadQ_slSlA, freadQ_k, fendA, fallA_one, fstillA_nil, fguardA_tt, fguardA_ff, fguardA_tf, fguardA_ft, fguardA_undef, fpickA_true, fpickA_false, fcondA_true, fcondA_false, binA_add, binA_sub, binA_mul, binA_eql, binA_neq, binA_lss, binA_leq, binA_gtr, binA_geq, unA_not, Bool.not_true, Bool.not_false, convA_int, extA_tuple, List.getElem?_toArray, List.getElem?_cons_zero, List.getElem?_cons_succ, e2]
  refine callA_of (U32_spec r.length w4 (by simp)) fun v h5 ⟨S5, w5, s5⟩ f5 => ?_
  rw [put_ok (by simp; omega)] at w5
  have s05 : Step h h5 [] S5 := (((s1.trans s2).trans s3).trans s4).trans s5
  have hb5 : ([] ++ [68, 74, 82, 78] ++ be 8 gen ++ be 4 i ++ be 4 r.length : List UInt8) = sec0 gen i r.length := by simp [sec0]
  rw [hb5] at w5
  refine callA_of (WDone_spec w5) fun v h6 ⟨e, e6⟩ f6 => ?_
  subst e e6
  have e3 : IntKind.i64.wrap ((size : Int) - 24) = ((size - 24 : Nat) : Int) := by rw [IntWalk.i64_in _ (by omega)]; omega
  have eo : (⟨(size : Int), sec0 gen i r.length, false⟩ : WS).out = sec0 gen i r.length := rfl
  simp only [lenSl_slice, lenStr_string, str_size, fpureA_some, fnilA_ptr, faddA_ptr, addr_add, Nat.zero_add, Nat.add_zero, fpureQ_k, fpureQ_nilA, fpureQ_addA, fpureQ_pureA, fpureQ_guardA, fpureQ_idxSlA, fpureQ_pickA, freadQ_loadA, freadQ_loadNA, freadQ_b2sA, freadQ_guardA, freadQ_slSlA, freadQ_k, fendA, fallA_one, fstillA_nil, fguardA_tt, fguardA_ff, fguardA_tf, fguardA_ft, fguardA_undef, fpickA_true, fpickA_false, fcondA_true, fcondA_false, binA_add, binA_sub, binA_mul, binA_eql, binA_neq, binA_lss, binA_leq, binA_gtr, binA_geq, unA_not, Bool.not_true, Bool.not_false, convA_int, extA_tuple, List.getElem?_toArray, List.getElem?_cons_zero, List.getElem?_cons_succ, e3, mkA_nat, zeros_bvs, eo]
  refine ⟨Nat.le_refl _, by omega, by omega, ?_⟩
  have src5 := src.step f s05 (by simp)
  have sn := (Step.refl h6 [] (by simp)).new (bvs (List.replicate (size - 24) 0)) 1
  have hrl : (secR size r).length = size - 24 := secR_length hr
  refine copy_spec hr f5.base (by simp) (src5.step f5 sn (by simp)) (fun n h7 hb7 s7 => ?_) (by simp)
  have w7 := (w5.frame sn (by simp)).frame s7 (by intro b hb; have := (w5.lt b hb).2; simp; omega)
  have sR : Src w0.heap.size h7 1 (.slice (some ⟨h6.next, 0, none⟩) (size - 24) (size - 24)) (size - 24) (bvs (secR size r)) := src_whole f5.base hb7 (by simp [hrl])
  refine b2sA_of sR ?_
  rw [strA_add _ _ (by simp [hrl]; omega)]
  simp only [lenSl_slice, lenStr_string, str_size, fpureA_some, fnilA_ptr, faddA_ptr, addr_add, Nat.zero_add, Nat.add_zero, fpureQ_k, fpureQ_nilA, fpureQ_addA, fpureQ_pureA, fpureQ_guardA, fpureQ_idxSlA, fpureQ_pickA, freadQ_loadA, freadQ_loadNA, freadQ_b2sA, freadQ_guardA, freadQ_slSlA, freadQ_k, fendA, fallA_one, fstillA_nil, fguardA_tt, fguardA_ff, fguardA_tf, fguardA_ft, fguardA_undef, fpickA_true, fpickA_false, fcondA_true, fcondA_false, binA_add, binA_sub, binA_mul, binA_eql, binA_neq, binA_lss, binA_leq, binA_gtr, binA_geq, unA_not, Bool.not_true, Bool.not_false, convA_int, extA_tuple, List.getElem?_toArray, List.getElem?_cons_zero, List.getElem?_cons_succ, str_append]
  have hcl : (sec0 gen i r.length ++ secR size r).length ≤ 140737488355328 := by simp [hrl]; omega
  refine callA_of (Crc_spec _ hcl) fun v h8 ⟨e, e8⟩ f8 => ?_
  subst e e8
  refine callA_of (U32_spec (crcOf (sec0 gen i r.length ++ secR size r)) w7 (by simp)) fun v h9 ⟨S9, w9, s9⟩ f9 => ?_
  rw [put_ok (by simp; omega)] at w9
  have hq5 : h6.next ∉ S5 := fun e => by have := (w5.lt _ e).2; omega
  have hb9 : h9.blk h6.next = some (bvs (secR size r)) := by rw [(s9.keep h6.next (by have := s7.next; simp at this; omega) hq5).1]; exact hb7
  have sR9 : Src w0.heap.size h9 1 (.slice (some ⟨h6.next, 0, none⟩) (size - 24) (size - 24)) (size - 24) (bvs (secR size r)) := src_whole f5.base hb9 (by simp [hrl])
  refine b2sA_of sR9 ?_
  refine callA_of (WRaw_spec (secR size r) (by omega) w9 (by simp [hrl]; omega)) fun v h10 ⟨S10, w10, s10⟩ f10 => ?_
  rw [put_ok (by simp [hrl]; omega)] at w10
  refine callA_of (WDone_spec w10) fun v h11 ⟨e, e11⟩ f11 => ?_
  subst e e11
  have eo2 : (⟨(size : Int), sec0 gen i r.length ++ be 4 (crcOf (sec0 gen i r.length ++ secR size r)) ++ secR size r, false⟩ : WS).out = sec size gen i r := rfl
  have hsl := sec_length gen i (by omega) hr
  simp only [lenSl_slice, lenStr_string, str_size, fpureA_some, fnilA_ptr, faddA_ptr, addr_add, Nat.zero_add, Nat.add_zero, fpureQ_k, fpureQ_nilA, fpureQ_addA, fpureQ_pureA, fpureQ_guardA, fpureQ_idxSlA, fpureQ_pickA, freadQ_loadA, freadQ_loadNA, freadQ_b2sA, freadQ_guardA, freadQ_slSlA, freadQ_k, fendA, fallA_one, fstillA_nil, fguardA_tt, fguardA_ff, fguardA_tf, fguardA_ft, fguardA_undef, fpickA_true, fpickA_false, fcondA_true, fcondA_false, binA_add, binA_sub, binA_mul, binA_eql, binA_neq, binA_lss, binA_leq, binA_gtr, binA_geq, unA_not, Bool.not_true, Bool.not_false, convA_int, extA_tuple, List.getElem?_toArray, List.getElem?_cons_zero, List.getElem?_cons_succ, eo2, s2bA_iff, str_data, bvs_eq, hsl, retA_iff, oneOf_one]
  refine ⟨by omega, by simp, [h11.next], .inr ⟨h11.next, rfl, rfl, f10.base, by simp, by simp, by simp, by simp [hsl]⟩, ?_⟩
  have sA : Step h h8 [] (h6.next :: S5) := by
    have a1 : Step h (h6.new (bvs (List.replicate (size - 24) 0)) 1) [] (h6.next :: S5) := s05.new _ _
    exact a1.trans (s7.wide (fun b hb => by simp at hb; simp [hb]) (fun b hb => by
      rcases List.mem_cons.1 hb with rfl | hb
      · exact .inl (by simp)
      · exact .inr ⟨by simp [hb], by have := (w5.lt b hb).2; simp; omega⟩))
  have sB := ((sA.less (T := S5) (fun b hb => by simp [hb])).trans s9).trans s10
  exact (sB.new (bvs (sec size gen i r)) 1).less (by simp)
end
end Go.Proofs.Ytiakadkooclelaa.Ah
