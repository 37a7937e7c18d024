/- pack.Pack: Slots, Image, Seal, Back, Fork, Take. -/
import Derived.Test.YtfhamcobfpmgbaaPi
set_option linter.unusedVariables false
set_option linter.unusedSimpArgs false
namespace Go.Proofs.Ytfhamcobfpmgbaa.Ah
open Go

section
variable {w0 : World} {h : Hp} {p : Nat} {st : PS} {S : List Nat}
theorem pImage_spec (w : Pk w0 h p st S) (o : st.Ok) : ACalls prog w0 n_pack_Pack_Image [ptr p] h fun r h' => ∃ T, GV w0 h' 1 r st.image.length (bvs st.image) T ∧ Step h h' [] T := by
  refine ACalls.of_fit (by simp [ptr]) fun f => c_pack_Pack_Image (by simp [ptr]) ?_
  refine callA_of (pmade_spec w o) fun _ h1 ⟨e, e1⟩ f1 => ?_
  subst e e1
  obtain ⟨xi, xs, xt, A, B, C, w, -⟩ := w
  have hb := o.bytes
  have hi := o.image
  simp only [ptr, lenSl_slice, lenStr_string, str_size, fpureA_some, fnilA_ptr, faddA_ptr, addr_add, Nat.zero_add, Nat.add_zero, fpureQ_k, fpureQ_nilA, fpureQ_addA, fpureQ_pureA, fpureQ_guardA, fpureQ_idxSlA, fpureQ_pickA, freadQ_loadA, freadQ_loadNA, freadQ_b2sA, freadQ_guardA, freadQ_slSlA, freadQ_k, fendA, fallA_one, fstillA_nil, fguardA_tt, fguardA_ff, fguardA_tf, fguardA_ft, fguardA_undef, fpickA_true, fpickA_false, fcondA_true, fcondA_false, binA_add, binA_sub, binA_mul, binA_eql, binA_neq, binA_lss, binA_leq, binA_gtr, binA_geq, unA_not, Bool.not_true, Bool.not_false, convA_int, extA_tuple, List.getElem?_toArray, List.getElem?_cons_zero, List.getElem?_cons_succ]
  refine loadA_at w.base w.blk (by rfl) ?_
  refine callA_of (cloneB_spec (w.vi.sl : Bs w0 h1 xi st.image) (by omega)) fun r h2 ⟨⟨T, g, _, s⟩, _⟩ f2 => ?_
  obtain ⟨a, c, hr⟩ := g.slice
  simp only [retA_iff, oneOf_one]
  exact ⟨by rw [hr]; simp, T, g, s⟩
theorem pSlots_spec (w : Pk w0 h p st S) (o : st.Ok) : ACalls prog w0 n_pack_Pack_Slots [ptr p] h fun r h' => ∃ T, GV w0 h' 2 r (slotsFrom 16 st.chunks).length (slotC (slotsFrom 16 st.chunks)) T ∧ Step h h' [] T := by
  refine ACalls.of_fit (by simp [ptr]) fun f => c_pack_Pack_Slots (by simp [ptr]) ?_
  refine callA_of (pmade_spec w o) fun _ h1 ⟨e, e1⟩ f1 => ?_
  subst e e1
  obtain ⟨xi, xs, xt, A, B, C, w, -⟩ := w
  have hb := o.bytes
  have hr := o.room
  have hcl := chunks_le (cs := st.chunks)
  simp only [ptr, lenSl_slice, lenStr_string, str_size, fpureA_some, fnilA_ptr, faddA_ptr, addr_add, Nat.zero_add, Nat.add_zero, fpureQ_k, fpureQ_nilA, fpureQ_addA, fpureQ_pureA, fpureQ_guardA, fpureQ_idxSlA, fpureQ_pickA, freadQ_loadA, freadQ_loadNA, freadQ_b2sA, freadQ_guardA, freadQ_slSlA, freadQ_k, fendA, fallA_one, fstillA_nil, fguardA_tt, fguardA_ff, fguardA_tf, fguardA_ft, fguardA_undef, fpickA_true, fpickA_false, fcondA_true, fcondA_false, binA_add, binA_sub, binA_mul, binA_eql, binA_neq, binA_lss, binA_leq, binA_gtr, binA_geq, unA_not, Bool.not_true, Bool.not_false, convA_int, extA_tuple, List.getElem?_toArray, List.getElem?_cons_zero, List.getElem?_cons_succ]
  refine loadA_at w.base w.blk (by rfl) ?_
  refine callA_of (cloneS_spec w.vs.sl (by omega)) fun r h2 ⟨T, g, s⟩ f2 => ?_
  obtain ⟨a, c, hr⟩ := g.slice
  simp only [retA_iff, oneOf_one]
  exact ⟨by rw [hr]; simp, T, by rw [slotsFrom_length]; exact g, s⟩
/-- Where the last slot ends, whatever the image is. -/
theorem pend_raw {cs : List (List UInt8)} {x0 x1 x2 x3 xs x5 x6 x7 x8 : Value} {B : List Nat} (hB : w0.heap.size ≤ p) (hb : h.blk p = some [x0, x1, x2, x3, xs, x5, x6, x7, x8]) (vs : GV w0 h 2 xs cs.length (slotC (slotsFrom 16 cs)) B) (hend : endOf cs ≤ 1000000000) :
    ACalls prog w0 n_pack_Pack_end [ptr p] h fun v h' => v = .int .i64 (endOf cs) ∧ h' = h := by
  refine ACalls.of_fit (by simp [ptr]) fun f => c_pack_Pack_end (by simp [ptr]) ?_
  simp only [s_pack_Pack_end, ptr, lenSl_slice, lenStr_string, str_size, fpureA_some, fnilA_ptr, faddA_ptr, addr_add, Nat.zero_add, Nat.add_zero, fpureQ_k, fpureQ_nilA, fpureQ_addA, fpureQ_pureA, fpureQ_guardA, fpureQ_idxSlA, fpureQ_pickA, freadQ_loadA, freadQ_loadNA, freadQ_b2sA, freadQ_guardA, freadQ_slSlA, freadQ_k, fendA, fallA_one, fstillA_nil, fguardA_tt, fguardA_ff, fguardA_tf, fguardA_ft, fguardA_undef, fpickA_true, fpickA_false, fcondA_true, fcondA_false, binA_add, binA_sub, binA_mul, binA_eql, binA_neq, binA_lss, binA_leq, binA_gtr, binA_geq, unA_not, Bool.not_true, Bool.not_false, convA_int, extA_tuple, List.getElem?_toArray, List.getElem?_cons_zero, List.getElem?_cons_succ]
  refine loadA_at hB hb (by rfl) ?_
  obtain ⟨a, c, hx⟩ := vs.slice
  have hl : lenSl xs = some (.int .i64 cs.length) := by rw [hx]; rfl
  simp only [hl, lenSl_slice, lenStr_string, str_size, fpureA_some, fnilA_ptr, faddA_ptr, addr_add, Nat.zero_add, Nat.add_zero, fpureQ_k, fpureQ_nilA, fpureQ_addA, fpureQ_pureA, fpureQ_guardA, fpureQ_idxSlA, fpureQ_pickA, freadQ_loadA, freadQ_loadNA, freadQ_b2sA, freadQ_guardA, freadQ_slSlA, freadQ_k, fendA, fallA_one, fstillA_nil, fguardA_tt, fguardA_ff, fguardA_tf, fguardA_ft, fguardA_undef, fpickA_true, fpickA_false, fcondA_true, fcondA_false, binA_add, binA_sub, binA_mul, binA_eql, binA_neq, binA_lss, binA_leq, binA_gtr, binA_geq, unA_not, Bool.not_true, Bool.not_false, convA_int, extA_tuple, List.getElem?_toArray, List.getElem?_cons_zero, List.getElem?_cons_succ]
  rcases List.eq_nil_or_concat cs with he | ⟨ds, d, he⟩
  · have c1 : decide ((0 : Int) < (cs.length : Int)) = false := decide_eq_false (by rw [he]; simp)
    simp only [c1, lenSl_slice, lenStr_string, str_size, fpureA_some, fnilA_ptr, faddA_ptr, addr_add, Nat.zero_add, Nat.add_zero, fpureQ_k, fpureQ_nilA, fpureQ_addA, fpureQ_pureA, fpureQ_guardA, fpureQ_idxSlA, fpureQ_pickA, freadQ_loadA, freadQ_loadNA, freadQ_b2sA, freadQ_guardA, freadQ_slSlA, freadQ_k, fendA, fallA_one, fstillA_nil, fguardA_tt, fguardA_ff, fguardA_tf, fguardA_ft, fguardA_undef, fpickA_true, fpickA_false, fcondA_true, fcondA_false, binA_add, binA_sub, binA_mul, binA_eql, binA_neq, binA_lss, binA_leq, binA_gtr, binA_geq, unA_not, Bool.not_true, Bool.not_false, convA_int, extA_tuple, List.getElem?_toArray, List.getElem?_cons_zero, List.getElem?_cons_succ, retA_iff, oneOf_one, he]
    simp [endOf]
  · rw [List.concat_eq_append] at he
    have hlen : cs.length = ds.length + 1 := by rw [he]; simp
    have hle := chunks_le (cs := cs)
    have hend' : endOf cs = endOf ds + 8 + d.length := by rw [he, endOf_snoc]
    have c1 : decide ((0 : Int) < (cs.length : Int)) = true := decide_eq_true (by omega)
    have e1 : IntKind.i64.wrap ((cs.length : Int) - 1) = (ds.length : Int) := by rw [IntWalk.i64_in _ (by omega)]; omega
    have hg : (slotsFrom 16 cs)[ds.length]? = some (endOf ds + 8, d.length) := by
      rw [he, slotsFrom_snoc, List.getElem?_append_right (by simp)]; simp
    obtain ⟨g1, g2⟩ := slotC_get hg
    have e2 : IntKind.i64.wrap (((endOf ds + 8 : Nat) : Int) + (d.length : Int)) = (endOf cs : Int) := by rw [IntWalk.i64_in _ (by omega)]; omega
    simp only [c1, lenSl_slice, lenStr_string, str_size, fpureA_some, fnilA_ptr, faddA_ptr, addr_add, Nat.zero_add, Nat.add_zero, fpureQ_k, fpureQ_nilA, fpureQ_addA, fpureQ_pureA, fpureQ_guardA, fpureQ_idxSlA, fpureQ_pickA, freadQ_loadA, freadQ_loadNA, freadQ_b2sA, freadQ_guardA, freadQ_slSlA, freadQ_k, fendA, fallA_one, fstillA_nil, fguardA_tt, fguardA_ff, fguardA_tf, fguardA_ft, fguardA_undef, fpickA_true, fpickA_false, fcondA_true, fcondA_false, binA_add, binA_sub, binA_mul, binA_eql, binA_neq, binA_lss, binA_leq, binA_gtr, binA_geq, unA_not, Bool.not_true, Bool.not_false, convA_int, extA_tuple, List.getElem?_toArray, List.getElem?_cons_zero, List.getElem?_cons_succ, e1]
    refine loadA_at hB hb (by rfl) ?_
    refine vs.idx (by omega) fun q hq hB' hbq => ?_
    simp only [lenSl_slice, lenStr_string, str_size, fpureA_some, fnilA_ptr, faddA_ptr, addr_add, Nat.zero_add, Nat.add_zero, fpureQ_k, fpureQ_nilA, fpureQ_addA, fpureQ_pureA, fpureQ_guardA, fpureQ_idxSlA, fpureQ_pickA, freadQ_loadA, freadQ_loadNA, freadQ_b2sA, freadQ_guardA, freadQ_slSlA, freadQ_k, fendA, fallA_one, fstillA_nil, fguardA_tt, fguardA_ff, fguardA_tf, fguardA_ft, fguardA_undef, fpickA_true, fpickA_false, fcondA_true, fcondA_false, binA_add, binA_sub, binA_mul, binA_eql, binA_neq, binA_lss, binA_leq, binA_gtr, binA_geq, unA_not, Bool.not_true, Bool.not_false, convA_int, extA_tuple, List.getElem?_toArray, List.getElem?_cons_zero, List.getElem?_cons_succ]
    refine loadA_at hB' hbq g1 ?_
    refine loadA_at hB hb (by rfl) ?_
    refine vs.idx (by omega) fun q' hq' hB'' hbq' => ?_
    simp only [lenSl_slice, lenStr_string, str_size, fpureA_some, fnilA_ptr, faddA_ptr, addr_add, Nat.zero_add, Nat.add_zero, fpureQ_k, fpureQ_nilA, fpureQ_addA, fpureQ_pureA, fpureQ_guardA, fpureQ_idxSlA, fpureQ_pickA, freadQ_loadA, freadQ_loadNA, freadQ_b2sA, freadQ_guardA, freadQ_slSlA, freadQ_k, fendA, fallA_one, fstillA_nil, fguardA_tt, fguardA_ff, fguardA_tf, fguardA_ft, fguardA_undef, fpickA_true, fpickA_false, fcondA_true, fcondA_false, binA_add, binA_sub, binA_mul, binA_eql, binA_neq, binA_lss, binA_leq, binA_gtr, binA_geq, unA_not, Bool.not_true, Bool.not_false, convA_int, extA_tuple, List.getElem?_toArray, List.getElem?_cons_zero, List.getElem?_cons_succ]
    refine loadA_at hB'' hbq' g2 ?_
    simp only [lenSl_slice, lenStr_string, str_size, fpureA_some, fnilA_ptr, faddA_ptr, addr_add, Nat.zero_add, Nat.add_zero, fpureQ_k, fpureQ_nilA, fpureQ_addA, fpureQ_pureA, fpureQ_guardA, fpureQ_idxSlA, fpureQ_pickA, freadQ_loadA, freadQ_loadNA, freadQ_b2sA, freadQ_guardA, freadQ_slSlA, freadQ_k, fendA, fallA_one, fstillA_nil, fguardA_tt, fguardA_ff, fguardA_tf, fguardA_ft, fguardA_undef, fpickA_true, fpickA_false, fcondA_true, fcondA_false, binA_add, binA_sub, binA_mul, binA_eql, binA_neq, binA_lss, binA_leq, binA_gtr, binA_geq, unA_not, Bool.not_true, Bool.not_false, convA_int, extA_tuple, List.getElem?_toArray, List.getElem?_cons_zero, List.getElem?_cons_succ, e2, retA_iff, oneOf_one]
    simp
/-! ### Seal -/
def PS.seal (st : PS) : Int × PS := if st.shut then (6, st) else (0, { st with shut := true })
theorem PS.Ok.seal {st : PS} (o : st.Ok) : st.seal.2.Ok := by
  unfold PS.seal
  split
  · exact o
  · rename_i h
    exact ⟨o.size, o.count, o.id, o.room, o.ne, o.taken, fun hc => absurd (o.closed hc).1 h, o.last⟩
theorem image_parts (st : PS) (o : st.Ok) : st.image.take (st.bytes - 16) = bodyB st.id st.count st.chunks ++ List.replicate (st.bytes - 16 - endOf st.chunks) 0 ∧ st.image.drop (st.bytes - 16) = st.foot := by
  have h1 := bodyB_length st.id st.count st.chunks
  have h2 := o.room
  have hl : (bodyB st.id st.count st.chunks ++ List.replicate (st.bytes - 16 - endOf st.chunks) (0 : UInt8)).length = st.bytes - 16 := by simp [h1]; omega
  exact ⟨by rw [PS.image, List.take_left' hl], by rw [PS.image, List.drop_left' hl]⟩
theorem image_seal (st : PS) (o : st.Ok) : st.image.take (st.bytes - 16) ++ mark16 dfot st.chunks.length (endOf st.chunks) ++ st.image.drop (st.bytes - 16 + (mark16 dfot st.chunks.length (endOf st.chunks)).length) = ({ st with shut := true } : PS).image := by
  have h2 := o.room
  have hi := o.image
  have hm : (mark16 dfot st.chunks.length (endOf st.chunks)).length = 16 := mark16_length rfl _ _
  rw [(image_parts st o).1, hm, List.drop_eq_nil_of_le (by omega), List.append_nil]
  rfl
/-- The container's cells with another image. -/
theorem Pk1.reimage {xi xs xt : Value} {A B C : List Nat} {h' : Hp} (w : Pk1 w0 h p st xi xs xt A B C) (st' : PS) (hb : h'.blk p = some (pkC st' xi xs xt)) (hc : st'.chunks = st.chunks) (hl : st'.last = st.last) (hn : p < h'.next)
    (vi : GV w0 h' 1 xi st'.image.length (bvs st'.image) A) (vs : GV w0 h' 2 xs st.chunks.length (slotC (slotsFrom 16 st.chunks)) B) (vt : LastV w0 h' xt st.last C) : Pk1 w0 h' p st' xi xs xt A B C :=
  ⟨hb, w.base, hn, vi, by rw [hc]; exact vs, by rw [hl]; exact vt, w.sep⟩
theorem pSeal_spec (w : Pk w0 h p st S) (o : st.Ok) : ACalls prog w0 n_pack_Pack_Seal [ptr p] h fun r h' => r = .int .i64 st.seal.1 ∧ Pk w0 h' p st.seal.2 S ∧ Step h h' S S := by
  refine ACalls.of_fit (by simp [ptr]) fun f => c_pack_Pack_Seal (by simp [ptr]) ?_
  refine callA_of (pmade_spec w o) fun _ h1 ⟨e, e1⟩ f1 => ?_
  subst e e1
  have w' := w
  obtain ⟨xi, xs, xt, A, B, C, w, hS⟩ := w
  have hby := o.bytes
  have hi := o.image
  have hr := o.room
  simp only [ptr, lenSl_slice, lenStr_string, str_size, fpureA_some, fnilA_ptr, faddA_ptr, addr_add, Nat.zero_add, Nat.add_zero, fpureQ_k, fpureQ_nilA, fpureQ_addA, fpureQ_pureA, fpureQ_guardA, fpureQ_idxSlA, fpureQ_pickA, freadQ_loadA, freadQ_loadNA, freadQ_b2sA, freadQ_guardA, freadQ_slSlA, freadQ_k, fendA, fallA_one, fstillA_nil, fguardA_tt, fguardA_ff, fguardA_tf, fguardA_ft, fguardA_undef, fpickA_true, fpickA_false, fcondA_true, fcondA_false, binA_add, binA_sub, binA_mul, binA_eql, binA_neq, binA_lss, binA_leq, binA_gtr, binA_geq, unA_not, Bool.not_true, Bool.not_false, convA_int, extA_tuple, List.getElem?_toArray, List.getElem?_cons_zero, List.getElem?_cons_succ]
  refine loadA_at w.base w.blk (by rfl) ?_
  cases hs : st.shut with
  | true =>
    have e : st.seal = (6, st) := by unfold PS.seal; rw [if_pos hs]
    simp only [lenSl_slice, lenStr_string, str_size, fpureA_some, fnilA_ptr, faddA_ptr, addr_add, Nat.zero_add, Nat.add_zero, fpureQ_k, fpureQ_nilA, fpureQ_addA, fpureQ_pureA, fpureQ_guardA, fpureQ_idxSlA, fpureQ_pickA, freadQ_loadA, freadQ_loadNA, freadQ_b2sA, freadQ_guardA, freadQ_slSlA, freadQ_k, fendA, fallA_one, fstillA_nil, fguardA_tt, fguardA_ff, fguardA_tf, fguardA_ft, fguardA_undef, fpickA_true, fpickA_false, fcondA_true, fcondA_false, binA_add, binA_sub, binA_mul, binA_eql, binA_neq, binA_lss, binA_leq, binA_gtr, binA_geq, unA_not, Bool.not_true, Bool.not_false, convA_int, extA_tuple, List.getElem?_toArray, List.getElem?_cons_zero, List.getElem?_cons_succ, retA_iff, oneOf_one, e]
    exact ⟨by simp, by trivial, w', w'.refl⟩
  | false =>
    have e : st.seal = (0, { st with shut := true }) := by unfold PS.seal; rw [if_neg (by simp [hs])]
    have ok2 : ({ st with shut := true } : PS).Ok := by have := o.seal; rw [e] at this; exact this
    simp only [lenSl_slice, lenStr_string, str_size, fpureA_some, fnilA_ptr, faddA_ptr, addr_add, Nat.zero_add, Nat.add_zero, fpureQ_k, fpureQ_nilA, fpureQ_addA, fpureQ_pureA, fpureQ_guardA, fpureQ_idxSlA, fpureQ_pickA, freadQ_loadA, freadQ_loadNA, freadQ_b2sA, freadQ_guardA, freadQ_slSlA, freadQ_k, fendA, fallA_one, fstillA_nil, fguardA_tt, fguardA_ff, fguardA_tf, fguardA_ft, fguardA_undef, fpickA_true, fpickA_false, fcondA_true, fcondA_false, binA_add, binA_sub, binA_mul, binA_eql, binA_neq, binA_lss, binA_leq, binA_gtr, binA_geq, unA_not, Bool.not_true, Bool.not_false, convA_int, extA_tuple, List.getElem?_toArray, List.getElem?_cons_zero, List.getElem?_cons_succ]
    refine storeA_at w.base w.blk (by simp [pkC]) rfl ?_
    have s2 : Step h1 (h1.put p ((pkC st xi xs xt).set 5 (.bool true))) [p] [p] := (Step.refl h1 [p] (by simpa using w.lt)).put (by simp) _
    have hb2 : (h1.put p ((pkC st xi xs xt).set 5 (.bool true))).blk p = some (pkC { st with shut := true } xi xs xt) := by simp [pkC]
    have hn2 : p < (h1.put p ((pkC st xi xs xt).set 5 (.bool true))).next := by simpa using w.lt
    have fA : ∀ b, b ∈ A → b ∉ [p] := fun b hb he => by simp at he; subst he; exact w.sep.pa hb
    have fB : ∀ b, b ∈ B → b ∉ [p] := fun b hb he => by simp at he; subst he; exact w.sep.pb hb
    have fC : ∀ b, b ∈ C → b ∉ [p] := fun b hb he => by simp at he; subst he; exact w.sep.pc hb
    have vi2 := w.vi.frame s2 fA
    have vs2 := w.vs.frame s2 fB
    have vt2 := w.vt.frame s2 fC
    generalize h1.put p ((pkC st xi xs xt).set 5 (.bool true)) = h2 at s2 hb2 hn2 vi2 vs2 vt2 ⊢
    have e1 : IntKind.i64.wrap ((st.image.length : Int) - 16) = ((st.bytes - 16 : Nat) : Int) := by rw [hi, IntWalk.i64_in _ (by omega)]; omega
    obtain ⟨a, c, hx⟩ := vi2.slice
    have hl : lenSl xi = some (.int .i64 st.image.length) := by rw [hx]; rfl
    obtain ⟨a', c', hx'⟩ := vs2.slice
    have hl' : lenSl xs = some (.int .i64 st.chunks.length) := by rw [hx']; rfl
    have hcl := chunks_le (cs := st.chunks)
    have e2 : IntKind.u32.wrap (st.chunks.length : Int) = (st.chunks.length : Int) := IntWalk.u32_in _ (by omega)
    have e3 : IntKind.u32.wrap (endOf st.chunks : Int) = (endOf st.chunks : Int) := IntWalk.u32_in _ (by omega)
    refine loadA_at w.base hb2 (by rfl) ?_
    refine loadA_at w.base hb2 (by rfl) ?_
    simp only [hl, lenSl_slice, lenStr_string, str_size, fpureA_some, fnilA_ptr, faddA_ptr, addr_add, Nat.zero_add, Nat.add_zero, fpureQ_k, fpureQ_nilA, fpureQ_addA, fpureQ_pureA, fpureQ_guardA, fpureQ_idxSlA, fpureQ_pickA, freadQ_loadA, freadQ_loadNA, freadQ_b2sA, freadQ_guardA, freadQ_slSlA, freadQ_k, fendA, fallA_one, fstillA_nil, fguardA_tt, fguardA_ff, fguardA_tf, fguardA_ft, fguardA_undef, fpickA_true, fpickA_false, fcondA_true, fcondA_false, binA_add, binA_sub, binA_mul, binA_eql, binA_neq, binA_lss, binA_leq, binA_gtr, binA_geq, unA_not, Bool.not_true, Bool.not_false, convA_int, extA_tuple, List.getElem?_toArray, List.getElem?_cons_zero, List.getElem?_cons_succ, e1]
    have bi2 : Bs w0 h2 xi st.image := vi2.sl
    refine bi2.cut (lo := st.bytes - 16) (hi := st.image.length) boundA_nat rfl (by omega) (Nat.le_refl _) fun x3 hx3 _ _ => ?_
    refine loadA_at w.base hb2 (by rfl) ?_
    simp only [hl', lenSl_slice, lenStr_string, str_size, fpureA_some, fnilA_ptr, faddA_ptr, addr_add, Nat.zero_add, Nat.add_zero, fpureQ_k, fpureQ_nilA, fpureQ_addA, fpureQ_pureA, fpureQ_guardA, fpureQ_idxSlA, fpureQ_pickA, freadQ_loadA, freadQ_loadNA, freadQ_b2sA, freadQ_guardA, freadQ_slSlA, freadQ_k, fendA, fallA_one, fstillA_nil, fguardA_tt, fguardA_ff, fguardA_tf, fguardA_ft, fguardA_undef, fpickA_true, fpickA_false, fcondA_true, fcondA_false, binA_add, binA_sub, binA_mul, binA_eql, binA_neq, binA_lss, binA_leq, binA_gtr, binA_geq, unA_not, Bool.not_true, Bool.not_false, convA_int, extA_tuple, List.getElem?_toArray, List.getElem?_cons_zero, List.getElem?_cons_succ, e2]
    refine callA_of (pend_raw w.base hb2 vs2 (by omega)) fun _ h3 ⟨e', e3'⟩ f3 => ?_
    subst e' e3'
    simp only [lenSl_slice, lenStr_string, str_size, fpureA_some, fnilA_ptr, faddA_ptr, addr_add, Nat.zero_add, Nat.add_zero, fpureQ_k, fpureQ_nilA, fpureQ_addA, fpureQ_pureA, fpureQ_guardA, fpureQ_idxSlA, fpureQ_pickA, freadQ_loadA, freadQ_loadNA, freadQ_b2sA, freadQ_guardA, freadQ_slSlA, freadQ_k, fendA, fallA_one, fstillA_nil, fguardA_tt, fguardA_ff, fguardA_tf, fguardA_ft, fguardA_undef, fpickA_true, fpickA_false, fcondA_true, fcondA_false, binA_add, binA_sub, binA_mul, binA_eql, binA_neq, binA_lss, binA_leq, binA_gtr, binA_geq, unA_not, Bool.not_true, Bool.not_false, convA_int, extA_tuple, List.getElem?_toArray, List.getElem?_cons_zero, List.getElem?_cons_succ, stillA_iff, allA_cons, allA_one, sameQ_loadA, sameQ_slSlA, e3]
    have cutOk : ∀ {h' : Hp}, GV w0 h' 1 xi st.image.length (bvs st.image) A → slSlA 1 xi (some (.int .i64 ((st.bytes - 16 : Nat) : Int))) none none (fun v' _ => v' = x3) h' := fun g =>
      Bs.cut (g.sl : Bs w0 _ xi st.image) (lo := st.bytes - 16) (hi := st.image.length) boundA_nat rfl (by omega) (Nat.le_refl _) fun _ e _ _ => e.trans hx3.symm
    refine ⟨⟨loadA_at w.base hb2 (by rfl) rfl, cutOk vi2, loadA_at w.base hb2 (by rfl) rfl, loadA_at w.base hb2 (by rfl) rfl⟩, ?_⟩
    refine callA_of (marked_spec (name := dfot) rfl st.chunks.length (endOf st.chunks)) fun _ h4 ⟨e', s4⟩ f4 => ?_
    subst e'
    have hb4 := (s4.keep p hn2 (by simp)).1.trans hb2
    have vi4 := vi2.frame s4 (by simp)
    simp only [stillA_iff, allA_cons, allA_one, sameQ_loadA, sameQ_slSlA]
    refine ⟨⟨cutOk vi4, loadA_at w.base hb4 (by rfl) rfl, loadA_at w.base hb4 (by rfl) rfl⟩, ?_⟩
    rw [hx3]
    refine vi4.copy (m := mark16 dfot st.chunks.length (endOf st.chunks)) (by omega) (Nat.le_refl _) (by rw [mark16_length rfl]; omega) (by simp) (by have := src_string (h := h4) w0.heap.size (str (mark16 dfot st.chunks.length (endOf st.chunks))); simpa using this) fun r5 h5 _ vi5 s5 => ?_
    rw [image_seal st o] at vi5
    simp only [lenSl_slice, lenStr_string, str_size, fpureA_some, fnilA_ptr, faddA_ptr, addr_add, Nat.zero_add, Nat.add_zero, fpureQ_k, fpureQ_nilA, fpureQ_addA, fpureQ_pureA, fpureQ_guardA, fpureQ_idxSlA, fpureQ_pickA, freadQ_loadA, freadQ_loadNA, freadQ_b2sA, freadQ_guardA, freadQ_slSlA, freadQ_k, fendA, fallA_one, fstillA_nil, fguardA_tt, fguardA_ff, fguardA_tf, fguardA_ft, fguardA_undef, fpickA_true, fpickA_false, fcondA_true, fcondA_false, binA_add, binA_sub, binA_mul, binA_eql, binA_neq, binA_lss, binA_leq, binA_gtr, binA_geq, unA_not, Bool.not_true, Bool.not_false, convA_int, extA_tuple, List.getElem?_toArray, List.getElem?_cons_zero, List.getElem?_cons_succ, retA_iff, oneOf_one]
    rw [e]
    have hn4 : p < h4.next := by have := s4.next; omega
    have hb5 := (s5.keep p hn4 w.sep.pa).1.trans hb4
    have hbA : ∀ b, b ∈ B → b ∉ A := fun b hb he => w.sep.ab b he hb
    have hcA : ∀ b, b ∈ C → b ∉ A := fun b hb he => w.sep.ac b he hb
    refine ⟨by simp, by trivial, ⟨xi, xs, xt, A, B, C, w.reimage { st with shut := true } hb5 rfl rfl (by have := s5.next; omega) (by rw [ok2.image]; rw [hi] at vi5; exact vi5) ((vs2.frame s4 (by simp)).frame s5 hbA) ((vt2.frame s4 (by simp)).frame s5 hcA), hS⟩, ?_⟩
    have hlt : ∀ b, b ∈ S → b < h1.next := fun b hb => (w'.lts b hb).2
    have t2 : Step h1 h3 S S := s2.wide (fun b hb => by simp at hb; subst hb; rw [hS]; simp) fun b hb => .inr ⟨hb, hlt b hb⟩
    have t4 : Step h1 h4 S S := t2.trans (s4.idle S fun b hb => (t2.own b hb).1)
    exact t4.trans (s5.wide (fun b hb => by rw [hS]; simp [hb]) fun b hb => .inr ⟨hb, (t4.own b hb).1⟩)
/-! ### Back -/
def PS.back (st : PS) (m : Int) : Int × PS := if m < 0 ∨ (st.chunks.length : Int) < m ∨ m < st.taken then (1, st) else (0, { st with chunks := st.chunks.take m.toNat, shut := st.closed })
theorem PS.Ok.back {st : PS} (o : st.Ok) (m : Int) : (st.back m).2.Ok := by
  unfold PS.back
  split
  · exact o
  · rename_i h
    simp only [not_or, Int.not_lt] at h
    have h1 := o.taken
    have h2 := endOf_take st.chunks m.toNat
    have h3 := o.room
    refine ⟨o.size, o.count, o.id, by show endOf (st.chunks.take m.toNat) + 16 ≤ st.bytes; omega, fun c hc => o.ne c (List.mem_of_mem_take hc), by simp; omega, fun hc => ⟨hc, ?_⟩, o.last⟩
    have := (o.closed hc).2
    simp
    omega
/-- What the image becomes: the foot as it is to be, the rest cleared. -/
theorem image_back {st : PS} (o : st.Ok) {m : Nat} (hm : m ≤ st.chunks.length) (ht : st.taken ≤ m) {img : List UInt8} (h1 : img.take (st.bytes - 16) = st.image.take (st.bytes - 16)) (h2 : img.drop (st.bytes - 16) = if st.closed then st.foot else List.replicate 16 0) (hl : img.length = st.bytes) :
    img.take (endOf (st.chunks.take m)) ++ List.replicate (st.bytes - 16 - endOf (st.chunks.take m)) 0 ++ img.drop (st.bytes - 16) = ({ st with chunks := st.chunks.take m, shut := st.closed } : PS).image := by
  have hr := o.room
  have he := endOf_take st.chunks m
  have hb : img.take (endOf (st.chunks.take m)) = bodyB st.id st.count (st.chunks.take m) := by
    have e1 : img.take (endOf (st.chunks.take m)) = (img.take (st.bytes - 16)).take (endOf (st.chunks.take m)) := by rw [List.take_take, Nat.min_eq_left (by omega)]
    have e2 : bodyB st.id st.count st.chunks = bodyB st.id st.count (st.chunks.take m) ++ (st.chunks.drop m).flatMap slotB := by
      simp only [bodyB, List.append_assoc]
      rw [← List.flatMap_append, List.take_append_drop]
    rw [e1, h1, (image_parts st o).1, e2, List.append_assoc, List.take_left' (bodyB_length _ _ _)]
  rw [hb, h2]
  simp only [PS.image, PS.foot]
  congr 1
  cases hc : st.closed with
  | false => simp
  | true =>
    obtain ⟨q1, q2⟩ := o.closed hc
    have : st.chunks.take m = st.chunks := List.take_of_length_le (by omega)
    simp [this, q1]
theorem pBack_spec (w : Pk w0 h p st S) (o : st.Ok) (m : Int) (hm : -9223372036854775808 ≤ m ∧ m ≤ 9223372036854775807) : ACalls prog w0 n_pack_Pack_Back [ptr p, .int .i64 m] h fun r h' => ∃ S', r = .int .i64 (st.back m).1 ∧ Pk w0 h' p (st.back m).2 S' ∧ Step h h' S S' := by
  refine ACalls.of_fit (by simp [ptr]) fun f => c_pack_Pack_Back (by simp [ptr]) ?_
  refine callA_of (pmade_spec w o) fun _ h1 ⟨e, e1⟩ f1 => ?_
  subst e e1
  have w' := w
  obtain ⟨xi, xs, xt, A, B, C, w, hS⟩ := w
  have hby := o.bytes
  have hi := o.image
  have hr := o.room
  have hcl := chunks_le (cs := st.chunks)
  have bad : (m < 0 ∨ (st.chunks.length : Int) < m ∨ m < st.taken) → retA [.int .i64 1] (fun r h' => ∃ S', r = .int .i64 (st.back m).1 ∧ Pk w0 h' p (st.back m).2 S' ∧ Step h1 h' S S') h1 := by
    intro hc
    have e : st.back m = (1, st) := by unfold PS.back; rw [if_pos hc]
    simp only [retA_iff, oneOf_one, e]
    exact ⟨by simp, S, by trivial, w', w'.refl⟩
  obtain ⟨a', c', hx'⟩ := w.vs.slice
  have hl' : lenSl xs = some (.int .i64 st.chunks.length) := by rw [hx']; rfl
  simp only [ptr, lenSl_slice, lenStr_string, str_size, fpureA_some, fnilA_ptr, faddA_ptr, addr_add, Nat.zero_add, Nat.add_zero, fpureQ_k, fpureQ_nilA, fpureQ_addA, fpureQ_pureA, fpureQ_guardA, fpureQ_idxSlA, fpureQ_pickA, freadQ_loadA, freadQ_loadNA, freadQ_b2sA, freadQ_guardA, freadQ_slSlA, freadQ_k, fendA, fallA_one, fstillA_nil, fguardA_tt, fguardA_ff, fguardA_tf, fguardA_ft, fguardA_undef, fpickA_true, fpickA_false, fcondA_true, fcondA_false, binA_add, binA_sub, binA_mul, binA_eql, binA_neq, binA_lss, binA_leq, binA_gtr, binA_geq, unA_not, Bool.not_true, Bool.not_false, convA_int, extA_tuple, List.getElem?_toArray, List.getElem?_cons_zero, List.getElem?_cons_succ]
  by_cases h1' : m < 0
  · have c1 : decide (m < 0) = true := decide_eq_true h1'
    simp only [c1, lenSl_slice, lenStr_string, str_size, fpureA_some, fnilA_ptr, faddA_ptr, addr_add, Nat.zero_add, Nat.add_zero, fpureQ_k, fpureQ_nilA, fpureQ_addA, fpureQ_pureA, fpureQ_guardA, fpureQ_idxSlA, fpureQ_pickA, freadQ_loadA, freadQ_loadNA, freadQ_b2sA, freadQ_guardA, freadQ_slSlA, freadQ_k, fendA, fallA_one, fstillA_nil, fguardA_tt, fguardA_ff, fguardA_tf, fguardA_ft, fguardA_undef, fpickA_true, fpickA_false, fcondA_true, fcondA_false, binA_add, binA_sub, binA_mul, binA_eql, binA_neq, binA_lss, binA_leq, binA_gtr, binA_geq, unA_not, Bool.not_true, Bool.not_false, convA_int, extA_tuple, List.getElem?_toArray, List.getElem?_cons_zero, List.getElem?_cons_succ]
    exact bad (.inl h1')
  have c1 : decide (m < 0) = false := decide_eq_false h1'
  simp only [c1, lenSl_slice, lenStr_string, str_size, fpureA_some, fnilA_ptr, faddA_ptr, addr_add, Nat.zero_add, Nat.add_zero, fpureQ_k, fpureQ_nilA, fpureQ_addA, fpureQ_pureA, fpureQ_guardA, fpureQ_idxSlA, fpureQ_pickA, freadQ_loadA, freadQ_loadNA, freadQ_b2sA, freadQ_guardA, freadQ_slSlA, freadQ_k, fendA, fallA_one, fstillA_nil, fguardA_tt, fguardA_ff, fguardA_tf, fguardA_ft, fguardA_undef, fpickA_true, fpickA_false, fcondA_true, fcondA_false, binA_add, binA_sub, binA_mul, binA_eql, binA_neq, binA_lss, binA_leq, binA_gtr, binA_geq, unA_not, Bool.not_true, Bool.not_false, convA_int, extA_tuple, List.getElem?_toArray, List.getElem?_cons_zero, List.getElem?_cons_succ]
  refine loadA_at w.base w.blk (by rfl) ?_
  simp only [hl', lenSl_slice, lenStr_string, str_size, fpureA_some, fnilA_ptr, faddA_ptr, addr_add, Nat.zero_add, Nat.add_zero, fpureQ_k, fpureQ_nilA, fpureQ_addA, fpureQ_pureA, fpureQ_guardA, fpureQ_idxSlA, fpureQ_pickA, freadQ_loadA, freadQ_loadNA, freadQ_b2sA, freadQ_guardA, freadQ_slSlA, freadQ_k, fendA, fallA_one, fstillA_nil, fguardA_tt, fguardA_ff, fguardA_tf, fguardA_ft, fguardA_undef, fpickA_true, fpickA_false, fcondA_true, fcondA_false, binA_add, binA_sub, binA_mul, binA_eql, binA_neq, binA_lss, binA_leq, binA_gtr, binA_geq, unA_not, Bool.not_true, Bool.not_false, convA_int, extA_tuple, List.getElem?_toArray, List.getElem?_cons_zero, List.getElem?_cons_succ]
  by_cases h2' : (st.chunks.length : Int) < m
  · have c2 : decide ((st.chunks.length : Int) < m) = true := decide_eq_true h2'
    simp only [c2, lenSl_slice, lenStr_string, str_size, fpureA_some, fnilA_ptr, faddA_ptr, addr_add, Nat.zero_add, Nat.add_zero, fpureQ_k, fpureQ_nilA, fpureQ_addA, fpureQ_pureA, fpureQ_guardA, fpureQ_idxSlA, fpureQ_pickA, freadQ_loadA, freadQ_loadNA, freadQ_b2sA, freadQ_guardA, freadQ_slSlA, freadQ_k, fendA, fallA_one, fstillA_nil, fguardA_tt, fguardA_ff, fguardA_tf, fguardA_ft, fguardA_undef, fpickA_true, fpickA_false, fcondA_true, fcondA_false, binA_add, binA_sub, binA_mul, binA_eql, binA_neq, binA_lss, binA_leq, binA_gtr, binA_geq, unA_not, Bool.not_true, Bool.not_false, convA_int, extA_tuple, List.getElem?_toArray, List.getElem?_cons_zero, List.getElem?_cons_succ]
    exact bad (.inr (.inl h2'))
  have c2 : decide ((st.chunks.length : Int) < m) = false := decide_eq_false h2'
  simp only [c2, lenSl_slice, lenStr_string, str_size, fpureA_some, fnilA_ptr, faddA_ptr, addr_add, Nat.zero_add, Nat.add_zero, fpureQ_k, fpureQ_nilA, fpureQ_addA, fpureQ_pureA, fpureQ_guardA, fpureQ_idxSlA, fpureQ_pickA, freadQ_loadA, freadQ_loadNA, freadQ_b2sA, freadQ_guardA, freadQ_slSlA, freadQ_k, fendA, fallA_one, fstillA_nil, fguardA_tt, fguardA_ff, fguardA_tf, fguardA_ft, fguardA_undef, fpickA_true, fpickA_false, fcondA_true, fcondA_false, binA_add, binA_sub, binA_mul, binA_eql, binA_neq, binA_lss, binA_leq, binA_gtr, binA_geq, unA_not, Bool.not_true, Bool.not_false, convA_int, extA_tuple, List.getElem?_toArray, List.getElem?_cons_zero, List.getElem?_cons_succ]
  refine loadA_at w.base w.blk (by rfl) ?_
  simp only [lenSl_slice, lenStr_string, str_size, fpureA_some, fnilA_ptr, faddA_ptr, addr_add, Nat.zero_add, Nat.add_zero, fpureQ_k, fpureQ_nilA, fpureQ_addA, fpureQ_pureA, fpureQ_guardA, fpureQ_idxSlA, fpureQ_pickA, freadQ_loadA, freadQ_loadNA, freadQ_b2sA, freadQ_guardA, freadQ_slSlA, freadQ_k, fendA, fallA_one, fstillA_nil, fguardA_tt, fguardA_ff, fguardA_tf, fguardA_ft, fguardA_undef, fpickA_true, fpickA_false, fcondA_true, fcondA_false, binA_add, binA_sub, binA_mul, binA_eql, binA_neq, binA_lss, binA_leq, binA_gtr, binA_geq, unA_not, Bool.not_true, Bool.not_false, convA_int, extA_tuple, List.getElem?_toArray, List.getElem?_cons_zero, List.getElem?_cons_succ]
  by_cases h3' : m < (st.taken : Int)
  · have c3 : decide (m < (st.taken : Int)) = true := decide_eq_true h3'
    simp only [c3, lenSl_slice, lenStr_string, str_size, fpureA_some, fnilA_ptr, faddA_ptr, addr_add, Nat.zero_add, Nat.add_zero, fpureQ_k, fpureQ_nilA, fpureQ_addA, fpureQ_pureA, fpureQ_guardA, fpureQ_idxSlA, fpureQ_pickA, freadQ_loadA, freadQ_loadNA, freadQ_b2sA, freadQ_guardA, freadQ_slSlA, freadQ_k, fendA, fallA_one, fstillA_nil, fguardA_tt, fguardA_ff, fguardA_tf, fguardA_ft, fguardA_undef, fpickA_true, fpickA_false, fcondA_true, fcondA_false, binA_add, binA_sub, binA_mul, binA_eql, binA_neq, binA_lss, binA_leq, binA_gtr, binA_geq, unA_not, Bool.not_true, Bool.not_false, convA_int, extA_tuple, List.getElem?_toArray, List.getElem?_cons_zero, List.getElem?_cons_succ]
    exact bad (.inr (.inr h3'))
  have c3 : decide (m < (st.taken : Int)) = false := decide_eq_false h3'
  obtain ⟨m, rfl⟩ := Int.eq_ofNat_of_zero_le (show 0 ≤ m by omega)
  have e : st.back m = (0, { st with chunks := st.chunks.take m, shut := st.closed }) := by
    unfold PS.back
    rw [if_neg (by simp only [not_or]; exact ⟨h1', h2', h3'⟩), Int.toNat_natCast]
  have ok2 : ({ st with chunks := st.chunks.take m, shut := st.closed } : PS).Ok := by have := o.back m; rw [e] at this; exact this
  have hml : m ≤ st.chunks.length := by omega
  have hmt : st.taken ≤ m := by omega
  have hend := endOf_take st.chunks m
  simp only [c3, lenSl_slice, lenStr_string, str_size, fpureA_some, fnilA_ptr, faddA_ptr, addr_add, Nat.zero_add, Nat.add_zero, fpureQ_k, fpureQ_nilA, fpureQ_addA, fpureQ_pureA, fpureQ_guardA, fpureQ_idxSlA, fpureQ_pickA, freadQ_loadA, freadQ_loadNA, freadQ_b2sA, freadQ_guardA, freadQ_slSlA, freadQ_k, fendA, fallA_one, fstillA_nil, fguardA_tt, fguardA_ff, fguardA_tf, fguardA_ft, fguardA_undef, fpickA_true, fpickA_false, fcondA_true, fcondA_false, binA_add, binA_sub, binA_mul, binA_eql, binA_neq, binA_lss, binA_leq, binA_gtr, binA_geq, unA_not, Bool.not_true, Bool.not_false, convA_int, extA_tuple, List.getElem?_toArray, List.getElem?_cons_zero, List.getElem?_cons_succ]
  refine loadA_at w.base w.blk (by rfl) ?_
  refine w.vs.sl.cutN (lo := 0) (hi := m) boundA_none boundA_nat (by omega) hml fun x2 _ _ y2 => ?_
  rw [Nat.zero_mul, List.drop_zero, Nat.sub_zero, slotC_take, slotsFrom_take] at y2
  refine callA_of (cloneS_spec y2 (by omega)) fun xs' h2 ⟨B', vs2, s2⟩ f2 => ?_
  have hB' : ∀ b, b ∈ B' → h1.next ≤ b := fun b hb => by rcases (s2.own b hb).2 with g | g; simp at g; exact g
  have hmin : (st.chunks.take m).length = m := by simp; omega
  obtain ⟨a2, c2', hx2⟩ := vs2.slice
  have w2 := w.frame s2 (by simp)
  refine storeA_at w2.base w2.blk (by simp [pkC]) (by rw [hx2]; rfl) ?_
  have hpB' : p ∉ B' := fun e => by have := hB' p e; have := w.lt; omega
  have s3 : Step h2 (h2.put p ((pkC st xi xs xt).set 4 xs')) [p] [p] := (Step.refl h2 [p] (by simpa using w2.lt)).put (by simp) _
  have hb3 : (h2.put p ((pkC st xi xs xt).set 4 xs')).blk p = some (pkC st xi xs' xt) := by simp [pkC]
  have hn3 : p < (h2.put p ((pkC st xi xs xt).set 4 xs')).next := by simpa using w2.lt
  have fA : ∀ b, b ∈ A → b ∉ [p] := fun b hb he => by simp at he; subst he; exact w.sep.pa hb
  have fB : ∀ b, b ∈ B' → b ∉ [p] := fun b hb he => by simp at he; subst he; exact hpB' hb
  have fC : ∀ b, b ∈ C → b ∉ [p] := fun b hb he => by simp at he; subst he; exact w.sep.pc hb
  have vi3 := w2.vi.frame s3 fA
  have vs3 := vs2.frame s3 fB
  have vt3 := w2.vt.frame s3 fC
  have hlt2 : ∀ b, b ∈ p :: (A ++ (B' ++ C)) → b < h2.next := fun b hb => by
    simp only [List.mem_cons, List.mem_append] at hb
    rcases hb with rfl | hb | hb | hb
    · exact w2.lt
    · exact (w2.vi.lt b hb).2
    · exact (vs2.lt b hb).2
    · exact (w2.vt.lt b hb).2
  have t3 : Step h1 (h2.put p ((pkC st xi xs xt).set 4 xs')) S (p :: (A ++ (B' ++ C))) := by
    have q : Step h1 h2 S (p :: (A ++ (B' ++ C))) := s2.wide (by simp) fun b hb => by
      simp only [List.mem_cons, List.mem_append] at hb
      rcases hb with rfl | hb | hb | hb
      · exact .inr ⟨by rw [hS]; simp, w.lt⟩
      · exact .inr ⟨by rw [hS]; simp [hb], (w.vi.lt b hb).2⟩
      · exact .inl hb
      · exact .inr ⟨by rw [hS]; simp [hb], (w.vt.lt b hb).2⟩
    exact q.put (by simp) _
  have sep' : Sep p A B' C := ⟨w.sep.pa, hpB', w.sep.pc, fun b hb he => by have := hB' b he; have := (w.vi.lt b hb).2; omega, w.sep.ac, fun b hb he => by have := hB' b hb; have := (w.vt.lt b he).2; omega⟩
  generalize h2.put p ((pkC st xi xs xt).set 4 xs') = h3 at s3 hb3 hn3 vi3 vs3 vt3 t3 ⊢
  have e1 : IntKind.i64.wrap ((st.image.length : Int) - 16) = ((st.bytes - 16 : Nat) : Int) := by rw [hi, IntWalk.i64_in _ (by omega)]; omega
  obtain ⟨a, c, hx⟩ := vi3.slice
  have hl : lenSl xi = some (.int .i64 st.image.length) := by rw [hx]; rfl
  -- the rest is cleared
  have fin : ∀ {h4 : Hp} {img : List UInt8}, h4.blk p = some (pkC { st with shut := st.closed } xi xs' xt) → p < h4.next → GV w0 h4 1 xi img.length (bvs img) A → img.length = st.bytes → img.take (st.bytes - 16) = st.image.take (st.bytes - 16) → img.drop (st.bytes - 16) = (if st.closed then st.foot else List.replicate 16 0) →
      GV w0 h4 2 xs' m (slotC (slotsFrom 16 (st.chunks.take m))) B' → LastV w0 h4 xt st.last C → Step h1 h4 S (p :: (A ++ (B' ++ C))) →
      loadA w0 (.pointer (some ⟨p, 3, none⟩)) (fun v67 => loadA w0 (.pointer (some ⟨p, 3, none⟩)) fun v73 => pureA (lenSl v73) fun v74 => pureA (binA .sub v74 (.int .i64 16)) fun v75 =>
        callA prog w0 n_pack_Pack_end [.pointer (some ⟨p, 0, none⟩)] fun v69 => stillA [sameQ (loadA w0 (.pointer (some ⟨p, 3, none⟩))) v73, sameQ (loadA w0 (.pointer (some ⟨p, 3, none⟩))) v67] (slSlA 1 v67 (some v69) (some v75) none fun v76 => clearA w0 1 [.int .u8 0] v76 fun _ =>
          retA [.int .i64 0] fun r h' => ∃ S', r = .int .i64 (st.back m).1 ∧ Pk w0 h' p (st.back m).2 S' ∧ Step h1 h' S S')) h4 := by
    intro h4 img hb4 hn4 vi4 hil h5 h6 vs4 vt4 t4
    have hl4 : lenSl xi = some (.int .i64 img.length) := by rw [hx, hil, hi]; rfl
    have e4 : IntKind.i64.wrap ((img.length : Int) - 16) = ((st.bytes - 16 : Nat) : Int) := by rw [hil, IntWalk.i64_in _ (by omega)]; omega
    refine loadA_at w.base hb4 (by rfl) ?_
    refine loadA_at w.base hb4 (by rfl) ?_
    simp only [hl4, lenSl_slice, lenStr_string, str_size, fpureA_some, fnilA_ptr, faddA_ptr, addr_add, Nat.zero_add, Nat.add_zero, fpureQ_k, fpureQ_nilA, fpureQ_addA, fpureQ_pureA, fpureQ_guardA, fpureQ_idxSlA, fpureQ_pickA, freadQ_loadA, freadQ_loadNA, freadQ_b2sA, freadQ_guardA, freadQ_slSlA, freadQ_k, fendA, fallA_one, fstillA_nil, fguardA_tt, fguardA_ff, fguardA_tf, fguardA_ft, fguardA_undef, fpickA_true, fpickA_false, fcondA_true, fcondA_false, binA_add, binA_sub, binA_mul, binA_eql, binA_neq, binA_lss, binA_leq, binA_gtr, binA_geq, unA_not, Bool.not_true, Bool.not_false, convA_int, extA_tuple, List.getElem?_toArray, List.getElem?_cons_zero, List.getElem?_cons_succ, e4]
    refine callA_of (pend_raw (cs := st.chunks.take m) w.base hb4 (by rw [hmin]; exact vs4) (by omega)) fun _ h5' ⟨e', e5'⟩ f5 => ?_
    subst e' e5'
    simp only [lenSl_slice, lenStr_string, str_size, fpureA_some, fnilA_ptr, faddA_ptr, addr_add, Nat.zero_add, Nat.add_zero, fpureQ_k, fpureQ_nilA, fpureQ_addA, fpureQ_pureA, fpureQ_guardA, fpureQ_idxSlA, fpureQ_pickA, freadQ_loadA, freadQ_loadNA, freadQ_b2sA, freadQ_guardA, freadQ_slSlA, freadQ_k, fendA, fallA_one, fstillA_nil, fguardA_tt, fguardA_ff, fguardA_tf, fguardA_ft, fguardA_undef, fpickA_true, fpickA_false, fcondA_true, fcondA_false, binA_add, binA_sub, binA_mul, binA_eql, binA_neq, binA_lss, binA_leq, binA_gtr, binA_geq, unA_not, Bool.not_true, Bool.not_false, convA_int, extA_tuple, List.getElem?_toArray, List.getElem?_cons_zero, List.getElem?_cons_succ, stillA_iff, allA_cons, allA_one, sameQ_loadA]
    refine ⟨⟨loadA_at w.base hb4 (by rfl) rfl, loadA_at w.base hb4 (by rfl) rfl⟩, ?_⟩
    refine Bs.cut (vi4.sl : Bs w0 _ xi img) (lo := endOf (st.chunks.take m)) (hi := st.bytes - 16) boundA_nat boundA_nat (by omega) (by omega) fun x7 hx7 _ _ => ?_
    rw [hx7]
    refine vi4.clear (by omega) (by omega) fun h8 vi8 s8 => ?_
    rw [image_back o hml hmt h5 h6 hil] at vi8
    have hb8 := (s8.keep p hn4 w.sep.pa).1.trans hb4
    simp only [retA_iff, oneOf_one, e]
    refine ⟨by simp, p :: (A ++ (B' ++ C)), by trivial, ⟨xi, xs', xt, A, B', C, ⟨hb8, w.base, by have := s8.next; omega, ?_, ?_, ?_, sep'⟩, rfl⟩, ?_⟩
    · rw [ok2.image]; rw [hil] at vi8; exact vi8
    · show GV w0 h8 2 xs' (st.chunks.take m).length _ B'
      rw [hmin]
      exact vs4.frame s8 fun b hb he => sep'.ab b he hb
    · exact vt4.frame s8 fun b hb he => sep'.ac b he hb
    · exact t4.trans (s8.wide (fun b hb => by simp [hb]) fun b hb => .inr ⟨hb, (t4.own b hb).1⟩)
  refine loadA_at w.base hb3 (by rfl) ?_
  cases hs : st.shut with
  | false =>
    have hc : st.closed = false := by
      cases q : st.closed with
      | false => rfl
      | true => have := (o.closed q).1; rw [hs] at this; simp at this
    simp only [lenSl_slice, lenStr_string, str_size, fpureA_some, fnilA_ptr, faddA_ptr, addr_add, Nat.zero_add, Nat.add_zero, fpureQ_k, fpureQ_nilA, fpureQ_addA, fpureQ_pureA, fpureQ_guardA, fpureQ_idxSlA, fpureQ_pickA, freadQ_loadA, freadQ_loadNA, freadQ_b2sA, freadQ_guardA, freadQ_slSlA, freadQ_k, fendA, fallA_one, fstillA_nil, fguardA_tt, fguardA_ff, fguardA_tf, fguardA_ft, fguardA_undef, fpickA_true, fpickA_false, fcondA_true, fcondA_false, binA_add, binA_sub, binA_mul, binA_eql, binA_neq, binA_lss, binA_leq, binA_gtr, binA_geq, unA_not, Bool.not_true, Bool.not_false, convA_int, extA_tuple, List.getElem?_toArray, List.getElem?_cons_zero, List.getElem?_cons_succ]
    have hst : pkC { st with shut := st.closed } xi xs' xt = pkC st xi xs' xt := by simp [pkC, hs, hc]
    have := fin (h4 := h3) (img := st.image) (by rw [hst]; exact hb3) hn3 vi3 hi rfl (by rw [(image_parts st o).2, hc]; simp [PS.foot, hs]) vs3 vt3 t3
    simpa only [lenSl_slice, lenStr_string, str_size, fpureA_some, fnilA_ptr, faddA_ptr, addr_add, Nat.zero_add, Nat.add_zero, fpureQ_k, fpureQ_nilA, fpureQ_addA, fpureQ_pureA, fpureQ_guardA, fpureQ_idxSlA, fpureQ_pickA, freadQ_loadA, freadQ_loadNA, freadQ_b2sA, freadQ_guardA, freadQ_slSlA, freadQ_k, fendA, fallA_one, fstillA_nil, fguardA_tt, fguardA_ff, fguardA_tf, fguardA_ft, fguardA_undef, fpickA_true, fpickA_false, fcondA_true, fcondA_false, binA_add, binA_sub, binA_mul, binA_eql, binA_neq, binA_lss, binA_leq, binA_gtr, binA_geq, unA_not, Bool.not_true, Bool.not_false, convA_int, extA_tuple, List.getElem?_toArray, List.getElem?_cons_zero, List.getElem?_cons_succ] using this
  | true =>
    simp only [lenSl_slice, lenStr_string, str_size, fpureA_some, fnilA_ptr, faddA_ptr, addr_add, Nat.zero_add, Nat.add_zero, fpureQ_k, fpureQ_nilA, fpureQ_addA, fpureQ_pureA, fpureQ_guardA, fpureQ_idxSlA, fpureQ_pickA, freadQ_loadA, freadQ_loadNA, freadQ_b2sA, freadQ_guardA, freadQ_slSlA, freadQ_k, fendA, fallA_one, fstillA_nil, fguardA_tt, fguardA_ff, fguardA_tf, fguardA_ft, fguardA_undef, fpickA_true, fpickA_false, fcondA_true, fcondA_false, binA_add, binA_sub, binA_mul, binA_eql, binA_neq, binA_lss, binA_leq, binA_gtr, binA_geq, unA_not, Bool.not_true, Bool.not_false, convA_int, extA_tuple, List.getElem?_toArray, List.getElem?_cons_zero, List.getElem?_cons_succ]
    refine loadA_at w.base hb3 (by rfl) ?_
    cases hc : st.closed with
    | true =>
      simp only [lenSl_slice, lenStr_string, str_size, fpureA_some, fnilA_ptr, faddA_ptr, addr_add, Nat.zero_add, Nat.add_zero, fpureQ_k, fpureQ_nilA, fpureQ_addA, fpureQ_pureA, fpureQ_guardA, fpureQ_idxSlA, fpureQ_pickA, freadQ_loadA, freadQ_loadNA, freadQ_b2sA, freadQ_guardA, freadQ_slSlA, freadQ_k, fendA, fallA_one, fstillA_nil, fguardA_tt, fguardA_ff, fguardA_tf, fguardA_ft, fguardA_undef, fpickA_true, fpickA_false, fcondA_true, fcondA_false, binA_add, binA_sub, binA_mul, binA_eql, binA_neq, binA_lss, binA_leq, binA_gtr, binA_geq, unA_not, Bool.not_true, Bool.not_false, convA_int, extA_tuple, List.getElem?_toArray, List.getElem?_cons_zero, List.getElem?_cons_succ]
      have hst : pkC { st with shut := st.closed } xi xs' xt = pkC st xi xs' xt := by simp [pkC, hs, hc]
      have := fin (h4 := h3) (img := st.image) (by rw [hst]; exact hb3) hn3 vi3 hi rfl (by rw [(image_parts st o).2, hc]; simp) vs3 vt3 t3
      simpa only [lenSl_slice, lenStr_string, str_size, fpureA_some, fnilA_ptr, faddA_ptr, addr_add, Nat.zero_add, Nat.add_zero, fpureQ_k, fpureQ_nilA, fpureQ_addA, fpureQ_pureA, fpureQ_guardA, fpureQ_idxSlA, fpureQ_pickA, freadQ_loadA, freadQ_loadNA, freadQ_b2sA, freadQ_guardA, freadQ_slSlA, freadQ_k, fendA, fallA_one, fstillA_nil, fguardA_tt, fguardA_ff, fguardA_tf, fguardA_ft, fguardA_undef, fpickA_true, fpickA_false, fcondA_true, fcondA_false, binA_add, binA_sub, binA_mul, binA_eql, binA_neq, binA_lss, binA_leq, binA_gtr, binA_geq, unA_not, Bool.not_true, Bool.not_false, convA_int, extA_tuple, List.getElem?_toArray, List.getElem?_cons_zero, List.getElem?_cons_succ] using this
    | false =>
      simp only [lenSl_slice, lenStr_string, str_size, fpureA_some, fnilA_ptr, faddA_ptr, addr_add, Nat.zero_add, Nat.add_zero, fpureQ_k, fpureQ_nilA, fpureQ_addA, fpureQ_pureA, fpureQ_guardA, fpureQ_idxSlA, fpureQ_pickA, freadQ_loadA, freadQ_loadNA, freadQ_b2sA, freadQ_guardA, freadQ_slSlA, freadQ_k, fendA, fallA_one, fstillA_nil, fguardA_tt, fguardA_ff, fguardA_tf, fguardA_ft, fguardA_undef, fpickA_true, fpickA_false, fcondA_true, fcondA_false, binA_add, binA_sub, binA_mul, binA_eql, binA_neq, binA_lss, binA_leq, binA_gtr, binA_geq, unA_not, Bool.not_true, Bool.not_false, convA_int, extA_tuple, List.getElem?_toArray, List.getElem?_cons_zero, List.getElem?_cons_succ]
      refine storeA_at w.base hb3 (by simp [pkC]) rfl ?_
      have s4 : Step h3 (h3.put p ((pkC st xi xs' xt).set 5 (.bool false))) [p] [p] := (Step.refl h3 [p] (by simpa using hn3)).put (by simp) _
      have hb4 : (h3.put p ((pkC st xi xs' xt).set 5 (.bool false))).blk p = some (pkC { st with shut := st.closed } xi xs' xt) := by simp [pkC, hc]
      have hn4 : p < (h3.put p ((pkC st xi xs' xt).set 5 (.bool false))).next := by simpa using hn3
      have vi4 := vi3.frame s4 fA
      have vs4 := vs3.frame s4 fB
      have vt4 := vt3.frame s4 fC
      have t4 := t3.put (p := p) (by simp) ((pkC st xi xs' xt).set 5 (.bool false))
      generalize h3.put p ((pkC st xi xs' xt).set 5 (.bool false)) = h4 at s4 hb4 hn4 vi4 vs4 vt4 t4 ⊢
      refine loadA_at w.base hb4 (by rfl) ?_
      refine loadA_at w.base hb4 (by rfl) ?_
      simp only [hl, lenSl_slice, lenStr_string, str_size, fpureA_some, fnilA_ptr, faddA_ptr, addr_add, Nat.zero_add, Nat.add_zero, fpureQ_k, fpureQ_nilA, fpureQ_addA, fpureQ_pureA, fpureQ_guardA, fpureQ_idxSlA, fpureQ_pickA, freadQ_loadA, freadQ_loadNA, freadQ_b2sA, freadQ_guardA, freadQ_slSlA, freadQ_k, fendA, fallA_one, fstillA_nil, fguardA_tt, fguardA_ff, fguardA_tf, fguardA_ft, fguardA_undef, fpickA_true, fpickA_false, fcondA_true, fcondA_false, binA_add, binA_sub, binA_mul, binA_eql, binA_neq, binA_lss, binA_leq, binA_gtr, binA_geq, unA_not, Bool.not_true, Bool.not_false, convA_int, extA_tuple, List.getElem?_toArray, List.getElem?_cons_zero, List.getElem?_cons_succ, e1]
      refine Bs.cut (vi4.sl : Bs w0 _ xi st.image) (lo := st.bytes - 16) (hi := st.image.length) boundA_nat rfl (by omega) (Nat.le_refl _) fun x7 hx7 _ _ => ?_
      rw [hx7]
      refine vi4.clear (by omega) (Nat.le_refl _) fun h5 vi5 s5 => ?_
      have hb5 := (s5.keep p hn4 w.sep.pa).1.trans hb4
      have hlen5 : (st.image.take (st.bytes - 16) ++ List.replicate (st.image.length - (st.bytes - 16)) 0 ++ st.image.drop st.image.length).length = st.bytes := by simp; omega
      have htk : (st.image.take (st.bytes - 16)).length = st.bytes - 16 := by simp; omega
      have := fin (h4 := h5) (img := st.image.take (st.bytes - 16) ++ List.replicate (st.image.length - (st.bytes - 16)) 0 ++ st.image.drop st.image.length) hb5 (by have := s5.next; omega) (by rw [hlen5]; rw [hi] at vi5 ⊢; exact vi5) hlen5
        (by rw [List.append_assoc, List.take_left' htk]) (by rw [List.append_assoc, List.drop_left' htk, hc, List.drop_eq_nil_of_le (Nat.le_refl _), List.append_nil, hi, show st.bytes - (st.bytes - 16) = 16 by omega]; simp)
        (vs4.frame s5 fun b hb he => sep'.ab b he hb) (vt4.frame s5 fun b hb he => sep'.ac b he hb) (t4.trans (s5.wide (fun b hb => by simp [hb]) fun b hb => .inr ⟨hb, (t4.own b hb).1⟩))
      simpa only [lenSl_slice, lenStr_string, str_size, fpureA_some, fnilA_ptr, faddA_ptr, addr_add, Nat.zero_add, Nat.add_zero, fpureQ_k, fpureQ_nilA, fpureQ_addA, fpureQ_pureA, fpureQ_guardA, fpureQ_idxSlA, fpureQ_pickA, freadQ_loadA, freadQ_loadNA, freadQ_b2sA, freadQ_guardA, freadQ_slSlA, freadQ_k, fendA, fallA_one, fstillA_nil, fguardA_tt, fguardA_ff, fguardA_tf, fguardA_ft, fguardA_undef, fpickA_true, fpickA_false, fcondA_true, fcondA_false, binA_add, binA_sub, binA_mul, binA_eql, binA_neq, binA_lss, binA_leq, binA_gtr, binA_geq, unA_not, Bool.not_true, Bool.not_false, convA_int, extA_tuple, List.getElem?_toArray, List.getElem?_cons_zero, List.getElem?_cons_succ] using this
/-! ### Fork -/
theorem pFork_spec (w : Pk w0 h p st S) (o : st.Ok) : ACalls prog w0 n_pack_Pack_Fork [ptr p] h fun r h' => ∃ q S', r = ptr q ∧ Pk w0 h' q st S' ∧ (∀ b, b ∈ S' → h.next ≤ b) ∧ Step h h' [] S' := by
  refine ACalls.of_fit (by simp [ptr]) fun f => c_pack_Pack_Fork (by simp [ptr]) ?_
  refine callA_of (pmade_spec w o) fun _ h1 ⟨e, e1⟩ f1 => ?_
  subst e e1
  have w' := w
  obtain ⟨xi, xs, xt, A, B, C, w, hS⟩ := w
  have hby := o.bytes
  have hi := o.image
  have hr := o.room
  have hcl := chunks_le (cs := st.chunks)
  simp only [ptr, lenSl_slice, lenStr_string, str_size, fpureA_some, fnilA_ptr, faddA_ptr, addr_add, Nat.zero_add, Nat.add_zero, fpureQ_k, fpureQ_nilA, fpureQ_addA, fpureQ_pureA, fpureQ_guardA, fpureQ_idxSlA, fpureQ_pickA, freadQ_loadA, freadQ_loadNA, freadQ_b2sA, freadQ_guardA, freadQ_slSlA, freadQ_k, fendA, fallA_one, fstillA_nil, fguardA_tt, fguardA_ff, fguardA_tf, fguardA_ft, fguardA_undef, fpickA_true, fpickA_false, fcondA_true, fcondA_false, binA_add, binA_sub, binA_mul, binA_eql, binA_neq, binA_lss, binA_leq, binA_gtr, binA_geq, unA_not, Bool.not_true, Bool.not_false, convA_int, extA_tuple, List.getElem?_toArray, List.getElem?_cons_zero, List.getElem?_cons_succ]
  refine loadNA_whole w.base w.blk (by rfl) ?_
  refine box_new f1.base rfl rfl (by simp) ?_
  have s2 : Step h1 (h1.new (pkC st xi xs xt) 9) [] [h1.next] := (Step.refl h1 [] (by simp)).new _ _
  have hb2 : (h1.new (pkC st xi xs xt) 9).blk h1.next = some (pkC st xi xs xt) := by simp
  have hn2 : h1.next < (h1.new (pkC st xi xs xt) 9).next := by simp
  have w2 := w.frame s2 (by simp)
  generalize h1.new (pkC st xi xs xt) 9 = h2 at s2 hb2 hn2 w2 ⊢
  have hqB := f1.base
  simp only [lenSl_slice, lenStr_string, str_size, fpureA_some, fnilA_ptr, faddA_ptr, addr_add, Nat.zero_add, Nat.add_zero, fpureQ_k, fpureQ_nilA, fpureQ_addA, fpureQ_pureA, fpureQ_guardA, fpureQ_idxSlA, fpureQ_pickA, freadQ_loadA, freadQ_loadNA, freadQ_b2sA, freadQ_guardA, freadQ_slSlA, freadQ_k, fendA, fallA_one, fstillA_nil, fguardA_tt, fguardA_ff, fguardA_tf, fguardA_ft, fguardA_undef, fpickA_true, fpickA_false, fcondA_true, fcondA_false, binA_add, binA_sub, binA_mul, binA_eql, binA_neq, binA_lss, binA_leq, binA_gtr, binA_geq, unA_not, Bool.not_true, Bool.not_false, convA_int, extA_tuple, List.getElem?_toArray, List.getElem?_cons_zero, List.getElem?_cons_succ]
  -- the image
  refine loadA_at w2.base w2.blk (by rfl) ?_
  refine callA_of (cloneB_spec (w2.vi.sl : Bs w0 h2 xi st.image) (by omega)) fun yi h3 ⟨⟨A', ga, _, s3⟩, _⟩ f3 => ?_
  have hA' : ∀ b, b ∈ A' → h2.next ≤ b := fun b hb => by rcases (s3.own b hb).2 with g | g; simp at g; exact g
  have hb3 := (s3.keep _ hn2 (by simp)).1.trans hb2
  have hn3 : h1.next < h3.next := by have := s3.next; omega
  obtain ⟨ai, ci, hyi⟩ := ga.slice
  refine storeA_at hqB hb3 (by simp [pkC]) (by rw [hyi]; rfl) ?_
  have hqA' : h1.next ∉ A' := fun e => by have := hA' _ e; omega
  have s4 : Step h3 (h3.put h1.next ((pkC st xi xs xt).set 3 yi)) [h1.next] [h1.next] := (Step.refl h3 [h1.next] (by simpa using hn3)).put (by simp) _
  have hb4 : (h3.put h1.next ((pkC st xi xs xt).set 3 yi)).blk h1.next = some (pkC st yi xs xt) := by simp [pkC]
  have hn4 : h1.next < (h3.put h1.next ((pkC st xi xs xt).set 3 yi)).next := by simpa using hn3
  have hdis : ∀ b, b ∈ p :: (A ++ (B ++ C)) → b ∉ [h1.next] := fun b hb he => by
    simp at he
    have := (w'.lts b (by rw [hS]; exact hb)).2
    omega
  have w4 := (w2.frame s3 (by simp)).frame s4 hdis
  have ga4 := ga.frame s4 (fun b hb he => by simp at he; subst he; exact hqA' hb)
  have t4 : Step h1 (h3.put h1.next ((pkC st xi xs xt).set 3 yi)) [] (h1.next :: A') := (s2.trans (s3.wide (T := [h1.next]) (T' := h1.next :: A') (by simp) fun b hb => by
    rcases List.mem_cons.1 hb with rfl | hb
    · exact .inr ⟨by simp, hn2⟩
    · exact .inl hb)).put (by simp) _
  have hA'lt : ∀ b, b ∈ A' → b < (h3.put h1.next ((pkC st xi xs xt).set 3 yi)).next := fun b hb => (ga4.lt b hb).2
  generalize h3.put h1.next ((pkC st xi xs xt).set 3 yi) = h4 at s4 hb4 hn4 w4 ga4 t4 hA'lt ⊢
  -- the slots
  refine loadA_at w4.base w4.blk (by rfl) ?_
  refine callA_of (cloneS_spec w4.vs.sl (by omega)) fun ys h5 ⟨B', gb, s5⟩ f5 => ?_
  have hB' : ∀ b, b ∈ B' → h4.next ≤ b := fun b hb => by rcases (s5.own b hb).2 with g | g; simp at g; exact g
  have hb5 := (s5.keep _ hn4 (by simp)).1.trans hb4
  have hn5 : h1.next < h5.next := by have := s5.next; omega
  obtain ⟨as', cs', hys⟩ := gb.slice
  refine storeA_at hqB hb5 (by simp [pkC]) (by rw [hys]; rfl) ?_
  have hqB' : h1.next ∉ B' := fun e => by have := hB' _ e; omega
  have s6 : Step h5 (h5.put h1.next ((pkC st yi xs xt).set 4 ys)) [h1.next] [h1.next] := (Step.refl h5 [h1.next] (by simpa using hn5)).put (by simp) _
  have hb6 : (h5.put h1.next ((pkC st yi xs xt).set 4 ys)).blk h1.next = some (pkC st yi ys xt) := by simp [pkC]
  have hn6 : h1.next < (h5.put h1.next ((pkC st yi xs xt).set 4 ys)).next := by simpa using hn5
  have w6 := (w4.frame s5 (by simp)).frame s6 hdis
  have ga6 := (ga4.frame s5 (by simp)).frame s6 (fun b hb he => by simp at he; subst he; exact hqA' hb)
  have gb6 := gb.frame s6 (fun b hb he => by simp at he; subst he; exact hqB' hb)
  have t6 : Step h1 (h5.put h1.next ((pkC st yi xs xt).set 4 ys)) [] (h1.next :: (A' ++ B')) := (t4.trans (s5.wide (T := h1.next :: A') (T' := h1.next :: (A' ++ B')) (by simp) fun b hb => by
    simp only [List.mem_cons, List.mem_append] at hb
    rcases hb with rfl | hb | hb
    · exact .inr ⟨by simp, hn4⟩
    · exact .inr ⟨by simp [hb], hA'lt b hb⟩
    · exact .inl hb)).put (by simp) _
  have hB'lt : ∀ b, b ∈ B' → b < (h5.put h1.next ((pkC st yi xs xt).set 4 ys)).next := fun b hb => (gb6.lt b hb).2
  have hA'lt6 : ∀ b, b ∈ A' → b < (h5.put h1.next ((pkC st yi xs xt).set 4 ys)).next := fun b hb => (ga6.lt b hb).2
  generalize h5.put h1.next ((pkC st yi xs xt).set 4 ys) = h6 at s6 hb6 hn6 w6 ga6 gb6 t6 hB'lt hA'lt6 ⊢
  -- what was taken
  refine loadA_at w6.base w6.blk (by rfl) ?_
  have key : ACalls prog w0 n_slices_Clone_lbyte_byte [xt] h6 fun r h' => ∃ C', LastV w0 h' r st.last C' ∧ Step h6 h' [] C' := by
    have hv := w6.vt
    cases hla : st.last with
    | none =>
      rw [hla] at hv
      obtain ⟨rfl, -⟩ := hv
      exact (cloneB_spec (l := []) (x := .slice none 0 0) (Sl.nil (s := 1)) (by simp)).mono fun r h' ⟨⟨C', g, _, s⟩, hr⟩ => ⟨[], ⟨hr rfl, rfl⟩, s.drop⟩
    | some t =>
      rw [hla] at hv
      have hv : GV w0 h6 1 xt t.length (bvs t) C := hv
      have := o.last t hla
      exact (cloneB_spec (hv.sl : Bs w0 h6 xt t) (by omega)).mono fun r h' ⟨⟨C', g, _, s⟩, hr⟩ => ⟨C', g, s⟩
  refine callA_of key fun yt h7 ⟨C', gc, s7⟩ f7 => ?_
  have hC' : ∀ b, b ∈ C' → h6.next ≤ b := fun b hb => by rcases (s7.own b hb).2 with g | g; simp at g; exact g
  have hb7 := (s7.keep _ hn6 (by simp)).1.trans hb6
  have hn7 : h1.next < h7.next := by have := s7.next; omega
  obtain ⟨at', nt, ct, hyt⟩ := gc.slice
  refine storeA_at hqB hb7 (by simp [pkC]) (by rw [hyt]; rfl) ?_
  have hqC' : h1.next ∉ C' := fun e => by have := hC' _ e; omega
  have s8 : Step h7 (h7.put h1.next ((pkC st yi ys xt).set 6 yt)) [h1.next] [h1.next] := (Step.refl h7 [h1.next] (by simpa using hn7)).put (by simp) _
  have hb8 : (h7.put h1.next ((pkC st yi ys xt).set 6 yt)).blk h1.next = some (pkC st yi ys yt) := by simp [pkC]
  have ga8 := (ga6.frame s7 (by simp)).frame s8 (fun b hb he => by simp at he; subst he; exact hqA' hb)
  have gb8 := (gb6.frame s7 (by simp)).frame s8 (fun b hb he => by simp at he; subst he; exact hqB' hb)
  have gc8 := gc.frame s8 (fun b hb he => by simp at he; subst he; exact hqC' hb)
  have t8 : Step h1 (h7.put h1.next ((pkC st yi ys xt).set 6 yt)) [] (h1.next :: (A' ++ (B' ++ C'))) := (t6.trans (s7.wide (T := h1.next :: (A' ++ B')) (T' := h1.next :: (A' ++ (B' ++ C'))) (by simp) fun b hb => by
    simp only [List.mem_cons, List.mem_append] at hb
    rcases hb with rfl | hb | hb | hb
    · exact .inr ⟨by simp, hn6⟩
    · exact .inr ⟨by simp [hb], hA'lt6 b hb⟩
    · exact .inr ⟨by simp [hb], hB'lt b hb⟩
    · exact .inl hb)).put (by simp) _
  simp only [retA_iff, oneOf_one]
  refine ⟨by simp, h1.next, h1.next :: (A' ++ (B' ++ C')), rfl, ⟨yi, ys, yt, A', B', C', ⟨hb8, hqB, by simpa using hn7, ga8, gb8, gc8, ⟨hqA', hqB', hqC', fun b hb he => ?_, fun b hb he => ?_, fun b hb he => ?_⟩⟩, rfl⟩, fun b hb => ?_, t8⟩
  · have := hB' b he; have := (ga4.lt b hb).2; omega
  · have := hC' b he; have := (ga6.lt b hb).2; omega
  · have := hC' b he; have := (gb6.lt b hb).2; omega
  · rcases (t8.own b hb).2 with g | g
    · simp at g
    · exact g
end

/-- Each of these slices is one of one's own with these bytes; S: their blocks. -/
inductive RowsC (w0 : World) (h : Hp) : List Value → List (List UInt8) → List Nat → Prop
  | nil : RowsC w0 h [] [] []
  | cons {v : Value} {r : List UInt8} {T : List Nat} {vs : List Value} {rs : List (List UInt8)} {S : List Nat} : GV w0 h 1 v r.length (bvs r) T → RowsC w0 h vs rs S → (∀ b, b ∈ T → b ∉ S) → RowsC w0 h (v :: vs) (r :: rs) (T ++ S)
section
variable {w0 : World} {h h' : Hp} {vs : List Value} {rs : List (List UInt8)} {S : List Nat}
theorem RowsC.len (q : RowsC w0 h vs rs S) : vs.length = rs.length := by
  induction q with
  | nil => rfl
  | cons _ _ _ ih => simp [ih]
theorem RowsC.lt (q : RowsC w0 h vs rs S) : ∀ b, b ∈ S → w0.heap.size ≤ b ∧ b < h.next := by
  induction q with
  | nil => simp
  | cons v _ _ ih =>
    intro b hb
    rcases List.mem_append.1 hb with e | e
    · exact v.lt b e
    · exact ih b e
theorem RowsC.frame (q : RowsC w0 h vs rs S) {T T' : List Nat} (st : Step h h' T T') (hd : ∀ b, b ∈ S → b ∉ T) : RowsC w0 h' vs rs S := by
  induction q with
  | nil => exact .nil
  | cons v q d ih => exact .cons (v.frame st fun b hb => hd b (by simp [hb])) (ih fun b hb => hd b (by simp [hb])) d
theorem RowsC.snoc (q : RowsC w0 h vs rs S) {v : Value} {r : List UInt8} {T : List Nat} (g : GV w0 h 1 v r.length (bvs r) T) (hd : ∀ b, b ∈ T → b ∉ S) : RowsC w0 h (vs ++ [v]) (rs ++ [r]) (S ++ T) := by
  induction q with
  | nil => simpa using RowsC.cons g .nil (by simp)
  | cons v' q d ih =>
    have := RowsC.cons v' (ih fun b hb he => hd b hb (by simp [he])) (fun b hb he => by
      rcases List.mem_append.1 he with e | e
      · exact d b hb e
      · exact hd b e (by simp [hb]))
    simpa using this
theorem RowsC.isCells (q : RowsC w0 h vs rs S) : ∀ v, v ∈ vs → ∃ a n c, v = .slice a n c := by
  induction q with
  | nil => simp
  | cons g q d ih =>
    intro v hv
    rcases List.mem_cons.1 hv with rfl | hv
    · obtain ⟨a, c, e⟩ := g.slice; exact ⟨a, _, c, e⟩
    · exact ih v hv
def tCells : List Nat → List Value → List Value
  | n :: ns, v :: vs => .int .i64 (n : Int) :: v :: tCells ns vs
  | _, _ => []
theorem tCells_snoc (n : Nat) (v : Value) : ∀ (ns : List Nat) (vs : List Value), ns.length = vs.length → tCells (ns ++ [n]) (vs ++ [v]) = tCells ns vs ++ [.int .i64 (n : Int), v] := by
  intro ns
  induction ns with
  | nil => intro vs hl; cases vs <;> simp_all [tCells]
  | cons m ns ih =>
    intro vs hl
    cases vs with
    | nil => simp at hl
    | cons w vs => simp only [List.cons_append, tCells, ih vs (by simpa using hl)]
theorem tCells_append : ∀ (ns ns' : List Nat) (vs vs' : List Value), ns.length = vs.length → tCells (ns ++ ns') (vs ++ vs') = tCells ns vs ++ tCells ns' vs' := by
  intro ns
  induction ns with
  | nil => intro ns' vs vs' hl; cases vs <;> simp_all [tCells]
  | cons m ns ih =>
    intro ns' vs vs' hl
    cases vs with
    | nil => simp at hl
    | cons w vs => simp only [List.cons_append, tCells, ih ns' vs vs' (by simpa using hl)]
theorem tCells_length : ∀ (ns : List Nat) (vs : List Value), ns.length = vs.length → (tCells ns vs).length = 2 * ns.length := by
  intro ns
  induction ns with
  | nil => intro vs hl; cases vs <;> simp_all [tCells]
  | cons m ns ih =>
    intro vs hl
    cases vs with
    | nil => simp at hl
    | cons w vs => simp [tCells, ih vs (by simpa using hl)]; omega
/-- A list of sectors. -/
def TV (w0 : World) (h : Hp) (x : Value) (l : List (Nat × List UInt8)) (S : List Nat) : Prop :=
  ∃ vs T S0, GV w0 h 2 x l.length (tCells (l.map (·.1)) vs) T ∧ RowsC w0 h vs (l.map (·.2)) S0 ∧ (∀ b, b ∈ T → b ∉ S0) ∧ S = T ++ S0
variable {x : Value} {l : List (Nat × List UInt8)}
theorem TV.nil : TV w0 h (.slice none 0 0) [] [] := ⟨[], [], [], .inl .nil, .nil, by simp, rfl⟩
theorem TV.lt (q : TV w0 h x l S) : ∀ b, b ∈ S → w0.heap.size ≤ b ∧ b < h.next := by
  obtain ⟨vs, T, S0, v, r, d, rfl⟩ := q
  intro b hb
  rcases List.mem_append.1 hb with e | e
  · exact v.lt b e
  · exact r.lt b e
theorem TV.frame (q : TV w0 h x l S) {T T' : List Nat} (st : Step h h' T T') (hd : ∀ b, b ∈ S → b ∉ T) : TV w0 h' x l S := by
  obtain ⟨vs, U, S0, v, r, d, rfl⟩ := q
  exact ⟨vs, U, S0, v.frame st fun b hb => hd b (by simp [hb]), r.frame st fun b hb => hd b (by simp [hb]), d, rfl⟩
theorem TV.slice (q : TV w0 h x l S) : ∃ a c, x = .slice a l.length c := by
  obtain ⟨vs, U, S0, v, r, d, rfl⟩ := q
  exact v.slice
theorem TV.refl (q : TV w0 h x l S) : Step h h S S := .refl _ _ fun b hb => (q.lt b hb).2
/-- One more behind them. -/
theorem app_tv {n : Nat} {v : Value} {r : List UInt8} {T : List Nat} {K : Kont} (hf : w0.heap.size ≤ h.next) (q : TV w0 h x l S) (g : GV w0 h 1 v r.length (bvs r) T) (hd : ∀ b, b ∈ T → b ∉ S) (hl : l.length ≤ 1000000000)
    (hk : ∀ x' h' S', TV w0 h' x' (l ++ [(n, r)]) S' → Step h h' (S ++ T) S' → K x' h') :
    bslA [(0, 2, true, .agg #[.int .i64 (n : Int), v])] (zerosL [(.int .i64 0), (.slice none 0 0)] 1) 1 2 (fun v5 => appA w0 2 32 x v5 K) h := by
  obtain ⟨vs, U, S0, vx, rw_, d, rfl⟩ := q
  have hz : zerosL [(.int .i64 0 : Value), .slice none 0 0] 1 = [.int .i64 0, .slice none 0 0] := rfl
  simp only [bslA_iff, hz, fillA_agg, fillA_nil]
  refine ⟨by simp, by simp, ?_⟩
  rw [splice_all _ _ (by simp)]
  have s9 : Step h (h.new [.int .i64 (n : Int), v] 2) [] [h.next] := (Step.refl h [] (by simp)).new _ _
  have src9 : Src w0.heap.size (h.new [.int .i64 (n : Int), v] 2) 2 (.slice (some ⟨h.next, 0, none⟩) 1 1) 1 [.int .i64 (n : Int), v] := src_new hf (by simp)
  refine appA_gv (m := 1) (by simp; omega) (vx.frame s9 (by simp)) (by simp) src9 (by simp) (by omega) (by omega) (by omega) fun x' h' U' v' s' => ?_
  have hT0 : ∀ b, b ∈ S0 → b ∉ U := fun b hb he => d b he hb
  have hTU : ∀ b, b ∈ T → b ∉ U := fun b hb he => hd b hb (by simp [he])
  have hTS : ∀ b, b ∈ T → b ∉ S0 := fun b hb he => hd b hb (by simp [he])
  have hlen := rw_.len
  have s : Step h h' U U' := (s9.idle U fun b hb => (vx.lt b hb).2).trans s'
  refine hk x' h' (U' ++ (S0 ++ T)) ⟨vs ++ [v], U', S0 ++ T, ?_, ?_, fun b hb he => ?_, rfl⟩ ?_
  · rw [List.map_append, List.map_cons, List.map_nil, tCells_snoc _ _ _ _ (by rw [hlen]; simp), List.length_append]
    exact v'
  · rw [List.map_append, List.map_cons, List.map_nil]
    exact (rw_.frame s hT0).snoc (g.frame s hTU) hTS
  · rcases (s.own b hb).2 with e | e
    · rcases List.mem_append.1 he with q | q
      · exact d b e q
      · exact hTU b q e
    · rcases List.mem_append.1 he with q | q
      · have := (rw_.lt b q).2; omega
      · have := (g.lt b q).2; omega
  · refine s.wide (fun b hb => by simp [hb]) (fun b hb => ?_)
    rcases List.mem_append.1 hb with e | e
    · exact .inl e
    · rcases List.mem_append.1 e with q | q
      · exact .inr ⟨by simp [q], (rw_.lt b q).2⟩
      · exact .inr ⟨by simp [q], (g.lt b q).2⟩
/-! ### slices.Equal -/
theorem equalB_loop {k0 kr : Value → Hp → Prop} {a a' : Option Addr} {c c' : Nat} {l m : List UInt8} (v : Bs w0 h (.slice a l.length c) l) (w : Bs w0 h (.slice a' m.length c') m) (hlm : l.length = m.length) (hl : l.length ≤ 1000000000) :
    ∀ (post pre : List UInt8) (post' pre' : List UInt8), pre ++ post = l → pre' ++ post' = m → pre.length = pre'.length → (post = post' → k0 (.bool false) h) → (post ≠ post' → kr (.bool false) h) →
    slices_Equal_lbyte_byte_L1 prog w0 k0 kr (post.length + 1) (.slice a l.length c) (.slice a' m.length c') (.bool false) (.int .i64 (l.length : Int)) (.int .i64 (pre.length : Int)) h := by
  intro post
  induction post with
  | nil =>
    intro pre post' pre' he he' hp hk hkr
    have : pre = l := by simpa using he
    subst this
    have : post' = [] := by
      have := congrArg List.length he'
      simp at this
      exact List.eq_nil_of_length_eq_zero (by omega)
    rw [List.length_nil, slices_Equal_lbyte_byte_L1]
    simp only [slices_Equal_lbyte_byte_B1, lenSl_slice, lenStr_string, str_size, fpureA_some, fnilA_ptr, faddA_ptr, addr_add, Nat.zero_add, Nat.add_zero, fpureQ_k, fpureQ_nilA, fpureQ_addA, fpureQ_pureA, fpureQ_guardA, fpureQ_idxSlA, fpureQ_pickA, freadQ_loadA, freadQ_loadNA, freadQ_b2sA, freadQ_guardA, freadQ_slSlA, freadQ_k, fendA, fallA_one, fstillA_nil, fguardA_tt, fguardA_ff, fguardA_tf, fguardA_ft, fguardA_undef, fpickA_true, fpickA_false, fcondA_true, fcondA_false, binA_add, binA_sub, binA_mul, binA_eql, binA_neq, binA_lss, binA_leq, binA_gtr, binA_geq, unA_not, Bool.not_true, Bool.not_false, convA_int, extA_tuple, List.getElem?_toArray, List.getElem?_cons_zero, List.getElem?_cons_succ, Int.lt_irrefl, decide_false]
    exact hk this.symm
  | cons b post ih =>
    intro pre post' pre' he he' hp hk hkr
    have hlen : pre.length + (post.length + 1) = l.length := by rw [← he]; simp
    cases post' with
    | nil =>
      have := congrArg List.length he'
      simp at this
      omega
    | cons b' post' =>
      have hg : l[pre.length]? = some b := by rw [← he]; simp
      have hg' : m[pre.length]? = some b' := by rw [← he', hp]; simp
      have c1 : decide ((pre.length : Int) < (l.length : Int)) = true := decide_eq_true (by omega)
      have e6 : IntKind.i64.wrap ((pre.length : Int) + 1) = ((pre.length + 1 : Nat) : Int) := by rw [IntWalk.i64_in _ (by omega)]; simp
      rw [List.length_cons, slices_Equal_lbyte_byte_L1]
      simp only [slices_Equal_lbyte_byte_B1, lenSl_slice, lenStr_string, str_size, fpureA_some, fnilA_ptr, faddA_ptr, addr_add, Nat.zero_add, Nat.add_zero, fpureQ_k, fpureQ_nilA, fpureQ_addA, fpureQ_pureA, fpureQ_guardA, fpureQ_idxSlA, fpureQ_pickA, freadQ_loadA, freadQ_loadNA, freadQ_b2sA, freadQ_guardA, freadQ_slSlA, freadQ_k, fendA, fallA_one, fstillA_nil, fguardA_tt, fguardA_ff, fguardA_tf, fguardA_ft, fguardA_undef, fpickA_true, fpickA_false, fcondA_true, fcondA_false, binA_add, binA_sub, binA_mul, binA_eql, binA_neq, binA_lss, binA_leq, binA_gtr, binA_geq, unA_not, Bool.not_true, Bool.not_false, convA_int, extA_tuple, List.getElem?_toArray, List.getElem?_cons_zero, List.getElem?_cons_succ, c1]
      refine idx_load1 v.src (by simp) (by rw [bvs_get, hg]; rfl) ?_
      refine idx_load1 w.src (by simp) (by rw [bvs_get, hg']; rfl) ?_
      simp only [bv_ne, lenSl_slice, lenStr_string, str_size, fpureA_some, fnilA_ptr, faddA_ptr, addr_add, Nat.zero_add, Nat.add_zero, fpureQ_k, fpureQ_nilA, fpureQ_addA, fpureQ_pureA, fpureQ_guardA, fpureQ_idxSlA, fpureQ_pickA, freadQ_loadA, freadQ_loadNA, freadQ_b2sA, freadQ_guardA, freadQ_slSlA, freadQ_k, fendA, fallA_one, fstillA_nil, fguardA_tt, fguardA_ff, fguardA_tf, fguardA_ft, fguardA_undef, fpickA_true, fpickA_false, fcondA_true, fcondA_false, binA_add, binA_sub, binA_mul, binA_eql, binA_neq, binA_lss, binA_leq, binA_gtr, binA_geq, unA_not, Bool.not_true, Bool.not_false, convA_int, extA_tuple, List.getElem?_toArray, List.getElem?_cons_zero, List.getElem?_cons_succ]
      by_cases e : b = b'
      · have c2 : decide (b ≠ b') = false := decide_eq_false (by simpa using e)
        simp only [c2, lenSl_slice, lenStr_string, str_size, fpureA_some, fnilA_ptr, faddA_ptr, addr_add, Nat.zero_add, Nat.add_zero, fpureQ_k, fpureQ_nilA, fpureQ_addA, fpureQ_pureA, fpureQ_guardA, fpureQ_idxSlA, fpureQ_pickA, freadQ_loadA, freadQ_loadNA, freadQ_b2sA, freadQ_guardA, freadQ_slSlA, freadQ_k, fendA, fallA_one, fstillA_nil, fguardA_tt, fguardA_ff, fguardA_tf, fguardA_ft, fguardA_undef, fpickA_true, fpickA_false, fcondA_true, fcondA_false, binA_add, binA_sub, binA_mul, binA_eql, binA_neq, binA_lss, binA_leq, binA_gtr, binA_geq, unA_not, Bool.not_true, Bool.not_false, convA_int, extA_tuple, List.getElem?_toArray, List.getElem?_cons_zero, List.getElem?_cons_succ, e6]
        have := ih (pre ++ [b]) post' (pre' ++ [b']) (by simpa using he) (by simpa using he') (by simp [hp]) (fun q => hk (by rw [e, q])) (fun q => hkr (by rw [e]; simpa using q))
        simpa using this
      · have c2 : decide (b ≠ b') = true := decide_eq_true e
        simp only [c2, lenSl_slice, lenStr_string, str_size, fpureA_some, fnilA_ptr, faddA_ptr, addr_add, Nat.zero_add, Nat.add_zero, fpureQ_k, fpureQ_nilA, fpureQ_addA, fpureQ_pureA, fpureQ_guardA, fpureQ_idxSlA, fpureQ_pickA, freadQ_loadA, freadQ_loadNA, freadQ_b2sA, freadQ_guardA, freadQ_slSlA, freadQ_k, fendA, fallA_one, fstillA_nil, fguardA_tt, fguardA_ff, fguardA_tf, fguardA_ft, fguardA_undef, fpickA_true, fpickA_false, fcondA_true, fcondA_false, binA_add, binA_sub, binA_mul, binA_eql, binA_neq, binA_lss, binA_leq, binA_gtr, binA_geq, unA_not, Bool.not_true, Bool.not_false, convA_int, extA_tuple, List.getElem?_toArray, List.getElem?_cons_zero, List.getElem?_cons_succ]
        exact hkr (by simp [e])
theorem equalB_spec {x y : Value} {l m : List UInt8} (v : Bs w0 h x l) (w : Bs w0 h y m) (hl : l.length ≤ 1000000000) :
    ACalls prog w0 n_slices_Equal_lbyte_byte [x, y] h fun r h' => r = .bool (decide (l = m)) ∧ h' = h := by
  refine ACalls.of_fit (by simpa using ⟨v.junk, w.junk⟩) fun f => c_slices_Equal_lbyte_byte (by simpa using ⟨v.junk, w.junk⟩) ?_
  obtain ⟨a, c, rfl⟩ := v.slice
  obtain ⟨a', c', rfl⟩ := w.slice
  simp only [s_slices_Equal_lbyte_byte, lenSl_slice, lenStr_string, str_size, fpureA_some, fnilA_ptr, faddA_ptr, addr_add, Nat.zero_add, Nat.add_zero, fpureQ_k, fpureQ_nilA, fpureQ_addA, fpureQ_pureA, fpureQ_guardA, fpureQ_idxSlA, fpureQ_pickA, freadQ_loadA, freadQ_loadNA, freadQ_b2sA, freadQ_guardA, freadQ_slSlA, freadQ_k, fendA, fallA_one, fstillA_nil, fguardA_tt, fguardA_ff, fguardA_tf, fguardA_ft, fguardA_undef, fpickA_true, fpickA_false, fcondA_true, fcondA_false, binA_add, binA_sub, binA_mul, binA_eql, binA_neq, binA_lss, binA_leq, binA_gtr, binA_geq, unA_not, Bool.not_true, Bool.not_false, convA_int, extA_tuple, List.getElem?_toArray, List.getElem?_cons_zero, List.getElem?_cons_succ]
  by_cases hlm : l.length = m.length
  · have c1 : ((l.length : Int) != (m.length : Int)) = false := by rw [hlm]; simp
    simp only [c1, lenSl_slice, lenStr_string, str_size, fpureA_some, fnilA_ptr, faddA_ptr, addr_add, Nat.zero_add, Nat.add_zero, fpureQ_k, fpureQ_nilA, fpureQ_addA, fpureQ_pureA, fpureQ_guardA, fpureQ_idxSlA, fpureQ_pickA, freadQ_loadA, freadQ_loadNA, freadQ_b2sA, freadQ_guardA, freadQ_slSlA, freadQ_k, fendA, fallA_one, fstillA_nil, fguardA_tt, fguardA_ff, fguardA_tf, fguardA_ft, fguardA_undef, fpickA_true, fpickA_false, fcondA_true, fcondA_false, binA_add, binA_sub, binA_mul, binA_eql, binA_neq, binA_lss, binA_leq, binA_gtr, binA_geq, unA_not, Bool.not_true, Bool.not_false, convA_int, extA_tuple, List.getElem?_toArray, List.getElem?_cons_zero, List.getElem?_cons_succ]
    refine ⟨l.length + 1, equalB_loop v w hlm hl l [] m [] rfl rfl rfl (fun e => ?_) (fun e => ?_)⟩
    · simp only [retA_iff, oneOf_one]; exact ⟨by simp, by simp [e], by trivial⟩
    · simp only [retA_iff, oneOf_one]; exact ⟨by simp, by simp [e], by trivial⟩
  · have c1 : ((l.length : Int) != (m.length : Int)) = true := by rw [bne_iff_ne]; omega
    have : l ≠ m := fun e => hlm (by rw [e])
    simp only [c1, lenSl_slice, lenStr_string, str_size, fpureA_some, fnilA_ptr, faddA_ptr, addr_add, Nat.zero_add, Nat.add_zero, fpureQ_k, fpureQ_nilA, fpureQ_addA, fpureQ_pureA, fpureQ_guardA, fpureQ_idxSlA, fpureQ_pickA, freadQ_loadA, freadQ_loadNA, freadQ_b2sA, freadQ_guardA, freadQ_slSlA, freadQ_k, fendA, fallA_one, fstillA_nil, fguardA_tt, fguardA_ff, fguardA_tf, fguardA_ft, fguardA_undef, fpickA_true, fpickA_false, fcondA_true, fcondA_false, binA_add, binA_sub, binA_mul, binA_eql, binA_neq, binA_lss, binA_leq, binA_gtr, binA_geq, unA_not, Bool.not_true, Bool.not_false, convA_int, extA_tuple, List.getElem?_toArray, List.getElem?_cons_zero, List.getElem?_cons_succ, retA_iff, oneOf_one]
    exact ⟨by simp, by simp [this], by trivial⟩
/-! ### Take -/
def secAt (size : Nat) (img : List UInt8) (n : Nat) : List UInt8 := (img.drop (n * size)).take size
def PS.parted (st : PS) (n : Nat) : Bool :=
  match st.last with
  | none => true
  | some t => !decide (secAt st.size st.image n = secAt st.size t n)
def PS.secs (st : PS) : Nat → Nat → List (Nat × List UInt8)
  | _, 0 => []
  | k, m + 1 => (if st.parted k then [(k, secAt st.size st.image k)] else []) ++ st.secs (k + 1) m
def PS.take (st : PS) : PS := { st with last := some st.image, taken := st.chunks.length, closed := st.shut }
theorem PS.Ok.take {st : PS} (o : st.Ok) : st.take.Ok :=
  ⟨o.size, o.count, o.id, o.room, o.ne, Nat.le_refl _, fun hc => ⟨hc, rfl⟩, fun t ht => by simp [PS.take] at ht; subst ht; exact o.image⟩
theorem sec_range {st : PS} (o : st.Ok) {n : Nat} (hn : n < st.count) : n * st.size + st.size ≤ st.bytes ∧ st.bytes ≤ 262144 ∧ (n + 1) * st.size = n * st.size + st.size := by
  have h1 := Nat.mul_le_mul_right st.size (show n + 1 ≤ st.count by omega)
  have h2 := o.bytes
  have h3 : (n + 1) * st.size = n * st.size + st.size := by rw [Nat.add_mul, Nat.one_mul]
  refine ⟨?_, h2.2, h3⟩
  unfold PS.bytes
  rw [Nat.mul_comm st.size]
  omega
theorem secAt_length {st : PS} (o : st.Ok) {n : Nat} (hn : n < st.count) {img : List UInt8} (hi : img.length = st.bytes) : (secAt st.size img n).length = st.size := by
  have := sec_range o hn
  simp [secAt]
  omega
theorem pTake_loop {k0 : Value → Value → Hp → Prop} {p : Nat} {st : PS} {xi xs xt : Value} {A B C : List Nat} (o : st.Ok) : ∀ (m k : Nat) (h : Hp) (x : Value) (acc : List (Nat × List UInt8)) (S : List Nat), k + m = st.count → Pk1 w0 h p st xi xs xt A B C → (∀ b, b ∈ S → b ∉ p :: (A ++ (B ++ C))) → TV w0 h x acc S → acc.length ≤ k →
    (∀ h' x' S', Pk1 w0 h' p st xi xs xt A B C → TV w0 h' x' (acc ++ st.secs k m) S' → Step h h' S S' → k0 (ptr p) x' h') →
    pack_Pack_Take_L1 prog w0 k0 (m + 1) (ptr p) x (.int .i64 (st.count : Int)) (.int .i64 (k : Int)) h := by
  intro m
  induction m with
  | zero =>
    intro k h x acc S hk w hd q hac hk0
    have : k = st.count := by omega
    subst this
    rw [pack_Pack_Take_L1]
    simp only [pack_Pack_Take_B1, lenSl_slice, lenStr_string, str_size, fpureA_some, fnilA_ptr, faddA_ptr, addr_add, Nat.zero_add, Nat.add_zero, fpureQ_k, fpureQ_nilA, fpureQ_addA, fpureQ_pureA, fpureQ_guardA, fpureQ_idxSlA, fpureQ_pickA, freadQ_loadA, freadQ_loadNA, freadQ_b2sA, freadQ_guardA, freadQ_slSlA, freadQ_k, fendA, fallA_one, fstillA_nil, fguardA_tt, fguardA_ff, fguardA_tf, fguardA_ft, fguardA_undef, fpickA_true, fpickA_false, fcondA_true, fcondA_false, binA_add, binA_sub, binA_mul, binA_eql, binA_neq, binA_lss, binA_leq, binA_gtr, binA_geq, unA_not, Bool.not_true, Bool.not_false, convA_int, extA_tuple, List.getElem?_toArray, List.getElem?_cons_zero, List.getElem?_cons_succ, Int.lt_irrefl, decide_false]
    exact hk0 h x S w (by simpa [PS.secs] using q) q.refl
  | succ m ih =>
    intro k h x acc S hk w hd q hac hk0
    have hsz := o.size
    have hct := o.count
    obtain ⟨r1, r2, r3⟩ := sec_range o (show k < st.count by omega)
    have hi := o.image
    have c1 : decide ((k : Int) < (st.count : Int)) = true := decide_eq_true (by omega)
    have e1 : IntKind.i64.wrap ((k : Int) * (st.size : Int)) = ((k * st.size : Nat) : Int) := by rw [← Int.natCast_mul, IntWalk.i64_in _ (by omega)]
    have e2 : IntKind.i64.wrap ((k : Int) + 1) = ((k + 1 : Nat) : Int) := by rw [IntWalk.i64_in _ (by omega)]; simp
    have e3 : IntKind.i64.wrap (((k + 1 : Nat) : Int) * (st.size : Int)) = ((k * st.size + st.size : Nat) : Int) := by rw [← Int.natCast_mul, r3, IntWalk.i64_in _ (by omega)]
    have hkslt : k < st.count := by omega
    rw [pack_Pack_Take_L1]
    simp only [pack_Pack_Take_B1, ptr, lenSl_slice, lenStr_string, str_size, fpureA_some, fnilA_ptr, faddA_ptr, addr_add, Nat.zero_add, Nat.add_zero, fpureQ_k, fpureQ_nilA, fpureQ_addA, fpureQ_pureA, fpureQ_guardA, fpureQ_idxSlA, fpureQ_pickA, freadQ_loadA, freadQ_loadNA, freadQ_b2sA, freadQ_guardA, freadQ_slSlA, freadQ_k, fendA, fallA_one, fstillA_nil, fguardA_tt, fguardA_ff, fguardA_tf, fguardA_ft, fguardA_undef, fpickA_true, fpickA_false, fcondA_true, fcondA_false, binA_add, binA_sub, binA_mul, binA_eql, binA_neq, binA_lss, binA_leq, binA_gtr, binA_geq, unA_not, Bool.not_true, Bool.not_false, convA_int, extA_tuple, List.getElem?_toArray, List.getElem?_cons_zero, List.getElem?_cons_succ, c1]
    refine loadA_at w.base w.blk (by rfl) ?_
    simp only [lenSl_slice, lenStr_string, str_size, fpureA_some, fnilA_ptr, faddA_ptr, addr_add, Nat.zero_add, Nat.add_zero, fpureQ_k, fpureQ_nilA, fpureQ_addA, fpureQ_pureA, fpureQ_guardA, fpureQ_idxSlA, fpureQ_pickA, freadQ_loadA, freadQ_loadNA, freadQ_b2sA, freadQ_guardA, freadQ_slSlA, freadQ_k, fendA, fallA_one, fstillA_nil, fguardA_tt, fguardA_ff, fguardA_tf, fguardA_ft, fguardA_undef, fpickA_true, fpickA_false, fcondA_true, fcondA_false, binA_add, binA_sub, binA_mul, binA_eql, binA_neq, binA_lss, binA_leq, binA_gtr, binA_geq, unA_not, Bool.not_true, Bool.not_false, convA_int, extA_tuple, List.getElem?_toArray, List.getElem?_cons_zero, List.getElem?_cons_succ, e1, e2]
    refine loadA_at w.base w.blk (by rfl) ?_
    simp only [lenSl_slice, lenStr_string, str_size, fpureA_some, fnilA_ptr, faddA_ptr, addr_add, Nat.zero_add, Nat.add_zero, fpureQ_k, fpureQ_nilA, fpureQ_addA, fpureQ_pureA, fpureQ_guardA, fpureQ_idxSlA, fpureQ_pickA, freadQ_loadA, freadQ_loadNA, freadQ_b2sA, freadQ_guardA, freadQ_slSlA, freadQ_k, fendA, fallA_one, fstillA_nil, fguardA_tt, fguardA_ff, fguardA_tf, fguardA_ft, fguardA_undef, fpickA_true, fpickA_false, fcondA_true, fcondA_false, binA_add, binA_sub, binA_mul, binA_eql, binA_neq, binA_lss, binA_leq, binA_gtr, binA_geq, unA_not, Bool.not_true, Bool.not_false, convA_int, extA_tuple, List.getElem?_toArray, List.getElem?_cons_zero, List.getElem?_cons_succ, e3]
    refine loadA_at w.base w.blk (by rfl) ?_
    -- a sector that is not as it was
    have yes : st.parted k = true → loadA w0 (.pointer (some ⟨p, 3, none⟩)) (fun v58 => slSlA 1 v58 (some (.int .i64 ((k * st.size : Nat) : Int))) (some (.int .i64 ((k * st.size + st.size : Nat) : Int))) none fun v61 =>
        callA prog w0 n_slices_Clone_lbyte_byte [v61] fun v62 => buildA [(0, 1, false, (.int .i64 (k : Int))), (1, 1, false, v62)] [(.int .i64 0), (.slice none 0 0)] fun v63 =>
        bslA [(0, 2, true, v63)] (zerosL [(.int .i64 0), (.slice none 0 0)] 1) 1 2 fun v64 => appA w0 2 32 x v64 fun v65 =>
        pack_Pack_Take_L1 prog w0 k0 (m + 1) (.pointer (some ⟨p, 0, none⟩)) v65 (.int .i64 (st.count : Int)) (.int .i64 ((k + 1 : Nat) : Int))) h := by
      intro hp
      refine loadA_at w.base w.blk (by rfl) ?_
      refine Bs.cut (w.vi.sl : Bs w0 h xi st.image) boundA_nat boundA_nat (by omega) (by omega) fun x2 _ _ y2 => ?_
      rw [cut_eq] at y2
      have hsl := secAt_length o hkslt hi
      have y2 : Bs w0 h x2 (secAt st.size st.image k) := y2
      refine callA_of (cloneB_spec y2 (by omega)) fun v h2 ⟨⟨T, g, _, s2⟩, _⟩ f2 => ?_
      obtain ⟨a, c, hv⟩ := g.slice
      simp only [buildA_iff, fillA_one, fillA_nil, isCell_int, true_and, List.set_cons_zero, List.set_cons_succ, List.length_cons, List.length_nil]
      refine ⟨by omega, by rw [hv]; rfl, by omega, ?_⟩
      have hT : ∀ b, b ∈ T → h.next ≤ b := fun b hb => by rcases (s2.own b hb).2 with g | g; simp at g; exact g
      have w2 := w.frame s2 (by simp)
      have plt : ∀ b, b ∈ p :: (A ++ (B ++ C)) → b < h.next := fun b hb => by
        simp only [List.mem_cons, List.mem_append] at hb
        rcases hb with rfl | hb | hb | hb
        · exact w.lt
        · exact (w.vi.lt b hb).2
        · exact (w.vs.lt b hb).2
        · exact (w.vt.lt b hb).2
      refine app_tv f2.base (q.frame s2 (by simp)) g (fun b hb he => by have := hT b hb; have := (q.lt b he).2; omega) (by omega) fun x3 h3 S3 q3 s3 => ?_
      have s23 : Step h h3 S S3 := (s2.wide (T := S) (T' := S ++ T) (by simp) fun b hb => by
        rcases List.mem_append.1 hb with e | e
        · exact .inr ⟨e, (q.lt b e).2⟩
        · exact .inl e).trans s3
      have w3 := w.frame s23 fun b hb he => hd b he hb
      have := ih (k + 1) h3 x3 (acc ++ [(k, secAt st.size st.image k)]) S3 (by omega) w3 (fun b hb he => by
        rcases (s23.own b hb).2 with g | g
        · exact hd b g he
        · have := plt b he; omega) q3 (by simp; omega) (fun h4 x4 S4 w4 q4 s4 => hk0 h4 x4 S4 w4 (by simp only [PS.secs, hp, if_true]; simpa using q4) (s23.trans s4))
      simpa only [ptr] using this
    have no : st.parted k = false → pack_Pack_Take_L1 prog w0 k0 (m + 1) (.pointer (some ⟨p, 0, none⟩)) x (.int .i64 (st.count : Int)) (.int .i64 ((k + 1 : Nat) : Int)) h := by
      intro hp
      have := ih (k + 1) h x acc S (by omega) w hd q (by omega) (fun h4 x4 S4 w4 q4 s4 => hk0 h4 x4 S4 w4 (by simp only [PS.secs, hp, Bool.false_eq_true, if_false, List.nil_append]; exact q4) s4)
      simpa only [ptr] using this
    have hvt := w.vt
    cases hla : st.last with
    | none =>
      rw [hla] at hvt
      obtain ⟨hxt, -⟩ := hvt
      have hp : st.parted k = true := by simp [PS.parted, hla]
      simp only [hxt, binSl_nil0, lenSl_slice, lenStr_string, str_size, fpureA_some, fnilA_ptr, faddA_ptr, addr_add, Nat.zero_add, Nat.add_zero, fpureQ_k, fpureQ_nilA, fpureQ_addA, fpureQ_pureA, fpureQ_guardA, fpureQ_idxSlA, fpureQ_pickA, freadQ_loadA, freadQ_loadNA, freadQ_b2sA, freadQ_guardA, freadQ_slSlA, freadQ_k, fendA, fallA_one, fstillA_nil, fguardA_tt, fguardA_ff, fguardA_tf, fguardA_ft, fguardA_undef, fpickA_true, fpickA_false, fcondA_true, fcondA_false, binA_add, binA_sub, binA_mul, binA_eql, binA_neq, binA_lss, binA_leq, binA_gtr, binA_geq, unA_not, Bool.not_true, Bool.not_false, convA_int, extA_tuple, List.getElem?_toArray, List.getElem?_cons_zero, List.getElem?_cons_succ]
      have := yes hp
      simpa only [lenSl_slice, lenStr_string, str_size, fpureA_some, fnilA_ptr, faddA_ptr, addr_add, Nat.zero_add, Nat.add_zero, fpureQ_k, fpureQ_nilA, fpureQ_addA, fpureQ_pureA, fpureQ_guardA, fpureQ_idxSlA, fpureQ_pickA, freadQ_loadA, freadQ_loadNA, freadQ_b2sA, freadQ_guardA, freadQ_slSlA, freadQ_k, fendA, fallA_one, fstillA_nil, fguardA_tt, fguardA_ff, fguardA_tf, fguardA_ft, fguardA_undef, fpickA_true, fpickA_false, fcondA_true, fcondA_false, binA_add, binA_sub, binA_mul, binA_eql, binA_neq, binA_lss, binA_leq, binA_gtr, binA_geq, unA_not, Bool.not_true, Bool.not_false, convA_int, extA_tuple, List.getElem?_toArray, List.getElem?_cons_zero, List.getElem?_cons_succ, e1, e2, e3] using this
    | some t =>
      rw [hla] at hvt
      have hvt : GV w0 h 1 xt t.length (bvs t) C := hvt
      have htl := o.last t hla
      have hnn : binSlA .eql xt (.slice none 0 0) = some (.bool false) := by
        obtain ⟨a, c, hx⟩ := hvt.slice
        rcases hvt.src.lenLe with ⟨_, _, _⟩
        cases a with
        | none =>
          have := hvt.src
          rw [hx] at this
          rcases this.2 with ⟨h0, -⟩ | ⟨-, ad, e, -⟩
          · omega
          · simp at e
        | some ad => rw [hx]; rfl
      simp only [hnn, lenSl_slice, lenStr_string, str_size, fpureA_some, fnilA_ptr, faddA_ptr, addr_add, Nat.zero_add, Nat.add_zero, fpureQ_k, fpureQ_nilA, fpureQ_addA, fpureQ_pureA, fpureQ_guardA, fpureQ_idxSlA, fpureQ_pickA, freadQ_loadA, freadQ_loadNA, freadQ_b2sA, freadQ_guardA, freadQ_slSlA, freadQ_k, fendA, fallA_one, fstillA_nil, fguardA_tt, fguardA_ff, fguardA_tf, fguardA_ft, fguardA_undef, fpickA_true, fpickA_false, fcondA_true, fcondA_false, binA_add, binA_sub, binA_mul, binA_eql, binA_neq, binA_lss, binA_leq, binA_gtr, binA_geq, unA_not, Bool.not_true, Bool.not_false, convA_int, extA_tuple, List.getElem?_toArray, List.getElem?_cons_zero, List.getElem?_cons_succ]
      refine loadA_at w.base w.blk (by rfl) ?_
      refine Bs.cut (w.vi.sl : Bs w0 h xi st.image) boundA_nat boundA_nat (by omega) (by omega) fun x2 _ _ y2 => ?_
      rw [cut_eq] at y2
      refine loadA_at w.base w.blk (by rfl) ?_
      refine Bs.cut (hvt.sl : Bs w0 h xt t) boundA_nat boundA_nat (by omega) (by omega) fun x3 _ _ y3 => ?_
      rw [cut_eq] at y3
      have hsl := secAt_length o hkslt hi
      have y2 : Bs w0 h x2 (secAt st.size st.image k) := y2
      have y3 : Bs w0 h x3 (secAt st.size t k) := y3
      refine callA_of (equalB_spec y2 y3 (by omega)) fun _ h2 ⟨e, e2'⟩ f2 => ?_
      subst e e2'
      simp only [lenSl_slice, lenStr_string, str_size, fpureA_some, fnilA_ptr, faddA_ptr, addr_add, Nat.zero_add, Nat.add_zero, fpureQ_k, fpureQ_nilA, fpureQ_addA, fpureQ_pureA, fpureQ_guardA, fpureQ_idxSlA, fpureQ_pickA, freadQ_loadA, freadQ_loadNA, freadQ_b2sA, freadQ_guardA, freadQ_slSlA, freadQ_k, fendA, fallA_one, fstillA_nil, fguardA_tt, fguardA_ff, fguardA_tf, fguardA_ft, fguardA_undef, fpickA_true, fpickA_false, fcondA_true, fcondA_false, binA_add, binA_sub, binA_mul, binA_eql, binA_neq, binA_lss, binA_leq, binA_gtr, binA_geq, unA_not, Bool.not_true, Bool.not_false, convA_int, extA_tuple, List.getElem?_toArray, List.getElem?_cons_zero, List.getElem?_cons_succ]
      have hpt : st.parted k = !decide (secAt st.size st.image k = secAt st.size t k) := by simp [PS.parted, hla]
      rw [← hpt]
      cases hp : st.parted k with
      | true =>
        simp only [lenSl_slice, lenStr_string, str_size, fpureA_some, fnilA_ptr, faddA_ptr, addr_add, Nat.zero_add, Nat.add_zero, fpureQ_k, fpureQ_nilA, fpureQ_addA, fpureQ_pureA, fpureQ_guardA, fpureQ_idxSlA, fpureQ_pickA, freadQ_loadA, freadQ_loadNA, freadQ_b2sA, freadQ_guardA, freadQ_slSlA, freadQ_k, fendA, fallA_one, fstillA_nil, fguardA_tt, fguardA_ff, fguardA_tf, fguardA_ft, fguardA_undef, fpickA_true, fpickA_false, fcondA_true, fcondA_false, binA_add, binA_sub, binA_mul, binA_eql, binA_neq, binA_lss, binA_leq, binA_gtr, binA_geq, unA_not, Bool.not_true, Bool.not_false, convA_int, extA_tuple, List.getElem?_toArray, List.getElem?_cons_zero, List.getElem?_cons_succ]
        have := yes hp
        simpa only [lenSl_slice, lenStr_string, str_size, fpureA_some, fnilA_ptr, faddA_ptr, addr_add, Nat.zero_add, Nat.add_zero, fpureQ_k, fpureQ_nilA, fpureQ_addA, fpureQ_pureA, fpureQ_guardA, fpureQ_idxSlA, fpureQ_pickA, freadQ_loadA, freadQ_loadNA, freadQ_b2sA, freadQ_guardA, freadQ_slSlA, freadQ_k, fendA, fallA_one, fstillA_nil, fguardA_tt, fguardA_ff, fguardA_tf, fguardA_ft, fguardA_undef, fpickA_true, fpickA_false, fcondA_true, fcondA_false, binA_add, binA_sub, binA_mul, binA_eql, binA_neq, binA_lss, binA_leq, binA_gtr, binA_geq, unA_not, Bool.not_true, Bool.not_false, convA_int, extA_tuple, List.getElem?_toArray, List.getElem?_cons_zero, List.getElem?_cons_succ, e1, e2, e3] using this
      | false =>
        simp only [lenSl_slice, lenStr_string, str_size, fpureA_some, fnilA_ptr, faddA_ptr, addr_add, Nat.zero_add, Nat.add_zero, fpureQ_k, fpureQ_nilA, fpureQ_addA, fpureQ_pureA, fpureQ_guardA, fpureQ_idxSlA, fpureQ_pickA, freadQ_loadA, freadQ_loadNA, freadQ_b2sA, freadQ_guardA, freadQ_slSlA, freadQ_k, fendA, fallA_one, fstillA_nil, fguardA_tt, fguardA_ff, fguardA_tf, fguardA_ft, fguardA_undef, fpickA_true, fpickA_false, fcondA_true, fcondA_false, binA_add, binA_sub, binA_mul, binA_eql, binA_neq, binA_lss, binA_leq, binA_gtr, binA_geq, unA_not, Bool.not_true, Bool.not_false, convA_int, extA_tuple, List.getElem?_toArray, List.getElem?_cons_zero, List.getElem?_cons_succ, e2]
        have := no hp
        simpa only [lenSl_slice, lenStr_string, str_size, fpureA_some, fnilA_ptr, faddA_ptr, addr_add, Nat.zero_add, Nat.add_zero, fpureQ_k, fpureQ_nilA, fpureQ_addA, fpureQ_pureA, fpureQ_guardA, fpureQ_idxSlA, fpureQ_pickA, freadQ_loadA, freadQ_loadNA, freadQ_b2sA, freadQ_guardA, freadQ_slSlA, freadQ_k, fendA, fallA_one, fstillA_nil, fguardA_tt, fguardA_ff, fguardA_tf, fguardA_ft, fguardA_undef, fpickA_true, fpickA_false, fcondA_true, fcondA_false, binA_add, binA_sub, binA_mul, binA_eql, binA_neq, binA_lss, binA_leq, binA_gtr, binA_geq, unA_not, Bool.not_true, Bool.not_false, convA_int, extA_tuple, List.getElem?_toArray, List.getElem?_cons_zero, List.getElem?_cons_succ] using this
theorem pTake_spec {p : Nat} {h : Hp} {st : PS} {S : List Nat} (w : Pk w0 h p st S) (o : st.Ok) :
    ACalls prog w0 n_pack_Pack_Take [ptr p] h fun r h' => ∃ SO S', Pk w0 h' p st.take S' ∧ TV w0 h' r (st.secs 0 st.count) SO ∧ (∀ b, b ∈ SO → h.next ≤ b) ∧ (∀ b, b ∈ SO → b ∉ S') ∧ Step h h' S (SO ++ S') := by
  refine ACalls.of_fit (by simp [ptr]) fun f => c_pack_Pack_Take (by simp [ptr]) ?_
  refine callA_of (pmade_spec w o) fun _ h1 ⟨e, e1⟩ f1 => ?_
  subst e e1
  have w' := w
  obtain ⟨xi, xs, xt, A, B, C, w, hS⟩ := w
  have hby := o.bytes
  have hi := o.image
  simp only [ptr, lenSl_slice, lenStr_string, str_size, fpureA_some, fnilA_ptr, faddA_ptr, addr_add, Nat.zero_add, Nat.add_zero, fpureQ_k, fpureQ_nilA, fpureQ_addA, fpureQ_pureA, fpureQ_guardA, fpureQ_idxSlA, fpureQ_pickA, freadQ_loadA, freadQ_loadNA, freadQ_b2sA, freadQ_guardA, freadQ_slSlA, freadQ_k, fendA, fallA_one, fstillA_nil, fguardA_tt, fguardA_ff, fguardA_tf, fguardA_ft, fguardA_undef, fpickA_true, fpickA_false, fcondA_true, fcondA_false, binA_add, binA_sub, binA_mul, binA_eql, binA_neq, binA_lss, binA_leq, binA_gtr, binA_geq, unA_not, Bool.not_true, Bool.not_false, convA_int, extA_tuple, List.getElem?_toArray, List.getElem?_cons_zero, List.getElem?_cons_succ]
  refine loadA_at w.base w.blk (by rfl) ?_
  refine ⟨st.count + 1, ?_⟩
  refine pTake_loop o st.count 0 h1 _ [] [] (by omega) w (by simp) TV.nil (by simp) fun h2 x2 SO w2 q2 s2 => ?_
  rw [List.nil_append] at q2
  simp only [ptr, lenSl_slice, lenStr_string, str_size, fpureA_some, fnilA_ptr, faddA_ptr, addr_add, Nat.zero_add, Nat.add_zero, fpureQ_k, fpureQ_nilA, fpureQ_addA, fpureQ_pureA, fpureQ_guardA, fpureQ_idxSlA, fpureQ_pickA, freadQ_loadA, freadQ_loadNA, freadQ_b2sA, freadQ_guardA, freadQ_slSlA, freadQ_k, fendA, fallA_one, fstillA_nil, fguardA_tt, fguardA_ff, fguardA_tf, fguardA_ft, fguardA_undef, fpickA_true, fpickA_false, fcondA_true, fcondA_false, binA_add, binA_sub, binA_mul, binA_eql, binA_neq, binA_lss, binA_leq, binA_gtr, binA_geq, unA_not, Bool.not_true, Bool.not_false, convA_int, extA_tuple, List.getElem?_toArray, List.getElem?_cons_zero, List.getElem?_cons_succ]
  refine loadA_at w2.base w2.blk (by rfl) ?_
  refine callA_of (cloneB_spec (w2.vi.sl : Bs w0 h2 xi st.image) (by omega)) fun yt h3 ⟨⟨C', gc, _, s3⟩, _⟩ f3 => ?_
  have hC' : ∀ b, b ∈ C' → h2.next ≤ b := fun b hb => by rcases (s3.own b hb).2 with g | g; simp at g; exact g
  have hSO : ∀ b, b ∈ SO → h1.next ≤ b := fun b hb => by rcases (s2.own b hb).2 with g | g; simp at g; exact g
  have w3 := w2.frame s3 (by simp)
  have q3 := q2.frame s3 (by simp)
  obtain ⟨ac, cc, hyt⟩ := gc.slice
  refine storeA_at w3.base w3.blk (by simp [pkC]) (by rw [hyt]; rfl) ?_
  have hb4 : (h3.put p ((pkC st xi xs xt).set 6 yt)).blk p = some ((pkC st xi xs xt).set 6 yt) := by simp
  obtain ⟨as', cs', hxs⟩ := w3.vs.slice
  have hls : lenSl xs = some (.int .i64 st.chunks.length) := by rw [hxs]; rfl
  refine loadA_at w3.base hb4 (by rfl) ?_
  simp only [hls, lenSl_slice, lenStr_string, str_size, fpureA_some, fnilA_ptr, faddA_ptr, addr_add, Nat.zero_add, Nat.add_zero, fpureQ_k, fpureQ_nilA, fpureQ_addA, fpureQ_pureA, fpureQ_guardA, fpureQ_idxSlA, fpureQ_pickA, freadQ_loadA, freadQ_loadNA, freadQ_b2sA, freadQ_guardA, freadQ_slSlA, freadQ_k, fendA, fallA_one, fstillA_nil, fguardA_tt, fguardA_ff, fguardA_tf, fguardA_ft, fguardA_undef, fpickA_true, fpickA_false, fcondA_true, fcondA_false, binA_add, binA_sub, binA_mul, binA_eql, binA_neq, binA_lss, binA_leq, binA_gtr, binA_geq, unA_not, Bool.not_true, Bool.not_false, convA_int, extA_tuple, List.getElem?_toArray, List.getElem?_cons_zero, List.getElem?_cons_succ]
  refine loadA_at w3.base hb4 (by rfl) ?_
  refine storeA_at w3.base hb4 (by simp [pkC]) rfl ?_
  refine storeA_at w3.base (by simp; rfl) (by simp [pkC]) rfl ?_
  obtain ⟨a2, c2, hx2⟩ := q2.slice
  simp only [lenSl_slice, lenStr_string, str_size, fpureA_some, fnilA_ptr, faddA_ptr, addr_add, Nat.zero_add, Nat.add_zero, fpureQ_k, fpureQ_nilA, fpureQ_addA, fpureQ_pureA, fpureQ_guardA, fpureQ_idxSlA, fpureQ_pickA, freadQ_loadA, freadQ_loadNA, freadQ_b2sA, freadQ_guardA, freadQ_slSlA, freadQ_k, fendA, fallA_one, fstillA_nil, fguardA_tt, fguardA_ff, fguardA_tf, fguardA_ft, fguardA_undef, fpickA_true, fpickA_false, fcondA_true, fcondA_false, binA_add, binA_sub, binA_mul, binA_eql, binA_neq, binA_lss, binA_leq, binA_gtr, binA_geq, unA_not, Bool.not_true, Bool.not_false, convA_int, extA_tuple, List.getElem?_toArray, List.getElem?_cons_zero, List.getElem?_cons_succ, retA_iff, oneOf_one]
  have hpn : p < h3.next := w3.lt
  have hplt : ∀ b, b ∈ p :: (A ++ (B ++ C)) → b < h1.next := fun b hb => (w'.lts b (by rw [hS]; exact hb)).2
  have hn2 := s2.next
  have hn3 := s3.next
  have hpC' : p ∉ C' := fun e => by have := hC' _ e; have := w2.lt; omega
  have hpSO : p ∉ SO := fun e => by have := hSO _ e; have := hplt p (by simp); omega
  have s4 : Step h3 (((h3.put p ((pkC st xi xs xt).set 6 yt)).put p (((pkC st xi xs xt).set 6 yt).set 7 (.int .i64 (st.chunks.length : Int)))).put p ((((pkC st xi xs xt).set 6 yt).set 7 (.int .i64 (st.chunks.length : Int))).set 8 (.bool st.shut))) [p] [p] := (((Step.refl h3 [p] (by simpa using hpn)).put (by simp) _).put (by simp) _).put (by simp) _
  have dp : ∀ {T : List Nat}, p ∉ T → ∀ b, b ∈ T → b ∉ [p] := fun hT b hb he => by simp at he; subst he; exact hT hb
  refine ⟨by rw [hx2]; simp, SO, p :: (A ++ (B ++ C')), ⟨xi, xs, yt, A, B, C', ⟨?_, w3.base, by simpa using hpn, w3.vi.frame s4 (dp w.sep.pa), w3.vs.frame s4 (dp w.sep.pb), gc.frame s4 (dp hpC'), ⟨w.sep.pa, w.sep.pb, hpC', w.sep.ab, fun b hb he => ?_, fun b hb he => ?_⟩⟩, rfl⟩, q3.frame s4 (dp hpSO), hSO, fun b hb he => ?_, ?_⟩
  · simp [pkC, PS.take]
  · have := hC' b he; have := hplt b (by simp [hb]); omega
  · have := hC' b he; have := hplt b (by simp [hb]); omega
  · simp only [List.mem_cons, List.mem_append] at he
    have := hSO b hb
    rcases he with rfl | he | he | he
    · have := hplt b (by simp); omega
    · have := hplt b (by simp [he]); omega
    · have := hplt b (by simp [he]); omega
    · have := hC' b he; have := (q2.lt b hb).2; omega
  · have t2 : Step h1 h2 S (SO ++ S) := s2.wide (by simp) fun b hb => by
      rcases List.mem_append.1 hb with e | e
      · exact .inl e
      · exact .inr ⟨e, (w'.lts b e).2⟩
    have t3 : Step h1 h3 S (SO ++ (p :: (A ++ (B ++ C')))) := t2.trans (s3.wide (by simp) fun b hb => by
      rcases List.mem_append.1 hb with e | e
      · exact .inr ⟨by simp [e], (q2.lt b e).2⟩
      · simp only [List.mem_cons, List.mem_append] at e
        rw [hS]
        rcases e with rfl | e | e | e
        · exact .inr ⟨by simp, w2.lt⟩
        · exact .inr ⟨by simp [e], (w2.vi.lt b e).2⟩
        · exact .inr ⟨by simp [e], (w2.vs.lt b e).2⟩
        · exact .inl e)
    exact ((t3.put (by simp) _).put (by simp) _).put (by simp) _
end
end Go.Proofs.Ytfhamcobfpmgbaa.Ah
