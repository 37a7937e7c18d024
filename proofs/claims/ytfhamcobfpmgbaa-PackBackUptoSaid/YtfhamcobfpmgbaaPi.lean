/- pack.Pack: Append, Read; lives; PackChunks. -/
import Derived.Test.YtfhamcobfpmgbaaPf
set_option linter.unusedVariables false
set_option linter.unusedSimpArgs false
namespace Go.Proofs.Ytfhamcobfpmgbaa.Ah
open Go

section
variable {w0 : World} {h : Hp} {p : Nat} {st : PS} {S : List Nat}
/-- What is not touched may be named. -/
theorem Step.idle {h h' : Hp} {S' : List Nat} (s : Step h h' [] S') (T : List Nat) (hT : ∀ b, b ∈ T → b < h.next) : Step h h' T T := s.wide (by simp) fun b hb => .inr ⟨hb, hT b hb⟩
theorem Step.drop {h h' : Hp} {S S' : List Nat} (s : Step h h' S S') : Step h h' S [] := s.less (by simp)
def appV (r : Nat × Nat × Int) : Value := .tuple #[slt r.1 r.2.1, .int .i64 r.2.2]
theorem pAppend_spec {x : Value} {b : List UInt8} (w : Pk w0 h p st S) (o : st.Ok) (vb : Bs w0 h x b) (hb : b.length ≤ 1000000000) :
    ACalls prog w0 n_pack_Pack_Append [ptr p, x] h fun r h' => ∃ S', r = appV (st.append b).1 ∧ Pk w0 h' p (st.append b).2 S' ∧ Step h h' S S' := by
  refine ACalls.of_fit (by simpa [ptr] using vb.junk) fun f => c_pack_Pack_Append (by simpa [ptr] using vb.junk) ?_
  have hB := f.base
  have hr := o.room
  have hby := o.bytes
  have hi := o.image
  have hge := endOf_ge st.chunks
  simp only [s_pack_Pack_Append, newA_iff]
  refine ⟨by simp, ?_⟩
  have s1 : Step h (h.new [.int .i64 0, .int .i64 0] 2) [] [h.next] := (Step.refl h [] (by simp)).new _ _
  have hq1 : (h.new [.int .i64 0, .int .i64 0] 2).blk h.next = some [.int .i64 0, .int .i64 0] := by simp
  have hl1 : h.next < (h.new [.int .i64 0, .int .i64 0] 2).next := by simp
  generalize h.new [.int .i64 0, .int .i64 0] 2 = h1 at s1 hq1 hl1 ⊢
  have w1 := w.frame s1 (by simp)
  have hx := vb.slice
  obtain ⟨ax, cx, hx⟩ := hx
  have hlen : lenSl x = some (.int .i64 b.length) := by rw [hx]; rfl
  -- what is told when nothing is laid
  have no : ∀ (e : Int), st.append b = ((0, 0, e), st) → storeNA w0 (.pointer (some ⟨h.next, 0, none⟩)) (.agg [.int .i64 0, .int .i64 0].toArray) 2 (fun _ => loadNA w0 (.pointer (some ⟨h.next, 0, none⟩)) 2 fun v => retA [v, .int .i64 e] fun r h' => ∃ S', r = appV (st.append b).1 ∧ Pk w0 h' p (st.append b).2 S' ∧ Step h h' S S') h1 := by
    intro e he
    refine ret2 hB hq1 rfl (by simp) ⟨S, ?_, ?_, ?_⟩
    · rw [he]; rfl
    · rw [he]
      exact w.frame (s1.put (by simp) _) (by simp)
    · exact (s1.put (by simp) _).idle S fun b hb => (w.lts b hb).2
  refine callA_of (pmade_spec w1 o) fun v h1' ⟨e, e1⟩ f1 => ?_
  subst e e1
  obtain ⟨xi, xs, xt, A, B, C, w1', hS⟩ := w1
  simp only [ptr, lenSl_slice, lenStr_string, str_size, fpureA_some, fnilA_ptr, faddA_ptr, addr_add, Nat.zero_add, Nat.add_zero, fpureQ_k, fpureQ_nilA, fpureQ_addA, fpureQ_pureA, fpureQ_guardA, fpureQ_idxSlA, fpureQ_pickA, freadQ_loadA, freadQ_loadNA, freadQ_b2sA, freadQ_guardA, freadQ_slSlA, freadQ_k, fendA, fallA_one, fstillA_nil, fguardA_tt, fguardA_ff, fguardA_tf, fguardA_ft, fguardA_undef, fpickA_true, fpickA_false, fcondA_true, fcondA_false, binA_add, binA_sub, binA_mul, binA_eql, binA_neq, binA_lss, binA_leq, binA_gtr, binA_geq, unA_not, Bool.not_true, Bool.not_false, convA_int, extA_tuple, List.getElem?_toArray, List.getElem?_cons_zero, List.getElem?_cons_succ]
  refine loadA_at w1'.base w1'.blk (by rfl) ?_
  cases hs : st.shut with
  | true =>
    simp only [lenSl_slice, lenStr_string, str_size, fpureA_some, fnilA_ptr, faddA_ptr, addr_add, Nat.zero_add, Nat.add_zero, fpureQ_k, fpureQ_nilA, fpureQ_addA, fpureQ_pureA, fpureQ_guardA, fpureQ_idxSlA, fpureQ_pickA, freadQ_loadA, freadQ_loadNA, freadQ_b2sA, freadQ_guardA, freadQ_slSlA, freadQ_k, fendA, fallA_one, fstillA_nil, fguardA_tt, fguardA_ff, fguardA_tf, fguardA_ft, fguardA_undef, fpickA_true, fpickA_false, fcondA_true, fcondA_false, binA_add, binA_sub, binA_mul, binA_eql, binA_neq, binA_lss, binA_leq, binA_gtr, binA_geq, unA_not, Bool.not_true, Bool.not_false, convA_int, extA_tuple, List.getElem?_toArray, List.getElem?_cons_zero, List.getElem?_cons_succ, buildA_iff, fillA_nil]
    exact no 6 (by unfold PS.append; rw [if_pos hs])
  | false =>
  simp only [hlen, lenSl_slice, lenStr_string, str_size, fpureA_some, fnilA_ptr, faddA_ptr, addr_add, Nat.zero_add, Nat.add_zero, fpureQ_k, fpureQ_nilA, fpureQ_addA, fpureQ_pureA, fpureQ_guardA, fpureQ_idxSlA, fpureQ_pickA, freadQ_loadA, freadQ_loadNA, freadQ_b2sA, freadQ_guardA, freadQ_slSlA, freadQ_k, fendA, fallA_one, fstillA_nil, fguardA_tt, fguardA_ff, fguardA_tf, fguardA_ft, fguardA_undef, fpickA_true, fpickA_false, fcondA_true, fcondA_false, binA_add, binA_sub, binA_mul, binA_eql, binA_neq, binA_lss, binA_leq, binA_gtr, binA_geq, unA_not, Bool.not_true, Bool.not_false, convA_int, extA_tuple, List.getElem?_toArray, List.getElem?_cons_zero, List.getElem?_cons_succ]
  by_cases hb0 : b = []
  · have c1 : ((b.length : Int) == 0) = true := by rw [hb0]; rfl
    simp only [c1, lenSl_slice, lenStr_string, str_size, fpureA_some, fnilA_ptr, faddA_ptr, addr_add, Nat.zero_add, Nat.add_zero, fpureQ_k, fpureQ_nilA, fpureQ_addA, fpureQ_pureA, fpureQ_guardA, fpureQ_idxSlA, fpureQ_pickA, freadQ_loadA, freadQ_loadNA, freadQ_b2sA, freadQ_guardA, freadQ_slSlA, freadQ_k, fendA, fallA_one, fstillA_nil, fguardA_tt, fguardA_ff, fguardA_tf, fguardA_ft, fguardA_undef, fpickA_true, fpickA_false, fcondA_true, fcondA_false, binA_add, binA_sub, binA_mul, binA_eql, binA_neq, binA_lss, binA_leq, binA_gtr, binA_geq, unA_not, Bool.not_true, Bool.not_false, convA_int, extA_tuple, List.getElem?_toArray, List.getElem?_cons_zero, List.getElem?_cons_succ, buildA_iff, fillA_nil]
    exact no 1 (by unfold PS.append; rw [hs, if_neg (by simp), if_pos hb0])
  have hpos : 0 < b.length := List.length_pos_iff.2 hb0
  have c1 : ((b.length : Int) == 0) = false := by rw [beq_eq_false_iff_ne]; omega
  simp only [c1, lenSl_slice, lenStr_string, str_size, fpureA_some, fnilA_ptr, faddA_ptr, addr_add, Nat.zero_add, Nat.add_zero, fpureQ_k, fpureQ_nilA, fpureQ_addA, fpureQ_pureA, fpureQ_guardA, fpureQ_idxSlA, fpureQ_pickA, freadQ_loadA, freadQ_loadNA, freadQ_b2sA, freadQ_guardA, freadQ_slSlA, freadQ_k, fendA, fallA_one, fstillA_nil, fguardA_tt, fguardA_ff, fguardA_tf, fguardA_ft, fguardA_undef, fpickA_true, fpickA_false, fcondA_true, fcondA_false, binA_add, binA_sub, binA_mul, binA_eql, binA_neq, binA_lss, binA_leq, binA_gtr, binA_geq, unA_not, Bool.not_true, Bool.not_false, convA_int, extA_tuple, List.getElem?_toArray, List.getElem?_cons_zero, List.getElem?_cons_succ]
  have w1p : Pk w0 h1' p st S := ⟨xi, xs, xt, A, B, C, w1', hS⟩
  refine callA_of (pLeft_spec w1p o) fun v h1 ⟨e, e1⟩ f1' => ?_
  subst e e1
  simp only [lenSl_slice, lenStr_string, str_size, fpureA_some, fnilA_ptr, faddA_ptr, addr_add, Nat.zero_add, Nat.add_zero, fpureQ_k, fpureQ_nilA, fpureQ_addA, fpureQ_pureA, fpureQ_guardA, fpureQ_idxSlA, fpureQ_pickA, freadQ_loadA, freadQ_loadNA, freadQ_b2sA, freadQ_guardA, freadQ_slSlA, freadQ_k, fendA, fallA_one, fstillA_nil, fguardA_tt, fguardA_ff, fguardA_tf, fguardA_ft, fguardA_undef, fpickA_true, fpickA_false, fcondA_true, fcondA_false, binA_add, binA_sub, binA_mul, binA_eql, binA_neq, binA_lss, binA_leq, binA_gtr, binA_geq, unA_not, Bool.not_true, Bool.not_false, convA_int, extA_tuple, List.getElem?_toArray, List.getElem?_cons_zero, List.getElem?_cons_succ]
  by_cases hfull : st.left < b.length
  · have c2 : decide ((st.left : Int) < (b.length : Int)) = true := decide_eq_true (by omega)
    simp only [c2, lenSl_slice, lenStr_string, str_size, fpureA_some, fnilA_ptr, faddA_ptr, addr_add, Nat.zero_add, Nat.add_zero, fpureQ_k, fpureQ_nilA, fpureQ_addA, fpureQ_pureA, fpureQ_guardA, fpureQ_idxSlA, fpureQ_pickA, freadQ_loadA, freadQ_loadNA, freadQ_b2sA, freadQ_guardA, freadQ_slSlA, freadQ_k, fendA, fallA_one, fstillA_nil, fguardA_tt, fguardA_ff, fguardA_tf, fguardA_ft, fguardA_undef, fpickA_true, fpickA_false, fcondA_true, fcondA_false, binA_add, binA_sub, binA_mul, binA_eql, binA_neq, binA_lss, binA_leq, binA_gtr, binA_geq, unA_not, Bool.not_true, Bool.not_false, convA_int, extA_tuple, List.getElem?_toArray, List.getElem?_cons_zero, List.getElem?_cons_succ, buildA_iff, fillA_nil]
    exact no 2 (by unfold PS.append; rw [hs, if_neg (by simp), if_neg hb0, if_pos hfull])
  have c2 : decide ((st.left : Int) < (b.length : Int)) = false := decide_eq_false (by omega)
  have hroom : endOf st.chunks + 8 + b.length + 16 ≤ st.bytes := by simp only [PS.left, hs, Bool.false_eq_true, if_false] at hfull; omega
  have happ : st.append b = ((endOf st.chunks + 8, b.length, 0), { st with chunks := st.chunks ++ [b] }) := by unfold PS.append; rw [hs, if_neg (by simp), if_neg hb0, if_neg hfull]
  have ok2 : ({ st with chunks := st.chunks ++ [b] } : PS).Ok := by have := o.append b; rw [happ] at this; exact this
  simp only [c2, lenSl_slice, lenStr_string, str_size, fpureA_some, fnilA_ptr, faddA_ptr, addr_add, Nat.zero_add, Nat.add_zero, fpureQ_k, fpureQ_nilA, fpureQ_addA, fpureQ_pureA, fpureQ_guardA, fpureQ_idxSlA, fpureQ_pickA, freadQ_loadA, freadQ_loadNA, freadQ_b2sA, freadQ_guardA, freadQ_slSlA, freadQ_k, fendA, fallA_one, fstillA_nil, fguardA_tt, fguardA_ff, fguardA_tf, fguardA_ft, fguardA_undef, fpickA_true, fpickA_false, fcondA_true, fcondA_false, binA_add, binA_sub, binA_mul, binA_eql, binA_neq, binA_lss, binA_leq, binA_gtr, binA_geq, unA_not, Bool.not_true, Bool.not_false, convA_int, extA_tuple, List.getElem?_toArray, List.getElem?_cons_zero, List.getElem?_cons_succ]
  refine callA_of (pend_spec w1p o) fun v h1' ⟨e, e1⟩ f1'' => ?_
  subst e e1
  simp only [hlen, lenSl_slice, lenStr_string, str_size, fpureA_some, fnilA_ptr, faddA_ptr, addr_add, Nat.zero_add, Nat.add_zero, fpureQ_k, fpureQ_nilA, fpureQ_addA, fpureQ_pureA, fpureQ_guardA, fpureQ_idxSlA, fpureQ_pickA, freadQ_loadA, freadQ_loadNA, freadQ_b2sA, freadQ_guardA, freadQ_slSlA, freadQ_k, fendA, fallA_one, fstillA_nil, fguardA_tt, fguardA_ff, fguardA_tf, fguardA_ft, fguardA_undef, fpickA_true, fpickA_false, fcondA_true, fcondA_false, binA_add, binA_sub, binA_mul, binA_eql, binA_neq, binA_lss, binA_leq, binA_gtr, binA_geq, unA_not, Bool.not_true, Bool.not_false, convA_int, extA_tuple, List.getElem?_toArray, List.getElem?_cons_zero, List.getElem?_cons_succ]
  refine callA_of (length_spec b.length (by omega)) fun v h2 ⟨e, s2⟩ f2 => ?_
  subst e
  have t2 : Step h h2 [] [h.next] := s1.trans (s2.idle [h.next] (by simpa using hl1))
  have w2 := w1'.frame s2 (by simp)
  refine loadA_at w2.base w2.blk (by rfl) ?_
  obtain ⟨ai, ci, hxi⟩ := w2.vi.slice
  have hli : lenSl xi = some (.int .i64 st.image.length) := by rw [hxi]; rfl
  simp only [hli, lenSl_slice, lenStr_string, str_size, fpureA_some, fnilA_ptr, faddA_ptr, addr_add, Nat.zero_add, Nat.add_zero, fpureQ_k, fpureQ_nilA, fpureQ_addA, fpureQ_pureA, fpureQ_guardA, fpureQ_idxSlA, fpureQ_pickA, freadQ_loadA, freadQ_loadNA, freadQ_b2sA, freadQ_guardA, freadQ_slSlA, freadQ_k, fendA, fallA_one, fstillA_nil, fguardA_tt, fguardA_ff, fguardA_tf, fguardA_ft, fguardA_undef, fpickA_true, fpickA_false, fcondA_true, fcondA_false, binA_add, binA_sub, binA_mul, binA_eql, binA_neq, binA_lss, binA_leq, binA_gtr, binA_geq, unA_not, Bool.not_true, Bool.not_false, convA_int, extA_tuple, List.getElem?_toArray, List.getElem?_cons_zero, List.getElem?_cons_succ]
  refine callA_of (NewWriter_spec _ (by omega)) fun v h3 ⟨e, w3, s3⟩ f3 => ?_
  subst e
  rw [show max (st.image.length : Int) 0 = (st.image.length : Int) by omega] at w3
  refine callA_of (WRaw_spec (be 4 b.length) (by simp) w3 (by simp)) fun v h4 ⟨S4, w4, s4⟩ f4 => ?_
  rw [wput (by simp; omega)] at w4
  have a4 : Step h2 h4 [] S4 := s3.trans s4
  have t4 : Step h h4 [] [h.next] := t2.trans (a4.idle [h.next] (by have := t2.next; have := s2.next; simp; omega))
  refine Bs.b2s (vb.step f t4 (by simp)) ?_
  have ha : binA .add (.string (str (be 4 b.length))) (.string (str b)) = some (.string (str (be 4 b.length ++ b))) := by
    rw [strA_add _ _ (by simp; omega), str_append]
  simp only [ha, lenSl_slice, lenStr_string, str_size, fpureA_some, fnilA_ptr, faddA_ptr, addr_add, Nat.zero_add, Nat.add_zero, fpureQ_k, fpureQ_nilA, fpureQ_addA, fpureQ_pureA, fpureQ_guardA, fpureQ_idxSlA, fpureQ_pickA, freadQ_loadA, freadQ_loadNA, freadQ_b2sA, freadQ_guardA, freadQ_slSlA, freadQ_k, fendA, fallA_one, fstillA_nil, fguardA_tt, fguardA_ff, fguardA_tf, fguardA_ft, fguardA_undef, fpickA_true, fpickA_false, fcondA_true, fcondA_false, binA_add, binA_sub, binA_mul, binA_eql, binA_neq, binA_lss, binA_leq, binA_gtr, binA_geq, unA_not, Bool.not_true, Bool.not_false, convA_int, extA_tuple, List.getElem?_toArray, List.getElem?_cons_zero, List.getElem?_cons_succ]
  refine callA_of (Crc_spec _ (by simp; omega)) fun v h4' ⟨e, e4⟩ f4' => ?_
  subst e e4
  refine callA_of (U32w_spec _ w4 (by simp)) fun v h5 ⟨S5, w5, s5⟩ f5 => ?_
  rw [wput (by simp; omega)] at w5
  have a5 : Step h2 h5 [] S5 := a4.trans s5
  have t5 : Step h h5 [] [h.next] := t2.trans (a5.idle [h.next] (by have := t2.next; have := s2.next; simp; omega))
  refine Bs.b2s (vb.step f t5 (by simp)) ?_
  refine callA_of (WRaw_spec b (by omega) w5 (by simp; omega)) fun v h6 ⟨S6, w6, s6⟩ f6 => ?_
  rw [wput (by simp; omega)] at w6
  have a6 : Step h2 h6 [] S6 := a5.trans s6
  have t6 : Step h h6 [] [h.next] := t2.trans (a6.idle [h.next] (by have := t2.next; have := s2.next; simp; omega))
  refine callA_of (WDone_spec w6) fun v h6' ⟨e, e6⟩ f6' => ?_
  subst e e6
  have o1 : (⟨(st.image.length : Int), [] ++ be 4 b.length ++ be 4 (crcOf (be 4 b.length ++ b)) ++ b, false⟩ : WS).out = slotB b := by simp [WS.out, slotB]
  simp only [lenSl_slice, lenStr_string, str_size, fpureA_some, fnilA_ptr, faddA_ptr, addr_add, Nat.zero_add, Nat.add_zero, fpureQ_k, fpureQ_nilA, fpureQ_addA, fpureQ_pureA, fpureQ_guardA, fpureQ_idxSlA, fpureQ_pickA, freadQ_loadA, freadQ_loadNA, freadQ_b2sA, freadQ_guardA, freadQ_slSlA, freadQ_k, fendA, fallA_one, fstillA_nil, fguardA_tt, fguardA_ff, fguardA_tf, fguardA_ft, fguardA_undef, fpickA_true, fpickA_false, fcondA_true, fcondA_false, binA_add, binA_sub, binA_mul, binA_eql, binA_neq, binA_lss, binA_leq, binA_gtr, binA_geq, unA_not, Bool.not_true, Bool.not_false, convA_int, extA_tuple, List.getElem?_toArray, List.getElem?_cons_zero, List.getElem?_cons_succ, o1]
  have p6 := w2.frame a6 (by simp)
  refine loadA_at p6.base p6.blk (by rfl) ?_
  have hbi : Bs w0 h6' xi st.image := p6.vi.sl
  refine hbi.cut (lo := endOf st.chunks) (hi := st.image.length) boundA_nat rfl (by omega) (Nat.le_refl _) fun x7 hc7 _ _ => ?_
  rw [hc7]
  have hAlt : ∀ c, c ∈ A → c < h.next := fun c hc => (w.lts c (by rw [hS]; simp [hc])).2
  have hBlt : ∀ c, c ∈ B → c < h.next := fun c hc => (w.lts c (by rw [hS]; simp [hc])).2
  have hClt : ∀ c, c ∈ C → c < h.next := fun c hc => (w.lts c (by rw [hS]; simp [hc])).2
  have hplt : p < h.next := (w.lts p (by rw [hS]; simp)).2
  have sep := w1'.sep
  refine p6.vi.copy (m := slotB b) (by omega) (Nat.le_refl _) (by rw [slotB_length]; omega) (by simp) (by have := src_string (h := h6') w0.heap.size (str (slotB b)); simpa using this) fun r7 h7 _ vi7 s7 => ?_
  rw [image_append o hs hroom] at vi7
  have hp7 : h7.blk p = _ := (s7.keep p p6.lt sep.pa).1.trans p6.blk
  have vs7 := p6.vs.frame s7 fun c hc he => sep.ab c he hc
  have vt7 := p6.vt.frame s7 fun c hc he => sep.ac c he hc
  have hq0A : h.next ∉ A := fun e => by have := hAlt _ e; omega
  have hq0B : h.next ∉ B := fun e => by have := hBlt _ e; omega
  have hq0C : h.next ∉ C := fun e => by have := hClt _ e; omega
  have hl6 : h.next < h6'.next := (t6.own h.next (by simp)).1
  have hq6 : h6'.blk h.next = some [.int .i64 0, .int .i64 0] := by rw [(a6.keep h.next (by have := s2.next; omega) (by simp)).1, (s2.keep h.next hl1 (by simp)).1]; exact hq1
  have hq7 : h7.blk h.next = some [.int .i64 0, .int .i64 0] := (s7.keep _ hl6 hq0A).1.trans hq6
  have hl7 : h.next < h7.next := by have := s7.next; omega
  have hB7 : w0.heap.size ≤ h7.next := by omega
  have e8 : IntKind.i64.wrap ((endOf st.chunks : Int) + 8) = ((endOf st.chunks + 8 : Nat) : Int) := by rw [IntWalk.i64_in _ (by omega)]; simp
  simp only [hlen, lenSl_slice, lenStr_string, str_size, fpureA_some, fnilA_ptr, faddA_ptr, addr_add, Nat.zero_add, Nat.add_zero, fpureQ_k, fpureQ_nilA, fpureQ_addA, fpureQ_pureA, fpureQ_guardA, fpureQ_idxSlA, fpureQ_pickA, freadQ_loadA, freadQ_loadNA, freadQ_b2sA, freadQ_guardA, freadQ_slSlA, freadQ_k, fendA, fallA_one, fstillA_nil, fguardA_tt, fguardA_ff, fguardA_tf, fguardA_ft, fguardA_undef, fpickA_true, fpickA_false, fcondA_true, fcondA_false, binA_add, binA_sub, binA_mul, binA_eql, binA_neq, binA_lss, binA_leq, binA_gtr, binA_geq, unA_not, Bool.not_true, Bool.not_false, convA_int, extA_tuple, List.getElem?_toArray, List.getElem?_cons_zero, List.getElem?_cons_succ, e8, buildA_iff, fillA_one, fillA_nil, isCell_int, true_and, List.set_cons_zero, List.set_cons_succ, List.length_cons, List.length_nil, newA_iff]
  refine ⟨by omega, by omega, by simp, store2 (cs := [.int .i64 0, .int .i64 0]) hB7 (by simp) rfl ?_⟩
  rw [put_new]
  have s8 : Step h7 (h7.new [.int .i64 ((endOf st.chunks + 8 : Nat) : Int), .int .i64 (b.length : Int)] 2) [] [h7.next] := (Step.refl h7 [] (by simp)).new _ _
  have hq8 : (h7.new [.int .i64 ((endOf st.chunks + 8 : Nat) : Int), .int .i64 (b.length : Int)] 2).blk h7.next = some [.int .i64 ((endOf st.chunks + 8 : Nat) : Int), .int .i64 (b.length : Int)] := by simp
  have hl8 : h7.next < (h7.new [.int .i64 ((endOf st.chunks + 8 : Nat) : Int), .int .i64 (b.length : Int)] 2).next := by simp
  generalize h7.new [.int .i64 ((endOf st.chunks + 8 : Nat) : Int), .int .i64 (b.length : Int)] 2 = h8 at s8 hq8 hl8 ⊢
  have hlt7 : p < h7.next := by have := s7.next; have := p6.lt; omega
  have hp8 : h8.blk p = _ := (s8.keep p hlt7 (by simp)).1.trans hp7
  refine loadA_at p6.base hp8 (by rfl) ?_
  refine loadNA_whole hB7 hq8 rfl ?_
  have hz : zerosL [(.int .i64 0 : Value), .int .i64 0] 1 = [.int .i64 0, .int .i64 0] := rfl
  simp only [bslA_iff, hz, fillA_agg, fillA_nil, List.toList_toArray]
  refine ⟨by simp, by simp, ?_⟩
  rw [splice_all _ _ (by simp)]
  have hB8 : w0.heap.size ≤ h8.next := by have := s8.next; omega
  have s9 : Step h8 (h8.new [.int .i64 ((endOf st.chunks + 8 : Nat) : Int), .int .i64 (b.length : Int)] 2) [] [h8.next] := (Step.refl h8 [] (by simp)).new _ _
  have src9 : Src w0.heap.size (h8.new [.int .i64 ((endOf st.chunks + 8 : Nat) : Int), .int .i64 (b.length : Int)] 2) 2 (.slice (some ⟨h8.next, 0, none⟩) 1 1) 1 [.int .i64 ((endOf st.chunks + 8 : Nat) : Int), .int .i64 (b.length : Int)] := src_new hB8 (by simp)
  generalize h8.new [.int .i64 ((endOf st.chunks + 8 : Nat) : Int), .int .i64 (b.length : Int)] 2 = h9 at s9 src9 ⊢
  have hlt8 : p < h8.next := by have := s8.next; omega
  have hp9 : h9.blk p = _ := (s9.keep p hlt8 (by simp)).1.trans hp8
  simp only [stillA_iff, allA_cons, allA_one, sameQ_loadA]
  refine ⟨loadA_at p6.base hp9 (by rfl) rfl, ?_⟩
  have s79 : Step h7 h9 [] [] := (s8.drop.trans s9).drop
  have vs9 := vs7.frame s79 (by simp)
  have hcl := chunks_le (cs := st.chunks)
  have hB9 : w0.heap.size ≤ h9.next := by have := s9.next; omega
  refine appA_gv (m := 1) hB9 vs9 (by simp) src9 (by simp) (by omega) (by omega) (by omega) fun x10 h10 B' vs10 s10 => ?_
  have hB'n : ∀ c, c ∈ B' → c ∈ B ∨ h9.next ≤ c := fun c hc => (s10.own c hc).2
  have hlt9 : p < h9.next := by have := s9.next; omega
  have hl9 : h.next < h9.next := by have := s79.next; omega
  have hl79 : h7.next < h9.next := by have := s8.next; have := s9.next; omega
  have hp10 : h10.blk p = _ := (s10.keep p hlt9 sep.pb).1.trans hp9
  have hq10 : h10.blk h.next = some [.int .i64 0, .int .i64 0] := ((s10.keep _ hl9 hq0B).1.trans (s79.keep _ hl7 (by simp)).1).trans hq7
  have hq1B : h7.next ∉ B := fun e => by have := hBlt _ e; omega
  have hqs10 : h10.blk h7.next = _ := ((s10.keep _ hl79 hq1B).1.trans (s9.keep _ hl8 (by simp)).1).trans hq8
  obtain ⟨a10, c10, hx10⟩ := vs10.slice
  refine storeA_at p6.base hp10 (by simp [pkC]) (by rw [hx10]; rfl) ?_
  have hne1 : h7.next ≠ p := by omega
  have hne2 : h.next ≠ p := by omega
  have hne3 : h.next ≠ h7.next := by omega
  refine loadNA_whole (b := h7.next) (cs := [.int .i64 ((endOf st.chunks + 8 : Nat) : Int), .int .i64 (b.length : Int)]) hB7 (by simp [hne1, hqs10]) rfl ?_
  have hqf : (h10.put p ((pkC st xi xs xt).set 4 x10)).blk h.next = some [.int .i64 0, .int .i64 0] := by simp [hne2, hq10]
  refine ret2 hB hqf rfl (by simp) ?_
  rw [happ]
  have t12 : Step h10 ((h10.put p ((pkC st xi xs xt).set 4 x10)).put h.next [.int .i64 ((endOf st.chunks + 8 : Nat) : Int), .int .i64 (b.length : Int)]) [p, h.next] [p, h.next] := ((Step.refl h10 [p, h.next] (by have := s10.next; simp; omega)).put (by simp) _).put (by simp) _
  have hpB' : p ∉ B' := fun e => by rcases hB'n p e with g | g; exact sep.pb g; omega
  have hqB' : h.next ∉ B' := fun e => by rcases hB'n _ e with g | g; exact hq0B g; omega
  have s7_10 : Step h7 h10 B B' := (s79.idle B fun c hc => by have := hBlt c hc; omega).trans s10
  refine ⟨p :: (A ++ (B' ++ C)), rfl, ⟨xi, x10, xt, A, B', C, ⟨?_, p6.base, ?_, ?_, ?_, ?_, ⟨sep.pa, hpB', sep.pc, fun c hc he => ?_, sep.ac, fun c hc he => ?_⟩⟩, rfl⟩, ?_⟩
  · rw [put_blk, if_neg (by omega), put_blk, if_pos rfl]
    rfl
  · have := t12.next; have := s10.next; omega
  · exact (vi7.frame s7_10 sep.ab).frame t12 (fun c hc he => by
      simp at he
      rcases he with rfl | rfl
      · exact sep.pa hc
      · exact hq0A hc) |> fun g => by rw [ok2.image]; rw [hi] at g; exact g
  · have g := vs10.frame t12 (fun c hc he => by
      simp at he
      rcases he with rfl | rfl
      · exact hpB' hc
      · exact hqB' hc)
    have e : slotC (slotsFrom 16 (st.chunks ++ [b])) = slotC (slotsFrom 16 st.chunks) ++ [.int .i64 ((endOf st.chunks + 8 : Nat) : Int), .int .i64 (b.length : Int)] := by
      rw [slotsFrom_snoc]; simp [slotC]
    show GV w0 _ 2 x10 (st.chunks ++ [b]).length (slotC (slotsFrom 16 (st.chunks ++ [b]))) B'
    rw [e, List.length_append]
    exact g
  · exact (vt7.frame s7_10 (fun c hc he => sep.bc c he hc)).frame t12 (fun c hc he => by
      simp at he
      rcases he with rfl | rfl
      · exact sep.pc hc
      · exact hq0C hc)
  · rcases hB'n c he with g | g
    · exact sep.ab c hc g
    · have := hAlt c hc; omega
  · rcases hB'n c hc with g | g
    · exact sep.bc c g he
    · have := hClt c he; omega
  · have t6' : Step h h6' (p :: (A ++ (B ++ C))) ([h.next] ++ (p :: (A ++ (B ++ C)))) := (t6.wide (T := p :: (A ++ (B ++ C))) (T' := [h.next] ++ (p :: (A ++ (B ++ C)))) (by simp) fun c hc => by
      rcases List.mem_append.1 hc with e | e
      · exact .inl e
      · exact .inr ⟨e, (w.lts c (by rw [hS]; exact e)).2⟩)
    have hSlt : ∀ c, c ∈ [h.next] ++ (p :: (A ++ (B ++ C))) → c < h6'.next := fun c hc => (t6'.own c hc).1
    have t7' := t6'.trans (s7.wide (T := [h.next] ++ (p :: (A ++ (B ++ C)))) (T' := [h.next] ++ (p :: (A ++ (B ++ C)))) (fun c hc => by simp [hc]) fun c hc => .inr ⟨hc, hSlt c hc⟩)
    have hSlt7 : ∀ c, c ∈ [h.next] ++ (p :: (A ++ (B ++ C))) → c < h7.next := fun c hc => (t7'.own c hc).1
    have t10' := t7'.trans (s7_10.wide (T := [h.next] ++ (p :: (A ++ (B ++ C)))) (T' := [h.next] ++ (p :: (A ++ (B' ++ C)))) (fun c hc => by simp [hc]) fun c hc => by
      simp only [List.mem_append, List.mem_cons, List.not_mem_nil, or_false] at hc
      rcases hc with rfl | rfl | hc | hc | hc
      · exact .inr ⟨by simp, hl7⟩
      · exact .inr ⟨by simp, hlt7⟩
      · exact .inr ⟨by simp [hc], hSlt7 c (by simp [hc])⟩
      · exact .inl hc
      · exact .inr ⟨by simp [hc], hSlt7 c (by simp [hc])⟩)
    rw [hS]
    exact ((t10'.put (p := p) (by simp) _).put (p := h.next) (by simp) _).less (fun c hc => by simp only [List.mem_append]; exact .inr hc)
end

section
variable {w0 : World} {h : Hp} {p : Nat} {st : PS} {S : List Nat}
theorem index_loop {k0 kr : Value → Hp → Prop} {a : Option Addr} {c q : Nat} {l : List (Nat × Nat)} {o n : Int} (v : Sl w0 h 2 (.slice a l.length c) l.length (slotC l)) (hB : w0.heap.size ≤ q) (hq : h.blk q = some [.int .i64 o, .int .i64 n]) (hl : l.length ≤ 1000000000) :
    ∀ (post pre : List (Nat × Nat)), pre ++ post = l → ((post.any fun p => o == (p.1 : Int) && n == (p.2 : Int)) = false → k0 (.int .i64 0) h) → (∀ i : Nat, (post.any fun p => o == (p.1 : Int) && n == (p.2 : Int)) = true → kr (.int .i64 (i : Int)) h) →
    slices_Index_lapi_Slot_api_Slot_L1 prog w0 k0 kr (post.length + 1) (.slice a l.length c) (.pointer (some ⟨q, 0, none⟩)) (.int .i64 0) (.int .i64 (l.length : Int)) (.int .i64 (pre.length : Int)) h := by
  intro post
  induction post with
  | nil =>
    intro pre he hk hkr
    have : pre = l := by simpa using he
    subst this
    rw [List.length_nil, slices_Index_lapi_Slot_api_Slot_L1]
    simp only [slices_Index_lapi_Slot_api_Slot_B1, lenSl_slice, lenStr_string, str_size, fpureA_some, fnilA_ptr, faddA_ptr, addr_add, Nat.zero_add, Nat.add_zero, fpureQ_k, fpureQ_nilA, fpureQ_addA, fpureQ_pureA, fpureQ_guardA, fpureQ_idxSlA, fpureQ_pickA, freadQ_loadA, freadQ_loadNA, freadQ_b2sA, freadQ_guardA, freadQ_slSlA, freadQ_k, fendA, fallA_one, fstillA_nil, fguardA_tt, fguardA_ff, fguardA_tf, fguardA_ft, fguardA_undef, fpickA_true, fpickA_false, fcondA_true, fcondA_false, binA_add, binA_sub, binA_mul, binA_eql, binA_neq, binA_lss, binA_leq, binA_gtr, binA_geq, unA_not, Bool.not_true, Bool.not_false, convA_int, extA_tuple, List.getElem?_toArray, List.getElem?_cons_zero, List.getElem?_cons_succ, Int.lt_irrefl, decide_false]
    exact hk rfl
  | cons d post ih =>
    intro pre he hk hkr
    have hlen : pre.length + (post.length + 1) = l.length := by rw [← he]; simp
    have hg : l[pre.length]? = some d := by rw [← he]; simp
    have c1 : decide ((pre.length : Int) < (l.length : Int)) = true := decide_eq_true (by omega)
    have e6 : IntKind.i64.wrap ((pre.length : Int) + 1) = ((pre.length + 1 : Nat) : Int) := by rw [IntWalk.i64_in _ (by omega)]; simp
    have hd : ((slotC l).drop (pre.length * 2)).take 2 = [.int .i64 (d.1 : Int), .int .i64 (d.2 : Int)] := drop_flatMap (e := fun p : Nat × Nat => [(.int .i64 (p.1 : Int) : Value), .int .i64 (p.2 : Int)]) (fun _ => rfl) l _ d hg
    rw [List.length_cons, slices_Index_lapi_Slot_api_Slot_L1]
    simp only [slices_Index_lapi_Slot_api_Slot_B1, lenSl_slice, lenStr_string, str_size, fpureA_some, fnilA_ptr, faddA_ptr, addr_add, Nat.zero_add, Nat.add_zero, fpureQ_k, fpureQ_nilA, fpureQ_addA, fpureQ_pureA, fpureQ_guardA, fpureQ_idxSlA, fpureQ_pickA, freadQ_loadA, freadQ_loadNA, freadQ_b2sA, freadQ_guardA, freadQ_slSlA, freadQ_k, fendA, fallA_one, fstillA_nil, fguardA_tt, fguardA_ff, fguardA_tf, fguardA_ft, fguardA_undef, fpickA_true, fpickA_false, fcondA_true, fcondA_false, binA_add, binA_sub, binA_mul, binA_eql, binA_neq, binA_lss, binA_leq, binA_gtr, binA_geq, unA_not, Bool.not_true, Bool.not_false, convA_int, extA_tuple, List.getElem?_toArray, List.getElem?_cons_zero, List.getElem?_cons_succ, c1]
    refine loadNA_whole hB hq rfl ?_
    refine idx_loadN v.src (by omega) ?_
    rw [hd]
    simp only [eqSlot w0, fpureQ_eqStA, lenSl_slice, lenStr_string, str_size, fpureA_some, fnilA_ptr, faddA_ptr, addr_add, Nat.zero_add, Nat.add_zero, fpureQ_k, fpureQ_nilA, fpureQ_addA, fpureQ_pureA, fpureQ_guardA, fpureQ_idxSlA, fpureQ_pickA, freadQ_loadA, freadQ_loadNA, freadQ_b2sA, freadQ_guardA, freadQ_slSlA, freadQ_k, fendA, fallA_one, fstillA_nil, fguardA_tt, fguardA_ff, fguardA_tf, fguardA_ft, fguardA_undef, fpickA_true, fpickA_false, fcondA_true, fcondA_false, binA_add, binA_sub, binA_mul, binA_eql, binA_neq, binA_lss, binA_leq, binA_gtr, binA_geq, unA_not, Bool.not_true, Bool.not_false, convA_int, extA_tuple, List.getElem?_toArray, List.getElem?_cons_zero, List.getElem?_cons_succ]
    cases hc : (o == (d.1 : Int) && n == (d.2 : Int)) with
    | true =>
      simp only [lenSl_slice, lenStr_string, str_size, fpureA_some, fnilA_ptr, faddA_ptr, addr_add, Nat.zero_add, Nat.add_zero, fpureQ_k, fpureQ_nilA, fpureQ_addA, fpureQ_pureA, fpureQ_guardA, fpureQ_idxSlA, fpureQ_pickA, freadQ_loadA, freadQ_loadNA, freadQ_b2sA, freadQ_guardA, freadQ_slSlA, freadQ_k, fendA, fallA_one, fstillA_nil, fguardA_tt, fguardA_ff, fguardA_tf, fguardA_ft, fguardA_undef, fpickA_true, fpickA_false, fcondA_true, fcondA_false, binA_add, binA_sub, binA_mul, binA_eql, binA_neq, binA_lss, binA_leq, binA_gtr, binA_geq, unA_not, Bool.not_true, Bool.not_false, convA_int, extA_tuple, List.getElem?_toArray, List.getElem?_cons_zero, List.getElem?_cons_succ]
      exact hkr pre.length (by rw [List.any_cons, hc]; rfl)
    | false =>
      simp only [lenSl_slice, lenStr_string, str_size, fpureA_some, fnilA_ptr, faddA_ptr, addr_add, Nat.zero_add, Nat.add_zero, fpureQ_k, fpureQ_nilA, fpureQ_addA, fpureQ_pureA, fpureQ_guardA, fpureQ_idxSlA, fpureQ_pickA, freadQ_loadA, freadQ_loadNA, freadQ_b2sA, freadQ_guardA, freadQ_slSlA, freadQ_k, fendA, fallA_one, fstillA_nil, fguardA_tt, fguardA_ff, fguardA_tf, fguardA_ft, fguardA_undef, fpickA_true, fpickA_false, fcondA_true, fcondA_false, binA_add, binA_sub, binA_mul, binA_eql, binA_neq, binA_lss, binA_leq, binA_gtr, binA_geq, unA_not, Bool.not_true, Bool.not_false, convA_int, extA_tuple, List.getElem?_toArray, List.getElem?_cons_zero, List.getElem?_cons_succ, e6]
      have := ih (pre ++ [d]) (by simpa using he) (fun e => hk (by rw [List.any_cons, hc]; exact e)) (fun i e => hkr i (by rw [List.any_cons, hc]; exact e))
      simpa using this
theorem contains_spec {x : Value} {l : List (Nat × Nat)} (v : Sl w0 h 2 x l.length (slotC l)) (o n : Int) (hl : l.length ≤ 1000000000) :
    ACalls prog w0 n_slices_Contains_lapi_Slot_api_Slot [x, slt o n] h fun r h' => r = .bool (l.any fun p => o == (p.1 : Int) && n == (p.2 : Int)) ∧ Step h h' [] [] := by
  refine ACalls.of_fit (by simpa [slt] using v.junk) fun f => c_slices_Contains_lapi_Slot_api_Slot (by simpa [slt] using v.junk) ?_
  simp only [s_slices_Contains_lapi_Slot_api_Slot, slt, boxA_agg, List.toList_toArray]
  have s1 : Step h (h.new [.int .i64 o, .int .i64 n] 2) [] [h.next] := (Step.refl h [] (by simp)).new _ _
  refine loadNA_whole f.base (by simp; rfl) rfl ?_
  have v1 := v.step f s1 (by simp)
  generalize h.new [.int .i64 o, .int .i64 n] 2 = h1 at s1 v1 ⊢
  have idx : ACalls prog w0 n_slices_Index_lapi_Slot_api_Slot [x, .agg [.int .i64 o, .int .i64 n].toArray] h1 fun r h' => (∃ i : Int, r = .int .i64 i ∧ (decide (0 ≤ i)) = (l.any fun p => o == (p.1 : Int) && n == (p.2 : Int))) ∧ Step h1 h' [] [] := by
    refine ACalls.of_fit (by simpa using v.junk) fun f1 => c_slices_Index_lapi_Slot_api_Slot (by simpa using v.junk) ?_
    simp only [s_slices_Index_lapi_Slot_api_Slot, boxA_agg, List.toList_toArray]
    have s2 : Step h1 (h1.new [.int .i64 o, .int .i64 n] 2) [] [h1.next] := (Step.refl h1 [] (by simp)).new _ _
    have v2 := v1.step f1 s2 (by simp)
    obtain ⟨a, c, rfl⟩ := v2.slice
    simp only [lenSl_slice, lenStr_string, str_size, fpureA_some, fnilA_ptr, faddA_ptr, addr_add, Nat.zero_add, Nat.add_zero, fpureQ_k, fpureQ_nilA, fpureQ_addA, fpureQ_pureA, fpureQ_guardA, fpureQ_idxSlA, fpureQ_pickA, freadQ_loadA, freadQ_loadNA, freadQ_b2sA, freadQ_guardA, freadQ_slSlA, freadQ_k, fendA, fallA_one, fstillA_nil, fguardA_tt, fguardA_ff, fguardA_tf, fguardA_ft, fguardA_undef, fpickA_true, fpickA_false, fcondA_true, fcondA_false, binA_add, binA_sub, binA_mul, binA_eql, binA_neq, binA_lss, binA_leq, binA_gtr, binA_geq, unA_not, Bool.not_true, Bool.not_false, convA_int, extA_tuple, List.getElem?_toArray, List.getElem?_cons_zero, List.getElem?_cons_succ]
    refine ⟨l.length + 1, index_loop (o := o) (n := n) v2 f1.base (by simp) hl l [] rfl (fun e => ?_) (fun i e => ?_)⟩
    · simp only [retA_iff, oneOf_one]
      exact ⟨by simp, ⟨-1, rfl, by rw [e]; rfl⟩, s2.drop⟩
    · simp only [retA_iff, oneOf_one]
      exact ⟨by simp, ⟨i, rfl, by rw [e]; exact decide_eq_true (by omega)⟩, s2.drop⟩
  refine callA_of idx fun r h2 ⟨⟨i, e, hi⟩, s2⟩ f2 => ?_
  subst e
  simp only [lenSl_slice, lenStr_string, str_size, fpureA_some, fnilA_ptr, faddA_ptr, addr_add, Nat.zero_add, Nat.add_zero, fpureQ_k, fpureQ_nilA, fpureQ_addA, fpureQ_pureA, fpureQ_guardA, fpureQ_idxSlA, fpureQ_pickA, freadQ_loadA, freadQ_loadNA, freadQ_b2sA, freadQ_guardA, freadQ_slSlA, freadQ_k, fendA, fallA_one, fstillA_nil, fguardA_tt, fguardA_ff, fguardA_tf, fguardA_ft, fguardA_undef, fpickA_true, fpickA_false, fcondA_true, fcondA_false, binA_add, binA_sub, binA_mul, binA_eql, binA_neq, binA_lss, binA_leq, binA_gtr, binA_geq, unA_not, Bool.not_true, Bool.not_false, convA_int, extA_tuple, List.getElem?_toArray, List.getElem?_cons_zero, List.getElem?_cons_succ, hi, retA_iff, oneOf_one]
  exact ⟨by simp, by trivial, (s1.drop.trans s2)⟩
theorem pRead_spec (w : Pk w0 h p st S) (ok : st.Ok) (o n : Int) :
    ACalls prog w0 n_pack_Pack_Read [ptr p, slt o n] h fun r h' => (match st.read o n with
      | some c => ∃ x T, r = .tuple #[x, .int .i64 0] ∧ GV w0 h' 1 x c.length (bvs c) T ∧ (∀ b, b ∈ T → h.next ≤ b) ∧ Step h h' [] T
      | none => r = .tuple #[.slice none 0 0, .int .i64 130] ∧ Step h h' [] []) := by
  refine ACalls.of_fit (by simp [slt, ptr]) fun f => c_pack_Pack_Read (by simp [slt, ptr]) ?_
  simp only [s_pack_Pack_Read, slt, boxA_agg, List.toList_toArray]
  have hby := ok.bytes
  have hi := ok.image
  have hr := ok.room
  have s1 : Step h (h.new [.int .i64 o, .int .i64 n] 2) [] [h.next] := (Step.refl h [] (by simp)).new _ _
  have hq1 : (h.new [.int .i64 o, .int .i64 n] 2).blk h.next = some [.int .i64 o, .int .i64 n] := by simp
  have hl1 : h.next < (h.new [.int .i64 o, .int .i64 n] 2).next := by simp
  generalize h.new [.int .i64 o, .int .i64 n] 2 = h1 at s1 hq1 hl1 ⊢
  have w1 := w.frame s1 (by simp)
  refine callA_of (pmade_spec w1 ok) fun v h1' ⟨e, e1⟩ f1 => ?_
  subst e e1
  obtain ⟨xi, xs, xt, A, B, C, w1', hS⟩ := w1
  have hcl := chunks_le (cs := st.chunks)
  simp only [ptr, lenSl_slice, lenStr_string, str_size, fpureA_some, fnilA_ptr, faddA_ptr, addr_add, Nat.zero_add, Nat.add_zero, fpureQ_k, fpureQ_nilA, fpureQ_addA, fpureQ_pureA, fpureQ_guardA, fpureQ_idxSlA, fpureQ_pickA, freadQ_loadA, freadQ_loadNA, freadQ_b2sA, freadQ_guardA, freadQ_slSlA, freadQ_k, fendA, fallA_one, fstillA_nil, fguardA_tt, fguardA_ff, fguardA_tf, fguardA_ft, fguardA_undef, fpickA_true, fpickA_false, fcondA_true, fcondA_false, binA_add, binA_sub, binA_mul, binA_eql, binA_neq, binA_lss, binA_leq, binA_gtr, binA_geq, unA_not, Bool.not_true, Bool.not_false, convA_int, extA_tuple, List.getElem?_toArray, List.getElem?_cons_zero, List.getElem?_cons_succ]
  refine loadA_at w1'.base w1'.blk (by rfl) ?_
  refine loadNA_whole f.base hq1 rfl ?_
  have vs : Sl w0 h1' 2 xs (slotsFrom 16 st.chunks).length (slotC (slotsFrom 16 st.chunks)) := by rw [slotsFrom_length]; exact w1'.vs.sl
  refine callA_of (contains_spec vs o n (by simp; omega)) fun v h2 ⟨e, s2⟩ f2 => ?_
  subst e
  simp only [← readFrom_some, lenSl_slice, lenStr_string, str_size, fpureA_some, fnilA_ptr, faddA_ptr, addr_add, Nat.zero_add, Nat.add_zero, fpureQ_k, fpureQ_nilA, fpureQ_addA, fpureQ_pureA, fpureQ_guardA, fpureQ_idxSlA, fpureQ_pickA, freadQ_loadA, freadQ_loadNA, freadQ_b2sA, freadQ_guardA, freadQ_slSlA, freadQ_k, fendA, fallA_one, fstillA_nil, fguardA_tt, fguardA_ff, fguardA_tf, fguardA_ft, fguardA_undef, fpickA_true, fpickA_false, fcondA_true, fcondA_false, binA_add, binA_sub, binA_mul, binA_eql, binA_neq, binA_lss, binA_leq, binA_gtr, binA_geq, unA_not, Bool.not_true, Bool.not_false, convA_int, extA_tuple, List.getElem?_toArray, List.getElem?_cons_zero, List.getElem?_cons_succ]
  have t2 : Step h h2 [] [] := s1.drop.trans s2
  have hq2 : h2.blk h.next = _ := (s2.keep _ hl1 (by simp)).1.trans hq1
  cases hc : st.read o n with
  | none =>
    have hc' : readFrom 16 st.chunks o n = none := hc
    simp only [hc', Option.isSome_none, lenSl_slice, lenStr_string, str_size, fpureA_some, fnilA_ptr, faddA_ptr, addr_add, Nat.zero_add, Nat.add_zero, fpureQ_k, fpureQ_nilA, fpureQ_addA, fpureQ_pureA, fpureQ_guardA, fpureQ_idxSlA, fpureQ_pickA, freadQ_loadA, freadQ_loadNA, freadQ_b2sA, freadQ_guardA, freadQ_slSlA, freadQ_k, fendA, fallA_one, fstillA_nil, fguardA_tt, fguardA_ff, fguardA_tf, fguardA_ft, fguardA_undef, fpickA_true, fpickA_false, fcondA_true, fcondA_false, binA_add, binA_sub, binA_mul, binA_eql, binA_neq, binA_lss, binA_leq, binA_gtr, binA_geq, unA_not, Bool.not_true, Bool.not_false, convA_int, extA_tuple, List.getElem?_toArray, List.getElem?_cons_zero, List.getElem?_cons_succ, retA_iff, oneOf_two]
    exact ⟨by simp, by trivial, t2⟩
  | some c =>
    have hc' : readFrom 16 st.chunks o n = some c := hc
    obtain ⟨k, m, rfl, rfl, h3, h4, h5, h6⟩ := ok.read hc
    have w2 := w1'.frame s2 (by simp)
    have e1 : IntKind.i64.wrap ((k : Int) + (m : Int)) = ((k + m : Nat) : Int) := by rw [IntWalk.i64_in _ (by omega)]; simp
    simp only [hc', Option.isSome_some, lenSl_slice, lenStr_string, str_size, fpureA_some, fnilA_ptr, faddA_ptr, addr_add, Nat.zero_add, Nat.add_zero, fpureQ_k, fpureQ_nilA, fpureQ_addA, fpureQ_pureA, fpureQ_guardA, fpureQ_idxSlA, fpureQ_pickA, freadQ_loadA, freadQ_loadNA, freadQ_b2sA, freadQ_guardA, freadQ_slSlA, freadQ_k, fendA, fallA_one, fstillA_nil, fguardA_tt, fguardA_ff, fguardA_tf, fguardA_ft, fguardA_undef, fpickA_true, fpickA_false, fcondA_true, fcondA_false, binA_add, binA_sub, binA_mul, binA_eql, binA_neq, binA_lss, binA_leq, binA_gtr, binA_geq, unA_not, Bool.not_true, Bool.not_false, convA_int, extA_tuple, List.getElem?_toArray, List.getElem?_cons_zero, List.getElem?_cons_succ]
    refine loadA_at w2.base w2.blk (by rfl) ?_
    refine loadA_at f.base hq2 (by rfl) ?_
    refine loadA_at f.base hq2 (by rfl) ?_
    refine loadA_at f.base hq2 (by rfl) ?_
    simp only [lenSl_slice, lenStr_string, str_size, fpureA_some, fnilA_ptr, faddA_ptr, addr_add, Nat.zero_add, Nat.add_zero, fpureQ_k, fpureQ_nilA, fpureQ_addA, fpureQ_pureA, fpureQ_guardA, fpureQ_idxSlA, fpureQ_pickA, freadQ_loadA, freadQ_loadNA, freadQ_b2sA, freadQ_guardA, freadQ_slSlA, freadQ_k, fendA, fallA_one, fstillA_nil, fguardA_tt, fguardA_ff, fguardA_tf, fguardA_ft, fguardA_undef, fpickA_true, fpickA_false, fcondA_true, fcondA_false, binA_add, binA_sub, binA_mul, binA_eql, binA_neq, binA_lss, binA_leq, binA_gtr, binA_geq, unA_not, Bool.not_true, Bool.not_false, convA_int, extA_tuple, List.getElem?_toArray, List.getElem?_cons_zero, List.getElem?_cons_succ, e1]
    have hbi : Bs w0 h2 xi st.image := w2.vi.sl
    refine hbi.cut boundA_nat boundA_nat (by omega) (by omega) fun x2 _ _ y2 => ?_
    rw [cut_eq, h6] at y2
    refine callA_of (cloneB_spec y2 (by omega)) fun r h4' ⟨⟨S4, g4, _, s4⟩, _⟩ f4 => ?_
    obtain ⟨a4, c4, hr'⟩ := g4.slice
    simp only [lenSl_slice, lenStr_string, str_size, fpureA_some, fnilA_ptr, faddA_ptr, addr_add, Nat.zero_add, Nat.add_zero, fpureQ_k, fpureQ_nilA, fpureQ_addA, fpureQ_pureA, fpureQ_guardA, fpureQ_idxSlA, fpureQ_pickA, freadQ_loadA, freadQ_loadNA, freadQ_b2sA, freadQ_guardA, freadQ_slSlA, freadQ_k, fendA, fallA_one, fstillA_nil, fguardA_tt, fguardA_ff, fguardA_tf, fguardA_ft, fguardA_undef, fpickA_true, fpickA_false, fcondA_true, fcondA_false, binA_add, binA_sub, binA_mul, binA_eql, binA_neq, binA_lss, binA_leq, binA_gtr, binA_geq, unA_not, Bool.not_true, Bool.not_false, convA_int, extA_tuple, List.getElem?_toArray, List.getElem?_cons_zero, List.getElem?_cons_succ, retA_iff, oneOf_two]
    have t4 : Step h h4' [] S4 := t2.trans s4
    refine ⟨by rw [hr']; simp, r, S4, rfl, g4, fun b hb => ?_, t4⟩
    rcases (t4.own b hb).2 with e | e
    · simp at e
    · exact e
theorem lives_spec : ACalls prog w0 n_deduplaw13_lives [] h fun v h' => v = .bool true ∧ Step h h' [] [] := by
  refine ACalls.of_fit (by simp) fun f => c_deduplaw13_lives (by simp) ?_
  have hfit : pfits 512 1 = true := by decide
  have ok0 := PS.Ok.new (id := 7) hfit (by omega)
  refine callA_of (pNew_spec 512 1 7 (by omega) (by omega)) fun v h1 ⟨r1, _⟩ f1 => ?_
  obtain ⟨q, S1, e, w1, s1⟩ := r1 hfit
  subst e
  simp only [lenSl_slice, lenStr_string, str_size, fpureA_some, fnilA_ptr, faddA_ptr, addr_add, Nat.zero_add, Nat.add_zero, fpureQ_k, fpureQ_nilA, fpureQ_addA, fpureQ_pureA, fpureQ_guardA, fpureQ_idxSlA, fpureQ_pickA, freadQ_loadA, freadQ_loadNA, freadQ_b2sA, freadQ_guardA, freadQ_slSlA, freadQ_k, fendA, fallA_one, fstillA_nil, fguardA_tt, fguardA_ff, fguardA_tf, fguardA_ft, fguardA_undef, fpickA_true, fpickA_false, fcondA_true, fcondA_false, binA_add, binA_sub, binA_mul, binA_eql, binA_neq, binA_lss, binA_leq, binA_gtr, binA_geq, unA_not, Bool.not_true, Bool.not_false, convA_int, extA_tuple, List.getElem?_toArray, List.getElem?_cons_zero, List.getElem?_cons_succ, ptr, binPtrA_eql, bne_self_eq_false]
  refine callA_of (pLeft_spec w1 ok0) fun v h1' ⟨e, e1⟩ f1' => ?_
  subst e e1
  have hl : (PS.new 512 1 7).left = 472 := by rfl
  simp only [hl, lenSl_slice, lenStr_string, str_size, fpureA_some, fnilA_ptr, faddA_ptr, addr_add, Nat.zero_add, Nat.add_zero, fpureQ_k, fpureQ_nilA, fpureQ_addA, fpureQ_pureA, fpureQ_guardA, fpureQ_idxSlA, fpureQ_pickA, freadQ_loadA, freadQ_loadNA, freadQ_b2sA, freadQ_guardA, freadQ_slSlA, freadQ_k, fendA, fallA_one, fstillA_nil, fguardA_tt, fguardA_ff, fguardA_tf, fguardA_ft, fguardA_undef, fpickA_true, fpickA_false, fcondA_true, fcondA_false, binA_add, binA_sub, binA_mul, binA_eql, binA_neq, binA_lss, binA_leq, binA_gtr, binA_geq, unA_not, Bool.not_true, Bool.not_false, convA_int, extA_tuple, List.getElem?_toArray, List.getElem?_cons_zero, List.getElem?_cons_succ, show ((((472 : Nat) : Int)) != 472) = false from rfl]
  have hz : zerosL [(.int .u8 0 : Value)] 3 = [.int .u8 0, .int .u8 0, .int .u8 0] := rfl
  simp only [hz, bslA_iff, fillA_one, fillA_nil, isCell_int, true_and, List.set_cons_zero, List.set_cons_succ, List.length_cons, List.length_nil]
  refine ⟨by omega, by omega, by omega, ?_⟩
  have hbv : [(.int .u8 97 : Value), .int .u8 98, .int .u8 99] = bvs [97, 98, 99] := rfl
  rw [hbv]
  have s2 : Step h1' (h1'.new (bvs [97, 98, 99]) 1) [] [h1'.next] := (Step.refl h1' [] (by simp)).new _ _
  have g2 : GV w0 (h1'.new (bvs [97, 98, 99]) 1) 1 (.slice (some ⟨h1'.next, 0, none⟩) 3 3) ([97, 98, 99] : List UInt8).length (bvs [97, 98, 99]) [h1'.next] := GV.new f1.base rfl (by decide)
  refine sl2sl_gv g2 (by decide) ?_
  have w2 := w1.frame s2 (by simp)
  refine callA_of (pAppend_spec w2 ok0 (g2.sl : Bs w0 _ _ [97, 98, 99]) (by decide)) fun v h3 ⟨S3, e, w3, s3⟩ f3 => ?_
  subst e
  have hap : (PS.new 512 1 7).append [97, 98, 99] = ((24, 3, 0), { PS.new 512 1 7 with chunks := [[97, 98, 99]] }) := by rfl
  have ok3 := ok0.append [97, 98, 99]
  rw [hap] at w3 ok3 ⊢
  simp only [appV, slt, lenSl_slice, lenStr_string, str_size, fpureA_some, fnilA_ptr, faddA_ptr, addr_add, Nat.zero_add, Nat.add_zero, fpureQ_k, fpureQ_nilA, fpureQ_addA, fpureQ_pureA, fpureQ_guardA, fpureQ_idxSlA, fpureQ_pickA, freadQ_loadA, freadQ_loadNA, freadQ_b2sA, freadQ_guardA, freadQ_slSlA, freadQ_k, fendA, fallA_one, fstillA_nil, fguardA_tt, fguardA_ff, fguardA_tf, fguardA_ft, fguardA_undef, fpickA_true, fpickA_false, fcondA_true, fcondA_false, binA_add, binA_sub, binA_mul, binA_eql, binA_neq, binA_lss, binA_leq, binA_gtr, binA_geq, unA_not, Bool.not_true, Bool.not_false, convA_int, extA_tuple, List.getElem?_toArray, List.getElem?_cons_zero, List.getElem?_cons_succ, newA_iff]
  refine ⟨by simp, store2 (cs := [.int .i64 0, .int .i64 0]) f3.base (by simp) rfl ?_⟩
  rw [put_new]
  have s4 : Step h3 (h3.new [.int .i64 ((24 : Nat) : Int), .int .i64 ((3 : Nat) : Int)] 2) [] [h3.next] := (Step.refl h3 [] (by simp)).new _ _
  have hq4 : (h3.new [.int .i64 ((24 : Nat) : Int), .int .i64 ((3 : Nat) : Int)] 2).blk h3.next = some [.int .i64 ((24 : Nat) : Int), .int .i64 ((3 : Nat) : Int)] := by simp
  have hl4 : h3.next < (h3.new [.int .i64 ((24 : Nat) : Int), .int .i64 ((3 : Nat) : Int)] 2).next := by simp
  have w4 := w3.frame s4 (by simp)
  refine loadNA_whole f3.base hq4 rfl ?_
  refine callA_of (pRead_spec w4 ok3 24 3) fun v h5 hr f5 => ?_
  have hrd : ({ PS.new 512 1 7 with chunks := [[97, 98, 99]] } : PS).read 24 3 = some [97, 98, 99] := by rfl
  rw [hrd] at hr
  obtain ⟨x, T, e, g5, hT, s5⟩ := hr
  subst e
  have hq5 : h5.blk h3.next = _ := (s5.keep _ hl4 (by simp)).1.trans hq4
  simp only [lenSl_slice, lenStr_string, str_size, fpureA_some, fnilA_ptr, faddA_ptr, addr_add, Nat.zero_add, Nat.add_zero, fpureQ_k, fpureQ_nilA, fpureQ_addA, fpureQ_pureA, fpureQ_guardA, fpureQ_idxSlA, fpureQ_pickA, freadQ_loadA, freadQ_loadNA, freadQ_b2sA, freadQ_guardA, freadQ_slSlA, freadQ_k, fendA, fallA_one, fstillA_nil, fguardA_tt, fguardA_ff, fguardA_tf, fguardA_ft, fguardA_undef, fpickA_true, fpickA_false, fcondA_true, fcondA_false, binA_add, binA_sub, binA_mul, binA_eql, binA_neq, binA_lss, binA_leq, binA_gtr, binA_geq, unA_not, Bool.not_true, Bool.not_false, convA_int, extA_tuple, List.getElem?_toArray, List.getElem?_cons_zero, List.getElem?_cons_succ, beq_self_eq_true]
  refine loadNA_whole f3.base hq5 rfl ?_
  simp only [buildA_iff, fillA_one, fillA_nil, isCell_int, true_and, List.set_cons_zero, List.set_cons_succ, List.length_cons, List.length_nil, eqSlot w0, lenSl_slice, lenStr_string, str_size, fpureA_some, fnilA_ptr, faddA_ptr, addr_add, Nat.zero_add, Nat.add_zero, fpureQ_k, fpureQ_nilA, fpureQ_addA, fpureQ_pureA, fpureQ_guardA, fpureQ_idxSlA, fpureQ_pickA, freadQ_loadA, freadQ_loadNA, freadQ_b2sA, freadQ_guardA, freadQ_slSlA, freadQ_k, fendA, fallA_one, fstillA_nil, fguardA_tt, fguardA_ff, fguardA_tf, fguardA_ft, fguardA_undef, fpickA_true, fpickA_false, fcondA_true, fcondA_false, binA_add, binA_sub, binA_mul, binA_eql, binA_neq, binA_lss, binA_leq, binA_gtr, binA_geq, unA_not, Bool.not_true, Bool.not_false, convA_int, extA_tuple, List.getElem?_toArray, List.getElem?_cons_zero, List.getElem?_cons_succ]
  refine ⟨by omega, by omega, ?_⟩
  have hsl : (((24 : Nat) : Int) == 24 && ((3 : Nat) : Int) == 3) = true := by decide
  simp only [eqSlot w0, hsl, lenSl_slice, lenStr_string, str_size, fpureA_some, fnilA_ptr, faddA_ptr, addr_add, Nat.zero_add, Nat.add_zero, fpureQ_k, fpureQ_nilA, fpureQ_addA, fpureQ_pureA, fpureQ_guardA, fpureQ_idxSlA, fpureQ_pickA, freadQ_loadA, freadQ_loadNA, freadQ_b2sA, freadQ_guardA, freadQ_slSlA, freadQ_k, fendA, fallA_one, fstillA_nil, fguardA_tt, fguardA_ff, fguardA_tf, fguardA_ft, fguardA_undef, fpickA_true, fpickA_false, fcondA_true, fcondA_false, binA_add, binA_sub, binA_mul, binA_eql, binA_neq, binA_lss, binA_leq, binA_gtr, binA_geq, unA_not, Bool.not_true, Bool.not_false, convA_int, extA_tuple, List.getElem?_toArray, List.getElem?_cons_zero, List.getElem?_cons_succ, beq_self_eq_true]
  refine Bs.b2s (g5.sl : Bs w0 _ _ [97, 98, 99]) ?_
  simp only [show (.string ⟨#[97, 98, 99]⟩ : Value) = .string (str [97, 98, 99]) from rfl, binA_streql, decide_true, lenSl_slice, lenStr_string, str_size, fpureA_some, fnilA_ptr, faddA_ptr, addr_add, Nat.zero_add, Nat.add_zero, fpureQ_k, fpureQ_nilA, fpureQ_addA, fpureQ_pureA, fpureQ_guardA, fpureQ_idxSlA, fpureQ_pickA, freadQ_loadA, freadQ_loadNA, freadQ_b2sA, freadQ_guardA, freadQ_slSlA, freadQ_k, fendA, fallA_one, fstillA_nil, fguardA_tt, fguardA_ff, fguardA_tf, fguardA_ft, fguardA_undef, fpickA_true, fpickA_false, fcondA_true, fcondA_false, binA_add, binA_sub, binA_mul, binA_eql, binA_neq, binA_lss, binA_leq, binA_gtr, binA_geq, unA_not, Bool.not_true, Bool.not_false, convA_int, extA_tuple, List.getElem?_toArray, List.getElem?_cons_zero, List.getElem?_cons_succ]
  have w5 := w4.frame s5 (by simp)
  refine callA_of (pLeft_spec w5 ok3) fun v h6 ⟨e, e6⟩ f6 => ?_
  subst e e6
  have hl6 : ({ PS.new 512 1 7 with chunks := [[97, 98, 99]] } : PS).left = 461 := by rfl
  simp only [hl6, lenSl_slice, lenStr_string, str_size, fpureA_some, fnilA_ptr, faddA_ptr, addr_add, Nat.zero_add, Nat.add_zero, fpureQ_k, fpureQ_nilA, fpureQ_addA, fpureQ_pureA, fpureQ_guardA, fpureQ_idxSlA, fpureQ_pickA, freadQ_loadA, freadQ_loadNA, freadQ_b2sA, freadQ_guardA, freadQ_slSlA, freadQ_k, fendA, fallA_one, fstillA_nil, fguardA_tt, fguardA_ff, fguardA_tf, fguardA_ft, fguardA_undef, fpickA_true, fpickA_false, fcondA_true, fcondA_false, binA_add, binA_sub, binA_mul, binA_eql, binA_neq, binA_lss, binA_leq, binA_gtr, binA_geq, unA_not, Bool.not_true, Bool.not_false, convA_int, extA_tuple, List.getElem?_toArray, List.getElem?_cons_zero, List.getElem?_cons_succ, show ((((461 : Nat) : Int)) == 461) = true from rfl, retA_iff, oneOf_one]
  refine ⟨by simp, by trivial, ?_⟩
  have t3 : Step h h3 [] [] := ((s1.trans (s2.idle S1 fun b hb => (w1.lts b hb).2)).trans s3).drop
  exact t3.trans ((s4.drop.trans s5).drop)
/-- PackChunks: true. -/
theorem PackChunks_spec {x : Value} {b : List UInt8} (v : ∀ h : Hp, Fit w0 h → Bs w0 h x b) (hb : b.length ≤ 1000000000) (o n : Int) (ho : -9223372036854775808 ≤ o ∧ o ≤ 9223372036854775807) (hn : -9223372036854775808 ≤ n ∧ n ≤ 9223372036854775807) (hf : Fit w0 h) :
    ACalls prog w0 n_deduplaw13_PackChunks [x, slt o n] h fun r h' => r = .bool true := by
  have hj := (v h hf).junk
  refine c_deduplaw13_PackChunks (by simpa [slt] using hj) ?_
  simp only [s_deduplaw13_PackChunks, slt, boxA_agg, List.toList_toArray]
  have s1 : Step h (h.new [.int .i64 o, .int .i64 n] 2) [] [h.next] := (Step.refl h [] (by simp)).new _ _
  have hq1 : (h.new [.int .i64 o, .int .i64 n] 2).blk h.next = some [.int .i64 o, .int .i64 n] := by simp
  have hl1 : h.next < (h.new [.int .i64 o, .int .i64 n] 2).next := by simp
  have f1 : Fit w0 (h.new [.int .i64 o, .int .i64 n] 2) := hf.new (by simp)
  generalize h.new [.int .i64 o, .int .i64 n] 2 = h1 at s1 hq1 hl1 f1 ⊢
  refine loadNA_whole hf.base hq1 rfl ?_
  have key : ∀ {r : Value} {h' : Hp}, chunkV w0 h' r (chunkOf b o n) → ∃ x e l, r = .tuple #[x, .int .i64 e] ∧ Bs w0 h' x l ∧ l = (chunkOf b o n).getD [] ∧ e = (match chunkOf b o n with | some _ => 0 | none => 130) ∧ ∃ T, (∀ b, b ∈ T → b < h'.next) ∧ GV w0 h' 1 x l.length (bvs l) T := by
    intro r h' hc
    cases hk : chunkOf b o n with
    | none => rw [hk] at hc; exact ⟨_, 130, [], hc, .nil, rfl, rfl, [], by simp, .inl .nil⟩
    | some l => rw [hk] at hc; obtain ⟨x, S, e, g⟩ := hc; exact ⟨x, 0, l, e, g.sl, rfl, rfl, S, fun b hb => (g.lt b hb).2, g⟩
  refine callA_of (Chunk_spec (v _ f1) hb o n ho hn) fun r h2 ⟨hc, s2⟩ f2 => ?_
  obtain ⟨x1, e1, l1, rfl, -, hl1', he1, T1, hT1, g1⟩ := key hc
  have hq2 : h2.blk h.next = _ := (s2.keep _ hl1 (by simp)).1.trans hq1
  simp only [lenSl_slice, lenStr_string, str_size, fpureA_some, fnilA_ptr, faddA_ptr, addr_add, Nat.zero_add, Nat.add_zero, fpureQ_k, fpureQ_nilA, fpureQ_addA, fpureQ_pureA, fpureQ_guardA, fpureQ_idxSlA, fpureQ_pickA, freadQ_loadA, freadQ_loadNA, freadQ_b2sA, freadQ_guardA, freadQ_slSlA, freadQ_k, fendA, fallA_one, fstillA_nil, fguardA_tt, fguardA_ff, fguardA_tf, fguardA_ft, fguardA_undef, fpickA_true, fpickA_false, fcondA_true, fcondA_false, binA_add, binA_sub, binA_mul, binA_eql, binA_neq, binA_lss, binA_leq, binA_gtr, binA_geq, unA_not, Bool.not_true, Bool.not_false, convA_int, extA_tuple, List.getElem?_toArray, List.getElem?_cons_zero, List.getElem?_cons_succ]
  refine loadNA_whole hf.base hq2 rfl ?_
  refine callA_of (rChunk_spec (v _ f2) hb o n ho hn) fun r h3 ⟨hc3, s3⟩ f3 => ?_
  obtain ⟨x3, e3, l3, rfl, -, hl3', he3, T3, hT3, g3⟩ := key hc3
  have g1' := g1.frame s3 (by simp)
  simp only [lenSl_slice, lenStr_string, str_size, fpureA_some, fnilA_ptr, faddA_ptr, addr_add, Nat.zero_add, Nat.add_zero, fpureQ_k, fpureQ_nilA, fpureQ_addA, fpureQ_pureA, fpureQ_guardA, fpureQ_idxSlA, fpureQ_pickA, freadQ_loadA, freadQ_loadNA, freadQ_b2sA, freadQ_guardA, freadQ_slSlA, freadQ_k, fendA, fallA_one, fstillA_nil, fguardA_tt, fguardA_ff, fguardA_tf, fguardA_ft, fguardA_undef, fpickA_true, fpickA_false, fcondA_true, fcondA_false, binA_add, binA_sub, binA_mul, binA_eql, binA_neq, binA_lss, binA_leq, binA_gtr, binA_geq, unA_not, Bool.not_true, Bool.not_false, convA_int, extA_tuple, List.getElem?_toArray, List.getElem?_cons_zero, List.getElem?_cons_succ]
  refine callA_of lives_spec fun r h4 ⟨e, s4⟩ f4 => ?_
  subst e
  simp only [lenSl_slice, lenStr_string, str_size, fpureA_some, fnilA_ptr, faddA_ptr, addr_add, Nat.zero_add, Nat.add_zero, fpureQ_k, fpureQ_nilA, fpureQ_addA, fpureQ_pureA, fpureQ_guardA, fpureQ_idxSlA, fpureQ_pickA, freadQ_loadA, freadQ_loadNA, freadQ_b2sA, freadQ_guardA, freadQ_slSlA, freadQ_k, fendA, fallA_one, fstillA_nil, fguardA_tt, fguardA_ff, fguardA_tf, fguardA_ft, fguardA_undef, fpickA_true, fpickA_false, fcondA_true, fcondA_false, binA_add, binA_sub, binA_mul, binA_eql, binA_neq, binA_lss, binA_leq, binA_gtr, binA_geq, unA_not, Bool.not_true, Bool.not_false, convA_int, extA_tuple, List.getElem?_toArray, List.getElem?_cons_zero, List.getElem?_cons_succ]
  have hll : l1.length ≤ 1000000000 := by
    rw [hl1']
    cases hk : chunkOf b o n with
    | none => simp
    | some l =>
      unfold chunkOf at hk
      split at hk
      · simp at hk
      · split at hk
        · simp at hk; rw [← hk]; simp; omega
        · simp at hk
  refine callA_of (sameB_spec (g1'.frame s4 (by simp)).sl (g3.frame s4 (by simp)).sl hll) fun r h5 ⟨e, e5⟩ f5 => ?_
  subst e e5
  have hd : decide (l1 = l3) = true := decide_eq_true (by rw [hl1', hl3'])
  have hee : (e1 == e3) = true := by rw [he1, he3]; simp
  simp only [hd, hee, lenSl_slice, lenStr_string, str_size, fpureA_some, fnilA_ptr, faddA_ptr, addr_add, Nat.zero_add, Nat.add_zero, fpureQ_k, fpureQ_nilA, fpureQ_addA, fpureQ_pureA, fpureQ_guardA, fpureQ_idxSlA, fpureQ_pickA, freadQ_loadA, freadQ_loadNA, freadQ_b2sA, freadQ_guardA, freadQ_slSlA, freadQ_k, fendA, fallA_one, fstillA_nil, fguardA_tt, fguardA_ff, fguardA_tf, fguardA_ft, fguardA_undef, fpickA_true, fpickA_false, fcondA_true, fcondA_false, binA_add, binA_sub, binA_mul, binA_eql, binA_neq, binA_lss, binA_leq, binA_gtr, binA_geq, unA_not, Bool.not_true, Bool.not_false, convA_int, extA_tuple, List.getElem?_toArray, List.getElem?_cons_zero, List.getElem?_cons_succ, retA_iff, oneOf_one]
  simp
/-- A slot as an argument. -/
structure Slot where
  o : Int
  n : Int
def Slot.e (s : Slot) : List Value := [.int .i64 s.o, .int .i64 s.n]
def dSlot : Dec Slot := ⟨Slot.e, fun s => (-9223372036854775808 ≤ s.o ∧ s.o ≤ 9223372036854775807) ∧ (-9223372036854775808 ≤ s.n ∧ s.n ≤ 9223372036854775807), fun _ => 1⟩
theorem PackChunks_top {x : Value} {b : List UInt8} (ex : ExtSl w0 1 x b.length (b.flatMap dByte.e)) (hb : b.length ≤ 1000000000) (s : Slot) (os : dSlot.ok s) :
    ACalls prog w0 n_deduplaw13_PackChunks [x, .agg (dSlot.e s).toArray] h fun r h' => r = .bool true := by
  have hj : x ≠ junk := by obtain ⟨a, c, rfl, -⟩ := ex.sl; simp
  refine ACalls.of_fit (by simpa using hj) fun f => ?_
  exact PackChunks_spec (fun h f => ex.bytes h f) hb s.o s.n os.1 os.2 f
end
end Go.Proofs.Ytfhamcobfpmgbaa.Ah
