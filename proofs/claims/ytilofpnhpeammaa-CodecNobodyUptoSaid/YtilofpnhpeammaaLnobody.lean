/- CodecNobody: what is told of no writer and of no reader. -/
import Derived.Test.YtilofpnhpeammaaKop
import Derived.Test.YtilofpnhpeammaaGlaw02
set_option linter.unusedVariables false
set_option linter.unusedSimpArgs false
namespace Go.Proofs.Ytilofpnhpeammaa.Ah
open Go

section
variable {w0 : World} {h : Hp}
theorem nput_spec {a : Option Addr} {n c : Nat} : ACalls prog w0 n_codec_Writer_put [.pointer none, .slice a n c] h fun v h' => h' = h := by
  refine ACalls.of_fit (by simp) fun f => c_codec_Writer_put (by simp) ?_
  simp [s_codec_Writer_put]
theorem nLen_spec : ACalls prog w0 n_codec_Writer_Len [.pointer none] h fun v h' => v = .int .i64 0 ∧ h' = h := by
  refine ACalls.of_fit (by simp) fun f => c_codec_Writer_Len (by simp) ?_
  simp [s_codec_Writer_Len]
theorem nWDone_spec : ACalls prog w0 n_codec_Writer_Done [.pointer none] h fun v h' => v = .tuple #[.string .empty, .int .i64 6] ∧ h' = h := by
  refine ACalls.of_fit (by simp) fun f => c_codec_Writer_Done (by simp) ?_
  simp [s_codec_Writer_Done]
theorem nnum_loop {kk : IntKind} (hkk : 4 ≤ kk.bits) {q n0 s : Nat} {x0 : Value} {K : Value → Value → Hp → Prop} (hq : w0.heap.size ≤ q) (hs : s ≤ 8) : ∀ (k i : Nat) (h : Hp), i + k = s → q < h.next →
    (∃ cs, h.blk q = some cs ∧ cs.length = s) → (∀ h', Step h h' [q] [q] → K x0 (.slice (some ⟨q, 0, none⟩) s s) h') →
    codec_number_uint16_L1 prog w0 K (k + 1) x0 (.int kk ((n0 / 256 ^ i : Nat) : Int)) (.int .i64 (s : Int)) (.slice (some ⟨q, 0, none⟩) s s) (.int .i64 (s : Int)) (.int .i64 (i : Int)) h := by
  intro k
  induction k with
  | zero =>
    intro i h hi hql hb hk
    have : i = s := by omega
    subst this
    simp [codec_number_uint16_L1, codec_number_uint16_B1]
    exact hk h (.refl _ _ (by simpa using hql))
  | succ k ih =>
    intro i h hi hql ⟨cs, hb, hcl⟩ hk
    rw [codec_number_uint16_L1]
    simp [codec_number_uint16_B1]
    have e1 : IntKind.i64.wrap (IntKind.i64.wrap ((s : Int) - 1) - (i : Int)) = (k : Int) := by rw [IntWalk.i64_in ((s : Int) - 1) (by omega), IntWalk.i64_in _ (by omega)]; omega
    have e2 : IntKind.i64.wrap ((i : Int) + 1) = ((i + 1 : Nat) : Int) := by rw [IntWalk.i64_in _ (by omega)]; simp
    have e3 : (n0 : Int) / 256 ^ i / 2 ^ min 4 kk.bits / 2 ^ min 4 kk.bits = ((n0 / 256 ^ (i + 1) : Nat) : Int) := by
      rw [Nat.pow_succ, ← Nat.div_div_eq_div_mul]
      rw [Nat.min_eq_left hkk]
      simp
      omega
    rw [e1, e2, e3]
    refine ⟨fun _ => ⟨by omega, by omega, hq, _, hb, by simp; omega, ?_⟩, fun hle => by omega⟩
    refine ih (i + 1) _ (by omega) (by simpa using hql) ⟨_, by simp; rfl, by simpa using hcl⟩ (fun h' st => hk h' ?_)
    exact ((Step.refl h [q] (by simpa using hql)).put (by simp) _).trans st
theorem nsnum_spec {kk : IntKind} (hkk : 4 ≤ kk.bits) (n s : Nat) (hs : s ≤ 8) (f : Fit w0 h) :
    s_codec_number_uint16 prog w0 (.pointer none) (.int kk n) (.int .i64 s) (fun v h' => Step h h' [] []) h := by
  simp only [s_codec_number_uint16, mkA_nat, lenSl_slice, pureA_some, codec_number_uint16_E1]
  refine ⟨Nat.le_refl _, by omega, by omega, s + 1, ?_⟩
  have := nnum_loop (w0 := w0) hkk (q := h.next) (n0 := n) (s := s) (x0 := .pointer none) (K := fun y0 y6 => callA prog w0 n_codec_Writer_put [y0, y6] fun _ => retA [] fun v h' => Step h h' [] []) f.base hs s 0 (h.new (zerosL [Value.int IntKind.u8 0] s) 1) (by omega) (by simp) ⟨zerosL [Value.int IntKind.u8 0] s, by simp, by simp [zerosL_single]⟩ ?_
  · simpa using this
  · intro h1 st1
    refine callA_of nput_spec fun v h2 e f2 => ?_
    subst e
    simp only [retA_iff, oneOf_nil]
    exact ⟨by simp, (((Step.refl h [] (by simp)).new _ _).trans st1).less (by simp)⟩
theorem nsnum8_spec (n : Nat) (f : Fit w0 h) : s_codec_number_uint8 prog w0 (.pointer none) (.int .u8 n) (.int .i64 (1 : Nat)) (fun v h' => Step h h' [] []) h := by
  simp only [s_codec_number_uint8, mkA_nat, lenSl_slice, pureA_some, codec_number_uint8_E1]
  refine ⟨Nat.le_refl _, by omega, by omega, 2, ?_⟩
  simp [codec_number_uint8_L1, codec_number_uint8_B1, show IntKind.i64.wrap (IntKind.i64.wrap (1 - 1)) = 0 by decide, show IntKind.i64.wrap 0 = 0 by decide, show IntKind.i64.wrap 1 = 1 by decide, zerosL_single]
  refine ⟨f.base, ?_⟩
  refine callA_of nput_spec (K := fun _ => retA [] fun v h' => Step h h' [] []) (fun v h2 e f2 => ?_)
  subst e
  simp only [retA_iff, oneOf_nil]
  exact ⟨by simp, (((Step.refl h [] (by simp)).new _ _).put (by simp) _).less (by simp)⟩
theorem nwrite_spec (o : Opt) (hn : o.n < 18446744073709551616) (hs : o.s.length ≤ 70368744177664) : ACalls prog w0 n_deduplaw02_write [.pointer none, .agg o.e.toArray] h fun v h' => Step h h' [] [] := by
  obtain ⟨k, n, s⟩ := o
  refine ACalls.of_fit (by simp) fun f => c_deduplaw02_write (by simp) ?_
  have s0 := ((Step.refl h [] (by simp)).new [.int .i64 k, .int .u64 n, .string (str s)] 3).less (T := []) (by simp)
  have f1 : Fit w0 (h.new [.int .i64 k, .int .u64 n, .string (str s)] 3) := f.new (by simp)
  have fin : ∀ {h' : Hp}, Step (h.new [.int .i64 k, .int .u64 n, .string (str s)] 3) h' [] [] → Step h h' [] [] := fun s => s0.trans s
  have hbx : (h.new [.int .i64 k, .int .u64 n, .string (str s)] 3).blk h.next = some [.int .i64 k, .int .u64 n, .string (str s)] := by simp
  simp only [s_deduplaw02_write, boxA_agg, Opt.e, List.toList_toArray, faddA_ptr, addr_add, Nat.add_zero, Nat.zero_add]
  have hfb := f.base
  generalize h.new [.int .i64 k, .int .u64 n, .string (str s)] 3 = h1 at f1 fin hbx ⊢
  refine loadA_at hfb hbx (by rfl) ?_
  simp only [binA_eql, pureA_some, condA_bool, beq_iff_eq]
  have ret : ∀ {h' : Hp}, Step h1 h' [] [] → retA [] (fun v h' => Step h h' [] []) h' := fun s => by
    simp only [retA_iff, oneOf_nil]; exact ⟨by simp, fin s⟩
  refine ⟨fun _ => ?_, fun _ => ⟨fun _ => ?_, fun _ => ⟨fun _ => ?_, fun _ => ⟨fun _ => ?_, fun _ => ⟨fun _ => ?_, fun _ => ⟨fun _ => ?_, fun _ => ⟨fun _ => ?_, fun _ => ret (Step.refl _ _ (by simp))⟩⟩⟩⟩⟩⟩⟩
  · refine loadA_at hfb hbx (by rfl) ?_
    have e0 : IntKind.u8.wrap (n : Int) = ((n % 256 ^ 1 : Nat) : Int) := by rw [IntKind.wrap_u8]; simp
    simp only [convA_int, pureA_some, e0]
    refine callA_of (K := fun _ => retA [] fun v h' => Step h h' [] []) (R := fun v h' => Step h1 h' [] []) ?_ fun v h2 s2 f2 => ret s2
    refine ACalls.of_fit (by simp) fun f => c_codec_Writer_U8 (by simp) ?_
    refine callA_of (c_codec_number_uint8 (by simp) (nsnum8_spec _ f)) fun v h' r _ => ?_
    simpa using r
  · refine loadA_at hfb hbx (by rfl) ?_
    have e0 : IntKind.u16.wrap (n : Int) = ((n % 256 ^ 2 : Nat) : Int) := by simp [IntKind.wrap, IntKind.signed, IntKind.bits]
    simp only [convA_int, pureA_some, e0]
    refine callA_of (K := fun _ => retA [] fun v h' => Step h h' [] []) (R := fun v h' => Step h1 h' [] []) ?_ fun v h2 s2 f2 => ret s2
    refine ACalls.of_fit (by simp) fun f => c_codec_Writer_U16 (by simp) ?_
    refine callA_of (c_codec_number_uint16 (by simp) (nsnum_spec (by decide) _ 2 (by omega) f)) fun v h' r _ => ?_
    simpa using r
  · refine loadA_at hfb hbx (by rfl) ?_
    have e0 : IntKind.u32.wrap (n : Int) = ((n % 256 ^ 4 : Nat) : Int) := by simp [IntKind.wrap, IntKind.signed, IntKind.bits]
    simp only [convA_int, pureA_some, e0]
    refine callA_of (K := fun _ => retA [] fun v h' => Step h h' [] []) (R := fun v h' => Step h1 h' [] []) ?_ fun v h2 s2 f2 => ret s2
    refine ACalls.of_fit (by simp) fun f => c_codec_Writer_U32 (by simp) ?_
    refine callA_of (c_codec_number_uint32 (by simp) (snum32_eq ▸ nsnum_spec (by decide) _ 4 (by omega) f)) fun v h' r _ => ?_
    simpa using r
  · refine loadA_at hfb hbx (by rfl) ?_
    refine callA_of (K := fun _ => retA [] fun v h' => Step h h' [] []) (R := fun v h' => Step h1 h' [] []) ?_ fun v h2 s2 f2 => ret s2
    refine ACalls.of_fit (by simp) fun f => c_codec_Writer_U64 (by simp) ?_
    refine callA_of (c_codec_number_uint64 (by simp) (snum64_eq ▸ nsnum_spec (by decide) _ 8 (by omega) f)) fun v h' r _ => ?_
    simpa using r
  · refine loadA_at hfb hbx (by rfl) ?_
    refine callA_of (K := fun _ => retA [] fun v h' => Step h h' [] []) (R := fun v h' => Step h1 h' [] []) ?_ fun v h2 s2 f2 => ret s2
    refine ACalls.of_fit (by simp) fun f => c_codec_Writer_Varint (by simp) ?_
    refine callA_of (varint_spec n hn) fun v h2 ⟨S2, hv, s2⟩ f2 => ?_
    obtain ⟨a, c, rfl⟩ := hv.slice
    refine callA_of nput_spec fun v h3 e f3 => ?_
    subst e
    simp only [retA_iff, oneOf_nil]
    exact ⟨by simp, s2.less (by simp)⟩
  · refine loadA_at hfb hbx (by rfl) ?_
    refine callA_of (K := fun _ => retA [] fun v h' => Step h h' [] []) (R := fun v h' => Step h1 h' [] []) ?_ fun v h2 s2 f2 => ret s2
    refine ACalls.of_fit (by simp) fun f => c_codec_Writer_Text (by simp) ?_
    have hs' : s.length ≤ 70368744177664 := hs
    have h10 := vi_10 (n := s.length) (by omega)
    simp only [s_codec_Writer_Text, lenStr_string, pureA_some, convA_int, str_size]
    rw [IntWalk.u64_in _ (by omega)]
    refine callA_of (varint_spec s.length (by omega)) fun v h2 ⟨S1, hv, s1⟩ f2 => ?_
    refine appA_vec (m := s.length) (ys := bvs s) f2.base hv (by simp) ?_ (by simp) (by omega) (by omega) (by omega) (fun x' h3 S2 hv2 s2 => ?_)
    · have := src_string (h := h2) w0.heap.size (str s)
      simpa using this
    · obtain ⟨a, c, rfl⟩ := hv2.slice
      refine callA_of nput_spec fun v h4 e f3 => ?_
      subst e
      simp only [retA_iff, oneOf_nil]
      exact ⟨by simp, (s1.trans s2).less (by simp)⟩
  · refine loadA_at hfb hbx (by rfl) ?_
    refine callA_of (K := fun _ => retA [] fun v h' => Step h h' [] []) (R := fun v h' => Step h1 h' [] []) ?_ fun v h2 s2 f2 => ret s2
    refine ACalls.of_fit (by simp) fun f => c_codec_Writer_Raw (by simp) ?_
    have hs' : s.length ≤ 70368744177664 := hs
    simp only [s_codec_Writer_Raw, s2bA_iff, str_size, str_data, bvs_eq]
    refine ⟨by omega, ?_⟩
    refine callA_of nput_spec fun v h4 e f3 => ?_
    subst e
    simp only [retA_iff, oneOf_nil]
    exact ⟨by simp, ((Step.refl h1 [] (by simp)).new _ _).less (by simp)⟩

theorem nRaw_spec (n : Int) : ACalls prog w0 n_codec_Reader_Raw [.pointer none, .int .i64 n] h fun v h' => v = .string .empty ∧ h' = h := by
  refine ACalls.of_fit (by simp) fun f => c_codec_Reader_Raw (by simp) ?_
  simp [s_codec_Reader_Raw]
theorem nread_spec (k : Nat) : ACalls prog w0 n_codec_Reader_read [.pointer none, .int .i64 k] h fun v h' => v = .int .u64 0 ∧ Step h h' [] [] := by
  refine ACalls.of_fit (by simp) fun f => c_codec_Reader_read (by simp) ?_
  refine callA_of (nRaw_spec k) fun v h1 ⟨e, e1⟩ f1 => ?_
  subst e e1
  simp only [← str_nil, s2bA_iff, str_size, str_data, bvs_eq, lenSl_slice, pureA_some]
  refine ⟨by simp, 1, ?_⟩
  rw [codec_Reader_read_L1]
  simp [codec_Reader_read_B1]
  exact ((Step.refl h1 [] (by simp)).new _ _).less (by simp)
theorem nU8_spec : ACalls prog w0 n_codec_Reader_U8 [.pointer none] h fun v h' => v = .int .u8 0 ∧ Step h h' [] [] := by
  refine ACalls.of_fit (by simp) fun f => c_codec_Reader_U8 (by simp) ?_
  refine callA_of (nread_spec 1) fun v h1 ⟨e, s1⟩ f1 => ?_
  subst e
  simp
  exact ⟨by decide, s1⟩
theorem nU16_spec : ACalls prog w0 n_codec_Reader_U16 [.pointer none] h fun v h' => v = .int .u16 0 ∧ Step h h' [] [] := by
  refine ACalls.of_fit (by simp) fun f => c_codec_Reader_U16 (by simp) ?_
  refine callA_of (nread_spec 2) fun v h1 ⟨e, s1⟩ f1 => ?_
  subst e
  simp
  exact ⟨by decide, s1⟩
theorem nU32_spec : ACalls prog w0 n_codec_Reader_U32 [.pointer none] h fun v h' => v = .int .u32 0 ∧ Step h h' [] [] := by
  refine ACalls.of_fit (by simp) fun f => c_codec_Reader_U32 (by simp) ?_
  refine callA_of (nread_spec 4) fun v h1 ⟨e, s1⟩ f1 => ?_
  subst e
  simp
  exact ⟨by decide, s1⟩
theorem nU64_spec : ACalls prog w0 n_codec_Reader_U64 [.pointer none] h fun v h' => v = .int .u64 0 ∧ Step h h' [] [] := by
  refine ACalls.of_fit (by simp) fun f => c_codec_Reader_U64 (by simp) ?_
  refine callA_of (nread_spec 8) fun v h1 ⟨e, s1⟩ f1 => ?_
  subst e
  simp
  exact s1
theorem nVarint_spec : ACalls prog w0 n_codec_Reader_Varint [.pointer none] h fun v h' => v = .int .u64 0 ∧ h' = h := by
  refine ACalls.of_fit (by simp) fun f => c_codec_Reader_Varint (by simp) ?_
  simp [s_codec_Reader_Varint]
theorem nText_spec : ACalls prog w0 n_codec_Reader_Text [.pointer none] h fun v h' => v = .string .empty ∧ h' = h := by
  refine ACalls.of_fit (by simp) fun f => c_codec_Reader_Text (by simp) ?_
  refine callA_of nVarint_spec fun v h1 ⟨e, e1⟩ f1 => ?_
  subst e e1
  simp
theorem nLeft_spec : ACalls prog w0 n_codec_Reader_Left [.pointer none] h fun v h' => v = .int .i64 0 ∧ h' = h := by
  refine ACalls.of_fit (by simp) fun f => c_codec_Reader_Left (by simp) ?_
  simp [s_codec_Reader_Left]
theorem nErr_spec : ACalls prog w0 n_codec_Reader_Err [.pointer none] h fun v h' => v = .int .i64 6 ∧ h' = h := by
  refine ACalls.of_fit (by simp) fun f => c_codec_Reader_Err (by simp) ?_
  simp [s_codec_Reader_Err]
theorem nDone_spec : ACalls prog w0 n_codec_Reader_Done [.pointer none] h fun v h' => v = .int .i64 6 ∧ h' = h := by
  refine ACalls.of_fit (by simp) fun f => c_codec_Reader_Done (by simp) ?_
  refine callA_of nErr_spec fun v h1 ⟨e, e1⟩ f1 => ?_
  subst e e1
  simp
theorem CodecNobody_spec (o : Opt) (hn : o.n < 18446744073709551616) (hs : o.s.length ≤ 70368744177664) : ACalls prog w0 n_deduplaw02_CodecNobody [.agg o.e.toArray] h fun v h' => v = .bool true := by
  refine ACalls.of_fit (by simp) fun f => c_deduplaw02_CodecNobody (by simp) ?_
  simp only [s_deduplaw02_CodecNobody, boxA_agg, List.toList_toArray]
  have s0 : Step h (h.new o.e 3) [] [] := ((Step.refl h [] (by simp)).new _ _).less (by simp)
  have hb : (h.new o.e 3).blk h.next = some o.e := by simp
  have hl : h.next < (h.new o.e 3).next := by simp
  have hfb := f.base
  generalize h.new o.e 3 = h1 at hb hl ⊢
  have mv : ∀ {h1 h2 : Hp} {q : Nat} {cs : List Value}, h1.blk q = some cs → q < h1.next → Step h1 h2 [] [] → h2.blk q = some cs ∧ q < h2.next := by
    intro h1 h2 q cs hb hl s
    exact ⟨by rw [(s.keep q hl (by simp)).1]; exact hb, by have := s.next; omega⟩
  refine loadNA_whole hfb hb (by rfl) ?_
  refine callA_of (nwrite_spec o hn hs) fun v h2 s2 f2 => ?_
  obtain ⟨hb, hl⟩ := mv hb hl s2
  refine callA_of nWDone_spec fun v h3 ⟨e, e1⟩ f3 => ?_
  subst e e1
  simp only [extA_tuple, List.getElem?_toArray, List.getElem?_cons_zero, List.getElem?_cons_succ, pureA_some]
  refine callA_of awake02_spec fun v h4 ⟨e, s4⟩ f4 => ?_
  obtain ⟨hb, hl⟩ := mv hb hl s4
  subst e
  have ee : binA .neq (.string .empty) (.string .empty) = some (.bool false) := by rw [binA_strneq]; simp
  simp only [unA_not, Bool.not_true, pureA_some, guardA_ff, ee, pickA_false, binA_neq, bne_self_eq_false]
  refine callA_of nLen_spec fun v h5 ⟨e, e1⟩ f5 => ?_
  subst e e1
  simp only [binA_neq, bne_self_eq_false, pureA_some, guardA_ff, pickA_false]
  refine callA_of nU8_spec fun v h6 ⟨e, s6⟩ f6 => ?_
  obtain ⟨hb, hl⟩ := mv hb hl s6
  subst e
  simp only [binA_neq, bne_self_eq_false, pureA_some, guardA_ff, pickA_false]
  refine callA_of nU16_spec fun v h7 ⟨e, s7⟩ f7 => ?_
  obtain ⟨hb, hl⟩ := mv hb hl s7
  subst e
  simp only [binA_neq, bne_self_eq_false, pureA_some, guardA_ff, pickA_false]
  refine callA_of nU32_spec fun v h8 ⟨e, s8⟩ f8 => ?_
  obtain ⟨hb, hl⟩ := mv hb hl s8
  subst e
  simp only [binA_neq, bne_self_eq_false, pureA_some, guardA_ff, pickA_false]
  refine callA_of nU64_spec fun v h9 ⟨e, s9⟩ f9 => ?_
  obtain ⟨hb, hl⟩ := mv hb hl s9
  subst e
  simp only [binA_neq, bne_self_eq_false, pureA_some, guardA_ff, pickA_false]
  refine callA_of nVarint_spec fun v h10 ⟨e, e1⟩ f10 => ?_
  subst e e1
  simp only [binA_neq, bne_self_eq_false, pureA_some, guardA_ff, pickA_false]
  refine callA_of nText_spec fun v h11 ⟨e, e1⟩ f11 => ?_
  subst e e1
  simp only [ee, pureA_some, guardA_ff, pickA_false, addA_ptr, addr_add, Nat.zero_add]
  refine loadA_at hfb hb (by rfl) ?_
  simp only [guardA_ff, convA_int, pureA_some]
  refine callA_of (nRaw_spec _) fun v h12 ⟨e, e1⟩ f12 => ?_
  subst e e1
  simp only [ee, pureA_some, guardA_ff, pickA_false, condA_false]
  refine callA_of nLeft_spec fun v h13 ⟨e, e1⟩ f13 => ?_
  subst e e1
  simp only [binA_eql, beq_self_eq_true, pureA_some, guardA_tt, pickA_true]
  refine callA_of nErr_spec fun v h14 ⟨e, e1⟩ f14 => ?_
  subst e e1
  simp only [binA_eql, beq_self_eq_true, pureA_some, guardA_tt, pickA_true]
  refine callA_of nDone_spec fun v h15 ⟨e, e1⟩ f15 => ?_
  subst e e1
  simp only [binA_eql, beq_self_eq_true, pureA_some, guardA_tt, pickA_true, retA_iff, oneOf_one]
  simp
end
end Go.Proofs.Ytilofpnhpeammaa.Ah
