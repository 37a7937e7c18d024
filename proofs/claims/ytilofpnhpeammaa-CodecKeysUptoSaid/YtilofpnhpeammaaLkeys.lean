/- CodecKeys: the walk. -/
import Derived.Test.YtilofpnhpeammaaKkey
import Derived.Test.YtilofpnhpeammaaLfr
set_option linter.unusedVariables false
set_option linter.unusedSimpArgs false
namespace Go.Proofs.Ytilofpnhpeammaa.Ah
open Go

theorem len_le {α : Type} (b : α → Nat) (hb : ∀ x, 1 ≤ b x) (l : List α) : l.length ≤ (l.map b).sum := by
  induction l with
  | nil => simp
  | cons x l ih => simp only [List.length_cons, List.map_cons, List.sum_cons]; have := hb x; omega
theorem nums_bes (name : List UInt8) : ∀ (l : List Nat), (∀ x, x ∈ l → x < 18446744073709551616) → nums l.length (l.flatMap (be 8) ++ name) = l := by
  intro l
  induction l with
  | nil => intro _; rfl
  | cons x l ih =>
    intro h
    have hx := h x (by simp)
    simp only [List.length_cons, nums, List.flatMap_cons, List.append_assoc]
    rw [List.take_left' (by simp), List.drop_left' (by simp), ih (fun y hy => h y (by simp [hy])), rdn_be, Nat.mod_eq_of_lt (show x < 256 ^ 8 from hx)]
theorem spl_key {k : Nat} (hk : k < 256) {l : List Nat} (hl : l.length ≤ 4) (hx : ∀ x, x ∈ l → x < 18446744073709551616) (name : List UInt8) : spl (keyOf2 k l name) (l.length : Nat) = (k, l, name, 0) := by
  have hlen : (keyOf2 k l name).length = 1 + 8 * l.length + name.length := by simp only [keyOf2, List.length_append, be_length, be8s_length]
  unfold spl
  rw [if_neg (by omega), if_neg (by omega)]
  simp only [Int.toNat_natCast]
  have h1 : (keyOf2 k l name).take 1 = be 1 k := by rw [keyOf2, List.append_assoc, List.take_left' (by simp)]
  have h2 : (keyOf2 k l name).drop 1 = l.flatMap (be 8) ++ name := by rw [keyOf2, List.append_assoc, List.drop_left' (by simp)]
  have h3 : (keyOf2 k l name).drop (1 + 8 * l.length) = name := by rw [keyOf2, List.drop_left' (by simp only [List.length_append, be_length, be8s_length])]
  rw [h1, h2, h3, nums_bes name l hx, rdn_be, Nat.mod_eq_of_lt (by simpa using hk)]
theorem uvs_flat (l : List Nat) : l.flatMap (dNat .u64).e = uvs l := by
  induction l with
  | nil => rfl
  | cons x l ih => rw [List.flatMap_cons, ih]; rfl
theorem CodecKeys_spec {w0 : World} {h : Hp} (k : Nat) (hk : k < 256) {v : Value} {l : List Nat} (hx : ExtSl w0 1 v l.length (l.flatMap (dNat .u64).e)) (hok : ∀ x, x ∈ l → x < 18446744073709551616) (hll : l.length ≤ 1048576) (name : List UInt8) (hn : name.length ≤ 1048576) :
    ACalls prog w0 n_deduplaw02_CodecKeys [.int .u8 k, v, .string (str name)] h fun v h' => v = .bool true := by
  obtain ⟨a, c, rfl, hnc, hc⟩ := hx.sl
  have hsrc : ∀ h, Fit w0 h → Src w0.heap.size h 1 (.slice a l.length c) l.length (uvs l) := fun h f => by rw [← uvs_flat]; exact hx.src h f
  refine ACalls.of_fit (by simp) fun f => c_deduplaw02_CodecKeys (by simp) ?_
  simp only [s_deduplaw02_CodecKeys]
  refine callA_of awake02_spec fun v h0 ⟨e, s0⟩ f0 => ?_
  subst e
  simp only [unA_not, Bool.not_true, pureA_some, condA_false, bslA_iff, fillA_nil]
  have f1 : Fit w0 (h0.new (zerosL [.int .u64 0] 0) 1) := f0.new (by simp [zerosL])
  have key : ∀ (h1 : Hp) (ai : Option Addr) (ci : Nat), Fit w0 h1 → Src w0.heap.size h1 1 (.slice ai l.length ci) l.length (uvs l) →
      callA prog w0 n_codec_Key [.int .u8 k, .slice ai l.length ci, .string (str name)] (fun v24_5 =>
        pureA (extA v24_5 0) fun v25_6 =>
        pureA (extA v24_5 1) fun v26_7 =>
        callA prog w0 n_dedupref02_Key [.int .u8 k, .slice a l.length c, .string (str name)] fun v31_8 =>
        pureA (extA v31_8 0) fun v32_9 =>
        pureA (extA v31_8 1) fun v33_10 =>
        pureA (binA .neq v25_6 v32_9) fun v36_11 =>
        guardA v36_11 false (fun K => K v26_7) fun v38_12 =>
        guardA v36_11 false (fun K => K v33_10) fun v39_13 =>
        guardA v36_11 false (pureA (binA .neq v38_12 v39_13)) fun v40_14 =>
        pickA v36_11 (.bool true) v40_14 fun v41_15 =>
        guardA v41_15 false (fun K => K (.slice ai l.length ci)) fun v43_16 =>
        guardA v41_15 false (fun K => K (.slice a l.length c)) fun v44_17 =>
        guardA v41_15 false (callA prog w0 n_deduplaw02_sameNumbers [v43_16, v44_17]) fun v45_18 =>
        guardA v41_15 false (pureA (unA .not v45_18)) fun v46_19 =>
        pickA v41_15 (.bool true) v46_19 fun v47_20 =>
        condA v47_20 (
        retA [(.bool false)] fun v h' => v = .bool true) (
        pureA (binA .neq v33_10 (.int .i64 0)) fun v49_21 =>
        condA v49_21 (
        retA [(.bool true)] fun v h' => v = .bool true) (
        pureA (lenSl (.slice a l.length c)) fun v53_22 =>
        callA prog w0 n_codec_Split [v25_6, v53_22] fun v54_23 =>
        pureA (extA v54_23 0) fun v55_24 =>
        pureA (extA v54_23 1) fun v56_25 =>
        pureA (extA v54_23 2) fun v57_26 =>
        pureA (extA v54_23 3) fun v58_27 =>
        pureA (binA .eql v55_24 (.int .u8 k)) fun v61_28 =>
        guardA v61_28 true (fun K => K v56_25) fun v63_29 =>
        guardA v61_28 true (fun K => K (.slice a l.length c)) fun v64_30 =>
        guardA v61_28 true (callA prog w0 n_deduplaw02_sameNumbers [v63_29, v64_30]) fun v65_31 =>
        pickA v61_28 v65_31 (.bool false) fun v66_32 =>
        guardA v66_32 true (fun K => K v57_26) fun v68_33 =>
        guardA v66_32 true (fun K => K (.string (str name))) fun v69_34 =>
        guardA v66_32 true (pureA (binA .eql v68_33 v69_34)) fun v70_35 =>
        pickA v66_32 v70_35 (.bool false) fun v71_36 =>
        guardA v71_36 true (fun K => K v58_27) fun v73_37 =>
        guardA v71_36 true (pureA (binA .eql v73_37 (.int .i64 0))) fun v74_38 =>
        pickA v71_36 v74_38 (.bool false) fun v75_39 =>
        retA [v75_39] fun v h' => v = .bool true))) h1 := by
    intro h1 ai ci f1 hs1
    refine callA_of (Key_spec hk hs1 (by omega) name (by omega)) fun v h2 ⟨e, s2⟩ f2 => ?_
    subst e
    by_cases h4 : l.length ≤ 4
    · simp only [if_pos h4, extA_tuple, List.getElem?_toArray, List.getElem?_cons_zero, List.getElem?_cons_succ, pureA_some]
      refine callA_of (rKey_spec hk (hsrc h2 f2) (by omega) name (by omega)) fun v h3 ⟨e, s3⟩ f3 => ?_
      subst e
      simp only [if_pos h4, extA_tuple, List.getElem?_toArray, List.getElem?_cons_zero, List.getElem?_cons_succ, pureA_some, binA_strneq, decide_true, Bool.not_true, guardA_ff, binA_neq, bne_self_eq_false, pickA_false]
      refine callA_of (sameNumbers_spec (by omega) ((hs1.step f1 s2 (by simp)).step f2 s3 (by simp)) (hsrc h3 f3)) fun v h4' ⟨e, e2⟩ f4 => ?_
      subst e e2
      simp only [decide_true, guardA_ff, unA_not, Bool.not_true, pureA_some, pickA_false, condA_false, lenSl_slice]
      have hlen : (keyOf2 k l name).length = 1 + 8 * l.length + name.length := by simp only [keyOf2, List.length_append, be_length, be8s_length]
      refine callA_of (Split_spec (keyOf2 k l name) (by omega) (l.length : Nat)) fun v h5 ⟨S5, ⟨x5, e, v5⟩, s5⟩ f5 => ?_
      subst e
      rw [spl_key hk h4 hok] at v5 ⊢
      simp only [extA_tuple, List.getElem?_toArray, List.getElem?_cons_zero, List.getElem?_cons_succ, pureA_some, binA_eql, beq_self_eq_true, guardA_tt]
      obtain ⟨a5, c5, rfl⟩ := v5.slice
      refine callA_of (sameNumbers_spec (by simp only; omega) v5.src (hsrc h5 f5)) fun v h6 ⟨e, e2⟩ f6 => ?_
      subst e e2
      simp only [guardA_tt, binA_eql, binA_streql, pureA_some, pickA_true, beq_self_eq_true, decide_true, retA_iff, oneOf_one]
      simp
    · simp only [if_neg h4, extA_tuple, List.getElem?_toArray, List.getElem?_cons_zero, List.getElem?_cons_succ, pureA_some]
      refine callA_of (rKey_spec hk (hsrc h2 f2) (by omega) name (by omega)) fun v h3 ⟨e, s3⟩ f3 => ?_
      subst e
      simp only [if_neg h4, extA_tuple, List.getElem?_toArray, List.getElem?_cons_zero, List.getElem?_cons_succ, pureA_some, binA_strneq, decide_true, Bool.not_true, guardA_ff, binA_neq, bne_self_eq_false, pickA_false]
      refine callA_of (sameNumbers_spec (by omega) ((hs1.step f1 s2 (by simp)).step f2 s3 (by simp)) (hsrc h3 f3)) fun v h4' ⟨e, e2⟩ f4 => ?_
      subst e e2
      simp only [decide_true, guardA_ff, unA_not, Bool.not_true, pureA_some, pickA_false, condA_false, show ((1 : Int) != 0) = true from rfl, condA_true, retA_iff, oneOf_one]
      simp
  refine ⟨l.length, by simp, fun h0' => ⟨⟨_, _, _, rfl⟩, ?_⟩, fun hpos => ⟨0, [], uvs l, h0.new (zerosL [.int .u64 0] 0) 1, ?_, ?_, by omega, by omega, ?_⟩⟩
  · have hl0 : l = [] := List.eq_nil_of_length_eq_zero h0'
    subst hl0
    exact key (h0.new (zerosL [.int .u64 0] 0) 1) (some ⟨h0.next, 0, none⟩) 0 f1 ⟨Nat.le_refl _, .inl ⟨rfl, rfl⟩⟩
  · simp only [Dst]
    refine ⟨trivial, .inl ⟨trivial, trivial⟩, ?_⟩
    rw [if_neg (by have := f0.base; omega), if_neg (by decide), if_pos (by omega)]
    trivial
  · exact (hsrc h0 f0).frame fun b cs hb hbk => by
      have := f0.lt b cs hbk
      have hne : b ≠ h0.next := by omega
      simpa [hne] using hbk
  · rw [List.nil_append, Nat.zero_add]
    exact key _ _ _ (f1.new (fun v hv => by simp only [uvs, List.mem_map] at hv; obtain ⟨x, -, rfl⟩ := hv; rfl)) (by
      have := src_new (w0 := w0) (h := h0.new (zerosL [.int .u64 0] 0) 1) (cs := uvs l) (n := l.length) (s := 1) (k := 1) (c := ucap) f1.base (by simp)
      exact this)
end Go.Proofs.Ytilofpnhpeammaa.Ah
