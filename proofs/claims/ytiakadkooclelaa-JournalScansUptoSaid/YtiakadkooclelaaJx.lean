/- dedupref07.Writer. -/
import Derived.Test.YtiakadkooclelaaJf
import Derived.Test.YtiakadkooclelaaGref07
import Derived.Test.YtiakadkooclelaaKf
set_option linter.unusedVariables false
set_option linter.unusedSimpArgs false
namespace Go.Proofs.Ytiakadkooclelaa.Ah
open Go
theorem power_spec {w0 : World} {h : Hp} (n : Int) (hn : -9223372036854775808 ≤ n ∧ n ≤ 9223372036854775807) : ACalls prog w0 n_dedupref07_power [.int .i64 n, .int .i64 512, .int .i64 4096] h fun v h' => v = .bool (jsize n) ∧ h' = h := by
  refine ACalls.of_fit (by simp) fun f => c_dedupref07_power (by simp) ?_
  refine ⟨6, ?_⟩
  have d1 : decide ((512 : Int) ≤ 4096) = true := rfl
  have d2 : decide ((1024 : Int) ≤ 4096) = true := rfl
  have d3 : decide ((2048 : Int) ≤ 4096) = true := rfl
  have d4 : decide ((4096 : Int) ≤ 4096) = true := rfl
  have d5 : decide ((8192 : Int) ≤ 4096) = false := rfl
  have m1 : IntKind.i64.wrap (2 * 512) = 1024 := by decide
  have m2 : IntKind.i64.wrap (2 * 1024) = 2048 := by decide
  have m3 : IntKind.i64.wrap (2 * 2048) = 4096 := by decide
  have m4 : IntKind.i64.wrap (2 * 4096) = 8192 := by decide
  by_cases h1 : n = 512
  · subst h1
    simp only [dedupref07_power_L1, dedupref07_power_B1, lenSl_slice, lenStr_string, str_size, fpureA_some, fnilA_ptr, faddA_ptr, addr_add, Nat.zero_add, Nat.add_zero, fpureQ_k, fpureQ_nilA, fpureQ_addA, fpureQ_pureA, fpureQ_guardA, fpureQ_idxSlA, fpureQ_pickA, freadQ_loadA, freadQ_loadNA, freadQ_b2sA, freadQ_guardA, freadQ_slSlA, freadQ_k, fendA, fallA_one, fstillA_nil, fguardA_tt, fguardA_ff, fguardA_tf, fguardA_ft, fguardA_undef, fpickA_true, fpickA_false, fcondA_true, fcondA_false, binA_add, binA_sub, binA_mul, binA_eql, binA_neq, binA_lss, binA_leq, binA_gtr, binA_geq, unA_not, Bool.not_true, Bool.not_false, convA_int, extA_tuple, List.getElem?_toArray, List.getElem?_cons_zero, List.getElem?_cons_succ, d1, beq_self_eq_true, retA_iff, oneOf_one]
    simp [jsize]
  have c1 : (n == 512) = false := by simp [h1]
  by_cases h2 : n = 1024
  · subst h2
    simp only [dedupref07_power_L1, dedupref07_power_B1, lenSl_slice, lenStr_string, str_size, fpureA_some, fnilA_ptr, faddA_ptr, addr_add, Nat.zero_add, Nat.add_zero, fpureQ_k, fpureQ_nilA, fpureQ_addA, fpureQ_pureA, fpureQ_guardA, fpureQ_idxSlA, fpureQ_pickA, freadQ_loadA, freadQ_loadNA, freadQ_b2sA, freadQ_guardA, freadQ_slSlA, freadQ_k, fendA, fallA_one, fstillA_nil, fguardA_tt, fguardA_ff, fguardA_tf, fguardA_ft, fguardA_undef, fpickA_true, fpickA_false, fcondA_true, fcondA_false, binA_add, binA_sub, binA_mul, binA_eql, binA_neq, binA_lss, binA_leq, binA_gtr, binA_geq, unA_not, Bool.not_true, Bool.not_false, convA_int, extA_tuple, List.getElem?_toArray, List.getElem?_cons_zero, List.getElem?_cons_succ, d1, d2, c1, m1, beq_self_eq_true, retA_iff, oneOf_one]
    simp [jsize]
  have c2 : (n == 1024) = false := by simp [h2]
  by_cases h3 : n = 2048
  · subst h3
    simp only [dedupref07_power_L1, dedupref07_power_B1, lenSl_slice, lenStr_string, str_size, fpureA_some, fnilA_ptr, faddA_ptr, addr_add, Nat.zero_add, Nat.add_zero, fpureQ_k, fpureQ_nilA, fpureQ_addA, fpureQ_pureA, fpureQ_guardA, fpureQ_idxSlA, fpureQ_pickA, freadQ_loadA, freadQ_loadNA, freadQ_b2sA, freadQ_guardA, freadQ_slSlA, freadQ_k, fendA, fallA_one, fstillA_nil, fguardA_tt, fguardA_ff, fguardA_tf, fguardA_ft, fguardA_undef, fpickA_true, fpickA_false, fcondA_true, fcondA_false, binA_add, binA_sub, binA_mul, binA_eql, binA_neq, binA_lss, binA_leq, binA_gtr, binA_geq, unA_not, Bool.not_true, Bool.not_false, convA_int, extA_tuple, List.getElem?_toArray, List.getElem?_cons_zero, List.getElem?_cons_succ, d1, d2, d3, c1, c2, m1, m2, beq_self_eq_true, retA_iff, oneOf_one]
    simp [jsize]
  have c3 : (n == 2048) = false := by simp [h3]
  by_cases h4 : n = 4096
  · subst h4
    simp only [dedupref07_power_L1, dedupref07_power_B1, lenSl_slice, lenStr_string, str_size, fpureA_some, fnilA_ptr, faddA_ptr, addr_add, Nat.zero_add, Nat.add_zero, fpureQ_k, fpureQ_nilA, fpureQ_addA, fpureQ_pureA, fpureQ_guardA, fpureQ_idxSlA, fpureQ_pickA, freadQ_loadA, freadQ_loadNA, freadQ_b2sA, freadQ_guardA, freadQ_slSlA, freadQ_k, fendA, fallA_one, fstillA_nil, fguardA_tt, fguardA_ff, fguardA_tf, fguardA_ft, fguardA_undef, fpickA_true, fpickA_false, fcondA_true, fcondA_false, binA_add, binA_sub, binA_mul, binA_eql, binA_neq, binA_lss, binA_leq, binA_gtr, binA_geq, unA_not, Bool.not_true, Bool.not_false, convA_int, extA_tuple, List.getElem?_toArray, List.getElem?_cons_zero, List.getElem?_cons_succ, d1, d2, d3, d4, c1, c2, c3, m1, m2, m3, beq_self_eq_true, retA_iff, oneOf_one]
    simp [jsize]
  have c4 : (n == 4096) = false := by simp [h4]
  simp only [dedupref07_power_L1, dedupref07_power_B1, lenSl_slice, lenStr_string, str_size, fpureA_some, fnilA_ptr, faddA_ptr, addr_add, Nat.zero_add, Nat.add_zero, fpureQ_k, fpureQ_nilA, fpureQ_addA, fpureQ_pureA, fpureQ_guardA, fpureQ_idxSlA, fpureQ_pickA, freadQ_loadA, freadQ_loadNA, freadQ_b2sA, freadQ_guardA, freadQ_slSlA, freadQ_k, fendA, fallA_one, fstillA_nil, fguardA_tt, fguardA_ff, fguardA_tf, fguardA_ft, fguardA_undef, fpickA_true, fpickA_false, fcondA_true, fcondA_false, binA_add, binA_sub, binA_mul, binA_eql, binA_neq, binA_lss, binA_leq, binA_gtr, binA_geq, unA_not, Bool.not_true, Bool.not_false, convA_int, extA_tuple, List.getElem?_toArray, List.getElem?_cons_zero, List.getElem?_cons_succ, d1, d2, d3, d4, d5, c1, c2, c3, c4, m1, m2, m3, m4, retA_iff, oneOf_one]
  simp [jsize, h1, h2, h3, h4]
theorem xNew_spec {w0 : World} {h : Hp} (n s : Int) (g : Nat) (hn : -9223372036854775808 ≤ n ∧ n ≤ 9223372036854775807) :
    ACalls prog w0 n_dedupref07_New [.int .i64 n, .int .i64 s, .int .u64 g] h fun v h' =>
      (jok n s = true → v = .tuple #[ptr h.next, .int .i64 0] ∧ Jw w0 h' h.next ⟨n.toNat, s.toNat, g, [], 0, 0⟩ [h.next] ∧ Step h h' [] [h.next]) ∧ (jok n s = false → v = .tuple #[.pointer none, .int .i64 1] ∧ h' = h) := by
  refine ACalls.of_fit (by simp) fun f => c_dedupref07_New (by simp) ?_
  refine callA_of (power_spec n hn) fun v hh ⟨e, e1⟩ f1 => ?_
  subst e e1
  cases hs : jsize n with
  | false =>
    simp only [unA_not, Bool.not_false, pureA_some, guardA_tf, pickA_true, guardA_undef, condA_true, retA_iff]
    simp [jok, hs]
  | true =>
    have hr := jsize_range hs
    simp only [unA_not, Bool.not_true, pureA_some, guardA_ff, binA_lss, pickA_false]
    by_cases h1 : s < 1
    · have c1 : decide (s < 1) = true := decide_eq_true h1
      have c2 : jok n s = false := by simp [jok]; omega
      simp only [c1, guardA_tf, guardA_undef, pickA_true, condA_true, retA_iff, c2]
      simp
    · have c1 : decide (s < 1) = false := decide_eq_false h1
      simp only [c1, guardA_ff, binA_gtr, pureA_some, pickA_false]
      by_cases h2 : 4096 < s
      · have c2 : decide ((4096 : Int) < s) = true := decide_eq_true h2
        have c3 : jok n s = false := by simp [jok]; omega
        simp only [c2, condA_true, retA_iff, c3]
        simp
      · have c2 : decide ((4096 : Int) < s) = false := decide_eq_false h2
        have c3 : jok n s = true := by simp [jok, hs]; omega
        simp only [c2, condA_false, buildA_iff, fillA_one, fillA_nil, isCell_int, true_and, List.set_cons_zero, List.set_cons_succ, List.length_cons, List.length_nil, boxA_agg, List.toList_toArray, retA_iff, c3]
        refine ⟨by omega, by omega, by omega, by simp, fun _ => ⟨by simp [ptr], ?_, (Step.refl hh [] (by simp)).new _ _⟩, by simp⟩
        have e1 : ((n.toNat : Nat) : Int) = n := Int.toNat_of_nonneg (by omega)
        have e2 : ((s.toNat : Nat) : Int) = s := Int.toNat_of_nonneg (by omega)
        refine ⟨.slice none 0 0, [], ?_, f.base, by simp, .nil, by simp, rfl⟩
        simp only [e1, e2]
        simp

section
variable {w0 : World}
theorem high_loop {q n0 s : Nat} {K : Value → Hp → Prop} (hq : w0.heap.size ≤ q) (hn0 : n0 < 18446744073709551616) (hs : s ≤ 8) : ∀ (k i : Nat) (h : Hp), i + k = s → q < h.next →
    h.blk q = some (List.replicate k (.int .u8 0) ++ bvs (be i n0)) → (∀ h', h'.blk q = some (bvs (be s n0)) → Step h h' [q] [q] → K (.slice (some ⟨q, 0, none⟩) s s) h') →
    dedupref07_high_L1 prog w0 K (k + 1) (.int .u64 ((n0 / 256 ^ i : Nat) : Int)) (.int .i64 (s : Int)) (.slice (some ⟨q, 0, none⟩) s s) (.int .i64 (i : Int)) h := by
  intro k
  induction k with
  | zero =>
    intro i h hi hql hb hk
    have : i = s := by omega
    subst this
    rw [dedupref07_high_L1]
    simp only [dedupref07_high_B1, lenSl_slice, lenStr_string, str_size, fpureA_some, fnilA_ptr, faddA_ptr, addr_add, Nat.zero_add, Nat.add_zero, fpureQ_k, fpureQ_nilA, fpureQ_addA, fpureQ_pureA, fpureQ_guardA, fpureQ_idxSlA, fpureQ_pickA, freadQ_loadA, freadQ_loadNA, freadQ_b2sA, freadQ_guardA, freadQ_slSlA, freadQ_k, fendA, fallA_one, fstillA_nil, fguardA_tt, fguardA_ff, fguardA_tf, fguardA_ft, fguardA_undef, fpickA_true, fpickA_false, fcondA_true, fcondA_false, binA_add, binA_sub, binA_mul, binA_eql, binA_neq, binA_lss, binA_leq, binA_gtr, binA_geq, unA_not, Bool.not_true, Bool.not_false, convA_int, extA_tuple, List.getElem?_toArray, List.getElem?_cons_zero, List.getElem?_cons_succ, Int.lt_irrefl, decide_false]
    exact hk h (by simpa using hb) (.refl _ _ (by simpa using hql))
  | succ k ih =>
    intro i h hi hql hb hk
    have c1 : decide ((i : Int) < (s : Int)) = true := decide_eq_true (by omega)
    have e0 : IntKind.i64.wrap ((s : Int) - 1) = ((s - 1 : Nat) : Int) := by rw [IntWalk.i64_in _ (by omega)]; omega
    have e1 : IntKind.i64.wrap (((s - 1 : Nat) : Int) - (i : Int)) = (k : Int) := by rw [IntWalk.i64_in _ (by omega)]; omega
    have e2 : IntKind.i64.wrap ((i : Int) + 1) = ((i + 1 : Nat) : Int) := by rw [IntWalk.i64_in _ (by omega)]; simp
    have hd : n0 / 256 ^ i ≤ n0 := Nat.div_le_self _ _
    have e3 : binA .quo (.int .u64 ((n0 / 256 ^ i : Nat) : Int)) (.int .u64 256) = some (.int .u64 ((n0 / 256 ^ (i + 1) : Nat) : Int)) := by
      rw [binA_quo _ _ _ (by omega)]
      have : ((n0 / 256 ^ i : Nat) : Int).tdiv 256 = ((n0 / 256 ^ (i + 1) : Nat) : Int) := by
        rw [Int.tdiv_eq_ediv_of_nonneg (Int.natCast_nonneg _), Nat.pow_succ, ← Nat.div_div_eq_div_mul]; simp
      have h2 : n0 / 256 ^ (i + 1) ≤ n0 := Nat.div_le_self _ _
      have h3 : IntKind.u64.wrap ((n0 / 256 ^ (i + 1) : Nat) : Int) = ((n0 / 256 ^ (i + 1) : Nat) : Int) := by
        generalize n0 / 256 ^ (i + 1) = z at h2
        exact IntWalk.u64_in _ (by omega)
      rw [this, h3]
    rw [dedupref07_high_L1]
    simp only [dedupref07_high_B1, lenSl_slice, lenStr_string, str_size, fpureA_some, fnilA_ptr, faddA_ptr, addr_add, Nat.zero_add, Nat.add_zero, fpureQ_k, fpureQ_nilA, fpureQ_addA, fpureQ_pureA, fpureQ_guardA, fpureQ_idxSlA, fpureQ_pickA, freadQ_loadA, freadQ_loadNA, freadQ_b2sA, freadQ_guardA, freadQ_slSlA, freadQ_k, fendA, fallA_one, fstillA_nil, fguardA_tt, fguardA_ff, fguardA_tf, fguardA_ft, fguardA_undef, fpickA_true, fpickA_false, fcondA_true, fcondA_false, binA_add, binA_sub, binA_mul, binA_eql, binA_neq, binA_lss, binA_leq, binA_gtr, binA_geq, unA_not, Bool.not_true, Bool.not_false, convA_int, extA_tuple, List.getElem?_toArray, List.getElem?_cons_zero, List.getElem?_cons_succ, c1, e0, e1, e2, e3, wrap_u8_nat]
    refine idxSlA_own (by omega) ?_
    refine storeA_at hq hb (by simp; omega) rfl ?_
    refine ih (i + 1) _ (by omega) (by simpa using hql) ?_ (fun h' hb' st => hk h' hb' ?_)
    · simp only [put_blk, if_true, be, bvs_cons]
      rw [List.set_append_left _ _ (by simp), List.replicate_succ', List.set_append_right _ _ (by simp)]
      simp
    · exact ((Step.refl h [q] (by simpa using hql)).put (by simp) _).trans st
theorem high_spec {h : Hp} (n s : Nat) (hn : n < 18446744073709551616) (hs : s ≤ 8) : ACalls prog w0 n_dedupref07_high [.int .u64 n, .int .i64 s] h fun v h' => ∃ S', GV w0 h' 1 v s (bvs (be s n)) S' ∧ Step h h' [] S' := by
  refine ACalls.of_fit (by simp) fun f => c_dedupref07_high (by simp) ?_
  simp only [s_dedupref07_high, mkA_nat]
  refine ⟨Nat.le_refl _, by omega, by omega, s + 1, ?_⟩
  have := high_loop (w0 := w0) (q := h.next) (n0 := n) (s := s) (K := fun y5 => retA [y5] fun v h' => ∃ S', GV w0 h' 1 v s (bvs (be s n)) S' ∧ Step h h' [] S') f.base hn hs s 0 (h.new (zerosL [Value.int IntKind.u8 0] s) 1) (by omega) (by simp) (by simp [zerosL_single, be]) (fun h' hb' st => by
    simp only [retA_iff, oneOf_one]
    refine ⟨by simp, [h.next], .inr ⟨h.next, rfl, rfl, f.base, by have := st.next; simp at this; omega, hb', by simp, by show s < 18446744073709551616; omega⟩, ?_⟩
    exact ((Step.refl h [] (by simp)).new _ _).trans st)
  simpa using this
/-- A slice of bytes of one's own as the same type. -/
theorem sl2sl_gv {h : Hp} {x : Value} {l : List UInt8} {S : List Nat} {K : Kont} (v : GV w0 h 1 x l.length (bvs l) S) (hl : 0 < l.length) (hk : K x h) : sl2slA w0 x K h := by
  rcases v with (⟨-, e, -⟩ | ⟨q, rfl, -, a, b, c, -, e⟩) | ⟨q, rfl, -, a, b, c, e, -⟩
  · omega
  · exact ⟨q, 0, _, _, _, rfl, hl, a, c, by simpa using hl, hk⟩
  · exact ⟨q, 0, _, _, _, rfl, hl, a, c, by simpa using hl, hk⟩
theorem Bytes_spec {h : Hp} {size gen i : Nat} {r : List UInt8} {a : Option Addr} {c : Nat} (hs : 512 ≤ size ∧ size ≤ 4096) (hg : gen < 18446744073709551616) (hi : i < 4294967296) (hr : r.length ≤ size - 24) (src : Src w0.heap.size h 1 (.slice a r.length c) r.length (bvs r)) :
    ACalls prog w0 n_dedupref07_Bytes [.int .i64 size, .int .u64 gen, .int .i64 i, .slice a r.length c] h fun v h' => ∃ S', Vec w0 h' 1 v size (bvs (sec size gen i r)) S' ∧ Step h h' [] S' := by
  refine ACalls.of_fit (by simp) fun f => c_dedupref07_Bytes (by simp) ?_
  have hz : zerosL [(.int .u8 0 : Value)] 4 = [.int .u8 0, .int .u8 0, .int .u8 0, .int .u8 0] := rfl
  simp only [s_dedupref07_Bytes, hz, bslA_iff, fillA_one, fillA_nil, isCell_int, true_and, List.set_cons_zero, List.set_cons_succ, List.length_cons, List.length_nil, Nat.zero_add]
  refine ⟨by omega, by omega, by omega, by omega, ?_⟩
  have hm : [(.int .u8 68 : Value), .int .u8 74, .int .u8 82, .int .u8 78] = bvs [68, 74, 82, 78] := rfl
  rw [hm]
  have s0 := (Step.refl h [] (by simp)).new (bvs [68, 74, 82, 78]) 1
  have v0 : GV w0 (h.new (bvs [68, 74, 82, 78]) 1) 1 (.slice (some ⟨h.next, 0, none⟩) 4 4) 4 (bvs [68, 74, 82, 78]) [h.next] := GV.new f.base (by simp) (by decide)
  refine sl2sl_gv (l := [68, 74, 82, 78]) v0 (by simp) ?_
  refine callA_of (high_spec gen 8 hg (by omega)) fun v h1 ⟨S1, g1, s1⟩ f1 => ?_
  have v1 := v0.frame s1 (by simp)
  obtain ⟨a1, c1, rfl⟩ := g1.slice
  refine appA_gv f1.base v1 (m := 8) (by simp) g1.src (by simp) (by omega) (by omega) (by omega) fun x2 h2 S2 v2 s2 => ?_
  have e1 : IntKind.u64.wrap (i : Int) = i := IntWalk.u64_in _ (by omega)
  simp only [lenSl_slice, lenStr_string, str_size, fpureA_some, fnilA_ptr, faddA_ptr, addr_add, Nat.zero_add, Nat.add_zero, fpureQ_k, fpureQ_nilA, fpureQ_addA, fpureQ_pureA, fpureQ_guardA, fpureQ_idxSlA, fpureQ_pickA, freadQ_loadA, freadQ_loadNA, freadQ_b2sA, freadQ_guardA, freadQ_slSlA, freadQ_k, fendA, fallA_one, fstillA_nil, fguardA_tt, fguardA_ff, fguardA_tf, fguardA_ft, fguardA_undef, fpickA_true, fpickA_false, fcondA_true, fcondA_false, binA_add, binA_sub, binA_mul, binA_eql, binA_neq, binA_lss, binA_leq, binA_gtr, binA_geq, unA_not, Bool.not_true, Bool.not_false, convA_int, extA_tuple, List.getElem?_toArray, List.getElem?_cons_zero, List.getElem?_cons_succ, e1]
  refine callA_of (high_spec i 4 (by omega) (by omega)) fun v h3 ⟨S3, g3, s3⟩ f3 => ?_
  have v3 := v2.frame s3 (by simp)
  obtain ⟨a3, c3, rfl⟩ := g3.slice
  refine appA_gv f3.base v3 (m := 4) (by simp) g3.src (by simp) (by omega) (by omega) (by omega) fun x4 h4 S4 v4 s4 => ?_
  have e2 : IntKind.u64.wrap (r.length : Int) = r.length := IntWalk.u64_in _ (by omega)
  simp only [lenSl_slice, lenStr_string, str_size, fpureA_some, fnilA_ptr, faddA_ptr, addr_add, Nat.zero_add, Nat.add_zero, fpureQ_k, fpureQ_nilA, fpureQ_addA, fpureQ_pureA, fpureQ_guardA, fpureQ_idxSlA, fpureQ_pickA, freadQ_loadA, freadQ_loadNA, freadQ_b2sA, freadQ_guardA, freadQ_slSlA, freadQ_k, fendA, fallA_one, fstillA_nil, fguardA_tt, fguardA_ff, fguardA_tf, fguardA_ft, fguardA_undef, fpickA_true, fpickA_false, fcondA_true, fcondA_false, binA_add, binA_sub, binA_mul, binA_eql, binA_neq, binA_lss, binA_leq, binA_gtr, binA_geq, unA_not, Bool.not_true, Bool.not_false, convA_int, extA_tuple, List.getElem?_toArray, List.getElem?_cons_zero, List.getElem?_cons_succ, e2]
  refine callA_of (high_spec r.length 4 (by omega) (by omega)) fun v h5 ⟨S5, g5, s5⟩ f5 => ?_
  have v5 := v4.frame s5 (by simp)
  obtain ⟨a5, c5, rfl⟩ := g5.slice
  refine appA_gv f5.base v5 (m := 4) (by simp) g5.src (by simp) (by omega) (by omega) (by omega) fun x6 h6 S6 v6 s6 => ?_
  have hb6 : (bvs [68, 74, 82, 78] ++ bvs (be 8 gen) ++ bvs (be 4 i) ++ bvs (be 4 r.length)) = bvs (sec0 gen i r.length) := by simp [sec0]
  rw [hb6] at v6
  -- what is owned from the beginning on
  have st2 : Step h h2 [] S2 := ((s0.trans (s1.wide (T := [h.next]) (T' := [h.next]) (by simp) (fun b hb => .inr ⟨hb, by simp at hb; subst hb; simp⟩))).trans s2)
  have st4 : Step h h4 [] S4 := ((st2.trans (s3.wide (T := S2) (T' := S2) (by simp) (fun b hb => .inr ⟨hb, (v2.lt b hb).2⟩))).trans s4)
  have st6 : Step h h6 [] S6 := ((st4.trans (s5.wide (T := S4) (T' := S4) (by simp) (fun b hb => .inr ⟨hb, (v4.lt b hb).2⟩))).trans s6)
  have hS6 : ∀ b, b ∈ S6 → h.next ≤ b := fun b hb => by
    rcases (st6.own b hb).2 with e | e
    · simp at e
    · exact e
  have e3 : IntKind.i64.wrap ((size : Int) - 24) = ((size - 24 : Nat) : Int) := by rw [IntWalk.i64_in _ (by omega)]; omega
  simp only [lenSl_slice, lenStr_string, str_size, fpureA_some, fnilA_ptr, faddA_ptr, addr_add, Nat.zero_add, Nat.add_zero, fpureQ_k, fpureQ_nilA, fpureQ_addA, fpureQ_pureA, fpureQ_guardA, fpureQ_idxSlA, fpureQ_pickA, freadQ_loadA, freadQ_loadNA, freadQ_b2sA, freadQ_guardA, freadQ_slSlA, freadQ_k, fendA, fallA_one, fstillA_nil, fguardA_tt, fguardA_ff, fguardA_tf, fguardA_ft, fguardA_undef, fpickA_true, fpickA_false, fcondA_true, fcondA_false, binA_add, binA_sub, binA_mul, binA_eql, binA_neq, binA_lss, binA_leq, binA_gtr, binA_geq, unA_not, Bool.not_true, Bool.not_false, convA_int, extA_tuple, List.getElem?_toArray, List.getElem?_cons_zero, List.getElem?_cons_succ, e3, mkA_nat, zeros_bvs]
  refine ⟨Nat.le_refl _, by omega, by omega, ?_⟩
  have hrl : (secR size r).length = size - 24 := secR_length hr
  have sn := (Step.refl h6 [] (by simp)).new (bvs (List.replicate (size - 24) 0)) 1
  have hB6 : w0.heap.size ≤ h6.next := by have := f.base; have := st6.next; omega
  have st7 : Step h (h6.new (bvs (List.replicate (size - 24) 0)) 1) [] [] := (st6.new _ _).less (by simp)
  refine copy_spec hr hB6 (by simp) (src.step f st7 (by simp)) (fun n h7 hb7 s7 => ?_) (by simp)
  have v7 := (v6.frame sn (by simp)).frame s7 (by intro b hb; have := (v6.lt b hb).2; simp; omega)
  have sR : Src w0.heap.size h7 1 (.slice (some ⟨h6.next, 0, none⟩) (size - 24) (size - 24)) (size - 24) (bvs (secR size r)) := src_whole hB6 hb7 (by simp [hrl])
  obtain ⟨a6, c6, rfl⟩ := v6.slice
  have h67 : h6.next < h7.next := by have := s7.next; simp at this; omega
  have hl20 : (sec0 gen i r.length).length = 20 := by simp
  simp only [bslA_iff, fillA_nil]
  -- b again, into bytes of its own
  have sx := (Step.refl h7 [] (by simp)).new (zerosL [(.int .u8 0 : Value)] 0) 1
  have vx : GV w0 (h7.new (zerosL [(.int .u8 0 : Value)] 0) 1) 1 (.slice (some ⟨h7.next, 0, none⟩) 0 0) 0 [] [h7.next] := .inr ⟨h7.next, rfl, rfl, by omega, by simp, by simp [zerosL], rfl, by decide⟩
  have v7x := v7.frame sx (by simp)
  refine appA_gv (m := 20) (by simp; omega) vx (by simp) v7x.src (by simp) (by omega) (by omega) (by omega) fun x8 h8 S8 v8 s8 => ?_
  rw [List.nil_append] at v8
  have s78 : Step h7 h8 [] S8 := sx.trans s8
  have hS8 : ∀ b, b ∈ S8 → h7.next ≤ b := fun b hb => by
    rcases (s78.own b hb).2 with e | e
    · simp at e
    · exact e
  have hb8 := (s78.keep h6.next h67 (by simp)).1.trans hb7
  have sR8 : Src w0.heap.size h8 1 (.slice (some ⟨h6.next, 0, none⟩) (size - 24) (size - 24)) (size - 24) (bvs (secR size r)) := src_whole hB6 hb8 (by simp [hrl])
  refine appA_gv (m := size - 24) (by have := s78.next; omega) v8 (by simp) sR8 (by simp [hrl]) (by omega) (by omega) (by omega) fun x9 h9 S9 v9 s9 => ?_
  have s79 : Step h7 h9 [] S9 := s78.trans s9
  obtain ⟨a9, c9, rfl⟩ := v9.slice
  have hl9 : (sec0 gen i r.length ++ secR size r).length = 0 + 20 + (size - 24) := by simp [hrl]
  have src9 := v9.src
  rw [← bvs_append] at src9
  refine b2sA_of src9 ?_
  refine callA_of (rCrc_spec _ (by omega)) fun v h10 ⟨e, e10⟩ f10 => ?_
  subst e e10
  have hc := crcOf_lt (sec0 gen i r.length ++ secR size r)
  have e4 : IntKind.u64.wrap ((crcOf (sec0 gen i r.length ++ secR size r) : Nat) : Int) = (crcOf (sec0 gen i r.length ++ secR size r) : Nat) := IntWalk.u64_in _ (by omega)
  simp only [lenSl_slice, lenStr_string, str_size, fpureA_some, fnilA_ptr, faddA_ptr, addr_add, Nat.zero_add, Nat.add_zero, fpureQ_k, fpureQ_nilA, fpureQ_addA, fpureQ_pureA, fpureQ_guardA, fpureQ_idxSlA, fpureQ_pickA, freadQ_loadA, freadQ_loadNA, freadQ_b2sA, freadQ_guardA, freadQ_slSlA, freadQ_k, fendA, fallA_one, fstillA_nil, fguardA_tt, fguardA_ff, fguardA_tf, fguardA_ft, fguardA_undef, fpickA_true, fpickA_false, fcondA_true, fcondA_false, binA_add, binA_sub, binA_mul, binA_eql, binA_neq, binA_lss, binA_leq, binA_gtr, binA_geq, unA_not, Bool.not_true, Bool.not_false, convA_int, extA_tuple, List.getElem?_toArray, List.getElem?_cons_zero, List.getElem?_cons_succ, e4]
  refine callA_of (high_spec _ 4 (by omega) (by omega)) fun v h11 ⟨S11, g11, s11⟩ f11 => ?_
  have s7_11 : Step h7 h11 [] [] := (s79.less (T := []) (by simp)).trans (s11.less (by simp))
  have v11 := v7.frame s7_11 (by simp)
  obtain ⟨a11, c11, rfl⟩ := g11.slice
  refine appA_gv f11.base v11 (m := 4) (by simp) g11.src (by simp) (by omega) (by omega) (by omega) fun x12 h12 S12 v12 s12 => ?_
  have hb12 := (s12.keep h6.next (by have := s7_11.next; omega) (fun e => by have := (v6.lt _ e).2; omega)).1.trans ((s7_11.keep h6.next h67 (by simp)).1.trans hb7)
  have sR12 : Src w0.heap.size h12 1 (.slice (some ⟨h6.next, 0, none⟩) (size - 24) (size - 24)) (size - 24) (bvs (secR size r)) := src_whole hB6 hb12 (by simp [hrl])
  refine appA_gv_pos (m := size - 24) (by have := s12.next; have := f11.base; omega) v12 (by omega) (by simp) sR12 (by simp [hrl]) (by omega) (by omega) (by omega) fun x13 h13 S13 v13 s13 => ?_
  obtain ⟨a13, c13, rfl⟩ := v13.slice
  simp only [retA_iff, oneOf_one]
  refine ⟨by simp, S13, ?_, ?_⟩
  · have hn13 : 4 + 8 + 4 + 4 + 4 + (size - 24) = size := by omega
    rw [hn13] at v13 ⊢
    simpa [sec] using v13
  · have sA : Step h h7 [] (h6.next :: S6) := (st6.new _ _).trans (s7.wide (fun b hb => by simp at hb; simp [hb]) (fun b hb => by
      rcases List.mem_cons.1 hb with rfl | hb
      · exact .inl (by simp)
      · exact .inr ⟨by simp [hb], by have := (v6.lt b hb).2; simp; omega⟩))
    have sB := (sA.less (T := S6) (fun b hb => by simp [hb])).trans (s7_11.wide (T := S6) (T' := S6) (by simp) (fun b hb => .inr ⟨hb, (v7.lt b hb).2⟩))
    exact (sB.trans s12).trans s13
end
section
variable {w0 : World} {h : Hp} {p : Nat} {st : JS} {S : List Nat}
theorem xLL_eq : dedupref07_Writer_Left_L1 = dedupref07_Writer_free_L1 := by
  funext P w0 k m
  induction m with
  | zero => rfl
  | succ m ih => funext a b c; simp only [dedupref07_Writer_Left_L1, dedupref07_Writer_free_L1, ih]; rfl
theorem xfree_loop {K : Value → Hp → Prop} (w : Jw w0 h p st S) (o : st.Ok) : ∀ (post pre : List (List UInt8)) (n : Int), pre ++ post = st.rooms.drop st.taken → (-9000000000000000000 ≤ n - tot post ∧ n ≤ 9000000000000000000) → K (.int .i64 (n - tot post)) h →
    dedupref07_Writer_free_L1 prog w0 K (post.length + 1) (ptr p) (.int .i64 n) (.int .i64 ((st.taken + pre.length : Nat) : Int)) h := by
  obtain ⟨x, T, hb, hB, hlt, vv, hp, rfl⟩ := w
  obtain ⟨a, c, hx⟩ := vv.slice
  have hta := o.good.1
  have hle := o.len
  have hse := o.sectors
  intro post
  induction post with
  | nil =>
    intro pre n he hn hk
    have hpl : st.taken + pre.length = st.rooms.length := by
      have := congrArg List.length he
      simp at this; omega
    rw [dedupref07_Writer_free_L1]
    simp only [dedupref07_Writer_free_B1, ptr, lenSl_slice, lenStr_string, str_size, fpureA_some, fnilA_ptr, faddA_ptr, addr_add, Nat.zero_add, Nat.add_zero, fpureQ_k, fpureQ_nilA, fpureQ_addA, fpureQ_pureA, fpureQ_guardA, fpureQ_idxSlA, fpureQ_pickA, freadQ_loadA, freadQ_loadNA, freadQ_b2sA, freadQ_guardA, freadQ_slSlA, freadQ_k, fendA, fallA_one, fstillA_nil, fguardA_tt, fguardA_ff, fguardA_tf, fguardA_ft, fguardA_undef, fpickA_true, fpickA_false, fcondA_true, fcondA_false, binA_add, binA_sub, binA_mul, binA_eql, binA_neq, binA_lss, binA_leq, binA_gtr, binA_geq, unA_not, Bool.not_true, Bool.not_false, convA_int, extA_tuple, List.getElem?_toArray, List.getElem?_cons_zero, List.getElem?_cons_succ]
    refine loadA_at hB hb (by rfl) ?_
    rw [hx]
    simp only [lenSl_slice, lenStr_string, str_size, fpureA_some, fnilA_ptr, faddA_ptr, addr_add, Nat.zero_add, Nat.add_zero, fpureQ_k, fpureQ_nilA, fpureQ_addA, fpureQ_pureA, fpureQ_guardA, fpureQ_idxSlA, fpureQ_pickA, freadQ_loadA, freadQ_loadNA, freadQ_b2sA, freadQ_guardA, freadQ_slSlA, freadQ_k, fendA, fallA_one, fstillA_nil, fguardA_tt, fguardA_ff, fguardA_tf, fguardA_ft, fguardA_undef, fpickA_true, fpickA_false, fcondA_true, fcondA_false, binA_add, binA_sub, binA_mul, binA_eql, binA_neq, binA_lss, binA_leq, binA_gtr, binA_geq, unA_not, Bool.not_true, Bool.not_false, convA_int, extA_tuple, List.getElem?_toArray, List.getElem?_cons_zero, List.getElem?_cons_succ, hpl, Int.lt_irrefl, decide_false]
    simpa using hk
  | cons r post ih =>
    intro pre n he hn hk
    have hpl : st.taken + pre.length < st.rooms.length := by
      have := congrArg List.length he
      simp at this; omega
    have ht : tot (r :: post) = r.length + tot post := by simp [tot]
    have hg : st.rooms[st.taken + pre.length]? = some r := by rw [← List.getElem?_drop, ← he]; simp
    have hrl := o.good.2.1 r (List.mem_of_getElem? hg)
    have hro := o.room
    rw [ht] at hn hk
    obtain ⟨b0, vs, y, T0, hxs, hb0B, hb0, hb0e, hvl, hvsl, vl, hT0⟩ := vv.get hg
    obtain ⟨ay, cy, hy⟩ := vl.slice
    have c1 : decide (((st.taken + pre.length : Nat) : Int) < (st.rooms.length : Int)) = true := decide_eq_true (by omega)
    have e5 : IntKind.i64.wrap (((st.taken + pre.length : Nat) : Int) + 1) = ((st.taken + (pre.length + 1) : Nat) : Int) := by rw [IntWalk.i64_in _ (by omega)]; omega
    have e6 : IntKind.i64.wrap (n - (r.length : Int)) = n - r.length := IntWalk.i64_in _ (by omega)
    have ih2 := ih (pre ++ [r]) (n - r.length) (by simpa using he) (by omega) (by
      have : n - (r.length : Int) - (tot post : Nat) = n - ((r.length + tot post : Nat) : Int) := by omega
      rw [this]; exact hk)
    rw [List.length_cons, dedupref07_Writer_free_L1]
    simp only [dedupref07_Writer_free_B1, ptr, lenSl_slice, lenStr_string, str_size, fpureA_some, fnilA_ptr, faddA_ptr, addr_add, Nat.zero_add, Nat.add_zero, fpureQ_k, fpureQ_nilA, fpureQ_addA, fpureQ_pureA, fpureQ_guardA, fpureQ_idxSlA, fpureQ_pickA, freadQ_loadA, freadQ_loadNA, freadQ_b2sA, freadQ_guardA, freadQ_slSlA, freadQ_k, fendA, fallA_one, fstillA_nil, fguardA_tt, fguardA_ff, fguardA_tf, fguardA_ft, fguardA_undef, fpickA_true, fpickA_false, fcondA_true, fcondA_false, binA_add, binA_sub, binA_mul, binA_eql, binA_neq, binA_lss, binA_leq, binA_gtr, binA_geq, unA_not, Bool.not_true, Bool.not_false, convA_int, extA_tuple, List.getElem?_toArray, List.getElem?_cons_zero, List.getElem?_cons_succ]
    refine loadA_at hB hb (by rfl) ?_
    rw [hxs]
    simp only [lenSl_slice, lenStr_string, str_size, fpureA_some, fnilA_ptr, faddA_ptr, addr_add, Nat.zero_add, Nat.add_zero, fpureQ_k, fpureQ_nilA, fpureQ_addA, fpureQ_pureA, fpureQ_guardA, fpureQ_idxSlA, fpureQ_pickA, freadQ_loadA, freadQ_loadNA, freadQ_b2sA, freadQ_guardA, freadQ_slSlA, freadQ_k, fendA, fallA_one, fstillA_nil, fguardA_tt, fguardA_ff, fguardA_tf, fguardA_ft, fguardA_undef, fpickA_true, fpickA_false, fcondA_true, fcondA_false, binA_add, binA_sub, binA_mul, binA_eql, binA_neq, binA_lss, binA_leq, binA_gtr, binA_geq, unA_not, Bool.not_true, Bool.not_false, convA_int, extA_tuple, List.getElem?_toArray, List.getElem?_cons_zero, List.getElem?_cons_succ, c1]
    refine loadA_at hB hb (by rfl) ?_
    rw [hxs]
    refine idxSlA_own (by omega) ?_
    refine loadA_at hb0B hb0 hvl ?_
    rw [hy]
    simp only [lenSl_slice, lenStr_string, str_size, fpureA_some, fnilA_ptr, faddA_ptr, addr_add, Nat.zero_add, Nat.add_zero, fpureQ_k, fpureQ_nilA, fpureQ_addA, fpureQ_pureA, fpureQ_guardA, fpureQ_idxSlA, fpureQ_pickA, freadQ_loadA, freadQ_loadNA, freadQ_b2sA, freadQ_guardA, freadQ_slSlA, freadQ_k, fendA, fallA_one, fstillA_nil, fguardA_tt, fguardA_ff, fguardA_tf, fguardA_ft, fguardA_undef, fpickA_true, fpickA_false, fcondA_true, fcondA_false, binA_add, binA_sub, binA_mul, binA_eql, binA_neq, binA_lss, binA_leq, binA_gtr, binA_geq, unA_not, Bool.not_true, Bool.not_false, convA_int, extA_tuple, List.getElem?_toArray, List.getElem?_cons_zero, List.getElem?_cons_succ, e6, e5]
    simpa [ptr] using ih2
theorem xfree_spec (w : Jw w0 h p st S) (o : st.Ok) : ACalls prog w0 n_dedupref07_Writer_free [ptr p] h fun v h' => v = .int .i64 st.free ∧ h' = h := by
  refine ACalls.of_fit (by simp [ptr]) fun f => c_dedupref07_Writer_free (by simp [ptr]) ?_
  have hro := o.room
  have hse := o.sectors
  have hle := o.len
  have hta := o.good.1
  have htot := o.tot
  have hsz := o.size
  have w' := w
  obtain ⟨x, T, hb, hB, hlt, q, hp, rfl⟩ := w
  have hmul : (st.sectors - st.taken) * st.room ≤ 4096 * 4096 := Nat.mul_le_mul (by omega) (by omega)
  have e0 : IntKind.i64.wrap ((st.size : Int) - 24) = ((st.room : Nat) : Int) := by rw [IntWalk.i64_in _ (by omega)]; unfold JS.room; omega
  have e1 : IntKind.i64.wrap ((st.sectors : Int) - (st.taken : Int)) = ((st.sectors - st.taken : Nat) : Int) := by rw [IntWalk.i64_in _ (by omega)]; omega
  have e2 : IntKind.i64.wrap (((st.sectors - st.taken : Nat) : Int) * (st.room : Int)) = (((st.sectors - st.taken) * st.room : Nat) : Int) := by rw [← Int.natCast_mul, IntWalk.i64_in _ (by omega)]
  simp only [s_dedupref07_Writer_free, ptr, lenSl_slice, lenStr_string, str_size, fpureA_some, fnilA_ptr, faddA_ptr, addr_add, Nat.zero_add, Nat.add_zero, fpureQ_k, fpureQ_nilA, fpureQ_addA, fpureQ_pureA, fpureQ_guardA, fpureQ_idxSlA, fpureQ_pickA, freadQ_loadA, freadQ_loadNA, freadQ_b2sA, freadQ_guardA, freadQ_slSlA, freadQ_k, fendA, fallA_one, fstillA_nil, fguardA_tt, fguardA_ff, fguardA_tf, fguardA_ft, fguardA_undef, fpickA_true, fpickA_false, fcondA_true, fcondA_false, binA_add, binA_sub, binA_mul, binA_eql, binA_neq, binA_lss, binA_leq, binA_gtr, binA_geq, unA_not, Bool.not_true, Bool.not_false, convA_int, extA_tuple, List.getElem?_toArray, List.getElem?_cons_zero, List.getElem?_cons_succ]
  refine loadA_at hB hb (by rfl) ?_
  simp only [lenSl_slice, lenStr_string, str_size, fpureA_some, fnilA_ptr, faddA_ptr, addr_add, Nat.zero_add, Nat.add_zero, fpureQ_k, fpureQ_nilA, fpureQ_addA, fpureQ_pureA, fpureQ_guardA, fpureQ_idxSlA, fpureQ_pickA, freadQ_loadA, freadQ_loadNA, freadQ_b2sA, freadQ_guardA, freadQ_slSlA, freadQ_k, fendA, fallA_one, fstillA_nil, fguardA_tt, fguardA_ff, fguardA_tf, fguardA_ft, fguardA_undef, fpickA_true, fpickA_false, fcondA_true, fcondA_false, binA_add, binA_sub, binA_mul, binA_eql, binA_neq, binA_lss, binA_leq, binA_gtr, binA_geq, unA_not, Bool.not_true, Bool.not_false, convA_int, extA_tuple, List.getElem?_toArray, List.getElem?_cons_zero, List.getElem?_cons_succ, e0]
  refine loadA_at hB hb (by rfl) ?_
  refine loadA_at hB hb (by rfl) ?_
  simp only [lenSl_slice, lenStr_string, str_size, fpureA_some, fnilA_ptr, faddA_ptr, addr_add, Nat.zero_add, Nat.add_zero, fpureQ_k, fpureQ_nilA, fpureQ_addA, fpureQ_pureA, fpureQ_guardA, fpureQ_idxSlA, fpureQ_pickA, freadQ_loadA, freadQ_loadNA, freadQ_b2sA, freadQ_guardA, freadQ_slSlA, freadQ_k, fendA, fallA_one, fstillA_nil, fguardA_tt, fguardA_ff, fguardA_tf, fguardA_ft, fguardA_undef, fpickA_true, fpickA_false, fcondA_true, fcondA_false, binA_add, binA_sub, binA_mul, binA_eql, binA_neq, binA_lss, binA_leq, binA_gtr, binA_geq, unA_not, Bool.not_true, Bool.not_false, convA_int, extA_tuple, List.getElem?_toArray, List.getElem?_cons_zero, List.getElem?_cons_succ, e1, e2]
  refine loadA_at hB hb (by rfl) ?_
  refine ⟨(st.rooms.drop st.taken).length + 1, ?_⟩
  have := xfree_loop (K := fun y4 => retA [y4] fun v h' => v = .int .i64 st.free ∧ h' = h) w' o (st.rooms.drop st.taken) [] (((st.sectors - st.taken) * st.room : Nat) : Int) rfl (by omega) (by
    simp only [retA_iff, oneOf_one]
    exact ⟨by simp, rfl, by trivial⟩)
  simpa [ptr] using this
theorem xLeft_spec (w : Jw w0 h p st S) (o : st.Ok) : ACalls prog w0 n_dedupref07_Writer_Left [ptr p] h fun v h' => v = .int .i64 st.left ∧ h' = h := by
  refine ACalls.of_fit (by simp [ptr]) fun f => c_dedupref07_Writer_Left (by simp [ptr]) ?_
  have hro := o.room
  have hse := o.sectors
  have hle := o.len
  have hta := o.good.1
  have htot := o.tot
  have hsz := o.size
  have w' := w
  obtain ⟨x, T, hb, hB, hlt, q, hp, rfl⟩ := w
  have hmul : (st.sectors - st.taken) * st.room ≤ 4096 * 4096 := Nat.mul_le_mul (by omega) (by omega)
  have e0 : IntKind.i64.wrap ((st.size : Int) - 24) = ((st.room : Nat) : Int) := by rw [IntWalk.i64_in _ (by omega)]; unfold JS.room; omega
  have e1 : IntKind.i64.wrap ((st.sectors : Int) - (st.taken : Int)) = ((st.sectors - st.taken : Nat) : Int) := by rw [IntWalk.i64_in _ (by omega)]; omega
  have e2 : IntKind.i64.wrap (((st.sectors - st.taken : Nat) : Int) * (st.room : Int)) = (((st.sectors - st.taken) * st.room : Nat) : Int) := by rw [← Int.natCast_mul, IntWalk.i64_in _ (by omega)]
  have e3 : IntKind.i64.wrap (st.free - 4) = st.free - 4 := IntWalk.i64_in _ (by unfold JS.free; omega)
  simp only [s_dedupref07_Writer_Left, ptr, lenSl_slice, lenStr_string, str_size, fpureA_some, fnilA_ptr, faddA_ptr, addr_add, Nat.zero_add, Nat.add_zero, fpureQ_k, fpureQ_nilA, fpureQ_addA, fpureQ_pureA, fpureQ_guardA, fpureQ_idxSlA, fpureQ_pickA, freadQ_loadA, freadQ_loadNA, freadQ_b2sA, freadQ_guardA, freadQ_slSlA, freadQ_k, fendA, fallA_one, fstillA_nil, fguardA_tt, fguardA_ff, fguardA_tf, fguardA_ft, fguardA_undef, fpickA_true, fpickA_false, fcondA_true, fcondA_false, binA_add, binA_sub, binA_mul, binA_eql, binA_neq, binA_lss, binA_leq, binA_gtr, binA_geq, unA_not, Bool.not_true, Bool.not_false, convA_int, extA_tuple, List.getElem?_toArray, List.getElem?_cons_zero, List.getElem?_cons_succ]
  refine loadA_at hB hb (by rfl) ?_
  simp only [lenSl_slice, lenStr_string, str_size, fpureA_some, fnilA_ptr, faddA_ptr, addr_add, Nat.zero_add, Nat.add_zero, fpureQ_k, fpureQ_nilA, fpureQ_addA, fpureQ_pureA, fpureQ_guardA, fpureQ_idxSlA, fpureQ_pickA, freadQ_loadA, freadQ_loadNA, freadQ_b2sA, freadQ_guardA, freadQ_slSlA, freadQ_k, fendA, fallA_one, fstillA_nil, fguardA_tt, fguardA_ff, fguardA_tf, fguardA_ft, fguardA_undef, fpickA_true, fpickA_false, fcondA_true, fcondA_false, binA_add, binA_sub, binA_mul, binA_eql, binA_neq, binA_lss, binA_leq, binA_gtr, binA_geq, unA_not, Bool.not_true, Bool.not_false, convA_int, extA_tuple, List.getElem?_toArray, List.getElem?_cons_zero, List.getElem?_cons_succ, e0]
  refine loadA_at hB hb (by rfl) ?_
  refine loadA_at hB hb (by rfl) ?_
  simp only [lenSl_slice, lenStr_string, str_size, fpureA_some, fnilA_ptr, faddA_ptr, addr_add, Nat.zero_add, Nat.add_zero, fpureQ_k, fpureQ_nilA, fpureQ_addA, fpureQ_pureA, fpureQ_guardA, fpureQ_idxSlA, fpureQ_pickA, freadQ_loadA, freadQ_loadNA, freadQ_b2sA, freadQ_guardA, freadQ_slSlA, freadQ_k, fendA, fallA_one, fstillA_nil, fguardA_tt, fguardA_ff, fguardA_tf, fguardA_ft, fguardA_undef, fpickA_true, fpickA_false, fcondA_true, fcondA_false, binA_add, binA_sub, binA_mul, binA_eql, binA_neq, binA_lss, binA_leq, binA_gtr, binA_geq, unA_not, Bool.not_true, Bool.not_false, convA_int, extA_tuple, List.getElem?_toArray, List.getElem?_cons_zero, List.getElem?_cons_succ, e1, e2]
  refine loadA_at hB hb (by rfl) ?_
  refine ⟨(st.rooms.drop st.taken).length + 1, ?_⟩
  rw [xLL_eq]
  have := xfree_loop (K := fun y4 => pureA (binA .sub y4 (.int .i64 4)) fun v46 => pureA (binA .lss v46 (.int .i64 0)) fun v48 => condA v48 (retA [(.int .i64 0)] fun v h' => v = .int .i64 st.left ∧ h' = h) (retA [v46] fun v h' => v = .int .i64 st.left ∧ h' = h)) w' o (st.rooms.drop st.taken) [] (((st.sectors - st.taken) * st.room : Nat) : Int) rfl (by omega) (by
    have hfr : (((st.sectors - st.taken) * st.room : Nat) : Int) - (tot (st.rooms.drop st.taken) : Nat) = st.free := rfl
    rw [hfr]
    simp only [lenSl_slice, lenStr_string, str_size, fpureA_some, fnilA_ptr, faddA_ptr, addr_add, Nat.zero_add, Nat.add_zero, fpureQ_k, fpureQ_nilA, fpureQ_addA, fpureQ_pureA, fpureQ_guardA, fpureQ_idxSlA, fpureQ_pickA, freadQ_loadA, freadQ_loadNA, freadQ_b2sA, freadQ_guardA, freadQ_slSlA, freadQ_k, fendA, fallA_one, fstillA_nil, fguardA_tt, fguardA_ff, fguardA_tf, fguardA_ft, fguardA_undef, fpickA_true, fpickA_false, fcondA_true, fcondA_false, binA_add, binA_sub, binA_mul, binA_eql, binA_neq, binA_lss, binA_leq, binA_gtr, binA_geq, unA_not, Bool.not_true, Bool.not_false, convA_int, extA_tuple, List.getElem?_toArray, List.getElem?_cons_zero, List.getElem?_cons_succ, e3, condA_bool]
    refine ⟨fun hneg => ?_, fun hneg => ?_⟩
    · have hneg := of_decide_eq_true hneg
      have : st.left = 0 := by unfold JS.left; omega
      simp [this]
    · have hneg := of_decide_eq_false hneg
      have : st.left = st.free - 4 := by unfold JS.left; omega
      simp [this])
  simpa [ptr] using this
end

section
variable {w0 : World} {p : Nat}
/-- A byte goes behind those of the last room. -/
theorem put_byte {h : Hp} {st : JS} {S SX : List Nat} {fs : List (List UInt8)} {r all : List UInt8} {x5 : Value} {j : Nat} {b : UInt8} {K : Hp → Prop} (w : Jw w0 h p st S) (hrs : st.rooms = fs ++ [r]) (hn : fs.length ≤ 1000000) (hrl : r.length ≤ 1000000) (v5 : GV w0 h 1 x5 all.length (bvs all) SX) (hj : all[j]? = some b) (hd : ∀ c, c ∈ SX → c ∉ S)
    (hk : ∀ h' S', Jw w0 h' p { st with rooms := fs ++ [r ++ [b]] } S' → GV w0 h' 1 x5 all.length (bvs all) SX → (∀ c, c ∈ SX → c ∉ S') → Step h h' S S' → K h') :
    loadA w0 (.pointer (some ⟨p, 3, none⟩)) (fun v71 =>
    loadA w0 (.pointer (some ⟨p, 3, none⟩)) fun v77 =>
    idxSlA 1 v77 (.int .i64 (fs.length : Int)) fun v80 =>
    loadA w0 v80 fun v81 =>
    idxSlA 1 x5 (.int .i64 (j : Int)) fun v84 =>
    loadA w0 v84 fun v85 =>
    bslA [(0, 1, false, v85)] (zerosL [(.int .u8 0)] 1) 1 1 fun v86 =>
    stillA [(sameQ (loadA w0 v80) v81), (sameQ (loadA w0 (.pointer (some ⟨p, 3, none⟩))) v77), (sameQ (loadA w0 (.pointer (some ⟨p, 3, none⟩))) v71)] (
    appA w0 1 1 v81 v86 fun v87 =>
    stillA [(sameQ (loadA w0 (.pointer (some ⟨p, 3, none⟩))) v71)] (
    idxSlA 1 v71 (.int .i64 (fs.length : Int)) fun v88 =>
    storeA w0 v88 v87 fun _ => K))) h := by
  obtain ⟨x, T, hb, hB, hlt, vv, hp, rfl⟩ := w
  have hrl2 : st.rooms.length = fs.length + 1 := by rw [hrs]; simp
  obtain ⟨vs, U, S0, vx, rw_, d, rfl⟩ := vv
  rw [hrs] at rw_
  obtain ⟨vs', v, S', T0, rfl, rw', vl, dl, rfl⟩ := rw_.last
  have hlv := rw'.len
  have hvl : (vs' ++ [v])[fs.length]? = some v := by
    rw [List.getElem?_append_right (by omega)]; simp [hlv]
  rcases vx with ⟨-, e, -⟩ | ⟨b0, rfl, rfl, hb0B, hb0l, hb0, hb0e, -⟩
  · omega
  refine loadA_at hB hb (by rfl) ?_
  refine loadA_at hB hb (by rfl) ?_
  refine idxSlA_own (by omega) ?_
  refine loadA_at hb0B hb0 hvl ?_
  have hs5 := v5.src
  obtain ⟨a5, c5, rfl⟩ := v5.slice
  refine idx_load1 hs5 (by simp) (v := bv b) (by rw [bvs_get, hj]; rfl) ?_
  have hz : zerosL [(.int .u8 0 : Value)] 1 = [.int .u8 0] := rfl
  simp only [hz, bslA_iff, fillA_one, fillA_nil, isCell_bv, true_and, List.set_cons_zero, List.length_cons, List.length_nil]
  refine ⟨by omega, ?_⟩
  have s1 := (Step.refl h [] (by simp)).new [bv b] 1
  have hb1 : (h.new [bv b] 1).blk p = _ := (s1.keep p hlt (by simp)).1.trans hb
  have hb01 : (h.new [bv b] 1).blk b0 = _ := (s1.keep b0 hb0l (by simp)).1.trans hb0
  have hb01e : (h.new [bv b] 1).esz b0 = 1 := (s1.keep b0 hb0l (by simp)).2.trans hb0e
  simp only [stillA_iff, allA_cons, allA_one, sameQ_loadA]
  refine ⟨⟨loadA_at hb0B hb01 hvl rfl, loadA_at hB hb1 (by rfl) rfl, loadA_at hB hb1 (by rfl) rfl⟩, ?_⟩
  have hpT0 : p ∉ T0 := fun e => hp (by simp [e])
  have vl1 := vl.frame s1 (by simp)
  refine appA_vec (m := 1) (ys := bvs [b]) (by simp; omega) vl1 (by simp) (src_new (by omega) (by simp)) (by simp) (by omega) (by omega) (by omega) (fun v' h' T' vv' st' => ?_)
  have hlt1 : p < (h.new [bv b] 1).next := by simp; omega
  have hb0l1 : b0 < (h.new [bv b] 1).next := by simp; omega
  have hb' : h'.blk p = _ := (st'.keep p hlt1 hpT0).1.trans hb1
  have hb0T0 : b0 ∉ T0 := fun e => d b0 (by simp) (by simp [e])
  have hb0' : h'.blk b0 = _ := (st'.keep b0 hb0l1 hb0T0).1.trans hb01
  have hb0e' : h'.esz b0 = 1 := (st'.keep b0 hb0l1 hb0T0).2.trans hb01e
  simp only [stillA_iff, allA_one, sameQ_loadA]
  refine ⟨loadA_at hB hb' (by rfl) rfl, ?_⟩
  refine idxSlA_own (by omega) ?_
  obtain ⟨av', cv', hvs'⟩ := vv'.slice
  refine storeA_at hb0B hb0' (by simp; omega) (by rw [hvs']; rfl) ?_
  have hset : (vs' ++ [v]).set fs.length v' = vs' ++ [v'] := by
    rw [List.set_append_right _ _ (by omega), show fs.length - vs'.length = 0 by omega]; rfl
  rw [hset]
  have s01 : Step h h' T0 T' := (((Step.refl h T0 fun b hb => (vl.lt b hb).2).new [bv b] 1).less (T := T0) (fun b hb => by simp [hb])).trans st'
  have hT'n : ∀ b, b ∈ T' → b ∈ T0 ∨ h.next ≤ b := fun b hb => (s01.own b hb).2
  have dT' : ∀ b, b ∈ T' → b ∉ S' := fun b hb hs => by
    rcases hT'n b hb with e | e
    · exact dl b e hs
    · have := (rw'.lt b hs).2; omega
  have hpT' : p ∉ T' := fun e => by
    rcases hT'n p e with g | g
    · exact hpT0 g
    · omega
  have hb0T' : b0 ∉ T' := fun e => by
    rcases hT'n b0 e with g | g
    · exact hb0T0 g
    · omega
  have st2 : Step h (h'.put b0 (vs' ++ [v'])) (p :: ([b0] ++ (S' ++ T0))) (p :: ([b0] ++ (S' ++ T'))) := by
    refine (s01.wide (T := p :: ([b0] ++ (S' ++ T0))) (T' := p :: ([b0] ++ (S' ++ T'))) (fun b hb => by simp [hb]) (fun b hb => ?_)).put (by simp) _
    simp only [List.mem_cons, List.mem_append, List.not_mem_nil, or_false] at hb
    rcases hb with rfl | rfl | hb | hb
    · exact .inr ⟨by simp, hlt⟩
    · exact .inr ⟨by simp, hb0l⟩
    · exact .inr ⟨by simp [hb], (rw'.lt b hb).2⟩
    · exact .inl hb
  have hdSX : ∀ c, c ∈ SX → c ∉ p :: ([b0] ++ (S' ++ T')) := fun c hc e => by
    have h1 := hd c hc
    simp only [List.mem_cons, List.mem_append, List.not_mem_nil, or_false, not_or] at h1 e
    rcases e with e | e | e | e
    · exact h1.1 e
    · exact h1.2.1 e
    · exact h1.2.2.1 e
    · rcases hT'n c e with g | g
      · exact h1.2.2.2 g
      · have := (v5.lt c hc).2; omega
  refine hk _ (p :: ([b0] ++ (S' ++ T'))) ⟨.slice (some ⟨b0, 0, none⟩) st.rooms.length ucap, [b0] ++ (S' ++ T'), ?_, hB, by have := st2.next; omega, ⟨vs' ++ [v'], [b0], S' ++ T', ?_, ?_, ?_, rfl⟩, ?_, rfl⟩ (v5.frame st2 hd) hdSX st2
  · have hpb0 : p ≠ b0 := fun e => hp (by simp [e])
    simp only [put_blk, if_neg hpb0]
    exact hb'
  · refine .inr ⟨b0, by rw [hrl2]; simp, rfl, hb0B, by have := st2.next; omega, by simp, by simpa using hb0e', by simp; omega⟩
  · have hr1 := (rw'.frame s01 (fun b hb he => dl b he hb)).put (p := b0) (fun e => d b0 (by simp) (by simp [e])) (vs' ++ [v'])
    have hv1 := vv'.put (p := b0) hb0T' (vs' ++ [v'])
    refine .snoc hr1 ?_ dT'
    have e4 : r.length + 1 = (r ++ [b]).length := by simp
    rw [e4] at hv1
    simpa using hv1
  · intro b hb he
    simp at hb
    subst hb
    rcases List.mem_append.1 he with g | g
    · exact d b (by simp) (by simp [g])
    · exact hb0T' g
  · intro e
    simp only [List.mem_cons, List.mem_append, List.not_mem_nil, or_false] at e
    rcases e with e | e | e
    · exact hp (by simp [e])
    · exact hp (by simp [e])
    · exact hpT' e
/-- A byte goes behind the others. -/
theorem push_step {h : Hp} {st : JS} {S SX : List Nat} {all : List UInt8} {x5 : Value} {j m : Nat} {b : UInt8} {k0 : Value → Hp → Prop} (w : Jw w0 h p st S) (hsz : 512 ≤ st.size ∧ st.size ≤ 4096) (ht : st.taken ≤ st.rooms.length) (hrm : ∀ r, r ∈ st.rooms → r.length ≤ st.room) (hn : st.rooms.length ≤ 1000000)
    (v5 : GV w0 h 1 x5 all.length (bvs all) SX) (hj : all[j]? = some b) (hjl : all.length ≤ 1000000) (hd : ∀ c, c ∈ SX → c ∉ S)
    (hk : ∀ h' S', Jw w0 h' p { st with rooms := pushB st.room st.taken st.rooms b } S' → GV w0 h' 1 x5 all.length (bvs all) SX → (∀ c, c ∈ SX → c ∉ S') → Step h h' S S' → dedupref07_Writer_Append_L1 prog w0 k0 m (ptr p) x5 (.int .i64 ((j + 1 : Nat) : Int)) h') :
    dedupref07_Writer_Append_L1 prog w0 k0 (m + 1) (ptr p) x5 (.int .i64 (j : Int)) h := by
  have w' := w
  obtain ⟨x, T, hb, hB, hlt, vv, hp, rfl⟩ := w
  have hjlt := (List.getElem?_eq_some_iff.1 hj).1
  obtain ⟨aR, cR, hxR⟩ := vv.slice
  obtain ⟨a5, c5, hx5⟩ := v5.slice
  have hro : 488 ≤ st.room ∧ st.room ≤ 4072 := by unfold JS.room; omega
  have c1 : decide ((j : Int) < (all.length : Int)) = true := decide_eq_true (by omega)
  have e5 : IntKind.i64.wrap ((j : Int) + 1) = ((j + 1 : Nat) : Int) := by rw [IntWalk.i64_in _ (by omega)]; simp
  have e6 : IntKind.i64.wrap ((st.rooms.length : Int) + 1) = ((st.rooms.length + 1 : Nat) : Int) := by rw [IntWalk.i64_in _ (by omega)]; simp
  have e7 : IntKind.i64.wrap (((st.rooms.length + 1 : Nat) : Int) - 1) = (st.rooms.length : Int) := by rw [IntWalk.i64_in _ (by omega)]; omega
  have e8 : IntKind.i64.wrap ((st.size : Int) - 24) = ((st.room : Nat) : Int) := by rw [IntWalk.i64_in _ (by omega)]; unfold JS.room; omega
  have hz : zerosL [(.slice none 0 0 : Value)] 1 = [.slice none 0 0] := rfl
  -- a new room, and the byte into it
  have hopen : pushB st.room st.taken st.rooms b = st.rooms ++ [[b]] → ∀ {K : Kont},
      (∀ h' S', Jw w0 h' p { st with rooms := st.rooms ++ [[]] } S' → GV w0 h' 1 x5 all.length (bvs all) SX → (∀ c, c ∈ SX → c ∉ S') → Step h h' (p :: T) S' → K undef h') →
      loadA w0 (.pointer (some ⟨p, 3, none⟩)) (fun v61 => bslA [(0, 1, false, (.slice none 0 0))] (zerosL [(.slice none 0 0)] 1) 1 1 fun v62 => appA w0 1 24 v61 v62 fun v63 => storeA w0 (.pointer (some ⟨p, 3, none⟩)) v63 K) h := by
    intro _ K hK
    refine loadA_at hB hb (by rfl) ?_
    simp only [hz, bslA_iff, fillA_one, fillA_nil, isCell_slice, true_and, List.set_cons_zero, List.length_cons, List.length_nil]
    refine ⟨by omega, ?_⟩
    have s1 := (Step.refl h [] (by simp)).new [(.slice none 0 0 : Value)] 1
    have v1 := vv.frame s1 (by simp)
    refine appA_vvec (r := []) (T := []) (by simp; omega) v1 (src_new (by omega) (by simp)) .nil (by simp) (by omega) (by omega) fun x' h' S' v' st' => ?_
    have st0 : Step h h' T S' := (((Step.refl h T fun b hb => (vv.lt b hb).2).new [(.slice none 0 0 : Value)] 1).less (T := T) (fun b hb => by simp [hb])).trans (by simpa using st')
    have hb' : h'.blk p = _ := (st0.keep p hlt hp).1.trans hb
    obtain ⟨a', c', hx'⟩ := v'.slice
    refine storeA_at hB hb' (by simp) (by rw [hx']; rfl) ?_
    have hpS' : p ∉ S' := fun e => by rcases (st0.own p e).2 with g | g; exact hp g; omega
    have stp : Step h (h'.put p ([.int .i64 st.size, .int .i64 st.sectors, .int .u64 st.gen, x, .int .i64 st.taken, .int .i64 st.cnt].set 3 x')) (p :: T) (p :: S') := (st0.wide (T := p :: T) (T' := p :: S') (fun b hb => by simp [hb]) (fun b hb => by
        rcases List.mem_cons.1 hb with rfl | hb
        · exact .inr ⟨by simp, hlt⟩
        · exact .inl hb)).put (by simp) _
    refine hK _ (p :: S') ⟨x', S', by simp, hB, by have := st0.next; simp; omega, v'.put hpS' _, hpS', rfl⟩ (v5.frame stp hd) (fun c hc e => ?_) stp
    rcases List.mem_cons.1 e with e | e
    · exact hd c hc (by simp [e])
    · rcases (st0.own c e).2 with g | g
      · exact hd c hc (by simp [g])
      · have := (v5.lt c hc).2; omega
  rw [dedupref07_Writer_Append_L1]
  by_cases hnew : st.rooms.length = st.taken ∨ ∃ fs r, st.rooms = fs ++ [r] ∧ r.length = st.room
  · have hpb : pushB st.room st.taken st.rooms b = st.rooms ++ [[b]] := by
      rcases hnew with e | ⟨fs, r, e, e2⟩
      · exact pushB_taken e
      · rw [e, pushB_snoc, if_pos (.inr e2)]
    -- the decision
    have hdec : ∀ {Z : Value → Hp → Prop}, Z (.bool true) h → (∀ (q : Bool), True) → True := fun _ _ => trivial
    have fin : loadA w0 (.pointer (some ⟨p, 3, none⟩)) (fun v61 => bslA [(0, 1, false, (.slice none 0 0))] (zerosL [(.slice none 0 0)] 1) 1 1 fun v62 => appA w0 1 24 v61 v62 fun v63 => storeA w0 (.pointer (some ⟨p, 3, none⟩)) v63 fun _ =>
        loadA w0 (.pointer (some ⟨p, 3, none⟩)) fun v71 => loadA w0 (.pointer (some ⟨p, 3, none⟩)) fun v77 => idxSlA 1 v77 (.int .i64 (st.rooms.length : Int)) fun v80 => loadA w0 v80 fun v81 => idxSlA 1 x5 (.int .i64 (j : Int)) fun v84 => loadA w0 v84 fun v85 =>
        bslA [(0, 1, false, v85)] (zerosL [(.int .u8 0)] 1) 1 1 fun v86 => stillA [(sameQ (loadA w0 v80) v81), (sameQ (loadA w0 (.pointer (some ⟨p, 3, none⟩))) v77), (sameQ (loadA w0 (.pointer (some ⟨p, 3, none⟩))) v71)] (
        appA w0 1 1 v81 v86 fun v87 => stillA [(sameQ (loadA w0 (.pointer (some ⟨p, 3, none⟩))) v71)] (idxSlA 1 v71 (.int .i64 (st.rooms.length : Int)) fun v88 => storeA w0 v88 v87 fun _ => dedupref07_Writer_Append_L1 prog w0 k0 m (.pointer (some ⟨p, 0, none⟩)) x5 (.int .i64 ((j + 1 : Nat) : Int))))) h := by
      refine hopen hpb fun h' S' w1 v1 d1 s1 => ?_
      refine put_byte (fs := st.rooms) (r := []) w1 rfl hn (by simp) v1 hj d1 fun h2 S2 w2 v2 d2 s2 => ?_
      rw [hpb] at hk
      exact hk h2 S2 w2 v2 d2 (s1.trans s2)
    by_cases hta : st.rooms.length = st.taken
    · have c2 : ((st.rooms.length : Int) == (st.taken : Int)) = true := by rw [hta]; simp
      rw [hx5]
      simp only [dedupref07_Writer_Append_B1, ptr, lenSl_slice, lenStr_string, str_size, fpureA_some, fnilA_ptr, faddA_ptr, addr_add, Nat.zero_add, Nat.add_zero, fpureQ_k, fpureQ_nilA, fpureQ_addA, fpureQ_pureA, fpureQ_guardA, fpureQ_idxSlA, fpureQ_pickA, freadQ_loadA, freadQ_loadNA, freadQ_b2sA, freadQ_guardA, freadQ_slSlA, freadQ_k, fendA, fallA_one, fstillA_nil, fguardA_tt, fguardA_ff, fguardA_tf, fguardA_ft, fguardA_undef, fpickA_true, fpickA_false, fcondA_true, fcondA_false, binA_add, binA_sub, binA_mul, binA_eql, binA_neq, binA_lss, binA_leq, binA_gtr, binA_geq, unA_not, Bool.not_true, Bool.not_false, convA_int, extA_tuple, List.getElem?_toArray, List.getElem?_cons_zero, List.getElem?_cons_succ, c1]
      refine loadA_at hB hb (by rfl) ?_
      rw [hxR]
      simp only [lenSl_slice, lenStr_string, str_size, fpureA_some, fnilA_ptr, faddA_ptr, addr_add, Nat.zero_add, Nat.add_zero, fpureQ_k, fpureQ_nilA, fpureQ_addA, fpureQ_pureA, fpureQ_guardA, fpureQ_idxSlA, fpureQ_pickA, freadQ_loadA, freadQ_loadNA, freadQ_b2sA, freadQ_guardA, freadQ_slSlA, freadQ_k, fendA, fallA_one, fstillA_nil, fguardA_tt, fguardA_ff, fguardA_tf, fguardA_ft, fguardA_undef, fpickA_true, fpickA_false, fcondA_true, fcondA_false, binA_add, binA_sub, binA_mul, binA_eql, binA_neq, binA_lss, binA_leq, binA_gtr, binA_geq, unA_not, Bool.not_true, Bool.not_false, convA_int, extA_tuple, List.getElem?_toArray, List.getElem?_cons_zero, List.getElem?_cons_succ]
      refine loadA_at hB hb (by rfl) ?_
      simp only [lenSl_slice, lenStr_string, str_size, fpureA_some, fnilA_ptr, faddA_ptr, addr_add, Nat.zero_add, Nat.add_zero, fpureQ_k, fpureQ_nilA, fpureQ_addA, fpureQ_pureA, fpureQ_guardA, fpureQ_idxSlA, fpureQ_pickA, freadQ_loadA, freadQ_loadNA, freadQ_b2sA, freadQ_guardA, freadQ_slSlA, freadQ_k, fendA, fallA_one, fstillA_nil, fguardA_tt, fguardA_ff, fguardA_tf, fguardA_ft, fguardA_undef, fpickA_true, fpickA_false, fcondA_true, fcondA_false, binA_add, binA_sub, binA_mul, binA_eql, binA_neq, binA_lss, binA_leq, binA_gtr, binA_geq, unA_not, Bool.not_true, Bool.not_false, convA_int, extA_tuple, List.getElem?_toArray, List.getElem?_cons_zero, List.getElem?_cons_succ, c2, e5, e6, e7]
      rw [← hx5]
      exact fin
    · obtain ⟨fs, r, hrs, hfull⟩ := hnew.resolve_left hta
      have hrl : st.rooms.length = fs.length + 1 := by rw [hrs]; simp
      have c2 : ((st.rooms.length : Int) == (st.taken : Int)) = false := by rw [beq_eq_false_iff_ne]; omega
      have c3 : ((r.length : Int) == (st.room : Int)) = true := by rw [beq_iff_eq, hfull]
      have e4 : IntKind.i64.wrap ((st.rooms.length : Int) - 1) = (fs.length : Int) := by rw [IntWalk.i64_in _ (by omega)]; omega
      obtain ⟨b0, vs, v, T0, hxs, hb0B, hb0, hb0e, hvl, hvsl, vl, hT0⟩ := vv.get (i := fs.length) (r := r) (by rw [hrs]; simp)
      obtain ⟨av, cv, hvs⟩ := vl.slice
      rw [hx5]
      simp only [dedupref07_Writer_Append_B1, ptr, lenSl_slice, lenStr_string, str_size, fpureA_some, fnilA_ptr, faddA_ptr, addr_add, Nat.zero_add, Nat.add_zero, fpureQ_k, fpureQ_nilA, fpureQ_addA, fpureQ_pureA, fpureQ_guardA, fpureQ_idxSlA, fpureQ_pickA, freadQ_loadA, freadQ_loadNA, freadQ_b2sA, freadQ_guardA, freadQ_slSlA, freadQ_k, fendA, fallA_one, fstillA_nil, fguardA_tt, fguardA_ff, fguardA_tf, fguardA_ft, fguardA_undef, fpickA_true, fpickA_false, fcondA_true, fcondA_false, binA_add, binA_sub, binA_mul, binA_eql, binA_neq, binA_lss, binA_leq, binA_gtr, binA_geq, unA_not, Bool.not_true, Bool.not_false, convA_int, extA_tuple, List.getElem?_toArray, List.getElem?_cons_zero, List.getElem?_cons_succ, c1]
      refine loadA_at hB hb (by rfl) ?_
      rw [hxs]
      simp only [lenSl_slice, lenStr_string, str_size, fpureA_some, fnilA_ptr, faddA_ptr, addr_add, Nat.zero_add, Nat.add_zero, fpureQ_k, fpureQ_nilA, fpureQ_addA, fpureQ_pureA, fpureQ_guardA, fpureQ_idxSlA, fpureQ_pickA, freadQ_loadA, freadQ_loadNA, freadQ_b2sA, freadQ_guardA, freadQ_slSlA, freadQ_k, fendA, fallA_one, fstillA_nil, fguardA_tt, fguardA_ff, fguardA_tf, fguardA_ft, fguardA_undef, fpickA_true, fpickA_false, fcondA_true, fcondA_false, binA_add, binA_sub, binA_mul, binA_eql, binA_neq, binA_lss, binA_leq, binA_gtr, binA_geq, unA_not, Bool.not_true, Bool.not_false, convA_int, extA_tuple, List.getElem?_toArray, List.getElem?_cons_zero, List.getElem?_cons_succ]
      refine loadA_at hB hb (by rfl) ?_
      simp only [lenSl_slice, lenStr_string, str_size, fpureA_some, fnilA_ptr, faddA_ptr, addr_add, Nat.zero_add, Nat.add_zero, fpureQ_k, fpureQ_nilA, fpureQ_addA, fpureQ_pureA, fpureQ_guardA, fpureQ_idxSlA, fpureQ_pickA, freadQ_loadA, freadQ_loadNA, freadQ_b2sA, freadQ_guardA, freadQ_slSlA, freadQ_k, fendA, fallA_one, fstillA_nil, fguardA_tt, fguardA_ff, fguardA_tf, fguardA_ft, fguardA_undef, fpickA_true, fpickA_false, fcondA_true, fcondA_false, binA_add, binA_sub, binA_mul, binA_eql, binA_neq, binA_lss, binA_leq, binA_gtr, binA_geq, unA_not, Bool.not_true, Bool.not_false, convA_int, extA_tuple, List.getElem?_toArray, List.getElem?_cons_zero, List.getElem?_cons_succ, c2]
      refine loadA_at hB hb (by rfl) ?_
      rw [hxs]
      simp only [lenSl_slice, lenStr_string, str_size, fpureA_some, fnilA_ptr, faddA_ptr, addr_add, Nat.zero_add, Nat.add_zero, fpureQ_k, fpureQ_nilA, fpureQ_addA, fpureQ_pureA, fpureQ_guardA, fpureQ_idxSlA, fpureQ_pickA, freadQ_loadA, freadQ_loadNA, freadQ_b2sA, freadQ_guardA, freadQ_slSlA, freadQ_k, fendA, fallA_one, fstillA_nil, fguardA_tt, fguardA_ff, fguardA_tf, fguardA_ft, fguardA_undef, fpickA_true, fpickA_false, fcondA_true, fcondA_false, binA_add, binA_sub, binA_mul, binA_eql, binA_neq, binA_lss, binA_leq, binA_gtr, binA_geq, unA_not, Bool.not_true, Bool.not_false, convA_int, extA_tuple, List.getElem?_toArray, List.getElem?_cons_zero, List.getElem?_cons_succ, e4]
      refine idxSlA_own (by omega) ?_
      refine loadA_at hb0B hb0 hvl ?_
      rw [hvs]
      simp only [lenSl_slice, lenStr_string, str_size, fpureA_some, fnilA_ptr, faddA_ptr, addr_add, Nat.zero_add, Nat.add_zero, fpureQ_k, fpureQ_nilA, fpureQ_addA, fpureQ_pureA, fpureQ_guardA, fpureQ_idxSlA, fpureQ_pickA, freadQ_loadA, freadQ_loadNA, freadQ_b2sA, freadQ_guardA, freadQ_slSlA, freadQ_k, fendA, fallA_one, fstillA_nil, fguardA_tt, fguardA_ff, fguardA_tf, fguardA_ft, fguardA_undef, fpickA_true, fpickA_false, fcondA_true, fcondA_false, binA_add, binA_sub, binA_mul, binA_eql, binA_neq, binA_lss, binA_leq, binA_gtr, binA_geq, unA_not, Bool.not_true, Bool.not_false, convA_int, extA_tuple, List.getElem?_toArray, List.getElem?_cons_zero, List.getElem?_cons_succ]
      refine loadA_at hB hb (by rfl) ?_
      simp only [lenSl_slice, lenStr_string, str_size, fpureA_some, fnilA_ptr, faddA_ptr, addr_add, Nat.zero_add, Nat.add_zero, fpureQ_k, fpureQ_nilA, fpureQ_addA, fpureQ_pureA, fpureQ_guardA, fpureQ_idxSlA, fpureQ_pickA, freadQ_loadA, freadQ_loadNA, freadQ_b2sA, freadQ_guardA, freadQ_slSlA, freadQ_k, fendA, fallA_one, fstillA_nil, fguardA_tt, fguardA_ff, fguardA_tf, fguardA_ft, fguardA_undef, fpickA_true, fpickA_false, fcondA_true, fcondA_false, binA_add, binA_sub, binA_mul, binA_eql, binA_neq, binA_lss, binA_leq, binA_gtr, binA_geq, unA_not, Bool.not_true, Bool.not_false, convA_int, extA_tuple, List.getElem?_toArray, List.getElem?_cons_zero, List.getElem?_cons_succ, e8, c3, e5, e6, e7]
      rw [← hx5]
      exact fin
  · have hta : ¬ st.rooms.length = st.taken := fun e => hnew (.inl e)
    rcases List.eq_nil_or_concat st.rooms with e | ⟨fs, r, hrs⟩
    · rw [e] at hta ht; simp at hta ht; omega
    rw [List.concat_eq_append] at hrs
    have hr1 := hrm r (by rw [hrs]; simp)
    have hr2 : r.length ≠ st.room := fun e => hnew (.inr ⟨fs, r, hrs, e⟩)
    have hrl : st.rooms.length = fs.length + 1 := by rw [hrs]; simp
    have hpb : pushB st.room st.taken st.rooms b = fs ++ [r ++ [b]] := by
      rw [hrs, pushB_snoc, if_neg (by omega)]
    have c2 : ((st.rooms.length : Int) == (st.taken : Int)) = false := by rw [beq_eq_false_iff_ne]; omega
    have c3 : ((r.length : Int) == (st.room : Int)) = false := by rw [beq_eq_false_iff_ne]; omega
    have e4 : IntKind.i64.wrap ((st.rooms.length : Int) - 1) = (fs.length : Int) := by rw [IntWalk.i64_in _ (by omega)]; omega
    obtain ⟨b0, vs, v, T0, hxs, hb0B, hb0, hb0e, hvl, hvsl, vl, hT0⟩ := vv.get (i := fs.length) (r := r) (by rw [hrs]; simp)
    obtain ⟨av, cv, hvs⟩ := vl.slice
    rw [hpb] at hk
    have fin := put_byte (K := dedupref07_Writer_Append_L1 prog w0 k0 m (.pointer (some ⟨p, 0, none⟩)) x5 (.int .i64 ((j + 1 : Nat) : Int))) w' hrs (by omega) (by omega) v5 hj hd hk
    rw [hx5]
    simp only [dedupref07_Writer_Append_B1, ptr, lenSl_slice, lenStr_string, str_size, fpureA_some, fnilA_ptr, faddA_ptr, addr_add, Nat.zero_add, Nat.add_zero, fpureQ_k, fpureQ_nilA, fpureQ_addA, fpureQ_pureA, fpureQ_guardA, fpureQ_idxSlA, fpureQ_pickA, freadQ_loadA, freadQ_loadNA, freadQ_b2sA, freadQ_guardA, freadQ_slSlA, freadQ_k, fendA, fallA_one, fstillA_nil, fguardA_tt, fguardA_ff, fguardA_tf, fguardA_ft, fguardA_undef, fpickA_true, fpickA_false, fcondA_true, fcondA_false, binA_add, binA_sub, binA_mul, binA_eql, binA_neq, binA_lss, binA_leq, binA_gtr, binA_geq, unA_not, Bool.not_true, Bool.not_false, convA_int, extA_tuple, List.getElem?_toArray, List.getElem?_cons_zero, List.getElem?_cons_succ, c1]
    refine loadA_at hB hb (by rfl) ?_
    rw [hxs]
    simp only [lenSl_slice, lenStr_string, str_size, fpureA_some, fnilA_ptr, faddA_ptr, addr_add, Nat.zero_add, Nat.add_zero, fpureQ_k, fpureQ_nilA, fpureQ_addA, fpureQ_pureA, fpureQ_guardA, fpureQ_idxSlA, fpureQ_pickA, freadQ_loadA, freadQ_loadNA, freadQ_b2sA, freadQ_guardA, freadQ_slSlA, freadQ_k, fendA, fallA_one, fstillA_nil, fguardA_tt, fguardA_ff, fguardA_tf, fguardA_ft, fguardA_undef, fpickA_true, fpickA_false, fcondA_true, fcondA_false, binA_add, binA_sub, binA_mul, binA_eql, binA_neq, binA_lss, binA_leq, binA_gtr, binA_geq, unA_not, Bool.not_true, Bool.not_false, convA_int, extA_tuple, List.getElem?_toArray, List.getElem?_cons_zero, List.getElem?_cons_succ]
    refine loadA_at hB hb (by rfl) ?_
    simp only [lenSl_slice, lenStr_string, str_size, fpureA_some, fnilA_ptr, faddA_ptr, addr_add, Nat.zero_add, Nat.add_zero, fpureQ_k, fpureQ_nilA, fpureQ_addA, fpureQ_pureA, fpureQ_guardA, fpureQ_idxSlA, fpureQ_pickA, freadQ_loadA, freadQ_loadNA, freadQ_b2sA, freadQ_guardA, freadQ_slSlA, freadQ_k, fendA, fallA_one, fstillA_nil, fguardA_tt, fguardA_ff, fguardA_tf, fguardA_ft, fguardA_undef, fpickA_true, fpickA_false, fcondA_true, fcondA_false, binA_add, binA_sub, binA_mul, binA_eql, binA_neq, binA_lss, binA_leq, binA_gtr, binA_geq, unA_not, Bool.not_true, Bool.not_false, convA_int, extA_tuple, List.getElem?_toArray, List.getElem?_cons_zero, List.getElem?_cons_succ, c2]
    refine loadA_at hB hb (by rfl) ?_
    rw [hxs]
    simp only [lenSl_slice, lenStr_string, str_size, fpureA_some, fnilA_ptr, faddA_ptr, addr_add, Nat.zero_add, Nat.add_zero, fpureQ_k, fpureQ_nilA, fpureQ_addA, fpureQ_pureA, fpureQ_guardA, fpureQ_idxSlA, fpureQ_pickA, freadQ_loadA, freadQ_loadNA, freadQ_b2sA, freadQ_guardA, freadQ_slSlA, freadQ_k, fendA, fallA_one, fstillA_nil, fguardA_tt, fguardA_ff, fguardA_tf, fguardA_ft, fguardA_undef, fpickA_true, fpickA_false, fcondA_true, fcondA_false, binA_add, binA_sub, binA_mul, binA_eql, binA_neq, binA_lss, binA_leq, binA_gtr, binA_geq, unA_not, Bool.not_true, Bool.not_false, convA_int, extA_tuple, List.getElem?_toArray, List.getElem?_cons_zero, List.getElem?_cons_succ, e4]
    refine idxSlA_own (by omega) ?_
    refine loadA_at hb0B hb0 hvl ?_
    rw [hvs]
    simp only [lenSl_slice, lenStr_string, str_size, fpureA_some, fnilA_ptr, faddA_ptr, addr_add, Nat.zero_add, Nat.add_zero, fpureQ_k, fpureQ_nilA, fpureQ_addA, fpureQ_pureA, fpureQ_guardA, fpureQ_idxSlA, fpureQ_pickA, freadQ_loadA, freadQ_loadNA, freadQ_b2sA, freadQ_guardA, freadQ_slSlA, freadQ_k, fendA, fallA_one, fstillA_nil, fguardA_tt, fguardA_ff, fguardA_tf, fguardA_ft, fguardA_undef, fpickA_true, fpickA_false, fcondA_true, fcondA_false, binA_add, binA_sub, binA_mul, binA_eql, binA_neq, binA_lss, binA_leq, binA_gtr, binA_geq, unA_not, Bool.not_true, Bool.not_false, convA_int, extA_tuple, List.getElem?_toArray, List.getElem?_cons_zero, List.getElem?_cons_succ]
    refine loadA_at hB hb (by rfl) ?_
    simp only [lenSl_slice, lenStr_string, str_size, fpureA_some, fnilA_ptr, faddA_ptr, addr_add, Nat.zero_add, Nat.add_zero, fpureQ_k, fpureQ_nilA, fpureQ_addA, fpureQ_pureA, fpureQ_guardA, fpureQ_idxSlA, fpureQ_pickA, freadQ_loadA, freadQ_loadNA, freadQ_b2sA, freadQ_guardA, freadQ_slSlA, freadQ_k, fendA, fallA_one, fstillA_nil, fguardA_tt, fguardA_ff, fguardA_tf, fguardA_ft, fguardA_undef, fpickA_true, fpickA_false, fcondA_true, fcondA_false, binA_add, binA_sub, binA_mul, binA_eql, binA_neq, binA_lss, binA_leq, binA_gtr, binA_geq, unA_not, Bool.not_true, Bool.not_false, convA_int, extA_tuple, List.getElem?_toArray, List.getElem?_cons_zero, List.getElem?_cons_succ, e8, c3, e4, e5]
    rw [← hx5]
    exact fin
end
section
variable {w0 : World} {p : Nat}
theorem xappend_loop {k0 : Value → Hp → Prop} {all : List UInt8} {x5 : Value} {SX : List Nat} (hal : all.length ≤ 1000000) : ∀ (post pre : List UInt8) (st : JS) (h : Hp) (S : List Nat), pre ++ post = all → Jw w0 h p st S → (512 ≤ st.size ∧ st.size ≤ 4096) → GV w0 h 1 x5 all.length (bvs all) SX → (∀ c, c ∈ SX → c ∉ S) → Good st.room st.taken st.rooms →
    (pushAll st.room st.taken st.rooms post).length ≤ 1000000 →
    (∀ h' S', Jw w0 h' p { st with rooms := pushAll st.room st.taken st.rooms post } S' → Step h h' S S' → k0 (ptr p) h') →
    dedupref07_Writer_Append_L1 prog w0 k0 (post.length + 1) (ptr p) x5 (.int .i64 (pre.length : Int)) h := by
  intro post
  induction post with
  | nil =>
    intro pre st h S he w hsz v5 hd g hN hk
    have hpre : pre = all := by simpa using he
    obtain ⟨a5, c5, rfl⟩ := v5.slice
    rw [dedupref07_Writer_Append_L1]
    simp only [dedupref07_Writer_Append_B1, lenSl_slice, lenStr_string, str_size, fpureA_some, fnilA_ptr, faddA_ptr, addr_add, Nat.zero_add, Nat.add_zero, fpureQ_k, fpureQ_nilA, fpureQ_addA, fpureQ_pureA, fpureQ_guardA, fpureQ_idxSlA, fpureQ_pickA, freadQ_loadA, freadQ_loadNA, freadQ_b2sA, freadQ_guardA, freadQ_slSlA, freadQ_k, fendA, fallA_one, fstillA_nil, fguardA_tt, fguardA_ff, fguardA_tf, fguardA_ft, fguardA_undef, fpickA_true, fpickA_false, fcondA_true, fcondA_false, binA_add, binA_sub, binA_mul, binA_eql, binA_neq, binA_lss, binA_leq, binA_gtr, binA_geq, unA_not, Bool.not_true, Bool.not_false, convA_int, extA_tuple, List.getElem?_toArray, List.getElem?_cons_zero, List.getElem?_cons_succ, hpre, Int.lt_irrefl, decide_false]
    exact hk h S w w.refl
  | cons b post ih =>
    intro pre st h S he w hsz v5 hd g hN hk
    have hml := pushAll_len (room := st.room) (taken := st.taken) (b :: post) st.rooms
    refine push_step (b := b) w hsz g.1 g.2.1 (by omega) v5 (by rw [← he]; simp) hal hd fun h' S' w' v' d' s' => ?_
    have hr : 0 < st.room := by unfold JS.room; omega
    obtain ⟨g', -⟩ := good_push (b := b) hr g
    have := ih (pre ++ [b]) { st with rooms := pushB st.room st.taken st.rooms b } h' S' (by simpa using he) w' hsz v' d' g' hN (fun h2 S2 w2 s2 => hk h2 S2 w2 (s'.trans s2))
    simpa using this
theorem xAppend_spec {h : Hp} {st : JS} {S : List Nat} (w : Jw w0 h p st S) (o : st.Ok) (l : List UInt8) (hl : l.length ≤ 1000000000) :
    ACalls prog w0 n_dedupref07_Writer_Append [ptr p, .string (str l)] h fun v h' => v = .int .i64 (st.append l).1 ∧ ∃ S', Jw w0 h' p (st.append l).2 S' ∧ Step h h' S S' := by
  refine ACalls.of_fit (by simp [ptr]) fun f => c_dedupref07_Writer_Append (by simp [ptr]) ?_
  simp only [s_dedupref07_Writer_Append, lenSl_slice, lenStr_string, str_size, fpureA_some, fnilA_ptr, faddA_ptr, addr_add, Nat.zero_add, Nat.add_zero, fpureQ_k, fpureQ_nilA, fpureQ_addA, fpureQ_pureA, fpureQ_guardA, fpureQ_idxSlA, fpureQ_pickA, freadQ_loadA, freadQ_loadNA, freadQ_b2sA, freadQ_guardA, freadQ_slSlA, freadQ_k, fendA, fallA_one, fstillA_nil, fguardA_tt, fguardA_ff, fguardA_tf, fguardA_ft, fguardA_undef, fpickA_true, fpickA_false, fcondA_true, fcondA_false, binA_add, binA_sub, binA_mul, binA_eql, binA_neq, binA_lss, binA_leq, binA_gtr, binA_geq, unA_not, Bool.not_true, Bool.not_false, convA_int, extA_tuple, List.getElem?_toArray, List.getElem?_cons_zero, List.getElem?_cons_succ]
  by_cases h1 : 65536 < l.length
  · have c1 : decide ((65536 : Int) < (l.length : Int)) = true := decide_eq_true (by omega)
    have ha : st.append l = (3, st) := by simp [JS.append, h1]
    simp only [c1, fcondA_true, retA_iff, oneOf_one, ha]
    exact ⟨by simp, by trivial, S, w, w.refl⟩
  have c1 : decide ((65536 : Int) < (l.length : Int)) = false := decide_eq_false (by omega)
  have e1 : IntKind.i64.wrap (4 + (l.length : Int)) = (l.length : Int) + 4 := by rw [IntWalk.i64_in _ (by omega)]; omega
  simp only [lenSl_slice, lenStr_string, str_size, fpureA_some, fnilA_ptr, faddA_ptr, addr_add, Nat.zero_add, Nat.add_zero, fpureQ_k, fpureQ_nilA, fpureQ_addA, fpureQ_pureA, fpureQ_guardA, fpureQ_idxSlA, fpureQ_pickA, freadQ_loadA, freadQ_loadNA, freadQ_b2sA, freadQ_guardA, freadQ_slSlA, freadQ_k, fendA, fallA_one, fstillA_nil, fguardA_tt, fguardA_ff, fguardA_tf, fguardA_ft, fguardA_undef, fpickA_true, fpickA_false, fcondA_true, fcondA_false, binA_add, binA_sub, binA_mul, binA_eql, binA_neq, binA_lss, binA_leq, binA_gtr, binA_geq, unA_not, Bool.not_true, Bool.not_false, convA_int, extA_tuple, List.getElem?_toArray, List.getElem?_cons_zero, List.getElem?_cons_succ, c1, e1]
  refine callA_of (xfree_spec w o) fun v h2 ⟨e, e1⟩ f2 => ?_
  subst e e1
  by_cases h2' : st.free < l.length + 4
  · have c2 : decide (st.free < (l.length : Int) + 4) = true := decide_eq_true h2'
    have ha : st.append l = (2, st) := by simp [JS.append, h1, h2']
    simp only [lenSl_slice, lenStr_string, str_size, fpureA_some, fnilA_ptr, faddA_ptr, addr_add, Nat.zero_add, Nat.add_zero, fpureQ_k, fpureQ_nilA, fpureQ_addA, fpureQ_pureA, fpureQ_guardA, fpureQ_idxSlA, fpureQ_pickA, freadQ_loadA, freadQ_loadNA, freadQ_b2sA, freadQ_guardA, freadQ_slSlA, freadQ_k, fendA, fallA_one, fstillA_nil, fguardA_tt, fguardA_ff, fguardA_tf, fguardA_ft, fguardA_undef, fpickA_true, fpickA_false, fcondA_true, fcondA_false, binA_add, binA_sub, binA_mul, binA_eql, binA_neq, binA_lss, binA_leq, binA_gtr, binA_geq, unA_not, Bool.not_true, Bool.not_false, convA_int, extA_tuple, List.getElem?_toArray, List.getElem?_cons_zero, List.getElem?_cons_succ, c2, retA_iff, oneOf_one, ha]
    exact ⟨by simp, by trivial, S, w, w.refl⟩
  have c2 : decide (st.free < (l.length : Int) + 4) = false := decide_eq_false h2'
  have ha : st.append l = (0, { st with rooms := pushAll st.room st.taken st.rooms (be 4 l.length ++ l), cnt := IntKind.i64.wrap (st.cnt + 1) }) := by simp [JS.append, h1, h2']
  have hok := o.append l
  rw [ha] at hok ⊢
  have e2 : IntKind.u64.wrap (l.length : Int) = l.length := IntWalk.u64_in _ (by omega)
  simp only [lenSl_slice, lenStr_string, str_size, fpureA_some, fnilA_ptr, faddA_ptr, addr_add, Nat.zero_add, Nat.add_zero, fpureQ_k, fpureQ_nilA, fpureQ_addA, fpureQ_pureA, fpureQ_guardA, fpureQ_idxSlA, fpureQ_pickA, freadQ_loadA, freadQ_loadNA, freadQ_b2sA, freadQ_guardA, freadQ_slSlA, freadQ_k, fendA, fallA_one, fstillA_nil, fguardA_tt, fguardA_ff, fguardA_tf, fguardA_ft, fguardA_undef, fpickA_true, fpickA_false, fcondA_true, fcondA_false, binA_add, binA_sub, binA_mul, binA_eql, binA_neq, binA_lss, binA_leq, binA_gtr, binA_geq, unA_not, Bool.not_true, Bool.not_false, convA_int, extA_tuple, List.getElem?_toArray, List.getElem?_cons_zero, List.getElem?_cons_succ, c2, e2]
  refine callA_of (high_spec l.length 4 (by omega) (by omega)) fun v h3 ⟨S3, g3, s3⟩ f3 => ?_
  have w3 := w.frame s3 (by simp)
  refine appA_gv f3.base g3 (m := l.length) (ys := bvs l) (by simp) (by have := src_string (h := h3) w0.heap.size (str l); simpa using this) (by simp) (by omega) (by omega) (by omega) fun x5 h4 S4 v4 s4 => ?_
  have hS3 : ∀ b, b ∈ S3 → h2.next ≤ b := fun b hb => by
    rcases (s3.own b hb).2 with e | e
    · simp at e
    · exact e
  have wl := w.lt
  have w4 := w3.frame s4 (fun b hb he => by have := hS3 b he; have := (wl b hb).2; omega)
  have s34 : Step h2 h4 [] S4 := s3.trans s4
  have hS4 : ∀ b, b ∈ S4 → b ∉ S := fun b hb he => by
    rcases (s34.own b hb).2 with e | e
    · simp at e
    · have := (wl b he).2; omega
  rw [← bvs_append, show 4 + l.length = (be 4 l.length ++ l).length by simp] at v4
  have hbound := hok.len
  have hse := o.sectors
  refine ⟨(be 4 l.length ++ l).length + 1, ?_⟩
  have := xappend_loop (w0 := w0) (p := p) (all := be 4 l.length ++ l) (x5 := x5) (SX := S4) (k0 := fun y0 => nilA y0 fun v90 => addA v90 5 fun v91 => loadA w0 v91 fun v92 => pureA (binA .add v92 (.int .i64 1)) fun v93 => nilA y0 fun v94 => addA v94 5 fun v95 => storeA w0 v95 v93 fun _ => retA [(.int .i64 0)] fun v h' => v = .int .i64 0 ∧ ∃ S', Jw w0 h' p { st with rooms := pushAll st.room st.taken st.rooms (be 4 l.length ++ l), cnt := IntKind.i64.wrap (st.cnt + 1) } S' ∧ Step h2 h' S S')
    (by simp; omega) (be 4 l.length ++ l) [] st h4 S rfl w4 o.size v4 hS4 o.good (by simp only at hbound; omega) (fun h5 S5 w5 s5 => by
    obtain ⟨x, T, hb, hB, hlt, vv, hp, rfl⟩ := w5
    simp only [ptr, lenSl_slice, lenStr_string, str_size, fpureA_some, fnilA_ptr, faddA_ptr, addr_add, Nat.zero_add, Nat.add_zero, fpureQ_k, fpureQ_nilA, fpureQ_addA, fpureQ_pureA, fpureQ_guardA, fpureQ_idxSlA, fpureQ_pickA, freadQ_loadA, freadQ_loadNA, freadQ_b2sA, freadQ_guardA, freadQ_slSlA, freadQ_k, fendA, fallA_one, fstillA_nil, fguardA_tt, fguardA_ff, fguardA_tf, fguardA_ft, fguardA_undef, fpickA_true, fpickA_false, fcondA_true, fcondA_false, binA_add, binA_sub, binA_mul, binA_eql, binA_neq, binA_lss, binA_leq, binA_gtr, binA_geq, unA_not, Bool.not_true, Bool.not_false, convA_int, extA_tuple, List.getElem?_toArray, List.getElem?_cons_zero, List.getElem?_cons_succ]
    refine loadA_at hB hb (by rfl) ?_
    simp only [lenSl_slice, lenStr_string, str_size, fpureA_some, fnilA_ptr, faddA_ptr, addr_add, Nat.zero_add, Nat.add_zero, fpureQ_k, fpureQ_nilA, fpureQ_addA, fpureQ_pureA, fpureQ_guardA, fpureQ_idxSlA, fpureQ_pickA, freadQ_loadA, freadQ_loadNA, freadQ_b2sA, freadQ_guardA, freadQ_slSlA, freadQ_k, fendA, fallA_one, fstillA_nil, fguardA_tt, fguardA_ff, fguardA_tf, fguardA_ft, fguardA_undef, fpickA_true, fpickA_false, fcondA_true, fcondA_false, binA_add, binA_sub, binA_mul, binA_eql, binA_neq, binA_lss, binA_leq, binA_gtr, binA_geq, unA_not, Bool.not_true, Bool.not_false, convA_int, extA_tuple, List.getElem?_toArray, List.getElem?_cons_zero, List.getElem?_cons_succ]
    refine storeA_at hB hb (by simp) rfl ?_
    simp only [retA_iff, oneOf_one]
    refine ⟨by simp, by trivial, p :: T, ⟨x, T, by simp, hB, by simpa using hlt, vv.put hp _, hp, rfl⟩, ?_⟩
    exact (((s34.wide (T := S) (T' := S) (by simp) (fun b hb => .inr ⟨hb, (wl b hb).2⟩)).trans s5).put (by simp) _))
  exact this

theorem xtake_loop {k0 : Value → Value → Hp → Prop} {st : JS} {x : Value} {vs : List Value} {U S0 : List Nat} (o : st.Ok) : ∀ (post pre : List (List UInt8)) (h : Hp) (x3 : Value) (SO : List Nat), pre ++ post = st.rooms.drop st.taken →
    h.blk p = some [.int .i64 st.size, .int .i64 st.sectors, .int .u64 st.gen, x, .int .i64 st.taken, .int .i64 st.cnt] → w0.heap.size ≤ p → p < h.next → Vec w0 h 1 x st.rooms.length vs U → Rows w0 h vs st.rooms S0 → SVec w0 h x3 st.taken (secList st.size st.gen st.taken pre) SO → (∀ b, b ∈ SO → b ∉ p :: (U ++ S0)) →
    (∀ h' x' SO', SVec w0 h' x' st.taken st.secs SO' → Step h h' SO SO' → k0 (ptr p) x' h') →
    dedupref07_Writer_Take_L1 prog w0 k0 (post.length + 1) (ptr p) x3 (.int .i64 ((st.taken + pre.length : Nat) : Int)) h := by
  intro post
  induction post with
  | nil =>
    intro pre h x3 SO he hb hB hlt v rr sv hd hk
    have hpre : pre = st.rooms.drop st.taken := by simpa using he
    have hta := o.good.1
    have hpl : st.taken + pre.length = st.rooms.length := by rw [hpre]; simp; omega
    obtain ⟨ax, cx, hx⟩ := v.slice
    rw [dedupref07_Writer_Take_L1]
    simp only [dedupref07_Writer_Take_B1, ptr, lenSl_slice, lenStr_string, str_size, fpureA_some, fnilA_ptr, faddA_ptr, addr_add, Nat.zero_add, Nat.add_zero, fpureQ_k, fpureQ_nilA, fpureQ_addA, fpureQ_pureA, fpureQ_guardA, fpureQ_idxSlA, fpureQ_pickA, freadQ_loadA, freadQ_loadNA, freadQ_b2sA, freadQ_guardA, freadQ_slSlA, freadQ_k, fendA, fallA_one, fstillA_nil, fguardA_tt, fguardA_ff, fguardA_tf, fguardA_ft, fguardA_undef, fpickA_true, fpickA_false, fcondA_true, fcondA_false, binA_add, binA_sub, binA_mul, binA_eql, binA_neq, binA_lss, binA_leq, binA_gtr, binA_geq, unA_not, Bool.not_true, Bool.not_false, convA_int, extA_tuple, List.getElem?_toArray, List.getElem?_cons_zero, List.getElem?_cons_succ]
    refine loadA_at hB hb (by rfl) ?_
    rw [hx]
    simp only [lenSl_slice, lenStr_string, str_size, fpureA_some, fnilA_ptr, faddA_ptr, addr_add, Nat.zero_add, Nat.add_zero, fpureQ_k, fpureQ_nilA, fpureQ_addA, fpureQ_pureA, fpureQ_guardA, fpureQ_idxSlA, fpureQ_pickA, freadQ_loadA, freadQ_loadNA, freadQ_b2sA, freadQ_guardA, freadQ_slSlA, freadQ_k, fendA, fallA_one, fstillA_nil, fguardA_tt, fguardA_ff, fguardA_tf, fguardA_ft, fguardA_undef, fpickA_true, fpickA_false, fcondA_true, fcondA_false, binA_add, binA_sub, binA_mul, binA_eql, binA_neq, binA_lss, binA_leq, binA_gtr, binA_geq, unA_not, Bool.not_true, Bool.not_false, convA_int, extA_tuple, List.getElem?_toArray, List.getElem?_cons_zero, List.getElem?_cons_succ, hpl, Int.lt_irrefl, decide_false]
    rw [hpre] at sv
    exact hk h x3 SO sv (Step.refl _ _ fun b hb => (sv.lt b hb).2)
  | cons r post ih =>
    intro pre h x3 SO he hb hB hlt v rr sv hd hk
    have hlen : st.taken + pre.length < st.rooms.length := by
      have := congrArg List.length he
      simp at this; omega
    have hle := o.len
    have hse := o.sectors
    have hta := o.good.1
    have hget : st.rooms[st.taken + pre.length]? = some r := by
      rw [← List.getElem?_drop, ← he]; simp
    obtain ⟨y, T, hy, vy, hT⟩ := rr.get hget
    have hr := o.good.2.1 r (List.mem_of_getElem? hget)
    have hvl := rr.len
    have c1 : decide (((st.taken + pre.length : Nat) : Int) < (st.rooms.length : Int)) = true := decide_eq_true (by omega)
    have e5 : IntKind.i64.wrap (((st.taken + pre.length : Nat) : Int) + 1) = ((st.taken + (pre.length + 1) : Nat) : Int) := by rw [IntWalk.i64_in _ (by omega)]; omega
    have hsx := v.src
    obtain ⟨ax, cx, hx⟩ := v.slice
    rw [hx] at hsx
    rw [List.length_cons, dedupref07_Writer_Take_L1]
    simp only [dedupref07_Writer_Take_B1, ptr, lenSl_slice, lenStr_string, str_size, fpureA_some, fnilA_ptr, faddA_ptr, addr_add, Nat.zero_add, Nat.add_zero, fpureQ_k, fpureQ_nilA, fpureQ_addA, fpureQ_pureA, fpureQ_guardA, fpureQ_idxSlA, fpureQ_pickA, freadQ_loadA, freadQ_loadNA, freadQ_b2sA, freadQ_guardA, freadQ_slSlA, freadQ_k, fendA, fallA_one, fstillA_nil, fguardA_tt, fguardA_ff, fguardA_tf, fguardA_ft, fguardA_undef, fpickA_true, fpickA_false, fcondA_true, fcondA_false, binA_add, binA_sub, binA_mul, binA_eql, binA_neq, binA_lss, binA_leq, binA_gtr, binA_geq, unA_not, Bool.not_true, Bool.not_false, convA_int, extA_tuple, List.getElem?_toArray, List.getElem?_cons_zero, List.getElem?_cons_succ]
    refine loadA_at hB hb (by rfl) ?_
    rw [hx]
    simp only [lenSl_slice, lenStr_string, str_size, fpureA_some, fnilA_ptr, faddA_ptr, addr_add, Nat.zero_add, Nat.add_zero, fpureQ_k, fpureQ_nilA, fpureQ_addA, fpureQ_pureA, fpureQ_guardA, fpureQ_idxSlA, fpureQ_pickA, freadQ_loadA, freadQ_loadNA, freadQ_b2sA, freadQ_guardA, freadQ_slSlA, freadQ_k, fendA, fallA_one, fstillA_nil, fguardA_tt, fguardA_ff, fguardA_tf, fguardA_ft, fguardA_undef, fpickA_true, fpickA_false, fcondA_true, fcondA_false, binA_add, binA_sub, binA_mul, binA_eql, binA_neq, binA_lss, binA_leq, binA_gtr, binA_geq, unA_not, Bool.not_true, Bool.not_false, convA_int, extA_tuple, List.getElem?_toArray, List.getElem?_cons_zero, List.getElem?_cons_succ, c1]
    refine loadA_at hB hb (by rfl) ?_
    refine loadA_at hB hb (by rfl) ?_
    refine loadA_at hB hb (by rfl) ?_
    rw [hx]
    refine idx_load1 hsx hvl hy ?_
    obtain ⟨ay, cy, rfl⟩ := vy.slice
    refine callA_of (Bytes_spec (gen := st.gen) o.size o.gen (by omega) (by have := hr; unfold JS.room at this; exact this) vy.src) fun v1 h1 ⟨S1, v1v, s1⟩ f1 => ?_
    have hsl := sec_length st.gen (st.taken + pre.length) (size := st.size) (r := r) (by have := o.size; omega) hr
    have sv1 := sv.frame s1 (by simp)
    have hel : st.taken + (secList st.size st.gen st.taken pre).length = st.taken + pre.length := by simp
    have v1v' : Vec w0 h1 1 v1 (sec st.size st.gen (st.taken + pre.length) r).length (bvs (sec st.size st.gen (st.taken + pre.length) r)) S1 := by rw [hsl]; exact v1v
    have hse1 := sec_elem (k := st.taken) (r := sec st.size st.gen (st.taken + pre.length) r) (K := fun v46 => dedupref07_Writer_Take_L1 prog w0 k0 (post.length + 1) (ptr p) v46 (.int .i64 (IntKind.i64.wrap (((st.taken + pre.length : Nat) : Int) + 1)))) f1.base sv1 v1v' (fun b hb1 hb2 => by
      rcases (s1.own b hb1).2 with e | e
      · simp at e
      · have := (sv.lt b hb2).2; omega) (by simp; omega) (fun x' h' S' v' st' => by
      rw [e5]
      have s12 : Step h h' SO S' := (s1.wide (T := SO) (T' := SO ++ S1) (by simp) (fun b hb => by
        rcases List.mem_append.1 hb with e | e
        · exact .inr ⟨e, (sv.lt b e).2⟩
        · exact .inl e)).trans st'
      have hpSO : p ∉ SO := fun e => hd p e (by simp)
      have hb' : h'.blk p = _ := (s12.keep p hlt hpSO).1.trans hb
      have := ih (pre ++ [r]) h' x' S' (by simpa using he) hb' hB (by have := s12.next; omega) (v.frame s12 fun b hb he => hd b he (by simp [hb])) (rr.frame s12 fun b hb he => hd b he (by simp [hb])) (by rw [secList_snoc]; exact v') (fun b hb he => by
        rcases (s12.own b hb).2 with g | g
        · exact hd b g he
        · have : b < h.next := by
            rcases List.mem_cons.1 he with rfl | he
            · exact hlt
            · rcases List.mem_append.1 he with he | he
              · exact (v.lt b he).2
              · exact (rr.lt b he).2
          omega) (fun h2 x2 S2 v2 s2 => hk h2 x2 S2 v2 (s12.trans s2))
      simpa using this)
    rw [hel] at hse1
    exact hse1
theorem xTake_spec {h : Hp} {st : JS} {S : List Nat} (w : Jw w0 h p st S) (o : st.Ok) :
    ACalls prog w0 n_dedupref07_Writer_Take [ptr p] h fun v h' => ∃ SO, Jw w0 h' p st.take S ∧ SVec w0 h' v st.taken st.secs SO ∧ (∀ b, b ∈ SO → h.next ≤ b) ∧ Step h h' S (SO ++ S) := by
  refine ACalls.of_fit (by simp [ptr]) fun f => c_dedupref07_Writer_Take (by simp [ptr]) ?_
  have wr := w.refl
  obtain ⟨x, T, hb, hB, hlt, vv, hp, rfl⟩ := w
  obtain ⟨vs, U, S0, v, rr, d, rfl⟩ := vv
  simp only [s_dedupref07_Writer_Take, ptr, lenSl_slice, lenStr_string, str_size, fpureA_some, fnilA_ptr, faddA_ptr, addr_add, Nat.zero_add, Nat.add_zero, fpureQ_k, fpureQ_nilA, fpureQ_addA, fpureQ_pureA, fpureQ_guardA, fpureQ_idxSlA, fpureQ_pickA, freadQ_loadA, freadQ_loadNA, freadQ_b2sA, freadQ_guardA, freadQ_slSlA, freadQ_k, fendA, fallA_one, fstillA_nil, fguardA_tt, fguardA_ff, fguardA_tf, fguardA_ft, fguardA_undef, fpickA_true, fpickA_false, fcondA_true, fcondA_false, binA_add, binA_sub, binA_mul, binA_eql, binA_neq, binA_lss, binA_leq, binA_gtr, binA_geq, unA_not, Bool.not_true, Bool.not_false, convA_int, extA_tuple, List.getElem?_toArray, List.getElem?_cons_zero, List.getElem?_cons_succ]
  refine loadA_at hB hb (by rfl) ?_
  have hl : (st.rooms.drop st.taken).length = st.rooms.length - st.taken := by simp
  refine ⟨(st.rooms.drop st.taken).length + 1, ?_⟩
  refine xtake_loop o (st.rooms.drop st.taken) [] h _ [] rfl hb hB hlt v rr (SVec.nil _) (by simp) fun h2 x2 SO v2 s2 => ?_
  simp only [ptr, lenSl_slice, lenStr_string, str_size, fpureA_some, fnilA_ptr, faddA_ptr, addr_add, Nat.zero_add, Nat.add_zero, fpureQ_k, fpureQ_nilA, fpureQ_addA, fpureQ_pureA, fpureQ_guardA, fpureQ_idxSlA, fpureQ_pickA, freadQ_loadA, freadQ_loadNA, freadQ_b2sA, freadQ_guardA, freadQ_slSlA, freadQ_k, fendA, fallA_one, fstillA_nil, fguardA_tt, fguardA_ff, fguardA_tf, fguardA_ft, fguardA_undef, fpickA_true, fpickA_false, fcondA_true, fcondA_false, binA_add, binA_sub, binA_mul, binA_eql, binA_neq, binA_lss, binA_leq, binA_gtr, binA_geq, unA_not, Bool.not_true, Bool.not_false, convA_int, extA_tuple, List.getElem?_toArray, List.getElem?_cons_zero, List.getElem?_cons_succ]
  have hb2 : h2.blk p = _ := (s2.keep p hlt (by simp)).1.trans hb
  refine loadA_at hB hb2 (by rfl) ?_
  obtain ⟨ax, cx, hx⟩ := v.slice
  rw [hx]
  simp only [lenSl_slice, lenStr_string, str_size, fpureA_some, fnilA_ptr, faddA_ptr, addr_add, Nat.zero_add, Nat.add_zero, fpureQ_k, fpureQ_nilA, fpureQ_addA, fpureQ_pureA, fpureQ_guardA, fpureQ_idxSlA, fpureQ_pickA, freadQ_loadA, freadQ_loadNA, freadQ_b2sA, freadQ_guardA, freadQ_slSlA, freadQ_k, fendA, fallA_one, fstillA_nil, fguardA_tt, fguardA_ff, fguardA_tf, fguardA_ft, fguardA_undef, fpickA_true, fpickA_false, fcondA_true, fcondA_false, binA_add, binA_sub, binA_mul, binA_eql, binA_neq, binA_lss, binA_leq, binA_gtr, binA_geq, unA_not, Bool.not_true, Bool.not_false, convA_int, extA_tuple, List.getElem?_toArray, List.getElem?_cons_zero, List.getElem?_cons_succ]
  rw [storeA_own]
  refine ⟨_, hB, hb2, by simp, rfl, ?_⟩
  obtain ⟨a2, c2, hx2⟩ := v2.slice
  have hSO : ∀ b, b ∈ SO → h.next ≤ b := fun b hb => by
    rcases (s2.own b hb).2 with e | e
    · simp at e
    · exact e
  simp only [retA_iff, oneOf_one]
  refine ⟨by rw [hx2]; simp, SO, ⟨x, U ++ S0, ?_, hB, by have := s2.next; simp; omega, ⟨vs, U, S0, ?_, ?_, d, rfl⟩, hp, rfl⟩, ?_, hSO, ?_⟩
  · simp [JS.take]
  · exact (v.frame s2 (by simp)).put (fun e => hp (by simp [e])) _
  · exact (rr.frame s2 (by simp)).put (fun e => hp (by simp [e])) _
  · obtain ⟨vs2, U2, S2, g1, g2, g3, g4⟩ := v2
    have hpSO : p ∉ SO := fun e => by have := hSO p e; omega
    rw [g4] at hpSO
    exact ⟨vs2, U2, S2, g1.put (fun e => hpSO (by simp [e])) _, g2.put (fun e => hpSO (by simp [e])) _, g3, g4⟩
  · refine (s2.wide (T := p :: (U ++ S0)) (T' := SO ++ (p :: (U ++ S0))) (by simp) (fun b hb => ?_)).put (by simp) _
    rcases List.mem_append.1 hb with e | e
    · exact .inl e
    · exact .inr ⟨e, wr.own b e |>.1⟩

theorem xfork_loop {k0 : Value → Hp → Prop} {q : Nat} {st : JS} {x : Value} {vs : List Value} {U S0 : List Nat} (o : st.Ok) (hpq : p ≠ q) : ∀ (post pre : List (List UInt8)) (h : Hp) (SQ : List Nat), pre ++ post = st.rooms →
    h.blk p = some [.int .i64 st.size, .int .i64 st.sectors, .int .u64 st.gen, x, .int .i64 st.taken, .int .i64 st.cnt] → w0.heap.size ≤ p → p < h.next → Vec w0 h 1 x st.rooms.length vs U → Rows w0 h vs st.rooms S0 → Jw w0 h q { st with rooms := pre } SQ → (∀ b, b ∈ SQ → b ∉ p :: (U ++ S0)) →
    (∀ h' SQ', Jw w0 h' q st SQ' → Step h h' SQ SQ' → k0 (ptr q) h') →
    dedupref07_Writer_Fork_L1 prog w0 k0 (post.length + 1) (ptr p) (ptr q) (.int .i64 (pre.length : Int)) h := by
  intro post
  induction post with
  | nil =>
    intro pre h SQ he hb hB hlt v rr w hd hk
    have hpre : pre = st.rooms := by simpa using he
    subst hpre
    obtain ⟨ax, cx, hx⟩ := v.slice
    rw [dedupref07_Writer_Fork_L1]
    simp only [dedupref07_Writer_Fork_B1, ptr, lenSl_slice, lenStr_string, str_size, fpureA_some, fnilA_ptr, faddA_ptr, addr_add, Nat.zero_add, Nat.add_zero, fpureQ_k, fpureQ_nilA, fpureQ_addA, fpureQ_pureA, fpureQ_guardA, fpureQ_idxSlA, fpureQ_pickA, freadQ_loadA, freadQ_loadNA, freadQ_b2sA, freadQ_guardA, freadQ_slSlA, freadQ_k, fendA, fallA_one, fstillA_nil, fguardA_tt, fguardA_ff, fguardA_tf, fguardA_ft, fguardA_undef, fpickA_true, fpickA_false, fcondA_true, fcondA_false, binA_add, binA_sub, binA_mul, binA_eql, binA_neq, binA_lss, binA_leq, binA_gtr, binA_geq, unA_not, Bool.not_true, Bool.not_false, convA_int, extA_tuple, List.getElem?_toArray, List.getElem?_cons_zero, List.getElem?_cons_succ]
    refine loadA_at hB hb (by rfl) ?_
    rw [hx]
    simp only [lenSl_slice, lenStr_string, str_size, fpureA_some, fnilA_ptr, faddA_ptr, addr_add, Nat.zero_add, Nat.add_zero, fpureQ_k, fpureQ_nilA, fpureQ_addA, fpureQ_pureA, fpureQ_guardA, fpureQ_idxSlA, fpureQ_pickA, freadQ_loadA, freadQ_loadNA, freadQ_b2sA, freadQ_guardA, freadQ_slSlA, freadQ_k, fendA, fallA_one, fstillA_nil, fguardA_tt, fguardA_ff, fguardA_tf, fguardA_ft, fguardA_undef, fpickA_true, fpickA_false, fcondA_true, fcondA_false, binA_add, binA_sub, binA_mul, binA_eql, binA_neq, binA_lss, binA_leq, binA_gtr, binA_geq, unA_not, Bool.not_true, Bool.not_false, convA_int, extA_tuple, List.getElem?_toArray, List.getElem?_cons_zero, List.getElem?_cons_succ, Int.lt_irrefl, decide_false]
    exact hk h SQ w w.refl
  | cons r post ih =>
    intro pre h SQ he hb hB hlt v rr w hd hk
    have hlen : pre.length + (post.length + 1) = st.rooms.length := by rw [← he]; simp
    have hle := o.len
    have hse := o.sectors
    have hget : st.rooms[pre.length]? = some r := by rw [← he]; simp
    obtain ⟨y, T, hy, vy, hT⟩ := rr.get hget
    have hr := o.good.2.1 r (List.mem_of_getElem? hget)
    have hne := o.ne r (List.mem_of_getElem? hget)
    have hro := o.room
    have hvl := rr.len
    have c1 : decide ((pre.length : Int) < (st.rooms.length : Int)) = true := decide_eq_true (by omega)
    have e5 : IntKind.i64.wrap ((pre.length : Int) + 1) = ((pre.length + 1 : Nat) : Int) := by rw [IntWalk.i64_in _ (by omega)]; simp
    rcases v with ⟨-, e, -⟩ | ⟨b0, rfl, rfl, hb0B, hb0l, hb0, hb0e, hb0n⟩
    · omega
    have v : Vec w0 h 1 (.slice (some ⟨b0, 0, none⟩) st.rooms.length ucap) st.rooms.length vs [b0] := .inr ⟨b0, rfl, rfl, hb0B, hb0l, hb0, hb0e, hb0n⟩
    have wl := w.lt
    obtain ⟨x0, hbq, hBq, hltq⟩ : ∃ x0, h.blk q = some [.int .i64 st.size, .int .i64 st.sectors, .int .u64 st.gen, x0, .int .i64 st.taken, .int .i64 st.cnt] ∧ w0.heap.size ≤ q ∧ q < h.next := by
      obtain ⟨x0, U0, g1, g2, g3, -⟩ := w
      exact ⟨x0, g1, g2, g3⟩
    have hlt0 : ∀ b, b ∈ T → b < h.next := fun b hb => (vy.lt b hb).2
    rw [List.length_cons, dedupref07_Writer_Fork_L1]
    simp only [dedupref07_Writer_Fork_B1, ptr, lenSl_slice, lenStr_string, str_size, fpureA_some, fnilA_ptr, faddA_ptr, addr_add, Nat.zero_add, Nat.add_zero, fpureQ_k, fpureQ_nilA, fpureQ_addA, fpureQ_pureA, fpureQ_guardA, fpureQ_idxSlA, fpureQ_pickA, freadQ_loadA, freadQ_loadNA, freadQ_b2sA, freadQ_guardA, freadQ_slSlA, freadQ_k, fendA, fallA_one, fstillA_nil, fguardA_tt, fguardA_ff, fguardA_tf, fguardA_ft, fguardA_undef, fpickA_true, fpickA_false, fcondA_true, fcondA_false, binA_add, binA_sub, binA_mul, binA_eql, binA_neq, binA_lss, binA_leq, binA_gtr, binA_geq, unA_not, Bool.not_true, Bool.not_false, convA_int, extA_tuple, List.getElem?_toArray, List.getElem?_cons_zero, List.getElem?_cons_succ]
    refine loadA_at hB hb (by rfl) ?_
    simp only [lenSl_slice, lenStr_string, str_size, fpureA_some, fnilA_ptr, faddA_ptr, addr_add, Nat.zero_add, Nat.add_zero, fpureQ_k, fpureQ_nilA, fpureQ_addA, fpureQ_pureA, fpureQ_guardA, fpureQ_idxSlA, fpureQ_pickA, freadQ_loadA, freadQ_loadNA, freadQ_b2sA, freadQ_guardA, freadQ_slSlA, freadQ_k, fendA, fallA_one, fstillA_nil, fguardA_tt, fguardA_ff, fguardA_tf, fguardA_ft, fguardA_undef, fpickA_true, fpickA_false, fcondA_true, fcondA_false, binA_add, binA_sub, binA_mul, binA_eql, binA_neq, binA_lss, binA_leq, binA_gtr, binA_geq, unA_not, Bool.not_true, Bool.not_false, convA_int, extA_tuple, List.getElem?_toArray, List.getElem?_cons_zero, List.getElem?_cons_succ, c1]
    refine loadA_at hBq hbq (by rfl) ?_
    refine loadA_at hB hb (by rfl) ?_
    refine idxSlA_own (by omega) ?_
    refine loadA_at hb0B hb0 hy ?_
    obtain ⟨ay, cy, hyv⟩ := vy.slice
    -- the bytes, into a vector of their own
    have hemp : ∀ {K : Kont}, (∀ x' h' S', Vec w0 h' 1 x' r.length (bvs r) S' → Step h h' [] S' → K x' h') → bslA [] (zerosL [(.int .u8 0)] 0) 0 1 (fun v20 => stillA [(sameQ (loadA w0 (.pointer (some ⟨b0, pre.length, none⟩))) y), (sameQ (loadA w0 (.pointer (some ⟨p, 3, none⟩))) (.slice (some ⟨b0, 0, none⟩) st.rooms.length ucap)), (sameQ (loadA w0 (.pointer (some ⟨q, 3, none⟩))) x0)] (appA w0 1 1 v20 y K)) h := by
      intro K hK
      simp only [bslA_iff, fillA_nil, stillA_iff, allA_cons, allA_one, sameQ_loadA]
      have s1 := (Step.refl h [] (by simp)).new (zerosL [(.int .u8 0 : Value)] 0) 1
      refine ⟨⟨loadA_at hb0B ((s1.keep b0 hb0l (by simp)).1.trans hb0) hy rfl, loadA_at hB ((s1.keep p hlt (by simp)).1.trans hb) (by rfl) rfl, loadA_at hBq ((s1.keep q hltq (by simp)).1.trans hbq) (by rfl) rfl⟩, ?_⟩
      have := app_empty (w0 := w0) (h := h) (r := r) (y := y) (K := K) (by omega) hne (by omega) (by rw [hyv]; simp) vy.src (by
        rw [hyv]
        intro b hb
        rcases vy with ⟨e, e1, -⟩ | ⟨c0, e, e2, -, hl0, -⟩
        · rw [hyv] at e; simp at e; rw [e.1] at hb; simp [sblk] at hb
        · rw [hyv] at e; simp at e; rw [e.1] at hb; simp [sblk] at hb; omega) hK
      simpa only [bslA_iff, fillA_nil] using this
    refine hemp fun v1 h1 T1 v1v s1 => ?_
    have hbq1 : h1.blk q = _ := (s1.keep q hltq (by simp)).1.trans hbq
    simp only [stillA_iff, allA_one, sameQ_loadA]
    refine ⟨loadA_at hBq hbq1 (by rfl) rfl, ?_⟩
    have hT1 : ∀ b, b ∈ T1 → h.next ≤ b := fun b hb => by
      rcases (s1.own b hb).2 with e | e
      · simp at e
      · exact e
    obtain ⟨x2, hb2, hgo⟩ := fork_put (K := fun h' => dedupref07_Writer_Fork_L1 prog w0 k0 (post.length + 1) (.pointer (some ⟨p, 0, none⟩)) (.pointer (some ⟨q, 0, none⟩)) (.int .i64 (IntKind.i64.wrap ((pre.length : Int) + 1))) h') (w.frame s1 (by simp)) v1v (fun b hb he => by have := hT1 b hb; have := (wl b he).2; omega) (by simp only; omega) (fun h' S' w' st' => by
      rw [e5]
      have s12 : Step h h' SQ S' := (s1.wide (T := SQ) (T' := SQ ++ T1) (by simp) (fun b hb => by
        rcases List.mem_append.1 hb with e | e
        · exact .inr ⟨e, (wl b e).2⟩
        · exact .inl e)).trans st'
      have hpSQ : p ∉ SQ := fun e => hd p e (by simp)
      have hb' : h'.blk p = _ := (s12.keep p hlt hpSQ).1.trans hb
      have := ih (pre ++ [r]) h' S' (by simpa using he) hb' hB (by have := s12.next; omega) (v.frame s12 fun b hb he => hd b he (by simp at hb; simp [hb])) (rr.frame s12 fun b hb he => hd b he (by simp [hb])) w' (fun b hb he => by
        rcases (s12.own b hb).2 with g | g
        · exact hd b g he
        · have : b < h.next := by
            rcases List.mem_cons.1 he with rfl | he
            · exact hlt
            · rcases List.mem_append.1 he with he | he
              · exact (v.lt b he).2
              · exact (rr.lt b he).2
          omega) (fun h2 S2 w2 s2 => hk h2 S2 w2 (s12.trans s2))
      simpa [ptr] using this)
    have hxx : x2 = x0 := by
      rw [hbq1] at hb2
      simp at hb2
      exact hb2.symm
    rw [hxx] at hgo
    simpa only [stillA_iff, allA_one, sameQ_loadA] using hgo
theorem xFork_spec {h : Hp} {st : JS} {S : List Nat} (w : Jw w0 h p st S) (o : st.Ok) :
    ACalls prog w0 n_dedupref07_Writer_Fork [ptr p] h fun v h' => ∃ q S', v = ptr q ∧ Jw w0 h' q st S' ∧ (∀ b, b ∈ S' → h.next ≤ b) ∧ Step h h' [] S' := by
  refine ACalls.of_fit (by simp [ptr]) fun f => c_dedupref07_Writer_Fork (by simp [ptr]) ?_
  have wl := w.lt
  obtain ⟨x, T, hb, hB, hlt, vv, hp, rfl⟩ := w
  obtain ⟨vs, U, S0, v, rr, d, rfl⟩ := vv
  simp only [s_dedupref07_Writer_Fork, ptr, lenSl_slice, lenStr_string, str_size, fpureA_some, fnilA_ptr, faddA_ptr, addr_add, Nat.zero_add, Nat.add_zero, fpureQ_k, fpureQ_nilA, fpureQ_addA, fpureQ_pureA, fpureQ_guardA, fpureQ_idxSlA, fpureQ_pickA, freadQ_loadA, freadQ_loadNA, freadQ_b2sA, freadQ_guardA, freadQ_slSlA, freadQ_k, fendA, fallA_one, fstillA_nil, fguardA_tt, fguardA_ff, fguardA_tf, fguardA_ft, fguardA_undef, fpickA_true, fpickA_false, fcondA_true, fcondA_false, binA_add, binA_sub, binA_mul, binA_eql, binA_neq, binA_lss, binA_leq, binA_gtr, binA_geq, unA_not, Bool.not_true, Bool.not_false, convA_int, extA_tuple, List.getElem?_toArray, List.getElem?_cons_zero, List.getElem?_cons_succ]
  refine loadNA_whole hB hb (by rfl) ?_
  refine box_new (e := [.int .i64 st.size, .int .i64 st.sectors, .int .u64 st.gen, x, .int .i64 st.taken, .int .i64 st.cnt]) f.base rfl rfl (by simp) ?_
  simp only [lenSl_slice, lenStr_string, str_size, fpureA_some, fnilA_ptr, faddA_ptr, addr_add, Nat.zero_add, Nat.add_zero, fpureQ_k, fpureQ_nilA, fpureQ_addA, fpureQ_pureA, fpureQ_guardA, fpureQ_idxSlA, fpureQ_pickA, freadQ_loadA, freadQ_loadNA, freadQ_b2sA, freadQ_guardA, freadQ_slSlA, freadQ_k, fendA, fallA_one, fstillA_nil, fguardA_tt, fguardA_ff, fguardA_tf, fguardA_ft, fguardA_undef, fpickA_true, fpickA_false, fcondA_true, fcondA_false, binA_add, binA_sub, binA_mul, binA_eql, binA_neq, binA_lss, binA_leq, binA_gtr, binA_geq, unA_not, Bool.not_true, Bool.not_false, convA_int, extA_tuple, List.getElem?_toArray, List.getElem?_cons_zero, List.getElem?_cons_succ]
  refine storeA_at (cs := [.int .i64 st.size, .int .i64 st.sectors, .int .u64 st.gen, x, .int .i64 st.taken, .int .i64 st.cnt]) f.base (by simp) (by simp) rfl ?_
  have s1 : Step h ((h.new [.int .i64 st.size, .int .i64 st.sectors, .int .u64 st.gen, x, .int .i64 st.taken, .int .i64 st.cnt] 6).put h.next [.int .i64 st.size, .int .i64 st.sectors, .int .u64 st.gen, .slice none 0 0, .int .i64 st.taken, .int .i64 st.cnt]) [] [h.next] := ((Step.refl h [] (by simp)).new _ _).put (by simp) _
  have hb1 := (s1.keep p hlt (by simp)).1.trans hb
  refine ⟨st.rooms.length + 1, xfork_loop o (by omega) st.rooms [] _ [h.next] rfl hb1 hB (by simp; omega) (v.frame s1 (by simp)) (rr.frame s1 (by simp)) ⟨.slice none 0 0, [], by simp, f.base, by simp, .nil, by simp, rfl⟩ (fun b hb he => ?_) (fun h2 SQ w2 s2 => ?_)⟩
  · simp only [List.mem_singleton] at hb
    subst hb
    have := (wl h.next he).2
    omega
  · simp only [retA_iff, oneOf_one]
    have s12 := s1.trans s2
    refine ⟨by simp [ptr], h.next, SQ, rfl, w2, fun b hb => ?_, s12⟩
    rcases (s12.own b hb).2 with e | e
    · simp at e
    · exact e
end
end Go.Proofs.Ytiakadkooclelaa.Ah
