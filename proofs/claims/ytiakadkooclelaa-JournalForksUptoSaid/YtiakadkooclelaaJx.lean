/- dedupref07.Writer. -/
import Derived.Test.YtiakadkooclelaaJf
import Derived.Test.YtiakadkooclelaaGref07
import Derived.Test.YtiakadkooclelaaKf
set_option linter.unusedVariables false
set_option linter.unusedSimpArgs false
namespace Go.Proofs.Ytiakadkooclelaa.Ah
open Go

theorem power_spec {w0 : World} {h : Hp} (n : Int) (hn : -9223372036854775808 ≤ n ∧ n ≤ 9223372036854775807) : ACalls prog w0 n_dedupref07_power [.int .i64 n, .int .i64 512, .int .i64 4096] h fun v h' => v = .bool (jsize n) ∧ h' = h := by
  refine ACalls.of_fit (by simp) fun f => c_dedupref07_power (by simp) ?_
  refine ⟨6, ?_⟩
  have d1 : decide ((512 : Int) ≤ 4096) = true := rfl
  have d2 : decide ((1024 : Int) ≤ 4096) = true := rfl
  have d3 : decide ((2048 : Int) ≤ 4096) = true := rfl
  have d4 : decide ((4096 : Int) ≤ 4096) = true := rfl
  have d5 : decide ((8192 : Int) ≤ 4096) = false := rfl
  have m1 : IntKind.i64.wrap (2 * 512) = 1024 := by decide
  have m2 : IntKind.i64.wrap (2 * 1024) = 2048 := by decide
  have m3 : IntKind.i64.wrap (2 * 2048) = 4096 := by decide
  have m4 : IntKind.i64.wrap (2 * 4096) = 8192 := by decide
  by_cases h1 : n = 512
  · subst h1
    simp only [dedupref07_power_L1, dedupref07_power_B1, lenSl_slice, lenStr_string, str_size, fpureA_some, fnilA_ptr, faddA_ptr, addr_add, Nat.zero_add, Nat.add_zero, fpureQ_k, fpureQ_nilA, fpureQ_addA, fpureQ_pureA, fpureQ_guardA, fpureQ_idxSlA, fpureQ_pickA, freadQ_loadA, freadQ_loadNA, freadQ_b2sA, freadQ_guardA, freadQ_slSlA, freadQ_k, fendA, fallA_one, fstillA_nil, fguardA_tt, fguardA_ff, fguardA_tf, fguardA_ft, fguardA_undef, fpickA_true, fpickA_false, fcondA_true, fcondA_false, binA_add, binA_sub, binA_mul, binA_eql, binA_neq, binA_lss, binA_leq, binA_gtr, binA_geq, unA_not, Bool.not_true, Bool.not_false, convA_int, extA_tuple, List.getElem?_toArray, List.getElem?_cons_zero, List.getElem?_cons_succ, d1, beq_self_eq_true, retA_iff, oneOf_one]
    simp [jsize]
  have c1 : (n == 512) = false := by simp [h1]
  by_cases h2 : n = 1024
  · subst h2
    simp only [dedupref07_power_L1, dedupref07_power_B1, lenSl_slice, lenStr_string, str_size, fpureA_some, fnilA_ptr, faddA_ptr, addr_add, Nat.zero_add, Nat.add_zero, fpureQ_k, fpureQ_nilA, fpureQ_addA, fpureQ_pureA, fpureQ_guardA, fpureQ_idxSlA, fpureQ_pickA, freadQ_loadA, freadQ_loadNA, freadQ_b2sA, freadQ_guardA, freadQ_slSlA, freadQ_k, fendA, fallA_one, fstillA_nil, fguardA_tt, fguardA_ff, fguardA_tf, fguardA_ft, fguardA_undef, fpickA_true, fpickA_false, fcondA_true, fcondA_false, binA_add, binA_sub, binA_mul, binA_eql, binA_neq, binA_lss, binA_leq, binA_gtr, binA_geq, unA_not, Bool.not_true, Bool.not_false, convA_int, extA_tuple, List.getElem?_toArray, List.getElem?_cons_zero, List.getElem?_cons_succ, d1, d2, c1, m1, beq_self_eq_true, retA_iff, oneOf_one]
    simp [jsize]
  have c2 : (n == 1024) = false := by simp [h2]
  by_cases h3 : n = 2048
  · subst h3
    simp only [dedupref07_power_L1, dedupref07_power_B1, lenSl_slice, lenStr_string, str_size, fpureA_some, fnilA_ptr, faddA_ptr, addr_add, Nat.zero_add, Nat.add_zero, fpureQ_k, fpureQ_nilA, fpureQ_addA, fpureQ_pureA, fpureQ_guardA, fpureQ_idxSlA, fpureQ_pickA, freadQ_loadA, freadQ_loadNA, freadQ_b2sA, freadQ_guardA, freadQ_slSlA, freadQ_k, fendA, fallA_one, fstillA_nil, fguardA_tt, fguardA_ff, fguardA_tf, fguardA_ft, fguardA_undef, fpickA_true, fpickA_false, fcondA_true, fcondA_false, binA_add, binA_sub, binA_mul, binA_eql, binA_neq, binA_lss, binA_leq, binA_gtr, binA_geq, unA_not, Bool.not_true, Bool.not_false, convA_int, extA_tuple, List.getElem?_toArray, List.getElem?_cons_zero, List.getElem?_cons_succ, d1, d2, d3, c1, c2, m1, m2, beq_self_eq_true, retA_iff, oneOf_one]
    simp [jsize]
  have c3 : (n == 2048) = false := by simp [h3]
  by_cases h4 : n = 4096
  · subst h4
    simp only [dedupref07_power_L1, dedupref07_power_B1, lenSl_slice, lenStr_string, str_size, fpureA_some, fnilA_ptr, faddA_ptr, addr_add, Nat.zero_add, Nat.add_zero, fpureQ_k, fpureQ_nilA, fpureQ_addA, fpureQ_pureA, fpureQ_guardA, fpureQ_idxSlA, fpureQ_pickA, freadQ_loadA, freadQ_loadNA, freadQ_b2sA, freadQ_guardA, freadQ_slSlA, freadQ_k, fendA, fallA_one, fstillA_nil, fguardA_tt, fguardA_ff, fguardA_tf, fguardA_ft, fguardA_undef, fpickA_true, fpickA_false, fcondA_true, fcondA_false, binA_add, binA_sub, binA_mul, binA_eql, binA_neq, binA_lss, binA_leq, binA_gtr, binA_geq, unA_not, Bool.not_true, Bool.not_false, convA_int, extA_tuple, List.getElem?_toArray, List.getElem?_cons_zero, List.getElem?_cons_succ, d1, d2, d3, d4, c1, c2, c3, m1, m2, m3, beq_self_eq_true, retA_iff, oneOf_one]
    simp [jsize]
  have c4 : (n == 4096) = false := by simp [h4]
  simp only [dedupref07_power_L1, dedupref07_power_B1, lenSl_slice, lenStr_string, str_size, fpureA_some, fnilA_ptr, faddA_ptr, addr_add, Nat.zero_add, Nat.add_zero, fpureQ_k, fpureQ_nilA, fpureQ_addA, fpureQ_pureA, fpureQ_guardA, fpureQ_idxSlA, fpureQ_pickA, freadQ_loadA, freadQ_loadNA, freadQ_b2sA, freadQ_guardA, freadQ_slSlA, freadQ_k, fendA, fallA_one, fstillA_nil, fguardA_tt, fguardA_ff, fguardA_tf, fguardA_ft, fguardA_undef, fpickA_true, fpickA_false, fcondA_true, fcondA_false, binA_add, binA_sub, binA_mul, binA_eql, binA_neq, binA_lss, binA_leq, binA_gtr, binA_geq, unA_not, Bool.not_true, Bool.not_false, convA_int, extA_tuple, List.getElem?_toArray, List.getElem?_cons_zero, List.getElem?_cons_succ, d1, d2, d3, d4, d5, c1, c2, c3, c4, m1, m2, m3, m4, retA_iff, oneOf_one]
  simp [jsize, h1, h2, h3, h4]
theorem xNew_spec {w0 : World} {h : Hp} (n s : Int) (g : Nat) (hn : -9223372036854775808 ≤ n ∧ n ≤ 9223372036854775807) :
    ACalls prog w0 n_dedupref07_New [.int .i64 n, .int .i64 s, .int .u64 g] h fun v h' =>
      (jok n s = true → v = .tuple #[ptr h.next, .int .i64 0] ∧ Jw w0 h' h.next ⟨n.toNat, s.toNat, g, [], 0, 0⟩ [h.next] ∧ Step h h' [] [h.next]) ∧ (jok n s = false → v = .tuple #[.pointer none, .int .i64 1] ∧ h' = h) := by
  refine ACalls.of_fit (by simp) fun f => c_dedupref07_New (by simp) ?_
  refine callA_of (power_spec n hn) fun v hh ⟨e, e1⟩ f1 => ?_
  subst e e1
  cases hs : jsize n with
  | false =>
    simp only [unA_not, Bool.not_false, pureA_some, guardA_tf, pickA_true, guardA_undef, condA_true, retA_iff]
    simp [jok, hs]
  | true =>
    have hr := jsize_range hs
    simp only [unA_not, Bool.not_true, pureA_some, guardA_ff, binA_lss, pickA_false]
    by_cases h1 : s < 1
    · have c1 : decide (s < 1) = true := decide_eq_true h1
      have c2 : jok n s = false := by simp [jok]; omega
      simp only [c1, guardA_tf, guardA_undef, pickA_true, condA_true, retA_iff, c2]
      simp
    · have c1 : decide (s < 1) = false := decide_eq_false h1
      simp only [c1, guardA_ff, binA_gtr, pureA_some, pickA_false]
      by_cases h2 : 4096 < s
      · have c2 : decide ((4096 : Int) < s) = true := decide_eq_true h2
        have c3 : jok n s = false := by simp [jok]; omega
        simp only [c2, condA_true, retA_iff, c3]
        simp
      · have c2 : decide ((4096 : Int) < s) = false := decide_eq_false h2
        have c3 : jok n s = true := by simp [jok, hs]; omega
        simp only [c2, condA_false, buildA_iff, fillA_one, fillA_nil, isCell_int, true_and, List.set_cons_zero, List.set_cons_succ, List.length_cons, List.length_nil, boxA_agg, List.toList_toArray, retA_iff, c3]
        refine ⟨by omega, by omega, by omega, by simp, fun _ => ⟨by simp [ptr], ?_, (Step.refl hh [] (by simp)).new _ _⟩, by simp⟩
        have e1 : ((n.toNat : Nat) : Int) = n := Int.toNat_of_nonneg (by omega)
        have e2 : ((s.toNat : Nat) : Int) = s := Int.toNat_of_nonneg (by omega)
        refine ⟨.slice none 0 0, [], ?_, f.base, by simp, .nil, by simp, rfl⟩
        simp only [e1, e2]
        simp

section
variable {w0 : World}
theorem high_loop {q n0 s : Nat} {K : Value → Hp → Prop} (hq : w0.heap.size ≤ q) (hn0 : n0 < 18446744073709551616) (hs : s ≤ 8) : ∀ (k i : Nat) (h : Hp), i + k = s → q < h.next →
    h.blk q = some (List.replicate k (.int .u8 0) ++ bvs (be i n0)) → (∀ h', h'.blk q = some (bvs (be s n0)) → Step h h' [q] [q] → K (.slice (some ⟨q, 0, none⟩) s s) h') →
    dedupref07_high_L1 prog w0 K (k + 1) (.int .u64 ((n0 / 256 ^ i : Nat) : Int)) (.int .i64 (s : Int)) (.slice (some ⟨q, 0, none⟩) s s) (.int .i64 (i : Int)) h := by
  intro k
  induction k with
  | zero =>
    intro i h hi hql hb hk
    have : i = s := by omega
    subst this
    rw [dedupref07_high_L1]
    simp only [dedupref07_high_B1, lenSl_slice, lenStr_string, str_size, fpureA_some, fnilA_ptr, faddA_ptr, addr_add, Nat.zero_add, Nat.add_zero, fpureQ_k, fpureQ_nilA, fpureQ_addA, fpureQ_pureA, fpureQ_guardA, fpureQ_idxSlA, fpureQ_pickA, freadQ_loadA, freadQ_loadNA, freadQ_b2sA, freadQ_guardA, freadQ_slSlA, freadQ_k, fendA, fallA_one, fstillA_nil, fguardA_tt, fguardA_ff, fguardA_tf, fguardA_ft, fguardA_undef, fpickA_true, fpickA_false, fcondA_true, fcondA_false, binA_add, binA_sub, binA_mul, binA_eql, binA_neq, binA_lss, binA_leq, binA_gtr, binA_geq, unA_not, Bool.not_true, Bool.not_false, convA_int, extA_tuple, List.getElem?_toArray, List.getElem?_cons_zero, List.getElem?_cons_succ, Int.lt_irrefl, decide_false]
    exact hk h (by simpa using hb) (.refl _ _ (by simpa using hql))
  | succ k ih =>
    intro i h hi hql hb hk
    have c1 : decide ((i : Int) < (s : Int)) = true := decide_eq_true (by omega)
    have e0 : IntKind.i64.wrap ((s : Int) - 1) = ((s - 1 : Nat) : Int) := by rw [IntWalk.i64_in _ (by omega)]; omega
    have e1 : IntKind.i64.wrap (((s - 1 : Nat) : Int) - (i : Int)) = (k : Int) := by rw [IntWalk.i64_in _ (by omega)]; omega
    have e2 : IntKind.i64.wrap ((i : Int) + 1) = ((i + 1 : Nat) : Int) := by rw [IntWalk.i64_in _ (by omega)]; simp
    have hd : n0 / 256 ^ i ≤ n0 := Nat.div_le_self _ _
    have e3 : binA .quo (.int .u64 ((n0 / 256 ^ i : Nat) : Int)) (.int .u64 256) = some (.int .u64 ((n0 / 256 ^ (i + 1) : Nat) : Int)) := by
      rw [binA_quo _ _ _ (by omega)]
      have : ((n0 / 256 ^ i : Nat) : Int).tdiv 256 = ((n0 / 256 ^ (i + 1) : Nat) : Int) := by
        rw [Int.tdiv_eq_ediv_of_nonneg (Int.natCast_nonneg _), Nat.pow_succ, ← Nat.div_div_eq_div_mul]; simp
      have h2 : n0 / 256 ^ (i + 1) ≤ n0 := Nat.div_le_self _ _
      have h3 : IntKind.u64.wrap ((n0 / 256 ^ (i + 1) : Nat) : Int) = ((n0 / 256 ^ (i + 1) : Nat) : Int) := by
        generalize n0 / 256 ^ (i + 1) = z at h2
        exact IntWalk.u64_in _ (by omega)
      rw [this, h3]
    rw [dedupref07_high_L1]
    simp only [dedupref07_high_B1, lenSl_slice, lenStr_string, str_size, fpureA_some, fnilA_ptr, faddA_ptr, addr_add, Nat.zero_add, Nat.add_zero, fpureQ_k, fpureQ_nilA, fpureQ_addA, fpureQ_pureA, fpureQ_guardA, fpureQ_idxSlA, fpureQ_pickA, freadQ_loadA, freadQ_loadNA, freadQ_b2sA, freadQ_guardA, freadQ_slSlA, freadQ_k, fendA, fallA_one, fstillA_nil, fguardA_tt, fguardA_ff, fguardA_tf, fguardA_ft, fguardA_undef, fpickA_true, fpickA_false, fcondA_true, fcondA_false, binA_add, binA_sub, binA_mul, binA_eql, binA_neq, binA_lss, binA_leq, binA_gtr, binA_geq, unA_not, Bool.not_true, Bool.not_false, convA_int, extA_tuple, List.getElem?_toArray, List.getElem?_cons_zero, List.getElem?_cons_succ, c1, e0, e1, e2, e3, wrap_u8_nat]
    refine idxSlA_own (by omega) ?_
    refine storeA_at hq hb (by simp; omega) rfl ?_
    refine ih (i + 1) _ (by omega) (by simpa using hql) ?_ (fun h' hb' st => hk h' hb' ?_)
    · simp only [put_blk, if_true, be, bvs_cons]
      rw [List.set_append_left _ _ (by simp), List.replicate_succ', List.set_append_right _ _ (by simp)]
      simp
    · exact ((Step.refl h [q] (by simpa using hql)).put (by simp) _).trans st
theorem high_spec {h : Hp} (n s : Nat) (hn : n < 18446744073709551616) (hs : s ≤ 8) : ACalls prog w0 n_dedupref07_high [.int .u64 n, .int .i64 s] h fun v h' => ∃ S', GV w0 h' 1 v s (bvs (be s n)) S' ∧ Step h h' [] S' := by
  refine ACalls.of_fit (by simp) fun f => c_dedupref07_high (by simp) ?_
  simp only [s_dedupref07_high, mkA_nat]
  refine ⟨Nat.le_refl _, by omega, by omega, s + 1, ?_⟩
  have := high_loop (w0 := w0) (q := h.next) (n0 := n) (s := s) (K := fun y5 => retA [y5] fun v h' => ∃ S', GV w0 h' 1 v s (bvs (be s n)) S' ∧ Step h h' [] S') f.base hn hs s 0 (h.new (zerosL [Value.int IntKind.u8 0] s) 1) (by omega) (by simp) (by simp [zerosL_single, be]) (fun h' hb' st => by
    simp only [retA_iff, oneOf_one]
    refine ⟨by simp, [h.next], .inr ⟨h.next, rfl, rfl, f.base, by have := st.next; simp at this; omega, hb', by simp, by show s < 18446744073709551616; omega⟩, ?_⟩
    exact ((Step.refl h [] (by simp)).new _ _).trans st)
  simpa using this
/-- A slice of bytes of one's own as the same type. -/
theorem sl2sl_gv {h : Hp} {x : Value} {l : List UInt8} {S : List Nat} {K : Kont} (v : GV w0 h 1 x l.length (bvs l) S) (hl : 0 < l.length) (hk : K x h) : sl2slA w0 x K h := by
  rcases v with (⟨-, e, -⟩ | ⟨q, rfl, -, a, b, c, -, e⟩) | ⟨q, rfl, -, a, b, c, e, -⟩
  · omega
  · exact ⟨q, 0, _, _, _, rfl, hl, a, c, by simpa using hl, hk⟩
  · exact ⟨q, 0, _, _, _, rfl, hl, a, c, by simpa using hl, hk⟩
theorem Bytes_spec {h : Hp} {size gen i : Nat} {r : List UInt8} {a : Option Addr} {c : Nat} (hs : 512 ≤ size ∧ size ≤ 4096) (hg : gen < 18446744073709551616) (hi : i < 4294967296) (hr : r.length ≤ size - 24) (src : Src w0.heap.size h 1 (.slice a r.length c) r.length (bvs r)) :
    ACalls prog w0 n_dedupref07_Bytes [.int .i64 size, .int .u64 gen, .int .i64 i, .slice a r.length c] h fun v h' => ∃ S', Vec w0 h' 1 v size (bvs (sec size gen i r)) S' ∧ Step h h' [] S' := by
  refine ACalls.of_fit (by simp) fun f => c_dedupref07_Bytes (by simp) ?_
  have hz : zerosL [(.int .u8 0 : Value)] 4 = [.int .u8 0, .int .u8 0, .int .u8 0, .int .u8 0] := rfl
  simp only [s_dedupref07_Bytes, hz, bslA_iff, fillA_one, fillA_nil, isCell_int, true_and, List.set_cons_zero, List.set_cons_succ, List.length_cons, List.length_nil, Nat.zero_add]
  refine ⟨by omega, by omega, by omega, by omega, ?_⟩
  have hm : [(.int .u8 68 : Value), .int .u8 74, .int .u8 82, .int .u8 78] = bvs [68, 74, 82, 78] := rfl
  rw [hm]
  have s0 := (Step.refl h [] (by simp)).new (bvs [68, 74, 82, 78]) 1
  have v0 : GV w0 (h.new (bvs [68, 74, 82, 78]) 1) 1 (.slice (some ⟨h.next, 0, none⟩) 4 4) 4 (bvs [68, 74, 82, 78]) [h.next] := GV.new f.base (by simp) (by decide)
  refine sl2sl_gv (l := [68, 74, 82, 78]) v0 (by simp) ?_
  refine callA_of (high_spec gen 8 hg (by omega)) fun v h1 ⟨S1, g1, s1⟩ f1 => ?_
  have v1 := v0.frame s1 (by simp)
  obtain ⟨a1, c1, rfl⟩ := g1.slice
  refine appA_gv f1.base v1 (m := 8) (by simp) g1.src (by simp) (by omega) (by omega) (by omega) fun x2 h2 S2 v2 s2 => ?_
  have e1 : IntKind.u64.wrap (i : Int) = i := IntWalk.u64_in _ (by omega)
  simp only [lenSl_slice, lenStr_string, str_size, fpureA_some, fnilA_ptr, faddA_ptr, addr_add, Nat.zero_add, Nat.add_zero, fpureQ_k, fpureQ_nilA, fpureQ_addA, fpureQ_pureA, fpureQ_guardA, fpureQ_idxSlA, fpureQ_pickA, freadQ_loadA, freadQ_loadNA, freadQ_b2sA, freadQ_guardA, freadQ_slSlA, freadQ_k, fendA, fallA_one, fstillA_nil, fguardA_tt, fguardA_ff, fguardA_tf, fguardA_ft, fguardA_undef, fpickA_true, fpickA_false, fcondA_true, fcondA_false, binA_add, binA_sub, binA_mul, binA_eql, binA_neq, binA_lss, binA_leq, binA_gtr, binA_geq, unA_not, Bool.not_true, Bool.not_false, convA_int, extA_tuple, List.getElem?_toArray, List.getElem?_cons_zero, List.getElem?_cons_succ, e1]
  refine callA_of (high_spec i 4 (by omega) (by omega)) fun v h3 ⟨S3, g3, s3⟩ f3 => ?_
  have v3 := v2.frame s3 (by simp)
  obtain ⟨a3, c3, rfl⟩ := g3.slice
  refine appA_gv f3.base v3 (m := 4) (by simp) g3.src (by simp) (by omega) (by omega) (by omega) fun x4 h4 S4 v4 s4 => ?_
  have e2 : IntKind.u64.wrap (r.length : Int) = r.length := IntWalk.u64_in _ (by omega)
  simp only [lenSl_slice, lenStr_string, str_size, fpureA_some, fnilA_ptr, faddA_ptr, addr_add, Nat.zero_add, Nat.add_zero, fpureQ_k, fpureQ_nilA, fpureQ_addA, fpureQ_pureA, fpureQ_guardA, fpureQ_idxSlA, fpureQ_pickA, freadQ_loadA, freadQ_loadNA, freadQ_b2sA, freadQ_guardA, freadQ_slSlA, freadQ_k, fendA, fallA_one, fstillA_nil, fguardA_tt, fguardA_ff, fguardA_tf, fguardA_ft, fguardA_undef, fpickA_true, fpickA_false, fcondA_true, fcondA_false, binA_add, binA_sub, binA_mul, binA_eql, binA_neq, binA_lss, binA_leq, binA_gtr, binA_geq, unA_not, Bool.not_true, Bool.not_false, convA_int, extA_tuple, List.getElem?_toArray, List.getElem?_cons_zero, List.getElem?_cons_succ, e2]
  refine callA_of (high_spec r.length 4 (by omega) (by omega)) fun v h5 ⟨S5, g5, s5⟩ f5 => ?_
  have v5 := v4.frame s5 (by simp)
  obtain ⟨a5, c5, rfl⟩ := g5.slice
  refine appA_gv f5.base v5 (m := 4) (by simp) g5.src (by simp) (by omega) (by omega) (by omega) fun x6 h6 S6 v6 s6 => ?_
  have hb6 : (bvs [68, 74, 82, 78] ++ bvs (be 8 gen) ++ bvs (be 4 i) ++ bvs (be 4 r.length)) = bvs (sec0 gen i r.length) := by simp [sec0]
  rw [hb6] at v6
  -- what is owned from the beginning on
  have st2 : Step h h2 [] S2 := ((s0.trans (s1.wide (T := [h.next]) (T' := [h.next]) (by simp) (fun b hb => .inr ⟨hb, by simp at hb; subst hb; simp⟩))).trans s2)
  have st4 : Step h h4 [] S4 := ((st2.trans (s3.wide (T := S2) (T' := S2) (by simp) (fun b hb => .inr ⟨hb, (v2.lt b hb).2⟩))).trans s4)
  have st6 : Step h h6 [] S6 := ((st4.trans (s5.wide (T := S4) (T' := S4) (by simp) (fun b hb => .inr ⟨hb, (v4.lt b hb).2⟩))).trans s6)
  have hS6 : ∀ b, b ∈ S6 → h.next ≤ b := fun b hb => by
    rcases (st6.own b hb).2 with e | e
    · simp at e
    · exact e
  have e3 : IntKind.i64.wrap ((size : Int) - 24) = ((size - 24 : Nat) : Int) := by rw [IntWalk.i64_in _ (by omega)]; omega
  simp only [lenSl_slice, lenStr_string, str_size, fpureA_some, fnilA_ptr, faddA_ptr, addr_add, Nat.zero_add, Nat.add_zero, fpureQ_k, fpureQ_nilA, fpureQ_addA, fpureQ_pureA, fpureQ_guardA, fpureQ_idxSlA, fpureQ_pickA, freadQ_loadA, freadQ_loadNA, freadQ_b2sA, freadQ_guardA, freadQ_slSlA, freadQ_k, fendA, fallA_one, fstillA_nil, fguardA_tt, fguardA_ff, fguardA_tf, fguardA_ft, fguardA_undef, fpickA_true, fpickA_false, fcondA_true, fcondA_false, binA_add, binA_sub, binA_mul, binA_eql, binA_neq, binA_lss, binA_leq, binA_gtr, binA_geq, unA_not, Bool.not_true, Bool.not_false, convA_int, extA_tuple, List.getElem?_toArray, List.getElem?_cons_zero, List.getElem?_cons_succ, e3, mkA_nat, zeros_bvs]
  refine ⟨Nat.le_refl _, by omega, by omega, ?_⟩
  have hrl : (secR size r).length = size - 24 := secR_length hr
  have sn := (Step.refl h6 [] (by simp)).new (bvs (List.replicate (size - 24) 0)) 1
  have hB6 : w0.heap.size ≤ h6.next := by have := f.base; have := st6.next; omega
  have st7 : Step h (h6.new (bvs (List.replicate (size - 24) 0)) 1) [] [] := (st6.new _ _).less (by simp)
  refine copy_spec hr hB6 (by simp) (src.step f st7 (by simp)) (fun n h7 hb7 s7 => ?_) (by simp)
  have v7 := (v6.frame sn (by simp)).frame s7 (by intro b hb; have := (v6.lt b hb).2; simp; omega)
  have sR : Src w0.heap.size h7 1 (.slice (some ⟨h6.next, 0, none⟩) (size - 24) (size - 24)) (size - 24) (bvs (secR size r)) := src_whole hB6 hb7 (by simp [hrl])
  obtain ⟨a6, c6, rfl⟩ := v6.slice
  have h67 : h6.next < h7.next := by have := s7.next; simp at this; omega
  have hl20 : (sec0 gen i r.length).length = 20 := by simp
  simp only [bslA_iff, fillA_nil]
  -- b again, into bytes of its own
  have sx := (Step.refl h7 [] (by simp)).new (zerosL [(.int .u8 0 : Value)] 0) 1
  have vx : GV w0 (h7.new (zerosL [(.int .u8 0 : Value)] 0) 1) 1 (.slice (some ⟨h7.next, 0, none⟩) 0 0) 0 [] [h7.next] := .inr ⟨h7.next, rfl, rfl, by omega, by simp, by simp [zerosL], rfl, by decide⟩
  have v7x := v7.frame sx (by simp)
  refine appA_gv (m := 20) (by simp; omega) vx (by simp) v7x.src (by simp) (by omega) (by omega) (by omega) fun x8 h8 S8 v8 s8 => ?_
  rw [List.nil_append] at v8
  have s78 : Step h7 h8 [] S8 := sx.trans s8
  have hS8 : ∀ b, b ∈ S8 → h7.next ≤ b := fun b hb => by
    rcases (s78.own b hb).2 with e | e
    · simp at e
    · exact e
  have hb8 := (s78.keep h6.next h67 (by simp)).1.trans hb7
  have sR8 : Src w0.heap.size h8 1 (.slice (some ⟨h6.next, 0, none⟩) (size - 24) (size - 24)) (size - 24) (bvs (secR size r)) := src_whole hB6 hb8 (by simp [hrl])
  refine appA_gv (m := size - 24) (by have := s78.next; omega) v8 (by simp) sR8 (by simp [hrl]) (by omega) (by omega) (by omega) fun x9 h9 S9 v9 s9 => ?_
  have s79 : Step h7 h9 [] S9 := s78.trans s9
  obtain ⟨a9, c9, rfl⟩ := v9.slice
  have hl9 : (sec0 gen i r.length ++ secR size r).length = 0 + 20 + (size - 24) := by simp [hrl]
  have src9 := v9.src
  rw [← bvs_append] at src9
  refine b2sA_of src9 ?_
  refine callA_of (rCrc_spec _ (by omega)) fun v h10 ⟨e, e10⟩ f10 => ?_
  subst e e10
  have hc := crcOf_lt (sec0 gen i r.length ++ secR size r)
  have e4 : IntKind.u64.wrap ((crcOf (sec0 gen i r.length ++ secR size r) : Nat) : Int) = (crcOf (sec0 gen i r.length ++ secR size r) : Nat) := IntWalk.u64_in _ (by omega)
  simp only [lenSl_slice, lenStr_string, str_size, fpureA_some, fnilA_ptr, faddA_ptr, addr_add, Nat.zero_add, Nat.add_zero, fpureQ_k, fpureQ_nilA, fpureQ_addA, fpureQ_pureA, fpureQ_guardA, fpureQ_idxSlA, fpureQ_pickA, freadQ_loadA, freadQ_loadNA, freadQ_b2sA, freadQ_guardA, freadQ_slSlA, freadQ_k, fendA, fallA_one, fstillA_nil, fguardA_tt, fguardA_ff, fguardA_tf, fguardA_ft, fguardA_undef, fpickA_true, fpickA_false, fcondA_true, fcondA_false, binA_add, binA_sub, binA_mul, binA_eql, binA_neq, binA_lss, binA_leq, binA_gtr, binA_geq, unA_not, Bool.not_true, Bool.not_false, convA_int, extA_tuple, List.getElem?_toArray, List.getElem?_cons_zero, List.getElem?_cons_succ, e4]
  refine callA_of (high_spec _ 4 (by omega) (by omega)) fun v h11 ⟨S11, g11, s11⟩ f11 => ?_
  have s7_11 : Step h7 h11 [] [] := (s79.less (T := []) (by simp)).trans (s11.less (by simp))
  have v11 := v7.frame s7_11 (by simp)
  obtain ⟨a11, c11, rfl⟩ := g11.slice
  refine appA_gv f11.base v11 (m := 4) (by simp) g11.src (by simp) (by omega) (by omega) (by omega) fun x12 h12 S12 v12 s12 => ?_
  have hb12 := (s12.keep h6.next (by have := s7_11.next; omega) (fun e => by have := (v6.lt _ e).2; omega)).1.trans ((s7_11.keep h6.next h67 (by simp)).1.trans hb7)
  have sR12 : Src w0.heap.size h12 1 (.slice (some ⟨h6.next, 0, none⟩) (size - 24) (size - 24)) (size - 24) (bvs (secR size r)) := src_whole hB6 hb12 (by simp [hrl])
  refine appA_gv_pos (m := size - 24) (by have := s12.next; have := f11.base; omega) v12 (by omega) (by simp) sR12 (by simp [hrl]) (by omega) (by omega) (by omega) fun x13 h13 S13 v13 s13 => ?_
  obtain ⟨a13, c13, rfl⟩ := v13.slice
  simp only [retA_iff, oneOf_one]
  refine ⟨by simp, S13, ?_, ?_⟩
  · have hn13 : 4 + 8 + 4 + 4 + 4 + (size - 24) = size := by omega
    rw [hn13] at v13 ⊢
    simpa [sec] using v13
  · have sA : Step h h7 [] (h6.next :: S6) := (st6.new _ _).trans (s7.wide (fun b hb => by simp at hb; simp [hb]) (fun b hb => by
      rcases List.mem_cons.1 hb with rfl | hb
      · exact .inl (by simp)
      · exact .inr ⟨by simp [hb], by have := (v6.lt b hb).2; simp; omega⟩))
    have sB := (sA.less (T := S6) (fun b hb => by simp [hb])).trans (s7_11.wide (T := S6) (T' := S6) (by simp) (fun b hb => .inr ⟨hb, (v7.lt b hb).2⟩))
    exact (sB.trans s12).trans s13
end
end Go.Proofs.Ytiakadkooclelaa.Ah
