/- Shapes and superblocks: which there may be, areas, kinds, of both. -/
import Derived.Test.YtihebhdgjnibfaaAh27
import Derived.Test.YtihebhdgjnibfaaGlayout
import Derived.Test.YtihebhdgjnibfaaGref04
set_option linter.unusedVariables false
set_option linter.unusedSimpArgs false
namespace Go.Proofs.Ytihebhdgjnibfaa.Ah
open Go

def i64R (n : Int) : Prop := -9223372036854775808 ≤ n ∧ n ≤ 9223372036854775807
/-- A power of two between two. -/
def pow2 (lo hi n : Int) : Bool := decide (lo ≤ n) && decide (n ≤ hi) && ((n.toNat &&& (n.toNat - 1)) == 0)
def nsizes : List Nat := [16, 32, 64, 128, 256, 512, 1024, 2048, 4096, 8192, 16384, 32768, 65536]
theorem bit_at {m k : Nat} (h1 : 2 ^ k ≤ m) (h2 : m < 2 * 2 ^ k) : m.testBit k = true := by
  rw [Nat.testBit_eq_decide_div_mod_eq]
  have : m / 2 ^ k = 1 := by
    apply Nat.div_eq_of_lt_le
    · omega
    · omega
  rw [this]; rfl
theorem and_ne {n : Nat} (k p : Nat) (hp : p = 2 ^ k) (h1 : p < n) (h2 : n < 2 * p) : (n &&& (n - 1)) ≠ 0 := by
  subst hp
  intro h
  have := congrArg (·.testBit k) h
  simp only [Nat.testBit_and, bit_at (m := n) (k := k) (by omega) (by omega), bit_at (m := n - 1) (k := k) (by omega) (by omega), Nat.zero_testBit] at this
  simp at this
theorem pow_nat {n : Nat} (h1 : 16 ≤ n) (h2 : n ≤ 65536) : ((n &&& (n - 1)) == 0) = nsizes.contains n := by
  by_cases hk : n ∈ nsizes
  · simp only [nsizes, List.mem_cons, List.not_mem_nil, or_false] at hk
    rcases hk with rfl | rfl | rfl | rfl | rfl | rfl | rfl | rfl | rfl | rfl | rfl | rfl | rfl <;> rfl
  · have hc : nsizes.contains n = false := by simpa using hk
    rw [hc, beq_eq_false_iff_ne]
    simp only [nsizes, List.mem_cons, List.not_mem_nil, or_false, not_or] at hk
    obtain ⟨a1, a2, a3, a4, a5, a6, a7, a8, a9, a10, a11, a12, a13⟩ := hk
    by_cases b1 : n < 32
    · exact and_ne 4 16 rfl (by omega) (by omega)
    by_cases b2 : n < 64
    · exact and_ne 5 32 rfl (by omega) (by omega)
    by_cases b3 : n < 128
    · exact and_ne 6 64 rfl (by omega) (by omega)
    by_cases b4 : n < 256
    · exact and_ne 7 128 rfl (by omega) (by omega)
    by_cases b5 : n < 512
    · exact and_ne 8 256 rfl (by omega) (by omega)
    by_cases b6 : n < 1024
    · exact and_ne 9 512 rfl (by omega) (by omega)
    by_cases b7 : n < 2048
    · exact and_ne 10 1024 rfl (by omega) (by omega)
    by_cases b8 : n < 4096
    · exact and_ne 11 2048 rfl (by omega) (by omega)
    by_cases b9 : n < 8192
    · exact and_ne 12 4096 rfl (by omega) (by omega)
    by_cases b10 : n < 16384
    · exact and_ne 13 8192 rfl (by omega) (by omega)
    by_cases b11 : n < 32768
    · exact and_ne 14 16384 rfl (by omega) (by omega)
    · exact and_ne 15 32768 rfl (by omega) (by omega)
theorem pow2_range {lo hi n : Int} (h : pow2 lo hi n = true) : lo ≤ n ∧ n ≤ hi := by
  simp only [pow2, Bool.and_eq_true, decide_eq_true_eq] at h
  exact h.1
/-- A shape. -/
structure Shp where
  sec : Int
  tot : Int
  jou : Int
  pck : Int
  mn : Int
  nm : Int
  mx : Int
  seed : Int
  bits : Int
  dd : Bool
def Shp.e (s : Shp) : List Value := [.int .i64 s.sec, .int .i64 s.tot, .int .i64 s.jou, .int .i64 s.pck, .int .i64 s.mn, .int .i64 s.nm, .int .i64 s.mx, .int .u64 s.seed, .int .i64 s.bits, .bool s.dd]
def Shp.v (s : Shp) : Value := .agg s.e.toArray
structure Shp.In (s : Shp) : Prop where
  sec : i64R s.sec
  tot : i64R s.tot
  jou : i64R s.jou
  pck : i64R s.pck
  mn : i64R s.mn
  nm : i64R s.nm
  mx : i64R s.mx
  seed : 0 ≤ s.seed ∧ s.seed ≤ 18446744073709551615
  bits : i64R s.bits
/-- It may be. -/
structure Shp.Good (s : Shp) : Prop where
  sec : pow2 512 4096 s.sec = true
  tot : 16 ≤ s.tot ∧ s.tot ≤ 4096
  jou : 2 ≤ s.jou ∧ s.jou ≤ s.tot / 4
  pck : 2 ≤ s.pck ∧ s.pck ≤ 64
  bits : 0 ≤ s.bits ∧ s.bits ≤ 256
  nm : pow2 16 65536 s.nm = true
  mn : 1 ≤ s.mn ∧ s.mn ≤ s.nm
  mx : s.nm ≤ s.mx ∧ s.mx ≤ 8 * s.nm ∧ s.mx ≤ s.pck * s.sec - 40
def Shp.good (s : Shp) : Bool :=
  pow2 512 4096 s.sec && (decide (16 ≤ s.tot) && decide (s.tot ≤ 4096)) && (decide (2 ≤ s.jou) && decide (s.jou ≤ s.tot / 4)) && (decide (2 ≤ s.pck) && decide (s.pck ≤ 64)) && (decide (0 ≤ s.bits) && decide (s.bits ≤ 256)) &&
    pow2 16 65536 s.nm && (decide (1 ≤ s.mn) && decide (s.mn ≤ s.nm)) && (decide (s.nm ≤ s.mx) && (decide (s.mx ≤ 8 * s.nm) && decide (s.mx ≤ s.pck * s.sec - 40)))
theorem Shp.good_iff (s : Shp) : s.good = true ↔ s.Good := by
  simp only [Shp.good, Bool.and_eq_true, decide_eq_true_eq]
  constructor
  · rintro ⟨⟨⟨⟨⟨⟨⟨h1, h2⟩, h3⟩, h4⟩, h5⟩, h6⟩, h7⟩, h8⟩
    exact ⟨h1, h2, h3, h4, h5, h6, h7, h8⟩
  · rintro ⟨h1, h2, h3, h4, h5, h6, h7, h8⟩
    exact ⟨⟨⟨⟨⟨⟨⟨h1, h2⟩, h3⟩, h4⟩, h5⟩, h6⟩, h7⟩, h8⟩
theorem Shp.bad {s : Shp} (h : ¬ s.Good) : s.good = false := by
  cases e : s.good with
  | false => rfl
  | true => exact absurd (s.good_iff.1 e) h
theorem Shp.Good.prod {s : Shp} (g : s.Good) : 1024 ≤ s.pck * s.sec ∧ s.pck * s.sec ≤ 262144 := by
  have h1 := pow2_range g.sec
  have h2 := g.pck
  have a := Int.mul_le_mul h2.2 h1.2 (by omega) (by omega)
  have b := Int.mul_le_mul h2.1 h1.1 (by omega) (by omega)
  omega
section
variable {w0 : World} {h : Hp}
theorem lpower_spec (n lo hi : Int) (hlo : 1 ≤ lo) (hhi : hi ≤ 65536) (hn : i64R n) : ACalls prog w0 n_layout_power [.int .i64 n, .int .i64 lo, .int .i64 hi] h fun v h' => v = .bool (pow2 lo hi n) ∧ h' = h := by
  refine ACalls.of_fit (by simp) fun f => c_layout_power (by simp) ?_
  simp only [s_layout_power, lenSl_slice, lenStr_string, str_size, fpureA_some, fnilA_ptr, faddA_ptr, addr_add, Nat.zero_add, Nat.add_zero, fpureQ_k, fpureQ_nilA, fpureQ_addA, fpureQ_pureA, fpureQ_guardA, fpureQ_idxSlA, fpureQ_pickA, freadQ_loadA, freadQ_loadNA, freadQ_b2sA, freadQ_guardA, freadQ_slSlA, freadQ_k, fendA, fallA_one, fstillA_nil, fguardA_tt, fguardA_ff, fguardA_tf, fguardA_ft, fguardA_undef, fpickA_true, fpickA_false, fcondA_true, fcondA_false, binA_add, binA_sub, binA_mul, binA_eql, binA_neq, binA_lss, binA_leq, binA_gtr, binA_geq, unA_not, Bool.not_true, Bool.not_false, convA_int, extA_tuple, List.getElem?_toArray, List.getElem?_cons_zero, List.getElem?_cons_succ]
  by_cases h1 : lo ≤ n
  · have c1 : decide (lo ≤ n) = true := decide_eq_true h1
    simp only [lenSl_slice, lenStr_string, str_size, fpureA_some, fnilA_ptr, faddA_ptr, addr_add, Nat.zero_add, Nat.add_zero, fpureQ_k, fpureQ_nilA, fpureQ_addA, fpureQ_pureA, fpureQ_guardA, fpureQ_idxSlA, fpureQ_pickA, freadQ_loadA, freadQ_loadNA, freadQ_b2sA, freadQ_guardA, freadQ_slSlA, freadQ_k, fendA, fallA_one, fstillA_nil, fguardA_tt, fguardA_ff, fguardA_tf, fguardA_ft, fguardA_undef, fpickA_true, fpickA_false, fcondA_true, fcondA_false, binA_add, binA_sub, binA_mul, binA_eql, binA_neq, binA_lss, binA_leq, binA_gtr, binA_geq, unA_not, Bool.not_true, Bool.not_false, convA_int, extA_tuple, List.getElem?_toArray, List.getElem?_cons_zero, List.getElem?_cons_succ, c1]
    by_cases h2 : n ≤ hi
    · have c2 : decide (n ≤ hi) = true := decide_eq_true h2
      obtain ⟨k, rfl⟩ := Int.eq_ofNat_of_zero_le (show 0 ≤ n by omega)
      have e1 : IntKind.i64.wrap ((k : Int) - 1) = ((k - 1 : Nat) : Int) := by rw [IntWalk.i64_in _ (by omega)]; omega
      have hlt : k &&& (k - 1) ≤ k := Nat.and_le_left
      have e2 : binA .and (.int .i64 (k : Int)) (.int .i64 ((k - 1 : Nat) : Int)) = some (.int .i64 ((k &&& (k - 1) : Nat) : Int)) := by
        rw [binA_and, Nat.mod_eq_of_lt (by simp only [IntKind.bits]; omega), IntWalk.i64_in _ (by omega)]
      have e3 : (((k &&& (k - 1) : Nat) : Int) == 0) = pow2 lo hi (k : Int) := by
        simp only [pow2, c1, c2, Bool.true_and, Int.toNat_natCast]
        by_cases hz : k &&& (k - 1) = 0
        · rw [hz]; rfl
        · have : ((k &&& (k - 1) : Nat) : Int) ≠ 0 := by omega
          rw [beq_eq_false_iff_ne.2 this, beq_eq_false_iff_ne.2 hz]
      simp only [lenSl_slice, lenStr_string, str_size, fpureA_some, fnilA_ptr, faddA_ptr, addr_add, Nat.zero_add, Nat.add_zero, fpureQ_k, fpureQ_nilA, fpureQ_addA, fpureQ_pureA, fpureQ_guardA, fpureQ_idxSlA, fpureQ_pickA, freadQ_loadA, freadQ_loadNA, freadQ_b2sA, freadQ_guardA, freadQ_slSlA, freadQ_k, fendA, fallA_one, fstillA_nil, fguardA_tt, fguardA_ff, fguardA_tf, fguardA_ft, fguardA_undef, fpickA_true, fpickA_false, fcondA_true, fcondA_false, binA_add, binA_sub, binA_mul, binA_eql, binA_neq, binA_lss, binA_leq, binA_gtr, binA_geq, unA_not, Bool.not_true, Bool.not_false, convA_int, extA_tuple, List.getElem?_toArray, List.getElem?_cons_zero, List.getElem?_cons_succ, c2, e1, e2, e3, retA_iff, oneOf_one]
      simp
    · have c2 : decide (n ≤ hi) = false := decide_eq_false h2
      simp only [lenSl_slice, lenStr_string, str_size, fpureA_some, fnilA_ptr, faddA_ptr, addr_add, Nat.zero_add, Nat.add_zero, fpureQ_k, fpureQ_nilA, fpureQ_addA, fpureQ_pureA, fpureQ_guardA, fpureQ_idxSlA, fpureQ_pickA, freadQ_loadA, freadQ_loadNA, freadQ_b2sA, freadQ_guardA, freadQ_slSlA, freadQ_k, fendA, fallA_one, fstillA_nil, fguardA_tt, fguardA_ff, fguardA_tf, fguardA_ft, fguardA_undef, fpickA_true, fpickA_false, fcondA_true, fcondA_false, binA_add, binA_sub, binA_mul, binA_eql, binA_neq, binA_lss, binA_leq, binA_gtr, binA_geq, unA_not, Bool.not_true, Bool.not_false, convA_int, extA_tuple, List.getElem?_toArray, List.getElem?_cons_zero, List.getElem?_cons_succ, c2, retA_iff, oneOf_one]
      simp [pow2, c2]
  · have c1 : decide (lo ≤ n) = false := decide_eq_false h1
    simp only [lenSl_slice, lenStr_string, str_size, fpureA_some, fnilA_ptr, faddA_ptr, addr_add, Nat.zero_add, Nat.add_zero, fpureQ_k, fpureQ_nilA, fpureQ_addA, fpureQ_pureA, fpureQ_guardA, fpureQ_idxSlA, fpureQ_pickA, freadQ_loadA, freadQ_loadNA, freadQ_b2sA, freadQ_guardA, freadQ_slSlA, freadQ_k, fendA, fallA_one, fstillA_nil, fguardA_tt, fguardA_ff, fguardA_tf, fguardA_ft, fguardA_undef, fpickA_true, fpickA_false, fcondA_true, fcondA_false, binA_add, binA_sub, binA_mul, binA_eql, binA_neq, binA_lss, binA_leq, binA_gtr, binA_geq, unA_not, Bool.not_true, Bool.not_false, convA_int, extA_tuple, List.getElem?_toArray, List.getElem?_cons_zero, List.getElem?_cons_succ, c1, retA_iff, oneOf_one]
    simp [pow2, c1]
theorem within_spec (n lo hi : Int) : ACalls prog w0 n_layout_within [.int .i64 n, .int .i64 lo, .int .i64 hi] h fun v h' => v = .bool (decide (lo ≤ n) && decide (n ≤ hi)) ∧ h' = h := by
  refine ACalls.of_fit (by simp) fun f => c_layout_within (by simp) ?_
  simp only [s_layout_within, lenSl_slice, lenStr_string, str_size, fpureA_some, fnilA_ptr, faddA_ptr, addr_add, Nat.zero_add, Nat.add_zero, fpureQ_k, fpureQ_nilA, fpureQ_addA, fpureQ_pureA, fpureQ_guardA, fpureQ_idxSlA, fpureQ_pickA, freadQ_loadA, freadQ_loadNA, freadQ_b2sA, freadQ_guardA, freadQ_slSlA, freadQ_k, fendA, fallA_one, fstillA_nil, fguardA_tt, fguardA_ff, fguardA_tf, fguardA_ft, fguardA_undef, fpickA_true, fpickA_false, fcondA_true, fcondA_false, binA_add, binA_sub, binA_mul, binA_eql, binA_neq, binA_lss, binA_leq, binA_gtr, binA_geq, unA_not, Bool.not_true, Bool.not_false, convA_int, extA_tuple, List.getElem?_toArray, List.getElem?_cons_zero, List.getElem?_cons_succ]
  cases decide (lo ≤ n) with
  | false => simp only [lenSl_slice, lenStr_string, str_size, fpureA_some, fnilA_ptr, faddA_ptr, addr_add, Nat.zero_add, Nat.add_zero, fpureQ_k, fpureQ_nilA, fpureQ_addA, fpureQ_pureA, fpureQ_guardA, fpureQ_idxSlA, fpureQ_pickA, freadQ_loadA, freadQ_loadNA, freadQ_b2sA, freadQ_guardA, freadQ_slSlA, freadQ_k, fendA, fallA_one, fstillA_nil, fguardA_tt, fguardA_ff, fguardA_tf, fguardA_ft, fguardA_undef, fpickA_true, fpickA_false, fcondA_true, fcondA_false, binA_add, binA_sub, binA_mul, binA_eql, binA_neq, binA_lss, binA_leq, binA_gtr, binA_geq, unA_not, Bool.not_true, Bool.not_false, convA_int, extA_tuple, List.getElem?_toArray, List.getElem?_cons_zero, List.getElem?_cons_succ, retA_iff, oneOf_one]; simp
  | true => simp only [lenSl_slice, lenStr_string, str_size, fpureA_some, fnilA_ptr, faddA_ptr, addr_add, Nat.zero_add, Nat.add_zero, fpureQ_k, fpureQ_nilA, fpureQ_addA, fpureQ_pureA, fpureQ_guardA, fpureQ_idxSlA, fpureQ_pickA, freadQ_loadA, freadQ_loadNA, freadQ_b2sA, freadQ_guardA, freadQ_slSlA, freadQ_k, fendA, fallA_one, fstillA_nil, fguardA_tt, fguardA_ff, fguardA_tf, fguardA_ft, fguardA_undef, fpickA_true, fpickA_false, fcondA_true, fcondA_false, binA_add, binA_sub, binA_mul, binA_eql, binA_neq, binA_lss, binA_leq, binA_gtr, binA_geq, unA_not, Bool.not_true, Bool.not_false, convA_int, extA_tuple, List.getElem?_toArray, List.getElem?_cons_zero, List.getElem?_cons_succ, retA_iff, oneOf_one]; simp
/-- The powers, one by one. -/
def pws (n hi : Int) : Nat → Int → Bool
  | 0, _ => false
  | m + 1, p => if p ≤ hi then (if n = p then true else pws n hi m (p * 2)) else false
theorem rpower_loop {k0 kr : Value → Hp → Prop} {n hi : Int} (hhi : hi ≤ 65536) : ∀ (m : Nat) (p : Int), hi < p * 2 ^ m → 1 ≤ p → p ≤ 131072 → (pws n hi m p = false → k0 (.bool false) h) → (pws n hi m p = true → kr (.bool true) h) →
    dedupref04_power_L1 prog w0 k0 kr (m + 1) (.int .i64 n) (.int .i64 hi) (.bool false) (.int .i64 p) h := by
  intro m
  induction m with
  | zero =>
    intro p hp h1 h2 hk hkr
    rw [dedupref04_power_L1]
    have c1 : decide (p ≤ hi) = false := decide_eq_false (by simp at hp; omega)
    simp only [dedupref04_power_B1, lenSl_slice, lenStr_string, str_size, fpureA_some, fnilA_ptr, faddA_ptr, addr_add, Nat.zero_add, Nat.add_zero, fpureQ_k, fpureQ_nilA, fpureQ_addA, fpureQ_pureA, fpureQ_guardA, fpureQ_idxSlA, fpureQ_pickA, freadQ_loadA, freadQ_loadNA, freadQ_b2sA, freadQ_guardA, freadQ_slSlA, freadQ_k, fendA, fallA_one, fstillA_nil, fguardA_tt, fguardA_ff, fguardA_tf, fguardA_ft, fguardA_undef, fpickA_true, fpickA_false, fcondA_true, fcondA_false, binA_add, binA_sub, binA_mul, binA_eql, binA_neq, binA_lss, binA_leq, binA_gtr, binA_geq, unA_not, Bool.not_true, Bool.not_false, convA_int, extA_tuple, List.getElem?_toArray, List.getElem?_cons_zero, List.getElem?_cons_succ, c1]
    exact hk rfl
  | succ m ih =>
    intro p hp h1 h2 hk hkr
    rw [dedupref04_power_L1]
    by_cases hpi : p ≤ hi
    · have c1 : decide (p ≤ hi) = true := decide_eq_true hpi
      simp only [dedupref04_power_B1, lenSl_slice, lenStr_string, str_size, fpureA_some, fnilA_ptr, faddA_ptr, addr_add, Nat.zero_add, Nat.add_zero, fpureQ_k, fpureQ_nilA, fpureQ_addA, fpureQ_pureA, fpureQ_guardA, fpureQ_idxSlA, fpureQ_pickA, freadQ_loadA, freadQ_loadNA, freadQ_b2sA, freadQ_guardA, freadQ_slSlA, freadQ_k, fendA, fallA_one, fstillA_nil, fguardA_tt, fguardA_ff, fguardA_tf, fguardA_ft, fguardA_undef, fpickA_true, fpickA_false, fcondA_true, fcondA_false, binA_add, binA_sub, binA_mul, binA_eql, binA_neq, binA_lss, binA_leq, binA_gtr, binA_geq, unA_not, Bool.not_true, Bool.not_false, convA_int, extA_tuple, List.getElem?_toArray, List.getElem?_cons_zero, List.getElem?_cons_succ, c1]
      have hw : pws n hi (m + 1) p = if n = p then true else pws n hi m (p * 2) := by rw [pws, if_pos hpi]
      by_cases hn : n = p
      · have c2 : (n == p) = true := by simp [hn]
        simp only [lenSl_slice, lenStr_string, str_size, fpureA_some, fnilA_ptr, faddA_ptr, addr_add, Nat.zero_add, Nat.add_zero, fpureQ_k, fpureQ_nilA, fpureQ_addA, fpureQ_pureA, fpureQ_guardA, fpureQ_idxSlA, fpureQ_pickA, freadQ_loadA, freadQ_loadNA, freadQ_b2sA, freadQ_guardA, freadQ_slSlA, freadQ_k, fendA, fallA_one, fstillA_nil, fguardA_tt, fguardA_ff, fguardA_tf, fguardA_ft, fguardA_undef, fpickA_true, fpickA_false, fcondA_true, fcondA_false, binA_add, binA_sub, binA_mul, binA_eql, binA_neq, binA_lss, binA_leq, binA_gtr, binA_geq, unA_not, Bool.not_true, Bool.not_false, convA_int, extA_tuple, List.getElem?_toArray, List.getElem?_cons_zero, List.getElem?_cons_succ, c2]
        exact hkr (by rw [hw, if_pos hn])
      · have c2 : (n == p) = false := by simp [hn]
        have e1 : IntKind.i64.wrap (p * 2) = p * 2 := IntWalk.i64_in _ (by omega)
        simp only [lenSl_slice, lenStr_string, str_size, fpureA_some, fnilA_ptr, faddA_ptr, addr_add, Nat.zero_add, Nat.add_zero, fpureQ_k, fpureQ_nilA, fpureQ_addA, fpureQ_pureA, fpureQ_guardA, fpureQ_idxSlA, fpureQ_pickA, freadQ_loadA, freadQ_loadNA, freadQ_b2sA, freadQ_guardA, freadQ_slSlA, freadQ_k, fendA, fallA_one, fstillA_nil, fguardA_tt, fguardA_ff, fguardA_tf, fguardA_ft, fguardA_undef, fpickA_true, fpickA_false, fcondA_true, fcondA_false, binA_add, binA_sub, binA_mul, binA_eql, binA_neq, binA_lss, binA_leq, binA_gtr, binA_geq, unA_not, Bool.not_true, Bool.not_false, convA_int, extA_tuple, List.getElem?_toArray, List.getElem?_cons_zero, List.getElem?_cons_succ, c2, e1]
        refine ih (p * 2) ?_ (by omega) (by omega) (fun e => hk (by rw [hw, if_neg hn]; exact e)) (fun e => hkr (by rw [hw, if_neg hn]; exact e))
        rw [Int.pow_succ] at hp
        rw [Int.mul_assoc, Int.mul_comm 2]
        exact hp
    · have c1 : decide (p ≤ hi) = false := decide_eq_false hpi
      simp only [dedupref04_power_B1, lenSl_slice, lenStr_string, str_size, fpureA_some, fnilA_ptr, faddA_ptr, addr_add, Nat.zero_add, Nat.add_zero, fpureQ_k, fpureQ_nilA, fpureQ_addA, fpureQ_pureA, fpureQ_guardA, fpureQ_idxSlA, fpureQ_pickA, freadQ_loadA, freadQ_loadNA, freadQ_b2sA, freadQ_guardA, freadQ_slSlA, freadQ_k, fendA, fallA_one, fstillA_nil, fguardA_tt, fguardA_ff, fguardA_tf, fguardA_ft, fguardA_undef, fpickA_true, fpickA_false, fcondA_true, fcondA_false, binA_add, binA_sub, binA_mul, binA_eql, binA_neq, binA_lss, binA_leq, binA_gtr, binA_geq, unA_not, Bool.not_true, Bool.not_false, convA_int, extA_tuple, List.getElem?_toArray, List.getElem?_cons_zero, List.getElem?_cons_succ, c1]
      exact hk (by rw [pws, if_neg hpi])
theorem pws_sector (n : Int) : pws n 4096 4 512 = pow2 512 4096 n := by
  by_cases h1 : 512 ≤ n ∧ n ≤ 4096
  · obtain ⟨k, rfl⟩ := Int.eq_ofNat_of_zero_le (show 0 ≤ n by omega)
    have := pow_nat (n := k) (by omega) (by omega)
    simp only [pow2, decide_eq_true h1.1, decide_eq_true h1.2, Bool.true_and, Int.toNat_natCast, this]
    by_cases hk : k ∈ nsizes
    · simp only [nsizes, List.mem_cons, List.not_mem_nil, or_false] at hk
      rcases hk with rfl | rfl | rfl | rfl | rfl | rfl | rfl | rfl | rfl | rfl | rfl | rfl | rfl <;> first | rfl | omega
    · have hc : nsizes.contains k = false := by simpa using hk
      rw [hc]
      simp only [nsizes, List.mem_cons, List.not_mem_nil, or_false, not_or] at hk
      obtain ⟨a1, a2, a3, a4, a5, a6, a7, a8, a9, a10, a11, a12, a13⟩ := hk
      simp only [pws]
      repeat (first | rw [if_neg (by omega)] | rw [if_pos (by omega)])
  · have : pow2 512 4096 n = false := by
      cases e : pow2 512 4096 n with
      | false => rfl
      | true => exact absurd (pow2_range e) h1
    rw [this]
    simp only [pws]
    repeat (first | rw [if_neg (by omega)] | rw [if_pos (by omega)])
theorem pws_normal (n : Int) : pws n 65536 13 16 = pow2 16 65536 n := by
  by_cases h1 : 16 ≤ n ∧ n ≤ 65536
  · obtain ⟨k, rfl⟩ := Int.eq_ofNat_of_zero_le (show 0 ≤ n by omega)
    have := pow_nat (n := k) (by omega) (by omega)
    simp only [pow2, decide_eq_true h1.1, decide_eq_true h1.2, Bool.true_and, Int.toNat_natCast, this]
    by_cases hk : k ∈ nsizes
    · simp only [nsizes, List.mem_cons, List.not_mem_nil, or_false] at hk
      rcases hk with rfl | rfl | rfl | rfl | rfl | rfl | rfl | rfl | rfl | rfl | rfl | rfl | rfl <;> rfl
    · have hc : nsizes.contains k = false := by simpa using hk
      rw [hc]
      simp only [nsizes, List.mem_cons, List.not_mem_nil, or_false, not_or] at hk
      obtain ⟨a1, a2, a3, a4, a5, a6, a7, a8, a9, a10, a11, a12, a13⟩ := hk
      simp only [pws]
      repeat (first | rw [if_neg (by omega)] | rw [if_pos (by omega)])
  · have : pow2 16 65536 n = false := by
      cases e : pow2 16 65536 n with
      | false => rfl
      | true => exact absurd (pow2_range e) h1
    rw [this]
    simp only [pws]
    repeat (first | rw [if_neg (by omega)] | rw [if_pos (by omega)])
theorem rpower_sector (n : Int) : ACalls prog w0 n_dedupref04_power [.int .i64 n, .int .i64 512, .int .i64 4096] h fun v h' => v = .bool (pow2 512 4096 n) ∧ h' = h := by
  refine ACalls.of_fit (by simp) fun f => c_dedupref04_power (by simp) ?_
  rw [← pws_sector]
  refine ⟨5, rpower_loop (by omega) 4 512 (by decide) (by omega) (by omega) (fun e => ?_) (fun e => ?_)⟩
  · simp only [retA_iff, oneOf_one, e]; simp
  · simp only [retA_iff, oneOf_one, e]; simp
theorem rpower_normal (n : Int) : ACalls prog w0 n_dedupref04_power [.int .i64 n, .int .i64 16, .int .i64 65536] h fun v h' => v = .bool (pow2 16 65536 n) ∧ h' = h := by
  refine ACalls.of_fit (by simp) fun f => c_dedupref04_power (by simp) ?_
  rw [← pws_normal]
  refine ⟨14, rpower_loop (by omega) 13 16 (by decide) (by omega) (by omega) (fun e => ?_) (fun e => ?_)⟩
  · simp only [retA_iff, oneOf_one, e]; simp
  · simp only [retA_iff, oneOf_one, e]; simp
end
end Go.Proofs.Ytihebhdgjnibfaa.Ah
namespace Go.Proofs.Ytihebhdgjnibfaa.Ah
open Go

section
variable {w0 : World} {h : Hp} {K : Kont}
theorem Step.idle {h h' : Hp} {S' : List Nat} (s : Step h h' [] S') (T : List Nat) (hT : ∀ b, b ∈ T → b < h.next) : Step h h' T T := s.wide (by simp) fun b hb => .inr ⟨hb, hT b hb⟩
theorem Step.drop {h h' : Hp} {S S' : List Nat} (s : Step h h' S S') : Step h h' S [] := s.less (by simp)
/-- What is new may be written over. -/
theorem Step.after {h h1 h2 : Hp} {S S' T T' : List Nat} (s : Step h h1 S S') (t : Step h1 h2 T T') (hT : ∀ c, c ∈ T → h.next ≤ c) : Step h h2 S S' := by
  refine ⟨Nat.le_trans s.next t.next, fun c hc hn => ?_, fun c hc => ⟨Nat.lt_of_lt_of_le (s.own c hc).1 t.next, (s.own c hc).2⟩⟩
  have k1 := s.keep c hc hn
  have k2 := t.keep c (Nat.lt_of_lt_of_le hc s.next) (fun he => by have := hT c he; omega)
  exact ⟨k2.1.trans k1.1, k2.2.trans k1.2⟩
theorem Step.fresh {h h1 : Hp} {S S' : List Nat} {n : Nat} (s : Step h h1 S S') (hS : ∀ b, b ∈ S → n ≤ b) (hn : n ≤ h.next) : ∀ b, b ∈ S' → n ≤ b := fun b hb => by
  rcases (s.own b hb).2 with e | e
  · exact hS b e
  · omega
/-- A part of a block of one's own. -/
theorem loadNA_part {b o n : Nat} {cs vs : List Value} (hB : w0.heap.size ≤ b) (hb : h.blk b = some cs) (hv : (cs.drop o).take n = vs) (hl : o + n ≤ cs.length) (hk : K (.agg vs.toArray) h) : loadNA w0 (.pointer (some ⟨b, o, none⟩)) n K h := by
  rw [loadNA_own]
  exact ⟨vs, by rw [getN_eq, hb, Option.bind_some, if_pos hl, hv], fun hlt => by omega, hk⟩
theorem storeN {q o n : Nat} {cs vs : List Value} (hq : w0.heap.size ≤ q) (hb : h.blk q = some cs) (hl : o + n ≤ cs.length) (hv : vs.length = n) (hc : vs.all isCell = true) (hk : K undef (h.put q (splice cs o vs))) :
    storeNA w0 (.pointer (some ⟨q, o, none⟩)) (.agg vs.toArray) n K h :=
  ⟨q, o, cs, vs.toArray, rfl, hq, rfl, by simpa using hv, hb, hl, by simpa using hk⟩
theorem storeN0 {q n : Nat} {cs vs : List Value} (hq : w0.heap.size ≤ q) (hb : h.blk q = some cs) (hl : cs.length = n) (hv : vs.length = n) (hc : vs.all isCell = true) (hk : K undef (h.put q vs)) :
    storeNA w0 (.pointer (some ⟨q, 0, none⟩)) (.agg vs.toArray) n K h :=
  storeN hq hb (by omega) hv hc (by rw [splice_all _ _ (by omega)]; exact hk)
variable {s : Shp}
theorem Shp.junk (s : Shp) : s.v ≠ junk := by simp [Shp.v, Go.Proofs.Ytihebhdgjnibfaa.Ah.junk]
theorem right_spec (i : s.In) : ACalls prog w0 n_layout_right [s.v] h fun v h' => v = .bool s.good ∧ Step h h' [] [] := by
  refine ACalls.of_fit (by simpa using s.junk) fun f => c_layout_right (by simpa using s.junk) ?_
  simp only [s_layout_right, Shp.v, boxA_agg, List.toList_toArray, lenSl_slice, lenStr_string, str_size, fpureA_some, fnilA_ptr, faddA_ptr, addr_add, Nat.zero_add, Nat.add_zero, fpureQ_k, fpureQ_nilA, fpureQ_addA, fpureQ_pureA, fpureQ_guardA, fpureQ_idxSlA, fpureQ_pickA, freadQ_loadA, freadQ_loadNA, freadQ_b2sA, freadQ_guardA, freadQ_slSlA, freadQ_k, fendA, fallA_one, fstillA_nil, fguardA_tt, fguardA_ff, fguardA_tf, fguardA_ft, fguardA_undef, fpickA_true, fpickA_false, fcondA_true, fcondA_false, binA_add, binA_sub, binA_mul, binA_eql, binA_neq, binA_lss, binA_leq, binA_gtr, binA_geq, unA_not, Bool.not_true, Bool.not_false, convA_int, extA_tuple, List.getElem?_toArray, List.getElem?_cons_zero, List.getElem?_cons_succ]
  have s1 : Step h (h.new s.e 10) [] [] := ((Step.refl h [] (by simp)).new _ _).drop
  have hq1 : (h.new s.e 10).blk h.next = some s.e := by simp
  have hn1 : h.next < (h.new s.e 10).next := by simp
  have hB := f.base
  generalize h.new s.e 10 = h1 at s1 hq1 hn1 ⊢
  obtain ⟨is, it, ij, ip, imn, inm, imx, ise, ib⟩ := i
  refine loadA_at hB hq1 (by rfl) ?_
  refine callA_of (lpower_spec s.sec 512 4096 (by omega) (by omega) is) fun _ h2 ⟨e, e2⟩ f2 => ?_
  subst e e2
  cases g1 : pow2 512 4096 s.sec with
  | false => simp only [lenSl_slice, lenStr_string, str_size, fpureA_some, fnilA_ptr, faddA_ptr, addr_add, Nat.zero_add, Nat.add_zero, fpureQ_k, fpureQ_nilA, fpureQ_addA, fpureQ_pureA, fpureQ_guardA, fpureQ_idxSlA, fpureQ_pickA, freadQ_loadA, freadQ_loadNA, freadQ_b2sA, freadQ_guardA, freadQ_slSlA, freadQ_k, fendA, fallA_one, fstillA_nil, fguardA_tt, fguardA_ff, fguardA_tf, fguardA_ft, fguardA_undef, fpickA_true, fpickA_false, fcondA_true, fcondA_false, binA_add, binA_sub, binA_mul, binA_eql, binA_neq, binA_lss, binA_leq, binA_gtr, binA_geq, unA_not, Bool.not_true, Bool.not_false, convA_int, extA_tuple, List.getElem?_toArray, List.getElem?_cons_zero, List.getElem?_cons_succ, retA_iff, oneOf_one]; exact ⟨by simp, by simp [Shp.good, g1], s1⟩
  | true =>
  simp only [lenSl_slice, lenStr_string, str_size, fpureA_some, fnilA_ptr, faddA_ptr, addr_add, Nat.zero_add, Nat.add_zero, fpureQ_k, fpureQ_nilA, fpureQ_addA, fpureQ_pureA, fpureQ_guardA, fpureQ_idxSlA, fpureQ_pickA, freadQ_loadA, freadQ_loadNA, freadQ_b2sA, freadQ_guardA, freadQ_slSlA, freadQ_k, fendA, fallA_one, fstillA_nil, fguardA_tt, fguardA_ff, fguardA_tf, fguardA_ft, fguardA_undef, fpickA_true, fpickA_false, fcondA_true, fcondA_false, binA_add, binA_sub, binA_mul, binA_eql, binA_neq, binA_lss, binA_leq, binA_gtr, binA_geq, unA_not, Bool.not_true, Bool.not_false, convA_int, extA_tuple, List.getElem?_toArray, List.getElem?_cons_zero, List.getElem?_cons_succ]
  refine loadA_at hB hq1 (by rfl) ?_
  refine callA_of (within_spec s.tot 16 4096) fun _ h2 ⟨e, e2⟩ f2 => ?_
  subst e e2
  cases g2 : (decide (16 ≤ s.tot) && decide (s.tot ≤ 4096)) with
  | false => simp only [lenSl_slice, lenStr_string, str_size, fpureA_some, fnilA_ptr, faddA_ptr, addr_add, Nat.zero_add, Nat.add_zero, fpureQ_k, fpureQ_nilA, fpureQ_addA, fpureQ_pureA, fpureQ_guardA, fpureQ_idxSlA, fpureQ_pickA, freadQ_loadA, freadQ_loadNA, freadQ_b2sA, freadQ_guardA, freadQ_slSlA, freadQ_k, fendA, fallA_one, fstillA_nil, fguardA_tt, fguardA_ff, fguardA_tf, fguardA_ft, fguardA_undef, fpickA_true, fpickA_false, fcondA_true, fcondA_false, binA_add, binA_sub, binA_mul, binA_eql, binA_neq, binA_lss, binA_leq, binA_gtr, binA_geq, unA_not, Bool.not_true, Bool.not_false, convA_int, extA_tuple, List.getElem?_toArray, List.getElem?_cons_zero, List.getElem?_cons_succ, retA_iff, oneOf_one]; exact ⟨by simp, by simp only [Shp.good, g1, g2]; rfl, s1⟩
  | true =>
  have r2 : 16 ≤ s.tot ∧ s.tot ≤ 4096 := by simpa using g2
  have e4 : IntKind.i64.wrap (s.tot.tdiv 4) = s.tot / 4 := by
    rw [Int.tdiv_eq_ediv_of_nonneg (by omega), IntWalk.i64_in _ (by omega)]
  simp only [lenSl_slice, lenStr_string, str_size, fpureA_some, fnilA_ptr, faddA_ptr, addr_add, Nat.zero_add, Nat.add_zero, fpureQ_k, fpureQ_nilA, fpureQ_addA, fpureQ_pureA, fpureQ_guardA, fpureQ_idxSlA, fpureQ_pickA, freadQ_loadA, freadQ_loadNA, freadQ_b2sA, freadQ_guardA, freadQ_slSlA, freadQ_k, fendA, fallA_one, fstillA_nil, fguardA_tt, fguardA_ff, fguardA_tf, fguardA_ft, fguardA_undef, fpickA_true, fpickA_false, fcondA_true, fcondA_false, binA_add, binA_sub, binA_mul, binA_eql, binA_neq, binA_lss, binA_leq, binA_gtr, binA_geq, unA_not, Bool.not_true, Bool.not_false, convA_int, extA_tuple, List.getElem?_toArray, List.getElem?_cons_zero, List.getElem?_cons_succ]
  refine loadA_at hB hq1 (by rfl) ?_
  refine loadA_at hB hq1 (by rfl) ?_
  simp only [binA_quo _ _ _ (show (4 : Int) ≠ 0 by decide), lenSl_slice, lenStr_string, str_size, fpureA_some, fnilA_ptr, faddA_ptr, addr_add, Nat.zero_add, Nat.add_zero, fpureQ_k, fpureQ_nilA, fpureQ_addA, fpureQ_pureA, fpureQ_guardA, fpureQ_idxSlA, fpureQ_pickA, freadQ_loadA, freadQ_loadNA, freadQ_b2sA, freadQ_guardA, freadQ_slSlA, freadQ_k, fendA, fallA_one, fstillA_nil, fguardA_tt, fguardA_ff, fguardA_tf, fguardA_ft, fguardA_undef, fpickA_true, fpickA_false, fcondA_true, fcondA_false, binA_add, binA_sub, binA_mul, binA_eql, binA_neq, binA_lss, binA_leq, binA_gtr, binA_geq, unA_not, Bool.not_true, Bool.not_false, convA_int, extA_tuple, List.getElem?_toArray, List.getElem?_cons_zero, List.getElem?_cons_succ, e4]
  refine callA_of (within_spec s.jou 2 (s.tot / 4)) fun _ h2 ⟨e, e2⟩ f2 => ?_
  subst e e2
  cases g3 : (decide (2 ≤ s.jou) && decide (s.jou ≤ s.tot / 4)) with
  | false => simp only [lenSl_slice, lenStr_string, str_size, fpureA_some, fnilA_ptr, faddA_ptr, addr_add, Nat.zero_add, Nat.add_zero, fpureQ_k, fpureQ_nilA, fpureQ_addA, fpureQ_pureA, fpureQ_guardA, fpureQ_idxSlA, fpureQ_pickA, freadQ_loadA, freadQ_loadNA, freadQ_b2sA, freadQ_guardA, freadQ_slSlA, freadQ_k, fendA, fallA_one, fstillA_nil, fguardA_tt, fguardA_ff, fguardA_tf, fguardA_ft, fguardA_undef, fpickA_true, fpickA_false, fcondA_true, fcondA_false, binA_add, binA_sub, binA_mul, binA_eql, binA_neq, binA_lss, binA_leq, binA_gtr, binA_geq, unA_not, Bool.not_true, Bool.not_false, convA_int, extA_tuple, List.getElem?_toArray, List.getElem?_cons_zero, List.getElem?_cons_succ, retA_iff, oneOf_one]; exact ⟨by simp, by simp only [Shp.good, g1, g2, g3]; rfl, s1⟩
  | true =>
  simp only [lenSl_slice, lenStr_string, str_size, fpureA_some, fnilA_ptr, faddA_ptr, addr_add, Nat.zero_add, Nat.add_zero, fpureQ_k, fpureQ_nilA, fpureQ_addA, fpureQ_pureA, fpureQ_guardA, fpureQ_idxSlA, fpureQ_pickA, freadQ_loadA, freadQ_loadNA, freadQ_b2sA, freadQ_guardA, freadQ_slSlA, freadQ_k, fendA, fallA_one, fstillA_nil, fguardA_tt, fguardA_ff, fguardA_tf, fguardA_ft, fguardA_undef, fpickA_true, fpickA_false, fcondA_true, fcondA_false, binA_add, binA_sub, binA_mul, binA_eql, binA_neq, binA_lss, binA_leq, binA_gtr, binA_geq, unA_not, Bool.not_true, Bool.not_false, convA_int, extA_tuple, List.getElem?_toArray, List.getElem?_cons_zero, List.getElem?_cons_succ]
  refine loadA_at hB hq1 (by rfl) ?_
  refine callA_of (within_spec s.pck 2 64) fun _ h2 ⟨e, e2⟩ f2 => ?_
  subst e e2
  cases g4 : (decide (2 ≤ s.pck) && decide (s.pck ≤ 64)) with
  | false => simp only [lenSl_slice, lenStr_string, str_size, fpureA_some, fnilA_ptr, faddA_ptr, addr_add, Nat.zero_add, Nat.add_zero, fpureQ_k, fpureQ_nilA, fpureQ_addA, fpureQ_pureA, fpureQ_guardA, fpureQ_idxSlA, fpureQ_pickA, freadQ_loadA, freadQ_loadNA, freadQ_b2sA, freadQ_guardA, freadQ_slSlA, freadQ_k, fendA, fallA_one, fstillA_nil, fguardA_tt, fguardA_ff, fguardA_tf, fguardA_ft, fguardA_undef, fpickA_true, fpickA_false, fcondA_true, fcondA_false, binA_add, binA_sub, binA_mul, binA_eql, binA_neq, binA_lss, binA_leq, binA_gtr, binA_geq, unA_not, Bool.not_true, Bool.not_false, convA_int, extA_tuple, List.getElem?_toArray, List.getElem?_cons_zero, List.getElem?_cons_succ, retA_iff, oneOf_one]; exact ⟨by simp, by simp only [Shp.good, g1, g2, g3, g4]; rfl, s1⟩
  | true =>
  have r4 : 2 ≤ s.pck ∧ s.pck ≤ 64 := by simpa using g4
  simp only [lenSl_slice, lenStr_string, str_size, fpureA_some, fnilA_ptr, faddA_ptr, addr_add, Nat.zero_add, Nat.add_zero, fpureQ_k, fpureQ_nilA, fpureQ_addA, fpureQ_pureA, fpureQ_guardA, fpureQ_idxSlA, fpureQ_pickA, freadQ_loadA, freadQ_loadNA, freadQ_b2sA, freadQ_guardA, freadQ_slSlA, freadQ_k, fendA, fallA_one, fstillA_nil, fguardA_tt, fguardA_ff, fguardA_tf, fguardA_ft, fguardA_undef, fpickA_true, fpickA_false, fcondA_true, fcondA_false, binA_add, binA_sub, binA_mul, binA_eql, binA_neq, binA_lss, binA_leq, binA_gtr, binA_geq, unA_not, Bool.not_true, Bool.not_false, convA_int, extA_tuple, List.getElem?_toArray, List.getElem?_cons_zero, List.getElem?_cons_succ]
  refine loadA_at hB hq1 (by rfl) ?_
  refine callA_of (within_spec s.bits 0 256) fun _ h2 ⟨e, e2⟩ f2 => ?_
  subst e e2
  cases g5 : (decide (0 ≤ s.bits) && decide (s.bits ≤ 256)) with
  | false => simp only [lenSl_slice, lenStr_string, str_size, fpureA_some, fnilA_ptr, faddA_ptr, addr_add, Nat.zero_add, Nat.add_zero, fpureQ_k, fpureQ_nilA, fpureQ_addA, fpureQ_pureA, fpureQ_guardA, fpureQ_idxSlA, fpureQ_pickA, freadQ_loadA, freadQ_loadNA, freadQ_b2sA, freadQ_guardA, freadQ_slSlA, freadQ_k, fendA, fallA_one, fstillA_nil, fguardA_tt, fguardA_ff, fguardA_tf, fguardA_ft, fguardA_undef, fpickA_true, fpickA_false, fcondA_true, fcondA_false, binA_add, binA_sub, binA_mul, binA_eql, binA_neq, binA_lss, binA_leq, binA_gtr, binA_geq, unA_not, Bool.not_true, Bool.not_false, convA_int, extA_tuple, List.getElem?_toArray, List.getElem?_cons_zero, List.getElem?_cons_succ, retA_iff, oneOf_one]; exact ⟨by simp, by simp only [Shp.good, g1, g2, g3, g4, g5]; rfl, s1⟩
  | true =>
  simp only [lenSl_slice, lenStr_string, str_size, fpureA_some, fnilA_ptr, faddA_ptr, addr_add, Nat.zero_add, Nat.add_zero, fpureQ_k, fpureQ_nilA, fpureQ_addA, fpureQ_pureA, fpureQ_guardA, fpureQ_idxSlA, fpureQ_pickA, freadQ_loadA, freadQ_loadNA, freadQ_b2sA, freadQ_guardA, freadQ_slSlA, freadQ_k, fendA, fallA_one, fstillA_nil, fguardA_tt, fguardA_ff, fguardA_tf, fguardA_ft, fguardA_undef, fpickA_true, fpickA_false, fcondA_true, fcondA_false, binA_add, binA_sub, binA_mul, binA_eql, binA_neq, binA_lss, binA_leq, binA_gtr, binA_geq, unA_not, Bool.not_true, Bool.not_false, convA_int, extA_tuple, List.getElem?_toArray, List.getElem?_cons_zero, List.getElem?_cons_succ]
  have hcut : (s.e.drop 4).take 4 = [.int .i64 s.mn, .int .i64 s.nm, .int .i64 s.mx, .int .u64 s.seed] := rfl
  refine loadNA_part hB hq1 hcut (by simp [Shp.e]) ?_
  simp only [newA_iff]
  refine ⟨by simp, storeN0 (cs := [.int .i64 0, .int .i64 0, .int .i64 0, .int .u64 0]) f2.base (by simp) rfl rfl (by rfl) ?_⟩
  rw [put_new]
  have s2 : Step h2 (h2.new [.int .i64 s.mn, .int .i64 s.nm, .int .i64 s.mx, .int .u64 s.seed] 4) [] [] := ((Step.refl h2 [] (by simp)).new _ _).drop
  have hq2 : (h2.new [.int .i64 s.mn, .int .i64 s.nm, .int .i64 s.mx, .int .u64 s.seed] 4).blk h2.next = some [.int .i64 s.mn, .int .i64 s.nm, .int .i64 s.mx, .int .u64 s.seed] := by simp
  have hB2 := f2.base
  generalize h2.new [.int .i64 s.mn, .int .i64 s.nm, .int .i64 s.mx, .int .u64 s.seed] 4 = h3 at s2 hq2 ⊢
  have hq3 := (s2.keep _ hn1 (by simp)).1.trans hq1
  have st := s1.trans s2
  simp only [lenSl_slice, lenStr_string, str_size, fpureA_some, fnilA_ptr, faddA_ptr, addr_add, Nat.zero_add, Nat.add_zero, fpureQ_k, fpureQ_nilA, fpureQ_addA, fpureQ_pureA, fpureQ_guardA, fpureQ_idxSlA, fpureQ_pickA, freadQ_loadA, freadQ_loadNA, freadQ_b2sA, freadQ_guardA, freadQ_slSlA, freadQ_k, fendA, fallA_one, fstillA_nil, fguardA_tt, fguardA_ff, fguardA_tf, fguardA_ft, fguardA_undef, fpickA_true, fpickA_false, fcondA_true, fcondA_false, binA_add, binA_sub, binA_mul, binA_eql, binA_neq, binA_lss, binA_leq, binA_gtr, binA_geq, unA_not, Bool.not_true, Bool.not_false, convA_int, extA_tuple, List.getElem?_toArray, List.getElem?_cons_zero, List.getElem?_cons_succ]
  refine loadA_at hB2 hq2 (by rfl) ?_
  refine callA_of (lpower_spec s.nm 16 65536 (by omega) (by omega) inm) fun _ h4 ⟨e, e4'⟩ f4 => ?_
  subst e e4'
  cases g6 : pow2 16 65536 s.nm with
  | false => simp only [lenSl_slice, lenStr_string, str_size, fpureA_some, fnilA_ptr, faddA_ptr, addr_add, Nat.zero_add, Nat.add_zero, fpureQ_k, fpureQ_nilA, fpureQ_addA, fpureQ_pureA, fpureQ_guardA, fpureQ_idxSlA, fpureQ_pickA, freadQ_loadA, freadQ_loadNA, freadQ_b2sA, freadQ_guardA, freadQ_slSlA, freadQ_k, fendA, fallA_one, fstillA_nil, fguardA_tt, fguardA_ff, fguardA_tf, fguardA_ft, fguardA_undef, fpickA_true, fpickA_false, fcondA_true, fcondA_false, binA_add, binA_sub, binA_mul, binA_eql, binA_neq, binA_lss, binA_leq, binA_gtr, binA_geq, unA_not, Bool.not_true, Bool.not_false, convA_int, extA_tuple, List.getElem?_toArray, List.getElem?_cons_zero, List.getElem?_cons_succ, retA_iff, oneOf_one]; exact ⟨by simp, by simp only [Shp.good, g1, g2, g3, g4, g5, g6]; rfl, st⟩
  | true =>
  have r6 := pow2_range g6
  have r1 := pow2_range g1
  simp only [lenSl_slice, lenStr_string, str_size, fpureA_some, fnilA_ptr, faddA_ptr, addr_add, Nat.zero_add, Nat.add_zero, fpureQ_k, fpureQ_nilA, fpureQ_addA, fpureQ_pureA, fpureQ_guardA, fpureQ_idxSlA, fpureQ_pickA, freadQ_loadA, freadQ_loadNA, freadQ_b2sA, freadQ_guardA, freadQ_slSlA, freadQ_k, fendA, fallA_one, fstillA_nil, fguardA_tt, fguardA_ff, fguardA_tf, fguardA_ft, fguardA_undef, fpickA_true, fpickA_false, fcondA_true, fcondA_false, binA_add, binA_sub, binA_mul, binA_eql, binA_neq, binA_lss, binA_leq, binA_gtr, binA_geq, unA_not, Bool.not_true, Bool.not_false, convA_int, extA_tuple, List.getElem?_toArray, List.getElem?_cons_zero, List.getElem?_cons_succ]
  refine loadA_at hB2 hq2 (by rfl) ?_
  refine loadA_at hB2 hq2 (by rfl) ?_
  refine callA_of (within_spec s.mn 1 s.nm) fun _ h5 ⟨e, e5⟩ f5 => ?_
  subst e e5
  cases g7 : (decide (1 ≤ s.mn) && decide (s.mn ≤ s.nm)) with
  | false => simp only [lenSl_slice, lenStr_string, str_size, fpureA_some, fnilA_ptr, faddA_ptr, addr_add, Nat.zero_add, Nat.add_zero, fpureQ_k, fpureQ_nilA, fpureQ_addA, fpureQ_pureA, fpureQ_guardA, fpureQ_idxSlA, fpureQ_pickA, freadQ_loadA, freadQ_loadNA, freadQ_b2sA, freadQ_guardA, freadQ_slSlA, freadQ_k, fendA, fallA_one, fstillA_nil, fguardA_tt, fguardA_ff, fguardA_tf, fguardA_ft, fguardA_undef, fpickA_true, fpickA_false, fcondA_true, fcondA_false, binA_add, binA_sub, binA_mul, binA_eql, binA_neq, binA_lss, binA_leq, binA_gtr, binA_geq, unA_not, Bool.not_true, Bool.not_false, convA_int, extA_tuple, List.getElem?_toArray, List.getElem?_cons_zero, List.getElem?_cons_succ, retA_iff, oneOf_one]; exact ⟨by simp, by simp only [Shp.good, g1, g2, g3, g4, g5, g6, g7]; rfl, st⟩
  | true =>
  have hpr : 1024 ≤ s.pck * s.sec ∧ s.pck * s.sec ≤ 262144 := by
    have a := Int.mul_le_mul r4.2 r1.2 (by omega) (by omega)
    have b := Int.mul_le_mul r4.1 r1.1 (by omega) (by omega)
    omega
  have e8 : IntKind.i64.wrap (8 * s.nm) = 8 * s.nm := IntWalk.i64_in _ (by omega)
  have e9 : IntKind.i64.wrap (s.pck * s.sec) = s.pck * s.sec := IntWalk.i64_in _ (by omega)
  have e10 : IntKind.i64.wrap (s.pck * s.sec - 40) = s.pck * s.sec - 40 := IntWalk.i64_in _ (by omega)
  simp only [lenSl_slice, lenStr_string, str_size, fpureA_some, fnilA_ptr, faddA_ptr, addr_add, Nat.zero_add, Nat.add_zero, fpureQ_k, fpureQ_nilA, fpureQ_addA, fpureQ_pureA, fpureQ_guardA, fpureQ_idxSlA, fpureQ_pickA, freadQ_loadA, freadQ_loadNA, freadQ_b2sA, freadQ_guardA, freadQ_slSlA, freadQ_k, fendA, fallA_one, fstillA_nil, fguardA_tt, fguardA_ff, fguardA_tf, fguardA_ft, fguardA_undef, fpickA_true, fpickA_false, fcondA_true, fcondA_false, binA_add, binA_sub, binA_mul, binA_eql, binA_neq, binA_lss, binA_leq, binA_gtr, binA_geq, unA_not, Bool.not_true, Bool.not_false, convA_int, extA_tuple, List.getElem?_toArray, List.getElem?_cons_zero, List.getElem?_cons_succ]
  refine loadA_at hB2 hq2 (by rfl) ?_
  refine loadA_at hB2 hq2 (by rfl) ?_
  refine loadA_at hB2 hq2 (by rfl) ?_
  simp only [lenSl_slice, lenStr_string, str_size, fpureA_some, fnilA_ptr, faddA_ptr, addr_add, Nat.zero_add, Nat.add_zero, fpureQ_k, fpureQ_nilA, fpureQ_addA, fpureQ_pureA, fpureQ_guardA, fpureQ_idxSlA, fpureQ_pickA, freadQ_loadA, freadQ_loadNA, freadQ_b2sA, freadQ_guardA, freadQ_slSlA, freadQ_k, fendA, fallA_one, fstillA_nil, fguardA_tt, fguardA_ff, fguardA_tf, fguardA_ft, fguardA_undef, fpickA_true, fpickA_false, fcondA_true, fcondA_false, binA_add, binA_sub, binA_mul, binA_eql, binA_neq, binA_lss, binA_leq, binA_gtr, binA_geq, unA_not, Bool.not_true, Bool.not_false, convA_int, extA_tuple, List.getElem?_toArray, List.getElem?_cons_zero, List.getElem?_cons_succ, e8]
  refine loadA_at hB hq3 (by rfl) ?_
  refine loadA_at hB hq3 (by rfl) ?_
  have hf : foldA min2A (.int .i64 (8 * s.nm)) [.int .i64 (s.pck * s.sec - 40)] = some (.int .i64 (min (8 * s.nm) (s.pck * s.sec - 40))) := by simp [foldA]
  simp only [lenSl_slice, lenStr_string, str_size, fpureA_some, fnilA_ptr, faddA_ptr, addr_add, Nat.zero_add, Nat.add_zero, fpureQ_k, fpureQ_nilA, fpureQ_addA, fpureQ_pureA, fpureQ_guardA, fpureQ_idxSlA, fpureQ_pickA, freadQ_loadA, freadQ_loadNA, freadQ_b2sA, freadQ_guardA, freadQ_slSlA, freadQ_k, fendA, fallA_one, fstillA_nil, fguardA_tt, fguardA_ff, fguardA_tf, fguardA_ft, fguardA_undef, fpickA_true, fpickA_false, fcondA_true, fcondA_false, binA_add, binA_sub, binA_mul, binA_eql, binA_neq, binA_lss, binA_leq, binA_gtr, binA_geq, unA_not, Bool.not_true, Bool.not_false, convA_int, extA_tuple, List.getElem?_toArray, List.getElem?_cons_zero, List.getElem?_cons_succ, e9, e10, hf]
  refine callA_of (within_spec s.mx s.nm _) fun _ h6 ⟨e, e6⟩ f6 => ?_
  subst e e6
  simp only [lenSl_slice, lenStr_string, str_size, fpureA_some, fnilA_ptr, faddA_ptr, addr_add, Nat.zero_add, Nat.add_zero, fpureQ_k, fpureQ_nilA, fpureQ_addA, fpureQ_pureA, fpureQ_guardA, fpureQ_idxSlA, fpureQ_pickA, freadQ_loadA, freadQ_loadNA, freadQ_b2sA, freadQ_guardA, freadQ_slSlA, freadQ_k, fendA, fallA_one, fstillA_nil, fguardA_tt, fguardA_ff, fguardA_tf, fguardA_ft, fguardA_undef, fpickA_true, fpickA_false, fcondA_true, fcondA_false, binA_add, binA_sub, binA_mul, binA_eql, binA_neq, binA_lss, binA_leq, binA_gtr, binA_geq, unA_not, Bool.not_true, Bool.not_false, convA_int, extA_tuple, List.getElem?_toArray, List.getElem?_cons_zero, List.getElem?_cons_succ, retA_iff, oneOf_one]
  refine ⟨by simp, ?_, st⟩
  congr 1
  simp only [Shp.good, g1, g2, g3, g4, g5, g6, g7, Bool.true_and]
  congr 1
  rw [← Bool.decide_and]
  simp only [decide_eq_decide]
  omega
end
end Go.Proofs.Ytihebhdgjnibfaa.Ah
namespace Go.Proofs.Ytihebhdgjnibfaa.Ah
open Go

/-- An area. -/
def area (a b : Int) : Value := .agg #[.int .i64 a, .int .i64 b]
def Shp.check (s : Shp) : Int := if s.good then 0 else 41
def Shp.journal (s : Shp) : Int × Int := if s.good then (2, s.jou) else (0, 0)
def Shp.data (s : Shp) : Int × Int := if s.good then (2 + s.jou, s.tot - 2 - s.jou) else (0, 0)
def Shp.kind (s : Shp) (n : Int) : Int := if !s.good || decide (n < 0) || decide (s.tot ≤ n) then 0 else if n < 2 then 1 else if n < 2 + s.jou then 2 else 3
section
variable {w0 : World} {h : Hp} {K : Kont}
theorem eqArea (w0 : World) (a b c d : Int) : eqStA prog .eql 43 (.agg #[.int .i64 a, .int .i64 b]) (.agg #[.int .i64 c, .int .i64 d]) = fun K => K (.bool (a == c && b == d)) := by
  have u3 := Try.underlying3
  have a3 := Try.isAgg3
  have z3 := Try.sizeOf3
  have hS : prog.underlying 43 = some (.struct (prog.fieldsOf 43)) := by kernel_rfl
  have hp : prog.stoodInHeld 43 = false := by kernel_rfl
  have key : ∀ w, (binOp .eql 43 (.agg #[.int .i64 a, .int .i64 b]) (.agg #[.int .i64 c, .int .i64 d])).run prog w = .ok (.bool (a == c && b == d)) w := by
    intro w
    rw [run_eql_struct, show (10000 : Nat) = 9999 + 1 from rfl, run_equalIn_agg w 9999 43 _ _ hS hp]
    simp only [Program.fieldsOf, Try.underlying43]
    go_simp
    by_cases h1 : a = c <;> by_cases h2 : b = d <;> simp [h1, h2]
  funext K h
  refine propext ⟨?_, fun hk => ?_⟩
  · rintro ⟨xs, ys, q, e1, e2, -, -, e3, -, hk⟩
    cases e1
    cases e2
    have := (e3 w0).symm.trans (key w0)
    simp at this
    subst this
    exact hk
  · refine ⟨_, _, _, rfl, rfl, fun v hv => ?_, fun v hv => ?_, key, fun w => run_eqGuard_agg w _ _ _ _ _ _ (by kernel_rfl), hk⟩
    · simp at hv; rcases hv with rfl | rfl <;> rfl
    · simp at hv; rcases hv with rfl | rfl <;> rfl
variable {s : Shp}
theorem Check_spec (i : s.In) : ACalls prog w0 n_layout_Check [s.v] h fun v h' => v = .int .i64 s.check ∧ Step h h' [] [] := by
  refine ACalls.of_fit (by simpa using s.junk) fun f => c_layout_Check (by simpa using s.junk) ?_
  simp only [s_layout_Check, Shp.v, boxA_agg, List.toList_toArray, lenSl_slice, lenStr_string, str_size, fpureA_some, fnilA_ptr, faddA_ptr, addr_add, Nat.zero_add, Nat.add_zero, fpureQ_k, fpureQ_nilA, fpureQ_addA, fpureQ_pureA, fpureQ_guardA, fpureQ_idxSlA, fpureQ_pickA, freadQ_loadA, freadQ_loadNA, freadQ_b2sA, freadQ_guardA, freadQ_slSlA, freadQ_k, fendA, fallA_one, fstillA_nil, fguardA_tt, fguardA_ff, fguardA_tf, fguardA_ft, fguardA_undef, fpickA_true, fpickA_false, fcondA_true, fcondA_false, binA_add, binA_sub, binA_mul, binA_eql, binA_neq, binA_lss, binA_leq, binA_gtr, binA_geq, unA_not, Bool.not_true, Bool.not_false, convA_int, extA_tuple, List.getElem?_toArray, List.getElem?_cons_zero, List.getElem?_cons_succ]
  have s1 : Step h (h.new s.e 10) [] [] := ((Step.refl h [] (by simp)).new _ _).drop
  refine loadNA_whole (cs := s.e) f.base (by simp) rfl ?_
  refine callA_of (right_spec i) fun _ h2 ⟨e, s2⟩ f2 => ?_
  subst e
  cases g : s.good with
  | false => simp only [lenSl_slice, lenStr_string, str_size, fpureA_some, fnilA_ptr, faddA_ptr, addr_add, Nat.zero_add, Nat.add_zero, fpureQ_k, fpureQ_nilA, fpureQ_addA, fpureQ_pureA, fpureQ_guardA, fpureQ_idxSlA, fpureQ_pickA, freadQ_loadA, freadQ_loadNA, freadQ_b2sA, freadQ_guardA, freadQ_slSlA, freadQ_k, fendA, fallA_one, fstillA_nil, fguardA_tt, fguardA_ff, fguardA_tf, fguardA_ft, fguardA_undef, fpickA_true, fpickA_false, fcondA_true, fcondA_false, binA_add, binA_sub, binA_mul, binA_eql, binA_neq, binA_lss, binA_leq, binA_gtr, binA_geq, unA_not, Bool.not_true, Bool.not_false, convA_int, extA_tuple, List.getElem?_toArray, List.getElem?_cons_zero, List.getElem?_cons_succ, retA_iff, oneOf_one]; exact ⟨by simp, by simp [Shp.check, g], s1.trans s2⟩
  | true => simp only [lenSl_slice, lenStr_string, str_size, fpureA_some, fnilA_ptr, faddA_ptr, addr_add, Nat.zero_add, Nat.add_zero, fpureQ_k, fpureQ_nilA, fpureQ_addA, fpureQ_pureA, fpureQ_guardA, fpureQ_idxSlA, fpureQ_pickA, freadQ_loadA, freadQ_loadNA, freadQ_b2sA, freadQ_guardA, freadQ_slSlA, freadQ_k, fendA, fallA_one, fstillA_nil, fguardA_tt, fguardA_ff, fguardA_tf, fguardA_ft, fguardA_undef, fpickA_true, fpickA_false, fcondA_true, fcondA_false, binA_add, binA_sub, binA_mul, binA_eql, binA_neq, binA_lss, binA_leq, binA_gtr, binA_geq, unA_not, Bool.not_true, Bool.not_false, convA_int, extA_tuple, List.getElem?_toArray, List.getElem?_cons_zero, List.getElem?_cons_succ, retA_iff, oneOf_one]; exact ⟨by simp, by simp [Shp.check, g], s1.trans s2⟩
theorem Journal_spec (i : s.In) : ACalls prog w0 n_layout_Journal [s.v] h fun v h' => v = area s.journal.1 s.journal.2 ∧ Step h h' [] [] := by
  refine ACalls.of_fit (by simpa using s.junk) fun f => c_layout_Journal (by simpa using s.junk) ?_
  simp only [s_layout_Journal, Shp.v, boxA_agg, List.toList_toArray, newA_iff, lenSl_slice, lenStr_string, str_size, fpureA_some, fnilA_ptr, faddA_ptr, addr_add, Nat.zero_add, Nat.add_zero, fpureQ_k, fpureQ_nilA, fpureQ_addA, fpureQ_pureA, fpureQ_guardA, fpureQ_idxSlA, fpureQ_pickA, freadQ_loadA, freadQ_loadNA, freadQ_b2sA, freadQ_guardA, freadQ_slSlA, freadQ_k, fendA, fallA_one, fstillA_nil, fguardA_tt, fguardA_ff, fguardA_tf, fguardA_ft, fguardA_undef, fpickA_true, fpickA_false, fcondA_true, fcondA_false, binA_add, binA_sub, binA_mul, binA_eql, binA_neq, binA_lss, binA_leq, binA_gtr, binA_geq, unA_not, Bool.not_true, Bool.not_false, convA_int, extA_tuple, List.getElem?_toArray, List.getElem?_cons_zero, List.getElem?_cons_succ]
  have s1 : Step h (h.new s.e 10) [] [] := ((Step.refl h [] (by simp)).new _ _).drop
  have hq1 : (h.new s.e 10).blk h.next = some s.e := by simp
  have hn1 : h.next < (h.new s.e 10).next := by simp
  have hB := f.base
  generalize h.new s.e 10 = h1 at s1 hq1 hn1 ⊢
  have hB1 : w0.heap.size ≤ h1.next := by omega
  refine ⟨by simp, ?_⟩
  have s2 : Step h1 (h1.new [.int .i64 0, .int .i64 0] 2) [] [] := ((Step.refl h1 [] (by simp)).new _ _).drop
  have hq2 : (h1.new [.int .i64 0, .int .i64 0] 2).blk h1.next = some [.int .i64 0, .int .i64 0] := by simp
  have hn2 : h1.next < (h1.new [.int .i64 0, .int .i64 0] 2).next := by simp
  generalize h1.new [.int .i64 0, .int .i64 0] 2 = h2 at s2 hq2 hn2 ⊢
  refine loadNA_whole hB ((s2.keep _ hn1 (by simp)).1.trans hq1) rfl ?_
  refine callA_of (right_spec i) fun _ h3 ⟨e, s3⟩ f3 => ?_
  subst e
  have st := (s1.trans s2).trans s3
  have hq3 := (s3.keep _ hn2 (by simp)).1.trans hq2
  have hp1 : ∀ cs, Step h (h3.put h1.next cs) [] [] := fun cs =>
    ⟨by have := st.next; simpa using this, fun b hb _ => by
      have := (s1.next)
      have hne : b ≠ h1.next := by omega
      have := st.keep b hb (by simp)
      simpa [hne] using this, by simp⟩
  cases g : s.good with
  | false =>
    simp only [lenSl_slice, lenStr_string, str_size, fpureA_some, fnilA_ptr, faddA_ptr, addr_add, Nat.zero_add, Nat.add_zero, fpureQ_k, fpureQ_nilA, fpureQ_addA, fpureQ_pureA, fpureQ_guardA, fpureQ_idxSlA, fpureQ_pickA, freadQ_loadA, freadQ_loadNA, freadQ_b2sA, freadQ_guardA, freadQ_slSlA, freadQ_k, fendA, fallA_one, fstillA_nil, fguardA_tt, fguardA_ff, fguardA_tf, fguardA_ft, fguardA_undef, fpickA_true, fpickA_false, fcondA_true, fcondA_false, binA_add, binA_sub, binA_mul, binA_eql, binA_neq, binA_lss, binA_leq, binA_gtr, binA_geq, unA_not, Bool.not_true, Bool.not_false, convA_int, extA_tuple, List.getElem?_toArray, List.getElem?_cons_zero, List.getElem?_cons_succ, buildA_iff, fillA_nil]
    refine storeN0 hB1 hq3 rfl rfl (by rfl) (loadNA_whole hB1 (by simp; rfl) rfl ?_)
    simp only [retA_iff, oneOf_one]
    exact ⟨by simp, by simp [Shp.journal, g, area], hp1 _⟩
  | true =>
    simp only [lenSl_slice, lenStr_string, str_size, fpureA_some, fnilA_ptr, faddA_ptr, addr_add, Nat.zero_add, Nat.add_zero, fpureQ_k, fpureQ_nilA, fpureQ_addA, fpureQ_pureA, fpureQ_guardA, fpureQ_idxSlA, fpureQ_pickA, freadQ_loadA, freadQ_loadNA, freadQ_b2sA, freadQ_guardA, freadQ_slSlA, freadQ_k, fendA, fallA_one, fstillA_nil, fguardA_tt, fguardA_ff, fguardA_tf, fguardA_ft, fguardA_undef, fpickA_true, fpickA_false, fcondA_true, fcondA_false, binA_add, binA_sub, binA_mul, binA_eql, binA_neq, binA_lss, binA_leq, binA_gtr, binA_geq, unA_not, Bool.not_true, Bool.not_false, convA_int, extA_tuple, List.getElem?_toArray, List.getElem?_cons_zero, List.getElem?_cons_succ]
    refine loadA_at hB ((s3.keep _ (by have := s2.next; omega) (by simp)).1.trans ((s2.keep _ hn1 (by simp)).1.trans hq1)) (by rfl) ?_
    simp only [buildA_iff, fillA_one, fillA_nil, isCell_int, true_and, List.set_cons_zero, List.set_cons_succ, List.length_cons, List.length_nil]
    refine ⟨by omega, by omega, storeN0 hB1 hq3 rfl rfl (by rfl) (loadNA_whole hB1 (by simp; rfl) rfl ?_)⟩
    simp only [retA_iff, oneOf_one]
    exact ⟨by simp, by simp [Shp.journal, g, area], hp1 _⟩
theorem Data_spec (i : s.In) : ACalls prog w0 n_layout_Data [s.v] h fun v h' => v = area s.data.1 s.data.2 ∧ Step h h' [] [] := by
  refine ACalls.of_fit (by simpa using s.junk) fun f => c_layout_Data (by simpa using s.junk) ?_
  simp only [s_layout_Data, Shp.v, boxA_agg, List.toList_toArray, newA_iff, lenSl_slice, lenStr_string, str_size, fpureA_some, fnilA_ptr, faddA_ptr, addr_add, Nat.zero_add, Nat.add_zero, fpureQ_k, fpureQ_nilA, fpureQ_addA, fpureQ_pureA, fpureQ_guardA, fpureQ_idxSlA, fpureQ_pickA, freadQ_loadA, freadQ_loadNA, freadQ_b2sA, freadQ_guardA, freadQ_slSlA, freadQ_k, fendA, fallA_one, fstillA_nil, fguardA_tt, fguardA_ff, fguardA_tf, fguardA_ft, fguardA_undef, fpickA_true, fpickA_false, fcondA_true, fcondA_false, binA_add, binA_sub, binA_mul, binA_eql, binA_neq, binA_lss, binA_leq, binA_gtr, binA_geq, unA_not, Bool.not_true, Bool.not_false, convA_int, extA_tuple, List.getElem?_toArray, List.getElem?_cons_zero, List.getElem?_cons_succ]
  have s1 : Step h (h.new s.e 10) [] [] := ((Step.refl h [] (by simp)).new _ _).drop
  have hq1 : (h.new s.e 10).blk h.next = some s.e := by simp
  have hn1 : h.next < (h.new s.e 10).next := by simp
  have hB := f.base
  generalize h.new s.e 10 = h1 at s1 hq1 hn1 ⊢
  have hB1 : w0.heap.size ≤ h1.next := by omega
  refine ⟨by simp, ?_⟩
  have s2 : Step h1 (h1.new [.int .i64 0, .int .i64 0] 2) [] [] := ((Step.refl h1 [] (by simp)).new _ _).drop
  have hq2 : (h1.new [.int .i64 0, .int .i64 0] 2).blk h1.next = some [.int .i64 0, .int .i64 0] := by simp
  have hn2 : h1.next < (h1.new [.int .i64 0, .int .i64 0] 2).next := by simp
  generalize h1.new [.int .i64 0, .int .i64 0] 2 = h2 at s2 hq2 hn2 ⊢
  refine loadNA_whole hB ((s2.keep _ hn1 (by simp)).1.trans hq1) rfl ?_
  refine callA_of (right_spec i) fun _ h3 ⟨e, s3⟩ f3 => ?_
  subst e
  have st := (s1.trans s2).trans s3
  have hq3 := (s3.keep _ hn2 (by simp)).1.trans hq2
  have hp1 : ∀ cs, Step h (h3.put h1.next cs) [] [] := fun cs =>
    ⟨by have := st.next; simpa using this, fun b hb _ => by
      have := (s1.next)
      have hne : b ≠ h1.next := by omega
      have := st.keep b hb (by simp)
      simpa [hne] using this, by simp⟩
  cases g : s.good with
  | false =>
    simp only [lenSl_slice, lenStr_string, str_size, fpureA_some, fnilA_ptr, faddA_ptr, addr_add, Nat.zero_add, Nat.add_zero, fpureQ_k, fpureQ_nilA, fpureQ_addA, fpureQ_pureA, fpureQ_guardA, fpureQ_idxSlA, fpureQ_pickA, freadQ_loadA, freadQ_loadNA, freadQ_b2sA, freadQ_guardA, freadQ_slSlA, freadQ_k, fendA, fallA_one, fstillA_nil, fguardA_tt, fguardA_ff, fguardA_tf, fguardA_ft, fguardA_undef, fpickA_true, fpickA_false, fcondA_true, fcondA_false, binA_add, binA_sub, binA_mul, binA_eql, binA_neq, binA_lss, binA_leq, binA_gtr, binA_geq, unA_not, Bool.not_true, Bool.not_false, convA_int, extA_tuple, List.getElem?_toArray, List.getElem?_cons_zero, List.getElem?_cons_succ, buildA_iff, fillA_nil]
    refine storeN0 hB1 hq3 rfl rfl (by rfl) (loadNA_whole hB1 (by simp; rfl) rfl ?_)
    simp only [retA_iff, oneOf_one]
    exact ⟨by simp, by simp [Shp.data, g, area], hp1 _⟩
  | true =>
    have G := s.good_iff.1 g
    have e1 : IntKind.i64.wrap (2 + s.jou) = 2 + s.jou := IntWalk.i64_in _ (by have := G.jou; have := G.tot; omega)
    have e2 : IntKind.i64.wrap (s.tot - (2 + s.jou)) = s.tot - (2 + s.jou) := IntWalk.i64_in _ (by have := G.jou; have := G.tot; omega)
    have hq4 := (s3.keep _ (by have := s2.next; omega) (by simp)).1.trans ((s2.keep _ hn1 (by simp)).1.trans hq1)
    simp only [lenSl_slice, lenStr_string, str_size, fpureA_some, fnilA_ptr, faddA_ptr, addr_add, Nat.zero_add, Nat.add_zero, fpureQ_k, fpureQ_nilA, fpureQ_addA, fpureQ_pureA, fpureQ_guardA, fpureQ_idxSlA, fpureQ_pickA, freadQ_loadA, freadQ_loadNA, freadQ_b2sA, freadQ_guardA, freadQ_slSlA, freadQ_k, fendA, fallA_one, fstillA_nil, fguardA_tt, fguardA_ff, fguardA_tf, fguardA_ft, fguardA_undef, fpickA_true, fpickA_false, fcondA_true, fcondA_false, binA_add, binA_sub, binA_mul, binA_eql, binA_neq, binA_lss, binA_leq, binA_gtr, binA_geq, unA_not, Bool.not_true, Bool.not_false, convA_int, extA_tuple, List.getElem?_toArray, List.getElem?_cons_zero, List.getElem?_cons_succ]
    refine loadA_at hB hq4 (by rfl) ?_
    simp only [lenSl_slice, lenStr_string, str_size, fpureA_some, fnilA_ptr, faddA_ptr, addr_add, Nat.zero_add, Nat.add_zero, fpureQ_k, fpureQ_nilA, fpureQ_addA, fpureQ_pureA, fpureQ_guardA, fpureQ_idxSlA, fpureQ_pickA, freadQ_loadA, freadQ_loadNA, freadQ_b2sA, freadQ_guardA, freadQ_slSlA, freadQ_k, fendA, fallA_one, fstillA_nil, fguardA_tt, fguardA_ff, fguardA_tf, fguardA_ft, fguardA_undef, fpickA_true, fpickA_false, fcondA_true, fcondA_false, binA_add, binA_sub, binA_mul, binA_eql, binA_neq, binA_lss, binA_leq, binA_gtr, binA_geq, unA_not, Bool.not_true, Bool.not_false, convA_int, extA_tuple, List.getElem?_toArray, List.getElem?_cons_zero, List.getElem?_cons_succ, e1]
    refine loadA_at hB hq4 (by rfl) ?_
    simp only [lenSl_slice, lenStr_string, str_size, fpureA_some, fnilA_ptr, faddA_ptr, addr_add, Nat.zero_add, Nat.add_zero, fpureQ_k, fpureQ_nilA, fpureQ_addA, fpureQ_pureA, fpureQ_guardA, fpureQ_idxSlA, fpureQ_pickA, freadQ_loadA, freadQ_loadNA, freadQ_b2sA, freadQ_guardA, freadQ_slSlA, freadQ_k, fendA, fallA_one, fstillA_nil, fguardA_tt, fguardA_ff, fguardA_tf, fguardA_ft, fguardA_undef, fpickA_true, fpickA_false, fcondA_true, fcondA_false, binA_add, binA_sub, binA_mul, binA_eql, binA_neq, binA_lss, binA_leq, binA_gtr, binA_geq, unA_not, Bool.not_true, Bool.not_false, convA_int, extA_tuple, List.getElem?_toArray, List.getElem?_cons_zero, List.getElem?_cons_succ, e2]
    simp only [buildA_iff, fillA_one, fillA_nil, isCell_int, true_and, List.set_cons_zero, List.set_cons_succ, List.length_cons, List.length_nil]
    refine ⟨by omega, by omega, storeN0 hB1 hq3 rfl rfl (by rfl) (loadNA_whole hB1 (by simp; rfl) rfl ?_)⟩
    simp only [retA_iff, oneOf_one]
    refine ⟨by simp, ?_, hp1 _⟩
    rw [show s.tot - (2 + s.jou) = s.tot - 2 - s.jou by omega]
    simp [Shp.data, g, area]
theorem has_spec (a b n : Int) (hab : i64R (a + b)) : ACalls prog w0 n_layout_has [area a b, .int .i64 n] h fun v h' => v = .bool (decide (a ≤ n) && decide (n < a + b)) ∧ Step h h' [] [] := by
  refine ACalls.of_fit (by simp [area]) fun f => c_layout_has (by simp [area]) ?_
  simp only [s_layout_has, area, boxA_agg, List.toList_toArray, lenSl_slice, lenStr_string, str_size, fpureA_some, fnilA_ptr, faddA_ptr, addr_add, Nat.zero_add, Nat.add_zero, fpureQ_k, fpureQ_nilA, fpureQ_addA, fpureQ_pureA, fpureQ_guardA, fpureQ_idxSlA, fpureQ_pickA, freadQ_loadA, freadQ_loadNA, freadQ_b2sA, freadQ_guardA, freadQ_slSlA, freadQ_k, fendA, fallA_one, fstillA_nil, fguardA_tt, fguardA_ff, fguardA_tf, fguardA_ft, fguardA_undef, fpickA_true, fpickA_false, fcondA_true, fcondA_false, binA_add, binA_sub, binA_mul, binA_eql, binA_neq, binA_lss, binA_leq, binA_gtr, binA_geq, unA_not, Bool.not_true, Bool.not_false, convA_int, extA_tuple, List.getElem?_toArray, List.getElem?_cons_zero, List.getElem?_cons_succ]
  have s1 : Step h (h.new [.int .i64 a, .int .i64 b] 2) [] [] := ((Step.refl h [] (by simp)).new _ _).drop
  have hq1 : (h.new [.int .i64 a, .int .i64 b] 2).blk h.next = some [.int .i64 a, .int .i64 b] := by simp
  have hB := f.base
  have e1 : IntKind.i64.wrap (a + b) = a + b := IntWalk.i64_in _ hab
  generalize h.new [.int .i64 a, .int .i64 b] 2 = h1 at s1 hq1 ⊢
  refine loadA_at hB hq1 (by rfl) ?_
  cases g : decide (a ≤ n) with
  | false => simp only [lenSl_slice, lenStr_string, str_size, fpureA_some, fnilA_ptr, faddA_ptr, addr_add, Nat.zero_add, Nat.add_zero, fpureQ_k, fpureQ_nilA, fpureQ_addA, fpureQ_pureA, fpureQ_guardA, fpureQ_idxSlA, fpureQ_pickA, freadQ_loadA, freadQ_loadNA, freadQ_b2sA, freadQ_guardA, freadQ_slSlA, freadQ_k, fendA, fallA_one, fstillA_nil, fguardA_tt, fguardA_ff, fguardA_tf, fguardA_ft, fguardA_undef, fpickA_true, fpickA_false, fcondA_true, fcondA_false, binA_add, binA_sub, binA_mul, binA_eql, binA_neq, binA_lss, binA_leq, binA_gtr, binA_geq, unA_not, Bool.not_true, Bool.not_false, convA_int, extA_tuple, List.getElem?_toArray, List.getElem?_cons_zero, List.getElem?_cons_succ, g, retA_iff, oneOf_one]; exact ⟨by simp, by simp, s1⟩
  | true =>
    simp only [lenSl_slice, lenStr_string, str_size, fpureA_some, fnilA_ptr, faddA_ptr, addr_add, Nat.zero_add, Nat.add_zero, fpureQ_k, fpureQ_nilA, fpureQ_addA, fpureQ_pureA, fpureQ_guardA, fpureQ_idxSlA, fpureQ_pickA, freadQ_loadA, freadQ_loadNA, freadQ_b2sA, freadQ_guardA, freadQ_slSlA, freadQ_k, fendA, fallA_one, fstillA_nil, fguardA_tt, fguardA_ff, fguardA_tf, fguardA_ft, fguardA_undef, fpickA_true, fpickA_false, fcondA_true, fcondA_false, binA_add, binA_sub, binA_mul, binA_eql, binA_neq, binA_lss, binA_leq, binA_gtr, binA_geq, unA_not, Bool.not_true, Bool.not_false, convA_int, extA_tuple, List.getElem?_toArray, List.getElem?_cons_zero, List.getElem?_cons_succ, g]
    refine loadA_at hB hq1 (by rfl) ?_
    refine loadA_at hB hq1 (by rfl) ?_
    simp only [lenSl_slice, lenStr_string, str_size, fpureA_some, fnilA_ptr, faddA_ptr, addr_add, Nat.zero_add, Nat.add_zero, fpureQ_k, fpureQ_nilA, fpureQ_addA, fpureQ_pureA, fpureQ_guardA, fpureQ_idxSlA, fpureQ_pickA, freadQ_loadA, freadQ_loadNA, freadQ_b2sA, freadQ_guardA, freadQ_slSlA, freadQ_k, fendA, fallA_one, fstillA_nil, fguardA_tt, fguardA_ff, fguardA_tf, fguardA_ft, fguardA_undef, fpickA_true, fpickA_false, fcondA_true, fcondA_false, binA_add, binA_sub, binA_mul, binA_eql, binA_neq, binA_lss, binA_leq, binA_gtr, binA_geq, unA_not, Bool.not_true, Bool.not_false, convA_int, extA_tuple, List.getElem?_toArray, List.getElem?_cons_zero, List.getElem?_cons_succ, e1, retA_iff, oneOf_one]
    exact ⟨by simp, by simp, s1⟩
theorem Kind_spec (i : s.In) (n : Int) (hn : i64R n) : ACalls prog w0 n_layout_Kind [s.v, .int .i64 n] h fun v h' => v = .int .i64 (s.kind n) ∧ Step h h' [] [] := by
  refine ACalls.of_fit (by simpa using s.junk) fun f => c_layout_Kind (by simpa using s.junk) ?_
  simp only [s_layout_Kind, Shp.v, boxA_agg, List.toList_toArray, lenSl_slice, lenStr_string, str_size, fpureA_some, fnilA_ptr, faddA_ptr, addr_add, Nat.zero_add, Nat.add_zero, fpureQ_k, fpureQ_nilA, fpureQ_addA, fpureQ_pureA, fpureQ_guardA, fpureQ_idxSlA, fpureQ_pickA, freadQ_loadA, freadQ_loadNA, freadQ_b2sA, freadQ_guardA, freadQ_slSlA, freadQ_k, fendA, fallA_one, fstillA_nil, fguardA_tt, fguardA_ff, fguardA_tf, fguardA_ft, fguardA_undef, fpickA_true, fpickA_false, fcondA_true, fcondA_false, binA_add, binA_sub, binA_mul, binA_eql, binA_neq, binA_lss, binA_leq, binA_gtr, binA_geq, unA_not, Bool.not_true, Bool.not_false, convA_int, extA_tuple, List.getElem?_toArray, List.getElem?_cons_zero, List.getElem?_cons_succ]
  have s1 : Step h (h.new s.e 10) [] [] := ((Step.refl h [] (by simp)).new _ _).drop
  have hq1 : (h.new s.e 10).blk h.next = some s.e := by simp
  have hn1 : h.next < (h.new s.e 10).next := by simp
  have hB := f.base
  generalize h.new s.e 10 = h1 at s1 hq1 hn1 ⊢
  refine loadNA_whole hB hq1 rfl ?_
  refine callA_of (Data_spec i) fun _ h2 ⟨e, s2⟩ f2 => ?_
  subst e
  have hq2 := (s2.keep _ hn1 (by simp)).1.trans hq1
  have st := s1.trans s2
  simp only [buildA_iff, fillA_nil, area, eqArea w0]
  cases g : s.good with
  | false =>
    have c1 : (s.data.1 == 0 && s.data.2 == 0) = true := by simp [Shp.data, g]
    simp only [c1, lenSl_slice, lenStr_string, str_size, fpureA_some, fnilA_ptr, faddA_ptr, addr_add, Nat.zero_add, Nat.add_zero, fpureQ_k, fpureQ_nilA, fpureQ_addA, fpureQ_pureA, fpureQ_guardA, fpureQ_idxSlA, fpureQ_pickA, freadQ_loadA, freadQ_loadNA, freadQ_b2sA, freadQ_guardA, freadQ_slSlA, freadQ_k, fendA, fallA_one, fstillA_nil, fguardA_tt, fguardA_ff, fguardA_tf, fguardA_ft, fguardA_undef, fpickA_true, fpickA_false, fcondA_true, fcondA_false, binA_add, binA_sub, binA_mul, binA_eql, binA_neq, binA_lss, binA_leq, binA_gtr, binA_geq, unA_not, Bool.not_true, Bool.not_false, convA_int, extA_tuple, List.getElem?_toArray, List.getElem?_cons_zero, List.getElem?_cons_succ, retA_iff, oneOf_one]
    exact ⟨by simp, by simp [Shp.kind, g], st⟩
  | true =>
    have G := s.good_iff.1 g
    have gj := G.jou
    have gt := G.tot
    have hd : s.data = (2 + s.jou, s.tot - 2 - s.jou) := by simp [Shp.data, g]
    have hj : s.journal = (2, s.jou) := by simp [Shp.journal, g]
    have c1 : (s.data.1 == 0 && s.data.2 == 0) = false := by
      have : (2 + s.jou == 0) = false := by simp; omega
      simp [hd, this]
    simp only [c1, lenSl_slice, lenStr_string, str_size, fpureA_some, fnilA_ptr, faddA_ptr, addr_add, Nat.zero_add, Nat.add_zero, fpureQ_k, fpureQ_nilA, fpureQ_addA, fpureQ_pureA, fpureQ_guardA, fpureQ_idxSlA, fpureQ_pickA, freadQ_loadA, freadQ_loadNA, freadQ_b2sA, freadQ_guardA, freadQ_slSlA, freadQ_k, fendA, fallA_one, fstillA_nil, fguardA_tt, fguardA_ff, fguardA_tf, fguardA_ft, fguardA_undef, fpickA_true, fpickA_false, fcondA_true, fcondA_false, binA_add, binA_sub, binA_mul, binA_eql, binA_neq, binA_lss, binA_leq, binA_gtr, binA_geq, unA_not, Bool.not_true, Bool.not_false, convA_int, extA_tuple, List.getElem?_toArray, List.getElem?_cons_zero, List.getElem?_cons_succ]
    by_cases h1 : n < 0
    · have c2 : decide (n < 0) = true := decide_eq_true h1
      simp only [c2, lenSl_slice, lenStr_string, str_size, fpureA_some, fnilA_ptr, faddA_ptr, addr_add, Nat.zero_add, Nat.add_zero, fpureQ_k, fpureQ_nilA, fpureQ_addA, fpureQ_pureA, fpureQ_guardA, fpureQ_idxSlA, fpureQ_pickA, freadQ_loadA, freadQ_loadNA, freadQ_b2sA, freadQ_guardA, freadQ_slSlA, freadQ_k, fendA, fallA_one, fstillA_nil, fguardA_tt, fguardA_ff, fguardA_tf, fguardA_ft, fguardA_undef, fpickA_true, fpickA_false, fcondA_true, fcondA_false, binA_add, binA_sub, binA_mul, binA_eql, binA_neq, binA_lss, binA_leq, binA_gtr, binA_geq, unA_not, Bool.not_true, Bool.not_false, convA_int, extA_tuple, List.getElem?_toArray, List.getElem?_cons_zero, List.getElem?_cons_succ, retA_iff, oneOf_one]
      exact ⟨by simp, by simp [Shp.kind, g, h1], st⟩
    have c2 : decide (n < 0) = false := decide_eq_false h1
    simp only [c2, lenSl_slice, lenStr_string, str_size, fpureA_some, fnilA_ptr, faddA_ptr, addr_add, Nat.zero_add, Nat.add_zero, fpureQ_k, fpureQ_nilA, fpureQ_addA, fpureQ_pureA, fpureQ_guardA, fpureQ_idxSlA, fpureQ_pickA, freadQ_loadA, freadQ_loadNA, freadQ_b2sA, freadQ_guardA, freadQ_slSlA, freadQ_k, fendA, fallA_one, fstillA_nil, fguardA_tt, fguardA_ff, fguardA_tf, fguardA_ft, fguardA_undef, fpickA_true, fpickA_false, fcondA_true, fcondA_false, binA_add, binA_sub, binA_mul, binA_eql, binA_neq, binA_lss, binA_leq, binA_gtr, binA_geq, unA_not, Bool.not_true, Bool.not_false, convA_int, extA_tuple, List.getElem?_toArray, List.getElem?_cons_zero, List.getElem?_cons_succ]
    refine loadA_at hB hq2 (by rfl) ?_
    by_cases h2' : s.tot ≤ n
    · have c3 : decide (s.tot ≤ n) = true := decide_eq_true h2'
      simp only [c3, lenSl_slice, lenStr_string, str_size, fpureA_some, fnilA_ptr, faddA_ptr, addr_add, Nat.zero_add, Nat.add_zero, fpureQ_k, fpureQ_nilA, fpureQ_addA, fpureQ_pureA, fpureQ_guardA, fpureQ_idxSlA, fpureQ_pickA, freadQ_loadA, freadQ_loadNA, freadQ_b2sA, freadQ_guardA, freadQ_slSlA, freadQ_k, fendA, fallA_one, fstillA_nil, fguardA_tt, fguardA_ff, fguardA_tf, fguardA_ft, fguardA_undef, fpickA_true, fpickA_false, fcondA_true, fcondA_false, binA_add, binA_sub, binA_mul, binA_eql, binA_neq, binA_lss, binA_leq, binA_gtr, binA_geq, unA_not, Bool.not_true, Bool.not_false, convA_int, extA_tuple, List.getElem?_toArray, List.getElem?_cons_zero, List.getElem?_cons_succ, retA_iff, oneOf_one]
      exact ⟨by simp, by simp [Shp.kind, g, h2'], st⟩
    have c3 : decide (s.tot ≤ n) = false := decide_eq_false h2'
    simp only [c3, lenSl_slice, lenStr_string, str_size, fpureA_some, fnilA_ptr, faddA_ptr, addr_add, Nat.zero_add, Nat.add_zero, fpureQ_k, fpureQ_nilA, fpureQ_addA, fpureQ_pureA, fpureQ_guardA, fpureQ_idxSlA, fpureQ_pickA, freadQ_loadA, freadQ_loadNA, freadQ_b2sA, freadQ_guardA, freadQ_slSlA, freadQ_k, fendA, fallA_one, fstillA_nil, fguardA_tt, fguardA_ff, fguardA_tf, fguardA_ft, fguardA_undef, fpickA_true, fpickA_false, fcondA_true, fcondA_false, binA_add, binA_sub, binA_mul, binA_eql, binA_neq, binA_lss, binA_leq, binA_gtr, binA_geq, unA_not, Bool.not_true, Bool.not_false, convA_int, extA_tuple, List.getElem?_toArray, List.getElem?_cons_zero, List.getElem?_cons_succ]
    refine loadNA_whole hB hq2 rfl ?_
    refine callA_of (Journal_spec i) fun _ h3 ⟨e, s3⟩ f3 => ?_
    subst e
    have hn2 : h.next < h2.next := by have := s2.next; omega
    have hq3 := (s3.keep _ hn2 (by simp)).1.trans hq2
    rw [hj]
    refine callA_of (has_spec 2 s.jou n (by unfold i64R; omega)) fun _ h4 ⟨e, s4⟩ f4 => ?_
    subst e
    have hn3 : h.next < h3.next := by have := s3.next; omega
    have hq4 := (s4.keep _ hn3 (by simp)).1.trans hq3
    have st4 := (st.trans s3).trans s4
    by_cases h4' : n < 2
    · have c4 : decide (2 ≤ n) = false := decide_eq_false (by omega)
      simp only [c4, Bool.false_and, lenSl_slice, lenStr_string, str_size, fpureA_some, fnilA_ptr, faddA_ptr, addr_add, Nat.zero_add, Nat.add_zero, fpureQ_k, fpureQ_nilA, fpureQ_addA, fpureQ_pureA, fpureQ_guardA, fpureQ_idxSlA, fpureQ_pickA, freadQ_loadA, freadQ_loadNA, freadQ_b2sA, freadQ_guardA, freadQ_slSlA, freadQ_k, fendA, fallA_one, fstillA_nil, fguardA_tt, fguardA_ff, fguardA_tf, fguardA_ft, fguardA_undef, fpickA_true, fpickA_false, fcondA_true, fcondA_false, binA_add, binA_sub, binA_mul, binA_eql, binA_neq, binA_lss, binA_leq, binA_gtr, binA_geq, unA_not, Bool.not_true, Bool.not_false, convA_int, extA_tuple, List.getElem?_toArray, List.getElem?_cons_zero, List.getElem?_cons_succ]
      refine loadNA_whole hB hq4 rfl ?_
      refine callA_of (Data_spec i) fun _ h5 ⟨e, s5⟩ f5 => ?_
      subst e
      rw [hd]
      refine callA_of (has_spec (2 + s.jou) (s.tot - 2 - s.jou) n (by unfold i64R; omega)) fun _ h6 ⟨e, s6⟩ f6 => ?_
      subst e
      have c5 : decide (2 + s.jou ≤ n) = false := decide_eq_false (by omega)
      simp only [c5, Bool.false_and, lenSl_slice, lenStr_string, str_size, fpureA_some, fnilA_ptr, faddA_ptr, addr_add, Nat.zero_add, Nat.add_zero, fpureQ_k, fpureQ_nilA, fpureQ_addA, fpureQ_pureA, fpureQ_guardA, fpureQ_idxSlA, fpureQ_pickA, freadQ_loadA, freadQ_loadNA, freadQ_b2sA, freadQ_guardA, freadQ_slSlA, freadQ_k, fendA, fallA_one, fstillA_nil, fguardA_tt, fguardA_ff, fguardA_tf, fguardA_ft, fguardA_undef, fpickA_true, fpickA_false, fcondA_true, fcondA_false, binA_add, binA_sub, binA_mul, binA_eql, binA_neq, binA_lss, binA_leq, binA_gtr, binA_geq, unA_not, Bool.not_true, Bool.not_false, convA_int, extA_tuple, List.getElem?_toArray, List.getElem?_cons_zero, List.getElem?_cons_succ, retA_iff, oneOf_one]
      exact ⟨by simp, by simp [Shp.kind, g, h1, h2', h4'], (st4.trans s5).trans s6⟩
    have c4 : decide (2 ≤ n) = true := decide_eq_true (by omega)
    by_cases h5' : n < 2 + s.jou
    · have c5 : decide (n < 2 + s.jou) = true := decide_eq_true h5'
      simp only [c4, c5, Bool.and_self, lenSl_slice, lenStr_string, str_size, fpureA_some, fnilA_ptr, faddA_ptr, addr_add, Nat.zero_add, Nat.add_zero, fpureQ_k, fpureQ_nilA, fpureQ_addA, fpureQ_pureA, fpureQ_guardA, fpureQ_idxSlA, fpureQ_pickA, freadQ_loadA, freadQ_loadNA, freadQ_b2sA, freadQ_guardA, freadQ_slSlA, freadQ_k, fendA, fallA_one, fstillA_nil, fguardA_tt, fguardA_ff, fguardA_tf, fguardA_ft, fguardA_undef, fpickA_true, fpickA_false, fcondA_true, fcondA_false, binA_add, binA_sub, binA_mul, binA_eql, binA_neq, binA_lss, binA_leq, binA_gtr, binA_geq, unA_not, Bool.not_true, Bool.not_false, convA_int, extA_tuple, List.getElem?_toArray, List.getElem?_cons_zero, List.getElem?_cons_succ, retA_iff, oneOf_one]
      exact ⟨by simp, by simp [Shp.kind, g, h1, h2', h4', h5'], st4⟩
    have c5 : decide (n < 2 + s.jou) = false := decide_eq_false h5'
    simp only [c4, c5, Bool.and_false, lenSl_slice, lenStr_string, str_size, fpureA_some, fnilA_ptr, faddA_ptr, addr_add, Nat.zero_add, Nat.add_zero, fpureQ_k, fpureQ_nilA, fpureQ_addA, fpureQ_pureA, fpureQ_guardA, fpureQ_idxSlA, fpureQ_pickA, freadQ_loadA, freadQ_loadNA, freadQ_b2sA, freadQ_guardA, freadQ_slSlA, freadQ_k, fendA, fallA_one, fstillA_nil, fguardA_tt, fguardA_ff, fguardA_tf, fguardA_ft, fguardA_undef, fpickA_true, fpickA_false, fcondA_true, fcondA_false, binA_add, binA_sub, binA_mul, binA_eql, binA_neq, binA_lss, binA_leq, binA_gtr, binA_geq, unA_not, Bool.not_true, Bool.not_false, convA_int, extA_tuple, List.getElem?_toArray, List.getElem?_cons_zero, List.getElem?_cons_succ]
    refine loadNA_whole hB hq4 rfl ?_
    refine callA_of (Data_spec i) fun _ h5 ⟨e, s5⟩ f5 => ?_
    subst e
    rw [hd]
    refine callA_of (has_spec (2 + s.jou) (s.tot - 2 - s.jou) n (by unfold i64R; omega)) fun _ h6 ⟨e, s6⟩ f6 => ?_
    subst e
    have c6 : decide (2 + s.jou ≤ n) = true := decide_eq_true (by omega)
    have c7 : decide (n < 2 + s.jou + (s.tot - 2 - s.jou)) = true := decide_eq_true (by omega)
    simp only [c6, c7, Bool.and_self, lenSl_slice, lenStr_string, str_size, fpureA_some, fnilA_ptr, faddA_ptr, addr_add, Nat.zero_add, Nat.add_zero, fpureQ_k, fpureQ_nilA, fpureQ_addA, fpureQ_pureA, fpureQ_guardA, fpureQ_idxSlA, fpureQ_pickA, freadQ_loadA, freadQ_loadNA, freadQ_b2sA, freadQ_guardA, freadQ_slSlA, freadQ_k, fendA, fallA_one, fstillA_nil, fguardA_tt, fguardA_ff, fguardA_tf, fguardA_ft, fguardA_undef, fpickA_true, fpickA_false, fcondA_true, fcondA_false, binA_add, binA_sub, binA_mul, binA_eql, binA_neq, binA_lss, binA_leq, binA_gtr, binA_geq, unA_not, Bool.not_true, Bool.not_false, convA_int, extA_tuple, List.getElem?_toArray, List.getElem?_cons_zero, List.getElem?_cons_succ, retA_iff, oneOf_one]
    exact ⟨by simp, by simp [Shp.kind, g, h1, h2', h4', h5'], (st4.trans s5).trans s6⟩
end
end Go.Proofs.Ytihebhdgjnibfaa.Ah
namespace Go.Proofs.Ytihebhdgjnibfaa.Ah
open Go

/-- A superblock. -/
structure Sup where
  gen : Int
  root : Int
  s : Shp
def Sup.e (x : Sup) : List Value := .int .u64 x.gen :: .int .i64 x.root :: x.s.e
def Sup.v (x : Sup) : Value := .agg x.e.toArray
structure Sup.In (x : Sup) : Prop where
  gen : 0 ≤ x.gen ∧ x.gen ≤ 18446744073709551615
  root : i64R x.root
  s : x.s.In
def Sup.check (x : Sup) : Int := if x.s.good then (if x.root = 0 ∨ x.s.kind x.root = 3 then 0 else 40) else 41
section
variable {w0 : World} {h : Hp} {K : Kont} {s : Shp} {x : Sup}
theorem Sup.junk (x : Sup) : x.v ≠ junk := by simp [Sup.v, Go.Proofs.Ytihebhdgjnibfaa.Ah.junk]
theorem CheckSuper_spec (i : x.In) : ACalls prog w0 n_layout_CheckSuper [x.v] h fun v h' => v = .int .i64 x.check ∧ Step h h' [] [] := by
  refine ACalls.of_fit (by simpa using x.junk) fun f => c_layout_CheckSuper (by simpa using x.junk) ?_
  simp only [s_layout_CheckSuper, Sup.v, boxA_agg, List.toList_toArray, lenSl_slice, lenStr_string, str_size, fpureA_some, fnilA_ptr, faddA_ptr, addr_add, Nat.zero_add, Nat.add_zero, fpureQ_k, fpureQ_nilA, fpureQ_addA, fpureQ_pureA, fpureQ_guardA, fpureQ_idxSlA, fpureQ_pickA, freadQ_loadA, freadQ_loadNA, freadQ_b2sA, freadQ_guardA, freadQ_slSlA, freadQ_k, fendA, fallA_one, fstillA_nil, fguardA_tt, fguardA_ff, fguardA_tf, fguardA_ft, fguardA_undef, fpickA_true, fpickA_false, fcondA_true, fcondA_false, binA_add, binA_sub, binA_mul, binA_eql, binA_neq, binA_lss, binA_leq, binA_gtr, binA_geq, unA_not, Bool.not_true, Bool.not_false, convA_int, extA_tuple, List.getElem?_toArray, List.getElem?_cons_zero, List.getElem?_cons_succ]
  have s1 : Step h (h.new x.e 12) [] [] := ((Step.refl h [] (by simp)).new _ _).drop
  have hq1 : (h.new x.e 12).blk h.next = some x.e := by simp
  have hn1 : h.next < (h.new x.e 12).next := by simp
  have hB := f.base
  generalize h.new x.e 12 = h1 at s1 hq1 hn1 ⊢
  have hcut : (x.e.drop 2).take 10 = x.s.e := rfl
  refine loadNA_part hB hq1 hcut (by simp [Sup.e, Shp.e]) ?_
  refine callA_of (right_spec i.s) fun _ h2 ⟨e, s2⟩ f2 => ?_
  subst e
  have hq2 := (s2.keep _ hn1 (by simp)).1.trans hq1
  have st := s1.trans s2
  cases g : x.s.good with
  | false =>
    simp only [lenSl_slice, lenStr_string, str_size, fpureA_some, fnilA_ptr, faddA_ptr, addr_add, Nat.zero_add, Nat.add_zero, fpureQ_k, fpureQ_nilA, fpureQ_addA, fpureQ_pureA, fpureQ_guardA, fpureQ_idxSlA, fpureQ_pickA, freadQ_loadA, freadQ_loadNA, freadQ_b2sA, freadQ_guardA, freadQ_slSlA, freadQ_k, fendA, fallA_one, fstillA_nil, fguardA_tt, fguardA_ff, fguardA_tf, fguardA_ft, fguardA_undef, fpickA_true, fpickA_false, fcondA_true, fcondA_false, binA_add, binA_sub, binA_mul, binA_eql, binA_neq, binA_lss, binA_leq, binA_gtr, binA_geq, unA_not, Bool.not_true, Bool.not_false, convA_int, extA_tuple, List.getElem?_toArray, List.getElem?_cons_zero, List.getElem?_cons_succ, retA_iff, oneOf_one]
    exact ⟨by simp, by simp [Sup.check, g], st⟩
  | true =>
    simp only [lenSl_slice, lenStr_string, str_size, fpureA_some, fnilA_ptr, faddA_ptr, addr_add, Nat.zero_add, Nat.add_zero, fpureQ_k, fpureQ_nilA, fpureQ_addA, fpureQ_pureA, fpureQ_guardA, fpureQ_idxSlA, fpureQ_pickA, freadQ_loadA, freadQ_loadNA, freadQ_b2sA, freadQ_guardA, freadQ_slSlA, freadQ_k, fendA, fallA_one, fstillA_nil, fguardA_tt, fguardA_ff, fguardA_tf, fguardA_ft, fguardA_undef, fpickA_true, fpickA_false, fcondA_true, fcondA_false, binA_add, binA_sub, binA_mul, binA_eql, binA_neq, binA_lss, binA_leq, binA_gtr, binA_geq, unA_not, Bool.not_true, Bool.not_false, convA_int, extA_tuple, List.getElem?_toArray, List.getElem?_cons_zero, List.getElem?_cons_succ]
    refine loadA_at hB hq2 (by rfl) ?_
    by_cases h1' : x.root = 0
    · have c1 : (x.root != 0) = false := by simp [h1']
      simp only [c1, lenSl_slice, lenStr_string, str_size, fpureA_some, fnilA_ptr, faddA_ptr, addr_add, Nat.zero_add, Nat.add_zero, fpureQ_k, fpureQ_nilA, fpureQ_addA, fpureQ_pureA, fpureQ_guardA, fpureQ_idxSlA, fpureQ_pickA, freadQ_loadA, freadQ_loadNA, freadQ_b2sA, freadQ_guardA, freadQ_slSlA, freadQ_k, fendA, fallA_one, fstillA_nil, fguardA_tt, fguardA_ff, fguardA_tf, fguardA_ft, fguardA_undef, fpickA_true, fpickA_false, fcondA_true, fcondA_false, binA_add, binA_sub, binA_mul, binA_eql, binA_neq, binA_lss, binA_leq, binA_gtr, binA_geq, unA_not, Bool.not_true, Bool.not_false, convA_int, extA_tuple, List.getElem?_toArray, List.getElem?_cons_zero, List.getElem?_cons_succ, retA_iff, oneOf_one]
      exact ⟨by simp, by simp [Sup.check, g, h1'], st⟩
    have c1 : (x.root != 0) = true := by simp [h1']
    simp only [c1, lenSl_slice, lenStr_string, str_size, fpureA_some, fnilA_ptr, faddA_ptr, addr_add, Nat.zero_add, Nat.add_zero, fpureQ_k, fpureQ_nilA, fpureQ_addA, fpureQ_pureA, fpureQ_guardA, fpureQ_idxSlA, fpureQ_pickA, freadQ_loadA, freadQ_loadNA, freadQ_b2sA, freadQ_guardA, freadQ_slSlA, freadQ_k, fendA, fallA_one, fstillA_nil, fguardA_tt, fguardA_ff, fguardA_tf, fguardA_ft, fguardA_undef, fpickA_true, fpickA_false, fcondA_true, fcondA_false, binA_add, binA_sub, binA_mul, binA_eql, binA_neq, binA_lss, binA_leq, binA_gtr, binA_geq, unA_not, Bool.not_true, Bool.not_false, convA_int, extA_tuple, List.getElem?_toArray, List.getElem?_cons_zero, List.getElem?_cons_succ]
    refine loadNA_part hB hq2 hcut (by simp [Sup.e, Shp.e]) ?_
    refine loadA_at hB hq2 (by rfl) ?_
    refine callA_of (Kind_spec i.s x.root i.root) fun _ h3 ⟨e, s3⟩ f3 => ?_
    subst e
    by_cases h2' : x.s.kind x.root = 3
    · have c2 : (x.s.kind x.root != 3) = false := by simp [h2']
      simp only [c2, lenSl_slice, lenStr_string, str_size, fpureA_some, fnilA_ptr, faddA_ptr, addr_add, Nat.zero_add, Nat.add_zero, fpureQ_k, fpureQ_nilA, fpureQ_addA, fpureQ_pureA, fpureQ_guardA, fpureQ_idxSlA, fpureQ_pickA, freadQ_loadA, freadQ_loadNA, freadQ_b2sA, freadQ_guardA, freadQ_slSlA, freadQ_k, fendA, fallA_one, fstillA_nil, fguardA_tt, fguardA_ff, fguardA_tf, fguardA_ft, fguardA_undef, fpickA_true, fpickA_false, fcondA_true, fcondA_false, binA_add, binA_sub, binA_mul, binA_eql, binA_neq, binA_lss, binA_leq, binA_gtr, binA_geq, unA_not, Bool.not_true, Bool.not_false, convA_int, extA_tuple, List.getElem?_toArray, List.getElem?_cons_zero, List.getElem?_cons_succ, retA_iff, oneOf_one]
      exact ⟨by simp, by simp [Sup.check, g, h2'], st.trans s3⟩
    · have c2 : (x.s.kind x.root != 3) = true := by simp [h2']
      simp only [c2, lenSl_slice, lenStr_string, str_size, fpureA_some, fnilA_ptr, faddA_ptr, addr_add, Nat.zero_add, Nat.add_zero, fpureQ_k, fpureQ_nilA, fpureQ_addA, fpureQ_pureA, fpureQ_guardA, fpureQ_idxSlA, fpureQ_pickA, freadQ_loadA, freadQ_loadNA, freadQ_b2sA, freadQ_guardA, freadQ_slSlA, freadQ_k, fendA, fallA_one, fstillA_nil, fguardA_tt, fguardA_ff, fguardA_tf, fguardA_ft, fguardA_undef, fpickA_true, fpickA_false, fcondA_true, fcondA_false, binA_add, binA_sub, binA_mul, binA_eql, binA_neq, binA_lss, binA_leq, binA_gtr, binA_geq, unA_not, Bool.not_true, Bool.not_false, convA_int, extA_tuple, List.getElem?_toArray, List.getElem?_cons_zero, List.getElem?_cons_succ, retA_iff, oneOf_one]
      exact ⟨by simp, by simp [Sup.check, g, h1', h2'], st.trans s3⟩
/-! ### The document's -/
theorem rCheck_spec (i : s.In) : ACalls prog w0 n_dedupref04_Check [s.v] h fun v h' => v = .int .i64 s.check ∧ Step h h' [] [] := by
  refine ACalls.of_fit (by simpa using s.junk) fun f => c_dedupref04_Check (by simpa using s.junk) ?_
  simp only [s_dedupref04_Check, Shp.v, boxA_agg, List.toList_toArray, lenSl_slice, lenStr_string, str_size, fpureA_some, fnilA_ptr, faddA_ptr, addr_add, Nat.zero_add, Nat.add_zero, fpureQ_k, fpureQ_nilA, fpureQ_addA, fpureQ_pureA, fpureQ_guardA, fpureQ_idxSlA, fpureQ_pickA, freadQ_loadA, freadQ_loadNA, freadQ_b2sA, freadQ_guardA, freadQ_slSlA, freadQ_k, fendA, fallA_one, fstillA_nil, fguardA_tt, fguardA_ff, fguardA_tf, fguardA_ft, fguardA_undef, fpickA_true, fpickA_false, fcondA_true, fcondA_false, binA_add, binA_sub, binA_mul, binA_eql, binA_neq, binA_lss, binA_leq, binA_gtr, binA_geq, unA_not, Bool.not_true, Bool.not_false, convA_int, extA_tuple, List.getElem?_toArray, List.getElem?_cons_zero, List.getElem?_cons_succ]
  have s1 : Step h (h.new s.e 10) [] [] := ((Step.refl h [] (by simp)).new _ _).drop
  have hq1 : (h.new s.e 10).blk h.next = some s.e := by simp
  have hn1 : h.next < (h.new s.e 10).next := by simp
  have hB := f.base
  generalize h.new s.e 10 = h1 at s1 hq1 hn1 ⊢
  obtain ⟨is, it, ij, ip, imn, inm, imx, ise, ib⟩ := i
  have hB2 : w0.heap.size ≤ h1.next := by omega
  have hcut : (s.e.drop 4).take 4 = [.int .i64 s.mn, .int .i64 s.nm, .int .i64 s.mx, .int .u64 s.seed] := rfl
  refine loadNA_part hB hq1 hcut (by simp [Shp.e]) ?_
  simp only [newA_iff]
  refine ⟨by simp, storeN0 (cs := [.int .i64 0, .int .i64 0, .int .i64 0, .int .u64 0]) hB2 (by simp) rfl rfl (by rfl) ?_⟩
  rw [put_new]
  have s2 : Step h1 (h1.new [.int .i64 s.mn, .int .i64 s.nm, .int .i64 s.mx, .int .u64 s.seed] 4) [] [] := ((Step.refl h1 [] (by simp)).new _ _).drop
  have hq2 : (h1.new [.int .i64 s.mn, .int .i64 s.nm, .int .i64 s.mx, .int .u64 s.seed] 4).blk h1.next = some [.int .i64 s.mn, .int .i64 s.nm, .int .i64 s.mx, .int .u64 s.seed] := by simp
  generalize h1.new [.int .i64 s.mn, .int .i64 s.nm, .int .i64 s.mx, .int .u64 s.seed] 4 = h3 at s2 hq2 ⊢
  have hq3 := (s2.keep _ hn1 (by simp)).1.trans hq1
  have st := s1.trans s2
  have bad : ∀ {h' : Hp}, h' = h3 → ¬ s.Good → (retA [.int .i64 41] fun v h' => v = .int .i64 s.check ∧ Step h h' [] []) h' := by
    intro h' e hg
    subst e
    simp only [retA_iff, oneOf_one]
    exact ⟨by simp, by simp [Shp.check, Shp.bad hg], st⟩
  simp only [lenSl_slice, lenStr_string, str_size, fpureA_some, fnilA_ptr, faddA_ptr, addr_add, Nat.zero_add, Nat.add_zero, fpureQ_k, fpureQ_nilA, fpureQ_addA, fpureQ_pureA, fpureQ_guardA, fpureQ_idxSlA, fpureQ_pickA, freadQ_loadA, freadQ_loadNA, freadQ_b2sA, freadQ_guardA, freadQ_slSlA, freadQ_k, fendA, fallA_one, fstillA_nil, fguardA_tt, fguardA_ff, fguardA_tf, fguardA_ft, fguardA_undef, fpickA_true, fpickA_false, fcondA_true, fcondA_false, binA_add, binA_sub, binA_mul, binA_eql, binA_neq, binA_lss, binA_leq, binA_gtr, binA_geq, unA_not, Bool.not_true, Bool.not_false, convA_int, extA_tuple, List.getElem?_toArray, List.getElem?_cons_zero, List.getElem?_cons_succ]
  refine loadA_at hB hq3 (by rfl) ?_
  refine callA_of (rpower_sector s.sec) fun _ h4 ⟨e, e4⟩ f4 => ?_
  subst e e4
  cases g1 : pow2 512 4096 s.sec with
  | false => simp only [lenSl_slice, lenStr_string, str_size, fpureA_some, fnilA_ptr, faddA_ptr, addr_add, Nat.zero_add, Nat.add_zero, fpureQ_k, fpureQ_nilA, fpureQ_addA, fpureQ_pureA, fpureQ_guardA, fpureQ_idxSlA, fpureQ_pickA, freadQ_loadA, freadQ_loadNA, freadQ_b2sA, freadQ_guardA, freadQ_slSlA, freadQ_k, fendA, fallA_one, fstillA_nil, fguardA_tt, fguardA_ff, fguardA_tf, fguardA_ft, fguardA_undef, fpickA_true, fpickA_false, fcondA_true, fcondA_false, binA_add, binA_sub, binA_mul, binA_eql, binA_neq, binA_lss, binA_leq, binA_gtr, binA_geq, unA_not, Bool.not_true, Bool.not_false, convA_int, extA_tuple, List.getElem?_toArray, List.getElem?_cons_zero, List.getElem?_cons_succ]; exact bad rfl fun g => by have := g.sec; rw [g1] at this; simp at this
  | true =>
  simp only [lenSl_slice, lenStr_string, str_size, fpureA_some, fnilA_ptr, faddA_ptr, addr_add, Nat.zero_add, Nat.add_zero, fpureQ_k, fpureQ_nilA, fpureQ_addA, fpureQ_pureA, fpureQ_guardA, fpureQ_idxSlA, fpureQ_pickA, freadQ_loadA, freadQ_loadNA, freadQ_b2sA, freadQ_guardA, freadQ_slSlA, freadQ_k, fendA, fallA_one, fstillA_nil, fguardA_tt, fguardA_ff, fguardA_tf, fguardA_ft, fguardA_undef, fpickA_true, fpickA_false, fcondA_true, fcondA_false, binA_add, binA_sub, binA_mul, binA_eql, binA_neq, binA_lss, binA_leq, binA_gtr, binA_geq, unA_not, Bool.not_true, Bool.not_false, convA_int, extA_tuple, List.getElem?_toArray, List.getElem?_cons_zero, List.getElem?_cons_succ]
  refine loadA_at hB hq3 (by rfl) ?_
  by_cases g2 : s.tot < 16
  · have c : decide (s.tot < 16) = true := decide_eq_true g2
    simp only [c, lenSl_slice, lenStr_string, str_size, fpureA_some, fnilA_ptr, faddA_ptr, addr_add, Nat.zero_add, Nat.add_zero, fpureQ_k, fpureQ_nilA, fpureQ_addA, fpureQ_pureA, fpureQ_guardA, fpureQ_idxSlA, fpureQ_pickA, freadQ_loadA, freadQ_loadNA, freadQ_b2sA, freadQ_guardA, freadQ_slSlA, freadQ_k, fendA, fallA_one, fstillA_nil, fguardA_tt, fguardA_ff, fguardA_tf, fguardA_ft, fguardA_undef, fpickA_true, fpickA_false, fcondA_true, fcondA_false, binA_add, binA_sub, binA_mul, binA_eql, binA_neq, binA_lss, binA_leq, binA_gtr, binA_geq, unA_not, Bool.not_true, Bool.not_false, convA_int, extA_tuple, List.getElem?_toArray, List.getElem?_cons_zero, List.getElem?_cons_succ]; exact bad rfl fun g => by have := g.tot; omega
  have c2 : decide (s.tot < 16) = false := decide_eq_false g2
  simp only [c2, lenSl_slice, lenStr_string, str_size, fpureA_some, fnilA_ptr, faddA_ptr, addr_add, Nat.zero_add, Nat.add_zero, fpureQ_k, fpureQ_nilA, fpureQ_addA, fpureQ_pureA, fpureQ_guardA, fpureQ_idxSlA, fpureQ_pickA, freadQ_loadA, freadQ_loadNA, freadQ_b2sA, freadQ_guardA, freadQ_slSlA, freadQ_k, fendA, fallA_one, fstillA_nil, fguardA_tt, fguardA_ff, fguardA_tf, fguardA_ft, fguardA_undef, fpickA_true, fpickA_false, fcondA_true, fcondA_false, binA_add, binA_sub, binA_mul, binA_eql, binA_neq, binA_lss, binA_leq, binA_gtr, binA_geq, unA_not, Bool.not_true, Bool.not_false, convA_int, extA_tuple, List.getElem?_toArray, List.getElem?_cons_zero, List.getElem?_cons_succ]
  refine loadA_at hB hq3 (by rfl) ?_
  by_cases g3 : 4096 < s.tot
  · have c : decide (4096 < s.tot) = true := decide_eq_true g3
    simp only [c, lenSl_slice, lenStr_string, str_size, fpureA_some, fnilA_ptr, faddA_ptr, addr_add, Nat.zero_add, Nat.add_zero, fpureQ_k, fpureQ_nilA, fpureQ_addA, fpureQ_pureA, fpureQ_guardA, fpureQ_idxSlA, fpureQ_pickA, freadQ_loadA, freadQ_loadNA, freadQ_b2sA, freadQ_guardA, freadQ_slSlA, freadQ_k, fendA, fallA_one, fstillA_nil, fguardA_tt, fguardA_ff, fguardA_tf, fguardA_ft, fguardA_undef, fpickA_true, fpickA_false, fcondA_true, fcondA_false, binA_add, binA_sub, binA_mul, binA_eql, binA_neq, binA_lss, binA_leq, binA_gtr, binA_geq, unA_not, Bool.not_true, Bool.not_false, convA_int, extA_tuple, List.getElem?_toArray, List.getElem?_cons_zero, List.getElem?_cons_succ]; exact bad rfl fun g => by have := g.tot; omega
  have c3 : decide (4096 < s.tot) = false := decide_eq_false g3
  simp only [c3, lenSl_slice, lenStr_string, str_size, fpureA_some, fnilA_ptr, faddA_ptr, addr_add, Nat.zero_add, Nat.add_zero, fpureQ_k, fpureQ_nilA, fpureQ_addA, fpureQ_pureA, fpureQ_guardA, fpureQ_idxSlA, fpureQ_pickA, freadQ_loadA, freadQ_loadNA, freadQ_b2sA, freadQ_guardA, freadQ_slSlA, freadQ_k, fendA, fallA_one, fstillA_nil, fguardA_tt, fguardA_ff, fguardA_tf, fguardA_ft, fguardA_undef, fpickA_true, fpickA_false, fcondA_true, fcondA_false, binA_add, binA_sub, binA_mul, binA_eql, binA_neq, binA_lss, binA_leq, binA_gtr, binA_geq, unA_not, Bool.not_true, Bool.not_false, convA_int, extA_tuple, List.getElem?_toArray, List.getElem?_cons_zero, List.getElem?_cons_succ]
  refine loadA_at hB hq3 (by rfl) ?_
  by_cases g4 : s.jou < 2
  · have c : decide (s.jou < 2) = true := decide_eq_true g4
    simp only [c, lenSl_slice, lenStr_string, str_size, fpureA_some, fnilA_ptr, faddA_ptr, addr_add, Nat.zero_add, Nat.add_zero, fpureQ_k, fpureQ_nilA, fpureQ_addA, fpureQ_pureA, fpureQ_guardA, fpureQ_idxSlA, fpureQ_pickA, freadQ_loadA, freadQ_loadNA, freadQ_b2sA, freadQ_guardA, freadQ_slSlA, freadQ_k, fendA, fallA_one, fstillA_nil, fguardA_tt, fguardA_ff, fguardA_tf, fguardA_ft, fguardA_undef, fpickA_true, fpickA_false, fcondA_true, fcondA_false, binA_add, binA_sub, binA_mul, binA_eql, binA_neq, binA_lss, binA_leq, binA_gtr, binA_geq, unA_not, Bool.not_true, Bool.not_false, convA_int, extA_tuple, List.getElem?_toArray, List.getElem?_cons_zero, List.getElem?_cons_succ]; exact bad rfl fun g => by have := g.jou; omega
  have c4 : decide (s.jou < 2) = false := decide_eq_false g4
  simp only [c4, lenSl_slice, lenStr_string, str_size, fpureA_some, fnilA_ptr, faddA_ptr, addr_add, Nat.zero_add, Nat.add_zero, fpureQ_k, fpureQ_nilA, fpureQ_addA, fpureQ_pureA, fpureQ_guardA, fpureQ_idxSlA, fpureQ_pickA, freadQ_loadA, freadQ_loadNA, freadQ_b2sA, freadQ_guardA, freadQ_slSlA, freadQ_k, fendA, fallA_one, fstillA_nil, fguardA_tt, fguardA_ff, fguardA_tf, fguardA_ft, fguardA_undef, fpickA_true, fpickA_false, fcondA_true, fcondA_false, binA_add, binA_sub, binA_mul, binA_eql, binA_neq, binA_lss, binA_leq, binA_gtr, binA_geq, unA_not, Bool.not_true, Bool.not_false, convA_int, extA_tuple, List.getElem?_toArray, List.getElem?_cons_zero, List.getElem?_cons_succ]
  refine loadA_at hB hq3 (by rfl) ?_
  refine loadA_at hB hq3 (by rfl) ?_
  have e4 : IntKind.i64.wrap (s.tot.tdiv 4) = s.tot / 4 := by
    rw [Int.tdiv_eq_ediv_of_nonneg (by omega), IntWalk.i64_in _ (by omega)]
  simp only [binA_quo _ _ _ (show (4 : Int) ≠ 0 by decide), lenSl_slice, lenStr_string, str_size, fpureA_some, fnilA_ptr, faddA_ptr, addr_add, Nat.zero_add, Nat.add_zero, fpureQ_k, fpureQ_nilA, fpureQ_addA, fpureQ_pureA, fpureQ_guardA, fpureQ_idxSlA, fpureQ_pickA, freadQ_loadA, freadQ_loadNA, freadQ_b2sA, freadQ_guardA, freadQ_slSlA, freadQ_k, fendA, fallA_one, fstillA_nil, fguardA_tt, fguardA_ff, fguardA_tf, fguardA_ft, fguardA_undef, fpickA_true, fpickA_false, fcondA_true, fcondA_false, binA_add, binA_sub, binA_mul, binA_eql, binA_neq, binA_lss, binA_leq, binA_gtr, binA_geq, unA_not, Bool.not_true, Bool.not_false, convA_int, extA_tuple, List.getElem?_toArray, List.getElem?_cons_zero, List.getElem?_cons_succ, e4]
  by_cases g5 : s.tot / 4 < s.jou
  · have c : decide (s.tot / 4 < s.jou) = true := decide_eq_true g5
    simp only [c, lenSl_slice, lenStr_string, str_size, fpureA_some, fnilA_ptr, faddA_ptr, addr_add, Nat.zero_add, Nat.add_zero, fpureQ_k, fpureQ_nilA, fpureQ_addA, fpureQ_pureA, fpureQ_guardA, fpureQ_idxSlA, fpureQ_pickA, freadQ_loadA, freadQ_loadNA, freadQ_b2sA, freadQ_guardA, freadQ_slSlA, freadQ_k, fendA, fallA_one, fstillA_nil, fguardA_tt, fguardA_ff, fguardA_tf, fguardA_ft, fguardA_undef, fpickA_true, fpickA_false, fcondA_true, fcondA_false, binA_add, binA_sub, binA_mul, binA_eql, binA_neq, binA_lss, binA_leq, binA_gtr, binA_geq, unA_not, Bool.not_true, Bool.not_false, convA_int, extA_tuple, List.getElem?_toArray, List.getElem?_cons_zero, List.getElem?_cons_succ]; exact bad rfl fun g => by have := g.jou; omega
  have c5 : decide (s.tot / 4 < s.jou) = false := decide_eq_false g5
  simp only [c5, lenSl_slice, lenStr_string, str_size, fpureA_some, fnilA_ptr, faddA_ptr, addr_add, Nat.zero_add, Nat.add_zero, fpureQ_k, fpureQ_nilA, fpureQ_addA, fpureQ_pureA, fpureQ_guardA, fpureQ_idxSlA, fpureQ_pickA, freadQ_loadA, freadQ_loadNA, freadQ_b2sA, freadQ_guardA, freadQ_slSlA, freadQ_k, fendA, fallA_one, fstillA_nil, fguardA_tt, fguardA_ff, fguardA_tf, fguardA_ft, fguardA_undef, fpickA_true, fpickA_false, fcondA_true, fcondA_false, binA_add, binA_sub, binA_mul, binA_eql, binA_neq, binA_lss, binA_leq, binA_gtr, binA_geq, unA_not, Bool.not_true, Bool.not_false, convA_int, extA_tuple, List.getElem?_toArray, List.getElem?_cons_zero, List.getElem?_cons_succ]
  refine loadA_at hB hq3 (by rfl) ?_
  by_cases g6 : s.pck < 2
  · have c : decide (s.pck < 2) = true := decide_eq_true g6
    simp only [c, lenSl_slice, lenStr_string, str_size, fpureA_some, fnilA_ptr, faddA_ptr, addr_add, Nat.zero_add, Nat.add_zero, fpureQ_k, fpureQ_nilA, fpureQ_addA, fpureQ_pureA, fpureQ_guardA, fpureQ_idxSlA, fpureQ_pickA, freadQ_loadA, freadQ_loadNA, freadQ_b2sA, freadQ_guardA, freadQ_slSlA, freadQ_k, fendA, fallA_one, fstillA_nil, fguardA_tt, fguardA_ff, fguardA_tf, fguardA_ft, fguardA_undef, fpickA_true, fpickA_false, fcondA_true, fcondA_false, binA_add, binA_sub, binA_mul, binA_eql, binA_neq, binA_lss, binA_leq, binA_gtr, binA_geq, unA_not, Bool.not_true, Bool.not_false, convA_int, extA_tuple, List.getElem?_toArray, List.getElem?_cons_zero, List.getElem?_cons_succ]; exact bad rfl fun g => by have := g.pck; omega
  have c6 : decide (s.pck < 2) = false := decide_eq_false g6
  simp only [c6, lenSl_slice, lenStr_string, str_size, fpureA_some, fnilA_ptr, faddA_ptr, addr_add, Nat.zero_add, Nat.add_zero, fpureQ_k, fpureQ_nilA, fpureQ_addA, fpureQ_pureA, fpureQ_guardA, fpureQ_idxSlA, fpureQ_pickA, freadQ_loadA, freadQ_loadNA, freadQ_b2sA, freadQ_guardA, freadQ_slSlA, freadQ_k, fendA, fallA_one, fstillA_nil, fguardA_tt, fguardA_ff, fguardA_tf, fguardA_ft, fguardA_undef, fpickA_true, fpickA_false, fcondA_true, fcondA_false, binA_add, binA_sub, binA_mul, binA_eql, binA_neq, binA_lss, binA_leq, binA_gtr, binA_geq, unA_not, Bool.not_true, Bool.not_false, convA_int, extA_tuple, List.getElem?_toArray, List.getElem?_cons_zero, List.getElem?_cons_succ]
  refine loadA_at hB hq3 (by rfl) ?_
  by_cases g7 : 64 < s.pck
  · have c : decide (64 < s.pck) = true := decide_eq_true g7
    simp only [c, lenSl_slice, lenStr_string, str_size, fpureA_some, fnilA_ptr, faddA_ptr, addr_add, Nat.zero_add, Nat.add_zero, fpureQ_k, fpureQ_nilA, fpureQ_addA, fpureQ_pureA, fpureQ_guardA, fpureQ_idxSlA, fpureQ_pickA, freadQ_loadA, freadQ_loadNA, freadQ_b2sA, freadQ_guardA, freadQ_slSlA, freadQ_k, fendA, fallA_one, fstillA_nil, fguardA_tt, fguardA_ff, fguardA_tf, fguardA_ft, fguardA_undef, fpickA_true, fpickA_false, fcondA_true, fcondA_false, binA_add, binA_sub, binA_mul, binA_eql, binA_neq, binA_lss, binA_leq, binA_gtr, binA_geq, unA_not, Bool.not_true, Bool.not_false, convA_int, extA_tuple, List.getElem?_toArray, List.getElem?_cons_zero, List.getElem?_cons_succ]; exact bad rfl fun g => by have := g.pck; omega
  have c7 : decide (64 < s.pck) = false := decide_eq_false g7
  simp only [c7, lenSl_slice, lenStr_string, str_size, fpureA_some, fnilA_ptr, faddA_ptr, addr_add, Nat.zero_add, Nat.add_zero, fpureQ_k, fpureQ_nilA, fpureQ_addA, fpureQ_pureA, fpureQ_guardA, fpureQ_idxSlA, fpureQ_pickA, freadQ_loadA, freadQ_loadNA, freadQ_b2sA, freadQ_guardA, freadQ_slSlA, freadQ_k, fendA, fallA_one, fstillA_nil, fguardA_tt, fguardA_ff, fguardA_tf, fguardA_ft, fguardA_undef, fpickA_true, fpickA_false, fcondA_true, fcondA_false, binA_add, binA_sub, binA_mul, binA_eql, binA_neq, binA_lss, binA_leq, binA_gtr, binA_geq, unA_not, Bool.not_true, Bool.not_false, convA_int, extA_tuple, List.getElem?_toArray, List.getElem?_cons_zero, List.getElem?_cons_succ]
  refine loadA_at hB hq3 (by rfl) ?_
  by_cases g8 : s.bits < 0
  · have c : decide (s.bits < 0) = true := decide_eq_true g8
    simp only [c, lenSl_slice, lenStr_string, str_size, fpureA_some, fnilA_ptr, faddA_ptr, addr_add, Nat.zero_add, Nat.add_zero, fpureQ_k, fpureQ_nilA, fpureQ_addA, fpureQ_pureA, fpureQ_guardA, fpureQ_idxSlA, fpureQ_pickA, freadQ_loadA, freadQ_loadNA, freadQ_b2sA, freadQ_guardA, freadQ_slSlA, freadQ_k, fendA, fallA_one, fstillA_nil, fguardA_tt, fguardA_ff, fguardA_tf, fguardA_ft, fguardA_undef, fpickA_true, fpickA_false, fcondA_true, fcondA_false, binA_add, binA_sub, binA_mul, binA_eql, binA_neq, binA_lss, binA_leq, binA_gtr, binA_geq, unA_not, Bool.not_true, Bool.not_false, convA_int, extA_tuple, List.getElem?_toArray, List.getElem?_cons_zero, List.getElem?_cons_succ]; exact bad rfl fun g => by have := g.bits; omega
  have c8 : decide (s.bits < 0) = false := decide_eq_false g8
  simp only [c8, lenSl_slice, lenStr_string, str_size, fpureA_some, fnilA_ptr, faddA_ptr, addr_add, Nat.zero_add, Nat.add_zero, fpureQ_k, fpureQ_nilA, fpureQ_addA, fpureQ_pureA, fpureQ_guardA, fpureQ_idxSlA, fpureQ_pickA, freadQ_loadA, freadQ_loadNA, freadQ_b2sA, freadQ_guardA, freadQ_slSlA, freadQ_k, fendA, fallA_one, fstillA_nil, fguardA_tt, fguardA_ff, fguardA_tf, fguardA_ft, fguardA_undef, fpickA_true, fpickA_false, fcondA_true, fcondA_false, binA_add, binA_sub, binA_mul, binA_eql, binA_neq, binA_lss, binA_leq, binA_gtr, binA_geq, unA_not, Bool.not_true, Bool.not_false, convA_int, extA_tuple, List.getElem?_toArray, List.getElem?_cons_zero, List.getElem?_cons_succ]
  refine loadA_at hB hq3 (by rfl) ?_
  by_cases g9 : 256 < s.bits
  · have c : decide (256 < s.bits) = true := decide_eq_true g9
    simp only [c, lenSl_slice, lenStr_string, str_size, fpureA_some, fnilA_ptr, faddA_ptr, addr_add, Nat.zero_add, Nat.add_zero, fpureQ_k, fpureQ_nilA, fpureQ_addA, fpureQ_pureA, fpureQ_guardA, fpureQ_idxSlA, fpureQ_pickA, freadQ_loadA, freadQ_loadNA, freadQ_b2sA, freadQ_guardA, freadQ_slSlA, freadQ_k, fendA, fallA_one, fstillA_nil, fguardA_tt, fguardA_ff, fguardA_tf, fguardA_ft, fguardA_undef, fpickA_true, fpickA_false, fcondA_true, fcondA_false, binA_add, binA_sub, binA_mul, binA_eql, binA_neq, binA_lss, binA_leq, binA_gtr, binA_geq, unA_not, Bool.not_true, Bool.not_false, convA_int, extA_tuple, List.getElem?_toArray, List.getElem?_cons_zero, List.getElem?_cons_succ]; exact bad rfl fun g => by have := g.bits; omega
  have c9 : decide (256 < s.bits) = false := decide_eq_false g9
  simp only [c9, lenSl_slice, lenStr_string, str_size, fpureA_some, fnilA_ptr, faddA_ptr, addr_add, Nat.zero_add, Nat.add_zero, fpureQ_k, fpureQ_nilA, fpureQ_addA, fpureQ_pureA, fpureQ_guardA, fpureQ_idxSlA, fpureQ_pickA, freadQ_loadA, freadQ_loadNA, freadQ_b2sA, freadQ_guardA, freadQ_slSlA, freadQ_k, fendA, fallA_one, fstillA_nil, fguardA_tt, fguardA_ff, fguardA_tf, fguardA_ft, fguardA_undef, fpickA_true, fpickA_false, fcondA_true, fcondA_false, binA_add, binA_sub, binA_mul, binA_eql, binA_neq, binA_lss, binA_leq, binA_gtr, binA_geq, unA_not, Bool.not_true, Bool.not_false, convA_int, extA_tuple, List.getElem?_toArray, List.getElem?_cons_zero, List.getElem?_cons_succ]
  refine loadA_at hB2 hq2 (by rfl) ?_
  refine callA_of (rpower_normal s.nm) fun _ h5 ⟨e, e5⟩ f5 => ?_
  subst e e5
  cases g10 : pow2 16 65536 s.nm with
  | false => simp only [lenSl_slice, lenStr_string, str_size, fpureA_some, fnilA_ptr, faddA_ptr, addr_add, Nat.zero_add, Nat.add_zero, fpureQ_k, fpureQ_nilA, fpureQ_addA, fpureQ_pureA, fpureQ_guardA, fpureQ_idxSlA, fpureQ_pickA, freadQ_loadA, freadQ_loadNA, freadQ_b2sA, freadQ_guardA, freadQ_slSlA, freadQ_k, fendA, fallA_one, fstillA_nil, fguardA_tt, fguardA_ff, fguardA_tf, fguardA_ft, fguardA_undef, fpickA_true, fpickA_false, fcondA_true, fcondA_false, binA_add, binA_sub, binA_mul, binA_eql, binA_neq, binA_lss, binA_leq, binA_gtr, binA_geq, unA_not, Bool.not_true, Bool.not_false, convA_int, extA_tuple, List.getElem?_toArray, List.getElem?_cons_zero, List.getElem?_cons_succ]; exact bad rfl fun g => by have := g.nm; rw [g10] at this; simp at this
  | true =>
  have r1 := pow2_range g1
  have r6 := pow2_range g10
  simp only [lenSl_slice, lenStr_string, str_size, fpureA_some, fnilA_ptr, faddA_ptr, addr_add, Nat.zero_add, Nat.add_zero, fpureQ_k, fpureQ_nilA, fpureQ_addA, fpureQ_pureA, fpureQ_guardA, fpureQ_idxSlA, fpureQ_pickA, freadQ_loadA, freadQ_loadNA, freadQ_b2sA, freadQ_guardA, freadQ_slSlA, freadQ_k, fendA, fallA_one, fstillA_nil, fguardA_tt, fguardA_ff, fguardA_tf, fguardA_ft, fguardA_undef, fpickA_true, fpickA_false, fcondA_true, fcondA_false, binA_add, binA_sub, binA_mul, binA_eql, binA_neq, binA_lss, binA_leq, binA_gtr, binA_geq, unA_not, Bool.not_true, Bool.not_false, convA_int, extA_tuple, List.getElem?_toArray, List.getElem?_cons_zero, List.getElem?_cons_succ]
  refine loadA_at hB2 hq2 (by rfl) ?_
  by_cases g11 : s.mn < 1
  · have c : decide (s.mn < 1) = true := decide_eq_true g11
    simp only [c, lenSl_slice, lenStr_string, str_size, fpureA_some, fnilA_ptr, faddA_ptr, addr_add, Nat.zero_add, Nat.add_zero, fpureQ_k, fpureQ_nilA, fpureQ_addA, fpureQ_pureA, fpureQ_guardA, fpureQ_idxSlA, fpureQ_pickA, freadQ_loadA, freadQ_loadNA, freadQ_b2sA, freadQ_guardA, freadQ_slSlA, freadQ_k, fendA, fallA_one, fstillA_nil, fguardA_tt, fguardA_ff, fguardA_tf, fguardA_ft, fguardA_undef, fpickA_true, fpickA_false, fcondA_true, fcondA_false, binA_add, binA_sub, binA_mul, binA_eql, binA_neq, binA_lss, binA_leq, binA_gtr, binA_geq, unA_not, Bool.not_true, Bool.not_false, convA_int, extA_tuple, List.getElem?_toArray, List.getElem?_cons_zero, List.getElem?_cons_succ]; exact bad rfl fun g => by have := g.mn; omega
  have c11 : decide (s.mn < 1) = false := decide_eq_false g11
  simp only [c11, lenSl_slice, lenStr_string, str_size, fpureA_some, fnilA_ptr, faddA_ptr, addr_add, Nat.zero_add, Nat.add_zero, fpureQ_k, fpureQ_nilA, fpureQ_addA, fpureQ_pureA, fpureQ_guardA, fpureQ_idxSlA, fpureQ_pickA, freadQ_loadA, freadQ_loadNA, freadQ_b2sA, freadQ_guardA, freadQ_slSlA, freadQ_k, fendA, fallA_one, fstillA_nil, fguardA_tt, fguardA_ff, fguardA_tf, fguardA_ft, fguardA_undef, fpickA_true, fpickA_false, fcondA_true, fcondA_false, binA_add, binA_sub, binA_mul, binA_eql, binA_neq, binA_lss, binA_leq, binA_gtr, binA_geq, unA_not, Bool.not_true, Bool.not_false, convA_int, extA_tuple, List.getElem?_toArray, List.getElem?_cons_zero, List.getElem?_cons_succ]
  refine loadA_at hB2 hq2 (by rfl) ?_
  refine loadA_at hB2 hq2 (by rfl) ?_
  by_cases g12 : s.nm < s.mn
  · have c : decide (s.nm < s.mn) = true := decide_eq_true g12
    simp only [c, lenSl_slice, lenStr_string, str_size, fpureA_some, fnilA_ptr, faddA_ptr, addr_add, Nat.zero_add, Nat.add_zero, fpureQ_k, fpureQ_nilA, fpureQ_addA, fpureQ_pureA, fpureQ_guardA, fpureQ_idxSlA, fpureQ_pickA, freadQ_loadA, freadQ_loadNA, freadQ_b2sA, freadQ_guardA, freadQ_slSlA, freadQ_k, fendA, fallA_one, fstillA_nil, fguardA_tt, fguardA_ff, fguardA_tf, fguardA_ft, fguardA_undef, fpickA_true, fpickA_false, fcondA_true, fcondA_false, binA_add, binA_sub, binA_mul, binA_eql, binA_neq, binA_lss, binA_leq, binA_gtr, binA_geq, unA_not, Bool.not_true, Bool.not_false, convA_int, extA_tuple, List.getElem?_toArray, List.getElem?_cons_zero, List.getElem?_cons_succ]; exact bad rfl fun g => by have := g.mn; omega
  have c12 : decide (s.nm < s.mn) = false := decide_eq_false g12
  simp only [c12, lenSl_slice, lenStr_string, str_size, fpureA_some, fnilA_ptr, faddA_ptr, addr_add, Nat.zero_add, Nat.add_zero, fpureQ_k, fpureQ_nilA, fpureQ_addA, fpureQ_pureA, fpureQ_guardA, fpureQ_idxSlA, fpureQ_pickA, freadQ_loadA, freadQ_loadNA, freadQ_b2sA, freadQ_guardA, freadQ_slSlA, freadQ_k, fendA, fallA_one, fstillA_nil, fguardA_tt, fguardA_ff, fguardA_tf, fguardA_ft, fguardA_undef, fpickA_true, fpickA_false, fcondA_true, fcondA_false, binA_add, binA_sub, binA_mul, binA_eql, binA_neq, binA_lss, binA_leq, binA_gtr, binA_geq, unA_not, Bool.not_true, Bool.not_false, convA_int, extA_tuple, List.getElem?_toArray, List.getElem?_cons_zero, List.getElem?_cons_succ]
  refine loadA_at hB2 hq2 (by rfl) ?_
  refine loadA_at hB2 hq2 (by rfl) ?_
  by_cases g13 : s.mx < s.nm
  · have c : decide (s.mx < s.nm) = true := decide_eq_true g13
    simp only [c, lenSl_slice, lenStr_string, str_size, fpureA_some, fnilA_ptr, faddA_ptr, addr_add, Nat.zero_add, Nat.add_zero, fpureQ_k, fpureQ_nilA, fpureQ_addA, fpureQ_pureA, fpureQ_guardA, fpureQ_idxSlA, fpureQ_pickA, freadQ_loadA, freadQ_loadNA, freadQ_b2sA, freadQ_guardA, freadQ_slSlA, freadQ_k, fendA, fallA_one, fstillA_nil, fguardA_tt, fguardA_ff, fguardA_tf, fguardA_ft, fguardA_undef, fpickA_true, fpickA_false, fcondA_true, fcondA_false, binA_add, binA_sub, binA_mul, binA_eql, binA_neq, binA_lss, binA_leq, binA_gtr, binA_geq, unA_not, Bool.not_true, Bool.not_false, convA_int, extA_tuple, List.getElem?_toArray, List.getElem?_cons_zero, List.getElem?_cons_succ]; exact bad rfl fun g => by have := g.mx; omega
  have c13 : decide (s.mx < s.nm) = false := decide_eq_false g13
  simp only [c13, lenSl_slice, lenStr_string, str_size, fpureA_some, fnilA_ptr, faddA_ptr, addr_add, Nat.zero_add, Nat.add_zero, fpureQ_k, fpureQ_nilA, fpureQ_addA, fpureQ_pureA, fpureQ_guardA, fpureQ_idxSlA, fpureQ_pickA, freadQ_loadA, freadQ_loadNA, freadQ_b2sA, freadQ_guardA, freadQ_slSlA, freadQ_k, fendA, fallA_one, fstillA_nil, fguardA_tt, fguardA_ff, fguardA_tf, fguardA_ft, fguardA_undef, fpickA_true, fpickA_false, fcondA_true, fcondA_false, binA_add, binA_sub, binA_mul, binA_eql, binA_neq, binA_lss, binA_leq, binA_gtr, binA_geq, unA_not, Bool.not_true, Bool.not_false, convA_int, extA_tuple, List.getElem?_toArray, List.getElem?_cons_zero, List.getElem?_cons_succ]
  refine loadA_at hB2 hq2 (by rfl) ?_
  refine loadA_at hB2 hq2 (by rfl) ?_
  have e8 : IntKind.i64.wrap (8 * s.nm) = 8 * s.nm := IntWalk.i64_in _ (by omega)
  simp only [lenSl_slice, lenStr_string, str_size, fpureA_some, fnilA_ptr, faddA_ptr, addr_add, Nat.zero_add, Nat.add_zero, fpureQ_k, fpureQ_nilA, fpureQ_addA, fpureQ_pureA, fpureQ_guardA, fpureQ_idxSlA, fpureQ_pickA, freadQ_loadA, freadQ_loadNA, freadQ_b2sA, freadQ_guardA, freadQ_slSlA, freadQ_k, fendA, fallA_one, fstillA_nil, fguardA_tt, fguardA_ff, fguardA_tf, fguardA_ft, fguardA_undef, fpickA_true, fpickA_false, fcondA_true, fcondA_false, binA_add, binA_sub, binA_mul, binA_eql, binA_neq, binA_lss, binA_leq, binA_gtr, binA_geq, unA_not, Bool.not_true, Bool.not_false, convA_int, extA_tuple, List.getElem?_toArray, List.getElem?_cons_zero, List.getElem?_cons_succ, e8]
  by_cases g14 : 8 * s.nm < s.mx
  · have c : decide (8 * s.nm < s.mx) = true := decide_eq_true g14
    simp only [c, lenSl_slice, lenStr_string, str_size, fpureA_some, fnilA_ptr, faddA_ptr, addr_add, Nat.zero_add, Nat.add_zero, fpureQ_k, fpureQ_nilA, fpureQ_addA, fpureQ_pureA, fpureQ_guardA, fpureQ_idxSlA, fpureQ_pickA, freadQ_loadA, freadQ_loadNA, freadQ_b2sA, freadQ_guardA, freadQ_slSlA, freadQ_k, fendA, fallA_one, fstillA_nil, fguardA_tt, fguardA_ff, fguardA_tf, fguardA_ft, fguardA_undef, fpickA_true, fpickA_false, fcondA_true, fcondA_false, binA_add, binA_sub, binA_mul, binA_eql, binA_neq, binA_lss, binA_leq, binA_gtr, binA_geq, unA_not, Bool.not_true, Bool.not_false, convA_int, extA_tuple, List.getElem?_toArray, List.getElem?_cons_zero, List.getElem?_cons_succ]; exact bad rfl fun g => by have := g.mx; omega
  have c14 : decide (8 * s.nm < s.mx) = false := decide_eq_false g14
  simp only [c14, lenSl_slice, lenStr_string, str_size, fpureA_some, fnilA_ptr, faddA_ptr, addr_add, Nat.zero_add, Nat.add_zero, fpureQ_k, fpureQ_nilA, fpureQ_addA, fpureQ_pureA, fpureQ_guardA, fpureQ_idxSlA, fpureQ_pickA, freadQ_loadA, freadQ_loadNA, freadQ_b2sA, freadQ_guardA, freadQ_slSlA, freadQ_k, fendA, fallA_one, fstillA_nil, fguardA_tt, fguardA_ff, fguardA_tf, fguardA_ft, fguardA_undef, fpickA_true, fpickA_false, fcondA_true, fcondA_false, binA_add, binA_sub, binA_mul, binA_eql, binA_neq, binA_lss, binA_leq, binA_gtr, binA_geq, unA_not, Bool.not_true, Bool.not_false, convA_int, extA_tuple, List.getElem?_toArray, List.getElem?_cons_zero, List.getElem?_cons_succ]
  refine loadA_at hB2 hq2 (by rfl) ?_
  refine loadA_at hB hq3 (by rfl) ?_
  refine loadA_at hB hq3 (by rfl) ?_
  have hpr : 1024 ≤ s.pck * s.sec ∧ s.pck * s.sec ≤ 262144 := by
    have a := Int.mul_le_mul (show s.pck ≤ 64 by omega) r1.2 (by omega) (by omega)
    have b := Int.mul_le_mul (show 2 ≤ s.pck by omega) r1.1 (by omega) (by omega)
    omega
  have e9 : IntKind.i64.wrap (s.pck * s.sec) = s.pck * s.sec := IntWalk.i64_in _ (by omega)
  have e10 : IntKind.i64.wrap (s.pck * s.sec - 40) = s.pck * s.sec - 40 := IntWalk.i64_in _ (by omega)
  simp only [lenSl_slice, lenStr_string, str_size, fpureA_some, fnilA_ptr, faddA_ptr, addr_add, Nat.zero_add, Nat.add_zero, fpureQ_k, fpureQ_nilA, fpureQ_addA, fpureQ_pureA, fpureQ_guardA, fpureQ_idxSlA, fpureQ_pickA, freadQ_loadA, freadQ_loadNA, freadQ_b2sA, freadQ_guardA, freadQ_slSlA, freadQ_k, fendA, fallA_one, fstillA_nil, fguardA_tt, fguardA_ff, fguardA_tf, fguardA_ft, fguardA_undef, fpickA_true, fpickA_false, fcondA_true, fcondA_false, binA_add, binA_sub, binA_mul, binA_eql, binA_neq, binA_lss, binA_leq, binA_gtr, binA_geq, unA_not, Bool.not_true, Bool.not_false, convA_int, extA_tuple, List.getElem?_toArray, List.getElem?_cons_zero, List.getElem?_cons_succ, e9, e10]
  by_cases g15 : s.pck * s.sec - 40 < s.mx
  · have c : decide (s.pck * s.sec - 40 < s.mx) = true := decide_eq_true g15
    simp only [c, lenSl_slice, lenStr_string, str_size, fpureA_some, fnilA_ptr, faddA_ptr, addr_add, Nat.zero_add, Nat.add_zero, fpureQ_k, fpureQ_nilA, fpureQ_addA, fpureQ_pureA, fpureQ_guardA, fpureQ_idxSlA, fpureQ_pickA, freadQ_loadA, freadQ_loadNA, freadQ_b2sA, freadQ_guardA, freadQ_slSlA, freadQ_k, fendA, fallA_one, fstillA_nil, fguardA_tt, fguardA_ff, fguardA_tf, fguardA_ft, fguardA_undef, fpickA_true, fpickA_false, fcondA_true, fcondA_false, binA_add, binA_sub, binA_mul, binA_eql, binA_neq, binA_lss, binA_leq, binA_gtr, binA_geq, unA_not, Bool.not_true, Bool.not_false, convA_int, extA_tuple, List.getElem?_toArray, List.getElem?_cons_zero, List.getElem?_cons_succ]; exact bad rfl fun g => by have := g.mx; omega
  have c15 : decide (s.pck * s.sec - 40 < s.mx) = false := decide_eq_false g15
  simp only [c15, lenSl_slice, lenStr_string, str_size, fpureA_some, fnilA_ptr, faddA_ptr, addr_add, Nat.zero_add, Nat.add_zero, fpureQ_k, fpureQ_nilA, fpureQ_addA, fpureQ_pureA, fpureQ_guardA, fpureQ_idxSlA, fpureQ_pickA, freadQ_loadA, freadQ_loadNA, freadQ_b2sA, freadQ_guardA, freadQ_slSlA, freadQ_k, fendA, fallA_one, fstillA_nil, fguardA_tt, fguardA_ff, fguardA_tf, fguardA_ft, fguardA_undef, fpickA_true, fpickA_false, fcondA_true, fcondA_false, binA_add, binA_sub, binA_mul, binA_eql, binA_neq, binA_lss, binA_leq, binA_gtr, binA_geq, unA_not, Bool.not_true, Bool.not_false, convA_int, extA_tuple, List.getElem?_toArray, List.getElem?_cons_zero, List.getElem?_cons_succ, retA_iff, oneOf_one]
  have G : s.good = true := s.good_iff.2 ⟨g1, by omega, by omega, by omega, by omega, g10, by omega, by omega⟩
  exact ⟨by simp, by simp [Shp.check, G], st⟩
theorem rJournal_spec (i : s.In) : ACalls prog w0 n_dedupref04_Journal [s.v] h fun v h' => v = area s.journal.1 s.journal.2 ∧ Step h h' [] [] := by
  refine ACalls.of_fit (by simpa using s.junk) fun f => c_dedupref04_Journal (by simpa using s.junk) ?_
  simp only [s_dedupref04_Journal, Shp.v, boxA_agg, List.toList_toArray, newA_iff, lenSl_slice, lenStr_string, str_size, fpureA_some, fnilA_ptr, faddA_ptr, addr_add, Nat.zero_add, Nat.add_zero, fpureQ_k, fpureQ_nilA, fpureQ_addA, fpureQ_pureA, fpureQ_guardA, fpureQ_idxSlA, fpureQ_pickA, freadQ_loadA, freadQ_loadNA, freadQ_b2sA, freadQ_guardA, freadQ_slSlA, freadQ_k, fendA, fallA_one, fstillA_nil, fguardA_tt, fguardA_ff, fguardA_tf, fguardA_ft, fguardA_undef, fpickA_true, fpickA_false, fcondA_true, fcondA_false, binA_add, binA_sub, binA_mul, binA_eql, binA_neq, binA_lss, binA_leq, binA_gtr, binA_geq, unA_not, Bool.not_true, Bool.not_false, convA_int, extA_tuple, List.getElem?_toArray, List.getElem?_cons_zero, List.getElem?_cons_succ]
  have s1 : Step h (h.new s.e 10) [] [] := ((Step.refl h [] (by simp)).new _ _).drop
  have hq1 : (h.new s.e 10).blk h.next = some s.e := by simp
  have hn1 : h.next < (h.new s.e 10).next := by simp
  have hB := f.base
  generalize h.new s.e 10 = h1 at s1 hq1 hn1 ⊢
  have hB1 : w0.heap.size ≤ h1.next := by omega
  refine ⟨by simp, ?_⟩
  have s2 : Step h1 (h1.new [.int .i64 0, .int .i64 0] 2) [] [] := ((Step.refl h1 [] (by simp)).new _ _).drop
  have hq2 : (h1.new [.int .i64 0, .int .i64 0] 2).blk h1.next = some [.int .i64 0, .int .i64 0] := by simp
  have hn2 : h1.next < (h1.new [.int .i64 0, .int .i64 0] 2).next := by simp
  generalize h1.new [.int .i64 0, .int .i64 0] 2 = h2 at s2 hq2 hn2 ⊢
  refine loadNA_whole hB ((s2.keep _ hn1 (by simp)).1.trans hq1) rfl ?_
  refine callA_of (rCheck_spec i) fun _ h3 ⟨e, s3⟩ f3 => ?_
  subst e
  have st := (s1.trans s2).trans s3
  have hq3 := (s3.keep _ hn2 (by simp)).1.trans hq2
  have hp1 : ∀ cs, Step h (h3.put h1.next cs) [] [] := fun cs =>
    ⟨by have := st.next; simpa using this, fun b hb _ => by
      have := (s1.next)
      have hne : b ≠ h1.next := by omega
      have := st.keep b hb (by simp)
      simpa [hne] using this, by simp⟩
  cases g : s.good with
  | false =>
    have c : (s.check != 0) = true := by simp [Shp.check, g]
    simp only [c, lenSl_slice, lenStr_string, str_size, fpureA_some, fnilA_ptr, faddA_ptr, addr_add, Nat.zero_add, Nat.add_zero, fpureQ_k, fpureQ_nilA, fpureQ_addA, fpureQ_pureA, fpureQ_guardA, fpureQ_idxSlA, fpureQ_pickA, freadQ_loadA, freadQ_loadNA, freadQ_b2sA, freadQ_guardA, freadQ_slSlA, freadQ_k, fendA, fallA_one, fstillA_nil, fguardA_tt, fguardA_ff, fguardA_tf, fguardA_ft, fguardA_undef, fpickA_true, fpickA_false, fcondA_true, fcondA_false, binA_add, binA_sub, binA_mul, binA_eql, binA_neq, binA_lss, binA_leq, binA_gtr, binA_geq, unA_not, Bool.not_true, Bool.not_false, convA_int, extA_tuple, List.getElem?_toArray, List.getElem?_cons_zero, List.getElem?_cons_succ, buildA_iff, fillA_nil]
    refine storeN0 hB1 hq3 rfl rfl (by rfl) (loadNA_whole hB1 (by simp; rfl) rfl ?_)
    simp only [retA_iff, oneOf_one]
    exact ⟨by simp, by simp [Shp.journal, g, area], hp1 _⟩
  | true =>
    have c : (s.check != 0) = false := by simp [Shp.check, g]
    simp only [c, lenSl_slice, lenStr_string, str_size, fpureA_some, fnilA_ptr, faddA_ptr, addr_add, Nat.zero_add, Nat.add_zero, fpureQ_k, fpureQ_nilA, fpureQ_addA, fpureQ_pureA, fpureQ_guardA, fpureQ_idxSlA, fpureQ_pickA, freadQ_loadA, freadQ_loadNA, freadQ_b2sA, freadQ_guardA, freadQ_slSlA, freadQ_k, fendA, fallA_one, fstillA_nil, fguardA_tt, fguardA_ff, fguardA_tf, fguardA_ft, fguardA_undef, fpickA_true, fpickA_false, fcondA_true, fcondA_false, binA_add, binA_sub, binA_mul, binA_eql, binA_neq, binA_lss, binA_leq, binA_gtr, binA_geq, unA_not, Bool.not_true, Bool.not_false, convA_int, extA_tuple, List.getElem?_toArray, List.getElem?_cons_zero, List.getElem?_cons_succ]
    refine loadA_at hB ((s3.keep _ (by have := s2.next; omega) (by simp)).1.trans ((s2.keep _ hn1 (by simp)).1.trans hq1)) (by rfl) ?_
    simp only [buildA_iff, fillA_one, fillA_nil, isCell_int, true_and, List.set_cons_zero, List.set_cons_succ, List.length_cons, List.length_nil]
    refine ⟨by omega, by omega, storeN0 hB1 hq3 rfl rfl (by rfl) (loadNA_whole hB1 (by simp; rfl) rfl ?_)⟩
    simp only [retA_iff, oneOf_one]
    exact ⟨by simp, by simp [Shp.journal, g, area], hp1 _⟩
theorem rData_spec (i : s.In) : ACalls prog w0 n_dedupref04_Data [s.v] h fun v h' => v = area s.data.1 s.data.2 ∧ Step h h' [] [] := by
  refine ACalls.of_fit (by simpa using s.junk) fun f => c_dedupref04_Data (by simpa using s.junk) ?_
  simp only [s_dedupref04_Data, Shp.v, boxA_agg, List.toList_toArray, newA_iff, lenSl_slice, lenStr_string, str_size, fpureA_some, fnilA_ptr, faddA_ptr, addr_add, Nat.zero_add, Nat.add_zero, fpureQ_k, fpureQ_nilA, fpureQ_addA, fpureQ_pureA, fpureQ_guardA, fpureQ_idxSlA, fpureQ_pickA, freadQ_loadA, freadQ_loadNA, freadQ_b2sA, freadQ_guardA, freadQ_slSlA, freadQ_k, fendA, fallA_one, fstillA_nil, fguardA_tt, fguardA_ff, fguardA_tf, fguardA_ft, fguardA_undef, fpickA_true, fpickA_false, fcondA_true, fcondA_false, binA_add, binA_sub, binA_mul, binA_eql, binA_neq, binA_lss, binA_leq, binA_gtr, binA_geq, unA_not, Bool.not_true, Bool.not_false, convA_int, extA_tuple, List.getElem?_toArray, List.getElem?_cons_zero, List.getElem?_cons_succ]
  have s1 : Step h (h.new s.e 10) [] [] := ((Step.refl h [] (by simp)).new _ _).drop
  have hq1 : (h.new s.e 10).blk h.next = some s.e := by simp
  have hn1 : h.next < (h.new s.e 10).next := by simp
  have hB := f.base
  generalize h.new s.e 10 = h1 at s1 hq1 hn1 ⊢
  have hB1 : w0.heap.size ≤ h1.next := by omega
  refine ⟨by simp, ?_⟩
  have s2 : Step h1 (h1.new [.int .i64 0, .int .i64 0] 2) [] [] := ((Step.refl h1 [] (by simp)).new _ _).drop
  have hq2 : (h1.new [.int .i64 0, .int .i64 0] 2).blk h1.next = some [.int .i64 0, .int .i64 0] := by simp
  have hn2 : h1.next < (h1.new [.int .i64 0, .int .i64 0] 2).next := by simp
  generalize h1.new [.int .i64 0, .int .i64 0] 2 = h2 at s2 hq2 hn2 ⊢
  refine loadNA_whole hB ((s2.keep _ hn1 (by simp)).1.trans hq1) rfl ?_
  refine callA_of (rCheck_spec i) fun _ h3 ⟨e, s3⟩ f3 => ?_
  subst e
  have st := (s1.trans s2).trans s3
  have hq3 := (s3.keep _ hn2 (by simp)).1.trans hq2
  have hp1 : ∀ cs, Step h (h3.put h1.next cs) [] [] := fun cs =>
    ⟨by have := st.next; simpa using this, fun b hb _ => by
      have := (s1.next)
      have hne : b ≠ h1.next := by omega
      have := st.keep b hb (by simp)
      simpa [hne] using this, by simp⟩
  cases g : s.good with
  | false =>
    have c : (s.check != 0) = true := by simp [Shp.check, g]
    simp only [c, lenSl_slice, lenStr_string, str_size, fpureA_some, fnilA_ptr, faddA_ptr, addr_add, Nat.zero_add, Nat.add_zero, fpureQ_k, fpureQ_nilA, fpureQ_addA, fpureQ_pureA, fpureQ_guardA, fpureQ_idxSlA, fpureQ_pickA, freadQ_loadA, freadQ_loadNA, freadQ_b2sA, freadQ_guardA, freadQ_slSlA, freadQ_k, fendA, fallA_one, fstillA_nil, fguardA_tt, fguardA_ff, fguardA_tf, fguardA_ft, fguardA_undef, fpickA_true, fpickA_false, fcondA_true, fcondA_false, binA_add, binA_sub, binA_mul, binA_eql, binA_neq, binA_lss, binA_leq, binA_gtr, binA_geq, unA_not, Bool.not_true, Bool.not_false, convA_int, extA_tuple, List.getElem?_toArray, List.getElem?_cons_zero, List.getElem?_cons_succ, buildA_iff, fillA_nil]
    refine storeN0 hB1 hq3 rfl rfl (by rfl) (loadNA_whole hB1 (by simp; rfl) rfl ?_)
    simp only [retA_iff, oneOf_one]
    exact ⟨by simp, by simp [Shp.data, g, area], hp1 _⟩
  | true =>
    have c : (s.check != 0) = false := by simp [Shp.check, g]
    have G := s.good_iff.1 g
    have gj := G.jou
    have gt := G.tot
    have e1 : IntKind.i64.wrap (2 + s.jou) = 2 + s.jou := IntWalk.i64_in _ (by omega)
    have e2 : IntKind.i64.wrap (s.tot - 2) = s.tot - 2 := IntWalk.i64_in _ (by omega)
    have e3 : IntKind.i64.wrap (s.tot - 2 - s.jou) = s.tot - 2 - s.jou := IntWalk.i64_in _ (by omega)
    have hq4 := (s3.keep _ (by have := s2.next; omega) (by simp)).1.trans ((s2.keep _ hn1 (by simp)).1.trans hq1)
    simp only [c, lenSl_slice, lenStr_string, str_size, fpureA_some, fnilA_ptr, faddA_ptr, addr_add, Nat.zero_add, Nat.add_zero, fpureQ_k, fpureQ_nilA, fpureQ_addA, fpureQ_pureA, fpureQ_guardA, fpureQ_idxSlA, fpureQ_pickA, freadQ_loadA, freadQ_loadNA, freadQ_b2sA, freadQ_guardA, freadQ_slSlA, freadQ_k, fendA, fallA_one, fstillA_nil, fguardA_tt, fguardA_ff, fguardA_tf, fguardA_ft, fguardA_undef, fpickA_true, fpickA_false, fcondA_true, fcondA_false, binA_add, binA_sub, binA_mul, binA_eql, binA_neq, binA_lss, binA_leq, binA_gtr, binA_geq, unA_not, Bool.not_true, Bool.not_false, convA_int, extA_tuple, List.getElem?_toArray, List.getElem?_cons_zero, List.getElem?_cons_succ]
    refine loadA_at hB hq4 (by rfl) ?_
    simp only [lenSl_slice, lenStr_string, str_size, fpureA_some, fnilA_ptr, faddA_ptr, addr_add, Nat.zero_add, Nat.add_zero, fpureQ_k, fpureQ_nilA, fpureQ_addA, fpureQ_pureA, fpureQ_guardA, fpureQ_idxSlA, fpureQ_pickA, freadQ_loadA, freadQ_loadNA, freadQ_b2sA, freadQ_guardA, freadQ_slSlA, freadQ_k, fendA, fallA_one, fstillA_nil, fguardA_tt, fguardA_ff, fguardA_tf, fguardA_ft, fguardA_undef, fpickA_true, fpickA_false, fcondA_true, fcondA_false, binA_add, binA_sub, binA_mul, binA_eql, binA_neq, binA_lss, binA_leq, binA_gtr, binA_geq, unA_not, Bool.not_true, Bool.not_false, convA_int, extA_tuple, List.getElem?_toArray, List.getElem?_cons_zero, List.getElem?_cons_succ, e1]
    refine loadA_at hB hq4 (by rfl) ?_
    simp only [lenSl_slice, lenStr_string, str_size, fpureA_some, fnilA_ptr, faddA_ptr, addr_add, Nat.zero_add, Nat.add_zero, fpureQ_k, fpureQ_nilA, fpureQ_addA, fpureQ_pureA, fpureQ_guardA, fpureQ_idxSlA, fpureQ_pickA, freadQ_loadA, freadQ_loadNA, freadQ_b2sA, freadQ_guardA, freadQ_slSlA, freadQ_k, fendA, fallA_one, fstillA_nil, fguardA_tt, fguardA_ff, fguardA_tf, fguardA_ft, fguardA_undef, fpickA_true, fpickA_false, fcondA_true, fcondA_false, binA_add, binA_sub, binA_mul, binA_eql, binA_neq, binA_lss, binA_leq, binA_gtr, binA_geq, unA_not, Bool.not_true, Bool.not_false, convA_int, extA_tuple, List.getElem?_toArray, List.getElem?_cons_zero, List.getElem?_cons_succ, e2]
    refine loadA_at hB hq4 (by rfl) ?_
    simp only [lenSl_slice, lenStr_string, str_size, fpureA_some, fnilA_ptr, faddA_ptr, addr_add, Nat.zero_add, Nat.add_zero, fpureQ_k, fpureQ_nilA, fpureQ_addA, fpureQ_pureA, fpureQ_guardA, fpureQ_idxSlA, fpureQ_pickA, freadQ_loadA, freadQ_loadNA, freadQ_b2sA, freadQ_guardA, freadQ_slSlA, freadQ_k, fendA, fallA_one, fstillA_nil, fguardA_tt, fguardA_ff, fguardA_tf, fguardA_ft, fguardA_undef, fpickA_true, fpickA_false, fcondA_true, fcondA_false, binA_add, binA_sub, binA_mul, binA_eql, binA_neq, binA_lss, binA_leq, binA_gtr, binA_geq, unA_not, Bool.not_true, Bool.not_false, convA_int, extA_tuple, List.getElem?_toArray, List.getElem?_cons_zero, List.getElem?_cons_succ, e3]
    simp only [buildA_iff, fillA_one, fillA_nil, isCell_int, true_and, List.set_cons_zero, List.set_cons_succ, List.length_cons, List.length_nil]
    refine ⟨by omega, by omega, storeN0 hB1 hq3 rfl rfl (by rfl) (loadNA_whole hB1 (by simp; rfl) rfl ?_)⟩
    simp only [retA_iff, oneOf_one]
    exact ⟨by simp, by simp [Shp.data, g, area], hp1 _⟩
theorem rKind_spec (i : s.In) (n : Int) (hn : i64R n) : ACalls prog w0 n_dedupref04_Kind [s.v, .int .i64 n] h fun v h' => v = .int .i64 (s.kind n) ∧ Step h h' [] [] := by
  refine ACalls.of_fit (by simpa using s.junk) fun f => c_dedupref04_Kind (by simpa using s.junk) ?_
  simp only [s_dedupref04_Kind, Shp.v, boxA_agg, List.toList_toArray, lenSl_slice, lenStr_string, str_size, fpureA_some, fnilA_ptr, faddA_ptr, addr_add, Nat.zero_add, Nat.add_zero, fpureQ_k, fpureQ_nilA, fpureQ_addA, fpureQ_pureA, fpureQ_guardA, fpureQ_idxSlA, fpureQ_pickA, freadQ_loadA, freadQ_loadNA, freadQ_b2sA, freadQ_guardA, freadQ_slSlA, freadQ_k, fendA, fallA_one, fstillA_nil, fguardA_tt, fguardA_ff, fguardA_tf, fguardA_ft, fguardA_undef, fpickA_true, fpickA_false, fcondA_true, fcondA_false, binA_add, binA_sub, binA_mul, binA_eql, binA_neq, binA_lss, binA_leq, binA_gtr, binA_geq, unA_not, Bool.not_true, Bool.not_false, convA_int, extA_tuple, List.getElem?_toArray, List.getElem?_cons_zero, List.getElem?_cons_succ]
  have s1 : Step h (h.new s.e 10) [] [] := ((Step.refl h [] (by simp)).new _ _).drop
  have hq1 : (h.new s.e 10).blk h.next = some s.e := by simp
  have hn1 : h.next < (h.new s.e 10).next := by simp
  have hB := f.base
  generalize h.new s.e 10 = h1 at s1 hq1 hn1 ⊢
  refine loadNA_whole hB hq1 rfl ?_
  refine callA_of (rCheck_spec i) fun _ h2 ⟨e, s2⟩ f2 => ?_
  subst e
  have hq2 := (s2.keep _ hn1 (by simp)).1.trans hq1
  have st := s1.trans s2
  cases g : s.good with
  | false =>
    have c : (s.check != 0) = true := by simp [Shp.check, g]
    simp only [c, lenSl_slice, lenStr_string, str_size, fpureA_some, fnilA_ptr, faddA_ptr, addr_add, Nat.zero_add, Nat.add_zero, fpureQ_k, fpureQ_nilA, fpureQ_addA, fpureQ_pureA, fpureQ_guardA, fpureQ_idxSlA, fpureQ_pickA, freadQ_loadA, freadQ_loadNA, freadQ_b2sA, freadQ_guardA, freadQ_slSlA, freadQ_k, fendA, fallA_one, fstillA_nil, fguardA_tt, fguardA_ff, fguardA_tf, fguardA_ft, fguardA_undef, fpickA_true, fpickA_false, fcondA_true, fcondA_false, binA_add, binA_sub, binA_mul, binA_eql, binA_neq, binA_lss, binA_leq, binA_gtr, binA_geq, unA_not, Bool.not_true, Bool.not_false, convA_int, extA_tuple, List.getElem?_toArray, List.getElem?_cons_zero, List.getElem?_cons_succ, retA_iff, oneOf_one]
    exact ⟨by simp, by simp [Shp.kind, g], st⟩
  | true =>
    have c : (s.check != 0) = false := by simp [Shp.check, g]
    have G := s.good_iff.1 g
    have gj := G.jou
    have gt := G.tot
    simp only [c, lenSl_slice, lenStr_string, str_size, fpureA_some, fnilA_ptr, faddA_ptr, addr_add, Nat.zero_add, Nat.add_zero, fpureQ_k, fpureQ_nilA, fpureQ_addA, fpureQ_pureA, fpureQ_guardA, fpureQ_idxSlA, fpureQ_pickA, freadQ_loadA, freadQ_loadNA, freadQ_b2sA, freadQ_guardA, freadQ_slSlA, freadQ_k, fendA, fallA_one, fstillA_nil, fguardA_tt, fguardA_ff, fguardA_tf, fguardA_ft, fguardA_undef, fpickA_true, fpickA_false, fcondA_true, fcondA_false, binA_add, binA_sub, binA_mul, binA_eql, binA_neq, binA_lss, binA_leq, binA_gtr, binA_geq, unA_not, Bool.not_true, Bool.not_false, convA_int, extA_tuple, List.getElem?_toArray, List.getElem?_cons_zero, List.getElem?_cons_succ]
    by_cases h1' : n < 0
    · have c2 : decide (n < 0) = true := decide_eq_true h1'
      simp only [c2, lenSl_slice, lenStr_string, str_size, fpureA_some, fnilA_ptr, faddA_ptr, addr_add, Nat.zero_add, Nat.add_zero, fpureQ_k, fpureQ_nilA, fpureQ_addA, fpureQ_pureA, fpureQ_guardA, fpureQ_idxSlA, fpureQ_pickA, freadQ_loadA, freadQ_loadNA, freadQ_b2sA, freadQ_guardA, freadQ_slSlA, freadQ_k, fendA, fallA_one, fstillA_nil, fguardA_tt, fguardA_ff, fguardA_tf, fguardA_ft, fguardA_undef, fpickA_true, fpickA_false, fcondA_true, fcondA_false, binA_add, binA_sub, binA_mul, binA_eql, binA_neq, binA_lss, binA_leq, binA_gtr, binA_geq, unA_not, Bool.not_true, Bool.not_false, convA_int, extA_tuple, List.getElem?_toArray, List.getElem?_cons_zero, List.getElem?_cons_succ, retA_iff, oneOf_one]
      exact ⟨by simp, by simp [Shp.kind, g, h1'], st⟩
    have c2 : decide (n < 0) = false := decide_eq_false h1'
    simp only [c2, lenSl_slice, lenStr_string, str_size, fpureA_some, fnilA_ptr, faddA_ptr, addr_add, Nat.zero_add, Nat.add_zero, fpureQ_k, fpureQ_nilA, fpureQ_addA, fpureQ_pureA, fpureQ_guardA, fpureQ_idxSlA, fpureQ_pickA, freadQ_loadA, freadQ_loadNA, freadQ_b2sA, freadQ_guardA, freadQ_slSlA, freadQ_k, fendA, fallA_one, fstillA_nil, fguardA_tt, fguardA_ff, fguardA_tf, fguardA_ft, fguardA_undef, fpickA_true, fpickA_false, fcondA_true, fcondA_false, binA_add, binA_sub, binA_mul, binA_eql, binA_neq, binA_lss, binA_leq, binA_gtr, binA_geq, unA_not, Bool.not_true, Bool.not_false, convA_int, extA_tuple, List.getElem?_toArray, List.getElem?_cons_zero, List.getElem?_cons_succ]
    refine loadA_at hB hq2 (by rfl) ?_
    by_cases h2' : s.tot ≤ n
    · have c3 : decide (s.tot ≤ n) = true := decide_eq_true h2'
      simp only [c3, lenSl_slice, lenStr_string, str_size, fpureA_some, fnilA_ptr, faddA_ptr, addr_add, Nat.zero_add, Nat.add_zero, fpureQ_k, fpureQ_nilA, fpureQ_addA, fpureQ_pureA, fpureQ_guardA, fpureQ_idxSlA, fpureQ_pickA, freadQ_loadA, freadQ_loadNA, freadQ_b2sA, freadQ_guardA, freadQ_slSlA, freadQ_k, fendA, fallA_one, fstillA_nil, fguardA_tt, fguardA_ff, fguardA_tf, fguardA_ft, fguardA_undef, fpickA_true, fpickA_false, fcondA_true, fcondA_false, binA_add, binA_sub, binA_mul, binA_eql, binA_neq, binA_lss, binA_leq, binA_gtr, binA_geq, unA_not, Bool.not_true, Bool.not_false, convA_int, extA_tuple, List.getElem?_toArray, List.getElem?_cons_zero, List.getElem?_cons_succ, retA_iff, oneOf_one]
      exact ⟨by simp, by simp [Shp.kind, g, h2'], st⟩
    have c3 : decide (s.tot ≤ n) = false := decide_eq_false h2'
    simp only [c3, lenSl_slice, lenStr_string, str_size, fpureA_some, fnilA_ptr, faddA_ptr, addr_add, Nat.zero_add, Nat.add_zero, fpureQ_k, fpureQ_nilA, fpureQ_addA, fpureQ_pureA, fpureQ_guardA, fpureQ_idxSlA, fpureQ_pickA, freadQ_loadA, freadQ_loadNA, freadQ_b2sA, freadQ_guardA, freadQ_slSlA, freadQ_k, fendA, fallA_one, fstillA_nil, fguardA_tt, fguardA_ff, fguardA_tf, fguardA_ft, fguardA_undef, fpickA_true, fpickA_false, fcondA_true, fcondA_false, binA_add, binA_sub, binA_mul, binA_eql, binA_neq, binA_lss, binA_leq, binA_gtr, binA_geq, unA_not, Bool.not_true, Bool.not_false, convA_int, extA_tuple, List.getElem?_toArray, List.getElem?_cons_zero, List.getElem?_cons_succ]
    by_cases h3' : n < 2
    · have c4 : decide (n < 2) = true := decide_eq_true h3'
      simp only [c4, lenSl_slice, lenStr_string, str_size, fpureA_some, fnilA_ptr, faddA_ptr, addr_add, Nat.zero_add, Nat.add_zero, fpureQ_k, fpureQ_nilA, fpureQ_addA, fpureQ_pureA, fpureQ_guardA, fpureQ_idxSlA, fpureQ_pickA, freadQ_loadA, freadQ_loadNA, freadQ_b2sA, freadQ_guardA, freadQ_slSlA, freadQ_k, fendA, fallA_one, fstillA_nil, fguardA_tt, fguardA_ff, fguardA_tf, fguardA_ft, fguardA_undef, fpickA_true, fpickA_false, fcondA_true, fcondA_false, binA_add, binA_sub, binA_mul, binA_eql, binA_neq, binA_lss, binA_leq, binA_gtr, binA_geq, unA_not, Bool.not_true, Bool.not_false, convA_int, extA_tuple, List.getElem?_toArray, List.getElem?_cons_zero, List.getElem?_cons_succ, retA_iff, oneOf_one]
      exact ⟨by simp, by simp [Shp.kind, g, h1', h2', h3'], st⟩
    have c4 : decide (n < 2) = false := decide_eq_false h3'
    have e1 : IntKind.i64.wrap (2 + s.jou) = 2 + s.jou := IntWalk.i64_in _ (by omega)
    simp only [c4, lenSl_slice, lenStr_string, str_size, fpureA_some, fnilA_ptr, faddA_ptr, addr_add, Nat.zero_add, Nat.add_zero, fpureQ_k, fpureQ_nilA, fpureQ_addA, fpureQ_pureA, fpureQ_guardA, fpureQ_idxSlA, fpureQ_pickA, freadQ_loadA, freadQ_loadNA, freadQ_b2sA, freadQ_guardA, freadQ_slSlA, freadQ_k, fendA, fallA_one, fstillA_nil, fguardA_tt, fguardA_ff, fguardA_tf, fguardA_ft, fguardA_undef, fpickA_true, fpickA_false, fcondA_true, fcondA_false, binA_add, binA_sub, binA_mul, binA_eql, binA_neq, binA_lss, binA_leq, binA_gtr, binA_geq, unA_not, Bool.not_true, Bool.not_false, convA_int, extA_tuple, List.getElem?_toArray, List.getElem?_cons_zero, List.getElem?_cons_succ]
    refine loadA_at hB hq2 (by rfl) ?_
    simp only [lenSl_slice, lenStr_string, str_size, fpureA_some, fnilA_ptr, faddA_ptr, addr_add, Nat.zero_add, Nat.add_zero, fpureQ_k, fpureQ_nilA, fpureQ_addA, fpureQ_pureA, fpureQ_guardA, fpureQ_idxSlA, fpureQ_pickA, freadQ_loadA, freadQ_loadNA, freadQ_b2sA, freadQ_guardA, freadQ_slSlA, freadQ_k, fendA, fallA_one, fstillA_nil, fguardA_tt, fguardA_ff, fguardA_tf, fguardA_ft, fguardA_undef, fpickA_true, fpickA_false, fcondA_true, fcondA_false, binA_add, binA_sub, binA_mul, binA_eql, binA_neq, binA_lss, binA_leq, binA_gtr, binA_geq, unA_not, Bool.not_true, Bool.not_false, convA_int, extA_tuple, List.getElem?_toArray, List.getElem?_cons_zero, List.getElem?_cons_succ, e1]
    by_cases h4' : n < 2 + s.jou
    · have c5 : decide (n < 2 + s.jou) = true := decide_eq_true h4'
      simp only [c5, lenSl_slice, lenStr_string, str_size, fpureA_some, fnilA_ptr, faddA_ptr, addr_add, Nat.zero_add, Nat.add_zero, fpureQ_k, fpureQ_nilA, fpureQ_addA, fpureQ_pureA, fpureQ_guardA, fpureQ_idxSlA, fpureQ_pickA, freadQ_loadA, freadQ_loadNA, freadQ_b2sA, freadQ_guardA, freadQ_slSlA, freadQ_k, fendA, fallA_one, fstillA_nil, fguardA_tt, fguardA_ff, fguardA_tf, fguardA_ft, fguardA_undef, fpickA_true, fpickA_false, fcondA_true, fcondA_false, binA_add, binA_sub, binA_mul, binA_eql, binA_neq, binA_lss, binA_leq, binA_gtr, binA_geq, unA_not, Bool.not_true, Bool.not_false, convA_int, extA_tuple, List.getElem?_toArray, List.getElem?_cons_zero, List.getElem?_cons_succ, retA_iff, oneOf_one]
      exact ⟨by simp, by simp [Shp.kind, g, h1', h2', h3', h4'], st⟩
    have c5 : decide (n < 2 + s.jou) = false := decide_eq_false h4'
    simp only [c5, lenSl_slice, lenStr_string, str_size, fpureA_some, fnilA_ptr, faddA_ptr, addr_add, Nat.zero_add, Nat.add_zero, fpureQ_k, fpureQ_nilA, fpureQ_addA, fpureQ_pureA, fpureQ_guardA, fpureQ_idxSlA, fpureQ_pickA, freadQ_loadA, freadQ_loadNA, freadQ_b2sA, freadQ_guardA, freadQ_slSlA, freadQ_k, fendA, fallA_one, fstillA_nil, fguardA_tt, fguardA_ff, fguardA_tf, fguardA_ft, fguardA_undef, fpickA_true, fpickA_false, fcondA_true, fcondA_false, binA_add, binA_sub, binA_mul, binA_eql, binA_neq, binA_lss, binA_leq, binA_gtr, binA_geq, unA_not, Bool.not_true, Bool.not_false, convA_int, extA_tuple, List.getElem?_toArray, List.getElem?_cons_zero, List.getElem?_cons_succ, retA_iff, oneOf_one]
    exact ⟨by simp, by simp [Shp.kind, g, h1', h2', h3', h4'], st⟩
theorem rCheckSuper_spec (i : x.In) : ACalls prog w0 n_dedupref04_CheckSuper [x.v] h fun v h' => v = .int .i64 x.check ∧ Step h h' [] [] := by
  refine ACalls.of_fit (by simpa using x.junk) fun f => c_dedupref04_CheckSuper (by simpa using x.junk) ?_
  simp only [s_dedupref04_CheckSuper, Sup.v, boxA_agg, List.toList_toArray, lenSl_slice, lenStr_string, str_size, fpureA_some, fnilA_ptr, faddA_ptr, addr_add, Nat.zero_add, Nat.add_zero, fpureQ_k, fpureQ_nilA, fpureQ_addA, fpureQ_pureA, fpureQ_guardA, fpureQ_idxSlA, fpureQ_pickA, freadQ_loadA, freadQ_loadNA, freadQ_b2sA, freadQ_guardA, freadQ_slSlA, freadQ_k, fendA, fallA_one, fstillA_nil, fguardA_tt, fguardA_ff, fguardA_tf, fguardA_ft, fguardA_undef, fpickA_true, fpickA_false, fcondA_true, fcondA_false, binA_add, binA_sub, binA_mul, binA_eql, binA_neq, binA_lss, binA_leq, binA_gtr, binA_geq, unA_not, Bool.not_true, Bool.not_false, convA_int, extA_tuple, List.getElem?_toArray, List.getElem?_cons_zero, List.getElem?_cons_succ]
  have s1 : Step h (h.new x.e 12) [] [] := ((Step.refl h [] (by simp)).new _ _).drop
  have hq1 : (h.new x.e 12).blk h.next = some x.e := by simp
  have hn1 : h.next < (h.new x.e 12).next := by simp
  have hB := f.base
  generalize h.new x.e 12 = h1 at s1 hq1 hn1 ⊢
  have hcut : (x.e.drop 2).take 10 = x.s.e := rfl
  refine loadNA_part hB hq1 hcut (by simp [Sup.e, Shp.e]) ?_
  refine callA_of (rCheck_spec i.s) fun _ h2 ⟨e, s2⟩ f2 => ?_
  subst e
  have hq2 := (s2.keep _ hn1 (by simp)).1.trans hq1
  have st := s1.trans s2
  cases g : x.s.good with
  | false =>
    have c : (x.s.check != 0) = true := by simp [Shp.check, g]
    simp only [c, lenSl_slice, lenStr_string, str_size, fpureA_some, fnilA_ptr, faddA_ptr, addr_add, Nat.zero_add, Nat.add_zero, fpureQ_k, fpureQ_nilA, fpureQ_addA, fpureQ_pureA, fpureQ_guardA, fpureQ_idxSlA, fpureQ_pickA, freadQ_loadA, freadQ_loadNA, freadQ_b2sA, freadQ_guardA, freadQ_slSlA, freadQ_k, fendA, fallA_one, fstillA_nil, fguardA_tt, fguardA_ff, fguardA_tf, fguardA_ft, fguardA_undef, fpickA_true, fpickA_false, fcondA_true, fcondA_false, binA_add, binA_sub, binA_mul, binA_eql, binA_neq, binA_lss, binA_leq, binA_gtr, binA_geq, unA_not, Bool.not_true, Bool.not_false, convA_int, extA_tuple, List.getElem?_toArray, List.getElem?_cons_zero, List.getElem?_cons_succ, retA_iff, oneOf_one]
    exact ⟨by simp, by simp [Sup.check, Shp.check, g], st⟩
  | true =>
    have c : (x.s.check != 0) = false := by simp [Shp.check, g]
    simp only [c, lenSl_slice, lenStr_string, str_size, fpureA_some, fnilA_ptr, faddA_ptr, addr_add, Nat.zero_add, Nat.add_zero, fpureQ_k, fpureQ_nilA, fpureQ_addA, fpureQ_pureA, fpureQ_guardA, fpureQ_idxSlA, fpureQ_pickA, freadQ_loadA, freadQ_loadNA, freadQ_b2sA, freadQ_guardA, freadQ_slSlA, freadQ_k, fendA, fallA_one, fstillA_nil, fguardA_tt, fguardA_ff, fguardA_tf, fguardA_ft, fguardA_undef, fpickA_true, fpickA_false, fcondA_true, fcondA_false, binA_add, binA_sub, binA_mul, binA_eql, binA_neq, binA_lss, binA_leq, binA_gtr, binA_geq, unA_not, Bool.not_true, Bool.not_false, convA_int, extA_tuple, List.getElem?_toArray, List.getElem?_cons_zero, List.getElem?_cons_succ]
    refine loadA_at hB hq2 (by rfl) ?_
    by_cases h1' : x.root = 0
    · have c1 : (x.root != 0) = false := by simp [h1']
      simp only [c1, lenSl_slice, lenStr_string, str_size, fpureA_some, fnilA_ptr, faddA_ptr, addr_add, Nat.zero_add, Nat.add_zero, fpureQ_k, fpureQ_nilA, fpureQ_addA, fpureQ_pureA, fpureQ_guardA, fpureQ_idxSlA, fpureQ_pickA, freadQ_loadA, freadQ_loadNA, freadQ_b2sA, freadQ_guardA, freadQ_slSlA, freadQ_k, fendA, fallA_one, fstillA_nil, fguardA_tt, fguardA_ff, fguardA_tf, fguardA_ft, fguardA_undef, fpickA_true, fpickA_false, fcondA_true, fcondA_false, binA_add, binA_sub, binA_mul, binA_eql, binA_neq, binA_lss, binA_leq, binA_gtr, binA_geq, unA_not, Bool.not_true, Bool.not_false, convA_int, extA_tuple, List.getElem?_toArray, List.getElem?_cons_zero, List.getElem?_cons_succ, retA_iff, oneOf_one]
      exact ⟨by simp, by simp [Sup.check, g, h1'], st⟩
    have c1 : (x.root != 0) = true := by simp [h1']
    simp only [c1, lenSl_slice, lenStr_string, str_size, fpureA_some, fnilA_ptr, faddA_ptr, addr_add, Nat.zero_add, Nat.add_zero, fpureQ_k, fpureQ_nilA, fpureQ_addA, fpureQ_pureA, fpureQ_guardA, fpureQ_idxSlA, fpureQ_pickA, freadQ_loadA, freadQ_loadNA, freadQ_b2sA, freadQ_guardA, freadQ_slSlA, freadQ_k, fendA, fallA_one, fstillA_nil, fguardA_tt, fguardA_ff, fguardA_tf, fguardA_ft, fguardA_undef, fpickA_true, fpickA_false, fcondA_true, fcondA_false, binA_add, binA_sub, binA_mul, binA_eql, binA_neq, binA_lss, binA_leq, binA_gtr, binA_geq, unA_not, Bool.not_true, Bool.not_false, convA_int, extA_tuple, List.getElem?_toArray, List.getElem?_cons_zero, List.getElem?_cons_succ]
    refine loadNA_part hB hq2 hcut (by simp [Sup.e, Shp.e]) ?_
    refine loadA_at hB hq2 (by rfl) ?_
    refine callA_of (rKind_spec i.s x.root i.root) fun _ h3 ⟨e, s3⟩ f3 => ?_
    subst e
    by_cases h2' : x.s.kind x.root = 3
    · have c2 : (x.s.kind x.root != 3) = false := by simp [h2']
      simp only [c2, lenSl_slice, lenStr_string, str_size, fpureA_some, fnilA_ptr, faddA_ptr, addr_add, Nat.zero_add, Nat.add_zero, fpureQ_k, fpureQ_nilA, fpureQ_addA, fpureQ_pureA, fpureQ_guardA, fpureQ_idxSlA, fpureQ_pickA, freadQ_loadA, freadQ_loadNA, freadQ_b2sA, freadQ_guardA, freadQ_slSlA, freadQ_k, fendA, fallA_one, fstillA_nil, fguardA_tt, fguardA_ff, fguardA_tf, fguardA_ft, fguardA_undef, fpickA_true, fpickA_false, fcondA_true, fcondA_false, binA_add, binA_sub, binA_mul, binA_eql, binA_neq, binA_lss, binA_leq, binA_gtr, binA_geq, unA_not, Bool.not_true, Bool.not_false, convA_int, extA_tuple, List.getElem?_toArray, List.getElem?_cons_zero, List.getElem?_cons_succ, retA_iff, oneOf_one]
      exact ⟨by simp, by simp [Sup.check, g, h2'], st.trans s3⟩
    · have c2 : (x.s.kind x.root != 3) = true := by simp [h2']
      simp only [c2, lenSl_slice, lenStr_string, str_size, fpureA_some, fnilA_ptr, faddA_ptr, addr_add, Nat.zero_add, Nat.add_zero, fpureQ_k, fpureQ_nilA, fpureQ_addA, fpureQ_pureA, fpureQ_guardA, fpureQ_idxSlA, fpureQ_pickA, freadQ_loadA, freadQ_loadNA, freadQ_b2sA, freadQ_guardA, freadQ_slSlA, freadQ_k, fendA, fallA_one, fstillA_nil, fguardA_tt, fguardA_ff, fguardA_tf, fguardA_ft, fguardA_undef, fpickA_true, fpickA_false, fcondA_true, fcondA_false, binA_add, binA_sub, binA_mul, binA_eql, binA_neq, binA_lss, binA_leq, binA_gtr, binA_geq, unA_not, Bool.not_true, Bool.not_false, convA_int, extA_tuple, List.getElem?_toArray, List.getElem?_cons_zero, List.getElem?_cons_succ, retA_iff, oneOf_one]
      exact ⟨by simp, by simp [Sup.check, g, h1', h2'], st.trans s3⟩
end
end Go.Proofs.Ytihebhdgjnibfaa.Ah
