/- dedupref02: Crc and Read. -/
import Derived.Test.YtiakadkooclelaaKa
import Derived.Test.YtiakadkooclelaaGref02
set_option linter.unusedVariables false
set_option linter.unusedSimpArgs false
namespace Go.Proofs.Ytiakadkooclelaa.Ah
open Go

theorem quo2 {k : IntKind} {c : Nat} (hk : k.signed = false) (hc : c < 2 ^ k.bits) : binA .quo (.int k (c : Int)) (.int k 2) = some (.int k ((c / 2 : Nat) : Int)) := by
  rw [binA_quo _ _ _ (by omega)]
  have : ((c : Int).tdiv 2) = ((c / 2 : Nat) : Int) := by
    rw [Int.tdiv_eq_ediv_of_nonneg (by omega)]; simp
  rw [this, wrap_u hk (by omega)]
theorem rem2 {k : IntKind} {c : Nat} : binA .rem (.int k (c : Int)) (.int k 2) = some (.int k ((c % 2 : Nat) : Int)) := by
  rw [binA_rem _ _ _ (by omega)]
  have : ((c : Int).tmod 2) = ((c % 2 : Nat) : Int) := by
    rw [Int.tmod_eq_emod_of_nonneg (by omega)]; simp
  rw [this]
theorem rcrc_inner {w0 : World} {k2 : Value → Value → Value → Hp → Prop} {x0 x4 : Value} {h : Hp} : ∀ (k i c : Nat), i + k = 8 → c < 4294967296 → k2 x0 (.int .u32 (crc8 k c : Nat)) x4 h →
    dedupref02_Crc_L2 prog w0 k2 (k + 1) x0 (.int .u32 (c : Int)) x4 (.int .i64 (i : Int)) h := by
  intro k
  induction k with
  | zero =>
    intro i c hi hc hk
    have c8 : decide ((i : Int) < 8) = false := decide_eq_false (by omega)
    rw [dedupref02_Crc_L2]
    simp only [dedupref02_Crc_B2, binA_lss, pureA_some, c8, condA_false]
    exact hk
  | succ k ih =>
    intro i c hi hc hk
    have c8 : decide ((i : Int) < 8) = true := decide_eq_true (by omega)
    have e6 : IntKind.i64.wrap ((i : Int) + 1) = ((i + 1 : Nat) : Int) := by rw [IntWalk.i64_in _ (by omega)]; simp
    have hq := quo2 (k := .u32) (c := c) rfl hc
    have hl := crcB_lt hc
    rw [dedupref02_Crc_L2]
    by_cases h2 : c % 2 = 1
    · have c2 : (((c % 2 : Nat) : Int) == 1) = true := by simp only [beq_iff_eq]; omega
      have e5 : binA .xor (.int .u32 ((c / 2 : Nat) : Int)) (.int .u32 2197175160) = some (.int .u32 (crcB c : Nat)) := by
        have := binA_xor .u32 (c / 2) 2197175160
        have h7 : c / 2 ^^^ 2197175160 = crcB c := by unfold crcB; rw [if_pos h2]
        rw [show (2197175160 : Int) = ((2197175160 : Nat) : Int) from rfl, this, h7, Nat.mod_eq_of_lt (by simp only [IntKind.bits]; omega), wrap_u rfl (by simp only [IntKind.bits]; omega)]
      simp only [dedupref02_Crc_B2, binA_lss, pureA_some, c8, condA_true, rem2, binA_eql, c2, hq, e5, binA_add, e6]
      exact ih (i + 1) (crcB c) (by omega) (crcB_lt hc) hk
    · have c2 : (((c % 2 : Nat) : Int) == 1) = false := by simp only [beq_eq_false_iff_ne, ne_eq]; omega
      have h7 : c / 2 = crcB c := by unfold crcB; rw [if_neg h2, Nat.xor_zero]
      simp only [dedupref02_Crc_B2, binA_lss, pureA_some, c8, condA_true, condA_false, rem2, binA_eql, c2, hq, binA_add, e6]
      rw [h7]
      exact ih (i + 1) (crcB c) (by omega) (crcB_lt hc) hk
theorem rcrc_outer {w0 : World} {k0 : Value → Hp → Prop} {h : Hp} {l : List UInt8} (hl : l.length ≤ 140737488355328) : ∀ (post pre : List UInt8) (c : Nat), pre ++ post = l → c < 4294967296 → k0 (.int .u32 (crcN c post : Nat)) h →
    dedupref02_Crc_L1 prog w0 k0 (post.length + 1) (.string (str l)) (.int .u32 (c : Int)) (.int .i64 (pre.length : Int)) h := by
  intro post
  induction post with
  | nil =>
    intro pre c he hc hk
    have : pre = l := by simpa using he
    subst this
    have c8 : decide ((pre.length : Int) < (pre.length : Int)) = false := decide_eq_false (by omega)
    simp only [List.length_nil, dedupref02_Crc_L1, dedupref02_Crc_B1, lenStr_string, str_size, binA_lss, pureA_some, c8, condA_false]
    exact hk
  | cons b post ih =>
    intro pre c he hc hk
    have hlen : pre.length + (post.length + 1) = l.length := by rw [← he]; simp
    have hg : l[pre.length]? = some b := by rw [← he]; simp
    have hb := UInt8.toNat_lt b
    have c1 : decide ((pre.length : Int) < (l.length : Int)) = true := decide_eq_true (by omega)
    have hs : strIdxA (.string (str l)) (.int .i64 (pre.length : Int)) = some (.int .u8 (b.toNat : Int)) := by rw [strIdxA_str, hg]; rfl
    have e1 : IntKind.u32.wrap (b.toNat : Int) = (b.toNat : Int) := IntWalk.u32_in _ (by omega)
    have e2 : binA .xor (.int .u32 (c : Int)) (.int .u32 (b.toNat : Int)) = some (.int .u32 ((c ^^^ b.toNat : Nat) : Int)) := by
      have := xorb_lt b hc
      rw [binA_xor, Nat.mod_eq_of_lt (by simp only [IntKind.bits]; omega), wrap_u rfl (by simp only [IntKind.bits]; omega)]
    have e6 : IntKind.i64.wrap ((pre.length : Int) + 1) = ((pre.length + 1 : Nat) : Int) := by rw [IntWalk.i64_in _ (by omega)]; simp
    rw [List.length_cons, dedupref02_Crc_L1]
    simp only [dedupref02_Crc_B1, lenStr_string, str_size, binA_lss, pureA_some, c1, condA_true, hs, convA_int, e1, e2]
    refine ⟨9, rcrc_inner 8 0 _ rfl (xorb_lt b hc) ?_⟩
    simp only [binA_add, pureA_some, e6]
    have := ih (pre ++ [b]) (crc8 8 (c ^^^ b.toNat)) (by simpa using he) (crc8_lt _ _ (xorb_lt b hc)) hk
    simpa using this
theorem rCrc_spec {w0 : World} {h : Hp} (l : List UInt8) (hl : l.length ≤ 140737488355328) :
    ACalls prog w0 n_dedupref02_Crc [.string (str l)] h fun v h' => v = .int .u32 (crcOf l : Nat) ∧ h' = h := by
  refine ACalls.of_fit (by simp) fun f => c_dedupref02_Crc (by simp) ?_
  refine ⟨l.length + 1, rcrc_outer hl l [] 4294967295 rfl (by omega) ?_⟩
  have e : binA .xor (.int .u32 (crcN 4294967295 l : Nat)) (.int .u32 4294967295) = some (.int .u32 (crcOf l : Nat)) := by
    have h1 := crcN_lt l 4294967295 (by omega)
    have h2 := crcOf_lt l
    have := binA_xor .u32 (crcN 4294967295 l) 4294967295
    rw [show (4294967295 : Int) = ((4294967295 : Nat) : Int) from rfl, this, show crcN 4294967295 l ^^^ 4294967295 = crcOf l from rfl, Nat.mod_eq_of_lt (by simp only [IntKind.bits]; omega), wrap_u rfl (by simp only [IntKind.bits]; omega)]
  simp only [e, pureA_some, retA_iff, oneOf_one]
  simp
end Go.Proofs.Ytiakadkooclelaa.Ah
