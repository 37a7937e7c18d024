/- codec.Crc: the check sum. -/
import Derived.Test.YtiakadkooclelaaKr
set_option linter.unusedVariables false
set_option linter.unusedSimpArgs false
namespace Go.Proofs.Ytiakadkooclelaa.Ah
open Go

def crcB (c : Nat) : Nat := (c / 2) ^^^ (if c % 2 = 1 then 2197175160 else 0)
def crc8 : Nat → Nat → Nat
  | 0, c => c
  | k + 1, c => crc8 k (crcB c)
def crcN (c : Nat) (l : List UInt8) : Nat := l.foldl (fun c b => crc8 8 (c ^^^ b.toNat)) c
def crcOf (l : List UInt8) : Nat := crcN 4294967295 l ^^^ 4294967295

theorem crcB_lt {c : Nat} (h : c < 4294967296) : crcB c < 4294967296 := by
  unfold crcB
  exact Nat.xor_lt_two_pow (n := 32) (by omega) (by split <;> omega)
theorem crc8_lt : ∀ (k c : Nat), c < 4294967296 → crc8 k c < 4294967296 := by
  intro k
  induction k with
  | zero => intro c h; exact h
  | succ k ih => intro c h; exact ih _ (crcB_lt h)
theorem xorb_lt {c : Nat} (b : UInt8) (h : c < 4294967296) : c ^^^ b.toNat < 4294967296 := Nat.xor_lt_two_pow (n := 32) h (by have := UInt8.toNat_lt b; omega)
theorem crcN_lt (l : List UInt8) : ∀ c, c < 4294967296 → crcN c l < 4294967296 := by
  induction l with
  | nil => intro c h; exact h
  | cons b l ih => intro c h; exact ih _ (crc8_lt 8 _ (xorb_lt b h))
theorem crcOf_lt (l : List UInt8) : crcOf l < 4294967296 := Nat.xor_lt_two_pow (n := 32) (crcN_lt l _ (by omega)) (by omega)

theorem crc_inner {w0 : World} {k2 : Value → Value → Value → Value → Hp → Prop} {x0 x6 x7 : Value} {h : Hp} : ∀ (k i c : Nat), i + k = 8 → c < 4294967296 → k2 x0 (.int .u32 (crc8 k c : Nat)) x6 x7 h →
    codec_Crc_L2 prog w0 k2 (k + 1) x0 (.int .u32 (c : Int)) x6 x7 (.int .i64 (i : Int)) h := by
  intro k
  induction k with
  | zero =>
    intro i c hi hc hk
    have c8 : decide ((i : Int) < 8) = false := decide_eq_false (by omega)
    rw [codec_Crc_L2]
    simp only [codec_Crc_B2, binA_lss, pureA_some, c8, condA_false]
    exact hk
  | succ k ih =>
    intro i c hi hc hk
    have c8 : decide ((i : Int) < 8) = true := decide_eq_true (by omega)
    have e1 : binA .shr (.int .u32 (c : Int)) (.int .u64 1) = some (.int .u32 ((c / 2 : Nat) : Int)) := by rw [binA_shr _ _ _ _ (by omega)]; simp [IntKind.bits]
    have e2 : binA .and (.int .u32 (c : Int)) (.int .u32 1) = some (.int .u32 ((c % 2 : Nat) : Int)) := by
      have := binA_and .u32 c 1
      rw [show (1 : Int) = ((1 : Nat) : Int) from rfl, this, Nat.and_one_is_mod, Nat.mod_eq_of_lt (by simp only [IntKind.bits]; omega), wrap_u rfl (by simp only [IntKind.bits]; omega)]
    have e3 : unA .neg (.int .u32 ((c % 2 : Nat) : Int)) = some (.int .u32 ((if c % 2 = 1 then 4294967295 else 0 : Nat) : Int)) := by
      rw [unA_neg, IntKind.wrap_u32]
      split
      · rename_i e; rw [e]; rfl
      · rename_i e; rw [show c % 2 = 0 by omega]; rfl
    have e4 : binA .and (.int .u32 2197175160) (.int .u32 ((if c % 2 = 1 then 4294967295 else 0 : Nat) : Int)) = some (.int .u32 ((if c % 2 = 1 then 2197175160 else 0 : Nat) : Int)) := by
      have := binA_and .u32 2197175160 (if c % 2 = 1 then 4294967295 else 0)
      rw [show (2197175160 : Int) = ((2197175160 : Nat) : Int) from rfl, this]
      split <;> rfl
    have e5 : binA .xor (.int .u32 ((c / 2 : Nat) : Int)) (.int .u32 ((if c % 2 = 1 then 2197175160 else 0 : Nat) : Int)) = some (.int .u32 (crcB c : Nat)) := by
      have hl := crcB_lt hc
      rw [binA_xor]
      show some (Value.int IntKind.u32 (IntKind.u32.wrap ((crcB c % 2 ^ IntKind.u32.bits : Nat) : Int))) = _
      rw [Nat.mod_eq_of_lt (by simp only [IntKind.bits]; omega), wrap_u rfl (by simp only [IntKind.bits]; omega)]
    have e6 : IntKind.i64.wrap ((i : Int) + 1) = ((i + 1 : Nat) : Int) := by rw [IntWalk.i64_in _ (by omega)]; simp
    rw [codec_Crc_L2]
    simp only [codec_Crc_B2, binA_lss, pureA_some, c8, condA_true, e1, e2, e3, e4, e5, binA_add, e6]
    exact ih (i + 1) (crcB c) (by omega) (crcB_lt hc) hk
theorem crc_outer {w0 : World} {k0 : Value → Hp → Prop} {h : Hp} {l : List UInt8} (hl : l.length ≤ 140737488355328) : ∀ (post pre : List UInt8) (c : Nat), pre ++ post = l → c < 4294967296 → k0 (.int .u32 (crcN c post : Nat)) h →
    codec_Crc_L1 prog w0 k0 (post.length + 1) (.string (str l)) (.int .u32 (c : Int)) (.int .i64 (l.length : Int)) (.int .i64 (pre.length : Int)) h := by
  intro post
  induction post with
  | nil =>
    intro pre c he hc hk
    have : pre = l := by simpa using he
    subst this
    have c8 : decide ((pre.length : Int) < (pre.length : Int)) = false := decide_eq_false (by omega)
    simp only [List.length_nil, codec_Crc_L1, codec_Crc_B1, binA_lss, pureA_some, c8, condA_false]
    exact hk
  | cons b post ih =>
    intro pre c he hc hk
    have hlen : pre.length + (post.length + 1) = l.length := by rw [← he]; simp
    have hg : l[pre.length]? = some b := by rw [← he]; simp
    have hb := UInt8.toNat_lt b
    have c1 : decide ((pre.length : Int) < (l.length : Int)) = true := decide_eq_true (by omega)
    have hs : strIdxA (.string (str l)) (.int .i64 (pre.length : Int)) = some (.int .u8 (b.toNat : Int)) := by rw [strIdxA_str, hg]; rfl
    have e1 : IntKind.u32.wrap (b.toNat : Int) = (b.toNat : Int) := IntWalk.u32_in _ (by omega)
    have e2 : binA .xor (.int .u32 (c : Int)) (.int .u32 (b.toNat : Int)) = some (.int .u32 ((c ^^^ b.toNat : Nat) : Int)) := by
      have := xorb_lt b hc
      rw [binA_xor, Nat.mod_eq_of_lt (by simp only [IntKind.bits]; omega), wrap_u rfl (by simp only [IntKind.bits]; omega)]
    have e6 : IntKind.i64.wrap ((pre.length : Int) + 1) = ((pre.length + 1 : Nat) : Int) := by rw [IntWalk.i64_in _ (by omega)]; simp
    rw [List.length_cons, codec_Crc_L1]
    simp only [codec_Crc_B1, binA_lss, pureA_some, c1, condA_true, hs, convA_int, e1, e2]
    refine ⟨9, crc_inner 8 0 _ rfl (xorb_lt b hc) ?_⟩
    simp only [binA_add, pureA_some, e6]
    have := ih (pre ++ [b]) (crc8 8 (c ^^^ b.toNat)) (by simpa using he) (crc8_lt _ _ (xorb_lt b hc)) hk
    simpa using this
theorem Crc_spec {w0 : World} {h : Hp} (l : List UInt8) (hl : l.length ≤ 140737488355328) :
    ACalls prog w0 n_codec_Crc [.string (str l)] h fun v h' => v = .int .u32 (crcOf l : Nat) ∧ h' = h := by
  refine ACalls.of_fit (by simp) fun f => c_codec_Crc (by simp) ?_
  simp only [s_codec_Crc, lenStr_string, pureA_some, str_size]
  refine ⟨l.length + 1, crc_outer hl l [] 4294967295 rfl (by omega) ?_⟩
  have e : unA .xor (.int .u32 (crcN 4294967295 l : Nat)) = some (.int .u32 (crcOf l : Nat)) := by
    have h1 := crcN_lt l 4294967295 (by omega)
    have h2 := crcOf_lt l
    have := binA_xor .u32 4294967295 (crcN 4294967295 l)
    rw [Nat.xor_comm, show crcN 4294967295 l ^^^ 4294967295 = crcOf l from rfl, Nat.mod_eq_of_lt (by simp only [IntKind.bits]; omega), wrap_u rfl (by simp only [IntKind.bits]; omega)] at this
    rw [← this]
    rfl
  simp only [e, pureA_some, retA_iff, oneOf_one]
  simp
end Go.Proofs.Ytiakadkooclelaa.Ah
