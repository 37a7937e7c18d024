/- The check sum tells up to 32 neighbouring bits that are turned: plain. -/
import Derived.Test.YtilofpnhpeammaaLfr
set_option linter.unusedVariables false
set_option linter.unusedSimpArgs false
namespace Go.Proofs.Ytilofpnhpeammaa.Ah
open Go

theorem crcB_xor (a b : Nat) : crcB (a ^^^ b) = crcB a ^^^ crcB b := by
  unfold crcB
  rw [Nat.xor_div_two]
  have ha : a % 2 = 0 ∨ a % 2 = 1 := by omega
  have hb : b % 2 = 0 ∨ b % 2 = 1 := by omega
  have hx : ((a ^^^ b) % 2 = 1) ↔ ¬ ((a % 2 = 1) ↔ (b % 2 = 1)) := Nat.xor_mod_two_eq_one
  rcases ha with ha | ha <;> rcases hb with hb | hb
  · rw [if_neg (by rw [hx]; omega), if_neg (by omega), if_neg (by omega)]; simp
  · rw [if_pos (by rw [hx]; omega), if_neg (by omega), if_pos (by omega)]; simp [Nat.xor_assoc]
  · rw [if_pos (by rw [hx]; omega), if_pos (by omega), if_neg (by omega)]; simp only [Nat.xor_zero]; rw [Nat.xor_assoc, Nat.xor_assoc, Nat.xor_comm (b / 2)]
  · rw [if_neg (by rw [hx]; omega), if_pos (by omega), if_pos (by omega)]
    simp only [Nat.xor_zero]
    rw [Nat.xor_assoc, Nat.xor_comm 2197175160, Nat.xor_assoc (b / 2), Nat.xor_self, Nat.xor_zero]
theorem crc8_xor (a b : Nat) : ∀ k, crc8 k (a ^^^ b) = crc8 k a ^^^ crc8 k b := by
  intro k
  induction k generalizing a b with
  | zero => rfl
  | succ k ih => rw [crc8, crc8, crc8, crcB_xor, ih]
theorem crc8_add (j k c : Nat) : crc8 (j + k) c = crc8 k (crc8 j c) := by
  induction j generalizing c with
  | zero => rw [Nat.zero_add]; rfl
  | succ j ih => rw [Nat.add_right_comm, crc8, crc8, ih]
/-- Even numbers are only halved. -/
theorem crc8_pow (w : Nat) : ∀ k, crc8 k (2 ^ k * w) = w := by
  intro k
  induction k with
  | zero => simp [crc8]
  | succ k ih =>
    have h1 : 2 ^ (k + 1) * w = 2 * (2 ^ k * w) := by rw [Nat.pow_succ, Nat.mul_comm (2 ^ k) 2, Nat.mul_assoc]
    have h2 : crcB (2 * (2 ^ k * w)) = 2 ^ k * w := by
      unfold crcB
      rw [if_neg (by omega)]
      simp
    rw [crc8, h1, h2, ih]
theorem crcB_ne {c : Nat} (hc : c < 4294967296) (h0 : c ≠ 0) : crcB c ≠ 0 := by
  unfold crcB
  split
  · intro h
    have h2 : c / 2 = 2197175160 := by
      have := congrArg (· ^^^ 2197175160) h
      simpa [Nat.xor_assoc] using this
    omega
  · simp; omega
theorem crc8_ne : ∀ (k c : Nat), c < 4294967296 → c ≠ 0 → crc8 k c ≠ 0 := by
  intro k
  induction k with
  | zero => intro c _ h; exact h
  | succ k ih => intro c hc h; exact ih _ (crcB_lt hc) (crcB_ne hc h)

/-- The number that bytes are, the lowest first. -/
def leN : List UInt8 → Nat
  | [] => 0
  | b :: l => b.toNat + 256 * leN l
theorem leN_lt (l : List UInt8) : leN l < 256 ^ l.length := by
  induction l with
  | nil => simp [leN]
  | cons b l ih => have := UInt8.toNat_lt b; simp only [leN, List.length_cons, Nat.pow_succ]; omega
theorem xor_add {b l : Nat} (hb : b < 256) : b + 256 * l = b ^^^ 256 * l := by
  have h1 := Nat.two_pow_add_eq_or_of_lt (i := 8) (b := b) (by omega) l
  have h2 : (256 * l) ^^^ b = 256 * l ||| b := by
    apply Nat.eq_of_testBit_eq
    intro i
    rw [Nat.testBit_xor, Nat.testBit_or]
    by_cases hi : i < 8
    · have : (256 * l).testBit i = false := by
        have := Nat.testBit_two_pow_mul (i := 8) (a := l) (j := i)
        rw [show (256 : Nat) = 2 ^ 8 from rfl, this]
        simp; omega
      rw [this]; simp
    · have : b.testBit i = false := Nat.testBit_lt_two_pow (Nat.lt_of_lt_of_le (show b < 2 ^ 8 by omega) (Nat.pow_le_pow_right (by omega) (by omega)))
      rw [this]; simp
  rw [Nat.xor_comm, h2, ← (show 2 ^ 8 * l + b = 2 ^ 8 * l ||| b from h1)]
  omega
theorem crcN_eq : ∀ (l : List UInt8) (d : Nat), crcN d l = crc8 (8 * l.length) (d ^^^ leN l) := by
  intro l
  induction l with
  | nil => intro d; simp [crcN, leN, crc8]
  | cons b l ih =>
    intro d
    have h1 : crcN d (b :: l) = crcN (crc8 8 (d ^^^ b.toNat)) l := rfl
    have h2 : crc8 8 (256 * leN l) = leN l := crc8_pow (leN l) 8
    rw [h1, ih, List.length_cons, Nat.mul_add, Nat.mul_one, Nat.add_comm (8 * l.length), crc8_add, leN, xor_add (UInt8.toNat_lt b), ← Nat.xor_assoc, crc8_xor _ (256 * leN l), h2]
theorem crcN_append (c : Nat) (l m : List UInt8) : crcN c (l ++ m) = crcN (crcN c l) m := by simp [crcN]
theorem leN_inj : ∀ (l m : List UInt8), l.length = m.length → leN l = leN m → l = m := by
  intro l
  induction l with
  | nil => intro m h _; exact (List.eq_nil_of_length_eq_zero h.symm).symm
  | cons b l ih =>
    intro m h e
    cases m with
    | nil => simp at h
    | cons c m =>
      have := UInt8.toNat_lt b
      have := UInt8.toNat_lt c
      simp only [leN] at e
      have h1 : b = c := UInt8.toNat_inj.1 (by omega)
      rw [h1, ih m (by simpa using h) (by omega)]
/-- The same head, two bodies whose difference lies in 32 neighbouring bits: two sums. -/
theorem crc_tells {hd b b' : List UInt8} {p w : Nat} (hl : b'.length = b.length) (hp : p ≤ 8 * b.length) (hw : leN b' = leN b ^^^ 2 ^ p * w) (hw32 : w < 4294967296) (h : crcOf (hd ++ b') = crcOf (hd ++ b)) : w = 0 := by
  unfold crcOf at h
  have h := congrArg (· ^^^ 4294967295) h
  simp only [Nat.xor_assoc, Nat.xor_self, Nat.xor_zero] at h
  rw [crcN_append, crcN_append, crcN_eq b', crcN_eq b, hl, hw, ← Nat.xor_assoc, crc8_xor _ (2 ^ p * w)] at h
  have h2 := congrArg (crc8 (8 * b.length) (crcN 4294967295 hd ^^^ leN b) ^^^ ·) h
  simp only [← Nat.xor_assoc, Nat.xor_self, Nat.zero_xor] at h2
  have h3 : 8 * b.length = p + (8 * b.length - p) := by omega
  rw [h3, crc8_add, crc8_pow] at h2
  rcases Nat.eq_zero_or_pos w with e | e
  · exact e
  · exact absurd h2 (crc8_ne _ _ hw32 (by omega))
/-- One bit is turned. -/
theorem leN_flip : ∀ (l : List UInt8) (j : Nat) (x : UInt8), l[j]? = some x → ∀ r, r < 8 → leN (l.set j (x ^^^ UInt8.ofNat (2 ^ r))) = leN l ^^^ 2 ^ (8 * j + r) := by
  intro l
  induction l with
  | nil => intro j x h; simp at h
  | cons b l ih =>
    intro j x h r hr
    have h2r : 2 ^ r < 256 := Nat.lt_of_lt_of_le (Nat.pow_lt_pow_right (by omega) hr) (by omega)
    cases j with
    | zero =>
      simp at h
      subst h
      simp only [List.set_cons_zero, leN, Nat.mul_zero, Nat.zero_add]
      have h3 : (b ^^^ UInt8.ofNat (2 ^ r)).toNat = b.toNat ^^^ 2 ^ r := by
        rw [UInt8.toNat_xor, UInt8.toNat_ofNat_of_lt' h2r]
      rw [h3, xor_add (UInt8.toNat_lt b), xor_add (Nat.xor_lt_two_pow (n := 8) (UInt8.toNat_lt b) h2r), Nat.xor_assoc, Nat.xor_assoc, Nat.xor_comm (2 ^ r)]
    | succ j =>
      simp at h
      have := ih j x h r hr
      simp only [List.set_cons_succ, leN]
      rw [this, xor_add (UInt8.toNat_lt b), xor_add (UInt8.toNat_lt b), Nat.xor_assoc]
      congr 1
      have e : 2 ^ (8 * (j + 1) + r) = 2 ^ 8 * 2 ^ (8 * j + r) := by rw [← Nat.pow_add]; congr 1; omega
      rw [e]
      have h4 := Nat.shiftLeft_xor_distrib (a := leN l) (b := 2 ^ (8 * j + r)) (i := 8)
      simp only [Nat.shiftLeft_eq] at h4
      rw [Nat.mul_comm 256, Nat.mul_comm 256, Nat.mul_comm (2 ^ 8)]
      exact h4
/-- A frame whose body is another one of the same length. -/
theorem unf_turn (k : Nat) (hk : k < 256) (b : List UInt8) (hb : b.length ≤ 1048576) (c : Nat) (hc : c < 4294967296) : unf (frame0 k b ++ be 4 c) = if crcOf (frame0 k b) = c then (k, b, 12 + b.length, 0) else (0, [], 0, 23) := by
  have e4 : be 4 b.length = [UInt8.ofNat (b.length / 256 ^ 3), UInt8.ofNat (b.length / 256 ^ 2), UInt8.ofNat (b.length / 256 ^ 1), UInt8.ofNat (b.length / 256 ^ 0)] := rfl
  have e1 : be 1 k = [UInt8.ofNat (k / 256 ^ 0)] := rfl
  have e0 : be 1 0 = [0] := rfl
  have hf0 : frame0 k b = 68 :: 70 :: UInt8.ofNat (k / 256 ^ 0) :: 0 :: UInt8.ofNat (b.length / 256 ^ 3) :: UInt8.ofNat (b.length / 256 ^ 2) :: UInt8.ofNat (b.length / 256 ^ 1) :: UInt8.ofNat (b.length / 256 ^ 0) :: b := by
    rw [frame0, e4, e1, e0]; rfl
  have hf : frame0 k b ++ be 4 c = 68 :: 70 :: UInt8.ofNat (k / 256 ^ 0) :: 0 :: UInt8.ofNat (b.length / 256 ^ 3) :: UInt8.ofNat (b.length / 256 ^ 2) :: UInt8.ofNat (b.length / 256 ^ 1) :: UInt8.ofNat (b.length / 256 ^ 0) :: (b ++ be 4 c) := by
    rw [hf0]; rfl
  have hn : rdn [UInt8.ofNat (b.length / 256 ^ 3), UInt8.ofNat (b.length / 256 ^ 2), UInt8.ofNat (b.length / 256 ^ 1), UInt8.ofNat (b.length / 256 ^ 0)] = b.length := by
    rw [← e4, rdn_be, Nat.mod_eq_of_lt (by omega)]
  have h1 : (68 :: 70 :: UInt8.ofNat (k / 256 ^ 0) :: 0 :: UInt8.ofNat (b.length / 256 ^ 3) :: UInt8.ofNat (b.length / 256 ^ 2) :: UInt8.ofNat (b.length / 256 ^ 1) :: UInt8.ofNat (b.length / 256 ^ 0) :: (b ++ be 4 c)).take (8 + b.length) = frame0 k b := by
    rw [← hf, List.take_append_of_le_length (by simp), List.take_of_length_le (by simp)]
  have h2 : rdn (((b ++ be 4 c).drop b.length).take 4) = c := by
    rw [List.drop_left' rfl, List.take_of_length_le (by simp), rdn_be, Nat.mod_eq_of_lt (by omega)]
  have h3 : (UInt8.ofNat (k / 256 ^ 0)).toNat = k := by rw [Nat.pow_zero, Nat.div_one]; exact UInt8.toNat_ofNat_of_lt' hk
  rw [hf, unf, hn, if_neg (by simp; omega), if_neg (by simp), h1, h2, h3]
  by_cases hs : crcOf (frame0 k b) = c
  · rw [if_neg (by simpa using hs), if_pos hs]; simp
  · rw [if_pos hs, if_neg hs]
end Go.Proofs.Ytilofpnhpeammaa.Ah
