/- CodecFrames: a frame is read back; the walk. -/
import Derived.Test.YtihebhdgjnibfaaKfr
set_option linter.unusedVariables false
set_option linter.unusedSimpArgs false
namespace Go.Proofs.Ytihebhdgjnibfaa.Ah
open Go

theorem rdn_cons (b : UInt8) (l : List UInt8) : rdn (b :: l) = b.toNat * 256 ^ l.length + rdn l := by
  have key : ∀ (l : List UInt8) (n : Nat), l.foldl (fun n b => n * 256 + b.toNat) n = n * 256 ^ l.length + rdn l := by
    intro l
    induction l with
    | nil => intro n; simp [rdn]
    | cons c l ih =>
      intro n
      have h1 := ih (n * 256 + c.toNat)
      have h2 := ih (0 * 256 + c.toNat)
      simp only [rdn, List.foldl_cons, List.length_cons] at h1 h2 ⊢
      rw [h1, h2, Nat.add_mul, Nat.pow_succ, Nat.zero_mul, Nat.zero_add, Nat.mul_assoc, Nat.mul_comm 256, Nat.add_assoc]
  have := key l (0 * 256 + b.toNat)
  simpa [rdn] using this
theorem rdn_be : ∀ (s n : Nat), rdn (be s n) = n % 256 ^ s := by
  intro s
  induction s with
  | zero => intro n; simp [be, rdn, Nat.mod_one]
  | succ s ih =>
    intro n
    rw [be, rdn_cons, ih, be_length]
    have : (UInt8.ofNat (n / 256 ^ s)).toNat = n / 256 ^ s % 256 := by simp
    rw [this, Nat.pow_succ, Nat.mod_mul, Nat.mul_comm, Nat.add_comm]
theorem frame_length (k : Nat) (b : List UInt8) : (frame k b).length = 12 + b.length := by simp [frame]; omega
theorem unf_frame (k : Nat) (hk : k < 256) (b r : List UInt8) (hb : b.length ≤ 1048576) : unf (frame k b ++ r) = (k, b, 12 + b.length, 0) := by
  have e4 : be 4 b.length = [UInt8.ofNat (b.length / 256 ^ 3), UInt8.ofNat (b.length / 256 ^ 2), UInt8.ofNat (b.length / 256 ^ 1), UInt8.ofNat (b.length / 256 ^ 0)] := rfl
  have e1 : be 1 k = [UInt8.ofNat (k / 256 ^ 0)] := rfl
  have e0 : be 1 0 = [0] := rfl
  have hf0 : frame0 k b = 68 :: 70 :: UInt8.ofNat (k / 256 ^ 0) :: 0 :: UInt8.ofNat (b.length / 256 ^ 3) :: UInt8.ofNat (b.length / 256 ^ 2) :: UInt8.ofNat (b.length / 256 ^ 1) :: UInt8.ofNat (b.length / 256 ^ 0) :: b := by
    rw [frame0, e4, e1, e0]; rfl
  have hf : frame k b ++ r = 68 :: 70 :: UInt8.ofNat (k / 256 ^ 0) :: 0 :: UInt8.ofNat (b.length / 256 ^ 3) :: UInt8.ofNat (b.length / 256 ^ 2) :: UInt8.ofNat (b.length / 256 ^ 1) :: UInt8.ofNat (b.length / 256 ^ 0) :: (b ++ (be 4 (crcOf (frame0 k b)) ++ r)) := by
    rw [frame, List.append_assoc, hf0]; rfl
  have hn : rdn [UInt8.ofNat (b.length / 256 ^ 3), UInt8.ofNat (b.length / 256 ^ 2), UInt8.ofNat (b.length / 256 ^ 1), UInt8.ofNat (b.length / 256 ^ 0)] = b.length := by
    rw [← e4, rdn_be, Nat.mod_eq_of_lt (by omega)]
  have hc := crcOf_lt (frame0 k b)
  rw [hf, unf, hn, if_neg, if_neg, if_neg]
  · have : (UInt8.ofNat (k / 256 ^ 0)).toNat = k := by rw [Nat.pow_zero, Nat.div_one]; exact UInt8.toNat_ofNat_of_lt' hk
    rw [this]
    simp
  · have h1 : (68 :: 70 :: UInt8.ofNat (k / 256 ^ 0) :: 0 :: UInt8.ofNat (b.length / 256 ^ 3) :: UInt8.ofNat (b.length / 256 ^ 2) :: UInt8.ofNat (b.length / 256 ^ 1) :: UInt8.ofNat (b.length / 256 ^ 0) :: (b ++ (be 4 (crcOf (frame0 k b)) ++ r))).take (8 + b.length) = frame0 k b := by
      rw [← hf, frame, List.append_assoc, List.take_append_of_le_length (by simp), List.take_of_length_le (by simp)]
    rw [h1]
    simp
    rw [rdn_be, Nat.mod_eq_of_lt (by omega)]
  · simp
  · simp; omega
end Go.Proofs.Ytihebhdgjnibfaa.Ah
