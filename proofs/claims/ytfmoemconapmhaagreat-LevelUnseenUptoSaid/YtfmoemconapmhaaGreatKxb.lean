/- dedupref02.Number. -/
import Derived.Test.YtfmoemconapmhaaGreatKxa
set_option linter.unusedVariables false
set_option linter.unusedSimpArgs false
set_option linter.constructorNameAsVariable false
namespace Go.Proofs.YtfmoemconapmhaaGreat.Ah
open Go
theorem q11 {m : Int} {bs l : List UInt8} (h : (bs.length : Int) + l.length ≤ m) : (⟨m, bs, false⟩ : WS).put l = ⟨m, bs ++ l, false⟩ := by
 simp [WS.put]; omega
def frame0 (k : Nat) (b : List UInt8) : List UInt8 := [68, 70] ++ be 1 k ++ be 1 0 ++ be 4 b.length ++ b
def frame (k : Nat) (b : List UInt8) : List UInt8 := frame0 k b ++ be 4 (crcOf (frame0 k b))
@[simp] theorem q0a7 (k : Nat) (b : List UInt8) : (frame0 k b).length = 8 + b.length := by simp [frame0]; omega
theorem q02w {w0 : World} {h : Hp} (k : Nat) (hk : k < 256) (b : List UInt8) (hb : b.length ≤ 70368744177664) :
  ACalls prog w0 qfl [.int .u8 k, .string (str b)] h fun v h' =>
   v = (if 1048576 < b.length then .tuple #[.string .empty, .int .i64 3] else .tuple #[.string (str (frame k b)), .int .i64 0]) ∧ Step h h' [] [] := by
 refine ACalls.of_fit (by simp) fun f => qzz (by simp) ?_
 simp only [qfw, q4d, q0q, qt, q2b]
 by_cases hl : 1048576 < b.length
 ·have c1 : decide ((1048576 : Int) < (b.length : Int)) = true := decide_eq_true (by omega)
  simp only [c1, q0f, qd, qk, if_pos hl]
  exact ⟨by simp, by trivial, Step.refl _ _ (by simp)⟩
 ·have c1 : decide ((1048576 : Int) < (b.length : Int)) = false := decide_eq_false (by omega)
  have e8 : IntKind.i64.wrap (8 + (b.length : Int)) = 8 + (b.length : Int) := IntWalk.i64_in _ (by omega)
  have e12 : IntKind.i64.wrap (8 + (b.length : Int) + 4) = 12 + (b.length : Int) := by rw [IntWalk.i64_in _ (by omega)]; omega
  simp only [c1, q0l, q2c, qt, e8, e12, if_neg hl]
  refine qb (qam _ (by omega)) fun v h1 ⟨e, w1, s1⟩ f1 => ?_
  subst e
  rw [show max (12 + (b.length : Int)) 0 = 12 + (b.length : Int) by omega] at w1
  refine qb (qh1 [68, 70] (by simp) w1 (by simp)) fun v h2 ⟨S2, w2, s2⟩ f2 => ?_
  rw [q11 (by simp; omega)] at w2
  refine qb (qsh k hk w2 (by simp)) fun v h3 ⟨S3, w3, s3⟩ f3 => ?_
  rw [q11 (by simp; omega)] at w3
  refine qb (qsh 0 (by omega) w3 (by simp)) fun v h4 ⟨S4, w4, s4⟩ f4 => ?_
  rw [q11 (by simp; omega)] at w4
  have e32 : IntKind.u32.wrap (b.length : Int) = (b.length : Int) := IntWalk.u32_in _ (by omega)
  simp only [q1o, qt, e32]
  refine qb (q8c b.length w4 (by simp)) fun v h5 ⟨S5, w5, s5⟩ f5 => ?_
  rw [q11 (by simp; omega)] at w5
  refine qb (qh1 b hb w5 (by simp; omega)) fun v h6 ⟨S6, w6, s6⟩ f6 => ?_
  rw [q11 (by simp)] at w6
  have hfr : [] ++ [68, 70] ++ be 1 k ++ be 1 0 ++ be 4 b.length ++ b = frame0 k b := by simp [frame0]
  rw [hfr] at w6
  refine qb (q56 w6) fun v h7 ⟨e, e2⟩ f7 => ?_
  subst e e2
  have o1 : (⟨12 + (b.length : Int), frame0 k b, false⟩ : WS).out = frame0 k b := rfl
  simp only [qgr, List.getElem?_toArray, List.getElem?_cons_zero, List.getElem?_cons_succ, qt, o1]
  refine qb (q5f (frame0 k b) (by simp; omega)) fun v h8 ⟨e, e2⟩ f8 => ?_
  subst e e2
  refine qb (q8c (crcOf (frame0 k b)) w6 (by simp; omega)) fun v h9 ⟨S9, w9, s9⟩ f9 => ?_
  rw [q11 (by simp; omega)] at w9
  refine qb (q56 w9) fun v h10 ⟨e, e2⟩ f10 => ?_
  subst e e2
  have o2 : (⟨12 + (b.length : Int), frame0 k b ++ be 4 (crcOf (frame0 k b)), false⟩ : WS).out = frame k b := rfl
  have o3 : (⟨12 + (b.length : Int), frame0 k b ++ be 4 (crcOf (frame0 k b)), false⟩ : WS).err = 0 := rfl
  simp only [qgr, List.getElem?_toArray, List.getElem?_cons_zero, List.getElem?_cons_succ, qt, o2, o3, qd, qk]
  exact ⟨by simp, by trivial, (((((((s1.trans s2).trans s3).trans s4).trans s5).trans s6).trans s9).less (by simp))⟩
theorem q0a1 {n : Nat} (h : n < 128) : vi n = [UInt8.ofNat n] := by unfold vi; rw [dif_pos h]
theorem q0a2 {n : Nat} (h : ¬ n < 128) : vi n = g7 n :: vi (n / 128) := by rw [vi]; rw [dif_neg h]
theorem q09j (n : Nat) : (g7 n).toNat = n % 128 + 128 := by
 unfold g7
 rw [UInt8.toNat_ofNat_of_lt']
 show n % 128 + 128 < 256
 omega
theorem q08e {n : Nat} (h : n < 256) : (UInt8.ofNat n).toNat = n := UInt8.toNat_ofNat_of_lt' h
theorem qtd (rest : List UInt8) : ∀ (n i acc : Nat), n * 128 ^ i < 18446744073709551616 → (0 < i → 0 < n) → shp (vi n ++ rest) i acc = (acc + n * 128 ^ i, i + (vi n).length, 0) := by
 intro n
 induction n using vi.induct with
 | case1 n hn =>
  intro i acc h hi
  rw [q0a1 hn]
  simp only [List.cons_append, List.nil_append, qbw]
  have ht := q08e (n := n) (by omega)
  rw [if_neg, if_pos (by omega), if_neg]
  ·rw [ht, Nat.mod_eq_of_lt hn]; simp
  ·rintro ⟨e, h0⟩
   have := hi h0
   have h2 : (UInt8.ofNat n).toNat = 0 := by rw [e]; rfl
   omega
  ·rintro ⟨rfl, e⟩
   have := hi (by omega)
   have : n = 1 := by omega
   subst this
   exact e rfl
 | case2 n hn ih =>
  intro i acc h hi
  rw [q0a2 hn]
  simp only [List.cons_append, qbw]
  have ht := q09j n
  have h1 : n / 128 * 128 ^ (i + 1) + n % 128 * 128 ^ i = n * 128 ^ i := by
   rw [Nat.pow_succ, Nat.mul_comm (128 ^ i) 128, ← Nat.mul_assoc, ← Nat.add_mul]
   congr 1
   omega
  rw [if_neg, if_neg (by omega), ih (i + 1) _ (by omega) (fun _ => by omega), ht]
  ·have h2 : (n % 128 + 128) % 128 = n % 128 := by omega
   rw [h2, ← h1]
   simp
   omega
  ·rintro ⟨rfl, e⟩
   omega
/-! ### ReadVarint -/
def lv : List UInt8 → Nat
 | [] => 0
 | b :: l => b.toNat % 128 + 128 * lv l
theorem q07m (b : UInt8) (l : List UInt8) : rdn (b :: l) = b.toNat * 256 ^ l.length + rdn l := by
 have key : ∀ (l : List UInt8) (n : Nat), l.foldl (fun n b => n * 256 + b.toNat) n = n * 256 ^ l.length + rdn l := by
  intro l
  induction l with
  | nil => intro n; simp [rdn]
  | cons c l ih =>
   intro n
   have h1 := ih (n * 256 + c.toNat)
   have h2 := ih (0 * 256 + c.toNat)
   simp only [rdn, List.foldl_cons, List.length_cons] at h1 h2 ⊢
   rw [h1, h2, Nat.add_mul, Nat.pow_succ, Nat.zero_mul, Nat.zero_add, Nat.mul_assoc, Nat.mul_comm 256, Nat.add_assoc]
 have := key l (0 * 256 + b.toNat)
 simpa [rdn] using this
theorem qil : ∀ (s n : Nat), rdn (be s n) = n % 256 ^ s := by
 intro s
 induction s with
 | zero => intro n; simp [be, rdn, Nat.mod_one]
 | succ s ih =>
  intro n
  rw [be, q07m, ih, q4h]
  have : (UInt8.ofNat (n / 256 ^ s)).toNat = n / 256 ^ s % 256 := by simp
  rw [this, Nat.pow_succ, Nat.mod_mul, Nat.mul_comm, Nat.add_comm]
theorem q055 (k : Nat) (hk : k < 256) (b r : List UInt8) (hb : b.length ≤ 1048576) : unf (frame k b ++ r) = (k, b, 12 + b.length, 0) := by
 have e4 : be 4 b.length = [UInt8.ofNat (b.length / 256 ^ 3), UInt8.ofNat (b.length / 256 ^ 2), UInt8.ofNat (b.length / 256 ^ 1), UInt8.ofNat (b.length / 256 ^ 0)] := rfl
 have e1 : be 1 k = [UInt8.ofNat (k / 256 ^ 0)] := rfl
 have e0 : be 1 0 = [0] := rfl
 have hf0 : frame0 k b = 68 :: 70 :: UInt8.ofNat (k / 256 ^ 0) :: 0 :: UInt8.ofNat (b.length / 256 ^ 3) :: UInt8.ofNat (b.length / 256 ^ 2) :: UInt8.ofNat (b.length / 256 ^ 1) :: UInt8.ofNat (b.length / 256 ^ 0) :: b := by
  rw [frame0, e4, e1, e0]; rfl
 have hf : frame k b ++ r = 68 :: 70 :: UInt8.ofNat (k / 256 ^ 0) :: 0 :: UInt8.ofNat (b.length / 256 ^ 3) :: UInt8.ofNat (b.length / 256 ^ 2) :: UInt8.ofNat (b.length / 256 ^ 1) :: UInt8.ofNat (b.length / 256 ^ 0) :: (b ++ (be 4 (crcOf (frame0 k b)) ++ r)) := by
  rw [frame, List.append_assoc, hf0]; rfl
 have hn : rdn [UInt8.ofNat (b.length / 256 ^ 3), UInt8.ofNat (b.length / 256 ^ 2), UInt8.ofNat (b.length / 256 ^ 1), UInt8.ofNat (b.length / 256 ^ 0)] = b.length := by
  rw [← e4, qil, Nat.mod_eq_of_lt (by omega)]
 have hc := q83 (frame0 k b)
 rw [hf, unf, hn, if_neg, if_neg, if_neg]
 ·have : (UInt8.ofNat (k / 256 ^ 0)).toNat = k := by rw [Nat.pow_zero, Nat.div_one]; exact UInt8.toNat_ofNat_of_lt' hk
  rw [this]
  simp
 ·have h1 : (68 :: 70 :: UInt8.ofNat (k / 256 ^ 0) :: 0 :: UInt8.ofNat (b.length / 256 ^ 3) :: UInt8.ofNat (b.length / 256 ^ 2) :: UInt8.ofNat (b.length / 256 ^ 1) :: UInt8.ofNat (b.length / 256 ^ 0) :: (b ++ (be 4 (crcOf (frame0 k b)) ++ r))).take (8 + b.length) = frame0 k b := by
   rw [← hf, frame, List.append_assoc, List.take_append_of_le_length (by simp), List.take_of_length_le (by simp)]
  rw [h1]
  simp
  rw [qil, Nat.mod_eq_of_lt (by omega)]
 ·simp
 ·simp; omega
end Go.Proofs.YtfmoemconapmhaaGreat.Ah
