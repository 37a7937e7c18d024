/- Varints, in plain Lean: shortest, read back, cut. -/
import Derived.Test.YtilofpnhpeammaaKa
set_option linter.unusedVariables false
set_option linter.unusedSimpArgs false
namespace Go.Proofs.Ytilofpnhpeammaa.Ah
open Go

theorem vi_lo {n : Nat} (h : n < 128) : vi n = [UInt8.ofNat n] := by unfold vi; rw [dif_pos h]
theorem vi_hi {n : Nat} (h : ¬ n < 128) : vi n = g7 n :: vi (n / 128) := by rw [vi]; rw [dif_neg h]
theorem vi_mono : ∀ (b a : Nat), a ≤ b → (vi a).length ≤ (vi b).length := by
  intro b
  induction b using vi.induct with
  | case1 b hb => intro a h; rw [vi_lo hb, vi_lo (by omega)]; simp
  | case2 b hb ih =>
    intro a h
    rw [vi_hi hb]
    by_cases ha : a < 128
    · rw [vi_lo ha]; simp
    · rw [vi_hi ha]; have := ih (a / 128) (Nat.div_le_div_right h); simp; omega
theorem g7_nat (n : Nat) : (g7 n).toNat = n % 128 + 128 := by
  unfold g7
  rw [UInt8.toNat_ofNat_of_lt']
  show n % 128 + 128 < 256
  omega
theorem of8_nat {n : Nat} (h : n < 256) : (UInt8.ofNat n).toNat = n := UInt8.toNat_ofNat_of_lt' h
theorem pow_big {i n : Nat} (hn : 0 < n) (h : n * 128 ^ i < 18446744073709551616) : i ≤ 9 := by
  by_cases hi : i ≤ 9
  · exact hi
  · have h1 : 128 ^ 10 ≤ 128 ^ i := Nat.pow_le_pow_right (by omega) (by omega)
    have h2 : 1 * 128 ^ i ≤ n * 128 ^ i := Nat.mul_le_mul_right _ hn
    omega
theorem shp_vi (rest : List UInt8) : ∀ (n i acc : Nat), n * 128 ^ i < 18446744073709551616 → (0 < i → 0 < n) → shp (vi n ++ rest) i acc = (acc + n * 128 ^ i, i + (vi n).length, 0) := by
  intro n
  induction n using vi.induct with
  | case1 n hn =>
    intro i acc h hi
    rw [vi_lo hn]
    simp only [List.cons_append, List.nil_append, shp_cons]
    have ht := of8_nat (n := n) (by omega)
    rw [if_neg, if_pos (by omega), if_neg]
    · rw [ht, Nat.mod_eq_of_lt hn]; simp
    · rintro ⟨e, h0⟩
      have := hi h0
      have h2 : (UInt8.ofNat n).toNat = 0 := by rw [e]; rfl
      omega
    · rintro ⟨rfl, e⟩
      have := hi (by omega)
      have : n = 1 := by omega
      subst this
      exact e rfl
  | case2 n hn ih =>
    intro i acc h hi
    rw [vi_hi hn]
    simp only [List.cons_append, shp_cons]
    have ht := g7_nat n
    have h1 : n / 128 * 128 ^ (i + 1) + n % 128 * 128 ^ i = n * 128 ^ i := by
      rw [Nat.pow_succ, Nat.mul_comm (128 ^ i) 128, ← Nat.mul_assoc, ← Nat.add_mul]
      congr 1
      omega
    rw [if_neg, if_neg (by omega), ih (i + 1) _ (by omega) (fun _ => by omega), ht]
    · have h2 : (n % 128 + 128) % 128 = n % 128 := by omega
      rw [h2, ← h1]
      simp
      omega
    · rintro ⟨rfl, e⟩
      omega
theorem shp_cut : ∀ (n i acc : Nat), n * 128 ^ i < 18446744073709551616 → shp ((vi n).take ((vi n).length - 1)) i acc = (0, 0, 20) := by
  intro n
  induction n using vi.induct with
  | case1 n hn => intro i acc h; rw [vi_lo hn]; simp [shp]
  | case2 n hn ih =>
    intro i acc h
    have hp := vi_pos (n / 128)
    rw [vi_hi hn, List.length_cons, show (vi (n / 128)).length + 1 - 1 = ((vi (n / 128)).length - 1) + 1 by omega, List.take_succ_cons, shp_cons]
    have ht := g7_nat n
    have h1 : n / 128 * 128 ^ (i + 1) + n % 128 * 128 ^ i = n * 128 ^ i := by
      rw [Nat.pow_succ, Nat.mul_comm (128 ^ i) 128, ← Nat.mul_assoc, ← Nat.add_mul]
      congr 1
      omega
    rw [if_neg, if_neg (by omega)]
    · exact ih (i + 1) _ (by omega)
    · rintro ⟨rfl, e⟩
      omega
end Go.Proofs.Ytilofpnhpeammaa.Ah
