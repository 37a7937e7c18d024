/- dedupref02.Number. -/
import Derived.Test.YtfmoemconapmhaaGreatKxa
set_option linter.unusedVariables false
set_option linter.unusedSimpArgs false
set_option linter.constructorNameAsVariable false
namespace Go.Proofs.YtfmoemconapmhaaGreat.Ah
open Go
theorem put_ok {m : Int} {bs l : List UInt8} (h : (bs.length : Int) + l.length ≤ m) : (⟨m, bs, false⟩ : WS).put l = ⟨m, bs ++ l, false⟩ := by
  simp [WS.put]; omega
def frame0 (k : Nat) (b : List UInt8) : List UInt8 := [68, 70] ++ be 1 k ++ be 1 0 ++ be 4 b.length ++ b
def frame (k : Nat) (b : List UInt8) : List UInt8 := frame0 k b ++ be 4 (crcOf (frame0 k b))
@[simp] theorem frame0_length (k : Nat) (b : List UInt8) : (frame0 k b).length = 8 + b.length := by simp [frame0]; omega
theorem vi_lo {n : Nat} (h : n < 128) : vi n = [UInt8.ofNat n] := by unfold vi; rw [dif_pos h]
theorem vi_hi {n : Nat} (h : ¬ n < 128) : vi n = g7 n :: vi (n / 128) := by rw [vi]; rw [dif_neg h]
theorem g7_nat (n : Nat) : (g7 n).toNat = n % 128 + 128 := by
  unfold g7
  rw [UInt8.toNat_ofNat_of_lt']
  show n % 128 + 128 < 256
  omega
theorem of8_nat {n : Nat} (h : n < 256) : (UInt8.ofNat n).toNat = n := UInt8.toNat_ofNat_of_lt' h
theorem shp_vi (rest : List UInt8) : ∀ (n i acc : Nat), n * 128 ^ i < 18446744073709551616 → (0 < i → 0 < n) → shp (vi n ++ rest) i acc = (acc + n * 128 ^ i, i + (vi n).length, 0) := by
  intro n
  induction n using vi.induct with
  | case1 n hn =>
    intro i acc h hi
    rw [vi_lo hn]
    simp only [List.cons_append, List.nil_append, shp_cons]
    have ht := of8_nat (n := n) (by omega)
    rw [if_neg, if_pos (by omega), if_neg]
    · rw [ht, Nat.mod_eq_of_lt hn]; simp
    · rintro ⟨e, h0⟩
      have := hi h0
      have h2 : (UInt8.ofNat n).toNat = 0 := by rw [e]; rfl
      omega
    · rintro ⟨rfl, e⟩
      have := hi (by omega)
      have : n = 1 := by omega
      subst this
      exact e rfl
  | case2 n hn ih =>
    intro i acc h hi
    rw [vi_hi hn]
    simp only [List.cons_append, shp_cons]
    have ht := g7_nat n
    have h1 : n / 128 * 128 ^ (i + 1) + n % 128 * 128 ^ i = n * 128 ^ i := by
      rw [Nat.pow_succ, Nat.mul_comm (128 ^ i) 128, ← Nat.mul_assoc, ← Nat.add_mul]
      congr 1
      omega
    rw [if_neg, if_neg (by omega), ih (i + 1) _ (by omega) (fun _ => by omega), ht]
    · have h2 : (n % 128 + 128) % 128 = n % 128 := by omega
      rw [h2, ← h1]
      simp
      omega
    · rintro ⟨rfl, e⟩
      omega
/-! ### ReadVarint -/
def lv : List UInt8 → Nat
  | [] => 0
  | b :: l => b.toNat % 128 + 128 * lv l
theorem rdn_cons (b : UInt8) (l : List UInt8) : rdn (b :: l) = b.toNat * 256 ^ l.length + rdn l := by
  have key : ∀ (l : List UInt8) (n : Nat), l.foldl (fun n b => n * 256 + b.toNat) n = n * 256 ^ l.length + rdn l := by
    intro l
    induction l with
    | nil => intro n; simp [rdn]
    | cons c l ih =>
      intro n
      have h1 := ih (n * 256 + c.toNat)
      have h2 := ih (0 * 256 + c.toNat)
      simp only [rdn, List.foldl_cons, List.length_cons] at h1 h2 ⊢
      rw [h1, h2, Nat.add_mul, Nat.pow_succ, Nat.zero_mul, Nat.zero_add, Nat.mul_assoc, Nat.mul_comm 256, Nat.add_assoc]
  have := key l (0 * 256 + b.toNat)
  simpa [rdn] using this
theorem rdn_be : ∀ (s n : Nat), rdn (be s n) = n % 256 ^ s := by
  intro s
  induction s with
  | zero => intro n; simp [be, rdn, Nat.mod_one]
  | succ s ih =>
    intro n
    rw [be, rdn_cons, ih, be_length]
    have : (UInt8.ofNat (n / 256 ^ s)).toNat = n / 256 ^ s % 256 := by simp
    rw [this, Nat.pow_succ, Nat.mod_mul, Nat.mul_comm, Nat.add_comm]
end Go.Proofs.YtfmoemconapmhaaGreat.Ah
