/- deduplaw02.Op: a write and its bytes. -/
import Derived.Test.YthjpddggnhgjhaaKxb
import Derived.Test.YthjpddggnhgjhaaKxa
import Derived.Test.YthjpddggnhgjhaaAh22
set_option linter.unusedVariables false
set_option linter.unusedSimpArgs false
set_option linter.constructorNameAsVariable false
namespace Go.Proofs.Ythjpddggnhgjhaa.Ah
open Go
structure Opt where
  kind : Int
  n : Nat
  s : List UInt8
def Opt.e (o : Opt) : List Value := [.int .i64 o.kind, .int .u64 o.n, .string (str o.s)]
def dOp : Dec Opt := ⟨Opt.e, fun o => o.n < 18446744073709551616, fun o => o.s.length + 1⟩
/-- What a write puts. -/
def Opt.b (o : Opt) : List UInt8 :=
  if o.kind = 0 then be 1 o.n else if o.kind = 1 then be 2 o.n else if o.kind = 2 then be 4 o.n else if o.kind = 3 then be 8 o.n else
  if o.kind = 4 then vi o.n else if o.kind = 5 then vi o.s.length ++ o.s else if o.kind = 6 then o.s else []
theorem Opt.b_len (o : Opt) (hn : o.n < 18446744073709551616) (hs : o.s.length ≤ 70368744177664) : o.b.length ≤ o.s.length + 10 := by
  have h10 := vi_10 hn
  have h11 := vi_10 (n := o.s.length) (by omega)
  unfold Opt.b
  repeat' split
  all_goals simp
  all_goals omega
theorem be_mod (n k : Nat) : ∀ s, s ≤ k → be s (n % 256 ^ k) = be s n := by
  intro s
  induction s with
  | zero => intro _; rfl
  | succ s ih =>
    intro hs
    simp only [be]
    rw [ih (by omega)]
    congr 1
    apply UInt8.toNat_inj.1
    simp only [UInt8.toNat_ofNat']
    have h1 : ∀ m, m / 256 ^ s % 256 = m % 256 ^ (s + 1) / 256 ^ s := by
      intro m
      rw [Nat.pow_succ, ← Nat.mod_mul_right_div_self]
    have h2 : (2 ^ 8 : Nat) = 256 := rfl
    rw [h2, h1, h1, Nat.mod_mod_of_dvd _ (Nat.pow_dvd_pow 256 hs)]
theorem WS.put_nil {st : WS} (h : st.over = false → (st.bs.length : Int) ≤ st.most) : st.put [] = st := by
  unfold WS.put
  split
  · rfl
  · rename_i ho
    have := h (by simpa using ho)
    rw [if_neg (by simp; omega)]
    simp
structure Turning where
  k : Nat
  s : List UInt8
  a : Int
  t : Nat
def Turning.e (o : Turning) : List Value := [.int .u8 o.k, .string (str o.s), .int .i64 o.a, .int .u32 o.t]
def dTurning : Dec Turning := ⟨Turning.e, fun o => o.k < 256 ∧ (-9223372036854775808 ≤ o.a ∧ o.a ≤ 9223372036854775807) ∧ o.t < 4294967296, fun o => o.s.length + 1⟩

def hd8 (k n : Nat) : List UInt8 := [68, 70] ++ be 1 k ++ be 1 0 ++ be 4 n
theorem frame0_hd (k : Nat) (b : List UInt8) : frame0 k b = hd8 k b.length ++ b := rfl
theorem hd8_length (k n : Nat) : (hd8 k n).length = 8 := by simp [hd8]
theorem bvs_set (l : List UInt8) (i : Nat) (y : UInt8) : (bvs l).set i (bv y) = bvs (l.set i y) := by simp [bvs, List.map_set]
theorem turn_get (k : Nat) (b m : List UInt8) (j : Nat) (hj : j < b.length) : (frame0 k b ++ m)[8 + j]? = b[j]? := by
  rw [frame0_hd, List.append_assoc, List.getElem?_append_right (by rw [hd8_length]; omega), hd8_length, List.getElem?_append_left (by omega)]
  congr 1; omega
theorem turn_set (k : Nat) (b m : List UInt8) (j : Nat) (hj : j < b.length) (y : UInt8) : (frame0 k b ++ m).set (8 + j) y = frame0 k (b.set j y) ++ m := by
  rw [frame0_hd, frame0_hd, List.append_assoc, List.set_append_right _ _ (by rw [hd8_length]; omega), hd8_length, List.set_append_left _ _ (by omega), List.length_set, List.append_assoc]
  congr 2
  congr 1; omega
theorem quo8 {c : Nat} (hc : c < 9223372036854775808) : binA .quo (.int .i64 (c : Int)) (.int .i64 8) = some (.int .i64 ((c / 8 : Nat) : Int)) := by
  rw [binA_quo _ _ _ (by omega)]
  have : (c : Int).tdiv 8 = ((c / 8 : Nat) : Int) := by rw [Int.tdiv_eq_ediv_of_nonneg (by omega)]; simp
  rw [this, IntWalk.i64_in _ (by omega)]
theorem rem8 {c : Nat} : binA .rem (.int .i64 (c : Int)) (.int .i64 8) = some (.int .i64 ((c % 8 : Nat) : Int)) := by
  rw [binA_rem _ _ _ (by omega)]
  have : (c : Int).tmod 8 = ((c % 8 : Nat) : Int) := by rw [Int.tmod_eq_emod_of_nonneg (by omega)]; simp
  rw [this]
theorem shl8 {r : Nat} (hr : r < 8) : binA .shl (.int .u8 1) (.int .i64 (r : Int)) = some (bv (UInt8.ofNat (2 ^ r))) := by
  rw [binA_shl _ _ _ _ (by omega), Int.toNat_natCast, Nat.min_eq_left (by simp only [IntKind.bits]; omega), bv_ofNat]
  have h2 : 2 ^ r < 256 := Nat.lt_of_lt_of_le (Nat.pow_lt_pow_right (by omega) hr) (by omega)
  have e : (2 : Int) ^ r = ((2 ^ r : Nat) : Int) := by simp
  have e3 : IntKind.u8.wrap ((2 ^ r : Nat) : Int) = ((2 ^ r : Nat) : Int) := by
    generalize 2 ^ r = z at h2
    exact IntWalk.u8_in _ (by omega)
  rw [Nat.mod_eq_of_lt h2, Int.one_mul, e, e3]
theorem xor8 (x y : UInt8) : binA .xor (bv x) (bv y) = some (bv (x ^^^ y)) := by
  have hx := UInt8.toNat_lt x
  have hy := UInt8.toNat_lt y
  have h := Nat.xor_lt_two_pow (n := 8) hx hy
  simp only [bv]
  rw [binA_xor, Nat.mod_eq_of_lt (by simpa [IntKind.bits] using h), wrap_u rfl (by simpa [IntKind.bits] using h), UInt8.toNat_xor]
theorem xor_pow {w i : Nat} (hw : w < 2 ^ i) : w ^^^ 2 ^ i < 2 ^ (i + 1) ∧ w ^^^ 2 ^ i ≠ 0 := by
  refine ⟨Nat.xor_lt_two_pow (Nat.lt_of_lt_of_le hw (Nat.pow_le_pow_right (by omega) (by omega))) (Nat.pow_lt_pow_right (by omega) (by omega)), fun e => ?_⟩
  have h := congrArg (· ^^^ 2 ^ i) e
  simp only [Nat.xor_assoc, Nat.xor_self, Nat.xor_zero, Nat.zero_xor] at h
  omega
theorem mul_xor (p w i : Nat) : 2 ^ p * w ^^^ 2 ^ (p + i) = 2 ^ p * (w ^^^ 2 ^ i) := by
  have h4 := Nat.shiftLeft_xor_distrib (a := w) (b := 2 ^ i) (i := p)
  simp only [Nat.shiftLeft_eq] at h4
  rw [Nat.pow_add, Nat.mul_comm (2 ^ p) w, Nat.mul_comm (2 ^ p) (2 ^ i), Nat.mul_comm (2 ^ p)]
  exact h4.symm
end Go.Proofs.Ythjpddggnhgjhaa.Ah
