/- dedupref02.Number. -/
import Derived.Test.YtihebhdgjnibfaaKp
set_option linter.unusedVariables false
set_option linter.unusedSimpArgs false
namespace Go.Proofs.Ytihebhdgjnibfaa.Ah
open Go

theorem rnum_loop {w0 : World} {K : Value → Hp → Prop} {n : Nat} : ∀ (k : Nat) (h : Hp) (x : Value) (pre : List UInt8) (S : List Nat), k ≤ 8 → pre.length + k ≤ 8 → w0.heap.size ≤ h.next → Vec w0 h 1 x pre.length (bvs pre) S →
    (∀ h' x' S', Vec w0 h' 1 x' (pre ++ be k n).length (bvs (pre ++ be k n)) S' → Step h h' S S' → K x' h') →
    dedupref02_Number_L1 prog w0 K (k + 1) (.int .u64 (n : Int)) x (.int .i64 ((k : Int) - 1)) h := by
  intro k
  induction k with
  | zero =>
    intro h x pre S hk8 hp hf hv hk
    rw [dedupref02_Number_L1]
    simp only [dedupref02_Number_B1, binA_geq, pureA_some, show decide ((0 : Int) ≤ ((0 : Nat) : Int) - 1) = false from rfl, condA_false]
    exact hk h x S (by simpa [be] using hv) (Step.refl _ _ fun b hb => (hv.lt b hb).2)
  | succ k ih =>
    intro h x pre S hk8 hp hf hv hk
    have e0 : ((k + 1 : Nat) : Int) - 1 = (k : Int) := by omega
    have c1 : decide ((0 : Int) ≤ (k : Int)) = true := decide_eq_true (by omega)
    have e7 : IntKind.i64.wrap (8 * (k : Int)) = ((8 * k : Nat) : Int) := by rw [IntWalk.i64_in _ (by omega)]; simp
    have e6 : IntKind.i64.wrap ((k : Int) - 1) = (k : Int) - 1 := IntWalk.i64_in _ (by omega)
    have e8 : binA .shr (.int .u64 (n : Int)) (.int .i64 ((8 * k : Nat) : Int)) = some (.int .u64 ((n / 256 ^ k : Nat) : Int)) := by
      rw [binA_shr _ _ _ _ (by omega), Int.toNat_natCast, Nat.min_eq_left (by simp only [IntKind.bits]; omega)]
      have : 256 ^ k = 2 ^ (8 * k) := by rw [Nat.pow_mul]
      rw [this]; simp
    have e9 : (.int .u8 (IntKind.u8.wrap ((n / 256 ^ k : Nat) : Int)) : Value) = bv (UInt8.ofNat (n / 256 ^ k)) := by rw [bv_ofNat, IntKind.wrap_u8]; simp
    rw [dedupref02_Number_L1, e0]
    simp only [dedupref02_Number_B1, binA_geq, pureA_some, c1, condA_true, binA_mul, e7, e8, convA_int, e9]
    simp
    refine appA_vec (w0 := w0) (m := 1) (s := 1) (by_ := 1) (h := h.new [bv (UInt8.ofNat (n / 256 ^ k))] 1) (ys := bvs [UInt8.ofNat (n / 256 ^ k)]) (by simp; omega) (hv.new _ _) (by simp) (src_new hf (by simp)) (by simp) (by omega) (by omega) (by omega) (fun x' h' S' hv' st2 => ?_)
    simp [e6]
    have s3 : Step h h' S S' := (((Step.refl h S fun b hb => (hv.lt b hb).2).new _ _).less (fun b hb => by simp [hb])).trans st2
    have hb' := st2.1
    exact ih h' x' (pre ++ [UInt8.ofNat (n / 256 ^ k)]) S' (by omega) (by simp; omega) (by simp at hb'; omega) (by simpa using hv') (fun h2 x2 S2 hv2 s2 => hk h2 x2 S2 (by simpa [be] using hv2) (s3.trans s2))
theorem rNumber_spec {w0 : World} {h : Hp} (n s : Nat) (hs : s ≤ 8) :
    ACalls prog w0 n_dedupref02_Number [.int .u64 n, .int .i64 s] h fun v h' => v = .string (str (be s n)) ∧ Step h h' [] [] := by
  refine ACalls.of_fit (by simp) fun f => c_dedupref02_Number (by simp) ?_
  have e6 : IntKind.i64.wrap ((s : Int) - 1) = (s : Int) - 1 := IntWalk.i64_in _ (by omega)
  simp only [s_dedupref02_Number, binA_sub, pureA_some, e6]
  refine ⟨s + 1, rnum_loop s h _ [] [] hs (by simp; omega) f.base .nil (fun h' x' S' hv st => ?_)⟩
  simp only [List.nil_append] at hv
  refine hv.b2s ?_
  simp only [retA_iff, oneOf_one]
  exact ⟨by simp, trivial, st.less (by simp)⟩
end Go.Proofs.Ytihebhdgjnibfaa.Ah
