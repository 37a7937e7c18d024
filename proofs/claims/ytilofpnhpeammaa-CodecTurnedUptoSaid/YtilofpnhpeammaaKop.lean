/- deduplaw02.Op: a write and its bytes. -/
import Derived.Test.YtilofpnhpeammaaKref
import Derived.Test.YtilofpnhpeammaaKa
import Derived.Test.YtilofpnhpeammaaAh22
set_option linter.unusedVariables false
set_option linter.unusedSimpArgs false
namespace Go.Proofs.Ytilofpnhpeammaa.Ah
open Go

structure Opt where
  kind : Int
  n : Nat
  s : List UInt8
def Opt.e (o : Opt) : List Value := [.int .i64 o.kind, .int .u64 o.n, .string (str o.s)]
def dOp : Dec Opt := ⟨Opt.e, fun o => o.n < 18446744073709551616, fun o => o.s.length + 1⟩
/-- What a write puts. -/
def Opt.b (o : Opt) : List UInt8 :=
  if o.kind = 0 then be 1 o.n else if o.kind = 1 then be 2 o.n else if o.kind = 2 then be 4 o.n else if o.kind = 3 then be 8 o.n else
  if o.kind = 4 then vi o.n else if o.kind = 5 then vi o.s.length ++ o.s else if o.kind = 6 then o.s else []
theorem Opt.b_len (o : Opt) (hn : o.n < 18446744073709551616) (hs : o.s.length ≤ 70368744177664) : o.b.length ≤ o.s.length + 10 := by
  have h10 := vi_10 hn
  have h11 := vi_10 (n := o.s.length) (by omega)
  unfold Opt.b
  repeat' split
  all_goals simp
  all_goals omega
theorem be_mod (n k : Nat) : ∀ s, s ≤ k → be s (n % 256 ^ k) = be s n := by
  intro s
  induction s with
  | zero => intro _; rfl
  | succ s ih =>
    intro hs
    simp only [be]
    rw [ih (by omega)]
    congr 1
    apply UInt8.toNat_inj.1
    simp only [UInt8.toNat_ofNat']
    have h1 : ∀ m, m / 256 ^ s % 256 = m % 256 ^ (s + 1) / 256 ^ s := by
      intro m
      rw [Nat.pow_succ, ← Nat.mod_mul_right_div_self]
    have h2 : (2 ^ 8 : Nat) = 256 := rfl
    rw [h2, h1, h1, Nat.mod_mod_of_dvd _ (Nat.pow_dvd_pow 256 hs)]
theorem WS.put_nil {st : WS} (h : st.over = false → (st.bs.length : Int) ≤ st.most) : st.put [] = st := by
  unfold WS.put
  split
  · rfl
  · rename_i ho
    have := h (by simpa using ho)
    rw [if_neg (by simp; omega)]
    simp
theorem write_spec {w0 : World} {h : Hp} {p : Nat} {st : WS} {S : List Nat} (o : Opt) (hn : o.n < 18446744073709551616) (hs : o.s.length ≤ 70368744177664) (w : Wr w0 h p st S) (hsz : st.bs.length + 10 + o.s.length ≤ 140737488355328)
    (hle : st.over = false → (st.bs.length : Int) ≤ st.most) :
    ACalls prog w0 n_deduplaw02_write [ptr p, .agg o.e.toArray] h fun v h' => ∃ S', Wr w0 h' p (st.put o.b) S' ∧ Step h h' S S' := by
  obtain ⟨k, n, s⟩ := o
  refine ACalls.of_fit (by simp [ptr]) fun f => c_deduplaw02_write (by simp [ptr]) ?_
  have s0 := (Step.refl h S (fun b hb => (w.lt b hb).2)).new [.int .i64 k, .int .u64 n, .string (str s)] 3
  have w1 := w.frame ((Step.refl h [] (by simp)).new [.int .i64 k, .int .u64 n, .string (str s)] 3) (by simp)
  have fin : ∀ {h' : Hp} {S' : List Nat}, Step (h.new [.int .i64 k, .int .u64 n, .string (str s)] 3) h' S S' → Step h h' S S' := fun s => (s0.less (fun b hb => by simp [hb])).trans s
  simp only [s_deduplaw02_write, boxA_agg, Opt.e, List.toList_toArray] at w1 fin ⊢
  have e0 : IntKind.u8.wrap (n : Int) = ((n % 256 ^ 1 : Nat) : Int) := by rw [IntKind.wrap_u8]; simp
  have e1 : IntKind.u16.wrap (n : Int) = ((n % 256 ^ 2 : Nat) : Int) := by simp [IntKind.wrap, IntKind.signed, IntKind.bits]
  have e2 : IntKind.u32.wrap (n : Int) = ((n % 256 ^ 4 : Nat) : Int) := by rw [IntKind.wrap_u32]; simp
  by_cases k0 : k = 0
  · subst k0
    have hb : (⟨0, n, s⟩ : Opt).b = be 1 n := by simp [Opt.b]
    simp [Nat.not_lt.2 f.base]
    rw [e0]
    refine callA_of (U8_spec (n % 256 ^ 1) (by omega) w1 (by omega)) fun v h' ⟨S', w', s'⟩ f' => ?_
    rw [be_mod _ _ _ (Nat.le_refl 1)] at w'
    simp only [retA_iff, oneOf_nil]
    exact ⟨by simp, S', by rw [hb]; exact w', fin s'⟩
  by_cases k1 : k = 1
  · subst k1
    have hb : (⟨1, n, s⟩ : Opt).b = be 2 n := by simp [Opt.b]
    simp [Nat.not_lt.2 f.base]
    rw [e1]
    refine callA_of (U16_spec (n % 256 ^ 2) w1 (by omega)) fun v h' ⟨S', w', s'⟩ f' => ?_
    rw [be_mod _ _ _ (Nat.le_refl 2)] at w'
    simp only [retA_iff, oneOf_nil]
    exact ⟨by simp, S', by rw [hb]; exact w', fin s'⟩
  by_cases k2 : k = 2
  · subst k2
    have hb : (⟨2, n, s⟩ : Opt).b = be 4 n := by simp [Opt.b]
    simp [Nat.not_lt.2 f.base]
    rw [e2]
    refine callA_of (U32_spec (n % 256 ^ 4) w1 (by omega)) fun v h' ⟨S', w', s'⟩ f' => ?_
    rw [be_mod _ _ _ (Nat.le_refl 4)] at w'
    simp only [retA_iff, oneOf_nil]
    exact ⟨by simp, S', by rw [hb]; exact w', fin s'⟩
  by_cases k3 : k = 3
  · subst k3
    have hb : (⟨3, n, s⟩ : Opt).b = be 8 n := by simp [Opt.b]
    simp [Nat.not_lt.2 f.base]
    refine callA_of (U64_spec n w1 (by omega)) fun v h' ⟨S', w', s'⟩ f' => ?_
    simp only [retA_iff, oneOf_nil]
    exact ⟨by simp, S', by rw [hb]; exact w', fin s'⟩
  by_cases k4 : k = 4
  · subst k4
    have hb : (⟨4, n, s⟩ : Opt).b = vi n := by simp [Opt.b]
    simp [Nat.not_lt.2 f.base]
    refine callA_of (Varint_spec n hn w1 (by omega)) fun v h' ⟨S', w', s'⟩ f' => ?_
    simp only [retA_iff, oneOf_nil]
    exact ⟨by simp, S', by rw [hb]; exact w', fin s'⟩
  by_cases k5 : k = 5
  · subst k5
    have hb : (⟨5, n, s⟩ : Opt).b = vi s.length ++ s := by simp [Opt.b]
    simp [Nat.not_lt.2 f.base]
    refine callA_of (Text_spec s hs w1 (by omega)) fun v h' ⟨S', w', s'⟩ f' => ?_
    simp only [retA_iff, oneOf_nil]
    exact ⟨by simp, S', by rw [hb]; exact w', fin s'⟩
  by_cases k6 : k = 6
  · subst k6
    have hb : (⟨6, n, s⟩ : Opt).b = s := by simp [Opt.b]
    simp [Nat.not_lt.2 f.base]
    refine callA_of (WRaw_spec s hs w1 (by simp only at hsz; omega)) fun v h' ⟨S', w', s'⟩ f' => ?_
    simp only [retA_iff, oneOf_nil]
    exact ⟨by simp, S', by rw [hb]; exact w', fin s'⟩
  have hb : (⟨k, n, s⟩ : Opt).b = [] := by simp [Opt.b, k0, k1, k2, k3, k4, k5, k6]
  simp [k0, k1, k2, k3, k4, k5, k6, Nat.not_lt.2 f.base]
  exact ⟨S, by rw [hb, WS.put_nil hle]; exact w1, fin (Step.refl _ _ fun b hb => (w1.lt b hb).2)⟩
theorem bytes_spec {w0 : World} {h : Hp} (o : Opt) (hn : o.n < 18446744073709551616) (hs : o.s.length ≤ 70368744177664) :
    ACalls prog w0 n_deduplaw02_bytes [.agg o.e.toArray] h fun v h' => v = .string (str o.b) ∧ Step h h' [] [] := by
  obtain ⟨k, n, s⟩ := o
  refine ACalls.of_fit (by simp) fun f => c_deduplaw02_bytes (by simp) ?_
  have s0 := ((Step.refl h [] (by simp)).new [.int .i64 k, .int .u64 n, .string (str s)] 3).less (T := []) (by simp)
  simp only [s_deduplaw02_bytes, boxA_agg, Opt.e, List.toList_toArray] at s0 ⊢
  by_cases k0 : k = 0
  · subst k0
    have hb : (⟨0, n, s⟩ : Opt).b = be 1 n := by simp [Opt.b]
    simp [Nat.not_lt.2 f.base]
    refine callA_of (rNumber_spec n 1 (by omega)) fun v h' ⟨e, s'⟩ f' => ?_
    subst e
    simp only [retA_iff, oneOf_one]
    exact ⟨by simp, by rw [hb], s0.trans s'⟩
  by_cases k1 : k = 1
  · subst k1
    have hb : (⟨1, n, s⟩ : Opt).b = be 2 n := by simp [Opt.b]
    simp [Nat.not_lt.2 f.base]
    refine callA_of (rNumber_spec n 2 (by omega)) fun v h' ⟨e, s'⟩ f' => ?_
    subst e
    simp only [retA_iff, oneOf_one]
    exact ⟨by simp, by rw [hb], s0.trans s'⟩
  by_cases k2 : k = 2
  · subst k2
    have hb : (⟨2, n, s⟩ : Opt).b = be 4 n := by simp [Opt.b]
    simp [Nat.not_lt.2 f.base]
    refine callA_of (rNumber_spec n 4 (by omega)) fun v h' ⟨e, s'⟩ f' => ?_
    subst e
    simp only [retA_iff, oneOf_one]
    exact ⟨by simp, by rw [hb], s0.trans s'⟩
  by_cases k3 : k = 3
  · subst k3
    have hb : (⟨3, n, s⟩ : Opt).b = be 8 n := by simp [Opt.b]
    simp [Nat.not_lt.2 f.base]
    refine callA_of (rNumber_spec n 8 (by omega)) fun v h' ⟨e, s'⟩ f' => ?_
    subst e
    simp only [retA_iff, oneOf_one]
    exact ⟨by simp, by rw [hb], s0.trans s'⟩
  by_cases k4 : k = 4
  · subst k4
    have hb : (⟨4, n, s⟩ : Opt).b = vi n := by simp [Opt.b]
    simp [Nat.not_lt.2 f.base]
    refine callA_of (rVarint_spec n hn) fun v h' ⟨e, s'⟩ f' => ?_
    subst e
    simp only [retA_iff, oneOf_one]
    exact ⟨by simp, by rw [hb], s0.trans s'⟩
  by_cases k5 : k = 5
  · subst k5
    have hb : (⟨5, n, s⟩ : Opt).b = vi s.length ++ s := by simp [Opt.b]
    simp [Nat.not_lt.2 f.base]
    refine callA_of (rText_spec s hs) fun v h' ⟨e, s'⟩ f' => ?_
    subst e
    simp only [retA_iff, oneOf_one]
    exact ⟨by simp, by rw [hb], s0.trans s'⟩
  by_cases k6 : k = 6
  · subst k6
    have hb : (⟨6, n, s⟩ : Opt).b = s := by simp [Opt.b]
    simp [Nat.not_lt.2 f.base]
    exact ⟨by rw [hb], s0⟩
  have hb : (⟨k, n, s⟩ : Opt).b = [] := by simp [Opt.b, k0, k1, k2, k3, k4, k5, k6]
  simp [k0, k1, k2, k3, k4, k5, k6, Nat.not_lt.2 f.base]
  exact ⟨by rw [hb, str_nil], s0⟩
end Go.Proofs.Ytilofpnhpeammaa.Ah
