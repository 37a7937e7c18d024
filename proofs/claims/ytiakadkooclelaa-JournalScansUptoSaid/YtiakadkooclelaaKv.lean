/- codec.Writer: varints and texts; Len and Done. -/
import Derived.Test.YtiakadkooclelaaKw
set_option linter.unusedVariables false
set_option linter.unusedSimpArgs false
namespace Go.Proofs.Ytiakadkooclelaa.Ah
open Go

/-- The lowest seven bits, and more to come. -/
def g7 (n : Nat) : UInt8 := UInt8.ofNat (n % 128 + 128)
/-- The shortest form. -/
def vi (n : Nat) : List UInt8 := if h : n < 128 then [UInt8.ofNat n] else g7 n :: vi (n / 128)
theorem or128 (n : Nat) : binA .or (.int .u8 (IntKind.u8.wrap (n : Int))) (.int .u8 128) = some (bv (g7 n)) := by
  have e : IntKind.u8.wrap (n : Int) = ((n % 256 : Nat) : Int) := by rw [IntKind.wrap_u8]; simp
  have h2 : ∀ x, x < 256 → x ||| 128 = x % 128 + 128 := by
    intro x hx
    have h5 := Nat.two_pow_add_eq_or_of_lt (i := 7) (b := x % 128) (by omega) 1
    simp at h5
    by_cases h6 : x < 128
    · rw [Nat.mod_eq_of_lt h6] at h5 ⊢
      rw [Nat.or_comm, ← h5]; omega
    · have e : x = 128 ||| x % 128 := by rw [← h5]; omega
      rw [e, Nat.or_comm, ← Nat.or_assoc, Nat.or_self, ← h5]; omega
  have h3 := h2 (n % 256) (Nat.mod_lt _ (by omega))
  have := binA_or .u8 (n % 256) 128
  rw [e, show (128 : Int) = ((128 : Nat) : Int) from rfl, this, g7, bv_ofNat, wrap_u rfl (Nat.mod_lt _ (by decide)), h3]
  have h4 : (n % 256 % 128 + 128) % 2 ^ IntKind.u8.bits = (n % 128 + 128) % 256 := by simp [IntKind.bits]
  rw [h4]
theorem vi_pos (n : Nat) : 0 < (vi n).length := by unfold vi; split <;> simp
theorem vi_le : ∀ k n, n < 128 ^ (k + 1) → (vi n).length ≤ k + 1 := by
  intro k
  induction k with
  | zero => intro n h; unfold vi; rw [dif_pos (by simpa using h)]; simp
  | succ k ih =>
    intro n h
    unfold vi
    split
    · simp
    · have := ih (n / 128) (by rw [Nat.pow_succ] at h; omega)
      simp; omega
theorem vi_10 {n : Nat} (h : n < 18446744073709551616) : (vi n).length ≤ 10 := vi_le 9 n (by omega)

theorem WRaw_spec {w0 : World} {h : Hp} {p : Nat} {st : WS} {S : List Nat} (l : List UInt8) (hl : l.length ≤ 70368744177664) (w : Wr w0 h p st S) (hsz : st.bs.length + l.length ≤ 140737488355328) :
    ACalls prog w0 n_codec_Writer_Raw [ptr p, .string (str l)] h fun v h' => ∃ S', Wr w0 h' p (st.put l) S' ∧ Step h h' S S' := by
  refine ACalls.of_fit (by simp [ptr]) fun f => c_codec_Writer_Raw (by simp [ptr]) ?_
  simp only [s_codec_Writer_Raw, s2bA_iff, str_size, str_data, bvs_eq]
  refine ⟨by omega, ?_⟩
  have s1 := (Step.refl h [] (by simp)).new (bvs l) 1
  refine callA_of (put_spec (l := l) (ay := some ⟨h.next, 0, none⟩) (cy := ucap) (w.frame s1 (by simp)) (src_new f.base (by simp)) hsz) fun v h3 ⟨S3, w3, s3⟩ f3 => ?_
  simp only [retA_iff, oneOf_nil]
  exact ⟨by simp, S3, w3, (s1.wide (T := S) (T' := S) (by simp) (fun b hb => .inr ⟨hb, (w.lt b hb).2⟩)).trans s3⟩
/-- What a writer tells. -/
def WS.len (s : WS) : Nat := if s.over then 0 else s.bs.length
def WS.out (s : WS) : List UInt8 := if s.over then [] else s.bs
def WS.err (s : WS) : Int := if s.over then 3 else 0
theorem WDone_spec {w0 : World} {h : Hp} {p : Nat} {st : WS} {S : List Nat} (w : Wr w0 h p st S) :
    ACalls prog w0 n_codec_Writer_Done [ptr p] h fun v h' => v = .tuple #[.string (str st.out), .int .i64 st.err] ∧ h' = h := by
  refine ACalls.of_fit (by simp [ptr]) fun f => c_codec_Writer_Done (by simp [ptr]) ?_
  obtain ⟨x, T, hb0, hp, hp2, hv, hpT, rfl, hm⟩ := w
  obtain ⟨ax, cx, hx⟩ := hv.slice
  simp [s_codec_Writer_Done, ptr, hb0, Nat.not_lt.2 hp, WS.out, WS.err]
  refine ⟨fun ho => by simp [ho, str_nil], fun ho => hv.b2s ?_⟩
  simp [ho]
end Go.Proofs.Ytiakadkooclelaa.Ah
