/- codec.Writer: varints and texts; Len and Done. -/
import Derived.Test.YtilofpnhpeammaaKw
set_option linter.unusedVariables false
set_option linter.unusedSimpArgs false
namespace Go.Proofs.Ytilofpnhpeammaa.Ah
open Go

/-- The lowest seven bits, and more to come. -/
def g7 (n : Nat) : UInt8 := UInt8.ofNat (n % 128 + 128)
/-- The shortest form. -/
def vi (n : Nat) : List UInt8 := if h : n < 128 then [UInt8.ofNat n] else g7 n :: vi (n / 128)
theorem or128 (n : Nat) : binA .or (.int .u8 (IntKind.u8.wrap (n : Int))) (.int .u8 128) = some (bv (g7 n)) := by
  have e : IntKind.u8.wrap (n : Int) = ((n % 256 : Nat) : Int) := by rw [IntKind.wrap_u8]; simp
  have h2 : ∀ x, x < 256 → x ||| 128 = x % 128 + 128 := by
    intro x hx
    have h5 := Nat.two_pow_add_eq_or_of_lt (i := 7) (b := x % 128) (by omega) 1
    simp at h5
    by_cases h6 : x < 128
    · rw [Nat.mod_eq_of_lt h6] at h5 ⊢
      rw [Nat.or_comm, ← h5]; omega
    · have e : x = 128 ||| x % 128 := by rw [← h5]; omega
      rw [e, Nat.or_comm, ← Nat.or_assoc, Nat.or_self, ← h5]; omega
  have h3 := h2 (n % 256) (Nat.mod_lt _ (by omega))
  have := binA_or .u8 (n % 256) 128
  rw [e, show (128 : Int) = ((128 : Nat) : Int) from rfl, this, g7, bv_ofNat, wrap_u rfl (Nat.mod_lt _ (by decide)), h3]
  have h4 : (n % 256 % 128 + 128) % 2 ^ IntKind.u8.bits = (n % 128 + 128) % 256 := by simp [IntKind.bits]
  rw [h4]
theorem vi_pos (n : Nat) : 0 < (vi n).length := by unfold vi; split <;> simp
theorem vi_le : ∀ k n, n < 128 ^ (k + 1) → (vi n).length ≤ k + 1 := by
  intro k
  induction k with
  | zero => intro n h; unfold vi; rw [dif_pos (by simpa using h)]; simp
  | succ k ih =>
    intro n h
    unfold vi
    split
    · simp
    · have := ih (n / 128) (by rw [Nat.pow_succ] at h; omega)
      simp; omega
theorem vi_10 {n : Nat} (h : n < 18446744073709551616) : (vi n).length ≤ 10 := vi_le 9 n (by omega)

theorem varint_loop {w0 : World} {K : Value → Value → Hp → Prop} (n : Nat) : ∀ (h : Hp) (x : Value) (pre : List UInt8) (S : List Nat), w0.heap.size ≤ h.next → Vec w0 h 1 x pre.length (bvs pre) S → pre.length + (vi n).length ≤ 100 → n < 18446744073709551616 →
    (∀ (h' : Hp) (x' : Value) (m : Nat) (pre' : List UInt8) (S' : List Nat), m < 128 → Vec w0 h' 1 x' pre'.length (bvs pre') S' → pre' ++ [UInt8.ofNat m] = pre ++ vi n → Step h h' S S' → K (.int .u64 m) x' h') →
    codec_varint_L1 prog w0 K (vi n).length (.int .u64 n) x h := by
  induction n using vi.induct with
  | case1 n hn =>
    intro h x pre S hf hv hl hb hk
    have e : vi n = [UInt8.ofNat n] := by unfold vi; rw [dif_pos hn]
    rw [e] at hk ⊢
    simp [codec_varint_L1, codec_varint_B1, show ¬ (128 : Int) ≤ n by omega]
    exact hk h x n pre S hn hv rfl (.refl _ _ fun b hb => (hv.lt b hb).2)
  | case2 n hn ih =>
    intro h x pre S hf hv hl hb hk
    have e : vi n = g7 n :: vi (n / 128) := by rw [vi]; rw [dif_neg hn]
    rw [e] at hk hl ⊢
    simp at hl
    simp [codec_varint_L1, codec_varint_B1, or128]
    refine ⟨fun _ => ?_, fun h => by omega⟩
    refine appA_vec (w0 := w0) (m := 1) (s := 1) (by_ := 1) (h := h.new [bv (g7 n)] 1) (ys := bvs [g7 n]) (by simp; omega) (hv.new _ _) (by simp) (src_new hf (by simp)) (by simp) (by omega) (by omega) (by omega) (fun x' h' S' hv' st => ?_)
    have st2 : Step h h' S S' := (((Step.refl h S fun b hb => (hv.lt b hb).2).new _ _).less (T := S) (fun b hb => by simp [hb])).trans st
    simp [IntKind.bits]
    have e2 : (n : Int) / 128 = ((n / 128 : Nat) : Int) := by simp
    rw [e2]
    refine ih h' x' (pre ++ [g7 n]) S' (by have := st2.1; omega) (by simpa using hv') (by simp; omega) (by omega) (fun h2 x2 m pre' S2 hm hv2 hp st3 => hk h2 x2 m pre' S2 hm hv2 (by simpa using hp) (st2.trans st3))
theorem varint_spec {w0 : World} {h : Hp} (n : Nat) (hn : n < 18446744073709551616) :
    ACalls prog w0 n_codec_varint [.int .u64 n] h fun v h' => ∃ S', Vec w0 h' 1 v (vi n).length (bvs (vi n)) S' ∧ Step h h' [] S' := by
  refine ACalls.of_fit (by simp) fun f => c_codec_varint (by simp) ?_
  have h10 := vi_10 hn
  refine ⟨(vi n).length, varint_loop n h _ [] [] f.base .nil (by simp; omega) hn (fun h' x' m pre' S' hm hv he st => ?_)⟩
  have e : IntKind.u8.wrap (m : Int) = ((m % 256 : Nat) : Int) := by rw [IntKind.wrap_u8]; simp
  simp [e]
  have hb : (.int .u8 ((m : Int) % 256) : Value) = bv (UInt8.ofNat m) := by rw [bv_ofNat]; simp
  rw [hb]
  have hlen : pre'.length + 1 = (vi n).length := by rw [← List.nil_append (vi n), ← he]; simp
  have hfb := f.base
  have := st.1
  refine appA_vec (w0 := w0) (m := 1) (s := 1) (by_ := 1) (h := h'.new [bv (UInt8.ofNat m)] 1) (ys := bvs [UInt8.ofNat m]) (by simp; omega) (hv.new _ _) (by simp) (src_new (by omega) (by simp)) (by simp) (by omega) (by omega) (by omega) (fun x2 h2 S2 hv2 st2 => ?_)
  obtain ⟨a, c, rfl⟩ := hv2.slice
  simp
  refine ⟨S2, ?_, ((st.new _ _).less (T := S') (fun b hb => by simp [hb])).trans st2⟩
  rw [← hlen]
  have he2 : bvs pre' ++ bvs [UInt8.ofNat m] = bvs (vi n) := by rw [← bvs_append, he]; simp
  rw [← he2]
  exact hv2
theorem Varint_spec {w0 : World} {h : Hp} {p : Nat} {st : WS} {S : List Nat} (n : Nat) (hn : n < 18446744073709551616) (w : Wr w0 h p st S) (hsz : st.bs.length + 10 ≤ 140737488355328) :
    ACalls prog w0 n_codec_Writer_Varint [ptr p, .int .u64 n] h fun v h' => ∃ S', Wr w0 h' p (st.put (vi n)) S' ∧ Step h h' S S' := by
  refine ACalls.of_fit (by simp [ptr]) fun f => c_codec_Writer_Varint (by simp [ptr]) ?_
  have h10 := vi_10 hn
  refine callA_of (varint_spec n hn) fun v h1 ⟨S1, hv, s1⟩ f1 => ?_
  obtain ⟨a, c, hx⟩ := hv.slice
  subst hx
  refine callA_of (put_spec (l := vi n) (w.frame s1 (by simp)) hv.src (by omega)) fun v h2 ⟨S2, w2, s2⟩ f2 => ?_
  simp only [retA_iff, oneOf_nil]
  refine ⟨by simp, S2, w2, ?_⟩
  exact (s1.wide (T := S) (T' := S) (by simp) (fun b hb => .inr ⟨hb, (w.lt b hb).2⟩)).trans s2
theorem Text_spec {w0 : World} {h : Hp} {p : Nat} {st : WS} {S : List Nat} (l : List UInt8) (hl : l.length ≤ 70368744177664) (w : Wr w0 h p st S) (hsz : st.bs.length + 10 + l.length ≤ 140737488355328) :
    ACalls prog w0 n_codec_Writer_Text [ptr p, .string (str l)] h fun v h' => ∃ S', Wr w0 h' p (st.put (vi l.length ++ l)) S' ∧ Step h h' S S' := by
  refine ACalls.of_fit (by simp [ptr]) fun f => c_codec_Writer_Text (by simp [ptr]) ?_
  have h10 := vi_10 (n := l.length) (by omega)
  simp only [s_codec_Writer_Text, lenStr_string, pureA_some, convA_int, str_size]
  rw [IntWalk.u64_in _ (by omega)]
  refine callA_of (varint_spec l.length (by omega)) fun v h1 ⟨S1, hv, s1⟩ f1 => ?_
  refine appA_vec (m := l.length) (ys := bvs l) f1.base hv (by simp) ?_ (by simp) (by omega) (by omega) (by omega) (fun x' h2 S2 hv2 s2 => ?_)
  · have := src_string (h := h1) w0.heap.size (str l)
    simpa using this
  · have hv3 : Vec w0 h2 1 x' (vi l.length ++ l).length (bvs (vi l.length ++ l)) S2 := by simpa using hv2
    obtain ⟨a, c, rfl⟩ := hv3.slice
    have s12 := s1.trans s2
    refine callA_of (put_spec (l := vi l.length ++ l) (ay := a) (cy := c) (w.frame s12 (by simp)) hv3.src (by simp; omega)) fun v h3 ⟨S3, w3, s3⟩ f3 => ?_
    simp only [retA_iff, oneOf_nil]
    exact ⟨by simp, S3, w3, (s12.wide (T := S) (T' := S) (by simp) (fun b hb => .inr ⟨hb, (w.lt b hb).2⟩)).trans s3⟩
theorem WRaw_spec {w0 : World} {h : Hp} {p : Nat} {st : WS} {S : List Nat} (l : List UInt8) (hl : l.length ≤ 70368744177664) (w : Wr w0 h p st S) (hsz : st.bs.length + l.length ≤ 140737488355328) :
    ACalls prog w0 n_codec_Writer_Raw [ptr p, .string (str l)] h fun v h' => ∃ S', Wr w0 h' p (st.put l) S' ∧ Step h h' S S' := by
  refine ACalls.of_fit (by simp [ptr]) fun f => c_codec_Writer_Raw (by simp [ptr]) ?_
  simp only [s_codec_Writer_Raw, s2bA_iff, str_size, str_data, bvs_eq]
  refine ⟨by omega, ?_⟩
  have s1 := (Step.refl h [] (by simp)).new (bvs l) 1
  refine callA_of (put_spec (l := l) (ay := some ⟨h.next, 0, none⟩) (cy := ucap) (w.frame s1 (by simp)) (src_new f.base (by simp)) hsz) fun v h3 ⟨S3, w3, s3⟩ f3 => ?_
  simp only [retA_iff, oneOf_nil]
  exact ⟨by simp, S3, w3, (s1.wide (T := S) (T' := S) (by simp) (fun b hb => .inr ⟨hb, (w.lt b hb).2⟩)).trans s3⟩
/-- What a writer tells. -/
def WS.len (s : WS) : Nat := if s.over then 0 else s.bs.length
def WS.out (s : WS) : List UInt8 := if s.over then [] else s.bs
def WS.err (s : WS) : Int := if s.over then 3 else 0
theorem WLen_spec {w0 : World} {h : Hp} {p : Nat} {st : WS} {S : List Nat} (w : Wr w0 h p st S) :
    ACalls prog w0 n_codec_Writer_Len [ptr p] h fun v h' => v = .int .i64 st.len ∧ h' = h := by
  refine ACalls.of_fit (by simp [ptr]) fun f => c_codec_Writer_Len (by simp [ptr]) ?_
  obtain ⟨x, T, hb0, hp, hp2, hv, hpT, rfl, hm⟩ := w
  obtain ⟨ax, cx, hx⟩ := hv.slice
  simp [s_codec_Writer_Len, ptr, hb0, hx, Nat.not_lt.2 hp, WS.len]
  cases st.over <;> simp
theorem WDone_spec {w0 : World} {h : Hp} {p : Nat} {st : WS} {S : List Nat} (w : Wr w0 h p st S) :
    ACalls prog w0 n_codec_Writer_Done [ptr p] h fun v h' => v = .tuple #[.string (str st.out), .int .i64 st.err] ∧ h' = h := by
  refine ACalls.of_fit (by simp [ptr]) fun f => c_codec_Writer_Done (by simp [ptr]) ?_
  obtain ⟨x, T, hb0, hp, hp2, hv, hpT, rfl, hm⟩ := w
  obtain ⟨ax, cx, hx⟩ := hv.slice
  simp [s_codec_Writer_Done, ptr, hb0, Nat.not_lt.2 hp, WS.out, WS.err]
  refine ⟨fun ho => by simp [ho, str_nil], fun ho => hv.b2s ?_⟩
  simp [ho]
end Go.Proofs.Ytilofpnhpeammaa.Ah
