/- codec.Writer: what each call does. -/
import Derived.Test.YtiakadkooclelaaGcodec
set_option linter.unusedVariables false
set_option linter.unusedSimpArgs false
namespace Go.Proofs.Ytiakadkooclelaa.Ah
open Go

/-- What a writer holds. -/
structure WS where
  most : Int
  bs : List UInt8
  over : Bool
def WS.put (s : WS) (l : List UInt8) : WS := if s.over then s else if s.most - s.bs.length < l.length then { s with over := true } else { s with bs := s.bs ++ l }

def ptr (p : Nat) : Value := .pointer (some ⟨p, 0, none⟩)
def Wr (w0 : World) (h : Hp) (p : Nat) (st : WS) (S : List Nat) : Prop :=
  ∃ x T, h.blk p = some [.int .i64 st.most, x, .bool st.over] ∧ w0.heap.size ≤ p ∧ p < h.next ∧ Vec w0 h 1 x st.bs.length (bvs st.bs) T ∧ p ∉ T ∧ S = p :: T ∧ 0 ≤ st.most ∧ st.most ≤ 9223372036854775807

theorem Wr.lt {w0 : World} {h : Hp} {p : Nat} {st : WS} {S : List Nat} (w : Wr w0 h p st S) : ∀ b, b ∈ S → w0.heap.size ≤ b ∧ b < h.next := by
  obtain ⟨x, T, a, b, c, d, e, rfl, _⟩ := w
  intro i hi
  rcases List.mem_cons.1 hi with rfl | hi
  · exact ⟨b, c⟩
  · exact d.lt i hi
theorem Wr.frame {w0 : World} {h h' : Hp} {p : Nat} {st : WS} {S T T' : List Nat} (w : Wr w0 h p st S) (s : Step h h' T T') (hd : ∀ b, b ∈ S → b ∉ T) : Wr w0 h' p st S := by
  obtain ⟨x, U, a, b, c, d, e, rfl, f⟩ := w
  exact ⟨x, U, by rw [(s.2 p c (hd p (by simp))).1]; exact a, b, by have := s.1; omega, d.frame s (fun i hi => hd i (by simp [hi])), e, rfl, f⟩

theorem NewWriter_spec {w0 : World} {h : Hp} (most : Int) (hm : -9223372036854775808 ≤ most ∧ most ≤ 9223372036854775807) :
    ACalls prog w0 n_codec_NewWriter [.int .i64 most] h fun v h' => v = ptr h.next ∧ Wr w0 h' h.next ⟨max most 0, [], false⟩ [h.next] ∧ Step h h' [] [h.next] := by
  refine ACalls.of_fit (by simp) fun f => c_codec_NewWriter (by simp) ?_
  simp [s_codec_NewWriter]
  refine ⟨rfl, ⟨_, [], by simp, f.base, by simp, .nil, by simp, rfl, by simp; omega, by simp; omega⟩, by simp, fun b hb _ => ?_, fun b hb => ?_, rfl⟩
  · have : b ≠ h.next := by omega
    simp [this]
  · simp at hb; subst hb; simp

theorem put_spec {w0 : World} {h : Hp} {p : Nat} {st : WS} {S : List Nat} {ay : Option Addr} {cy : Nat} {l : List UInt8} (w : Wr w0 h p st S) (hs : Src w0.heap.size h 1 (.slice ay l.length cy) l.length (bvs l))
    (hsz : st.bs.length + l.length ≤ 140737488355328) :
    ACalls prog w0 n_codec_Writer_put [ptr p, .slice ay l.length cy] h fun v h' => ∃ S', Wr w0 h' p (st.put l) S' ∧ Step h h' S S' := by
  refine ACalls.of_fit (by simp [ptr]) fun f => c_codec_Writer_put (by simp [ptr]) ?_
  have w2 := w
  obtain ⟨x, T, hb0, hp, hp2, hv, hpT, rfl, hm⟩ := w
  obtain ⟨ax, cx, hx⟩ := hv.slice
  simp [s_codec_Writer_put, ptr, hb0, hx, Nat.not_lt.2 hp]
  refine ⟨fun ho => ⟨_, by simpa [WS.put, ho] using w2, Step.refl _ _ fun b hb => (w2.lt b hb).2⟩, fun ho => ?_⟩
  rw [IntWalk.i64_in _ (by omega), ← hx]
  refine ⟨fun hlt => ⟨hp, ?_⟩, fun hge => ?_⟩
  · exact ⟨p :: T, ⟨x, T, by simp [WS.put, ho, hlt], hp, by simpa using hp2, by simpa [WS.put, ho, hlt] using hv.put hpT _, hpT, rfl, by simpa [WS.put, ho, hlt] using hm⟩, (Step.refl _ _ fun b hb => (w2.lt b hb).2).put (by simp) _⟩
  · have hst : st.put l = { st with bs := st.bs ++ l } := by simp [WS.put, ho]; omega
    refine appA_vec f.base hv (by simp) hs (by simp) (by omega) (by omega) (by omega) (fun x' h' T' hv' s' => ?_)
    have hpT' : p ∉ T' := fun e => by rcases (s'.3 p e).2 with q | q; exact hpT q; omega
    have hpb : h'.blk p = h.blk p := (s'.2 p hp2 hpT).1
    obtain ⟨ax', cx', hx'⟩ := hv'.slice
    simp [hpb, hb0, Nat.not_lt.2 hp, hp, hx', hst]
    rw [← hx']
    have s2 := s'.1
    refine ⟨p :: T', ⟨x', T', by simp, hp, by simp; omega, by simpa using hv'.put hpT' _, hpT', rfl, hm⟩, ?_⟩
    have s3 : Step h h' (p :: T) (p :: T') := s'.wide (fun b hb => by simp [hb]) (fun b hb => by rcases List.mem_cons.1 hb with rfl | hb; exact .inr ⟨by simp, hp2⟩; exact .inl hb)
    exact s3.put (by simp) _

/-! ### Numbers -/
/-- The lowest bytes of a number, the highest first. -/
def be : Nat → Nat → List UInt8
  | 0, _ => []
  | s + 1, n => UInt8.ofNat (n / 256 ^ s) :: be s n
@[simp] theorem be_length (s n : Nat) : (be s n).length = s := by induction s with | zero => rfl | succ s ih => simp [be, ih]
theorem bv_ofNat (n : Nat) : bv (UInt8.ofNat n) = .int .u8 ((n % 256 : Nat) : Int) := by simp [bv]

theorem num64_loop {w0 : World} {kk : IntKind} (hkk : 4 ≤ kk.bits) {p q n0 s : Nat} {K : Value → Value → Hp → Prop} (hq : w0.heap.size ≤ q) (hs : s ≤ 8) : ∀ (k i : Nat) (h : Hp), i + k = s → q < h.next →
    h.blk q = some (List.replicate k (.int .u8 0) ++ bvs (be i n0)) → (∀ h', h'.blk q = some (bvs (be s n0)) → Step h h' [q] [q] → K (ptr p) (.slice (some ⟨q, 0, none⟩) s s) h') →
    codec_number_uint64_L1 prog w0 K (k + 1) (ptr p) (.int kk ((n0 / 256 ^ i : Nat) : Int)) (.int .i64 (s : Int)) (.slice (some ⟨q, 0, none⟩) s s) (.int .i64 (s : Int)) (.int .i64 (i : Int)) h := by
  intro k
  induction k with
  | zero =>
    intro i h hi hql hb hk
    have : i = s := by omega
    subst this
    simp [codec_number_uint64_L1, codec_number_uint64_B1]
    exact hk h (by simpa using hb) (.refl _ _ (by simpa using hql))
  | succ k ih =>
    intro i h hi hql hb hk
    rw [codec_number_uint64_L1]
    simp [codec_number_uint64_B1]
    have e1 : IntKind.i64.wrap (IntKind.i64.wrap ((s : Int) - 1) - (i : Int)) = (k : Int) := by rw [IntWalk.i64_in ((s : Int) - 1) (by omega), IntWalk.i64_in _ (by omega)]; omega
    have e2 : IntKind.i64.wrap ((i : Int) + 1) = ((i + 1 : Nat) : Int) := by rw [IntWalk.i64_in _ (by omega)]; simp
    have e3 : (n0 : Int) / 256 ^ i / 2 ^ min 4 kk.bits / 2 ^ min 4 kk.bits = ((n0 / 256 ^ (i + 1) : Nat) : Int) := by
      rw [Nat.pow_succ, ← Nat.div_div_eq_div_mul]
      rw [Nat.min_eq_left hkk]
      simp
      omega
    have e4 : IntKind.u8.wrap ((n0 : Int) / 256 ^ i) = ((n0 / 256 ^ i % 256 : Nat) : Int) := by rw [IntKind.wrap_u8]; simp
    rw [e1, e2, e3, e4]
    refine ⟨fun _ => ⟨by omega, by omega, hq, _, hb, by simp; omega, ?_⟩, fun hle => by omega⟩
    refine ih (i + 1) _ (by omega) (by simpa using hql) ?_ (fun h' hb' st => hk h' hb' ?_)
    · simp only [put_blk, if_true, Int.toNat_natCast, be, bvs_cons, bv_ofNat]
      rw [List.set_append_left _ _ (by simp), List.replicate_succ', List.set_append_right _ _ (by simp)]
      simp
    · exact ((Step.refl h [q] (by simpa using hql)).put (by simp) _).trans st
theorem num32_eq : codec_number_uint32_L1 = codec_number_uint64_L1 := by
  funext P w0 k m
  induction m with
  | zero => rfl
  | succ m ih => funext a b c d e f; simp only [codec_number_uint32_L1, codec_number_uint64_L1, ih]; rfl
theorem num32E_eq : codec_number_uint32_E1 = codec_number_uint64_E1 := by
  unfold codec_number_uint32_E1 codec_number_uint64_E1; rw [num32_eq]
theorem snum32_eq : s_codec_number_uint32 = s_codec_number_uint64 := by
  funext P w0 a b c R; simp only [s_codec_number_uint32, s_codec_number_uint64, num32E_eq]
theorem snum_spec {w0 : World} {h : Hp} {kk : IntKind} (hkk : 4 ≤ kk.bits) {p : Nat} {st : WS} {S : List Nat} (n s : Nat) (hs : s ≤ 8) (f : Fit w0 h) (w : Wr w0 h p st S) (hsz : st.bs.length + s ≤ 140737488355328) :
    s_codec_number_uint64 prog w0 (ptr p) (.int kk n) (.int .i64 s) (fun v h' => ∃ S', Wr w0 h' p (st.put (be s n)) S' ∧ Step h h' S S') h := by
  simp only [s_codec_number_uint64, mkA_nat, lenSl_slice, pureA_some, codec_number_uint64_E1]
  refine ⟨Nat.le_refl _, by omega, by omega, s + 1, ?_⟩
  have := num64_loop (w0 := w0) hkk (p := p) (q := h.next) (n0 := n) (s := s) (K := fun y0 y6 => callA prog w0 n_codec_Writer_put [y0, y6] fun _ => retA [] fun v h' => ∃ S', Wr w0 h' p (st.put (be s n)) S' ∧ Step h h' S S') f.base hs s 0 (h.new (zerosL [Value.int IntKind.u8 0] s) 1) (by omega) (by simp) (by simp [zerosL_single, be]) ?_
  · simpa using this
  · intro h1 hb1 st1
    have s1 : Step h h1 S (h.next :: S) := (((Step.refl h S fun b hb => (w.lt b hb).2).new (zerosL [Value.int IntKind.u8 0] s) 1).trans (st1.wide (T := h.next :: S) (T' := h.next :: S) (by simp) (fun b hb => by
      rcases List.mem_cons.1 hb with rfl | hb
      · exact .inl (by simp)
      · exact .inr ⟨by simp [hb], by have := (w.lt b hb).2; simp; omega⟩)))
    have w1 : Wr w0 h1 p st S := by
      refine (w.frame (T := []) (T' := [h.next]) ?_ (by simp)).frame st1 ?_
      · exact (Step.refl h [] (by simp)).new _ _
      · intro b hb; have := (w.lt b hb).2; simp; omega
    have hsrc := src_whole (w0 := w0) (h := h1) (q := h.next) (c := s) (n := s) (s := 1) f.base hb1 (by simp)
    refine callA_of (put_spec (l := be s n) (ay := some ⟨h.next, 0, none⟩) (cy := s) w1 (by simpa using hsrc) (by simpa using hsz)) ?_ |> fun r => by simpa using r
    rintro v h2 ⟨S', w2, s2⟩ f2
    simp only [retA_iff, oneOf_nil]
    exact ⟨by simp, S', w2, (s1.less (T := S) (fun b hb => by simp [hb])).trans s2⟩
theorem U32_spec {w0 : World} {h : Hp} {p : Nat} {st : WS} {S : List Nat} (n : Nat) (w : Wr w0 h p st S) (hsz : st.bs.length + 4 ≤ 140737488355328) :
    ACalls prog w0 n_codec_Writer_U32 [ptr p, .int .u32 n] h fun v h' => ∃ S', Wr w0 h' p (st.put (be 4 n)) S' ∧ Step h h' S S' := by
  refine ACalls.of_fit (by simp [ptr]) fun f => c_codec_Writer_U32 (by simp [ptr]) ?_
  refine callA_of (c_codec_number_uint32 (by simp [ptr]) (snum32_eq ▸ snum_spec (by decide) n 4 (by omega) f w hsz)) fun v h' r _ => ?_
  simpa using r
theorem U64_spec {w0 : World} {h : Hp} {p : Nat} {st : WS} {S : List Nat} (n : Nat) (w : Wr w0 h p st S) (hsz : st.bs.length + 8 ≤ 140737488355328) :
    ACalls prog w0 n_codec_Writer_U64 [ptr p, .int .u64 n] h fun v h' => ∃ S', Wr w0 h' p (st.put (be 8 n)) S' ∧ Step h h' S S' := by
  refine ACalls.of_fit (by simp [ptr]) fun f => c_codec_Writer_U64 (by simp [ptr]) ?_
  refine callA_of (c_codec_number_uint64 (by simp [ptr]) (snum_spec (by decide) n 8 (by omega) f w hsz)) fun v h' r _ => ?_
  simpa using r

end Go.Proofs.Ytiakadkooclelaa.Ah
