/- codec.Writer: what each call does. -/
import Derived.Test.YtiakadkooclelaaGcodec
import Derived.Test.YtiakadkooclelaaGn
import Derived.Test.YtiakadkooclelaaGref02
set_option linter.unusedVariables false
set_option linter.unusedSimpArgs false
set_option linter.constructorNameAsVariable false
namespace Go.Proofs.Ytiakadkooclelaa.Ah
open Go
structure WS where
  most : Int
  bs : List UInt8
  over : Bool
def WS.put (s : WS) (l : List UInt8) : WS := if s.over then s else if s.most - s.bs.length < l.length then { s with over := true } else { s with bs := s.bs ++ l }

def Wr (w0 : World) (h : Hp) (p : Nat) (st : WS) (S : List Nat) : Prop :=
  ∃ x T, h.blk p = some [.int .i64 st.most, x, .bool st.over] ∧ w0.heap.size ≤ p ∧ p < h.next ∧ Vec w0 h 1 x st.bs.length (bvs st.bs) T ∧ p ∉ T ∧ S = p :: T ∧ 0 ≤ st.most ∧ st.most ≤ 9223372036854775807

theorem Wr.lt {w0 : World} {h : Hp} {p : Nat} {st : WS} {S : List Nat} (w : Wr w0 h p st S) : ∀ b, b ∈ S → w0.heap.size ≤ b ∧ b < h.next := by
  obtain ⟨x, T, a, b, c, d, e, rfl, _⟩ := w
  intro i hi
  rcases List.mem_cons.1 hi with rfl | hi
  · exact ⟨b, c⟩
  · exact d.lt i hi
theorem Wr.frame {w0 : World} {h h' : Hp} {p : Nat} {st : WS} {S T T' : List Nat} (w : Wr w0 h p st S) (s : Step h h' T T') (hd : ∀ b, b ∈ S → b ∉ T) : Wr w0 h' p st S := by
  obtain ⟨x, U, a, b, c, d, e, rfl, f⟩ := w
  exact ⟨x, U, by rw [(s.2 p c (hd p (by simp))).1]; exact a, b, by have := s.1; omega, d.frame s (fun i hi => hd i (by simp [hi])), e, rfl, f⟩

theorem NewWriter_spec {w0 : World} {h : Hp} (most : Int) (hm : -9223372036854775808 ≤ most ∧ most ≤ 9223372036854775807) :
    ACalls prog w0 n_codec_NewWriter [.int .i64 most] h fun v h' => v = ptr h.next ∧ Wr w0 h' h.next ⟨max most 0, [], false⟩ [h.next] ∧ Step h h' [] [h.next] := by
  refine ACalls.of_fit (by simp) fun f => c_codec_NewWriter (by simp) ?_
  simp [s_codec_NewWriter]
  refine ⟨rfl, ⟨_, [], by simp, f.base, by simp, .nil, by simp, rfl, by simp; omega, by simp; omega⟩, by simp, fun b hb _ => ?_, fun b hb => ?_, rfl⟩
  · have : b ≠ h.next := by omega
    simp [this]
  · simp at hb; subst hb; simp

theorem put_spec {w0 : World} {h : Hp} {p : Nat} {st : WS} {S : List Nat} {ay : Option Addr} {cy : Nat} {l : List UInt8} (w : Wr w0 h p st S) (hs : Src w0.heap.size h 1 (.slice ay l.length cy) l.length (bvs l))
    (hsz : st.bs.length + l.length ≤ 140737488355328) :
    ACalls prog w0 n_codec_Writer_put [ptr p, .slice ay l.length cy] h fun v h' => ∃ S', Wr w0 h' p (st.put l) S' ∧ Step h h' S S' := by
  refine ACalls.of_fit (by simp [ptr]) fun f => c_codec_Writer_put (by simp [ptr]) ?_
  have w2 := w
  obtain ⟨x, T, hb0, hp, hp2, hv, hpT, rfl, hm⟩ := w
  obtain ⟨ax, cx, hx⟩ := hv.slice
  simp [s_codec_Writer_put, ptr, hb0, hx, Nat.not_lt.2 hp]
  refine ⟨fun ho => ⟨_, by simpa [WS.put, ho] using w2, Step.refl _ _ fun b hb => (w2.lt b hb).2⟩, fun ho => ?_⟩
  rw [IntWalk.i64_in _ (by omega), ← hx]
  refine ⟨fun hlt => ⟨hp, ?_⟩, fun hge => ?_⟩
  · exact ⟨p :: T, ⟨x, T, by simp [WS.put, ho, hlt], hp, by simpa using hp2, by simpa [WS.put, ho, hlt] using hv.put hpT _, hpT, rfl, by simpa [WS.put, ho, hlt] using hm⟩, (Step.refl _ _ fun b hb => (w2.lt b hb).2).put (by simp) _⟩
  · have hst : st.put l = { st with bs := st.bs ++ l } := by simp [WS.put, ho]; omega
    refine appA_vec f.base hv (by simp) hs (by simp) (by omega) (by omega) (by omega) (fun x' h' T' hv' s' => ?_)
    have hpT' : p ∉ T' := fun e => by rcases (s'.3 p e).2 with q | q; exact hpT q; omega
    have hpb : h'.blk p = h.blk p := (s'.2 p hp2 hpT).1
    obtain ⟨ax', cx', hx'⟩ := hv'.slice
    simp [hpb, hb0, Nat.not_lt.2 hp, hp, hx', hst]
    rw [← hx']
    have s2 := s'.1
    refine ⟨p :: T', ⟨x', T', by simp, hp, by simp; omega, by simpa using hv'.put hpT' _, hpT', rfl, hm⟩, ?_⟩
    have s3 : Step h h' (p :: T) (p :: T') := s'.wide (fun b hb => by simp [hb]) (fun b hb => by rcases List.mem_cons.1 hb with rfl | hb; exact .inr ⟨by simp, hp2⟩; exact .inl hb)
    exact s3.put (by simp) _

/-! ### Numbers -/
def be : Nat → Nat → List UInt8
  | 0, _ => []
  | s + 1, n => UInt8.ofNat (n / 256 ^ s) :: be s n
@[simp] theorem be_length (s n : Nat) : (be s n).length = s := by induction s with | zero => rfl | succ s ih => simp [be, ih]
theorem bv_ofNat (n : Nat) : bv (UInt8.ofNat n) = .int .u8 ((n % 256 : Nat) : Int) := by simp [bv]

theorem num64_loop {w0 : World} {kk : IntKind} (hkk : 4 ≤ kk.bits) {p q n0 s : Nat} {K : Value → Value → Hp → Prop} (hq : w0.heap.size ≤ q) (hs : s ≤ 8) : ∀ (k i : Nat) (h : Hp), i + k = s → q < h.next →
    h.blk q = some (List.replicate k (.int .u8 0) ++ bvs (be i n0)) → (∀ h', h'.blk q = some (bvs (be s n0)) → Step h h' [q] [q] → K (ptr p) (.slice (some ⟨q, 0, none⟩) s s) h') →
    codec_number_uint64_L1 prog w0 K (k + 1) (ptr p) (.int kk ((n0 / 256 ^ i : Nat) : Int)) (.int .i64 (s : Int)) (.slice (some ⟨q, 0, none⟩) s s) (.int .i64 (s : Int)) (.int .i64 (i : Int)) h := by
  intro k
  induction k with
  | zero =>
    intro i h hi hql hb hk
    have : i = s := by omega
    subst this
    simp [codec_number_uint64_L1, codec_number_uint64_B1]
    exact hk h (by simpa using hb) (.refl _ _ (by simpa using hql))
  | succ k ih =>
    intro i h hi hql hb hk
    rw [codec_number_uint64_L1]
    simp [codec_number_uint64_B1]
    have e1 : IntKind.i64.wrap (IntKind.i64.wrap ((s : Int) - 1) - (i : Int)) = (k : Int) := by rw [IntWalk.i64_in ((s : Int) - 1) (by omega), IntWalk.i64_in _ (by omega)]; omega
    have e2 : IntKind.i64.wrap ((i : Int) + 1) = ((i + 1 : Nat) : Int) := by rw [IntWalk.i64_in _ (by omega)]; simp
    have e3 : (n0 : Int) / 256 ^ i / 2 ^ min 4 kk.bits / 2 ^ min 4 kk.bits = ((n0 / 256 ^ (i + 1) : Nat) : Int) := by
      rw [Nat.pow_succ, ← Nat.div_div_eq_div_mul]
      rw [Nat.min_eq_left hkk]
      simp
      omega
    have e4 : IntKind.u8.wrap ((n0 : Int) / 256 ^ i) = ((n0 / 256 ^ i % 256 : Nat) : Int) := by rw [IntKind.wrap_u8]; simp
    rw [e1, e2, e3, e4]
    refine ⟨fun _ => ⟨by omega, by omega, hq, _, hb, by simp; omega, ?_⟩, fun hle => by omega⟩
    refine ih (i + 1) _ (by omega) (by simpa using hql) ?_ (fun h' hb' st => hk h' hb' ?_)
    · simp only [put_blk, if_true, Int.toNat_natCast, be, bvs_cons, bv_ofNat]
      rw [List.set_append_left _ _ (by simp), List.replicate_succ', List.set_append_right _ _ (by simp)]
      simp
    · exact ((Step.refl h [q] (by simpa using hql)).put (by simp) _).trans st
theorem num32_eq : codec_number_uint32_L1 = codec_number_uint64_L1 := by
  funext P w0 k m
  induction m with
  | zero => rfl
  | succ m ih => funext a b c d e f; simp only [codec_number_uint32_L1, codec_number_uint64_L1, ih]; rfl
theorem num32E_eq : codec_number_uint32_E1 = codec_number_uint64_E1 := by
  unfold codec_number_uint32_E1 codec_number_uint64_E1; rw [num32_eq]
theorem snum32_eq : s_codec_number_uint32 = s_codec_number_uint64 := by
  funext P w0 a b c R; simp only [s_codec_number_uint32, s_codec_number_uint64, num32E_eq]
theorem snum_spec {w0 : World} {h : Hp} {kk : IntKind} (hkk : 4 ≤ kk.bits) {p : Nat} {st : WS} {S : List Nat} (n s : Nat) (hs : s ≤ 8) (f : Fit w0 h) (w : Wr w0 h p st S) (hsz : st.bs.length + s ≤ 140737488355328) :
    s_codec_number_uint64 prog w0 (ptr p) (.int kk n) (.int .i64 s) (fun v h' => ∃ S', Wr w0 h' p (st.put (be s n)) S' ∧ Step h h' S S') h := by
  simp only [s_codec_number_uint64, mkA_nat, lenSl_slice, pureA_some, codec_number_uint64_E1]
  refine ⟨Nat.le_refl _, by omega, by omega, s + 1, ?_⟩
  have := num64_loop (w0 := w0) hkk (p := p) (q := h.next) (n0 := n) (s := s) (K := fun y0 y6 => callA prog w0 n_codec_Writer_put [y0, y6] fun _ => retA [] fun v h' => ∃ S', Wr w0 h' p (st.put (be s n)) S' ∧ Step h h' S S') f.base hs s 0 (h.new (zerosL [Value.int IntKind.u8 0] s) 1) (by omega) (by simp) (by simp [zerosL_single, be]) ?_
  · simpa using this
  · intro h1 hb1 st1
    have s1 : Step h h1 S (h.next :: S) := (((Step.refl h S fun b hb => (w.lt b hb).2).new (zerosL [Value.int IntKind.u8 0] s) 1).trans (st1.wide (T := h.next :: S) (T' := h.next :: S) (by simp) (fun b hb => by
      rcases List.mem_cons.1 hb with rfl | hb
      · exact .inl (by simp)
      · exact .inr ⟨by simp [hb], by have := (w.lt b hb).2; simp; omega⟩)))
    have w1 : Wr w0 h1 p st S := by
      refine (w.frame (T := []) (T' := [h.next]) ?_ (by simp)).frame st1 ?_
      · exact (Step.refl h [] (by simp)).new _ _
      · intro b hb; have := (w.lt b hb).2; simp; omega
    have hsrc := src_whole (w0 := w0) (h := h1) (q := h.next) (c := s) (n := s) (s := 1) f.base hb1 (by simp)
    refine callA_of (put_spec (l := be s n) (ay := some ⟨h.next, 0, none⟩) (cy := s) w1 (by simpa using hsrc) (by simpa using hsz)) ?_ |> fun r => by simpa using r
    rintro v h2 ⟨S', w2, s2⟩ f2
    simp only [retA_iff, oneOf_nil]
    exact ⟨by simp, S', w2, (s1.less (T := S) (fun b hb => by simp [hb])).trans s2⟩
theorem U32_spec {w0 : World} {h : Hp} {p : Nat} {st : WS} {S : List Nat} (n : Nat) (w : Wr w0 h p st S) (hsz : st.bs.length + 4 ≤ 140737488355328) :
    ACalls prog w0 n_codec_Writer_U32 [ptr p, .int .u32 n] h fun v h' => ∃ S', Wr w0 h' p (st.put (be 4 n)) S' ∧ Step h h' S S' := by
  refine ACalls.of_fit (by simp [ptr]) fun f => c_codec_Writer_U32 (by simp [ptr]) ?_
  refine callA_of (c_codec_number_uint32 (by simp [ptr]) (snum32_eq ▸ snum_spec (by decide) n 4 (by omega) f w hsz)) fun v h' r _ => ?_
  simpa using r
theorem U64_spec {w0 : World} {h : Hp} {p : Nat} {st : WS} {S : List Nat} (n : Nat) (w : Wr w0 h p st S) (hsz : st.bs.length + 8 ≤ 140737488355328) :
    ACalls prog w0 n_codec_Writer_U64 [ptr p, .int .u64 n] h fun v h' => ∃ S', Wr w0 h' p (st.put (be 8 n)) S' ∧ Step h h' S S' := by
  refine ACalls.of_fit (by simp [ptr]) fun f => c_codec_Writer_U64 (by simp [ptr]) ?_
  refine callA_of (c_codec_number_uint64 (by simp [ptr]) (snum_spec (by decide) n 8 (by omega) f w hsz)) fun v h' r _ => ?_
  simpa using r
def g7 (n : Nat) : UInt8 := UInt8.ofNat (n % 128 + 128)
def vi (n : Nat) : List UInt8 := if h : n < 128 then [UInt8.ofNat n] else g7 n :: vi (n / 128)
theorem WRaw_spec {w0 : World} {h : Hp} {p : Nat} {st : WS} {S : List Nat} (l : List UInt8) (hl : l.length ≤ 70368744177664) (w : Wr w0 h p st S) (hsz : st.bs.length + l.length ≤ 140737488355328) :
    ACalls prog w0 n_codec_Writer_Raw [ptr p, .string (str l)] h fun v h' => ∃ S', Wr w0 h' p (st.put l) S' ∧ Step h h' S S' := by
  refine ACalls.of_fit (by simp [ptr]) fun f => c_codec_Writer_Raw (by simp [ptr]) ?_
  simp only [s_codec_Writer_Raw, s2bA_iff, str_size, str_data, bvs_eq]
  refine ⟨by omega, ?_⟩
  have s1 := (Step.refl h [] (by simp)).new (bvs l) 1
  refine callA_of (put_spec (l := l) (ay := some ⟨h.next, 0, none⟩) (cy := ucap) (w.frame s1 (by simp)) (src_new f.base (by simp)) hsz) fun v h3 ⟨S3, w3, s3⟩ f3 => ?_
  simp only [retA_iff, oneOf_nil]
  exact ⟨by simp, S3, w3, (s1.wide (T := S) (T' := S) (by simp) (fun b hb => .inr ⟨hb, (w.lt b hb).2⟩)).trans s3⟩
def WS.len (s : WS) : Nat := if s.over then 0 else s.bs.length
def WS.out (s : WS) : List UInt8 := if s.over then [] else s.bs
def WS.err (s : WS) : Int := if s.over then 3 else 0
theorem WDone_spec {w0 : World} {h : Hp} {p : Nat} {st : WS} {S : List Nat} (w : Wr w0 h p st S) :
    ACalls prog w0 n_codec_Writer_Done [ptr p] h fun v h' => v = .tuple #[.string (str st.out), .int .i64 st.err] ∧ h' = h := by
  refine ACalls.of_fit (by simp [ptr]) fun f => c_codec_Writer_Done (by simp [ptr]) ?_
  obtain ⟨x, T, hb0, hp, hp2, hv, hpT, rfl, hm⟩ := w
  obtain ⟨ax, cx, hx⟩ := hv.slice
  simp [s_codec_Writer_Done, ptr, hb0, Nat.not_lt.2 hp, WS.out, WS.err]
  refine ⟨fun ho => by simp [ho, str_nil], fun ho => hv.b2s ?_⟩
  simp [ho]
structure RS where
  s : List UInt8
  err : Int
def Rd (w0 : World) (h : Hp) (r : Nat) (st : RS) : Prop := h.blk r = some [.string (str st.s), .int .i64 st.err] ∧ w0.heap.size ≤ r ∧ r < h.next ∧ st.s.length ≤ 140737488355328 ∧ 0 ≤ st.err ∧ st.err < 1000
theorem Rd.frame {w0 : World} {h h' : Hp} {r : Nat} {st : RS} {T T' : List Nat} (w : Rd w0 h r st) (s : Step h h' T T') (hd : r ∉ T) : Rd w0 h' r st :=
  ⟨by rw [(s.2 r w.2.2.1 hd).1]; exact w.1, w.2.1, by have := s.1; have := w.2.2.1; omega, w.2.2.2⟩
theorem Rd.put {w0 : World} {h : Hp} {r : Nat} {st : RS} (w : Rd w0 h r st) (st' : RS) (hl : st'.s.length ≤ 140737488355328) (he : 0 ≤ st'.err ∧ st'.err < 1000) : Rd w0 (h.put r [.string (str st'.s), .int .i64 st'.err]) r st' ∧ Step h (h.put r [.string (str st'.s), .int .i64 st'.err]) [r] [r] :=
  ⟨⟨by simp, w.2.1, by simpa using w.2.2.1, hl, he⟩, (Step.refl h [r] (by simpa using w.2.2.1)).put (by simp) _⟩
theorem Rd.refl {w0 : World} {h : Hp} {r : Nat} {st : RS} (w : Rd w0 h r st) : Step h h [r] [r] := Step.refl h [r] (by simpa using w.2.2.1)

def RS.fault (st : RS) (e : Int) : RS := if st.err = 0 then { st with err := e } else st
def RS.raw (st : RS) (n : Int) : List UInt8 × RS :=
  if st.err ≠ 0 then ([], st) else if n < 0 then ([], { st with err := 1 }) else if (st.s.length : Int) < n then ([], { st with err := 20 }) else (st.s.take n.toNat, { st with s := st.s.drop n.toNat })
def rdn (l : List UInt8) : Nat := l.foldl (fun n b => n * 256 + b.toNat) 0
def shp : List UInt8 → Nat → Nat → Nat × Nat × Int
  | [], _, _ => (0, 0, 20)
  | c :: l, i, acc =>
    if i = 9 ∧ c ≠ 1 then (0, 0, 21)
    else if c.toNat < 128 then (if c = 0 ∧ 0 < i then (0, 0, 21) else (acc + c.toNat % 128 * 128 ^ i, i + 1, 0))
    else shp l (i + 1) (acc + c.toNat % 128 * 128 ^ i)
def RS.varint (st : RS) : Nat × RS :=
  if st.err ≠ 0 then (0, st) else if (shp st.s 0 0).2.2 ≠ 0 then (0, { st with err := (shp st.s 0 0).2.2 }) else ((shp st.s 0 0).1, { st with s := st.s.drop (shp st.s 0 0).2.1 })
def RS.text (st : RS) : List UInt8 × RS :=
  if st.varint.2.err ≠ 0 then ([], st.varint.2) else if st.varint.2.s.length < st.varint.1 then ([], { st.varint.2 with err := 20 }) else st.varint.2.raw st.varint.1

theorem NewReader_spec {w0 : World} {h : Hp} (l : List UInt8) (hl : l.length ≤ 140737488355328) :
    ACalls prog w0 n_codec_NewReader [.string (str l)] h fun v h' => v = ptr h.next ∧ Rd w0 h' h.next ⟨l, 0⟩ ∧ Step h h' [] [h.next] := by
  refine ACalls.of_fit (by simp) fun f => c_codec_NewReader (by simp) ?_
  simp [s_codec_NewReader]
  exact ⟨rfl, ⟨by simp, f.base, by simp, hl, by simp, by simp⟩, (Step.refl h [] (by simp)).new _ _⟩
theorem fault_spec {w0 : World} {h : Hp} {r : Nat} {st : RS} (w : Rd w0 h r st) (e : Int) (he : 0 ≤ e ∧ e < 1000) :
    ACalls prog w0 n_codec_Reader_fault [ptr r, .int .i64 e] h fun v h' => v = .string .empty ∧ Rd w0 h' r (st.fault e) ∧ Step h h' [r] [r] := by
  refine ACalls.of_fit (by simp [ptr]) fun f => c_codec_Reader_fault (by simp [ptr]) ?_
  simp [s_codec_Reader_fault, ptr, w.1, Nat.not_lt.2 w.2.1, w.2.1]
  refine ⟨fun h0 => ?_, fun h0 => ?_⟩
  · have := w.put { st with err := e } w.2.2.2.1 he
    simpa [RS.fault, h0] using this
  · simpa [RS.fault, h0] using ⟨w, w.refl⟩
theorem RRaw_spec {w0 : World} {h : Hp} {r : Nat} {st : RS} (w : Rd w0 h r st) (n : Int) (hn : -9223372036854775808 ≤ n ∧ n ≤ 9223372036854775807) :
    ACalls prog w0 n_codec_Reader_Raw [ptr r, .int .i64 n] h fun v h' => v = .string (str (st.raw n).1) ∧ Rd w0 h' r (st.raw n).2 ∧ Step h h' [r] [r] := by
  refine ACalls.of_fit (by simp [ptr]) fun f => c_codec_Reader_Raw (by simp [ptr]) ?_
  simp [s_codec_Reader_Raw, ptr, w.1, Nat.not_lt.2 w.2.1, w.2.1]
  refine ⟨fun h0 => ?_, fun h0 => ⟨fun h1 => ?_, fun h1 => ⟨fun h2 => ?_, fun h2 => ?_⟩⟩⟩
  · simpa [RS.raw, h0, str_nil] using ⟨w, w.refl⟩
  · refine callA_of (fault_spec w 1 (by omega)) fun v h' ⟨e, w', s⟩ _ => ?_
    subst e
    simpa [RS.raw, h0, h1, str_nil, RS.fault] using ⟨by simpa [RS.fault, h0] using w', s⟩
  · refine callA_of (fault_spec w 20 (by omega)) fun v h' ⟨e, w', s⟩ _ => ?_
    subst e
    simpa [RS.raw, h0, Int.not_lt.2 h1, h2, str_nil, RS.fault] using ⟨by simpa [RS.fault, h0] using w', s⟩
  · obtain ⟨k, rfl⟩ := Int.eq_ofNat_of_zero_le h1
    have hk : k ≤ st.s.length := by omega
    simp [strSlA_take _ _ _ hk, strSlA_drop _ _ _ hk, RS.raw, h0, h2, w.1, Nat.not_lt.2 w.2.1, w.2.1]
    have hnl : ¬ st.s.length < k := by omega
    have hng : ¬ (k : Int) < 0 := by omega
    simp [hnl, hng]
    have := w.put ⟨st.s.drop k, 0⟩ (by have := w.2.2.2.1; simp; omega) (by simp)
    simpa using this
theorem rdn_lt : ∀ (l : List UInt8) (n i : Nat), n < 256 ^ i → l.foldl (fun n b => n * 256 + b.toNat) n < 256 ^ (i + l.length) := by
  intro l
  induction l with
  | nil => intro n i h; simpa using h
  | cons b l ih =>
    intro n i h
    have := ih (n * 256 + b.toNat) (i + 1) (by have := UInt8.toNat_lt b; rw [Nat.pow_succ]; omega)
    simp only [List.foldl_cons, List.length_cons]
    rw [show i + (l.length + 1) = i + 1 + l.length by omega]
    exact this
theorem read_loop {w0 : World} {K : Value → Hp → Prop} {h : Hp} {q : Nat} {l : List UInt8} (hq : w0.heap.size ≤ q) (hb : h.blk q = some (bvs l)) (hl : l.length ≤ 8) : ∀ (post pre : List UInt8) (n : Nat) (c : Nat), pre ++ post = l → n < 256 ^ pre.length →
    K (.int .u64 (post.foldl (fun n b => n * 256 + b.toNat) n : Nat)) h →
    codec_Reader_read_L1 prog w0 K (post.length + 1) (.int .u64 (n : Int)) (.slice (some ⟨q, 0, none⟩) l.length c) (.int .i64 (l.length : Int)) (.int .i64 (pre.length : Int)) h := by
  intro post
  induction post with
  | nil =>
    intro pre n c he hn hk
    have : pre = l := by simpa using he
    subst this
    simpa [codec_Reader_read_L1, codec_Reader_read_B1] using hk
  | cons b post ih =>
    intro pre n c he hn hk
    have hlen : pre.length + (post.length + 1) = l.length := by rw [← he]; simp
    have hg : l[pre.length]? = some b := by rw [← he]; simp
    have hn8 : n < 256 ^ 7 := Nat.lt_of_lt_of_le hn (Nat.pow_le_pow_right (by omega) (by omega))
    have hbl := UInt8.toNat_lt b
    have e1 : IntKind.u64.wrap ((n : Int) * 256) = ((n * 256 : Nat) : Int) := by rw [IntWalk.u64_in _ (by omega)]; simp
    have e2 : IntKind.u64.wrap (b.toNat : Int) = (b.toNat : Int) := by rw [IntWalk.u64_in _ (by omega)]
    have e3 : binA .or (.int .u64 ((n * 256 : Nat) : Int)) (.int .u64 (b.toNat : Int)) = some (.int .u64 ((n * 256 + b.toNat : Nat) : Int)) := by
      have h5 := Nat.two_pow_add_eq_or_of_lt (i := 8) (b := b.toNat) (by omega) n
      have h6 : n * 256 ||| b.toNat = n * 256 + b.toNat := by rw [Nat.mul_comm n 256]; simpa using h5.symm
      rw [binA_or, h6, Nat.mod_eq_of_lt (by simp [IntKind.bits]; omega), wrap_u rfl (by simp [IntKind.bits]; omega)]
    have e4 : IntKind.i64.wrap ((pre.length : Int) + 1) = ((pre.length + 1 : Nat) : Int) := by rw [IntWalk.i64_in _ (by omega)]; simp
    rw [List.length_cons, codec_Reader_read_L1]
    have hbg : (h.blk q).bind (·[pre.length]?) = some (.int .u8 (b.toNat : Int)) := by simp only [hb, Option.bind_some, bvs_get, hg]; rfl
    simp [codec_Reader_read_B1, hbg, Nat.not_lt.2 hq, show pre.length < l.length by omega, show ¬ l.length ≤ pre.length by omega, show min 8 IntKind.u64.bits = 8 from rfl]
    rw [e1, e2, e3, e4]
    simp
    have := ih (pre ++ [b]) (n * 256 + b.toNat) c (by simpa using he) (by rw [List.length_append, List.length_singleton, Nat.pow_succ]; omega) (by simpa using hk)
    simpa using this
theorem read_spec {w0 : World} {h : Hp} {r : Nat} {st : RS} (w : Rd w0 h r st) (k : Nat) (hk : k ≤ 8) :
    ACalls prog w0 n_codec_Reader_read [ptr r, .int .i64 k] h fun v h' => v = .int .u64 (rdn (st.raw k).1 : Nat) ∧ Rd w0 h' r (st.raw k).2 ∧ Step h h' [r] [r] := by
  refine ACalls.of_fit (by simp [ptr]) fun f => c_codec_Reader_read (by simp [ptr]) ?_
  have hlen : (st.raw k).1.length ≤ 8 := by
    unfold RS.raw
    repeat' split
    all_goals simp
    omega
  refine callA_of (RRaw_spec w k (by omega)) fun v h1 ⟨e, w1, s1⟩ f1 => ?_
  subst e
  simp only [s2bA_iff, str_size, str_data, bvs_eq, lenSl_slice, pureA_some]
  refine ⟨by omega, (st.raw k).1.length + 1, ?_⟩
  have := read_loop (w0 := w0) (K := fun y5 => retA [y5] fun v h' => v = .int .u64 (rdn (st.raw k).1 : Nat) ∧ Rd w0 h' r (st.raw k).2 ∧ Step h h' [r] [r]) (h := h1.new (bvs (st.raw k).1) 1) (q := h1.next) (l := (st.raw k).1) f1.base (by simp) hlen (st.raw k).1 [] 0 ucap (by simp) (by simp) ?_
  · simpa using this
  · simp only [retA_iff, oneOf_one]
    refine ⟨by simp, rfl, w1.frame ((Step.refl h1 [] (by simp)).new _ _) (by simp), ?_⟩
    exact (s1.new _ _).less (by simp)
theorem raw_len (st : RS) (k : Nat) : (st.raw k).1.length ≤ k := by
  unfold RS.raw
  repeat' split
  all_goals simp
  omega
theorem rdn_raw (st : RS) (k : Nat) : rdn (st.raw k).1 < 256 ^ k := by
  have := rdn_lt (st.raw k).1 0 0 (by simp)
  exact Nat.lt_of_lt_of_le this (Nat.pow_le_pow_right (by omega) (by have := raw_len st k; omega))
theorem RU32_spec {w0 : World} {h : Hp} {r : Nat} {st : RS} (w : Rd w0 h r st) :
    ACalls prog w0 n_codec_Reader_U32 [ptr r] h fun v h' => v = .int .u32 (rdn (st.raw 4).1 : Nat) ∧ Rd w0 h' r (st.raw 4).2 ∧ Step h h' [r] [r] := by
  refine ACalls.of_fit (by simp [ptr]) fun f => c_codec_Reader_U32 (by simp [ptr]) ?_
  refine callA_of (read_spec w 4 (by omega)) fun v h1 ⟨e, w1, s1⟩ f1 => ?_
  subst e
  have := rdn_raw st 4
  have e : IntKind.u32.wrap ((rdn (st.raw (4 : Nat)).1 : Nat) : Int) = ((rdn (st.raw (4 : Nat)).1 : Nat) : Int) := IntWalk.u32_in _ (by omega)
  simp only [convA_int, pureA_some, e, retA_iff, oneOf_one]
  exact ⟨by simp, rfl, w1, s1⟩
def RS.left (st : RS) : Nat := if st.err ≠ 0 then 0 else st.s.length
def RS.done (st : RS) : Int := if st.err ≠ 0 then st.err else if 0 < st.s.length then 22 else 0
/-! ### Varints -/
def crcB (c : Nat) : Nat := (c / 2) ^^^ (if c % 2 = 1 then 2197175160 else 0)
def crc8 : Nat → Nat → Nat
  | 0, c => c
  | k + 1, c => crc8 k (crcB c)
def crcN (c : Nat) (l : List UInt8) : Nat := l.foldl (fun c b => crc8 8 (c ^^^ b.toNat)) c
def crcOf (l : List UInt8) : Nat := crcN 4294967295 l ^^^ 4294967295

theorem crcB_lt {c : Nat} (h : c < 4294967296) : crcB c < 4294967296 := by
  unfold crcB
  exact Nat.xor_lt_two_pow (n := 32) (by omega) (by split <;> omega)
theorem crc8_lt : ∀ (k c : Nat), c < 4294967296 → crc8 k c < 4294967296 := by
  intro k
  induction k with
  | zero => intro c h; exact h
  | succ k ih => intro c h; exact ih _ (crcB_lt h)
theorem xorb_lt {c : Nat} (b : UInt8) (h : c < 4294967296) : c ^^^ b.toNat < 4294967296 := Nat.xor_lt_two_pow (n := 32) h (by have := UInt8.toNat_lt b; omega)
theorem crcN_lt (l : List UInt8) : ∀ c, c < 4294967296 → crcN c l < 4294967296 := by
  induction l with
  | nil => intro c h; exact h
  | cons b l ih => intro c h; exact ih _ (crc8_lt 8 _ (xorb_lt b h))
theorem crcOf_lt (l : List UInt8) : crcOf l < 4294967296 := Nat.xor_lt_two_pow (n := 32) (crcN_lt l _ (by omega)) (by omega)

theorem crc_inner {w0 : World} {k2 : Value → Value → Value → Value → Hp → Prop} {x0 x6 x7 : Value} {h : Hp} : ∀ (k i c : Nat), i + k = 8 → c < 4294967296 → k2 x0 (.int .u32 (crc8 k c : Nat)) x6 x7 h →
    codec_Crc_L2 prog w0 k2 (k + 1) x0 (.int .u32 (c : Int)) x6 x7 (.int .i64 (i : Int)) h := by
  intro k
  induction k with
  | zero =>
    intro i c hi hc hk
    have c8 : decide ((i : Int) < 8) = false := decide_eq_false (by omega)
    rw [codec_Crc_L2]
    simp only [codec_Crc_B2, binA_lss, pureA_some, c8, condA_false]
    exact hk
  | succ k ih =>
    intro i c hi hc hk
    have c8 : decide ((i : Int) < 8) = true := decide_eq_true (by omega)
    have e1 : binA .shr (.int .u32 (c : Int)) (.int .u64 1) = some (.int .u32 ((c / 2 : Nat) : Int)) := by rw [binA_shr _ _ _ _ (by omega)]; simp [IntKind.bits]
    have e2 : binA .and (.int .u32 (c : Int)) (.int .u32 1) = some (.int .u32 ((c % 2 : Nat) : Int)) := by
      have := binA_and .u32 c 1
      rw [show (1 : Int) = ((1 : Nat) : Int) from rfl, this, Nat.and_one_is_mod, Nat.mod_eq_of_lt (by simp only [IntKind.bits]; omega), wrap_u rfl (by simp only [IntKind.bits]; omega)]
    have e3 : unA .neg (.int .u32 ((c % 2 : Nat) : Int)) = some (.int .u32 ((if c % 2 = 1 then 4294967295 else 0 : Nat) : Int)) := by
      rw [unA_neg, IntKind.wrap_u32]
      split
      · rename_i e; rw [e]; rfl
      · rename_i e; rw [show c % 2 = 0 by omega]; rfl
    have e4 : binA .and (.int .u32 2197175160) (.int .u32 ((if c % 2 = 1 then 4294967295 else 0 : Nat) : Int)) = some (.int .u32 ((if c % 2 = 1 then 2197175160 else 0 : Nat) : Int)) := by
      have := binA_and .u32 2197175160 (if c % 2 = 1 then 4294967295 else 0)
      rw [show (2197175160 : Int) = ((2197175160 : Nat) : Int) from rfl, this]
      split <;> rfl
    have e5 : binA .xor (.int .u32 ((c / 2 : Nat) : Int)) (.int .u32 ((if c % 2 = 1 then 2197175160 else 0 : Nat) : Int)) = some (.int .u32 (crcB c : Nat)) := by
      have hl := crcB_lt hc
      rw [binA_xor]
      show some (Value.int IntKind.u32 (IntKind.u32.wrap ((crcB c % 2 ^ IntKind.u32.bits : Nat) : Int))) = _
      rw [Nat.mod_eq_of_lt (by simp only [IntKind.bits]; omega), wrap_u rfl (by simp only [IntKind.bits]; omega)]
    have e6 : IntKind.i64.wrap ((i : Int) + 1) = ((i + 1 : Nat) : Int) := by rw [IntWalk.i64_in _ (by omega)]; simp
    rw [codec_Crc_L2]
    simp only [codec_Crc_B2, binA_lss, pureA_some, c8, condA_true, e1, e2, e3, e4, e5, binA_add, e6]
    exact ih (i + 1) (crcB c) (by omega) (crcB_lt hc) hk
theorem crc_outer {w0 : World} {k0 : Value → Hp → Prop} {h : Hp} {l : List UInt8} (hl : l.length ≤ 140737488355328) : ∀ (post pre : List UInt8) (c : Nat), pre ++ post = l → c < 4294967296 → k0 (.int .u32 (crcN c post : Nat)) h →
    codec_Crc_L1 prog w0 k0 (post.length + 1) (.string (str l)) (.int .u32 (c : Int)) (.int .i64 (l.length : Int)) (.int .i64 (pre.length : Int)) h := by
  intro post
  induction post with
  | nil =>
    intro pre c he hc hk
    have : pre = l := by simpa using he
    subst this
    have c8 : decide ((pre.length : Int) < (pre.length : Int)) = false := decide_eq_false (by omega)
    simp only [List.length_nil, codec_Crc_L1, codec_Crc_B1, binA_lss, pureA_some, c8, condA_false]
    exact hk
  | cons b post ih =>
    intro pre c he hc hk
    have hlen : pre.length + (post.length + 1) = l.length := by rw [← he]; simp
    have hg : l[pre.length]? = some b := by rw [← he]; simp
    have hb := UInt8.toNat_lt b
    have c1 : decide ((pre.length : Int) < (l.length : Int)) = true := decide_eq_true (by omega)
    have hs : strIdxA (.string (str l)) (.int .i64 (pre.length : Int)) = some (.int .u8 (b.toNat : Int)) := by rw [strIdxA_str, hg]; rfl
    have e1 : IntKind.u32.wrap (b.toNat : Int) = (b.toNat : Int) := IntWalk.u32_in _ (by omega)
    have e2 : binA .xor (.int .u32 (c : Int)) (.int .u32 (b.toNat : Int)) = some (.int .u32 ((c ^^^ b.toNat : Nat) : Int)) := by
      have := xorb_lt b hc
      rw [binA_xor, Nat.mod_eq_of_lt (by simp only [IntKind.bits]; omega), wrap_u rfl (by simp only [IntKind.bits]; omega)]
    have e6 : IntKind.i64.wrap ((pre.length : Int) + 1) = ((pre.length + 1 : Nat) : Int) := by rw [IntWalk.i64_in _ (by omega)]; simp
    rw [List.length_cons, codec_Crc_L1]
    simp only [codec_Crc_B1, binA_lss, pureA_some, c1, condA_true, hs, convA_int, e1, e2]
    refine ⟨9, crc_inner 8 0 _ rfl (xorb_lt b hc) ?_⟩
    simp only [binA_add, pureA_some, e6]
    have := ih (pre ++ [b]) (crc8 8 (c ^^^ b.toNat)) (by simpa using he) (crc8_lt _ _ (xorb_lt b hc)) hk
    simpa using this
theorem Crc_spec {w0 : World} {h : Hp} (l : List UInt8) (hl : l.length ≤ 140737488355328) :
    ACalls prog w0 n_codec_Crc [.string (str l)] h fun v h' => v = .int .u32 (crcOf l : Nat) ∧ h' = h := by
  refine ACalls.of_fit (by simp) fun f => c_codec_Crc (by simp) ?_
  simp only [s_codec_Crc, lenStr_string, pureA_some, str_size]
  refine ⟨l.length + 1, crc_outer hl l [] 4294967295 rfl (by omega) ?_⟩
  have e : unA .xor (.int .u32 (crcN 4294967295 l : Nat)) = some (.int .u32 (crcOf l : Nat)) := by
    have h1 := crcN_lt l 4294967295 (by omega)
    have h2 := crcOf_lt l
    have := binA_xor .u32 4294967295 (crcN 4294967295 l)
    rw [Nat.xor_comm, show crcN 4294967295 l ^^^ 4294967295 = crcOf l from rfl, Nat.mod_eq_of_lt (by simp only [IntKind.bits]; omega), wrap_u rfl (by simp only [IntKind.bits]; omega)] at this
    rw [← this]
    rfl
  simp only [e, pureA_some, retA_iff, oneOf_one]
  simp
theorem binPtr_ptr (p : Nat) : binPtrA .eql (ptr p) (.pointer none) = some (.bool false) := rfl
@[simp] theorem ptr_junk (p : Nat) : ¬ (ptr p = junk) := by simp [ptr]
theorem quo2 {k : IntKind} {c : Nat} (hk : k.signed = false) (hc : c < 2 ^ k.bits) : binA .quo (.int k (c : Int)) (.int k 2) = some (.int k ((c / 2 : Nat) : Int)) := by
  rw [binA_quo _ _ _ (by omega)]
  have : ((c : Int).tdiv 2) = ((c / 2 : Nat) : Int) := by
    rw [Int.tdiv_eq_ediv_of_nonneg (by omega)]; simp
  rw [this, wrap_u hk (by omega)]
theorem rem2 {k : IntKind} {c : Nat} : binA .rem (.int k (c : Int)) (.int k 2) = some (.int k ((c % 2 : Nat) : Int)) := by
  rw [binA_rem _ _ _ (by omega)]
  have : ((c : Int).tmod 2) = ((c % 2 : Nat) : Int) := by
    rw [Int.tmod_eq_emod_of_nonneg (by omega)]; simp
  rw [this]
theorem rcrc_inner {w0 : World} {k2 : Value → Value → Value → Hp → Prop} {x0 x4 : Value} {h : Hp} : ∀ (k i c : Nat), i + k = 8 → c < 4294967296 → k2 x0 (.int .u32 (crc8 k c : Nat)) x4 h →
    dedupref02_Crc_L2 prog w0 k2 (k + 1) x0 (.int .u32 (c : Int)) x4 (.int .i64 (i : Int)) h := by
  intro k
  induction k with
  | zero =>
    intro i c hi hc hk
    have c8 : decide ((i : Int) < 8) = false := decide_eq_false (by omega)
    rw [dedupref02_Crc_L2]
    simp only [dedupref02_Crc_B2, binA_lss, pureA_some, c8, condA_false]
    exact hk
  | succ k ih =>
    intro i c hi hc hk
    have c8 : decide ((i : Int) < 8) = true := decide_eq_true (by omega)
    have e6 : IntKind.i64.wrap ((i : Int) + 1) = ((i + 1 : Nat) : Int) := by rw [IntWalk.i64_in _ (by omega)]; simp
    have hq := quo2 (k := .u32) (c := c) rfl hc
    have hl := crcB_lt hc
    rw [dedupref02_Crc_L2]
    by_cases h2 : c % 2 = 1
    · have c2 : (((c % 2 : Nat) : Int) == 1) = true := by simp only [beq_iff_eq]; omega
      have e5 : binA .xor (.int .u32 ((c / 2 : Nat) : Int)) (.int .u32 2197175160) = some (.int .u32 (crcB c : Nat)) := by
        have := binA_xor .u32 (c / 2) 2197175160
        have h7 : c / 2 ^^^ 2197175160 = crcB c := by unfold crcB; rw [if_pos h2]
        rw [show (2197175160 : Int) = ((2197175160 : Nat) : Int) from rfl, this, h7, Nat.mod_eq_of_lt (by simp only [IntKind.bits]; omega), wrap_u rfl (by simp only [IntKind.bits]; omega)]
      simp only [dedupref02_Crc_B2, binA_lss, pureA_some, c8, condA_true, rem2, binA_eql, c2, hq, e5, binA_add, e6]
      exact ih (i + 1) (crcB c) (by omega) (crcB_lt hc) hk
    · have c2 : (((c % 2 : Nat) : Int) == 1) = false := by simp only [beq_eq_false_iff_ne, ne_eq]; omega
      have h7 : c / 2 = crcB c := by unfold crcB; rw [if_neg h2, Nat.xor_zero]
      simp only [dedupref02_Crc_B2, binA_lss, pureA_some, c8, condA_true, condA_false, rem2, binA_eql, c2, hq, binA_add, e6]
      rw [h7]
      exact ih (i + 1) (crcB c) (by omega) (crcB_lt hc) hk
theorem rcrc_outer {w0 : World} {k0 : Value → Hp → Prop} {h : Hp} {l : List UInt8} (hl : l.length ≤ 140737488355328) : ∀ (post pre : List UInt8) (c : Nat), pre ++ post = l → c < 4294967296 → k0 (.int .u32 (crcN c post : Nat)) h →
    dedupref02_Crc_L1 prog w0 k0 (post.length + 1) (.string (str l)) (.int .u32 (c : Int)) (.int .i64 (pre.length : Int)) h := by
  intro post
  induction post with
  | nil =>
    intro pre c he hc hk
    have : pre = l := by simpa using he
    subst this
    have c8 : decide ((pre.length : Int) < (pre.length : Int)) = false := decide_eq_false (by omega)
    simp only [List.length_nil, dedupref02_Crc_L1, dedupref02_Crc_B1, lenStr_string, str_size, binA_lss, pureA_some, c8, condA_false]
    exact hk
  | cons b post ih =>
    intro pre c he hc hk
    have hlen : pre.length + (post.length + 1) = l.length := by rw [← he]; simp
    have hg : l[pre.length]? = some b := by rw [← he]; simp
    have hb := UInt8.toNat_lt b
    have c1 : decide ((pre.length : Int) < (l.length : Int)) = true := decide_eq_true (by omega)
    have hs : strIdxA (.string (str l)) (.int .i64 (pre.length : Int)) = some (.int .u8 (b.toNat : Int)) := by rw [strIdxA_str, hg]; rfl
    have e1 : IntKind.u32.wrap (b.toNat : Int) = (b.toNat : Int) := IntWalk.u32_in _ (by omega)
    have e2 : binA .xor (.int .u32 (c : Int)) (.int .u32 (b.toNat : Int)) = some (.int .u32 ((c ^^^ b.toNat : Nat) : Int)) := by
      have := xorb_lt b hc
      rw [binA_xor, Nat.mod_eq_of_lt (by simp only [IntKind.bits]; omega), wrap_u rfl (by simp only [IntKind.bits]; omega)]
    have e6 : IntKind.i64.wrap ((pre.length : Int) + 1) = ((pre.length + 1 : Nat) : Int) := by rw [IntWalk.i64_in _ (by omega)]; simp
    rw [List.length_cons, dedupref02_Crc_L1]
    simp only [dedupref02_Crc_B1, lenStr_string, str_size, binA_lss, pureA_some, c1, condA_true, hs, convA_int, e1, e2]
    refine ⟨9, rcrc_inner 8 0 _ rfl (xorb_lt b hc) ?_⟩
    simp only [binA_add, pureA_some, e6]
    have := ih (pre ++ [b]) (crc8 8 (c ^^^ b.toNat)) (by simpa using he) (crc8_lt _ _ (xorb_lt b hc)) hk
    simpa using this
theorem rCrc_spec {w0 : World} {h : Hp} (l : List UInt8) (hl : l.length ≤ 140737488355328) :
    ACalls prog w0 n_dedupref02_Crc [.string (str l)] h fun v h' => v = .int .u32 (crcOf l : Nat) ∧ h' = h := by
  refine ACalls.of_fit (by simp) fun f => c_dedupref02_Crc (by simp) ?_
  refine ⟨l.length + 1, rcrc_outer hl l [] 4294967295 rfl (by omega) ?_⟩
  have e : binA .xor (.int .u32 (crcN 4294967295 l : Nat)) (.int .u32 4294967295) = some (.int .u32 (crcOf l : Nat)) := by
    have h1 := crcN_lt l 4294967295 (by omega)
    have h2 := crcOf_lt l
    have := binA_xor .u32 (crcN 4294967295 l) 4294967295
    rw [show (4294967295 : Int) = ((4294967295 : Nat) : Int) from rfl, this, show crcN 4294967295 l ^^^ 4294967295 = crcOf l from rfl, Nat.mod_eq_of_lt (by simp only [IntKind.bits]; omega), wrap_u rfl (by simp only [IntKind.bits]; omega)]
  simp only [e, pureA_some, retA_iff, oneOf_one]
  simp
end Go.Proofs.Ytiakadkooclelaa.Ah
