/- codec.Reader: what each call does. -/
import Derived.Test.YtiakadkooclelaaKv
set_option linter.unusedVariables false
set_option linter.unusedSimpArgs false
namespace Go.Proofs.Ytiakadkooclelaa.Ah
open Go

/-- What a reader holds. -/
structure RS where
  s : List UInt8
  err : Int
def Rd (w0 : World) (h : Hp) (r : Nat) (st : RS) : Prop := h.blk r = some [.string (str st.s), .int .i64 st.err] ∧ w0.heap.size ≤ r ∧ r < h.next ∧ st.s.length ≤ 140737488355328 ∧ 0 ≤ st.err ∧ st.err < 1000
theorem Rd.frame {w0 : World} {h h' : Hp} {r : Nat} {st : RS} {T T' : List Nat} (w : Rd w0 h r st) (s : Step h h' T T') (hd : r ∉ T) : Rd w0 h' r st :=
  ⟨by rw [(s.2 r w.2.2.1 hd).1]; exact w.1, w.2.1, by have := s.1; have := w.2.2.1; omega, w.2.2.2⟩
theorem Rd.put {w0 : World} {h : Hp} {r : Nat} {st : RS} (w : Rd w0 h r st) (st' : RS) (hl : st'.s.length ≤ 140737488355328) (he : 0 ≤ st'.err ∧ st'.err < 1000) : Rd w0 (h.put r [.string (str st'.s), .int .i64 st'.err]) r st' ∧ Step h (h.put r [.string (str st'.s), .int .i64 st'.err]) [r] [r] :=
  ⟨⟨by simp, w.2.1, by simpa using w.2.2.1, hl, he⟩, (Step.refl h [r] (by simpa using w.2.2.1)).put (by simp) _⟩
theorem Rd.refl {w0 : World} {h : Hp} {r : Nat} {st : RS} (w : Rd w0 h r st) : Step h h [r] [r] := Step.refl h [r] (by simpa using w.2.2.1)

def RS.fault (st : RS) (e : Int) : RS := if st.err = 0 then { st with err := e } else st
def RS.raw (st : RS) (n : Int) : List UInt8 × RS :=
  if st.err ≠ 0 then ([], st) else if n < 0 then ([], { st with err := 1 }) else if (st.s.length : Int) < n then ([], { st with err := 20 }) else (st.s.take n.toNat, { st with s := st.s.drop n.toNat })
def rdn (l : List UInt8) : Nat := l.foldl (fun n b => n * 256 + b.toNat) 0
/-- A varint at the beginning: its number, its bytes, what is at fault. -/
def shp : List UInt8 → Nat → Nat → Nat × Nat × Int
  | [], _, _ => (0, 0, 20)
  | c :: l, i, acc =>
    if i = 9 ∧ c ≠ 1 then (0, 0, 21)
    else if c.toNat < 128 then (if c = 0 ∧ 0 < i then (0, 0, 21) else (acc + c.toNat % 128 * 128 ^ i, i + 1, 0))
    else shp l (i + 1) (acc + c.toNat % 128 * 128 ^ i)
def RS.varint (st : RS) : Nat × RS :=
  if st.err ≠ 0 then (0, st) else if (shp st.s 0 0).2.2 ≠ 0 then (0, { st with err := (shp st.s 0 0).2.2 }) else ((shp st.s 0 0).1, { st with s := st.s.drop (shp st.s 0 0).2.1 })
def RS.text (st : RS) : List UInt8 × RS :=
  if st.varint.2.err ≠ 0 then ([], st.varint.2) else if st.varint.2.s.length < st.varint.1 then ([], { st.varint.2 with err := 20 }) else st.varint.2.raw st.varint.1

theorem NewReader_spec {w0 : World} {h : Hp} (l : List UInt8) (hl : l.length ≤ 140737488355328) :
    ACalls prog w0 n_codec_NewReader [.string (str l)] h fun v h' => v = ptr h.next ∧ Rd w0 h' h.next ⟨l, 0⟩ ∧ Step h h' [] [h.next] := by
  refine ACalls.of_fit (by simp) fun f => c_codec_NewReader (by simp) ?_
  simp [s_codec_NewReader]
  exact ⟨rfl, ⟨by simp, f.base, by simp, hl, by simp, by simp⟩, (Step.refl h [] (by simp)).new _ _⟩
theorem fault_spec {w0 : World} {h : Hp} {r : Nat} {st : RS} (w : Rd w0 h r st) (e : Int) (he : 0 ≤ e ∧ e < 1000) :
    ACalls prog w0 n_codec_Reader_fault [ptr r, .int .i64 e] h fun v h' => v = .string .empty ∧ Rd w0 h' r (st.fault e) ∧ Step h h' [r] [r] := by
  refine ACalls.of_fit (by simp [ptr]) fun f => c_codec_Reader_fault (by simp [ptr]) ?_
  simp [s_codec_Reader_fault, ptr, w.1, Nat.not_lt.2 w.2.1, w.2.1]
  refine ⟨fun h0 => ?_, fun h0 => ?_⟩
  · have := w.put { st with err := e } w.2.2.2.1 he
    simpa [RS.fault, h0] using this
  · simpa [RS.fault, h0] using ⟨w, w.refl⟩
theorem RRaw_spec {w0 : World} {h : Hp} {r : Nat} {st : RS} (w : Rd w0 h r st) (n : Int) (hn : -9223372036854775808 ≤ n ∧ n ≤ 9223372036854775807) :
    ACalls prog w0 n_codec_Reader_Raw [ptr r, .int .i64 n] h fun v h' => v = .string (str (st.raw n).1) ∧ Rd w0 h' r (st.raw n).2 ∧ Step h h' [r] [r] := by
  refine ACalls.of_fit (by simp [ptr]) fun f => c_codec_Reader_Raw (by simp [ptr]) ?_
  simp [s_codec_Reader_Raw, ptr, w.1, Nat.not_lt.2 w.2.1, w.2.1]
  refine ⟨fun h0 => ?_, fun h0 => ⟨fun h1 => ?_, fun h1 => ⟨fun h2 => ?_, fun h2 => ?_⟩⟩⟩
  · simpa [RS.raw, h0, str_nil] using ⟨w, w.refl⟩
  · refine callA_of (fault_spec w 1 (by omega)) fun v h' ⟨e, w', s⟩ _ => ?_
    subst e
    simpa [RS.raw, h0, h1, str_nil, RS.fault] using ⟨by simpa [RS.fault, h0] using w', s⟩
  · refine callA_of (fault_spec w 20 (by omega)) fun v h' ⟨e, w', s⟩ _ => ?_
    subst e
    simpa [RS.raw, h0, Int.not_lt.2 h1, h2, str_nil, RS.fault] using ⟨by simpa [RS.fault, h0] using w', s⟩
  · obtain ⟨k, rfl⟩ := Int.eq_ofNat_of_zero_le h1
    have hk : k ≤ st.s.length := by omega
    simp [strSlA_take _ _ _ hk, strSlA_drop _ _ _ hk, RS.raw, h0, h2, w.1, Nat.not_lt.2 w.2.1, w.2.1]
    have hnl : ¬ st.s.length < k := by omega
    have hng : ¬ (k : Int) < 0 := by omega
    simp [hnl, hng]
    have := w.put ⟨st.s.drop k, 0⟩ (by have := w.2.2.2.1; simp; omega) (by simp)
    simpa using this
theorem rdn_lt : ∀ (l : List UInt8) (n i : Nat), n < 256 ^ i → l.foldl (fun n b => n * 256 + b.toNat) n < 256 ^ (i + l.length) := by
  intro l
  induction l with
  | nil => intro n i h; simpa using h
  | cons b l ih =>
    intro n i h
    have := ih (n * 256 + b.toNat) (i + 1) (by have := UInt8.toNat_lt b; rw [Nat.pow_succ]; omega)
    simp only [List.foldl_cons, List.length_cons]
    rw [show i + (l.length + 1) = i + 1 + l.length by omega]
    exact this
theorem read_loop {w0 : World} {K : Value → Hp → Prop} {h : Hp} {q : Nat} {l : List UInt8} (hq : w0.heap.size ≤ q) (hb : h.blk q = some (bvs l)) (hl : l.length ≤ 8) : ∀ (post pre : List UInt8) (n : Nat) (c : Nat), pre ++ post = l → n < 256 ^ pre.length →
    K (.int .u64 (post.foldl (fun n b => n * 256 + b.toNat) n : Nat)) h →
    codec_Reader_read_L1 prog w0 K (post.length + 1) (.int .u64 (n : Int)) (.slice (some ⟨q, 0, none⟩) l.length c) (.int .i64 (l.length : Int)) (.int .i64 (pre.length : Int)) h := by
  intro post
  induction post with
  | nil =>
    intro pre n c he hn hk
    have : pre = l := by simpa using he
    subst this
    simpa [codec_Reader_read_L1, codec_Reader_read_B1] using hk
  | cons b post ih =>
    intro pre n c he hn hk
    have hlen : pre.length + (post.length + 1) = l.length := by rw [← he]; simp
    have hg : l[pre.length]? = some b := by rw [← he]; simp
    have hn8 : n < 256 ^ 7 := Nat.lt_of_lt_of_le hn (Nat.pow_le_pow_right (by omega) (by omega))
    have hbl := UInt8.toNat_lt b
    have e1 : IntKind.u64.wrap ((n : Int) * 256) = ((n * 256 : Nat) : Int) := by rw [IntWalk.u64_in _ (by omega)]; simp
    have e2 : IntKind.u64.wrap (b.toNat : Int) = (b.toNat : Int) := by rw [IntWalk.u64_in _ (by omega)]
    have e3 : binA .or (.int .u64 ((n * 256 : Nat) : Int)) (.int .u64 (b.toNat : Int)) = some (.int .u64 ((n * 256 + b.toNat : Nat) : Int)) := by
      have h5 := Nat.two_pow_add_eq_or_of_lt (i := 8) (b := b.toNat) (by omega) n
      have h6 : n * 256 ||| b.toNat = n * 256 + b.toNat := by rw [Nat.mul_comm n 256]; simpa using h5.symm
      rw [binA_or, h6, Nat.mod_eq_of_lt (by simp [IntKind.bits]; omega), wrap_u rfl (by simp [IntKind.bits]; omega)]
    have e4 : IntKind.i64.wrap ((pre.length : Int) + 1) = ((pre.length + 1 : Nat) : Int) := by rw [IntWalk.i64_in _ (by omega)]; simp
    rw [List.length_cons, codec_Reader_read_L1]
    have hbg : (h.blk q).bind (·[pre.length]?) = some (.int .u8 (b.toNat : Int)) := by simp only [hb, Option.bind_some, bvs_get, hg]; rfl
    simp [codec_Reader_read_B1, hbg, Nat.not_lt.2 hq, show pre.length < l.length by omega, show ¬ l.length ≤ pre.length by omega, show min 8 IntKind.u64.bits = 8 from rfl]
    rw [e1, e2, e3, e4]
    simp
    have := ih (pre ++ [b]) (n * 256 + b.toNat) c (by simpa using he) (by rw [List.length_append, List.length_singleton, Nat.pow_succ]; omega) (by simpa using hk)
    simpa using this
theorem read_spec {w0 : World} {h : Hp} {r : Nat} {st : RS} (w : Rd w0 h r st) (k : Nat) (hk : k ≤ 8) :
    ACalls prog w0 n_codec_Reader_read [ptr r, .int .i64 k] h fun v h' => v = .int .u64 (rdn (st.raw k).1 : Nat) ∧ Rd w0 h' r (st.raw k).2 ∧ Step h h' [r] [r] := by
  refine ACalls.of_fit (by simp [ptr]) fun f => c_codec_Reader_read (by simp [ptr]) ?_
  have hlen : (st.raw k).1.length ≤ 8 := by
    unfold RS.raw
    repeat' split
    all_goals simp
    omega
  refine callA_of (RRaw_spec w k (by omega)) fun v h1 ⟨e, w1, s1⟩ f1 => ?_
  subst e
  simp only [s2bA_iff, str_size, str_data, bvs_eq, lenSl_slice, pureA_some]
  refine ⟨by omega, (st.raw k).1.length + 1, ?_⟩
  have := read_loop (w0 := w0) (K := fun y5 => retA [y5] fun v h' => v = .int .u64 (rdn (st.raw k).1 : Nat) ∧ Rd w0 h' r (st.raw k).2 ∧ Step h h' [r] [r]) (h := h1.new (bvs (st.raw k).1) 1) (q := h1.next) (l := (st.raw k).1) f1.base (by simp) hlen (st.raw k).1 [] 0 ucap (by simp) (by simp) ?_
  · simpa using this
  · simp only [retA_iff, oneOf_one]
    refine ⟨by simp, rfl, w1.frame ((Step.refl h1 [] (by simp)).new _ _) (by simp), ?_⟩
    exact (s1.new _ _).less (by simp)
theorem raw_len (st : RS) (k : Nat) : (st.raw k).1.length ≤ k := by
  unfold RS.raw
  repeat' split
  all_goals simp
  omega
theorem rdn_raw (st : RS) (k : Nat) : rdn (st.raw k).1 < 256 ^ k := by
  have := rdn_lt (st.raw k).1 0 0 (by simp)
  exact Nat.lt_of_lt_of_le this (Nat.pow_le_pow_right (by omega) (by have := raw_len st k; omega))
theorem RU32_spec {w0 : World} {h : Hp} {r : Nat} {st : RS} (w : Rd w0 h r st) :
    ACalls prog w0 n_codec_Reader_U32 [ptr r] h fun v h' => v = .int .u32 (rdn (st.raw 4).1 : Nat) ∧ Rd w0 h' r (st.raw 4).2 ∧ Step h h' [r] [r] := by
  refine ACalls.of_fit (by simp [ptr]) fun f => c_codec_Reader_U32 (by simp [ptr]) ?_
  refine callA_of (read_spec w 4 (by omega)) fun v h1 ⟨e, w1, s1⟩ f1 => ?_
  subst e
  have := rdn_raw st 4
  have e : IntKind.u32.wrap ((rdn (st.raw (4 : Nat)).1 : Nat) : Int) = ((rdn (st.raw (4 : Nat)).1 : Nat) : Int) := IntWalk.u32_in _ (by omega)
  simp only [convA_int, pureA_some, e, retA_iff, oneOf_one]
  exact ⟨by simp, rfl, w1, s1⟩
def RS.left (st : RS) : Nat := if st.err ≠ 0 then 0 else st.s.length
def RS.done (st : RS) : Int := if st.err ≠ 0 then st.err else if 0 < st.s.length then 22 else 0
/-! ### Varints -/
theorem shp_cons (c : UInt8) (l : List UInt8) (i acc : Nat) : shp (c :: l) i acc = if i = 9 ∧ c ≠ 1 then (0, 0, 21) else if c.toNat < 128 then (if c = 0 ∧ 0 < i then (0, 0, 21) else (acc + c.toNat % 128 * 128 ^ i, i + 1, 0)) else shp l (i + 1) (acc + c.toNat % 128 * 128 ^ i) := rfl
theorem and127 (b : UInt8) : binA .and (.int .u8 (b.toNat : Int)) (.int .u8 127) = some (.int .u8 ((b.toNat % 128 : Nat) : Int)) := by
  have h := UInt8.toNat_lt b
  have h5 : b.toNat &&& 127 = b.toNat % 128 := Nat.and_two_pow_sub_one_eq_mod b.toNat 7
  have := binA_and .u8 b.toNat 127
  rw [show (127 : Int) = ((127 : Nat) : Int) from rfl, this, h5, Nat.mod_eq_of_lt (by simp [IntKind.bits]; omega), wrap_u rfl (by simp [IntKind.bits]; omega)]
/-- What shape tells is in bounds. -/
theorem shp_bound : ∀ (l : List UInt8) (i n : Nat), i ≤ 9 → n < 128 ^ i → (shp l i n).1 < 18446744073709551616 ∧ (shp l i n).2.1 ≤ i + l.length ∧ 0 ≤ (shp l i n).2.2 ∧ (shp l i n).2.2 < 1000 := by
  intro l
  induction l with
  | nil => intro i n hi hn; simp [shp]
  | cons c l ih =>
    intro i n hi hn
    have hc := UInt8.toNat_lt c
    have hm : c.toNat % 128 * 128 ^ i ≤ 127 * 128 ^ i := Nat.mul_le_mul_right _ (by omega)
    rw [shp_cons]
    split
    · simp
    rename_i hA
    have h1z : (c = 1) ↔ c.toNat = 1 := ⟨fun e => by rw [e]; rfl, fun e => UInt8.toNat_inj.1 (by simpa using e)⟩
    have hlt : n + c.toNat % 128 * 128 ^ i < 18446744073709551616 := by
      by_cases h9 : i = 9
      · have hb1 : c.toNat = 1 := h1z.1 (Decidable.not_not.1 fun e => hA ⟨h9, e⟩)
        rw [h9] at hn
        rw [h9, hb1]
        omega
      · have hpow : 128 ^ i ≤ 128 ^ 8 := Nat.pow_le_pow_right (by omega) (by omega)
        omega
    split
    · split
      · simp
      · simp; exact hlt
    · have h9 : i ≠ 9 := fun e => by
        have hb1 : c.toNat = 1 := h1z.1 (Decidable.not_not.1 fun e' => hA ⟨e, e'⟩)
        omega
      have := ih (i + 1) (n + c.toNat % 128 * 128 ^ i) (by omega) (by rw [Nat.pow_succ]; omega)
      simp
      omega
end Go.Proofs.Ytiakadkooclelaa.Ah
