/- dedupref02.Number. -/
import Derived.Test.YthjpddggnhgjhaaKxa
set_option linter.unusedVariables false
set_option linter.unusedSimpArgs false
set_option linter.constructorNameAsVariable false
namespace Go.Proofs.Ythjpddggnhgjhaa.Ah
open Go
theorem rnum_loop {w0 : World} {K : Value → Hp → Prop} {n : Nat} : ∀ (k : Nat) (h : Hp) (x : Value) (pre : List UInt8) (S : List Nat), k ≤ 8 → pre.length + k ≤ 8 → w0.heap.size ≤ h.next → Vec w0 h 1 x pre.length (bvs pre) S →
    (∀ h' x' S', Vec w0 h' 1 x' (pre ++ be k n).length (bvs (pre ++ be k n)) S' → Step h h' S S' → K x' h') →
    dedupref02_Number_L1 prog w0 K (k + 1) (.int .u64 (n : Int)) x (.int .i64 ((k : Int) - 1)) h := by
  intro k
  induction k with
  | zero =>
    intro h x pre S hk8 hp hf hv hk
    rw [dedupref02_Number_L1]
    simp only [dedupref02_Number_B1, binA_geq, pureA_some, show decide ((0 : Int) ≤ ((0 : Nat) : Int) - 1) = false from rfl, condA_false]
    exact hk h x S (by simpa [be] using hv) (Step.refl _ _ fun b hb => (hv.lt b hb).2)
  | succ k ih =>
    intro h x pre S hk8 hp hf hv hk
    have e0 : ((k + 1 : Nat) : Int) - 1 = (k : Int) := by omega
    have c1 : decide ((0 : Int) ≤ (k : Int)) = true := decide_eq_true (by omega)
    have e7 : IntKind.i64.wrap (8 * (k : Int)) = ((8 * k : Nat) : Int) := by rw [IntWalk.i64_in _ (by omega)]; simp
    have e6 : IntKind.i64.wrap ((k : Int) - 1) = (k : Int) - 1 := IntWalk.i64_in _ (by omega)
    have e8 : binA .shr (.int .u64 (n : Int)) (.int .i64 ((8 * k : Nat) : Int)) = some (.int .u64 ((n / 256 ^ k : Nat) : Int)) := by
      rw [binA_shr _ _ _ _ (by omega), Int.toNat_natCast, Nat.min_eq_left (by simp only [IntKind.bits]; omega)]
      have : 256 ^ k = 2 ^ (8 * k) := by rw [Nat.pow_mul]
      rw [this]; simp
    have e9 : (.int .u8 (IntKind.u8.wrap ((n / 256 ^ k : Nat) : Int)) : Value) = bv (UInt8.ofNat (n / 256 ^ k)) := by rw [bv_ofNat, IntKind.wrap_u8]; simp
    rw [dedupref02_Number_L1, e0]
    simp only [dedupref02_Number_B1, binA_geq, pureA_some, c1, condA_true, binA_mul, e7, e8, convA_int, e9]
    simp
    refine appA_vec (w0 := w0) (m := 1) (s := 1) (by_ := 1) (h := h.new [bv (UInt8.ofNat (n / 256 ^ k))] 1) (ys := bvs [UInt8.ofNat (n / 256 ^ k)]) (by simp; omega) (hv.new _ _) (by simp) (src_new hf (by simp)) (by simp) (by omega) (by omega) (by omega) (fun x' h' S' hv' st2 => ?_)
    simp [e6]
    have s3 : Step h h' S S' := (((Step.refl h S fun b hb => (hv.lt b hb).2).new _ _).less (fun b hb => by simp [hb])).trans st2
    have hb' := st2.1
    exact ih h' x' (pre ++ [UInt8.ofNat (n / 256 ^ k)]) S' (by omega) (by simp; omega) (by simp at hb'; omega) (by simpa using hv') (fun h2 x2 S2 hv2 s2 => hk h2 x2 S2 (by simpa [be] using hv2) (s3.trans s2))
theorem rNumber_spec {w0 : World} {h : Hp} (n s : Nat) (hs : s ≤ 8) :
    ACalls prog w0 n_dedupref02_Number [.int .u64 n, .int .i64 s] h fun v h' => v = .string (str (be s n)) ∧ Step h h' [] [] := by
  refine ACalls.of_fit (by simp) fun f => c_dedupref02_Number (by simp) ?_
  have e6 : IntKind.i64.wrap ((s : Int) - 1) = (s : Int) - 1 := IntWalk.i64_in _ (by omega)
  simp only [s_dedupref02_Number, binA_sub, pureA_some, e6]
  refine ⟨s + 1, rnum_loop s h _ [] [] hs (by simp; omega) f.base .nil (fun h' x' S' hv st => ?_)⟩
  simp only [List.nil_append] at hv
  refine hv.b2s ?_
  simp only [retA_iff, oneOf_one]
  exact ⟨by simp, trivial, st.less (by simp)⟩
theorem put_ok {m : Int} {bs l : List UInt8} (h : (bs.length : Int) + l.length ≤ m) : (⟨m, bs, false⟩ : WS).put l = ⟨m, bs ++ l, false⟩ := by
  simp [WS.put]; omega
def frame0 (k : Nat) (b : List UInt8) : List UInt8 := [68, 70] ++ be 1 k ++ be 1 0 ++ be 4 b.length ++ b
def frame (k : Nat) (b : List UInt8) : List UInt8 := frame0 k b ++ be 4 (crcOf (frame0 k b))
@[simp] theorem frame0_length (k : Nat) (b : List UInt8) : (frame0 k b).length = 8 + b.length := by simp [frame0]; omega
theorem vi_lo {n : Nat} (h : n < 128) : vi n = [UInt8.ofNat n] := by unfold vi; rw [dif_pos h]
theorem vi_hi {n : Nat} (h : ¬ n < 128) : vi n = g7 n :: vi (n / 128) := by rw [vi]; rw [dif_neg h]
theorem g7_nat (n : Nat) : (g7 n).toNat = n % 128 + 128 := by
  unfold g7
  rw [UInt8.toNat_ofNat_of_lt']
  show n % 128 + 128 < 256
  omega
theorem of8_nat {n : Nat} (h : n < 256) : (UInt8.ofNat n).toNat = n := UInt8.toNat_ofNat_of_lt' h
theorem shp_vi (rest : List UInt8) : ∀ (n i acc : Nat), n * 128 ^ i < 18446744073709551616 → (0 < i → 0 < n) → shp (vi n ++ rest) i acc = (acc + n * 128 ^ i, i + (vi n).length, 0) := by
  intro n
  induction n using vi.induct with
  | case1 n hn =>
    intro i acc h hi
    rw [vi_lo hn]
    simp only [List.cons_append, List.nil_append, shp_cons]
    have ht := of8_nat (n := n) (by omega)
    rw [if_neg, if_pos (by omega), if_neg]
    · rw [ht, Nat.mod_eq_of_lt hn]; simp
    · rintro ⟨e, h0⟩
      have := hi h0
      have h2 : (UInt8.ofNat n).toNat = 0 := by rw [e]; rfl
      omega
    · rintro ⟨rfl, e⟩
      have := hi (by omega)
      have : n = 1 := by omega
      subst this
      exact e rfl
  | case2 n hn ih =>
    intro i acc h hi
    rw [vi_hi hn]
    simp only [List.cons_append, shp_cons]
    have ht := g7_nat n
    have h1 : n / 128 * 128 ^ (i + 1) + n % 128 * 128 ^ i = n * 128 ^ i := by
      rw [Nat.pow_succ, Nat.mul_comm (128 ^ i) 128, ← Nat.mul_assoc, ← Nat.add_mul]
      congr 1
      omega
    rw [if_neg, if_neg (by omega), ih (i + 1) _ (by omega) (fun _ => by omega), ht]
    · have h2 : (n % 128 + 128) % 128 = n % 128 := by omega
      rw [h2, ← h1]
      simp
      omega
    · rintro ⟨rfl, e⟩
      omega
theorem rem128 {k : IntKind} {c : Nat} : binA .rem (.int k (c : Int)) (.int k 128) = some (.int k ((c % 128 : Nat) : Int)) := by
  rw [binA_rem _ _ _ (by omega)]
  have : (c : Int).tmod 128 = ((c % 128 : Nat) : Int) := by rw [Int.tmod_eq_emod_of_nonneg (by omega)]; simp
  rw [this]
theorem quo128 {c : Nat} (hc : c < 18446744073709551616) : binA .quo (.int .u64 (c : Int)) (.int .u64 128) = some (.int .u64 ((c / 128 : Nat) : Int)) := by
  rw [binA_quo _ _ _ (by omega)]
  have : (c : Int).tdiv 128 = ((c / 128 : Nat) : Int) := by rw [Int.tdiv_eq_ediv_of_nonneg (by omega)]; simp
  rw [this, IntWalk.u64_in _ (by omega)]
theorem g7_add (n : Nat) : (.int .u8 (IntKind.u8.wrap (IntKind.u8.wrap ((n % 128 : Nat) : Int) + 128)) : Value) = bv (g7 n) := by
  have e1 : IntKind.u8.wrap ((n % 128 : Nat) : Int) = ((n % 128 : Nat) : Int) := IntWalk.u8_in _ (by omega)
  have e2 : IntKind.u8.wrap (((n % 128 : Nat) : Int) + 128) = ((n % 128 : Nat) : Int) + 128 := IntWalk.u8_in _ (by omega)
  rw [e1, e2, g7, bv_ofNat, Nat.mod_eq_of_lt (a := n % 128 + 128) (by omega)]
  simp
theorem rvarint_loop {w0 : World} {K : Value → Value → Hp → Prop} (n : Nat) : ∀ (h : Hp) (x : Value) (pre : List UInt8) (S : List Nat), w0.heap.size ≤ h.next → Vec w0 h 1 x pre.length (bvs pre) S → pre.length + (vi n).length ≤ 100 → n < 18446744073709551616 →
    (∀ (h' : Hp) (x' : Value) (m : Nat) (pre' : List UInt8) (S' : List Nat), m < 128 → Vec w0 h' 1 x' pre'.length (bvs pre') S' → pre' ++ [UInt8.ofNat m] = pre ++ vi n → Step h h' S S' → K (.int .u64 m) x' h') →
    dedupref02_Varint_L1 prog w0 K (vi n).length (.int .u64 n) x h := by
  induction n using vi.induct with
  | case1 n hn =>
    intro h x pre S hf hv hl hb hk
    have e : vi n = [UInt8.ofNat n] := by unfold vi; rw [dif_pos hn]
    rw [e] at hk ⊢
    simp [dedupref02_Varint_L1, dedupref02_Varint_B1, show ¬ (128 : Int) ≤ n by omega]
    exact hk h x n pre S hn hv rfl (.refl _ _ fun b hb => (hv.lt b hb).2)
  | case2 n hn ih =>
    intro h x pre S hf hv hl hb hk
    have e : vi n = g7 n :: vi (n / 128) := by rw [vi]; rw [dif_neg hn]
    rw [e] at hk hl ⊢
    simp at hl
    rw [List.length_cons, dedupref02_Varint_L1]
    have c1 : decide ((128 : Int) ≤ (n : Int)) = true := decide_eq_true (by omega)
    simp only [dedupref02_Varint_B1, binA_geq, pureA_some, c1, condA_true, rem128, convA_int, binA_add, g7_add, quo128 hb]
    simp
    refine appA_vec (w0 := w0) (m := 1) (s := 1) (by_ := 1) (h := h.new [bv (g7 n)] 1) (ys := bvs [g7 n]) (by simp; omega) (hv.new _ _) (by simp) (src_new hf (by simp)) (by simp) (by omega) (by omega) (by omega) (fun x' h' S' hv' st => ?_)
    have st2 : Step h h' S S' := (((Step.refl h S fun b hb => (hv.lt b hb).2).new _ _).less (T := S) (fun b hb => by simp [hb])).trans st
    have := ih h' x' (pre ++ [g7 n]) S' (by have := st2.1; omega) (by simpa using hv') (by simp; omega) (by omega) (fun h2 x2 m pre' S2 hm hv2 hp st3 => hk h2 x2 m pre' S2 hm hv2 (by simpa using hp) (st2.trans st3))
    simpa using this
theorem rVarint_spec {w0 : World} {h : Hp} (n : Nat) (hn : n < 18446744073709551616) :
    ACalls prog w0 n_dedupref02_Varint [.int .u64 n] h fun v h' => v = .string (str (vi n)) ∧ Step h h' [] [] := by
  refine ACalls.of_fit (by simp) fun f => c_dedupref02_Varint (by simp) ?_
  have h10 := vi_10 hn
  refine ⟨(vi n).length, rvarint_loop n h _ [] [] f.base .nil (by simp; omega) hn (fun h' x' m pre' S' hm hv he st => ?_)⟩
  have e : IntKind.u8.wrap (m : Int) = ((m % 256 : Nat) : Int) := by rw [IntKind.wrap_u8]; simp
  simp [e]
  have hb : (.int .u8 ((m : Int) % 256) : Value) = bv (UInt8.ofNat m) := by rw [bv_ofNat]; simp
  rw [hb]
  have hlen : pre'.length + 1 = (vi n).length := by rw [← List.nil_append (vi n), ← he]; simp
  have hfb := f.base
  have := st.1
  refine appA_vec (w0 := w0) (m := 1) (s := 1) (by_ := 1) (h := h'.new [bv (UInt8.ofNat m)] 1) (ys := bvs [UInt8.ofNat m]) (by simp; omega) (hv.new _ _) (by simp) (src_new (by omega) (by simp)) (by simp) (by omega) (by omega) (by omega) (fun x2 h2 S2 hv2 st2 => ?_)
  have he2 : bvs pre' ++ bvs [UInt8.ofNat m] = bvs (vi n) := by rw [← bvs_append, he]; simp
  rw [he2] at hv2
  refine hv2.b2s ?_
  simp only [retA_iff, oneOf_one]
  exact ⟨by simp, by trivial, (((st.new _ _).less (T := S') (fun b hb => by simp [hb])).trans st2).less (by simp)⟩
theorem rText_spec {w0 : World} {h : Hp} (l : List UInt8) (hl : l.length ≤ 70368744177664) :
    ACalls prog w0 n_dedupref02_Text [.string (str l)] h fun v h' => v = .string (str (vi l.length ++ l)) ∧ Step h h' [] [] := by
  refine ACalls.of_fit (by simp) fun f => c_dedupref02_Text (by simp) ?_
  have h10 := vi_10 (n := l.length) (by omega)
  simp only [s_dedupref02_Text, lenStr_string, pureA_some, convA_int, str_size]
  rw [IntWalk.u64_in _ (by omega)]
  refine callA_of (rVarint_spec l.length (by omega)) fun v h1 ⟨e, s1⟩ f1 => ?_
  subst e
  rw [strA_add _ _ (by simp; omega)]
  simp only [pureA_some, retA_iff, oneOf_one, str_append]
  exact ⟨by simp, trivial, s1⟩

/-! ### ReadVarint -/
theorem rdn_cons (b : UInt8) (l : List UInt8) : rdn (b :: l) = b.toNat * 256 ^ l.length + rdn l := by
  have key : ∀ (l : List UInt8) (n : Nat), l.foldl (fun n b => n * 256 + b.toNat) n = n * 256 ^ l.length + rdn l := by
    intro l
    induction l with
    | nil => intro n; simp [rdn]
    | cons c l ih =>
      intro n
      have h1 := ih (n * 256 + c.toNat)
      have h2 := ih (0 * 256 + c.toNat)
      simp only [rdn, List.foldl_cons, List.length_cons] at h1 h2 ⊢
      rw [h1, h2, Nat.add_mul, Nat.pow_succ, Nat.zero_mul, Nat.zero_add, Nat.mul_assoc, Nat.mul_comm 256, Nat.add_assoc]
  have := key l (0 * 256 + b.toNat)
  simpa [rdn] using this
theorem rdn_be : ∀ (s n : Nat), rdn (be s n) = n % 256 ^ s := by
  intro s
  induction s with
  | zero => intro n; simp [be, rdn, Nat.mod_one]
  | succ s ih =>
    intro n
    rw [be, rdn_cons, ih, be_length]
    have : (UInt8.ofNat (n / 256 ^ s)).toNat = n / 256 ^ s % 256 := by simp
    rw [this, Nat.pow_succ, Nat.mod_mul, Nat.mul_comm, Nat.add_comm]
theorem crcB_xor (a b : Nat) : crcB (a ^^^ b) = crcB a ^^^ crcB b := by
  unfold crcB
  rw [Nat.xor_div_two]
  have ha : a % 2 = 0 ∨ a % 2 = 1 := by omega
  have hb : b % 2 = 0 ∨ b % 2 = 1 := by omega
  have hx : ((a ^^^ b) % 2 = 1) ↔ ¬ ((a % 2 = 1) ↔ (b % 2 = 1)) := Nat.xor_mod_two_eq_one
  rcases ha with ha | ha <;> rcases hb with hb | hb
  · rw [if_neg (by rw [hx]; omega), if_neg (by omega), if_neg (by omega)]; simp
  · rw [if_pos (by rw [hx]; omega), if_neg (by omega), if_pos (by omega)]; simp [Nat.xor_assoc]
  · rw [if_pos (by rw [hx]; omega), if_pos (by omega), if_neg (by omega)]; simp only [Nat.xor_zero]; rw [Nat.xor_assoc, Nat.xor_assoc, Nat.xor_comm (b / 2)]
  · rw [if_neg (by rw [hx]; omega), if_pos (by omega), if_pos (by omega)]
    simp only [Nat.xor_zero]
    rw [Nat.xor_assoc, Nat.xor_comm 2197175160, Nat.xor_assoc (b / 2), Nat.xor_self, Nat.xor_zero]
theorem crc8_xor (a b : Nat) : ∀ k, crc8 k (a ^^^ b) = crc8 k a ^^^ crc8 k b := by
  intro k
  induction k generalizing a b with
  | zero => rfl
  | succ k ih => rw [crc8, crc8, crc8, crcB_xor, ih]
theorem crc8_add (j k c : Nat) : crc8 (j + k) c = crc8 k (crc8 j c) := by
  induction j generalizing c with
  | zero => rw [Nat.zero_add]; rfl
  | succ j ih => rw [Nat.add_right_comm, crc8, crc8, ih]
theorem crc8_pow (w : Nat) : ∀ k, crc8 k (2 ^ k * w) = w := by
  intro k
  induction k with
  | zero => simp [crc8]
  | succ k ih =>
    have h1 : 2 ^ (k + 1) * w = 2 * (2 ^ k * w) := by rw [Nat.pow_succ, Nat.mul_comm (2 ^ k) 2, Nat.mul_assoc]
    have h2 : crcB (2 * (2 ^ k * w)) = 2 ^ k * w := by
      unfold crcB
      rw [if_neg (by omega)]
      simp
    rw [crc8, h1, h2, ih]
theorem crcB_ne {c : Nat} (hc : c < 4294967296) (h0 : c ≠ 0) : crcB c ≠ 0 := by
  unfold crcB
  split
  · intro h
    have h2 : c / 2 = 2197175160 := by
      have := congrArg (· ^^^ 2197175160) h
      simpa [Nat.xor_assoc] using this
    omega
  · simp; omega
theorem crc8_ne : ∀ (k c : Nat), c < 4294967296 → c ≠ 0 → crc8 k c ≠ 0 := by
  intro k
  induction k with
  | zero => intro c _ h; exact h
  | succ k ih => intro c hc h; exact ih _ (crcB_lt hc) (crcB_ne hc h)

def leN : List UInt8 → Nat
  | [] => 0
  | b :: l => b.toNat + 256 * leN l
theorem xor_add {b l : Nat} (hb : b < 256) : b + 256 * l = b ^^^ 256 * l := by
  have h1 := Nat.two_pow_add_eq_or_of_lt (i := 8) (b := b) (by omega) l
  have h2 : (256 * l) ^^^ b = 256 * l ||| b := by
    apply Nat.eq_of_testBit_eq
    intro i
    rw [Nat.testBit_xor, Nat.testBit_or]
    by_cases hi : i < 8
    · have : (256 * l).testBit i = false := by
        have := Nat.testBit_two_pow_mul (i := 8) (a := l) (j := i)
        rw [show (256 : Nat) = 2 ^ 8 from rfl, this]
        simp; omega
      rw [this]; simp
    · have : b.testBit i = false := Nat.testBit_lt_two_pow (Nat.lt_of_lt_of_le (show b < 2 ^ 8 by omega) (Nat.pow_le_pow_right (by omega) (by omega)))
      rw [this]; simp
  rw [Nat.xor_comm, h2, ← (show 2 ^ 8 * l + b = 2 ^ 8 * l ||| b from h1)]
  omega
theorem crcN_eq : ∀ (l : List UInt8) (d : Nat), crcN d l = crc8 (8 * l.length) (d ^^^ leN l) := by
  intro l
  induction l with
  | nil => intro d; simp [crcN, leN, crc8]
  | cons b l ih =>
    intro d
    have h1 : crcN d (b :: l) = crcN (crc8 8 (d ^^^ b.toNat)) l := rfl
    have h2 : crc8 8 (256 * leN l) = leN l := crc8_pow (leN l) 8
    rw [h1, ih, List.length_cons, Nat.mul_add, Nat.mul_one, Nat.add_comm (8 * l.length), crc8_add, leN, xor_add (UInt8.toNat_lt b), ← Nat.xor_assoc, crc8_xor _ (256 * leN l), h2]
theorem crcN_append (c : Nat) (l m : List UInt8) : crcN c (l ++ m) = crcN (crcN c l) m := by simp [crcN]
theorem leN_inj : ∀ (l m : List UInt8), l.length = m.length → leN l = leN m → l = m := by
  intro l
  induction l with
  | nil => intro m h _; exact (List.eq_nil_of_length_eq_zero h.symm).symm
  | cons b l ih =>
    intro m h e
    cases m with
    | nil => simp at h
    | cons c m =>
      have := UInt8.toNat_lt b
      have := UInt8.toNat_lt c
      simp only [leN] at e
      have h1 : b = c := UInt8.toNat_inj.1 (by omega)
      rw [h1, ih m (by simpa using h) (by omega)]
theorem crc_tells {hd b b' : List UInt8} {p w : Nat} (hl : b'.length = b.length) (hp : p ≤ 8 * b.length) (hw : leN b' = leN b ^^^ 2 ^ p * w) (hw32 : w < 4294967296) (h : crcOf (hd ++ b') = crcOf (hd ++ b)) : w = 0 := by
  unfold crcOf at h
  have h := congrArg (· ^^^ 4294967295) h
  simp only [Nat.xor_assoc, Nat.xor_self, Nat.xor_zero] at h
  rw [crcN_append, crcN_append, crcN_eq b', crcN_eq b, hl, hw, ← Nat.xor_assoc, crc8_xor _ (2 ^ p * w)] at h
  have h2 := congrArg (crc8 (8 * b.length) (crcN 4294967295 hd ^^^ leN b) ^^^ ·) h
  simp only [← Nat.xor_assoc, Nat.xor_self, Nat.zero_xor] at h2
  have h3 : 8 * b.length = p + (8 * b.length - p) := by omega
  rw [h3, crc8_add, crc8_pow] at h2
  rcases Nat.eq_zero_or_pos w with e | e
  · exact e
  · exact absurd h2 (crc8_ne _ _ hw32 (by omega))
theorem leN_flip : ∀ (l : List UInt8) (j : Nat) (x : UInt8), l[j]? = some x → ∀ r, r < 8 → leN (l.set j (x ^^^ UInt8.ofNat (2 ^ r))) = leN l ^^^ 2 ^ (8 * j + r) := by
  intro l
  induction l with
  | nil => intro j x h; simp at h
  | cons b l ih =>
    intro j x h r hr
    have h2r : 2 ^ r < 256 := Nat.lt_of_lt_of_le (Nat.pow_lt_pow_right (by omega) hr) (by omega)
    cases j with
    | zero =>
      simp at h
      subst h
      simp only [List.set_cons_zero, leN, Nat.mul_zero, Nat.zero_add]
      have h3 : (b ^^^ UInt8.ofNat (2 ^ r)).toNat = b.toNat ^^^ 2 ^ r := by
        rw [UInt8.toNat_xor, UInt8.toNat_ofNat_of_lt' h2r]
      rw [h3, xor_add (UInt8.toNat_lt b), xor_add (Nat.xor_lt_two_pow (n := 8) (UInt8.toNat_lt b) h2r), Nat.xor_assoc, Nat.xor_assoc, Nat.xor_comm (2 ^ r)]
    | succ j =>
      simp at h
      have := ih j x h r hr
      simp only [List.set_cons_succ, leN]
      rw [this, xor_add (UInt8.toNat_lt b), xor_add (UInt8.toNat_lt b), Nat.xor_assoc]
      congr 1
      have e : 2 ^ (8 * (j + 1) + r) = 2 ^ 8 * 2 ^ (8 * j + r) := by rw [← Nat.pow_add]; congr 1; omega
      rw [e]
      have h4 := Nat.shiftLeft_xor_distrib (a := leN l) (b := 2 ^ (8 * j + r)) (i := 8)
      simp only [Nat.shiftLeft_eq] at h4
      rw [Nat.mul_comm 256, Nat.mul_comm 256, Nat.mul_comm (2 ^ 8)]
      exact h4
end Go.Proofs.Ythjpddggnhgjhaa.Ah
