/- Containers: numbers, sizes, marks, lengths. -/
import Derived.Test.YtfhamcobfpmgbaaKr
import Derived.Test.YtfhamcobfpmgbaaKa
import Derived.Test.YtfhamcobfpmgbaaKf
import Derived.Test.YtfhamcobfpmgbaaAh27
import Derived.Test.YtfhamcobfpmgbaaGpack
import Derived.Test.YtfhamcobfpmgbaaGref13
import Derived.Test.YtfhamcobfpmgbaaGsl
set_option linter.unusedVariables false
set_option linter.unusedSimpArgs false
namespace Go.Proofs.Ytfhamcobfpmgbaa.Ah
open Go

theorem num32w_loop {w0 : World} {kk : IntKind} (hkk : 4 ≤ kk.bits) {p q n0 s : Nat} {K : Value → Value → Hp → Prop} (hq : w0.heap.size ≤ q) (hs : s ≤ 8) : ∀ (k i : Nat) (h : Hp), i + k = s → q < h.next →
    h.blk q = some (List.replicate k (.int .u8 0) ++ bvs (be i n0)) → (∀ h', h'.blk q = some (bvs (be s n0)) → Step h h' [q] [q] → K (ptr p) (.slice (some ⟨q, 0, none⟩) s s) h') →
    codec_number_uint32_L1 prog w0 K (k + 1) (ptr p) (.int kk ((n0 / 256 ^ i : Nat) : Int)) (.int .i64 (s : Int)) (.slice (some ⟨q, 0, none⟩) s s) (.int .i64 (s : Int)) (.int .i64 (i : Int)) h := by
  intro k
  induction k with
  | zero =>
    intro i h hi hql hb hk
    have : i = s := by omega
    subst this
    simp [codec_number_uint32_L1, codec_number_uint32_B1]
    exact hk h (by simpa using hb) (.refl _ _ (by simpa using hql))
  | succ k ih =>
    intro i h hi hql hb hk
    rw [codec_number_uint32_L1]
    simp [codec_number_uint32_B1]
    have e1 : IntKind.i64.wrap (IntKind.i64.wrap ((s : Int) - 1) - (i : Int)) = (k : Int) := by rw [IntWalk.i64_in ((s : Int) - 1) (by omega), IntWalk.i64_in _ (by omega)]; omega
    have e2 : IntKind.i64.wrap ((i : Int) + 1) = ((i + 1 : Nat) : Int) := by rw [IntWalk.i64_in _ (by omega)]; simp
    have e3 : (n0 : Int) / 256 ^ i / 2 ^ min 4 kk.bits / 2 ^ min 4 kk.bits = ((n0 / 256 ^ (i + 1) : Nat) : Int) := by
      rw [Nat.pow_succ, ← Nat.div_div_eq_div_mul]
      rw [Nat.min_eq_left hkk]
      simp
      omega
    have e4 : IntKind.u8.wrap ((n0 : Int) / 256 ^ i) = ((n0 / 256 ^ i % 256 : Nat) : Int) := by rw [IntKind.wrap_u8]; simp
    rw [e1, e2, e3, e4]
    refine ⟨fun _ => ⟨by omega, by omega, hq, _, hb, by simp; omega, ?_⟩, fun hle => by omega⟩
    refine ih (i + 1) _ (by omega) (by simpa using hql) ?_ (fun h' hb' st => hk h' hb' ?_)
    · simp only [put_blk, if_true, Int.toNat_natCast, be, bvs_cons, bv_ofNat]
      rw [List.set_append_left _ _ (by simp), List.replicate_succ', List.set_append_right _ _ (by simp)]
      simp
    · exact ((Step.refl h [q] (by simpa using hql)).put (by simp) _).trans st
theorem snum32w_spec {w0 : World} {h : Hp} {kk : IntKind} (hkk : 4 ≤ kk.bits) {p : Nat} {st : WS} {S : List Nat} (n s : Nat) (hs : s ≤ 8) (f : Fit w0 h) (w : Wr w0 h p st S) (hsz : st.bs.length + s ≤ 140737488355328) :
    s_codec_number_uint32 prog w0 (ptr p) (.int kk n) (.int .i64 s) (fun v h' => ∃ S', Wr w0 h' p (st.put (be s n)) S' ∧ Step h h' S S') h := by
  simp only [s_codec_number_uint32, mkA_nat, lenSl_slice, pureA_some, codec_number_uint32_E1]
  refine ⟨Nat.le_refl _, by omega, by omega, s + 1, ?_⟩
  have := num32w_loop (w0 := w0) hkk (p := p) (q := h.next) (n0 := n) (s := s) (K := fun y0 y6 => callA prog w0 n_codec_Writer_put [y0, y6] fun _ => retA [] fun v h' => ∃ S', Wr w0 h' p (st.put (be s n)) S' ∧ Step h h' S S') f.base hs s 0 (h.new (zerosL [Value.int IntKind.u8 0] s) 1) (by omega) (by simp) (by simp [zerosL_single, be]) ?_
  · simpa using this
  · intro h1 hb1 st1
    have s1 : Step h h1 S (h.next :: S) := (((Step.refl h S fun b hb => (w.lt b hb).2).new (zerosL [Value.int IntKind.u8 0] s) 1).trans (st1.wide (T := h.next :: S) (T' := h.next :: S) (by simp) (fun b hb => by
      rcases List.mem_cons.1 hb with rfl | hb
      · exact .inl (by simp)
      · exact .inr ⟨by simp [hb], by have := (w.lt b hb).2; simp; omega⟩)))
    have w1 : Wr w0 h1 p st S := by
      refine (w.frame (T := []) (T' := [h.next]) ?_ (by simp)).frame st1 ?_
      · exact (Step.refl h [] (by simp)).new _ _
      · intro b hb; have := (w.lt b hb).2; simp; omega
    have hsrc := src_whole (w0 := w0) (h := h1) (q := h.next) (c := s) (n := s) (s := 1) f.base hb1 (by simp)
    refine callA_of (put_spec (l := be s n) (ay := some ⟨h.next, 0, none⟩) (cy := s) w1 (by simpa using hsrc) (by simpa using hsz)) ?_ |> fun r => by simpa using r
    rintro v h2 ⟨S', w2, s2⟩ f2
    simp only [retA_iff, oneOf_nil]
    exact ⟨by simp, S', w2, (s1.less (T := S) (fun b hb => by simp [hb])).trans s2⟩
theorem U32w_spec {w0 : World} {h : Hp} {p : Nat} {st : WS} {S : List Nat} (n : Nat) (w : Wr w0 h p st S) (hsz : st.bs.length + 4 ≤ 140737488355328) :
    ACalls prog w0 n_codec_Writer_U32 [ptr p, .int .u32 n] h fun v h' => ∃ S', Wr w0 h' p (st.put (be 4 n)) S' ∧ Step h h' S S' := by
  refine ACalls.of_fit (by simp [ptr]) fun f => c_codec_Writer_U32 (by simp [ptr]) ?_
  refine callA_of (c_codec_number_uint32 (by simp [ptr]) (snum32w_spec (by decide) n 4 (by omega) f w hsz)) fun v h' r _ => ?_
  simpa using r
theorem wput {m : Int} {bs l : List UInt8} (h : (bs.length : Int) + l.length ≤ m) : (⟨m, bs, false⟩ : WS).put l = ⟨m, bs ++ l, false⟩ := by
  simp [WS.put]; omega
theorem rdn_cons (b : UInt8) (l : List UInt8) : rdn (b :: l) = b.toNat * 256 ^ l.length + rdn l := by
  have key : ∀ (l : List UInt8) (n : Nat), l.foldl (fun n b => n * 256 + b.toNat) n = n * 256 ^ l.length + rdn l := by
    intro l
    induction l with
    | nil => intro n; simp [rdn]
    | cons c l ih =>
      intro n
      have h1 := ih (n * 256 + c.toNat)
      have h2 := ih (0 * 256 + c.toNat)
      simp only [rdn, List.foldl_cons, List.length_cons] at h1 h2 ⊢
      rw [h1, h2, Nat.add_mul, Nat.pow_succ, Nat.zero_mul, Nat.zero_add, Nat.mul_assoc, Nat.mul_comm 256, Nat.add_assoc]
  have := key l (0 * 256 + b.toNat)
  simpa [rdn] using this
theorem rdn_be : ∀ (s n : Nat), rdn (be s n) = n % 256 ^ s := by
  intro s
  induction s with
  | zero => intro n; simp [be, rdn, Nat.mod_one]
  | succ s ih =>
    intro n
    rw [be, rdn_cons, ih, be_length]
    have : (UInt8.ofNat (n / 256 ^ s)).toNat = n / 256 ^ s % 256 := by simp
    rw [this, Nat.pow_succ, Nat.mod_mul, Nat.mul_comm, Nat.add_comm]
theorem be_rdn : ∀ (l : List UInt8), be l.length (rdn l) = l := by
  intro l
  induction l with
  | nil => rfl
  | cons b l ih =>
    have hb := UInt8.toNat_lt b
    have hl : rdn l < 256 ^ l.length := by have := rdn_lt l 0 0 (by simp); simpa [rdn] using this
    have hp : 0 < 256 ^ l.length := Nat.pow_pos (by omega)
    have be_add : ∀ (s k n m : Nat), s ≤ k → be s (m * 256 ^ k + n) = be s n := by
      intro s
      induction s with
      | zero => intros; rfl
      | succ s ih =>
        intro k n m hk
        rw [be, be, ih k n m (by omega)]
        congr 1
        have e : m * 256 ^ k + n = n + 256 ^ s * (m * 256 ^ (k - s - 1) * 256) := by
          have : 256 ^ k = 256 ^ s * (256 ^ (k - s - 1) * 256) := by rw [← Nat.pow_succ, ← Nat.pow_add]; congr 1; omega
          rw [this, Nat.add_comm]
          congr 1
          rw [Nat.mul_left_comm, Nat.mul_assoc]
        rw [e, Nat.add_mul_div_left _ _ (Nat.pow_pos (by omega))]
        apply UInt8.toNat_inj.1
        simp
    rw [rdn_cons, List.length_cons, be, be_add _ _ _ _ (Nat.le_refl _), ih, Nat.mul_comm, Nat.mul_add_div hp, Nat.div_eq_of_lt hl]
    simp
/-- A size that is a power of two. -/
def jsize (n : Int) : Bool := decide (n = 512) || decide (n = 1024) || decide (n = 2048) || decide (n = 4096)
theorem pow_all : (List.range 4097).all (fun n => decide (n < 512) || (((n &&& (n - 1)) == 0) == jsize n)) = true := by decide +kernel
theorem pow_one {n : Nat} (h1 : 512 ≤ n) (h2 : n ≤ 4096) : ((n &&& (n - 1)) == 0) = jsize n := by
  have := List.all_eq_true.1 pow_all n (by simp; omega)
  simp only [Bool.or_eq_true, decide_eq_true_eq] at this
  rcases this with h | h
  · omega
  · simpa using h
theorem jsize_range {n : Int} (h : jsize n = true) : 512 ≤ n ∧ n ≤ 4096 := by
  simp only [jsize, Bool.or_eq_true, decide_eq_true_eq] at h
  omega
def pfits (n s : Int) : Bool := jsize n && decide (1 ≤ s) && decide (s ≤ 64)
theorem fits_spec {w0 : World} {h : Hp} (n s : Int) (hn : -9223372036854775808 ≤ n ∧ n ≤ 9223372036854775807) : ACalls prog w0 n_pack_fits [.int .i64 n, .int .i64 s] h fun v h' => v = .bool (pfits n s) ∧ h' = h := by
  refine ACalls.of_fit (by simp) fun f => c_pack_fits (by simp) ?_
  simp only [s_pack_fits, lenSl_slice, lenStr_string, str_size, fpureA_some, fnilA_ptr, faddA_ptr, addr_add, Nat.zero_add, Nat.add_zero, fpureQ_k, fpureQ_nilA, fpureQ_addA, fpureQ_pureA, fpureQ_guardA, fpureQ_idxSlA, fpureQ_pickA, freadQ_loadA, freadQ_loadNA, freadQ_b2sA, freadQ_guardA, freadQ_slSlA, freadQ_k, fendA, fallA_one, fstillA_nil, fguardA_tt, fguardA_ff, fguardA_tf, fguardA_ft, fguardA_undef, fpickA_true, fpickA_false, fcondA_true, fcondA_false, binA_add, binA_sub, binA_mul, binA_eql, binA_neq, binA_lss, binA_leq, binA_gtr, binA_geq, unA_not, Bool.not_true, Bool.not_false, convA_int, extA_tuple, List.getElem?_toArray, List.getElem?_cons_zero, List.getElem?_cons_succ]
  have c3 : ∀ hj : jsize n = false, pfits n s = false := fun hj => by simp [pfits, hj]
  by_cases h1 : 512 ≤ n
  · by_cases h2 : n ≤ 4096
    · obtain ⟨k, rfl⟩ := Int.eq_ofNat_of_zero_le (show 0 ≤ n by omega)
      have c1 : decide ((512 : Int) ≤ (k : Int)) = true := decide_eq_true h1
      have c2 : decide ((k : Int) ≤ 4096) = true := decide_eq_true h2
      have e1 : IntKind.i64.wrap ((k : Int) - 1) = ((k - 1 : Nat) : Int) := by rw [IntWalk.i64_in _ (by omega)]; omega
      have h3 := pow_one (n := k) (by omega) (by omega)
      have hlt : k &&& (k - 1) ≤ k := Nat.and_le_left
      have e2 : binA .and (.int .i64 (k : Int)) (.int .i64 ((k - 1 : Nat) : Int)) = some (.int .i64 ((k &&& (k - 1) : Nat) : Int)) := by
        rw [binA_and, Nat.mod_eq_of_lt (by simp only [IntKind.bits]; omega), IntWalk.i64_in _ (by omega)]
      have e3 : (((k &&& (k - 1) : Nat) : Int) == 0) = jsize (k : Int) := by
        rw [← h3]
        by_cases hz : k &&& (k - 1) = 0
        · rw [hz]; rfl
        · have : ((k &&& (k - 1) : Nat) : Int) ≠ 0 := by omega
          rw [beq_eq_false_iff_ne.2 this, beq_eq_false_iff_ne.2 hz]
      simp only [lenSl_slice, lenStr_string, str_size, fpureA_some, fnilA_ptr, faddA_ptr, addr_add, Nat.zero_add, Nat.add_zero, fpureQ_k, fpureQ_nilA, fpureQ_addA, fpureQ_pureA, fpureQ_guardA, fpureQ_idxSlA, fpureQ_pickA, freadQ_loadA, freadQ_loadNA, freadQ_b2sA, freadQ_guardA, freadQ_slSlA, freadQ_k, fendA, fallA_one, fstillA_nil, fguardA_tt, fguardA_ff, fguardA_tf, fguardA_ft, fguardA_undef, fpickA_true, fpickA_false, fcondA_true, fcondA_false, binA_add, binA_sub, binA_mul, binA_eql, binA_neq, binA_lss, binA_leq, binA_gtr, binA_geq, unA_not, Bool.not_true, Bool.not_false, convA_int, extA_tuple, List.getElem?_toArray, List.getElem?_cons_zero, List.getElem?_cons_succ, c1, c2, e1, e2, e3]
      cases hj : jsize (k : Int) with
      | false => simp only [lenSl_slice, lenStr_string, str_size, fpureA_some, fnilA_ptr, faddA_ptr, addr_add, Nat.zero_add, Nat.add_zero, fpureQ_k, fpureQ_nilA, fpureQ_addA, fpureQ_pureA, fpureQ_guardA, fpureQ_idxSlA, fpureQ_pickA, freadQ_loadA, freadQ_loadNA, freadQ_b2sA, freadQ_guardA, freadQ_slSlA, freadQ_k, fendA, fallA_one, fstillA_nil, fguardA_tt, fguardA_ff, fguardA_tf, fguardA_ft, fguardA_undef, fpickA_true, fpickA_false, fcondA_true, fcondA_false, binA_add, binA_sub, binA_mul, binA_eql, binA_neq, binA_lss, binA_leq, binA_gtr, binA_geq, unA_not, Bool.not_true, Bool.not_false, convA_int, extA_tuple, List.getElem?_toArray, List.getElem?_cons_zero, List.getElem?_cons_succ, retA_iff, oneOf_one, c3 hj]; simp
      | true =>
        have e4 : pfits (k : Int) s = (decide (1 ≤ s) && decide (s ≤ 64)) := by simp [pfits, hj]
        simp only [lenSl_slice, lenStr_string, str_size, fpureA_some, fnilA_ptr, faddA_ptr, addr_add, Nat.zero_add, Nat.add_zero, fpureQ_k, fpureQ_nilA, fpureQ_addA, fpureQ_pureA, fpureQ_guardA, fpureQ_idxSlA, fpureQ_pickA, freadQ_loadA, freadQ_loadNA, freadQ_b2sA, freadQ_guardA, freadQ_slSlA, freadQ_k, fendA, fallA_one, fstillA_nil, fguardA_tt, fguardA_ff, fguardA_tf, fguardA_ft, fguardA_undef, fpickA_true, fpickA_false, fcondA_true, fcondA_false, binA_add, binA_sub, binA_mul, binA_eql, binA_neq, binA_lss, binA_leq, binA_gtr, binA_geq, unA_not, Bool.not_true, Bool.not_false, convA_int, extA_tuple, List.getElem?_toArray, List.getElem?_cons_zero, List.getElem?_cons_succ, e4]
        cases decide (1 ≤ s) with
        | false => simp only [lenSl_slice, lenStr_string, str_size, fpureA_some, fnilA_ptr, faddA_ptr, addr_add, Nat.zero_add, Nat.add_zero, fpureQ_k, fpureQ_nilA, fpureQ_addA, fpureQ_pureA, fpureQ_guardA, fpureQ_idxSlA, fpureQ_pickA, freadQ_loadA, freadQ_loadNA, freadQ_b2sA, freadQ_guardA, freadQ_slSlA, freadQ_k, fendA, fallA_one, fstillA_nil, fguardA_tt, fguardA_ff, fguardA_tf, fguardA_ft, fguardA_undef, fpickA_true, fpickA_false, fcondA_true, fcondA_false, binA_add, binA_sub, binA_mul, binA_eql, binA_neq, binA_lss, binA_leq, binA_gtr, binA_geq, unA_not, Bool.not_true, Bool.not_false, convA_int, extA_tuple, List.getElem?_toArray, List.getElem?_cons_zero, List.getElem?_cons_succ, retA_iff, oneOf_one]; simp
        | true => simp only [lenSl_slice, lenStr_string, str_size, fpureA_some, fnilA_ptr, faddA_ptr, addr_add, Nat.zero_add, Nat.add_zero, fpureQ_k, fpureQ_nilA, fpureQ_addA, fpureQ_pureA, fpureQ_guardA, fpureQ_idxSlA, fpureQ_pickA, freadQ_loadA, freadQ_loadNA, freadQ_b2sA, freadQ_guardA, freadQ_slSlA, freadQ_k, fendA, fallA_one, fstillA_nil, fguardA_tt, fguardA_ff, fguardA_tf, fguardA_ft, fguardA_undef, fpickA_true, fpickA_false, fcondA_true, fcondA_false, binA_add, binA_sub, binA_mul, binA_eql, binA_neq, binA_lss, binA_leq, binA_gtr, binA_geq, unA_not, Bool.not_true, Bool.not_false, convA_int, extA_tuple, List.getElem?_toArray, List.getElem?_cons_zero, List.getElem?_cons_succ, retA_iff, oneOf_one]; simp
    · have c1 : decide ((512 : Int) ≤ n) = true := decide_eq_true h1
      have c2 : decide (n ≤ 4096) = false := decide_eq_false h2
      have hj : jsize n = false := by
        cases e : jsize n with
        | false => rfl
        | true => exact absurd (jsize_range e).2 h2
      simp only [lenSl_slice, lenStr_string, str_size, fpureA_some, fnilA_ptr, faddA_ptr, addr_add, Nat.zero_add, Nat.add_zero, fpureQ_k, fpureQ_nilA, fpureQ_addA, fpureQ_pureA, fpureQ_guardA, fpureQ_idxSlA, fpureQ_pickA, freadQ_loadA, freadQ_loadNA, freadQ_b2sA, freadQ_guardA, freadQ_slSlA, freadQ_k, fendA, fallA_one, fstillA_nil, fguardA_tt, fguardA_ff, fguardA_tf, fguardA_ft, fguardA_undef, fpickA_true, fpickA_false, fcondA_true, fcondA_false, binA_add, binA_sub, binA_mul, binA_eql, binA_neq, binA_lss, binA_leq, binA_gtr, binA_geq, unA_not, Bool.not_true, Bool.not_false, convA_int, extA_tuple, List.getElem?_toArray, List.getElem?_cons_zero, List.getElem?_cons_succ, c1, c2, retA_iff, oneOf_one, c3 hj]
      simp
  · have c1 : decide ((512 : Int) ≤ n) = false := decide_eq_false h1
    have hj : jsize n = false := by
      cases e : jsize n with
      | false => rfl
      | true => exact absurd (jsize_range e).1 h1
    simp only [lenSl_slice, lenStr_string, str_size, fpureA_some, fnilA_ptr, faddA_ptr, addr_add, Nat.zero_add, Nat.add_zero, fpureQ_k, fpureQ_nilA, fpureQ_addA, fpureQ_pureA, fpureQ_guardA, fpureQ_idxSlA, fpureQ_pickA, freadQ_loadA, freadQ_loadNA, freadQ_b2sA, freadQ_guardA, freadQ_slSlA, freadQ_k, fendA, fallA_one, fstillA_nil, fguardA_tt, fguardA_ff, fguardA_tf, fguardA_ft, fguardA_undef, fpickA_true, fpickA_false, fcondA_true, fcondA_false, binA_add, binA_sub, binA_mul, binA_eql, binA_neq, binA_lss, binA_leq, binA_gtr, binA_geq, unA_not, Bool.not_true, Bool.not_false, convA_int, extA_tuple, List.getElem?_toArray, List.getElem?_cons_zero, List.getElem?_cons_succ, c1, retA_iff, oneOf_one, c3 hj]
    simp
theorem power_spec {w0 : World} {h : Hp} (n : Int) : ACalls prog w0 n_dedupref13_power [.int .i64 n] h fun v h' => v = .bool (jsize n) ∧ h' = h := by
  refine ACalls.of_fit (by simp) fun f => c_dedupref13_power (by simp) ?_
  have e : jsize n = ((n == 512) || (n == 1024) || (n == 2048) || (n == 4096)) := by
    unfold jsize
    congr 1
  rw [e]
  simp only [s_dedupref13_power]
  cases h1 : (n == 512) <;> cases h2 : (n == 1024) <;> cases h3 : (n == 2048) <;> simp only [lenSl_slice, lenStr_string, str_size, fpureA_some, fnilA_ptr, faddA_ptr, addr_add, Nat.zero_add, Nat.add_zero, fpureQ_k, fpureQ_nilA, fpureQ_addA, fpureQ_pureA, fpureQ_guardA, fpureQ_idxSlA, fpureQ_pickA, freadQ_loadA, freadQ_loadNA, freadQ_b2sA, freadQ_guardA, freadQ_slSlA, freadQ_k, fendA, fallA_one, fstillA_nil, fguardA_tt, fguardA_ff, fguardA_tf, fguardA_ft, fguardA_undef, fpickA_true, fpickA_false, fcondA_true, fcondA_false, binA_add, binA_sub, binA_mul, binA_eql, binA_neq, binA_lss, binA_leq, binA_gtr, binA_geq, unA_not, Bool.not_true, Bool.not_false, convA_int, extA_tuple, List.getElem?_toArray, List.getElem?_cons_zero, List.getElem?_cons_succ, h1, h2, h3, retA_iff, oneOf_one] <;> simp

/-! ### Marks -/
def mark12 (name : List UInt8) (a b : Nat) : List UInt8 := name ++ be 4 a ++ be 4 b
def mark16 (name : List UInt8) (a b : Nat) : List UInt8 := mark12 name a b ++ be 4 (crcOf (mark12 name a b))
theorem mark12_length {name : List UInt8} (hn : name.length = 4) (a b : Nat) : (mark12 name a b).length = 12 := by simp [mark12, hn]
theorem mark16_length {name : List UInt8} (hn : name.length = 4) (a b : Nat) : (mark16 name a b).length = 16 := by simp [mark16, mark12_length hn]
theorem marked_spec {w0 : World} {h : Hp} {name : List UInt8} (hn : name.length = 4) (a b : Nat) :
    ACalls prog w0 n_pack_marked [.string (str name), .int .u32 a, .int .u32 b] h fun v h' => v = .string (str (mark16 name a b)) ∧ Step h h' [] [] := by
  refine ACalls.of_fit (by simp) fun f => c_pack_marked (by simp) ?_
  refine callA_of (NewWriter_spec 16 (by omega)) fun v h1 ⟨e, w1, s1⟩ f1 => ?_
  subst e
  rw [show max (16 : Int) 0 = 16 from rfl] at w1
  refine callA_of (WRaw_spec name (by omega) w1 (by simp; omega)) fun v h2 ⟨S2, w2, s2⟩ f2 => ?_
  rw [wput (by simp; omega)] at w2
  refine callA_of (U32w_spec a w2 (by simp; omega)) fun v h3 ⟨S3, w3, s3⟩ f3 => ?_
  rw [wput (by simp; omega)] at w3
  refine callA_of (U32w_spec b w3 (by simp; omega)) fun v h4 ⟨S4, w4, s4⟩ f4 => ?_
  rw [wput (by simp; omega)] at w4
  have hm : [] ++ name ++ be 4 a ++ be 4 b = mark12 name a b := by simp [mark12]
  rw [hm] at w4
  refine callA_of (WDone_spec w4) fun v h5 ⟨e, e2⟩ f5 => ?_
  subst e e2
  have o1 : (⟨16, mark12 name a b, false⟩ : WS).out = mark12 name a b := rfl
  simp only [lenSl_slice, lenStr_string, str_size, fpureA_some, fnilA_ptr, faddA_ptr, addr_add, Nat.zero_add, Nat.add_zero, fpureQ_k, fpureQ_nilA, fpureQ_addA, fpureQ_pureA, fpureQ_guardA, fpureQ_idxSlA, fpureQ_pickA, freadQ_loadA, freadQ_loadNA, freadQ_b2sA, freadQ_guardA, freadQ_slSlA, freadQ_k, fendA, fallA_one, fstillA_nil, fguardA_tt, fguardA_ff, fguardA_tf, fguardA_ft, fguardA_undef, fpickA_true, fpickA_false, fcondA_true, fcondA_false, binA_add, binA_sub, binA_mul, binA_eql, binA_neq, binA_lss, binA_leq, binA_gtr, binA_geq, unA_not, Bool.not_true, Bool.not_false, convA_int, extA_tuple, List.getElem?_toArray, List.getElem?_cons_zero, List.getElem?_cons_succ, o1]
  have hl := mark12_length hn a b
  refine callA_of (Crc_spec (mark12 name a b) (by omega)) fun v h6 ⟨e, e2⟩ f6 => ?_
  subst e e2
  refine callA_of (U32w_spec (crcOf (mark12 name a b)) w4 (by simp; omega)) fun v h7 ⟨S7, w7, s7⟩ f7 => ?_
  rw [wput (by simp; omega)] at w7
  refine callA_of (WDone_spec w7) fun v h8 ⟨e, e2⟩ f8 => ?_
  subst e e2
  have o2 : (⟨16, mark12 name a b ++ be 4 (crcOf (mark12 name a b)), false⟩ : WS).out = mark16 name a b := rfl
  simp only [lenSl_slice, lenStr_string, str_size, fpureA_some, fnilA_ptr, faddA_ptr, addr_add, Nat.zero_add, Nat.add_zero, fpureQ_k, fpureQ_nilA, fpureQ_addA, fpureQ_pureA, fpureQ_guardA, fpureQ_idxSlA, fpureQ_pickA, freadQ_loadA, freadQ_loadNA, freadQ_b2sA, freadQ_guardA, freadQ_slSlA, freadQ_k, fendA, fallA_one, fstillA_nil, fguardA_tt, fguardA_ff, fguardA_tf, fguardA_ft, fguardA_undef, fpickA_true, fpickA_false, fcondA_true, fcondA_false, binA_add, binA_sub, binA_mul, binA_eql, binA_neq, binA_lss, binA_leq, binA_gtr, binA_geq, unA_not, Bool.not_true, Bool.not_false, convA_int, extA_tuple, List.getElem?_toArray, List.getElem?_cons_zero, List.getElem?_cons_succ, o2, retA_iff, oneOf_one]
  exact ⟨by simp, by trivial, ((((s1.trans s2).trans s3).trans s4).trans s7).less (by simp)⟩
theorem length_spec {w0 : World} {h : Hp} (n : Nat) (hn : n < 4294967296) :
    ACalls prog w0 n_pack_length [.int .i64 n] h fun v h' => v = .string (str (be 4 n)) ∧ Step h h' [] [] := by
  refine ACalls.of_fit (by simp) fun f => c_pack_length (by simp) ?_
  refine callA_of (NewWriter_spec 4 (by omega)) fun v h1 ⟨e, w1, s1⟩ f1 => ?_
  subst e
  rw [show max (4 : Int) 0 = 4 from rfl] at w1
  have e1 : IntKind.u32.wrap (n : Int) = (n : Int) := IntWalk.u32_in _ (by omega)
  simp only [lenSl_slice, lenStr_string, str_size, fpureA_some, fnilA_ptr, faddA_ptr, addr_add, Nat.zero_add, Nat.add_zero, fpureQ_k, fpureQ_nilA, fpureQ_addA, fpureQ_pureA, fpureQ_guardA, fpureQ_idxSlA, fpureQ_pickA, freadQ_loadA, freadQ_loadNA, freadQ_b2sA, freadQ_guardA, freadQ_slSlA, freadQ_k, fendA, fallA_one, fstillA_nil, fguardA_tt, fguardA_ff, fguardA_tf, fguardA_ft, fguardA_undef, fpickA_true, fpickA_false, fcondA_true, fcondA_false, binA_add, binA_sub, binA_mul, binA_eql, binA_neq, binA_lss, binA_leq, binA_gtr, binA_geq, unA_not, Bool.not_true, Bool.not_false, convA_int, extA_tuple, List.getElem?_toArray, List.getElem?_cons_zero, List.getElem?_cons_succ, e1]
  refine callA_of (U32w_spec n w1 (by simp)) fun v h3 ⟨S3, w3, s3⟩ f3 => ?_
  rw [wput (by simp)] at w3
  refine callA_of (WDone_spec w3) fun v h5 ⟨e, e2⟩ f5 => ?_
  subst e e2
  have o1 : (⟨4, [] ++ be 4 n, false⟩ : WS).out = be 4 n := rfl
  simp only [lenSl_slice, lenStr_string, str_size, fpureA_some, fnilA_ptr, faddA_ptr, addr_add, Nat.zero_add, Nat.add_zero, fpureQ_k, fpureQ_nilA, fpureQ_addA, fpureQ_pureA, fpureQ_guardA, fpureQ_idxSlA, fpureQ_pickA, freadQ_loadA, freadQ_loadNA, freadQ_b2sA, freadQ_guardA, freadQ_slSlA, freadQ_k, fendA, fallA_one, fstillA_nil, fguardA_tt, fguardA_ff, fguardA_tf, fguardA_ft, fguardA_undef, fpickA_true, fpickA_false, fcondA_true, fcondA_false, binA_add, binA_sub, binA_mul, binA_eql, binA_neq, binA_lss, binA_leq, binA_gtr, binA_geq, unA_not, Bool.not_true, Bool.not_false, convA_int, extA_tuple, List.getElem?_toArray, List.getElem?_cons_zero, List.getElem?_cons_succ, o1, retA_iff, oneOf_one]
  exact ⟨by simp, by trivial, (s1.trans s3).less (by simp)⟩
/-! ### The document's numbers -/
theorem wrap_u8_nat (n : Nat) : (.int .u8 (IntKind.u8.wrap (n : Int)) : Value) = bv (UInt8.ofNat n) := by rw [bv_ofNat, IntKind.wrap_u8]; simp
theorem idxSlA_own {b0 n : Nat} {kt : IntKind} {i c : Nat} {h : Hp} {K : Kont} (hi : i < n) (hk : K (.pointer (some ⟨b0, i, none⟩)) h) : idxSlA 1 (.slice (some ⟨b0, 0, none⟩) n c) (.int kt (i : Int)) K h := by
  rw [idxSlA_iff]
  refine ⟨by omega, by omega, ?_⟩
  rw [addr_add, Int.toNat_natCast, Nat.mul_one, Nat.zero_add]
  exact hk
section
variable {w0 : World}
theorem high_loop {q n0 s : Nat} {K : Value → Hp → Prop} (hq : w0.heap.size ≤ q) (hn0 : n0 < 18446744073709551616) (hs : s ≤ 8) : ∀ (k i : Nat) (h : Hp), i + k = s → q < h.next →
    h.blk q = some (List.replicate k (.int .u8 0) ++ bvs (be i n0)) → (∀ h', h'.blk q = some (bvs (be s n0)) → Step h h' [q] [q] → K (.slice (some ⟨q, 0, none⟩) s s) h') →
    dedupref13_high_L1 prog w0 K (k + 1) (.int .u64 ((n0 / 256 ^ i : Nat) : Int)) (.int .i64 (s : Int)) (.slice (some ⟨q, 0, none⟩) s s) (.int .i64 (i : Int)) h := by
  intro k
  induction k with
  | zero =>
    intro i h hi hql hb hk
    have : i = s := by omega
    subst this
    rw [dedupref13_high_L1]
    simp only [dedupref13_high_B1, lenSl_slice, lenStr_string, str_size, fpureA_some, fnilA_ptr, faddA_ptr, addr_add, Nat.zero_add, Nat.add_zero, fpureQ_k, fpureQ_nilA, fpureQ_addA, fpureQ_pureA, fpureQ_guardA, fpureQ_idxSlA, fpureQ_pickA, freadQ_loadA, freadQ_loadNA, freadQ_b2sA, freadQ_guardA, freadQ_slSlA, freadQ_k, fendA, fallA_one, fstillA_nil, fguardA_tt, fguardA_ff, fguardA_tf, fguardA_ft, fguardA_undef, fpickA_true, fpickA_false, fcondA_true, fcondA_false, binA_add, binA_sub, binA_mul, binA_eql, binA_neq, binA_lss, binA_leq, binA_gtr, binA_geq, unA_not, Bool.not_true, Bool.not_false, convA_int, extA_tuple, List.getElem?_toArray, List.getElem?_cons_zero, List.getElem?_cons_succ, Int.lt_irrefl, decide_false]
    exact hk h (by simpa using hb) (.refl _ _ (by simpa using hql))
  | succ k ih =>
    intro i h hi hql hb hk
    have c1 : decide ((i : Int) < (s : Int)) = true := decide_eq_true (by omega)
    have e0 : IntKind.i64.wrap ((s : Int) - 1) = ((s - 1 : Nat) : Int) := by rw [IntWalk.i64_in _ (by omega)]; omega
    have e1 : IntKind.i64.wrap (((s - 1 : Nat) : Int) - (i : Int)) = (k : Int) := by rw [IntWalk.i64_in _ (by omega)]; omega
    have e2 : IntKind.i64.wrap ((i : Int) + 1) = ((i + 1 : Nat) : Int) := by rw [IntWalk.i64_in _ (by omega)]; simp
    have hd : n0 / 256 ^ i ≤ n0 := Nat.div_le_self _ _
    have e3 : binA .quo (.int .u64 ((n0 / 256 ^ i : Nat) : Int)) (.int .u64 256) = some (.int .u64 ((n0 / 256 ^ (i + 1) : Nat) : Int)) := by
      rw [binA_quo _ _ _ (by omega)]
      have : ((n0 / 256 ^ i : Nat) : Int).tdiv 256 = ((n0 / 256 ^ (i + 1) : Nat) : Int) := by
        rw [Int.tdiv_eq_ediv_of_nonneg (Int.natCast_nonneg _), Nat.pow_succ, ← Nat.div_div_eq_div_mul]; simp
      have h2 : n0 / 256 ^ (i + 1) ≤ n0 := Nat.div_le_self _ _
      have h3 : IntKind.u64.wrap ((n0 / 256 ^ (i + 1) : Nat) : Int) = ((n0 / 256 ^ (i + 1) : Nat) : Int) := by
        generalize n0 / 256 ^ (i + 1) = z at h2
        exact IntWalk.u64_in _ (by omega)
      rw [this, h3]
    rw [dedupref13_high_L1]
    simp only [dedupref13_high_B1, lenSl_slice, lenStr_string, str_size, fpureA_some, fnilA_ptr, faddA_ptr, addr_add, Nat.zero_add, Nat.add_zero, fpureQ_k, fpureQ_nilA, fpureQ_addA, fpureQ_pureA, fpureQ_guardA, fpureQ_idxSlA, fpureQ_pickA, freadQ_loadA, freadQ_loadNA, freadQ_b2sA, freadQ_guardA, freadQ_slSlA, freadQ_k, fendA, fallA_one, fstillA_nil, fguardA_tt, fguardA_ff, fguardA_tf, fguardA_ft, fguardA_undef, fpickA_true, fpickA_false, fcondA_true, fcondA_false, binA_add, binA_sub, binA_mul, binA_eql, binA_neq, binA_lss, binA_leq, binA_gtr, binA_geq, unA_not, Bool.not_true, Bool.not_false, convA_int, extA_tuple, List.getElem?_toArray, List.getElem?_cons_zero, List.getElem?_cons_succ, c1, e0, e1, e2, e3, wrap_u8_nat]
    refine idxSlA_own (by omega) ?_
    refine storeA_at hq hb (by simp; omega) rfl ?_
    refine ih (i + 1) _ (by omega) (by simpa using hql) ?_ (fun h' hb' st => hk h' hb' ?_)
    · simp only [put_blk, if_true, be, bvs_cons]
      rw [List.set_append_left _ _ (by simp), List.replicate_succ', List.set_append_right _ _ (by simp)]
      simp
    · exact ((Step.refl h [q] (by simpa using hql)).put (by simp) _).trans st
theorem high_spec {h : Hp} (n s : Nat) (hn : n < 18446744073709551616) (hs : s ≤ 8) : ACalls prog w0 n_dedupref13_high [.int .u64 n, .int .i64 s] h fun v h' => ∃ S', GV w0 h' 1 v s (bvs (be s n)) S' ∧ Step h h' [] S' := by
  refine ACalls.of_fit (by simp) fun f => c_dedupref13_high (by simp) ?_
  simp only [s_dedupref13_high, mkA_nat]
  refine ⟨Nat.le_refl _, by omega, by omega, s + 1, ?_⟩
  have := high_loop (w0 := w0) (q := h.next) (n0 := n) (s := s) (K := fun y5 => retA [y5] fun v h' => ∃ S', GV w0 h' 1 v s (bvs (be s n)) S' ∧ Step h h' [] S') f.base hn hs s 0 (h.new (zerosL [Value.int IntKind.u8 0] s) 1) (by omega) (by simp) (by simp [zerosL_single, be]) (fun h' hb' st => by
    simp only [retA_iff, oneOf_one]
    refine ⟨by simp, [h.next], .inr ⟨h.next, rfl, rfl, f.base, by have := st.next; simp at this; omega, hb', by simp, by show s < 18446744073709551616; omega⟩, ?_⟩
    exact ((Step.refl h [] (by simp)).new _ _).trans st)
  simpa using this
/-- A slice of bytes of one's own as the same type. -/
theorem sl2sl_gv {h : Hp} {x : Value} {l : List UInt8} {S : List Nat} {K : Kont} (v : GV w0 h 1 x l.length (bvs l) S) (hl : 0 < l.length) (hk : K x h) : sl2slA w0 x K h := by
  rcases v with (⟨-, e, -⟩ | ⟨q, rfl, -, a, b, c, -, e⟩) | ⟨q, rfl, -, a, b, c, e, -⟩
  · omega
  · exact ⟨q, 0, _, _, _, rfl, hl, a, c, by simpa using hl, hk⟩
  · exact ⟨q, 0, _, _, _, rfl, hl, a, c, by simpa using hl, hk⟩
theorem sum_spec {h : Hp} {x : Value} {l : List UInt8} (v : Bs w0 h x l) (hl : l.length ≤ 1000000000) : ACalls prog w0 n_dedupref13_sum [x] h fun v h' => ∃ S', GV w0 h' 1 v 4 (bvs (be 4 (crcOf l))) S' ∧ Step h h' [] S' := by
  refine ACalls.of_fit (by simpa using v.junk) fun f => c_dedupref13_sum (by simpa using v.junk) ?_
  refine v.b2s ?_
  refine callA_of (rCrc_spec l (by omega)) fun v h1 ⟨e, e2⟩ f1 => ?_
  subst e e2
  have hc := crcOf_lt l
  have e1 : IntKind.u64.wrap ((crcOf l : Nat) : Int) = ((crcOf l : Nat) : Int) := by
    generalize crcOf l = z at hc
    exact IntWalk.u64_in _ (by omega)
  simp only [lenSl_slice, lenStr_string, str_size, fpureA_some, fnilA_ptr, faddA_ptr, addr_add, Nat.zero_add, Nat.add_zero, fpureQ_k, fpureQ_nilA, fpureQ_addA, fpureQ_pureA, fpureQ_guardA, fpureQ_idxSlA, fpureQ_pickA, freadQ_loadA, freadQ_loadNA, freadQ_b2sA, freadQ_guardA, freadQ_slSlA, freadQ_k, fendA, fallA_one, fstillA_nil, fguardA_tt, fguardA_ff, fguardA_tf, fguardA_ft, fguardA_undef, fpickA_true, fpickA_false, fcondA_true, fcondA_false, binA_add, binA_sub, binA_mul, binA_eql, binA_neq, binA_lss, binA_leq, binA_gtr, binA_geq, unA_not, Bool.not_true, Bool.not_false, convA_int, extA_tuple, List.getElem?_toArray, List.getElem?_cons_zero, List.getElem?_cons_succ, e1]
  refine callA_of (high_spec (crcOf l) 4 (by omega) (by omega)) fun v h2 ⟨S2, v2, s2⟩ f2 => ?_
  obtain ⟨a, c, hv⟩ := v2.slice
  simp only [retA_iff, oneOf_one]
  exact ⟨by rw [hv]; simp, S2, v2, s2⟩
theorem number_loop {K : Value → Hp → Prop} {h : Hp} {a : Option Addr} {c : Nat} {l : List UInt8} (v : Bs w0 h (.slice a l.length c) l) (hl : l.length ≤ 4) : ∀ (post pre : List UInt8) (n : Nat), pre ++ post = l → n < 256 ^ pre.length → K (.int .i64 (post.foldl (fun n b => n * 256 + b.toNat) n : Nat)) h →
    dedupref13_number_L1 prog w0 K (post.length + 1) (.slice a l.length c) (.int .i64 (n : Int)) (.int .i64 (pre.length : Int)) h := by
  intro post
  induction post with
  | nil =>
    intro pre n he hn hk
    have : pre = l := by simpa using he
    subst this
    rw [List.length_nil, dedupref13_number_L1]
    simp only [dedupref13_number_B1, lenSl_slice, lenStr_string, str_size, fpureA_some, fnilA_ptr, faddA_ptr, addr_add, Nat.zero_add, Nat.add_zero, fpureQ_k, fpureQ_nilA, fpureQ_addA, fpureQ_pureA, fpureQ_guardA, fpureQ_idxSlA, fpureQ_pickA, freadQ_loadA, freadQ_loadNA, freadQ_b2sA, freadQ_guardA, freadQ_slSlA, freadQ_k, fendA, fallA_one, fstillA_nil, fguardA_tt, fguardA_ff, fguardA_tf, fguardA_ft, fguardA_undef, fpickA_true, fpickA_false, fcondA_true, fcondA_false, binA_add, binA_sub, binA_mul, binA_eql, binA_neq, binA_lss, binA_leq, binA_gtr, binA_geq, unA_not, Bool.not_true, Bool.not_false, convA_int, extA_tuple, List.getElem?_toArray, List.getElem?_cons_zero, List.getElem?_cons_succ, Int.lt_irrefl, decide_false]
    exact hk
  | cons b post ih =>
    intro pre n he hn hk
    have hlen : pre.length + (post.length + 1) = l.length := by rw [← he]; simp
    have hg : l[pre.length]? = some b := by rw [← he]; simp
    have hn4 : n < 256 ^ 4 := Nat.lt_of_lt_of_le hn (Nat.pow_le_pow_right (by omega) (by omega))
    have hb := UInt8.toNat_lt b
    have c1 : decide ((pre.length : Int) < (l.length : Int)) = true := decide_eq_true (by omega)
    have e1 : IntKind.i64.wrap ((n : Int) * 256) = ((n * 256 : Nat) : Int) := by rw [IntWalk.i64_in _ (by omega)]; simp
    have e2 : IntKind.i64.wrap (b.toNat : Int) = (b.toNat : Int) := IntWalk.i64_in _ (by omega)
    have e3 : IntKind.i64.wrap (((n * 256 : Nat) : Int) + (b.toNat : Int)) = ((n * 256 + b.toNat : Nat) : Int) := by rw [IntWalk.i64_in _ (by omega)]; simp
    have e6 : IntKind.i64.wrap ((pre.length : Int) + 1) = ((pre.length + 1 : Nat) : Int) := by rw [IntWalk.i64_in _ (by omega)]; simp
    rw [List.length_cons, dedupref13_number_L1]
    simp only [dedupref13_number_B1, lenSl_slice, lenStr_string, str_size, fpureA_some, fnilA_ptr, faddA_ptr, addr_add, Nat.zero_add, Nat.add_zero, fpureQ_k, fpureQ_nilA, fpureQ_addA, fpureQ_pureA, fpureQ_guardA, fpureQ_idxSlA, fpureQ_pickA, freadQ_loadA, freadQ_loadNA, freadQ_b2sA, freadQ_guardA, freadQ_slSlA, freadQ_k, fendA, fallA_one, fstillA_nil, fguardA_tt, fguardA_ff, fguardA_tf, fguardA_ft, fguardA_undef, fpickA_true, fpickA_false, fcondA_true, fcondA_false, binA_add, binA_sub, binA_mul, binA_eql, binA_neq, binA_lss, binA_leq, binA_gtr, binA_geq, unA_not, Bool.not_true, Bool.not_false, convA_int, extA_tuple, List.getElem?_toArray, List.getElem?_cons_zero, List.getElem?_cons_succ, c1, e1]
    refine idx_load1 v.src (by simp) (by rw [bvs_get, hg]; rfl) ?_
    simp only [bv, lenSl_slice, lenStr_string, str_size, fpureA_some, fnilA_ptr, faddA_ptr, addr_add, Nat.zero_add, Nat.add_zero, fpureQ_k, fpureQ_nilA, fpureQ_addA, fpureQ_pureA, fpureQ_guardA, fpureQ_idxSlA, fpureQ_pickA, freadQ_loadA, freadQ_loadNA, freadQ_b2sA, freadQ_guardA, freadQ_slSlA, freadQ_k, fendA, fallA_one, fstillA_nil, fguardA_tt, fguardA_ff, fguardA_tf, fguardA_ft, fguardA_undef, fpickA_true, fpickA_false, fcondA_true, fcondA_false, binA_add, binA_sub, binA_mul, binA_eql, binA_neq, binA_lss, binA_leq, binA_gtr, binA_geq, unA_not, Bool.not_true, Bool.not_false, convA_int, extA_tuple, List.getElem?_toArray, List.getElem?_cons_zero, List.getElem?_cons_succ, e2, e3, e6]
    have := ih (pre ++ [b]) (n * 256 + b.toNat) (by simpa using he) (by rw [List.length_append, List.length_singleton, Nat.pow_succ]; omega) hk
    simpa using this
theorem rnumber_spec {h : Hp} {x : Value} {l : List UInt8} (v : Bs w0 h x l) (hl : l.length ≤ 4) : ACalls prog w0 n_dedupref13_number [x] h fun v h' => v = .int .i64 (rdn l : Nat) ∧ h' = h := by
  refine ACalls.of_fit (by simpa using v.junk) fun f => c_dedupref13_number (by simpa using v.junk) ?_
  obtain ⟨a, c, rfl⟩ := v.slice
  refine ⟨l.length + 1, number_loop v hl l [] 0 rfl (by simp) ?_⟩
  simp [rdn]
end
end Go.Proofs.Ytfhamcobfpmgbaa.Ah
