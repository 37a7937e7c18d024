/- CodecTurned: the walk. -/
import Derived.Test.YtilofpnhpeammaaKturn
import Derived.Test.YtilofpnhpeammaaKop
set_option linter.unusedVariables false
set_option linter.unusedSimpArgs false
namespace Go.Proofs.Ytilofpnhpeammaa.Ah
open Go

structure Turning where
  k : Nat
  s : List UInt8
  a : Int
  t : Nat
def Turning.e (o : Turning) : List Value := [.int .u8 o.k, .string (str o.s), .int .i64 o.a, .int .u32 o.t]
def dTurning : Dec Turning := ⟨Turning.e, fun o => o.k < 256 ∧ (-9223372036854775808 ≤ o.a ∧ o.a ≤ 9223372036854775807) ∧ o.t < 4294967296, fun o => o.s.length + 1⟩

def hd8 (k n : Nat) : List UInt8 := [68, 70] ++ be 1 k ++ be 1 0 ++ be 4 n
theorem frame0_hd (k : Nat) (b : List UInt8) : frame0 k b = hd8 k b.length ++ b := rfl
theorem hd8_length (k n : Nat) : (hd8 k n).length = 8 := by simp [hd8]
theorem bvs_set (l : List UInt8) (i : Nat) (y : UInt8) : (bvs l).set i (bv y) = bvs (l.set i y) := by simp [bvs, List.map_set]
theorem turn_get (k : Nat) (b m : List UInt8) (j : Nat) (hj : j < b.length) : (frame0 k b ++ m)[8 + j]? = b[j]? := by
  rw [frame0_hd, List.append_assoc, List.getElem?_append_right (by rw [hd8_length]; omega), hd8_length, List.getElem?_append_left (by omega)]
  congr 1; omega
theorem turn_set (k : Nat) (b m : List UInt8) (j : Nat) (hj : j < b.length) (y : UInt8) : (frame0 k b ++ m).set (8 + j) y = frame0 k (b.set j y) ++ m := by
  rw [frame0_hd, frame0_hd, List.append_assoc, List.set_append_right _ _ (by rw [hd8_length]; omega), hd8_length, List.set_append_left _ _ (by omega), List.length_set, List.append_assoc]
  congr 2
  congr 1; omega
theorem quo8 {c : Nat} (hc : c < 9223372036854775808) : binA .quo (.int .i64 (c : Int)) (.int .i64 8) = some (.int .i64 ((c / 8 : Nat) : Int)) := by
  rw [binA_quo _ _ _ (by omega)]
  have : (c : Int).tdiv 8 = ((c / 8 : Nat) : Int) := by rw [Int.tdiv_eq_ediv_of_nonneg (by omega)]; simp
  rw [this, IntWalk.i64_in _ (by omega)]
theorem rem8 {c : Nat} : binA .rem (.int .i64 (c : Int)) (.int .i64 8) = some (.int .i64 ((c % 8 : Nat) : Int)) := by
  rw [binA_rem _ _ _ (by omega)]
  have : (c : Int).tmod 8 = ((c % 8 : Nat) : Int) := by rw [Int.tmod_eq_emod_of_nonneg (by omega)]; simp
  rw [this]
theorem shl8 {r : Nat} (hr : r < 8) : binA .shl (.int .u8 1) (.int .i64 (r : Int)) = some (bv (UInt8.ofNat (2 ^ r))) := by
  rw [binA_shl _ _ _ _ (by omega), Int.toNat_natCast, Nat.min_eq_left (by simp only [IntKind.bits]; omega), bv_ofNat]
  have h2 : 2 ^ r < 256 := Nat.lt_of_lt_of_le (Nat.pow_lt_pow_right (by omega) hr) (by omega)
  have e : (2 : Int) ^ r = ((2 ^ r : Nat) : Int) := by simp
  have e3 : IntKind.u8.wrap ((2 ^ r : Nat) : Int) = ((2 ^ r : Nat) : Int) := by
    generalize 2 ^ r = z at h2
    exact IntWalk.u8_in _ (by omega)
  rw [Nat.mod_eq_of_lt h2, Int.one_mul, e, e3]
theorem xor8 (x y : UInt8) : binA .xor (bv x) (bv y) = some (bv (x ^^^ y)) := by
  have hx := UInt8.toNat_lt x
  have hy := UInt8.toNat_lt y
  have h := Nat.xor_lt_two_pow (n := 8) hx hy
  simp only [bv]
  rw [binA_xor, Nat.mod_eq_of_lt (by simpa [IntKind.bits] using h), wrap_u rfl (by simpa [IntKind.bits] using h), UInt8.toNat_xor]
theorem xor_pow {w i : Nat} (hw : w < 2 ^ i) : w ^^^ 2 ^ i < 2 ^ (i + 1) ∧ w ^^^ 2 ^ i ≠ 0 := by
  refine ⟨Nat.xor_lt_two_pow (Nat.lt_of_lt_of_le hw (Nat.pow_le_pow_right (by omega) (by omega))) (Nat.pow_lt_pow_right (by omega) (by omega)), fun e => ?_⟩
  have h := congrArg (· ^^^ 2 ^ i) e
  simp only [Nat.xor_assoc, Nat.xor_self, Nat.xor_zero, Nat.zero_xor] at h
  omega
theorem mul_xor (p w i : Nat) : 2 ^ p * w ^^^ 2 ^ (p + i) = 2 ^ p * (w ^^^ 2 ^ i) := by
  have h4 := Nat.shiftLeft_xor_distrib (a := w) (b := 2 ^ i) (i := p)
  simp only [Nat.shiftLeft_eq] at h4
  rw [Nat.pow_add, Nat.mul_comm (2 ^ p) w, Nat.mul_comm (2 ^ p) (2 ^ i), Nat.mul_comm (2 ^ p)]
  exact h4.symm

theorem turn_loop {w0 : World} {k0 : Value → Value → Value → Hp → Prop} {q p t k c : Nat} {b : List UInt8} (hb : b.length ≤ 1048576) (hp : p < 8 * b.length) (ht : t < 4294967296) (hq : w0.heap.size ≤ q) : ∀ (m i w : Nat) (b' : List UInt8) (h : Hp), i + m = 32 → q < h.next →
    h.blk q = some (bvs (frame0 k b' ++ be 4 c)) → b'.length = b.length → w < 2 ^ i → leN b' = leN b ^^^ 2 ^ p * w →
    (∀ w b' h', Step h h' [q] [q] → h'.blk q = some (bvs (frame0 k b' ++ be 4 c)) → b'.length = b.length → w < 4294967296 → leN b' = leN b ^^^ 2 ^ p * w → k0 (.string (str b)) (.slice (some ⟨q, 0, none⟩) (12 + b.length) ucap) (.bool (decide (w ≠ 0))) h') →
    deduplaw02_CodecTurned_L1 prog w0 k0 (m + 1) (.string (str b)) (.int .u32 (t : Int)) (.int .i64 (p : Int)) (.slice (some ⟨q, 0, none⟩) (12 + b.length) ucap) (.bool (decide (w ≠ 0))) (.int .i64 (i : Int)) h := by
  intro m
  induction m with
  | zero =>
    intro i w b' h hi hql hbk hbl hw hle hk
    have : i = 32 := by omega
    subst this
    rw [deduplaw02_CodecTurned_L1]
    simp only [deduplaw02_CodecTurned_B1, binA_lss, pureA_some, show decide (((32 : Nat) : Int) < 32) = false from rfl, condA_false]
    exact hk w b' h (Step.refl _ _ (by simpa using hql)) hbk hbl hw hle
  | succ m ih =>
    intro i w b' h hi hql hbk hbl hw hle hk
    have c1 : decide ((i : Int) < 32) = true := decide_eq_true (by omega)
    have e5 : IntKind.i64.wrap ((i : Int) + 1) = ((i + 1 : Nat) : Int) := by rw [IntWalk.i64_in _ (by omega)]; simp
    have e6 : IntKind.i64.wrap ((p : Int) + (i : Int)) = ((p + i : Nat) : Int) := by rw [IntWalk.i64_in _ (by omega)]; simp
    have e7 : binA .shr (.int .u32 (t : Int)) (.int .i64 (i : Int)) = some (.int .u32 ((t / 2 ^ i : Nat) : Int)) := by
      rw [binA_shr _ _ _ _ (by omega), Int.toNat_natCast, Nat.min_eq_left (by simp only [IntKind.bits]; omega)]; simp
    have e8 : IntKind.i64.wrap (8 * (b.length : Int)) = ((8 * b.length : Nat) : Int) := by rw [IntWalk.i64_in _ (by omega)]; simp
    have hnext : ∀ (w : Nat), w < 2 ^ i → w < 2 ^ (i + 1) := fun w hw => Nat.lt_of_lt_of_le hw (Nat.pow_le_pow_right (by omega) (by omega))
    rw [deduplaw02_CodecTurned_L1]
    simp only [deduplaw02_CodecTurned_B1, binA_lss, pureA_some, c1, condA_true, binA_add, e6, e7, rem2, binA_eql]
    have hno : pureA (some (.int .i64 (IntKind.i64.wrap ((i : Int) + 1)))) (fun v65 => deduplaw02_CodecTurned_L1 prog w0 k0 (m + 1) (.string (str b)) (.int .u32 (t : Int)) (.int .i64 (p : Int)) (.slice (some ⟨q, 0, none⟩) (12 + b.length) ucap) (.bool (decide (w ≠ 0))) v65) h := by
      simp only [pureA_some, e5]
      exact ih (i + 1) w b' h (by omega) hql hbk hbl (hnext w hw) hle hk
    by_cases h1 : t / 2 ^ i % 2 = 1
    · have c2 : (((t / 2 ^ i % 2 : Nat) : Int) == 1) = true := by rw [h1]; rfl
      simp only [c2, guardA_tt, lenStr_string, str_size, pureA_some, binA_mul, e8, binA_lss, pickA_true]
      by_cases h2 : p + i < 8 * b.length
      · have c3 : decide (((p + i : Nat) : Int) < ((8 * b.length : Nat) : Int)) = true := decide_eq_true (by omega)
        have hj : (p + i) / 8 < b'.length := by omega
        have hx : ∃ x, b'[(p + i) / 8]? = some x := ⟨b'[(p + i) / 8], by simp [hj]⟩
        obtain ⟨x, hx⟩ := hx
        have e9 : IntKind.i64.wrap (8 + (((p + i) / 8 : Nat) : Int)) = ((8 + (p + i) / 8 : Nat) : Int) := by rw [IntWalk.i64_in _ (by omega)]; simp
        simp only [c3, condA_true, fpureQ_k, fpureQ_pureA, quo8 (show p + i < 9223372036854775808 by omega), fpureA_some, binA_add, e9, fpureQ_idxSlA, freadQ_loadA, rem8, shl8 (Nat.mod_lt (p + i) (by omega : 8 > 0))]
        rw [idxSlA_iff]
        refine ⟨by omega, by omega, ?_⟩
        have hget : (bvs (frame0 k b' ++ be 4 c))[8 + (p + i) / 8]? = some (bv x) := by
          rw [bvs_get, turn_get _ _ _ _ hj, hx]; rfl
        rw [addr_add, Nat.mul_one, Int.toNat_natCast, Nat.zero_add]
        refine loadA_at hq hbk hget ?_
        simp only [xor8, pureA_some]
        rw [idxSlA_iff]
        refine ⟨by omega, by omega, ?_⟩
        rw [addr_add, Nat.mul_one, Int.toNat_natCast, Nat.zero_add]
        simp only [allA_one, storeA_own]
        have hlen : (bvs (frame0 k b' ++ be 4 c)).length = 12 + b.length := by simp [hbl]; omega
        refine ⟨_, hq, hbk, by omega, rfl, ?_⟩
        simp only [stillA_iff, allA_nil, true_and, endA_iff, pureA_some, e5]
        rw [bvs_set, turn_set _ _ _ _ hj]
        obtain ⟨h3, h4⟩ := xor_pow hw
        have hdec : decide (w ^^^ 2 ^ i ≠ 0) = true := decide_eq_true h4
        rw [← hdec]
        refine ih (i + 1) (w ^^^ 2 ^ i) (b'.set ((p + i) / 8) (x ^^^ UInt8.ofNat (2 ^ ((p + i) % 8)))) _ (by omega) (by simpa using hql) (by simp) (by simpa using hbl) h3 ?_ (fun w b' h' st => hk w b' h' (((Step.refl h [q] (by simpa using hql)).put (by simp) _).trans st))
        rw [leN_flip b' _ x hx _ (Nat.mod_lt _ (by omega)), hle, Nat.xor_assoc]
        have e10 : 8 * ((p + i) / 8) + (p + i) % 8 = p + i := by omega
        rw [e10, mul_xor]
      · have c3 : decide (((p + i : Nat) : Int) < ((8 * b.length : Nat) : Int)) = false := decide_eq_false (by omega)
        simp only [c3, condA_false]
        exact hno
    · have c2 : (((t / 2 ^ i % 2 : Nat) : Int) == 1) = false := by
        have : t / 2 ^ i % 2 = 0 := by omega
        rw [this]; rfl
      simp only [c2, guardA_ft, guardA_undef, pickA_false, condA_false]
      exact hno
theorem CodecTurned_spec {w0 : World} {h : Hp} (o : Turning) (ho : dTurning.ok o) (hl : o.s.length ≤ 1048576) : ACalls prog w0 n_deduplaw02_CodecTurned [.agg o.e.toArray] h fun v h' => v = .bool true := by
  obtain ⟨k, b, at_, t⟩ := o
  obtain ⟨hk, hat, ht⟩ := ho
  simp only at hk hat ht hl
  refine ACalls.of_fit (by simp) fun f => c_deduplaw02_CodecTurned (by simp) ?_
  have hfb := f.base
  have hbx : (h.new [.int .u8 k, .string (str b), .int .i64 at_, .int .u32 t] 4).blk h.next = some [.int .u8 k, .string (str b), .int .i64 at_, .int .u32 t] := by simp
  simp only [s_deduplaw02_CodecTurned, boxA_agg, Turning.e, List.toList_toArray, fpureQ_addA, faddA_ptr, addr_add, Nat.zero_add, freadQ_loadA, fpureQ_k, fendA]
  generalize h.new [.int .u8 k, .string (str b), .int .i64 at_, .int .u32 t] 4 = h1 at hbx ⊢
  refine loadA_at hfb hbx (by rfl) ?_
  refine loadA_at hfb hbx (by rfl) ?_
  refine loadA_at hfb hbx (by rfl) ?_
  refine loadA_at hfb hbx (by rfl) ?_
  refine callA_of (Frame_spec k hk b (by omega)) fun v h2 ⟨e, s2⟩ f2 => ?_
  subst e
  rw [if_neg (by omega)]
  simp only [extA_tuple, List.getElem?_toArray, List.getElem?_cons_zero, List.getElem?_cons_succ, pureA_some]
  refine callA_of awake02_spec fun v h3 ⟨e, s3⟩ f3 => ?_
  subst e
  have c0 : decide ((b.length : Int) ≤ 1048576) = true := decide_eq_true (by omega)
  simp only [unA_not, Bool.not_true, pureA_some, guardA_ff, binA_eql, beq_self_eq_true, lenStr_string, str_size, binA_leq, c0, binBoolA_neq, pickA_false, condA_false, binA_neq, bne_self_eq_false]
  by_cases hz : b.length = 0
  · have cz : ((b.length : Int) == 0) = true := by rw [hz]; rfl
    simp only [cz, condA_true, retA_iff, oneOf_one]
    simp
  have cz : ((b.length : Int) == 0) = false := by rw [beq_eq_false_iff_ne]; omega
  have e8 : IntKind.i64.wrap (8 * (b.length : Int)) = ((8 * b.length : Nat) : Int) := by rw [IntWalk.i64_in _ (by omega)]; simp
  simp only [cz, condA_false, binA_mul, e8, pureA_some]
  rw [binA_rem .i64 at_ ((8 * b.length : Nat) : Int) (by omega)]
  have hmod := Int.emod_lt_of_pos at_ (show (0 : Int) < ((8 * b.length : Nat) : Int) by omega)
  have hmod0 := Int.emod_nonneg at_ (show ((8 * b.length : Nat) : Int) ≠ 0 by omega)
  have htm : -((8 * b.length : Nat) : Int) < at_.tmod ((8 * b.length : Nat) : Int) ∧ at_.tmod ((8 * b.length : Nat) : Int) < ((8 * b.length : Nat) : Int) := by
    have h1 := Int.tmod_lt_of_pos at_ (show (0 : Int) < ((8 * b.length : Nat) : Int) by omega)
    have h2 := Int.lt_tmod_of_pos at_ (show (0 : Int) < ((8 * b.length : Nat) : Int) by omega)
    exact ⟨h2, h1⟩
  generalize at_.tmod ((8 * b.length : Nat) : Int) = place at htm ⊢
  simp only [pureA_some, binA_lss]
  have fin : ∀ p : Nat, p < 8 * b.length → s2bA (.string (str (frame k b))) (fun v61 => deduplaw02_CodecTurned_E1 prog w0 (fun y4_63 y10_64 y11_65 =>
       b2sA w0 y10_64 fun v94_66 =>
       callA prog w0 n_codec_Unframe [v94_66] fun v95_67 =>
       pureA (extA v95_67 0) fun v96_68 =>
       pureA (extA v95_67 1) fun v97_69 =>
       pureA (extA v95_67 2) fun v98_70 =>
       pureA (extA v95_67 3) fun v99_71 =>
       condA y11_65 (
       pureA (binA .eql v99_71 (.int .i64 23)) fun v102_72 =>
       guardA v102_72 true (fun K => K v97_69) fun v104_73 =>
       guardA v102_72 true (pureA (binA .eql v104_73 (.string .empty))) fun v105_74 =>
       pickA v102_72 v105_74 (.bool false) fun v106_75 =>
       retA [v106_75] fun v h' => v = .bool true) (
       pureA (binA .eql v99_71 (.int .i64 0)) fun v108_76 =>
       guardA v108_76 true (fun K => K v97_69) fun v110_77 =>
       guardA v108_76 true (fun K => K y4_63) fun v111_78 =>
       guardA v108_76 true (pureA (binA .eql v110_77 v111_78)) fun v112_79 =>
       pickA v108_76 v112_79 (.bool false) fun v113_80 =>
       retA [v113_80] fun v h' => v = .bool true)) (.string (str b)) (.int .u32 (t : Int)) (.int .i64 (p : Int)) v61 (.bool false) (.int .i64 0)) h3 := by
    intro p hp
    have hfl := frame_length k b
    rw [s2bA_iff, str_size, str_data, bvs_eq, hfl]
    refine ⟨by omega, 33, ?_⟩
    have hc := crcOf_lt (frame0 k b)
    have hloop := turn_loop (w0 := w0) (t := t) (k := k) (c := crcOf (frame0 k b)) (p := p) (q := h3.next) (b := b) hl hp ht f3.base 32 0 0 b (h3.new (bvs (frame k b)) 1) (by omega) (by simp) (by simp [frame]) rfl (by simp) (by simp) (k0 := fun y4_63 y10_64 y11_65 =>
       b2sA w0 y10_64 fun v94_66 =>
       callA prog w0 n_codec_Unframe [v94_66] fun v95_67 =>
       pureA (extA v95_67 0) fun v96_68 =>
       pureA (extA v95_67 1) fun v97_69 =>
       pureA (extA v95_67 2) fun v98_70 =>
       pureA (extA v95_67 3) fun v99_71 =>
       condA y11_65 (
       pureA (binA .eql v99_71 (.int .i64 23)) fun v102_72 =>
       guardA v102_72 true (fun K => K v97_69) fun v104_73 =>
       guardA v102_72 true (pureA (binA .eql v104_73 (.string .empty))) fun v105_74 =>
       pickA v102_72 v105_74 (.bool false) fun v106_75 =>
       retA [v106_75] fun v h' => v = .bool true) (
       pureA (binA .eql v99_71 (.int .i64 0)) fun v108_76 =>
       guardA v108_76 true (fun K => K v97_69) fun v110_77 =>
       guardA v108_76 true (fun K => K y4_63) fun v111_78 =>
       guardA v108_76 true (pureA (binA .eql v110_77 v111_78)) fun v112_79 =>
       pickA v108_76 v112_79 (.bool false) fun v113_80 =>
       retA [v113_80] fun v h' => v = .bool true)) (fun w b' h4 st hbk hbl hw hle => ?_)
    · exact hloop
    · have hlen : (frame0 k b' ++ be 4 (crcOf (frame0 k b))).length = 12 + b.length := by simp [hbl]; omega
      refine b2sA_of (l := frame0 k b' ++ be 4 (crcOf (frame0 k b))) (src_whole f3.base hbk (by rw [bvs_length, hlen, Nat.mul_one])) ?_
      refine callA_of (Unframe_spec _ (by omega)) fun v h5 ⟨e, s5⟩ f5 => ?_
      subst e
      rw [unf_turn k hk b' (by omega) _ hc]
      by_cases hw0 : w = 0
      · subst hw0
        have hbb : b' = b := leN_inj _ _ hbl (by rw [hle]; simp)
        subst hbb
        simp only [if_true, unfV, extA_tuple, List.getElem?_toArray, List.getElem?_cons_zero, List.getElem?_cons_succ, pureA_some, ne_eq, not_true_eq_false, decide_false, condA_false, binA_eql, beq_self_eq_true, guardA_tt, binA_streql, decide_true, pickA_true, retA_iff, oneOf_one]
        simp
      · have hne : ¬ crcOf (frame0 k b') = crcOf (frame0 k b) := by
          rw [frame0_hd, frame0_hd, hbl]
          exact fun e => hw0 (crc_tells hbl (by omega) hle hw e)
        simp only [if_neg hne, unfV, extA_tuple, List.getElem?_toArray, List.getElem?_cons_zero, List.getElem?_cons_succ, pureA_some, ne_eq, hw0, not_false_eq_true, decide_true, condA_true, binA_eql, beq_self_eq_true, guardA_tt, ← str_nil, binA_streql, pickA_true, retA_iff, oneOf_one]
        simp
  by_cases hneg : place < 0
  · have c1 : decide (place < 0) = true := decide_eq_true hneg
    obtain ⟨p, hp⟩ := Int.eq_ofNat_of_zero_le (show 0 ≤ place + ((8 * b.length : Nat) : Int) by omega)
    have e9 : IntKind.i64.wrap (place + ((8 * b.length : Nat) : Int)) = (p : Int) := by rw [IntWalk.i64_in _ (by omega), hp]
    simp only [c1, condA_true, pureA_some, binA_mul, e8, binA_add, e9]
    have hp' : place + ((8 * b.length : Nat) : Int) = (p : Int) := hp
    exact fin p (by omega)
  · have c1 : decide (place < 0) = false := decide_eq_false hneg
    obtain ⟨p, rfl⟩ := Int.eq_ofNat_of_zero_le (show 0 ≤ place by omega)
    simp only [c1, condA_false]
    exact fin p (by omega)
end Go.Proofs.Ytilofpnhpeammaa.Ah
