/- The document's slots; both chunks. -/
import Derived.Test.YtfhamcobfpmgbaaPb
set_option linter.unusedVariables false
set_option linter.unusedSimpArgs false
namespace Go.Proofs.Ytfhamcobfpmgbaa.Ah
open Go

section
variable {w0 : World} {h : Hp}
theorem rslot_spec {x : Value} {b : List UInt8} (v : Bs w0 h x b) (hb : b.length ≤ 1000000000) {at_ en : Nat} (hat : at_ ≤ 4611686018427387904) (hen : en ≤ b.length) :
    ACalls prog w0 n_dedupref13_slot [x, .int .i64 at_, .int .i64 en] h fun r h' => (∃ m : Nat, r = .tuple #[.int .i64 (((slotOf b at_ en).getD m : Nat) : Int), .bool (slotOf b at_ en).isSome]) ∧ Step h h' [] [] := by
  refine ACalls.of_fit (by simpa using v.junk) fun f => c_dedupref13_slot (by simpa using v.junk) ?_
  have e3 : IntKind.i64.wrap ((at_ : Int) + 8) = ((at_ + 8 : Nat) : Int) := by rw [IntWalk.i64_in _ (by omega)]; simp
  have e4 : IntKind.i64.wrap ((at_ : Int) + 4) = ((at_ + 4 : Nat) : Int) := by rw [IntWalk.i64_in _ (by omega)]; simp
  simp only [s_dedupref13_slot, lenSl_slice, lenStr_string, str_size, fpureA_some, fnilA_ptr, faddA_ptr, addr_add, Nat.zero_add, Nat.add_zero, fpureQ_k, fpureQ_nilA, fpureQ_addA, fpureQ_pureA, fpureQ_guardA, fpureQ_idxSlA, fpureQ_pickA, freadQ_loadA, freadQ_loadNA, freadQ_b2sA, freadQ_guardA, freadQ_slSlA, freadQ_k, fendA, fallA_one, fstillA_nil, fguardA_tt, fguardA_ff, fguardA_tf, fguardA_ft, fguardA_undef, fpickA_true, fpickA_false, fcondA_true, fcondA_false, binA_add, binA_sub, binA_mul, binA_eql, binA_neq, binA_lss, binA_leq, binA_gtr, binA_geq, unA_not, Bool.not_true, Bool.not_false, convA_int, extA_tuple, List.getElem?_toArray, List.getElem?_cons_zero, List.getElem?_cons_succ, e3, e4]
  by_cases hN : en < at_ + 8
  · have c2 : decide ((en : Int) < ((at_ + 8 : Nat) : Int)) = true := decide_eq_true (by omega)
    have e2 : slotOf b at_ en = none := by unfold slotOf; rw [if_pos hN]
    simp only [c2, lenSl_slice, lenStr_string, str_size, fpureA_some, fnilA_ptr, faddA_ptr, addr_add, Nat.zero_add, Nat.add_zero, fpureQ_k, fpureQ_nilA, fpureQ_addA, fpureQ_pureA, fpureQ_guardA, fpureQ_idxSlA, fpureQ_pickA, freadQ_loadA, freadQ_loadNA, freadQ_b2sA, freadQ_guardA, freadQ_slSlA, freadQ_k, fendA, fallA_one, fstillA_nil, fguardA_tt, fguardA_ff, fguardA_tf, fguardA_ft, fguardA_undef, fpickA_true, fpickA_false, fcondA_true, fcondA_false, binA_add, binA_sub, binA_mul, binA_eql, binA_neq, binA_lss, binA_leq, binA_gtr, binA_geq, unA_not, Bool.not_true, Bool.not_false, convA_int, extA_tuple, List.getElem?_toArray, List.getElem?_cons_zero, List.getElem?_cons_succ, e2, retA_iff, oneOf_two]
    exact ⟨by simp, ⟨0, rfl⟩, .refl _ _ (by simp)⟩
  have c2 : decide ((en : Int) < ((at_ + 8 : Nat) : Int)) = false := decide_eq_false (by omega)
  simp only [c2, lenSl_slice, lenStr_string, str_size, fpureA_some, fnilA_ptr, faddA_ptr, addr_add, Nat.zero_add, Nat.add_zero, fpureQ_k, fpureQ_nilA, fpureQ_addA, fpureQ_pureA, fpureQ_guardA, fpureQ_idxSlA, fpureQ_pickA, freadQ_loadA, freadQ_loadNA, freadQ_b2sA, freadQ_guardA, freadQ_slSlA, freadQ_k, fendA, fallA_one, fstillA_nil, fguardA_tt, fguardA_ff, fguardA_tf, fguardA_ft, fguardA_undef, fpickA_true, fpickA_false, fcondA_true, fcondA_false, binA_add, binA_sub, binA_mul, binA_eql, binA_neq, binA_lss, binA_leq, binA_gtr, binA_geq, unA_not, Bool.not_true, Bool.not_false, convA_int, extA_tuple, List.getElem?_toArray, List.getElem?_cons_zero, List.getElem?_cons_succ]
  refine v.cut boundA_nat boundA_nat (by omega) (by omega) fun x1 hc1 hx1 y1 => ?_
  rw [cut_eq] at y1
  refine callA_of (rnumber_spec y1 (by simp; omega)) fun vn h1 ⟨e, e'⟩ f1 => ?_
  subst e e'
  obtain ⟨n, hn⟩ : ∃ n, n = rdn ((b.drop at_).take 4) := ⟨_, rfl⟩
  have hnl : n < 4294967296 := by
    have h4 : ((b.drop at_).take 4).length ≤ 4 := by simp; omega
    have := rdn_lt ((b.drop at_).take 4) 0 0 (by simp)
    have h5 : 256 ^ (0 + ((b.drop at_).take 4).length) ≤ 256 ^ 4 := Nat.pow_le_pow_right (by omega) (by omega)
    rw [hn]
    exact Nat.lt_of_lt_of_le this h5
  have e5 : IntKind.i64.wrap ((en : Int) - (at_ : Int)) = ((en - at_ : Nat) : Int) := by rw [IntWalk.i64_in _ (by omega)]; omega
  have e6 : IntKind.i64.wrap (((en - at_ : Nat) : Int) - 8) = ((en - at_ - 8 : Nat) : Int) := by rw [IntWalk.i64_in _ (by omega)]; omega
  simp only [← hn, lenSl_slice, lenStr_string, str_size, fpureA_some, fnilA_ptr, faddA_ptr, addr_add, Nat.zero_add, Nat.add_zero, fpureQ_k, fpureQ_nilA, fpureQ_addA, fpureQ_pureA, fpureQ_guardA, fpureQ_idxSlA, fpureQ_pickA, freadQ_loadA, freadQ_loadNA, freadQ_b2sA, freadQ_guardA, freadQ_slSlA, freadQ_k, fendA, fallA_one, fstillA_nil, fguardA_tt, fguardA_ff, fguardA_tf, fguardA_ft, fguardA_undef, fpickA_true, fpickA_false, fcondA_true, fcondA_false, binA_add, binA_sub, binA_mul, binA_eql, binA_neq, binA_lss, binA_leq, binA_gtr, binA_geq, unA_not, Bool.not_true, Bool.not_false, convA_int, extA_tuple, List.getElem?_toArray, List.getElem?_cons_zero, List.getElem?_cons_succ]
  by_cases h2' : n < 1
  · have c3 : decide ((n : Int) < 1) = true := decide_eq_true (by omega)
    have e2 : slotOf b at_ en = none := by unfold slotOf; rw [if_neg hN, ← hn, if_pos (.inl h2')]
    simp only [c3, lenSl_slice, lenStr_string, str_size, fpureA_some, fnilA_ptr, faddA_ptr, addr_add, Nat.zero_add, Nat.add_zero, fpureQ_k, fpureQ_nilA, fpureQ_addA, fpureQ_pureA, fpureQ_guardA, fpureQ_idxSlA, fpureQ_pickA, freadQ_loadA, freadQ_loadNA, freadQ_b2sA, freadQ_guardA, freadQ_slSlA, freadQ_k, fendA, fallA_one, fstillA_nil, fguardA_tt, fguardA_ff, fguardA_tf, fguardA_ft, fguardA_undef, fpickA_true, fpickA_false, fcondA_true, fcondA_false, binA_add, binA_sub, binA_mul, binA_eql, binA_neq, binA_lss, binA_leq, binA_gtr, binA_geq, unA_not, Bool.not_true, Bool.not_false, convA_int, extA_tuple, List.getElem?_toArray, List.getElem?_cons_zero, List.getElem?_cons_succ, e2, retA_iff, oneOf_two]
    exact ⟨by simp, ⟨0, rfl⟩, .refl _ _ (by simp)⟩
  have c3 : decide ((n : Int) < 1) = false := decide_eq_false (by omega)
  simp only [c3, lenSl_slice, lenStr_string, str_size, fpureA_some, fnilA_ptr, faddA_ptr, addr_add, Nat.zero_add, Nat.add_zero, fpureQ_k, fpureQ_nilA, fpureQ_addA, fpureQ_pureA, fpureQ_guardA, fpureQ_idxSlA, fpureQ_pickA, freadQ_loadA, freadQ_loadNA, freadQ_b2sA, freadQ_guardA, freadQ_slSlA, freadQ_k, fendA, fallA_one, fstillA_nil, fguardA_tt, fguardA_ff, fguardA_tf, fguardA_ft, fguardA_undef, fpickA_true, fpickA_false, fcondA_true, fcondA_false, binA_add, binA_sub, binA_mul, binA_eql, binA_neq, binA_lss, binA_leq, binA_gtr, binA_geq, unA_not, Bool.not_true, Bool.not_false, convA_int, extA_tuple, List.getElem?_toArray, List.getElem?_cons_zero, List.getElem?_cons_succ, e5, e6]
  by_cases h3' : en < at_ + 8 + n
  · have c4 : decide (((en - at_ - 8 : Nat) : Int) < (n : Int)) = true := decide_eq_true (by omega)
    have e2 : slotOf b at_ en = none := by unfold slotOf; rw [if_neg hN, ← hn, if_pos (.inr h3')]
    simp only [c4, lenSl_slice, lenStr_string, str_size, fpureA_some, fnilA_ptr, faddA_ptr, addr_add, Nat.zero_add, Nat.add_zero, fpureQ_k, fpureQ_nilA, fpureQ_addA, fpureQ_pureA, fpureQ_guardA, fpureQ_idxSlA, fpureQ_pickA, freadQ_loadA, freadQ_loadNA, freadQ_b2sA, freadQ_guardA, freadQ_slSlA, freadQ_k, fendA, fallA_one, fstillA_nil, fguardA_tt, fguardA_ff, fguardA_tf, fguardA_ft, fguardA_undef, fpickA_true, fpickA_false, fcondA_true, fcondA_false, binA_add, binA_sub, binA_mul, binA_eql, binA_neq, binA_lss, binA_leq, binA_gtr, binA_geq, unA_not, Bool.not_true, Bool.not_false, convA_int, extA_tuple, List.getElem?_toArray, List.getElem?_cons_zero, List.getElem?_cons_succ, e2, retA_iff, oneOf_two]
    exact ⟨by simp, ⟨0, rfl⟩, .refl _ _ (by simp)⟩
  have c4 : decide (((en - at_ - 8 : Nat) : Int) < (n : Int)) = false := decide_eq_false (by omega)
  have e7 : IntKind.i64.wrap (((at_ + 8 : Nat) : Int) + (n : Int)) = ((at_ + 8 + n : Nat) : Int) := by rw [IntWalk.i64_in _ (by omega)]; simp
  simp only [c4, lenSl_slice, lenStr_string, str_size, fpureA_some, fnilA_ptr, faddA_ptr, addr_add, Nat.zero_add, Nat.add_zero, fpureQ_k, fpureQ_nilA, fpureQ_addA, fpureQ_pureA, fpureQ_guardA, fpureQ_idxSlA, fpureQ_pickA, freadQ_loadA, freadQ_loadNA, freadQ_b2sA, freadQ_guardA, freadQ_slSlA, freadQ_k, fendA, fallA_one, fstillA_nil, fguardA_tt, fguardA_ff, fguardA_tf, fguardA_ft, fguardA_undef, fpickA_true, fpickA_false, fcondA_true, fcondA_false, binA_add, binA_sub, binA_mul, binA_eql, binA_neq, binA_lss, binA_leq, binA_gtr, binA_geq, unA_not, Bool.not_true, Bool.not_false, convA_int, extA_tuple, List.getElem?_toArray, List.getElem?_cons_zero, List.getElem?_cons_succ, e3, e4, e7]
  refine v.cut boundA_nat boundA_nat (by omega) (by omega) fun x2 hc2 hx2 y2 => ?_
  rw [cut_eq] at y2
  refine v.cut boundA_nat boundA_nat (by omega) (by omega) fun x3 hc3 hx3 y3 => ?_
  rw [cut_eq] at y3
  simp only [bslA_iff, fillA_nil, stillA_iff, allA_cons, allA_one, sameQ_slSlA, sameQ_b2sA]
  have hz : zerosL [(.int .u8 0 : Value)] 0 = [] := rfl
  rw [hz]
  have s1 : Step h1 (h1.new [] 1) [] [h1.next] := (Step.refl h1 [] (by simp)).new _ _
  have v1 : Bs w0 (h1.new [] 1) x b := v.step f1 s1 (by simp)
  refine ⟨⟨v1.cut boundA_nat boundA_nat (by omega) (by omega) fun _ e _ _ => e.trans hc3.symm, v1.cut boundA_nat boundA_nat (by omega) (by omega) fun _ e _ _ => e.trans hc2.symm⟩, ?_⟩
  have g0 : GV w0 (h1.new [] 1) 1 (.slice (some ⟨h1.next, 0, none⟩) 0 0) 0 [] [h1.next] := GV.new f1.base rfl (by decide)
  obtain ⟨a2, k2, hx2'⟩ := y2.slice
  obtain ⟨a3, k3, hx3'⟩ := y3.slice
  have hl2 : ((b.drop at_).take 4).length = 4 := by simp; omega
  have hl3 : ((b.drop (at_ + 8)).take n).length = n := by simp; omega
  refine appA_gv (m := 4) (by have := f1.base; simp; omega) g0 (by rw [hx2', hl2]; rfl) (by rw [← hl2]; exact (y2.step f1 s1 (by simp)).src) (by simp [hl2]) (by omega) (by omega) (by omega) fun x4 h4 S4 g4 s4 => ?_
  have s14 : Step h1 h4 [] S4 := s1.trans s4
  have v4 : Bs w0 h4 x b := v.step f1 s14 (by simp)
  simp only [stillA_iff, allA_cons, allA_one, sameQ_slSlA, sameQ_b2sA]
  refine ⟨v4.cut boundA_nat boundA_nat (by omega) (by omega) fun _ e _ _ => e.trans hc3.symm, ?_⟩
  have b4 : w0.heap.size ≤ h4.next := by have := f1.base; have := s14.next; omega
  refine appA_gv (m := n) b4 g4 (by rw [hx3', hl3]; rfl) (by have := (y3.step f1 s14 (by simp)).src; rw [hl3] at this; exact this) (by simp [hl3]) (by omega) (by omega) (by omega) fun x5 h5 S5 g5 s5 => ?_
  have s15 : Step h1 h5 [] S5 := s14.trans s5
  have v5 : Bs w0 h5 x b := v.step f1 s15 (by simp)
  refine v5.cut boundA_nat boundA_nat (by omega) (by omega) fun x6 hc6 hx6 y6 => ?_
  rw [show at_ + 8 = at_ + 4 + 4 by omega, cut_eq] at y6
  refine y6.b2s ?_
  have g5' : Bs w0 h5 x5 ((b.drop at_).take 4 ++ (b.drop (at_ + 8)).take n) := by
    have := g5.sl
    unfold Bs
    rw [List.length_append, hl2, hl3]
    simpa using this
  refine callA_of (sum_spec g5' (by rw [List.length_append, hl2, hl3]; omega)) fun v7 h7 ⟨S7, g7, s7⟩ f7 => ?_
  simp only [lenSl_slice, lenStr_string, str_size, fpureA_some, fnilA_ptr, faddA_ptr, addr_add, Nat.zero_add, Nat.add_zero, fpureQ_k, fpureQ_nilA, fpureQ_addA, fpureQ_pureA, fpureQ_guardA, fpureQ_idxSlA, fpureQ_pickA, freadQ_loadA, freadQ_loadNA, freadQ_b2sA, freadQ_guardA, freadQ_slSlA, freadQ_k, fendA, fallA_one, fstillA_nil, fguardA_tt, fguardA_ff, fguardA_tf, fguardA_ft, fguardA_undef, fpickA_true, fpickA_false, fcondA_true, fcondA_false, binA_add, binA_sub, binA_mul, binA_eql, binA_neq, binA_lss, binA_leq, binA_gtr, binA_geq, unA_not, Bool.not_true, Bool.not_false, convA_int, extA_tuple, List.getElem?_toArray, List.getElem?_cons_zero, List.getElem?_cons_succ, stillA_iff, allA_cons, allA_one, sameQ_slSlA, sameQ_b2sA]
  have s7' : Step h5 h7 S5 S5 := s7.wide (T := S5) (T' := S5) (by simp) fun b hb => .inr ⟨hb, (g5.lt b hb).2⟩
  have v7' : Bs w0 h7 x b := v.step f1 (s15.trans s7') (by simp)
  have y7 := v7'.cut_sl (lo := at_ + 4) (hi := at_ + 8) (by omega) (by omega)
  rw [← hc6, show at_ + 8 = at_ + 4 + 4 by omega, cut_eq] at y7
  refine ⟨⟨y7.b2s rfl, v7'.cut boundA_nat boundA_nat (by omega) (by omega) fun _ e _ _ => e.trans hc6.symm⟩, ?_⟩
  have hl4 : ((b.drop (at_ + 4)).take 4).length = 4 := by simp; omega
  have g7' : Bs w0 h7 v7 (be 4 (crcOf ((b.drop at_).take 4 ++ (b.drop (at_ + 8)).take n))) := by
    have := g7.sl
    unfold Bs
    rw [be_length]
    exact this
  refine g7'.b2s ?_
  simp only [binA_streql, str_inj, lenSl_slice, lenStr_string, str_size, fpureA_some, fnilA_ptr, faddA_ptr, addr_add, Nat.zero_add, Nat.add_zero, fpureQ_k, fpureQ_nilA, fpureQ_addA, fpureQ_pureA, fpureQ_guardA, fpureQ_idxSlA, fpureQ_pickA, freadQ_loadA, freadQ_loadNA, freadQ_b2sA, freadQ_guardA, freadQ_slSlA, freadQ_k, fendA, fallA_one, fstillA_nil, fguardA_tt, fguardA_ff, fguardA_tf, fguardA_ft, fguardA_undef, fpickA_true, fpickA_false, fcondA_true, fcondA_false, binA_add, binA_sub, binA_mul, binA_eql, binA_neq, binA_lss, binA_leq, binA_gtr, binA_geq, unA_not, Bool.not_true, Bool.not_false, convA_int, extA_tuple, List.getElem?_toArray, List.getElem?_cons_zero, List.getElem?_cons_succ, retA_iff, oneOf_two]
  refine ⟨by simp, ⟨n, ?_⟩, (s15.trans s7').less (by simp)⟩
  have hc := crcOf_lt ((b.drop at_).take 4 ++ (b.drop (at_ + 8)).take n)
  have key : be 4 (crcOf ((b.drop at_).take 4 ++ (b.drop (at_ + 8)).take n)) = (b.drop (at_ + 4)).take 4 ↔ crcOf ((b.drop at_).take 4 ++ (b.drop (at_ + 8)).take n) = rdn ((b.drop (at_ + 4)).take 4) := by
    constructor
    · intro e
      rw [← e, rdn_be, Nat.mod_eq_of_lt hc]
    · intro e
      rw [e]
      have := be_rdn ((b.drop (at_ + 4)).take 4)
      rw [hl4] at this
      exact this
  unfold slotOf
  rw [if_neg hN, ← hn, if_neg (by omega)]
  by_cases hq : crcOf ((b.drop at_).take 4 ++ (b.drop (at_ + 8)).take n) = rdn ((b.drop (at_ + 4)).take 4)
  · rw [if_pos hq, decide_eq_true (key.2 hq)]; rfl
  · rw [if_neg hq, decide_eq_false (fun e => hq (key.1 e))]; rfl
end
end Go.Proofs.Ytfhamcobfpmgbaa.Ah
