/- Slots and chunks in any bytes, the program's and the document's; what is laid into a slice of one's own. -/
import Derived.Test.YtfhamcobfpmgbaaPa
import Derived.Test.YtfhamcobfpmgbaaGlaw13
set_option linter.unusedVariables false
set_option linter.unusedSimpArgs false
namespace Go.Proofs.Ytfhamcobfpmgbaa.Ah
open Go

/-- A slot. -/
def slt (o n : Int) : Value := .agg #[.int .i64 o, .int .i64 n]
section
variable {w0 : World} {h : Hp} {K : Kont}
theorem eqSlot (w0 : World) (a b c d : Int) : eqStA prog .eql 24 (.agg #[.int .i64 a, .int .i64 b]) (.agg #[.int .i64 c, .int .i64 d]) = fun K => K (.bool (a == c && b == d)) := by
  have u3 := Try.underlying3
  have a3 := Try.isAgg3
  have z3 := Try.sizeOf3
  have hS : prog.underlying 24 = some (.struct (prog.fieldsOf 24)) := by kernel_rfl
  have hp : prog.stoodInHeld 24 = false := by kernel_rfl
  have key : ∀ w, (binOp .eql 24 (.agg #[.int .i64 a, .int .i64 b]) (.agg #[.int .i64 c, .int .i64 d])).run prog w = .ok (.bool (a == c && b == d)) w := by
    intro w
    rw [run_eql_struct, show (10000 : Nat) = 9999 + 1 from rfl, run_equalIn_agg w 9999 24 _ _ hS hp]
    simp only [Program.fieldsOf, Try.underlying24]
    go_simp
    by_cases h1 : a = c <;> by_cases h2 : b = d <;> simp [h1, h2]
  funext K h
  refine propext ⟨?_, fun hk => ?_⟩
  · rintro ⟨xs, ys, q, e1, e2, -, -, e3, -, hk⟩
    cases e1
    cases e2
    have := (e3 w0).symm.trans (key w0)
    simp at this
    subst this
    exact hk
  · refine ⟨_, _, _, rfl, rfl, fun v hv => ?_, fun v hv => ?_, key, fun w => run_eqGuard_agg w _ _ _ _ _ _ (by kernel_rfl), hk⟩
    · simp at hv; rcases hv with rfl | rfl <;> rfl
    · simp at hv; rcases hv with rfl | rfl <;> rfl
theorem neSlot (w0 : World) (a b c d : Int) : eqStA prog .neq 24 (.agg #[.int .i64 a, .int .i64 b]) (.agg #[.int .i64 c, .int .i64 d]) = fun K => K (.bool (!(a == c && b == d))) := by
  have u3 := Try.underlying3
  have a3 := Try.isAgg3
  have z3 := Try.sizeOf3
  have hS : prog.underlying 24 = some (.struct (prog.fieldsOf 24)) := by kernel_rfl
  have hp : prog.stoodInHeld 24 = false := by kernel_rfl
  have key : ∀ w, (binOp .neq 24 (.agg #[.int .i64 a, .int .i64 b]) (.agg #[.int .i64 c, .int .i64 d])).run prog w = .ok (.bool (!(a == c && b == d))) w := by
    intro w
    rw [run_neq_struct, show (10000 : Nat) = 9999 + 1 from rfl, run_equalIn_agg w 9999 24 _ _ hS hp]
    simp only [Program.fieldsOf, Try.underlying24]
    go_simp
    by_cases h1 : a = c <;> by_cases h2 : b = d <;> simp [h1, h2]
  funext K h
  refine propext ⟨?_, fun hk => ?_⟩
  · rintro ⟨xs, ys, q, e1, e2, -, -, e3, -, hk⟩
    cases e1
    cases e2
    have := (e3 w0).symm.trans (key w0)
    simp at this
    subst this
    simpa using hk
  · refine ⟨_, _, _, rfl, rfl, fun v hv => ?_, fun v hv => ?_, key, fun w => run_eqGuard_agg w _ _ _ _ _ _ (by kernel_rfl), hk⟩
    · simp at hv; rcases hv with rfl | rfl <;> rfl
    · simp at hv; rcases hv with rfl | rfl <;> rfl
/-- A struct of two cells is put into a variable and told. -/
theorem store2 {q : Nat} {cs : List Value} {a b : Value} (hq : w0.heap.size ≤ q) (hb : h.blk q = some cs) (hl : cs.length = 2) (hk : K undef (h.put q [a, b])) :
    storeNA w0 (.pointer (some ⟨q, 0, none⟩)) (.agg #[a, b]) 2 K h := by
  refine ⟨q, 0, cs, #[a, b], rfl, hq, rfl, rfl, hb, by omega, ?_⟩
  rw [splice_all _ _ (by simp [hl])]
  exact hk
theorem ret2 {q : Nat} {cs : List Value} {a b t : Value} {R : Kont} (hq : w0.heap.size ≤ q) (hb : h.blk q = some cs) (hl : cs.length = 2) (ht : t ≠ junk) (hk : R (.tuple #[.agg #[a, b], t]) (h.put q [a, b])) :
    storeNA w0 (.pointer (some ⟨q, 0, none⟩)) (.agg #[a, b]) 2 (fun _ => loadNA w0 (.pointer (some ⟨q, 0, none⟩)) 2 fun v => retA [v, t] R) h := by
  refine store2 hq hb hl (loadNA_whole (cs := [a, b]) hq (by simp) rfl ?_)
  simp only [retA_iff, oneOf_two]
  exact ⟨by simp [ht], hk⟩
end
/-- How long the chunk is whose slot begins at a place, ahead of an end. -/
def slotOf (b : List UInt8) (at_ en : Nat) : Option Nat :=
  if en < at_ + 8 then none
  else if rdn ((b.drop at_).take 4) < 1 ∨ en < at_ + 8 + rdn ((b.drop at_).take 4) then none
  else if crcOf ((b.drop at_).take 4 ++ (b.drop (at_ + 8)).take (rdn ((b.drop at_).take 4))) = rdn ((b.drop (at_ + 4)).take 4) then some (rdn ((b.drop at_).take 4)) else none
theorem slotOf_some {b : List UInt8} {at_ en n : Nat} (h : slotOf b at_ en = some n) : 1 ≤ n ∧ at_ + 8 + n ≤ en ∧ n = rdn ((b.drop at_).take 4) := by
  unfold slotOf at h
  split at h
  · simp at h
  · split at h
    · simp at h
    · split at h
      · simp at h; omega
      · simp at h
theorem cut_eq (b : List UInt8) (lo n : Nat) : (b.take (lo + n)).drop lo = (b.drop lo).take n := by rw [List.drop_take]; congr 1; omega
def slotV (o : Nat) : Option Nat → Value
  | some n => .tuple #[slt (o : Int) n, .bool true]
  | none => .tuple #[slt 0 0, .bool false]
section
variable {w0 : World} {h : Hp}
theorem slotAt_spec {x : Value} {b : List UInt8} (v : Bs w0 h x b) (hb : b.length ≤ 1000000000) {at_ en : Nat} (hat : at_ ≤ 9223372036854775807) (hen : en ≤ b.length) :
    ACalls prog w0 n_pack_slotAt [x, .int .i64 at_, .int .i64 en] h fun r h' => r = slotV (at_ + 8) (slotOf b at_ en) ∧ Step h h' [] [] := by
  refine ACalls.of_fit (by simpa using v.junk) fun f => c_pack_slotAt (by simpa using v.junk) ?_
  have c1 : decide ((at_ : Int) < 0) = false := decide_eq_false (by omega)
  have e1 : IntKind.i64.wrap ((en : Int) - 8) = (en : Int) - 8 := IntWalk.i64_in _ (by omega)
  have s0 : Step h (h.new [.int .i64 0, .int .i64 0] 2) [] [h.next] := (Step.refl h [] (by simp)).new _ _
  have fin : ∀ {h' : Hp} {S : List Nat} {cs : List Value}, Step (h.new [.int .i64 0, .int .i64 0] 2) h' [h.next] S → h.next ∈ S → Step h (h'.put h.next cs) [] [] := by
    intro h' S cs st hm
    exact ((s0.trans st).put hm cs).less (by simp)
  simp only [s_pack_slotAt, newA_iff, lenSl_slice, lenStr_string, str_size, fpureA_some, fnilA_ptr, faddA_ptr, addr_add, Nat.zero_add, Nat.add_zero, fpureQ_k, fpureQ_nilA, fpureQ_addA, fpureQ_pureA, fpureQ_guardA, fpureQ_idxSlA, fpureQ_pickA, freadQ_loadA, freadQ_loadNA, freadQ_b2sA, freadQ_guardA, freadQ_slSlA, freadQ_k, fendA, fallA_one, fstillA_nil, fguardA_tt, fguardA_ff, fguardA_tf, fguardA_ft, fguardA_undef, fpickA_true, fpickA_false, fcondA_true, fcondA_false, binA_add, binA_sub, binA_mul, binA_eql, binA_neq, binA_lss, binA_leq, binA_gtr, binA_geq, unA_not, Bool.not_true, Bool.not_false, convA_int, extA_tuple, List.getElem?_toArray, List.getElem?_cons_zero, List.getElem?_cons_succ, c1, e1]
  refine ⟨by simp, ?_⟩
  by_cases hN : en < at_ + 8
  · have c2 : decide ((en : Int) - 8 < (at_ : Int)) = true := decide_eq_true (by omega)
    have e2 : slotOf b at_ en = none := by unfold slotOf; rw [if_pos hN]
    simp only [c2, lenSl_slice, lenStr_string, str_size, fpureA_some, fnilA_ptr, faddA_ptr, addr_add, Nat.zero_add, Nat.add_zero, fpureQ_k, fpureQ_nilA, fpureQ_addA, fpureQ_pureA, fpureQ_guardA, fpureQ_idxSlA, fpureQ_pickA, freadQ_loadA, freadQ_loadNA, freadQ_b2sA, freadQ_guardA, freadQ_slSlA, freadQ_k, fendA, fallA_one, fstillA_nil, fguardA_tt, fguardA_ff, fguardA_tf, fguardA_ft, fguardA_undef, fpickA_true, fpickA_false, fcondA_true, fcondA_false, binA_add, binA_sub, binA_mul, binA_eql, binA_neq, binA_lss, binA_leq, binA_gtr, binA_geq, unA_not, Bool.not_true, Bool.not_false, convA_int, extA_tuple, List.getElem?_toArray, List.getElem?_cons_zero, List.getElem?_cons_succ, buildA_iff, fillA_nil, e2]
    refine ret2 f.base (by simp; rfl) rfl (by simp) ⟨rfl, fin (.refl _ _ (by simp)) (by simp)⟩
  · have c2 : decide ((en : Int) - 8 < (at_ : Int)) = false := decide_eq_false (by omega)
    have e3 : IntKind.i64.wrap ((at_ : Int) + 8) = ((at_ + 8 : Nat) : Int) := by rw [IntWalk.i64_in _ (by omega)]; simp
    have e4 : IntKind.i64.wrap ((at_ : Int) + 4) = ((at_ + 4 : Nat) : Int) := by rw [IntWalk.i64_in _ (by omega)]; simp
    simp only [c2, lenSl_slice, lenStr_string, str_size, fpureA_some, fnilA_ptr, faddA_ptr, addr_add, Nat.zero_add, Nat.add_zero, fpureQ_k, fpureQ_nilA, fpureQ_addA, fpureQ_pureA, fpureQ_guardA, fpureQ_idxSlA, fpureQ_pickA, freadQ_loadA, freadQ_loadNA, freadQ_b2sA, freadQ_guardA, freadQ_slSlA, freadQ_k, fendA, fallA_one, fstillA_nil, fguardA_tt, fguardA_ff, fguardA_tf, fguardA_ft, fguardA_undef, fpickA_true, fpickA_false, fcondA_true, fcondA_false, binA_add, binA_sub, binA_mul, binA_eql, binA_neq, binA_lss, binA_leq, binA_gtr, binA_geq, unA_not, Bool.not_true, Bool.not_false, convA_int, extA_tuple, List.getElem?_toArray, List.getElem?_cons_zero, List.getElem?_cons_succ, e3, e4]
    have v1 : Bs w0 (h.new [.int .i64 0, .int .i64 0] 2) x b := v.step f s0 (by simp)
    refine v1.cut boundA_nat boundA_nat (by omega) (by omega) fun x1 _ hx1 y1 => ?_
    rw [cut_eq] at y1
    refine y1.b2s ?_
    refine callA_of (NewReader_spec _ (by simp; omega)) fun vr h1 ⟨e, w1, s1⟩ f1 => ?_
    subst e
    have hl8 : ((b.drop at_).take 8).length = 8 := by simp; omega
    have r1 : ((⟨(b.drop at_).take 8, 0⟩ : RS).raw 4) = ((b.drop at_).take 4, ⟨(b.drop (at_ + 4)).take 4, 0⟩) := by
      unfold RS.raw
      rw [if_neg (by simp), if_neg (by omega), if_neg (by simp only [hl8]; omega)]
      rw [show (4 : Int).toNat = 4 from rfl]
      simp only [List.take_take, Prod.mk.injEq, RS.mk.injEq, and_true]
      refine ⟨rfl, ?_⟩
      rw [List.drop_take, List.drop_drop]
    have r2 : ((⟨(b.drop (at_ + 4)).take 4, 0⟩ : RS).raw 4).1 = (b.drop (at_ + 4)).take 4 := by
      have hl4 : ((b.drop (at_ + 4)).take 4).length = 4 := by simp; omega
      unfold RS.raw
      rw [if_neg (by simp), if_neg (by omega), if_neg (by simp only [hl4]; omega)]
      exact List.take_of_length_le (Nat.le_of_eq hl4)
    refine callA_of (RU32_spec w1) fun vn h2 ⟨e, w2, s2⟩ f2 => ?_
    subst e
    rw [r1] at w2 ⊢
    obtain ⟨n, hn⟩ : ∃ n, n = rdn ((b.drop at_).take 4) := ⟨_, rfl⟩
    have hnl : n < 4294967296 := by
      rw [hn]
      have := rdn_raw ⟨(b.drop at_).take 8, 0⟩ 4
      rw [show ((4 : Nat) : Int) = 4 from rfl, r1] at this
      exact this
    have e5 : IntKind.i64.wrap (n : Int) = (n : Int) := IntWalk.i64_in _ (by omega)
    simp only [← hn, lenSl_slice, lenStr_string, str_size, fpureA_some, fnilA_ptr, faddA_ptr, addr_add, Nat.zero_add, Nat.add_zero, fpureQ_k, fpureQ_nilA, fpureQ_addA, fpureQ_pureA, fpureQ_guardA, fpureQ_idxSlA, fpureQ_pickA, freadQ_loadA, freadQ_loadNA, freadQ_b2sA, freadQ_guardA, freadQ_slSlA, freadQ_k, fendA, fallA_one, fstillA_nil, fguardA_tt, fguardA_ff, fguardA_tf, fguardA_ft, fguardA_undef, fpickA_true, fpickA_false, fcondA_true, fcondA_false, binA_add, binA_sub, binA_mul, binA_eql, binA_neq, binA_lss, binA_leq, binA_gtr, binA_geq, unA_not, Bool.not_true, Bool.not_false, convA_int, extA_tuple, List.getElem?_toArray, List.getElem?_cons_zero, List.getElem?_cons_succ, e5]
    refine callA_of (RU32_spec w2) fun vm h3 ⟨e, w3, s3⟩ f3 => ?_
    subst e
    rw [r2]
    have e6 : IntKind.i64.wrap ((en : Int) - ((at_ + 8 : Nat) : Int)) = ((en - (at_ + 8) : Nat) : Int) := by rw [IntWalk.i64_in _ (by omega)]; omega
    have st : Step (h.new [.int .i64 0, .int .i64 0] 2) h3 [h.next] [h.next] := (((s1.trans s2).trans s3).wide (T := [h.next]) (T' := [h.next]) (by simp) (fun b hb => by simp at hb; subst hb; exact .inr ⟨by simp, by simp⟩))
    have hq : h3.blk h.next = some [.int .i64 0, .int .i64 0] := by
      rw [(((s1.trans s2).trans s3).keep h.next (by simp) (by simp)).1]; simp
    by_cases h2' : n < 1
    · have c3 : decide ((n : Int) < 1) = true := decide_eq_true (by omega)
      have e2 : slotOf b at_ en = none := by unfold slotOf; rw [if_neg hN, ← hn, if_pos (.inl h2')]
      simp only [c3, lenSl_slice, lenStr_string, str_size, fpureA_some, fnilA_ptr, faddA_ptr, addr_add, Nat.zero_add, Nat.add_zero, fpureQ_k, fpureQ_nilA, fpureQ_addA, fpureQ_pureA, fpureQ_guardA, fpureQ_idxSlA, fpureQ_pickA, freadQ_loadA, freadQ_loadNA, freadQ_b2sA, freadQ_guardA, freadQ_slSlA, freadQ_k, fendA, fallA_one, fstillA_nil, fguardA_tt, fguardA_ff, fguardA_tf, fguardA_ft, fguardA_undef, fpickA_true, fpickA_false, fcondA_true, fcondA_false, binA_add, binA_sub, binA_mul, binA_eql, binA_neq, binA_lss, binA_leq, binA_gtr, binA_geq, unA_not, Bool.not_true, Bool.not_false, convA_int, extA_tuple, List.getElem?_toArray, List.getElem?_cons_zero, List.getElem?_cons_succ, buildA_iff, fillA_nil, e2]
      exact ret2 f.base hq rfl (by simp) ⟨rfl, fin st (by simp)⟩
    · have c3 : decide ((n : Int) < 1) = false := decide_eq_false (by omega)
      simp only [c3, e6, lenSl_slice, lenStr_string, str_size, fpureA_some, fnilA_ptr, faddA_ptr, addr_add, Nat.zero_add, Nat.add_zero, fpureQ_k, fpureQ_nilA, fpureQ_addA, fpureQ_pureA, fpureQ_guardA, fpureQ_idxSlA, fpureQ_pickA, freadQ_loadA, freadQ_loadNA, freadQ_b2sA, freadQ_guardA, freadQ_slSlA, freadQ_k, fendA, fallA_one, fstillA_nil, fguardA_tt, fguardA_ff, fguardA_tf, fguardA_ft, fguardA_undef, fpickA_true, fpickA_false, fcondA_true, fcondA_false, binA_add, binA_sub, binA_mul, binA_eql, binA_neq, binA_lss, binA_leq, binA_gtr, binA_geq, unA_not, Bool.not_true, Bool.not_false, convA_int, extA_tuple, List.getElem?_toArray, List.getElem?_cons_zero, List.getElem?_cons_succ]
      by_cases h3' : en < at_ + 8 + n
      · have c4 : decide (((en - (at_ + 8) : Nat) : Int) < (n : Int)) = true := decide_eq_true (by omega)
        have e2 : slotOf b at_ en = none := by unfold slotOf; rw [if_neg hN, ← hn, if_pos (.inr h3')]
        simp only [c4, e6, lenSl_slice, lenStr_string, str_size, fpureA_some, fnilA_ptr, faddA_ptr, addr_add, Nat.zero_add, Nat.add_zero, fpureQ_k, fpureQ_nilA, fpureQ_addA, fpureQ_pureA, fpureQ_guardA, fpureQ_idxSlA, fpureQ_pickA, freadQ_loadA, freadQ_loadNA, freadQ_b2sA, freadQ_guardA, freadQ_slSlA, freadQ_k, fendA, fallA_one, fstillA_nil, fguardA_tt, fguardA_ff, fguardA_tf, fguardA_ft, fguardA_undef, fpickA_true, fpickA_false, fcondA_true, fcondA_false, binA_add, binA_sub, binA_mul, binA_eql, binA_neq, binA_lss, binA_leq, binA_gtr, binA_geq, unA_not, Bool.not_true, Bool.not_false, convA_int, extA_tuple, List.getElem?_toArray, List.getElem?_cons_zero, List.getElem?_cons_succ, buildA_iff, fillA_nil, e2]
        exact ret2 f.base hq rfl (by simp) ⟨rfl, fin st (by simp)⟩
      · have c4 : decide (((en - (at_ + 8) : Nat) : Int) < (n : Int)) = false := decide_eq_false (by omega)
        have e7 : IntKind.i64.wrap (((at_ + 8 : Nat) : Int) + (n : Int)) = ((at_ + 8 + n : Nat) : Int) := by rw [IntWalk.i64_in _ (by omega)]; simp
        simp only [c4, e6, lenSl_slice, lenStr_string, str_size, fpureA_some, fnilA_ptr, faddA_ptr, addr_add, Nat.zero_add, Nat.add_zero, fpureQ_k, fpureQ_nilA, fpureQ_addA, fpureQ_pureA, fpureQ_guardA, fpureQ_idxSlA, fpureQ_pickA, freadQ_loadA, freadQ_loadNA, freadQ_b2sA, freadQ_guardA, freadQ_slSlA, freadQ_k, fendA, fallA_one, fstillA_nil, fguardA_tt, fguardA_ff, fguardA_tf, fguardA_ft, fguardA_undef, fpickA_true, fpickA_false, fcondA_true, fcondA_false, binA_add, binA_sub, binA_mul, binA_eql, binA_neq, binA_lss, binA_leq, binA_gtr, binA_geq, unA_not, Bool.not_true, Bool.not_false, convA_int, extA_tuple, List.getElem?_toArray, List.getElem?_cons_zero, List.getElem?_cons_succ, e4, e7]
        have v3 : Bs w0 h3 x b := v.step f ((s0.trans st).less (T := []) (by simp)) (by simp)
        refine v3.cut boundA_nat boundA_nat (by omega) (by omega) fun x2 _ hx2 y2 => ?_
        rw [cut_eq] at y2
        refine y2.b2s ?_
        refine v3.cut boundA_nat boundA_nat (by omega) (by omega) fun x3 _ hx3 y3 => ?_
        rw [cut_eq] at y3
        refine y3.b2s ?_
        have ha : binA .add (.string (str ((b.drop at_).take 4))) (.string (str ((b.drop (at_ + 8)).take n))) = some (.string (str ((b.drop at_).take 4 ++ (b.drop (at_ + 8)).take n))) := by
          rw [strA_add _ _ (by simp; omega), str_append]
        simp only [ha, lenSl_slice, lenStr_string, str_size, fpureA_some, fnilA_ptr, faddA_ptr, addr_add, Nat.zero_add, Nat.add_zero, fpureQ_k, fpureQ_nilA, fpureQ_addA, fpureQ_pureA, fpureQ_guardA, fpureQ_idxSlA, fpureQ_pickA, freadQ_loadA, freadQ_loadNA, freadQ_b2sA, freadQ_guardA, freadQ_slSlA, freadQ_k, fendA, fallA_one, fstillA_nil, fguardA_tt, fguardA_ff, fguardA_tf, fguardA_ft, fguardA_undef, fpickA_true, fpickA_false, fcondA_true, fcondA_false, binA_add, binA_sub, binA_mul, binA_eql, binA_neq, binA_lss, binA_leq, binA_gtr, binA_geq, unA_not, Bool.not_true, Bool.not_false, convA_int, extA_tuple, List.getElem?_toArray, List.getElem?_cons_zero, List.getElem?_cons_succ]
        refine callA_of (Crc_spec _ (by simp; omega)) fun vc h4 ⟨e, e4'⟩ f4 => ?_
        subst e e4'
        simp only [lenSl_slice, lenStr_string, str_size, fpureA_some, fnilA_ptr, faddA_ptr, addr_add, Nat.zero_add, Nat.add_zero, fpureQ_k, fpureQ_nilA, fpureQ_addA, fpureQ_pureA, fpureQ_guardA, fpureQ_idxSlA, fpureQ_pickA, freadQ_loadA, freadQ_loadNA, freadQ_b2sA, freadQ_guardA, freadQ_slSlA, freadQ_k, fendA, fallA_one, fstillA_nil, fguardA_tt, fguardA_ff, fguardA_tf, fguardA_ft, fguardA_undef, fpickA_true, fpickA_false, fcondA_true, fcondA_false, binA_add, binA_sub, binA_mul, binA_eql, binA_neq, binA_lss, binA_leq, binA_gtr, binA_geq, unA_not, Bool.not_true, Bool.not_false, convA_int, extA_tuple, List.getElem?_toArray, List.getElem?_cons_zero, List.getElem?_cons_succ]
        by_cases h4' : crcOf ((b.drop at_).take 4 ++ (b.drop (at_ + 8)).take n) = rdn ((b.drop (at_ + 4)).take 4)
        · have c5 : (((crcOf ((b.drop at_).take 4 ++ (b.drop (at_ + 8)).take n) : Nat) : Int) != ((rdn ((b.drop (at_ + 4)).take 4) : Nat) : Int)) = false := by rw [h4']; simp
          have e2 : slotOf b at_ en = some n := by unfold slotOf; rw [if_neg hN, ← hn, if_neg (by omega), if_pos h4']
          simp only [c5, lenSl_slice, lenStr_string, str_size, fpureA_some, fnilA_ptr, faddA_ptr, addr_add, Nat.zero_add, Nat.add_zero, fpureQ_k, fpureQ_nilA, fpureQ_addA, fpureQ_pureA, fpureQ_guardA, fpureQ_idxSlA, fpureQ_pickA, freadQ_loadA, freadQ_loadNA, freadQ_b2sA, freadQ_guardA, freadQ_slSlA, freadQ_k, fendA, fallA_one, fstillA_nil, fguardA_tt, fguardA_ff, fguardA_tf, fguardA_ft, fguardA_undef, fpickA_true, fpickA_false, fcondA_true, fcondA_false, binA_add, binA_sub, binA_mul, binA_eql, binA_neq, binA_lss, binA_leq, binA_gtr, binA_geq, unA_not, Bool.not_true, Bool.not_false, convA_int, extA_tuple, List.getElem?_toArray, List.getElem?_cons_zero, List.getElem?_cons_succ, buildA_iff, fillA_one, fillA_nil, isCell_int, true_and, List.set_cons_zero, List.set_cons_succ, List.length_cons, List.length_nil, e2]
          exact ⟨by omega, by omega, ret2 f.base hq rfl (by simp) ⟨rfl, fin st (by simp)⟩⟩
        · have c5 : (((crcOf ((b.drop at_).take 4 ++ (b.drop (at_ + 8)).take n) : Nat) : Int) != ((rdn ((b.drop (at_ + 4)).take 4) : Nat) : Int)) = true := by
            rw [bne_iff_ne]; intro e; exact h4' (by exact_mod_cast e)
          have e2 : slotOf b at_ en = none := by unfold slotOf; rw [if_neg hN, ← hn, if_neg (by omega), if_neg h4']
          simp only [c5, lenSl_slice, lenStr_string, str_size, fpureA_some, fnilA_ptr, faddA_ptr, addr_add, Nat.zero_add, Nat.add_zero, fpureQ_k, fpureQ_nilA, fpureQ_addA, fpureQ_pureA, fpureQ_guardA, fpureQ_idxSlA, fpureQ_pickA, freadQ_loadA, freadQ_loadNA, freadQ_b2sA, freadQ_guardA, freadQ_slSlA, freadQ_k, fendA, fallA_one, fstillA_nil, fguardA_tt, fguardA_ff, fguardA_tf, fguardA_ft, fguardA_undef, fpickA_true, fpickA_false, fcondA_true, fcondA_false, binA_add, binA_sub, binA_mul, binA_eql, binA_neq, binA_lss, binA_leq, binA_gtr, binA_geq, unA_not, Bool.not_true, Bool.not_false, convA_int, extA_tuple, List.getElem?_toArray, List.getElem?_cons_zero, List.getElem?_cons_succ, buildA_iff, fillA_nil, e2]
          exact ret2 f.base hq rfl (by simp) ⟨rfl, fin st (by simp)⟩
end

section
variable {w0 : World} {h : Hp}
theorem rslot_spec {x : Value} {b : List UInt8} (v : Bs w0 h x b) (hb : b.length ≤ 1000000000) {at_ en : Nat} (hat : at_ ≤ 4611686018427387904) (hen : en ≤ b.length) :
    ACalls prog w0 n_dedupref13_slot [x, .int .i64 at_, .int .i64 en] h fun r h' => (∃ m : Nat, r = .tuple #[.int .i64 (((slotOf b at_ en).getD m : Nat) : Int), .bool (slotOf b at_ en).isSome]) ∧ Step h h' [] [] := by
  refine ACalls.of_fit (by simpa using v.junk) fun f => c_dedupref13_slot (by simpa using v.junk) ?_
  have e3 : IntKind.i64.wrap ((at_ : Int) + 8) = ((at_ + 8 : Nat) : Int) := by rw [IntWalk.i64_in _ (by omega)]; simp
  have e4 : IntKind.i64.wrap ((at_ : Int) + 4) = ((at_ + 4 : Nat) : Int) := by rw [IntWalk.i64_in _ (by omega)]; simp
  simp only [s_dedupref13_slot, lenSl_slice, lenStr_string, str_size, fpureA_some, fnilA_ptr, faddA_ptr, addr_add, Nat.zero_add, Nat.add_zero, fpureQ_k, fpureQ_nilA, fpureQ_addA, fpureQ_pureA, fpureQ_guardA, fpureQ_idxSlA, fpureQ_pickA, freadQ_loadA, freadQ_loadNA, freadQ_b2sA, freadQ_guardA, freadQ_slSlA, freadQ_k, fendA, fallA_one, fstillA_nil, fguardA_tt, fguardA_ff, fguardA_tf, fguardA_ft, fguardA_undef, fpickA_true, fpickA_false, fcondA_true, fcondA_false, binA_add, binA_sub, binA_mul, binA_eql, binA_neq, binA_lss, binA_leq, binA_gtr, binA_geq, unA_not, Bool.not_true, Bool.not_false, convA_int, extA_tuple, List.getElem?_toArray, List.getElem?_cons_zero, List.getElem?_cons_succ, e3, e4]
  by_cases hN : en < at_ + 8
  · have c2 : decide ((en : Int) < ((at_ + 8 : Nat) : Int)) = true := decide_eq_true (by omega)
    have e2 : slotOf b at_ en = none := by unfold slotOf; rw [if_pos hN]
    simp only [c2, lenSl_slice, lenStr_string, str_size, fpureA_some, fnilA_ptr, faddA_ptr, addr_add, Nat.zero_add, Nat.add_zero, fpureQ_k, fpureQ_nilA, fpureQ_addA, fpureQ_pureA, fpureQ_guardA, fpureQ_idxSlA, fpureQ_pickA, freadQ_loadA, freadQ_loadNA, freadQ_b2sA, freadQ_guardA, freadQ_slSlA, freadQ_k, fendA, fallA_one, fstillA_nil, fguardA_tt, fguardA_ff, fguardA_tf, fguardA_ft, fguardA_undef, fpickA_true, fpickA_false, fcondA_true, fcondA_false, binA_add, binA_sub, binA_mul, binA_eql, binA_neq, binA_lss, binA_leq, binA_gtr, binA_geq, unA_not, Bool.not_true, Bool.not_false, convA_int, extA_tuple, List.getElem?_toArray, List.getElem?_cons_zero, List.getElem?_cons_succ, e2, retA_iff, oneOf_two]
    exact ⟨by simp, ⟨0, rfl⟩, .refl _ _ (by simp)⟩
  have c2 : decide ((en : Int) < ((at_ + 8 : Nat) : Int)) = false := decide_eq_false (by omega)
  simp only [c2, lenSl_slice, lenStr_string, str_size, fpureA_some, fnilA_ptr, faddA_ptr, addr_add, Nat.zero_add, Nat.add_zero, fpureQ_k, fpureQ_nilA, fpureQ_addA, fpureQ_pureA, fpureQ_guardA, fpureQ_idxSlA, fpureQ_pickA, freadQ_loadA, freadQ_loadNA, freadQ_b2sA, freadQ_guardA, freadQ_slSlA, freadQ_k, fendA, fallA_one, fstillA_nil, fguardA_tt, fguardA_ff, fguardA_tf, fguardA_ft, fguardA_undef, fpickA_true, fpickA_false, fcondA_true, fcondA_false, binA_add, binA_sub, binA_mul, binA_eql, binA_neq, binA_lss, binA_leq, binA_gtr, binA_geq, unA_not, Bool.not_true, Bool.not_false, convA_int, extA_tuple, List.getElem?_toArray, List.getElem?_cons_zero, List.getElem?_cons_succ]
  refine v.cut boundA_nat boundA_nat (by omega) (by omega) fun x1 hc1 hx1 y1 => ?_
  rw [cut_eq] at y1
  refine callA_of (rnumber_spec y1 (by simp; omega)) fun vn h1 ⟨e, e'⟩ f1 => ?_
  subst e e'
  obtain ⟨n, hn⟩ : ∃ n, n = rdn ((b.drop at_).take 4) := ⟨_, rfl⟩
  have hnl : n < 4294967296 := by
    have h4 : ((b.drop at_).take 4).length ≤ 4 := by simp; omega
    have := rdn_lt ((b.drop at_).take 4) 0 0 (by simp)
    have h5 : 256 ^ (0 + ((b.drop at_).take 4).length) ≤ 256 ^ 4 := Nat.pow_le_pow_right (by omega) (by omega)
    rw [hn]
    exact Nat.lt_of_lt_of_le this h5
  have e5 : IntKind.i64.wrap ((en : Int) - (at_ : Int)) = ((en - at_ : Nat) : Int) := by rw [IntWalk.i64_in _ (by omega)]; omega
  have e6 : IntKind.i64.wrap (((en - at_ : Nat) : Int) - 8) = ((en - at_ - 8 : Nat) : Int) := by rw [IntWalk.i64_in _ (by omega)]; omega
  simp only [← hn, lenSl_slice, lenStr_string, str_size, fpureA_some, fnilA_ptr, faddA_ptr, addr_add, Nat.zero_add, Nat.add_zero, fpureQ_k, fpureQ_nilA, fpureQ_addA, fpureQ_pureA, fpureQ_guardA, fpureQ_idxSlA, fpureQ_pickA, freadQ_loadA, freadQ_loadNA, freadQ_b2sA, freadQ_guardA, freadQ_slSlA, freadQ_k, fendA, fallA_one, fstillA_nil, fguardA_tt, fguardA_ff, fguardA_tf, fguardA_ft, fguardA_undef, fpickA_true, fpickA_false, fcondA_true, fcondA_false, binA_add, binA_sub, binA_mul, binA_eql, binA_neq, binA_lss, binA_leq, binA_gtr, binA_geq, unA_not, Bool.not_true, Bool.not_false, convA_int, extA_tuple, List.getElem?_toArray, List.getElem?_cons_zero, List.getElem?_cons_succ]
  by_cases h2' : n < 1
  · have c3 : decide ((n : Int) < 1) = true := decide_eq_true (by omega)
    have e2 : slotOf b at_ en = none := by unfold slotOf; rw [if_neg hN, ← hn, if_pos (.inl h2')]
    simp only [c3, lenSl_slice, lenStr_string, str_size, fpureA_some, fnilA_ptr, faddA_ptr, addr_add, Nat.zero_add, Nat.add_zero, fpureQ_k, fpureQ_nilA, fpureQ_addA, fpureQ_pureA, fpureQ_guardA, fpureQ_idxSlA, fpureQ_pickA, freadQ_loadA, freadQ_loadNA, freadQ_b2sA, freadQ_guardA, freadQ_slSlA, freadQ_k, fendA, fallA_one, fstillA_nil, fguardA_tt, fguardA_ff, fguardA_tf, fguardA_ft, fguardA_undef, fpickA_true, fpickA_false, fcondA_true, fcondA_false, binA_add, binA_sub, binA_mul, binA_eql, binA_neq, binA_lss, binA_leq, binA_gtr, binA_geq, unA_not, Bool.not_true, Bool.not_false, convA_int, extA_tuple, List.getElem?_toArray, List.getElem?_cons_zero, List.getElem?_cons_succ, e2, retA_iff, oneOf_two]
    exact ⟨by simp, ⟨0, rfl⟩, .refl _ _ (by simp)⟩
  have c3 : decide ((n : Int) < 1) = false := decide_eq_false (by omega)
  simp only [c3, lenSl_slice, lenStr_string, str_size, fpureA_some, fnilA_ptr, faddA_ptr, addr_add, Nat.zero_add, Nat.add_zero, fpureQ_k, fpureQ_nilA, fpureQ_addA, fpureQ_pureA, fpureQ_guardA, fpureQ_idxSlA, fpureQ_pickA, freadQ_loadA, freadQ_loadNA, freadQ_b2sA, freadQ_guardA, freadQ_slSlA, freadQ_k, fendA, fallA_one, fstillA_nil, fguardA_tt, fguardA_ff, fguardA_tf, fguardA_ft, fguardA_undef, fpickA_true, fpickA_false, fcondA_true, fcondA_false, binA_add, binA_sub, binA_mul, binA_eql, binA_neq, binA_lss, binA_leq, binA_gtr, binA_geq, unA_not, Bool.not_true, Bool.not_false, convA_int, extA_tuple, List.getElem?_toArray, List.getElem?_cons_zero, List.getElem?_cons_succ, e5, e6]
  by_cases h3' : en < at_ + 8 + n
  · have c4 : decide (((en - at_ - 8 : Nat) : Int) < (n : Int)) = true := decide_eq_true (by omega)
    have e2 : slotOf b at_ en = none := by unfold slotOf; rw [if_neg hN, ← hn, if_pos (.inr h3')]
    simp only [c4, lenSl_slice, lenStr_string, str_size, fpureA_some, fnilA_ptr, faddA_ptr, addr_add, Nat.zero_add, Nat.add_zero, fpureQ_k, fpureQ_nilA, fpureQ_addA, fpureQ_pureA, fpureQ_guardA, fpureQ_idxSlA, fpureQ_pickA, freadQ_loadA, freadQ_loadNA, freadQ_b2sA, freadQ_guardA, freadQ_slSlA, freadQ_k, fendA, fallA_one, fstillA_nil, fguardA_tt, fguardA_ff, fguardA_tf, fguardA_ft, fguardA_undef, fpickA_true, fpickA_false, fcondA_true, fcondA_false, binA_add, binA_sub, binA_mul, binA_eql, binA_neq, binA_lss, binA_leq, binA_gtr, binA_geq, unA_not, Bool.not_true, Bool.not_false, convA_int, extA_tuple, List.getElem?_toArray, List.getElem?_cons_zero, List.getElem?_cons_succ, e2, retA_iff, oneOf_two]
    exact ⟨by simp, ⟨0, rfl⟩, .refl _ _ (by simp)⟩
  have c4 : decide (((en - at_ - 8 : Nat) : Int) < (n : Int)) = false := decide_eq_false (by omega)
  have e7 : IntKind.i64.wrap (((at_ + 8 : Nat) : Int) + (n : Int)) = ((at_ + 8 + n : Nat) : Int) := by rw [IntWalk.i64_in _ (by omega)]; simp
  simp only [c4, lenSl_slice, lenStr_string, str_size, fpureA_some, fnilA_ptr, faddA_ptr, addr_add, Nat.zero_add, Nat.add_zero, fpureQ_k, fpureQ_nilA, fpureQ_addA, fpureQ_pureA, fpureQ_guardA, fpureQ_idxSlA, fpureQ_pickA, freadQ_loadA, freadQ_loadNA, freadQ_b2sA, freadQ_guardA, freadQ_slSlA, freadQ_k, fendA, fallA_one, fstillA_nil, fguardA_tt, fguardA_ff, fguardA_tf, fguardA_ft, fguardA_undef, fpickA_true, fpickA_false, fcondA_true, fcondA_false, binA_add, binA_sub, binA_mul, binA_eql, binA_neq, binA_lss, binA_leq, binA_gtr, binA_geq, unA_not, Bool.not_true, Bool.not_false, convA_int, extA_tuple, List.getElem?_toArray, List.getElem?_cons_zero, List.getElem?_cons_succ, e3, e4, e7]
  refine v.cut boundA_nat boundA_nat (by omega) (by omega) fun x2 hc2 hx2 y2 => ?_
  rw [cut_eq] at y2
  refine v.cut boundA_nat boundA_nat (by omega) (by omega) fun x3 hc3 hx3 y3 => ?_
  rw [cut_eq] at y3
  simp only [bslA_iff, fillA_nil, stillA_iff, allA_cons, allA_one, sameQ_slSlA, sameQ_b2sA]
  have hz : zerosL [(.int .u8 0 : Value)] 0 = [] := rfl
  rw [hz]
  have s1 : Step h1 (h1.new [] 1) [] [h1.next] := (Step.refl h1 [] (by simp)).new _ _
  have v1 : Bs w0 (h1.new [] 1) x b := v.step f1 s1 (by simp)
  refine ⟨⟨v1.cut boundA_nat boundA_nat (by omega) (by omega) fun _ e _ _ => e.trans hc3.symm, v1.cut boundA_nat boundA_nat (by omega) (by omega) fun _ e _ _ => e.trans hc2.symm⟩, ?_⟩
  have g0 : GV w0 (h1.new [] 1) 1 (.slice (some ⟨h1.next, 0, none⟩) 0 0) 0 [] [h1.next] := GV.new f1.base rfl (by decide)
  obtain ⟨a2, k2, hx2'⟩ := y2.slice
  obtain ⟨a3, k3, hx3'⟩ := y3.slice
  have hl2 : ((b.drop at_).take 4).length = 4 := by simp; omega
  have hl3 : ((b.drop (at_ + 8)).take n).length = n := by simp; omega
  refine appA_gv (m := 4) (by have := f1.base; simp; omega) g0 (by rw [hx2', hl2]; rfl) (by rw [← hl2]; exact (y2.step f1 s1 (by simp)).src) (by simp [hl2]) (by omega) (by omega) (by omega) fun x4 h4 S4 g4 s4 => ?_
  have s14 : Step h1 h4 [] S4 := s1.trans s4
  have v4 : Bs w0 h4 x b := v.step f1 s14 (by simp)
  simp only [stillA_iff, allA_cons, allA_one, sameQ_slSlA, sameQ_b2sA]
  refine ⟨v4.cut boundA_nat boundA_nat (by omega) (by omega) fun _ e _ _ => e.trans hc3.symm, ?_⟩
  have b4 : w0.heap.size ≤ h4.next := by have := f1.base; have := s14.next; omega
  refine appA_gv (m := n) b4 g4 (by rw [hx3', hl3]; rfl) (by have := (y3.step f1 s14 (by simp)).src; rw [hl3] at this; exact this) (by simp [hl3]) (by omega) (by omega) (by omega) fun x5 h5 S5 g5 s5 => ?_
  have s15 : Step h1 h5 [] S5 := s14.trans s5
  have v5 : Bs w0 h5 x b := v.step f1 s15 (by simp)
  refine v5.cut boundA_nat boundA_nat (by omega) (by omega) fun x6 hc6 hx6 y6 => ?_
  rw [show at_ + 8 = at_ + 4 + 4 by omega, cut_eq] at y6
  refine y6.b2s ?_
  have g5' : Bs w0 h5 x5 ((b.drop at_).take 4 ++ (b.drop (at_ + 8)).take n) := by
    have := g5.sl
    unfold Bs
    rw [List.length_append, hl2, hl3]
    simpa using this
  refine callA_of (sum_spec g5' (by rw [List.length_append, hl2, hl3]; omega)) fun v7 h7 ⟨S7, g7, s7⟩ f7 => ?_
  simp only [lenSl_slice, lenStr_string, str_size, fpureA_some, fnilA_ptr, faddA_ptr, addr_add, Nat.zero_add, Nat.add_zero, fpureQ_k, fpureQ_nilA, fpureQ_addA, fpureQ_pureA, fpureQ_guardA, fpureQ_idxSlA, fpureQ_pickA, freadQ_loadA, freadQ_loadNA, freadQ_b2sA, freadQ_guardA, freadQ_slSlA, freadQ_k, fendA, fallA_one, fstillA_nil, fguardA_tt, fguardA_ff, fguardA_tf, fguardA_ft, fguardA_undef, fpickA_true, fpickA_false, fcondA_true, fcondA_false, binA_add, binA_sub, binA_mul, binA_eql, binA_neq, binA_lss, binA_leq, binA_gtr, binA_geq, unA_not, Bool.not_true, Bool.not_false, convA_int, extA_tuple, List.getElem?_toArray, List.getElem?_cons_zero, List.getElem?_cons_succ, stillA_iff, allA_cons, allA_one, sameQ_slSlA, sameQ_b2sA]
  have s7' : Step h5 h7 S5 S5 := s7.wide (T := S5) (T' := S5) (by simp) fun b hb => .inr ⟨hb, (g5.lt b hb).2⟩
  have v7' : Bs w0 h7 x b := v.step f1 (s15.trans s7') (by simp)
  have y7 := v7'.cut_sl (lo := at_ + 4) (hi := at_ + 8) (by omega) (by omega)
  rw [← hc6, show at_ + 8 = at_ + 4 + 4 by omega, cut_eq] at y7
  refine ⟨⟨y7.b2s rfl, v7'.cut boundA_nat boundA_nat (by omega) (by omega) fun _ e _ _ => e.trans hc6.symm⟩, ?_⟩
  have hl4 : ((b.drop (at_ + 4)).take 4).length = 4 := by simp; omega
  have g7' : Bs w0 h7 v7 (be 4 (crcOf ((b.drop at_).take 4 ++ (b.drop (at_ + 8)).take n))) := by
    have := g7.sl
    unfold Bs
    rw [be_length]
    exact this
  refine g7'.b2s ?_
  simp only [binA_streql, str_inj, lenSl_slice, lenStr_string, str_size, fpureA_some, fnilA_ptr, faddA_ptr, addr_add, Nat.zero_add, Nat.add_zero, fpureQ_k, fpureQ_nilA, fpureQ_addA, fpureQ_pureA, fpureQ_guardA, fpureQ_idxSlA, fpureQ_pickA, freadQ_loadA, freadQ_loadNA, freadQ_b2sA, freadQ_guardA, freadQ_slSlA, freadQ_k, fendA, fallA_one, fstillA_nil, fguardA_tt, fguardA_ff, fguardA_tf, fguardA_ft, fguardA_undef, fpickA_true, fpickA_false, fcondA_true, fcondA_false, binA_add, binA_sub, binA_mul, binA_eql, binA_neq, binA_lss, binA_leq, binA_gtr, binA_geq, unA_not, Bool.not_true, Bool.not_false, convA_int, extA_tuple, List.getElem?_toArray, List.getElem?_cons_zero, List.getElem?_cons_succ, retA_iff, oneOf_two]
  refine ⟨by simp, ⟨n, ?_⟩, (s15.trans s7').less (by simp)⟩
  have hc := crcOf_lt ((b.drop at_).take 4 ++ (b.drop (at_ + 8)).take n)
  have key : be 4 (crcOf ((b.drop at_).take 4 ++ (b.drop (at_ + 8)).take n)) = (b.drop (at_ + 4)).take 4 ↔ crcOf ((b.drop at_).take 4 ++ (b.drop (at_ + 8)).take n) = rdn ((b.drop (at_ + 4)).take 4) := by
    constructor
    · intro e
      rw [← e, rdn_be, Nat.mod_eq_of_lt hc]
    · intro e
      rw [e]
      have := be_rdn ((b.drop (at_ + 4)).take 4)
      rw [hl4] at this
      exact this
  unfold slotOf
  rw [if_neg hN, ← hn, if_neg (by omega)]
  by_cases hq : crcOf ((b.drop at_).take 4 ++ (b.drop (at_ + 8)).take n) = rdn ((b.drop (at_ + 4)).take 4)
  · rw [if_pos hq, decide_eq_true (key.2 hq)]; rfl
  · rw [if_neg hq, decide_eq_false (fun e => hq (key.1 e))]; rfl
end

section
variable {w0 : World} {h : Hp}
theorem binSl_nil0 : binSlA .eql (.slice none 0 0) (.slice none 0 0) = some (.bool true) := rfl
/-- slices.Clone of bytes. -/
theorem cloneB_spec {x : Value} {l : List UInt8} (v : Bs w0 h x l) (hl : l.length ≤ 1000000000) :
    ACalls prog w0 n_slices_Clone_lbyte_byte [x] h fun r h' => (∃ S', GV w0 h' 1 r l.length (bvs l) S' ∧ (0 < l.length → Vec w0 h' 1 r l.length (bvs l) S') ∧ Step h h' [] S') ∧ (x = .slice none 0 0 → r = .slice none 0 0) := by
  refine ACalls.of_fit (by simpa using v.junk) fun f => c_slices_Clone_lbyte_byte (by simpa using v.junk) ?_
  simp only [s_slices_Clone_lbyte_byte]
  obtain ⟨a, c, hx⟩ := v.slice
  cases a with
  | none =>
    subst hx
    have h0 : l = [] := by
      rcases v.src.2 with ⟨h0, -⟩ | ⟨-, ad, e, -⟩
      · exact List.eq_nil_of_length_eq_zero h0
      · simp at e
    subst h0
    simp only [show binSlA .eql (.slice none ([] : List UInt8).length c) (.slice none 0 0) = some (.bool true) from rfl, lenSl_slice, lenStr_string, str_size, fpureA_some, fnilA_ptr, faddA_ptr, addr_add, Nat.zero_add, Nat.add_zero, fpureQ_k, fpureQ_nilA, fpureQ_addA, fpureQ_pureA, fpureQ_guardA, fpureQ_idxSlA, fpureQ_pickA, freadQ_loadA, freadQ_loadNA, freadQ_b2sA, freadQ_guardA, freadQ_slSlA, freadQ_k, fendA, fallA_one, fstillA_nil, fguardA_tt, fguardA_ff, fguardA_tf, fguardA_ft, fguardA_undef, fpickA_true, fpickA_false, fcondA_true, fcondA_false, binA_add, binA_sub, binA_mul, binA_eql, binA_neq, binA_lss, binA_leq, binA_gtr, binA_geq, unA_not, Bool.not_true, Bool.not_false, convA_int, extA_tuple, List.getElem?_toArray, List.getElem?_cons_zero, List.getElem?_cons_succ, retA_iff, oneOf_one]
    refine ⟨by simp, ⟨[], .inl .nil, fun h0 => by simp at h0, .refl _ _ (by simp)⟩, fun _ => by trivial⟩
  | some ad =>
    have hb : binSlA .eql x (.slice none 0 0) = some (.bool false) := by rw [hx]; rfl
    simp only [hb, lenSl_slice, lenStr_string, str_size, fpureA_some, fnilA_ptr, faddA_ptr, addr_add, Nat.zero_add, Nat.add_zero, fpureQ_k, fpureQ_nilA, fpureQ_addA, fpureQ_pureA, fpureQ_guardA, fpureQ_idxSlA, fpureQ_pickA, freadQ_loadA, freadQ_loadNA, freadQ_b2sA, freadQ_guardA, freadQ_slSlA, freadQ_k, fendA, fallA_one, fstillA_nil, fguardA_tt, fguardA_ff, fguardA_tf, fguardA_ft, fguardA_undef, fpickA_true, fpickA_false, fcondA_true, fcondA_false, binA_add, binA_sub, binA_mul, binA_eql, binA_neq, binA_lss, binA_leq, binA_gtr, binA_geq, unA_not, Bool.not_true, Bool.not_false, convA_int, extA_tuple, List.getElem?_toArray, List.getElem?_cons_zero, List.getElem?_cons_succ]
    refine app_new f v (by omega) (by omega) (by omega) fun x' h' S' g gv st hn => ?_
    obtain ⟨a', c', hx'⟩ := g.slice
    simp only [retA_iff, oneOf_one]
    refine ⟨by rw [hx']; simp, ⟨S', g, gv, st⟩, fun e => by rw [hx] at e; simp at e⟩
/-- slices.Clone of slots. -/
theorem cloneS_spec {x : Value} {n : Nat} {ys : List Value} (v : Sl w0 h 2 x n ys) (hl : n ≤ 1000000000) :
    ACalls prog w0 n_slices_Clone_lapi_Slot_api_Slot [x] h fun r h' => ∃ S', GV w0 h' 2 r n ys S' ∧ Step h h' [] S' := by
  refine ACalls.of_fit (by simpa using v.junk) fun f => c_slices_Clone_lapi_Slot_api_Slot (by simpa using v.junk) ?_
  simp only [s_slices_Clone_lapi_Slot_api_Slot]
  obtain ⟨a, c, hx⟩ := v.slice
  cases a with
  | none =>
    subst hx
    have h0 : n = 0 ∧ ys = [] := by
      rcases v.src.2 with h0 | ⟨-, ad, e, -⟩
      · exact h0
      · simp at e
    obtain ⟨rfl, rfl⟩ := h0
    simp only [show binSlA .eql (.slice none 0 c) (.slice none 0 0) = some (.bool true) from rfl, lenSl_slice, lenStr_string, str_size, fpureA_some, fnilA_ptr, faddA_ptr, addr_add, Nat.zero_add, Nat.add_zero, fpureQ_k, fpureQ_nilA, fpureQ_addA, fpureQ_pureA, fpureQ_guardA, fpureQ_idxSlA, fpureQ_pickA, freadQ_loadA, freadQ_loadNA, freadQ_b2sA, freadQ_guardA, freadQ_slSlA, freadQ_k, fendA, fallA_one, fstillA_nil, fguardA_tt, fguardA_ff, fguardA_tf, fguardA_ft, fguardA_undef, fpickA_true, fpickA_false, fcondA_true, fcondA_false, binA_add, binA_sub, binA_mul, binA_eql, binA_neq, binA_lss, binA_leq, binA_gtr, binA_geq, unA_not, Bool.not_true, Bool.not_false, convA_int, extA_tuple, List.getElem?_toArray, List.getElem?_cons_zero, List.getElem?_cons_succ, retA_iff, oneOf_one]
    refine ⟨by simp, [], .inl .nil, .refl _ _ (by simp)⟩
  | some ad =>
    have hb : binSlA .eql x (.slice none 0 0) = some (.bool false) := by rw [hx]; rfl
    simp only [hb, lenSl_slice, lenStr_string, str_size, fpureA_some, fnilA_ptr, faddA_ptr, addr_add, Nat.zero_add, Nat.add_zero, fpureQ_k, fpureQ_nilA, fpureQ_addA, fpureQ_pureA, fpureQ_guardA, fpureQ_idxSlA, fpureQ_pickA, freadQ_loadA, freadQ_loadNA, freadQ_b2sA, freadQ_guardA, freadQ_slSlA, freadQ_k, fendA, fallA_one, fstillA_nil, fguardA_tt, fguardA_ff, fguardA_tf, fguardA_ft, fguardA_undef, fpickA_true, fpickA_false, fcondA_true, fcondA_false, binA_add, binA_sub, binA_mul, binA_eql, binA_neq, binA_lss, binA_leq, binA_gtr, binA_geq, unA_not, Bool.not_true, Bool.not_false, convA_int, extA_tuple, List.getElem?_toArray, List.getElem?_cons_zero, List.getElem?_cons_succ]
    refine app_new f v (by omega) (by omega) (by omega) fun x' h' S' g gv st hn => ?_
    obtain ⟨a', c', hx'⟩ := g.slice
    simp only [retA_iff, oneOf_one]
    exact ⟨by rw [hx']; simp, S', g, st⟩
/-! ### Bytes held against each other -/
theorem bv_ne (a b : UInt8) : binA .neq (bv a) (bv b) = some (.bool (decide (a ≠ b))) := by
  simp only [bv, binA_neq]
  congr 2
  by_cases e : a = b
  · subst e; simp
  · have : a.toNat ≠ b.toNat := fun q => e (UInt8.toNat_inj.1 q)
    rw [decide_eq_true e, bne_iff_ne]
    omega
theorem sameB_loop {k0 kr : Value → Hp → Prop} {a a' : Option Addr} {c c' : Nat} {l m : List UInt8} (v : Bs w0 h (.slice a l.length c) l) (w : Bs w0 h (.slice a' m.length c') m) (hlm : l.length = m.length) (hl : l.length ≤ 1000000000) :
    ∀ (post pre : List UInt8) (post' pre' : List UInt8), pre ++ post = l → pre' ++ post' = m → pre.length = pre'.length → (post = post' → k0 (.bool false) h) → (post ≠ post' → kr (.bool false) h) →
    deduplaw13_sameBytes_L1 prog w0 k0 kr (post.length + 1) (.slice a l.length c) (.slice a' m.length c') (.bool false) (.int .i64 (pre.length : Int)) h := by
  intro post
  induction post with
  | nil =>
    intro pre post' pre' he he' hp hk hkr
    have : pre = l := by simpa using he
    subst this
    have : post' = [] := by
      have := congrArg List.length he'
      simp at this
      exact List.eq_nil_of_length_eq_zero (by omega)
    rw [List.length_nil, deduplaw13_sameBytes_L1]
    simp only [deduplaw13_sameBytes_B1, lenSl_slice, lenStr_string, str_size, fpureA_some, fnilA_ptr, faddA_ptr, addr_add, Nat.zero_add, Nat.add_zero, fpureQ_k, fpureQ_nilA, fpureQ_addA, fpureQ_pureA, fpureQ_guardA, fpureQ_idxSlA, fpureQ_pickA, freadQ_loadA, freadQ_loadNA, freadQ_b2sA, freadQ_guardA, freadQ_slSlA, freadQ_k, fendA, fallA_one, fstillA_nil, fguardA_tt, fguardA_ff, fguardA_tf, fguardA_ft, fguardA_undef, fpickA_true, fpickA_false, fcondA_true, fcondA_false, binA_add, binA_sub, binA_mul, binA_eql, binA_neq, binA_lss, binA_leq, binA_gtr, binA_geq, unA_not, Bool.not_true, Bool.not_false, convA_int, extA_tuple, List.getElem?_toArray, List.getElem?_cons_zero, List.getElem?_cons_succ, Int.lt_irrefl, decide_false]
    exact hk this.symm
  | cons b post ih =>
    intro pre post' pre' he he' hp hk hkr
    have hlen : pre.length + (post.length + 1) = l.length := by rw [← he]; simp
    cases post' with
    | nil =>
      have := congrArg List.length he'
      simp at this
      omega
    | cons b' post' =>
      have hg : l[pre.length]? = some b := by rw [← he]; simp
      have hg' : m[pre.length]? = some b' := by rw [← he', hp]; simp
      have c1 : decide ((pre.length : Int) < (l.length : Int)) = true := decide_eq_true (by omega)
      have e6 : IntKind.i64.wrap ((pre.length : Int) + 1) = ((pre.length + 1 : Nat) : Int) := by rw [IntWalk.i64_in _ (by omega)]; simp
      rw [List.length_cons, deduplaw13_sameBytes_L1]
      simp only [deduplaw13_sameBytes_B1, lenSl_slice, lenStr_string, str_size, fpureA_some, fnilA_ptr, faddA_ptr, addr_add, Nat.zero_add, Nat.add_zero, fpureQ_k, fpureQ_nilA, fpureQ_addA, fpureQ_pureA, fpureQ_guardA, fpureQ_idxSlA, fpureQ_pickA, freadQ_loadA, freadQ_loadNA, freadQ_b2sA, freadQ_guardA, freadQ_slSlA, freadQ_k, fendA, fallA_one, fstillA_nil, fguardA_tt, fguardA_ff, fguardA_tf, fguardA_ft, fguardA_undef, fpickA_true, fpickA_false, fcondA_true, fcondA_false, binA_add, binA_sub, binA_mul, binA_eql, binA_neq, binA_lss, binA_leq, binA_gtr, binA_geq, unA_not, Bool.not_true, Bool.not_false, convA_int, extA_tuple, List.getElem?_toArray, List.getElem?_cons_zero, List.getElem?_cons_succ, c1]
      refine idx_load1 v.src (by simp) (by rw [bvs_get, hg]; rfl) ?_
      refine idx_load1 w.src (by simp) (by rw [bvs_get, hg']; rfl) ?_
      simp only [bv_ne, lenSl_slice, lenStr_string, str_size, fpureA_some, fnilA_ptr, faddA_ptr, addr_add, Nat.zero_add, Nat.add_zero, fpureQ_k, fpureQ_nilA, fpureQ_addA, fpureQ_pureA, fpureQ_guardA, fpureQ_idxSlA, fpureQ_pickA, freadQ_loadA, freadQ_loadNA, freadQ_b2sA, freadQ_guardA, freadQ_slSlA, freadQ_k, fendA, fallA_one, fstillA_nil, fguardA_tt, fguardA_ff, fguardA_tf, fguardA_ft, fguardA_undef, fpickA_true, fpickA_false, fcondA_true, fcondA_false, binA_add, binA_sub, binA_mul, binA_eql, binA_neq, binA_lss, binA_leq, binA_gtr, binA_geq, unA_not, Bool.not_true, Bool.not_false, convA_int, extA_tuple, List.getElem?_toArray, List.getElem?_cons_zero, List.getElem?_cons_succ]
      by_cases e : b = b'
      · have c2 : decide (b ≠ b') = false := decide_eq_false (by simpa using e)
        simp only [c2, lenSl_slice, lenStr_string, str_size, fpureA_some, fnilA_ptr, faddA_ptr, addr_add, Nat.zero_add, Nat.add_zero, fpureQ_k, fpureQ_nilA, fpureQ_addA, fpureQ_pureA, fpureQ_guardA, fpureQ_idxSlA, fpureQ_pickA, freadQ_loadA, freadQ_loadNA, freadQ_b2sA, freadQ_guardA, freadQ_slSlA, freadQ_k, fendA, fallA_one, fstillA_nil, fguardA_tt, fguardA_ff, fguardA_tf, fguardA_ft, fguardA_undef, fpickA_true, fpickA_false, fcondA_true, fcondA_false, binA_add, binA_sub, binA_mul, binA_eql, binA_neq, binA_lss, binA_leq, binA_gtr, binA_geq, unA_not, Bool.not_true, Bool.not_false, convA_int, extA_tuple, List.getElem?_toArray, List.getElem?_cons_zero, List.getElem?_cons_succ, e6]
        have := ih (pre ++ [b]) post' (pre' ++ [b']) (by simpa using he) (by simpa using he') (by simp [hp]) (fun q => hk (by rw [e, q])) (fun q => hkr (by rw [e]; simpa using q))
        simpa using this
      · have c2 : decide (b ≠ b') = true := decide_eq_true e
        simp only [c2, lenSl_slice, lenStr_string, str_size, fpureA_some, fnilA_ptr, faddA_ptr, addr_add, Nat.zero_add, Nat.add_zero, fpureQ_k, fpureQ_nilA, fpureQ_addA, fpureQ_pureA, fpureQ_guardA, fpureQ_idxSlA, fpureQ_pickA, freadQ_loadA, freadQ_loadNA, freadQ_b2sA, freadQ_guardA, freadQ_slSlA, freadQ_k, fendA, fallA_one, fstillA_nil, fguardA_tt, fguardA_ff, fguardA_tf, fguardA_ft, fguardA_undef, fpickA_true, fpickA_false, fcondA_true, fcondA_false, binA_add, binA_sub, binA_mul, binA_eql, binA_neq, binA_lss, binA_leq, binA_gtr, binA_geq, unA_not, Bool.not_true, Bool.not_false, convA_int, extA_tuple, List.getElem?_toArray, List.getElem?_cons_zero, List.getElem?_cons_succ]
        exact hkr (by simp [e])
theorem sameB_spec {x y : Value} {l m : List UInt8} (v : Bs w0 h x l) (w : Bs w0 h y m) (hl : l.length ≤ 1000000000) :
    ACalls prog w0 n_deduplaw13_sameBytes [x, y] h fun r h' => r = .bool (decide (l = m)) ∧ h' = h := by
  refine ACalls.of_fit (by simpa using ⟨v.junk, w.junk⟩) fun f => c_deduplaw13_sameBytes (by simpa using ⟨v.junk, w.junk⟩) ?_
  obtain ⟨a, c, rfl⟩ := v.slice
  obtain ⟨a', c', rfl⟩ := w.slice
  simp only [s_deduplaw13_sameBytes, lenSl_slice, lenStr_string, str_size, fpureA_some, fnilA_ptr, faddA_ptr, addr_add, Nat.zero_add, Nat.add_zero, fpureQ_k, fpureQ_nilA, fpureQ_addA, fpureQ_pureA, fpureQ_guardA, fpureQ_idxSlA, fpureQ_pickA, freadQ_loadA, freadQ_loadNA, freadQ_b2sA, freadQ_guardA, freadQ_slSlA, freadQ_k, fendA, fallA_one, fstillA_nil, fguardA_tt, fguardA_ff, fguardA_tf, fguardA_ft, fguardA_undef, fpickA_true, fpickA_false, fcondA_true, fcondA_false, binA_add, binA_sub, binA_mul, binA_eql, binA_neq, binA_lss, binA_leq, binA_gtr, binA_geq, unA_not, Bool.not_true, Bool.not_false, convA_int, extA_tuple, List.getElem?_toArray, List.getElem?_cons_zero, List.getElem?_cons_succ]
  by_cases hlm : l.length = m.length
  · have c1 : ((l.length : Int) != (m.length : Int)) = false := by rw [hlm]; simp
    simp only [c1, lenSl_slice, lenStr_string, str_size, fpureA_some, fnilA_ptr, faddA_ptr, addr_add, Nat.zero_add, Nat.add_zero, fpureQ_k, fpureQ_nilA, fpureQ_addA, fpureQ_pureA, fpureQ_guardA, fpureQ_idxSlA, fpureQ_pickA, freadQ_loadA, freadQ_loadNA, freadQ_b2sA, freadQ_guardA, freadQ_slSlA, freadQ_k, fendA, fallA_one, fstillA_nil, fguardA_tt, fguardA_ff, fguardA_tf, fguardA_ft, fguardA_undef, fpickA_true, fpickA_false, fcondA_true, fcondA_false, binA_add, binA_sub, binA_mul, binA_eql, binA_neq, binA_lss, binA_leq, binA_gtr, binA_geq, unA_not, Bool.not_true, Bool.not_false, convA_int, extA_tuple, List.getElem?_toArray, List.getElem?_cons_zero, List.getElem?_cons_succ]
    refine ⟨l.length + 1, sameB_loop v w hlm hl l [] m [] rfl rfl rfl (fun e => ?_) (fun e => ?_)⟩
    · simp only [retA_iff, oneOf_one]; exact ⟨by simp, by simp [e], by trivial⟩
    · simp only [retA_iff, oneOf_one]; exact ⟨by simp, by simp [e], by trivial⟩
  · have c1 : ((l.length : Int) != (m.length : Int)) = true := by rw [bne_iff_ne]; omega
    have : l ≠ m := fun e => hlm (by rw [e])
    simp only [c1, lenSl_slice, lenStr_string, str_size, fpureA_some, fnilA_ptr, faddA_ptr, addr_add, Nat.zero_add, Nat.add_zero, fpureQ_k, fpureQ_nilA, fpureQ_addA, fpureQ_pureA, fpureQ_guardA, fpureQ_idxSlA, fpureQ_pickA, freadQ_loadA, freadQ_loadNA, freadQ_b2sA, freadQ_guardA, freadQ_slSlA, freadQ_k, fendA, fallA_one, fstillA_nil, fguardA_tt, fguardA_ff, fguardA_tf, fguardA_ft, fguardA_undef, fpickA_true, fpickA_false, fcondA_true, fcondA_false, binA_add, binA_sub, binA_mul, binA_eql, binA_neq, binA_lss, binA_leq, binA_gtr, binA_geq, unA_not, Bool.not_true, Bool.not_false, convA_int, extA_tuple, List.getElem?_toArray, List.getElem?_cons_zero, List.getElem?_cons_succ, retA_iff, oneOf_one]
    exact ⟨by simp, by simp [this], by trivial⟩
/-! ### Chunks -/
/-- The chunk that lies in any bytes. -/
def chunkOf (b : List UInt8) (o n : Int) : Option (List UInt8) :=
  if o < 8 then none else if slotOf b (o.toNat - 8) b.length = some n.toNat ∧ 0 ≤ n then some ((b.drop o.toNat).take n.toNat) else none
def chunkV (w0 : World) (h' : Hp) (r : Value) (o : Option (List UInt8)) : Prop :=
  match o with
  | some l => ∃ x S, r = .tuple #[x, .int .i64 0] ∧ GV w0 h' 1 x l.length (bvs l) S
  | none => r = .tuple #[.slice none 0 0, .int .i64 130]
theorem Chunk_spec {x : Value} {b : List UInt8} (v : Bs w0 h x b) (hb : b.length ≤ 1000000000) (o n : Int) (ho : -9223372036854775808 ≤ o ∧ o ≤ 9223372036854775807) (hn : -9223372036854775808 ≤ n ∧ n ≤ 9223372036854775807) :
    ACalls prog w0 n_pack_Chunk [x, slt o n] h fun r h' => chunkV w0 h' r (chunkOf b o n) ∧ Step h h' [] [] := by
  refine ACalls.of_fit (by simpa [slt] using v.junk) fun f => c_pack_Chunk (by simpa [slt] using v.junk) ?_
  simp only [s_pack_Chunk, slt, boxA_agg, List.toList_toArray, lenSl_slice, lenStr_string, str_size, fpureA_some, fnilA_ptr, faddA_ptr, addr_add, Nat.zero_add, Nat.add_zero, fpureQ_k, fpureQ_nilA, fpureQ_addA, fpureQ_pureA, fpureQ_guardA, fpureQ_idxSlA, fpureQ_pickA, freadQ_loadA, freadQ_loadNA, freadQ_b2sA, freadQ_guardA, freadQ_slSlA, freadQ_k, fendA, fallA_one, fstillA_nil, fguardA_tt, fguardA_ff, fguardA_tf, fguardA_ft, fguardA_undef, fpickA_true, fpickA_false, fcondA_true, fcondA_false, binA_add, binA_sub, binA_mul, binA_eql, binA_neq, binA_lss, binA_leq, binA_gtr, binA_geq, unA_not, Bool.not_true, Bool.not_false, convA_int, extA_tuple, List.getElem?_toArray, List.getElem?_cons_zero, List.getElem?_cons_succ]
  have s1 : Step h (h.new [.int .i64 o, .int .i64 n] 2) [] [h.next] := (Step.refl h [] (by simp)).new _ _
  have hB := f.base
  refine loadA_at hB (by simp; rfl) (by rfl) ?_
  simp only [lenSl_slice, lenStr_string, str_size, fpureA_some, fnilA_ptr, faddA_ptr, addr_add, Nat.zero_add, Nat.add_zero, fpureQ_k, fpureQ_nilA, fpureQ_addA, fpureQ_pureA, fpureQ_guardA, fpureQ_idxSlA, fpureQ_pickA, freadQ_loadA, freadQ_loadNA, freadQ_b2sA, freadQ_guardA, freadQ_slSlA, freadQ_k, fendA, fallA_one, fstillA_nil, fguardA_tt, fguardA_ff, fguardA_tf, fguardA_ft, fguardA_undef, fpickA_true, fpickA_false, fcondA_true, fcondA_false, binA_add, binA_sub, binA_mul, binA_eql, binA_neq, binA_lss, binA_leq, binA_gtr, binA_geq, unA_not, Bool.not_true, Bool.not_false, convA_int, extA_tuple, List.getElem?_toArray, List.getElem?_cons_zero, List.getElem?_cons_succ]
  by_cases h1 : o < 8
  · have c1 : decide (o < 8) = true := decide_eq_true h1
    have e1 : chunkOf b o n = none := by unfold chunkOf; rw [if_pos h1]
    simp only [c1, lenSl_slice, lenStr_string, str_size, fpureA_some, fnilA_ptr, faddA_ptr, addr_add, Nat.zero_add, Nat.add_zero, fpureQ_k, fpureQ_nilA, fpureQ_addA, fpureQ_pureA, fpureQ_guardA, fpureQ_idxSlA, fpureQ_pickA, freadQ_loadA, freadQ_loadNA, freadQ_b2sA, freadQ_guardA, freadQ_slSlA, freadQ_k, fendA, fallA_one, fstillA_nil, fguardA_tt, fguardA_ff, fguardA_tf, fguardA_ft, fguardA_undef, fpickA_true, fpickA_false, fcondA_true, fcondA_false, binA_add, binA_sub, binA_mul, binA_eql, binA_neq, binA_lss, binA_leq, binA_gtr, binA_geq, unA_not, Bool.not_true, Bool.not_false, convA_int, extA_tuple, List.getElem?_toArray, List.getElem?_cons_zero, List.getElem?_cons_succ, retA_iff, oneOf_two, e1, chunkV]
    exact ⟨by simp, by trivial, s1.less (by simp)⟩
  have c1 : decide (o < 8) = false := decide_eq_false h1
  obtain ⟨k, rfl⟩ := Int.eq_ofNat_of_zero_le (show 0 ≤ o by omega)
  have e1 : IntKind.i64.wrap ((k : Int) - 8) = ((k - 8 : Nat) : Int) := by rw [IntWalk.i64_in _ (by omega)]; omega
  simp only [c1, lenSl_slice, lenStr_string, str_size, fpureA_some, fnilA_ptr, faddA_ptr, addr_add, Nat.zero_add, Nat.add_zero, fpureQ_k, fpureQ_nilA, fpureQ_addA, fpureQ_pureA, fpureQ_guardA, fpureQ_idxSlA, fpureQ_pickA, freadQ_loadA, freadQ_loadNA, freadQ_b2sA, freadQ_guardA, freadQ_slSlA, freadQ_k, fendA, fallA_one, fstillA_nil, fguardA_tt, fguardA_ff, fguardA_tf, fguardA_ft, fguardA_undef, fpickA_true, fpickA_false, fcondA_true, fcondA_false, binA_add, binA_sub, binA_mul, binA_eql, binA_neq, binA_lss, binA_leq, binA_gtr, binA_geq, unA_not, Bool.not_true, Bool.not_false, convA_int, extA_tuple, List.getElem?_toArray, List.getElem?_cons_zero, List.getElem?_cons_succ]
  refine loadA_at hB (by simp; rfl) (by rfl) ?_
  obtain ⟨ax, cx, hx⟩ := v.slice
  have hlen : lenSl x = some (.int .i64 b.length) := by rw [hx]; rfl
  simp only [hlen, lenSl_slice, lenStr_string, str_size, fpureA_some, fnilA_ptr, faddA_ptr, addr_add, Nat.zero_add, Nat.add_zero, fpureQ_k, fpureQ_nilA, fpureQ_addA, fpureQ_pureA, fpureQ_guardA, fpureQ_idxSlA, fpureQ_pickA, freadQ_loadA, freadQ_loadNA, freadQ_b2sA, freadQ_guardA, freadQ_slSlA, freadQ_k, fendA, fallA_one, fstillA_nil, fguardA_tt, fguardA_ff, fguardA_tf, fguardA_ft, fguardA_undef, fpickA_true, fpickA_false, fcondA_true, fcondA_false, binA_add, binA_sub, binA_mul, binA_eql, binA_neq, binA_lss, binA_leq, binA_gtr, binA_geq, unA_not, Bool.not_true, Bool.not_false, convA_int, extA_tuple, List.getElem?_toArray, List.getElem?_cons_zero, List.getElem?_cons_succ, e1]
  have v1 : Bs w0 (h.new [.int .i64 k, .int .i64 n] 2) x b := v.step f s1 (by simp)
  refine callA_of (slotAt_spec v1 hb (by omega) (Nat.le_refl _)) fun r h2 ⟨e, s2⟩ f2 => ?_
  rw [show k - 8 + 8 = k by omega] at e
  subst e
  have hq2 : h2.blk h.next = some [.int .i64 k, .int .i64 n] := by rw [(s2.keep _ (by simp) (by simp)).1]; simp
  have hq2n : h.next < h2.next := by have := s2.next; simp at this; omega
  have s12 : Step h h2 [] [h.next] := s1.trans (s2.wide (T := [h.next]) (T' := [h.next]) (by simp) (fun b hb => by simp at hb; subst hb; exact .inr ⟨by simp, by simp⟩))
  have fin : ∀ {h' : Hp} {S : List Nat}, Step h2 h' [] S → Step h h' [] [] := fun st => (s12.trans (st.wide (T := [h.next]) (T' := []) (by simp) (by simp)))
  have noneCase : slotOf b (k - 8) b.length = none → chunkOf b k n = none := fun e => by unfold chunkOf; rw [if_neg h1]; simp [e]
  cases hs : slotOf b (k - 8) b.length with
  | none =>
    simp only [slotV, lenSl_slice, lenStr_string, str_size, fpureA_some, fnilA_ptr, faddA_ptr, addr_add, Nat.zero_add, Nat.add_zero, fpureQ_k, fpureQ_nilA, fpureQ_addA, fpureQ_pureA, fpureQ_guardA, fpureQ_idxSlA, fpureQ_pickA, freadQ_loadA, freadQ_loadNA, freadQ_b2sA, freadQ_guardA, freadQ_slSlA, freadQ_k, fendA, fallA_one, fstillA_nil, fguardA_tt, fguardA_ff, fguardA_tf, fguardA_ft, fguardA_undef, fpickA_true, fpickA_false, fcondA_true, fcondA_false, binA_add, binA_sub, binA_mul, binA_eql, binA_neq, binA_lss, binA_leq, binA_gtr, binA_geq, unA_not, Bool.not_true, Bool.not_false, convA_int, extA_tuple, List.getElem?_toArray, List.getElem?_cons_zero, List.getElem?_cons_succ, slt, newA_iff]
    refine ⟨by simp, store2 (cs := [.int .i64 0, .int .i64 0]) (by omega) (by simp) rfl ?_⟩
    rw [put_new]
    simp only [lenSl_slice, lenStr_string, str_size, fpureA_some, fnilA_ptr, faddA_ptr, addr_add, Nat.zero_add, Nat.add_zero, fpureQ_k, fpureQ_nilA, fpureQ_addA, fpureQ_pureA, fpureQ_guardA, fpureQ_idxSlA, fpureQ_pickA, freadQ_loadA, freadQ_loadNA, freadQ_b2sA, freadQ_guardA, freadQ_slSlA, freadQ_k, fendA, fallA_one, fstillA_nil, fguardA_tt, fguardA_ff, fguardA_tf, fguardA_ft, fguardA_undef, fpickA_true, fpickA_false, fcondA_true, fcondA_false, binA_add, binA_sub, binA_mul, binA_eql, binA_neq, binA_lss, binA_leq, binA_gtr, binA_geq, unA_not, Bool.not_true, Bool.not_false, convA_int, extA_tuple, List.getElem?_toArray, List.getElem?_cons_zero, List.getElem?_cons_succ, retA_iff, oneOf_two, noneCase hs, chunkV]
    exact ⟨by simp, by trivial, fin ((Step.refl h2 [] (by simp)).new _ _)⟩
  | some m =>
    obtain ⟨hm1, hm2, -⟩ := slotOf_some hs
    simp only [slotV, lenSl_slice, lenStr_string, str_size, fpureA_some, fnilA_ptr, faddA_ptr, addr_add, Nat.zero_add, Nat.add_zero, fpureQ_k, fpureQ_nilA, fpureQ_addA, fpureQ_pureA, fpureQ_guardA, fpureQ_idxSlA, fpureQ_pickA, freadQ_loadA, freadQ_loadNA, freadQ_b2sA, freadQ_guardA, freadQ_slSlA, freadQ_k, fendA, fallA_one, fstillA_nil, fguardA_tt, fguardA_ff, fguardA_tf, fguardA_ft, fguardA_undef, fpickA_true, fpickA_false, fcondA_true, fcondA_false, binA_add, binA_sub, binA_mul, binA_eql, binA_neq, binA_lss, binA_leq, binA_gtr, binA_geq, unA_not, Bool.not_true, Bool.not_false, convA_int, extA_tuple, List.getElem?_toArray, List.getElem?_cons_zero, List.getElem?_cons_succ, slt, newA_iff]
    refine ⟨by simp, store2 (cs := [.int .i64 0, .int .i64 0]) (by omega) (by simp) rfl ?_⟩
    rw [put_new]
    have s3 : Step h2 (h2.new [.int .i64 (k : Int), .int .i64 m] 2) [] [h2.next] := (Step.refl h2 [] (by simp)).new _ _
    have hq3 : (h2.new [.int .i64 (k : Int), .int .i64 m] 2).blk h.next = some [.int .i64 k, .int .i64 n] := by rw [(s3.keep _ hq2n (by simp)).1]; exact hq2
    refine loadNA_whole (by omega) (by simp; rfl) rfl ?_
    refine loadNA_whole hB hq3 rfl ?_
    simp only [neSlot w0, beq_self_eq_true, Bool.true_and, lenSl_slice, lenStr_string, str_size, fpureA_some, fnilA_ptr, faddA_ptr, addr_add, Nat.zero_add, Nat.add_zero, fpureQ_k, fpureQ_nilA, fpureQ_addA, fpureQ_pureA, fpureQ_guardA, fpureQ_idxSlA, fpureQ_pickA, freadQ_loadA, freadQ_loadNA, freadQ_b2sA, freadQ_guardA, freadQ_slSlA, freadQ_k, fendA, fallA_one, fstillA_nil, fguardA_tt, fguardA_ff, fguardA_tf, fguardA_ft, fguardA_undef, fpickA_true, fpickA_false, fcondA_true, fcondA_false, binA_add, binA_sub, binA_mul, binA_eql, binA_neq, binA_lss, binA_leq, binA_gtr, binA_geq, unA_not, Bool.not_true, Bool.not_false, convA_int, extA_tuple, List.getElem?_toArray, List.getElem?_cons_zero, List.getElem?_cons_succ]
    by_cases hmn : (m : Int) = n
    · have c2 : ((m : Int) == n) = true := beq_iff_eq.2 hmn
      subst hmn
      have e2 : chunkOf b k m = some ((b.drop k).take m) := by
        unfold chunkOf
        rw [if_neg h1, if_pos ⟨by simpa using hs, by omega⟩]; simp
      have e4 : IntKind.i64.wrap ((k : Int) + (m : Int)) = ((k + m : Nat) : Int) := by rw [IntWalk.i64_in _ (by omega)]; simp
      simp only [c2, lenSl_slice, lenStr_string, str_size, fpureA_some, fnilA_ptr, faddA_ptr, addr_add, Nat.zero_add, Nat.add_zero, fpureQ_k, fpureQ_nilA, fpureQ_addA, fpureQ_pureA, fpureQ_guardA, fpureQ_idxSlA, fpureQ_pickA, freadQ_loadA, freadQ_loadNA, freadQ_b2sA, freadQ_guardA, freadQ_slSlA, freadQ_k, fendA, fallA_one, fstillA_nil, fguardA_tt, fguardA_ff, fguardA_tf, fguardA_ft, fguardA_undef, fpickA_true, fpickA_false, fcondA_true, fcondA_false, binA_add, binA_sub, binA_mul, binA_eql, binA_neq, binA_lss, binA_leq, binA_gtr, binA_geq, unA_not, Bool.not_true, Bool.not_false, convA_int, extA_tuple, List.getElem?_toArray, List.getElem?_cons_zero, List.getElem?_cons_succ]
      refine loadA_at hB hq3 (by rfl) ?_
      refine loadA_at hB hq3 (by rfl) ?_
      refine loadA_at hB hq3 (by rfl) ?_
      simp only [lenSl_slice, lenStr_string, str_size, fpureA_some, fnilA_ptr, faddA_ptr, addr_add, Nat.zero_add, Nat.add_zero, fpureQ_k, fpureQ_nilA, fpureQ_addA, fpureQ_pureA, fpureQ_guardA, fpureQ_idxSlA, fpureQ_pickA, freadQ_loadA, freadQ_loadNA, freadQ_b2sA, freadQ_guardA, freadQ_slSlA, freadQ_k, fendA, fallA_one, fstillA_nil, fguardA_tt, fguardA_ff, fguardA_tf, fguardA_ft, fguardA_undef, fpickA_true, fpickA_false, fcondA_true, fcondA_false, binA_add, binA_sub, binA_mul, binA_eql, binA_neq, binA_lss, binA_leq, binA_gtr, binA_geq, unA_not, Bool.not_true, Bool.not_false, convA_int, extA_tuple, List.getElem?_toArray, List.getElem?_cons_zero, List.getElem?_cons_succ, e4]
      have v3 : Bs w0 (h2.new [.int .i64 (k : Int), .int .i64 m] 2) x b := v.step f ((s12.trans (s3.wide (T := [h.next]) (T' := []) (by simp) (by simp)))) (by simp)
      refine v3.cut boundA_nat boundA_nat (by omega) (by omega) fun x2 hc2 hx2 y2 => ?_
      rw [cut_eq] at y2
      refine callA_of (cloneB_spec y2 (by simp; omega)) fun r h4 ⟨⟨S4, g4, _, s4⟩, _⟩ f4 => ?_
      obtain ⟨a4, c4, hr⟩ := g4.slice
      simp only [retA_iff, oneOf_two, e2, chunkV]
      refine ⟨by rw [hr]; simp, ⟨_, _, rfl, g4⟩, fin (S := []) ((s3.less (T := []) (by simp)).trans (s4.less (by simp)))⟩
    · have c2 : ((m : Int) == n) = false := beq_eq_false_iff_ne.2 hmn
      have e2 : chunkOf b k n = none := by
        unfold chunkOf
        rw [if_neg h1, if_neg (fun e => hmn (by have h1 := e.1; have h2 := e.2; simp [hs] at h1; omega))]
      simp only [c2, lenSl_slice, lenStr_string, str_size, fpureA_some, fnilA_ptr, faddA_ptr, addr_add, Nat.zero_add, Nat.add_zero, fpureQ_k, fpureQ_nilA, fpureQ_addA, fpureQ_pureA, fpureQ_guardA, fpureQ_idxSlA, fpureQ_pickA, freadQ_loadA, freadQ_loadNA, freadQ_b2sA, freadQ_guardA, freadQ_slSlA, freadQ_k, fendA, fallA_one, fstillA_nil, fguardA_tt, fguardA_ff, fguardA_tf, fguardA_ft, fguardA_undef, fpickA_true, fpickA_false, fcondA_true, fcondA_false, binA_add, binA_sub, binA_mul, binA_eql, binA_neq, binA_lss, binA_leq, binA_gtr, binA_geq, unA_not, Bool.not_true, Bool.not_false, convA_int, extA_tuple, List.getElem?_toArray, List.getElem?_cons_zero, List.getElem?_cons_succ, retA_iff, oneOf_two, e2, chunkV]
      exact ⟨by simp, by trivial, fin s3⟩
end

section
variable {w0 : World} {h : Hp}
theorem rChunk_spec {x : Value} {b : List UInt8} (v : Bs w0 h x b) (hb : b.length ≤ 1000000000) (o n : Int) (ho : -9223372036854775808 ≤ o ∧ o ≤ 9223372036854775807) (hn : -9223372036854775808 ≤ n ∧ n ≤ 9223372036854775807) :
    ACalls prog w0 n_dedupref13_Chunk [x, slt o n] h fun r h' => chunkV w0 h' r (chunkOf b o n) ∧ Step h h' [] [] := by
  refine ACalls.of_fit (by simpa [slt] using v.junk) fun f => c_dedupref13_Chunk (by simpa [slt] using v.junk) ?_
  simp only [s_dedupref13_Chunk, slt, boxA_agg, List.toList_toArray, lenSl_slice, lenStr_string, str_size, fpureA_some, fnilA_ptr, faddA_ptr, addr_add, Nat.zero_add, Nat.add_zero, fpureQ_k, fpureQ_nilA, fpureQ_addA, fpureQ_pureA, fpureQ_guardA, fpureQ_idxSlA, fpureQ_pickA, freadQ_loadA, freadQ_loadNA, freadQ_b2sA, freadQ_guardA, freadQ_slSlA, freadQ_k, fendA, fallA_one, fstillA_nil, fguardA_tt, fguardA_ff, fguardA_tf, fguardA_ft, fguardA_undef, fpickA_true, fpickA_false, fcondA_true, fcondA_false, binA_add, binA_sub, binA_mul, binA_eql, binA_neq, binA_lss, binA_leq, binA_gtr, binA_geq, unA_not, Bool.not_true, Bool.not_false, convA_int, extA_tuple, List.getElem?_toArray, List.getElem?_cons_zero, List.getElem?_cons_succ]
  have s1 : Step h (h.new [.int .i64 o, .int .i64 n] 2) [] [h.next] := (Step.refl h [] (by simp)).new _ _
  have hB := f.base
  have hq1 : (h.new [.int .i64 o, .int .i64 n] 2).blk h.next = some [.int .i64 o, .int .i64 n] := by simp
  refine loadA_at hB hq1 (by rfl) ?_
  simp only [lenSl_slice, lenStr_string, str_size, fpureA_some, fnilA_ptr, faddA_ptr, addr_add, Nat.zero_add, Nat.add_zero, fpureQ_k, fpureQ_nilA, fpureQ_addA, fpureQ_pureA, fpureQ_guardA, fpureQ_idxSlA, fpureQ_pickA, freadQ_loadA, freadQ_loadNA, freadQ_b2sA, freadQ_guardA, freadQ_slSlA, freadQ_k, fendA, fallA_one, fstillA_nil, fguardA_tt, fguardA_ff, fguardA_tf, fguardA_ft, fguardA_undef, fpickA_true, fpickA_false, fcondA_true, fcondA_false, binA_add, binA_sub, binA_mul, binA_eql, binA_neq, binA_lss, binA_leq, binA_gtr, binA_geq, unA_not, Bool.not_true, Bool.not_false, convA_int, extA_tuple, List.getElem?_toArray, List.getElem?_cons_zero, List.getElem?_cons_succ]
  obtain ⟨ax, cx, hx⟩ := v.slice
  have hlen : lenSl x = some (.int .i64 b.length) := by rw [hx]; rfl
  -- what is told when there is none
  have none_ : ∀ {h' : Hp}, chunkOf b o n = none → Step h h' [] [] → retA [.slice none 0 0, .int .i64 130] (fun r h' => chunkV w0 h' r (chunkOf b o n) ∧ Step h h' [] []) h' := by
    intro h' e st
    simp only [retA_iff, oneOf_two, e, chunkV]
    exact ⟨by simp, by trivial, st⟩
  by_cases h1 : o < 8
  · have c1 : decide (o < 8) = true := decide_eq_true h1
    simp only [c1, lenSl_slice, lenStr_string, str_size, fpureA_some, fnilA_ptr, faddA_ptr, addr_add, Nat.zero_add, Nat.add_zero, fpureQ_k, fpureQ_nilA, fpureQ_addA, fpureQ_pureA, fpureQ_guardA, fpureQ_idxSlA, fpureQ_pickA, freadQ_loadA, freadQ_loadNA, freadQ_b2sA, freadQ_guardA, freadQ_slSlA, freadQ_k, fendA, fallA_one, fstillA_nil, fguardA_tt, fguardA_ff, fguardA_tf, fguardA_ft, fguardA_undef, fpickA_true, fpickA_false, fcondA_true, fcondA_false, binA_add, binA_sub, binA_mul, binA_eql, binA_neq, binA_lss, binA_leq, binA_gtr, binA_geq, unA_not, Bool.not_true, Bool.not_false, convA_int, extA_tuple, List.getElem?_toArray, List.getElem?_cons_zero, List.getElem?_cons_succ]
    exact none_ (by unfold chunkOf; rw [if_pos h1]) (s1.less (by simp))
  have c1 : decide (o < 8) = false := decide_eq_false h1
  obtain ⟨k, rfl⟩ := Int.eq_ofNat_of_zero_le (show 0 ≤ o by omega)
  simp only [c1, lenSl_slice, lenStr_string, str_size, fpureA_some, fnilA_ptr, faddA_ptr, addr_add, Nat.zero_add, Nat.add_zero, fpureQ_k, fpureQ_nilA, fpureQ_addA, fpureQ_pureA, fpureQ_guardA, fpureQ_idxSlA, fpureQ_pickA, freadQ_loadA, freadQ_loadNA, freadQ_b2sA, freadQ_guardA, freadQ_slSlA, freadQ_k, fendA, fallA_one, fstillA_nil, fguardA_tt, fguardA_ff, fguardA_tf, fguardA_ft, fguardA_undef, fpickA_true, fpickA_false, fcondA_true, fcondA_false, binA_add, binA_sub, binA_mul, binA_eql, binA_neq, binA_lss, binA_leq, binA_gtr, binA_geq, unA_not, Bool.not_true, Bool.not_false, convA_int, extA_tuple, List.getElem?_toArray, List.getElem?_cons_zero, List.getElem?_cons_succ]
  refine loadA_at hB hq1 (by rfl) ?_
  simp only [hlen, lenSl_slice, lenStr_string, str_size, fpureA_some, fnilA_ptr, faddA_ptr, addr_add, Nat.zero_add, Nat.add_zero, fpureQ_k, fpureQ_nilA, fpureQ_addA, fpureQ_pureA, fpureQ_guardA, fpureQ_idxSlA, fpureQ_pickA, freadQ_loadA, freadQ_loadNA, freadQ_b2sA, freadQ_guardA, freadQ_slSlA, freadQ_k, fendA, fallA_one, fstillA_nil, fguardA_tt, fguardA_ff, fguardA_tf, fguardA_ft, fguardA_undef, fpickA_true, fpickA_false, fcondA_true, fcondA_false, binA_add, binA_sub, binA_mul, binA_eql, binA_neq, binA_lss, binA_leq, binA_gtr, binA_geq, unA_not, Bool.not_true, Bool.not_false, convA_int, extA_tuple, List.getElem?_toArray, List.getElem?_cons_zero, List.getElem?_cons_succ]
  by_cases h2 : b.length < k
  · have c2 : decide ((b.length : Int) < (k : Int)) = true := decide_eq_true (by omega)
    simp only [c2, lenSl_slice, lenStr_string, str_size, fpureA_some, fnilA_ptr, faddA_ptr, addr_add, Nat.zero_add, Nat.add_zero, fpureQ_k, fpureQ_nilA, fpureQ_addA, fpureQ_pureA, fpureQ_guardA, fpureQ_idxSlA, fpureQ_pickA, freadQ_loadA, freadQ_loadNA, freadQ_b2sA, freadQ_guardA, freadQ_slSlA, freadQ_k, fendA, fallA_one, fstillA_nil, fguardA_tt, fguardA_ff, fguardA_tf, fguardA_ft, fguardA_undef, fpickA_true, fpickA_false, fcondA_true, fcondA_false, binA_add, binA_sub, binA_mul, binA_eql, binA_neq, binA_lss, binA_leq, binA_gtr, binA_geq, unA_not, Bool.not_true, Bool.not_false, convA_int, extA_tuple, List.getElem?_toArray, List.getElem?_cons_zero, List.getElem?_cons_succ]
    refine none_ ?_ (s1.less (by simp))
    unfold chunkOf
    rw [if_neg h1, if_neg]
    rintro ⟨e, -⟩
    have := slotOf_some e
    simp at this
    omega
  have c2 : decide ((b.length : Int) < (k : Int)) = false := decide_eq_false (by omega)
  simp only [c2, lenSl_slice, lenStr_string, str_size, fpureA_some, fnilA_ptr, faddA_ptr, addr_add, Nat.zero_add, Nat.add_zero, fpureQ_k, fpureQ_nilA, fpureQ_addA, fpureQ_pureA, fpureQ_guardA, fpureQ_idxSlA, fpureQ_pickA, freadQ_loadA, freadQ_loadNA, freadQ_b2sA, freadQ_guardA, freadQ_slSlA, freadQ_k, fendA, fallA_one, fstillA_nil, fguardA_tt, fguardA_ff, fguardA_tf, fguardA_ft, fguardA_undef, fpickA_true, fpickA_false, fcondA_true, fcondA_false, binA_add, binA_sub, binA_mul, binA_eql, binA_neq, binA_lss, binA_leq, binA_gtr, binA_geq, unA_not, Bool.not_true, Bool.not_false, convA_int, extA_tuple, List.getElem?_toArray, List.getElem?_cons_zero, List.getElem?_cons_succ]
  refine loadA_at hB hq1 (by rfl) ?_
  simp only [lenSl_slice, lenStr_string, str_size, fpureA_some, fnilA_ptr, faddA_ptr, addr_add, Nat.zero_add, Nat.add_zero, fpureQ_k, fpureQ_nilA, fpureQ_addA, fpureQ_pureA, fpureQ_guardA, fpureQ_idxSlA, fpureQ_pickA, freadQ_loadA, freadQ_loadNA, freadQ_b2sA, freadQ_guardA, freadQ_slSlA, freadQ_k, fendA, fallA_one, fstillA_nil, fguardA_tt, fguardA_ff, fguardA_tf, fguardA_ft, fguardA_undef, fpickA_true, fpickA_false, fcondA_true, fcondA_false, binA_add, binA_sub, binA_mul, binA_eql, binA_neq, binA_lss, binA_leq, binA_gtr, binA_geq, unA_not, Bool.not_true, Bool.not_false, convA_int, extA_tuple, List.getElem?_toArray, List.getElem?_cons_zero, List.getElem?_cons_succ]
  by_cases h3 : n < 1
  · have c3 : decide (n < 1) = true := decide_eq_true h3
    simp only [c3, lenSl_slice, lenStr_string, str_size, fpureA_some, fnilA_ptr, faddA_ptr, addr_add, Nat.zero_add, Nat.add_zero, fpureQ_k, fpureQ_nilA, fpureQ_addA, fpureQ_pureA, fpureQ_guardA, fpureQ_idxSlA, fpureQ_pickA, freadQ_loadA, freadQ_loadNA, freadQ_b2sA, freadQ_guardA, freadQ_slSlA, freadQ_k, fendA, fallA_one, fstillA_nil, fguardA_tt, fguardA_ff, fguardA_tf, fguardA_ft, fguardA_undef, fpickA_true, fpickA_false, fcondA_true, fcondA_false, binA_add, binA_sub, binA_mul, binA_eql, binA_neq, binA_lss, binA_leq, binA_gtr, binA_geq, unA_not, Bool.not_true, Bool.not_false, convA_int, extA_tuple, List.getElem?_toArray, List.getElem?_cons_zero, List.getElem?_cons_succ]
    refine none_ ?_ (s1.less (by simp))
    unfold chunkOf
    rw [if_neg h1, if_neg]
    rintro ⟨e, -⟩
    have := slotOf_some e
    omega
  have c3 : decide (n < 1) = false := decide_eq_false h3
  have e3 : IntKind.i64.wrap ((b.length : Int) - (k : Int)) = ((b.length - k : Nat) : Int) := by rw [IntWalk.i64_in _ (by omega)]; omega
  simp only [c3, lenSl_slice, lenStr_string, str_size, fpureA_some, fnilA_ptr, faddA_ptr, addr_add, Nat.zero_add, Nat.add_zero, fpureQ_k, fpureQ_nilA, fpureQ_addA, fpureQ_pureA, fpureQ_guardA, fpureQ_idxSlA, fpureQ_pickA, freadQ_loadA, freadQ_loadNA, freadQ_b2sA, freadQ_guardA, freadQ_slSlA, freadQ_k, fendA, fallA_one, fstillA_nil, fguardA_tt, fguardA_ff, fguardA_tf, fguardA_ft, fguardA_undef, fpickA_true, fpickA_false, fcondA_true, fcondA_false, binA_add, binA_sub, binA_mul, binA_eql, binA_neq, binA_lss, binA_leq, binA_gtr, binA_geq, unA_not, Bool.not_true, Bool.not_false, convA_int, extA_tuple, List.getElem?_toArray, List.getElem?_cons_zero, List.getElem?_cons_succ]
  refine loadA_at hB hq1 (by rfl) ?_
  simp only [hlen, lenSl_slice, lenStr_string, str_size, fpureA_some, fnilA_ptr, faddA_ptr, addr_add, Nat.zero_add, Nat.add_zero, fpureQ_k, fpureQ_nilA, fpureQ_addA, fpureQ_pureA, fpureQ_guardA, fpureQ_idxSlA, fpureQ_pickA, freadQ_loadA, freadQ_loadNA, freadQ_b2sA, freadQ_guardA, freadQ_slSlA, freadQ_k, fendA, fallA_one, fstillA_nil, fguardA_tt, fguardA_ff, fguardA_tf, fguardA_ft, fguardA_undef, fpickA_true, fpickA_false, fcondA_true, fcondA_false, binA_add, binA_sub, binA_mul, binA_eql, binA_neq, binA_lss, binA_leq, binA_gtr, binA_geq, unA_not, Bool.not_true, Bool.not_false, convA_int, extA_tuple, List.getElem?_toArray, List.getElem?_cons_zero, List.getElem?_cons_succ]
  refine loadA_at hB hq1 (by rfl) ?_
  simp only [lenSl_slice, lenStr_string, str_size, fpureA_some, fnilA_ptr, faddA_ptr, addr_add, Nat.zero_add, Nat.add_zero, fpureQ_k, fpureQ_nilA, fpureQ_addA, fpureQ_pureA, fpureQ_guardA, fpureQ_idxSlA, fpureQ_pickA, freadQ_loadA, freadQ_loadNA, freadQ_b2sA, freadQ_guardA, freadQ_slSlA, freadQ_k, fendA, fallA_one, fstillA_nil, fguardA_tt, fguardA_ff, fguardA_tf, fguardA_ft, fguardA_undef, fpickA_true, fpickA_false, fcondA_true, fcondA_false, binA_add, binA_sub, binA_mul, binA_eql, binA_neq, binA_lss, binA_leq, binA_gtr, binA_geq, unA_not, Bool.not_true, Bool.not_false, convA_int, extA_tuple, List.getElem?_toArray, List.getElem?_cons_zero, List.getElem?_cons_succ, e3]
  by_cases h4 : ((b.length - k : Nat) : Int) < n
  · have c4 : decide (((b.length - k : Nat) : Int) < n) = true := decide_eq_true h4
    simp only [c4, lenSl_slice, lenStr_string, str_size, fpureA_some, fnilA_ptr, faddA_ptr, addr_add, Nat.zero_add, Nat.add_zero, fpureQ_k, fpureQ_nilA, fpureQ_addA, fpureQ_pureA, fpureQ_guardA, fpureQ_idxSlA, fpureQ_pickA, freadQ_loadA, freadQ_loadNA, freadQ_b2sA, freadQ_guardA, freadQ_slSlA, freadQ_k, fendA, fallA_one, fstillA_nil, fguardA_tt, fguardA_ff, fguardA_tf, fguardA_ft, fguardA_undef, fpickA_true, fpickA_false, fcondA_true, fcondA_false, binA_add, binA_sub, binA_mul, binA_eql, binA_neq, binA_lss, binA_leq, binA_gtr, binA_geq, unA_not, Bool.not_true, Bool.not_false, convA_int, extA_tuple, List.getElem?_toArray, List.getElem?_cons_zero, List.getElem?_cons_succ]
    refine none_ ?_ (s1.less (by simp))
    unfold chunkOf
    rw [if_neg h1, if_neg]
    rintro ⟨e, -⟩
    have := slotOf_some e
    simp at this
    omega
  have c4 : decide (((b.length - k : Nat) : Int) < n) = false := decide_eq_false h4
  obtain ⟨m, rfl⟩ := Int.eq_ofNat_of_zero_le (show 0 ≤ n by omega)
  have e1 : IntKind.i64.wrap ((k : Int) - 8) = ((k - 8 : Nat) : Int) := by rw [IntWalk.i64_in _ (by omega)]; omega
  simp only [c4, lenSl_slice, lenStr_string, str_size, fpureA_some, fnilA_ptr, faddA_ptr, addr_add, Nat.zero_add, Nat.add_zero, fpureQ_k, fpureQ_nilA, fpureQ_addA, fpureQ_pureA, fpureQ_guardA, fpureQ_idxSlA, fpureQ_pickA, freadQ_loadA, freadQ_loadNA, freadQ_b2sA, freadQ_guardA, freadQ_slSlA, freadQ_k, fendA, fallA_one, fstillA_nil, fguardA_tt, fguardA_ff, fguardA_tf, fguardA_ft, fguardA_undef, fpickA_true, fpickA_false, fcondA_true, fcondA_false, binA_add, binA_sub, binA_mul, binA_eql, binA_neq, binA_lss, binA_leq, binA_gtr, binA_geq, unA_not, Bool.not_true, Bool.not_false, convA_int, extA_tuple, List.getElem?_toArray, List.getElem?_cons_zero, List.getElem?_cons_succ]
  refine loadA_at hB hq1 (by rfl) ?_
  simp only [hlen, lenSl_slice, lenStr_string, str_size, fpureA_some, fnilA_ptr, faddA_ptr, addr_add, Nat.zero_add, Nat.add_zero, fpureQ_k, fpureQ_nilA, fpureQ_addA, fpureQ_pureA, fpureQ_guardA, fpureQ_idxSlA, fpureQ_pickA, freadQ_loadA, freadQ_loadNA, freadQ_b2sA, freadQ_guardA, freadQ_slSlA, freadQ_k, fendA, fallA_one, fstillA_nil, fguardA_tt, fguardA_ff, fguardA_tf, fguardA_ft, fguardA_undef, fpickA_true, fpickA_false, fcondA_true, fcondA_false, binA_add, binA_sub, binA_mul, binA_eql, binA_neq, binA_lss, binA_leq, binA_gtr, binA_geq, unA_not, Bool.not_true, Bool.not_false, convA_int, extA_tuple, List.getElem?_toArray, List.getElem?_cons_zero, List.getElem?_cons_succ, e1]
  have v1 : Bs w0 (h.new [.int .i64 (k : Int), .int .i64 (m : Int)] 2) x b := v.step f s1 (by simp)
  refine callA_of (rslot_spec v1 hb (by omega) (Nat.le_refl _)) fun r h2' ⟨⟨d, e⟩, s2⟩ f2 => ?_
  subst e
  have hq2 : h2'.blk h.next = some [.int .i64 (k : Int), .int .i64 (m : Int)] := by rw [(s2.keep _ (by simp) (by simp)).1]; simp
  have s12 : Step h h2' [] [] := ((s1.less (T := []) (by simp)).trans s2)
  cases hs : slotOf b (k - 8) b.length with
  | none =>
    simp only [Option.getD_none, Option.isSome_none, lenSl_slice, lenStr_string, str_size, fpureA_some, fnilA_ptr, faddA_ptr, addr_add, Nat.zero_add, Nat.add_zero, fpureQ_k, fpureQ_nilA, fpureQ_addA, fpureQ_pureA, fpureQ_guardA, fpureQ_idxSlA, fpureQ_pickA, freadQ_loadA, freadQ_loadNA, freadQ_b2sA, freadQ_guardA, freadQ_slSlA, freadQ_k, fendA, fallA_one, fstillA_nil, fguardA_tt, fguardA_ff, fguardA_tf, fguardA_ft, fguardA_undef, fpickA_true, fpickA_false, fcondA_true, fcondA_false, binA_add, binA_sub, binA_mul, binA_eql, binA_neq, binA_lss, binA_leq, binA_gtr, binA_geq, unA_not, Bool.not_true, Bool.not_false, convA_int, extA_tuple, List.getElem?_toArray, List.getElem?_cons_zero, List.getElem?_cons_succ]
    exact none_ (by unfold chunkOf; rw [if_neg h1]; simp [hs]) s12
  | some j =>
    obtain ⟨hm1, hm2, -⟩ := slotOf_some hs
    simp only [Option.getD_some, Option.isSome_some, lenSl_slice, lenStr_string, str_size, fpureA_some, fnilA_ptr, faddA_ptr, addr_add, Nat.zero_add, Nat.add_zero, fpureQ_k, fpureQ_nilA, fpureQ_addA, fpureQ_pureA, fpureQ_guardA, fpureQ_idxSlA, fpureQ_pickA, freadQ_loadA, freadQ_loadNA, freadQ_b2sA, freadQ_guardA, freadQ_slSlA, freadQ_k, fendA, fallA_one, fstillA_nil, fguardA_tt, fguardA_ff, fguardA_tf, fguardA_ft, fguardA_undef, fpickA_true, fpickA_false, fcondA_true, fcondA_false, binA_add, binA_sub, binA_mul, binA_eql, binA_neq, binA_lss, binA_leq, binA_gtr, binA_geq, unA_not, Bool.not_true, Bool.not_false, convA_int, extA_tuple, List.getElem?_toArray, List.getElem?_cons_zero, List.getElem?_cons_succ]
    refine loadA_at hB hq2 (by rfl) ?_
    simp only [lenSl_slice, lenStr_string, str_size, fpureA_some, fnilA_ptr, faddA_ptr, addr_add, Nat.zero_add, Nat.add_zero, fpureQ_k, fpureQ_nilA, fpureQ_addA, fpureQ_pureA, fpureQ_guardA, fpureQ_idxSlA, fpureQ_pickA, freadQ_loadA, freadQ_loadNA, freadQ_b2sA, freadQ_guardA, freadQ_slSlA, freadQ_k, fendA, fallA_one, fstillA_nil, fguardA_tt, fguardA_ff, fguardA_tf, fguardA_ft, fguardA_undef, fpickA_true, fpickA_false, fcondA_true, fcondA_false, binA_add, binA_sub, binA_mul, binA_eql, binA_neq, binA_lss, binA_leq, binA_gtr, binA_geq, unA_not, Bool.not_true, Bool.not_false, convA_int, extA_tuple, List.getElem?_toArray, List.getElem?_cons_zero, List.getElem?_cons_succ]
    by_cases hjm : j = m
    · subst hjm
      have c5 : ((j : Int) != (j : Int)) = false := by simp
      have e2 : chunkOf b k j = some ((b.drop k).take j) := by
        unfold chunkOf
        rw [if_neg h1, if_pos ⟨by simpa using hs, by omega⟩]; simp
      have e4 : IntKind.i64.wrap ((k : Int) + (j : Int)) = ((k + j : Nat) : Int) := by rw [IntWalk.i64_in _ (by omega)]; simp
      simp only [c5, lenSl_slice, lenStr_string, str_size, fpureA_some, fnilA_ptr, faddA_ptr, addr_add, Nat.zero_add, Nat.add_zero, fpureQ_k, fpureQ_nilA, fpureQ_addA, fpureQ_pureA, fpureQ_guardA, fpureQ_idxSlA, fpureQ_pickA, freadQ_loadA, freadQ_loadNA, freadQ_b2sA, freadQ_guardA, freadQ_slSlA, freadQ_k, fendA, fallA_one, fstillA_nil, fguardA_tt, fguardA_ff, fguardA_tf, fguardA_ft, fguardA_undef, fpickA_true, fpickA_false, fcondA_true, fcondA_false, binA_add, binA_sub, binA_mul, binA_eql, binA_neq, binA_lss, binA_leq, binA_gtr, binA_geq, unA_not, Bool.not_true, Bool.not_false, convA_int, extA_tuple, List.getElem?_toArray, List.getElem?_cons_zero, List.getElem?_cons_succ, bslA_iff, fillA_nil]
      have hz : zerosL [(.int .u8 0 : Value)] 0 = [] := rfl
      rw [hz]
      have s3 : Step h2' (h2'.new [] 1) [] [h2'.next] := (Step.refl h2' [] (by simp)).new _ _
      have hqn : h.next < h2'.next := by have := s2.next; simp at this; omega
      have hq3 : (h2'.new [] 1).blk h.next = some [.int .i64 (k : Int), .int .i64 (j : Int)] := by rw [(s3.keep _ hqn (by simp)).1]; exact hq2
      refine loadA_at hB hq3 (by rfl) ?_
      refine loadA_at hB hq3 (by rfl) ?_
      refine loadA_at hB hq3 (by rfl) ?_
      simp only [lenSl_slice, lenStr_string, str_size, fpureA_some, fnilA_ptr, faddA_ptr, addr_add, Nat.zero_add, Nat.add_zero, fpureQ_k, fpureQ_nilA, fpureQ_addA, fpureQ_pureA, fpureQ_guardA, fpureQ_idxSlA, fpureQ_pickA, freadQ_loadA, freadQ_loadNA, freadQ_b2sA, freadQ_guardA, freadQ_slSlA, freadQ_k, fendA, fallA_one, fstillA_nil, fguardA_tt, fguardA_ff, fguardA_tf, fguardA_ft, fguardA_undef, fpickA_true, fpickA_false, fcondA_true, fcondA_false, binA_add, binA_sub, binA_mul, binA_eql, binA_neq, binA_lss, binA_leq, binA_gtr, binA_geq, unA_not, Bool.not_true, Bool.not_false, convA_int, extA_tuple, List.getElem?_toArray, List.getElem?_cons_zero, List.getElem?_cons_succ, e4]
      have v3 : Bs w0 (h2'.new [] 1) x b := v.step f ((s12.trans s3)) (by simp)
      refine v3.cut boundA_nat boundA_nat (by omega) (by omega) fun x2 hc2 hx2 y2 => ?_
      rw [cut_eq] at y2
      obtain ⟨a2, k2, hx2'⟩ := y2.slice
      have hl2 : ((b.drop k).take j).length = j := by simp; omega
      refine appA_gv (m := j) (by have := f2.base; simp; omega) (GV.new f2.base rfl (by decide) : GV w0 (h2'.new [] 1) 1 (.slice (some ⟨h2'.next, 0, none⟩) 0 0) 0 [] [h2'.next]) (by rw [hx2', hl2]; rfl) (by have := y2.src; rw [hl2] at this; exact this) (by simp [hl2]) (by omega) (by omega) (by omega) fun x4 h4 S4 g4 s4 => ?_
      obtain ⟨a4, c4, hr⟩ := g4.slice
      simp only [retA_iff, oneOf_two, e2, chunkV]
      refine ⟨by rw [hr]; simp, ⟨x4, S4, rfl, by rw [hl2]; simpa using g4⟩, (s12.trans (s3.trans s4)).less (by simp)⟩
    · have c5 : ((j : Int) != (m : Int)) = true := by rw [bne_iff_ne]; omega
      simp only [c5, lenSl_slice, lenStr_string, str_size, fpureA_some, fnilA_ptr, faddA_ptr, addr_add, Nat.zero_add, Nat.add_zero, fpureQ_k, fpureQ_nilA, fpureQ_addA, fpureQ_pureA, fpureQ_guardA, fpureQ_idxSlA, fpureQ_pickA, freadQ_loadA, freadQ_loadNA, freadQ_b2sA, freadQ_guardA, freadQ_slSlA, freadQ_k, fendA, fallA_one, fstillA_nil, fguardA_tt, fguardA_ff, fguardA_tf, fguardA_ft, fguardA_undef, fpickA_true, fpickA_false, fcondA_true, fcondA_false, binA_add, binA_sub, binA_mul, binA_eql, binA_neq, binA_lss, binA_leq, binA_gtr, binA_geq, unA_not, Bool.not_true, Bool.not_false, convA_int, extA_tuple, List.getElem?_toArray, List.getElem?_cons_zero, List.getElem?_cons_succ]
      refine none_ ?_ s12
      unfold chunkOf
      rw [if_neg h1, if_neg (fun e => hjm (by have h1 := e.1; simp [hs] at h1; omega))]
/-! ### What is laid into a slice of one's own -/
theorem GV.write {x : Value} {n s : Nat} {cs cs' : List Value} {S : List Nat} {q : Nat} (v : GV w0 h s x n cs S) (hq : q ∈ S) (hl : cs'.length = cs.length) : GV w0 (h.put q cs') s x n cs' S := by
  have e := v.len
  rcases v with v | ⟨q', rfl, rfl, a, b, c, _, f⟩
  · rcases v with ⟨rfl, rfl, rfl, rfl⟩ | ⟨q', rfl, rfl, a, b, d, e', f⟩
    · simp at hq
    · simp at hq; subst hq
      exact .inl (.inr ⟨q, rfl, rfl, a, by simpa using b, by simp, by simpa using e', by omega⟩)
  · simp at hq; subst hq
    exact .inr ⟨q, rfl, rfl, a, by simpa using b, by simp, by omega, f⟩
/-- Where a part of it lies. -/
theorem GV.at {x : Value} {l : List Value} {n : Nat} {S : List Nat} (v : GV w0 h 1 x n l S) {lo hi : Nat} (hl : lo < hi) (hh : hi ≤ n) :
    ∃ q c, S = [q] ∧ cutV 1 x lo hi = .slice (some ⟨q, lo, none⟩) (hi - lo) c ∧ w0.heap.size ≤ q ∧ q < h.next ∧ h.blk q = some l := by
  rcases v with v | ⟨q, rfl, rfl, a, b, c, _, f⟩
  · rcases v with ⟨rfl, rfl, rfl, rfl⟩ | ⟨q, rfl, rfl, a, b, d, e', f⟩
    · omega
    · exact ⟨q, ucap, rfl, by simp [cutV], a, b, d⟩
  · exact ⟨q, n - lo, rfl, by
      simp only [cutV]
      rw [if_neg (Nat.ne_of_lt f), if_neg (by omega)]
      simp, a, b, c⟩
theorem splice_bvs (l m : List UInt8) (lo : Nat) : splice (bvs l) lo (bvs m) = bvs (l.take lo ++ m ++ l.drop (lo + m.length)) := by
  unfold splice
  simp
theorem GV.copy {x y : Value} {l m : List UInt8} {S : List Nat} {lo hi : Nat} {K : Kont} (v : GV w0 h 1 x l.length (bvs l) S) (hl : lo ≤ hi) (hh : hi ≤ l.length) (hm : m.length ≤ hi - lo) (hy : lenA y = some m.length) (hs : Src w0.heap.size h 1 y m.length (bvs m))
    (hk : ∀ r h', r ≠ junk → GV w0 h' 1 x l.length (bvs (l.take lo ++ m ++ l.drop (lo + m.length))) S → Step h h' S S → K r h') : copyA w0 1 (cutV 1 x lo hi) y K h := by
  rcases Nat.eq_zero_or_pos m.length with h0 | h0
  · have hm0 : m = [] := List.eq_nil_of_length_eq_zero h0
    subst hm0
    obtain ⟨a, c, e⟩ := (Sl.cut_sl v.sl hl hh).1.slice
    rw [e]
    refine ⟨a, _, _, 0, rfl, hy, fun _ => hk _ _ (by simp) (by simpa using v) v.refl, fun hp => by simp at hp⟩
  · obtain ⟨q, c, rfl, e, hB, hlt, hb⟩ := v.at (lo := lo) (hi := hi) (by omega) hh
    rw [e]
    refine ⟨_, _, _, m.length, rfl, hy, fun hp => by omega, fun _ => ⟨q, lo, bvs l, bvs m, rfl, hB, hb, ?_, ?_, ?_⟩⟩
    · simp; omega
    · rw [Nat.min_eq_left hm]; exact hs
    · rw [splice_bvs]
      refine hk _ _ (by simp) (v.write (by simp) (by simp; omega)) ((Step.refl h [q] (by simpa using hlt)).put (by simp) _)
theorem GV.clear {x : Value} {l : List UInt8} {S : List Nat} {lo hi : Nat} {K : Kont} (v : GV w0 h 1 x l.length (bvs l) S) (hl : lo ≤ hi) (hh : hi ≤ l.length)
    (hk : ∀ h', GV w0 h' 1 x l.length (bvs (l.take lo ++ List.replicate (hi - lo) 0 ++ l.drop hi)) S → Step h h' S S → K undef h') : clearA w0 1 [.int .u8 0] (cutV 1 x lo hi) K h := by
  rcases Nat.eq_zero_or_pos (hi - lo) with h0 | h0
  · obtain ⟨a, c, e⟩ := (Sl.cut_sl v.sl hl hh).1.slice
    have : lo = hi := by omega
    subst this
    rw [e]
    refine ⟨a, _, _, rfl, fun _ => hk _ (by simpa using v) v.refl, fun hp => by omega⟩
  · obtain ⟨q, c, rfl, e, hB, hlt, hb⟩ := v.at (lo := lo) (hi := hi) (by omega) hh
    rw [e]
    refine ⟨_, _, _, rfl, fun hp => by omega, fun _ => ⟨q, lo, bvs l, rfl, hB, hb, by simp; omega, ?_⟩⟩
    have hz : zerosL [(.int .u8 0 : Value)] (hi - lo) = bvs (List.replicate (hi - lo) 0) := by
      rw [zerosL_single]; simp [bvs, bv]
    rw [hz, splice_bvs]
    have e2 : lo + (List.replicate (hi - lo) (0 : UInt8)).length = hi := by simp; omega
    rw [e2]
    exact hk _ (v.write (by simp) (by simp; omega)) ((Step.refl h [q] (by simpa using hlt)).put (by simp) _)
end
end Go.Proofs.Ytfhamcobfpmgbaa.Ah
