/- Slots in any bytes; the chunk that lies in them. -/
import Derived.Test.YtfhamcobfpmgbaaPa
import Derived.Test.YtfhamcobfpmgbaaGlaw13
set_option linter.unusedVariables false
set_option linter.unusedSimpArgs false
namespace Go.Proofs.Ytfhamcobfpmgbaa.Ah
open Go

/-- A slot. -/
def slt (o n : Int) : Value := .agg #[.int .i64 o, .int .i64 n]
section
variable {w0 : World} {h : Hp} {K : Kont}
theorem eqSlot (w0 : World) (a b c d : Int) : eqStA prog .eql 24 (.agg #[.int .i64 a, .int .i64 b]) (.agg #[.int .i64 c, .int .i64 d]) = fun K => K (.bool (a == c && b == d)) := by
  have u3 := Try.underlying3
  have a3 := Try.isAgg3
  have z3 := Try.sizeOf3
  have hS : prog.underlying 24 = some (.struct (prog.fieldsOf 24)) := by kernel_rfl
  have hp : prog.stoodInHeld 24 = false := by kernel_rfl
  have key : ∀ w, (binOp .eql 24 (.agg #[.int .i64 a, .int .i64 b]) (.agg #[.int .i64 c, .int .i64 d])).run prog w = .ok (.bool (a == c && b == d)) w := by
    intro w
    rw [run_eql_struct, show (10000 : Nat) = 9999 + 1 from rfl, run_equalIn_agg w 9999 24 _ _ hS hp]
    simp only [Program.fieldsOf, Try.underlying24]
    go_simp
    by_cases h1 : a = c <;> by_cases h2 : b = d <;> simp [h1, h2]
  funext K h
  refine propext ⟨?_, fun hk => ?_⟩
  · rintro ⟨xs, ys, q, e1, e2, -, -, e3, -, hk⟩
    cases e1
    cases e2
    have := (e3 w0).symm.trans (key w0)
    simp at this
    subst this
    exact hk
  · refine ⟨_, _, _, rfl, rfl, fun v hv => ?_, fun v hv => ?_, key, fun w => run_eqGuard_agg w _ _ _ _ _ _ (by kernel_rfl), hk⟩
    · simp at hv; rcases hv with rfl | rfl <;> rfl
    · simp at hv; rcases hv with rfl | rfl <;> rfl
theorem neSlot (w0 : World) (a b c d : Int) : eqStA prog .neq 24 (.agg #[.int .i64 a, .int .i64 b]) (.agg #[.int .i64 c, .int .i64 d]) = fun K => K (.bool (!(a == c && b == d))) := by
  have u3 := Try.underlying3
  have a3 := Try.isAgg3
  have z3 := Try.sizeOf3
  have hS : prog.underlying 24 = some (.struct (prog.fieldsOf 24)) := by kernel_rfl
  have hp : prog.stoodInHeld 24 = false := by kernel_rfl
  have key : ∀ w, (binOp .neq 24 (.agg #[.int .i64 a, .int .i64 b]) (.agg #[.int .i64 c, .int .i64 d])).run prog w = .ok (.bool (!(a == c && b == d))) w := by
    intro w
    rw [run_neq_struct, show (10000 : Nat) = 9999 + 1 from rfl, run_equalIn_agg w 9999 24 _ _ hS hp]
    simp only [Program.fieldsOf, Try.underlying24]
    go_simp
    by_cases h1 : a = c <;> by_cases h2 : b = d <;> simp [h1, h2]
  funext K h
  refine propext ⟨?_, fun hk => ?_⟩
  · rintro ⟨xs, ys, q, e1, e2, -, -, e3, -, hk⟩
    cases e1
    cases e2
    have := (e3 w0).symm.trans (key w0)
    simp at this
    subst this
    simpa using hk
  · refine ⟨_, _, _, rfl, rfl, fun v hv => ?_, fun v hv => ?_, key, fun w => run_eqGuard_agg w _ _ _ _ _ _ (by kernel_rfl), hk⟩
    · simp at hv; rcases hv with rfl | rfl <;> rfl
    · simp at hv; rcases hv with rfl | rfl <;> rfl
/-- A struct of two cells is put into a variable and told. -/
theorem store2 {q : Nat} {cs : List Value} {a b : Value} (hq : w0.heap.size ≤ q) (hb : h.blk q = some cs) (hl : cs.length = 2) (hk : K undef (h.put q [a, b])) :
    storeNA w0 (.pointer (some ⟨q, 0, none⟩)) (.agg #[a, b]) 2 K h := by
  refine ⟨q, 0, cs, #[a, b], rfl, hq, rfl, rfl, hb, by omega, ?_⟩
  rw [splice_all _ _ (by simp [hl])]
  exact hk
theorem ret2 {q : Nat} {cs : List Value} {a b t : Value} {R : Kont} (hq : w0.heap.size ≤ q) (hb : h.blk q = some cs) (hl : cs.length = 2) (ht : t ≠ junk) (hk : R (.tuple #[.agg #[a, b], t]) (h.put q [a, b])) :
    storeNA w0 (.pointer (some ⟨q, 0, none⟩)) (.agg #[a, b]) 2 (fun _ => loadNA w0 (.pointer (some ⟨q, 0, none⟩)) 2 fun v => retA [v, t] R) h := by
  refine store2 hq hb hl (loadNA_whole (cs := [a, b]) hq (by simp) rfl ?_)
  simp only [retA_iff, oneOf_two]
  exact ⟨by simp [ht], hk⟩
end
/-- How long the chunk is whose slot begins at a place, ahead of an end. -/
def slotOf (b : List UInt8) (at_ en : Nat) : Option Nat :=
  if en < at_ + 8 then none
  else if rdn ((b.drop at_).take 4) < 1 ∨ en < at_ + 8 + rdn ((b.drop at_).take 4) then none
  else if crcOf ((b.drop at_).take 4 ++ (b.drop (at_ + 8)).take (rdn ((b.drop at_).take 4))) = rdn ((b.drop (at_ + 4)).take 4) then some (rdn ((b.drop at_).take 4)) else none
theorem slotOf_some {b : List UInt8} {at_ en n : Nat} (h : slotOf b at_ en = some n) : 1 ≤ n ∧ at_ + 8 + n ≤ en ∧ n = rdn ((b.drop at_).take 4) := by
  unfold slotOf at h
  split at h
  · simp at h
  · split at h
    · simp at h
    · split at h
      · simp at h; omega
      · simp at h
theorem cut_eq (b : List UInt8) (lo n : Nat) : (b.take (lo + n)).drop lo = (b.drop lo).take n := by rw [List.drop_take]; congr 1; omega
def slotV (o : Nat) : Option Nat → Value
  | some n => .tuple #[slt (o : Int) n, .bool true]
  | none => .tuple #[slt 0 0, .bool false]
section
variable {w0 : World} {h : Hp}
theorem slotAt_spec {x : Value} {b : List UInt8} (v : Bs w0 h x b) (hb : b.length ≤ 1000000000) {at_ en : Nat} (hat : at_ ≤ 9223372036854775807) (hen : en ≤ b.length) :
    ACalls prog w0 n_pack_slotAt [x, .int .i64 at_, .int .i64 en] h fun r h' => r = slotV (at_ + 8) (slotOf b at_ en) ∧ Step h h' [] [] := by
  refine ACalls.of_fit (by simpa using v.junk) fun f => c_pack_slotAt (by simpa using v.junk) ?_
  have c1 : decide ((at_ : Int) < 0) = false := decide_eq_false (by omega)
  have e1 : IntKind.i64.wrap ((en : Int) - 8) = (en : Int) - 8 := IntWalk.i64_in _ (by omega)
  have s0 : Step h (h.new [.int .i64 0, .int .i64 0] 2) [] [h.next] := (Step.refl h [] (by simp)).new _ _
  have fin : ∀ {h' : Hp} {S : List Nat} {cs : List Value}, Step (h.new [.int .i64 0, .int .i64 0] 2) h' [h.next] S → h.next ∈ S → Step h (h'.put h.next cs) [] [] := by
    intro h' S cs st hm
    exact ((s0.trans st).put hm cs).less (by simp)
  simp only [s_pack_slotAt, newA_iff, lenSl_slice, lenStr_string, str_size, fpureA_some, fnilA_ptr, faddA_ptr, addr_add, Nat.zero_add, Nat.add_zero, fpureQ_k, fpureQ_nilA, fpureQ_addA, fpureQ_pureA, fpureQ_guardA, fpureQ_idxSlA, fpureQ_pickA, freadQ_loadA, freadQ_loadNA, freadQ_b2sA, freadQ_guardA, freadQ_slSlA, freadQ_k, fendA, fallA_one, fstillA_nil, fguardA_tt, fguardA_ff, fguardA_tf, fguardA_ft, fguardA_undef, fpickA_true, fpickA_false, fcondA_true, fcondA_false, binA_add, binA_sub, binA_mul, binA_eql, binA_neq, binA_lss, binA_leq, binA_gtr, binA_geq, unA_not, Bool.not_true, Bool.not_false, convA_int, extA_tuple, List.getElem?_toArray, List.getElem?_cons_zero, List.getElem?_cons_succ, c1, e1]
  refine ⟨by simp, ?_⟩
  by_cases hN : en < at_ + 8
  · have c2 : decide ((en : Int) - 8 < (at_ : Int)) = true := decide_eq_true (by omega)
    have e2 : slotOf b at_ en = none := by unfold slotOf; rw [if_pos hN]
    simp only [c2, lenSl_slice, lenStr_string, str_size, fpureA_some, fnilA_ptr, faddA_ptr, addr_add, Nat.zero_add, Nat.add_zero, fpureQ_k, fpureQ_nilA, fpureQ_addA, fpureQ_pureA, fpureQ_guardA, fpureQ_idxSlA, fpureQ_pickA, freadQ_loadA, freadQ_loadNA, freadQ_b2sA, freadQ_guardA, freadQ_slSlA, freadQ_k, fendA, fallA_one, fstillA_nil, fguardA_tt, fguardA_ff, fguardA_tf, fguardA_ft, fguardA_undef, fpickA_true, fpickA_false, fcondA_true, fcondA_false, binA_add, binA_sub, binA_mul, binA_eql, binA_neq, binA_lss, binA_leq, binA_gtr, binA_geq, unA_not, Bool.not_true, Bool.not_false, convA_int, extA_tuple, List.getElem?_toArray, List.getElem?_cons_zero, List.getElem?_cons_succ, buildA_iff, fillA_nil, e2]
    refine ret2 f.base (by simp; rfl) rfl (by simp) ⟨rfl, fin (.refl _ _ (by simp)) (by simp)⟩
  · have c2 : decide ((en : Int) - 8 < (at_ : Int)) = false := decide_eq_false (by omega)
    have e3 : IntKind.i64.wrap ((at_ : Int) + 8) = ((at_ + 8 : Nat) : Int) := by rw [IntWalk.i64_in _ (by omega)]; simp
    have e4 : IntKind.i64.wrap ((at_ : Int) + 4) = ((at_ + 4 : Nat) : Int) := by rw [IntWalk.i64_in _ (by omega)]; simp
    simp only [c2, lenSl_slice, lenStr_string, str_size, fpureA_some, fnilA_ptr, faddA_ptr, addr_add, Nat.zero_add, Nat.add_zero, fpureQ_k, fpureQ_nilA, fpureQ_addA, fpureQ_pureA, fpureQ_guardA, fpureQ_idxSlA, fpureQ_pickA, freadQ_loadA, freadQ_loadNA, freadQ_b2sA, freadQ_guardA, freadQ_slSlA, freadQ_k, fendA, fallA_one, fstillA_nil, fguardA_tt, fguardA_ff, fguardA_tf, fguardA_ft, fguardA_undef, fpickA_true, fpickA_false, fcondA_true, fcondA_false, binA_add, binA_sub, binA_mul, binA_eql, binA_neq, binA_lss, binA_leq, binA_gtr, binA_geq, unA_not, Bool.not_true, Bool.not_false, convA_int, extA_tuple, List.getElem?_toArray, List.getElem?_cons_zero, List.getElem?_cons_succ, e3, e4]
    have v1 : Bs w0 (h.new [.int .i64 0, .int .i64 0] 2) x b := v.step f s0 (by simp)
    refine v1.cut boundA_nat boundA_nat (by omega) (by omega) fun x1 _ hx1 y1 => ?_
    rw [cut_eq] at y1
    refine y1.b2s ?_
    refine callA_of (NewReader_spec _ (by simp; omega)) fun vr h1 ⟨e, w1, s1⟩ f1 => ?_
    subst e
    have hl8 : ((b.drop at_).take 8).length = 8 := by simp; omega
    have r1 : ((⟨(b.drop at_).take 8, 0⟩ : RS).raw 4) = ((b.drop at_).take 4, ⟨(b.drop (at_ + 4)).take 4, 0⟩) := by
      unfold RS.raw
      rw [if_neg (by simp), if_neg (by omega), if_neg (by simp only [hl8]; omega)]
      rw [show (4 : Int).toNat = 4 from rfl]
      simp only [List.take_take, Prod.mk.injEq, RS.mk.injEq, and_true]
      refine ⟨rfl, ?_⟩
      rw [List.drop_take, List.drop_drop]
    have r2 : ((⟨(b.drop (at_ + 4)).take 4, 0⟩ : RS).raw 4).1 = (b.drop (at_ + 4)).take 4 := by
      have hl4 : ((b.drop (at_ + 4)).take 4).length = 4 := by simp; omega
      unfold RS.raw
      rw [if_neg (by simp), if_neg (by omega), if_neg (by simp only [hl4]; omega)]
      exact List.take_of_length_le (Nat.le_of_eq hl4)
    refine callA_of (RU32_spec w1) fun vn h2 ⟨e, w2, s2⟩ f2 => ?_
    subst e
    rw [r1] at w2 ⊢
    obtain ⟨n, hn⟩ : ∃ n, n = rdn ((b.drop at_).take 4) := ⟨_, rfl⟩
    have hnl : n < 4294967296 := by
      rw [hn]
      have := rdn_raw ⟨(b.drop at_).take 8, 0⟩ 4
      rw [show ((4 : Nat) : Int) = 4 from rfl, r1] at this
      exact this
    have e5 : IntKind.i64.wrap (n : Int) = (n : Int) := IntWalk.i64_in _ (by omega)
    simp only [← hn, lenSl_slice, lenStr_string, str_size, fpureA_some, fnilA_ptr, faddA_ptr, addr_add, Nat.zero_add, Nat.add_zero, fpureQ_k, fpureQ_nilA, fpureQ_addA, fpureQ_pureA, fpureQ_guardA, fpureQ_idxSlA, fpureQ_pickA, freadQ_loadA, freadQ_loadNA, freadQ_b2sA, freadQ_guardA, freadQ_slSlA, freadQ_k, fendA, fallA_one, fstillA_nil, fguardA_tt, fguardA_ff, fguardA_tf, fguardA_ft, fguardA_undef, fpickA_true, fpickA_false, fcondA_true, fcondA_false, binA_add, binA_sub, binA_mul, binA_eql, binA_neq, binA_lss, binA_leq, binA_gtr, binA_geq, unA_not, Bool.not_true, Bool.not_false, convA_int, extA_tuple, List.getElem?_toArray, List.getElem?_cons_zero, List.getElem?_cons_succ, e5]
    refine callA_of (RU32_spec w2) fun vm h3 ⟨e, w3, s3⟩ f3 => ?_
    subst e
    rw [r2]
    have e6 : IntKind.i64.wrap ((en : Int) - ((at_ + 8 : Nat) : Int)) = ((en - (at_ + 8) : Nat) : Int) := by rw [IntWalk.i64_in _ (by omega)]; omega
    have st : Step (h.new [.int .i64 0, .int .i64 0] 2) h3 [h.next] [h.next] := (((s1.trans s2).trans s3).wide (T := [h.next]) (T' := [h.next]) (by simp) (fun b hb => by simp at hb; subst hb; exact .inr ⟨by simp, by simp⟩))
    have hq : h3.blk h.next = some [.int .i64 0, .int .i64 0] := by
      rw [(((s1.trans s2).trans s3).keep h.next (by simp) (by simp)).1]; simp
    by_cases h2' : n < 1
    · have c3 : decide ((n : Int) < 1) = true := decide_eq_true (by omega)
      have e2 : slotOf b at_ en = none := by unfold slotOf; rw [if_neg hN, ← hn, if_pos (.inl h2')]
      simp only [c3, lenSl_slice, lenStr_string, str_size, fpureA_some, fnilA_ptr, faddA_ptr, addr_add, Nat.zero_add, Nat.add_zero, fpureQ_k, fpureQ_nilA, fpureQ_addA, fpureQ_pureA, fpureQ_guardA, fpureQ_idxSlA, fpureQ_pickA, freadQ_loadA, freadQ_loadNA, freadQ_b2sA, freadQ_guardA, freadQ_slSlA, freadQ_k, fendA, fallA_one, fstillA_nil, fguardA_tt, fguardA_ff, fguardA_tf, fguardA_ft, fguardA_undef, fpickA_true, fpickA_false, fcondA_true, fcondA_false, binA_add, binA_sub, binA_mul, binA_eql, binA_neq, binA_lss, binA_leq, binA_gtr, binA_geq, unA_not, Bool.not_true, Bool.not_false, convA_int, extA_tuple, List.getElem?_toArray, List.getElem?_cons_zero, List.getElem?_cons_succ, buildA_iff, fillA_nil, e2]
      exact ret2 f.base hq rfl (by simp) ⟨rfl, fin st (by simp)⟩
    · have c3 : decide ((n : Int) < 1) = false := decide_eq_false (by omega)
      simp only [c3, e6, lenSl_slice, lenStr_string, str_size, fpureA_some, fnilA_ptr, faddA_ptr, addr_add, Nat.zero_add, Nat.add_zero, fpureQ_k, fpureQ_nilA, fpureQ_addA, fpureQ_pureA, fpureQ_guardA, fpureQ_idxSlA, fpureQ_pickA, freadQ_loadA, freadQ_loadNA, freadQ_b2sA, freadQ_guardA, freadQ_slSlA, freadQ_k, fendA, fallA_one, fstillA_nil, fguardA_tt, fguardA_ff, fguardA_tf, fguardA_ft, fguardA_undef, fpickA_true, fpickA_false, fcondA_true, fcondA_false, binA_add, binA_sub, binA_mul, binA_eql, binA_neq, binA_lss, binA_leq, binA_gtr, binA_geq, unA_not, Bool.not_true, Bool.not_false, convA_int, extA_tuple, List.getElem?_toArray, List.getElem?_cons_zero, List.getElem?_cons_succ]
      by_cases h3' : en < at_ + 8 + n
      · have c4 : decide (((en - (at_ + 8) : Nat) : Int) < (n : Int)) = true := decide_eq_true (by omega)
        have e2 : slotOf b at_ en = none := by unfold slotOf; rw [if_neg hN, ← hn, if_pos (.inr h3')]
        simp only [c4, e6, lenSl_slice, lenStr_string, str_size, fpureA_some, fnilA_ptr, faddA_ptr, addr_add, Nat.zero_add, Nat.add_zero, fpureQ_k, fpureQ_nilA, fpureQ_addA, fpureQ_pureA, fpureQ_guardA, fpureQ_idxSlA, fpureQ_pickA, freadQ_loadA, freadQ_loadNA, freadQ_b2sA, freadQ_guardA, freadQ_slSlA, freadQ_k, fendA, fallA_one, fstillA_nil, fguardA_tt, fguardA_ff, fguardA_tf, fguardA_ft, fguardA_undef, fpickA_true, fpickA_false, fcondA_true, fcondA_false, binA_add, binA_sub, binA_mul, binA_eql, binA_neq, binA_lss, binA_leq, binA_gtr, binA_geq, unA_not, Bool.not_true, Bool.not_false, convA_int, extA_tuple, List.getElem?_toArray, List.getElem?_cons_zero, List.getElem?_cons_succ, buildA_iff, fillA_nil, e2]
        exact ret2 f.base hq rfl (by simp) ⟨rfl, fin st (by simp)⟩
      · have c4 : decide (((en - (at_ + 8) : Nat) : Int) < (n : Int)) = false := decide_eq_false (by omega)
        have e7 : IntKind.i64.wrap (((at_ + 8 : Nat) : Int) + (n : Int)) = ((at_ + 8 + n : Nat) : Int) := by rw [IntWalk.i64_in _ (by omega)]; simp
        simp only [c4, e6, lenSl_slice, lenStr_string, str_size, fpureA_some, fnilA_ptr, faddA_ptr, addr_add, Nat.zero_add, Nat.add_zero, fpureQ_k, fpureQ_nilA, fpureQ_addA, fpureQ_pureA, fpureQ_guardA, fpureQ_idxSlA, fpureQ_pickA, freadQ_loadA, freadQ_loadNA, freadQ_b2sA, freadQ_guardA, freadQ_slSlA, freadQ_k, fendA, fallA_one, fstillA_nil, fguardA_tt, fguardA_ff, fguardA_tf, fguardA_ft, fguardA_undef, fpickA_true, fpickA_false, fcondA_true, fcondA_false, binA_add, binA_sub, binA_mul, binA_eql, binA_neq, binA_lss, binA_leq, binA_gtr, binA_geq, unA_not, Bool.not_true, Bool.not_false, convA_int, extA_tuple, List.getElem?_toArray, List.getElem?_cons_zero, List.getElem?_cons_succ, e4, e7]
        have v3 : Bs w0 h3 x b := v.step f ((s0.trans st).less (T := []) (by simp)) (by simp)
        refine v3.cut boundA_nat boundA_nat (by omega) (by omega) fun x2 _ hx2 y2 => ?_
        rw [cut_eq] at y2
        refine y2.b2s ?_
        refine v3.cut boundA_nat boundA_nat (by omega) (by omega) fun x3 _ hx3 y3 => ?_
        rw [cut_eq] at y3
        refine y3.b2s ?_
        have ha : binA .add (.string (str ((b.drop at_).take 4))) (.string (str ((b.drop (at_ + 8)).take n))) = some (.string (str ((b.drop at_).take 4 ++ (b.drop (at_ + 8)).take n))) := by
          rw [strA_add _ _ (by simp; omega), str_append]
        simp only [ha, lenSl_slice, lenStr_string, str_size, fpureA_some, fnilA_ptr, faddA_ptr, addr_add, Nat.zero_add, Nat.add_zero, fpureQ_k, fpureQ_nilA, fpureQ_addA, fpureQ_pureA, fpureQ_guardA, fpureQ_idxSlA, fpureQ_pickA, freadQ_loadA, freadQ_loadNA, freadQ_b2sA, freadQ_guardA, freadQ_slSlA, freadQ_k, fendA, fallA_one, fstillA_nil, fguardA_tt, fguardA_ff, fguardA_tf, fguardA_ft, fguardA_undef, fpickA_true, fpickA_false, fcondA_true, fcondA_false, binA_add, binA_sub, binA_mul, binA_eql, binA_neq, binA_lss, binA_leq, binA_gtr, binA_geq, unA_not, Bool.not_true, Bool.not_false, convA_int, extA_tuple, List.getElem?_toArray, List.getElem?_cons_zero, List.getElem?_cons_succ]
        refine callA_of (Crc_spec _ (by simp; omega)) fun vc h4 ⟨e, e4'⟩ f4 => ?_
        subst e e4'
        simp only [lenSl_slice, lenStr_string, str_size, fpureA_some, fnilA_ptr, faddA_ptr, addr_add, Nat.zero_add, Nat.add_zero, fpureQ_k, fpureQ_nilA, fpureQ_addA, fpureQ_pureA, fpureQ_guardA, fpureQ_idxSlA, fpureQ_pickA, freadQ_loadA, freadQ_loadNA, freadQ_b2sA, freadQ_guardA, freadQ_slSlA, freadQ_k, fendA, fallA_one, fstillA_nil, fguardA_tt, fguardA_ff, fguardA_tf, fguardA_ft, fguardA_undef, fpickA_true, fpickA_false, fcondA_true, fcondA_false, binA_add, binA_sub, binA_mul, binA_eql, binA_neq, binA_lss, binA_leq, binA_gtr, binA_geq, unA_not, Bool.not_true, Bool.not_false, convA_int, extA_tuple, List.getElem?_toArray, List.getElem?_cons_zero, List.getElem?_cons_succ]
        by_cases h4' : crcOf ((b.drop at_).take 4 ++ (b.drop (at_ + 8)).take n) = rdn ((b.drop (at_ + 4)).take 4)
        · have c5 : (((crcOf ((b.drop at_).take 4 ++ (b.drop (at_ + 8)).take n) : Nat) : Int) != ((rdn ((b.drop (at_ + 4)).take 4) : Nat) : Int)) = false := by rw [h4']; simp
          have e2 : slotOf b at_ en = some n := by unfold slotOf; rw [if_neg hN, ← hn, if_neg (by omega), if_pos h4']
          simp only [c5, lenSl_slice, lenStr_string, str_size, fpureA_some, fnilA_ptr, faddA_ptr, addr_add, Nat.zero_add, Nat.add_zero, fpureQ_k, fpureQ_nilA, fpureQ_addA, fpureQ_pureA, fpureQ_guardA, fpureQ_idxSlA, fpureQ_pickA, freadQ_loadA, freadQ_loadNA, freadQ_b2sA, freadQ_guardA, freadQ_slSlA, freadQ_k, fendA, fallA_one, fstillA_nil, fguardA_tt, fguardA_ff, fguardA_tf, fguardA_ft, fguardA_undef, fpickA_true, fpickA_false, fcondA_true, fcondA_false, binA_add, binA_sub, binA_mul, binA_eql, binA_neq, binA_lss, binA_leq, binA_gtr, binA_geq, unA_not, Bool.not_true, Bool.not_false, convA_int, extA_tuple, List.getElem?_toArray, List.getElem?_cons_zero, List.getElem?_cons_succ, buildA_iff, fillA_one, fillA_nil, isCell_int, true_and, List.set_cons_zero, List.set_cons_succ, List.length_cons, List.length_nil, e2]
          exact ⟨by omega, by omega, ret2 f.base hq rfl (by simp) ⟨rfl, fin st (by simp)⟩⟩
        · have c5 : (((crcOf ((b.drop at_).take 4 ++ (b.drop (at_ + 8)).take n) : Nat) : Int) != ((rdn ((b.drop (at_ + 4)).take 4) : Nat) : Int)) = true := by
            rw [bne_iff_ne]; intro e; exact h4' (by exact_mod_cast e)
          have e2 : slotOf b at_ en = none := by unfold slotOf; rw [if_neg hN, ← hn, if_neg (by omega), if_neg h4']
          simp only [c5, lenSl_slice, lenStr_string, str_size, fpureA_some, fnilA_ptr, faddA_ptr, addr_add, Nat.zero_add, Nat.add_zero, fpureQ_k, fpureQ_nilA, fpureQ_addA, fpureQ_pureA, fpureQ_guardA, fpureQ_idxSlA, fpureQ_pickA, freadQ_loadA, freadQ_loadNA, freadQ_b2sA, freadQ_guardA, freadQ_slSlA, freadQ_k, fendA, fallA_one, fstillA_nil, fguardA_tt, fguardA_ff, fguardA_tf, fguardA_ft, fguardA_undef, fpickA_true, fpickA_false, fcondA_true, fcondA_false, binA_add, binA_sub, binA_mul, binA_eql, binA_neq, binA_lss, binA_leq, binA_gtr, binA_geq, unA_not, Bool.not_true, Bool.not_false, convA_int, extA_tuple, List.getElem?_toArray, List.getElem?_cons_zero, List.getElem?_cons_succ, buildA_iff, fillA_nil, e2]
          exact ret2 f.base hq rfl (by simp) ⟨rfl, fin st (by simp)⟩
end
end Go.Proofs.Ytfhamcobfpmgbaa.Ah
