/- LayoutParts: the walk. -/
import Derived.Test.YtihebhdgjnibfaaLchecks
set_option linter.unusedVariables false
set_option linter.unusedSimpArgs false
namespace Go.Proofs.Ytihebhdgjnibfaa.Ah
open Go

section
variable {w0 : World} {h0 h : Hp} {s : Shp}
/-- Blocks of one's own, and what they hold. -/
def Owns (w0 : World) (h : Hp) (l : List (Nat × List Value)) : Prop := ∀ p, p ∈ l → h.blk p.1 = some p.2 ∧ w0.heap.size ≤ p.1 ∧ p.1 < h.next
theorem Owns.call {h' : Hp} {l : List (Nat × List Value)} (o : Owns w0 h l) (st : Step h h' [] []) : Owns w0 h' l := fun p hp => by
  obtain ⟨a, b, c⟩ := o p hp
  exact ⟨(st.keep _ c (by simp)).1.trans a, b, by have := st.next; omega⟩
theorem Owns.new {l : List (Nat × List Value)} (o : Owns w0 h l) (hB : w0.heap.size ≤ h.next) (cs : List Value) (n : Nat) : Owns w0 (h.new cs n) ((h.next, cs) :: l) := fun p hp => by
  rcases List.mem_cons.1 hp with rfl | hp
  · exact ⟨by simp, hB, by simp⟩
  · obtain ⟨a, b, c⟩ := o p hp
    have : p.1 ≠ h.next := by omega
    exact ⟨by simpa [this] using a, b, by simp; omega⟩
theorem Owns.put {l : List (Nat × List Value)} (o : Owns w0 h l) {q : Nat} {cs : List Value} (hq : w0.heap.size ≤ q ∧ q < h.next) (hne : ∀ p, p ∈ l → p.1 ≠ q) : Owns w0 (h.put q cs) ((q, cs) :: l) := fun p hp => by
  rcases List.mem_cons.1 hp with rfl | hp
  · exact ⟨by simp, hq.1, by simpa using hq.2⟩
  · obtain ⟨a, b, c⟩ := o p hp
    exact ⟨by simpa [hne p hp] using a, b, by simpa using c⟩
theorem Owns.one {p : Nat} {a : List Value} {l : List (Nat × List Value)} (o : Owns w0 h ((p, a) :: l)) : h.blk p = some a ∧ w0.heap.size ≤ p ∧ p < h.next := o (p, a) (List.mem_cons_self ..)
theorem Owns.tl {p : Nat} {a : List Value} {l : List (Nat × List Value)} (o : Owns w0 h ((p, a) :: l)) : Owns w0 h l := fun x hx => o x (List.mem_cons_of_mem _ hx)
theorem parts_loop {k0 kr : Value → Value → Hp → Prop} {p q3 q4 : Nat} (i : s.In) (g : s.good = true) : ∀ (m : Nat) (n : Nat) (h : Hp), n + m = s.tot.toNat → Owns w0 h [(p, s.e), (q3, [.int .i64 2, .int .i64 s.jou]), (q4, [.int .i64 (2 + s.jou), .int .i64 (s.tot - 2 - s.jou)])] →
    (∀ h', Owns w0 h' [(p, s.e), (q3, [.int .i64 2, .int .i64 s.jou]), (q4, [.int .i64 (2 + s.jou), .int .i64 (s.tot - 2 - s.jou)])] → k0 (.pointer (some ⟨p, 0, none⟩)) (.bool false) h') →
    deduplaw04_LayoutParts_L1 prog w0 k0 kr (m + 1) (.pointer (some ⟨p, 0, none⟩)) (.bool false) (.pointer (some ⟨q3, 0, none⟩)) (.pointer (some ⟨q4, 0, none⟩)) (.int .i64 (n : Int)) h := by
  have G := s.good_iff.1 g
  have gj := G.jou
  have gt := G.tot
  intro m
  induction m with
  | zero =>
    intro n h hn o hk
    obtain ⟨a1, a2, a3⟩ := o.one
    have c1 : decide ((n : Int) < s.tot) = false := decide_eq_false (by omega)
    rw [deduplaw04_LayoutParts_L1]
    simp only [deduplaw04_LayoutParts_B1, lenSl_slice, lenStr_string, str_size, fpureA_some, fnilA_ptr, faddA_ptr, addr_add, Nat.zero_add, Nat.add_zero, fpureQ_k, fpureQ_nilA, fpureQ_addA, fpureQ_pureA, fpureQ_guardA, fpureQ_idxSlA, fpureQ_pickA, freadQ_loadA, freadQ_loadNA, freadQ_b2sA, freadQ_guardA, freadQ_slSlA, freadQ_k, fendA, fallA_one, fstillA_nil, fguardA_tt, fguardA_ff, fguardA_tf, fguardA_ft, fguardA_undef, fpickA_true, fpickA_false, fcondA_true, fcondA_false, binA_add, binA_sub, binA_mul, binA_eql, binA_neq, binA_lss, binA_leq, binA_gtr, binA_geq, unA_not, Bool.not_true, Bool.not_false, convA_int, extA_tuple, List.getElem?_toArray, List.getElem?_cons_zero, List.getElem?_cons_succ]
    refine loadA_at a2 a1 (by rfl) ?_
    simp only [c1, lenSl_slice, lenStr_string, str_size, fpureA_some, fnilA_ptr, faddA_ptr, addr_add, Nat.zero_add, Nat.add_zero, fpureQ_k, fpureQ_nilA, fpureQ_addA, fpureQ_pureA, fpureQ_guardA, fpureQ_idxSlA, fpureQ_pickA, freadQ_loadA, freadQ_loadNA, freadQ_b2sA, freadQ_guardA, freadQ_slSlA, freadQ_k, fendA, fallA_one, fstillA_nil, fguardA_tt, fguardA_ff, fguardA_tf, fguardA_ft, fguardA_undef, fpickA_true, fpickA_false, fcondA_true, fcondA_false, binA_add, binA_sub, binA_mul, binA_eql, binA_neq, binA_lss, binA_leq, binA_gtr, binA_geq, unA_not, Bool.not_true, Bool.not_false, convA_int, extA_tuple, List.getElem?_toArray, List.getElem?_cons_zero, List.getElem?_cons_succ]
    exact hk h o
  | succ m ih =>
    intro n h hn o hk
    obtain ⟨a1, a2, a3⟩ := o.one
    have c1 : decide ((n : Int) < s.tot) = true := decide_eq_true (by omega)
    have e5 : IntKind.i64.wrap ((n : Int) + 1) = ((n + 1 : Nat) : Int) := by rw [IntWalk.i64_in _ (by omega)]; simp
    rw [deduplaw04_LayoutParts_L1]
    simp only [deduplaw04_LayoutParts_B1, lenSl_slice, lenStr_string, str_size, fpureA_some, fnilA_ptr, faddA_ptr, addr_add, Nat.zero_add, Nat.add_zero, fpureQ_k, fpureQ_nilA, fpureQ_addA, fpureQ_pureA, fpureQ_guardA, fpureQ_idxSlA, fpureQ_pickA, freadQ_loadA, freadQ_loadNA, freadQ_b2sA, freadQ_guardA, freadQ_slSlA, freadQ_k, fendA, fallA_one, fstillA_nil, fguardA_tt, fguardA_ff, fguardA_tf, fguardA_ft, fguardA_undef, fpickA_true, fpickA_false, fcondA_true, fcondA_false, binA_add, binA_sub, binA_mul, binA_eql, binA_neq, binA_lss, binA_leq, binA_gtr, binA_geq, unA_not, Bool.not_true, Bool.not_false, convA_int, extA_tuple, List.getElem?_toArray, List.getElem?_cons_zero, List.getElem?_cons_succ]
    refine loadA_at a2 a1 (by rfl) ?_
    simp only [c1, lenSl_slice, lenStr_string, str_size, fpureA_some, fnilA_ptr, faddA_ptr, addr_add, Nat.zero_add, Nat.add_zero, fpureQ_k, fpureQ_nilA, fpureQ_addA, fpureQ_pureA, fpureQ_guardA, fpureQ_idxSlA, fpureQ_pickA, freadQ_loadA, freadQ_loadNA, freadQ_b2sA, freadQ_guardA, freadQ_slSlA, freadQ_k, fendA, fallA_one, fstillA_nil, fguardA_tt, fguardA_ff, fguardA_tf, fguardA_ft, fguardA_undef, fpickA_true, fpickA_false, fcondA_true, fcondA_false, binA_add, binA_sub, binA_mul, binA_eql, binA_neq, binA_lss, binA_leq, binA_gtr, binA_geq, unA_not, Bool.not_true, Bool.not_false, convA_int, extA_tuple, List.getElem?_toArray, List.getElem?_cons_zero, List.getElem?_cons_succ]
    refine loadNA_whole a2 a1 rfl ?_
    refine callA_of (Kind_spec i (n : Int) (by unfold i64R; omega)) fun v h1 ⟨e, s1⟩ f1 => ?_
    subst e
    have o1 := o.call s1
    obtain ⟨b1, b2, b3⟩ := o1.tl.one
    obtain ⟨d1, d2, d3⟩ := o1.tl.tl.one
    have hkd : s.kind (n : Int) = if (n : Int) < 2 then 1 else if (n : Int) < 2 + s.jou then 2 else 3 := by
      unfold Shp.kind
      rw [if_neg]
      simp [g]
      omega
    by_cases h2 : (n : Int) < 2
    · have k1 : s.kind (n : Int) = 1 := by rw [hkd, if_pos h2]
      have z1 : ((1 : Int) == 1) = true := rfl
      have z2 : ((1 : Int) == 2) = false := rfl
      have z3 : ((1 : Int) == 3) = false := rfl
      have c2 : decide ((n : Int) < 2) = true := decide_eq_true h2
      have c3 : decide ((2 : Int) ≤ (n : Int)) = false := decide_eq_false (by omega)
      have c4 : decide (2 + s.jou ≤ (n : Int)) = false := decide_eq_false (by omega)
      simp only [k1, z1, z2, z3, c2, lenSl_slice, lenStr_string, str_size, fpureA_some, fnilA_ptr, faddA_ptr, addr_add, Nat.zero_add, Nat.add_zero, fpureQ_k, fpureQ_nilA, fpureQ_addA, fpureQ_pureA, fpureQ_guardA, fpureQ_idxSlA, fpureQ_pickA, freadQ_loadA, freadQ_loadNA, freadQ_b2sA, freadQ_guardA, freadQ_slSlA, freadQ_k, fendA, fallA_one, fstillA_nil, fguardA_tt, fguardA_ff, fguardA_tf, fguardA_ft, fguardA_undef, fpickA_true, fpickA_false, fcondA_true, fcondA_false, binA_add, binA_sub, binA_mul, binA_eql, binA_neq, binA_lss, binA_leq, binA_gtr, binA_geq, unA_not, Bool.not_true, Bool.not_false, convA_int, extA_tuple, List.getElem?_toArray, List.getElem?_cons_zero, List.getElem?_cons_succ, binBoolA_neq, beq_self_eq_true, bne_self_eq_false]
      refine loadA_at b2 b1 (by rfl) ?_
      simp only [c3, z1, z2, z3, lenSl_slice, lenStr_string, str_size, fpureA_some, fnilA_ptr, faddA_ptr, addr_add, Nat.zero_add, Nat.add_zero, fpureQ_k, fpureQ_nilA, fpureQ_addA, fpureQ_pureA, fpureQ_guardA, fpureQ_idxSlA, fpureQ_pickA, freadQ_loadA, freadQ_loadNA, freadQ_b2sA, freadQ_guardA, freadQ_slSlA, freadQ_k, fendA, fallA_one, fstillA_nil, fguardA_tt, fguardA_ff, fguardA_tf, fguardA_ft, fguardA_undef, fpickA_true, fpickA_false, fcondA_true, fcondA_false, binA_add, binA_sub, binA_mul, binA_eql, binA_neq, binA_lss, binA_leq, binA_gtr, binA_geq, unA_not, Bool.not_true, Bool.not_false, convA_int, extA_tuple, List.getElem?_toArray, List.getElem?_cons_zero, List.getElem?_cons_succ, binBoolA_neq, beq_self_eq_true, bne_self_eq_false]
      refine loadA_at d2 d1 (by rfl) ?_
      simp only [c4, z1, z2, z3, lenSl_slice, lenStr_string, str_size, fpureA_some, fnilA_ptr, faddA_ptr, addr_add, Nat.zero_add, Nat.add_zero, fpureQ_k, fpureQ_nilA, fpureQ_addA, fpureQ_pureA, fpureQ_guardA, fpureQ_idxSlA, fpureQ_pickA, freadQ_loadA, freadQ_loadNA, freadQ_b2sA, freadQ_guardA, freadQ_slSlA, freadQ_k, fendA, fallA_one, fstillA_nil, fguardA_tt, fguardA_ff, fguardA_tf, fguardA_ft, fguardA_undef, fpickA_true, fpickA_false, fcondA_true, fcondA_false, binA_add, binA_sub, binA_mul, binA_eql, binA_neq, binA_lss, binA_leq, binA_gtr, binA_geq, unA_not, Bool.not_true, Bool.not_false, convA_int, extA_tuple, List.getElem?_toArray, List.getElem?_cons_zero, List.getElem?_cons_succ, binBoolA_neq, beq_self_eq_true, bne_self_eq_false, e5]
      exact ih (n + 1) h1 (by omega) o1 hk
    · have c2 : decide ((n : Int) < 2) = false := decide_eq_false h2
      have c3 : decide ((2 : Int) ≤ (n : Int)) = true := decide_eq_true (by omega)
      by_cases h3 : (n : Int) < 2 + s.jou
      · have k1 : s.kind (n : Int) = 2 := by rw [hkd, if_neg h2, if_pos h3]
        have z1 : ((2 : Int) == 1) = false := rfl
        have z2 : ((2 : Int) == 2) = true := rfl
        have z3 : ((2 : Int) == 3) = false := rfl
        have c4 : decide ((n : Int) < 2 + s.jou) = true := decide_eq_true h3
        have c5 : decide (2 + s.jou ≤ (n : Int)) = false := decide_eq_false (by omega)
        simp only [k1, z1, z2, z3, c2, lenSl_slice, lenStr_string, str_size, fpureA_some, fnilA_ptr, faddA_ptr, addr_add, Nat.zero_add, Nat.add_zero, fpureQ_k, fpureQ_nilA, fpureQ_addA, fpureQ_pureA, fpureQ_guardA, fpureQ_idxSlA, fpureQ_pickA, freadQ_loadA, freadQ_loadNA, freadQ_b2sA, freadQ_guardA, freadQ_slSlA, freadQ_k, fendA, fallA_one, fstillA_nil, fguardA_tt, fguardA_ff, fguardA_tf, fguardA_ft, fguardA_undef, fpickA_true, fpickA_false, fcondA_true, fcondA_false, binA_add, binA_sub, binA_mul, binA_eql, binA_neq, binA_lss, binA_leq, binA_gtr, binA_geq, unA_not, Bool.not_true, Bool.not_false, convA_int, extA_tuple, List.getElem?_toArray, List.getElem?_cons_zero, List.getElem?_cons_succ, binBoolA_neq, beq_self_eq_true, bne_self_eq_false]
        refine loadA_at b2 b1 (by rfl) ?_
        simp only [c3, z1, z2, z3, lenSl_slice, lenStr_string, str_size, fpureA_some, fnilA_ptr, faddA_ptr, addr_add, Nat.zero_add, Nat.add_zero, fpureQ_k, fpureQ_nilA, fpureQ_addA, fpureQ_pureA, fpureQ_guardA, fpureQ_idxSlA, fpureQ_pickA, freadQ_loadA, freadQ_loadNA, freadQ_b2sA, freadQ_guardA, freadQ_slSlA, freadQ_k, fendA, fallA_one, fstillA_nil, fguardA_tt, fguardA_ff, fguardA_tf, fguardA_ft, fguardA_undef, fpickA_true, fpickA_false, fcondA_true, fcondA_false, binA_add, binA_sub, binA_mul, binA_eql, binA_neq, binA_lss, binA_leq, binA_gtr, binA_geq, unA_not, Bool.not_true, Bool.not_false, convA_int, extA_tuple, List.getElem?_toArray, List.getElem?_cons_zero, List.getElem?_cons_succ, binBoolA_neq, beq_self_eq_true, bne_self_eq_false]
        refine loadA_at d2 d1 (by rfl) ?_
        simp only [c4, z1, z2, z3, lenSl_slice, lenStr_string, str_size, fpureA_some, fnilA_ptr, faddA_ptr, addr_add, Nat.zero_add, Nat.add_zero, fpureQ_k, fpureQ_nilA, fpureQ_addA, fpureQ_pureA, fpureQ_guardA, fpureQ_idxSlA, fpureQ_pickA, freadQ_loadA, freadQ_loadNA, freadQ_b2sA, freadQ_guardA, freadQ_slSlA, freadQ_k, fendA, fallA_one, fstillA_nil, fguardA_tt, fguardA_ff, fguardA_tf, fguardA_ft, fguardA_undef, fpickA_true, fpickA_false, fcondA_true, fcondA_false, binA_add, binA_sub, binA_mul, binA_eql, binA_neq, binA_lss, binA_leq, binA_gtr, binA_geq, unA_not, Bool.not_true, Bool.not_false, convA_int, extA_tuple, List.getElem?_toArray, List.getElem?_cons_zero, List.getElem?_cons_succ, binBoolA_neq, beq_self_eq_true, bne_self_eq_false]
        refine loadA_at d2 d1 (by rfl) ?_
        simp only [c5, z1, z2, z3, lenSl_slice, lenStr_string, str_size, fpureA_some, fnilA_ptr, faddA_ptr, addr_add, Nat.zero_add, Nat.add_zero, fpureQ_k, fpureQ_nilA, fpureQ_addA, fpureQ_pureA, fpureQ_guardA, fpureQ_idxSlA, fpureQ_pickA, freadQ_loadA, freadQ_loadNA, freadQ_b2sA, freadQ_guardA, freadQ_slSlA, freadQ_k, fendA, fallA_one, fstillA_nil, fguardA_tt, fguardA_ff, fguardA_tf, fguardA_ft, fguardA_undef, fpickA_true, fpickA_false, fcondA_true, fcondA_false, binA_add, binA_sub, binA_mul, binA_eql, binA_neq, binA_lss, binA_leq, binA_gtr, binA_geq, unA_not, Bool.not_true, Bool.not_false, convA_int, extA_tuple, List.getElem?_toArray, List.getElem?_cons_zero, List.getElem?_cons_succ, binBoolA_neq, beq_self_eq_true, bne_self_eq_false, e5]
        exact ih (n + 1) h1 (by omega) o1 hk
      · have k1 : s.kind (n : Int) = 3 := by rw [hkd, if_neg h2, if_neg h3]
        have z1 : ((3 : Int) == 1) = false := rfl
        have z2 : ((3 : Int) == 2) = false := rfl
        have z3 : ((3 : Int) == 3) = true := rfl
        have c4 : decide ((n : Int) < 2 + s.jou) = false := decide_eq_false h3
        have c5 : decide (2 + s.jou ≤ (n : Int)) = true := decide_eq_true (by omega)
        simp only [k1, z1, z2, z3, c2, lenSl_slice, lenStr_string, str_size, fpureA_some, fnilA_ptr, faddA_ptr, addr_add, Nat.zero_add, Nat.add_zero, fpureQ_k, fpureQ_nilA, fpureQ_addA, fpureQ_pureA, fpureQ_guardA, fpureQ_idxSlA, fpureQ_pickA, freadQ_loadA, freadQ_loadNA, freadQ_b2sA, freadQ_guardA, freadQ_slSlA, freadQ_k, fendA, fallA_one, fstillA_nil, fguardA_tt, fguardA_ff, fguardA_tf, fguardA_ft, fguardA_undef, fpickA_true, fpickA_false, fcondA_true, fcondA_false, binA_add, binA_sub, binA_mul, binA_eql, binA_neq, binA_lss, binA_leq, binA_gtr, binA_geq, unA_not, Bool.not_true, Bool.not_false, convA_int, extA_tuple, List.getElem?_toArray, List.getElem?_cons_zero, List.getElem?_cons_succ, binBoolA_neq, beq_self_eq_true, bne_self_eq_false]
        refine loadA_at b2 b1 (by rfl) ?_
        simp only [c3, z1, z2, z3, lenSl_slice, lenStr_string, str_size, fpureA_some, fnilA_ptr, faddA_ptr, addr_add, Nat.zero_add, Nat.add_zero, fpureQ_k, fpureQ_nilA, fpureQ_addA, fpureQ_pureA, fpureQ_guardA, fpureQ_idxSlA, fpureQ_pickA, freadQ_loadA, freadQ_loadNA, freadQ_b2sA, freadQ_guardA, freadQ_slSlA, freadQ_k, fendA, fallA_one, fstillA_nil, fguardA_tt, fguardA_ff, fguardA_tf, fguardA_ft, fguardA_undef, fpickA_true, fpickA_false, fcondA_true, fcondA_false, binA_add, binA_sub, binA_mul, binA_eql, binA_neq, binA_lss, binA_leq, binA_gtr, binA_geq, unA_not, Bool.not_true, Bool.not_false, convA_int, extA_tuple, List.getElem?_toArray, List.getElem?_cons_zero, List.getElem?_cons_succ, binBoolA_neq, beq_self_eq_true, bne_self_eq_false]
        refine loadA_at d2 d1 (by rfl) ?_
        simp only [c4, z1, z2, z3, lenSl_slice, lenStr_string, str_size, fpureA_some, fnilA_ptr, faddA_ptr, addr_add, Nat.zero_add, Nat.add_zero, fpureQ_k, fpureQ_nilA, fpureQ_addA, fpureQ_pureA, fpureQ_guardA, fpureQ_idxSlA, fpureQ_pickA, freadQ_loadA, freadQ_loadNA, freadQ_b2sA, freadQ_guardA, freadQ_slSlA, freadQ_k, fendA, fallA_one, fstillA_nil, fguardA_tt, fguardA_ff, fguardA_tf, fguardA_ft, fguardA_undef, fpickA_true, fpickA_false, fcondA_true, fcondA_false, binA_add, binA_sub, binA_mul, binA_eql, binA_neq, binA_lss, binA_leq, binA_gtr, binA_geq, unA_not, Bool.not_true, Bool.not_false, convA_int, extA_tuple, List.getElem?_toArray, List.getElem?_cons_zero, List.getElem?_cons_succ, binBoolA_neq, beq_self_eq_true, bne_self_eq_false]
        refine loadA_at d2 d1 (by rfl) ?_
        simp only [c5, z1, z2, z3, lenSl_slice, lenStr_string, str_size, fpureA_some, fnilA_ptr, faddA_ptr, addr_add, Nat.zero_add, Nat.add_zero, fpureQ_k, fpureQ_nilA, fpureQ_addA, fpureQ_pureA, fpureQ_guardA, fpureQ_idxSlA, fpureQ_pickA, freadQ_loadA, freadQ_loadNA, freadQ_b2sA, freadQ_guardA, freadQ_slSlA, freadQ_k, fendA, fallA_one, fstillA_nil, fguardA_tt, fguardA_ff, fguardA_tf, fguardA_ft, fguardA_undef, fpickA_true, fpickA_false, fcondA_true, fcondA_false, binA_add, binA_sub, binA_mul, binA_eql, binA_neq, binA_lss, binA_leq, binA_gtr, binA_geq, unA_not, Bool.not_true, Bool.not_false, convA_int, extA_tuple, List.getElem?_toArray, List.getElem?_cons_zero, List.getElem?_cons_succ, binBoolA_neq, beq_self_eq_true, bne_self_eq_false, e5]
        exact ih (n + 1) h1 (by omega) o1 hk
/-- The argument, and new areas. -/
def St (w0 : World) (h : Hp) (p : Nat) (s : Shp) (zs : List Nat) : Prop :=
  (h.blk p = some s.e ∧ w0.heap.size ≤ p ∧ p < h.next) ∧ zs.Nodup ∧ ∀ q, q ∈ zs → h.blk q = some [.int .i64 0, .int .i64 0] ∧ w0.heap.size ≤ q ∧ q < h.next ∧ q ≠ p
theorem St.call {p : Nat} {zs : List Nat} {h' : Hp} (o : St w0 h p s zs) (t : Step h h' [] []) : St w0 h' p s zs := by
  obtain ⟨⟨a, b, c⟩, d, e⟩ := o
  refine ⟨⟨(t.keep _ c (by simp)).1.trans a, b, by have := t.next; omega⟩, d, fun q hq => ?_⟩
  obtain ⟨x, y, z, w⟩ := e q hq
  exact ⟨(t.keep _ z (by simp)).1.trans x, y, by have := t.next; omega, w⟩
theorem St.new {p : Nat} {zs : List Nat} (o : St w0 h p s zs) : St w0 (h.new [.int .i64 0, .int .i64 0] 2) p s (h.next :: zs) := by
  obtain ⟨⟨a, b, c⟩, d, e⟩ := o
  refine ⟨⟨by have : p ≠ h.next := by omega
              simpa [this] using a, b, by simp; omega⟩, List.nodup_cons.2 ⟨fun hm => by have := (e _ hm).2.2.1; omega, d⟩, fun q hq => ?_⟩
  rcases List.mem_cons.1 hq with rfl | hq
  · exact ⟨by simp, by omega, by simp, by omega⟩
  · obtain ⟨x, y, z, w⟩ := e q hq
    have : q ≠ h.next := by omega
    exact ⟨by simpa [this] using x, y, by simp; omega, w⟩
theorem St.load {p : Nat} {zs : List Nat} {K : Kont} (o : St w0 h p s zs) (hK : K (.agg s.e.toArray) h) : loadNA w0 (.pointer (some ⟨p, 0, none⟩)) 10 K h := loadNA_whole o.1.2.1 o.1.1 rfl hK
theorem St.fin {p x y a b : Nat} {K : Hp → Prop} (o : St w0 h p s [x, y]) (hab : (a = x ∧ b = y) ∨ (a = y ∧ b = x)) (hK : ∀ h', Owns w0 h' [(p, s.e), (a, [.int .i64 2, .int .i64 s.jou]), (b, [.int .i64 (2 + s.jou), .int .i64 (s.tot - 2 - s.jou)])] → K h') :
    storeNA w0 (.pointer (some ⟨a, 0, none⟩)) (area 2 s.jou) 2 (fun _ => storeNA w0 (.pointer (some ⟨b, 0, none⟩)) (area (2 + s.jou) (s.tot - 2 - s.jou)) 2 fun _ => K) h := by
  obtain ⟨⟨a1, a2, a3⟩, d, e⟩ := o
  have hxy : x ≠ y := by
    have := (List.nodup_cons.1 d).1
    simpa using this
  have ha : a ∈ [x, y] := by rcases hab with ⟨rfl, rfl⟩ | ⟨rfl, rfl⟩ <;> simp
  have hb : b ∈ [x, y] := by rcases hab with ⟨rfl, rfl⟩ | ⟨rfl, rfl⟩ <;> simp
  have hne : a ≠ b := by
    rcases hab with ⟨rfl, rfl⟩ | ⟨rfl, rfl⟩
    · exact hxy
    · exact hxy.symm
  obtain ⟨x1, x2, x3, x4⟩ := e a ha
  obtain ⟨y1, y2, y3, y4⟩ := e b hb
  refine storeN0 x2 x1 rfl rfl (by rfl) (storeN0 y2 (by simpa [hne.symm] using y1) rfl rfl (by rfl) (hK _ fun q hq => ?_))
  simp only [List.mem_cons, List.not_mem_nil, or_false] at hq
  rcases hq with rfl | rfl | rfl
  · exact ⟨by simp [x4.symm, y4.symm, a1], a2, by simpa using a3⟩
  · exact ⟨by simp [hne], x2, by simpa using x3⟩
  · exact ⟨by simp, y2, by simpa using y3⟩
theorem LayoutParts_top (i : s.In) : ACalls prog w0 n_deduplaw04_LayoutParts [.agg s.e.toArray] h fun v h' => v = .bool true := by
  refine ACalls.of_fit (by simp) fun f => c_deduplaw04_LayoutParts (by simp) ?_
  simp only [s_deduplaw04_LayoutParts, boxA_agg, List.toList_toArray]
  have o1 : Owns w0 (h.new s.e 10) [(h.next, s.e)] := fun p hp => by
    simp at hp
    subst hp
    exact ⟨by simp, f.base, by simp⟩
  generalize h.next = p at o1 ⊢
  generalize h.new s.e 10 = h1 at o1 ⊢
  refine callA_of awake_spec fun v h2 ⟨e, s2⟩ f2 => ?_
  subst e
  have o2 := o1.call s2
  obtain ⟨a1, a2, a3⟩ := o2.one
  simp only [lenSl_slice, lenStr_string, str_size, fpureA_some, fnilA_ptr, faddA_ptr, addr_add, Nat.zero_add, Nat.add_zero, fpureQ_k, fpureQ_nilA, fpureQ_addA, fpureQ_pureA, fpureQ_guardA, fpureQ_idxSlA, fpureQ_pickA, freadQ_loadA, freadQ_loadNA, freadQ_b2sA, freadQ_guardA, freadQ_slSlA, freadQ_k, fendA, fallA_one, fstillA_nil, fguardA_tt, fguardA_ff, fguardA_tf, fguardA_ft, fguardA_undef, fpickA_true, fpickA_false, fcondA_true, fcondA_false, binA_add, binA_sub, binA_mul, binA_eql, binA_neq, binA_lss, binA_leq, binA_gtr, binA_geq, unA_not, Bool.not_true, Bool.not_false, convA_int, extA_tuple, List.getElem?_toArray, List.getElem?_cons_zero, List.getElem?_cons_succ]
  refine loadNA_whole a2 a1 rfl ?_
  refine callA_of (Check_spec i) fun v h3 ⟨e, s3⟩ f3 => ?_
  subst e
  have o3 := o2.call s3
  cases g : s.good with
  | false =>
    have c1 : (s.check != 0) = true := by simp [Shp.check, g]
    obtain ⟨a1, a2, a3⟩ := o3.one
    simp only [c1, lenSl_slice, lenStr_string, str_size, fpureA_some, fnilA_ptr, faddA_ptr, addr_add, Nat.zero_add, Nat.add_zero, fpureQ_k, fpureQ_nilA, fpureQ_addA, fpureQ_pureA, fpureQ_guardA, fpureQ_idxSlA, fpureQ_pickA, freadQ_loadA, freadQ_loadNA, freadQ_b2sA, freadQ_guardA, freadQ_slSlA, freadQ_k, fendA, fallA_one, fstillA_nil, fguardA_tt, fguardA_ff, fguardA_tf, fguardA_ft, fguardA_undef, fpickA_true, fpickA_false, fcondA_true, fcondA_false, binA_add, binA_sub, binA_mul, binA_eql, binA_neq, binA_lss, binA_leq, binA_gtr, binA_geq, unA_not, Bool.not_true, Bool.not_false, convA_int, extA_tuple, List.getElem?_toArray, List.getElem?_cons_zero, List.getElem?_cons_succ]
    refine loadNA_whole a2 a1 rfl ?_
    refine callA_of (Kind_spec i 2 (by unfold i64R; omega)) fun v h4 ⟨e, s4⟩ f4 => ?_
    subst e
    have o4 := o3.call s4
    obtain ⟨a1, a2, a3⟩ := o4.one
    have c2 : (s.kind 2 == 0) = true := by simp [Shp.kind, g]
    simp only [c2, lenSl_slice, lenStr_string, str_size, fpureA_some, fnilA_ptr, faddA_ptr, addr_add, Nat.zero_add, Nat.add_zero, fpureQ_k, fpureQ_nilA, fpureQ_addA, fpureQ_pureA, fpureQ_guardA, fpureQ_idxSlA, fpureQ_pickA, freadQ_loadA, freadQ_loadNA, freadQ_b2sA, freadQ_guardA, freadQ_slSlA, freadQ_k, fendA, fallA_one, fstillA_nil, fguardA_tt, fguardA_ff, fguardA_tf, fguardA_ft, fguardA_undef, fpickA_true, fpickA_false, fcondA_true, fcondA_false, binA_add, binA_sub, binA_mul, binA_eql, binA_neq, binA_lss, binA_leq, binA_gtr, binA_geq, unA_not, Bool.not_true, Bool.not_false, convA_int, extA_tuple, List.getElem?_toArray, List.getElem?_cons_zero, List.getElem?_cons_succ]
    refine loadNA_whole a2 a1 rfl ?_
    refine callA_of (Journal_spec i) fun v h5 ⟨e, s5⟩ f5 => ?_
    subst e
    have hj : s.journal = (0, 0) := by simp [Shp.journal, g]
    rw [hj]
    simp only [buildA_iff, fillA_nil, area, eqArea w0, beq_self_eq_true, Bool.and_self, lenSl_slice, lenStr_string, str_size, fpureA_some, fnilA_ptr, faddA_ptr, addr_add, Nat.zero_add, Nat.add_zero, fpureQ_k, fpureQ_nilA, fpureQ_addA, fpureQ_pureA, fpureQ_guardA, fpureQ_idxSlA, fpureQ_pickA, freadQ_loadA, freadQ_loadNA, freadQ_b2sA, freadQ_guardA, freadQ_slSlA, freadQ_k, fendA, fallA_one, fstillA_nil, fguardA_tt, fguardA_ff, fguardA_tf, fguardA_ft, fguardA_undef, fpickA_true, fpickA_false, fcondA_true, fcondA_false, binA_add, binA_sub, binA_mul, binA_eql, binA_neq, binA_lss, binA_leq, binA_gtr, binA_geq, unA_not, Bool.not_true, Bool.not_false, convA_int, extA_tuple, List.getElem?_toArray, List.getElem?_cons_zero, List.getElem?_cons_succ, retA_iff, oneOf_one]
    simp
  | true =>
    have G := s.good_iff.1 g
    have gj := G.jou
    have gt := G.tot
    have c1 : (s.check != 0) = false := by simp [Shp.check, g]
    have hj : s.journal = (2, s.jou) := by simp [Shp.journal, g]
    have hd : s.data = (2 + s.jou, s.tot - 2 - s.jou) := by simp [Shp.data, g]
    have JS : ∀ {h : Hp}, ACalls prog w0 n_layout_Journal [s.v] h fun v h' => v = area 2 s.jou ∧ Step h h' [] [] := by
      intro h
      have := Journal_spec (w0 := w0) (h := h) i
      rwa [hj] at this
    have DS : ∀ {h : Hp}, ACalls prog w0 n_layout_Data [s.v] h fun v h' => v = area (2 + s.jou) (s.tot - 2 - s.jou) ∧ Step h h' [] [] := by
      intro h
      have := Data_spec (w0 := w0) (h := h) i
      rwa [hd] at this
    have z0 : ((2 : Int) != 2) = false := rfl
    have e1 : IntKind.i64.wrap (2 + s.jou) = 2 + s.jou := IntWalk.i64_in _ (by omega)
    have e2 : IntKind.i64.wrap (2 + s.jou + (s.tot - 2 - s.jou)) = s.tot := by rw [IntWalk.i64_in _ (by omega)]; omega
    have k1 : decide (s.jou < 2) = false := decide_eq_false (by omega)
    have k2 : decide (s.tot - 2 - s.jou < 1) = false := decide_eq_false (by omega)
    have k3 : decide (4096 < s.tot) = false := decide_eq_false (by omega)
    have k4 : (s.kind (-1) == 0) = true := by simp [Shp.kind]
    have k5 : (s.kind s.tot == 0) = true := by simp [Shp.kind]
    have o : St w0 h3 p s [] := ⟨o3.one, List.nodup_nil, by simp⟩
    simp only [c1, lenSl_slice, lenStr_string, str_size, fpureA_some, fnilA_ptr, faddA_ptr, addr_add, Nat.zero_add, Nat.add_zero, fpureQ_k, fpureQ_nilA, fpureQ_addA, fpureQ_pureA, fpureQ_guardA, fpureQ_idxSlA, fpureQ_pickA, freadQ_loadA, freadQ_loadNA, freadQ_b2sA, freadQ_guardA, freadQ_slSlA, freadQ_k, fendA, fallA_one, fstillA_nil, fguardA_tt, fguardA_ff, fguardA_tf, fguardA_ft, fguardA_undef, fpickA_true, fpickA_false, fcondA_true, fcondA_false, binA_add, binA_sub, binA_mul, binA_eql, binA_neq, binA_lss, binA_leq, binA_gtr, binA_geq, unA_not, Bool.not_true, Bool.not_false, convA_int, extA_tuple, List.getElem?_toArray, List.getElem?_cons_zero, List.getElem?_cons_succ]
    refine o.load (o.load ?_)
    try simp only [lenSl_slice, lenStr_string, str_size, fpureA_some, fnilA_ptr, faddA_ptr, addr_add, Nat.zero_add, Nat.add_zero, fpureQ_k, fpureQ_nilA, fpureQ_addA, fpureQ_pureA, fpureQ_guardA, fpureQ_idxSlA, fpureQ_pickA, freadQ_loadA, freadQ_loadNA, freadQ_b2sA, freadQ_guardA, freadQ_slSlA, freadQ_k, fendA, fallA_one, fstillA_nil, fguardA_tt, fguardA_ff, fguardA_tf, fguardA_ft, fguardA_undef, fpickA_true, fpickA_false, fcondA_true, fcondA_false, binA_add, binA_sub, binA_mul, binA_eql, binA_neq, binA_lss, binA_leq, binA_gtr, binA_geq, unA_not, Bool.not_true, Bool.not_false, convA_int, extA_tuple, List.getElem?_toArray, List.getElem?_cons_zero, List.getElem?_cons_succ]
    repeat any_goals first
      | rw [allA_one]
      | (rw [allA_cons]; refine ⟨?_, ?_⟩)
      | (refine callA_of JS fun _ _ ⟨e, t⟩ _ => ?_
         subst e
         replace o := o.call t
         first
           | (rw [stillA_iff]; refine ⟨by first | trivial | (simp only [allA_cons, allA_one, sameQ_loadNA]; first | exact o.load rfl | exact ⟨o.load rfl, o.load rfl⟩), ?_⟩)
           | skip)
      | (refine callA_of DS fun _ _ ⟨e, t⟩ _ => ?_
         subst e
         replace o := o.call t
         first
           | (rw [stillA_iff]; refine ⟨by first | trivial | (simp only [allA_cons, allA_one, sameQ_loadNA]; first | exact o.load rfl | exact ⟨o.load rfl, o.load rfl⟩), ?_⟩)
           | skip)
      | (rw [newA_iff]
         refine ⟨by simp, ?_⟩
         replace o := o.new
         first
           | (rw [stillA_iff]; refine ⟨by first | trivial | (simp only [allA_cons, allA_one, sameQ_loadNA]; first | exact o.load rfl | exact ⟨o.load rfl, o.load rfl⟩), ?_⟩)
           | skip)
    all_goals
      refine St.fin o (by simp) fun h5 o5 => ?_
      clear o
      obtain ⟨a1, a2, a3⟩ := o5.one
      obtain ⟨b1, b2, b3⟩ := o5.tl.one
      obtain ⟨d1, d2, d3⟩ := o5.tl.tl.one
      try simp only [lenSl_slice, lenStr_string, str_size, fpureA_some, fnilA_ptr, faddA_ptr, addr_add, Nat.zero_add, Nat.add_zero, fpureQ_k, fpureQ_nilA, fpureQ_addA, fpureQ_pureA, fpureQ_guardA, fpureQ_idxSlA, fpureQ_pickA, freadQ_loadA, freadQ_loadNA, freadQ_b2sA, freadQ_guardA, freadQ_slSlA, freadQ_k, fendA, fallA_one, fstillA_nil, fguardA_tt, fguardA_ff, fguardA_tf, fguardA_ft, fguardA_undef, fpickA_true, fpickA_false, fcondA_true, fcondA_false, binA_add, binA_sub, binA_mul, binA_eql, binA_neq, binA_lss, binA_leq, binA_gtr, binA_geq, unA_not, Bool.not_true, Bool.not_false, convA_int, extA_tuple, List.getElem?_toArray, List.getElem?_cons_zero, List.getElem?_cons_succ]
      refine loadA_at b2 b1 (by rfl) ?_
      simp only [z0, lenSl_slice, lenStr_string, str_size, fpureA_some, fnilA_ptr, faddA_ptr, addr_add, Nat.zero_add, Nat.add_zero, fpureQ_k, fpureQ_nilA, fpureQ_addA, fpureQ_pureA, fpureQ_guardA, fpureQ_idxSlA, fpureQ_pickA, freadQ_loadA, freadQ_loadNA, freadQ_b2sA, freadQ_guardA, freadQ_slSlA, freadQ_k, fendA, fallA_one, fstillA_nil, fguardA_tt, fguardA_ff, fguardA_tf, fguardA_ft, fguardA_undef, fpickA_true, fpickA_false, fcondA_true, fcondA_false, binA_add, binA_sub, binA_mul, binA_eql, binA_neq, binA_lss, binA_leq, binA_gtr, binA_geq, unA_not, Bool.not_true, Bool.not_false, convA_int, extA_tuple, List.getElem?_toArray, List.getElem?_cons_zero, List.getElem?_cons_succ]
      refine loadA_at d2 d1 (by rfl) ?_
      refine loadA_at b2 b1 (by rfl) ?_
      refine loadA_at b2 b1 (by rfl) ?_
      simp only [e1, lenSl_slice, lenStr_string, str_size, fpureA_some, fnilA_ptr, faddA_ptr, addr_add, Nat.zero_add, Nat.add_zero, fpureQ_k, fpureQ_nilA, fpureQ_addA, fpureQ_pureA, fpureQ_guardA, fpureQ_idxSlA, fpureQ_pickA, freadQ_loadA, freadQ_loadNA, freadQ_b2sA, freadQ_guardA, freadQ_slSlA, freadQ_k, fendA, fallA_one, fstillA_nil, fguardA_tt, fguardA_ff, fguardA_tf, fguardA_ft, fguardA_undef, fpickA_true, fpickA_false, fcondA_true, fcondA_false, binA_add, binA_sub, binA_mul, binA_eql, binA_neq, binA_lss, binA_leq, binA_gtr, binA_geq, unA_not, Bool.not_true, Bool.not_false, convA_int, extA_tuple, List.getElem?_toArray, List.getElem?_cons_zero, List.getElem?_cons_succ, bne_self_eq_false]
      refine loadA_at d2 d1 (by rfl) ?_
      refine loadA_at d2 d1 (by rfl) ?_
      simp only [e2, lenSl_slice, lenStr_string, str_size, fpureA_some, fnilA_ptr, faddA_ptr, addr_add, Nat.zero_add, Nat.add_zero, fpureQ_k, fpureQ_nilA, fpureQ_addA, fpureQ_pureA, fpureQ_guardA, fpureQ_idxSlA, fpureQ_pickA, freadQ_loadA, freadQ_loadNA, freadQ_b2sA, freadQ_guardA, freadQ_slSlA, freadQ_k, fendA, fallA_one, fstillA_nil, fguardA_tt, fguardA_ff, fguardA_tf, fguardA_ft, fguardA_undef, fpickA_true, fpickA_false, fcondA_true, fcondA_false, binA_add, binA_sub, binA_mul, binA_eql, binA_neq, binA_lss, binA_leq, binA_gtr, binA_geq, unA_not, Bool.not_true, Bool.not_false, convA_int, extA_tuple, List.getElem?_toArray, List.getElem?_cons_zero, List.getElem?_cons_succ]
      refine loadA_at a2 a1 (by rfl) ?_
      simp only [lenSl_slice, lenStr_string, str_size, fpureA_some, fnilA_ptr, faddA_ptr, addr_add, Nat.zero_add, Nat.add_zero, fpureQ_k, fpureQ_nilA, fpureQ_addA, fpureQ_pureA, fpureQ_guardA, fpureQ_idxSlA, fpureQ_pickA, freadQ_loadA, freadQ_loadNA, freadQ_b2sA, freadQ_guardA, freadQ_slSlA, freadQ_k, fendA, fallA_one, fstillA_nil, fguardA_tt, fguardA_ff, fguardA_tf, fguardA_ft, fguardA_undef, fpickA_true, fpickA_false, fcondA_true, fcondA_false, binA_add, binA_sub, binA_mul, binA_eql, binA_neq, binA_lss, binA_leq, binA_gtr, binA_geq, unA_not, Bool.not_true, Bool.not_false, convA_int, extA_tuple, List.getElem?_toArray, List.getElem?_cons_zero, List.getElem?_cons_succ, bne_self_eq_false]
      refine loadA_at b2 b1 (by rfl) ?_
      simp only [k1, lenSl_slice, lenStr_string, str_size, fpureA_some, fnilA_ptr, faddA_ptr, addr_add, Nat.zero_add, Nat.add_zero, fpureQ_k, fpureQ_nilA, fpureQ_addA, fpureQ_pureA, fpureQ_guardA, fpureQ_idxSlA, fpureQ_pickA, freadQ_loadA, freadQ_loadNA, freadQ_b2sA, freadQ_guardA, freadQ_slSlA, freadQ_k, fendA, fallA_one, fstillA_nil, fguardA_tt, fguardA_ff, fguardA_tf, fguardA_ft, fguardA_undef, fpickA_true, fpickA_false, fcondA_true, fcondA_false, binA_add, binA_sub, binA_mul, binA_eql, binA_neq, binA_lss, binA_leq, binA_gtr, binA_geq, unA_not, Bool.not_true, Bool.not_false, convA_int, extA_tuple, List.getElem?_toArray, List.getElem?_cons_zero, List.getElem?_cons_succ]
      refine loadA_at d2 d1 (by rfl) ?_
      simp only [k2, lenSl_slice, lenStr_string, str_size, fpureA_some, fnilA_ptr, faddA_ptr, addr_add, Nat.zero_add, Nat.add_zero, fpureQ_k, fpureQ_nilA, fpureQ_addA, fpureQ_pureA, fpureQ_guardA, fpureQ_idxSlA, fpureQ_pickA, freadQ_loadA, freadQ_loadNA, freadQ_b2sA, freadQ_guardA, freadQ_slSlA, freadQ_k, fendA, fallA_one, fstillA_nil, fguardA_tt, fguardA_ff, fguardA_tf, fguardA_ft, fguardA_undef, fpickA_true, fpickA_false, fcondA_true, fcondA_false, binA_add, binA_sub, binA_mul, binA_eql, binA_neq, binA_lss, binA_leq, binA_gtr, binA_geq, unA_not, Bool.not_true, Bool.not_false, convA_int, extA_tuple, List.getElem?_toArray, List.getElem?_cons_zero, List.getElem?_cons_succ]
      refine loadA_at a2 a1 (by rfl) ?_
      simp only [k3, lenSl_slice, lenStr_string, str_size, fpureA_some, fnilA_ptr, faddA_ptr, addr_add, Nat.zero_add, Nat.add_zero, fpureQ_k, fpureQ_nilA, fpureQ_addA, fpureQ_pureA, fpureQ_guardA, fpureQ_idxSlA, fpureQ_pickA, freadQ_loadA, freadQ_loadNA, freadQ_b2sA, freadQ_guardA, freadQ_slSlA, freadQ_k, fendA, fallA_one, fstillA_nil, fguardA_tt, fguardA_ff, fguardA_tf, fguardA_ft, fguardA_undef, fpickA_true, fpickA_false, fcondA_true, fcondA_false, binA_add, binA_sub, binA_mul, binA_eql, binA_neq, binA_lss, binA_leq, binA_gtr, binA_geq, unA_not, Bool.not_true, Bool.not_false, convA_int, extA_tuple, List.getElem?_toArray, List.getElem?_cons_zero, List.getElem?_cons_succ]
      refine ⟨s.tot.toNat + 1, parts_loop i g s.tot.toNat 0 h5 (by omega) o5 fun h6 o6 => ?_⟩
      obtain ⟨a1, a2, a3⟩ := o6.one
      refine loadNA_whole a2 a1 rfl ?_
      refine callA_of (Kind_spec i (-1) (by unfold i64R; omega)) fun v h7 ⟨e, s7⟩ f7 => ?_
      subst e
      have o7 := o6.call s7
      obtain ⟨a1, a2, a3⟩ := o7.one
      simp only [k4, lenSl_slice, lenStr_string, str_size, fpureA_some, fnilA_ptr, faddA_ptr, addr_add, Nat.zero_add, Nat.add_zero, fpureQ_k, fpureQ_nilA, fpureQ_addA, fpureQ_pureA, fpureQ_guardA, fpureQ_idxSlA, fpureQ_pickA, freadQ_loadA, freadQ_loadNA, freadQ_b2sA, freadQ_guardA, freadQ_slSlA, freadQ_k, fendA, fallA_one, fstillA_nil, fguardA_tt, fguardA_ff, fguardA_tf, fguardA_ft, fguardA_undef, fpickA_true, fpickA_false, fcondA_true, fcondA_false, binA_add, binA_sub, binA_mul, binA_eql, binA_neq, binA_lss, binA_leq, binA_gtr, binA_geq, unA_not, Bool.not_true, Bool.not_false, convA_int, extA_tuple, List.getElem?_toArray, List.getElem?_cons_zero, List.getElem?_cons_succ]
      refine loadNA_whole a2 a1 rfl ?_
      refine loadA_at (v := .int .i64 s.tot) a2 a1 (by rfl) ?_
      refine callA_of (Kind_spec i s.tot i.tot) fun v h8 ⟨e, s8⟩ f8 => ?_
      subst e
      simp only [k5, lenSl_slice, lenStr_string, str_size, fpureA_some, fnilA_ptr, faddA_ptr, addr_add, Nat.zero_add, Nat.add_zero, fpureQ_k, fpureQ_nilA, fpureQ_addA, fpureQ_pureA, fpureQ_guardA, fpureQ_idxSlA, fpureQ_pickA, freadQ_loadA, freadQ_loadNA, freadQ_b2sA, freadQ_guardA, freadQ_slSlA, freadQ_k, fendA, fallA_one, fstillA_nil, fguardA_tt, fguardA_ff, fguardA_tf, fguardA_ft, fguardA_undef, fpickA_true, fpickA_false, fcondA_true, fcondA_false, binA_add, binA_sub, binA_mul, binA_eql, binA_neq, binA_lss, binA_leq, binA_gtr, binA_geq, unA_not, Bool.not_true, Bool.not_false, convA_int, extA_tuple, List.getElem?_toArray, List.getElem?_cons_zero, List.getElem?_cons_succ, retA_iff, oneOf_one]
      simp
end
end Go.Proofs.Ytihebhdgjnibfaa.Ah
