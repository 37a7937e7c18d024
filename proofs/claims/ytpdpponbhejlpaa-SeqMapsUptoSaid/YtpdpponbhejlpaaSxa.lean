/- seq: texts in order; where a key stands in a list. -/
import Derived.Test.YtpdpponbhejlpaaAh30
import Derived.Test.YtpdpponbhejlpaaGseq
import Derived.Test.YtpdpponbhejlpaaGsl
set_option linter.unusedVariables false
set_option linter.unusedSimpArgs false
namespace Go.Proofs.Ytpdpponbhejlpaa.Ah
open Go
abbrev Key := List UInt8
def blt (a b : Key) : Bool := Op.bytesLess a b
theorem blt_irrefl : ∀ a : Key, blt a a = false := by
  intro a
  induction a with
  | nil => rfl
  | cons x a ih => unfold blt at ih ⊢; simp [Op.bytesLess, ih]
theorem blt_trans : ∀ {a b c : Key}, blt a b = true → blt b c = true → blt a c = true := by
  intro a
  induction a with
  | nil =>
    intro b c h1 h2
    cases c with
    | nil => cases b <;> simp [blt, Op.bytesLess] at h2
    | cons z c => rfl
  | cons x a ih =>
    intro b c h1 h2
    cases b with
    | nil => simp [blt, Op.bytesLess] at h1
    | cons y b =>
      cases c with
      | nil => simp [blt, Op.bytesLess] at h2
      | cons z c =>
        simp only [blt, Op.bytesLess, Bool.or_eq_true, Bool.and_eq_true, decide_eq_true_eq, beq_iff_eq] at h1 h2 ⊢
        rcases h1 with h1 | ⟨rfl, h1⟩
        · rcases h2 with h2 | ⟨rfl, h2⟩
          · left; exact UInt8.lt_trans h1 h2
          · left; exact h1
        · rcases h2 with h2 | ⟨rfl, h2⟩
          · left; exact h2
          · right; exact ⟨rfl, ih h1 h2⟩
theorem blt_tri : ∀ {a b : Key}, blt a b = false → blt b a = false → a = b := by
  intro a
  induction a with
  | nil =>
    intro b h1 h2
    cases b with
    | nil => rfl
    | cons y b => simp [blt, Op.bytesLess] at h1
  | cons x a ih =>
    intro b h1 h2
    cases b with
    | nil => simp [blt, Op.bytesLess] at h2
    | cons y b =>
      simp only [blt, Op.bytesLess, Bool.or_eq_false_iff, Bool.and_eq_false_iff, decide_eq_false_iff_not, beq_eq_false_iff_ne] at h1 h2
      have hxy : x = y := by
        have a1 : ¬ x.toNat < y.toNat := fun q => h1.1 (UInt8.lt_iff_toNat_lt.2 q)
        have a2 : ¬ y.toNat < x.toNat := fun q => h2.1 (UInt8.lt_iff_toNat_lt.2 q)
        exact UInt8.toNat_inj.1 (by omega)
      subst hxy
      have b1 : blt a b = false := by
        rcases h1.2 with q | q
        · exact absurd rfl q
        · exact q
      have b2 : blt b a = false := by
        rcases h2.2 with q | q
        · exact absurd rfl q
        · exact q
      rw [ih b1 b2]
theorem blt_asymm {a b : Key} (h : blt a b = true) : blt b a = false := by
  cases e : blt b a with
  | false => rfl
  | true => have := blt_trans h e; rw [blt_irrefl] at this; cases this
theorem blt_ne {a b : Key} (h : blt a b = true) : a ≠ b := by
  rintro rfl
  rw [blt_irrefl] at h
  cases h
/-- What is not below is the same or above. -/
theorem blt_or {a b : Key} (h : blt a b = false) : a = b ∨ blt b a = true := by
  cases e : blt b a with
  | false => exact .inl (blt_tri h e)
  | true => exact .inr rfl

/-! ### The program's comparisons -/
theorem s_lss (a b : Key) : binA .lss (.string (str a)) (.string (str b)) = some (.bool (blt a b)) := by simp [binA, strA, blt]
theorem s_geq (a b : Key) : binA .geq (.string (str a)) (.string (str b)) = some (.bool (!blt a b)) := by simp [binA, strA, blt]
theorem s_gtr (a b : Key) : binA .gtr (.string (str a)) (.string (str b)) = some (.bool (blt b a)) := by
  simp only [binA, strA, str_toList]
  congr 2
  show (!(blt a b || a == b)) = blt b a
  cases e : blt a b with
  | true => rw [blt_asymm e]; rfl
  | false =>
    by_cases h : a = b
    · subst h; rw [blt_irrefl]; simp
    · rcases blt_or e with q | q
      · exact absurd q h
      · rw [q]; simp [h]
theorem s_eql (a b : Key) : binA .eql (.string (str a)) (.string (str b)) = some (.bool (decide (a = b))) := by
  simp only [binA, strA, str_toList]
  congr 2
  by_cases h : a = b <;> simp [h]
theorem s_neq (a b : Key) : binA .neq (.string (str a)) (.string (str b)) = some (.bool (decide (a ≠ b))) := by
  simp only [binA, strA, str_toList]
  congr 2
  by_cases h : a = b <;> simp [h]
theorem str_empty : (ByteArray.empty : ByteArray) = str [] := rfl

/-! ### Lists in order -/
section
variable {V : Type}
/-- Rising keys. -/
def Srt (l : List (Key × V)) : Prop := l.Pairwise fun x y => blt x.1 y.1 = true
/-- Where a key stands, or would stand. -/
def findK : List (Key × V) → Key → Nat
  | [], _ => 0
  | x :: l, k => if blt x.1 k = true then findK l k + 1 else 0
def isAt (l : List (Key × V)) (k : Key) (i : Nat) : Bool :=
  match l[i]? with
  | some x => decide (x.1 = k)
  | none => false
def hasK (l : List (Key × V)) (k : Key) : Bool := isAt l k (findK l k)
theorem findK_le : ∀ (l : List (Key × V)) (k : Key), findK l k ≤ l.length
  | [], _ => Nat.le_refl _
  | x :: l, k => by
    rw [findK]
    split
    · have := findK_le l k; simp; omega
    · omega
theorem findK_below : ∀ (l : List (Key × V)) (k : Key) (i : Nat) x, i < findK l k → l[i]? = some x → blt x.1 k = true
  | [], _, _, _, h, _ => by simp [findK] at h
  | y :: l, k, i, x, h, hx => by
    rw [findK] at h
    split at h
    · rename_i e
      cases i with
      | zero => simp at hx; subst hx; exact e
      | succ i => exact findK_below l k i x (by omega) (by simpa using hx)
    · omega
theorem findK_at : ∀ (l : List (Key × V)) (k : Key) x, l[findK l k]? = some x → blt x.1 k = false
  | [], _, _, h => by simp at h
  | y :: l, k, x, h => by
    rw [findK] at h
    split at h
    · exact findK_at l k x (by simpa using h)
    · rename_i e
      simp at h
      subst h
      simpa using e
theorem findK_uniq {l : List (Key × V)} {k : Key} {r : Nat} (h1 : r ≤ l.length) (h2 : ∀ i x, i < r → l[i]? = some x → blt x.1 k = true) (h3 : ∀ x, l[r]? = some x → blt x.1 k = false) : findK l k = r := by
  rcases Nat.lt_trichotomy (findK l k) r with h | h | h
  · have hl : findK l k < l.length := by omega
    have := h2 (findK l k) l[findK l k] h (List.getElem?_eq_getElem hl)
    rw [findK_at l k _ (List.getElem?_eq_getElem hl)] at this
    cases this
  · exact h
  · have hl : r < l.length := by have := findK_le l k; omega
    have := findK_below l k r l[r] h (List.getElem?_eq_getElem hl)
    rw [h3 _ (List.getElem?_eq_getElem hl)] at this
    cases this
/-- Behind the place nothing is below, in a list in order. -/
theorem Srt.above {l : List (Key × V)} (s : Srt l) {k : Key} {i : Nat} {x : Key × V} (hi : findK l k ≤ i) (hx : l[i]? = some x) : blt x.1 k = false := by
  have hil := (List.getElem?_eq_some_iff.1 hx).1
  rcases Nat.lt_or_eq_of_le hi with h | h
  · have hl : findK l k < l.length := by omega
    have e1 := findK_at l k _ (List.getElem?_eq_getElem hl)
    have e2 := List.pairwise_iff_getElem.1 s (findK l k) i hl hil h
    have e3 : l[i] = x := (List.getElem?_eq_some_iff.1 hx).2
    rw [e3] at e2
    cases e : blt x.1 k with
    | false => rfl
    | true =>
      have := blt_trans e2 e
      rw [e1] at this
      cases this
  · subst h
    exact findK_at l k _ hx
/-- The program's own search. -/
def bsK (l : List (Key × V)) (k : Key) : Nat → Nat → Nat → Nat
  | 0, i, _ => i
  | m + 1, i, j => if i < j then
      match l[(i + j) / 2]? with
      | some x => if blt x.1 k = true then bsK l k m ((i + j) / 2 + 1) j else bsK l k m i ((i + j) / 2)
      | none => i
    else i
theorem bsK_range (l : List (Key × V)) (k : Key) : ∀ (m i j : Nat), i ≤ j → j ≤ l.length → i ≤ bsK l k m i j ∧ bsK l k m i j ≤ j
  | 0, i, j, h, _ => ⟨Nat.le_refl _, h⟩
  | m + 1, i, j, h, hj => by
    rw [bsK]
    by_cases hij : i < j
    · rw [if_pos hij, List.getElem?_eq_getElem (by omega)]
      simp only
      split
      · have := bsK_range l k m ((i + j) / 2 + 1) j (by omega) hj
        omega
      · have := bsK_range l k m i ((i + j) / 2) (by omega) (by omega)
        omega
    · rw [if_neg hij]
      omega
theorem bsK_find {l : List (Key × V)} (s : Srt l) (k : Key) : ∀ (m i j : Nat), i ≤ j → j ≤ l.length → j - i ≤ m → i ≤ findK l k → findK l k ≤ j → bsK l k m i j = findK l k
  | 0, i, j, h, _, hm, h1, h2 => by rw [bsK]; omega
  | m + 1, i, j, h, hj, hm, h1, h2 => by
    rw [bsK]
    by_cases hij : i < j
    · rw [if_pos hij, List.getElem?_eq_getElem (by omega)]
      simp only
      split
      · rename_i e
        refine bsK_find s k m _ _ (by omega) hj (by omega) ?_ h2
        rcases Nat.lt_or_ge ((i + j) / 2) (findK l k) with q | q
        · exact q
        · rw [s.above q (List.getElem?_eq_getElem (by omega))] at e
          cases e
      · rename_i e
        refine bsK_find s k m _ _ (by omega) (by omega) (by omega) h1 ?_
        rcases Nat.lt_or_ge ((i + j) / 2) (findK l k) with q | q
        · exact absurd (findK_below l k _ _ q (List.getElem?_eq_getElem (by omega))) e
        · exact q
    · rw [if_neg hij]
      omega
theorem bsK_all {l : List (Key × V)} (s : Srt l) (k : Key) : bsK l k l.length 0 l.length = findK l k :=
  bsK_find s k _ _ _ (Nat.zero_le _) (Nat.le_refl _) (by omega) (Nat.zero_le _) (findK_le l k)
end
section
variable {w0 : World} {h : Hp}
theorem isNaN_s (a : Key) : ACalls prog w0 n_cmp_isNaN_string [.string (str a)] h fun r h' => r = .bool false ∧ h' = h := by
  refine ACalls.of_fit (by simp) fun f => c_cmp_isNaN_string (by simp) ?_
  have e : decide (a ≠ a) = false := decide_eq_false (by simp)
  simp only [s_cmp_isNaN_string, s_neq, e, lenSl_slice, lenStr_string, str_size, fpureA_some, fnilA_ptr, faddA_ptr, addr_add, Nat.zero_add, Nat.add_zero, fpureQ_k, fpureQ_nilA, fpureQ_addA, fpureQ_pureA, fpureQ_guardA, fpureQ_idxSlA, fpureQ_pickA, freadQ_loadA, freadQ_loadNA, freadQ_b2sA, freadQ_guardA, freadQ_slSlA, freadQ_k, fendA, fallA_one, fstillA_nil, fguardA_tt, fguardA_ff, fguardA_tf, fguardA_ft, fguardA_undef, fpickA_true, fpickA_false, fcondA_true, fcondA_false, binA_add, binA_sub, binA_mul, binA_eql, binA_neq, binA_lss, binA_leq, binA_gtr, binA_geq, unA_not, Bool.not_true, Bool.not_false, convA_int, extA_tuple, List.getElem?_toArray, List.getElem?_cons_zero, List.getElem?_cons_succ, retA_iff, oneOf_one]
  exact ⟨by simp, trivial, trivial⟩
theorem isNaN_i (a : Int) : ACalls prog w0 n_cmp_isNaN_int [.int .i64 a] h fun r h' => r = .bool false ∧ h' = h := by
  refine ACalls.of_fit (by simp) fun f => c_cmp_isNaN_int (by simp) ?_
  simp only [s_cmp_isNaN_int, lenSl_slice, lenStr_string, str_size, fpureA_some, fnilA_ptr, faddA_ptr, addr_add, Nat.zero_add, Nat.add_zero, fpureQ_k, fpureQ_nilA, fpureQ_addA, fpureQ_pureA, fpureQ_guardA, fpureQ_idxSlA, fpureQ_pickA, freadQ_loadA, freadQ_loadNA, freadQ_b2sA, freadQ_guardA, freadQ_slSlA, freadQ_k, fendA, fallA_one, fstillA_nil, fguardA_tt, fguardA_ff, fguardA_tf, fguardA_ft, fguardA_undef, fpickA_true, fpickA_false, fcondA_true, fcondA_false, binA_add, binA_sub, binA_mul, binA_eql, binA_neq, binA_lss, binA_leq, binA_gtr, binA_geq, unA_not, Bool.not_true, Bool.not_false, convA_int, extA_tuple, List.getElem?_toArray, List.getElem?_cons_zero, List.getElem?_cons_succ, bne_self_eq_false, retA_iff, oneOf_one]
  exact ⟨by simp, trivial, trivial⟩
theorem Less_s (a b : Key) : ACalls prog w0 n_cmp_Less_string [.string (str a), .string (str b)] h fun r h' => r = .bool (blt a b) ∧ h' = h := by
  refine ACalls.of_fit (by simp) fun f => c_cmp_Less_string (by simp) ?_
  simp only [s_cmp_Less_string]
  refine callA_of (isNaN_s a) fun r h1 ⟨e, e'⟩ f1 => ?_
  subst e e'
  simp only [lenSl_slice, lenStr_string, str_size, fpureA_some, fnilA_ptr, faddA_ptr, addr_add, Nat.zero_add, Nat.add_zero, fpureQ_k, fpureQ_nilA, fpureQ_addA, fpureQ_pureA, fpureQ_guardA, fpureQ_idxSlA, fpureQ_pickA, freadQ_loadA, freadQ_loadNA, freadQ_b2sA, freadQ_guardA, freadQ_slSlA, freadQ_k, fendA, fallA_one, fstillA_nil, fguardA_tt, fguardA_ff, fguardA_tf, fguardA_ft, fguardA_undef, fpickA_true, fpickA_false, fcondA_true, fcondA_false, binA_add, binA_sub, binA_mul, binA_eql, binA_neq, binA_lss, binA_leq, binA_gtr, binA_geq, unA_not, Bool.not_true, Bool.not_false, convA_int, extA_tuple, List.getElem?_toArray, List.getElem?_cons_zero, List.getElem?_cons_succ, s_lss, retA_iff, oneOf_one]
  exact ⟨by simp, trivial, trivial⟩
theorem Less_i (a b : Int) : ACalls prog w0 n_cmp_Less_int [.int .i64 a, .int .i64 b] h fun r h' => r = .bool (decide (a < b)) ∧ h' = h := by
  refine ACalls.of_fit (by simp) fun f => c_cmp_Less_int (by simp) ?_
  simp only [s_cmp_Less_int]
  refine callA_of (isNaN_i a) fun r h1 ⟨e, e'⟩ f1 => ?_
  subst e e'
  simp only [lenSl_slice, lenStr_string, str_size, fpureA_some, fnilA_ptr, faddA_ptr, addr_add, Nat.zero_add, Nat.add_zero, fpureQ_k, fpureQ_nilA, fpureQ_addA, fpureQ_pureA, fpureQ_guardA, fpureQ_idxSlA, fpureQ_pickA, freadQ_loadA, freadQ_loadNA, freadQ_b2sA, freadQ_guardA, freadQ_slSlA, freadQ_k, fendA, fallA_one, fstillA_nil, fguardA_tt, fguardA_ff, fguardA_tf, fguardA_ft, fguardA_undef, fpickA_true, fpickA_false, fcondA_true, fcondA_false, binA_add, binA_sub, binA_mul, binA_eql, binA_neq, binA_lss, binA_leq, binA_gtr, binA_geq, unA_not, Bool.not_true, Bool.not_false, convA_int, extA_tuple, List.getElem?_toArray, List.getElem?_cons_zero, List.getElem?_cons_succ, retA_iff, oneOf_one]
  exact ⟨by simp, trivial, trivial⟩
def cmpK (a b : Key) : Int := if blt a b = true then -1 else if blt b a = true then 1 else 0
theorem Compare_s (a b : Key) : ACalls prog w0 n_cmp_Compare_string [.string (str a), .string (str b)] h fun r h' => r = .int .i64 (cmpK a b) ∧ h' = h := by
  refine ACalls.of_fit (by simp) fun f => c_cmp_Compare_string (by simp) ?_
  simp only [s_cmp_Compare_string]
  refine callA_of (isNaN_s a) fun r h1 ⟨e, e'⟩ f1 => ?_
  subst e e'
  refine callA_of (isNaN_s b) fun r h1 ⟨e, e'⟩ f1 => ?_
  subst e e'
  simp only [lenSl_slice, lenStr_string, str_size, fpureA_some, fnilA_ptr, faddA_ptr, addr_add, Nat.zero_add, Nat.add_zero, fpureQ_k, fpureQ_nilA, fpureQ_addA, fpureQ_pureA, fpureQ_guardA, fpureQ_idxSlA, fpureQ_pickA, freadQ_loadA, freadQ_loadNA, freadQ_b2sA, freadQ_guardA, freadQ_slSlA, freadQ_k, fendA, fallA_one, fstillA_nil, fguardA_tt, fguardA_ff, fguardA_tf, fguardA_ft, fguardA_undef, fpickA_true, fpickA_false, fcondA_true, fcondA_false, binA_add, binA_sub, binA_mul, binA_eql, binA_neq, binA_lss, binA_leq, binA_gtr, binA_geq, unA_not, Bool.not_true, Bool.not_false, convA_int, extA_tuple, List.getElem?_toArray, List.getElem?_cons_zero, List.getElem?_cons_succ, s_lss, s_gtr]
  cases e1 : blt a b with
  | true =>
    simp only [lenSl_slice, lenStr_string, str_size, fpureA_some, fnilA_ptr, faddA_ptr, addr_add, Nat.zero_add, Nat.add_zero, fpureQ_k, fpureQ_nilA, fpureQ_addA, fpureQ_pureA, fpureQ_guardA, fpureQ_idxSlA, fpureQ_pickA, freadQ_loadA, freadQ_loadNA, freadQ_b2sA, freadQ_guardA, freadQ_slSlA, freadQ_k, fendA, fallA_one, fstillA_nil, fguardA_tt, fguardA_ff, fguardA_tf, fguardA_ft, fguardA_undef, fpickA_true, fpickA_false, fcondA_true, fcondA_false, binA_add, binA_sub, binA_mul, binA_eql, binA_neq, binA_lss, binA_leq, binA_gtr, binA_geq, unA_not, Bool.not_true, Bool.not_false, convA_int, extA_tuple, List.getElem?_toArray, List.getElem?_cons_zero, List.getElem?_cons_succ, retA_iff, oneOf_one, cmpK, e1]
    exact ⟨by simp, by simp, trivial⟩
  | false =>
    simp only [lenSl_slice, lenStr_string, str_size, fpureA_some, fnilA_ptr, faddA_ptr, addr_add, Nat.zero_add, Nat.add_zero, fpureQ_k, fpureQ_nilA, fpureQ_addA, fpureQ_pureA, fpureQ_guardA, fpureQ_idxSlA, fpureQ_pickA, freadQ_loadA, freadQ_loadNA, freadQ_b2sA, freadQ_guardA, freadQ_slSlA, freadQ_k, fendA, fallA_one, fstillA_nil, fguardA_tt, fguardA_ff, fguardA_tf, fguardA_ft, fguardA_undef, fpickA_true, fpickA_false, fcondA_true, fcondA_false, binA_add, binA_sub, binA_mul, binA_eql, binA_neq, binA_lss, binA_leq, binA_gtr, binA_geq, unA_not, Bool.not_true, Bool.not_false, convA_int, extA_tuple, List.getElem?_toArray, List.getElem?_cons_zero, List.getElem?_cons_succ]
    cases e2 : blt b a with
    | true =>
      simp only [lenSl_slice, lenStr_string, str_size, fpureA_some, fnilA_ptr, faddA_ptr, addr_add, Nat.zero_add, Nat.add_zero, fpureQ_k, fpureQ_nilA, fpureQ_addA, fpureQ_pureA, fpureQ_guardA, fpureQ_idxSlA, fpureQ_pickA, freadQ_loadA, freadQ_loadNA, freadQ_b2sA, freadQ_guardA, freadQ_slSlA, freadQ_k, fendA, fallA_one, fstillA_nil, fguardA_tt, fguardA_ff, fguardA_tf, fguardA_ft, fguardA_undef, fpickA_true, fpickA_false, fcondA_true, fcondA_false, binA_add, binA_sub, binA_mul, binA_eql, binA_neq, binA_lss, binA_leq, binA_gtr, binA_geq, unA_not, Bool.not_true, Bool.not_false, convA_int, extA_tuple, List.getElem?_toArray, List.getElem?_cons_zero, List.getElem?_cons_succ, retA_iff, oneOf_one, cmpK, e1, e2]
      exact ⟨by simp, rfl, trivial⟩
    | false =>
      simp only [lenSl_slice, lenStr_string, str_size, fpureA_some, fnilA_ptr, faddA_ptr, addr_add, Nat.zero_add, Nat.add_zero, fpureQ_k, fpureQ_nilA, fpureQ_addA, fpureQ_pureA, fpureQ_guardA, fpureQ_idxSlA, fpureQ_pickA, freadQ_loadA, freadQ_loadNA, freadQ_b2sA, freadQ_guardA, freadQ_slSlA, freadQ_k, fendA, fallA_one, fstillA_nil, fguardA_tt, fguardA_ff, fguardA_tf, fguardA_ft, fguardA_undef, fpickA_true, fpickA_false, fcondA_true, fcondA_false, binA_add, binA_sub, binA_mul, binA_eql, binA_neq, binA_lss, binA_leq, binA_gtr, binA_geq, unA_not, Bool.not_true, Bool.not_false, convA_int, extA_tuple, List.getElem?_toArray, List.getElem?_cons_zero, List.getElem?_cons_succ, retA_iff, oneOf_one, cmpK, e1, e2]
      exact ⟨by simp, rfl, trivial⟩
theorem cmpK_neg (a b : Key) : decide (cmpK a b < 0) = blt a b := by
  unfold cmpK
  cases blt a b <;> cases blt b a <;> rfl
theorem cmpK_zero (a b : Key) : (cmpK a b == 0) = decide (a = b) := by
  unfold cmpK
  cases e1 : blt a b with
  | true => rw [if_pos rfl, decide_eq_false (blt_ne e1)]; rfl
  | false =>
    cases e2 : blt b a with
    | true => rw [if_neg (by simp), if_pos rfl, decide_eq_false (fun e => blt_ne e2 e.symm)]; rfl
    | false => rw [if_neg (by simp), if_neg (by simp), decide_eq_true (blt_tri e1 e2)]; rfl

/-! ### Items -/
def iv (p : Key × Int) : List Value := [.string (str p.1), .int .i64 p.2]
abbrev ivs (l : List (Key × Int)) : List Value := l.flatMap iv
theorem ivs_cons (x : Key × Int) (l : List (Key × Int)) : ivs (x :: l) = iv x ++ ivs l := rfl
theorem ivs_length (l : List (Key × Int)) : (ivs l).length = l.length * 2 := by
  induction l with
  | nil => rfl
  | cons x l ih => rw [ivs_cons, List.length_append, ih, List.length_cons, Nat.add_mul]; simp [iv]; omega
theorem ivs_take (l : List (Key × Int)) (i : Nat) : (ivs l).take (i * 2) = ivs (l.take i) := by
  induction l generalizing i with
  | nil => simp
  | cons x l ih =>
    cases i with
    | zero => simp
    | succ i =>
      rw [ivs_cons, List.take_succ_cons, ivs_cons, ← ih, List.take_append, List.take_of_length_le (by simp [iv]; omega)]
      congr 2
      simp [iv]; omega
theorem ivs_drop (l : List (Key × Int)) (i : Nat) : (ivs l).drop (i * 2) = ivs (l.drop i) := by
  induction l generalizing i with
  | nil => simp
  | cons x l ih =>
    cases i with
    | zero => simp
    | succ i =>
      rw [ivs_cons, List.drop_succ_cons, ← ih, List.drop_append, List.drop_of_length_le (by simp [iv]; omega), List.nil_append]
      congr 1
      simp [iv]; omega
theorem ivs_get {l : List (Key × Int)} {i : Nat} {x : Key × Int} (h : l[i]? = some x) : ((ivs l).drop (i * 2)).take 2 = iv x := by
  rw [ivs_drop, show 2 = 1 * 2 from rfl, ivs_take]
  obtain ⟨hi, rfl⟩ := List.getElem?_eq_some_iff.1 h
  have : (l.drop i).take 1 = [l[i]] := by
    rw [List.drop_eq_getElem_cons hi]
    rfl
  rw [this]
  simp
theorem ivs_key {l : List (Key × Int)} {i : Nat} {x : Key × Int} (h : l[i]? = some x) : (ivs l)[i * 2]? = some (.string (str x.1)) := by
  have := congrArg (·[0]?) (ivs_get h)
  simp only [List.getElem?_take, List.getElem?_drop] at this
  simpa [iv] using this
theorem ivs_val {l : List (Key × Int)} {i : Nat} {x : Key × Int} (h : l[i]? = some x) : (ivs l)[i * 2 + 1]? = some (.int .i64 x.2) := by
  have := congrArg (·[1]?) (ivs_get h)
  simp only [List.getElem?_take, List.getElem?_drop] at this
  simpa [iv] using this
abbrev Is (w0 : World) (h : Hp) (x : Value) (l : List (Key × Int)) : Prop := Sl w0 h 2 x l.length (ivs l)

/-! ### Search -/
theorem SearchS1 (x : Key × Int) (k : Key) : ACalls prog w0 n_seq_Search_string_int_S1 [.agg (iv x).toArray, .string (str k)] h fun r h' => r = .int .i64 (cmpK x.1 k) ∧ Step h h' [] [] := by
  refine ACalls.of_fit (by simp) fun f => c_seq_Search_string_int_S1 (by simp) ?_
  simp only [s_seq_Search_string_int_S1]
  refine ⟨(iv x).toArray, rfl, ?_⟩
  simp only [lenSl_slice, lenStr_string, str_size, fpureA_some, fnilA_ptr, faddA_ptr, addr_add, Nat.zero_add, Nat.add_zero, fpureQ_k, fpureQ_nilA, fpureQ_addA, fpureQ_pureA, fpureQ_guardA, fpureQ_idxSlA, fpureQ_pickA, freadQ_loadA, freadQ_loadNA, freadQ_b2sA, freadQ_guardA, freadQ_slSlA, freadQ_k, fendA, fallA_one, fstillA_nil, fguardA_tt, fguardA_ff, fguardA_tf, fguardA_ft, fguardA_undef, fpickA_true, fpickA_false, fcondA_true, fcondA_false, binA_add, binA_sub, binA_mul, binA_eql, binA_neq, binA_lss, binA_leq, binA_gtr, binA_geq, unA_not, Bool.not_true, Bool.not_false, convA_int, extA_tuple, List.getElem?_toArray, List.getElem?_cons_zero, List.getElem?_cons_succ]
  have hb := f.base
  refine loadA_at (cs := iv x) (by omega) (by simp) rfl ?_
  refine callA_of (Compare_s x.1 k) fun r h1 ⟨e, e'⟩ f1 => ?_
  subst e e'
  simp only [retA_iff, oneOf_one]
  exact ⟨by simp, trivial, ((Step.refl h [] (by simp)).new _ _).less (by simp)⟩
theorem bs_loop {k0 : Value → Value → Value → Value → Value → Hp → Prop} {x : Value} {l : List (Key × Int)} {k : Key} (hl : l.length ≤ 1000000000) : ∀ (m i j : Nat) (h1 : Hp), i ≤ j → j ≤ l.length → j - i ≤ m → Is w0 h1 x l → (∀ b, b ∈ sblk x → b < h1.next) →
    (∀ h', Step h1 h' [] [] → k0 x (.string (str k)) (.func (.func n_seq_Search_string_int_S1) #[] #[]) (.int .i64 (l.length : Int)) (.int .i64 (bsK l k m i j : Int)) h') →
    slices_BinarySearchFunc_lseq_Item_string_int_seq_Item_string_int_string_L1 prog w0 k0 (m + 1) x (.string (str k)) (.func (.func n_seq_Search_string_int_S1) #[] #[]) (.int .i64 (l.length : Int)) (.int .i64 (i : Int)) (.int .i64 (j : Int)) h1 := by
  intro m
  induction m with
  | zero =>
    intro i j h1 hij hj hm v hx hk
    have c1 : decide ((i : Int) < (j : Int)) = false := decide_eq_false (by omega)
    rw [slices_BinarySearchFunc_lseq_Item_string_int_seq_Item_string_int_string_L1]
    simp only [slices_BinarySearchFunc_lseq_Item_string_int_seq_Item_string_int_string_B1, lenSl_slice, lenStr_string, str_size, fpureA_some, fnilA_ptr, faddA_ptr, addr_add, Nat.zero_add, Nat.add_zero, fpureQ_k, fpureQ_nilA, fpureQ_addA, fpureQ_pureA, fpureQ_guardA, fpureQ_idxSlA, fpureQ_pickA, freadQ_loadA, freadQ_loadNA, freadQ_b2sA, freadQ_guardA, freadQ_slSlA, freadQ_k, fendA, fallA_one, fstillA_nil, fguardA_tt, fguardA_ff, fguardA_tf, fguardA_ft, fguardA_undef, fpickA_true, fpickA_false, fcondA_true, fcondA_false, binA_add, binA_sub, binA_mul, binA_eql, binA_neq, binA_lss, binA_leq, binA_gtr, binA_geq, unA_not, Bool.not_true, Bool.not_false, convA_int, extA_tuple, List.getElem?_toArray, List.getElem?_cons_zero, List.getElem?_cons_succ, c1]
    exact hk h1 (.refl _ _ (by simp))
  | succ m ih =>
    intro i j h1 hij hj hm v hx hk
    rw [slices_BinarySearchFunc_lseq_Item_string_int_seq_Item_string_int_string_L1]
    by_cases hlt : i < j
    · have c1 : decide ((i : Int) < (j : Int)) = true := decide_eq_true (by omega)
      have e1 : IntKind.i64.wrap ((i : Int) + (j : Int)) = ((i + j : Nat) : Int) := by rw [IntWalk.i64_in _ (by omega)]; simp
      have e2 : IntKind.u64.wrap ((i + j : Nat) : Int) = ((i + j : Nat) : Int) := IntWalk.u64_in _ (by omega)
      have e3 : binA .shr (.int .u64 ((i + j : Nat) : Int)) (.int .u64 1) = some (.int .u64 (((i + j) / 2 : Nat) : Int)) := by
        rw [binA_shr _ _ _ _ (by omega)]
        congr 2
      have e4 : IntKind.i64.wrap (((i + j) / 2 : Nat) : Int) = (((i + j) / 2 : Nat) : Int) := IntWalk.i64_in _ (by omega)
      have hml : (i + j) / 2 < l.length := by omega
      have hg : l[(i + j) / 2]? = some l[(i + j) / 2] := List.getElem?_eq_getElem hml
      simp only [slices_BinarySearchFunc_lseq_Item_string_int_seq_Item_string_int_string_B1, lenSl_slice, lenStr_string, str_size, fpureA_some, fnilA_ptr, faddA_ptr, addr_add, Nat.zero_add, Nat.add_zero, fpureQ_k, fpureQ_nilA, fpureQ_addA, fpureQ_pureA, fpureQ_guardA, fpureQ_idxSlA, fpureQ_pickA, freadQ_loadA, freadQ_loadNA, freadQ_b2sA, freadQ_guardA, freadQ_slSlA, freadQ_k, fendA, fallA_one, fstillA_nil, fguardA_tt, fguardA_ff, fguardA_tf, fguardA_ft, fguardA_undef, fpickA_true, fpickA_false, fcondA_true, fcondA_false, binA_add, binA_sub, binA_mul, binA_eql, binA_neq, binA_lss, binA_leq, binA_gtr, binA_geq, unA_not, Bool.not_true, Bool.not_false, convA_int, extA_tuple, List.getElem?_toArray, List.getElem?_cons_zero, List.getElem?_cons_succ, c1, e1, e2, e3, e4]
      have hs := v.src
      obtain ⟨a, c, ex⟩ := v.slice
      rw [ex] at hs ⊢
      refine idx_loadN hs hml ?_
      rw [ivs_get hg]
      refine callVA_func (by kernel_rfl) (SearchS1 l[(i + j) / 2] k) fun r h2 ⟨e, s2⟩ f2 => ?_
      subst e
      rw [← ex]
      have v2 := v.stepL hx s2 (by simp)
      have hx2 : ∀ b, b ∈ sblk x → b < h2.next := fun b hb => Nat.lt_of_lt_of_le (hx b hb) s2.1
      have hb : bsK l k (m + 1) i j = if blt l[(i + j) / 2].1 k = true then bsK l k m ((i + j) / 2 + 1) j else bsK l k m i ((i + j) / 2) := by
        rw [bsK, if_pos hlt, hg]
      simp only [lenSl_slice, lenStr_string, str_size, fpureA_some, fnilA_ptr, faddA_ptr, addr_add, Nat.zero_add, Nat.add_zero, fpureQ_k, fpureQ_nilA, fpureQ_addA, fpureQ_pureA, fpureQ_guardA, fpureQ_idxSlA, fpureQ_pickA, freadQ_loadA, freadQ_loadNA, freadQ_b2sA, freadQ_guardA, freadQ_slSlA, freadQ_k, fendA, fallA_one, fstillA_nil, fguardA_tt, fguardA_ff, fguardA_tf, fguardA_ft, fguardA_undef, fpickA_true, fpickA_false, fcondA_true, fcondA_false, binA_add, binA_sub, binA_mul, binA_eql, binA_neq, binA_lss, binA_leq, binA_gtr, binA_geq, unA_not, Bool.not_true, Bool.not_false, convA_int, extA_tuple, List.getElem?_toArray, List.getElem?_cons_zero, List.getElem?_cons_succ, cmpK_neg]
      cases e : blt l[(i + j) / 2].1 k with
      | true =>
        rw [e, if_pos rfl] at hb
        have e5 : IntKind.i64.wrap ((((i + j) / 2 : Nat) : Int) + 1) = (((i + j) / 2 + 1 : Nat) : Int) := by rw [IntWalk.i64_in _ (by omega)]; simp
        simp only [lenSl_slice, lenStr_string, str_size, fpureA_some, fnilA_ptr, faddA_ptr, addr_add, Nat.zero_add, Nat.add_zero, fpureQ_k, fpureQ_nilA, fpureQ_addA, fpureQ_pureA, fpureQ_guardA, fpureQ_idxSlA, fpureQ_pickA, freadQ_loadA, freadQ_loadNA, freadQ_b2sA, freadQ_guardA, freadQ_slSlA, freadQ_k, fendA, fallA_one, fstillA_nil, fguardA_tt, fguardA_ff, fguardA_tf, fguardA_ft, fguardA_undef, fpickA_true, fpickA_false, fcondA_true, fcondA_false, binA_add, binA_sub, binA_mul, binA_eql, binA_neq, binA_lss, binA_leq, binA_gtr, binA_geq, unA_not, Bool.not_true, Bool.not_false, convA_int, extA_tuple, List.getElem?_toArray, List.getElem?_cons_zero, List.getElem?_cons_succ, e5]
        exact ih _ _ h2 (by omega) hj (by omega) v2 hx2 (fun h' s' => by have := hk h' (s2.trans s'); rw [hb] at this; exact this)
      | false =>
        rw [e, if_neg (by simp)] at hb
        simp only [lenSl_slice, lenStr_string, str_size, fpureA_some, fnilA_ptr, faddA_ptr, addr_add, Nat.zero_add, Nat.add_zero, fpureQ_k, fpureQ_nilA, fpureQ_addA, fpureQ_pureA, fpureQ_guardA, fpureQ_idxSlA, fpureQ_pickA, freadQ_loadA, freadQ_loadNA, freadQ_b2sA, freadQ_guardA, freadQ_slSlA, freadQ_k, fendA, fallA_one, fstillA_nil, fguardA_tt, fguardA_ff, fguardA_tf, fguardA_ft, fguardA_undef, fpickA_true, fpickA_false, fcondA_true, fcondA_false, binA_add, binA_sub, binA_mul, binA_eql, binA_neq, binA_lss, binA_leq, binA_gtr, binA_geq, unA_not, Bool.not_true, Bool.not_false, convA_int, extA_tuple, List.getElem?_toArray, List.getElem?_cons_zero, List.getElem?_cons_succ]
        exact ih _ _ h2 (by omega) (by omega) (by omega) v2 hx2 (fun h' s' => by have := hk h' (s2.trans s'); rw [hb] at this; exact this)
    · have c1 : decide ((i : Int) < (j : Int)) = false := decide_eq_false (by omega)
      have hb : bsK l k (m + 1) i j = i := by rw [bsK, if_neg hlt]
      simp only [slices_BinarySearchFunc_lseq_Item_string_int_seq_Item_string_int_string_B1, lenSl_slice, lenStr_string, str_size, fpureA_some, fnilA_ptr, faddA_ptr, addr_add, Nat.zero_add, Nat.add_zero, fpureQ_k, fpureQ_nilA, fpureQ_addA, fpureQ_pureA, fpureQ_guardA, fpureQ_idxSlA, fpureQ_pickA, freadQ_loadA, freadQ_loadNA, freadQ_b2sA, freadQ_guardA, freadQ_slSlA, freadQ_k, fendA, fallA_one, fstillA_nil, fguardA_tt, fguardA_ff, fguardA_tf, fguardA_ft, fguardA_undef, fpickA_true, fpickA_false, fcondA_true, fcondA_false, binA_add, binA_sub, binA_mul, binA_eql, binA_neq, binA_lss, binA_leq, binA_gtr, binA_geq, unA_not, Bool.not_true, Bool.not_false, convA_int, extA_tuple, List.getElem?_toArray, List.getElem?_cons_zero, List.getElem?_cons_succ, c1]
      have := hk h1 (.refl _ _ (by simp))
      rw [hb] at this
      exact this
theorem Sl.blk_lt' {s n : Nat} {x : Value} {ys : List Value} (v : Sl w0 h s x n ys) (f : Fit w0 h) (h0 : 0 < n) : ∀ b, b ∈ sblk x → b < h.next := by
  obtain ⟨a, c, rfl, ⟨-, hs⟩, -, -⟩ := v
  rcases hs with ⟨h1, -⟩ | ⟨-, ad, rfl, hg, -⟩
  · omega
  · obtain ⟨-, cs, hb, -⟩ := Hp.getN_some hg
    intro b hm
    simp [sblk] at hm
    subst hm
    exact f.lt _ _ hb
theorem BinarySearch_spec {x : Value} {l : List (Key × Int)} {k : Key} (v : Is w0 h x l) (hl : l.length ≤ 1000000000) :
    ACalls prog w0 n_slices_BinarySearchFunc_lseq_Item_string_int_seq_Item_string_int_string [x, .string (str k), .func (.func n_seq_Search_string_int_S1) #[] #[]] h fun r h' =>
      r = .tuple #[.int .i64 (bsK l k l.length 0 l.length : Int), .bool (isAt l k (bsK l k l.length 0 l.length))] ∧ Step h h' [] [] := by
  refine ACalls.of_fit (by simpa using v.junk) fun f => c_slices_BinarySearchFunc_lseq_Item_string_int_seq_Item_string_int_string (by simpa using v.junk) ?_
  obtain ⟨a, c, ex⟩ := v.slice
  have elx : lenSl x = some (.int .i64 (l.length : Int)) := by rw [ex]; rfl
  simp only [s_slices_BinarySearchFunc_lseq_Item_string_int_seq_Item_string_int_string, elx, lenSl_slice, lenStr_string, str_size, fpureA_some, fnilA_ptr, faddA_ptr, addr_add, Nat.zero_add, Nat.add_zero, fpureQ_k, fpureQ_nilA, fpureQ_addA, fpureQ_pureA, fpureQ_guardA, fpureQ_idxSlA, fpureQ_pickA, freadQ_loadA, freadQ_loadNA, freadQ_b2sA, freadQ_guardA, freadQ_slSlA, freadQ_k, fendA, fallA_one, fstillA_nil, fguardA_tt, fguardA_ff, fguardA_tf, fguardA_ft, fguardA_undef, fpickA_true, fpickA_false, fcondA_true, fcondA_false, binA_add, binA_sub, binA_mul, binA_eql, binA_neq, binA_lss, binA_leq, binA_gtr, binA_geq, unA_not, Bool.not_true, Bool.not_false, convA_int, extA_tuple, List.getElem?_toArray, List.getElem?_cons_zero, List.getElem?_cons_succ]
  refine ⟨l.length + 1, ?_⟩
  have fin : ∀ (h1 : Hp), Step h h1 [] [] → (0 < l.length → Is w0 h1 x l) → ∀ r, r ≤ l.length → r = bsK l k l.length 0 l.length →
      pureA (binA .lss (.int .i64 (r : Int)) (.int .i64 (l.length : Int))) (fun v38 =>
       guardA v38 true (fun K => K (.func (.func n_seq_Search_string_int_S1) #[] #[])) fun v40 =>
       guardA v38 true (fun K => K x) fun v41 =>
       guardA v38 true (fun K => K (.int .i64 (r : Int))) fun v42 =>
       guardA v38 true (idxSlA 2 v41 v42) fun v43 =>
       guardA v38 true (loadNA w0 v43 2) fun v44 =>
       guardA v38 true (fun K => K (.string (str k))) fun v45 =>
       guardA v38 true (callVA prog w0 v40 [v44, v45]) fun v46 =>
       guardA v38 true (pureA (binA .eql v46 (.int .i64 0))) fun v47 =>
       pickA v38 v47 (.bool false) fun v48 =>
       retA [.int .i64 (r : Int), v48] fun r h' => r = .tuple #[.int .i64 (bsK l k l.length 0 l.length : Int), .bool (isAt l k (bsK l k l.length 0 l.length))] ∧ Step h h' [] []) h1 := by
    intro h1 s1 hv r hr er
    by_cases hrl : r < l.length
    · have c1 : decide ((r : Int) < (l.length : Int)) = true := decide_eq_true (by omega)
      have hg : l[r]? = some l[r] := List.getElem?_eq_getElem hrl
      have v1 := hv (by omega)
      have hs := v1.src
      simp only [lenSl_slice, lenStr_string, str_size, fpureA_some, fnilA_ptr, faddA_ptr, addr_add, Nat.zero_add, Nat.add_zero, fpureQ_k, fpureQ_nilA, fpureQ_addA, fpureQ_pureA, fpureQ_guardA, fpureQ_idxSlA, fpureQ_pickA, freadQ_loadA, freadQ_loadNA, freadQ_b2sA, freadQ_guardA, freadQ_slSlA, freadQ_k, fendA, fallA_one, fstillA_nil, fguardA_tt, fguardA_ff, fguardA_tf, fguardA_ft, fguardA_undef, fpickA_true, fpickA_false, fcondA_true, fcondA_false, binA_add, binA_sub, binA_mul, binA_eql, binA_neq, binA_lss, binA_leq, binA_gtr, binA_geq, unA_not, Bool.not_true, Bool.not_false, convA_int, extA_tuple, List.getElem?_toArray, List.getElem?_cons_zero, List.getElem?_cons_succ, c1]
      rw [ex] at hs ⊢
      refine idx_loadN hs hrl ?_
      rw [ivs_get hg]
      refine callVA_func (by kernel_rfl) (SearchS1 l[r] k) fun q h2 ⟨e, s2⟩ f2 => ?_
      subst e
      simp only [lenSl_slice, lenStr_string, str_size, fpureA_some, fnilA_ptr, faddA_ptr, addr_add, Nat.zero_add, Nat.add_zero, fpureQ_k, fpureQ_nilA, fpureQ_addA, fpureQ_pureA, fpureQ_guardA, fpureQ_idxSlA, fpureQ_pickA, freadQ_loadA, freadQ_loadNA, freadQ_b2sA, freadQ_guardA, freadQ_slSlA, freadQ_k, fendA, fallA_one, fstillA_nil, fguardA_tt, fguardA_ff, fguardA_tf, fguardA_ft, fguardA_undef, fpickA_true, fpickA_false, fcondA_true, fcondA_false, binA_add, binA_sub, binA_mul, binA_eql, binA_neq, binA_lss, binA_leq, binA_gtr, binA_geq, unA_not, Bool.not_true, Bool.not_false, convA_int, extA_tuple, List.getElem?_toArray, List.getElem?_cons_zero, List.getElem?_cons_succ, cmpK_zero, retA_iff, oneOf_two]
      refine ⟨by simp, ?_, s1.trans s2⟩
      rw [← er]
      simp only [isAt, hg]
    · have c1 : decide ((r : Int) < (l.length : Int)) = false := decide_eq_false (by omega)
      simp only [lenSl_slice, lenStr_string, str_size, fpureA_some, fnilA_ptr, faddA_ptr, addr_add, Nat.zero_add, Nat.add_zero, fpureQ_k, fpureQ_nilA, fpureQ_addA, fpureQ_pureA, fpureQ_guardA, fpureQ_idxSlA, fpureQ_pickA, freadQ_loadA, freadQ_loadNA, freadQ_b2sA, freadQ_guardA, freadQ_slSlA, freadQ_k, fendA, fallA_one, fstillA_nil, fguardA_tt, fguardA_ff, fguardA_tf, fguardA_ft, fguardA_undef, fpickA_true, fpickA_false, fcondA_true, fcondA_false, binA_add, binA_sub, binA_mul, binA_eql, binA_neq, binA_lss, binA_leq, binA_gtr, binA_geq, unA_not, Bool.not_true, Bool.not_false, convA_int, extA_tuple, List.getElem?_toArray, List.getElem?_cons_zero, List.getElem?_cons_succ, c1, retA_iff, oneOf_two]
      refine ⟨by simp, ?_, s1⟩
      rw [← er]
      simp only [isAt, List.getElem?_eq_none (show l.length ≤ r by omega)]
  have hrg := bsK_range l k l.length 0 l.length (Nat.zero_le _) (Nat.le_refl _)
  rcases Nat.eq_zero_or_pos l.length with h0 | h0
  · have c1 : decide ((0 : Int) < (l.length : Int)) = false := decide_eq_false (by omega)
    rw [h0, slices_BinarySearchFunc_lseq_Item_string_int_seq_Item_string_int_string_L1]
    have c2 : decide (((0 : Nat) : Int) < ((0 : Nat) : Int)) = false := rfl
    have c3 : decide ((0 : Int) < ((0 : Nat) : Int)) = false := rfl
    simp only [slices_BinarySearchFunc_lseq_Item_string_int_seq_Item_string_int_string_B1, lenSl_slice, lenStr_string, str_size, fpureA_some, fnilA_ptr, faddA_ptr, addr_add, Nat.zero_add, Nat.add_zero, fpureQ_k, fpureQ_nilA, fpureQ_addA, fpureQ_pureA, fpureQ_guardA, fpureQ_idxSlA, fpureQ_pickA, freadQ_loadA, freadQ_loadNA, freadQ_b2sA, freadQ_guardA, freadQ_slSlA, freadQ_k, fendA, fallA_one, fstillA_nil, fguardA_tt, fguardA_ff, fguardA_tf, fguardA_ft, fguardA_undef, fpickA_true, fpickA_false, fcondA_true, fcondA_false, binA_add, binA_sub, binA_mul, binA_eql, binA_neq, binA_lss, binA_leq, binA_gtr, binA_geq, unA_not, Bool.not_true, Bool.not_false, convA_int, extA_tuple, List.getElem?_toArray, List.getElem?_cons_zero, List.getElem?_cons_succ, c2, c3]
    have := fin h (.refl _ _ (by simp)) (fun q => by omega) 0 (by omega) (by omega)
    simp only [h0, lenSl_slice, lenStr_string, str_size, fpureA_some, fnilA_ptr, faddA_ptr, addr_add, Nat.zero_add, Nat.add_zero, fpureQ_k, fpureQ_nilA, fpureQ_addA, fpureQ_pureA, fpureQ_guardA, fpureQ_idxSlA, fpureQ_pickA, freadQ_loadA, freadQ_loadNA, freadQ_b2sA, freadQ_guardA, freadQ_slSlA, freadQ_k, fendA, fallA_one, fstillA_nil, fguardA_tt, fguardA_ff, fguardA_tf, fguardA_ft, fguardA_undef, fpickA_true, fpickA_false, fcondA_true, fcondA_false, binA_add, binA_sub, binA_mul, binA_eql, binA_neq, binA_lss, binA_leq, binA_gtr, binA_geq, unA_not, Bool.not_true, Bool.not_false, convA_int, extA_tuple, List.getElem?_toArray, List.getElem?_cons_zero, List.getElem?_cons_succ, c2] at this
    exact this
  · have hx := v.blk_lt' f h0
    exact bs_loop hl l.length 0 l.length h (Nat.zero_le _) (Nat.le_refl _) (by omega) v hx (fun h' s' => fin h' s' (fun _ => v.stepL hx s' (by simp)) _ hrg.2 rfl)
theorem Search_spec {x : Value} {l : List (Key × Int)} {k : Key} (v : Is w0 h x l) (hl : l.length ≤ 1000000000) :
    ACalls prog w0 n_seq_Search_string_int [x, .string (str k)] h fun r h' =>
      r = .tuple #[.int .i64 (bsK l k l.length 0 l.length : Int), .bool (isAt l k (bsK l k l.length 0 l.length))] ∧ Step h h' [] [] := by
  refine ACalls.of_fit (by simpa using v.junk) fun f => c_seq_Search_string_int (by simpa using v.junk) ?_
  obtain ⟨a, c, ex⟩ := v.slice
  have elx : lenSl x = some (.int .i64 (l.length : Int)) := by rw [ex]; rfl
  simp only [s_seq_Search_string_int]
  refine callA_of (BinarySearch_spec v hl) fun r h1 ⟨e, s1⟩ f1 => ?_
  subst e
  have v1 : Is w0 h1 x l := v.step f s1 (by simp)
  have hrg := (bsK_range l k l.length 0 l.length (Nat.zero_le _) (Nat.le_refl _)).2
  generalize hr : bsK l k l.length 0 l.length = r at *
  simp only [lenSl_slice, lenStr_string, str_size, fpureA_some, fnilA_ptr, faddA_ptr, addr_add, Nat.zero_add, Nat.add_zero, fpureQ_k, fpureQ_nilA, fpureQ_addA, fpureQ_pureA, fpureQ_guardA, fpureQ_idxSlA, fpureQ_pickA, freadQ_loadA, freadQ_loadNA, freadQ_b2sA, freadQ_guardA, freadQ_slSlA, freadQ_k, fendA, fallA_one, fstillA_nil, fguardA_tt, fguardA_ff, fguardA_tf, fguardA_ft, fguardA_undef, fpickA_true, fpickA_false, fcondA_true, fcondA_false, binA_add, binA_sub, binA_mul, binA_eql, binA_neq, binA_lss, binA_leq, binA_gtr, binA_geq, unA_not, Bool.not_true, Bool.not_false, convA_int, extA_tuple, List.getElem?_toArray, List.getElem?_cons_zero, List.getElem?_cons_succ, elx]
  by_cases hrl : r < l.length
  · have c1 : decide ((r : Int) < (l.length : Int)) = true := decide_eq_true (by omega)
    have hg : l[r]? = some l[r] := List.getElem?_eq_getElem hrl
    simp only [lenSl_slice, lenStr_string, str_size, fpureA_some, fnilA_ptr, faddA_ptr, addr_add, Nat.zero_add, Nat.add_zero, fpureQ_k, fpureQ_nilA, fpureQ_addA, fpureQ_pureA, fpureQ_guardA, fpureQ_idxSlA, fpureQ_pickA, freadQ_loadA, freadQ_loadNA, freadQ_b2sA, freadQ_guardA, freadQ_slSlA, freadQ_k, fendA, fallA_one, fstillA_nil, fguardA_tt, fguardA_ff, fguardA_tf, fguardA_ft, fguardA_undef, fpickA_true, fpickA_false, fcondA_true, fcondA_false, binA_add, binA_sub, binA_mul, binA_eql, binA_neq, binA_lss, binA_leq, binA_gtr, binA_geq, unA_not, Bool.not_true, Bool.not_false, convA_int, extA_tuple, List.getElem?_toArray, List.getElem?_cons_zero, List.getElem?_cons_succ, c1]
    refine v1.fld hrl (by omega) (ivs_key hg) ?_
    simp only [lenSl_slice, lenStr_string, str_size, fpureA_some, fnilA_ptr, faddA_ptr, addr_add, Nat.zero_add, Nat.add_zero, fpureQ_k, fpureQ_nilA, fpureQ_addA, fpureQ_pureA, fpureQ_guardA, fpureQ_idxSlA, fpureQ_pickA, freadQ_loadA, freadQ_loadNA, freadQ_b2sA, freadQ_guardA, freadQ_slSlA, freadQ_k, fendA, fallA_one, fstillA_nil, fguardA_tt, fguardA_ff, fguardA_tf, fguardA_ft, fguardA_undef, fpickA_true, fpickA_false, fcondA_true, fcondA_false, binA_add, binA_sub, binA_mul, binA_eql, binA_neq, binA_lss, binA_leq, binA_gtr, binA_geq, unA_not, Bool.not_true, Bool.not_false, convA_int, extA_tuple, List.getElem?_toArray, List.getElem?_cons_zero, List.getElem?_cons_succ, s_eql, retA_iff, oneOf_two]
    exact ⟨by simp, by simp only [isAt, hg], s1⟩
  · have c1 : decide ((r : Int) < (l.length : Int)) = false := decide_eq_false (by omega)
    simp only [lenSl_slice, lenStr_string, str_size, fpureA_some, fnilA_ptr, faddA_ptr, addr_add, Nat.zero_add, Nat.add_zero, fpureQ_k, fpureQ_nilA, fpureQ_addA, fpureQ_pureA, fpureQ_guardA, fpureQ_idxSlA, fpureQ_pickA, freadQ_loadA, freadQ_loadNA, freadQ_b2sA, freadQ_guardA, freadQ_slSlA, freadQ_k, fendA, fallA_one, fstillA_nil, fguardA_tt, fguardA_ff, fguardA_tf, fguardA_ft, fguardA_undef, fpickA_true, fpickA_false, fcondA_true, fcondA_false, binA_add, binA_sub, binA_mul, binA_eql, binA_neq, binA_lss, binA_leq, binA_gtr, binA_geq, unA_not, Bool.not_true, Bool.not_false, convA_int, extA_tuple, List.getElem?_toArray, List.getElem?_cons_zero, List.getElem?_cons_succ, c1, retA_iff, oneOf_two]
    refine ⟨by simp, ?_, s1⟩
    simp only [isAt, List.getElem?_eq_none (show l.length ≤ r by omega)]
end
open Go Go.Proofs.Try
section
variable {w0 : World} {h : Hp}
theorem ovX_slices_overlaps_seq_Item_string_int : ovX prog n_slices_overlaps_seq_Item_string_int := ⟨f70, 4, 40, 54, by kernel_rfl, by kernel_rfl, by kernel_rfl, by kernel_rfl, by kernel_rfl, by kernel_rfl, by kernel_rfl⟩
theorem Insert_si {x : Value} {n i q : Nat} {cs e : List Value} {U : List Nat} (v : GV w0 h 2 x n cs U) (hv : 0 < n → Vec w0 h 2 x n cs U) (hi : i ≤ n) (hn : n ≤ 1000000000) (hq : w0.heap.size ≤ q) (hqb : h.blk q = some e) (hqe : h.esz q = 2) (he : e.length = 2) (hqU : q ∉ U) :
    ACalls prog w0 n_slices_Insert_lseq_Item_string_int_seq_Item_string_int [x, .int .i64 (i : Int), .slice (some ⟨q, 0, none⟩) 1 1] h fun r h' => ∃ U', Vec w0 h' 2 r (n + 1) (cs.take (i * 2) ++ e ++ cs.drop (i * 2)) U' ∧ Step h h' U U' := by
  have hj : x ≠ junk := by obtain ⟨a, c, rfl⟩ := v.slice; simp [junk]
  have hlen := v.len
  have hysrc : ∀ {h' : Hp}, h'.blk q = some e → Src w0.heap.size h' 2 (.slice (some ⟨q, 0, none⟩) 1 1) 1 e := fun hb => src_whole hq hb (by omega)
  -- what it leaves: a block that may have more cells
  have main : ACalls prog w0 n_slices_Insert_lseq_Item_string_int_seq_Item_string_int [x, .int .i64 (i : Int), .slice (some ⟨q, 0, none⟩) 1 1] h fun r h' =>
      (∃ U', Vec w0 h' 2 r (n + 1) (cs.take (i * 2) ++ e ++ cs.drop (i * 2)) U' ∧ Step h h' U U') ∨
      ∃ u cs', r = .slice (some ⟨u, 0, none⟩) (n + 1) ucap ∧ U = [u] ∧ w0.heap.size ≤ u ∧ u < h'.next ∧ h'.blk u = some cs' ∧ h'.esz u = 2 ∧ (n + 1) * 2 ≤ cs'.length ∧ cs'.take ((n + 1) * 2) = cs.take (i * 2) ++ e ++ cs.drop (i * 2) ∧ Step h h' [u] [u] := by
    refine ACalls.of_fit (by simpa using hj) fun f => c_slices_Insert_lseq_Item_string_int_seq_Item_string_int (by simpa using hj) ?_
    obtain ⟨a, c, ex⟩ := v.slice
    have elx : lenSl x = some (.int .i64 (n : Int)) := by rw [ex]; rfl
    have e1 : IntKind.i64.wrap ((n : Int) + 1) = ((n + 1 : Nat) : Int) := by rw [IntWalk.i64_in _ (by omega)]; simp
    have e2 : IntKind.i64.wrap ((i : Int) + 1) = ((i + 1 : Nat) : Int) := by rw [IntWalk.i64_in _ (by omega)]; simp
    have c0 : ((((1 : Nat) : Int)) == 0) = false := rfl
    simp only [s_slices_Insert_lseq_Item_string_int_seq_Item_string_int]
    refine v.sl.cutN (lo := i) (hi := n) boundA_nat (by rw [boundA_none]) hi (Nat.le_refl _) fun _ _ _ _ => ?_
    simp only [elx, lenSl_slice, lenStr_string, str_size, fpureA_some, fnilA_ptr, faddA_ptr, addr_add, Nat.zero_add, Nat.add_zero, fpureQ_k, fpureQ_nilA, fpureQ_addA, fpureQ_pureA, fpureQ_guardA, fpureQ_idxSlA, fpureQ_pickA, freadQ_loadA, freadQ_loadNA, freadQ_b2sA, freadQ_guardA, freadQ_slSlA, freadQ_k, fendA, fallA_one, fstillA_nil, fguardA_tt, fguardA_ff, fguardA_tf, fguardA_ft, fguardA_undef, fpickA_true, fpickA_false, fcondA_true, fcondA_false, binA_add, binA_sub, binA_mul, binA_eql, binA_neq, binA_lss, binA_leq, binA_gtr, binA_geq, unA_not, Bool.not_true, Bool.not_false, convA_int, extA_tuple, List.getElem?_toArray, List.getElem?_cons_zero, List.getElem?_cons_succ, c0]
    by_cases hin : i = n
    · have c1 : ((i : Int) == (n : Int)) = true := by rw [beq_iff_eq]; omega
      simp only [c1, lenSl_slice, lenStr_string, str_size, fpureA_some, fnilA_ptr, faddA_ptr, addr_add, Nat.zero_add, Nat.add_zero, fpureQ_k, fpureQ_nilA, fpureQ_addA, fpureQ_pureA, fpureQ_guardA, fpureQ_idxSlA, fpureQ_pickA, freadQ_loadA, freadQ_loadNA, freadQ_b2sA, freadQ_guardA, freadQ_slSlA, freadQ_k, fendA, fallA_one, fstillA_nil, fguardA_tt, fguardA_ff, fguardA_tf, fguardA_ft, fguardA_undef, fpickA_true, fpickA_false, fcondA_true, fcondA_false, binA_add, binA_sub, binA_mul, binA_eql, binA_neq, binA_lss, binA_leq, binA_gtr, binA_geq, unA_not, Bool.not_true, Bool.not_false, convA_int, extA_tuple, List.getElem?_toArray, List.getElem?_cons_zero, List.getElem?_cons_succ]
      refine appA_gv_pos f.base v (m := 1) (by omega) rfl (hysrc hqb) (by omega) (by omega) (by omega) (by omega) fun x' h' S' v' st => ?_
      simp only [retA_iff, oneOf_one]
      refine ⟨by obtain ⟨a, c, e⟩ := v'.slice; rw [e]; simp [junk], .inl ⟨S', ?_, st⟩⟩
      have : cs.take (i * 2) ++ e ++ cs.drop (i * 2) = cs ++ e := by rw [List.take_of_length_le (by omega), List.drop_of_length_le (by omega), List.append_nil]
      rw [this]
      exact v'
    · have c1 : ((i : Int) == (n : Int)) = false := by rw [beq_eq_false_iff_ne]; omega
      simp only [c1, lenSl_slice, lenStr_string, str_size, fpureA_some, fnilA_ptr, faddA_ptr, addr_add, Nat.zero_add, Nat.add_zero, fpureQ_k, fpureQ_nilA, fpureQ_addA, fpureQ_pureA, fpureQ_guardA, fpureQ_idxSlA, fpureQ_pickA, freadQ_loadA, freadQ_loadNA, freadQ_b2sA, freadQ_guardA, freadQ_slSlA, freadQ_k, fendA, fallA_one, fstillA_nil, fguardA_tt, fguardA_ff, fguardA_tf, fguardA_ft, fguardA_undef, fpickA_true, fpickA_false, fcondA_true, fcondA_false, binA_add, binA_sub, binA_mul, binA_eql, binA_neq, binA_lss, binA_leq, binA_gtr, binA_geq, unA_not, Bool.not_true, Bool.not_false, convA_int, extA_tuple, List.getElem?_toArray, List.getElem?_cons_zero, List.getElem?_cons_succ]
      have hilt : i < n := by omega
      obtain ⟨u, rfl, rfl, hu, hun, hub, hue, -⟩ : ∃ u, x = .slice (some ⟨u, 0, none⟩) n ucap ∧ U = [u] ∧ w0.heap.size ≤ u ∧ u < h.next ∧ h.blk u = some cs ∧ h.esz u = 2 ∧ cs.length = n * 2 := by
        rcases hv (by omega) with ⟨-, q0, -, -⟩ | q0
        · omega
        · exact q0
      have hqu : q ≠ u := by simpa using hqU
      refine ⟨_, n, ucap, rfl, ?_⟩
      rw [if_pos rfl]
      refine ⟨by omega, u, 0, cs, rfl, hu, hub, by omega, hue, fun c' hc' hc2 => ?_⟩
      have hcn : ((1 : Nat) : Int) = 1 := rfl
      have hi1 : (i + 1) * 2 = i * 2 + 2 := by omega
      obtain ⟨h1, hh1⟩ : ∃ h1, h1 = h.fill u (0 + c' * 2) cs := ⟨_, rfl⟩
      have g1 : h1.blk u = some (cs ++ List.replicate (c' * 2 - cs.length) unk) := by rw [hh1]; simp [Hp.fill]
      have g2 : h1.esz u = 2 := by rw [hh1]; exact hue
      have g3 : h1.cp u = some (c' * 2) := by rw [hh1]; simp [Hp.fill]
      have g4 : h1.blk q = some e := by rw [hh1]; simp [Hp.fill, hqu, hqb]
      have g5 : h1.next = h.next := by rw [hh1]; rfl
      have g6 : Step h h1 [u] [u] := by
        rw [hh1]
        refine ⟨Nat.le_refl _, fun b hb hs => ⟨?_, rfl⟩, fun b hb => ⟨by simp at hb; subst hb; exact hun, .inl hb⟩, rfl⟩
        have : b ≠ u := by simpa using hs
        simp [Hp.fill, this]
      have g7 : h1.esz q = 2 := by rw [hh1]; exact hqe
      rw [← hh1]
      have hlc : (cs ++ List.replicate (c' * 2 - cs.length) unk).length = c' * 2 := by simp; omega
      simp only [lenSl_slice, lenStr_string, str_size, fpureA_some, fnilA_ptr, faddA_ptr, addr_add, Nat.zero_add, Nat.add_zero, fpureQ_k, fpureQ_nilA, fpureQ_addA, fpureQ_pureA, fpureQ_guardA, fpureQ_idxSlA, fpureQ_pickA, freadQ_loadA, freadQ_loadNA, freadQ_b2sA, freadQ_guardA, freadQ_slSlA, freadQ_k, fendA, fallA_one, fstillA_nil, fguardA_tt, fguardA_ff, fguardA_tf, fguardA_ft, fguardA_undef, fpickA_true, fpickA_false, fcondA_true, fcondA_false, binA_add, binA_sub, binA_mul, binA_eql, binA_neq, binA_lss, binA_leq, binA_gtr, binA_geq, unA_not, Bool.not_true, Bool.not_false, convA_int, extA_tuple, List.getElem?_toArray, List.getElem?_cons_zero, List.getElem?_cons_succ, e1, hcn]
      by_cases hroom : c' < n + 1
      · have c2 : decide ((c' : Int) < ((n + 1 : Nat) : Int)) = true := decide_eq_true (by omega)
        have e3 : IntKind.i64.wrap (((n + 1 : Nat) : Int) - (i : Int)) = ((n + 1 - i : Nat) : Int) := by rw [IntWalk.i64_in _ (by omega)]; omega
        simp only [lenSl_slice, lenStr_string, str_size, fpureA_some, fnilA_ptr, faddA_ptr, addr_add, Nat.zero_add, Nat.add_zero, fpureQ_k, fpureQ_nilA, fpureQ_addA, fpureQ_pureA, fpureQ_guardA, fpureQ_idxSlA, fpureQ_pickA, freadQ_loadA, freadQ_loadNA, freadQ_b2sA, freadQ_guardA, freadQ_slSlA, freadQ_k, fendA, fallA_one, fstillA_nil, fguardA_tt, fguardA_ff, fguardA_tf, fguardA_ft, fguardA_undef, fpickA_true, fpickA_false, fcondA_true, fcondA_false, binA_add, binA_sub, binA_mul, binA_eql, binA_neq, binA_lss, binA_leq, binA_gtr, binA_geq, unA_not, Bool.not_true, Bool.not_false, convA_int, extA_tuple, List.getElem?_toArray, List.getElem?_cons_zero, List.getElem?_cons_succ, c2, e3]
        refine slSl_own (l := 0) (u := i) rfl boundA_nat (Nat.zero_le _) g1 g2 (by omega) (by rw [hlc]; omega) ?_
        rw [Nat.zero_mul, Nat.zero_add, Nat.sub_zero]
        have hold : h1.getN ⟨u, 0, none⟩ (i * 2) = some (cs.take (i * 2)) := by
          rw [getN_eq, g1, Option.bind_some, if_pos (by rw [hlc]; omega), List.drop_zero, List.take_append_of_le_length (by omega)]
        refine ⟨u, 0, i, n + 1 - i, c' * 2, .i64, cs.take (i * 2), rfl, rfl, by omega, hu, hold, g2, g3, by omega, by omega, by omega, ?_⟩
        rw [show i + (n + 1 - i) = n + 1 by omega]
        have hzl : (zerosL [(.string .empty), (.int .i64 0)] (n + 1 - i)).length = (n + 1 - i) * 2 := by rw [zerosL_length]; rfl
        obtain ⟨cs2, hcs2⟩ : ∃ cs2, cs2 = cs.take (i * 2) ++ zerosL [(.string .empty), (.int .i64 0)] (n + 1 - i) := ⟨_, rfl⟩
        have hcl2 : cs2.length = (n + 1) * 2 := by rw [hcs2, List.length_append, hzl, List.length_take]; omega
        rw [← hcs2]
        obtain ⟨h2, hh2⟩ : ∃ h2, h2 = h1.new cs2 2 := ⟨_, rfl⟩
        have k1 : h2.blk h1.next = some cs2 := by rw [hh2]; simp
        have k2 : h2.esz h1.next = 2 := by rw [hh2]; simp
        have k3 : h2.blk u = some (cs ++ List.replicate (c' * 2 - cs.length) unk) := by rw [hh2, new_blk, if_neg (by omega)]; exact g1
        have hqn : q < h.next := f.lt _ _ hqb
        have k4 : h2.blk q = some e := by rw [hh2, new_blk, if_neg (by omega)]; exact g4
        have k5 : h2.esz u = 2 := by rw [hh2, new_esz, if_neg (by omega)]; exact g2
        have k6 : Step h1 h2 [u] [h1.next, u] := by rw [hh2]; exact (Step.refl h1 [u] (by simp; omega)).new _ _
        have hbn : w0.heap.size ≤ h1.next := by rw [g5]; exact f.base
        rw [← hh2]
        refine slSl_own (l := i) (u := n + 1) boundA_nat (by rw [boundA_none]) (by omega) k1 k2 (by omega) (by omega) ?_
        refine ⟨_, _, _, 1, rfl, rfl, fun q0 => by omega, fun q0 => ⟨h1.next, 0 + i * 2, cs2, e, rfl, hbn, k1, by omega, ?_, ?_⟩⟩
        · rw [show min 1 (n + 1 - i) = 1 by omega]
          exact hysrc k4
        obtain ⟨cs3, hcs3⟩ : ∃ cs3, cs3 = splice cs2 (0 + i * 2) e := ⟨_, rfl⟩
        have hcl3 : cs3.length = (n + 1) * 2 := by rw [hcs3, splice_length (by omega)]; exact hcl2
        rw [← hcs3]
        obtain ⟨h3, hh3⟩ : ∃ h3, h3 = h2.put h1.next cs3 := ⟨_, rfl⟩
        have m1 : h3.blk h1.next = some cs3 := by rw [hh3]; simp
        have m2 : h3.esz h1.next = 2 := by rw [hh3]; exact k2
        have m3 : h3.blk u = some (cs ++ List.replicate (c' * 2 - cs.length) unk) := by rw [hh3, put_blk, if_neg (by omega)]; exact k3
        have m5 : h3.esz u = 2 := by rw [hh3]; exact k5
        have m6 : Step h1 h3 [u] [h1.next, u] := by rw [hh3]; exact k6.put (by simp) _
        rw [← hh3]
        simp only [lenSl_slice, lenStr_string, str_size, fpureA_some, fnilA_ptr, faddA_ptr, addr_add, Nat.zero_add, Nat.add_zero, fpureQ_k, fpureQ_nilA, fpureQ_addA, fpureQ_pureA, fpureQ_guardA, fpureQ_idxSlA, fpureQ_pickA, freadQ_loadA, freadQ_loadNA, freadQ_b2sA, freadQ_guardA, freadQ_slSlA, freadQ_k, fendA, fallA_one, fstillA_nil, fguardA_tt, fguardA_ff, fguardA_tf, fguardA_ft, fguardA_undef, fpickA_true, fpickA_false, fcondA_true, fcondA_false, binA_add, binA_sub, binA_mul, binA_eql, binA_neq, binA_lss, binA_leq, binA_gtr, binA_geq, unA_not, Bool.not_true, Bool.not_false, convA_int, extA_tuple, List.getElem?_toArray, List.getElem?_cons_zero, List.getElem?_cons_succ, e2]
        refine slSl_own (l := i + 1) (u := n + 1) boundA_nat (by rw [boundA_none]) (by omega) m1 m2 (by omega) (by omega) ?_
        refine slSl_own (l := i) (u := n) boundA_nat (by rw [boundA_none]) (by omega) m3 m5 (by omega) (by rw [hlc]; omega) ?_
        simp only [lenSl_slice, lenStr_string, str_size, fpureA_some, fnilA_ptr, faddA_ptr, addr_add, Nat.zero_add, Nat.add_zero, fpureQ_k, fpureQ_nilA, fpureQ_addA, fpureQ_pureA, fpureQ_guardA, fpureQ_idxSlA, fpureQ_pickA, freadQ_loadA, freadQ_loadNA, freadQ_b2sA, freadQ_guardA, freadQ_slSlA, freadQ_k, fendA, fallA_one, fstillA_nil, fguardA_tt, fguardA_ff, fguardA_tf, fguardA_ft, fguardA_undef, fpickA_true, fpickA_false, fcondA_true, fcondA_false, binA_add, binA_sub, binA_mul, binA_eql, binA_neq, binA_lss, binA_leq, binA_gtr, binA_geq, unA_not, Bool.not_true, Bool.not_false, convA_int, extA_tuple, List.getElem?_toArray, List.getElem?_cons_zero, List.getElem?_cons_succ]
        refine ⟨_, _, _, n - i, rfl, rfl, fun q0 => by omega, fun q0 => ⟨h1.next, (i + 1) * 2, cs3, cs.drop (i * 2), rfl, hbn, m1, by omega, ?_, ?_⟩⟩
        · rw [show min (n - i) (n + 1 - (i + 1)) = n - i by omega]
          have := src_own (w0 := w0) (h := h3) (s := 2) (n := n - i) (o := 0 + i * 2) (c := ucap) hu m3 (by rw [hlc]; omega)
          rw [List.drop_append_of_le_length (by omega), List.take_append_of_le_length (by simp; omega), List.take_of_length_le (by simp; omega), Nat.zero_add] at this
          exact this
        simp only [lenSl_slice, lenStr_string, str_size, fpureA_some, fnilA_ptr, faddA_ptr, addr_add, Nat.zero_add, Nat.add_zero, fpureQ_k, fpureQ_nilA, fpureQ_addA, fpureQ_pureA, fpureQ_guardA, fpureQ_idxSlA, fpureQ_pickA, freadQ_loadA, freadQ_loadNA, freadQ_b2sA, freadQ_guardA, freadQ_slSlA, freadQ_k, fendA, fallA_one, fstillA_nil, fguardA_tt, fguardA_ff, fguardA_tf, fguardA_ft, fguardA_undef, fpickA_true, fpickA_false, fcondA_true, fcondA_false, binA_add, binA_sub, binA_mul, binA_eql, binA_neq, binA_lss, binA_leq, binA_gtr, binA_geq, unA_not, Bool.not_true, Bool.not_false, convA_int, extA_tuple, List.getElem?_toArray, List.getElem?_cons_zero, List.getElem?_cons_succ, retA_iff, oneOf_one]
        refine ⟨by simp [junk], .inl ⟨[h1.next], .inr ⟨h1.next, rfl, rfl, hbn, ?_, ?_, m2, ?_⟩, ?_⟩⟩
        · have := m6.1; have := (m6.own h1.next (by simp)).1; simpa using this
        · rw [put_blk, if_pos rfl]
          congr 1
          have := ins_A (A := cs.take (i * 2)) (B := cs.drop (i * 2)) (Z := zerosL [(.string .empty), (.int .i64 0)] (n + 1 - i)) (e := e) (by rw [hzl, List.length_drop]; omega)
          rw [show (cs.take (i * 2)).length = i * 2 by simp; omega, he, ← hcs2] at this
          rw [hcs3, Nat.zero_add, hi1]
          exact this
        · simp only [List.length_append, List.length_take, List.length_drop]; omega
        · exact ((g6.trans m6).put (by simp) _).less (by simp)
      · have c2 : decide ((c' : Int) < ((n + 1 : Nat) : Int)) = false := decide_eq_false (by omega)
        simp only [lenSl_slice, lenStr_string, str_size, fpureA_some, fnilA_ptr, faddA_ptr, addr_add, Nat.zero_add, Nat.add_zero, fpureQ_k, fpureQ_nilA, fpureQ_addA, fpureQ_pureA, fpureQ_guardA, fpureQ_idxSlA, fpureQ_pickA, freadQ_loadA, freadQ_loadNA, freadQ_b2sA, freadQ_guardA, freadQ_slSlA, freadQ_k, fendA, fallA_one, fstillA_nil, fguardA_tt, fguardA_ff, fguardA_tf, fguardA_ft, fguardA_undef, fpickA_true, fpickA_false, fcondA_true, fcondA_false, binA_add, binA_sub, binA_mul, binA_eql, binA_neq, binA_lss, binA_leq, binA_gtr, binA_geq, unA_not, Bool.not_true, Bool.not_false, convA_int, extA_tuple, List.getElem?_toArray, List.getElem?_cons_zero, List.getElem?_cons_succ, c2]
        refine slSl_own (l := 0) (u := n + 1) rfl boundA_nat (Nat.zero_le _) g1 g2 (by omega) (by rw [hlc]; omega) ?_
        rw [Nat.zero_mul, Nat.zero_add, Nat.sub_zero]
        simp only [lenSl_slice, lenStr_string, str_size, fpureA_some, fnilA_ptr, faddA_ptr, addr_add, Nat.zero_add, Nat.add_zero, fpureQ_k, fpureQ_nilA, fpureQ_addA, fpureQ_pureA, fpureQ_guardA, fpureQ_idxSlA, fpureQ_pickA, freadQ_loadA, freadQ_loadNA, freadQ_b2sA, freadQ_guardA, freadQ_slSlA, freadQ_k, fendA, fallA_one, fstillA_nil, fguardA_tt, fguardA_ff, fguardA_tf, fguardA_ft, fguardA_undef, fpickA_true, fpickA_false, fcondA_true, fcondA_false, binA_add, binA_sub, binA_mul, binA_eql, binA_neq, binA_lss, binA_leq, binA_gtr, binA_geq, unA_not, Bool.not_true, Bool.not_false, convA_int, extA_tuple, List.getElem?_toArray, List.getElem?_cons_zero, List.getElem?_cons_succ, e2]
        refine slSl_own (l := i + 1) (u := n + 1) boundA_nat (by rw [boundA_none]) (by omega) g1 g2 (by omega) (by rw [hlc]; omega) ?_
        refine ⟨ovX_slices_overlaps_seq_Item_string_int, q, 0, 1, 1, u, _, _, _, e, _, rfl, rfl, hqu, hq, hu, g4, g1, by omega, by rw [hlc]; omega, by omega, by omega, by rw [g7]; omega, ?_⟩
        simp only [lenSl_slice, lenStr_string, str_size, fpureA_some, fnilA_ptr, faddA_ptr, addr_add, Nat.zero_add, Nat.add_zero, fpureQ_k, fpureQ_nilA, fpureQ_addA, fpureQ_pureA, fpureQ_guardA, fpureQ_idxSlA, fpureQ_pickA, freadQ_loadA, freadQ_loadNA, freadQ_b2sA, freadQ_guardA, freadQ_slSlA, freadQ_k, fendA, fallA_one, fstillA_nil, fguardA_tt, fguardA_ff, fguardA_tf, fguardA_ft, fguardA_undef, fpickA_true, fpickA_false, fcondA_true, fcondA_false, binA_add, binA_sub, binA_mul, binA_eql, binA_neq, binA_lss, binA_leq, binA_gtr, binA_geq, unA_not, Bool.not_true, Bool.not_false, convA_int, extA_tuple, List.getElem?_toArray, List.getElem?_cons_zero, List.getElem?_cons_succ, e2]
        refine slSl_own (l := i + 1) (u := n + 1) boundA_nat (by rw [boundA_none]) (by omega) g1 g2 (by omega) (by rw [hlc]; omega) ?_
        refine slSl_own (l := i) (u := n + 1) boundA_nat (by rw [boundA_none]) (by omega) g1 g2 (by omega) (by rw [hlc]; omega) ?_
        simp only [lenSl_slice, lenStr_string, str_size, fpureA_some, fnilA_ptr, faddA_ptr, addr_add, Nat.zero_add, Nat.add_zero, fpureQ_k, fpureQ_nilA, fpureQ_addA, fpureQ_pureA, fpureQ_guardA, fpureQ_idxSlA, fpureQ_pickA, freadQ_loadA, freadQ_loadNA, freadQ_b2sA, freadQ_guardA, freadQ_slSlA, freadQ_k, fendA, fallA_one, fstillA_nil, fguardA_tt, fguardA_ff, fguardA_tf, fguardA_ft, fguardA_undef, fpickA_true, fpickA_false, fcondA_true, fcondA_false, binA_add, binA_sub, binA_mul, binA_eql, binA_neq, binA_lss, binA_leq, binA_gtr, binA_geq, unA_not, Bool.not_true, Bool.not_false, convA_int, extA_tuple, List.getElem?_toArray, List.getElem?_cons_zero, List.getElem?_cons_succ]
        refine ⟨_, _, _, n + 1 - i, rfl, rfl, fun q0 => by omega, fun q0 => ⟨u, (i + 1) * 2, _, cs.drop (i * 2), rfl, hu, g1, by rw [hlc]; omega, ?_, ?_⟩⟩
        · rw [show min (n + 1 - i) (n + 1 - (i + 1)) = n - i by omega]
          have := src_own (w0 := w0) (h := h1) (s := 2) (n := n - i) (o := 0 + i * 2) (c := ucap) hu g1 (by rw [hlc]; omega)
          rw [List.drop_append_of_le_length (by omega), List.take_append_of_le_length (by simp; omega), List.take_of_length_le (by simp; omega), Nat.zero_add] at this
          exact ⟨by omega, this.2⟩
        obtain ⟨cs3, hcs3⟩ : ∃ cs3, cs3 = splice (cs ++ List.replicate (c' * 2 - cs.length) unk) ((i + 1) * 2) (cs.drop (i * 2)) := ⟨_, rfl⟩
        have hcl3 : cs3.length = c' * 2 := by rw [hcs3, splice_length (by rw [hlc]; simp; omega)]; exact hlc
        rw [← hcs3]
        obtain ⟨h3, hh3⟩ : ∃ h3, h3 = h1.put u cs3 := ⟨_, rfl⟩
        have m1 : h3.blk u = some cs3 := by rw [hh3]; simp
        have m2 : h3.esz u = 2 := by rw [hh3]; exact g2
        have m4 : h3.blk q = some e := by rw [hh3, put_blk, if_neg hqu]; exact g4
        rw [← hh3]
        refine slSl_own (l := i) (u := n + 1) boundA_nat (by rw [boundA_none]) (by omega) m1 m2 (by omega) (by omega) ?_
        refine ⟨_, _, _, 1, rfl, rfl, fun q0 => by omega, fun q0 => ⟨u, 0 + i * 2, cs3, e, rfl, hu, m1, by omega, ?_, ?_⟩⟩
        · rw [show min 1 (n + 1 - i) = 1 by omega]
          exact hysrc m4
        simp only [lenSl_slice, lenStr_string, str_size, fpureA_some, fnilA_ptr, faddA_ptr, addr_add, Nat.zero_add, Nat.add_zero, fpureQ_k, fpureQ_nilA, fpureQ_addA, fpureQ_pureA, fpureQ_guardA, fpureQ_idxSlA, fpureQ_pickA, freadQ_loadA, freadQ_loadNA, freadQ_b2sA, freadQ_guardA, freadQ_slSlA, freadQ_k, fendA, fallA_one, fstillA_nil, fguardA_tt, fguardA_ff, fguardA_tf, fguardA_ft, fguardA_undef, fpickA_true, fpickA_false, fcondA_true, fcondA_false, binA_add, binA_sub, binA_mul, binA_eql, binA_neq, binA_lss, binA_leq, binA_gtr, binA_geq, unA_not, Bool.not_true, Bool.not_false, convA_int, extA_tuple, List.getElem?_toArray, List.getElem?_cons_zero, List.getElem?_cons_succ, retA_iff, oneOf_one]
        refine ⟨by simp [junk], .inr ⟨u, splice cs3 (0 + i * 2) e, rfl, rfl, hu, ?_, by simp, m2, ?_, ?_, ?_⟩⟩
        · rw [hh3]; simp; omega
        · rw [splice_length (by omega)]; omega
        · have := ins_B (A := cs.take (i * 2)) (B := cs.drop (i * 2)) (R := List.replicate (c' * 2 - cs.length) unk) (e := e) (by simp; omega)
          rw [show (cs.take (i * 2)).length = i * 2 by simp; omega, he, ← List.append_assoc, List.take_append_drop, List.length_drop] at this
          rw [hcs3, Nat.zero_add, hi1, show (n + 1) * 2 = i * 2 + 2 + (cs.length - i * 2) by omega]
          exact this
        · have : Step h1 ((h1.put u cs3).put u (splice cs3 (0 + i * 2) e)) [u] [u] := (((Step.refl h1 [u] (by simp; omega)).put (by simp) _).put (by simp) _)
          rw [← hh3, Nat.zero_add] at this
          exact g6.trans this
  exact main.forget fun r h' hr f' => by
    rcases hr with hr | ⟨u, cs', rfl, rfl, hu, hun, hb, hes, hl, ht, st⟩
    · exact .inl hr
    · refine .inr ⟨u, cs', (n + 1) * 2, hu, hb, [u], .inr ⟨u, rfl, rfl, hu, hun, by simp [ht], hes, ?_⟩, st.put (by simp) _⟩
      rw [← ht, List.length_take]
      omega
theorem Delete_si {x : Value} {n i : Nat} {cs : List Value} {U : List Nat} (v : Vec w0 h 2 x n cs U) (hi : i < n) (hn : n ≤ 1000000000) :
    ACalls prog w0 n_slices_Delete_lseq_Item_string_int_seq_Item_string_int [x, .int .i64 (i : Int), .int .i64 ((i + 1 : Nat) : Int)] h fun r h' => ∃ U', Vec w0 h' 2 r (n - 1) (cs.take (i * 2) ++ cs.drop ((i + 1) * 2)) U' ∧ Step h h' U U' := by
  have hj : x ≠ junk := by obtain ⟨a, c, rfl⟩ := v.slice; simp [junk]
  have main : ACalls prog w0 n_slices_Delete_lseq_Item_string_int_seq_Item_string_int [x, .int .i64 (i : Int), .int .i64 ((i + 1 : Nat) : Int)] h fun r h' =>
      ∃ u cs', r = .slice (some ⟨u, 0, none⟩) (n - 1) ucap ∧ U = [u] ∧ w0.heap.size ≤ u ∧ u < h'.next ∧ h'.blk u = some cs' ∧ h'.esz u = 2 ∧ (n - 1) * 2 ≤ cs'.length ∧ cs'.take ((n - 1) * 2) = cs.take (i * 2) ++ cs.drop ((i + 1) * 2) ∧ Step h h' [u] [u] := by
    refine ACalls.of_fit (by simpa using hj) fun f => c_slices_Delete_lseq_Item_string_int_seq_Item_string_int (by simpa using hj) ?_
    obtain ⟨u, rfl, rfl, hu, hun, hub, hue, hlen⟩ : ∃ u, x = .slice (some ⟨u, 0, none⟩) n ucap ∧ U = [u] ∧ w0.heap.size ≤ u ∧ u < h.next ∧ h.blk u = some cs ∧ h.esz u = 2 ∧ cs.length = n * 2 := by
      rcases v with ⟨-, q0, -, -⟩ | q0
      · omega
      · exact q0
    have c0 : ((i : Int) == ((i + 1 : Nat) : Int)) = false := by rw [beq_eq_false_iff_ne]; omega
    have hm : i + (n - (i + 1)) = n - 1 := by omega
    simp only [s_slices_Delete_lseq_Item_string_int_seq_Item_string_int, lenSl_slice, lenStr_string, str_size, fpureA_some, fnilA_ptr, faddA_ptr, addr_add, Nat.zero_add, Nat.add_zero, fpureQ_k, fpureQ_nilA, fpureQ_addA, fpureQ_pureA, fpureQ_guardA, fpureQ_idxSlA, fpureQ_pickA, freadQ_loadA, freadQ_loadNA, freadQ_b2sA, freadQ_guardA, freadQ_slSlA, freadQ_k, fendA, fallA_one, fstillA_nil, fguardA_tt, fguardA_ff, fguardA_tf, fguardA_ft, fguardA_undef, fpickA_true, fpickA_false, fcondA_true, fcondA_false, binA_add, binA_sub, binA_mul, binA_eql, binA_neq, binA_lss, binA_leq, binA_gtr, binA_geq, unA_not, Bool.not_true, Bool.not_false, convA_int, extA_tuple, List.getElem?_toArray, List.getElem?_cons_zero, List.getElem?_cons_succ]
    refine ⟨_, n, ucap, i, i + 1, rfl, boundA_nat, boundA_nat, by omega, by simp, n, boundA_nat, by omega, by unfold ucap; omega, by simp, ?_⟩
    simp only [lenSl_slice, lenStr_string, str_size, fpureA_some, fnilA_ptr, faddA_ptr, addr_add, Nat.zero_add, Nat.add_zero, fpureQ_k, fpureQ_nilA, fpureQ_addA, fpureQ_pureA, fpureQ_guardA, fpureQ_idxSlA, fpureQ_pickA, freadQ_loadA, freadQ_loadNA, freadQ_b2sA, freadQ_guardA, freadQ_slSlA, freadQ_k, fendA, fallA_one, fstillA_nil, fguardA_tt, fguardA_ff, fguardA_tf, fguardA_ft, fguardA_undef, fpickA_true, fpickA_false, fcondA_true, fcondA_false, binA_add, binA_sub, binA_mul, binA_eql, binA_neq, binA_lss, binA_leq, binA_gtr, binA_geq, unA_not, Bool.not_true, Bool.not_false, convA_int, extA_tuple, List.getElem?_toArray, List.getElem?_cons_zero, List.getElem?_cons_succ, c0]
    refine slSl_own (l := 0) (u := i) rfl boundA_nat (Nat.zero_le _) hub hue (by omega) (by omega) ?_
    refine slSl_own (l := i + 1) (u := n) boundA_nat (by rw [boundA_none]) (by omega) hub hue (by omega) (by omega) ?_
    rw [Nat.zero_mul, Nat.add_zero, Nat.sub_zero]
    have hi1 : (i + 1) * 2 = i * 2 + 2 := by omega
    have hys : (cs.drop ((i + 1) * 2)).length = (n - (i + 1)) * 2 := by rw [List.length_drop]; omega
    refine appA_fit (m := n - (i + 1)) (ys := cs.drop ((i + 1) * 2)) hu hub hue (by omega) (by omega) rfl ?_ ?_
    · have := src_own (w0 := w0) (h := h) (s := 2) (n := n - (i + 1)) (o := 0 + (i + 1) * 2) (c := ucap) hu hub (by omega)
      rw [List.take_of_length_le (by simp; omega), Nat.zero_add] at this
      rw [Nat.zero_add]
      exact this
    obtain ⟨cs2, hcs2⟩ : ∃ cs2, cs2 = splice cs (0 + i * 2) (cs.drop ((i + 1) * 2)) := ⟨_, rfl⟩
    have hcl2 : cs2.length = n * 2 := by rw [hcs2, splice_length (by omega)]; exact hlen
    rw [← hcs2]
    obtain ⟨h2, hh2⟩ : ∃ h2, h2 = h.put u cs2 := ⟨_, rfl⟩
    have m1 : h2.blk u = some cs2 := by rw [hh2]; simp
    have m2 : h2.esz u = 2 := by rw [hh2]; exact hue
    have m3 : Step h h2 [u] [u] := by rw [hh2]; exact (Step.refl h [u] (by simp; omega)).put (by simp) _
    rw [← hh2, hm]
    simp only [lenSl_slice, lenStr_string, str_size, fpureA_some, fnilA_ptr, faddA_ptr, addr_add, Nat.zero_add, Nat.add_zero, fpureQ_k, fpureQ_nilA, fpureQ_addA, fpureQ_pureA, fpureQ_guardA, fpureQ_idxSlA, fpureQ_pickA, freadQ_loadA, freadQ_loadNA, freadQ_b2sA, freadQ_guardA, freadQ_slSlA, freadQ_k, fendA, fallA_one, fstillA_nil, fguardA_tt, fguardA_ff, fguardA_tf, fguardA_ft, fguardA_undef, fpickA_true, fpickA_false, fcondA_true, fcondA_false, binA_add, binA_sub, binA_mul, binA_eql, binA_neq, binA_lss, binA_leq, binA_gtr, binA_geq, unA_not, Bool.not_true, Bool.not_false, convA_int, extA_tuple, List.getElem?_toArray, List.getElem?_cons_zero, List.getElem?_cons_succ]
    refine slSl_own (l := n - 1) (u := n) boundA_nat boundA_nat (by omega) m1 m2 (by omega) (by omega) ?_
    rw [show n - (n - 1) = 1 by omega]
    refine ⟨_, 1, _, rfl, fun q0 => by omega, fun _ => ⟨u, 0 + (n - 1) * 2, cs2, rfl, hu, m1, by omega, ?_⟩⟩
    simp only [retA_iff, oneOf_one]
    have hzl : (zerosL [(.string .empty), (.int .i64 0)] 1).length = 2 := rfl
    refine ⟨by simp [junk], u, splice cs2 (0 + (n - 1) * 2) (zerosL [(.string .empty), (.int .i64 0)] 1), rfl, rfl, hu, by have := m3.1; simp; omega, by simp, m2, by rw [splice_length (by omega)]; omega, ?_, m3.put (by simp) _⟩
    have e1 : (splice cs2 (0 + (n - 1) * 2) (zerosL [(.string .empty), (.int .i64 0)] 1)).take ((n - 1) * 2) = cs2.take ((n - 1) * 2) := by
      unfold splice
      rw [List.append_assoc, Nat.zero_add, List.take_append_of_le_length (by simp; omega), List.take_take, Nat.min_self]
    rw [e1, hcs2, Nat.zero_add]
    have := del_B (A := cs.take (i * 2)) (e := (cs.drop (i * 2)).take 2) (B := cs.drop ((i + 1) * 2))
    rw [show (cs.take (i * 2)).length = i * 2 by simp; omega, hys] at this
    have e2 : (cs.drop (i * 2)).take 2 ++ cs.drop ((i + 1) * 2) = cs.drop (i * 2) := by
      rw [hi1, ← List.drop_drop, List.take_append_drop]
    rw [e2, List.take_append_drop, show i * 2 + (n - (i + 1)) * 2 = (n - 1) * 2 by omega] at this
    exact this
  exact main.forget fun r h' ⟨u, cs', e0, e1, hu, hun, hb, hes, hl, ht, st⟩ f' => by
    subst e0 e1
    refine .inr ⟨u, cs', (n - 1) * 2, hu, hb, [u], .inr ⟨u, rfl, rfl, hu, hun, by simp [ht], hes, ?_⟩, st.put (by simp) _⟩
    rw [← ht, List.length_take]
    omega
theorem Clone_si {x : Value} {n : Nat} {cs : List Value} (v : Sl w0 h 2 x n cs) (hn : n ≤ 1000000000) :
    ACalls prog w0 n_slices_Clone_lseq_Item_string_int_seq_Item_string_int [x] h fun r h' => ∃ U, GV w0 h' 2 r n cs U ∧ (0 < n → Vec w0 h' 2 r n cs U) ∧ Step h h' [] U := by
  refine ACalls.of_fit (by simpa using v.junk) fun f => c_slices_Clone_lseq_Item_string_int_seq_Item_string_int (by simpa using v.junk) ?_
  obtain ⟨a, c, hx⟩ := v.slice
  simp only [s_slices_Clone_lseq_Item_string_int_seq_Item_string_int]
  cases a with
  | none =>
    subst hx
    have h0 : n = 0 ∧ cs = [] := by
      rcases v.src.2 with h0 | ⟨-, ad, e, -⟩
      · exact h0
      · simp at e
    obtain ⟨rfl, rfl⟩ := h0
    simp only [show binSlA .eql (.slice none 0 c) (.slice none 0 0) = some (.bool true) from rfl, lenSl_slice, lenStr_string, str_size, fpureA_some, fnilA_ptr, faddA_ptr, addr_add, Nat.zero_add, Nat.add_zero, fpureQ_k, fpureQ_nilA, fpureQ_addA, fpureQ_pureA, fpureQ_guardA, fpureQ_idxSlA, fpureQ_pickA, freadQ_loadA, freadQ_loadNA, freadQ_b2sA, freadQ_guardA, freadQ_slSlA, freadQ_k, fendA, fallA_one, fstillA_nil, fguardA_tt, fguardA_ff, fguardA_tf, fguardA_ft, fguardA_undef, fpickA_true, fpickA_false, fcondA_true, fcondA_false, binA_add, binA_sub, binA_mul, binA_eql, binA_neq, binA_lss, binA_leq, binA_gtr, binA_geq, unA_not, Bool.not_true, Bool.not_false, convA_int, extA_tuple, List.getElem?_toArray, List.getElem?_cons_zero, List.getElem?_cons_succ, retA_iff, oneOf_one]
    exact ⟨by simp, [], .inl .nil, fun _ => .nil, .refl _ _ (by simp)⟩
  | some ad =>
    have hb : binSlA .eql x (.slice none 0 0) = some (.bool false) := by rw [hx]; rfl
    simp only [hb, lenSl_slice, lenStr_string, str_size, fpureA_some, fnilA_ptr, faddA_ptr, addr_add, Nat.zero_add, Nat.add_zero, fpureQ_k, fpureQ_nilA, fpureQ_addA, fpureQ_pureA, fpureQ_guardA, fpureQ_idxSlA, fpureQ_pickA, freadQ_loadA, freadQ_loadNA, freadQ_b2sA, freadQ_guardA, freadQ_slSlA, freadQ_k, fendA, fallA_one, fstillA_nil, fguardA_tt, fguardA_ff, fguardA_tf, fguardA_ft, fguardA_undef, fpickA_true, fpickA_false, fcondA_true, fcondA_false, binA_add, binA_sub, binA_mul, binA_eql, binA_neq, binA_lss, binA_leq, binA_gtr, binA_geq, unA_not, Bool.not_true, Bool.not_false, convA_int, extA_tuple, List.getElem?_toArray, List.getElem?_cons_zero, List.getElem?_cons_succ]
    refine app_new f v (by omega) (by omega) (by omega) fun x' h' S' g gv st hn => ?_
    obtain ⟨a', c', hx'⟩ := g.slice
    simp only [retA_iff, oneOf_one]
    exact ⟨by rw [hx']; simp, S', g, gv, st⟩
end
/-- What a map holds. -/
def Mp (w0 : World) (h : Hp) (p : Nat) (l : List (Key × Int)) (S : List Nat) : Prop :=
  ∃ x U, h.blk p = some [x] ∧ GV w0 h 2 x l.length (ivs l) U ∧ (0 < l.length → Vec w0 h 2 x l.length (ivs l) U) ∧ w0.heap.size ≤ p ∧ p < h.next ∧ p ∉ U ∧ S = p :: U ∧ isCell x = true
section
variable {w0 : World} {h h' : Hp} {p : Nat} {l : List (Key × Int)} {S : List Nat}
theorem GV.cell {s n : Nat} {x : Value} {cs : List Value} {U : List Nat} (v : GV w0 h s x n cs U) : isCell x = true := by obtain ⟨a, c, rfl⟩ := v.slice; rfl
theorem Mp.lt (m : Mp w0 h p l S) : ∀ b, b ∈ S → w0.heap.size ≤ b ∧ b < h.next := by
  obtain ⟨x, U, a, v, _, b, c, d, rfl, _⟩ := m
  intro q hq
  rcases List.mem_cons.1 hq with rfl | hq
  · exact ⟨b, c⟩
  · exact v.lt q hq
theorem Mp.mem (m : Mp w0 h p l S) : p ∈ S := by obtain ⟨x, U, a, v, _, b, c, d, rfl, _⟩ := m; simp
theorem Mp.frame (m : Mp w0 h p l S) {T T' : List Nat} (st : Step h h' T T') (hd : ∀ b, b ∈ S → b ∉ T) : Mp w0 h' p l S := by
  obtain ⟨x, U, a, v, v', b, c, d, rfl, e⟩ := m
  exact ⟨x, U, by rw [(st.keep p c (hd p (by simp))).1]; exact a, v.frame st (fun q hq => hd q (by simp [hq])), fun h0 => (v' h0).frame st (fun q hq => hd q (by simp [hq])), b, by have := st.1; omega, d, rfl, e⟩
theorem Mp.refl (m : Mp w0 h p l S) : Step h h S S := .refl _ _ fun b hb => (m.lt b hb).2
theorem NewMap_spec : ACalls prog w0 n_seq_NewMap_string_int [] h fun r h' => r = ptr h.next ∧ Mp w0 h' h.next [] [h.next] ∧ Step h h' [] [h.next] := by
  refine ACalls.of_fit (by simp) fun f => c_seq_NewMap_string_int (by simp) ?_
  simp only [s_seq_NewMap_string_int, buildA, fillA_nil]
  refine ⟨_, rfl, ?_⟩
  simp only [retA_iff, oneOf_one]
  have hb := f.base
  exact ⟨by simp, rfl, ⟨.slice none 0 0, [], by simp, .inl .nil, fun _ => .nil, hb, by simp, by simp, rfl, rfl⟩, (Step.refl h [] (by simp)).new _ _⟩
theorem MLen_spec (m : Mp w0 h p l S) : ACalls prog w0 n_seq_Map_string_int_Len [ptr p] h fun r h' => r = .int .i64 (l.length : Int) ∧ h' = h := by
  refine ACalls.of_fit (by simp [ptr]) fun f => c_seq_Map_string_int_Len (by simp [ptr]) ?_
  obtain ⟨x, U, a, v, v', b, c, d, rfl, e⟩ := m
  obtain ⟨ax, cx, ex⟩ := v.slice
  have elx : lenSl x = some (.int .i64 (l.length : Int)) := by rw [ex]; rfl
  have c0 : binPtrA .eql (.pointer (some ⟨p, 0, none⟩)) (.pointer none) = some (.bool false) := rfl
  simp only [s_seq_Map_string_int_Len, c0, lenSl_slice, lenStr_string, str_size, fpureA_some, fnilA_ptr, faddA_ptr, addr_add, Nat.zero_add, Nat.add_zero, fpureQ_k, fpureQ_nilA, fpureQ_addA, fpureQ_pureA, fpureQ_guardA, fpureQ_idxSlA, fpureQ_pickA, freadQ_loadA, freadQ_loadNA, freadQ_b2sA, freadQ_guardA, freadQ_slSlA, freadQ_k, fendA, fallA_one, fstillA_nil, fguardA_tt, fguardA_ff, fguardA_tf, fguardA_ft, fguardA_undef, fpickA_true, fpickA_false, fcondA_true, fcondA_false, binA_add, binA_sub, binA_mul, binA_eql, binA_neq, binA_lss, binA_leq, binA_gtr, binA_geq, unA_not, Bool.not_true, Bool.not_false, convA_int, extA_tuple, List.getElem?_toArray, List.getElem?_cons_zero, List.getElem?_cons_succ, ptr]
  refine loadA_at b a rfl ?_
  simp only [elx, lenSl_slice, lenStr_string, str_size, fpureA_some, fnilA_ptr, faddA_ptr, addr_add, Nat.zero_add, Nat.add_zero, fpureQ_k, fpureQ_nilA, fpureQ_addA, fpureQ_pureA, fpureQ_guardA, fpureQ_idxSlA, fpureQ_pickA, freadQ_loadA, freadQ_loadNA, freadQ_b2sA, freadQ_guardA, freadQ_slSlA, freadQ_k, fendA, fallA_one, fstillA_nil, fguardA_tt, fguardA_ff, fguardA_tf, fguardA_ft, fguardA_undef, fpickA_true, fpickA_false, fcondA_true, fcondA_false, binA_add, binA_sub, binA_mul, binA_eql, binA_neq, binA_lss, binA_leq, binA_gtr, binA_geq, unA_not, Bool.not_true, Bool.not_false, convA_int, extA_tuple, List.getElem?_toArray, List.getElem?_cons_zero, List.getElem?_cons_succ, retA_iff, oneOf_one]
  exact ⟨by simp, trivial, trivial⟩
theorem find_spec (m : Mp w0 h p l S) (hs : Srt l) (hl : l.length ≤ 1000000000) (k : Key) : ACalls prog w0 n_seq_Map_string_int_find [ptr p, .string (str k)] h fun r h' =>
    r = .tuple #[.int .i64 (findK l k : Int), .bool (hasK l k)] ∧ Step h h' [] [] := by
  refine ACalls.of_fit (by simp [ptr]) fun f => c_seq_Map_string_int_find (by simp [ptr]) ?_
  obtain ⟨x, U, a, v, v', b, c, d, rfl, e⟩ := m
  have c0 : binPtrA .eql (.pointer (some ⟨p, 0, none⟩)) (.pointer none) = some (.bool false) := rfl
  simp only [s_seq_Map_string_int_find, c0, lenSl_slice, lenStr_string, str_size, fpureA_some, fnilA_ptr, faddA_ptr, addr_add, Nat.zero_add, Nat.add_zero, fpureQ_k, fpureQ_nilA, fpureQ_addA, fpureQ_pureA, fpureQ_guardA, fpureQ_idxSlA, fpureQ_pickA, freadQ_loadA, freadQ_loadNA, freadQ_b2sA, freadQ_guardA, freadQ_slSlA, freadQ_k, fendA, fallA_one, fstillA_nil, fguardA_tt, fguardA_ff, fguardA_tf, fguardA_ft, fguardA_undef, fpickA_true, fpickA_false, fcondA_true, fcondA_false, binA_add, binA_sub, binA_mul, binA_eql, binA_neq, binA_lss, binA_leq, binA_gtr, binA_geq, unA_not, Bool.not_true, Bool.not_false, convA_int, extA_tuple, List.getElem?_toArray, List.getElem?_cons_zero, List.getElem?_cons_succ, ptr]
  refine loadA_at b a rfl ?_
  refine callA_of (Search_spec v.sl hl) fun r h1 ⟨e1, s1⟩ f1 => ?_
  subst e1
  rw [bsK_all hs]
  simp only [lenSl_slice, lenStr_string, str_size, fpureA_some, fnilA_ptr, faddA_ptr, addr_add, Nat.zero_add, Nat.add_zero, fpureQ_k, fpureQ_nilA, fpureQ_addA, fpureQ_pureA, fpureQ_guardA, fpureQ_idxSlA, fpureQ_pickA, freadQ_loadA, freadQ_loadNA, freadQ_b2sA, freadQ_guardA, freadQ_slSlA, freadQ_k, fendA, fallA_one, fstillA_nil, fguardA_tt, fguardA_ff, fguardA_tf, fguardA_ft, fguardA_undef, fpickA_true, fpickA_false, fcondA_true, fcondA_false, binA_add, binA_sub, binA_mul, binA_eql, binA_neq, binA_lss, binA_leq, binA_gtr, binA_geq, unA_not, Bool.not_true, Bool.not_false, convA_int, extA_tuple, List.getElem?_toArray, List.getElem?_cons_zero, List.getElem?_cons_succ, retA_iff, oneOf_two]
  exact ⟨by simp, rfl, s1⟩
/-- What a key has. -/
def getK (l : List (Key × Int)) (k : Key) : Int := if hasK l k = true then ((l[findK l k]?).map (·.2)).getD 0 else 0
def putK (l : List (Key × Int)) (k : Key) (v : Int) : List (Key × Int) := if hasK l k = true then l.set (findK l k) (k, v) else l.take (findK l k) ++ (k, v) :: l.drop (findK l k)
def delK (l : List (Key × Int)) (k : Key) : List (Key × Int) := if hasK l k = true then l.take (findK l k) ++ l.drop (findK l k + 1) else l
theorem hasK_some {l : List (Key × Int)} {k : Key} (h : hasK l k = true) : ∃ v, l[findK l k]? = some (k, v) := by
  unfold hasK isAt at h
  split at h
  · rename_i x e
    have := of_decide_eq_true h
    exact ⟨x.2, by rw [e, ← this]⟩
  · cases h
theorem MGet_spec (m : Mp w0 h p l S) (hs : Srt l) (hl : l.length ≤ 1000000000) (k : Key) : ACalls prog w0 n_seq_Map_string_int_Get [ptr p, .string (str k)] h fun r h' =>
    r = .tuple #[.int .i64 (getK l k), .bool (hasK l k)] ∧ Step h h' [] [] := by
  refine ACalls.of_fit (by simp [ptr]) fun f => c_seq_Map_string_int_Get (by simp [ptr]) ?_
  simp only [s_seq_Map_string_int_Get]
  refine callA_of (find_spec m hs hl k) fun r h1 ⟨e1, s1⟩ f1 => ?_
  subst e1
  obtain ⟨x, U, a, v, v', b, c, d, rfl, e⟩ := m.frame s1 (by simp)
  simp only [lenSl_slice, lenStr_string, str_size, fpureA_some, fnilA_ptr, faddA_ptr, addr_add, Nat.zero_add, Nat.add_zero, fpureQ_k, fpureQ_nilA, fpureQ_addA, fpureQ_pureA, fpureQ_guardA, fpureQ_idxSlA, fpureQ_pickA, freadQ_loadA, freadQ_loadNA, freadQ_b2sA, freadQ_guardA, freadQ_slSlA, freadQ_k, fendA, fallA_one, fstillA_nil, fguardA_tt, fguardA_ff, fguardA_tf, fguardA_ft, fguardA_undef, fpickA_true, fpickA_false, fcondA_true, fcondA_false, binA_add, binA_sub, binA_mul, binA_eql, binA_neq, binA_lss, binA_leq, binA_gtr, binA_geq, unA_not, Bool.not_true, Bool.not_false, convA_int, extA_tuple, List.getElem?_toArray, List.getElem?_cons_zero, List.getElem?_cons_succ]
  cases hh : hasK l k with
  | false =>
    simp only [lenSl_slice, lenStr_string, str_size, fpureA_some, fnilA_ptr, faddA_ptr, addr_add, Nat.zero_add, Nat.add_zero, fpureQ_k, fpureQ_nilA, fpureQ_addA, fpureQ_pureA, fpureQ_guardA, fpureQ_idxSlA, fpureQ_pickA, freadQ_loadA, freadQ_loadNA, freadQ_b2sA, freadQ_guardA, freadQ_slSlA, freadQ_k, fendA, fallA_one, fstillA_nil, fguardA_tt, fguardA_ff, fguardA_tf, fguardA_ft, fguardA_undef, fpickA_true, fpickA_false, fcondA_true, fcondA_false, binA_add, binA_sub, binA_mul, binA_eql, binA_neq, binA_lss, binA_leq, binA_gtr, binA_geq, unA_not, Bool.not_true, Bool.not_false, convA_int, extA_tuple, List.getElem?_toArray, List.getElem?_cons_zero, List.getElem?_cons_succ, retA_iff, oneOf_two]
    exact ⟨by simp, by unfold getK; rw [hh]; simp, s1⟩
  | true =>
    obtain ⟨u, hu⟩ := hasK_some hh
    simp only [lenSl_slice, lenStr_string, str_size, fpureA_some, fnilA_ptr, faddA_ptr, addr_add, Nat.zero_add, Nat.add_zero, fpureQ_k, fpureQ_nilA, fpureQ_addA, fpureQ_pureA, fpureQ_guardA, fpureQ_idxSlA, fpureQ_pickA, freadQ_loadA, freadQ_loadNA, freadQ_b2sA, freadQ_guardA, freadQ_slSlA, freadQ_k, fendA, fallA_one, fstillA_nil, fguardA_tt, fguardA_ff, fguardA_tf, fguardA_ft, fguardA_undef, fpickA_true, fpickA_false, fcondA_true, fcondA_false, binA_add, binA_sub, binA_mul, binA_eql, binA_neq, binA_lss, binA_leq, binA_gtr, binA_geq, unA_not, Bool.not_true, Bool.not_false, convA_int, extA_tuple, List.getElem?_toArray, List.getElem?_cons_zero, List.getElem?_cons_succ, ptr]
    refine loadA_at b a rfl ?_
    refine v.sl.fld (o := 1) (List.getElem?_eq_some_iff.1 hu).1 (by omega) (ivs_val hu) ?_
    simp only [lenSl_slice, lenStr_string, str_size, fpureA_some, fnilA_ptr, faddA_ptr, addr_add, Nat.zero_add, Nat.add_zero, fpureQ_k, fpureQ_nilA, fpureQ_addA, fpureQ_pureA, fpureQ_guardA, fpureQ_idxSlA, fpureQ_pickA, freadQ_loadA, freadQ_loadNA, freadQ_b2sA, freadQ_guardA, freadQ_slSlA, freadQ_k, fendA, fallA_one, fstillA_nil, fguardA_tt, fguardA_ff, fguardA_tf, fguardA_ft, fguardA_undef, fpickA_true, fpickA_false, fcondA_true, fcondA_false, binA_add, binA_sub, binA_mul, binA_eql, binA_neq, binA_lss, binA_leq, binA_gtr, binA_geq, unA_not, Bool.not_true, Bool.not_false, convA_int, extA_tuple, List.getElem?_toArray, List.getElem?_cons_zero, List.getElem?_cons_succ, retA_iff, oneOf_two]
    exact ⟨by simp, by unfold getK; rw [hh, hu]; simp, s1⟩
theorem MRank_spec (m : Mp w0 h p l S) (hs : Srt l) (hl : l.length ≤ 1000000000) (k : Key) : ACalls prog w0 n_seq_Map_string_int_Rank [ptr p, .string (str k)] h fun r h' =>
    r = .int .i64 (findK l k : Int) ∧ Step h h' [] [] := by
  refine ACalls.of_fit (by simp [ptr]) fun f => c_seq_Map_string_int_Rank (by simp [ptr]) ?_
  simp only [s_seq_Map_string_int_Rank]
  refine callA_of (find_spec m hs hl k) fun r h1 ⟨e1, s1⟩ f1 => ?_
  subst e1
  simp only [lenSl_slice, lenStr_string, str_size, fpureA_some, fnilA_ptr, faddA_ptr, addr_add, Nat.zero_add, Nat.add_zero, fpureQ_k, fpureQ_nilA, fpureQ_addA, fpureQ_pureA, fpureQ_guardA, fpureQ_idxSlA, fpureQ_pickA, freadQ_loadA, freadQ_loadNA, freadQ_b2sA, freadQ_guardA, freadQ_slSlA, freadQ_k, fendA, fallA_one, fstillA_nil, fguardA_tt, fguardA_ff, fguardA_tf, fguardA_ft, fguardA_undef, fpickA_true, fpickA_false, fcondA_true, fcondA_false, binA_add, binA_sub, binA_mul, binA_eql, binA_neq, binA_lss, binA_leq, binA_gtr, binA_geq, unA_not, Bool.not_true, Bool.not_false, convA_int, extA_tuple, List.getElem?_toArray, List.getElem?_cons_zero, List.getElem?_cons_succ, retA_iff, oneOf_one]
  exact ⟨by simp, trivial, s1⟩
theorem MAt_spec (m : Mp w0 h p l S) (i : Int) : ACalls prog w0 n_seq_Map_string_int_At [ptr p, .int .i64 i] h fun r h' =>
    (r = match (if 0 ≤ i then l[i.toNat]? else none) with
      | some x => .tuple #[.agg (iv x).toArray, .bool true]
      | none => .tuple #[.agg #[.string .empty, .int .i64 0], .bool false]) ∧ Step h h' [] [] := by
  refine ACalls.of_fit (by simp [ptr]) fun f => c_seq_Map_string_int_At (by simp [ptr]) ?_
  simp only [s_seq_Map_string_int_At, newA_iff]
  refine ⟨by simp, ?_⟩
  have hb := f.base
  have s0 : Step h (h.new [.string .empty, .int .i64 0] 2) [] [h.next] := (Step.refl h [] (by simp)).new _ _
  have m0 := m.frame s0 (by simp)
  obtain ⟨h0, hh0⟩ : ∃ h0, h0 = h.new [.string .empty, .int .i64 0] 2 := ⟨_, rfl⟩
  have hq : h0.blk h.next = some [.string .empty, .int .i64 0] := by rw [hh0]; simp
  rw [← hh0] at s0 m0 ⊢
  have fin : ∀ (e : List Value) (t : Bool), e.length = 2 → storeNA w0 (.pointer (some ⟨h.next, 0, none⟩)) (.agg e.toArray) 2 (fun _ => loadNA w0 (.pointer (some ⟨h.next, 0, none⟩)) 2 fun v4 => retA [v4, (.bool t)] (fun r h' =>
    r = .tuple #[.agg e.toArray, .bool t] ∧ Step h h' [] [])) h0 := fun e t he => by
    refine storeNA_whole hb hq rfl he ?_
    refine loadNA_whole hb (by simp) he ?_
    simp only [retA_iff, oneOf_two]
    exact ⟨by simp, trivial, (s0.put (by simp) _).less (by simp)⟩
  by_cases hi0 : i < 0
  · have c1 : decide (i < 0) = true := decide_eq_true hi0
    simp only [lenSl_slice, lenStr_string, str_size, fpureA_some, fnilA_ptr, faddA_ptr, addr_add, Nat.zero_add, Nat.add_zero, fpureQ_k, fpureQ_nilA, fpureQ_addA, fpureQ_pureA, fpureQ_guardA, fpureQ_idxSlA, fpureQ_pickA, freadQ_loadA, freadQ_loadNA, freadQ_b2sA, freadQ_guardA, freadQ_slSlA, freadQ_k, fendA, fallA_one, fstillA_nil, fguardA_tt, fguardA_ff, fguardA_tf, fguardA_ft, fguardA_undef, fpickA_true, fpickA_false, fcondA_true, fcondA_false, binA_add, binA_sub, binA_mul, binA_eql, binA_neq, binA_lss, binA_leq, binA_gtr, binA_geq, unA_not, Bool.not_true, Bool.not_false, convA_int, extA_tuple, List.getElem?_toArray, List.getElem?_cons_zero, List.getElem?_cons_succ, c1, buildA, fillA_nil]
    rw [if_neg (by omega)]
    exact fin [.string .empty, .int .i64 0] false rfl
  · have c1 : decide (i < 0) = false := decide_eq_false hi0
    obtain ⟨n, rfl⟩ := Int.eq_ofNat_of_zero_le (show 0 ≤ i by omega)
    rw [if_pos (by omega), Int.toNat_natCast]
    simp only [lenSl_slice, lenStr_string, str_size, fpureA_some, fnilA_ptr, faddA_ptr, addr_add, Nat.zero_add, Nat.add_zero, fpureQ_k, fpureQ_nilA, fpureQ_addA, fpureQ_pureA, fpureQ_guardA, fpureQ_idxSlA, fpureQ_pickA, freadQ_loadA, freadQ_loadNA, freadQ_b2sA, freadQ_guardA, freadQ_slSlA, freadQ_k, fendA, fallA_one, fstillA_nil, fguardA_tt, fguardA_ff, fguardA_tf, fguardA_ft, fguardA_undef, fpickA_true, fpickA_false, fcondA_true, fcondA_false, binA_add, binA_sub, binA_mul, binA_eql, binA_neq, binA_lss, binA_leq, binA_gtr, binA_geq, unA_not, Bool.not_true, Bool.not_false, convA_int, extA_tuple, List.getElem?_toArray, List.getElem?_cons_zero, List.getElem?_cons_succ, c1]
    refine callA_of (MLen_spec m0) fun r h1 ⟨e1, e2⟩ f1 => ?_
    subst e1
    have e3 := e2.symm
    subst e3
    by_cases hn : n < l.length
    · have c2 : decide ((l.length : Int) ≤ (n : Int)) = false := decide_eq_false (by omega)
      have hg : l[n]? = some l[n] := List.getElem?_eq_getElem hn
      obtain ⟨x, U, a, v, v', b, c, d, rfl, e⟩ := m0
      simp only [lenSl_slice, lenStr_string, str_size, fpureA_some, fnilA_ptr, faddA_ptr, addr_add, Nat.zero_add, Nat.add_zero, fpureQ_k, fpureQ_nilA, fpureQ_addA, fpureQ_pureA, fpureQ_guardA, fpureQ_idxSlA, fpureQ_pickA, freadQ_loadA, freadQ_loadNA, freadQ_b2sA, freadQ_guardA, freadQ_slSlA, freadQ_k, fendA, fallA_one, fstillA_nil, fguardA_tt, fguardA_ff, fguardA_tf, fguardA_ft, fguardA_undef, fpickA_true, fpickA_false, fcondA_true, fcondA_false, binA_add, binA_sub, binA_mul, binA_eql, binA_neq, binA_lss, binA_leq, binA_gtr, binA_geq, unA_not, Bool.not_true, Bool.not_false, convA_int, extA_tuple, List.getElem?_toArray, List.getElem?_cons_zero, List.getElem?_cons_succ, c2, ptr, hg]
      refine loadA_at b a rfl ?_
      have hs := v.src
      obtain ⟨ax, cx, ex⟩ := v.slice
      rw [ex] at hs ⊢
      refine idx_loadN hs hn ?_
      rw [ivs_get hg]
      exact fin (iv l[n]) true rfl
    · have c2 : decide ((l.length : Int) ≤ (n : Int)) = true := decide_eq_true (by omega)
      simp only [lenSl_slice, lenStr_string, str_size, fpureA_some, fnilA_ptr, faddA_ptr, addr_add, Nat.zero_add, Nat.add_zero, fpureQ_k, fpureQ_nilA, fpureQ_addA, fpureQ_pureA, fpureQ_guardA, fpureQ_idxSlA, fpureQ_pickA, freadQ_loadA, freadQ_loadNA, freadQ_b2sA, freadQ_guardA, freadQ_slSlA, freadQ_k, fendA, fallA_one, fstillA_nil, fguardA_tt, fguardA_ff, fguardA_tf, fguardA_ft, fguardA_undef, fpickA_true, fpickA_false, fcondA_true, fcondA_false, binA_add, binA_sub, binA_mul, binA_eql, binA_neq, binA_lss, binA_leq, binA_gtr, binA_geq, unA_not, Bool.not_true, Bool.not_false, convA_int, extA_tuple, List.getElem?_toArray, List.getElem?_cons_zero, List.getElem?_cons_succ, c2, List.getElem?_eq_none (show l.length ≤ n by omega), buildA, fillA_nil]
      exact fin [.string .empty, .int .i64 0] false rfl
theorem ivs_set {l : List (Key × Int)} {i : Nat} {k : Key} {u v : Int} (h : l[i]? = some (k, u)) : (ivs l).set (i * 2 + 1) (.int .i64 v) = ivs (l.set i (k, v)) := by
  induction l generalizing i with
  | nil => simp at h
  | cons x l ih =>
    cases i with
    | zero =>
      simp at h
      subst h
      rfl
    | succ i =>
      have := ih (i := i) (by simpa using h)
      rw [ivs_cons, List.set_cons_succ, ivs_cons, ← this, List.set_append_right _ _ (by simp [iv]; omega)]
      congr 2
      simp [iv]
      omega
theorem MPut_spec (m : Mp w0 h p l S) (hs : Srt l) (hl : l.length ≤ 100000000) (k : Key) (v : Int) : ACalls prog w0 n_seq_Map_string_int_Put [ptr p, .string (str k), .int .i64 v] h fun r h' =>
    r = .tuple #[.int .i64 (getK l k), .bool (hasK l k)] ∧ ∃ S', Mp w0 h' p (putK l k v) S' ∧ Step h h' S S' := by
  refine ACalls.of_fit (by simp [ptr]) fun f => c_seq_Map_string_int_Put (by simp [ptr]) ?_
  have c0 : binPtrA .eql (.pointer (some ⟨p, 0, none⟩)) (.pointer none) = some (.bool false) := rfl
  simp only [s_seq_Map_string_int_Put, c0, lenSl_slice, lenStr_string, str_size, fpureA_some, fnilA_ptr, faddA_ptr, addr_add, Nat.zero_add, Nat.add_zero, fpureQ_k, fpureQ_nilA, fpureQ_addA, fpureQ_pureA, fpureQ_guardA, fpureQ_idxSlA, fpureQ_pickA, freadQ_loadA, freadQ_loadNA, freadQ_b2sA, freadQ_guardA, freadQ_slSlA, freadQ_k, fendA, fallA_one, fstillA_nil, fguardA_tt, fguardA_ff, fguardA_tf, fguardA_ft, fguardA_undef, fpickA_true, fpickA_false, fcondA_true, fcondA_false, binA_add, binA_sub, binA_mul, binA_eql, binA_neq, binA_lss, binA_leq, binA_gtr, binA_geq, unA_not, Bool.not_true, Bool.not_false, convA_int, extA_tuple, List.getElem?_toArray, List.getElem?_cons_zero, List.getElem?_cons_succ, ptr]
  refine callA_of (find_spec m hs (by omega) k) fun r h1 ⟨e1, s1⟩ f1 => ?_
  subst e1
  have m1 := m.frame s1 (by simp)
  have sS : Step h h1 S S := s1.wide (by simp) (fun b hb => .inr ⟨hb, (m.lt b hb).2⟩)
  obtain ⟨x, U, a, g, g', b, c, d, rfl, e⟩ := m1
  simp only [lenSl_slice, lenStr_string, str_size, fpureA_some, fnilA_ptr, faddA_ptr, addr_add, Nat.zero_add, Nat.add_zero, fpureQ_k, fpureQ_nilA, fpureQ_addA, fpureQ_pureA, fpureQ_guardA, fpureQ_idxSlA, fpureQ_pickA, freadQ_loadA, freadQ_loadNA, freadQ_b2sA, freadQ_guardA, freadQ_slSlA, freadQ_k, fendA, fallA_one, fstillA_nil, fguardA_tt, fguardA_ff, fguardA_tf, fguardA_ft, fguardA_undef, fpickA_true, fpickA_false, fcondA_true, fcondA_false, binA_add, binA_sub, binA_mul, binA_eql, binA_neq, binA_lss, binA_leq, binA_gtr, binA_geq, unA_not, Bool.not_true, Bool.not_false, convA_int, extA_tuple, List.getElem?_toArray, List.getElem?_cons_zero, List.getElem?_cons_succ]
  cases hh : hasK l k with
  | true =>
    obtain ⟨u, hu⟩ := hasK_some hh
    have hlt := (List.getElem?_eq_some_iff.1 hu).1
    simp only [lenSl_slice, lenStr_string, str_size, fpureA_some, fnilA_ptr, faddA_ptr, addr_add, Nat.zero_add, Nat.add_zero, fpureQ_k, fpureQ_nilA, fpureQ_addA, fpureQ_pureA, fpureQ_guardA, fpureQ_idxSlA, fpureQ_pickA, freadQ_loadA, freadQ_loadNA, freadQ_b2sA, freadQ_guardA, freadQ_slSlA, freadQ_k, fendA, fallA_one, fstillA_nil, fguardA_tt, fguardA_ff, fguardA_tf, fguardA_ft, fguardA_undef, fpickA_true, fpickA_false, fcondA_true, fcondA_false, binA_add, binA_sub, binA_mul, binA_eql, binA_neq, binA_lss, binA_leq, binA_gtr, binA_geq, unA_not, Bool.not_true, Bool.not_false, convA_int, extA_tuple, List.getElem?_toArray, List.getElem?_cons_zero, List.getElem?_cons_succ]
    refine loadA_at b a rfl ?_
    refine g.sl.fld (o := 1) hlt (by omega) (ivs_val hu) ?_
    refine loadA_at b a rfl ?_
    obtain ⟨q, rfl, rfl, hq, hqn, hqb, hqe, hql⟩ : ∃ q, x = .slice (some ⟨q, 0, none⟩) l.length ucap ∧ U = [q] ∧ w0.heap.size ≤ q ∧ q < h1.next ∧ h1.blk q = some (ivs l) ∧ h1.esz q = 2 ∧ (ivs l).length = l.length * 2 := by
      rcases g' (by omega) with ⟨-, q0, -, -⟩ | q0
      · omega
      · exact q0
    refine ⟨_, _, _, _, _, rfl, rfl, by omega, by omega, ?_⟩
    simp only [lenSl_slice, lenStr_string, str_size, fpureA_some, fnilA_ptr, faddA_ptr, addr_add, Nat.zero_add, Nat.add_zero, fpureQ_k, fpureQ_nilA, fpureQ_addA, fpureQ_pureA, fpureQ_guardA, fpureQ_idxSlA, fpureQ_pickA, freadQ_loadA, freadQ_loadNA, freadQ_b2sA, freadQ_guardA, freadQ_slSlA, freadQ_k, fendA, fallA_one, fstillA_nil, fguardA_tt, fguardA_ff, fguardA_tf, fguardA_ft, fguardA_undef, fpickA_true, fpickA_false, fcondA_true, fcondA_false, binA_add, binA_sub, binA_mul, binA_eql, binA_neq, binA_lss, binA_leq, binA_gtr, binA_geq, unA_not, Bool.not_true, Bool.not_false, convA_int, extA_tuple, List.getElem?_toArray, List.getElem?_cons_zero, List.getElem?_cons_succ, Int.toNat_natCast]
    refine storeA_at hq hqb (by omega) rfl ?_
    rw [ivs_set hu]
    simp only [retA_iff, oneOf_two]
    have hpq : p ≠ q := by simpa using d
    have e3 : putK l k v = l.set (findK l k) (k, v) := by unfold putK; rw [hh, if_pos rfl]
    have st : Step h (h1.put q (ivs (l.set (findK l k) (k, v)))) [p, q] [p, q] := sS.put (by simp) _
    refine ⟨by simp, by unfold getK; rw [hh, hu]; simp, [p, q], ?_, st⟩
    have hv : Vec w0 (h1.put q (ivs (l.set (findK l k) (k, v)))) 2 (.slice (some ⟨q, 0, none⟩) l.length ucap) (putK l k v).length (ivs (putK l k v)) [q] := by
      rw [e3, List.length_set]
      exact .inr ⟨q, rfl, rfl, hq, hqn, by simp, hqe, by rw [ivs_length, List.length_set]⟩
    exact ⟨_, [q], by rw [put_blk, if_neg hpq]; exact a, .inl hv, fun _ => hv, b, c, d, rfl, rfl⟩
  | false =>
    simp only [lenSl_slice, lenStr_string, str_size, fpureA_some, fnilA_ptr, faddA_ptr, addr_add, Nat.zero_add, Nat.add_zero, fpureQ_k, fpureQ_nilA, fpureQ_addA, fpureQ_pureA, fpureQ_guardA, fpureQ_idxSlA, fpureQ_pickA, freadQ_loadA, freadQ_loadNA, freadQ_b2sA, freadQ_guardA, freadQ_slSlA, freadQ_k, fendA, fallA_one, fstillA_nil, fguardA_tt, fguardA_ff, fguardA_tf, fguardA_ft, fguardA_undef, fpickA_true, fpickA_false, fcondA_true, fcondA_false, binA_add, binA_sub, binA_mul, binA_eql, binA_neq, binA_lss, binA_leq, binA_gtr, binA_geq, unA_not, Bool.not_true, Bool.not_false, convA_int, extA_tuple, List.getElem?_toArray, List.getElem?_cons_zero, List.getElem?_cons_succ]
    refine loadA_at b a rfl ?_
    have hz : zerosL [(.string .empty : Value), .int .i64 0] 1 = [.string .empty, .int .i64 0] := rfl
    simp only [buildA, fillA_one, fillA_nil, List.set_cons_zero, List.set_cons_succ, bslA_iff, hz, fillA_agg]
    refine ⟨rfl, by simp, rfl, by simp, rfl, by simp, ?_⟩
    have hsp : splice [(.string .empty : Value), .int .i64 0] 0 [.string (str k), .int .i64 v] = iv (k, v) := rfl
    rw [hsp]
    have ss : Step h1 (h1.new (iv (k, v)) 2) [] [h1.next] := (Step.refl h1 [] (by simp)).new _ _
    have g2 := g.frame ss (by simp)
    have hU : h1.next ∉ U := fun q => by have := (g.lt _ q).2; omega
    have hle := findK_le l k
    refine callA_of (Insert_si (i := findK l k) (e := iv (k, v)) g2 (fun h0 => (g' h0).frame ss (by simp)) hle (by omega) f1.base (by simp) (by simp) rfl hU) fun r h3 ⟨U3, v3, s3⟩ f3 => ?_
    have hpU : p ∉ U := d
    have hb3 : h3.blk p = some [x] := by rw [(s3.keep p (by simp; omega) hpU).1, new_blk, if_neg (by omega)]; exact a
    have hrc : isCell r = true := by obtain ⟨q1, q2, q3⟩ := v3.slice; rw [q3]; rfl
    refine storeA_at b hb3 (by simp) hrc ?_
    simp only [List.set_cons_zero, retA_iff, oneOf_two]
    have hpU3 : p ∉ U3 := fun q => by
      rcases (s3.own p q).2 with q | q
      · exact d q
      · simp at q; omega
    have e3 : putK l k v = l.take (findK l k) ++ (k, v) :: l.drop (findK l k) := by unfold putK; rw [hh, if_neg (by simp)]
    have e4 : (ivs l).take (findK l k * 2) ++ iv (k, v) ++ (ivs l).drop (findK l k * 2) = ivs (putK l k v) := by
      rw [e3, ivs_take, ivs_drop, ivs, ivs, ivs, List.flatMap_append, List.flatMap_cons, List.append_assoc]
    have e5 : l.length + 1 = (putK l k v).length := by rw [e3]; simp; omega
    rw [e4, e5] at v3
    have v4 := v3.put hpU3 [r]
    have s14 : Step h1 h3 (p :: U) (p :: U3) := (ss.wide (T := p :: U) (T' := p :: U) (by simp) (fun q hq => .inr ⟨hq, by
      rcases List.mem_cons.1 hq with rfl | hq
      · exact c
      · exact (g.lt q hq).2⟩)).trans (s3.wide (fun q hq => by simp [hq]) (fun q hq => by
      rcases List.mem_cons.1 hq with rfl | hq
      · exact .inr ⟨by simp, by simp; omega⟩
      · exact .inl hq))
    refine ⟨by simp, by unfold getK; rw [hh]; simp, p :: U3, ⟨r, U3, by simp, .inl v4, fun _ => v4, b, by have := s3.1; simp at this ⊢; omega, hpU3, rfl, hrc⟩, (sS.trans s14).put (by simp) _⟩
theorem MDelete_spec (m : Mp w0 h p l S) (hs : Srt l) (hl : l.length ≤ 100000000) (k : Key) : ACalls prog w0 n_seq_Map_string_int_Delete [ptr p, .string (str k)] h fun r h' =>
    r = .tuple #[.int .i64 (getK l k), .bool (hasK l k)] ∧ ∃ S', Mp w0 h' p (delK l k) S' ∧ Step h h' S S' := by
  refine ACalls.of_fit (by simp [ptr]) fun f => c_seq_Map_string_int_Delete (by simp [ptr]) ?_
  simp only [s_seq_Map_string_int_Delete]
  refine callA_of (find_spec m hs (by omega) k) fun r h1 ⟨e1, s1⟩ f1 => ?_
  subst e1
  have m1 := m.frame s1 (by simp)
  have sS : Step h h1 S S := s1.wide (by simp) (fun b hb => .inr ⟨hb, (m.lt b hb).2⟩)
  have m1' := m1
  obtain ⟨x, U, a, g, g', b, c, d, rfl, e⟩ := m1
  simp only [lenSl_slice, lenStr_string, str_size, fpureA_some, fnilA_ptr, faddA_ptr, addr_add, Nat.zero_add, Nat.add_zero, fpureQ_k, fpureQ_nilA, fpureQ_addA, fpureQ_pureA, fpureQ_guardA, fpureQ_idxSlA, fpureQ_pickA, freadQ_loadA, freadQ_loadNA, freadQ_b2sA, freadQ_guardA, freadQ_slSlA, freadQ_k, fendA, fallA_one, fstillA_nil, fguardA_tt, fguardA_ff, fguardA_tf, fguardA_ft, fguardA_undef, fpickA_true, fpickA_false, fcondA_true, fcondA_false, binA_add, binA_sub, binA_mul, binA_eql, binA_neq, binA_lss, binA_leq, binA_gtr, binA_geq, unA_not, Bool.not_true, Bool.not_false, convA_int, extA_tuple, List.getElem?_toArray, List.getElem?_cons_zero, List.getElem?_cons_succ]
  cases hh : hasK l k with
  | false =>
    simp only [lenSl_slice, lenStr_string, str_size, fpureA_some, fnilA_ptr, faddA_ptr, addr_add, Nat.zero_add, Nat.add_zero, fpureQ_k, fpureQ_nilA, fpureQ_addA, fpureQ_pureA, fpureQ_guardA, fpureQ_idxSlA, fpureQ_pickA, freadQ_loadA, freadQ_loadNA, freadQ_b2sA, freadQ_guardA, freadQ_slSlA, freadQ_k, fendA, fallA_one, fstillA_nil, fguardA_tt, fguardA_ff, fguardA_tf, fguardA_ft, fguardA_undef, fpickA_true, fpickA_false, fcondA_true, fcondA_false, binA_add, binA_sub, binA_mul, binA_eql, binA_neq, binA_lss, binA_leq, binA_gtr, binA_geq, unA_not, Bool.not_true, Bool.not_false, convA_int, extA_tuple, List.getElem?_toArray, List.getElem?_cons_zero, List.getElem?_cons_succ, retA_iff, oneOf_two]
    have e3 : delK l k = l := by unfold delK; rw [hh, if_neg (by simp)]
    rw [e3]
    exact ⟨by simp, by unfold getK; rw [hh]; simp, p :: U, m1', sS⟩
  | true =>
    obtain ⟨u, hu⟩ := hasK_some hh
    have hlt := (List.getElem?_eq_some_iff.1 hu).1
    simp only [lenSl_slice, lenStr_string, str_size, fpureA_some, fnilA_ptr, faddA_ptr, addr_add, Nat.zero_add, Nat.add_zero, fpureQ_k, fpureQ_nilA, fpureQ_addA, fpureQ_pureA, fpureQ_guardA, fpureQ_idxSlA, fpureQ_pickA, freadQ_loadA, freadQ_loadNA, freadQ_b2sA, freadQ_guardA, freadQ_slSlA, freadQ_k, fendA, fallA_one, fstillA_nil, fguardA_tt, fguardA_ff, fguardA_tf, fguardA_ft, fguardA_undef, fpickA_true, fpickA_false, fcondA_true, fcondA_false, binA_add, binA_sub, binA_mul, binA_eql, binA_neq, binA_lss, binA_leq, binA_gtr, binA_geq, unA_not, Bool.not_true, Bool.not_false, convA_int, extA_tuple, List.getElem?_toArray, List.getElem?_cons_zero, List.getElem?_cons_succ, ptr]
    refine loadA_at b a rfl ?_
    refine g.sl.fld (o := 1) hlt (by omega) (ivs_val hu) ?_
    refine loadA_at b a rfl ?_
    have e2 : IntKind.i64.wrap ((findK l k : Int) + 1) = ((findK l k + 1 : Nat) : Int) := by rw [IntWalk.i64_in _ (by omega)]; simp
    simp only [lenSl_slice, lenStr_string, str_size, fpureA_some, fnilA_ptr, faddA_ptr, addr_add, Nat.zero_add, Nat.add_zero, fpureQ_k, fpureQ_nilA, fpureQ_addA, fpureQ_pureA, fpureQ_guardA, fpureQ_idxSlA, fpureQ_pickA, freadQ_loadA, freadQ_loadNA, freadQ_b2sA, freadQ_guardA, freadQ_slSlA, freadQ_k, fendA, fallA_one, fstillA_nil, fguardA_tt, fguardA_ff, fguardA_tf, fguardA_ft, fguardA_undef, fpickA_true, fpickA_false, fcondA_true, fcondA_false, binA_add, binA_sub, binA_mul, binA_eql, binA_neq, binA_lss, binA_leq, binA_gtr, binA_geq, unA_not, Bool.not_true, Bool.not_false, convA_int, extA_tuple, List.getElem?_toArray, List.getElem?_cons_zero, List.getElem?_cons_succ, e2]
    refine callA_of (Delete_si (g' (by omega)) hlt (by omega)) fun r h3 ⟨U3, v3, s3⟩ f3 => ?_
    have hb3 : h3.blk p = some [x] := by rw [(s3.keep p c d).1]; exact a
    have hrc : isCell r = true := by obtain ⟨q1, q2, q3⟩ := v3.slice; rw [q3]; rfl
    refine storeA_at b hb3 (by simp) hrc ?_
    simp only [List.set_cons_zero, retA_iff, oneOf_two]
    have hpU3 : p ∉ U3 := fun q => by
      rcases (s3.own p q).2 with q | q
      · exact d q
      · omega
    have e3 : delK l k = l.take (findK l k) ++ l.drop (findK l k + 1) := by unfold delK; rw [hh, if_pos rfl]
    have e4 : (ivs l).take (findK l k * 2) ++ (ivs l).drop ((findK l k + 1) * 2) = ivs (delK l k) := by
      rw [e3, ivs_take, ivs_drop, ivs, ivs, ivs, List.flatMap_append]
    have e5 : l.length - 1 = (delK l k).length := by rw [e3]; simp; omega
    rw [e4, e5] at v3
    have v4 := v3.put hpU3 [r]
    have s14 : Step h1 h3 (p :: U) (p :: U3) := s3.wide (fun q hq => by simp [hq]) (fun q hq => by
      rcases List.mem_cons.1 hq with rfl | hq
      · exact .inr ⟨by simp, c⟩
      · exact .inl hq)
    refine ⟨by simp, by unfold getK; rw [hh, hu]; simp, p :: U3, ⟨r, U3, by simp, .inl v4, fun _ => v4, b, by have := s3.1; simp; omega, hpU3, rfl, hrc⟩, (sS.trans s14).put (by simp) _⟩
theorem MFork_spec (m : Mp w0 h p l S) (hl : l.length ≤ 1000000000) : ACalls prog w0 n_seq_Map_string_int_Fork [ptr p] h fun r h' => ∃ q S', r = ptr q ∧ Mp w0 h' q l S' ∧ Step h h' [] S' := by
  refine ACalls.of_fit (by simp [ptr]) fun f => c_seq_Map_string_int_Fork (by simp [ptr]) ?_
  obtain ⟨x, U, a, g, g', b, c, d, rfl, e⟩ := m
  have c0 : binPtrA .eql (.pointer (some ⟨p, 0, none⟩)) (.pointer none) = some (.bool false) := rfl
  simp only [s_seq_Map_string_int_Fork, c0, lenSl_slice, lenStr_string, str_size, fpureA_some, fnilA_ptr, faddA_ptr, addr_add, Nat.zero_add, Nat.add_zero, fpureQ_k, fpureQ_nilA, fpureQ_addA, fpureQ_pureA, fpureQ_guardA, fpureQ_idxSlA, fpureQ_pickA, freadQ_loadA, freadQ_loadNA, freadQ_b2sA, freadQ_guardA, freadQ_slSlA, freadQ_k, fendA, fallA_one, fstillA_nil, fguardA_tt, fguardA_ff, fguardA_tf, fguardA_ft, fguardA_undef, fpickA_true, fpickA_false, fcondA_true, fcondA_false, binA_add, binA_sub, binA_mul, binA_eql, binA_neq, binA_lss, binA_leq, binA_gtr, binA_geq, unA_not, Bool.not_true, Bool.not_false, convA_int, extA_tuple, List.getElem?_toArray, List.getElem?_cons_zero, List.getElem?_cons_succ, ptr]
  refine loadA_at b a rfl ?_
  refine callA_of (Clone_si g.sl hl) fun r h1 ⟨U1, g1, v1, s1⟩ f1 => ?_
  have hrc := g1.cell
  simp only [buildA, fillA_one, fillA_nil, List.set_cons_zero]
  refine ⟨hrc, by simp, _, rfl, ?_⟩
  have ss : Step h1 (h1.new [r] 1) U1 (h1.next :: U1) := (Step.refl h1 U1 fun q hq => (g1.lt q hq).2).new _ _
  have sf : Step h1 (h1.new [r] 1) [] [h1.next] := (Step.refl h1 [] (by simp)).new _ _
  simp only [retA_iff, oneOf_one]
  refine ⟨by simp, h1.next, h1.next :: U1, rfl, ⟨r, U1, by simp, g1.frame sf (by simp), fun h0 => (v1 h0).frame sf (by simp), f1.base, by simp, fun q => by have := (g1.lt _ q).2; omega, rfl, hrc⟩, s1.trans ss⟩

/-! ### Of nobody -/
theorem nil_eq : binPtrA .eql (.pointer none) (.pointer none) = some (.bool true) := rfl
theorem MLen_nil : ACalls prog w0 n_seq_Map_string_int_Len [.pointer none] h fun r h' => r = .int .i64 0 ∧ h' = h := by
  refine ACalls.of_fit (by simp) fun f => c_seq_Map_string_int_Len (by simp) ?_
  simp only [s_seq_Map_string_int_Len, nil_eq, lenSl_slice, lenStr_string, str_size, fpureA_some, fnilA_ptr, faddA_ptr, addr_add, Nat.zero_add, Nat.add_zero, fpureQ_k, fpureQ_nilA, fpureQ_addA, fpureQ_pureA, fpureQ_guardA, fpureQ_idxSlA, fpureQ_pickA, freadQ_loadA, freadQ_loadNA, freadQ_b2sA, freadQ_guardA, freadQ_slSlA, freadQ_k, fendA, fallA_one, fstillA_nil, fguardA_tt, fguardA_ff, fguardA_tf, fguardA_ft, fguardA_undef, fpickA_true, fpickA_false, fcondA_true, fcondA_false, binA_add, binA_sub, binA_mul, binA_eql, binA_neq, binA_lss, binA_leq, binA_gtr, binA_geq, unA_not, Bool.not_true, Bool.not_false, convA_int, extA_tuple, List.getElem?_toArray, List.getElem?_cons_zero, List.getElem?_cons_succ, retA_iff, oneOf_one]
  exact ⟨by simp, trivial, trivial⟩
theorem find_nil (k : Key) : ACalls prog w0 n_seq_Map_string_int_find [.pointer none, .string (str k)] h fun r h' => r = .tuple #[.int .i64 0, .bool false] ∧ h' = h := by
  refine ACalls.of_fit (by simp) fun f => c_seq_Map_string_int_find (by simp) ?_
  simp only [s_seq_Map_string_int_find, nil_eq, lenSl_slice, lenStr_string, str_size, fpureA_some, fnilA_ptr, faddA_ptr, addr_add, Nat.zero_add, Nat.add_zero, fpureQ_k, fpureQ_nilA, fpureQ_addA, fpureQ_pureA, fpureQ_guardA, fpureQ_idxSlA, fpureQ_pickA, freadQ_loadA, freadQ_loadNA, freadQ_b2sA, freadQ_guardA, freadQ_slSlA, freadQ_k, fendA, fallA_one, fstillA_nil, fguardA_tt, fguardA_ff, fguardA_tf, fguardA_ft, fguardA_undef, fpickA_true, fpickA_false, fcondA_true, fcondA_false, binA_add, binA_sub, binA_mul, binA_eql, binA_neq, binA_lss, binA_leq, binA_gtr, binA_geq, unA_not, Bool.not_true, Bool.not_false, convA_int, extA_tuple, List.getElem?_toArray, List.getElem?_cons_zero, List.getElem?_cons_succ, retA_iff, oneOf_two]
  exact ⟨by simp, trivial, trivial⟩
theorem MPut_nil (k : Key) (v : Int) : ACalls prog w0 n_seq_Map_string_int_Put [.pointer none, .string (str k), .int .i64 v] h fun r h' => r = .tuple #[.int .i64 0, .bool false] ∧ h' = h := by
  refine ACalls.of_fit (by simp) fun f => c_seq_Map_string_int_Put (by simp) ?_
  simp only [s_seq_Map_string_int_Put, nil_eq, lenSl_slice, lenStr_string, str_size, fpureA_some, fnilA_ptr, faddA_ptr, addr_add, Nat.zero_add, Nat.add_zero, fpureQ_k, fpureQ_nilA, fpureQ_addA, fpureQ_pureA, fpureQ_guardA, fpureQ_idxSlA, fpureQ_pickA, freadQ_loadA, freadQ_loadNA, freadQ_b2sA, freadQ_guardA, freadQ_slSlA, freadQ_k, fendA, fallA_one, fstillA_nil, fguardA_tt, fguardA_ff, fguardA_tf, fguardA_ft, fguardA_undef, fpickA_true, fpickA_false, fcondA_true, fcondA_false, binA_add, binA_sub, binA_mul, binA_eql, binA_neq, binA_lss, binA_leq, binA_gtr, binA_geq, unA_not, Bool.not_true, Bool.not_false, convA_int, extA_tuple, List.getElem?_toArray, List.getElem?_cons_zero, List.getElem?_cons_succ, retA_iff, oneOf_two]
  exact ⟨by simp, trivial, trivial⟩
theorem MGet_nil (k : Key) : ACalls prog w0 n_seq_Map_string_int_Get [.pointer none, .string (str k)] h fun r h' => r = .tuple #[.int .i64 0, .bool false] ∧ h' = h := by
  refine ACalls.of_fit (by simp) fun f => c_seq_Map_string_int_Get (by simp) ?_
  simp only [s_seq_Map_string_int_Get]
  refine callA_of (find_nil k) fun r h1 ⟨e, e'⟩ f1 => ?_
  subst e e'
  simp only [lenSl_slice, lenStr_string, str_size, fpureA_some, fnilA_ptr, faddA_ptr, addr_add, Nat.zero_add, Nat.add_zero, fpureQ_k, fpureQ_nilA, fpureQ_addA, fpureQ_pureA, fpureQ_guardA, fpureQ_idxSlA, fpureQ_pickA, freadQ_loadA, freadQ_loadNA, freadQ_b2sA, freadQ_guardA, freadQ_slSlA, freadQ_k, fendA, fallA_one, fstillA_nil, fguardA_tt, fguardA_ff, fguardA_tf, fguardA_ft, fguardA_undef, fpickA_true, fpickA_false, fcondA_true, fcondA_false, binA_add, binA_sub, binA_mul, binA_eql, binA_neq, binA_lss, binA_leq, binA_gtr, binA_geq, unA_not, Bool.not_true, Bool.not_false, convA_int, extA_tuple, List.getElem?_toArray, List.getElem?_cons_zero, List.getElem?_cons_succ, retA_iff, oneOf_two]
  exact ⟨by simp, trivial, trivial⟩
theorem MDelete_nil (k : Key) : ACalls prog w0 n_seq_Map_string_int_Delete [.pointer none, .string (str k)] h fun r h' => r = .tuple #[.int .i64 0, .bool false] ∧ h' = h := by
  refine ACalls.of_fit (by simp) fun f => c_seq_Map_string_int_Delete (by simp) ?_
  simp only [s_seq_Map_string_int_Delete]
  refine callA_of (find_nil k) fun r h1 ⟨e, e'⟩ f1 => ?_
  subst e e'
  simp only [lenSl_slice, lenStr_string, str_size, fpureA_some, fnilA_ptr, faddA_ptr, addr_add, Nat.zero_add, Nat.add_zero, fpureQ_k, fpureQ_nilA, fpureQ_addA, fpureQ_pureA, fpureQ_guardA, fpureQ_idxSlA, fpureQ_pickA, freadQ_loadA, freadQ_loadNA, freadQ_b2sA, freadQ_guardA, freadQ_slSlA, freadQ_k, fendA, fallA_one, fstillA_nil, fguardA_tt, fguardA_ff, fguardA_tf, fguardA_ft, fguardA_undef, fpickA_true, fpickA_false, fcondA_true, fcondA_false, binA_add, binA_sub, binA_mul, binA_eql, binA_neq, binA_lss, binA_leq, binA_gtr, binA_geq, unA_not, Bool.not_true, Bool.not_false, convA_int, extA_tuple, List.getElem?_toArray, List.getElem?_cons_zero, List.getElem?_cons_succ, retA_iff, oneOf_two]
  exact ⟨by simp, trivial, trivial⟩
theorem MRank_nil (k : Key) : ACalls prog w0 n_seq_Map_string_int_Rank [.pointer none, .string (str k)] h fun r h' => r = .int .i64 0 ∧ h' = h := by
  refine ACalls.of_fit (by simp) fun f => c_seq_Map_string_int_Rank (by simp) ?_
  simp only [s_seq_Map_string_int_Rank]
  refine callA_of (find_nil k) fun r h1 ⟨e, e'⟩ f1 => ?_
  subst e e'
  simp only [lenSl_slice, lenStr_string, str_size, fpureA_some, fnilA_ptr, faddA_ptr, addr_add, Nat.zero_add, Nat.add_zero, fpureQ_k, fpureQ_nilA, fpureQ_addA, fpureQ_pureA, fpureQ_guardA, fpureQ_idxSlA, fpureQ_pickA, freadQ_loadA, freadQ_loadNA, freadQ_b2sA, freadQ_guardA, freadQ_slSlA, freadQ_k, fendA, fallA_one, fstillA_nil, fguardA_tt, fguardA_ff, fguardA_tf, fguardA_ft, fguardA_undef, fpickA_true, fpickA_false, fcondA_true, fcondA_false, binA_add, binA_sub, binA_mul, binA_eql, binA_neq, binA_lss, binA_leq, binA_gtr, binA_geq, unA_not, Bool.not_true, Bool.not_false, convA_int, extA_tuple, List.getElem?_toArray, List.getElem?_cons_zero, List.getElem?_cons_succ, retA_iff, oneOf_one]
  exact ⟨by simp, trivial, trivial⟩
theorem MFork_nil : ACalls prog w0 n_seq_Map_string_int_Fork [.pointer none] h fun r h' => r = .pointer none ∧ h' = h := by
  refine ACalls.of_fit (by simp) fun f => c_seq_Map_string_int_Fork (by simp) ?_
  simp only [s_seq_Map_string_int_Fork, nil_eq, lenSl_slice, lenStr_string, str_size, fpureA_some, fnilA_ptr, faddA_ptr, addr_add, Nat.zero_add, Nat.add_zero, fpureQ_k, fpureQ_nilA, fpureQ_addA, fpureQ_pureA, fpureQ_guardA, fpureQ_idxSlA, fpureQ_pickA, freadQ_loadA, freadQ_loadNA, freadQ_b2sA, freadQ_guardA, freadQ_slSlA, freadQ_k, fendA, fallA_one, fstillA_nil, fguardA_tt, fguardA_ff, fguardA_tf, fguardA_ft, fguardA_undef, fpickA_true, fpickA_false, fcondA_true, fcondA_false, binA_add, binA_sub, binA_mul, binA_eql, binA_neq, binA_lss, binA_leq, binA_gtr, binA_geq, unA_not, Bool.not_true, Bool.not_false, convA_int, extA_tuple, List.getElem?_toArray, List.getElem?_cons_zero, List.getElem?_cons_succ, retA_iff, oneOf_one]
  exact ⟨by simp, trivial, trivial⟩
theorem MAt_nil (i : Int) (hi : 0 ≤ i) : ACalls prog w0 n_seq_Map_string_int_At [.pointer none, .int .i64 i] h fun r h' => r = .tuple #[.agg #[.string .empty, .int .i64 0], .bool false] ∧ Step h h' [] [] := by
  refine ACalls.of_fit (by simp) fun f => c_seq_Map_string_int_At (by simp) ?_
  simp only [s_seq_Map_string_int_At, newA_iff]
  refine ⟨by simp, ?_⟩
  have hb := f.base
  have s0 : Step h (h.new [.string .empty, .int .i64 0] 2) [] [h.next] := (Step.refl h [] (by simp)).new _ _
  have c1 : decide (i < 0) = false := decide_eq_false (by omega)
  have c2 : decide (0 ≤ i) = true := decide_eq_true hi
  simp only [lenSl_slice, lenStr_string, str_size, fpureA_some, fnilA_ptr, faddA_ptr, addr_add, Nat.zero_add, Nat.add_zero, fpureQ_k, fpureQ_nilA, fpureQ_addA, fpureQ_pureA, fpureQ_guardA, fpureQ_idxSlA, fpureQ_pickA, freadQ_loadA, freadQ_loadNA, freadQ_b2sA, freadQ_guardA, freadQ_slSlA, freadQ_k, fendA, fallA_one, fstillA_nil, fguardA_tt, fguardA_ff, fguardA_tf, fguardA_ft, fguardA_undef, fpickA_true, fpickA_false, fcondA_true, fcondA_false, binA_add, binA_sub, binA_mul, binA_eql, binA_neq, binA_lss, binA_leq, binA_gtr, binA_geq, unA_not, Bool.not_true, Bool.not_false, convA_int, extA_tuple, List.getElem?_toArray, List.getElem?_cons_zero, List.getElem?_cons_succ, c1]
  refine callA_of MLen_nil fun r h1 ⟨e1, e2⟩ f1 => ?_
  subst e1 e2
  simp only [lenSl_slice, lenStr_string, str_size, fpureA_some, fnilA_ptr, faddA_ptr, addr_add, Nat.zero_add, Nat.add_zero, fpureQ_k, fpureQ_nilA, fpureQ_addA, fpureQ_pureA, fpureQ_guardA, fpureQ_idxSlA, fpureQ_pickA, freadQ_loadA, freadQ_loadNA, freadQ_b2sA, freadQ_guardA, freadQ_slSlA, freadQ_k, fendA, fallA_one, fstillA_nil, fguardA_tt, fguardA_ff, fguardA_tf, fguardA_ft, fguardA_undef, fpickA_true, fpickA_false, fcondA_true, fcondA_false, binA_add, binA_sub, binA_mul, binA_eql, binA_neq, binA_lss, binA_leq, binA_gtr, binA_geq, unA_not, Bool.not_true, Bool.not_false, convA_int, extA_tuple, List.getElem?_toArray, List.getElem?_cons_zero, List.getElem?_cons_succ, c2, buildA, fillA_nil]
  refine storeNA_whole (cs := [.string .empty, .int .i64 0]) (e := [.string .empty, .int .i64 0]) hb (by simp) rfl rfl ?_
  refine loadNA_whole (cs := [.string .empty, .int .i64 0]) hb (by simp) rfl ?_
  simp only [retA_iff, oneOf_two]
  exact ⟨by simp, trivial, (s0.put (by simp) _).less (by simp)⟩
end
section
variable {w0 : World} {h : Hp}
theorem over_spec {a keep : Value} (ha : a ≠ junk) (hac : isCell a = true) (hk : keep ≠ junk) (hkc : isCell keep = true) : ACalls prog w0 n_seq_Map_string_int_over [a, keep] h fun r h' => ∃ q1 q2, r = .func (.func n_seq_Map_string_int_over_S1) #[] #[ptr q1, ptr q2] ∧
    h'.blk q1 = some [a] ∧ h'.blk q2 = some [keep] ∧ h.next ≤ q1 ∧ h.next ≤ q2 ∧ q1 < h'.next ∧ q2 < h'.next ∧ Step h h' [] [] := by
  refine ACalls.of_fit (by simp [ha, hk]) fun f => c_seq_Map_string_int_over (by simp [ha, hk]) ?_
  simp only [s_seq_Map_string_int_over]
  refine ⟨hac, hkc, ?_⟩
  refine ⟨by simp, ?_⟩
  simp only [retA_iff, oneOf_one]
  have hne : h.next ≠ h.next + 1 := by omega
  exact ⟨by simp, h.next, h.next + 1, rfl, by simp, by simp, Nat.le_refl _, by omega, by simp; omega, by simp, (((Step.refl h [] (by simp)).new _ _).new _ _).less (by simp)⟩
/-- What is gone over. -/
def itV (l : List (Key × Int)) (kp : Key → Bool) : List (List Value) := (l.filter fun x => kp x.1).map iv
theorem over_loop {hh : Hp} {q2 N : Nat} {keep y xc : Value} {l : List (Key × Int)} {kp : Key → Bool} {S U : List Nat} {C : Nat → Hp → List Nat → Prop} {D : Hp → List Nat → Prop} {R : Hp → Prop} (f : Fit w0 hh) (w2 : w0.heap.size ≤ q2) (b2 : hh.blk q2 = some [keep]) (hq2 : q2 ∉ S)
    (hkp : ∀ h1 S1, YStep N hh h1 S S1 → ∀ x, x ∈ l → callVA prog w0 keep [.string (str x.1)] (fun r h2 => r = .bool (kp x.1) ∧ Step h1 h2 [] []) h1)
    (kC : ∀ i, KeepC w0 N hh.next (C i)) (hl : l.length ≤ 1000000000)
    (hstep : ∀ i x h1 S1, (itV l kp)[i]? = some x → Fit w0 h1 → C i h1 S1 → callVA prog w0 y x (fun v h2 => ∃ S2, YStep N h1 h2 S1 S2 ∧ ((v = .bool true ∧ C (i + 1) h2 S2) ∨ (v = .bool false ∧ D h2 S2))) h1)
    (hR : ∀ h2 S2, YStep N hh h2 S S2 → (C (itV l kp).length h2 S2 ∨ D h2 S2) → R h2) :
    ∀ (post pre : List (Key × Int)) (h1 : Hp) (S1 : List Nat), pre ++ post = l → Fit w0 h1 → YStep N hh h1 S S1 → C (itV pre kp).length h1 S1 → GV w0 h1 2 xc l.length (ivs l) U → (∀ b, b ∈ U → b ∉ S1) →
      seq_Map_string_int_over_S1_L1 prog w0 R R (post.length + 1) y (ptr q2) xc (.int .i64 (l.length : Int)) (.int .i64 (pre.length : Int)) h1 := by
  intro post
  induction post with
  | nil =>
    intro pre h1 S1 he f1 ys c g hU
    have hpl : pre = l := by simpa using he
    subst hpl
    rw [List.length_nil, seq_Map_string_int_over_S1_L1]
    simp only [seq_Map_string_int_over_S1_B1, lenSl_slice, lenStr_string, str_size, fpureA_some, fnilA_ptr, faddA_ptr, addr_add, Nat.zero_add, Nat.add_zero, fpureQ_k, fpureQ_nilA, fpureQ_addA, fpureQ_pureA, fpureQ_guardA, fpureQ_idxSlA, fpureQ_pickA, freadQ_loadA, freadQ_loadNA, freadQ_b2sA, freadQ_guardA, freadQ_slSlA, freadQ_k, fendA, fallA_one, fstillA_nil, fguardA_tt, fguardA_ff, fguardA_tf, fguardA_ft, fguardA_undef, fpickA_true, fpickA_false, fcondA_true, fcondA_false, binA_add, binA_sub, binA_mul, binA_eql, binA_neq, binA_lss, binA_leq, binA_gtr, binA_geq, unA_not, Bool.not_true, Bool.not_false, convA_int, extA_tuple, List.getElem?_toArray, List.getElem?_cons_zero, List.getElem?_cons_succ, Int.lt_irrefl, decide_false]
    exact hR h1 S1 ys (.inl c)
  | cons x post ih =>
    intro pre h1 S1 he f1 ys c g hU
    have hlen : pre.length + (post.length + 1) = l.length := by rw [← he]; simp
    have hg : l[pre.length]? = some x := by rw [← he]; simp
    have hxl : x ∈ l := by rw [← he]; simp
    have c1 : decide ((pre.length : Int) < (l.length : Int)) = true := decide_eq_true (by omega)
    have e6 : IntKind.i64.wrap ((pre.length : Int) + 1) = (((pre ++ [x]).length : Nat) : Int) := by rw [IntWalk.i64_in _ (by omega)]; simp
    rw [List.length_cons, seq_Map_string_int_over_S1_L1]
    simp only [seq_Map_string_int_over_S1_B1, lenSl_slice, lenStr_string, str_size, fpureA_some, fnilA_ptr, faddA_ptr, addr_add, Nat.zero_add, Nat.add_zero, fpureQ_k, fpureQ_nilA, fpureQ_addA, fpureQ_pureA, fpureQ_guardA, fpureQ_idxSlA, fpureQ_pickA, freadQ_loadA, freadQ_loadNA, freadQ_b2sA, freadQ_guardA, freadQ_slSlA, freadQ_k, fendA, fallA_one, fstillA_nil, fguardA_tt, fguardA_ff, fguardA_tf, fguardA_ft, fguardA_undef, fpickA_true, fpickA_false, fcondA_true, fcondA_false, binA_add, binA_sub, binA_mul, binA_eql, binA_neq, binA_lss, binA_leq, binA_gtr, binA_geq, unA_not, Bool.not_true, Bool.not_false, convA_int, extA_tuple, List.getElem?_toArray, List.getElem?_cons_zero, List.getElem?_cons_succ, c1]
    have hs := g.src
    obtain ⟨ax, cx, ex⟩ := g.slice
    rw [ex] at hs
    rw [show (seq_Map_string_int_over_S1_L1 prog w0 R R (post.length + 1) y (ptr q2) xc) = (seq_Map_string_int_over_S1_L1 prog w0 R R (post.length + 1) y (ptr q2) (.slice ax l.length cx)) by rw [ex]]
    rw [ex]
    refine idx_loadN hs (by omega) ?_
    rw [ivs_get hg]
    simp only [newA_iff]
    refine ⟨by simp, ?_⟩
    have hb1 := f1.base
    refine storeNA_whole (cs := [.string .empty, .int .i64 0]) (e := iv x) hb1 (by simp) rfl rfl ?_
    have hne : q2 ≠ h1.next := by have := f.lt _ _ b2; have := ys.next; omega
    have hb2 : h1.blk q2 = some [keep] := by rw [(ys.keep q2 (f.lt _ _ b2) hq2).1]; exact b2
    have sx : Step h1 ((h1.new [.string .empty, .int .i64 0] 2).put h1.next (iv x)) [] [h1.next] := ((Step.refl h1 [] (by simp)).new _ _).put (by simp) _
    obtain ⟨hx, hhx⟩ : ∃ hx, hx = (h1.new [.string .empty, .int .i64 0] 2).put h1.next (iv x) := ⟨_, rfl⟩
    have x1 : hx.blk q2 = some [keep] := by rw [hhx, put_blk, if_neg hne, new_blk, if_neg hne]; exact hb2
    have x2 : hx.blk h1.next = some (iv x) := by rw [hhx]; simp
    have fx : Fit w0 hx := by rw [hhx]; exact (f1.new (by simp [isCell])).put hb1 (by simp) (by simp [iv, isCell])
    rw [← hhx] at sx ⊢
    have cx' : C (itV pre kp).length hx S1 := (kC _).step h1 hx S1 [] [] f1 c (sx.less (by simp)) (by simp) (by simp)
    have hS1 : ∀ b, b ∈ S1 → b < h1.next := (kC _).lt h1 S1 c
    have ysx : YStep N hh hx S S1 := ys.trans ((sx.wide (T := S1) (T' := S1) (by simp) (fun b hb => .inr ⟨hb, hS1 b hb⟩)).y N)
    have gx := g.frame sx (by simp)
    simp only [ptr]
    refine loadA_at w2 x1 rfl ?_
    simp only [lenSl_slice, lenStr_string, str_size, fpureA_some, fnilA_ptr, faddA_ptr, addr_add, Nat.zero_add, Nat.add_zero, fpureQ_k, fpureQ_nilA, fpureQ_addA, fpureQ_pureA, fpureQ_guardA, fpureQ_idxSlA, fpureQ_pickA, freadQ_loadA, freadQ_loadNA, freadQ_b2sA, freadQ_guardA, freadQ_slSlA, freadQ_k, fendA, fallA_one, fstillA_nil, fguardA_tt, fguardA_ff, fguardA_tf, fguardA_ft, fguardA_undef, fpickA_true, fpickA_false, fcondA_true, fcondA_false, binA_add, binA_sub, binA_mul, binA_eql, binA_neq, binA_lss, binA_leq, binA_gtr, binA_geq, unA_not, Bool.not_true, Bool.not_false, convA_int, extA_tuple, List.getElem?_toArray, List.getElem?_cons_zero, List.getElem?_cons_succ]
    refine loadA_at hb1 x2 rfl ?_
    refine callVA_of (hkp hx S1 ysx x hxl) fun r h2 ⟨er, s2⟩ f2 => ?_
    subst er
    have c2 : C (itV pre kp).length h2 S1 := (kC _).step hx h2 S1 [] [] fx cx' s2 (by simp) (by simp)
    have hS2 : ∀ b, b ∈ S1 → b < hx.next := fun b hb => Nat.lt_of_lt_of_le (hS1 b hb) sx.1
    have ys2 : YStep N hh h2 S S1 := ysx.trans ((s2.wide (T := S1) (T' := S1) (by simp) (fun b hb => .inr ⟨hb, hS2 b hb⟩)).y N)
    have g2 := gx.frame s2 (by simp)
    cases hk : kp x.1 with
    | false =>
      simp only [lenSl_slice, lenStr_string, str_size, fpureA_some, fnilA_ptr, faddA_ptr, addr_add, Nat.zero_add, Nat.add_zero, fpureQ_k, fpureQ_nilA, fpureQ_addA, fpureQ_pureA, fpureQ_guardA, fpureQ_idxSlA, fpureQ_pickA, freadQ_loadA, freadQ_loadNA, freadQ_b2sA, freadQ_guardA, freadQ_slSlA, freadQ_k, fendA, fallA_one, fstillA_nil, fguardA_tt, fguardA_ff, fguardA_tf, fguardA_ft, fguardA_undef, fpickA_true, fpickA_false, fcondA_true, fcondA_false, binA_add, binA_sub, binA_mul, binA_eql, binA_neq, binA_lss, binA_leq, binA_gtr, binA_geq, unA_not, Bool.not_true, Bool.not_false, convA_int, extA_tuple, List.getElem?_toArray, List.getElem?_cons_zero, List.getElem?_cons_succ, e6]
      have hi : itV (pre ++ [x]) kp = itV pre kp := by simp [itV, hk]
      rw [← ex]
      exact ih (pre ++ [x]) h2 S1 (by simpa using he) f2 ys2 (by rw [hi]; exact c2) g2 hU
    | true =>
      simp only [lenSl_slice, lenStr_string, str_size, fpureA_some, fnilA_ptr, faddA_ptr, addr_add, Nat.zero_add, Nat.add_zero, fpureQ_k, fpureQ_nilA, fpureQ_addA, fpureQ_pureA, fpureQ_guardA, fpureQ_idxSlA, fpureQ_pickA, freadQ_loadA, freadQ_loadNA, freadQ_b2sA, freadQ_guardA, freadQ_slSlA, freadQ_k, fendA, fallA_one, fstillA_nil, fguardA_tt, fguardA_ff, fguardA_tf, fguardA_ft, fguardA_undef, fpickA_true, fpickA_false, fcondA_true, fcondA_false, binA_add, binA_sub, binA_mul, binA_eql, binA_neq, binA_lss, binA_leq, binA_gtr, binA_geq, unA_not, Bool.not_true, Bool.not_false, convA_int, extA_tuple, List.getElem?_toArray, List.getElem?_cons_zero, List.getElem?_cons_succ]
      have hi : itV (pre ++ [x]) kp = itV pre kp ++ [iv x] := by simp [itV, hk]
      have x3 : h2.blk h1.next = some (iv x) := by rw [(s2.keep h1.next (fx.lt _ _ x2) (by simp)).1]; exact x2
      refine loadA_at hb1 x3 rfl ?_
      refine loadA_at hb1 x3 rfl ?_
      have hxi : (itV l kp)[(itV pre kp).length]? = some (iv x) := by
        have : itV l kp = itV pre kp ++ ([iv x] ++ itV post kp) := by rw [← he]; simp [itV, hk]
        rw [this, List.getElem?_append_right (Nat.le_refl _), Nat.sub_self]
        rfl
      refine callVA_of (hstep _ _ h2 S1 hxi f2 c2) fun r h3 ⟨S3, ys3, hv⟩ f3 => ?_
      have ys4 := ys2.trans ys3
      have hU3 : ∀ b, b ∈ U → b ∉ S3 := fun b hb hb3 => by
        rcases (ys3.own b hb3).2 with q | q
        · exact hU b hb q
        · have := (g2.lt b hb).2; omega
      have g3 : GV w0 h3 2 xc l.length (ivs l) U := (g2.frame ys3.step hU : GV w0 (h3.as h2) 2 xc l.length (ivs l) U)
      rcases hv with ⟨rfl, c3⟩ | ⟨rfl, d3⟩
      · simp only [lenSl_slice, lenStr_string, str_size, fpureA_some, fnilA_ptr, faddA_ptr, addr_add, Nat.zero_add, Nat.add_zero, fpureQ_k, fpureQ_nilA, fpureQ_addA, fpureQ_pureA, fpureQ_guardA, fpureQ_idxSlA, fpureQ_pickA, freadQ_loadA, freadQ_loadNA, freadQ_b2sA, freadQ_guardA, freadQ_slSlA, freadQ_k, fendA, fallA_one, fstillA_nil, fguardA_tt, fguardA_ff, fguardA_tf, fguardA_ft, fguardA_undef, fpickA_true, fpickA_false, fcondA_true, fcondA_false, binA_add, binA_sub, binA_mul, binA_eql, binA_neq, binA_lss, binA_leq, binA_gtr, binA_geq, unA_not, Bool.not_true, Bool.not_false, convA_int, extA_tuple, List.getElem?_toArray, List.getElem?_cons_zero, List.getElem?_cons_succ, e6]
        rw [← ex]
        exact ih (pre ++ [x]) h3 S3 (by simpa using he) f3 ys4 (by rw [hi]; simpa using c3) g3 hU3
      · simp only [lenSl_slice, lenStr_string, str_size, fpureA_some, fnilA_ptr, faddA_ptr, addr_add, Nat.zero_add, Nat.add_zero, fpureQ_k, fpureQ_nilA, fpureQ_addA, fpureQ_pureA, fpureQ_guardA, fpureQ_idxSlA, fpureQ_pickA, freadQ_loadA, freadQ_loadNA, freadQ_b2sA, freadQ_guardA, freadQ_slSlA, freadQ_k, fendA, fallA_one, fstillA_nil, fguardA_tt, fguardA_ff, fguardA_tf, fguardA_ft, fguardA_undef, fpickA_true, fpickA_false, fcondA_true, fcondA_false, binA_add, binA_sub, binA_mul, binA_eql, binA_neq, binA_lss, binA_leq, binA_gtr, binA_geq, unA_not, Bool.not_true, Bool.not_false, convA_int, extA_tuple, List.getElem?_toArray, List.getElem?_cons_zero, List.getElem?_cons_succ]
        exact hR h3 S3 ys4 (.inr d3)
theorem over_it {hh : Hp} {p q1 q2 : Nat} {keep : Value} {l : List (Key × Int)} {kp : Key → Bool} {T M : List Nat} (b1 : hh.blk q1 = some [ptr p]) (b2 : hh.blk q2 = some [keep]) (w1 : w0.heap.size ≤ q1) (w2 : w0.heap.size ≤ q2) (m : Mp w0 hh p l M) (hl : l.length ≤ 1000000000)
    (hT : q1 ∈ T ∧ q2 ∈ T ∧ ∀ b, b ∈ M → b ∈ T)
    (hkp : ∀ h1, hh.next ≤ h1.next → (∀ b, b ∈ T → b < hh.next → h1.blk b = hh.blk b) → ∀ x, x ∈ l → callVA prog w0 keep [.string (str x.1)] (fun r h2 => r = .bool (kp x.1) ∧ Step h1 h2 [] []) h1) :
    ItC prog w0 (.func (.func n_seq_Map_string_int_over_S1) #[] #[ptr q1, ptr q2]) hh T (itV l kp) := by
  intro y N S C D hy hN kC kD hstep h0 hd
  refine ⟨_, _, _, rfl, by kernel_rfl, ?_⟩
  refine ACalls.of_fit (by simp [ptr, hy]) fun f => c_seq_Map_string_int_over_S1 (by simp [ptr, hy]) ?_
  obtain ⟨x, U, a, g, g', b, c, d, rfl, e⟩ := m
  have c0 : binPtrA .eql (.pointer (some ⟨p, 0, none⟩)) (.pointer none) = some (.bool false) := rfl
  simp only [s_seq_Map_string_int_over_S1, ptr]
  refine loadA_at w1 b1 rfl ?_
  simp only [ptr, c0, lenSl_slice, lenStr_string, str_size, fpureA_some, fnilA_ptr, faddA_ptr, addr_add, Nat.zero_add, Nat.add_zero, fpureQ_k, fpureQ_nilA, fpureQ_addA, fpureQ_pureA, fpureQ_guardA, fpureQ_idxSlA, fpureQ_pickA, freadQ_loadA, freadQ_loadNA, freadQ_b2sA, freadQ_guardA, freadQ_slSlA, freadQ_k, fendA, fallA_one, fstillA_nil, fguardA_tt, fguardA_ff, fguardA_tf, fguardA_ft, fguardA_undef, fpickA_true, fpickA_false, fcondA_true, fcondA_false, binA_add, binA_sub, binA_mul, binA_eql, binA_neq, binA_lss, binA_leq, binA_gtr, binA_geq, unA_not, Bool.not_true, Bool.not_false, convA_int, extA_tuple, List.getElem?_toArray, List.getElem?_cons_zero, List.getElem?_cons_succ]
  refine loadA_at w1 b1 rfl ?_
  simp only [ptr, lenSl_slice, lenStr_string, str_size, fpureA_some, fnilA_ptr, faddA_ptr, addr_add, Nat.zero_add, Nat.add_zero, fpureQ_k, fpureQ_nilA, fpureQ_addA, fpureQ_pureA, fpureQ_guardA, fpureQ_idxSlA, fpureQ_pickA, freadQ_loadA, freadQ_loadNA, freadQ_b2sA, freadQ_guardA, freadQ_slSlA, freadQ_k, fendA, fallA_one, fstillA_nil, fguardA_tt, fguardA_ff, fguardA_tf, fguardA_ft, fguardA_undef, fpickA_true, fpickA_false, fcondA_true, fcondA_false, binA_add, binA_sub, binA_mul, binA_eql, binA_neq, binA_lss, binA_leq, binA_gtr, binA_geq, unA_not, Bool.not_true, Bool.not_false, convA_int, extA_tuple, List.getElem?_toArray, List.getElem?_cons_zero, List.getElem?_cons_succ]
  refine loadA_at b a rfl ?_
  refine callA_of (Clone_si g.sl hl) fun xc h1 ⟨U1, g1, v1, s1⟩ f1 => ?_
  obtain ⟨ax, cx, ex⟩ := g1.slice
  have elx : lenSl xc = some (.int .i64 (l.length : Int)) := by rw [ex]; rfl
  simp only [elx, lenSl_slice, lenStr_string, str_size, fpureA_some, fnilA_ptr, faddA_ptr, addr_add, Nat.zero_add, Nat.add_zero, fpureQ_k, fpureQ_nilA, fpureQ_addA, fpureQ_pureA, fpureQ_guardA, fpureQ_idxSlA, fpureQ_pickA, freadQ_loadA, freadQ_loadNA, freadQ_b2sA, freadQ_guardA, freadQ_slSlA, freadQ_k, fendA, fallA_one, fstillA_nil, fguardA_tt, fguardA_ff, fguardA_tf, fguardA_ft, fguardA_undef, fpickA_true, fpickA_false, fcondA_true, fcondA_false, binA_add, binA_sub, binA_mul, binA_eql, binA_neq, binA_lss, binA_leq, binA_gtr, binA_geq, unA_not, Bool.not_true, Bool.not_false, convA_int, extA_tuple, List.getElem?_toArray, List.getElem?_cons_zero, List.getElem?_cons_succ]
  have hSlt := (kC 0).lt hh S h0
  have ys1 : YStep N hh h1 S S := ((s1.less (T := []) (by simp)).wide (T := S) (T' := S) (by simp) (fun b hb => .inr ⟨hb, hSlt b hb⟩)).y N
  have hU1 : ∀ b, b ∈ U1 → hh.next ≤ b := fun b hb => by
    rcases (s1.own b hb).2 with q | q
    · simp at q
    · exact q
  refine ⟨l.length + 1, ?_⟩
  refine over_loop (U := U1) (hh := hh) (kp := kp) (S := S) f w2 b2 (fun q => hd q2 q hT.2.1) (fun h2 S2 ys x hx => hkp h2 ys.next (fun b hb hlt => (ys.keep b hlt (fun q => hd b q hb)).1) x hx) kC hl hstep (fun h2 S2 ys hk => ?_) l [] h1 S rfl f1 ys1 ?_ g1 (fun b hb q => by have := hU1 b hb; have := hSlt b q; omega)
  · simp only [retA_iff]
    exact ⟨by simp, S2, ys, hk⟩
  · exact (kC 0).step hh h1 S [] [] f h0 (s1.less (by simp)) (by simp) (by simp)
/-- Over nobody's items. -/
theorem over_nil {hh : Hp} {q1 q2 : Nat} {T : List Nat} (b1 : hh.blk q1 = some [.pointer none]) (w1 : w0.heap.size ≤ q1) :
    ItC prog w0 (.func (.func n_seq_Map_string_int_over_S1) #[] #[ptr q1, ptr q2]) hh T [] := by
  intro y N S C D hy hN kC kD hstep h0 hd
  refine ⟨_, _, _, rfl, by kernel_rfl, ?_⟩
  refine ACalls.of_fit (by simp [ptr, hy]) fun f => c_seq_Map_string_int_over_S1 (by simp [ptr, hy]) ?_
  simp only [s_seq_Map_string_int_over_S1, ptr]
  refine loadA_at w1 b1 rfl ?_
  simp only [nil_eq, lenSl_slice, lenStr_string, str_size, fpureA_some, fnilA_ptr, faddA_ptr, addr_add, Nat.zero_add, Nat.add_zero, fpureQ_k, fpureQ_nilA, fpureQ_addA, fpureQ_pureA, fpureQ_guardA, fpureQ_idxSlA, fpureQ_pickA, freadQ_loadA, freadQ_loadNA, freadQ_b2sA, freadQ_guardA, freadQ_slSlA, freadQ_k, fendA, fallA_one, fstillA_nil, fguardA_tt, fguardA_ff, fguardA_tf, fguardA_ft, fguardA_undef, fpickA_true, fpickA_false, fcondA_true, fcondA_false, binA_add, binA_sub, binA_mul, binA_eql, binA_neq, binA_lss, binA_leq, binA_gtr, binA_geq, unA_not, Bool.not_true, Bool.not_false, convA_int, extA_tuple, List.getElem?_toArray, List.getElem?_cons_zero, List.getElem?_cons_succ, retA_iff]
  exact ⟨by simp, S, YStep.refl N hh S ((kC 0).lt hh S h0), .inl h0⟩
/-! ### All, Range -/
theorem All_S1 (k : Key) : ACalls prog w0 n_seq_Map_string_int_All_S1 [.string (str k)] h fun r h' => r = .bool true ∧ Step h h' [] [] := by
  refine ACalls.of_fit (by simp) fun f => c_seq_Map_string_int_All_S1 (by simp) ?_
  simp only [s_seq_Map_string_int_All_S1, retA_iff, oneOf_one]
  exact ⟨by simp, trivial, .refl _ _ (by simp)⟩
/-- A range. -/
def inR (a b : Key) (k : Key) : Bool := !blt k a && blt k b
theorem Range_S1 {q1 q2 : Nat} {a b : Key} (w1 : w0.heap.size ≤ q1) (w2 : w0.heap.size ≤ q2) (b1 : h.blk q1 = some [.string (str a)]) (b2 : h.blk q2 = some [.string (str b)]) (k : Key) :
    ACalls prog w0 n_seq_Map_string_int_Range_S1 [.string (str k), ptr q1, ptr q2] h fun r h' => r = .bool (inR a b k) ∧ Step h h' [] [] := by
  refine ACalls.of_fit (by simp [ptr]) fun f => c_seq_Map_string_int_Range_S1 (by simp [ptr]) ?_
  simp only [s_seq_Map_string_int_Range_S1, ptr]
  refine loadA_at w1 b1 rfl ?_
  simp only [s_geq, lenSl_slice, lenStr_string, str_size, fpureA_some, fnilA_ptr, faddA_ptr, addr_add, Nat.zero_add, Nat.add_zero, fpureQ_k, fpureQ_nilA, fpureQ_addA, fpureQ_pureA, fpureQ_guardA, fpureQ_idxSlA, fpureQ_pickA, freadQ_loadA, freadQ_loadNA, freadQ_b2sA, freadQ_guardA, freadQ_slSlA, freadQ_k, fendA, fallA_one, fstillA_nil, fguardA_tt, fguardA_ff, fguardA_tf, fguardA_ft, fguardA_undef, fpickA_true, fpickA_false, fcondA_true, fcondA_false, binA_add, binA_sub, binA_mul, binA_eql, binA_neq, binA_lss, binA_leq, binA_gtr, binA_geq, unA_not, Bool.not_true, Bool.not_false, convA_int, extA_tuple, List.getElem?_toArray, List.getElem?_cons_zero, List.getElem?_cons_succ]
  unfold inR
  cases e : blt k a with
  | true =>
    simp only [lenSl_slice, lenStr_string, str_size, fpureA_some, fnilA_ptr, faddA_ptr, addr_add, Nat.zero_add, Nat.add_zero, fpureQ_k, fpureQ_nilA, fpureQ_addA, fpureQ_pureA, fpureQ_guardA, fpureQ_idxSlA, fpureQ_pickA, freadQ_loadA, freadQ_loadNA, freadQ_b2sA, freadQ_guardA, freadQ_slSlA, freadQ_k, fendA, fallA_one, fstillA_nil, fguardA_tt, fguardA_ff, fguardA_tf, fguardA_ft, fguardA_undef, fpickA_true, fpickA_false, fcondA_true, fcondA_false, binA_add, binA_sub, binA_mul, binA_eql, binA_neq, binA_lss, binA_leq, binA_gtr, binA_geq, unA_not, Bool.not_true, Bool.not_false, convA_int, extA_tuple, List.getElem?_toArray, List.getElem?_cons_zero, List.getElem?_cons_succ, retA_iff, oneOf_one]
    exact ⟨by simp, rfl, .refl _ _ (by simp)⟩
  | false =>
    simp only [lenSl_slice, lenStr_string, str_size, fpureA_some, fnilA_ptr, faddA_ptr, addr_add, Nat.zero_add, Nat.add_zero, fpureQ_k, fpureQ_nilA, fpureQ_addA, fpureQ_pureA, fpureQ_guardA, fpureQ_idxSlA, fpureQ_pickA, freadQ_loadA, freadQ_loadNA, freadQ_b2sA, freadQ_guardA, freadQ_slSlA, freadQ_k, fendA, fallA_one, fstillA_nil, fguardA_tt, fguardA_ff, fguardA_tf, fguardA_ft, fguardA_undef, fpickA_true, fpickA_false, fcondA_true, fcondA_false, binA_add, binA_sub, binA_mul, binA_eql, binA_neq, binA_lss, binA_leq, binA_gtr, binA_geq, unA_not, Bool.not_true, Bool.not_false, convA_int, extA_tuple, List.getElem?_toArray, List.getElem?_cons_zero, List.getElem?_cons_succ]
    refine loadA_at w2 b2 rfl ?_
    simp only [s_lss, lenSl_slice, lenStr_string, str_size, fpureA_some, fnilA_ptr, faddA_ptr, addr_add, Nat.zero_add, Nat.add_zero, fpureQ_k, fpureQ_nilA, fpureQ_addA, fpureQ_pureA, fpureQ_guardA, fpureQ_idxSlA, fpureQ_pickA, freadQ_loadA, freadQ_loadNA, freadQ_b2sA, freadQ_guardA, freadQ_slSlA, freadQ_k, fendA, fallA_one, fstillA_nil, fguardA_tt, fguardA_ff, fguardA_tf, fguardA_ft, fguardA_undef, fpickA_true, fpickA_false, fcondA_true, fcondA_false, binA_add, binA_sub, binA_mul, binA_eql, binA_neq, binA_lss, binA_leq, binA_gtr, binA_geq, unA_not, Bool.not_true, Bool.not_false, convA_int, extA_tuple, List.getElem?_toArray, List.getElem?_cons_zero, List.getElem?_cons_succ, retA_iff, oneOf_one]
    exact ⟨by simp, by simp, .refl _ _ (by simp)⟩
/-- What the iterator that All hands back needs. -/
def AllOf (w0 : World) (h : Hp) (p : Nat) (r : Value) : Prop := ∃ q1 q2, r = .func (.func n_seq_Map_string_int_over_S1) #[] #[ptr q1, ptr q2] ∧ h.blk q1 = some [ptr p] ∧ h.blk q2 = some [.func (.func n_seq_Map_string_int_All_S1) #[] #[]] ∧ w0.heap.size ≤ q1 ∧ w0.heap.size ≤ q2
theorem All_spec (p : Nat) : ACalls prog w0 n_seq_Map_string_int_All [ptr p] h fun r h' => ∃ q1 q2, r = .func (.func n_seq_Map_string_int_over_S1) #[] #[ptr q1, ptr q2] ∧ h'.blk q1 = some [ptr p] ∧ h'.blk q2 = some [.func (.func n_seq_Map_string_int_All_S1) #[] #[]] ∧
    h.next ≤ q1 ∧ h.next ≤ q2 ∧ q1 < h'.next ∧ q2 < h'.next ∧ Step h h' [] [] := by
  refine ACalls.of_fit (by simp [ptr]) fun f => c_seq_Map_string_int_All (by simp [ptr]) ?_
  simp only [s_seq_Map_string_int_All]
  refine callA_of (over_spec (by simp [ptr, junk]) rfl (by simp [junk]) rfl) fun r h1 ⟨q1, q2, e, a1, a2, a3, a4, a5, a6, s1⟩ f1 => ?_
  subst e
  simp only [retA_iff, oneOf_one]
  exact ⟨by simp, q1, q2, rfl, a1, a2, a3, a4, a5, a6, s1⟩
theorem All_nil : ACalls prog w0 n_seq_Map_string_int_All [.pointer none] h fun r h' => ∃ q1 q2, r = .func (.func n_seq_Map_string_int_over_S1) #[] #[ptr q1, ptr q2] ∧ h'.blk q1 = some [.pointer none] ∧
    h.next ≤ q1 ∧ Step h h' [] [] := by
  refine ACalls.of_fit (by simp) fun f => c_seq_Map_string_int_All (by simp) ?_
  simp only [s_seq_Map_string_int_All]
  refine callA_of (over_spec (by simp) rfl (by simp [junk]) rfl) fun r h1 ⟨q1, q2, e, a1, a2, a3, a4, a5, a6, s1⟩ f1 => ?_
  subst e
  simp only [retA_iff, oneOf_one]
  exact ⟨by simp, q1, q2, rfl, a1, a3, s1⟩
theorem Range_any (m : Value) (hm : m ≠ junk) (hmc : isCell m = true) (a b : Key) : ACalls prog w0 n_seq_Map_string_int_Range [m, .string (str a), .string (str b)] h fun r h' => ∃ q1 q2 r1 r2, r = .func (.func n_seq_Map_string_int_over_S1) #[] #[ptr q1, ptr q2] ∧ h'.blk q1 = some [m] ∧
    h'.blk q2 = some [.func (.func n_seq_Map_string_int_Range_S1) #[] #[ptr r1, ptr r2]] ∧ h'.blk r1 = some [.string (str a)] ∧ h'.blk r2 = some [.string (str b)] ∧
    h.next ≤ q1 ∧ h.next ≤ q2 ∧ h.next ≤ r1 ∧ h.next ≤ r2 ∧ q1 < h'.next ∧ q2 < h'.next ∧ r1 < h'.next ∧ r2 < h'.next ∧ Step h h' [] [] := by
  refine ACalls.of_fit (by simp [hm]) fun f => c_seq_Map_string_int_Range (by simp [hm]) ?_
  simp only [s_seq_Map_string_int_Range]
  refine ⟨rfl, rfl, ?_⟩
  refine ⟨by simp, ?_⟩
  have s2 : Step h ((h.new [.string (str a)] 1).new [.string (str b)] 1) [] [] := ((((Step.refl h [] (by simp)).new _ _).new _ _).less (by simp))
  obtain ⟨h2, hh2⟩ : ∃ h2, h2 = (h.new [.string (str a)] 1).new [.string (str b)] 1 := ⟨_, rfl⟩
  have hne : h.next ≠ h.next + 1 := by omega
  have x1 : h2.blk h.next = some [.string (str a)] := by rw [hh2]; simp
  have x2 : h2.blk (h.next + 1) = some [.string (str b)] := by rw [hh2]; simp
  have x3 : h2.next = h.next + 2 := by rw [hh2]; rfl
  rw [show (h.new [.string (str a)] 1).next = h.next + 1 from rfl, ← hh2]
  rw [← hh2] at s2
  refine callA_of (over_spec hm hmc (by simp [junk]) rfl) fun r h1 ⟨q1, q2, e, a1, a2, a3, a4, a5, a6, s1⟩ f1 => ?_
  subst e
  simp only [retA_iff, oneOf_one]
  have n1 := s1.1
  exact ⟨by simp, q1, q2, h.next, h.next + 1, rfl, a1, a2, by rw [(s1.keep _ (by omega) (by simp)).1]; exact x1, by rw [(s1.keep _ (by omega) (by simp)).1]; exact x2, by omega, by omega, by omega, by omega, by omega, by omega, by omega, by omega, s2.trans s1⟩
end
end Go.Proofs.Ytpdpponbhejlpaa.Ah
