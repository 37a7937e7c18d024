/- SeqSorts: the walk. -/
import Derived.Test.YtpdpponbhejlpaaRxb
set_option linter.unusedVariables false
set_option linter.unusedSimpArgs false
namespace Go.Proofs.Ytpdpponbhejlpaa.Ah
open Go
/-- What is not counted yet. -/
def remK : List Key → List Bool → List Key
  | t :: l, b :: cs => if b = true then remK l cs else t :: remK l cs
  | _, _ => []
def markK (s : Key) : List Key → List Bool → List Bool
  | t :: l, b :: cs => if t = s ∧ b = false then true :: cs else b :: markK s l cs
  | _, _ => []
theorem mark_perm (s : Key) : ∀ (l : List Key) (cs : List Bool), s ∈ remK l cs → (s :: remK l (markK s l cs)).Perm (remK l cs)
  | [], _, h => by simp [remK] at h
  | t :: l, [], h => by simp [remK] at h
  | t :: l, b :: cs, h => by
    rw [markK]
    split
    · rename_i e
      obtain ⟨rfl, rfl⟩ := e
      simp [remK]
    · rename_i e
      cases b with
      | true =>
        simp only [remK, if_true] at h ⊢
        exact mark_perm s l cs h
      | false =>
        have hts : t ≠ s := fun q => e ⟨q, rfl⟩
        simp only [remK, Bool.false_eq_true, if_false] at h ⊢
        rcases List.mem_cons.1 h with q | q
        · exact absurd q.symm hts
        · exact (List.Perm.swap t s _).trans ((mark_perm s l cs q).cons t)
theorem mark_len (s : Key) : ∀ (l : List Key) (cs : List Bool), l.length = cs.length → (markK s l cs).length = cs.length
  | [], [], _ => rfl
  | [], _ :: _, h => by simp at h
  | _ :: _, [], h => by simp at h
  | t :: l, b :: cs, h => by
    rw [markK]
    split
    · simp
    · simp [mark_len s l cs (by simpa using h)]
theorem rem_none : ∀ (l : List Key), remK l (List.replicate l.length false) = l
  | [] => rfl
  | t :: l => by simp [remK, List.replicate_succ, rem_none l]
def cnts (cs : List Bool) : List Value := cs.map fun b => .int .i64 (if b = true then 1 else 0)
theorem cnts_cell (cs : List Bool) : ∀ v, v ∈ cnts cs → isCell v = true := by
  intro v hv
  obtain ⟨b, -, rfl⟩ := List.mem_map.1 hv
  rfl
section
variable {w0 : World} {h h' : Hp}
theorem sorts_push {k0 : Value → Value → Value → Value → Hp → Prop} {v x2 x4 : Value} {l : List Key} {hh : Hp} {p : Nat} (hv : ExtSl w0 1 v l.length (svsK l)) (hl : l.length ≤ 100000000)
    (hk : ∀ h' S xs, Hp_string w0 h' p xs S → xs.Perm l → Fit w0 h' → Step hh h' [p] S → k0 v x2 (ptr p) x4 h') : ∀ (post pre : List Key) (h1 : Hp) (S : List Nat) (xs : List Key), pre ++ post = l → Hp_string w0 h1 p xs S → xs.Perm pre → Fit w0 h1 → Step hh h1 [p] S →
      deduplaw10_SeqSorts_L1 prog w0 k0 (post.length + 1) v x2 (ptr p) x4 v (.int .i64 (l.length : Int)) (.int .i64 (pre.length : Int)) h1 := by
  intro post
  induction post with
  | nil =>
    intro pre h1 S xs he m hp f1 st
    have hpre : pre = l := by simpa using he
    subst hpre
    rw [List.length_nil, deduplaw10_SeqSorts_L1]
    simp only [deduplaw10_SeqSorts_B1, lenSl_slice, lenStr_string, str_size, fpureA_some, fnilA_ptr, faddA_ptr, addr_add, Nat.zero_add, Nat.add_zero, fpureQ_k, fpureQ_nilA, fpureQ_addA, fpureQ_pureA, fpureQ_guardA, fpureQ_idxSlA, fpureQ_pickA, freadQ_loadA, freadQ_loadNA, freadQ_b2sA, freadQ_guardA, freadQ_slSlA, freadQ_k, fendA, fallA_one, fstillA_nil, fguardA_tt, fguardA_ff, fguardA_tf, fguardA_ft, fguardA_undef, fpickA_true, fpickA_false, fcondA_true, fcondA_false, binA_add, binA_sub, binA_mul, binA_eql, binA_neq, binA_lss, binA_leq, binA_gtr, binA_geq, unA_not, Bool.not_true, Bool.not_false, convA_int, extA_tuple, List.getElem?_toArray, List.getElem?_cons_zero, List.getElem?_cons_succ, Int.lt_irrefl, decide_false]
    exact hk h1 S xs m hp f1 st
  | cons x post ih =>
    intro pre h1 S xs he m hp f1 st
    have hlen : pre.length + (post.length + 1) = l.length := by rw [← he]; simp
    have hg : l[pre.length]? = some x := by rw [← he]; simp
    have c1 : decide ((pre.length : Int) < (l.length : Int)) = true := decide_eq_true (by omega)
    have e6 : IntKind.i64.wrap ((pre.length : Int) + 1) = (((pre ++ [x]).length : Nat) : Int) := by rw [IntWalk.i64_in _ (by omega)]; simp
    have hxl := hp.length_eq
    rw [List.length_cons, deduplaw10_SeqSorts_L1]
    simp only [deduplaw10_SeqSorts_B1, lenSl_slice, lenStr_string, str_size, fpureA_some, fnilA_ptr, faddA_ptr, addr_add, Nat.zero_add, Nat.add_zero, fpureQ_k, fpureQ_nilA, fpureQ_addA, fpureQ_pureA, fpureQ_guardA, fpureQ_idxSlA, fpureQ_pickA, freadQ_loadA, freadQ_loadNA, freadQ_b2sA, freadQ_guardA, freadQ_slSlA, freadQ_k, fendA, fallA_one, fstillA_nil, fguardA_tt, fguardA_ff, fguardA_tf, fguardA_ft, fguardA_undef, fpickA_true, fpickA_false, fcondA_true, fcondA_false, binA_add, binA_sub, binA_mul, binA_eql, binA_neq, binA_lss, binA_leq, binA_gtr, binA_geq, unA_not, Bool.not_true, Bool.not_false, convA_int, extA_tuple, List.getElem?_toArray, List.getElem?_cons_zero, List.getElem?_cons_succ, c1]
    refine (hv.ks h1 f1).one (svsK_get hg) ?_
    refine callA_of (Push_string m x (by omega)) fun _ h2 ⟨S2, m2, s2⟩ f2 => ?_
    simp only [e6]
    exact ih (pre ++ [x]) h2 S2 _ (by simpa using he) m2 ((push_perm xs x).trans ((hp.cons x).trans (List.perm_append_comm (l₁ := [x])))) f2 (st.trans s2)
/-- The key is found, and counted. -/
theorem sorts_find {k4 : Value → Value → Value → Value → Value → Value → Value → Value → Hp → Prop} {v x2 x3 x37 x38 : Value} {l : List Key} {s : Key} {cs : List Bool} {q : Nat} (hv : ExtSl w0 1 v l.length (svsK l)) (hl : l.length ≤ 100000000) (hq : w0.heap.size ≤ q) (hcl : cs.length = l.length) (hs : s ∈ remK l cs)
    {hh : Hp} (hk : ∀ h', h'.blk q = some (cnts (markK s l cs)) → Fit w0 h' → Step hh h' [q] [q] → k4 v x2 x3 (.slice (some ⟨q, 0, none⟩) l.length l.length) (.string (str s)) (.bool true) x37 x38 h') :
    ∀ (post pre : List Key) (h1 : Hp) (fnd : Bool) (cb : List Bool), pre ++ post = l → Fit w0 h1 → Step hh h1 [q] [q] → h1.blk q = some (cnts cb) → (fnd = true → cb = markK s l cs) → (fnd = false → cb = cs ∧ cs.take pre.length ++ markK s post (cs.drop pre.length) = markK s l cs) →
      deduplaw10_SeqSorts_L3 prog w0 k4 (post.length + 1) v x2 x3 (.slice (some ⟨q, 0, none⟩) l.length l.length) (.string (str s)) (.bool fnd) x37 x38 v (.int .i64 (l.length : Int)) (.int .i64 (pre.length : Int)) h1 := by
  intro post
  induction post with
  | nil =>
    intro pre h1 fnd cb he f1 st hb i1 i2
    have hpre : pre = l := by simpa using he
    subst hpre
    rw [List.length_nil, deduplaw10_SeqSorts_L3]
    simp only [deduplaw10_SeqSorts_B3, lenSl_slice, lenStr_string, str_size, fpureA_some, fnilA_ptr, faddA_ptr, addr_add, Nat.zero_add, Nat.add_zero, fpureQ_k, fpureQ_nilA, fpureQ_addA, fpureQ_pureA, fpureQ_guardA, fpureQ_idxSlA, fpureQ_pickA, freadQ_loadA, freadQ_loadNA, freadQ_b2sA, freadQ_guardA, freadQ_slSlA, freadQ_k, fendA, fallA_one, fstillA_nil, fguardA_tt, fguardA_ff, fguardA_tf, fguardA_ft, fguardA_undef, fpickA_true, fpickA_false, fcondA_true, fcondA_false, binA_add, binA_sub, binA_mul, binA_eql, binA_neq, binA_lss, binA_leq, binA_gtr, binA_geq, unA_not, Bool.not_true, Bool.not_false, convA_int, extA_tuple, List.getElem?_toArray, List.getElem?_cons_zero, List.getElem?_cons_succ, Int.lt_irrefl, decide_false]
    cases fnd with
    | true =>
      rw [i1 rfl] at hb
      exact hk h1 hb f1 st
    | false =>
      exfalso
      have e := (i2 rfl).2
      rw [← hcl, List.take_length, List.drop_length, markK, List.append_nil] at e
      · have := (mark_perm s pre cs hs).length_eq
        rw [← e] at this
        simp at this
      · simp
  | cons x post ih =>
    intro pre h1 fnd cb he f1 st hb i1 i2
    have hlen : pre.length + (post.length + 1) = l.length := by rw [← he]; simp
    have hg : l[pre.length]? = some x := by rw [← he]; simp
    have c1 : decide ((pre.length : Int) < (l.length : Int)) = true := decide_eq_true (by omega)
    have e6 : IntKind.i64.wrap ((pre.length : Int) + 1) = (((pre ++ [x]).length : Nat) : Int) := by rw [IntWalk.i64_in _ (by omega)]; simp
    rw [List.length_cons, deduplaw10_SeqSorts_L3]
    simp only [deduplaw10_SeqSorts_B3, lenSl_slice, lenStr_string, str_size, fpureA_some, fnilA_ptr, faddA_ptr, addr_add, Nat.zero_add, Nat.add_zero, fpureQ_k, fpureQ_nilA, fpureQ_addA, fpureQ_pureA, fpureQ_guardA, fpureQ_idxSlA, fpureQ_pickA, freadQ_loadA, freadQ_loadNA, freadQ_b2sA, freadQ_guardA, freadQ_slSlA, freadQ_k, fendA, fallA_one, fstillA_nil, fguardA_tt, fguardA_ff, fguardA_tf, fguardA_ft, fguardA_undef, fpickA_true, fpickA_false, fcondA_true, fcondA_false, binA_add, binA_sub, binA_mul, binA_eql, binA_neq, binA_lss, binA_leq, binA_gtr, binA_geq, unA_not, Bool.not_true, Bool.not_false, convA_int, extA_tuple, List.getElem?_toArray, List.getElem?_cons_zero, List.getElem?_cons_succ, c1]
    refine (hv.ks h1 f1).one (svsK_get hg) ?_
    have hcbl : cb.length = l.length := by
      cases fnd with
      | true => rw [i1 rfl, mark_len s l cs hcl.symm, hcl]
      | false => rw [(i2 rfl).1, hcl]
    have hcg : cb[pre.length]? = some cb[pre.length] := List.getElem?_eq_getElem (by omega)
    have hcv : (cnts cb)[pre.length]? = some (.int .i64 (if cb[pre.length] = true then 1 else 0)) := by simp [cnts, hcg]
    have hcc : cs[pre.length]? = some cs[pre.length] := List.getElem?_eq_getElem (by omega)
    have hdr : cs.drop pre.length = cs[pre.length] :: cs.drop (pre.length + 1) := List.drop_eq_getElem_cons (by omega)
    have go : ∀ fnd', fnd' = fnd → (fnd' = false → x ≠ s ∨ cs[pre.length] = true) → deduplaw10_SeqSorts_L3 prog w0 k4 (post.length + 1) v x2 x3 (.slice (some ⟨q, 0, none⟩) l.length l.length) (.string (str s)) (.bool fnd') x37 x38 v (.int .i64 (l.length : Int)) (.int .i64 ((pre ++ [x]).length : Int)) h1 := by
      intro fnd' e hno
      subst e
      refine ih (pre ++ [x]) h1 fnd' cb (by simpa using he) f1 st hb i1 fun e => ⟨(i2 e).1, ?_⟩
      have := (i2 e).2
      rw [hdr, markK, if_neg (by rintro ⟨a, b⟩; rcases hno e with q | q; exact q a; rw [q] at b; cases b)] at this
      have e2 : cs.take (pre.length + 1) = cs.take pre.length ++ [cs[pre.length]] := by rw [List.take_add_one, hcc]; rfl
      rw [← this, List.length_append, List.length_singleton, e2, List.append_assoc]
      rfl
    simp only [s_eql, lenSl_slice, lenStr_string, str_size, fpureA_some, fnilA_ptr, faddA_ptr, addr_add, Nat.zero_add, Nat.add_zero, fpureQ_k, fpureQ_nilA, fpureQ_addA, fpureQ_pureA, fpureQ_guardA, fpureQ_idxSlA, fpureQ_pickA, freadQ_loadA, freadQ_loadNA, freadQ_b2sA, freadQ_guardA, freadQ_slSlA, freadQ_k, fendA, fallA_one, fstillA_nil, fguardA_tt, fguardA_ff, fguardA_tf, fguardA_ft, fguardA_undef, fpickA_true, fpickA_false, fcondA_true, fcondA_false, binA_add, binA_sub, binA_mul, binA_eql, binA_neq, binA_lss, binA_leq, binA_gtr, binA_geq, unA_not, Bool.not_true, Bool.not_false, convA_int, extA_tuple, List.getElem?_toArray, List.getElem?_cons_zero, List.getElem?_cons_succ]
    by_cases hxs : x = s
    · simp only [decide_eq_true hxs, lenSl_slice, lenStr_string, str_size, fpureA_some, fnilA_ptr, faddA_ptr, addr_add, Nat.zero_add, Nat.add_zero, fpureQ_k, fpureQ_nilA, fpureQ_addA, fpureQ_pureA, fpureQ_guardA, fpureQ_idxSlA, fpureQ_pickA, freadQ_loadA, freadQ_loadNA, freadQ_b2sA, freadQ_guardA, freadQ_slSlA, freadQ_k, fendA, fallA_one, fstillA_nil, fguardA_tt, fguardA_ff, fguardA_tf, fguardA_ft, fguardA_undef, fpickA_true, fpickA_false, fcondA_true, fcondA_false, binA_add, binA_sub, binA_mul, binA_eql, binA_neq, binA_lss, binA_leq, binA_gtr, binA_geq, unA_not, Bool.not_true, Bool.not_false, convA_int, extA_tuple, List.getElem?_toArray, List.getElem?_cons_zero, List.getElem?_cons_succ, idxSlA_iff]
      refine ⟨by omega, by omega, ?_⟩
      simp only [lenSl_slice, lenStr_string, str_size, fpureA_some, fnilA_ptr, faddA_ptr, addr_add, Nat.zero_add, Nat.add_zero, fpureQ_k, fpureQ_nilA, fpureQ_addA, fpureQ_pureA, fpureQ_guardA, fpureQ_idxSlA, fpureQ_pickA, freadQ_loadA, freadQ_loadNA, freadQ_b2sA, freadQ_guardA, freadQ_slSlA, freadQ_k, fendA, fallA_one, fstillA_nil, fguardA_tt, fguardA_ff, fguardA_tf, fguardA_ft, fguardA_undef, fpickA_true, fpickA_false, fcondA_true, fcondA_false, binA_add, binA_sub, binA_mul, binA_eql, binA_neq, binA_lss, binA_leq, binA_gtr, binA_geq, unA_not, Bool.not_true, Bool.not_false, convA_int, extA_tuple, List.getElem?_toArray, List.getElem?_cons_zero, List.getElem?_cons_succ, Int.toNat_natCast, Nat.mul_one]
      refine loadA_at hq hb hcv ?_
      by_cases hc : cb[pre.length] = true
      · simp only [hc, if_true, lenSl_slice, lenStr_string, str_size, fpureA_some, fnilA_ptr, faddA_ptr, addr_add, Nat.zero_add, Nat.add_zero, fpureQ_k, fpureQ_nilA, fpureQ_addA, fpureQ_pureA, fpureQ_guardA, fpureQ_idxSlA, fpureQ_pickA, freadQ_loadA, freadQ_loadNA, freadQ_b2sA, freadQ_guardA, freadQ_slSlA, freadQ_k, fendA, fallA_one, fstillA_nil, fguardA_tt, fguardA_ff, fguardA_tf, fguardA_ft, fguardA_undef, fpickA_true, fpickA_false, fcondA_true, fcondA_false, binA_add, binA_sub, binA_mul, binA_eql, binA_neq, binA_lss, binA_leq, binA_gtr, binA_geq, unA_not, Bool.not_true, Bool.not_false, convA_int, extA_tuple, List.getElem?_toArray, List.getElem?_cons_zero, List.getElem?_cons_succ]
        have c2 : ((1 : Int) == 0) = false := rfl
        simp only [c2, lenSl_slice, lenStr_string, str_size, fpureA_some, fnilA_ptr, faddA_ptr, addr_add, Nat.zero_add, Nat.add_zero, fpureQ_k, fpureQ_nilA, fpureQ_addA, fpureQ_pureA, fpureQ_guardA, fpureQ_idxSlA, fpureQ_pickA, freadQ_loadA, freadQ_loadNA, freadQ_b2sA, freadQ_guardA, freadQ_slSlA, freadQ_k, fendA, fallA_one, fstillA_nil, fguardA_tt, fguardA_ff, fguardA_tf, fguardA_ft, fguardA_undef, fpickA_true, fpickA_false, fcondA_true, fcondA_false, binA_add, binA_sub, binA_mul, binA_eql, binA_neq, binA_lss, binA_leq, binA_gtr, binA_geq, unA_not, Bool.not_true, Bool.not_false, convA_int, extA_tuple, List.getElem?_toArray, List.getElem?_cons_zero, List.getElem?_cons_succ, e6]
        refine go fnd rfl fun e => .inr ?_
        have e3 := (i2 e).1
        subst e3
        exact hc
      · have hc' : cb[pre.length] = false := by simpa using hc
        have c2 : ((0 : Int) == 0) = true := rfl
        simp only [hc', Bool.false_eq_true, if_false, c2, lenSl_slice, lenStr_string, str_size, fpureA_some, fnilA_ptr, faddA_ptr, addr_add, Nat.zero_add, Nat.add_zero, fpureQ_k, fpureQ_nilA, fpureQ_addA, fpureQ_pureA, fpureQ_guardA, fpureQ_idxSlA, fpureQ_pickA, freadQ_loadA, freadQ_loadNA, freadQ_b2sA, freadQ_guardA, freadQ_slSlA, freadQ_k, fendA, fallA_one, fstillA_nil, fguardA_tt, fguardA_ff, fguardA_tf, fguardA_ft, fguardA_undef, fpickA_true, fpickA_false, fcondA_true, fcondA_false, binA_add, binA_sub, binA_mul, binA_eql, binA_neq, binA_lss, binA_leq, binA_gtr, binA_geq, unA_not, Bool.not_true, Bool.not_false, convA_int, extA_tuple, List.getElem?_toArray, List.getElem?_cons_zero, List.getElem?_cons_succ]
        cases fnd with
        | true =>
          simp only [Bool.not_true, lenSl_slice, lenStr_string, str_size, fpureA_some, fnilA_ptr, faddA_ptr, addr_add, Nat.zero_add, Nat.add_zero, fpureQ_k, fpureQ_nilA, fpureQ_addA, fpureQ_pureA, fpureQ_guardA, fpureQ_idxSlA, fpureQ_pickA, freadQ_loadA, freadQ_loadNA, freadQ_b2sA, freadQ_guardA, freadQ_slSlA, freadQ_k, fendA, fallA_one, fstillA_nil, fguardA_tt, fguardA_ff, fguardA_tf, fguardA_ft, fguardA_undef, fpickA_true, fpickA_false, fcondA_true, fcondA_false, binA_add, binA_sub, binA_mul, binA_eql, binA_neq, binA_lss, binA_leq, binA_gtr, binA_geq, unA_not, Bool.not_true, Bool.not_false, convA_int, extA_tuple, List.getElem?_toArray, List.getElem?_cons_zero, List.getElem?_cons_succ, e6]
          exact go true rfl (by simp)
        | false =>
          obtain ⟨rfl, e3⟩ := i2 rfl
          simp only [Bool.not_false, lenSl_slice, lenStr_string, str_size, fpureA_some, fnilA_ptr, faddA_ptr, addr_add, Nat.zero_add, Nat.add_zero, fpureQ_k, fpureQ_nilA, fpureQ_addA, fpureQ_pureA, fpureQ_guardA, fpureQ_idxSlA, fpureQ_pickA, freadQ_loadA, freadQ_loadNA, freadQ_b2sA, freadQ_guardA, freadQ_slSlA, freadQ_k, fendA, fallA_one, fstillA_nil, fguardA_tt, fguardA_ff, fguardA_tf, fguardA_ft, fguardA_undef, fpickA_true, fpickA_false, fcondA_true, fcondA_false, binA_add, binA_sub, binA_mul, binA_eql, binA_neq, binA_lss, binA_leq, binA_gtr, binA_geq, unA_not, Bool.not_true, Bool.not_false, convA_int, extA_tuple, List.getElem?_toArray, List.getElem?_cons_zero, List.getElem?_cons_succ]
          have hset : (cnts cb).set pre.length (.int .i64 1) = cnts (markK s l cb) := by
            rw [← e3, hdr, markK, if_pos ⟨hxs, hc'⟩]
            have : (.int .i64 1 : Value) = .int .i64 (if true = true then 1 else 0) := rfl
            rw [this]
            unfold cnts
            rw [← List.map_set (f := fun b : Bool => (.int .i64 (if b = true then 1 else 0) : Value)) (a := true), List.set_eq_take_append_cons_drop, if_pos (by omega)]
          simp only [idxSlA_iff]
          refine ⟨by omega, by omega, ?_⟩
          simp only [lenSl_slice, lenStr_string, str_size, fpureA_some, fnilA_ptr, faddA_ptr, addr_add, Nat.zero_add, Nat.add_zero, fpureQ_k, fpureQ_nilA, fpureQ_addA, fpureQ_pureA, fpureQ_guardA, fpureQ_idxSlA, fpureQ_pickA, freadQ_loadA, freadQ_loadNA, freadQ_b2sA, freadQ_guardA, freadQ_slSlA, freadQ_k, fendA, fallA_one, fstillA_nil, fguardA_tt, fguardA_ff, fguardA_tf, fguardA_ft, fguardA_undef, fpickA_true, fpickA_false, fcondA_true, fcondA_false, binA_add, binA_sub, binA_mul, binA_eql, binA_neq, binA_lss, binA_leq, binA_gtr, binA_geq, unA_not, Bool.not_true, Bool.not_false, convA_int, extA_tuple, List.getElem?_toArray, List.getElem?_cons_zero, List.getElem?_cons_succ, Int.toNat_natCast, Nat.mul_one]
          refine storeA_at hq hb (by simp [cnts]; omega) rfl ?_
          rw [hset, e6]
          exact ih (pre ++ [x]) _ true _ (by simpa using he) (f1.put hq (f1.lt _ _ hb) (cnts_cell _)) (st.put (by simp) _) (by simp) (fun _ => rfl) (by simp)
    · simp only [decide_eq_false hxs, lenSl_slice, lenStr_string, str_size, fpureA_some, fnilA_ptr, faddA_ptr, addr_add, Nat.zero_add, Nat.add_zero, fpureQ_k, fpureQ_nilA, fpureQ_addA, fpureQ_pureA, fpureQ_guardA, fpureQ_idxSlA, fpureQ_pickA, freadQ_loadA, freadQ_loadNA, freadQ_b2sA, freadQ_guardA, freadQ_slSlA, freadQ_k, fendA, fallA_one, fstillA_nil, fguardA_tt, fguardA_ff, fguardA_tf, fguardA_ft, fguardA_undef, fpickA_true, fpickA_false, fcondA_true, fcondA_false, binA_add, binA_sub, binA_mul, binA_eql, binA_neq, binA_lss, binA_leq, binA_gtr, binA_geq, unA_not, Bool.not_true, Bool.not_false, convA_int, extA_tuple, List.getElem?_toArray, List.getElem?_cons_zero, List.getElem?_cons_succ, e6]
      exact go fnd rfl fun _ => .inl hxs
theorem sorts_pop {k2 : Value → Value → Hp → Prop} {kr : Value → Value → Hp → Prop} {v x2 : Value} {l : List Key} {p q : Nat} (hv : ExtSl w0 1 v l.length (svsK l)) (hl : l.length ≤ 100000000) (hq : w0.heap.size ≤ q)
    (hk : ∀ h' S, Hp_string w0 h' p [] S → Fit w0 h' → k2 x2 (ptr p) h') : ∀ (r i : Nat) (h1 : Hp) (S : List Nat) (xs : List Key) (cs : List Bool) (last : Key), i + r = l.length → xs.length = r → Hp_string w0 h1 p xs S → q ∉ S → h1.blk q = some (cnts cs) → cs.length = l.length → xs.Perm (remK l cs) → (0 < i → ∀ a, a ∈ xs → blt a last = false) → Fit w0 h1 →
      deduplaw10_SeqSorts_L2 prog w0 k2 kr (r + 1) v x2 (ptr p) (.slice (some ⟨q, 0, none⟩) l.length l.length) (.string (str last)) (.int .i64 (l.length : Int)) (.int .i64 (i : Int)) h1 := by
  intro r
  induction r with
  | zero =>
    intro i h1 S xs cs last hi hr m hqS hb hcl hp hla f1
    have : i = l.length := by omega
    subst this
    have hx : xs = [] := List.eq_nil_of_length_eq_zero hr
    subst hx
    rw [deduplaw10_SeqSorts_L2]
    simp only [deduplaw10_SeqSorts_B2, lenSl_slice, lenStr_string, str_size, fpureA_some, fnilA_ptr, faddA_ptr, addr_add, Nat.zero_add, Nat.add_zero, fpureQ_k, fpureQ_nilA, fpureQ_addA, fpureQ_pureA, fpureQ_guardA, fpureQ_idxSlA, fpureQ_pickA, freadQ_loadA, freadQ_loadNA, freadQ_b2sA, freadQ_guardA, freadQ_slSlA, freadQ_k, fendA, fallA_one, fstillA_nil, fguardA_tt, fguardA_ff, fguardA_tf, fguardA_ft, fguardA_undef, fpickA_true, fpickA_false, fcondA_true, fcondA_false, binA_add, binA_sub, binA_mul, binA_eql, binA_neq, binA_lss, binA_leq, binA_gtr, binA_geq, unA_not, Bool.not_true, Bool.not_false, convA_int, extA_tuple, List.getElem?_toArray, List.getElem?_cons_zero, List.getElem?_cons_succ, Int.lt_irrefl, decide_false]
    exact hk h1 S m f1
  | succ r ih =>
    intro i h1 S xs cs last hi hr m hqS hb hcl hp hla f1
    have c1 : decide ((i : Int) < (l.length : Int)) = true := decide_eq_true (by omega)
    have e6 : IntKind.i64.wrap ((i : Int) + 1) = ((i + 1 : Nat) : Int) := by rw [IntWalk.i64_in _ (by omega)]; simp
    obtain ⟨s, hs0⟩ : ∃ s, xs[0]? = some s := ⟨xs[0], List.getElem?_eq_getElem (by omega)⟩
    have hsm := List.mem_of_getElem? hs0
    rw [deduplaw10_SeqSorts_L2]
    simp only [deduplaw10_SeqSorts_B2, lenSl_slice, lenStr_string, str_size, fpureA_some, fnilA_ptr, faddA_ptr, addr_add, Nat.zero_add, Nat.add_zero, fpureQ_k, fpureQ_nilA, fpureQ_addA, fpureQ_pureA, fpureQ_guardA, fpureQ_idxSlA, fpureQ_pickA, freadQ_loadA, freadQ_loadNA, freadQ_b2sA, freadQ_guardA, freadQ_slSlA, freadQ_k, fendA, fallA_one, fstillA_nil, fguardA_tt, fguardA_ff, fguardA_tf, fguardA_ft, fguardA_undef, fpickA_true, fpickA_false, fcondA_true, fcondA_false, binA_add, binA_sub, binA_mul, binA_eql, binA_neq, binA_lss, binA_leq, binA_gtr, binA_geq, unA_not, Bool.not_true, Bool.not_false, convA_int, extA_tuple, List.getElem?_toArray, List.getElem?_cons_zero, List.getElem?_cons_succ, c1]
    refine callA_of (Pop_string m (by omega)) fun _ h2 ⟨_, hpo⟩ f2 => ?_
    obtain ⟨e, S2, m2, s2⟩ := hpo s hs0
    subst e
    have hqn := f1.lt _ _ hb
    have hb2 : h2.blk q = some (cnts cs) := by rw [(s2.keep q hqn hqS).1]; exact hb
    have hqS2 : q ∉ S2 := fun e => by
      rcases (s2.own q e).2 with e | e
      · exact hqS e
      · omega
    have hsr : s ∈ remK l cs := hp.mem_iff.1 hsm
    have hpp := pop_perm (lt := blt) hs0
    have hp2 : (popL blt xs).Perm (remK l (markK s l cs)) := (List.perm_cons s).1 (hpp.trans (hp.trans (mark_perm s l cs hsr).symm))
    have hpl := popL_length (lt := blt) (xs := xs) (by omega)
    have hmin : ∀ a, a ∈ popL blt xs → blt a s = false := fun a ha => m.2.min ord_string hs0 (hpp.mem_iff.1 (by simp [ha]))
    simp only [Bool.not_true, lenSl_slice, lenStr_string, str_size, fpureA_some, fnilA_ptr, faddA_ptr, addr_add, Nat.zero_add, Nat.add_zero, fpureQ_k, fpureQ_nilA, fpureQ_addA, fpureQ_pureA, fpureQ_guardA, fpureQ_idxSlA, fpureQ_pickA, freadQ_loadA, freadQ_loadNA, freadQ_b2sA, freadQ_guardA, freadQ_slSlA, freadQ_k, fendA, fallA_one, fstillA_nil, fguardA_tt, fguardA_ff, fguardA_tf, fguardA_ft, fguardA_undef, fpickA_true, fpickA_false, fcondA_true, fcondA_false, binA_add, binA_sub, binA_mul, binA_eql, binA_neq, binA_lss, binA_leq, binA_gtr, binA_geq, unA_not, Bool.not_true, Bool.not_false, convA_int, extA_tuple, List.getElem?_toArray, List.getElem?_cons_zero, List.getElem?_cons_succ]
    have fin : pureA (lenSl v) (fun v58_33 =>
       deduplaw10_SeqSorts_E3 prog w0 (fun y0_50 y2_51 y3_52 y4_53 y9_54 y11_55 y37_56 y38_57 =>
       pureA (unA .not y11_55) fun v83_58 =>
       condA v83_58 (
       kr (.bool false) y3_52) (
       pureA (binA .add y38_57 (.int .i64 1)) fun v85_59 =>
       deduplaw10_SeqSorts_L2 prog w0 k2 kr (r + 1) y0_50 y2_51 y3_52 y4_53 y9_54 y37_56 v85_59)) v x2 (ptr p) (.slice (some ⟨q, 0, none⟩) l.length l.length) (.string (str s)) (.bool false) (.int .i64 (l.length : Int)) (.int .i64 (i : Int)) v v58_33 (.int .i64 0)) h2 := by
      simp only [(hv.ks h2 f2).lenv, lenSl_slice, lenStr_string, str_size, fpureA_some, fnilA_ptr, faddA_ptr, addr_add, Nat.zero_add, Nat.add_zero, fpureQ_k, fpureQ_nilA, fpureQ_addA, fpureQ_pureA, fpureQ_guardA, fpureQ_idxSlA, fpureQ_pickA, freadQ_loadA, freadQ_loadNA, freadQ_b2sA, freadQ_guardA, freadQ_slSlA, freadQ_k, fendA, fallA_one, fstillA_nil, fguardA_tt, fguardA_ff, fguardA_tf, fguardA_ft, fguardA_undef, fpickA_true, fpickA_false, fcondA_true, fcondA_false, binA_add, binA_sub, binA_mul, binA_eql, binA_neq, binA_lss, binA_leq, binA_gtr, binA_geq, unA_not, Bool.not_true, Bool.not_false, convA_int, extA_tuple, List.getElem?_toArray, List.getElem?_cons_zero, List.getElem?_cons_succ]
      refine ⟨l.length + 1, sorts_find (hh := h2) hv hl hq hcl hsr (fun h3 hb3 f3 s3 => ?_) l [] h2 false cs rfl f2 (.refl _ _ (by simp; exact f2.lt _ _ hb2)) hb2 (by simp) (by simp)⟩
      simp only [Bool.not_true, lenSl_slice, lenStr_string, str_size, fpureA_some, fnilA_ptr, faddA_ptr, addr_add, Nat.zero_add, Nat.add_zero, fpureQ_k, fpureQ_nilA, fpureQ_addA, fpureQ_pureA, fpureQ_guardA, fpureQ_idxSlA, fpureQ_pickA, freadQ_loadA, freadQ_loadNA, freadQ_b2sA, freadQ_guardA, freadQ_slSlA, freadQ_k, fendA, fallA_one, fstillA_nil, fguardA_tt, fguardA_ff, fguardA_tf, fguardA_ft, fguardA_undef, fpickA_true, fpickA_false, fcondA_true, fcondA_false, binA_add, binA_sub, binA_mul, binA_eql, binA_neq, binA_lss, binA_leq, binA_gtr, binA_geq, unA_not, Bool.not_true, Bool.not_false, convA_int, extA_tuple, List.getElem?_toArray, List.getElem?_cons_zero, List.getElem?_cons_succ, e6]
      refine ih (i + 1) h3 S2 _ _ s (by omega) (by omega) (m2.frame s3 (fun b hbS e => by simp at e; subst e; exact hqS2 hbS)) hqS2 hb3 (by rw [mark_len s l cs hcl.symm, hcl]) hp2 (fun _ => hmin) f3
    rcases Nat.eq_zero_or_pos i with h0 | h0
    · have c2 : decide ((0 : Int) < (i : Int)) = false := decide_eq_false (by omega)
      simp only [c2, lenSl_slice, lenStr_string, str_size, fpureA_some, fnilA_ptr, faddA_ptr, addr_add, Nat.zero_add, Nat.add_zero, fpureQ_k, fpureQ_nilA, fpureQ_addA, fpureQ_pureA, fpureQ_guardA, fpureQ_idxSlA, fpureQ_pickA, freadQ_loadA, freadQ_loadNA, freadQ_b2sA, freadQ_guardA, freadQ_slSlA, freadQ_k, fendA, fallA_one, fstillA_nil, fguardA_tt, fguardA_ff, fguardA_tf, fguardA_ft, fguardA_undef, fpickA_true, fpickA_false, fcondA_true, fcondA_false, binA_add, binA_sub, binA_mul, binA_eql, binA_neq, binA_lss, binA_leq, binA_gtr, binA_geq, unA_not, Bool.not_true, Bool.not_false, convA_int, extA_tuple, List.getElem?_toArray, List.getElem?_cons_zero, List.getElem?_cons_succ]
      exact fin
    · have c2 : decide ((0 : Int) < (i : Int)) = true := decide_eq_true (by omega)
      simp only [c2, s_lss, hla h0 s hsm, lenSl_slice, lenStr_string, str_size, fpureA_some, fnilA_ptr, faddA_ptr, addr_add, Nat.zero_add, Nat.add_zero, fpureQ_k, fpureQ_nilA, fpureQ_addA, fpureQ_pureA, fpureQ_guardA, fpureQ_idxSlA, fpureQ_pickA, freadQ_loadA, freadQ_loadNA, freadQ_b2sA, freadQ_guardA, freadQ_slSlA, freadQ_k, fendA, fallA_one, fstillA_nil, fguardA_tt, fguardA_ff, fguardA_tf, fguardA_ft, fguardA_undef, fpickA_true, fpickA_false, fcondA_true, fcondA_false, binA_add, binA_sub, binA_mul, binA_eql, binA_neq, binA_lss, binA_leq, binA_gtr, binA_geq, unA_not, Bool.not_true, Bool.not_false, convA_int, extA_tuple, List.getElem?_toArray, List.getElem?_cons_zero, List.getElem?_cons_succ]
      exact fin
theorem SeqSorts_top {v : Value} {l : List Key} (hv : ExtSl w0 1 v l.length (svsK l)) (hl : l.length ≤ 10000000) : ACalls prog w0 n_deduplaw10_SeqSorts [v] h fun r h' => r = .bool true := by
  refine ACalls.of_fit (by simpa using hv.nj) fun f => c_deduplaw10_SeqSorts (by simpa using hv.nj) ?_
  simp only [s_deduplaw10_SeqSorts]
  refine callA_of NewHeap_string fun r h1 ⟨e, m1, s1⟩ f1 => ?_
  subst e
  refine callA_of awake_spec fun r h2 ⟨e, s2⟩ f2 => ?_
  subst e
  have m2 := m1.frame s2 (by simp)
  have hpl : h.next < h2.next := (m2.1.lt _ (by simp)).2
  generalize h.next = p at *
  have c0 : ∀ p, binPtrA .eql (ptr p) (.pointer none) = some (.bool false) := fun p => rfl
  simp only [Bool.not_true, c0, lenSl_slice, lenStr_string, str_size, fpureA_some, fnilA_ptr, faddA_ptr, addr_add, Nat.zero_add, Nat.add_zero, fpureQ_k, fpureQ_nilA, fpureQ_addA, fpureQ_pureA, fpureQ_guardA, fpureQ_idxSlA, fpureQ_pickA, freadQ_loadA, freadQ_loadNA, freadQ_b2sA, freadQ_guardA, freadQ_slSlA, freadQ_k, fendA, fallA_one, fstillA_nil, fguardA_tt, fguardA_ff, fguardA_tf, fguardA_ft, fguardA_undef, fpickA_true, fpickA_false, fcondA_true, fcondA_false, binA_add, binA_sub, binA_mul, binA_eql, binA_neq, binA_lss, binA_leq, binA_gtr, binA_geq, unA_not, Bool.not_true, Bool.not_false, convA_int, extA_tuple, List.getElem?_toArray, List.getElem?_cons_zero, List.getElem?_cons_succ, (hv.ks h2 f2).lenv]
  have hz : zerosL [(.int .i64 0 : Value)] l.length = cnts (List.replicate l.length false) := by simp [zerosL, cnts]
  refine ⟨.i64, .i64, l.length, l.length, rfl, rfl, Nat.le_refl _, by omega, by omega, ?_⟩
  rw [hz]
  have s3 : Step h2 (h2.new (cnts (List.replicate l.length false)) 1) [] [h2.next] := (Step.refl h2 [] (by simp)).new _ _
  have b3 : (h2.new (cnts (List.replicate l.length false)) 1).blk h2.next = some (cnts (List.replicate l.length false)) := by simp
  have f3 : Fit w0 (h2.new (cnts (List.replicate l.length false)) 1) := f2.new (cnts_cell _)
  have m3 := m2.frame s3 (by simp)
  have hqw := f2.base
  have n3 : h2.next < (h2.new (cnts (List.replicate l.length false)) 1).next := by simp
  generalize h2.next = q at *
  generalize h2.new (cnts (List.replicate l.length false)) 1 = h3 at *
  refine ⟨l.length + 1, sorts_push (hh := h3) hv (by omega) (fun h4 S4 xs m4 hp4 f4 s4 => ?_) l [] h3 [p] [] rfl m3 (.refl _) f3 (.refl _ _ (by simp; omega))⟩
  simp only [(hv.ks h4 f4).lenv, lenSl_slice, lenStr_string, str_size, fpureA_some, fnilA_ptr, faddA_ptr, addr_add, Nat.zero_add, Nat.add_zero, fpureQ_k, fpureQ_nilA, fpureQ_addA, fpureQ_pureA, fpureQ_guardA, fpureQ_idxSlA, fpureQ_pickA, freadQ_loadA, freadQ_loadNA, freadQ_b2sA, freadQ_guardA, freadQ_slSlA, freadQ_k, fendA, fallA_one, fstillA_nil, fguardA_tt, fguardA_ff, fguardA_tf, fguardA_ft, fguardA_undef, fpickA_true, fpickA_false, fcondA_true, fcondA_false, binA_add, binA_sub, binA_mul, binA_eql, binA_neq, binA_lss, binA_leq, binA_gtr, binA_geq, unA_not, Bool.not_true, Bool.not_false, convA_int, extA_tuple, List.getElem?_toArray, List.getElem?_cons_zero, List.getElem?_cons_succ]
  have hb4 : h4.blk q = some (cnts (List.replicate l.length false)) := by rw [(s4.keep q n3 (by simp; omega)).1]; exact b3
  have hq4 : q ∉ S4 := fun e => by
    rcases (s4.own q e).2 with e | e
    · simp at e; omega
    · omega
  refine ⟨l.length + 1, sorts_pop hv (by omega) hqw (fun h5 S5 m5 f5 => ?_) l.length 0 h4 S4 xs _ [] (by omega) hp4.length_eq m4 hq4 hb4 (by simp) (by rw [rem_none]; exact hp4) (by simp) f4⟩
  refine callA_of (Pop_string m5 (by simp)) fun _ h6 ⟨e, _⟩ f6 => ?_
  obtain ⟨e, e'⟩ := e rfl
  subst e e'
  simp only [Bool.not_false, lenSl_slice, lenStr_string, str_size, fpureA_some, fnilA_ptr, faddA_ptr, addr_add, Nat.zero_add, Nat.add_zero, fpureQ_k, fpureQ_nilA, fpureQ_addA, fpureQ_pureA, fpureQ_guardA, fpureQ_idxSlA, fpureQ_pickA, freadQ_loadA, freadQ_loadNA, freadQ_b2sA, freadQ_guardA, freadQ_slSlA, freadQ_k, fendA, fallA_one, fstillA_nil, fguardA_tt, fguardA_ff, fguardA_tf, fguardA_ft, fguardA_undef, fpickA_true, fpickA_false, fcondA_true, fcondA_false, binA_add, binA_sub, binA_mul, binA_eql, binA_neq, binA_lss, binA_leq, binA_gtr, binA_geq, unA_not, Bool.not_true, Bool.not_false, convA_int, extA_tuple, List.getElem?_toArray, List.getElem?_cons_zero, List.getElem?_cons_succ]
  refine callA_of (Len_string m5) fun _ h6 ⟨e, e'⟩ f6 => ?_
  subst e e'
  simp only [List.length_nil, lenSl_slice, lenStr_string, str_size, fpureA_some, fnilA_ptr, faddA_ptr, addr_add, Nat.zero_add, Nat.add_zero, fpureQ_k, fpureQ_nilA, fpureQ_addA, fpureQ_pureA, fpureQ_guardA, fpureQ_idxSlA, fpureQ_pickA, freadQ_loadA, freadQ_loadNA, freadQ_b2sA, freadQ_guardA, freadQ_slSlA, freadQ_k, fendA, fallA_one, fstillA_nil, fguardA_tt, fguardA_ff, fguardA_tf, fguardA_ft, fguardA_undef, fpickA_true, fpickA_false, fcondA_true, fcondA_false, binA_add, binA_sub, binA_mul, binA_eql, binA_neq, binA_lss, binA_leq, binA_gtr, binA_geq, unA_not, Bool.not_true, Bool.not_false, convA_int, extA_tuple, List.getElem?_toArray, List.getElem?_cons_zero, List.getElem?_cons_succ, retA_iff, oneOf_one]
  simp
end
end Go.Proofs.Ytpdpponbhejlpaa.Ah
