/- RunTurned, plain: turned bits of a block are told. -/
import Derived.Test.YthjpddggnhgjhaaExg
import Derived.Test.YthjpddggnhgjhaaKxc
set_option linter.unusedVariables false
set_option linter.unusedSimpArgs false
set_option linter.constructorNameAsVariable false
namespace Go.Proofs.Ythjpddggnhgjhaa.Ah
open Go
/-- What a run's end says: the size of blocks, entries, blocks, where the index is. -/
def ftB (b : List UInt8) : Nat × Nat × Nat × Nat :=
  (rdn ((⟨b.drop (b.length - 24), 0⟩ : RS).raw 4).1, rdn (((⟨b.drop (b.length - 24), 0⟩ : RS).raw 4).2.raw 4).1, rdn ((((⟨b.drop (b.length - 24), 0⟩ : RS).raw 4).2.raw 4).2.raw 4).1, rdn (((((⟨b.drop (b.length - 24), 0⟩ : RS).raw 4).2.raw 4).2.raw 4).2.raw 4).1)
theorem prs_ft {b : List UInt8} {q : List Ent × Nat × Nat} (h : prs b = some q) : q.2.1 = (ftB b).1 ∧ q.1.length = (ftB b).2.1 ∧ q.2.2 = (ftB b).2.2.1 := by
  unfold prs at h
  split at h
  · cases h
  · simp only at h
    split at h
    · cases h
    · split at h
      · cases h
      · split at h
        · rename_i hq
          have := Option.some.inj h
          rw [← this]
          exact ⟨rfl, hq, rfl⟩
        · cases h
theorem ft_bld {block : Nat} {l : List Ent} (hb : block < 4294967296) (hr : ∀ x, x ∈ l → rightE x = true) (hl : l.length < 4294967296) (ho : (outB (grp block l)).length < 4294967296) : ftB (bld block l) = (block, l.length, (grp block l).length, (outB (grp block l)).length) := by
  have hlen := bld_len block l
  have hgl := grp_len_le block l
  have h4 : ∀ n, n < 4294967296 → rdn (be 4 n) = n := fun n hn => by rw [rdn_be, Nat.mod_eq_of_lt (by omega)]
  generalize hG : grp block l = G at *
  have e1 : bld block l = (outB G ++ idx 0 G) ++ (foot block l.length G.length (outB G).length ++ (be 4 (crcOf (tailB block l)) ++ drun)) := by
    rw [bld, tailB, hG]; simp
  have hL : (outB G ++ idx 0 G).length = (bld block l).length - 24 := by rw [hlen]; simp
  have hd : (bld block l).drop ((bld block l).length - 24) = foot block l.length G.length (outB G).length ++ (be 4 (crcOf (tailB block l)) ++ drun) := by
    conv => lhs; arg 2; rw [e1]
    exact List.drop_left' hL
  unfold ftB
  simp only [hd, foot, List.append_assoc]
  rw [show ((4 : Int)) = ((4 : Nat) : Int) from rfl]
  simp only [bk_num, h4 block hb, h4 l.length hl, h4 G.length (by omega), h4 (outB G).length ho]
theorem drop_end (A R : List UInt8) (k : Nat) (hk : k ≤ R.length) : (A ++ R).drop ((A ++ R).length - k) = R.drop (R.length - k) := by
  rw [List.length_append, show A.length + R.length - k = A.length + (R.length - k) by omega, List.drop_append, List.drop_of_length_le (by omega), List.nil_append, Nat.add_sub_cancel_left]
theorem grp_one {block : Nat} {l : List Ent} (h : (grp block l).length = 1) : grp block l = [l] := by
  have hf := grp_flat block l
  match hg : grp block l with
  | [] => rw [hg] at h; simp at h
  | [g] => rw [hg] at hf; simp at hf; rw [hf]
  | a :: b :: c => rw [hg] at h; simp at h
/-- What is turned in a run of one block is told. -/
theorem turned_opn {l : List Ent} {B' rest : List UInt8} {p w : Nat} (hz : bldE ((4096 : Nat) : Int) l = 0) (hl : l.length ≤ 2000000) (h1 : (grp 4096 l).length = 1) (hb : bldR ((4096 : Nat) : Int) l = enc l ++ rest) (hB : B'.length = (enc l).length) (hp : p ≤ 8 * (enc l).length)
    (hw : w < 4294967296) (hle : leN B' = leN (enc l) ^^^ 2 ^ p * w) (hw0 : w ≠ 0) : opn (B' ++ rest) = none := by
  cases hO : opn (B' ++ rest) with
  | none => rfl
  | some q =>
    exfalso
    apply hw0
    unfold opn at hO
    cases hp' : prs (B' ++ rest) with
    | none => rw [hp'] at hO; simp at hO
    | some t =>
      obtain ⟨l', bl, n⟩ := t
      rw [hp'] at hO
      simp only at hO
      split at hO
      · rename_i hq
        obtain ⟨z1, z2⟩ := hq
        clear hO
        obtain ⟨k1, k2, k3⟩ := bldE_ok hz
        obtain ⟨y1, y2, y3⟩ := bld_le (block := 4096) (chkF_right k3) hl
        have hR : bldR ((4096 : Nat) : Int) l = bld 4096 l := by unfold bldR; rw [if_pos hz, Int.toNat_natCast]
        have hf := ft_bld (block := 4096) (l := l) (by omega) (chkF_right k3) (by omega) (by omega)
        have hbl := bld_len 4096 l
        have hg := grp_one h1
        have ho1 : (outB (grp 4096 l)).length = (enc l).length + 4 := by rw [hg, outB_len_one]
        have hrl : (enc l ++ rest).length = (outB (grp 4096 l)).length + (idx 0 (grp 4096 l)).length + 24 := by rw [← hb, hR]; exact hbl
        have hr28 : 28 ≤ rest.length := by rw [List.length_append] at hrl; omega
        -- the same end
        have hsame : ftB (B' ++ rest) = ftB (enc l ++ rest) := by
          have e1 := drop_end B' rest 24 (by omega)
          have e2 := drop_end (enc l) rest 24 (by omega)
          unfold ftB
          rw [e1, e2]
        rw [← hb, hR, hf] at hsame
        obtain ⟨f1, f2, f3⟩ := prs_ft hp'
        rw [hsame] at f1 f2 f3
        simp only at f1 f2 f3
        subst f1
        obtain ⟨j1, j2, j3⟩ := bldE_ok z1
        have hR' : bldR ((4096 : Nat) : Int) l' = bld 4096 l' := by unfold bldR; rw [if_pos z1, Int.toNat_natCast]
        obtain ⟨x1, x2, x3⟩ := bld_le (block := 4096) (chkF_right j3) (by omega)
        have hf' := ft_bld (block := 4096) (l := l') (by omega) (chkF_right j3) (by omega) (by omega)
        rw [← hR', z2, hsame] at hf'
        have g3 : (grp 4096 l').length = 1 := by
          have := congrArg (·.2.2.1) hf'
          simp only at this
          omega
        have g4 : (outB (grp 4096 l')).length = (outB (grp 4096 l)).length := (congrArg (·.2.2.2) hf').symm
        have hg' := grp_one g3
        rw [hg', hg, outB_len_one, outB_len_one] at g4
        have hb2 : bld 4096 l = enc l ++ (be 4 (crcOf (enc l)) ++ (tailB 4096 l ++ (be 4 (crcOf (tailB 4096 l)) ++ drun))) := by rw [bld, hg, outB_one, List.append_assoc]
        have hb3 : bld 4096 l' = enc l' ++ (be 4 (crcOf (enc l')) ++ (tailB 4096 l' ++ (be 4 (crcOf (tailB 4096 l')) ++ drun))) := by rw [bld, hg', outB_one, List.append_assoc]
        rw [← hR, hb] at hb2
        have hrest := List.append_cancel_left hb2
        rw [← hR', z2, hrest] at hb3
        obtain ⟨u1, u2⟩ := List.append_inj hb3 (by omega)
        obtain ⟨u3, u4⟩ := List.append_inj u2 (by simp)
        have hc1 := crcOf_lt (enc l)
        have hc2 := crcOf_lt (enc l')
        have u5 : crcOf (enc l) = crcOf (enc l') := by
          have := congrArg rdn u3
          rwa [rdn_be, rdn_be, Nat.mod_eq_of_lt (by omega), Nat.mod_eq_of_lt (by omega)] at this
        rw [← u1] at u5
        exact crc_tells (hd := []) (b := enc l) (b' := B') hB hp hle hw (by simpa using u5.symm)
      · cases hO
section
variable {w0 : World} {h h' : Hp}
theorem tn_shared {k2 : Value → Value → Value → Value → Value → Value → Value → Value → Value → Hp → Prop} {x1 x2 x7 x9 x51 x52 x53 : Value} {q : Nat} {x : Ent} {a : Key} (hq : w0.heap.size ≤ q) (hb : h.blk q = some (ee x)) (hl : x.k.length ≤ 1000000000)
    (hk : k2 x1 x2 x7 x9 (ptr q) (.int .i64 (shd x.k a : Int)) x51 x52 x53 h) : ∀ (m n : Nat), n + m = x.k.length → shd x.k a = n + shd (x.k.drop n) (a.drop n) →
      deduplaw12_RunTurned_L2 prog w0 k2 (m + 1) x1 x2 x7 x9 (.string (str a)) (ptr q) (.int .i64 (n : Int)) x51 x52 x53 h := by
  intro m
  induction m with
  | zero =>
    intro n hn he
    have c1 : decide ((n : Int) < (x.k.length : Int)) = false := decide_eq_false (by omega)
    rw [deduplaw12_RunTurned_L2]
    simp only [deduplaw12_RunTurned_B2, ptr, lenSl_slice, lenStr_string, str_size, fpureA_some, fnilA_ptr, faddA_ptr, addr_add, Nat.zero_add, Nat.add_zero, fpureQ_k, fpureQ_nilA, fpureQ_addA, fpureQ_pureA, fpureQ_guardA, fpureQ_idxSlA, fpureQ_pickA, freadQ_loadA, freadQ_loadNA, freadQ_b2sA, freadQ_guardA, freadQ_slSlA, freadQ_k, fendA, fallA_one, fstillA_nil, fguardA_tt, fguardA_ff, fguardA_tf, fguardA_ft, fguardA_undef, fpickA_true, fpickA_false, fcondA_true, fcondA_false, binA_add, binA_sub, binA_mul, binA_eql, binA_neq, binA_lss, binA_leq, binA_gtr, binA_geq, unA_not, Bool.not_true, Bool.not_false, convA_int, extA_tuple, List.getElem?_toArray, List.getElem?_cons_zero, List.getElem?_cons_succ]
    refine loadA_at hq hb rfl ?_
    simp only [lenSl_slice, lenStr_string, str_size, fpureA_some, fnilA_ptr, faddA_ptr, addr_add, Nat.zero_add, Nat.add_zero, fpureQ_k, fpureQ_nilA, fpureQ_addA, fpureQ_pureA, fpureQ_guardA, fpureQ_idxSlA, fpureQ_pickA, freadQ_loadA, freadQ_loadNA, freadQ_b2sA, freadQ_guardA, freadQ_slSlA, freadQ_k, fendA, fallA_one, fstillA_nil, fguardA_tt, fguardA_ff, fguardA_tf, fguardA_ft, fguardA_undef, fpickA_true, fpickA_false, fcondA_true, fcondA_false, binA_add, binA_sub, binA_mul, binA_eql, binA_neq, binA_lss, binA_leq, binA_gtr, binA_geq, unA_not, Bool.not_true, Bool.not_false, convA_int, extA_tuple, List.getElem?_toArray, List.getElem?_cons_zero, List.getElem?_cons_succ, c1]
    have : x.k.drop n = [] := List.drop_of_length_le (by omega)
    rw [he, this] at hk
    simpa [shd, ptr] using hk
  | succ m ih =>
    intro n hn he
    have c1 : decide ((n : Int) < (x.k.length : Int)) = true := decide_eq_true (by omega)
    have e6 : IntKind.i64.wrap ((n : Int) + 1) = ((n + 1 : Nat) : Int) := by rw [IntWalk.i64_in _ (by omega)]; simp
    have ha : x.k[n]? = some x.k[n] := List.getElem?_eq_getElem (by omega)
    have hda : x.k.drop n = x.k[n] :: x.k.drop (n + 1) := List.drop_eq_getElem_cons (by omega)
    rw [deduplaw12_RunTurned_L2]
    simp only [deduplaw12_RunTurned_B2, ptr, lenSl_slice, lenStr_string, str_size, fpureA_some, fnilA_ptr, faddA_ptr, addr_add, Nat.zero_add, Nat.add_zero, fpureQ_k, fpureQ_nilA, fpureQ_addA, fpureQ_pureA, fpureQ_guardA, fpureQ_idxSlA, fpureQ_pickA, freadQ_loadA, freadQ_loadNA, freadQ_b2sA, freadQ_guardA, freadQ_slSlA, freadQ_k, fendA, fallA_one, fstillA_nil, fguardA_tt, fguardA_ff, fguardA_tf, fguardA_ft, fguardA_undef, fpickA_true, fpickA_false, fcondA_true, fcondA_false, binA_add, binA_sub, binA_mul, binA_eql, binA_neq, binA_lss, binA_leq, binA_gtr, binA_geq, unA_not, Bool.not_true, Bool.not_false, convA_int, extA_tuple, List.getElem?_toArray, List.getElem?_cons_zero, List.getElem?_cons_succ]
    refine loadA_at hq hb rfl ?_
    simp only [lenSl_slice, lenStr_string, str_size, fpureA_some, fnilA_ptr, faddA_ptr, addr_add, Nat.zero_add, Nat.add_zero, fpureQ_k, fpureQ_nilA, fpureQ_addA, fpureQ_pureA, fpureQ_guardA, fpureQ_idxSlA, fpureQ_pickA, freadQ_loadA, freadQ_loadNA, freadQ_b2sA, freadQ_guardA, freadQ_slSlA, freadQ_k, fendA, fallA_one, fstillA_nil, fguardA_tt, fguardA_ff, fguardA_tf, fguardA_ft, fguardA_undef, fpickA_true, fpickA_false, fcondA_true, fcondA_false, binA_add, binA_sub, binA_mul, binA_eql, binA_neq, binA_lss, binA_leq, binA_gtr, binA_geq, unA_not, Bool.not_true, Bool.not_false, convA_int, extA_tuple, List.getElem?_toArray, List.getElem?_cons_zero, List.getElem?_cons_succ, c1]
    by_cases hab : n < a.length
    · have c2 : decide ((n : Int) < (a.length : Int)) = true := decide_eq_true (by omega)
      have hg : a[n]? = some a[n] := List.getElem?_eq_getElem hab
      have hdb : a.drop n = a[n] :: a.drop (n + 1) := List.drop_eq_getElem_cons hab
      simp only [lenSl_slice, lenStr_string, str_size, fpureA_some, fnilA_ptr, faddA_ptr, addr_add, Nat.zero_add, Nat.add_zero, fpureQ_k, fpureQ_nilA, fpureQ_addA, fpureQ_pureA, fpureQ_guardA, fpureQ_idxSlA, fpureQ_pickA, freadQ_loadA, freadQ_loadNA, freadQ_b2sA, freadQ_guardA, freadQ_slSlA, freadQ_k, fendA, fallA_one, fstillA_nil, fguardA_tt, fguardA_ff, fguardA_tf, fguardA_ft, fguardA_undef, fpickA_true, fpickA_false, fcondA_true, fcondA_false, binA_add, binA_sub, binA_mul, binA_eql, binA_neq, binA_lss, binA_leq, binA_gtr, binA_geq, unA_not, Bool.not_true, Bool.not_false, convA_int, extA_tuple, List.getElem?_toArray, List.getElem?_cons_zero, List.getElem?_cons_succ, c2]
      refine loadA_at hq hb rfl ?_
      simp only [strIdxA_str, ha, hg, Option.map_some, bv, lenSl_slice, lenStr_string, str_size, fpureA_some, fnilA_ptr, faddA_ptr, addr_add, Nat.zero_add, Nat.add_zero, fpureQ_k, fpureQ_nilA, fpureQ_addA, fpureQ_pureA, fpureQ_guardA, fpureQ_idxSlA, fpureQ_pickA, freadQ_loadA, freadQ_loadNA, freadQ_b2sA, freadQ_guardA, freadQ_slSlA, freadQ_k, fendA, fallA_one, fstillA_nil, fguardA_tt, fguardA_ff, fguardA_tf, fguardA_ft, fguardA_undef, fpickA_true, fpickA_false, fcondA_true, fcondA_false, binA_add, binA_sub, binA_mul, binA_eql, binA_neq, binA_lss, binA_leq, binA_gtr, binA_geq, unA_not, Bool.not_true, Bool.not_false, convA_int, extA_tuple, List.getElem?_toArray, List.getElem?_cons_zero, List.getElem?_cons_succ]
      rw [hda, hdb, shd] at he
      by_cases hxy : x.k[n] = a[n]
      · have c3 : ((x.k[n].toNat : Int) == (a[n].toNat : Int)) = true := by rw [hxy]; simp
        simp only [c3, lenSl_slice, lenStr_string, str_size, fpureA_some, fnilA_ptr, faddA_ptr, addr_add, Nat.zero_add, Nat.add_zero, fpureQ_k, fpureQ_nilA, fpureQ_addA, fpureQ_pureA, fpureQ_guardA, fpureQ_idxSlA, fpureQ_pickA, freadQ_loadA, freadQ_loadNA, freadQ_b2sA, freadQ_guardA, freadQ_slSlA, freadQ_k, fendA, fallA_one, fstillA_nil, fguardA_tt, fguardA_ff, fguardA_tf, fguardA_ft, fguardA_undef, fpickA_true, fpickA_false, fcondA_true, fcondA_false, binA_add, binA_sub, binA_mul, binA_eql, binA_neq, binA_lss, binA_leq, binA_gtr, binA_geq, unA_not, Bool.not_true, Bool.not_false, convA_int, extA_tuple, List.getElem?_toArray, List.getElem?_cons_zero, List.getElem?_cons_succ, e6]
        rw [if_pos hxy] at he
        exact ih (n + 1) (by omega) (by omega)
      · have c3 : ((x.k[n].toNat : Int) == (a[n].toNat : Int)) = false := by
          rw [beq_eq_false_iff_ne]
          intro q
          exact hxy (UInt8.toNat_inj.1 (by omega))
        simp only [c3, lenSl_slice, lenStr_string, str_size, fpureA_some, fnilA_ptr, faddA_ptr, addr_add, Nat.zero_add, Nat.add_zero, fpureQ_k, fpureQ_nilA, fpureQ_addA, fpureQ_pureA, fpureQ_guardA, fpureQ_idxSlA, fpureQ_pickA, freadQ_loadA, freadQ_loadNA, freadQ_b2sA, freadQ_guardA, freadQ_slSlA, freadQ_k, fendA, fallA_one, fstillA_nil, fguardA_tt, fguardA_ff, fguardA_tf, fguardA_ft, fguardA_undef, fpickA_true, fpickA_false, fcondA_true, fcondA_false, binA_add, binA_sub, binA_mul, binA_eql, binA_neq, binA_lss, binA_leq, binA_gtr, binA_geq, unA_not, Bool.not_true, Bool.not_false, convA_int, extA_tuple, List.getElem?_toArray, List.getElem?_cons_zero, List.getElem?_cons_succ]
        rw [if_neg hxy, Nat.add_zero] at he
        rw [he] at hk
        exact hk
    · have c2 : decide ((n : Int) < (a.length : Int)) = false := decide_eq_false (by omega)
      simp only [lenSl_slice, lenStr_string, str_size, fpureA_some, fnilA_ptr, faddA_ptr, addr_add, Nat.zero_add, Nat.add_zero, fpureQ_k, fpureQ_nilA, fpureQ_addA, fpureQ_pureA, fpureQ_guardA, fpureQ_idxSlA, fpureQ_pickA, freadQ_loadA, freadQ_loadNA, freadQ_b2sA, freadQ_guardA, freadQ_slSlA, freadQ_k, fendA, fallA_one, fstillA_nil, fguardA_tt, fguardA_ff, fguardA_tf, fguardA_ft, fguardA_undef, fpickA_true, fpickA_false, fcondA_true, fcondA_false, binA_add, binA_sub, binA_mul, binA_eql, binA_neq, binA_lss, binA_leq, binA_gtr, binA_geq, unA_not, Bool.not_true, Bool.not_false, convA_int, extA_tuple, List.getElem?_toArray, List.getElem?_cons_zero, List.getElem?_cons_succ, c2]
      have : a.drop n = [] := List.drop_of_length_le (by omega)
      rw [this] at he
      have hsh : shd (x.k.drop n) [] = 0 := by cases x.k.drop n <;> rfl
      rw [hsh, Nat.add_zero] at he
      rw [he] at hk
      exact hk
theorem tn_sizes {k0 : Value → Value → Value → Value → Hp → Prop} {v x1 x2 x7 : Value} {l : List Ent} {hh : Hp} (hx : ExtSl w0 3 v l.length (l.flatMap ee)) (hl : entsz l ≤ 1048576)
    (hk : ∀ h', Fit w0 h' → Step hh h' [] [] → k0 x1 x2 x7 (.int .i64 ((enc l).length : Int)) h') : ∀ (post pre : List Ent) (h1 : Hp), pre ++ post = l → Fit w0 h1 → Step hh h1 [] [] →
      deduplaw12_RunTurned_L1 prog w0 k0 (post.length + 1) x1 x2 x7 (.int .i64 ((enc pre).length : Int)) (.string (str (lastk pre))) v (.int .i64 (l.length : Int)) (.int .i64 (pre.length : Int)) h1 := by
  have h4 := entsz_len l
  intro post
  induction post with
  | nil =>
    intro pre h1 he f1 st
    have hpre : pre = l := by simpa using he
    subst hpre
    rw [List.length_nil, deduplaw12_RunTurned_L1]
    simp only [deduplaw12_RunTurned_B1, lenSl_slice, lenStr_string, str_size, fpureA_some, fnilA_ptr, faddA_ptr, addr_add, Nat.zero_add, Nat.add_zero, fpureQ_k, fpureQ_nilA, fpureQ_addA, fpureQ_pureA, fpureQ_guardA, fpureQ_idxSlA, fpureQ_pickA, freadQ_loadA, freadQ_loadNA, freadQ_b2sA, freadQ_guardA, freadQ_slSlA, freadQ_k, fendA, fallA_one, fstillA_nil, fguardA_tt, fguardA_ff, fguardA_tf, fguardA_ft, fguardA_undef, fpickA_true, fpickA_false, fcondA_true, fcondA_false, binA_add, binA_sub, binA_mul, binA_eql, binA_neq, binA_lss, binA_leq, binA_gtr, binA_geq, unA_not, Bool.not_true, Bool.not_false, convA_int, extA_tuple, List.getElem?_toArray, List.getElem?_cons_zero, List.getElem?_cons_succ, Int.lt_irrefl, decide_false]
    exact hk h1 f1 st
  | cons x post ih =>
    intro pre h1 he f1 st
    have hlen : pre.length + (post.length + 1) = l.length := by rw [← he]; simp
    have hg : l[pre.length]? = some x := by rw [← he]; simp
    have c1 : decide ((pre.length : Int) < (l.length : Int)) = true := decide_eq_true (by omega)
    have e6 : IntKind.i64.wrap ((pre.length : Int) + 1) = (((pre ++ [x]).length : Nat) : Int) := by rw [IntWalk.i64_in _ (by omega)]; simp
    have hzc : ∀ v, v ∈ zE → isCell v = true := by simp [zE, isCell]
    have hes : entsz pre + (x.k.length + x.v.length + 4) + entsz post = entsz l := by rw [← he, entsz_append, entsz_cons]; omega
    have hel : (enc pre).length ≤ entsz pre := encL_le pre []
    have hsn : (enc (pre ++ [x])).length = (enc pre).length + (4 + (x.k.length - shd (lastk pre) x.k) + x.v.length) := by
      rw [show enc (pre ++ [x]) = encL [] (pre ++ [x]) from rfl, encL_snoc, List.length_append, eb_len]
    obtain ⟨sh1, sh2, -⟩ := shd_le (lastk pre) x.k
    rw [List.length_cons, deduplaw12_RunTurned_L1]
    simp only [deduplaw12_RunTurned_B1, lenSl_slice, lenStr_string, str_size, fpureA_some, fnilA_ptr, faddA_ptr, addr_add, Nat.zero_add, Nat.add_zero, fpureQ_k, fpureQ_nilA, fpureQ_addA, fpureQ_pureA, fpureQ_guardA, fpureQ_idxSlA, fpureQ_pickA, freadQ_loadA, freadQ_loadNA, freadQ_b2sA, freadQ_guardA, freadQ_slSlA, freadQ_k, fendA, fallA_one, fstillA_nil, fguardA_tt, fguardA_ff, fguardA_tf, fguardA_ft, fguardA_undef, fpickA_true, fpickA_false, fcondA_true, fcondA_false, binA_add, binA_sub, binA_mul, binA_eql, binA_neq, binA_lss, binA_leq, binA_gtr, binA_geq, unA_not, Bool.not_true, Bool.not_false, convA_int, extA_tuple, List.getElem?_toArray, List.getElem?_cons_zero, List.getElem?_cons_succ, c1]
    refine (hx.sl' f1 (es_length l)).elem (by omega) (es_get hg) ?_
    have fb := f1.base
    refine boxN fb rfl rfl hzc ?_
    have sx : Step h1 (h1.new (ee x) 3) [] [h1.next] := (Step.refl h1 [] (by simp)).new _ _
    have bx : (h1.new (ee x) 3).blk h1.next = some (ee x) := by simp
    have fx : Fit w0 (h1.new (ee x) 3) := f1.new (by simp [ee, isCell])
    have stx : Step hh (h1.new (ee x) 3) [] [] := st.trans (sx.less (by simp))
    generalize h1.new (ee x) 3 = hx1 at *
    refine ⟨x.k.length + 1, tn_shared (a := lastk pre) fb bx (by omega) ?_ x.k.length 0 (by omega) (by simp)⟩
    rw [shd_comm]
    have a1 : IntKind.i64.wrap (4 + (x.k.length : Int)) = ((4 + x.k.length : Nat) : Int) := by rw [IntWalk.i64_in _ (by omega)]; simp
    have a2 : IntKind.i64.wrap (((4 + x.k.length : Nat) : Int) - (shd (lastk pre) x.k : Int)) = ((4 + x.k.length - shd (lastk pre) x.k : Nat) : Int) := by rw [IntWalk.i64_in _ (by omega)]; omega
    have a3 : IntKind.i64.wrap (((4 + x.k.length - shd (lastk pre) x.k : Nat) : Int) + (x.v.length : Int)) = ((4 + (x.k.length - shd (lastk pre) x.k) + x.v.length : Nat) : Int) := by rw [IntWalk.i64_in _ (by omega)]; omega
    have a4 : IntKind.i64.wrap (((enc pre).length : Int) + ((4 + (x.k.length - shd (lastk pre) x.k) + x.v.length : Nat) : Int)) = ((enc (pre ++ [x])).length : Int) := by rw [hsn, IntWalk.i64_in _ (by omega)]; omega
    simp only [ptr, lenSl_slice, lenStr_string, str_size, fpureA_some, fnilA_ptr, faddA_ptr, addr_add, Nat.zero_add, Nat.add_zero, fpureQ_k, fpureQ_nilA, fpureQ_addA, fpureQ_pureA, fpureQ_guardA, fpureQ_idxSlA, fpureQ_pickA, freadQ_loadA, freadQ_loadNA, freadQ_b2sA, freadQ_guardA, freadQ_slSlA, freadQ_k, fendA, fallA_one, fstillA_nil, fguardA_tt, fguardA_ff, fguardA_tf, fguardA_ft, fguardA_undef, fpickA_true, fpickA_false, fcondA_true, fcondA_false, binA_add, binA_sub, binA_mul, binA_eql, binA_neq, binA_lss, binA_leq, binA_gtr, binA_geq, unA_not, Bool.not_true, Bool.not_false, convA_int, extA_tuple, List.getElem?_toArray, List.getElem?_cons_zero, List.getElem?_cons_succ]
    refine loadA_at fb bx rfl ?_
    simp only [a1, a2, lenSl_slice, lenStr_string, str_size, fpureA_some, fnilA_ptr, faddA_ptr, addr_add, Nat.zero_add, Nat.add_zero, fpureQ_k, fpureQ_nilA, fpureQ_addA, fpureQ_pureA, fpureQ_guardA, fpureQ_idxSlA, fpureQ_pickA, freadQ_loadA, freadQ_loadNA, freadQ_b2sA, freadQ_guardA, freadQ_slSlA, freadQ_k, fendA, fallA_one, fstillA_nil, fguardA_tt, fguardA_ff, fguardA_tf, fguardA_ft, fguardA_undef, fpickA_true, fpickA_false, fcondA_true, fcondA_false, binA_add, binA_sub, binA_mul, binA_eql, binA_neq, binA_lss, binA_leq, binA_gtr, binA_geq, unA_not, Bool.not_true, Bool.not_false, convA_int, extA_tuple, List.getElem?_toArray, List.getElem?_cons_zero, List.getElem?_cons_succ]
    refine loadA_at fb bx rfl ?_
    simp only [a3, a4, lenSl_slice, lenStr_string, str_size, fpureA_some, fnilA_ptr, faddA_ptr, addr_add, Nat.zero_add, Nat.add_zero, fpureQ_k, fpureQ_nilA, fpureQ_addA, fpureQ_pureA, fpureQ_guardA, fpureQ_idxSlA, fpureQ_pickA, freadQ_loadA, freadQ_loadNA, freadQ_b2sA, freadQ_guardA, freadQ_slSlA, freadQ_k, fendA, fallA_one, fstillA_nil, fguardA_tt, fguardA_ff, fguardA_tf, fguardA_ft, fguardA_undef, fpickA_true, fpickA_false, fcondA_true, fcondA_false, binA_add, binA_sub, binA_mul, binA_eql, binA_neq, binA_lss, binA_leq, binA_gtr, binA_geq, unA_not, Bool.not_true, Bool.not_false, convA_int, extA_tuple, List.getElem?_toArray, List.getElem?_cons_zero, List.getElem?_cons_succ]
    refine loadA_at fb bx rfl ?_
    simp only [e6, lenSl_slice, lenStr_string, str_size, fpureA_some, fnilA_ptr, faddA_ptr, addr_add, Nat.zero_add, Nat.add_zero, fpureQ_k, fpureQ_nilA, fpureQ_addA, fpureQ_pureA, fpureQ_guardA, fpureQ_idxSlA, fpureQ_pickA, freadQ_loadA, freadQ_loadNA, freadQ_b2sA, freadQ_guardA, freadQ_slSlA, freadQ_k, fendA, fallA_one, fstillA_nil, fguardA_tt, fguardA_ff, fguardA_tf, fguardA_ft, fguardA_undef, fpickA_true, fpickA_false, fcondA_true, fcondA_false, binA_add, binA_sub, binA_mul, binA_eql, binA_neq, binA_lss, binA_leq, binA_gtr, binA_geq, unA_not, Bool.not_true, Bool.not_false, convA_int, extA_tuple, List.getElem?_toArray, List.getElem?_cons_zero, List.getElem?_cons_succ]
    have := ih (pre ++ [x]) hx1 (by simpa using he) fx stx
    rw [lastk_snoc] at this
    exact this
theorem tn_turn {k4 : Value → Value → Hp → Prop} {q p t : Nat} {b rest : List UInt8} (hb : b.length ≤ 100000000) (hr : rest.length ≤ 100000000) (hp : p < 8 * b.length) (ht : t < 4294967296) (hq : w0.heap.size ≤ q) : ∀ (m i w : Nat) (b' : List UInt8) (h : Hp), i + m = 32 → q < h.next →
    h.blk q = some (bvs (b' ++ rest)) → h.esz q = 1 → b'.length = b.length → w < 2 ^ i → leN b' = leN b ^^^ 2 ^ p * w →
    (∀ w b' h', Step h h' [q] [q] → h'.blk q = some (bvs (b' ++ rest)) → h'.esz q = 1 → b'.length = b.length → w < 4294967296 → leN b' = leN b ^^^ 2 ^ p * w → k4 (.slice (some ⟨q, 0, none⟩) (b.length + rest.length) ucap) (.bool (decide (w ≠ 0))) h') →
    deduplaw12_RunTurned_L3 prog w0 k4 (m + 1) (.int .u32 (t : Int)) (.slice (some ⟨q, 0, none⟩) (b.length + rest.length) ucap) (.int .i64 (b.length : Int)) (.int .i64 (p : Int)) (.bool (decide (w ≠ 0))) (.int .i64 (i : Int)) h := by
  intro m
  induction m with
  | zero =>
    intro i w b' h hi hql hbk hez hbl hw hle hk
    have : i = 32 := by omega
    subst this
    rw [deduplaw12_RunTurned_L3]
    simp only [deduplaw12_RunTurned_B3, binA_lss, pureA_some, show decide (((32 : Nat) : Int) < 32) = false from rfl, condA_false]
    exact hk w b' h (Step.refl _ _ (by simpa using hql)) hbk hez hbl hw hle
  | succ m ih =>
    intro i w b' h hi hql hbk hez hbl hw hle hk
    have c1 : decide ((i : Int) < 32) = true := decide_eq_true (by omega)
    have e5 : IntKind.i64.wrap ((i : Int) + 1) = ((i + 1 : Nat) : Int) := by rw [IntWalk.i64_in _ (by omega)]; simp
    have e6 : IntKind.i64.wrap ((p : Int) + (i : Int)) = ((p + i : Nat) : Int) := by rw [IntWalk.i64_in _ (by omega)]; simp
    have e7 : binA .shr (.int .u32 (t : Int)) (.int .i64 (i : Int)) = some (.int .u32 ((t / 2 ^ i : Nat) : Int)) := by
      rw [binA_shr _ _ _ _ (by omega), Int.toNat_natCast, Nat.min_eq_left (by simp only [IntKind.bits]; omega)]; simp
    have e8 : IntKind.i64.wrap (8 * (b.length : Int)) = ((8 * b.length : Nat) : Int) := by rw [IntWalk.i64_in _ (by omega)]; simp
    have hnext : ∀ (w : Nat), w < 2 ^ i → w < 2 ^ (i + 1) := fun w hw => Nat.lt_of_lt_of_le hw (Nat.pow_le_pow_right (by omega) (by omega))
    rw [deduplaw12_RunTurned_L3]
    simp only [deduplaw12_RunTurned_B3, binA_lss, pureA_some, c1, condA_true, binA_add, e6, e7, rem2, binA_eql]
    have hno : pureA (some (.int .i64 (IntKind.i64.wrap ((i : Int) + 1)))) (fun v108 => deduplaw12_RunTurned_L3 prog w0 k4 (m + 1) (.int .u32 (t : Int)) (.slice (some ⟨q, 0, none⟩) (b.length + rest.length) ucap) (.int .i64 (b.length : Int)) (.int .i64 (p : Int)) (.bool (decide (w ≠ 0))) v108) h := by
      simp only [pureA_some, e5]
      exact ih (i + 1) w b' h (by omega) hql hbk hez hbl (hnext w hw) hle hk
    by_cases h1 : t / 2 ^ i % 2 = 1
    · have c2 : (((t / 2 ^ i % 2 : Nat) : Int) == 1) = true := by rw [h1]; rfl
      simp only [c2, guardA_tt, pureA_some, binA_mul, e8, binA_lss, pickA_true]
      by_cases h2 : p + i < 8 * b.length
      · have c3 : decide (((p + i : Nat) : Int) < ((8 * b.length : Nat) : Int)) = true := decide_eq_true (by omega)
        have hj : (p + i) / 8 < b'.length := by omega
        obtain ⟨x, hx⟩ : ∃ x, b'[(p + i) / 8]? = some x := ⟨b'[(p + i) / 8], by simp [hj]⟩
        simp only [c3, condA_true, fpureQ_k, fpureQ_pureA, quo8 (show p + i < 9223372036854775808 by omega), fpureA_some, fpureQ_idxSlA, freadQ_loadA, rem8, shl8 (Nat.mod_lt (p + i) (by omega : 8 > 0))]
        rw [idxSlA_iff]
        refine ⟨by omega, by omega, ?_⟩
        have hget : (bvs (b' ++ rest))[(p + i) / 8]? = some (bv x) := by
          rw [bvs_get, List.getElem?_append_left hj, hx]; rfl
        rw [addr_add, Nat.mul_one, Int.toNat_natCast, Nat.zero_add]
        refine loadA_at hq hbk hget ?_
        simp only [xor8, pureA_some]
        rw [idxSlA_iff]
        refine ⟨by omega, by omega, ?_⟩
        rw [addr_add, Nat.mul_one, Int.toNat_natCast, Nat.zero_add]
        simp only [allA_one, storeA_own]
        have hlen : (bvs (b' ++ rest)).length = b.length + rest.length := by simp [hbl]
        refine ⟨_, hq, hbk, by omega, rfl, ?_⟩
        simp only [stillA_iff, allA_nil, true_and, endA_iff, pureA_some, e5]
        rw [bvs_set, List.set_append_left _ _ hj]
        obtain ⟨h3, h4⟩ := xor_pow hw
        have hdec : decide (w ^^^ 2 ^ i ≠ 0) = true := decide_eq_true h4
        rw [← hdec]
        refine ih (i + 1) (w ^^^ 2 ^ i) (b'.set ((p + i) / 8) (x ^^^ UInt8.ofNat (2 ^ ((p + i) % 8)))) _ (by omega) (by simpa using hql) (by simp) (by simpa using hez) (by simpa using hbl) h3 ?_ (fun w b' h' st => hk w b' h' (((Step.refl h [q] (by simpa using hql)).put (by simp) _).trans st))
        rw [leN_flip b' _ x hx _ (Nat.mod_lt _ (by omega)), hle, Nat.xor_assoc]
        have e10 : 8 * ((p + i) / 8) + (p + i) % 8 = p + i := by omega
        rw [e10, mul_xor]
      · have c3 : decide (((p + i : Nat) : Int) < ((8 * b.length : Nat) : Int)) = false := decide_eq_false (by omega)
        simp only [c3, condA_false]
        exact hno
    · have c2 : (((t / 2 ^ i % 2 : Nat) : Int) == 1) = false := by
        have : t / 2 ^ i % 2 = 0 := by omega
        rw [this]; rfl
      simp only [c2, guardA_ft, guardA_undef, pickA_false, condA_false]
      exact hno
theorem RunTurned_top {v : Value} {l : List Ent} (at_ : Int) (t : Nat) (hat : -9223372036854775808 ≤ at_ ∧ at_ ≤ 9223372036854775807) (ht : t < 4294967296) (hx : ExtSl w0 3 v l.length (l.flatMap ee)) (hl : entsz l ≤ 1048576) :
    ACalls prog w0 n_deduplaw12_RunTurned [v, .int .i64 at_, .int .u32 (t : Int)] h fun r h' => r = .bool true := by
  have h4 := entsz_len l
  refine ACalls.of_fit (by simpa using hx.nj) fun f => c_deduplaw12_RunTurned (by simpa using hx.nj) ?_
  simp only [s_deduplaw12_RunTurned]
  refine callA_of (Build_spec (4096 : Int) (hx.sl' f (es_length l)) (by omega)) fun r h1 ⟨y, S1, e, g1, s1⟩ f1 => ?_
  subst e
  have hE : bldE (4096 : Int) l = if chkE l = true then 0 else 120 := by unfold bldE; rw [if_neg (by omega)]
  simp only [lenSl_slice, lenStr_string, str_size, fpureA_some, fnilA_ptr, faddA_ptr, addr_add, Nat.zero_add, Nat.add_zero, fpureQ_k, fpureQ_nilA, fpureQ_addA, fpureQ_pureA, fpureQ_guardA, fpureQ_idxSlA, fpureQ_pickA, freadQ_loadA, freadQ_loadNA, freadQ_b2sA, freadQ_guardA, freadQ_slSlA, freadQ_k, fendA, fallA_one, fstillA_nil, fguardA_tt, fguardA_ff, fguardA_tf, fguardA_ft, fguardA_undef, fpickA_true, fpickA_false, fcondA_true, fcondA_false, binA_add, binA_sub, binA_mul, binA_eql, binA_neq, binA_lss, binA_leq, binA_gtr, binA_geq, unA_not, Bool.not_true, Bool.not_false, convA_int, extA_tuple, List.getElem?_toArray, List.getElem?_cons_zero, List.getElem?_cons_succ]
  refine callA_of awake_spec fun r h2 ⟨e, s2⟩ f2 => ?_
  subst e
  have g2 := g1.frame s2 (by simp)
  simp only [lenSl_slice, lenStr_string, str_size, fpureA_some, fnilA_ptr, faddA_ptr, addr_add, Nat.zero_add, Nat.add_zero, fpureQ_k, fpureQ_nilA, fpureQ_addA, fpureQ_pureA, fpureQ_guardA, fpureQ_idxSlA, fpureQ_pickA, freadQ_loadA, freadQ_loadNA, freadQ_b2sA, freadQ_guardA, freadQ_slSlA, freadQ_k, fendA, fallA_one, fstillA_nil, fguardA_tt, fguardA_ff, fguardA_tf, fguardA_ft, fguardA_undef, fpickA_true, fpickA_false, fcondA_true, fcondA_false, binA_add, binA_sub, binA_mul, binA_eql, binA_neq, binA_lss, binA_leq, binA_gtr, binA_geq, unA_not, Bool.not_true, Bool.not_false, convA_int, extA_tuple, List.getElem?_toArray, List.getElem?_cons_zero, List.getElem?_cons_succ]
  refine callA_of (r_check_spec (hx.sl' f2 (es_length l)) (by omega)) fun r h3 ⟨e, s3⟩ f3 => ?_
  subst e
  have g3 := g2.frame s3 (by simp)
  rw [← hE]
  simp only [binBoolA_neq, beq_self_eq_true, lenSl_slice, lenStr_string, str_size, fpureA_some, fnilA_ptr, faddA_ptr, addr_add, Nat.zero_add, Nat.add_zero, fpureQ_k, fpureQ_nilA, fpureQ_addA, fpureQ_pureA, fpureQ_guardA, fpureQ_idxSlA, fpureQ_pickA, freadQ_loadA, freadQ_loadNA, freadQ_b2sA, freadQ_guardA, freadQ_slSlA, freadQ_k, fendA, fallA_one, fstillA_nil, fguardA_tt, fguardA_ff, fguardA_tf, fguardA_ft, fguardA_undef, fpickA_true, fpickA_false, fcondA_true, fcondA_false, binA_add, binA_sub, binA_mul, binA_eql, binA_neq, binA_lss, binA_leq, binA_gtr, binA_geq, unA_not, Bool.not_true, Bool.not_false, convA_int, extA_tuple, List.getElem?_toArray, List.getElem?_cons_zero, List.getElem?_cons_succ]
  by_cases hz : bldE (4096 : Int) l = 0
  rotate_left
  · have c1 : (bldE (4096 : Int) l != 0) = true := by simp [hz]
    simp only [c1, lenSl_slice, lenStr_string, str_size, fpureA_some, fnilA_ptr, faddA_ptr, addr_add, Nat.zero_add, Nat.add_zero, fpureQ_k, fpureQ_nilA, fpureQ_addA, fpureQ_pureA, fpureQ_guardA, fpureQ_idxSlA, fpureQ_pickA, freadQ_loadA, freadQ_loadNA, freadQ_b2sA, freadQ_guardA, freadQ_slSlA, freadQ_k, fendA, fallA_one, fstillA_nil, fguardA_tt, fguardA_ff, fguardA_tf, fguardA_ft, fguardA_undef, fpickA_true, fpickA_false, fcondA_true, fcondA_false, binA_add, binA_sub, binA_mul, binA_eql, binA_neq, binA_lss, binA_leq, binA_gtr, binA_geq, unA_not, Bool.not_true, Bool.not_false, convA_int, extA_tuple, List.getElem?_toArray, List.getElem?_cons_zero, List.getElem?_cons_succ, retA_iff, oneOf_one]
    simp
  have c1 : (bldE (4096 : Int) l != 0) = false := by simp [hz]
  simp only [c1, (hx.sl' f3 (es_length l)).lenv, lenSl_slice, lenStr_string, str_size, fpureA_some, fnilA_ptr, faddA_ptr, addr_add, Nat.zero_add, Nat.add_zero, fpureQ_k, fpureQ_nilA, fpureQ_addA, fpureQ_pureA, fpureQ_guardA, fpureQ_idxSlA, fpureQ_pickA, freadQ_loadA, freadQ_loadNA, freadQ_b2sA, freadQ_guardA, freadQ_slSlA, freadQ_k, fendA, fallA_one, fstillA_nil, fguardA_tt, fguardA_ff, fguardA_tf, fguardA_ft, fguardA_undef, fpickA_true, fpickA_false, fcondA_true, fcondA_false, binA_add, binA_sub, binA_mul, binA_eql, binA_neq, binA_lss, binA_leq, binA_gtr, binA_geq, unA_not, Bool.not_true, Bool.not_false, convA_int, extA_tuple, List.getElem?_toArray, List.getElem?_cons_zero, List.getElem?_cons_succ]
  have hz' : bldE ((4096 : Nat) : Int) l = 0 := hz
  obtain ⟨-, -, hch⟩ := bldE_ok hz
  by_cases h0 : l.length = 0
  · have c2 : ((l.length : Int) == 0) = true := by rw [h0]; rfl
    simp only [c2, lenSl_slice, lenStr_string, str_size, fpureA_some, fnilA_ptr, faddA_ptr, addr_add, Nat.zero_add, Nat.add_zero, fpureQ_k, fpureQ_nilA, fpureQ_addA, fpureQ_pureA, fpureQ_guardA, fpureQ_idxSlA, fpureQ_pickA, freadQ_loadA, freadQ_loadNA, freadQ_b2sA, freadQ_guardA, freadQ_slSlA, freadQ_k, fendA, fallA_one, fstillA_nil, fguardA_tt, fguardA_ff, fguardA_tf, fguardA_ft, fguardA_undef, fpickA_true, fpickA_false, fcondA_true, fcondA_false, binA_add, binA_sub, binA_mul, binA_eql, binA_neq, binA_lss, binA_leq, binA_gtr, binA_geq, unA_not, Bool.not_true, Bool.not_false, convA_int, extA_tuple, List.getElem?_toArray, List.getElem?_cons_zero, List.getElem?_cons_succ, retA_iff, oneOf_one]
    simp
  have c2 : ((l.length : Int) == 0) = false := by rw [beq_eq_false_iff_ne]; omega
  simp only [c2, lenSl_slice, lenStr_string, str_size, fpureA_some, fnilA_ptr, faddA_ptr, addr_add, Nat.zero_add, Nat.add_zero, fpureQ_k, fpureQ_nilA, fpureQ_addA, fpureQ_pureA, fpureQ_guardA, fpureQ_idxSlA, fpureQ_pickA, freadQ_loadA, freadQ_loadNA, freadQ_b2sA, freadQ_guardA, freadQ_slSlA, freadQ_k, fendA, fallA_one, fstillA_nil, fguardA_tt, fguardA_ff, fguardA_tf, fguardA_ft, fguardA_undef, fpickA_true, fpickA_false, fcondA_true, fcondA_false, binA_add, binA_sub, binA_mul, binA_eql, binA_neq, binA_lss, binA_leq, binA_gtr, binA_geq, unA_not, Bool.not_true, Bool.not_false, convA_int, extA_tuple, List.getElem?_toArray, List.getElem?_cons_zero, List.getElem?_cons_succ]
  refine callA_of (rBlocks_spec (block := 4096) (hx.sl' f3 (es_length l)) (chkF_right hch) (by omega) (by omega)) fun r h4 ⟨e, s4⟩ f4 => ?_
  subst e
  have g4 := g3.frame s4 (by simp)
  by_cases h1 : (grp 4096 l).length = 1
  rotate_left
  · have c3 : (((grp 4096 l).length : Int) != 1) = true := by simp; omega
    simp only [c3, lenSl_slice, lenStr_string, str_size, fpureA_some, fnilA_ptr, faddA_ptr, addr_add, Nat.zero_add, Nat.add_zero, fpureQ_k, fpureQ_nilA, fpureQ_addA, fpureQ_pureA, fpureQ_guardA, fpureQ_idxSlA, fpureQ_pickA, freadQ_loadA, freadQ_loadNA, freadQ_b2sA, freadQ_guardA, freadQ_slSlA, freadQ_k, fendA, fallA_one, fstillA_nil, fguardA_tt, fguardA_ff, fguardA_tf, fguardA_ft, fguardA_undef, fpickA_true, fpickA_false, fcondA_true, fcondA_false, binA_add, binA_sub, binA_mul, binA_eql, binA_neq, binA_lss, binA_leq, binA_gtr, binA_geq, unA_not, Bool.not_true, Bool.not_false, convA_int, extA_tuple, List.getElem?_toArray, List.getElem?_cons_zero, List.getElem?_cons_succ, retA_iff, oneOf_one]
    simp
  have c3 : (((grp 4096 l).length : Int) != 1) = false := by simp; omega
  -- the bytes
  have hR : bldR (4096 : Int) l = bld 4096 l := by unfold bldR; rw [if_pos hz]; rfl
  have hg := grp_one h1
  obtain ⟨rest, hrest, hr28⟩ : ∃ rest, bldR (4096 : Int) l = enc l ++ rest ∧ 28 ≤ rest.length := ⟨_, by rw [hR, bld, hg, outB_one, List.append_assoc], by simp [tailB, foot_len, drun]; omega⟩
  have hblen := bldR_le hz' hl
  have hblen' : (bldR (4096 : Int) l).length = (enc l).length + rest.length := by rw [hrest, List.length_append]
  have hbl0 : (bldR (4096 : Int) l).length ≤ 11534360 := hblen
  have h28 : 28 ≤ (bldR (4096 : Int) l).length := by
    have := bld_len 4096 l
    rw [hR, this, hg, outB_len_one]
    omega
  have c4 : decide (((bldR (4096 : Int) l).length : Int) < 28) = false := decide_eq_false (by omega)
  simp only [c3, g4.sl.lenv, c4, (hx.sl' f4 (es_length l)).lenv, lenSl_slice, lenStr_string, str_size, fpureA_some, fnilA_ptr, faddA_ptr, addr_add, Nat.zero_add, Nat.add_zero, fpureQ_k, fpureQ_nilA, fpureQ_addA, fpureQ_pureA, fpureQ_guardA, fpureQ_idxSlA, fpureQ_pickA, freadQ_loadA, freadQ_loadNA, freadQ_b2sA, freadQ_guardA, freadQ_slSlA, freadQ_k, fendA, fallA_one, fstillA_nil, fguardA_tt, fguardA_ff, fguardA_tf, fguardA_ft, fguardA_undef, fpickA_true, fpickA_false, fcondA_true, fcondA_false, binA_add, binA_sub, binA_mul, binA_eql, binA_neq, binA_lss, binA_leq, binA_gtr, binA_geq, unA_not, Bool.not_true, Bool.not_false, convA_int, extA_tuple, List.getElem?_toArray, List.getElem?_cons_zero, List.getElem?_cons_succ]
  refine ⟨l.length + 1, ?_⟩
  refine tn_sizes hx hl (fun h5 f5 s5 => ?_) l [] h4 rfl f4 (.refl _ _ (by simp))
  have hep : 0 < (enc l).length := encL_pos (fun e => by rw [e] at h0; simp at h0) []
  have e8 : IntKind.i64.wrap (8 * ((enc l).length : Int)) = ((8 * (enc l).length : Nat) : Int) := by rw [IntWalk.i64_in _ (by omega)]; simp
  have htm : -((8 * (enc l).length : Nat) : Int) < at_.tmod ((8 * (enc l).length : Nat) : Int) ∧ at_.tmod ((8 * (enc l).length : Nat) : Int) < ((8 * (enc l).length : Nat) : Int) :=
    ⟨Int.lt_tmod_of_pos at_ (by omega), Int.tmod_lt_of_pos at_ (by omega)⟩
  simp only [e8, lenSl_slice, lenStr_string, str_size, fpureA_some, fnilA_ptr, faddA_ptr, addr_add, Nat.zero_add, Nat.add_zero, fpureQ_k, fpureQ_nilA, fpureQ_addA, fpureQ_pureA, fpureQ_guardA, fpureQ_idxSlA, fpureQ_pickA, freadQ_loadA, freadQ_loadNA, freadQ_b2sA, freadQ_guardA, freadQ_slSlA, freadQ_k, fendA, fallA_one, fstillA_nil, fguardA_tt, fguardA_ff, fguardA_tf, fguardA_ft, fguardA_undef, fpickA_true, fpickA_false, fcondA_true, fcondA_false, binA_add, binA_sub, binA_mul, binA_eql, binA_neq, binA_lss, binA_leq, binA_gtr, binA_geq, unA_not, Bool.not_true, Bool.not_false, convA_int, extA_tuple, List.getElem?_toArray, List.getElem?_cons_zero, List.getElem?_cons_succ]
  rw [binA_rem .i64 at_ ((8 * (enc l).length : Nat) : Int) (by omega)]
  generalize at_.tmod ((8 * (enc l).length : Nat) : Int) = place at htm ⊢
  simp only [lenSl_slice, lenStr_string, str_size, fpureA_some, fnilA_ptr, faddA_ptr, addr_add, Nat.zero_add, Nat.add_zero, fpureQ_k, fpureQ_nilA, fpureQ_addA, fpureQ_pureA, fpureQ_guardA, fpureQ_idxSlA, fpureQ_pickA, freadQ_loadA, freadQ_loadNA, freadQ_b2sA, freadQ_guardA, freadQ_slSlA, freadQ_k, fendA, fallA_one, fstillA_nil, fguardA_tt, fguardA_ff, fguardA_tf, fguardA_ft, fguardA_undef, fpickA_true, fpickA_false, fcondA_true, fcondA_false, binA_add, binA_sub, binA_mul, binA_eql, binA_neq, binA_lss, binA_leq, binA_gtr, binA_geq, unA_not, Bool.not_true, Bool.not_false, convA_int, extA_tuple, List.getElem?_toArray, List.getElem?_cons_zero, List.getElem?_cons_succ]
  have g5 := g4.frame s5 (by simp)
  obtain ⟨q, rfl, hS, hqb, hql, hqk, hqe⟩ : ∃ q, y = .slice (some ⟨q, 0, none⟩) (bldR (4096 : Int) l).length ucap ∧ S1 = [q] ∧ w0.heap.size ≤ q ∧ q < h5.next ∧ h5.blk q = some (bvs (bldR (4096 : Int) l)) ∧ h5.esz q = 1 := by
    rcases g5 with ⟨-, q0, -, -⟩ | ⟨q, a, b, c, d, e, f, g⟩
    · omega
    · exact ⟨q, a, b, c, d, e, f⟩
  have fin : ∀ p : Nat, p < 8 * (enc l).length → deduplaw12_RunTurned_E3 prog w0 (fun y7_106 y15_107 =>
       callA prog w0 n_run_Open [y7_106] fun v135_108 =>
       pureA (extA v135_108 0) fun v136_109 =>
       pureA (extA v135_108 1) fun v137_110 =>
       pureA (binA .eql v137_110 (.int .i64 121)) fun v139_111 =>
       pureA (binBoolA .eql v139_111 y15_107) fun v141_112 =>
       guardA v141_112 true (fun K => K v136_109) fun v143_113 =>
       guardA v141_112 true (pureA (binPtrA .eql v143_113 (.pointer none))) fun v144_114 =>
       guardA v141_112 true (fun K => K y15_107) fun v145_115 =>
       guardA v141_112 true (pureA (binBoolA .eql v144_114 v145_115)) fun v146_116 =>
       pickA v141_112 v146_116 (.bool false) fun v147_117 =>
       retA [v147_117] fun r h' => r = .bool true) (.int .u32 (t : Int)) (.slice (some ⟨q, 0, none⟩) (bldR (4096 : Int) l).length ucap) (.int .i64 ((enc l).length : Int)) (.int .i64 (p : Int)) (.bool false) (.int .i64 0) h5 := by
    intro p hp
    refine ⟨33, ?_⟩
    rw [hblen']
    refine tn_turn (b := enc l) (rest := rest) (t := t) (p := p) (q := q) (by omega) (by omega) hp ht hqb 32 0 0 (enc l) h5 (by omega) hql (by rw [hqk, hrest]) hqe rfl (by simp) (by simp) fun w b' h6 s6 k6 z6 hbl' hw hle => ?_
    have g6 : GV w0 h6 1 (.slice (some ⟨q, 0, none⟩) ((enc l).length + rest.length) ucap) (b' ++ rest).length (bvs (b' ++ rest)) [q] := .inl (.inr ⟨q, by rw [List.length_append, hbl'], rfl, hqb, Nat.lt_of_lt_of_le hql s6.1, k6, z6, by simp⟩)
    have hft : spansB (b' ++ rest) = spansB (enc l ++ rest) := by
      unfold spansB
      rw [drop_end b' rest 24 (by omega), drop_end (enc l) rest 24 (by omega)]
    have hsp : spansB (enc l ++ rest) ≤ l.length := by
      have := spansB_bld hz' (by omega)
      have e : bldR ((4096 : Nat) : Int) l = enc l ++ rest := hrest
      rwa [e] at this
    have hmul : min (spansB (b' ++ rest)) (b' ++ rest).length * (b' ++ rest).length ≤ 3500000000000 := mul_le2 (A := 262144) (B := 11534360) (by omega) (by rw [List.length_append]; omega) (by decide)
    refine callA_of (Open_spec g6 (by rw [List.length_append]; omega) hmul fun l' bl' n' hp' => ?_) fun r h7 hr f7 => ?_
    · have e1 := (prs_ft hp').2.1
      have e2 : ftB (b' ++ rest) = ftB (enc l ++ rest) := by
        unfold ftB
        rw [drop_end b' rest 24 (by omega), drop_end (enc l) rest 24 (by omega)]
      have e3 := (prs_ft (opn_bld hz' (by omega)).2).2.1
      have e : bldR ((4096 : Nat) : Int) l = enc l ++ rest := hrest
      rw [e] at e3
      rw [e2, ← e3] at e1
      simp only at e1
      omega
    · by_cases hw0 : w = 0
      · subst hw0
        have hbb : b' = enc l := leN_inj _ _ hbl' (by rw [hle]; simp)
        have ho := (opn_bld hz' (by omega)).1
        have e : bldR ((4096 : Nat) : Int) l = enc l ++ rest := hrest
        rw [e] at ho
        rw [hbb, ho] at hr
        obtain ⟨p', S', e', m', -⟩ := hr
        subst e'
        obtain ⟨p0, rfl⟩ : ∃ p0, p' = ptr p0 := by obtain ⟨p0, -, -, -, e, -⟩ := m'; exact ⟨p0, e⟩
        have k1 : ((0 : Int) == 121) = false := rfl
        have k2 : binPtrA .eql (.pointer (some ⟨p0, 0, none⟩)) (.pointer none) = some (.bool false) := rfl
        have k3 : decide ((0 : Nat) ≠ 0) = false := rfl
        have k4 : (false == false) = true := rfl
        simp only [ptr, k1, k2, k3, k4, binBoolA_eql, lenSl_slice, lenStr_string, str_size, fpureA_some, fnilA_ptr, faddA_ptr, addr_add, Nat.zero_add, Nat.add_zero, fpureQ_k, fpureQ_nilA, fpureQ_addA, fpureQ_pureA, fpureQ_guardA, fpureQ_idxSlA, fpureQ_pickA, freadQ_loadA, freadQ_loadNA, freadQ_b2sA, freadQ_guardA, freadQ_slSlA, freadQ_k, fendA, fallA_one, fstillA_nil, fguardA_tt, fguardA_ff, fguardA_tf, fguardA_ft, fguardA_undef, fpickA_true, fpickA_false, fcondA_true, fcondA_false, binA_add, binA_sub, binA_mul, binA_eql, binA_neq, binA_lss, binA_leq, binA_gtr, binA_geq, unA_not, Bool.not_true, Bool.not_false, convA_int, extA_tuple, List.getElem?_toArray, List.getElem?_cons_zero, List.getElem?_cons_succ, retA_iff, oneOf_one]
        simp
      · have ho := turned_opn (B' := b') (rest := rest) (p := p) (w := w) hz' (by omega) h1 hrest hbl' (by omega) hw hle hw0
        rw [ho] at hr
        obtain ⟨e, -⟩ := hr
        subst e
        have k1 : ((121 : Int) == 121) = true := rfl
        have k2 : binPtrA .eql (.pointer none) (.pointer none) = some (.bool true) := rfl
        have k3 : decide (w ≠ 0) = true := decide_eq_true hw0
        have k4 : (true == true) = true := rfl
        simp only [k1, k2, k3, k4, binBoolA_eql, lenSl_slice, lenStr_string, str_size, fpureA_some, fnilA_ptr, faddA_ptr, addr_add, Nat.zero_add, Nat.add_zero, fpureQ_k, fpureQ_nilA, fpureQ_addA, fpureQ_pureA, fpureQ_guardA, fpureQ_idxSlA, fpureQ_pickA, freadQ_loadA, freadQ_loadNA, freadQ_b2sA, freadQ_guardA, freadQ_slSlA, freadQ_k, fendA, fallA_one, fstillA_nil, fguardA_tt, fguardA_ff, fguardA_tf, fguardA_ft, fguardA_undef, fpickA_true, fpickA_false, fcondA_true, fcondA_false, binA_add, binA_sub, binA_mul, binA_eql, binA_neq, binA_lss, binA_leq, binA_gtr, binA_geq, unA_not, Bool.not_true, Bool.not_false, convA_int, extA_tuple, List.getElem?_toArray, List.getElem?_cons_zero, List.getElem?_cons_succ, retA_iff, oneOf_one]
        simp
  by_cases hpl : place < 0
  · have c5 : decide (place < 0) = true := decide_eq_true hpl
    obtain ⟨p, hp⟩ := Int.eq_ofNat_of_zero_le (show 0 ≤ place + ((8 * (enc l).length : Nat) : Int) by omega)
    have e9 : IntKind.i64.wrap (place + ((8 * (enc l).length : Nat) : Int)) = (p : Int) := by rw [hp, IntWalk.i64_in _ (by omega)]
    simp only [c5, e8, e9, lenSl_slice, lenStr_string, str_size, fpureA_some, fnilA_ptr, faddA_ptr, addr_add, Nat.zero_add, Nat.add_zero, fpureQ_k, fpureQ_nilA, fpureQ_addA, fpureQ_pureA, fpureQ_guardA, fpureQ_idxSlA, fpureQ_pickA, freadQ_loadA, freadQ_loadNA, freadQ_b2sA, freadQ_guardA, freadQ_slSlA, freadQ_k, fendA, fallA_one, fstillA_nil, fguardA_tt, fguardA_ff, fguardA_tf, fguardA_ft, fguardA_undef, fpickA_true, fpickA_false, fcondA_true, fcondA_false, binA_add, binA_sub, binA_mul, binA_eql, binA_neq, binA_lss, binA_leq, binA_gtr, binA_geq, unA_not, Bool.not_true, Bool.not_false, convA_int, extA_tuple, List.getElem?_toArray, List.getElem?_cons_zero, List.getElem?_cons_succ]
    exact fin p (by omega)
  · have c5 : decide (place < 0) = false := decide_eq_false hpl
    obtain ⟨p, rfl⟩ := Int.eq_ofNat_of_zero_le (show 0 ≤ place by omega)
    simp only [c5, lenSl_slice, lenStr_string, str_size, fpureA_some, fnilA_ptr, faddA_ptr, addr_add, Nat.zero_add, Nat.add_zero, fpureQ_k, fpureQ_nilA, fpureQ_addA, fpureQ_pureA, fpureQ_guardA, fpureQ_idxSlA, fpureQ_pickA, freadQ_loadA, freadQ_loadNA, freadQ_b2sA, freadQ_guardA, freadQ_slSlA, freadQ_k, fendA, fallA_one, fstillA_nil, fguardA_tt, fguardA_ff, fguardA_tf, fguardA_ft, fguardA_undef, fpickA_true, fpickA_false, fcondA_true, fcondA_false, binA_add, binA_sub, binA_mul, binA_eql, binA_neq, binA_lss, binA_leq, binA_gtr, binA_geq, unA_not, Bool.not_true, Bool.not_false, convA_int, extA_tuple, List.getElem?_toArray, List.getElem?_cons_zero, List.getElem?_cons_succ]
    exact fin p (by omega)
end
end Go.Proofs.Ythjpddggnhgjhaa.Ah
