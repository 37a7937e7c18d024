/- JournalWrites: the walk. -/
import Derived.Test.YtiakadkooclelaaLforks
set_option linter.unusedVariables false
set_option linter.unusedSimpArgs false
namespace Go.Proofs.Ytiakadkooclelaa.Ah
open Go

section
variable {w0 : World} {p q : Nat}
/-- Pairs whose second parts are slices that may be written. -/
def Muts (w0 : World) (h : Hp) (a : Value) (n : Nat) (S : List Nat) : Prop :=
  (n = 0 ∧ ∃ x c, a = .slice x 0 c) ∨ ∃ b cs, a = .slice (some ⟨b, 0, none⟩) n ucap ∧ w0.heap.size ≤ b ∧ h.blk b = some cs ∧ ∀ k, k < n → ∃ t m c, cs[2 * k + 1]? = some (.slice (some ⟨t, 0, none⟩) m c) ∧ 0 < m ∧ w0.heap.size ≤ t ∧ t ∈ S ∧ t ≠ b ∧ ∃ ds, h.blk t = some ds ∧ 0 < ds.length
theorem SVec.muts {h : Hp} {x : Value} {k : Nat} {bs : List (List UInt8)} {S : List Nat} (v : SVec w0 h x k bs S) (hb : ∀ r, r ∈ bs → 0 < r.length) : Muts w0 h x bs.length S := by
  rcases bs with _ | ⟨b0, bs0⟩
  · left
    obtain ⟨a, c, hx⟩ := v.slice
    exact ⟨rfl, a, c, hx⟩
  · right
    obtain ⟨b, cs, y, T, e, hB, hlt, hbk, hbS, -, g1, g2, vy, hT⟩ := v.get (i := 0) (r := b0) rfl
    refine ⟨b, cs, e, hB, hbk, fun k hk => ?_⟩
    obtain ⟨r, hr⟩ : ∃ r, (b0 :: bs0)[k]? = some r := ⟨(b0 :: bs0)[k], by simp [hk]⟩
    obtain ⟨b', cs', y', T', e', hB', hlt', hbk', hbS', hbT', g1', g2', vy', hT'⟩ := v.get hr
    have hbb : b' = b := by
      rw [e] at e'
      simp at e'
      exact e'.symm
    subst hbb
    have hcs : cs' = cs := by rw [hbk] at hbk'; simp at hbk'; exact hbk'.symm
    subst hcs
    have hrl := hb r (List.mem_of_getElem? hr)
    rcases vy' with ⟨-, e0, -⟩ | ⟨t, rfl, rfl, htB, htl, htb, -, hds⟩
    · omega
    · exact ⟨t, _, _, g2', hrl, htB, hT' t (by simp), fun e => hbT' (by simp [e]), _, htb, by simp; omega⟩
theorem muts_loop {k3 : Value → Value → Value → Value → Value → Value → Hp → Prop} {a x3 x8 x9 x11 x13 x14 : Value} {n : Nat} {S : List Nat} (hn : n ≤ 1000000) : ∀ (m k : Nat) (h : Hp), k + m = n → Fit w0 h → Muts w0 h a n S → (∀ b, b ∈ S → b < h.next) →
    (∀ h', Fit w0 h' → Step h h' S S → k3 x3 x8 x9 x11 x13 x14 h') →
    deduplaw07_JournalWrites_L2 prog w0 k3 (m + 1) x3 x8 x9 x11 x13 x14 a (.int .i64 (k : Int)) h := by
  intro m
  induction m with
  | zero =>
    intro k h hk f mu hS hK
    obtain ⟨x, c, ha⟩ : ∃ x c, a = .slice x n c := by
      rcases mu with ⟨rfl, x, c, e⟩ | ⟨b, cs, e, -⟩
      · exact ⟨x, c, e⟩
      · exact ⟨_, _, e⟩
    have : k = n := by omega
    subst this
    rw [deduplaw07_JournalWrites_L2, ha]
    simp only [deduplaw07_JournalWrites_B2, lenSl_slice, lenStr_string, str_size, fpureA_some, fnilA_ptr, faddA_ptr, addr_add, Nat.zero_add, Nat.add_zero, fpureQ_k, fpureQ_nilA, fpureQ_addA, fpureQ_pureA, fpureQ_guardA, fpureQ_idxSlA, fpureQ_pickA, freadQ_loadA, freadQ_loadNA, freadQ_b2sA, freadQ_guardA, freadQ_slSlA, freadQ_k, fendA, fallA_one, fstillA_nil, fguardA_tt, fguardA_ff, fguardA_tf, fguardA_ft, fguardA_undef, fpickA_true, fpickA_false, fcondA_true, fcondA_false, binA_add, binA_sub, binA_mul, binA_eql, binA_neq, binA_lss, binA_leq, binA_gtr, binA_geq, unA_not, Bool.not_true, Bool.not_false, convA_int, extA_tuple, List.getElem?_toArray, List.getElem?_cons_zero, List.getElem?_cons_succ, Int.lt_irrefl, decide_false]
    exact hK h f (Step.refl _ _ hS)
  | succ m ih =>
    intro k h hk f mu hS hK
    rcases mu with ⟨e, -⟩ | ⟨b, cs, ha, hB, hbk, hall⟩
    · omega
    obtain ⟨t, mm, c, hc, hm, htB, htS, htb, ds, hds, hdl⟩ := hall k (by omega)
    have c1 : decide ((k : Int) < (n : Int)) = true := decide_eq_true (by omega)
    have e5 : IntKind.i64.wrap ((k : Int) + 1) = ((k + 1 : Nat) : Int) := by rw [IntWalk.i64_in _ (by omega)]; simp
    have idx : ∀ {K : Kont}, K (.pointer (some ⟨b, 2 * k, none⟩)) h → idxSlA 2 (.slice (some ⟨b, 0, none⟩) n ucap) (.int .i64 (k : Int)) K h := by
      intro K hK
      rw [idxSlA_iff]
      refine ⟨by omega, by omega, ?_⟩
      rw [addr_add, Int.toNat_natCast, Nat.zero_add, Nat.mul_comm]
      exact hK
    rw [deduplaw07_JournalWrites_L2]
    rw [ha] at ih ⊢
    simp only [deduplaw07_JournalWrites_B2, lenSl_slice, lenStr_string, str_size, fpureA_some, fnilA_ptr, faddA_ptr, addr_add, Nat.zero_add, Nat.add_zero, fpureQ_k, fpureQ_nilA, fpureQ_addA, fpureQ_pureA, fpureQ_guardA, fpureQ_idxSlA, fpureQ_pickA, freadQ_loadA, freadQ_loadNA, freadQ_b2sA, freadQ_guardA, freadQ_slSlA, freadQ_k, fendA, fallA_one, fstillA_nil, fguardA_tt, fguardA_ff, fguardA_tf, fguardA_ft, fguardA_undef, fpickA_true, fpickA_false, fcondA_true, fcondA_false, binA_add, binA_sub, binA_mul, binA_eql, binA_neq, binA_lss, binA_leq, binA_gtr, binA_geq, unA_not, Bool.not_true, Bool.not_false, convA_int, extA_tuple, List.getElem?_toArray, List.getElem?_cons_zero, List.getElem?_cons_succ, c1]
    refine idx ?_
    simp only [lenSl_slice, lenStr_string, str_size, fpureA_some, fnilA_ptr, faddA_ptr, addr_add, Nat.zero_add, Nat.add_zero, fpureQ_k, fpureQ_nilA, fpureQ_addA, fpureQ_pureA, fpureQ_guardA, fpureQ_idxSlA, fpureQ_pickA, freadQ_loadA, freadQ_loadNA, freadQ_b2sA, freadQ_guardA, freadQ_slSlA, freadQ_k, fendA, fallA_one, fstillA_nil, fguardA_tt, fguardA_ff, fguardA_tf, fguardA_ft, fguardA_undef, fpickA_true, fpickA_false, fcondA_true, fcondA_false, binA_add, binA_sub, binA_mul, binA_eql, binA_neq, binA_lss, binA_leq, binA_gtr, binA_geq, unA_not, Bool.not_true, Bool.not_false, convA_int, extA_tuple, List.getElem?_toArray, List.getElem?_cons_zero, List.getElem?_cons_succ]
    refine loadA_at hB hbk hc ?_
    rw [idxSlA_iff]
    refine ⟨by omega, by omega, ?_⟩
    simp only [addr_add, Int.toNat_zero, Nat.zero_mul, Nat.add_zero]
    refine storeA_at htB hds hdl rfl ?_
    simp only [lenSl_slice, lenStr_string, str_size, fpureA_some, fnilA_ptr, faddA_ptr, addr_add, Nat.zero_add, Nat.add_zero, fpureQ_k, fpureQ_nilA, fpureQ_addA, fpureQ_pureA, fpureQ_guardA, fpureQ_idxSlA, fpureQ_pickA, freadQ_loadA, freadQ_loadNA, freadQ_b2sA, freadQ_guardA, freadQ_slSlA, freadQ_k, fendA, fallA_one, fstillA_nil, fguardA_tt, fguardA_ff, fguardA_tf, fguardA_ft, fguardA_undef, fpickA_true, fpickA_false, fcondA_true, fcondA_false, binA_add, binA_sub, binA_mul, binA_eql, binA_neq, binA_lss, binA_leq, binA_gtr, binA_geq, unA_not, Bool.not_true, Bool.not_false, convA_int, extA_tuple, List.getElem?_toArray, List.getElem?_cons_zero, List.getElem?_cons_succ, e5]
    refine ih (k + 1) _ (by omega) (f.put htB (hS t htS) fun v hv => ?_) (.inr ⟨b, cs, rfl, hB, by simp [htb.symm, hbk], fun k' hk' => ?_⟩) (by simpa using hS) fun h' f' st => hK h' f' (((Step.refl h S hS).put htS _).trans st)
    · rcases List.mem_or_eq_of_mem_set hv with e | e
      · exact f.cell t ds htB hds v e
      · subst e; rfl
    obtain ⟨t', m', c', hc', hm', htB', htS', htb', ds', hds', hdl'⟩ := hall k' hk'
    refine ⟨t', m', c', hc', hm', htB', htS', htb', ?_⟩
    by_cases htt : t' = t
    · subst htt
      exact ⟨_, by simp; rfl, by simp; omega⟩
    · exact ⟨ds', by simp [htt, hds'], hdl'⟩
/-- Records, of both. -/
theorem pair_records {h : Hp} {st : JS} {S : List Nat} {K : Value → Value → Hp → Prop} (w : Pair w0 h p q st S) (o : st.Ok) (hK : Fit w0 h → K (.int .i64 st.cnt) (.int .i64 st.cnt) h) :
    loadA w0 (.pointer (some ⟨q, 5, none⟩)) (fun v124 => callA prog w0 n_journal_Writer_Records [ptr p] fun v120 => stillA [(sameQ (loadA w0 (.pointer (some ⟨q, 5, none⟩))) v124)] (K v120 v124)) h := by
  obtain ⟨S1, T1, a, b, d, rfl⟩ := w
  obtain ⟨x, T, hb, hB, hlt, -⟩ := b
  refine loadA_at hB hb (by rfl) ?_
  refine callA_of (Records_spec a o) fun v h1 ⟨e, e1⟩ f1 => ?_
  subst e e1
  simp only [stillA_iff, allA_one, sameQ_loadA]
  exact ⟨loadA_at hB hb (by rfl) rfl, hK f1⟩
theorem jwrites_loop {k0 kr : Value → Value → Value → Hp → Prop} {v x8 : Value} {os : List JOp} (hx : ExtSl w0 2 v os.length (os.flatMap JOp.e)) (hok : ∀ o, o ∈ os → o.s.length ≤ 1000000000) (hos : os.length ≤ 1000000000) : ∀ (post pre : List JOp) (h : Hp) (p : Nat) (st : JS) (S : List Nat), pre ++ post = os → Fit w0 h → Pair w0 h p q st S → st.Ok →
    (∀ h' p' st' S', Fit w0 h' → Pair w0 h' p' q st' S' → st'.Ok → k0 x8 (ptr p') (ptr q) h') →
    deduplaw07_JournalWrites_L1 prog w0 k0 kr (post.length + 1) v x8 (ptr p) (ptr q) (.int .i64 (pre.length : Int)) h := by
  obtain ⟨a, c, hv, hn, hc⟩ := hx.sl
  intro post
  induction post with
  | nil =>
    intro pre h p st S he f w o hk
    have hpre : pre = os := by simpa using he
    rw [deduplaw07_JournalWrites_L1, hv]
    simp only [deduplaw07_JournalWrites_B1, lenSl_slice, lenStr_string, str_size, fpureA_some, fnilA_ptr, faddA_ptr, addr_add, Nat.zero_add, Nat.add_zero, fpureQ_k, fpureQ_nilA, fpureQ_addA, fpureQ_pureA, fpureQ_guardA, fpureQ_idxSlA, fpureQ_pickA, freadQ_loadA, freadQ_loadNA, freadQ_b2sA, freadQ_guardA, freadQ_slSlA, freadQ_k, fendA, fallA_one, fstillA_nil, fguardA_tt, fguardA_ff, fguardA_tf, fguardA_ft, fguardA_undef, fpickA_true, fpickA_false, fcondA_true, fcondA_false, binA_add, binA_sub, binA_mul, binA_eql, binA_neq, binA_lss, binA_leq, binA_gtr, binA_geq, unA_not, Bool.not_true, Bool.not_false, convA_int, extA_tuple, List.getElem?_toArray, List.getElem?_cons_zero, List.getElem?_cons_succ, hpre, Int.lt_irrefl, decide_false]
    exact hk h p st S f w o
  | cons o1 post ih =>
    intro pre h p st S he f w o hk
    have hlen : pre.length + (post.length + 1) = os.length := by rw [← he]; simp
    have ho : o1 ∈ os := by rw [← he]; simp
    have c1 : decide ((pre.length : Int) < (os.length : Int)) = true := decide_eq_true (by omega)
    have e5 : IntKind.i64.wrap ((pre.length : Int) + 1) = ((pre.length + 1 : Nat) : Int) := by rw [IntWalk.i64_in _ (by omega)]; simp
    have hyl := flat_len (e := JOp.e) (s := 2) (fun _ => rfl) os
    rw [List.length_cons, deduplaw07_JournalWrites_L1]
    rw [hv] at hx ih ⊢
    have on : ∀ h' p' st' S', Fit w0 h' → Pair w0 h' p' q st' S' → st'.Ok → deduplaw07_JournalWrites_L1 prog w0 k0 kr (post.length + 1) (.slice a os.length c) x8 (ptr p') (ptr q) (.int .i64 ((pre.length + 1 : Nat) : Int)) h' := by
      intro h' p' st' S' f' w' o'
      have := ih (pre ++ [o1]) h' p' st' S' (by simpa using he) f' w' o' hk
      simpa using this
    simp only [deduplaw07_JournalWrites_B1, lenSl_slice, lenStr_string, str_size, fpureA_some, fnilA_ptr, faddA_ptr, addr_add, Nat.zero_add, Nat.add_zero, fpureQ_k, fpureQ_nilA, fpureQ_addA, fpureQ_pureA, fpureQ_guardA, fpureQ_idxSlA, fpureQ_pickA, freadQ_loadA, freadQ_loadNA, freadQ_b2sA, freadQ_guardA, freadQ_slSlA, freadQ_k, fendA, fallA_one, fstillA_nil, fguardA_tt, fguardA_ff, fguardA_tf, fguardA_ft, fguardA_undef, fpickA_true, fpickA_false, fcondA_true, fcondA_false, binA_add, binA_sub, binA_mul, binA_eql, binA_neq, binA_lss, binA_leq, binA_gtr, binA_geq, unA_not, Bool.not_true, Bool.not_false, convA_int, extA_tuple, List.getElem?_toArray, List.getElem?_cons_zero, List.getElem?_cons_succ, c1]
    refine ext_idx hx f (by omega) (by omega) hyl fun b o0 hb ld => ?_
    simp only [lenSl_slice, lenStr_string, str_size, fpureA_some, fnilA_ptr, faddA_ptr, addr_add, Nat.zero_add, Nat.add_zero, fpureQ_k, fpureQ_nilA, fpureQ_addA, fpureQ_pureA, fpureQ_guardA, fpureQ_idxSlA, fpureQ_pickA, freadQ_loadA, freadQ_loadNA, freadQ_b2sA, freadQ_guardA, freadQ_slSlA, freadQ_k, fendA, fallA_one, fstillA_nil, fguardA_tt, fguardA_ff, fguardA_tf, fguardA_ft, fguardA_undef, fpickA_true, fpickA_false, fcondA_true, fcondA_false, binA_add, binA_sub, binA_mul, binA_eql, binA_neq, binA_lss, binA_leq, binA_gtr, binA_geq, unA_not, Bool.not_true, Bool.not_false, convA_int, extA_tuple, List.getElem?_toArray, List.getElem?_cons_zero, List.getElem?_cons_succ]
    refine ld h 0 (.int .i64 o1.kind) _ f (by omega) (by rw [jop_get he 0 (by omega)]; rfl) ?_
    simp only [lenSl_slice, lenStr_string, str_size, fpureA_some, fnilA_ptr, faddA_ptr, addr_add, Nat.zero_add, Nat.add_zero, fpureQ_k, fpureQ_nilA, fpureQ_addA, fpureQ_pureA, fpureQ_guardA, fpureQ_idxSlA, fpureQ_pickA, freadQ_loadA, freadQ_loadNA, freadQ_b2sA, freadQ_guardA, freadQ_slSlA, freadQ_k, fendA, fallA_one, fstillA_nil, fguardA_tt, fguardA_ff, fguardA_tf, fguardA_ft, fguardA_undef, fpickA_true, fpickA_false, fcondA_true, fcondA_false, binA_add, binA_sub, binA_mul, binA_eql, binA_neq, binA_lss, binA_leq, binA_gtr, binA_geq, unA_not, Bool.not_true, Bool.not_false, convA_int, extA_tuple, List.getElem?_toArray, List.getElem?_cons_zero, List.getElem?_cons_succ, e5]
    by_cases k1 : o1.kind = 1
    · have c2 : (o1.kind == 1) = true := by simp [k1]
      simp only [c2, fcondA_true]
      refine ext_idx hx f (by omega) (by omega) hyl fun b o0 hb ld => ?_
      simp only [lenSl_slice, lenStr_string, str_size, fpureA_some, fnilA_ptr, faddA_ptr, addr_add, Nat.zero_add, Nat.add_zero, fpureQ_k, fpureQ_nilA, fpureQ_addA, fpureQ_pureA, fpureQ_guardA, fpureQ_idxSlA, fpureQ_pickA, freadQ_loadA, freadQ_loadNA, freadQ_b2sA, freadQ_guardA, freadQ_slSlA, freadQ_k, fendA, fallA_one, fstillA_nil, fguardA_tt, fguardA_ff, fguardA_tf, fguardA_ft, fguardA_undef, fpickA_true, fpickA_false, fcondA_true, fcondA_false, binA_add, binA_sub, binA_mul, binA_eql, binA_neq, binA_lss, binA_leq, binA_gtr, binA_geq, unA_not, Bool.not_true, Bool.not_false, convA_int, extA_tuple, List.getElem?_toArray, List.getElem?_cons_zero, List.getElem?_cons_succ]
      refine ld h 1 (.string (str o1.s)) _ f (by omega) (by rw [jop_get he 1 (by omega)]; rfl) ?_
      refine ext_idx hx f (by omega) (by omega) hyl fun b2 o2 hb2 ld2 => ?_
      simp only [lenSl_slice, lenStr_string, str_size, fpureA_some, fnilA_ptr, faddA_ptr, addr_add, Nat.zero_add, Nat.add_zero, fpureQ_k, fpureQ_nilA, fpureQ_addA, fpureQ_pureA, fpureQ_guardA, fpureQ_idxSlA, fpureQ_pickA, freadQ_loadA, freadQ_loadNA, freadQ_b2sA, freadQ_guardA, freadQ_slSlA, freadQ_k, fendA, fallA_one, fstillA_nil, fguardA_tt, fguardA_ff, fguardA_tf, fguardA_ft, fguardA_undef, fpickA_true, fpickA_false, fcondA_true, fcondA_false, binA_add, binA_sub, binA_mul, binA_eql, binA_neq, binA_lss, binA_leq, binA_gtr, binA_geq, unA_not, Bool.not_true, Bool.not_false, convA_int, extA_tuple, List.getElem?_toArray, List.getElem?_cons_zero, List.getElem?_cons_succ]
      refine ld2 h 1 (.string (str o1.s)) _ f (by omega) (by rw [jop_get he 1 (by omega)]; rfl) ?_
      refine pair_append (K := fun v61 v68 => pureA (binA .eql v61 v68) fun v69 => pureA (unA .not v69) fun v127 => condA v127 (kr (.bool false) (ptr p) (ptr q)) (deduplaw07_JournalWrites_L1 prog w0 k0 kr (post.length + 1) (.slice a os.length c) x8 (ptr p) (ptr q) (.int .i64 ((pre.length + 1 : Nat) : Int)))) w o (hok o1 ho) (fun h1 f1 => ?_) (fun h' S' f' w' s' => ?_)
      · simp only [allA_one, sameQ_loadA]
        exact ld2 h1 1 (.string (str o1.s)) _ f1 (by omega) (by rw [jop_get he 1 (by omega)]; rfl) rfl
      · simp only [lenSl_slice, lenStr_string, str_size, fpureA_some, fnilA_ptr, faddA_ptr, addr_add, Nat.zero_add, Nat.add_zero, fpureQ_k, fpureQ_nilA, fpureQ_addA, fpureQ_pureA, fpureQ_guardA, fpureQ_idxSlA, fpureQ_pickA, freadQ_loadA, freadQ_loadNA, freadQ_b2sA, freadQ_guardA, freadQ_slSlA, freadQ_k, fendA, fallA_one, fstillA_nil, fguardA_tt, fguardA_ff, fguardA_tf, fguardA_ft, fguardA_undef, fpickA_true, fpickA_false, fcondA_true, fcondA_false, binA_add, binA_sub, binA_mul, binA_eql, binA_neq, binA_lss, binA_leq, binA_gtr, binA_geq, unA_not, Bool.not_true, Bool.not_false, convA_int, extA_tuple, List.getElem?_toArray, List.getElem?_cons_zero, List.getElem?_cons_succ, beq_self_eq_true]
        exact on h' p _ S' f' w' (o.append _)
    have c2 : (o1.kind == 1) = false := by simp [k1]
    simp only [c2, fcondA_false]
    by_cases k2 : o1.kind = 2
    · have c3 : (o1.kind == 2) = true := by simp [k2]
      simp only [c3, fcondA_true]
      refine pair_left (K := fun v92 v94 => pureA (binA .eql v92 v94) fun v95 => pureA (unA .not v95) fun v127 => condA v127 (kr (.bool false) (ptr p) (ptr q)) (deduplaw07_JournalWrites_L1 prog w0 k0 kr (post.length + 1) (.slice a os.length c) x8 (ptr p) (ptr q) (.int .i64 ((pre.length + 1 : Nat) : Int)))) w o fun _ => ?_
      simp only [lenSl_slice, lenStr_string, str_size, fpureA_some, fnilA_ptr, faddA_ptr, addr_add, Nat.zero_add, Nat.add_zero, fpureQ_k, fpureQ_nilA, fpureQ_addA, fpureQ_pureA, fpureQ_guardA, fpureQ_idxSlA, fpureQ_pickA, freadQ_loadA, freadQ_loadNA, freadQ_b2sA, freadQ_guardA, freadQ_slSlA, freadQ_k, fendA, fallA_one, fstillA_nil, fguardA_tt, fguardA_ff, fguardA_tf, fguardA_ft, fguardA_undef, fpickA_true, fpickA_false, fcondA_true, fcondA_false, binA_add, binA_sub, binA_mul, binA_eql, binA_neq, binA_lss, binA_leq, binA_gtr, binA_geq, unA_not, Bool.not_true, Bool.not_false, convA_int, extA_tuple, List.getElem?_toArray, List.getElem?_cons_zero, List.getElem?_cons_succ, beq_self_eq_true]
      exact on h p _ S f w o
    have c3 : (o1.kind == 2) = false := by simp [k2]
    simp only [c3, fcondA_false]
    by_cases k3 : o1.kind = 3
    · have c4 : (o1.kind == 3) = true := by simp [k3]
      simp only [c4, fcondA_true]
      obtain ⟨S1, T1, wa, wb, d, rfl⟩ := w
      refine callA_of (Take_spec wa o) fun v h1 ⟨SO, w1, v1, d1, s1⟩ f1 => ?_
      have bf := wb.frame s1 d
      refine callA_of (xTake_spec bf o) fun u h2 ⟨TO, w2, v2, d2, s2⟩ f2 => ?_
      have hT1 : ∀ c, c ∈ SO → c ∉ T1 := fun c hc he => by have := d1 c hc; have := (wb.lt c he).2; omega
      have v1f := v1.frame s2 hT1
      refine callA_of (sameSectors_eq v1f v2 (by have := o.secs_len; omega) (fun r hr => by have := o.secs r hr; have := o.size; omega)) fun v3 h3 ⟨e, e3⟩ f3 => ?_
      subst e e3
      obtain ⟨P, s⟩ := Pair.steps d (fun b hb => (wa.lt b hb).2) (fun c hc => (wb.lt c hc).2) (s1.less (T := S1) (fun b hb => by simp [hb])) w1 (s2.less (T := T1) (fun b hb => by simp [hb])) w2
      have hsl := o.secs_len
      refine ⟨st.secs.length + 1, muts_loop (S := SO) (by omega) st.secs.length 0 h3 (by omega) f3 (v1f.muts fun r hr => by have := o.secs r hr; have := o.size; omega) (fun b hb => (v1f.lt b hb).2) fun h4 f4 s4 => ?_⟩
      simp only [lenSl_slice, lenStr_string, str_size, fpureA_some, fnilA_ptr, faddA_ptr, addr_add, Nat.zero_add, Nat.add_zero, fpureQ_k, fpureQ_nilA, fpureQ_addA, fpureQ_pureA, fpureQ_guardA, fpureQ_idxSlA, fpureQ_pickA, freadQ_loadA, freadQ_loadNA, freadQ_b2sA, freadQ_guardA, freadQ_slSlA, freadQ_k, fendA, fallA_one, fstillA_nil, fguardA_tt, fguardA_ff, fguardA_tf, fguardA_ft, fguardA_undef, fpickA_true, fpickA_false, fcondA_true, fcondA_false, binA_add, binA_sub, binA_mul, binA_eql, binA_neq, binA_lss, binA_leq, binA_gtr, binA_geq, unA_not, Bool.not_true, Bool.not_false, convA_int, extA_tuple, List.getElem?_toArray, List.getElem?_cons_zero, List.getElem?_cons_succ, e5]
      have hdis : ∀ b, b ∈ S1 ++ T1 → b ∉ SO := fun b hb he => by
        have h5 := d1 b he
        rcases List.mem_append.1 hb with e | e
        · have := (wa.lt b e).2; omega
        · have := (wb.lt b e).2; omega
      have P4 := P.frame s4 hdis
      exact on h4 p st.take _ f4 P4 o.take
    have c4 : (o1.kind == 3) = false := by simp [k3]
    simp only [c4, fcondA_false]
    by_cases k4 : o1.kind = 4
    · have c5 : (o1.kind == 4) = true := by simp [k4]
      simp only [c5, fcondA_true]
      have := pair_records (K := fun v120 v124 => pureA (binA .eql v120 v124) fun v125 => pureA (unA .not v125) fun v127 => condA v127 (kr (.bool false) (ptr p) (ptr q)) (deduplaw07_JournalWrites_L1 prog w0 k0 kr (post.length + 1) (.slice a os.length c) x8 (ptr p) (ptr q) (.int .i64 ((pre.length + 1 : Nat) : Int)))) w o fun _ => by
        simp only [lenSl_slice, lenStr_string, str_size, fpureA_some, fnilA_ptr, faddA_ptr, addr_add, Nat.zero_add, Nat.add_zero, fpureQ_k, fpureQ_nilA, fpureQ_addA, fpureQ_pureA, fpureQ_guardA, fpureQ_idxSlA, fpureQ_pickA, freadQ_loadA, freadQ_loadNA, freadQ_b2sA, freadQ_guardA, freadQ_slSlA, freadQ_k, fendA, fallA_one, fstillA_nil, fguardA_tt, fguardA_ff, fguardA_tf, fguardA_ft, fguardA_undef, fpickA_true, fpickA_false, fcondA_true, fcondA_false, binA_add, binA_sub, binA_mul, binA_eql, binA_neq, binA_lss, binA_leq, binA_gtr, binA_geq, unA_not, Bool.not_true, Bool.not_false, convA_int, extA_tuple, List.getElem?_toArray, List.getElem?_cons_zero, List.getElem?_cons_succ, beq_self_eq_true]
        exact on h p _ S f w o
      simp only [ptr, lenSl_slice, lenStr_string, str_size, fpureA_some, fnilA_ptr, faddA_ptr, addr_add, Nat.zero_add, Nat.add_zero, fpureQ_k, fpureQ_nilA, fpureQ_addA, fpureQ_pureA, fpureQ_guardA, fpureQ_idxSlA, fpureQ_pickA, freadQ_loadA, freadQ_loadNA, freadQ_b2sA, freadQ_guardA, freadQ_slSlA, freadQ_k, fendA, fallA_one, fstillA_nil, fguardA_tt, fguardA_ff, fguardA_tf, fguardA_ft, fguardA_undef, fpickA_true, fpickA_false, fcondA_true, fcondA_false, binA_add, binA_sub, binA_mul, binA_eql, binA_neq, binA_lss, binA_leq, binA_gtr, binA_geq, unA_not, Bool.not_true, Bool.not_false, convA_int, extA_tuple, List.getElem?_toArray, List.getElem?_cons_zero, List.getElem?_cons_succ] at this ⊢
      exact this
    have c5 : (o1.kind == 4) = false := by simp [k4]
    simp only [c5, fcondA_false]
    obtain ⟨S1, T1, wa, wb, d, rfl⟩ := w
    refine callA_of (Fork_spec wa o) fun v5 h5 ⟨p2, S5, e, w5, d5, s5⟩ f5 => ?_
    subst e
    simp only [lenSl_slice, lenStr_string, str_size, fpureA_some, fnilA_ptr, faddA_ptr, addr_add, Nat.zero_add, Nat.add_zero, fpureQ_k, fpureQ_nilA, fpureQ_addA, fpureQ_pureA, fpureQ_guardA, fpureQ_idxSlA, fpureQ_pickA, freadQ_loadA, freadQ_loadNA, freadQ_b2sA, freadQ_guardA, freadQ_slSlA, freadQ_k, fendA, fallA_one, fstillA_nil, fguardA_tt, fguardA_ff, fguardA_tf, fguardA_ft, fguardA_undef, fpickA_true, fpickA_false, fcondA_true, fcondA_false, binA_add, binA_sub, binA_mul, binA_eql, binA_neq, binA_lss, binA_leq, binA_gtr, binA_geq, unA_not, Bool.not_true, Bool.not_false, convA_int, extA_tuple, List.getElem?_toArray, List.getElem?_cons_zero, List.getElem?_cons_succ, binPtr_ptr]
    refine ext_idx hx f5 (by omega) (by omega) hyl fun b o0 hb ld => ?_
    simp only [lenSl_slice, lenStr_string, str_size, fpureA_some, fnilA_ptr, faddA_ptr, addr_add, Nat.zero_add, Nat.add_zero, fpureQ_k, fpureQ_nilA, fpureQ_addA, fpureQ_pureA, fpureQ_guardA, fpureQ_idxSlA, fpureQ_pickA, freadQ_loadA, freadQ_loadNA, freadQ_b2sA, freadQ_guardA, freadQ_slSlA, freadQ_k, fendA, fallA_one, fstillA_nil, fguardA_tt, fguardA_ff, fguardA_tf, fguardA_ft, fguardA_undef, fpickA_true, fpickA_false, fcondA_true, fcondA_false, binA_add, binA_sub, binA_mul, binA_eql, binA_neq, binA_lss, binA_leq, binA_gtr, binA_geq, unA_not, Bool.not_true, Bool.not_false, convA_int, extA_tuple, List.getElem?_toArray, List.getElem?_cons_zero, List.getElem?_cons_succ]
    refine ld h5 1 (.string (str o1.s)) _ f5 (by omega) (by rw [jop_get he 1 (by omega)]; rfl) ?_
    have wa5 := wa.frame s5 (by simp)
    have wb5 := wb.frame s5 (by simp)
    refine callA_of (Append_spec wa5 o o1.s (hok o1 ho)) fun v6 h6 ⟨e, S6, w6, s6⟩ f6 => ?_
    refine callA_of (Take_spec w6 (o.append _)) fun v7 h7 ⟨S7, w7, v7', d7, s7⟩ f7 => ?_
    have h51 : ∀ b, b ∈ S5 → b ∉ S1 := fun b hb he => by have := d5 b hb; have := (wa.lt b he).2; omega
    have a56 := apart_step s6 h51 (fun b hb => (w5.lt b hb).2)
    have w57 := (w5.frame s6 h51).frame s7 a56
    have t56 := apart_step s6 d (fun b hb => (wb5.lt b hb).2)
    have wb7 := (wb5.frame s6 d).frame s7 t56
    refine on h7 p2 st (S5 ++ T1) f7 ⟨S5, T1, w57, wb7, fun b hb he => ?_, rfl⟩ o
    have := d5 b he
    have := (wb.lt b hb).2
    omega
theorem JournalWrites_spec (n s : Int) (g : Nat) {h : Hp} (hn : -9223372036854775808 ≤ n ∧ n ≤ 9223372036854775807) (hg : g < 18446744073709551616) {v : Value} {os : List JOp} (hx : ExtSl w0 2 v os.length (os.flatMap JOp.e)) (hok : ∀ o, o ∈ os → o.s.length ≤ 1000000000) (hos : os.length ≤ 1000000000) :
    ACalls prog w0 n_deduplaw07_JournalWrites [.int .i64 n, .int .i64 s, .int .u64 g, v] h fun v h' => v = .bool true := by
  obtain ⟨av, cv, hv, -⟩ := hx.sl
  refine ACalls.of_fit (by rw [hv]; simp) fun f => c_deduplaw07_JournalWrites (by rw [hv]; simp) ?_
  simp only [s_deduplaw07_JournalWrites]
  refine callA_of lives_spec fun v1 h1 ⟨e, s1⟩ f1 => ?_
  subst e
  simp only [lenSl_slice, lenStr_string, str_size, fpureA_some, fnilA_ptr, faddA_ptr, addr_add, Nat.zero_add, Nat.add_zero, fpureQ_k, fpureQ_nilA, fpureQ_addA, fpureQ_pureA, fpureQ_guardA, fpureQ_idxSlA, fpureQ_pickA, freadQ_loadA, freadQ_loadNA, freadQ_b2sA, freadQ_guardA, freadQ_slSlA, freadQ_k, fendA, fallA_one, fstillA_nil, fguardA_tt, fguardA_ff, fguardA_tf, fguardA_ft, fguardA_undef, fpickA_true, fpickA_false, fcondA_true, fcondA_false, binA_add, binA_sub, binA_mul, binA_eql, binA_neq, binA_lss, binA_leq, binA_gtr, binA_geq, unA_not, Bool.not_true, Bool.not_false, convA_int, extA_tuple, List.getElem?_toArray, List.getElem?_cons_zero, List.getElem?_cons_succ]
  refine callA_of (JNew_spec n s g hn) fun v2 h2 ⟨gt, gf⟩ f2 => ?_
  cases hj : jok n s with
  | false =>
    obtain ⟨e, e2⟩ := gf hj
    subst e e2
    simp only [lenSl_slice, lenStr_string, str_size, fpureA_some, fnilA_ptr, faddA_ptr, addr_add, Nat.zero_add, Nat.add_zero, fpureQ_k, fpureQ_nilA, fpureQ_addA, fpureQ_pureA, fpureQ_guardA, fpureQ_idxSlA, fpureQ_pickA, freadQ_loadA, freadQ_loadNA, freadQ_b2sA, freadQ_guardA, freadQ_slSlA, freadQ_k, fendA, fallA_one, fstillA_nil, fguardA_tt, fguardA_ff, fguardA_tf, fguardA_ft, fguardA_undef, fpickA_true, fpickA_false, fcondA_true, fcondA_false, binA_add, binA_sub, binA_mul, binA_eql, binA_neq, binA_lss, binA_leq, binA_gtr, binA_geq, unA_not, Bool.not_true, Bool.not_false, convA_int, extA_tuple, List.getElem?_toArray, List.getElem?_cons_zero, List.getElem?_cons_succ]
    refine callA_of (xNew_spec n s g hn) fun v3 h3 ⟨gt3, gf3⟩ f3 => ?_
    obtain ⟨e, e3⟩ := gf3 hj
    subst e e3
    simp only [lenSl_slice, lenStr_string, str_size, fpureA_some, fnilA_ptr, faddA_ptr, addr_add, Nat.zero_add, Nat.add_zero, fpureQ_k, fpureQ_nilA, fpureQ_addA, fpureQ_pureA, fpureQ_guardA, fpureQ_idxSlA, fpureQ_pickA, freadQ_loadA, freadQ_loadNA, freadQ_b2sA, freadQ_guardA, freadQ_slSlA, freadQ_k, fendA, fallA_one, fstillA_nil, fguardA_tt, fguardA_ff, fguardA_tf, fguardA_ft, fguardA_undef, fpickA_true, fpickA_false, fcondA_true, fcondA_false, binA_add, binA_sub, binA_mul, binA_eql, binA_neq, binA_lss, binA_leq, binA_gtr, binA_geq, unA_not, Bool.not_true, Bool.not_false, convA_int, extA_tuple, List.getElem?_toArray, List.getElem?_cons_zero, List.getElem?_cons_succ, bne_self_eq_false, binPtrA_eql0, binBoolA_neq, beq_self_eq_true, retA_iff, oneOf_one]
    simp
  | true =>
    obtain ⟨e, w2, s2⟩ := gt hj
    subst e
    simp only [lenSl_slice, lenStr_string, str_size, fpureA_some, fnilA_ptr, faddA_ptr, addr_add, Nat.zero_add, Nat.add_zero, fpureQ_k, fpureQ_nilA, fpureQ_addA, fpureQ_pureA, fpureQ_guardA, fpureQ_idxSlA, fpureQ_pickA, freadQ_loadA, freadQ_loadNA, freadQ_b2sA, freadQ_guardA, freadQ_slSlA, freadQ_k, fendA, fallA_one, fstillA_nil, fguardA_tt, fguardA_ff, fguardA_tf, fguardA_ft, fguardA_undef, fpickA_true, fpickA_false, fcondA_true, fcondA_false, binA_add, binA_sub, binA_mul, binA_eql, binA_neq, binA_lss, binA_leq, binA_gtr, binA_geq, unA_not, Bool.not_true, Bool.not_false, convA_int, extA_tuple, List.getElem?_toArray, List.getElem?_cons_zero, List.getElem?_cons_succ]
    refine callA_of (xNew_spec n s g hn) fun v3 h3 ⟨gt3, gf3⟩ f3 => ?_
    obtain ⟨e, w3, s3⟩ := gt3 hj
    subst e
    have o0 : JS.Ok ⟨n.toNat, s.toNat, g, [], 0, 0⟩ := JS.Ok.new hj hg
    have hne : h1.next < h2.next := (w2.lt _ w2.mem).2
    have P0 : Pair w0 h3 h1.next h2.next ⟨n.toNat, s.toNat, g, [], 0, 0⟩ ([h1.next] ++ [h2.next]) := ⟨[h1.next], [h2.next], w2.frame s3 (by simp), w3, by simp; omega, rfl⟩
    simp only [lenSl_slice, lenStr_string, str_size, fpureA_some, fnilA_ptr, faddA_ptr, addr_add, Nat.zero_add, Nat.add_zero, fpureQ_k, fpureQ_nilA, fpureQ_addA, fpureQ_pureA, fpureQ_guardA, fpureQ_idxSlA, fpureQ_pickA, freadQ_loadA, freadQ_loadNA, freadQ_b2sA, freadQ_guardA, freadQ_slSlA, freadQ_k, fendA, fallA_one, fstillA_nil, fguardA_tt, fguardA_ff, fguardA_tf, fguardA_ft, fguardA_undef, fpickA_true, fpickA_false, fcondA_true, fcondA_false, binA_add, binA_sub, binA_mul, binA_eql, binA_neq, binA_lss, binA_leq, binA_gtr, binA_geq, unA_not, Bool.not_true, Bool.not_false, convA_int, extA_tuple, List.getElem?_toArray, List.getElem?_cons_zero, List.getElem?_cons_succ, bne_self_eq_false, binPtr_ptr, binBoolA_neq, beq_self_eq_true]
    refine ⟨os.length + 1, jwrites_loop hx hok hos os [] h3 _ _ _ rfl f3 P0 o0 fun h4 p4 st S4 f4 w4 o4 => ?_⟩
    refine pair_left (K := fun v129 v131 => _) w4 o4 fun _ => ?_
    simp only [lenSl_slice, lenStr_string, str_size, fpureA_some, fnilA_ptr, faddA_ptr, addr_add, Nat.zero_add, Nat.add_zero, fpureQ_k, fpureQ_nilA, fpureQ_addA, fpureQ_pureA, fpureQ_guardA, fpureQ_idxSlA, fpureQ_pickA, freadQ_loadA, freadQ_loadNA, freadQ_b2sA, freadQ_guardA, freadQ_slSlA, freadQ_k, fendA, fallA_one, fstillA_nil, fguardA_tt, fguardA_ff, fguardA_tf, fguardA_ft, fguardA_undef, fpickA_true, fpickA_false, fcondA_true, fcondA_false, binA_add, binA_sub, binA_mul, binA_eql, binA_neq, binA_lss, binA_leq, binA_gtr, binA_geq, unA_not, Bool.not_true, Bool.not_false, convA_int, extA_tuple, List.getElem?_toArray, List.getElem?_cons_zero, List.getElem?_cons_succ, beq_self_eq_true]
    have := pair_records (K := fun v135 v139 => pureA (binA .eql v135 v139) fun v140 => guardA v140 true (fun K => K (ptr p4)) fun v143 => guardA v140 true (fun K => K (ptr h2.next)) fun v145 => guardA v140 true (callA prog w0 n_journal_Writer_Take [v143]) fun v144 => guardA v140 true (callA prog w0 n_dedupref07_Writer_Take [v145]) fun v146 => guardA v140 true (callA prog w0 n_deduplaw07_sameSectors [v144, v146]) fun v147 => pickA v140 v147 (.bool false) fun v8 => retA [v8] fun v h' => v = .bool true) w4 o4 fun _ => by
      simp only [lenSl_slice, lenStr_string, str_size, fpureA_some, fnilA_ptr, faddA_ptr, addr_add, Nat.zero_add, Nat.add_zero, fpureQ_k, fpureQ_nilA, fpureQ_addA, fpureQ_pureA, fpureQ_guardA, fpureQ_idxSlA, fpureQ_pickA, freadQ_loadA, freadQ_loadNA, freadQ_b2sA, freadQ_guardA, freadQ_slSlA, freadQ_k, fendA, fallA_one, fstillA_nil, fguardA_tt, fguardA_ff, fguardA_tf, fguardA_ft, fguardA_undef, fpickA_true, fpickA_false, fcondA_true, fcondA_false, binA_add, binA_sub, binA_mul, binA_eql, binA_neq, binA_lss, binA_leq, binA_gtr, binA_geq, unA_not, Bool.not_true, Bool.not_false, convA_int, extA_tuple, List.getElem?_toArray, List.getElem?_cons_zero, List.getElem?_cons_succ, beq_self_eq_true]
      refine pair_take w4 o4 fun h8 f8 w8 s8 => ?_
      simp
    simp only [ptr, lenSl_slice, lenStr_string, str_size, fpureA_some, fnilA_ptr, faddA_ptr, addr_add, Nat.zero_add, Nat.add_zero, fpureQ_k, fpureQ_nilA, fpureQ_addA, fpureQ_pureA, fpureQ_guardA, fpureQ_idxSlA, fpureQ_pickA, freadQ_loadA, freadQ_loadNA, freadQ_b2sA, freadQ_guardA, freadQ_slSlA, freadQ_k, fendA, fallA_one, fstillA_nil, fguardA_tt, fguardA_ff, fguardA_tf, fguardA_ft, fguardA_undef, fpickA_true, fpickA_false, fcondA_true, fcondA_false, binA_add, binA_sub, binA_mul, binA_eql, binA_neq, binA_lss, binA_leq, binA_gtr, binA_geq, unA_not, Bool.not_true, Bool.not_false, convA_int, extA_tuple, List.getElem?_toArray, List.getElem?_cons_zero, List.getElem?_cons_succ] at this ⊢
    exact this
end
end Go.Proofs.Ytiakadkooclelaa.Ah
