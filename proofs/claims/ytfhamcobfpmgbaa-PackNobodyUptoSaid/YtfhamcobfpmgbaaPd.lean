/- Clones, what is held against each other; both chunks. -/
import Derived.Test.YtfhamcobfpmgbaaPc
set_option linter.unusedVariables false
set_option linter.unusedSimpArgs false
namespace Go.Proofs.Ytfhamcobfpmgbaa.Ah
open Go

section
variable {w0 : World} {h : Hp}
theorem binSl_nil0 : binSlA .eql (.slice none 0 0) (.slice none 0 0) = some (.bool true) := rfl
/-- slices.Clone of bytes. -/
theorem cloneB_spec {x : Value} {l : List UInt8} (v : Bs w0 h x l) (hl : l.length ≤ 1000000000) :
    ACalls prog w0 n_slices_Clone_lbyte_byte [x] h fun r h' => (∃ S', GV w0 h' 1 r l.length (bvs l) S' ∧ (0 < l.length → Vec w0 h' 1 r l.length (bvs l) S') ∧ Step h h' [] S') ∧ (x = .slice none 0 0 → r = .slice none 0 0) := by
  refine ACalls.of_fit (by simpa using v.junk) fun f => c_slices_Clone_lbyte_byte (by simpa using v.junk) ?_
  simp only [s_slices_Clone_lbyte_byte]
  obtain ⟨a, c, hx⟩ := v.slice
  cases a with
  | none =>
    subst hx
    have h0 : l = [] := by
      rcases v.src.2 with ⟨h0, -⟩ | ⟨-, ad, e, -⟩
      · exact List.eq_nil_of_length_eq_zero h0
      · simp at e
    subst h0
    simp only [show binSlA .eql (.slice none ([] : List UInt8).length c) (.slice none 0 0) = some (.bool true) from rfl, lenSl_slice, lenStr_string, str_size, fpureA_some, fnilA_ptr, faddA_ptr, addr_add, Nat.zero_add, Nat.add_zero, fpureQ_k, fpureQ_nilA, fpureQ_addA, fpureQ_pureA, fpureQ_guardA, fpureQ_idxSlA, fpureQ_pickA, freadQ_loadA, freadQ_loadNA, freadQ_b2sA, freadQ_guardA, freadQ_slSlA, freadQ_k, fendA, fallA_one, fstillA_nil, fguardA_tt, fguardA_ff, fguardA_tf, fguardA_ft, fguardA_undef, fpickA_true, fpickA_false, fcondA_true, fcondA_false, binA_add, binA_sub, binA_mul, binA_eql, binA_neq, binA_lss, binA_leq, binA_gtr, binA_geq, unA_not, Bool.not_true, Bool.not_false, convA_int, extA_tuple, List.getElem?_toArray, List.getElem?_cons_zero, List.getElem?_cons_succ, retA_iff, oneOf_one]
    refine ⟨by simp, ⟨[], .inl .nil, fun h0 => by simp at h0, .refl _ _ (by simp)⟩, fun _ => by trivial⟩
  | some ad =>
    have hb : binSlA .eql x (.slice none 0 0) = some (.bool false) := by rw [hx]; rfl
    simp only [hb, lenSl_slice, lenStr_string, str_size, fpureA_some, fnilA_ptr, faddA_ptr, addr_add, Nat.zero_add, Nat.add_zero, fpureQ_k, fpureQ_nilA, fpureQ_addA, fpureQ_pureA, fpureQ_guardA, fpureQ_idxSlA, fpureQ_pickA, freadQ_loadA, freadQ_loadNA, freadQ_b2sA, freadQ_guardA, freadQ_slSlA, freadQ_k, fendA, fallA_one, fstillA_nil, fguardA_tt, fguardA_ff, fguardA_tf, fguardA_ft, fguardA_undef, fpickA_true, fpickA_false, fcondA_true, fcondA_false, binA_add, binA_sub, binA_mul, binA_eql, binA_neq, binA_lss, binA_leq, binA_gtr, binA_geq, unA_not, Bool.not_true, Bool.not_false, convA_int, extA_tuple, List.getElem?_toArray, List.getElem?_cons_zero, List.getElem?_cons_succ]
    refine app_new f v (by omega) (by omega) (by omega) fun x' h' S' g gv st hn => ?_
    obtain ⟨a', c', hx'⟩ := g.slice
    simp only [retA_iff, oneOf_one]
    refine ⟨by rw [hx']; simp, ⟨S', g, gv, st⟩, fun e => by rw [hx] at e; simp at e⟩
/-- slices.Clone of slots. -/
theorem cloneS_spec {x : Value} {n : Nat} {ys : List Value} (v : Sl w0 h 2 x n ys) (hl : n ≤ 1000000000) :
    ACalls prog w0 n_slices_Clone_lapi_Slot_api_Slot [x] h fun r h' => ∃ S', GV w0 h' 2 r n ys S' ∧ Step h h' [] S' := by
  refine ACalls.of_fit (by simpa using v.junk) fun f => c_slices_Clone_lapi_Slot_api_Slot (by simpa using v.junk) ?_
  simp only [s_slices_Clone_lapi_Slot_api_Slot]
  obtain ⟨a, c, hx⟩ := v.slice
  cases a with
  | none =>
    subst hx
    have h0 : n = 0 ∧ ys = [] := by
      rcases v.src.2 with h0 | ⟨-, ad, e, -⟩
      · exact h0
      · simp at e
    obtain ⟨rfl, rfl⟩ := h0
    simp only [show binSlA .eql (.slice none 0 c) (.slice none 0 0) = some (.bool true) from rfl, lenSl_slice, lenStr_string, str_size, fpureA_some, fnilA_ptr, faddA_ptr, addr_add, Nat.zero_add, Nat.add_zero, fpureQ_k, fpureQ_nilA, fpureQ_addA, fpureQ_pureA, fpureQ_guardA, fpureQ_idxSlA, fpureQ_pickA, freadQ_loadA, freadQ_loadNA, freadQ_b2sA, freadQ_guardA, freadQ_slSlA, freadQ_k, fendA, fallA_one, fstillA_nil, fguardA_tt, fguardA_ff, fguardA_tf, fguardA_ft, fguardA_undef, fpickA_true, fpickA_false, fcondA_true, fcondA_false, binA_add, binA_sub, binA_mul, binA_eql, binA_neq, binA_lss, binA_leq, binA_gtr, binA_geq, unA_not, Bool.not_true, Bool.not_false, convA_int, extA_tuple, List.getElem?_toArray, List.getElem?_cons_zero, List.getElem?_cons_succ, retA_iff, oneOf_one]
    refine ⟨by simp, [], .inl .nil, .refl _ _ (by simp)⟩
  | some ad =>
    have hb : binSlA .eql x (.slice none 0 0) = some (.bool false) := by rw [hx]; rfl
    simp only [hb, lenSl_slice, lenStr_string, str_size, fpureA_some, fnilA_ptr, faddA_ptr, addr_add, Nat.zero_add, Nat.add_zero, fpureQ_k, fpureQ_nilA, fpureQ_addA, fpureQ_pureA, fpureQ_guardA, fpureQ_idxSlA, fpureQ_pickA, freadQ_loadA, freadQ_loadNA, freadQ_b2sA, freadQ_guardA, freadQ_slSlA, freadQ_k, fendA, fallA_one, fstillA_nil, fguardA_tt, fguardA_ff, fguardA_tf, fguardA_ft, fguardA_undef, fpickA_true, fpickA_false, fcondA_true, fcondA_false, binA_add, binA_sub, binA_mul, binA_eql, binA_neq, binA_lss, binA_leq, binA_gtr, binA_geq, unA_not, Bool.not_true, Bool.not_false, convA_int, extA_tuple, List.getElem?_toArray, List.getElem?_cons_zero, List.getElem?_cons_succ]
    refine app_new f v (by omega) (by omega) (by omega) fun x' h' S' g gv st hn => ?_
    obtain ⟨a', c', hx'⟩ := g.slice
    simp only [retA_iff, oneOf_one]
    exact ⟨by rw [hx']; simp, S', g, st⟩
/-! ### Bytes held against each other -/
theorem bv_ne (a b : UInt8) : binA .neq (bv a) (bv b) = some (.bool (decide (a ≠ b))) := by
  simp only [bv, binA_neq]
  congr 2
  by_cases e : a = b
  · subst e; simp
  · have : a.toNat ≠ b.toNat := fun q => e (UInt8.toNat_inj.1 q)
    rw [decide_eq_true e, bne_iff_ne]
    omega
theorem sameB_loop {k0 kr : Value → Hp → Prop} {a a' : Option Addr} {c c' : Nat} {l m : List UInt8} (v : Bs w0 h (.slice a l.length c) l) (w : Bs w0 h (.slice a' m.length c') m) (hlm : l.length = m.length) (hl : l.length ≤ 1000000000) :
    ∀ (post pre : List UInt8) (post' pre' : List UInt8), pre ++ post = l → pre' ++ post' = m → pre.length = pre'.length → (post = post' → k0 (.bool false) h) → (post ≠ post' → kr (.bool false) h) →
    deduplaw13_sameBytes_L1 prog w0 k0 kr (post.length + 1) (.slice a l.length c) (.slice a' m.length c') (.bool false) (.int .i64 (pre.length : Int)) h := by
  intro post
  induction post with
  | nil =>
    intro pre post' pre' he he' hp hk hkr
    have : pre = l := by simpa using he
    subst this
    have : post' = [] := by
      have := congrArg List.length he'
      simp at this
      exact List.eq_nil_of_length_eq_zero (by omega)
    rw [List.length_nil, deduplaw13_sameBytes_L1]
    simp only [deduplaw13_sameBytes_B1, lenSl_slice, lenStr_string, str_size, fpureA_some, fnilA_ptr, faddA_ptr, addr_add, Nat.zero_add, Nat.add_zero, fpureQ_k, fpureQ_nilA, fpureQ_addA, fpureQ_pureA, fpureQ_guardA, fpureQ_idxSlA, fpureQ_pickA, freadQ_loadA, freadQ_loadNA, freadQ_b2sA, freadQ_guardA, freadQ_slSlA, freadQ_k, fendA, fallA_one, fstillA_nil, fguardA_tt, fguardA_ff, fguardA_tf, fguardA_ft, fguardA_undef, fpickA_true, fpickA_false, fcondA_true, fcondA_false, binA_add, binA_sub, binA_mul, binA_eql, binA_neq, binA_lss, binA_leq, binA_gtr, binA_geq, unA_not, Bool.not_true, Bool.not_false, convA_int, extA_tuple, List.getElem?_toArray, List.getElem?_cons_zero, List.getElem?_cons_succ, Int.lt_irrefl, decide_false]
    exact hk this.symm
  | cons b post ih =>
    intro pre post' pre' he he' hp hk hkr
    have hlen : pre.length + (post.length + 1) = l.length := by rw [← he]; simp
    cases post' with
    | nil =>
      have := congrArg List.length he'
      simp at this
      omega
    | cons b' post' =>
      have hg : l[pre.length]? = some b := by rw [← he]; simp
      have hg' : m[pre.length]? = some b' := by rw [← he', hp]; simp
      have c1 : decide ((pre.length : Int) < (l.length : Int)) = true := decide_eq_true (by omega)
      have e6 : IntKind.i64.wrap ((pre.length : Int) + 1) = ((pre.length + 1 : Nat) : Int) := by rw [IntWalk.i64_in _ (by omega)]; simp
      rw [List.length_cons, deduplaw13_sameBytes_L1]
      simp only [deduplaw13_sameBytes_B1, lenSl_slice, lenStr_string, str_size, fpureA_some, fnilA_ptr, faddA_ptr, addr_add, Nat.zero_add, Nat.add_zero, fpureQ_k, fpureQ_nilA, fpureQ_addA, fpureQ_pureA, fpureQ_guardA, fpureQ_idxSlA, fpureQ_pickA, freadQ_loadA, freadQ_loadNA, freadQ_b2sA, freadQ_guardA, freadQ_slSlA, freadQ_k, fendA, fallA_one, fstillA_nil, fguardA_tt, fguardA_ff, fguardA_tf, fguardA_ft, fguardA_undef, fpickA_true, fpickA_false, fcondA_true, fcondA_false, binA_add, binA_sub, binA_mul, binA_eql, binA_neq, binA_lss, binA_leq, binA_gtr, binA_geq, unA_not, Bool.not_true, Bool.not_false, convA_int, extA_tuple, List.getElem?_toArray, List.getElem?_cons_zero, List.getElem?_cons_succ, c1]
      refine idx_load1 v.src (by simp) (by rw [bvs_get, hg]; rfl) ?_
      refine idx_load1 w.src (by simp) (by rw [bvs_get, hg']; rfl) ?_
      simp only [bv_ne, lenSl_slice, lenStr_string, str_size, fpureA_some, fnilA_ptr, faddA_ptr, addr_add, Nat.zero_add, Nat.add_zero, fpureQ_k, fpureQ_nilA, fpureQ_addA, fpureQ_pureA, fpureQ_guardA, fpureQ_idxSlA, fpureQ_pickA, freadQ_loadA, freadQ_loadNA, freadQ_b2sA, freadQ_guardA, freadQ_slSlA, freadQ_k, fendA, fallA_one, fstillA_nil, fguardA_tt, fguardA_ff, fguardA_tf, fguardA_ft, fguardA_undef, fpickA_true, fpickA_false, fcondA_true, fcondA_false, binA_add, binA_sub, binA_mul, binA_eql, binA_neq, binA_lss, binA_leq, binA_gtr, binA_geq, unA_not, Bool.not_true, Bool.not_false, convA_int, extA_tuple, List.getElem?_toArray, List.getElem?_cons_zero, List.getElem?_cons_succ]
      by_cases e : b = b'
      · have c2 : decide (b ≠ b') = false := decide_eq_false (by simpa using e)
        simp only [c2, lenSl_slice, lenStr_string, str_size, fpureA_some, fnilA_ptr, faddA_ptr, addr_add, Nat.zero_add, Nat.add_zero, fpureQ_k, fpureQ_nilA, fpureQ_addA, fpureQ_pureA, fpureQ_guardA, fpureQ_idxSlA, fpureQ_pickA, freadQ_loadA, freadQ_loadNA, freadQ_b2sA, freadQ_guardA, freadQ_slSlA, freadQ_k, fendA, fallA_one, fstillA_nil, fguardA_tt, fguardA_ff, fguardA_tf, fguardA_ft, fguardA_undef, fpickA_true, fpickA_false, fcondA_true, fcondA_false, binA_add, binA_sub, binA_mul, binA_eql, binA_neq, binA_lss, binA_leq, binA_gtr, binA_geq, unA_not, Bool.not_true, Bool.not_false, convA_int, extA_tuple, List.getElem?_toArray, List.getElem?_cons_zero, List.getElem?_cons_succ, e6]
        have := ih (pre ++ [b]) post' (pre' ++ [b']) (by simpa using he) (by simpa using he') (by simp [hp]) (fun q => hk (by rw [e, q])) (fun q => hkr (by rw [e]; simpa using q))
        simpa using this
      · have c2 : decide (b ≠ b') = true := decide_eq_true e
        simp only [c2, lenSl_slice, lenStr_string, str_size, fpureA_some, fnilA_ptr, faddA_ptr, addr_add, Nat.zero_add, Nat.add_zero, fpureQ_k, fpureQ_nilA, fpureQ_addA, fpureQ_pureA, fpureQ_guardA, fpureQ_idxSlA, fpureQ_pickA, freadQ_loadA, freadQ_loadNA, freadQ_b2sA, freadQ_guardA, freadQ_slSlA, freadQ_k, fendA, fallA_one, fstillA_nil, fguardA_tt, fguardA_ff, fguardA_tf, fguardA_ft, fguardA_undef, fpickA_true, fpickA_false, fcondA_true, fcondA_false, binA_add, binA_sub, binA_mul, binA_eql, binA_neq, binA_lss, binA_leq, binA_gtr, binA_geq, unA_not, Bool.not_true, Bool.not_false, convA_int, extA_tuple, List.getElem?_toArray, List.getElem?_cons_zero, List.getElem?_cons_succ]
        exact hkr (by simp [e])
theorem sameB_spec {x y : Value} {l m : List UInt8} (v : Bs w0 h x l) (w : Bs w0 h y m) (hl : l.length ≤ 1000000000) :
    ACalls prog w0 n_deduplaw13_sameBytes [x, y] h fun r h' => r = .bool (decide (l = m)) ∧ h' = h := by
  refine ACalls.of_fit (by simpa using ⟨v.junk, w.junk⟩) fun f => c_deduplaw13_sameBytes (by simpa using ⟨v.junk, w.junk⟩) ?_
  obtain ⟨a, c, rfl⟩ := v.slice
  obtain ⟨a', c', rfl⟩ := w.slice
  simp only [s_deduplaw13_sameBytes, lenSl_slice, lenStr_string, str_size, fpureA_some, fnilA_ptr, faddA_ptr, addr_add, Nat.zero_add, Nat.add_zero, fpureQ_k, fpureQ_nilA, fpureQ_addA, fpureQ_pureA, fpureQ_guardA, fpureQ_idxSlA, fpureQ_pickA, freadQ_loadA, freadQ_loadNA, freadQ_b2sA, freadQ_guardA, freadQ_slSlA, freadQ_k, fendA, fallA_one, fstillA_nil, fguardA_tt, fguardA_ff, fguardA_tf, fguardA_ft, fguardA_undef, fpickA_true, fpickA_false, fcondA_true, fcondA_false, binA_add, binA_sub, binA_mul, binA_eql, binA_neq, binA_lss, binA_leq, binA_gtr, binA_geq, unA_not, Bool.not_true, Bool.not_false, convA_int, extA_tuple, List.getElem?_toArray, List.getElem?_cons_zero, List.getElem?_cons_succ]
  by_cases hlm : l.length = m.length
  · have c1 : ((l.length : Int) != (m.length : Int)) = false := by rw [hlm]; simp
    simp only [c1, lenSl_slice, lenStr_string, str_size, fpureA_some, fnilA_ptr, faddA_ptr, addr_add, Nat.zero_add, Nat.add_zero, fpureQ_k, fpureQ_nilA, fpureQ_addA, fpureQ_pureA, fpureQ_guardA, fpureQ_idxSlA, fpureQ_pickA, freadQ_loadA, freadQ_loadNA, freadQ_b2sA, freadQ_guardA, freadQ_slSlA, freadQ_k, fendA, fallA_one, fstillA_nil, fguardA_tt, fguardA_ff, fguardA_tf, fguardA_ft, fguardA_undef, fpickA_true, fpickA_false, fcondA_true, fcondA_false, binA_add, binA_sub, binA_mul, binA_eql, binA_neq, binA_lss, binA_leq, binA_gtr, binA_geq, unA_not, Bool.not_true, Bool.not_false, convA_int, extA_tuple, List.getElem?_toArray, List.getElem?_cons_zero, List.getElem?_cons_succ]
    refine ⟨l.length + 1, sameB_loop v w hlm hl l [] m [] rfl rfl rfl (fun e => ?_) (fun e => ?_)⟩
    · simp only [retA_iff, oneOf_one]; exact ⟨by simp, by simp [e], by trivial⟩
    · simp only [retA_iff, oneOf_one]; exact ⟨by simp, by simp [e], by trivial⟩
  · have c1 : ((l.length : Int) != (m.length : Int)) = true := by rw [bne_iff_ne]; omega
    have : l ≠ m := fun e => hlm (by rw [e])
    simp only [c1, lenSl_slice, lenStr_string, str_size, fpureA_some, fnilA_ptr, faddA_ptr, addr_add, Nat.zero_add, Nat.add_zero, fpureQ_k, fpureQ_nilA, fpureQ_addA, fpureQ_pureA, fpureQ_guardA, fpureQ_idxSlA, fpureQ_pickA, freadQ_loadA, freadQ_loadNA, freadQ_b2sA, freadQ_guardA, freadQ_slSlA, freadQ_k, fendA, fallA_one, fstillA_nil, fguardA_tt, fguardA_ff, fguardA_tf, fguardA_ft, fguardA_undef, fpickA_true, fpickA_false, fcondA_true, fcondA_false, binA_add, binA_sub, binA_mul, binA_eql, binA_neq, binA_lss, binA_leq, binA_gtr, binA_geq, unA_not, Bool.not_true, Bool.not_false, convA_int, extA_tuple, List.getElem?_toArray, List.getElem?_cons_zero, List.getElem?_cons_succ, retA_iff, oneOf_one]
    exact ⟨by simp, by simp [this], by trivial⟩
/-! ### Chunks -/
/-- The chunk that lies in any bytes. -/
def chunkOf (b : List UInt8) (o n : Int) : Option (List UInt8) :=
  if o < 8 then none else if slotOf b (o.toNat - 8) b.length = some n.toNat ∧ 0 ≤ n then some ((b.drop o.toNat).take n.toNat) else none
def chunkV (w0 : World) (h' : Hp) (r : Value) (o : Option (List UInt8)) : Prop :=
  match o with
  | some l => ∃ x S, r = .tuple #[x, .int .i64 0] ∧ GV w0 h' 1 x l.length (bvs l) S
  | none => r = .tuple #[.slice none 0 0, .int .i64 130]
theorem Chunk_spec {x : Value} {b : List UInt8} (v : Bs w0 h x b) (hb : b.length ≤ 1000000000) (o n : Int) (ho : -9223372036854775808 ≤ o ∧ o ≤ 9223372036854775807) (hn : -9223372036854775808 ≤ n ∧ n ≤ 9223372036854775807) :
    ACalls prog w0 n_pack_Chunk [x, slt o n] h fun r h' => chunkV w0 h' r (chunkOf b o n) ∧ Step h h' [] [] := by
  refine ACalls.of_fit (by simpa [slt] using v.junk) fun f => c_pack_Chunk (by simpa [slt] using v.junk) ?_
  simp only [s_pack_Chunk, slt, boxA_agg, List.toList_toArray, lenSl_slice, lenStr_string, str_size, fpureA_some, fnilA_ptr, faddA_ptr, addr_add, Nat.zero_add, Nat.add_zero, fpureQ_k, fpureQ_nilA, fpureQ_addA, fpureQ_pureA, fpureQ_guardA, fpureQ_idxSlA, fpureQ_pickA, freadQ_loadA, freadQ_loadNA, freadQ_b2sA, freadQ_guardA, freadQ_slSlA, freadQ_k, fendA, fallA_one, fstillA_nil, fguardA_tt, fguardA_ff, fguardA_tf, fguardA_ft, fguardA_undef, fpickA_true, fpickA_false, fcondA_true, fcondA_false, binA_add, binA_sub, binA_mul, binA_eql, binA_neq, binA_lss, binA_leq, binA_gtr, binA_geq, unA_not, Bool.not_true, Bool.not_false, convA_int, extA_tuple, List.getElem?_toArray, List.getElem?_cons_zero, List.getElem?_cons_succ]
  have s1 : Step h (h.new [.int .i64 o, .int .i64 n] 2) [] [h.next] := (Step.refl h [] (by simp)).new _ _
  have hB := f.base
  refine loadA_at hB (by simp; rfl) (by rfl) ?_
  simp only [lenSl_slice, lenStr_string, str_size, fpureA_some, fnilA_ptr, faddA_ptr, addr_add, Nat.zero_add, Nat.add_zero, fpureQ_k, fpureQ_nilA, fpureQ_addA, fpureQ_pureA, fpureQ_guardA, fpureQ_idxSlA, fpureQ_pickA, freadQ_loadA, freadQ_loadNA, freadQ_b2sA, freadQ_guardA, freadQ_slSlA, freadQ_k, fendA, fallA_one, fstillA_nil, fguardA_tt, fguardA_ff, fguardA_tf, fguardA_ft, fguardA_undef, fpickA_true, fpickA_false, fcondA_true, fcondA_false, binA_add, binA_sub, binA_mul, binA_eql, binA_neq, binA_lss, binA_leq, binA_gtr, binA_geq, unA_not, Bool.not_true, Bool.not_false, convA_int, extA_tuple, List.getElem?_toArray, List.getElem?_cons_zero, List.getElem?_cons_succ]
  by_cases h1 : o < 8
  · have c1 : decide (o < 8) = true := decide_eq_true h1
    have e1 : chunkOf b o n = none := by unfold chunkOf; rw [if_pos h1]
    simp only [c1, lenSl_slice, lenStr_string, str_size, fpureA_some, fnilA_ptr, faddA_ptr, addr_add, Nat.zero_add, Nat.add_zero, fpureQ_k, fpureQ_nilA, fpureQ_addA, fpureQ_pureA, fpureQ_guardA, fpureQ_idxSlA, fpureQ_pickA, freadQ_loadA, freadQ_loadNA, freadQ_b2sA, freadQ_guardA, freadQ_slSlA, freadQ_k, fendA, fallA_one, fstillA_nil, fguardA_tt, fguardA_ff, fguardA_tf, fguardA_ft, fguardA_undef, fpickA_true, fpickA_false, fcondA_true, fcondA_false, binA_add, binA_sub, binA_mul, binA_eql, binA_neq, binA_lss, binA_leq, binA_gtr, binA_geq, unA_not, Bool.not_true, Bool.not_false, convA_int, extA_tuple, List.getElem?_toArray, List.getElem?_cons_zero, List.getElem?_cons_succ, retA_iff, oneOf_two, e1, chunkV]
    exact ⟨by simp, by trivial, s1.less (by simp)⟩
  have c1 : decide (o < 8) = false := decide_eq_false h1
  obtain ⟨k, rfl⟩ := Int.eq_ofNat_of_zero_le (show 0 ≤ o by omega)
  have e1 : IntKind.i64.wrap ((k : Int) - 8) = ((k - 8 : Nat) : Int) := by rw [IntWalk.i64_in _ (by omega)]; omega
  simp only [c1, lenSl_slice, lenStr_string, str_size, fpureA_some, fnilA_ptr, faddA_ptr, addr_add, Nat.zero_add, Nat.add_zero, fpureQ_k, fpureQ_nilA, fpureQ_addA, fpureQ_pureA, fpureQ_guardA, fpureQ_idxSlA, fpureQ_pickA, freadQ_loadA, freadQ_loadNA, freadQ_b2sA, freadQ_guardA, freadQ_slSlA, freadQ_k, fendA, fallA_one, fstillA_nil, fguardA_tt, fguardA_ff, fguardA_tf, fguardA_ft, fguardA_undef, fpickA_true, fpickA_false, fcondA_true, fcondA_false, binA_add, binA_sub, binA_mul, binA_eql, binA_neq, binA_lss, binA_leq, binA_gtr, binA_geq, unA_not, Bool.not_true, Bool.not_false, convA_int, extA_tuple, List.getElem?_toArray, List.getElem?_cons_zero, List.getElem?_cons_succ]
  refine loadA_at hB (by simp; rfl) (by rfl) ?_
  obtain ⟨ax, cx, hx⟩ := v.slice
  have hlen : lenSl x = some (.int .i64 b.length) := by rw [hx]; rfl
  simp only [hlen, lenSl_slice, lenStr_string, str_size, fpureA_some, fnilA_ptr, faddA_ptr, addr_add, Nat.zero_add, Nat.add_zero, fpureQ_k, fpureQ_nilA, fpureQ_addA, fpureQ_pureA, fpureQ_guardA, fpureQ_idxSlA, fpureQ_pickA, freadQ_loadA, freadQ_loadNA, freadQ_b2sA, freadQ_guardA, freadQ_slSlA, freadQ_k, fendA, fallA_one, fstillA_nil, fguardA_tt, fguardA_ff, fguardA_tf, fguardA_ft, fguardA_undef, fpickA_true, fpickA_false, fcondA_true, fcondA_false, binA_add, binA_sub, binA_mul, binA_eql, binA_neq, binA_lss, binA_leq, binA_gtr, binA_geq, unA_not, Bool.not_true, Bool.not_false, convA_int, extA_tuple, List.getElem?_toArray, List.getElem?_cons_zero, List.getElem?_cons_succ, e1]
  have v1 : Bs w0 (h.new [.int .i64 k, .int .i64 n] 2) x b := v.step f s1 (by simp)
  refine callA_of (slotAt_spec v1 hb (by omega) (Nat.le_refl _)) fun r h2 ⟨e, s2⟩ f2 => ?_
  rw [show k - 8 + 8 = k by omega] at e
  subst e
  have hq2 : h2.blk h.next = some [.int .i64 k, .int .i64 n] := by rw [(s2.keep _ (by simp) (by simp)).1]; simp
  have hq2n : h.next < h2.next := by have := s2.next; simp at this; omega
  have s12 : Step h h2 [] [h.next] := s1.trans (s2.wide (T := [h.next]) (T' := [h.next]) (by simp) (fun b hb => by simp at hb; subst hb; exact .inr ⟨by simp, by simp⟩))
  have fin : ∀ {h' : Hp} {S : List Nat}, Step h2 h' [] S → Step h h' [] [] := fun st => (s12.trans (st.wide (T := [h.next]) (T' := []) (by simp) (by simp)))
  have noneCase : slotOf b (k - 8) b.length = none → chunkOf b k n = none := fun e => by unfold chunkOf; rw [if_neg h1]; simp [e]
  cases hs : slotOf b (k - 8) b.length with
  | none =>
    simp only [slotV, lenSl_slice, lenStr_string, str_size, fpureA_some, fnilA_ptr, faddA_ptr, addr_add, Nat.zero_add, Nat.add_zero, fpureQ_k, fpureQ_nilA, fpureQ_addA, fpureQ_pureA, fpureQ_guardA, fpureQ_idxSlA, fpureQ_pickA, freadQ_loadA, freadQ_loadNA, freadQ_b2sA, freadQ_guardA, freadQ_slSlA, freadQ_k, fendA, fallA_one, fstillA_nil, fguardA_tt, fguardA_ff, fguardA_tf, fguardA_ft, fguardA_undef, fpickA_true, fpickA_false, fcondA_true, fcondA_false, binA_add, binA_sub, binA_mul, binA_eql, binA_neq, binA_lss, binA_leq, binA_gtr, binA_geq, unA_not, Bool.not_true, Bool.not_false, convA_int, extA_tuple, List.getElem?_toArray, List.getElem?_cons_zero, List.getElem?_cons_succ, slt, newA_iff]
    refine ⟨by simp, store2 (cs := [.int .i64 0, .int .i64 0]) (by omega) (by simp) rfl ?_⟩
    rw [put_new]
    simp only [lenSl_slice, lenStr_string, str_size, fpureA_some, fnilA_ptr, faddA_ptr, addr_add, Nat.zero_add, Nat.add_zero, fpureQ_k, fpureQ_nilA, fpureQ_addA, fpureQ_pureA, fpureQ_guardA, fpureQ_idxSlA, fpureQ_pickA, freadQ_loadA, freadQ_loadNA, freadQ_b2sA, freadQ_guardA, freadQ_slSlA, freadQ_k, fendA, fallA_one, fstillA_nil, fguardA_tt, fguardA_ff, fguardA_tf, fguardA_ft, fguardA_undef, fpickA_true, fpickA_false, fcondA_true, fcondA_false, binA_add, binA_sub, binA_mul, binA_eql, binA_neq, binA_lss, binA_leq, binA_gtr, binA_geq, unA_not, Bool.not_true, Bool.not_false, convA_int, extA_tuple, List.getElem?_toArray, List.getElem?_cons_zero, List.getElem?_cons_succ, retA_iff, oneOf_two, noneCase hs, chunkV]
    exact ⟨by simp, by trivial, fin ((Step.refl h2 [] (by simp)).new _ _)⟩
  | some m =>
    obtain ⟨hm1, hm2, -⟩ := slotOf_some hs
    simp only [slotV, lenSl_slice, lenStr_string, str_size, fpureA_some, fnilA_ptr, faddA_ptr, addr_add, Nat.zero_add, Nat.add_zero, fpureQ_k, fpureQ_nilA, fpureQ_addA, fpureQ_pureA, fpureQ_guardA, fpureQ_idxSlA, fpureQ_pickA, freadQ_loadA, freadQ_loadNA, freadQ_b2sA, freadQ_guardA, freadQ_slSlA, freadQ_k, fendA, fallA_one, fstillA_nil, fguardA_tt, fguardA_ff, fguardA_tf, fguardA_ft, fguardA_undef, fpickA_true, fpickA_false, fcondA_true, fcondA_false, binA_add, binA_sub, binA_mul, binA_eql, binA_neq, binA_lss, binA_leq, binA_gtr, binA_geq, unA_not, Bool.not_true, Bool.not_false, convA_int, extA_tuple, List.getElem?_toArray, List.getElem?_cons_zero, List.getElem?_cons_succ, slt, newA_iff]
    refine ⟨by simp, store2 (cs := [.int .i64 0, .int .i64 0]) (by omega) (by simp) rfl ?_⟩
    rw [put_new]
    have s3 : Step h2 (h2.new [.int .i64 (k : Int), .int .i64 m] 2) [] [h2.next] := (Step.refl h2 [] (by simp)).new _ _
    have hq3 : (h2.new [.int .i64 (k : Int), .int .i64 m] 2).blk h.next = some [.int .i64 k, .int .i64 n] := by rw [(s3.keep _ hq2n (by simp)).1]; exact hq2
    refine loadNA_whole (by omega) (by simp; rfl) rfl ?_
    refine loadNA_whole hB hq3 rfl ?_
    simp only [neSlot w0, beq_self_eq_true, Bool.true_and, lenSl_slice, lenStr_string, str_size, fpureA_some, fnilA_ptr, faddA_ptr, addr_add, Nat.zero_add, Nat.add_zero, fpureQ_k, fpureQ_nilA, fpureQ_addA, fpureQ_pureA, fpureQ_guardA, fpureQ_idxSlA, fpureQ_pickA, freadQ_loadA, freadQ_loadNA, freadQ_b2sA, freadQ_guardA, freadQ_slSlA, freadQ_k, fendA, fallA_one, fstillA_nil, fguardA_tt, fguardA_ff, fguardA_tf, fguardA_ft, fguardA_undef, fpickA_true, fpickA_false, fcondA_true, fcondA_false, binA_add, binA_sub, binA_mul, binA_eql, binA_neq, binA_lss, binA_leq, binA_gtr, binA_geq, unA_not, Bool.not_true, Bool.not_false, convA_int, extA_tuple, List.getElem?_toArray, List.getElem?_cons_zero, List.getElem?_cons_succ]
    by_cases hmn : (m : Int) = n
    · have c2 : ((m : Int) == n) = true := beq_iff_eq.2 hmn
      subst hmn
      have e2 : chunkOf b k m = some ((b.drop k).take m) := by
        unfold chunkOf
        rw [if_neg h1, if_pos ⟨by simpa using hs, by omega⟩]; simp
      have e4 : IntKind.i64.wrap ((k : Int) + (m : Int)) = ((k + m : Nat) : Int) := by rw [IntWalk.i64_in _ (by omega)]; simp
      simp only [c2, lenSl_slice, lenStr_string, str_size, fpureA_some, fnilA_ptr, faddA_ptr, addr_add, Nat.zero_add, Nat.add_zero, fpureQ_k, fpureQ_nilA, fpureQ_addA, fpureQ_pureA, fpureQ_guardA, fpureQ_idxSlA, fpureQ_pickA, freadQ_loadA, freadQ_loadNA, freadQ_b2sA, freadQ_guardA, freadQ_slSlA, freadQ_k, fendA, fallA_one, fstillA_nil, fguardA_tt, fguardA_ff, fguardA_tf, fguardA_ft, fguardA_undef, fpickA_true, fpickA_false, fcondA_true, fcondA_false, binA_add, binA_sub, binA_mul, binA_eql, binA_neq, binA_lss, binA_leq, binA_gtr, binA_geq, unA_not, Bool.not_true, Bool.not_false, convA_int, extA_tuple, List.getElem?_toArray, List.getElem?_cons_zero, List.getElem?_cons_succ]
      refine loadA_at hB hq3 (by rfl) ?_
      refine loadA_at hB hq3 (by rfl) ?_
      refine loadA_at hB hq3 (by rfl) ?_
      simp only [lenSl_slice, lenStr_string, str_size, fpureA_some, fnilA_ptr, faddA_ptr, addr_add, Nat.zero_add, Nat.add_zero, fpureQ_k, fpureQ_nilA, fpureQ_addA, fpureQ_pureA, fpureQ_guardA, fpureQ_idxSlA, fpureQ_pickA, freadQ_loadA, freadQ_loadNA, freadQ_b2sA, freadQ_guardA, freadQ_slSlA, freadQ_k, fendA, fallA_one, fstillA_nil, fguardA_tt, fguardA_ff, fguardA_tf, fguardA_ft, fguardA_undef, fpickA_true, fpickA_false, fcondA_true, fcondA_false, binA_add, binA_sub, binA_mul, binA_eql, binA_neq, binA_lss, binA_leq, binA_gtr, binA_geq, unA_not, Bool.not_true, Bool.not_false, convA_int, extA_tuple, List.getElem?_toArray, List.getElem?_cons_zero, List.getElem?_cons_succ, e4]
      have v3 : Bs w0 (h2.new [.int .i64 (k : Int), .int .i64 m] 2) x b := v.step f ((s12.trans (s3.wide (T := [h.next]) (T' := []) (by simp) (by simp)))) (by simp)
      refine v3.cut boundA_nat boundA_nat (by omega) (by omega) fun x2 hc2 hx2 y2 => ?_
      rw [cut_eq] at y2
      refine callA_of (cloneB_spec y2 (by simp; omega)) fun r h4 ⟨⟨S4, g4, _, s4⟩, _⟩ f4 => ?_
      obtain ⟨a4, c4, hr⟩ := g4.slice
      simp only [retA_iff, oneOf_two, e2, chunkV]
      refine ⟨by rw [hr]; simp, ⟨_, _, rfl, g4⟩, fin (S := []) ((s3.less (T := []) (by simp)).trans (s4.less (by simp)))⟩
    · have c2 : ((m : Int) == n) = false := beq_eq_false_iff_ne.2 hmn
      have e2 : chunkOf b k n = none := by
        unfold chunkOf
        rw [if_neg h1, if_neg (fun e => hmn (by have h1 := e.1; have h2 := e.2; simp [hs] at h1; omega))]
      simp only [c2, lenSl_slice, lenStr_string, str_size, fpureA_some, fnilA_ptr, faddA_ptr, addr_add, Nat.zero_add, Nat.add_zero, fpureQ_k, fpureQ_nilA, fpureQ_addA, fpureQ_pureA, fpureQ_guardA, fpureQ_idxSlA, fpureQ_pickA, freadQ_loadA, freadQ_loadNA, freadQ_b2sA, freadQ_guardA, freadQ_slSlA, freadQ_k, fendA, fallA_one, fstillA_nil, fguardA_tt, fguardA_ff, fguardA_tf, fguardA_ft, fguardA_undef, fpickA_true, fpickA_false, fcondA_true, fcondA_false, binA_add, binA_sub, binA_mul, binA_eql, binA_neq, binA_lss, binA_leq, binA_gtr, binA_geq, unA_not, Bool.not_true, Bool.not_false, convA_int, extA_tuple, List.getElem?_toArray, List.getElem?_cons_zero, List.getElem?_cons_succ, retA_iff, oneOf_two, e2, chunkV]
      exact ⟨by simp, by trivial, fin s3⟩
end
end Go.Proofs.Ytfhamcobfpmgbaa.Ah
