/- deduplaw07: lives, sameSectors; JournalNobody. -/
import Derived.Test.YtiakadkooclelaaJx
import Derived.Test.YtiakadkooclelaaGlaw07
import Derived.Test.YtiakadkooclelaaAh26
set_option linter.unusedVariables false
set_option linter.unusedSimpArgs false
namespace Go.Proofs.Ytiakadkooclelaa.Ah
open Go

section
variable {w0 : World}
theorem sameBytes_loop {k0 kr : Value → Hp → Prop} {h : Hp} {ax ay : Option Addr} {cx cy : Nat} {l : List UInt8} {x4 : Value} (hl : l.length ≤ 1000000000) (hx : Src w0.heap.size h 1 (.slice ax l.length cx) l.length (bvs l)) (hy : Src w0.heap.size h 1 (.slice ay l.length cy) l.length (bvs l)) (hk : k0 x4 h) : ∀ (post pre : List UInt8), pre ++ post = l →
    deduplaw07_sameBytes_L1 prog w0 k0 kr (post.length + 1) (.slice ax l.length cx) (.slice ay l.length cy) x4 (.int .i64 (pre.length : Int)) h := by
  intro post
  induction post with
  | nil =>
    intro pre he
    have hpre : pre = l := by simpa using he
    rw [deduplaw07_sameBytes_L1]
    simp only [deduplaw07_sameBytes_B1, lenSl_slice, lenStr_string, str_size, fpureA_some, fnilA_ptr, faddA_ptr, addr_add, Nat.zero_add, Nat.add_zero, fpureQ_k, fpureQ_nilA, fpureQ_addA, fpureQ_pureA, fpureQ_guardA, fpureQ_idxSlA, fpureQ_pickA, freadQ_loadA, freadQ_loadNA, freadQ_b2sA, freadQ_guardA, freadQ_slSlA, freadQ_k, fendA, fallA_one, fstillA_nil, fguardA_tt, fguardA_ff, fguardA_tf, fguardA_ft, fguardA_undef, fpickA_true, fpickA_false, fcondA_true, fcondA_false, binA_add, binA_sub, binA_mul, binA_eql, binA_neq, binA_lss, binA_leq, binA_gtr, binA_geq, unA_not, Bool.not_true, Bool.not_false, convA_int, extA_tuple, List.getElem?_toArray, List.getElem?_cons_zero, List.getElem?_cons_succ, hpre, Int.lt_irrefl, decide_false]
    exact hk
  | cons b post ih =>
    intro pre he
    have hlen : pre.length + (post.length + 1) = l.length := by rw [← he]; simp
    have hg : (bvs l)[pre.length]? = some (bv b) := by rw [bvs_get, ← he]; simp
    have c1 : decide ((pre.length : Int) < (l.length : Int)) = true := decide_eq_true (by omega)
    have e5 : IntKind.i64.wrap ((pre.length : Int) + 1) = ((pre.length + 1 : Nat) : Int) := by rw [IntWalk.i64_in _ (by omega)]; simp
    rw [List.length_cons, deduplaw07_sameBytes_L1]
    simp only [deduplaw07_sameBytes_B1, lenSl_slice, lenStr_string, str_size, fpureA_some, fnilA_ptr, faddA_ptr, addr_add, Nat.zero_add, Nat.add_zero, fpureQ_k, fpureQ_nilA, fpureQ_addA, fpureQ_pureA, fpureQ_guardA, fpureQ_idxSlA, fpureQ_pickA, freadQ_loadA, freadQ_loadNA, freadQ_b2sA, freadQ_guardA, freadQ_slSlA, freadQ_k, fendA, fallA_one, fstillA_nil, fguardA_tt, fguardA_ff, fguardA_tf, fguardA_ft, fguardA_undef, fpickA_true, fpickA_false, fcondA_true, fcondA_false, binA_add, binA_sub, binA_mul, binA_eql, binA_neq, binA_lss, binA_leq, binA_gtr, binA_geq, unA_not, Bool.not_true, Bool.not_false, convA_int, extA_tuple, List.getElem?_toArray, List.getElem?_cons_zero, List.getElem?_cons_succ, c1]
    refine idx_load1 hx (by simp) hg ?_
    refine idx_load1 hy (by simp) hg ?_
    simp only [bv, lenSl_slice, lenStr_string, str_size, fpureA_some, fnilA_ptr, faddA_ptr, addr_add, Nat.zero_add, Nat.add_zero, fpureQ_k, fpureQ_nilA, fpureQ_addA, fpureQ_pureA, fpureQ_guardA, fpureQ_idxSlA, fpureQ_pickA, freadQ_loadA, freadQ_loadNA, freadQ_b2sA, freadQ_guardA, freadQ_slSlA, freadQ_k, fendA, fallA_one, fstillA_nil, fguardA_tt, fguardA_ff, fguardA_tf, fguardA_ft, fguardA_undef, fpickA_true, fpickA_false, fcondA_true, fcondA_false, binA_add, binA_sub, binA_mul, binA_eql, binA_neq, binA_lss, binA_leq, binA_gtr, binA_geq, unA_not, Bool.not_true, Bool.not_false, convA_int, extA_tuple, List.getElem?_toArray, List.getElem?_cons_zero, List.getElem?_cons_succ, bne_self_eq_false, e5]
    have := ih (pre ++ [b]) (by simpa using he)
    simpa using this
theorem sameBytes_eq {h : Hp} {ax ay : Option Addr} {cx cy : Nat} {l : List UInt8} (hl : l.length ≤ 1000000000) (hx : Src w0.heap.size h 1 (.slice ax l.length cx) l.length (bvs l)) (hy : Src w0.heap.size h 1 (.slice ay l.length cy) l.length (bvs l)) :
    ACalls prog w0 n_deduplaw07_sameBytes [.slice ax l.length cx, .slice ay l.length cy] h fun v h' => v = .bool true ∧ h' = h := by
  refine ACalls.of_fit (by simp) fun f => c_deduplaw07_sameBytes (by simp) ?_
  simp only [s_deduplaw07_sameBytes, lenSl_slice, lenStr_string, str_size, fpureA_some, fnilA_ptr, faddA_ptr, addr_add, Nat.zero_add, Nat.add_zero, fpureQ_k, fpureQ_nilA, fpureQ_addA, fpureQ_pureA, fpureQ_guardA, fpureQ_idxSlA, fpureQ_pickA, freadQ_loadA, freadQ_loadNA, freadQ_b2sA, freadQ_guardA, freadQ_slSlA, freadQ_k, fendA, fallA_one, fstillA_nil, fguardA_tt, fguardA_ff, fguardA_tf, fguardA_ft, fguardA_undef, fpickA_true, fpickA_false, fcondA_true, fcondA_false, binA_add, binA_sub, binA_mul, binA_eql, binA_neq, binA_lss, binA_leq, binA_gtr, binA_geq, unA_not, Bool.not_true, Bool.not_false, convA_int, extA_tuple, List.getElem?_toArray, List.getElem?_cons_zero, List.getElem?_cons_succ, bne_self_eq_false]
  refine ⟨l.length + 1, sameBytes_loop hl hx hy ?_ l [] rfl⟩
  simp
theorem sameSectors_loop {k0 kr : Value → Hp → Prop} {h : Hp} {x y x4 : Value} {k : Nat} {bs : List (List UInt8)} {S T : List Nat} (hx : SVec w0 h x k bs S) (hy : SVec w0 h y k bs T) (hb : bs.length ≤ 1000000000) (hbl : ∀ r, r ∈ bs → r.length ≤ 1000000000) (hk : k0 x4 h) : ∀ (post pre : List (List UInt8)), pre ++ post = bs →
    deduplaw07_sameSectors_L1 prog w0 k0 kr (post.length + 1) x y x4 (.int .i64 (pre.length : Int)) h := by
  obtain ⟨ax, cx, hxs⟩ := hx.slice
  intro post
  induction post with
  | nil =>
    intro pre he
    have hpre : pre = bs := by simpa using he
    rw [deduplaw07_sameSectors_L1, hxs]
    simp only [deduplaw07_sameSectors_B1, lenSl_slice, lenStr_string, str_size, fpureA_some, fnilA_ptr, faddA_ptr, addr_add, Nat.zero_add, Nat.add_zero, fpureQ_k, fpureQ_nilA, fpureQ_addA, fpureQ_pureA, fpureQ_guardA, fpureQ_idxSlA, fpureQ_pickA, freadQ_loadA, freadQ_loadNA, freadQ_b2sA, freadQ_guardA, freadQ_slSlA, freadQ_k, fendA, fallA_one, fstillA_nil, fguardA_tt, fguardA_ff, fguardA_tf, fguardA_ft, fguardA_undef, fpickA_true, fpickA_false, fcondA_true, fcondA_false, binA_add, binA_sub, binA_mul, binA_eql, binA_neq, binA_lss, binA_leq, binA_gtr, binA_geq, unA_not, Bool.not_true, Bool.not_false, convA_int, extA_tuple, List.getElem?_toArray, List.getElem?_cons_zero, List.getElem?_cons_succ, hpre, Int.lt_irrefl, decide_false]
    exact hk
  | cons r post ih =>
    intro pre he
    have hlen : pre.length + (post.length + 1) = bs.length := by rw [← he]; simp
    have hg : bs[pre.length]? = some r := by rw [← he]; simp
    have c1 : decide ((pre.length : Int) < (bs.length : Int)) = true := decide_eq_true (by omega)
    have e5 : IntKind.i64.wrap ((pre.length : Int) + 1) = ((pre.length + 1 : Nat) : Int) := by rw [IntWalk.i64_in _ (by omega)]; simp
    obtain ⟨b1, cs1, v1, T1, ex, hB1, hl1, hb1, -, -, g1, g2, vv1, -⟩ := hx.get hg
    obtain ⟨b2, cs2, v2, T2, ey, hB2, hl2, hb2, -, -, g3, g4, vv2, -⟩ := hy.get hg
    have hr := hbl r (List.mem_of_getElem? hg)
    have ih2 := ih (pre ++ [r]) (by simpa using he)
    have idx : ∀ {b : Nat} {K : Kont}, K (.pointer (some ⟨b, 2 * pre.length, none⟩)) h → idxSlA 2 (.slice (some ⟨b, 0, none⟩) bs.length ucap) (.int .i64 (pre.length : Int)) K h := by
      intro b K hK
      rw [idxSlA_iff]
      refine ⟨by omega, by omega, ?_⟩
      rw [addr_add, Int.toNat_natCast, Nat.zero_add, Nat.mul_comm]
      exact hK
    rw [List.length_cons, deduplaw07_sameSectors_L1, ex, ey]
    simp only [deduplaw07_sameSectors_B1, lenSl_slice, lenStr_string, str_size, fpureA_some, fnilA_ptr, faddA_ptr, addr_add, Nat.zero_add, Nat.add_zero, fpureQ_k, fpureQ_nilA, fpureQ_addA, fpureQ_pureA, fpureQ_guardA, fpureQ_idxSlA, fpureQ_pickA, freadQ_loadA, freadQ_loadNA, freadQ_b2sA, freadQ_guardA, freadQ_slSlA, freadQ_k, fendA, fallA_one, fstillA_nil, fguardA_tt, fguardA_ff, fguardA_tf, fguardA_ft, fguardA_undef, fpickA_true, fpickA_false, fcondA_true, fcondA_false, binA_add, binA_sub, binA_mul, binA_eql, binA_neq, binA_lss, binA_leq, binA_gtr, binA_geq, unA_not, Bool.not_true, Bool.not_false, convA_int, extA_tuple, List.getElem?_toArray, List.getElem?_cons_zero, List.getElem?_cons_succ, c1]
    refine idx ?_
    simp only [lenSl_slice, lenStr_string, str_size, fpureA_some, fnilA_ptr, faddA_ptr, addr_add, Nat.zero_add, Nat.add_zero, fpureQ_k, fpureQ_nilA, fpureQ_addA, fpureQ_pureA, fpureQ_guardA, fpureQ_idxSlA, fpureQ_pickA, freadQ_loadA, freadQ_loadNA, freadQ_b2sA, freadQ_guardA, freadQ_slSlA, freadQ_k, fendA, fallA_one, fstillA_nil, fguardA_tt, fguardA_ff, fguardA_tf, fguardA_ft, fguardA_undef, fpickA_true, fpickA_false, fcondA_true, fcondA_false, binA_add, binA_sub, binA_mul, binA_eql, binA_neq, binA_lss, binA_leq, binA_gtr, binA_geq, unA_not, Bool.not_true, Bool.not_false, convA_int, extA_tuple, List.getElem?_toArray, List.getElem?_cons_zero, List.getElem?_cons_succ]
    refine loadA_at hB1 hb1 g1 ?_
    refine idx ?_
    simp only [lenSl_slice, lenStr_string, str_size, fpureA_some, fnilA_ptr, faddA_ptr, addr_add, Nat.zero_add, Nat.add_zero, fpureQ_k, fpureQ_nilA, fpureQ_addA, fpureQ_pureA, fpureQ_guardA, fpureQ_idxSlA, fpureQ_pickA, freadQ_loadA, freadQ_loadNA, freadQ_b2sA, freadQ_guardA, freadQ_slSlA, freadQ_k, fendA, fallA_one, fstillA_nil, fguardA_tt, fguardA_ff, fguardA_tf, fguardA_ft, fguardA_undef, fpickA_true, fpickA_false, fcondA_true, fcondA_false, binA_add, binA_sub, binA_mul, binA_eql, binA_neq, binA_lss, binA_leq, binA_gtr, binA_geq, unA_not, Bool.not_true, Bool.not_false, convA_int, extA_tuple, List.getElem?_toArray, List.getElem?_cons_zero, List.getElem?_cons_succ]
    refine loadA_at hB2 hb2 g3 ?_
    simp only [lenSl_slice, lenStr_string, str_size, fpureA_some, fnilA_ptr, faddA_ptr, addr_add, Nat.zero_add, Nat.add_zero, fpureQ_k, fpureQ_nilA, fpureQ_addA, fpureQ_pureA, fpureQ_guardA, fpureQ_idxSlA, fpureQ_pickA, freadQ_loadA, freadQ_loadNA, freadQ_b2sA, freadQ_guardA, freadQ_slSlA, freadQ_k, fendA, fallA_one, fstillA_nil, fguardA_tt, fguardA_ff, fguardA_tf, fguardA_ft, fguardA_undef, fpickA_true, fpickA_false, fcondA_true, fcondA_false, binA_add, binA_sub, binA_mul, binA_eql, binA_neq, binA_lss, binA_leq, binA_gtr, binA_geq, unA_not, Bool.not_true, Bool.not_false, convA_int, extA_tuple, List.getElem?_toArray, List.getElem?_cons_zero, List.getElem?_cons_succ, bne_self_eq_false]
    refine idx ?_
    simp only [lenSl_slice, lenStr_string, str_size, fpureA_some, fnilA_ptr, faddA_ptr, addr_add, Nat.zero_add, Nat.add_zero, fpureQ_k, fpureQ_nilA, fpureQ_addA, fpureQ_pureA, fpureQ_guardA, fpureQ_idxSlA, fpureQ_pickA, freadQ_loadA, freadQ_loadNA, freadQ_b2sA, freadQ_guardA, freadQ_slSlA, freadQ_k, fendA, fallA_one, fstillA_nil, fguardA_tt, fguardA_ff, fguardA_tf, fguardA_ft, fguardA_undef, fpickA_true, fpickA_false, fcondA_true, fcondA_false, binA_add, binA_sub, binA_mul, binA_eql, binA_neq, binA_lss, binA_leq, binA_gtr, binA_geq, unA_not, Bool.not_true, Bool.not_false, convA_int, extA_tuple, List.getElem?_toArray, List.getElem?_cons_zero, List.getElem?_cons_succ]
    refine loadA_at hB1 hb1 g2 ?_
    refine idx ?_
    simp only [lenSl_slice, lenStr_string, str_size, fpureA_some, fnilA_ptr, faddA_ptr, addr_add, Nat.zero_add, Nat.add_zero, fpureQ_k, fpureQ_nilA, fpureQ_addA, fpureQ_pureA, fpureQ_guardA, fpureQ_idxSlA, fpureQ_pickA, freadQ_loadA, freadQ_loadNA, freadQ_b2sA, freadQ_guardA, freadQ_slSlA, freadQ_k, fendA, fallA_one, fstillA_nil, fguardA_tt, fguardA_ff, fguardA_tf, fguardA_ft, fguardA_undef, fpickA_true, fpickA_false, fcondA_true, fcondA_false, binA_add, binA_sub, binA_mul, binA_eql, binA_neq, binA_lss, binA_leq, binA_gtr, binA_geq, unA_not, Bool.not_true, Bool.not_false, convA_int, extA_tuple, List.getElem?_toArray, List.getElem?_cons_zero, List.getElem?_cons_succ]
    refine loadA_at hB2 hb2 g4 ?_
    obtain ⟨a1, c1', rfl⟩ := vv1.slice
    obtain ⟨a2, c2', rfl⟩ := vv2.slice
    refine callA_of (sameBytes_eq hr vv1.src vv2.src) fun v h1 ⟨e, e1⟩ f1 => ?_
    subst e e1
    simp only [lenSl_slice, lenStr_string, str_size, fpureA_some, fnilA_ptr, faddA_ptr, addr_add, Nat.zero_add, Nat.add_zero, fpureQ_k, fpureQ_nilA, fpureQ_addA, fpureQ_pureA, fpureQ_guardA, fpureQ_idxSlA, fpureQ_pickA, freadQ_loadA, freadQ_loadNA, freadQ_b2sA, freadQ_guardA, freadQ_slSlA, freadQ_k, fendA, fallA_one, fstillA_nil, fguardA_tt, fguardA_ff, fguardA_tf, fguardA_ft, fguardA_undef, fpickA_true, fpickA_false, fcondA_true, fcondA_false, binA_add, binA_sub, binA_mul, binA_eql, binA_neq, binA_lss, binA_leq, binA_gtr, binA_geq, unA_not, Bool.not_true, Bool.not_false, convA_int, extA_tuple, List.getElem?_toArray, List.getElem?_cons_zero, List.getElem?_cons_succ, e5]
    rw [ex, ey] at ih2
    simpa using ih2
theorem sameSectors_eq {h : Hp} {x y : Value} {k : Nat} {bs : List (List UInt8)} {S T : List Nat} (hx : SVec w0 h x k bs S) (hy : SVec w0 h y k bs T) (hb : bs.length ≤ 1000000000) (hbl : ∀ r, r ∈ bs → r.length ≤ 1000000000) :
    ACalls prog w0 n_deduplaw07_sameSectors [x, y] h fun v h' => v = .bool true ∧ h' = h := by
  obtain ⟨ax, cx, hxs⟩ := hx.slice
  obtain ⟨ay, cy, hys⟩ := hy.slice
  have hloop := sameSectors_loop (k0 := fun y4 => retA [(.bool true)] fun v h' => v = .bool true ∧ h' = h) (kr := fun y4 => retA [y4] fun v h' => v = .bool true ∧ h' = h) (x4 := .bool false) hx hy hb hbl (by simp) bs [] rfl
  refine ACalls.of_fit (by rw [hxs, hys]; simp) fun f => c_deduplaw07_sameSectors (by rw [hxs, hys]; simp) ?_
  rw [hxs, hys] at hloop ⊢
  simp only [s_deduplaw07_sameSectors, lenSl_slice, lenStr_string, str_size, fpureA_some, fnilA_ptr, faddA_ptr, addr_add, Nat.zero_add, Nat.add_zero, fpureQ_k, fpureQ_nilA, fpureQ_addA, fpureQ_pureA, fpureQ_guardA, fpureQ_idxSlA, fpureQ_pickA, freadQ_loadA, freadQ_loadNA, freadQ_b2sA, freadQ_guardA, freadQ_slSlA, freadQ_k, fendA, fallA_one, fstillA_nil, fguardA_tt, fguardA_ff, fguardA_tf, fguardA_ft, fguardA_undef, fpickA_true, fpickA_false, fcondA_true, fcondA_false, binA_add, binA_sub, binA_mul, binA_eql, binA_neq, binA_lss, binA_leq, binA_gtr, binA_geq, unA_not, Bool.not_true, Bool.not_false, convA_int, extA_tuple, List.getElem?_toArray, List.getElem?_cons_zero, List.getElem?_cons_succ, bne_self_eq_false]
  exact ⟨bs.length + 1, hloop⟩
theorem secList_mem {size gen : Nat} (hs : 24 ≤ size) : ∀ (rs : List (List UInt8)) (k : Nat), (∀ r, r ∈ rs → r.length ≤ size - 24) → ∀ x, x ∈ secList size gen k rs → x.length = size := by
  intro rs
  induction rs with
  | nil => intro k _ x hx; simp [secList] at hx
  | cons r rs ih =>
    intro k h x hx
    simp only [secList, List.mem_cons] at hx
    rcases hx with rfl | hx
    · exact sec_length _ _ hs (h r (by simp))
    · exact ih (k + 1) (fun r hr => h r (by simp [hr])) x hx
theorem JS.Ok.secs {st : JS} (o : st.Ok) : ∀ x, x ∈ st.secs → x.length = st.size :=
  secList_mem (by have := o.size; omega) _ _ fun r hr => by have := o.good.2.1 r (List.mem_of_mem_drop hr); unfold JS.room at this; exact this
theorem JS.Ok.secs_len {st : JS} (o : st.Ok) : st.secs.length ≤ 4096 := by
  have := o.len
  have := o.sectors
  simp [JS.secs]; omega
theorem JS.Ok.new {n s : Int} {g : Nat} (h : jok n s = true) (hg : g < 18446744073709551616) : JS.Ok ⟨n.toNat, s.toNat, g, [], 0, 0⟩ := by
  simp only [jok, Bool.and_eq_true, decide_eq_true_eq] at h
  have hr := jsize_range h.1.1
  refine ⟨⟨?_, ?_⟩, ⟨?_, ?_⟩, hg, ⟨?_, ?_, ?_⟩, ?_, ?_, ?_⟩
  all_goals simp only
  all_goals first | omega | simp
theorem lives_spec {h : Hp} : ACalls prog w0 n_deduplaw07_lives [] h fun v h' => v = .bool true ∧ Step h h' [] [] := by
  refine ACalls.of_fit (by simp) fun f => c_deduplaw07_lives (by simp) ?_
  simp only [s_deduplaw07_lives]
  have hj : jok 512 2 = true := by decide
  refine callA_of (JNew_spec 512 2 7 (by omega)) fun v h1 ⟨g, _⟩ f1 => ?_
  obtain ⟨e, w1, s1⟩ := g hj
  subst e
  have o1 : JS.Ok ⟨512, 2, 7, [], 0, 0⟩ := JS.Ok.new hj (by omega)
  simp only [lenSl_slice, lenStr_string, str_size, fpureA_some, fnilA_ptr, faddA_ptr, addr_add, Nat.zero_add, Nat.add_zero, fpureQ_k, fpureQ_nilA, fpureQ_addA, fpureQ_pureA, fpureQ_guardA, fpureQ_idxSlA, fpureQ_pickA, freadQ_loadA, freadQ_loadNA, freadQ_b2sA, freadQ_guardA, freadQ_slSlA, freadQ_k, fendA, fallA_one, fstillA_nil, fguardA_tt, fguardA_ff, fguardA_tf, fguardA_ft, fguardA_undef, fpickA_true, fpickA_false, fcondA_true, fcondA_false, binA_add, binA_sub, binA_mul, binA_eql, binA_neq, binA_lss, binA_leq, binA_gtr, binA_geq, unA_not, Bool.not_true, Bool.not_false, convA_int, extA_tuple, List.getElem?_toArray, List.getElem?_cons_zero, List.getElem?_cons_succ, bne_self_eq_false, binPtr_ptr]
  refine callA_of (Left_spec w1 o1) fun v h2 ⟨e, e1⟩ f2 => ?_
  subst e e1
  have l1 : (⟨(512 : Int).toNat, (2 : Int).toNat, 7, [], 0, 0⟩ : JS).left = 972 := by decide
  simp only [lenSl_slice, lenStr_string, str_size, fpureA_some, fnilA_ptr, faddA_ptr, addr_add, Nat.zero_add, Nat.add_zero, fpureQ_k, fpureQ_nilA, fpureQ_addA, fpureQ_pureA, fpureQ_guardA, fpureQ_idxSlA, fpureQ_pickA, freadQ_loadA, freadQ_loadNA, freadQ_b2sA, freadQ_guardA, freadQ_slSlA, freadQ_k, fendA, fallA_one, fstillA_nil, fguardA_tt, fguardA_ff, fguardA_tf, fguardA_ft, fguardA_undef, fpickA_true, fpickA_false, fcondA_true, fcondA_false, binA_add, binA_sub, binA_mul, binA_eql, binA_neq, binA_lss, binA_leq, binA_gtr, binA_geq, unA_not, Bool.not_true, Bool.not_false, convA_int, extA_tuple, List.getElem?_toArray, List.getElem?_cons_zero, List.getElem?_cons_succ, l1, bne_self_eq_false]
  have e0 : (⟨#[97, 98, 99]⟩ : ByteArray) = str [97, 98, 99] := rfl
  rw [e0]
  refine callA_of (Append_spec w1 o1 [97, 98, 99] (by simp)) fun v h3 ⟨e, S3, w3, s3⟩ f3 => ?_
  have o3 := o1.append [97, 98, 99]
  have ea : ((⟨(512 : Int).toNat, (2 : Int).toNat, 7, [], 0, 0⟩ : JS).append [97, 98, 99]) = (0, ⟨512, 2, 7, [[0, 0, 0, 3, 97, 98, 99]], 0, 1⟩) := by kernel_rfl
  rw [ea] at e w3
  have o3' : JS.Ok ⟨512, 2, 7, [[0, 0, 0, 3, 97, 98, 99]], 0, 1⟩ := by
    have h1 : (⟨512, 2, 7, [[0, 0, 0, 3, 97, 98, 99]], 0, 1⟩ : JS) = ((⟨512, 2, 7, [], 0, 0⟩ : JS).append [97, 98, 99]).2 := by kernel_rfl
    rw [h1]; exact o3
  subst e
  simp only [lenSl_slice, lenStr_string, str_size, fpureA_some, fnilA_ptr, faddA_ptr, addr_add, Nat.zero_add, Nat.add_zero, fpureQ_k, fpureQ_nilA, fpureQ_addA, fpureQ_pureA, fpureQ_guardA, fpureQ_idxSlA, fpureQ_pickA, freadQ_loadA, freadQ_loadNA, freadQ_b2sA, freadQ_guardA, freadQ_slSlA, freadQ_k, fendA, fallA_one, fstillA_nil, fguardA_tt, fguardA_ff, fguardA_tf, fguardA_ft, fguardA_undef, fpickA_true, fpickA_false, fcondA_true, fcondA_false, binA_add, binA_sub, binA_mul, binA_eql, binA_neq, binA_lss, binA_leq, binA_gtr, binA_geq, unA_not, Bool.not_true, Bool.not_false, convA_int, extA_tuple, List.getElem?_toArray, List.getElem?_cons_zero, List.getElem?_cons_succ, bne_self_eq_false]
  refine callA_of (Take_spec w3 o3') fun v h4 ⟨S4, w4, v4, d4, s4⟩ f4 => ?_
  have hsl : (⟨512, 2, 7, [[0, 0, 0, 3, 97, 98, 99]], 0, 1⟩ : JS).secs.length = 1 := by simp [JS.secs]
  have hg0 : (⟨512, 2, 7, [[0, 0, 0, 3, 97, 98, 99]], 0, 1⟩ : JS).secs[0]? = some (sec 512 7 0 [0, 0, 0, 3, 97, 98, 99]) := rfl
  have hsec : (sec 512 7 0 [0, 0, 0, 3, 97, 98, 99]).length = 512 := sec_length _ _ (by omega) (by simp)
  obtain ⟨b, cs, y, T, ex, hB, hlt, hb, -, -, g1, g2, vy, -⟩ := v4.get hg0
  rw [ex, hsl]
  obtain ⟨ay, cy, rfl⟩ := vy.slice
  have hsy := vy.src
  rw [hsec] at hsy g2
  have idx : ∀ {K : Kont}, K (.pointer (some ⟨b, 0, none⟩)) h4 → idxSlA 2 (.slice (some ⟨b, 0, none⟩) 1 ucap) (.int .i64 0) K h4 := by
    intro K hK
    rw [idxSlA_iff]
    exact ⟨by omega, by omega, by simpa using hK⟩
  simp only [lenSl_slice, lenStr_string, str_size, fpureA_some, fnilA_ptr, faddA_ptr, addr_add, Nat.zero_add, Nat.add_zero, fpureQ_k, fpureQ_nilA, fpureQ_addA, fpureQ_pureA, fpureQ_guardA, fpureQ_idxSlA, fpureQ_pickA, freadQ_loadA, freadQ_loadNA, freadQ_b2sA, freadQ_guardA, freadQ_slSlA, freadQ_k, fendA, fallA_one, fstillA_nil, fguardA_tt, fguardA_ff, fguardA_tf, fguardA_ft, fguardA_undef, fpickA_true, fpickA_false, fcondA_true, fcondA_false, binA_add, binA_sub, binA_mul, binA_eql, binA_neq, binA_lss, binA_leq, binA_gtr, binA_geq, unA_not, Bool.not_true, Bool.not_false, convA_int, extA_tuple, List.getElem?_toArray, List.getElem?_cons_zero, List.getElem?_cons_succ, show (((1 : Nat) : Int) == 1) = true from rfl]
  refine idx ?_
  simp only [lenSl_slice, lenStr_string, str_size, fpureA_some, fnilA_ptr, faddA_ptr, addr_add, Nat.zero_add, Nat.add_zero, fpureQ_k, fpureQ_nilA, fpureQ_addA, fpureQ_pureA, fpureQ_guardA, fpureQ_idxSlA, fpureQ_pickA, freadQ_loadA, freadQ_loadNA, freadQ_b2sA, freadQ_guardA, freadQ_slSlA, freadQ_k, fendA, fallA_one, fstillA_nil, fguardA_tt, fguardA_ff, fguardA_tf, fguardA_ft, fguardA_undef, fpickA_true, fpickA_false, fcondA_true, fcondA_false, binA_add, binA_sub, binA_mul, binA_eql, binA_neq, binA_lss, binA_leq, binA_gtr, binA_geq, unA_not, Bool.not_true, Bool.not_false, convA_int, extA_tuple, List.getElem?_toArray, List.getElem?_cons_zero, List.getElem?_cons_succ]
  refine loadA_at hB hb g2 ?_
  simp only [lenSl_slice, lenStr_string, str_size, fpureA_some, fnilA_ptr, faddA_ptr, addr_add, Nat.zero_add, Nat.add_zero, fpureQ_k, fpureQ_nilA, fpureQ_addA, fpureQ_pureA, fpureQ_guardA, fpureQ_idxSlA, fpureQ_pickA, freadQ_loadA, freadQ_loadNA, freadQ_b2sA, freadQ_guardA, freadQ_slSlA, freadQ_k, fendA, fallA_one, fstillA_nil, fguardA_tt, fguardA_ff, fguardA_tf, fguardA_ft, fguardA_undef, fpickA_true, fpickA_false, fcondA_true, fcondA_false, binA_add, binA_sub, binA_mul, binA_eql, binA_neq, binA_lss, binA_leq, binA_gtr, binA_geq, unA_not, Bool.not_true, Bool.not_false, convA_int, extA_tuple, List.getElem?_toArray, List.getElem?_cons_zero, List.getElem?_cons_succ, show (((512 : Nat) : Int) == 512) = true from rfl]
  refine idx ?_
  simp only [lenSl_slice, lenStr_string, str_size, fpureA_some, fnilA_ptr, faddA_ptr, addr_add, Nat.zero_add, Nat.add_zero, fpureQ_k, fpureQ_nilA, fpureQ_addA, fpureQ_pureA, fpureQ_guardA, fpureQ_idxSlA, fpureQ_pickA, freadQ_loadA, freadQ_loadNA, freadQ_b2sA, freadQ_guardA, freadQ_slSlA, freadQ_k, fendA, fallA_one, fstillA_nil, fguardA_tt, fguardA_ff, fguardA_tf, fguardA_ft, fguardA_undef, fpickA_true, fpickA_false, fcondA_true, fcondA_false, binA_add, binA_sub, binA_mul, binA_eql, binA_neq, binA_lss, binA_leq, binA_gtr, binA_geq, unA_not, Bool.not_true, Bool.not_false, convA_int, extA_tuple, List.getElem?_toArray, List.getElem?_cons_zero, List.getElem?_cons_succ]
  refine loadA_at hB hb g2 ?_
  refine idx_load1 (i := 0) hsy (by simp [hsec]) (v := bv 68) (by rw [bvs_get]; rfl) ?_
  simp only [bv, lenSl_slice, lenStr_string, str_size, fpureA_some, fnilA_ptr, faddA_ptr, addr_add, Nat.zero_add, Nat.add_zero, fpureQ_k, fpureQ_nilA, fpureQ_addA, fpureQ_pureA, fpureQ_guardA, fpureQ_idxSlA, fpureQ_pickA, freadQ_loadA, freadQ_loadNA, freadQ_b2sA, freadQ_guardA, freadQ_slSlA, freadQ_k, fendA, fallA_one, fstillA_nil, fguardA_tt, fguardA_ff, fguardA_tf, fguardA_ft, fguardA_undef, fpickA_true, fpickA_false, fcondA_true, fcondA_false, binA_add, binA_sub, binA_mul, binA_eql, binA_neq, binA_lss, binA_leq, binA_gtr, binA_geq, unA_not, Bool.not_true, Bool.not_false, convA_int, extA_tuple, List.getElem?_toArray, List.getElem?_cons_zero, List.getElem?_cons_succ, show ((((68 : UInt8).toNat : Nat) : Int) == 68) = true from rfl]
  have l4 : (⟨512, 2, 7, [[0, 0, 0, 3, 97, 98, 99]], 0, 1⟩ : JS).take.left = 484 := by decide
  refine callA_of (Left_spec w4 o3'.take) fun v h5 ⟨e, e1⟩ f5 => ?_
  subst e e1
  simp only [lenSl_slice, lenStr_string, str_size, fpureA_some, fnilA_ptr, faddA_ptr, addr_add, Nat.zero_add, Nat.add_zero, fpureQ_k, fpureQ_nilA, fpureQ_addA, fpureQ_pureA, fpureQ_guardA, fpureQ_idxSlA, fpureQ_pickA, freadQ_loadA, freadQ_loadNA, freadQ_b2sA, freadQ_guardA, freadQ_slSlA, freadQ_k, fendA, fallA_one, fstillA_nil, fguardA_tt, fguardA_ff, fguardA_tf, fguardA_ft, fguardA_undef, fpickA_true, fpickA_false, fcondA_true, fcondA_false, binA_add, binA_sub, binA_mul, binA_eql, binA_neq, binA_lss, binA_leq, binA_gtr, binA_geq, unA_not, Bool.not_true, Bool.not_false, convA_int, extA_tuple, List.getElem?_toArray, List.getElem?_cons_zero, List.getElem?_cons_succ, l4, beq_self_eq_true, retA_iff, oneOf_one]
  refine ⟨by simp, by trivial, ?_⟩
  exact ((s1.trans s3).trans s4).less (by simp)
theorem JournalNobody_spec {h : Hp} (l : List UInt8) : ACalls prog w0 n_deduplaw07_JournalNobody [.string (str l)] h fun v h' => v = .bool true := by
  refine ACalls.of_fit (by simp) fun f => c_deduplaw07_JournalNobody (by simp) ?_
  simp only [s_deduplaw07_JournalNobody]
  refine callA_of lives_spec fun v h1 ⟨e, s1⟩ f1 => ?_
  subst e
  have nA : ∀ {h : Hp}, ACalls prog w0 n_journal_Writer_Append [.pointer none, .string (str l)] h fun v h' => v = .int .i64 6 := by
    intro h
    refine ACalls.of_fit (by simp) fun f => c_journal_Writer_Append (by simp) ?_
    refine callA_of made_nil fun v h1 ⟨e, e1⟩ f1 => ?_
    subst e e1
    simp
  have nL : ∀ {h : Hp}, ACalls prog w0 n_journal_Writer_Left [.pointer none] h fun v h' => v = .int .i64 0 := by
    intro h
    refine ACalls.of_fit (by simp) fun f => c_journal_Writer_Left (by simp) ?_
    refine callA_of made_nil fun v h1 ⟨e, e1⟩ f1 => ?_
    subst e e1
    simp
  have nT : ∀ {h : Hp}, ACalls prog w0 n_journal_Writer_Take [.pointer none] h fun v h' => v = .slice none 0 0 := by
    intro h
    refine ACalls.of_fit (by simp) fun f => c_journal_Writer_Take (by simp) ?_
    refine callA_of made_nil fun v h1 ⟨e, e1⟩ f1 => ?_
    subst e e1
    simp
  have nR : ∀ {h : Hp}, ACalls prog w0 n_journal_Writer_Records [.pointer none] h fun v h' => v = .int .i64 0 := by
    intro h
    refine ACalls.of_fit (by simp) fun f => c_journal_Writer_Records (by simp) ?_
    refine callA_of made_nil fun v h1 ⟨e, e1⟩ f1 => ?_
    subst e e1
    simp
  have nF : ∀ {h : Hp}, ACalls prog w0 n_journal_Writer_Fork [.pointer none] h fun v h' => v = .pointer none := by
    intro h
    refine ACalls.of_fit (by simp) fun f => c_journal_Writer_Fork (by simp) ?_
    refine callA_of made_nil fun v h1 ⟨e, e1⟩ f1 => ?_
    subst e e1
    simp
  simp only [lenSl_slice, lenStr_string, str_size, fpureA_some, fnilA_ptr, faddA_ptr, addr_add, Nat.zero_add, Nat.add_zero, fpureQ_k, fpureQ_nilA, fpureQ_addA, fpureQ_pureA, fpureQ_guardA, fpureQ_idxSlA, fpureQ_pickA, freadQ_loadA, freadQ_loadNA, freadQ_b2sA, freadQ_guardA, freadQ_slSlA, freadQ_k, fendA, fallA_one, fstillA_nil, fguardA_tt, fguardA_ff, fguardA_tf, fguardA_ft, fguardA_undef, fpickA_true, fpickA_false, fcondA_true, fcondA_false, binA_add, binA_sub, binA_mul, binA_eql, binA_neq, binA_lss, binA_leq, binA_gtr, binA_geq, unA_not, Bool.not_true, Bool.not_false, convA_int, extA_tuple, List.getElem?_toArray, List.getElem?_cons_zero, List.getElem?_cons_succ]
  refine callA_of nA fun v h2 e f2 => ?_
  subst e
  simp only [lenSl_slice, lenStr_string, str_size, fpureA_some, fnilA_ptr, faddA_ptr, addr_add, Nat.zero_add, Nat.add_zero, fpureQ_k, fpureQ_nilA, fpureQ_addA, fpureQ_pureA, fpureQ_guardA, fpureQ_idxSlA, fpureQ_pickA, freadQ_loadA, freadQ_loadNA, freadQ_b2sA, freadQ_guardA, freadQ_slSlA, freadQ_k, fendA, fallA_one, fstillA_nil, fguardA_tt, fguardA_ff, fguardA_tf, fguardA_ft, fguardA_undef, fpickA_true, fpickA_false, fcondA_true, fcondA_false, binA_add, binA_sub, binA_mul, binA_eql, binA_neq, binA_lss, binA_leq, binA_gtr, binA_geq, unA_not, Bool.not_true, Bool.not_false, convA_int, extA_tuple, List.getElem?_toArray, List.getElem?_cons_zero, List.getElem?_cons_succ, beq_self_eq_true]
  refine callA_of nL fun v h3 e f3 => ?_
  subst e
  simp only [lenSl_slice, lenStr_string, str_size, fpureA_some, fnilA_ptr, faddA_ptr, addr_add, Nat.zero_add, Nat.add_zero, fpureQ_k, fpureQ_nilA, fpureQ_addA, fpureQ_pureA, fpureQ_guardA, fpureQ_idxSlA, fpureQ_pickA, freadQ_loadA, freadQ_loadNA, freadQ_b2sA, freadQ_guardA, freadQ_slSlA, freadQ_k, fendA, fallA_one, fstillA_nil, fguardA_tt, fguardA_ff, fguardA_tf, fguardA_ft, fguardA_undef, fpickA_true, fpickA_false, fcondA_true, fcondA_false, binA_add, binA_sub, binA_mul, binA_eql, binA_neq, binA_lss, binA_leq, binA_gtr, binA_geq, unA_not, Bool.not_true, Bool.not_false, convA_int, extA_tuple, List.getElem?_toArray, List.getElem?_cons_zero, List.getElem?_cons_succ, beq_self_eq_true]
  refine callA_of nT fun v h4 e f4 => ?_
  subst e
  simp only [lenSl_slice, lenStr_string, str_size, fpureA_some, fnilA_ptr, faddA_ptr, addr_add, Nat.zero_add, Nat.add_zero, fpureQ_k, fpureQ_nilA, fpureQ_addA, fpureQ_pureA, fpureQ_guardA, fpureQ_idxSlA, fpureQ_pickA, freadQ_loadA, freadQ_loadNA, freadQ_b2sA, freadQ_guardA, freadQ_slSlA, freadQ_k, fendA, fallA_one, fstillA_nil, fguardA_tt, fguardA_ff, fguardA_tf, fguardA_ft, fguardA_undef, fpickA_true, fpickA_false, fcondA_true, fcondA_false, binA_add, binA_sub, binA_mul, binA_eql, binA_neq, binA_lss, binA_leq, binA_gtr, binA_geq, unA_not, Bool.not_true, Bool.not_false, convA_int, extA_tuple, List.getElem?_toArray, List.getElem?_cons_zero, List.getElem?_cons_succ, show (((0 : Nat) : Int) == 0) = true from rfl]
  refine callA_of nR fun v h5 e f5 => ?_
  subst e
  simp only [lenSl_slice, lenStr_string, str_size, fpureA_some, fnilA_ptr, faddA_ptr, addr_add, Nat.zero_add, Nat.add_zero, fpureQ_k, fpureQ_nilA, fpureQ_addA, fpureQ_pureA, fpureQ_guardA, fpureQ_idxSlA, fpureQ_pickA, freadQ_loadA, freadQ_loadNA, freadQ_b2sA, freadQ_guardA, freadQ_slSlA, freadQ_k, fendA, fallA_one, fstillA_nil, fguardA_tt, fguardA_ff, fguardA_tf, fguardA_ft, fguardA_undef, fpickA_true, fpickA_false, fcondA_true, fcondA_false, binA_add, binA_sub, binA_mul, binA_eql, binA_neq, binA_lss, binA_leq, binA_gtr, binA_geq, unA_not, Bool.not_true, Bool.not_false, convA_int, extA_tuple, List.getElem?_toArray, List.getElem?_cons_zero, List.getElem?_cons_succ, beq_self_eq_true]
  refine callA_of nF fun v h6 e f6 => ?_
  subst e
  simp
end
end Go.Proofs.Ytiakadkooclelaa.Ah
