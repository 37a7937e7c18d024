/- dedupref07.Writer: Left, Append. -/
import Derived.Test.YtiakadkooclelaaJx
set_option linter.unusedVariables false
set_option linter.unusedSimpArgs false
namespace Go.Proofs.Ytiakadkooclelaa.Ah
open Go

section
variable {w0 : World} {h : Hp} {p : Nat} {st : JS} {S : List Nat}
theorem xLL_eq : dedupref07_Writer_Left_L1 = dedupref07_Writer_free_L1 := by
  funext P w0 k m
  induction m with
  | zero => rfl
  | succ m ih => funext a b c; simp only [dedupref07_Writer_Left_L1, dedupref07_Writer_free_L1, ih]; rfl
theorem xfree_loop {K : Value → Hp → Prop} (w : Jw w0 h p st S) (o : st.Ok) : ∀ (post pre : List (List UInt8)) (n : Int), pre ++ post = st.rooms.drop st.taken → (-9000000000000000000 ≤ n - tot post ∧ n ≤ 9000000000000000000) → K (.int .i64 (n - tot post)) h →
    dedupref07_Writer_free_L1 prog w0 K (post.length + 1) (ptr p) (.int .i64 n) (.int .i64 ((st.taken + pre.length : Nat) : Int)) h := by
  obtain ⟨x, T, hb, hB, hlt, vv, hp, rfl⟩ := w
  obtain ⟨a, c, hx⟩ := vv.slice
  have hta := o.good.1
  have hle := o.len
  have hse := o.sectors
  intro post
  induction post with
  | nil =>
    intro pre n he hn hk
    have hpl : st.taken + pre.length = st.rooms.length := by
      have := congrArg List.length he
      simp at this; omega
    rw [dedupref07_Writer_free_L1]
    simp only [dedupref07_Writer_free_B1, ptr, lenSl_slice, lenStr_string, str_size, fpureA_some, fnilA_ptr, faddA_ptr, addr_add, Nat.zero_add, Nat.add_zero, fpureQ_k, fpureQ_nilA, fpureQ_addA, fpureQ_pureA, fpureQ_guardA, fpureQ_idxSlA, fpureQ_pickA, freadQ_loadA, freadQ_loadNA, freadQ_b2sA, freadQ_guardA, freadQ_slSlA, freadQ_k, fendA, fallA_one, fstillA_nil, fguardA_tt, fguardA_ff, fguardA_tf, fguardA_ft, fguardA_undef, fpickA_true, fpickA_false, fcondA_true, fcondA_false, binA_add, binA_sub, binA_mul, binA_eql, binA_neq, binA_lss, binA_leq, binA_gtr, binA_geq, unA_not, Bool.not_true, Bool.not_false, convA_int, extA_tuple, List.getElem?_toArray, List.getElem?_cons_zero, List.getElem?_cons_succ]
    refine loadA_at hB hb (by rfl) ?_
    rw [hx]
    simp only [lenSl_slice, lenStr_string, str_size, fpureA_some, fnilA_ptr, faddA_ptr, addr_add, Nat.zero_add, Nat.add_zero, fpureQ_k, fpureQ_nilA, fpureQ_addA, fpureQ_pureA, fpureQ_guardA, fpureQ_idxSlA, fpureQ_pickA, freadQ_loadA, freadQ_loadNA, freadQ_b2sA, freadQ_guardA, freadQ_slSlA, freadQ_k, fendA, fallA_one, fstillA_nil, fguardA_tt, fguardA_ff, fguardA_tf, fguardA_ft, fguardA_undef, fpickA_true, fpickA_false, fcondA_true, fcondA_false, binA_add, binA_sub, binA_mul, binA_eql, binA_neq, binA_lss, binA_leq, binA_gtr, binA_geq, unA_not, Bool.not_true, Bool.not_false, convA_int, extA_tuple, List.getElem?_toArray, List.getElem?_cons_zero, List.getElem?_cons_succ, hpl, Int.lt_irrefl, decide_false]
    simpa using hk
  | cons r post ih =>
    intro pre n he hn hk
    have hpl : st.taken + pre.length < st.rooms.length := by
      have := congrArg List.length he
      simp at this; omega
    have ht : tot (r :: post) = r.length + tot post := by simp [tot]
    have hg : st.rooms[st.taken + pre.length]? = some r := by rw [← List.getElem?_drop, ← he]; simp
    have hrl := o.good.2.1 r (List.mem_of_getElem? hg)
    have hro := o.room
    rw [ht] at hn hk
    obtain ⟨b0, vs, y, T0, hxs, hb0B, hb0, hb0e, hvl, hvsl, vl, hT0⟩ := vv.get hg
    obtain ⟨ay, cy, hy⟩ := vl.slice
    have c1 : decide (((st.taken + pre.length : Nat) : Int) < (st.rooms.length : Int)) = true := decide_eq_true (by omega)
    have e5 : IntKind.i64.wrap (((st.taken + pre.length : Nat) : Int) + 1) = ((st.taken + (pre.length + 1) : Nat) : Int) := by rw [IntWalk.i64_in _ (by omega)]; omega
    have e6 : IntKind.i64.wrap (n - (r.length : Int)) = n - r.length := IntWalk.i64_in _ (by omega)
    have ih2 := ih (pre ++ [r]) (n - r.length) (by simpa using he) (by omega) (by
      have : n - (r.length : Int) - (tot post : Nat) = n - ((r.length + tot post : Nat) : Int) := by omega
      rw [this]; exact hk)
    rw [List.length_cons, dedupref07_Writer_free_L1]
    simp only [dedupref07_Writer_free_B1, ptr, lenSl_slice, lenStr_string, str_size, fpureA_some, fnilA_ptr, faddA_ptr, addr_add, Nat.zero_add, Nat.add_zero, fpureQ_k, fpureQ_nilA, fpureQ_addA, fpureQ_pureA, fpureQ_guardA, fpureQ_idxSlA, fpureQ_pickA, freadQ_loadA, freadQ_loadNA, freadQ_b2sA, freadQ_guardA, freadQ_slSlA, freadQ_k, fendA, fallA_one, fstillA_nil, fguardA_tt, fguardA_ff, fguardA_tf, fguardA_ft, fguardA_undef, fpickA_true, fpickA_false, fcondA_true, fcondA_false, binA_add, binA_sub, binA_mul, binA_eql, binA_neq, binA_lss, binA_leq, binA_gtr, binA_geq, unA_not, Bool.not_true, Bool.not_false, convA_int, extA_tuple, List.getElem?_toArray, List.getElem?_cons_zero, List.getElem?_cons_succ]
    refine loadA_at hB hb (by rfl) ?_
    rw [hxs]
    simp only [lenSl_slice, lenStr_string, str_size, fpureA_some, fnilA_ptr, faddA_ptr, addr_add, Nat.zero_add, Nat.add_zero, fpureQ_k, fpureQ_nilA, fpureQ_addA, fpureQ_pureA, fpureQ_guardA, fpureQ_idxSlA, fpureQ_pickA, freadQ_loadA, freadQ_loadNA, freadQ_b2sA, freadQ_guardA, freadQ_slSlA, freadQ_k, fendA, fallA_one, fstillA_nil, fguardA_tt, fguardA_ff, fguardA_tf, fguardA_ft, fguardA_undef, fpickA_true, fpickA_false, fcondA_true, fcondA_false, binA_add, binA_sub, binA_mul, binA_eql, binA_neq, binA_lss, binA_leq, binA_gtr, binA_geq, unA_not, Bool.not_true, Bool.not_false, convA_int, extA_tuple, List.getElem?_toArray, List.getElem?_cons_zero, List.getElem?_cons_succ, c1]
    refine loadA_at hB hb (by rfl) ?_
    rw [hxs]
    refine idxSlA_own (by omega) ?_
    refine loadA_at hb0B hb0 hvl ?_
    rw [hy]
    simp only [lenSl_slice, lenStr_string, str_size, fpureA_some, fnilA_ptr, faddA_ptr, addr_add, Nat.zero_add, Nat.add_zero, fpureQ_k, fpureQ_nilA, fpureQ_addA, fpureQ_pureA, fpureQ_guardA, fpureQ_idxSlA, fpureQ_pickA, freadQ_loadA, freadQ_loadNA, freadQ_b2sA, freadQ_guardA, freadQ_slSlA, freadQ_k, fendA, fallA_one, fstillA_nil, fguardA_tt, fguardA_ff, fguardA_tf, fguardA_ft, fguardA_undef, fpickA_true, fpickA_false, fcondA_true, fcondA_false, binA_add, binA_sub, binA_mul, binA_eql, binA_neq, binA_lss, binA_leq, binA_gtr, binA_geq, unA_not, Bool.not_true, Bool.not_false, convA_int, extA_tuple, List.getElem?_toArray, List.getElem?_cons_zero, List.getElem?_cons_succ, e6, e5]
    simpa [ptr] using ih2
theorem xfree_spec (w : Jw w0 h p st S) (o : st.Ok) : ACalls prog w0 n_dedupref07_Writer_free [ptr p] h fun v h' => v = .int .i64 st.free ∧ h' = h := by
  refine ACalls.of_fit (by simp [ptr]) fun f => c_dedupref07_Writer_free (by simp [ptr]) ?_
  have hro := o.room
  have hse := o.sectors
  have hle := o.len
  have hta := o.good.1
  have htot := o.tot
  have hsz := o.size
  have w' := w
  obtain ⟨x, T, hb, hB, hlt, q, hp, rfl⟩ := w
  have hmul : (st.sectors - st.taken) * st.room ≤ 4096 * 4096 := Nat.mul_le_mul (by omega) (by omega)
  have e0 : IntKind.i64.wrap ((st.size : Int) - 24) = ((st.room : Nat) : Int) := by rw [IntWalk.i64_in _ (by omega)]; unfold JS.room; omega
  have e1 : IntKind.i64.wrap ((st.sectors : Int) - (st.taken : Int)) = ((st.sectors - st.taken : Nat) : Int) := by rw [IntWalk.i64_in _ (by omega)]; omega
  have e2 : IntKind.i64.wrap (((st.sectors - st.taken : Nat) : Int) * (st.room : Int)) = (((st.sectors - st.taken) * st.room : Nat) : Int) := by rw [← Int.natCast_mul, IntWalk.i64_in _ (by omega)]
  simp only [s_dedupref07_Writer_free, ptr, lenSl_slice, lenStr_string, str_size, fpureA_some, fnilA_ptr, faddA_ptr, addr_add, Nat.zero_add, Nat.add_zero, fpureQ_k, fpureQ_nilA, fpureQ_addA, fpureQ_pureA, fpureQ_guardA, fpureQ_idxSlA, fpureQ_pickA, freadQ_loadA, freadQ_loadNA, freadQ_b2sA, freadQ_guardA, freadQ_slSlA, freadQ_k, fendA, fallA_one, fstillA_nil, fguardA_tt, fguardA_ff, fguardA_tf, fguardA_ft, fguardA_undef, fpickA_true, fpickA_false, fcondA_true, fcondA_false, binA_add, binA_sub, binA_mul, binA_eql, binA_neq, binA_lss, binA_leq, binA_gtr, binA_geq, unA_not, Bool.not_true, Bool.not_false, convA_int, extA_tuple, List.getElem?_toArray, List.getElem?_cons_zero, List.getElem?_cons_succ]
  refine loadA_at hB hb (by rfl) ?_
  simp only [lenSl_slice, lenStr_string, str_size, fpureA_some, fnilA_ptr, faddA_ptr, addr_add, Nat.zero_add, Nat.add_zero, fpureQ_k, fpureQ_nilA, fpureQ_addA, fpureQ_pureA, fpureQ_guardA, fpureQ_idxSlA, fpureQ_pickA, freadQ_loadA, freadQ_loadNA, freadQ_b2sA, freadQ_guardA, freadQ_slSlA, freadQ_k, fendA, fallA_one, fstillA_nil, fguardA_tt, fguardA_ff, fguardA_tf, fguardA_ft, fguardA_undef, fpickA_true, fpickA_false, fcondA_true, fcondA_false, binA_add, binA_sub, binA_mul, binA_eql, binA_neq, binA_lss, binA_leq, binA_gtr, binA_geq, unA_not, Bool.not_true, Bool.not_false, convA_int, extA_tuple, List.getElem?_toArray, List.getElem?_cons_zero, List.getElem?_cons_succ, e0]
  refine loadA_at hB hb (by rfl) ?_
  refine loadA_at hB hb (by rfl) ?_
  simp only [lenSl_slice, lenStr_string, str_size, fpureA_some, fnilA_ptr, faddA_ptr, addr_add, Nat.zero_add, Nat.add_zero, fpureQ_k, fpureQ_nilA, fpureQ_addA, fpureQ_pureA, fpureQ_guardA, fpureQ_idxSlA, fpureQ_pickA, freadQ_loadA, freadQ_loadNA, freadQ_b2sA, freadQ_guardA, freadQ_slSlA, freadQ_k, fendA, fallA_one, fstillA_nil, fguardA_tt, fguardA_ff, fguardA_tf, fguardA_ft, fguardA_undef, fpickA_true, fpickA_false, fcondA_true, fcondA_false, binA_add, binA_sub, binA_mul, binA_eql, binA_neq, binA_lss, binA_leq, binA_gtr, binA_geq, unA_not, Bool.not_true, Bool.not_false, convA_int, extA_tuple, List.getElem?_toArray, List.getElem?_cons_zero, List.getElem?_cons_succ, e1, e2]
  refine loadA_at hB hb (by rfl) ?_
  refine ⟨(st.rooms.drop st.taken).length + 1, ?_⟩
  have := xfree_loop (K := fun y4 => retA [y4] fun v h' => v = .int .i64 st.free ∧ h' = h) w' o (st.rooms.drop st.taken) [] (((st.sectors - st.taken) * st.room : Nat) : Int) rfl (by omega) (by
    simp only [retA_iff, oneOf_one]
    exact ⟨by simp, rfl, by trivial⟩)
  simpa [ptr] using this
theorem xLeft_spec (w : Jw w0 h p st S) (o : st.Ok) : ACalls prog w0 n_dedupref07_Writer_Left [ptr p] h fun v h' => v = .int .i64 st.left ∧ h' = h := by
  refine ACalls.of_fit (by simp [ptr]) fun f => c_dedupref07_Writer_Left (by simp [ptr]) ?_
  have hro := o.room
  have hse := o.sectors
  have hle := o.len
  have hta := o.good.1
  have htot := o.tot
  have hsz := o.size
  have w' := w
  obtain ⟨x, T, hb, hB, hlt, q, hp, rfl⟩ := w
  have hmul : (st.sectors - st.taken) * st.room ≤ 4096 * 4096 := Nat.mul_le_mul (by omega) (by omega)
  have e0 : IntKind.i64.wrap ((st.size : Int) - 24) = ((st.room : Nat) : Int) := by rw [IntWalk.i64_in _ (by omega)]; unfold JS.room; omega
  have e1 : IntKind.i64.wrap ((st.sectors : Int) - (st.taken : Int)) = ((st.sectors - st.taken : Nat) : Int) := by rw [IntWalk.i64_in _ (by omega)]; omega
  have e2 : IntKind.i64.wrap (((st.sectors - st.taken : Nat) : Int) * (st.room : Int)) = (((st.sectors - st.taken) * st.room : Nat) : Int) := by rw [← Int.natCast_mul, IntWalk.i64_in _ (by omega)]
  have e3 : IntKind.i64.wrap (st.free - 4) = st.free - 4 := IntWalk.i64_in _ (by unfold JS.free; omega)
  simp only [s_dedupref07_Writer_Left, ptr, lenSl_slice, lenStr_string, str_size, fpureA_some, fnilA_ptr, faddA_ptr, addr_add, Nat.zero_add, Nat.add_zero, fpureQ_k, fpureQ_nilA, fpureQ_addA, fpureQ_pureA, fpureQ_guardA, fpureQ_idxSlA, fpureQ_pickA, freadQ_loadA, freadQ_loadNA, freadQ_b2sA, freadQ_guardA, freadQ_slSlA, freadQ_k, fendA, fallA_one, fstillA_nil, fguardA_tt, fguardA_ff, fguardA_tf, fguardA_ft, fguardA_undef, fpickA_true, fpickA_false, fcondA_true, fcondA_false, binA_add, binA_sub, binA_mul, binA_eql, binA_neq, binA_lss, binA_leq, binA_gtr, binA_geq, unA_not, Bool.not_true, Bool.not_false, convA_int, extA_tuple, List.getElem?_toArray, List.getElem?_cons_zero, List.getElem?_cons_succ]
  refine loadA_at hB hb (by rfl) ?_
  simp only [lenSl_slice, lenStr_string, str_size, fpureA_some, fnilA_ptr, faddA_ptr, addr_add, Nat.zero_add, Nat.add_zero, fpureQ_k, fpureQ_nilA, fpureQ_addA, fpureQ_pureA, fpureQ_guardA, fpureQ_idxSlA, fpureQ_pickA, freadQ_loadA, freadQ_loadNA, freadQ_b2sA, freadQ_guardA, freadQ_slSlA, freadQ_k, fendA, fallA_one, fstillA_nil, fguardA_tt, fguardA_ff, fguardA_tf, fguardA_ft, fguardA_undef, fpickA_true, fpickA_false, fcondA_true, fcondA_false, binA_add, binA_sub, binA_mul, binA_eql, binA_neq, binA_lss, binA_leq, binA_gtr, binA_geq, unA_not, Bool.not_true, Bool.not_false, convA_int, extA_tuple, List.getElem?_toArray, List.getElem?_cons_zero, List.getElem?_cons_succ, e0]
  refine loadA_at hB hb (by rfl) ?_
  refine loadA_at hB hb (by rfl) ?_
  simp only [lenSl_slice, lenStr_string, str_size, fpureA_some, fnilA_ptr, faddA_ptr, addr_add, Nat.zero_add, Nat.add_zero, fpureQ_k, fpureQ_nilA, fpureQ_addA, fpureQ_pureA, fpureQ_guardA, fpureQ_idxSlA, fpureQ_pickA, freadQ_loadA, freadQ_loadNA, freadQ_b2sA, freadQ_guardA, freadQ_slSlA, freadQ_k, fendA, fallA_one, fstillA_nil, fguardA_tt, fguardA_ff, fguardA_tf, fguardA_ft, fguardA_undef, fpickA_true, fpickA_false, fcondA_true, fcondA_false, binA_add, binA_sub, binA_mul, binA_eql, binA_neq, binA_lss, binA_leq, binA_gtr, binA_geq, unA_not, Bool.not_true, Bool.not_false, convA_int, extA_tuple, List.getElem?_toArray, List.getElem?_cons_zero, List.getElem?_cons_succ, e1, e2]
  refine loadA_at hB hb (by rfl) ?_
  refine ⟨(st.rooms.drop st.taken).length + 1, ?_⟩
  rw [xLL_eq]
  have := xfree_loop (K := fun y4 => pureA (binA .sub y4 (.int .i64 4)) fun v46 => pureA (binA .lss v46 (.int .i64 0)) fun v48 => condA v48 (retA [(.int .i64 0)] fun v h' => v = .int .i64 st.left ∧ h' = h) (retA [v46] fun v h' => v = .int .i64 st.left ∧ h' = h)) w' o (st.rooms.drop st.taken) [] (((st.sectors - st.taken) * st.room : Nat) : Int) rfl (by omega) (by
    have hfr : (((st.sectors - st.taken) * st.room : Nat) : Int) - (tot (st.rooms.drop st.taken) : Nat) = st.free := rfl
    rw [hfr]
    simp only [lenSl_slice, lenStr_string, str_size, fpureA_some, fnilA_ptr, faddA_ptr, addr_add, Nat.zero_add, Nat.add_zero, fpureQ_k, fpureQ_nilA, fpureQ_addA, fpureQ_pureA, fpureQ_guardA, fpureQ_idxSlA, fpureQ_pickA, freadQ_loadA, freadQ_loadNA, freadQ_b2sA, freadQ_guardA, freadQ_slSlA, freadQ_k, fendA, fallA_one, fstillA_nil, fguardA_tt, fguardA_ff, fguardA_tf, fguardA_ft, fguardA_undef, fpickA_true, fpickA_false, fcondA_true, fcondA_false, binA_add, binA_sub, binA_mul, binA_eql, binA_neq, binA_lss, binA_leq, binA_gtr, binA_geq, unA_not, Bool.not_true, Bool.not_false, convA_int, extA_tuple, List.getElem?_toArray, List.getElem?_cons_zero, List.getElem?_cons_succ, e3, condA_bool]
    refine ⟨fun hneg => ?_, fun hneg => ?_⟩
    · have hneg := of_decide_eq_true hneg
      have : st.left = 0 := by unfold JS.left; omega
      simp [this]
    · have hneg := of_decide_eq_false hneg
      have : st.left = st.free - 4 := by unfold JS.left; omega
      simp [this])
  simpa [ptr] using this
end

section
variable {w0 : World} {p : Nat}
/-- A byte goes behind those of the last room. -/
theorem put_byte {h : Hp} {st : JS} {S SX : List Nat} {fs : List (List UInt8)} {r all : List UInt8} {x5 : Value} {j : Nat} {b : UInt8} {K : Hp → Prop} (w : Jw w0 h p st S) (hrs : st.rooms = fs ++ [r]) (hn : fs.length ≤ 1000000) (hrl : r.length ≤ 1000000) (v5 : GV w0 h 1 x5 all.length (bvs all) SX) (hj : all[j]? = some b) (hd : ∀ c, c ∈ SX → c ∉ S)
    (hk : ∀ h' S', Jw w0 h' p { st with rooms := fs ++ [r ++ [b]] } S' → GV w0 h' 1 x5 all.length (bvs all) SX → (∀ c, c ∈ SX → c ∉ S') → Step h h' S S' → K h') :
    loadA w0 (.pointer (some ⟨p, 3, none⟩)) (fun v71 =>
    loadA w0 (.pointer (some ⟨p, 3, none⟩)) fun v77 =>
    idxSlA 1 v77 (.int .i64 (fs.length : Int)) fun v80 =>
    loadA w0 v80 fun v81 =>
    idxSlA 1 x5 (.int .i64 (j : Int)) fun v84 =>
    loadA w0 v84 fun v85 =>
    bslA [(0, 1, false, v85)] (zerosL [(.int .u8 0)] 1) 1 1 fun v86 =>
    stillA [(sameQ (loadA w0 v80) v81), (sameQ (loadA w0 (.pointer (some ⟨p, 3, none⟩))) v77), (sameQ (loadA w0 (.pointer (some ⟨p, 3, none⟩))) v71)] (
    appA w0 1 1 v81 v86 fun v87 =>
    stillA [(sameQ (loadA w0 (.pointer (some ⟨p, 3, none⟩))) v71)] (
    idxSlA 1 v71 (.int .i64 (fs.length : Int)) fun v88 =>
    storeA w0 v88 v87 fun _ => K))) h := by
  obtain ⟨x, T, hb, hB, hlt, vv, hp, rfl⟩ := w
  have hrl2 : st.rooms.length = fs.length + 1 := by rw [hrs]; simp
  obtain ⟨vs, U, S0, vx, rw_, d, rfl⟩ := vv
  rw [hrs] at rw_
  obtain ⟨vs', v, S', T0, rfl, rw', vl, dl, rfl⟩ := rw_.last
  have hlv := rw'.len
  have hvl : (vs' ++ [v])[fs.length]? = some v := by
    rw [List.getElem?_append_right (by omega)]; simp [hlv]
  rcases vx with ⟨-, e, -⟩ | ⟨b0, rfl, rfl, hb0B, hb0l, hb0, hb0e, -⟩
  · omega
  refine loadA_at hB hb (by rfl) ?_
  refine loadA_at hB hb (by rfl) ?_
  refine idxSlA_own (by omega) ?_
  refine loadA_at hb0B hb0 hvl ?_
  have hs5 := v5.src
  obtain ⟨a5, c5, rfl⟩ := v5.slice
  refine idx_load1 hs5 (by simp) (v := bv b) (by rw [bvs_get, hj]; rfl) ?_
  have hz : zerosL [(.int .u8 0 : Value)] 1 = [.int .u8 0] := rfl
  simp only [hz, bslA_iff, fillA_one, fillA_nil, isCell_bv, true_and, List.set_cons_zero, List.length_cons, List.length_nil]
  refine ⟨by omega, ?_⟩
  have s1 := (Step.refl h [] (by simp)).new [bv b] 1
  have hb1 : (h.new [bv b] 1).blk p = _ := (s1.keep p hlt (by simp)).1.trans hb
  have hb01 : (h.new [bv b] 1).blk b0 = _ := (s1.keep b0 hb0l (by simp)).1.trans hb0
  have hb01e : (h.new [bv b] 1).esz b0 = 1 := (s1.keep b0 hb0l (by simp)).2.trans hb0e
  simp only [stillA_iff, allA_cons, allA_one, sameQ_loadA]
  refine ⟨⟨loadA_at hb0B hb01 hvl rfl, loadA_at hB hb1 (by rfl) rfl, loadA_at hB hb1 (by rfl) rfl⟩, ?_⟩
  have hpT0 : p ∉ T0 := fun e => hp (by simp [e])
  have vl1 := vl.frame s1 (by simp)
  refine appA_vec (m := 1) (ys := bvs [b]) (by simp; omega) vl1 (by simp) (src_new (by omega) (by simp)) (by simp) (by omega) (by omega) (by omega) (fun v' h' T' vv' st' => ?_)
  have hlt1 : p < (h.new [bv b] 1).next := by simp; omega
  have hb0l1 : b0 < (h.new [bv b] 1).next := by simp; omega
  have hb' : h'.blk p = _ := (st'.keep p hlt1 hpT0).1.trans hb1
  have hb0T0 : b0 ∉ T0 := fun e => d b0 (by simp) (by simp [e])
  have hb0' : h'.blk b0 = _ := (st'.keep b0 hb0l1 hb0T0).1.trans hb01
  have hb0e' : h'.esz b0 = 1 := (st'.keep b0 hb0l1 hb0T0).2.trans hb01e
  simp only [stillA_iff, allA_one, sameQ_loadA]
  refine ⟨loadA_at hB hb' (by rfl) rfl, ?_⟩
  refine idxSlA_own (by omega) ?_
  obtain ⟨av', cv', hvs'⟩ := vv'.slice
  refine storeA_at hb0B hb0' (by simp; omega) (by rw [hvs']; rfl) ?_
  have hset : (vs' ++ [v]).set fs.length v' = vs' ++ [v'] := by
    rw [List.set_append_right _ _ (by omega), show fs.length - vs'.length = 0 by omega]; rfl
  rw [hset]
  have s01 : Step h h' T0 T' := (((Step.refl h T0 fun b hb => (vl.lt b hb).2).new [bv b] 1).less (T := T0) (fun b hb => by simp [hb])).trans st'
  have hT'n : ∀ b, b ∈ T' → b ∈ T0 ∨ h.next ≤ b := fun b hb => (s01.own b hb).2
  have dT' : ∀ b, b ∈ T' → b ∉ S' := fun b hb hs => by
    rcases hT'n b hb with e | e
    · exact dl b e hs
    · have := (rw'.lt b hs).2; omega
  have hpT' : p ∉ T' := fun e => by
    rcases hT'n p e with g | g
    · exact hpT0 g
    · omega
  have hb0T' : b0 ∉ T' := fun e => by
    rcases hT'n b0 e with g | g
    · exact hb0T0 g
    · omega
  have st2 : Step h (h'.put b0 (vs' ++ [v'])) (p :: ([b0] ++ (S' ++ T0))) (p :: ([b0] ++ (S' ++ T'))) := by
    refine (s01.wide (T := p :: ([b0] ++ (S' ++ T0))) (T' := p :: ([b0] ++ (S' ++ T'))) (fun b hb => by simp [hb]) (fun b hb => ?_)).put (by simp) _
    simp only [List.mem_cons, List.mem_append, List.not_mem_nil, or_false] at hb
    rcases hb with rfl | rfl | hb | hb
    · exact .inr ⟨by simp, hlt⟩
    · exact .inr ⟨by simp, hb0l⟩
    · exact .inr ⟨by simp [hb], (rw'.lt b hb).2⟩
    · exact .inl hb
  have hdSX : ∀ c, c ∈ SX → c ∉ p :: ([b0] ++ (S' ++ T')) := fun c hc e => by
    have h1 := hd c hc
    simp only [List.mem_cons, List.mem_append, List.not_mem_nil, or_false, not_or] at h1 e
    rcases e with e | e | e | e
    · exact h1.1 e
    · exact h1.2.1 e
    · exact h1.2.2.1 e
    · rcases hT'n c e with g | g
      · exact h1.2.2.2 g
      · have := (v5.lt c hc).2; omega
  refine hk _ (p :: ([b0] ++ (S' ++ T'))) ⟨.slice (some ⟨b0, 0, none⟩) st.rooms.length ucap, [b0] ++ (S' ++ T'), ?_, hB, by have := st2.next; omega, ⟨vs' ++ [v'], [b0], S' ++ T', ?_, ?_, ?_, rfl⟩, ?_, rfl⟩ (v5.frame st2 hd) hdSX st2
  · have hpb0 : p ≠ b0 := fun e => hp (by simp [e])
    simp only [put_blk, if_neg hpb0]
    exact hb'
  · refine .inr ⟨b0, by rw [hrl2]; simp, rfl, hb0B, by have := st2.next; omega, by simp, by simpa using hb0e', by simp; omega⟩
  · have hr1 := (rw'.frame s01 (fun b hb he => dl b he hb)).put (p := b0) (fun e => d b0 (by simp) (by simp [e])) (vs' ++ [v'])
    have hv1 := vv'.put (p := b0) hb0T' (vs' ++ [v'])
    refine .snoc hr1 ?_ dT'
    have e4 : r.length + 1 = (r ++ [b]).length := by simp
    rw [e4] at hv1
    simpa using hv1
  · intro b hb he
    simp at hb
    subst hb
    rcases List.mem_append.1 he with g | g
    · exact d b (by simp) (by simp [g])
    · exact hb0T' g
  · intro e
    simp only [List.mem_cons, List.mem_append, List.not_mem_nil, or_false] at e
    rcases e with e | e | e
    · exact hp (by simp [e])
    · exact hp (by simp [e])
    · exact hpT' e
/-- A byte goes behind the others. -/
theorem push_step {h : Hp} {st : JS} {S SX : List Nat} {all : List UInt8} {x5 : Value} {j m : Nat} {b : UInt8} {k0 : Value → Hp → Prop} (w : Jw w0 h p st S) (hsz : 512 ≤ st.size ∧ st.size ≤ 4096) (ht : st.taken ≤ st.rooms.length) (hrm : ∀ r, r ∈ st.rooms → r.length ≤ st.room) (hn : st.rooms.length ≤ 1000000)
    (v5 : GV w0 h 1 x5 all.length (bvs all) SX) (hj : all[j]? = some b) (hjl : all.length ≤ 1000000) (hd : ∀ c, c ∈ SX → c ∉ S)
    (hk : ∀ h' S', Jw w0 h' p { st with rooms := pushB st.room st.taken st.rooms b } S' → GV w0 h' 1 x5 all.length (bvs all) SX → (∀ c, c ∈ SX → c ∉ S') → Step h h' S S' → dedupref07_Writer_Append_L1 prog w0 k0 m (ptr p) x5 (.int .i64 ((j + 1 : Nat) : Int)) h') :
    dedupref07_Writer_Append_L1 prog w0 k0 (m + 1) (ptr p) x5 (.int .i64 (j : Int)) h := by
  have w' := w
  obtain ⟨x, T, hb, hB, hlt, vv, hp, rfl⟩ := w
  have hjlt := (List.getElem?_eq_some_iff.1 hj).1
  obtain ⟨aR, cR, hxR⟩ := vv.slice
  obtain ⟨a5, c5, hx5⟩ := v5.slice
  have hro : 488 ≤ st.room ∧ st.room ≤ 4072 := by unfold JS.room; omega
  have c1 : decide ((j : Int) < (all.length : Int)) = true := decide_eq_true (by omega)
  have e5 : IntKind.i64.wrap ((j : Int) + 1) = ((j + 1 : Nat) : Int) := by rw [IntWalk.i64_in _ (by omega)]; simp
  have e6 : IntKind.i64.wrap ((st.rooms.length : Int) + 1) = ((st.rooms.length + 1 : Nat) : Int) := by rw [IntWalk.i64_in _ (by omega)]; simp
  have e7 : IntKind.i64.wrap (((st.rooms.length + 1 : Nat) : Int) - 1) = (st.rooms.length : Int) := by rw [IntWalk.i64_in _ (by omega)]; omega
  have e8 : IntKind.i64.wrap ((st.size : Int) - 24) = ((st.room : Nat) : Int) := by rw [IntWalk.i64_in _ (by omega)]; unfold JS.room; omega
  have hz : zerosL [(.slice none 0 0 : Value)] 1 = [.slice none 0 0] := rfl
  -- a new room, and the byte into it
  have hopen : pushB st.room st.taken st.rooms b = st.rooms ++ [[b]] → ∀ {K : Kont},
      (∀ h' S', Jw w0 h' p { st with rooms := st.rooms ++ [[]] } S' → GV w0 h' 1 x5 all.length (bvs all) SX → (∀ c, c ∈ SX → c ∉ S') → Step h h' (p :: T) S' → K undef h') →
      loadA w0 (.pointer (some ⟨p, 3, none⟩)) (fun v61 => bslA [(0, 1, false, (.slice none 0 0))] (zerosL [(.slice none 0 0)] 1) 1 1 fun v62 => appA w0 1 24 v61 v62 fun v63 => storeA w0 (.pointer (some ⟨p, 3, none⟩)) v63 K) h := by
    intro _ K hK
    refine loadA_at hB hb (by rfl) ?_
    simp only [hz, bslA_iff, fillA_one, fillA_nil, isCell_slice, true_and, List.set_cons_zero, List.length_cons, List.length_nil]
    refine ⟨by omega, ?_⟩
    have s1 := (Step.refl h [] (by simp)).new [(.slice none 0 0 : Value)] 1
    have v1 := vv.frame s1 (by simp)
    refine appA_vvec (r := []) (T := []) (by simp; omega) v1 (src_new (by omega) (by simp)) .nil (by simp) (by omega) (by omega) fun x' h' S' v' st' => ?_
    have st0 : Step h h' T S' := (((Step.refl h T fun b hb => (vv.lt b hb).2).new [(.slice none 0 0 : Value)] 1).less (T := T) (fun b hb => by simp [hb])).trans (by simpa using st')
    have hb' : h'.blk p = _ := (st0.keep p hlt hp).1.trans hb
    obtain ⟨a', c', hx'⟩ := v'.slice
    refine storeA_at hB hb' (by simp) (by rw [hx']; rfl) ?_
    have hpS' : p ∉ S' := fun e => by rcases (st0.own p e).2 with g | g; exact hp g; omega
    have stp : Step h (h'.put p ([.int .i64 st.size, .int .i64 st.sectors, .int .u64 st.gen, x, .int .i64 st.taken, .int .i64 st.cnt].set 3 x')) (p :: T) (p :: S') := (st0.wide (T := p :: T) (T' := p :: S') (fun b hb => by simp [hb]) (fun b hb => by
        rcases List.mem_cons.1 hb with rfl | hb
        · exact .inr ⟨by simp, hlt⟩
        · exact .inl hb)).put (by simp) _
    refine hK _ (p :: S') ⟨x', S', by simp, hB, by have := st0.next; simp; omega, v'.put hpS' _, hpS', rfl⟩ (v5.frame stp hd) (fun c hc e => ?_) stp
    rcases List.mem_cons.1 e with e | e
    · exact hd c hc (by simp [e])
    · rcases (st0.own c e).2 with g | g
      · exact hd c hc (by simp [g])
      · have := (v5.lt c hc).2; omega
  rw [dedupref07_Writer_Append_L1]
  by_cases hnew : st.rooms.length = st.taken ∨ ∃ fs r, st.rooms = fs ++ [r] ∧ r.length = st.room
  · have hpb : pushB st.room st.taken st.rooms b = st.rooms ++ [[b]] := by
      rcases hnew with e | ⟨fs, r, e, e2⟩
      · exact pushB_taken e
      · rw [e, pushB_snoc, if_pos (.inr e2)]
    -- the decision
    have hdec : ∀ {Z : Value → Hp → Prop}, Z (.bool true) h → (∀ (q : Bool), True) → True := fun _ _ => trivial
    have fin : loadA w0 (.pointer (some ⟨p, 3, none⟩)) (fun v61 => bslA [(0, 1, false, (.slice none 0 0))] (zerosL [(.slice none 0 0)] 1) 1 1 fun v62 => appA w0 1 24 v61 v62 fun v63 => storeA w0 (.pointer (some ⟨p, 3, none⟩)) v63 fun _ =>
        loadA w0 (.pointer (some ⟨p, 3, none⟩)) fun v71 => loadA w0 (.pointer (some ⟨p, 3, none⟩)) fun v77 => idxSlA 1 v77 (.int .i64 (st.rooms.length : Int)) fun v80 => loadA w0 v80 fun v81 => idxSlA 1 x5 (.int .i64 (j : Int)) fun v84 => loadA w0 v84 fun v85 =>
        bslA [(0, 1, false, v85)] (zerosL [(.int .u8 0)] 1) 1 1 fun v86 => stillA [(sameQ (loadA w0 v80) v81), (sameQ (loadA w0 (.pointer (some ⟨p, 3, none⟩))) v77), (sameQ (loadA w0 (.pointer (some ⟨p, 3, none⟩))) v71)] (
        appA w0 1 1 v81 v86 fun v87 => stillA [(sameQ (loadA w0 (.pointer (some ⟨p, 3, none⟩))) v71)] (idxSlA 1 v71 (.int .i64 (st.rooms.length : Int)) fun v88 => storeA w0 v88 v87 fun _ => dedupref07_Writer_Append_L1 prog w0 k0 m (.pointer (some ⟨p, 0, none⟩)) x5 (.int .i64 ((j + 1 : Nat) : Int))))) h := by
      refine hopen hpb fun h' S' w1 v1 d1 s1 => ?_
      refine put_byte (fs := st.rooms) (r := []) w1 rfl hn (by simp) v1 hj d1 fun h2 S2 w2 v2 d2 s2 => ?_
      rw [hpb] at hk
      exact hk h2 S2 w2 v2 d2 (s1.trans s2)
    by_cases hta : st.rooms.length = st.taken
    · have c2 : ((st.rooms.length : Int) == (st.taken : Int)) = true := by rw [hta]; simp
      rw [hx5]
      simp only [dedupref07_Writer_Append_B1, ptr, lenSl_slice, lenStr_string, str_size, fpureA_some, fnilA_ptr, faddA_ptr, addr_add, Nat.zero_add, Nat.add_zero, fpureQ_k, fpureQ_nilA, fpureQ_addA, fpureQ_pureA, fpureQ_guardA, fpureQ_idxSlA, fpureQ_pickA, freadQ_loadA, freadQ_loadNA, freadQ_b2sA, freadQ_guardA, freadQ_slSlA, freadQ_k, fendA, fallA_one, fstillA_nil, fguardA_tt, fguardA_ff, fguardA_tf, fguardA_ft, fguardA_undef, fpickA_true, fpickA_false, fcondA_true, fcondA_false, binA_add, binA_sub, binA_mul, binA_eql, binA_neq, binA_lss, binA_leq, binA_gtr, binA_geq, unA_not, Bool.not_true, Bool.not_false, convA_int, extA_tuple, List.getElem?_toArray, List.getElem?_cons_zero, List.getElem?_cons_succ, c1]
      refine loadA_at hB hb (by rfl) ?_
      rw [hxR]
      simp only [lenSl_slice, lenStr_string, str_size, fpureA_some, fnilA_ptr, faddA_ptr, addr_add, Nat.zero_add, Nat.add_zero, fpureQ_k, fpureQ_nilA, fpureQ_addA, fpureQ_pureA, fpureQ_guardA, fpureQ_idxSlA, fpureQ_pickA, freadQ_loadA, freadQ_loadNA, freadQ_b2sA, freadQ_guardA, freadQ_slSlA, freadQ_k, fendA, fallA_one, fstillA_nil, fguardA_tt, fguardA_ff, fguardA_tf, fguardA_ft, fguardA_undef, fpickA_true, fpickA_false, fcondA_true, fcondA_false, binA_add, binA_sub, binA_mul, binA_eql, binA_neq, binA_lss, binA_leq, binA_gtr, binA_geq, unA_not, Bool.not_true, Bool.not_false, convA_int, extA_tuple, List.getElem?_toArray, List.getElem?_cons_zero, List.getElem?_cons_succ]
      refine loadA_at hB hb (by rfl) ?_
      simp only [lenSl_slice, lenStr_string, str_size, fpureA_some, fnilA_ptr, faddA_ptr, addr_add, Nat.zero_add, Nat.add_zero, fpureQ_k, fpureQ_nilA, fpureQ_addA, fpureQ_pureA, fpureQ_guardA, fpureQ_idxSlA, fpureQ_pickA, freadQ_loadA, freadQ_loadNA, freadQ_b2sA, freadQ_guardA, freadQ_slSlA, freadQ_k, fendA, fallA_one, fstillA_nil, fguardA_tt, fguardA_ff, fguardA_tf, fguardA_ft, fguardA_undef, fpickA_true, fpickA_false, fcondA_true, fcondA_false, binA_add, binA_sub, binA_mul, binA_eql, binA_neq, binA_lss, binA_leq, binA_gtr, binA_geq, unA_not, Bool.not_true, Bool.not_false, convA_int, extA_tuple, List.getElem?_toArray, List.getElem?_cons_zero, List.getElem?_cons_succ, c2, e5, e6, e7]
      rw [← hx5]
      exact fin
    · obtain ⟨fs, r, hrs, hfull⟩ := hnew.resolve_left hta
      have hrl : st.rooms.length = fs.length + 1 := by rw [hrs]; simp
      have c2 : ((st.rooms.length : Int) == (st.taken : Int)) = false := by rw [beq_eq_false_iff_ne]; omega
      have c3 : ((r.length : Int) == (st.room : Int)) = true := by rw [beq_iff_eq, hfull]
      have e4 : IntKind.i64.wrap ((st.rooms.length : Int) - 1) = (fs.length : Int) := by rw [IntWalk.i64_in _ (by omega)]; omega
      obtain ⟨b0, vs, v, T0, hxs, hb0B, hb0, hb0e, hvl, hvsl, vl, hT0⟩ := vv.get (i := fs.length) (r := r) (by rw [hrs]; simp)
      obtain ⟨av, cv, hvs⟩ := vl.slice
      rw [hx5]
      simp only [dedupref07_Writer_Append_B1, ptr, lenSl_slice, lenStr_string, str_size, fpureA_some, fnilA_ptr, faddA_ptr, addr_add, Nat.zero_add, Nat.add_zero, fpureQ_k, fpureQ_nilA, fpureQ_addA, fpureQ_pureA, fpureQ_guardA, fpureQ_idxSlA, fpureQ_pickA, freadQ_loadA, freadQ_loadNA, freadQ_b2sA, freadQ_guardA, freadQ_slSlA, freadQ_k, fendA, fallA_one, fstillA_nil, fguardA_tt, fguardA_ff, fguardA_tf, fguardA_ft, fguardA_undef, fpickA_true, fpickA_false, fcondA_true, fcondA_false, binA_add, binA_sub, binA_mul, binA_eql, binA_neq, binA_lss, binA_leq, binA_gtr, binA_geq, unA_not, Bool.not_true, Bool.not_false, convA_int, extA_tuple, List.getElem?_toArray, List.getElem?_cons_zero, List.getElem?_cons_succ, c1]
      refine loadA_at hB hb (by rfl) ?_
      rw [hxs]
      simp only [lenSl_slice, lenStr_string, str_size, fpureA_some, fnilA_ptr, faddA_ptr, addr_add, Nat.zero_add, Nat.add_zero, fpureQ_k, fpureQ_nilA, fpureQ_addA, fpureQ_pureA, fpureQ_guardA, fpureQ_idxSlA, fpureQ_pickA, freadQ_loadA, freadQ_loadNA, freadQ_b2sA, freadQ_guardA, freadQ_slSlA, freadQ_k, fendA, fallA_one, fstillA_nil, fguardA_tt, fguardA_ff, fguardA_tf, fguardA_ft, fguardA_undef, fpickA_true, fpickA_false, fcondA_true, fcondA_false, binA_add, binA_sub, binA_mul, binA_eql, binA_neq, binA_lss, binA_leq, binA_gtr, binA_geq, unA_not, Bool.not_true, Bool.not_false, convA_int, extA_tuple, List.getElem?_toArray, List.getElem?_cons_zero, List.getElem?_cons_succ]
      refine loadA_at hB hb (by rfl) ?_
      simp only [lenSl_slice, lenStr_string, str_size, fpureA_some, fnilA_ptr, faddA_ptr, addr_add, Nat.zero_add, Nat.add_zero, fpureQ_k, fpureQ_nilA, fpureQ_addA, fpureQ_pureA, fpureQ_guardA, fpureQ_idxSlA, fpureQ_pickA, freadQ_loadA, freadQ_loadNA, freadQ_b2sA, freadQ_guardA, freadQ_slSlA, freadQ_k, fendA, fallA_one, fstillA_nil, fguardA_tt, fguardA_ff, fguardA_tf, fguardA_ft, fguardA_undef, fpickA_true, fpickA_false, fcondA_true, fcondA_false, binA_add, binA_sub, binA_mul, binA_eql, binA_neq, binA_lss, binA_leq, binA_gtr, binA_geq, unA_not, Bool.not_true, Bool.not_false, convA_int, extA_tuple, List.getElem?_toArray, List.getElem?_cons_zero, List.getElem?_cons_succ, c2]
      refine loadA_at hB hb (by rfl) ?_
      rw [hxs]
      simp only [lenSl_slice, lenStr_string, str_size, fpureA_some, fnilA_ptr, faddA_ptr, addr_add, Nat.zero_add, Nat.add_zero, fpureQ_k, fpureQ_nilA, fpureQ_addA, fpureQ_pureA, fpureQ_guardA, fpureQ_idxSlA, fpureQ_pickA, freadQ_loadA, freadQ_loadNA, freadQ_b2sA, freadQ_guardA, freadQ_slSlA, freadQ_k, fendA, fallA_one, fstillA_nil, fguardA_tt, fguardA_ff, fguardA_tf, fguardA_ft, fguardA_undef, fpickA_true, fpickA_false, fcondA_true, fcondA_false, binA_add, binA_sub, binA_mul, binA_eql, binA_neq, binA_lss, binA_leq, binA_gtr, binA_geq, unA_not, Bool.not_true, Bool.not_false, convA_int, extA_tuple, List.getElem?_toArray, List.getElem?_cons_zero, List.getElem?_cons_succ, e4]
      refine idxSlA_own (by omega) ?_
      refine loadA_at hb0B hb0 hvl ?_
      rw [hvs]
      simp only [lenSl_slice, lenStr_string, str_size, fpureA_some, fnilA_ptr, faddA_ptr, addr_add, Nat.zero_add, Nat.add_zero, fpureQ_k, fpureQ_nilA, fpureQ_addA, fpureQ_pureA, fpureQ_guardA, fpureQ_idxSlA, fpureQ_pickA, freadQ_loadA, freadQ_loadNA, freadQ_b2sA, freadQ_guardA, freadQ_slSlA, freadQ_k, fendA, fallA_one, fstillA_nil, fguardA_tt, fguardA_ff, fguardA_tf, fguardA_ft, fguardA_undef, fpickA_true, fpickA_false, fcondA_true, fcondA_false, binA_add, binA_sub, binA_mul, binA_eql, binA_neq, binA_lss, binA_leq, binA_gtr, binA_geq, unA_not, Bool.not_true, Bool.not_false, convA_int, extA_tuple, List.getElem?_toArray, List.getElem?_cons_zero, List.getElem?_cons_succ]
      refine loadA_at hB hb (by rfl) ?_
      simp only [lenSl_slice, lenStr_string, str_size, fpureA_some, fnilA_ptr, faddA_ptr, addr_add, Nat.zero_add, Nat.add_zero, fpureQ_k, fpureQ_nilA, fpureQ_addA, fpureQ_pureA, fpureQ_guardA, fpureQ_idxSlA, fpureQ_pickA, freadQ_loadA, freadQ_loadNA, freadQ_b2sA, freadQ_guardA, freadQ_slSlA, freadQ_k, fendA, fallA_one, fstillA_nil, fguardA_tt, fguardA_ff, fguardA_tf, fguardA_ft, fguardA_undef, fpickA_true, fpickA_false, fcondA_true, fcondA_false, binA_add, binA_sub, binA_mul, binA_eql, binA_neq, binA_lss, binA_leq, binA_gtr, binA_geq, unA_not, Bool.not_true, Bool.not_false, convA_int, extA_tuple, List.getElem?_toArray, List.getElem?_cons_zero, List.getElem?_cons_succ, e8, c3, e5, e6, e7]
      rw [← hx5]
      exact fin
  · have hta : ¬ st.rooms.length = st.taken := fun e => hnew (.inl e)
    rcases List.eq_nil_or_concat st.rooms with e | ⟨fs, r, hrs⟩
    · rw [e] at hta ht; simp at hta ht; omega
    rw [List.concat_eq_append] at hrs
    have hr1 := hrm r (by rw [hrs]; simp)
    have hr2 : r.length ≠ st.room := fun e => hnew (.inr ⟨fs, r, hrs, e⟩)
    have hrl : st.rooms.length = fs.length + 1 := by rw [hrs]; simp
    have hpb : pushB st.room st.taken st.rooms b = fs ++ [r ++ [b]] := by
      rw [hrs, pushB_snoc, if_neg (by omega)]
    have c2 : ((st.rooms.length : Int) == (st.taken : Int)) = false := by rw [beq_eq_false_iff_ne]; omega
    have c3 : ((r.length : Int) == (st.room : Int)) = false := by rw [beq_eq_false_iff_ne]; omega
    have e4 : IntKind.i64.wrap ((st.rooms.length : Int) - 1) = (fs.length : Int) := by rw [IntWalk.i64_in _ (by omega)]; omega
    obtain ⟨b0, vs, v, T0, hxs, hb0B, hb0, hb0e, hvl, hvsl, vl, hT0⟩ := vv.get (i := fs.length) (r := r) (by rw [hrs]; simp)
    obtain ⟨av, cv, hvs⟩ := vl.slice
    rw [hpb] at hk
    have fin := put_byte (K := dedupref07_Writer_Append_L1 prog w0 k0 m (.pointer (some ⟨p, 0, none⟩)) x5 (.int .i64 ((j + 1 : Nat) : Int))) w' hrs (by omega) (by omega) v5 hj hd hk
    rw [hx5]
    simp only [dedupref07_Writer_Append_B1, ptr, lenSl_slice, lenStr_string, str_size, fpureA_some, fnilA_ptr, faddA_ptr, addr_add, Nat.zero_add, Nat.add_zero, fpureQ_k, fpureQ_nilA, fpureQ_addA, fpureQ_pureA, fpureQ_guardA, fpureQ_idxSlA, fpureQ_pickA, freadQ_loadA, freadQ_loadNA, freadQ_b2sA, freadQ_guardA, freadQ_slSlA, freadQ_k, fendA, fallA_one, fstillA_nil, fguardA_tt, fguardA_ff, fguardA_tf, fguardA_ft, fguardA_undef, fpickA_true, fpickA_false, fcondA_true, fcondA_false, binA_add, binA_sub, binA_mul, binA_eql, binA_neq, binA_lss, binA_leq, binA_gtr, binA_geq, unA_not, Bool.not_true, Bool.not_false, convA_int, extA_tuple, List.getElem?_toArray, List.getElem?_cons_zero, List.getElem?_cons_succ, c1]
    refine loadA_at hB hb (by rfl) ?_
    rw [hxs]
    simp only [lenSl_slice, lenStr_string, str_size, fpureA_some, fnilA_ptr, faddA_ptr, addr_add, Nat.zero_add, Nat.add_zero, fpureQ_k, fpureQ_nilA, fpureQ_addA, fpureQ_pureA, fpureQ_guardA, fpureQ_idxSlA, fpureQ_pickA, freadQ_loadA, freadQ_loadNA, freadQ_b2sA, freadQ_guardA, freadQ_slSlA, freadQ_k, fendA, fallA_one, fstillA_nil, fguardA_tt, fguardA_ff, fguardA_tf, fguardA_ft, fguardA_undef, fpickA_true, fpickA_false, fcondA_true, fcondA_false, binA_add, binA_sub, binA_mul, binA_eql, binA_neq, binA_lss, binA_leq, binA_gtr, binA_geq, unA_not, Bool.not_true, Bool.not_false, convA_int, extA_tuple, List.getElem?_toArray, List.getElem?_cons_zero, List.getElem?_cons_succ]
    refine loadA_at hB hb (by rfl) ?_
    simp only [lenSl_slice, lenStr_string, str_size, fpureA_some, fnilA_ptr, faddA_ptr, addr_add, Nat.zero_add, Nat.add_zero, fpureQ_k, fpureQ_nilA, fpureQ_addA, fpureQ_pureA, fpureQ_guardA, fpureQ_idxSlA, fpureQ_pickA, freadQ_loadA, freadQ_loadNA, freadQ_b2sA, freadQ_guardA, freadQ_slSlA, freadQ_k, fendA, fallA_one, fstillA_nil, fguardA_tt, fguardA_ff, fguardA_tf, fguardA_ft, fguardA_undef, fpickA_true, fpickA_false, fcondA_true, fcondA_false, binA_add, binA_sub, binA_mul, binA_eql, binA_neq, binA_lss, binA_leq, binA_gtr, binA_geq, unA_not, Bool.not_true, Bool.not_false, convA_int, extA_tuple, List.getElem?_toArray, List.getElem?_cons_zero, List.getElem?_cons_succ, c2]
    refine loadA_at hB hb (by rfl) ?_
    rw [hxs]
    simp only [lenSl_slice, lenStr_string, str_size, fpureA_some, fnilA_ptr, faddA_ptr, addr_add, Nat.zero_add, Nat.add_zero, fpureQ_k, fpureQ_nilA, fpureQ_addA, fpureQ_pureA, fpureQ_guardA, fpureQ_idxSlA, fpureQ_pickA, freadQ_loadA, freadQ_loadNA, freadQ_b2sA, freadQ_guardA, freadQ_slSlA, freadQ_k, fendA, fallA_one, fstillA_nil, fguardA_tt, fguardA_ff, fguardA_tf, fguardA_ft, fguardA_undef, fpickA_true, fpickA_false, fcondA_true, fcondA_false, binA_add, binA_sub, binA_mul, binA_eql, binA_neq, binA_lss, binA_leq, binA_gtr, binA_geq, unA_not, Bool.not_true, Bool.not_false, convA_int, extA_tuple, List.getElem?_toArray, List.getElem?_cons_zero, List.getElem?_cons_succ, e4]
    refine idxSlA_own (by omega) ?_
    refine loadA_at hb0B hb0 hvl ?_
    rw [hvs]
    simp only [lenSl_slice, lenStr_string, str_size, fpureA_some, fnilA_ptr, faddA_ptr, addr_add, Nat.zero_add, Nat.add_zero, fpureQ_k, fpureQ_nilA, fpureQ_addA, fpureQ_pureA, fpureQ_guardA, fpureQ_idxSlA, fpureQ_pickA, freadQ_loadA, freadQ_loadNA, freadQ_b2sA, freadQ_guardA, freadQ_slSlA, freadQ_k, fendA, fallA_one, fstillA_nil, fguardA_tt, fguardA_ff, fguardA_tf, fguardA_ft, fguardA_undef, fpickA_true, fpickA_false, fcondA_true, fcondA_false, binA_add, binA_sub, binA_mul, binA_eql, binA_neq, binA_lss, binA_leq, binA_gtr, binA_geq, unA_not, Bool.not_true, Bool.not_false, convA_int, extA_tuple, List.getElem?_toArray, List.getElem?_cons_zero, List.getElem?_cons_succ]
    refine loadA_at hB hb (by rfl) ?_
    simp only [lenSl_slice, lenStr_string, str_size, fpureA_some, fnilA_ptr, faddA_ptr, addr_add, Nat.zero_add, Nat.add_zero, fpureQ_k, fpureQ_nilA, fpureQ_addA, fpureQ_pureA, fpureQ_guardA, fpureQ_idxSlA, fpureQ_pickA, freadQ_loadA, freadQ_loadNA, freadQ_b2sA, freadQ_guardA, freadQ_slSlA, freadQ_k, fendA, fallA_one, fstillA_nil, fguardA_tt, fguardA_ff, fguardA_tf, fguardA_ft, fguardA_undef, fpickA_true, fpickA_false, fcondA_true, fcondA_false, binA_add, binA_sub, binA_mul, binA_eql, binA_neq, binA_lss, binA_leq, binA_gtr, binA_geq, unA_not, Bool.not_true, Bool.not_false, convA_int, extA_tuple, List.getElem?_toArray, List.getElem?_cons_zero, List.getElem?_cons_succ, e8, c3, e4, e5]
    rw [← hx5]
    exact fin
end
end Go.Proofs.Ytiakadkooclelaa.Ah
