/- journal.Writer: Append. -/
import Derived.Test.YtiakadkooclelaaJw
set_option linter.unusedVariables false
set_option linter.unusedSimpArgs false
namespace Go.Proofs.Ytiakadkooclelaa.Ah
open Go

theorem wrap_u8_nat (n : Nat) : (.int .u8 (IntKind.u8.wrap (n : Int)) : Value) = bv (UInt8.ofNat n) := by rw [bv_ofNat, IntKind.wrap_u8]; simp
theorem shr_nat {k : IntKind} {k' : IntKind} (n s : Nat) (hs : s ≤ k.bits) : binA .shr (.int k (n : Int)) (.int k' (s : Int)) = some (.int k ((n / 2 ^ s : Nat) : Int)) := by
  rw [binA_shr _ _ _ _ (by omega), Int.toNat_natCast, Nat.min_eq_left hs]; simp
theorem number_spec {w0 : World} {h : Hp} (n : Nat) : ACalls prog w0 n_journal_number [.int .i64 n] h fun v h' => v = .slice (some ⟨h.next, 0, none⟩) 4 4 ∧ h' = h.new (bvs (be 4 n)) 1 := by
  refine ACalls.of_fit (by simp) fun f => c_journal_number (by simp) ?_
  have e1 := shr_nat (k := .i64) (k' := .u64) n 24 (by decide)
  have e2 := shr_nat (k := .i64) (k' := .u64) n 16 (by decide)
  have e3 := shr_nat (k := .i64) (k' := .u64) n 8 (by decide)
  have hz : zerosL [(.int .u8 0 : Value)] 4 = [.int .u8 0, .int .u8 0, .int .u8 0, .int .u8 0] := rfl
  have hb : be 4 n = [UInt8.ofNat (n / 2 ^ 24), UInt8.ofNat (n / 2 ^ 16), UInt8.ofNat (n / 2 ^ 8), UInt8.ofNat n] := by simp [be]
  simp only [s_journal_number, show (24 : Int) = ((24 : Nat) : Int) from rfl, show (16 : Int) = ((16 : Nat) : Int) from rfl, show (8 : Int) = ((8 : Nat) : Int) from rfl, e1, e2, e3, pureA_some, convA_int, hz, bslA_iff, fillA_one, fillA_nil, isCell_int, isCell_bv, true_and, List.set_cons_zero, List.set_cons_succ, List.length_cons, List.length_nil, wrap_u8_nat, retA_iff, oneOf_one]
  refine ⟨by omega, by omega, by omega, by omega, by simp, ?_⟩
  rw [hb]
  rfl
/-- Bytes of one's own that are to be laid, in block q. -/
def Buf (w0 : World) (h : Hp) (x : Value) (rem : List UInt8) (q : Nat) : Prop :=
  (rem = [] ∧ ∃ a c, x = .slice a 0 c) ∨ ∃ all o c, x = .slice (some ⟨q, o, none⟩) rem.length c ∧ w0.heap.size ≤ q ∧ q < h.next ∧ h.blk q = some (bvs all) ∧ all.drop o = rem ∧ rem ≠ [] ∧ ((c = ucap ∧ h.esz q = 1) ∨ (c = rem.length ∧ c < ucap))
section
variable {w0 : World} {h h' : Hp} {x : Value} {rem : List UInt8} {q : Nat} {K : Kont}
theorem Buf.slice (b : Buf w0 h x rem q) : ∃ a c, x = .slice a rem.length c := by
  rcases b with ⟨rfl, a, c, rfl⟩ | ⟨all, o, c, rfl, -⟩ <;> exact ⟨_, _, rfl⟩
theorem Buf.frame (b : Buf w0 h x rem q) {T T' : List Nat} (st : Step h h' T T') (hd : q ∉ T) : Buf w0 h' x rem q := by
  rcases b with h1 | ⟨all, o, c, rfl, hB, hlt, hb, hr, hn, hc⟩
  · exact .inl h1
  · obtain ⟨k1, k2⟩ := st.keep q hlt hd
    exact .inr ⟨all, o, c, rfl, hB, by have := st.next; omega, by rw [k1]; exact hb, hr, hn, by rw [k2]; exact hc⟩
/-- The first n of them. -/
theorem Buf.head (b : Buf w0 h x rem q) {n : Nat} {k1 k2 : IntKind} (h0 : 0 < n) (hn : n ≤ rem.length) (hnu : n < ucap) (hk : ∀ a c, Src w0.heap.size h 1 (.slice a n c) n (bvs (rem.take n)) → K (.slice a n c) h) :
    slSlA 1 x none (some (.int k1 (n : Int))) (some (.int k2 (n : Int))) K h := by
  rcases b with ⟨rfl, -⟩ | ⟨all, o, c, rfl, hB, hlt, hb, hr, hne, hc⟩
  · simp at hn; omega
  · refine ⟨_, _, _, 0, n, rfl, rfl, by simp [boundA], by omega, by simp, n, by simp [boundA], Nat.le_refl _, hnu, ?_, ?_⟩
    · rcases hc with ⟨rfl, -⟩ | ⟨rfl, -⟩
      · rw [if_pos rfl]; exact hn
      · split <;> exact hn
    · rw [if_neg (by omega)]
      have hs := src_own (w0 := w0) (h := h) (s := 1) (n := n) (o := o) (c := n) hB hb (by
        have : (all.drop o).length = rem.length := by rw [hr]
        simp at this ⊢; omega)
      have e1 : ((bvs all).drop o).take (n * 1) = bvs (rem.take n) := by rw [bvs_drop, bvs_take, hr, Nat.mul_one]
      rw [e1] at hs
      simpa using hk _ _ hs
/-- What is behind the first n. -/
theorem Buf.tail (b : Buf w0 h x rem q) {n : Nat} {k1 : IntKind} (h0 : 0 < n) (hn : n ≤ rem.length) (hk : ∀ x', Buf w0 h x' (rem.drop n) q → K x' h) : slSlA 1 x (some (.int k1 (n : Int))) none none K h := by
  rcases b with ⟨rfl, -⟩ | ⟨all, o, c, rfl, hB, hlt, hb, hr, hne, hc⟩
  · simp at hn; omega
  · refine ⟨_, _, _, n, rem.length, rfl, by simp [boundA], rfl, hn, by simp, ?_⟩
    have hl : (rem.drop n).length = rem.length - n := by simp
    rcases hc with ⟨rfl, hes⟩ | ⟨rfl, hcu⟩
    · show (if ucap = ucap then _ else _)
      rw [if_pos rfl]
      refine ⟨Nat.le_refl _, _, rfl, hes, ⟨_, hb⟩, hk _ ?_⟩
      by_cases hz : rem.drop n = []
      · have : rem.length - n = 0 := by rw [← hl, hz]; rfl
        rw [this]
        exact .inl ⟨hz, _, _, rfl⟩
      · refine .inr ⟨all, o + n, ucap, by rw [addr_add, Nat.mul_one, hl], hB, hlt, hb, by rw [← hr, List.drop_drop], hz, .inl ⟨rfl, hes⟩⟩
    · show (if rem.length = ucap then _ else _)
      rw [if_neg (by omega)]
      refine ⟨Nat.le_refl _, hk _ ?_⟩
      by_cases hz : rem.drop n = []
      · have : rem.length - n = 0 := by rw [← hl, hz]; rfl
        rw [this]
        exact .inl ⟨hz, _, _, rfl⟩
      · have hne2 : ¬ rem.length = n := by
          intro e
          apply hz
          exact List.drop_eq_nil_of_le (by omega)
        rw [if_neg hne2]
        refine .inr ⟨all, o + n, rem.length - n, by simp, hB, hlt, hb, by rw [← hr, List.drop_drop], hz, .inr ⟨by rw [hl], by omega⟩⟩

theorem room_any {p : Nat} {st : JS} {S : List Nat} {h : Hp} (hsz : 512 ≤ st.size ∧ st.size ≤ 4096) (w : Jw w0 h p st S) : ACalls prog w0 n_journal_Writer_room [.pointer (some ⟨p, 0, none⟩)] h fun v h' => v = .int .i64 st.room ∧ h' = h := by
  refine ACalls.of_fit (by simp) fun f => c_journal_Writer_room (by simp) ?_
  obtain ⟨x, T, a, b, c, -⟩ := w
  have e : IntKind.i64.wrap ((st.size : Int) - 24) = (st.room : Nat) := by rw [IntWalk.i64_in _ (by omega)]; unfold JS.room; omega
  simp [s_journal_Writer_room, a, Nat.not_lt.2 b, e]
/-- An element of a block of one's own. -/
theorem idxSlA_own {b0 n : Nat} {kt : IntKind} {i c : Nat} {h : Hp} {K : Kont} (hi : i < n) (hk : K (.pointer (some ⟨b0, i, none⟩)) h) : idxSlA 1 (.slice (some ⟨b0, 0, none⟩) n c) (.int kt (i : Int)) K h := by
  rw [idxSlA_iff]
  refine ⟨by omega, by omega, ?_⟩
  rw [addr_add, Int.toNat_natCast, Nat.mul_one, Nat.zero_add]
  exact hk
/-- What the last room may take. -/
theorem chunk_step {p : Nat} {st : JS} {S : List Nat} {fs : List (List UInt8)} {r : List UInt8} {k1 : Value → Hp → Prop} {m : Nat} {h : Hp} {x5 : Value} (w : Jw w0 h p st S) (hro : 488 ≤ st.room ∧ st.room ≤ 4072) (hsz : 512 ≤ st.size ∧ st.size ≤ 4096) (b : Buf w0 h x5 rem q) (hq : q ∉ S) (hne : rem ≠ []) (hl : rem.length ≤ 1000000)
    (hrs : st.rooms = fs ++ [r]) (ht : st.taken ≤ fs.length) (hr : r.length < st.room) (hn : fs.length ≤ 1000000)
    (hk : ∀ x5' h' S', Jw w0 h' p { st with rooms := fs ++ [r ++ rem.take (min rem.length (st.room - r.length))] } S' → Buf w0 h' x5' (rem.drop (min rem.length (st.room - r.length))) q → q ∉ S' → Step h h' S S' →
      journal_Writer_Append_L1 prog w0 k1 m (ptr p) x5' h') :
    journal_Writer_Append_L1 prog w0 k1 (m + 1) (ptr p) x5 h := by
  have w' := w
  obtain ⟨ax, cx, hx5⟩ := b.slice
  obtain ⟨x, T, hb, hB, hlt, vv, hp, rfl⟩ := w
  have hpos : 0 < rem.length := List.length_pos_iff.2 hne
  have hrl : st.rooms.length = fs.length + 1 := by rw [hrs]; simp
  have c1 : decide ((0 : Int) < (rem.length : Int)) = true := decide_eq_true (by omega)
  have e1 : IntKind.i64.wrap ((st.rooms.length : Int) - 1) = (fs.length : Int) := by rw [IntWalk.i64_in _ (by omega)]; omega
  have c2 : decide ((fs.length : Int) < (st.taken : Int)) = false := decide_eq_false (by omega)
  have c3 : ((r.length : Int) == (st.room : Int)) = false := by rw [beq_eq_false_iff_ne]; omega
  have hTlt := vv.lt
  obtain ⟨vs, U, S0, vx, rw_, d, rfl⟩ := vv
  have hvsl := rw_.len
  rw [hrs] at rw_
  obtain ⟨vs', v, S', T0, rfl, rw', vl, dl, rfl⟩ := rw_.last
  have hvl : (vs' ++ [v])[fs.length]? = some v := by
    have := rw'.len
    rw [List.getElem?_append_right (by omega)]; simp [this]
  rcases vx with ⟨-, e, -⟩ | ⟨b0, rfl, rfl, hb0B, hb0l, hb0, hb0e, -⟩
  · omega
  obtain ⟨av, cv, hvs⟩ := vl.slice
  obtain ⟨n, hnm⟩ : ∃ n, n = min rem.length (st.room - r.length) := ⟨_, rfl⟩
  have hn0 : 0 < n := by omega
  have e2 : IntKind.i64.wrap ((st.room : Int) - (r.length : Int)) = ((st.room - r.length : Nat) : Int) := by rw [IntWalk.i64_in _ (by omega)]; omega
  have e3 : min (rem.length : Int) ((st.room - r.length : Nat) : Int) = (n : Int) := by omega
  rw [← hnm] at hk
  rw [hx5, journal_Writer_Append_L1]
  simp only [journal_Writer_Append_B1, ptr, lenSl_slice, lenStr_string, str_size, fpureA_some, fnilA_ptr, faddA_ptr, addr_add, Nat.zero_add, Nat.add_zero, fpureQ_k, fpureQ_nilA, fpureQ_addA, fpureQ_pureA, fpureQ_guardA, fpureQ_idxSlA, fpureQ_pickA, freadQ_loadA, freadQ_loadNA, freadQ_b2sA, freadQ_guardA, freadQ_slSlA, freadQ_k, fendA, fallA_one, fstillA_nil, fguardA_tt, fguardA_ff, fguardA_tf, fguardA_ft, fguardA_undef, fpickA_true, fpickA_false, fcondA_true, fcondA_false, binA_add, binA_sub, binA_mul, binA_eql, binA_neq, binA_lss, binA_leq, binA_gtr, binA_geq, unA_not, Bool.not_true, Bool.not_false, convA_int, extA_tuple, List.getElem?_toArray, List.getElem?_cons_zero, List.getElem?_cons_succ, c1]
  refine loadA_at hB hb (by rfl) ?_
  simp only [lenSl_slice, lenStr_string, str_size, fpureA_some, fnilA_ptr, faddA_ptr, addr_add, Nat.zero_add, Nat.add_zero, fpureQ_k, fpureQ_nilA, fpureQ_addA, fpureQ_pureA, fpureQ_guardA, fpureQ_idxSlA, fpureQ_pickA, freadQ_loadA, freadQ_loadNA, freadQ_b2sA, freadQ_guardA, freadQ_slSlA, freadQ_k, fendA, fallA_one, fstillA_nil, fguardA_tt, fguardA_ff, fguardA_tf, fguardA_ft, fguardA_undef, fpickA_true, fpickA_false, fcondA_true, fcondA_false, binA_add, binA_sub, binA_mul, binA_eql, binA_neq, binA_lss, binA_leq, binA_gtr, binA_geq, unA_not, Bool.not_true, Bool.not_false, convA_int, extA_tuple, List.getElem?_toArray, List.getElem?_cons_zero, List.getElem?_cons_succ, e1]
  refine loadA_at hB hb (by rfl) ?_
  simp only [lenSl_slice, lenStr_string, str_size, fpureA_some, fnilA_ptr, faddA_ptr, addr_add, Nat.zero_add, Nat.add_zero, fpureQ_k, fpureQ_nilA, fpureQ_addA, fpureQ_pureA, fpureQ_guardA, fpureQ_idxSlA, fpureQ_pickA, freadQ_loadA, freadQ_loadNA, freadQ_b2sA, freadQ_guardA, freadQ_slSlA, freadQ_k, fendA, fallA_one, fstillA_nil, fguardA_tt, fguardA_ff, fguardA_tf, fguardA_ft, fguardA_undef, fpickA_true, fpickA_false, fcondA_true, fcondA_false, binA_add, binA_sub, binA_mul, binA_eql, binA_neq, binA_lss, binA_leq, binA_gtr, binA_geq, unA_not, Bool.not_true, Bool.not_false, convA_int, extA_tuple, List.getElem?_toArray, List.getElem?_cons_zero, List.getElem?_cons_succ, c2]
  refine loadA_at hB hb (by rfl) ?_
  refine idxSlA_own (by omega) ?_
  refine loadA_at hb0B hb0 hvl ?_
  rw [hvs]
  simp only [lenSl_slice, lenStr_string, str_size, fpureA_some, fnilA_ptr, faddA_ptr, addr_add, Nat.zero_add, Nat.add_zero, fpureQ_k, fpureQ_nilA, fpureQ_addA, fpureQ_pureA, fpureQ_guardA, fpureQ_idxSlA, fpureQ_pickA, freadQ_loadA, freadQ_loadNA, freadQ_b2sA, freadQ_guardA, freadQ_slSlA, freadQ_k, fendA, fallA_one, fstillA_nil, fguardA_tt, fguardA_ff, fguardA_tf, fguardA_ft, fguardA_undef, fpickA_true, fpickA_false, fcondA_true, fcondA_false, binA_add, binA_sub, binA_mul, binA_eql, binA_neq, binA_lss, binA_leq, binA_gtr, binA_geq, unA_not, Bool.not_true, Bool.not_false, convA_int, extA_tuple, List.getElem?_toArray, List.getElem?_cons_zero, List.getElem?_cons_succ]
  refine callA_of (room_any hsz w') fun v1 h1 ⟨e, e1'⟩ f1 => ?_
  subst e e1'
  simp only [stillA_iff, allA_cons, allA_one, sameQ_loadA]
  refine ⟨⟨loadA_at hb0B hb0 hvl hvs, loadA_at hB hb (by rfl) rfl⟩, ?_⟩
  simp only [lenSl_slice, lenStr_string, str_size, fpureA_some, fnilA_ptr, faddA_ptr, addr_add, Nat.zero_add, Nat.add_zero, fpureQ_k, fpureQ_nilA, fpureQ_addA, fpureQ_pureA, fpureQ_guardA, fpureQ_idxSlA, fpureQ_pickA, freadQ_loadA, freadQ_loadNA, freadQ_b2sA, freadQ_guardA, freadQ_slSlA, freadQ_k, fendA, fallA_one, fstillA_nil, fguardA_tt, fguardA_ff, fguardA_tf, fguardA_ft, fguardA_undef, fpickA_true, fpickA_false, fcondA_true, fcondA_false, binA_add, binA_sub, binA_mul, binA_eql, binA_neq, binA_lss, binA_leq, binA_gtr, binA_geq, unA_not, Bool.not_true, Bool.not_false, convA_int, extA_tuple, List.getElem?_toArray, List.getElem?_cons_zero, List.getElem?_cons_succ, c3]
  refine loadA_at hB hb (by rfl) ?_
  refine idxSlA_own (by omega) ?_
  refine loadA_at hb0B hb0 hvl ?_
  rw [hvs]
  simp only [lenSl_slice, lenStr_string, str_size, fpureA_some, fnilA_ptr, faddA_ptr, addr_add, Nat.zero_add, Nat.add_zero, fpureQ_k, fpureQ_nilA, fpureQ_addA, fpureQ_pureA, fpureQ_guardA, fpureQ_idxSlA, fpureQ_pickA, freadQ_loadA, freadQ_loadNA, freadQ_b2sA, freadQ_guardA, freadQ_slSlA, freadQ_k, fendA, fallA_one, fstillA_nil, fguardA_tt, fguardA_ff, fguardA_tf, fguardA_ft, fguardA_undef, fpickA_true, fpickA_false, fcondA_true, fcondA_false, binA_add, binA_sub, binA_mul, binA_eql, binA_neq, binA_lss, binA_leq, binA_gtr, binA_geq, unA_not, Bool.not_true, Bool.not_false, convA_int, extA_tuple, List.getElem?_toArray, List.getElem?_cons_zero, List.getElem?_cons_succ]
  refine callA_of (room_any hsz w') fun v1 h1 ⟨e, e1'⟩ f1 => ?_
  subst e e1'
  simp only [stillA_iff, allA_cons, allA_one, sameQ_loadA]
  refine ⟨⟨loadA_at hb0B hb0 hvl hvs, loadA_at hB hb (by rfl) rfl⟩, ?_⟩
  simp only [lenSl_slice, lenStr_string, str_size, fpureA_some, fnilA_ptr, faddA_ptr, addr_add, Nat.zero_add, Nat.add_zero, fpureQ_k, fpureQ_nilA, fpureQ_addA, fpureQ_pureA, fpureQ_guardA, fpureQ_idxSlA, fpureQ_pickA, freadQ_loadA, freadQ_loadNA, freadQ_b2sA, freadQ_guardA, freadQ_slSlA, freadQ_k, fendA, fallA_one, fstillA_nil, fguardA_tt, fguardA_ff, fguardA_tf, fguardA_ft, fguardA_undef, fpickA_true, fpickA_false, fcondA_true, fcondA_false, binA_add, binA_sub, binA_mul, binA_eql, binA_neq, binA_lss, binA_leq, binA_gtr, binA_geq, unA_not, Bool.not_true, Bool.not_false, convA_int, extA_tuple, List.getElem?_toArray, List.getElem?_cons_zero, List.getElem?_cons_succ, e2, foldA_cons, foldA_nil, min2A_int, Option.bind_some, e3]
  refine loadA_at hB hb (by rfl) ?_
  refine loadA_at hB hb (by rfl) ?_
  refine idxSlA_own (by omega) ?_
  refine loadA_at hb0B hb0 hvl ?_
  rw [← hx5]
  refine b.head hn0 (by omega) (by show n < 18446744073709551616; omega) fun a2 c2' hsrc => ?_
  have hpT0 : p ∉ T0 := fun e => hp (by simp [e])
  refine appA_vec (by omega) vl (by simp) hsrc (by simp; omega) (by omega) (by omega) (by omega) (fun v' h' T' vv' st' => ?_)
  have hb' : h'.blk p = _ := (st'.keep p hlt hpT0).1.trans hb
  have hb0' : h'.blk b0 = _ := (st'.keep b0 hb0l (fun e => d b0 (by simp) (by simp [e]))).1.trans hb0
  have hb0e' : h'.esz b0 = 1 := (st'.keep b0 hb0l (fun e => d b0 (by simp) (by simp [e]))).2.trans hb0e
  simp only [stillA_iff, allA_one, sameQ_loadA]
  refine ⟨loadA_at hB hb' (by rfl) rfl, ?_⟩
  refine idxSlA_own (by omega) ?_
  obtain ⟨av', cv', hvs'⟩ := vv'.slice
  have hlv := rw'.len
  rw [storeA_own]
  refine ⟨_, hb0B, hb0', by simp; omega, by rw [hvs']; rfl, ?_⟩
  have hset : (vs' ++ [v]).set fs.length v' = vs' ++ [v'] := by
    rw [List.set_append_right _ _ (by omega), show fs.length - vs'.length = 0 by omega]; rfl
  rw [hset]
  have hqT0 : q ∉ T0 := fun e => hq (by simp [e])
  have hqb0 : q ≠ b0 := fun e => hq (by simp [e])
  have bf := b.frame st' hqT0
  have st2 : Step h1 (h'.put b0 (vs' ++ [v'])) (p :: ([b0] ++ (S' ++ T0))) (p :: ([b0] ++ (S' ++ T'))) := by
    refine (st'.wide (T := p :: ([b0] ++ (S' ++ T0))) (T' := p :: ([b0] ++ (S' ++ T'))) (fun b hb => by simp [hb]) (fun b hb => ?_)).put (by simp) _
    simp only [List.mem_cons, List.mem_append, List.not_mem_nil, or_false] at hb
    rcases hb with rfl | rfl | hb | hb
    · exact .inr ⟨by simp, hlt⟩
    · exact .inr ⟨by simp, hb0l⟩
    · exact .inr ⟨by simp [hb], (rw'.lt b hb).2⟩
    · exact .inl hb
  have bf2 : Buf w0 (h'.put b0 (vs' ++ [v'])) x5 rem q := by
    rcases bf with h1 | ⟨all, o, c, g1, g2, g3, g4, g5, g6, g7⟩
    · exact .inl h1
    · exact .inr ⟨all, o, c, g1, g2, g3, by simpa [hqb0] using g4, g5, g6, g7⟩
  have hT'n : ∀ b, b ∈ T' → b ∈ T0 ∨ h1.next ≤ b := fun b hb => (st'.own b hb).2
  have dT' : ∀ b, b ∈ T' → b ∉ S' := fun b hb hs => by
    rcases hT'n b hb with e | e
    · exact dl b e hs
    · have := (rw'.lt b hs).2; omega
  have hpT' : p ∉ T' := fun e => by
    rcases hT'n p e with g | g
    · exact hpT0 g
    · omega
  have hb0T' : b0 ∉ T' := fun e => by
    rcases hT'n b0 e with g | g
    · exact d b0 (by simp) (by simp [g])
    · omega
  refine bf2.tail hn0 (by omega) fun x5' bf3 => ?_
  refine hk x5' _ (p :: ([b0] ++ (S' ++ T'))) ⟨.slice (some ⟨b0, 0, none⟩) st.rooms.length ucap, [b0] ++ (S' ++ T'), ?_, hB, by have := st2.next; omega, ⟨vs' ++ [v'], [b0], S' ++ T', ?_, ?_, ?_, rfl⟩, ?_, rfl⟩ bf3 ?_ st2
  · have hpb0 : p ≠ b0 := fun e => hp (by simp [e])
    simp only [put_blk, if_neg hpb0]
    exact hb'
  · refine .inr ⟨b0, by rw [hrl]; simp, rfl, hb0B, by have := st2.next; omega, by simp, by simpa using hb0e', by simp; omega⟩
  · have hr1 := (rw'.frame st' (fun b hb he => dl b he hb)).put (p := b0) (fun e => d b0 (by simp) (by simp [e])) (vs' ++ [v'])
    have hv1 := vv'.put (p := b0) hb0T' (vs' ++ [v'])
    refine .snoc hr1 ?_ dT'
    have e4 : r.length + n = (r ++ rem.take n).length := by simp; omega
    rw [e4] at hv1
    simpa using hv1
  · intro b hb he
    simp at hb
    subst hb
    rcases List.mem_append.1 he with g | g
    · exact d b (by simp) (by simp [g])
    · exact hb0T' g
  · intro e
    simp only [List.mem_cons, List.mem_append, List.not_mem_nil, or_false] at e
    rcases e with e | e | e
    · exact hp (by simp [e])
    · exact hp (by simp [e])
    · exact hpT' e
  · intro e
    simp only [List.mem_cons, List.mem_append, List.not_mem_nil, or_false] at e
    rcases e with e | e | e | e
    · exact hq (by simp [e])
    · exact hq (by simp [e])
    · exact hq (by simp [e])
    · rcases hT'n q e with g | g
      · exact hqT0 g
      · rcases bf3 with ⟨-, -⟩ | ⟨all, o, c, g1, g2, g3, -⟩
        · rcases b with ⟨e0, -⟩ | ⟨all, o, c, g1, g2, g3, -⟩
          · exact hne e0
          · omega
        · rcases b with ⟨e0, -⟩ | ⟨all, o, c, g1, g2, g3, -⟩
          · exact hne e0
          · omega
/-- A new room is opened. -/
theorem open_step {p : Nat} {st : JS} {S : List Nat} {k1 : Value → Hp → Prop} {m : Nat} {h : Hp} {x5 : Value} (w : Jw w0 h p st S) (hsz : 512 ≤ st.size ∧ st.size ≤ 4096) (b : Buf w0 h x5 rem q) (hq : q ∉ S) (hne : rem ≠ []) (hl : rem.length ≤ 1000000)
    (ht : st.taken ≤ st.rooms.length) (ho : st.rooms.length = st.taken ∨ ∃ fs r, st.rooms = fs ++ [r] ∧ r.length = st.room) (hn : st.rooms.length ≤ 1000000)
    (hk : ∀ h' S', Jw w0 h' p { st with rooms := st.rooms ++ [[]] } S' → Buf w0 h' x5 rem q → q ∉ S' → Step h h' S S' → journal_Writer_Append_L1 prog w0 k1 m (ptr p) x5 h') :
    journal_Writer_Append_L1 prog w0 k1 (m + 1) (ptr p) x5 h := by
  have w' := w
  obtain ⟨ax, cx, hx5⟩ := b.slice
  obtain ⟨x, T, hb, hB, hlt, vv, hp, rfl⟩ := w
  have hpos : 0 < rem.length := List.length_pos_iff.2 hne
  have c1 : decide ((0 : Int) < (rem.length : Int)) = true := decide_eq_true (by omega)
  have e1 : IntKind.i64.wrap ((st.rooms.length : Int) - 1) = (st.rooms.length : Int) - 1 := IntWalk.i64_in _ (by omega)
  obtain ⟨aR, cR, hxR⟩ := vv.slice
  have hz : zerosL [(.slice none 0 0 : Value)] 1 = [.slice none 0 0] := rfl
  -- the new room
  have fin : ∀ {K : Kont}, (∀ x' h' S', VVec w0 h' x' (st.rooms ++ [[]]) S' → Step h h' T S' → Buf w0 h' x5 rem q → K x' h') → bslA [(0, 1, false, .slice none 0 0)] (zerosL [.slice none 0 0] 1) 1 1 (fun v61 => appA w0 1 24 x v61 K) h := by
    intro K hK
    simp only [hz, bslA_iff, fillA_one, fillA_nil, isCell_slice, true_and, List.set_cons_zero, List.length_cons, List.length_nil]
    refine ⟨by omega, ?_⟩
    have s1 := (Step.refl h [] (by simp)).new [(.slice none 0 0 : Value)] 1
    have v1 := vv.frame s1 (by simp)
    refine appA_vvec (r := []) (T := []) (by simp; omega) v1 (src_new (by omega) (by simp)) .nil (by simp) (by omega) (by omega) fun x' h' S' v' st' => ?_
    have st0 : Step h h' T S' := (((Step.refl h T fun b hb => (vv.lt b hb).2).new [(.slice none 0 0 : Value)] 1).less (T := T) (fun b hb => by simp [hb])).trans (by simpa using st')
    exact hK x' h' S' v' st0 (b.frame st0 fun e => hq (by simp [e]))
  have fin2 : loadA w0 (.pointer (some ⟨p, 3, none⟩)) (fun v60 => bslA [(0, 1, false, .slice none 0 0)] (zerosL [.slice none 0 0] 1) 1 1 fun v61 => appA w0 1 24 v60 v61 fun v62 => storeA w0 (.pointer (some ⟨p, 3, none⟩)) v62 fun _ => journal_Writer_Append_L1 prog w0 k1 m (.pointer (some ⟨p, 0, none⟩)) x5) h := by
    refine loadA_at hB hb (by rfl) ?_
    refine fin fun x' h' S' v' st' b' => ?_
    have hb' : h'.blk p = _ := (st'.keep p hlt hp).1.trans hb
    obtain ⟨a', c', hx'⟩ := v'.slice
    rw [storeA_own]
    refine ⟨_, hB, hb', by simp, by rw [hx']; rfl, ?_⟩
    have hpS' : p ∉ S' := fun e => by rcases (st'.own p e).2 with g | g; exact hp g; omega
    have hqp : q ≠ p := fun e => hq (by simp [e])
    refine hk _ (p :: S') ⟨x', S', by simp, hB, by have := st'.next; simp; omega, v'.put hpS' _, hpS', rfl⟩ ?_ ?_ ?_
    · rcases b' with h1 | ⟨all, o, c, g1, g2, g3, g4, g5, g6, g7⟩
      · exact .inl h1
      · exact .inr ⟨all, o, c, g1, g2, g3, by simpa [hqp] using g4, g5, g6, g7⟩
    · intro e
      rcases List.mem_cons.1 e with e | e
      · exact hqp e
      · rcases (st'.own q e).2 with g | g
        · exact hq (by simp [g])
        · rcases b with ⟨e0, -⟩ | ⟨all, o, c, g1, g2, g3, -⟩
          · exact hne e0
          · omega
    · exact (st'.wide (T := p :: T) (T' := p :: S') (fun b hb => by simp [hb]) (fun b hb => by
        rcases List.mem_cons.1 hb with rfl | hb
        · exact .inr ⟨by simp, hlt⟩
        · exact .inl hb)).put (by simp) _
  rw [journal_Writer_Append_L1]
  by_cases hta : st.rooms.length = st.taken
  · have c2 : decide ((st.rooms.length : Int) - 1 < (st.taken : Int)) = true := decide_eq_true (by omega)
    rw [hx5]
    simp only [journal_Writer_Append_B1, ptr, lenSl_slice, lenStr_string, str_size, fpureA_some, fnilA_ptr, faddA_ptr, addr_add, Nat.zero_add, Nat.add_zero, fpureQ_k, fpureQ_nilA, fpureQ_addA, fpureQ_pureA, fpureQ_guardA, fpureQ_idxSlA, fpureQ_pickA, freadQ_loadA, freadQ_loadNA, freadQ_b2sA, freadQ_guardA, freadQ_slSlA, freadQ_k, fendA, fallA_one, fstillA_nil, fguardA_tt, fguardA_ff, fguardA_tf, fguardA_ft, fguardA_undef, fpickA_true, fpickA_false, fcondA_true, fcondA_false, binA_add, binA_sub, binA_mul, binA_eql, binA_neq, binA_lss, binA_leq, binA_gtr, binA_geq, unA_not, Bool.not_true, Bool.not_false, convA_int, extA_tuple, List.getElem?_toArray, List.getElem?_cons_zero, List.getElem?_cons_succ, c1]
    refine loadA_at hB hb (by rfl) ?_
    rw [hxR]
    simp only [lenSl_slice, lenStr_string, str_size, fpureA_some, fnilA_ptr, faddA_ptr, addr_add, Nat.zero_add, Nat.add_zero, fpureQ_k, fpureQ_nilA, fpureQ_addA, fpureQ_pureA, fpureQ_guardA, fpureQ_idxSlA, fpureQ_pickA, freadQ_loadA, freadQ_loadNA, freadQ_b2sA, freadQ_guardA, freadQ_slSlA, freadQ_k, fendA, fallA_one, fstillA_nil, fguardA_tt, fguardA_ff, fguardA_tf, fguardA_ft, fguardA_undef, fpickA_true, fpickA_false, fcondA_true, fcondA_false, binA_add, binA_sub, binA_mul, binA_eql, binA_neq, binA_lss, binA_leq, binA_gtr, binA_geq, unA_not, Bool.not_true, Bool.not_false, convA_int, extA_tuple, List.getElem?_toArray, List.getElem?_cons_zero, List.getElem?_cons_succ, e1]
    refine loadA_at hB hb (by rfl) ?_
    simp only [lenSl_slice, lenStr_string, str_size, fpureA_some, fnilA_ptr, faddA_ptr, addr_add, Nat.zero_add, Nat.add_zero, fpureQ_k, fpureQ_nilA, fpureQ_addA, fpureQ_pureA, fpureQ_guardA, fpureQ_idxSlA, fpureQ_pickA, freadQ_loadA, freadQ_loadNA, freadQ_b2sA, freadQ_guardA, freadQ_slSlA, freadQ_k, fendA, fallA_one, fstillA_nil, fguardA_tt, fguardA_ff, fguardA_tf, fguardA_ft, fguardA_undef, fpickA_true, fpickA_false, fcondA_true, fcondA_false, binA_add, binA_sub, binA_mul, binA_eql, binA_neq, binA_lss, binA_leq, binA_gtr, binA_geq, unA_not, Bool.not_true, Bool.not_false, convA_int, extA_tuple, List.getElem?_toArray, List.getElem?_cons_zero, List.getElem?_cons_succ, c2, stillA_iff, allA_cons, allA_one]
    refine ⟨⟨?_, ?_⟩, ?_⟩
    · simp [sameQ]
    · simp [sameQ]
    · rw [← hx5]; exact fin2
  · obtain ⟨fs, r, hrs, hfull⟩ := ho.resolve_left hta
    have hrl : st.rooms.length = fs.length + 1 := by rw [hrs]; simp
    have c2 : decide ((fs.length : Int) < (st.taken : Int)) = false := decide_eq_false (by omega)
    have c3 : ((r.length : Int) == (st.room : Int)) = true := by rw [beq_iff_eq, hfull]
    have e4 : IntKind.i64.wrap ((st.rooms.length : Int) - 1) = (fs.length : Int) := by rw [e1]; omega
    obtain ⟨b0, vs, v, T0, hxs, hb0B, hb0, hb0e, hvl, hvsl, vl, hT0⟩ := vv.get (i := fs.length) (r := r) (by rw [hrs]; simp)
    obtain ⟨av, cv, hvs⟩ := vl.slice
    subst hxs
    rw [hx5]
    simp only [journal_Writer_Append_B1, ptr, lenSl_slice, lenStr_string, str_size, fpureA_some, fnilA_ptr, faddA_ptr, addr_add, Nat.zero_add, Nat.add_zero, fpureQ_k, fpureQ_nilA, fpureQ_addA, fpureQ_pureA, fpureQ_guardA, fpureQ_idxSlA, fpureQ_pickA, freadQ_loadA, freadQ_loadNA, freadQ_b2sA, freadQ_guardA, freadQ_slSlA, freadQ_k, fendA, fallA_one, fstillA_nil, fguardA_tt, fguardA_ff, fguardA_tf, fguardA_ft, fguardA_undef, fpickA_true, fpickA_false, fcondA_true, fcondA_false, binA_add, binA_sub, binA_mul, binA_eql, binA_neq, binA_lss, binA_leq, binA_gtr, binA_geq, unA_not, Bool.not_true, Bool.not_false, convA_int, extA_tuple, List.getElem?_toArray, List.getElem?_cons_zero, List.getElem?_cons_succ, c1]
    refine loadA_at hB hb (by rfl) ?_
    simp only [lenSl_slice, lenStr_string, str_size, fpureA_some, fnilA_ptr, faddA_ptr, addr_add, Nat.zero_add, Nat.add_zero, fpureQ_k, fpureQ_nilA, fpureQ_addA, fpureQ_pureA, fpureQ_guardA, fpureQ_idxSlA, fpureQ_pickA, freadQ_loadA, freadQ_loadNA, freadQ_b2sA, freadQ_guardA, freadQ_slSlA, freadQ_k, fendA, fallA_one, fstillA_nil, fguardA_tt, fguardA_ff, fguardA_tf, fguardA_ft, fguardA_undef, fpickA_true, fpickA_false, fcondA_true, fcondA_false, binA_add, binA_sub, binA_mul, binA_eql, binA_neq, binA_lss, binA_leq, binA_gtr, binA_geq, unA_not, Bool.not_true, Bool.not_false, convA_int, extA_tuple, List.getElem?_toArray, List.getElem?_cons_zero, List.getElem?_cons_succ, e4]
    refine loadA_at hB hb (by rfl) ?_
    simp only [lenSl_slice, lenStr_string, str_size, fpureA_some, fnilA_ptr, faddA_ptr, addr_add, Nat.zero_add, Nat.add_zero, fpureQ_k, fpureQ_nilA, fpureQ_addA, fpureQ_pureA, fpureQ_guardA, fpureQ_idxSlA, fpureQ_pickA, freadQ_loadA, freadQ_loadNA, freadQ_b2sA, freadQ_guardA, freadQ_slSlA, freadQ_k, fendA, fallA_one, fstillA_nil, fguardA_tt, fguardA_ff, fguardA_tf, fguardA_ft, fguardA_undef, fpickA_true, fpickA_false, fcondA_true, fcondA_false, binA_add, binA_sub, binA_mul, binA_eql, binA_neq, binA_lss, binA_leq, binA_gtr, binA_geq, unA_not, Bool.not_true, Bool.not_false, convA_int, extA_tuple, List.getElem?_toArray, List.getElem?_cons_zero, List.getElem?_cons_succ, c2]
    refine loadA_at hB hb (by rfl) ?_
    refine idxSlA_own (by omega) ?_
    refine loadA_at hb0B hb0 hvl ?_
    rw [hvs]
    simp only [lenSl_slice, lenStr_string, str_size, fpureA_some, fnilA_ptr, faddA_ptr, addr_add, Nat.zero_add, Nat.add_zero, fpureQ_k, fpureQ_nilA, fpureQ_addA, fpureQ_pureA, fpureQ_guardA, fpureQ_idxSlA, fpureQ_pickA, freadQ_loadA, freadQ_loadNA, freadQ_b2sA, freadQ_guardA, freadQ_slSlA, freadQ_k, fendA, fallA_one, fstillA_nil, fguardA_tt, fguardA_ff, fguardA_tf, fguardA_ft, fguardA_undef, fpickA_true, fpickA_false, fcondA_true, fcondA_false, binA_add, binA_sub, binA_mul, binA_eql, binA_neq, binA_lss, binA_leq, binA_gtr, binA_geq, unA_not, Bool.not_true, Bool.not_false, convA_int, extA_tuple, List.getElem?_toArray, List.getElem?_cons_zero, List.getElem?_cons_succ]
    refine callA_of (room_any hsz w') fun v1 h1 ⟨e, e1'⟩ f1 => ?_
    subst e e1'
    simp only [stillA_iff, allA_cons, allA_one, sameQ_loadA]
    refine ⟨⟨loadA_at hb0B hb0 hvl hvs, loadA_at hB hb (by rfl) rfl⟩, ?_⟩
    simp only [lenSl_slice, lenStr_string, str_size, fpureA_some, fnilA_ptr, faddA_ptr, addr_add, Nat.zero_add, Nat.add_zero, fpureQ_k, fpureQ_nilA, fpureQ_addA, fpureQ_pureA, fpureQ_guardA, fpureQ_idxSlA, fpureQ_pickA, freadQ_loadA, freadQ_loadNA, freadQ_b2sA, freadQ_guardA, freadQ_slSlA, freadQ_k, fendA, fallA_one, fstillA_nil, fguardA_tt, fguardA_ff, fguardA_tf, fguardA_ft, fguardA_undef, fpickA_true, fpickA_false, fcondA_true, fcondA_false, binA_add, binA_sub, binA_mul, binA_eql, binA_neq, binA_lss, binA_leq, binA_gtr, binA_geq, unA_not, Bool.not_true, Bool.not_false, convA_int, extA_tuple, List.getElem?_toArray, List.getElem?_cons_zero, List.getElem?_cons_succ, c3]
    rw [← hx5]
    exact fin2
end
end Go.Proofs.Ytiakadkooclelaa.Ah
