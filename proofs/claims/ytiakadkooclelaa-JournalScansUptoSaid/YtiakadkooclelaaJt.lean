/- journal.Writer: Take and Fork. -/
import Derived.Test.YtiakadkooclelaaJs
import Derived.Test.YtiakadkooclelaaAh24
set_option linter.unusedVariables false
set_option linter.unusedSimpArgs false
namespace Go.Proofs.Ytiakadkooclelaa.Ah
open Go

section
variable {w0 : World}
/-- One sector behind the others: {n, bytes}. -/
theorem sec_elem {h : Hp} {x v : Value} {k : Nat} {bs : List (List UInt8)} {S T : List Nat} {r : List UInt8} {K : Kont} (hf : w0.heap.size ≤ h.next) (q : SVec w0 h x k bs S) (hv : Vec w0 h 1 v r.length (bvs r) T) (hd : ∀ b, b ∈ T → b ∉ S) (hb : bs.length ≤ 1000000)
    (hk : ∀ x' h' S', SVec w0 h' x' k (bs ++ [r]) S' → Step h h' (S ++ T) S' → K x' h') :
    buildA [(0, 1, false, .int .i64 ((k + bs.length : Nat) : Int)), (1, 1, false, v)] [(.int .i64 0), (.slice none 0 0)] (fun v44 => bslA [(0, 2, true, v44)] (zerosL [(.int .i64 0), (.slice none 0 0)] 1) 1 2 fun v45 => appA w0 2 32 x v45 K) h := by
  obtain ⟨a, c, rfl⟩ := hv.slice
  have hz : zerosL [(.int .i64 0 : Value), .slice none 0 0] 1 = [.int .i64 0, .slice none 0 0] := rfl
  simp only [buildA_iff, fillA_one, fillA_nil, isCell_int, isCell_slice, true_and, List.set_cons_zero, List.set_cons_succ, List.length_cons, List.length_nil, hz, bslA_iff, fillA_agg]
  refine ⟨by omega, by omega, by simp, by omega, ?_⟩
  have s1 := (Step.refl h [] (by simp)).new [(.int .i64 ((k + bs.length : Nat) : Int) : Value), .slice a r.length c] 2
  have hs : splice [(.int .i64 0 : Value), .slice none 0 0] 0 [.int .i64 ((k + bs.length : Nat) : Int), .slice a r.length c] = [.int .i64 ((k + bs.length : Nat) : Int), .slice a r.length c] := rfl
  rw [hs]
  refine appA_svec (by simp; omega) (q.frame s1 (by simp)) (src_new hf (by simp)) (hv.frame s1 (by simp)) hd (by omega) (by omega) fun x' h' S' v' st => ?_
  refine hk x' h' S' v' ?_
  exact (((Step.refl h (S ++ T) fun b hb => by
    rcases List.mem_append.1 hb with e | e
    · exact (q.lt b e).2
    · exact (hv.lt b e).2).new [(.int .i64 ((k + bs.length : Nat) : Int) : Value), .slice a r.length c] 2).less (T := S ++ T) (fun b hb => by simp [List.mem_append] at hb; simp [hb])).trans st
theorem take_loop {k0 : Value → Value → Hp → Prop} {p n c : Nat} {st : JS} {a : Option Addr} {x : Value} {vs : List Value} {U S0 : List Nat} (o : st.Ok) (hn : n = st.rooms.length - st.taken)
    (hsrc : ∀ h', Vec w0 h' 1 x st.rooms.length vs U → Src w0.heap.size h' 1 (.slice a n c) n (vs.drop st.taken)) : ∀ (post pre : List (List UInt8)) (h : Hp) (x3 : Value) (SO : List Nat), pre ++ post = st.rooms.drop st.taken →
    h.blk p = some [.int .i64 st.size, .int .i64 st.sectors, .int .u64 st.gen, x, .int .i64 st.taken, .int .i64 st.cnt] → w0.heap.size ≤ p → p < h.next → Vec w0 h 1 x st.rooms.length vs U → Rows w0 h vs st.rooms S0 → SVec w0 h x3 st.taken (secList st.size st.gen st.taken pre) SO → (∀ b, b ∈ SO → b ∉ p :: (U ++ S0)) →
    (∀ h' x' SO', SVec w0 h' x' st.taken st.secs SO' → Step h h' SO SO' → k0 (ptr p) x' h') →
    journal_Writer_Take_L1 prog w0 k0 (post.length + 1) (ptr p) x3 (.slice a n c) (.int .i64 (n : Int)) (.int .i64 (pre.length : Int)) h := by
  intro post
  induction post with
  | nil =>
    intro pre h x3 SO he hb hB hlt v rr sv hd hk
    have hpre : pre = st.rooms.drop st.taken := by simpa using he
    have hpl : pre.length = n := by rw [hpre, hn]; simp
    rw [journal_Writer_Take_L1]
    simp only [journal_Writer_Take_B1, binA_lss, pureA_some, hpl, Int.lt_irrefl, decide_false, condA_false]
    rw [hpre] at sv
    exact hk h x3 SO sv (Step.refl _ _ fun b hb => (sv.lt b hb).2)
  | cons r post ih =>
    intro pre h x3 SO he hb hB hlt v rr sv hd hk
    have hlen : pre.length + (post.length + 1) = n := by
      have := congrArg List.length he
      simp at this; omega
    have hle := o.len
    have hse := o.sectors
    have hta := o.good.1
    have hget : st.rooms[st.taken + pre.length]? = some r := by
      rw [← List.getElem?_drop, ← he]; simp
    obtain ⟨y, T, hy, vy, hT⟩ := rr.get hget
    have hr := o.good.2.1 r (List.mem_of_getElem? hget)
    have hvl := rr.len
    have c1 : decide ((pre.length : Int) < (n : Int)) = true := decide_eq_true (by omega)
    have e1 : IntKind.i64.wrap ((st.taken : Int) + (pre.length : Int)) = ((st.taken + pre.length : Nat) : Int) := by rw [IntWalk.i64_in _ (by omega)]; simp
    have e5 : IntKind.i64.wrap ((pre.length : Int) + 1) = ((pre.length + 1 : Nat) : Int) := by rw [IntWalk.i64_in _ (by omega)]; simp
    rw [List.length_cons, journal_Writer_Take_L1]
    simp only [journal_Writer_Take_B1, ptr, lenSl_slice, lenStr_string, str_size, fpureA_some, fnilA_ptr, faddA_ptr, addr_add, Nat.zero_add, Nat.add_zero, fpureQ_k, fpureQ_nilA, fpureQ_addA, fpureQ_pureA, fpureQ_guardA, fpureQ_idxSlA, fpureQ_pickA, freadQ_loadA, freadQ_loadNA, freadQ_b2sA, freadQ_guardA, freadQ_slSlA, freadQ_k, fendA, fallA_one, fstillA_nil, fguardA_tt, fguardA_ff, fguardA_tf, fguardA_ft, fguardA_undef, fpickA_true, fpickA_false, fcondA_true, fcondA_false, binA_add, binA_sub, binA_mul, binA_eql, binA_neq, binA_lss, binA_leq, binA_gtr, binA_geq, unA_not, Bool.not_true, Bool.not_false, convA_int, extA_tuple, List.getElem?_toArray, List.getElem?_cons_zero, List.getElem?_cons_succ, c1]
    refine idx_load1 (hsrc h v) (by simp; omega) (v := y) (by rw [List.getElem?_drop]; exact hy) ?_
    refine loadA_at hB hb (by rfl) ?_
    simp only [lenSl_slice, lenStr_string, str_size, fpureA_some, fnilA_ptr, faddA_ptr, addr_add, Nat.zero_add, Nat.add_zero, fpureQ_k, fpureQ_nilA, fpureQ_addA, fpureQ_pureA, fpureQ_guardA, fpureQ_idxSlA, fpureQ_pickA, freadQ_loadA, freadQ_loadNA, freadQ_b2sA, freadQ_guardA, freadQ_slSlA, freadQ_k, fendA, fallA_one, fstillA_nil, fguardA_tt, fguardA_ff, fguardA_tf, fguardA_ft, fguardA_undef, fpickA_true, fpickA_false, fcondA_true, fcondA_false, binA_add, binA_sub, binA_mul, binA_eql, binA_neq, binA_lss, binA_leq, binA_gtr, binA_geq, unA_not, Bool.not_true, Bool.not_false, convA_int, extA_tuple, List.getElem?_toArray, List.getElem?_cons_zero, List.getElem?_cons_succ, e1]
    refine loadA_at hB hb (by rfl) ?_
    refine loadA_at hB hb (by rfl) ?_
    obtain ⟨ay, cy, rfl⟩ := vy.slice
    refine callA_of (sector_spec (gen := st.gen) o.size (by omega) (by have := hr; unfold JS.room at this; exact this) vy.src) fun v1 h1 ⟨S1, v1v, s1⟩ f1 => ?_
    have hsl := sec_length st.gen (st.taken + pre.length) (size := st.size) (r := r) (by have := o.size; omega) hr
    have sv1 := sv.frame s1 (by simp)
    have hel : st.taken + (secList st.size st.gen st.taken pre).length = st.taken + pre.length := by simp
    have v1v' : Vec w0 h1 1 v1 (sec st.size st.gen (st.taken + pre.length) r).length (bvs (sec st.size st.gen (st.taken + pre.length) r)) S1 := by rw [hsl]; exact v1v
    have h0n : w0.heap.size ≤ h.next := by omega
    have hse1 := sec_elem (k := st.taken) (r := sec st.size st.gen (st.taken + pre.length) r) (K := fun v46 => journal_Writer_Take_L1 prog w0 k0 (post.length + 1) (ptr p) v46 (.slice a n c) (.int .i64 (n : Int)) (.int .i64 (IntKind.i64.wrap ((pre.length : Int) + 1)))) f1.base sv1 v1v' (fun b hb1 hb2 => by
      rcases (s1.own b hb1).2 with e | e
      · simp at e
      · have := (sv.lt b hb2).2; omega) (by simp; omega) (fun x' h' S' v' st' => by
      rw [e5]
      have s12 : Step h h' SO S' := (s1.wide (T := SO) (T' := SO ++ S1) (by simp) (fun b hb => by
        rcases List.mem_append.1 hb with e | e
        · exact .inr ⟨e, (sv.lt b e).2⟩
        · exact .inl e)).trans st'
      have hpSO : p ∉ SO := fun e => hd p e (by simp)
      have hb' : h'.blk p = _ := (s12.keep p hlt hpSO).1.trans hb
      have := ih (pre ++ [r]) h' x' S' (by simpa using he) hb' hB (by have := s12.next; omega) (v.frame s12 fun b hb he => hd b he (by simp [hb])) (rr.frame s12 fun b hb he => hd b he (by simp [hb])) (by rw [secList_snoc]; exact v') (fun b hb he => by
        rcases (s12.own b hb).2 with g | g
        · exact hd b g he
        · have : b < h.next := by
            rcases List.mem_cons.1 he with rfl | he
            · exact hlt
            · rcases List.mem_append.1 he with he | he
              · exact (v.lt b he).2
              · exact (rr.lt b he).2
          omega) (fun h2 x2 S2 v2 s2 => hk h2 x2 S2 v2 (s12.trans s2))
      simpa using this)
    rw [hel] at hse1
    exact hse1
theorem Take_spec {p : Nat} {h : Hp} {st : JS} {S : List Nat} (w : Jw w0 h p st S) (o : st.Ok) :
    ACalls prog w0 n_journal_Writer_Take [ptr p] h fun v h' => ∃ SO, Jw w0 h' p st.take S ∧ SVec w0 h' v st.taken st.secs SO ∧ (∀ b, b ∈ SO → h.next ≤ b) ∧ Step h h' S (SO ++ S) := by
  refine ACalls.of_fit (by simp [ptr]) fun f => c_journal_Writer_Take (by simp [ptr]) ?_
  refine callA_of (made_spec w o) fun v h1 ⟨e, e1⟩ f1 => ?_
  subst e e1
  have wr := w.refl
  obtain ⟨x, T, hb, hB, hlt, vv, hp, rfl⟩ := w
  obtain ⟨vs, U, S0, v, rr, d, rfl⟩ := vv
  simp only [ptr, lenSl_slice, lenStr_string, str_size, fpureA_some, fnilA_ptr, faddA_ptr, addr_add, Nat.zero_add, Nat.add_zero, fpureQ_k, fpureQ_nilA, fpureQ_addA, fpureQ_pureA, fpureQ_guardA, fpureQ_idxSlA, fpureQ_pickA, freadQ_loadA, freadQ_loadNA, freadQ_b2sA, freadQ_guardA, freadQ_slSlA, freadQ_k, fendA, fallA_one, fstillA_nil, fguardA_tt, fguardA_ff, fguardA_tf, fguardA_ft, fguardA_undef, fpickA_true, fpickA_false, fcondA_true, fcondA_false, binA_add, binA_sub, binA_mul, binA_eql, binA_neq, binA_lss, binA_leq, binA_gtr, binA_geq, unA_not, Bool.not_true, Bool.not_false, convA_int, extA_tuple, List.getElem?_toArray, List.getElem?_cons_zero, List.getElem?_cons_succ]
  refine loadA_at hB hb (by rfl) ?_
  refine loadA_at hB hb (by rfl) ?_
  refine slSlA_from v o.good.1 fun a c hsrc => ?_
  simp only [lenSl_slice, lenStr_string, str_size, fpureA_some, fnilA_ptr, faddA_ptr, addr_add, Nat.zero_add, Nat.add_zero, fpureQ_k, fpureQ_nilA, fpureQ_addA, fpureQ_pureA, fpureQ_guardA, fpureQ_idxSlA, fpureQ_pickA, freadQ_loadA, freadQ_loadNA, freadQ_b2sA, freadQ_guardA, freadQ_slSlA, freadQ_k, fendA, fallA_one, fstillA_nil, fguardA_tt, fguardA_ff, fguardA_tf, fguardA_ft, fguardA_undef, fpickA_true, fpickA_false, fcondA_true, fcondA_false, binA_add, binA_sub, binA_mul, binA_eql, binA_neq, binA_lss, binA_leq, binA_gtr, binA_geq, unA_not, Bool.not_true, Bool.not_false, convA_int, extA_tuple, List.getElem?_toArray, List.getElem?_cons_zero, List.getElem?_cons_succ]
  have hl : (st.rooms.drop st.taken).length = st.rooms.length - st.taken := by simp
  refine ⟨(st.rooms.drop st.taken).length + 1, ?_⟩
  refine take_loop o rfl hsrc (st.rooms.drop st.taken) [] h1 _ [] rfl hb hB hlt v rr (SVec.nil _) (by simp) fun h2 x2 SO v2 s2 => ?_
  simp only [ptr, lenSl_slice, lenStr_string, str_size, fpureA_some, fnilA_ptr, faddA_ptr, addr_add, Nat.zero_add, Nat.add_zero, fpureQ_k, fpureQ_nilA, fpureQ_addA, fpureQ_pureA, fpureQ_guardA, fpureQ_idxSlA, fpureQ_pickA, freadQ_loadA, freadQ_loadNA, freadQ_b2sA, freadQ_guardA, freadQ_slSlA, freadQ_k, fendA, fallA_one, fstillA_nil, fguardA_tt, fguardA_ff, fguardA_tf, fguardA_ft, fguardA_undef, fpickA_true, fpickA_false, fcondA_true, fcondA_false, binA_add, binA_sub, binA_mul, binA_eql, binA_neq, binA_lss, binA_leq, binA_gtr, binA_geq, unA_not, Bool.not_true, Bool.not_false, convA_int, extA_tuple, List.getElem?_toArray, List.getElem?_cons_zero, List.getElem?_cons_succ]
  have hb2 : h2.blk p = _ := (s2.keep p hlt (by simp)).1.trans hb
  refine loadA_at hB hb2 (by rfl) ?_
  obtain ⟨ax, cx, hx⟩ := v.slice
  rw [hx]
  simp only [lenSl_slice, lenStr_string, str_size, fpureA_some, fnilA_ptr, faddA_ptr, addr_add, Nat.zero_add, Nat.add_zero, fpureQ_k, fpureQ_nilA, fpureQ_addA, fpureQ_pureA, fpureQ_guardA, fpureQ_idxSlA, fpureQ_pickA, freadQ_loadA, freadQ_loadNA, freadQ_b2sA, freadQ_guardA, freadQ_slSlA, freadQ_k, fendA, fallA_one, fstillA_nil, fguardA_tt, fguardA_ff, fguardA_tf, fguardA_ft, fguardA_undef, fpickA_true, fpickA_false, fcondA_true, fcondA_false, binA_add, binA_sub, binA_mul, binA_eql, binA_neq, binA_lss, binA_leq, binA_gtr, binA_geq, unA_not, Bool.not_true, Bool.not_false, convA_int, extA_tuple, List.getElem?_toArray, List.getElem?_cons_zero, List.getElem?_cons_succ]
  rw [storeA_own]
  refine ⟨_, hB, hb2, by simp, rfl, ?_⟩
  obtain ⟨a2, c2, hx2⟩ := v2.slice
  have hSO : ∀ b, b ∈ SO → h1.next ≤ b := fun b hb => by
    rcases (s2.own b hb).2 with e | e
    · simp at e
    · exact e
  simp only [retA_iff, oneOf_one]
  refine ⟨by rw [hx2]; simp, SO, ⟨x, U ++ S0, ?_, hB, by have := s2.next; simp; omega, ⟨vs, U, S0, ?_, ?_, d, rfl⟩, hp, rfl⟩, ?_, hSO, ?_⟩
  · simp [JS.take]
  · exact (v.frame s2 (by simp)).put (fun e => hp (by simp [e])) _
  · exact (rr.frame s2 (by simp)).put (fun e => hp (by simp [e])) _
  · obtain ⟨vs2, U2, S2, g1, g2, g3, g4⟩ := v2
    have hpSO : p ∉ SO := fun e => by have := hSO p e; omega
    rw [g4] at hpSO
    exact ⟨vs2, U2, S2, g1.put (fun e => hpSO (by simp [e])) _, g2.put (fun e => hpSO (by simp [e])) _, g3, g4⟩
  · refine (s2.wide (T := p :: (U ++ S0)) (T' := SO ++ (p :: (U ++ S0))) (by simp) (fun b hb => ?_)).put (by simp) _
    rcases List.mem_append.1 hb with e | e
    · exact .inl e
    · exact .inr ⟨e, wr.own b e |>.1⟩
end
end Go.Proofs.Ytiakadkooclelaa.Ah
