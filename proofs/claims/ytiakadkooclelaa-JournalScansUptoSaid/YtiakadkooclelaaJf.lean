/- journal.Writer: Fork. -/
import Derived.Test.YtiakadkooclelaaJt
import Derived.Test.YtiakadkooclelaaAh25
set_option linter.unusedVariables false
set_option linter.unusedSimpArgs false
namespace Go.Proofs.Ytiakadkooclelaa.Ah
open Go

section
variable {w0 : World}
/-- append([]byte{}, r...) -/
theorem app_empty {h : Hp} {r : List UInt8} {y : Value} {K : Kont} (hf : w0.heap.size ≤ h.next) (hr : r ≠ []) (hl : r.length ≤ 1000000000) (hy : lenA y = some r.length) (hs : Src w0.heap.size h 1 y r.length (bvs r)) (hsb : ∀ b, b ∈ sblk y → b < h.next)
    (hk : ∀ x' h' S', Vec w0 h' 1 x' r.length (bvs r) S' → Step h h' [] S' → K x' h') : bslA [] (zerosL [(.int .u8 0)] 0) 0 1 (fun v5 => appA w0 1 1 v5 y K) h := by
  have hpos : 0 < r.length := List.length_pos_iff.2 hr
  simp only [bslA_iff, fillA_nil]
  refine ⟨r.length, hy, fun h0 => by omega, fun _ => ⟨0, [], bvs r, h.new (zerosL [.int .u8 0] 0) 1, ?_, ?_, by omega, by omega, ?_⟩⟩
  · simp only [Dst]
    refine ⟨trivial, .inl ⟨trivial, trivial⟩, ?_⟩
    rw [if_neg (by omega), if_neg (by decide), if_pos (by omega)]
    trivial
  · exact hs.frame fun b cs hb hbk => by
      have := hsb b hb
      have hne : b ≠ h.next := by omega
      simpa [hne] using hbk
  · rw [List.nil_append, Nat.zero_add]
    refine hk _ _ [(h.new (zerosL [.int .u8 0] 0) 1).next] (.inr ⟨_, rfl, rfl, by simp; omega, by simp, by simp, by simp, by simp⟩) ?_
    exact (((Step.refl h [] (by simp)).new _ _).new _ _).less (by simp)
theorem Clone_spec {h : Hp} {r : List UInt8} {v : Value} {T : List Nat} (hv : Vec w0 h 1 v r.length (bvs r) T) (hr : r ≠ []) (hl : r.length ≤ 1000000000) :
    ACalls prog w0 n_slices_Clone_lbyte_byte [v] h fun v' h' => ∃ T', Vec w0 h' 1 v' r.length (bvs r) T' ∧ Step h h' [] T' := by
  have hpos : 0 < r.length := List.length_pos_iff.2 hr
  rcases hv with ⟨-, e, -⟩ | ⟨q, rfl, rfl, hB, hlt, hb, he, hcl⟩
  · omega
  refine ACalls.of_fit (by simp) fun f => c_slices_Clone_lbyte_byte (by simp) ?_
  simp only [s_slices_Clone_lbyte_byte, show binSlA .eql (.slice (some ⟨q, 0, none⟩) r.length ucap) (.slice none 0 0) = some (.bool false) from rfl, pureA_some, condA_false]
  refine app_empty f.base hr hl (by simp) (src_whole hB hb hcl) (by simp [sblk]; omega) fun x' h' S' v' st => ?_
  obtain ⟨a, c, rfl⟩ := v'.slice
  simp only [retA_iff, oneOf_one]
  exact ⟨by simp, S', v', st⟩
/-- One more room behind those of a copy that is being made. -/
theorem fork_put {q : Nat} {st : JS} {h : Hp} {SQ T : List Nat} {r : List UInt8} {v : Value} {K : Hp → Prop} (w : Jw w0 h q st SQ) (hv : Vec w0 h 1 v r.length (bvs r) T) (hd : ∀ b, b ∈ T → b ∉ SQ) (hn : st.rooms.length ≤ 1000000)
    (hk : ∀ h' S', Jw w0 h' q { st with rooms := st.rooms ++ [r] } S' → Step h h' (SQ ++ T) S' → K h') :
    ∃ x, h.blk q = some [.int .i64 st.size, .int .i64 st.sectors, .int .u64 st.gen, x, .int .i64 st.taken, .int .i64 st.cnt] ∧
      bslA [(0, 1, false, v)] (zerosL [(.slice none 0 0)] 1) 1 1 (fun v26 => stillA [(sameQ (loadA w0 (.pointer (some ⟨q, 3, none⟩))) x)] (appA w0 1 24 x v26 fun v27 => storeA w0 (.pointer (some ⟨q, 3, none⟩)) v27 fun _ => K)) h := by
  have wl := w.lt
  have wr := w.refl
  obtain ⟨x, U, hb, hB, hlt, vv, hp, rfl⟩ := w
  refine ⟨x, hb, ?_⟩
  obtain ⟨a, c, rfl⟩ := hv.slice
  have hz : zerosL [(.slice none 0 0 : Value)] 1 = [.slice none 0 0] := rfl
  simp only [hz, bslA_iff, fillA_one, fillA_nil, isCell_slice, true_and, List.set_cons_zero, List.length_cons, List.length_nil]
  refine ⟨by omega, ?_⟩
  have s1 := (Step.refl h [] (by simp)).new [(.slice a r.length c : Value)] 1
  have hb1 : (h.new [(.slice a r.length c : Value)] 1).blk q = _ := (s1.keep q hlt (by simp)).1.trans hb
  simp only [stillA_iff, allA_one, sameQ_loadA]
  refine ⟨loadA_at hB hb1 (by rfl) rfl, ?_⟩
  refine appA_vvec (by simp; omega) (vv.frame s1 (by simp)) (src_new (by omega) (by simp)) (hv.frame s1 (by simp)) (fun b hb he => hd b hb (by simp [he])) (by omega) (by omega) fun x' h' S' v' st' => ?_
  have hqT : q ∉ U ++ T := fun e => by
    rcases List.mem_append.1 e with e | e
    · exact hp e
    · exact hd q e (by simp)
  have hb' : h'.blk q = _ := (st'.keep q (by simp; omega) hqT).1.trans hb1
  obtain ⟨a', c', hx'⟩ := v'.slice
  rw [storeA_own]
  refine ⟨_, hB, hb', by simp, by rw [hx']; rfl, ?_⟩
  have hqS' : q ∉ S' := fun e => by
    rcases (st'.own q e).2 with g | g
    · exact hqT g
    · simp at g; omega
  have st0 : Step h h' (U ++ T) S' := (((Step.refl h (U ++ T) fun b hb => by
    rcases List.mem_append.1 hb with e | e
    · exact (vv.lt b e).2
    · exact (hv.lt b e).2).new [(.slice a r.length c : Value)] 1).less (T := U ++ T) (fun b hb => by simp at hb; simp [hb])).trans st'
  refine hk _ (q :: S') ⟨x', S', by simp, hB, by have := st0.next; simp; omega, v'.put hqS' _, hqS', rfl⟩ ?_
  exact (st0.wide (T := (q :: U) ++ T) (T' := q :: S') (fun b hb => by simp at hb; rcases hb with e | e <;> simp [e]) (fun b hb => by
    rcases List.mem_cons.1 hb with rfl | hb
    · exact .inr ⟨by simp, hlt⟩
    · exact .inl hb)).put (by simp) _
theorem fork_loop {k0 : Value → Hp → Prop} {q : Nat} {st : JS} {x : Value} {vs : List Value} {U S0 : List Nat} (o : st.Ok) {a : Option Addr} {c : Nat} (hx : x = .slice a st.rooms.length c) : ∀ (post pre : List (List UInt8)) (h : Hp) (SQ : List Nat), pre ++ post = st.rooms →
    Vec w0 h 1 x st.rooms.length vs U → Rows w0 h vs st.rooms S0 → Jw w0 h q { st with rooms := pre } SQ → (∀ b, b ∈ SQ → b ∉ U ++ S0) →
    (∀ h' SQ', Jw w0 h' q st SQ' → Step h h' SQ SQ' → k0 (ptr q) h') →
    journal_Writer_Fork_L1 prog w0 k0 (post.length + 1) (ptr q) x (.int .i64 (st.rooms.length : Int)) (.int .i64 (pre.length : Int)) h := by
  intro post
  induction post with
  | nil =>
    intro pre h SQ he v rr w hd hk
    have hpre : pre = st.rooms := by simpa using he
    subst hpre
    rw [journal_Writer_Fork_L1]
    simp only [journal_Writer_Fork_B1, binA_lss, pureA_some, Int.lt_irrefl, decide_false, condA_false]
    exact hk h SQ w w.refl
  | cons r post ih =>
    intro pre h SQ he v rr w hd hk
    have hlen : pre.length + (post.length + 1) = st.rooms.length := by rw [← he]; simp
    have hle := o.len
    have hse := o.sectors
    have hget : st.rooms[pre.length]? = some r := by rw [← he]; simp
    obtain ⟨y, T, hy, vy, hT⟩ := rr.get hget
    have hr := o.good.2.1 r (List.mem_of_getElem? hget)
    have hne := o.ne r (List.mem_of_getElem? hget)
    have hro := o.room
    have hvl := rr.len
    have c1 : decide ((pre.length : Int) < (st.rooms.length : Int)) = true := decide_eq_true (by omega)
    have e5 : IntKind.i64.wrap ((pre.length : Int) + 1) = ((pre.length + 1 : Nat) : Int) := by rw [IntWalk.i64_in _ (by omega)]; simp
    have hsx := v.src
    rw [List.length_cons, journal_Writer_Fork_L1]
    simp only [journal_Writer_Fork_B1, ptr, lenSl_slice, lenStr_string, str_size, fpureA_some, fnilA_ptr, faddA_ptr, addr_add, Nat.zero_add, Nat.add_zero, fpureQ_k, fpureQ_nilA, fpureQ_addA, fpureQ_pureA, fpureQ_guardA, fpureQ_idxSlA, fpureQ_pickA, freadQ_loadA, freadQ_loadNA, freadQ_b2sA, freadQ_guardA, freadQ_slSlA, freadQ_k, fendA, fallA_one, fstillA_nil, fguardA_tt, fguardA_ff, fguardA_tf, fguardA_ft, fguardA_undef, fpickA_true, fpickA_false, fcondA_true, fcondA_false, binA_add, binA_sub, binA_mul, binA_eql, binA_neq, binA_lss, binA_leq, binA_gtr, binA_geq, unA_not, Bool.not_true, Bool.not_false, convA_int, extA_tuple, List.getElem?_toArray, List.getElem?_cons_zero, List.getElem?_cons_succ, c1]
    rw [hx] at hsx ⊢
    refine idx_load1 hsx hvl hy ?_
    have wl := w.lt
    obtain ⟨x0, hb0, hB0, hlt0⟩ : ∃ x0, h.blk q = some [.int .i64 st.size, .int .i64 st.sectors, .int .u64 st.gen, x0, .int .i64 st.taken, .int .i64 st.cnt] ∧ w0.heap.size ≤ q ∧ q < h.next := by
      obtain ⟨x0, U0, g1, g2, g3, -⟩ := w
      exact ⟨x0, g1, g2, g3⟩
    refine loadA_at hB0 hb0 (by rfl) ?_
    refine callA_of (Clone_spec vy hne (by omega)) fun v1 h1 ⟨T1, v1v, s1⟩ f1 => ?_
    have hb1 : h1.blk q = _ := (s1.keep q hlt0 (by simp)).1.trans hb0
    simp only [stillA_iff, allA_one, sameQ_loadA]
    refine ⟨loadA_at hB0 hb1 (by rfl) rfl, ?_⟩
    have hT1 : ∀ b, b ∈ T1 → h.next ≤ b := fun b hb => by
      rcases (s1.own b hb).2 with e | e
      · simp at e
      · exact e
    obtain ⟨x2, hb2, hgo⟩ := fork_put (K := fun h' => journal_Writer_Fork_L1 prog w0 k0 (post.length + 1) (.pointer (some ⟨q, 0, none⟩)) (.slice a st.rooms.length c) (.int .i64 (st.rooms.length : Int)) (.int .i64 (IntKind.i64.wrap ((pre.length : Int) + 1))) h') (w.frame s1 (by simp)) v1v (fun b hb he => by have := hT1 b hb; have := (wl b he).2; omega) (by simp only; omega) (fun h' S' w' st' => by
      rw [e5]
      have s12 : Step h h' SQ S' := (s1.wide (T := SQ) (T' := SQ ++ T1) (by simp) (fun b hb => by
        rcases List.mem_append.1 hb with e | e
        · exact .inr ⟨e, (wl b e).2⟩
        · exact .inl e)).trans st'
      have := ih (pre ++ [r]) h' S' (by simpa using he) (v.frame s12 fun b hb he => hd b he (by simp [hb])) (rr.frame s12 fun b hb he => hd b he (by simp [hb])) w' (fun b hb he => by
        rcases (s12.own b hb).2 with g | g
        · exact hd b g he
        · have : b < h.next := by
            rcases List.mem_append.1 he with he | he
            · exact (v.lt b he).2
            · exact (rr.lt b he).2
          omega) (fun h2 S2 w2 s2 => hk h2 S2 w2 (s12.trans s2))
      rw [hx] at this
      simpa [ptr] using this)
    have hxx : x2 = x0 := by
      rw [hb1] at hb2
      simp at hb2
      exact hb2.symm
    rw [hxx] at hgo
    exact hgo
theorem Fork_spec {p : Nat} {h : Hp} {st : JS} {S : List Nat} (w : Jw w0 h p st S) (o : st.Ok) :
    ACalls prog w0 n_journal_Writer_Fork [ptr p] h fun v h' => ∃ q S', v = ptr q ∧ Jw w0 h' q st S' ∧ (∀ b, b ∈ S' → h.next ≤ b) ∧ Step h h' [] S' := by
  refine ACalls.of_fit (by simp [ptr]) fun f => c_journal_Writer_Fork (by simp [ptr]) ?_
  refine callA_of (made_spec w o) fun v h1 ⟨e, e1⟩ f1 => ?_
  subst e e1
  have wl := w.lt
  obtain ⟨x, T, hb, hB, hlt, vv, hp, rfl⟩ := w
  obtain ⟨vs, U, S0, v, rr, d, rfl⟩ := vv
  simp only [ptr, lenSl_slice, lenStr_string, str_size, fpureA_some, fnilA_ptr, faddA_ptr, addr_add, Nat.zero_add, Nat.add_zero, fpureQ_k, fpureQ_nilA, fpureQ_addA, fpureQ_pureA, fpureQ_guardA, fpureQ_idxSlA, fpureQ_pickA, freadQ_loadA, freadQ_loadNA, freadQ_b2sA, freadQ_guardA, freadQ_slSlA, freadQ_k, fendA, fallA_one, fstillA_nil, fguardA_tt, fguardA_ff, fguardA_tf, fguardA_ft, fguardA_undef, fpickA_true, fpickA_false, fcondA_true, fcondA_false, binA_add, binA_sub, binA_mul, binA_eql, binA_neq, binA_lss, binA_leq, binA_gtr, binA_geq, unA_not, Bool.not_true, Bool.not_false, convA_int, extA_tuple, List.getElem?_toArray, List.getElem?_cons_zero, List.getElem?_cons_succ]
  refine loadNA_whole hB hb (by rfl) ?_
  refine box_new (e := [.int .i64 st.size, .int .i64 st.sectors, .int .u64 st.gen, x, .int .i64 st.taken, .int .i64 st.cnt]) f.base rfl rfl (by simp) ?_
  simp only [lenSl_slice, lenStr_string, str_size, fpureA_some, fnilA_ptr, faddA_ptr, addr_add, Nat.zero_add, Nat.add_zero, fpureQ_k, fpureQ_nilA, fpureQ_addA, fpureQ_pureA, fpureQ_guardA, fpureQ_idxSlA, fpureQ_pickA, freadQ_loadA, freadQ_loadNA, freadQ_b2sA, freadQ_guardA, freadQ_slSlA, freadQ_k, fendA, fallA_one, fstillA_nil, fguardA_tt, fguardA_ff, fguardA_tf, fguardA_ft, fguardA_undef, fpickA_true, fpickA_false, fcondA_true, fcondA_false, binA_add, binA_sub, binA_mul, binA_eql, binA_neq, binA_lss, binA_leq, binA_gtr, binA_geq, unA_not, Bool.not_true, Bool.not_false, convA_int, extA_tuple, List.getElem?_toArray, List.getElem?_cons_zero, List.getElem?_cons_succ]
  refine storeA_at (cs := [.int .i64 st.size, .int .i64 st.sectors, .int .u64 st.gen, x, .int .i64 st.taken, .int .i64 st.cnt]) f.base (by simp) (by simp) rfl ?_
  have s1 : Step h1 ((h1.new [.int .i64 st.size, .int .i64 st.sectors, .int .u64 st.gen, x, .int .i64 st.taken, .int .i64 st.cnt] 6).put h1.next [.int .i64 st.size, .int .i64 st.sectors, .int .u64 st.gen, .slice none 0 0, .int .i64 st.taken, .int .i64 st.cnt]) [] [h1.next] := ((Step.refl h1 [] (by simp)).new _ _).put (by simp) _
  have hb1 := (s1.keep p hlt (by simp)).1.trans hb
  refine loadA_at hB hb1 (by rfl) ?_
  obtain ⟨ax, cx, hx⟩ := v.slice
  rw [hx]
  simp only [lenSl_slice, lenStr_string, str_size, fpureA_some, fnilA_ptr, faddA_ptr, addr_add, Nat.zero_add, Nat.add_zero, fpureQ_k, fpureQ_nilA, fpureQ_addA, fpureQ_pureA, fpureQ_guardA, fpureQ_idxSlA, fpureQ_pickA, freadQ_loadA, freadQ_loadNA, freadQ_b2sA, freadQ_guardA, freadQ_slSlA, freadQ_k, fendA, fallA_one, fstillA_nil, fguardA_tt, fguardA_ff, fguardA_tf, fguardA_ft, fguardA_undef, fpickA_true, fpickA_false, fcondA_true, fcondA_false, binA_add, binA_sub, binA_mul, binA_eql, binA_neq, binA_lss, binA_leq, binA_gtr, binA_geq, unA_not, Bool.not_true, Bool.not_false, convA_int, extA_tuple, List.getElem?_toArray, List.getElem?_cons_zero, List.getElem?_cons_succ]
  rw [← hx]
  refine ⟨st.rooms.length + 1, fork_loop o hx st.rooms [] _ [h1.next] rfl (v.frame s1 (by simp)) (rr.frame s1 (by simp)) ⟨.slice none 0 0, [], by simp, f.base, by simp, .nil, by simp, rfl⟩ (fun b hb he => ?_) (fun h2 SQ w2 s2 => ?_)⟩
  · simp only [List.mem_singleton] at hb
    subst hb
    have := (wl h1.next (by simp only [List.mem_cons]; exact .inr he)).2
    omega
  · simp only [retA_iff, oneOf_one]
    have s12 := s1.trans s2
    refine ⟨by simp [ptr], h1.next, SQ, rfl, w2, fun b hb => ?_, s12⟩
    rcases (s12.own b hb).2 with e | e
    · simp at e
    · exact e
end
end Go.Proofs.Ytiakadkooclelaa.Ah
