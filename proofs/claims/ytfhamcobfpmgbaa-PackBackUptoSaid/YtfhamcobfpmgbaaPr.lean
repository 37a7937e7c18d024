/- dedupref13.Pack: New, Left, Append, Back, Seal, Slots, Read. -/
import Derived.Test.YtfhamcobfpmgbaaPq
import Derived.Test.YtfhamcobfpmgbaaPm
set_option linter.unusedVariables false
set_option linter.unusedSimpArgs false
namespace Go.Proofs.Ytfhamcobfpmgbaa.Ah
open Go

/-- Slices that are only read; R: their blocks, and others. -/
def RowsR (w0 : World) (h : Hp) (vs : List Value) (rs : List (List UInt8)) (R : List Nat) : Prop :=
  vs.length = rs.length ∧ ∀ (i : Nat) r, rs[i]? = some r → ∃ v T, vs[i]? = some v ∧ GV w0 h 1 v r.length (bvs r) T ∧ ∀ b, b ∈ T → b ∈ R
def LastR (w0 : World) (h : Hp) (x : Value) (t : Option (List UInt8)) (R : List Nat) : Prop :=
  match t with
  | none => x = .slice none 0 0
  | some t => ∃ T, GV w0 h 1 x t.length (bvs t) T ∧ ∀ b, b ∈ T → b ∈ R
def rfC (st : PS) (xc xl : Value) : List Value :=
  [.int .i64 st.size, .int .i64 st.count, .int .u32 st.id, xc, .bool st.shut, xl, .int .i64 st.taken, .bool st.closed]
/-- The document's container. -/
structure Rf1 (w0 : World) (h : Hp) (p : Nat) (st : PS) (xc xl : Value) (vs : List Value) (B R : List Nat) : Prop where
  blk : h.blk p = some (rfC st xc xl)
  base : w0.heap.size ≤ p
  lt : p < h.next
  vc : GV w0 h 1 xc st.chunks.length vs B
  rows : RowsR w0 h vs st.chunks R
  vl : LastR w0 h xl st.last R
  pb : p ∉ B
  pr : p ∉ R
  br : ∀ b, b ∈ B → b ∉ R
  rlt : ∀ b, b ∈ R → w0.heap.size ≤ b ∧ b < h.next
def Rf (w0 : World) (h : Hp) (p : Nat) (st : PS) (S R : List Nat) : Prop := ∃ xc xl vs B, Rf1 w0 h p st xc xl vs B R ∧ S = p :: B
section
variable {w0 : World} {h h' : Hp} {p : Nat} {st : PS} {S R : List Nat} {vs : List Value} {rs : List (List UInt8)}
theorem RowsR.frame (q : RowsR w0 h vs rs R) {T T' : List Nat} (s : Step h h' T T') (hd : ∀ b, b ∈ R → b ∉ T) : RowsR w0 h' vs rs R :=
  ⟨q.1, fun i r hi => by obtain ⟨v, U, a, b, c⟩ := q.2 i r hi; exact ⟨v, U, a, b.frame s fun x hx => hd x (c x hx), c⟩⟩
theorem RowsR.more (q : RowsR w0 h vs rs R) {R' : List Nat} (hr : ∀ b, b ∈ R → b ∈ R') : RowsR w0 h vs rs R' :=
  ⟨q.1, fun i r hi => by obtain ⟨v, U, a, b, c⟩ := q.2 i r hi; exact ⟨v, U, a, b, fun x hx => hr x (c x hx)⟩⟩
theorem RowsR.take (q : RowsR w0 h vs rs R) (n : Nat) : RowsR w0 h (vs.take n) (rs.take n) R := by
  refine ⟨by simp [q.1], fun i r hi => ?_⟩
  rw [List.getElem?_take] at hi
  split at hi
  · rename_i hlt
    obtain ⟨v, U, a, b, c⟩ := q.2 i r hi
    exact ⟨v, U, by rw [List.getElem?_take, if_pos hlt]; exact a, b, c⟩
  · simp at hi
theorem RowsR.snoc (q : RowsR w0 h vs rs R) {v : Value} {r : List UInt8} {T : List Nat} (g : GV w0 h 1 v r.length (bvs r) T) (hT : ∀ b, b ∈ T → b ∈ R) : RowsR w0 h (vs ++ [v]) (rs ++ [r]) R := by
  refine ⟨by simp [q.1], fun i r' hi => ?_⟩
  by_cases hl : i < rs.length
  · rw [List.getElem?_append_left hl] at hi
    obtain ⟨v', U, a, b, c⟩ := q.2 i r' hi
    exact ⟨v', U, by rw [List.getElem?_append_left (by rw [q.1]; exact hl)]; exact a, b, c⟩
  · rw [List.getElem?_append_right (by omega)] at hi
    have h0 : i - rs.length = 0 := by
      rcases Nat.eq_zero_or_pos (i - rs.length) with e | e
      · exact e
      · rw [List.getElem?_eq_none (by simp; omega)] at hi; simp at hi
    rw [h0] at hi
    simp at hi
    subst hi
    exact ⟨v, T, by rw [List.getElem?_append_right (by rw [q.1]; omega), show i - vs.length = 0 by rw [q.1]; exact h0]; rfl, g, hT⟩
theorem RowsR.isSl (q : RowsR w0 h vs rs R) {i : Nat} {r : List UInt8} (hi : rs[i]? = some r) : ∃ a c, vs[i]? = some (.slice a r.length c) := by
  obtain ⟨v, T, a, b, c⟩ := q.2 i r hi
  obtain ⟨ad, cc, rfl⟩ := b.slice
  exact ⟨ad, cc, a⟩
theorem LastR.frame {x : Value} {t : Option (List UInt8)} (v : LastR w0 h x t R) {T T' : List Nat} (s : Step h h' T T') (hd : ∀ b, b ∈ R → b ∉ T) : LastR w0 h' x t R := by
  cases t with
  | none => exact v
  | some t => obtain ⟨U, a, b⟩ := v; exact ⟨U, a.frame s fun x hx => hd x (b x hx), b⟩
theorem LastR.more {x : Value} {t : Option (List UInt8)} (v : LastR w0 h x t R) {R' : List Nat} (hr : ∀ b, b ∈ R → b ∈ R') : LastR w0 h x t R' := by
  cases t with
  | none => exact v
  | some t => obtain ⟨U, a, b⟩ := v; exact ⟨U, a, fun x hx => hr x (b x hx)⟩
theorem Rf.lts (w : Rf w0 h p st S R) : ∀ b, b ∈ S → w0.heap.size ≤ b ∧ b < h.next := by
  obtain ⟨xc, xl, vs, B, w, rfl⟩ := w
  intro b hb
  rcases List.mem_cons.1 hb with rfl | hb
  · exact ⟨w.base, w.lt⟩
  · exact w.vc.lt b hb
theorem Rf.ltr (w : Rf w0 h p st S R) : ∀ b, b ∈ R → w0.heap.size ≤ b ∧ b < h.next := by
  obtain ⟨xc, xl, vs, B, w, rfl⟩ := w
  exact w.rlt
theorem Rf.refl (w : Rf w0 h p st S R) : Step h h S S := Step.refl _ _ fun b hb => (w.lts b hb).2
theorem Rf1.frame {xc xl : Value} {B T T' : List Nat} (w : Rf1 w0 h p st xc xl vs B R) (s : Step h h' T T') (hd : ∀ b, b ∈ p :: B → b ∉ T) (hr : ∀ b, b ∈ R → b ∉ T) : Rf1 w0 h' p st xc xl vs B R :=
  ⟨(s.keep p w.lt (hd p (by simp))).1.trans w.blk, w.base, Nat.lt_of_lt_of_le w.lt s.next, w.vc.frame s fun b hb => hd b (by simp [hb]), w.rows.frame s hr, w.vl.frame s hr, w.pb, w.pr, w.br, fun b hb => ⟨(w.rlt b hb).1, Nat.lt_of_lt_of_le (w.rlt b hb).2 s.next⟩⟩
theorem Rf.frame {T T' : List Nat} (w : Rf w0 h p st S R) (s : Step h h' T T') (hd : ∀ b, b ∈ S → b ∉ T) (hr : ∀ b, b ∈ R → b ∉ T) : Rf w0 h' p st S R := by
  obtain ⟨xc, xl, vs, B, w, rfl⟩ := w
  exact ⟨xc, xl, vs, B, w.frame s hd hr, rfl⟩
theorem xNew_spec (n s : Int) (id : Nat) (hn : -9223372036854775808 ≤ n ∧ n ≤ 9223372036854775807) :
    ACalls prog w0 n_dedupref13_New [.int .i64 n, .int .i64 s, .int .u32 id] h fun v h' =>
      (pfits n s = true → ∃ q S', v = .tuple #[ptr q, .int .i64 0] ∧ Rf w0 h' q (PS.new n s id) S' [] ∧ Step h h' [] S') ∧ (pfits n s = false → v = .tuple #[.pointer none, .int .i64 1] ∧ h' = h) := by
  refine ACalls.of_fit (by simp) fun f => c_dedupref13_New (by simp) ?_
  refine callA_of (power_spec n) fun _ h1 ⟨e, e1⟩ f1 => ?_
  subst e e1
  have bad : pfits n s = false → retA [.pointer none, .int .i64 1] (fun v h' => (pfits n s = true → ∃ q S', v = .tuple #[ptr q, .int .i64 0] ∧ Rf w0 h' q (PS.new n s id) S' [] ∧ Step h1 h' [] S') ∧ (pfits n s = false → v = .tuple #[.pointer none, .int .i64 1] ∧ h' = h1)) h1 := by
    intro e
    simp only [retA_iff, oneOf_two, e]
    simp
  cases hj : jsize n with
  | false => simp only [lenSl_slice, lenStr_string, str_size, fpureA_some, fnilA_ptr, faddA_ptr, addr_add, Nat.zero_add, Nat.add_zero, fpureQ_k, fpureQ_nilA, fpureQ_addA, fpureQ_pureA, fpureQ_guardA, fpureQ_idxSlA, fpureQ_pickA, freadQ_loadA, freadQ_loadNA, freadQ_b2sA, freadQ_guardA, freadQ_slSlA, freadQ_k, fendA, fallA_one, fstillA_nil, fguardA_tt, fguardA_ff, fguardA_tf, fguardA_ft, fguardA_undef, fpickA_true, fpickA_false, fcondA_true, fcondA_false, binA_add, binA_sub, binA_mul, binA_eql, binA_neq, binA_lss, binA_leq, binA_gtr, binA_geq, unA_not, Bool.not_true, Bool.not_false, convA_int, extA_tuple, List.getElem?_toArray, List.getElem?_cons_zero, List.getElem?_cons_succ]; exact bad (by simp [pfits, hj])
  | true =>
    by_cases h1' : s < 1
    · have c1 : decide (s < 1) = true := decide_eq_true h1'
      simp only [lenSl_slice, lenStr_string, str_size, fpureA_some, fnilA_ptr, faddA_ptr, addr_add, Nat.zero_add, Nat.add_zero, fpureQ_k, fpureQ_nilA, fpureQ_addA, fpureQ_pureA, fpureQ_guardA, fpureQ_idxSlA, fpureQ_pickA, freadQ_loadA, freadQ_loadNA, freadQ_b2sA, freadQ_guardA, freadQ_slSlA, freadQ_k, fendA, fallA_one, fstillA_nil, fguardA_tt, fguardA_ff, fguardA_tf, fguardA_ft, fguardA_undef, fpickA_true, fpickA_false, fcondA_true, fcondA_false, binA_add, binA_sub, binA_mul, binA_eql, binA_neq, binA_lss, binA_leq, binA_gtr, binA_geq, unA_not, Bool.not_true, Bool.not_false, convA_int, extA_tuple, List.getElem?_toArray, List.getElem?_cons_zero, List.getElem?_cons_succ, c1]; exact bad (by simp [pfits, hj]; omega)
    have c1 : decide (s < 1) = false := decide_eq_false h1'
    by_cases h2' : 64 < s
    · have c2 : decide ((64 : Int) < s) = true := decide_eq_true h2'
      simp only [lenSl_slice, lenStr_string, str_size, fpureA_some, fnilA_ptr, faddA_ptr, addr_add, Nat.zero_add, Nat.add_zero, fpureQ_k, fpureQ_nilA, fpureQ_addA, fpureQ_pureA, fpureQ_guardA, fpureQ_idxSlA, fpureQ_pickA, freadQ_loadA, freadQ_loadNA, freadQ_b2sA, freadQ_guardA, freadQ_slSlA, freadQ_k, fendA, fallA_one, fstillA_nil, fguardA_tt, fguardA_ff, fguardA_tf, fguardA_ft, fguardA_undef, fpickA_true, fpickA_false, fcondA_true, fcondA_false, binA_add, binA_sub, binA_mul, binA_eql, binA_neq, binA_lss, binA_leq, binA_gtr, binA_geq, unA_not, Bool.not_true, Bool.not_false, convA_int, extA_tuple, List.getElem?_toArray, List.getElem?_cons_zero, List.getElem?_cons_succ, c1, c2]; exact bad (by simp [pfits, hj]; omega)
    have c2 : decide ((64 : Int) < s) = false := decide_eq_false h2'
    have hf : pfits n s = true := by simp [pfits, hj]; omega
    obtain ⟨r1, r2, r3, r4⟩ := pfits_range hf
    obtain ⟨n, rfl⟩ := Int.eq_ofNat_of_zero_le (show 0 ≤ n by omega)
    obtain ⟨s, rfl⟩ := Int.eq_ofNat_of_zero_le (show 0 ≤ s by omega)
    simp only [lenSl_slice, lenStr_string, str_size, fpureA_some, fnilA_ptr, faddA_ptr, addr_add, Nat.zero_add, Nat.add_zero, fpureQ_k, fpureQ_nilA, fpureQ_addA, fpureQ_pureA, fpureQ_guardA, fpureQ_idxSlA, fpureQ_pickA, freadQ_loadA, freadQ_loadNA, freadQ_b2sA, freadQ_guardA, freadQ_slSlA, freadQ_k, fendA, fallA_one, fstillA_nil, fguardA_tt, fguardA_ff, fguardA_tf, fguardA_ft, fguardA_undef, fpickA_true, fpickA_false, fcondA_true, fcondA_false, binA_add, binA_sub, binA_mul, binA_eql, binA_neq, binA_lss, binA_leq, binA_gtr, binA_geq, unA_not, Bool.not_true, Bool.not_false, convA_int, extA_tuple, List.getElem?_toArray, List.getElem?_cons_zero, List.getElem?_cons_succ, c1, c2, buildA_iff, fillA_one, fillA_nil, isCell_int, isCell_slice, true_and, List.set_cons_zero, List.set_cons_succ, List.length_cons, List.length_nil, boxA_agg, List.toList_toArray, retA_iff, oneOf_two]
    refine ⟨by omega, by omega, by omega, by simp, fun _ => ⟨h1.next, [h1.next], rfl, ⟨.slice none 0 0, .slice none 0 0, [], [], ⟨by simp [rfC, PS.new], f1.base, by simp, .inl .nil, ⟨rfl, fun i r hi => by simp [PS.new] at hi⟩, rfl, by simp, by simp, by simp, by simp⟩, rfl⟩, (Step.refl h1 [] (by simp)).new _ _⟩, fun e => by rw [hf] at e; simp at e⟩
theorem xend_loop {K : Value → Hp → Prop} {xc xl : Value} {B : List Nat} (w : Rf1 w0 h p st xc xl vs B R) (o : st.Ok) : ∀ (post pre : List (List UInt8)), pre ++ post = st.chunks → K (.int .i64 (endOf st.chunks : Int)) h →
    dedupref13_Pack_end_L1 prog w0 K (post.length + 1) (ptr p) (.int .i64 (endOf pre : Int)) (.int .i64 (pre.length : Int)) h := by
  intro post
  obtain ⟨a, c, hx⟩ := w.vc.slice
  have hl : lenSl xc = some (.int .i64 st.chunks.length) := by rw [hx]; rfl
  have hr := o.room
  have hb := o.bytes
  have hcl := chunks_le (cs := st.chunks)
  induction post with
  | nil =>
    intro pre he hk
    have : pre = st.chunks := by simpa using he
    subst this
    rw [List.length_nil, dedupref13_Pack_end_L1]
    simp only [dedupref13_Pack_end_B1, ptr, lenSl_slice, lenStr_string, str_size, fpureA_some, fnilA_ptr, faddA_ptr, addr_add, Nat.zero_add, Nat.add_zero, fpureQ_k, fpureQ_nilA, fpureQ_addA, fpureQ_pureA, fpureQ_guardA, fpureQ_idxSlA, fpureQ_pickA, freadQ_loadA, freadQ_loadNA, freadQ_b2sA, freadQ_guardA, freadQ_slSlA, freadQ_k, fendA, fallA_one, fstillA_nil, fguardA_tt, fguardA_ff, fguardA_tf, fguardA_ft, fguardA_undef, fpickA_true, fpickA_false, fcondA_true, fcondA_false, binA_add, binA_sub, binA_mul, binA_eql, binA_neq, binA_lss, binA_leq, binA_gtr, binA_geq, unA_not, Bool.not_true, Bool.not_false, convA_int, extA_tuple, List.getElem?_toArray, List.getElem?_cons_zero, List.getElem?_cons_succ]
    refine loadA_at w.base w.blk (by rfl) ?_
    simp only [hl, lenSl_slice, lenStr_string, str_size, fpureA_some, fnilA_ptr, faddA_ptr, addr_add, Nat.zero_add, Nat.add_zero, fpureQ_k, fpureQ_nilA, fpureQ_addA, fpureQ_pureA, fpureQ_guardA, fpureQ_idxSlA, fpureQ_pickA, freadQ_loadA, freadQ_loadNA, freadQ_b2sA, freadQ_guardA, freadQ_slSlA, freadQ_k, fendA, fallA_one, fstillA_nil, fguardA_tt, fguardA_ff, fguardA_tf, fguardA_ft, fguardA_undef, fpickA_true, fpickA_false, fcondA_true, fcondA_false, binA_add, binA_sub, binA_mul, binA_eql, binA_neq, binA_lss, binA_leq, binA_gtr, binA_geq, unA_not, Bool.not_true, Bool.not_false, convA_int, extA_tuple, List.getElem?_toArray, List.getElem?_cons_zero, List.getElem?_cons_succ, Int.lt_irrefl, decide_false]
    exact hk
  | cons r post ih =>
    intro pre he hk
    have hlen : pre.length + (post.length + 1) = st.chunks.length := by rw [← he]; simp
    have hg : st.chunks[pre.length]? = some r := by rw [← he]; simp
    obtain ⟨a', c', hv⟩ := w.rows.isSl hg
    have he2 : endOf (pre ++ [r]) ≤ endOf st.chunks := by
      have := endOf_append (pre ++ [r]) post
      have e : pre ++ [r] ++ post = st.chunks := by simpa using he
      rw [e] at this
      have := endOf_ge post
      omega
    rw [endOf_snoc] at he2
    have c1 : decide ((pre.length : Int) < (st.chunks.length : Int)) = true := decide_eq_true (by omega)
    have e1 : IntKind.i64.wrap ((endOf pre : Int) + 8) = ((endOf pre + 8 : Nat) : Int) := by rw [IntWalk.i64_in _ (by omega)]; simp
    have e2 : IntKind.i64.wrap (((endOf pre + 8 : Nat) : Int) + (r.length : Int)) = ((endOf pre + 8 + r.length : Nat) : Int) := by rw [IntWalk.i64_in _ (by omega)]; simp
    have e5 : IntKind.i64.wrap ((pre.length : Int) + 1) = ((pre.length + 1 : Nat) : Int) := by rw [IntWalk.i64_in _ (by omega)]; simp
    rw [List.length_cons, dedupref13_Pack_end_L1]
    simp only [dedupref13_Pack_end_B1, ptr, lenSl_slice, lenStr_string, str_size, fpureA_some, fnilA_ptr, faddA_ptr, addr_add, Nat.zero_add, Nat.add_zero, fpureQ_k, fpureQ_nilA, fpureQ_addA, fpureQ_pureA, fpureQ_guardA, fpureQ_idxSlA, fpureQ_pickA, freadQ_loadA, freadQ_loadNA, freadQ_b2sA, freadQ_guardA, freadQ_slSlA, freadQ_k, fendA, fallA_one, fstillA_nil, fguardA_tt, fguardA_ff, fguardA_tf, fguardA_ft, fguardA_undef, fpickA_true, fpickA_false, fcondA_true, fcondA_false, binA_add, binA_sub, binA_mul, binA_eql, binA_neq, binA_lss, binA_leq, binA_gtr, binA_geq, unA_not, Bool.not_true, Bool.not_false, convA_int, extA_tuple, List.getElem?_toArray, List.getElem?_cons_zero, List.getElem?_cons_succ]
    refine loadA_at w.base w.blk (by rfl) ?_
    simp only [hl, lenSl_slice, lenStr_string, str_size, fpureA_some, fnilA_ptr, faddA_ptr, addr_add, Nat.zero_add, Nat.add_zero, fpureQ_k, fpureQ_nilA, fpureQ_addA, fpureQ_pureA, fpureQ_guardA, fpureQ_idxSlA, fpureQ_pickA, freadQ_loadA, freadQ_loadNA, freadQ_b2sA, freadQ_guardA, freadQ_slSlA, freadQ_k, fendA, fallA_one, fstillA_nil, fguardA_tt, fguardA_ff, fguardA_tf, fguardA_ft, fguardA_undef, fpickA_true, fpickA_false, fcondA_true, fcondA_false, binA_add, binA_sub, binA_mul, binA_eql, binA_neq, binA_lss, binA_leq, binA_gtr, binA_geq, unA_not, Bool.not_true, Bool.not_false, convA_int, extA_tuple, List.getElem?_toArray, List.getElem?_cons_zero, List.getElem?_cons_succ, c1, e1]
    refine loadA_at w.base w.blk (by rfl) ?_
    refine w.vc.idx (by omega) fun q hq hB hbq => ?_
    rw [Nat.mul_one]
    refine loadA_at hB hbq hv ?_
    simp only [lenSl_slice, lenStr_string, str_size, fpureA_some, fnilA_ptr, faddA_ptr, addr_add, Nat.zero_add, Nat.add_zero, fpureQ_k, fpureQ_nilA, fpureQ_addA, fpureQ_pureA, fpureQ_guardA, fpureQ_idxSlA, fpureQ_pickA, freadQ_loadA, freadQ_loadNA, freadQ_b2sA, freadQ_guardA, freadQ_slSlA, freadQ_k, fendA, fallA_one, fstillA_nil, fguardA_tt, fguardA_ff, fguardA_tf, fguardA_ft, fguardA_undef, fpickA_true, fpickA_false, fcondA_true, fcondA_false, binA_add, binA_sub, binA_mul, binA_eql, binA_neq, binA_lss, binA_leq, binA_gtr, binA_geq, unA_not, Bool.not_true, Bool.not_false, convA_int, extA_tuple, List.getElem?_toArray, List.getElem?_cons_zero, List.getElem?_cons_succ, e2, e5]
    have := ih (pre ++ [r]) (by simpa using he) hk
    rw [endOf_snoc] at this
    simpa [ptr] using this
theorem xend_spec (w : Rf w0 h p st S R) (o : st.Ok) : ACalls prog w0 n_dedupref13_Pack_end [ptr p] h fun v h' => v = .int .i64 (endOf st.chunks) ∧ h' = h := by
  refine ACalls.of_fit (by simp [ptr]) fun f => c_dedupref13_Pack_end (by simp [ptr]) ?_
  obtain ⟨xc, xl, vs, B, w, rfl⟩ := w
  refine ⟨st.chunks.length + 1, xend_loop w o st.chunks [] rfl ?_⟩
  simp
theorem xLeft_spec (w : Rf w0 h p st S R) (o : st.Ok) : ACalls prog w0 n_dedupref13_Pack_Left [ptr p] h fun v h' => v = .int .i64 st.left ∧ h' = h := by
  refine ACalls.of_fit (by simp [ptr]) fun f => c_dedupref13_Pack_Left (by simp [ptr]) ?_
  have w' := w
  obtain ⟨xc, xl, vs, B, w, hS⟩ := w
  have hr := o.room
  have hb := o.bytes
  have hg := endOf_ge st.chunks
  have e0 : IntKind.i64.wrap ((st.size : Int) * (st.count : Int)) = (st.bytes : Int) := by
    have : (st.size : Int) * (st.count : Int) = (st.bytes : Int) := by unfold PS.bytes; simp
    rw [this, IntWalk.i64_in _ (by omega)]
  have e1 : IntKind.i64.wrap ((st.bytes : Int) - 16) = ((st.bytes - 16 : Nat) : Int) := by rw [IntWalk.i64_in _ (by omega)]; omega
  have e2 : IntKind.i64.wrap (((st.bytes - 16 : Nat) : Int) - (endOf st.chunks : Int)) = ((st.bytes - 16 - endOf st.chunks : Nat) : Int) := by rw [IntWalk.i64_in _ (by omega)]; omega
  have e3 : IntKind.i64.wrap (((st.bytes - 16 - endOf st.chunks : Nat) : Int) - 8) = ((st.bytes - 16 - endOf st.chunks : Nat) : Int) - 8 := IntWalk.i64_in _ (by omega)
  simp only [s_dedupref13_Pack_Left, ptr, lenSl_slice, lenStr_string, str_size, fpureA_some, fnilA_ptr, faddA_ptr, addr_add, Nat.zero_add, Nat.add_zero, fpureQ_k, fpureQ_nilA, fpureQ_addA, fpureQ_pureA, fpureQ_guardA, fpureQ_idxSlA, fpureQ_pickA, freadQ_loadA, freadQ_loadNA, freadQ_b2sA, freadQ_guardA, freadQ_slSlA, freadQ_k, fendA, fallA_one, fstillA_nil, fguardA_tt, fguardA_ff, fguardA_tf, fguardA_ft, fguardA_undef, fpickA_true, fpickA_false, fcondA_true, fcondA_false, binA_add, binA_sub, binA_mul, binA_eql, binA_neq, binA_lss, binA_leq, binA_gtr, binA_geq, unA_not, Bool.not_true, Bool.not_false, convA_int, extA_tuple, List.getElem?_toArray, List.getElem?_cons_zero, List.getElem?_cons_succ]
  refine loadA_at w.base w.blk (by rfl) ?_
  refine loadA_at w.base w.blk (by rfl) ?_
  simp only [lenSl_slice, lenStr_string, str_size, fpureA_some, fnilA_ptr, faddA_ptr, addr_add, Nat.zero_add, Nat.add_zero, fpureQ_k, fpureQ_nilA, fpureQ_addA, fpureQ_pureA, fpureQ_guardA, fpureQ_idxSlA, fpureQ_pickA, freadQ_loadA, freadQ_loadNA, freadQ_b2sA, freadQ_guardA, freadQ_slSlA, freadQ_k, fendA, fallA_one, fstillA_nil, fguardA_tt, fguardA_ff, fguardA_tf, fguardA_ft, fguardA_undef, fpickA_true, fpickA_false, fcondA_true, fcondA_false, binA_add, binA_sub, binA_mul, binA_eql, binA_neq, binA_lss, binA_leq, binA_gtr, binA_geq, unA_not, Bool.not_true, Bool.not_false, convA_int, extA_tuple, List.getElem?_toArray, List.getElem?_cons_zero, List.getElem?_cons_succ, e0, e1]
  refine callA_of (xend_spec w' o) fun v h2 ⟨e, e'⟩ f2 => ?_
  subst e e'
  simp only [stillA_iff, allA_cons, allA_one, sameQ_loadA]
  refine ⟨⟨loadA_at w.base w.blk (by rfl) rfl, loadA_at w.base w.blk (by rfl) rfl⟩, ?_⟩
  simp only [lenSl_slice, lenStr_string, str_size, fpureA_some, fnilA_ptr, faddA_ptr, addr_add, Nat.zero_add, Nat.add_zero, fpureQ_k, fpureQ_nilA, fpureQ_addA, fpureQ_pureA, fpureQ_guardA, fpureQ_idxSlA, fpureQ_pickA, freadQ_loadA, freadQ_loadNA, freadQ_b2sA, freadQ_guardA, freadQ_slSlA, freadQ_k, fendA, fallA_one, fstillA_nil, fguardA_tt, fguardA_ff, fguardA_tf, fguardA_ft, fguardA_undef, fpickA_true, fpickA_false, fcondA_true, fcondA_false, binA_add, binA_sub, binA_mul, binA_eql, binA_neq, binA_lss, binA_leq, binA_gtr, binA_geq, unA_not, Bool.not_true, Bool.not_false, convA_int, extA_tuple, List.getElem?_toArray, List.getElem?_cons_zero, List.getElem?_cons_succ, e2, e3]
  refine loadA_at w.base w.blk (by rfl) ?_
  cases hs : st.shut with
  | true => simp only [lenSl_slice, lenStr_string, str_size, fpureA_some, fnilA_ptr, faddA_ptr, addr_add, Nat.zero_add, Nat.add_zero, fpureQ_k, fpureQ_nilA, fpureQ_addA, fpureQ_pureA, fpureQ_guardA, fpureQ_idxSlA, fpureQ_pickA, freadQ_loadA, freadQ_loadNA, freadQ_b2sA, freadQ_guardA, freadQ_slSlA, freadQ_k, fendA, fallA_one, fstillA_nil, fguardA_tt, fguardA_ff, fguardA_tf, fguardA_ft, fguardA_undef, fpickA_true, fpickA_false, fcondA_true, fcondA_false, binA_add, binA_sub, binA_mul, binA_eql, binA_neq, binA_lss, binA_leq, binA_gtr, binA_geq, unA_not, Bool.not_true, Bool.not_false, convA_int, extA_tuple, List.getElem?_toArray, List.getElem?_cons_zero, List.getElem?_cons_succ, retA_iff, oneOf_one, PS.left, hs]; simp
  | false =>
    simp only [lenSl_slice, lenStr_string, str_size, fpureA_some, fnilA_ptr, faddA_ptr, addr_add, Nat.zero_add, Nat.add_zero, fpureQ_k, fpureQ_nilA, fpureQ_addA, fpureQ_pureA, fpureQ_guardA, fpureQ_idxSlA, fpureQ_pickA, freadQ_loadA, freadQ_loadNA, freadQ_b2sA, freadQ_guardA, freadQ_slSlA, freadQ_k, fendA, fallA_one, fstillA_nil, fguardA_tt, fguardA_ff, fguardA_tf, fguardA_ft, fguardA_undef, fpickA_true, fpickA_false, fcondA_true, fcondA_false, binA_add, binA_sub, binA_mul, binA_eql, binA_neq, binA_lss, binA_leq, binA_gtr, binA_geq, unA_not, Bool.not_true, Bool.not_false, convA_int, extA_tuple, List.getElem?_toArray, List.getElem?_cons_zero, List.getElem?_cons_succ]
    by_cases h0 : ((st.bytes - 16 - endOf st.chunks : Nat) : Int) - 8 < 0
    · have c1 : decide (((st.bytes - 16 - endOf st.chunks : Nat) : Int) - 8 < 0) = true := decide_eq_true h0
      have : st.bytes - 16 - endOf st.chunks - 8 = 0 := by omega
      simp only [c1, lenSl_slice, lenStr_string, str_size, fpureA_some, fnilA_ptr, faddA_ptr, addr_add, Nat.zero_add, Nat.add_zero, fpureQ_k, fpureQ_nilA, fpureQ_addA, fpureQ_pureA, fpureQ_guardA, fpureQ_idxSlA, fpureQ_pickA, freadQ_loadA, freadQ_loadNA, freadQ_b2sA, freadQ_guardA, freadQ_slSlA, freadQ_k, fendA, fallA_one, fstillA_nil, fguardA_tt, fguardA_ff, fguardA_tf, fguardA_ft, fguardA_undef, fpickA_true, fpickA_false, fcondA_true, fcondA_false, binA_add, binA_sub, binA_mul, binA_eql, binA_neq, binA_lss, binA_leq, binA_gtr, binA_geq, unA_not, Bool.not_true, Bool.not_false, convA_int, extA_tuple, List.getElem?_toArray, List.getElem?_cons_zero, List.getElem?_cons_succ, retA_iff, oneOf_one, PS.left, hs, Bool.false_eq_true, if_false, this]; simp
    · have c1 : decide (((st.bytes - 16 - endOf st.chunks - 8 : Nat) : Int) < 0) = false := decide_eq_false (by omega)
      have : ((st.bytes - 16 - endOf st.chunks : Nat) : Int) - 8 = ((st.bytes - 16 - endOf st.chunks - 8 : Nat) : Int) := by omega
      simp only [c1, lenSl_slice, lenStr_string, str_size, fpureA_some, fnilA_ptr, faddA_ptr, addr_add, Nat.zero_add, Nat.add_zero, fpureQ_k, fpureQ_nilA, fpureQ_addA, fpureQ_pureA, fpureQ_guardA, fpureQ_idxSlA, fpureQ_pickA, freadQ_loadA, freadQ_loadNA, freadQ_b2sA, freadQ_guardA, freadQ_slSlA, freadQ_k, fendA, fallA_one, fstillA_nil, fguardA_tt, fguardA_ff, fguardA_tf, fguardA_ft, fguardA_undef, fpickA_true, fpickA_false, fcondA_true, fcondA_false, binA_add, binA_sub, binA_mul, binA_eql, binA_neq, binA_lss, binA_leq, binA_gtr, binA_geq, unA_not, Bool.not_true, Bool.not_false, convA_int, extA_tuple, List.getElem?_toArray, List.getElem?_cons_zero, List.getElem?_cons_succ, retA_iff, oneOf_one, PS.left, hs, Bool.false_eq_true, if_false, this]
      exact ⟨by simp, by trivial, by trivial⟩
theorem xSeal_spec (w : Rf w0 h p st S R) (o : st.Ok) : ACalls prog w0 n_dedupref13_Pack_Seal [ptr p] h fun r h' => r = .int .i64 st.seal.1 ∧ Rf w0 h' p st.seal.2 S R ∧ Step h h' S S := by
  refine ACalls.of_fit (by simp [ptr]) fun f => c_dedupref13_Pack_Seal (by simp [ptr]) ?_
  have w' := w
  obtain ⟨xc, xl, vs, B, w, hS⟩ := w
  simp only [s_dedupref13_Pack_Seal, ptr, lenSl_slice, lenStr_string, str_size, fpureA_some, fnilA_ptr, faddA_ptr, addr_add, Nat.zero_add, Nat.add_zero, fpureQ_k, fpureQ_nilA, fpureQ_addA, fpureQ_pureA, fpureQ_guardA, fpureQ_idxSlA, fpureQ_pickA, freadQ_loadA, freadQ_loadNA, freadQ_b2sA, freadQ_guardA, freadQ_slSlA, freadQ_k, fendA, fallA_one, fstillA_nil, fguardA_tt, fguardA_ff, fguardA_tf, fguardA_ft, fguardA_undef, fpickA_true, fpickA_false, fcondA_true, fcondA_false, binA_add, binA_sub, binA_mul, binA_eql, binA_neq, binA_lss, binA_leq, binA_gtr, binA_geq, unA_not, Bool.not_true, Bool.not_false, convA_int, extA_tuple, List.getElem?_toArray, List.getElem?_cons_zero, List.getElem?_cons_succ]
  refine loadA_at w.base w.blk (by rfl) ?_
  cases hs : st.shut with
  | true =>
    have e : st.seal = (6, st) := by unfold PS.seal; rw [if_pos hs]
    simp only [lenSl_slice, lenStr_string, str_size, fpureA_some, fnilA_ptr, faddA_ptr, addr_add, Nat.zero_add, Nat.add_zero, fpureQ_k, fpureQ_nilA, fpureQ_addA, fpureQ_pureA, fpureQ_guardA, fpureQ_idxSlA, fpureQ_pickA, freadQ_loadA, freadQ_loadNA, freadQ_b2sA, freadQ_guardA, freadQ_slSlA, freadQ_k, fendA, fallA_one, fstillA_nil, fguardA_tt, fguardA_ff, fguardA_tf, fguardA_ft, fguardA_undef, fpickA_true, fpickA_false, fcondA_true, fcondA_false, binA_add, binA_sub, binA_mul, binA_eql, binA_neq, binA_lss, binA_leq, binA_gtr, binA_geq, unA_not, Bool.not_true, Bool.not_false, convA_int, extA_tuple, List.getElem?_toArray, List.getElem?_cons_zero, List.getElem?_cons_succ, retA_iff, oneOf_one, e]
    exact ⟨by simp, by trivial, w', w'.refl⟩
  | false =>
    have e : st.seal = (0, { st with shut := true }) := by unfold PS.seal; rw [if_neg (by simp [hs])]
    simp only [lenSl_slice, lenStr_string, str_size, fpureA_some, fnilA_ptr, faddA_ptr, addr_add, Nat.zero_add, Nat.add_zero, fpureQ_k, fpureQ_nilA, fpureQ_addA, fpureQ_pureA, fpureQ_guardA, fpureQ_idxSlA, fpureQ_pickA, freadQ_loadA, freadQ_loadNA, freadQ_b2sA, freadQ_guardA, freadQ_slSlA, freadQ_k, fendA, fallA_one, fstillA_nil, fguardA_tt, fguardA_ff, fguardA_tf, fguardA_ft, fguardA_undef, fpickA_true, fpickA_false, fcondA_true, fcondA_false, binA_add, binA_sub, binA_mul, binA_eql, binA_neq, binA_lss, binA_leq, binA_gtr, binA_geq, unA_not, Bool.not_true, Bool.not_false, convA_int, extA_tuple, List.getElem?_toArray, List.getElem?_cons_zero, List.getElem?_cons_succ]
    refine storeA_at w.base w.blk (by simp [rfC]) rfl ?_
    have s2 : Step h (h.put p ((rfC st xc xl).set 4 (.bool true))) [p] [p] := (Step.refl h [p] (by simpa using w.lt)).put (by simp) _
    have fB : ∀ b, b ∈ B → b ∉ [p] := fun b hb he => by simp at he; subst he; exact w.pb hb
    have fR : ∀ b, b ∈ R → b ∉ [p] := fun b hb he => by simp at he; subst he; exact w.pr hb
    simp only [retA_iff, oneOf_one, e]
    refine ⟨by simp, by trivial, ⟨xc, xl, vs, B, ⟨by simp [rfC], w.base, by simpa using w.lt, w.vc.frame s2 fB, w.rows.frame s2 fR, w.vl.frame s2 fR, w.pb, w.pr, w.br, fun b hb => by simpa using w.rlt b hb⟩, hS⟩, s2.wide (fun b hb => by simp at hb; subst hb; rw [hS]; simp) fun b hb => .inr ⟨hb, (w'.lts b hb).2⟩⟩
theorem xSlots_loop {K : Value → Hp → Prop} {xc xl : Value} {B : List Nat} (o : st.Ok) : ∀ (post pre : List (List UInt8)) (h : Hp) (x : Value) (T : List Nat), pre ++ post = st.chunks → Rf1 w0 h p st xc xl vs B R → (∀ b, b ∈ T → b ∉ p :: B) → (∀ b, b ∈ T → b ∉ R) → GV w0 h 2 x (slotsFrom 16 pre).length (slotC (slotsFrom 16 pre)) T →
    (∀ h' x' T', GV w0 h' 2 x' (slotsFrom 16 st.chunks).length (slotC (slotsFrom 16 st.chunks)) T' → Step h h' T T' → K x' h') →
    dedupref13_Pack_Slots_L1 prog w0 K (post.length + 1) (ptr p) x (.int .i64 (endOf pre : Int)) (.int .i64 (pre.length : Int)) h := by
  intro post
  have hr := o.room
  have hb := o.bytes
  have hcl := chunks_le (cs := st.chunks)
  induction post with
  | nil =>
    intro pre h x T he w hd hdr q hk
    obtain ⟨a, c, hx⟩ := w.vc.slice
    have hl : lenSl xc = some (.int .i64 st.chunks.length) := by rw [hx]; rfl
    have : pre = st.chunks := by simpa using he
    subst this
    rw [List.length_nil, dedupref13_Pack_Slots_L1]
    simp only [dedupref13_Pack_Slots_B1, ptr, lenSl_slice, lenStr_string, str_size, fpureA_some, fnilA_ptr, faddA_ptr, addr_add, Nat.zero_add, Nat.add_zero, fpureQ_k, fpureQ_nilA, fpureQ_addA, fpureQ_pureA, fpureQ_guardA, fpureQ_idxSlA, fpureQ_pickA, freadQ_loadA, freadQ_loadNA, freadQ_b2sA, freadQ_guardA, freadQ_slSlA, freadQ_k, fendA, fallA_one, fstillA_nil, fguardA_tt, fguardA_ff, fguardA_tf, fguardA_ft, fguardA_undef, fpickA_true, fpickA_false, fcondA_true, fcondA_false, binA_add, binA_sub, binA_mul, binA_eql, binA_neq, binA_lss, binA_leq, binA_gtr, binA_geq, unA_not, Bool.not_true, Bool.not_false, convA_int, extA_tuple, List.getElem?_toArray, List.getElem?_cons_zero, List.getElem?_cons_succ]
    refine loadA_at w.base w.blk (by rfl) ?_
    simp only [hl, lenSl_slice, lenStr_string, str_size, fpureA_some, fnilA_ptr, faddA_ptr, addr_add, Nat.zero_add, Nat.add_zero, fpureQ_k, fpureQ_nilA, fpureQ_addA, fpureQ_pureA, fpureQ_guardA, fpureQ_idxSlA, fpureQ_pickA, freadQ_loadA, freadQ_loadNA, freadQ_b2sA, freadQ_guardA, freadQ_slSlA, freadQ_k, fendA, fallA_one, fstillA_nil, fguardA_tt, fguardA_ff, fguardA_tf, fguardA_ft, fguardA_undef, fpickA_true, fpickA_false, fcondA_true, fcondA_false, binA_add, binA_sub, binA_mul, binA_eql, binA_neq, binA_lss, binA_leq, binA_gtr, binA_geq, unA_not, Bool.not_true, Bool.not_false, convA_int, extA_tuple, List.getElem?_toArray, List.getElem?_cons_zero, List.getElem?_cons_succ, Int.lt_irrefl, decide_false]
    exact hk h x T q q.refl
  | cons r post ih =>
    intro pre h x T he w hd hdr q hk
    obtain ⟨a, c, hx⟩ := w.vc.slice
    have hl : lenSl xc = some (.int .i64 st.chunks.length) := by rw [hx]; rfl
    have hlen : pre.length + (post.length + 1) = st.chunks.length := by rw [← he]; simp
    have hg : st.chunks[pre.length]? = some r := by rw [← he]; simp
    obtain ⟨a', c', hv⟩ := w.rows.isSl hg
    have he2 : endOf (pre ++ [r]) ≤ endOf st.chunks := by
      have := endOf_append (pre ++ [r]) post
      have e : pre ++ [r] ++ post = st.chunks := by simpa using he
      rw [e] at this
      have := endOf_ge post
      omega
    rw [endOf_snoc] at he2
    have c1 : decide ((pre.length : Int) < (st.chunks.length : Int)) = true := decide_eq_true (by omega)
    have e1 : IntKind.i64.wrap ((endOf pre : Int) + 8) = ((endOf pre + 8 : Nat) : Int) := by rw [IntWalk.i64_in _ (by omega)]; simp
    have e2 : IntKind.i64.wrap (((endOf pre + 8 : Nat) : Int) + (r.length : Int)) = ((endOf pre + 8 + r.length : Nat) : Int) := by rw [IntWalk.i64_in _ (by omega)]; simp
    have e5 : IntKind.i64.wrap ((pre.length : Int) + 1) = ((pre.length + 1 : Nat) : Int) := by rw [IntWalk.i64_in _ (by omega)]; simp
    rw [List.length_cons, dedupref13_Pack_Slots_L1]
    simp only [dedupref13_Pack_Slots_B1, ptr, lenSl_slice, lenStr_string, str_size, fpureA_some, fnilA_ptr, faddA_ptr, addr_add, Nat.zero_add, Nat.add_zero, fpureQ_k, fpureQ_nilA, fpureQ_addA, fpureQ_pureA, fpureQ_guardA, fpureQ_idxSlA, fpureQ_pickA, freadQ_loadA, freadQ_loadNA, freadQ_b2sA, freadQ_guardA, freadQ_slSlA, freadQ_k, fendA, fallA_one, fstillA_nil, fguardA_tt, fguardA_ff, fguardA_tf, fguardA_ft, fguardA_undef, fpickA_true, fpickA_false, fcondA_true, fcondA_false, binA_add, binA_sub, binA_mul, binA_eql, binA_neq, binA_lss, binA_leq, binA_gtr, binA_geq, unA_not, Bool.not_true, Bool.not_false, convA_int, extA_tuple, List.getElem?_toArray, List.getElem?_cons_zero, List.getElem?_cons_succ]
    refine loadA_at w.base w.blk (by rfl) ?_
    simp only [hl, lenSl_slice, lenStr_string, str_size, fpureA_some, fnilA_ptr, faddA_ptr, addr_add, Nat.zero_add, Nat.add_zero, fpureQ_k, fpureQ_nilA, fpureQ_addA, fpureQ_pureA, fpureQ_guardA, fpureQ_idxSlA, fpureQ_pickA, freadQ_loadA, freadQ_loadNA, freadQ_b2sA, freadQ_guardA, freadQ_slSlA, freadQ_k, fendA, fallA_one, fstillA_nil, fguardA_tt, fguardA_ff, fguardA_tf, fguardA_ft, fguardA_undef, fpickA_true, fpickA_false, fcondA_true, fcondA_false, binA_add, binA_sub, binA_mul, binA_eql, binA_neq, binA_lss, binA_leq, binA_gtr, binA_geq, unA_not, Bool.not_true, Bool.not_false, convA_int, extA_tuple, List.getElem?_toArray, List.getElem?_cons_zero, List.getElem?_cons_succ, c1, e1]
    refine loadA_at w.base w.blk (by rfl) ?_
    refine w.vc.idx (by omega) fun q1 hq1 hB1 hbq1 => ?_
    rw [Nat.mul_one]
    refine loadA_at hB1 hbq1 hv ?_
    simp only [lenSl_slice, lenStr_string, str_size, fpureA_some, fnilA_ptr, faddA_ptr, addr_add, Nat.zero_add, Nat.add_zero, fpureQ_k, fpureQ_nilA, fpureQ_addA, fpureQ_pureA, fpureQ_guardA, fpureQ_idxSlA, fpureQ_pickA, freadQ_loadA, freadQ_loadNA, freadQ_b2sA, freadQ_guardA, freadQ_slSlA, freadQ_k, fendA, fallA_one, fstillA_nil, fguardA_tt, fguardA_ff, fguardA_tf, fguardA_ft, fguardA_undef, fpickA_true, fpickA_false, fcondA_true, fcondA_false, binA_add, binA_sub, binA_mul, binA_eql, binA_neq, binA_lss, binA_leq, binA_gtr, binA_geq, unA_not, Bool.not_true, Bool.not_false, convA_int, extA_tuple, List.getElem?_toArray, List.getElem?_cons_zero, List.getElem?_cons_succ, buildA_iff, fillA_one, fillA_nil, isCell_int, true_and, List.set_cons_zero, List.set_cons_succ, List.length_cons, List.length_nil]
    refine ⟨by omega, by omega, ?_⟩
    refine app_slot (by have := w.base; have := w.lt; omega) q (by simp; omega) fun x3 h3 T3 q3 s3 => ?_
    have w3 := w.frame s3 (fun b hb he => hd b he hb) (fun b hb he => hdr b he hb)
    refine loadA_at w3.base w3.blk (by rfl) ?_
    refine w3.vc.idx (by omega) fun q2 hq2 hB2 hbq2 => ?_
    rw [Nat.mul_one]
    refine loadA_at hB2 hbq2 hv ?_
    simp only [lenSl_slice, lenStr_string, str_size, fpureA_some, fnilA_ptr, faddA_ptr, addr_add, Nat.zero_add, Nat.add_zero, fpureQ_k, fpureQ_nilA, fpureQ_addA, fpureQ_pureA, fpureQ_guardA, fpureQ_idxSlA, fpureQ_pickA, freadQ_loadA, freadQ_loadNA, freadQ_b2sA, freadQ_guardA, freadQ_slSlA, freadQ_k, fendA, fallA_one, fstillA_nil, fguardA_tt, fguardA_ff, fguardA_tf, fguardA_ft, fguardA_undef, fpickA_true, fpickA_false, fcondA_true, fcondA_false, binA_add, binA_sub, binA_mul, binA_eql, binA_neq, binA_lss, binA_leq, binA_gtr, binA_geq, unA_not, Bool.not_true, Bool.not_false, convA_int, extA_tuple, List.getElem?_toArray, List.getElem?_cons_zero, List.getElem?_cons_succ, e2, e5]
    have hplt : ∀ b, b ∈ p :: B → b < h.next := fun b hb => by
      rcases List.mem_cons.1 hb with rfl | hb
      · exact w.lt
      · exact (w.vc.lt b hb).2
    have := ih (pre ++ [r]) h3 x3 T3 (by simpa using he) w3 (fun b hb he => by
      rcases (s3.own b hb).2 with g | g
      · exact hd b g he
      · have := hplt b he; omega) (fun b hb he => by
      rcases (s3.own b hb).2 with g | g
      · exact hdr b g he
      · have := (w.rlt b he).2; omega) (by rw [slotsFrom_snoc]; exact q3) (fun h4 x4 T4 q4 s4 => hk h4 x4 T4 q4 (s3.trans s4))
    rw [endOf_snoc] at this
    simpa [ptr] using this
theorem xSlots_spec (w : Rf w0 h p st S R) (o : st.Ok) : ACalls prog w0 n_dedupref13_Pack_Slots [ptr p] h fun r h' => ∃ T, GV w0 h' 2 r (slotsFrom 16 st.chunks).length (slotC (slotsFrom 16 st.chunks)) T ∧ Step h h' [] T := by
  refine ACalls.of_fit (by simp [ptr]) fun f => c_dedupref13_Pack_Slots (by simp [ptr]) ?_
  obtain ⟨xc, xl, vs, B, w, rfl⟩ := w
  refine ⟨st.chunks.length + 1, xSlots_loop o st.chunks [] h _ [] rfl w (by simp) (by simp) (.inl .nil) fun h' x' T' q s => ?_⟩
  obtain ⟨a, c, hx⟩ := q.slice
  simp only [retA_iff, oneOf_one]
  exact ⟨by rw [hx]; simp, T', q, s⟩
theorem xAppend_spec {x : Value} {b : List UInt8} (w : Rf w0 h p st S R) (o : st.Ok) (vb : Bs w0 h x b) (hb : b.length ≤ 1000000000) :
    ACalls prog w0 n_dedupref13_Pack_Append [ptr p, x] h fun r h' => ∃ S' R', r = appV (st.append b).1 ∧ Rf w0 h' p (st.append b).2 S' R' ∧ (∀ b, b ∈ R' → b ∈ R ∨ h.next ≤ b) ∧ Step h h' S S' := by
  refine ACalls.of_fit (by simpa [ptr] using vb.junk) fun f => c_dedupref13_Pack_Append (by simpa [ptr] using vb.junk) ?_
  have hB := f.base
  have hr := o.room
  have hby := o.bytes
  have hcl := chunks_le (cs := st.chunks)
  simp only [s_dedupref13_Pack_Append, newA_iff]
  refine ⟨by simp, ?_⟩
  have s1 : Step h (h.new [.int .i64 0, .int .i64 0] 2) [] [h.next] := (Step.refl h [] (by simp)).new _ _
  have hq1 : (h.new [.int .i64 0, .int .i64 0] 2).blk h.next = some [.int .i64 0, .int .i64 0] := by simp
  have hl1 : h.next < (h.new [.int .i64 0, .int .i64 0] 2).next := by simp
  generalize h.new [.int .i64 0, .int .i64 0] 2 = h1 at s1 hq1 hl1 ⊢
  have w1 := w.frame s1 (by simp) (by simp)
  obtain ⟨ax, cx, hx⟩ := vb.slice
  have hlen : lenSl x = some (.int .i64 b.length) := by rw [hx]; rfl
  have no : ∀ (e : Int), st.append b = ((0, 0, e), st) → storeNA w0 (.pointer (some ⟨h.next, 0, none⟩)) (.agg [.int .i64 0, .int .i64 0].toArray) 2 (fun _ => loadNA w0 (.pointer (some ⟨h.next, 0, none⟩)) 2 fun v => retA [v, .int .i64 e] fun r h' => ∃ S' R', r = appV (st.append b).1 ∧ Rf w0 h' p (st.append b).2 S' R' ∧ (∀ b, b ∈ R' → b ∈ R ∨ h.next ≤ b) ∧ Step h h' S S') h1 := by
    intro e he
    refine ret2 hB hq1 rfl (by simp) ⟨S, R, ?_, ?_, fun b hb => .inl hb, ?_⟩
    · rw [he]; rfl
    · rw [he]
      exact w.frame (s1.put (by simp) _) (by simp) (by simp)
    · exact (s1.put (by simp) _).idle S fun b hb => (w.lts b hb).2
  have w1s := w1
  obtain ⟨xc, xl, vs, B, w1', hS⟩ := w1
  simp only [ptr, lenSl_slice, lenStr_string, str_size, fpureA_some, fnilA_ptr, faddA_ptr, addr_add, Nat.zero_add, Nat.add_zero, fpureQ_k, fpureQ_nilA, fpureQ_addA, fpureQ_pureA, fpureQ_guardA, fpureQ_idxSlA, fpureQ_pickA, freadQ_loadA, freadQ_loadNA, freadQ_b2sA, freadQ_guardA, freadQ_slSlA, freadQ_k, fendA, fallA_one, fstillA_nil, fguardA_tt, fguardA_ff, fguardA_tf, fguardA_ft, fguardA_undef, fpickA_true, fpickA_false, fcondA_true, fcondA_false, binA_add, binA_sub, binA_mul, binA_eql, binA_neq, binA_lss, binA_leq, binA_gtr, binA_geq, unA_not, Bool.not_true, Bool.not_false, convA_int, extA_tuple, List.getElem?_toArray, List.getElem?_cons_zero, List.getElem?_cons_succ]
  refine loadA_at w1'.base w1'.blk (by rfl) ?_
  cases hs : st.shut with
  | true =>
    simp only [lenSl_slice, lenStr_string, str_size, fpureA_some, fnilA_ptr, faddA_ptr, addr_add, Nat.zero_add, Nat.add_zero, fpureQ_k, fpureQ_nilA, fpureQ_addA, fpureQ_pureA, fpureQ_guardA, fpureQ_idxSlA, fpureQ_pickA, freadQ_loadA, freadQ_loadNA, freadQ_b2sA, freadQ_guardA, freadQ_slSlA, freadQ_k, fendA, fallA_one, fstillA_nil, fguardA_tt, fguardA_ff, fguardA_tf, fguardA_ft, fguardA_undef, fpickA_true, fpickA_false, fcondA_true, fcondA_false, binA_add, binA_sub, binA_mul, binA_eql, binA_neq, binA_lss, binA_leq, binA_gtr, binA_geq, unA_not, Bool.not_true, Bool.not_false, convA_int, extA_tuple, List.getElem?_toArray, List.getElem?_cons_zero, List.getElem?_cons_succ, buildA_iff, fillA_nil]
    exact no 6 (by unfold PS.append; rw [if_pos hs])
  | false =>
  simp only [hlen, lenSl_slice, lenStr_string, str_size, fpureA_some, fnilA_ptr, faddA_ptr, addr_add, Nat.zero_add, Nat.add_zero, fpureQ_k, fpureQ_nilA, fpureQ_addA, fpureQ_pureA, fpureQ_guardA, fpureQ_idxSlA, fpureQ_pickA, freadQ_loadA, freadQ_loadNA, freadQ_b2sA, freadQ_guardA, freadQ_slSlA, freadQ_k, fendA, fallA_one, fstillA_nil, fguardA_tt, fguardA_ff, fguardA_tf, fguardA_ft, fguardA_undef, fpickA_true, fpickA_false, fcondA_true, fcondA_false, binA_add, binA_sub, binA_mul, binA_eql, binA_neq, binA_lss, binA_leq, binA_gtr, binA_geq, unA_not, Bool.not_true, Bool.not_false, convA_int, extA_tuple, List.getElem?_toArray, List.getElem?_cons_zero, List.getElem?_cons_succ]
  by_cases hb0 : b = []
  · have c1 : ((b.length : Int) == 0) = true := by rw [hb0]; rfl
    simp only [c1, lenSl_slice, lenStr_string, str_size, fpureA_some, fnilA_ptr, faddA_ptr, addr_add, Nat.zero_add, Nat.add_zero, fpureQ_k, fpureQ_nilA, fpureQ_addA, fpureQ_pureA, fpureQ_guardA, fpureQ_idxSlA, fpureQ_pickA, freadQ_loadA, freadQ_loadNA, freadQ_b2sA, freadQ_guardA, freadQ_slSlA, freadQ_k, fendA, fallA_one, fstillA_nil, fguardA_tt, fguardA_ff, fguardA_tf, fguardA_ft, fguardA_undef, fpickA_true, fpickA_false, fcondA_true, fcondA_false, binA_add, binA_sub, binA_mul, binA_eql, binA_neq, binA_lss, binA_leq, binA_gtr, binA_geq, unA_not, Bool.not_true, Bool.not_false, convA_int, extA_tuple, List.getElem?_toArray, List.getElem?_cons_zero, List.getElem?_cons_succ, buildA_iff, fillA_nil]
    exact no 1 (by unfold PS.append; rw [hs, if_neg (by simp), if_pos hb0])
  have hpos : 0 < b.length := List.length_pos_iff.2 hb0
  have c1 : ((b.length : Int) == 0) = false := by rw [beq_eq_false_iff_ne]; omega
  simp only [c1, hlen, lenSl_slice, lenStr_string, str_size, fpureA_some, fnilA_ptr, faddA_ptr, addr_add, Nat.zero_add, Nat.add_zero, fpureQ_k, fpureQ_nilA, fpureQ_addA, fpureQ_pureA, fpureQ_guardA, fpureQ_idxSlA, fpureQ_pickA, freadQ_loadA, freadQ_loadNA, freadQ_b2sA, freadQ_guardA, freadQ_slSlA, freadQ_k, fendA, fallA_one, fstillA_nil, fguardA_tt, fguardA_ff, fguardA_tf, fguardA_ft, fguardA_undef, fpickA_true, fpickA_false, fcondA_true, fcondA_false, binA_add, binA_sub, binA_mul, binA_eql, binA_neq, binA_lss, binA_leq, binA_gtr, binA_geq, unA_not, Bool.not_true, Bool.not_false, convA_int, extA_tuple, List.getElem?_toArray, List.getElem?_cons_zero, List.getElem?_cons_succ]
  refine callA_of (xLeft_spec w1s o) fun v h1 ⟨e, e1⟩ f1' => ?_
  subst e e1
  simp only [lenSl_slice, lenStr_string, str_size, fpureA_some, fnilA_ptr, faddA_ptr, addr_add, Nat.zero_add, Nat.add_zero, fpureQ_k, fpureQ_nilA, fpureQ_addA, fpureQ_pureA, fpureQ_guardA, fpureQ_idxSlA, fpureQ_pickA, freadQ_loadA, freadQ_loadNA, freadQ_b2sA, freadQ_guardA, freadQ_slSlA, freadQ_k, fendA, fallA_one, fstillA_nil, fguardA_tt, fguardA_ff, fguardA_tf, fguardA_ft, fguardA_undef, fpickA_true, fpickA_false, fcondA_true, fcondA_false, binA_add, binA_sub, binA_mul, binA_eql, binA_neq, binA_lss, binA_leq, binA_gtr, binA_geq, unA_not, Bool.not_true, Bool.not_false, convA_int, extA_tuple, List.getElem?_toArray, List.getElem?_cons_zero, List.getElem?_cons_succ]
  by_cases hfull : st.left < b.length
  · have c2 : decide ((st.left : Int) < (b.length : Int)) = true := decide_eq_true (by omega)
    simp only [c2, lenSl_slice, lenStr_string, str_size, fpureA_some, fnilA_ptr, faddA_ptr, addr_add, Nat.zero_add, Nat.add_zero, fpureQ_k, fpureQ_nilA, fpureQ_addA, fpureQ_pureA, fpureQ_guardA, fpureQ_idxSlA, fpureQ_pickA, freadQ_loadA, freadQ_loadNA, freadQ_b2sA, freadQ_guardA, freadQ_slSlA, freadQ_k, fendA, fallA_one, fstillA_nil, fguardA_tt, fguardA_ff, fguardA_tf, fguardA_ft, fguardA_undef, fpickA_true, fpickA_false, fcondA_true, fcondA_false, binA_add, binA_sub, binA_mul, binA_eql, binA_neq, binA_lss, binA_leq, binA_gtr, binA_geq, unA_not, Bool.not_true, Bool.not_false, convA_int, extA_tuple, List.getElem?_toArray, List.getElem?_cons_zero, List.getElem?_cons_succ, buildA_iff, fillA_nil]
    exact no 2 (by unfold PS.append; rw [hs, if_neg (by simp), if_neg hb0, if_pos hfull])
  have c2 : decide ((st.left : Int) < (b.length : Int)) = false := decide_eq_false (by omega)
  have hroom : endOf st.chunks + 8 + b.length + 16 ≤ st.bytes := by simp only [PS.left, hs, Bool.false_eq_true, if_false] at hfull; omega
  have happ : st.append b = ((endOf st.chunks + 8, b.length, 0), { st with chunks := st.chunks ++ [b] }) := by unfold PS.append; rw [hs, if_neg (by simp), if_neg hb0, if_neg hfull]
  simp only [c2, lenSl_slice, lenStr_string, str_size, fpureA_some, fnilA_ptr, faddA_ptr, addr_add, Nat.zero_add, Nat.add_zero, fpureQ_k, fpureQ_nilA, fpureQ_addA, fpureQ_pureA, fpureQ_guardA, fpureQ_idxSlA, fpureQ_pickA, freadQ_loadA, freadQ_loadNA, freadQ_b2sA, freadQ_guardA, freadQ_slSlA, freadQ_k, fendA, fallA_one, fstillA_nil, fguardA_tt, fguardA_ff, fguardA_tf, fguardA_ft, fguardA_undef, fpickA_true, fpickA_false, fcondA_true, fcondA_false, binA_add, binA_sub, binA_mul, binA_eql, binA_neq, binA_lss, binA_leq, binA_gtr, binA_geq, unA_not, Bool.not_true, Bool.not_false, convA_int, extA_tuple, List.getElem?_toArray, List.getElem?_cons_zero, List.getElem?_cons_succ]
  refine callA_of (xend_spec w1s o) fun v h1 ⟨e, e1⟩ f1'' => ?_
  subst e e1
  have e8 : IntKind.i64.wrap ((endOf st.chunks : Int) + 8) = ((endOf st.chunks + 8 : Nat) : Int) := by rw [IntWalk.i64_in _ (by omega)]; simp
  simp only [hlen, lenSl_slice, lenStr_string, str_size, fpureA_some, fnilA_ptr, faddA_ptr, addr_add, Nat.zero_add, Nat.add_zero, fpureQ_k, fpureQ_nilA, fpureQ_addA, fpureQ_pureA, fpureQ_guardA, fpureQ_idxSlA, fpureQ_pickA, freadQ_loadA, freadQ_loadNA, freadQ_b2sA, freadQ_guardA, freadQ_slSlA, freadQ_k, fendA, fallA_one, fstillA_nil, fguardA_tt, fguardA_ff, fguardA_tf, fguardA_ft, fguardA_undef, fpickA_true, fpickA_false, fcondA_true, fcondA_false, binA_add, binA_sub, binA_mul, binA_eql, binA_neq, binA_lss, binA_leq, binA_gtr, binA_geq, unA_not, Bool.not_true, Bool.not_false, convA_int, extA_tuple, List.getElem?_toArray, List.getElem?_cons_zero, List.getElem?_cons_succ, e8, buildA_iff, fillA_one, fillA_nil, isCell_int, true_and, List.set_cons_zero, List.set_cons_succ, List.length_cons, List.length_nil, newA_iff]
  have hB1 : w0.heap.size ≤ h1.next := by omega
  refine ⟨by omega, by omega, by simp, store2 (cs := [.int .i64 0, .int .i64 0]) hB1 (by simp) rfl ?_⟩
  rw [put_new]
  have s2 : Step h1 (h1.new [.int .i64 ((endOf st.chunks + 8 : Nat) : Int), .int .i64 (b.length : Int)] 2) [] [h1.next] := (Step.refl h1 [] (by simp)).new _ _
  have hq2 : (h1.new [.int .i64 ((endOf st.chunks + 8 : Nat) : Int), .int .i64 (b.length : Int)] 2).blk h1.next = some [.int .i64 ((endOf st.chunks + 8 : Nat) : Int), .int .i64 (b.length : Int)] := by simp
  have hl2 : h1.next < (h1.new [.int .i64 ((endOf st.chunks + 8 : Nat) : Int), .int .i64 (b.length : Int)] 2).next := by simp
  generalize h1.new [.int .i64 ((endOf st.chunks + 8 : Nat) : Int), .int .i64 (b.length : Int)] 2 = h2 at s2 hq2 hl2 ⊢
  have w2 := w1'.frame s2 (by simp) (by simp)
  refine loadA_at w2.base w2.blk (by rfl) ?_
  -- the copy
  have hB2 : w0.heap.size ≤ h2.next := by omega
  have hz : zerosL [(.int .u8 0 : Value)] 0 = [] := rfl
  simp only [bslA_iff, fillA_nil, hz, stillA_iff, allA_cons, allA_one, sameQ_loadA]
  have s3 : Step h2 (h2.new [] 1) [] [h2.next] := (Step.refl h2 [] (by simp)).new _ _
  have w3 := w2.frame s3 (by simp) (by simp)
  refine ⟨loadA_at w3.base w3.blk (by rfl) rfl, ?_⟩
  have g3 : GV w0 (h2.new [] 1) 1 (.slice (some ⟨h2.next, 0, none⟩) ([] : List UInt8).length ([] : List UInt8).length) ([] : List UInt8).length (bvs []) [h2.next] := GV.new hB2 rfl (by decide)
  have t13 : Step h1 (h2.new [] 1) [] [] := (s2.drop.trans s3).drop
  have t3 : Step h (h2.new [] 1) [] [h.next] := s1.trans (t13.idle [h.next] (by simpa using hl1))
  refine app_bytes (by simp; omega) g3 (vb.step f t3 (by simp)) (by simp; omega) fun x4 h4 T4 g4 s4 => ?_
  rw [List.nil_append] at g4
  have t4 : Step h2 h4 [] T4 := s3.trans s4
  have w4 := w2.frame t4 (by simp) (by simp)
  simp only [stillA_iff, allA_cons, allA_one, sameQ_loadA]
  refine ⟨loadA_at w4.base w4.blk (by rfl) rfl, ?_⟩
  obtain ⟨a4, c4, hx4⟩ := g4.slice
  have hz1 : zerosL [(.slice none 0 0 : Value)] 1 = [.slice none 0 0] := rfl
  simp only [hz1, bslA_iff, fillA_one, fillA_nil, List.set_cons_zero, List.length_cons, List.length_nil, stillA_iff, allA_cons, allA_one, sameQ_loadA]
  refine ⟨by rw [hx4]; rfl, by omega, ?_⟩
  have s5 : Step h4 (h4.new [x4] 1) [] [h4.next] := (Step.refl h4 [] (by simp)).new _ _
  have hB4 : w0.heap.size ≤ h4.next := by have := t4.next; omega
  have src5 : Src w0.heap.size (h4.new [x4] 1) 1 (.slice (some ⟨h4.next, 0, none⟩) 1 1) 1 [x4] := src_new hB4 (by simp)
  have hT4 : ∀ b, b ∈ T4 → h2.next ≤ b := fun b hb => by rcases (t4.own b hb).2 with g | g; simp at g; exact g
  have g5 := g4.frame s5 (by simp)
  generalize h4.new [x4] 1 = h5 at s5 src5 g5 ⊢
  have w5 := w4.frame s5 (by simp) (by simp)
  refine ⟨loadA_at w5.base w5.blk (by rfl) rfl, ?_⟩
  have hB5 : w0.heap.size ≤ h5.next := by have := s5.next; omega
  refine appA_gv (m := 1) hB5 w5.vc (by simp) src5 (by simp) (by omega) (by omega) (by omega) fun x6 h6 B' vc6 s6 => ?_
  have hB'n : ∀ c, c ∈ B' → c ∈ B ∨ h5.next ≤ c := fun c hc => (s6.own c hc).2
  have hn25 : h2.next ≤ h5.next := by have := t4.next; have := s5.next; omega
  have hn1 : h1.next < h5.next := by omega
  have hn0 : h.next < h5.next := by omega
  have hplt : p < h.next := (w.lts p (by rw [hS]; simp)).2
  have hBlt : ∀ c, c ∈ B → c < h.next := fun c hc => (w.lts c (by rw [hS]; simp [hc])).2
  have hRlt : ∀ c, c ∈ R → c < h.next := fun c hc => (w.ltr c hc).2
  have hb6 := (s6.keep p w5.lt w5.pb).1.trans w5.blk
  have hpB' : p ∉ B' := fun e => by rcases hB'n p e with g | g; exact w5.pb g; omega
  have hqB : h.next ∉ B := fun e => by have := hBlt _ e; omega
  have hq1B : h1.next ∉ B := fun e => by have := hBlt _ e; omega
  have t15 : Step h1 h5 [] [] := (s2.drop.trans (t4.drop.trans s5.drop))
  have hqf6 : h6.blk h.next = some [.int .i64 0, .int .i64 0] := ((s6.keep _ hn0 hqB).1.trans (t15.keep _ hl1 (by simp)).1).trans hq1
  have hqs6 : h6.blk h1.next = _ := ((s6.keep _ hn1 hq1B).1.trans ((t4.drop.trans s5.drop).keep _ hl2 (by simp)).1).trans hq2
  obtain ⟨a6, c6, hx6⟩ := vc6.slice
  refine storeA_at w5.base hb6 (by simp [rfC]) (by rw [hx6]; rfl) ?_
  have hne1 : h1.next ≠ p := by have := s1.next; omega
  have hne2 : h.next ≠ p := by omega
  refine loadNA_whole (b := h1.next) (cs := [.int .i64 ((endOf st.chunks + 8 : Nat) : Int), .int .i64 (b.length : Int)]) hB1 (by simp [hne1, hqs6]) rfl ?_
  refine ret2 hB (by simp [hne2, hqf6] : (h6.put p ((rfC st xc xl).set 3 x6)).blk h.next = some [.int .i64 0, .int .i64 0]) rfl (by simp) ?_
  rw [happ]
  have s7 : Step h6 ((h6.put p ((rfC st xc xl).set 3 x6)).put h.next [.int .i64 ((endOf st.chunks + 8 : Nat) : Int), .int .i64 (b.length : Int)]) [p, h.next] [p, h.next] := ((Step.refl h6 [p, h.next] (by have := s6.next; simp; omega)).put (by simp) _).put (by simp) _
  have dpq : ∀ {T : List Nat}, p ∉ T → h.next ∉ T → ∀ c, c ∈ T → c ∉ [p, h.next] := fun h1 h2 c hc he => by
    simp at he
    rcases he with rfl | rfl
    · exact h1 hc
    · exact h2 hc
  have hqB' : h.next ∉ B' := fun e => by rcases hB'n _ e with g | g; exact hqB g; omega
  have hqR : h.next ∉ R := fun e => by have := hRlt _ e; omega
  have hT4n : ∀ c, c ∈ T4 → c < h5.next := fun c hc => (g5.lt c hc).2
  have hpT4 : p ∉ T4 := fun e => by have := hT4 _ e; omega
  have hqT4 : h.next ∉ T4 := fun e => by have := hT4 _ e; omega
  have hT4B : ∀ c, c ∈ T4 → c ∉ B := fun c hc he => by have := hT4 c hc; have := hBlt c he; omega
  have g7 := (g5.frame s6 hT4B).frame s7 (dpq hpT4 hqT4)
  have hRB : ∀ c, c ∈ R → c ∉ B := fun c hc he => w5.br c he hc
  have rows7 := ((w5.rows.frame s6 hRB).frame s7 (dpq w5.pr hqR)).more (R' := R ++ T4) (fun c hc => by simp [hc])
  refine ⟨p :: B', R ++ T4, rfl, ⟨x6, xl, vs ++ [x4], B', ⟨?_, w5.base, ?_, ?_, rows7.snoc g7 (fun c hc => by simp [hc]), ((w5.vl.frame s6 hRB).frame s7 (dpq w5.pr hqR)).more (fun c hc => by simp [hc]), hpB', ?_, fun c hc he => ?_, fun c hc => ?_⟩, rfl⟩, fun c hc => ?_, ?_⟩
  · rw [put_blk, if_neg (by omega), put_blk, if_pos rfl]; rfl
  · have := s7.next; have := s6.next; have := w5.lt; omega
  · have g := vc6.frame s7 (dpq hpB' hqB')
    show GV w0 _ 1 x6 (st.chunks ++ [b]).length (vs ++ [x4]) B'
    rw [List.length_append]
    exact g
  · intro e
    rcases List.mem_append.1 e with e | e
    · exact w5.pr e
    · exact hpT4 e
  · rcases List.mem_append.1 he with g | g
    · rcases hB'n c hc with k | k
      · exact w5.br c k g
      · have := hRlt c g; omega
    · rcases hB'n c hc with k | k
      · exact hT4B c g k
      · have := hT4n c g; omega
  · have hnn : h5.next ≤ h6.next := s6.next
    have hn7 := s7.next
    rcases List.mem_append.1 hc with g | g
    · have := w5.rlt c g; exact ⟨this.1, by omega⟩
    · have := g5.lt c g; exact ⟨this.1, by omega⟩
  · rcases List.mem_append.1 hc with g | g
    · exact .inl g
    · have := hT4 c g; right; omega
  · have t5 : Step h h5 [] [h.next] := s1.trans (t15.idle [h.next] (by simpa using hl1))
    have t5' : Step h h5 (p :: B) ([h.next] ++ (p :: B)) := t5.wide (by simp) fun c hc => by
      rcases List.mem_append.1 hc with e | e
      · exact .inl e
      · exact .inr ⟨e, (w.lts c (by rw [hS]; exact e)).2⟩
    have t6' := t5'.trans (s6.wide (T := [h.next] ++ (p :: B)) (T' := [h.next] ++ (p :: B')) (fun c hc => by simp [hc]) fun c hc => by
      simp only [List.mem_append, List.mem_cons, List.not_mem_nil, or_false] at hc
      rcases hc with rfl | rfl | hc
      · exact .inr ⟨by simp, hn0⟩
      · exact .inr ⟨by simp, w5.lt⟩
      · exact .inl hc)
    rw [hS]
    exact ((t6'.put (p := p) (by simp) _).put (p := h.next) (by simp) _).less (fun c hc => by simp only [List.mem_append]; exact .inr hc)
end
end Go.Proofs.Ytfhamcobfpmgbaa.Ah
