/- dedupref13.Pack: Back, Read, Fork, Image, Take. -/
import Derived.Test.YtfhamcobfpmgbaaPr
set_option linter.unusedVariables false
set_option linter.unusedSimpArgs false
namespace Go.Proofs.Ytfhamcobfpmgbaa.Ah
open Go

section
variable {w0 : World} {h : Hp} {p : Nat} {st : PS} {S R : List Nat}
theorem xBack_spec (w : Rf w0 h p st S R) (o : st.Ok) (m : Int) (hm : -9223372036854775808 ≤ m ∧ m ≤ 9223372036854775807) : ACalls prog w0 n_dedupref13_Pack_Back [ptr p, .int .i64 m] h fun r h' => ∃ S', r = .int .i64 (st.back m).1 ∧ Rf w0 h' p (st.back m).2 S' R ∧ Step h h' S S' := by
  refine ACalls.of_fit (by simp [ptr]) fun f => c_dedupref13_Pack_Back (by simp [ptr]) ?_
  have w' := w
  obtain ⟨xc, xl, vs, B, w, hS⟩ := w
  have hby := o.bytes
  have hr := o.room
  have hcl := chunks_le (cs := st.chunks)
  have bad : (m < 0 ∨ (st.chunks.length : Int) < m ∨ m < st.taken) → retA [.int .i64 1] (fun r h' => ∃ S', r = .int .i64 (st.back m).1 ∧ Rf w0 h' p (st.back m).2 S' R ∧ Step h h' S S') h := by
    intro hc
    have e : st.back m = (1, st) := by unfold PS.back; rw [if_pos hc]
    simp only [retA_iff, oneOf_one, e]
    exact ⟨by simp, S, by trivial, w', w'.refl⟩
  obtain ⟨a', c', hx'⟩ := w.vc.slice
  have hl' : lenSl xc = some (.int .i64 st.chunks.length) := by rw [hx']; rfl
  simp only [s_dedupref13_Pack_Back, ptr, lenSl_slice, lenStr_string, str_size, fpureA_some, fnilA_ptr, faddA_ptr, addr_add, Nat.zero_add, Nat.add_zero, fpureQ_k, fpureQ_nilA, fpureQ_addA, fpureQ_pureA, fpureQ_guardA, fpureQ_idxSlA, fpureQ_pickA, freadQ_loadA, freadQ_loadNA, freadQ_b2sA, freadQ_guardA, freadQ_slSlA, freadQ_k, fendA, fallA_one, fstillA_nil, fguardA_tt, fguardA_ff, fguardA_tf, fguardA_ft, fguardA_undef, fpickA_true, fpickA_false, fcondA_true, fcondA_false, binA_add, binA_sub, binA_mul, binA_eql, binA_neq, binA_lss, binA_leq, binA_gtr, binA_geq, unA_not, Bool.not_true, Bool.not_false, convA_int, extA_tuple, List.getElem?_toArray, List.getElem?_cons_zero, List.getElem?_cons_succ]
  refine loadA_at w.base w.blk (by rfl) ?_
  simp only [lenSl_slice, lenStr_string, str_size, fpureA_some, fnilA_ptr, faddA_ptr, addr_add, Nat.zero_add, Nat.add_zero, fpureQ_k, fpureQ_nilA, fpureQ_addA, fpureQ_pureA, fpureQ_guardA, fpureQ_idxSlA, fpureQ_pickA, freadQ_loadA, freadQ_loadNA, freadQ_b2sA, freadQ_guardA, freadQ_slSlA, freadQ_k, fendA, fallA_one, fstillA_nil, fguardA_tt, fguardA_ff, fguardA_tf, fguardA_ft, fguardA_undef, fpickA_true, fpickA_false, fcondA_true, fcondA_false, binA_add, binA_sub, binA_mul, binA_eql, binA_neq, binA_lss, binA_leq, binA_gtr, binA_geq, unA_not, Bool.not_true, Bool.not_false, convA_int, extA_tuple, List.getElem?_toArray, List.getElem?_cons_zero, List.getElem?_cons_succ]
  by_cases h3' : m < (st.taken : Int)
  · have c3 : decide (m < (st.taken : Int)) = true := decide_eq_true h3'
    simp only [c3, lenSl_slice, lenStr_string, str_size, fpureA_some, fnilA_ptr, faddA_ptr, addr_add, Nat.zero_add, Nat.add_zero, fpureQ_k, fpureQ_nilA, fpureQ_addA, fpureQ_pureA, fpureQ_guardA, fpureQ_idxSlA, fpureQ_pickA, freadQ_loadA, freadQ_loadNA, freadQ_b2sA, freadQ_guardA, freadQ_slSlA, freadQ_k, fendA, fallA_one, fstillA_nil, fguardA_tt, fguardA_ff, fguardA_tf, fguardA_ft, fguardA_undef, fpickA_true, fpickA_false, fcondA_true, fcondA_false, binA_add, binA_sub, binA_mul, binA_eql, binA_neq, binA_lss, binA_leq, binA_gtr, binA_geq, unA_not, Bool.not_true, Bool.not_false, convA_int, extA_tuple, List.getElem?_toArray, List.getElem?_cons_zero, List.getElem?_cons_succ]
    exact bad (.inr (.inr h3'))
  have c3 : decide (m < (st.taken : Int)) = false := decide_eq_false h3'
  simp only [c3, lenSl_slice, lenStr_string, str_size, fpureA_some, fnilA_ptr, faddA_ptr, addr_add, Nat.zero_add, Nat.add_zero, fpureQ_k, fpureQ_nilA, fpureQ_addA, fpureQ_pureA, fpureQ_guardA, fpureQ_idxSlA, fpureQ_pickA, freadQ_loadA, freadQ_loadNA, freadQ_b2sA, freadQ_guardA, freadQ_slSlA, freadQ_k, fendA, fallA_one, fstillA_nil, fguardA_tt, fguardA_ff, fguardA_tf, fguardA_ft, fguardA_undef, fpickA_true, fpickA_false, fcondA_true, fcondA_false, binA_add, binA_sub, binA_mul, binA_eql, binA_neq, binA_lss, binA_leq, binA_gtr, binA_geq, unA_not, Bool.not_true, Bool.not_false, convA_int, extA_tuple, List.getElem?_toArray, List.getElem?_cons_zero, List.getElem?_cons_succ]
  refine loadA_at w.base w.blk (by rfl) ?_
  simp only [hl', lenSl_slice, lenStr_string, str_size, fpureA_some, fnilA_ptr, faddA_ptr, addr_add, Nat.zero_add, Nat.add_zero, fpureQ_k, fpureQ_nilA, fpureQ_addA, fpureQ_pureA, fpureQ_guardA, fpureQ_idxSlA, fpureQ_pickA, freadQ_loadA, freadQ_loadNA, freadQ_b2sA, freadQ_guardA, freadQ_slSlA, freadQ_k, fendA, fallA_one, fstillA_nil, fguardA_tt, fguardA_ff, fguardA_tf, fguardA_ft, fguardA_undef, fpickA_true, fpickA_false, fcondA_true, fcondA_false, binA_add, binA_sub, binA_mul, binA_eql, binA_neq, binA_lss, binA_leq, binA_gtr, binA_geq, unA_not, Bool.not_true, Bool.not_false, convA_int, extA_tuple, List.getElem?_toArray, List.getElem?_cons_zero, List.getElem?_cons_succ]
  by_cases h2' : (st.chunks.length : Int) < m
  · have c2 : decide ((st.chunks.length : Int) < m) = true := decide_eq_true h2'
    simp only [c2, lenSl_slice, lenStr_string, str_size, fpureA_some, fnilA_ptr, faddA_ptr, addr_add, Nat.zero_add, Nat.add_zero, fpureQ_k, fpureQ_nilA, fpureQ_addA, fpureQ_pureA, fpureQ_guardA, fpureQ_idxSlA, fpureQ_pickA, freadQ_loadA, freadQ_loadNA, freadQ_b2sA, freadQ_guardA, freadQ_slSlA, freadQ_k, fendA, fallA_one, fstillA_nil, fguardA_tt, fguardA_ff, fguardA_tf, fguardA_ft, fguardA_undef, fpickA_true, fpickA_false, fcondA_true, fcondA_false, binA_add, binA_sub, binA_mul, binA_eql, binA_neq, binA_lss, binA_leq, binA_gtr, binA_geq, unA_not, Bool.not_true, Bool.not_false, convA_int, extA_tuple, List.getElem?_toArray, List.getElem?_cons_zero, List.getElem?_cons_succ]
    exact bad (.inr (.inl h2'))
  have c2 : decide ((st.chunks.length : Int) < m) = false := decide_eq_false h2'
  obtain ⟨m, rfl⟩ := Int.eq_ofNat_of_zero_le (show 0 ≤ m by omega)
  have e : st.back m = (0, { st with chunks := st.chunks.take m, shut := st.closed }) := by
    unfold PS.back
    rw [if_neg (by simp only [not_or]; exact ⟨by omega, h2', h3'⟩), Int.toNat_natCast]
  have hml : m ≤ st.chunks.length := by omega
  have hz : zerosL [(.slice none 0 0 : Value)] 0 = [] := rfl
  simp only [c2, hz, lenSl_slice, lenStr_string, str_size, fpureA_some, fnilA_ptr, faddA_ptr, addr_add, Nat.zero_add, Nat.add_zero, fpureQ_k, fpureQ_nilA, fpureQ_addA, fpureQ_pureA, fpureQ_guardA, fpureQ_idxSlA, fpureQ_pickA, freadQ_loadA, freadQ_loadNA, freadQ_b2sA, freadQ_guardA, freadQ_slSlA, freadQ_k, fendA, fallA_one, fstillA_nil, fguardA_tt, fguardA_ff, fguardA_tf, fguardA_ft, fguardA_undef, fpickA_true, fpickA_false, fcondA_true, fcondA_false, binA_add, binA_sub, binA_mul, binA_eql, binA_neq, binA_lss, binA_leq, binA_gtr, binA_geq, unA_not, Bool.not_true, Bool.not_false, convA_int, extA_tuple, List.getElem?_toArray, List.getElem?_cons_zero, List.getElem?_cons_succ, bslA_iff, fillA_nil]
  have s2 : Step h (h.new [] 1) [] [h.next] := (Step.refl h [] (by simp)).new _ _
  have w2 := w.frame s2 (by simp) (by simp)
  have g2 : GV w0 (h.new [] 1) 1 (.slice (some ⟨h.next, 0, none⟩) 0 0) 0 [] [h.next] := GV.new f.base rfl (by decide)
  have hB2 : w0.heap.size ≤ (h.new [] 1).next := by have := f.base; simp; omega
  generalize h.new [] 1 = h2 at s2 w2 g2 hB2 ⊢
  refine loadA_at w2.base w2.blk (by rfl) ?_
  refine w2.vc.sl.cutN (lo := 0) (hi := m) boundA_none boundA_nat (by omega) hml fun x2 _ _ y2 => ?_
  rw [Nat.zero_mul, List.drop_zero, Nat.sub_zero, Nat.mul_one] at y2
  obtain ⟨a2, c2', hx2⟩ := y2.slice
  have hvl := w.rows.1
  have hlen : (vs.take m).length = m := by simp; omega
  refine appA_gv (m := m) hB2 g2 (by rw [hx2]; rfl) y2.src (by rw [hlen, Nat.mul_one]) (by omega) (by omega) (by omega) fun x3 h3 B' vc3 s3 => ?_
  rw [List.nil_append, Nat.zero_add] at vc3
  have t3 : Step h h3 [] B' := s2.trans s3
  have hB' : ∀ b, b ∈ B' → h.next ≤ b := fun b hb => by rcases (t3.own b hb).2 with g | g; simp at g; exact g
  have w3 := w.frame t3 (by simp) (by simp)
  obtain ⟨a3, c3', hx3⟩ := vc3.slice
  refine storeA_at w3.base w3.blk (by simp [rfC]) (by rw [hx3]; rfl) ?_
  have hb4 : (h3.put p ((rfC st xc xl).set 3 x3)).blk p = some ((rfC st xc xl).set 3 x3) := by simp
  refine loadA_at w3.base hb4 (by rfl) ?_
  refine storeA_at w3.base hb4 (by simp [rfC]) rfl ?_
  have hpB' : p ∉ B' := fun e => by have := hB' p e; have := w.lt; omega
  have s4 : Step h3 ((h3.put p ((rfC st xc xl).set 3 x3)).put p (((rfC st xc xl).set 3 x3).set 4 (.bool st.closed))) [p] [p] := ((Step.refl h3 [p] (by simpa using w3.lt)).put (by simp) _).put (by simp) _
  have dp : ∀ {T : List Nat}, p ∉ T → ∀ b, b ∈ T → b ∉ [p] := fun hT b hb he => by simp at he; subst he; exact hT hb
  have hmin : (st.chunks.take m).length = m := by simp; omega
  simp only [retA_iff, oneOf_one, e]
  refine ⟨by simp, p :: B', by trivial, ⟨x3, xl, vs.take m, B', ⟨by simp [rfC], w3.base, by simpa using w3.lt, ?_, (w3.rows.frame s4 (dp w.pr)).take m, w3.vl.frame s4 (dp w.pr), hpB', w.pr, fun b hb he => ?_, fun b hb => by simpa using w3.rlt b hb⟩, rfl⟩, ?_⟩
  · show GV w0 _ 1 x3 (st.chunks.take m).length _ B'
    rw [hmin]
    exact vc3.frame s4 (dp hpB')
  · have := hB' b hb; have := (w.rlt b he).2; omega
  · have t3' : Step h h3 S (p :: B') := t3.wide (by simp) fun b hb => by
      rcases List.mem_cons.1 hb with rfl | hb
      · exact .inr ⟨by rw [hS]; simp, w.lt⟩
      · exact .inl hb
    exact (t3'.put (by simp) _).put (by simp) _
theorem xRead_loop {k0 kr : Value → Value → Hp → Prop} {q : Nat} {o n : Int} {xc xl : Value} {vs : List Value} {B : List Nat} (ok : st.Ok) (w : Rf1 w0 h p st xc xl vs B R) (hqB : w0.heap.size ≤ q) (hq : h.blk q = some [.int .i64 o, .int .i64 n]) (f : Fit w0 h)
    {a : Option Addr} {c : Nat} (v : Sl w0 h 2 (.slice a st.chunks.length c) st.chunks.length (slotC (slotsFrom 16 st.chunks))) :
    ∀ (post pre : List (List UInt8)), pre ++ post = st.chunks → (readFrom (endOf pre) post o n = none → k0 (.slice none 0 0) (.int .i64 0) h) →
    (∀ cc x h' T, readFrom (endOf pre) post o n = some cc → GV w0 h' 1 x cc.length (bvs cc) T → (∀ b, b ∈ T → h.next ≤ b) → Step h h' [] T → kr x (.int .i64 0) h') →
    dedupref13_Pack_Read_L1 prog w0 k0 kr (post.length + 1) (ptr p) (.pointer (some ⟨q, 0, none⟩)) (.slice none 0 0) (.int .i64 0) (.slice a st.chunks.length c) (.int .i64 (pre.length : Int)) h := by
  intro post
  have hr := ok.room
  have hb := ok.bytes
  have hcl := chunks_le (cs := st.chunks)
  induction post with
  | nil =>
    intro pre he hk hkr
    have : pre = st.chunks := by simpa using he
    subst this
    rw [List.length_nil, dedupref13_Pack_Read_L1]
    simp only [dedupref13_Pack_Read_B1, lenSl_slice, lenStr_string, str_size, fpureA_some, fnilA_ptr, faddA_ptr, addr_add, Nat.zero_add, Nat.add_zero, fpureQ_k, fpureQ_nilA, fpureQ_addA, fpureQ_pureA, fpureQ_guardA, fpureQ_idxSlA, fpureQ_pickA, freadQ_loadA, freadQ_loadNA, freadQ_b2sA, freadQ_guardA, freadQ_slSlA, freadQ_k, fendA, fallA_one, fstillA_nil, fguardA_tt, fguardA_ff, fguardA_tf, fguardA_ft, fguardA_undef, fpickA_true, fpickA_false, fcondA_true, fcondA_false, binA_add, binA_sub, binA_mul, binA_eql, binA_neq, binA_lss, binA_leq, binA_gtr, binA_geq, unA_not, Bool.not_true, Bool.not_false, convA_int, extA_tuple, List.getElem?_toArray, List.getElem?_cons_zero, List.getElem?_cons_succ, Int.lt_irrefl, decide_false]
    exact hk rfl
  | cons r post ih =>
    intro pre he hk hkr
    have hlen : pre.length + (post.length + 1) = st.chunks.length := by rw [← he]; simp
    have hg : st.chunks[pre.length]? = some r := by rw [← he]; simp
    have hgs : (slotsFrom 16 st.chunks)[pre.length]? = some (endOf pre + 8, r.length) := by
      rw [← he, slotsFrom_append, List.getElem?_append_right (by simp)]
      have := endOf_ge pre
      simp [slotsFrom]
    have hd : ((slotC (slotsFrom 16 st.chunks)).drop (pre.length * 2)).take 2 = [.int .i64 ((endOf pre + 8 : Nat) : Int), .int .i64 (r.length : Int)] := drop_flatMap (e := fun p : Nat × Nat => [(.int .i64 (p.1 : Int) : Value), .int .i64 (p.2 : Int)]) (fun _ => rfl) _ _ _ hgs
    have c1 : decide ((pre.length : Int) < (st.chunks.length : Int)) = true := decide_eq_true (by omega)
    have e5 : IntKind.i64.wrap ((pre.length : Int) + 1) = ((pre.length + 1 : Nat) : Int) := by rw [IntWalk.i64_in _ (by omega)]; simp
    rw [List.length_cons, dedupref13_Pack_Read_L1]
    simp only [dedupref13_Pack_Read_B1, lenSl_slice, lenStr_string, str_size, fpureA_some, fnilA_ptr, faddA_ptr, addr_add, Nat.zero_add, Nat.add_zero, fpureQ_k, fpureQ_nilA, fpureQ_addA, fpureQ_pureA, fpureQ_guardA, fpureQ_idxSlA, fpureQ_pickA, freadQ_loadA, freadQ_loadNA, freadQ_b2sA, freadQ_guardA, freadQ_slSlA, freadQ_k, fendA, fallA_one, fstillA_nil, fguardA_tt, fguardA_ff, fguardA_tf, fguardA_ft, fguardA_undef, fpickA_true, fpickA_false, fcondA_true, fcondA_false, binA_add, binA_sub, binA_mul, binA_eql, binA_neq, binA_lss, binA_leq, binA_gtr, binA_geq, unA_not, Bool.not_true, Bool.not_false, convA_int, extA_tuple, List.getElem?_toArray, List.getElem?_cons_zero, List.getElem?_cons_succ, c1]
    refine idx_loadN v.src (by omega) ?_
    rw [hd]
    refine loadNA_whole hqB hq rfl ?_
    simp only [eqSlot w0, fpureQ_eqStA, lenSl_slice, lenStr_string, str_size, fpureA_some, fnilA_ptr, faddA_ptr, addr_add, Nat.zero_add, Nat.add_zero, fpureQ_k, fpureQ_nilA, fpureQ_addA, fpureQ_pureA, fpureQ_guardA, fpureQ_idxSlA, fpureQ_pickA, freadQ_loadA, freadQ_loadNA, freadQ_b2sA, freadQ_guardA, freadQ_slSlA, freadQ_k, fendA, fallA_one, fstillA_nil, fguardA_tt, fguardA_ff, fguardA_tf, fguardA_ft, fguardA_undef, fpickA_true, fpickA_false, fcondA_true, fcondA_false, binA_add, binA_sub, binA_mul, binA_eql, binA_neq, binA_lss, binA_leq, binA_gtr, binA_geq, unA_not, Bool.not_true, Bool.not_false, convA_int, extA_tuple, List.getElem?_toArray, List.getElem?_cons_zero, List.getElem?_cons_succ]
    by_cases hc : o = ((endOf pre + 8 : Nat) : Int) ∧ n = (r.length : Int)
    · have c2 : (((endOf pre + 8 : Nat) : Int) == o && (r.length : Int) == n) = true := by rw [hc.1, hc.2]; simp
      have hrd : readFrom (endOf pre) (r :: post) o n = some r := by simp only [readFrom]; rw [if_pos hc]
      obtain ⟨y, T, hy, gy, hT⟩ := w.rows.2 _ _ hg
      have hz : zerosL [(.int .u8 0 : Value)] 0 = [] := rfl
      simp only [c2, lenSl_slice, lenStr_string, str_size, fpureA_some, fnilA_ptr, faddA_ptr, addr_add, Nat.zero_add, Nat.add_zero, fpureQ_k, fpureQ_nilA, fpureQ_addA, fpureQ_pureA, fpureQ_guardA, fpureQ_idxSlA, fpureQ_pickA, freadQ_loadA, freadQ_loadNA, freadQ_b2sA, freadQ_guardA, freadQ_slSlA, freadQ_k, fendA, fallA_one, fstillA_nil, fguardA_tt, fguardA_ff, fguardA_tf, fguardA_ft, fguardA_undef, fpickA_true, fpickA_false, fcondA_true, fcondA_false, binA_add, binA_sub, binA_mul, binA_eql, binA_neq, binA_lss, binA_leq, binA_gtr, binA_geq, unA_not, Bool.not_true, Bool.not_false, convA_int, extA_tuple, List.getElem?_toArray, List.getElem?_cons_zero, List.getElem?_cons_succ, bslA_iff, fillA_nil, hz, ptr]
      have s2 : Step h (h.new [] 1) [] [h.next] := (Step.refl h [] (by simp)).new _ _
      have w2 := w.frame s2 (by simp) (by simp)
      have g2 : GV w0 (h.new [] 1) 1 (.slice (some ⟨h.next, 0, none⟩) 0 0) ([] : List UInt8).length (bvs []) [h.next] := GV.new f.base rfl (by decide)
      have gy2 := gy.frame s2 (by simp)
      have hB2 : w0.heap.size ≤ (h.new [] 1).next := by have := f.base; simp; omega
      generalize h.new [] 1 = h2 at s2 w2 g2 gy2 hB2 ⊢
      refine loadA_at w2.base w2.blk (by rfl) ?_
      refine w2.vc.idx (by omega) fun q1 hq1 hB1 hbq1 => ?_
      rw [Nat.mul_one]
      refine loadA_at hB1 hbq1 hy ?_
      have hrl : r.length ≤ endOf st.chunks := by
        have := endOf_append (pre ++ [r]) post
        have e : pre ++ [r] ++ post = st.chunks := by simpa using he
        rw [e, endOf_snoc] at this
        have := endOf_ge post
        omega
      refine app_bytes hB2 g2 (gy2.sl : Bs w0 h2 y r) (by simp; omega) fun x3 h3 T3 g3 s3 => ?_
      rw [List.nil_append] at g3
      have t3 : Step h h3 [] T3 := s2.trans s3
      exact hkr r x3 h3 T3 hrd g3 (fun b hb => by rcases (t3.own b hb).2 with g | g; simp at g; exact g) t3
    · have c2 : (((endOf pre + 8 : Nat) : Int) == o && (r.length : Int) == n) = false := by
        rw [Bool.eq_false_iff]
        intro q
        simp only [Bool.and_eq_true, beq_iff_eq] at q
        exact hc ⟨q.1.symm, q.2.symm⟩
      have hrd : readFrom (endOf pre) (r :: post) o n = readFrom (endOf (pre ++ [r])) post o n := by
        simp only [readFrom]
        rw [if_neg hc, endOf_snoc]
      simp only [c2, lenSl_slice, lenStr_string, str_size, fpureA_some, fnilA_ptr, faddA_ptr, addr_add, Nat.zero_add, Nat.add_zero, fpureQ_k, fpureQ_nilA, fpureQ_addA, fpureQ_pureA, fpureQ_guardA, fpureQ_idxSlA, fpureQ_pickA, freadQ_loadA, freadQ_loadNA, freadQ_b2sA, freadQ_guardA, freadQ_slSlA, freadQ_k, fendA, fallA_one, fstillA_nil, fguardA_tt, fguardA_ff, fguardA_tf, fguardA_ft, fguardA_undef, fpickA_true, fpickA_false, fcondA_true, fcondA_false, binA_add, binA_sub, binA_mul, binA_eql, binA_neq, binA_lss, binA_leq, binA_gtr, binA_geq, unA_not, Bool.not_true, Bool.not_false, convA_int, extA_tuple, List.getElem?_toArray, List.getElem?_cons_zero, List.getElem?_cons_succ, e5]
      have := ih (pre ++ [r]) (by simpa using he) (fun e => hk (by rw [hrd]; exact e)) (fun cc x h' T e => hkr cc x h' T (by rw [hrd]; exact e))
      simpa using this
theorem xRead_spec (w : Rf w0 h p st S R) (ok : st.Ok) (o n : Int) :
    ACalls prog w0 n_dedupref13_Pack_Read [ptr p, slt o n] h fun r h' => (match st.read o n with
      | some c => ∃ x T, r = .tuple #[x, .int .i64 0] ∧ GV w0 h' 1 x c.length (bvs c) T ∧ (∀ b, b ∈ T → h.next ≤ b) ∧ Step h h' [] T
      | none => r = .tuple #[.slice none 0 0, .int .i64 130] ∧ Step h h' [] []) := by
  refine ACalls.of_fit (by simp [slt, ptr]) fun f => c_dedupref13_Pack_Read (by simp [slt, ptr]) ?_
  simp only [s_dedupref13_Pack_Read, slt, boxA_agg, List.toList_toArray]
  have s1 : Step h (h.new [.int .i64 o, .int .i64 n] 2) [] [h.next] := (Step.refl h [] (by simp)).new _ _
  have hq1 : (h.new [.int .i64 o, .int .i64 n] 2).blk h.next = some [.int .i64 o, .int .i64 n] := by simp
  have hl1 : h.next < (h.new [.int .i64 o, .int .i64 n] 2).next := by simp
  generalize h.new [.int .i64 o, .int .i64 n] 2 = h1 at s1 hq1 hl1 ⊢
  have w1 := w.frame s1 (by simp) (by simp)
  refine callA_of (xSlots_spec w1 ok) fun xs h2 ⟨T, g2, s2⟩ f2 => ?_
  have w2 := w1.frame s2 (by simp) (by simp)
  obtain ⟨xc, xl, vs, B, w2', hS⟩ := w2
  have hq2 := (s2.keep _ hl1 (by simp)).1.trans hq1
  have t2 : Step h h2 [] [] := s1.drop.trans s2.drop
  obtain ⟨a, c, hx⟩ := g2.slice
  rw [slotsFrom_length] at hx g2
  subst hx
  refine ⟨st.chunks.length + 1, ?_⟩
  refine xRead_loop ok w2' f.base hq2 f2 g2.sl st.chunks [] rfl (fun e => ?_) (fun cc x h' T e g hT s => ?_)
  · have e : st.read o n = none := e
    simp only [retA_iff, oneOf_two, e]
    exact ⟨by simp, by trivial, t2⟩
  · have e : st.read o n = some cc := e
    obtain ⟨a', c', hx'⟩ := g.slice
    simp only [retA_iff, oneOf_two, e]
    refine ⟨by rw [hx']; simp, x, T, by trivial, g, fun b hb => ?_, t2.trans s⟩
    have := hT b hb
    have := t2.next
    omega
/-- A second one that shares what is only read. -/
theorem xFork_spec (w : Rf w0 h p st S R) (o : st.Ok) : ACalls prog w0 n_dedupref13_Pack_Fork [ptr p] h fun r h' => ∃ q S' R', r = ptr q ∧ Rf w0 h' q st S' R' ∧ (∀ b, b ∈ S' → h.next ≤ b) ∧ (∀ b, b ∈ R' → b ∈ R ∨ h.next ≤ b) ∧ Step h h' [] S' := by
  refine ACalls.of_fit (by simp [ptr]) fun f => c_dedupref13_Pack_Fork (by simp [ptr]) ?_
  have w' := w
  obtain ⟨xc, xl, vs, B, w, hS⟩ := w
  have hby := o.bytes
  have hr := o.room
  have hcl := chunks_le (cs := st.chunks)
  simp only [s_dedupref13_Pack_Fork, ptr, lenSl_slice, lenStr_string, str_size, fpureA_some, fnilA_ptr, faddA_ptr, addr_add, Nat.zero_add, Nat.add_zero, fpureQ_k, fpureQ_nilA, fpureQ_addA, fpureQ_pureA, fpureQ_guardA, fpureQ_idxSlA, fpureQ_pickA, freadQ_loadA, freadQ_loadNA, freadQ_b2sA, freadQ_guardA, freadQ_slSlA, freadQ_k, fendA, fallA_one, fstillA_nil, fguardA_tt, fguardA_ff, fguardA_tf, fguardA_ft, fguardA_undef, fpickA_true, fpickA_false, fcondA_true, fcondA_false, binA_add, binA_sub, binA_mul, binA_eql, binA_neq, binA_lss, binA_leq, binA_gtr, binA_geq, unA_not, Bool.not_true, Bool.not_false, convA_int, extA_tuple, List.getElem?_toArray, List.getElem?_cons_zero, List.getElem?_cons_succ]
  refine loadNA_whole w.base w.blk (by rfl) ?_
  refine box_new f.base rfl rfl (by simp) ?_
  have hqB := f.base
  have s2 : Step h (h.new (rfC st xc xl) 8) [] [h.next] := (Step.refl h [] (by simp)).new _ _
  have hb2 : (h.new (rfC st xc xl) 8).blk h.next = some (rfC st xc xl) := by simp
  have hn2 : h.next < (h.new (rfC st xc xl) 8).next := by simp
  have w2 := w.frame s2 (by simp) (by simp)
  generalize h.new (rfC st xc xl) 8 = h2 at s2 hb2 hn2 w2 ⊢
  have hz : zerosL [(.slice none 0 0 : Value)] 0 = [] := rfl
  simp only [lenSl_slice, lenStr_string, str_size, fpureA_some, fnilA_ptr, faddA_ptr, addr_add, Nat.zero_add, Nat.add_zero, fpureQ_k, fpureQ_nilA, fpureQ_addA, fpureQ_pureA, fpureQ_guardA, fpureQ_idxSlA, fpureQ_pickA, freadQ_loadA, freadQ_loadNA, freadQ_b2sA, freadQ_guardA, freadQ_slSlA, freadQ_k, fendA, fallA_one, fstillA_nil, fguardA_tt, fguardA_ff, fguardA_tf, fguardA_ft, fguardA_undef, fpickA_true, fpickA_false, fcondA_true, fcondA_false, binA_add, binA_sub, binA_mul, binA_eql, binA_neq, binA_lss, binA_leq, binA_gtr, binA_geq, unA_not, Bool.not_true, Bool.not_false, convA_int, extA_tuple, List.getElem?_toArray, List.getElem?_cons_zero, List.getElem?_cons_succ, bslA_iff, fillA_nil, hz]
  have hB2 : w0.heap.size ≤ h2.next := by omega
  have s3 : Step h2 (h2.new [] 1) [] [h2.next] := (Step.refl h2 [] (by simp)).new _ _
  have g3 : GV w0 (h2.new [] 1) 1 (.slice (some ⟨h2.next, 0, none⟩) 0 0) 0 [] [h2.next] := GV.new hB2 rfl (by decide)
  have w3 := w2.frame s3 (by simp) (by simp)
  have hB3 : w0.heap.size ≤ (h2.new [] 1).next := by simp; omega
  generalize h2.new [] 1 = h3 at s3 g3 w3 hB3 ⊢
  refine loadA_at w3.base w3.blk (by rfl) ?_
  obtain ⟨ac, cc, hxc⟩ := w3.vc.slice
  have hvl := w.rows.1
  refine appA_gv (m := st.chunks.length) hB3 g3 (by rw [hxc]; rfl) w3.vc.src (by rw [hvl, Nat.mul_one]) (by omega) (by omega) (by omega) fun x4 h4 B' vc4 s4 => ?_
  rw [List.nil_append, Nat.zero_add] at vc4
  have t24 : Step h2 h4 [] B' := s3.trans s4
  have hB' : ∀ b, b ∈ B' → h2.next ≤ b := fun b hb => by rcases (t24.own b hb).2 with g | g; simp at g; exact g
  have hb4 := (t24.keep _ hn2 (by simp)).1.trans hb2
  have hn4 : h.next < h4.next := by have := t24.next; omega
  have w4 := w2.frame t24 (by simp) (by simp)
  obtain ⟨a4, c4, hx4⟩ := vc4.slice
  refine storeA_at hqB hb4 (by simp [rfC]) (by rw [hx4]; rfl) ?_
  have hqB' : h.next ∉ B' := fun e => by have := hB' _ e; omega
  have s5 : Step h4 (h4.put h.next ((rfC st xc xl).set 3 x4)) [h.next] [h.next] := (Step.refl h4 [h.next] (by simpa using hn4)).put (by simp) _
  have hb5 : (h4.put h.next ((rfC st xc xl).set 3 x4)).blk h.next = some (rfC st x4 xl) := by simp [rfC]
  have hn5 : h.next < (h4.put h.next ((rfC st xc xl).set 3 x4)).next := by simpa using hn4
  have hlt : ∀ b, b ∈ p :: B → b < h.next := fun b hb => (w'.lts b (by rw [hS]; exact hb)).2
  have dq : ∀ {T : List Nat}, h.next ∉ T → ∀ b, b ∈ T → b ∉ [h.next] := fun hT b hb he => by simp at he; subst he; exact hT hb
  have hqR : h.next ∉ R := fun e => by have := (w.rlt _ e).2; omega
  have w5 := w4.frame s5 (dq fun e => by have := hlt _ e; omega) (dq hqR)
  have vc5 := vc4.frame s5 (dq hqB')
  have t5 : Step h (h4.put h.next ((rfC st xc xl).set 3 x4)) [] (h.next :: B') := (s2.trans (t24.wide (T := [h.next]) (T' := h.next :: B') (by simp) fun b hb => by
    rcases List.mem_cons.1 hb with rfl | hb
    · exact .inr ⟨by simp, hn2⟩
    · exact .inl hb)).put (by simp) _
  generalize h4.put h.next ((rfC st xc xl).set 3 x4) = h5 at s5 hb5 hn5 w5 vc5 t5 ⊢
  have hB5 : w0.heap.size ≤ h5.next := by omega
  refine loadA_at w5.base w5.blk (by rfl) ?_
  -- what was taken
  have fin : ∀ (x6 : Value) (h6 : Hp) (T6 : List Nat), LastR w0 h6 x6 st.last (R ++ T6) → isCell x6 = true → (∀ b, b ∈ T6 → w0.heap.size ≤ b ∧ b < h6.next) → Step h5 h6 [] T6 →
      storeA w0 (.pointer (some ⟨h.next, 5, none⟩)) x6 (fun _ => retA [.pointer (some ⟨h.next, 0, none⟩)] fun r h' => ∃ q S' R', r = ptr q ∧ Rf w0 h' q st S' R' ∧ (∀ b, b ∈ S' → h.next ≤ b) ∧ (∀ b, b ∈ R' → b ∈ R ∨ h.next ≤ b) ∧ Step h h' [] S') h6 := by
    intro x6 h6 T6 vl6 hc6 hT6 s6
    have hT6n : ∀ b, b ∈ T6 → h5.next ≤ b := fun b hb => by rcases (s6.own b hb).2 with g | g; simp at g; exact g
    have hb6 := (s6.keep _ hn5 (by simp)).1.trans hb5
    have hn6 : h.next < h6.next := by have := s6.next; omega
    refine storeA_at hqB hb6 (by simp [rfC]) hc6 ?_
    have s7 : Step h6 (h6.put h.next ((rfC st x4 xl).set 5 x6)) [h.next] [h.next] := (Step.refl h6 [h.next] (by simpa using hn6)).put (by simp) _
    have hq6 : h.next ∉ T6 := fun e => by have := hT6n _ e; omega
    have hqRT : h.next ∉ R ++ T6 := fun e => by
      rcases List.mem_append.1 e with g | g
      · exact hqR g
      · exact hq6 g
    have vc7 := (vc5.frame s6 (by simp)).frame s7 (dq hqB')
    have hB'5 : ∀ b, b ∈ B' → b < h5.next := fun b hb => (vc5.lt b hb).2
    simp only [retA_iff, oneOf_one]
    refine ⟨by simp, h.next, h.next :: B', R ++ T6, rfl, ⟨x4, x6, vs, B', ⟨by simp [rfC], hqB, by simpa using hn6, vc7, ((w5.rows.frame s6 (by simp)).frame s7 (dq hqR)).more (fun b hb => by simp [hb]), vl6.frame s7 (dq hqRT), hqB', hqRT, fun b hb he => ?_, fun b hb => ?_⟩, rfl⟩, fun b hb => ?_, fun b hb => ?_, ?_⟩
    · rcases List.mem_append.1 he with g | g
      · have := hB' b hb; have := (w.rlt b g).2; omega
      · have := hT6n b g; have := hB'5 b hb; omega
    · have hnn : h6.next = (h6.put h.next ((rfC st x4 xl).set 5 x6)).next := by simp
      rcases List.mem_append.1 hb with g | g
      · have := w.rlt b g; exact ⟨this.1, by omega⟩
      · have := hT6 b g; exact ⟨this.1, by omega⟩
    · rcases List.mem_cons.1 hb with rfl | hb
      · exact Nat.le_refl _
      · have := hB' b hb; omega
    · rcases List.mem_append.1 hb with g | g
      · exact .inl g
      · have := hT6n b g; right; omega
    · exact (t5.trans (s6.idle (h.next :: B') fun b hb => by
        rcases List.mem_cons.1 hb with rfl | hb
        · exact hn5
        · exact hB'5 b hb)).put (by simp) _
  have hvl := w5.vl
  cases hla : st.last with
  | none =>
    rw [hla] at hvl
    have hvl : xl = .slice none 0 0 := hvl
    rw [hvl]
    refine ⟨0, rfl, fun _ => ⟨⟨_, _, _, rfl⟩, ?_⟩, fun h0 => by omega⟩
    have := fin (.slice none 0 0) h5 [] (by rw [hla]; rfl) rfl (by simp) (.refl _ _ (by simp))
    exact this
  | some t =>
    rw [hla] at hvl
    obtain ⟨T, gt, hT⟩ := hvl
    have htl := o.last t hla
    obtain ⟨at', ct, hxt⟩ := gt.slice
    refine app_bytes (l := []) hB5 (S := []) (.inl .nil) (gt.sl : Bs w0 h5 xl t) (by simp; omega) fun x6 h6 T6 g6 s6 => ?_
    rw [List.nil_append] at g6
    obtain ⟨a6, c6, hx6⟩ := g6.slice
    have := fin x6 h6 T6 (by rw [hla]; exact ⟨T6, g6, fun b hb => by simp [hb]⟩) (by rw [hx6]; rfl) g6.lt s6
    exact this
end
end Go.Proofs.Ytfhamcobfpmgbaa.Ah
