/- dedupref13.Pack: Take; deduplaw13.sectors. -/
import Derived.Test.YtfhamcobfpmgbaaPt
set_option linter.unusedVariables false
set_option linter.unusedSimpArgs false
namespace Go.Proofs.Ytfhamcobfpmgbaa.Ah
open Go

section
variable {w0 : World} {h : Hp} {p : Nat} {st : PS} {S R : List Nat}
theorem xTake_loop {k0 : Value → Value → Value → Hp → Prop} {xc xl xb : Value} {vs : List Value} {B Tb : List Nat} (o : st.Ok) : ∀ (m k : Nat) (h : Hp) (x : Value) (acc : List (Nat × List UInt8)) (S : List Nat), k + m = st.count → Fit w0 h ∨ True → Rf1 w0 h p st xc xl vs B R → GV w0 h 1 xb st.image.length (bvs st.image) Tb → (∀ b, b ∈ S → b ∉ p :: B) → (∀ b, b ∈ S → b ∉ R) → (∀ b, b ∈ S → b ∉ Tb) → TV w0 h x acc S → acc.length ≤ k →
    (∀ h' x' S', Rf1 w0 h' p st xc xl vs B R → GV w0 h' 1 xb st.image.length (bvs st.image) Tb → (∀ b, b ∈ S' → b ∉ Tb) → TV w0 h' x' (acc ++ st.secs k m) S' → Step h h' S S' → k0 (ptr p) xb x' h') →
    dedupref13_Pack_Take_L1 prog w0 k0 (m + 1) (ptr p) xb x (.int .i64 (k : Int)) h := by
  intro m
  induction m with
  | zero =>
    intro k h x acc S hk _ w gb hd hdr hdb q hac hk0
    have : k = st.count := by omega
    subst this
    rw [dedupref13_Pack_Take_L1]
    simp only [dedupref13_Pack_Take_B1, ptr, lenSl_slice, lenStr_string, str_size, fpureA_some, fnilA_ptr, faddA_ptr, addr_add, Nat.zero_add, Nat.add_zero, fpureQ_k, fpureQ_nilA, fpureQ_addA, fpureQ_pureA, fpureQ_guardA, fpureQ_idxSlA, fpureQ_pickA, freadQ_loadA, freadQ_loadNA, freadQ_b2sA, freadQ_guardA, freadQ_slSlA, freadQ_k, fendA, fallA_one, fstillA_nil, fguardA_tt, fguardA_ff, fguardA_tf, fguardA_ft, fguardA_undef, fpickA_true, fpickA_false, fcondA_true, fcondA_false, binA_add, binA_sub, binA_mul, binA_eql, binA_neq, binA_lss, binA_leq, binA_gtr, binA_geq, unA_not, Bool.not_true, Bool.not_false, convA_int, extA_tuple, List.getElem?_toArray, List.getElem?_cons_zero, List.getElem?_cons_succ]
    refine loadA_at w.base w.blk (by rfl) ?_
    simp only [lenSl_slice, lenStr_string, str_size, fpureA_some, fnilA_ptr, faddA_ptr, addr_add, Nat.zero_add, Nat.add_zero, fpureQ_k, fpureQ_nilA, fpureQ_addA, fpureQ_pureA, fpureQ_guardA, fpureQ_idxSlA, fpureQ_pickA, freadQ_loadA, freadQ_loadNA, freadQ_b2sA, freadQ_guardA, freadQ_slSlA, freadQ_k, fendA, fallA_one, fstillA_nil, fguardA_tt, fguardA_ff, fguardA_tf, fguardA_ft, fguardA_undef, fpickA_true, fpickA_false, fcondA_true, fcondA_false, binA_add, binA_sub, binA_mul, binA_eql, binA_neq, binA_lss, binA_leq, binA_gtr, binA_geq, unA_not, Bool.not_true, Bool.not_false, convA_int, extA_tuple, List.getElem?_toArray, List.getElem?_cons_zero, List.getElem?_cons_succ, Int.lt_irrefl, decide_false]
    exact hk0 h x S w gb hdb (by simpa [PS.secs] using q) q.refl
  | succ m ih =>
    intro k h x acc S hk _ w gb hd hdr hdb q hac hk0
    have hsz := o.size
    have hct := o.count
    obtain ⟨r1, r2, r3⟩ := sec_range o (show k < st.count by omega)
    have hi := o.image
    have c1 : decide ((k : Int) < (st.count : Int)) = true := decide_eq_true (by omega)
    have e1 : IntKind.i64.wrap ((k : Int) * (st.size : Int)) = ((k * st.size : Nat) : Int) := by rw [← Int.natCast_mul, IntWalk.i64_in _ (by omega)]
    have e2 : IntKind.i64.wrap ((k : Int) + 1) = ((k + 1 : Nat) : Int) := by rw [IntWalk.i64_in _ (by omega)]; simp
    have e3 : IntKind.i64.wrap (((k + 1 : Nat) : Int) * (st.size : Int)) = ((k * st.size + st.size : Nat) : Int) := by rw [← Int.natCast_mul, r3, IntWalk.i64_in _ (by omega)]
    have hkslt : k < st.count := by omega
    have hsl := secAt_length o hkslt hi
    rw [dedupref13_Pack_Take_L1]
    simp only [dedupref13_Pack_Take_B1, ptr, lenSl_slice, lenStr_string, str_size, fpureA_some, fnilA_ptr, faddA_ptr, addr_add, Nat.zero_add, Nat.add_zero, fpureQ_k, fpureQ_nilA, fpureQ_addA, fpureQ_pureA, fpureQ_guardA, fpureQ_idxSlA, fpureQ_pickA, freadQ_loadA, freadQ_loadNA, freadQ_b2sA, freadQ_guardA, freadQ_slSlA, freadQ_k, fendA, fallA_one, fstillA_nil, fguardA_tt, fguardA_ff, fguardA_tf, fguardA_ft, fguardA_undef, fpickA_true, fpickA_false, fcondA_true, fcondA_false, binA_add, binA_sub, binA_mul, binA_eql, binA_neq, binA_lss, binA_leq, binA_gtr, binA_geq, unA_not, Bool.not_true, Bool.not_false, convA_int, extA_tuple, List.getElem?_toArray, List.getElem?_cons_zero, List.getElem?_cons_succ]
    refine loadA_at w.base w.blk (by rfl) ?_
    simp only [lenSl_slice, lenStr_string, str_size, fpureA_some, fnilA_ptr, faddA_ptr, addr_add, Nat.zero_add, Nat.add_zero, fpureQ_k, fpureQ_nilA, fpureQ_addA, fpureQ_pureA, fpureQ_guardA, fpureQ_idxSlA, fpureQ_pickA, freadQ_loadA, freadQ_loadNA, freadQ_b2sA, freadQ_guardA, freadQ_slSlA, freadQ_k, fendA, fallA_one, fstillA_nil, fguardA_tt, fguardA_ff, fguardA_tf, fguardA_ft, fguardA_undef, fpickA_true, fpickA_false, fcondA_true, fcondA_false, binA_add, binA_sub, binA_mul, binA_eql, binA_neq, binA_lss, binA_leq, binA_gtr, binA_geq, unA_not, Bool.not_true, Bool.not_false, convA_int, extA_tuple, List.getElem?_toArray, List.getElem?_cons_zero, List.getElem?_cons_succ, c1]
    refine loadA_at w.base w.blk (by rfl) ?_
    simp only [lenSl_slice, lenStr_string, str_size, fpureA_some, fnilA_ptr, faddA_ptr, addr_add, Nat.zero_add, Nat.add_zero, fpureQ_k, fpureQ_nilA, fpureQ_addA, fpureQ_pureA, fpureQ_guardA, fpureQ_idxSlA, fpureQ_pickA, freadQ_loadA, freadQ_loadNA, freadQ_b2sA, freadQ_guardA, freadQ_slSlA, freadQ_k, fendA, fallA_one, fstillA_nil, fguardA_tt, fguardA_ff, fguardA_tf, fguardA_ft, fguardA_undef, fpickA_true, fpickA_false, fcondA_true, fcondA_false, binA_add, binA_sub, binA_mul, binA_eql, binA_neq, binA_lss, binA_leq, binA_gtr, binA_geq, unA_not, Bool.not_true, Bool.not_false, convA_int, extA_tuple, List.getElem?_toArray, List.getElem?_cons_zero, List.getElem?_cons_succ, e1, e2]
    refine loadA_at w.base w.blk (by rfl) ?_
    simp only [lenSl_slice, lenStr_string, str_size, fpureA_some, fnilA_ptr, faddA_ptr, addr_add, Nat.zero_add, Nat.add_zero, fpureQ_k, fpureQ_nilA, fpureQ_addA, fpureQ_pureA, fpureQ_guardA, fpureQ_idxSlA, fpureQ_pickA, freadQ_loadA, freadQ_loadNA, freadQ_b2sA, freadQ_guardA, freadQ_slSlA, freadQ_k, fendA, fallA_one, fstillA_nil, fguardA_tt, fguardA_ff, fguardA_tf, fguardA_ft, fguardA_undef, fpickA_true, fpickA_false, fcondA_true, fcondA_false, binA_add, binA_sub, binA_mul, binA_eql, binA_neq, binA_lss, binA_leq, binA_gtr, binA_geq, unA_not, Bool.not_true, Bool.not_false, convA_int, extA_tuple, List.getElem?_toArray, List.getElem?_cons_zero, List.getElem?_cons_succ, e3]
    refine Bs.cut (gb.sl : Bs w0 h xb st.image) boundA_nat boundA_nat (by omega) (by omega) fun x2 hx2 hb2 y2 => ?_
    rw [cut_eq] at y2
    have y2 : Bs w0 h x2 (secAt st.size st.image k) := y2
    have y2g : ∀ {h' : Hp}, GV w0 h' 1 xb st.image.length (bvs st.image) Tb → Bs w0 h' x2 (secAt st.size st.image k) := fun g => by
      have := Bs.cut_sl (g.sl : Bs w0 _ xb st.image) (lo := k * st.size) (hi := k * st.size + st.size) (by omega) (by omega)
      rw [← hx2, cut_eq] at this
      exact this
    refine loadA_at w.base w.blk (by rfl) ?_
    have hplt : ∀ b, b ∈ p :: B → b < h.next := fun b hb => by
      rcases List.mem_cons.1 hb with rfl | hb
      · exact w.lt
      · exact (w.vc.lt b hb).2
    have yes : st.parted k = true → bslA [] (zerosL [.int .u8 0] 0) 0 1 (fun v63 => appA w0 1 1 v63 x2 fun v65 => buildA [(0, 1, false, (.int .i64 (k : Int))), (1, 1, false, v65)] [(.int .i64 0), (.slice none 0 0)] fun v66 =>
        bslA [(0, 2, true, v66)] (zerosL [(.int .i64 0), (.slice none 0 0)] 1) 1 2 fun v67 => appA w0 2 32 x v67 fun v68 =>
        dedupref13_Pack_Take_L1 prog w0 k0 (m + 1) (.pointer (some ⟨p, 0, none⟩)) xb v68 (.int .i64 ((k + 1 : Nat) : Int))) h := by
      intro hp
      have hB : w0.heap.size ≤ h.next := by have := w.base; have := w.lt; omega
      have hz : zerosL [(.int .u8 0 : Value)] 0 = [] := rfl
      simp only [bslA_iff, fillA_nil, hz]
      have s1 : Step h (h.new [] 1) [] [h.next] := (Step.refl h [] (by simp)).new _ _
      have g1 : GV w0 (h.new [] 1) 1 (.slice (some ⟨h.next, 0, none⟩) 0 0) ([] : List UInt8).length (bvs []) [h.next] := GV.new hB rfl (by decide)
      have hB1 : w0.heap.size ≤ (h.new [] 1).next := by simp; omega
      generalize h.new [] 1 = h1 at s1 g1 hB1 ⊢
      refine app_bytes hB1 g1 (y2g (gb.frame s1 (by simp))) (by simp; omega) fun x3 h3 T g s3 => ?_
      rw [List.nil_append] at g
      have s13 : Step h h3 [] T := s1.trans s3
      obtain ⟨a, c, hv⟩ := g.slice
      simp only [buildA_iff, fillA_one, fillA_nil, isCell_int, true_and, List.set_cons_zero, List.set_cons_succ, List.length_cons, List.length_nil]
      refine ⟨by omega, by rw [hv]; rfl, by omega, ?_⟩
      have hT : ∀ b, b ∈ T → h.next ≤ b := fun b hb => by rcases (s13.own b hb).2 with g | g; simp at g; exact g
      refine app_tv (by have := s13.next; omega) (q.frame s13 (by simp)) g (fun b hb he => by have := hT b hb; have := (q.lt b he).2; omega) (by omega) fun x4 h4 S4 q4 s4 => ?_
      have s14 : Step h h4 S S4 := (s13.wide (T := S) (T' := S ++ T) (by simp) fun b hb => by
        rcases List.mem_append.1 hb with e | e
        · exact .inr ⟨e, (q.lt b e).2⟩
        · exact .inl e).trans s4
      have w4 := w.frame s14 (fun b hb he => hd b he hb) (fun b hb he => hdr b he hb)
      have gb4 := gb.frame s14 (fun b hb he => hdb b he hb)
      have hdb4 : ∀ b, b ∈ S4 → b ∉ Tb := fun b hb he => by
        rcases (s14.own b hb).2 with g | g
        · exact hdb b g he
        · have := (gb.lt b he).2; omega
      have := ih (k + 1) h4 x4 (acc ++ [(k, secAt st.size st.image k)]) S4 (by omega) (.inr trivial) w4 gb4 (fun b hb he => by
        rcases (s14.own b hb).2 with g | g
        · exact hd b g he
        · have := hplt b he; omega) (fun b hb he => by
        rcases (s14.own b hb).2 with g | g
        · exact hdr b g he
        · have := (w.rlt b he).2; omega) hdb4 q4 (by simp; omega) (fun h5 x5 S5 w5 gb5 hdb5 q5 s5 => hk0 h5 x5 S5 w5 gb5 hdb5 (by simp only [PS.secs, hp, if_true]; simpa using q5) (s14.trans s5))
      simpa only [ptr] using this
    have no : st.parted k = false → dedupref13_Pack_Take_L1 prog w0 k0 (m + 1) (.pointer (some ⟨p, 0, none⟩)) xb x (.int .i64 ((k + 1 : Nat) : Int)) h := by
      intro hp
      have := ih (k + 1) h x acc S (by omega) (.inr trivial) w gb hd hdr hdb q (by omega) (fun h4 x4 S4 w4 gb4 hdb4 q4 s4 => hk0 h4 x4 S4 w4 gb4 hdb4 (by simp only [PS.secs, hp, Bool.false_eq_true, if_false, List.nil_append]; exact q4) s4)
      simpa only [ptr] using this
    have hvl := w.vl
    cases hla : st.last with
    | none =>
      rw [hla] at hvl
      have hxl : xl = .slice none 0 0 := hvl
      have hp : st.parted k = true := by simp [PS.parted, hla]
      simp only [hxl, binSl_nil0, lenSl_slice, lenStr_string, str_size, fpureA_some, fnilA_ptr, faddA_ptr, addr_add, Nat.zero_add, Nat.add_zero, fpureQ_k, fpureQ_nilA, fpureQ_addA, fpureQ_pureA, fpureQ_guardA, fpureQ_idxSlA, fpureQ_pickA, freadQ_loadA, freadQ_loadNA, freadQ_b2sA, freadQ_guardA, freadQ_slSlA, freadQ_k, fendA, fallA_one, fstillA_nil, fguardA_tt, fguardA_ff, fguardA_tf, fguardA_ft, fguardA_undef, fpickA_true, fpickA_false, fcondA_true, fcondA_false, binA_add, binA_sub, binA_mul, binA_eql, binA_neq, binA_lss, binA_leq, binA_gtr, binA_geq, unA_not, Bool.not_true, Bool.not_false, convA_int, extA_tuple, List.getElem?_toArray, List.getElem?_cons_zero, List.getElem?_cons_succ, e2]
      have := yes hp
      simpa only [lenSl_slice, lenStr_string, str_size, fpureA_some, fnilA_ptr, faddA_ptr, addr_add, Nat.zero_add, Nat.add_zero, fpureQ_k, fpureQ_nilA, fpureQ_addA, fpureQ_pureA, fpureQ_guardA, fpureQ_idxSlA, fpureQ_pickA, freadQ_loadA, freadQ_loadNA, freadQ_b2sA, freadQ_guardA, freadQ_slSlA, freadQ_k, fendA, fallA_one, fstillA_nil, fguardA_tt, fguardA_ff, fguardA_tf, fguardA_ft, fguardA_undef, fpickA_true, fpickA_false, fcondA_true, fcondA_false, binA_add, binA_sub, binA_mul, binA_eql, binA_neq, binA_lss, binA_leq, binA_gtr, binA_geq, unA_not, Bool.not_true, Bool.not_false, convA_int, extA_tuple, List.getElem?_toArray, List.getElem?_cons_zero, List.getElem?_cons_succ] using this
    | some t =>
      rw [hla] at hvl
      obtain ⟨T0, gt, hT0⟩ := hvl
      have htl := o.last t hla
      have hnn : binSlA .eql xl (.slice none 0 0) = some (.bool false) := by
        obtain ⟨a, c, hx⟩ := gt.slice
        cases a with
        | none =>
          have := gt.src
          rw [hx] at this
          rcases this.2 with ⟨h0, -⟩ | ⟨-, ad, e, -⟩
          · omega
          · simp at e
        | some ad => rw [hx]; rfl
      simp only [hnn, lenSl_slice, lenStr_string, str_size, fpureA_some, fnilA_ptr, faddA_ptr, addr_add, Nat.zero_add, Nat.add_zero, fpureQ_k, fpureQ_nilA, fpureQ_addA, fpureQ_pureA, fpureQ_guardA, fpureQ_idxSlA, fpureQ_pickA, freadQ_loadA, freadQ_loadNA, freadQ_b2sA, freadQ_guardA, freadQ_slSlA, freadQ_k, fendA, fallA_one, fstillA_nil, fguardA_tt, fguardA_ff, fguardA_tf, fguardA_ft, fguardA_undef, fpickA_true, fpickA_false, fcondA_true, fcondA_false, binA_add, binA_sub, binA_mul, binA_eql, binA_neq, binA_lss, binA_leq, binA_gtr, binA_geq, unA_not, Bool.not_true, Bool.not_false, convA_int, extA_tuple, List.getElem?_toArray, List.getElem?_cons_zero, List.getElem?_cons_succ]
      refine y2.b2s ?_
      refine loadA_at w.base w.blk (by rfl) ?_
      refine loadA_at w.base w.blk (by rfl) ?_
      simp only [lenSl_slice, lenStr_string, str_size, fpureA_some, fnilA_ptr, faddA_ptr, addr_add, Nat.zero_add, Nat.add_zero, fpureQ_k, fpureQ_nilA, fpureQ_addA, fpureQ_pureA, fpureQ_guardA, fpureQ_idxSlA, fpureQ_pickA, freadQ_loadA, freadQ_loadNA, freadQ_b2sA, freadQ_guardA, freadQ_slSlA, freadQ_k, fendA, fallA_one, fstillA_nil, fguardA_tt, fguardA_ff, fguardA_tf, fguardA_ft, fguardA_undef, fpickA_true, fpickA_false, fcondA_true, fcondA_false, binA_add, binA_sub, binA_mul, binA_eql, binA_neq, binA_lss, binA_leq, binA_gtr, binA_geq, unA_not, Bool.not_true, Bool.not_false, convA_int, extA_tuple, List.getElem?_toArray, List.getElem?_cons_zero, List.getElem?_cons_succ, e1, e2]
      refine loadA_at w.base w.blk (by rfl) ?_
      simp only [lenSl_slice, lenStr_string, str_size, fpureA_some, fnilA_ptr, faddA_ptr, addr_add, Nat.zero_add, Nat.add_zero, fpureQ_k, fpureQ_nilA, fpureQ_addA, fpureQ_pureA, fpureQ_guardA, fpureQ_idxSlA, fpureQ_pickA, freadQ_loadA, freadQ_loadNA, freadQ_b2sA, freadQ_guardA, freadQ_slSlA, freadQ_k, fendA, fallA_one, fstillA_nil, fguardA_tt, fguardA_ff, fguardA_tf, fguardA_ft, fguardA_undef, fpickA_true, fpickA_false, fcondA_true, fcondA_false, binA_add, binA_sub, binA_mul, binA_eql, binA_neq, binA_lss, binA_leq, binA_gtr, binA_geq, unA_not, Bool.not_true, Bool.not_false, convA_int, extA_tuple, List.getElem?_toArray, List.getElem?_cons_zero, List.getElem?_cons_succ, e3]
      refine Bs.cut (gt.sl : Bs w0 h xl t) boundA_nat boundA_nat (by omega) (by omega) fun x3 _ _ y3 => ?_
      rw [cut_eq] at y3
      have y3 : Bs w0 h x3 (secAt st.size t k) := y3
      refine y3.b2s ?_
      have hpt : st.parted k = !decide (secAt st.size st.image k = secAt st.size t k) := by simp [PS.parted, hla]
      simp only [binA_strneq, str_inj, lenSl_slice, lenStr_string, str_size, fpureA_some, fnilA_ptr, faddA_ptr, addr_add, Nat.zero_add, Nat.add_zero, fpureQ_k, fpureQ_nilA, fpureQ_addA, fpureQ_pureA, fpureQ_guardA, fpureQ_idxSlA, fpureQ_pickA, freadQ_loadA, freadQ_loadNA, freadQ_b2sA, freadQ_guardA, freadQ_slSlA, freadQ_k, fendA, fallA_one, fstillA_nil, fguardA_tt, fguardA_ff, fguardA_tf, fguardA_ft, fguardA_undef, fpickA_true, fpickA_false, fcondA_true, fcondA_false, binA_add, binA_sub, binA_mul, binA_eql, binA_neq, binA_lss, binA_leq, binA_gtr, binA_geq, unA_not, Bool.not_true, Bool.not_false, convA_int, extA_tuple, List.getElem?_toArray, List.getElem?_cons_zero, List.getElem?_cons_succ]
      rw [← hpt]
      cases hp : st.parted k with
      | true =>
        simp only [lenSl_slice, lenStr_string, str_size, fpureA_some, fnilA_ptr, faddA_ptr, addr_add, Nat.zero_add, Nat.add_zero, fpureQ_k, fpureQ_nilA, fpureQ_addA, fpureQ_pureA, fpureQ_guardA, fpureQ_idxSlA, fpureQ_pickA, freadQ_loadA, freadQ_loadNA, freadQ_b2sA, freadQ_guardA, freadQ_slSlA, freadQ_k, fendA, fallA_one, fstillA_nil, fguardA_tt, fguardA_ff, fguardA_tf, fguardA_ft, fguardA_undef, fpickA_true, fpickA_false, fcondA_true, fcondA_false, binA_add, binA_sub, binA_mul, binA_eql, binA_neq, binA_lss, binA_leq, binA_gtr, binA_geq, unA_not, Bool.not_true, Bool.not_false, convA_int, extA_tuple, List.getElem?_toArray, List.getElem?_cons_zero, List.getElem?_cons_succ, e2]
        have := yes hp
        simpa only [lenSl_slice, lenStr_string, str_size, fpureA_some, fnilA_ptr, faddA_ptr, addr_add, Nat.zero_add, Nat.add_zero, fpureQ_k, fpureQ_nilA, fpureQ_addA, fpureQ_pureA, fpureQ_guardA, fpureQ_idxSlA, fpureQ_pickA, freadQ_loadA, freadQ_loadNA, freadQ_b2sA, freadQ_guardA, freadQ_slSlA, freadQ_k, fendA, fallA_one, fstillA_nil, fguardA_tt, fguardA_ff, fguardA_tf, fguardA_ft, fguardA_undef, fpickA_true, fpickA_false, fcondA_true, fcondA_false, binA_add, binA_sub, binA_mul, binA_eql, binA_neq, binA_lss, binA_leq, binA_gtr, binA_geq, unA_not, Bool.not_true, Bool.not_false, convA_int, extA_tuple, List.getElem?_toArray, List.getElem?_cons_zero, List.getElem?_cons_succ] using this
      | false =>
        simp only [lenSl_slice, lenStr_string, str_size, fpureA_some, fnilA_ptr, faddA_ptr, addr_add, Nat.zero_add, Nat.add_zero, fpureQ_k, fpureQ_nilA, fpureQ_addA, fpureQ_pureA, fpureQ_guardA, fpureQ_idxSlA, fpureQ_pickA, freadQ_loadA, freadQ_loadNA, freadQ_b2sA, freadQ_guardA, freadQ_slSlA, freadQ_k, fendA, fallA_one, fstillA_nil, fguardA_tt, fguardA_ff, fguardA_tf, fguardA_ft, fguardA_undef, fpickA_true, fpickA_false, fcondA_true, fcondA_false, binA_add, binA_sub, binA_mul, binA_eql, binA_neq, binA_lss, binA_leq, binA_gtr, binA_geq, unA_not, Bool.not_true, Bool.not_false, convA_int, extA_tuple, List.getElem?_toArray, List.getElem?_cons_zero, List.getElem?_cons_succ, e2]
        have := no hp
        simpa only [lenSl_slice, lenStr_string, str_size, fpureA_some, fnilA_ptr, faddA_ptr, addr_add, Nat.zero_add, Nat.add_zero, fpureQ_k, fpureQ_nilA, fpureQ_addA, fpureQ_pureA, fpureQ_guardA, fpureQ_idxSlA, fpureQ_pickA, freadQ_loadA, freadQ_loadNA, freadQ_b2sA, freadQ_guardA, freadQ_slSlA, freadQ_k, fendA, fallA_one, fstillA_nil, fguardA_tt, fguardA_ff, fguardA_tf, fguardA_ft, fguardA_undef, fpickA_true, fpickA_false, fcondA_true, fcondA_false, binA_add, binA_sub, binA_mul, binA_eql, binA_neq, binA_lss, binA_leq, binA_gtr, binA_geq, unA_not, Bool.not_true, Bool.not_false, convA_int, extA_tuple, List.getElem?_toArray, List.getElem?_cons_zero, List.getElem?_cons_succ] using this
theorem xTake_spec (w : Rf w0 h p st S R) (o : st.Ok) :
    ACalls prog w0 n_dedupref13_Pack_Take [ptr p] h fun r h' => ∃ SO R', Rf w0 h' p st.take S R' ∧ TV w0 h' r (st.secs 0 st.count) SO ∧ (∀ b, b ∈ SO → h.next ≤ b) ∧ (∀ b, b ∈ SO → b ∉ R') ∧ (∀ b, b ∈ R' → b ∈ R ∨ h.next ≤ b) ∧ Step h h' S (SO ++ S) := by
  refine ACalls.of_fit (by simp [ptr]) fun f => c_dedupref13_Pack_Take (by simp [ptr]) ?_
  refine callA_of (xImage_spec w o) fun xb h1 ⟨Tb, gb, s1⟩ f1 => ?_
  have hTb : ∀ b, b ∈ Tb → h.next ≤ b := fun b hb => by rcases (s1.own b hb).2 with g | g; simp at g; exact g
  have w' := w
  have w1 := w.frame s1 (by simp) (by simp)
  obtain ⟨xc, xl, vs, B, w1', hS⟩ := w1
  have hlt : ∀ b, b ∈ p :: B → b < h.next := fun b hb => (w'.lts b (by rw [hS]; exact hb)).2
  refine ⟨st.count + 1, ?_⟩
  refine xTake_loop o st.count 0 h1 _ [] [] (by omega) (.inr trivial) w1' gb (by simp) (by simp) (by simp) TV.nil (by simp) fun h2 x2 SO w2 gb2 hdb2 q2 s2 => ?_
  rw [List.nil_append] at q2
  have t2 : Step h h2 [] SO := s1.drop.trans s2
  have hSO : ∀ b, b ∈ SO → h.next ≤ b := fun b hb => by rcases (t2.own b hb).2 with g | g; simp at g; exact g
  obtain ⟨ac, cc, hxc⟩ := w2.vc.slice
  have hlc : lenSl xc = some (.int .i64 st.chunks.length) := by rw [hxc]; rfl
  obtain ⟨ab, cb, hxb⟩ := gb2.slice
  simp only [ptr, lenSl_slice, lenStr_string, str_size, fpureA_some, fnilA_ptr, faddA_ptr, addr_add, Nat.zero_add, Nat.add_zero, fpureQ_k, fpureQ_nilA, fpureQ_addA, fpureQ_pureA, fpureQ_guardA, fpureQ_idxSlA, fpureQ_pickA, freadQ_loadA, freadQ_loadNA, freadQ_b2sA, freadQ_guardA, freadQ_slSlA, freadQ_k, fendA, fallA_one, fstillA_nil, fguardA_tt, fguardA_ff, fguardA_tf, fguardA_ft, fguardA_undef, fpickA_true, fpickA_false, fcondA_true, fcondA_false, binA_add, binA_sub, binA_mul, binA_eql, binA_neq, binA_lss, binA_leq, binA_gtr, binA_geq, unA_not, Bool.not_true, Bool.not_false, convA_int, extA_tuple, List.getElem?_toArray, List.getElem?_cons_zero, List.getElem?_cons_succ]
  refine loadA_at w2.base w2.blk (by rfl) ?_
  simp only [hlc, lenSl_slice, lenStr_string, str_size, fpureA_some, fnilA_ptr, faddA_ptr, addr_add, Nat.zero_add, Nat.add_zero, fpureQ_k, fpureQ_nilA, fpureQ_addA, fpureQ_pureA, fpureQ_guardA, fpureQ_idxSlA, fpureQ_pickA, freadQ_loadA, freadQ_loadNA, freadQ_b2sA, freadQ_guardA, freadQ_slSlA, freadQ_k, fendA, fallA_one, fstillA_nil, fguardA_tt, fguardA_ff, fguardA_tf, fguardA_ft, fguardA_undef, fpickA_true, fpickA_false, fcondA_true, fcondA_false, binA_add, binA_sub, binA_mul, binA_eql, binA_neq, binA_lss, binA_leq, binA_gtr, binA_geq, unA_not, Bool.not_true, Bool.not_false, convA_int, extA_tuple, List.getElem?_toArray, List.getElem?_cons_zero, List.getElem?_cons_succ]
  refine loadA_at w2.base w2.blk (by rfl) ?_
  refine storeA_at w2.base w2.blk (by simp [rfC]) (by rw [hxb]; rfl) ?_
  refine storeA_at w2.base (by simp; rfl) (by simp [rfC]) rfl ?_
  refine storeA_at w2.base (by simp; rfl) (by simp [rfC]) rfl ?_
  obtain ⟨a2, c2, hx2⟩ := q2.slice
  simp only [lenSl_slice, lenStr_string, str_size, fpureA_some, fnilA_ptr, faddA_ptr, addr_add, Nat.zero_add, Nat.add_zero, fpureQ_k, fpureQ_nilA, fpureQ_addA, fpureQ_pureA, fpureQ_guardA, fpureQ_idxSlA, fpureQ_pickA, freadQ_loadA, freadQ_loadNA, freadQ_b2sA, freadQ_guardA, freadQ_slSlA, freadQ_k, fendA, fallA_one, fstillA_nil, fguardA_tt, fguardA_ff, fguardA_tf, fguardA_ft, fguardA_undef, fpickA_true, fpickA_false, fcondA_true, fcondA_false, binA_add, binA_sub, binA_mul, binA_eql, binA_neq, binA_lss, binA_leq, binA_gtr, binA_geq, unA_not, Bool.not_true, Bool.not_false, convA_int, extA_tuple, List.getElem?_toArray, List.getElem?_cons_zero, List.getElem?_cons_succ, retA_iff, oneOf_one]
  have hpTb : p ∉ Tb := fun e => by have := hTb _ e; have := hlt p (by simp); omega
  have hpSO : p ∉ SO := fun e => by have := hSO _ e; have := hlt p (by simp); omega
  have s4 : Step h2 (((h2.put p ((rfC st xc xl).set 5 xb)).put p (((rfC st xc xl).set 5 xb).set 6 (.int .i64 (st.chunks.length : Int)))).put p ((((rfC st xc xl).set 5 xb).set 6 (.int .i64 (st.chunks.length : Int))).set 7 (.bool st.shut))) [p] [p] := (((Step.refl h2 [p] (by simpa using w2.lt)).put (by simp) _).put (by simp) _).put (by simp) _
  have dp : ∀ {T : List Nat}, p ∉ T → ∀ b, b ∈ T → b ∉ [p] := fun hT b hb he => by simp at he; subst he; exact hT hb
  have hRn : ∀ b, b ∈ R → b < h.next := fun b hb => (w'.ltr b hb).2
  refine ⟨by rw [hx2]; simp, SO, R ++ Tb, ⟨xc, xb, vs, B, ⟨by simp [rfC, PS.take], w2.base, by simpa using w2.lt, w2.vc.frame s4 (dp w2.pb), (w2.rows.frame s4 (dp w2.pr)).more (fun b hb => by simp [hb]), ⟨Tb, gb2.frame s4 (dp hpTb), fun b hb => by simp [hb]⟩, w2.pb, ?_, fun b hb he => ?_, fun b hb => ?_⟩, hS⟩, q2.frame s4 (dp hpSO), hSO, fun b hb he => ?_, fun b hb => ?_, ?_⟩
  · intro e
    rcases List.mem_append.1 e with g | g
    · exact w2.pr g
    · exact hpTb g
  · rcases List.mem_append.1 he with g | g
    · exact w2.br b hb g
    · have := hTb b g; have := hlt b (by simp [hb]); omega
  · have hnn : h2.next = (((h2.put p ((rfC st xc xl).set 5 xb)).put p (((rfC st xc xl).set 5 xb).set 6 (.int .i64 (st.chunks.length : Int)))).put p ((((rfC st xc xl).set 5 xb).set 6 (.int .i64 (st.chunks.length : Int))).set 7 (.bool st.shut))).next := by simp
    rw [← hnn]
    rcases List.mem_append.1 hb with g | g
    · exact w2.rlt b g
    · exact gb2.lt b g
  · rcases List.mem_append.1 he with g | g
    · have := hSO b hb; have := hRn b g; omega
    · exact hdb2 b hb g
  · rcases List.mem_append.1 hb with g | g
    · exact .inl g
    · exact .inr (hTb b g)
  · have t2' : Step h h2 S (SO ++ S) := t2.wide (by simp) fun b hb => by
      rcases List.mem_append.1 hb with e | e
      · exact .inl e
      · exact .inr ⟨e, (w'.lts b e).2⟩
    have hpm : p ∈ SO ++ S := by rw [hS]; simp
    exact ((t2'.put hpm _).put hpm _).put hpm _
/-! ### Sectors held against each other; the program's are written over -/
theorem tCells_at : ∀ (l : List (Nat × List UInt8)) (vs : List Value) (i : Nat) (n : Nat) (r : List UInt8) (v : Value), l.length = vs.length → l[i]? = some (n, r) → vs[i]? = some v → (tCells (l.map (·.1)) vs)[i * 2]? = some (.int .i64 n) ∧ (tCells (l.map (·.1)) vs)[i * 2 + 1]? = some v := by
  intro l
  induction l with
  | nil => intro vs i n r v hl hi; simp at hi
  | cons p l ih =>
    intro vs i n r v hl hi hv
    cases vs with
    | nil => simp at hv
    | cons w vs =>
      cases i with
      | zero =>
        simp at hi hv
        subst hv
        simp [tCells, hi]
      | succ i =>
        simp at hi hv
        obtain ⟨a, b⟩ := ih vs i n r v (by simpa using hl) hi hv
        simp only [List.map_cons, tCells]
        rw [show (i + 1) * 2 = i * 2 + 1 + 1 by omega]
        simp only [List.getElem?_cons_succ]
        exact ⟨a, b⟩
theorem nines_loop {k2 : Value → Value → Value → Value → Hp → Prop} {x0 x1 x4 : Value} {i n q : Nat} {cs : List Value} {T0 : List Nat} {nv : Nat} (hx : GV w0 h 2 x0 n cs T0) (hi : i < n) {v : Value} {r : List UInt8} {T : List Nat} (hv : cs[i * 2 + 1]? = some v) (hd : ∀ b, b ∈ T → b ∉ T0) (hl : r.length ≤ 1000000000) :
    ∀ (m j : Nat) (h' : Hp) (c : List Value), j + m = r.length → GV w0 h' 2 x0 n cs T0 → GV w0 h' 1 v r.length c T → (∀ h2 c2, GV w0 h2 2 x0 n cs T0 → GV w0 h2 1 v r.length c2 T → Step h' h2 T T → k2 x0 x1 x4 (.int .i64 (i : Int)) h2) →
    deduplaw13_sectors_L2 prog w0 k2 (m + 1) x0 x1 x4 (.int .i64 (i : Int)) (.int .i64 (j : Int)) h' := by
  intro m
  induction m with
  | zero =>
    intro j h' c hj g0 g hk
    obtain ⟨a, cc, hvs⟩ := g.slice
    have hlv : lenSl v = some (.int .i64 r.length) := by rw [hvs]; rfl
    have : j = r.length := by omega
    subst this
    rw [deduplaw13_sectors_L2]
    simp only [deduplaw13_sectors_B2, lenSl_slice, lenStr_string, str_size, fpureA_some, fnilA_ptr, faddA_ptr, addr_add, Nat.zero_add, Nat.add_zero, fpureQ_k, fpureQ_nilA, fpureQ_addA, fpureQ_pureA, fpureQ_guardA, fpureQ_idxSlA, fpureQ_pickA, freadQ_loadA, freadQ_loadNA, freadQ_b2sA, freadQ_guardA, freadQ_slSlA, freadQ_k, fendA, fallA_one, fstillA_nil, fguardA_tt, fguardA_ff, fguardA_tf, fguardA_ft, fguardA_undef, fpickA_true, fpickA_false, fcondA_true, fcondA_false, binA_add, binA_sub, binA_mul, binA_eql, binA_neq, binA_lss, binA_leq, binA_gtr, binA_geq, unA_not, Bool.not_true, Bool.not_false, convA_int, extA_tuple, List.getElem?_toArray, List.getElem?_cons_zero, List.getElem?_cons_succ]
    refine g0.idx hi fun q hq hB hb => ?_
    simp only [lenSl_slice, lenStr_string, str_size, fpureA_some, fnilA_ptr, faddA_ptr, addr_add, Nat.zero_add, Nat.add_zero, fpureQ_k, fpureQ_nilA, fpureQ_addA, fpureQ_pureA, fpureQ_guardA, fpureQ_idxSlA, fpureQ_pickA, freadQ_loadA, freadQ_loadNA, freadQ_b2sA, freadQ_guardA, freadQ_slSlA, freadQ_k, fendA, fallA_one, fstillA_nil, fguardA_tt, fguardA_ff, fguardA_tf, fguardA_ft, fguardA_undef, fpickA_true, fpickA_false, fcondA_true, fcondA_false, binA_add, binA_sub, binA_mul, binA_eql, binA_neq, binA_lss, binA_leq, binA_gtr, binA_geq, unA_not, Bool.not_true, Bool.not_false, convA_int, extA_tuple, List.getElem?_toArray, List.getElem?_cons_zero, List.getElem?_cons_succ]
    refine loadA_at hB hb hv ?_
    simp only [hlv, lenSl_slice, lenStr_string, str_size, fpureA_some, fnilA_ptr, faddA_ptr, addr_add, Nat.zero_add, Nat.add_zero, fpureQ_k, fpureQ_nilA, fpureQ_addA, fpureQ_pureA, fpureQ_guardA, fpureQ_idxSlA, fpureQ_pickA, freadQ_loadA, freadQ_loadNA, freadQ_b2sA, freadQ_guardA, freadQ_slSlA, freadQ_k, fendA, fallA_one, fstillA_nil, fguardA_tt, fguardA_ff, fguardA_tf, fguardA_ft, fguardA_undef, fpickA_true, fpickA_false, fcondA_true, fcondA_false, binA_add, binA_sub, binA_mul, binA_eql, binA_neq, binA_lss, binA_leq, binA_gtr, binA_geq, unA_not, Bool.not_true, Bool.not_false, convA_int, extA_tuple, List.getElem?_toArray, List.getElem?_cons_zero, List.getElem?_cons_succ, Int.lt_irrefl, decide_false]
    exact hk h' c g0 g g.refl
  | succ m ih =>
    intro j h' c hj g0 g hk
    obtain ⟨a, cc, hvs⟩ := g.slice
    have hlv : lenSl v = some (.int .i64 r.length) := by rw [hvs]; rfl
    have c1 : decide ((j : Int) < (r.length : Int)) = true := decide_eq_true (by omega)
    have e5 : IntKind.i64.wrap ((j : Int) + 1) = ((j + 1 : Nat) : Int) := by rw [IntWalk.i64_in _ (by omega)]; simp
    rw [deduplaw13_sectors_L2]
    simp only [deduplaw13_sectors_B2, lenSl_slice, lenStr_string, str_size, fpureA_some, fnilA_ptr, faddA_ptr, addr_add, Nat.zero_add, Nat.add_zero, fpureQ_k, fpureQ_nilA, fpureQ_addA, fpureQ_pureA, fpureQ_guardA, fpureQ_idxSlA, fpureQ_pickA, freadQ_loadA, freadQ_loadNA, freadQ_b2sA, freadQ_guardA, freadQ_slSlA, freadQ_k, fendA, fallA_one, fstillA_nil, fguardA_tt, fguardA_ff, fguardA_tf, fguardA_ft, fguardA_undef, fpickA_true, fpickA_false, fcondA_true, fcondA_false, binA_add, binA_sub, binA_mul, binA_eql, binA_neq, binA_lss, binA_leq, binA_gtr, binA_geq, unA_not, Bool.not_true, Bool.not_false, convA_int, extA_tuple, List.getElem?_toArray, List.getElem?_cons_zero, List.getElem?_cons_succ]
    refine g0.idx hi fun q hq hB hb => ?_
    simp only [lenSl_slice, lenStr_string, str_size, fpureA_some, fnilA_ptr, faddA_ptr, addr_add, Nat.zero_add, Nat.add_zero, fpureQ_k, fpureQ_nilA, fpureQ_addA, fpureQ_pureA, fpureQ_guardA, fpureQ_idxSlA, fpureQ_pickA, freadQ_loadA, freadQ_loadNA, freadQ_b2sA, freadQ_guardA, freadQ_slSlA, freadQ_k, fendA, fallA_one, fstillA_nil, fguardA_tt, fguardA_ff, fguardA_tf, fguardA_ft, fguardA_undef, fpickA_true, fpickA_false, fcondA_true, fcondA_false, binA_add, binA_sub, binA_mul, binA_eql, binA_neq, binA_lss, binA_leq, binA_gtr, binA_geq, unA_not, Bool.not_true, Bool.not_false, convA_int, extA_tuple, List.getElem?_toArray, List.getElem?_cons_zero, List.getElem?_cons_succ]
    refine loadA_at hB hb hv ?_
    simp only [hlv, lenSl_slice, lenStr_string, str_size, fpureA_some, fnilA_ptr, faddA_ptr, addr_add, Nat.zero_add, Nat.add_zero, fpureQ_k, fpureQ_nilA, fpureQ_addA, fpureQ_pureA, fpureQ_guardA, fpureQ_idxSlA, fpureQ_pickA, freadQ_loadA, freadQ_loadNA, freadQ_b2sA, freadQ_guardA, freadQ_slSlA, freadQ_k, fendA, fallA_one, fstillA_nil, fguardA_tt, fguardA_ff, fguardA_tf, fguardA_ft, fguardA_undef, fpickA_true, fpickA_false, fcondA_true, fcondA_false, binA_add, binA_sub, binA_mul, binA_eql, binA_neq, binA_lss, binA_leq, binA_gtr, binA_geq, unA_not, Bool.not_true, Bool.not_false, convA_int, extA_tuple, List.getElem?_toArray, List.getElem?_cons_zero, List.getElem?_cons_succ, c1]
    refine g0.idx hi fun q2 hq2 hB2 hb2 => ?_
    simp only [lenSl_slice, lenStr_string, str_size, fpureA_some, fnilA_ptr, faddA_ptr, addr_add, Nat.zero_add, Nat.add_zero, fpureQ_k, fpureQ_nilA, fpureQ_addA, fpureQ_pureA, fpureQ_guardA, fpureQ_idxSlA, fpureQ_pickA, freadQ_loadA, freadQ_loadNA, freadQ_b2sA, freadQ_guardA, freadQ_slSlA, freadQ_k, fendA, fallA_one, fstillA_nil, fguardA_tt, fguardA_ff, fguardA_tf, fguardA_ft, fguardA_undef, fpickA_true, fpickA_false, fcondA_true, fcondA_false, binA_add, binA_sub, binA_mul, binA_eql, binA_neq, binA_lss, binA_leq, binA_gtr, binA_geq, unA_not, Bool.not_true, Bool.not_false, convA_int, extA_tuple, List.getElem?_toArray, List.getElem?_cons_zero, List.getElem?_cons_succ]
    refine loadA_at hB2 hb2 hv ?_
    refine g.idx (by omega) fun q3 hq3 hB3 hb3 => ?_
    rw [Nat.mul_one]
    have hcl := g.len
    refine storeA_at hB3 hb3 (by omega) rfl ?_
    have s2 : Step h' (h'.put q3 (c.set j (.int .u8 9))) T T := g.refl.put hq3 _
    have g0' := g0.frame s2 (fun b hb he => hd b he hb)
    have g' := g.write (q := q3) (cs' := c.set j (.int .u8 9)) hq3 (by simp)
    simp only [e5]
    exact ih (j + 1) _ _ (by omega) g0' g' (fun h2 c2 g02 g2 s => hk h2 c2 g02 g2 (s2.trans s))
theorem sectors_loop {k0 kr : Value → Hp → Prop} {x y : Value} {l : List (Nat × List UInt8)} {vs ws : List Value} {Tx Ty : List Nat} (hl : l.length ≤ 1000000000) (hrl : ∀ p, p ∈ l → p.2.length ≤ 1000000000) (hvl : vs.length = l.length) (hwl : ws.length = l.length) :
    ∀ (post pre : List (Nat × List UInt8)) (h : Hp) (S0 T0 : List Nat), pre ++ post = l → GV w0 h 2 x l.length (tCells (l.map (·.1)) vs) Tx → GV w0 h 2 y l.length (tCells (l.map (·.1)) ws) Ty → RowsC w0 h (vs.drop pre.length) (post.map (·.2)) S0 → RowsC w0 h (ws.drop pre.length) (post.map (·.2)) T0 →
    (∀ b, b ∈ S0 → b ∉ Tx ∧ b ∉ Ty ∧ b ∉ T0) → (∀ h' , Step h h' S0 [] → k0 (.bool false) h') →
    deduplaw13_sectors_L1 prog w0 k0 kr (post.length + 1) x y (.bool false) (.int .i64 (pre.length : Int)) h := by
  intro post
  induction post with
  | nil =>
    intro pre h S0 T0 he gx gy qx qy hd hk
    obtain ⟨a, c, hx⟩ := gx.slice
    have hlx : lenSl x = some (.int .i64 l.length) := by rw [hx]; rfl
    have : pre = l := by simpa using he
    subst this
    rw [List.length_nil, deduplaw13_sectors_L1]
    simp only [deduplaw13_sectors_B1, hlx, lenSl_slice, lenStr_string, str_size, fpureA_some, fnilA_ptr, faddA_ptr, addr_add, Nat.zero_add, Nat.add_zero, fpureQ_k, fpureQ_nilA, fpureQ_addA, fpureQ_pureA, fpureQ_guardA, fpureQ_idxSlA, fpureQ_pickA, freadQ_loadA, freadQ_loadNA, freadQ_b2sA, freadQ_guardA, freadQ_slSlA, freadQ_k, fendA, fallA_one, fstillA_nil, fguardA_tt, fguardA_ff, fguardA_tf, fguardA_ft, fguardA_undef, fpickA_true, fpickA_false, fcondA_true, fcondA_false, binA_add, binA_sub, binA_mul, binA_eql, binA_neq, binA_lss, binA_leq, binA_gtr, binA_geq, unA_not, Bool.not_true, Bool.not_false, convA_int, extA_tuple, List.getElem?_toArray, List.getElem?_cons_zero, List.getElem?_cons_succ, Int.lt_irrefl, decide_false]
    exact hk h ⟨Nat.le_refl _, fun _ _ _ => ⟨rfl, rfl⟩, by simp⟩
  | cons p post ih =>
    intro pre h S0 T0 he gx gy qx qy hd hk
    obtain ⟨a, c, hx⟩ := gx.slice
    have hlx : lenSl x = some (.int .i64 l.length) := by rw [hx]; rfl
    have hlen : pre.length + (post.length + 1) = l.length := by rw [← he]; simp
    have hg : l[pre.length]? = some (p.1, p.2) := by rw [← he]; simp
    have hp2 := hrl p (by rw [← he]; simp)
    have hvd : ∃ v, vs[pre.length]? = some v := ⟨vs[pre.length], by simp [show pre.length < vs.length by omega]⟩
    have hwd : ∃ v, ws[pre.length]? = some v := ⟨ws[pre.length], by simp [show pre.length < ws.length by omega]⟩
    obtain ⟨v, hv⟩ := hvd
    obtain ⟨v', hv'⟩ := hwd
    have hdv : vs.drop pre.length = v :: vs.drop (pre.length + 1) := by rw [List.drop_eq_getElem_cons (by omega)]; congr 1; rw [List.getElem?_eq_getElem (by omega)] at hv; simpa using hv
    have hdw : ws.drop pre.length = v' :: ws.drop (pre.length + 1) := by rw [List.drop_eq_getElem_cons (by omega)]; congr 1; rw [List.getElem?_eq_getElem (by omega)] at hv'; simpa using hv'
    rw [hdv, List.map_cons] at qx
    rw [hdw, List.map_cons] at qy
    obtain ⟨n1, n2⟩ := tCells_at l vs pre.length p.1 p.2 v (by omega) hg hv
    obtain ⟨m1, m2⟩ := tCells_at l ws pre.length p.1 p.2 v' (by omega) hg hv'
    cases qx with
    | cons gv qx dx =>
    cases qy with
    | cons gw qy dy =>
    rename_i T1 S1 T2 S2
    have c1 : decide ((pre.length : Int) < (l.length : Int)) = true := decide_eq_true (by omega)
    have e5 : IntKind.i64.wrap ((pre.length : Int) + 1) = ((pre.length + 1 : Nat) : Int) := by rw [IntWalk.i64_in _ (by omega)]; simp
    rw [List.length_cons, deduplaw13_sectors_L1]
    simp only [deduplaw13_sectors_B1, hlx, lenSl_slice, lenStr_string, str_size, fpureA_some, fnilA_ptr, faddA_ptr, addr_add, Nat.zero_add, Nat.add_zero, fpureQ_k, fpureQ_nilA, fpureQ_addA, fpureQ_pureA, fpureQ_guardA, fpureQ_idxSlA, fpureQ_pickA, freadQ_loadA, freadQ_loadNA, freadQ_b2sA, freadQ_guardA, freadQ_slSlA, freadQ_k, fendA, fallA_one, fstillA_nil, fguardA_tt, fguardA_ff, fguardA_tf, fguardA_ft, fguardA_undef, fpickA_true, fpickA_false, fcondA_true, fcondA_false, binA_add, binA_sub, binA_mul, binA_eql, binA_neq, binA_lss, binA_leq, binA_gtr, binA_geq, unA_not, Bool.not_true, Bool.not_false, convA_int, extA_tuple, List.getElem?_toArray, List.getElem?_cons_zero, List.getElem?_cons_succ, c1]
    refine gx.idx (by omega) fun q1 hq1 hB1 hb1 => ?_
    simp only [lenSl_slice, lenStr_string, str_size, fpureA_some, fnilA_ptr, faddA_ptr, addr_add, Nat.zero_add, Nat.add_zero, fpureQ_k, fpureQ_nilA, fpureQ_addA, fpureQ_pureA, fpureQ_guardA, fpureQ_idxSlA, fpureQ_pickA, freadQ_loadA, freadQ_loadNA, freadQ_b2sA, freadQ_guardA, freadQ_slSlA, freadQ_k, fendA, fallA_one, fstillA_nil, fguardA_tt, fguardA_ff, fguardA_tf, fguardA_ft, fguardA_undef, fpickA_true, fpickA_false, fcondA_true, fcondA_false, binA_add, binA_sub, binA_mul, binA_eql, binA_neq, binA_lss, binA_leq, binA_gtr, binA_geq, unA_not, Bool.not_true, Bool.not_false, convA_int, extA_tuple, List.getElem?_toArray, List.getElem?_cons_zero, List.getElem?_cons_succ]
    refine loadA_at hB1 hb1 n1 ?_
    refine gy.idx (by omega) fun q2 hq2 hB2 hb2 => ?_
    simp only [lenSl_slice, lenStr_string, str_size, fpureA_some, fnilA_ptr, faddA_ptr, addr_add, Nat.zero_add, Nat.add_zero, fpureQ_k, fpureQ_nilA, fpureQ_addA, fpureQ_pureA, fpureQ_guardA, fpureQ_idxSlA, fpureQ_pickA, freadQ_loadA, freadQ_loadNA, freadQ_b2sA, freadQ_guardA, freadQ_slSlA, freadQ_k, fendA, fallA_one, fstillA_nil, fguardA_tt, fguardA_ff, fguardA_tf, fguardA_ft, fguardA_undef, fpickA_true, fpickA_false, fcondA_true, fcondA_false, binA_add, binA_sub, binA_mul, binA_eql, binA_neq, binA_lss, binA_leq, binA_gtr, binA_geq, unA_not, Bool.not_true, Bool.not_false, convA_int, extA_tuple, List.getElem?_toArray, List.getElem?_cons_zero, List.getElem?_cons_succ]
    refine loadA_at hB2 hb2 m1 ?_
    simp only [lenSl_slice, lenStr_string, str_size, fpureA_some, fnilA_ptr, faddA_ptr, addr_add, Nat.zero_add, Nat.add_zero, fpureQ_k, fpureQ_nilA, fpureQ_addA, fpureQ_pureA, fpureQ_guardA, fpureQ_idxSlA, fpureQ_pickA, freadQ_loadA, freadQ_loadNA, freadQ_b2sA, freadQ_guardA, freadQ_slSlA, freadQ_k, fendA, fallA_one, fstillA_nil, fguardA_tt, fguardA_ff, fguardA_tf, fguardA_ft, fguardA_undef, fpickA_true, fpickA_false, fcondA_true, fcondA_false, binA_add, binA_sub, binA_mul, binA_eql, binA_neq, binA_lss, binA_leq, binA_gtr, binA_geq, unA_not, Bool.not_true, Bool.not_false, convA_int, extA_tuple, List.getElem?_toArray, List.getElem?_cons_zero, List.getElem?_cons_succ, bne_self_eq_false]
    refine gx.idx (by omega) fun q3 hq3 hB3 hb3 => ?_
    simp only [lenSl_slice, lenStr_string, str_size, fpureA_some, fnilA_ptr, faddA_ptr, addr_add, Nat.zero_add, Nat.add_zero, fpureQ_k, fpureQ_nilA, fpureQ_addA, fpureQ_pureA, fpureQ_guardA, fpureQ_idxSlA, fpureQ_pickA, freadQ_loadA, freadQ_loadNA, freadQ_b2sA, freadQ_guardA, freadQ_slSlA, freadQ_k, fendA, fallA_one, fstillA_nil, fguardA_tt, fguardA_ff, fguardA_tf, fguardA_ft, fguardA_undef, fpickA_true, fpickA_false, fcondA_true, fcondA_false, binA_add, binA_sub, binA_mul, binA_eql, binA_neq, binA_lss, binA_leq, binA_gtr, binA_geq, unA_not, Bool.not_true, Bool.not_false, convA_int, extA_tuple, List.getElem?_toArray, List.getElem?_cons_zero, List.getElem?_cons_succ]
    refine loadA_at hB3 hb3 n2 ?_
    refine gy.idx (by omega) fun q4 hq4 hB4 hb4 => ?_
    simp only [lenSl_slice, lenStr_string, str_size, fpureA_some, fnilA_ptr, faddA_ptr, addr_add, Nat.zero_add, Nat.add_zero, fpureQ_k, fpureQ_nilA, fpureQ_addA, fpureQ_pureA, fpureQ_guardA, fpureQ_idxSlA, fpureQ_pickA, freadQ_loadA, freadQ_loadNA, freadQ_b2sA, freadQ_guardA, freadQ_slSlA, freadQ_k, fendA, fallA_one, fstillA_nil, fguardA_tt, fguardA_ff, fguardA_tf, fguardA_ft, fguardA_undef, fpickA_true, fpickA_false, fcondA_true, fcondA_false, binA_add, binA_sub, binA_mul, binA_eql, binA_neq, binA_lss, binA_leq, binA_gtr, binA_geq, unA_not, Bool.not_true, Bool.not_false, convA_int, extA_tuple, List.getElem?_toArray, List.getElem?_cons_zero, List.getElem?_cons_succ]
    refine loadA_at hB4 hb4 m2 ?_
    refine callA_of (sameB_spec (gv.sl : Bs w0 h v p.2) (gw.sl : Bs w0 h v' p.2) hp2) fun _ h2 ⟨e, e2⟩ f2 => ?_
    subst e e2
    simp only [lenSl_slice, lenStr_string, str_size, fpureA_some, fnilA_ptr, faddA_ptr, addr_add, Nat.zero_add, Nat.add_zero, fpureQ_k, fpureQ_nilA, fpureQ_addA, fpureQ_pureA, fpureQ_guardA, fpureQ_idxSlA, fpureQ_pickA, freadQ_loadA, freadQ_loadNA, freadQ_b2sA, freadQ_guardA, freadQ_slSlA, freadQ_k, fendA, fallA_one, fstillA_nil, fguardA_tt, fguardA_ff, fguardA_tf, fguardA_ft, fguardA_undef, fpickA_true, fpickA_false, fcondA_true, fcondA_false, binA_add, binA_sub, binA_mul, binA_eql, binA_neq, binA_lss, binA_leq, binA_gtr, binA_geq, unA_not, Bool.not_true, Bool.not_false, convA_int, extA_tuple, List.getElem?_toArray, List.getElem?_cons_zero, List.getElem?_cons_succ, decide_true]
    refine ⟨p.2.length + 1, ?_⟩
    have d1 : ∀ b, b ∈ T1 → b ∉ Tx := fun b hb => (hd b (by simp [hb])).1
    have := nines_loop (q := q1) (nv := 0) (k2 := fun y0 y1 y4 y5 => pureA (binA .add y5 (.int .i64 1)) fun v17 => deduplaw13_sectors_L1 prog w0 k0 kr (post.length + 1) y0 y1 y4 v17) (x1 := y) (x4 := .bool false) gx (show pre.length < l.length by omega) n2 d1 hp2 p.2.length 0 h2 (bvs p.2) (by omega) gx gv (fun h3 c3 gx3 gv3 s3 => by
      simp only [lenSl_slice, lenStr_string, str_size, fpureA_some, fnilA_ptr, faddA_ptr, addr_add, Nat.zero_add, Nat.add_zero, fpureQ_k, fpureQ_nilA, fpureQ_addA, fpureQ_pureA, fpureQ_guardA, fpureQ_idxSlA, fpureQ_pickA, freadQ_loadA, freadQ_loadNA, freadQ_b2sA, freadQ_guardA, freadQ_slSlA, freadQ_k, fendA, fallA_one, fstillA_nil, fguardA_tt, fguardA_ff, fguardA_tf, fguardA_ft, fguardA_undef, fpickA_true, fpickA_false, fcondA_true, fcondA_false, binA_add, binA_sub, binA_mul, binA_eql, binA_neq, binA_lss, binA_leq, binA_gtr, binA_geq, unA_not, Bool.not_true, Bool.not_false, convA_int, extA_tuple, List.getElem?_toArray, List.getElem?_cons_zero, List.getElem?_cons_succ, e5]
      have gy3 := gy.frame s3 (fun b hb he => (hd b (by simp [he])).2.1 hb)
      have qx3 := qx.frame s3 (fun b hb he => dx b he hb)
      have qy3 := qy.frame s3 (fun b hb he => (hd b (by simp [he])).2.2 (by simp [hb]))
      have := ih (pre ++ [p]) h3 S1 S2 (by simpa using he) gx3 gy3 (by simpa using qx3) (by simpa using qy3) (fun b hb => ⟨(hd b (by simp [hb])).1, (hd b (by simp [hb])).2.1, fun he => (hd b (by simp [hb])).2.2 (by simp [he])⟩) (fun h4 s4 => hk h4 (by
        have a1 : Step h2 h3 (T1 ++ S1) (T1 ++ S1) := s3.wide (fun b hb => by simp [hb]) fun b hb => .inr ⟨hb, by
          rcases List.mem_append.1 hb with e | e
          · exact (gv.lt b e).2
          · exact (qx.lt b e).2⟩
        exact a1.trans (s4.wide (fun b hb => by simp [hb]) (by simp))))
      simpa using this)
    exact this
theorem sectors_spec {x y : Value} {l : List (Nat × List UInt8)} {SX SY : List Nat} (vx : TV w0 h x l SX) (vy : TV w0 h y l SY) (hd : ∀ b, b ∈ SX → b ∉ SY) (hl : l.length ≤ 1000000000) (hrl : ∀ p, p ∈ l → p.2.length ≤ 1000000000) :
    ACalls prog w0 n_deduplaw13_sectors [x, y] h fun r h' => r = .bool true ∧ Step h h' SX [] := by
  obtain ⟨ax, cx, hx⟩ := vx.slice
  obtain ⟨ay, cy, hy⟩ := vy.slice
  refine ACalls.of_fit (by rw [hx, hy]; simp) fun f => c_deduplaw13_sectors (by rw [hx, hy]; simp) ?_
  have hlx : lenSl x = some (.int .i64 l.length) := by rw [hx]; rfl
  have hly : lenSl y = some (.int .i64 l.length) := by rw [hy]; rfl
  obtain ⟨vs, Tx, S0, gx, qx, dx, rfl⟩ := vx
  obtain ⟨ws, Ty, T0, gy, qy, dy, rfl⟩ := vy
  simp only [s_deduplaw13_sectors, hlx, hly, lenSl_slice, lenStr_string, str_size, fpureA_some, fnilA_ptr, faddA_ptr, addr_add, Nat.zero_add, Nat.add_zero, fpureQ_k, fpureQ_nilA, fpureQ_addA, fpureQ_pureA, fpureQ_guardA, fpureQ_idxSlA, fpureQ_pickA, freadQ_loadA, freadQ_loadNA, freadQ_b2sA, freadQ_guardA, freadQ_slSlA, freadQ_k, fendA, fallA_one, fstillA_nil, fguardA_tt, fguardA_ff, fguardA_tf, fguardA_ft, fguardA_undef, fpickA_true, fpickA_false, fcondA_true, fcondA_false, binA_add, binA_sub, binA_mul, binA_eql, binA_neq, binA_lss, binA_leq, binA_gtr, binA_geq, unA_not, Bool.not_true, Bool.not_false, convA_int, extA_tuple, List.getElem?_toArray, List.getElem?_cons_zero, List.getElem?_cons_succ, bne_self_eq_false]
  refine ⟨l.length + 1, sectors_loop hl hrl (by rw [qx.len]; simp) (by rw [qy.len]; simp) l [] h S0 T0 rfl gx gy qx qy (fun b hb => ⟨fun he => dx b he hb, fun he => hd b (by simp [hb]) (by simp [he]), fun he => hd b (by simp [hb]) (by simp [he])⟩) fun h' s => ?_⟩
  simp only [retA_iff, oneOf_one]
  exact ⟨by simp, by trivial, s.wide (fun b hb => by simp [hb]) (by simp)⟩
end
end Go.Proofs.Ytfhamcobfpmgbaa.Ah
