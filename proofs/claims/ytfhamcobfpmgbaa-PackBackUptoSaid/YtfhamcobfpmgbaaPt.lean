/- dedupref13.Pack: Image, Take. -/
import Derived.Test.YtfhamcobfpmgbaaPs
set_option linter.unusedVariables false
set_option linter.unusedSimpArgs false
namespace Go.Proofs.Ytfhamcobfpmgbaa.Ah
open Go

section
variable {w0 : World} {h : Hp} {p : Nat} {st : PS} {S R : List Nat}
theorem high4 (n : Nat) (hn : n < 18446744073709551616) : ACalls prog w0 n_dedupref13_high [.int .u64 n, .int .i64 4] h fun v h' => ∃ S', GV w0 h' 1 v (be 4 n).length (bvs (be 4 n)) S' ∧ Step h h' [] S' := by
  have := high_spec (w0 := w0) (h := h) n 4 hn (by omega)
  refine this.mono fun v h' ⟨S', g, s⟩ => ⟨S', by rw [be_length]; exact g, s⟩
theorem sum4 {x : Value} {l : List UInt8} (v : Bs w0 h x l) (hl : l.length ≤ 1000000000) : ACalls prog w0 n_dedupref13_sum [x] h fun v h' => ∃ S', GV w0 h' 1 v (be 4 (crcOf l)).length (bvs (be 4 (crcOf l))) S' ∧ Step h h' [] S' := by
  refine (sum_spec v hl).mono fun v h' ⟨S', g, s⟩ => ⟨S', by rw [be_length]; exact g, s⟩
/-- The image's head, its parts made in whatever order. -/
theorem image_head {xc xl : Value} {vs : List Value} {B : List Nat} (w : Rf1 w0 h p st xc xl vs B R) (o : st.Ok) (f : Fit w0 h) {REST : Kont} (hk : ∀ x h' S', GV w0 h' 1 x (mark12 dpak st.id st.count).length (bvs (mark12 dpak st.id st.count)) S' → Step h h' [] S' → REST x h') :
    allA [bslA [(0, 1, false, .int .u8 68), (1, 1, false, .int .u8 80), (2, 1, false, .int .u8 65), (3, 1, false, .int .u8 75)] (zerosL [.int .u8 0] 4) 4 1 fun v7 =>
        stillA [sameQ (loadA w0 (.pointer (some ⟨p, 1, none⟩))) (.int .i64 st.count), sameQ (loadA w0 (.pointer (some ⟨p, 2, none⟩))) (.int .u32 st.id)]
          (allA [sl2slA w0 v7 fun v8 => stillA [sameQ (loadA w0 (.pointer (some ⟨p, 1, none⟩))) (.int .i64 st.count), sameQ (loadA w0 (.pointer (some ⟨p, 2, none⟩))) (.int .u32 st.id)]
                (callA prog w0 n_dedupref13_high [.int .u64 st.id, .int .i64 4] fun v14 => stillA [sameQ (loadA w0 (.pointer (some ⟨p, 1, none⟩))) (.int .i64 st.count)]
                  (appA w0 1 1 v8 v14 fun v15 => stillA [sameQ (loadA w0 (.pointer (some ⟨p, 1, none⟩))) (.int .i64 st.count)]
                    (callA prog w0 n_dedupref13_high [.int .u64 st.count, .int .i64 4] fun v21 => appA w0 1 1 v15 v21 REST))),
              callA prog w0 n_dedupref13_high [.int .u64 st.id, .int .i64 4] fun v14 => stillA [sameQ (loadA w0 (.pointer (some ⟨p, 1, none⟩))) (.int .i64 st.count)]
                (sl2slA w0 v7 fun v8 => stillA [sameQ (loadA w0 (.pointer (some ⟨p, 1, none⟩))) (.int .i64 st.count), sameQ (loadA w0 (.pointer (some ⟨p, 2, none⟩))) (.int .u32 st.id)]
                  (appA w0 1 1 v8 v14 fun v15 => stillA [sameQ (loadA w0 (.pointer (some ⟨p, 1, none⟩))) (.int .i64 st.count)]
                    (callA prog w0 n_dedupref13_high [.int .u64 st.count, .int .i64 4] fun v21 => appA w0 1 1 v15 v21 REST)))]),
      callA prog w0 n_dedupref13_high [.int .u64 st.id, .int .i64 4] fun v14 => stillA [sameQ (loadA w0 (.pointer (some ⟨p, 1, none⟩))) (.int .i64 st.count)]
        (bslA [(0, 1, false, .int .u8 68), (1, 1, false, .int .u8 80), (2, 1, false, .int .u8 65), (3, 1, false, .int .u8 75)] (zerosL [.int .u8 0] 4) 4 1 fun v7 =>
          stillA [sameQ (loadA w0 (.pointer (some ⟨p, 1, none⟩))) (.int .i64 st.count), sameQ (loadA w0 (.pointer (some ⟨p, 2, none⟩))) (.int .u32 st.id)]
            (sl2slA w0 v7 fun v8 => stillA [sameQ (loadA w0 (.pointer (some ⟨p, 1, none⟩))) (.int .i64 st.count), sameQ (loadA w0 (.pointer (some ⟨p, 2, none⟩))) (.int .u32 st.id)]
              (appA w0 1 1 v8 v14 fun v15 => stillA [sameQ (loadA w0 (.pointer (some ⟨p, 1, none⟩))) (.int .i64 st.count)]
                (callA prog w0 n_dedupref13_high [.int .u64 st.count, .int .i64 4] fun v21 => appA w0 1 1 v15 v21 REST))))] h := by
  have hid := o.id
  have hct := o.count
  have ld1 : ∀ {h' : Hp} {S' : List Nat}, Step h h' [] S' → sameQ (loadA w0 (.pointer (some ⟨p, 1, none⟩))) (.int .i64 st.count) h' := fun s => by
    rw [sameQ_loadA]
    have w' := w.frame s (by simp) (by simp)
    exact loadA_at w'.base w'.blk (by rfl) rfl
  have ld2 : ∀ {h' : Hp} {S' : List Nat}, Step h h' [] S' → sameQ (loadA w0 (.pointer (some ⟨p, 2, none⟩))) (.int .u32 st.id) h' := fun s => by
    rw [sameQ_loadA]
    have w' := w.frame s (by simp) (by simp)
    exact loadA_at w'.base w'.blk (by rfl) rfl
  have tail : ∀ {x15 : Value} {h' : Hp} {S' : List Nat}, GV w0 h' 1 x15 (dpak ++ be 4 st.id).length (bvs (dpak ++ be 4 st.id)) S' → Step h h' [] S' → callA prog w0 n_dedupref13_high [.int .u64 st.count, .int .i64 4] (fun v21 => appA w0 1 1 x15 v21 REST) h' := by
    intro x15 h' S' g s
    refine callA_of (high4 st.count (by omega)) fun x h2 ⟨S2, g2, s2⟩ f2 => ?_
    refine app_bytes f2.base (g.frame s2 (by simp)) g2.sl (by simp [dpak]) fun x3 h3 S3 g3 s3 => ?_
    exact hk x3 h3 S3 g3 (s.trans ((s2.idle S' fun b hb => (g.lt b hb).2).trans s3))
  simp only [allA_cons, allA_one]
  refine ⟨?_, ?_⟩
  · refine name_new (l := dpak) f.base rfl rfl fun x7 h7 S7 g7 s7 => ?_
    simp only [stillA_iff, allA_cons, allA_one]
    refine ⟨⟨ld1 s7, ld2 s7⟩, ?_, ?_⟩
    · refine sl2sl_gv g7 (by decide) ?_
      simp only [stillA_iff, allA_cons, allA_one]
      refine ⟨⟨ld1 s7, ld2 s7⟩, ?_⟩
      refine callA_of (high4 st.id (by omega)) fun x h2 ⟨S2, g2, s2⟩ f2 => ?_
      have t2 := s7.trans (s2.idle S7 fun b hb => (g7.lt b hb).2)
      simp only [stillA_iff, allA_cons, allA_one]
      refine ⟨ld1 t2, ?_⟩
      refine app_bytes f2.base (g7.frame s2 (by simp)) g2.sl (by simp [dpak]) fun x3 h3 S3 g3 s3 => ?_
      simp only [stillA_iff, allA_cons, allA_one]
      exact ⟨ld1 (t2.trans s3), tail g3 (t2.trans s3)⟩
    · refine callA_of (high4 st.id (by omega)) fun x h2 ⟨S2, g2, s2⟩ f2 => ?_
      have t2 := s7.trans (s2.idle S7 fun b hb => (g7.lt b hb).2)
      simp only [stillA_iff, allA_cons, allA_one]
      refine ⟨ld1 t2, ?_⟩
      refine sl2sl_gv (g7.frame s2 (by simp)) (by decide) ?_
      simp only [stillA_iff, allA_cons, allA_one]
      refine ⟨⟨ld1 t2, ld2 t2⟩, ?_⟩
      refine app_bytes f2.base (g7.frame s2 (by simp)) g2.sl (by simp [dpak]) fun x3 h3 S3 g3 s3 => ?_
      simp only [stillA_iff, allA_cons, allA_one]
      exact ⟨ld1 (t2.trans s3), tail g3 (t2.trans s3)⟩
  · refine callA_of (high4 st.id (by omega)) fun x h2 ⟨S2, g2, s2⟩ f2 => ?_
    simp only [stillA_iff, allA_cons, allA_one]
    refine ⟨ld1 s2, ?_⟩
    refine name_new (l := dpak) f2.base rfl rfl fun x7 h7 S7 g7 s7 => ?_
    have t7 : Step h h7 [] (S2 ++ S7) := s2.trans (s7.wide (by simp) fun b hb => by
      rcases List.mem_append.1 hb with e | e
      · exact .inr ⟨e, (g2.lt b e).2⟩
      · exact .inl e)
    simp only [stillA_iff, allA_cons, allA_one]
    refine ⟨⟨ld1 t7, ld2 t7⟩, ?_⟩
    refine sl2sl_gv g7 (by decide) ?_
    simp only [stillA_iff, allA_cons, allA_one]
    refine ⟨⟨ld1 t7, ld2 t7⟩, ?_⟩
    have hS7 : ∀ b, b ∈ S7 → h2.next ≤ b := fun b hb => by rcases (s7.own b hb).2 with g | g; simp at g; exact g
    refine app_bytes (by have := s7.next; have := f2.base; omega) g7 ((g2.frame s7 (by simp)).sl) (by simp [dpak]) fun x3 h3 S3 g3 s3 => ?_
    have t3 : Step h h3 [] S3 := (t7.less (T := S7) (fun b hb => by simp [hb])).trans s3
    simp only [stillA_iff, allA_cons, allA_one]
    exact ⟨ld1 t3, tail g3 t3⟩
theorem image_loop {K : Value → Value → Hp → Prop} {xc xl : Value} {vs : List Value} {B : List Nat} (o : st.Ok) : ∀ (post pre : List (List UInt8)) (h : Hp) (x : Value) (T : List Nat), pre ++ post = st.chunks → Rf1 w0 h p st xc xl vs B R → (∀ b, b ∈ T → b ∉ p :: B) → (∀ b, b ∈ T → b ∉ R) → GV w0 h 1 x (bodyB st.id st.count pre).length (bvs (bodyB st.id st.count pre)) T →
    (∀ h' x' T', Rf1 w0 h' p st xc xl vs B R → GV w0 h' 1 x' (bodyB st.id st.count st.chunks).length (bvs (bodyB st.id st.count st.chunks)) T' → Step h h' T T' → K (ptr p) x' h') →
    dedupref13_Pack_Image_L1 prog w0 K (post.length + 1) (ptr p) x (.int .i64 (pre.length : Int)) h := by
  intro post
  have hr := o.room
  have hb := o.bytes
  have hcl := chunks_le (cs := st.chunks)
  induction post with
  | nil =>
    intro pre h x T he w hd hdr q hk
    obtain ⟨a, c, hx⟩ := w.vc.slice
    have hl : lenSl xc = some (.int .i64 st.chunks.length) := by rw [hx]; rfl
    have : pre = st.chunks := by simpa using he
    subst this
    rw [List.length_nil, dedupref13_Pack_Image_L1]
    simp only [dedupref13_Pack_Image_B1, ptr, lenSl_slice, lenStr_string, str_size, fpureA_some, fnilA_ptr, faddA_ptr, addr_add, Nat.zero_add, Nat.add_zero, fpureQ_k, fpureQ_nilA, fpureQ_addA, fpureQ_pureA, fpureQ_guardA, fpureQ_idxSlA, fpureQ_pickA, freadQ_loadA, freadQ_loadNA, freadQ_b2sA, freadQ_guardA, freadQ_slSlA, freadQ_k, fendA, fallA_one, fstillA_nil, fguardA_tt, fguardA_ff, fguardA_tf, fguardA_ft, fguardA_undef, fpickA_true, fpickA_false, fcondA_true, fcondA_false, binA_add, binA_sub, binA_mul, binA_eql, binA_neq, binA_lss, binA_leq, binA_gtr, binA_geq, unA_not, Bool.not_true, Bool.not_false, convA_int, extA_tuple, List.getElem?_toArray, List.getElem?_cons_zero, List.getElem?_cons_succ]
    refine loadA_at w.base w.blk (by rfl) ?_
    simp only [hl, lenSl_slice, lenStr_string, str_size, fpureA_some, fnilA_ptr, faddA_ptr, addr_add, Nat.zero_add, Nat.add_zero, fpureQ_k, fpureQ_nilA, fpureQ_addA, fpureQ_pureA, fpureQ_guardA, fpureQ_idxSlA, fpureQ_pickA, freadQ_loadA, freadQ_loadNA, freadQ_b2sA, freadQ_guardA, freadQ_slSlA, freadQ_k, fendA, fallA_one, fstillA_nil, fguardA_tt, fguardA_ff, fguardA_tf, fguardA_ft, fguardA_undef, fpickA_true, fpickA_false, fcondA_true, fcondA_false, binA_add, binA_sub, binA_mul, binA_eql, binA_neq, binA_lss, binA_leq, binA_gtr, binA_geq, unA_not, Bool.not_true, Bool.not_false, convA_int, extA_tuple, List.getElem?_toArray, List.getElem?_cons_zero, List.getElem?_cons_succ, Int.lt_irrefl, decide_false]
    exact hk h x T w q q.refl
  | cons r post ih =>
    intro pre h x T he w hd hdr q hk
    obtain ⟨a, c, hx⟩ := w.vc.slice
    have hl : lenSl xc = some (.int .i64 st.chunks.length) := by rw [hx]; rfl
    have hlen : pre.length + (post.length + 1) = st.chunks.length := by rw [← he]; simp
    have hg : st.chunks[pre.length]? = some r := by rw [← he]; simp
    obtain ⟨y, Ty, hv, gy, hTy⟩ := w.rows.2 _ _ hg
    obtain ⟨ay, cy, hy⟩ := gy.slice
    have he2 : endOf (pre ++ [r]) ≤ endOf st.chunks := by
      have := endOf_append (pre ++ [r]) post
      have e : pre ++ [r] ++ post = st.chunks := by simpa using he
      rw [e] at this
      have := endOf_ge post
      omega
    rw [endOf_snoc] at he2
    have hbl := bodyB_length st.id st.count pre
    have hly : lenSl y = some (.int .i64 r.length) := by rw [hy]; rfl
    have c1 : decide ((pre.length : Int) < (st.chunks.length : Int)) = true := decide_eq_true (by omega)
    have e1 : IntKind.u64.wrap (r.length : Int) = (r.length : Int) := IntWalk.u64_in _ (by omega)
    have e5 : IntKind.i64.wrap ((pre.length : Int) + 1) = ((pre.length + 1 : Nat) : Int) := by rw [IntWalk.i64_in _ (by omega)]; simp
    -- the chunk is read again
    have rd : ∀ {h' : Hp} {K' : Kont}, Rf1 w0 h' p st xc xl vs B R → K' y h' → loadA w0 (.pointer (some ⟨p, 3, none⟩)) (fun v55 => idxSlA 1 v55 (.int .i64 (pre.length : Int)) fun v58 => loadA w0 v58 K') h' := by
      intro h' K' w' hk'
      refine loadA_at w'.base w'.blk (by rfl) ?_
      refine w'.vc.idx (by omega) fun q1 hq1 hB1 hbq1 => ?_
      rw [Nat.mul_one]
      exact loadA_at hB1 hbq1 hv hk'
    rw [List.length_cons, dedupref13_Pack_Image_L1]
    simp only [dedupref13_Pack_Image_B1, ptr, lenSl_slice, lenStr_string, str_size, fpureA_some, fnilA_ptr, faddA_ptr, addr_add, Nat.zero_add, Nat.add_zero, fpureQ_k, fpureQ_nilA, fpureQ_addA, fpureQ_pureA, fpureQ_guardA, fpureQ_idxSlA, fpureQ_pickA, freadQ_loadA, freadQ_loadNA, freadQ_b2sA, freadQ_guardA, freadQ_slSlA, freadQ_k, fendA, fallA_one, fstillA_nil, fguardA_tt, fguardA_ff, fguardA_tf, fguardA_ft, fguardA_undef, fpickA_true, fpickA_false, fcondA_true, fcondA_false, binA_add, binA_sub, binA_mul, binA_eql, binA_neq, binA_lss, binA_leq, binA_gtr, binA_geq, unA_not, Bool.not_true, Bool.not_false, convA_int, extA_tuple, List.getElem?_toArray, List.getElem?_cons_zero, List.getElem?_cons_succ]
    refine loadA_at w.base w.blk (by rfl) ?_
    simp only [hl, lenSl_slice, lenStr_string, str_size, fpureA_some, fnilA_ptr, faddA_ptr, addr_add, Nat.zero_add, Nat.add_zero, fpureQ_k, fpureQ_nilA, fpureQ_addA, fpureQ_pureA, fpureQ_guardA, fpureQ_idxSlA, fpureQ_pickA, freadQ_loadA, freadQ_loadNA, freadQ_b2sA, freadQ_guardA, freadQ_slSlA, freadQ_k, fendA, fallA_one, fstillA_nil, fguardA_tt, fguardA_ff, fguardA_tf, fguardA_ft, fguardA_undef, fpickA_true, fpickA_false, fcondA_true, fcondA_false, binA_add, binA_sub, binA_mul, binA_eql, binA_neq, binA_lss, binA_leq, binA_gtr, binA_geq, unA_not, Bool.not_true, Bool.not_false, convA_int, extA_tuple, List.getElem?_toArray, List.getElem?_cons_zero, List.getElem?_cons_succ, c1]
    refine rd w ?_
    simp only [hly, lenSl_slice, lenStr_string, str_size, fpureA_some, fnilA_ptr, faddA_ptr, addr_add, Nat.zero_add, Nat.add_zero, fpureQ_k, fpureQ_nilA, fpureQ_addA, fpureQ_pureA, fpureQ_guardA, fpureQ_idxSlA, fpureQ_pickA, freadQ_loadA, freadQ_loadNA, freadQ_b2sA, freadQ_guardA, freadQ_slSlA, freadQ_k, fendA, fallA_one, fstillA_nil, fguardA_tt, fguardA_ff, fguardA_tf, fguardA_ft, fguardA_undef, fpickA_true, fpickA_false, fcondA_true, fcondA_false, binA_add, binA_sub, binA_mul, binA_eql, binA_neq, binA_lss, binA_leq, binA_gtr, binA_geq, unA_not, Bool.not_true, Bool.not_false, convA_int, extA_tuple, List.getElem?_toArray, List.getElem?_cons_zero, List.getElem?_cons_succ, e1]
    refine callA_of (high4 r.length (by omega)) fun x2 h2 ⟨T2, g2, s2⟩ f2 => ?_
    have w2 := w.frame s2 (by simp) (by simp)
    have hT2 : ∀ b, b ∈ T2 → h.next ≤ b := fun b hb => by rcases (s2.own b hb).2 with g | g; simp at g; exact g
    have q2 := q.frame s2 (by simp)
    have hplt : ∀ b, b ∈ p :: B → b < h.next := fun b hb => by
      rcases List.mem_cons.1 hb with rfl | hb
      · exact w.lt
      · exact (w.vc.lt b hb).2
    refine app_bytes f2.base q2 g2.sl (by simp; omega) fun x3 h3 T3 g3 s3 => ?_
    have s13 : Step h h3 T T3 := (s2.idle T fun b hb => (q.lt b hb).2).trans s3
    have d2T : ∀ b, b ∈ T2 → b ∉ T := fun b hb he => by have := hT2 b hb; have := (q.lt b he).2; omega
    have w3 := w.frame s13 (fun b hb he => hd b he hb) (fun b hb he => hdr b he hb)
    have g23 := g2.frame s3 d2T
    have hT3 : ∀ b, b ∈ T3 → b ∈ T ∨ h.next ≤ b := fun b hb => (s13.own b hb).2
    have dis : ∀ {T' : List Nat}, (∀ b, b ∈ T' → b ∈ T ∨ h.next ≤ b) → (∀ b, b ∈ T' → b ∉ p :: B) ∧ (∀ b, b ∈ T' → b ∉ R) := by
      intro T' hT'
      refine ⟨fun b hb he => ?_, fun b hb he => ?_⟩
      · rcases hT' b hb with g | g
        · exact hd b g he
        · have := hplt b he; omega
      · rcases hT' b hb with g | g
        · exact hdr b g he
        · have := (w.rlt b he).2; omega
    refine loadA_at w3.base w3.blk (by rfl) ?_
    refine w3.vc.idx (by omega) fun q1 hq1 hB1 hbq1 => ?_
    rw [Nat.mul_one]
    refine loadA_at hB1 hbq1 hv ?_
    -- what must be read as it was
    have again : ∀ {h' : Hp} {T4 : List Nat}, Step h3 h' [] T4 → sameQ (loadA w0 (.pointer (some ⟨q1, pre.length, none⟩))) y h' ∧ sameQ (loadA w0 (.pointer (some ⟨p, 3, none⟩))) xc h' := by
      intro h' T4 s4
      have w4 := w3.frame s4 (by simp) (by simp)
      rw [sameQ_loadA, sameQ_loadA]
      exact ⟨loadA_at hB1 ((s4.keep q1 (w3.vc.lt q1 hq1).2 (by simp)).1.trans hbq1) hv rfl, loadA_at w4.base w4.blk (by rfl) rfl⟩
    have hB3 : w0.heap.size ≤ h3.next := by have := s13.next; have := w.base; have := w.lt; omega
    have hz : zerosL [(.int .u8 0 : Value)] 0 = [] := rfl
    simp only [bslA_iff, fillA_nil, hz, stillA_iff, allA_cons, allA_one]
    have s4 : Step h3 (h3.new [] 1) [] [h3.next] := (Step.refl h3 [] (by simp)).new _ _
    have g4 : GV w0 (h3.new [] 1) 1 (.slice (some ⟨h3.next, 0, none⟩) 0 0) ([] : List UInt8).length (bvs []) [h3.next] := GV.new hB3 rfl (by decide)
    have hB4 : w0.heap.size ≤ (h3.new [] 1).next := by simp; omega
    generalize h3.new [] 1 = h4 at s4 g4 hB4 ⊢
    refine ⟨again s4, ?_⟩
    refine app_bytes hB4 g4 (g23.frame s4 (by simp)).sl (by simp) fun x5 h5 T5 g5 s5 => ?_
    rw [List.nil_append] at g5
    have s35 : Step h3 h5 [] T5 := s4.trans s5
    simp only [stillA_iff, allA_cons, allA_one]
    refine ⟨again s35, ?_⟩
    have gy3 := gy.frame s13 (fun b hb he => hdr b he (hTy b hb))
    have hB5 : w0.heap.size ≤ h5.next := by have := s35.next; omega
    refine app_bytes hB5 g5 ((gy3.frame s35 (by simp)).sl) (by simp; omega) fun x6 h6 T6 g6 s6 => ?_
    have s36 : Step h3 h6 [] T6 := s35.trans s6
    try simp only [stillA_iff, allA_cons, allA_one, allA_nil, true_and]
    refine callA_of (sum4 g6.sl (by simp; omega)) fun x7 h7 ⟨T7, g7, s7⟩ f7 => ?_
    have s37 : Step h3 h7 [] T7 := s36.trans (s7.wide (by simp) fun b hb => .inl hb)
    have g37 := g3.frame s37 (by simp)
    try simp only [stillA_iff, allA_cons, allA_one, allA_nil, true_and]
    refine app_bytes f7.base g37 g7.sl (by simp; omega) fun x8 h8 T8 g8 s8 => ?_
    have s38 : Step h3 h8 T3 T8 := (s37.idle T3 fun b hb => (g3.lt b hb).2).trans s8
    have s18 : Step h h8 T T8 := s13.trans s38
    have w8 := w.frame s18 (fun b hb he => hd b he hb) (fun b hb he => hdr b he hb)
    have gy8 := gy.frame s18 (fun b hb he => hdr b he (hTy b hb))
    try simp only [stillA_iff, allA_nil, true_and]
    refine rd w8 ?_
    have hB8 : w0.heap.size ≤ h8.next := by have := s18.next; have := w.base; have := w.lt; omega
    refine app_bytes hB8 g8 gy8.sl (by simp; omega) fun x9 h9 T9 g9 s9 => ?_
    have s19 : Step h h9 T T9 := s18.trans s9
    have w9 := w.frame s19 (fun b hb he => hd b he hb) (fun b hb he => hdr b he hb)
    have hbe : bodyB st.id st.count pre ++ be 4 r.length ++ be 4 (crcOf (be 4 r.length ++ r)) ++ r = bodyB st.id st.count (pre ++ [r]) := by
      rw [bodyB_snoc]; simp [slotB]
    rw [hbe] at g9
    simp only [lenSl_slice, lenStr_string, str_size, fpureA_some, fnilA_ptr, faddA_ptr, addr_add, Nat.zero_add, Nat.add_zero, fpureQ_k, fpureQ_nilA, fpureQ_addA, fpureQ_pureA, fpureQ_guardA, fpureQ_idxSlA, fpureQ_pickA, freadQ_loadA, freadQ_loadNA, freadQ_b2sA, freadQ_guardA, freadQ_slSlA, freadQ_k, fendA, fallA_one, fstillA_nil, fguardA_tt, fguardA_ff, fguardA_tf, fguardA_ft, fguardA_undef, fpickA_true, fpickA_false, fcondA_true, fcondA_false, binA_add, binA_sub, binA_mul, binA_eql, binA_neq, binA_lss, binA_leq, binA_gtr, binA_geq, unA_not, Bool.not_true, Bool.not_false, convA_int, extA_tuple, List.getElem?_toArray, List.getElem?_cons_zero, List.getElem?_cons_succ, e5]
    have d9 := dis fun b hb => (s19.own b hb).2
    have := ih (pre ++ [r]) h9 x9 T9 (by simpa using he) w9 d9.1 d9.2 g9 (fun h' x' T' w' g' s' => hk h' x' T' w' g' (s19.trans s'))
    simpa [ptr] using this
theorem xImage_spec (w : Rf w0 h p st S R) (o : st.Ok) : ACalls prog w0 n_dedupref13_Pack_Image [ptr p] h fun r h' => ∃ T, GV w0 h' 1 r st.image.length (bvs st.image) T ∧ Step h h' [] T := by
  refine ACalls.of_fit (by simp [ptr]) fun f => c_dedupref13_Pack_Image (by simp [ptr]) ?_
  have w' := w
  obtain ⟨xc, xl, vs, B, w, hS⟩ := w
  have hr := o.room
  have hb := o.bytes
  have hid := o.id
  have hct := o.count
  have hi := o.image
  have hcl := chunks_le (cs := st.chunks)
  have e1 : IntKind.u64.wrap (st.id : Int) = (st.id : Int) := IntWalk.u64_in _ (by omega)
  have e2 : IntKind.u64.wrap (st.count : Int) = (st.count : Int) := IntWalk.u64_in _ (by omega)
  simp only [s_dedupref13_Pack_Image, ptr, lenSl_slice, lenStr_string, str_size, fpureA_some, fnilA_ptr, faddA_ptr, addr_add, Nat.zero_add, Nat.add_zero, fpureQ_k, fpureQ_nilA, fpureQ_addA, fpureQ_pureA, fpureQ_guardA, fpureQ_idxSlA, fpureQ_pickA, freadQ_loadA, freadQ_loadNA, freadQ_b2sA, freadQ_guardA, freadQ_slSlA, freadQ_k, fendA, fallA_one, fstillA_nil, fguardA_tt, fguardA_ff, fguardA_tf, fguardA_ft, fguardA_undef, fpickA_true, fpickA_false, fcondA_true, fcondA_false, binA_add, binA_sub, binA_mul, binA_eql, binA_neq, binA_lss, binA_leq, binA_gtr, binA_geq, unA_not, Bool.not_true, Bool.not_false, convA_int, extA_tuple, List.getElem?_toArray, List.getElem?_cons_zero, List.getElem?_cons_succ]
  refine loadA_at w.base w.blk (by rfl) ?_
  simp only [lenSl_slice, lenStr_string, str_size, fpureA_some, fnilA_ptr, faddA_ptr, addr_add, Nat.zero_add, Nat.add_zero, fpureQ_k, fpureQ_nilA, fpureQ_addA, fpureQ_pureA, fpureQ_guardA, fpureQ_idxSlA, fpureQ_pickA, freadQ_loadA, freadQ_loadNA, freadQ_b2sA, freadQ_guardA, freadQ_slSlA, freadQ_k, fendA, fallA_one, fstillA_nil, fguardA_tt, fguardA_ff, fguardA_tf, fguardA_ft, fguardA_undef, fpickA_true, fpickA_false, fcondA_true, fcondA_false, binA_add, binA_sub, binA_mul, binA_eql, binA_neq, binA_lss, binA_leq, binA_gtr, binA_geq, unA_not, Bool.not_true, Bool.not_false, convA_int, extA_tuple, List.getElem?_toArray, List.getElem?_cons_zero, List.getElem?_cons_succ, e1]
  refine loadA_at w.base w.blk (by rfl) ?_
  simp only [lenSl_slice, lenStr_string, str_size, fpureA_some, fnilA_ptr, faddA_ptr, addr_add, Nat.zero_add, Nat.add_zero, fpureQ_k, fpureQ_nilA, fpureQ_addA, fpureQ_pureA, fpureQ_guardA, fpureQ_idxSlA, fpureQ_pickA, freadQ_loadA, freadQ_loadNA, freadQ_b2sA, freadQ_guardA, freadQ_slSlA, freadQ_k, fendA, fallA_one, fstillA_nil, fguardA_tt, fguardA_ff, fguardA_tf, fguardA_ft, fguardA_undef, fpickA_true, fpickA_false, fcondA_true, fcondA_false, binA_add, binA_sub, binA_mul, binA_eql, binA_neq, binA_lss, binA_leq, binA_gtr, binA_geq, unA_not, Bool.not_true, Bool.not_false, convA_int, extA_tuple, List.getElem?_toArray, List.getElem?_cons_zero, List.getElem?_cons_succ, e2]
  refine image_head w o f fun x1 h1 S1 g1 s1 => ?_
  refine callA_of (sum4 (g1.sl : Bs w0 h1 x1 (mark12 dpak st.id st.count)) (by rw [mark12_length rfl]; omega)) fun x2 h2 ⟨S2, g2, s2⟩ f2 => ?_
  refine app_bytes f2.base (g1.frame s2 (by simp)) g2.sl (by rw [mark12_length rfl]; simp) fun x3 h3 S3 g3 s3 => ?_
  have t3 : Step h h3 [] S3 := s1.trans ((s2.idle S1 fun b hb => (g1.lt b hb).2).trans s3)
  have w3 := w.frame t3 (by simp) (by simp)
  have hS3 : ∀ b, b ∈ S3 → h.next ≤ b := fun b hb => by rcases (t3.own b hb).2 with g | g; simp at g; exact g
  have hplt : ∀ b, b ∈ p :: B → b < h.next := fun b hb => by
    rcases List.mem_cons.1 hb with rfl | hb
    · exact w.lt
    · exact (w.vc.lt b hb).2
  refine ⟨st.chunks.length + 1, ?_⟩
  refine image_loop o st.chunks [] h3 x3 S3 rfl w3 (fun b hb he => by have := hS3 b hb; have := hplt b he; omega) (fun b hb he => by have := hS3 b hb; have := (w.rlt b he).2; omega) (by simpa [bodyB, mark16] using g3) fun h4 x4 S4 w4 g4 s4 => ?_
  have t4 : Step h h4 [] S4 := t3.trans s4
  have e0 : IntKind.i64.wrap ((st.size : Int) * (st.count : Int)) = (st.bytes : Int) := by
    have : (st.size : Int) * (st.count : Int) = (st.bytes : Int) := by unfold PS.bytes; simp
    rw [this, IntWalk.i64_in _ (by omega)]
  simp only [ptr, lenSl_slice, lenStr_string, str_size, fpureA_some, fnilA_ptr, faddA_ptr, addr_add, Nat.zero_add, Nat.add_zero, fpureQ_k, fpureQ_nilA, fpureQ_addA, fpureQ_pureA, fpureQ_guardA, fpureQ_idxSlA, fpureQ_pickA, freadQ_loadA, freadQ_loadNA, freadQ_b2sA, freadQ_guardA, freadQ_slSlA, freadQ_k, fendA, fallA_one, fstillA_nil, fguardA_tt, fguardA_ff, fguardA_tf, fguardA_ft, fguardA_undef, fpickA_true, fpickA_false, fcondA_true, fcondA_false, binA_add, binA_sub, binA_mul, binA_eql, binA_neq, binA_lss, binA_leq, binA_gtr, binA_geq, unA_not, Bool.not_true, Bool.not_false, convA_int, extA_tuple, List.getElem?_toArray, List.getElem?_cons_zero, List.getElem?_cons_succ]
  refine loadA_at w4.base w4.blk (by rfl) ?_
  refine loadA_at w4.base w4.blk (by rfl) ?_
  simp only [lenSl_slice, lenStr_string, str_size, fpureA_some, fnilA_ptr, faddA_ptr, addr_add, Nat.zero_add, Nat.add_zero, fpureQ_k, fpureQ_nilA, fpureQ_addA, fpureQ_pureA, fpureQ_guardA, fpureQ_idxSlA, fpureQ_pickA, freadQ_loadA, freadQ_loadNA, freadQ_b2sA, freadQ_guardA, freadQ_slSlA, freadQ_k, fendA, fallA_one, fstillA_nil, fguardA_tt, fguardA_ff, fguardA_tf, fguardA_ft, fguardA_undef, fpickA_true, fpickA_false, fcondA_true, fcondA_false, binA_add, binA_sub, binA_mul, binA_eql, binA_neq, binA_lss, binA_leq, binA_gtr, binA_geq, unA_not, Bool.not_true, Bool.not_false, convA_int, extA_tuple, List.getElem?_toArray, List.getElem?_cons_zero, List.getElem?_cons_succ, e0, mkA_nat]
  refine ⟨Nat.le_refl _, by omega, by omega, ?_⟩
  have hB4 : w0.heap.size ≤ h4.next := by have := w4.base; have := w4.lt; omega
  have hz : zerosL [(.int .u8 0 : Value)] st.bytes = bvs (List.replicate st.bytes 0) := by rw [zerosL_single]; simp [bvs, bv]
  rw [hz]
  have hu : st.bytes < ucap := by show st.bytes < 18446744073709551616; omega
  have s5 : Step h4 (h4.new (bvs (List.replicate st.bytes 0)) 1) [] [h4.next] := (Step.refl h4 [] (by simp)).new _ _
  have g5 : GV w0 (h4.new (bvs (List.replicate st.bytes 0)) 1) 1 (.slice (some ⟨h4.next, 0, none⟩) st.bytes st.bytes) (List.replicate st.bytes (0 : UInt8)).length (bvs (List.replicate st.bytes 0)) [h4.next] := by
    have := GV.new (w0 := w0) (h := h4) (s := 1) (cs := bvs (List.replicate st.bytes 0)) (n := st.bytes) (k := 1) hB4 (by simp) hu
    simpa using this
  have g45 := g4.frame s5 (by simp)
  have w5 := w4.frame s5 (by simp) (by simp)
  have hl5 : h4.next < (h4.new (bvs (List.replicate st.bytes 0)) 1).next := by simp
  generalize h4.new (bvs (List.replicate st.bytes 0)) 1 = h5 at s5 g5 g45 w5 hl5 ⊢
  have t5 : Step h h5 [] [h4.next] := t4.drop.trans s5
  have hbl := bodyB_length st.id st.count st.chunks
  obtain ⟨a4, c4, hx4⟩ := g4.slice
  have ec : cutV 1 (.slice (some ⟨h4.next, 0, none⟩) st.bytes st.bytes) 0 st.bytes = .slice (some ⟨h4.next, 0, none⟩) st.bytes st.bytes := cutV_all hu (by omega)
  have hq4 : ∀ b, b ∈ p :: B → b ∉ [h4.next] := fun b hb he => by simp at he; have := hplt b hb; have := t4.next; omega
  have hq4R : ∀ b, b ∈ R → b ∉ [h4.next] := fun b hb he => by simp at he; have := (w.rlt b hb).2; have := t4.next; omega
  have hc := g5.copy (y := x4) (m := bodyB st.id st.count st.chunks) (lo := 0) (hi := st.bytes) (K := fun _ => loadA w0 (.pointer (some ⟨p, 4, none⟩)) fun v88 => condA v88
      (slSlA 1 (.slice (some ⟨h4.next, 0, none⟩) st.bytes st.bytes) (some (.int .i64 (IntKind.i64.wrap ((st.bytes : Int) - 16)))) none none fun v93 =>
        loadA w0 (.pointer (some ⟨p, 3, none⟩)) fun v97 => pureA (lenSl v97) fun v98 => callA prog w0 n_dedupref13_Pack_end [.pointer (some ⟨p, 0, none⟩)] fun v100 =>
        stillA [sameQ (loadA w0 (.pointer (some ⟨p, 3, none⟩))) v97, sameQ (slSlA 1 (.slice (some ⟨h4.next, 0, none⟩) st.bytes st.bytes) (some (.int .i64 (IntKind.i64.wrap ((st.bytes : Int) - 16)))) none none) v93]
          (callA prog w0 n_dedupref13_foot [v98, v100] fun v101 => stillA [sameQ (slSlA 1 (.slice (some ⟨h4.next, 0, none⟩) st.bytes st.bytes) (some (.int .i64 (IntKind.i64.wrap ((st.bytes : Int) - 16)))) none none) v93]
            (copyA w0 1 v93 v101 fun _ => retA [.slice (some ⟨h4.next, 0, none⟩) st.bytes st.bytes] fun r h' => ∃ T, GV w0 h' 1 r st.image.length (bvs st.image) T ∧ Step h h' [] T)))
      (retA [.slice (some ⟨h4.next, 0, none⟩) st.bytes st.bytes] fun r h' => ∃ T, GV w0 h' 1 r st.image.length (bvs st.image) T ∧ Step h h' [] T))
    (by omega) (by simp) (by omega) (by rw [hx4]; rfl) g45.src (fun r6 h6 _ g6 s6 => by
      have w6 := w5.frame s6 hq4 hq4R
      have t6 : Step h h6 [] [h4.next] := t5.trans s6
      refine loadA_at w6.base w6.blk (by rfl) ?_
      have hraw : (List.replicate st.bytes (0 : UInt8)).take 0 ++ bodyB st.id st.count st.chunks ++ (List.replicate st.bytes (0 : UInt8)).drop (0 + (bodyB st.id st.count st.chunks).length) = bodyB st.id st.count st.chunks ++ List.replicate (st.bytes - endOf st.chunks) 0 := by
        rw [List.take_zero, List.nil_append, Nat.zero_add, List.drop_replicate, hbl]
      rw [hraw] at g6
      have hrl : (bodyB st.id st.count st.chunks ++ List.replicate (st.bytes - endOf st.chunks) (0 : UInt8)).length = st.bytes := by simp; omega
      rw [List.length_replicate] at g6
      cases hs : st.shut with
      | false =>
        simp only [lenSl_slice, lenStr_string, str_size, fpureA_some, fnilA_ptr, faddA_ptr, addr_add, Nat.zero_add, Nat.add_zero, fpureQ_k, fpureQ_nilA, fpureQ_addA, fpureQ_pureA, fpureQ_guardA, fpureQ_idxSlA, fpureQ_pickA, freadQ_loadA, freadQ_loadNA, freadQ_b2sA, freadQ_guardA, freadQ_slSlA, freadQ_k, fendA, fallA_one, fstillA_nil, fguardA_tt, fguardA_ff, fguardA_tf, fguardA_ft, fguardA_undef, fpickA_true, fpickA_false, fcondA_true, fcondA_false, binA_add, binA_sub, binA_mul, binA_eql, binA_neq, binA_lss, binA_leq, binA_gtr, binA_geq, unA_not, Bool.not_true, Bool.not_false, convA_int, extA_tuple, List.getElem?_toArray, List.getElem?_cons_zero, List.getElem?_cons_succ, retA_iff, oneOf_one]
        refine ⟨by simp, [h4.next], ?_, t6⟩
        have : bodyB st.id st.count st.chunks ++ List.replicate (st.bytes - endOf st.chunks) 0 = st.image := by
          simp only [PS.image, PS.foot, hs, Bool.false_eq_true, if_false, List.append_assoc, List.replicate_append_replicate]
          congr 2
          omega
        rw [hi, ← this]
        exact g6
      | true =>
        have e6 : IntKind.i64.wrap ((st.bytes : Int) - 16) = ((st.bytes - 16 : Nat) : Int) := by rw [IntWalk.i64_in _ (by omega)]; omega
        have g6' : GV w0 h6 1 (.slice (some ⟨h4.next, 0, none⟩) st.bytes st.bytes) (bodyB st.id st.count st.chunks ++ List.replicate (st.bytes - endOf st.chunks) (0 : UInt8)).length (bvs (bodyB st.id st.count st.chunks ++ List.replicate (st.bytes - endOf st.chunks) 0)) [h4.next] := by rw [hrl]; exact g6
        simp only [lenSl_slice, lenStr_string, str_size, fpureA_some, fnilA_ptr, faddA_ptr, addr_add, Nat.zero_add, Nat.add_zero, fpureQ_k, fpureQ_nilA, fpureQ_addA, fpureQ_pureA, fpureQ_guardA, fpureQ_idxSlA, fpureQ_pickA, freadQ_loadA, freadQ_loadNA, freadQ_b2sA, freadQ_guardA, freadQ_slSlA, freadQ_k, fendA, fallA_one, fstillA_nil, fguardA_tt, fguardA_ff, fguardA_tf, fguardA_ft, fguardA_undef, fpickA_true, fpickA_false, fcondA_true, fcondA_false, binA_add, binA_sub, binA_mul, binA_eql, binA_neq, binA_lss, binA_leq, binA_gtr, binA_geq, unA_not, Bool.not_true, Bool.not_false, convA_int, extA_tuple, List.getElem?_toArray, List.getElem?_cons_zero, List.getElem?_cons_succ, e6]
        refine Bs.cut g6'.sl (lo := st.bytes - 16) (hi := st.bytes) boundA_nat (by rw [hrl]; rfl) (by omega) (by rw [hrl]; exact Nat.le_refl _) fun x7 hx7 _ _ => ?_
        refine loadA_at w6.base w6.blk (by rfl) ?_
        obtain ⟨acc, ccc, hxc⟩ := w6.vc.slice
        have hl : lenSl xc = some (.int .i64 st.chunks.length) := by rw [hxc]; rfl
        simp only [hl, lenSl_slice, lenStr_string, str_size, fpureA_some, fnilA_ptr, faddA_ptr, addr_add, Nat.zero_add, Nat.add_zero, fpureQ_k, fpureQ_nilA, fpureQ_addA, fpureQ_pureA, fpureQ_guardA, fpureQ_idxSlA, fpureQ_pickA, freadQ_loadA, freadQ_loadNA, freadQ_b2sA, freadQ_guardA, freadQ_slSlA, freadQ_k, fendA, fallA_one, fstillA_nil, fguardA_tt, fguardA_ff, fguardA_tf, fguardA_ft, fguardA_undef, fpickA_true, fpickA_false, fcondA_true, fcondA_false, binA_add, binA_sub, binA_mul, binA_eql, binA_neq, binA_lss, binA_leq, binA_gtr, binA_geq, unA_not, Bool.not_true, Bool.not_false, convA_int, extA_tuple, List.getElem?_toArray, List.getElem?_cons_zero, List.getElem?_cons_succ]
        refine callA_of (xend_spec ⟨xc, xl, vs, B, w6, rfl⟩ o) fun _ h8 ⟨e, e8⟩ f8 => ?_
        subst e e8
        have cutOk : ∀ {h' : Hp}, GV w0 h' 1 (.slice (some ⟨h4.next, 0, none⟩) st.bytes st.bytes) (bodyB st.id st.count st.chunks ++ List.replicate (st.bytes - endOf st.chunks) (0 : UInt8)).length (bvs (bodyB st.id st.count st.chunks ++ List.replicate (st.bytes - endOf st.chunks) 0)) [h4.next] → sameQ (slSlA 1 (.slice (some ⟨h4.next, 0, none⟩) st.bytes st.bytes) (some (.int .i64 ((st.bytes - 16 : Nat) : Int))) none none) x7 h' := fun g => by
          rw [sameQ_slSlA]
          exact Bs.cut g.sl (lo := st.bytes - 16) (hi := st.bytes) boundA_nat (by rw [hrl]; rfl) (by omega) (by rw [hrl]; exact Nat.le_refl _) fun _ e _ _ => e.trans hx7.symm
        simp only [stillA_iff, allA_cons, allA_one]
        refine ⟨⟨by rw [sameQ_loadA]; exact loadA_at w6.base w6.blk (by rfl) rfl, cutOk g6'⟩, ?_⟩
        refine callA_of (rfoot_spec st.chunks.length (endOf st.chunks) (by omega) (by omega)) fun x9 h9 ⟨S9, g9, s9⟩ f9 => ?_
        have g69 := g6'.frame s9 (by simp)
        simp only [stillA_iff, allA_cons, allA_one]
        refine ⟨cutOk g69, ?_⟩
        rw [hx7]
        have hm16 : (mark16 dfot st.chunks.length (endOf st.chunks)).length = 16 := mark16_length rfl _ _
        obtain ⟨a9, c9, hx9⟩ := g9.slice
        refine g69.copy (m := mark16 dfot st.chunks.length (endOf st.chunks)) (by omega) (by rw [hrl]; exact Nat.le_refl _) (by rw [hm16]; omega) (by rw [hx9]; rfl) g9.src fun r10 h10 _ g10 s10 => ?_
        simp only [retA_iff, oneOf_one]
        refine ⟨by simp, [h4.next], ?_, (t6.trans (s9.idle [h4.next] (by have := s6.next; simp; omega))).trans s10⟩
        have htk : (bodyB st.id st.count st.chunks ++ List.replicate (st.bytes - endOf st.chunks) (0 : UInt8)).take (st.bytes - 16) = bodyB st.id st.count st.chunks ++ List.replicate (st.bytes - 16 - endOf st.chunks) 0 := by
          rw [List.take_append, hbl, List.take_of_length_le (by omega), List.take_replicate]
          congr 2
          omega
        have : (bodyB st.id st.count st.chunks ++ List.replicate (st.bytes - endOf st.chunks) (0 : UInt8)).take (st.bytes - 16) ++ mark16 dfot st.chunks.length (endOf st.chunks) ++ (bodyB st.id st.count st.chunks ++ List.replicate (st.bytes - endOf st.chunks) (0 : UInt8)).drop (st.bytes - 16 + (mark16 dfot st.chunks.length (endOf st.chunks)).length) = st.image := by
          rw [htk, List.drop_eq_nil_of_le (by rw [hrl, hm16]; omega), List.append_nil]
          simp [PS.image, PS.foot, hs]
        rw [this, hrl] at g10
        rw [hi]
        exact g10)
  rw [ec] at hc
  simpa only [stillA_iff, allA_cons, allA_one, lenSl_slice, lenSl_slice, lenStr_string, str_size, fpureA_some, fnilA_ptr, faddA_ptr, addr_add, Nat.zero_add, Nat.add_zero, fpureQ_k, fpureQ_nilA, fpureQ_addA, fpureQ_pureA, fpureQ_guardA, fpureQ_idxSlA, fpureQ_pickA, freadQ_loadA, freadQ_loadNA, freadQ_b2sA, freadQ_guardA, freadQ_slSlA, freadQ_k, fendA, fallA_one, fstillA_nil, fguardA_tt, fguardA_ff, fguardA_tf, fguardA_ft, fguardA_undef, fpickA_true, fpickA_false, fcondA_true, fcondA_false, binA_add, binA_sub, binA_mul, binA_eql, binA_neq, binA_lss, binA_leq, binA_gtr, binA_geq, unA_not, Bool.not_true, Bool.not_false, convA_int, extA_tuple, List.getElem?_toArray, List.getElem?_cons_zero, List.getElem?_cons_succ] using hc
end
end Go.Proofs.Ytfhamcobfpmgbaa.Ah
