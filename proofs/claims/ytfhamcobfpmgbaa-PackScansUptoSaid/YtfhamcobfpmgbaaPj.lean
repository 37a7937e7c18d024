/- Scan, the program's and the document's. -/
import Derived.Test.YtfhamcobfpmgbaaPi
set_option linter.unusedVariables false
set_option linter.unusedSimpArgs false
namespace Go.Proofs.Ytfhamcobfpmgbaa.Ah
open Go

/-- The slots from a place on, and where they end. -/
def scanL (b : List UInt8) (en : Nat) : Nat → Nat → List (Nat × Nat) × Nat
  | 0, a => ([], a)
  | k + 1, a =>
    match slotOf b a en with
    | none => ([], a)
    | some n => ((a + 8, n) :: (scanL b en k (a + 8 + n)).1, (scanL b en k (a + 8 + n)).2)
theorem scanL_none {b : List UInt8} {en k a : Nat} (h : slotOf b a en = none) : scanL b en k a = ([], a) := by
  cases k with
  | zero => rfl
  | succ k => simp only [scanL, h]
theorem slotOf_far {b : List UInt8} {en a : Nat} (h : en < a + 8) : slotOf b a en = none := by unfold slotOf; rw [if_pos h]
theorem scanL_bound {b : List UInt8} {en : Nat} : ∀ (k a : Nat), a ≤ (scanL b en k a).2 ∧ ((scanL b en k a).2 ≤ a ∨ (scanL b en k a).2 ≤ en) ∧ (scanL b en k a).1.length ≤ (scanL b en k a).2 - a := by
  intro k
  induction k with
  | zero => intro a; simp [scanL]
  | succ k ih =>
    intro a
    cases h : slotOf b a en with
    | none => rw [scanL_none h]; simp
    | some n =>
      have h1 := slotOf_some h
      have h2 := ih (a + 8 + n)
      simp only [scanL, h, List.length_cons]
      omega
theorem slotC_snoc (l : List (Nat × Nat)) (p : Nat × Nat) : slotC (l ++ [p]) = slotC l ++ [.int .i64 (p.1 : Int), .int .i64 (p.2 : Int)] := by simp [slotC]
section
variable {w0 : World} {h : Hp}
/-- One slot more behind those of a vector. -/
theorem app_slot {x : Value} {l : List (Nat × Nat)} {S : List Nat} {a b : Nat} {K : Kont} (hf : w0.heap.size ≤ h.next) (v : GV w0 h 2 x l.length (slotC l) S) (hl : l.length ≤ 1000000000)
    (hk : ∀ x' h' S', GV w0 h' 2 x' (l ++ [(a, b)]).length (slotC (l ++ [(a, b)])) S' → Step h h' S S' → K x' h') :
    bslA [(0, 2, true, .agg #[.int .i64 (a : Int), .int .i64 (b : Int)])] (zerosL [(.int .i64 0), (.int .i64 0)] 1) 1 2 (fun v5 => appA w0 2 16 x v5 K) h := by
  have hz : zerosL [(.int .i64 0 : Value), .int .i64 0] 1 = [.int .i64 0, .int .i64 0] := rfl
  simp only [bslA_iff, hz, fillA_agg, fillA_nil]
  refine ⟨by simp, by simp, ?_⟩
  rw [splice_all _ _ (by simp)]
  have s9 : Step h (h.new [.int .i64 (a : Int), .int .i64 (b : Int)] 2) [] [h.next] := (Step.refl h [] (by simp)).new _ _
  have src9 : Src w0.heap.size (h.new [.int .i64 (a : Int), .int .i64 (b : Int)] 2) 2 (.slice (some ⟨h.next, 0, none⟩) 1 1) 1 [.int .i64 (a : Int), .int .i64 (b : Int)] := src_new hf (by simp)
  refine appA_gv (m := 1) (by simp; omega) (v.frame s9 (by simp)) (by simp) src9 (by simp) (by omega) (by omega) (by omega) fun x10 h10 B' vs10 s10 => ?_
  refine hk x10 h10 B' (by rw [slotC_snoc, List.length_append]; exact vs10) ?_
  exact (s9.idle S fun b hb => (v.lt b hb).2).trans s10
theorem scan_loop {k0 : Value → Value → Value → Value → Value → Hp → Prop} {x x6 : Value} {b : List UInt8} {en : Nat} (hen : en ≤ b.length) (hb : b.length ≤ 1000000000) :
    ∀ (k a : Nat) (pre : List (Nat × Nat)) (h : Hp) (xl : Value) (S : List Nat), a ≤ 1000000000 → en < a + k → pre.length + k ≤ 2000000000 → (∀ h' S', Step h h' S S' → Bs w0 h' x b) → GV w0 h 2 xl pre.length (slotC pre) S → pre.length ≤ a →
    (∀ h' xl' S', GV w0 h' 2 xl' (pre ++ (scanL b en k a).1).length (slotC (pre ++ (scanL b en k a).1)) S' → Step h h' S S' → k0 x x6 xl' (.int .i64 (en : Int)) (.int .i64 ((scanL b en k a).2 : Int)) h') →
    pack_Scan_L1 prog w0 k0 (k + 1) x x6 xl (.int .i64 (en : Int)) (.int .i64 (a : Int)) h := by
  intro k
  induction k with
  | zero =>
    intro a pre h xl S ha hk hpk vbs vl hpa hk0
    have hn : slotOf b a en = none := slotOf_far (by omega)
    rw [pack_Scan_L1]
    simp only [pack_Scan_B1]
    refine callA_of (slotAt_spec (vbs h S vl.refl) hb (by omega) hen) fun r h1 ⟨e, s1⟩ f1 => ?_
    subst e
    simp only [hn, slotV, slt, lenSl_slice, lenStr_string, str_size, fpureA_some, fnilA_ptr, faddA_ptr, addr_add, Nat.zero_add, Nat.add_zero, fpureQ_k, fpureQ_nilA, fpureQ_addA, fpureQ_pureA, fpureQ_guardA, fpureQ_idxSlA, fpureQ_pickA, freadQ_loadA, freadQ_loadNA, freadQ_b2sA, freadQ_guardA, freadQ_slSlA, freadQ_k, fendA, fallA_one, fstillA_nil, fguardA_tt, fguardA_ff, fguardA_tf, fguardA_ft, fguardA_undef, fpickA_true, fpickA_false, fcondA_true, fcondA_false, binA_add, binA_sub, binA_mul, binA_eql, binA_neq, binA_lss, binA_leq, binA_gtr, binA_geq, unA_not, Bool.not_true, Bool.not_false, convA_int, extA_tuple, List.getElem?_toArray, List.getElem?_cons_zero, List.getElem?_cons_succ, newA_iff]
    refine ⟨by simp, store2 (cs := [.int .i64 0, .int .i64 0]) f1.base (by simp) rfl ?_⟩
    rw [put_new]
    have s2 : Step h (h1.new [.int .i64 0, .int .i64 0] 2) [] [] := (s1.new _ _).drop
    have := hk0 (h1.new [.int .i64 0, .int .i64 0] 2) xl S (by simpa [scanL] using vl.frame s2 (by simp)) (s2.idle S fun b hb => (vl.lt b hb).2)
    simpa only [lenSl_slice, lenStr_string, str_size, fpureA_some, fnilA_ptr, faddA_ptr, addr_add, Nat.zero_add, Nat.add_zero, fpureQ_k, fpureQ_nilA, fpureQ_addA, fpureQ_pureA, fpureQ_guardA, fpureQ_idxSlA, fpureQ_pickA, freadQ_loadA, freadQ_loadNA, freadQ_b2sA, freadQ_guardA, freadQ_slSlA, freadQ_k, fendA, fallA_one, fstillA_nil, fguardA_tt, fguardA_ff, fguardA_tf, fguardA_ft, fguardA_undef, fpickA_true, fpickA_false, fcondA_true, fcondA_false, binA_add, binA_sub, binA_mul, binA_eql, binA_neq, binA_lss, binA_leq, binA_gtr, binA_geq, unA_not, Bool.not_true, Bool.not_false, convA_int, extA_tuple, List.getElem?_toArray, List.getElem?_cons_zero, List.getElem?_cons_succ, scanL] using this
  | succ k ih =>
    intro a pre h xl S ha hk hpk vbs vl hpa hk0
    rw [pack_Scan_L1]
    simp only [pack_Scan_B1]
    refine callA_of (slotAt_spec (vbs h S vl.refl) hb (by omega) hen) fun r h1 ⟨e, s1⟩ f1 => ?_
    subst e
    cases hs : slotOf b a en with
    | none =>
      simp only [slotV, slt, lenSl_slice, lenStr_string, str_size, fpureA_some, fnilA_ptr, faddA_ptr, addr_add, Nat.zero_add, Nat.add_zero, fpureQ_k, fpureQ_nilA, fpureQ_addA, fpureQ_pureA, fpureQ_guardA, fpureQ_idxSlA, fpureQ_pickA, freadQ_loadA, freadQ_loadNA, freadQ_b2sA, freadQ_guardA, freadQ_slSlA, freadQ_k, fendA, fallA_one, fstillA_nil, fguardA_tt, fguardA_ff, fguardA_tf, fguardA_ft, fguardA_undef, fpickA_true, fpickA_false, fcondA_true, fcondA_false, binA_add, binA_sub, binA_mul, binA_eql, binA_neq, binA_lss, binA_leq, binA_gtr, binA_geq, unA_not, Bool.not_true, Bool.not_false, convA_int, extA_tuple, List.getElem?_toArray, List.getElem?_cons_zero, List.getElem?_cons_succ, newA_iff]
      refine ⟨by simp, store2 (cs := [.int .i64 0, .int .i64 0]) f1.base (by simp) rfl ?_⟩
      rw [put_new]
      have s2 : Step h (h1.new [.int .i64 0, .int .i64 0] 2) [] [] := (s1.new _ _).drop
      have := hk0 (h1.new [.int .i64 0, .int .i64 0] 2) xl S (by rw [scanL_none hs]; simpa using vl.frame s2 (by simp)) (s2.idle S fun b hb => (vl.lt b hb).2)
      rw [scanL_none hs] at this
      simpa only [lenSl_slice, lenStr_string, str_size, fpureA_some, fnilA_ptr, faddA_ptr, addr_add, Nat.zero_add, Nat.add_zero, fpureQ_k, fpureQ_nilA, fpureQ_addA, fpureQ_pureA, fpureQ_guardA, fpureQ_idxSlA, fpureQ_pickA, freadQ_loadA, freadQ_loadNA, freadQ_b2sA, freadQ_guardA, freadQ_slSlA, freadQ_k, fendA, fallA_one, fstillA_nil, fguardA_tt, fguardA_ff, fguardA_tf, fguardA_ft, fguardA_undef, fpickA_true, fpickA_false, fcondA_true, fcondA_false, binA_add, binA_sub, binA_mul, binA_eql, binA_neq, binA_lss, binA_leq, binA_gtr, binA_geq, unA_not, Bool.not_true, Bool.not_false, convA_int, extA_tuple, List.getElem?_toArray, List.getElem?_cons_zero, List.getElem?_cons_succ] using this
    | some n =>
      have hm := slotOf_some hs
      simp only [slotV, slt, lenSl_slice, lenStr_string, str_size, fpureA_some, fnilA_ptr, faddA_ptr, addr_add, Nat.zero_add, Nat.add_zero, fpureQ_k, fpureQ_nilA, fpureQ_addA, fpureQ_pureA, fpureQ_guardA, fpureQ_idxSlA, fpureQ_pickA, freadQ_loadA, freadQ_loadNA, freadQ_b2sA, freadQ_guardA, freadQ_slSlA, freadQ_k, fendA, fallA_one, fstillA_nil, fguardA_tt, fguardA_ff, fguardA_tf, fguardA_ft, fguardA_undef, fpickA_true, fpickA_false, fcondA_true, fcondA_false, binA_add, binA_sub, binA_mul, binA_eql, binA_neq, binA_lss, binA_leq, binA_gtr, binA_geq, unA_not, Bool.not_true, Bool.not_false, convA_int, extA_tuple, List.getElem?_toArray, List.getElem?_cons_zero, List.getElem?_cons_succ, newA_iff]
      refine ⟨by simp, store2 (cs := [.int .i64 0, .int .i64 0]) f1.base (by simp) rfl ?_⟩
      rw [put_new]
      have s2 : Step h1 (h1.new [.int .i64 ((a + 8 : Nat) : Int), .int .i64 (n : Int)] 2) [] [h1.next] := (Step.refl h1 [] (by simp)).new _ _
      have hq2 : (h1.new [.int .i64 ((a + 8 : Nat) : Int), .int .i64 (n : Int)] 2).blk h1.next = some [.int .i64 ((a + 8 : Nat) : Int), .int .i64 (n : Int)] := by simp
      have hl2 : h1.next < (h1.new [.int .i64 ((a + 8 : Nat) : Int), .int .i64 (n : Int)] 2).next := by simp
      have f2 : Fit w0 (h1.new [.int .i64 ((a + 8 : Nat) : Int), .int .i64 (n : Int)] 2) := f1.new (by simp)
      generalize h1.new [.int .i64 ((a + 8 : Nat) : Int), .int .i64 (n : Int)] 2 = h2 at s2 hq2 hl2 f2 ⊢
      have t2 : Step h h2 [] [] := s1.trans s2.drop
      refine loadNA_whole f1.base hq2 rfl ?_
      refine app_slot f2.base (vl.frame t2 (by simp)) (by omega) fun x3 h3 S3 v3 s3 => ?_
      have hq1S : h1.next ∉ S := fun e => by have := (vl.lt _ e).2; have := s1.next; omega
      have hq3 : h3.blk h1.next = _ := (s3.keep _ hl2 hq1S).1.trans hq2
      have e1 : IntKind.i64.wrap (((a + 8 : Nat) : Int) + (n : Int)) = ((a + 8 + n : Nat) : Int) := by rw [IntWalk.i64_in _ (by omega)]; simp
      refine loadA_at f1.base hq3 (by rfl) ?_
      refine loadA_at f1.base hq3 (by rfl) ?_
      simp only [lenSl_slice, lenStr_string, str_size, fpureA_some, fnilA_ptr, faddA_ptr, addr_add, Nat.zero_add, Nat.add_zero, fpureQ_k, fpureQ_nilA, fpureQ_addA, fpureQ_pureA, fpureQ_guardA, fpureQ_idxSlA, fpureQ_pickA, freadQ_loadA, freadQ_loadNA, freadQ_b2sA, freadQ_guardA, freadQ_slSlA, freadQ_k, fendA, fallA_one, fstillA_nil, fguardA_tt, fguardA_ff, fguardA_tf, fguardA_ft, fguardA_undef, fpickA_true, fpickA_false, fcondA_true, fcondA_false, binA_add, binA_sub, binA_mul, binA_eql, binA_neq, binA_lss, binA_leq, binA_gtr, binA_geq, unA_not, Bool.not_true, Bool.not_false, convA_int, extA_tuple, List.getElem?_toArray, List.getElem?_cons_zero, List.getElem?_cons_succ, e1]
      have t3 : Step h h3 S S3 := (t2.idle S fun b hb => (vl.lt b hb).2).trans s3
      have := ih (a + 8 + n) (pre ++ [(a + 8, n)]) h3 x3 S3 (by omega) (by omega) (by simp; omega) (fun h' S' st => vbs h' S' (t3.trans st)) v3 (by simp; omega) (fun h4 x4 S4 v4 s4 => by
        have := hk0 h4 x4 S4 (by simp only [scanL, hs]; simpa using v4) (t3.trans s4)
        simpa only [scanL, hs] using this)
      exact this
/-- What a scan tells. -/
def headOk (b : List UInt8) (s : Nat) : Bool := decide (b.take 16 = mark16 dpak (rdn ((b.drop 4).take 4)) s)
theorem Scan_spec {x : Value} {b : List UInt8} (v : Bs w0 h x b) (hb : b.length ≤ 1000000000) (n s : Int) (hn : -9223372036854775808 ≤ n ∧ n ≤ 9223372036854775807) :
    ACalls prog w0 n_pack_Scan [.int .i64 n, .int .i64 s, x] h fun r h' => Step h h' [] [] ∧
      if pfits n s = true ∧ (b.length : Int) = n * s then
        if headOk b s.toNat = true then
          ∃ xl S', r = .tuple #[.int .u32 (rdn ((b.drop 4).take 4) : Nat), xl, .bool (decide (b.drop (b.length - 16) = mark16 dfot (scanL b (b.length - 16) b.length 16).1.length (scanL b (b.length - 16) b.length 16).2)), .int .i64 0] ∧
            GV w0 h' 2 xl (scanL b (b.length - 16) b.length 16).1.length (slotC (scanL b (b.length - 16) b.length 16).1) S'
        else r = .tuple #[.int .u32 0, .slice none 0 0, .bool false, .int .i64 130]
      else r = .tuple #[.int .u32 0, .slice none 0 0, .bool false, .int .i64 1] := by
  refine ACalls.of_fit (by simpa using v.junk) fun f => c_pack_Scan (by simpa using v.junk) ?_
  obtain ⟨ax, cx, hx⟩ := v.slice
  have hlen : lenSl x = some (.int .i64 b.length) := by rw [hx]; rfl
  refine callA_of (fits_spec n s hn) fun _ h1 ⟨e, e1⟩ f1 => ?_
  subst e e1
  cases hf : pfits n s with
  | false =>
    simp only [lenSl_slice, lenStr_string, str_size, fpureA_some, fnilA_ptr, faddA_ptr, addr_add, Nat.zero_add, Nat.add_zero, fpureQ_k, fpureQ_nilA, fpureQ_addA, fpureQ_pureA, fpureQ_guardA, fpureQ_idxSlA, fpureQ_pickA, freadQ_loadA, freadQ_loadNA, freadQ_b2sA, freadQ_guardA, freadQ_slSlA, freadQ_k, fendA, fallA_one, fstillA_nil, fguardA_tt, fguardA_ff, fguardA_tf, fguardA_ft, fguardA_undef, fpickA_true, fpickA_false, fcondA_true, fcondA_false, binA_add, binA_sub, binA_mul, binA_eql, binA_neq, binA_lss, binA_leq, binA_gtr, binA_geq, unA_not, Bool.not_true, Bool.not_false, convA_int, extA_tuple, List.getElem?_toArray, List.getElem?_cons_zero, List.getElem?_cons_succ, retA_iff, oneOf_two]
    refine ⟨by simp, .refl _ _ (by simp), ?_⟩
    rw [if_neg (by simp)]
    trivial
  | true =>
  obtain ⟨r1, r2, r3, r4⟩ := pfits_range hf
  obtain ⟨n, rfl⟩ := Int.eq_ofNat_of_zero_le (show 0 ≤ n by omega)
  obtain ⟨s, rfl⟩ := Int.eq_ofNat_of_zero_le (show 0 ≤ s by omega)
  have hm1 := Nat.mul_le_mul (show n ≤ 4096 by omega) (show s ≤ 64 by omega)
  have hm2 := Nat.mul_le_mul (show 512 ≤ n by omega) (show 1 ≤ s by omega)
  have e1 : IntKind.i64.wrap ((n : Int) * (s : Int)) = ((n * s : Nat) : Int) := by rw [IntWalk.i64_in _ (by rw [← Int.natCast_mul]; omega)]; simp
  have e2 : IntKind.u32.wrap (s : Int) = (s : Int) := IntWalk.u32_in _ (by omega)
  simp only [hlen, lenSl_slice, lenStr_string, str_size, fpureA_some, fnilA_ptr, faddA_ptr, addr_add, Nat.zero_add, Nat.add_zero, fpureQ_k, fpureQ_nilA, fpureQ_addA, fpureQ_pureA, fpureQ_guardA, fpureQ_idxSlA, fpureQ_pickA, freadQ_loadA, freadQ_loadNA, freadQ_b2sA, freadQ_guardA, freadQ_slSlA, freadQ_k, fendA, fallA_one, fstillA_nil, fguardA_tt, fguardA_ff, fguardA_tf, fguardA_ft, fguardA_undef, fpickA_true, fpickA_false, fcondA_true, fcondA_false, binA_add, binA_sub, binA_mul, binA_eql, binA_neq, binA_lss, binA_leq, binA_gtr, binA_geq, unA_not, Bool.not_true, Bool.not_false, convA_int, extA_tuple, List.getElem?_toArray, List.getElem?_cons_zero, List.getElem?_cons_succ, e1]
  by_cases hbl : b.length = n * s
  · have c1 : ((b.length : Int) != ((n * s : Nat) : Int)) = false := by rw [hbl]; simp
    have c1' : ((b.length : Int) = (n : Int) * (s : Int)) = True := eq_true (by rw [hbl]; simp)
    simp only [c1, lenSl_slice, lenStr_string, str_size, fpureA_some, fnilA_ptr, faddA_ptr, addr_add, Nat.zero_add, Nat.add_zero, fpureQ_k, fpureQ_nilA, fpureQ_addA, fpureQ_pureA, fpureQ_guardA, fpureQ_idxSlA, fpureQ_pickA, freadQ_loadA, freadQ_loadNA, freadQ_b2sA, freadQ_guardA, freadQ_slSlA, freadQ_k, fendA, fallA_one, fstillA_nil, fguardA_tt, fguardA_ff, fguardA_tf, fguardA_ft, fguardA_undef, fpickA_true, fpickA_false, fcondA_true, fcondA_false, binA_add, binA_sub, binA_mul, binA_eql, binA_neq, binA_lss, binA_leq, binA_gtr, binA_geq, unA_not, Bool.not_true, Bool.not_false, convA_int, extA_tuple, List.getElem?_toArray, List.getElem?_cons_zero, List.getElem?_cons_succ, c1', and_self, if_true]
    refine v.cut (lo := 4) (hi := 8) (olo := some (.int .i64 4)) (ohi := some (.int .i64 8)) rfl rfl (by omega) (by omega) fun x1 _ _ y1 => ?_
    rw [show 8 = 4 + 4 from rfl, cut_eq] at y1
    refine y1.b2s ?_
    have hl4 : ((b.drop 4).take 4).length = 4 := by simp; omega
    refine callA_of (NewReader_spec _ (by omega)) fun _ h2 ⟨e, w2, s2⟩ f2 => ?_
    subst e
    refine callA_of (RU32_spec w2) fun _ h3 ⟨e, w3, s3⟩ f3 => ?_
    subst e
    have rr : ((⟨(b.drop 4).take 4, 0⟩ : RS).raw 4).1 = (b.drop 4).take 4 := by
      unfold RS.raw
      rw [if_neg (by simp), if_neg (by omega), if_neg (by simp only [hl4]; omega)]
      exact List.take_of_length_le (Nat.le_of_eq hl4)
    rw [rr]
    have t3 : Step h1 h3 [] [] := (s2.trans s3).drop
    have v3 : Bs w0 h3 x b := v.step f t3 (by simp)
    refine v3.cut (lo := 0) (hi := 16) (olo := none) (ohi := some (.int .i64 16)) rfl rfl (by omega) (by omega) fun x4 hx4 _ y4 => ?_
    rw [List.drop_zero] at y4
    refine y4.b2s ?_
    simp only [lenSl_slice, lenStr_string, str_size, fpureA_some, fnilA_ptr, faddA_ptr, addr_add, Nat.zero_add, Nat.add_zero, fpureQ_k, fpureQ_nilA, fpureQ_addA, fpureQ_pureA, fpureQ_guardA, fpureQ_idxSlA, fpureQ_pickA, freadQ_loadA, freadQ_loadNA, freadQ_b2sA, freadQ_guardA, freadQ_slSlA, freadQ_k, fendA, fallA_one, fstillA_nil, fguardA_tt, fguardA_ff, fguardA_tf, fguardA_ft, fguardA_undef, fpickA_true, fpickA_false, fcondA_true, fcondA_false, binA_add, binA_sub, binA_mul, binA_eql, binA_neq, binA_lss, binA_leq, binA_gtr, binA_geq, unA_not, Bool.not_true, Bool.not_false, convA_int, extA_tuple, List.getElem?_toArray, List.getElem?_cons_zero, List.getElem?_cons_succ, e2]
    refine callA_of (marked_spec (name := dpak) rfl (rdn ((b.drop 4).take 4)) s) fun _ h5 ⟨e, s5⟩ f5 => ?_
    subst e
    have t5 : Step h1 h5 [] [] := t3.trans s5
    have v5 : Bs w0 h5 x b := v.step f t5 (by simp)
    have y5 := v5.cut_sl (lo := 0) (hi := 16) (by omega) (by omega)
    rw [← hx4, List.drop_zero] at y5
    simp only [lenSl_slice, lenStr_string, str_size, fpureA_some, fnilA_ptr, faddA_ptr, addr_add, Nat.zero_add, Nat.add_zero, fpureQ_k, fpureQ_nilA, fpureQ_addA, fpureQ_pureA, fpureQ_guardA, fpureQ_idxSlA, fpureQ_pickA, freadQ_loadA, freadQ_loadNA, freadQ_b2sA, freadQ_guardA, freadQ_slSlA, freadQ_k, fendA, fallA_one, fstillA_nil, fguardA_tt, fguardA_ff, fguardA_tf, fguardA_ft, fguardA_undef, fpickA_true, fpickA_false, fcondA_true, fcondA_false, binA_add, binA_sub, binA_mul, binA_eql, binA_neq, binA_lss, binA_leq, binA_gtr, binA_geq, unA_not, Bool.not_true, Bool.not_false, convA_int, extA_tuple, List.getElem?_toArray, List.getElem?_cons_zero, List.getElem?_cons_succ, stillA_iff, allA_cons, allA_one, sameQ_slSlA, sameQ_b2sA]
    refine ⟨⟨y5.b2s rfl, v5.cut (lo := 0) (hi := 16) (olo := none) (ohi := some (.int .i64 16)) rfl rfl (by omega) (by omega) fun _ e _ _ => e.trans hx4.symm⟩, ?_⟩
    simp only [binA_strneq, str_inj, lenSl_slice, lenStr_string, str_size, fpureA_some, fnilA_ptr, faddA_ptr, addr_add, Nat.zero_add, Nat.add_zero, fpureQ_k, fpureQ_nilA, fpureQ_addA, fpureQ_pureA, fpureQ_guardA, fpureQ_idxSlA, fpureQ_pickA, freadQ_loadA, freadQ_loadNA, freadQ_b2sA, freadQ_guardA, freadQ_slSlA, freadQ_k, fendA, fallA_one, fstillA_nil, fguardA_tt, fguardA_ff, fguardA_tf, fguardA_ft, fguardA_undef, fpickA_true, fpickA_false, fcondA_true, fcondA_false, binA_add, binA_sub, binA_mul, binA_eql, binA_neq, binA_lss, binA_leq, binA_gtr, binA_geq, unA_not, Bool.not_true, Bool.not_false, convA_int, extA_tuple, List.getElem?_toArray, List.getElem?_cons_zero, List.getElem?_cons_succ]
    by_cases hh : b.take 16 = mark16 dpak (rdn ((b.drop 4).take 4)) s
    · have c2 : decide (b.take 16 = mark16 dpak (rdn ((b.drop 4).take 4)) s) = true := decide_eq_true hh
      have c2' : headOk b ((s : Int).toNat) = true := by rw [Int.toNat_natCast]; exact c2
      simp only [c2, c2', if_true, lenSl_slice, lenStr_string, str_size, fpureA_some, fnilA_ptr, faddA_ptr, addr_add, Nat.zero_add, Nat.add_zero, fpureQ_k, fpureQ_nilA, fpureQ_addA, fpureQ_pureA, fpureQ_guardA, fpureQ_idxSlA, fpureQ_pickA, freadQ_loadA, freadQ_loadNA, freadQ_b2sA, freadQ_guardA, freadQ_slSlA, freadQ_k, fendA, fallA_one, fstillA_nil, fguardA_tt, fguardA_ff, fguardA_tf, fguardA_ft, fguardA_undef, fpickA_true, fpickA_false, fcondA_true, fcondA_false, binA_add, binA_sub, binA_mul, binA_eql, binA_neq, binA_lss, binA_leq, binA_gtr, binA_geq, unA_not, Bool.not_true, Bool.not_false, convA_int, extA_tuple, List.getElem?_toArray, List.getElem?_cons_zero, List.getElem?_cons_succ]
      have e6 : IntKind.i64.wrap ((b.length : Int) - 16) = ((b.length - 16 : Nat) : Int) := by rw [IntWalk.i64_in _ (by omega)]; omega
      simp only [hlen, lenSl_slice, lenStr_string, str_size, fpureA_some, fnilA_ptr, faddA_ptr, addr_add, Nat.zero_add, Nat.add_zero, fpureQ_k, fpureQ_nilA, fpureQ_addA, fpureQ_pureA, fpureQ_guardA, fpureQ_idxSlA, fpureQ_pickA, freadQ_loadA, freadQ_loadNA, freadQ_b2sA, freadQ_guardA, freadQ_slSlA, freadQ_k, fendA, fallA_one, fstillA_nil, fguardA_tt, fguardA_ff, fguardA_tf, fguardA_ft, fguardA_undef, fpickA_true, fpickA_false, fcondA_true, fcondA_false, binA_add, binA_sub, binA_mul, binA_eql, binA_neq, binA_lss, binA_leq, binA_gtr, binA_geq, unA_not, Bool.not_true, Bool.not_false, convA_int, extA_tuple, List.getElem?_toArray, List.getElem?_cons_zero, List.getElem?_cons_succ, e6]
      refine ⟨b.length + 1, ?_⟩
      refine scan_loop (w0 := w0) (en := b.length - 16) (by omega) hb b.length 16 [] h5 (.slice none 0 0) [] (by omega) (by omega) (by simp; omega) (fun h' S' st => v.step f (t5.trans st) (by simp)) (.inl .nil) (by simp) (fun h6 xl S6 v6 s6 => ?_)
      rw [List.nil_append] at v6
      have t6 : Step h1 h6 [] S6 := t5.trans s6
      have v6b : Bs w0 h6 x b := v.step f t6 (by simp)
      have hbd := scanL_bound (b := b) (en := b.length - 16) b.length 16
      generalize hsc : scanL b (b.length - 16) b.length 16 = sc at v6 hbd ⊢
      obtain ⟨a6, c6, hx6⟩ := v6.slice
      have hl6 : lenSl xl = some (.int .i64 sc.1.length) := by rw [hx6]; rfl
      have e7 : IntKind.u32.wrap (sc.1.length : Int) = (sc.1.length : Int) := IntWalk.u32_in _ (by omega)
      have e8 : IntKind.u32.wrap (sc.2 : Int) = (sc.2 : Int) := IntWalk.u32_in _ (by omega)
      refine v6b.cut (lo := b.length - 16) (hi := b.length) boundA_nat rfl (by omega) (Nat.le_refl _) fun x7 hx7 _ y7 => ?_
      rw [List.take_of_length_le (Nat.le_refl _)] at y7
      refine y7.b2s ?_
      simp only [hl6, lenSl_slice, lenStr_string, str_size, fpureA_some, fnilA_ptr, faddA_ptr, addr_add, Nat.zero_add, Nat.add_zero, fpureQ_k, fpureQ_nilA, fpureQ_addA, fpureQ_pureA, fpureQ_guardA, fpureQ_idxSlA, fpureQ_pickA, freadQ_loadA, freadQ_loadNA, freadQ_b2sA, freadQ_guardA, freadQ_slSlA, freadQ_k, fendA, fallA_one, fstillA_nil, fguardA_tt, fguardA_ff, fguardA_tf, fguardA_ft, fguardA_undef, fpickA_true, fpickA_false, fcondA_true, fcondA_false, binA_add, binA_sub, binA_mul, binA_eql, binA_neq, binA_lss, binA_leq, binA_gtr, binA_geq, unA_not, Bool.not_true, Bool.not_false, convA_int, extA_tuple, List.getElem?_toArray, List.getElem?_cons_zero, List.getElem?_cons_succ, e7, e8]
      refine callA_of (marked_spec (name := dfot) rfl sc.1.length sc.2) fun _ h8 ⟨e, s8⟩ f8 => ?_
      subst e
      have t8 : Step h1 h8 [] S6 := t6.trans (s8.idle S6 fun b hb => (v6.lt b hb).2)
      have v8b : Bs w0 h8 x b := v.step f t8 (by simp)
      have y8 := v8b.cut_sl (lo := b.length - 16) (hi := b.length) (by omega) (Nat.le_refl _)
      rw [← hx7, List.take_of_length_le (Nat.le_refl _)] at y8
      simp only [lenSl_slice, lenStr_string, str_size, fpureA_some, fnilA_ptr, faddA_ptr, addr_add, Nat.zero_add, Nat.add_zero, fpureQ_k, fpureQ_nilA, fpureQ_addA, fpureQ_pureA, fpureQ_guardA, fpureQ_idxSlA, fpureQ_pickA, freadQ_loadA, freadQ_loadNA, freadQ_b2sA, freadQ_guardA, freadQ_slSlA, freadQ_k, fendA, fallA_one, fstillA_nil, fguardA_tt, fguardA_ff, fguardA_tf, fguardA_ft, fguardA_undef, fpickA_true, fpickA_false, fcondA_true, fcondA_false, binA_add, binA_sub, binA_mul, binA_eql, binA_neq, binA_lss, binA_leq, binA_gtr, binA_geq, unA_not, Bool.not_true, Bool.not_false, convA_int, extA_tuple, List.getElem?_toArray, List.getElem?_cons_zero, List.getElem?_cons_succ, stillA_iff, allA_cons, allA_one, sameQ_slSlA, sameQ_b2sA]
      refine ⟨⟨y8.b2s rfl, v8b.cut (lo := b.length - 16) (hi := b.length) boundA_nat rfl (by omega) (Nat.le_refl _) fun _ e _ _ => e.trans hx7.symm⟩, ?_⟩
      simp only [binA_streql, str_inj, lenSl_slice, lenStr_string, str_size, fpureA_some, fnilA_ptr, faddA_ptr, addr_add, Nat.zero_add, Nat.add_zero, fpureQ_k, fpureQ_nilA, fpureQ_addA, fpureQ_pureA, fpureQ_guardA, fpureQ_idxSlA, fpureQ_pickA, freadQ_loadA, freadQ_loadNA, freadQ_b2sA, freadQ_guardA, freadQ_slSlA, freadQ_k, fendA, fallA_one, fstillA_nil, fguardA_tt, fguardA_ff, fguardA_tf, fguardA_ft, fguardA_undef, fpickA_true, fpickA_false, fcondA_true, fcondA_false, binA_add, binA_sub, binA_mul, binA_eql, binA_neq, binA_lss, binA_leq, binA_gtr, binA_geq, unA_not, Bool.not_true, Bool.not_false, convA_int, extA_tuple, List.getElem?_toArray, List.getElem?_cons_zero, List.getElem?_cons_succ, retA_iff, oneOf_two]
      refine ⟨by rw [hx6]; simp, t8.drop, xl, S6, rfl, v6.frame s8 (by simp)⟩
    · have c2 : decide (b.take 16 = mark16 dpak (rdn ((b.drop 4).take 4)) s) = false := decide_eq_false hh
      have c2' : headOk b ((s : Int).toNat) = false := by rw [Int.toNat_natCast]; exact c2
      simp only [c2, c2', Bool.false_eq_true, if_false, lenSl_slice, lenStr_string, str_size, fpureA_some, fnilA_ptr, faddA_ptr, addr_add, Nat.zero_add, Nat.add_zero, fpureQ_k, fpureQ_nilA, fpureQ_addA, fpureQ_pureA, fpureQ_guardA, fpureQ_idxSlA, fpureQ_pickA, freadQ_loadA, freadQ_loadNA, freadQ_b2sA, freadQ_guardA, freadQ_slSlA, freadQ_k, fendA, fallA_one, fstillA_nil, fguardA_tt, fguardA_ff, fguardA_tf, fguardA_ft, fguardA_undef, fpickA_true, fpickA_false, fcondA_true, fcondA_false, binA_add, binA_sub, binA_mul, binA_eql, binA_neq, binA_lss, binA_leq, binA_gtr, binA_geq, unA_not, Bool.not_true, Bool.not_false, convA_int, extA_tuple, List.getElem?_toArray, List.getElem?_cons_zero, List.getElem?_cons_succ, retA_iff, oneOf_two]
      exact ⟨by simp, t5, by trivial⟩
  · have c1 : ((b.length : Int) != ((n * s : Nat) : Int)) = true := by rw [bne_iff_ne]; omega
    have c1' : ¬ ((b.length : Int) = (n : Int) * (s : Int)) := by rw [← Int.natCast_mul]; omega
    simp only [c1, lenSl_slice, lenStr_string, str_size, fpureA_some, fnilA_ptr, faddA_ptr, addr_add, Nat.zero_add, Nat.add_zero, fpureQ_k, fpureQ_nilA, fpureQ_addA, fpureQ_pureA, fpureQ_guardA, fpureQ_idxSlA, fpureQ_pickA, freadQ_loadA, freadQ_loadNA, freadQ_b2sA, freadQ_guardA, freadQ_slSlA, freadQ_k, fendA, fallA_one, fstillA_nil, fguardA_tt, fguardA_ff, fguardA_tf, fguardA_ft, fguardA_undef, fpickA_true, fpickA_false, fcondA_true, fcondA_false, binA_add, binA_sub, binA_mul, binA_eql, binA_neq, binA_lss, binA_leq, binA_gtr, binA_geq, unA_not, Bool.not_true, Bool.not_false, convA_int, extA_tuple, List.getElem?_toArray, List.getElem?_cons_zero, List.getElem?_cons_succ, retA_iff, oneOf_two, eq_false c1', and_false, if_false]
    exact ⟨by simp, .refl _ _ (by simp), by trivial⟩
end
end Go.Proofs.Ytfhamcobfpmgbaa.Ah
