/- Scan of both; PackScans. -/
import Derived.Test.YtfhamcobfpmgbaaPi
set_option linter.unusedVariables false
set_option linter.unusedSimpArgs false
namespace Go.Proofs.Ytfhamcobfpmgbaa.Ah
open Go

/-- The slots from a place on, and where they end. -/
def scanL (b : List UInt8) (en : Nat) : Nat → Nat → List (Nat × Nat) × Nat
  | 0, a => ([], a)
  | k + 1, a =>
    match slotOf b a en with
    | none => ([], a)
    | some n => ((a + 8, n) :: (scanL b en k (a + 8 + n)).1, (scanL b en k (a + 8 + n)).2)
theorem scanL_none {b : List UInt8} {en k a : Nat} (h : slotOf b a en = none) : scanL b en k a = ([], a) := by
  cases k with
  | zero => rfl
  | succ k => simp only [scanL, h]
theorem slotOf_far {b : List UInt8} {en a : Nat} (h : en < a + 8) : slotOf b a en = none := by unfold slotOf; rw [if_pos h]
theorem scanL_bound {b : List UInt8} {en : Nat} : ∀ (k a : Nat), a ≤ (scanL b en k a).2 ∧ ((scanL b en k a).2 ≤ a ∨ (scanL b en k a).2 ≤ en) ∧ (scanL b en k a).1.length ≤ (scanL b en k a).2 - a := by
  intro k
  induction k with
  | zero => intro a; simp [scanL]
  | succ k ih =>
    intro a
    cases h : slotOf b a en with
    | none => rw [scanL_none h]; simp
    | some n =>
      have h1 := slotOf_some h
      have h2 := ih (a + 8 + n)
      simp only [scanL, h, List.length_cons]
      omega
theorem slotC_snoc (l : List (Nat × Nat)) (p : Nat × Nat) : slotC (l ++ [p]) = slotC l ++ [.int .i64 (p.1 : Int), .int .i64 (p.2 : Int)] := by simp [slotC]
section
variable {w0 : World} {h : Hp}
/-- One slot more behind those of a vector. -/
theorem app_slot {x : Value} {l : List (Nat × Nat)} {S : List Nat} {a b : Nat} {K : Kont} (hf : w0.heap.size ≤ h.next) (v : GV w0 h 2 x l.length (slotC l) S) (hl : l.length ≤ 1000000000)
    (hk : ∀ x' h' S', GV w0 h' 2 x' (l ++ [(a, b)]).length (slotC (l ++ [(a, b)])) S' → Step h h' S S' → K x' h') :
    bslA [(0, 2, true, .agg #[.int .i64 (a : Int), .int .i64 (b : Int)])] (zerosL [(.int .i64 0), (.int .i64 0)] 1) 1 2 (fun v5 => appA w0 2 16 x v5 K) h := by
  have hz : zerosL [(.int .i64 0 : Value), .int .i64 0] 1 = [.int .i64 0, .int .i64 0] := rfl
  simp only [bslA_iff, hz, fillA_agg, fillA_nil]
  refine ⟨by simp, by simp, ?_⟩
  rw [splice_all _ _ (by simp)]
  have s9 : Step h (h.new [.int .i64 (a : Int), .int .i64 (b : Int)] 2) [] [h.next] := (Step.refl h [] (by simp)).new _ _
  have src9 : Src w0.heap.size (h.new [.int .i64 (a : Int), .int .i64 (b : Int)] 2) 2 (.slice (some ⟨h.next, 0, none⟩) 1 1) 1 [.int .i64 (a : Int), .int .i64 (b : Int)] := src_new hf (by simp)
  refine appA_gv (m := 1) (by simp; omega) (v.frame s9 (by simp)) (by simp) src9 (by simp) (by omega) (by omega) (by omega) fun x10 h10 B' vs10 s10 => ?_
  refine hk x10 h10 B' (by rw [slotC_snoc, List.length_append]; exact vs10) ?_
  exact (s9.idle S fun b hb => (v.lt b hb).2).trans s10
theorem scan_loop {k0 : Value → Value → Value → Value → Value → Hp → Prop} {x x6 : Value} {b : List UInt8} {en : Nat} (hen : en ≤ b.length) (hb : b.length ≤ 1000000000) :
    ∀ (k a : Nat) (pre : List (Nat × Nat)) (h : Hp) (xl : Value) (S : List Nat), a ≤ 1000000000 → en < a + k → pre.length + k ≤ 2000000000 → (∀ h' S', Step h h' S S' → Bs w0 h' x b) → GV w0 h 2 xl pre.length (slotC pre) S → pre.length ≤ a →
    (∀ h' xl' S', GV w0 h' 2 xl' (pre ++ (scanL b en k a).1).length (slotC (pre ++ (scanL b en k a).1)) S' → Step h h' S S' → k0 x x6 xl' (.int .i64 (en : Int)) (.int .i64 ((scanL b en k a).2 : Int)) h') →
    pack_Scan_L1 prog w0 k0 (k + 1) x x6 xl (.int .i64 (en : Int)) (.int .i64 (a : Int)) h := by
  intro k
  induction k with
  | zero =>
    intro a pre h xl S ha hk hpk vbs vl hpa hk0
    have hn : slotOf b a en = none := slotOf_far (by omega)
    rw [pack_Scan_L1]
    simp only [pack_Scan_B1]
    refine callA_of (slotAt_spec (vbs h S vl.refl) hb (by omega) hen) fun r h1 ⟨e, s1⟩ f1 => ?_
    subst e
    simp only [hn, slotV, slt, lenSl_slice, lenStr_string, str_size, fpureA_some, fnilA_ptr, faddA_ptr, addr_add, Nat.zero_add, Nat.add_zero, fpureQ_k, fpureQ_nilA, fpureQ_addA, fpureQ_pureA, fpureQ_guardA, fpureQ_idxSlA, fpureQ_pickA, freadQ_loadA, freadQ_loadNA, freadQ_b2sA, freadQ_guardA, freadQ_slSlA, freadQ_k, fendA, fallA_one, fstillA_nil, fguardA_tt, fguardA_ff, fguardA_tf, fguardA_ft, fguardA_undef, fpickA_true, fpickA_false, fcondA_true, fcondA_false, binA_add, binA_sub, binA_mul, binA_eql, binA_neq, binA_lss, binA_leq, binA_gtr, binA_geq, unA_not, Bool.not_true, Bool.not_false, convA_int, extA_tuple, List.getElem?_toArray, List.getElem?_cons_zero, List.getElem?_cons_succ, newA_iff]
    refine ⟨by simp, store2 (cs := [.int .i64 0, .int .i64 0]) f1.base (by simp) rfl ?_⟩
    rw [put_new]
    have s2 : Step h (h1.new [.int .i64 0, .int .i64 0] 2) [] [] := (s1.new _ _).drop
    have := hk0 (h1.new [.int .i64 0, .int .i64 0] 2) xl S (by simpa [scanL] using vl.frame s2 (by simp)) (s2.idle S fun b hb => (vl.lt b hb).2)
    simpa only [lenSl_slice, lenStr_string, str_size, fpureA_some, fnilA_ptr, faddA_ptr, addr_add, Nat.zero_add, Nat.add_zero, fpureQ_k, fpureQ_nilA, fpureQ_addA, fpureQ_pureA, fpureQ_guardA, fpureQ_idxSlA, fpureQ_pickA, freadQ_loadA, freadQ_loadNA, freadQ_b2sA, freadQ_guardA, freadQ_slSlA, freadQ_k, fendA, fallA_one, fstillA_nil, fguardA_tt, fguardA_ff, fguardA_tf, fguardA_ft, fguardA_undef, fpickA_true, fpickA_false, fcondA_true, fcondA_false, binA_add, binA_sub, binA_mul, binA_eql, binA_neq, binA_lss, binA_leq, binA_gtr, binA_geq, unA_not, Bool.not_true, Bool.not_false, convA_int, extA_tuple, List.getElem?_toArray, List.getElem?_cons_zero, List.getElem?_cons_succ, scanL] using this
  | succ k ih =>
    intro a pre h xl S ha hk hpk vbs vl hpa hk0
    rw [pack_Scan_L1]
    simp only [pack_Scan_B1]
    refine callA_of (slotAt_spec (vbs h S vl.refl) hb (by omega) hen) fun r h1 ⟨e, s1⟩ f1 => ?_
    subst e
    cases hs : slotOf b a en with
    | none =>
      simp only [slotV, slt, lenSl_slice, lenStr_string, str_size, fpureA_some, fnilA_ptr, faddA_ptr, addr_add, Nat.zero_add, Nat.add_zero, fpureQ_k, fpureQ_nilA, fpureQ_addA, fpureQ_pureA, fpureQ_guardA, fpureQ_idxSlA, fpureQ_pickA, freadQ_loadA, freadQ_loadNA, freadQ_b2sA, freadQ_guardA, freadQ_slSlA, freadQ_k, fendA, fallA_one, fstillA_nil, fguardA_tt, fguardA_ff, fguardA_tf, fguardA_ft, fguardA_undef, fpickA_true, fpickA_false, fcondA_true, fcondA_false, binA_add, binA_sub, binA_mul, binA_eql, binA_neq, binA_lss, binA_leq, binA_gtr, binA_geq, unA_not, Bool.not_true, Bool.not_false, convA_int, extA_tuple, List.getElem?_toArray, List.getElem?_cons_zero, List.getElem?_cons_succ, newA_iff]
      refine ⟨by simp, store2 (cs := [.int .i64 0, .int .i64 0]) f1.base (by simp) rfl ?_⟩
      rw [put_new]
      have s2 : Step h (h1.new [.int .i64 0, .int .i64 0] 2) [] [] := (s1.new _ _).drop
      have := hk0 (h1.new [.int .i64 0, .int .i64 0] 2) xl S (by rw [scanL_none hs]; simpa using vl.frame s2 (by simp)) (s2.idle S fun b hb => (vl.lt b hb).2)
      rw [scanL_none hs] at this
      simpa only [lenSl_slice, lenStr_string, str_size, fpureA_some, fnilA_ptr, faddA_ptr, addr_add, Nat.zero_add, Nat.add_zero, fpureQ_k, fpureQ_nilA, fpureQ_addA, fpureQ_pureA, fpureQ_guardA, fpureQ_idxSlA, fpureQ_pickA, freadQ_loadA, freadQ_loadNA, freadQ_b2sA, freadQ_guardA, freadQ_slSlA, freadQ_k, fendA, fallA_one, fstillA_nil, fguardA_tt, fguardA_ff, fguardA_tf, fguardA_ft, fguardA_undef, fpickA_true, fpickA_false, fcondA_true, fcondA_false, binA_add, binA_sub, binA_mul, binA_eql, binA_neq, binA_lss, binA_leq, binA_gtr, binA_geq, unA_not, Bool.not_true, Bool.not_false, convA_int, extA_tuple, List.getElem?_toArray, List.getElem?_cons_zero, List.getElem?_cons_succ] using this
    | some n =>
      have hm := slotOf_some hs
      simp only [slotV, slt, lenSl_slice, lenStr_string, str_size, fpureA_some, fnilA_ptr, faddA_ptr, addr_add, Nat.zero_add, Nat.add_zero, fpureQ_k, fpureQ_nilA, fpureQ_addA, fpureQ_pureA, fpureQ_guardA, fpureQ_idxSlA, fpureQ_pickA, freadQ_loadA, freadQ_loadNA, freadQ_b2sA, freadQ_guardA, freadQ_slSlA, freadQ_k, fendA, fallA_one, fstillA_nil, fguardA_tt, fguardA_ff, fguardA_tf, fguardA_ft, fguardA_undef, fpickA_true, fpickA_false, fcondA_true, fcondA_false, binA_add, binA_sub, binA_mul, binA_eql, binA_neq, binA_lss, binA_leq, binA_gtr, binA_geq, unA_not, Bool.not_true, Bool.not_false, convA_int, extA_tuple, List.getElem?_toArray, List.getElem?_cons_zero, List.getElem?_cons_succ, newA_iff]
      refine ⟨by simp, store2 (cs := [.int .i64 0, .int .i64 0]) f1.base (by simp) rfl ?_⟩
      rw [put_new]
      have s2 : Step h1 (h1.new [.int .i64 ((a + 8 : Nat) : Int), .int .i64 (n : Int)] 2) [] [h1.next] := (Step.refl h1 [] (by simp)).new _ _
      have hq2 : (h1.new [.int .i64 ((a + 8 : Nat) : Int), .int .i64 (n : Int)] 2).blk h1.next = some [.int .i64 ((a + 8 : Nat) : Int), .int .i64 (n : Int)] := by simp
      have hl2 : h1.next < (h1.new [.int .i64 ((a + 8 : Nat) : Int), .int .i64 (n : Int)] 2).next := by simp
      have f2 : Fit w0 (h1.new [.int .i64 ((a + 8 : Nat) : Int), .int .i64 (n : Int)] 2) := f1.new (by simp)
      generalize h1.new [.int .i64 ((a + 8 : Nat) : Int), .int .i64 (n : Int)] 2 = h2 at s2 hq2 hl2 f2 ⊢
      have t2 : Step h h2 [] [] := s1.trans s2.drop
      refine loadNA_whole f1.base hq2 rfl ?_
      refine app_slot f2.base (vl.frame t2 (by simp)) (by omega) fun x3 h3 S3 v3 s3 => ?_
      have hq1S : h1.next ∉ S := fun e => by have := (vl.lt _ e).2; have := s1.next; omega
      have hq3 : h3.blk h1.next = _ := (s3.keep _ hl2 hq1S).1.trans hq2
      have e1 : IntKind.i64.wrap (((a + 8 : Nat) : Int) + (n : Int)) = ((a + 8 + n : Nat) : Int) := by rw [IntWalk.i64_in _ (by omega)]; simp
      refine loadA_at f1.base hq3 (by rfl) ?_
      refine loadA_at f1.base hq3 (by rfl) ?_
      simp only [lenSl_slice, lenStr_string, str_size, fpureA_some, fnilA_ptr, faddA_ptr, addr_add, Nat.zero_add, Nat.add_zero, fpureQ_k, fpureQ_nilA, fpureQ_addA, fpureQ_pureA, fpureQ_guardA, fpureQ_idxSlA, fpureQ_pickA, freadQ_loadA, freadQ_loadNA, freadQ_b2sA, freadQ_guardA, freadQ_slSlA, freadQ_k, fendA, fallA_one, fstillA_nil, fguardA_tt, fguardA_ff, fguardA_tf, fguardA_ft, fguardA_undef, fpickA_true, fpickA_false, fcondA_true, fcondA_false, binA_add, binA_sub, binA_mul, binA_eql, binA_neq, binA_lss, binA_leq, binA_gtr, binA_geq, unA_not, Bool.not_true, Bool.not_false, convA_int, extA_tuple, List.getElem?_toArray, List.getElem?_cons_zero, List.getElem?_cons_succ, e1]
      have t3 : Step h h3 S S3 := (t2.idle S fun b hb => (vl.lt b hb).2).trans s3
      have := ih (a + 8 + n) (pre ++ [(a + 8, n)]) h3 x3 S3 (by omega) (by omega) (by simp; omega) (fun h' S' st => vbs h' S' (t3.trans st)) v3 (by simp; omega) (fun h4 x4 S4 v4 s4 => by
        have := hk0 h4 x4 S4 (by simp only [scanL, hs]; simpa using v4) (t3.trans s4)
        simpa only [scanL, hs] using this)
      exact this
/-- What a scan tells. -/
def headOk (b : List UInt8) (s : Nat) : Bool := decide (b.take 16 = mark16 dpak (rdn ((b.drop 4).take 4)) s)
theorem Scan_spec {x : Value} {b : List UInt8} (v : Bs w0 h x b) (hb : b.length ≤ 1000000000) (n s : Int) (hn : -9223372036854775808 ≤ n ∧ n ≤ 9223372036854775807) :
    ACalls prog w0 n_pack_Scan [.int .i64 n, .int .i64 s, x] h fun r h' => Step h h' [] [] ∧
      if pfits n s = true ∧ (b.length : Int) = n * s then
        if headOk b s.toNat = true then
          ∃ xl S', r = .tuple #[.int .u32 (rdn ((b.drop 4).take 4) : Nat), xl, .bool (decide (b.drop (b.length - 16) = mark16 dfot (scanL b (b.length - 16) b.length 16).1.length (scanL b (b.length - 16) b.length 16).2)), .int .i64 0] ∧
            GV w0 h' 2 xl (scanL b (b.length - 16) b.length 16).1.length (slotC (scanL b (b.length - 16) b.length 16).1) S'
        else r = .tuple #[.int .u32 0, .slice none 0 0, .bool false, .int .i64 130]
      else r = .tuple #[.int .u32 0, .slice none 0 0, .bool false, .int .i64 1] := by
  refine ACalls.of_fit (by simpa using v.junk) fun f => c_pack_Scan (by simpa using v.junk) ?_
  obtain ⟨ax, cx, hx⟩ := v.slice
  have hlen : lenSl x = some (.int .i64 b.length) := by rw [hx]; rfl
  refine callA_of (fits_spec n s hn) fun _ h1 ⟨e, e1⟩ f1 => ?_
  subst e e1
  cases hf : pfits n s with
  | false =>
    simp only [lenSl_slice, lenStr_string, str_size, fpureA_some, fnilA_ptr, faddA_ptr, addr_add, Nat.zero_add, Nat.add_zero, fpureQ_k, fpureQ_nilA, fpureQ_addA, fpureQ_pureA, fpureQ_guardA, fpureQ_idxSlA, fpureQ_pickA, freadQ_loadA, freadQ_loadNA, freadQ_b2sA, freadQ_guardA, freadQ_slSlA, freadQ_k, fendA, fallA_one, fstillA_nil, fguardA_tt, fguardA_ff, fguardA_tf, fguardA_ft, fguardA_undef, fpickA_true, fpickA_false, fcondA_true, fcondA_false, binA_add, binA_sub, binA_mul, binA_eql, binA_neq, binA_lss, binA_leq, binA_gtr, binA_geq, unA_not, Bool.not_true, Bool.not_false, convA_int, extA_tuple, List.getElem?_toArray, List.getElem?_cons_zero, List.getElem?_cons_succ, retA_iff, oneOf_two]
    refine ⟨by simp, .refl _ _ (by simp), ?_⟩
    rw [if_neg (by simp)]
    trivial
  | true =>
  obtain ⟨r1, r2, r3, r4⟩ := pfits_range hf
  obtain ⟨n, rfl⟩ := Int.eq_ofNat_of_zero_le (show 0 ≤ n by omega)
  obtain ⟨s, rfl⟩ := Int.eq_ofNat_of_zero_le (show 0 ≤ s by omega)
  have hm1 := Nat.mul_le_mul (show n ≤ 4096 by omega) (show s ≤ 64 by omega)
  have hm2 := Nat.mul_le_mul (show 512 ≤ n by omega) (show 1 ≤ s by omega)
  have e1 : IntKind.i64.wrap ((n : Int) * (s : Int)) = ((n * s : Nat) : Int) := by rw [IntWalk.i64_in _ (by rw [← Int.natCast_mul]; omega)]; simp
  have e2 : IntKind.u32.wrap (s : Int) = (s : Int) := IntWalk.u32_in _ (by omega)
  simp only [hlen, lenSl_slice, lenStr_string, str_size, fpureA_some, fnilA_ptr, faddA_ptr, addr_add, Nat.zero_add, Nat.add_zero, fpureQ_k, fpureQ_nilA, fpureQ_addA, fpureQ_pureA, fpureQ_guardA, fpureQ_idxSlA, fpureQ_pickA, freadQ_loadA, freadQ_loadNA, freadQ_b2sA, freadQ_guardA, freadQ_slSlA, freadQ_k, fendA, fallA_one, fstillA_nil, fguardA_tt, fguardA_ff, fguardA_tf, fguardA_ft, fguardA_undef, fpickA_true, fpickA_false, fcondA_true, fcondA_false, binA_add, binA_sub, binA_mul, binA_eql, binA_neq, binA_lss, binA_leq, binA_gtr, binA_geq, unA_not, Bool.not_true, Bool.not_false, convA_int, extA_tuple, List.getElem?_toArray, List.getElem?_cons_zero, List.getElem?_cons_succ, e1]
  by_cases hbl : b.length = n * s
  · have c1 : ((b.length : Int) != ((n * s : Nat) : Int)) = false := by rw [hbl]; simp
    have c1' : ((b.length : Int) = (n : Int) * (s : Int)) = True := eq_true (by rw [hbl]; simp)
    simp only [c1, lenSl_slice, lenStr_string, str_size, fpureA_some, fnilA_ptr, faddA_ptr, addr_add, Nat.zero_add, Nat.add_zero, fpureQ_k, fpureQ_nilA, fpureQ_addA, fpureQ_pureA, fpureQ_guardA, fpureQ_idxSlA, fpureQ_pickA, freadQ_loadA, freadQ_loadNA, freadQ_b2sA, freadQ_guardA, freadQ_slSlA, freadQ_k, fendA, fallA_one, fstillA_nil, fguardA_tt, fguardA_ff, fguardA_tf, fguardA_ft, fguardA_undef, fpickA_true, fpickA_false, fcondA_true, fcondA_false, binA_add, binA_sub, binA_mul, binA_eql, binA_neq, binA_lss, binA_leq, binA_gtr, binA_geq, unA_not, Bool.not_true, Bool.not_false, convA_int, extA_tuple, List.getElem?_toArray, List.getElem?_cons_zero, List.getElem?_cons_succ, c1', and_self, if_true]
    refine v.cut (lo := 4) (hi := 8) (olo := some (.int .i64 4)) (ohi := some (.int .i64 8)) rfl rfl (by omega) (by omega) fun x1 _ _ y1 => ?_
    rw [show 8 = 4 + 4 from rfl, cut_eq] at y1
    refine y1.b2s ?_
    have hl4 : ((b.drop 4).take 4).length = 4 := by simp; omega
    refine callA_of (NewReader_spec _ (by omega)) fun _ h2 ⟨e, w2, s2⟩ f2 => ?_
    subst e
    refine callA_of (RU32_spec w2) fun _ h3 ⟨e, w3, s3⟩ f3 => ?_
    subst e
    have rr : ((⟨(b.drop 4).take 4, 0⟩ : RS).raw 4).1 = (b.drop 4).take 4 := by
      unfold RS.raw
      rw [if_neg (by simp), if_neg (by omega), if_neg (by simp only [hl4]; omega)]
      exact List.take_of_length_le (Nat.le_of_eq hl4)
    rw [rr]
    have t3 : Step h1 h3 [] [] := (s2.trans s3).drop
    have v3 : Bs w0 h3 x b := v.step f t3 (by simp)
    refine v3.cut (lo := 0) (hi := 16) (olo := none) (ohi := some (.int .i64 16)) rfl rfl (by omega) (by omega) fun x4 hx4 _ y4 => ?_
    rw [List.drop_zero] at y4
    refine y4.b2s ?_
    simp only [lenSl_slice, lenStr_string, str_size, fpureA_some, fnilA_ptr, faddA_ptr, addr_add, Nat.zero_add, Nat.add_zero, fpureQ_k, fpureQ_nilA, fpureQ_addA, fpureQ_pureA, fpureQ_guardA, fpureQ_idxSlA, fpureQ_pickA, freadQ_loadA, freadQ_loadNA, freadQ_b2sA, freadQ_guardA, freadQ_slSlA, freadQ_k, fendA, fallA_one, fstillA_nil, fguardA_tt, fguardA_ff, fguardA_tf, fguardA_ft, fguardA_undef, fpickA_true, fpickA_false, fcondA_true, fcondA_false, binA_add, binA_sub, binA_mul, binA_eql, binA_neq, binA_lss, binA_leq, binA_gtr, binA_geq, unA_not, Bool.not_true, Bool.not_false, convA_int, extA_tuple, List.getElem?_toArray, List.getElem?_cons_zero, List.getElem?_cons_succ, e2]
    refine callA_of (marked_spec (name := dpak) rfl (rdn ((b.drop 4).take 4)) s) fun _ h5 ⟨e, s5⟩ f5 => ?_
    subst e
    have t5 : Step h1 h5 [] [] := t3.trans s5
    have v5 : Bs w0 h5 x b := v.step f t5 (by simp)
    have y5 := v5.cut_sl (lo := 0) (hi := 16) (by omega) (by omega)
    rw [← hx4, List.drop_zero] at y5
    simp only [lenSl_slice, lenStr_string, str_size, fpureA_some, fnilA_ptr, faddA_ptr, addr_add, Nat.zero_add, Nat.add_zero, fpureQ_k, fpureQ_nilA, fpureQ_addA, fpureQ_pureA, fpureQ_guardA, fpureQ_idxSlA, fpureQ_pickA, freadQ_loadA, freadQ_loadNA, freadQ_b2sA, freadQ_guardA, freadQ_slSlA, freadQ_k, fendA, fallA_one, fstillA_nil, fguardA_tt, fguardA_ff, fguardA_tf, fguardA_ft, fguardA_undef, fpickA_true, fpickA_false, fcondA_true, fcondA_false, binA_add, binA_sub, binA_mul, binA_eql, binA_neq, binA_lss, binA_leq, binA_gtr, binA_geq, unA_not, Bool.not_true, Bool.not_false, convA_int, extA_tuple, List.getElem?_toArray, List.getElem?_cons_zero, List.getElem?_cons_succ, stillA_iff, allA_cons, allA_one, sameQ_slSlA, sameQ_b2sA]
    refine ⟨⟨y5.b2s rfl, v5.cut (lo := 0) (hi := 16) (olo := none) (ohi := some (.int .i64 16)) rfl rfl (by omega) (by omega) fun _ e _ _ => e.trans hx4.symm⟩, ?_⟩
    simp only [binA_strneq, str_inj, lenSl_slice, lenStr_string, str_size, fpureA_some, fnilA_ptr, faddA_ptr, addr_add, Nat.zero_add, Nat.add_zero, fpureQ_k, fpureQ_nilA, fpureQ_addA, fpureQ_pureA, fpureQ_guardA, fpureQ_idxSlA, fpureQ_pickA, freadQ_loadA, freadQ_loadNA, freadQ_b2sA, freadQ_guardA, freadQ_slSlA, freadQ_k, fendA, fallA_one, fstillA_nil, fguardA_tt, fguardA_ff, fguardA_tf, fguardA_ft, fguardA_undef, fpickA_true, fpickA_false, fcondA_true, fcondA_false, binA_add, binA_sub, binA_mul, binA_eql, binA_neq, binA_lss, binA_leq, binA_gtr, binA_geq, unA_not, Bool.not_true, Bool.not_false, convA_int, extA_tuple, List.getElem?_toArray, List.getElem?_cons_zero, List.getElem?_cons_succ]
    by_cases hh : b.take 16 = mark16 dpak (rdn ((b.drop 4).take 4)) s
    · have c2 : decide (b.take 16 = mark16 dpak (rdn ((b.drop 4).take 4)) s) = true := decide_eq_true hh
      have c2' : headOk b ((s : Int).toNat) = true := by rw [Int.toNat_natCast]; exact c2
      simp only [c2, c2', if_true, lenSl_slice, lenStr_string, str_size, fpureA_some, fnilA_ptr, faddA_ptr, addr_add, Nat.zero_add, Nat.add_zero, fpureQ_k, fpureQ_nilA, fpureQ_addA, fpureQ_pureA, fpureQ_guardA, fpureQ_idxSlA, fpureQ_pickA, freadQ_loadA, freadQ_loadNA, freadQ_b2sA, freadQ_guardA, freadQ_slSlA, freadQ_k, fendA, fallA_one, fstillA_nil, fguardA_tt, fguardA_ff, fguardA_tf, fguardA_ft, fguardA_undef, fpickA_true, fpickA_false, fcondA_true, fcondA_false, binA_add, binA_sub, binA_mul, binA_eql, binA_neq, binA_lss, binA_leq, binA_gtr, binA_geq, unA_not, Bool.not_true, Bool.not_false, convA_int, extA_tuple, List.getElem?_toArray, List.getElem?_cons_zero, List.getElem?_cons_succ]
      have e6 : IntKind.i64.wrap ((b.length : Int) - 16) = ((b.length - 16 : Nat) : Int) := by rw [IntWalk.i64_in _ (by omega)]; omega
      simp only [hlen, lenSl_slice, lenStr_string, str_size, fpureA_some, fnilA_ptr, faddA_ptr, addr_add, Nat.zero_add, Nat.add_zero, fpureQ_k, fpureQ_nilA, fpureQ_addA, fpureQ_pureA, fpureQ_guardA, fpureQ_idxSlA, fpureQ_pickA, freadQ_loadA, freadQ_loadNA, freadQ_b2sA, freadQ_guardA, freadQ_slSlA, freadQ_k, fendA, fallA_one, fstillA_nil, fguardA_tt, fguardA_ff, fguardA_tf, fguardA_ft, fguardA_undef, fpickA_true, fpickA_false, fcondA_true, fcondA_false, binA_add, binA_sub, binA_mul, binA_eql, binA_neq, binA_lss, binA_leq, binA_gtr, binA_geq, unA_not, Bool.not_true, Bool.not_false, convA_int, extA_tuple, List.getElem?_toArray, List.getElem?_cons_zero, List.getElem?_cons_succ, e6]
      refine ⟨b.length + 1, ?_⟩
      refine scan_loop (w0 := w0) (en := b.length - 16) (by omega) hb b.length 16 [] h5 (.slice none 0 0) [] (by omega) (by omega) (by simp; omega) (fun h' S' st => v.step f (t5.trans st) (by simp)) (.inl .nil) (by simp) (fun h6 xl S6 v6 s6 => ?_)
      rw [List.nil_append] at v6
      have t6 : Step h1 h6 [] S6 := t5.trans s6
      have v6b : Bs w0 h6 x b := v.step f t6 (by simp)
      have hbd := scanL_bound (b := b) (en := b.length - 16) b.length 16
      generalize hsc : scanL b (b.length - 16) b.length 16 = sc at v6 hbd ⊢
      obtain ⟨a6, c6, hx6⟩ := v6.slice
      have hl6 : lenSl xl = some (.int .i64 sc.1.length) := by rw [hx6]; rfl
      have e7 : IntKind.u32.wrap (sc.1.length : Int) = (sc.1.length : Int) := IntWalk.u32_in _ (by omega)
      have e8 : IntKind.u32.wrap (sc.2 : Int) = (sc.2 : Int) := IntWalk.u32_in _ (by omega)
      refine v6b.cut (lo := b.length - 16) (hi := b.length) boundA_nat rfl (by omega) (Nat.le_refl _) fun x7 hx7 _ y7 => ?_
      rw [List.take_of_length_le (Nat.le_refl _)] at y7
      refine y7.b2s ?_
      simp only [hl6, lenSl_slice, lenStr_string, str_size, fpureA_some, fnilA_ptr, faddA_ptr, addr_add, Nat.zero_add, Nat.add_zero, fpureQ_k, fpureQ_nilA, fpureQ_addA, fpureQ_pureA, fpureQ_guardA, fpureQ_idxSlA, fpureQ_pickA, freadQ_loadA, freadQ_loadNA, freadQ_b2sA, freadQ_guardA, freadQ_slSlA, freadQ_k, fendA, fallA_one, fstillA_nil, fguardA_tt, fguardA_ff, fguardA_tf, fguardA_ft, fguardA_undef, fpickA_true, fpickA_false, fcondA_true, fcondA_false, binA_add, binA_sub, binA_mul, binA_eql, binA_neq, binA_lss, binA_leq, binA_gtr, binA_geq, unA_not, Bool.not_true, Bool.not_false, convA_int, extA_tuple, List.getElem?_toArray, List.getElem?_cons_zero, List.getElem?_cons_succ, e7, e8]
      refine callA_of (marked_spec (name := dfot) rfl sc.1.length sc.2) fun _ h8 ⟨e, s8⟩ f8 => ?_
      subst e
      have t8 : Step h1 h8 [] S6 := t6.trans (s8.idle S6 fun b hb => (v6.lt b hb).2)
      have v8b : Bs w0 h8 x b := v.step f t8 (by simp)
      have y8 := v8b.cut_sl (lo := b.length - 16) (hi := b.length) (by omega) (Nat.le_refl _)
      rw [← hx7, List.take_of_length_le (Nat.le_refl _)] at y8
      simp only [lenSl_slice, lenStr_string, str_size, fpureA_some, fnilA_ptr, faddA_ptr, addr_add, Nat.zero_add, Nat.add_zero, fpureQ_k, fpureQ_nilA, fpureQ_addA, fpureQ_pureA, fpureQ_guardA, fpureQ_idxSlA, fpureQ_pickA, freadQ_loadA, freadQ_loadNA, freadQ_b2sA, freadQ_guardA, freadQ_slSlA, freadQ_k, fendA, fallA_one, fstillA_nil, fguardA_tt, fguardA_ff, fguardA_tf, fguardA_ft, fguardA_undef, fpickA_true, fpickA_false, fcondA_true, fcondA_false, binA_add, binA_sub, binA_mul, binA_eql, binA_neq, binA_lss, binA_leq, binA_gtr, binA_geq, unA_not, Bool.not_true, Bool.not_false, convA_int, extA_tuple, List.getElem?_toArray, List.getElem?_cons_zero, List.getElem?_cons_succ, stillA_iff, allA_cons, allA_one, sameQ_slSlA, sameQ_b2sA]
      refine ⟨⟨y8.b2s rfl, v8b.cut (lo := b.length - 16) (hi := b.length) boundA_nat rfl (by omega) (Nat.le_refl _) fun _ e _ _ => e.trans hx7.symm⟩, ?_⟩
      simp only [binA_streql, str_inj, lenSl_slice, lenStr_string, str_size, fpureA_some, fnilA_ptr, faddA_ptr, addr_add, Nat.zero_add, Nat.add_zero, fpureQ_k, fpureQ_nilA, fpureQ_addA, fpureQ_pureA, fpureQ_guardA, fpureQ_idxSlA, fpureQ_pickA, freadQ_loadA, freadQ_loadNA, freadQ_b2sA, freadQ_guardA, freadQ_slSlA, freadQ_k, fendA, fallA_one, fstillA_nil, fguardA_tt, fguardA_ff, fguardA_tf, fguardA_ft, fguardA_undef, fpickA_true, fpickA_false, fcondA_true, fcondA_false, binA_add, binA_sub, binA_mul, binA_eql, binA_neq, binA_lss, binA_leq, binA_gtr, binA_geq, unA_not, Bool.not_true, Bool.not_false, convA_int, extA_tuple, List.getElem?_toArray, List.getElem?_cons_zero, List.getElem?_cons_succ, retA_iff, oneOf_two]
      refine ⟨by rw [hx6]; simp, t8.drop, xl, S6, rfl, v6.frame s8 (by simp)⟩
    · have c2 : decide (b.take 16 = mark16 dpak (rdn ((b.drop 4).take 4)) s) = false := decide_eq_false hh
      have c2' : headOk b ((s : Int).toNat) = false := by rw [Int.toNat_natCast]; exact c2
      simp only [c2, c2', Bool.false_eq_true, if_false, lenSl_slice, lenStr_string, str_size, fpureA_some, fnilA_ptr, faddA_ptr, addr_add, Nat.zero_add, Nat.add_zero, fpureQ_k, fpureQ_nilA, fpureQ_addA, fpureQ_pureA, fpureQ_guardA, fpureQ_idxSlA, fpureQ_pickA, freadQ_loadA, freadQ_loadNA, freadQ_b2sA, freadQ_guardA, freadQ_slSlA, freadQ_k, fendA, fallA_one, fstillA_nil, fguardA_tt, fguardA_ff, fguardA_tf, fguardA_ft, fguardA_undef, fpickA_true, fpickA_false, fcondA_true, fcondA_false, binA_add, binA_sub, binA_mul, binA_eql, binA_neq, binA_lss, binA_leq, binA_gtr, binA_geq, unA_not, Bool.not_true, Bool.not_false, convA_int, extA_tuple, List.getElem?_toArray, List.getElem?_cons_zero, List.getElem?_cons_succ, retA_iff, oneOf_two]
      exact ⟨by simp, t5, by trivial⟩
  · have c1 : ((b.length : Int) != ((n * s : Nat) : Int)) = true := by rw [bne_iff_ne]; omega
    have c1' : ¬ ((b.length : Int) = (n : Int) * (s : Int)) := by rw [← Int.natCast_mul]; omega
    simp only [c1, lenSl_slice, lenStr_string, str_size, fpureA_some, fnilA_ptr, faddA_ptr, addr_add, Nat.zero_add, Nat.add_zero, fpureQ_k, fpureQ_nilA, fpureQ_addA, fpureQ_pureA, fpureQ_guardA, fpureQ_idxSlA, fpureQ_pickA, freadQ_loadA, freadQ_loadNA, freadQ_b2sA, freadQ_guardA, freadQ_slSlA, freadQ_k, fendA, fallA_one, fstillA_nil, fguardA_tt, fguardA_ff, fguardA_tf, fguardA_ft, fguardA_undef, fpickA_true, fpickA_false, fcondA_true, fcondA_false, binA_add, binA_sub, binA_mul, binA_eql, binA_neq, binA_lss, binA_leq, binA_gtr, binA_geq, unA_not, Bool.not_true, Bool.not_false, convA_int, extA_tuple, List.getElem?_toArray, List.getElem?_cons_zero, List.getElem?_cons_succ, retA_iff, oneOf_two, eq_false c1', and_false, if_false]
    exact ⟨by simp, .refl _ _ (by simp), by trivial⟩
end

section
variable {w0 : World} {h : Hp}
theorem rscan_loop {k0 : Value → Value → Value → Value → Hp → Prop} {x : Value} {b : List UInt8} {en : Nat} (hen : en ≤ b.length) (hb : b.length ≤ 1000000000) :
    ∀ (k a : Nat) (pre : List (Nat × Nat)) (h : Hp) (xl : Value) (S : List Nat), a ≤ 1000000000 → en < a + k → pre.length + k ≤ 2000000000 → (∀ h' S', Step h h' S S' → Bs w0 h' x b) → GV w0 h 2 xl pre.length (slotC pre) S → pre.length ≤ a →
    (∀ h' xl' S', GV w0 h' 2 xl' (pre ++ (scanL b en k a).1).length (slotC (pre ++ (scanL b en k a).1)) S' → Step h h' S S' → k0 x xl' (.int .i64 ((scanL b en k a).2 : Int)) (.int .i64 (en : Int)) h') →
    dedupref13_Scan_L1 prog w0 k0 (k + 1) x xl (.int .i64 (a : Int)) (.int .i64 (en : Int)) h := by
  intro k
  induction k with
  | zero =>
    intro a pre h xl S ha hk hpk vbs vl hpa hk0
    have hn : slotOf b a en = none := slotOf_far (by omega)
    rw [dedupref13_Scan_L1]
    simp only [dedupref13_Scan_B1]
    refine callA_of (rslot_spec (vbs h S vl.refl) hb (by omega) hen) fun r h1 ⟨⟨d, e⟩, s1⟩ f1 => ?_
    subst e
    simp only [hn, Option.getD_none, Option.isSome_none, lenSl_slice, lenStr_string, str_size, fpureA_some, fnilA_ptr, faddA_ptr, addr_add, Nat.zero_add, Nat.add_zero, fpureQ_k, fpureQ_nilA, fpureQ_addA, fpureQ_pureA, fpureQ_guardA, fpureQ_idxSlA, fpureQ_pickA, freadQ_loadA, freadQ_loadNA, freadQ_b2sA, freadQ_guardA, freadQ_slSlA, freadQ_k, fendA, fallA_one, fstillA_nil, fguardA_tt, fguardA_ff, fguardA_tf, fguardA_ft, fguardA_undef, fpickA_true, fpickA_false, fcondA_true, fcondA_false, binA_add, binA_sub, binA_mul, binA_eql, binA_neq, binA_lss, binA_leq, binA_gtr, binA_geq, unA_not, Bool.not_true, Bool.not_false, convA_int, extA_tuple, List.getElem?_toArray, List.getElem?_cons_zero, List.getElem?_cons_succ]
    exact hk0 h1 xl S (by simpa [scanL] using vl.frame s1 (by simp)) (s1.idle S fun b hb => (vl.lt b hb).2)
  | succ k ih =>
    intro a pre h xl S ha hk hpk vbs vl hpa hk0
    rw [dedupref13_Scan_L1]
    simp only [dedupref13_Scan_B1]
    refine callA_of (rslot_spec (vbs h S vl.refl) hb (by omega) hen) fun r h1 ⟨⟨d, e⟩, s1⟩ f1 => ?_
    subst e
    cases hs : slotOf b a en with
    | none =>
      simp only [Option.getD_none, Option.isSome_none, lenSl_slice, lenStr_string, str_size, fpureA_some, fnilA_ptr, faddA_ptr, addr_add, Nat.zero_add, Nat.add_zero, fpureQ_k, fpureQ_nilA, fpureQ_addA, fpureQ_pureA, fpureQ_guardA, fpureQ_idxSlA, fpureQ_pickA, freadQ_loadA, freadQ_loadNA, freadQ_b2sA, freadQ_guardA, freadQ_slSlA, freadQ_k, fendA, fallA_one, fstillA_nil, fguardA_tt, fguardA_ff, fguardA_tf, fguardA_ft, fguardA_undef, fpickA_true, fpickA_false, fcondA_true, fcondA_false, binA_add, binA_sub, binA_mul, binA_eql, binA_neq, binA_lss, binA_leq, binA_gtr, binA_geq, unA_not, Bool.not_true, Bool.not_false, convA_int, extA_tuple, List.getElem?_toArray, List.getElem?_cons_zero, List.getElem?_cons_succ]
      have := hk0 h1 xl S (by rw [scanL_none hs]; simpa using vl.frame s1 (by simp)) (s1.idle S fun b hb => (vl.lt b hb).2)
      rw [scanL_none hs] at this
      exact this
    | some n =>
      have hm := slotOf_some hs
      have e1 : IntKind.i64.wrap ((a : Int) + 8) = ((a + 8 : Nat) : Int) := by rw [IntWalk.i64_in _ (by omega)]; simp
      have e2 : IntKind.i64.wrap (((a + 8 : Nat) : Int) + (n : Int)) = ((a + 8 + n : Nat) : Int) := by rw [IntWalk.i64_in _ (by omega)]; simp
      simp only [Option.getD_some, Option.isSome_some, lenSl_slice, lenStr_string, str_size, fpureA_some, fnilA_ptr, faddA_ptr, addr_add, Nat.zero_add, Nat.add_zero, fpureQ_k, fpureQ_nilA, fpureQ_addA, fpureQ_pureA, fpureQ_guardA, fpureQ_idxSlA, fpureQ_pickA, freadQ_loadA, freadQ_loadNA, freadQ_b2sA, freadQ_guardA, freadQ_slSlA, freadQ_k, fendA, fallA_one, fstillA_nil, fguardA_tt, fguardA_ff, fguardA_tf, fguardA_ft, fguardA_undef, fpickA_true, fpickA_false, fcondA_true, fcondA_false, binA_add, binA_sub, binA_mul, binA_eql, binA_neq, binA_lss, binA_leq, binA_gtr, binA_geq, unA_not, Bool.not_true, Bool.not_false, convA_int, extA_tuple, List.getElem?_toArray, List.getElem?_cons_zero, List.getElem?_cons_succ, e1, e2, buildA_iff, fillA_one, fillA_nil, isCell_int, true_and, List.set_cons_zero, List.set_cons_succ, List.length_cons, List.length_nil]
      refine ⟨by omega, by omega, ?_⟩
      refine app_slot f1.base (vl.frame s1 (by simp)) (by omega) fun x3 h3 S3 v3 s3 => ?_
      have t3 : Step h h3 S S3 := (s1.idle S fun b hb => (vl.lt b hb).2).trans s3
      have := ih (a + 8 + n) (pre ++ [(a + 8, n)]) h3 x3 S3 (by omega) (by omega) (by simp; omega) (fun h' S' st => vbs h' S' (t3.trans st)) v3 (by simp; omega) (fun h4 x4 S4 v4 s4 => by
        have := hk0 h4 x4 S4 (by simp only [scanL, hs]; simpa using v4) (t3.trans s4)
        simpa only [scanL, hs] using this)
      exact this
/-- Four bytes of a name. -/
theorem name_new {K : Kont} {a b c d : Int} {l : List UInt8} (hf : w0.heap.size ≤ h.next) (hl : [(.int .u8 a : Value), .int .u8 b, .int .u8 c, .int .u8 d] = bvs l) (h4 : l.length = 4)
    (hk : ∀ x h' S, GV w0 h' 1 x l.length (bvs l) S → Step h h' [] S → K x h') :
    bslA [(0, 1, false, (.int .u8 a)), (1, 1, false, (.int .u8 b)), (2, 1, false, (.int .u8 c)), (3, 1, false, (.int .u8 d))] (zerosL [(.int .u8 0)] 4) 4 1 K h := by
  have hz : zerosL [(.int .u8 0 : Value)] 4 = [.int .u8 0, .int .u8 0, .int .u8 0, .int .u8 0] := rfl
  simp only [hz, bslA_iff, fillA_one, fillA_nil, isCell_int, true_and, List.set_cons_zero, List.set_cons_succ, List.length_cons, List.length_nil]
  refine ⟨by omega, by omega, by omega, by omega, ?_⟩
  rw [hl]
  refine hk _ _ [h.next] ?_ ((Step.refl h [] (by simp)).new _ _)
  rw [h4]
  exact GV.new hf (by simp [h4]) (by decide)
/-- append(x, y...) of bytes. -/
theorem app_bytes {x y : Value} {l m : List UInt8} {S : List Nat} {K : Kont} (hf : w0.heap.size ≤ h.next) (v : GV w0 h 1 x l.length (bvs l) S) (w : Bs w0 h y m) (hl : l.length + m.length ≤ 1000000000)
    (hk : ∀ x' h' S', GV w0 h' 1 x' (l ++ m).length (bvs (l ++ m)) S' → Step h h' S S' → K x' h') : appA w0 1 1 x y K h := by
  obtain ⟨a, c, hy⟩ := w.slice
  refine appA_gv (m := m.length) hf v (by rw [hy]; rfl) w.src (by simp) (by omega) (by omega) (by omega) fun x' h' S' v' s' => hk x' h' S' ?_ s'
  rw [List.length_append, bvs_append]
  exact v'
theorem rfoot_spec (a b : Nat) (ha : a < 4294967296) (hb : b < 4294967296) : ACalls prog w0 n_dedupref13_foot [.int .i64 a, .int .i64 b] h fun r h' => ∃ S', GV w0 h' 1 r (mark16 dfot a b).length (bvs (mark16 dfot a b)) S' ∧ Step h h' [] S' := by
  refine ACalls.of_fit (by simp) fun f => c_dedupref13_foot (by simp) ?_
  have e1 : IntKind.u64.wrap (a : Int) = (a : Int) := IntWalk.u64_in _ (by omega)
  have e2 : IntKind.u64.wrap (b : Int) = (b : Int) := IntWalk.u64_in _ (by omega)
  simp only [s_dedupref13_foot]
  refine name_new (l := dfot) f.base rfl rfl fun x1 h1 S1 v1 s1 => ?_
  refine sl2sl_gv v1 (by decide) ?_
  simp only [lenSl_slice, lenStr_string, str_size, fpureA_some, fnilA_ptr, faddA_ptr, addr_add, Nat.zero_add, Nat.add_zero, fpureQ_k, fpureQ_nilA, fpureQ_addA, fpureQ_pureA, fpureQ_guardA, fpureQ_idxSlA, fpureQ_pickA, freadQ_loadA, freadQ_loadNA, freadQ_b2sA, freadQ_guardA, freadQ_slSlA, freadQ_k, fendA, fallA_one, fstillA_nil, fguardA_tt, fguardA_ff, fguardA_tf, fguardA_ft, fguardA_undef, fpickA_true, fpickA_false, fcondA_true, fcondA_false, binA_add, binA_sub, binA_mul, binA_eql, binA_neq, binA_lss, binA_leq, binA_gtr, binA_geq, unA_not, Bool.not_true, Bool.not_false, convA_int, extA_tuple, List.getElem?_toArray, List.getElem?_cons_zero, List.getElem?_cons_succ, e1, e2]
  refine callA_of (high_spec a 4 (by omega) (by omega)) fun x2 h2 ⟨S2, v2, s2⟩ f2 => ?_
  have v1' := v1.frame s2 (by simp)
  refine app_bytes f2.base v1' (by have := v2.sl; unfold Bs; rw [be_length]; exact this) (by simp [dfot]) fun x3 h3 S3 v3 s3 => ?_
  have t3 : Step h h3 [] S3 := s1.trans ((s2.idle S1 fun b hb => (v1.lt b hb).2).trans s3)
  refine callA_of (high_spec b 4 (by omega) (by omega)) fun x4 h4 ⟨S4, v4, s4⟩ f4 => ?_
  have v3' := v3.frame s4 (by simp)
  refine app_bytes f4.base v3' (by have := v4.sl; unfold Bs; rw [be_length]; exact this) (by simp [dfot]) fun x5 h5 S5 v5 s5 => ?_
  have t5 : Step h h5 [] S5 := t3.trans ((s4.idle S3 fun b hb => (v3.lt b hb).2).trans s5)
  have v5 : GV w0 h5 1 x5 (mark12 dfot a b).length (bvs (mark12 dfot a b)) S5 := v5
  refine callA_of (sum_spec (v5.sl : Bs w0 h5 x5 (mark12 dfot a b)) (by rw [mark12_length rfl]; omega)) fun x6 h6 ⟨S6, v6, s6⟩ f6 => ?_
  have v5' := v5.frame s6 (by simp)
  refine app_bytes f6.base v5' (by have := v6.sl; unfold Bs; rw [be_length]; exact this) (by rw [mark12_length rfl]; simp) fun x7 h7 S7 v7 s7 => ?_
  have t7 : Step h h7 [] S7 := t5.trans ((s6.idle S5 fun b hb => (v5.lt b hb).2).trans s7)
  have hc := crcOf_lt (mark12 dfot a b)
  obtain ⟨aa, cc, hr⟩ := v7.slice
  simp only [retA_iff, oneOf_one]
  exact ⟨by rw [hr]; simp, S7, v7, t7⟩
/-! ### Heads -/
theorem head_split {b : List UInt8} (hb : 16 ≤ b.length) (s : Nat) (hs : s < 4294967296) :
    headOk b s = true ↔ b.take 4 = dpak ∧ rdn ((b.drop 8).take 4) = s ∧ be 4 (crcOf (b.take 12)) = (b.drop 12).take 4 := by
  have h4 : ((b.drop 4).take 4).length = 4 := by simp; omega
  have h8 : ((b.drop 8).take 4).length = 4 := by simp; omega
  have e16 : b.take 16 = b.take 4 ++ (b.drop 4).take 4 ++ (b.drop 8).take 4 ++ (b.drop 12).take 4 := by
    have : ∀ k, b.take (k + 4) = b.take k ++ (b.drop k).take 4 := fun k => by rw [List.take_add]
    rw [show 16 = 12 + 4 from rfl, this, show 12 = 8 + 4 from rfl, this, show 8 = 4 + 4 from rfl, this]
  have e12 : b.take 12 = b.take 4 ++ (b.drop 4).take 4 ++ (b.drop 8).take 4 := by
    have : ∀ k, b.take (k + 4) = b.take k ++ (b.drop k).take 4 := fun k => by rw [List.take_add]
    rw [show 12 = 8 + 4 from rfl, this, show 8 = 4 + 4 from rfl, this]
  have eb : be 4 (rdn ((b.drop 4).take 4)) = (b.drop 4).take 4 := by have := be_rdn ((b.drop 4).take 4); rw [h4] at this; exact this
  have eb8 : be 4 (rdn ((b.drop 8).take 4)) = (b.drop 8).take 4 := by have := be_rdn ((b.drop 8).take 4); rw [h8] at this; exact this
  unfold headOk
  rw [decide_eq_true_iff, e16]
  simp only [mark16, mark12, eb]
  constructor
  · intro e
    have e' := e
    rw [List.append_assoc, List.append_assoc, List.append_assoc, List.append_assoc, List.append_assoc] at e
    have a1 := List.append_inj e (by simp [dpak]; omega)
    have a2 := List.append_inj a1.2 rfl
    have a3 := List.append_inj a2.2 (by simp; omega)
    refine ⟨a1.1, ?_, ?_⟩
    · have := congrArg rdn a3.1
      rw [rdn_be, Nat.mod_eq_of_lt hs] at this
      exact this
    · rw [e12, a1.1, a3.1]
      have := a3.2
      simp only [List.append_assoc] at this ⊢
      exact this.symm
  · rintro ⟨a1, a2, a3⟩
    rw [e12] at a3
    rw [← a3, ← a2, eb8, a1]
end

section
variable {w0 : World} {h : Hp}
theorem rScan_spec {x : Value} {b : List UInt8} (v : Bs w0 h x b) (hb : b.length ≤ 1000000000) (n s : Int) (hn : -9223372036854775808 ≤ n ∧ n ≤ 9223372036854775807) :
    ACalls prog w0 n_dedupref13_Scan [.int .i64 n, .int .i64 s, x] h fun r h' => Step h h' [] [] ∧
      if pfits n s = true ∧ (b.length : Int) = n * s then
        if headOk b s.toNat = true then
          ∃ xl S', r = .tuple #[.int .u32 (rdn ((b.drop 4).take 4) : Nat), xl, .bool (decide (b.drop (b.length - 16) = mark16 dfot (scanL b (b.length - 16) b.length 16).1.length (scanL b (b.length - 16) b.length 16).2)), .int .i64 0] ∧
            GV w0 h' 2 xl (scanL b (b.length - 16) b.length 16).1.length (slotC (scanL b (b.length - 16) b.length 16).1) S'
        else r = .tuple #[.int .u32 0, .slice none 0 0, .bool false, .int .i64 130]
      else r = .tuple #[.int .u32 0, .slice none 0 0, .bool false, .int .i64 1] := by
  refine ACalls.of_fit (by simpa using v.junk) fun f => c_dedupref13_Scan (by simpa using v.junk) ?_
  obtain ⟨ax, cx, hx⟩ := v.slice
  have hlen : lenSl x = some (.int .i64 b.length) := by rw [hx]; rfl
  refine callA_of (power_spec n) fun _ h1 ⟨e, e1⟩ f1 => ?_
  subst e e1
  cases hf : pfits n s with
  | false =>
    have none_ : retA [(.int .u32 0), (.slice none 0 0), (.bool false), (.int .i64 1)] (fun r h' => Step h1 h' [] [] ∧
      if false = true ∧ (b.length : Int) = n * s then
        if headOk b s.toNat = true then
          ∃ xl S', r = .tuple #[.int .u32 (rdn ((b.drop 4).take 4) : Nat), xl, .bool (decide (b.drop (b.length - 16) = mark16 dfot (scanL b (b.length - 16) b.length 16).1.length (scanL b (b.length - 16) b.length 16).2)), .int .i64 0] ∧
            GV w0 h' 2 xl (scanL b (b.length - 16) b.length 16).1.length (slotC (scanL b (b.length - 16) b.length 16).1) S'
        else r = .tuple #[.int .u32 0, .slice none 0 0, .bool false, .int .i64 130]
      else r = .tuple #[.int .u32 0, .slice none 0 0, .bool false, .int .i64 1]) h1 := by
      simp only [retA_iff, oneOf_two]
      refine ⟨by simp, .refl _ _ (by simp), ?_⟩
      rw [if_neg (by simp)]
      trivial
    cases hj : jsize n with
    | false => simp only [lenSl_slice, lenStr_string, str_size, fpureA_some, fnilA_ptr, faddA_ptr, addr_add, Nat.zero_add, Nat.add_zero, fpureQ_k, fpureQ_nilA, fpureQ_addA, fpureQ_pureA, fpureQ_guardA, fpureQ_idxSlA, fpureQ_pickA, freadQ_loadA, freadQ_loadNA, freadQ_b2sA, freadQ_guardA, freadQ_slSlA, freadQ_k, fendA, fallA_one, fstillA_nil, fguardA_tt, fguardA_ff, fguardA_tf, fguardA_ft, fguardA_undef, fpickA_true, fpickA_false, fcondA_true, fcondA_false, binA_add, binA_sub, binA_mul, binA_eql, binA_neq, binA_lss, binA_leq, binA_gtr, binA_geq, unA_not, Bool.not_true, Bool.not_false, convA_int, extA_tuple, List.getElem?_toArray, List.getElem?_cons_zero, List.getElem?_cons_succ]; exact none_
    | true =>
      by_cases h1 : s < 1
      · have c1 : decide (s < 1) = true := decide_eq_true h1
        simp only [lenSl_slice, lenStr_string, str_size, fpureA_some, fnilA_ptr, faddA_ptr, addr_add, Nat.zero_add, Nat.add_zero, fpureQ_k, fpureQ_nilA, fpureQ_addA, fpureQ_pureA, fpureQ_guardA, fpureQ_idxSlA, fpureQ_pickA, freadQ_loadA, freadQ_loadNA, freadQ_b2sA, freadQ_guardA, freadQ_slSlA, freadQ_k, fendA, fallA_one, fstillA_nil, fguardA_tt, fguardA_ff, fguardA_tf, fguardA_ft, fguardA_undef, fpickA_true, fpickA_false, fcondA_true, fcondA_false, binA_add, binA_sub, binA_mul, binA_eql, binA_neq, binA_lss, binA_leq, binA_gtr, binA_geq, unA_not, Bool.not_true, Bool.not_false, convA_int, extA_tuple, List.getElem?_toArray, List.getElem?_cons_zero, List.getElem?_cons_succ, c1]; exact none_
      · have c1 : decide (s < 1) = false := decide_eq_false h1
        have c2 : decide ((64 : Int) < s) = true := by
          by_cases h2 : 64 < s
          · exact decide_eq_true h2
          · simp [pfits, hj] at hf
            omega
        simp only [lenSl_slice, lenStr_string, str_size, fpureA_some, fnilA_ptr, faddA_ptr, addr_add, Nat.zero_add, Nat.add_zero, fpureQ_k, fpureQ_nilA, fpureQ_addA, fpureQ_pureA, fpureQ_guardA, fpureQ_idxSlA, fpureQ_pickA, freadQ_loadA, freadQ_loadNA, freadQ_b2sA, freadQ_guardA, freadQ_slSlA, freadQ_k, fendA, fallA_one, fstillA_nil, fguardA_tt, fguardA_ff, fguardA_tf, fguardA_ft, fguardA_undef, fpickA_true, fpickA_false, fcondA_true, fcondA_false, binA_add, binA_sub, binA_mul, binA_eql, binA_neq, binA_lss, binA_leq, binA_gtr, binA_geq, unA_not, Bool.not_true, Bool.not_false, convA_int, extA_tuple, List.getElem?_toArray, List.getElem?_cons_zero, List.getElem?_cons_succ, c1, c2]; exact none_
  | true =>
  obtain ⟨r1, r2, r3, r4⟩ := pfits_range hf
  have hj : jsize n = true := by simp [pfits] at hf; exact hf.1.1
  obtain ⟨n, rfl⟩ := Int.eq_ofNat_of_zero_le (show 0 ≤ n by omega)
  obtain ⟨s, rfl⟩ := Int.eq_ofNat_of_zero_le (show 0 ≤ s by omega)
  have hm1 := Nat.mul_le_mul (show n ≤ 4096 by omega) (show s ≤ 64 by omega)
  have hm2 := Nat.mul_le_mul (show 512 ≤ n by omega) (show 1 ≤ s by omega)
  have e1 : IntKind.i64.wrap ((n : Int) * (s : Int)) = ((n * s : Nat) : Int) := by rw [IntWalk.i64_in _ (by rw [← Int.natCast_mul]; omega)]; simp
  have c0 : decide ((s : Int) < 1) = false := decide_eq_false (by omega)
  have c0' : decide ((64 : Int) < (s : Int)) = false := decide_eq_false (by omega)
  simp only [hj, lenSl_slice, lenStr_string, str_size, fpureA_some, fnilA_ptr, faddA_ptr, addr_add, Nat.zero_add, Nat.add_zero, fpureQ_k, fpureQ_nilA, fpureQ_addA, fpureQ_pureA, fpureQ_guardA, fpureQ_idxSlA, fpureQ_pickA, freadQ_loadA, freadQ_loadNA, freadQ_b2sA, freadQ_guardA, freadQ_slSlA, freadQ_k, fendA, fallA_one, fstillA_nil, fguardA_tt, fguardA_ff, fguardA_tf, fguardA_ft, fguardA_undef, fpickA_true, fpickA_false, fcondA_true, fcondA_false, binA_add, binA_sub, binA_mul, binA_eql, binA_neq, binA_lss, binA_leq, binA_gtr, binA_geq, unA_not, Bool.not_true, Bool.not_false, convA_int, extA_tuple, List.getElem?_toArray, List.getElem?_cons_zero, List.getElem?_cons_succ, c0, c0', hlen, e1]
  by_cases hbl : b.length = n * s
  · have c1 : ((b.length : Int) != ((n * s : Nat) : Int)) = false := by rw [hbl]; simp
    have c1' : ((b.length : Int) = (n : Int) * (s : Int)) = True := eq_true (by rw [hbl]; simp)
    simp only [c1, lenSl_slice, lenStr_string, str_size, fpureA_some, fnilA_ptr, faddA_ptr, addr_add, Nat.zero_add, Nat.add_zero, fpureQ_k, fpureQ_nilA, fpureQ_addA, fpureQ_pureA, fpureQ_guardA, fpureQ_idxSlA, fpureQ_pickA, freadQ_loadA, freadQ_loadNA, freadQ_b2sA, freadQ_guardA, freadQ_slSlA, freadQ_k, fendA, fallA_one, fstillA_nil, fguardA_tt, fguardA_ff, fguardA_tf, fguardA_ft, fguardA_undef, fpickA_true, fpickA_false, fcondA_true, fcondA_false, binA_add, binA_sub, binA_mul, binA_eql, binA_neq, binA_lss, binA_leq, binA_gtr, binA_geq, unA_not, Bool.not_true, Bool.not_false, convA_int, extA_tuple, List.getElem?_toArray, List.getElem?_cons_zero, List.getElem?_cons_succ, c1', and_self, if_true]
    have hh := head_split (b := b) (by omega) s (by omega)
    have bad : ∀ {h' : Hp}, headOk b ((s : Int).toNat) = false → Step h1 h' [] [] → retA [(.int .u32 0), (.slice none 0 0), (.bool false), (.int .i64 130)] (fun r h' => Step h1 h' [] [] ∧
        if headOk b ((s : Int).toNat) = true then
          ∃ xl S', r = .tuple #[.int .u32 (rdn ((b.drop 4).take 4) : Nat), xl, .bool (decide (b.drop (b.length - 16) = mark16 dfot (scanL b (b.length - 16) b.length 16).1.length (scanL b (b.length - 16) b.length 16).2)), .int .i64 0] ∧
            GV w0 h' 2 xl (scanL b (b.length - 16) b.length 16).1.length (slotC (scanL b (b.length - 16) b.length 16).1) S'
        else r = .tuple #[.int .u32 0, .slice none 0 0, .bool false, .int .i64 130]) h' := by
      intro h' e st
      simp only [retA_iff, oneOf_two, e, Bool.false_eq_true, if_false]
      exact ⟨by simp, st, by trivial⟩
    rw [Int.toNat_natCast] at bad ⊢
    refine v.cut (lo := 0) (hi := 4) (olo := none) (ohi := some (.int .i64 4)) rfl rfl (by omega) (by omega) fun x1 _ _ y1 => ?_
    rw [List.drop_zero] at y1
    refine y1.b2s ?_
    simp only [show (.string ⟨#[68, 80, 65, 75]⟩ : Value) = .string (str dpak) from rfl, binA_strneq, str_inj, lenSl_slice, lenStr_string, str_size, fpureA_some, fnilA_ptr, faddA_ptr, addr_add, Nat.zero_add, Nat.add_zero, fpureQ_k, fpureQ_nilA, fpureQ_addA, fpureQ_pureA, fpureQ_guardA, fpureQ_idxSlA, fpureQ_pickA, freadQ_loadA, freadQ_loadNA, freadQ_b2sA, freadQ_guardA, freadQ_slSlA, freadQ_k, fendA, fallA_one, fstillA_nil, fguardA_tt, fguardA_ff, fguardA_tf, fguardA_ft, fguardA_undef, fpickA_true, fpickA_false, fcondA_true, fcondA_false, binA_add, binA_sub, binA_mul, binA_eql, binA_neq, binA_lss, binA_leq, binA_gtr, binA_geq, unA_not, Bool.not_true, Bool.not_false, convA_int, extA_tuple, List.getElem?_toArray, List.getElem?_cons_zero, List.getElem?_cons_succ]
    by_cases q1 : b.take 4 = dpak
    · have c2 : decide (b.take 4 = dpak) = true := decide_eq_true q1
      simp only [c2, lenSl_slice, lenStr_string, str_size, fpureA_some, fnilA_ptr, faddA_ptr, addr_add, Nat.zero_add, Nat.add_zero, fpureQ_k, fpureQ_nilA, fpureQ_addA, fpureQ_pureA, fpureQ_guardA, fpureQ_idxSlA, fpureQ_pickA, freadQ_loadA, freadQ_loadNA, freadQ_b2sA, freadQ_guardA, freadQ_slSlA, freadQ_k, fendA, fallA_one, fstillA_nil, fguardA_tt, fguardA_ff, fguardA_tf, fguardA_ft, fguardA_undef, fpickA_true, fpickA_false, fcondA_true, fcondA_false, binA_add, binA_sub, binA_mul, binA_eql, binA_neq, binA_lss, binA_leq, binA_gtr, binA_geq, unA_not, Bool.not_true, Bool.not_false, convA_int, extA_tuple, List.getElem?_toArray, List.getElem?_cons_zero, List.getElem?_cons_succ]
      refine v.cut (lo := 8) (hi := 12) (olo := some (.int .i64 8)) (ohi := some (.int .i64 12)) rfl rfl (by omega) (by omega) fun x2 _ _ y2 => ?_
      rw [show 12 = 8 + 4 from rfl, cut_eq] at y2
      refine callA_of (rnumber_spec y2 (by simp; omega)) fun _ h2 ⟨e, e2⟩ f2 => ?_
      subst e e2
      simp only [lenSl_slice, lenStr_string, str_size, fpureA_some, fnilA_ptr, faddA_ptr, addr_add, Nat.zero_add, Nat.add_zero, fpureQ_k, fpureQ_nilA, fpureQ_addA, fpureQ_pureA, fpureQ_guardA, fpureQ_idxSlA, fpureQ_pickA, freadQ_loadA, freadQ_loadNA, freadQ_b2sA, freadQ_guardA, freadQ_slSlA, freadQ_k, fendA, fallA_one, fstillA_nil, fguardA_tt, fguardA_ff, fguardA_tf, fguardA_ft, fguardA_undef, fpickA_true, fpickA_false, fcondA_true, fcondA_false, binA_add, binA_sub, binA_mul, binA_eql, binA_neq, binA_lss, binA_leq, binA_gtr, binA_geq, unA_not, Bool.not_true, Bool.not_false, convA_int, extA_tuple, List.getElem?_toArray, List.getElem?_cons_zero, List.getElem?_cons_succ]
      by_cases q2 : rdn ((b.drop 8).take 4) = s
      · have c3 : (((rdn ((b.drop 8).take 4) : Nat) : Int) != (s : Int)) = false := by rw [q2]; simp
        simp only [c3, lenSl_slice, lenStr_string, str_size, fpureA_some, fnilA_ptr, faddA_ptr, addr_add, Nat.zero_add, Nat.add_zero, fpureQ_k, fpureQ_nilA, fpureQ_addA, fpureQ_pureA, fpureQ_guardA, fpureQ_idxSlA, fpureQ_pickA, freadQ_loadA, freadQ_loadNA, freadQ_b2sA, freadQ_guardA, freadQ_slSlA, freadQ_k, fendA, fallA_one, fstillA_nil, fguardA_tt, fguardA_ff, fguardA_tf, fguardA_ft, fguardA_undef, fpickA_true, fpickA_false, fcondA_true, fcondA_false, binA_add, binA_sub, binA_mul, binA_eql, binA_neq, binA_lss, binA_leq, binA_gtr, binA_geq, unA_not, Bool.not_true, Bool.not_false, convA_int, extA_tuple, List.getElem?_toArray, List.getElem?_cons_zero, List.getElem?_cons_succ]
        refine v.cut (lo := 0) (hi := 12) (olo := none) (ohi := some (.int .i64 12)) rfl rfl (by omega) (by omega) fun x3 _ _ y3 => ?_
        rw [List.drop_zero] at y3
        refine v.cut (lo := 12) (hi := 16) (olo := some (.int .i64 12)) (ohi := some (.int .i64 16)) rfl rfl (by omega) (by omega) fun x4 hx4 _ y4 => ?_
        rw [show 16 = 12 + 4 from rfl, cut_eq] at y4
        refine y4.b2s ?_
        refine callA_of (sum_spec y3 (by simp; omega)) fun x5 h5 ⟨S5, v5, s5⟩ f5 => ?_
        have t5 : Step h2 h5 [] [] := s5.drop
        have v5b : Bs w0 h5 x b := v.step f t5 (by simp)
        have y5 := v5b.cut_sl (lo := 12) (hi := 16) (by omega) (by omega)
        rw [← hx4, show 16 = 12 + 4 from rfl, cut_eq] at y5
        simp only [lenSl_slice, lenStr_string, str_size, fpureA_some, fnilA_ptr, faddA_ptr, addr_add, Nat.zero_add, Nat.add_zero, fpureQ_k, fpureQ_nilA, fpureQ_addA, fpureQ_pureA, fpureQ_guardA, fpureQ_idxSlA, fpureQ_pickA, freadQ_loadA, freadQ_loadNA, freadQ_b2sA, freadQ_guardA, freadQ_slSlA, freadQ_k, fendA, fallA_one, fstillA_nil, fguardA_tt, fguardA_ff, fguardA_tf, fguardA_ft, fguardA_undef, fpickA_true, fpickA_false, fcondA_true, fcondA_false, binA_add, binA_sub, binA_mul, binA_eql, binA_neq, binA_lss, binA_leq, binA_gtr, binA_geq, unA_not, Bool.not_true, Bool.not_false, convA_int, extA_tuple, List.getElem?_toArray, List.getElem?_cons_zero, List.getElem?_cons_succ, stillA_iff, allA_cons, allA_one, sameQ_slSlA, sameQ_b2sA]
        refine ⟨⟨y5.b2s rfl, v5b.cut (lo := 12) (hi := 16) (olo := some (.int .i64 12)) (ohi := some (.int .i64 16)) rfl rfl (by omega) (by omega) fun _ e _ _ => e.trans hx4.symm⟩, ?_⟩
        refine Bs.b2s (by have := v5.sl; unfold Bs; rw [be_length]; exact this : Bs w0 h5 x5 (be 4 (crcOf (b.take 12)))) ?_
        simp only [binA_strneq, str_inj, lenSl_slice, lenStr_string, str_size, fpureA_some, fnilA_ptr, faddA_ptr, addr_add, Nat.zero_add, Nat.add_zero, fpureQ_k, fpureQ_nilA, fpureQ_addA, fpureQ_pureA, fpureQ_guardA, fpureQ_idxSlA, fpureQ_pickA, freadQ_loadA, freadQ_loadNA, freadQ_b2sA, freadQ_guardA, freadQ_slSlA, freadQ_k, fendA, fallA_one, fstillA_nil, fguardA_tt, fguardA_ff, fguardA_tf, fguardA_ft, fguardA_undef, fpickA_true, fpickA_false, fcondA_true, fcondA_false, binA_add, binA_sub, binA_mul, binA_eql, binA_neq, binA_lss, binA_leq, binA_gtr, binA_geq, unA_not, Bool.not_true, Bool.not_false, convA_int, extA_tuple, List.getElem?_toArray, List.getElem?_cons_zero, List.getElem?_cons_succ]
        by_cases q3 : be 4 (crcOf (b.take 12)) = (b.drop 12).take 4
        · have c4 : decide (be 4 (crcOf (b.take 12)) = (b.drop 12).take 4) = true := decide_eq_true q3
          have c4' : headOk b s = true := hh.2 ⟨q1, q2, q3⟩
          have e6 : IntKind.i64.wrap ((b.length : Int) - 16) = ((b.length - 16 : Nat) : Int) := by rw [IntWalk.i64_in _ (by omega)]; omega
          simp only [c4, c4', if_true, hlen, lenSl_slice, lenStr_string, str_size, fpureA_some, fnilA_ptr, faddA_ptr, addr_add, Nat.zero_add, Nat.add_zero, fpureQ_k, fpureQ_nilA, fpureQ_addA, fpureQ_pureA, fpureQ_guardA, fpureQ_idxSlA, fpureQ_pickA, freadQ_loadA, freadQ_loadNA, freadQ_b2sA, freadQ_guardA, freadQ_slSlA, freadQ_k, fendA, fallA_one, fstillA_nil, fguardA_tt, fguardA_ff, fguardA_tf, fguardA_ft, fguardA_undef, fpickA_true, fpickA_false, fcondA_true, fcondA_false, binA_add, binA_sub, binA_mul, binA_eql, binA_neq, binA_lss, binA_leq, binA_gtr, binA_geq, unA_not, Bool.not_true, Bool.not_false, convA_int, extA_tuple, List.getElem?_toArray, List.getElem?_cons_zero, List.getElem?_cons_succ, e6]
          refine ⟨b.length + 1, ?_⟩
          refine rscan_loop (w0 := w0) (en := b.length - 16) (by omega) hb b.length 16 [] h5 (.slice none 0 0) [] (by omega) (by omega) (by simp; omega) (fun h' S' st => v.step f (t5.trans st) (by simp)) (.inl .nil) (by simp) (fun h6 xl S6 v6 s6 => ?_)
          rw [List.nil_append] at v6
          have t6 : Step h2 h6 [] S6 := t5.trans s6
          have v6b : Bs w0 h6 x b := v.step f t6 (by simp)
          have hbd := scanL_bound (b := b) (en := b.length - 16) b.length 16
          generalize hsc : scanL b (b.length - 16) b.length 16 = sc at v6 hbd ⊢
          obtain ⟨a6, c6, hx6⟩ := v6.slice
          have hl6 : lenSl xl = some (.int .i64 sc.1.length) := by rw [hx6]; rfl
          refine v6b.cut (lo := 4) (hi := 8) (olo := some (.int .i64 4)) (ohi := some (.int .i64 8)) rfl rfl (by omega) (by omega) fun x7 _ _ y7 => ?_
          rw [show 8 = 4 + 4 from rfl, cut_eq] at y7
          refine v6b.cut (lo := b.length - 16) (hi := b.length) boundA_nat rfl (by omega) (Nat.le_refl _) fun x8 hx8 _ y8 => ?_
          rw [List.take_of_length_le (Nat.le_refl _)] at y8
          refine y8.b2s ?_
          simp only [hl6, lenSl_slice, lenStr_string, str_size, fpureA_some, fnilA_ptr, faddA_ptr, addr_add, Nat.zero_add, Nat.add_zero, fpureQ_k, fpureQ_nilA, fpureQ_addA, fpureQ_pureA, fpureQ_guardA, fpureQ_idxSlA, fpureQ_pickA, freadQ_loadA, freadQ_loadNA, freadQ_b2sA, freadQ_guardA, freadQ_slSlA, freadQ_k, fendA, fallA_one, fstillA_nil, fguardA_tt, fguardA_ff, fguardA_tf, fguardA_ft, fguardA_undef, fpickA_true, fpickA_false, fcondA_true, fcondA_false, binA_add, binA_sub, binA_mul, binA_eql, binA_neq, binA_lss, binA_leq, binA_gtr, binA_geq, unA_not, Bool.not_true, Bool.not_false, convA_int, extA_tuple, List.getElem?_toArray, List.getElem?_cons_zero, List.getElem?_cons_succ]
          refine callA_of (rnumber_spec y7 (by simp; omega)) fun _ h7 ⟨e, e7⟩ f7 => ?_
          subst e e7
          have y8c := v6b.cut_sl (lo := b.length - 16) (hi := b.length) (by omega) (Nat.le_refl _)
          rw [← hx8, List.take_of_length_le (Nat.le_refl _)] at y8c
          simp only [lenSl_slice, lenStr_string, str_size, fpureA_some, fnilA_ptr, faddA_ptr, addr_add, Nat.zero_add, Nat.add_zero, fpureQ_k, fpureQ_nilA, fpureQ_addA, fpureQ_pureA, fpureQ_guardA, fpureQ_idxSlA, fpureQ_pickA, freadQ_loadA, freadQ_loadNA, freadQ_b2sA, freadQ_guardA, freadQ_slSlA, freadQ_k, fendA, fallA_one, fstillA_nil, fguardA_tt, fguardA_ff, fguardA_tf, fguardA_ft, fguardA_undef, fpickA_true, fpickA_false, fcondA_true, fcondA_false, binA_add, binA_sub, binA_mul, binA_eql, binA_neq, binA_lss, binA_leq, binA_gtr, binA_geq, unA_not, Bool.not_true, Bool.not_false, convA_int, extA_tuple, List.getElem?_toArray, List.getElem?_cons_zero, List.getElem?_cons_succ, stillA_iff, allA_cons, allA_one, sameQ_slSlA, sameQ_b2sA]
          refine ⟨⟨y8c.b2s rfl, v6b.cut (lo := b.length - 16) (hi := b.length) boundA_nat rfl (by omega) (Nat.le_refl _) fun _ e _ _ => e.trans hx8.symm⟩, ?_⟩
          have hr4 : rdn ((b.drop 4).take 4) < 4294967296 := by
            have := rdn_lt ((b.drop 4).take 4) 0 0 (by simp)
            have h4 : ((b.drop 4).take 4).length = 4 := by simp; omega
            rw [h4] at this
            exact this
          have e9 : IntKind.u32.wrap ((rdn ((b.drop 4).take 4) : Nat) : Int) = ((rdn ((b.drop 4).take 4) : Nat) : Int) := by
            generalize rdn ((b.drop 4).take 4) = z at hr4
            exact IntWalk.u32_in _ (by omega)
          simp only [e9]
          refine callA_of (rfoot_spec sc.1.length sc.2 (by omega) (by omega)) fun x9 h9 ⟨S9, v9, s9⟩ f9 => ?_
          have t9 : Step h2 h9 [] S6 := t6.trans (s9.idle S6 fun b hb => (v6.lt b hb).2)
          have v9b : Bs w0 h9 x b := v.step f t9 (by simp)
          have y9 := v9b.cut_sl (lo := b.length - 16) (hi := b.length) (by omega) (Nat.le_refl _)
          rw [← hx8, List.take_of_length_le (Nat.le_refl _)] at y9
          simp only [stillA_iff, allA_cons, allA_one, sameQ_slSlA, sameQ_b2sA]
          refine ⟨⟨y9.b2s rfl, v9b.cut (lo := b.length - 16) (hi := b.length) boundA_nat rfl (by omega) (Nat.le_refl _) fun _ e _ _ => e.trans hx8.symm⟩, ?_⟩
          refine Bs.b2s v9.sl ?_
          simp only [binA_streql, str_inj, lenSl_slice, lenStr_string, str_size, fpureA_some, fnilA_ptr, faddA_ptr, addr_add, Nat.zero_add, Nat.add_zero, fpureQ_k, fpureQ_nilA, fpureQ_addA, fpureQ_pureA, fpureQ_guardA, fpureQ_idxSlA, fpureQ_pickA, freadQ_loadA, freadQ_loadNA, freadQ_b2sA, freadQ_guardA, freadQ_slSlA, freadQ_k, fendA, fallA_one, fstillA_nil, fguardA_tt, fguardA_ff, fguardA_tf, fguardA_ft, fguardA_undef, fpickA_true, fpickA_false, fcondA_true, fcondA_false, binA_add, binA_sub, binA_mul, binA_eql, binA_neq, binA_lss, binA_leq, binA_gtr, binA_geq, unA_not, Bool.not_true, Bool.not_false, convA_int, extA_tuple, List.getElem?_toArray, List.getElem?_cons_zero, List.getElem?_cons_succ, retA_iff, oneOf_two]
          refine ⟨by rw [hx6]; simp, t9.drop, xl, S6, rfl, v6.frame s9 (by simp)⟩
        · have c4 : decide (be 4 (crcOf (b.take 12)) = (b.drop 12).take 4) = false := decide_eq_false q3
          simp only [c4, lenSl_slice, lenStr_string, str_size, fpureA_some, fnilA_ptr, faddA_ptr, addr_add, Nat.zero_add, Nat.add_zero, fpureQ_k, fpureQ_nilA, fpureQ_addA, fpureQ_pureA, fpureQ_guardA, fpureQ_idxSlA, fpureQ_pickA, freadQ_loadA, freadQ_loadNA, freadQ_b2sA, freadQ_guardA, freadQ_slSlA, freadQ_k, fendA, fallA_one, fstillA_nil, fguardA_tt, fguardA_ff, fguardA_tf, fguardA_ft, fguardA_undef, fpickA_true, fpickA_false, fcondA_true, fcondA_false, binA_add, binA_sub, binA_mul, binA_eql, binA_neq, binA_lss, binA_leq, binA_gtr, binA_geq, unA_not, Bool.not_true, Bool.not_false, convA_int, extA_tuple, List.getElem?_toArray, List.getElem?_cons_zero, List.getElem?_cons_succ]
          exact bad (by rw [Bool.eq_false_iff]; exact fun e => q3 (hh.1 e).2.2) t5
      · have c3 : (((rdn ((b.drop 8).take 4) : Nat) : Int) != (s : Int)) = true := by rw [bne_iff_ne]; intro e; exact q2 (by exact_mod_cast e)
        simp only [c3, lenSl_slice, lenStr_string, str_size, fpureA_some, fnilA_ptr, faddA_ptr, addr_add, Nat.zero_add, Nat.add_zero, fpureQ_k, fpureQ_nilA, fpureQ_addA, fpureQ_pureA, fpureQ_guardA, fpureQ_idxSlA, fpureQ_pickA, freadQ_loadA, freadQ_loadNA, freadQ_b2sA, freadQ_guardA, freadQ_slSlA, freadQ_k, fendA, fallA_one, fstillA_nil, fguardA_tt, fguardA_ff, fguardA_tf, fguardA_ft, fguardA_undef, fpickA_true, fpickA_false, fcondA_true, fcondA_false, binA_add, binA_sub, binA_mul, binA_eql, binA_neq, binA_lss, binA_leq, binA_gtr, binA_geq, unA_not, Bool.not_true, Bool.not_false, convA_int, extA_tuple, List.getElem?_toArray, List.getElem?_cons_zero, List.getElem?_cons_succ]
        exact (stillA_iff _ _).2 ⟨by simp [sameQ_iff], bad (by rw [Bool.eq_false_iff]; exact fun e => q2 (hh.1 e).2.1) (.refl _ _ (by simp))⟩
    · have c2 : decide (b.take 4 = dpak) = false := decide_eq_false q1
      simp only [c2, lenSl_slice, lenStr_string, str_size, fpureA_some, fnilA_ptr, faddA_ptr, addr_add, Nat.zero_add, Nat.add_zero, fpureQ_k, fpureQ_nilA, fpureQ_addA, fpureQ_pureA, fpureQ_guardA, fpureQ_idxSlA, fpureQ_pickA, freadQ_loadA, freadQ_loadNA, freadQ_b2sA, freadQ_guardA, freadQ_slSlA, freadQ_k, fendA, fallA_one, fstillA_nil, fguardA_tt, fguardA_ff, fguardA_tf, fguardA_ft, fguardA_undef, fpickA_true, fpickA_false, fcondA_true, fcondA_false, binA_add, binA_sub, binA_mul, binA_eql, binA_neq, binA_lss, binA_leq, binA_gtr, binA_geq, unA_not, Bool.not_true, Bool.not_false, convA_int, extA_tuple, List.getElem?_toArray, List.getElem?_cons_zero, List.getElem?_cons_succ]
      exact (stillA_iff _ _).2 ⟨by simp [sameQ_iff], bad (by rw [Bool.eq_false_iff]; exact fun e => q1 (hh.1 e).1) (.refl _ _ (by simp))⟩
  · have c1 : ((b.length : Int) != ((n * s : Nat) : Int)) = true := by rw [bne_iff_ne]; omega
    have c1' : ¬ ((b.length : Int) = (n : Int) * (s : Int)) := by rw [← Int.natCast_mul]; omega
    simp only [c1, lenSl_slice, lenStr_string, str_size, fpureA_some, fnilA_ptr, faddA_ptr, addr_add, Nat.zero_add, Nat.add_zero, fpureQ_k, fpureQ_nilA, fpureQ_addA, fpureQ_pureA, fpureQ_guardA, fpureQ_idxSlA, fpureQ_pickA, freadQ_loadA, freadQ_loadNA, freadQ_b2sA, freadQ_guardA, freadQ_slSlA, freadQ_k, fendA, fallA_one, fstillA_nil, fguardA_tt, fguardA_ff, fguardA_tf, fguardA_ft, fguardA_undef, fpickA_true, fpickA_false, fcondA_true, fcondA_false, binA_add, binA_sub, binA_mul, binA_eql, binA_neq, binA_lss, binA_leq, binA_gtr, binA_geq, unA_not, Bool.not_true, Bool.not_false, convA_int, extA_tuple, List.getElem?_toArray, List.getElem?_cons_zero, List.getElem?_cons_succ, retA_iff, oneOf_two, eq_false c1', and_false, if_false]
    exact ⟨by simp, .refl _ _ (by simp), by trivial⟩
/-! ### Slots held against each other -/
theorem sameS_loop {k0 kr : Value → Hp → Prop} {a a' : Option Addr} {c c' : Nat} {l m : List (Nat × Nat)} (v : Sl w0 h 2 (.slice a l.length c) l.length (slotC l)) (w : Sl w0 h 2 (.slice a' m.length c') m.length (slotC m)) (hlm : l.length = m.length) (hl : l.length ≤ 1000000000) :
    ∀ (post pre : List (Nat × Nat)) (post' pre' : List (Nat × Nat)), pre ++ post = l → pre' ++ post' = m → pre.length = pre'.length → (post = post' → k0 (.bool false) h) → (post ≠ post' → kr (.bool false) h) →
    deduplaw13_sameSlots_L1 prog w0 k0 kr (post.length + 1) (.slice a l.length c) (.slice a' m.length c') (.bool false) (.int .i64 (pre.length : Int)) h := by
  intro post
  induction post with
  | nil =>
    intro pre post' pre' he he' hp hk hkr
    have : pre = l := by simpa using he
    subst this
    have : post' = [] := by
      have := congrArg List.length he'
      simp at this
      exact List.eq_nil_of_length_eq_zero (by omega)
    rw [List.length_nil, deduplaw13_sameSlots_L1]
    simp only [deduplaw13_sameSlots_B1, lenSl_slice, lenStr_string, str_size, fpureA_some, fnilA_ptr, faddA_ptr, addr_add, Nat.zero_add, Nat.add_zero, fpureQ_k, fpureQ_nilA, fpureQ_addA, fpureQ_pureA, fpureQ_guardA, fpureQ_idxSlA, fpureQ_pickA, freadQ_loadA, freadQ_loadNA, freadQ_b2sA, freadQ_guardA, freadQ_slSlA, freadQ_k, fendA, fallA_one, fstillA_nil, fguardA_tt, fguardA_ff, fguardA_tf, fguardA_ft, fguardA_undef, fpickA_true, fpickA_false, fcondA_true, fcondA_false, binA_add, binA_sub, binA_mul, binA_eql, binA_neq, binA_lss, binA_leq, binA_gtr, binA_geq, unA_not, Bool.not_true, Bool.not_false, convA_int, extA_tuple, List.getElem?_toArray, List.getElem?_cons_zero, List.getElem?_cons_succ, Int.lt_irrefl, decide_false]
    exact hk this.symm
  | cons d post ih =>
    intro pre post' pre' he he' hp hk hkr
    have hlen : pre.length + (post.length + 1) = l.length := by rw [← he]; simp
    cases post' with
    | nil =>
      have := congrArg List.length he'
      simp at this
      omega
    | cons d' post' =>
      have hg : l[pre.length]? = some d := by rw [← he]; simp
      have hg' : m[pre.length]? = some d' := by rw [← he', hp]; simp
      have c1 : decide ((pre.length : Int) < (l.length : Int)) = true := decide_eq_true (by omega)
      have e6 : IntKind.i64.wrap ((pre.length : Int) + 1) = ((pre.length + 1 : Nat) : Int) := by rw [IntWalk.i64_in _ (by omega)]; simp
      have hd : ((slotC l).drop (pre.length * 2)).take 2 = [.int .i64 (d.1 : Int), .int .i64 (d.2 : Int)] := drop_flatMap (e := fun p : Nat × Nat => [(.int .i64 (p.1 : Int) : Value), .int .i64 (p.2 : Int)]) (fun _ => rfl) l _ d hg
      have hd' : ((slotC m).drop (pre.length * 2)).take 2 = [.int .i64 (d'.1 : Int), .int .i64 (d'.2 : Int)] := drop_flatMap (e := fun p : Nat × Nat => [(.int .i64 (p.1 : Int) : Value), .int .i64 (p.2 : Int)]) (fun _ => rfl) m _ d' hg'
      rw [List.length_cons, deduplaw13_sameSlots_L1]
      simp only [deduplaw13_sameSlots_B1, lenSl_slice, lenStr_string, str_size, fpureA_some, fnilA_ptr, faddA_ptr, addr_add, Nat.zero_add, Nat.add_zero, fpureQ_k, fpureQ_nilA, fpureQ_addA, fpureQ_pureA, fpureQ_guardA, fpureQ_idxSlA, fpureQ_pickA, freadQ_loadA, freadQ_loadNA, freadQ_b2sA, freadQ_guardA, freadQ_slSlA, freadQ_k, fendA, fallA_one, fstillA_nil, fguardA_tt, fguardA_ff, fguardA_tf, fguardA_ft, fguardA_undef, fpickA_true, fpickA_false, fcondA_true, fcondA_false, binA_add, binA_sub, binA_mul, binA_eql, binA_neq, binA_lss, binA_leq, binA_gtr, binA_geq, unA_not, Bool.not_true, Bool.not_false, convA_int, extA_tuple, List.getElem?_toArray, List.getElem?_cons_zero, List.getElem?_cons_succ, c1]
      refine idx_loadN v.src (by omega) ?_
      rw [hd]
      refine idx_loadN w.src (by omega) ?_
      rw [hd']
      simp only [neSlot w0, fpureQ_eqStA, lenSl_slice, lenStr_string, str_size, fpureA_some, fnilA_ptr, faddA_ptr, addr_add, Nat.zero_add, Nat.add_zero, fpureQ_k, fpureQ_nilA, fpureQ_addA, fpureQ_pureA, fpureQ_guardA, fpureQ_idxSlA, fpureQ_pickA, freadQ_loadA, freadQ_loadNA, freadQ_b2sA, freadQ_guardA, freadQ_slSlA, freadQ_k, fendA, fallA_one, fstillA_nil, fguardA_tt, fguardA_ff, fguardA_tf, fguardA_ft, fguardA_undef, fpickA_true, fpickA_false, fcondA_true, fcondA_false, binA_add, binA_sub, binA_mul, binA_eql, binA_neq, binA_lss, binA_leq, binA_gtr, binA_geq, unA_not, Bool.not_true, Bool.not_false, convA_int, extA_tuple, List.getElem?_toArray, List.getElem?_cons_zero, List.getElem?_cons_succ]
      by_cases e : d = d'
      · have c2 : (((d.1 : Nat) : Int) == ((d'.1 : Nat) : Int) && ((d.2 : Nat) : Int) == ((d'.2 : Nat) : Int)) = true := by rw [e]; simp
        simp only [c2, lenSl_slice, lenStr_string, str_size, fpureA_some, fnilA_ptr, faddA_ptr, addr_add, Nat.zero_add, Nat.add_zero, fpureQ_k, fpureQ_nilA, fpureQ_addA, fpureQ_pureA, fpureQ_guardA, fpureQ_idxSlA, fpureQ_pickA, freadQ_loadA, freadQ_loadNA, freadQ_b2sA, freadQ_guardA, freadQ_slSlA, freadQ_k, fendA, fallA_one, fstillA_nil, fguardA_tt, fguardA_ff, fguardA_tf, fguardA_ft, fguardA_undef, fpickA_true, fpickA_false, fcondA_true, fcondA_false, binA_add, binA_sub, binA_mul, binA_eql, binA_neq, binA_lss, binA_leq, binA_gtr, binA_geq, unA_not, Bool.not_true, Bool.not_false, convA_int, extA_tuple, List.getElem?_toArray, List.getElem?_cons_zero, List.getElem?_cons_succ, e6]
        have := ih (pre ++ [d]) post' (pre' ++ [d']) (by simpa using he) (by simpa using he') (by simp [hp]) (fun q => hk (by rw [e, q])) (fun q => hkr (by rw [e]; simpa using q))
        simpa using this
      · have c2 : (((d.1 : Nat) : Int) == ((d'.1 : Nat) : Int) && ((d.2 : Nat) : Int) == ((d'.2 : Nat) : Int)) = false := by
          rw [Bool.eq_false_iff]
          intro q
          simp only [Bool.and_eq_true, beq_iff_eq] at q
          exact e (Prod.ext (by omega) (by omega))
        simp only [c2, lenSl_slice, lenStr_string, str_size, fpureA_some, fnilA_ptr, faddA_ptr, addr_add, Nat.zero_add, Nat.add_zero, fpureQ_k, fpureQ_nilA, fpureQ_addA, fpureQ_pureA, fpureQ_guardA, fpureQ_idxSlA, fpureQ_pickA, freadQ_loadA, freadQ_loadNA, freadQ_b2sA, freadQ_guardA, freadQ_slSlA, freadQ_k, fendA, fallA_one, fstillA_nil, fguardA_tt, fguardA_ff, fguardA_tf, fguardA_ft, fguardA_undef, fpickA_true, fpickA_false, fcondA_true, fcondA_false, binA_add, binA_sub, binA_mul, binA_eql, binA_neq, binA_lss, binA_leq, binA_gtr, binA_geq, unA_not, Bool.not_true, Bool.not_false, convA_int, extA_tuple, List.getElem?_toArray, List.getElem?_cons_zero, List.getElem?_cons_succ]
        exact hkr (by simp [e])
theorem sameS_spec {x y : Value} {l m : List (Nat × Nat)} (v : Sl w0 h 2 x l.length (slotC l)) (w : Sl w0 h 2 y m.length (slotC m)) (hl : l.length ≤ 1000000000) :
    ACalls prog w0 n_deduplaw13_sameSlots [x, y] h fun r h' => r = .bool (decide (l = m)) ∧ h' = h := by
  refine ACalls.of_fit (by simpa using ⟨v.junk, w.junk⟩) fun f => c_deduplaw13_sameSlots (by simpa using ⟨v.junk, w.junk⟩) ?_
  obtain ⟨a, c, rfl⟩ := v.slice
  obtain ⟨a', c', rfl⟩ := w.slice
  simp only [s_deduplaw13_sameSlots, lenSl_slice, lenStr_string, str_size, fpureA_some, fnilA_ptr, faddA_ptr, addr_add, Nat.zero_add, Nat.add_zero, fpureQ_k, fpureQ_nilA, fpureQ_addA, fpureQ_pureA, fpureQ_guardA, fpureQ_idxSlA, fpureQ_pickA, freadQ_loadA, freadQ_loadNA, freadQ_b2sA, freadQ_guardA, freadQ_slSlA, freadQ_k, fendA, fallA_one, fstillA_nil, fguardA_tt, fguardA_ff, fguardA_tf, fguardA_ft, fguardA_undef, fpickA_true, fpickA_false, fcondA_true, fcondA_false, binA_add, binA_sub, binA_mul, binA_eql, binA_neq, binA_lss, binA_leq, binA_gtr, binA_geq, unA_not, Bool.not_true, Bool.not_false, convA_int, extA_tuple, List.getElem?_toArray, List.getElem?_cons_zero, List.getElem?_cons_succ]
  by_cases hlm : l.length = m.length
  · have c1 : ((l.length : Int) != (m.length : Int)) = false := by rw [hlm]; simp
    simp only [c1, lenSl_slice, lenStr_string, str_size, fpureA_some, fnilA_ptr, faddA_ptr, addr_add, Nat.zero_add, Nat.add_zero, fpureQ_k, fpureQ_nilA, fpureQ_addA, fpureQ_pureA, fpureQ_guardA, fpureQ_idxSlA, fpureQ_pickA, freadQ_loadA, freadQ_loadNA, freadQ_b2sA, freadQ_guardA, freadQ_slSlA, freadQ_k, fendA, fallA_one, fstillA_nil, fguardA_tt, fguardA_ff, fguardA_tf, fguardA_ft, fguardA_undef, fpickA_true, fpickA_false, fcondA_true, fcondA_false, binA_add, binA_sub, binA_mul, binA_eql, binA_neq, binA_lss, binA_leq, binA_gtr, binA_geq, unA_not, Bool.not_true, Bool.not_false, convA_int, extA_tuple, List.getElem?_toArray, List.getElem?_cons_zero, List.getElem?_cons_succ]
    refine ⟨l.length + 1, sameS_loop v w hlm hl l [] m [] rfl rfl rfl (fun e => ?_) (fun e => ?_)⟩
    · simp only [retA_iff, oneOf_one]; exact ⟨by simp, by simp [e], by trivial⟩
    · simp only [retA_iff, oneOf_one]; exact ⟨by simp, by simp [e], by trivial⟩
  · have c1 : ((l.length : Int) != (m.length : Int)) = true := by rw [bne_iff_ne]; omega
    have : l ≠ m := fun e => hlm (by rw [e])
    simp only [c1, lenSl_slice, lenStr_string, str_size, fpureA_some, fnilA_ptr, faddA_ptr, addr_add, Nat.zero_add, Nat.add_zero, fpureQ_k, fpureQ_nilA, fpureQ_addA, fpureQ_pureA, fpureQ_guardA, fpureQ_idxSlA, fpureQ_pickA, freadQ_loadA, freadQ_loadNA, freadQ_b2sA, freadQ_guardA, freadQ_slSlA, freadQ_k, fendA, fallA_one, fstillA_nil, fguardA_tt, fguardA_ff, fguardA_tf, fguardA_ft, fguardA_undef, fpickA_true, fpickA_false, fcondA_true, fcondA_false, binA_add, binA_sub, binA_mul, binA_eql, binA_neq, binA_lss, binA_leq, binA_gtr, binA_geq, unA_not, Bool.not_true, Bool.not_false, convA_int, extA_tuple, List.getElem?_toArray, List.getElem?_cons_zero, List.getElem?_cons_succ, retA_iff, oneOf_one]
    exact ⟨by simp, by simp [this], by trivial⟩
/-- PackScans: true. -/
theorem PackScans_top {x : Value} {b : List UInt8} (n s : Int) (hn : -9223372036854775808 ≤ n ∧ n ≤ 9223372036854775807) (ex : ExtSl w0 1 x b.length (b.flatMap dByte.e)) (hb : b.length ≤ 1000000000) :
    ACalls prog w0 n_deduplaw13_PackScans [.int .i64 n, .int .i64 s, x] h fun r h' => r = .bool true := by
  have hj : x ≠ junk := by obtain ⟨a, c, rfl, -⟩ := ex.sl; simp
  refine ACalls.of_fit (by simpa using hj) fun f => c_deduplaw13_PackScans (by simpa using hj) ?_
  refine app_new f (ex.bytes h f) (by omega) (by omega) (by omega) fun x1 h1 S1 g1 _ s1 _ => ?_
  have y1 : Bs w0 h1 x1 b := g1.sl
  refine callA_of (Scan_spec y1 hb n s hn) fun r2 h2 ⟨s2, p2⟩ f2 => ?_
  refine ?_
  have key : ∀ {r : Value} {h' : Hp}, (if pfits n s = true ∧ (b.length : Int) = n * s then
        if headOk b s.toNat = true then
          ∃ xl S', r = .tuple #[.int .u32 (rdn ((b.drop 4).take 4) : Nat), xl, .bool (decide (b.drop (b.length - 16) = mark16 dfot (scanL b (b.length - 16) b.length 16).1.length (scanL b (b.length - 16) b.length 16).2)), .int .i64 0] ∧
            GV w0 h' 2 xl (scanL b (b.length - 16) b.length 16).1.length (slotC (scanL b (b.length - 16) b.length 16).1) S'
        else r = .tuple #[.int .u32 0, .slice none 0 0, .bool false, .int .i64 130]
      else r = .tuple #[.int .u32 0, .slice none 0 0, .bool false, .int .i64 1]) →
      ∃ xl S', r = .tuple #[.int .u32 (if pfits n s = true ∧ (b.length : Int) = n * s then if headOk b s.toNat = true then rdn ((b.drop 4).take 4) else 0 else 0 : Nat), xl,
        .bool (if pfits n s = true ∧ (b.length : Int) = n * s then if headOk b s.toNat = true then decide (b.drop (b.length - 16) = mark16 dfot (scanL b (b.length - 16) b.length 16).1.length (scanL b (b.length - 16) b.length 16).2) else false else false),
        .int .i64 (if pfits n s = true ∧ (b.length : Int) = n * s then if headOk b s.toNat = true then 0 else 130 else 1)] ∧
        GV w0 h' 2 xl (if pfits n s = true ∧ (b.length : Int) = n * s then if headOk b s.toNat = true then (scanL b (b.length - 16) b.length 16).1 else [] else []).length
          (slotC (if pfits n s = true ∧ (b.length : Int) = n * s then if headOk b s.toNat = true then (scanL b (b.length - 16) b.length 16).1 else [] else [])) S' := by
    intro r h' p
    by_cases c1 : pfits n s = true ∧ (b.length : Int) = n * s
    · by_cases c2 : headOk b s.toNat = true
      · rw [if_pos c1, if_pos c2] at p
        simp only [if_pos c1, if_pos c2]
        exact p
      · rw [if_pos c1, if_neg c2] at p
        simp only [if_pos c1, if_neg c2]
        exact ⟨_, [], p, .inl .nil⟩
    · rw [if_neg c1] at p
      simp only [if_neg c1]
      exact ⟨_, [], p, .inl .nil⟩
  have hlen : (if pfits n s = true ∧ (b.length : Int) = n * s then if headOk b s.toNat = true then (scanL b (b.length - 16) b.length 16).1 else [] else []).length ≤ 1000000000 := by
    have := scanL_bound (b := b) (en := b.length - 16) b.length 16
    split
    · split
      · omega
      · simp
    · simp
  obtain ⟨xl, S2, e, g2⟩ := key p2
  subst e
  simp only [lenSl_slice, lenStr_string, str_size, fpureA_some, fnilA_ptr, faddA_ptr, addr_add, Nat.zero_add, Nat.add_zero, fpureQ_k, fpureQ_nilA, fpureQ_addA, fpureQ_pureA, fpureQ_guardA, fpureQ_idxSlA, fpureQ_pickA, freadQ_loadA, freadQ_loadNA, freadQ_b2sA, freadQ_guardA, freadQ_slSlA, freadQ_k, fendA, fallA_one, fstillA_nil, fguardA_tt, fguardA_ff, fguardA_tf, fguardA_ft, fguardA_undef, fpickA_true, fpickA_false, fcondA_true, fcondA_false, binA_add, binA_sub, binA_mul, binA_eql, binA_neq, binA_lss, binA_leq, binA_gtr, binA_geq, unA_not, Bool.not_true, Bool.not_false, convA_int, extA_tuple, List.getElem?_toArray, List.getElem?_cons_zero, List.getElem?_cons_succ]
  refine callA_of (rScan_spec (ex.bytes h2 f2) hb n s hn) fun r3 h3 ⟨s3, p3⟩ f3 => ?_
  obtain ⟨xm, S3, e, g3⟩ := key p3
  subst e
  simp only [lenSl_slice, lenStr_string, str_size, fpureA_some, fnilA_ptr, faddA_ptr, addr_add, Nat.zero_add, Nat.add_zero, fpureQ_k, fpureQ_nilA, fpureQ_addA, fpureQ_pureA, fpureQ_guardA, fpureQ_idxSlA, fpureQ_pickA, freadQ_loadA, freadQ_loadNA, freadQ_b2sA, freadQ_guardA, freadQ_slSlA, freadQ_k, fendA, fallA_one, fstillA_nil, fguardA_tt, fguardA_ff, fguardA_tf, fguardA_ft, fguardA_undef, fpickA_true, fpickA_false, fcondA_true, fcondA_false, binA_add, binA_sub, binA_mul, binA_eql, binA_neq, binA_lss, binA_leq, binA_gtr, binA_geq, unA_not, Bool.not_true, Bool.not_false, convA_int, extA_tuple, List.getElem?_toArray, List.getElem?_cons_zero, List.getElem?_cons_succ]
  refine callA_of lives_spec fun _ h4 ⟨e, s4⟩ f4 => ?_
  subst e
  simp only [lenSl_slice, lenStr_string, str_size, fpureA_some, fnilA_ptr, faddA_ptr, addr_add, Nat.zero_add, Nat.add_zero, fpureQ_k, fpureQ_nilA, fpureQ_addA, fpureQ_pureA, fpureQ_guardA, fpureQ_idxSlA, fpureQ_pickA, freadQ_loadA, freadQ_loadNA, freadQ_b2sA, freadQ_guardA, freadQ_slSlA, freadQ_k, fendA, fallA_one, fstillA_nil, fguardA_tt, fguardA_ff, fguardA_tf, fguardA_ft, fguardA_undef, fpickA_true, fpickA_false, fcondA_true, fcondA_false, binA_add, binA_sub, binA_mul, binA_eql, binA_neq, binA_lss, binA_leq, binA_gtr, binA_geq, unA_not, Bool.not_true, Bool.not_false, convA_int, extA_tuple, List.getElem?_toArray, List.getElem?_cons_zero, List.getElem?_cons_succ, beq_self_eq_true]
  refine callA_of (sameS_spec ((g2.frame s3 (by simp)).frame s4 (by simp)).sl (g3.frame s4 (by simp)).sl hlen) fun _ h5 ⟨e, e5⟩ f5 => ?_
  subst e e5
  simp only [lenSl_slice, lenStr_string, str_size, fpureA_some, fnilA_ptr, faddA_ptr, addr_add, Nat.zero_add, Nat.add_zero, fpureQ_k, fpureQ_nilA, fpureQ_addA, fpureQ_pureA, fpureQ_guardA, fpureQ_idxSlA, fpureQ_pickA, freadQ_loadA, freadQ_loadNA, freadQ_b2sA, freadQ_guardA, freadQ_slSlA, freadQ_k, fendA, fallA_one, fstillA_nil, fguardA_tt, fguardA_ff, fguardA_tf, fguardA_ft, fguardA_undef, fpickA_true, fpickA_false, fcondA_true, fcondA_false, binA_add, binA_sub, binA_mul, binA_eql, binA_neq, binA_lss, binA_leq, binA_gtr, binA_geq, unA_not, Bool.not_true, Bool.not_false, convA_int, extA_tuple, List.getElem?_toArray, List.getElem?_cons_zero, List.getElem?_cons_succ, decide_true, binBoolA_eql, beq_self_eq_true]
  have t4 : Step h1 h5 [] [] := (s2.trans s3).trans s4
  refine callA_of (sameB_spec ((g1.frame t4 (by simp)).sl : Bs w0 h5 x1 b) (ex.bytes h5 f4) hb) fun _ h6 ⟨e, e6⟩ f6 => ?_
  subst e e6
  simp only [lenSl_slice, lenStr_string, str_size, fpureA_some, fnilA_ptr, faddA_ptr, addr_add, Nat.zero_add, Nat.add_zero, fpureQ_k, fpureQ_nilA, fpureQ_addA, fpureQ_pureA, fpureQ_guardA, fpureQ_idxSlA, fpureQ_pickA, freadQ_loadA, freadQ_loadNA, freadQ_b2sA, freadQ_guardA, freadQ_slSlA, freadQ_k, fendA, fallA_one, fstillA_nil, fguardA_tt, fguardA_ff, fguardA_tf, fguardA_ft, fguardA_undef, fpickA_true, fpickA_false, fcondA_true, fcondA_false, binA_add, binA_sub, binA_mul, binA_eql, binA_neq, binA_lss, binA_leq, binA_gtr, binA_geq, unA_not, Bool.not_true, Bool.not_false, convA_int, extA_tuple, List.getElem?_toArray, List.getElem?_cons_zero, List.getElem?_cons_succ, decide_true, retA_iff, oneOf_one]
  simp
end
end Go.Proofs.Ytfhamcobfpmgbaa.Ah
