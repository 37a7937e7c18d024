/- Split, the program's and the document's. -/
import Derived.Test.YtilofpnhpeammaaKs
set_option linter.unusedVariables false
set_option linter.unusedSimpArgs false
namespace Go.Proofs.Ytilofpnhpeammaa.Ah
open Go

def nums : Nat → List UInt8 → List Nat
  | 0, _ => []
  | k + 1, l => rdn (l.take 8) :: nums k (l.drop 8)
@[simp] theorem nums_length (k : Nat) (l : List UInt8) : (nums k l).length = k := by
  induction k generalizing l with
  | zero => rfl
  | succ k ih => simp [nums, ih]
def rdk : Nat → RS → List Nat × RS
  | 0, st => ([], st)
  | k + 1, st => (rdn (st.raw 8).1 :: (rdk k (st.raw 8).2).1, (rdk k (st.raw 8).2).2)
@[simp] theorem rdk_length (k : Nat) (st : RS) : (rdk k st).1.length = k := by
  induction k generalizing st with
  | zero => rfl
  | succ k ih => simp [rdk, ih]
theorem rdk_err (k : Nat) (s : List UInt8) : (rdk k ⟨s, 20⟩).2.err = 20 := by
  induction k with
  | zero => rfl
  | succ k ih => rw [rdk, raw_err (by omega)]; exact ih
theorem rdk_ok : ∀ (k : Nat) (s : List UInt8), 8 * k ≤ s.length → rdk k ⟨s, 0⟩ = (nums k s, ⟨s.drop (8 * k), 0⟩) := by
  intro k
  induction k with
  | zero => intro s h; simp [rdk, nums]
  | succ k ih =>
    intro s h
    have h8 : (⟨s, 0⟩ : RS).raw 8 = (s.take 8, ⟨s.drop 8, 0⟩) := raw_ok (k := 8) (by omega)
    rw [rdk, h8, ih _ (by simp; omega), nums]
    simp [List.drop_drop, Nat.mul_add, Nat.add_comm]
theorem rdk_short : ∀ (k : Nat) (s : List UInt8), s.length < 8 * k → (rdk k ⟨s, 0⟩).2.err = 20 := by
  intro k
  induction k with
  | zero => intro s h; omega
  | succ k ih =>
    intro s h
    rw [rdk]
    by_cases h9 : s.length < 8
    · have h8 : (⟨s, 0⟩ : RS).raw 8 = ([], ⟨s, 20⟩) := raw_short (k := 8) h9
      rw [h8]
      exact rdk_err k s
    · have h8 : (⟨s, 0⟩ : RS).raw 8 = (s.take 8, ⟨s.drop 8, 0⟩) := raw_ok (k := 8) (by omega)
      rw [h8]
      exact ih _ (by simp; omega)
def spl (l : List UInt8) (k : Int) : Nat × List Nat × List UInt8 × Int :=
  if k < 0 ∨ 4 < k then (0, [], [], 1) else if (l.length : Int) < 1 + 8 * k then (0, [], [], 20) else (rdn (l.take 1), nums k.toNat (l.drop 1), l.drop (1 + 8 * k.toNat), 0)
/-- The four results of Split, as they lie in memory. -/
def splV (w0 : World) (h : Hp) (u : Nat × List Nat × List UInt8 × Int) (v : Value) (S : List Nat) : Prop :=
  ∃ x, v = .tuple #[.int .u8 (u.1 : Nat), x, .string (str u.2.2.1), .int .i64 u.2.2.2] ∧ Vec w0 h 1 x u.2.1.length (uvs u.2.1) S

theorem split_loop {w0 : World} {K : Value → Value → Value → Hp → Prop} {x4 : Value} {r n : Nat} (hn : n ≤ 4) : ∀ (k i : Nat) (h : Hp) (x : Value) (pre : List Nat) (st : RS) (S : List Nat), i + k = n → pre.length = i → w0.heap.size ≤ h.next → Vec w0 h 1 x pre.length (uvs pre) S → Rd w0 h r st → r ∉ S →
    (∀ h' x' S', Vec w0 h' 1 x' (pre ++ (rdk k st).1).length (uvs (pre ++ (rdk k st).1)) S' → Rd w0 h' r (rdk k st).2 → r ∉ S' → Step h h' (r :: S) (r :: S') → K x4 x' (ptr r) h') →
    codec_Split_L1 prog w0 K (k + 1) x4 x (ptr r) (.int .i64 (n : Int)) (.int .i64 (i : Int)) h := by
  intro k
  induction k with
  | zero =>
    intro i h x pre st S hi hp hf hv hr hrS hk
    have c1 : decide ((i : Int) < (n : Int)) = false := decide_eq_false (by omega)
    rw [codec_Split_L1]
    simp only [codec_Split_B1, binA_lss, pureA_some, c1, condA_false]
    refine hk h x S (by simpa [rdk] using hv) hr hrS (Step.refl _ _ ?_)
    intro b hb
    rcases List.mem_cons.1 hb with rfl | hb
    · exact hr.2.2.1
    · exact (hv.lt b hb).2
  | succ k ih =>
    intro i h x pre st S hi hp hf hv hr hrS hk
    have c1 : decide ((i : Int) < (n : Int)) = true := decide_eq_true (by omega)
    have e6 : IntKind.i64.wrap ((i : Int) + 1) = ((i + 1 : Nat) : Int) := by rw [IntWalk.i64_in _ (by omega)]; simp
    rw [codec_Split_L1]
    simp only [codec_Split_B1, binA_lss, pureA_some, c1, condA_true]
    refine callA_of (RU64_spec hr) fun v h1 ⟨e, r1, s1⟩ f1 => ?_
    subst e
    have v1 := hv.frame s1 (by intro b hb; simp; rintro rfl; exact hrS hb)
    simp
    have hnx := s1.1
    refine appA_vec (w0 := w0) (m := 1) (s := 1) (by_ := 8) (h := h1.new [.int .u64 (rdn (st.raw 8).1 : Nat)] 1) (ys := uvs [rdn (st.raw 8).1]) (by simp; omega) (v1.new _ _) (by simp) (src_new f1.base (by simp)) (by simp) (by omega) (by omega) (by omega) (fun x' h' S' hv' st2 => ?_)
    simp [e6]
    have hrn := r1.2.2.1
    have r2 : Rd w0 h' r (st.raw 8).2 := (r1.frame ((Step.refl h1 [] (by simp)).new _ _) (by simp)).frame st2 hrS
    have hrS' : r ∉ S' := fun hb => by rcases (st2.3 r hb).2 with q | q; exact hrS q; simp at q; omega
    have s3 : Step h h' (r :: S) (r :: S') := by
      have t1 : Step h h1 (r :: S) (r :: S) := s1.wide (by simp) (fun b hb => by
        rcases List.mem_cons.1 hb with rfl | hb
        · exact .inl (by simp)
        · exact .inr ⟨by simp [hb], (hv.lt b hb).2⟩)
      have t2 : Step h (h1.new [.int .u64 (rdn (st.raw 8).1 : Nat)] 1) (r :: S) (r :: S) := (t1.new _ _).less (fun b hb => by simp [List.mem_cons.1 hb])
      exact t2.trans (st2.wide (fun b hb => by simp [hb]) (fun b hb => by
        rcases List.mem_cons.1 hb with rfl | hb
        · exact .inr ⟨by simp, by simp; omega⟩
        · exact .inl hb))
    have hb' := st2.1
    have := ih (i + 1) h' x' (pre ++ [rdn (st.raw 8).1]) (st.raw 8).2 S' (by omega) (by simp [hp]) (by simp at hb'; omega) (by simpa using hv') r2 hrS' (fun h2 x2 S2 hv2 hr2 hrS2 s2 => hk h2 x2 S2 (by simpa [rdk] using hv2) (by simpa [rdk] using hr2) hrS2 (s3.trans s2))
    simpa using this
theorem raw_all (q : List UInt8) : (⟨q, 0⟩ : RS).raw ((q.length : Nat) : Int) = (q, ⟨[], 0⟩) := by
  rw [raw_ok (Nat.le_refl _), List.take_length, List.drop_length]
theorem Split_spec {w0 : World} {h : Hp} (l : List UInt8) (hl : l.length ≤ 140737488355328) (k : Int) :
    ACalls prog w0 n_codec_Split [.string (str l), .int .i64 k] h fun v h' => ∃ S', splV w0 h' (spl l k) v S' ∧ Step h h' [] S' := by
  refine ACalls.of_fit (by simp) fun f => c_codec_Split (by simp) ?_
  have bad : k < 0 ∨ 4 < k → (retA [(.int .u8 0), (.slice none 0 0), (.string .empty), (.int .i64 1)] fun v h' => ∃ S', splV w0 h' (spl l k) v S' ∧ Step h h' [] S') h := by
    intro hb
    simp only [retA_iff, oneOf_two, spl, if_pos hb]
    exact ⟨by simp, [], ⟨_, rfl, .nil⟩, Step.refl _ _ (by simp)⟩
  simp only [s_codec_Split, binA_lss, pureA_some]
  by_cases h0 : k < 0
  · simp only [decide_eq_true h0, guardA_tf, pickA_true, condA_true]
    exact bad (.inl h0)
  by_cases h4 : 4 < k
  · simp only [decide_eq_false h0, guardA_ff, binA_gtr, pureA_some, decide_eq_true h4, pickA_false, condA_true]
    exact bad (.inr h4)
  simp only [decide_eq_false h0, guardA_ff, binA_gtr, pureA_some, decide_eq_false h4, pickA_false, condA_false]
  obtain ⟨n, rfl⟩ := Int.eq_ofNat_of_zero_le (show 0 ≤ k by omega)
  have hn4 : n ≤ 4 := by omega
  refine callA_of (NewReader_spec l hl) fun v h1 ⟨e, r1, s1⟩ f1 => ?_
  subst e
  refine callA_of (RU8_spec r1) fun v h2 ⟨e, r2, s2⟩ f2 => ?_
  subst e
  refine ⟨n + 1, split_loop hn4 n 0 h2 _ [] _ [] (by omega) rfl f2.base .nil r2 (by simp) (fun h3 x3 S3 v3 r3 hS3 s3 => ?_)⟩
  have s03 := (s1.trans s2).trans s3
  refine callA_of (RErr_spec r3) fun v h4' ⟨e, e2⟩ f4 => ?_
  subst e e2
  by_cases hs : (l.length : Int) < 1 + 8 * (n : Int)
  · have he : (rdk n ((⟨l, 0⟩ : RS).raw 1).2).2.err = 20 := by
      by_cases h9 : l.length < 1
      · have h8 : (⟨l, 0⟩ : RS).raw 1 = ([], ⟨l, 20⟩) := raw_short (k := 1) h9
        rw [h8]; exact rdk_err _ _
      · have h8 : (⟨l, 0⟩ : RS).raw 1 = (l.take 1, ⟨l.drop 1, 0⟩) := raw_ok (k := 1) (by omega)
        rw [h8]; exact rdk_short _ _ (by simp; omega)
    rw [he]
    simp only [binA_neq, pureA_some, show ((20 : Int) != 0) = true from rfl, condA_true, retA_iff, oneOf_two, spl, if_neg (show ¬ ((n : Int) < 0 ∨ 4 < (n : Int)) by omega), if_pos hs]
    exact ⟨by simp, [], ⟨_, rfl, .nil⟩, s03.less (by simp)⟩
  · have h8 : (⟨l, 0⟩ : RS).raw 1 = (l.take 1, ⟨l.drop 1, 0⟩) := raw_ok (k := 1) (by omega)
    have hr : rdk n ((⟨l, 0⟩ : RS).raw 1).2 = (nums n (l.drop 1), ⟨(l.drop 1).drop (8 * n), 0⟩) := by rw [h8]; exact rdk_ok n _ (by simp; omega)
    rw [hr] at v3 r3 ⊢
    simp only [List.nil_append] at v3
    rw [h8]
    simp only [binA_neq, pureA_some, show ((0 : Int) != 0) = false from rfl, condA_false]
    refine callA_of (RLeft_spec r3) fun v h5 ⟨e, e2⟩ f5 => ?_
    subst e e2
    have hlf : (⟨(l.drop 1).drop (8 * n), 0⟩ : RS).left = ((l.drop 1).drop (8 * n)).length := rfl
    rw [hlf]
    refine callA_of (RRaw_spec r3 _ (by have := r3.2.2.2.1; simp only at this; omega)) fun v h6 ⟨e, r6, s6⟩ f6 => ?_
    subst e
    have hraw : (⟨(l.drop 1).drop (8 * n), 0⟩ : RS).raw ((((l.drop 1).drop (8 * n)).length : Nat) : Int) = ((l.drop 1).drop (8 * n), ⟨[], 0⟩) := raw_all _
    rw [hraw]
    simp only [retA_iff, oneOf_two, spl, if_neg (show ¬ ((n : Int) < 0 ∨ 4 < (n : Int)) by omega), if_neg hs]
    obtain ⟨ax, cx, hx⟩ := v3.slice
    refine ⟨by rw [hx]; simp, S3, ⟨x3, ?_, ?_⟩, ?_⟩
    · rw [List.drop_drop]; rfl
    · have := v3.frame s6 (fun b hb => by simp; rintro rfl; exact hS3 hb)
      simpa using this
    · exact (s03.trans (s6.wide (T := h.next :: S3) (T' := S3) (by simp) (fun b hb => .inr ⟨by simp [hb], (v3.lt b hb).2⟩)))
theorem rsplit_loop {w0 : World} {K : Value → Value → Value → Hp → Prop} {l : List UInt8} {n : Nat} (hn : n ≤ 4) (hl : 1 + 8 * n ≤ l.length) (hll : l.length ≤ 140737488355328) : ∀ (k i : Nat) (h : Hp) (x : Value) (pre : List Nat) (S : List Nat), i + k = n → pre.length = i → w0.heap.size ≤ h.next → Vec w0 h 1 x pre.length (uvs pre) S →
    (∀ h' x' S', Vec w0 h' 1 x' (pre ++ nums k (l.drop (1 + 8 * i))).length (uvs (pre ++ nums k (l.drop (1 + 8 * i)))) S' → Step h h' S S' → K (.string (str l)) (.int .i64 (n : Int)) x' h') →
    dedupref02_Split_L1 prog w0 K (k + 1) (.string (str l)) (.int .i64 (n : Int)) x (.int .i64 (i : Int)) h := by
  intro k
  induction k with
  | zero =>
    intro i h x pre S hi hp hf hv hk
    have c1 : decide ((i : Int) < (n : Int)) = false := decide_eq_false (by omega)
    rw [dedupref02_Split_L1]
    simp only [dedupref02_Split_B1, binA_lss, pureA_some, c1, condA_false]
    exact hk h x S (by simpa [nums] using hv) (Step.refl _ _ fun b hb => (hv.lt b hb).2)
  | succ k ih =>
    intro i h x pre S hi hp hf hv hk
    have c1 : decide ((i : Int) < (n : Int)) = true := decide_eq_true (by omega)
    have e6 : IntKind.i64.wrap ((i : Int) + 1) = ((i + 1 : Nat) : Int) := by rw [IntWalk.i64_in _ (by omega)]; simp
    have e7 : IntKind.i64.wrap (8 * (i : Int)) = ((8 * i : Nat) : Int) := by rw [IntWalk.i64_in _ (by omega)]; simp
    have e8 : IntKind.i64.wrap (1 + ((8 * i : Nat) : Int)) = ((1 + 8 * i : Nat) : Int) := by rw [IntWalk.i64_in _ (by omega)]; omega
    have e9 : IntKind.i64.wrap (9 + ((8 * i : Nat) : Int)) = ((9 + 8 * i : Nat) : Int) := by rw [IntWalk.i64_in _ (by omega)]; omega
    have q5 : (l.take (9 + 8 * i)).drop (1 + 8 * i) = (l.drop (1 + 8 * i)).take 8 := by rw [List.drop_take]; congr 1; omega
    rw [dedupref02_Split_L1]
    simp only [dedupref02_Split_B1, binA_lss, pureA_some, c1, condA_true, binA_mul, binA_add, e7, e8, e9]
    rw [strSlA_mid _ _ _ _ _ (by omega) (by omega), q5]
    simp only [pureA_some]
    refine callA_of (rRead_spec _ (by simp only [List.length_take]; omega)) fun v h1 ⟨e, e2⟩ f1 => ?_
    subst e e2
    simp
    refine appA_vec (w0 := w0) (m := 1) (s := 1) (by_ := 8) (h := h1.new [.int .u64 (rdn ((l.drop (1 + 8 * i)).take 8) : Nat)] 1) (ys := uvs [rdn ((l.drop (1 + 8 * i)).take 8)]) (by simp; omega) (hv.new _ _) (by simp) (src_new f1.base (by simp)) (by simp) (by omega) (by omega) (by omega) (fun x' h' S' hv' st2 => ?_)
    simp [e6]
    have s3 : Step h1 h' S S' := (((Step.refl h1 S fun b hb => (hv.lt b hb).2).new _ _).less (fun b hb => by simp [hb])).trans st2
    have hb' := st2.1
    have := ih (i + 1) h' x' (pre ++ [rdn ((l.drop (1 + 8 * i)).take 8)]) S' (by omega) (by simp [hp]) (by simp at hb'; omega) (by simpa using hv') (fun h2 x2 S2 hv2 s2 => hk h2 x2 S2 (by
      have e : nums (k + 1) (l.drop (1 + 8 * i)) = rdn ((l.drop (1 + 8 * i)).take 8) :: nums k (l.drop (1 + 8 * (i + 1))) := by rw [nums, List.drop_drop, show 1 + 8 * i + 8 = 1 + 8 * (i + 1) by omega]
      rw [e]
      simpa using hv2) (s3.trans s2))
    simpa using this
theorem rSplit_spec {w0 : World} {h : Hp} (l : List UInt8) (hl : l.length ≤ 140737488355328) (k : Int) :
    ACalls prog w0 n_dedupref02_Split [.string (str l), .int .i64 k] h fun v h' => ∃ S', splV w0 h' (spl l k) v S' ∧ Step h h' [] S' := by
  refine ACalls.of_fit (by simp) fun f => c_dedupref02_Split (by simp) ?_
  have bad : k < 0 ∨ 4 < k → (retA [(.int .u8 0), (.slice none 0 0), (.string .empty), (.int .i64 1)] fun v h' => ∃ S', splV w0 h' (spl l k) v S' ∧ Step h h' [] S') h := by
    intro hb
    simp only [retA_iff, oneOf_two, spl, if_pos hb]
    exact ⟨by simp, [], ⟨_, rfl, .nil⟩, Step.refl _ _ (by simp)⟩
  simp only [s_dedupref02_Split, binA_lss, pureA_some]
  by_cases h0 : k < 0
  · simp only [decide_eq_true h0, guardA_tf, pickA_true, condA_true]
    exact bad (.inl h0)
  by_cases h4 : 4 < k
  · simp only [decide_eq_false h0, guardA_ff, binA_gtr, pureA_some, decide_eq_true h4, pickA_false, condA_true]
    exact bad (.inr h4)
  obtain ⟨n, rfl⟩ := Int.eq_ofNat_of_zero_le (show 0 ≤ k by omega)
  have hn4 : n ≤ 4 := by omega
  have e7 : IntKind.i64.wrap (8 * (n : Int)) = ((8 * n : Nat) : Int) := by rw [IntWalk.i64_in _ (by omega)]; simp
  have e8 : IntKind.i64.wrap (1 + ((8 * n : Nat) : Int)) = ((1 + 8 * n : Nat) : Int) := by rw [IntWalk.i64_in _ (by omega)]; omega
  simp only [decide_eq_false h0, guardA_ff, binA_gtr, pureA_some, decide_eq_false h4, pickA_false, condA_false, lenStr_string, str_size, binA_mul, binA_add, binA_lss, e7, e8]
  by_cases hs : (l.length : Int) < 1 + 8 * (n : Int)
  · have c1 : decide ((l.length : Int) < ((1 + 8 * n : Nat) : Int)) = true := decide_eq_true (by omega)
    simp only [c1, condA_true, retA_iff, oneOf_two, spl, if_neg (show ¬ ((n : Int) < 0 ∨ 4 < (n : Int)) by omega), if_pos hs]
    exact ⟨by simp, [], ⟨_, rfl, .nil⟩, Step.refl _ _ (by simp)⟩
  · have c1 : decide ((l.length : Int) < ((1 + 8 * n : Nat) : Int)) = false := decide_eq_false (by omega)
    simp only [c1, condA_false]
    refine ⟨n + 1, rsplit_loop hn4 (by omega) hl n 0 h _ [] [] (by omega) rfl f.base .nil (fun h3 x3 S3 v3 s3 => ?_)⟩
    have hi : strIdxA (.string (str l)) (.int .i64 0) = some (.int .u8 ((rdn (l.take 1) : Nat) : Int)) := by
      have := strIdxA_str l .i64 0
      cases l with
      | nil => simp at hs; omega
      | cons b l => rw [show ((0 : Nat) : Int) = 0 from rfl] at this; rw [this]; simp [rdn, bv]
    simp only [fpureQ_k, fpureQ_pureA, hi, pureA_some, binA_mul, binA_add, e7, e8]
    rw [strSlA_drop _ _ _ (by omega)]
    simp only [pureA_some, fendA, retA_iff, oneOf_two, spl, if_neg (show ¬ ((n : Int) < 0 ∨ 4 < (n : Int)) by omega), if_neg hs]
    obtain ⟨ax, cx, hx⟩ := v3.slice
    exact ⟨by rw [hx]; simp, S3, ⟨x3, rfl, by simpa using v3⟩, s3⟩
theorem CodecSplits_spec {w0 : World} {h : Hp} (l : List UInt8) (hl : l.length ≤ 140737488355328) (k : Int) :
    ACalls prog w0 n_deduplaw02_CodecSplits [.string (str l), .int .i64 k] h fun v h' => v = .bool true := by
  refine ACalls.of_fit (by simp) fun f => c_deduplaw02_CodecSplits (by simp) ?_
  refine callA_of (Split_spec l hl k) fun v h1 ⟨S1, ⟨x1, e, v1⟩, s1⟩ f1 => ?_
  subst e
  simp only [extA_tuple, List.getElem?_toArray, List.getElem?_cons_zero, List.getElem?_cons_succ, pureA_some]
  refine callA_of (rSplit_spec l hl k) fun v h2 ⟨S2, ⟨x2, e, v2⟩, s2⟩ f2 => ?_
  subst e
  have w1 := v1.frame s2 (by simp)
  simp only [extA_tuple, List.getElem?_toArray, List.getElem?_cons_zero, List.getElem?_cons_succ, pureA_some]
  refine callA_of awake02_spec fun v h3 ⟨e, s3⟩ f3 => ?_
  subst e
  have y1 := w1.frame s3 (by simp)
  have y2 := v2.frame s3 (by simp)
  simp only [guardA_tt, binA_eql, binA_streql, pureA_some, pickA_true, beq_self_eq_true, decide_true]
  obtain ⟨a1, c1, rfl⟩ := y1.slice
  obtain ⟨a2, c2, rfl⟩ := y2.slice
  have hlen : (spl l k).2.1.length ≤ 4 := by
    unfold spl
    split
    · simp
    split
    · simp
    · simp; omega
  refine callA_of (sameNumbers_spec (by omega) y1.src y2.src) fun v h4 ⟨e, e2⟩ f4 => ?_
  subst e e2
  simp only [guardA_tt, binA_eql, binA_streql, pureA_some, pickA_true, beq_self_eq_true, decide_true, retA_iff, oneOf_one]
  simp
end Go.Proofs.Ytilofpnhpeammaa.Ah
