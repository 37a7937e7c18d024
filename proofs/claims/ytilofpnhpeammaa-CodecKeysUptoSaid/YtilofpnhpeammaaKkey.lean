/- Key, of codec and of dedupref02. -/
import Derived.Test.YtilofpnhpeammaaKp
import Derived.Test.YtilofpnhpeammaaKfr
import Derived.Test.YtilofpnhpeammaaKref
import Derived.Test.YtilofpnhpeammaaAh22
set_option linter.unusedVariables false
set_option linter.unusedSimpArgs false
namespace Go.Proofs.Ytilofpnhpeammaa.Ah
open Go

def keyOf2 (k : Nat) (l : List Nat) (name : List UInt8) : List UInt8 := be 1 k ++ l.flatMap (be 8) ++ name
theorem be8s_length (l : List Nat) : (l.flatMap (be 8)).length = 8 * l.length := by
  induction l with
  | nil => simp
  | cons x l ih => simp [ih]; omega
theorem key_loop {w0 : World} {K : Value → Value → Hp → Prop} {a : Option Addr} {c p k : Nat} {l : List Nat} {x2 : Value} {most : Int} (hl : l.length ≤ 4) (hm : 1 + 8 * l.length ≤ most) : ∀ (post pre : List Nat) (h : Hp) (S : List Nat), pre ++ post = l → Fit w0 h → Src w0.heap.size h 1 (.slice a l.length c) l.length (uvs l) → (∀ b, b ∈ sblk (.slice a l.length c) → b ∉ S) →
    Wr w0 h p ⟨most, be 1 k ++ pre.flatMap (be 8), false⟩ S → (∀ h' S', Fit w0 h' → Wr w0 h' p ⟨most, be 1 k ++ l.flatMap (be 8), false⟩ S' → Step h h' S S' → K x2 (ptr p) h') →
    codec_Key_L1 prog w0 K (post.length + 1) x2 (ptr p) (.slice a l.length c) (.int .i64 (l.length : Int)) (.int .i64 (pre.length : Int)) h := by
  intro post
  induction post with
  | nil =>
    intro pre h S he f hs hd w hk
    have : pre = l := by simpa using he
    subst this
    rw [codec_Key_L1]
    simp only [codec_Key_B1, binA_lss, pureA_some, Int.lt_irrefl, decide_false, condA_false]
    exact hk h S f w (Step.refl _ _ fun b hb => (w.lt b hb).2)
  | cons x post ih =>
    intro pre h S he f hs hd w hk
    have hlen : pre.length + (post.length + 1) = l.length := by rw [← he]; simp
    have c1 : decide ((pre.length : Int) < (l.length : Int)) = true := decide_eq_true (by omega)
    have e5 : IntKind.i64.wrap ((pre.length : Int) + 1) = ((pre.length + 1 : Nat) : Int) := by rw [IntWalk.i64_in _ (by omega)]; simp
    rw [List.length_cons, codec_Key_L1]
    simp only [codec_Key_B1, binA_lss, pureA_some, c1, condA_true]
    refine idx_load1 hs (by simp) (v := uv x) (by rw [← he]; simp [uvs]) ?_
    refine callA_of (U64_spec x w (by simp only [List.length_append, be_length, be8s_length, str_size]; omega)) fun v h2 ⟨S2, w2, s2⟩ f2 => ?_
    have hput : (⟨most, be 1 k ++ pre.flatMap (be 8), false⟩ : WS).put (be 8 x) = ⟨most, be 1 k ++ (pre ++ [x]).flatMap (be 8), false⟩ := by
      rw [put_ok (by simp only [List.length_append, be_length, be8s_length, str_size]; omega)]; simp
    rw [hput] at w2
    simp only [binA_add, pureA_some, e5]
    have hd2 : ∀ b, b ∈ sblk (.slice a l.length c) → b ∉ S2 := by
      intro b hb hb2
      have hpos : 0 < l.length := by omega
      rcases hs.2 with h0 | ⟨_, ad, rfl, hg, -⟩
      · omega
      · simp [sblk] at hb
        subst hb
        obtain ⟨-, cs, hbk, -⟩ := Hp.getN_some hg
        rcases (s2.own _ hb2).2 with q | q
        · exact hd _ (by simp [sblk]) q
        · have := f.lt _ _ hbk; omega
    have := ih (pre ++ [x]) h2 S2 (by simpa using he) f2 (hs.step f s2 hd) hd2 w2 (fun h' S' f' w' s' => hk h' S' f' w' (s2.trans s'))
    simpa using this
theorem Key_spec {w0 : World} {h : Hp} {a : Option Addr} {c k : Nat} (hk : k < 256) {l : List Nat} (hs : Src w0.heap.size h 1 (.slice a l.length c) l.length (uvs l)) (hll : l.length ≤ 1000000000000) (name : List UInt8) (hn : name.length ≤ 1000000000000) :
    ACalls prog w0 n_codec_Key [.int .u8 k, .slice a l.length c, .string (str name)] h fun v h' => v = .tuple (if l.length ≤ 4 then #[.string (str (keyOf2 k l name)), .int .i64 0] else #[.string .empty, .int .i64 1]) ∧ Step h h' [] [] := by
  refine ACalls.of_fit (by simp) fun f => c_codec_Key (by simp) ?_
  simp only [s_codec_Key, lenSl_slice, pureA_some, binA_gtr]
  by_cases h4 : l.length ≤ 4
  · have c1 : decide ((4 : Int) < (l.length : Int)) = false := decide_eq_false (by omega)
    have e1 : IntKind.i64.wrap (8 * (l.length : Int)) = ((8 * l.length : Nat) : Int) := by rw [IntWalk.i64_in _ (by omega)]; simp
    have e2 : IntKind.i64.wrap (1 + ((8 * l.length : Nat) : Int)) = ((1 + 8 * l.length : Nat) : Int) := by rw [IntWalk.i64_in _ (by omega)]; simp
    have e3 : IntKind.i64.wrap (((1 + 8 * l.length : Nat) : Int) + (name.length : Int)) = ((1 + 8 * l.length + name.length : Nat) : Int) := by rw [IntWalk.i64_in _ (by omega)]; simp
    simp only [c1, condA_false, binA_mul, e1, pureA_some, binA_add, e2, lenStr_string, str_size, e3]
    refine callA_of (NewWriter_spec _ (by omega)) fun v h1 ⟨e, w1, s1⟩ f1 => ?_
    subst e
    rw [Int.max_eq_left (by omega)] at w1
    refine callA_of (U8_spec k hk w1 (by simp)) fun v h2 ⟨S2, w2, s2⟩ f2 => ?_
    rw [put_ok (by simp; omega)] at w2
    simp only [List.nil_append] at w2
    have s12 : Step h h2 [] S2 := s1.trans s2
    have hd2 : ∀ b, b ∈ sblk (.slice a l.length c) → b ∉ S2 ∨ l.length = 0 := by
      intro b hb
      by_cases h0 : l.length = 0
      · exact .inr h0
      refine .inl fun hb2 => ?_
      rcases hs.2 with h0' | ⟨_, ad, rfl, hg, -⟩
      · omega
      · simp [sblk] at hb
        subst hb
        obtain ⟨-, cs, hbk, -⟩ := Hp.getN_some hg
        rcases (s12.own _ hb2).2 with q | q
        · simp at q
        · have := f.lt _ _ hbk; omega
    have fin : ∀ h' S', Fit w0 h' → Wr w0 h' h.next ⟨((1 + 8 * l.length + name.length : Nat) : Int), be 1 k ++ l.flatMap (be 8), false⟩ S' → Step h2 h' S2 S' →
        callA prog w0 n_codec_Writer_Raw [ptr h.next, .string (str name)] (fun v37 => callA prog w0 n_codec_Writer_Done [ptr h.next] fun v39 => pureA (extA v39 0) fun v40 => pureA (extA v39 1) fun v41 =>
          retA [v40, v41] fun v h' => v = .tuple (if l.length ≤ 4 then #[.string (str (keyOf2 k l name)), .int .i64 0] else #[.string .empty, .int .i64 1]) ∧ Step h h' [] []) h' := by
      intro h' S' f' w' s'
      refine callA_of (WRaw_spec name (by omega) w' (by simp only [List.length_append, be_length, be8s_length, str_size]; omega)) fun v h3 ⟨S3, w3, s3⟩ f3 => ?_
      rw [put_ok (by simp only [List.length_append, be_length, be8s_length, str_size]; omega)] at w3
      refine callA_of (WDone_spec w3) fun v h9 ⟨e, e1⟩ f9 => ?_
      subst e e1
      simp only [extA_tuple, pureA_some]
      have hst : Step h h9 [] [] := ((s12.trans s').trans s3).less (by simp)
      simp [WS.out, WS.err, h4, keyOf2]
      exact hst
    simp only [pureA_some]
    by_cases h0 : l.length = 0
    · have hl0 : l = [] := List.eq_nil_of_length_eq_zero h0
      subst hl0
      refine ⟨1, ?_⟩
      rw [codec_Key_L1]
      simp only [codec_Key_B1, List.length_nil, binA_lss, pureA_some, show decide (((0 : Nat) : Int) < 0) = false from rfl, condA_false, show decide ((0 : Int) < ((0 : Nat) : Int)) = false from rfl]
      exact fin h2 S2 f2 (by simpa using w2) (Step.refl _ _ fun b hb => (w2.lt b hb).2)
    · refine ⟨l.length + 1, key_loop (k := k) h4 (by omega) l [] h2 S2 rfl f2 (hs.step f s12 (by simp)) (fun b hb => (hd2 b hb).resolve_right h0) (by simpa using w2) fin⟩
  · have c1 : decide ((4 : Int) < (l.length : Int)) = true := decide_eq_true (by omega)
    simp only [c1, condA_true, retA_iff]
    simp [h4]
    exact Step.refl _ _ (by simp)
theorem rkey_loop {w0 : World} {K : Value → Value → Hp → Prop} {a : Option Addr} {c k : Nat} {l : List Nat} {x2 : Value} (hl : l.length ≤ 4) : ∀ (post pre : List Nat) (h : Hp), pre ++ post = l → Fit w0 h → Src w0.heap.size h 1 (.slice a l.length c) l.length (uvs l) →
    (∀ h', Step h h' [] [] → K x2 (.string (str (be 1 k ++ l.flatMap (be 8)))) h') →
    dedupref02_Key_L1 prog w0 K (post.length + 1) x2 (.string (str (be 1 k ++ pre.flatMap (be 8)))) (.slice a l.length c) (.int .i64 (l.length : Int)) (.int .i64 (pre.length : Int)) h := by
  intro post
  induction post with
  | nil =>
    intro pre h he f hs hk
    have : pre = l := by simpa using he
    subst this
    rw [dedupref02_Key_L1]
    simp only [dedupref02_Key_B1, binA_lss, pureA_some, Int.lt_irrefl, decide_false, condA_false]
    exact hk h (Step.refl _ _ (by simp))
  | cons x post ih =>
    intro pre h he f hs hk
    have hlen : pre.length + (post.length + 1) = l.length := by rw [← he]; simp
    have c1 : decide ((pre.length : Int) < (l.length : Int)) = true := decide_eq_true (by omega)
    have e5 : IntKind.i64.wrap ((pre.length : Int) + 1) = ((pre.length + 1 : Nat) : Int) := by rw [IntWalk.i64_in _ (by omega)]; simp
    rw [List.length_cons, dedupref02_Key_L1]
    simp only [dedupref02_Key_B1, binA_lss, pureA_some, c1, condA_true]
    refine idx_load1 hs (by simp) (v := uv x) (by rw [← he]; simp [uvs]) ?_
    refine callA_of (rNumber_spec x 8 (by omega)) fun v h2 ⟨e, s2⟩ f2 => ?_
    subst e
    rw [strA_add _ _ (by simp only [List.length_append, be_length, be8s_length, str_size]; omega)]
    simp only [pureA_some, str_append, binA_add, e5]
    have := ih (pre ++ [x]) h2 (by simpa using he) f2 (hs.step f s2 (by simp)) (fun h' s' => hk h' (s2.trans s'))
    simpa using this
theorem rKey_spec {w0 : World} {h : Hp} {a : Option Addr} {c k : Nat} (hk : k < 256) {l : List Nat} (hs : Src w0.heap.size h 1 (.slice a l.length c) l.length (uvs l)) (hll : l.length ≤ 1000000000000) (name : List UInt8) (hn : name.length ≤ 1000000000000) :
    ACalls prog w0 n_dedupref02_Key [.int .u8 k, .slice a l.length c, .string (str name)] h fun v h' => v = .tuple (if l.length ≤ 4 then #[.string (str (keyOf2 k l name)), .int .i64 0] else #[.string .empty, .int .i64 1]) ∧ Step h h' [] [] := by
  refine ACalls.of_fit (by simp) fun f => c_dedupref02_Key (by simp) ?_
  simp only [s_dedupref02_Key, lenSl_slice, pureA_some, binA_gtr]
  by_cases h4 : l.length ≤ 4
  · have c1 : decide ((4 : Int) < (l.length : Int)) = false := decide_eq_false (by omega)
    simp only [c1, condA_false, bslA_iff, fillA_one, fillA_nil, isCell_int, true_and, zerosL_one, List.set_cons_zero, List.length_cons, List.length_nil]
    refine ⟨by omega, ?_⟩
    have hbk : (.int .u8 (k : Int) : Value) = bv (UInt8.ofNat k) := by rw [bv_ofNat, Nat.mod_eq_of_lt hk]
    rw [hbk]
    refine b2sA_of (l := [UInt8.ofNat k]) (src_new f.base (by simp)) ?_
    have f1 : Fit w0 (h.new [bv (UInt8.ofNat k)] 1) := f.new (by simp)
    have s1 : Step h (h.new [bv (UInt8.ofNat k)] 1) [] [] := ((Step.refl h [] (by simp)).new _ _).less (by simp)
    have e0 : [UInt8.ofNat k] = be 1 k ++ ([] : List Nat).flatMap (be 8) := by simp [be]
    rw [e0]
    simp only [pureA_some]
    refine ⟨l.length + 1, rkey_loop (k := k) h4 l [] _ rfl f1 (hs.step f s1 (by simp)) (fun h' s' => ?_)⟩
    rw [strA_add _ _ (by simp only [List.length_append, be_length, be8s_length, str_size]; omega)]
    simp [h4, keyOf2]
    exact s1.trans s'
  · have c1 : decide ((4 : Int) < (l.length : Int)) = true := decide_eq_true (by omega)
    simp only [c1, condA_true, retA_iff]
    simp [h4]
    exact Step.refl _ _ (by simp)
end Go.Proofs.Ytilofpnhpeammaa.Ah
