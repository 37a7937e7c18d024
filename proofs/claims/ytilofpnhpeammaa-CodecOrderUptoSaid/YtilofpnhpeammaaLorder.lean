/- CodecOrder: the walk. -/
import Derived.Test.YtilofpnhpeammaaLkeys
import Derived.Test.YtilofpnhpeammaaKop
import Derived.Laws.StructEq
set_option linter.unusedVariables false
set_option linter.unusedSimpArgs false
namespace Go.Proofs.Ytilofpnhpeammaa.Ah
open Go

structure Part where
  p : Nat
  a : Nat
  b : Nat
  s : List UInt8
def Part.e (o : Part) : List Value := [.int .u8 o.p, .int .u64 o.a, .int .u64 o.b, .string (str o.s)]
def dPart : Dec Part := ⟨Part.e, fun o => o.p < 256 ∧ o.a < 18446744073709551616 ∧ o.b < 18446744073709551616, fun o => o.s.length + 1⟩

/-! ### The plain law -/
theorem bl_same (p x y : List UInt8) : Op.bytesLess (p ++ x) (p ++ y) = Op.bytesLess x y := by
  induction p with
  | nil => rfl
  | cons a p ih => simp [Op.bytesLess, ih]
theorem bl_be : ∀ (s m n : Nat) (x y : List UInt8), m < 256 ^ s → n < 256 ^ s → m ≠ n → Op.bytesLess (be s m ++ x) (be s n ++ y) = decide (m < n) := by
  intro s
  induction s with
  | zero => intro m n x y hm hn h; simp at hm hn; omega
  | succ s ih =>
    intro m n x y hm hn h
    have hp : 0 < 256 ^ s := Nat.pos_of_ne_zero (by simp)
    have hm1 : m / 256 ^ s < 256 := by rw [Nat.div_lt_iff_lt_mul hp, Nat.mul_comm, ← Nat.pow_succ]; exact hm
    have hn1 : n / 256 ^ s < 256 := by rw [Nat.div_lt_iff_lt_mul hp, Nat.mul_comm, ← Nat.pow_succ]; exact hn
    have em := Nat.div_add_mod m (256 ^ s)
    have en := Nat.div_add_mod n (256 ^ s)
    have lm := Nat.mod_lt m hp
    have ln := Nat.mod_lt n hp
    simp only [be, List.cons_append, Op.bytesLess]
    by_cases e : m / 256 ^ s = n / 256 ^ s
    · rw [e]
      have hne : m % 256 ^ s ≠ n % 256 ^ s := by
        intro e2
        rw [e, e2] at em
        omega
      have := ih (m % 256 ^ s) (n % 256 ^ s) x y lm ln hne
      rw [be_mod _ _ _ (Nat.le_refl s), be_mod _ _ _ (Nat.le_refl s)] at this
      rw [this]
      simp
      rw [e] at em
      omega
    · have h1 : (UInt8.ofNat (m / 256 ^ s) == UInt8.ofNat (n / 256 ^ s)) = false := by
        rw [beq_eq_false_iff_ne]
        intro e2
        have := congrArg UInt8.toNat e2
        simp only [UInt8.toNat_ofNat'] at this
        rw [Nat.mod_eq_of_lt hm1, Nat.mod_eq_of_lt hn1] at this
        exact e this
      rw [h1]
      simp only [Bool.false_and, Bool.or_false]
      have h2 : (UInt8.ofNat (m / 256 ^ s) < UInt8.ofNat (n / 256 ^ s)) ↔ m / 256 ^ s < n / 256 ^ s := by
        rw [UInt8.lt_iff_toNat_lt]
        simp only [UInt8.toNat_ofNat']
        rw [Nat.mod_eq_of_lt hm1, Nat.mod_eq_of_lt hn1]
      have h3 : (m / 256 ^ s < n / 256 ^ s) ↔ m < n := by
        constructor
        · intro q
          have : (m / 256 ^ s + 1) * 256 ^ s ≤ n / 256 ^ s * 256 ^ s := Nat.mul_le_mul_right _ q
          rw [Nat.add_mul, Nat.one_mul] at this
          rw [Nat.mul_comm] at em en
          omega
        · intro q
          have := Nat.div_le_div_right (c := 256 ^ s) (Nat.le_of_lt q)
          omega
      exact decide_eq_decide.2 (h2.trans h3)
def below (a b : Part) : Bool := if a.p ≠ b.p then decide (a.p < b.p) else if a.a ≠ b.a then decide (a.a < b.a) else if a.b ≠ b.b then decide (a.b < b.b) else Op.bytesLess a.s b.s
def keyP (o : Part) : List UInt8 := keyOf2 o.p [o.a, o.b] o.s
theorem keyP_eq (o : Part) : keyP o = be 1 o.p ++ (be 8 o.a ++ (be 8 o.b ++ o.s)) := by simp [keyP, keyOf2]
theorem keyP_below {a b : Part} (ha : dPart.ok a) (hb : dPart.ok b) : Op.bytesLess (keyP a) (keyP b) = below a b := by
  obtain ⟨p, a1, a2, s⟩ := a
  obtain ⟨q, b1, b2, t⟩ := b
  simp only [dPart] at ha hb
  rw [keyP_eq, keyP_eq]
  unfold below
  simp only
  by_cases e : p = q
  · subst e
    rw [if_neg (by simp), bl_same]
    by_cases e : a1 = b1
    · subst e
      rw [if_neg (by simp), bl_same]
      by_cases e : a2 = b2
      · subst e
        rw [if_neg (by simp), bl_same]
      · rw [if_pos e, bl_be 8 _ _ _ _ ha.2.2 hb.2.2 e]
    · rw [if_pos e, bl_be 8 _ _ _ _ ha.2.1 hb.2.1 e]
  · rw [if_pos e, bl_be 1 _ _ _ _ (by simpa using ha.1) (by simpa using hb.1) e]
theorem be_inj {s m n : Nat} (hm : m < 256 ^ s) (hn : n < 256 ^ s) (h : be s m = be s n) : m = n := by
  have := congrArg rdn h
  rw [rdn_be, rdn_be, Nat.mod_eq_of_lt hm, Nat.mod_eq_of_lt hn] at this
  exact this
def sameP (a b : Part) : Bool := decide (a.p = b.p) && decide (a.a = b.a) && decide (a.b = b.b) && decide (a.s = b.s)
theorem keyP_same {a b : Part} (ha : dPart.ok a) (hb : dPart.ok b) : decide (keyP a = keyP b) = sameP a b := by
  obtain ⟨p, a1, a2, s⟩ := a
  obtain ⟨q, b1, b2, t⟩ := b
  simp only [dPart] at ha hb
  unfold sameP
  rw [keyP_eq, keyP_eq]
  simp only [← Bool.decide_and]
  rw [decide_eq_decide]
  constructor
  · intro h
    obtain ⟨h1, h⟩ := List.append_inj h (by simp)
    obtain ⟨h2, h⟩ := List.append_inj h (by simp)
    obtain ⟨h3, h⟩ := List.append_inj h (by simp)
    exact ⟨⟨⟨be_inj (by simpa using ha.1) (by simpa using hb.1) h1, be_inj ha.2.1 hb.2.1 h2⟩, be_inj ha.2.2 hb.2.2 h3⟩, h⟩
  · rintro ⟨⟨⟨rfl, rfl⟩, rfl⟩, rfl⟩
    rfl

/-! ### The walk -/
theorem binA_strlss (a b : List UInt8) : binA .lss (.string (str a)) (.string (str b)) = some (.bool (Op.bytesLess a b)) := by simp [binA, strA]
theorem bne_nat (a b : Nat) : ((a : Int) != (b : Int)) = decide (a ≠ b) := by
  by_cases h : a = b
  · subst h; simp
  · have : (a : Int) ≠ (b : Int) := by omega
    simp [h, this]
theorem below_spec {w0 : World} {h : Hp} (a b : Part) : ACalls prog w0 n_deduplaw02_below [.agg a.e.toArray, .agg b.e.toArray] h fun v h' => v = .bool (below a b) ∧ Step h h' [] [] := by
  refine ACalls.of_fit (by simp) fun f => c_deduplaw02_below (by simp) ?_
  simp only [s_deduplaw02_below, boxA_agg, List.toList_toArray, faddA_ptr, addr_add, Nat.add_zero, Nat.zero_add]
  have hA : ((h.new a.e 4).new b.e 4).blk h.next = some a.e := by simp
  have hB : ((h.new a.e 4).new b.e 4).blk (h.new a.e 4).next = some b.e := by simp
  have fA := f.base
  have fB : w0.heap.size ≤ (h.new a.e 4).next := by simp; omega
  have hst : Step h ((h.new a.e 4).new b.e 4) [] [] := (((Step.refl h [] (by simp)).new _ _).new _ _).less (by simp)
  generalize (h.new a.e 4).new b.e 4 = h1 at hA hB hst ⊢
  generalize (h.new a.e 4).next = bb at hB fB ⊢
  refine loadA_at fA hA (by rfl) ?_
  refine loadA_at fB hB (by rfl) ?_
  simp only [binA_neq, pureA_some, bne_nat]
  unfold below
  by_cases e1 : a.p = b.p
  · simp only [e1, ne_eq, not_true_eq_false, decide_false, condA_false, if_false]
    refine loadA_at fA hA (by rfl) ?_
    refine loadA_at fB hB (by rfl) ?_
    simp only [binA_neq, pureA_some, bne_nat]
    by_cases e2 : a.a = b.a
    · simp only [e2, ne_eq, not_true_eq_false, decide_false, condA_false, if_false]
      refine loadA_at fA hA (by rfl) ?_
      refine loadA_at fB hB (by rfl) ?_
      simp only [binA_neq, pureA_some, bne_nat]
      by_cases e3 : a.b = b.b
      · simp only [e3, ne_eq, not_true_eq_false, decide_false, condA_false, if_false]
        refine loadA_at fA hA (by rfl) ?_
        refine loadA_at fB hB (by rfl) ?_
        simp only [binA_strlss, pureA_some, retA_iff, oneOf_one]
        exact ⟨by simp, by trivial, hst⟩
      · simp only [e3, ne_eq, not_false_eq_true, decide_true, condA_true, if_true]
        refine loadA_at fA hA (by rfl) ?_
        refine loadA_at fB hB (by rfl) ?_
        simp only [binA_lss, pureA_some, retA_iff, oneOf_one]
        exact ⟨by simp, by simp, hst⟩
    · simp only [e2, ne_eq, not_false_eq_true, decide_true, condA_true, if_true]
      refine loadA_at fA hA (by rfl) ?_
      refine loadA_at fB hB (by rfl) ?_
      simp only [binA_lss, pureA_some, retA_iff, oneOf_one]
      exact ⟨by simp, by simp, hst⟩
  · simp only [e1, ne_eq, not_false_eq_true, decide_true, condA_true, if_true]
    refine loadA_at fA hA (by rfl) ?_
    refine loadA_at fB hB (by rfl) ?_
    simp only [binA_lss, pureA_some, retA_iff, oneOf_one]
    exact ⟨by simp, by simp, hst⟩
theorem eqParts {K : Kont} {h : Hp} (a b : Part) (hk : K (.bool (sameP a b)) h) : eqStA prog .eql 48 (.agg a.e.toArray) (.agg b.e.toArray) K h := by
  refine ⟨_, _, sameP a b, rfl, rfl, fun v hv => ?_, fun v hv => ?_, fun w => ?_, fun w => run_eqGuard_agg w _ _ _ _ _ _ (by kernel_rfl), hk⟩
  · simp [Part.e] at hv; rcases hv with rfl | rfl | rfl | rfl <;> rfl
  · simp [Part.e] at hv; rcases hv with rfl | rfl | rfl | rfl <;> rfl
  · have u5 := Try.underlying5
    have u22 := Try.underlying22
    have u9 := Try.underlying9
    have a5 := Try.isAgg5
    have a22 := Try.isAgg22
    have a9 := Try.isAgg9
    have z5 := Try.sizeOf5
    have z22 := Try.sizeOf22
    have z9 := Try.sizeOf9
    have hS : prog.underlying 48 = some (.struct (prog.fieldsOf 48)) := by kernel_rfl
    have hp : prog.stoodInHeld 48 = false := by kernel_rfl
    rw [run_eql_struct, show (10000 : Nat) = 9999 + 1 from rfl, run_equalIn_agg w 9999 48 _ _ hS hp]
    simp only [Program.fieldsOf, Try.underlying48, Part.e]
    go_simp
    unfold sameP
    by_cases h1 : a.p = b.p <;> by_cases h2 : a.a = b.a <;> by_cases h3 : a.b = b.b <;> by_cases h4 : a.s = b.s <;> simp [h1, h2, h3, h4] <;> omega
theorem CodecOrder_spec {w0 : World} {h : Hp} (a b : Part) (ha : dPart.ok a) (hb : dPart.ok b) (hal : a.s.length ≤ 1048576) (hbl : b.s.length ≤ 1048576) :
    ACalls prog w0 n_deduplaw02_CodecOrder [.agg a.e.toArray, .agg b.e.toArray] h fun v h' => v = .bool true := by
  refine ACalls.of_fit (by simp) fun f => c_deduplaw02_CodecOrder (by simp) ?_
  simp only [s_deduplaw02_CodecOrder, boxA_agg, List.toList_toArray, faddA_ptr, addr_add, Nat.add_zero, Nat.zero_add]
  have hA : ((h.new a.e 4).new b.e 4).blk h.next = some a.e := by simp
  have hB : ((h.new a.e 4).new b.e 4).blk (h.new a.e 4).next = some b.e := by simp
  have fA := f.base
  have fB : w0.heap.size ≤ (h.new a.e 4).next := by simp; omega
  have lA : h.next < ((h.new a.e 4).new b.e 4).next := by simp; omega
  have lB : (h.new a.e 4).next < ((h.new a.e 4).new b.e 4).next := by simp
  generalize (h.new a.e 4).new b.e 4 = h1 at hA hB lA lB ⊢
  generalize (h.new a.e 4).next = bb at hB fB lB ⊢
  refine callA_of awake02_spec fun v h2 ⟨e, s2⟩ f2 => ?_
  subst e
  have mv : ∀ {h1 h2 : Hp} {q : Nat} {cs : List Value}, h1.blk q = some cs → q < h1.next → Step h1 h2 [] [] → h2.blk q = some cs ∧ q < h2.next := by
    intro h1 h2 q cs hb hl s
    exact ⟨by rw [(s.keep q hl (by simp)).1]; exact hb, by have := s.next; omega⟩
  obtain ⟨hA, lA⟩ := mv hA lA s2
  obtain ⟨hB, lB⟩ := mv hB lB s2
  simp only [unA_not, Bool.not_true, pureA_some, condA_false]
  refine loadA_at fA hA (by rfl) ?_
  refine loadA_at fA hA (by rfl) ?_
  refine loadA_at fA hA (by rfl) ?_
  have hz : zerosL [(.int .u64 0 : Value)] 2 = [.int .u64 0, .int .u64 0] := rfl
  simp only [hz, bslA_iff, fillA_one, fillA_nil, isCell_int, true_and, List.set_cons_zero, List.set_cons_succ, List.length_cons, List.length_nil, Nat.zero_add]
  refine ⟨by omega, by omega, ?_⟩
  have s3 : Step h2 (h2.new [.int .u64 a.a, .int .u64 a.b] 1) [] [] := ((Step.refl h2 [] (by simp)).new _ _).less (by simp)
  obtain ⟨hA, lA⟩ := mv hA lA s3
  obtain ⟨hB, lB⟩ := mv hB lB s3
  refine loadA_at fA hA (by rfl) ?_
  refine callA_of (Key_spec (k := a.p) (l := [a.a, a.b]) (a := some ⟨h2.next, 0, none⟩) (c := 2) ha.1 (src_new f2.base rfl) (by simp) a.s (by omega)) fun v h4 ⟨e, s4⟩ f4 => ?_
  subst e
  obtain ⟨hA, lA⟩ := mv hA lA s4
  obtain ⟨hB, lB⟩ := mv hB lB s4
  simp only [List.length_cons, List.length_nil, show (0 + 1 + 1 ≤ 4) = True from by simp, if_true, extA_tuple, List.getElem?_toArray, List.getElem?_cons_zero, List.getElem?_cons_succ, pureA_some]
  refine loadA_at fB hB (by rfl) ?_
  refine loadA_at fB hB (by rfl) ?_
  refine loadA_at fB hB (by rfl) ?_
  simp only [hz, bslA_iff, fillA_one, fillA_nil, isCell_int, true_and, List.set_cons_zero, List.set_cons_succ, List.length_cons, List.length_nil, Nat.zero_add]
  refine ⟨by omega, by omega, ?_⟩
  have s5 : Step h4 (h4.new [.int .u64 b.a, .int .u64 b.b] 1) [] [] := ((Step.refl h4 [] (by simp)).new _ _).less (by simp)
  obtain ⟨hA, lA⟩ := mv hA lA s5
  obtain ⟨hB, lB⟩ := mv hB lB s5
  refine loadA_at fB hB (by rfl) ?_
  refine callA_of (Key_spec (k := b.p) (l := [b.a, b.b]) (a := some ⟨h4.next, 0, none⟩) (c := 2) hb.1 (src_new f4.base rfl) (by simp) b.s (by omega)) fun v h6 ⟨e, s6⟩ f6 => ?_
  subst e
  obtain ⟨hA, lA⟩ := mv hA lA s6
  obtain ⟨hB, lB⟩ := mv hB lB s6
  simp only [List.length_cons, List.length_nil, show (0 + 1 + 1 ≤ 4) = True from by simp, if_true, extA_tuple, List.getElem?_toArray, List.getElem?_cons_zero, List.getElem?_cons_succ, pureA_some, binA_eql, beq_self_eq_true, guardA_tt, pickA_true]
  have e1 := binA_strlss (keyP a) (keyP b)
  have e2 := binA_streql (str (keyP a)) (str (keyP b))
  rw [keyP_below ha hb] at e1
  simp only [str_inj] at e2
  rw [keyP_same ha hb] at e2
  simp only [keyP] at e1 e2
  simp only [e1, e2, pureA_some]
  rw [guardA_tt]
  refine loadNA_whole fA hA (by rfl) ?_
  rw [guardA_tt]
  refine loadNA_whole fB hB (by rfl) ?_
  rw [guardA_tt]
  refine callA_of (below_spec a b) fun v h7 ⟨e, s7⟩ f7 => ?_
  subst e
  obtain ⟨hA, lA⟩ := mv hA lA s7
  obtain ⟨hB, lB⟩ := mv hB lB s7
  simp only [binBoolA_eql, beq_self_eq_true, pureA_some, guardA_tt, pickA_true, e2]
  refine loadNA_whole fA hA (by rfl) ?_
  rw [guardA_tt]
  refine loadNA_whole fB hB (by rfl) ?_
  rw [guardA_tt]
  refine eqParts a b ?_
  simp only [binBoolA_eql, beq_self_eq_true, pureA_some, guardA_tt, pickA_true, retA_iff, oneOf_one]
  simp
end Go.Proofs.Ytilofpnhpeammaa.Ah
