/- deduplaw14.sameInts, awake. -/
import Derived.Test.YtfmoemconapmhaaGreatLxc
import Derived.Test.YtfmoemconapmhaaGreatGlaw14
import Derived.Test.YtfmoemconapmhaaGreatExq
set_option linter.unusedVariables false
set_option linter.unusedSimpArgs false
set_option linter.constructorNameAsVariable false
namespace Go.Proofs.YtfmoemconapmhaaGreat.Ah
open Go
theorem inV_get {l : List Nat} {i n : Nat} (h : l[i]? = some n) : (inV l)[i]? = some (.int .i64 (n : Int)) := by unfold inV; rw [List.getElem?_map, h]; rfl
section
variable {w0 : World} {h h' : Hp}
theorem ints_loop {k0 kr : Value → Hp → Prop} {a b x4 : Value} {l m : List Nat} (ha : Sl w0 h 1 a l.length (inV l)) (hb : Sl w0 h 1 b m.length (inV m)) (hlm : l.length = m.length) (hl : l.length ≤ 1000000000)
    (h0 : l = m → k0 x4 h) (h1 : l ≠ m → kr (.bool false) h) : ∀ (k i : Nat), i + k = l.length → (∀ j, j < i → l[j]? = m[j]?) →
      deduplaw14_sameInts_L1 prog w0 k0 kr (k + 1) a b x4 (.int .i64 (l.length : Int)) (.int .i64 (i : Int)) h := by
  intro k
  induction k with
  | zero =>
    intro i hi hp
    have : i = l.length := by omega
    subst this
    rw [deduplaw14_sameInts_L1]
    simp only [deduplaw14_sameInts_B1, wd, List.getElem?_toArray, List.getElem?_cons_zero, List.getElem?_cons_succ, Int.lt_irrefl, decide_false]
    refine h0 (List.ext_getElem? fun j => ?_)
    by_cases hj : j < l.length
    · exact hp j hj
    · rw [List.getElem?_eq_none (by omega), List.getElem?_eq_none (by omega)]
  | succ k ih =>
    intro i hi hp
    have c1 : decide ((i : Int) < (l.length : Int)) = true := decide_eq_true (by omega)
    have e6 : IntKind.i64.wrap ((i : Int) + 1) = ((i + 1 : Nat) : Int) := by rw [IntWalk.i64_in _ (by omega)]; simp
    obtain ⟨x, hx⟩ : ∃ x, l[i]? = some x := ⟨l[i], by simp⟩
    obtain ⟨y, hy⟩ : ∃ y, m[i]? = some y := ⟨m[i], by simp⟩
    rw [deduplaw14_sameInts_L1]
    simp only [deduplaw14_sameInts_B1, wd, List.getElem?_toArray, List.getElem?_cons_zero, List.getElem?_cons_succ, c1]
    refine ha.one (inV_get hx) ?_
    refine hb.one (inV_get hy) ?_
    simp only [wd, List.getElem?_toArray, List.getElem?_cons_zero, List.getElem?_cons_succ]
    by_cases hxy : x = y
    · have c2 : ((x : Int) != (y : Int)) = false := by simp [hxy]
      simp only [c2, wd, List.getElem?_toArray, List.getElem?_cons_zero, List.getElem?_cons_succ, e6]
      refine ih (i + 1) (by omega) fun j hj => ?_
      by_cases hji : j = i
      · rw [hji, hx, hy, hxy]
      · exact hp j (by omega)
    · have c2 : ((x : Int) != (y : Int)) = true := by simp; omega
      simp only [c2, wd, List.getElem?_toArray, List.getElem?_cons_zero, List.getElem?_cons_succ]
      refine h1 fun e => hxy ?_
      rw [e, hy] at hx
      exact (Option.some.inj hx).symm
theorem ints_spec {a b : Value} {l m : List Nat} (ha : Sl w0 h 1 a l.length (inV l)) (hb : Sl w0 h 1 b m.length (inV m)) (hl : l.length ≤ 1000000000) :
    ACalls prog w0 n_deduplaw14_sameInts [a, b] h fun r h' => r = .bool (decide (l = m)) ∧ h' = h := by
  refine ACalls.of_fit (by simp [ha.junk, hb.junk]) fun f => c_deduplaw14_sameInts (by simp [ha.junk, hb.junk]) ?_
  simp only [s_deduplaw14_sameInts, ha.lenv, hb.lenv, wd, List.getElem?_toArray, List.getElem?_cons_zero, List.getElem?_cons_succ]
  by_cases hlm : l.length = m.length
  · have c1 : ((l.length : Int) != (m.length : Int)) = false := by simp [hlm]
    simp only [c1, wd, List.getElem?_toArray, List.getElem?_cons_zero, List.getElem?_cons_succ]
    refine ⟨l.length + 1, ints_loop ha hb hlm hl (fun e => ?_) (fun e => ?_) l.length 0 (by omega) (by omega)⟩
    · simp only [retA_iff, oneOf_one]
      exact ⟨by simp, by simp [e], trivial⟩
    · simp only [retA_iff, oneOf_one]
      exact ⟨by simp, by simp [e], trivial⟩
  · have c1 : ((l.length : Int) != (m.length : Int)) = true := by simp; omega
    simp only [c1, wd, List.getElem?_toArray, List.getElem?_cons_zero, List.getElem?_cons_succ, retA_iff, oneOf_one]
    exact ⟨by simp, by simp; intro e; exact hlm (by rw [e]), trivial⟩
def aw1 : LS := (newS 256 2 2).put ⟨[97], [49], false⟩
def aw2 : LS := aw1.put ⟨[98], [50], false⟩
def aw3 : LS := aw2.put ⟨[97], [51], false⟩
def aw4 : LS := aw3.put ⟨[98], [], true⟩
theorem aw4_runs : runsL aw4.lv = [2] := by rfl
theorem aw4_get : look aw4.lists [97] = some ⟨[97], [51], false⟩ ∧ look aw4.lists [98] = some ⟨[98], [], true⟩ := by constructor <;> rfl
theorem aw5_runs : runsL aw4.step.lv = [0, 1] := by rfl
theorem aw5_full : fullN aw4.lv aw4.fan = some 0 := by rfl
theorem awake_spec : ACalls prog w0 n_deduplaw14_awake [] h fun r h' => r = .bool true ∧ Step h h' [] [] := by
  refine ACalls.of_fit (by simp) fun f => c_deduplaw14_awake (by simp) ?_
  simp only [s_deduplaw14_awake, buildA_iff, fillA_one, fillA_nil, List.set_cons_zero, List.set_cons_succ]
  refine ⟨rfl, by simp, rfl, by simp, rfl, by simp, ?_⟩
  refine callA_of (New_spec 256 2 2) fun r h1 ⟨e, _⟩ f1 => ?_
  obtain ⟨p, S1, e, m1, s1⟩ := e (by rfl)
  subst e
  have o1 : LOk (newS 256 2 2) 0 := newS_ok (by rfl) 0
  have hpe : binPtrA .eql p (.pointer none) = some (.bool false) := by obtain ⟨q, -, -, -, e, -⟩ := m1; rw [e]; rfl
  have c0 : ((0 : Int) != 0) = false := rfl
  simp only [wd, List.getElem?_toArray, List.getElem?_cons_zero, List.getElem?_cons_succ, hpe, c0]
  refine callA_of (LScan_spec p m1.nj m1.isC [] []) fun v h2 ⟨q1, q2, q3, e, _, _, _, _, _, _, _, _, _, s2⟩ f2 => ?_
  subst e
  have c1 : binFnA .eql (.func (.func n_level_Levels_Scan_S1) #[] #[ptr q1, ptr q2, ptr q3]) .nilFunc = some (.bool false) := rfl
  simp only [wd, List.getElem?_toArray, List.getElem?_cons_zero, List.getElem?_cons_succ, c1]
  have m2 : Lv w0 h2 p (newS 256 2 2) S1 [] := m1.step0 s2
  refine callA_of (Put_lv [97] [49] m2 o1 (by simp)) fun u h3 ⟨S3, N3, e, m3, s3⟩ f3 => ?_
  have r1 : rightE ⟨[97], [49], false⟩ = true := by rfl
  rw [if_pos r1] at m3
  have o3 : LOk aw1 _ := lput_ok o1 r1
  refine callA_of (Put_lv [98] [50] m3 o3 (by simp)) fun u h4 ⟨S4, N4, e, m4, s4⟩ f4 => ?_
  have r2 : rightE ⟨[98], [50], false⟩ = true := by rfl
  rw [if_pos r2] at m4
  have o4 : LOk aw2 _ := lput_ok o3 r2
  refine callA_of (Put_lv [97] [51] m4 o4 (by simp)) fun u h5 ⟨S5, N5, e, m5, s5⟩ f5 => ?_
  have r3 : rightE ⟨[97], [51], false⟩ = true := by rfl
  rw [if_pos r3] at m5
  have o5 : LOk aw3 _ := lput_ok o4 r3
  refine callA_of (Delete_lv [98] m5 o5 (by simp)) fun u h6 ⟨S6, N6, e, m6, s6⟩ f6 => ?_
  have r4 : rightE ⟨[98], [], true⟩ = true := by rfl
  rw [if_pos r4] at m6
  have o6 : LOk aw4 _ := lput_ok o5 r4
  have m6' : Lv w0 h6 p aw4 S6 _ := m6
  have lS : ∀ {A B : List Nat} (b : Nat), b ∈ A → b ∈ A ++ B := fun b hb => by simp [hb]
  have st6 : Step h h6 [] S6 := ((((s1.trans (s2.keepS fun b hb => (s1.own b hb).1)).trans (s3.less lS)).trans (s4.less lS)).trans (s5.less lS)).trans (s6.less lS)
  have lS6 := m6'.lt
  have hll6 : ∀ i, (aw4.lv.getD i []).length ≤ 1000000 := fun i => by have := o6.lvl i; have e : (0 + ([97] : Key).length : Nat) = 1 := rfl; simp only [List.length_cons, List.length_nil] at this; omega
  refine callA_of (Runs_lv m6') fun v h7 ⟨S7, g7, _, s7⟩ f7 => ?_
  rw [aw4_runs] at g7
  refine bsl1 rfl ?_
  have s8 : Step h7 (h7.new [.int .i64 2] 1) [] [h7.next] := (Step.refl h7 [] (by simp)).new _ _
  have g8 : Vec w0 (h7.new [.int .i64 2] 1) 1 (.slice (some ⟨h7.next, 0, none⟩) 1 1) 1 (inV [2]) [h7.next] ∨ True := .inr trivial
  have g8' : Sl w0 (h7.new [.int .i64 2] 1) 1 (.slice (some ⟨h7.next, 0, none⟩) 1 1) [2].length (inV [2]) := ⟨_, _, rfl, src_new f7.base rfl, rfl, .inl ⟨by decide, Nat.le_refl _⟩⟩
  have g7' := g7.step f7 s8 (by simp)
  have st8 : Step h6 (h7.new [.int .i64 2] 1) [] [] := (s7.less (by simp)).trans (s8.less (by simp))
  generalize h7.new [.int .i64 2] 1 = h8 at *
  refine callA_of (ints_spec g7' g8' (by decide)) fun v h9 ⟨e, e'⟩ f9 => ?_
  subst e
  subst h9
  have m8 := m6'.step0 st8
  refine callA_of (Get_lv m8 hll6 [97]) fun v h9 ⟨e, s9⟩ f9 => ?_
  subst e
  rw [aw4_get.1]
  simp only [wd, List.getElem?_toArray, List.getElem?_cons_zero, List.getElem?_cons_succ]
  refine callA_of (Get_lv (m8.step0 s9) hll6 [98]) fun v h10 ⟨e, s10⟩ f10 => ?_
  subst e
  rw [aw4_get.2]
  simp only [decide_true, wd, List.getElem?_toArray, List.getElem?_cons_zero, List.getElem?_cons_succ]
  have m10 := (m8.step0 s9).step0 s10
  refine callA_of (Step_lv m10 o6 (by simp)) fun v h11 ⟨S11, N11, e, m11, s11⟩ f11 => ?_
  subst e
  rw [aw5_full]
  simp only [Option.isSome_some, wd, List.getElem?_toArray, List.getElem?_cons_zero, List.getElem?_cons_succ]
  refine callA_of (Runs_lv m11) fun v h12 ⟨S12, g12, _, s12⟩ f12 => ?_
  rw [aw5_runs] at g12
  simp only [bslA_iff, fillA_one, fillA_nil, show zerosL [(.int .i64 0 : Value)] 2 = [.int .i64 0, .int .i64 0] from rfl, List.set_cons_zero, List.set_cons_succ]
  refine ⟨rfl, by simp, rfl, by simp, ?_⟩
  have s13 : Step h12 (h12.new [.int .i64 0, .int .i64 1] 1) [] [h12.next] := (Step.refl h12 [] (by simp)).new _ _
  have g13 : Sl w0 (h12.new [.int .i64 0, .int .i64 1] 1) 1 (.slice (some ⟨h12.next, 0, none⟩) 2 2) [0, 1].length (inV [0, 1]) := ⟨_, _, rfl, src_new f12.base rfl, rfl, .inl ⟨by decide, Nat.le_refl _⟩⟩
  have g12' := g12.step f12 s13 (by simp)
  have st13 : Step h6 (h12.new [.int .i64 0, .int .i64 1] 1) S6 [] := ((((st8.trans s9).trans s10).keepS fun b hb => (lS6 b hb).2).trans (s11.less (T := []) (by simp))).trans ((s12.less (T := []) (by simp)).trans (s13.less (by simp)))
  generalize h12.new [.int .i64 0, .int .i64 1] 1 = h13 at *
  refine callA_of (ints_spec g12' g13 (by decide)) fun v h14 ⟨e, e'⟩ f14 => ?_
  subst e
  subst h14
  have e1 : binA .eql (.string (str (vOf (some ⟨[97], [51], false⟩)))) (.string ⟨#[51]⟩) = some (.bool true) := by
    show binA .eql (.string (str [51])) (.string (str [51])) = _
    rw [s_eql]; rfl
  simp only [decide_true, e1, gOf, wd, List.getElem?_toArray, List.getElem?_cons_zero, List.getElem?_cons_succ, retA_iff, oneOf_one]
  exact ⟨by simp, trivial, st6.trans st13⟩
end
structure LOp where
  k : Int
  key : Key
  to : Key
  v : Key
  n : Int
def LOp.e (o : LOp) : List Value := [.int .i64 o.k, .string (str o.key), .string (str o.to), .string (str o.v), .int .i64 o.n]
def dLOp : Dec LOp := ⟨LOp.e, fun _ => True, fun o => o.key.length + o.to.length + o.v.length + 6⟩
section
variable {w0 : World} {h h' : Hp}
theorem Lno.y {r : Value} (m : Lno w0 h r) {N : Nat} (ys : YStep N h h' [] []) : Lno w0 h' r := (m.step ys.step : Lno w0 (h'.as h) r)
theorem nb_lev {R : Value → Value → Value → Value → Value → Hp → Prop} {k0 kr : Value → Hp → Prop} {p1 p2 i : Nat} {x11 r : Value} {o : LOp} {vs : List Value} (f : Fit w0 h) (w1 : w0.heap.size ≤ p1) (b1 : h.blk p1 = some o.e) (v : Sl w0 h 1 x11 2 vs) (hi : i < 2) (hv : vs[i]? = some r) (m : Lno w0 h r) (hrc : isCell r = true)
    (hR : ∀ h', Fit w0 h' → YStep 0 h h' [] [] → R (ptr p1) (ptr p2) x11 (.int .i64 2) (.int .i64 ((i + 1 : Nat) : Int)) h') : deduplaw14_LevelNobody_B1 prog w0 R k0 kr (ptr p1) (ptr p2) x11 (.int .i64 2) (.int .i64 (i : Int)) h := by
  have c1 : decide ((i : Int) < 2) = true := decide_eq_true (by omega)
  have e6 : IntKind.i64.wrap ((i : Int) + 1) = ((i + 1 : Nat) : Int) := by rw [IntWalk.i64_in _ (by omega)]; simp
  have l1 := f.lt _ _ b1
  simp only [deduplaw14_LevelNobody_B1, c1, ptr, wd, List.getElem?_toArray, List.getElem?_cons_zero, List.getElem?_cons_succ]
  refine v.one hv ?_
  refine loadA_at w1 b1 rfl ?_
  refine callA_of (Get_lno m o.key) fun u h2 ⟨e, e'⟩ f2 => ?_
  subst e
  subst h2
  simp only [wd, List.getElem?_toArray, List.getElem?_cons_zero, List.getElem?_cons_succ]
  refine loadA_at w1 b1 rfl ?_
  refine loadA_at w1 b1 rfl ?_
  refine callA_of (Put_no m o.key o.v) fun u h3 ⟨e, s3⟩ f3 => ?_
  subst e
  have b3 : h3.blk p1 = some o.e := by rw [(s3.keep _ l1 (by simp)).1]; exact b1
  have c6 : ((6 : Int) != 6) = false := rfl
  simp only [c6, wd, List.getElem?_toArray, List.getElem?_cons_zero, List.getElem?_cons_succ]
  refine loadA_at w1 b3 rfl ?_
  refine callA_of (Delete_no (m.step s3) o.key) fun u h4 ⟨e, s4⟩ f4 => ?_
  subst e
  have s04 := s3.trans s4
  have m4 := m.step s04
  have c7 : binA .neq (.string .empty) (.string .empty) = some (.bool false) := by
    show binA .neq (.string (str [])) (.string (str [])) = _
    rw [s_neq]
    rfl
  simp only [c6, c7, wd, List.getElem?_toArray, List.getElem?_cons_zero, List.getElem?_cons_succ]
  refine callA_of (Flush_no m4) fun u h5 ⟨e, e'⟩ f5 => ?_
  subst e
  subst h5
  simp only [wd, List.getElem?_toArray, List.getElem?_cons_zero, List.getElem?_cons_succ]
  refine callA_of (Step_no m4) fun u h5 ⟨e, e'⟩ f5 => ?_
  subst e
  subst h5
  simp only [wd, List.getElem?_toArray, List.getElem?_cons_zero, List.getElem?_cons_succ]
  refine callA_of (Runs_no m4) fun u h5 ⟨e, e'⟩ f5 => ?_
  subst e
  subst h5
  have c8 : (((0 : Nat) : Int) != 0) = false := rfl
  simp only [c8, wd, List.getElem?_toArray, List.getElem?_cons_zero, List.getElem?_cons_succ]
  refine callA_of (Manifest_no m4) fun u h5 ⟨e, e'⟩ f5 => ?_
  subst e
  subst h5
  simp only [c8, wd, List.getElem?_toArray, List.getElem?_cons_zero, List.getElem?_cons_succ]
  refine callA_of (Files_no m4) fun u h5 ⟨e, e'⟩ f5 => ?_
  subst e
  subst h5
  simp only [c8, wd, List.getElem?_toArray, List.getElem?_cons_zero, List.getElem?_cons_succ]
  refine callA_of (Fork_no m4) fun u h5 ⟨e, e'⟩ f5 => ?_
  subst e
  subst h5
  have c9 : binPtrA .neq (.pointer none) (.pointer none) = some (.bool false) := rfl
  simp only [c9, wd, List.getElem?_toArray, List.getElem?_cons_zero, List.getElem?_cons_succ]
  refine callA_of (LScan_spec r m.nj hrc [] []) fun u h6 ⟨r1, r2, r3, e, d1, d2, d3, d4, d5, d6, d7, d8, d9, s6⟩ f6 => ?_
  subst e
  have s06 : Step h h6 [] [] := s04.trans s6
  refine rangeV_nil (T := []) f6 (fun g => (lscan_no (hh := h6.newLp g) (n := 0) (by rw [newLp_blk]; exact d1) (Nat.le_trans f4.base d4) ((m.step s06).y ((YStep.refl 0 h6 [] (by simp)).newLp g))).v) fun h9 f9 y9 => ?_
  simp only [e6, wd, List.getElem?_toArray, List.getElem?_cons_zero, List.getElem?_cons_succ]
  exact hR h9 f9 ((s06.y 0).trans y9)
theorem LevelNobody_top (o : LOp) : ACalls prog w0 n_deduplaw14_LevelNobody [.agg o.e.toArray] h fun r h' => r = .bool true := by
  refine ACalls.of_fit (by simp) fun f => c_deduplaw14_LevelNobody (by simp) ?_
  have fb := f.base
  simp only [s_deduplaw14_LevelNobody, boxA_agg, newA_iff]
  refine ⟨by simp [isCell], ?_⟩
  have a1 : ((h.new o.e 5).new [.bool false] 1).blk h.next = some o.e := by simp
  have a2 : ((h.new o.e 5).new [.bool false] 1).blk (h.next + 1) = some [.bool false] := by simp
  have a3 : ((h.new o.e 5).new [.bool false] 1).next = h.next + 2 := rfl
  show callA _ _ _ _ _ ((h.new o.e 5).new [.bool false] 1)
  rw [show (h.new o.e.toArray.toList 5).next = h.next + 1 from rfl]
  generalize (h.new o.e 5).new [.bool false] 1 = hA at *
  refine callA_of awake_spec fun u h1 ⟨e, s1⟩ f1 => ?_
  subst e
  have b1 : h1.blk h.next = some o.e := by rw [(s1.keep _ (by omega) (by simp)).1]; exact a1
  have b2 : h1.blk (h.next + 1) = some [.bool false] := by rw [(s1.keep _ (by omega) (by simp)).1]; exact a2
  have n1 := s1.1
  have hz2 : zerosL [(Value.pointer none)] 2 = [.pointer none, .pointer none] := rfl
  simp only [wd, List.getElem?_toArray, List.getElem?_cons_zero, List.getElem?_cons_succ, buildA_iff, fillA_nil]
  show boxA true 20 (.agg zL.toArray) _ h1
  refine boxA_of ?_
  have sB : Step h1 (h1.new zL 20) [] [] := ((Step.refl h1 [] (by simp)).new _ _).less (by simp)
  have hB1 : (h1.new zL 20).blk h1.next = some zL := by simp
  have nB : (h1.new zL 20).next = h1.next + 1 := rfl
  have fB : Fit w0 (h1.new zL 20) := f1.new (by
    intro v hv
    simp [zL] at hv
    rcases hv with rfl | rfl | rfl <;> rfl)
  have f1b := f1.base
  generalize h1.new zL 20 = hB at *
  simp only [bslA_iff, fillA_one, fillA_nil, hz2, List.set_cons_zero, List.set_cons_succ, lenSl_slice, wd, List.getElem?_toArray, List.getElem?_cons_zero, List.getElem?_cons_succ]
  refine ⟨rfl, by simp, rfl, by simp, ?_⟩
  have sC : Step hB (hB.new [.pointer none, ptr h1.next] 1) [] [] := ((Step.refl hB [] (by simp)).new _ _).less (by simp)
  have fC : Fit w0 (hB.new [.pointer none, ptr h1.next] 1) := fB.new (by simp [ptr, isCell])
  have gC : GV w0 (hB.new [.pointer none, ptr h1.next] 1) 1 (.slice (some ⟨hB.next, 0, none⟩) 2 2) 2 [.pointer none, ptr h1.next] [hB.next] := GV.new fB.base rfl (by unfold ucap; decide)
  have nC : (hB.new [.pointer none, ptr h1.next] 1).next = hB.next + 1 := rfl
  show deduplaw14_LevelNobody_E1 _ _ _ _ _ _ _ _ _ (hB.new [.pointer none, ptr h1.next] 1)
  have sBC : Step h1 (hB.new [.pointer none, ptr h1.next] 1) [] [] := sB.trans sC
  have b1' : (hB.new [.pointer none, ptr h1.next] 1).blk h.next = some o.e := by rw [(sBC.keep _ (by omega) (by simp)).1]; exact b1
  have b2' : (hB.new [.pointer none, ptr h1.next] 1).blk (h.next + 1) = some [.bool false] := by rw [(sBC.keep _ (by omega) (by simp)).1]; exact b2
  have hC1 : (hB.new [.pointer none, ptr h1.next] 1).blk h1.next = some zL := by rw [(sC.keep _ (by omega) (by simp)).1]; exact hB1
  generalize hB.new [.pointer none, ptr h1.next] 1 = hC at *
  refine ⟨3, ?_⟩
  rw [deduplaw14_LevelNobody_L1]
  refine nb_lev (i := 0) (p2 := h.next + 1) fC fb b1' gC.sl (by omega) rfl (.inl rfl) rfl fun h2 f2 y2 => ?_
  have n2 := y2.next
  have g2 : GV w0 h2 1 (.slice (some ⟨hB.next, 0, none⟩) 2 2) 2 [.pointer none, ptr h1.next] [hB.next] := (gC.frame y2.step (by simp) : GV w0 (h2.as hC) 1 _ 2 _ _)
  have k2 : ∀ b, b < hC.next → h2.blk b = hC.blk b := fun b hb => (y2.keep b hb (by simp)).1
  rw [deduplaw14_LevelNobody_L1]
  refine nb_lev (i := 1) (p2 := h.next + 1) f2 fb (by rw [k2 _ (by omega)]; exact b1') g2.sl (by omega) rfl (.inr ⟨h1.next, rfl, f1b, by omega, by rw [k2 _ (by omega)]; exact hC1⟩) rfl fun h3 f3 y3 => ?_
  have n3 := y3.next
  have k3 : ∀ b, b < h2.next → h3.blk b = h2.blk b := fun b hb => (y3.keep b hb (by simp)).1
  have c2 : decide (((1 + 1 : Nat) : Int) < 2) = false := rfl
  rw [deduplaw14_LevelNobody_L1]
  simp only [deduplaw14_LevelNobody_B1, c2, wd, List.getElem?_toArray, List.getElem?_cons_zero, List.getElem?_cons_succ]
  have b23 : h3.blk (h.next + 1) = some [.bool false] := by rw [k3 _ (by omega), k2 _ (by omega)]; exact b2'
  refine storeA_at (by omega) b23 (by simp) rfl ?_
  unfold cutA
  refine loadA_at (cs := [.bool true]) (by omega) (by simp) rfl ?_
  simp only [retA_iff, oneOf_one]
  simp
end
end Go.Proofs.YtfmoemconapmhaaGreat.Ah
