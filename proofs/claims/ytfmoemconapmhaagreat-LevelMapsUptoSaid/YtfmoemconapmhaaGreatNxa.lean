/- The document's levels in memory; New. -/
import Derived.Test.YtfmoemconapmhaaGreatLxb
import Derived.Test.YtfmoemconapmhaaGreatGref14
import Derived.Test.YtfmoemconapmhaaGreatExq
import Derived.Test.YtfmoemconapmhaaGreatLxd
set_option linter.unusedVariables false
set_option linter.unusedSimpArgs false
set_option linter.constructorNameAsVariable false
namespace Go.Proofs.YtfmoemconapmhaaGreat.Ah
open Go
section
variable {w0 : World} {h h' : Hp}
def RLvl (w0 : World) (h : Hp) (A : List Nat) (v : Value) (ls : List (List Ent)) : Prop :=
  ∃ ps : List (Value × List Ent), ls = ps.map (·.2) ∧ Sl w0 h 1 v ps.length (ps.map (·.1)) ∧ (∀ b, b ∈ sblk v → b ∈ A) ∧ ∀ p : Value × List Ent, p ∈ ps → Es w0 h p.1 p.2 ∧ ∀ b, b ∈ sblk p.1 → b ∈ A
theorem RLvl.nil (A : List Nat) : RLvl w0 h A (.slice none 0 0) [] := ⟨[], rfl, .nil, by simp [sblk], by simp⟩
theorem RLvl.frame {A : List Nat} {v : Value} {ls : List (List Ent)} (m : RLvl w0 h A v ls) (hA : ∀ b, b ∈ A → b < h.next) {T T' : List Nat} (st : Step h h' T T') (hd : ∀ b, b ∈ A → b ∉ T) : RLvl w0 h' A v ls := by
  obtain ⟨ps, e, a, b, c⟩ := m
  refine ⟨ps, e, a.stepL (fun x hx => hA x (b x hx)) st fun x hx => hd x (b x hx), b, fun p hp => ?_⟩
  obtain ⟨r, hS⟩ := c p hp
  exact ⟨Sl.stepL r (fun x hx => hA x (hS x hx)) st fun x hx => hd x (hS x hx), hS⟩
theorem RLvl.more {A A' : List Nat} {v : Value} {ls : List (List Ent)} (m : RLvl w0 h A v ls) (hA : ∀ b, b ∈ A → b ∈ A') : RLvl w0 h A' v ls := by
  obtain ⟨ps, e, a, b, c⟩ := m
  refine ⟨ps, e, a, fun x hx => hA x (b x hx), fun p hp => ?_⟩
  obtain ⟨r, hS⟩ := c p hp
  exact ⟨r, fun x hx => hA x (hS x hx)⟩
theorem RLvl.isC {A : List Nat} {v : Value} {ls : List (List Ent)} (m : RLvl w0 h A v ls) : isCell v = true := by
  obtain ⟨ps, e, a, b, c⟩ := m
  exact a.isC
theorem RLvl.lenv {A : List Nat} {v : Value} {ls : List (List Ent)} (m : RLvl w0 h A v ls) : lenSl v = some (.int .i64 (ls.length : Int)) := by
  obtain ⟨ps, e, a, b, c⟩ := m
  rw [a.lenv, e, List.length_map]
def Rv (w0 : World) (h : Hp) (r : Value) (s : LS) (S A : List Nat) : Prop :=
  ∃ q qa c vm us, r = ptr q ∧ h.blk q = some (numV s ++ [vm, .slice (some ⟨qa, 0, none⟩) 16 c]) ∧ h.blk qa = some us ∧ us.length = 16 ∧ S = [q, qa] ∧ q ≠ qa ∧ w0.heap.size ≤ q ∧ q < h.next ∧ w0.heap.size ≤ qa ∧ qa < h.next ∧ (∀ b, b ∈ A → b < h.next) ∧ (∀ b, b ∈ S → b ∉ A) ∧ s.lv.length = 16 ∧
    Es w0 h vm s.mem ∧ (∀ b, b ∈ sblk vm → b ∈ A) ∧ (∀ (i : Nat) v, us[i]? = some v → RLvl w0 h A v (s.lv.getD i [])) ∧ h.esz qa = 1 ∧ ((c < ucap ∧ 16 ≤ c) ∨ c = ucap)
theorem Rv.nj {r : Value} {s : LS} {S A : List Nat} (m : Rv w0 h r s S A) : r ≠ junk := by obtain ⟨q, qa, c, vm, us, e, -⟩ := m; subst e; simp [ptr, junk]
theorem Rv.isC {r : Value} {s : LS} {S A : List Nat} (m : Rv w0 h r s S A) : isCell r = true := by obtain ⟨q, qa, c, vm, us, e, -⟩ := m; subst e; rfl
theorem Rv.lt {r : Value} {s : LS} {S A : List Nat} (m : Rv w0 h r s S A) : ∀ b, b ∈ S → w0.heap.size ≤ b ∧ b < h.next := by
  obtain ⟨q, qa, c, vm, us, a1, a2, a3, a4, a5, a6, a7, a8, a9, b1, -⟩ := m
  subst a5
  intro b hb
  simp at hb
  rcases hb with rfl | rfl
  · exact ⟨a7, a8⟩
  · exact ⟨a9, b1⟩
theorem Rv.ltA {r : Value} {s : LS} {S A : List Nat} (m : Rv w0 h r s S A) : ∀ b, b ∈ A → b < h.next := by
  obtain ⟨q, qa, c, vm, us, a1, a2, a3, a4, a5, a6, a7, a8, a9, b1, b2, -⟩ := m
  exact b2
theorem Rv.frame {r : Value} {s : LS} {S A T T' : List Nat} (m : Rv w0 h r s S A) (st : Step h h' T T') (hd : ∀ b, b ∈ S → b ∉ T) (hA : ∀ b, b ∈ A → b ∉ T) : Rv w0 h' r s S A := by
  obtain ⟨q, qa, c, vm, us, a1, a2, a3, a4, a5, a6, a7, a8, a9, b1, b2, b3, b4, b5, b6, b7, b8, b9⟩ := m
  subst a5
  have k1 := st.keep q a8 (hd q (by simp))
  have k2 := st.keep qa b1 (hd qa (by simp))
  have hn := st.1
  exact ⟨q, qa, c, vm, us, a1, by rw [k1.1]; exact a2, by rw [k2.1]; exact a3, a4, rfl, a6, a7, by omega, a9, by omega, fun b hb => by have := b2 b hb; omega, b3, b4,
    Sl.stepL b5 (fun x hx => b2 x (b6 x hx)) st (fun x hx => hA x (b6 x hx)), b6, fun i v hi => (b7 i v hi).frame b2 st hA, by rw [k2.2]; exact b8, b9⟩
theorem Rv.step0 {r : Value} {s : LS} {S A T' : List Nat} (m : Rv w0 h r s S A) (st : Step h h' [] T') : Rv w0 h' r s S A := m.frame st (by simp) (by simp)
theorem right_tiers (b f t : Int) : ACalls prog w0 n_dedupref14_Right [tierV b f t] h fun r h' => r = .bool (rightT b f t) ∧ Step h h' [] [] := by
  refine ACalls.of_fit (by simp [tierV]) fun fi => c_dedupref14_Right (by simp [tierV]) ?_
  have fb := fi.base
  simp only [s_dedupref14_Right, tierV]
  refine boxA_of (e := [.int .i64 b, .int .i64 f, .int .i64 t]) ?_
  have s1 : Step h (h.new [.int .i64 b, .int .i64 f, .int .i64 t] 3) [] [] := ((Step.refl h [] (by simp)).new _ _).less (by simp)
  have b1 : (h.new [.int .i64 b, .int .i64 f, .int .i64 t] 3).blk h.next = some [.int .i64 b, .int .i64 f, .int .i64 t] := by simp
  generalize h.new [.int .i64 b, .int .i64 f, .int .i64 t] 3 = h1 at *
  have fin : ∀ q, q = rightT b f t → retA [.bool q] (fun r h' => r = .bool (rightT b f t) ∧ Step h h' [] []) h1 := fun q e => by
    subst e
    simp only [retA_iff, oneOf_one]
    exact ⟨by simp, trivial, s1⟩
  simp only [wd, List.getElem?_toArray, List.getElem?_cons_zero, List.getElem?_cons_succ]
  refine loadA_at fb b1 rfl ?_
  simp only [wd, List.getElem?_toArray, List.getElem?_cons_zero, List.getElem?_cons_succ]
  by_cases g0 : (256 : Int) ≤ b
  · have c0 : decide ((256 : Int) ≤ b) = true := decide_eq_true g0
    simp only [c0, wd, List.getElem?_toArray, List.getElem?_cons_zero, List.getElem?_cons_succ]
    refine loadA_at fb b1 rfl ?_
    simp only [wd, List.getElem?_toArray, List.getElem?_cons_zero, List.getElem?_cons_succ]
    by_cases g1 : b ≤ (4096 : Int)
    · have c1 : decide (b ≤ (4096 : Int)) = true := decide_eq_true g1
      simp only [c1, wd, List.getElem?_toArray, List.getElem?_cons_zero, List.getElem?_cons_succ]
      refine loadA_at fb b1 rfl ?_
      simp only [wd, List.getElem?_toArray, List.getElem?_cons_zero, List.getElem?_cons_succ]
      by_cases g2 : (2 : Int) ≤ f
      · have c2 : decide ((2 : Int) ≤ f) = true := decide_eq_true g2
        simp only [c2, wd, List.getElem?_toArray, List.getElem?_cons_zero, List.getElem?_cons_succ]
        refine loadA_at fb b1 rfl ?_
        simp only [wd, List.getElem?_toArray, List.getElem?_cons_zero, List.getElem?_cons_succ]
        by_cases g3 : f ≤ (16 : Int)
        · have c3 : decide (f ≤ (16 : Int)) = true := decide_eq_true g3
          simp only [c3, wd, List.getElem?_toArray, List.getElem?_cons_zero, List.getElem?_cons_succ]
          refine loadA_at fb b1 rfl ?_
          simp only [wd, List.getElem?_toArray, List.getElem?_cons_zero, List.getElem?_cons_succ]
          by_cases g4 : (1 : Int) ≤ t
          · have c4 : decide ((1 : Int) ≤ t) = true := decide_eq_true g4
            simp only [c4, wd, List.getElem?_toArray, List.getElem?_cons_zero, List.getElem?_cons_succ]
            refine loadA_at fb b1 rfl ?_
            simp only [wd, List.getElem?_toArray, List.getElem?_cons_zero, List.getElem?_cons_succ]
            by_cases g5 : t ≤ (4096 : Int)
            · have c5 : decide (t ≤ (4096 : Int)) = true := decide_eq_true g5
              simp only [c5, wd, List.getElem?_toArray, List.getElem?_cons_zero, List.getElem?_cons_succ]
              exact fin _ (by simp [rightT, c0, c1, c2, c3, c4, c5])
            · have c5 : decide (t ≤ (4096 : Int)) = false := decide_eq_false g5
              simp only [c5, wd, List.getElem?_toArray, List.getElem?_cons_zero, List.getElem?_cons_succ]
              exact fin _ (by simp [rightT, c0, c1, c2, c3, c4, c5])
          · have c4 : decide ((1 : Int) ≤ t) = false := decide_eq_false g4
            simp only [c4, wd, List.getElem?_toArray, List.getElem?_cons_zero, List.getElem?_cons_succ]
            exact fin _ (by simp [rightT, c0, c1, c2, c3, c4])
        · have c3 : decide (f ≤ (16 : Int)) = false := decide_eq_false g3
          simp only [c3, wd, List.getElem?_toArray, List.getElem?_cons_zero, List.getElem?_cons_succ]
          exact fin _ (by simp [rightT, c0, c1, c2, c3])
      · have c2 : decide ((2 : Int) ≤ f) = false := decide_eq_false g2
        simp only [c2, wd, List.getElem?_toArray, List.getElem?_cons_zero, List.getElem?_cons_succ]
        exact fin _ (by simp [rightT, c0, c1, c2])
    · have c1 : decide (b ≤ (4096 : Int)) = false := decide_eq_false g1
      simp only [c1, wd, List.getElem?_toArray, List.getElem?_cons_zero, List.getElem?_cons_succ]
      exact fin _ (by simp [rightT, c0, c1])
  · have c0 : decide ((256 : Int) ≤ b) = false := decide_eq_false g0
    simp only [c0, wd, List.getElem?_toArray, List.getElem?_cons_zero, List.getElem?_cons_succ]
    exact fin _ (by simp [rightT, c0])
theorem rNew_spec (b f t : Int) : ACalls prog w0 n_dedupref14_New [tierV b f t] h fun r h' =>
    (rightT b f t = true → ∃ p S, r = .tuple #[p, .int .i64 0] ∧ Rv w0 h' p (newS b.toNat f.toNat t.toNat) S [] ∧ Step h h' [] S) ∧ (rightT b f t = false → r = .tuple #[.pointer none, .int .i64 140] ∧ Step h h' [] []) := by
  refine ACalls.of_fit (by simp [tierV]) fun fi => c_dedupref14_New (by simp [tierV]) ?_
  have fb := fi.base
  simp only [s_dedupref14_New]
  refine boxA_of (e := [.int .i64 b, .int .i64 f, .int .i64 t]) ?_
  have s1 : Step h (h.new [.int .i64 b, .int .i64 f, .int .i64 t] 3) [] [] := ((Step.refl h [] (by simp)).new _ _).less (by simp)
  have b1 : (h.new [.int .i64 b, .int .i64 f, .int .i64 t] 3).blk h.next = some [.int .i64 b, .int .i64 f, .int .i64 t] := by simp
  have l1 : h.next < (h.new [.int .i64 b, .int .i64 f, .int .i64 t] 3).next := by simp
  generalize h.new [.int .i64 b, .int .i64 f, .int .i64 t] 3 = h1 at *
  refine loadNA_whole fb b1 rfl ?_
  refine callA_of (right_tiers b f t) fun v h2 ⟨e, s2⟩ f2 => ?_
  subst e
  have s12 := s1.trans s2
  cases hr : rightT b f t with
  | false =>
    simp only [wd, List.getElem?_toArray, List.getElem?_cons_zero, List.getElem?_cons_succ, retA_iff, oneOf_two]
    exact ⟨by simp, by simp, fun _ => ⟨trivial, s12⟩⟩
  | true =>
    have hn := (rightT_iff _ _ _).1 hr
    simp only [wd, List.getElem?_toArray, List.getElem?_cons_zero, List.getElem?_cons_succ]
    have b2 : h2.blk h.next = some [.int .i64 b, .int .i64 f, .int .i64 t] := by rw [(s2.keep _ l1 (by simp)).1]; exact b1
    refine loadNA_whole fb b2 rfl ?_
    refine (mkA_nat 1 24 [.slice none 0 0] .i64 .i64 16 16).2 ⟨by omega, by omega, by omega, ?_⟩
    have l2 : h.next < h2.next := Nat.lt_of_lt_of_le l1 s2.1
    have s3 : Step h2 (h2.new (List.replicate 16 (.slice none 0 0)) 1) [] [h2.next] := (Step.refl h2 [] (by simp)).new _ _
    have b3 : (h2.new (List.replicate 16 (.slice none 0 0)) 1).blk h.next = some [.int .i64 b, .int .i64 f, .int .i64 t] := by rw [(s3.keep _ l2 (by simp)).1]; exact b2
    have c3 : (h2.new (List.replicate 16 (.slice none 0 0)) 1).blk h2.next = some (List.replicate 16 (.slice none 0 0)) := by simp
    have e3 : (h2.new (List.replicate 16 (.slice none 0 0)) 1).esz h2.next = 1 := by simp
    have n3 : (h2.new (List.replicate 16 (.slice none 0 0)) 1).next = h2.next + 1 := rfl
    have fb2 := f2.base
    show stillA _ _ (h2.new (List.replicate 16 (.slice none 0 0)) 1)
    generalize h2.new (List.replicate 16 (.slice none 0 0)) 1 = h3 at *
    simp only [stillA_iff, allA_one, sameQ_loadNA]
    refine ⟨loadNA_whole fb b3 rfl rfl, ?_⟩
    simp only [buildA_iff]
    rw [fillA_agg]
    refine ⟨rfl, by simp, ?_⟩
    rw [fillA_one]
    refine ⟨rfl, by simp [splice], ?_⟩
    rw [fillA_nil]
    simp only [wd, List.getElem?_toArray, List.getElem?_cons_zero, List.getElem?_cons_succ]
    have hb2 : ((b.toNat : Nat) : Int) = b := by omega
    have hf2 : ((f.toNat : Nat) : Int) = f := by omega
    have ht2 : ((t.toNat : Nat) : Int) = t := by omega
    have hcs : ([.int .i64 b, .int .i64 f, .int .i64 t, .slice none 0 0, .slice (some ⟨h2.next, 0, none⟩) 16 16] : List Value) = numV (newS b.toNat f.toNat t.toNat) ++ [.slice none 0 0, .slice (some ⟨h2.next, 0, none⟩) 16 16] := by
      simp [numV, newS, hb2, hf2, ht2]
    show boxA true 5 (.agg ([.int .i64 b, .int .i64 f, .int .i64 t, .slice none 0 0, .slice (some ⟨h2.next, 0, none⟩) 16 16] : List Value).toArray) _ _
    rw [hcs]
    refine boxA_of ?_
    have s4 : Step h3 (h3.new (numV (newS b.toNat f.toNat t.toNat) ++ [.slice none 0 0, .slice (some ⟨h2.next, 0, none⟩) 16 16]) 5) [] [h3.next] := (Step.refl h3 [] (by simp)).new _ _
    have b4 : (h3.new (numV (newS b.toNat f.toNat t.toNat) ++ [.slice none 0 0, .slice (some ⟨h2.next, 0, none⟩) 16 16]) 5).blk h3.next = some (numV (newS b.toNat f.toNat t.toNat) ++ [.slice none 0 0, .slice (some ⟨h2.next, 0, none⟩) 16 16]) := by simp
    have n4 : h3.next < (h3.new (numV (newS b.toNat f.toNat t.toNat) ++ [.slice none 0 0, .slice (some ⟨h2.next, 0, none⟩) 16 16]) 5).next := by simp
    generalize h3.new (numV (newS b.toNat f.toNat t.toNat) ++ [.slice none 0 0, .slice (some ⟨h2.next, 0, none⟩) 16 16]) 5 = h4 at *
    have k4 := s4.keep h2.next (by omega) (by simp)
    simp only [wd, List.getElem?_toArray, List.getElem?_cons_zero, List.getElem?_cons_succ, retA_iff, oneOf_two]
    refine ⟨by simp, fun _ => ⟨_, [h3.next, h2.next], rfl, ⟨h3.next, h2.next, 16, _, _, rfl, b4, by rw [k4.1]; exact c3, by simp, rfl, by omega, by omega, n4, fb2, by omega, by simp, by simp, by simp [newS], .nil, by simp [sblk], fun i v hi => ?_, by rw [k4.2]; exact e3, .inl ⟨by decide, Nat.le_refl _⟩⟩, ?_⟩, by simp⟩
    · have hv := List.eq_of_mem_replicate (List.mem_of_getElem? hi)
      subst hv
      have : (newS b.toNat f.toNat t.toNat).lv.getD i [] = [] := by
        simp only [newS, List.getD_eq_getElem?_getD, List.getElem?_replicate]
        split <;> rfl
      rw [this]
      exact .nil _
    · exact (s12.trans (s3.less (T := []) (by simp))).trans (s4.less (T := []) (by simp)) |>.claim (by simp; have := s1.1; have := s2.1; omega)
end
noncomputable section
def mapsTail (P : Program) (w0 : World) (R : Value → Value → Value → Value → Value → Value → Hp → Prop) (kr : Value → Hp → Prop) (x2 x3 x6 x27 x28 x29 v8_17 : Value) : Hp → Prop :=
 addA v8_17 1 fun v73_226 =>
 loadA w0 v73_226 fun v74_227 =>
 callA P w0 n_level_Levels_Get [x3, v74_227] fun v75_228 =>
 pureA (extA v75_228 0) fun v76_229 =>
 pureA (extA v75_228 1) fun v77_230 =>
 addA v8_17 1 fun v80_231 =>
 loadA w0 v80_231 fun v81_232 =>
 callA P w0 n_dedupref12_Find [x6, v81_232] fun v82_233 =>
 pureA (extA v82_233 0) fun v83_234 =>
 pureA (extA v82_233 1) fun v84_235 =>
 guardA v84_235 true (fun K => K x6) fun v88_236 =>
 guardA v84_235 true (fun K => K v83_234) fun v89_237 =>
 guardA v84_235 true (idxSlA 3 v88_236 v89_237) fun v90_238 =>
 guardA v84_235 true (addA v90_238 2) fun v91_239 =>
 guardA v84_235 true (loadA w0 v91_239) fun v92_240 =>
 guardA v84_235 true (pureA (unA .not v92_240)) fun v93_241 =>
 pickA v84_235 v93_241 (.bool false) fun v94_242 =>
 pureA (binBoolA .neq v77_230 v94_242) fun v95_243 =>
 guardA v95_243 false (fun K => K v77_230) fun v97_244 =>
 guardA v95_243 false (fun K => K v97_244) fun v98_245 =>
 guardA v98_245 true (fun K => K v76_229) fun v99_246 =>
 guardA v98_245 true (fun K => K x6) fun v100_247 =>
 guardA v98_245 true (fun K => K v83_234) fun v101_248 =>
 guardA v98_245 true (idxSlA 3 v100_247 v101_248) fun v102_249 =>
 guardA v98_245 true (addA v102_249 1) fun v103_250 =>
 guardA v98_245 true (loadA w0 v103_250) fun v104_251 =>
 guardA v98_245 true (pureA (binA .neq v99_246 v104_251)) fun v105_252 =>
 guardA v95_243 false (pickA v98_245 v105_252 (.bool false)) fun v106_253 =>
 pickA v95_243 (.bool true) v106_253 fun v107_254 =>
 condA v107_254 (
 kr (.bool false)) (
 pureA (binA .add x29 (.int .i64 1)) fun v108_255 =>
 R x2 x3 x6 x27 x28 v108_255)
end
def scrV (b f t : Int) (v : Value) : List Value := [.int .i64 b, .int .i64 f, .int .i64 t, v]
section
variable {w0 : World} {h h' : Hp}
theorem Sl.elemF {x : Value} {n s i f : Nat} {k : IntKind} {ys e : List Value} {u : Value} {K : Kont} (sv : Sl w0 h s x n ys) (hi : i < n) (he : (ys.drop (i * s)).take s = e) (hf : f < s) (hu : e[f]? = some u) (hk : K u h) :
    idxSlA s x (.int k (i : Int)) (fun p => addA p f fun q => loadA w0 q K) h := by
  obtain ⟨a, c, rfl, ⟨-, hs⟩, hy, -⟩ := sv
  rcases hs with ⟨h1, -⟩ | ⟨-, ad, rfl, hg, hcl⟩
  · omega
  · obtain ⟨hsp, cs, hb, hle, rfl⟩ := Hp.getN_some hg
    obtain ⟨b, off, sp⟩ := ad
    simp only at hsp hb hle
    subst hsp
    have hm : (i + 1) * s ≤ n * s := Nat.mul_le_mul_right _ hi
    rw [Nat.add_mul, Nat.one_mul] at hm
    refine ⟨_, n, c, k, i, rfl, rfl, by omega, by omega, _, rfl, ?_⟩
    rw [Int.toNat_natCast, addr_add, addr_add]
    simp only at he hy hcl
    have hu' : cs[off + i * s + f]? = some u := by
      rw [← he, List.getElem?_take, if_pos hf, List.getElem?_drop, List.getElem?_take, if_pos (by omega), List.getElem?_drop] at hu
      rw [← hu]
      congr 1
      rw [Nat.add_assoc]
    refine ⟨_, u, rfl, by simp [Hp.get, hb, hu'], fun hlt => (hcl hlt u ?_).1, hk⟩
    have hlt2 : i * s + f < n * s := by omega
    refine List.mem_of_getElem? (i := i * s + f) ?_
    rw [List.getElem?_take, if_pos hlt2, List.getElem?_drop, ← Nat.add_assoc]
    exact hu'
theorem Lv.ptrV {r : Value} {s : LS} {S A : List Nat} (m : Lv w0 h r s S A) : ∃ q, r = .pointer (some ⟨q, 0, none⟩) := by obtain ⟨q, -, -, -, e, -⟩ := m; exact ⟨q, e⟩
theorem Rv.ptrV {r : Value} {s : LS} {S A : List Nat} (m : Rv w0 h r s S A) : ∃ q, r = .pointer (some ⟨q, 0, none⟩) := by obtain ⟨q, -, -, -, -, e, -⟩ := m; exact ⟨q, e⟩
theorem begin_spec {b f t : Int} {v : Value} (hv : isCell v = true) : ACalls prog w0 n_deduplaw14_begin [.agg (scrV b f t v).toArray] h fun r h' =>
    (rightT b f t = true → ∃ p pr S Sr, r = .tuple #[p, pr, .bool true] ∧ Lv w0 h' p (newS b.toNat f.toNat t.toNat) S [] ∧ Rv w0 h' pr (newS b.toNat f.toNat t.toNat) Sr [] ∧ Step h h' [] (S ++ Sr) ∧ ∀ b, b ∈ S → b ∉ Sr) ∧
    (rightT b f t = false → r = .tuple #[.pointer none, .pointer none, .bool true] ∧ Step h h' [] []) := by
  refine ACalls.of_fit (by simp) fun fi => c_deduplaw14_begin (by simp) ?_
  have fb := fi.base
  simp only [s_deduplaw14_begin]
  refine boxA_of (e := scrV b f t v) ?_
  have s1 : Step h (h.new (scrV b f t v) 4) [] [] := ((Step.refl h [] (by simp)).new _ _).less (by simp)
  have b1 : (h.new (scrV b f t v) 4).blk h.next = some (scrV b f t v) := by simp
  have l1 : h.next < (h.new (scrV b f t v) 4).next := by simp
  generalize h.new (scrV b f t v) 4 = h1 at *
  simp only [wd, List.getElem?_toArray, List.getElem?_cons_zero, List.getElem?_cons_succ]
  refine loadNA_at (e := [.int .i64 b, .int .i64 f, .int .i64 t]) fb b1 rfl ?_
  refine callA_of (New_spec b f t) fun r h2 ⟨c1, c2⟩ f2 => ?_
  cases hr : rightT b f t with
  | true =>
    obtain ⟨p, S, e, m2, s2⟩ := c1 hr
    subst e
    obtain ⟨q, e⟩ := m2.ptrV
    subst e
    simp only [wd, List.getElem?_toArray, List.getElem?_cons_zero, List.getElem?_cons_succ]
    have b2 : h2.blk h.next = some (scrV b f t v) := by rw [(s2.keep _ l1 (by simp)).1]; exact b1
    refine loadNA_at (e := [.int .i64 b, .int .i64 f, .int .i64 t]) fb b2 rfl ?_
    refine callA_of (rNew_spec b f t) fun r h3 ⟨c3, c4⟩ f3 => ?_
    obtain ⟨pr, Sr, e, m3, s3⟩ := c3 hr
    subst e
    obtain ⟨qr, e⟩ := m3.ptrV
    subst e
    simp only [wd, List.getElem?_toArray, List.getElem?_cons_zero, List.getElem?_cons_succ]
    refine callA_of awake_spec fun u h4 ⟨e, s4⟩ f4 => ?_
    subst e
    have c5 : binPtrA .neq (.pointer (some ⟨q, 0, none⟩)) (.pointer none) = some (.bool true) := rfl
    have c6 : binPtrA .neq (.pointer (some ⟨qr, 0, none⟩)) (.pointer none) = some (.bool true) := rfl
    have c7 : binBoolA .eql (.bool true) (.bool true) = some (.bool true) := rfl
    have c8 : ((0 : Int) == 0) = true := rfl
    simp only [c5, c6, c7, c8, wd, List.getElem?_toArray, List.getElem?_cons_zero, List.getElem?_cons_succ, retA_iff, oneOf_two]
    have hS : ∀ b, b ∈ S → b < h2.next := fun b hb => (s2.own b hb).1
    have hSr : ∀ b, b ∈ Sr → h2.next ≤ b := fun b hb => by rcases (s3.own b hb).2 with w | w; simp at w; exact w
    refine ⟨by simp, fun _ => ⟨_, _, S, Sr, rfl, (m2.step0 s3).step0 s4, m3.step0 s4, ?_, fun b hb hb2 => by have := hS b hb; have := hSr b hb2; omega⟩, by simp⟩
    have t1 : Step h h3 [] (Sr ++ S) := (s1.trans s2).trans (s3.more S hS)
    exact (t1.less (T := S ++ Sr) (fun b hb => by simp at hb ⊢; rcases hb with w | w <;> simp [w])).trans (s4.keepS fun b hb => by
      rcases List.mem_append.1 hb with w | w
      · have := hS b w; have := s3.1; omega
      · exact (s3.own b w).1)
  | false =>
    obtain ⟨e, s2⟩ := c2 hr
    subst e
    simp only [wd, List.getElem?_toArray, List.getElem?_cons_zero, List.getElem?_cons_succ]
    have b2 : h2.blk h.next = some (scrV b f t v) := by rw [(s2.keep _ l1 (by simp)).1]; exact b1
    refine loadNA_at (e := [.int .i64 b, .int .i64 f, .int .i64 t]) fb b2 rfl ?_
    refine callA_of (rNew_spec b f t) fun r h3 ⟨c3, c4⟩ f3 => ?_
    obtain ⟨e, s3⟩ := c4 hr
    subst e
    simp only [wd, List.getElem?_toArray, List.getElem?_cons_zero, List.getElem?_cons_succ]
    refine callA_of awake_spec fun u h4 ⟨e, s4⟩ f4 => ?_
    subst e
    have c5 : binPtrA .neq (.pointer none) (.pointer none) = some (.bool false) := rfl
    have c7 : binBoolA .eql (.bool false) (.bool false) = some (.bool true) := rfl
    have c8 : ((140 : Int) == 140) = true := rfl
    simp only [c5, c7, c8, wd, List.getElem?_toArray, List.getElem?_cons_zero, List.getElem?_cons_succ, retA_iff, oneOf_two]
    exact ⟨by simp, by simp, fun _ => ⟨trivial, ((s1.trans s2).trans s3).trans s4⟩⟩
theorem gOf_filter (o : Option Ent) : gOf o = (o.filter fun x => !x.g).isSome := by
  cases o with
  | none => rfl
  | some x => cases hg : x.g <;> simp [gOf, hg, Option.filter]
theorem vOf_filter (o : Option Ent) (h : gOf o = true) : some (vOf o) = (o.filter fun x => !x.g).map (·.v) := by
  cases o with
  | none => simp [gOf] at h
  | some x =>
    have : x.g = false := by simpa [gOf] using h
    simp [vOf, Option.filter, this]
theorem maps_tail {R : Value → Value → Value → Value → Value → Value → Hp → Prop} {kr : Value → Hp → Prop} {x2 x6 x27 x28 r : Value} {i p8 : Nat} {s : LS} {S A : List Nat} {W : Nat} {now : List Ent} {o : LOp} (m : Lv w0 h r s S A) (ok : LOk s W) (hW : W ≤ 1048576) (sn : SrtE now) (hn : now.length ≤ 2000000)
    (ev : Es w0 h x6 now) (hval : ∀ k, s.val k = (getE now k).filter fun x => !x.g) (hp8 : w0.heap.size ≤ p8) (hb8 : h.blk p8 = some o.e) (hl8 : p8 < h.next) (f : Fit w0 h) (hi : i ≤ 2000000) (hR : ∀ h', Fit w0 h' → Step h h' [] [] → R x2 r x6 x27 x28 (.int .i64 ((i + 1 : Nat) : Int)) h') :
    mapsTail prog w0 R kr x2 r x6 x27 x28 (.int .i64 (i : Int)) (.pointer (some ⟨p8, 0, none⟩)) h := by
  have e6 : IntKind.i64.wrap ((i : Int) + 1) = ((i + 1 : Nat) : Int) := by rw [IntWalk.i64_in _ (by omega)]; simp
  simp only [mapsTail, wd, List.getElem?_toArray, List.getElem?_cons_zero, List.getElem?_cons_succ]
  refine loadA_at hp8 hb8 (v := .string (str o.key)) rfl ?_
  refine callA_of (Get_lv m (fun i => by have := ok.lvl i; omega) o.key) fun v h2 ⟨e, s2⟩ f2 => ?_
  subst e
  have b2 : h2.blk p8 = some o.e := by rw [(s2.keep _ hl8 (by simp)).1]; exact hb8
  simp only [wd, List.getElem?_toArray, List.getElem?_cons_zero, List.getElem?_cons_succ]
  refine loadA_at hp8 b2 (v := .string (str o.key)) rfl ?_
  have ev2 : Es w0 h2 x6 now := Sl.step ev f s2 (by simp)
  refine callA_of (rFind_spec ev2 (by omega) o.key) fun v h3 ⟨e, s3⟩ f3 => ?_
  subst e
  have ev3 : Es w0 h3 x6 now := Sl.step ev2 f2 s3 (by simp)
  have st : Step h h3 [] [] := s2.trans s3
  have hv := hval o.key
  have hv' : (look s.lists o.key).filter (fun x => !x.g) = (getE now o.key).filter fun x => !x.g := hv
  have hg := gOf_filter (look s.lists o.key)
  rw [hv'] at hg
  rcases isAt_getE sn o.key with ⟨q1, q2⟩ | ⟨x, q1, q2, q3, q4⟩
  · rw [q2] at hg
    have hg : gOf (look s.lists o.key) = false := hg
    have c7 : binBoolA .neq (.bool false) (.bool false) = some (.bool false) := rfl
    simp only [q1, hg, c7, wd, List.getElem?_toArray, List.getElem?_cons_zero, List.getElem?_cons_succ, e6]
    exact hR h3 f3 st
  · rw [q4] at hg
    simp only [q3, wd, List.getElem?_toArray, List.getElem?_cons_zero, List.getElem?_cons_succ]
    have hfl := (List.getElem?_eq_some_iff.1 q1).1
    have hel : ((now.flatMap ee).drop (fE now o.key * 3)).take 3 = ee x := es_get q1
    cases hxg : x.g with
    | true =>
      have hg : gOf (look s.lists o.key) = false := by rw [hg]; simp [Option.filter, hxg]
      have c7 : binBoolA .neq (.bool false) (.bool false) = some (.bool false) := rfl
      refine Sl.elemF (f := 2) ev3 hfl hel (by omega) (u := .bool x.g) rfl ?_
      rw [hxg]
      simp only [hg, c7, wd, List.getElem?_toArray, List.getElem?_cons_zero, List.getElem?_cons_succ, e6]
      exact hR h3 f3 st
    | false =>
      have hg' : gOf (look s.lists o.key) = true := by rw [hg]; simp [Option.filter, hxg]
      have hvv := vOf_filter _ hg'
      rw [hv', q4] at hvv
      have hvv : vOf (look s.lists o.key) = x.v := by simpa [Option.filter, hxg] using hvv
      have c7 : binBoolA .neq (.bool true) (.bool true) = some (.bool false) := rfl
      refine Sl.elemF (f := 2) ev3 hfl hel (by omega) (u := .bool x.g) rfl ?_
      rw [hxg]
      simp only [hg', c7, wd, List.getElem?_toArray, List.getElem?_cons_zero, List.getElem?_cons_succ]
      refine Sl.elemF (f := 1) ev3 hfl hel (by omega) (u := .string (str x.v)) rfl ?_
      rw [hvv, s_neq]
      simp only [ne_eq, not_true, decide_false, wd, List.getElem?_toArray, List.getElem?_cons_zero, List.getElem?_cons_succ, e6]
      exact hR h3 f3 st
end
def opsz (l : List LOp) : Nat := (l.map dLOp.b).sum
theorem opsz_b (l : List LOp) : opsz l = (l.map dLOp.b).sum := rfl
theorem opsz_cons (o : LOp) (l : List LOp) : opsz (o :: l) = (o.key.length + o.to.length + o.v.length + 6) + opsz l := by simp [opsz, dLOp]
theorem ops_get {l : List LOp} {i : Nat} {x : LOp} (h : l[i]? = some x) : ((l.flatMap LOp.e).drop (i * 5)).take 5 = x.e := drop_flatMap (e := LOp.e) (s := 5) (fun _ => rfl) l i x h
def LOp.put (o : LOp) : Ent := ⟨o.key, o.v, false⟩
def LOp.del (o : LOp) : Ent := ⟨o.key, [], true⟩
section
variable {w0 : World} {h h' : Hp}
theorem maps_loop {k0 kr : Value → Hp → Prop} {x2 r v : Value} {l : List LOp} (hx : ExtSl w0 5 v l.length (l.flatMap LOp.e)) (hl : l.length ≤ 1048576) (hk : ∀ h', k0 x2 h') : ∀ (post pre : List LOp) (h1 : Hp) (x6 : Value) (s : LS) (S A : List Nat) (W : Nat) (now : List Ent) (Sn : List Nat), pre ++ post = l → Fit w0 h1 →
      Lv w0 h1 r s S A → LOk s W → W + opsz post ≤ 1048576 → SrtE now → now.length ≤ pre.length → Vec w0 h1 3 x6 now.length (now.flatMap ee) Sn → (∀ b, b ∈ Sn → b ∉ S ∧ b ∉ A) → (∀ k, s.val k = (getE now k).filter fun x => !x.g) →
      deduplaw14_LevelMaps_L1 prog w0 k0 kr (post.length + 1) x2 r x6 v (.int .i64 (l.length : Int)) (.int .i64 (pre.length : Int)) h1 := by
  intro post
  induction post with
  | nil =>
    intro pre h1 x6 s S A W now Sn he f m ok hW sn hn g hd hval
    have hpre : pre = l := by simpa using he
    subst hpre
    rw [List.length_nil, deduplaw14_LevelMaps_L1]
    simp only [deduplaw14_LevelMaps_B1, wd, List.getElem?_toArray, List.getElem?_cons_zero, List.getElem?_cons_succ, Int.lt_irrefl, decide_false]
    exact hk h1
  | cons o post ih =>
    intro pre h1 x6 s S A W now Sn he f m ok hW sn hn g hd hval
    have hlen : pre.length + (post.length + 1) = l.length := by rw [← he]; simp
    have hg : l[pre.length]? = some o := by rw [← he]; simp
    have c1 : decide ((pre.length : Int) < (l.length : Int)) = true := decide_eq_true (by omega)
    have hcost := opsz_cons o post
    have hSlt := m.lt
    have hAlt := m.ltA
    have hSnlt := g.lt
    rw [List.length_cons, deduplaw14_LevelMaps_L1]
    simp only [deduplaw14_LevelMaps_B1, wd, List.getElem?_toArray, List.getElem?_cons_zero, List.getElem?_cons_succ, c1]
    refine (hx.sl' f (by rw [fm_length (s := 5) (fun _ => rfl)])).elem (by omega) (ops_get hg) ?_
    refine boxN f.base rfl rfl (by simp [isCell]) ?_
    have s1 : Step h1 (h1.new o.e 5) [] [h1.next] := (Step.refl h1 [] (by simp)).new _ _
    have b1 : (h1.new o.e 5).blk h1.next = some o.e := by simp
    have f2 : Fit w0 (h1.new o.e 5) := f.new (by simp [LOp.e, isCell])
    have n2 : (h1.new o.e 5).next = h1.next + 1 := rfl
    have fb := f.base
    have m2 := m.step0 (s1.less (T := []) (by simp))
    have g2 := g.frame s1 (by simp)
    generalize h1.new o.e 5 = h2 at *
    have e8 : ∀ {h3 : Hp} {S' N : List Nat} (st : Step h2 h3 S (S' ++ N)), h3.blk h1.next = some o.e ∧ h1.next < h3.next := fun st => ⟨by rw [(st.keep _ (by omega) (fun w => by have := hSlt _ w; omega)).1]; exact b1, by have := st.1; omega⟩
    -- what is left to do, whatever was done
    have fin : ∀ (h3 : Hp) (x6' : Value) (s' : LS) (S' A' : List Nat) (W' : Nat) (now' : List Ent) (Sn' : List Nat), Fit w0 h3 → Lv w0 h3 r s' S' A' → LOk s' W' → W' + opsz post ≤ 1048576 → SrtE now' → now'.length ≤ pre.length + 1 → Vec w0 h3 3 x6' now'.length (now'.flatMap ee) Sn' → (∀ b, b ∈ Sn' → b ∉ S' ∧ b ∉ A') →
        (∀ k, s'.val k = (getE now' k).filter fun x => !x.g) → h3.blk h1.next = some o.e → h1.next < h3.next →
        mapsTail prog w0 (deduplaw14_LevelMaps_L1 prog w0 k0 kr (post.length + 1)) kr x2 r x6' v (.int .i64 (l.length : Int)) (.int .i64 (pre.length : Int)) (.pointer (some ⟨h1.next, 0, none⟩)) h3 := by
      intro h3 x6' s' S' A' W' now' Sn' f3 m3 ok3 hW3 sn3 hn3 g3 hd3 hval3 b3 n3
      refine maps_tail m3 ok3 (by omega) sn3 (by omega) g3.sl hval3 fb b3 n3 f3 (by omega) fun h4 f4 s4 => ?_
      have := ih (pre ++ [o]) h4 x6' s' S' A' W' now' Sn' (by simpa using he) f4 (m3.step0 s4) ok3 hW3 sn3 (by simpa using hn3) (g3.frame s4 (by simp)) hd3 hval3
      simpa using this
    -- a call that leaves Sn alone
    have frS : ∀ {h3 : Hp} {S' N : List Nat}, Step h2 h3 S (S' ++ N) → Vec w0 h3 3 x6 now.length (now.flatMap ee) Sn ∧ ∀ b, b ∈ Sn → b ∉ S' ∧ b ∉ N ++ A := fun {h3 S' N} st => by
      have own : ∀ b, b ∈ S' ++ N → b ∈ S ∨ h2.next ≤ b := fun b hb => (st.own b hb).2
      refine ⟨g2.frame st (fun b hb => (hd b hb).1), fun b hb => ⟨fun w => ?_, fun w => ?_⟩⟩
      · rcases own b (by simp [w]) with q | q
        · exact (hd b hb).1 q
        · have := (hSnlt b hb).2; omega
      · rcases List.mem_append.1 w with w | w
        · rcases own b (by simp [w]) with q | q
          · exact (hd b hb).1 q
          · have := (hSnlt b hb).2; omega
        · exact (hd b hb).2 w
    -- and then puts an entry over what is known
    have putS : ∀ (x : Ent) (h3 : Hp) (S' N : List Nat) (s' : LS) (W' : Nat) (K : Value → Hp → Prop), Fit w0 h3 → Step h2 h3 S (S' ++ N) → Lv w0 h3 r s' S' (N ++ A) → (∀ h4 x6' Sn', Fit w0 h4 → Lv w0 h4 r s' S' (N ++ A) → Vec w0 h4 3 x6' (withE now x).length ((withE now x).flatMap ee) Sn' → (∀ b, b ∈ Sn' → b ∉ S' ∧ b ∉ N ++ A) → h4.blk h1.next = some o.e → h1.next < h4.next → K x6' h4) →
        callA prog w0 n_dedupref12_With [x6, .agg (ee x).toArray] K h3 := by
      intro x h3 S' N s' W' K f3 st m3 hK
      obtain ⟨g3, hd3⟩ := frS st
      obtain ⟨b3, n3⟩ := e8 st
      refine callA_of (rWith_spec g3.sl (by omega) x) fun v h4 ⟨Sn', g4, s4⟩ f4 => ?_
      have hnew : ∀ b, b ∈ Sn' → h3.next ≤ b := fun b hb => by rcases (s4.own b hb).2 with w | w; simp at w; exact w
      refine hK h4 v Sn' f4 (m3.step0 s4) g4 (fun b hb => ⟨fun w => ?_, fun w => ?_⟩) (by rw [(s4.keep _ n3 (by simp)).1]; exact b3) (by have := s4.1; omega)
      · have := hnew b hb; have := (m3.lt b w).2; omega
      · have := hnew b hb; have := m3.ltA b w; omega
    have valW : ∀ (x : Ent), rightE x = true → ∀ k, (s.put x).val k = (getE (withE now x) k).filter fun x => !x.g := fun x hx k => by
      rw [lput_val ok hx, getE_withE sn]
      split
      · rfl
      · exact hval k
    simp only [wd, List.getElem?_toArray, List.getElem?_cons_zero, List.getElem?_cons_succ]
    refine loadA_at fb b1 rfl ?_
    simp only [wd, List.getElem?_toArray, List.getElem?_cons_zero, List.getElem?_cons_succ]
    by_cases hk0 : o.k = 0
    · have d0 : (o.k == 0) = true := by simp [hk0]
      simp only [d0, wd, List.getElem?_toArray, List.getElem?_cons_zero, List.getElem?_cons_succ]
      refine loadA_at fb b1 rfl ?_
      refine loadA_at fb b1 rfl ?_
      refine callA_of (Put_lv o.key o.v m2 ok (by omega)) fun u h3 ⟨S3, N3, e, m3, s3⟩ f3 => ?_
      subst e
      obtain ⟨b3, n3⟩ := e8 s3
      cases hx : rightE ⟨o.key, o.v, false⟩ with
      | true =>
        rw [hx] at m3
        simp only [if_true] at m3
        simp only [if_true, show ((0 : Int) == 0) = true from rfl, wd, List.getElem?_toArray, List.getElem?_cons_zero, List.getElem?_cons_succ]
        refine loadA_at fb b3 rfl ?_
        refine loadA_at fb b3 rfl ?_
        simp only [buildA_iff, fillA_one, fillA_nil, List.set_cons_zero, List.set_cons_succ]
        refine ⟨rfl, by simp, rfl, by simp, ?_⟩
        have := putS o.put h3 S3 N3 (s.put ⟨o.key, o.v, false⟩) W _ f3 s3 m3 fun h4 x6' Sn' f4 m4 g4 hd4 b4 n4 => fin h4 x6' _ S3 (N3 ++ A) _ _ Sn' f4 m4 (lput_ok ok hx) (by simp only; omega) (withE_srt sn _) (by have := withE_len now o.put; omega) g4 hd4 (valW _ hx) b4 n4
        simp only [mapsTail, wd, List.getElem?_toArray, List.getElem?_cons_zero, List.getElem?_cons_succ] at this
        exact this
      | false =>
        rw [hx] at m3
        simp only [Bool.false_eq_true, if_false] at m3
        simp only [Bool.false_eq_true, if_false, show ((120 : Int) == 0) = false from rfl, wd, List.getElem?_toArray, List.getElem?_cons_zero, List.getElem?_cons_succ]
        obtain ⟨g3, hd3⟩ := frS s3
        have := fin h3 x6 s S3 (N3 ++ A) W now Sn f3 m3 ok (by omega) sn (by omega) g3 hd3 hval b3 n3
        simp only [mapsTail, wd, List.getElem?_toArray, List.getElem?_cons_zero, List.getElem?_cons_succ] at this
        exact this
    have d0 : (o.k == 0) = false := by simpa using hk0
    simp only [d0, wd, List.getElem?_toArray, List.getElem?_cons_zero, List.getElem?_cons_succ]
    by_cases hk1 : o.k = 1
    · have d1 : (o.k == 1) = true := by simp [hk1]
      simp only [d1, wd, List.getElem?_toArray, List.getElem?_cons_zero, List.getElem?_cons_succ]
      refine loadA_at fb b1 rfl ?_
      refine callA_of (Delete_lv o.key m2 ok (by omega)) fun u h3 ⟨S3, N3, e, m3, s3⟩ f3 => ?_
      subst e
      obtain ⟨b3, n3⟩ := e8 s3
      cases hx : rightE ⟨o.key, [], true⟩ with
      | true =>
        rw [hx] at m3
        simp only [if_true] at m3
        simp only [if_true, show ((0 : Int) == 0) = true from rfl, wd, List.getElem?_toArray, List.getElem?_cons_zero, List.getElem?_cons_succ]
        refine loadA_at fb b3 rfl ?_
        simp only [buildA_iff, fillA_one, fillA_nil, List.set_cons_zero, List.set_cons_succ]
        refine ⟨rfl, by simp, rfl, by simp, ?_⟩
        have := putS o.del h3 S3 N3 (s.put ⟨o.key, [], true⟩) W _ f3 s3 m3 fun h4 x6' Sn' f4 m4 g4 hd4 b4 n4 => fin h4 x6' _ S3 (N3 ++ A) _ _ Sn' f4 m4 (lput_ok ok hx) (by simp only [List.length_nil]; omega) (withE_srt sn _) (by have := withE_len now o.del; omega) g4 hd4 (valW _ hx) b4 n4
        simp only [mapsTail, wd, List.getElem?_toArray, List.getElem?_cons_zero, List.getElem?_cons_succ] at this
        exact this
      | false =>
        rw [hx] at m3
        simp only [Bool.false_eq_true, if_false] at m3
        simp only [Bool.false_eq_true, if_false, show ((120 : Int) == 0) = false from rfl, wd, List.getElem?_toArray, List.getElem?_cons_zero, List.getElem?_cons_succ]
        obtain ⟨g3, hd3⟩ := frS s3
        have := fin h3 x6 s S3 (N3 ++ A) W now Sn f3 m3 ok (by omega) sn (by omega) g3 hd3 hval b3 n3
        simp only [mapsTail, wd, List.getElem?_toArray, List.getElem?_cons_zero, List.getElem?_cons_succ] at this
        exact this
    have d1 : (o.k == 1) = false := by simpa using hk1
    simp only [d1, wd, List.getElem?_toArray, List.getElem?_cons_zero, List.getElem?_cons_succ]
    by_cases hk4 : o.k = 4
    · have d4 : (o.k == 4) = true := by simp [hk4]
      simp only [d4, wd, List.getElem?_toArray, List.getElem?_cons_zero, List.getElem?_cons_succ]
      have hnum := ok.num
      have hsz := ok.size
      have hlv := ok.lvl 0
      refine callA_of (Flush_lv m2 hnum.1 hnum.2.1 (chkE_of ok.mright ok.msrt) (by omega) (by omega)) fun u h3 ⟨S3, N3, e, m3, s3⟩ f3 => ?_
      obtain ⟨b3, n3⟩ := e8 s3
      obtain ⟨g3, hd3⟩ := frS s3
      have := fin h3 x6 s.flush S3 (N3 ++ A) W now Sn f3 m3 (lflush_ok ok) (by omega) sn (by omega) g3 hd3 (fun k => by rw [lflush_val ok]; exact hval k) b3 n3
      simp only [mapsTail, wd, List.getElem?_toArray, List.getElem?_cons_zero, List.getElem?_cons_succ] at this
      exact this
    have d4 : (o.k == 4) = false := by simpa using hk4
    simp only [d4, wd, List.getElem?_toArray, List.getElem?_cons_zero, List.getElem?_cons_succ]
    by_cases hk5 : o.k = 5
    · have d5 : (o.k == 5) = true := by simp [hk5]
      simp only [d5, wd, List.getElem?_toArray, List.getElem?_cons_zero, List.getElem?_cons_succ]
      refine callA_of (Step_lv m2 ok (by omega)) fun u h3 ⟨S3, N3, e, m3, s3⟩ f3 => ?_
      obtain ⟨b3, n3⟩ := e8 s3
      obtain ⟨g3, hd3⟩ := frS s3
      have := fin h3 x6 s.step S3 (N3 ++ A) W now Sn f3 m3 (lstep_ok ok) (by omega) sn (by omega) g3 hd3 (fun k => by rw [lstep_val ok]; exact hval k) b3 n3
      simp only [mapsTail, wd, List.getElem?_toArray, List.getElem?_cons_zero, List.getElem?_cons_succ] at this
      exact this
    have d5 : (o.k == 5) = false := by simpa using hk5
    simp only [d5, wd, List.getElem?_toArray, List.getElem?_cons_zero, List.getElem?_cons_succ]
    have s0 : Step h2 h2 S (S ++ []) := by rw [List.append_nil]; exact .refl _ _ fun b hb => by have := (hSlt b hb).2; omega
    have := fin h2 x6 s S A W now Sn f2 m2 ok (by omega) sn (by omega) g2 hd hval b1 (by omega)
    simp only [mapsTail, wd, List.getElem?_toArray, List.getElem?_cons_zero, List.getElem?_cons_succ] at this
    exact this
theorem LevelMaps_top {b f t : Int} {v : Value} {l : List LOp} (hx : ExtSl w0 5 v l.length (l.flatMap LOp.e)) (hl : l.length ≤ 1048576) (hs : opsz l ≤ 1048576) :
    ACalls prog w0 n_deduplaw14_LevelMaps [.agg (scrV b f t v).toArray] h fun r h' => r = .bool true := by
  refine ACalls.of_fit (by simp) fun fi => c_deduplaw14_LevelMaps (by simp) ?_
  have fb := fi.base
  have hvc : isCell v = true := (hx.sl' fi (by rw [fm_length (s := 5) (fun _ => rfl)])).isC
  simp only [s_deduplaw14_LevelMaps]
  refine boxA_of (e := scrV b f t v) ?_
  have s1 : Step h (h.new (scrV b f t v) 4) [] [] := ((Step.refl h [] (by simp)).new _ _).less (by simp)
  have b1 : (h.new (scrV b f t v) 4).blk h.next = some (scrV b f t v) := by simp
  have l1 : h.next < (h.new (scrV b f t v) 4).next := by simp
  generalize h.new (scrV b f t v) 4 = h1 at *
  refine loadNA_whole fb b1 rfl ?_
  refine callA_of (begin_spec hvc) fun r h2 ⟨c1, c2⟩ f2 => ?_
  cases hr : rightT b f t with
  | false =>
    obtain ⟨e, s2⟩ := c2 hr
    subst e
    have c3 : binPtrA .eql (.pointer none) (.pointer none) = some (.bool true) := rfl
    simp only [wd, List.getElem?_toArray, List.getElem?_cons_zero, List.getElem?_cons_succ, c3, retA_iff, oneOf_one]
    simp
  | true =>
    obtain ⟨p, pr, S, Sr, e, m2, mr, s2, hd⟩ := c1 hr
    subst e
    obtain ⟨qr, e⟩ := mr.ptrV
    subst e
    have c3 : binPtrA .eql (.pointer (some ⟨qr, 0, none⟩)) (.pointer none) = some (.bool false) := rfl
    have b2 : h2.blk h.next = some (scrV b f t v) := by rw [(s2.keep _ l1 (by simp)).1]; exact b1
    simp only [wd, List.getElem?_toArray, List.getElem?_cons_zero, List.getElem?_cons_succ, c3]
    refine loadA_at fb b2 rfl ?_
    have hn := (rightT_iff _ _ _).1 hr
    have hrn : rightT ((b.toNat : Nat) : Int) ((f.toNat : Nat) : Int) ((t.toNat : Nat) : Int) = true := by
      rw [show ((b.toNat : Nat) : Int) = b by omega, show ((f.toNat : Nat) : Int) = f by omega, show ((t.toNat : Nat) : Int) = t by omega]
      exact hr
    simp only [(hx.sl' f2 (by rw [fm_length (s := 5) (fun _ => rfl)])).lenv, wd, List.getElem?_toArray, List.getElem?_cons_zero, List.getElem?_cons_succ]
    refine ⟨l.length + 1, maps_loop hx hl (fun h' => ?_) l [] h2 _ _ S [] 0 [] [] rfl f2 m2 (newS_ok hrn 0) (by omega) .nil (by simp) .nil (by simp) (fun k => ?_)⟩
    · simp only [retA_iff, oneOf_one]
      simp
    · have : (newS b.toNat f.toNat t.toNat).lists.flatten = [] := by simp [newS, LS.lists]
      unfold LS.val
      have hlk : look (newS b.toNat f.toNat t.toNat).lists k = none := by
        unfold look
        rw [List.findSome?_eq_none_iff]
        intro l hl
        have : l = [] := by
          simp [newS, LS.lists] at hl
          exact hl
        rw [this]; rfl
      rw [hlk]
      rfl
end
end Go.Proofs.YtfmoemconapmhaaGreat.Ah
