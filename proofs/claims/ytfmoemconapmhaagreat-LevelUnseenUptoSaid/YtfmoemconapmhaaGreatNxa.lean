/- The document's levels in memory; New. -/
import Derived.Test.YtfmoemconapmhaaGreatLxb
import Derived.Test.YtfmoemconapmhaaGreatGref14
import Derived.Test.YtfmoemconapmhaaGreatExq
import Derived.Test.YtfmoemconapmhaaGreatLxd
set_option linter.unusedVariables false
set_option linter.unusedSimpArgs false
set_option linter.constructorNameAsVariable false
namespace Go.Proofs.YtfmoemconapmhaaGreat.Ah
open Go
section
variable {w0 : World} {h h' : Hp}
def RLvl (w0 : World) (h : Hp) (A : List Nat) (v : Value) (ls : List (List Ent)) : Prop :=
 ∃ ps : List (Value × List Ent), ls = ps.map (·.2) ∧ Sl w0 h 1 v ps.length (ps.map (·.1)) ∧ (∀ b, b ∈ sblk v → b ∈ A) ∧ ∀ p : Value × List Ent, p ∈ ps → Es w0 h p.1 p.2 ∧ ∀ b, b ∈ sblk p.1 → b ∈ A
theorem RLvl.nil (A : List Nat) : RLvl w0 h A (.slice none 0 0) [] := ⟨[], rfl, .nil, by simp [sblk], by simp⟩
theorem RLvl.frame {A : List Nat} {v : Value} {ls : List (List Ent)} (m : RLvl w0 h A v ls) (hA : ∀ b, b ∈ A → b < h.next) {T T' : List Nat} (st : Step h h' T T') (hd : ∀ b, b ∈ A → b ∉ T) : RLvl w0 h' A v ls := by
 obtain ⟨ps, e, a, b, c⟩ := m
 refine ⟨ps, e, a.stepL (fun x hx => hA x (b x hx)) st fun x hx => hd x (b x hx), b, fun p hp => ?_⟩
 obtain ⟨r, hS⟩ := c p hp
 exact ⟨Sl.stepL r (fun x hx => hA x (hS x hx)) st fun x hx => hd x (hS x hx), hS⟩
theorem RLvl.more {A A' : List Nat} {v : Value} {ls : List (List Ent)} (m : RLvl w0 h A v ls) (hA : ∀ b, b ∈ A → b ∈ A') : RLvl w0 h A' v ls := by
 obtain ⟨ps, e, a, b, c⟩ := m
 refine ⟨ps, e, a, fun x hx => hA x (b x hx), fun p hp => ?_⟩
 obtain ⟨r, hS⟩ := c p hp
 exact ⟨r, fun x hx => hA x (hS x hx)⟩
theorem RLvl.isC {A : List Nat} {v : Value} {ls : List (List Ent)} (m : RLvl w0 h A v ls) : isCell v = true := by
 obtain ⟨ps, e, a, b, c⟩ := m
 exact a.isC
theorem RLvl.lenv {A : List Nat} {v : Value} {ls : List (List Ent)} (m : RLvl w0 h A v ls) : lenSl v = some (.int .i64 (ls.length : Int)) := by
 obtain ⟨ps, e, a, b, c⟩ := m
 rw [a.lenv, e, List.length_map]
def Rv (w0 : World) (h : Hp) (r : Value) (s : LS) (S A : List Nat) : Prop :=
 ∃ q qa c vm us, r = ptr q ∧ h.blk q = some (numV s ++ [vm, .slice (some ⟨qa, 0, none⟩) 16 c]) ∧ h.blk qa = some us ∧ us.length = 16 ∧ S = [q, qa] ∧ q ≠ qa ∧ w0.heap.size ≤ q ∧ q < h.next ∧ w0.heap.size ≤ qa ∧ qa < h.next ∧ (∀ b, b ∈ A → b < h.next) ∧ (∀ b, b ∈ S → b ∉ A) ∧ s.lv.length = 16 ∧
  Es w0 h vm s.mem ∧ (∀ b, b ∈ sblk vm → b ∈ A) ∧ (∀ (i : Nat) v, us[i]? = some v → RLvl w0 h A v (s.lv.getD i [])) ∧ h.esz qa = 1 ∧ ((c < ucap ∧ 16 ≤ c) ∨ c = ucap)
theorem Rv.nj {r : Value} {s : LS} {S A : List Nat} (m : Rv w0 h r s S A) : r ≠ junk := by obtain ⟨q, qa, c, vm, us, e, -⟩ := m; subst e; simp [ptr, junk]
theorem Rv.isC {r : Value} {s : LS} {S A : List Nat} (m : Rv w0 h r s S A) : isCell r = true := by obtain ⟨q, qa, c, vm, us, e, -⟩ := m; subst e; rfl
theorem Rv.lt {r : Value} {s : LS} {S A : List Nat} (m : Rv w0 h r s S A) : ∀ b, b ∈ S → w0.heap.size ≤ b ∧ b < h.next := by
 obtain ⟨q, qa, c, vm, us, a1, a2, a3, a4, a5, a6, a7, a8, a9, b1, -⟩ := m
 subst a5
 intro b hb
 simp at hb
 rcases hb with rfl | rfl
 ·exact ⟨a7, a8⟩
 ·exact ⟨a9, b1⟩
theorem Rv.ltA {r : Value} {s : LS} {S A : List Nat} (m : Rv w0 h r s S A) : ∀ b, b ∈ A → b < h.next := by
 obtain ⟨q, qa, c, vm, us, a1, a2, a3, a4, a5, a6, a7, a8, a9, b1, b2, -⟩ := m
 exact b2
theorem Rv.frame {r : Value} {s : LS} {S A T T' : List Nat} (m : Rv w0 h r s S A) (st : Step h h' T T') (hd : ∀ b, b ∈ S → b ∉ T) (hA : ∀ b, b ∈ A → b ∉ T) : Rv w0 h' r s S A := by
 obtain ⟨q, qa, c, vm, us, a1, a2, a3, a4, a5, a6, a7, a8, a9, b1, b2, b3, b4, b5, b6, b7, b8, b9⟩ := m
 subst a5
 have k1 := st.keep q a8 (hd q (by simp))
 have k2 := st.keep qa b1 (hd qa (by simp))
 have hn := st.1
 exact ⟨q, qa, c, vm, us, a1, by rw [k1.1]; exact a2, by rw [k2.1]; exact a3, a4, rfl, a6, a7, by omega, a9, by omega, fun b hb => by have := b2 b hb; omega, b3, b4,
  Sl.stepL b5 (fun x hx => b2 x (b6 x hx)) st (fun x hx => hA x (b6 x hx)), b6, fun i v hi => (b7 i v hi).frame b2 st hA, by rw [k2.2]; exact b8, b9⟩
theorem Rv.step0 {r : Value} {s : LS} {S A T' : List Nat} (m : Rv w0 h r s S A) (st : Step h h' [] T') : Rv w0 h' r s S A := m.frame st (by simp) (by simp)
theorem q01x (b f t : Int) : ACalls prog w0 qeq [tierV b f t] h fun r h' => r = .bool (rightT b f t) ∧ Step h h' [] [] := by
 refine ACalls.of_fit (by simp [tierV]) fun fi => qxx (by simp [tierV]) ?_
 have fb := fi.base
 simp only [qep, tierV]
 refine q1b (e := [.int .i64 b, .int .i64 f, .int .i64 t]) ?_
 have s1 : Step h (h.new [.int .i64 b, .int .i64 f, .int .i64 t] 3) [] [] := ((Step.refl h [] (by simp)).new _ _).less (by simp)
 have b1 : (h.new [.int .i64 b, .int .i64 f, .int .i64 t] 3).blk h.next = some [.int .i64 b, .int .i64 f, .int .i64 t] := by simp
 generalize h.new [.int .i64 b, .int .i64 f, .int .i64 t] 3 = h1 at *
 have fin : ∀ q, q = rightT b f t → retA [.bool q] (fun r h' => r = .bool (rightT b f t) ∧ Step h h' [] []) h1 := fun q e => by
  subst e
  simp only [qd, qh]
  exact ⟨by simp, trivial, s1⟩
 simp only [wd, wa]
 refine qc fb b1 rfl ?_
 simp only [wd, wa]
 by_cases g0 : (256 : Int) ≤ b
 ·have c0 : decide ((256 : Int) ≤ b) = true := decide_eq_true g0
  simp only [c0, wd, wa]
  refine qc fb b1 rfl ?_
  simp only [wd, wa]
  by_cases g1 : b ≤ (4096 : Int)
  ·have c1 : decide (b ≤ (4096 : Int)) = true := decide_eq_true g1
   simp only [c1, wd, wa]
   refine qc fb b1 rfl ?_
   simp only [wd, wa]
   by_cases g2 : (2 : Int) ≤ f
   ·have c2 : decide ((2 : Int) ≤ f) = true := decide_eq_true g2
    simp only [c2, wd, wa]
    refine qc fb b1 rfl ?_
    simp only [wd, wa]
    by_cases g3 : f ≤ (16 : Int)
    ·have c3 : decide (f ≤ (16 : Int)) = true := decide_eq_true g3
     simp only [c3, wd, wa]
     refine qc fb b1 rfl ?_
     simp only [wd, wa]
     by_cases g4 : (1 : Int) ≤ t
     ·have c4 : decide ((1 : Int) ≤ t) = true := decide_eq_true g4
      simp only [c4, wd, wa]
      refine qc fb b1 rfl ?_
      simp only [wd, wa]
      by_cases g5 : t ≤ (4096 : Int)
      ·have c5 : decide (t ≤ (4096 : Int)) = true := decide_eq_true g5
       simp only [c5, wd, wa]
       exact fin _ (by simp [rightT, c0, c1, c2, c3, c4, c5])
      ·have c5 : decide (t ≤ (4096 : Int)) = false := decide_eq_false g5
       simp only [c5, wd, wa]
       exact fin _ (by simp [rightT, c0, c1, c2, c3, c4, c5])
     ·have c4 : decide ((1 : Int) ≤ t) = false := decide_eq_false g4
      simp only [c4, wd, wa]
      exact fin _ (by simp [rightT, c0, c1, c2, c3, c4])
    ·have c3 : decide (f ≤ (16 : Int)) = false := decide_eq_false g3
     simp only [c3, wd, wa]
     exact fin _ (by simp [rightT, c0, c1, c2, c3])
   ·have c2 : decide ((2 : Int) ≤ f) = false := decide_eq_false g2
    simp only [c2, wd, wa]
    exact fin _ (by simp [rightT, c0, c1, c2])
  ·have c1 : decide (b ≤ (4096 : Int)) = false := decide_eq_false g1
   simp only [c1, wd, wa]
   exact fin _ (by simp [rightT, c0, c1])
 ·have c0 : decide ((256 : Int) ≤ b) = false := decide_eq_false g0
  simp only [c0, wd, wa]
  exact fin _ (by simp [rightT, c0])
theorem qrc (b f t : Int) : ACalls prog w0 qf5 [tierV b f t] h fun r h' =>
  (rightT b f t = true → ∃ p S, r = .tuple #[p, .int .i64 0] ∧ Rv w0 h' p (newS b.toNat f.toNat t.toNat) S [] ∧ Step h h' [] S) ∧ (rightT b f t = false → r = .tuple #[.pointer none, .int .i64 140] ∧ Step h h' [] []) := by
 refine ACalls.of_fit (by simp [tierV]) fun fi => qy9 (by simp [tierV]) ?_
 have fb := fi.base
 simp only [qf8]
 refine q1b (e := [.int .i64 b, .int .i64 f, .int .i64 t]) ?_
 have s1 : Step h (h.new [.int .i64 b, .int .i64 f, .int .i64 t] 3) [] [] := ((Step.refl h [] (by simp)).new _ _).less (by simp)
 have b1 : (h.new [.int .i64 b, .int .i64 f, .int .i64 t] 3).blk h.next = some [.int .i64 b, .int .i64 f, .int .i64 t] := by simp
 have l1 : h.next < (h.new [.int .i64 b, .int .i64 f, .int .i64 t] 3).next := by simp
 generalize h.new [.int .i64 b, .int .i64 f, .int .i64 t] 3 = h1 at *
 refine qo fb b1 rfl ?_
 refine qb (q01x b f t) fun v h2 ⟨e, s2⟩ f2 => ?_
 subst e
 have s12 := s1.trans s2
 cases hr : rightT b f t with
 | false =>
  simp only [wd, wa, qd, qk]
  exact ⟨by simp, by simp, fun _ => ⟨trivial, s12⟩⟩
 | true =>
  have hn := (q4e _ _ _).1 hr
  simp only [wd, wa]
  have b2 : h2.blk h.next = some [.int .i64 b, .int .i64 f, .int .i64 t] := by rw [(s2.keep _ l1 (by simp)).1]; exact b1
  refine qo fb b2 rfl ?_
  refine (qhz 1 24 [.slice none 0 0] .i64 .i64 16 16).2 ⟨by omega, by omega, by omega, ?_⟩
  have l2 : h.next < h2.next := Nat.lt_of_lt_of_le l1 s2.1
  have s3 : Step h2 (h2.new (List.replicate 16 (.slice none 0 0)) 1) [] [h2.next] := (Step.refl h2 [] (by simp)).new _ _
  have b3 : (h2.new (List.replicate 16 (.slice none 0 0)) 1).blk h.next = some [.int .i64 b, .int .i64 f, .int .i64 t] := by rw [(s3.keep _ l2 (by simp)).1]; exact b2
  have c3 : (h2.new (List.replicate 16 (.slice none 0 0)) 1).blk h2.next = some (List.replicate 16 (.slice none 0 0)) := by simp
  have e3 : (h2.new (List.replicate 16 (.slice none 0 0)) 1).esz h2.next = 1 := by simp
  have n3 : (h2.new (List.replicate 16 (.slice none 0 0)) 1).next = h2.next + 1 := rfl
  have fb2 := f2.base
  show stillA _ _ (h2.new (List.replicate 16 (.slice none 0 0)) 1)
  generalize h2.new (List.replicate 16 (.slice none 0 0)) 1 = h3 at *
  simp only [q0c, q0a, q7k]
  refine ⟨qo fb b3 rfl rfl, ?_⟩
  simp only [q01]
  rw [q41]
  refine ⟨rfl, by simp, ?_⟩
  rw [qw]
  refine ⟨rfl, by simp [splice], ?_⟩
  rw [qu]
  simp only [wd, wa]
  have hb2 : ((b.toNat : Nat) : Int) = b := by omega
  have hf2 : ((f.toNat : Nat) : Int) = f := by omega
  have ht2 : ((t.toNat : Nat) : Int) = t := by omega
  have hcs : ([.int .i64 b, .int .i64 f, .int .i64 t, .slice none 0 0, .slice (some ⟨h2.next, 0, none⟩) 16 16] : List Value) = numV (newS b.toNat f.toNat t.toNat) ++ [.slice none 0 0, .slice (some ⟨h2.next, 0, none⟩) 16 16] := by
   simp [numV, newS, hb2, hf2, ht2]
  show boxA true 5 (.agg ([.int .i64 b, .int .i64 f, .int .i64 t, .slice none 0 0, .slice (some ⟨h2.next, 0, none⟩) 16 16] : List Value).toArray) _ _
  rw [hcs]
  refine q1b ?_
  have s4 : Step h3 (h3.new (numV (newS b.toNat f.toNat t.toNat) ++ [.slice none 0 0, .slice (some ⟨h2.next, 0, none⟩) 16 16]) 5) [] [h3.next] := (Step.refl h3 [] (by simp)).new _ _
  have b4 : (h3.new (numV (newS b.toNat f.toNat t.toNat) ++ [.slice none 0 0, .slice (some ⟨h2.next, 0, none⟩) 16 16]) 5).blk h3.next = some (numV (newS b.toNat f.toNat t.toNat) ++ [.slice none 0 0, .slice (some ⟨h2.next, 0, none⟩) 16 16]) := by simp
  have n4 : h3.next < (h3.new (numV (newS b.toNat f.toNat t.toNat) ++ [.slice none 0 0, .slice (some ⟨h2.next, 0, none⟩) 16 16]) 5).next := by simp
  generalize h3.new (numV (newS b.toNat f.toNat t.toNat) ++ [.slice none 0 0, .slice (some ⟨h2.next, 0, none⟩) 16 16]) 5 = h4 at *
  have k4 := s4.keep h2.next (by omega) (by simp)
  simp only [wd, wa, qd, qk]
  refine ⟨by simp, fun _ => ⟨_, [h3.next, h2.next], rfl, ⟨h3.next, h2.next, 16, _, _, rfl, b4, by rw [k4.1]; exact c3, by simp, rfl, by omega, by omega, n4, fb2, by omega, by simp, by simp, by simp [newS], .nil, by simp [sblk], fun i v hi => ?_, by rw [k4.2]; exact e3, .inl ⟨by decide, Nat.le_refl _⟩⟩, ?_⟩, by simp⟩
  ·have hv := List.eq_of_mem_replicate (List.mem_of_getElem? hi)
   subst hv
   have : (newS b.toNat f.toNat t.toNat).lv.getD i [] = [] := by
    simp only [newS, List.getD_eq_getElem?_getD, List.getElem?_replicate]
    split <;> rfl
   rw [this]
   exact .nil _
  ·exact (s12.trans (s3.less (T := []) (by simp))).trans (s4.less (T := []) (by simp)) |>.claim (by simp; have := s1.1; have := s2.1; omega)
end
noncomputable section
end
def scrV (b f t : Int) (v : Value) : List Value := [.int .i64 b, .int .i64 f, .int .i64 t, v]
section
variable {w0 : World} {h h' : Hp}
theorem Lv.ptrV {r : Value} {s : LS} {S A : List Nat} (m : Lv w0 h r s S A) : ∃ q, r = .pointer (some ⟨q, 0, none⟩) := by obtain ⟨q, -, -, -, e, -⟩ := m; exact ⟨q, e⟩
theorem Rv.ptrV {r : Value} {s : LS} {S A : List Nat} (m : Rv w0 h r s S A) : ∃ q, r = .pointer (some ⟨q, 0, none⟩) := by obtain ⟨q, -, -, -, -, e, -⟩ := m; exact ⟨q, e⟩
theorem q03q {b f t : Int} {v : Value} (hv : isCell v = true) : ACalls prog w0 qel [.agg (scrV b f t v).toArray] h fun r h' =>
  (rightT b f t = true → ∃ p pr S Sr, r = .tuple #[p, pr, .bool true] ∧ Lv w0 h' p (newS b.toNat f.toNat t.toNat) S [] ∧ Rv w0 h' pr (newS b.toNat f.toNat t.toNat) Sr [] ∧ Step h h' [] (S ++ Sr) ∧ ∀ b, b ∈ S → b ∉ Sr) ∧
  (rightT b f t = false → r = .tuple #[.pointer none, .pointer none, .bool true] ∧ Step h h' [] []) := by
 refine ACalls.of_fit (by simp) fun fi => qxm (by simp) ?_
 have fb := fi.base
 simp only [qem]
 refine q1b (e := scrV b f t v) ?_
 have s1 : Step h (h.new (scrV b f t v) 4) [] [] := ((Step.refl h [] (by simp)).new _ _).less (by simp)
 have b1 : (h.new (scrV b f t v) 4).blk h.next = some (scrV b f t v) := by simp
 have l1 : h.next < (h.new (scrV b f t v) 4).next := by simp
 generalize h.new (scrV b f t v) 4 = h1 at *
 simp only [wd, wa]
 refine q0p (e := [.int .i64 b, .int .i64 f, .int .i64 t]) fb b1 rfl ?_
 refine qb (qrx b f t) fun r h2 ⟨c1, c2⟩ f2 => ?_
 cases hr : rightT b f t with
 | true =>
  obtain ⟨p, S, e, m2, s2⟩ := c1 hr
  subst e
  obtain ⟨q, e⟩ := m2.ptrV
  subst e
  simp only [wd, wa]
  have b2 : h2.blk h.next = some (scrV b f t v) := by rw [(s2.keep _ l1 (by simp)).1]; exact b1
  refine q0p (e := [.int .i64 b, .int .i64 f, .int .i64 t]) fb b2 rfl ?_
  refine qb (qrc b f t) fun r h3 ⟨c3, c4⟩ f3 => ?_
  obtain ⟨pr, Sr, e, m3, s3⟩ := c3 hr
  subst e
  obtain ⟨qr, e⟩ := m3.ptrV
  subst e
  simp only [wd, wa]
  refine qb qq7 fun u h4 ⟨e, s4⟩ f4 => ?_
  subst e
  have c5 : binPtrA .neq (.pointer (some ⟨q, 0, none⟩)) (.pointer none) = some (.bool true) := rfl
  have c6 : binPtrA .neq (.pointer (some ⟨qr, 0, none⟩)) (.pointer none) = some (.bool true) := rfl
  have c7 : binBoolA .eql (.bool true) (.bool true) = some (.bool true) := rfl
  have c8 : ((0 : Int) == 0) = true := rfl
  simp only [c5, c6, c7, c8, wd, wa, qd, qk]
  have hS : ∀ b, b ∈ S → b < h2.next := fun b hb => (s2.own b hb).1
  have hSr : ∀ b, b ∈ Sr → h2.next ≤ b := fun b hb => by rcases (s3.own b hb).2 with w | w; simp at w; exact w
  refine ⟨by simp, fun _ => ⟨_, _, S, Sr, rfl, (m2.step0 s3).step0 s4, m3.step0 s4, ?_, fun b hb hb2 => by have := hS b hb; have := hSr b hb2; omega⟩, by simp⟩
  have t1 : Step h h3 [] (Sr ++ S) := (s1.trans s2).trans (s3.more S hS)
  exact (t1.less (T := S ++ Sr) (fun b hb => by simp at hb ⊢; rcases hb with w | w <;> simp [w])).trans (s4.keepS fun b hb => by
   rcases List.mem_append.1 hb with w | w
   ·have := hS b w; have := s3.1; omega
   ·exact (s3.own b w).1)
 | false =>
  obtain ⟨e, s2⟩ := c2 hr
  subst e
  simp only [wd, wa]
  have b2 : h2.blk h.next = some (scrV b f t v) := by rw [(s2.keep _ l1 (by simp)).1]; exact b1
  refine q0p (e := [.int .i64 b, .int .i64 f, .int .i64 t]) fb b2 rfl ?_
  refine qb (qrc b f t) fun r h3 ⟨c3, c4⟩ f3 => ?_
  obtain ⟨e, s3⟩ := c4 hr
  subst e
  simp only [wd, wa]
  refine qb qq7 fun u h4 ⟨e, s4⟩ f4 => ?_
  subst e
  have c5 : binPtrA .neq (.pointer none) (.pointer none) = some (.bool false) := rfl
  have c7 : binBoolA .eql (.bool false) (.bool false) = some (.bool true) := rfl
  have c8 : ((140 : Int) == 140) = true := rfl
  simp only [c5, c7, c8, wd, wa, qd, qk]
  exact ⟨by simp, by simp, fun _ => ⟨trivial, ((s1.trans s2).trans s3).trans s4⟩⟩
end
def opsz (l : List LOp) : Nat := (l.map dLOp.b).sum
theorem q09i (l : List LOp) : opsz l = (l.map dLOp.b).sum := rfl
theorem qqz (o : LOp) (l : List LOp) : opsz (o :: l) = (o.key.length + o.to.length + o.v.length + 6) + opsz l := by simp [opsz, dLOp]
theorem q086 {l : List LOp} {i : Nat} {x : LOp} (h : l[i]? = some x) : ((l.flatMap LOp.e).drop (i * 5)).take 5 = x.e := qg7 (e := LOp.e) (s := 5) (fun _ => rfl) l i x h
def LOp.put (o : LOp) : Ent := ⟨o.key, o.v, false⟩
end Go.Proofs.YtfmoemconapmhaaGreat.Ah
