/- level.Load: the whole. -/
import Derived.Test.YtfmoemconapmhaaGreatQxa
import Derived.Test.YtfmoemconapmhaaGreatPxa
import Derived.Test.YtfmoemconapmhaaGreatNxa
set_option linter.unusedVariables false
set_option linter.unusedSimpArgs false
set_option linter.constructorNameAsVariable false
namespace Go.Proofs.YtfmoemconapmhaaGreat.Ah
open Go
theorem qbo {α : Type} : ∀ (lv : List (List α)) (j : Nat), lastN lv ≤ j → lv.getD j [] = []
 | [], j, _ => rfl
 | r :: t, j, h => by
  have ih := qbo t
  simp only [lastN] at h
  split at h
  ·cases j with
   | zero => omega
   | succ j => exact ih j (by omega)
  ·split at h
   ·cases j with
    | zero => omega
    | succ j => exact ih j (by omega)
   ·rename_i h1 h2
    have hr : r = [] := by simpa using h2
    cases j with
    | zero => exact hr
    | succ j => exact ih j (by omega)
theorem qh5 {α : Type} (l : List α) (n j : Nat) (d : α) : (l.take n).getD j d = if j < n then l.getD j d else d := by
 rw [List.getD_eq_getElem?_getD, List.getElem?_take]
 split
 ·rw [← List.getD_eq_getElem?_getD]
 ·rfl
theorem q01u {α : Type} {lv : List (List α)} {n : Nat} (h : ∀ j, n ≤ j → lv.getD j [] = []) : (lv.drop n).flatten = [] := by
 rw [List.flatten_eq_nil_iff]
 intro r hr
 obtain ⟨j, hj⟩ := List.getElem?_of_mem hr
 rw [List.getElem?_drop] at hj
 have := h (n + j) (by omega)
 rw [List.getD_eq_getElem?_getD, hj] at this
 exact this
section
variable {w0 : World} {h h' : Hp}
theorem LI.next {hh : Hp} {q rp i : Nat} {mp vc : Value} {M U A : List Nat} {s : LS} {sls : List Value} {ps : List (Value × List Ent)} (l : LI w0 hh q rp mp M s sls (s.lv.take i) i h vc U ps A) (hl3 : sls.length = 16) (hlv : s.lv.length = 16) (hi : i < 16) (hnil : ∀ j, i ≤ j → j < 16 → sls[j]? = some (.slice none 0 0)) (e : ps.map (·.2) = s.lv.getD i []) :
  LI w0 hh q rp mp M s (sls.set i vc) (s.lv.take (i + 1)) (i + 1) h (.slice none 0 0) [] [] (U ++ A) ∧ (sls.set i vc).length = 16 ∧ ∀ j, i + 1 ≤ j → j < 16 → (sls.set i vc)[j]? = some (.slice none 0 0) := by
 have hnil' : ∀ j, i + 1 ≤ j → j < 16 → (sls.set i vc)[j]? = some (.slice none 0 0) := fun j h1 h2 => by
  rw [List.getElem?_set_ne (by omega)]
  exact hnil j (by omega) h2
 have hset : (sls.set i vc).set (i + 1) (.slice none 0 0) = sls.set i vc := by
  refine List.ext_getElem? fun j => ?_
  by_cases hj : j = i + 1
  ·subst hj
   by_cases h16 : i + 1 < 16
   ·rw [List.getElem?_set_self (by simp; omega), hnil' (i + 1) (Nat.le_refl _) h16]
   ·rw [List.getElem?_eq_none (by simp; omega), List.getElem?_eq_none (by simp; omega)]
  ·rw [List.getElem?_set_ne (fun e => hj e.symm)]
 obtain ⟨a1, a2, a3, a4, a5, a6, a7, a8, a9, b1, b2, b3, b4⟩ := l
 refine ⟨⟨a1, by rw [hset]; exact a2, a3, .nil, by simp, fun j v hj hv => ?_, fun b hb => ?_, a8, by simp, ⟨b1.1, by simp, fun w => ?_, b1.2.2.2⟩, fun b hb => ⟨by simp, fun w => ?_, (b2 b hb).2.2⟩, by simp, ⟨fun w => ?_, b4.2⟩⟩, by simpa using hl3, hnil'⟩
 ·rw [qh5]
  by_cases hji : j = i
  ·subst hji
   rw [List.getElem?_set_self (by omega)] at hv
   cases hv
   rw [if_pos (by omega), ← e]
   refine ⟨ps, rfl, a4.sl, fun b hb => ?_, fun p hp => ?_⟩
   ·rw [a4.sblk_eq] at hb
    simp [hb]
   ·obtain ⟨S, r, hS⟩ := a5 p hp
    exact ⟨S, r, fun b hb => by simp [hS b hb]⟩
  ·rw [List.getElem?_set_ne (fun e => hji e.symm)] at hv
   have := a6 j v hji hv
   rw [qh5] at this
   have h2 : (if j < i then s.lv.getD j [] else []) = if j < i + 1 then s.lv.getD j [] else [] := by
    by_cases h3 : j < i
    ·rw [if_pos h3, if_pos (by omega)]
    ·rw [if_neg h3, if_neg (by omega)]
   rw [h2] at this
   exact this.more (by simp +contextual)
 ·rcases List.mem_append.1 hb with r | r
  ·exact ⟨a9 b r, (a4.lt b r).2⟩
  ·exact a7 b r
 ·rcases List.mem_append.1 w with r | r
  ·exact b1.2.1 r
  ·exact b1.2.2.1 r
 ·rcases List.mem_append.1 w with r | r
  ·exact (b2 b hb).1 r
  ·exact (b2 b hb).2.1 r
 ·rcases List.mem_append.1 w with r | r
  ·exact (b3 rp r).2 rfl
  ·exact b4.1 r
theorem q09r {k2 : Value → Value → Value → Hp → Prop} {kr : Value → Value → Value → Hp → Prop} {hh : Hp} {q rp : Nat} {mp x6 : Value} {M : List Nat} {s : LS} {W : Nat} (fh : Fit w0 hh) (ok : LOk s W) (hW : W ≤ 1048576)
  (hk : ∀ h1 x2 sls A, LI w0 hh q rp mp M s sls (s.lv.take (lastN s.lv)) (lastN s.lv) h1 (.slice none 0 0) [] [] A → sls.length = 16 → (∀ j, lastN s.lv ≤ j → j < 16 → sls[j]? = some (.slice none 0 0)) → Rd w0 h1 rp ⟨[], 0⟩ → Sl w0 h1 1 x2 0 [] → k2 (ptr rp) x2 x6 h1) :
  ∀ (m i : Nat) (h1 : Hp) (x2 : Value) (sls : List Value) (A : List Nat) (D : List (Value × List Ent)), i + m = lastN s.lv → LI w0 hh q rp mp M s sls (s.lv.take i) i h1 (.slice none 0 0) [] [] A → sls.length = 16 → (∀ j, i ≤ j → j < 16 → sls[j]? = some (.slice none 0 0)) → Rd w0 h1 rp ⟨((s.lv.take (lastN s.lv)).drop i).flatMap (lvB s.bl), 0⟩ →
   Sl w0 h1 1 x2 D.length (D.map (·.1)) → (∀ b, b ∈ sblk x2 → b < hh.next) → D.map (·.2) = (s.lv.drop i).flatten → (∀ p : Value × List Ent, p ∈ D → ∃ U, Vec w0 hh 1 p.1 (bldR (s.bl : Int) p.2).length (bvs (bldR (s.bl : Int) p.2)) U) →
   q35 prog w0 k2 kr (m + 1) (ptr q) (ptr rp) x2 x6 (.int .i64 (lastN s.lv : Int)) (.int .i64 (i : Int)) h1 := by
 have hlv := ok.len
 have hla := q4n s.lv
 have hnum := ok.num
 intro m
 induction m with
 | zero =>
  intro i h1 x2 sls A D hi l hl3 hnil w g o e hD
  have : i = lastN s.lv := by omega
  subst this
  rw [q01u (fun j hj => qbo s.lv j hj)] at e
  have hD0 : D = [] := by simpa using e
  subst hD0
  rw [List.drop_of_length_le (by rw [List.length_take]; omega)] at w
  rw [q35]
  simp only [q6y, wd, wa, Int.lt_irrefl, decide_false]
  exact hk h1 x2 sls A l hl3 hnil w g
 | succ m ih =>
  intro i h1 x2 sls A D hi l hl3 hnil w g o e hD
  have c1 : decide ((i : Int) < (lastN s.lv : Int)) = true := decide_eq_true (by omega)
  have e6 : IntKind.i64.wrap ((i : Int) + 1) = ((i + 1 : Nat) : Int) := by rw [IntWalk.i64_in _ (by omega)]; simp
  have hgi : s.lv[i]? = some (s.lv.getD i []) := by rw [List.getD_eq_getElem?_getD, List.getElem?_eq_getElem (by omega)]; rfl
  have hgm : s.lv.getD i [] ∈ s.lv := List.mem_of_getElem? hgi
  have hdi : s.lv.drop i = s.lv.getD i [] :: s.lv.drop (i + 1) := by
   rw [List.drop_eq_getElem_cons (by omega), List.getD_eq_getElem?_getD, List.getElem?_eq_getElem (by omega)]
   rfl
  have hti : (s.lv.take (lastN s.lv)).drop i = s.lv.getD i [] :: (s.lv.take (lastN s.lv)).drop (i + 1) := by
   rw [List.drop_eq_getElem_cons (by rw [List.length_take]; omega), List.getElem_take, List.getD_eq_getElem?_getD, List.getElem?_eq_getElem (by omega)]
   rfl
  rw [hdi, List.flatten_cons] at e
  -- the files of this level
  have hDs : D = D.take (s.lv.getD i []).length ++ D.drop (s.lv.getD i []).length := (List.take_append_drop _ _).symm
  have e1 : (D.take (s.lv.getD i []).length).map (·.2) = s.lv.getD i [] := by rw [List.map_take, e, List.take_left']; rfl
  have e2 : (D.drop (s.lv.getD i []).length).map (·.2) = (s.lv.drop (i + 1)).flatten := by rw [List.map_drop, e, List.drop_left']; rfl
  have hdl : (D.take (s.lv.getD i []).length).length = (s.lv.getD i []).length := by have := congrArg List.length e1; simpa using this
  have hDl : D.length ≤ 1000000 := by
   have h1 := congrArg List.length e
   have h2 := ok.runs
   have h3 : (s.lv.drop i).flatten.length ≤ s.lv.flatten.length := by
    conv => rhs; rw [← List.take_append_drop i s.lv, List.flatten_append, List.length_append]
    omega
   rw [hdi, List.flatten_cons] at h3
   rw [List.length_map] at h1
   omega
  have hrn := ok.lvl i
  generalize hDi : D.take (s.lv.getD i []).length = Di at *
  generalize hDm : D.drop (s.lv.getD i []).length = Dm at *
  have hfl : (Di.flatMap fun p => runB s.bl p.2) = (s.lv.getD i []).flatMap (runB s.bl) := by rw [← e1, List.flatMap_map]
  rw [hti, List.flatMap_cons] at w
  have hw : lvB s.bl (s.lv.getD i []) ++ ((s.lv.take (lastN s.lv)).drop (i + 1)).flatMap (lvB s.bl) = vi (s.lv.getD i []).length ++ ((Di.flatMap fun p => runB s.bl p.2) ++ ((s.lv.take (lastN s.lv)).drop (i + 1)).flatMap (lvB s.bl)) := by
   rw [hfl]
   simp [lvB]
  rw [hw] at w
  rw [q35]
  simp only [q6y, wd, wa, c1]
  refine rdv (by omega) w fun h2 f2 w2 s2 => ?_
  have l2 := l.frame s2 (by simp)
  rw [hDs] at g
  have g2 : Sl w0 h2 1 x2 (Di ++ Dm).length ((Di ++ Dm).map (·.1)) := g.stepL (fun b hb => by have := o b hb; have := l.st.1; omega) s2 (by simp; exact fun b hb e => by have := o b hb; have := l.d4.2; omega)
  rw [← hdl]
  refine ⟨Di.length + 1, q09z (hh := hh) (lvd := s.lv.take i) (sls := sls) (Di := Di) (more := Dm) (rest := ((s.lv.take (lastN s.lv)).drop (i + 1)).flatMap (lvB s.bl)) fh hl3 (by omega) hnum.1 hnum.2.1 (fun p hp => ?_) (by rw [hDs] at hDl; simpa using hDl) (fun h3 x3 vc U ps A3 l3 e3 w3 g3 o3 => ?_) Di [] h2 x2 _ [] [] A rfl l2 rfl w2 g2 o⟩
  ·have hpm : p.2 ∈ s.lv.getD i [] := by rw [← e1]; exact List.mem_map.2 ⟨p, hp, rfl⟩
   refine ⟨hD p (by rw [hDs]; simp [hp]), (ok.rok _ hgm p.2 hpm).1, ?_⟩
   have h2 := qic hgi
   have h3 := q89 entsz hpm
   have h4 := ok.size
   omega
  ·obtain ⟨l4, hl4, hn4⟩ := l3.next hl3 hlv (by omega) hnil (by rw [e3, e1])
   simp only [wd, wa, e6]
   exact ih (i + 1) h3 x3 _ _ Dm (by omega) l4 hl4 hn4 w3 g3 o3 e2 (fun p hp => hD p (by rw [hDs]; simp [hp]))
end
section
variable {w0 : World} {h h' : Hp}
theorem q09w (b f t : Int) : ACalls prog w0 q54 [tierV b f t] h fun r h' =>
  (rightT b f t = true → ∃ q mp M, r = .tuple #[ptr q, .int .i64 0] ∧ h'.blk q = some (numV (newS b.toNat f.toNat t.toNat) ++ mp :: List.replicate 16 (.slice none 0 0)) ∧ Me w0 h' mp [] M ∧ q ∉ M ∧ Step h h' [] (q :: M)) := by
 refine ACalls.of_fit (by simp [tierV]) fun fi => qp8 (by simp [tierV]) ?_
 have fb := fi.base
 simp only [qba]
 refine q1b (e := [.int .i64 b, .int .i64 f, .int .i64 t]) ?_
 have s1 : Step h (h.new [.int .i64 b, .int .i64 f, .int .i64 t] 3) [] [] := ((Step.refl h [] (by simp)).new _ _).less (by simp)
 have b1 : (h.new [.int .i64 b, .int .i64 f, .int .i64 t] 3).blk h.next = some [.int .i64 b, .int .i64 f, .int .i64 t] := by simp
 have l1 : h.next < (h.new [.int .i64 b, .int .i64 f, .int .i64 t] 3).next := by simp
 generalize h.new [.int .i64 b, .int .i64 f, .int .i64 t] 3 = h1 at *
 refine qo fb b1 rfl ?_
 refine qb (qr9 b f t) fun v h2 ⟨e, s2⟩ f2 => ?_
 subst e
 have s12 := s1.trans s2
 cases hr : rightT b f t with
 | false =>
  simp only [wd, wa, qd, qk]
  exact ⟨by simp, by simp⟩
 | true =>
  have hn := (q4e _ _ _).1 hr
  simp only [wd, wa]
  have b2 : h2.blk h.next = some [.int .i64 b, .int .i64 f, .int .i64 t] := by rw [(s2.keep _ l1 (by simp)).1]; exact b1
  refine qo fb b2 rfl ?_
  refine qb qpk fun mp h3 ⟨M, m3, s3⟩ f3 => ?_
  have l2 : h.next < h2.next := Nat.lt_of_lt_of_le l1 s2.1
  have b3 : h3.blk h.next = some [.int .i64 b, .int .i64 f, .int .i64 t] := by rw [(s3.keep _ l2 (by simp)).1]; exact b2
  simp only [q0c, q0a, q7k]
  refine ⟨qo fb b3 rfl rfl, ?_⟩
  have hmc := m3.isC
  have hML := m3.lt
  simp only [q01]
  rw [q41]
  refine ⟨rfl, by simp, ?_⟩
  rw [qw]
  refine ⟨hmc, by simp [splice], ?_⟩
  rw [qu]
  simp only [wd, wa]
  have hb2 : ((b.toNat : Nat) : Int) = b := by omega
  have hf2 : ((f.toNat : Nat) : Int) = f := by omega
  have ht2 : ((t.toNat : Nat) : Int) = t := by omega
  have hcs : ([.int .i64 b, .int .i64 f, .int .i64 t, mp] ++ List.replicate 16 (.slice none 0 0) : List Value) = numV (newS b.toNat f.toNat t.toNat) ++ mp :: List.replicate 16 (.slice none 0 0) := by
   simp [numV, newS, hb2, hf2, ht2]
  show boxA true 20 (.agg ([.int .i64 b, .int .i64 f, .int .i64 t, mp] ++ List.replicate 16 (.slice none 0 0) : List Value).toArray) _ _
  rw [hcs]
  refine q1b ?_
  have s4 : Step h3 (h3.new (numV (newS b.toNat f.toNat t.toNat) ++ mp :: List.replicate 16 (.slice none 0 0)) 20) [] [h3.next] := (Step.refl h3 [] (by simp)).new _ _
  have b4 : (h3.new (numV (newS b.toNat f.toNat t.toNat) ++ mp :: List.replicate 16 (.slice none 0 0)) 20).blk h3.next = some (numV (newS b.toNat f.toNat t.toNat) ++ mp :: List.replicate 16 (.slice none 0 0)) := by simp
  have n4 : h3.next < (h3.new (numV (newS b.toNat f.toNat t.toNat) ++ mp :: List.replicate 16 (.slice none 0 0)) 20).next := by simp
  generalize h3.new (numV (newS b.toNat f.toNat t.toNat) ++ mp :: List.replicate 16 (.slice none 0 0)) 20 = h4 at *
  simp only [wd, wa, qd, qk]
  refine ⟨by simp, fun _ => ⟨h3.next, mp, M, rfl, b4, m3.frame s4 (by simp), fun q => by have := (hML _ q).2; omega, ?_⟩⟩
  have s13 : Step h h3 [] M := s12.trans s3
  exact (s13.trans (s4.more M (fun b hb => (hML b hb).2))).weaken (fun b hb => by simp at hb) (fun b hb => .inl (by simpa using hb))
theorem q07c {k0 : Value → Value → Value → Value → Hp → Prop} {kr : Value → Value → Value → Value → Hp → Prop} {x0 x2 x6 v : Value} {rp : Nat} {ns : List Nat} {rest : List UInt8} {hh : Hp} (hl : ns.length ≤ 1000) (hns : ∀ n, n ∈ ns → n < 18446744073709551616)
  (hk : ∀ h1, Step hh h1 [rp] [rp] → Rd w0 h1 rp ⟨rest, 0⟩ → k0 x0 (ptr rp) x2 x6 h1) : ∀ (post pre : List Nat) (h1 : Hp), pre ++ post = ns → Step hh h1 [rp] [rp] → Sl w0 h1 1 v ns.length (inV ns) → Off h1 v [rp] → Rd w0 h1 rp ⟨post.flatMap vi ++ rest, 0⟩ →
   q38 prog w0 k0 kr (post.length + 1) x0 (ptr rp) x2 x6 v (.int .i64 (ns.length : Int)) (.int .i64 (pre.length : Int)) h1 := by
 intro post
 induction post with
 | nil =>
  intro pre h1 he st g o w
  have hpre : pre = ns := by simpa using he
  subst hpre
  rw [List.length_nil, q38]
  simp only [qa4, wd, wa, Int.lt_irrefl, decide_false]
  exact hk h1 st w
 | cons z post ih =>
  intro pre h1 he st g o w
  have hlen : pre.length + (post.length + 1) = ns.length := by rw [← he]; simp
  have hg : ns[pre.length]? = some z := by rw [← he]; simp
  have hzm : z ∈ ns := by rw [← he]; simp
  have c1 : decide ((pre.length : Int) < (ns.length : Int)) = true := decide_eq_true (by omega)
  have e6 : IntKind.i64.wrap ((pre.length : Int) + 1) = (((pre ++ [z]).length : Nat) : Int) := by rw [IntWalk.i64_in _ (by omega)]; simp
  rw [List.flatMap_cons, List.append_assoc] at w
  rw [List.length_cons, q38]
  simp only [qa4, wd, wa, c1]
  refine g.one (q4o hg) ?_
  refine rdv (hns z hzm) w fun h2 f2 w2 s2 => ?_
  have e8 : IntKind.u64.wrap (z : Int) = (z : Int) := q0u rfl (hns z hzm)
  have c4 : ((z : Int) != (z : Int)) = false := by simp
  simp only [wd, wa, e8, c4, e6]
  exact ih (pre ++ [z]) h2 (by simpa using he) (st.trans s2) (o.sl g s2) (o.step s2) w2
theorem q08b {q rp : Nat} {mp v : Value} {M : List Nat} {s : LS} {W : Nat} {D : List (Value × List Ent)} {hh : Hp} (fh : Fit w0 hh) (ok : LOk s W) (hW : W ≤ 1048576) (l : LI w0 hh q rp mp M s (List.replicate 16 (.slice none 0 0)) [] 0 h (.slice none 0 0) [] [] []) (w : Rd w0 h rp ⟨manB s, 0⟩)
  (g : Sl w0 h 1 v D.length (D.map (·.1))) (o : ∀ b, b ∈ sblk v → b < hh.next) (e : D.map (·.2) = s.lv.flatten) (hD : ∀ p : Value × List Ent, p ∈ D → ∃ U, Vec w0 hh 1 p.1 (bldR (s.bl : Int) p.2).length (bvs (bldR (s.bl : Int) p.2)) U) :
  ACalls prog w0 qe8 [ptr q, ptr rp, v] h fun r h' => r = .bool true ∧ ∃ S' A', Lv w0 h' (ptr q) { s with mem := [] } S' A' ∧ (∀ b, b ∈ S' ++ A' → hh.next ≤ b) ∧ Step hh h' [] [] := by
 refine ACalls.of_fit (by simp [ptr, g.junk]) fun f => qxf (by simp [ptr, g.junk]) ?_
 have hnum := ok.num
 have hlv := ok.len
 have hla := q4n s.lv
 have hrl : (runsL s.lv).length = lastN s.lv := by unfold runsL; rw [List.length_take, List.length_map, hlv]; omega
 have hmB : manB s = [s.bl, s.fan, s.top].flatMap vi ++ (vi (lastN s.lv) ++ (s.lv.take (lastN s.lv)).flatMap (lvB s.bl)) := by
  unfold manB
  rw [hrl]
  simp [List.append_assoc]
 rw [hmB] at w
 have wq : w0.heap.size ≤ q := Nat.le_trans fh.base l.geq.1
 have bq : h.blk q = some (numV s ++ mp :: List.replicate 16 (.slice none 0 0)) := l.bq
 simp only [qa8, ptr, wd, wa]
 refine qc wq bq rfl ?_
 refine qc wq bq rfl ?_
 refine qc wq bq rfl ?_
 simp only [q1a, qw, qu, show zerosL [(.int .i64 0 : Value)] 3 = [.int .i64 0, .int .i64 0, .int .i64 0] from rfl, List.set_cons_zero, List.set_cons_succ, wd, wa]
 refine ⟨rfl, by simp, rfl, by simp, rfl, by simp, ?_⟩
 have s4 : Step h (h.new (inV [s.bl, s.fan, s.top]) 1) [] [h.next] := (Step.refl h [] (by simp)).new _ _
 have g4 : Sl w0 (h.new (inV [s.bl, s.fan, s.top]) 1) 1 (.slice (some ⟨h.next, 0, none⟩) 3 3) 3 (inV [s.bl, s.fan, s.top]) := ⟨_, _, rfl, q1t f.base rfl, rfl, .inl ⟨by decide, Nat.le_refl _⟩⟩
 have n4 : (h.new (inV [s.bl, s.fan, s.top]) 1).next = h.next + 1 := rfl
 show qe2 _ _ _ _ _ _ _ _ _ _ _ (h.new (inV [s.bl, s.fan, s.top]) 1)
 have w4 := w.frame s4 (by simp)
 have l4 := l.frame s4 (by simp)
 have gx4 : Sl w0 (h.new (inV [s.bl, s.fan, s.top]) 1) 1 v D.length (D.map (·.1)) := g.stepL (fun b hb => by have := o b hb; have := l.st.1; omega) s4 (by simp)
 have hrp : rp < h.next := w.2.2.1
 generalize h.new (inV [s.bl, s.fan, s.top]) 1 = h4 at *
 have o4 : Off h4 (.slice (some ⟨h.next, 0, none⟩) 3 3) [rp] := fun b hb => by
  simp [sblk] at hb
  subst hb
  exact ⟨by omega, by simp; omega⟩
 refine ⟨3 + 1, q07c (hh := h4) (rp := rp) (ns := [s.bl, s.fan, s.top]) (by simp) (fun n hn => ?_) (fun h5 s5 w5 => ?_) [s.bl, s.fan, s.top] [] h4 rfl w4.refl g4 o4 w4⟩
 ·simp at hn
  rcases hn with rfl | rfl | rfl <;> omega
 ·have l5 := l4.frame s5 (by simp)
  have gx5 : Sl w0 h5 1 v D.length (D.map (·.1)) := gx4.stepL (fun b hb => by have := o b hb; have := l4.st.1; omega) s5 (by simp; exact fun b hb e => by have := o b hb; have := l.d4.2; omega)
  refine rdv (by omega) w5 fun h6 f6 w6 s6 => ?_
  have l6 := l5.frame s6 (by simp)
  have gx6 : Sl w0 h6 1 v D.length (D.map (·.1)) := gx5.stepL (fun b hb => by have := o b hb; have := l5.st.1; omega) s6 (by simp; exact fun b hb e => by have := o b hb; have := l.d4.2; omega)
  have c1 : decide ((16 : Int) < (lastN s.lv : Int)) = false := decide_eq_false (by omega)
  have e8 : IntKind.i64.wrap (lastN s.lv : Int) = (lastN s.lv : Int) := IntWalk.i64_in _ (by omega)
  simp only [wd, wa, c1, e8]
  refine ⟨lastN s.lv + 1, q09r (hh := hh) (q := q) (mp := mp) (M := M) fh ok hW (fun h7 x2 sls A l7 hl7 hn7 w7 g7 => ?_) (lastN s.lv) 0 h6 v (List.replicate 16 (.slice none 0 0)) [] D (by omega) l6 (by simp) (fun j _ hj => by rw [List.getElem?_replicate, if_pos hj]) w6 gx6 o e hD⟩
  refine qb (q039 w7) fun u h8 ⟨e8, e8'⟩ f8 => ?_
  subst e8
  subst h8
  have c2 : (⟨[], 0⟩ : RS).done = 0 := rfl
  have c3 : ((0 : Int) == 0) = true := rfl
  have c4 : (((0 : Nat) : Int) == 0) = true := rfl
  simp only [c2, c3, g7.lenv, c4, wd, wa, qd, qh]
  obtain ⟨a1, a2, a3, a4, a5, a6, a7, a8, a9, b1, b2, b3, b4⟩ := l7
  refine ⟨by simp, trivial, q :: M, A, ⟨q, mp, M, sls.set (lastN s.lv) (.slice none 0 0), rfl, a2, by simpa using hl7, a3, rfl, b1.1, wq, a8.2.1, fun b hb => (a7 b hb).2, fun b hb => ?_, hlv, fun j u hj => ?_⟩, fun b hb => ?_, a1⟩
  ·rcases List.mem_cons.1 hb with r | r
   ·rw [r]; exact b1.2.2.1
   ·exact (b2 b r).2.1
  ·show Lvl w0 h7 A s.bl u (s.lv.getD j [])
   by_cases hjl : j = lastN s.lv
   ·have hj16 : j < 16 := by have := (List.getElem?_eq_some_iff.1 hj).1; rw [List.length_set] at this; omega
    rw [hjl, List.getElem?_set_self (by omega)] at hj
    cases hj
    rw [qbo s.lv j (by omega)]
    exact .nil _ _
   ·rw [List.getElem?_set_ne (fun e => hjl e.symm)] at hj
    have := a6 j u hjl hj
    rw [qh5] at this
    by_cases hlt : j < lastN s.lv
    ·rw [if_pos hlt] at this
     exact this
    ·rw [if_neg hlt] at this
     rw [qbo s.lv j (by omega)]
     exact this
  ·simp only [List.cons_append, List.mem_cons, List.mem_append] at hb
   rcases hb with r | r | r
   ·rw [r]; exact a8.1
   ·exact a8.2.2 b r
   ·exact (a7 b r).1
theorem q087 {vm v : Value} {s : LS} {W : Nat} {D : List (Value × List Ent)} {Sm : List Nat} (ok : LOk s W) (hW : W ≤ 1048576) (hman : (manB s).length ≤ 1048576) (gm : GV w0 h 1 vm (frame 77 (manB s)).length (bvs (frame 77 (manB s))) Sm) (g : Sl w0 h 1 v D.length (D.map (·.1))) (o : ∀ b, b ∈ sblk v → b < h.next)
  (e : D.map (·.2) = s.lv.flatten) (hD : ∀ p : Value × List Ent, p ∈ D → ∃ U, Vec w0 h 1 p.1 (bldR (s.bl : Int) p.2).length (bvs (bldR (s.bl : Int) p.2)) U) :
  ACalls prog w0 qg2 [tierV (s.bl : Int) (s.fan : Int) (s.top : Int), vm, v] h fun r h' => ∃ p S' A', r = .tuple #[p, .int .i64 0] ∧ Lv w0 h' p { s with mem := [] } S' A' ∧ Step h h' [] (S' ++ A') := by
 refine ACalls.of_fit (by simp [tierV, gm.nj, g.junk]) fun f => q00t (by simp [tierV, gm.nj, g.junk]) ?_
 have hnum := ok.num
 have hright := ok.right
 have fb := f.base
 simp only [qg8, tierV]
 refine q1b (e := [.int .i64 (s.bl : Int), .int .i64 (s.fan : Int), .int .i64 (s.top : Int)]) ?_
 have s1 : Step h (h.new [.int .i64 (s.bl : Int), .int .i64 (s.fan : Int), .int .i64 (s.top : Int)] 3) [] [] := ((Step.refl h [] (by simp)).new _ _).less (by simp)
 have b1 : (h.new [.int .i64 (s.bl : Int), .int .i64 (s.fan : Int), .int .i64 (s.top : Int)] 3).blk h.next = some [.int .i64 (s.bl : Int), .int .i64 (s.fan : Int), .int .i64 (s.top : Int)] := by simp
 generalize h.new [.int .i64 (s.bl : Int), .int .i64 (s.fan : Int), .int .i64 (s.top : Int)] 3 = h1 at *
 refine qo fb b1 rfl ?_
 refine qb (q09w (s.bl : Int) (s.fan : Int) (s.top : Int)) fun r h2 hr f2 => ?_
 obtain ⟨q, mp, M, e2, bq, mm, hqM, s2⟩ := hr hright
 subst e2
 have hnn : numV (newS (s.bl : Int).toNat (s.fan : Int).toNat (s.top : Int).toNat) = numV s := by simp [numV, newS]
 rw [hnn] at bq
 have c0 : ((0 : Int) != 0) = false := rfl
 simp only [c0, wd, wa]
 have st2 : Step h h2 [] [] := s1.trans (s2.less (by simp))
 have gm2 := gm.frame st2 (by simp)
 refine GV.b2s (s := 1) gm2 ?_
 have hfl : (frame 77 (manB s)).length = (manB s).length + 12 := by simp [frame, frame0]; omega
 have hunf := q055 77 (by omega) (manB s) [] hman
 rw [List.append_nil] at hunf
 refine qb (q00u (frame 77 (manB s)) (by omega)) fun r h3 ⟨e3, s3⟩ f3 => ?_
 rw [hunf] at e3
 subst e3
 have gm3 := gm2.frame s3 (by simp)
 have c1 : (((77 : Nat) : Int) != 77) = false := rfl
 have c2 : (((12 + (manB s).length : Nat) : Int) != ((frame 77 (manB s)).length : Int)) = false := by rw [hfl]; simp; omega
 simp only [unfV, c0, c1, gm3.sl.lenv, c2, wd, wa]
 refine qb (q7b (manB s) (by omega)) fun r h4 ⟨e4, w4, s4⟩ f4 => ?_
 subst e4
 have hq := s2.own q (by simp)
 have hM : ∀ b, b ∈ M → h1.next ≤ b ∧ b < h2.next := fun b hb => by
  have := s2.own b (by simp [hb])
  refine ⟨?_, this.1⟩
  rcases this.2 with r | r
  ·simp at r
  ·exact r
 have hq1 : h1.next ≤ q := by
  rcases hq.2 with r | r
  ·simp at r
  ·exact r
 have n1 := s1.1
 have n3 := s3.1
 have n4 : h3.next < h4.next := (s4.own h3.next (by simp)).1
 have s24 : Step h2 h4 [] [] := s3.trans (s4.less (by simp))
 have st4 : Step h h4 [] [] := st2.trans s24
 have l : LI w0 h q h3.next mp M s (List.replicate 16 (.slice none 0 0)) [] 0 h4 (.slice none 0 0) [] [] [] :=
  ⟨st4, by rw [(s24.keep q hq.1 (by simp)).1, bq]; rfl, mm.frame s24 (by simp), .nil, by simp, fun j u hj hu => by
   have hv := List.eq_of_mem_replicate (List.mem_of_getElem? hu)
   subst hv
   exact .nil _ _, by simp, ⟨by omega, by omega, fun b hb => by have := hM b hb; omega⟩, by simp, ⟨hqM, by simp, by simp, by omega⟩, fun b hb => ⟨by simp, by simp, by have := hM b hb; omega⟩, by simp, ⟨by simp, by omega⟩⟩
 have g4 : Sl w0 h4 1 v D.length (D.map (·.1)) := g.stepL o st4 (by simp)
 refine qb (q08b (hh := h) f ok hW l w4 g4 o e hD) fun r h5 ⟨e5, S', A', m5, hge, st5⟩ f5 => ?_
 subst e5
 simp only [wd, wa]
 have gm5 := gm.frame st5 (by simp)
 refine GV.b2s (s := 1) gm5 ?_
 have ok' : LOk { s with mem := [] } W := ⟨ok.right, ok.len, .nil, by simp, by show 0 < s.top; omega, ok.rok, by
  have := ok.size
  show entsz [] + (s.lv.flatten.map entsz).sum ≤ W
  have h0 : entsz [] = 0 := rfl
  omega⟩
 have hm' : manB { s with mem := [] } = manB s := rfl
 refine qb (qpb m5 ok' hW (by rw [hm']; exact hman)) fun u h6 ⟨S6, g6, s6⟩ f6 => ?_
 rw [hm'] at g6
 have gm6 := gm5.frame s6 (by simp)
 simp only [q0c, q0a, q02y]
 refine ⟨GV.b2s (s := 1) gm6 rfl, ?_⟩
 refine g6.b2s ?_
 simp only [q5o, ne_eq, not_true, decide_false, wd, wa, qd, qk]
 have n6 := s6.1
 refine ⟨by simp, ptr q, S', A', rfl, m5.step0 s6, ?_⟩
 refine (st5.trans (s6.less (by simp))).claim fun b hb => ⟨?_, hge b hb⟩
 rcases List.mem_append.1 hb with r | r
 ·have := (m5.lt b r).2; omega
 ·have := m5.ltA b r; omega
end
def pe (x : Ent) : List Value := [.string (str x.k), .string (str x.v)]
theorem q08k (l : List Ent) : rng [] [] l = l := by
 unfold rng
 rw [List.filter_eq_self]
 intro x hx
 have : blt x.k [] = false := by
  cases x.k <;> rfl
 simp [inR, this]
theorem nePair (w0 : World) (x : Ent) : eqStA prog .neq 85 (.agg (pe x).toArray) (.agg (pe x).toArray) = fun K => K (.bool false) := by
 have hS : prog.underlying 85 = some (.struct (prog.fieldsOf 85)) := by kernel_rfl
 have hp : prog.stoodInHeld 85 = false := by kernel_rfl
 have key : ∀ w, (binOp .neq 85 (.agg (pe x).toArray) (.agg (pe x).toArray)).run prog w = .ok (.bool false) w := by
  obtain ⟨k, v, g⟩ := x
  intro w
  rw [run_neq_struct, show (10000 : Nat) = 9999 + 1 from rfl, run_equalIn_agg w 9999 85 _ _ hS hp]
  simp only [Program.fieldsOf, Tryz.underlying85, pe]
  go_simp
 funext K h
 refine propext ⟨?_, fun hk => ?_⟩
 ·rintro ⟨xs, ys, q, e1, e2, -, -, e3, -, hk⟩
  cases e1
  cases e2
  have := (e3 w0).symm.trans (key w0)
  simp at this
  subst this
  exact hk
 ·refine ⟨_, _, _, rfl, rfl, fun v hv => ?_, fun v hv => ?_, key, fun w => run_eqGuard_agg w _ _ _ _ _ _ (by kernel_rfl), hk⟩
  all_goals
   simp [pe] at hv
   rcases hv with rfl | rfl <;> rfl
section
variable {w0 : World} {h h' : Hp}
theorem qth {l : List Ent} {i : Nat} {x : Ent} (h : l[i]? = some x) : ((l.flatMap pe).drop (i * 2)).take 2 = pe x := qg7 (e := pe) (s := 2) (fun _ => rfl) l i x h
theorem q03x {k0 kr : Value → Hp → Prop} {a b x4 : Value} {l : List Ent} (ha : Sl w0 h 2 a l.length (l.flatMap pe)) (hb : Sl w0 h 2 b l.length (l.flatMap pe)) (hl : l.length ≤ 1000000000) (h0 : k0 x4 h) : ∀ (post pre : List Ent), pre ++ post = l →
   q2u prog w0 k0 kr (post.length + 1) a b x4 (.int .i64 (l.length : Int)) (.int .i64 (pre.length : Int)) h := by
 intro post
 induction post with
 | nil =>
  intro pre he
  have hpre : pre = l := by simpa using he
  subst hpre
  rw [List.length_nil, q2u]
  simp only [q9k, wd, wa, Int.lt_irrefl, decide_false]
  exact h0
 | cons z post ih =>
  intro pre he
  have hlen : pre.length + (post.length + 1) = l.length := by rw [← he]; simp
  have hg : l[pre.length]? = some z := by rw [← he]; simp
  have c1 : decide ((pre.length : Int) < (l.length : Int)) = true := decide_eq_true (by omega)
  have e6 : IntKind.i64.wrap ((pre.length : Int) + 1) = (((pre ++ [z]).length : Nat) : Int) := by rw [IntWalk.i64_in _ (by omega)]; simp
  rw [List.length_cons, q2u]
  simp only [q9k, wd, wa, c1]
  refine ha.elem (by omega) (qth hg) ?_
  refine hb.elem (by omega) (qth hg) ?_
  rw [nePair w0 z]
  simp only [wd, wa, e6]
  exact ih (pre ++ [z]) (by simpa using he)
theorem qpo {a b : Value} {l : List Ent} (ha : Sl w0 h 2 a l.length (l.flatMap pe)) (hb : Sl w0 h 2 b l.length (l.flatMap pe)) (hl : l.length ≤ 1000000000) :
  ACalls prog w0 q1g [a, b] h fun r h' => r = .bool true ∧ h' = h := by
 refine ACalls.of_fit (by simp [ha.junk, hb.junk]) fun f => qwm (by simp [ha.junk, hb.junk]) ?_
 have c1 : ((l.length : Int) != (l.length : Int)) = false := by simp
 simp only [q9m, ha.lenv, hb.lenv, c1, wd, wa]
 refine ⟨l.length + 1, q03x ha hb hl ?_ l [] rfl⟩
 simp only [qd, qh]
 exact ⟨by simp, trivial, trivial⟩
def TI (w0 : World) (B q : Nat) (l : List Ent) (i : Nat) (h1 : Hp) (S1 : List Nat) : Prop :=
 ∃ x S', S1 = q :: S' ∧ h1.blk q = some [x] ∧ Vec w0 h1 2 x (l.take i).length ((l.take i).flatMap pe) S' ∧ q ∉ S' ∧ B ≤ h1.next
theorem q094 {B q i : Nat} {l : List Ent} (hq : q < B) : KeepC w0 0 B (TI w0 B q l i) := by
 refine ⟨fun h lp S _ c => c, fun h h' S T T' f ⟨x, S', e, b, v, hqs, n⟩ st hd hB => ?_, fun h S ⟨x, S', e, b, v, hqs, n⟩ c hc => ?_⟩
 ·subst e
  exact ⟨x, S', rfl, by rw [(st.keep q (by omega) (hd q (by simp))).1]; exact b, v.frame st (fun c hc => hd c (by simp [hc])), hqs, Nat.le_trans n st.1⟩
 ·subst e
  rcases List.mem_cons.1 hc with rfl | hc
  ·omega
  ·exact (v.lt c hc).2
theorem q05v {K0 : Hp → Prop} {fv : Value} {q : Nat} {l : List Ent} {T : List Nat} (f : Fit w0 h) (hq : w0.heap.size ≤ q) (hb : h.blk q = some [.slice none 0 0]) (hl : l.length ≤ 1000000000) (hqT : q ∉ T)
  (hit : ∀ g, ItC prog w0 fv (h.newLp g) T (pV l)) (hk : ∀ h3 x S', Fit w0 h3 → YStep 0 h h3 [q] (q :: S') → h3.blk q = some [x] → Vec w0 h3 2 x l.length (l.flatMap pe) S' → K0 h3) :
  rangeA prog w0 fv 2 (fun b g args K => qn2 prog w0 b g K (ptr q) (args.getD 0 undef) (args.tail.getD 0 undef)) K0 [] h := by
 have lq := f.lt _ _ hb
 refine q04w (xs := pV l) (T := T) 0 (Nat.zero_le _) f hit (fun b g x K => loadA w0 (ptr q) fun v10_3 => buildA [(0, 1, false, x.getD 0 undef), (1, 1, false, x.tail.getD 0 undef)] [.string .empty, .string .empty] fun v13_4 => bslA [(0, 2, true, v13_4)] (zerosL [.string .empty, .string .empty] 1) 1 2 fun v14_5 => appA w0 2 32 v10_3 v14_5 fun v15_6 => storeA w0 (ptr q) v15_6 fun _ => endR b g none K)
  (fun b g x K => rfl) [q] (TI w0 h.next q l) (fun _ _ _ => False) (fun i => q094 lq) (fun o => ⟨fun _ _ _ _ c => c, fun _ _ _ _ _ _ c => c.elim, fun _ _ c => c.elim⟩)
  ⟨_, [], rfl, hb, .nil, by simp, Nat.le_refl _⟩ (fun b hb hbT => by simp at hb; subst hb; exact hqT hbT) ?_ ?_ ?_ ?_
 ·intro y hy
  obtain ⟨x, hx, rfl⟩ := List.mem_map.1 hy
  exact ⟨rfl, by simp⟩
 ·rintro i y h1 S1 g1 K hi f1 ⟨x, S', e, b, v, hqs, n⟩ lb _ ends exits
  subst e
  unfold pV at hi
  rw [List.getElem?_map] at hi
  obtain ⟨z, hz, rfl⟩ := Option.map_eq_some_iff.1 hi
  have hil := (List.getElem?_eq_some_iff.1 hz).1
  have hti : (l.take i).length = i := by rw [List.length_take]; omega
  have ht1 : l.take (i + 1) = l.take i ++ [z] := by rw [List.take_add_one, hz]; rfl
  simp only [List.getD_cons_zero, List.tail_cons]
  have fb := f1.base
  simp only [ptr]
  refine qc hq b rfl ?_
  simp only [q01, qw, qu, List.set_cons_zero, List.set_cons_succ]
  refine ⟨rfl, by simp, rfl, by simp, ?_⟩
  have lq1 : q < h1.next := by omega
  refine q2d (e := pe z) fb v.gv rfl rfl (by omega) (by omega) (by omega) fun x' h2 S2 g2 s2 => ?_
  have hS' : ∀ b, b ∈ S' → b < h1.next := fun b hb => (v.lt b hb).2
  have b2 : h2.blk q = some [x] := by rw [(s2.keep q lq1 hqs).1]; exact b
  have hq2 : q ∉ S2 := fun e => by
   rcases (s2.own _ e).2 with r | r
   ·exact hqs r
   ·omega
  have hxc : isCell x' = true := by obtain ⟨a, c, e⟩ := g2.slice; rw [e]; rfl
  refine qz hq b2 (by simp) hxc ?_
  simp only [List.set_cons_zero]
  have s3 : Step h1 (h2.put q [x']) (q :: S') (q :: S2) := (s2.consR lq1).put (by simp) _
  have sp : Step h2 (h2.put q [x']) [q] [q] := (Step.refl h2 [q] (by simp; have := s2.1; omega)).put (by simp) _
  refine ends _ _ (s3.y 0) ⟨x', S2, rfl, by simp, ?_, hq2, by have := s3.1; omega⟩
  have g3 : Vec w0 (h2.put q [x']) 2 x' _ _ S2 := g2.frame sp (by simpa using fun b hb (e : b = q) => hq2 (by rw [← e]; exact hb))
  rw [hti] at g3
  rw [ht1, List.length_append, hti, List.flatMap_append]
  simpa using g3
 ·rintro h3 S2 f3 ys ⟨x, S', e, b, v, hqs, n⟩
  subst e
  have : (pV l).length = l.length := by simp [pV]
  rw [this, List.take_of_length_le (Nat.le_refl _)] at v
  exact hk h3 x S' f3 ys b v
 ·rintro o h3 S2 f3 ys c
  exact c.elim
theorem Lv.y {r : Value} {s : LS} {S A : List Nat} (m : Lv w0 h r s S A) {N : Nat} (ys : YStep N h h' [] []) : Lv w0 h' r s S A := (m.frame ys.step (by simp) (by simp) : Lv w0 (h'.as h) r s S A)
theorem qhv {s : LS} {W : Nat} (ok : LOk s W) (hW : W ≤ 1048576) : s.view.length ≤ 1048576 := by
 have h2 := q4i (overs s.lists)
 have h3 := q7r s.lists
 have h4 := ok.size
 have h5 : (s.lists.map entsz).sum ≤ W := by simpa [LS.lists] using h4
 have h6 : s.view.length ≤ (overs s.lists).length := List.length_filter_le _ _
 omega
theorem qbr {r : Value} {s : LS} {S A : List Nat} {W : Nat} (m : Lv w0 h r s S A) (ok : LOk s W) (hW : W ≤ 1048576) :
  ACalls prog w0 q0k [r] h fun v h' => ∃ S', Vec w0 h' 2 v s.view.length (s.view.flatMap pe) S' ∧ Step h h' [] S' := by
 have hvl := qhv ok hW
 refine ACalls.of_fit (by simpa using m.nj) fun f => qxy (by simpa using m.nj) ?_
 have fb := f.base
 simp only [qf2, q07]
 refine ⟨by simp [isCell], ?_⟩
 have s1 : Step h (h.new [.slice none 0 0] 1) [] [h.next] := (Step.refl h [] (by simp)).new _ _
 have b1 : (h.new [.slice none 0 0] 1).blk h.next = some [.slice none 0 0] := by simp
 have f1 : Fit w0 (h.new [.slice none 0 0] 1) := f.new (by simp [isCell])
 have n1 : (h.new [.slice none 0 0] 1).next = h.next + 1 := rfl
 have m1 := m.step0 s1
 show callA _ _ _ _ _ (h.new [.slice none 0 0] 1)
 generalize h.new [.slice none 0 0] 1 = h1 at *
 have em : ByteArray.empty = str ([] : Key) := rfl
 rw [em]
 refine qb (qpq r m1.nj m1.isC [] []) fun u h2 ⟨t1, t2, t3, e, d1, d2, d3, d4, d5, d6, d7, d8, d9, s2⟩ f2 => ?_
 subst e
 have n2 := s2.1
 have m2 := m1.step0 s2
 have b2 : h2.blk h.next = some [.slice none 0 0] := by rw [(s2.keep _ (by omega) (by simp)).1]; exact b1
 refine q05v (l := s.view) (T := []) f2 fb b2 (by omega) (by simp) (fun g => ?_) fun h3 x S' f3 ys b3 g3 => ?_
 ·have yl := (YStep.refl 0 h2 [] (by simp)).newLp g
  have := q06y (hh := h2.newLp g) (T := []) (a := []) (b := []) (by rw [q4l]; exact d1) (by rw [q4l]; exact d2) (by rw [q4l]; exact d3) (by omega) (by omega) (by omega) (m2.y yl) ok hW
  rw [q08k] at this
  exact this
 ·refine qc fb b3 rfl ?_
  unfold cutA
  simp only [qd, qh]
  have y03 : YStep 0 h h3 [] S' := ((((s1.trans (s2.wide (T := [h.next]) (T' := [h.next]) (by simp) (fun b hb => .inr ⟨hb, by simp at hb; omega⟩))).y 0).trans ys)).less (fun b hb => by simp [hb])
  exact ⟨by obtain ⟨a, c, e⟩ := g3.slice; rw [e]; simp [junk], S', g3, y03.cut⟩
end
end Go.Proofs.YtfmoemconapmhaaGreat.Ah
