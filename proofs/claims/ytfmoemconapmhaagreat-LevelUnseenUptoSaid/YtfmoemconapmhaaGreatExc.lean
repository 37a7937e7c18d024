/- Blocks: the program's: its variables, its closure. -/
import Derived.Test.YtfmoemconapmhaaGreatExb
import Derived.Test.YtfmoemconapmhaaGreatExa
import Derived.Test.YtfmoemconapmhaaGreatKxb
set_option linter.unusedVariables false
set_option linter.unusedSimpArgs false
set_option linter.constructorNameAsVariable false
namespace Go.Proofs.YtfmoemconapmhaaGreat.Ah
open Go
abbrev Spn := Key × Nat × Nat
def se (p : Spn) : List Value := [.string (str p.1), .int .i64 (p.2.1 : Int), .int .i64 (p.2.2 : Int)]
theorem qio (p : Spn) : (se p).length = 3 := rfl
def spn (a : Nat) : List (List Ent) → List Spn
 | [] => []
 | es :: D => (fkey es, a, (enc es).length) :: spn (a + (enc es).length + 4) D
theorem qqd : ∀ (G H : List (List Ent)) (a : Nat), spn a (G ++ H) = spn a G ++ spn (a + (outB G).length) H
 | [], H, a => by simp [spn, outB]
 | es :: G, H, a => by
  rw [List.cons_append, spn, spn, qqd G H]
  have : (outB (es :: G)).length = (enc es).length + 4 + (outB G).length := by
   rw [show es :: G = [es] ++ G from rfl, q3x, List.length_append, q53]
  rw [this, show a + ((enc es).length + 4 + (outB G).length) = a + (enc es).length + 4 + (outB G).length by omega]
  rfl
theorem q5j (a : Nat) (G : List (List Ent)) : (spn a G).length = G.length := by
 induction G generalizing a with
 | nil => rfl
 | cons g G ih => simp [spn, ih]
section
variable {w0 : World} {h h' : Hp} {q6 q7 q8 q9 : Nat}
structure BLx (w0 : World) (h : Hp) (q6 q7 q8 q9 : Nat) (ob nb : List UInt8) (sl : List Spn) (ak : Key) (vo vn vs : Value) (So Sn Ss : List Nat) : Prop where
 b6 : h.blk q6 = some [vo]
 b7 : h.blk q7 = some [vn]
 b8 : h.blk q8 = some [vs]
 b9 : h.blk q9 = some [.string (str ak)]
 w : ∀ q, q ∈ [q6, q7, q8, q9] → w0.heap.size ≤ q ∧ q < h.next
 ne : q6 ≠ q7 ∧ q6 ≠ q8 ∧ q6 ≠ q9 ∧ q7 ≠ q8 ∧ q7 ≠ q9 ∧ q8 ≠ q9
 go : Vec w0 h 1 vo ob.length (bvs ob) So
 gn : Vec w0 h 1 vn nb.length (bvs nb) Sn
 gs : Vec w0 h 3 vs sl.length (sl.flatMap se) Ss
 d1 : ∀ b, b ∈ Sn → b ∉ So
 d2 : ∀ b, b ∈ Ss → b ∉ So
 d3 : ∀ b, b ∈ Ss → b ∉ Sn
 dc : ∀ q, q ∈ [q6, q7, q8, q9] → q ∉ So ∧ q ∉ Sn ∧ q ∉ Ss
abbrev allS (q6 q7 q8 q9 : Nat) (So Sn Ss : List Nat) : List Nat := [q6, q7, q8, q9] ++ (So ++ (Sn ++ Ss))
variable {ob nb : List UInt8} {sl : List Spn} {ak : Key} {vo vn vs : Value} {So Sn Ss : List Nat}
theorem BLx.lts (x : BLx w0 h q6 q7 q8 q9 ob nb sl ak vo vn vs So Sn Ss) : ∀ b, b ∈ allS q6 q7 q8 q9 So Sn Ss → b < h.next := by
 intro b hb
 rcases List.mem_append.1 hb with e | e
 ·exact (x.w b e).2
 ·rcases List.mem_append.1 e with e | e
  ·exact (x.go.lt b e).2
  ·rcases List.mem_append.1 e with e | e
   ·exact (x.gn.lt b e).2
   ·exact (x.gs.lt b e).2
theorem BLx.frame (x : BLx w0 h q6 q7 q8 q9 ob nb sl ak vo vn vs So Sn Ss) {T T' : List Nat} (st : Step h h' T T') (hd : ∀ b, b ∈ allS q6 q7 q8 q9 So Sn Ss → b ∉ T) : BLx w0 h' q6 q7 q8 q9 ob nb sl ak vo vn vs So Sn Ss := by
 have k : ∀ q, q ∈ [q6, q7, q8, q9] → h'.blk q = h.blk q := fun q hq => (st.keep q (x.w q hq).2 (hd q (List.mem_append.2 (.inl hq)))).1
 exact ⟨by rw [k _ (by simp)]; exact x.b6, by rw [k _ (by simp)]; exact x.b7, by rw [k _ (by simp)]; exact x.b8, by rw [k _ (by simp)]; exact x.b9, fun q hq => ⟨(x.w q hq).1, Nat.lt_of_lt_of_le (x.w q hq).2 st.1⟩, x.ne,
  x.go.frame st fun b hb => hd b (by simp [hb]), x.gn.frame st fun b hb => hd b (by simp [hb]), x.gs.frame st fun b hb => hd b (by simp [hb]), x.d1, x.d2, x.d3, x.dc⟩
theorem Step.dj {S S' T : List Nat} (st : Step h h' S S') (hd : ∀ b, b ∈ S → b ∉ T) (hT : ∀ b, b ∈ T → b < h.next) : ∀ b, b ∈ S' → b ∉ T := fun b hb hbT => by
 rcases (st.own b hb).2 with e | e
 ·exact hd b e hbT
 ·have := hT b hbT; omega
theorem BLx.setAhead (x : BLx w0 h q6 q7 q8 q9 ob nb sl ak vo vn vs So Sn Ss) (ak' : Key) : BLx w0 (h.put q9 [.string (str ak')]) q6 q7 q8 q9 ob nb sl ak' vo vn vs So Sn Ss := by
 obtain ⟨n1, n2, n3, n4, n5, n6⟩ := x.ne
 have dc := x.dc q9 (by simp)
 exact ⟨by rw [qi, if_neg n3]; exact x.b6, by rw [qi, if_neg n5]; exact x.b7, by rw [qi, if_neg n6]; exact x.b8, by simp, x.w, x.ne, x.go.put dc.1 _, x.gn.put dc.2.1 _, x.gs.put dc.2.2 _, x.d1, x.d2, x.d3, x.dc⟩
theorem BLx.setNow (x : BLx w0 h q6 q7 q8 q9 ob nb sl ak vo vn vs So Sn Ss) {nb' : List UInt8} {vn' : Value} {Sn' : List Nat} (v : Vec w0 h' 1 vn' nb'.length (bvs nb') Sn') (st : Step h h' Sn Sn') : BLx w0 (h'.put q7 [vn']) q6 q7 q8 q9 ob nb' sl ak vo vn' vs So Sn' Ss := by
 obtain ⟨n1, n2, n3, n4, n5, n6⟩ := x.ne
 have k : ∀ q, q ∈ [q6, q7, q8, q9] → h'.blk q = h.blk q := fun q hq => (st.keep q (x.w q hq).2 (x.dc q hq).2.1).1
 have hSo := fun b hb => (x.go.lt b hb).2
 have hSs := fun b hb => (x.gs.lt b hb).2
 have dq : ∀ q, q ∈ [q6, q7, q8, q9] → q ∉ Sn' := q3y st (fun q hq => (x.dc q hq).2.1) (fun q hq => (x.w q hq).2)
 have dc := x.dc q7 (by simp)
 exact ⟨by rw [qi, if_neg n1, k _ (by simp)]; exact x.b6, by simp, by rw [qi, if_neg (Ne.symm n4), k _ (by simp)]; exact x.b8, by rw [qi, if_neg (Ne.symm n5), k _ (by simp)]; exact x.b9,
  fun q hq => ⟨(x.w q hq).1, Nat.lt_of_lt_of_le (x.w q hq).2 st.1⟩, x.ne, (x.go.frame st fun b hb e => x.d1 b e hb).put dc.1 _, v.put (dq q7 (by simp)) _, (x.gs.frame st x.d3).put dc.2.2 _,
  st.dj x.d1 hSo, x.d2, q3y st x.d3 hSs, fun q hq => ⟨(x.dc q hq).1, dq q hq, (x.dc q hq).2.2⟩⟩
theorem BLx.setOut (x : BLx w0 h q6 q7 q8 q9 ob nb sl ak vo vn vs So Sn Ss) {ob' : List UInt8} {vo' : Value} {So' : List Nat} (v : Vec w0 h' 1 vo' ob'.length (bvs ob') So') (st : Step h h' So So') : BLx w0 (h'.put q6 [vo']) q6 q7 q8 q9 ob' nb sl ak vo' vn vs So' Sn Ss := by
 obtain ⟨n1, n2, n3, n4, n5, n6⟩ := x.ne
 have k : ∀ q, q ∈ [q6, q7, q8, q9] → h'.blk q = h.blk q := fun q hq => (st.keep q (x.w q hq).2 (x.dc q hq).1).1
 have hSn := fun b hb => (x.gn.lt b hb).2
 have hSs := fun b hb => (x.gs.lt b hb).2
 have dq : ∀ q, q ∈ [q6, q7, q8, q9] → q ∉ So' := q3y st (fun q hq => (x.dc q hq).1) (fun q hq => (x.w q hq).2)
 have dc := x.dc q6 (by simp)
 exact ⟨by simp, by rw [qi, if_neg (Ne.symm n1), k _ (by simp)]; exact x.b7, by rw [qi, if_neg (Ne.symm n2), k _ (by simp)]; exact x.b8, by rw [qi, if_neg (Ne.symm n3), k _ (by simp)]; exact x.b9,
  fun q hq => ⟨(x.w q hq).1, Nat.lt_of_lt_of_le (x.w q hq).2 st.1⟩, x.ne, v.put (dq q6 (by simp)) _, (x.gn.frame st x.d1).put dc.2.1 _, (x.gs.frame st x.d2).put dc.2.2 _,
  q3y st x.d1 hSn, q3y st x.d2 hSs, x.d3, fun q hq => ⟨dq q hq, (x.dc q hq).2.1, (x.dc q hq).2.2⟩⟩
theorem BLx.setSp (x : BLx w0 h q6 q7 q8 q9 ob nb sl ak vo vn vs So Sn Ss) {sl' : List Spn} {vs' : Value} {Ss' : List Nat} (v : Vec w0 h' 3 vs' sl'.length (sl'.flatMap se) Ss') (st : Step h h' Ss Ss') : BLx w0 (h'.put q8 [vs']) q6 q7 q8 q9 ob nb sl' ak vo vn vs' So Sn Ss' := by
 obtain ⟨n1, n2, n3, n4, n5, n6⟩ := x.ne
 have k : ∀ q, q ∈ [q6, q7, q8, q9] → h'.blk q = h.blk q := fun q hq => (st.keep q (x.w q hq).2 (x.dc q hq).2.2).1
 have hSo := fun b hb => (x.go.lt b hb).2
 have hSn := fun b hb => (x.gn.lt b hb).2
 have dq : ∀ q, q ∈ [q6, q7, q8, q9] → q ∉ Ss' := q3y st (fun q hq => (x.dc q hq).2.2) (fun q hq => (x.w q hq).2)
 have dc := x.dc q8 (by simp)
 exact ⟨by rw [qi, if_neg n2, k _ (by simp)]; exact x.b6, by rw [qi, if_neg n4, k _ (by simp)]; exact x.b7, by simp, by rw [qi, if_neg (Ne.symm n6), k _ (by simp)]; exact x.b9,
  fun q hq => ⟨(x.w q hq).1, Nat.lt_of_lt_of_le (x.w q hq).2 st.1⟩, x.ne, (x.go.frame st fun b hb e => x.d2 b e hb).put dc.1 _, (x.gn.frame st fun b hb e => x.d3 b e hb).put dc.2.1 _, v.put (dq q8 (by simp)) _,
  x.d1, st.dj x.d2 hSo, st.dj x.d3 hSn, fun q hq => ⟨(x.dc q hq).1, (x.dc q hq).2.1, dq q hq⟩⟩
theorem BLx.wideNow (x : BLx w0 h q6 q7 q8 q9 ob nb sl ak vo vn vs So Sn Ss) {Sn' : List Nat} (st : Step h h' Sn Sn') (c : List Value) : Step h (h'.put q7 c) (allS q6 q7 q8 q9 So Sn Ss) (allS q6 q7 q8 q9 So Sn' Ss) := by
 refine (st.wide (fun b hb => by simp [hb]) (fun b hb => ?_)).put (by simp) c
 by_cases e : b ∈ Sn'
 ·exact .inl e
 ·exact .inr (by
   have hm : b ∈ allS q6 q7 q8 q9 So Sn Ss := by simp only [allS, List.mem_append] at hb ⊢; rcases hb with q | q | q | q; exact .inl q; exact .inr (.inl q); exact absurd q e; exact .inr (.inr (.inr q))
   exact ⟨hm, x.lts b hm⟩)
theorem BLx.wideOut (x : BLx w0 h q6 q7 q8 q9 ob nb sl ak vo vn vs So Sn Ss) {So' : List Nat} (st : Step h h' So So') (c : List Value) : Step h (h'.put q6 c) (allS q6 q7 q8 q9 So Sn Ss) (allS q6 q7 q8 q9 So' Sn Ss) := by
 refine (st.wide (fun b hb => by simp [hb]) (fun b hb => ?_)).put (by simp) c
 by_cases e : b ∈ So'
 ·exact .inl e
 ·exact .inr (by
   have hm : b ∈ allS q6 q7 q8 q9 So Sn Ss := by simp only [allS, List.mem_append] at hb ⊢; rcases hb with q | q | q | q; exact .inl q; exact absurd q e; exact .inr (.inr (.inl q)); exact .inr (.inr (.inr q))
   exact ⟨hm, x.lts b hm⟩)
theorem BLx.wideSp (x : BLx w0 h q6 q7 q8 q9 ob nb sl ak vo vn vs So Sn Ss) {Ss' : List Nat} (st : Step h h' Ss Ss') (c : List Value) : Step h (h'.put q8 c) (allS q6 q7 q8 q9 So Sn Ss) (allS q6 q7 q8 q9 So Sn Ss') := by
 refine (st.wide (fun b hb => by simp [hb]) (fun b hb => ?_)).put (by simp) c
 by_cases e : b ∈ Ss'
 ·exact .inl e
 ·exact .inr (by
   have hm : b ∈ allS q6 q7 q8 q9 So Sn Ss := by simp only [allS, List.mem_append] at hb ⊢; rcases hb with q | q | q | q; exact .inl q; exact .inr (.inl q); exact .inr (.inr (.inl q)); exact absurd q e
   exact ⟨hm, x.lts b hm⟩)
theorem BLx.refl (x : BLx w0 h q6 q7 q8 q9 ob nb sl ak vo vn vs So Sn Ss) : Step h h (allS q6 q7 q8 q9 So Sn Ss) (allS q6 q7 q8 q9 So Sn Ss) := .refl _ _ x.lts
theorem q075 : Vec w0 h 1 (.slice none 0 0) ([] : List UInt8).length (bvs []) [] := .nil
end
def endO (ob nb : List UInt8) : List UInt8 := if nb = [] then ob else ob ++ (nb ++ be 4 (crcOf nb))
def endS (sl : List Spn) (nb : List UInt8) : List Spn := if nb = [] then sl else
 match sl.getLast? with
 | some p => sl.dropLast ++ [(p.1, p.2.1, nb.length)]
 | none => sl
theorem q09v (sl0 : List Spn) (p : Spn) (n : Nat) : ((sl0 ++ [p]).flatMap se).set (sl0.length * 3 + 2) (.int .i64 (n : Int)) = (sl0 ++ [(p.1, p.2.1, n)]).flatMap se := by
 have hl := q09 qio sl0
 rw [List.flatMap_append, List.flatMap_append, List.set_append_right _ _ (by omega), hl]
 have : sl0.length * 3 + 2 - sl0.length * 3 = 2 := by omega
 rw [this]
 rfl
section
variable {w0 : World} {h h' : Hp} {q6 q7 q8 q9 : Nat} {ob nb : List UInt8} {sl : List Spn} {ak : Key} {vo vn vs : Value} {So Sn Ss : List Nat}
theorem qri (x : BLx w0 h q6 q7 q8 q9 ob nb sl ak vo vn vs So Sn Ss) (hsl : nb ≠ [] → sl ≠ []) (hol : ob.length ≤ 1000000000) (hnl : nb.length ≤ 1000000000) (hsl2 : sl.length ≤ 1000000000) :
  ACalls prog w0 q4a [ptr q7, ptr q8, ptr q6, ptr q9] h fun _ h' => ∃ vo' So', BLx w0 h' q6 q7 q8 q9 (endO ob nb) [] (endS sl nb) [] vo' (.slice none 0 0) vs So' [] Ss ∧ Step h h' (allS q6 q7 q8 q9 So Sn Ss) (allS q6 q7 q8 q9 So' [] Ss) := by
 refine ACalls.of_fit (by simp [ptr]) fun f => qyz (by simp [ptr]) ?_
 have w := fun q hq => (x.w q hq).1
 simp only [qfa]
 -- the end of both ways
 have fin : ∀ {h1 : Hp} {ob1 : List UInt8} {sl1 : List Spn} {vo1 : Value} {So1 Sn1 : List Nat} {nb1 : List UInt8} {vn1 : Value}, BLx w0 h1 q6 q7 q8 q9 ob1 nb1 sl1 ak vo1 vn1 vs So1 Sn1 Ss → Step h h1 (allS q6 q7 q8 q9 So Sn Ss) (allS q6 q7 q8 q9 So1 Sn1 Ss) → ob1 = endO ob nb → sl1 = endS sl nb →
   storeA w0 (ptr q7) (.slice none 0 0) (fun _ => storeA w0 (ptr q9) (.string .empty) fun _ => retA [] fun _ h' => ∃ vo' So', BLx w0 h' q6 q7 q8 q9 (endO ob nb) [] (endS sl nb) [] vo' (.slice none 0 0) vs So' [] Ss ∧ Step h h' (allS q6 q7 q8 q9 So Sn Ss) (allS q6 q7 q8 q9 So' [] Ss)) h1 := by
  intro h1 ob1 sl1 vo1 So1 Sn1 nb1 vn1 x1 st1 e1 e2
  subst e1 e2
  refine qz (w q7 (by simp)) x1.b7 (by simp) rfl ?_
  simp only [List.set_cons_zero]
  have s2 : Step h1 h1 Sn1 [] := (Step.refl h1 Sn1 fun b hb => (x1.gn.lt b hb).2).less (by simp)
  have x2 := x1.setNow (nb' := []) q075 s2
  have st2 := st1.trans (x1.wideNow s2 [.slice none 0 0])
  refine qz (w q9 (by simp)) x2.b9 (by simp) rfl ?_
  simp only [List.set_cons_zero]
  have x3 := x2.setAhead []
  rw [← qhc] at x3
  simp only [qd]
  exact ⟨by simp, _, _, x3, st2.put (by simp) _⟩
 refine qc (w q7 (by simp)) x.b7 rfl ?_
 simp only [x.gn.sl.lenv, wd, wa]
 rcases List.eq_nil_or_concat nb with hnb | ⟨n0, n1, hnb⟩
 ·have c1 : decide ((0 : Int) < (nb.length : Int)) = false := by rw [hnb]; rfl
  simp only [c1, wd, wa]
  exact fin x x.refl (by unfold endO; rw [if_pos hnb]) (by unfold endS; rw [if_pos hnb])
 ·have hnn : nb ≠ [] := by rw [hnb]; simp
  have hnp : 0 < nb.length := List.length_pos_iff.2 hnn
  have c1 : decide ((0 : Int) < (nb.length : Int)) = true := decide_eq_true (by omega)
  simp only [c1, wd, wa]
  refine qc (w q8 (by simp)) x.b8 rfl ?_
  refine qc (w q8 (by simp)) x.b8 rfl ?_
  simp only [x.gs.sl.lenv, wd, wa]
  refine qc (w q7 (by simp)) x.b7 rfl ?_
  obtain ⟨sl0, p, hsl0⟩ : ∃ sl0 p, sl = sl0 ++ [p] := by
   rcases List.eq_nil_or_concat sl with e | ⟨a, b, e⟩
   ·exact absurd e (hsl hnn)
   ·exact ⟨a, b, by rw [e]; simp⟩
  have hsll : sl.length = sl0.length + 1 := by rw [hsl0]; simp
  have e5 : IntKind.i64.wrap ((sl.length : Int) - 1) = (sl0.length : Int) := by rw [IntWalk.i64_in _ (by omega)]; omega
  obtain ⟨qs, hvs, hSs, hq1, hq2, hq3, hq4, hq5⟩ : ∃ q, vs = .slice (some ⟨q, 0, none⟩) sl.length ucap ∧ Ss = [q] ∧ w0.heap.size ≤ q ∧ q < h.next ∧ h.blk q = some (sl.flatMap se) ∧ h.esz q = 3 ∧ (sl.flatMap se).length = sl.length * 3 := by
   rcases x.gs with ⟨-, e, -⟩ | e
   ·omega
   ·exact e
  have hvs' : idxSlA 3 vs (.int .i64 (sl0.length : Int)) = idxSlA 3 (.slice (some ⟨qs, 0, none⟩) sl.length ucap) (.int .i64 (sl0.length : Int)) := by rw [hvs]
  simp only [x.gn.sl.lenv, wd, wa, e5, hvs', qgm]
  refine ⟨by omega, by omega, ?_⟩
  simp only [wd, wa, Int.toNat_natCast]
  refine qz hq1 hq3 (by omega) rfl ?_
  have hset : (sl.flatMap se).set (sl0.length * 3 + 2) (.int .i64 (nb.length : Int)) = (endS sl nb).flatMap se := by
   unfold endS
   rw [if_neg hnn, hsl0, q09v]
   simp
  rw [hset]
  have hesl : (endS sl nb).length = sl.length := by unfold endS; rw [if_neg hnn, hsl0]; simp
  have s1 : Step h (h.put qs ((endS sl nb).flatMap se)) Ss Ss := (Step.refl h Ss fun b hb => (x.gs.lt b hb).2).put (by rw [hSs]; simp) _
  have g1 : Vec w0 (h.put qs ((endS sl nb).flatMap se)) 3 vs (endS sl nb).length ((endS sl nb).flatMap se) Ss := by
   rw [hesl]
   exact .inr ⟨qs, hvs, hSs, hq1, hq2, by simp, hq4, by rw [q09 qio, hesl]⟩
  have x1 := x.setSp g1 s1
  have st1 := x.wideSp s1 [vs]
  have hb8 : (h.put qs ((endS sl nb).flatMap se)).blk q8 = some [vs] := by
   have := (x.dc q8 (by simp)).2.2
   rw [qi, if_neg (by rw [hSs] at this; simpa using this)]
   exact x.b8
  have f1 : Fit w0 (h.put qs ((endS sl nb).flatMap se)) := f.put hq1 hq2 fun v hv => by
   obtain ⟨a, -, ha⟩ := List.mem_flatMap.1 hv
   simp [se] at ha
   rcases ha with rfl | rfl | rfl <;> rfl
  rw [qrt f1 (w q8 (by simp)) hb8] at x1 st1
  generalize h.put qs ((endS sl nb).flatMap se) = h1 at *
  refine qb (qam 4 (by omega)) fun r h2 ⟨e, wr, s2⟩ f2 => ?_
  subst e
  have hp2 : ∀ b, b ∈ allS q6 q7 q8 q9 So Sn Ss → b ∉ [h1.next] := fun b hb e => by have := x1.lts b hb; simp at e; omega
  have x2 := x1.frame s2 (by simp)
  have st2 : Step h h2 (allS q6 q7 q8 q9 So Sn Ss) (allS q6 q7 q8 q9 So Sn Ss) := st1.trans ((s2.less (T := []) (by simp)).keepS x1.lts)
  refine qc (w q7 (by simp)) x2.b7 rfl ?_
  refine x2.gn.b2s ?_
  refine qb (q5f nb (by omega)) fun r h3 ⟨e, e'⟩ f3 => ?_
  subst e e'
  refine qb (q8c (crcOf nb) wr (by simp)) fun r h4 ⟨S4, wr4, s4⟩ f4 => ?_
  have x4 := x2.frame s4 hp2
  have hp4 : ∀ b, b ∈ allS q6 q7 q8 q9 So Sn Ss → b < h3.next := x2.lts
  have st4 : Step h h4 (allS q6 q7 q8 q9 So Sn Ss) (allS q6 q7 q8 q9 So Sn Ss) := by
   have := s2.trans s4
   exact st1.trans ((this.less (T := []) (by simp)).keepS x1.lts)
  refine qb (q56 wr4) fun r h5 ⟨e, e'⟩ f5 => ?_
  subst e e'
  have hout : ((⟨max 4 0, [], false⟩ : WS).put (be 4 (crcOf nb))).out = be 4 (crcOf nb) := by
   have : (⟨max 4 0, [], false⟩ : WS).put (be 4 (crcOf nb)) = ⟨max 4 0, be 4 (crcOf nb), false⟩ := by
    unfold WS.put
    rw [if_neg (by simp), if_neg (by simp; decide)]
    simp
   rw [this]
   rfl
  simp only [hout, wd, wa]
  refine qc (w q6 (by simp)) x4.b6 rfl ?_
  refine qc (w q7 (by simp)) x4.b7 rfl ?_
  obtain ⟨an, cn, en⟩ := x4.gn.slice
  refine q0r (m := nb.length) f5.base x4.go (by rw [en]; rfl) x4.gn.src (by simp) (by omega) (by omega) (by omega) fun vo6 h6 S6 g6 s6 => ?_
  have fb6 := s6.base f5.base
  refine q0r (m := (be 4 (crcOf nb)).length) fb6 g6 (by simp [lenA]) (q5l _) (by simp) (by simp; omega) (by simp; omega) (by omega) fun vo7 h7 S7 g7 s7 => ?_
  have g7' : Vec w0 h7 1 vo7 (endO ob nb).length (bvs (endO ob nb)) S7 := by
   have e1 : bvs ob ++ bvs nb ++ bvs (be 4 (crcOf nb)) = bvs (endO ob nb) := by unfold endO; rw [if_neg hnn, ← q28, ← q28, List.append_assoc]
   have e2 : ob.length + nb.length + (be 4 (crcOf nb)).length = (endO ob nb).length := by unfold endO; rw [if_neg hnn]; simp; omega
   rw [e1, e2] at g7
   exact g7
  have k6 : h7.blk q6 = some [vo] := by rw [((s6.trans s7).keep q6 (x4.w q6 (by simp)).2 (x4.dc q6 (by simp)).1).1]; exact x4.b6
  refine qz (w q6 (by simp)) k6 (by simp) g7'.gv.isC ?_
  simp only [List.set_cons_zero]
  exact fin (x4.setOut g7' (s6.trans s7)) (st4.trans (x4.wideOut (s6.trans s7) _)) rfl rfl
end
def spx (s : List (List Ent) × List Ent) : List Spn := spn 0 s.1 ++ if s.2 = [] then [] else [(fkey s.2, (outB s.1).length, 0)]
theorem q8d {l : List Ent} : enc l = [] ↔ l = [] := by
 constructor
 ·intro h
  cases l with
  | nil => rfl
  | cons x l => have := qhx (l := x :: l) (by simp) []; rw [show encL [] (x :: l) = enc (x :: l) from rfl, h] at this; simp at this
 ·rintro rfl; rfl
theorem qsc (s : List (List Ent) × List Ent) : endO (outB s.1) (enc s.2) = outB (gall s) := by
 unfold endO gall
 by_cases h : s.2 = []
 ·rw [if_pos (q8d.2 h), if_pos h]
 ·rw [if_neg (fun q => h (q8d.1 q)), if_neg h, q3x, qhs]
theorem qsk (s : List (List Ent) × List Ent) : endS (spx s) (enc s.2) = spn 0 (gall s) := by
 unfold endS gall spx
 by_cases h : s.2 = []
 ·rw [if_pos (q8d.2 h), if_pos h, if_pos h, List.append_nil]
 ·rw [if_neg (fun q => h (q8d.1 q)), if_neg h, if_neg h, qqd]
  simp [spn]
theorem q04m {l : List Ent} (h : l ≠ []) (x : Ent) : fkey (l ++ [x]) = fkey l := by
 cases l with
 | nil => exact absurd rfl h
 | cons y l => rfl
theorem q07b {l : List Ent} (h : ∀ x, x ∈ l → rightE x = true) : (lastk l).length ≤ 64 := by
 unfold lastk
 split
 ·rename_i x e
  have := (q1m x).1 (h x (List.mem_of_getLast? e))
  omega
 ·simp
theorem qrz (block : Nat) (l : List Ent) : (outB (gfold block l).1).length + (enc (gfold block l).2).length ≤ 2 * entsz l ∧ (spx (gfold block l)).length ≤ l.length ∧ ((gfold block l).1).length ≤ l.length := by
 have hf := qgu block l
 have hne := qh4 block l ([], []) (by simp)
 have h1 := qc6 (gfold block l).1 hne
 have h2 : (enc (gfold block l).2).length ≤ entsz (gfold block l).2 := qcd _ _
 have h3 : entsz l = entsz (gfold block l).1.flatten + entsz (gfold block l).2 := by rw [← q7n, hf]
 have h4 : ∀ (G : List (List Ent)), (∀ g, g ∈ G → g ≠ []) → G.length ≤ G.flatten.length := by
  intro G
  induction G with
  | nil => intro _; simp
  | cons g G ih =>
   intro h
   have := ih fun g hg => h g (by simp [hg])
   have hg := List.length_pos_iff.2 (h g (by simp))
   simp only [List.flatten_cons, List.length_cons, List.length_append]
   omega
 have h5 := h4 _ hne
 have h6 : l.length = (gfold block l).1.flatten.length + (gfold block l).2.length := by rw [← List.length_append, hf]
 refine ⟨by omega, ?_, ?_⟩
 ·unfold spx
  rw [List.length_append, q5j]
  split
  ·have : ((gfold block l).1).length ≤ (gfold block l).1.flatten.length := h5
   simp; omega
  ·rename_i q
   have := List.length_pos_iff.2 q
   have : ((gfold block l).1).length ≤ (gfold block l).1.flatten.length := h5
   simp; omega
 ·have : ((gfold block l).1).length ≤ (gfold block l).1.flatten.length := h5
  omega
theorem q015 {block : Nat} {l : List Ent} (h : ∀ x, x ∈ l → rightE x = true) : ∀ x, x ∈ (gfold block l).2 → rightE x = true := fun x hx => h x (by
 have := qgu block l
 rw [← this]
 simp [hx])
section
variable {w0 : World} {h h' : Hp} {q6 q7 q8 q9 : Nat} {ob nb : List UInt8} {sl : List Spn} {ak : Key} {vo vn vs : Value} {So Sn Ss : List Nat}
theorem q02a {k0 : Value → Value → Value → Hp → Prop} {v : Value} {l : List Ent} {block : Nat} {hh : Hp} (hv : Es w0 hh v l) (fh : Fit w0 hh) (hr : ∀ x, x ∈ l → rightE x = true) (hl : l.length ≤ 2000000) (hb : block ≤ 4096) {T0 : List Nat} (hT0 : ∀ b, b ∈ sblk v → b ∉ T0)
  (hk : ∀ h' vo vn vs So Sn Ss, BLx w0 h' q6 q7 q8 q9 (outB (gfold block l).1) (enc (gfold block l).2) (spx (gfold block l)) (lastk (gfold block l).2) vo vn vs So Sn Ss → Step hh h' T0 (allS q6 q7 q8 q9 So Sn Ss) → k0 (ptr q6) (ptr q8) (.func (.func q4a) #[] #[ptr q7, ptr q8, ptr q6, ptr q9]) h') :
  ∀ (post pre : List Ent) (h1 : Hp) (vo vn vs : Value) (So Sn Ss : List Nat), pre ++ post = l → BLx w0 h1 q6 q7 q8 q9 (outB (gfold block pre).1) (enc (gfold block pre).2) (spx (gfold block pre)) (lastk (gfold block pre).2) vo vn vs So Sn Ss → Step hh h1 T0 (allS q6 q7 q8 q9 So Sn Ss) →
   q1j prog w0 k0 (post.length + 1) (.int .i64 (block : Int)) (ptr q6) (ptr q7) (ptr q8) (ptr q9) (.func (.func q4a) #[] #[ptr q7, ptr q8, ptr q6, ptr q9]) v (.int .i64 (l.length : Int)) (.int .i64 (pre.length : Int)) h1 := by
 intro post
 induction post with
 | nil =>
  intro pre h1 vo vn vs So Sn Ss he x st
  have hpre : pre = l := by simpa using he
  subst hpre
  rw [List.length_nil, q1j]
  simp only [qas, wd, wa, Int.lt_irrefl, decide_false]
  exact hk h1 vo vn vs So Sn Ss x st
 | cons x post ih =>
  intro pre h1 vo vn vs So Sn Ss he b st
  have hlen : pre.length + (post.length + 1) = l.length := by rw [← he]; simp
  have hg : l[pre.length]? = some x := by rw [← he]; simp
  have hxr : rightE x = true := hr x (List.mem_of_getElem? hg)
  obtain ⟨r1, r2, r3, r4⟩ := (q1m x).1 hxr
  have hprer : ∀ y, y ∈ pre → rightE y = true := fun y hy => hr y (by rw [← he]; simp [hy])
  have c1 : decide ((pre.length : Int) < (l.length : Int)) = true := decide_eq_true (by omega)
  have e6 : IntKind.i64.wrap ((pre.length : Int) + 1) = (((pre ++ [x]).length : Nat) : Int) := by rw [IntWalk.i64_in _ (by omega)]; simp
  obtain ⟨z1, z2, z3⟩ := qrz block pre
  have hsz : entsz pre ≤ 132 * pre.length := by
   have : ∀ l : List Ent, (∀ x, x ∈ l → rightE x = true) → entsz l ≤ 132 * l.length := by
    intro l
    induction l with
    | nil => intro _; simp [entsz]
    | cons y l ih =>
     intro h
     have h1 := ih fun z hz => h z (by simp [hz])
     have := (q1m y).1 (h y (by simp))
     rw [q0o, List.length_cons]
     omega
   exact this pre hprer
  have hlk := q07b (q015 (block := block) hprer)
  have hsn := q032 block pre x
  generalize hs : gfold block pre = s at *
  have w := fun q hq => (b.w q hq).1
  have vs1 : Es w0 h1 v l := hv.step fh st hT0
  have fb := st.base fh.base
  rw [List.length_cons, q1j]
  simp only [qas, wd, wa, c1]
  refine vs1.elem (by omega) (qcg hg) ?_
  refine boxN fb rfl rfl (by simp [isCell]) ?_
  have sx : Step h1 (h1.new (ee x) 3) [] [h1.next] := (Step.refl h1 [] (by simp)).new _ _
  have hx : (h1.new (ee x) 3).blk h1.next = some (ee x) := by simp
  have stx : Step hh (h1.new (ee x) 3) T0 (allS q6 q7 q8 q9 So Sn Ss) := st.trans ((sx.less (T := []) (by simp)).keepS b.lts)
  have bx := b.frame sx (by simp)
  have nx : h1.next < (h1.new (ee x) 3).next := by simp
  have hqx : ∀ q, q ∈ allS q6 q7 q8 q9 So Sn Ss → q ≠ h1.next := fun q hq => by have := b.lts q hq; omega
  generalize h1.next = qx at *
  generalize h1.new (ee x) 3 = hx1 at *
  simp only [wd, wa]
  refine qc (w q9 (by simp)) bx.b9 rfl ?_
  refine qo fb hx rfl ?_
  refine qb (qq9 (lastk s.2) x (by omega) hxr) fun ev h2 ⟨Se, ge, s2⟩ f2 => ?_
  have b2 := bx.frame s2 (by simp)
  have hx2 : h2.blk qx = some (ee x) := by rw [(s2.keep _ nx (by simp)).1]; exact hx
  have n2 : qx < h2.next := Nat.lt_of_lt_of_le nx s2.1
  have st2 : Step hh h2 T0 (allS q6 q7 q8 q9 So Sn Ss) := stx.trans ((s2.less (T := []) (by simp)).keepS bx.lts)
  have hSe : ∀ c, c ∈ Se → c ∉ allS q6 q7 q8 q9 So Sn Ss := fun c hc hcA => by
   have := bx.lts c hcA
   rcases (s2.own c hc).2 with e | e
   ·simp at e
   ·omega
  -- what is laid behind the others, and the next round
  have rest : ∀ (h3 : Hp) (s0 : List (List Ent) × List Ent) (a : Key) (ev : Value) (Se : List Nat) (sl : List Spn) (vo vn vs : Value) (So Sn Ss : List Nat) (ak : Key), GV w0 h3 1 ev (eb a x).length (bvs (eb a x)) Se → (∀ c, c ∈ Se → c ∉ allS q6 q7 q8 q9 So Sn Ss) → BLx w0 h3 q6 q7 q8 q9 (outB s0.1) (enc s0.2) sl ak vo vn vs So Sn Ss → Step hh h3 T0 (allS q6 q7 q8 q9 So Sn Ss) → h3.blk qx = some (ee x) → qx ∉ allS q6 q7 q8 q9 So Sn Ss → qx < h3.next →
    a = lastk s0.2 → (enc s0.2).length ≤ 1000000000 → gstep block s x = (s0.1, s0.2 ++ [x]) → sl = spx (s0.1, s0.2 ++ [x]) →
    loadA w0 (ptr q7) (fun v51 => appA w0 1 1 v51 ev fun v53 => storeA w0 (ptr q7) v53 fun _ => loadA w0 (.pointer (some ⟨qx, 0, none⟩)) fun v55 => storeA w0 (ptr q9) v55 fun _ =>
     q1j prog w0 k0 (post.length + 1) (.int .i64 (block : Int)) (ptr q6) (ptr q7) (ptr q8) (ptr q9) (.func (.func q4a) #[] #[ptr q7, ptr q8, ptr q6, ptr q9]) v (.int .i64 (l.length : Int)) (.int .i64 (((pre ++ [x]).length : Nat) : Int))) h3 := by
   intro h3 s0 a ev Se sl vo vn vs So Sn Ss ak ge hSe b3 st3 hx3 hqa hqn ea hel hst esl
   have w := fun q hq => (b3.w q hq).1
   have fb3 : w0.heap.size ≤ h3.next := st3.base fh.base
   obtain ⟨r1, r2, r3, r4⟩ := (q1m x).1 hxr
   refine qc (w q7 (by simp)) b3.b7 rfl ?_
   obtain ⟨ae, ce, ee'⟩ := ge.slice
   have hebl := q4q a x
   refine q0r (m := (eb a x).length) fb3 b3.gn (by rw [ee']; rfl) ge.src (by simp) (by omega) (by omega) (by omega) fun vn4 h4 Sn4 g4 s4 => ?_
   have eenc : enc (s0.2 ++ [x]) = enc s0.2 ++ eb a x := by rw [ea]; exact q05n s0.2 x
   have g4' : Vec w0 h4 1 vn4 (enc (s0.2 ++ [x])).length (bvs (enc (s0.2 ++ [x]))) Sn4 := by
    rw [eenc, q28, List.length_append]
    exact g4
   have k7 : h4.blk q7 = some [vn] := by rw [(s4.keep q7 (b3.w q7 (by simp)).2 (b3.dc q7 (by simp)).2.1).1]; exact b3.b7
   refine qz (w q7 (by simp)) k7 (by simp) g4'.gv.isC ?_
   simp only [List.set_cons_zero]
   have b5 := b3.setNow g4' s4
   have st5 := st3.trans (b3.wideNow s4 [vn4])
   have hqn4 : qx ∉ Sn := fun e => hqa (by simp [e])
   have hq7 : qx ≠ q7 := fun e => hqa (by simp [e])
   have hx5 : (h4.put q7 [vn4]).blk qx = some (ee x) := by rw [qi, if_neg hq7, (s4.keep qx hqn hqn4).1]; exact hx3
   refine qc fb hx5 rfl ?_
   refine qz (w q9 (by simp)) b5.b9 (by simp) rfl ?_
   simp only [List.set_cons_zero]
   have b6 := b5.setAhead x.k
   have st6 := st5.put (p := q9) (by simp) [.string (str x.k)]
   have eg : gfold block (pre ++ [x]) = (s0.1, s0.2 ++ [x]) := by rw [hsn, hst]
   have := ih (pre ++ [x]) _ vo vn4 vs So Sn4 Ss (by simpa using he) (by rw [eg, q03n]; rw [esl] at b6; exact b6) st6
   exact this
  -- a new block begins
  have begin_ : ∀ (h3 : Hp) (s0 : List (List Ent) × List Ent) (a : Key) (ev : Value) (Se : List Nat) (vo vn vs : Value) (So Sn Ss : List Nat) (ak : Key), GV w0 h3 1 ev (eb a x).length (bvs (eb a x)) Se → (∀ c, c ∈ Se → c ∉ allS q6 q7 q8 q9 So Sn Ss) → BLx w0 h3 q6 q7 q8 q9 (outB s0.1) (enc s0.2) (spn 0 s0.1) ak vo vn vs So Sn Ss → Step hh h3 T0 (allS q6 q7 q8 q9 So Sn Ss) → h3.blk qx = some (ee x) → qx ∉ allS q6 q7 q8 q9 So Sn Ss → qx < h3.next →
    a = lastk s0.2 → s0.2 = [] → gstep block s x = (s0.1, s0.2 ++ [x]) → (spn 0 s0.1).length ≤ 2000000 → (outB s0.1).length ≤ 1000000000 →
    loadA w0 (ptr q8) (fun v43 => loadA w0 (.pointer (some ⟨qx, 0, none⟩)) fun v45 => loadA w0 (ptr q6) fun v46 => pureA (lenSl v46) fun v47 => buildA [(0, 1, false, v45), (1, 1, false, v47)] [.string .empty, .int .i64 0, .int .i64 0] fun v48 =>
     bslA [(0, 3, true, v48)] (zerosL [.string .empty, .int .i64 0, .int .i64 0] 1) 1 3 fun v49 => appA w0 3 32 v43 v49 fun v50 => storeA w0 (ptr q8) v50 fun _ =>
     loadA w0 (ptr q7) fun v51 => appA w0 1 1 v51 ev fun v53 => storeA w0 (ptr q7) v53 fun _ => loadA w0 (.pointer (some ⟨qx, 0, none⟩)) fun v55 => storeA w0 (ptr q9) v55 fun _ =>
     q1j prog w0 k0 (post.length + 1) (.int .i64 (block : Int)) (ptr q6) (ptr q7) (ptr q8) (ptr q9) (.func (.func q4a) #[] #[ptr q7, ptr q8, ptr q6, ptr q9]) v (.int .i64 (l.length : Int)) (.int .i64 (((pre ++ [x]).length : Nat) : Int))) h3 := by
   intro h3 s0 a ev Se vo vn vs So Sn Ss ak ge hSe b3 st3 hx3 hqa hqn ea e0 hst hspl hol
   have w := fun q hq => (b3.w q hq).1
   have fb3 : w0.heap.size ≤ h3.next := st3.base fh.base
   refine qc (w q8 (by simp)) b3.b8 rfl ?_
   refine qc fb hx3 rfl ?_
   refine qc (w q6 (by simp)) b3.b6 rfl ?_
   simp only [b3.go.sl.lenv, wd, wa, q01, qw, qu, List.set_cons_zero, List.set_cons_succ]
   refine ⟨rfl, by simp, rfl, by simp, ?_⟩
   refine q2d (e := se (x.k, (outB s0.1).length, 0)) fb3 b3.gs.gv rfl rfl (by omega) (by omega) (by omega) fun vs4 h4 Ss4 g4 s4 => ?_
   have esp : spx (s0.1, s0.2 ++ [x]) = spn 0 s0.1 ++ [(x.k, (outB s0.1).length, 0)] := by
    unfold spx
    rw [e0]
    simp [fkey]
   have g4' : Vec w0 h4 3 vs4 (spx (s0.1, s0.2 ++ [x])).length ((spx (s0.1, s0.2 ++ [x])).flatMap se) Ss4 := by
    rw [esp, List.length_append, List.flatMap_append]
    simpa using g4
   have k8 : h4.blk q8 = some [vs] := by rw [(s4.keep q8 (b3.w q8 (by simp)).2 (b3.dc q8 (by simp)).2.2).1]; exact b3.b8
   refine qz (w q8 (by simp)) k8 (by simp) g4'.gv.isC ?_
   simp only [List.set_cons_zero]
   have b5 := b3.setSp g4' s4
   have st5 := st3.trans (b3.wideSp s4 [vs4])
   have hqn4 : qx ∉ Ss := fun e => hqa (by simp [e])
   have hq8 : qx ≠ q8 := fun e => hqa (by simp [e])
   have hx5 : (h4.put q8 [vs4]).blk qx = some (ee x) := by rw [qi, if_neg hq8, (s4.keep qx hqn hqn4).1]; exact hx3
   have hSeS : ∀ c, c ∈ Se → c ∉ Ss := fun c hc e => hSe c hc (by simp [e])
   have ge4 := ge.frame s4 hSeS
   have hSe8 : ∀ c, c ∈ Se → c ∉ [q8] := fun c hc e => by simp at e; exact hSe c hc (by simp [e])
   have s8 : Step h4 (h4.put q8 [vs4]) [q8] [q8] := (Step.refl h4 [q8] (by have := b5.w q8 (by simp); simpa using this.2)).put (by simp) _
   have ge5 := ge4.frame s8 hSe8
   have hSs4 : ∀ c, c ∈ Se → c ∉ Ss4 := q3y s4 hSeS (fun c hc => (ge.lt c hc).2)
   have hqs4 : qx ∉ Ss4 := fun e => by
    rcases (s4.own _ e).2 with q | q
    ·exact hqn4 q
    ·omega
   refine rest _ s0 a ev Se _ vo vn vs4 So Sn Ss4 ak ge5 (fun c hc e => ?_) b5 st5 hx5 (fun e => ?_) (Nat.lt_of_lt_of_le hqn s4.1) ea (by rw [e0]; simp [encL]) hst rfl
   ·have h1 := hSe c hc
    have h2 := hSs4 c hc
    simp only [allS, List.mem_append, not_or] at h1 e
    rcases e with e | e | e | e
    ·exact h1.1 e
    ·exact h1.2.1 e
    ·exact h1.2.2.1 e
    ·exact h2 e
   ·have h1 := hqa
    simp only [allS, List.mem_append, not_or] at h1 e
    rcases e with e | e | e | e
    ·exact h1.1 e
    ·exact h1.2.1 e
    ·exact h1.2.2.1 e
    ·exact hqs4 e
  have hqA : qx ∉ allS q6 q7 q8 q9 So Sn Ss := fun e => hqx qx e rfl
  refine qc (w q7 (by simp)) b2.b7 rfl ?_
  simp only [b2.gn.sl.lenv, wd, wa]
  by_cases h0 : s.2 = []
  ·have hn0 : (enc s.2).length = 0 := by rw [h0]; rfl
   have c2 : decide ((0 : Int) < ((enc s.2).length : Int)) = false := decide_eq_false (by omega)
   simp only [c2, wd, wa]
   refine qc (w q7 (by simp)) b2.b7 rfl ?_
   have c3 : (((enc s.2).length : Int) == 0) = true := by rw [hn0]; rfl
   simp only [b2.gn.sl.lenv, c3, wd, wa, e6]
   have hspx : spx s = spn 0 s.1 := by unfold spx; rw [if_pos h0, List.append_nil]
   rw [hspx] at b2 z2
   exact begin_ h2 s _ ev Se vo vn vs So Sn Ss _ ge hSe b2 st2 hx2 hqA n2 rfl h0 (by unfold gstep; rw [if_neg (by rw [h0]; simp)]) (by omega) (by omega)
  ·have hnp : 0 < (enc s.2).length := qhx h0 []
   have c2 : decide ((0 : Int) < ((enc s.2).length : Int)) = true := decide_eq_true (by omega)
   simp only [c2, wd, wa]
   refine qc (w q7 (by simp)) b2.b7 rfl ?_
   have hebl := q4q (lastk s.2) x
   have e7 : IntKind.i64.wrap (((enc s.2).length : Int) + ((eb (lastk s.2) x).length : Int)) = (((enc s.2).length + (eb (lastk s.2) x).length : Nat) : Int) := by rw [IntWalk.i64_in _ (by omega)]; simp
   simp only [b2.gn.sl.lenv, ge.sl.lenv, wd, wa, e7]
   by_cases hbig : block < (enc s.2).length + (eb (lastk s.2) x).length
   ·have c3 : decide ((block : Int) < (((enc s.2).length + (eb (lastk s.2) x).length : Nat) : Int)) = true := decide_eq_true (by omega)
    simp only [c3, wd, wa]
    have hst : gstep block s x = (s.1 ++ [s.2], [] ++ [x]) := by unfold gstep; rw [if_pos ⟨h0, hbig⟩]; rfl
    have hspne : enc s.2 ≠ [] → spx s ≠ [] := fun _ => by unfold spx; rw [if_neg h0]; simp
    refine q0w (by kernel_rfl) (qri b2 hspne (by omega) (by omega) (by omega)) fun r h3 ⟨vo3, So3, b3, s3⟩ f3 => ?_
    rw [qsc, qsk] at b3
    have hgal : gall s = s.1 ++ [s.2] := by unfold gall; rw [if_neg h0]
    rw [hgal] at b3
    have hx3 : h3.blk qx = some (ee x) := by rw [(s3.keep _ n2 hqA).1]; exact hx2
    have n3 : qx < h3.next := Nat.lt_of_lt_of_le n2 s3.1
    have hq3 : qx ∉ allS q6 q7 q8 q9 So3 [] Ss := fun e => by
     rcases (s3.own _ e).2 with q | q
     ·exact hqA q
     ·omega
    refine qo fb hx3 rfl ?_
    have es := qhc
    rw [es]
    refine qb (qq9 [] x (by simp) hxr) fun ev4 h4 ⟨Se4, ge4, s4⟩ f4 => ?_
    have b4 := b3.frame s4 (by simp)
    have hx4 : h4.blk qx = some (ee x) := by rw [(s4.keep _ n3 (by simp)).1]; exact hx3
    have n4 : qx < h4.next := Nat.lt_of_lt_of_le n3 s4.1
    have st4 : Step hh h4 T0 (allS q6 q7 q8 q9 So3 [] Ss) := (st2.trans s3).trans ((s4.less (T := []) (by simp)).keepS b3.lts)
    have hSe4 : ∀ c, c ∈ Se4 → c ∉ allS q6 q7 q8 q9 So3 [] Ss := fun c hc hcA => by
     have := b3.lts c hcA
     rcases (s4.own c hc).2 with e | e
     ·simp at e
     ·omega
    have w4 := fun q hq => (b4.w q hq).1
    refine qc (w4 q7 (by simp)) b4.b7 rfl ?_
    have c4 : (((([] : List UInt8).length : Nat) : Int) == 0) = true := rfl
    simp only [b4.gn.sl.lenv, c4, wd, wa, e6, ← es]
    have hz2 : (outB (s.1 ++ [s.2])).length ≤ 1000000000 := by rw [q3x, List.length_append, q53]; omega
    exact begin_ h4 (s.1 ++ [s.2], []) [] ev4 Se4 vo3 _ vs So3 [] Ss _ ge4 hSe4 b4 st4 hx4 hq3 n4 rfl rfl hst (by rw [q5j]; simp; omega) hz2
   ·have c3 : decide ((block : Int) < (((enc s.2).length + (eb (lastk s.2) x).length : Nat) : Int)) = false := decide_eq_false (by omega)
    simp only [c3, wd, wa]
    refine qc (w q7 (by simp)) b2.b7 rfl ?_
    have c4 : (((enc s.2).length : Int) == 0) = false := by rw [beq_eq_false_iff_ne]; omega
    simp only [b2.gn.sl.lenv, c4, wd, wa, e6]
    have hst : gstep block s x = (s.1, s.2 ++ [x]) := by unfold gstep; rw [if_neg (fun q => hbig q.2)]
    refine rest h2 s _ ev Se _ vo vn vs So Sn Ss _ ge hSe b2 st2 hx2 hqA n2 rfl (by omega) hst ?_
    unfold spx
    rw [if_neg h0, if_neg (by simp), q04m h0]
theorem q01q {v : Value} {l : List Ent} {block : Nat} {h : Hp} (hv : Es w0 h v l) (hr : ∀ x, x ∈ l → rightE x = true) (hl : l.length ≤ 2000000) (hb : block ≤ 4096) :
  ACalls prog w0 qg5 [v, .int .i64 (block : Int)] h fun r h' => ∃ vo vs So Ss, r = .tuple #[vo, vs] ∧ Vec w0 h' 1 vo (outB (grp block l)).length (bvs (outB (grp block l))) So ∧ Vec w0 h' 3 vs (grp block l).length ((spn 0 (grp block l)).flatMap se) Ss ∧ (∀ b, b ∈ Ss → b ∉ So) ∧ Step h h' [] (So ++ Ss) := by
 refine ACalls.of_fit (by simpa using hv.junk) fun f => q00l (by simpa using hv.junk) ?_
 simp only [qb0, q07]
 have fb := f.base
 obtain ⟨h4, hh4⟩ : ∃ h4, h4 = (((h.new [.slice none 0 0] 1).new [.slice none 0 0] 1).new [.slice none 0 0] 1).new [.string .empty] 1 := ⟨_, rfl⟩
 have n4 : h4.next = h.next + 4 := by rw [hh4]; rfl
 have t6 : h4.blk h.next = some [.slice none 0 0] := by rw [hh4]; simp only [q0b, q8a]; rw [if_neg (by omega), if_neg (by omega), if_neg (by omega)]; simp
 have t7 : h4.blk (h.next + 1) = some [.slice none 0 0] := by rw [hh4]; simp only [q0b, q8a]; rw [if_neg (by omega), if_neg (by omega)]; simp
 have t8 : h4.blk (h.next + 2) = some [.slice none 0 0] := by rw [hh4]; simp only [q0b, q8a]; rw [if_neg (by omega)]; simp
 have t9 : h4.blk (h.next + 3) = some [.string .empty] := by rw [hh4]; simp only [q0b, q8a]; simp
 have st4 : Step h h4 [] [h.next, h.next + 1, h.next + 2, h.next + 3] := by
  have : Step h h4 [] [] := by rw [hh4]; exact (((((Step.refl h [] (by simp)).new _ _).new _ _).new _ _).new _ _).less (by simp)
  exact this.claim (by simp; omega)
 refine ⟨by simp [isCell], by simp [isCell], by simp [isCell], by simp [isCell], ?_⟩
 have u1 : (h.new [.slice none 0 0] 1).next = h.next + 1 := rfl
 have u2 : ((h.new [.slice none 0 0] 1).new [.slice none 0 0] 1).next = h.next + 2 := rfl
 have u3 : (((h.new [.slice none 0 0] 1).new [.slice none 0 0] 1).new [.slice none 0 0] 1).next = h.next + 3 := rfl
 rw [u3, u2, u1]
 clear u1 u2 u3
 show storeA w0 (.pointer (some ⟨h.next + 3, 0, none⟩)) _ _ (((( h.new [.slice none 0 0] 1).new [.slice none 0 0] 1).new [.slice none 0 0] 1).new [.string .empty] 1)
 rw [← hh4]
 refine qz (by omega) t9 (by simp) rfl ?_
 simp only [List.set_cons_zero]
 have f4' : Fit w0 h4 := by rw [hh4]; exact (((f.new (by simp [isCell])).new (by simp [isCell])).new (by simp [isCell])).new (by simp [isCell])
 rw [qrt f4' (by omega) t9]
 clear hh4
 generalize hq : h.next = q at *
 have b4 : BLx w0 h4 q (q + 1) (q + 2) (q + 3) [] [] [] [] (.slice none 0 0) (.slice none 0 0) (.slice none 0 0) [] [] [] :=
  ⟨t6, t7, t8, t9, by simp; omega, by omega, .nil, .nil, .nil, by simp, by simp, by simp, by simp⟩
 refine ⟨by simp [junk], ?_⟩
 have v4 : Es w0 h4 v l := hv.step f st4 (by simp)
 simp only [v4.lenv, wd, wa]
 refine ⟨l.length + 1, q02a (hh := h) (T0 := []) (q6 := q) (q7 := q + 1) (q8 := q + 2) (q9 := q + 3) hv f hr hl hb (by simp) (fun h5 vo vn vs So Sn Ss b5 st5 => ?_) l [] h4 _ _ _ [] [] [] rfl b4 (by simpa using st4)⟩
 obtain ⟨z1, z2, z3⟩ := qrz block l
 have hsz : entsz l ≤ 132 * l.length := by
  have : ∀ l : List Ent, (∀ x, x ∈ l → rightE x = true) → entsz l ≤ 132 * l.length := by
   intro l
   induction l with
   | nil => intro _; simp [entsz]
   | cons y l ih =>
    intro h
    have h1 := ih fun z hz => h z (by simp [hz])
    have := (q1m y).1 (h y (by simp))
    rw [q0o, List.length_cons]
    omega
  exact this l hr
 refine q0w (by kernel_rfl) (qri b5 (fun hne => ?_) (by omega) (by omega) (by omega)) fun r h6 ⟨vo6, So6, b6, s6⟩ f6 => ?_
 ·unfold spx
  rw [if_neg (fun e => hne (q8d.2 e))]
  simp
 rw [qsc, qsk] at b6
 refine qc (b6.w q (by simp)).1 b6.b6 rfl ?_
 refine qc (b6.w (q + 2) (by simp)).1 b6.b8 rfl ?_
 simp only [qd, qk]
 refine ⟨by simpa using ⟨b6.go.gv.nj, b6.gs.gv.nj⟩, vo6, vs, So6, Ss, rfl, b6.go, ?_, b6.d2, (st5.trans s6).less (fun b hb => ?_)⟩
 ·have := b6.gs
  rw [q5j] at this
  exact this
 ·simp only [List.mem_append] at hb ⊢
  rcases hb with e | e
  ·exact .inr (.inl e)
  ·exact .inr (.inr (.inr e))
end
def spb (p : Spn) : List UInt8 := vi p.1.length ++ p.1 ++ (vi p.2.1 ++ vi p.2.2)
theorem qia : ∀ (G : List (List Ent)) (a : Nat), idx a G = (spn a G).flatMap spb
 | [], a => rfl
 | es :: G, a => by rw [idx, spn, List.flatMap_cons, qia G]; rfl
def okS (p : Spn) : Prop := p.1.length ≤ 64 ∧ p.2.1 < 1000000000000 ∧ p.2.2 < 1000000000000
theorem q07v {p : Spn} (h : okS p) : (spb p).length ≤ 94 := by
 have v1 := q06 (n := p.1.length) (by have := h.1; omega)
 have v2 := q06 (n := p.2.1) (by have := h.2.1; omega)
 have v3 := q06 (n := p.2.2) (by have := h.2.2; omega)
 have := h.1
 simp [spb]
 omega
theorem qhr : ∀ (l : List Spn), (∀ p, p ∈ l → okS p) → (l.flatMap spb).length ≤ 94 * l.length
 | [], _ => by simp
 | p :: l, h => by
  have h1 := qhr l fun q hq => h q (by simp [hq])
  have h2 := q07v (h p (by simp))
  rw [List.flatMap_cons, List.length_append, List.length_cons]
  omega
theorem qii : ∀ (G : List (List Ent)) (a : Nat), (∀ g, g ∈ G → ∀ x, x ∈ g → rightE x = true) → a + (outB G).length < 1000000000000 → ∀ p, p ∈ spn a G → okS p
 | [], a, _, _, p, hp => by simp [spn] at hp
 | es :: G, a, hr, ha, p, hp => by
  rw [show es :: G = [es] ++ G from rfl, q3x, List.length_append, q53] at ha
  rw [spn] at hp
  rcases List.mem_cons.1 hp with rfl | hp
  ·refine ⟨?_, by simp only; omega, by simp only; omega⟩
   cases es with
   | nil => simp [fkey]
   | cons x l => exact ((q1m x).1 (hr (x :: l) (by simp) x (by simp))).2.1
  ·exact qii G _ (fun g hg => hr g (by simp [hg])) (by omega) p hp
theorem q09h {l : List Spn} {i : Nat} {x : Spn} (h : l[i]? = some x) : ((l.flatMap se).drop (i * 3)).take 3 = se x := by
 have := qy qio [] h
 rwa [List.append_nil] at this
theorem q08d (l : List Nat) : (l.flatMap (be 4)).length = l.length * 4 := by
 induction l with
 | nil => rfl
 | cons n l ih => rw [List.flatMap_cons, List.length_append, ih, q4h, List.length_cons]; omega
section
variable {w0 : World} {h h' : Hp}
theorem Wr.refl' {p : Nat} {st : WS} {S : List Nat} (w : Wr w0 h p st S) : Step h h S S := .refl _ _ fun b hb => (w.lt b hb).2
theorem q02e {k0 : Value → Value → Value → Value → Value → Hp → Prop} {v x0 x1 x7 : Value} {sl : List Spn} {p : Nat} {hh : Hp} {T0 : List Nat} (hv : Sl w0 hh 3 v sl.length (sl.flatMap se)) (fh : Fit w0 hh) (hT0 : ∀ b, b ∈ sblk v → b ∉ T0) (hok : ∀ q, q ∈ sl → okS q) (hl : sl.length ≤ 2000000)
  (hk : ∀ h' S, Fit w0 h' → Wr w0 h' p ⟨1073741824, sl.flatMap spb, false⟩ S → Step hh h' T0 S → k0 x0 x1 x7 v (ptr p) h') : ∀ (post pre : List Spn) (h1 : Hp) (S : List Nat), pre ++ post = sl → Fit w0 h1 → Wr w0 h1 p ⟨1073741824, pre.flatMap spb, false⟩ S → Step hh h1 T0 S →
   q3o prog w0 k0 (post.length + 1) x0 x1 x7 v (ptr p) v (.int .i64 (sl.length : Int)) (.int .i64 (pre.length : Int)) h1 := by
 intro post
 induction post with
 | nil =>
  intro pre h1 S he f1 w st
  have hpre : pre = sl := by simpa using he
  subst hpre
  rw [List.length_nil, q3o]
  simp only [qb3, wd, wa, Int.lt_irrefl, decide_false]
  exact hk h1 S f1 w st
 | cons x post ih =>
  intro pre h1 S he f1 w st
  have hlen : pre.length + (post.length + 1) = sl.length := by rw [← he]; simp
  have hg : sl[pre.length]? = some x := by rw [← he]; simp
  have hxo := hok x (List.mem_of_getElem? hg)
  have hpl := qhr pre fun q hq => hok q (by rw [← he]; simp [hq])
  have c1 : decide ((pre.length : Int) < (sl.length : Int)) = true := decide_eq_true (by omega)
  have e6 : IntKind.i64.wrap ((pre.length : Int) + 1) = (((pre ++ [x]).length : Nat) : Int) := by rw [IntWalk.i64_in _ (by omega)]; simp
  have vs := hv.step fh st hT0
  have fb := f1.base
  obtain ⟨o1, o2, o3⟩ := hxo
  rw [List.length_cons, q3o]
  simp only [qb3, wd, wa, c1]
  refine vs.elem (by omega) (q09h hg) ?_
  refine boxN fb rfl rfl (by simp [isCell]) ?_
  have sx : Step h1 (h1.new (se x) 3) [] [h1.next] := (Step.refl h1 [] (by simp)).new _ _
  have hx : (h1.new (se x) 3).blk h1.next = some (se x) := by simp
  have stx : Step hh (h1.new (se x) 3) T0 S := st.trans ((sx.less (T := []) (by simp)).keepS fun b hb => (w.lt b hb).2)
  have wx := w.frame sx (by simp)
  have nx : h1.next < (h1.new (se x) 3).next := by simp
  have hqS : h1.next ∉ S := fun e => by have := (w.lt _ e).2; omega
  generalize h1.next = qx at *
  generalize h1.new (se x) 3 = hx1 at *
  simp only [wd, wa]
  refine qc fb hx rfl ?_
  have v1 := q06 (n := x.1.length) (by omega)
  have v2 := q06 (n := x.2.1) (by omega)
  have v3 := q06 (n := x.2.2) (by omega)
  refine qb (q04n x.1 (by omega) wx (by simp only; omega)) fun _ h2 ⟨S2, w2, s2⟩ f2 => ?_
  rw [q11 (by simp only [List.length_append]; omega)] at w2
  have hx2 : h2.blk qx = some (se x) := by rw [(s2.keep _ nx hqS).1]; exact hx
  have n2 := Nat.lt_of_lt_of_le nx s2.1
  have hq2 : qx ∉ S2 := fun e => by
   rcases (s2.own _ e).2 with q | q
   ·exact hqS q
   ·omega
  refine qc fb hx2 rfl ?_
  have u1 : IntKind.u64.wrap ((x.2.1 : Nat) : Int) = ((x.2.1 : Nat) : Int) := IntWalk.u64_in _ (by omega)
  simp only [wd, wa, u1]
  refine qb (qgd x.2.1 (by omega) w2 (by simp only [List.length_append]; omega)) fun _ h3 ⟨S3, w3, s3⟩ f3 => ?_
  rw [q11 (by simp only [List.length_append]; omega)] at w3
  have hx3 : h3.blk qx = some (se x) := by rw [(s3.keep _ n2 hq2).1]; exact hx2
  refine qc fb hx3 rfl ?_
  have u2 : IntKind.u64.wrap ((x.2.2 : Nat) : Int) = ((x.2.2 : Nat) : Int) := IntWalk.u64_in _ (by omega)
  simp only [wd, wa, u2]
  refine qb (qgd x.2.2 (by omega) w3 (by simp only [List.length_append]; omega)) fun _ h4 ⟨S4, w4, s4⟩ f4 => ?_
  rw [q11 (by simp only [List.length_append]; omega)] at w4
  simp only [e6]
  have eb : pre.flatMap spb ++ (vi x.1.length ++ x.1) ++ vi x.2.1 ++ vi x.2.2 = (pre ++ [x]).flatMap spb := by simp [spb]
  rw [eb] at w4
  exact ih (pre ++ [x]) h4 S4 (by simpa using he) f4 w4 (((stx.trans s2).trans s3).trans s4)
def nats (l : List Nat) : List Value := l.map fun (n : Nat) => .int .i64 (n : Int)
theorem q07f {l : List Nat} {i n : Nat} (h : l[i]? = some n) : (nats l)[i]? = some (.int .i64 (n : Int)) := by simp [nats, h]
theorem q013 {k2 : Value → Value → Hp → Prop} {v x7 : Value} {ns : List Nat} {bs : List UInt8} {p : Nat} {hh : Hp} {T0 : List Nat} (hv : Sl w0 hh 1 v ns.length (nats ns)) (fh : Fit w0 hh) (hT0 : ∀ b, b ∈ sblk v → b ∉ T0) (hok : ∀ n, n ∈ ns → n < 4294967296) (hl : ns.length ≤ 100) (hb : bs.length ≤ 500000000)
  (hk : ∀ h' S, Fit w0 h' → Wr w0 h' p ⟨1073741824, bs ++ ns.flatMap (be 4), false⟩ S → Step hh h' T0 S → k2 x7 (ptr p) h') : ∀ (post pre : List Nat) (h1 : Hp) (S : List Nat), pre ++ post = ns → Fit w0 h1 → Wr w0 h1 p ⟨1073741824, bs ++ pre.flatMap (be 4), false⟩ S → Step hh h1 T0 S →
   q3k prog w0 k2 (post.length + 1) x7 (ptr p) v (.int .i64 (ns.length : Int)) (.int .i64 (pre.length : Int)) h1 := by
 intro post
 induction post with
 | nil =>
  intro pre h1 S he f1 w st
  have hpre : pre = ns := by simpa using he
  subst hpre
  rw [List.length_nil, q3k]
  simp only [qay, wd, wa, Int.lt_irrefl, decide_false]
  exact hk h1 S f1 w st
 | cons x post ih =>
  intro pre h1 S he f1 w st
  have hlen : pre.length + (post.length + 1) = ns.length := by rw [← he]; simp
  have hg : ns[pre.length]? = some x := by rw [← he]; simp
  have hxo := hok x (List.mem_of_getElem? hg)
  have hfl : (pre.flatMap (be 4)).length = pre.length * 4 := by
   have := q08d pre
   exact this
  have c1 : decide ((pre.length : Int) < (ns.length : Int)) = true := decide_eq_true (by omega)
  have e6 : IntKind.i64.wrap ((pre.length : Int) + 1) = (((pre ++ [x]).length : Nat) : Int) := by rw [IntWalk.i64_in _ (by omega)]; simp
  have vs := hv.step fh st hT0
  rw [List.length_cons, q3k]
  simp only [qay, wd, wa, c1]
  refine vs.one (q07f hg) ?_
  have u1 : IntKind.u32.wrap ((x : Nat) : Int) = ((x : Nat) : Int) := IntWalk.u32_in _ (by omega)
  simp only [wd, wa, u1]
  refine qb (q8c x w (by simp only [List.length_append]; omega)) fun _ h2 ⟨S2, w2, s2⟩ f2 => ?_
  rw [q11 (by simp only [List.length_append, q4h]; omega)] at w2
  simp only [e6]
  have eb : bs ++ pre.flatMap (be 4) ++ be 4 x = bs ++ (pre ++ [x]).flatMap (be 4) := by simp
  rw [eb] at w2
  exact ih (pre ++ [x]) h2 S2 (by simpa using he) f2 w2 (st.trans s2)
def bldE (block : Int) (l : List Ent) : Int := if block < 256 ∨ 4096 < block then 1 else if chkE l = true then 0 else 120
def bldR (block : Int) (l : List Ent) : List UInt8 := if bldE block l = 0 then bld block.toNat l else []
theorem q081 {block : Int} {l : List Ent} (h : bldE block l = 0) : 256 ≤ block ∧ block ≤ 4096 ∧ chkE l = true := by
 unfold bldE at h
 split at h
 ·omega
 ·split at h
  ·rename_i a b; exact ⟨by omega, by omega, b⟩
  ·omega
theorem q07i (l : List Ent) (h : ∀ x, x ∈ l → rightE x = true) : entsz l ≤ 132 * l.length := by
 induction l with
 | nil => simp [entsz]
 | cons y l ih =>
  have h1 := ih fun z hz => h z (by simp [hz])
  have := (q1m y).1 (h y (by simp))
  rw [q0o, List.length_cons]
  omega
theorem qtc {block : Nat} {l : List Ent} (h : ∀ x, x ∈ l → rightE x = true) (hl : l.length ≤ 2000000) : (outB (grp block l)).length ≤ 264 * l.length ∧ (idx 0 (grp block l)).length ≤ 94 * l.length ∧ (bld block l).length ≤ 358 * l.length + 24 := by
 have hne : ∀ g, g ∈ grp block l → g ≠ [] := fun g hg => q8l hg
 have h1 := qc6 (grp block l) hne
 rw [q2e] at h1
 have h2 := q07i l h
 have h3 := qcc block l
 have hrg : ∀ g, g ∈ grp block l → ∀ x, x ∈ g → rightE x = true := fun g hg x hx => h x (by
  have : x ∈ (grp block l).flatten := List.mem_flatten.2 ⟨g, hg, hx⟩
  rwa [q2e] at this)
 have h4 := qhr (spn 0 (grp block l)) (qii _ 0 hrg (by omega))
 rw [← qia, q5j] at h4
 have h5 := qbg block l
 omega
theorem qpx {v : Value} {l : List Ent} (block : Int) (hv : Es w0 h v l) (hl : l.length ≤ 2000000) :
  ACalls prog w0 qbc [v, .int .i64 block] h fun r h' => ∃ y S', r = .tuple #[y, .int .i64 (bldE block l)] ∧ Vec w0 h' 1 y (bldR block l).length (bvs (bldR block l)) S' ∧ Step h h' [] S' := by
 refine ACalls.of_fit (by simpa using hv.junk) fun f => q02c (by simpa using hv.junk) ?_
 have nilR : bldE block l ≠ 0 → ∀ h1, Step h h1 [] [] → ∀ e, e = bldE block l → retA [.slice none 0 0, .int .i64 e] (fun r h' => ∃ y S', r = .tuple #[y, .int .i64 (bldE block l)] ∧ Vec w0 h' 1 y (bldR block l).length (bvs (bldR block l)) S' ∧ Step h h' [] S') h1 := by
  intro hne h1 st e he
  subst he
  have : bldR block l = [] := by unfold bldR; rw [if_neg hne]
  rw [this]
  simp only [qd, qk]
  exact ⟨by simp, _, [], rfl, .nil, st⟩
 simp only [qb8]
 by_cases hb1 : block < 256
 ·have c1 : decide (block < 256) = true := decide_eq_true hb1
  simp only [c1, wd, wa]
  have he : bldE block l = 1 := by unfold bldE; rw [if_pos (.inl hb1)]
  exact nilR (by rw [he]; omega) h (.refl _ _ (by simp)) 1 he.symm
 have c1 : decide (block < 256) = false := decide_eq_false hb1
 simp only [c1, wd, wa]
 by_cases hb2 : 4096 < block
 ·have c2 : decide (4096 < block) = true := decide_eq_true hb2
  simp only [c2, wd, wa]
  have he : bldE block l = 1 := by unfold bldE; rw [if_pos (.inr hb2)]
  exact nilR (by rw [he]; omega) h (.refl _ _ (by simp)) 1 he.symm
 have c2 : decide (4096 < block) = false := decide_eq_false hb2
 simp only [c2, wd, wa]
 obtain ⟨bk, rfl⟩ := Int.eq_ofNat_of_zero_le (show 0 ≤ block by omega)
 refine qb (q00b hv (by omega)) fun r h1 ⟨e, s1⟩ f1 => ?_
 subst e
 cases hc : chkE l with
 | false =>
  have he : bldE (bk : Int) l = 120 := by unfold bldE; rw [if_neg (by omega), hc]; rfl
  have c3 : ((120 : Int) != 0) = true := rfl
  simp only [Bool.false_eq_true, if_false, c3, wd, wa]
  exact nilR (by rw [he]; omega) h1 s1 120 he.symm
 | true =>
  have he : bldE (bk : Int) l = 0 := by unfold bldE; rw [if_neg (by omega), hc]; rfl
  have hR : bldR (bk : Int) l = bld bk l := by unfold bldR; rw [if_pos he, Int.toNat_natCast]
  have hr : ∀ x, x ∈ l → rightE x = true := qbf hc
  simp only [if_true, bne_self_eq_false, wd, wa]
  obtain ⟨z1, z2, z3⟩ := qtc (block := bk) hr hl
  have v1 : Es w0 h1 v l := hv.step f s1 (by simp)
  refine qb (q01q (block := bk) v1 hr hl (by omega)) fun r h2 ⟨vo, vs, So, Ss, e, go, gs, dj, s2⟩ f2 => ?_
  subst e
  have hgl := qbg bk l
  have hrg : ∀ g, g ∈ grp bk l → ∀ x, x ∈ g → rightE x = true := fun g hg x hx => hr x (by
   have : x ∈ (grp bk l).flatten := List.mem_flatten.2 ⟨g, hg, hx⟩
   rwa [q2e] at this)
  simp only [wd, wa]
  refine qb (qam 1073741824 (by omega)) fun r h3 ⟨e, w3, s3⟩ f3 => ?_
  subst e
  have go3 := go.frame s3 (by simp)
  have gs3 := gs.frame s3 (by simp)
  have hSo2 := fun b hb => (go.lt b hb).2
  have hSs2 := fun b hb => (gs.lt b hb).2
  have hp3 : ∀ b, b ∈ So ++ Ss → b ∉ [h2.next] := fun b hb e => by
   simp at e
   subst e
   rcases List.mem_append.1 hb with q | q
   ·have := hSo2 _ q; omega
   ·have := hSs2 _ q; omega
  have st3 : Step h h3 [] (So ++ Ss) := (s1.trans s2).trans ((s3.less (T := []) (by simp)).keepS fun b hb => by
   rcases List.mem_append.1 hb with q | q
   ·exact hSo2 _ q
   ·exact hSs2 _ q)
  have hm : max (1073741824 : Int) 0 = 1073741824 := by decide
  rw [hm] at w3
  generalize hpn : h2.next = p at *
  have gsl : Sl w0 h3 3 vs (spn 0 (grp bk l)).length ((spn 0 (grp bk l)).flatMap se) := by rw [q5j]; exact gs3.sl
  simp only [gsl.lenv, wd, wa]
  refine ⟨(spn 0 (grp bk l)).length + 1, q02e (hh := h3) (T0 := [p]) gsl f3 (fun b hb => by rw [gs3.sblk_eq] at hb; exact hp3 b (by simp [hb])) (qii _ 0 hrg (by omega)) (by rw [q5j]; omega) (fun h4 S4 f4 w4 s4 => ?_) (spn 0 (grp bk l)) [] h3 [p] rfl f3 w3 (.refl _ _ (by simpa using (w3.lt p (by simp)).2))⟩
  rw [← qia] at w4
  have dS4 : ∀ b, b ∈ So ++ Ss → b ∉ S4 := q3y s4 hp3 (fun b hb => by
   rcases List.mem_append.1 hb with q | q
   ·exact (go3.lt b q).2
   ·exact (gs3.lt b q).2)
  have go4 := go3.frame s4 fun b hb => hp3 b (by simp [hb])
  have gs4 := gs3.frame s4 fun b hb => hp3 b (by simp [hb])
  have hz4 : zerosL [(.int .i64 0 : Value)] 4 = [.int .i64 0, .int .i64 0, .int .i64 0, .int .i64 0] := rfl
  have hls : lenSl vs = some (.int .i64 ((grp bk l).length : Int)) := gs4.sl.lenv
  have hlo : lenSl vo = some (.int .i64 ((outB (grp bk l)).length : Int)) := go4.sl.lenv
  simp only [hv.lenv, hls, hlo, wd, wa, q1a, hz4, qw, qu, List.set_cons_zero, List.set_cons_succ]
  refine ⟨rfl, by simp, rfl, by simp, rfl, by simp, rfl, by simp, ?_⟩
  have hcells : [Value.int IntKind.i64 (bk : Int), .int .i64 (l.length : Int), .int .i64 ((grp bk l).length : Int), .int .i64 ((outB (grp bk l)).length : Int)] = nats [bk, l.length, (grp bk l).length, (outB (grp bk l)).length] := rfl
  rw [hcells]
  have s5 : Step h4 (h4.new (nats [bk, l.length, (grp bk l).length, (outB (grp bk l)).length]) 1) [] [h4.next] := (Step.refl h4 [] (by simp)).new _ _
  have f5 : Fit w0 (h4.new (nats [bk, l.length, (grp bk l).length, (outB (grp bk l)).length]) 1) := f4.new (by simp [nats, isCell])
  have g5 : GV w0 (h4.new (nats [bk, l.length, (grp bk l).length, (outB (grp bk l)).length]) 1) 1 (.slice (some ⟨h4.next, 0, none⟩) 4 4) 4 (nats [bk, l.length, (grp bk l).length, (outB (grp bk l)).length]) [h4.next] := GV.new f4.base rfl (by decide)
  have w5 := w4.frame s5 (by simp)
  have hS4 := fun b hb => (w4.lt b hb).2
  have go5 := go4.frame s5 (by simp)
  have hSo4 := fun b hb => (go4.lt b hb).2
  have hq4 : ∀ b, b ∈ [h4.next] → b ∉ S4 := fun b hb e => by simp at hb; subst hb; have := hS4 _ e; omega
  generalize hqn : h4.next = q4 at *
  generalize h4.new (nats [bk, l.length, (grp bk l).length, (outB (grp bk l)).length]) 1 = h5 at *
  have g5l : Sl w0 h5 1 (.slice (some ⟨q4, 0, none⟩) 4 4) [bk, l.length, (grp bk l).length, (outB (grp bk l)).length].length (nats [bk, l.length, (grp bk l).length, (outB (grp bk l)).length]) := g5.sl
  refine ⟨5, q013 (hh := h5) (T0 := S4) (ns := [bk, l.length, (grp bk l).length, (outB (grp bk l)).length]) (bs := idx 0 (grp bk l)) g5l f5 (by simpa [sblk] using hq4) (by
   intro n hn
   simp at hn
   rcases hn with rfl | rfl | rfl | rfl <;> omega) (by simp) (by omega) (fun h6 S6 f6 w6 s6 => ?_) [bk, l.length, (grp bk l).length, (outB (grp bk l)).length] [] h5 S4 rfl f5 (by simpa using w5) w5.refl'⟩
  have ets : idx 0 (grp bk l) ++ [bk, l.length, (grp bk l).length, (outB (grp bk l)).length].flatMap (be 4) = tailB bk l := by simp [tailB, foot]
  rw [ets] at w6
  have hft : (tailB bk l).length = (idx 0 (grp bk l)).length + 16 := by simp [tailB, qrq]
  refine qb (q56 w6) fun r h7 ⟨e, e'⟩ f7 => ?_
  subst e e'
  have ho1 : (⟨1073741824, tailB bk l, false⟩ : WS).out = tailB bk l := rfl
  simp only [ho1, wd, wa]
  refine qb (q5f (tailB bk l) (by omega)) fun r h8 ⟨e, e'⟩ f8 => ?_
  subst e e'
  refine qb (q8c (crcOf (tailB bk l)) w6 (by simp only; omega)) fun r h9 ⟨S9, w9, s9⟩ f9 => ?_
  rw [q11 (by simp only [q4h]; omega)] at w9
  have hdr : (⟨#[68, 82, 85, 78]⟩ : ByteArray) = str drun := rfl
  rw [hdr]
  refine qb (qh1 drun (by simp [drun]) w9 (by simp only [List.length_append, q4h, drun]; simp; omega)) fun r h10 ⟨S10, w10, s10⟩ f10 => ?_
  rw [q11 (by simp only [List.length_append, q4h, drun]; simp; omega)] at w10
  refine qb (q56 w10) fun r h11 ⟨e, e'⟩ f11 => ?_
  subst e e'
  have ho2 : (⟨1073741824, tailB bk l ++ be 4 (crcOf (tailB bk l)) ++ drun, false⟩ : WS).out = tailB bk l ++ be 4 (crcOf (tailB bk l)) ++ drun := rfl
  have ho3 : (⟨1073741824, tailB bk l ++ be 4 (crcOf (tailB bk l)) ++ drun, false⟩ : WS).err = 0 := rfl
  simp only [ho2, ho3, bne_self_eq_false, wd, wa]
  have st5 : Step h5 h11 S4 S10 := (s6.trans s9).trans s10
  have go11 : Vec w0 h11 1 vo (outB (grp bk l)).length (bvs (outB (grp bk l))) So := go5.frame st5 fun b hb => dS4 b (by simp [hb])
  refine q0r (m := (tailB bk l ++ be 4 (crcOf (tailB bk l)) ++ drun).length) f11.base go11 (by simp [lenA]) (q5l _) (by simp) (by simp [drun]; omega) (by simp [drun]; omega) (by omega) fun y h12 S12 g12 s12 => ?_
  simp only [qd, qk]
  have eb : bvs (outB (grp bk l)) ++ bvs (tailB bk l ++ be 4 (crcOf (tailB bk l)) ++ drun) = bvs (bldR (bk : Int) l) := by rw [hR, ← q28, bld]; simp
  have el : (outB (grp bk l)).length + (tailB bk l ++ be 4 (crcOf (tailB bk l)) ++ drun).length = (bldR (bk : Int) l).length := by rw [hR, bld]; simp
  rw [eb, el] at g12
  refine ⟨by simpa using g12.gv.nj, y, S12, by rw [he], g12, ?_⟩
  -- from the beginning
  have q1 : Step h h2 [] So := (s1.trans s2).less fun b hb => by simp [hb]
  have m3 := s3.more So (fun b hb => by rw [hpn]; exact hSo2 b hb)
  have m4 := s4.more So fun b hb => (go3.lt b hb).2
  have m5 : Step h4 h5 (S4 ++ So) (S4 ++ So) := (s5.less (T := []) (by simp)).keepS fun b hb => by
   rcases List.mem_append.1 hb with q | q
   ·rw [hqn]; exact hS4 b q
   ·exact (go4.lt b q).2
  have m6 := st5.more So fun b hb => (go5.lt b hb).2
  have m7 : Step h11 h12 (S10 ++ So) S12 := s12.wide (fun b hb => by simp [hb]) (fun b hb => .inl hb)
  exact q1.trans (m3.trans (m4.trans (m5.trans (m6.trans m7))))
end
theorem q08o (a b : List UInt8) (h : a.length + b.length ≤ 9223372036854775807) : binA .add (.string (str a)) (.string (str b)) = some (.string (str (a ++ b))) := by
 rw [q06g _ _ (by rw [q0q, q0q]; exact h), q03w]
theorem q1x (st : RS) (n : Int) : (st.raw n).2.s.length ≤ st.s.length := by
 unfold RS.raw
 split
 ·exact Nat.le_refl _
 ·split
  ·exact Nat.le_refl _
  ·split
   ·exact Nat.le_refl _
   ·simp
theorem qti {st : RS} (h : st.left ≠ 0) : (st.raw 1).2.s.length < st.s.length := by
 unfold RS.left at h
 split at h
 ·exact absurd rfl h
 ·rename_i he
  unfold RS.raw
  rw [if_neg he, if_neg (by omega), if_neg (by omega)]
  simp
  omega
theorem qci (st : RS) : rdn (st.raw 1).1 < 256 := by
 have := q4p st 1
 simpa using this
theorem qss (st : RS) (n : Nat) : (st.raw (n : Int)).1.length ≤ n := by
 unfold RS.raw
 split
 ·simp
 ·split
  ·simp
  ·split
   ·simp
   ·simp; omega
theorem Step.consR {h h' : Hp} {S S' : List Nat} (a : Step h h' S S') {r : Nat} (hr : r < h.next) : Step h h' (r :: S) (r :: S') := a.wide (fun b hb => List.mem_cons_of_mem _ hb) fun b hb => by
 rcases List.mem_cons.1 hb with e | e
 ·subst e; exact .inr ⟨by simp, hr⟩
 ·exact .inl e
def zE : List Value := [.string .empty, .string .empty, .bool false]
section
variable {w0 : World} {h h' : Hp}
theorem q077 {k0 kr : Value → Value → Value → Hp → Prop} {r qx : Nat} {x1 : Value} {acc : List Ent} {st5 : RS} {y : Ent} {m : Nat} {S : List Nat} (w5 : Rd w0 h r st5) (wq : w0.heap.size ≤ qx) (hq : h.blk qx = some (ee y)) (lq : qx < h.next) (hrS : r ∉ S) (hqS : qx ∉ S) (hqr : qx ≠ r) (g : Vec w0 h 3 x1 acc.length (acc.flatMap ee) S) (hacc : acc.length ≤ 3510000000000)
  (hbad : st5.err ≠ 0 → ∀ h1, Step h h1 [] [] → kr x1 (.slice none 0 0) (.bool false) h1)
  (hok : st5.err = 0 → ∀ h1 x1' S', Rd w0 h1 r st5 → Vec w0 h1 3 x1' (acc ++ [y]).length ((acc ++ [y]).flatMap ee) S' → r ∉ S' → Step h h1 S S' → q0x prog w0 k0 kr m x1' (.slice none 0 0) (.bool false) (.string (str y.k)) (ptr r) h1) :
  callA prog w0 q0j [ptr r] (fun v51 => pureA (binA .neq v51 (.int .i64 0)) fun v52 => condA v52 (kr x1 (.slice none 0 0) (.bool false)) (
   loadA w0 (.pointer (some ⟨qx, 0, none⟩)) fun v54 => loadNA w0 (.pointer (some ⟨qx, 0, none⟩)) 3 fun v56 =>
   bslA [(0, 3, true, v56)] (zerosL [.string .empty, .string .empty, .bool false] 1) 1 3 fun v57 => appA w0 3 40 x1 v57 fun v58 => q0x prog w0 k0 kr m v58 (.slice none 0 0) (.bool false) v54 (ptr r))) h := by
 refine ACalls.fit ((q80 w5).mono fun v h1 ⟨e, e'⟩ f1 => ?_)
 subst e e'
 by_cases he : st5.err = 0
 ·have c1 : (st5.err != 0) = false := by simp [he]
  simp only [c1, wd, wa]
  refine qc wq hq rfl ?_
  refine qo wq hq rfl ?_
  refine q2d f1.base g.gv rfl rfl (by omega) (by omega) (by omega) fun x' h2 S2 g2 s2 => ?_
  have e1 : acc.flatMap ee ++ ee y = (acc ++ [y]).flatMap ee := by simp
  have e2 : acc.length + 1 = (acc ++ [y]).length := by simp
  rw [e1, e2] at g2
  have hlr := w5.2.2.1
  exact hok he h2 x' S2 (w5.frame s2 hrS) g2 (fun e => by
   rcases (s2.own _ e).2 with q | q
   ·exact hrS q
   ·omega) s2
 ·have c1 : (st5.err != 0) = true := by simp [he]
  simp only [c1, wd, wa]
  exact hbad he h1 (.refl _ _ (by simp))
theorem q01i {k0 kr : Value → Value → Value → Hp → Prop} {r T : Nat} {hh : Hp} {S0 : List Nat} {res : Option (List Ent)} (hT : T ≤ 3500000000000)
  (hk : ∀ l, res = some l → ∀ h' x' S' y z, Vec w0 h' 3 x' l.length (l.flatMap ee) S' → Step hh h' (r :: S0) (r :: S') → l.length ≤ T → k0 x' y z h') (hkr : res = none → ∀ h' x' S', Step hh h' (r :: S0) (r :: S') → kr x' (.slice none 0 0) (.bool false) h') :
  ∀ (m : Nat) (st : RS) (ahead : Key) (acc : List Ent) (h1 : Hp) (x1 : Value) (S : List Nat), st.s.length < m → acc.length + st.s.length ≤ T → ahead.length ≤ 1000 → res = rdB m st ahead acc → Rd w0 h1 r st → Vec w0 h1 3 x1 acc.length (acc.flatMap ee) S → r ∉ S → Step hh h1 (r :: S0) (r :: S) →
   q0x prog w0 k0 kr m x1 (.slice none 0 0) (.bool false) (.string (str ahead)) (ptr r) h1 := by
 intro m
 induction m with
 | zero => intro st ahead acc h1 x1 S hm; omega
 | succ m ih =>
  intro st ahead acc h1 x1 S hm hac hah hres w g hrS stp
  rw [q0x]
  simp only [qge]
  refine qb (q02n w) fun v h2 ⟨e, e'⟩ f2 => ?_
  subst e e'
  by_cases hl : st.left = 0
  ·have c1 : decide ((0 : Int) < (st.left : Int)) = false := decide_eq_false (by omega)
   simp only [wd, wa, c1]
   rw [rdB, if_pos hl] at hres
   exact hk acc hres h2 x1 S _ _ g stp (by omega)
  ·have c1 : decide ((0 : Int) < (st.left : Int)) = true := decide_eq_true (by omega)
   simp only [wd, wa, c1]
   rw [rdB, if_neg hl] at hres
   simp only at hres
   have d1 := qti hl
   refine qb (q5h w) fun v h3 ⟨e, w3, s3⟩ f3 => ?_
   subst e
   have l1 := qci st
   generalize ha : st.raw 1 = a at *
   have i1 : IntKind.i64.wrap ((rdn a.1 : Nat) : Int) = ((rdn a.1 : Nat) : Int) := IntWalk.i64_in _ (by omega)
   simp only [wd, wa, i1]
   refine qb (q5h w3) fun v h4 ⟨e, w4, s4⟩ f4 => ?_
   subst e
   have l2 := qci a.2
   have d2 := q1x a.2 1
   generalize hb : a.2.raw 1 = b at *
   have i2 : IntKind.i64.wrap ((rdn b.1 : Nat) : Int) = ((rdn b.1 : Nat) : Int) := IntWalk.i64_in _ (by omega)
   simp only [wd, wa, i2]
   refine qb (q5h w4) fun v h5 ⟨e, w5, s5⟩ f5 => ?_
   subst e
   have l3 := qci b.2
   have d3 := q1x b.2 1
   generalize hc : b.2.raw 1 = c at *
   refine qb (q5h w5) fun v h6 ⟨e, w6, s6⟩ f6 => ?_
   subst e
   have l4 := qci c.2
   have d4 := q1x c.2 1
   generalize hd : c.2.raw 1 = d at *
   have i4 : IntKind.i64.wrap ((rdn d.1 : Nat) : Int) = ((rdn d.1 : Nat) : Int) := IntWalk.i64_in _ (by omega)
   have s26 : Step h2 h6 [r] [r] := s3.trans (s4.trans (s5.trans s6))
   have g6 := g.frame s26 (by simpa using fun b hb => (fun e => hrS (by rw [← e]; exact hb) : b ≠ r))
   have hSlt := fun b hb => (g.lt b hb).2
   have hSlt2 := fun b hb => (g6.lt b hb).2
   have st6 : Step hh h6 (r :: S0) (r :: S) := stp.trans (s26.more S hSlt)
   simp only [wd, wa, i4]
   by_cases hn : ahead.length < rdn a.1
   ·have c2 : decide ((ahead.length : Int) < ((rdn a.1 : Nat) : Int)) = true := decide_eq_true (by omega)
    simp only [wd, wa, c2]
    rw [if_pos (.inl hn)] at hres
    exact hkr hres h6 x1 S st6
   have c2 : decide ((ahead.length : Int) < ((rdn a.1 : Nat) : Int)) = false := decide_eq_false (by omega)
   simp only [wd, wa, c2]
   by_cases hg : 1 < rdn c.1
   ·have c3 : decide ((1 : Int) < ((rdn c.1 : Nat) : Int)) = true := decide_eq_true (by omega)
    simp only [wd, wa, c3]
    rw [if_pos (.inr hg)] at hres
    exact hkr hres h6 x1 S st6
   have c3 : decide ((1 : Int) < ((rdn c.1 : Nat) : Int)) = false := decide_eq_false (by omega)
   rw [if_neg (fun q => q.elim hn hg)] at hres
   have htl : (ahead.take (rdn a.1)).length = rdn a.1 := by rw [List.length_take]; omega
   have hnb : decide (((rdn c.1 : Nat) : Int) = 1) = decide (rdn c.1 = 1) := by by_cases q : rdn c.1 = 1 <;> simp [q] <;> omega
   have e1 := qss d.2 (rdn b.1)
   have d5 := q1x d.2 (rdn b.1)
   have e2 := qss (d.2.raw (rdn b.1)).2 (rdn d.1)
   have d6 := q1x (d.2.raw (rdn b.1)).2 (rdn d.1)
   have R1 := fun (hX : Hp) (wX : Rd w0 hX r d.2) => q5d wX ((rdn b.1 : Nat) : Int) (by omega)
   have R2 := fun (hX : Hp) (wX : Rd w0 hX r (d.2.raw (rdn b.1)).2) => q5d wX ((rdn d.1 : Nat) : Int) (by omega)
   generalize (d.2.raw (rdn b.1)) = e at *
   generalize (e.2.raw (rdn d.1)) = f at *
   have hadd : binA .add (.string (str (ahead.take (rdn a.1)))) (.string (str e.1)) = some (.string (str (ahead.take (rdn a.1) ++ e.1))) := q08o _ _ (by omega)
   have hgn : (((rdn c.1 : Nat) : Int) == 1) = decide (rdn c.1 = 1) := by by_cases q : rdn c.1 = 1 <;> simp [q] <;> omega
   have hz : [Value.string .empty, .string .empty, .bool false] = zE := rfl
   generalize hy : (⟨ahead.take (rdn a.1) ++ e.1, f.1, decide (rdn c.1 = 1)⟩ : Ent) = y at *
   have hyk : y.k = ahead.take (rdn a.1) ++ e.1 := by rw [← hy]
   have hagg : ([Value.string (str (ahead.take (rdn a.1) ++ e.1)), .string (str f.1), .bool (decide (rdn c.1 = 1))]) = ee y := by rw [← hy]; rfl
   have hsz : w0.heap.size ≤ h6.next := f6.base
   have fin : ∀ (hX : Hp) (q : Nat), Rd w0 hX r f.2 → Step h6 hX [r] [r, q] → h6.next ≤ q → hX.blk q = some (ee y) → q < hX.next →
     callA prog w0 q0j [ptr r] (fun v51 => pureA (binA .neq v51 (.int .i64 0)) fun v52 => condA v52 (kr x1 (.slice none 0 0) (.bool false)) (
      loadA w0 (.pointer (some ⟨q, 0, none⟩)) fun v54 => loadNA w0 (.pointer (some ⟨q, 0, none⟩)) 3 fun v56 =>
      bslA [(0, 3, true, v56)] (zerosL [.string .empty, .string .empty, .bool false] 1) 1 3 fun v57 => appA w0 3 40 x1 v57 fun v58 => q0x prog w0 k0 kr m v58 (.slice none 0 0) (.bool false) v54 (ptr r))) hX := by
    intro hX q wX sX hq bX lX
    have sr : Step h6 hX [r] [r] := sX.less (by simp)
    have hSr : ∀ b, b ∈ S → b ∉ [r] := fun b hb => by simpa using fun e => hrS (by rw [← e]; exact hb)
    have gX := g6.frame sr hSr
    have hqS : q ∉ S := fun q' => by have := hSlt2 q q'; omega
    have hrl := w6.2.2.1
    have stX : Step hh hX (r :: S0) (r :: S) := st6.trans (sr.more S hSlt2)
    refine q077 wX (by omega) bX lX hrS hqS (by omega) gX (by omega) (fun he h8 s8 => ?_) fun he h8 x8 S8 w8 g8 hr8 s8 => ?_
    ·rw [if_pos he] at hres
     exact hkr hres h8 x1 S (stX.trans (s8.keepS fun b hb => (stX.own b hb).1))
    ·rw [if_neg (by simpa using he)] at hres
     rw [← hyk]at hres
     refine ih f.2 y.k (acc ++ [y]) h8 x8 S8 (by omega) (by simp; omega) (by rw [hyk, List.length_append]; omega) hres w8 g8 hr8 (stX.trans (s8.consR wX.2.2.1))
   have fin2 : ∀ (hX : Hp) (q : Nat), Rd w0 hX r f.2 → Step h6 hX [r] [r, q] → h6.next ≤ q → hX.blk q = some zE → q < hX.next →
     storeNA w0 (.pointer (some ⟨q, 0, none⟩)) (.agg (ee y).toArray) 3 (fun _ => callA prog w0 q0j [ptr r] (fun v51 => pureA (binA .neq v51 (.int .i64 0)) fun v52 => condA v52 (kr x1 (.slice none 0 0) (.bool false)) (
      loadA w0 (.pointer (some ⟨q, 0, none⟩)) fun v54 => loadNA w0 (.pointer (some ⟨q, 0, none⟩)) 3 fun v56 =>
      bslA [(0, 3, true, v56)] (zerosL [.string .empty, .string .empty, .bool false] 1) 1 3 fun v57 => appA w0 3 40 x1 v57 fun v58 => q0x prog w0 k0 kr m v58 (.slice none 0 0) (.bool false) v54 (ptr r)))) hX := by
    intro hX q wX sX hq bX lX
    have hrl := w6.2.2.1
    refine q0v (by omega) bX rfl rfl ?_
    have sp : Step hX (hX.put q (ee y)) [q] [q] := (Step.refl hX [q] (by simpa using lX)).put (by simp) _
    exact fin _ q (wX.frame sp (by simp; omega)) (sX.put (by simp) _) hq (by simp) (by simpa using lX)
   have fin3 : ∀ (hX : Hp), Rd w0 hX r f.2 → Step h6 hX [r] [r] → storeNA w0 (.pointer (some ⟨hX.next, 0, none⟩)) (.agg (ee y).toArray) 3 (fun _ => callA prog w0 q0j [ptr r] (fun v51 => pureA (binA .neq v51 (.int .i64 0)) fun v52 => condA v52 (kr x1 (.slice none 0 0) (.bool false)) (
      loadA w0 (.pointer (some ⟨hX.next, 0, none⟩)) fun v54 => loadNA w0 (.pointer (some ⟨hX.next, 0, none⟩)) 3 fun v56 =>
      bslA [(0, 3, true, v56)] (zerosL [.string .empty, .string .empty, .bool false] 1) 1 3 fun v57 => appA w0 3 40 x1 v57 fun v58 => q0x prog w0 k0 kr m v58 (.slice none 0 0) (.bool false) v54 (ptr r)))) (hX.new zE 3) := by
    intro hX wX sX
    have sn : Step hX (hX.new zE 3) [] [hX.next] := (Step.refl hX [] (by simp)).new _ _
    exact fin2 _ hX.next (wX.frame sn (by simp)) ((sX.new _ _).less (by simp)) sX.next (by simp) (by simp)
   simp only [wd, wa, c3, qgk _ _ _ (show rdn a.1 ≤ ahead.length by omega), hgn, q0z]
   have hcell : ∀ v, v ∈ [Value.string .empty, .string .empty, .bool false] → isCell v = true := by simp [isCell]
   refine ⟨?_, ?_⟩
   ·refine qb (R1 _ w6) fun v h7 ⟨e7, w7, s7⟩ f7 => ?_
    subst e7
    simp only [hadd, wd, wa, q0z]
    refine ⟨?_, ?_⟩
    ·refine qb (R2 _ w7) fun v h8 ⟨e8, w8, s8⟩ f8 => ?_
     subst e8
     simp only [q0z, q01, q07, qw, qu, List.set_cons_zero, List.set_cons_succ, hagg, wd, wa]
     have c7 : isCell (.string (str (ahead.take (rdn a.1) ++ e.1))) = true := rfl
     exact ⟨⟨rfl, by simp, rfl, by simp, rfl, by simp, hcell, fin3 h8 w8 (s7.trans s8)⟩, hcell, rfl, by simp, rfl, by simp, rfl, by simp, fin3 h8 w8 (s7.trans s8)⟩
    ·simp only [q07]
     refine ⟨hcell, ?_⟩
     have sn : Step h7 (h7.new zE 3) [] [h7.next] := (Step.refl h7 [] (by simp)).new _ _
     have n1 : h7.next < (h7.new zE 3).next := by simp
     have wn := w7.frame sn (by simp)
     have bn : (h7.new zE 3).blk h7.next = some zE := by simp
     have sX : Step h6 (h7.new zE 3) [r] [r, h7.next] := (s7.new _ _).less (by simp)
     have fn : Fit w0 (h7.new zE 3) := f7.new hcell
     have hr7 := w7.2.2.1
     have hq7 := s7.next
     show callA _ _ _ _ _ (h7.new zE 3)
     generalize h7.new zE 3 = h7' at *
     generalize h7.next = q at *
     refine qb (R2 _ wn) fun v h8 ⟨e8, w8, s8⟩ f8 => ?_
     subst e8
     simp only [q0z, q01, qw, qu, List.set_cons_zero, List.set_cons_succ, hagg, wd, wa]
     have b8 : h8.blk q = some zE := by rw [(s8.keep q n1 (by simp; omega)).1]; exact bn
     exact ⟨rfl, by simp, rfl, by simp, rfl, by simp, fin2 h8 q w8 (sX.trans (s8.more [q] (by simpa using n1))) hq7 b8 (Nat.lt_of_lt_of_le n1 s8.next)⟩
   ·simp only [q07]
    refine ⟨hcell, ?_⟩
    have sn : Step h6 (h6.new zE 3) [] [h6.next] := (Step.refl h6 [] (by simp)).new _ _
    have n1 : h6.next < (h6.new zE 3).next := by simp
    have wn := w6.frame sn (by simp)
    have bn : (h6.new zE 3).blk h6.next = some zE := by simp
    have sX : Step h6 (h6.new zE 3) [r] [r, h6.next] := ((Step.refl h6 [r] (by simpa using w6.2.2.1)).new _ _).less (by simp)
    have fn : Fit w0 (h6.new zE 3) := f6.new hcell
    have hr7 := w6.2.2.1
    show callA _ _ _ _ _ (h6.new zE 3)
    generalize h6.new zE 3 = h6' at *
    refine qb (R1 _ wn) fun v h7 ⟨e7, w7, s7⟩ f7 => ?_
    subst e7
    simp only [hadd, wd, wa, q0z]
    refine qb (R2 _ w7) fun v h8 ⟨e8, w8, s8⟩ f8 => ?_
    subst e8
    simp only [q0z, q01, qw, qu, List.set_cons_zero, List.set_cons_succ, hagg, wd, wa]
    have s78 := s7.trans s8
    have b8 : h8.blk h6.next = some zE := by rw [(s78.keep h6.next n1 (by simp; omega)).1]; exact bn
    exact ⟨rfl, by simp, rfl, by simp, rfl, by simp, fin2 h8 h6.next w8 (sX.trans (s78.more [h6.next] (by simpa using n1))) (Nat.le_refl _) b8 (Nat.lt_of_lt_of_le n1 s78.next)⟩
end
theorem qsy : ∀ (m : Nat) (st : RS) (a : Key) (acc l : List Ent), rdB m st a acc = some l → l.length ≤ acc.length + st.s.length
 | 0, st, a, acc, l, h => by simp [rdB] at h
 | m + 1, st, a, acc, l, h => by
  rw [rdB] at h
  split at h
  ·cases h; omega
  ·rename_i hl
   simp only at h
   split at h
   ·cases h
   ·split at h
    ·cases h
    ·have := qsy m _ _ _ _ h
     have d1 := qti hl
     have d2 := q1x (st.raw 1).2 1
     have d3 := q1x ((st.raw 1).2.raw 1).2 1
     have d4 := q1x (((st.raw 1).2.raw 1).2.raw 1).2 1
     have d5 := q1x ((((st.raw 1).2.raw 1).2.raw 1).2.raw 1).2 (rdn ((st.raw 1).2.raw 1).1)
     have d6 := q1x (((((st.raw 1).2.raw 1).2.raw 1).2.raw 1).2.raw (rdn ((st.raw 1).2.raw 1).1)).2 (rdn ((((st.raw 1).2.raw 1).2.raw 1).2.raw 1).1)
     simp only [List.length_append, List.length_singleton] at this
     omega
section
variable {w0 : World} {h h' : Hp}
theorem q070 {v : Value} {acc : List Ent} {S : List Nat} (s : List UInt8) (g : Vec w0 h 3 v acc.length (acc.flatMap ee) S) (hb : acc.length + s.length ≤ 3500000000000) :
  ACalls prog w0 qgv [.string (str s), v] h fun r h' => match rdB (s.length + 1) ⟨s, 0⟩ [] acc with
   | none => r = .tuple #[.slice none 0 0, .bool false] ∧ Step h h' S []
   | some l => ∃ x S', r = .tuple #[x, .bool true] ∧ Vec w0 h' 3 x l.length (l.flatMap ee) S' ∧ Step h h' S S' := by
 refine ACalls.of_fit (by simpa using g.gv.nj) fun f => q041 (by simpa using g.gv.nj) ?_
 simp only [qbj]
 refine qb (q7b s (by omega)) fun v1 h1 ⟨e, w1, s1⟩ f1 => ?_
 subst e
 have hSlt := fun b hb => (g.lt b hb).2
 have hrS : h.next ∉ S := fun q => by have := hSlt _ q; omega
 have g1 := g.frame s1 (by simp)
 have s01 : Step h h1 S (h.next :: S) := (s1.more S hSlt)
 have lts := fun b hb => (s01.own b hb).1
 refine ⟨s.length + 1, ?_⟩
 have em : ByteArray.empty = str ([] : Key) := rfl
 rw [em]
 refine q01i (S0 := S) (hh := h1) (T := acc.length + s.length) (res := rdB (s.length + 1) ⟨s, 0⟩ [] acc) (by omega) ?_ ?_ (s.length + 1) ⟨s, 0⟩ [] acc h1 v S (by simp) (by simp) (by simp) rfl w1 g1 hrS (.refl _ _ lts)
 ·intro l hl h' x' S' y z gx sx hlen
  simp only [hl, qd, qk]
  exact ⟨by simp [gx.gv.nj], x', S', rfl, gx, (s01.trans sx).less fun b hb => List.mem_cons_of_mem _ hb⟩
 ·intro hl h' x' S' sx
  simp only [hl, qd, qk]
  exact ⟨by simp, trivial, (s01.trans sx).less (by simp)⟩
theorem qs7 (st : RS) : st.varint.1 < 18446744073709551616 := by
 have hb := qqo st.s 0 0 (by omega) (by simp)
 unfold RS.varint
 split
 ·simp
 ·split
  ·simp
  ·exact hb.1
def spansB (b : List UInt8) : Nat := rdn ((((⟨b.drop (b.length - 24), 0⟩ : RS).raw 4).2.raw 4).2.raw 4).1
theorem q02h {k0 kr : Value → Value → Value → Value → Value → Value → Hp → Prop} {b : List UInt8} {r at_ N : Nat} {hh : Hp} {x3 x4 x7 x8 : Value} {res : Option (List Ent)} (hb : b.length ≤ 1000000000) (hat : at_ ≤ b.length) (hN : N * b.length ≤ 3500000000000) (hN2 : N ≤ b.length)
  (hk : ∀ l, res = some l → ∀ h' x' S' y, Vec w0 h' 3 x' l.length (l.flatMap ee) S' → Step hh h' [r] (r :: S') → l.length ≤ 3500000000000 → k0 x' x3 x4 y x7 x8 h')
  (hkr : res = none → ∀ h', Step hh h' [r] [r] → kr (.slice none 0 0) (.int .i64 0) (.int .i64 0) (.bool false) x7 x8 h') :
  ∀ (m n : Nat) (st : RS) (acc : List Ent) (h1 : Hp) (x1 y : Value) (S : List Nat), n + m = N → res = prsG b at_ m st acc → Rd w0 h1 r st → Vec w0 h1 3 x1 acc.length (acc.flatMap ee) S → r ∉ S → Step hh h1 [r] (r :: S) → acc.length + m * b.length ≤ N * b.length →
   q3u prog w0 k0 kr (m + 1) (.string (str b)) x1 x3 x4 y (ptr r) x7 x8 (.int .i64 (at_ : Int)) (.int .i64 (N : Int)) (.int .i64 (n : Int)) h1 := by
 intro m
 induction m with
 | zero =>
  intro n st acc h1 x1 y S hn hres w g hrS stp hl
  have c1 : decide ((n : Int) < (N : Int)) = false := decide_eq_false (by omega)
  rw [q3u]
  simp only [qax, wd, wa, c1]
  exact hk acc hres h1 x1 S y g stp (by omega)
 | succ m ih =>
  intro n st acc h1 x1 y S hn hres w g hrS stp hl
  have hSlt := fun b hb => (g.lt b hb).2
  have c1 : decide ((n : Int) < (N : Int)) = true := decide_eq_true (by omega)
  rw [q3u]
  simp only [qax, wd, wa, c1]
  rw [prsG] at hres
  refine qb (q02p w) fun v h2 ⟨e, w2, s2⟩ f2 => ?_
  generalize st.text = t at *
  refine qb (qaw w2) fun v h3 ⟨e, w3, s3⟩ f3 => ?_
  subst e
  have v1 := qs7 t.2
  generalize t.2.varint = f at *
  refine qb (qaw w3) fun v h4 ⟨e, w4, s4⟩ f4 => ?_
  subst e
  have v2 := qs7 f.2
  generalize f.2.varint = z at *
  refine qb (q80 w4) fun v h5 ⟨e, e'⟩ f5 => ?_
  subst e e'
  have s14 : Step h1 h5 [r] [r] := s2.trans (s3.trans s4)
  have g5 := g.frame s14 (by simpa using fun b hb => (fun e => hrS (by rw [← e]; exact hb) : b ≠ r))
  have st5 : Step hh h5 [r] (r :: S) := stp.trans (s14.more S hSlt)
  by_cases he : z.2.err = 0
  ·have c2 : (z.2.err != 0) = false := by simp [he]
   have u1 : IntKind.u64.wrap (at_ : Int) = (at_ : Int) := IntWalk.u64_in _ (by omega)
   simp only [wd, wa, c2, u1]
   by_cases hf : at_ < f.1
   ·have c3 : decide ((at_ : Int) < (f.1 : Int)) = true := decide_eq_true (by omega)
    simp only [wd, wa, c3]
    rw [if_pos (.inr (.inl hf))] at hres
    exact hkr hres h5 (st5.less (by simp))
   ·have c3 : decide ((at_ : Int) < (f.1 : Int)) = false := decide_eq_false (by omega)
    have u2 : IntKind.u64.wrap ((at_ : Int) - (f.1 : Int)) = ((at_ - f.1 : Nat) : Int) := by rw [IntWalk.u64_in _ (by omega)]; omega
    simp only [wd, wa, c3, u1, u2]
    by_cases hz : at_ - f.1 < z.1
    ·have c4 : decide (((at_ - f.1 : Nat) : Int) < (z.1 : Int)) = true := decide_eq_true (by omega)
     simp only [wd, wa, c4, u1, u2]
     rw [if_pos (.inr (.inr hz))] at hres
     exact hkr hres h5 (st5.less (by simp))
    ·have c4 : decide (((at_ - f.1 : Nat) : Int) < (z.1 : Int)) = false := decide_eq_false (by omega)
     have u3 : IntKind.u64.wrap ((f.1 : Int) + (z.1 : Int)) = ((f.1 + z.1 : Nat) : Int) := by rw [IntWalk.u64_in _ (by omega)]; omega
     simp only [wd, wa, c4, u1, u2, u3, qpn b _ _ f.1 (f.1 + z.1) (by omega) (by omega)]
     rw [if_neg (by
      intro q
      rcases q with q | q | q
      ·exact q he
      ·exact hf q
      ·exact hz q)] at hres
     have hsl : (b.take (f.1 + z.1)).drop f.1 = (b.drop f.1).take z.1 := by rw [List.drop_take]; congr 1; omega
     have hsll : ((b.drop f.1).take z.1).length = z.1 := by rw [List.length_take, List.length_drop]; omega
     rw [hsl]
     have hmb : (m + 1) * b.length = m * b.length + b.length := by rw [Nat.add_mul, Nat.one_mul]
     refine qb (q070 _ g5 (by rw [hsll]; omega)) fun v h6 hv f6 => ?_
     rw [hsll] at hv
     have hrl := w4.2.2.1
     cases hr : rdB (z.1 + 1) ⟨(b.drop f.1).take z.1, 0⟩ [] acc with
     | none =>
      rw [hr] at hv hres
      obtain ⟨e, s6⟩ := hv
      subst e
      simp only [wd, wa]
      exact hkr hres h6 (st5.trans ((s6.consR hrl).wide (fun b hb => hb) fun b hb => .inl hb))
     | some l =>
      rw [hr] at hv hres
      obtain ⟨x, S', e, g6, s6⟩ := hv
      subst e
      have hlen := qsy _ _ _ _ _ hr
      simp only [hsll] at hlen
      have e6 : IntKind.i64.wrap ((n : Int) + 1) = ((n + 1 : Nat) : Int) := by rw [IntWalk.i64_in _ (by omega)]; simp
      simp only [wd, wa, e6]
      have hrS' : r ∉ S' := fun q => by
       rcases (s6.own _ q).2 with q | q
       ·exact hrS q
       ·omega
      exact ih (n + 1) z.2 l h6 x _ S' (by omega) hres (w4.frame s6 hrS) g6 hrS' (st5.trans (s6.consR hrl)) (by omega)
  ·have c2 : (z.2.err != 0) = true := by simp [he]
   simp only [wd, wa, c2]
   rw [if_pos (.inl he)] at hres
   exact hkr hres h5 (st5.less (by simp))
theorem q02x (b : List UInt8) (hb : b.length ≤ 1000000000) (hN : min (spansB b) b.length * b.length ≤ 3500000000000) :
  ACalls prog w0 qgi [.string (str b)] h fun r h' => match prs b with
   | none => (∃ v e1 e2, r = .tuple #[v, e1, e2, .bool false]) ∧ Step h h' [] []
   | some (l, block, n) => ∃ x S', r = .tuple #[x, .int .i64 (block : Int), .int .i64 (n : Int), .bool true] ∧ Vec w0 h' 3 x l.length (l.flatMap ee) S' ∧ l.length ≤ 3500000000000 ∧ Step h h' [] S' := by
 refine ACalls.of_fit (by simp) fun f => q026 (by simp) ?_
 simp only [qb7]
 generalize hP : prs b = P
 by_cases hl : b.length < 24
 ·have c1 : decide ((b.length : Int) < 24) = true := decide_eq_true (by omega)
  simp only [wd, wa, c1, qd, qk]
  rw [prs, if_pos hl] at hP
  subst hP
  exact ⟨by simp, ⟨_, _, _, rfl⟩, .refl _ _ (by simp)⟩
 have c1 : decide ((b.length : Int) < 24) = false := decide_eq_false (by omega)
 have e1 : IntKind.i64.wrap ((b.length : Int) - 24) = ((b.length - 24 : Nat) : Int) := by rw [IntWalk.i64_in _ (by omega)]; omega
 simp only [wd, wa, c1, e1, q7s b _ _ (show b.length - 24 ≤ b.length by omega)]
 rw [prs, if_neg hl] at hP
 simp only at hP
 unfold spansB at hN
 refine qb (q7b _ (by simp; omega)) fun v h1 ⟨e, w1, s1⟩ f1 => ?_
 subst e
 generalize hs0 : (⟨b.drop (b.length - 24), 0⟩ : RS) = s0 at *
 have l1 := q4p s0 4
 refine qb (q5c w1) fun v h2 ⟨e, w2, s2⟩ f2 => ?_
 subst e
 generalize s0.raw 4 = a at *
 have u1 : IntKind.i64.wrap ((rdn a.1 : Nat) : Int) = ((rdn a.1 : Nat) : Int) := IntWalk.i64_in _ (by omega)
 simp only [wd, wa, u1]
 have l2 := q4p a.2 4
 refine qb (q5c w2) fun v h3 ⟨e, w3, s3⟩ f3 => ?_
 subst e
 generalize a.2.raw 4 = c at *
 have u2 : IntKind.i64.wrap ((rdn c.1 : Nat) : Int) = ((rdn c.1 : Nat) : Int) := IntWalk.i64_in _ (by omega)
 simp only [wd, wa, u2]
 have l3 := q4p c.2 4
 refine qb (q5c w3) fun v h4 ⟨e, w4, s4⟩ f4 => ?_
 subst e
 generalize c.2.raw 4 = d at *
 have u3 : IntKind.i64.wrap ((rdn d.1 : Nat) : Int) = ((rdn d.1 : Nat) : Int) := IntWalk.i64_in _ (by omega)
 simp only [wd, wa, u3]
 have l4 := q4p d.2 4
 refine qb (q5c w4) fun v h5 ⟨e, w5, s5⟩ f5 => ?_
 subst e
 generalize d.2.raw 4 = e at *
 have u4 : IntKind.i64.wrap ((rdn e.1 : Nat) : Int) = ((rdn e.1 : Nat) : Int) := IntWalk.i64_in _ (by omega)
 simp only [wd, wa, u4, e1]
 have s15 : Step h h5 [] [h.next] := s1.trans (s2.trans (s3.trans (s4.trans s5)))
 by_cases ha : b.length - 24 < rdn e.1
 ·have c2 : decide (((b.length - 24 : Nat) : Int) < ((rdn e.1 : Nat) : Int)) = true := decide_eq_true (by omega)
  simp only [wd, wa, c2, qd, qk]
  rw [if_pos ha] at hP
  subst hP
  exact ⟨by simp, ⟨_, _, _, rfl⟩, s15.less (by simp)⟩
 have c2 : decide (((b.length - 24 : Nat) : Int) < ((rdn e.1 : Nat) : Int)) = false := decide_eq_false (by omega)
 simp only [wd, wa, c2, e1, qpn b _ _ (rdn e.1) (b.length - 24) (by omega) (by omega)]
 rw [if_neg ha] at hP
 refine qb (q7b _ (by simp; omega)) fun v h6 ⟨e, w6, s6⟩ f6 => ?_
 subst e
 have hmin : min (rdn d.1 : Int) (b.length : Int) = ((min (rdn d.1) b.length : Nat) : Int) := by omega
 simp only [wd, wa, q02u, q057, q046, Option.bind_some, hmin]
 refine ⟨min (rdn d.1) b.length + 1, ?_⟩
 have s06 : Step h h6 [] [h5.next] := (s15.less (T := []) (by simp)).trans s6
 refine q02h (hh := h6) (res := prsG b (rdn e.1) (min (rdn d.1) b.length) ⟨(b.take (b.length - 24)).drop (rdn e.1), 0⟩ []) hb (by omega) hN (by omega) ?_ ?_ _ 0 _ [] h6 _ _ [] (by omega) rfl w6 .nil (by simp) (.refl _ _ (by simpa using w6.2.2.1)) (by simp)
 ·intro l hl h7 x S7 y g7 s7 hlen
  have hl7 : lenSl x = some (.int .i64 (l.length : Int)) := g7.sl.lenv
  rw [hl] at hP
  simp only at hP
  simp only [hl7, wd, wa, qd, qk]
  refine ⟨by simp [g7.gv.nj], ?_⟩
  by_cases hq : l.length = rdn c.1
  ·rw [if_pos hq] at hP
   subst hP
   exact ⟨x, S7, by simp [hq], g7, hlen, (s06.trans s7).less fun b hb => List.mem_cons_of_mem _ hb⟩
  ·rw [if_neg hq] at hP
   subst hP
   exact ⟨⟨x, .int .i64 (rdn a.1 : Nat), .int .i64 (rdn d.1 : Nat), by simp; omega⟩, (s06.trans s7).less (by simp)⟩
 ·intro hl h7 s7
  rw [hl] at hP
  subst hP
  simp only [qd, qk]
  exact ⟨by simp, ⟨_, _, _, rfl⟩, (s06.trans s7).less (by simp)⟩
end
end Go.Proofs.YtfmoemconapmhaaGreat.Ah
