/- law 12: does a memtable go over just these. -/
import Derived.Test.YthjpddggnhgjhaaExk
import Derived.Test.YthjpddggnhgjhaaExg
set_option linter.unusedVariables false
set_option linter.unusedSimpArgs false
set_option linter.constructorNameAsVariable false
namespace Go.Proofs.Ythjpddggnhgjhaa.Ah
open Go
section
variable {w0 : World} {h h' : Hp}
structure GF (w0 : World) (h : Hp) (q10 q11 q12 : Nat) (w : Value) (wl : List Ent) (stop : Int) : Prop where
  b10 : h.blk q10 = some [w]
  b11 : h.blk q11 = some [.int .i64 stop]
  b12 : h.blk q12 = some [.bool false]
  w10 : w0.heap.size ≤ q10
  w11 : w0.heap.size ≤ q11
  w12 : w0.heap.size ≤ q12
  is : Es w0 h w wl
  lt : ∀ b, b ∈ sblk w → b < h.next
theorem GF.y {q10 q11 q12 N : Nat} {w : Value} {wl : List Ent} {stop : Int} (g : GF w0 h q10 q11 q12 w wl stop) (f : Fit w0 h) (y : YStep N h h' [] []) : GF w0 h' q10 q11 q12 w wl stop :=
  ⟨by rw [(y.keep _ (f.lt _ _ g.b10) (by simp)).1]; exact g.b10, by rw [(y.keep _ (f.lt _ _ g.b11) (by simp)).1]; exact g.b11, by rw [(y.keep _ (f.lt _ _ g.b12) (by simp)).1]; exact g.b12, g.w10, g.w11, g.w12,
    (g.is.stepL g.lt y.step (by simp) : Es w0 (h'.as h) w wl), fun b hb => Nat.lt_of_lt_of_le (g.lt b hb) y.next⟩
def GC (w0 : World) (B q10 q11 q14 q15 : Nat) (w : Value) (wl : List Ent) (stop rd : Int) (i : Nat) (h1 : Hp) (S1 : List Nat) : Prop :=
  S1 = [q15] ∧ h1.blk q15 = some [.int .i64 (i : Int)] ∧ h1.blk q10 = some [w] ∧ h1.blk q11 = some [.int .i64 stop] ∧ h1.blk q14 = some [.int .i64 rd] ∧ Es w0 h1 w wl ∧ B ≤ h1.next
def GD (B q15 : Nat) (stop rd : Int) (o : Option Nat) (h1 : Hp) (S1 : List Nat) : Prop :=
  o = some 2 ∧ S1 = [q15] ∧ rd = 0 ∧ (∃ i : Nat, h1.blk q15 = some [.int .i64 (i : Int)] ∧ (i : Int) = stop) ∧ B ≤ h1.next
theorem gc_keep {B q10 q11 q14 q15 i : Nat} {w : Value} {wl : List Ent} {stop rd : Int} (h10 : q10 < B) (h11 : q11 < B) (h14 : q14 < B) (h15 : q15 < B) (hx : ∀ b, b ∈ sblk w → b < B) : KeepC w0 0 B (GC w0 B q10 q11 q14 q15 w wl stop rd i) := by
  refine ⟨fun h lp S _ c => c, fun h h' S T T' f ⟨e, a15, a10, a11, a14, ai, an⟩ st hd hB => ?_, fun h S ⟨e, a15, a10, a11, a14, ai, an⟩ b hb => ?_⟩
  · have k : ∀ b, b < B → b ∉ T := fun b hb q => by have := hB b q; omega
    have kk : ∀ b, b < B → h'.blk b = h.blk b := fun b hb => (st.keep b (by omega) (k b hb)).1
    exact ⟨e, by rw [kk _ h15]; exact a15, by rw [kk _ h10]; exact a10, by rw [kk _ h11]; exact a11, by rw [kk _ h14]; exact a14, ai.step f st (fun b hb => k b (hx b hb)), Nat.le_trans an st.1⟩
  · subst e
    simp at hb
    omega
theorem gd_keep {B q15 : Nat} {stop rd : Int} {o : Option Nat} (h15 : q15 < B) : KeepC w0 0 B (GD B q15 stop rd o) := by
  refine ⟨fun h lp S _ c => c, fun h h' S T T' f ⟨eo, e, er, ⟨i, a15, ei⟩, an⟩ st hd hB => ?_, fun h S ⟨eo, e, er, _, an⟩ b hb => ?_⟩
  · have k : ∀ b, b < B → b ∉ T := fun b hb q => by have := hB b q; omega
    exact ⟨eo, e, er, ⟨i, by rw [(st.keep _ (by omega) (k _ h15)).1]; exact a15, ei⟩, Nat.le_trans an st.1⟩
  · subst e
    simp at hb
    omega
theorem all_round {R : Value → Value → Value → Value → Value → Value → Hp → Prop} {k0 kr : Value → Value → Value → Hp → Prop} {x0 : Value} {q10 q11 q12 q14 : Nat} {w fv : Value} {wl : List Ent} {stop : Int} {rd : Nat} {T : List Nat} (hrd : rd < 2) (hwl : wl.length ≤ 1000000000)
    (g : GF w0 h q10 q11 q12 w wl stop) (f : Fit w0 h) (b14 : h.blk q14 = some [.int .i64 (rd : Int)]) (w14 : w0.heap.size ≤ q14) (hT : ∀ b, b ∈ T → b < h.next)
    (hit : ∀ h1, Fit w0 h1 → YStep 0 h h1 [] [] → ∀ g, ItV prog w0 fv (h1.newLp g) T (sV wl))
    (hR : ∀ h' q, Fit w0 h' → YStep 0 h h' [] [] → h'.blk q = some [.int .i64 ((rd + 1 : Nat) : Int)] → w0.heap.size ≤ q → R x0 (ptr q10) (ptr q11) (ptr q12) fv (ptr q) h') :
    deduplaw12_all_B1 prog w0 R k0 kr x0 (ptr q10) (ptr q11) (ptr q12) fv (ptr q14) h := by
  have fb := f.base
  have l10 := f.lt _ _ g.b10
  have l11 := f.lt _ _ g.b11
  have l14 := f.lt _ _ b14
  have c1 : decide ((rd : Int) < 2) = true := decide_eq_true (by omega)
  simp only [deduplaw12_all_B1, ptr]
  refine loadA_at w14 b14 rfl ?_
  simp only [wd, List.getElem?_toArray, List.getElem?_cons_zero, List.getElem?_cons_succ, c1, newA_iff]
  refine ⟨by simp [isCell], ?_⟩
  refine storeA_at (cs := [.int .i64 0]) fb (by simp) (by simp) rfl ?_
  simp only [List.set_cons_zero]
  have sA : Step h ((h.new [.int .i64 0] 1).put h.next [.int .i64 0]) [] [h.next] := ((Step.refl h [] (by simp)).new _ _).put (by simp) _
  have fA : Fit w0 ((h.new [.int .i64 0] 1).put h.next [.int .i64 0]) := (f.new (by simp [isCell])).put fb (by simp) (by simp [isCell])
  have b15 : ((h.new [.int .i64 0] 1).put h.next [.int .i64 0]).blk h.next = some [.int .i64 ((0 : Nat) : Int)] := by simp
  have nA : ((h.new [.int .i64 0] 1).put h.next [.int .i64 0]).next = h.next + 1 := rfl
  generalize (h.new [.int .i64 0] 1).put h.next [.int .i64 0] = hA at *
  generalize hq : h.next = q15 at *
  have yA : YStep 0 h hA [] [] := (sA.less (T := []) (by simp)).y 0
  have gA := g.y f yA
  have bA14 : hA.blk q14 = some [.int .i64 (rd : Int)] := by rw [(yA.keep _ (by omega) (by simp)).1]; exact b14
  -- behind the loop
  have aft : ∀ (h3 : Hp) (i : Nat), Fit w0 h3 → YStep 0 h h3 [] [] → h3.blk q15 = some [.int .i64 (i : Int)] → q15 < h3.next → (i = wl.length ∨ (rd = 0 ∧ (i : Int) = stop)) →
      loadA w0 (.pointer (some ⟨q15, 0, none⟩)) (fun v63_54 =>
       loadA w0 (.pointer (some ⟨q10, 0, none⟩)) fun v64_55 =>
       pureA (lenSl v64_55) fun v65_56 =>
       pureA (binA .neq v63_54 v65_56) fun v66_57 =>
       guardA v66_57 true (loadA w0 (.pointer (some ⟨q14, 0, none⟩))) fun v68_58 =>
       guardA v66_57 true (pureA (binA .neq v68_58 (.int .i64 0))) fun v69_59 =>
       guardA v66_57 true (fun K => K v69_59) fun v70_60 =>
       guardA v70_60 false (loadA w0 (.pointer (some ⟨q15, 0, none⟩))) fun v71_61 =>
       guardA v70_60 false (loadA w0 (.pointer (some ⟨q11, 0, none⟩))) fun v72_62 =>
       guardA v70_60 false (pureA (binA .neq v71_61 v72_62)) fun v73_63 =>
       guardA v66_57 true (pickA v70_60 (.bool true) v73_63) fun v74_64 =>
       pickA v66_57 v74_64 (.bool false) fun v75_65 =>
       condA v75_65 (
       storeA w0 (.pointer (some ⟨q12, 0, none⟩)) (.bool false) fun _ =>
       kr x0 (.pointer (some ⟨q10, 0, none⟩)) (.pointer (some ⟨q12, 0, none⟩))) (
       loadA w0 (.pointer (some ⟨q14, 0, none⟩)) fun v76_66 =>
       newA [(.int .i64 0)] 1 fun v14_67 =>
       storeA w0 v14_67 v76_66 fun _ =>
       loadA w0 v14_67 fun v27_68 =>
       pureA (binA .add v27_68 (.int .i64 1)) fun v28_69 =>
       storeA w0 v14_67 v28_69 fun _ =>
       R x0 (.pointer (some ⟨q10, 0, none⟩)) (.pointer (some ⟨q11, 0, none⟩)) (.pointer (some ⟨q12, 0, none⟩)) fv v14_67)) h3 := by
    intro h3 i f3 y3 b3 n3 hi
    have g3 := g.y f y3
    have e14 : h3.blk q14 = some [.int .i64 (rd : Int)] := by rw [(y3.keep _ (by omega) (by simp)).1]; exact b14
    have fin : loadA w0 (.pointer (some ⟨q14, 0, none⟩)) (fun v76_66 =>
       newA [(.int .i64 0)] 1 fun v14_67 =>
       storeA w0 v14_67 v76_66 fun _ =>
       loadA w0 v14_67 fun v27_68 =>
       pureA (binA .add v27_68 (.int .i64 1)) fun v28_69 =>
       storeA w0 v14_67 v28_69 fun _ =>
       R x0 (.pointer (some ⟨q10, 0, none⟩)) (.pointer (some ⟨q11, 0, none⟩)) (.pointer (some ⟨q12, 0, none⟩)) fv v14_67) h3 := by
      refine loadA_at w14 e14 rfl ?_
      simp only [newA_iff]
      refine ⟨by simp [isCell], ?_⟩
      have fb3 := f3.base
      refine storeA_at (cs := [.int .i64 0]) fb3 (by simp) (by simp) rfl ?_
      refine loadA_at (cs := [.int .i64 (rd : Int)]) fb3 (by simp) rfl ?_
      have e4 : IntKind.i64.wrap ((rd : Int) + 1) = ((rd + 1 : Nat) : Int) := by rw [IntWalk.i64_in _ (by omega)]; simp
      simp only [wd, List.getElem?_toArray, List.getElem?_cons_zero, List.getElem?_cons_succ, e4]
      refine storeA_at (cs := [.int .i64 (rd : Int)]) fb3 (by simp) (by simp) rfl ?_
      simp only [List.set_cons_zero]
      have st : Step h3 (((h3.new [.int .i64 0] 1).put h3.next [.int .i64 (rd : Int)]).put h3.next [.int .i64 ((rd + 1 : Nat) : Int)]) [] [h3.next] := (((Step.refl h3 [] (by simp)).new _ _).put (by simp) _).put (by simp) _
      exact hR _ h3.next (((f3.new (by simp [isCell])).put fb3 (by simp) (by simp [isCell])).put fb3 (by simp) (by simp [isCell])) (y3.trans ((st.less (T := []) (by simp)).y 0)) (by simp) fb3
    refine loadA_at (by omega) b3 rfl ?_
    refine loadA_at g3.w10 g3.b10 rfl ?_
    simp only [g3.is.lenv, wd, List.getElem?_toArray, List.getElem?_cons_zero, List.getElem?_cons_succ]
    by_cases hil : i = wl.length
    · have c2 : ((i : Int) != (wl.length : Int)) = false := by simp [hil]
      simp only [c2, wd, List.getElem?_toArray, List.getElem?_cons_zero, List.getElem?_cons_succ]
      exact fin
    · have c2 : ((i : Int) != (wl.length : Int)) = true := by simp; omega
      obtain ⟨r0, rs⟩ := hi.resolve_left hil
      subst r0
      simp only [c2, wd, List.getElem?_toArray, List.getElem?_cons_zero, List.getElem?_cons_succ]
      refine loadA_at w14 e14 rfl ?_
      have c3 : (((0 : Nat) : Int) != 0) = false := rfl
      simp only [c3, wd, List.getElem?_toArray, List.getElem?_cons_zero, List.getElem?_cons_succ]
      refine loadA_at (by omega) b3 rfl ?_
      refine loadA_at g3.w11 g3.b11 rfl ?_
      have c4 : ((i : Int) != stop) = false := by simp [rs]
      simp only [c4, wd, List.getElem?_toArray, List.getElem?_cons_zero, List.getElem?_cons_succ]
      exact fin
  have l15 : q15 < hA.next := by omega
  refine rangeA_of' (xs := sV wl) (T := T) 0 (Nat.zero_le _) fA (hit hA fA yA) _ (fun b g x K h1 hl hk => round_st hl hk) [q15] (GC w0 hA.next q10 q11 q14 q15 w wl stop (rd : Int)) (GD hA.next q15 stop (rd : Int))
    (fun i => gc_keep (by omega) (by omega) (by omega) l15 (fun b hb => by have := g.lt b hb; omega)) (fun o => gd_keep l15) ⟨rfl, b15, gA.b10, gA.b11, bA14, gA.is, Nat.le_refl _⟩ (fun b hb hbT => by simp at hb; have := hT b hbT; omega) ?_ ?_ ?_ ?_
  · intro y hy
    obtain ⟨x, hx, rfl⟩ := List.mem_map.1 hy
    exact ⟨rfl, by simp [iv]⟩
  · rintro i y h1 S1 g1 K hi f1 ⟨e, a15, a10, a11, a14, ai, an⟩ lb _ ends exits
    subst e
    unfold sV at hi
    rw [List.getElem?_map] at hi
    obtain ⟨x, hx, rfl⟩ := Option.map_eq_some_iff.1 hi
    have hil := (List.getElem?_eq_some_iff.1 hx).1
    have h1b := f1.base
    have l15' : q15 < h1.next := by omega
    simp only [List.getD_cons_zero]
    refine boxN h1b rfl rfl zE_cell ?_
    have sx : Step h1 (h1.new (ee x) 3) [] [h1.next] := (Step.refl h1 [] (by simp)).new _ _
    have bx : (h1.new (ee x) 3).blk h1.next = some (ee x) := by simp
    have nx : h1.next < (h1.new (ee x) 3).next := by simp
    have kx : ∀ b, b < h1.next → (h1.new (ee x) 3).blk b = h1.blk b := fun b hb => (sx.keep b hb (by simp)).1
    have ysx : YStep 0 h1 (h1.new (ee x) 3) [q15] [q15] := ((sx.less (T := []) (by simp)).keepS (S := [q15]) (by simpa using l15')).y 0
    have fx : Fit w0 (h1.new (ee x) 3) := f1.new (by simp [ee, isCell])
    have aix : Es w0 (h1.new (ee x) 3) w wl := ai.step f1 sx (by simp)
    have nnx : h1.next ≤ (h1.new (ee x) 3).next := by simp
    generalize h1.new (ee x) 3 = h2 at *
    replace a15 : h2.blk q15 = some [.int .i64 (i : Int)] := by rw [kx _ l15']; exact a15
    replace a10 : h2.blk q10 = some [w] := by rw [kx _ (by omega)]; exact a10
    replace a11 : h2.blk q11 = some [.int .i64 stop] := by rw [kx _ (by omega)]; exact a11
    replace a14 : h2.blk q14 = some [.int .i64 (rd : Int)] := by rw [kx _ (by omega)]; exact a14
    replace an : hA.next ≤ h2.next := by omega
    simp only [wd, List.getElem?_toArray, List.getElem?_cons_zero, List.getElem?_cons_succ]
    refine loadA_at (by omega) a15 rfl ?_
    refine loadA_at g.w10 a10 rfl ?_
    have c2 : decide ((wl.length : Int) ≤ (i : Int)) = false := decide_eq_false (by omega)
    simp only [aix.lenv, wd, List.getElem?_toArray, List.getElem?_cons_zero, List.getElem?_cons_succ, c2]
    refine loadNA_whole h1b bx rfl ?_
    refine loadA_at g.w10 a10 rfl ?_
    refine loadA_at (by omega) a15 rfl ?_
    refine aix.elem hil (es_get hx) ?_
    simp only [fpureQ_eqStA, neEnt w0, wd, List.getElem?_toArray, List.getElem?_cons_zero, List.getElem?_cons_succ]
    refine loadA_at (by omega) a15 rfl ?_
    have e4 : IntKind.i64.wrap ((i : Int) + 1) = ((i + 1 : Nat) : Int) := by rw [IntWalk.i64_in _ (by omega)]; simp
    simp only [wd, List.getElem?_toArray, List.getElem?_cons_zero, List.getElem?_cons_succ, e4]
    refine storeA_at (cs := [.int .i64 (i : Int)]) (by omega) a15 (by simp) rfl ?_
    simp only [List.set_cons_zero]
    have st : Step h2 (h2.put q15 [.int .i64 ((i + 1 : Nat) : Int)]) [q15] [q15] := (Step.refl h2 [q15] (by simp; omega)).put (by simp) _
    have n14 : q14 ≠ q15 := by omega
    have n10 : q10 ≠ q15 := by omega
    have n11 : q11 ≠ q15 := by omega
    have b14' : (h2.put q15 [.int .i64 ((i + 1 : Nat) : Int)]).blk q14 = some [.int .i64 (rd : Int)] := by rw [put_blk, if_neg n14]; exact a14
    have b10' : (h2.put q15 [.int .i64 ((i + 1 : Nat) : Int)]).blk q10 = some [w] := by rw [put_blk, if_neg n10]; exact a10
    have b11' : (h2.put q15 [.int .i64 ((i + 1 : Nat) : Int)]).blk q11 = some [.int .i64 stop] := by rw [put_blk, if_neg n11]; exact a11
    have b15' : (h2.put q15 [.int .i64 ((i + 1 : Nat) : Int)]).blk q15 = some [.int .i64 ((i + 1 : Nat) : Int)] := by simp
    have ai' : Es w0 (h2.put q15 [.int .i64 ((i + 1 : Nat) : Int)]) w wl := aix.step fx st (fun b hb => by have := g.lt b hb; simp; omega)
    have an' : hA.next ≤ (h2.put q15 [.int .i64 ((i + 1 : Nat) : Int)]).next := an
    have okC : GC w0 hA.next q10 q11 q14 q15 w wl stop (rd : Int) (i + 1) (h2.put q15 [.int .i64 ((i + 1 : Nat) : Int)]) [q15] := ⟨rfl, b15', b10', b11', b14', ai', an'⟩
    refine loadA_at w14 b14' rfl ?_
    rcases (show rd = 0 ∨ rd = 1 by omega) with r0 | r0
    · subst r0
      have c5 : (((0 : Nat) : Int) == 0) = true := rfl
      simp only [wd, List.getElem?_toArray, List.getElem?_cons_zero, List.getElem?_cons_succ, c5]
      refine loadA_at (by omega) b15' rfl ?_
      refine loadA_at g.w11 b11' rfl ?_
      by_cases hs : ((i + 1 : Nat) : Int) = stop
      · have c6 : (((i + 1 : Nat) : Int) == stop) = true := by simp only [beq_iff_eq]; exact hs
        simp only [wd, List.getElem?_toArray, List.getElem?_cons_zero, List.getElem?_cons_succ, c6]
        exact exits (some 2) _ _ (ysx.trans (st.y 0)) ⟨rfl, rfl, rfl, ⟨i + 1, b15', hs⟩, an'⟩
      · have c6 : (((i + 1 : Nat) : Int) == stop) = false := by rw [beq_eq_false_iff_ne]; exact hs
        simp only [wd, List.getElem?_toArray, List.getElem?_cons_zero, List.getElem?_cons_succ, c6]
        exact ends _ _ (ysx.trans (st.y 0)) okC
    · subst r0
      have c5 : (((1 : Nat) : Int) == 0) = false := rfl
      simp only [wd, List.getElem?_toArray, List.getElem?_cons_zero, List.getElem?_cons_succ, c5]
      exact ends _ _ (ysx.trans (st.y 0)) okC
  · rintro h3 S2 f3 ys ⟨e, a15, a10, a11, a14, ai, an⟩
    subst e
    exact aft h3 wl.length f3 (((sA.y 0).trans ys).less (by simp)) (by simpa [sV] using a15) (by omega) (.inl rfl)
  · rintro o h3 S2 f3 ys ⟨eo, e, er, ⟨i, a15, ei⟩, an⟩
    subst e
    refine ⟨_, List.mem_cons_of_mem _ (List.mem_singleton_self _), eo.symm, ?_⟩
    exact aft h3 i f3 (((sA.y 0).trans ys).less (by simp)) a15 (by omega) (.inr ⟨by omega, ei⟩)
theorem all_spec {r w : Value} {l : List Ent} {M : List Nat} {stop : Int} (m : Me w0 h r l M) (hw : Es w0 h w l) (hlt : ∀ b, b ∈ sblk w → b < h.next) :
    ACalls prog w0 n_deduplaw12_all [r, w, .int .i64 stop] h fun v h' => v = .bool true ∧ Step h h' [] [] := by
  refine ACalls.of_fit (by simp [hw.junk, m.nj]) fun f => c_deduplaw12_all (by simp [hw.junk, m.nj]) ?_
  have fb := f.base
  have hl : l.length ≤ 10000000 := by obtain ⟨q, p, M', -, -, -, -, -, -, -, -, z⟩ := m; exact z
  simp only [s_deduplaw12_all]
  refine ⟨hw.isC, rfl, ?_⟩
  simp only [newA_iff]
  refine ⟨by simp [isCell], ?_⟩
  have sA : Step h (((h.new [w] 1).new [.int .i64 stop] 1).new [.bool false] 1) [] [] := ((((Step.refl h [] (by simp)).new _ _).new _ _).new _ _).less (by simp)
  have fA : Fit w0 (((h.new [w] 1).new [.int .i64 stop] 1).new [.bool false] 1) := ((f.new (by simpa using hw.isC)).new (by simp [isCell])).new (by simp [isCell])
  have gA : GF w0 (((h.new [w] 1).new [.int .i64 stop] 1).new [.bool false] 1) h.next (h.next + 1) (h.next + 2) w l stop :=
    ⟨by simp; intro q; omega, by simp, by simp, fb, by omega, by omega, hw.stepL hlt sA (by simp), fun b hb => Nat.lt_of_lt_of_le (hlt b hb) sA.1⟩
  have mA := m.frame sA (by simp)
  have nA : (((h.new [w] 1).new [.int .i64 stop] 1).new [.bool false] 1).next = h.next + 3 := rfl
  show callA prog w0 n_run_Mem_All _ _ (((h.new [w] 1).new [.int .i64 stop] 1).new [.bool false] 1)
  have e1 : (h.new [w] 1).next = h.next + 1 := rfl
  have e2 : ((h.new [w] 1).new [.int .i64 stop] 1).next = h.next + 2 := rfl
  rw [e1, e2]
  clear e1 e2
  generalize hhA : ((h.new [w] 1).new [.int .i64 stop] 1).new [.bool false] 1 = hA at *
  refine callA_of (MemAll_e r m.nj m.isC) fun v h1 ⟨qi, e, d1, d2, d3, s1⟩ f1 => ?_
  subst e
  have g1 := gA.y fA (s1.y 0)
  have m1 := mA.frame s1 (by simp)
  have n1 := s1.1
  simp only [newA_iff]
  refine ⟨by simp [isCell], ?_⟩
  have fb1 := f1.base
  refine storeA_at (cs := [.int .i64 0]) fb1 (by simp) (by simp) rfl ?_
  simp only [List.set_cons_zero]
  have sB : Step h1 ((h1.new [.int .i64 0] 1).put h1.next [.int .i64 0]) [] [h1.next] := ((Step.refl h1 [] (by simp)).new _ _).put (by simp) _
  have fB : Fit w0 ((h1.new [.int .i64 0] 1).put h1.next [.int .i64 0]) := (f1.new (by simp [isCell])).put fb1 (by simp) (by simp [isCell])
  have b14 : ((h1.new [.int .i64 0] 1).put h1.next [.int .i64 0]).blk h1.next = some [.int .i64 ((0 : Nat) : Int)] := by simp
  have sB0 : Step h1 ((h1.new [.int .i64 0] 1).put h1.next [.int .i64 0]) [] [] := sB.less (by simp)
  have g2 := g1.y f1 (sB0.y 0)
  have m2 := m1.frame sB0 (by simp)
  have d12 : ((h1.new [.int .i64 0] 1).put h1.next [.int .i64 0]).blk qi = some [r] := by rw [(sB0.keep _ d3 (by simp)).1]; exact d1
  have nB := sB0.1
  generalize (h1.new [.int .i64 0] 1).put h1.next [.int .i64 0] = h2 at *
  have hML := m2.lt
  have hT : ∀ b, b ∈ qi :: M → b < h2.next := fun b hb => by
    rcases List.mem_cons.1 hb with q | q
    · omega
    · exact (hML b q).2
  have hit : ∀ h3, YStep 0 h2 h3 [] [] → ItV prog w0 (.func (.func n_run_Mem_All_S1) #[] #[ptr qi]) h3 (qi :: M) (sV l) := fun h3 y3 =>
    mem_it (by rw [(y3.keep qi (by omega) (by simp)).1]; exact d12) (by omega) (m2.frame y3.step (by simp) : Me w0 (h3.as h2) r l M) ⟨by simp, fun b hb => by simp [hb]⟩
  refine ⟨3, ?_⟩
  rw [deduplaw12_all_L1]
  refine all_round (x0 := r) (rd := 0) (by omega) (by omega) g2 fB b14 fb1 hT (fun h3 _ y g => hit _ (y.newLp g)) fun h3 q3 f3 y3 b3 w3 => ?_
  rw [deduplaw12_all_L1]
  refine all_round (x0 := r) (rd := 1) (by omega) (by omega) (g2.y fB y3) f3 b3 w3 (fun b hb => Nat.lt_of_lt_of_le (hT b hb) y3.next) (fun h4 _ y g => hit _ ((y3.trans y).newLp g)) fun h4 q4 f4 y4 b4 w4 => ?_
  rw [deduplaw12_all_L1]
  simp only [deduplaw12_all_B1, ptr]
  refine loadA_at w4 b4 rfl ?_
  have c1 : decide (((1 + 1 : Nat) : Int) < 2) = false := rfl
  simp only [wd, List.getElem?_toArray, List.getElem?_cons_zero, List.getElem?_cons_succ, c1]
  have y24 := y3.trans y4
  have g4 := g2.y fB y24
  have m4 : Me w0 h4 r l M := (m2.frame y24.step (by simp) : Me w0 (h4.as h2) r l M)
  refine loadA_at g4.w10 g4.b10 rfl ?_
  simp only [g4.is.lenv, wd, List.getElem?_toArray, List.getElem?_cons_zero, List.getElem?_cons_succ, allA_one]
  refine callA_of (MLen12 m4) fun v h5 ⟨e, e'⟩ f5 => ?_
  subst e
  subst h5
  simp only [stillA_iff, allA_one, sameQ_loadA]
  refine ⟨loadA_at g4.w10 g4.b10 rfl rfl, ?_⟩
  simp only [beq_self_eq_true, wd, List.getElem?_toArray, List.getElem?_cons_zero, List.getElem?_cons_succ]
  refine storeA_at g4.w12 g4.b12 (by simp) rfl ?_
  unfold cutA
  refine loadA_at (cs := [.bool true]) g4.w12 (by simp) rfl ?_
  simp only [retA_iff, oneOf_one]
  have y04 : YStep 0 h h4 [] [] := ((sA.trans (s1.trans sB0)).y 0).trans y24
  have n4 := y24.next
  have yc : YStep 0 h h4 [] [h.next + 2] := ⟨y04.1, y04.2, fun b hb => by
    simp at hb
    subst hb
    exact ⟨by omega, .inr (by omega)⟩, y04.4⟩
  have sp : Step h4 (h4.put (h.next + 2) [.bool true]) [h.next + 2] [h.next + 2] := (Step.refl h4 [h.next + 2] (by simp; omega)).put (by simp) _
  exact ⟨by simp, trivial, ((yc.trans (sp.y 0)).less (T := []) (by simp)).cut⟩
end
end Go.Proofs.Ythjpddggnhgjhaa.Ah
