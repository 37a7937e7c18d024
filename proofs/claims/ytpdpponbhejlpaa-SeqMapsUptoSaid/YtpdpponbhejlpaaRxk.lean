/- The statements' own function: does an iterator go over just these. -/
import Derived.Test.YtpdpponbhejlpaaRxh
import Derived.Test.YtpdpponbhejlpaaRd
set_option linter.unusedVariables false
set_option linter.unusedSimpArgs false
namespace Go.Proofs.Ytpdpponbhejlpaa.Ah
open Go
section
variable {w0 : World} {h h' : Hp}
/-- The walk's variables. -/
structure GF (w0 : World) (h : Hp) (q10 q11 q12 : Nat) (w : Value) (wl : List Itm) (stop : Int) : Prop where
  b10 : h.blk q10 = some [w]
  b11 : h.blk q11 = some [.int .i64 stop]
  b12 : h.blk q12 = some [.bool false]
  w10 : w0.heap.size ≤ q10
  w11 : w0.heap.size ≤ q11
  w12 : w0.heap.size ≤ q12
  is : Is w0 h w wl
  lt : ∀ b, b ∈ sblk w → b < h.next
theorem GF.y {q10 q11 q12 N : Nat} {w : Value} {wl : List Itm} {stop : Int} (g : GF w0 h q10 q11 q12 w wl stop) (f : Fit w0 h) (y : YStep N h h' [] []) : GF w0 h' q10 q11 q12 w wl stop :=
  ⟨by rw [(y.keep _ (f.lt _ _ g.b10) (by simp)).1]; exact g.b10, by rw [(y.keep _ (f.lt _ _ g.b11) (by simp)).1]; exact g.b11, by rw [(y.keep _ (f.lt _ _ g.b12) (by simp)).1]; exact g.b12, g.w10, g.w11, g.w12,
    (g.is.stepL g.lt y.step (by simp) : Is w0 (h'.as h) w wl), fun b hb => Nat.lt_of_lt_of_le (g.lt b hb) y.next⟩
def GC (w0 : World) (B q10 q11 q14 q15 : Nat) (w : Value) (wl : List Itm) (stop rd : Int) (i : Nat) (h1 : Hp) (S1 : List Nat) : Prop :=
  S1 = [q15] ∧ h1.blk q15 = some [.int .i64 (i : Int)] ∧ h1.blk q10 = some [w] ∧ h1.blk q11 = some [.int .i64 stop] ∧ h1.blk q14 = some [.int .i64 rd] ∧ Is w0 h1 w wl ∧ B ≤ h1.next
def GD (B q15 : Nat) (stop rd : Int) (o : Option Nat) (h1 : Hp) (S1 : List Nat) : Prop :=
  o = some 2 ∧ S1 = [q15] ∧ rd = 0 ∧ (∃ i : Nat, h1.blk q15 = some [.int .i64 (i : Int)] ∧ (i : Int) = stop) ∧ B ≤ h1.next
theorem gc_keep {B q10 q11 q14 q15 i : Nat} {w : Value} {wl : List Itm} {stop rd : Int} (h10 : q10 < B) (h11 : q11 < B) (h14 : q14 < B) (h15 : q15 < B) (hx : ∀ b, b ∈ sblk w → b < B) : KeepC w0 0 B (GC w0 B q10 q11 q14 q15 w wl stop rd i) := by
  refine ⟨fun h lp S _ c => c, fun h h' S T T' f ⟨e, a15, a10, a11, a14, ai, an⟩ st hd hB => ?_, fun h S ⟨e, a15, a10, a11, a14, ai, an⟩ b hb => ?_⟩
  · have k : ∀ b, b < B → b ∉ T := fun b hb q => by have := hB b q; omega
    have kk : ∀ b, b < B → h'.blk b = h.blk b := fun b hb => (st.keep b (by omega) (k b hb)).1
    exact ⟨e, by rw [kk _ h15]; exact a15, by rw [kk _ h10]; exact a10, by rw [kk _ h11]; exact a11, by rw [kk _ h14]; exact a14, ai.step f st (fun b hb => k b (hx b hb)), Nat.le_trans an st.1⟩
  · subst e
    simp at hb
    omega
theorem gd_keep {B q15 : Nat} {stop rd : Int} {o : Option Nat} (h15 : q15 < B) : KeepC w0 0 B (GD B q15 stop rd o) := by
  refine ⟨fun h lp S _ c => c, fun h h' S T T' f ⟨eo, e, er, ⟨i, a15, ei⟩, an⟩ st hd hB => ?_, fun h S ⟨eo, e, er, _, an⟩ b hb => ?_⟩
  · have k : ∀ b, b < B → b ∉ T := fun b hb q => by have := hB b q; omega
    exact ⟨eo, e, er, ⟨i, by rw [(st.keep _ (by omega) (k _ h15)).1]; exact a15, ei⟩, Nat.le_trans an st.1⟩
  · subst e
    simp at hb
    omega
theorem goes_round {R : Value → Value → Value → Value → Value → Hp → Prop} {k0 kr : Value → Hp → Prop} {q10 q11 q12 q14 : Nat} {w fv : Value} {wl : List Itm} {stop : Int} {rd : Nat} {T : List Nat} (hrd : rd < 2) (hwl : wl.length ≤ 1000000000)
    (g : GF w0 h q10 q11 q12 w wl stop) (f : Fit w0 h) (b14 : h.blk q14 = some [.int .i64 (rd : Int)]) (w14 : w0.heap.size ≤ q14) (hT : ∀ b, b ∈ T → b < h.next)
    (hit : ∀ h1, Fit w0 h1 → YStep 0 h h1 [] [] → ∀ g, ItC prog w0 fv (h1.newLp g) T (wl.map iv))
    (hR : ∀ h' q, Fit w0 h' → YStep 0 h h' [] [] → h'.blk q = some [.int .i64 ((rd + 1 : Nat) : Int)] → w0.heap.size ≤ q → R (ptr q10) (ptr q11) (ptr q12) fv (ptr q) h') :
    deduplaw10_goes_B1 prog w0 R k0 kr (ptr q10) (ptr q11) (ptr q12) fv (ptr q14) h := by
  have fb := f.base
  have l10 := f.lt _ _ g.b10
  have l11 := f.lt _ _ g.b11
  have l14 := f.lt _ _ b14
  have c1 : decide ((rd : Int) < 2) = true := decide_eq_true (by omega)
  simp only [deduplaw10_goes_B1, ptr]
  refine loadA_at w14 b14 rfl ?_
  simp only [lenSl_slice, lenStr_string, str_size, fpureA_some, fnilA_ptr, faddA_ptr, addr_add, Nat.zero_add, Nat.add_zero, fpureQ_k, fpureQ_nilA, fpureQ_addA, fpureQ_pureA, fpureQ_guardA, fpureQ_idxSlA, fpureQ_pickA, freadQ_loadA, freadQ_loadNA, freadQ_b2sA, freadQ_guardA, freadQ_slSlA, freadQ_k, fendA, fallA_one, fstillA_nil, fguardA_tt, fguardA_ff, fguardA_tf, fguardA_ft, fguardA_undef, fpickA_true, fpickA_false, fcondA_true, fcondA_false, binA_add, binA_sub, binA_mul, binA_eql, binA_neq, binA_lss, binA_leq, binA_gtr, binA_geq, unA_not, Bool.not_true, Bool.not_false, convA_int, extA_tuple, List.getElem?_toArray, List.getElem?_cons_zero, List.getElem?_cons_succ, c1, newA_iff]
  refine ⟨by simp [isCell], ?_⟩
  refine storeA_at (cs := [.int .i64 0]) fb (by simp) (by simp) rfl ?_
  simp only [List.set_cons_zero]
  have sA : Step h ((h.new [.int .i64 0] 1).put h.next [.int .i64 0]) [] [h.next] := ((Step.refl h [] (by simp)).new _ _).put (by simp) _
  have fA : Fit w0 ((h.new [.int .i64 0] 1).put h.next [.int .i64 0]) := (f.new (by simp [isCell])).put fb (by simp) (by simp [isCell])
  have b15 : ((h.new [.int .i64 0] 1).put h.next [.int .i64 0]).blk h.next = some [.int .i64 ((0 : Nat) : Int)] := by simp
  have nA : ((h.new [.int .i64 0] 1).put h.next [.int .i64 0]).next = h.next + 1 := rfl
  generalize (h.new [.int .i64 0] 1).put h.next [.int .i64 0] = hA at *
  generalize hq : h.next = q15 at *
  have yA : YStep 0 h hA [] [] := (sA.less (T := []) (by simp)).y 0
  have gA := g.y f yA
  have bA14 : hA.blk q14 = some [.int .i64 (rd : Int)] := by rw [(yA.keep _ (by omega) (by simp)).1]; exact b14
  -- behind the loop
  have aft : ∀ (h3 : Hp) (i : Nat), Fit w0 h3 → YStep 0 h h3 [] [] → h3.blk q15 = some [.int .i64 (i : Int)] → q15 < h3.next → (i = wl.length ∨ (rd = 0 ∧ (i : Int) = stop)) →
      loadA w0 (.pointer (some ⟨q15, 0, none⟩)) (fun v63_54 =>
       loadA w0 (.pointer (some ⟨q10, 0, none⟩)) fun v64_55 =>
       pureA (lenSl v64_55) fun v65_56 =>
       pureA (binA .neq v63_54 v65_56) fun v66_57 =>
       guardA v66_57 true (loadA w0 (.pointer (some ⟨q14, 0, none⟩))) fun v68_58 =>
       guardA v66_57 true (pureA (binA .neq v68_58 (.int .i64 0))) fun v69_59 =>
       guardA v66_57 true (fun K => K v69_59) fun v70_60 =>
       guardA v70_60 false (loadA w0 (.pointer (some ⟨q15, 0, none⟩))) fun v71_61 =>
       guardA v70_60 false (loadA w0 (.pointer (some ⟨q11, 0, none⟩))) fun v72_62 =>
       guardA v70_60 false (pureA (binA .neq v71_61 v72_62)) fun v73_63 =>
       guardA v66_57 true (pickA v70_60 (.bool true) v73_63) fun v74_64 =>
       pickA v66_57 v74_64 (.bool false) fun v75_65 =>
       condA v75_65 (
       storeA w0 (.pointer (some ⟨q12, 0, none⟩)) (.bool false) fun _ =>
       kr (.pointer (some ⟨q12, 0, none⟩))) (
       loadA w0 (.pointer (some ⟨q14, 0, none⟩)) fun v76_66 =>
       newA [(.int .i64 0)] 1 fun v14_67 =>
       storeA w0 v14_67 v76_66 fun _ =>
       loadA w0 v14_67 fun v27_68 =>
       pureA (binA .add v27_68 (.int .i64 1)) fun v28_69 =>
       storeA w0 v14_67 v28_69 fun _ =>
       R (.pointer (some ⟨q10, 0, none⟩)) (.pointer (some ⟨q11, 0, none⟩)) (.pointer (some ⟨q12, 0, none⟩)) fv v14_67)) h3 := by
    intro h3 i f3 y3 b3 n3 hi
    have g3 := g.y f y3
    have e14 : h3.blk q14 = some [.int .i64 (rd : Int)] := by rw [(y3.keep _ (by omega) (by simp)).1]; exact b14
    have fin : loadA w0 (.pointer (some ⟨q14, 0, none⟩)) (fun v76_66 =>
       newA [(.int .i64 0)] 1 fun v14_67 =>
       storeA w0 v14_67 v76_66 fun _ =>
       loadA w0 v14_67 fun v27_68 =>
       pureA (binA .add v27_68 (.int .i64 1)) fun v28_69 =>
       storeA w0 v14_67 v28_69 fun _ =>
       R (.pointer (some ⟨q10, 0, none⟩)) (.pointer (some ⟨q11, 0, none⟩)) (.pointer (some ⟨q12, 0, none⟩)) fv v14_67) h3 := by
      refine loadA_at w14 e14 rfl ?_
      simp only [newA_iff]
      refine ⟨by simp [isCell], ?_⟩
      have fb3 := f3.base
      refine storeA_at (cs := [.int .i64 0]) fb3 (by simp) (by simp) rfl ?_
      refine loadA_at (cs := [.int .i64 (rd : Int)]) fb3 (by simp) rfl ?_
      have e4 : IntKind.i64.wrap ((rd : Int) + 1) = ((rd + 1 : Nat) : Int) := by rw [IntWalk.i64_in _ (by omega)]; simp
      simp only [lenSl_slice, lenStr_string, str_size, fpureA_some, fnilA_ptr, faddA_ptr, addr_add, Nat.zero_add, Nat.add_zero, fpureQ_k, fpureQ_nilA, fpureQ_addA, fpureQ_pureA, fpureQ_guardA, fpureQ_idxSlA, fpureQ_pickA, freadQ_loadA, freadQ_loadNA, freadQ_b2sA, freadQ_guardA, freadQ_slSlA, freadQ_k, fendA, fallA_one, fstillA_nil, fguardA_tt, fguardA_ff, fguardA_tf, fguardA_ft, fguardA_undef, fpickA_true, fpickA_false, fcondA_true, fcondA_false, binA_add, binA_sub, binA_mul, binA_eql, binA_neq, binA_lss, binA_leq, binA_gtr, binA_geq, unA_not, Bool.not_true, Bool.not_false, convA_int, extA_tuple, List.getElem?_toArray, List.getElem?_cons_zero, List.getElem?_cons_succ, e4]
      refine storeA_at (cs := [.int .i64 (rd : Int)]) fb3 (by simp) (by simp) rfl ?_
      simp only [List.set_cons_zero]
      have st : Step h3 (((h3.new [.int .i64 0] 1).put h3.next [.int .i64 (rd : Int)]).put h3.next [.int .i64 ((rd + 1 : Nat) : Int)]) [] [h3.next] := (((Step.refl h3 [] (by simp)).new _ _).put (by simp) _).put (by simp) _
      exact hR _ h3.next (((f3.new (by simp [isCell])).put fb3 (by simp) (by simp [isCell])).put fb3 (by simp) (by simp [isCell])) (y3.trans ((st.less (T := []) (by simp)).y 0)) (by simp) fb3
    refine loadA_at (by omega) b3 rfl ?_
    refine loadA_at g3.w10 g3.b10 rfl ?_
    simp only [g3.is.lenv, lenSl_slice, lenStr_string, str_size, fpureA_some, fnilA_ptr, faddA_ptr, addr_add, Nat.zero_add, Nat.add_zero, fpureQ_k, fpureQ_nilA, fpureQ_addA, fpureQ_pureA, fpureQ_guardA, fpureQ_idxSlA, fpureQ_pickA, freadQ_loadA, freadQ_loadNA, freadQ_b2sA, freadQ_guardA, freadQ_slSlA, freadQ_k, fendA, fallA_one, fstillA_nil, fguardA_tt, fguardA_ff, fguardA_tf, fguardA_ft, fguardA_undef, fpickA_true, fpickA_false, fcondA_true, fcondA_false, binA_add, binA_sub, binA_mul, binA_eql, binA_neq, binA_lss, binA_leq, binA_gtr, binA_geq, unA_not, Bool.not_true, Bool.not_false, convA_int, extA_tuple, List.getElem?_toArray, List.getElem?_cons_zero, List.getElem?_cons_succ]
    by_cases hil : i = wl.length
    · have c2 : ((i : Int) != (wl.length : Int)) = false := by simp [hil]
      simp only [c2, lenSl_slice, lenStr_string, str_size, fpureA_some, fnilA_ptr, faddA_ptr, addr_add, Nat.zero_add, Nat.add_zero, fpureQ_k, fpureQ_nilA, fpureQ_addA, fpureQ_pureA, fpureQ_guardA, fpureQ_idxSlA, fpureQ_pickA, freadQ_loadA, freadQ_loadNA, freadQ_b2sA, freadQ_guardA, freadQ_slSlA, freadQ_k, fendA, fallA_one, fstillA_nil, fguardA_tt, fguardA_ff, fguardA_tf, fguardA_ft, fguardA_undef, fpickA_true, fpickA_false, fcondA_true, fcondA_false, binA_add, binA_sub, binA_mul, binA_eql, binA_neq, binA_lss, binA_leq, binA_gtr, binA_geq, unA_not, Bool.not_true, Bool.not_false, convA_int, extA_tuple, List.getElem?_toArray, List.getElem?_cons_zero, List.getElem?_cons_succ]
      exact fin
    · have c2 : ((i : Int) != (wl.length : Int)) = true := by simp; omega
      obtain ⟨r0, rs⟩ := hi.resolve_left hil
      subst r0
      simp only [c2, lenSl_slice, lenStr_string, str_size, fpureA_some, fnilA_ptr, faddA_ptr, addr_add, Nat.zero_add, Nat.add_zero, fpureQ_k, fpureQ_nilA, fpureQ_addA, fpureQ_pureA, fpureQ_guardA, fpureQ_idxSlA, fpureQ_pickA, freadQ_loadA, freadQ_loadNA, freadQ_b2sA, freadQ_guardA, freadQ_slSlA, freadQ_k, fendA, fallA_one, fstillA_nil, fguardA_tt, fguardA_ff, fguardA_tf, fguardA_ft, fguardA_undef, fpickA_true, fpickA_false, fcondA_true, fcondA_false, binA_add, binA_sub, binA_mul, binA_eql, binA_neq, binA_lss, binA_leq, binA_gtr, binA_geq, unA_not, Bool.not_true, Bool.not_false, convA_int, extA_tuple, List.getElem?_toArray, List.getElem?_cons_zero, List.getElem?_cons_succ]
      refine loadA_at w14 e14 rfl ?_
      have c3 : (((0 : Nat) : Int) != 0) = false := rfl
      simp only [c3, lenSl_slice, lenStr_string, str_size, fpureA_some, fnilA_ptr, faddA_ptr, addr_add, Nat.zero_add, Nat.add_zero, fpureQ_k, fpureQ_nilA, fpureQ_addA, fpureQ_pureA, fpureQ_guardA, fpureQ_idxSlA, fpureQ_pickA, freadQ_loadA, freadQ_loadNA, freadQ_b2sA, freadQ_guardA, freadQ_slSlA, freadQ_k, fendA, fallA_one, fstillA_nil, fguardA_tt, fguardA_ff, fguardA_tf, fguardA_ft, fguardA_undef, fpickA_true, fpickA_false, fcondA_true, fcondA_false, binA_add, binA_sub, binA_mul, binA_eql, binA_neq, binA_lss, binA_leq, binA_gtr, binA_geq, unA_not, Bool.not_true, Bool.not_false, convA_int, extA_tuple, List.getElem?_toArray, List.getElem?_cons_zero, List.getElem?_cons_succ]
      refine loadA_at (by omega) b3 rfl ?_
      refine loadA_at g3.w11 g3.b11 rfl ?_
      have c4 : ((i : Int) != stop) = false := by simp [rs]
      simp only [c4, lenSl_slice, lenStr_string, str_size, fpureA_some, fnilA_ptr, faddA_ptr, addr_add, Nat.zero_add, Nat.add_zero, fpureQ_k, fpureQ_nilA, fpureQ_addA, fpureQ_pureA, fpureQ_guardA, fpureQ_idxSlA, fpureQ_pickA, freadQ_loadA, freadQ_loadNA, freadQ_b2sA, freadQ_guardA, freadQ_slSlA, freadQ_k, fendA, fallA_one, fstillA_nil, fguardA_tt, fguardA_ff, fguardA_tf, fguardA_ft, fguardA_undef, fpickA_true, fpickA_false, fcondA_true, fcondA_false, binA_add, binA_sub, binA_mul, binA_eql, binA_neq, binA_lss, binA_leq, binA_gtr, binA_geq, unA_not, Bool.not_true, Bool.not_false, convA_int, extA_tuple, List.getElem?_toArray, List.getElem?_cons_zero, List.getElem?_cons_succ]
      exact fin
  have l15 : q15 < hA.next := by omega
  refine rangeA_of (xs := wl.map iv) (T := T) 0 (Nat.zero_le _) fA (hit hA fA yA) _ (fun b g x K => rfl) [q15] (GC w0 hA.next q10 q11 q14 q15 w wl stop (rd : Int)) (GD hA.next q15 stop (rd : Int))
    (fun i => gc_keep (by omega) (by omega) (by omega) l15 (fun b hb => by have := g.lt b hb; omega)) (fun o => gd_keep l15) ⟨rfl, b15, gA.b10, gA.b11, bA14, gA.is, Nat.le_refl _⟩ (fun b hb hbT => by simp at hb; have := hT b hbT; omega) ?_ ?_ ?_ ?_
  · intro y hy
    obtain ⟨x, hx, rfl⟩ := List.mem_map.1 hy
    exact ⟨rfl, by simp [iv]⟩
  · rintro i y h1 S1 g1 K hi f1 ⟨e, a15, a10, a11, a14, ai, an⟩ lb _ ends exits
    subst e
    rw [List.getElem?_map] at hi
    obtain ⟨x, hx, rfl⟩ := Option.map_eq_some_iff.1 hi
    have hil := (List.getElem?_eq_some_iff.1 hx).1
    simp only [iv, List.getD_cons_zero, List.tail_cons]
    refine loadA_at (by omega) a15 rfl ?_
    refine loadA_at g.w10 a10 rfl ?_
    have c2 : decide ((wl.length : Int) ≤ (i : Int)) = false := decide_eq_false (by omega)
    simp only [ai.lenv, lenSl_slice, lenStr_string, str_size, fpureA_some, fnilA_ptr, faddA_ptr, addr_add, Nat.zero_add, Nat.add_zero, fpureQ_k, fpureQ_nilA, fpureQ_addA, fpureQ_pureA, fpureQ_guardA, fpureQ_idxSlA, fpureQ_pickA, freadQ_loadA, freadQ_loadNA, freadQ_b2sA, freadQ_guardA, freadQ_slSlA, freadQ_k, fendA, fallA_one, fstillA_nil, fguardA_tt, fguardA_ff, fguardA_tf, fguardA_ft, fguardA_undef, fpickA_true, fpickA_false, fcondA_true, fcondA_false, binA_add, binA_sub, binA_mul, binA_eql, binA_neq, binA_lss, binA_leq, binA_gtr, binA_geq, unA_not, Bool.not_true, Bool.not_false, convA_int, extA_tuple, List.getElem?_toArray, List.getElem?_cons_zero, List.getElem?_cons_succ, c2]
    refine loadA_at g.w10 a10 rfl ?_
    refine loadA_at (by omega) a15 rfl ?_
    refine ai.fld (o := 0) hil (by omega) (ivs_key hx) ?_
    have c3 : decide (x.1 ≠ x.1) = false := decide_eq_false (by simp)
    simp only [s_neq, c3, lenSl_slice, lenStr_string, str_size, fpureA_some, fnilA_ptr, faddA_ptr, addr_add, Nat.zero_add, Nat.add_zero, fpureQ_k, fpureQ_nilA, fpureQ_addA, fpureQ_pureA, fpureQ_guardA, fpureQ_idxSlA, fpureQ_pickA, freadQ_loadA, freadQ_loadNA, freadQ_b2sA, freadQ_guardA, freadQ_slSlA, freadQ_k, fendA, fallA_one, fstillA_nil, fguardA_tt, fguardA_ff, fguardA_tf, fguardA_ft, fguardA_undef, fpickA_true, fpickA_false, fcondA_true, fcondA_false, binA_add, binA_sub, binA_mul, binA_eql, binA_neq, binA_lss, binA_leq, binA_gtr, binA_geq, unA_not, Bool.not_true, Bool.not_false, convA_int, extA_tuple, List.getElem?_toArray, List.getElem?_cons_zero, List.getElem?_cons_succ]
    refine loadA_at g.w10 a10 rfl ?_
    refine loadA_at (by omega) a15 rfl ?_
    refine ai.fld (o := 1) hil (by omega) (ivs_val hx) ?_
    simp only [lenSl_slice, lenStr_string, str_size, fpureA_some, fnilA_ptr, faddA_ptr, addr_add, Nat.zero_add, Nat.add_zero, fpureQ_k, fpureQ_nilA, fpureQ_addA, fpureQ_pureA, fpureQ_guardA, fpureQ_idxSlA, fpureQ_pickA, freadQ_loadA, freadQ_loadNA, freadQ_b2sA, freadQ_guardA, freadQ_slSlA, freadQ_k, fendA, fallA_one, fstillA_nil, fguardA_tt, fguardA_ff, fguardA_tf, fguardA_ft, fguardA_undef, fpickA_true, fpickA_false, fcondA_true, fcondA_false, binA_add, binA_sub, binA_mul, binA_eql, binA_neq, binA_lss, binA_leq, binA_gtr, binA_geq, unA_not, Bool.not_true, Bool.not_false, convA_int, extA_tuple, List.getElem?_toArray, List.getElem?_cons_zero, List.getElem?_cons_succ, bne_self_eq_false]
    refine loadA_at (by omega) a15 rfl ?_
    have e4 : IntKind.i64.wrap ((i : Int) + 1) = ((i + 1 : Nat) : Int) := by rw [IntWalk.i64_in _ (by omega)]; simp
    simp only [lenSl_slice, lenStr_string, str_size, fpureA_some, fnilA_ptr, faddA_ptr, addr_add, Nat.zero_add, Nat.add_zero, fpureQ_k, fpureQ_nilA, fpureQ_addA, fpureQ_pureA, fpureQ_guardA, fpureQ_idxSlA, fpureQ_pickA, freadQ_loadA, freadQ_loadNA, freadQ_b2sA, freadQ_guardA, freadQ_slSlA, freadQ_k, fendA, fallA_one, fstillA_nil, fguardA_tt, fguardA_ff, fguardA_tf, fguardA_ft, fguardA_undef, fpickA_true, fpickA_false, fcondA_true, fcondA_false, binA_add, binA_sub, binA_mul, binA_eql, binA_neq, binA_lss, binA_leq, binA_gtr, binA_geq, unA_not, Bool.not_true, Bool.not_false, convA_int, extA_tuple, List.getElem?_toArray, List.getElem?_cons_zero, List.getElem?_cons_succ, e4]
    refine storeA_at (cs := [.int .i64 (i : Int)]) (by omega) a15 (by simp) rfl ?_
    simp only [List.set_cons_zero]
    have st : Step h1 (h1.put q15 [.int .i64 ((i + 1 : Nat) : Int)]) [q15] [q15] := (Step.refl h1 [q15] (by simp; omega)).put (by simp) _
    have n14 : q14 ≠ q15 := by omega
    have n10 : q10 ≠ q15 := by omega
    have n11 : q11 ≠ q15 := by omega
    have b14' : (h1.put q15 [.int .i64 ((i + 1 : Nat) : Int)]).blk q14 = some [.int .i64 (rd : Int)] := by rw [put_blk, if_neg n14]; exact a14
    have b10' : (h1.put q15 [.int .i64 ((i + 1 : Nat) : Int)]).blk q10 = some [w] := by rw [put_blk, if_neg n10]; exact a10
    have b11' : (h1.put q15 [.int .i64 ((i + 1 : Nat) : Int)]).blk q11 = some [.int .i64 stop] := by rw [put_blk, if_neg n11]; exact a11
    have b15' : (h1.put q15 [.int .i64 ((i + 1 : Nat) : Int)]).blk q15 = some [.int .i64 ((i + 1 : Nat) : Int)] := by simp
    have ai' : Is w0 (h1.put q15 [.int .i64 ((i + 1 : Nat) : Int)]) w wl := ai.step f1 st (fun b hb => by have := g.lt b hb; simp; omega)
    have an' : hA.next ≤ (h1.put q15 [.int .i64 ((i + 1 : Nat) : Int)]).next := an
    have okC : GC w0 hA.next q10 q11 q14 q15 w wl stop (rd : Int) (i + 1) (h1.put q15 [.int .i64 ((i + 1 : Nat) : Int)]) [q15] := ⟨rfl, b15', b10', b11', b14', ai', an'⟩
    refine loadA_at w14 b14' rfl ?_
    rcases (show rd = 0 ∨ rd = 1 by omega) with r0 | r0
    · subst r0
      have c5 : (((0 : Nat) : Int) == 0) = true := rfl
      simp only [lenSl_slice, lenStr_string, str_size, fpureA_some, fnilA_ptr, faddA_ptr, addr_add, Nat.zero_add, Nat.add_zero, fpureQ_k, fpureQ_nilA, fpureQ_addA, fpureQ_pureA, fpureQ_guardA, fpureQ_idxSlA, fpureQ_pickA, freadQ_loadA, freadQ_loadNA, freadQ_b2sA, freadQ_guardA, freadQ_slSlA, freadQ_k, fendA, fallA_one, fstillA_nil, fguardA_tt, fguardA_ff, fguardA_tf, fguardA_ft, fguardA_undef, fpickA_true, fpickA_false, fcondA_true, fcondA_false, binA_add, binA_sub, binA_mul, binA_eql, binA_neq, binA_lss, binA_leq, binA_gtr, binA_geq, unA_not, Bool.not_true, Bool.not_false, convA_int, extA_tuple, List.getElem?_toArray, List.getElem?_cons_zero, List.getElem?_cons_succ, c5]
      refine loadA_at (by omega) b15' rfl ?_
      refine loadA_at g.w11 b11' rfl ?_
      by_cases hs : ((i + 1 : Nat) : Int) = stop
      · have c6 : (((i + 1 : Nat) : Int) == stop) = true := by simp only [beq_iff_eq]; exact hs
        simp only [lenSl_slice, lenStr_string, str_size, fpureA_some, fnilA_ptr, faddA_ptr, addr_add, Nat.zero_add, Nat.add_zero, fpureQ_k, fpureQ_nilA, fpureQ_addA, fpureQ_pureA, fpureQ_guardA, fpureQ_idxSlA, fpureQ_pickA, freadQ_loadA, freadQ_loadNA, freadQ_b2sA, freadQ_guardA, freadQ_slSlA, freadQ_k, fendA, fallA_one, fstillA_nil, fguardA_tt, fguardA_ff, fguardA_tf, fguardA_ft, fguardA_undef, fpickA_true, fpickA_false, fcondA_true, fcondA_false, binA_add, binA_sub, binA_mul, binA_eql, binA_neq, binA_lss, binA_leq, binA_gtr, binA_geq, unA_not, Bool.not_true, Bool.not_false, convA_int, extA_tuple, List.getElem?_toArray, List.getElem?_cons_zero, List.getElem?_cons_succ, c6]
        exact exits (some 2) _ _ (st.y 0) ⟨rfl, rfl, rfl, ⟨i + 1, b15', hs⟩, an'⟩
      · have c6 : (((i + 1 : Nat) : Int) == stop) = false := by rw [beq_eq_false_iff_ne]; exact hs
        simp only [lenSl_slice, lenStr_string, str_size, fpureA_some, fnilA_ptr, faddA_ptr, addr_add, Nat.zero_add, Nat.add_zero, fpureQ_k, fpureQ_nilA, fpureQ_addA, fpureQ_pureA, fpureQ_guardA, fpureQ_idxSlA, fpureQ_pickA, freadQ_loadA, freadQ_loadNA, freadQ_b2sA, freadQ_guardA, freadQ_slSlA, freadQ_k, fendA, fallA_one, fstillA_nil, fguardA_tt, fguardA_ff, fguardA_tf, fguardA_ft, fguardA_undef, fpickA_true, fpickA_false, fcondA_true, fcondA_false, binA_add, binA_sub, binA_mul, binA_eql, binA_neq, binA_lss, binA_leq, binA_gtr, binA_geq, unA_not, Bool.not_true, Bool.not_false, convA_int, extA_tuple, List.getElem?_toArray, List.getElem?_cons_zero, List.getElem?_cons_succ, c6]
        exact ends _ _ (st.y 0) okC
    · subst r0
      have c5 : (((1 : Nat) : Int) == 0) = false := rfl
      simp only [lenSl_slice, lenStr_string, str_size, fpureA_some, fnilA_ptr, faddA_ptr, addr_add, Nat.zero_add, Nat.add_zero, fpureQ_k, fpureQ_nilA, fpureQ_addA, fpureQ_pureA, fpureQ_guardA, fpureQ_idxSlA, fpureQ_pickA, freadQ_loadA, freadQ_loadNA, freadQ_b2sA, freadQ_guardA, freadQ_slSlA, freadQ_k, fendA, fallA_one, fstillA_nil, fguardA_tt, fguardA_ff, fguardA_tf, fguardA_ft, fguardA_undef, fpickA_true, fpickA_false, fcondA_true, fcondA_false, binA_add, binA_sub, binA_mul, binA_eql, binA_neq, binA_lss, binA_leq, binA_gtr, binA_geq, unA_not, Bool.not_true, Bool.not_false, convA_int, extA_tuple, List.getElem?_toArray, List.getElem?_cons_zero, List.getElem?_cons_succ, c5]
      exact ends _ _ (st.y 0) okC
  · rintro h3 S2 f3 ys ⟨e, a15, a10, a11, a14, ai, an⟩
    subst e
    exact aft h3 wl.length f3 (((sA.y 0).trans ys).less (by simp)) (by simpa using a15) (by omega) (.inl rfl)
  · rintro o h3 S2 f3 ys ⟨eo, e, er, ⟨i, a15, ei⟩, an⟩
    subst e
    refine ⟨_, List.mem_cons_of_mem _ (List.mem_singleton_self _), eo.symm, ?_⟩
    exact aft h3 i f3 (((sA.y 0).trans ys).less (by simp)) a15 (by omega) (.inr ⟨by omega, ei⟩)
end
section
variable {w0 : World} {h h' : Hp}
theorem cell_of_sl {s n : Nat} {x : Value} {ys : List Value} (v : Sl w0 h s x n ys) : isCell x = true := by obtain ⟨a, c, e⟩ := v.slice; rw [e]; rfl
theorem YStep.newLp {N : Nat} {S S' : List Nat} (y : YStep N h h' S S') (g : Lp) : YStep N h (h'.newLp g) S S' :=
  ⟨Nat.le_succ_of_le y.next, y.keep, fun b hb => ⟨Nat.lt_succ_of_lt (y.own b hb).1, (y.own b hb).2⟩, fun b h1 h2 => by
    rw [newLp_lp, if_neg (by have := y.next; omega)]
    exact y.lp b h1 h2⟩
theorem goes_all {q10 q11 q12 q14 : Nat} {w fv : Value} {wl : List Itm} {stop : Int} {T : List Nat} {k0 kr : Value → Hp → Prop} (hwl : wl.length ≤ 1000000000)
    (g : GF w0 h q10 q11 q12 w wl stop) (f : Fit w0 h) (b14 : h.blk q14 = some [.int .i64 0]) (w14 : w0.heap.size ≤ q14) (hT : ∀ b, b ∈ T → b < h.next)
    (hit : ∀ h1, YStep 0 h h1 [] [] → ItC prog w0 fv h1 T (wl.map iv)) (hk : ∀ h', Fit w0 h' → YStep 0 h h' [] [] → k0 (ptr q12) h') :
    deduplaw10_goes_E1 prog w0 k0 kr (ptr q10) (ptr q11) (ptr q12) fv (ptr q14) h := by
  refine ⟨3, ?_⟩
  rw [deduplaw10_goes_L1]
  refine goes_round (rd := 0) (by omega) hwl g f b14 w14 hT (fun h1 _ y g => hit _ (y.newLp g)) fun h1 q f1 y1 b1 w1 => ?_
  rw [deduplaw10_goes_L1]
  refine goes_round (rd := 1) (by omega) hwl (g.y f y1) f1 b1 w1 (fun b hb => Nat.lt_of_lt_of_le (hT b hb) y1.next) (fun h2 _ y g => hit _ ((y1.trans y).newLp g)) fun h2 q f2 y2 b2 w2 => ?_
  rw [deduplaw10_goes_L1]
  simp only [deduplaw10_goes_B1, ptr]
  refine loadA_at w2 b2 rfl ?_
  have c1 : decide (((1 + 1 : Nat) : Int) < 2) = false := rfl
  simp only [lenSl_slice, lenStr_string, str_size, fpureA_some, fnilA_ptr, faddA_ptr, addr_add, Nat.zero_add, Nat.add_zero, fpureQ_k, fpureQ_nilA, fpureQ_addA, fpureQ_pureA, fpureQ_guardA, fpureQ_idxSlA, fpureQ_pickA, freadQ_loadA, freadQ_loadNA, freadQ_b2sA, freadQ_guardA, freadQ_slSlA, freadQ_k, fendA, fallA_one, fstillA_nil, fguardA_tt, fguardA_ff, fguardA_tf, fguardA_ft, fguardA_undef, fpickA_true, fpickA_false, fcondA_true, fcondA_false, binA_add, binA_sub, binA_mul, binA_eql, binA_neq, binA_lss, binA_leq, binA_gtr, binA_geq, unA_not, Bool.not_true, Bool.not_false, convA_int, extA_tuple, List.getElem?_toArray, List.getElem?_cons_zero, List.getElem?_cons_succ, c1]
  exact hk h2 f2 (y1.trans y2)
/-- What a map goes over. -/
def wantL (l : List Itm) (a b : Key) (all : Bool) : List Itm := if all = true then l else l.filter fun x => inR a b x.1
theorem goes_spec {p : Nat} {l : List Itm} {M : List Nat} {a b : Key} {all : Bool} {w : Value} {stop : Int} (m : Mp w0 h p l M) (hl : l.length ≤ 1000000000) (hw : Is w0 h w (wantL l a b all)) (hlt : ∀ b, b ∈ sblk w → b < h.next) :
    ACalls prog w0 n_deduplaw10_goes [ptr p, .string (str a), .string (str b), .bool all, w, .int .i64 stop] h fun r h' => r = .bool true ∧ Step h h' [] [] := by
  refine ACalls.of_fit (by simpa [ptr] using hw.junk) fun f => c_deduplaw10_goes (by simpa [ptr] using hw.junk) ?_
  have fb := f.base
  have hwl : (wantL l a b all).length ≤ 1000000000 := by
    unfold wantL
    split
    · exact hl
    · exact Nat.le_trans (List.length_filter_le _ _) hl
  simp only [s_deduplaw10_goes]
  refine ⟨cell_of_sl hw, rfl, ?_⟩
  simp only [newA_iff]
  refine ⟨by simp [isCell], ?_⟩
  have hne : h.next ≠ h.next + 1 := by omega
  have sA : Step h (((h.new [w] 1).new [.int .i64 stop] 1).new [.bool false] 1) [] [] := ((((Step.refl h [] (by simp)).new _ _).new _ _).new _ _).less (by simp)
  have fA : Fit w0 (((h.new [w] 1).new [.int .i64 stop] 1).new [.bool false] 1) := ((f.new (by simpa using cell_of_sl hw)).new (by simp [isCell])).new (by simp [isCell])
  have gA : GF w0 (((h.new [w] 1).new [.int .i64 stop] 1).new [.bool false] 1) h.next (h.next + 1) (h.next + 2) w (wantL l a b all) stop :=
    ⟨by simp; intro q; omega, by simp, by simp, fb, by omega, by omega, hw.stepL hlt sA (by simp), fun b hb => Nat.lt_of_lt_of_le (hlt b hb) sA.1⟩
  have mA := m.frame sA (by simp)
  have nA : (((h.new [w] 1).new [.int .i64 stop] 1).new [.bool false] 1).next = h.next + 3 := rfl
  show callA prog w0 n_seq_Map_string_int_Range _ _ (((h.new [w] 1).new [.int .i64 stop] 1).new [.bool false] 1)
  have e1 : (h.new [w] 1).next = h.next + 1 := rfl
  have e2 : ((h.new [w] 1).new [.int .i64 stop] 1).next = h.next + 2 := rfl
  rw [e1, e2]
  clear e1 e2
  generalize hhA : ((h.new [w] 1).new [.int .i64 stop] 1).new [.bool false] 1 = hA at *
  refine callA_of (Range_any (ptr p) (by simp [ptr, junk]) rfl a b) fun r h1 ⟨q1, q2, r1, r2, e, x1, x2, x3, x4, y1, y2, y3, y4, z1, z2, z3, z4, s1⟩ f1 => ?_
  subst e
  have g1 := gA.y fA (s1.y 0)
  have m1 := mA.frame s1 (by simp)
  have n1 := s1.1
  -- a round of variables, the loop, the end
  have fin : ∀ (fv : Value) (h2 : Hp) (T : List Nat), Fit w0 h2 → YStep 0 h h2 [] [] → GF w0 h2 h.next (h.next + 1) (h.next + 2) w (wantL l a b all) stop → (∀ b, b ∈ T → b < h2.next) → (∀ h3, YStep 0 h2 h3 [] [] → ItC prog w0 fv h3 T ((wantL l a b all).map iv)) →
      newA [(.int .i64 0)] 1 (fun v14_6 =>
       storeA w0 v14_6 (.int .i64 0) fun _ =>
       deduplaw10_goes_E1 prog w0 (fun y12_70 =>
       storeA w0 y12_70 (.bool true) fun _ =>
       cutA h (
       loadA w0 y12_70 fun v12_71 =>
       retA [v12_71] fun r h' => r = .bool true ∧ Step h h' [] [])) (fun y12_72 =>
       cutA h (
       loadA w0 y12_72 fun v12_73 =>
       retA [v12_73] fun r h' => r = .bool true ∧ Step h h' [] [])) (ptr h.next) (ptr (h.next + 1)) (ptr (h.next + 2)) fv v14_6) h2 := by
    intro fv h2 T f2 y2 g2 hT hit
    simp only [newA_iff]
    refine ⟨by simp [isCell], ?_⟩
    have fb2 := f2.base
    refine storeA_at (cs := [.int .i64 0]) fb2 (by simp) (by simp) rfl ?_
    simp only [List.set_cons_zero]
    have sB : Step h2 ((h2.new [.int .i64 0] 1).put h2.next [.int .i64 0]) [] [] := (((Step.refl h2 [] (by simp)).new _ _).put (by simp) _).less (by simp)
    have fB : Fit w0 ((h2.new [.int .i64 0] 1).put h2.next [.int .i64 0]) := (f2.new (by simp [isCell])).put fb2 (by simp) (by simp [isCell])
    refine goes_all hwl (g2.y f2 (sB.y 0)) fB (by simp) fb2 (fun b hb => Nat.lt_of_lt_of_le (hT b hb) sB.1) (fun h3 y3 => hit h3 ((sB.y 0).trans y3)) fun h3 f3 y3 => ?_
    have g3 := g2.y f2 ((sB.y 0).trans y3)
    have y23 := y2.trans ((sB.y 0).trans y3)
    refine storeA_at g3.w12 g3.b12 (by simp) rfl ?_
    simp only [List.set_cons_zero]
    unfold cutA
    refine loadA_at (cs := [.bool true]) g3.w12 (by simp) rfl ?_
    simp only [retA_iff, oneOf_one]
    refine ⟨by simp, trivial, ?_⟩
    have st : Step h3 (h3.put (h.next + 2) [.bool true]) [h.next + 2] [h.next + 2] := (Step.refl h3 [h.next + 2] (by have := f3.lt _ _ g3.b12; simpa using this)).put (by simp) _
    have yy : YStep 0 h (h3.put (h.next + 2) [.bool true]) [] [] := by
      refine ⟨Nat.le_trans y23.next st.1, fun b hb _ => ?_, by simp, fun b h1 h2 => by rw [st.lp]; exact y23.lp b h1 h2⟩
      rw [(st.keep b (by have := y23.next; omega) (by simp; omega)).1, (st.keep b (by have := y23.next; omega) (by simp; omega)).2]
      exact y23.keep b hb (by simp)
    exact yy.cut
  have yA1 : YStep 0 h h1 [] [] := (sA.trans s1).y 0
  cases hall : all with
  | false =>
    subst hall
    simp only [lenSl_slice, lenStr_string, str_size, fpureA_some, fnilA_ptr, faddA_ptr, addr_add, Nat.zero_add, Nat.add_zero, fpureQ_k, fpureQ_nilA, fpureQ_addA, fpureQ_pureA, fpureQ_guardA, fpureQ_idxSlA, fpureQ_pickA, freadQ_loadA, freadQ_loadNA, freadQ_b2sA, freadQ_guardA, freadQ_slSlA, freadQ_k, fendA, fallA_one, fstillA_nil, fguardA_tt, fguardA_ff, fguardA_tf, fguardA_ft, fguardA_undef, fpickA_true, fpickA_false, fcondA_true, fcondA_false, binA_add, binA_sub, binA_mul, binA_eql, binA_neq, binA_lss, binA_leq, binA_gtr, binA_geq, unA_not, Bool.not_true, Bool.not_false, convA_int, extA_tuple, List.getElem?_toArray, List.getElem?_cons_zero, List.getElem?_cons_succ]
    refine fin _ h1 (q1 :: q2 :: r1 :: r2 :: M) f1 yA1 g1 (fun b hb => ?_) fun h3 y3 => ?_
    · simp only [List.mem_cons] at hb
      rcases hb with rfl | rfl | rfl | rfl | hb
      · exact z1
      · exact z2
      · exact z3
      · exact z4
      · exact (m1.lt b hb).2
    · have k : ∀ b c, b < h1.next → h1.blk b = c → h3.blk b = c := fun b c hb e => by rw [(y3.keep b hb (by simp)).1]; exact e
      have m3 : Mp w0 h3 p l M := (m1.frame y3.step (by simp) : Mp w0 (h3.as h1) p l M)
      have e : (wantL l a b false).map iv = itV l (inR a b) := rfl
      rw [e]
      refine over_it (k q1 _ z1 x1) (k q2 _ z2 x2) (by omega) (by omega) m3 hl ⟨by simp, by simp, fun b hb => by simp [hb]⟩ fun h4 n4 k4 x hx => ?_
      have e3 : h4.blk r1 = some [.string (str a)] := by rw [k4 r1 (by simp) (Nat.lt_of_lt_of_le z3 y3.next)]; exact k r1 _ z3 x3
      have e4 : h4.blk r2 = some [.string (str b)] := by rw [k4 r2 (by simp) (Nat.lt_of_lt_of_le z4 y3.next)]; exact k r2 _ z4 x4
      exact callVA_func (by kernel_rfl) (Range_S1 (by omega) (by omega) e3 e4 x.1) fun r h5 e _ => e
  | true =>
    subst hall
    simp only [lenSl_slice, lenStr_string, str_size, fpureA_some, fnilA_ptr, faddA_ptr, addr_add, Nat.zero_add, Nat.add_zero, fpureQ_k, fpureQ_nilA, fpureQ_addA, fpureQ_pureA, fpureQ_guardA, fpureQ_idxSlA, fpureQ_pickA, freadQ_loadA, freadQ_loadNA, freadQ_b2sA, freadQ_guardA, freadQ_slSlA, freadQ_k, fendA, fallA_one, fstillA_nil, fguardA_tt, fguardA_ff, fguardA_tf, fguardA_ft, fguardA_undef, fpickA_true, fpickA_false, fcondA_true, fcondA_false, binA_add, binA_sub, binA_mul, binA_eql, binA_neq, binA_lss, binA_leq, binA_gtr, binA_geq, unA_not, Bool.not_true, Bool.not_false, convA_int, extA_tuple, List.getElem?_toArray, List.getElem?_cons_zero, List.getElem?_cons_succ]
    refine callA_of (All_spec p) fun r h2 ⟨u1, u2, e, a1, a2, a3, a4, a5, a6, s2⟩ f2 => ?_
    subst e
    have m2 := m1.frame s2 (by simp)
    refine fin _ h2 (u1 :: u2 :: M) f2 (yA1.trans (s2.y 0)) (g1.y f1 (s2.y 0)) (fun b hb => ?_) fun h3 y3 => ?_
    · simp only [List.mem_cons] at hb
      rcases hb with rfl | rfl | hb
      · exact a5
      · exact a6
      · exact (m2.lt b hb).2
    · have k : ∀ b c, b < h2.next → h2.blk b = c → h3.blk b = c := fun b c hb e => by rw [(y3.keep b hb (by simp)).1]; exact e
      have m3 : Mp w0 h3 p l M := (m2.frame y3.step (by simp) : Mp w0 (h3.as h2) p l M)
      have e : (wantL l a b true).map iv = itV l (fun _ => true) := by unfold itV; rw [List.filter_eq_self.2 (by simp)]; rfl
      rw [e]
      refine over_it (k u1 _ a5 a1) (k u2 _ a6 a2) (by omega) (by omega) m3 hl ⟨by simp, by simp, fun b hb => by simp [hb]⟩ fun h4 n4 k4 x hx => ?_
      exact callVA_func (by kernel_rfl) (All_S1 x.1) fun r h5 e _ => e
/-- The part of a list in a range. -/
theorem part_loop {k0 : Value → Hp → Prop} {v : Value} {l : List Itm} {a b : Key} {hh : Hp} (hv : Is w0 hh v l) (fh : Fit w0 hh) (hl : l.length ≤ 1000000000)
    (hr : ∀ x' h' S', Vec w0 h' 2 x' (l.filter fun x => inR a b x.1).length (ivs (l.filter fun x => inR a b x.1)) S' → Step hh h' [] S' → k0 x' h') : ∀ (post pre : List Itm) (h1 : Hp) (x5 : Value) (S1 : List Nat), pre ++ post = l →
      Vec w0 h1 2 x5 (pre.filter fun x => inR a b x.1).length (ivs (pre.filter fun x => inR a b x.1)) S1 → Step hh h1 [] S1 →
      deduplaw10_part_L1 prog w0 k0 (post.length + 1) (.string (str a)) (.string (str b)) x5 v (.int .i64 (l.length : Int)) (.int .i64 (pre.length : Int)) h1 := by
  intro post
  induction post with
  | nil =>
    intro pre h1 x3 S1 he g st
    have hpre : pre = l := by simpa using he
    subst hpre
    rw [List.length_nil, deduplaw10_part_L1]
    simp only [deduplaw10_part_B1, lenSl_slice, lenStr_string, str_size, fpureA_some, fnilA_ptr, faddA_ptr, addr_add, Nat.zero_add, Nat.add_zero, fpureQ_k, fpureQ_nilA, fpureQ_addA, fpureQ_pureA, fpureQ_guardA, fpureQ_idxSlA, fpureQ_pickA, freadQ_loadA, freadQ_loadNA, freadQ_b2sA, freadQ_guardA, freadQ_slSlA, freadQ_k, fendA, fallA_one, fstillA_nil, fguardA_tt, fguardA_ff, fguardA_tf, fguardA_ft, fguardA_undef, fpickA_true, fpickA_false, fcondA_true, fcondA_false, binA_add, binA_sub, binA_mul, binA_eql, binA_neq, binA_lss, binA_leq, binA_gtr, binA_geq, unA_not, Bool.not_true, Bool.not_false, convA_int, extA_tuple, List.getElem?_toArray, List.getElem?_cons_zero, List.getElem?_cons_succ, Int.lt_irrefl, decide_false]
    exact hr x3 h1 S1 g st
  | cons x post ih =>
    intro pre h1 x3 S1 he g st
    have hlen : pre.length + (post.length + 1) = l.length := by rw [← he]; simp
    have hg : l[pre.length]? = some x := by rw [← he]; simp
    have c1 : decide ((pre.length : Int) < (l.length : Int)) = true := decide_eq_true (by omega)
    have e6 : IntKind.i64.wrap ((pre.length : Int) + 1) = (((pre ++ [x]).length : Nat) : Int) := by rw [IntWalk.i64_in _ (by omega)]; simp
    have hfl : (pre.filter fun x => inR a b x.1).length ≤ pre.length := List.length_filter_le _ _
    have vs : Is w0 h1 v l := hv.step fh st (by simp)
    have fb := st.base fh.base
    rw [List.length_cons, deduplaw10_part_L1]
    simp only [deduplaw10_part_B1, lenSl_slice, lenStr_string, str_size, fpureA_some, fnilA_ptr, faddA_ptr, addr_add, Nat.zero_add, Nat.add_zero, fpureQ_k, fpureQ_nilA, fpureQ_addA, fpureQ_pureA, fpureQ_guardA, fpureQ_idxSlA, fpureQ_pickA, freadQ_loadA, freadQ_loadNA, freadQ_b2sA, freadQ_guardA, freadQ_slSlA, freadQ_k, fendA, fallA_one, fstillA_nil, fguardA_tt, fguardA_ff, fguardA_tf, fguardA_ft, fguardA_undef, fpickA_true, fpickA_false, fcondA_true, fcondA_false, binA_add, binA_sub, binA_mul, binA_eql, binA_neq, binA_lss, binA_leq, binA_gtr, binA_geq, unA_not, Bool.not_true, Bool.not_false, convA_int, extA_tuple, List.getElem?_toArray, List.getElem?_cons_zero, List.getElem?_cons_succ, c1]
    refine vs.elem (by omega) (ivs_get hg) ?_
    refine boxN fb rfl rfl (by simp [isCell]) ?_
    have sx : Step h1 (h1.new (iv x) 2) [] [h1.next] := (Step.refl h1 [] (by simp)).new _ _
    have hx : (h1.new (iv x) 2).blk h1.next = some (iv x) := by simp
    have stx : Step hh (h1.new (iv x) 2) [] S1 := st.trans ((sx.less (T := []) (by simp)).keepS fun b hb => (g.lt b hb).2)
    have gx := g.frame sx (by simp)
    have fbx : w0.heap.size ≤ (h1.new (iv x) 2).next := by simp; omega
    generalize hnx : h1.new (iv x) 2 = hx1 at *
    simp only [lenSl_slice, lenStr_string, str_size, fpureA_some, fnilA_ptr, faddA_ptr, addr_add, Nat.zero_add, Nat.add_zero, fpureQ_k, fpureQ_nilA, fpureQ_addA, fpureQ_pureA, fpureQ_guardA, fpureQ_idxSlA, fpureQ_pickA, freadQ_loadA, freadQ_loadNA, freadQ_b2sA, freadQ_guardA, freadQ_slSlA, freadQ_k, fendA, fallA_one, fstillA_nil, fguardA_tt, fguardA_ff, fguardA_tf, fguardA_ft, fguardA_undef, fpickA_true, fpickA_false, fcondA_true, fcondA_false, binA_add, binA_sub, binA_mul, binA_eql, binA_neq, binA_lss, binA_leq, binA_gtr, binA_geq, unA_not, Bool.not_true, Bool.not_false, convA_int, extA_tuple, List.getElem?_toArray, List.getElem?_cons_zero, List.getElem?_cons_succ]
    refine loadA_at fb hx rfl ?_
    have no : inR a b x.1 = false → deduplaw10_part_L1 prog w0 k0 (post.length + 1) (.string (str a)) (.string (str b)) x3 v (.int .i64 (l.length : Int)) (.int .i64 ((pre ++ [x]).length : Int)) hx1 := by
      intro e
      refine ih (pre ++ [x]) hx1 x3 S1 (by simpa using he) ?_ stx
      have : (pre ++ [x]).filter (fun x => inR a b x.1) = pre.filter (fun x => inR a b x.1) := by rw [List.filter_append]; simp [e]
      rw [this]
      exact gx
    simp only [s_geq, lenSl_slice, lenStr_string, str_size, fpureA_some, fnilA_ptr, faddA_ptr, addr_add, Nat.zero_add, Nat.add_zero, fpureQ_k, fpureQ_nilA, fpureQ_addA, fpureQ_pureA, fpureQ_guardA, fpureQ_idxSlA, fpureQ_pickA, freadQ_loadA, freadQ_loadNA, freadQ_b2sA, freadQ_guardA, freadQ_slSlA, freadQ_k, fendA, fallA_one, fstillA_nil, fguardA_tt, fguardA_ff, fguardA_tf, fguardA_ft, fguardA_undef, fpickA_true, fpickA_false, fcondA_true, fcondA_false, binA_add, binA_sub, binA_mul, binA_eql, binA_neq, binA_lss, binA_leq, binA_gtr, binA_geq, unA_not, Bool.not_true, Bool.not_false, convA_int, extA_tuple, List.getElem?_toArray, List.getElem?_cons_zero, List.getElem?_cons_succ]
    cases h1b : blt x.1 a with
    | true =>
      simp only [Bool.not_true, lenSl_slice, lenStr_string, str_size, fpureA_some, fnilA_ptr, faddA_ptr, addr_add, Nat.zero_add, Nat.add_zero, fpureQ_k, fpureQ_nilA, fpureQ_addA, fpureQ_pureA, fpureQ_guardA, fpureQ_idxSlA, fpureQ_pickA, freadQ_loadA, freadQ_loadNA, freadQ_b2sA, freadQ_guardA, freadQ_slSlA, freadQ_k, fendA, fallA_one, fstillA_nil, fguardA_tt, fguardA_ff, fguardA_tf, fguardA_ft, fguardA_undef, fpickA_true, fpickA_false, fcondA_true, fcondA_false, binA_add, binA_sub, binA_mul, binA_eql, binA_neq, binA_lss, binA_leq, binA_gtr, binA_geq, unA_not, Bool.not_true, Bool.not_false, convA_int, extA_tuple, List.getElem?_toArray, List.getElem?_cons_zero, List.getElem?_cons_succ, e6]
      exact no (by unfold inR; rw [h1b]; rfl)
    | false =>
      simp only [Bool.not_false, lenSl_slice, lenStr_string, str_size, fpureA_some, fnilA_ptr, faddA_ptr, addr_add, Nat.zero_add, Nat.add_zero, fpureQ_k, fpureQ_nilA, fpureQ_addA, fpureQ_pureA, fpureQ_guardA, fpureQ_idxSlA, fpureQ_pickA, freadQ_loadA, freadQ_loadNA, freadQ_b2sA, freadQ_guardA, freadQ_slSlA, freadQ_k, fendA, fallA_one, fstillA_nil, fguardA_tt, fguardA_ff, fguardA_tf, fguardA_ft, fguardA_undef, fpickA_true, fpickA_false, fcondA_true, fcondA_false, binA_add, binA_sub, binA_mul, binA_eql, binA_neq, binA_lss, binA_leq, binA_gtr, binA_geq, unA_not, Bool.not_true, Bool.not_false, convA_int, extA_tuple, List.getElem?_toArray, List.getElem?_cons_zero, List.getElem?_cons_succ]
      refine loadA_at fb hx rfl ?_
      simp only [s_lss, lenSl_slice, lenStr_string, str_size, fpureA_some, fnilA_ptr, faddA_ptr, addr_add, Nat.zero_add, Nat.add_zero, fpureQ_k, fpureQ_nilA, fpureQ_addA, fpureQ_pureA, fpureQ_guardA, fpureQ_idxSlA, fpureQ_pickA, freadQ_loadA, freadQ_loadNA, freadQ_b2sA, freadQ_guardA, freadQ_slSlA, freadQ_k, fendA, fallA_one, fstillA_nil, fguardA_tt, fguardA_ff, fguardA_tf, fguardA_ft, fguardA_undef, fpickA_true, fpickA_false, fcondA_true, fcondA_false, binA_add, binA_sub, binA_mul, binA_eql, binA_neq, binA_lss, binA_leq, binA_gtr, binA_geq, unA_not, Bool.not_true, Bool.not_false, convA_int, extA_tuple, List.getElem?_toArray, List.getElem?_cons_zero, List.getElem?_cons_succ]
      cases h2b : blt x.1 b with
      | false =>
        simp only [lenSl_slice, lenStr_string, str_size, fpureA_some, fnilA_ptr, faddA_ptr, addr_add, Nat.zero_add, Nat.add_zero, fpureQ_k, fpureQ_nilA, fpureQ_addA, fpureQ_pureA, fpureQ_guardA, fpureQ_idxSlA, fpureQ_pickA, freadQ_loadA, freadQ_loadNA, freadQ_b2sA, freadQ_guardA, freadQ_slSlA, freadQ_k, fendA, fallA_one, fstillA_nil, fguardA_tt, fguardA_ff, fguardA_tf, fguardA_ft, fguardA_undef, fpickA_true, fpickA_false, fcondA_true, fcondA_false, binA_add, binA_sub, binA_mul, binA_eql, binA_neq, binA_lss, binA_leq, binA_gtr, binA_geq, unA_not, Bool.not_true, Bool.not_false, convA_int, extA_tuple, List.getElem?_toArray, List.getElem?_cons_zero, List.getElem?_cons_succ, e6]
        exact no (by unfold inR; rw [h1b, h2b]; rfl)
      | true =>
        simp only [lenSl_slice, lenStr_string, str_size, fpureA_some, fnilA_ptr, faddA_ptr, addr_add, Nat.zero_add, Nat.add_zero, fpureQ_k, fpureQ_nilA, fpureQ_addA, fpureQ_pureA, fpureQ_guardA, fpureQ_idxSlA, fpureQ_pickA, freadQ_loadA, freadQ_loadNA, freadQ_b2sA, freadQ_guardA, freadQ_slSlA, freadQ_k, fendA, fallA_one, fstillA_nil, fguardA_tt, fguardA_ff, fguardA_tf, fguardA_ft, fguardA_undef, fpickA_true, fpickA_false, fcondA_true, fcondA_false, binA_add, binA_sub, binA_mul, binA_eql, binA_neq, binA_lss, binA_leq, binA_gtr, binA_geq, unA_not, Bool.not_true, Bool.not_false, convA_int, extA_tuple, List.getElem?_toArray, List.getElem?_cons_zero, List.getElem?_cons_succ]
        refine loadNA_whole fb hx rfl ?_
        refine appN_vec (by omega) gx.gv rfl rfl (by omega) (by omega) (by omega) fun x' h3 S3 v3 s3 => ?_
        simp only [e6]
        refine ih (pre ++ [x]) h3 x' S3 (by simpa using he) ?_ (stx.trans s3)
        have e : inR a b x.1 = true := by unfold inR; rw [h1b, h2b]; rfl
        have : (pre ++ [x]).filter (fun x => inR a b x.1) = pre.filter (fun x => inR a b x.1) ++ [x] := by rw [List.filter_append]; simp [e]
        rw [this, List.length_append]
        simpa [ivs] using v3
theorem part_spec {v : Value} {l : List Itm} {a b : Key} (hv : Is w0 h v l) (hl : l.length ≤ 1000000000) :
    ACalls prog w0 n_deduplaw10_part [v, .string (str a), .string (str b)] h fun r h' => ∃ S', Vec w0 h' 2 r (wantL l a b false).length (ivs (wantL l a b false)) S' ∧ Step h h' [] S' := by
  refine ACalls.of_fit (by simpa using hv.junk) fun f => c_deduplaw10_part (by simpa using hv.junk) ?_
  simp only [s_deduplaw10_part, hv.lenv, lenSl_slice, lenStr_string, str_size, fpureA_some, fnilA_ptr, faddA_ptr, addr_add, Nat.zero_add, Nat.add_zero, fpureQ_k, fpureQ_nilA, fpureQ_addA, fpureQ_pureA, fpureQ_guardA, fpureQ_idxSlA, fpureQ_pickA, freadQ_loadA, freadQ_loadNA, freadQ_b2sA, freadQ_guardA, freadQ_slSlA, freadQ_k, fendA, fallA_one, fstillA_nil, fguardA_tt, fguardA_ff, fguardA_tf, fguardA_ft, fguardA_undef, fpickA_true, fpickA_false, fcondA_true, fcondA_false, binA_add, binA_sub, binA_mul, binA_eql, binA_neq, binA_lss, binA_leq, binA_gtr, binA_geq, unA_not, Bool.not_true, Bool.not_false, convA_int, extA_tuple, List.getElem?_toArray, List.getElem?_cons_zero, List.getElem?_cons_succ]
  refine ⟨l.length + 1, part_loop hv f hl (fun x' h' S' g st => ?_) l [] h _ [] rfl .nil (.refl _ _ (by simp))⟩
  simp only [retA_iff, oneOf_one]
  exact ⟨by simpa using g.gv.junk, S', g, st⟩
end
/-- What a step makes of a list. -/
def doK (o : MOp) (l : List Itm) : List Itm := if o.k = 0 then putK l o.key o.n else if o.k = 2 then delK l o.key else l
theorem bbe_f : binBoolA .eql (.bool false) (.bool false) = some (.bool true) := rfl
theorem bbe_t : binBoolA .eql (.bool true) (.bool true) = some (.bool true) := rfl
section
variable {w0 : World} {h h' : Hp}
/-- A map of the program's and a list of the document's, that hold the same. -/
structure ST (w0 : World) (h : Hp) (p : Nat) (x : Value) (l : List Itm) (M X : List Nat) : Prop where
  m : Mp w0 h p l M
  g : GV w0 h 2 x l.length (ivs l) X
  ap : ∀ b, b ∈ X → b ∉ M
  s : Srt l
theorem ST.frame {p : Nat} {x : Value} {l : List Itm} {M X T T' : List Nat} (q : ST w0 h p x l M X) (st : Step h h' T T') (h1 : ∀ b, b ∈ M → b ∉ T) (h2 : ∀ b, b ∈ X → b ∉ T) : ST w0 h' p x l M X :=
  ⟨q.m.frame st h1, q.g.frame st h2, q.ap, q.s⟩
theorem step_spec {p : Nat} {x : Value} {l : List Itm} {M X : List Nat} (o : MOp) (q : ST w0 h p x l M X) (hl : l.length ≤ 10000000) :
    ACalls prog w0 n_deduplaw10_step [ptr p, x, .agg o.e.toArray] h fun r h' => ∃ y M' X', r = .tuple #[y, .bool true] ∧ ST w0 h' p y (doK o l) M' X' := by
  refine ACalls.of_fit (by simpa [ptr] using q.g.junk) fun f => c_deduplaw10_step (by simpa [ptr] using q.g.junk) ?_
  have fb := f.base
  simp only [s_deduplaw10_step, boxA_agg]
  have sA : Step h (h.new o.e 4) [] [] := ((Step.refl h [] (by simp)).new _ _).less (by simp)
  have fA : Fit w0 (h.new o.e 4) := f.new (by simp [MOp.e, isCell])
  have bA : (h.new o.e 4).blk h.next = some o.e := by simp
  have qA := q.frame sA (by simp) (by simp)
  have hnM : h.next ∉ M := fun e => by have := (q.m.lt _ e).2; omega
  have hnX : h.next ∉ X := fun e => by have := (q.g.lt _ e).2; omega
  have nA : h.next < (h.new o.e 4).next := by simp
  show addA _ 1 _ (h.new o.e 4)
  generalize h.new o.e 4 = hA at *
  clear sA q
  simp only [lenSl_slice, lenStr_string, str_size, fpureA_some, fnilA_ptr, faddA_ptr, addr_add, Nat.zero_add, Nat.add_zero, fpureQ_k, fpureQ_nilA, fpureQ_addA, fpureQ_pureA, fpureQ_guardA, fpureQ_idxSlA, fpureQ_pickA, freadQ_loadA, freadQ_loadNA, freadQ_b2sA, freadQ_guardA, freadQ_slSlA, freadQ_k, fendA, fallA_one, fstillA_nil, fguardA_tt, fguardA_ff, fguardA_tf, fguardA_ft, fguardA_undef, fpickA_true, fpickA_false, fcondA_true, fcondA_false, binA_add, binA_sub, binA_mul, binA_eql, binA_neq, binA_lss, binA_leq, binA_gtr, binA_geq, unA_not, Bool.not_true, Bool.not_false, convA_int, extA_tuple, List.getElem?_toArray, List.getElem?_cons_zero, List.getElem?_cons_succ]
  refine loadA_at fb bA rfl ?_
  refine callA_of (rFind_spec qA.g.sl (by omega)) fun r h1 ⟨e, s1⟩ f1 => ?_
  subst e
  have q1 := qA.frame s1 (by simp) (by simp)
  have b1 : h1.blk h.next = some o.e := by rw [(s1.keep _ nA (by simp)).1]; exact bA
  have n1 : h.next < h1.next := Nat.lt_of_lt_of_le nA s1.1
  clear qA bA nA s1
  have hfl := findK_le l o.key
  simp only [lenSl_slice, lenStr_string, str_size, fpureA_some, fnilA_ptr, faddA_ptr, addr_add, Nat.zero_add, Nat.add_zero, fpureQ_k, fpureQ_nilA, fpureQ_addA, fpureQ_pureA, fpureQ_guardA, fpureQ_idxSlA, fpureQ_pickA, freadQ_loadA, freadQ_loadNA, freadQ_b2sA, freadQ_guardA, freadQ_slSlA, freadQ_k, fendA, fallA_one, fstillA_nil, fguardA_tt, fguardA_ff, fguardA_tf, fguardA_ft, fguardA_undef, fpickA_true, fpickA_false, fcondA_true, fcondA_false, binA_add, binA_sub, binA_mul, binA_eql, binA_neq, binA_lss, binA_leq, binA_gtr, binA_geq, unA_not, Bool.not_true, Bool.not_false, convA_int, extA_tuple, List.getElem?_toArray, List.getElem?_cons_zero, List.getElem?_cons_succ]
  refine loadA_at fb b1 rfl ?_
  by_cases k0 : o.k = 0
  · have c0 : (o.k == 0) = true := by simp [k0]
    simp only [c0, lenSl_slice, lenStr_string, str_size, fpureA_some, fnilA_ptr, faddA_ptr, addr_add, Nat.zero_add, Nat.add_zero, fpureQ_k, fpureQ_nilA, fpureQ_addA, fpureQ_pureA, fpureQ_guardA, fpureQ_idxSlA, fpureQ_pickA, freadQ_loadA, freadQ_loadNA, freadQ_b2sA, freadQ_guardA, freadQ_slSlA, freadQ_k, fendA, fallA_one, fstillA_nil, fguardA_tt, fguardA_ff, fguardA_tf, fguardA_ft, fguardA_undef, fpickA_true, fpickA_false, fcondA_true, fcondA_false, binA_add, binA_sub, binA_mul, binA_eql, binA_neq, binA_lss, binA_leq, binA_gtr, binA_geq, unA_not, Bool.not_true, Bool.not_false, convA_int, extA_tuple, List.getElem?_toArray, List.getElem?_cons_zero, List.getElem?_cons_succ]
    refine loadA_at fb b1 rfl ?_
    refine loadA_at fb b1 rfl ?_
    refine callA_of (MPut_spec q1.m q1.s (by omega) o.key o.n) fun r h2 ⟨e, M2, m2, s2⟩ f2 => ?_
    subst e
    have g2 := q1.g.frame s2 q1.ap
    have b2 : h2.blk h.next = some o.e := by rw [(s2.keep _ n1 hnM).1]; exact b1
    simp only [lenSl_slice, lenStr_string, str_size, fpureA_some, fnilA_ptr, faddA_ptr, addr_add, Nat.zero_add, Nat.add_zero, fpureQ_k, fpureQ_nilA, fpureQ_addA, fpureQ_pureA, fpureQ_guardA, fpureQ_idxSlA, fpureQ_pickA, freadQ_loadA, freadQ_loadNA, freadQ_b2sA, freadQ_guardA, freadQ_slSlA, freadQ_k, fendA, fallA_one, fstillA_nil, fguardA_tt, fguardA_ff, fguardA_tf, fguardA_ft, fguardA_undef, fpickA_true, fpickA_false, fcondA_true, fcondA_false, binA_add, binA_sub, binA_mul, binA_eql, binA_neq, binA_lss, binA_leq, binA_gtr, binA_geq, unA_not, Bool.not_true, Bool.not_false, convA_int, extA_tuple, List.getElem?_toArray, List.getElem?_cons_zero, List.getElem?_cons_succ]
    refine loadA_at fb b2 rfl ?_
    refine loadA_at fb b2 rfl ?_
    simp only [buildA_iff, fillA_one, fillA_nil, List.set_cons_zero, List.set_cons_succ]
    refine ⟨rfl, by simp, rfl, by simp, ?_⟩
    refine callA_of (rPut_spec (k := o.key) (v := o.n) g2.sl (by omega)) fun r h3 ⟨y, X3, e, g3, s3⟩ f3 => ?_
    subst e
    have m3 := m2.frame s3 (by simp)
    simp only [lenSl_slice, lenStr_string, str_size, fpureA_some, fnilA_ptr, faddA_ptr, addr_add, Nat.zero_add, Nat.add_zero, fpureQ_k, fpureQ_nilA, fpureQ_addA, fpureQ_pureA, fpureQ_guardA, fpureQ_idxSlA, fpureQ_pickA, freadQ_loadA, freadQ_loadNA, freadQ_b2sA, freadQ_guardA, freadQ_slSlA, freadQ_k, fendA, fallA_one, fstillA_nil, fguardA_tt, fguardA_ff, fguardA_tf, fguardA_ft, fguardA_undef, fpickA_true, fpickA_false, fcondA_true, fcondA_false, binA_add, binA_sub, binA_mul, binA_eql, binA_neq, binA_lss, binA_leq, binA_gtr, binA_geq, unA_not, Bool.not_true, Bool.not_false, convA_int, extA_tuple, List.getElem?_toArray, List.getElem?_cons_zero, List.getElem?_cons_succ]
    refine boxN f3.base rfl rfl (by simp [isCell]) ?_
    have s4 : Step h3 (h3.new (iv (oldK l o.key)) 2) [] [] := ((Step.refl h3 [] (by simp)).new _ _).less (by simp)
    simp only [lenSl_slice, lenStr_string, str_size, fpureA_some, fnilA_ptr, faddA_ptr, addr_add, Nat.zero_add, Nat.add_zero, fpureQ_k, fpureQ_nilA, fpureQ_addA, fpureQ_pureA, fpureQ_guardA, fpureQ_idxSlA, fpureQ_pickA, freadQ_loadA, freadQ_loadNA, freadQ_b2sA, freadQ_guardA, freadQ_slSlA, freadQ_k, fendA, fallA_one, fstillA_nil, fguardA_tt, fguardA_ff, fguardA_tf, fguardA_ft, fguardA_undef, fpickA_true, fpickA_false, fcondA_true, fcondA_false, binA_add, binA_sub, binA_mul, binA_eql, binA_neq, binA_lss, binA_leq, binA_gtr, binA_geq, unA_not, Bool.not_true, Bool.not_false, convA_int, extA_tuple, List.getElem?_toArray, List.getElem?_cons_zero, List.getElem?_cons_succ]
    refine loadA_at (cs := iv (oldK l o.key)) f3.base (by simp) rfl ?_
    simp only [oldK_get, lenSl_slice, lenStr_string, str_size, fpureA_some, fnilA_ptr, faddA_ptr, addr_add, Nat.zero_add, Nat.add_zero, fpureQ_k, fpureQ_nilA, fpureQ_addA, fpureQ_pureA, fpureQ_guardA, fpureQ_idxSlA, fpureQ_pickA, freadQ_loadA, freadQ_loadNA, freadQ_b2sA, freadQ_guardA, freadQ_slSlA, freadQ_k, fendA, fallA_one, fstillA_nil, fguardA_tt, fguardA_ff, fguardA_tf, fguardA_ft, fguardA_undef, fpickA_true, fpickA_false, fcondA_true, fcondA_false, binA_add, binA_sub, binA_mul, binA_eql, binA_neq, binA_lss, binA_leq, binA_gtr, binA_geq, unA_not, Bool.not_true, Bool.not_false, convA_int, extA_tuple, List.getElem?_toArray, List.getElem?_cons_zero, List.getElem?_cons_succ, beq_self_eq_true, binBoolA_eql, retA_iff, oneOf_two]
    have ek : doK o l = putK l o.key o.n := by unfold doK; rw [if_pos k0]
    rw [ek]
    refine ⟨by simpa using g3.junk, y, M2, X3, rfl, m3.frame s4 (by simp), g3.frame s4 (by simp), fun b hb hM => ?_, putK_srt q1.s _ _⟩
    have := (m2.lt b hM).2
    rcases (s3.own b hb).2 with e | e
    · simp at e
    · omega
  have c0 : (o.k == 0) = false := by simp [k0]
  simp only [c0, lenSl_slice, lenStr_string, str_size, fpureA_some, fnilA_ptr, faddA_ptr, addr_add, Nat.zero_add, Nat.add_zero, fpureQ_k, fpureQ_nilA, fpureQ_addA, fpureQ_pureA, fpureQ_guardA, fpureQ_idxSlA, fpureQ_pickA, freadQ_loadA, freadQ_loadNA, freadQ_b2sA, freadQ_guardA, freadQ_slSlA, freadQ_k, fendA, fallA_one, fstillA_nil, fguardA_tt, fguardA_ff, fguardA_tf, fguardA_ft, fguardA_undef, fpickA_true, fpickA_false, fcondA_true, fcondA_false, binA_add, binA_sub, binA_mul, binA_eql, binA_neq, binA_lss, binA_leq, binA_gtr, binA_geq, unA_not, Bool.not_true, Bool.not_false, convA_int, extA_tuple, List.getElem?_toArray, List.getElem?_cons_zero, List.getElem?_cons_succ]
  by_cases k1 : o.k = 1
  · have c1 : (o.k == 1) = true := by simp [k1]
    have ek : doK o l = l := by unfold doK; rw [if_neg k0, if_neg (by omega)]
    rw [ek]
    simp only [c1, lenSl_slice, lenStr_string, str_size, fpureA_some, fnilA_ptr, faddA_ptr, addr_add, Nat.zero_add, Nat.add_zero, fpureQ_k, fpureQ_nilA, fpureQ_addA, fpureQ_pureA, fpureQ_guardA, fpureQ_idxSlA, fpureQ_pickA, freadQ_loadA, freadQ_loadNA, freadQ_b2sA, freadQ_guardA, freadQ_slSlA, freadQ_k, fendA, fallA_one, fstillA_nil, fguardA_tt, fguardA_ff, fguardA_tf, fguardA_ft, fguardA_undef, fpickA_true, fpickA_false, fcondA_true, fcondA_false, binA_add, binA_sub, binA_mul, binA_eql, binA_neq, binA_lss, binA_leq, binA_gtr, binA_geq, unA_not, Bool.not_true, Bool.not_false, convA_int, extA_tuple, List.getElem?_toArray, List.getElem?_cons_zero, List.getElem?_cons_succ]
    refine loadA_at fb b1 rfl ?_
    refine callA_of (MGet_spec q1.m q1.s (by omega) o.key) fun r h2 ⟨e, s2⟩ f2 => ?_
    subst e
    have q2 := q1.frame s2 (by simp) (by simp)
    cases hh : hasK l o.key with
    | true =>
      obtain ⟨u, hu⟩ := hasK_some hh
      have hgk : getK l o.key = u := by unfold getK; rw [hh, hu]; rfl
      simp only [bbe_t, lenSl_slice, lenStr_string, str_size, fpureA_some, fnilA_ptr, faddA_ptr, addr_add, Nat.zero_add, Nat.add_zero, fpureQ_k, fpureQ_nilA, fpureQ_addA, fpureQ_pureA, fpureQ_guardA, fpureQ_idxSlA, fpureQ_pickA, freadQ_loadA, freadQ_loadNA, freadQ_b2sA, freadQ_guardA, freadQ_slSlA, freadQ_k, fendA, fallA_one, fstillA_nil, fguardA_tt, fguardA_ff, fguardA_tf, fguardA_ft, fguardA_undef, fpickA_true, fpickA_false, fcondA_true, fcondA_false, binA_add, binA_sub, binA_mul, binA_eql, binA_neq, binA_lss, binA_leq, binA_gtr, binA_geq, unA_not, Bool.not_true, Bool.not_false, convA_int, extA_tuple, List.getElem?_toArray, List.getElem?_cons_zero, List.getElem?_cons_succ]
      refine q2.g.sl.fld (o := 1) (List.getElem?_eq_some_iff.1 hu).1 (by omega) (ivs_val hu) ?_
      simp only [hgk, lenSl_slice, lenStr_string, str_size, fpureA_some, fnilA_ptr, faddA_ptr, addr_add, Nat.zero_add, Nat.add_zero, fpureQ_k, fpureQ_nilA, fpureQ_addA, fpureQ_pureA, fpureQ_guardA, fpureQ_idxSlA, fpureQ_pickA, freadQ_loadA, freadQ_loadNA, freadQ_b2sA, freadQ_guardA, freadQ_slSlA, freadQ_k, fendA, fallA_one, fstillA_nil, fguardA_tt, fguardA_ff, fguardA_tf, fguardA_ft, fguardA_undef, fpickA_true, fpickA_false, fcondA_true, fcondA_false, binA_add, binA_sub, binA_mul, binA_eql, binA_neq, binA_lss, binA_leq, binA_gtr, binA_geq, unA_not, Bool.not_true, Bool.not_false, convA_int, extA_tuple, List.getElem?_toArray, List.getElem?_cons_zero, List.getElem?_cons_succ, beq_self_eq_true, retA_iff, oneOf_two]
      exact ⟨by simpa using q2.g.junk, x, M, X, rfl, q2⟩
    | false =>
      have hgk : getK l o.key = 0 := by unfold getK; rw [hh]; rfl
      simp only [bbe_f, Bool.not_false, lenSl_slice, lenStr_string, str_size, fpureA_some, fnilA_ptr, faddA_ptr, addr_add, Nat.zero_add, Nat.add_zero, fpureQ_k, fpureQ_nilA, fpureQ_addA, fpureQ_pureA, fpureQ_guardA, fpureQ_idxSlA, fpureQ_pickA, freadQ_loadA, freadQ_loadNA, freadQ_b2sA, freadQ_guardA, freadQ_slSlA, freadQ_k, fendA, fallA_one, fstillA_nil, fguardA_tt, fguardA_ff, fguardA_tf, fguardA_ft, fguardA_undef, fpickA_true, fpickA_false, fcondA_true, fcondA_false, binA_add, binA_sub, binA_mul, binA_eql, binA_neq, binA_lss, binA_leq, binA_gtr, binA_geq, unA_not, Bool.not_true, Bool.not_false, convA_int, extA_tuple, List.getElem?_toArray, List.getElem?_cons_zero, List.getElem?_cons_succ, hgk, beq_self_eq_true, retA_iff, oneOf_two]
      exact ⟨by simpa using q2.g.junk, x, M, X, rfl, q2⟩
  have c1 : (o.k == 1) = false := by simp [k1]
  simp only [c1, lenSl_slice, lenStr_string, str_size, fpureA_some, fnilA_ptr, faddA_ptr, addr_add, Nat.zero_add, Nat.add_zero, fpureQ_k, fpureQ_nilA, fpureQ_addA, fpureQ_pureA, fpureQ_guardA, fpureQ_idxSlA, fpureQ_pickA, freadQ_loadA, freadQ_loadNA, freadQ_b2sA, freadQ_guardA, freadQ_slSlA, freadQ_k, fendA, fallA_one, fstillA_nil, fguardA_tt, fguardA_ff, fguardA_tf, fguardA_ft, fguardA_undef, fpickA_true, fpickA_false, fcondA_true, fcondA_false, binA_add, binA_sub, binA_mul, binA_eql, binA_neq, binA_lss, binA_leq, binA_gtr, binA_geq, unA_not, Bool.not_true, Bool.not_false, convA_int, extA_tuple, List.getElem?_toArray, List.getElem?_cons_zero, List.getElem?_cons_succ]
  by_cases k2 : o.k = 2
  · have c2 : (o.k == 2) = true := by simp [k2]
    simp only [c2, lenSl_slice, lenStr_string, str_size, fpureA_some, fnilA_ptr, faddA_ptr, addr_add, Nat.zero_add, Nat.add_zero, fpureQ_k, fpureQ_nilA, fpureQ_addA, fpureQ_pureA, fpureQ_guardA, fpureQ_idxSlA, fpureQ_pickA, freadQ_loadA, freadQ_loadNA, freadQ_b2sA, freadQ_guardA, freadQ_slSlA, freadQ_k, fendA, fallA_one, fstillA_nil, fguardA_tt, fguardA_ff, fguardA_tf, fguardA_ft, fguardA_undef, fpickA_true, fpickA_false, fcondA_true, fcondA_false, binA_add, binA_sub, binA_mul, binA_eql, binA_neq, binA_lss, binA_leq, binA_gtr, binA_geq, unA_not, Bool.not_true, Bool.not_false, convA_int, extA_tuple, List.getElem?_toArray, List.getElem?_cons_zero, List.getElem?_cons_succ]
    refine loadA_at fb b1 rfl ?_
    refine callA_of (MDelete_spec q1.m q1.s (by omega) o.key) fun r h2 ⟨e, M2, m2, s2⟩ f2 => ?_
    subst e
    have g2 := q1.g.frame s2 q1.ap
    have b2 : h2.blk h.next = some o.e := by rw [(s2.keep _ n1 hnM).1]; exact b1
    simp only [lenSl_slice, lenStr_string, str_size, fpureA_some, fnilA_ptr, faddA_ptr, addr_add, Nat.zero_add, Nat.add_zero, fpureQ_k, fpureQ_nilA, fpureQ_addA, fpureQ_pureA, fpureQ_guardA, fpureQ_idxSlA, fpureQ_pickA, freadQ_loadA, freadQ_loadNA, freadQ_b2sA, freadQ_guardA, freadQ_slSlA, freadQ_k, fendA, fallA_one, fstillA_nil, fguardA_tt, fguardA_ff, fguardA_tf, fguardA_ft, fguardA_undef, fpickA_true, fpickA_false, fcondA_true, fcondA_false, binA_add, binA_sub, binA_mul, binA_eql, binA_neq, binA_lss, binA_leq, binA_gtr, binA_geq, unA_not, Bool.not_true, Bool.not_false, convA_int, extA_tuple, List.getElem?_toArray, List.getElem?_cons_zero, List.getElem?_cons_succ]
    refine loadA_at fb b2 rfl ?_
    refine callA_of (rDelete_spec (k := o.key) g2.sl (by omega)) fun r h3 ⟨y, e, hc⟩ f3 => ?_
    subst e
    have ek : doK o l = delK l o.key := by unfold doK; rw [if_neg k0, if_pos k2]
    rw [ek]
    have hX2 : ∀ b, b ∈ X → b ∉ M2 := apart_step s2 q1.ap (fun b hb => (q1.g.lt b hb).2)
    obtain ⟨X3, m3, g3, ap3⟩ : ∃ X3, Mp w0 h3 p (delK l o.key) M2 ∧ GV w0 h3 2 y (delK l o.key).length (ivs (delK l o.key)) X3 ∧ ∀ b, b ∈ X3 → b ∉ M2 := by
      rcases hc with ⟨e1, rfl, s3⟩ | ⟨e1, S3, g3, s3⟩
      · have ed : delK l o.key = l := by unfold delK; rw [e1, if_neg (by simp)]
        refine ⟨X, m2.frame s3 (by simp), ?_, hX2⟩
        rw [ed]
        exact g2.frame s3 (by simp)
      · refine ⟨S3, m2.frame s3 (by simp), g3, fun b hb hM => ?_⟩
        have := (m2.lt b hM).2
        rcases (s3.own b hb).2 with e | e
        · simp at e
        · omega
    simp only [lenSl_slice, lenStr_string, str_size, fpureA_some, fnilA_ptr, faddA_ptr, addr_add, Nat.zero_add, Nat.add_zero, fpureQ_k, fpureQ_nilA, fpureQ_addA, fpureQ_pureA, fpureQ_guardA, fpureQ_idxSlA, fpureQ_pickA, freadQ_loadA, freadQ_loadNA, freadQ_b2sA, freadQ_guardA, freadQ_slSlA, freadQ_k, fendA, fallA_one, fstillA_nil, fguardA_tt, fguardA_ff, fguardA_tf, fguardA_ft, fguardA_undef, fpickA_true, fpickA_false, fcondA_true, fcondA_false, binA_add, binA_sub, binA_mul, binA_eql, binA_neq, binA_lss, binA_leq, binA_gtr, binA_geq, unA_not, Bool.not_true, Bool.not_false, convA_int, extA_tuple, List.getElem?_toArray, List.getElem?_cons_zero, List.getElem?_cons_succ]
    refine boxN f3.base rfl rfl (by simp [isCell]) ?_
    have s4 : Step h3 (h3.new (iv (oldK l o.key)) 2) [] [] := ((Step.refl h3 [] (by simp)).new _ _).less (by simp)
    simp only [lenSl_slice, lenStr_string, str_size, fpureA_some, fnilA_ptr, faddA_ptr, addr_add, Nat.zero_add, Nat.add_zero, fpureQ_k, fpureQ_nilA, fpureQ_addA, fpureQ_pureA, fpureQ_guardA, fpureQ_idxSlA, fpureQ_pickA, freadQ_loadA, freadQ_loadNA, freadQ_b2sA, freadQ_guardA, freadQ_slSlA, freadQ_k, fendA, fallA_one, fstillA_nil, fguardA_tt, fguardA_ff, fguardA_tf, fguardA_ft, fguardA_undef, fpickA_true, fpickA_false, fcondA_true, fcondA_false, binA_add, binA_sub, binA_mul, binA_eql, binA_neq, binA_lss, binA_leq, binA_gtr, binA_geq, unA_not, Bool.not_true, Bool.not_false, convA_int, extA_tuple, List.getElem?_toArray, List.getElem?_cons_zero, List.getElem?_cons_succ]
    refine loadA_at (cs := iv (oldK l o.key)) f3.base (by simp) rfl ?_
    simp only [oldK_get, lenSl_slice, lenStr_string, str_size, fpureA_some, fnilA_ptr, faddA_ptr, addr_add, Nat.zero_add, Nat.add_zero, fpureQ_k, fpureQ_nilA, fpureQ_addA, fpureQ_pureA, fpureQ_guardA, fpureQ_idxSlA, fpureQ_pickA, freadQ_loadA, freadQ_loadNA, freadQ_b2sA, freadQ_guardA, freadQ_slSlA, freadQ_k, fendA, fallA_one, fstillA_nil, fguardA_tt, fguardA_ff, fguardA_tf, fguardA_ft, fguardA_undef, fpickA_true, fpickA_false, fcondA_true, fcondA_false, binA_add, binA_sub, binA_mul, binA_eql, binA_neq, binA_lss, binA_leq, binA_gtr, binA_geq, unA_not, Bool.not_true, Bool.not_false, convA_int, extA_tuple, List.getElem?_toArray, List.getElem?_cons_zero, List.getElem?_cons_succ, beq_self_eq_true, binBoolA_eql, retA_iff, oneOf_two]
    exact ⟨by simpa using g3.junk, y, M2, X3, rfl, m3.frame s4 (by simp), g3.frame s4 (by simp), ap3, delK_srt q1.s _⟩
  have c2 : (o.k == 2) = false := by simp [k2]
  have ek : doK o l = l := by unfold doK; rw [if_neg k0, if_neg k2]
  rw [ek]
  simp only [c2, lenSl_slice, lenStr_string, str_size, fpureA_some, fnilA_ptr, faddA_ptr, addr_add, Nat.zero_add, Nat.add_zero, fpureQ_k, fpureQ_nilA, fpureQ_addA, fpureQ_pureA, fpureQ_guardA, fpureQ_idxSlA, fpureQ_pickA, freadQ_loadA, freadQ_loadNA, freadQ_b2sA, freadQ_guardA, freadQ_slSlA, freadQ_k, fendA, fallA_one, fstillA_nil, fguardA_tt, fguardA_ff, fguardA_tf, fguardA_ft, fguardA_undef, fpickA_true, fpickA_false, fcondA_true, fcondA_false, binA_add, binA_sub, binA_mul, binA_eql, binA_neq, binA_lss, binA_leq, binA_gtr, binA_geq, unA_not, Bool.not_true, Bool.not_false, convA_int, extA_tuple, List.getElem?_toArray, List.getElem?_cons_zero, List.getElem?_cons_succ]
  by_cases k3 : o.k = 3
  · have c3 : (o.k == 3) = true := by simp [k3]
    simp only [c3, lenSl_slice, lenStr_string, str_size, fpureA_some, fnilA_ptr, faddA_ptr, addr_add, Nat.zero_add, Nat.add_zero, fpureQ_k, fpureQ_nilA, fpureQ_addA, fpureQ_pureA, fpureQ_guardA, fpureQ_idxSlA, fpureQ_pickA, freadQ_loadA, freadQ_loadNA, freadQ_b2sA, freadQ_guardA, freadQ_slSlA, freadQ_k, fendA, fallA_one, fstillA_nil, fguardA_tt, fguardA_ff, fguardA_tf, fguardA_ft, fguardA_undef, fpickA_true, fpickA_false, fcondA_true, fcondA_false, binA_add, binA_sub, binA_mul, binA_eql, binA_neq, binA_lss, binA_leq, binA_gtr, binA_geq, unA_not, Bool.not_true, Bool.not_false, convA_int, extA_tuple, List.getElem?_toArray, List.getElem?_cons_zero, List.getElem?_cons_succ]
    refine callA_of (MLen_spec q1.m) fun r h2 ⟨e, e'⟩ f2 => ?_
    subst e e'
    simp only [q1.g.sl.lenv, lenSl_slice, lenStr_string, str_size, fpureA_some, fnilA_ptr, faddA_ptr, addr_add, Nat.zero_add, Nat.add_zero, fpureQ_k, fpureQ_nilA, fpureQ_addA, fpureQ_pureA, fpureQ_guardA, fpureQ_idxSlA, fpureQ_pickA, freadQ_loadA, freadQ_loadNA, freadQ_b2sA, freadQ_guardA, freadQ_slSlA, freadQ_k, fendA, fallA_one, fstillA_nil, fguardA_tt, fguardA_ff, fguardA_tf, fguardA_ft, fguardA_undef, fpickA_true, fpickA_false, fcondA_true, fcondA_false, binA_add, binA_sub, binA_mul, binA_eql, binA_neq, binA_lss, binA_leq, binA_gtr, binA_geq, unA_not, Bool.not_true, Bool.not_false, convA_int, extA_tuple, List.getElem?_toArray, List.getElem?_cons_zero, List.getElem?_cons_succ, beq_self_eq_true, retA_iff, oneOf_two]
    exact ⟨by simpa using q1.g.junk, x, M, X, rfl, q1⟩
  have c3 : (o.k == 3) = false := by simp [k3]
  simp only [c3, lenSl_slice, lenStr_string, str_size, fpureA_some, fnilA_ptr, faddA_ptr, addr_add, Nat.zero_add, Nat.add_zero, fpureQ_k, fpureQ_nilA, fpureQ_addA, fpureQ_pureA, fpureQ_guardA, fpureQ_idxSlA, fpureQ_pickA, freadQ_loadA, freadQ_loadNA, freadQ_b2sA, freadQ_guardA, freadQ_slSlA, freadQ_k, fendA, fallA_one, fstillA_nil, fguardA_tt, fguardA_ff, fguardA_tf, fguardA_ft, fguardA_undef, fpickA_true, fpickA_false, fcondA_true, fcondA_false, binA_add, binA_sub, binA_mul, binA_eql, binA_neq, binA_lss, binA_leq, binA_gtr, binA_geq, unA_not, Bool.not_true, Bool.not_false, convA_int, extA_tuple, List.getElem?_toArray, List.getElem?_cons_zero, List.getElem?_cons_succ]
  by_cases k4 : o.k = 4
  · have c4 : (o.k == 4) = true := by simp [k4]
    simp only [c4, lenSl_slice, lenStr_string, str_size, fpureA_some, fnilA_ptr, faddA_ptr, addr_add, Nat.zero_add, Nat.add_zero, fpureQ_k, fpureQ_nilA, fpureQ_addA, fpureQ_pureA, fpureQ_guardA, fpureQ_idxSlA, fpureQ_pickA, freadQ_loadA, freadQ_loadNA, freadQ_b2sA, freadQ_guardA, freadQ_slSlA, freadQ_k, fendA, fallA_one, fstillA_nil, fguardA_tt, fguardA_ff, fguardA_tf, fguardA_ft, fguardA_undef, fpickA_true, fpickA_false, fcondA_true, fcondA_false, binA_add, binA_sub, binA_mul, binA_eql, binA_neq, binA_lss, binA_leq, binA_gtr, binA_geq, unA_not, Bool.not_true, Bool.not_false, convA_int, extA_tuple, List.getElem?_toArray, List.getElem?_cons_zero, List.getElem?_cons_succ]
    refine loadA_at fb b1 rfl ?_
    refine callA_of (MAt_spec q1.m o.n) fun r h2 ⟨e, s2⟩ f2 => ?_
    subst e
    have q2 := q1.frame s2 (by simp) (by simp)
    have b2 : h2.blk h.next = some o.e := by rw [(s2.keep _ n1 (by simp)).1]; exact b1
    have n2 : h.next < h2.next := Nat.lt_of_lt_of_le n1 s2.1
    by_cases hin : 0 ≤ o.n ∧ o.n < (l.length : Int)
    · obtain ⟨i, hi⟩ := Int.eq_ofNat_of_zero_le hin.1
      have hil : i < l.length := by omega
      have hg : l[i]? = some l[i] := List.getElem?_eq_getElem hil
      have eo : o.e = [.int .i64 o.k, .string (str o.key), .string (str o.to), .int .i64 (i : Int)] := by unfold MOp.e; rw [hi]
      rw [eo] at b2
      rw [if_pos hin.1, hi, Int.toNat_natCast, hg]
      simp only [lenSl_slice, lenStr_string, str_size, fpureA_some, fnilA_ptr, faddA_ptr, addr_add, Nat.zero_add, Nat.add_zero, fpureQ_k, fpureQ_nilA, fpureQ_addA, fpureQ_pureA, fpureQ_guardA, fpureQ_idxSlA, fpureQ_pickA, freadQ_loadA, freadQ_loadNA, freadQ_b2sA, freadQ_guardA, freadQ_slSlA, freadQ_k, fendA, fallA_one, fstillA_nil, fguardA_tt, fguardA_ff, fguardA_tf, fguardA_ft, fguardA_undef, fpickA_true, fpickA_false, fcondA_true, fcondA_false, binA_add, binA_sub, binA_mul, binA_eql, binA_neq, binA_lss, binA_leq, binA_gtr, binA_geq, unA_not, Bool.not_true, Bool.not_false, convA_int, extA_tuple, List.getElem?_toArray, List.getElem?_cons_zero, List.getElem?_cons_succ]
      refine boxN f2.base rfl rfl (by simp [isCell]) ?_
      have s3 : Step h2 (h2.new (iv l[i]) 2) [] [] := ((Step.refl h2 [] (by simp)).new _ _).less (by simp)
      have q3 := q2.frame s3 (by simp) (by simp)
      have b3 : (h2.new (iv l[i]) 2).blk h.next = some [.int .i64 o.k, .string (str o.key), .string (str o.to), .int .i64 (i : Int)] := by rw [new_blk, if_neg (by omega)]; exact b2
      have d3 : (h2.new (iv l[i]) 2).blk h2.next = some (iv l[i]) := by simp
      have fb2 := f2.base
      generalize h2.new (iv l[i]) 2 = h3 at *
      simp only [lenSl_slice, lenStr_string, str_size, fpureA_some, fnilA_ptr, faddA_ptr, addr_add, Nat.zero_add, Nat.add_zero, fpureQ_k, fpureQ_nilA, fpureQ_addA, fpureQ_pureA, fpureQ_guardA, fpureQ_idxSlA, fpureQ_pickA, freadQ_loadA, freadQ_loadNA, freadQ_b2sA, freadQ_guardA, freadQ_slSlA, freadQ_k, fendA, fallA_one, fstillA_nil, fguardA_tt, fguardA_ff, fguardA_tf, fguardA_ft, fguardA_undef, fpickA_true, fpickA_false, fcondA_true, fcondA_false, binA_add, binA_sub, binA_mul, binA_eql, binA_neq, binA_lss, binA_leq, binA_gtr, binA_geq, unA_not, Bool.not_true, Bool.not_false, convA_int, extA_tuple, List.getElem?_toArray, List.getElem?_cons_zero, List.getElem?_cons_succ]
      refine loadA_at fb b3 rfl ?_
      have c5 : decide ((i : Int) < 0) = false := decide_eq_false (by omega)
      simp only [c5, lenSl_slice, lenStr_string, str_size, fpureA_some, fnilA_ptr, faddA_ptr, addr_add, Nat.zero_add, Nat.add_zero, fpureQ_k, fpureQ_nilA, fpureQ_addA, fpureQ_pureA, fpureQ_guardA, fpureQ_idxSlA, fpureQ_pickA, freadQ_loadA, freadQ_loadNA, freadQ_b2sA, freadQ_guardA, freadQ_slSlA, freadQ_k, fendA, fallA_one, fstillA_nil, fguardA_tt, fguardA_ff, fguardA_tf, fguardA_ft, fguardA_undef, fpickA_true, fpickA_false, fcondA_true, fcondA_false, binA_add, binA_sub, binA_mul, binA_eql, binA_neq, binA_lss, binA_leq, binA_gtr, binA_geq, unA_not, Bool.not_true, Bool.not_false, convA_int, extA_tuple, List.getElem?_toArray, List.getElem?_cons_zero, List.getElem?_cons_succ]
      refine loadA_at fb b3 rfl ?_
      have c6 : decide ((l.length : Int) ≤ (i : Int)) = false := decide_eq_false (by omega)
      simp only [q3.g.sl.lenv, c6, lenSl_slice, lenStr_string, str_size, fpureA_some, fnilA_ptr, faddA_ptr, addr_add, Nat.zero_add, Nat.add_zero, fpureQ_k, fpureQ_nilA, fpureQ_addA, fpureQ_pureA, fpureQ_guardA, fpureQ_idxSlA, fpureQ_pickA, freadQ_loadA, freadQ_loadNA, freadQ_b2sA, freadQ_guardA, freadQ_slSlA, freadQ_k, fendA, fallA_one, fstillA_nil, fguardA_tt, fguardA_ff, fguardA_tf, fguardA_ft, fguardA_undef, fpickA_true, fpickA_false, fcondA_true, fcondA_false, binA_add, binA_sub, binA_mul, binA_eql, binA_neq, binA_lss, binA_leq, binA_gtr, binA_geq, unA_not, Bool.not_true, Bool.not_false, convA_int, extA_tuple, List.getElem?_toArray, List.getElem?_cons_zero, List.getElem?_cons_succ]
      refine loadA_at (o := 0) (v := .string (str l[i].1)) fb2 d3 rfl ?_
      refine loadA_at fb b3 rfl ?_
      refine q3.g.sl.fld (o := 0) hil (by omega) (ivs_key hg) ?_
      have c7 : decide (l[i].1 = l[i].1) = true := decide_eq_true rfl
      simp only [s_eql, decide_true, lenSl_slice, lenStr_string, str_size, fpureA_some, fnilA_ptr, faddA_ptr, addr_add, Nat.zero_add, Nat.add_zero, fpureQ_k, fpureQ_nilA, fpureQ_addA, fpureQ_pureA, fpureQ_guardA, fpureQ_idxSlA, fpureQ_pickA, freadQ_loadA, freadQ_loadNA, freadQ_b2sA, freadQ_guardA, freadQ_slSlA, freadQ_k, fendA, fallA_one, fstillA_nil, fguardA_tt, fguardA_ff, fguardA_tf, fguardA_ft, fguardA_undef, fpickA_true, fpickA_false, fcondA_true, fcondA_false, binA_add, binA_sub, binA_mul, binA_eql, binA_neq, binA_lss, binA_leq, binA_gtr, binA_geq, unA_not, Bool.not_true, Bool.not_false, convA_int, extA_tuple, List.getElem?_toArray, List.getElem?_cons_zero, List.getElem?_cons_succ]
      refine loadA_at (o := 1) (v := .int .i64 l[i].2) fb2 d3 rfl ?_
      refine loadA_at fb b3 rfl ?_
      refine q3.g.sl.fld (o := 1) hil (by omega) (ivs_val hg) ?_
      simp only [lenSl_slice, lenStr_string, str_size, fpureA_some, fnilA_ptr, faddA_ptr, addr_add, Nat.zero_add, Nat.add_zero, fpureQ_k, fpureQ_nilA, fpureQ_addA, fpureQ_pureA, fpureQ_guardA, fpureQ_idxSlA, fpureQ_pickA, freadQ_loadA, freadQ_loadNA, freadQ_b2sA, freadQ_guardA, freadQ_slSlA, freadQ_k, fendA, fallA_one, fstillA_nil, fguardA_tt, fguardA_ff, fguardA_tf, fguardA_ft, fguardA_undef, fpickA_true, fpickA_false, fcondA_true, fcondA_false, binA_add, binA_sub, binA_mul, binA_eql, binA_neq, binA_lss, binA_leq, binA_gtr, binA_geq, unA_not, Bool.not_true, Bool.not_false, convA_int, extA_tuple, List.getElem?_toArray, List.getElem?_cons_zero, List.getElem?_cons_succ, beq_self_eq_true, retA_iff, oneOf_two]
      exact ⟨by simpa using q3.g.junk, x, M, X, rfl, q3⟩
    · have hno : (if 0 ≤ o.n then l[o.n.toNat]? else none) = none := by
        split
        · exact List.getElem?_eq_none (by omega)
        · rfl
      rw [hno]
      simp only [lenSl_slice, lenStr_string, str_size, fpureA_some, fnilA_ptr, faddA_ptr, addr_add, Nat.zero_add, Nat.add_zero, fpureQ_k, fpureQ_nilA, fpureQ_addA, fpureQ_pureA, fpureQ_guardA, fpureQ_idxSlA, fpureQ_pickA, freadQ_loadA, freadQ_loadNA, freadQ_b2sA, freadQ_guardA, freadQ_slSlA, freadQ_k, fendA, fallA_one, fstillA_nil, fguardA_tt, fguardA_ff, fguardA_tf, fguardA_ft, fguardA_undef, fpickA_true, fpickA_false, fcondA_true, fcondA_false, binA_add, binA_sub, binA_mul, binA_eql, binA_neq, binA_lss, binA_leq, binA_gtr, binA_geq, unA_not, Bool.not_true, Bool.not_false, convA_int, extA_tuple, List.getElem?_toArray, List.getElem?_cons_zero, List.getElem?_cons_succ]
      refine boxN (e := [.string .empty, .int .i64 0]) f2.base rfl rfl (by simp [isCell]) ?_
      have s3 : Step h2 (h2.new [.string .empty, .int .i64 0] 2) [] [] := ((Step.refl h2 [] (by simp)).new _ _).less (by simp)
      have q3 := q2.frame s3 (by simp) (by simp)
      have b3 : (h2.new [.string .empty, .int .i64 0] 2).blk h.next = some o.e := by rw [new_blk, if_neg (by omega)]; exact b2
      have d3 : (h2.new [.string .empty, .int .i64 0] 2).blk h2.next = some [.string .empty, .int .i64 0] := by simp
      have fb2 := f2.base
      generalize h2.new [.string .empty, .int .i64 0] 2 = h3 at *
      simp only [lenSl_slice, lenStr_string, str_size, fpureA_some, fnilA_ptr, faddA_ptr, addr_add, Nat.zero_add, Nat.add_zero, fpureQ_k, fpureQ_nilA, fpureQ_addA, fpureQ_pureA, fpureQ_guardA, fpureQ_idxSlA, fpureQ_pickA, freadQ_loadA, freadQ_loadNA, freadQ_b2sA, freadQ_guardA, freadQ_slSlA, freadQ_k, fendA, fallA_one, fstillA_nil, fguardA_tt, fguardA_ff, fguardA_tf, fguardA_ft, fguardA_undef, fpickA_true, fpickA_false, fcondA_true, fcondA_false, binA_add, binA_sub, binA_mul, binA_eql, binA_neq, binA_lss, binA_leq, binA_gtr, binA_geq, unA_not, Bool.not_true, Bool.not_false, convA_int, extA_tuple, List.getElem?_toArray, List.getElem?_cons_zero, List.getElem?_cons_succ]
      refine loadA_at fb b3 rfl ?_
      have c2 : binA .eql (.string .empty) (.string .empty) = some (.bool true) := by
        have := s_eql [] []
        rw [← str_empty] at this
        simpa using this
      by_cases hneg : o.n < 0
      · have c5 : decide (o.n < 0) = true := decide_eq_true hneg
        simp only [c5, lenSl_slice, lenStr_string, str_size, fpureA_some, fnilA_ptr, faddA_ptr, addr_add, Nat.zero_add, Nat.add_zero, fpureQ_k, fpureQ_nilA, fpureQ_addA, fpureQ_pureA, fpureQ_guardA, fpureQ_idxSlA, fpureQ_pickA, freadQ_loadA, freadQ_loadNA, freadQ_b2sA, freadQ_guardA, freadQ_slSlA, freadQ_k, fendA, fallA_one, fstillA_nil, fguardA_tt, fguardA_ff, fguardA_tf, fguardA_ft, fguardA_undef, fpickA_true, fpickA_false, fcondA_true, fcondA_false, binA_add, binA_sub, binA_mul, binA_eql, binA_neq, binA_lss, binA_leq, binA_gtr, binA_geq, unA_not, Bool.not_true, Bool.not_false, convA_int, extA_tuple, List.getElem?_toArray, List.getElem?_cons_zero, List.getElem?_cons_succ, Bool.not_false]
        refine loadA_at fb2 d3 rfl ?_
        simp only [c2, lenSl_slice, lenStr_string, str_size, fpureA_some, fnilA_ptr, faddA_ptr, addr_add, Nat.zero_add, Nat.add_zero, fpureQ_k, fpureQ_nilA, fpureQ_addA, fpureQ_pureA, fpureQ_guardA, fpureQ_idxSlA, fpureQ_pickA, freadQ_loadA, freadQ_loadNA, freadQ_b2sA, freadQ_guardA, freadQ_slSlA, freadQ_k, fendA, fallA_one, fstillA_nil, fguardA_tt, fguardA_ff, fguardA_tf, fguardA_ft, fguardA_undef, fpickA_true, fpickA_false, fcondA_true, fcondA_false, binA_add, binA_sub, binA_mul, binA_eql, binA_neq, binA_lss, binA_leq, binA_gtr, binA_geq, unA_not, Bool.not_true, Bool.not_false, convA_int, extA_tuple, List.getElem?_toArray, List.getElem?_cons_zero, List.getElem?_cons_succ]
        refine loadA_at fb2 d3 rfl ?_
        simp only [lenSl_slice, lenStr_string, str_size, fpureA_some, fnilA_ptr, faddA_ptr, addr_add, Nat.zero_add, Nat.add_zero, fpureQ_k, fpureQ_nilA, fpureQ_addA, fpureQ_pureA, fpureQ_guardA, fpureQ_idxSlA, fpureQ_pickA, freadQ_loadA, freadQ_loadNA, freadQ_b2sA, freadQ_guardA, freadQ_slSlA, freadQ_k, fendA, fallA_one, fstillA_nil, fguardA_tt, fguardA_ff, fguardA_tf, fguardA_ft, fguardA_undef, fpickA_true, fpickA_false, fcondA_true, fcondA_false, binA_add, binA_sub, binA_mul, binA_eql, binA_neq, binA_lss, binA_leq, binA_gtr, binA_geq, unA_not, Bool.not_true, Bool.not_false, convA_int, extA_tuple, List.getElem?_toArray, List.getElem?_cons_zero, List.getElem?_cons_succ, beq_self_eq_true, retA_iff, oneOf_two]
        exact ⟨by simpa using q3.g.junk, x, M, X, rfl, q3⟩
      · have c5 : decide (o.n < 0) = false := decide_eq_false hneg
        simp only [c5, lenSl_slice, lenStr_string, str_size, fpureA_some, fnilA_ptr, faddA_ptr, addr_add, Nat.zero_add, Nat.add_zero, fpureQ_k, fpureQ_nilA, fpureQ_addA, fpureQ_pureA, fpureQ_guardA, fpureQ_idxSlA, fpureQ_pickA, freadQ_loadA, freadQ_loadNA, freadQ_b2sA, freadQ_guardA, freadQ_slSlA, freadQ_k, fendA, fallA_one, fstillA_nil, fguardA_tt, fguardA_ff, fguardA_tf, fguardA_ft, fguardA_undef, fpickA_true, fpickA_false, fcondA_true, fcondA_false, binA_add, binA_sub, binA_mul, binA_eql, binA_neq, binA_lss, binA_leq, binA_gtr, binA_geq, unA_not, Bool.not_true, Bool.not_false, convA_int, extA_tuple, List.getElem?_toArray, List.getElem?_cons_zero, List.getElem?_cons_succ]
        refine loadA_at fb b3 rfl ?_
        have c6 : decide ((l.length : Int) ≤ o.n) = true := decide_eq_true (by omega)
        simp only [q3.g.sl.lenv, c6, lenSl_slice, lenStr_string, str_size, fpureA_some, fnilA_ptr, faddA_ptr, addr_add, Nat.zero_add, Nat.add_zero, fpureQ_k, fpureQ_nilA, fpureQ_addA, fpureQ_pureA, fpureQ_guardA, fpureQ_idxSlA, fpureQ_pickA, freadQ_loadA, freadQ_loadNA, freadQ_b2sA, freadQ_guardA, freadQ_slSlA, freadQ_k, fendA, fallA_one, fstillA_nil, fguardA_tt, fguardA_ff, fguardA_tf, fguardA_ft, fguardA_undef, fpickA_true, fpickA_false, fcondA_true, fcondA_false, binA_add, binA_sub, binA_mul, binA_eql, binA_neq, binA_lss, binA_leq, binA_gtr, binA_geq, unA_not, Bool.not_true, Bool.not_false, convA_int, extA_tuple, List.getElem?_toArray, List.getElem?_cons_zero, List.getElem?_cons_succ, Bool.not_false]
        refine loadA_at fb2 d3 rfl ?_
        simp only [c2, lenSl_slice, lenStr_string, str_size, fpureA_some, fnilA_ptr, faddA_ptr, addr_add, Nat.zero_add, Nat.add_zero, fpureQ_k, fpureQ_nilA, fpureQ_addA, fpureQ_pureA, fpureQ_guardA, fpureQ_idxSlA, fpureQ_pickA, freadQ_loadA, freadQ_loadNA, freadQ_b2sA, freadQ_guardA, freadQ_slSlA, freadQ_k, fendA, fallA_one, fstillA_nil, fguardA_tt, fguardA_ff, fguardA_tf, fguardA_ft, fguardA_undef, fpickA_true, fpickA_false, fcondA_true, fcondA_false, binA_add, binA_sub, binA_mul, binA_eql, binA_neq, binA_lss, binA_leq, binA_gtr, binA_geq, unA_not, Bool.not_true, Bool.not_false, convA_int, extA_tuple, List.getElem?_toArray, List.getElem?_cons_zero, List.getElem?_cons_succ]
        refine loadA_at fb2 d3 rfl ?_
        simp only [lenSl_slice, lenStr_string, str_size, fpureA_some, fnilA_ptr, faddA_ptr, addr_add, Nat.zero_add, Nat.add_zero, fpureQ_k, fpureQ_nilA, fpureQ_addA, fpureQ_pureA, fpureQ_guardA, fpureQ_idxSlA, fpureQ_pickA, freadQ_loadA, freadQ_loadNA, freadQ_b2sA, freadQ_guardA, freadQ_slSlA, freadQ_k, fendA, fallA_one, fstillA_nil, fguardA_tt, fguardA_ff, fguardA_tf, fguardA_ft, fguardA_undef, fpickA_true, fpickA_false, fcondA_true, fcondA_false, binA_add, binA_sub, binA_mul, binA_eql, binA_neq, binA_lss, binA_leq, binA_gtr, binA_geq, unA_not, Bool.not_true, Bool.not_false, convA_int, extA_tuple, List.getElem?_toArray, List.getElem?_cons_zero, List.getElem?_cons_succ, beq_self_eq_true, retA_iff, oneOf_two]
        exact ⟨by simpa using q3.g.junk, x, M, X, rfl, q3⟩
  have c4 : (o.k == 4) = false := by simp [k4]
  simp only [c4, lenSl_slice, lenStr_string, str_size, fpureA_some, fnilA_ptr, faddA_ptr, addr_add, Nat.zero_add, Nat.add_zero, fpureQ_k, fpureQ_nilA, fpureQ_addA, fpureQ_pureA, fpureQ_guardA, fpureQ_idxSlA, fpureQ_pickA, freadQ_loadA, freadQ_loadNA, freadQ_b2sA, freadQ_guardA, freadQ_slSlA, freadQ_k, fendA, fallA_one, fstillA_nil, fguardA_tt, fguardA_ff, fguardA_tf, fguardA_ft, fguardA_undef, fpickA_true, fpickA_false, fcondA_true, fcondA_false, binA_add, binA_sub, binA_mul, binA_eql, binA_neq, binA_lss, binA_leq, binA_gtr, binA_geq, unA_not, Bool.not_true, Bool.not_false, convA_int, extA_tuple, List.getElem?_toArray, List.getElem?_cons_zero, List.getElem?_cons_succ]
  by_cases k5 : o.k = 5
  · have c5 : (o.k == 5) = true := by simp [k5]
    simp only [c5, lenSl_slice, lenStr_string, str_size, fpureA_some, fnilA_ptr, faddA_ptr, addr_add, Nat.zero_add, Nat.add_zero, fpureQ_k, fpureQ_nilA, fpureQ_addA, fpureQ_pureA, fpureQ_guardA, fpureQ_idxSlA, fpureQ_pickA, freadQ_loadA, freadQ_loadNA, freadQ_b2sA, freadQ_guardA, freadQ_slSlA, freadQ_k, fendA, fallA_one, fstillA_nil, fguardA_tt, fguardA_ff, fguardA_tf, fguardA_ft, fguardA_undef, fpickA_true, fpickA_false, fcondA_true, fcondA_false, binA_add, binA_sub, binA_mul, binA_eql, binA_neq, binA_lss, binA_leq, binA_gtr, binA_geq, unA_not, Bool.not_true, Bool.not_false, convA_int, extA_tuple, List.getElem?_toArray, List.getElem?_cons_zero, List.getElem?_cons_succ]
    refine loadA_at fb b1 rfl ?_
    refine callA_of (MRank_spec q1.m q1.s (by omega) o.key) fun r h2 ⟨e, s2⟩ f2 => ?_
    subst e
    have q2 := q1.frame s2 (by simp) (by simp)
    simp only [lenSl_slice, lenStr_string, str_size, fpureA_some, fnilA_ptr, faddA_ptr, addr_add, Nat.zero_add, Nat.add_zero, fpureQ_k, fpureQ_nilA, fpureQ_addA, fpureQ_pureA, fpureQ_guardA, fpureQ_idxSlA, fpureQ_pickA, freadQ_loadA, freadQ_loadNA, freadQ_b2sA, freadQ_guardA, freadQ_slSlA, freadQ_k, fendA, fallA_one, fstillA_nil, fguardA_tt, fguardA_ff, fguardA_tf, fguardA_ft, fguardA_undef, fpickA_true, fpickA_false, fcondA_true, fcondA_false, binA_add, binA_sub, binA_mul, binA_eql, binA_neq, binA_lss, binA_leq, binA_gtr, binA_geq, unA_not, Bool.not_true, Bool.not_false, convA_int, extA_tuple, List.getElem?_toArray, List.getElem?_cons_zero, List.getElem?_cons_succ, beq_self_eq_true, retA_iff, oneOf_two]
    exact ⟨by simpa using q2.g.junk, x, M, X, rfl, q2⟩
  have c5 : (o.k == 5) = false := by simp [k5]
  simp only [c5, lenSl_slice, lenStr_string, str_size, fpureA_some, fnilA_ptr, faddA_ptr, addr_add, Nat.zero_add, Nat.add_zero, fpureQ_k, fpureQ_nilA, fpureQ_addA, fpureQ_pureA, fpureQ_guardA, fpureQ_idxSlA, fpureQ_pickA, freadQ_loadA, freadQ_loadNA, freadQ_b2sA, freadQ_guardA, freadQ_slSlA, freadQ_k, fendA, fallA_one, fstillA_nil, fguardA_tt, fguardA_ff, fguardA_tf, fguardA_ft, fguardA_undef, fpickA_true, fpickA_false, fcondA_true, fcondA_false, binA_add, binA_sub, binA_mul, binA_eql, binA_neq, binA_lss, binA_leq, binA_gtr, binA_geq, unA_not, Bool.not_true, Bool.not_false, convA_int, extA_tuple, List.getElem?_toArray, List.getElem?_cons_zero, List.getElem?_cons_succ]
  by_cases k6 : o.k = 6
  · have c6 : (o.k == 6) = true := by simp [k6]
    simp only [c6, lenSl_slice, lenStr_string, str_size, fpureA_some, fnilA_ptr, faddA_ptr, addr_add, Nat.zero_add, Nat.add_zero, fpureQ_k, fpureQ_nilA, fpureQ_addA, fpureQ_pureA, fpureQ_guardA, fpureQ_idxSlA, fpureQ_pickA, freadQ_loadA, freadQ_loadNA, freadQ_b2sA, freadQ_guardA, freadQ_slSlA, freadQ_k, fendA, fallA_one, fstillA_nil, fguardA_tt, fguardA_ff, fguardA_tf, fguardA_ft, fguardA_undef, fpickA_true, fpickA_false, fcondA_true, fcondA_false, binA_add, binA_sub, binA_mul, binA_eql, binA_neq, binA_lss, binA_leq, binA_gtr, binA_geq, unA_not, Bool.not_true, Bool.not_false, convA_int, extA_tuple, List.getElem?_toArray, List.getElem?_cons_zero, List.getElem?_cons_succ]
    refine loadA_at fb b1 rfl ?_
    refine loadA_at fb b1 rfl ?_
    refine loadA_at fb b1 rfl ?_
    refine loadA_at fb b1 rfl ?_
    refine loadA_at fb b1 rfl ?_
    refine callA_of (part_spec (a := o.key) (b := o.to) q1.g.sl (by omega)) fun r h2 ⟨W2, g2, s2⟩ f2 => ?_
    have q2 := q1.frame s2 (by simp) (by simp)
    have b2 : h2.blk h.next = some o.e := by rw [(s2.keep _ n1 (by simp)).1]; exact b1
    simp only [stillA_iff, allA_cons, allA_one, sameQ_loadA]
    refine ⟨⟨loadA_at fb b2 rfl rfl, loadA_at fb b2 rfl rfl, loadA_at fb b2 rfl rfl⟩, ?_⟩
    refine callA_of (goes_spec (a := o.key) (b := o.to) (all := false) (stop := o.n) q2.m (by omega) g2.sl (fun b hb => by rw [g2.sblk_eq] at hb; exact (g2.lt b hb).2)) fun r h3 ⟨e, s3⟩ f3 => ?_
    subst e
    have q3 := q2.frame s3 (by simp) (by simp)
    simp only [lenSl_slice, lenStr_string, str_size, fpureA_some, fnilA_ptr, faddA_ptr, addr_add, Nat.zero_add, Nat.add_zero, fpureQ_k, fpureQ_nilA, fpureQ_addA, fpureQ_pureA, fpureQ_guardA, fpureQ_idxSlA, fpureQ_pickA, freadQ_loadA, freadQ_loadNA, freadQ_b2sA, freadQ_guardA, freadQ_slSlA, freadQ_k, fendA, fallA_one, fstillA_nil, fguardA_tt, fguardA_ff, fguardA_tf, fguardA_ft, fguardA_undef, fpickA_true, fpickA_false, fcondA_true, fcondA_false, binA_add, binA_sub, binA_mul, binA_eql, binA_neq, binA_lss, binA_leq, binA_gtr, binA_geq, unA_not, Bool.not_true, Bool.not_false, convA_int, extA_tuple, List.getElem?_toArray, List.getElem?_cons_zero, List.getElem?_cons_succ, retA_iff, oneOf_two]
    exact ⟨by simpa using q3.g.junk, x, M, X, rfl, q3⟩
  have c6 : (o.k == 6) = false := by simp [k6]
  simp only [c6, lenSl_slice, lenStr_string, str_size, fpureA_some, fnilA_ptr, faddA_ptr, addr_add, Nat.zero_add, Nat.add_zero, fpureQ_k, fpureQ_nilA, fpureQ_addA, fpureQ_pureA, fpureQ_guardA, fpureQ_idxSlA, fpureQ_pickA, freadQ_loadA, freadQ_loadNA, freadQ_b2sA, freadQ_guardA, freadQ_slSlA, freadQ_k, fendA, fallA_one, fstillA_nil, fguardA_tt, fguardA_ff, fguardA_tf, fguardA_ft, fguardA_undef, fpickA_true, fpickA_false, fcondA_true, fcondA_false, binA_add, binA_sub, binA_mul, binA_eql, binA_neq, binA_lss, binA_leq, binA_gtr, binA_geq, unA_not, Bool.not_true, Bool.not_false, convA_int, extA_tuple, List.getElem?_toArray, List.getElem?_cons_zero, List.getElem?_cons_succ]
  by_cases k7 : o.k = 7
  · have c7 : (o.k == 7) = true := by simp [k7]
    simp only [c7, lenSl_slice, lenStr_string, str_size, fpureA_some, fnilA_ptr, faddA_ptr, addr_add, Nat.zero_add, Nat.add_zero, fpureQ_k, fpureQ_nilA, fpureQ_addA, fpureQ_pureA, fpureQ_guardA, fpureQ_idxSlA, fpureQ_pickA, freadQ_loadA, freadQ_loadNA, freadQ_b2sA, freadQ_guardA, freadQ_slSlA, freadQ_k, fendA, fallA_one, fstillA_nil, fguardA_tt, fguardA_ff, fguardA_tf, fguardA_ft, fguardA_undef, fpickA_true, fpickA_false, fcondA_true, fcondA_false, binA_add, binA_sub, binA_mul, binA_eql, binA_neq, binA_lss, binA_leq, binA_gtr, binA_geq, unA_not, Bool.not_true, Bool.not_false, convA_int, extA_tuple, List.getElem?_toArray, List.getElem?_cons_zero, List.getElem?_cons_succ]
    refine loadA_at fb b1 rfl ?_
    refine callA_of (goes_spec (a := []) (b := []) (all := true) (stop := o.n) q1.m (by omega) q1.g.sl (fun b hb => by rw [q1.g.sb] at hb; exact (q1.g.lt b hb).2)) fun r h3 ⟨e, s3⟩ f3 => ?_
    subst e
    have q3 := q1.frame s3 (by simp) (by simp)
    simp only [lenSl_slice, lenStr_string, str_size, fpureA_some, fnilA_ptr, faddA_ptr, addr_add, Nat.zero_add, Nat.add_zero, fpureQ_k, fpureQ_nilA, fpureQ_addA, fpureQ_pureA, fpureQ_guardA, fpureQ_idxSlA, fpureQ_pickA, freadQ_loadA, freadQ_loadNA, freadQ_b2sA, freadQ_guardA, freadQ_slSlA, freadQ_k, fendA, fallA_one, fstillA_nil, fguardA_tt, fguardA_ff, fguardA_tf, fguardA_ft, fguardA_undef, fpickA_true, fpickA_false, fcondA_true, fcondA_false, binA_add, binA_sub, binA_mul, binA_eql, binA_neq, binA_lss, binA_leq, binA_gtr, binA_geq, unA_not, Bool.not_true, Bool.not_false, convA_int, extA_tuple, List.getElem?_toArray, List.getElem?_cons_zero, List.getElem?_cons_succ, retA_iff, oneOf_two]
    exact ⟨by simpa using q3.g.junk, x, M, X, rfl, q3⟩
  have c7 : (o.k == 7) = false := by simp [k7]
  simp only [c7, lenSl_slice, lenStr_string, str_size, fpureA_some, fnilA_ptr, faddA_ptr, addr_add, Nat.zero_add, Nat.add_zero, fpureQ_k, fpureQ_nilA, fpureQ_addA, fpureQ_pureA, fpureQ_guardA, fpureQ_idxSlA, fpureQ_pickA, freadQ_loadA, freadQ_loadNA, freadQ_b2sA, freadQ_guardA, freadQ_slSlA, freadQ_k, fendA, fallA_one, fstillA_nil, fguardA_tt, fguardA_ff, fguardA_tf, fguardA_ft, fguardA_undef, fpickA_true, fpickA_false, fcondA_true, fcondA_false, binA_add, binA_sub, binA_mul, binA_eql, binA_neq, binA_lss, binA_leq, binA_gtr, binA_geq, unA_not, Bool.not_true, Bool.not_false, convA_int, extA_tuple, List.getElem?_toArray, List.getElem?_cons_zero, List.getElem?_cons_succ, retA_iff, oneOf_two]
  exact ⟨by simpa using q1.g.junk, x, M, X, rfl, q1⟩
end
theorem MOp.len (o : MOp) : o.e.length = 4 := rfl
theorem doK_len (o : MOp) (l : List Itm) : (doK o l).length ≤ l.length + 1 := by
  unfold doK
  split
  · exact putK_len _ _ _
  · split
    · have := delK_len l o.key; omega
    · omega
theorem Srt.find {l : List Itm} (s : Srt l) {i : Nat} {x : Itm} (hx : l[i]? = some x) : findK l x.1 = i ∧ hasK l x.1 = true ∧ getK l x.1 = x.2 := by
  have hf : findK l x.1 = i := by
    refine findK_uniq (by have := (List.getElem?_eq_some_iff.1 hx).1; omega) (fun j y hj hy => ?_) (fun y hy => ?_)
    · obtain ⟨h1, e1⟩ := List.getElem?_eq_some_iff.1 hx
      obtain ⟨h2, e2⟩ := List.getElem?_eq_some_iff.1 hy
      have := List.pairwise_iff_getElem.1 s j i h2 h1 hj
      rwa [e1, e2] at this
    · rw [hx] at hy
      cases hy
      exact blt_irrefl _
  have hh : hasK l x.1 = true := by unfold hasK isAt; rw [hf, hx]; simp
  exact ⟨hf, hh, by unfold getK; rw [hh, hf, hx]; rfl⟩
section
variable {w0 : World} {h h' : Hp}
theorem ExtSl.ops {v : Value} {os : List MOp} (x : ExtSl w0 4 v os.length (os.flatMap MOp.e)) (h : Hp) (f : Fit w0 h) : Sl w0 h 4 v os.length (os.flatMap MOp.e) := x.sl' f (flat_len MOp.len os)
theorem op_get {os : List MOp} {i : Nat} {o : MOp} (h : os[i]? = some o) : ((os.flatMap MOp.e).drop (i * 4)).take 4 = o.e := by
  have := fm_get MOp.len [] h
  rwa [List.append_nil] at this
theorem maps_loop {k0 kr : Value → Value → Value → Hp → Prop} {v x2 : Value} {os : List MOp} (hv : ExtSl w0 4 v os.length (os.flatMap MOp.e)) (hl : os.length ≤ 9000000)
    (hk : ∀ h' p x4 l M X, ST w0 h' p x4 l M X → l.length ≤ os.length → Fit w0 h' → k0 x2 (ptr p) x4 h') : ∀ (post pre : List MOp) (h1 : Hp) (p : Nat) (x4 : Value) (l : List Itm) (M X : List Nat), pre ++ post = os → ST w0 h1 p x4 l M X → Fit w0 h1 → l.length ≤ pre.length →
      deduplaw10_SeqMaps_L1 prog w0 k0 kr (post.length + 1) x2 (ptr p) x4 v (.int .i64 (os.length : Int)) (.int .i64 (pre.length : Int)) h1 := by
  intro post
  induction post with
  | nil =>
    intro pre h1 p x4 l M X he q f1 hil
    have hpre : pre = os := by simpa using he
    subst hpre
    rw [List.length_nil, deduplaw10_SeqMaps_L1]
    simp only [deduplaw10_SeqMaps_B1, lenSl_slice, lenStr_string, str_size, fpureA_some, fnilA_ptr, faddA_ptr, addr_add, Nat.zero_add, Nat.add_zero, fpureQ_k, fpureQ_nilA, fpureQ_addA, fpureQ_pureA, fpureQ_guardA, fpureQ_idxSlA, fpureQ_pickA, freadQ_loadA, freadQ_loadNA, freadQ_b2sA, freadQ_guardA, freadQ_slSlA, freadQ_k, fendA, fallA_one, fstillA_nil, fguardA_tt, fguardA_ff, fguardA_tf, fguardA_ft, fguardA_undef, fpickA_true, fpickA_false, fcondA_true, fcondA_false, binA_add, binA_sub, binA_mul, binA_eql, binA_neq, binA_lss, binA_leq, binA_gtr, binA_geq, unA_not, Bool.not_true, Bool.not_false, convA_int, extA_tuple, List.getElem?_toArray, List.getElem?_cons_zero, List.getElem?_cons_succ, Int.lt_irrefl, decide_false]
    exact hk h1 p x4 l M X q hil f1
  | cons o post ih =>
    intro pre h1 p x4 l M X he q f1 hil
    have hlen : pre.length + (post.length + 1) = os.length := by rw [← he]; simp
    have hg : os[pre.length]? = some o := by rw [← he]; simp
    have c1 : decide ((pre.length : Int) < (os.length : Int)) = true := decide_eq_true (by omega)
    have e6 : IntKind.i64.wrap ((pre.length : Int) + 1) = (((pre ++ [o]).length : Nat) : Int) := by rw [IntWalk.i64_in _ (by omega)]; simp
    have on : ∀ h2 p x4 l M X, ST w0 h2 p x4 l M X → Fit w0 h2 → l.length ≤ pre.length + 1 → deduplaw10_SeqMaps_L1 prog w0 k0 kr (post.length + 1) x2 (ptr p) x4 v (.int .i64 (os.length : Int)) (.int .i64 ((pre ++ [o]).length : Int)) h2 := fun h2 p x4 l M X q2 f2 hi2 => ih (pre ++ [o]) h2 p x4 l M X (by simpa using he) q2 f2 (by simpa using hi2)
    rw [List.length_cons, deduplaw10_SeqMaps_L1]
    simp only [deduplaw10_SeqMaps_B1, lenSl_slice, lenStr_string, str_size, fpureA_some, fnilA_ptr, faddA_ptr, addr_add, Nat.zero_add, Nat.add_zero, fpureQ_k, fpureQ_nilA, fpureQ_addA, fpureQ_pureA, fpureQ_guardA, fpureQ_idxSlA, fpureQ_pickA, freadQ_loadA, freadQ_loadNA, freadQ_b2sA, freadQ_guardA, freadQ_slSlA, freadQ_k, fendA, fallA_one, fstillA_nil, fguardA_tt, fguardA_ff, fguardA_tf, fguardA_ft, fguardA_undef, fpickA_true, fpickA_false, fcondA_true, fcondA_false, binA_add, binA_sub, binA_mul, binA_eql, binA_neq, binA_lss, binA_leq, binA_gtr, binA_geq, unA_not, Bool.not_true, Bool.not_false, convA_int, extA_tuple, List.getElem?_toArray, List.getElem?_cons_zero, List.getElem?_cons_succ, c1]
    have fb := f1.base
    refine (hv.ops h1 f1).elem (by omega) (op_get hg) ?_
    refine boxN fb rfl rfl (by simp [isCell]) ?_
    have s2 : Step h1 (h1.new o.e 4) [] [] := ((Step.refl h1 [] (by simp)).new _ _).less (by simp)
    have b2 : (h1.new o.e 4).blk h1.next = some o.e := by simp
    have f2 : Fit w0 (h1.new o.e 4) := f1.new (by simp [MOp.e, isCell])
    have q2 := q.frame s2 (by simp) (by simp)
    have n2 : h1.next < (h1.new o.e 4).next := by simp
    have hnM : h1.next ∉ M := fun e => by have := (q.m.lt _ e).2; omega
    generalize h1.new o.e 4 = h2 at *
    simp only [lenSl_slice, lenStr_string, str_size, fpureA_some, fnilA_ptr, faddA_ptr, addr_add, Nat.zero_add, Nat.add_zero, fpureQ_k, fpureQ_nilA, fpureQ_addA, fpureQ_pureA, fpureQ_guardA, fpureQ_idxSlA, fpureQ_pickA, freadQ_loadA, freadQ_loadNA, freadQ_b2sA, freadQ_guardA, freadQ_slSlA, freadQ_k, fendA, fallA_one, fstillA_nil, fguardA_tt, fguardA_ff, fguardA_tf, fguardA_ft, fguardA_undef, fpickA_true, fpickA_false, fcondA_true, fcondA_false, binA_add, binA_sub, binA_mul, binA_eql, binA_neq, binA_lss, binA_leq, binA_gtr, binA_geq, unA_not, Bool.not_true, Bool.not_false, convA_int, extA_tuple, List.getElem?_toArray, List.getElem?_cons_zero, List.getElem?_cons_succ]
    refine loadA_at fb b2 rfl ?_
    by_cases k8 : o.k = 8
    · have c8 : (o.k == 8) = true := by simp [k8]
      simp only [c8, lenSl_slice, lenStr_string, str_size, fpureA_some, fnilA_ptr, faddA_ptr, addr_add, Nat.zero_add, Nat.add_zero, fpureQ_k, fpureQ_nilA, fpureQ_addA, fpureQ_pureA, fpureQ_guardA, fpureQ_idxSlA, fpureQ_pickA, freadQ_loadA, freadQ_loadNA, freadQ_b2sA, freadQ_guardA, freadQ_slSlA, freadQ_k, fendA, fallA_one, fstillA_nil, fguardA_tt, fguardA_ff, fguardA_tf, fguardA_ft, fguardA_undef, fpickA_true, fpickA_false, fcondA_true, fcondA_false, binA_add, binA_sub, binA_mul, binA_eql, binA_neq, binA_lss, binA_leq, binA_gtr, binA_geq, unA_not, Bool.not_true, Bool.not_false, convA_int, extA_tuple, List.getElem?_toArray, List.getElem?_cons_zero, List.getElem?_cons_succ]
      refine callA_of (MFork_spec q2.m (by omega)) fun r h3 ⟨c, S3, e, m3, s3⟩ f3 => ?_
      subst e
      have c0 : ∀ p, binPtrA .eql (ptr p) (.pointer none) = some (.bool false) := fun p => rfl
      simp only [c0, lenSl_slice, lenStr_string, str_size, fpureA_some, fnilA_ptr, faddA_ptr, addr_add, Nat.zero_add, Nat.add_zero, fpureQ_k, fpureQ_nilA, fpureQ_addA, fpureQ_pureA, fpureQ_guardA, fpureQ_idxSlA, fpureQ_pickA, freadQ_loadA, freadQ_loadNA, freadQ_b2sA, freadQ_guardA, freadQ_slSlA, freadQ_k, fendA, fallA_one, fstillA_nil, fguardA_tt, fguardA_ff, fguardA_tf, fguardA_ft, fguardA_undef, fpickA_true, fpickA_false, fcondA_true, fcondA_false, binA_add, binA_sub, binA_mul, binA_eql, binA_neq, binA_lss, binA_leq, binA_gtr, binA_geq, unA_not, Bool.not_true, Bool.not_false, convA_int, extA_tuple, List.getElem?_toArray, List.getElem?_cons_zero, List.getElem?_cons_succ]
      have q3 := q2.frame s3 (by simp) (by simp)
      have hSM : ∀ b, b ∈ S3 → b ∉ M := fun b hb hM => by
        have := (q2.m.lt b hM).2
        rcases (s3.own b hb).2 with e | e
        · simp at e
        · omega
      have hSX : ∀ b, b ∈ X → b ∉ S3 := fun b hb hS => by
        have := (q2.g.lt b hb).2
        rcases (s3.own b hS).2 with e | e
        · simp at e
        · omega
      have b3 : h3.blk h1.next = some o.e := by rw [(s3.keep _ n2 (by simp)).1]; exact b2
      have n3 : h1.next < h3.next := Nat.lt_of_lt_of_le n2 s3.1
      have hc : (⟨#[97, 32, 102, 111, 114, 107, 39, 115, 32, 111, 119, 110]⟩ : ByteArray) = str [97, 32, 102, 111, 114, 107, 39, 115, 32, 111, 119, 110] := rfl
      rw [hc]
      refine callA_of (MPut_spec q3.m q3.s (by omega) _ 1) fun r h4 ⟨e, M4, m4, s4⟩ f4 => ?_
      have m4c := m3.frame s4 hSM
      have g4 := q3.g.frame s4 q3.ap
      have b4 : h4.blk h1.next = some o.e := by rw [(s4.keep _ n3 hnM).1]; exact b3
      have hSM4 : ∀ b, b ∈ S3 → b ∉ M4 := apart_step s4 hSM (fun b hb => (m3.lt b hb).2)
      have hXM4 : ∀ b, b ∈ X → b ∉ M4 := apart_step s4 q3.ap (fun b hb => (q3.g.lt b hb).2)
      refine loadA_at fb b4 rfl ?_
      have hpl := putK_len l [97, 32, 102, 111, 114, 107, 39, 115, 32, 111, 119, 110] 1
      refine callA_of (MDelete_spec m4 (putK_srt q3.s _ _) (by omega) o.key) fun r h5 ⟨e, M5, m5, s5⟩ f5 => ?_
      simp only [e6]
      exact on h5 c x4 l S3 X ⟨m4c.frame s5 hSM4, g4.frame s5 hXM4, hSX, q.s⟩ f5 (by omega)
    · have c8 : (o.k == 8) = false := by simp [k8]
      simp only [c8, lenSl_slice, lenStr_string, str_size, fpureA_some, fnilA_ptr, faddA_ptr, addr_add, Nat.zero_add, Nat.add_zero, fpureQ_k, fpureQ_nilA, fpureQ_addA, fpureQ_pureA, fpureQ_guardA, fpureQ_idxSlA, fpureQ_pickA, freadQ_loadA, freadQ_loadNA, freadQ_b2sA, freadQ_guardA, freadQ_slSlA, freadQ_k, fendA, fallA_one, fstillA_nil, fguardA_tt, fguardA_ff, fguardA_tf, fguardA_ft, fguardA_undef, fpickA_true, fpickA_false, fcondA_true, fcondA_false, binA_add, binA_sub, binA_mul, binA_eql, binA_neq, binA_lss, binA_leq, binA_gtr, binA_geq, unA_not, Bool.not_true, Bool.not_false, convA_int, extA_tuple, List.getElem?_toArray, List.getElem?_cons_zero, List.getElem?_cons_succ]
      refine loadNA_whole fb b2 rfl ?_
      refine callA_of (step_spec o q2 (by omega)) fun r h3 ⟨y, M3, X3, e, q3⟩ f3 => ?_
      subst e
      simp only [Bool.not_true, lenSl_slice, lenStr_string, str_size, fpureA_some, fnilA_ptr, faddA_ptr, addr_add, Nat.zero_add, Nat.add_zero, fpureQ_k, fpureQ_nilA, fpureQ_addA, fpureQ_pureA, fpureQ_guardA, fpureQ_idxSlA, fpureQ_pickA, freadQ_loadA, freadQ_loadNA, freadQ_b2sA, freadQ_guardA, freadQ_slSlA, freadQ_k, fendA, fallA_one, fstillA_nil, fguardA_tt, fguardA_ff, fguardA_tf, fguardA_ft, fguardA_undef, fpickA_true, fpickA_false, fcondA_true, fcondA_false, binA_add, binA_sub, binA_mul, binA_eql, binA_neq, binA_lss, binA_leq, binA_gtr, binA_geq, unA_not, Bool.not_true, Bool.not_false, convA_int, extA_tuple, List.getElem?_toArray, List.getElem?_cons_zero, List.getElem?_cons_succ, e6]
      have := doK_len o l
      exact on h3 p y _ M3 X3 q3 f3 (by omega)
theorem SeqMaps_top {v : Value} {os : List MOp} (hv : ExtSl w0 4 v os.length (os.flatMap MOp.e)) (hl : os.length ≤ 9000000) : ACalls prog w0 n_deduplaw10_SeqMaps [v] h fun r h' => r = .bool true := by
  refine ACalls.of_fit (by simpa using hv.nj) fun f => c_deduplaw10_SeqMaps (by simpa using hv.nj) ?_
  simp only [s_deduplaw10_SeqMaps]
  refine callA_of NewMap_spec fun r h1 ⟨e, m1, s1⟩ f1 => ?_
  subst e
  refine callA_of awake_spec fun r h2 ⟨e, s2⟩ f2 => ?_
  subst e
  have m2 := m1.frame s2 (by simp)
  generalize h.next = p at *
  have c0 : ∀ p, binPtrA .eql (ptr p) (.pointer none) = some (.bool false) := fun p => rfl
  simp only [Bool.not_true, c0, lenSl_slice, lenStr_string, str_size, fpureA_some, fnilA_ptr, faddA_ptr, addr_add, Nat.zero_add, Nat.add_zero, fpureQ_k, fpureQ_nilA, fpureQ_addA, fpureQ_pureA, fpureQ_guardA, fpureQ_idxSlA, fpureQ_pickA, freadQ_loadA, freadQ_loadNA, freadQ_b2sA, freadQ_guardA, freadQ_slSlA, freadQ_k, fendA, fallA_one, fstillA_nil, fguardA_tt, fguardA_ff, fguardA_tf, fguardA_ft, fguardA_undef, fpickA_true, fpickA_false, fcondA_true, fcondA_false, binA_add, binA_sub, binA_mul, binA_eql, binA_neq, binA_lss, binA_leq, binA_gtr, binA_geq, unA_not, Bool.not_true, Bool.not_false, convA_int, extA_tuple, List.getElem?_toArray, List.getElem?_cons_zero, List.getElem?_cons_succ, (hv.ops h2 f2).lenv]
  refine ⟨os.length + 1, maps_loop hv hl (fun h4 p x4 l M X q hll f4 => ?_) os [] h2 p _ [] [p] [] rfl ⟨m2, .inl .nil, by simp, List.Pairwise.nil⟩ f2 (by simp)⟩
  simp only [buildA_iff, fillA_one, fillA_nil, List.set_cons_zero, List.set_cons_succ]
  refine ⟨rfl, by simp, rfl, by simp, ?_⟩
  refine callA_of (step_spec ⟨7, [], [], 1⟩ q (by omega)) fun r h5 ⟨y, M3, X3, e, q5⟩ f5 => ?_
  subst e
  have ek : doK ⟨7, [], [], 1⟩ l = l := rfl
  rw [ek] at q5
  simp only [lenSl_slice, lenStr_string, str_size, fpureA_some, fnilA_ptr, faddA_ptr, addr_add, Nat.zero_add, Nat.add_zero, fpureQ_k, fpureQ_nilA, fpureQ_addA, fpureQ_pureA, fpureQ_guardA, fpureQ_idxSlA, fpureQ_pickA, freadQ_loadA, freadQ_loadNA, freadQ_b2sA, freadQ_guardA, freadQ_slSlA, freadQ_k, fendA, fallA_one, fstillA_nil, fguardA_tt, fguardA_ff, fguardA_tf, fguardA_ft, fguardA_undef, fpickA_true, fpickA_false, fcondA_true, fcondA_false, binA_add, binA_sub, binA_mul, binA_eql, binA_neq, binA_lss, binA_leq, binA_gtr, binA_geq, unA_not, Bool.not_true, Bool.not_false, convA_int, extA_tuple, List.getElem?_toArray, List.getElem?_cons_zero, List.getElem?_cons_succ]
  refine callA_of (MLen_spec q5.m) fun _ h6 ⟨e, e'⟩ f6 => ?_
  subst e e'
  simp only [q.g.sl.lenv, lenSl_slice, lenStr_string, str_size, fpureA_some, fnilA_ptr, faddA_ptr, addr_add, Nat.zero_add, Nat.add_zero, fpureQ_k, fpureQ_nilA, fpureQ_addA, fpureQ_pureA, fpureQ_guardA, fpureQ_idxSlA, fpureQ_pickA, freadQ_loadA, freadQ_loadNA, freadQ_b2sA, freadQ_guardA, freadQ_slSlA, freadQ_k, fendA, fallA_one, fstillA_nil, fguardA_tt, fguardA_ff, fguardA_tf, fguardA_ft, fguardA_undef, fpickA_true, fpickA_false, fcondA_true, fcondA_false, binA_add, binA_sub, binA_mul, binA_eql, binA_neq, binA_lss, binA_leq, binA_gtr, binA_geq, unA_not, Bool.not_true, Bool.not_false, convA_int, extA_tuple, List.getElem?_toArray, List.getElem?_cons_zero, List.getElem?_cons_succ, beq_self_eq_true, retA_iff, oneOf_one]
  simp
theorem agrees_loop {k0 : Value → Value → Hp → Prop} {v x2 : Value} {os : List MOp} {p q3 : Nat} {hh : Hp} {M0 : List Nat} (hv : ExtSl w0 4 v os.length (os.flatMap MOp.e)) (hl : os.length ≤ 9000000) (hw : w0.heap.size ≤ q3) (hq3 : hh.blk q3 = some [ptr p]) (l3 : q3 < hh.next) (n3 : q3 ∉ M0)
    (hk : ∀ h' l M, Mp w0 h' p l M → Srt l → l.length ≤ os.length → Fit w0 h' → Step hh h' M0 M → k0 x2 (ptr q3) h') : ∀ (post pre : List MOp) (h1 : Hp) (l : List Itm) (M : List Nat), pre ++ post = os → Mp w0 h1 p l M → Srt l → Fit w0 h1 → l.length ≤ pre.length → Step hh h1 M0 M →
      deduplaw10_SeqAgrees_L1 prog w0 k0 (post.length + 1) x2 (ptr q3) v (.int .i64 (os.length : Int)) (.int .i64 (pre.length : Int)) h1 := by
  intro post
  induction post with
  | nil =>
    intro pre h1 l M he m s f1 hil st
    have hpre : pre = os := by simpa using he
    subst hpre
    rw [List.length_nil, deduplaw10_SeqAgrees_L1]
    simp only [deduplaw10_SeqAgrees_B1, lenSl_slice, lenStr_string, str_size, fpureA_some, fnilA_ptr, faddA_ptr, addr_add, Nat.zero_add, Nat.add_zero, fpureQ_k, fpureQ_nilA, fpureQ_addA, fpureQ_pureA, fpureQ_guardA, fpureQ_idxSlA, fpureQ_pickA, freadQ_loadA, freadQ_loadNA, freadQ_b2sA, freadQ_guardA, freadQ_slSlA, freadQ_k, fendA, fallA_one, fstillA_nil, fguardA_tt, fguardA_ff, fguardA_tf, fguardA_ft, fguardA_undef, fpickA_true, fpickA_false, fcondA_true, fcondA_false, binA_add, binA_sub, binA_mul, binA_eql, binA_neq, binA_lss, binA_leq, binA_gtr, binA_geq, unA_not, Bool.not_true, Bool.not_false, convA_int, extA_tuple, List.getElem?_toArray, List.getElem?_cons_zero, List.getElem?_cons_succ, Int.lt_irrefl, decide_false]
    exact hk h1 l M m s hil f1 st
  | cons o post ih =>
    intro pre h1 l M he m s f1 hil st
    have hlen : pre.length + (post.length + 1) = os.length := by rw [← he]; simp
    have hg : os[pre.length]? = some o := by rw [← he]; simp
    have c1 : decide ((pre.length : Int) < (os.length : Int)) = true := decide_eq_true (by omega)
    have e6 : IntKind.i64.wrap ((pre.length : Int) + 1) = (((pre ++ [o]).length : Nat) : Int) := by rw [IntWalk.i64_in _ (by omega)]; simp
    have on : ∀ h2 l M, Mp w0 h2 p l M → Srt l → Fit w0 h2 → l.length ≤ pre.length + 1 → Step hh h2 M0 M → deduplaw10_SeqAgrees_L1 prog w0 k0 (post.length + 1) x2 (ptr q3) v (.int .i64 (os.length : Int)) (.int .i64 ((pre ++ [o]).length : Int)) h2 := fun h2 l M m2 s2 f2 hi2 st2 => ih (pre ++ [o]) h2 l M (by simpa using he) m2 s2 f2 (by simpa using hi2) st2
    rw [List.length_cons, deduplaw10_SeqAgrees_L1]
    simp only [deduplaw10_SeqAgrees_B1, lenSl_slice, lenStr_string, str_size, fpureA_some, fnilA_ptr, faddA_ptr, addr_add, Nat.zero_add, Nat.add_zero, fpureQ_k, fpureQ_nilA, fpureQ_addA, fpureQ_pureA, fpureQ_guardA, fpureQ_idxSlA, fpureQ_pickA, freadQ_loadA, freadQ_loadNA, freadQ_b2sA, freadQ_guardA, freadQ_slSlA, freadQ_k, fendA, fallA_one, fstillA_nil, fguardA_tt, fguardA_ff, fguardA_tf, fguardA_ft, fguardA_undef, fpickA_true, fpickA_false, fcondA_true, fcondA_false, binA_add, binA_sub, binA_mul, binA_eql, binA_neq, binA_lss, binA_leq, binA_gtr, binA_geq, unA_not, Bool.not_true, Bool.not_false, convA_int, extA_tuple, List.getElem?_toArray, List.getElem?_cons_zero, List.getElem?_cons_succ, c1]
    have fb := f1.base
    refine (hv.ops h1 f1).elem (by omega) (op_get hg) ?_
    refine boxN fb rfl rfl (by simp [isCell]) ?_
    have s2 : Step h1 (h1.new o.e 4) [] [] := ((Step.refl h1 [] (by simp)).new _ _).less (by simp)
    have b2 : (h1.new o.e 4).blk h1.next = some o.e := by simp
    have f2 : Fit w0 (h1.new o.e 4) := f1.new (by simp [MOp.e, isCell])
    have m2 := m.frame s2 (by simp)
    have st2 : Step hh (h1.new o.e 4) M0 M := st.trans (s2.keepS fun b hb => (m.lt b hb).2)
    have b3 : (h1.new o.e 4).blk q3 = some [ptr p] := by rw [(st2.keep _ l3 n3).1]; exact hq3
    generalize h1.new o.e 4 = h2 at *
    simp only [lenSl_slice, lenStr_string, str_size, fpureA_some, fnilA_ptr, faddA_ptr, addr_add, Nat.zero_add, Nat.add_zero, fpureQ_k, fpureQ_nilA, fpureQ_addA, fpureQ_pureA, fpureQ_guardA, fpureQ_idxSlA, fpureQ_pickA, freadQ_loadA, freadQ_loadNA, freadQ_b2sA, freadQ_guardA, freadQ_slSlA, freadQ_k, fendA, fallA_one, fstillA_nil, fguardA_tt, fguardA_ff, fguardA_tf, fguardA_ft, fguardA_undef, fpickA_true, fpickA_false, fcondA_true, fcondA_false, binA_add, binA_sub, binA_mul, binA_eql, binA_neq, binA_lss, binA_leq, binA_gtr, binA_geq, unA_not, Bool.not_true, Bool.not_false, convA_int, extA_tuple, List.getElem?_toArray, List.getElem?_cons_zero, List.getElem?_cons_succ, ptr]
    refine loadA_at fb b2 rfl ?_
    by_cases k0' : o.k = 0
    · have c0 : (o.k == 0) = true := by simp [k0']
      simp only [c0, lenSl_slice, lenStr_string, str_size, fpureA_some, fnilA_ptr, faddA_ptr, addr_add, Nat.zero_add, Nat.add_zero, fpureQ_k, fpureQ_nilA, fpureQ_addA, fpureQ_pureA, fpureQ_guardA, fpureQ_idxSlA, fpureQ_pickA, freadQ_loadA, freadQ_loadNA, freadQ_b2sA, freadQ_guardA, freadQ_slSlA, freadQ_k, fendA, fallA_one, fstillA_nil, fguardA_tt, fguardA_ff, fguardA_tf, fguardA_ft, fguardA_undef, fpickA_true, fpickA_false, fcondA_true, fcondA_false, binA_add, binA_sub, binA_mul, binA_eql, binA_neq, binA_lss, binA_leq, binA_gtr, binA_geq, unA_not, Bool.not_true, Bool.not_false, convA_int, extA_tuple, List.getElem?_toArray, List.getElem?_cons_zero, List.getElem?_cons_succ]
      refine loadA_at hw b3 rfl ?_
      refine loadA_at fb b2 rfl ?_
      refine loadA_at fb b2 rfl ?_
      refine callA_of (MPut_spec m2 s (by omega) o.key o.n) fun r h3 ⟨e, M3, m3, s3⟩ f3 => ?_
      simp only [e6]
      have := putK_len l o.key o.n
      exact on h3 _ M3 m3 (putK_srt s _ _) f3 (by omega) (st2.trans s3)
    have c0 : (o.k == 0) = false := by simp [k0']
    simp only [c0, lenSl_slice, lenStr_string, str_size, fpureA_some, fnilA_ptr, faddA_ptr, addr_add, Nat.zero_add, Nat.add_zero, fpureQ_k, fpureQ_nilA, fpureQ_addA, fpureQ_pureA, fpureQ_guardA, fpureQ_idxSlA, fpureQ_pickA, freadQ_loadA, freadQ_loadNA, freadQ_b2sA, freadQ_guardA, freadQ_slSlA, freadQ_k, fendA, fallA_one, fstillA_nil, fguardA_tt, fguardA_ff, fguardA_tf, fguardA_ft, fguardA_undef, fpickA_true, fpickA_false, fcondA_true, fcondA_false, binA_add, binA_sub, binA_mul, binA_eql, binA_neq, binA_lss, binA_leq, binA_gtr, binA_geq, unA_not, Bool.not_true, Bool.not_false, convA_int, extA_tuple, List.getElem?_toArray, List.getElem?_cons_zero, List.getElem?_cons_succ]
    by_cases k2 : o.k = 2
    · have c2 : (o.k == 2) = true := by simp [k2]
      simp only [c2, lenSl_slice, lenStr_string, str_size, fpureA_some, fnilA_ptr, faddA_ptr, addr_add, Nat.zero_add, Nat.add_zero, fpureQ_k, fpureQ_nilA, fpureQ_addA, fpureQ_pureA, fpureQ_guardA, fpureQ_idxSlA, fpureQ_pickA, freadQ_loadA, freadQ_loadNA, freadQ_b2sA, freadQ_guardA, freadQ_slSlA, freadQ_k, fendA, fallA_one, fstillA_nil, fguardA_tt, fguardA_ff, fguardA_tf, fguardA_ft, fguardA_undef, fpickA_true, fpickA_false, fcondA_true, fcondA_false, binA_add, binA_sub, binA_mul, binA_eql, binA_neq, binA_lss, binA_leq, binA_gtr, binA_geq, unA_not, Bool.not_true, Bool.not_false, convA_int, extA_tuple, List.getElem?_toArray, List.getElem?_cons_zero, List.getElem?_cons_succ]
      refine loadA_at hw b3 rfl ?_
      refine loadA_at fb b2 rfl ?_
      refine callA_of (MDelete_spec m2 s (by omega) o.key) fun r h3 ⟨e, M3, m3, s3⟩ f3 => ?_
      simp only [e6]
      have := delK_len l o.key
      exact on h3 _ M3 m3 (delK_srt s _) f3 (by omega) (st2.trans s3)
    have c2 : (o.k == 2) = false := by simp [k2]
    simp only [c2, lenSl_slice, lenStr_string, str_size, fpureA_some, fnilA_ptr, faddA_ptr, addr_add, Nat.zero_add, Nat.add_zero, fpureQ_k, fpureQ_nilA, fpureQ_addA, fpureQ_pureA, fpureQ_guardA, fpureQ_idxSlA, fpureQ_pickA, freadQ_loadA, freadQ_loadNA, freadQ_b2sA, freadQ_guardA, freadQ_slSlA, freadQ_k, fendA, fallA_one, fstillA_nil, fguardA_tt, fguardA_ff, fguardA_tf, fguardA_ft, fguardA_undef, fpickA_true, fpickA_false, fcondA_true, fcondA_false, binA_add, binA_sub, binA_mul, binA_eql, binA_neq, binA_lss, binA_leq, binA_gtr, binA_geq, unA_not, Bool.not_true, Bool.not_false, convA_int, extA_tuple, List.getElem?_toArray, List.getElem?_cons_zero, List.getElem?_cons_succ, e6]
    exact on h2 l M m2 s f2 (by omega) st2
def AC (w0 : World) (B p q2 q3 q6 : Nat) (l : List Itm) (M : List Nat) (i : Nat) (h1 : Hp) (S1 : List Nat) : Prop :=
  S1 = [q6] ∧ h1.blk q6 = some [.int .i64 (i : Int)] ∧ h1.blk q3 = some [ptr p] ∧ h1.blk q2 = some [.bool false] ∧ Mp w0 h1 p l M ∧ B ≤ h1.next
theorem ac_keep {B p q2 q3 q6 i : Nat} {l : List Itm} {M : List Nat} (h2 : q2 < B) (h3 : q3 < B) (h6 : q6 < B) (hM : ∀ b, b ∈ M → b < B) : KeepC w0 0 B (AC w0 B p q2 q3 q6 l M i) := by
  refine ⟨fun h lp S _ c => c, fun h h' S T T' f ⟨e, a6, a3, a2, am, an⟩ st hd hB => ?_, fun h S ⟨e, a6, a3, a2, am, an⟩ b hb => ?_⟩
  · have k : ∀ b, b < B → b ∉ T := fun b hb q => by have := hB b q; omega
    have kk : ∀ b, b < B → h'.blk b = h.blk b := fun b hb => (st.keep b (by omega) (k b hb)).1
    exact ⟨e, by rw [kk _ h6]; exact a6, by rw [kk _ h3]; exact a3, by rw [kk _ h2]; exact a2, am.frame st (fun b hb => k b (hM b hb)), Nat.le_trans an st.1⟩
  · subst e
    simp at hb
    omega
theorem SeqAgrees_top {v : Value} {os : List MOp} (hv : ExtSl w0 4 v os.length (os.flatMap MOp.e)) (hl : os.length ≤ 9000000) : ACalls prog w0 n_deduplaw10_SeqAgrees [v] h fun r h' => r = .bool true := by
  refine ACalls.of_fit (by simpa using hv.nj) fun f => c_deduplaw10_SeqAgrees (by simpa using hv.nj) ?_
  simp only [s_deduplaw10_SeqAgrees, newA_iff]
  have fb := f.base
  refine ⟨by simp [isCell], ?_⟩
  have f1 : Fit w0 (h.new [.bool false] 1) := f.new (by simp [isCell])
  have b1 : (h.new [.bool false] 1).blk h.next = some [.bool false] := by simp
  have n1 : (h.new [.bool false] 1).next = h.next + 1 := rfl
  show callA prog w0 n_seq_NewMap_string_int [] _ (h.new [.bool false] 1)
  generalize h.new [.bool false] 1 = h1 at *
  generalize h.next = q2 at *
  refine callA_of NewMap_spec fun r h2 ⟨e, m2, s2⟩ f2 => ?_
  subst e
  generalize hpe : h1.next = p at *
  have b2 : h2.blk q2 = some [.bool false] := by rw [(s2.keep _ (by omega) (by simp)).1]; exact b1
  have np2 := (m2.lt p (by simp)).2
  simp only [newA_iff]
  refine ⟨by simp [isCell], ?_⟩
  have fb2 := f2.base
  refine storeA_at (cs := [.pointer none]) fb2 (by simp) (by simp) rfl ?_
  simp only [List.set_cons_zero]
  have s3 : Step h2 ((h2.new [.pointer none] 1).put h2.next [ptr p]) [] [h2.next] := ((Step.refl h2 [] (by simp)).new _ _).put (by simp) _
  have b3 : ((h2.new [.pointer none] 1).put h2.next [ptr p]).blk h2.next = some [ptr p] := by simp
  have b32 : ((h2.new [.pointer none] 1).put h2.next [ptr p]).blk q2 = some [.bool false] := by rw [(s3.keep _ (by omega) (by simp)).1]; exact b2
  have m3 := m2.frame s3 (by simp)
  have n3 : ((h2.new [.pointer none] 1).put h2.next [ptr p]).next = h2.next + 1 := rfl
  generalize hq3 : h2.next = q3 at *
  generalize (h2.new [.pointer none] 1).put q3 [ptr p] = h3 at *
  refine callA_of awake_spec fun r h4 ⟨e, s4⟩ f4 => ?_
  subst e
  have n4 := s4.1
  have b4 : h4.blk q3 = some [ptr p] := by rw [(s4.keep _ (by omega) (by simp)).1]; exact b3
  have b42 : h4.blk q2 = some [.bool false] := by rw [(s4.keep _ (by omega) (by simp)).1]; exact b32
  have m4 := m3.frame s4 (by simp)
  have c0 : ∀ p, binPtrA .eql (ptr p) (.pointer none) = some (.bool false) := fun p => rfl
  simp only [Bool.not_true, lenSl_slice, lenStr_string, str_size, fpureA_some, fnilA_ptr, faddA_ptr, addr_add, Nat.zero_add, Nat.add_zero, fpureQ_k, fpureQ_nilA, fpureQ_addA, fpureQ_pureA, fpureQ_guardA, fpureQ_idxSlA, fpureQ_pickA, freadQ_loadA, freadQ_loadNA, freadQ_b2sA, freadQ_guardA, freadQ_slSlA, freadQ_k, fendA, fallA_one, fstillA_nil, fguardA_tt, fguardA_ff, fguardA_tf, fguardA_ft, fguardA_undef, fpickA_true, fpickA_false, fcondA_true, fcondA_false, binA_add, binA_sub, binA_mul, binA_eql, binA_neq, binA_lss, binA_leq, binA_gtr, binA_geq, unA_not, Bool.not_true, Bool.not_false, convA_int, extA_tuple, List.getElem?_toArray, List.getElem?_cons_zero, List.getElem?_cons_succ]
  refine loadA_at fb2 b4 rfl ?_
  simp only [c0, lenSl_slice, lenStr_string, str_size, fpureA_some, fnilA_ptr, faddA_ptr, addr_add, Nat.zero_add, Nat.add_zero, fpureQ_k, fpureQ_nilA, fpureQ_addA, fpureQ_pureA, fpureQ_guardA, fpureQ_idxSlA, fpureQ_pickA, freadQ_loadA, freadQ_loadNA, freadQ_b2sA, freadQ_guardA, freadQ_slSlA, freadQ_k, fendA, fallA_one, fstillA_nil, fguardA_tt, fguardA_ff, fguardA_tf, fguardA_ft, fguardA_undef, fpickA_true, fpickA_false, fcondA_true, fcondA_false, binA_add, binA_sub, binA_mul, binA_eql, binA_neq, binA_lss, binA_leq, binA_gtr, binA_geq, unA_not, Bool.not_true, Bool.not_false, convA_int, extA_tuple, List.getElem?_toArray, List.getElem?_cons_zero, List.getElem?_cons_succ, (hv.ops h4 f4).lenv]
  refine ⟨os.length + 1, agrees_loop (hh := h4) (M0 := [p]) hv hl fb2 b4 (by omega) (by simp; omega) (fun h5 l M m5 s5 hll f5 st5 => ?_) os [] h4 [] [p] rfl m4 List.Pairwise.nil f4 (by simp) m4.refl⟩
  have n5 := st5.1
  have b5 : h5.blk q3 = some [ptr p] := by rw [(st5.keep _ (by omega) (by simp; omega)).1]; exact b4
  have b52 : h5.blk q2 = some [.bool false] := by rw [(st5.keep _ (by omega) (by simp; omega)).1]; exact b42
  simp only [newA_iff]
  refine ⟨by simp [isCell], ?_⟩
  have fb5 := f5.base
  refine storeA_at (cs := [.int .i64 0]) fb5 (by simp) (by simp) rfl ?_
  simp only [List.set_cons_zero]
  have s6 : Step h5 ((h5.new [.int .i64 0] 1).put h5.next [.int .i64 0]) [] [h5.next] := ((Step.refl h5 [] (by simp)).new _ _).put (by simp) _
  have b6 : ((h5.new [.int .i64 0] 1).put h5.next [.int .i64 0]).blk h5.next = some [.int .i64 0] := by simp
  have m6 := m5.frame s6 (by simp)
  have b63 : ((h5.new [.int .i64 0] 1).put h5.next [.int .i64 0]).blk q3 = some [ptr p] := by rw [(s6.keep _ (by omega) (by simp)).1]; exact b5
  have b62 : ((h5.new [.int .i64 0] 1).put h5.next [.int .i64 0]).blk q2 = some [.bool false] := by rw [(s6.keep _ (by omega) (by simp)).1]; exact b52
  have n6 : ((h5.new [.int .i64 0] 1).put h5.next [.int .i64 0]).next = h5.next + 1 := rfl
  have hM5 := fun b hb => (m5.lt b hb).2
  generalize hq6 : h5.next = q6 at *
  generalize (h5.new [.int .i64 0] 1).put q6 [.int .i64 0] = h6 at *
  refine loadA_at fb2 b63 rfl ?_
  refine callA_of (All_spec p) fun r h7 ⟨u1, u2, e, a1, a2, a3, a4, a5, a6, s7⟩ f7 => ?_
  subst e
  have n7 := s7.1
  have m7 := m6.frame s7 (by simp)
  have b76 : h7.blk q6 = some [.int .i64 ((0 : Nat) : Int)] := by rw [(s7.keep _ (by omega) (by simp)).1]; exact b6
  have b73 : h7.blk q3 = some [ptr p] := by rw [(s7.keep _ (by omega) (by simp)).1]; exact b63
  have b72 : h7.blk q2 = some [.bool false] := by rw [(s7.keep _ (by omega) (by simp)).1]; exact b62
  have hM7 := fun b hb => (m7.lt b hb).2
  have hM6 : ∀ b, b ∈ M → b < q6 := hM5
  have eit : l.map iv = itV l (fun _ => true) := by unfold itV; rw [List.filter_eq_self.2 (by simp)]
  refine rangeA_of (xs := l.map iv) (T := u1 :: u2 :: M) 0 (Nat.zero_le _) f7 (fun g => ?_) _ (fun b g x K => rfl) [q6] (AC w0 h7.next p q2 q3 q6 l M) (fun _ _ _ => False)
    (fun i => ac_keep (by omega) (by omega) (by omega) hM7) (fun o => ⟨fun _ _ _ _ e => e, fun _ _ _ _ _ _ e _ _ _ => e, fun _ _ e => e.elim⟩) ⟨rfl, b76, b73, b72, m7, Nat.le_refl _⟩ (fun b hb hbT => ?_) ?_ ?_ ?_ (fun o h3 S2 f3 ys e => e.elim)
  · rw [eit]
    have y : YStep 0 h7 (h7.newLp g) [] [] := ((Step.refl h7 [] (by simp)).y 0).newLp g
    have m8 : Mp w0 (h7.newLp g) p l M := (m7.frame y.step (by simp) : Mp w0 ((h7.newLp g).as h7) p l M)
    exact over_it a1 a2 (by omega) (by omega) m8 (by omega) ⟨by simp, by simp, fun b hb => by simp [hb]⟩ fun h4 n4 k4 x hx => callVA_func (by kernel_rfl) (All_S1 x.1) fun r h5 e _ => e
  · simp only [List.mem_cons, List.not_mem_nil, or_false] at hb hbT
    subst hb
    rcases hbT with rfl | rfl | hbT
    · omega
    · omega
    · have := hM6 _ hbT; omega
  · intro y hy
    obtain ⟨x, hx, rfl⟩ := List.mem_map.1 hy
    exact ⟨rfl, by simp [iv]⟩
  · rintro i y h8 S1 g1 K hi f8 ⟨e, a6', a3', a2', am, an⟩ lb _ ends exits
    subst e
    rw [List.getElem?_map] at hi
    obtain ⟨x, hx, rfl⟩ := Option.map_eq_some_iff.1 hi
    have hil := (List.getElem?_eq_some_iff.1 hx).1
    obtain ⟨hf, hh, hgk⟩ := s5.find hx
    have w6 : w0.heap.size ≤ q6 := by omega
    simp only [iv, List.getD_cons_zero, List.tail_cons]
    refine loadA_at fb2 a3' rfl ?_
    refine loadA_at w6 a6' rfl ?_
    refine callA_of (MAt_spec am (i : Int)) fun r h9 ⟨e, s9⟩ f9 => ?_
    subst e
    rw [if_pos (by omega), Int.toNat_natCast, hx]
    simp only [lenSl_slice, lenStr_string, str_size, fpureA_some, fnilA_ptr, faddA_ptr, addr_add, Nat.zero_add, Nat.add_zero, fpureQ_k, fpureQ_nilA, fpureQ_addA, fpureQ_pureA, fpureQ_guardA, fpureQ_idxSlA, fpureQ_pickA, freadQ_loadA, freadQ_loadNA, freadQ_b2sA, freadQ_guardA, freadQ_slSlA, freadQ_k, fendA, fallA_one, fstillA_nil, fguardA_tt, fguardA_ff, fguardA_tf, fguardA_ft, fguardA_undef, fpickA_true, fpickA_false, fcondA_true, fcondA_false, binA_add, binA_sub, binA_mul, binA_eql, binA_neq, binA_lss, binA_leq, binA_gtr, binA_geq, unA_not, Bool.not_true, Bool.not_false, convA_int, extA_tuple, List.getElem?_toArray, List.getElem?_cons_zero, List.getElem?_cons_succ]
    refine boxN f9.base rfl rfl (by simp [isCell]) ?_
    have s10 : Step h9 (h9.new (iv x) 2) [] [] := ((Step.refl h9 [] (by simp)).new _ _).less (by simp)
    have d10 : (h9.new (iv x) 2).blk h9.next = some (iv x) := by simp
    have st10 : Step h8 (h9.new (iv x) 2) [] [] := s9.trans s10
    have n10 := st10.1
    have fb9 := f9.base
    have nn9 : h9.next < (h9.new (iv x) 2).next := by simp
    generalize h9.next = q9 at *
    generalize h9.new (iv x) 2 = h10 at *
    have k10 : ∀ b, b < h7.next → h10.blk b = h8.blk b := fun b hb => (st10.keep b (by omega) (by simp)).1
    refine loadA_at fb2 (by rw [k10 _ (by omega)]; exact a3') rfl ?_
    refine callA_of (MGet_spec (am.frame st10 (by simp)) s5 (by omega) x.1) fun r h11 ⟨e, s11⟩ f11 => ?_
    subst e
    rw [hgk, hh]
    have st11 := st10.trans s11
    have n11 := s11.1
    have k11 : ∀ b, b < h7.next → h11.blk b = h8.blk b := fun b hb => (st11.keep b (by omega) (by simp)).1
    have d11 : h11.blk q9 = some (iv x) := by rw [(s11.keep _ nn9 (by simp)).1]; exact d10
    simp only [Bool.not_true, lenSl_slice, lenStr_string, str_size, fpureA_some, fnilA_ptr, faddA_ptr, addr_add, Nat.zero_add, Nat.add_zero, fpureQ_k, fpureQ_nilA, fpureQ_addA, fpureQ_pureA, fpureQ_guardA, fpureQ_idxSlA, fpureQ_pickA, freadQ_loadA, freadQ_loadNA, freadQ_b2sA, freadQ_guardA, freadQ_slSlA, freadQ_k, fendA, fallA_one, fstillA_nil, fguardA_tt, fguardA_ff, fguardA_tf, fguardA_ft, fguardA_undef, fpickA_true, fpickA_false, fcondA_true, fcondA_false, binA_add, binA_sub, binA_mul, binA_eql, binA_neq, binA_lss, binA_leq, binA_gtr, binA_geq, unA_not, Bool.not_true, Bool.not_false, convA_int, extA_tuple, List.getElem?_toArray, List.getElem?_cons_zero, List.getElem?_cons_succ]
    refine loadA_at (o := 0) (v := .string (str x.1)) fb9 d11 rfl ?_
    have c3 : decide (x.1 ≠ x.1) = false := decide_eq_false (by simp)
    simp only [s_neq, c3, lenSl_slice, lenStr_string, str_size, fpureA_some, fnilA_ptr, faddA_ptr, addr_add, Nat.zero_add, Nat.add_zero, fpureQ_k, fpureQ_nilA, fpureQ_addA, fpureQ_pureA, fpureQ_guardA, fpureQ_idxSlA, fpureQ_pickA, freadQ_loadA, freadQ_loadNA, freadQ_b2sA, freadQ_guardA, freadQ_slSlA, freadQ_k, fendA, fallA_one, fstillA_nil, fguardA_tt, fguardA_ff, fguardA_tf, fguardA_ft, fguardA_undef, fpickA_true, fpickA_false, fcondA_true, fcondA_false, binA_add, binA_sub, binA_mul, binA_eql, binA_neq, binA_lss, binA_leq, binA_gtr, binA_geq, unA_not, Bool.not_true, Bool.not_false, convA_int, extA_tuple, List.getElem?_toArray, List.getElem?_cons_zero, List.getElem?_cons_succ]
    refine loadA_at (o := 1) (v := .int .i64 x.2) fb9 d11 rfl ?_
    simp only [bne_self_eq_false, Bool.not_true, lenSl_slice, lenStr_string, str_size, fpureA_some, fnilA_ptr, faddA_ptr, addr_add, Nat.zero_add, Nat.add_zero, fpureQ_k, fpureQ_nilA, fpureQ_addA, fpureQ_pureA, fpureQ_guardA, fpureQ_idxSlA, fpureQ_pickA, freadQ_loadA, freadQ_loadNA, freadQ_b2sA, freadQ_guardA, freadQ_slSlA, freadQ_k, fendA, fallA_one, fstillA_nil, fguardA_tt, fguardA_ff, fguardA_tf, fguardA_ft, fguardA_undef, fpickA_true, fpickA_false, fcondA_true, fcondA_false, binA_add, binA_sub, binA_mul, binA_eql, binA_neq, binA_lss, binA_leq, binA_gtr, binA_geq, unA_not, Bool.not_true, Bool.not_false, convA_int, extA_tuple, List.getElem?_toArray, List.getElem?_cons_zero, List.getElem?_cons_succ]
    have a6b : h11.blk q6 = some [.int .i64 (i : Int)] := by rw [k11 _ (by omega)]; exact a6'
    refine loadA_at fb2 (by rw [k11 _ (by omega)]; exact a3') rfl ?_
    refine loadA_at w6 a6b rfl ?_
    refine callA_of (MRank_spec (am.frame st11 (by simp)) s5 (by omega) x.1) fun r h12 ⟨e, s12⟩ f12 => ?_
    subst e
    rw [hf]
    have st12 := st11.trans s12
    have n12 := s12.1
    have k12 : ∀ b, b < h7.next → h12.blk b = h8.blk b := fun b hb => (st12.keep b (by omega) (by simp)).1
    have a6c : h12.blk q6 = some [.int .i64 (i : Int)] := by rw [k12 _ (by omega)]; exact a6'
    simp only [stillA_iff, allA_one, sameQ_loadA, bne_self_eq_false, lenSl_slice, lenStr_string, str_size, fpureA_some, fnilA_ptr, faddA_ptr, addr_add, Nat.zero_add, Nat.add_zero, fpureQ_k, fpureQ_nilA, fpureQ_addA, fpureQ_pureA, fpureQ_guardA, fpureQ_idxSlA, fpureQ_pickA, freadQ_loadA, freadQ_loadNA, freadQ_b2sA, freadQ_guardA, freadQ_slSlA, freadQ_k, fendA, fallA_one, fstillA_nil, fguardA_tt, fguardA_ff, fguardA_tf, fguardA_ft, fguardA_undef, fpickA_true, fpickA_false, fcondA_true, fcondA_false, binA_add, binA_sub, binA_mul, binA_eql, binA_neq, binA_lss, binA_leq, binA_gtr, binA_geq, unA_not, Bool.not_true, Bool.not_false, convA_int, extA_tuple, List.getElem?_toArray, List.getElem?_cons_zero, List.getElem?_cons_succ]
    refine ⟨loadA_at w6 a6c rfl rfl, ?_⟩
    refine loadA_at w6 a6c rfl ?_
    have e4 : IntKind.i64.wrap ((i : Int) + 1) = ((i + 1 : Nat) : Int) := by rw [IntWalk.i64_in _ (by omega)]; simp
    simp only [lenSl_slice, lenStr_string, str_size, fpureA_some, fnilA_ptr, faddA_ptr, addr_add, Nat.zero_add, Nat.add_zero, fpureQ_k, fpureQ_nilA, fpureQ_addA, fpureQ_pureA, fpureQ_guardA, fpureQ_idxSlA, fpureQ_pickA, freadQ_loadA, freadQ_loadNA, freadQ_b2sA, freadQ_guardA, freadQ_slSlA, freadQ_k, fendA, fallA_one, fstillA_nil, fguardA_tt, fguardA_ff, fguardA_tf, fguardA_ft, fguardA_undef, fpickA_true, fpickA_false, fcondA_true, fcondA_false, binA_add, binA_sub, binA_mul, binA_eql, binA_neq, binA_lss, binA_leq, binA_gtr, binA_geq, unA_not, Bool.not_true, Bool.not_false, convA_int, extA_tuple, List.getElem?_toArray, List.getElem?_cons_zero, List.getElem?_cons_succ, e4]
    refine storeA_at (cs := [.int .i64 (i : Int)]) w6 a6c (by simp) rfl ?_
    simp only [List.set_cons_zero]
    have st13 : Step h8 (h12.put q6 [.int .i64 ((i + 1 : Nat) : Int)]) [q6] [q6] := (st12.keepS (S := [q6]) (by simp; omega)).put (by simp) _
    have q36 : q3 ≠ q6 := by omega
    have q26 : q2 ≠ q6 := by omega
    refine ends _ _ (st13.y 0) ⟨rfl, by simp, by rw [put_blk, if_neg q36, k12 _ (by omega)]; exact a3', by rw [put_blk, if_neg q26, k12 _ (by omega)]; exact a2', am.frame st13 (fun b hb => by have := hM6 b hb; simp; omega), by show h7.next ≤ h12.next; omega⟩
  · rintro h8 S2 f8 ys ⟨e, a6', a3', a2', am, an⟩
    subst e
    have w6 : w0.heap.size ≤ q6 := by omega
    rw [List.length_map] at a6'
    refine loadA_at w6 a6' rfl ?_
    refine loadA_at fb2 a3' rfl ?_
    refine callA_of (MLen_spec am) fun r h9 ⟨e, e'⟩ f9 => ?_
    subst e e'
    simp only [stillA_iff, allA_one, sameQ_loadA, beq_self_eq_true, lenSl_slice, lenStr_string, str_size, fpureA_some, fnilA_ptr, faddA_ptr, addr_add, Nat.zero_add, Nat.add_zero, fpureQ_k, fpureQ_nilA, fpureQ_addA, fpureQ_pureA, fpureQ_guardA, fpureQ_idxSlA, fpureQ_pickA, freadQ_loadA, freadQ_loadNA, freadQ_b2sA, freadQ_guardA, freadQ_slSlA, freadQ_k, fendA, fallA_one, fstillA_nil, fguardA_tt, fguardA_ff, fguardA_tf, fguardA_ft, fguardA_undef, fpickA_true, fpickA_false, fcondA_true, fcondA_false, binA_add, binA_sub, binA_mul, binA_eql, binA_neq, binA_lss, binA_leq, binA_gtr, binA_geq, unA_not, Bool.not_true, Bool.not_false, convA_int, extA_tuple, List.getElem?_toArray, List.getElem?_cons_zero, List.getElem?_cons_succ]
    refine ⟨loadA_at w6 a6' rfl rfl, ?_⟩
    refine storeA_at fb a2' (by simp) rfl ?_
    unfold cutA
    refine loadA_at (cs := [.bool true]) fb (by simp) rfl ?_
    simp only [retA_iff, oneOf_one]
    simp
end
end Go.Proofs.Ytpdpponbhejlpaa.Ah
