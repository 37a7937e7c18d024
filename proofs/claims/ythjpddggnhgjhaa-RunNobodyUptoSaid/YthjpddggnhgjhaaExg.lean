/- run: there and back; the law's first example; lists that are alike. -/
import Derived.Test.YthjpddggnhgjhaaExf
import Derived.Test.YthjpddggnhgjhaaGlaw12
import Derived.Test.YthjpddggnhgjhaaGseq
import Derived.Test.YthjpddggnhgjhaaAh26
import Derived.Test.YthjpddggnhgjhaaAh32
set_option linter.unusedVariables false
set_option linter.unusedSimpArgs false
set_option linter.constructorNameAsVariable false
namespace Go.Proofs.Ythjpddggnhgjhaa.Ah
open Go
theorem eqEnt (w0 : World) (x : Ent) : eqStA prog .eql 41 (.agg (ee x).toArray) (.agg (ee x).toArray) = fun K => K (.bool true) := by
  have hS : prog.underlying 41 = some (.struct (prog.fieldsOf 41)) := by kernel_rfl
  have hp : prog.stoodInHeld 41 = false := by kernel_rfl
  have key : ∀ w, (binOp .eql 41 (.agg (ee x).toArray) (.agg (ee x).toArray)).run prog w = .ok (.bool true) w := by
    obtain ⟨k, v, g⟩ := x
    intro w
    rw [run_eql_struct, show (10000 : Nat) = 9999 + 1 from rfl, run_equalIn_agg w 9999 41 _ _ hS hp]
    simp only [Program.fieldsOf, Try.underlying41, ee]
    go_simp
  funext K h
  refine propext ⟨?_, fun hk => ?_⟩
  · rintro ⟨xs, ys, q, e1, e2, -, -, e3, -, hk⟩
    cases e1
    cases e2
    have := (e3 w0).symm.trans (key w0)
    simp at this
    subst this
    exact hk
  · refine ⟨_, _, _, rfl, rfl, fun v hv => ?_, fun v hv => ?_, key, fun w => run_eqGuard_agg w _ _ _ _ _ _ (by kernel_rfl), hk⟩
    all_goals
      simp [ee] at hv
      rcases hv with rfl | rfl | rfl <;> rfl
theorem neEnt (w0 : World) (x : Ent) : eqStA prog .neq 41 (.agg (ee x).toArray) (.agg (ee x).toArray) = fun K => K (.bool false) := by
  have hS : prog.underlying 41 = some (.struct (prog.fieldsOf 41)) := by kernel_rfl
  have hp : prog.stoodInHeld 41 = false := by kernel_rfl
  have key : ∀ w, (binOp .neq 41 (.agg (ee x).toArray) (.agg (ee x).toArray)).run prog w = .ok (.bool false) w := by
    obtain ⟨k, v, g⟩ := x
    intro w
    rw [run_neq_struct, show (10000 : Nat) = 9999 + 1 from rfl, run_equalIn_agg w 9999 41 _ _ hS hp]
    simp only [Program.fieldsOf, Try.underlying41, ee]
    go_simp
  funext K h
  refine propext ⟨?_, fun hk => ?_⟩
  · rintro ⟨xs, ys, q, e1, e2, -, -, e3, -, hk⟩
    cases e1
    cases e2
    have := (e3 w0).symm.trans (key w0)
    simp at this
    subst this
    exact hk
  · refine ⟨_, _, _, rfl, rfl, fun v hv => ?_, fun v hv => ?_, key, fun w => run_eqGuard_agg w _ _ _ _ _ _ (by kernel_rfl), hk⟩
    all_goals
      simp [ee] at hv
      rcases hv with rfl | rfl | rfl <;> rfl
/-- There and back. -/
theorem opn_bld {bl : Nat} {l : List Ent} (h : bldE (bl : Int) l = 0) (hl : l.length ≤ 2000000) : opn (bldR (bl : Int) l) = some (l, (grp bl l).length) ∧ prs (bldR (bl : Int) l) = some (l, bl, (grp bl l).length) := by
  obtain ⟨h1, h2, h3⟩ := bldE_ok h
  have hr : ∀ x, x ∈ l → rightE x = true := chkF_right h3
  obtain ⟨z1, z2, z3⟩ := bld_le (block := bl) hr hl
  have hR : bldR (bl : Int) l = bld bl l := by unfold bldR; rw [if_pos h, Int.toNat_natCast]
  have hp := prs_bld (block := bl) (by omega) hr (by omega) (by omega)
  rw [← hR] at hp
  refine ⟨?_, hp⟩
  unfold opn
  rw [hp]
  simp only
  rw [if_pos ⟨h, trivial⟩]
theorem prs_spans {b : List UInt8} {q : List Ent × Nat × Nat} (h : prs b = some q) : q.2.2 = spansB b := by
  unfold prs at h
  split at h
  · cases h
  · simp only at h
    split at h
    · cases h
    · split at h
      · cases h
      · split at h
        · have := Option.some.inj h
          rw [← this]
          rfl
        · cases h
theorem spansB_bld {bl : Nat} {l : List Ent} (h : bldE (bl : Int) l = 0) (hl : l.length ≤ 2000000) : spansB (bldR (bl : Int) l) ≤ l.length := by
  rw [← prs_spans (opn_bld h hl).2]
  exact grp_len_le bl l
section
variable {w0 : World} {h h' : Hp}
theorem entsz_len (l : List Ent) : 4 * l.length ≤ entsz l := by
  induction l with
  | nil => simp
  | cons x l ih => rw [entsz_cons, List.length_cons]; omega
theorem bldR_le {bl : Nat} {l : List Ent} (hz : bldE (bl : Int) l = 0) (hl : entsz l ≤ 1048576) : (bldR (bl : Int) l).length ≤ 11534360 := by
  have hR : bldR (bl : Int) l = bld bl l := by unfold bldR; rw [if_pos hz, Int.toNat_natCast]
  have h1 := outB_le (grp bl l) (fun g hg => grp_ne hg)
  have h2 := idx_le (grp bl l) 0 (fun g hg => grp_ne hg) (by rw [grp_flat] at h1; omega) (by rw [grp_flat]; omega)
  rw [grp_flat] at h1 h2
  rw [hR, bld_len]
  omega
theorem mul_le2 {a b A B C : Nat} (h1 : a ≤ A) (h2 : b ≤ B) (h3 : A * B ≤ C) : a * b ≤ C := Nat.le_trans (Nat.mul_le_mul h1 h2) h3
/-- What is built is opened. -/
theorem Open_bld {v : Value} {bl : Nat} {l : List Ent} {S0 : List Nat} (hz : bldE (bl : Int) l = 0) (hl : entsz l ≤ 1048576) (g : GV w0 h 1 v (bldR (bl : Int) l).length (bvs (bldR (bl : Int) l)) S0) :
    ACalls prog w0 n_run_Open [v] h fun r h' => ∃ p S, r = .tuple #[p, .int .i64 0] ∧ Rn w0 h' p l (grp bl l).length S ∧ Step h h' [] S := by
  have h4 := entsz_len l
  obtain ⟨e1, e2⟩ := opn_bld hz (by omega)
  have e3 := spansB_bld hz (by omega)
  have hlen := bldR_le hz hl
  have hmul : min (spansB (bldR (bl : Int) l)) (bldR (bl : Int) l).length * (bldR (bl : Int) l).length ≤ 3500000000000 := mul_le2 (A := 262144) (B := 11534360) (by omega) hlen (by decide)
  refine (Open_spec g (by omega) hmul fun l' bl' n' hp => ?_).mono fun r h' hr => ?_
  · rw [e2] at hp
    have h5 : l = l' := congrArg (·.1) (Option.some.inj hp)
    rw [← h5]
    omega
  · rw [e1] at hr
    exact hr
/-! ### A memtable: made, and its iterator -/
theorem NewMap_e : ACalls prog w0 n_seq_NewMap_string_api_Entry [] h fun r h' => r = ptr h.next ∧ h' = h.new [.slice none 0 0] 1 := by
  refine ACalls.of_fit (by simp) fun f => c_seq_NewMap_string_api_Entry (by simp) ?_
  simp only [s_seq_NewMap_string_api_Entry, buildA_iff, fillA_nil, boxA_agg, retA_iff, oneOf_one]
  exact ⟨by simp, rfl, trivial⟩
theorem NewMem_e : ACalls prog w0 n_run_NewMem [] h fun r h' => ∃ p q, r = ptr p ∧ h'.blk p = some [ptr q] ∧ h'.blk q = some [.slice none 0 0] ∧ h'.esz q = 1 ∧ p ≠ q ∧ h.next ≤ p ∧ h.next ≤ q ∧ p < h'.next ∧ q < h'.next ∧ Step h h' [] [] := by
  refine ACalls.of_fit (by simp) fun f => c_run_NewMem (by simp) ?_
  simp only [s_run_NewMem]
  refine callA_of NewMap_e fun r h1 ⟨e, e'⟩ f1 => ?_
  subst e e'
  simp only [buildA_iff, fillA_one, fillA_nil, List.set_cons_zero, boxA_agg, retA_iff, oneOf_one]
  have hne : h.next ≠ h.next + 1 := by omega
  exact ⟨rfl, by simp, by simp, h.next + 1, h.next, rfl, by simp [ptr], by simp [hne], by simp, by omega, by omega, Nat.le_refl _, by simp, by simp; omega, (((Step.refl h [] (by simp)).new _ _).new _ _).less (by simp)⟩
theorem MemAll_e (r : Value) (hr : r ≠ junk) (hrc : isCell r = true) : ACalls prog w0 n_run_Mem_All [r] h fun v h' => ∃ q, v = .func (.func n_run_Mem_All_S1) #[] #[ptr q] ∧ h'.blk q = some [r] ∧ h.next ≤ q ∧ q < h'.next ∧ Step h h' [] [] := by
  refine ACalls.of_fit (by simp [hr]) fun f => c_run_Mem_All (by simp [hr]) ?_
  simp only [s_run_Mem_All]
  refine ⟨hrc, ?_⟩
  refine ⟨by simp, ?_⟩
  simp only [retA_iff, oneOf_one]
  exact ⟨by simp, h.next, rfl, by simp, Nat.le_refl _, by simp, ((Step.refl h [] (by simp)).new _ _).less (by simp)⟩
/-! ### The law's first example -/
def ab0 : List Ent := [⟨[97, 98], [49], false⟩, ⟨[97, 98, 99], [50], false⟩]
theorem ab_zero : bldE ((256 : Nat) : Int) ab0 = 0 := by decide
theorem ab_grp : grp 256 ab0 = [ab0] := by decide
theorem ab_enc : enc ab0 = [0, 2, 0, 1, 97, 98, 49, 2, 1, 0, 1, 99, 50] := by decide
theorem ab_take : (bldR ((256 : Nat) : Int) ab0).take 13 = [0, 2, 0, 1, 97, 98, 49, 2, 1, 0, 1, 99, 50] := by
  have hR : bldR ((256 : Nat) : Int) ab0 = bld 256 ab0 := by unfold bldR; rw [if_pos ab_zero, Int.toNat_natCast]
  rw [hR, bld, ab_grp, outB_one, List.append_assoc, ← ab_enc]
  exact List.take_left' (by rw [ab_enc]; rfl)
theorem ab_get : getE ab0 [97, 98, 99] = some ⟨[97, 98, 99], [50], false⟩ := by decide
end
section
variable {w0 : World} {h h' : Hp}
theorem same_spec {v v' : Value} {l : List Ent} (hv : Es w0 h v l) (hv' : Es w0 h v' l) (hl : l.length ≤ 1000000000) : ACalls prog w0 n_deduplaw12_same [v, v'] h fun r h' => r = .bool true ∧ h' = h := by
  refine ACalls.of_fit (by simp [hv.junk, hv'.junk]) fun f => c_deduplaw12_same (by simp [hv.junk, hv'.junk]) ?_
  simp only [s_deduplaw12_same, hv.lenv, hv'.lenv, wd, List.getElem?_toArray, List.getElem?_cons_zero, List.getElem?_cons_succ, bne_self_eq_false]
  refine ⟨l.length + 1, ?_⟩
  have loop : ∀ (k0 kr : Value → Hp → Prop) (x4 : Value), k0 x4 h → ∀ (r i : Nat), i + r = l.length → deduplaw12_same_L1 prog w0 k0 kr (r + 1) v v' x4 (.int .i64 (l.length : Int)) (.int .i64 (i : Int)) h := by
    intro k0 kr x4 hk r
    induction r with
    | zero =>
      intro i hi
      have : i = l.length := by omega
      subst this
      rw [deduplaw12_same_L1]
      simp only [deduplaw12_same_B1, wd, List.getElem?_toArray, List.getElem?_cons_zero, List.getElem?_cons_succ, Int.lt_irrefl, decide_false]
      exact hk
    | succ r ih =>
      intro i hi
      have c1 : decide ((i : Int) < (l.length : Int)) = true := decide_eq_true (by omega)
      have e6 : IntKind.i64.wrap ((i : Int) + 1) = ((i + 1 : Nat) : Int) := by rw [IntWalk.i64_in _ (by omega)]; simp
      have hil : i < l.length := by omega
      have hg : l[i]? = some l[i] := List.getElem?_eq_getElem hil
      rw [deduplaw12_same_L1]
      simp only [deduplaw12_same_B1, wd, List.getElem?_toArray, List.getElem?_cons_zero, List.getElem?_cons_succ, c1, fpureQ_eqStA]
      refine hv.elem hil (es_get hg) ?_
      refine hv'.elem hil (es_get hg) ?_
      simp only [neEnt w0, wd, List.getElem?_toArray, List.getElem?_cons_zero, List.getElem?_cons_succ, e6]
      exact ih (i + 1) (by omega)
  refine loop _ _ _ ?_ l.length 0 (by omega)
  simp only [retA_iff, oneOf_one]
  exact ⟨by simp, trivial, trivial⟩
theorem awake_spec : ACalls prog w0 n_deduplaw12_awake [] h fun r h' => r = .bool true ∧ Step h h' [] [] := by
  refine ACalls.of_fit (by simp) fun f => c_deduplaw12_awake (by simp) ?_
  have hz : zerosL [(Value.string .empty), .string .empty, .bool false] 2 = [.string .empty, .string .empty, .bool false, .string .empty, .string .empty, .bool false] := rfl
  simp only [s_deduplaw12_awake, buildA_iff, fillA_one, fillA_nil, fillA_agg, bslA_iff, List.set_cons_zero, List.set_cons_succ, hz]
  refine ⟨rfl, by simp, rfl, by simp, rfl, by simp, rfl, by simp, rfl, by simp, rfl, by simp [splice], ?_⟩
  have g0 : GV w0 (h.new (ab0.flatMap ee) 3) 3 (.slice (some ⟨h.next, 0, none⟩) 2 2) ab0.length (ab0.flatMap ee) [h.next] := GV.new f.base rfl (by unfold ucap; decide)
  have s0 : Step h (h.new (ab0.flatMap ee) 3) [] [h.next] := (Step.refl h [] (by simp)).new _ _
  show callA _ _ _ _ _ (h.new (ab0.flatMap ee) 3)
  generalize h.new (ab0.flatMap ee) 3 = h0 at *
  refine callA_of (Build_spec (256 : Int) g0.sl (by decide)) fun r h1 ⟨y, S1, e, g1, s1⟩ f1 => ?_
  subst e
  have hz0 : bldE (256 : Int) ab0 = 0 := ab_zero
  rw [hz0]
  simp only [wd, List.getElem?_toArray, List.getElem?_cons_zero, List.getElem?_cons_succ]
  refine callA_of (Open_bld (bl := 256) ab_zero (by decide) g1.gv) fun r h2 ⟨p, S2, e, m2, s2⟩ f2 => ?_
  subst e
  have g2 := g1.frame s2 (by simp)
  obtain ⟨p0, rfl⟩ : ∃ p0, p = ptr p0 := by obtain ⟨p0, -, -, -, e, -⟩ := m2; exact ⟨p0, e⟩
  have c0 : binPtrA .eql (.pointer (some ⟨p0, 0, none⟩)) (.pointer none) = some (.bool false) := rfl
  have hlen : 13 ≤ (bldR (256 : Int) ab0).length := by
    have := congrArg List.length ab_take
    rw [List.length_take] at this
    have e : ([0, 2, 0, 1, 97, 98, 49, 2, 1, 0, 1, 99, 50] : List UInt8).length = 13 := rfl
    rw [e] at this
    have e2 : ((256 : Nat) : Int) = 256 := rfl
    rw [e2] at this
    omega
  have c1 : decide (((bldR (256 : Int) ab0).length : Int) < 13) = false := decide_eq_false (by omega)
  simp only [ptr, c0, bne_self_eq_false, g2.sl.lenv, c1, wd, List.getElem?_toArray, List.getElem?_cons_zero, List.getElem?_cons_succ]
  refine g2.sl.cutN (lo := 0) (hi := 13) (boundA_none) (by exact boundA_nat (i := 13)) (by omega) hlen fun x' _ _ vx => ?_
  have hb : ((bvs (bldR (256 : Int) ab0)).take (13 * 1)).drop (0 * 1) = bvs [0, 2, 0, 1, 97, 98, 49, 2, 1, 0, 1, 99, 50] := by
    have := congrArg bvs ab_take
    simp only [bvs, List.map_take] at this ⊢
    exact this
  rw [hb] at vx
  have hs := vx.src
  obtain ⟨a, c, ex⟩ := vx.slice
  subst ex
  refine b2sA_of hs ?_
  have e13 : (⟨#[0, 2, 0, 1, 97, 98, 49, 2, 1, 0, 1, 99, 50]⟩ : ByteArray) = str [0, 2, 0, 1, 97, 98, 49, 2, 1, 0, 1, 99, 50] := rfl
  have c3 : decide (([0, 2, 0, 1, 97, 98, 49, 2, 1, 0, 1, 99, 50] : List UInt8) ≠ [0, 2, 0, 1, 97, 98, 49, 2, 1, 0, 1, 99, 50]) = false := rfl
  simp only [e13, s_neq, c3, wd, List.getElem?_toArray, List.getElem?_cons_zero, List.getElem?_cons_succ]
  refine callA_of NewMem_e fun r h3 ⟨pm, qm, e, a1, a2, a3, a4, a5, a6, a7, a8, s3⟩ f3 => ?_
  subst e
  have c4 : binPtrA .eql (.pointer (some ⟨pm, 0, none⟩)) (.pointer none) = some (.bool false) := rfl
  simp only [ptr, c4, wd, List.getElem?_toArray, List.getElem?_cons_zero, List.getElem?_cons_succ]
  refine callA_of (MemAll_e _ (by simp [junk]) rfl) fun r h4 ⟨qa, e, b1, b2, b3, s4⟩ f4 => ?_
  subst e
  have c5 : binFnA .eql (.func (.func n_run_Mem_All_S1) #[] #[ptr qa]) .nilFunc = some (.bool false) := rfl
  simp only [c5, wd, List.getElem?_toArray, List.getElem?_cons_zero, List.getElem?_cons_succ]
  have em : ByteArray.empty = str ([] : Key) := rfl
  rw [em]
  refine callA_of (Scan_spec _ (by simp [junk]) rfl [] []) fun r h5 ⟨r1, r2, r3, e, d1, d2, d3, d4, d5, d6, d7, d8, d9, s5⟩ f5 => ?_
  subst e
  have c6 : binFnA .eql (.func (.func n_run_Run_Scan_S1) #[] #[ptr r1, ptr r2, ptr r3]) .nilFunc = some (.bool false) := rfl
  simp only [c6, wd, List.getElem?_toArray, List.getElem?_cons_zero, List.getElem?_cons_succ]
  have s25 : Step h2 h5 [] [] := s3.trans (s4.trans s5)
  have m5 := m2.frame s25 (by simp)
  have e98 : (⟨#[97, 98, 99]⟩ : ByteArray) = str [97, 98, 99] := rfl
  rw [e98]
  refine callA_of (Get_spec m5 [97, 98, 99]) fun r h6 ⟨e, s6⟩ f6 => ?_
  subst e
  rw [ab_get]
  simp only [Option.isSome, wd, List.getElem?_toArray, List.getElem?_cons_zero, List.getElem?_cons_succ, newA_iff, eo]
  have hcell : ∀ v, v ∈ zE → isCell v = true := by simp [zE, isCell]
  refine ⟨hcell, ?_⟩
  have fb := f6.base
  refine storeNA_whole (cs := zE) fb (by simp [zE, str_empty]) rfl rfl ?_
  refine loadNA_whole (cs := ee ⟨[97, 98, 99], [50], false⟩) fb (by simp) rfl ?_
  simp only [buildA_iff, fillA_one, fillA_nil, List.set_cons_zero, List.set_cons_succ]
  refine ⟨rfl, by simp, rfl, by simp, ?_⟩
  have hagg : (Value.agg #[.string (str [97, 98, 99]), .string ⟨#[50]⟩, .bool false]) = .agg (ee ⟨[97, 98, 99], [50], false⟩).toArray := rfl
  simp only [hagg, eqEnt w0, wd, List.getElem?_toArray, List.getElem?_cons_zero, List.getElem?_cons_succ]
  have sx : Step h6 ((h6.new zE 3).put h6.next (ee ⟨[97, 98, 99], [50], false⟩)) [] [h6.next] := ((Step.refl h6 [] (by simp)).new _ _).put (by simp) _
  have m7 := (m5.frame s6 (by simp)).frame sx (by simp)
  show callA _ _ _ _ _ ((h6.new zE 3).put h6.next (ee ⟨[97, 98, 99], [50], false⟩))
  generalize (h6.new zE 3).put h6.next (ee ⟨[97, 98, 99], [50], false⟩) = h7 at *
  refine callA_of (Len_spec m7) fun r h8 ⟨e, e'⟩ f8 => ?_
  subst e e'
  have c7 : (((ab0.length : Nat) : Int) == 2) = true := rfl
  simp only [c7, wd, List.getElem?_toArray, List.getElem?_cons_zero, List.getElem?_cons_succ]
  refine callA_of (Blocks_spec m7) fun r h8 ⟨e, e'⟩ f8 => ?_
  subst e e'
  have c8 : ((((grp 256 ab0).length : Nat) : Int) == 1) = true := by rw [ab_grp]; rfl
  simp only [c8, wd, List.getElem?_toArray, List.getElem?_cons_zero, List.getElem?_cons_succ, retA_iff, oneOf_one]
  exact ⟨by simp, trivial, (s0.less (T := []) (by simp)).trans ((s1.less (T := []) (by simp)).trans ((s2.less (T := []) (by simp)).trans (s25.trans (s6.trans (sx.less (by simp))))))⟩
end
section
variable {w0 : World} {h h' : Hp}
theorem lenA_sl {s n : Nat} {x : Value} {ys : List Value} (v : Sl w0 h s x n ys) : lenA x = some n := by obtain ⟨a, c, e⟩ := v.slice; rw [e]; simp
theorem ExtSl.nj {s n : Nat} {v : Value} {ys : List Value} (x : ExtSl w0 s v n ys) : v ≠ junk := by obtain ⟨a, c, e, -⟩ := x.sl; simp [e]
theorem RunBuilds_top {v : Value} {l : List Ent} (block : Int) (hx : ExtSl w0 3 v l.length (l.flatMap ee)) (hl : entsz l ≤ 1048576) :
    ACalls prog w0 n_deduplaw12_RunBuilds [v, .int .i64 block] h fun r h' => r = .bool true := by
  have h4 := entsz_len l
  refine ACalls.of_fit (by simpa using hx.nj) fun f => c_deduplaw12_RunBuilds (by simpa using hx.nj) ?_
  simp only [s_deduplaw12_RunBuilds]
  refine callA_of awake_spec fun r h1 ⟨e, s1⟩ f1 => ?_
  subst e
  have hz0 : zerosL [(Value.string .empty), .string .empty, .bool false] 0 = [] := rfl
  simp only [bslA_iff, fillA_nil, hz0, wd, List.getElem?_toArray, List.getElem?_cons_zero, List.getElem?_cons_succ]
  have g0 : GV w0 (h1.new [] 3) 3 (.slice (some ⟨h1.next, 0, none⟩) 0 0) 0 [] [h1.next] := GV.new f1.base rfl (by unfold ucap; decide)
  have s2 : Step h1 (h1.new [] 3) [] [h1.next] := (Step.refl h1 [] (by simp)).new _ _
  have f2 : Fit w0 (h1.new [] 3) := f1.new (by simp)
  have hv2 : Es w0 (h1.new [] 3) v l := hx.sl' f2 (es_length l)
  generalize h1.new [] 3 = h2 at *
  refine appA_gv f2.base g0 (lenA_sl hv2) hv2.src (es_length l) (by omega) (by omega) (by omega) fun x' h3 S3 g3 s3 => ?_
  rw [Nat.zero_add, List.nil_append] at g3
  refine callA_of (Build_spec block g3.sl (by omega)) fun r h4 ⟨y, S4, e, g4, s4⟩ f4 => ?_
  subst e
  have g34 := g3.frame s4 (by simp)
  simp only [wd, List.getElem?_toArray, List.getElem?_cons_zero, List.getElem?_cons_succ]
  refine callA_of (rBuild_spec block (hx.sl' f4 (es_length l)) (by omega)) fun r h5 ⟨e, s5⟩ f5 => ?_
  subst e
  have g35 := g34.frame s5 (by simp)
  have g45 := g4.frame s5 (by simp)
  simp only [wd, List.getElem?_toArray, List.getElem?_cons_zero, List.getElem?_cons_succ]
  refine g45.b2s ?_
  simp only [s_eql, decide_true, beq_self_eq_true, wd, List.getElem?_toArray, List.getElem?_cons_zero, List.getElem?_cons_succ]
  refine callA_of (p_check_spec g35.sl (by omega)) fun r h6 ⟨e, s6⟩ f6 => ?_
  subst e
  have g36 := g35.frame s6 (by simp)
  refine callA_of (r_check_spec (hx.sl' f6 (es_length l)) (by omega)) fun r h7 ⟨e, s7⟩ f7 => ?_
  subst e
  have g37 := g36.frame s7 (by simp)
  simp only [beq_self_eq_true, wd, List.getElem?_toArray, List.getElem?_cons_zero, List.getElem?_cons_succ]
  refine callA_of (same_spec g37.sl (hx.sl' f7 (es_length l)) (by omega)) fun r h8 ⟨e, e'⟩ f8 => ?_
  subst e e'
  simp only [wd, List.getElem?_toArray, List.getElem?_cons_zero, List.getElem?_cons_succ, retA_iff, oneOf_one]
  exact ⟨by simp, trivial⟩
end
def dEnt : Dec Ent := ⟨ee, fun _ => True, fun x => x.k.length + x.v.length + 4⟩
theorem entsz_b (l : List Ent) : entsz l = (l.map dEnt.b).sum := rfl
theorem part_all (l : List Ent) : part l [] [] = l := by
  have h0 : fE l [] = 0 := by
    refine findK_uniq (Nat.zero_le _) (fun i x hi => by omega) fun x _ => ?_
    unfold blt
    cases x.1 <;> rfl
  unfold part
  rw [h0, List.drop_zero]
  have := List.takeWhile_append_of_pos (p := inS []) (l₁ := l) (l₂ := []) (fun x _ => by simp [inS])
  simpa using this
section
variable {w0 : World} {h h' : Hp}
/-- What a walk gathers. -/
def RC (w0 : World) (B q : Nat) (l : List Ent) (i : Nat) (h1 : Hp) (S1 : List Nat) : Prop :=
  ∃ x S', S1 = q :: S' ∧ h1.blk q = some [x] ∧ Vec w0 h1 3 x (l.take i).length ((l.take i).flatMap ee) S' ∧ q ∉ S' ∧ B ≤ h1.next
theorem rc_keep {B q i : Nat} {l : List Ent} (hq : q < B) : KeepC w0 0 B (RC w0 B q l i) := by
  refine ⟨fun h lp S _ c => c, fun h h' S T T' f ⟨x, S', e, b, v, hqs, n⟩ st hd hB => ?_, fun h S ⟨x, S', e, b, v, hqs, n⟩ c hc => ?_⟩
  · subst e
    exact ⟨x, S', rfl, by rw [(st.keep q (by omega) (hd q (by simp))).1]; exact b, v.frame st (fun c hc => hd c (by simp [hc])), hqs, Nat.le_trans n st.1⟩
  · subst e
    rcases List.mem_cons.1 hc with rfl | hc
    · omega
    · exact (v.lt c hc).2
theorem RunBack_walk {K0 : Hp → Prop} {fv : Value} {q : Nat} {l : List Ent} {T : List Nat} (f : Fit w0 h) (hq : w0.heap.size ≤ q) (hb : h.blk q = some [.slice none 0 0]) (hl : l.length ≤ 1000000000) (hqT : q ∉ T)
    (hit : ∀ g, ItC prog w0 fv (h.newLp g) T (sV l)) (hk : ∀ h3 x S', Fit w0 h3 → YStep 0 h h3 [q] (q :: S') → h3.blk q = some [x] → Vec w0 h3 3 x l.length (l.flatMap ee) S' → K0 h3) :
    rangeA prog w0 fv 1 (fun b g args K => deduplaw12_RunBack_R1 prog w0 b g K (ptr q) (args.getD 0 undef)) K0 [] h := by
  have lq := f.lt _ _ hb
  refine rangeA_of' (xs := sV l) (T := T) 0 (Nat.zero_le _) f (fun g => (hit g).v) (fun b g x K => newA zE 3 fun v => storeNA w0 v (x.getD 0 undef) 3 fun _ => loadA w0 (ptr q) fun v67 => loadNA w0 v 3 fun v68 => bslA [(0, 3, true, v68)] (zerosL zE 1) 1 3 fun v69 => appA w0 3 40 v67 v69 fun v70 => storeA w0 (ptr q) v70 fun _ => endR b g none K)
    (fun b g x K h1 hl hk => round_st hl hk) [q] (RC w0 h.next q l) (fun _ _ _ => False) (fun i => rc_keep lq) (fun o => ⟨fun _ _ _ _ c => c, fun _ _ _ _ _ _ c => c.elim, fun _ _ c => c.elim⟩)
    ⟨_, [], rfl, hb, .nil, by simp, Nat.le_refl _⟩ (fun b hb hbT => by simp at hb; subst hb; exact hqT hbT) ?_ ?_ ?_ ?_
  · intro y hy
    obtain ⟨x, hx, rfl⟩ := List.mem_map.1 hy
    exact ⟨rfl, by simp⟩
  · rintro i y h1 S1 g1 K hi f1 ⟨x, S', e, b, v, hqs, n⟩ lb _ ends exits
    subst e
    unfold sV at hi
    rw [List.getElem?_map] at hi
    obtain ⟨z, hz, rfl⟩ := Option.map_eq_some_iff.1 hi
    have hil := (List.getElem?_eq_some_iff.1 hz).1
    have hti : (l.take i).length = i := by rw [List.length_take]; omega
    have ht1 : l.take (i + 1) = l.take i ++ [z] := by rw [List.take_add_one, hz]; rfl
    simp only [List.getD_cons_zero, newA_iff]
    have fb := f1.base
    refine ⟨by simp [zE, isCell], ?_⟩
    refine storeNA_whole (cs := zE) (e := ee z) fb (by simp) rfl rfl ?_
    have sx : Step h1 ((h1.new zE 3).put h1.next (ee z)) [] [h1.next] := ((Step.refl h1 [] (by simp)).new _ _).put (by simp) _
    have bx : ((h1.new zE 3).put h1.next (ee z)).blk h1.next = some (ee z) := by simp
    have nx : h1.next < ((h1.new zE 3).put h1.next (ee z)).next := by simp
    have bq : ((h1.new zE 3).put h1.next (ee z)).blk q = some [x] := by rw [(sx.keep q (by omega) (by simp)).1]; exact b
    have vx := v.frame sx (by simp)
    have bsx := sx.1
    generalize (h1.new zE 3).put h1.next (ee z) = hx at *
    simp only [ptr]
    refine loadA_at hq bq rfl ?_
    refine loadNA_whole fb bx rfl ?_
    refine appN_vec (by omega) vx.gv rfl rfl (by omega) (by omega) (by omega) fun x' h2 S2 g2 s2 => ?_
    have hS' : ∀ b, b ∈ S' → b < h1.next := fun b hb => (v.lt b hb).2
    have b2 : h2.blk q = some [x] := by rw [(s2.keep q (by omega) hqs).1]; exact bq
    have hq2 : q ∉ S2 := fun e => by
      rcases (s2.own _ e).2 with r | r
      · exact hqs r
      · omega
    have s12 : Step h1 h2 S' S2 := (sx.wide (T := S') (T' := S') (by simp) (fun b hb => .inr ⟨hb, hS' b hb⟩)).trans s2
    have lq1 : q < h1.next := by omega
    have hxc : isCell x' = true := by obtain ⟨a, c, e⟩ := g2.slice; rw [e]; rfl
    refine storeA_at hq b2 (by simp) hxc ?_
    simp only [List.set_cons_zero]
    have s3 : Step h1 (h2.put q [x']) (q :: S') (q :: S2) := (s12.consR lq1).put (by simp) _
    have sp : Step h2 (h2.put q [x']) [q] [q] := (Step.refl h2 [q] (by simp; have := s2.1; omega)).put (by simp) _
    refine ends _ _ (s3.y 0) ⟨x', S2, rfl, by simp, ?_, hq2, by have := s3.1; omega⟩
    have g3 : Vec w0 (h2.put q [x']) 3 x' _ _ S2 := g2.frame sp (by simpa using fun b hb (e : b = q) => hq2 (by rw [← e]; exact hb))
    rw [hti] at g3
    rw [ht1, List.flatMap_append, List.length_append, hti]
    simpa using g3
  · rintro h3 S2 f3 ys ⟨x, S', e, b, v, hqs, n⟩
    subst e
    have : (sV l).length = l.length := by simp [sV]
    rw [this, List.take_of_length_le (Nat.le_refl _)] at v
    exact hk h3 x S' f3 ys b v
  · rintro o h3 S2 f3 ys c
    exact c.elim
def knownK (l : List Ent) (k : Key) : Bool := l.any fun x => decide (x.k = k)
theorem knownK_get (l : List Ent) (k : Key) : (getE l k).isSome = knownK l k := by
  unfold getE knownK
  rw [List.isSome_find?]
theorem knownK_snoc (l : List Ent) (x : Ent) (k : Key) : knownK (l ++ [x]) k = (knownK l k || decide (x.k = k)) := by simp [knownK]
theorem back_loop {k2 : Value → Value → Value → Value → Value → Value → Value → Hp → Prop} {kr : Value → Value → Value → Value → Value → Value → Value → Hp → Prop} {v r x1 x6 x7 x10 : Value} {l : List Ent} {n : Nat} {M : List Nat} {k : Key} {hh : Hp}
    (hx : ExtSl w0 3 v l.length (l.flatMap ee)) (m : Rn w0 hh r l n M)
    (hk : ∀ h', Fit w0 h' → Step hh h' [] [] → k2 x1 (.string (str k)) x6 x7 r x10 (.bool (knownK l k)) h') : ∀ (post pre : List Ent) (h1 : Hp), pre ++ post = l → Fit w0 h1 → Step hh h1 [] [] →
      deduplaw12_RunBack_L1 prog w0 k2 kr (post.length + 1) x1 (.string (str k)) x6 x7 r x10 (.bool (knownK pre k)) v (.int .i64 (l.length : Int)) (.int .i64 (pre.length : Int)) h1 := by
  have hll : l.length ≤ 2000000 := by obtain ⟨p, vb, x, S', -, -, -, -, -, -, -, -, -, q⟩ := m; exact q
  have hsr : l.Pairwise fun x y => blt x.k y.k = true := by obtain ⟨p, vb, x, S', -, -, -, -, -, -, -, -, q, -⟩ := m; exact (chkF_srt q).1
  intro post
  induction post with
  | nil =>
    intro pre h1 he f1 st
    have hpre : pre = l := by simpa using he
    subst hpre
    rw [List.length_nil, deduplaw12_RunBack_L1]
    simp only [deduplaw12_RunBack_B1, wd, List.getElem?_toArray, List.getElem?_cons_zero, List.getElem?_cons_succ, Int.lt_irrefl, decide_false]
    exact hk h1 f1 st
  | cons x post ih =>
    intro pre h1 he f1 st
    have hlen : pre.length + (post.length + 1) = l.length := by rw [← he]; simp
    have hg : l[pre.length]? = some x := by rw [← he]; simp
    have hxl : x ∈ l := by rw [← he]; simp
    have c1 : decide ((pre.length : Int) < (l.length : Int)) = true := decide_eq_true (by omega)
    have e6 : IntKind.i64.wrap ((pre.length : Int) + 1) = (((pre ++ [x]).length : Nat) : Int) := by rw [IntWalk.i64_in _ (by omega)]; simp
    have hzc : ∀ v, v ∈ zE → isCell v = true := by simp [zE, isCell]
    rw [List.length_cons, deduplaw12_RunBack_L1]
    simp only [deduplaw12_RunBack_B1, wd, List.getElem?_toArray, List.getElem?_cons_zero, List.getElem?_cons_succ, c1]
    refine (hx.sl' f1 (es_length l)).elem (by omega) (es_get hg) ?_
    have fb := f1.base
    refine boxN fb rfl rfl hzc ?_
    have sx : Step h1 (h1.new (ee x) 3) [] [h1.next] := (Step.refl h1 [] (by simp)).new _ _
    have bx : (h1.new (ee x) 3).blk h1.next = some (ee x) := by simp
    have nx : h1.next < (h1.new (ee x) 3).next := by simp
    have fx : Fit w0 (h1.new (ee x) 3) := f1.new (by simp [ee, isCell])
    have stx : Step hh (h1.new (ee x) 3) [] [] := st.trans (sx.less (by simp))
    generalize h1.new (ee x) 3 = hx1 at *
    simp only [wd, List.getElem?_toArray, List.getElem?_cons_zero, List.getElem?_cons_succ]
    refine loadA_at fb bx rfl ?_
    refine callA_of (Get_spec (m.frame stx (by simp)) x.k) fun w h2 ⟨e, s2⟩ f2 => ?_
    subst e
    rw [getE_of hsr hxl]
    have b2 : h2.blk h1.next = some (ee x) := by rw [(s2.keep _ nx (by simp)).1]; exact bx
    have n2 : h1.next < h2.next := Nat.lt_of_lt_of_le nx s2.1
    simp only [Option.isSome, eo, wd, List.getElem?_toArray, List.getElem?_cons_zero, List.getElem?_cons_succ]
    have fb2 := f2.base
    refine boxN fb2 rfl rfl hzc ?_
    have sy : Step h2 (h2.new (ee x) 3) [] [h2.next] := (Step.refl h2 [] (by simp)).new _ _
    have b3 : (h2.new (ee x) 3).blk h1.next = some (ee x) := by rw [(sy.keep _ n2 (by simp)).1]; exact b2
    have b4 : (h2.new (ee x) 3).blk h2.next = some (ee x) := by simp
    have f3 : Fit w0 (h2.new (ee x) 3) := f2.new (by simp [ee, isCell])
    have st3 : Step hh (h2.new (ee x) 3) [] [] := stx.trans (s2.trans (sy.less (by simp)))
    generalize h2.new (ee x) 3 = h3 at *
    refine loadNA_whole fb2 b4 rfl ?_
    refine loadNA_whole fb b3 rfl ?_
    simp only [neEnt w0, wd, List.getElem?_toArray, List.getElem?_cons_zero, List.getElem?_cons_succ]
    have on := ih (pre ++ [x]) h3 (by simpa using he) f3 st3
    rw [knownK_snoc] at on
    cases hkn : knownK pre k with
    | true =>
      rw [hkn, Bool.true_or] at on
      simp only [e6, wd, List.getElem?_toArray, List.getElem?_cons_zero, List.getElem?_cons_succ]
      exact on
    | false =>
      rw [hkn, Bool.false_or] at on
      simp only [wd, List.getElem?_toArray, List.getElem?_cons_zero, List.getElem?_cons_succ]
      refine loadA_at fb b3 rfl ?_
      simp only [s_eql, e6, wd, List.getElem?_toArray, List.getElem?_cons_zero, List.getElem?_cons_succ]
      exact on
theorem RunBack_top {v : Value} {l : List Ent} (block : Int) (k : Key) (hx : ExtSl w0 3 v l.length (l.flatMap ee)) (hl : entsz l ≤ 1048576) :
    ACalls prog w0 n_deduplaw12_RunBack [v, .int .i64 block, .string (str k)] h fun r h' => r = .bool true := by
  have h4 := entsz_len l
  refine ACalls.of_fit (by simpa using hx.nj) fun f => c_deduplaw12_RunBack (by simpa using hx.nj) ?_
  simp only [s_deduplaw12_RunBack]
  refine callA_of awake_spec fun r h1 ⟨e, s1⟩ f1 => ?_
  subst e
  simp only [wd, List.getElem?_toArray, List.getElem?_cons_zero, List.getElem?_cons_succ]
  refine callA_of (Build_spec block (hx.sl' f1 (es_length l)) (by omega)) fun r h2 ⟨y, S2, e, g2, s2⟩ f2 => ?_
  subst e
  simp only [wd, List.getElem?_toArray, List.getElem?_cons_zero, List.getElem?_cons_succ]
  by_cases hz : bldE block l = 0
  · have c1 : (bldE block l != 0) = false := by simp [hz]
    obtain ⟨hb1, hb2, hb3⟩ := bldE_ok hz
    obtain ⟨bl, rfl⟩ := Int.eq_ofNat_of_zero_le (show 0 ≤ block by omega)
    simp only [c1, wd, List.getElem?_toArray, List.getElem?_cons_zero, List.getElem?_cons_succ]
    refine callA_of (Open_bld hz hl g2.gv) fun r h3 ⟨p, M, e, m3, s3⟩ f3 => ?_
    subst e
    obtain ⟨p0, rfl⟩ : ∃ p0, p = ptr p0 := by obtain ⟨p0, -, -, -, e, -⟩ := m3; exact ⟨p0, e⟩
    have c0 : binPtrA .eql (.pointer (some ⟨p0, 0, none⟩)) (.pointer none) = some (.bool false) := rfl
    simp only [ptr, c0, bne_self_eq_false, wd, List.getElem?_toArray, List.getElem?_cons_zero, List.getElem?_cons_succ]
    refine callA_of (Len_spec m3) fun r h4 ⟨e, e'⟩ f4 => ?_
    subst e
    subst h4
    simp only [(hx.sl' f3 (es_length l)).lenv, bne_self_eq_false, wd, List.getElem?_toArray, List.getElem?_cons_zero, List.getElem?_cons_succ, newA_iff]
    refine ⟨by simp [isCell], ?_⟩
    have s4 : Step h3 (h3.new [.slice none 0 0] 1) [] [h3.next] := (Step.refl h3 [] (by simp)).new _ _
    have m4 := m3.frame s4 (by simp)
    have b4 : (h3.new [.slice none 0 0] 1).blk h3.next = some [.slice none 0 0] := by simp
    have n4 : h3.next < (h3.new [.slice none 0 0] 1).next := by simp
    have hM3 := m3.lt
    have g4 : Vec w0 (h3.new [.slice none 0 0] 1) 1 y _ _ S2 := (g2.frame s3 (by simp)).frame s4 (by simp)
    have fb3 := f3.base
    have em : ByteArray.empty = str ([] : Key) := rfl
    rw [em]
    generalize h3.new [.slice none 0 0] 1 = h4 at *
    refine callA_of (Scan_spec _ (by simp [junk]) rfl [] []) fun r h5 ⟨r1, r2, r3, e, d1, d2, d3, d4, d5, d6, d7, d8, d9, s5⟩ f5 => ?_
    subst e
    have b5 : h5.blk h3.next = some [.slice none 0 0] := by rw [(s5.keep _ n4 (by simp)).1]; exact b4
    have m5 := m4.frame s5 (by simp)
    have g5 := g4.frame s5 (by simp)
    have hM4 : ∀ b, b ∈ M → b ≠ h3.next := fun b hb => by have := (hM3 b hb).2; omega
    have hS4 : ∀ b, b ∈ S2 → b ≠ h3.next := fun b hb => by have := (g2.lt b hb).2; have := s3.1; omega
    refine RunBack_walk (T := r1 :: r2 :: r3 :: M) (l := l) f5 fb3 b5 (by omega) (fun q => ?_) (fun g => ?_) fun h6 x S6 f6 y6 b6 g6 => ?_
    · simp only [List.mem_cons] at q
      rcases q with q | q | q | q
      · omega
      · omega
      · omega
      · exact hM4 _ q rfl
    · have := scan_it (hh := h5.newLp g) (q1 := r1) (q2 := r2) (q3 := r3) (r := ptr p0) (l := l) (a := []) (b := []) (n := (grp bl l).length) (T := r1 :: r2 :: r3 :: M) (M := M) d1 d2 d3 (by omega) (by omega) (by omega)
        (m5.frame ((YStep.refl 0 h5 [] (by simp)).newLp g).step (by simp) : Rn w0 ((h5.newLp g).as h5) _ _ _ _) ⟨by simp, by simp, by simp, fun b hb => by simp [hb]⟩
      rw [part_all] at this
      exact this
    · have st6 : Step h5 (h6.as h5) [h3.next] (h3.next :: S6) := y6.step
      have m6 : Rn w0 h6 (ptr p0) l (grp bl l).length M := (m5.frame st6 (fun b hb => by simpa using hM4 b hb) : Rn w0 (h6.as h5) _ _ _ _)
      have g7 : Vec w0 h6 1 y _ _ S2 := (g5.frame st6 (fun b hb => by simpa using hS4 b hb) : Vec w0 (h6.as h5) 1 y _ _ S2)
      refine loadA_at fb3 b6 rfl ?_
      refine callA_of (same_spec g6.sl (hx.sl' f6 (es_length l)) (by omega)) fun r h7 ⟨e, e'⟩ f7 => ?_
      subst e
      subst h7
      simp only [(hx.sl' f6 (es_length l)).lenv, wd, List.getElem?_toArray, List.getElem?_cons_zero, List.getElem?_cons_succ]
      refine ⟨l.length + 1, back_loop (k := k) hx m6 (fun h7 f7 s7 => ?_) l [] h6 rfl f6 (.refl _ _ (by simp))⟩
      have m7 := m6.frame s7 (by simp)
      have l6 : h3.next < h6.next := f6.lt _ _ b6
      have b7 : h7.blk h3.next = some [x] := by rw [(s7.keep _ l6 (by simp)).1]; exact b6
      have g8 := g6.frame s7 (by simp)
      have g9 := g7.frame s7 (by simp)
      refine callA_of (Get_spec m7 k) fun w h8 ⟨e, s8⟩ f8 => ?_
      subst e
      rw [knownK_get]
      simp only [wd, List.getElem?_toArray, List.getElem?_cons_zero, List.getElem?_cons_succ]
      have hel : (eo (getE l k)).length = 3 := by unfold eo; split <;> rfl
      refine boxN f8.base rfl hel (by simp [zE, isCell]) ?_
      have s9 : Step h7 (h8.new (eo (getE l k)) 3) [] [] := (s8.trans ((Step.refl h8 [] (by simp)).new _ _)).less (by simp)
      have f9 : Fit w0 (h8.new (eo (getE l k)) 3) := f8.new (by unfold eo; split <;> simp [ee, zE, isCell])
      generalize h8.new (eo (getE l k)) 3 = h9 at *
      have b9 : h9.blk h3.next = some [x] := by rw [(s9.keep _ (f7.lt _ _ b7) (by simp)).1]; exact b7
      refine loadA_at fb3 b9 rfl ?_
      refine callA_of (Build_spec (bl : Int) (g8.frame s9 (by simp)).sl (by omega)) fun r h10 ⟨u, U, e, gu, s10⟩ f10 => ?_
      subst e
      simp only [hz, beq_self_eq_true, binBoolA_eql, wd, List.getElem?_toArray, List.getElem?_cons_zero, List.getElem?_cons_succ]
      refine gu.b2s ?_
      refine Vec.b2s ((g9.frame s9 (by simp)).frame s10 (by simp)) ?_
      simp only [s_eql, decide_true, wd, List.getElem?_toArray, List.getElem?_cons_zero, List.getElem?_cons_succ]
      unfold cutA
      simp only [retA_iff, oneOf_one]
      simp
  · have c1 : (bldE block l != 0) = true := by simp [hz]
    have hR : (bldR block l).length = 0 := by unfold bldR; rw [if_neg hz]; rfl
    have c2 : (((bldR block l).length : Nat) : Int) = 0 := by omega
    simp only [c1, g2.sl.lenv, c2, beq_self_eq_true, wd, List.getElem?_toArray, List.getElem?_cons_zero, List.getElem?_cons_succ]
    by_cases hb1 : block < 256
    · have c3 : decide (block < 256) = true := decide_eq_true hb1
      simp only [c3, wd, List.getElem?_toArray, List.getElem?_cons_zero, List.getElem?_cons_succ]
      unfold cutA
      simp only [retA_iff, oneOf_one]
      simp
    · have c3 : decide (block < 256) = false := decide_eq_false hb1
      by_cases hb2 : 4096 < block
      · have c4 : decide (4096 < block) = true := decide_eq_true hb2
        simp only [c3, c4, wd, List.getElem?_toArray, List.getElem?_cons_zero, List.getElem?_cons_succ]
        unfold cutA
        simp only [retA_iff, oneOf_one]
        simp
      · have c4 : decide (4096 < block) = false := decide_eq_false hb2
        have hch : chkE l = false := by
          unfold bldE at hz
          rw [if_neg (by omega)] at hz
          cases hq : chkE l with
          | false => rfl
          | true => rw [hq] at hz; simp at hz
        simp only [c3, c4, wd, List.getElem?_toArray, List.getElem?_cons_zero, List.getElem?_cons_succ]
        refine callA_of (r_check_spec (hx.sl' f2 (es_length l)) (by omega)) fun r h7 ⟨e, s7⟩ f7 => ?_
        subst e
        have c5 : ((if chkE l = true then (0 : Int) else 120) != 0) = true := by rw [hch]; rfl
        simp only [c5, wd, List.getElem?_toArray, List.getElem?_cons_zero, List.getElem?_cons_succ]
        unfold cutA
        simp only [retA_iff, oneOf_one]
        simp
end
end Go.Proofs.Ythjpddggnhgjhaa.Ah
