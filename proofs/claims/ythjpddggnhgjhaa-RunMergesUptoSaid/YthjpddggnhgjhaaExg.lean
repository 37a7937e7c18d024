/- run: there and back; the law's first example; lists that are alike. -/
import Derived.Test.YthjpddggnhgjhaaExf
import Derived.Test.YthjpddggnhgjhaaGlaw12
import Derived.Test.YthjpddggnhgjhaaGseq
set_option linter.unusedVariables false
set_option linter.unusedSimpArgs false
set_option linter.constructorNameAsVariable false
namespace Go.Proofs.Ythjpddggnhgjhaa.Ah
open Go
theorem eqEnt (w0 : World) (x : Ent) : eqStA prog .eql 41 (.agg (ee x).toArray) (.agg (ee x).toArray) = fun K => K (.bool true) := by
  have hS : prog.underlying 41 = some (.struct (prog.fieldsOf 41)) := by kernel_rfl
  have hp : prog.stoodInHeld 41 = false := by kernel_rfl
  have key : ∀ w, (binOp .eql 41 (.agg (ee x).toArray) (.agg (ee x).toArray)).run prog w = .ok (.bool true) w := by
    obtain ⟨k, v, g⟩ := x
    intro w
    rw [run_eql_struct, show (10000 : Nat) = 9999 + 1 from rfl, run_equalIn_agg w 9999 41 _ _ hS hp]
    simp only [Program.fieldsOf, Try.underlying41, ee]
    go_simp
  funext K h
  refine propext ⟨?_, fun hk => ?_⟩
  · rintro ⟨xs, ys, q, e1, e2, -, -, e3, -, hk⟩
    cases e1
    cases e2
    have := (e3 w0).symm.trans (key w0)
    simp at this
    subst this
    exact hk
  · refine ⟨_, _, _, rfl, rfl, fun v hv => ?_, fun v hv => ?_, key, fun w => run_eqGuard_agg w _ _ _ _ _ _ (by kernel_rfl), hk⟩
    all_goals
      simp [ee] at hv
      rcases hv with rfl | rfl | rfl <;> rfl
theorem neEnt (w0 : World) (x : Ent) : eqStA prog .neq 41 (.agg (ee x).toArray) (.agg (ee x).toArray) = fun K => K (.bool false) := by
  have hS : prog.underlying 41 = some (.struct (prog.fieldsOf 41)) := by kernel_rfl
  have hp : prog.stoodInHeld 41 = false := by kernel_rfl
  have key : ∀ w, (binOp .neq 41 (.agg (ee x).toArray) (.agg (ee x).toArray)).run prog w = .ok (.bool false) w := by
    obtain ⟨k, v, g⟩ := x
    intro w
    rw [run_neq_struct, show (10000 : Nat) = 9999 + 1 from rfl, run_equalIn_agg w 9999 41 _ _ hS hp]
    simp only [Program.fieldsOf, Try.underlying41, ee]
    go_simp
  funext K h
  refine propext ⟨?_, fun hk => ?_⟩
  · rintro ⟨xs, ys, q, e1, e2, -, -, e3, -, hk⟩
    cases e1
    cases e2
    have := (e3 w0).symm.trans (key w0)
    simp at this
    subst this
    exact hk
  · refine ⟨_, _, _, rfl, rfl, fun v hv => ?_, fun v hv => ?_, key, fun w => run_eqGuard_agg w _ _ _ _ _ _ (by kernel_rfl), hk⟩
    all_goals
      simp [ee] at hv
      rcases hv with rfl | rfl | rfl <;> rfl
theorem opn_bld {bl : Nat} {l : List Ent} (h : bldE (bl : Int) l = 0) (hl : l.length ≤ 2000000) : opn (bldR (bl : Int) l) = some (l, (grp bl l).length) ∧ prs (bldR (bl : Int) l) = some (l, bl, (grp bl l).length) := by
  obtain ⟨h1, h2, h3⟩ := bldE_ok h
  have hr : ∀ x, x ∈ l → rightE x = true := chkF_right h3
  obtain ⟨z1, z2, z3⟩ := bld_le (block := bl) hr hl
  have hR : bldR (bl : Int) l = bld bl l := by unfold bldR; rw [if_pos h, Int.toNat_natCast]
  have hp := prs_bld (block := bl) (by omega) hr (by omega) (by omega)
  rw [← hR] at hp
  refine ⟨?_, hp⟩
  unfold opn
  rw [hp]
  simp only
  rw [if_pos ⟨h, trivial⟩]
theorem prs_spans {b : List UInt8} {q : List Ent × Nat × Nat} (h : prs b = some q) : q.2.2 = spansB b := by
  unfold prs at h
  split at h
  · cases h
  · simp only at h
    split at h
    · cases h
    · split at h
      · cases h
      · split at h
        · have := Option.some.inj h
          rw [← this]
          rfl
        · cases h
theorem spansB_bld {bl : Nat} {l : List Ent} (h : bldE (bl : Int) l = 0) (hl : l.length ≤ 2000000) : spansB (bldR (bl : Int) l) ≤ l.length := by
  rw [← prs_spans (opn_bld h hl).2]
  exact grp_len_le bl l
section
variable {w0 : World} {h h' : Hp}
theorem entsz_len (l : List Ent) : 4 * l.length ≤ entsz l := by
  induction l with
  | nil => simp
  | cons x l ih => rw [entsz_cons, List.length_cons]; omega
theorem bldR_le {bl : Nat} {l : List Ent} (hz : bldE (bl : Int) l = 0) (hl : entsz l ≤ 1048576) : (bldR (bl : Int) l).length ≤ 11534360 := by
  have hR : bldR (bl : Int) l = bld bl l := by unfold bldR; rw [if_pos hz, Int.toNat_natCast]
  have h1 := outB_le (grp bl l) (fun g hg => grp_ne hg)
  have h2 := idx_le (grp bl l) 0 (fun g hg => grp_ne hg) (by rw [grp_flat] at h1; omega) (by rw [grp_flat]; omega)
  rw [grp_flat] at h1 h2
  rw [hR, bld_len]
  omega
theorem mul_le2 {a b A B C : Nat} (h1 : a ≤ A) (h2 : b ≤ B) (h3 : A * B ≤ C) : a * b ≤ C := Nat.le_trans (Nat.mul_le_mul h1 h2) h3
theorem Open_bld {v : Value} {bl : Nat} {l : List Ent} {S0 : List Nat} (hz : bldE (bl : Int) l = 0) (hl : entsz l ≤ 1048576) (g : GV w0 h 1 v (bldR (bl : Int) l).length (bvs (bldR (bl : Int) l)) S0) :
    ACalls prog w0 n_run_Open [v] h fun r h' => ∃ p S, r = .tuple #[p, .int .i64 0] ∧ Rn w0 h' p l (grp bl l).length S ∧ Step h h' [] S := by
  have h4 := entsz_len l
  obtain ⟨e1, e2⟩ := opn_bld hz (by omega)
  have e3 := spansB_bld hz (by omega)
  have hlen := bldR_le hz hl
  have hmul : min (spansB (bldR (bl : Int) l)) (bldR (bl : Int) l).length * (bldR (bl : Int) l).length ≤ 3500000000000 := mul_le2 (A := 262144) (B := 11534360) (by omega) hlen (by decide)
  refine (Open_spec g (by omega) hmul fun l' bl' n' hp => ?_).mono fun r h' hr => ?_
  · rw [e2] at hp
    have h5 : l = l' := congrArg (·.1) (Option.some.inj hp)
    rw [← h5]
    omega
  · rw [e1] at hr
    exact hr
/-! ### A memtable: made, and its iterator -/
theorem NewMap_e : ACalls prog w0 n_seq_NewMap_string_api_Entry [] h fun r h' => r = ptr h.next ∧ h' = h.new [.slice none 0 0] 1 := by
  refine ACalls.of_fit (by simp) fun f => c_seq_NewMap_string_api_Entry (by simp) ?_
  simp only [s_seq_NewMap_string_api_Entry, buildA_iff, fillA_nil, boxA_agg, retA_iff, oneOf_one]
  exact ⟨by simp, rfl, trivial⟩
theorem NewMem_e : ACalls prog w0 n_run_NewMem [] h fun r h' => ∃ p q, r = ptr p ∧ h'.blk p = some [ptr q] ∧ h'.blk q = some [.slice none 0 0] ∧ h'.esz q = 1 ∧ p ≠ q ∧ h.next ≤ p ∧ h.next ≤ q ∧ p < h'.next ∧ q < h'.next ∧ Step h h' [] [] := by
  refine ACalls.of_fit (by simp) fun f => c_run_NewMem (by simp) ?_
  simp only [s_run_NewMem]
  refine callA_of NewMap_e fun r h1 ⟨e, e'⟩ f1 => ?_
  subst e e'
  simp only [buildA_iff, fillA_one, fillA_nil, List.set_cons_zero, boxA_agg, retA_iff, oneOf_one]
  have hne : h.next ≠ h.next + 1 := by omega
  exact ⟨rfl, by simp, by simp, h.next + 1, h.next, rfl, by simp [ptr], by simp [hne], by simp, by omega, by omega, Nat.le_refl _, by simp, by simp; omega, (((Step.refl h [] (by simp)).new _ _).new _ _).less (by simp)⟩
theorem MemAll_e (r : Value) (hr : r ≠ junk) (hrc : isCell r = true) : ACalls prog w0 n_run_Mem_All [r] h fun v h' => ∃ q, v = .func (.func n_run_Mem_All_S1) #[] #[ptr q] ∧ h'.blk q = some [r] ∧ h.next ≤ q ∧ q < h'.next ∧ Step h h' [] [] := by
  refine ACalls.of_fit (by simp [hr]) fun f => c_run_Mem_All (by simp [hr]) ?_
  simp only [s_run_Mem_All]
  refine ⟨hrc, ?_⟩
  refine ⟨by simp, ?_⟩
  simp only [retA_iff, oneOf_one]
  exact ⟨by simp, h.next, rfl, by simp, Nat.le_refl _, by simp, ((Step.refl h [] (by simp)).new _ _).less (by simp)⟩
/-! ### The law's first example -/
def ab0 : List Ent := [⟨[97, 98], [49], false⟩, ⟨[97, 98, 99], [50], false⟩]
theorem ab_zero : bldE ((256 : Nat) : Int) ab0 = 0 := by decide
theorem ab_grp : grp 256 ab0 = [ab0] := by decide
theorem ab_enc : enc ab0 = [0, 2, 0, 1, 97, 98, 49, 2, 1, 0, 1, 99, 50] := by decide
theorem ab_take : (bldR ((256 : Nat) : Int) ab0).take 13 = [0, 2, 0, 1, 97, 98, 49, 2, 1, 0, 1, 99, 50] := by
  have hR : bldR ((256 : Nat) : Int) ab0 = bld 256 ab0 := by unfold bldR; rw [if_pos ab_zero, Int.toNat_natCast]
  rw [hR, bld, ab_grp, outB_one, List.append_assoc, ← ab_enc]
  exact List.take_left' (by rw [ab_enc]; rfl)
theorem ab_get : getE ab0 [97, 98, 99] = some ⟨[97, 98, 99], [50], false⟩ := by decide
end
section
variable {w0 : World} {h h' : Hp}
theorem same_spec {v v' : Value} {l : List Ent} (hv : Es w0 h v l) (hv' : Es w0 h v' l) (hl : l.length ≤ 1000000000) : ACalls prog w0 n_deduplaw12_same [v, v'] h fun r h' => r = .bool true ∧ h' = h := by
  refine ACalls.of_fit (by simp [hv.junk, hv'.junk]) fun f => c_deduplaw12_same (by simp [hv.junk, hv'.junk]) ?_
  simp only [s_deduplaw12_same, hv.lenv, hv'.lenv, wd, List.getElem?_toArray, List.getElem?_cons_zero, List.getElem?_cons_succ, bne_self_eq_false]
  refine ⟨l.length + 1, ?_⟩
  have loop : ∀ (k0 kr : Value → Hp → Prop) (x4 : Value), k0 x4 h → ∀ (r i : Nat), i + r = l.length → deduplaw12_same_L1 prog w0 k0 kr (r + 1) v v' x4 (.int .i64 (l.length : Int)) (.int .i64 (i : Int)) h := by
    intro k0 kr x4 hk r
    induction r with
    | zero =>
      intro i hi
      have : i = l.length := by omega
      subst this
      rw [deduplaw12_same_L1]
      simp only [deduplaw12_same_B1, wd, List.getElem?_toArray, List.getElem?_cons_zero, List.getElem?_cons_succ, Int.lt_irrefl, decide_false]
      exact hk
    | succ r ih =>
      intro i hi
      have c1 : decide ((i : Int) < (l.length : Int)) = true := decide_eq_true (by omega)
      have e6 : IntKind.i64.wrap ((i : Int) + 1) = ((i + 1 : Nat) : Int) := by rw [IntWalk.i64_in _ (by omega)]; simp
      have hil : i < l.length := by omega
      have hg : l[i]? = some l[i] := List.getElem?_eq_getElem hil
      rw [deduplaw12_same_L1]
      simp only [deduplaw12_same_B1, wd, List.getElem?_toArray, List.getElem?_cons_zero, List.getElem?_cons_succ, c1, fpureQ_eqStA]
      refine hv.elem hil (es_get hg) ?_
      refine hv'.elem hil (es_get hg) ?_
      simp only [neEnt w0, wd, List.getElem?_toArray, List.getElem?_cons_zero, List.getElem?_cons_succ, e6]
      exact ih (i + 1) (by omega)
  refine loop _ _ _ ?_ l.length 0 (by omega)
  simp only [retA_iff, oneOf_one]
  exact ⟨by simp, trivial, trivial⟩
theorem awake_spec : ACalls prog w0 n_deduplaw12_awake [] h fun r h' => r = .bool true ∧ Step h h' [] [] := by
  refine ACalls.of_fit (by simp) fun f => c_deduplaw12_awake (by simp) ?_
  have hz : zerosL [(Value.string .empty), .string .empty, .bool false] 2 = [.string .empty, .string .empty, .bool false, .string .empty, .string .empty, .bool false] := rfl
  simp only [s_deduplaw12_awake, buildA_iff, fillA_one, fillA_nil, fillA_agg, bslA_iff, List.set_cons_zero, List.set_cons_succ, hz]
  refine ⟨rfl, by simp, rfl, by simp, rfl, by simp, rfl, by simp, rfl, by simp, rfl, by simp [splice], ?_⟩
  have g0 : GV w0 (h.new (ab0.flatMap ee) 3) 3 (.slice (some ⟨h.next, 0, none⟩) 2 2) ab0.length (ab0.flatMap ee) [h.next] := GV.new f.base rfl (by unfold ucap; decide)
  have s0 : Step h (h.new (ab0.flatMap ee) 3) [] [h.next] := (Step.refl h [] (by simp)).new _ _
  show callA _ _ _ _ _ (h.new (ab0.flatMap ee) 3)
  generalize h.new (ab0.flatMap ee) 3 = h0 at *
  refine callA_of (Build_spec (256 : Int) g0.sl (by decide)) fun r h1 ⟨y, S1, e, g1, s1⟩ f1 => ?_
  subst e
  have hz0 : bldE (256 : Int) ab0 = 0 := ab_zero
  rw [hz0]
  simp only [wd, List.getElem?_toArray, List.getElem?_cons_zero, List.getElem?_cons_succ]
  refine callA_of (Open_bld (bl := 256) ab_zero (by decide) g1.gv) fun r h2 ⟨p, S2, e, m2, s2⟩ f2 => ?_
  subst e
  have g2 := g1.frame s2 (by simp)
  obtain ⟨p0, rfl⟩ : ∃ p0, p = ptr p0 := by obtain ⟨p0, -, -, -, e, -⟩ := m2; exact ⟨p0, e⟩
  have c0 : binPtrA .eql (.pointer (some ⟨p0, 0, none⟩)) (.pointer none) = some (.bool false) := rfl
  have hlen : 13 ≤ (bldR (256 : Int) ab0).length := by
    have := congrArg List.length ab_take
    rw [List.length_take] at this
    have e : ([0, 2, 0, 1, 97, 98, 49, 2, 1, 0, 1, 99, 50] : List UInt8).length = 13 := rfl
    rw [e] at this
    have e2 : ((256 : Nat) : Int) = 256 := rfl
    rw [e2] at this
    omega
  have c1 : decide (((bldR (256 : Int) ab0).length : Int) < 13) = false := decide_eq_false (by omega)
  simp only [ptr, c0, bne_self_eq_false, g2.sl.lenv, c1, wd, List.getElem?_toArray, List.getElem?_cons_zero, List.getElem?_cons_succ]
  refine g2.sl.cutN (lo := 0) (hi := 13) (boundA_none) (by exact boundA_nat (i := 13)) (by omega) hlen fun x' _ _ vx => ?_
  have hb : ((bvs (bldR (256 : Int) ab0)).take (13 * 1)).drop (0 * 1) = bvs [0, 2, 0, 1, 97, 98, 49, 2, 1, 0, 1, 99, 50] := by
    have := congrArg bvs ab_take
    simp only [bvs, List.map_take] at this ⊢
    exact this
  rw [hb] at vx
  have hs := vx.src
  obtain ⟨a, c, ex⟩ := vx.slice
  subst ex
  refine b2sA_of hs ?_
  have e13 : (⟨#[0, 2, 0, 1, 97, 98, 49, 2, 1, 0, 1, 99, 50]⟩ : ByteArray) = str [0, 2, 0, 1, 97, 98, 49, 2, 1, 0, 1, 99, 50] := rfl
  have c3 : decide (([0, 2, 0, 1, 97, 98, 49, 2, 1, 0, 1, 99, 50] : List UInt8) ≠ [0, 2, 0, 1, 97, 98, 49, 2, 1, 0, 1, 99, 50]) = false := rfl
  simp only [e13, s_neq, c3, wd, List.getElem?_toArray, List.getElem?_cons_zero, List.getElem?_cons_succ]
  refine callA_of NewMem_e fun r h3 ⟨pm, qm, e, a1, a2, a3, a4, a5, a6, a7, a8, s3⟩ f3 => ?_
  subst e
  have c4 : binPtrA .eql (.pointer (some ⟨pm, 0, none⟩)) (.pointer none) = some (.bool false) := rfl
  simp only [ptr, c4, wd, List.getElem?_toArray, List.getElem?_cons_zero, List.getElem?_cons_succ]
  refine callA_of (MemAll_e _ (by simp [junk]) rfl) fun r h4 ⟨qa, e, b1, b2, b3, s4⟩ f4 => ?_
  subst e
  have c5 : binFnA .eql (.func (.func n_run_Mem_All_S1) #[] #[ptr qa]) .nilFunc = some (.bool false) := rfl
  simp only [c5, wd, List.getElem?_toArray, List.getElem?_cons_zero, List.getElem?_cons_succ]
  have em : ByteArray.empty = str ([] : Key) := rfl
  rw [em]
  refine callA_of (Scan_spec _ (by simp [junk]) rfl [] []) fun r h5 ⟨r1, r2, r3, e, d1, d2, d3, d4, d5, d6, d7, d8, d9, s5⟩ f5 => ?_
  subst e
  have c6 : binFnA .eql (.func (.func n_run_Run_Scan_S1) #[] #[ptr r1, ptr r2, ptr r3]) .nilFunc = some (.bool false) := rfl
  simp only [c6, wd, List.getElem?_toArray, List.getElem?_cons_zero, List.getElem?_cons_succ]
  have s25 : Step h2 h5 [] [] := s3.trans (s4.trans s5)
  have m5 := m2.frame s25 (by simp)
  have e98 : (⟨#[97, 98, 99]⟩ : ByteArray) = str [97, 98, 99] := rfl
  rw [e98]
  refine callA_of (Get_spec m5 [97, 98, 99]) fun r h6 ⟨e, s6⟩ f6 => ?_
  subst e
  rw [ab_get]
  simp only [Option.isSome, wd, List.getElem?_toArray, List.getElem?_cons_zero, List.getElem?_cons_succ, newA_iff, eo]
  have hcell : ∀ v, v ∈ zE → isCell v = true := by simp [zE, isCell]
  refine ⟨hcell, ?_⟩
  have fb := f6.base
  refine storeNA_whole (cs := zE) fb (by simp [zE, str_empty]) rfl rfl ?_
  refine loadNA_whole (cs := ee ⟨[97, 98, 99], [50], false⟩) fb (by simp) rfl ?_
  simp only [buildA_iff, fillA_one, fillA_nil, List.set_cons_zero, List.set_cons_succ]
  refine ⟨rfl, by simp, rfl, by simp, ?_⟩
  have hagg : (Value.agg #[.string (str [97, 98, 99]), .string ⟨#[50]⟩, .bool false]) = .agg (ee ⟨[97, 98, 99], [50], false⟩).toArray := rfl
  simp only [hagg, eqEnt w0, wd, List.getElem?_toArray, List.getElem?_cons_zero, List.getElem?_cons_succ]
  have sx : Step h6 ((h6.new zE 3).put h6.next (ee ⟨[97, 98, 99], [50], false⟩)) [] [h6.next] := ((Step.refl h6 [] (by simp)).new _ _).put (by simp) _
  have m7 := (m5.frame s6 (by simp)).frame sx (by simp)
  show callA _ _ _ _ _ ((h6.new zE 3).put h6.next (ee ⟨[97, 98, 99], [50], false⟩))
  generalize (h6.new zE 3).put h6.next (ee ⟨[97, 98, 99], [50], false⟩) = h7 at *
  refine callA_of (Len_spec m7) fun r h8 ⟨e, e'⟩ f8 => ?_
  subst e e'
  have c7 : (((ab0.length : Nat) : Int) == 2) = true := rfl
  simp only [c7, wd, List.getElem?_toArray, List.getElem?_cons_zero, List.getElem?_cons_succ]
  refine callA_of (Blocks_spec m7) fun r h8 ⟨e, e'⟩ f8 => ?_
  subst e e'
  have c8 : ((((grp 256 ab0).length : Nat) : Int) == 1) = true := by rw [ab_grp]; rfl
  simp only [c8, wd, List.getElem?_toArray, List.getElem?_cons_zero, List.getElem?_cons_succ, retA_iff, oneOf_one]
  exact ⟨by simp, trivial, (s0.less (T := []) (by simp)).trans ((s1.less (T := []) (by simp)).trans ((s2.less (T := []) (by simp)).trans (s25.trans (s6.trans (sx.less (by simp))))))⟩
end
end Go.Proofs.Ythjpddggnhgjhaa.Ah
