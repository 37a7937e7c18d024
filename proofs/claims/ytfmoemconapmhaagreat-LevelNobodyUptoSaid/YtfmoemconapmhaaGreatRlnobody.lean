/- LevelNobody, proved: the second form: it returns true, where what it reads is of bulk at most 1048576. -/
import Derived.Test.YtfmoemconapmhaaGreatRows
import Derived.Test.YtfmoemconapmhaaGreatLxd
import Derived.Test.YtfmoemconapmhaaGreatAh19
import Derived.Test.YtfmoemconapmhaaGreatAhp
set_option linter.unusedVariables false
set_option linter.unusedSimpArgs false
namespace Go.Proofs.YtfmoemconapmhaaGreat.lnobody
open Go Go.ChangeShapes Go.WideShapes Go.ChangeAt Go.RowKit Go.ChangeMaps Go.Proofs.YtfmoemconapmhaaGreat.Ah

theorem own : ownKnob Tryz.prog.godebug = none := by kernel_rfl
theorem laidOut : laidOutB Tryz.prog = true := by kernel_rfl
set_option maxRecDepth 100000 in
theorem dec0 (W : World) : dLOp.Of Tryz.prog W 32 5 :=
  Dec.Of.map (D := dStruct (dPair (dInt .i64) (dPair (dStr) (dPair (dStr) (dPair (dStr) (dPair (dInt .i64) (dUnit))))))) (dStruct_of Tryz.underlying32 (by kernel_rfl) (dPair_of rfl (dInt_of Tryz.underlying3 (by kernel_rfl)) (dPair_of rfl (dStr_of Tryz.underlying9 (by kernel_rfl)) (dPair_of rfl (dStr_of Tryz.underlying9 (by kernel_rfl)) (dPair_of rfl (dStr_of Tryz.underlying9 (by kernel_rfl)) (dPair_of rfl (dInt_of Tryz.underlying3 (by kernel_rfl)) dUnit_of)))))) (fun x => (⟨x.1, x.2.1, x.2.2.1, x.2.2.2.1, x.2.2.2.2.1⟩ : LOp)) (fun _ => rfl) (fun a h => by simp only [dPair, dStruct, dInt, dNat, dStr, dBool, dUnit, dLOp, IntKind.min, IntKind.max, IntKind.signed, IntKind.bits] at h ⊢; try simp at h ⊢; try omega) (fun a => by simp [dPair, dStruct, dInt, dNat, dStr, dBool, dUnit, dLOp]; try omega) (fun _ => rfl) (fun b _ v hv => by
    simp [dLOp, LOp.e] at hv
    rcases hv with rfl | rfl | rfl | rfl | rfl <;> first | exact clC_int _ _ _ | exact clC_string _ _ | exact clC_bool _ _)

set_option maxRecDepth 100000 in
theorem contract (H : Type) (enc : TypeId × Value → H) (W : World) (base : Nat) (args : Array Value) (ds gs : List (DataW H)) (before : List MemPlace)
    (hval : ∀ (j : Nat) t v, Tryz.f6.params[j]? = some t → args[j]? = some v → Value.okWide Tryz.prog W .any base t v)
    (hW : DataW.Whole enc Tryz.prog Tryz.f6.params.toList Rows.levelNobodySpec.vars false W args.toList ds gs before) (hk : Rows.uptoSmall H (ds ++ gs) = true) :
    Calls Tryz.prog 6 args W fun e W' => ∃ v, e = .returned v ∧ Rows.levelNobodySpec.post enc Tryz.prog Tryz.f6 false true false false W args v W' := by
  have hW' := hW
  obtain ⟨p, q, hA0, hV, rfl, hfz, hnd⟩ := hW
  have hA : DataW.TrodAll enc Tryz.prog W 0 (fun _ => true) true Tryz.f6.params.toList args.toList ds p := hA0
  rw [Tryz.params6] at hA hval
  obtain ⟨v0, d0, rfl, rfl, h0⟩ := trodAll_one hA
  obtain ⟨rfl, rfl⟩ := trodVars_none hV
  obtain ⟨o, rfl, oo, bo⟩ := open_st Tryz.underlying32 (dec0 W) (hval 0 32 v0 rfl rfl) h0 (fun p hp => hW'.lt _ (by simp [hp]))
  clear hA0
  have hb := of_decide_eq_true hk
  simp only [Rows.uptoBulkAll, Rows.uptoBulk, List.append_nil] at hb

  have hc := LevelNobody_top (w0 := W) (h := hp0 W) o
  refine (calls_of_acalls (P := Tryz.prog) (f := 6) (args := #[.agg (dLOp.e o).toArray]) ?_ hc).mono fun e W' ⟨he, hB⟩ => ?_
  · intro v hv
    simp at hv
    subst hv
    exact clAgg ((dec0 W).cl _ oo)
  · subst he
    exact ⟨_, rfl, post_below laidOut (by kernel_rfl) (by kernel_rfl) Tryz.underlying4 hW' rfl rfl hB⟩

set_option maxRecDepth 100000 in
theorem lifted (os : Os) (started : os.Started) (H : Type) (enc : TypeId × Value → H) (F : Stop.Interp) :
    ReturnsInHanded {} Tryz.checked os 6 .any ((Rows.OpenSpec.upto Rows.levelNobodySpec).pre6 enc Tryz.prog Tryz.f6 Rows.levelNobodyUptoRow.domain false) (((Rows.OpenSpec.upto Rows.levelNobodySpec).at F).post enc Tryz.prog Tryz.f6 false true false false) := by
  refine returnsInHanded_of_cond (C := Tryz.checked) (s := Rows.OpenSpec.upto Rows.levelNobodySpec) (k := Rows.uptoSmall) rfl own started (by kernel_rfl) Tryz.func6
    (OpenSpec.witness (enc := enc) (C := Tryz.checked) (s := Rows.OpenSpec.upto Rows.levelNobodySpec) (k := Rows.uptoSmall) rfl false ⟨#[], #[.agg #[(.int .i64 0), (.string ⟨#[]⟩), (.string ⟨#[]⟩), (.string ⟨#[]⟩), (.int .i64 0)]], []⟩ 8 (by kernel_rfl) (by kernel_rfl) (by kernel_rfl)
      (x := ([.agg [.lit (.int .i64 0), .lit (.string []), .lit (.string []), .lit (.string []), .lit (.int .i64 0)]], [], [])) (by kernel_rfl) rfl (by kernel_rfl)) ?_
  intro W base args ds gs before hval hW _ hk _
  exact contract H enc W base args ds gs before hval hW hk

theorem over : Rows.levelNobodyUptoRow.holds Tryz.pinned (Rows.OpenSpec.upto Rows.levelNobodySpec) :=
  OpenClaim.holds_of_cond 6 Tryz.f6 rfl rfl rfl rfl rfl rfl rfl ⟨rfl, rfl, rfl, rfl, rfl⟩ rfl rfl rfl rfl rfl (by kernel_rfl) Tryz.func6 (by kernel_rfl)
    (of_decide_eq_true (by kernel_rfl)) (by unfold Func.isWrapper; first | (rw [if_pos (by decide +kernel)]; kernel_rfl) | (rw [if_neg (by decide +kernel)]; exact ⟨rfl, rfl⟩))
    (fun os started H enc _ F => lifted os started H enc F)

theorem proved : Rows.LevelNobodyUptoSaid :=
  over
end Go.Proofs.YtfmoemconapmhaaGreat.lnobody
