/- CodecNobody, proved: the second form: it returns true, where what it reads is of bulk at most 1048576. -/
import Derived.Test.YtilofpnhpeammaaRows
import Derived.Test.YtilofpnhpeammaaLnobody
import Derived.Test.YtilofpnhpeammaaAh19
import Derived.Test.YtilofpnhpeammaaAh22
set_option linter.unusedVariables false
set_option linter.unusedSimpArgs false
namespace Go.Proofs.Ytilofpnhpeammaa.nobody
open Go Go.ChangeShapes Go.WideShapes Go.ChangeAt Go.RowKit Go.ChangeMaps Go.Proofs.Ytilofpnhpeammaa.Ah

theorem own : ownKnob Try.prog.godebug = none := by kernel_rfl
theorem laidOut : laidOutB Try.prog = true := by kernel_rfl
theorem dec0 (W : World) : dOp.Of Try.prog W 41 3 :=
  Dec.Of.map (D := dStruct (dPair (dInt .i64) (dPair (dNat .u64) (dPair (dStr) (dUnit))))) (dStruct_of Try.underlying41 (by kernel_rfl) (dPair_of rfl (dInt_of Try.underlying3 (by kernel_rfl)) (dPair_of rfl (dNat_of rfl Try.underlying22 (by kernel_rfl)) (dPair_of rfl (dStr_of Try.underlying9 (by kernel_rfl)) dUnit_of)))) (fun a => ⟨a.1, a.2.1, a.2.2.1⟩) (fun _ => rfl) (fun a h => by simp only [dPair, dStruct, dInt, dNat, dStr, dBool, dUnit, dOp, IntKind.min, IntKind.max, IntKind.signed, IntKind.bits] at h ⊢; simp at h ⊢; omega) (fun a => by simp [dPair, dStruct, dInt, dNat, dStr, dBool, dUnit, dOp]; try omega) (fun _ => rfl) (fun b _ v hv => by
    simp [dOp, Opt.e] at hv
    rcases hv with rfl | rfl | rfl <;> first | exact clC_int _ _ _ | exact clC_string _ _ | exact clC_bool _ _)

theorem contract (H : Type) (enc : TypeId × Value → H) (W : World) (base : Nat) (args : Array Value) (ds gs : List (DataW H)) (before : List MemPlace)
    (hval : ∀ (j : Nat) t v, Try.f10.params[j]? = some t → args[j]? = some v → Value.okWide Try.prog W .any base t v)
    (hW : DataW.Whole enc Try.prog Try.f10.params.toList Rows.codecNobodySpec.vars false W args.toList ds gs before) (hk : Rows.uptoSmall H (ds ++ gs) = true) :
    Calls Try.prog 10 args W fun e W' => ∃ v, e = .returned v ∧ Rows.codecNobodySpec.post enc Try.prog Try.f10 false true false false W args v W' := by
  have hW' := hW
  obtain ⟨p, q, hA0, hV, rfl, hfz, hnd⟩ := hW
  have hA : DataW.TrodAll enc Try.prog W 0 (fun _ => true) true Try.f10.params.toList args.toList ds p := hA0
  rw [Try.params10] at hA hval
  obtain ⟨v0, d0, rfl, rfl, h0⟩ := trodAll_one hA
  obtain ⟨rfl, rfl⟩ := trodVars_none hV
  obtain ⟨o, rfl, oo, bo⟩ := open_st Try.underlying41 (dec0 W) (hval 0 41 v0 rfl rfl) h0
  clear hA0
  have hb := of_decide_eq_true hk
  simp only [Rows.uptoBulkAll, Rows.uptoBulk, List.append_nil] at hb

  have hc := CodecNobody_spec (w0 := W) (h := hp0 W) o oo (by simp only [dOp] at bo; omega)
  refine (calls_of_acalls (P := Try.prog) (f := 10) (args := #[.agg (dOp.e o).toArray]) ?_ hc).mono fun e W' ⟨he, hB⟩ => ?_
  · intro v hv
    simp at hv
    subst hv
    exact clAgg ((dec0 W).cl _ oo)
  · subst he
    exact ⟨_, rfl, post_below laidOut (by kernel_rfl) (by kernel_rfl) Try.underlying4 hW' rfl rfl hB⟩

set_option maxRecDepth 100000 in
theorem lifted (os : Os) (started : os.Started) (H : Type) (enc : TypeId × Value → H) (F : Stop.Interp) :
    ReturnsInHanded {} Try.checked os 10 .any ((Rows.OpenSpec.upto Rows.codecNobodySpec).pre6 enc Try.prog Try.f10 Rows.codecNobodyUptoRow.domain false) (((Rows.OpenSpec.upto Rows.codecNobodySpec).at F).post enc Try.prog Try.f10 false true false false) := by
  refine returnsInHanded_of_cond (C := Try.checked) (s := Rows.OpenSpec.upto Rows.codecNobodySpec) (k := Rows.uptoSmall) rfl own started (by kernel_rfl) Try.func10
    (OpenSpec.witness (enc := enc) (C := Try.checked) (s := Rows.OpenSpec.upto Rows.codecNobodySpec) (k := Rows.uptoSmall) rfl false ⟨#[], #[.agg #[(.int .i64 0), (.int .u64 0), (.string ⟨#[]⟩)]], []⟩ 8 (by kernel_rfl) (by kernel_rfl) (by kernel_rfl)
      (x := ([.agg [.lit (.int .i64 0), .lit (.int .u64 0), .lit (.string [])]], [], [])) (by kernel_rfl) rfl (by kernel_rfl)) ?_
  intro W base args ds gs before hval hW _ hk _
  exact contract H enc W base args ds gs before hval hW hk

theorem over : Rows.codecNobodyUptoRow.holds Try.pinned (Rows.OpenSpec.upto Rows.codecNobodySpec) :=
  OpenClaim.holds_of_cond 10 Try.f10 rfl rfl rfl rfl rfl rfl rfl ⟨rfl, rfl, rfl, rfl, rfl⟩ rfl rfl rfl rfl rfl (by kernel_rfl) Try.func10 (by kernel_rfl)
    (of_decide_eq_true (by kernel_rfl)) (by unfold Func.isWrapper; first | (rw [if_pos (by decide +kernel)]; kernel_rfl) | (rw [if_neg (by decide +kernel)]; exact ⟨rfl, rfl⟩))
    (fun os started H enc _ F => lifted os started H enc F)

theorem proved : Rows.CodecNobodyUptoSaid :=
  over
end Go.Proofs.Ytilofpnhpeammaa.nobody
