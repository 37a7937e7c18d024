/- CodecTurned, proved: the second form: it returns true, where what it reads is of bulk at most 1048576. -/
import Derived.Test.YtilofpnhpeammaaRows
import Derived.Test.YtilofpnhpeammaaLturned
import Derived.Test.YtilofpnhpeammaaAh19
import Derived.Test.YtilofpnhpeammaaAh22
set_option linter.unusedVariables false
set_option linter.unusedSimpArgs false
namespace Go.Proofs.Ytilofpnhpeammaa.turned
open Go Go.ChangeShapes Go.WideShapes Go.ChangeAt Go.RowKit Go.ChangeMaps Go.Proofs.Ytilofpnhpeammaa.Ah

theorem own : ownKnob Try.prog.godebug = none := by kernel_rfl
theorem laidOut : laidOutB Try.prog = true := by kernel_rfl
theorem dec0 (W : World) : dTurning.Of Try.prog W 73 4 :=
  Dec.Of.map (D := dStruct (dPair (dNat .u8) (dPair (dStr) (dPair (dInt .i64) (dPair (dNat .u32) (dUnit)))))) (dStruct_of Try.underlying73 (by kernel_rfl) (dPair_of rfl (dNat_of rfl Try.underlying5 (by kernel_rfl)) (dPair_of rfl (dStr_of Try.underlying9 (by kernel_rfl)) (dPair_of rfl (dInt_of Try.underlying3 (by kernel_rfl)) (dPair_of rfl (dNat_of rfl Try.underlying59 (by kernel_rfl)) dUnit_of))))) (fun x => ⟨x.1, x.2.1, x.2.2.1, x.2.2.2.1⟩) (fun _ => rfl) (fun a h => by simp only [dPair, dStruct, dInt, dNat, dStr, dBool, dUnit, dTurning, IntKind.min, IntKind.max, IntKind.signed, IntKind.bits] at h ⊢; simp at h ⊢; omega) (fun a => by simp [dPair, dStruct, dInt, dNat, dStr, dBool, dUnit, dTurning]; try omega) (fun _ => rfl) (fun b _ v hv => by
    simp [dTurning, Turning.e] at hv
    rcases hv with rfl | rfl | rfl | rfl <;> first | exact clC_int _ _ _ | exact clC_string _ _ | exact clC_bool _ _)

theorem contract (H : Type) (enc : TypeId × Value → H) (W : World) (base : Nat) (args : Array Value) (ds gs : List (DataW H)) (before : List MemPlace)
    (hval : ∀ (j : Nat) t v, Try.f13.params[j]? = some t → args[j]? = some v → Value.okWide Try.prog W .any base t v)
    (hW : DataW.Whole enc Try.prog Try.f13.params.toList Rows.codecTurnedSpec.vars false W args.toList ds gs before) (hk : Rows.uptoSmall H (ds ++ gs) = true) :
    Calls Try.prog 13 args W fun e W' => ∃ v, e = .returned v ∧ Rows.codecTurnedSpec.post enc Try.prog Try.f13 false true false false W args v W' := by
  have hW' := hW
  obtain ⟨p, q, hA0, hV, rfl, hfz, hnd⟩ := hW
  have hA : DataW.TrodAll enc Try.prog W 0 (fun _ => true) true Try.f13.params.toList args.toList ds p := hA0
  rw [Try.params13] at hA hval
  obtain ⟨v0, d0, rfl, rfl, h0⟩ := trodAll_one hA
  obtain ⟨rfl, rfl⟩ := trodVars_none hV
  obtain ⟨o, rfl, oo, bo⟩ := open_st Try.underlying73 (dec0 W) (hval 0 73 v0 rfl rfl) h0
  clear hA0
  have hb := of_decide_eq_true hk
  simp only [Rows.uptoBulkAll, Rows.uptoBulk, List.append_nil] at hb

  have hc := CodecTurned_spec (w0 := W) (h := hp0 W) o oo (by simp only [dTurning] at bo; omega)
  refine (calls_of_acalls (P := Try.prog) (f := 13) (args := #[.agg (dTurning.e o).toArray]) ?_ hc).mono fun e W' ⟨he, hB⟩ => ?_
  · intro v hv
    simp at hv
    subst hv
    exact clAgg ((dec0 W).cl _ oo)
  · subst he
    exact ⟨_, rfl, post_below laidOut (by kernel_rfl) (by kernel_rfl) Try.underlying4 hW' rfl rfl hB⟩

set_option maxRecDepth 100000 in
theorem lifted (os : Os) (started : os.Started) (H : Type) (enc : TypeId × Value → H) (F : Stop.Interp) :
    ReturnsInHanded {} Try.checked os 13 .any ((Rows.OpenSpec.upto Rows.codecTurnedSpec).pre6 enc Try.prog Try.f13 Rows.codecTurnedUptoRow.domain false) (((Rows.OpenSpec.upto Rows.codecTurnedSpec).at F).post enc Try.prog Try.f13 false true false false) := by
  refine returnsInHanded_of_cond (C := Try.checked) (s := Rows.OpenSpec.upto Rows.codecTurnedSpec) (k := Rows.uptoSmall) rfl own started (by kernel_rfl) Try.func13
    (OpenSpec.witness (enc := enc) (C := Try.checked) (s := Rows.OpenSpec.upto Rows.codecTurnedSpec) (k := Rows.uptoSmall) rfl false ⟨#[], #[.agg #[(.int .u8 0), (.string ⟨#[]⟩), (.int .i64 0), (.int .u32 0)]], []⟩ 8 (by kernel_rfl) (by kernel_rfl) (by kernel_rfl)
      (x := ([.agg [.lit (.int .u8 0), .lit (.string []), .lit (.int .i64 0), .lit (.int .u32 0)]], [], [])) (by kernel_rfl) rfl (by kernel_rfl)) ?_
  intro W base args ds gs before hval hW _ hk _
  exact contract H enc W base args ds gs before hval hW hk

theorem over : Rows.codecTurnedUptoRow.holds Try.pinned (Rows.OpenSpec.upto Rows.codecTurnedSpec) :=
  OpenClaim.holds_of_cond 13 Try.f13 rfl rfl rfl rfl rfl rfl rfl ⟨rfl, rfl, rfl, rfl, rfl⟩ rfl rfl rfl rfl rfl (by kernel_rfl) Try.func13 (by kernel_rfl)
    (of_decide_eq_true (by kernel_rfl)) (by unfold Func.isWrapper; first | (rw [if_pos (by decide +kernel)]; kernel_rfl) | (rw [if_neg (by decide +kernel)]; exact ⟨rfl, rfl⟩))
    (fun os started H enc _ F => lifted os started H enc F)

theorem proved : Rows.CodecTurnedUptoSaid :=
  over
end Go.Proofs.Ytilofpnhpeammaa.turned
