/- LayoutOneOrOther, proved: the second form: it returns true, where what it reads is of bulk at most 1048576. -/
import Derived.Test.YtihebhdgjnibfaaRows
import Derived.Test.YtihebhdgjnibfaaLone
import Derived.Test.YtihebhdgjnibfaaAh19
import Derived.Test.YtihebhdgjnibfaaAh22
set_option linter.unusedVariables false
set_option linter.unusedSimpArgs false
namespace Go.Proofs.Ytihebhdgjnibfaa.lone
open Go Go.ChangeShapes Go.WideShapes Go.ChangeAt Go.RowKit Go.ChangeMaps Go.Proofs.Ytihebhdgjnibfaa.Ah

theorem own : ownKnob Try.prog.godebug = none := by kernel_rfl
theorem laidOut : laidOutB Try.prog = true := by kernel_rfl
set_option maxRecDepth 100000 in
theorem dec0 (W : World) : dSup.Of Try.prog W 31 12 :=
  Dec.Of.map (D := dStruct (dPair (dNat .u64) (dPair (dInt .i64) (dPair (dStruct (dPair (dInt .i64) (dPair (dInt .i64) (dPair (dInt .i64) (dPair (dInt .i64) (dPair (dStruct (dPair (dInt .i64) (dPair (dInt .i64) (dPair (dInt .i64) (dPair (dNat .u64) (dUnit)))))) (dPair (dInt .i64) (dPair (dBool) (dUnit))))))))) (dUnit))))) (dStruct_of Try.underlying31 (by kernel_rfl) (dPair_of rfl (dNat_of rfl Try.underlying22 (by kernel_rfl)) (dPair_of rfl (dInt_of Try.underlying3 (by kernel_rfl)) (dPair_of rfl (dStruct_of Try.underlying26 (by kernel_rfl) (dPair_of rfl (dInt_of Try.underlying3 (by kernel_rfl)) (dPair_of rfl (dInt_of Try.underlying3 (by kernel_rfl)) (dPair_of rfl (dInt_of Try.underlying3 (by kernel_rfl)) (dPair_of rfl (dInt_of Try.underlying3 (by kernel_rfl)) (dPair_of rfl (dStruct_of Try.underlying24 (by kernel_rfl) (dPair_of rfl (dInt_of Try.underlying3 (by kernel_rfl)) (dPair_of rfl (dInt_of Try.underlying3 (by kernel_rfl)) (dPair_of rfl (dInt_of Try.underlying3 (by kernel_rfl)) (dPair_of rfl (dNat_of rfl Try.underlying22 (by kernel_rfl)) dUnit_of))))) (dPair_of rfl (dInt_of Try.underlying3 (by kernel_rfl)) (dPair_of rfl (dBool_of Try.underlying4 (by kernel_rfl)) dUnit_of)))))))) dUnit_of)))) (fun x => ⟨(x.1 : Nat), x.2.1, ⟨x.2.2.1.1, x.2.2.1.2.1, x.2.2.1.2.2.1, x.2.2.1.2.2.2.1, x.2.2.1.2.2.2.2.1.1, x.2.2.1.2.2.2.2.1.2.1, x.2.2.1.2.2.2.2.1.2.2.1, (x.2.2.1.2.2.2.2.1.2.2.2.1 : Nat), x.2.2.1.2.2.2.2.2.1, x.2.2.1.2.2.2.2.2.2.1⟩⟩) (fun _ => rfl) (fun a h => by simp only [dPair, dStruct, dInt, dNat, dStr, dBool, dUnit, dSup, dShp, IntKind.min, IntKind.max, IntKind.signed, IntKind.bits] at h ⊢; try simp at h ⊢; try omega) (fun a => by simp [dPair, dStruct, dInt, dNat, dStr, dBool, dUnit, dSup]; try omega) (fun _ => rfl) (fun b _ v hv => by
    simp [dSup, Shp.e, Sup.e] at hv
    rcases hv with rfl | rfl | rfl | rfl | rfl | rfl | rfl | rfl | rfl | rfl | rfl | rfl <;> first | exact clC_int _ _ _ | exact clC_string _ _ | exact clC_bool _ _)
set_option maxRecDepth 100000 in
theorem dec2 (W : World) : (dByte).Of Try.prog W 5 1 := (dByte_of Try.underlying5 (by kernel_rfl))

set_option maxRecDepth 100000 in
theorem contract (H : Type) (enc : TypeId × Value → H) (W : World) (base : Nat) (args : Array Value) (ds gs : List (DataW H)) (before : List MemPlace)
    (hval : ∀ (j : Nat) t v, Try.f10.params[j]? = some t → args[j]? = some v → Value.okWide Try.prog W .any base t v)
    (hW : DataW.Whole enc Try.prog Try.f10.params.toList Rows.layoutOneOrOtherSpec.vars false W args.toList ds gs before) (hk : Rows.uptoSmall H (ds ++ gs) = true) :
    Calls Try.prog 10 args W fun e W' => ∃ v, e = .returned v ∧ Rows.layoutOneOrOtherSpec.post enc Try.prog Try.f10 false true false false W args v W' := by
  have hW' := hW
  obtain ⟨p, q, hA0, hV, rfl, hfz, hnd⟩ := hW
  have hA : DataW.TrodAll enc Try.prog W 0 (fun _ => true) true Try.f10.params.toList args.toList ds p := hA0
  rw [Try.params10] at hA hval
  obtain ⟨v0, v1, v2, d0, d1, d2, p0, p1, p2, rfl, rfl, rfl, h0, h1, h2⟩ := trodAll_three hA
  obtain ⟨rfl, rfl⟩ := trodVars_none hV
  obtain ⟨x, rfl, ox, bx⟩ := open_st Try.underlying31 (dec0 W) (hval 0 31 v0 rfl rfl) h0 (fun p hp => hW'.lt _ (by simp [hp]))
  obtain ⟨root, rfl, rfl, rfl, wroot⟩ := open_int Try.underlying3 (hval 1 3 v1 rfl rfl) h1
  obtain ⟨b, xb, ob, bb⟩ := open_sl Try.underlying34 (by omega) (dec2 W) (hval 2 34 v2 rfl rfl) h2 (fun p hp => hW'.lt _ (by simp [hp]))
  clear hA0
  have hb := of_decide_eq_true hk
  simp only [Rows.uptoBulkAll, Rows.uptoBulk, List.append_nil] at hb
  have xroot : -9223372036854775808 ≤ root ∧ root ≤ 9223372036854775807 := by simpa [Lit.wf, IntKind.min, IntKind.max, IntKind.signed, IntKind.bits] using wroot
  have hc := OneOrOther_top (w0 := W) (h := hp0 W) root (dSup_in ox) xroot xb (by have := bulk_len dByte.b (fun _ => by simp [dByte]) b; omega)
  refine (calls_of_acalls (P := Try.prog) (f := 10) (args := #[.agg (dSup.e x).toArray, .int .i64 root, v2]) ?_ hc).mono fun e W' ⟨he, hB⟩ => ?_
  · intro v hv
    simp at hv
    rcases hv with rfl | rfl | rfl
    · exact clAgg ((dec0 W).cl _ ox)
    · exact cl_int _ _ _
    · exact xb.cl
  · subst he
    exact ⟨_, rfl, post_below laidOut (by kernel_rfl) (by kernel_rfl) Try.underlying4 hW' rfl rfl hB⟩

set_option maxRecDepth 100000 in
theorem lifted (os : Os) (started : os.Started) (H : Type) (enc : TypeId × Value → H) (F : Stop.Interp) :
    ReturnsInHanded {} Try.checked os 10 .any ((Rows.OpenSpec.upto Rows.layoutOneOrOtherSpec).pre6 enc Try.prog Try.f10 Rows.layoutOneOrOtherUptoRow.domain false) (((Rows.OpenSpec.upto Rows.layoutOneOrOtherSpec).at F).post enc Try.prog Try.f10 false true false false) := by
  refine returnsInHanded_of_cond (C := Try.checked) (s := Rows.OpenSpec.upto Rows.layoutOneOrOtherSpec) (k := Rows.uptoSmall) rfl own started (by kernel_rfl) Try.func10
    (OpenSpec.witness (enc := enc) (C := Try.checked) (s := Rows.OpenSpec.upto Rows.layoutOneOrOtherSpec) (k := Rows.uptoSmall) rfl false ⟨#[], #[.agg #[(.int .u64 0), (.int .i64 0), (.int .i64 0), (.int .i64 0), (.int .i64 0), (.int .i64 0), (.int .i64 0), (.int .i64 0), (.int .i64 0), (.int .u64 0), (.int .i64 0), (.bool false)], .int .i64 0, .slice none 0 0], []⟩ 8 (by kernel_rfl) (by kernel_rfl) (by kernel_rfl)
      (x := ([.agg [.lit (.int .u64 0), .lit (.int .i64 0), .agg [.lit (.int .i64 0), .lit (.int .i64 0), .lit (.int .i64 0), .lit (.int .i64 0), .agg [.lit (.int .i64 0), .lit (.int .i64 0), .lit (.int .i64 0), .lit (.int .u64 0)], .lit (.int .i64 0), .lit (.bool false)]], .lit (.int .i64 0), .nil], [], [])) (by kernel_rfl) rfl (by kernel_rfl)) ?_
  intro W base args ds gs before hval hW _ hk _
  exact contract H enc W base args ds gs before hval hW hk

theorem over : Rows.layoutOneOrOtherUptoRow.holds Try.pinned (Rows.OpenSpec.upto Rows.layoutOneOrOtherSpec) :=
  OpenClaim.holds_of_cond 10 Try.f10 rfl rfl rfl rfl rfl rfl rfl ⟨rfl, rfl, rfl, rfl, rfl⟩ rfl rfl rfl rfl rfl (by kernel_rfl) Try.func10 (by kernel_rfl)
    (of_decide_eq_true (by kernel_rfl)) (by unfold Func.isWrapper; first | (rw [if_pos (by decide +kernel)]; kernel_rfl) | (rw [if_neg (by decide +kernel)]; exact ⟨rfl, rfl⟩))
    (fun os started H enc _ F => lifted os started H enc F)

theorem proved : Rows.LayoutOneOrOtherUptoSaid :=
  over
end Go.Proofs.Ytihebhdgjnibfaa.lone
