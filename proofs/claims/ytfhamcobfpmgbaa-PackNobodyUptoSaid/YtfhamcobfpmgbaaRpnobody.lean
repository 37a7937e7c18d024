/- PackNobody, proved: the second form: it returns true, where what it reads is of bulk at most 1048576. -/
import Derived.Test.YtfhamcobfpmgbaaRows
import Derived.Test.YtfhamcobfpmgbaaLpn
import Derived.Test.YtfhamcobfpmgbaaAh19
import Derived.Test.YtfhamcobfpmgbaaAh22
set_option linter.unusedVariables false
set_option linter.unusedSimpArgs false
namespace Go.Proofs.Ytfhamcobfpmgbaa.pnobody
open Go Go.ChangeShapes Go.WideShapes Go.ChangeAt Go.RowKit Go.ChangeMaps Go.Proofs.Ytfhamcobfpmgbaa.Ah

theorem own : ownKnob Try.prog.godebug = none := by kernel_rfl
theorem laidOut : laidOutB Try.prog = true := by kernel_rfl
set_option maxRecDepth 100000 in
theorem dec0 (W : World) : (dByte).Of Try.prog W 5 1 := (dByte_of Try.underlying5 (by kernel_rfl))
set_option maxRecDepth 100000 in
theorem dec1 (W : World) : dSlot.Of Try.prog W 24 2 :=
  Dec.Of.map (D := dStruct (dPair (dInt .i64) (dPair (dInt .i64) (dUnit)))) (dStruct_of Try.underlying24 (by kernel_rfl) (dPair_of rfl (dInt_of Try.underlying3 (by kernel_rfl)) (dPair_of rfl (dInt_of Try.underlying3 (by kernel_rfl)) dUnit_of))) (fun x => ⟨x.1, x.2.1⟩) (fun _ => rfl) (fun a h => by simp only [dPair, dStruct, dInt, dNat, dStr, dBool, dUnit, dSlot, IntKind.min, IntKind.max, IntKind.signed, IntKind.bits] at h ⊢; try simp at h ⊢; try omega) (fun a => by simp [dPair, dStruct, dInt, dNat, dStr, dBool, dUnit, dSlot]; try omega) (fun _ => rfl) (fun b _ v hv => by
    simp [dSlot, Slot.e] at hv
    rcases hv with rfl | rfl <;> first | exact clC_int _ _ _ | exact clC_string _ _ | exact clC_bool _ _)

set_option maxRecDepth 100000 in
theorem contract (H : Type) (enc : TypeId × Value → H) (W : World) (base : Nat) (args : Array Value) (ds gs : List (DataW H)) (before : List MemPlace)
    (hval : ∀ (j : Nat) t v, Try.f6.params[j]? = some t → args[j]? = some v → Value.okWide Try.prog W .any base t v)
    (hW : DataW.Whole enc Try.prog Try.f6.params.toList Rows.packNobodySpec.vars false W args.toList ds gs before) (hk : Rows.uptoSmall H (ds ++ gs) = true) :
    Calls Try.prog 6 args W fun e W' => ∃ v, e = .returned v ∧ Rows.packNobodySpec.post enc Try.prog Try.f6 false true false false W args v W' := by
  have hW' := hW
  obtain ⟨p, q, hA0, hV, rfl, hfz, hnd⟩ := hW
  have hA : DataW.TrodAll enc Try.prog W 0 (fun _ => true) true Try.f6.params.toList args.toList ds p := hA0
  rw [Try.params6] at hA hval
  obtain ⟨v0, v1, v2, d0, d1, d2, p0, p1, p2, rfl, rfl, rfl, h0, h1, h2⟩ := trodAll_three hA
  obtain ⟨rfl, rfl⟩ := trodVars_none hV
  obtain ⟨b, xb, ob, bb⟩ := open_sl Try.underlying22 (by omega) (dec0 W) (hval 0 22 v0 rfl rfl) h0
  obtain ⟨s, rfl, os, bs⟩ := open_st Try.underlying24 (dec1 W) (hval 1 24 v1 rfl rfl) h1
  obtain ⟨n, rfl, rfl, rfl, wn⟩ := open_int Try.underlying3 (hval 2 3 v2 rfl rfl) h2
  clear hA0
  have hb := of_decide_eq_true hk
  simp only [Rows.uptoBulkAll, Rows.uptoBulk, List.append_nil] at hb
  have xn : -9223372036854775808 ≤ n ∧ n ≤ 9223372036854775807 := by simpa [Lit.wf, IntKind.min, IntKind.max, IntKind.signed, IntKind.bits] using wn
  have hc := PackNobody_top (w0 := W) (h := hp0 W) xb s n
  refine (calls_of_acalls (P := Try.prog) (f := 6) (args := #[v0, .agg (dSlot.e s).toArray, .int .i64 n]) ?_ hc).mono fun e W' ⟨he, hB⟩ => ?_
  · intro v hv
    simp at hv
    rcases hv with rfl | rfl | rfl
    · exact xb.cl
    · exact clAgg ((dec1 W).cl _ os)
    · exact cl_int _ _ _
  · subst he
    exact ⟨_, rfl, post_below laidOut (by kernel_rfl) (by kernel_rfl) Try.underlying4 hW' rfl rfl hB⟩

set_option maxRecDepth 100000 in
theorem lifted (os : Os) (started : os.Started) (H : Type) (enc : TypeId × Value → H) (F : Stop.Interp) :
    ReturnsInHanded {} Try.checked os 6 .any ((Rows.OpenSpec.upto Rows.packNobodySpec).pre6 enc Try.prog Try.f6 Rows.packNobodyUptoRow.domain false) (((Rows.OpenSpec.upto Rows.packNobodySpec).at F).post enc Try.prog Try.f6 false true false false) := by
  refine returnsInHanded_of_cond (C := Try.checked) (s := Rows.OpenSpec.upto Rows.packNobodySpec) (k := Rows.uptoSmall) rfl own started (by kernel_rfl) Try.func6
    (OpenSpec.witness (enc := enc) (C := Try.checked) (s := Rows.OpenSpec.upto Rows.packNobodySpec) (k := Rows.uptoSmall) rfl false ⟨#[], #[.slice none 0 0, .agg #[(.int .i64 0), (.int .i64 0)], .int .i64 0], []⟩ 8 (by kernel_rfl) (by kernel_rfl) (by kernel_rfl)
      (x := ([.nil, .agg [.lit (.int .i64 0), .lit (.int .i64 0)], .lit (.int .i64 0)], [], [])) (by kernel_rfl) rfl (by kernel_rfl)) ?_
  intro W base args ds gs before hval hW _ hk _
  exact contract H enc W base args ds gs before hval hW hk

theorem over : Rows.packNobodyUptoRow.holds Try.pinned (Rows.OpenSpec.upto Rows.packNobodySpec) :=
  OpenClaim.holds_of_cond 6 Try.f6 rfl rfl rfl rfl rfl rfl rfl ⟨rfl, rfl, rfl, rfl, rfl⟩ rfl rfl rfl rfl rfl (by kernel_rfl) Try.func6 (by kernel_rfl)
    (of_decide_eq_true (by kernel_rfl)) (by unfold Func.isWrapper; first | (rw [if_pos (by decide +kernel)]; kernel_rfl) | (rw [if_neg (by decide +kernel)]; exact ⟨rfl, rfl⟩))
    (fun os started H enc _ F => lifted os started H enc F)

theorem proved : Rows.PackNobodyUptoSaid :=
  over
end Go.Proofs.Ytfhamcobfpmgbaa.pnobody
