/- PackBack, proved: the second form: it returns true, where what it reads is of bulk at most 1048576. -/
import Derived.Test.YtfhamcobfpmgbaaRows
import Derived.Test.YtfhamcobfpmgbaaLpback
import Derived.Test.YtfhamcobfpmgbaaAh19
import Derived.Test.YtfhamcobfpmgbaaAh22
set_option linter.unusedVariables false
set_option linter.unusedSimpArgs false
namespace Go.Proofs.Ytfhamcobfpmgbaa.pback
open Go Go.ChangeShapes Go.WideShapes Go.ChangeAt Go.RowKit Go.ChangeMaps Go.Proofs.Ytfhamcobfpmgbaa.Ah

theorem own : ownKnob Try.prog.godebug = none := by kernel_rfl
theorem laidOut : laidOutB Try.prog = true := by kernel_rfl
set_option maxRecDepth 100000 in
theorem dec3 (W : World) : (dPOp W).Of Try.prog W 45 5 :=
  Dec.Of.map (D := dStruct (dPair (dInt .i64) (dPair (dInt .i64) (dPair (dBytes W) (dPair (dStruct (dPair (dInt .i64) (dPair (dInt .i64) (dUnit)))) (dUnit)))))) (dStruct_of Try.underlying45 (by kernel_rfl) (dPair_of rfl (dInt_of Try.underlying3 (by kernel_rfl)) (dPair_of rfl (dInt_of Try.underlying3 (by kernel_rfl)) (dPair_of rfl (dBytes_of Try.underlying22 (by kernel_rfl) Try.underlying5 (by kernel_rfl)) (dPair_of rfl (dStruct_of Try.underlying24 (by kernel_rfl) (dPair_of rfl (dInt_of Try.underlying3 (by kernel_rfl)) (dPair_of rfl (dInt_of Try.underlying3 (by kernel_rfl)) dUnit_of))) dUnit_of))))) (fun x => ⟨x.1, x.2.1, x.2.2.1.1, x.2.2.1.2, x.2.2.2.1.1, x.2.2.2.1.2.1⟩) (fun _ => rfl) (fun a h => by simp only [dPair, dStruct, dInt, dBytes, dUnit, dPOp, i64R, IntKind.min, IntKind.max, IntKind.signed, IntKind.bits] at h ⊢; simp at h ⊢; refine ⟨?_, ?_, h.2.2.1, ?_, ?_⟩ <;> omega) (fun a => by simp [dPair, dStruct, dInt, dBytes, dUnit, dPOp]; try omega) (fun _ => rfl) (fun b hb v hv => by
    simp [dPOp, POp.e] at hv
    rcases hv with rfl | rfl | rfl | rfl | rfl <;> first | exact clC_int _ _ _ | exact ⟨hb.2.2.1.cl, by obtain ⟨a, c, e, -⟩ := hb.2.2.1.sl; rw [e]; rfl⟩)

set_option maxRecDepth 100000 in
theorem contract (H : Type) (enc : TypeId × Value → H) (W : World) (base : Nat) (args : Array Value) (ds gs : List (DataW H)) (before : List MemPlace)
    (hval : ∀ (j : Nat) t v, Try.f8.params[j]? = some t → args[j]? = some v → Value.okWide Try.prog W .any base t v)
    (hW : DataW.Whole enc Try.prog Try.f8.params.toList Rows.packBackSpec.vars false W args.toList ds gs before) (hk : Rows.uptoSmall H (ds ++ gs) = true) :
    Calls Try.prog 8 args W fun e W' => ∃ v, e = .returned v ∧ Rows.packBackSpec.post enc Try.prog Try.f8 false true false false W args v W' := by
  have hW' := hW
  obtain ⟨p, q, hA0, hV, rfl, hfz, hnd⟩ := hW
  have hA : DataW.TrodAll enc Try.prog W 0 (fun _ => true) true Try.f8.params.toList args.toList ds p := hA0
  rw [Try.params8] at hA hval
  obtain ⟨v0, v1, v2, v3, d0, d1, d2, d3, p0, p1, p2, p3, rfl, rfl, rfl, h0, h1, h2, h3⟩ := trodAll_four hA
  obtain ⟨rfl, rfl⟩ := trodVars_none hV
  obtain ⟨n, rfl, rfl, rfl, wn⟩ := open_int Try.underlying3 (hval 0 3 v0 rfl rfl) h0
  obtain ⟨s, rfl, rfl, rfl, ws⟩ := open_int Try.underlying3 (hval 1 3 v1 rfl rfl) h1
  obtain ⟨id, rfl, rfl, rfl, wid⟩ := open_int Try.underlying31 (hval 2 31 v2 rfl rfl) h2
  obtain ⟨os, xos, oos, bos⟩ := open_sl Try.underlying37 (by omega) (dec3 W) (hval 3 37 v3 rfl rfl) h3 (fun p hp => hW'.lt _ (by simp [hp]))
  clear hA0
  have hb := of_decide_eq_true hk
  simp only [Rows.uptoBulkAll, Rows.uptoBulk, List.append_nil] at hb
  have xn : -9223372036854775808 ≤ n ∧ n ≤ 9223372036854775807 := by simpa [Lit.wf, IntKind.min, IntKind.max, IntKind.signed, IntKind.bits] using wn
  have xs : -9223372036854775808 ≤ s ∧ s ≤ 9223372036854775807 := by simpa [Lit.wf, IntKind.min, IntKind.max, IntKind.signed, IntKind.bits] using ws
  have xid : 0 ≤ id ∧ id ≤ 4294967295 := by simpa [Lit.wf, IntKind.min, IntKind.max, IntKind.signed, IntKind.bits] using wid
  obtain ⟨id, rfl⟩ := Int.eq_ofNat_of_zero_le xid.1
  have hc := PackBack_top (w0 := W) (h := hp0 W) n s id (by omega) (by omega) xos (fun o ho => ⟨oos o ho, by have := bulk_mem (dPOp W).b ho; simp only [dPOp] at this bos; omega⟩) (by have := bulk_len (dPOp W).b (fun _ => by simp [dPOp]) os; omega)
  refine (calls_of_acalls (P := Try.prog) (f := 8) (args := #[.int .i64 n, .int .i64 s, .int .u32 id, v3]) ?_ hc).mono fun e W' ⟨he, hB⟩ => ?_
  · intro v hv
    simp at hv
    rcases hv with rfl | rfl | rfl | rfl
    · exact cl_int _ _ _
    · exact cl_int _ _ _
    · exact cl_int _ _ _
    · exact xos.cl
  · subst he
    exact ⟨_, rfl, post_below laidOut (by kernel_rfl) (by kernel_rfl) Try.underlying4 hW' rfl rfl hB⟩

set_option maxRecDepth 100000 in
theorem lifted (os : Os) (started : os.Started) (H : Type) (enc : TypeId × Value → H) (F : Stop.Interp) :
    ReturnsInHanded {} Try.checked os 8 .any ((Rows.OpenSpec.upto Rows.packBackSpec).pre6 enc Try.prog Try.f8 Rows.packBackUptoRow.domain false) (((Rows.OpenSpec.upto Rows.packBackSpec).at F).post enc Try.prog Try.f8 false true false false) := by
  refine returnsInHanded_of_cond (C := Try.checked) (s := Rows.OpenSpec.upto Rows.packBackSpec) (k := Rows.uptoSmall) rfl own started (by kernel_rfl) Try.func8
    (OpenSpec.witness (enc := enc) (C := Try.checked) (s := Rows.OpenSpec.upto Rows.packBackSpec) (k := Rows.uptoSmall) rfl false ⟨#[], #[.int .i64 0, .int .i64 0, .int .u32 0, .slice none 0 0], []⟩ 8 (by kernel_rfl) (by kernel_rfl) (by kernel_rfl)
      (x := ([.lit (.int .i64 0), .lit (.int .i64 0), .lit (.int .u32 0), .nil], [], [])) (by kernel_rfl) rfl (by kernel_rfl)) ?_
  intro W base args ds gs before hval hW _ hk _
  exact contract H enc W base args ds gs before hval hW hk

theorem over : Rows.packBackUptoRow.holds Try.pinned (Rows.OpenSpec.upto Rows.packBackSpec) :=
  OpenClaim.holds_of_cond 8 Try.f8 rfl rfl rfl rfl rfl rfl rfl ⟨rfl, rfl, rfl, rfl, rfl⟩ rfl rfl rfl rfl rfl (by kernel_rfl) Try.func8 (by kernel_rfl)
    (of_decide_eq_true (by kernel_rfl)) (by unfold Func.isWrapper; first | (rw [if_pos (by decide +kernel)]; kernel_rfl) | (rw [if_neg (by decide +kernel)]; exact ⟨rfl, rfl⟩))
    (fun os started H enc _ F => lifted os started H enc F)

theorem proved : Rows.PackBackUptoSaid :=
  over
end Go.Proofs.Ytfhamcobfpmgbaa.pback
