/- SeqMerged, proved: the second form: it returns true, where what it reads is of bulk at most 1048576. -/
import Derived.Test.YtpdpponbhejlpaaRows
import Derived.Test.YtpdpponbhejlpaaRc
import Derived.Test.YtpdpponbhejlpaaAh19
import Derived.Test.YtpdpponbhejlpaaAh22
set_option linter.unusedVariables false
set_option linter.unusedSimpArgs false
namespace Go.Proofs.Ytpdpponbhejlpaa.smerged
open Go Go.ChangeShapes Go.WideShapes Go.ChangeAt Go.RowKit Go.ChangeMaps Go.Proofs.Ytpdpponbhejlpaa.Ah

theorem own : ownKnob Try.prog.godebug = none := by kernel_rfl
theorem laidOut : laidOutB Try.prog = true := by kernel_rfl
set_option maxRecDepth 100000 in
theorem dec0 (W : World) : dItm.Of Try.prog W 49 2 :=
  Dec.Of.map (D := dStruct (dPair (dStr) (dPair (dInt .i64) (dUnit)))) (dStruct_of Try.underlying49 (by kernel_rfl) (dPair_of rfl (dStr_of Try.underlying9 (by kernel_rfl)) (dPair_of rfl (dInt_of Try.underlying3 (by kernel_rfl)) dUnit_of))) (fun x => (x.1, x.2.1)) (fun _ => rfl) (fun a h => by simp only [dPair, dStruct, dInt, dNat, dStr, dBool, dUnit, dItm, IntKind.min, IntKind.max, IntKind.signed, IntKind.bits] at h ⊢; try simp at h ⊢; try omega) (fun a => by simp [dPair, dStruct, dInt, dNat, dStr, dBool, dUnit, dItm]; try omega) (fun _ => rfl) (fun b _ v hv => by
    simp [dItm, iv] at hv
    rcases hv with rfl | rfl <;> first | exact clC_int _ _ _ | exact clC_string _ _ | exact clC_bool _ _)
set_option maxRecDepth 100000 in
theorem dec1 (W : World) : dItm.Of Try.prog W 49 2 :=
  Dec.Of.map (D := dStruct (dPair (dStr) (dPair (dInt .i64) (dUnit)))) (dStruct_of Try.underlying49 (by kernel_rfl) (dPair_of rfl (dStr_of Try.underlying9 (by kernel_rfl)) (dPair_of rfl (dInt_of Try.underlying3 (by kernel_rfl)) dUnit_of))) (fun x => (x.1, x.2.1)) (fun _ => rfl) (fun a h => by simp only [dPair, dStruct, dInt, dNat, dStr, dBool, dUnit, dItm, IntKind.min, IntKind.max, IntKind.signed, IntKind.bits] at h ⊢; try simp at h ⊢; try omega) (fun a => by simp [dPair, dStruct, dInt, dNat, dStr, dBool, dUnit, dItm]; try omega) (fun _ => rfl) (fun b _ v hv => by
    simp [dItm, iv] at hv
    rcases hv with rfl | rfl <;> first | exact clC_int _ _ _ | exact clC_string _ _ | exact clC_bool _ _)
set_option maxRecDepth 100000 in
theorem dec2 (W : World) : dItm.Of Try.prog W 49 2 :=
  Dec.Of.map (D := dStruct (dPair (dStr) (dPair (dInt .i64) (dUnit)))) (dStruct_of Try.underlying49 (by kernel_rfl) (dPair_of rfl (dStr_of Try.underlying9 (by kernel_rfl)) (dPair_of rfl (dInt_of Try.underlying3 (by kernel_rfl)) dUnit_of))) (fun x => (x.1, x.2.1)) (fun _ => rfl) (fun a h => by simp only [dPair, dStruct, dInt, dNat, dStr, dBool, dUnit, dItm, IntKind.min, IntKind.max, IntKind.signed, IntKind.bits] at h ⊢; try simp at h ⊢; try omega) (fun a => by simp [dPair, dStruct, dInt, dNat, dStr, dBool, dUnit, dItm]; try omega) (fun _ => rfl) (fun b _ v hv => by
    simp [dItm, iv] at hv
    rcases hv with rfl | rfl <;> first | exact clC_int _ _ _ | exact clC_string _ _ | exact clC_bool _ _)

set_option maxRecDepth 100000 in
theorem contract (H : Type) (enc : TypeId × Value → H) (W : World) (base : Nat) (args : Array Value) (ds gs : List (DataW H)) (before : List MemPlace)
    (hval : ∀ (j : Nat) t v, Try.f7.params[j]? = some t → args[j]? = some v → Value.okWide Try.prog W .any base t v)
    (hW : DataW.Whole enc Try.prog Try.f7.params.toList Rows.seqMergedSpec.vars false W args.toList ds gs before) (hk : Rows.uptoSmall H (ds ++ gs) = true) :
    Calls Try.prog 7 args W fun e W' => ∃ v, e = .returned v ∧ Rows.seqMergedSpec.post enc Try.prog Try.f7 false true false false W args v W' := by
  have hW' := hW
  obtain ⟨p, q, hA0, hV, rfl, hfz, hnd⟩ := hW
  have hA : DataW.TrodAll enc Try.prog W 0 (fun _ => true) true Try.f7.params.toList args.toList ds p := hA0
  rw [Try.params7] at hA hval
  obtain ⟨v0, v1, v2, d0, d1, d2, p0, p1, p2, rfl, rfl, rfl, h0, h1, h2⟩ := trodAll_three hA
  obtain ⟨rfl, rfl⟩ := trodVars_none hV
  obtain ⟨a, xa, oa, ba⟩ := open_sl Try.underlying39 (by omega) (dec0 W) (hval 0 39 v0 rfl rfl) h0 (fun p hp => hW'.lt _ (by simp [hp]))
  obtain ⟨b, xb, ob, bb⟩ := open_sl Try.underlying39 (by omega) (dec1 W) (hval 1 39 v1 rfl rfl) h1 (fun p hp => hW'.lt _ (by simp [hp]))
  obtain ⟨c, xc, oc, bc⟩ := open_sl Try.underlying39 (by omega) (dec2 W) (hval 2 39 v2 rfl rfl) h2 (fun p hp => hW'.lt _ (by simp [hp]))
  clear hA0
  have hb := of_decide_eq_true hk
  simp only [Rows.uptoBulkAll, Rows.uptoBulk, List.append_nil] at hb

  have hc := SeqMerged_top (w0 := W) (h := hp0 W) xa xb xc (by have := bulk_len dItm.b (fun _ => by simp [dItm]) a; omega) (by have := bulk_len dItm.b (fun _ => by simp [dItm]) b; omega) (by have := bulk_len dItm.b (fun _ => by simp [dItm]) c; omega)
  refine (calls_of_acalls (P := Try.prog) (f := 7) (args := #[v0, v1, v2]) ?_ hc).mono fun e W' ⟨he, hB⟩ => ?_
  · intro v hv
    simp at hv
    rcases hv with rfl | rfl | rfl
    · exact xa.cl
    · exact xb.cl
    · exact xc.cl
  · subst he
    exact ⟨_, rfl, post_below laidOut (by kernel_rfl) (by kernel_rfl) Try.underlying4 hW' rfl rfl hB⟩

set_option maxRecDepth 100000 in
theorem lifted (os : Os) (started : os.Started) (H : Type) (enc : TypeId × Value → H) (F : Stop.Interp) :
    ReturnsInHanded {} Try.checked os 7 .any ((Rows.OpenSpec.upto Rows.seqMergedSpec).pre6 enc Try.prog Try.f7 Rows.seqMergedUptoRow.domain false) (((Rows.OpenSpec.upto Rows.seqMergedSpec).at F).post enc Try.prog Try.f7 false true false false) := by
  refine returnsInHanded_of_cond (C := Try.checked) (s := Rows.OpenSpec.upto Rows.seqMergedSpec) (k := Rows.uptoSmall) rfl own started (by kernel_rfl) Try.func7
    (OpenSpec.witness (enc := enc) (C := Try.checked) (s := Rows.OpenSpec.upto Rows.seqMergedSpec) (k := Rows.uptoSmall) rfl false ⟨#[], #[.slice none 0 0, .slice none 0 0, .slice none 0 0], []⟩ 8 (by kernel_rfl) (by kernel_rfl) (by kernel_rfl)
      (x := ([.nil, .nil, .nil], [], [])) (by kernel_rfl) rfl (by kernel_rfl)) ?_
  intro W base args ds gs before hval hW _ hk _
  exact contract H enc W base args ds gs before hval hW hk

theorem over : Rows.seqMergedUptoRow.holds Try.pinned (Rows.OpenSpec.upto Rows.seqMergedSpec) :=
  OpenClaim.holds_of_cond 7 Try.f7 rfl rfl rfl rfl rfl rfl rfl ⟨rfl, rfl, rfl, rfl, rfl⟩ rfl rfl rfl rfl rfl (by kernel_rfl) Try.func7 (by kernel_rfl)
    (of_decide_eq_true (by kernel_rfl)) (by unfold Func.isWrapper; first | (rw [if_pos (by decide +kernel)]; kernel_rfl) | (rw [if_neg (by decide +kernel)]; exact ⟨rfl, rfl⟩))
    (fun os started H enc _ F => lifted os started H enc F)

theorem proved : Rows.SeqMergedUptoSaid :=
  over
end Go.Proofs.Ytpdpponbhejlpaa.smerged
