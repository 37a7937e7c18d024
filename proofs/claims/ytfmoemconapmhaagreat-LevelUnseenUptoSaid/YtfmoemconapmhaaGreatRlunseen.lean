/- LevelUnseen, proved: the second form: it returns true, where what it reads is of bulk at most 1048576. -/
import Derived.Test.YtfmoemconapmhaaGreatRows
import Derived.Test.YtfmoemconapmhaaGreatRxa
import Derived.Test.YtfmoemconapmhaaGreatAh19
import Derived.Test.YtfmoemconapmhaaGreatAhp
import Derived.Test.YtfmoemconapmhaaGreatAhr
set_option linter.unusedVariables false
set_option linter.unusedSimpArgs false
namespace Go.Proofs.YtfmoemconapmhaaGreat.lunseen
open Go Go.ChangeShapes Go.WideShapes Go.ChangeAt Go.RowKit Go.ChangeMaps Go.Proofs.YtfmoemconapmhaaGreat.Ah
theorem own : ownKnob Tryz.prog.godebug = none := by kernel_rfl
theorem laidOut : laidOutB Tryz.prog = true := by kernel_rfl
set_option maxRecDepth 100000 in
theorem decL (W : World) : dLOp.Of Tryz.prog W 32 5 :=
 Dec.Of.map (D := dStruct (dPair (dInt .i64) (dPair (dStr) (dPair (dStr) (dPair (dStr) (dPair (dInt .i64) (dUnit))))))) (qgw Tryz.underlying32 (by kernel_rfl) (q1p rfl (q8j Tryz.underlying3 (by kernel_rfl)) (q1p rfl (qi0 Tryz.underlying9 (by kernel_rfl)) (q1p rfl (qi0 Tryz.underlying9 (by kernel_rfl)) (q1p rfl (qi0 Tryz.underlying9 (by kernel_rfl)) (q1p rfl (q8j Tryz.underlying3 (by kernel_rfl)) qhj)))))) (fun x => (⟨x.1, x.2.1, x.2.2.1, x.2.2.2.1, x.2.2.2.2.1⟩ : LOp)) (fun _ => rfl) (fun a h => by simp only [dPair, dStruct, dInt, dNat, dStr, dBool, dUnit, dLOp, IntKind.min, IntKind.max, IntKind.signed, IntKind.bits] at h ⊢; try simp at h ⊢; try omega) (fun a => by simp [dPair, dStruct, dInt, dNat, dStr, dBool, dUnit, dLOp]; try omega) (fun _ => rfl) (fun b _ v hv => by
  simp [dLOp, LOp.e] at hv
  rcases hv with rfl | rfl | rfl | rfl | rfl <;> first | exact qsx _ _ _ | exact qpt _ _ | exact q07e _ _)
set_option maxRecDepth 100000 in
theorem dec0 (W : World) : (dStruct (dPair (dStruct (dPair (dInt .i64) (dPair (dInt .i64) (dPair (dInt .i64) (dUnit))))) (dPair (dSls W 5 dLOp) (dUnit)))).Of Tryz.prog W 26 4 := (qgw Tryz.underlying26 (by kernel_rfl) (q1p rfl (qgw Tryz.underlying23 (by kernel_rfl) (q1p rfl (q8j Tryz.underlying3 (by kernel_rfl)) (q1p rfl (q8j Tryz.underlying3 (by kernel_rfl)) (q1p rfl (q8j Tryz.underlying3 (by kernel_rfl)) qhj)))) (q1p rfl (q080 Tryz.underlying24 (by kernel_rfl) (by omega) (decL W)) qhj)))
set_option maxRecDepth 100000 in
theorem contract (H : Type) (enc : TypeId × Value → H) (W : World) (base : Nat) (args : Array Value) (ds gs : List (DataW H)) (before : List MemPlace)
  (hval : ∀ (j : Nat) t v, Tryz.f3.params[j]? = some t → args[j]? = some v → Value.okWide Tryz.prog W .any base t v)
  (hW : DataW.Whole enc Tryz.prog Tryz.f3.params.toList Rows.levelUnseenSpec.vars false W args.toList ds gs before) (hk : Rows.uptoSmall H (ds ++ gs) = true) :
  Calls Tryz.prog 3 args W fun e W' => ∃ v, e = .returned v ∧ Rows.levelUnseenSpec.post enc Tryz.prog Tryz.f3 false true false false W args v W' := by
 have hW' := hW
 obtain ⟨p, q, hA0, hV, rfl, hfz, hnd⟩ := hW
 have hA : DataW.TrodAll enc Tryz.prog W 0 (fun _ => true) true Tryz.f3.params.toList args.toList ds p := hA0
 rw [Tryz.params3] at hA hval
 obtain ⟨v0, d0, rfl, rfl, h0⟩ := trodAll_one hA
 obtain ⟨rfl, rfl⟩ := trodVars_none hV
 obtain ⟨s, rfl, os, bs⟩ := q07q Tryz.underlying26 (dec0 W) (hval 0 26 v0 rfl rfl) h0 (fun p hp => hW'.lt _ (by simp [hp]))
 clear hA0
 have hb := of_decide_eq_true hk
 simp only [Rows.uptoBulkAll, Rows.uptoBulk, List.append_nil] at hb
 have hc := qyy (w0 := W) (h := hp0 W) (b := s.1.1) (f := s.1.2.1) (t := s.1.2.2.1) (v := s.2.1.1) (l := s.2.1.2) os.2.1.1 (by simp only [dStruct, dPair, dSls, dInt, dUnit] at bs; have h1 := q06n dLOp.b (fun o => by show 1 ≤ _; simp only [dLOp]; omega) s.2.1.2; omega) (by simp only [dStruct, dPair, dSls, dInt, dUnit] at bs; rw [q09i]; omega)
 refine (qz4 (P := Tryz.prog) (f := 3) (args := #[.agg ((dStruct (dPair (dStruct (dPair (dInt .i64) (dPair (dInt .i64) (dPair (dInt .i64) (dUnit))))) (dPair (dSls W 5 dLOp) (dUnit)))).e s).toArray]) ?_ hc).mono fun e W' ⟨he, hB⟩ => ?_
 ·intro v hv
  simp at hv
  subst hv
  exact clAgg ((dec0 W).cl _ os)
 ·subst he
  exact ⟨_, rfl, q03p laidOut (by kernel_rfl) (by kernel_rfl) Tryz.underlying4 hW' rfl rfl hB⟩
set_option maxRecDepth 100000 in
theorem lifted (os : Os) (started : os.Started) (H : Type) (enc : TypeId × Value → H) (F : Stop.Interp) :
  ReturnsInHanded {} Tryz.checked os 3 .any ((Rows.OpenSpec.upto Rows.levelUnseenSpec).pre6 enc Tryz.prog Tryz.f3 Rows.levelUnseenUptoRow.domain false) (((Rows.OpenSpec.upto Rows.levelUnseenSpec).at F).post enc Tryz.prog Tryz.f3 false true false false) := by
 refine returnsInHanded_of_cond (C := Tryz.checked) (s := Rows.OpenSpec.upto Rows.levelUnseenSpec) (k := Rows.uptoSmall) rfl own started (by kernel_rfl) Tryz.func3
  (OpenSpec.witness (enc := enc) (C := Tryz.checked) (s := Rows.OpenSpec.upto Rows.levelUnseenSpec) (k := Rows.uptoSmall) rfl false ⟨#[], #[.agg #[(.int .i64 0), (.int .i64 0), (.int .i64 0), (.slice none 0 0)]], []⟩ 8 (by kernel_rfl) (by kernel_rfl) (by kernel_rfl)
   (x := ([.agg [.agg [.lit (.int .i64 0), .lit (.int .i64 0), .lit (.int .i64 0)], .nil]], [], [])) (by kernel_rfl) rfl (by kernel_rfl)) ?_
 intro W base args ds gs before hval hW _ hk _
 exact contract H enc W base args ds gs before hval hW hk
theorem over : Rows.levelUnseenUptoRow.holds Tryz.pinned (Rows.OpenSpec.upto Rows.levelUnseenSpec) :=
 OpenClaim.holds_of_cond 3 Tryz.f3 rfl rfl rfl rfl rfl rfl rfl ⟨rfl, rfl, rfl, rfl, rfl⟩ rfl rfl rfl rfl rfl (by kernel_rfl) Tryz.func3 (by kernel_rfl)
  (of_decide_eq_true (by kernel_rfl)) (by unfold Func.isWrapper; first | (rw [if_pos (by decide +kernel)]; kernel_rfl) | (rw [if_neg (by decide +kernel)]; exact ⟨rfl, rfl⟩))
  (fun os started H enc _ F => lifted os started H enc F)
theorem proved : Rows.LevelUnseenUptoSaid :=
 over
end Go.Proofs.YtfmoemconapmhaaGreat.lunseen
