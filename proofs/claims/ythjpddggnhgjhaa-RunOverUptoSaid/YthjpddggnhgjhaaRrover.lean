/- RunOver, proved: the second form: it returns true, where what it reads is of bulk at most 1048576. -/
import Derived.Test.YthjpddggnhgjhaaRows
import Derived.Test.YthjpddggnhgjhaaExq
import Derived.Test.YthjpddggnhgjhaaAh19
import Derived.Test.YthjpddggnhgjhaaAh22
set_option linter.unusedVariables false
set_option linter.unusedSimpArgs false
namespace Go.Proofs.Ythjpddggnhgjhaa.rover
open Go Go.ChangeShapes Go.WideShapes Go.ChangeAt Go.RowKit Go.ChangeMaps Go.Proofs.Ythjpddggnhgjhaa.Ah

theorem own : ownKnob Try.prog.godebug = none := by kernel_rfl
theorem laidOut : laidOutB Try.prog = true := by kernel_rfl
set_option maxRecDepth 100000 in
theorem dec0 (W : World) : dEnt.Of Try.prog W 41 3 :=
  Dec.Of.map (D := dStruct (dPair (dStr) (dPair (dStr) (dPair (dBool) (dUnit))))) (dStruct_of Try.underlying41 (by kernel_rfl) (dPair_of rfl (dStr_of Try.underlying9 (by kernel_rfl)) (dPair_of rfl (dStr_of Try.underlying9 (by kernel_rfl)) (dPair_of rfl (dBool_of Try.underlying4 (by kernel_rfl)) dUnit_of)))) (fun x => (⟨x.1, x.2.1, x.2.2.1⟩ : Ent)) (fun _ => rfl) (fun a h => by simp only [dPair, dStruct, dInt, dNat, dStr, dBool, dUnit, dEnt, IntKind.min, IntKind.max, IntKind.signed, IntKind.bits] at h ⊢; try simp at h ⊢; try omega) (fun a => by simp [dPair, dStruct, dInt, dNat, dStr, dBool, dUnit, dEnt]; try omega) (fun _ => rfl) (fun b _ v hv => by
    simp [dEnt, ee] at hv
    rcases hv with rfl | rfl | rfl <;> first | exact clC_int _ _ _ | exact clC_string _ _ | exact clC_bool _ _)
set_option maxRecDepth 100000 in
theorem dec1 (W : World) : dEnt.Of Try.prog W 41 3 :=
  Dec.Of.map (D := dStruct (dPair (dStr) (dPair (dStr) (dPair (dBool) (dUnit))))) (dStruct_of Try.underlying41 (by kernel_rfl) (dPair_of rfl (dStr_of Try.underlying9 (by kernel_rfl)) (dPair_of rfl (dStr_of Try.underlying9 (by kernel_rfl)) (dPair_of rfl (dBool_of Try.underlying4 (by kernel_rfl)) dUnit_of)))) (fun x => (⟨x.1, x.2.1, x.2.2.1⟩ : Ent)) (fun _ => rfl) (fun a h => by simp only [dPair, dStruct, dInt, dNat, dStr, dBool, dUnit, dEnt, IntKind.min, IntKind.max, IntKind.signed, IntKind.bits] at h ⊢; try simp at h ⊢; try omega) (fun a => by simp [dPair, dStruct, dInt, dNat, dStr, dBool, dUnit, dEnt]; try omega) (fun _ => rfl) (fun b _ v hv => by
    simp [dEnt, ee] at hv
    rcases hv with rfl | rfl | rfl <;> first | exact clC_int _ _ _ | exact clC_string _ _ | exact clC_bool _ _)

set_option maxRecDepth 100000 in
theorem contract (H : Type) (enc : TypeId × Value → H) (W : World) (base : Nat) (args : Array Value) (ds gs : List (DataW H)) (before : List MemPlace)
    (hval : ∀ (j : Nat) t v, Try.f8.params[j]? = some t → args[j]? = some v → Value.okWide Try.prog W .any base t v)
    (hW : DataW.Whole enc Try.prog Try.f8.params.toList Rows.runOverSpec.vars false W args.toList ds gs before) (hk : Rows.uptoSmall H (ds ++ gs) = true) :
    Calls Try.prog 8 args W fun e W' => ∃ v, e = .returned v ∧ Rows.runOverSpec.post enc Try.prog Try.f8 false true false false W args v W' := by
  have hW' := hW
  obtain ⟨p, q, hA0, hV, rfl, hfz, hnd⟩ := hW
  have hA : DataW.TrodAll enc Try.prog W 0 (fun _ => true) true Try.f8.params.toList args.toList ds p := hA0
  rw [Try.params8] at hA hval
  obtain ⟨v0, v1, d0, d1, p0, p1, rfl, rfl, rfl, h0, h1⟩ := trodAll_two hA
  obtain ⟨rfl, rfl⟩ := trodVars_none hV
  obtain ⟨a, xa, oa, ba⟩ := open_sl Try.underlying22 (by omega) (dec0 W) (hval 0 22 v0 rfl rfl) h0 (fun p hp => hW'.lt _ (by simp [hp]))
  obtain ⟨b, xb, ob, bb⟩ := open_sl Try.underlying22 (by omega) (dec1 W) (hval 1 22 v1 rfl rfl) h1 (fun p hp => hW'.lt _ (by simp [hp]))
  clear hA0
  have hb := of_decide_eq_true hk
  simp only [Rows.uptoBulkAll, Rows.uptoBulk, List.append_nil] at hb

  have hc := RunOver_top (w0 := W) (h := hp0 W) xa xb (by rw [entsz_b]; omega) (by rw [entsz_b]; omega)
  refine (calls_of_acalls (P := Try.prog) (f := 8) (args := #[v0, v1]) ?_ hc).mono fun e W' ⟨he, hB⟩ => ?_
  · intro v hv
    simp at hv
    rcases hv with rfl | rfl
    · exact xa.cl
    · exact xb.cl
  · subst he
    exact ⟨_, rfl, post_below laidOut (by kernel_rfl) (by kernel_rfl) Try.underlying4 hW' rfl rfl hB⟩

set_option maxRecDepth 100000 in
theorem lifted (os : Os) (started : os.Started) (H : Type) (enc : TypeId × Value → H) (F : Stop.Interp) :
    ReturnsInHanded {} Try.checked os 8 .any ((Rows.OpenSpec.upto Rows.runOverSpec).pre6 enc Try.prog Try.f8 Rows.runOverUptoRow.domain false) (((Rows.OpenSpec.upto Rows.runOverSpec).at F).post enc Try.prog Try.f8 false true false false) := by
  refine returnsInHanded_of_cond (C := Try.checked) (s := Rows.OpenSpec.upto Rows.runOverSpec) (k := Rows.uptoSmall) rfl own started (by kernel_rfl) Try.func8
    (OpenSpec.witness (enc := enc) (C := Try.checked) (s := Rows.OpenSpec.upto Rows.runOverSpec) (k := Rows.uptoSmall) rfl false ⟨#[], #[.slice none 0 0, .slice none 0 0], []⟩ 8 (by kernel_rfl) (by kernel_rfl) (by kernel_rfl)
      (x := ([.nil, .nil], [], [])) (by kernel_rfl) rfl (by kernel_rfl)) ?_
  intro W base args ds gs before hval hW _ hk _
  exact contract H enc W base args ds gs before hval hW hk

theorem over : Rows.runOverUptoRow.holds Try.pinned (Rows.OpenSpec.upto Rows.runOverSpec) :=
  OpenClaim.holds_of_cond 8 Try.f8 rfl rfl rfl rfl rfl rfl rfl ⟨rfl, rfl, rfl, rfl, rfl⟩ rfl rfl rfl rfl rfl (by kernel_rfl) Try.func8 (by kernel_rfl)
    (of_decide_eq_true (by kernel_rfl)) (by unfold Func.isWrapper; first | (rw [if_pos (by decide +kernel)]; kernel_rfl) | (rw [if_neg (by decide +kernel)]; exact ⟨rfl, rfl⟩))
    (fun os started H enc _ F => lifted os started H enc F)

theorem proved : Rows.RunOverUptoSaid :=
  over
end Go.Proofs.Ythjpddggnhgjhaa.rover
