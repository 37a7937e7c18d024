/- RunMerges, proved: the second form: it returns true, where what it reads is of bulk at most 1048576. -/
import Derived.Test.YthjpddggnhgjhaaRows
import Derived.Test.YthjpddggnhgjhaaExr
import Derived.Test.YthjpddggnhgjhaaAh33
import Derived.Test.YthjpddggnhgjhaaAh19
import Derived.Test.YthjpddggnhgjhaaAhp
set_option linter.unusedVariables false
set_option linter.unusedSimpArgs false
namespace Go.Proofs.Ythjpddggnhgjhaa.rmerges
open Go Go.ChangeShapes Go.WideShapes Go.ChangeAt Go.RowKit Go.ChangeMaps Go.Proofs.Ythjpddggnhgjhaa.Ah

theorem own : ownKnob Try.prog.godebug = none := by kernel_rfl
theorem laidOut : laidOutB Try.prog = true := by kernel_rfl
set_option maxRecDepth 100000 in
theorem dec0 (W : World) : dEnt.Of Try.prog W 41 3 :=
  Dec.Of.map (D := dStruct (dPair (dStr) (dPair (dStr) (dPair (dBool) (dUnit))))) (dStruct_of Try.underlying41 (by kernel_rfl) (dPair_of rfl (dStr_of Try.underlying9 (by kernel_rfl)) (dPair_of rfl (dStr_of Try.underlying9 (by kernel_rfl)) (dPair_of rfl (dBool_of Try.underlying4 (by kernel_rfl)) dUnit_of)))) (fun x => (⟨x.1, x.2.1, x.2.2.1⟩ : Ent)) (fun _ => rfl) (fun a h => by simp only [dPair, dStruct, dInt, dNat, dStr, dBool, dUnit, dEnt, IntKind.min, IntKind.max, IntKind.signed, IntKind.bits] at h ⊢; try simp at h ⊢; try omega) (fun a => by simp [dPair, dStruct, dInt, dNat, dStr, dBool, dUnit, dEnt]; try omega) (fun _ => rfl) (fun b _ v hv => by
    simp [dEnt, ee] at hv
    rcases hv with rfl | rfl | rfl <;> first | exact clC_int _ _ _ | exact clC_string _ _ | exact clC_bool _ _)

set_option maxRecDepth 100000 in
theorem contract (H : Type) (enc : TypeId × Value → H) (W : World) (base : Nat) (args : Array Value) (ds gs : List (DataW H)) (before : List MemPlace)
    (hval : ∀ (j : Nat) t v, Try.f6.params[j]? = some t → args[j]? = some v → Value.okWide Try.prog W .any base t v)
    (hW : DataW.Whole enc Try.prog Try.f6.params.toList Rows.runMergesSpec.vars false W args.toList ds gs before) (hk : Rows.uptoSmall H (ds ++ gs) = true) :
    Calls Try.prog 6 args W fun e W' => ∃ v, e = .returned v ∧ Rows.runMergesSpec.post enc Try.prog Try.f6 false true false false W args v W' := by
  have hW' := hW
  obtain ⟨p, q, hA0, hV, rfl, hfz, hnd⟩ := hW
  have hA : DataW.TrodAll enc Try.prog W 0 (fun _ => true) true Try.f6.params.toList args.toList ds p := hA0
  rw [Try.params6] at hA hval
  obtain ⟨v0, v1, d0, d1, p0, p1, rfl, rfl, rfl, h0, h1⟩ := trodAll_two hA
  obtain ⟨rfl, rfl⟩ := trodVars_none hV
  obtain ⟨es, xes, oes, bes⟩ := open_sl Try.underlying48 (by omega) (dSls_of Try.underlying22 (by kernel_rfl) (by omega) (dec0 W)) (hval 0 48 v0 rfl rfl) h0 (fun p hp => hW'.lt _ (by simp [hp]))
  obtain ⟨drop, rfl, rfl, rfl⟩ := open_bool Try.underlying4 (hval 1 4 v1 rfl rfl) h1
  clear hA0
  have hb := of_decide_eq_true hk
  simp only [Rows.uptoBulkAll, Rows.uptoBulk, List.append_nil] at hb
  have hfm : ∀ l : List (Value × List Ent), l.flatMap (dSls W 3 dEnt).e = l.map (·.1) := by
    intro l
    induction l with
    | nil => rfl
    | cons a t ih => rw [List.flatMap_cons, ih]; rfl
  rw [hfm] at xes
  have hb2 : ∀ p : Value × List Ent, p ∈ es → entsz p.2 ≤ 1048576 := fun p hp => by
    have := bulk_mem (dSls W 3 dEnt).b hp
    have e : (dSls W 3 dEnt).b p = entsz p.2 + 1 := rfl
    omega
  have hsm : ∀ l : List (Value × List Ent), (l.map fun p => p.2.length).sum ≤ (l.map (dSls W 3 dEnt).b).sum := by
    intro l
    induction l with
    | nil => simp
    | cons a t ih =>
      have h4 := entsz_len a.2
      have e : (dSls W 3 dEnt).b a = entsz a.2 + 1 := rfl
      simp only [List.map_cons, List.sum_cons]
      omega
  have hc := RunMerges_top (w0 := W) (h := hp0 W) drop xes (fun p hp => ⟨(oes p hp).1, hb2 p hp⟩) (by have := bulk_len (dSls W 3 dEnt).b (fun _ => by simp [dSls]) es; omega) (by have := hsm es; omega)
  refine (calls_of_acalls (P := Try.prog) (f := 6) (args := #[v0, .bool drop]) ?_ hc).mono fun e W' ⟨he, hB⟩ => ?_
  · intro v hv
    simp at hv
    rcases hv with rfl | rfl
    · exact xes.cl
    · exact cl_bool _ _
  · subst he
    exact ⟨_, rfl, post_below laidOut (by kernel_rfl) (by kernel_rfl) Try.underlying4 hW' rfl rfl hB⟩

set_option maxRecDepth 100000 in
theorem lifted (os : Os) (started : os.Started) (H : Type) (enc : TypeId × Value → H) (F : Stop.Interp) :
    ReturnsInHanded {} Try.checked os 6 .any ((Rows.OpenSpec.upto Rows.runMergesSpec).pre6 enc Try.prog Try.f6 Rows.runMergesUptoRow.domain false) (((Rows.OpenSpec.upto Rows.runMergesSpec).at F).post enc Try.prog Try.f6 false true false false) := by
  refine returnsInHanded_of_cond (C := Try.checked) (s := Rows.OpenSpec.upto Rows.runMergesSpec) (k := Rows.uptoSmall) rfl own started (by kernel_rfl) Try.func6
    (OpenSpec.witness (enc := enc) (C := Try.checked) (s := Rows.OpenSpec.upto Rows.runMergesSpec) (k := Rows.uptoSmall) rfl false ⟨#[], #[.slice none 0 0, .bool false], []⟩ 8 (by kernel_rfl) (by kernel_rfl) (by kernel_rfl)
      (x := ([.nil, .lit (.bool false)], [], [])) (by kernel_rfl) rfl (by kernel_rfl)) ?_
  intro W base args ds gs before hval hW _ hk _
  exact contract H enc W base args ds gs before hval hW hk

theorem over : Rows.runMergesUptoRow.holds Try.pinned (Rows.OpenSpec.upto Rows.runMergesSpec) :=
  OpenClaim.holds_of_cond 6 Try.f6 rfl rfl rfl rfl rfl rfl rfl ⟨rfl, rfl, rfl, rfl, rfl⟩ rfl rfl rfl rfl rfl (by kernel_rfl) Try.func6 (by kernel_rfl)
    (of_decide_eq_true (by kernel_rfl)) (by unfold Func.isWrapper; first | (rw [if_pos (by decide +kernel)]; kernel_rfl) | (rw [if_neg (by decide +kernel)]; exact ⟨rfl, rfl⟩))
    (fun os started H enc _ F => lifted os started H enc F)

theorem proved : Rows.RunMergesUptoSaid :=
  over
end Go.Proofs.Ythjpddggnhgjhaa.rmerges
