/- JournalForks, proved: the second form: it returns true, where what it reads is of bulk at most 1048576. -/
import Derived.Test.YtiakadkooclelaaRows
import Derived.Test.YtiakadkooclelaaLforks
import Derived.Test.YtiakadkooclelaaAh19
import Derived.Test.YtiakadkooclelaaAh22
set_option linter.unusedVariables false
set_option linter.unusedSimpArgs false
namespace Go.Proofs.Ytiakadkooclelaa.forks
open Go Go.ChangeShapes Go.WideShapes Go.ChangeAt Go.RowKit Go.ChangeMaps Go.Proofs.Ytiakadkooclelaa.Ah

theorem own : ownKnob Try.prog.godebug = none := by kernel_rfl
theorem laidOut : laidOutB Try.prog = true := by kernel_rfl
theorem dec3 (W : World) : dJOp.Of Try.prog W 34 2 :=
  Dec.Of.map (D := dStruct (dPair (dInt .i64) (dPair (dStr) (dUnit)))) (dStruct_of Try.underlying34 (by kernel_rfl) (dPair_of rfl (dInt_of Try.underlying3 (by kernel_rfl)) (dPair_of rfl (dStr_of Try.underlying9 (by kernel_rfl)) dUnit_of))) (fun x => ⟨x.1, x.2.1⟩) (fun _ => rfl) (fun a h => by simp only [dPair, dStruct, dInt, dNat, dStr, dBool, dUnit, dJOp, IntKind.min, IntKind.max, IntKind.signed, IntKind.bits] at h ⊢; try simp at h ⊢; try omega) (fun a => by simp [dPair, dStruct, dInt, dNat, dStr, dBool, dUnit, dJOp]; try omega) (fun _ => rfl) (fun b _ v hv => by
    simp [dJOp, JOp.e] at hv
    rcases hv with rfl | rfl <;> first | exact clC_int _ _ _ | exact clC_string _ _ | exact clC_bool _ _)
theorem dec4 (W : World) : dJOp.Of Try.prog W 34 2 :=
  Dec.Of.map (D := dStruct (dPair (dInt .i64) (dPair (dStr) (dUnit)))) (dStruct_of Try.underlying34 (by kernel_rfl) (dPair_of rfl (dInt_of Try.underlying3 (by kernel_rfl)) (dPair_of rfl (dStr_of Try.underlying9 (by kernel_rfl)) dUnit_of))) (fun x => ⟨x.1, x.2.1⟩) (fun _ => rfl) (fun a h => by simp only [dPair, dStruct, dInt, dNat, dStr, dBool, dUnit, dJOp, IntKind.min, IntKind.max, IntKind.signed, IntKind.bits] at h ⊢; try simp at h ⊢; try omega) (fun a => by simp [dPair, dStruct, dInt, dNat, dStr, dBool, dUnit, dJOp]; try omega) (fun _ => rfl) (fun b _ v hv => by
    simp [dJOp, JOp.e] at hv
    rcases hv with rfl | rfl <;> first | exact clC_int _ _ _ | exact clC_string _ _ | exact clC_bool _ _)

theorem contract (H : Type) (enc : TypeId × Value → H) (W : World) (base : Nat) (args : Array Value) (ds gs : List (DataW H)) (before : List MemPlace)
    (hval : ∀ (j : Nat) t v, Try.f3.params[j]? = some t → args[j]? = some v → Value.okWide Try.prog W .any base t v)
    (hW : DataW.Whole enc Try.prog Try.f3.params.toList Rows.journalForksSpec.vars false W args.toList ds gs before) (hk : Rows.uptoSmall H (ds ++ gs) = true) :
    Calls Try.prog 3 args W fun e W' => ∃ v, e = .returned v ∧ Rows.journalForksSpec.post enc Try.prog Try.f3 false true false false W args v W' := by
  have hW' := hW
  obtain ⟨p, q, hA0, hV, rfl, hfz, hnd⟩ := hW
  have hA : DataW.TrodAll enc Try.prog W 0 (fun _ => true) true Try.f3.params.toList args.toList ds p := hA0
  rw [Try.params3] at hA hval
  obtain ⟨v0, v1, v2, v3, v4, d0, d1, d2, d3, d4, p0, p1, p2, p3, p4, rfl, rfl, rfl, h0, h1, h2, h3, h4⟩ := trodAll_five hA
  obtain ⟨rfl, rfl⟩ := trodVars_none hV
  obtain ⟨n, rfl, rfl, rfl, wn⟩ := open_int Try.underlying3 (hval 0 3 v0 rfl rfl) h0
  obtain ⟨s, rfl, rfl, rfl, ws⟩ := open_int Try.underlying3 (hval 1 3 v1 rfl rfl) h1
  obtain ⟨g, rfl, rfl, rfl, wg⟩ := open_int Try.underlying22 (hval 2 22 v2 rfl rfl) h2
  obtain ⟨os, xos, oos, bos⟩ := open_sl Try.underlying23 (by omega) (dec3 W) (hval 3 23 v3 rfl rfl) h3
  obtain ⟨ms, xms, oms, bms⟩ := open_sl Try.underlying23 (by omega) (dec4 W) (hval 4 23 v4 rfl rfl) h4
  clear hA0
  have hb := of_decide_eq_true hk
  simp only [Rows.uptoBulkAll, Rows.uptoBulk, List.append_nil] at hb
  have xn : -9223372036854775808 ≤ n ∧ n ≤ 9223372036854775807 := by simpa [Lit.wf, IntKind.min, IntKind.max, IntKind.signed, IntKind.bits] using wn
  have xs : -9223372036854775808 ≤ s ∧ s ≤ 9223372036854775807 := by simpa [Lit.wf, IntKind.min, IntKind.max, IntKind.signed, IntKind.bits] using ws
  have xg : 0 ≤ g ∧ g ≤ 18446744073709551615 := by simpa [Lit.wf, IntKind.min, IntKind.max, IntKind.signed, IntKind.bits] using wg
  obtain ⟨g, rfl⟩ := Int.eq_ofNat_of_zero_le xg.1
  have hc := JournalForks_spec (w0 := W) (h := hp0 W) n s g (by omega) (by omega) xos xms (fun o ho => by have := bulk_mem dJOp.b ho; simp only [dJOp] at this bos; omega) (fun o ho => by have := bulk_mem dJOp.b ho; simp only [dJOp] at this bms; omega) (by have := bulk_len dJOp.b (fun _ => by simp [dJOp]) os; omega) (by have := bulk_len dJOp.b (fun _ => by simp [dJOp]) ms; omega)
  refine (calls_of_acalls (P := Try.prog) (f := 3) (args := #[.int .i64 n, .int .i64 s, .int .u64 g, v3, v4]) ?_ hc).mono fun e W' ⟨he, hB⟩ => ?_
  · intro v hv
    simp at hv
    rcases hv with rfl | rfl | rfl | rfl | rfl
    · exact cl_int _ _ _
    · exact cl_int _ _ _
    · exact cl_int _ _ _
    · exact xos.cl
    · exact xms.cl
  · subst he
    exact ⟨_, rfl, post_below laidOut (by kernel_rfl) (by kernel_rfl) Try.underlying4 hW' rfl rfl hB⟩

set_option maxRecDepth 100000 in
theorem lifted (os : Os) (started : os.Started) (H : Type) (enc : TypeId × Value → H) (F : Stop.Interp) :
    ReturnsInHanded {} Try.checked os 3 .any ((Rows.OpenSpec.upto Rows.journalForksSpec).pre6 enc Try.prog Try.f3 Rows.journalForksUptoRow.domain false) (((Rows.OpenSpec.upto Rows.journalForksSpec).at F).post enc Try.prog Try.f3 false true false false) := by
  refine returnsInHanded_of_cond (C := Try.checked) (s := Rows.OpenSpec.upto Rows.journalForksSpec) (k := Rows.uptoSmall) rfl own started (by kernel_rfl) Try.func3
    (OpenSpec.witness (enc := enc) (C := Try.checked) (s := Rows.OpenSpec.upto Rows.journalForksSpec) (k := Rows.uptoSmall) rfl false ⟨#[], #[.int .i64 0, .int .i64 0, .int .u64 0, .slice none 0 0, .slice none 0 0], []⟩ 8 (by kernel_rfl) (by kernel_rfl) (by kernel_rfl)
      (x := ([.lit (.int .i64 0), .lit (.int .i64 0), .lit (.int .u64 0), .nil, .nil], [], [])) (by kernel_rfl) rfl (by kernel_rfl)) ?_
  intro W base args ds gs before hval hW _ hk _
  exact contract H enc W base args ds gs before hval hW hk

theorem over : Rows.journalForksUptoRow.holds Try.pinned (Rows.OpenSpec.upto Rows.journalForksSpec) :=
  OpenClaim.holds_of_cond 3 Try.f3 rfl rfl rfl rfl rfl rfl rfl ⟨rfl, rfl, rfl, rfl, rfl⟩ rfl rfl rfl rfl rfl (by kernel_rfl) Try.func3 (by kernel_rfl)
    (of_decide_eq_true (by kernel_rfl)) (by unfold Func.isWrapper; first | (rw [if_pos (by decide +kernel)]; kernel_rfl) | (rw [if_neg (by decide +kernel)]; exact ⟨rfl, rfl⟩))
    (fun os started H enc _ F => lifted os started H enc F)

theorem proved : Rows.JournalForksUptoSaid :=
  over
end Go.Proofs.Ytiakadkooclelaa.forks
