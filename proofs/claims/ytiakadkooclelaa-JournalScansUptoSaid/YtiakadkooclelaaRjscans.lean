/- JournalScans, proved: the second form: it returns true, where what it reads is of bulk at most 1048576. -/
import Derived.Test.YtiakadkooclelaaRows
import Derived.Test.YtiakadkooclelaaJc
import Derived.Test.YtiakadkooclelaaAh19
import Derived.Test.YtiakadkooclelaaAh22
set_option linter.unusedVariables false
set_option linter.unusedSimpArgs false
namespace Go.Proofs.Ytiakadkooclelaa.jscans
open Go Go.ChangeShapes Go.WideShapes Go.ChangeAt Go.RowKit Go.ChangeMaps Go.Proofs.Ytiakadkooclelaa.Ah

theorem own : ownKnob Try.prog.godebug = none := by kernel_rfl
theorem laidOut : laidOutB Try.prog = true := by kernel_rfl
set_option maxRecDepth 100000 in
theorem dec2 (W : World) : (dByte).Of Try.prog W 5 1 := (dByte_of Try.underlying5 (by kernel_rfl))

set_option maxRecDepth 100000 in
theorem contract (H : Type) (enc : TypeId × Value → H) (W : World) (base : Nat) (args : Array Value) (ds gs : List (DataW H)) (before : List MemPlace)
    (hval : ∀ (j : Nat) t v, Try.f7.params[j]? = some t → args[j]? = some v → Value.okWide Try.prog W .any base t v)
    (hW : DataW.Whole enc Try.prog Try.f7.params.toList Rows.journalScansSpec.vars false W args.toList ds gs before) (hk : Rows.uptoSmall H (ds ++ gs) = true) :
    Calls Try.prog 7 args W fun e W' => ∃ v, e = .returned v ∧ Rows.journalScansSpec.post enc Try.prog Try.f7 false true false false W args v W' := by
  have hW' := hW
  obtain ⟨p, q, hA0, hV, rfl, hfz, hnd⟩ := hW
  have hA : DataW.TrodAll enc Try.prog W 0 (fun _ => true) true Try.f7.params.toList args.toList ds p := hA0
  rw [Try.params7] at hA hval
  obtain ⟨v0, v1, v2, d0, d1, d2, p0, p1, p2, rfl, rfl, rfl, h0, h1, h2⟩ := trodAll_three hA
  obtain ⟨rfl, rfl⟩ := trodVars_none hV
  obtain ⟨n, rfl, rfl, rfl, wn⟩ := open_int Try.underlying3 (hval 0 3 v0 rfl rfl) h0
  obtain ⟨g, rfl, rfl, rfl, wg⟩ := open_int Try.underlying22 (hval 1 22 v1 rfl rfl) h1
  obtain ⟨b, xb, ob, bb⟩ := open_sl Try.underlying42 (by omega) (dec2 W) (hval 2 42 v2 rfl rfl) h2 (fun p hp => hW'.lt _ (by simp [hp]))
  clear hA0
  have hb := of_decide_eq_true hk
  simp only [Rows.uptoBulkAll, Rows.uptoBulk, List.append_nil] at hb
  have xn : -9223372036854775808 ≤ n ∧ n ≤ 9223372036854775807 := by simpa [Lit.wf, IntKind.min, IntKind.max, IntKind.signed, IntKind.bits] using wn
  have xg : 0 ≤ g ∧ g ≤ 18446744073709551615 := by simpa [Lit.wf, IntKind.min, IntKind.max, IntKind.signed, IntKind.bits] using wg
  obtain ⟨g, rfl⟩ := Int.eq_ofNat_of_zero_le xg.1
  have hc := JournalScans_top (w0 := W) (h := hp0 W) n g (by omega) (by omega) xb (by have := bulk_len dByte.b (fun _ => by simp [dByte]) b; omega)
  refine (calls_of_acalls (P := Try.prog) (f := 7) (args := #[.int .i64 n, .int .u64 g, v2]) ?_ hc).mono fun e W' ⟨he, hB⟩ => ?_
  · intro v hv
    simp at hv
    rcases hv with rfl | rfl | rfl
    · exact cl_int _ _ _
    · exact cl_int _ _ _
    · exact xb.cl
  · subst he
    exact ⟨_, rfl, post_below laidOut (by kernel_rfl) (by kernel_rfl) Try.underlying4 hW' rfl rfl hB⟩

set_option maxRecDepth 100000 in
theorem lifted (os : Os) (started : os.Started) (H : Type) (enc : TypeId × Value → H) (F : Stop.Interp) :
    ReturnsInHanded {} Try.checked os 7 .any ((Rows.OpenSpec.upto Rows.journalScansSpec).pre6 enc Try.prog Try.f7 Rows.journalScansUptoRow.domain false) (((Rows.OpenSpec.upto Rows.journalScansSpec).at F).post enc Try.prog Try.f7 false true false false) := by
  refine returnsInHanded_of_cond (C := Try.checked) (s := Rows.OpenSpec.upto Rows.journalScansSpec) (k := Rows.uptoSmall) rfl own started (by kernel_rfl) Try.func7
    (OpenSpec.witness (enc := enc) (C := Try.checked) (s := Rows.OpenSpec.upto Rows.journalScansSpec) (k := Rows.uptoSmall) rfl false ⟨#[], #[.int .i64 0, .int .u64 0, .slice none 0 0], []⟩ 8 (by kernel_rfl) (by kernel_rfl) (by kernel_rfl)
      (x := ([.lit (.int .i64 0), .lit (.int .u64 0), .nil], [], [])) (by kernel_rfl) rfl (by kernel_rfl)) ?_
  intro W base args ds gs before hval hW _ hk _
  exact contract H enc W base args ds gs before hval hW hk

theorem over : Rows.journalScansUptoRow.holds Try.pinned (Rows.OpenSpec.upto Rows.journalScansSpec) :=
  OpenClaim.holds_of_cond 7 Try.f7 rfl rfl rfl rfl rfl rfl rfl ⟨rfl, rfl, rfl, rfl, rfl⟩ rfl rfl rfl rfl rfl (by kernel_rfl) Try.func7 (by kernel_rfl)
    (of_decide_eq_true (by kernel_rfl)) (by unfold Func.isWrapper; first | (rw [if_pos (by decide +kernel)]; kernel_rfl) | (rw [if_neg (by decide +kernel)]; exact ⟨rfl, rfl⟩))
    (fun os started H enc _ F => lifted os started H enc F)

theorem proved : Rows.JournalScansUptoSaid :=
  over
end Go.Proofs.Ytiakadkooclelaa.jscans
