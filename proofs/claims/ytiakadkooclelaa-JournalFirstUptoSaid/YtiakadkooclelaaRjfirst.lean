/- JournalFirst, proved: the second form: it returns true, where what it reads is of bulk at most 1048576. -/
import Derived.Test.YtiakadkooclelaaRows
import Derived.Test.YtiakadkooclelaaJxc
import Derived.Test.YtiakadkooclelaaAh19
import Derived.Test.YtiakadkooclelaaAhp
set_option linter.unusedVariables false
set_option linter.unusedSimpArgs false
namespace Go.Proofs.Ytiakadkooclelaa.jfirst
open Go Go.ChangeShapes Go.WideShapes Go.ChangeAt Go.RowKit Go.ChangeMaps Go.Proofs.Ytiakadkooclelaa.Ah

theorem own : ownKnob Try.prog.godebug = none := by kernel_rfl
theorem laidOut : laidOutB Try.prog = true := by kernel_rfl
set_option maxRecDepth 100000 in
theorem dec3 (W : World) : (dStr).Of Try.prog W 9 1 := (dStr_of Try.underlying9 (by kernel_rfl))
set_option maxRecDepth 100000 in
theorem dec4 (W : World) : (dInt .i64).Of Try.prog W 3 1 := (dInt_of Try.underlying3 (by kernel_rfl))

set_option maxRecDepth 100000 in
theorem contract (H : Type) (enc : TypeId × Value → H) (W : World) (base : Nat) (args : Array Value) (ds gs : List (DataW H)) (before : List MemPlace)
    (hval : ∀ (j : Nat) t v, Try.f6.params[j]? = some t → args[j]? = some v → Value.okWide Try.prog W .any base t v)
    (hW : DataW.Whole enc Try.prog Try.f6.params.toList Rows.journalFirstSpec.vars false W args.toList ds gs before) (hk : Rows.uptoSmall H (ds ++ gs) = true) :
    Calls Try.prog 6 args W fun e W' => ∃ v, e = .returned v ∧ Rows.journalFirstSpec.post enc Try.prog Try.f6 false true false false W args v W' := by
  have hW' := hW
  obtain ⟨p, q, hA0, hV, rfl, hfz, hnd⟩ := hW
  have hA : DataW.TrodAll enc Try.prog W 0 (fun _ => true) true Try.f6.params.toList args.toList ds p := hA0
  rw [Try.params6] at hA hval
  obtain ⟨v0, v1, v2, v3, v4, v5, v6, d0, d1, d2, d3, d4, d5, d6, p0, p1, p2, p3, p4, p5, p6, rfl, rfl, rfl, h0, h1, h2, h3, h4, h5, h6⟩ := trodAll_seven hA
  obtain ⟨rfl, rfl⟩ := trodVars_none hV
  obtain ⟨n, rfl, rfl, rfl, wn⟩ := open_int Try.underlying3 (hval 0 3 v0 rfl rfl) h0
  obtain ⟨s, rfl, rfl, rfl, ws⟩ := open_int Try.underlying3 (hval 1 3 v1 rfl rfl) h1
  obtain ⟨g, rfl, rfl, rfl, wg⟩ := open_int Try.underlying22 (hval 2 22 v2 rfl rfl) h2
  obtain ⟨r, xr, or, br⟩ := open_sl Try.underlying50 (by omega) (dec3 W) (hval 3 50 v3 rfl rfl) h3 (fun p hp => hW'.lt _ (by simp [hp]))
  obtain ⟨t, xt, ot, bt⟩ := open_sl Try.underlying51 (by omega) (dec4 W) (hval 4 51 v4 rfl rfl) h4 (fun p hp => hW'.lt _ (by simp [hp]))
  obtain ⟨k, rfl, rfl, rfl, wk⟩ := open_int Try.underlying3 (hval 5 3 v5 rfl rfl) h5
  obtain ⟨o, rfl, rfl, rfl, wo⟩ := open_int Try.underlying22 (hval 6 22 v6 rfl rfl) h6
  clear hA0
  have hb := of_decide_eq_true hk
  simp only [Rows.uptoBulkAll, Rows.uptoBulk, List.append_nil] at hb
  have xn : -9223372036854775808 ≤ n ∧ n ≤ 9223372036854775807 := by simpa [Lit.wf, IntKind.min, IntKind.max, IntKind.signed, IntKind.bits] using wn
  have xs : -9223372036854775808 ≤ s ∧ s ≤ 9223372036854775807 := by simpa [Lit.wf, IntKind.min, IntKind.max, IntKind.signed, IntKind.bits] using ws
  have xg : 0 ≤ g ∧ g ≤ 18446744073709551615 := by simpa [Lit.wf, IntKind.min, IntKind.max, IntKind.signed, IntKind.bits] using wg
  obtain ⟨g, rfl⟩ := Int.eq_ofNat_of_zero_le xg.1
  have xk : -9223372036854775808 ≤ k ∧ k ≤ 9223372036854775807 := by simpa [Lit.wf, IntKind.min, IntKind.max, IntKind.signed, IntKind.bits] using wk
  have xo : 0 ≤ o ∧ o ≤ 18446744073709551615 := by simpa [Lit.wf, IntKind.min, IntKind.max, IntKind.signed, IntKind.bits] using wo
  obtain ⟨o, rfl⟩ := Int.eq_ofNat_of_zero_le xo.1
  have hc := JournalFirst_top (w0 := W) (h := hp0 W) n s g k o (by omega) (by omega) (by omega) (by omega) xr xt (fun r hr => by have := bulk_mem dStr.b hr; simp only [dStr] at this; have := br; simp only [dStr] at this; omega) (by have := bulk_len dStr.b (fun _ => by simp [dStr]) r; omega)
  refine (calls_of_acalls (P := Try.prog) (f := 6) (args := #[.int .i64 n, .int .i64 s, .int .u64 g, v3, v4, .int .i64 k, .int .u64 o]) ?_ hc).mono fun e W' ⟨he, hB⟩ => ?_
  · intro v hv
    simp at hv
    rcases hv with rfl | rfl | rfl | rfl | rfl | rfl | rfl
    · exact cl_int _ _ _
    · exact cl_int _ _ _
    · exact cl_int _ _ _
    · exact xr.cl
    · exact xt.cl
    · exact cl_int _ _ _
    · exact cl_int _ _ _
  · subst he
    exact ⟨_, rfl, post_below laidOut (by kernel_rfl) (by kernel_rfl) Try.underlying4 hW' rfl rfl hB⟩

set_option maxRecDepth 100000 in
theorem lifted (os : Os) (started : os.Started) (H : Type) (enc : TypeId × Value → H) (F : Stop.Interp) :
    ReturnsInHanded {} Try.checked os 6 .any ((Rows.OpenSpec.upto Rows.journalFirstSpec).pre6 enc Try.prog Try.f6 Rows.journalFirstUptoRow.domain false) (((Rows.OpenSpec.upto Rows.journalFirstSpec).at F).post enc Try.prog Try.f6 false true false false) := by
  refine returnsInHanded_of_cond (C := Try.checked) (s := Rows.OpenSpec.upto Rows.journalFirstSpec) (k := Rows.uptoSmall) rfl own started (by kernel_rfl) Try.func6
    (OpenSpec.witness (enc := enc) (C := Try.checked) (s := Rows.OpenSpec.upto Rows.journalFirstSpec) (k := Rows.uptoSmall) rfl false ⟨#[], #[.int .i64 0, .int .i64 0, .int .u64 0, .slice none 0 0, .slice none 0 0, .int .i64 0, .int .u64 0], []⟩ 8 (by kernel_rfl) (by kernel_rfl) (by kernel_rfl)
      (x := ([.lit (.int .i64 0), .lit (.int .i64 0), .lit (.int .u64 0), .nil, .nil, .lit (.int .i64 0), .lit (.int .u64 0)], [], [])) (by kernel_rfl) rfl (by kernel_rfl)) ?_
  intro W base args ds gs before hval hW _ hk _
  exact contract H enc W base args ds gs before hval hW hk

theorem over : Rows.journalFirstUptoRow.holds Try.pinned (Rows.OpenSpec.upto Rows.journalFirstSpec) :=
  OpenClaim.holds_of_cond 6 Try.f6 rfl rfl rfl rfl rfl rfl rfl ⟨rfl, rfl, rfl, rfl, rfl⟩ rfl rfl rfl rfl rfl (by kernel_rfl) Try.func6 (by kernel_rfl)
    (of_decide_eq_true (by kernel_rfl)) (by unfold Func.isWrapper; first | (rw [if_pos (by decide +kernel)]; kernel_rfl) | (rw [if_neg (by decide +kernel)]; exact ⟨rfl, rfl⟩))
    (fun os started H enc _ F => lifted os started H enc F)

theorem proved : Rows.JournalFirstUptoSaid :=
  over
end Go.Proofs.Ytiakadkooclelaa.jfirst
