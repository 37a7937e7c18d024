/- Soundness of vcOp. -/
import Derived.Test.YtiakadkooclelaaAh9
set_option linter.unusedVariables false
set_option linter.unusedSimpArgs false
namespace Go.Proofs.Ytiakadkooclelaa.Ah
open Go

section
variable {P : Program} {w0 : World} {ι : Inj} {h : Hp} {w : World} {K : Kont}

theorem lenOf_run {x x' : Value} {m : Nat} (hl : lenA x = some m) (hx : VRel w0.heap.size h.next ι x x') (w : World) : (Builtin.lenOf x').run P w = .ok m w := by
  cases hx <;> simp [lenA] at hl <;> simp [Builtin.lenOf, hl]

theorem appA_sound {T T2 ty e : TypeId} {d2 : TypeDesc} {x x' y y' : Value} (hT : P.underlying T = some (.slice e)) (hT2 : P.underlying T2 = some d2) (hd2 : ∀ k, d2 ≠ .int k) (ho : okT P e = true) (hs0 : szT P e ≠ 0)
    (r : HRel w0 ι h w) (hx : x ≠ junk → VRel w0.heap.size h.next ι x x') (hy : y ≠ junk → VRel w0.heap.size h.next ι y y') (hv : appA w0 (szT P e) (byT P e) x y K h) :
    ValOut w0 ι h K ((Builtin.append_ #[T, T2] ty #[x', y']).run P w) := by
  obtain ⟨m, hlen, h0, h1⟩ := hv
  obtain ⟨ti, z, d, hti, hz, hd, hzs, hs, hby, hzt, hcst, hagg, hzr⟩ := okT_inv ho
  have hy := hy (by intro e; rw [e] at hlen; simp [lenA, junk] at hlen)
  by_cases hm : m = 0
  · subst hm
    obtain ⟨⟨a, n, c, rfl⟩, hk⟩ := h0 rfl
    have hx := hx (by simp [junk])
    have hlen' := lenOf_run (P := P) hlen hy w
    have hfirst : (Builtin.firstCells ti.size 0 y').run P w = .ok #[] w := by
      cases hy <;> simp [lenA] at hlen <;> simp [Builtin.firstCells, loadCells, loadCellsFrom, hlen]
    rcases hx.slice_inv with ⟨rfl, rfl, rfl, rfl⟩ | ⟨ad, a', c', rfl, rfl, hn, _⟩
    · have : (Builtin.append_ #[T, T2] ty #[.slice none 0 0, y']).run P w = .ok (.slice none 0 0) w := by
        have hz : (match d2 with | .int _ => true | _ => false) = false := by
          cases d2 <;> first | rfl | exact absurd rfl (hd2 _)
        simp [Builtin.append_, run_und hT, run_und hT2, sizeOf, typeInfo, hti, hz, hlen', hfirst]
      rw [this]
      exact .mk r hx hk
    · have := run_append_fit (P := P) (w := w) (ty := ty) hT hti hT2 hd2 (a := a') (n := n) (c := c') (m := 0) (y := y') (news := #[]) (w' := w) hlen' hfirst (by omega) (by simp [storeCells])
      rw [this]
      exact .mk r hx hk
  · obtain ⟨n, old, ys, h1', hd1, hsrc, hb, h63, hk⟩ := h1 (by omega)
    have hx := hx (by intro e; rw [e] at hd1; simp [Dst, junk] at hd1)
    rw [hs] at hd1 hsrc hk
    rw [hby] at hb
    obtain ⟨ι', w', v', hrun, hext, hrel, hvr⟩ := r.append (P := P) (ty := ty) hT hti hz hT2 hd2 (by omega) hx hy hd1 hsrc hlen (by omega) hb h63 hzs
    rw [hrun]
    exact ⟨ι', _, _, hext, hrel, .inr hvr, hk⟩

theorem copyA_sound {T T2 ty e : TypeId} {x x' y y' : Value} (hT : P.underlying T = some (.slice e)) (ho : okT P e = true)
    (r : HRel w0 ι h w) (hx : x ≠ junk → VRel w0.heap.size h.next ι x x') (hy : y ≠ junk → VRel w0.heap.size h.next ι y y') (hv : copyA w0 (szT P e) x y K h) (at_ : Array TypeId) (hat : at_[0]? = some T) :
    ValOut w0 ι h K ((Builtin.copy_ at_ ty #[x', y']).run P w) := by
  obtain ⟨a, n, c, m, rfl, hlen, h0, h1⟩ := hv
  obtain ⟨ti, z, d, hti, hz, hd, hzs, hs, hby, hzt, hcst, hagg, hzr⟩ := okT_inv ho
  have hy := hy (by intro e; rw [e] at hlen; simp [lenA, junk] at hlen)
  have hx := hx (by simp [junk])
  have hlen' := lenOf_run (P := P) hlen hy w
  have hmin : Nat.min m n = min m n := rfl
  by_cases hm : min m n = 0
  · have hk := h0 hm
    have hfirst : (Builtin.firstCells ti.size 0 y').run P w = .ok #[] w := by
      cases hy <;> simp [lenA] at hlen <;> simp [Builtin.firstCells, loadCells, loadCellsFrom]
    rcases hx.slice_inv with ⟨rfl, rfl, rfl, rfl⟩ | ⟨ad, a', c', rfl, rfl, hn, _⟩
    · have : (Builtin.copy_ at_ ty #[.slice none 0 0, y']).run P w = .ok (.int .i64 0) w := by
        simp [Builtin.copy_, hat, run_und hT, hlen', run_szOf hti, hfirst, goInt, Nat.min_def]
      rw [this]
      exact .mk r (.int _ _) hk
    · have : (Builtin.copy_ at_ ty #[.slice (some a') n c', y']).run P w = .ok (.int .i64 0) w := by
        simp [Builtin.copy_, hat, run_und hT, hlen', run_szOf hti, hmin, hm, hfirst, goInt, storeCells]
      rw [this]
      exact .mk r (.int _ _) hk
  · obtain ⟨b, o, cs, ys, rfl, hB, hc, hle, hsrc, hk⟩ := h1 (by omega)
    clear h0 h1
    obtain ⟨ys', hfirst, hyr, hyl, hyc⟩ := r.src (P := P) hsrc hy
    rcases hx.slice_inv with ⟨e1, _⟩ | ⟨ad, a', c', e1, rfl, hn, hp, _⟩
    · cases e1
    · cases e1
      have hp := hp (by omega)
      rw [hs] at hle hyl hfirst
      obtain ⟨w', hst, hrel⟩ := r.storeN (P := P) hp hB hc (by rw [hyl]; exact hle) hyc hyr
      have : (Builtin.copy_ at_ ty #[.slice (some a') n c', y']).run P w = .ok (.int .i64 (min m n : Nat)) w' := by
        simp [Builtin.copy_, hat, run_und hT, hlen', run_szOf hti, hmin, hfirst w rfl, hst, goInt]
      rw [this]
      exact ⟨ι, h.put b (splice cs o ys), _, ⟨Nat.le_refl _, fun _ _ => rfl, fun _ _ e => e⟩, hrel, .inr (.int _ _), hk⟩

theorem clearA_sound {T ty e : TypeId} {x x' : Value} (hT : P.underlying T = some (.slice e)) (ho : okT P e = true)
    (r : HRel w0 ι h w) (hx : x ≠ junk → VRel w0.heap.size h.next ι x x') (hv : clearA w0 (szT P e) (zeroT P e) x K h) :
    ValOut w0 ι h K ((Builtin.clear_ #[T] ty #[x']).run P w) := by
  obtain ⟨a, n, c, rfl, h0, h1⟩ := hv
  obtain ⟨ti, z, d, hti, hz, hd, hzs, hs, hby, hzt, hcst, hagg, hzr⟩ := okT_inv ho
  have hx := hx (by simp [junk])
  have hund : VRel w0.heap.size h.next ι undef undef := .tuple _ _ rfl (fun i v v' h => by simp at h)
  rcases hx.slice_inv with ⟨rfl, rfl, rfl, rfl⟩ | ⟨ad, a', c', rfl, rfl, hn, hp, _⟩
  · have : (Builtin.clear_ #[T] ty #[.slice none 0 0]).run P w = .ok undef w := by
      simp [Builtin.clear_, run_und hT, undef]
    rw [this]
    exact .mk r hund (h0 rfl)
  · by_cases hn0 : n = 0
    · subst hn0
      have : (Builtin.clear_ #[T] ty #[.slice (some a') 0 c']).run P w = .ok undef w := by
        simp [Builtin.clear_, run_und hT, undef]
      rw [this]
      exact .mk r hund (h0 rfl)
    · obtain ⟨b, o, cs, e1, hB, hc, hle, hk⟩ := h1 (by omega)
      clear h0 h1
      cases e1
      have hp := hp (by omega)
      have hzl : (zerosL (zeroT P e) n).length = n * szT P e := by rw [zerosL_length, hzt, hs]; simp [hzs]
      obtain ⟨w', hst, hrel⟩ := r.storeN (P := P) (xs := zerosL (zeroT P e) n) (xs' := zerosL (zeroT P e) n) hp hB hc (by rw [hzl]; exact hle) (fun v hv => const_cells hcst v (by rw [hzt] at hv; exact mem_zerosL hv))
        (const_rels fun v hv => hcst v (by rw [hzt] at hv; exact mem_zerosL hv))
      have hzz : (Builtin.zeroCells z.cells n).toList = zerosL (zeroT P e) n := by
        have := zerosL_array (z := z.cells) (n := n)
        rw [hzt, ← this]
        rfl
      have : (Builtin.clear_ #[T] ty #[.slice (some a') n c']).run P w = .ok undef w' := by
        obtain ⟨n', rfl⟩ : ∃ q, n = q + 1 := ⟨n - 1, by omega⟩
        simp only [Builtin.clear_, List.getElem?_toArray, List.getElem?_cons_zero, Sem.run_bind, run_und hT, Result.andThen_ok, hzr, hzz, hst, Sem.run_pure, undef]
      rw [this]
      exact ⟨ι, h.put b (splice cs o (zerosL (zeroT P e) n)), _, ⟨Nat.le_refl _, fun _ _ => rfl, fun _ _ e => e⟩, hrel, .inr (.tuple _ _ rfl (fun i v v' h => by simp at h)), hk⟩

/-! ### Operands -/
theorem constV_rel {B nx : Nat} {ι : Inj} {v : Value} (hne : constV v ≠ junk) : VRel B nx ι (constV v) v := by
  unfold constV at hne ⊢
  split
  · rename_i cs
    simp only at hne
    split
    · rename_i hall
      have hk : ∀ (i : Nat) v, cs[i]? = some v → constOK v = true := fun i v hv => List.all_eq_true.1 hall v (by
        obtain ⟨hi, rfl⟩ := Array.getElem?_eq_some_iff.1 hv
        simp)
      exact .agg _ _ rfl (fun i v v' a b => by rw [a] at b; cases b; exact (constOK_cl (hk i v a)).1 nx ι) (fun i v a => (constOK_cl (B := 0) (hk i v a)).2)
    · rename_i hall
      rw [if_neg hall] at hne
      exact absurd rfl hne
  · rename_i hna
    split
    · rename_i hok
      exact (constOK_cl hok).1 nx ι
    · rename_i hok
      split at hne
      · rename_i cs; exact absurd rfl (hna cs)
      · rw [if_neg hok] at hne; exact absurd rfl hne

theorem FRel.eval {B nx : Nat} {ι : Inj} {n : Nat} {t : Fr} {a : Act} (f : FRel B nx ι n t a.tmps) (x : Operand) (hne : ev n t x ≠ junk) : VRel B nx ι (ev n t x) (a.eval x) := by
  cases x with
  | tmp i =>
    simp only [ev] at hne ⊢
    split
    · rename_i hi
      rw [if_pos hi] at hne
      exact f.2 i hi hne
    · rename_i hi
      rw [if_neg hi] at hne
      exact absurd rfl hne
  | const v => exact constV_rel hne
  | global g => exact absurd rfl hne
  | func g => exact .func _ _ _ _ _ rfl rfl (fun i v v' h => by simp at h) (fun i v v' h => by simp at h) ⟨g, rfl⟩

theorem FRel.put {B nx : Nat} {ι : Inj} {n : Nat} {t : Fr} {a : Act} (f : FRel B nx ι n t a.tmps) (d : Option Nat) {v v' : Value} (hv : v = junk ∨ VRel B nx ι v v') : FRel B nx ι n (putA t d v) (a.put d v').tmps := by
  cases d with
  | none => exact f
  | some d =>
    refine ⟨by simp [Act.put]; exact f.1, fun i hi hj => ?_⟩
    simp only [putA, upd, Act.put] at hj ⊢
    by_cases hid : i = d
    · subst hid
      rw [if_pos rfl] at hj ⊢
      rw [Array.getD_eq_getD_getElem?, Array.getElem?_setIfInBounds, if_pos rfl, if_pos (by rw [f.1]; exact hi)]
      rcases hv with e | hv
      · exact absurd e hj
      · exact hv
    · rw [if_neg hid] at hj ⊢
      rw [Array.getD_eq_getD_getElem?, Array.getElem?_setIfInBounds, if_neg (fun e => hid e.symm), ← Array.getD_eq_getD_getElem?]
      exact f.2 i hi hj
end
end Go.Proofs.Ytiakadkooclelaa.Ah
