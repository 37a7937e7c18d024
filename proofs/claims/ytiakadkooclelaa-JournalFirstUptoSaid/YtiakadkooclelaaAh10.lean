/- Soundness of vcOp. -/
import Derived.Test.YtiakadkooclelaaAh9
import Derived.Lib.AppendZerosOnto
import Derived.Lib.Overlaps
set_option linter.unusedVariables false
set_option linter.unusedSimpArgs false
namespace Go.Proofs.Ytiakadkooclelaa.Ah
open Go

section
variable {P : Program} {w0 : World} {ι : Inj} {h : Hp} {w : World} {K : Kont}

theorem lenOf_run {x x' : Value} {m : Nat} (hl : lenA x = some m) (hx : VRel w0.heap.size h.next ι x x') (w : World) : (Builtin.lenOf x').run P w = .ok m w := by
  cases hx <;> simp [lenA] at hl <;> simp [Builtin.lenOf, hl]

theorem appA_sound {T T2 ty e : TypeId} {d2 : TypeDesc} {x x' y y' : Value} (hT : P.underlying T = some (.slice e)) (hT2 : P.underlying T2 = some d2) (hd2 : ∀ k, d2 ≠ .int k) (ho : okT P e = true) (hs0 : szT P e ≠ 0)
    (r : HRel w0 ι h w) (hx : x ≠ junk → VRel w0.heap.size h.next ι x x') (hy : y ≠ junk → VRel w0.heap.size h.next ι y y') (hv : appA w0 (szT P e) (byT P e) x y K h) :
    ValOut w0 ι h K ((Builtin.append_ #[T, T2] ty #[x', y']).run P w) := by
  obtain ⟨ti, z, d, hti, hz, hd, hzs, hs, hby, hzt, hcst, hagg, hzr⟩ := okT_inv ho
  cases hv
  case fit m n b o cs ys hlen hxe hm hs0' hB hb hsz hle hsrc hk =>
    subst hxe
    have hx := hx (by simp [junk])
    have hy := hy (by intro e; rw [e] at hlen; simp [lenA, junk] at hlen)
    have hl := r.live b cs hB hb
    have hll := hl.len
    have hmul : (n + m) * szT P e = n * szT P e + m * szT P e := Nat.add_mul _ _ _
    have hms : 0 < m * szT P e := Nat.mul_pos hm hs0'
    rcases hx.slice_inv with ⟨e1, _⟩ | ⟨ad, a', c', e1, rfl, hn, hp, hce, hcu, hcr, hext, hcl, hc0⟩
    · cases e1
    · cases e1
      have hc : 0 < c' := by
        rcases Nat.eq_zero_or_pos c' with e9 | e9
        · have q8 := (hc0 rfl e9).2
          simp only at q8
          omega
        · exact e9
      have hq := (hcr rfl hc).2
      rw [hl.sz, hsz] at hq
      simp only at hq
      have hroom : n + m ≤ c' := by
        have : (n + m) * szT P e ≤ c' * szT P e := by omega
        exact Nat.le_of_mul_le_mul_right this hs0'
      obtain ⟨ys', hfirst, hyr, hyl, hyc⟩ := r.src (P := P) hsrc hy
      rw [hs] at hfirst hyl
      have hp' := (hp hc).add (n * szT P e)
      rw [addr_add_none] at hp'
      obtain ⟨w', hst, hrel⟩ := r.storeN (P := P) (xs := ys) (xs' := ys') hp' hB hb (by rw [hyl, ← hs]; omega) hyc hyr
      have := run_append_fit (P := P) (w := w) (ty := ty) hT hti hT2 hd2 (a := a') (n := n) (c := c') (m := m) (y := y') (news := ys'.toArray) (w' := w') (lenOf_run hlen hy w) (hfirst w rfl) hroom (by rw [← hs]; exact hst)
      rw [this]
      refine ⟨ι, h.put b (splice cs (o + n * szT P e) ys), _, ⟨Nat.le_refl _, fun _ _ => rfl, fun _ _ e => e⟩, hrel, .inr ?_, hk⟩
      obtain ⟨_, hlt, rfl⟩ := (hp hc).int_inv hB
      exact .sint b o (n + m) ucap c' hB hlt hroom (.inl ⟨rfl, by rw [hl.sz, hsz]; exact hq⟩)
  rename_i m hlen h0 h1
  have hy := hy (by intro e; rw [e] at hlen; simp [lenA, junk] at hlen)
  by_cases hm : m = 0
  · subst hm
    obtain ⟨⟨a, n, c, rfl⟩, hk⟩ := h0 rfl
    have hx := hx (by simp [junk])
    have hlen' := lenOf_run (P := P) hlen hy w
    have hfirst : (Builtin.firstCells ti.size 0 y').run P w = .ok #[] w := by
      cases hy <;> simp [lenA] at hlen <;> simp [Builtin.firstCells, loadCells, loadCellsFrom, hlen]
    rcases hx.slice_inv with ⟨rfl, rfl, rfl, rfl⟩ | ⟨ad, a', c', rfl, rfl, hn, _⟩
    · have : (Builtin.append_ #[T, T2] ty #[.slice none 0 0, y']).run P w = .ok (.slice none 0 0) w := by
        have hz : (match d2 with | .int _ => true | _ => false) = false := by
          cases d2 <;> first | rfl | exact absurd rfl (hd2 _)
        simp [Builtin.append_, run_und hT, run_und hT2, sizeOf, typeInfo, hti, hz, hlen', hfirst]
      rw [this]
      exact .mk r hx hk
    · have := run_append_fit (P := P) (w := w) (ty := ty) hT hti hT2 hd2 (a := a') (n := n) (c := c') (m := 0) (y := y') (news := #[]) (w' := w) hlen' hfirst (by omega) (by simp [storeCells])
      rw [this]
      exact .mk r hx hk
  · obtain ⟨n, old, ys, h1', hd1, hsrc, hb, h63, hk⟩ := h1 (by omega)
    have hx := hx (by intro e; rw [e] at hd1; simp [Dst, junk] at hd1)
    rw [hs] at hd1 hsrc hk
    rw [hby] at hb
    obtain ⟨ι', w', v', hrun, hext, hrel, hvr⟩ := r.append (P := P) (ty := ty) hT hti hz hT2 hd2 (by omega) hx hy hd1 hsrc hlen (by omega) hb h63 hzs (const_cells hcst)
    rw [hrun]
    exact ⟨ι', _, _, hext, hrel, .inr hvr, hk⟩

theorem copyA_sound {T T2 ty e : TypeId} {x x' y y' : Value} (hT : P.underlying T = some (.slice e)) (ho : okT P e = true)
    (r : HRel w0 ι h w) (hx : x ≠ junk → VRel w0.heap.size h.next ι x x') (hy : y ≠ junk → VRel w0.heap.size h.next ι y y') (hv : copyA w0 (szT P e) x y K h) (at_ : Array TypeId) (hat : at_[0]? = some T) :
    ValOut w0 ι h K ((Builtin.copy_ at_ ty #[x', y']).run P w) := by
  obtain ⟨a, n, c, m, rfl, hlen, h0, h1⟩ := hv
  obtain ⟨ti, z, d, hti, hz, hd, hzs, hs, hby, hzt, hcst, hagg, hzr⟩ := okT_inv ho
  have hy := hy (by intro e; rw [e] at hlen; simp [lenA, junk] at hlen)
  have hx := hx (by simp [junk])
  have hlen' := lenOf_run (P := P) hlen hy w
  have hmin : Nat.min m n = min m n := rfl
  by_cases hm : min m n = 0
  · have hk := h0 hm
    have hfirst : (Builtin.firstCells ti.size 0 y').run P w = .ok #[] w := by
      cases hy <;> simp [lenA] at hlen <;> simp [Builtin.firstCells, loadCells, loadCellsFrom]
    rcases hx.slice_inv with ⟨rfl, rfl, rfl, rfl⟩ | ⟨ad, a', c', rfl, rfl, hn, _⟩
    · have : (Builtin.copy_ at_ ty #[.slice none 0 0, y']).run P w = .ok (.int .i64 0) w := by
        simp [Builtin.copy_, hat, run_und hT, hlen', run_szOf hti, hfirst, goInt, Nat.min_def]
      rw [this]
      exact .mk r (.int _ _) hk
    · have : (Builtin.copy_ at_ ty #[.slice (some a') n c', y']).run P w = .ok (.int .i64 0) w := by
        simp [Builtin.copy_, hat, run_und hT, hlen', run_szOf hti, hmin, hm, hfirst, goInt, storeCells]
      rw [this]
      exact .mk r (.int _ _) hk
  · obtain ⟨b, o, cs, ys, rfl, hB, hc, hle, hsrc, hk⟩ := h1 (by omega)
    clear h0 h1
    obtain ⟨ys', hfirst, hyr, hyl, hyc⟩ := r.src (P := P) hsrc hy
    rcases hx.slice_inv with ⟨e1, _⟩ | ⟨ad, a', c', e1, rfl, hn, hp, _⟩
    · cases e1
    · cases e1
      have hp := hp (by omega)
      rw [hs] at hle hyl hfirst
      obtain ⟨w', hst, hrel⟩ := r.storeN (P := P) hp hB hc (by rw [hyl]; exact hle) hyc hyr
      have : (Builtin.copy_ at_ ty #[.slice (some a') n c', y']).run P w = .ok (.int .i64 (min m n : Nat)) w' := by
        simp [Builtin.copy_, hat, run_und hT, hlen', run_szOf hti, hmin, hfirst w rfl, hst, goInt]
      rw [this]
      exact ⟨ι, h.put b (splice cs o ys), _, ⟨Nat.le_refl _, fun _ _ => rfl, fun _ _ e => e⟩, hrel, .inr (.int _ _), hk⟩

theorem clearA_sound {T ty e : TypeId} {x x' : Value} (hT : P.underlying T = some (.slice e)) (ho : okT P e = true)
    (r : HRel w0 ι h w) (hx : x ≠ junk → VRel w0.heap.size h.next ι x x') (hv : clearA w0 (szT P e) (zeroT P e) x K h) :
    ValOut w0 ι h K ((Builtin.clear_ #[T] ty #[x']).run P w) := by
  obtain ⟨a, n, c, rfl, h0, h1⟩ := hv
  obtain ⟨ti, z, d, hti, hz, hd, hzs, hs, hby, hzt, hcst, hagg, hzr⟩ := okT_inv ho
  have hx := hx (by simp [junk])
  have hund : VRel w0.heap.size h.next ι undef undef := .tuple _ _ rfl (fun i v v' h => by simp at h)
  rcases hx.slice_inv with ⟨rfl, rfl, rfl, rfl⟩ | ⟨ad, a', c', rfl, rfl, hn, hp, _⟩
  · have : (Builtin.clear_ #[T] ty #[.slice none 0 0]).run P w = .ok undef w := by
      simp [Builtin.clear_, run_und hT, undef]
    rw [this]
    exact .mk r hund (h0 rfl)
  · by_cases hn0 : n = 0
    · subst hn0
      have : (Builtin.clear_ #[T] ty #[.slice (some a') 0 c']).run P w = .ok undef w := by
        simp [Builtin.clear_, run_und hT, undef]
      rw [this]
      exact .mk r hund (h0 rfl)
    · obtain ⟨b, o, cs, e1, hB, hc, hle, hk⟩ := h1 (by omega)
      clear h0 h1
      cases e1
      have hp := hp (by omega)
      have hzl : (zerosL (zeroT P e) n).length = n * szT P e := by rw [zerosL_length, hzt, hs]; simp [hzs]
      obtain ⟨w', hst, hrel⟩ := r.storeN (P := P) (xs := zerosL (zeroT P e) n) (xs' := zerosL (zeroT P e) n) hp hB hc (by rw [hzl]; exact hle) (fun v hv => const_cells hcst v (by rw [hzt] at hv; exact mem_zerosL hv))
        (const_rels fun v hv => hcst v (by rw [hzt] at hv; exact mem_zerosL hv))
      have hzz : (Builtin.zeroCells z.cells n).toList = zerosL (zeroT P e) n := by
        have := zerosL_array (z := z.cells) (n := n)
        rw [hzt, ← this]
        rfl
      have : (Builtin.clear_ #[T] ty #[.slice (some a') n c']).run P w = .ok undef w' := by
        obtain ⟨n', rfl⟩ : ∃ q, n = q + 1 := ⟨n - 1, by omega⟩
        simp only [Builtin.clear_, List.getElem?_toArray, List.getElem?_cons_zero, Sem.run_bind, run_und hT, Result.andThen_ok, hzr, hzz, hst, Sem.run_pure, undef]
      rw [this]
      exact ⟨ι, h.put b (splice cs o (zerosL (zeroT P e) n)), _, ⟨Nat.le_refl _, fun _ _ => rfl, fun _ _ e => e⟩, hrel, .inr (.tuple _ _ rfl (fun i v v' h => by simp at h)), hk⟩

/-! ### Capacities -/
theorem HRel.fill (r : HRel w0 ι h w) {b : Nat} {cs : List Value} (hb : w0.heap.size ≤ b) (hc : h.blk b = some cs) (h0 : 0 < (ι b).rsv) : HRel w0 ι (h.fill b (ι b).rsv cs) w := by
  have hlen := (r.live b cs hb hc).len
  refine ⟨r.base, r.size, r.ext, fun i hi => ?_, r.os, r.tape, r.output, fun i c hi hc' => ?_, fun i j c c' hi hj hc1 hc2 hne => ?_, r.loops⟩
  · show (if i = b then _ else h.blk i) = _
    rw [if_neg (by omega)]
    exact r.exta i hi
  · have hc' : (if i = b then some (cs ++ List.replicate ((ι b).rsv - cs.length) unk) else h.blk i) = some c := hc'
    by_cases hib : i = b
    · subst hib
      rw [if_pos rfl] at hc'
      cases hc'
      obtain ⟨lt, len, sz, cell, row, cp, um⟩ := r.live i cs hi hc
      refine ⟨lt, by simp; omega, sz, fun v hv => ?_, fun hp => ?_, fun k hk => ?_, fun hu => by have hu : (if i = i then false else h.um i) = true := hu; simp at hu⟩
      · rcases List.mem_append.1 hv with q | q
        · exact cell v q
        · rw [List.eq_of_mem_replicate q]; rfl
      · obtain ⟨q1, arr, e, lo, hi', q2, q3, q4, q5, q6⟩ := row hp
        refine ⟨q1, arr, e, lo, hi', q2, q3, q4, q5, fun j v hj => ?_⟩
        by_cases hj' : j < cs.length
        · rw [List.getElem?_append_left hj'] at hj
          exact q6 j v hj
        · have hjl : j < (cs ++ List.replicate ((ι i).rsv - cs.length) unk).length := (List.getElem?_eq_some_iff.1 hj).1
          rw [List.getElem?_append_right (by omega), List.getElem?_replicate] at hj
          split at hj
          · cases hj
            obtain ⟨v', g1, g2⟩ := q5 j (by simp at hjl; omega)
            exact ⟨v', g1, .any v' g2⟩
          · cases hj
      · have hk : (if i = i then some (ι i).rsv else h.cp i) = some k := hk
        rw [if_pos rfl] at hk
        exact Option.some.inj hk
    · rw [if_neg hib] at hc'
      obtain ⟨lt, len, sz, cell, row, cp, um⟩ := r.live i c hi hc'
      refine ⟨lt, len, sz, cell, row, fun k hk => cp k ?_, fun hu => by have hu : (if i = b then false else h.um i) = true := hu; rw [if_neg hib] at hu; exact um hu⟩
      have hk : (if i = b then some (ι b).rsv else h.cp i) = some k := hk
      rwa [if_neg hib] at hk
  · have key : ∀ x cx, (h.fill b (ι b).rsv cs).blk x = some cx → ∃ cy, h.blk x = some cy := fun x cx hx => by
      have hx : (if x = b then some (cs ++ List.replicate ((ι b).rsv - cs.length) unk) else h.blk x) = some cx := hx
      split at hx
      · rename_i e; subst e; exact ⟨cs, hc⟩
      · exact ⟨cx, hx⟩
    obtain ⟨_, y1⟩ := key i c hc1
    obtain ⟨_, y2⟩ := key j c' hc2
    exact r.apart i j _ _ hi hj y1 y2 hne
theorem capA_sound {T ty e : TypeId} {x x' : Value} (hT : P.underlying T = some (.slice e)) (r : HRel w0 ι h w) (hx : x ≠ junk → VRel w0.heap.size h.next ι x x') (hv : capA w0 (szT P e) x K h) :
    ValOut w0 ι h K ((Builtin.cap_ #[T] ty #[x']).run P w) := by
  obtain ⟨a, n, c, rfl, hv⟩ := hv
  have hx := hx (by simp [junk])
  have hrun : ∀ (a' : Option Addr) (c' : Nat), (Builtin.cap_ #[T] ty #[.slice a' n c']).run P w = .ok (.int .i64 (c' : Int)) w := fun a' c' => by simp [Builtin.cap_, run_und hT, goInt]
  by_cases hc : c = ucap
  · rw [if_pos hc] at hv
    obtain ⟨h0, b, o, cs, rfl, hB, hb, ho, hsz, hk⟩ := hv
    have hl := r.live b cs hB hb
    rcases hx.slice_inv with ⟨e1, _⟩ | ⟨ad, a', c', e1, rfl, hn, hp, hce, hcu, hcr, _⟩
    · cases e1
    · cases e1
      rw [hrun]
      have hq := (hcr hc (by omega)).2
      rw [hl.sz, hsz] at hq
      have hlen := hl.len
      have := hk c' hn (by simp only at hq; omega)
      simp only at hq
      rw [hq] at this
      exact ⟨ι, h.fill b (ι b).rsv cs, _, ⟨Nat.le_refl _, fun _ _ => rfl, fun _ _ e => e⟩, r.fill hB hb (by omega), .inr (.int _ _), this⟩
  · rw [if_neg hc] at hv
    rcases hx.slice_inv with ⟨rfl, rfl, rfl, rfl⟩ | ⟨ad, a', c', rfl, rfl, hn, hp, hce, _⟩
    · rw [hrun]
      exact .mk r (.int _ _) hv
    · rw [hrun, hce hc]
      exact .mk r (.int _ _) hv
theorem appZA_sound {T T2 ty e : TypeId} {kn : IntKind} {x x' y y' : Value} (hT : P.underlying T = some (.slice e)) (hT2 : P.underlying T2 = some (.int kn)) (ho : okT P e = true) (hs0 : szT P e ≠ 0)
    (r : HRel w0 ι h w) (hx : x ≠ junk → VRel w0.heap.size h.next ι x x') (hy : y ≠ junk → VRel w0.heap.size h.next ι y y') (hv : appZA w0 (szT P e) (byT P e) (zeroT P e) x y K h) :
    ValOut w0 ι h K ((Builtin.append_ #[T, T2] ty #[x', y']).run P w) := by
  obtain ⟨b, o, n, m, k, kk, old, rfl, rfl, hm, hB, hg, hsz, hcp, hk1, hby, h63, hk⟩ := hv
  have hx := hx (by simp [junk])
  obtain rfl := (hy (by simp [junk])).int_inv
  obtain ⟨ti, z, d, hti, hz, hd, hzs, hs, hbyt, hzt, hcst, hagg, hzr⟩ := okT_inv ho
  obtain ⟨-, cs, hb, hle, hold⟩ := Hp.getN_some hg
  simp only at hb hle hold
  have hl := r.live b cs hB hb
  have hbase := r.base
  have hoc : ∀ v, v ∈ old → isCell v = true := fun v hv => hl.cell v (by rw [hold] at hv; exact List.mem_of_mem_drop (List.mem_of_mem_take hv))
  have hol : old.length = n * szT P e := Hp.getN_length hg
  rcases hx.slice_inv with ⟨e1, _⟩ | ⟨ad, a', c', e1, rfl, hn, hp, hce, hcu, hcr, _⟩
  · cases e1
  · cases e1
    have hroom : c' < n + m := by
      rcases Nat.eq_zero_or_pos c' with h0 | h0
      · omega
      · have hq := (hcr rfl h0).2
        rw [hl.sz, hsz, hl.cp k hcp] at hq
        simp only at hq
        have : c' * szT P e < (n + m) * szT P e := by omega
        exact Nat.lt_of_mul_lt_mul_right this
    obtain ⟨old', hf, hrel⟩ : ∃ old' : List Value, (Builtin.firstCells ti.size n (.slice (some a') n c')).run P w.drew = .ok old'.toArray w.drew ∧ VRels w0.heap.size h.next ι old old' := by
      rcases Nat.eq_zero_or_pos n with h0 | h0
      · subst h0
        have : old = [] := List.eq_nil_of_length_eq_zero (by rw [hol, Nat.zero_mul])
        subst this
        exact ⟨[], by simp [Builtin.firstCells, loadCells, loadCellsFrom], .nil⟩
      · obtain ⟨vs', g1, g2⟩ := r.readN (P := P) (hp (by omega)) hg (fun hlt => by simp at hlt; omega)
        refine ⟨vs', ?_, g2⟩
        have := g1 w.drew rfl
        rw [hs] at this
        exact this
    have hb1 : (n + m) * ti.bytes ≤ 140737488355328 := by rw [← hbyt]; exact hby
    have hmb : m * ti.bytes ≤ (n + m) * ti.bytes := Nat.mul_le_mul_right _ (by omega)
    have hrun := Lib.run_append_grow_zeros w T T2 ty e ti z kk kn hT hT2 hti hz (some a') n c' old' hf m hm (by omega) hroom (by omega) (by omega) (growslice_fits hroom hb1)
    rw [hrun]
    have hzc : ∀ v, v ∈ z.cells.toList → isCell v = true := const_cells hcst
    have hz1 : (Builtin.zeroCells z.cells m).toList = zerosL (zeroT P e) m := by
      have := zerosL_array (z := z.cells) (n := m)
      rw [hzt, ← this]
      rfl
    have hzr : VRels w0.heap.size h.next ι (zerosL (zeroT P e) m) (zerosL (zeroT P e) m) := const_rels fun v hv => hcst v (by rw [hzt] at hv; exact mem_zerosL hv)
    let G := grownCap w (n + m) c' e
    have hG : n + m ≤ G := grownCap_ge _ _ _ _
    have hzl : (Builtin.zeroCells z.cells (G - (n + m))).size = (G - (n + m)) * ti.size := by simp [Builtin.zeroCells, hzs]
    have hcs : (old' ++ zerosL (zeroT P e) m ++ (Builtin.zeroCells z.cells (G - (n + m))).toList).length = G * szT P e := by
      rw [List.length_append, List.length_append, ← hrel.1, hol, zerosL_length, hzt, Array.length_toList, Array.length_toList, hzs, hzl, hs, ← Nat.add_mul, ← Nat.add_mul]
      congr 1; omega
    obtain ⟨ι', hext, hnew, hr⟩ := (r.drew (w.drawn + 1)).new (cs := old ++ zerosL (zeroT P e) m) (cs' := old' ++ zerosL (zeroT P e) m ++ (Builtin.zeroCells z.cells (G - (n + m))).toList) (szT P e) e (0, 0)
      (fun v hv => by rcases List.mem_append.1 hv with q | q; exact hoc v q; exact const_cells hcst v (by rw [hzt] at q; exact mem_zerosL q))
      (by
        have : (old' ++ zerosL (zeroT P e) m ++ (Builtin.zeroCells z.cells (G - (n + m))).toList).take (old ++ zerosL (zeroT P e) m).length = old' ++ zerosL (zeroT P e) m := by
          rw [List.take_append_of_le_length (by simp [hrel.1]), List.take_of_length_le (by simp [hrel.1])]
        rw [this]
        exact hrel.append hzr)
      (.inr (by simp))
      (fun v hv => by
        rcases List.mem_append.1 hv with q | q
        · rcases List.mem_append.1 q with q | q
          · exact hrel.cells hoc v q
          · exact const_cells hcst v (by rw [hzt] at q; exact mem_zerosL q)
        · exact zeroCells_cell hzc v q)
    have hnew' : ι' h.next = ⟨w.heap.size, 0, G * szT P e, szT P e⟩ := by rw [hnew, hcs]
    refine ⟨ι', _, _, hext, ?_, .inr ?_, hk⟩
    · have : (old'.toArray ++ Builtin.zeroCells z.cells m ++ Builtin.zeroCells z.cells (G - (n + m))) = (old' ++ zerosL (zeroT P e) m ++ (Builtin.zeroCells z.cells (G - (n + m))).toList).toArray := by
        apply Array.ext'
        simp [hz1]
      show HRel w0 ι' _ (w.drew.alloc (.cells (old'.toArray ++ Builtin.zeroCells z.cells m ++ Builtin.zeroCells z.cells (G - (n + m))) e))
      rw [this]
      exact hr
    · have := VRel.sint (B := w0.heap.size) (nx := (h.new (old ++ zerosL (zeroT P e) m) (szT P e)).next) (ι := ι') h.next 0 (n + m) ucap G hbase (by show h.next < h.next + 1; omega) hG (.inl ⟨rfl, by rw [hnew']; simp⟩)
      rw [hnew'] at this
      simpa using this
theorem ovA_sound {f : FuncId} {x x' y y' : Value} (r : HRel w0 ι h w) (hx : x ≠ junk → VRel w0.heap.size h.next ι x x') (hy : y ≠ junk → VRel w0.heap.size h.next ι y y') (hv : ovA P w0 f x y K h) :
    OpOut P w0 ι h K ((callFunc f #[x', y']).run P w) := by
  rcases hv with hv | ⟨⟨fn, q1, q2, q3, q4, q5⟩, a, b, rfl, rfl, hk⟩
  rotate_left
  · have e1 := (hx (by simp [junk])).string_inv
    have e2 := (hy (by simp [junk])).string_inv
    subst e1 e2
    rw [run_callFunc_extern q1 q2 q3 q4 q5, Lib.run_compareString]
    exact ⟨ι, h, _, Ext.refl _ _, r, .inr (.int _ _), hk⟩
  obtain ⟨⟨fn, tr, t, e, q1, q2, q3, q4, q5, q7, q8'⟩, b, o, n, c, b', o', n', c', cs, cs', rfl, rfl, hne, hB, hB', hb, hb', ho, ho', hn, hn', hsz, hk⟩ := hv
  have hx := hx (by simp [junk])
  have hy := hy (by simp [junk])
  have hl := r.live b cs hB hb
  have hl' := r.live b' cs' hB' hb'
  have hlen := hl.len
  have hlen' := hl'.len
  obtain ⟨-, arr, ea, lo, hi, hh, g1, g2, g3, -⟩ := hl.row (by omega)
  obtain ⟨-, arr', ea', lo', hi', hh', g1', g2', g3', -⟩ := hl'.row (by omega)
  have hβ : (ι b).β ≠ (ι b').β := by
    have := r.apart b b' cs cs' hB hB' hb hb' hne
    unfold Pl.apart at this
    omega
  have hlh : lo = hi := by
    rcases g2 with q | ⟨-, q⟩
    · exact q
    · rcases hsz with hsz | hsz
      · exact (hl.um hsz).2 _ _ _ _ (by omega) hh
      · rw [hl.sz] at q; exact absurd q hsz
  have ex : ∃ cx, x' = .slice (some ⟨(ι b).β, (ι b).d + o, none⟩) n cx := by
    cases hx with
    | sext _ _ _ hlt => simp at hlt; omega
    | szero => omega
    | sempty => omega
    | sint _ _ _ _ cx => exact ⟨cx, rfl⟩
  have ey : ∃ cy, y' = .slice (some ⟨(ι b').β, (ι b').d + o', none⟩) n' cy := by
    cases hy with
    | sext _ _ _ hlt => simp at hlt; omega
    | szero => omega
    | sempty => omega
    | sint _ _ _ _ cx => exact ⟨cx, rfl⟩
  obtain ⟨cx, rfl⟩ := ex
  obtain ⟨cy, rfl⟩ := ey
  have hsa : w.shape? (ι b).β = some (ea, arr.size) := by unfold World.shape?; rw [hh]
  have hsb : w.shape? (ι b').β = some (ea', arr'.size) := by unfold World.shape?; rw [hh']
  have hfz : ∀ q, w.frozen? ⟨(ι b).β, q, none⟩ = false := fun q => by simp only [World.frozen?, hh]; simp; omega
  obtain ⟨i, q8⟩ := Option.isSome_iff_exists.1 q8'
  rw [run_callFunc_extern q1 q2 q3 q4 q5]
  rw [Lib.run_overlaps_apart w t tr e q7 i.size (fun w => run_szOf q8 w) ⟨(ι b).β, (ι b).d + o, none⟩ ⟨(ι b').β, (ι b').d + o', none⟩ n cx n' cy hβ ea ea' arr.size arr'.size hsa hsb (by omega) (hfz _) (hfz _)]
  exact ⟨ι, h, _, Ext.refl _ _, r, .inr (.bool false), hk⟩
/-! ### Operands -/
theorem constV_rel {B nx : Nat} {ι : Inj} {v : Value} (hne : constV v ≠ junk) : VRel B nx ι (constV v) v := by
  unfold constV at hne ⊢
  split
  · rename_i cs
    simp only at hne
    split
    · rename_i hall
      have hk : ∀ (i : Nat) v, cs[i]? = some v → constOK v = true := fun i v hv => List.all_eq_true.1 hall v (by
        obtain ⟨hi, rfl⟩ := Array.getElem?_eq_some_iff.1 hv
        simp)
      exact .agg _ _ rfl (fun i v v' a b => by rw [a] at b; cases b; exact (constOK_cl (hk i v a)).1 nx ι) (fun i v a => (constOK_cl (B := 0) (hk i v a)).2)
    · rename_i hall
      rw [if_neg hall] at hne
      exact absurd rfl hne
  · rename_i hna
    split
    · rename_i hok
      exact (constOK_cl hok).1 nx ι
    · rename_i hok
      split at hne
      · rename_i cs; exact absurd rfl (hna cs)
      · rw [if_neg hok] at hne; exact absurd rfl hne

theorem FRel.eval {B nx : Nat} {ι : Inj} {n : Nat} {t : Fr} {a : Act} (f : FRel B nx ι n t a.tmps) (x : Operand) (hne : ev n t x ≠ junk) : VRel B nx ι (ev n t x) (a.eval x) := by
  cases x with
  | tmp i =>
    simp only [ev] at hne ⊢
    split
    · rename_i hi
      rw [if_pos hi] at hne
      exact f.2 i hi hne
    · rename_i hi
      rw [if_neg hi] at hne
      exact absurd rfl hne
  | const v => exact constV_rel hne
  | global g => exact absurd rfl hne
  | func g => exact .func _ _ _ _ _ rfl rfl (fun i v v' h => by simp at h) (fun i v v' h => by simp at h) ⟨g, rfl⟩

theorem FRel.put {B nx : Nat} {ι : Inj} {n : Nat} {t : Fr} {a : Act} (f : FRel B nx ι n t a.tmps) (d : Option Nat) {v v' : Value} (hv : v = junk ∨ VRel B nx ι v v') : FRel B nx ι n (putA t d v) (a.put d v').tmps := by
  cases d with
  | none => exact f
  | some d =>
    refine ⟨by simp [Act.put]; exact f.1, fun i hi hj => ?_⟩
    simp only [putA, upd, Act.put] at hj ⊢
    by_cases hid : i = d
    · subst hid
      rw [if_pos rfl] at hj ⊢
      rw [Array.getD_eq_getD_getElem?, Array.getElem?_setIfInBounds, if_pos rfl, if_pos (by rw [f.1]; exact hi)]
      rcases hv with e | hv
      · exact absurd e hj
      · exact hv
    · rw [if_neg hid] at hj ⊢
      rw [Array.getD_eq_getD_getElem?, Array.getElem?_setIfInBounds, if_neg (fun e => hid e.symm), ← Array.getD_eq_getD_getElem?]
      exact f.2 i hi hj
end
end Go.Proofs.Ytiakadkooclelaa.Ah
