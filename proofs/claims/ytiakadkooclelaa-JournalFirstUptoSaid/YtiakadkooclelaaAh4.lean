/- append: the abstract heap gets a new block, whether the model's array had room or not. -/
import Derived.Test.YtiakadkooclelaaAh3
set_option linter.unusedVariables false
set_option linter.unusedSimpArgs false
namespace Go.Proofs.Ytiakadkooclelaa.Ah
open Go

def Dst (B s : Nat) (h : Hp) (x : Value) (m n : Nat) (old : List Value) (h1 : Hp) : Prop :=
  match x with
  | .slice none n' _ => n = 0 ∧ n' = 0 ∧ old = [] ∧ h1 = h
  | .slice (some ad) n' c => n = n' ∧ ((n = 0 ∧ old = []) ∨ (0 < n ∧ h.getN ad (n * s) = some old ∧ (ad.block < B → ∀ v, v ∈ old → ClC B v))) ∧
      if ad.block < B then c < n + m ∧ h1 = h
      else if c = ucap then ((h.blk ad.block).isSome = true ∧ h.esz ad.block = s ∧ (h1 = h.kill ad.block ∨ (h1 = h ∧ 0 < n ∧ ∃ k, h.cp ad.block = some k ∧ k < ad.off + (n + m) * s)))
      else if c < n + m then h1 = h
      else (∃ cs, h.blk ad.block = some cs ∧ ad.off + c * s ≤ cs.length) ∧ h.esz ad.block = s ∧ h1 = h.kill ad.block
  | _ => False

theorem Dst.next {B s : Nat} {h h1 : Hp} {x : Value} {m n : Nat} {old : List Value} (d : Dst B s h x m n old h1) : h1.next = h.next := by
  unfold Dst at d
  split at d
  · obtain ⟨_, _, _, rfl⟩ := d; rfl
  · obtain ⟨_, _, d⟩ := d
    split at d
    · obtain ⟨_, rfl⟩ := d; rfl
    · split at d
      · obtain ⟨_, _, d⟩ := d
        rcases d with rfl | ⟨rfl, _⟩ <;> rfl
      · split at d
        · rw [d]
        · obtain ⟨_, _, rfl⟩ := d; rfl
  · exact d.elim

theorem Dst.lp {B s : Nat} {h h1 : Hp} {x : Value} {m n : Nat} {old : List Value} (d : Dst B s h x m n old h1) : h1.lp = h.lp := by
  unfold Dst at d
  split at d
  · obtain ⟨_, _, _, rfl⟩ := d; rfl
  · obtain ⟨_, _, d⟩ := d
    split at d
    · obtain ⟨_, rfl⟩ := d; rfl
    · split at d
      · obtain ⟨_, _, d⟩ := d
        rcases d with rfl | ⟨rfl, _⟩ <;> rfl
      · split at d
        · rw [d]
        · obtain ⟨_, _, rfl⟩ := d; rfl
  · exact d.elim

theorem zeroCells_cell {z : Array Value} {n : Nat} (hz : ∀ v, v ∈ z.toList → isCell v = true) : ∀ v, v ∈ (Builtin.zeroCells z n).toList → isCell v = true := by
  intro v hv
  unfold Builtin.zeroCells at hv
  simp only [Array.toList_map, List.mem_map] at hv
  obtain ⟨i, hi, rfl⟩ := hv
  have hi' : i < n * z.size := by simpa using hi
  have hp : 0 < z.size := Nat.pos_of_ne_zero fun e => by rw [e] at hi'; omega
  have hm := Nat.mod_lt i hp
  rw [getElem!_pos z (i % z.size) hm]
  exact hz _ (by simp)
theorem VRels.cells {B nx : Nat} {ι : Inj} {l l' : List Value} (r : VRels B nx ι l l') (h : ∀ v, v ∈ l → isCell v = true) : ∀ v, v ∈ l' → isCell v = true := by
  intro v hv
  obtain ⟨i, hi, hv'⟩ := List.getElem_of_mem hv
  have hix : i < l.length := by rw [r.1]; exact hi
  rw [(r.2 i l[i] v (by simp [hix]) (by rw [List.getElem?_eq_getElem hi, hv'])).isCell_eq]
  exact h _ (List.getElem_mem hix)
section
variable {w0 : World} {ι : Inj} {h : Hp} {w : World} {P : Program}

theorem PRel.int_inv {B nx : Nat} {ι : Inj} {ad a' : Addr} (hp : PRel B nx ι ad a') (hb : B ≤ ad.block) : ad.spot = none ∧ ad.block < nx ∧ a' = ⟨(ι ad.block).β, (ι ad.block).d + ad.off, none⟩ := by
  cases hp with
  | pext _ hlt => omega
  | pint b o h1 h2 => exact ⟨rfl, h2, rfl⟩

theorem HRel.append_fit (r : HRel w0 ι h w) {ad : Addr} {a' : Addr} {n m s c' : Nat} {cs old ys ys' : List Value} (hb : w0.heap.size ≤ ad.block) (hc : h.blk ad.block = some cs) (hp : PRel w0.heap.size h.next ι ad a')
    (hss : h.esz ad.block = s) (hs : 0 < s) (hm : 0 < m) (hroom : n + m ≤ c') (hrsv : ad.off + c' * s ≤ (ι ad.block).rsv) (hold : (n = 0 ∧ old = []) ∨ (0 < n ∧ h.getN ad (n * s) = some old))
    (hy : VRels w0.heap.size h.next ι ys ys') (hyl : ys.length = m * s) (hcell : ∀ v, v ∈ ys → isCell v = true) :
    ∃ ι' w', (storeCells (a'.add (n * s)) ys').run P w = .ok () w' ∧ Ext ι h ι' ((h.kill ad.block).newD (old ++ ys) s) ∧ HRel w0 ι' ((h.kill ad.block).newD (old ++ ys) s) w' ∧
      ι' h.next = ⟨(ι ad.block).β, (ι ad.block).d + ad.off, c' * s, s⟩ ∧ a' = ⟨(ι ad.block).β, (ι ad.block).d + ad.off, none⟩ := by
  obtain ⟨hsp, hlt, rfl⟩ := hp.int_inv hb
  obtain ⟨ab, ao, asp⟩ := ad
  simp only at hsp hb hc hrsv hlt ⊢
  subst hsp
  have hmul : (n + m) * s ≤ c' * s := Nat.mul_le_mul_right _ hroom
  rw [Nat.add_mul] at hmul
  have hms : 0 < m * s := Nat.mul_pos hm hs
  obtain ⟨lt, len, sz, cell, row, cp, um⟩ := r.live ab cs hb hc
  obtain ⟨hB, arr, e, lo, hi, hh, g1, g2, g4, g3⟩ := row (by omega)
  have hyl' : ys'.length = m * s := by rw [← hy.1]; exact hyl
  have hcell' : ∀ v, v ∈ ys' → isCell v = true := fun v hv => by
    obtain ⟨i, hi', hv'⟩ := List.getElem_of_mem hv
    have hix : i < ys.length := by omega
    rw [(hy.2 i ys[i] v (by simp [hix]) (by rw [List.getElem?_eq_getElem hi', hv'])).isCell_eq]
    exact hcell _ (List.getElem_mem hix)
  obtain ⟨arr2, hrun, hs2, hk2⟩ := run_storeCells (P := P) (ι ab).β e lo hi ys' w arr ((ι ab).d + ao + n * s) 0 hh hcell' (by omega) (fun j hj => by omega)
  have r2 := r.update (cs2 := []) hb hc hh (by omega) hs2 (stored_cells g4 hcell' hk2) (by simp) (fun v hv => by simp at hv) (fun j v hj => by simp at hj)
  have hoc : ∀ v, v ∈ old → isCell v = true := fun v hv => by
    rcases hold with ⟨_, rfl⟩ | ⟨_, hg⟩
    · simp at hv
    · obtain ⟨_, cs', hbk, _, rfl⟩ := Hp.getN_some hg
      simp only at hbk
      rw [hc] at hbk
      cases hbk
      exact cell v (List.mem_of_mem_drop (List.mem_of_mem_take hv))
  have hol : old.length = n * s := by
    rcases hold with ⟨rfl, rfl⟩ | ⟨_, hg⟩
    · simp
    · exact Hp.getN_length hg
  have hβl := (Array.getElem?_eq_some_iff.1 hh).1
  obtain ⟨ι', hext, hnew, hrel⟩ := r2.carve (b := ab) (cs := []) (l := old ++ ys) hb (by simp [Hp.put]) ao (c' * s) s (by rw [sz]; exact hss) hrsv (by simp; omega)
    (fun v hv => by rcases List.mem_append.1 hv with h | h; exact hoc v h; exact hcell v h)
    (fun j v hj => by
      refine ⟨arr2, e, (lo, hi), ?_⟩
      by_cases hjo : j < n * s
      · rw [List.getElem?_append_left (by omega)] at hj
        rcases hold with ⟨rfl, rfl⟩ | ⟨_, hg⟩
        · simp at hj
        · obtain ⟨_, cs', hbk, hle, rfl⟩ := Hp.getN_some hg
          simp only at hbk hle hj
          rw [hc] at hbk
          cases hbk
          rw [List.getElem?_take, if_pos hjo, List.getElem?_drop] at hj
          obtain ⟨v', e1, e2⟩ := g3 _ _ hj
          refine ⟨v', ?_, ?_, e2⟩
          · show (w.heap.setIfInBounds _ _)[_]? = _
            rw [heap_set_get _ _ _ _ hβl, if_pos rfl]
          · rw [hk2, if_neg (by omega), ← e1]
            congr 1
            omega
      · rw [List.getElem?_append_right (by omega), hol] at hj
        obtain ⟨v', e1, e2⟩ := hy.get hj
        have hjy : j - n * s < ys.length := (List.getElem?_eq_some_iff.1 hj).1
        refine ⟨v', ?_, ?_, e2⟩
        · show (w.heap.setIfInBounds _ _)[_]? = _
          rw [heap_set_get _ _ _ _ hβl, if_pos rfl]
        · rw [hk2, if_pos (by omega), ← e1]
          congr 1
          omega)
  have heq : ((h.put ab []).kill ab).newD (old ++ ys) s = (h.kill ab).newD (old ++ ys) s := by
    have e1 : (fun i => if i = h.next then some (old ++ ys) else if i = ab then none else if i = ab then some [] else h.blk i) = (fun i => if i = h.next then some (old ++ ys) else if i = ab then none else h.blk i) := by
      funext i
      split
      · rfl
      · split <;> rfl
    have e2 : (fun i => if i = h.next then false else if i = ab then h.um i && ([] : List Value).all isPtr else h.um i) = (fun i => if i = h.next then false else h.um i) := by
      funext i
      split
      · rfl
      · split
        · simp
        · rfl
    unfold Hp.newD Hp.new Hp.kill Hp.put
    simp only [e1, e2]
  rw [heq] at hext hrel
  refine ⟨ι', _, ?_, ⟨hext.1, hext.2, hext.3⟩, hrel, hnew, by first | rfl | trivial⟩
  rw [addr_add_none]
  exact hrun

theorem HRel.append (r : HRel w0 ι h w) {t t2 ty e : TypeId} {i : TypeInfo} {z : Value} (ht : P.underlying t = some (.slice e)) (hi : P.info? e = some i) (hzv : i.zero = some z)
    {d2 : TypeDesc} (ht2 : P.underlying t2 = some d2) (hd2 : ∀ k, d2 ≠ .int k) (hs0 : 0 < i.size)
    {x x' y y' : Value} {n m : Nat} {old ys : List Value} {h1 : Hp} (hx : VRel w0.heap.size h.next ι x x') (hy : VRel w0.heap.size h.next ι y y')
    (hd : Dst w0.heap.size i.size h x m n old h1) (hsrc : Src w0.heap.size h i.size y m ys) (hlen : lenA y = some m) (hm : 0 < m)
    (hb : (n + m) * i.bytes ≤ 140737488355328) (h63 : n + m ≤ 140737488355328) (hzc : z.cells.size = i.size) (hzcell : ∀ v, v ∈ z.cells.toList → isCell v = true) :
    ∃ ι' w' v', (Builtin.append_ #[t, t2] ty #[x', y']).run P w = .ok v' w' ∧ Ext ι h ι' (h1.newD (old ++ ys) i.size) ∧ HRel w0 ι' (h1.newD (old ++ ys) i.size) w' ∧
      VRel w0.heap.size (h1.newD (old ++ ys) i.size).next ι' (.slice (some ⟨h.next, 0, none⟩) (n + m) ucap) v' := by
  obtain ⟨ys', hfirst, hyr, hyl, hyc⟩ := r.src (P := P) hsrc hy
  have hlen' : ∀ w, (Builtin.lenOf y').run P w = .ok m w := by
    intro w
    cases hy <;> simp [lenA] at hlen <;> simp [Builtin.lenOf, hlen]
  have hbase := r.base
  have hdl := hd.lp
  -- a new array
  have grow : ∀ (b : Option Addr) (c' : Nat) (old' : List Value), x' = .slice b n c' → c' < n + m → (∀ w', w'.heap = w.heap → (Builtin.firstCells i.size n (.slice b n c')).run P w' = .ok old'.toArray w') →
      VRels w0.heap.size h.next ι old old' → old.length = n * i.size → (∀ v, v ∈ old → isCell v = true) → ∀ h1' : Hp, HRel w0 ι h1' w → h1'.next = h.next → h1 = h1' →
      ∃ ι' w' v', (Builtin.append_ #[t, t2] ty #[x', y']).run P w = .ok v' w' ∧ Ext ι h ι' (h1.newD (old ++ ys) i.size) ∧ HRel w0 ι' (h1.newD (old ++ ys) i.size) w' ∧
        VRel w0.heap.size (h1.newD (old ++ ys) i.size).next ι' (.slice (some ⟨h.next, 0, none⟩) (n + m) ucap) v' := by
    intro b c' old' hx' hc' hfo hor hol hoc h1' r1 hnx hh1
    subst hh1
    obtain ⟨k, hk1, hk2, hrun⟩ := run_append_more (P := P) (w := w) ht hi hzv ht2 hd2 (b := b) (n := n) (c := c') (m := m) (ty := ty) (hlen' w) hfirst hfo hc' hb (by omega) (.inr trivial)
    have hzl : ∀ q, (Builtin.zeroCells z.cells q).size = q * i.size := fun q => by simp [Builtin.zeroCells, hzc]
    have hol' : old'.length = n * i.size := by rw [← hor.1]; exact hol
    have hyl' : ys'.length = m * i.size := by rw [← hyr.1]; exact hyl
    have hcs : (old' ++ ys' ++ (Builtin.zeroCells z.cells (k - (n + m))).toList).length = k * i.size := by
      simp only [List.length_append, hol', hyl', Array.length_toList, hzl, ← Nat.add_mul]
      congr 1; omega
    obtain ⟨ι', hext, hnew, hrel⟩ := (r1.drew (w.drawn + 1)).new (cs := old ++ ys) (cs' := old' ++ ys' ++ (Builtin.zeroCells z.cells (k - (n + m))).toList) i.size e (0, 0)
      (fun v hv => by rcases List.mem_append.1 hv with h | h; exact hoc v h; exact hyc v h)
      (by
        have : (old' ++ ys' ++ (Builtin.zeroCells z.cells (k - (n + m))).toList).take (old ++ ys).length = old' ++ ys' := by
          rw [List.take_append_of_le_length (by simp [hor.1, hyr.1]), List.take_of_length_le (by simp [hor.1, hyr.1])]
        rw [this, hnx]
        exact hor.append hyr)
      (.inr (by simp))
      (fun v hv => by
        rcases List.mem_append.1 hv with q | q
        · rcases List.mem_append.1 q with q | q
          · exact hor.cells hoc v q
          · exact hyr.cells hyc v q
        · exact zeroCells_cell hzcell v q)
    have hnew' : ι' h.next = ⟨w.heap.size, 0, k * i.size, i.size⟩ := by rw [← hnx, hnew, hcs]
    refine ⟨ι', _, _, by rw [hx']; exact hrun, ⟨by rw [← hnx]; exact hext.1, by rw [← hnx]; exact hext.2, fun b g e => by show h1.lp b = _; rw [hdl]; exact e⟩, ?_, ?_⟩
    · have : (old'.toArray ++ ys'.toArray ++ Builtin.zeroCells z.cells (k - (n + m))) = (old' ++ ys' ++ (Builtin.zeroCells z.cells (k - (n + m))).toList).toArray := by
        apply Array.ext'
        simp
      rw [this]
      exact hrel.dim
    · have := VRel.sint (B := w0.heap.size) (nx := (h1.newD (old ++ ys) i.size).next) (ι := ι') h.next 0 (n + m) ucap k hbase (by show h.next < h1.next + 1; omega) hk1 (.inl ⟨rfl, by rw [hnew']; simp⟩)
      rw [hnew'] at this
      simpa using this
  unfold Dst at hd
  split at hd
  · rename_i n' c
    obtain ⟨rfl, rfl, rfl, rfl⟩ := hd
    rcases hx.slice_inv with ⟨_, _, rfl, rfl⟩ | ⟨_, _, _, e, _⟩
    · exact grow none 0 [] rfl (by omega) (fun w' _ => by simp [Builtin.firstCells]) .nil (by simp) (fun v hv => by simp at hv) h1 r rfl rfl
    · cases e
  · rename_i ad n' c
    obtain ⟨rfl, hold, hd⟩ := hd
    rcases hx.slice_inv with ⟨e, _⟩ | ⟨ad0, a', c', e, rfl, hn, hp, hce, hcu, hcr, hext, _⟩
    · cases e
    · cases e
      by_cases hroom : n + m ≤ c'
      · -- there is room
        have key : ∃ cs, w0.heap.size ≤ ad.block ∧ h.blk ad.block = some cs ∧ h.esz ad.block = i.size ∧ ad.off + c' * i.size ≤ (ι ad.block).rsv ∧ h1 = h.kill ad.block := by
          split at hd
          · rename_i hlt
            have : c' = c := hce (fun e => by have := (hcu e).1; omega)
            omega
          · rename_i hge
            split at hd
            · rename_i hu
              obtain ⟨hsome, hsz, hd⟩ := hd
              obtain ⟨cs, hcs⟩ := Option.isSome_iff_exists.1 hsome
              have := (hcr hu (by omega)).2
              rw [(r.live _ cs (by omega) hcs).sz, hsz] at this
              refine ⟨cs, by omega, hcs, hsz, Nat.le_of_eq this, ?_⟩
              rcases hd with hd | ⟨-, -, k, hk, hkl⟩
              · exact hd
              · exfalso
                rw [(r.live _ cs (by omega) hcs).cp k hk] at this
                have h2 : (n + m) * i.size ≤ c' * i.size := Nat.mul_le_mul_right _ hroom
                omega
            · rename_i hu
              have hcc : c' = c := hce hu
              split at hd
              · omega
              · obtain ⟨⟨cs, hcs, hle⟩, hsz, rfl⟩ := hd
                refine ⟨cs, by omega, hcs, hsz, ?_, rfl⟩
                have := (r.live _ cs (by omega) hcs).len
                rw [hcc]
                omega
        obtain ⟨cs, hB, hcs, hsz, hrsv, rfl⟩ := key
        obtain ⟨ι', w', hst, hext', hrel, hnew, ha'⟩ := r.append_fit (P := P) (n := n) (m := m) hB hcs (hp (by omega)) hsz hs0 hm hroom hrsv (by
          rcases hold with h | ⟨h0, h, _⟩
          · exact .inl h
          · exact .inr ⟨h0, h⟩) hyr hyl hyc
        refine ⟨ι', w', _, run_append_fit (P := P) ht hi ht2 hd2 (hlen' w) (hfirst w rfl) hroom hst, hext', hrel, ?_⟩
        have := VRel.sint (B := w0.heap.size) (nx := ((h.kill ad.block).newD (old ++ ys) i.size).next) (ι := ι') h.next 0 (n + m) ucap c' hbase (by show h.next < h.next + 1; omega) hroom (.inl ⟨rfl, by rw [hnew]; simp⟩)
        rw [hnew] at this
        rw [ha']
        simpa using this
      · -- there is none
        have hoc : ∀ v, v ∈ old → isCell v = true := by
          rcases hold with ⟨_, rfl⟩ | ⟨_, hg, hcl⟩
          · intro v hv; simp at hv
          · exact r.cells_of hg hcl
        have hol : old.length = n * i.size := by
          rcases hold with ⟨rfl, rfl⟩ | ⟨_, hg, _⟩
          · simp
          · exact Hp.getN_length hg
        have hfo : ∃ old' : List Value, (∀ w', w'.heap = w.heap → (Builtin.firstCells i.size n (.slice (some a') n c')).run P w' = .ok old'.toArray w') ∧ VRels w0.heap.size h.next ι old old' := by
          rcases hold with ⟨rfl, rfl⟩ | ⟨h0, hg, hcl⟩
          · exact ⟨[], fun w' _ => by simp [Builtin.firstCells, loadCells, loadCellsFrom], .nil⟩
          · obtain ⟨vs', g1, g2⟩ := r.readN (P := P) (hp (by omega)) hg (fun hlt v hv => (hcl hlt v hv).1)
            exact ⟨vs', g1, g2⟩
        obtain ⟨old', hf1, hf2⟩ := hfo
        have hh1 : h1 = h ∨ (w0.heap.size ≤ ad.block ∧ h1 = h.kill ad.block) := by
          split at hd
          · exact .inl hd.2
          · split at hd
            · rcases hd.2.2 with q | q
              · exact .inr ⟨by omega, q⟩
              · exact .inl q.1
            · split at hd
              · exact .inl hd
              · exact .inr ⟨by omega, hd.2.2⟩
        rcases hh1 with rfl | ⟨hB, rfl⟩
        · exact grow _ c' old' rfl (by omega) hf1 hf2 hol hoc h1 r rfl rfl
        · exact grow _ c' old' rfl (by omega) hf1 hf2 hol hoc _ (r.kill _ hB) rfl rfl
  · exact hd.elim
end
end Go.Proofs.Ytiakadkooclelaa.Ah
