/- Reading and writing: the abstract heap and the world go together. -/
import Derived.Test.YtiakadkooclelaaAh1
set_option linter.unusedVariables false
set_option linter.unusedSimpArgs false
namespace Go.Proofs.Ytiakadkooclelaa.Ah
open Go

abbrev PRel (B nx : Nat) (ι : Inj) (a a' : Addr) : Prop := VRel B nx ι (.pointer (some a)) (.pointer (some a'))

theorem PRel.add {B nx : Nat} {ι : Inj} {a a' : Addr} (h : PRel B nx ι a a') (n : Nat) : PRel B nx ι (a.add n) (a'.add n) := by
  cases h with
  | pext _ h =>
    unfold Addr.add
    split
    · exact .pext _ h
    · exact .pext _ h
  | pint b o h1 h2 =>
    by_cases h0 : n = 0
    · simp only [Addr.add, h0, if_true]
      exact .pint b o h1 h2
    · simp only [Addr.add, if_neg h0, Nat.add_assoc]
      exact .pint b (o + n) h1 h2

theorem addr_add_none (b o n : Nat) : (⟨b, o, none⟩ : Addr).add n = ⟨b, o + n, none⟩ := by
  unfold Addr.add
  split
  · simp_all
  · rfl

section
variable {w0 : World} {ι : Inj} {h : Hp} {w : World}

theorem HRel.read (r : HRel w0 ι h w) {a a' : Addr} {v : Value} (ha : PRel w0.heap.size h.next ι a a') (hg : h.get a = some v) (hcl : a.block < w0.heap.size → Cl w0.heap.size v) :
    ∃ v', w.cell? a' = some v' ∧ VRel w0.heap.size h.next ι v v' := by
  unfold Hp.get at hg
  split at hg
  case isFalse => simp at hg
  case isTrue hs =>
  obtain ⟨cs, hb, hv⟩ := Option.bind_eq_some_iff.1 hg
  cases ha with
  | pext _ hlt =>
    rw [r.exta _ hlt] at hb
    refine ⟨v, ?_, hcl hlt _ _⟩
    unfold World.cell?
    rw [r.ext _ hlt]
    unfold extBlk at hb
    split at hb
    · rename_i c e f heq
      rw [heq]
      simp at hb
      subst hb
      simp only
      have : a.spot.isSome = false := by cases h : a.spot <;> simp_all
      rw [this]
      simpa using hv
    · simp at hb
  | pint b o h1 h2 =>
    obtain ⟨lt, len, sz, cell, row, _⟩ := r.live b cs h1 hb
    have hlt : o < cs.length := (List.getElem?_eq_some_iff.1 hv).1
    obtain ⟨_, arr, e, lo, hi, hh, _, _, _, hc⟩ := row (by omega)
    obtain ⟨v', hv', hr⟩ := hc o v hv
    exact ⟨v', by simp [World.cell?, hh, hv'], hr⟩

theorem HRel.kill (r : HRel w0 ι h w) (b : Nat) (hb : w0.heap.size ≤ b) : HRel w0 ι (h.kill b) w := by
  have hk : ∀ i c, (h.kill b).blk i = some c → h.blk i = some c := fun i c hc => by
    simp only [Hp.kill] at hc
    split at hc
    · simp at hc
    · exact hc
  refine ⟨r.base, r.size, r.ext, fun i hi => ?_, r.os, r.tape, r.output, fun i c hi hc => ?_, fun i j c c' hi hj hc hc' hne => r.apart i j c c' hi hj (hk _ _ hc) (hk _ _ hc') hne, r.loops⟩
  · simp only [Hp.kill]
    rw [if_neg (by omega)]
    exact r.exta i hi
  · obtain ⟨a1, a2, a3, a4, a5, a6, a7⟩ := r.live i c hi (hk _ _ hc)
    exact ⟨a1, a2, a3, a4, a5, a6, a7⟩

theorem HRel.update (r : HRel w0 ι h w) {b : Nat} {cs cs2 : List Value} (hb : w0.heap.size ≤ b) (hc : h.blk b = some cs)
    {arr arr2 : Array Value} {e : TypeId} {lo hi : Nat} (hh : w.heap[(ι b).β]? = some (.cells arr e (lo, hi))) (h0 : 0 < (ι b).rsv)
    (hsz : arr2.size = arr.size) (hca : ∀ j, j < (ι b).rsv → ∃ v', arr2[(ι b).d + j]? = some v' ∧ isCell v' = true)
    (hl : cs2.length ≤ (ι b).rsv) (hcell : ∀ v, v ∈ cs2 → isCell v = true)
    (hr : ∀ (j : Nat) v, cs2[j]? = some v → ∃ v', arr2[(ι b).d + j]? = some v' ∧ VRel w0.heap.size h.next ι v v') :
    HRel w0 ι (h.put b cs2) { w with heap := w.heap.setIfInBounds (ι b).β (.cells arr2 e (lo, hi)) } := by
  obtain ⟨hβ, arr0, e0, lo0, hi0, hh0, hin, hfz, _, _⟩ := (r.live b cs hb hc).row h0
  rw [hh] at hh0
  obtain ⟨rfl, rfl, rfl, rfl⟩ : arr = arr0 ∧ e = e0 ∧ lo = lo0 ∧ hi = hi0 := by simpa using hh0
  have hβl : (ι b).β < w.heap.size := (Array.getElem?_eq_some_iff.1 hh).1
  have hoth : ∀ i, i ≠ (ι b).β → (w.heap.setIfInBounds (ι b).β (.cells arr2 e (lo, hi)))[i]? = w.heap[i]? := fun i hne => by
    rw [Array.getElem?_setIfInBounds, if_neg (by omega)]
  have hsame : (w.heap.setIfInBounds (ι b).β (.cells arr2 e (lo, hi)))[(ι b).β]? = some (.cells arr2 e (lo, hi)) := by
    rw [Array.getElem?_setIfInBounds, if_pos rfl, if_pos hβl]
  refine ⟨r.base, by simpa using r.size, fun i hi' => (hoth i (by omega)).trans (r.ext i hi'), fun i hi' => ?_, r.os, r.tape, r.output, fun i c hi' hc' => ?_, fun i j c c' hi' hj' hc1 hc2 hne => ?_, r.loops.cells hh hoth⟩
  · simp only [Hp.put]
    rw [if_neg (by omega)]
    exact r.exta i hi'
  · by_cases hib : i = b
    · subst hib
      simp only [Hp.put, if_true, Option.some.injEq] at hc'
      subst hc'
      obtain ⟨lt, _, sz, _, _, cp, um⟩ := r.live i cs hi' hc
      refine ⟨lt, hl, sz, hcell, fun _ => ⟨hβ, arr2, e, lo, hi, hsame, by omega, by rw [hsz]; exact hfz, hca, hr⟩, cp, fun hu => ?_⟩
      simp only [Hp.put, if_true, Bool.and_eq_true] at hu
      refine ⟨fun v hv => List.all_eq_true.1 hu.2 v hv, fun arr1 e1 lo1 hi1 hp hh1 => ?_⟩
      have hh2 : (w.heap.setIfInBounds (ι i).β (.cells arr2 e (lo, hi)))[(ι i).β]? = some (.cells arr1 e1 (lo1, hi1)) := hh1
      rw [hsame] at hh2
      obtain ⟨-, -, rfl, rfl⟩ : arr2 = arr1 ∧ e = e1 ∧ lo = lo1 ∧ hi = hi1 := by simpa using hh2
      exact (um hu.1).2 _ _ _ _ hp hh
    · simp only [Hp.put, if_neg hib] at hc'
      obtain ⟨lt, len, sz, cell, row, cp, um⟩ := r.live i c hi' hc'
      have hbb : (ι i).β ≠ (ι b).β ∨ (ι i).rsv = 0 := by
        have := r.apart i b c cs hi' hb hc' hc hib
        unfold Pl.apart at this
        omega
      refine ⟨lt, len, sz, cell, fun hp => ?_, cp, fun hu => ?_⟩
      rotate_left
      · simp only [Hp.put, if_neg hib] at hu
        refine ⟨(um hu).1, fun arr1 e1 lo1 hi1 hp hh1 => ?_⟩
        have hh2 : (w.heap.setIfInBounds (ι b).β (.cells arr2 e (lo, hi)))[(ι i).β]? = some (.cells arr1 e1 (lo1, hi1)) := hh1
        rw [hoth _ (by omega)] at hh2
        exact (um hu).2 _ _ _ _ hp hh2
      obtain ⟨hB, arr1, e1, lo1, hi1, hh1, g1, g2, g4, g3⟩ := row hp
      have hbb : (ι i).β ≠ (ι b).β := by
        have := r.apart i b c cs hi' hb hc' hc hib
        unfold Pl.apart at this
        omega
      exact ⟨hB, arr1, e1, lo1, hi1, (hoth _ hbb).trans hh1, g1, g2, g4, g3⟩
  · have live' : ∀ x cx, (h.put b cs2).blk x = some cx → ∃ cy, h.blk x = some cy := fun x cx hx => by
      simp only [Hp.put] at hx
      split at hx
      · rename_i hxb
        subst hxb
        exact ⟨cs, hc⟩
      · exact ⟨cx, hx⟩
    obtain ⟨_, y1⟩ := live' i c hc1
    obtain ⟨_, y2⟩ := live' j c' hc2
    exact r.apart i j _ _ hi' hj' y1 y2 hne

theorem HRel.carve (r : HRel w0 ι h w) {b : Nat} {cs l : List Value} (hb : w0.heap.size ≤ b) (hc : h.blk b = some cs) (o rs s : Nat) (hss : (ι b).sz = s) (ho : o + rs ≤ (ι b).rsv) (hl : l.length ≤ rs)
    (hcell : ∀ v, v ∈ l → isCell v = true)
    (hr : ∀ (j : Nat) v, l[j]? = some v → ∃ arr e f v', w.heap[(ι b).β]? = some (.cells arr e f) ∧ arr[(ι b).d + o + j]? = some v' ∧ VRel w0.heap.size h.next ι v v') :
    ∃ ι', Ext ι h ι' ((h.kill b).newD l s) ∧ ι' h.next = ⟨(ι b).β, (ι b).d + o, rs, s⟩ ∧ HRel w0 ι' ((h.kill b).newD l s) w := by
  let ι' : Inj := fun i => if i = h.next then ⟨(ι b).β, (ι b).d + o, rs, s⟩ else ι i
  have hag : Agree h.next ι ι' := fun b hb => by simp [ι']; omega
  have hnew : ι' h.next = ⟨(ι b).β, (ι b).d + o, rs, s⟩ := by simp [ι']
  have hlt := (r.live b cs hb hc).lt
  have hk : ∀ i c, ((h.kill b).newD l s).blk i = some c → i ≠ h.next → h.blk i = some c ∧ i ≠ b := fun i c hc hne => by
    change (if i = h.next then some l else if i = b then none else h.blk i) = some c at hc
    rw [if_neg hne] at hc
    split at hc
    · simp at hc
    · exact ⟨hc, by assumption⟩
  refine ⟨ι', ⟨Nat.le_succ _, hag, fun _ _ e => e⟩, hnew, ?_⟩
  refine ⟨Nat.le_succ_of_le r.base, r.size, r.ext, fun i hi => ?_, r.os, r.tape, r.output, ?_, ?_, r.loops.mono (Nat.le_succ _) hag fun _ _ e _ => e⟩
  · have := r.base
    show (if i = h.next then some l else if i = b then none else h.blk i) = _
    rw [if_neg (by omega), if_neg (by omega)]
    exact r.exta i hi
  · intro i c hi hc'
    by_cases hin : i = h.next
    · subst hin
      simp only [Hp.newD, Hp.new, Hp.kill, if_true, Option.some.injEq] at hc'
      subst hc'
      refine ⟨by simp [Hp.newD, Hp.new, Hp.kill], by rw [hnew]; exact hl, by rw [hnew]; simp [Hp.newD, Hp.new, Hp.kill], hcell, fun h0 => ?_, fun k hk => by have hk : (if h.next = h.next then none else h.cp h.next) = some k := hk; simp at hk, fun hu => by have hu : (if h.next = h.next then false else h.um h.next) = true := hu; simp at hu⟩
      rw [hnew] at h0 ⊢
      obtain ⟨hB, arr, e, lo, hi', hh, g1, g2, g4, _⟩ := (r.live b cs hb hc).row (by simp at h0; omega)
      refine ⟨hB, arr, e, lo, hi', hh, by simp; omega, ?_, fun j hj => ?_, fun j v hj => ?_⟩
      · rcases g2 with q | ⟨q, q'⟩
        · exact .inl q
        · exact .inr ⟨q, by rw [← hss]; exact q'⟩
      · simp only at hj
        obtain ⟨v', q, q'⟩ := g4 (o + j) (by omega)
        exact ⟨v', by rw [← Nat.add_assoc] at q; exact q, q'⟩
      · obtain ⟨arr1, e1, f1, v', hh1, hv', hvr⟩ := hr j v hj
        rw [hh] at hh1
        obtain ⟨rfl, rfl, _⟩ : arr = arr1 ∧ e = e1 ∧ (lo, hi') = f1 := by simpa using hh1
        exact ⟨v', hv', hvr.mono (Nat.le_succ _) hag⟩
    · obtain ⟨hci, hib⟩ := hk i c hc' hin
      obtain ⟨lt, len, sz, cell, row, cp, um⟩ := r.live i c hi hci
      have hb' : ι' i = ι i := hag i lt
      refine ⟨by simp [Hp.newD, Hp.new, Hp.kill]; omega, by rw [hb']; exact len, by rw [hb', sz]; simp [Hp.newD, Hp.new, Hp.kill, hin], cell, fun hp => ?_, fun k hk => by have hk : (if i = h.next then none else h.cp i) = some k := hk; rw [if_neg hin] at hk; rw [hb']; exact cp k hk, fun hu => by have hu : (if i = h.next then false else h.um i) = true := hu; rw [if_neg hin] at hu; rw [hb']; exact um hu⟩
      rw [hb'] at hp ⊢
      obtain ⟨hB, arr, e', lo, hi, hh, h1, h2, h4, h3⟩ := row hp
      refine ⟨hB, arr, e', lo, hi, hh, h1, h2, h4, fun j v hj => ?_⟩
      obtain ⟨v', a, b⟩ := h3 j v hj
      exact ⟨v', a, b.mono (Nat.le_succ _) hag⟩
  · intro i j c c' hi hj hc1 hc2 hne
    have key : ∀ x cx, w0.heap.size ≤ x → h.blk x = some cx → x ≠ b → (ι x).apart ⟨(ι b).β, (ι b).d + o, rs, s⟩ := by
      intro x cx hx hxc hxb
      have := r.apart x b cx cs hx hb hxc hc hxb
      unfold Pl.apart at *
      simp only
      omega
    by_cases h1 : i = h.next
    · by_cases h2 : j = h.next
      · exact absurd (h1.trans h2.symm) hne
      · obtain ⟨g1, g2⟩ := hk j c' hc2 h2
        rw [h1, hnew, hag j (r.live j c' hj g1).lt]
        exact (key j c' hj g1 g2).symm
    · obtain ⟨g1, g2⟩ := hk i c hc1 h1
      by_cases h2 : j = h.next
      · rw [h2, hnew, hag i (r.live i c hi g1).lt]
        exact key i c hi g1 g2
      · obtain ⟨g3, g4⟩ := hk j c' hc2 h2
        rw [hag i (r.live i c hi g1).lt, hag j (r.live j c' hj g3).lt]
        exact r.apart i j c c' hi hj g1 g3 hne
end

/-! ### Runs of the model's own steps -/
section
variable {P : Program}

theorem run_loadCellsFrom (w : World) (a : Addr) (vs : List Value) : ∀ (i : Nat) (acc : Array Value),
    (∀ (j : Nat) v, vs[j]? = some v → w.cell? (a.add (i + j)) = some v) → (loadCellsFrom a i vs.length acc).run P w = .ok (acc ++ vs.toArray) w := by
  induction vs with
  | nil => intro i acc h; simp [loadCellsFrom, Sem.run, pure]
  | cons v t ih =>
    intro i acc h
    have h0 := h 0 v (by simp)
    simp only [List.length_cons, loadCellsFrom, Sem.run_bind, load]
    simp only [Sem.run, Nat.add_zero] at h0 ⊢
    rw [h0]
    simp only [Result.andThen_ok]
    rw [ih (i + 1) (acc.push v) (fun j x hj => by have := h (j + 1) x (by simpa using hj); rw [show i + (j + 1) = i + 1 + j by omega] at this; exact this)]
    simp

theorem run_loadCells (w : World) (a : Addr) (vs : List Value) (h : ∀ (j : Nat) v, vs[j]? = some v → w.cell? (a.add j) = some v) :
    (loadCells a vs.length).run P w = .ok vs.toArray w := by
  have := run_loadCellsFrom (P := P) w a vs 0 #[] (fun j v hj => by rw [Nat.zero_add]; exact h j v hj)
  simpa [loadCells] using this

theorem heap_set_get (H : Array Obj) (β k : Nat) (x : Obj) (hlt : β < H.size) : (H.setIfInBounds β x)[k]? = if k = β then some x else H[k]? := by
  rw [Array.getElem?_setIfInBounds]
  by_cases hk : k = β
  · subst hk
    simp [hlt]
  · rw [if_neg (fun e => hk e.symm), if_neg hk]

theorem run_storeCells (β : Nat) (e : TypeId) (lo hi : Nat) : ∀ (xs : List Value) (w : World) (arr : Array Value) (o i : Nat), w.heap[β]? = some (.cells arr e (lo, hi)) →
    (∀ v, v ∈ xs → isCell v = true) → o + i + xs.length ≤ arr.size → (∀ j, j < xs.length → ¬ (lo ≤ o + i + j ∧ o + i + j < hi)) →
    ∃ arr2 : Array Value, (storeCells ⟨β, o, none⟩ xs i).run P w = .ok () { w with heap := w.heap.setIfInBounds β (.cells arr2 e (lo, hi)) } ∧ arr2.size = arr.size ∧
      ∀ k : Nat, arr2[k]? = if o + i ≤ k ∧ k < o + i + xs.length then xs[k - (o + i)]? else arr[k]? := by
  intro xs
  induction xs with
  | nil =>
    intro w arr o i hh _ _ _
    refine ⟨arr, ?_, rfl, fun k => by rw [if_neg (by simp)]⟩
    have hlt := (Array.getElem?_eq_some_iff.1 hh).1
    have heq := (Array.getElem?_eq_some_iff.1 hh).2
    have : w.heap.setIfInBounds β (.cells arr e (lo, hi)) = w.heap := by
      apply Array.ext_getElem?
      intro k
      rw [heap_set_get _ _ _ _ hlt]
      split
      · rename_i hk
        rw [hk, hh]
      · rfl
    rw [this]
    simp [storeCells, Sem.run, pure]
  | cons v t ih =>
    intro w arr o i hh hcell hlen hfz
    have hlt := (Array.getElem?_eq_some_iff.1 hh).1
    simp only [List.length_cons] at hlen hfz
    have hv : isCell v = true := hcell v (by simp)
    have hc : w.cell? ⟨β, o + i, none⟩ = some arr[o + i] := by simp [World.cell?, hh]
    have hf : w.frozen? ⟨β, o + i, none⟩ = false := by
      have := hfz 0 (by omega)
      simp only [World.frozen?, hh]
      simp only [Nat.add_zero] at this
      simp
      omega
    have hset : w.setCell ⟨β, o + i, none⟩ v = { w with heap := w.heap.setIfInBounds β (.cells (arr.setIfInBounds (o + i) v) e (lo, hi)) } := by
      unfold World.setCell
      congr 1
      apply Array.ext_getElem?
      intro k
      rw [Array.getElem?_modify, heap_set_get _ _ _ _ hlt]
      by_cases hk : k = β
      · rw [hk, if_pos rfl, if_pos rfl, hh]
        rfl
      · rw [if_neg (fun e => hk e.symm), if_neg hk]
    have hh2 : (w.setCell ⟨β, o + i, none⟩ v).heap[β]? = some (.cells (arr.setIfInBounds (o + i) v) e (lo, hi)) := by
      rw [hset]
      show (w.heap.setIfInBounds _ _)[β]? = _
      rw [heap_set_get _ _ _ _ hlt, if_pos rfl]
    obtain ⟨arr2, hrun, hs2, hk2⟩ := ih (w.setCell ⟨β, o + i, none⟩ v) (arr.setIfInBounds (o + i) v) o (i + 1) hh2 (fun x hx => hcell x (by simp [hx])) (by simp; omega)
      (fun j hj => by have := hfz (j + 1) (by omega); omega)
    refine ⟨arr2, ?_, by simpa using hs2, fun k => ?_⟩
    · have hst : (store (⟨β, o + i, none⟩ : Addr) v).run P w = .ok () (w.setCell ⟨β, o + i, none⟩ v) := by
        unfold store
        cases v <;> simp [isCell] at hv <;> simp [Sem.run, hc, hf]
      simp only [storeCells, Sem.run_bind, addr_add_none, hst, Result.andThen_ok, hrun]
      congr 1
      rw [hset]
      simp only
      congr 1
      apply Array.ext_getElem?
      intro k
      rw [heap_set_get _ _ _ _ (by simpa using hlt), heap_set_get _ _ _ _ hlt, heap_set_get _ _ _ _ hlt]
      split <;> rfl
    · rw [hk2]
      simp only [Array.getElem?_setIfInBounds, List.length_cons]
      by_cases h1 : k = o + i
      · subst h1
        rw [if_neg (by omega), if_pos rfl, if_pos (by omega), if_pos (by omega)]
        simp
      · by_cases h2 : o + (i + 1) ≤ k ∧ k < o + (i + 1) + t.length
        · rw [if_pos h2, if_pos (by omega), show k - (o + i) = (k - (o + (i + 1))) + 1 by omega]
          simp
        · rw [if_neg h2, if_neg (by omega), if_neg (by omega)]
end

section
variable {w0 : World} {ι : Inj} {h : Hp} {w : World} {P : Program}

def Hp.getN (h : Hp) (a : Addr) (n : Nat) : Option (List Value) :=
  if a.spot.isNone then (h.blk a.block).bind fun c => if a.off + n ≤ c.length then some ((c.drop a.off).take n) else none else none

theorem HRel.readN (r : HRel w0 ι h w) {a a' : Addr} {n : Nat} {vs : List Value} (ha : PRel w0.heap.size h.next ι a a') (hg : h.getN a n = some vs)
    (hcl : a.block < w0.heap.size → ∀ v, v ∈ vs → Cl w0.heap.size v) :
    ∃ vs' : List Value, (∀ w' : World, w'.heap = w.heap → (loadCells a' n).run P w' = .ok vs'.toArray w') ∧ VRels w0.heap.size h.next ι vs vs' := by
  unfold Hp.getN at hg
  split at hg
  case isFalse => simp at hg
  case isTrue hs =>
  obtain ⟨cs, hb, hv⟩ := Option.bind_eq_some_iff.1 hg
  split at hv
  case isFalse => simp at hv
  case isTrue hle =>
  simp only [Option.some.injEq] at hv
  have hvl : vs.length = n := by rw [← hv]; simp; omega
  have hget : ∀ (j : Nat) v, vs[j]? = some v → h.get (a.add j) = some v := by
    intro j v hj
    have hjn : j < n := by rw [← hvl]; exact (List.getElem?_eq_some_iff.1 hj).1
    rw [← hv, List.getElem?_take, if_pos hjn, List.getElem?_drop] at hj
    obtain ⟨ab, ao, asp⟩ := a
    have : asp = none := by simpa using hs
    subst this
    rw [addr_add_none]
    simp only [Hp.get]
    simp only at hb hj
    simp [hb, hj]
  have hblk : ∀ j, (a.add j).block = a.block := fun j => by unfold Addr.add; split <;> rfl
  have key : ∀ j, j < vs.length → ∃ v', w.cell? (a'.add j) = some v' ∧ ∀ v, vs[j]? = some v → VRel w0.heap.size h.next ι v v' := by
    intro j hj
    have hj' : vs[j]? = some vs[j] := by simp [hj]
    obtain ⟨v', h1, h2⟩ := r.read (ha.add j) (hget j _ hj') (fun hlt => hcl (by rw [hblk] at hlt; exact hlt) _ (List.getElem_mem hj))
    exact ⟨v', h1, fun v hv => by rw [hj'] at hv; cases hv; exact h2⟩
  let vs' : List Value := (List.range vs.length).map fun j => (w.cell? (a'.add j)).getD undef
  have hl' : vs'.length = n := by simp [vs', hvl]
  have hcell : ∀ (j : Nat) v, vs'[j]? = some v → w.cell? (a'.add j) = some v := by
    intro j v hj
    have hjl : j < vs.length := by have := (List.getElem?_eq_some_iff.1 hj).1; omega
    obtain ⟨v', h1, _⟩ := key j hjl
    simp only [vs', List.getElem?_map, List.getElem?_range hjl, Option.map_some, h1, Option.getD_some, Option.some.injEq] at hj
    rw [h1, hj]
  refine ⟨vs', ?_, by omega, fun j v v' hj hj' => ?_⟩
  · intro w' hw'
    have := run_loadCells (P := P) w' a' vs' (fun j v hj => by have := hcell j v hj; simpa [World.cell?, hw'] using this)
    rwa [hl'] at this
  · have hjl : j < vs.length := (List.getElem?_eq_some_iff.1 hj).1
    obtain ⟨v'', h1, h2⟩ := key j hjl
    have := hcell j v' hj'
    rw [h1] at this
    cases this
    exact h2 v hj

def splice (c : List Value) (o : Nat) (xs : List Value) : List Value := c.take o ++ xs ++ c.drop (o + xs.length)
theorem splice_length {c : List Value} {o : Nat} {xs : List Value} (h : o + xs.length ≤ c.length) : (splice c o xs).length = c.length := by simp [splice]; omega
theorem splice_get {c : List Value} {o : Nat} {xs : List Value} (h : o + xs.length ≤ c.length) (k : Nat) :
    (splice c o xs)[k]? = if o ≤ k ∧ k < o + xs.length then xs[k - o]? else c[k]? := by
  unfold splice
  by_cases h1 : k < o
  · rw [if_neg (by omega), List.append_assoc, List.getElem?_append_left (by simp; omega), List.getElem?_take, if_pos h1]
  · by_cases h2 : k < o + xs.length
    · rw [if_pos ⟨by omega, h2⟩, List.append_assoc, List.getElem?_append_right (by simp; omega), List.getElem?_append_left (by simp; omega)]
      congr 1
      simp; omega
    · rw [if_neg (by omega), List.getElem?_append_right (by simp; omega), List.getElem?_drop]
      congr 1
      simp; omega
theorem splice_one (c : List Value) (o : Nat) (v : Value) (h : o < c.length) : splice c o [v] = c.set o v := by
  apply List.ext_getElem?
  intro k
  rw [splice_get (by simp; omega), List.getElem?_set]
  by_cases h1 : k = o
  · subst h1
    rw [if_pos (by simp), if_pos rfl, if_pos h]
    simp
  · rw [if_neg (by simp; omega), if_neg (by omega)]

theorem stored_cells {d rsv o : Nat} {arr arr2 : Array Value} {xs : List Value} (h1 : ∀ j, j < rsv → ∃ v, arr[d + j]? = some v ∧ isCell v = true) (h2 : ∀ v, v ∈ xs → isCell v = true)
    (hk : ∀ k : Nat, arr2[k]? = if o ≤ k ∧ k < o + xs.length then xs[k - o]? else arr[k]?) : ∀ j, j < rsv → ∃ v, arr2[d + j]? = some v ∧ isCell v = true := by
  intro j hj
  rw [hk]
  by_cases h : o ≤ d + j ∧ d + j < o + xs.length
  · rw [if_pos h, List.getElem?_eq_getElem (by omega)]
    exact ⟨_, rfl, h2 _ (List.getElem_mem _)⟩
  · rw [if_neg h]
    exact h1 j hj
theorem HRel.storeN (r : HRel w0 ι h w) {b o : Nat} {a' : Addr} {cs xs xs' : List Value} (ha : PRel w0.heap.size h.next ι ⟨b, o, none⟩ a') (hb : w0.heap.size ≤ b) (hc : h.blk b = some cs)
    (hle : o + xs.length ≤ cs.length) (hcell : ∀ v, v ∈ xs → isCell v = true) (hx : VRels w0.heap.size h.next ι xs xs') :
    ∃ w', (storeCells a' xs').run P w = .ok () w' ∧ HRel w0 ι (h.put b (splice cs o xs)) w' := by
  obtain ⟨lt, len, sz, cell, row, cp, um⟩ := r.live b cs hb hc
  by_cases hn : xs = []
  · subst hn
    have : xs' = [] := by have := hx.1; simpa using this.symm
    subst this
    refine ⟨w, by simp [storeCells, Sem.run, pure], ?_⟩
    have : splice cs o [] = cs := by simp [splice]
    rw [this]
    have : h.put b cs = h := by
      have e1 : (fun i => if i = b then some cs else h.blk i) = h.blk := by
        funext i
        split
        · rename_i hi; rw [hi, hc]
        · rfl
      have e2 : (fun i => if i = b then h.um i && cs.all isPtr else h.um i) = h.um := by
        funext i
        split
        · rename_i hi
          cases hu : h.um i with
          | false => rfl
          | true => rw [hi] at hu; rw [Bool.true_and]; exact List.all_eq_true.2 (um hu).1
        · rfl
      unfold Hp.put
      rw [e1, e2]
    rw [this]
    exact r
  have hpos : 0 < xs.length := List.length_pos_iff.2 hn
  obtain ⟨hB, arr, e, lo, hi, hh, g1, g2, g4, g3⟩ := row (by omega)
  cases ha with
  | pext _ hlt => simp at hlt; omega
  | pint _ _ h1 h2 =>
    have hxl : xs.length = xs'.length := hx.1
    have hcell' : ∀ v, v ∈ xs' → isCell v = true := fun v hv => by
      obtain ⟨i, hi', hv'⟩ := List.getElem_of_mem hv
      have hix : i < xs.length := by omega
      have := (hx.2 i xs[i] v (by simp [hix]) (by rw [List.getElem?_eq_getElem hi', hv'])).isCell_eq
      rw [this]
      exact hcell _ (List.getElem_mem hix)
    obtain ⟨arr2, hrun, hs2, hk2⟩ := run_storeCells (P := P) (ι b).β e lo hi xs' w arr ((ι b).d + o) 0 hh hcell' (by omega) (fun j hj => by omega)
    refine ⟨_, hrun, ?_⟩
    refine r.update hb hc hh (by omega) hs2 (stored_cells g4 hcell' hk2) (by rw [splice_length hle]; exact len) (fun v hv => ?_) (fun j v hj => ?_)
    · simp only [splice, List.mem_append] at hv
      rcases hv with (hv | hv) | hv
      · exact cell v (List.mem_of_mem_take hv)
      · exact hcell v hv
      · exact cell v (List.mem_of_mem_drop hv)
    · rw [splice_get hle] at hj
      rw [hk2]
      by_cases hjj : o ≤ j ∧ j < o + xs.length
      · rw [if_pos hjj] at hj
        rw [if_pos (by omega)]
        obtain ⟨v', hv', hr⟩ := hx.get hj
        refine ⟨v', ?_, hr⟩
        rw [← hv']
        congr 1
        omega
      · rw [if_neg hjj] at hj
        rw [if_neg (by omega)]
        exact g3 j v hj
end
end Go.Proofs.Ytiakadkooclelaa.Ah
