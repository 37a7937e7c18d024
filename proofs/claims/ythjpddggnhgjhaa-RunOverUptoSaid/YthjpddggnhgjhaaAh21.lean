/- Arguments that lie in what was there: how structs and slices of them are opened. -/
import Derived.Test.YthjpddggnhgjhaaRows
import Derived.Test.YthjpddggnhgjhaaAh19
import Derived.Test.YthjpddggnhgjhaaAh20
set_option linter.unusedVariables false
set_option linter.unusedSimpArgs false
namespace Go.Proofs.Ythjpddggnhgjhaa.Ah
open Go Go.ChangeShapes Go.WideShapes

/-- How the values of a type lie in cells; which there are; their bulk. -/
structure Dec (α : Type) where
  e : α → List Value
  ok : α → Prop
  b : α → Nat

structure Dec.Of {α : Type} (D : Dec α) (P : Program) (w0 : World) (t : TypeId) (s : Nat) : Prop where
  size : P.cellsOf t = s
  len : ∀ a, (D.e a).length = s
  cl : ∀ a, D.ok a → ∀ v, v ∈ D.e a → ClC w0.heap.size v
  opens : ∀ {H : Type} {enc : TypeId × Value → H} {fuel : Nat} {cs : List Value} {x : DataW H × List MemPlace}, DataW.trod enc P w0 0 (fun _ => true) true fuel t cs = some x → (∀ p, p ∈ x.2 → p.block < w0.heap.size) → ∃ a, cs = D.e a ∧ D.ok a ∧ D.b a ≤ Rows.uptoBulk x.1

theorem clC_int (B : Nat) (k : IntKind) (n : Int) : ClC B (.int k n) := ⟨cl_int B k n, rfl⟩
theorem clC_string (B : Nat) (s : ByteArray) : ClC B (.string s) := ⟨cl_string B s, rfl⟩
theorem clC_bool (B : Nat) (b : Bool) : ClC B (.bool b) := ⟨cl_bool B b, rfl⟩

/-! ### Of one cell -/
def dInt (k : IntKind) : Dec Int := ⟨fun n => [.int k n], fun n => k.min ≤ n ∧ n ≤ k.max, fun _ => 1⟩
def dNat (k : IntKind) : Dec Nat := ⟨fun n => [.int k n], fun n => n < 2 ^ k.bits, fun _ => 1⟩
def dStr : Dec (List UInt8) := ⟨fun l => [.string (str l)], fun _ => True, fun l => l.length + 1⟩
def dBool : Dec Bool := ⟨fun q => [.bool q], fun _ => True, fun _ => 1⟩
section
variable {P : Program} {w0 : World} {t : TypeId}
theorem dInt_of {k : IntKind} (ht : P.underlying t = some (.int k)) (hc : P.cellsOf t = 1) : (dInt k).Of P w0 t 1 := by
  refine ⟨hc, fun _ => rfl, fun a _ v hv => ?_, fun {H enc fuel cs x} hx hp => ?_⟩
  · simp only [dInt, List.mem_singleton] at hv; subst hv; exact clC_int _ _ _
  · obtain ⟨n, rfl, rfl, hw⟩ := DataW.trod_int ht hx
    refine ⟨n, rfl, ?_, by simp [dInt, Rows.uptoBulk]⟩
    simpa [dInt, Lit.wf] using hw
theorem dNat_of {k : IntKind} (hk : k.signed = false) (ht : P.underlying t = some (.int k)) (hc : P.cellsOf t = 1) : (dNat k).Of P w0 t 1 := by
  refine ⟨hc, fun _ => rfl, fun a _ v hv => ?_, fun {H enc fuel cs x} hx hp => ?_⟩
  · simp only [dNat, List.mem_singleton] at hv; subst hv; exact clC_int _ _ _
  · obtain ⟨n, rfl, rfl, hw⟩ := DataW.trod_int ht hx
    have h1 : k.min ≤ n ∧ n ≤ k.max := by simpa [Lit.wf] using hw
    have h2 : (0 : Int) ≤ n := by cases k <;> simp_all [IntKind.min, IntKind.signed]
    obtain ⟨m, rfl⟩ := Int.eq_ofNat_of_zero_le h2
    refine ⟨m, rfl, ?_, by simp [dNat, Rows.uptoBulk]⟩
    show m < 2 ^ k.bits
    have h3 := h1.2
    have : ((2 ^ k.bits : Nat) : Int) = 2 ^ k.bits := by norm_cast
    cases k <;> simp_all [IntKind.max, IntKind.signed, IntKind.bits] <;> omega
theorem dStr_of (ht : P.underlying t = some .string) (hc : P.cellsOf t = 1) : dStr.Of P w0 t 1 := by
  refine ⟨hc, fun _ => rfl, fun a _ v hv => ?_, fun {H enc fuel cs x} hx hp => ?_⟩
  · simp only [dStr, List.mem_singleton] at hv; subst hv; exact clC_string _ _
  · obtain ⟨s, rfl, rfl, hw⟩ := DataW.trod_string ht hx
    exact ⟨s.data.toList, by simp [dStr], trivial, by simp [dStr, Rows.uptoBulk]⟩
theorem dBool_of (ht : P.underlying t = some .bool) (hc : P.cellsOf t = 1) : dBool.Of P w0 t 1 := by
  refine ⟨hc, fun _ => rfl, fun a _ v hv => ?_, fun {H enc fuel cs x} hx hp => ?_⟩
  · simp only [dBool, List.mem_singleton] at hv; subst hv; exact clC_bool _ _
  · obtain ⟨q, rfl, rfl⟩ := DataW.trod_bool ht hx
    exact ⟨q, rfl, trivial, by simp [dBool, Rows.uptoBulk]⟩

/-! ### Structs -/
def dUnit : Dec Unit := ⟨fun _ => [], fun _ => True, fun _ => 0⟩
def dPair {α β : Type} (D : Dec α) (E : Dec β) : Dec (α × β) := ⟨fun p => D.e p.1 ++ E.e p.2, fun p => D.ok p.1 ∧ E.ok p.2, fun p => D.b p.1 + E.b p.2⟩
/-- Fields, from cell o on. -/
structure Dec.OfFs {α : Type} (D : Dec α) (P : Program) (w0 : World) (fs : List Field) (o s : Nat) : Prop where
  len : ∀ a, (D.e a).length = s
  cl : ∀ a, D.ok a → ∀ v, v ∈ D.e a → ClC w0.heap.size v
  opens : ∀ {H : Type} {enc : TypeId × Value → H} {n : Nat} {cs : List Value} {xs : List (DataW H × List MemPlace)}, cs.length = o + s → xs.length = fs.length →
    (∀ (i : Nat) f, fs[i]? = some f → DataW.trod enc P w0 0 (fun _ => true) true n f.type ((cs.drop f.offset).take (P.cellsOf f.type)) = xs[i]?) → (∀ y, y ∈ xs → ∀ p, p ∈ y.2 → p.block < w0.heap.size) → ∃ a, cs.drop o = D.e a ∧ D.ok a ∧ D.b a ≤ Rows.uptoBulkAll (xs.map (·.1))
theorem dUnit_of {o : Nat} : dUnit.OfFs P w0 [] o 0 := by
  refine ⟨fun _ => rfl, fun a _ v hv => by simp [dUnit] at hv, fun {H enc n cs xs} hl hx h _ => ⟨(), ?_, trivial, by simp [dUnit]⟩⟩
  simp only [dUnit]
  exact List.drop_eq_nil_of_le (by omega)
theorem dPair_of {α β : Type} {D : Dec α} {E : Dec β} {f : Field} {fs : List Field} {o s s' : Nat} (hf : f.offset = o) (hD : D.Of P w0 f.type s) (hE : E.OfFs P w0 fs (o + s) s') : (dPair D E).OfFs P w0 (f :: fs) o (s + s') := by
  refine ⟨fun a => by simp [dPair, hD.len, hE.len], fun a ha v hv => ?_, fun {H enc n cs xs} hl hx h hp => ?_⟩
  · rcases List.mem_append.1 hv with e | e
    · exact hD.cl _ ha.1 v e
    · exact hE.cl _ ha.2 v e
  · cases xs with
    | nil => simp at hx
    | cons x xs =>
      have h0 := h 0 f rfl
      simp only [List.getElem?_cons_zero] at h0
      rw [hf, hD.size] at h0
      obtain ⟨a, e1, o1, b1⟩ := hD.opens h0 (hp x (by simp))
      obtain ⟨b, e2, o2, b2⟩ := hE.opens (cs := cs) (xs := xs) (by omega) (by simpa using hx) (fun i g hg => by simpa using h (i + 1) g (by simpa using hg)) (fun y hy => hp y (by simp [hy]))
      refine ⟨(a, b), ?_, ⟨o1, o2⟩, by simp only [dPair, List.map_cons, Rows.uptoBulkAll]; omega⟩
      simp only [dPair]
      rw [← e1, ← e2, ← List.drop_drop, List.take_append_drop]
/-- A struct is its fields. -/
def dStruct {α : Type} (D : Dec α) : Dec α := ⟨D.e, D.ok, fun a => D.b a + 1⟩
theorem dStruct_of {α : Type} {D : Dec α} {fs : Array Field} {s : Nat} (ht : P.underlying t = some (.struct fs)) (hc : P.cellsOf t = s) (hD : D.OfFs P w0 fs.toList 0 s) : (dStruct D).Of P w0 t s := by
  refine ⟨hc, hD.len, hD.cl, fun {H enc fuel cs x} hx hp => ?_⟩
  obtain ⟨xs, n, rfl, rfl, hl, hxl, h⟩ := DataW.trod_struct ht hx
  obtain ⟨a, e1, o1, b1⟩ := hD.opens (cs := cs) (xs := xs) (by omega) (by simpa using hxl) (fun i f hf => h i f (by simpa using hf)) (fun y hy p hq => hp p (List.mem_flatMap.2 ⟨y, hy, hq⟩))
  exact ⟨a, by rw [List.drop_zero] at e1; exact e1, o1, by simp only [dStruct, Rows.uptoBulk]; omega⟩
/-- An argument that is a struct. -/
theorem open_st {α : Type} {D : Dec α} {fs : Array Field} {s : Nat} {H : Type} {enc : TypeId × Value → H} {r : Reach} {b0 : Nat} {v : Value} {d : DataW H} {ps : List MemPlace}
    (ht : P.underlying t = some (.struct fs)) (hD : D.Of P w0 t s) (hval : Value.okWide P w0 r b0 t v) (hd : DataW.Trod enc P w0 0 (fun _ => true) true t v d ps) (hp : ∀ p, p ∈ ps → p.block < w0.heap.size) :
    ∃ a, v = .agg (D.e a).toArray ∧ D.ok a ∧ D.b a ≤ Rows.uptoBulk d := by
  obtain ⟨cs, rfl, hs⟩ := okWide_struct ht hval
  obtain ⟨fuel, hf⟩ := hd
  obtain ⟨a, e1, o1, b1⟩ := hD.opens hf hp
  simp only [Value.cells] at e1
  exact ⟨a, by rw [← e1], o1, b1⟩
theorem clAgg {B : Nat} {cs : List Value} (h : ∀ v, v ∈ cs → ClC B v) : Cl B (.agg cs.toArray) := by
  intro nx ι
  refine .agg _ _ rfl (fun i v v' a b => ?_) fun i v a => ?_
  · rw [a] at b; cases b; exact (h v (by simpa using List.mem_of_getElem? (by simpa using a))).1 nx ι
  · exact (h v (by simpa using List.mem_of_getElem? (by simpa using a))).2

/-! ### Slices -/
/-- A slice of what was there, and its cells. -/
structure ExtSl (w0 : World) (s : Nat) (v : Value) (n : Nat) (ys : List Value) : Prop where
  sl : ∃ a c, v = .slice a n c ∧ n ≤ c ∧ c < ucap
  cl : Cl w0.heap.size v
  src : ∀ h, Fit w0 h → Src w0.heap.size h s v n ys
theorem cells_ext {W : World} {a : Addr} {n : Nat} {cs : List Value} (hn : 0 < n) (h : ∀ i, i < n → W.cell? (a.add i) = cs[i]?) (hl : cs.length = n) {h0 : Hp} (f : Fit W h0) : a.block < W.heap.size ∧ a.spot = none ∧ h0.getN a n = some cs := by
  have h1 := h 0 hn
  have h2 : ∃ v, cs[0]? = some v := ⟨cs[0]'(by omega), by simp⟩
  obtain ⟨v, hv⟩ := h2
  rw [hv] at h1
  have a0 : a.add 0 = a := by simp [Addr.add]
  rw [a0] at h1
  unfold World.cell? at h1
  split at h1
  · rename_i c el fr hb
    have hlt : a.block < W.heap.size := by
      rcases Nat.lt_or_ge a.block W.heap.size with q | q
      · exact q
      · rw [Array.getElem?_eq_none q] at hb; simp at hb
    split at h1
    · simp at h1
    · rename_i hs
      have hs : a.spot = none := by simpa using hs
      refine ⟨hlt, hs, ?_⟩
      have hblk : h0.blk a.block = some c.toList := by rw [f.ext _ hlt]; simp [extBlk, hb]
      obtain ⟨b, o, sp⟩ := a
      simp only at hs hblk hb h ⊢
      subst hs
      have hall : ∀ i, i < n → c.toList[o + i]? = cs[i]? := by
        intro i hi
        have := h i hi
        simp only [addr_add, World.cell?, hb] at this
        simpa using this
      have hle : o + n ≤ c.toList.length := by
        have := hall (n - 1) (by omega)
        rw [List.getElem?_eq_getElem (by omega : n - 1 < cs.length)] at this
        have := (List.getElem?_eq_some_iff.1 this).1
        omega
      rw [getN_eq, hblk, Option.bind_some, if_pos hle]
      congr 1
      apply List.ext_getElem?
      intro i
      by_cases hi : i < n
      · rw [List.getElem?_take, if_pos hi, List.getElem?_drop, hall i hi]
      · rw [List.getElem?_take, if_neg hi, List.getElem?_eq_none (by omega)]
  · simp at h1
theorem okWide_slice2 {e : TypeId} {W : World} {r : Reach} {b0 : Nat} {v : Value} (ht : P.underlying t = some (.slice e)) (h : Value.okWide P W r b0 t v) : v = .slice none 0 0 ∨ ∃ a n c, v = .slice (some a) n c ∧ n ≤ c ∧ (c : Int) ≤ IntKind.i64.max ∧ a.block < W.heap.size := by
  simp only [Value.okWide, ht, Cell.okWide] at h
  cases v with
  | slice a n c =>
    cases a with
    | none =>
      left
      simp only [Cell.ok, ht] at h
      split at h <;> simp_all
    | some a =>
      right
      simp only [Cell.ok, ht] at h
      obtain ⟨h1, h2, h3⟩ := h
      refine ⟨a, n, c, rfl, h1, h2, ?_⟩
      obtain ⟨-, -, row, cells, h4, -⟩ := h3
      unfold World.shape? at h4
      rcases Nat.lt_or_ge a.block W.heap.size with q | q
      · exact q
      · rw [Array.getElem?_eq_none q] at h4; simp at h4
  | _ => simp_all [Cell.ok]
/-- An argument that is a slice. -/
theorem open_sl {α : Type} {D : Dec α} {e : TypeId} {s : Nat} {H : Type} {enc : TypeId × Value → H} {r : Reach} {b0 : Nat} {v : Value} {d : DataW H} {ps : List MemPlace}
    (ht : P.underlying t = some (.slice e)) (hs : 0 < s) (hD : D.Of P w0 e s) (hval : Value.okWide P w0 r b0 t v) (hd : DataW.Trod enc P w0 0 (fun _ => true) true t v d ps) (hp : ∀ p, p ∈ ps → p.block < w0.heap.size) :
    ∃ xs : List α, ExtSl w0 s v xs.length (xs.flatMap D.e) ∧ (∀ a, a ∈ xs → D.ok a) ∧ (xs.map D.b).sum + 1 ≤ Rows.uptoBulk d := by
  rcases okWide_slice2 ht hval with rfl | ⟨a, n, c, rfl, hn, hc, ha⟩
  · obtain ⟨fuel, hf⟩ := hd
    refine ⟨[], ⟨⟨none, 0, rfl, Nat.le_refl _, by decide⟩, fun _ _ => .snil, fun h f => ?_⟩, by simp, ?_⟩
    · simp [Src]
    · rcases DataW.trod_slice ht hf with ⟨-, h0⟩ | ⟨a, len, cap, elems, rest, n, rfl, h1, -⟩
      · cases h0; simp [Rows.uptoBulk]
      · simp [Value.cells] at h1
  · obtain ⟨fuel, hf⟩ := hd
    have hcu : c < ucap := by
      have : (c : Int) ≤ 9223372036854775807 := hc
      show c < 18446744073709551616
      omega
    rcases DataW.trod_slice ht hf with ⟨h0, -⟩ | ⟨a', len, cap, elems, rest, m, rfl, h1, hx, hb, hl, hm, hlen, hel, -⟩
    · simp [Value.cells] at h0
    · simp only [Value.cells, List.toList_toArray, List.cons.injEq, Value.slice.injEq, Option.some.injEq, and_true] at h1
      obtain ⟨rfl, rfl, rfl⟩ := h1
      cases hx
      rw [hD.size] at hel
      -- the elements, one by one
      have each : ∀ i, i < n → ∃ y, elems[i]? = some y ∧ ∃ b, D.ok b ∧ D.b b ≤ Rows.uptoBulk y.1 ∧ ∀ j, j < s → w0.cell? (a.add (i * s + j)) = (D.e b)[j]? := by
        intro i hi
        have h2 := hel i hi
        rw [List.getElem?_eq_getElem (by omega : i < elems.length)] at h2 ⊢
        rw [Option.bind_eq_some_iff] at h2
        obtain ⟨cs, h3, h4⟩ := h2
        obtain ⟨b, rfl, o1, b1⟩ := hD.opens h4 (fun p hq => hp p (by simp only [List.mem_append, List.mem_flatMap]; exact .inr ⟨_, .inl (List.getElem_mem _), hq⟩))
        obtain ⟨-, -, h5⟩ := World.cells?_some h3
        refine ⟨_, rfl, b, o1, b1, fun j hj => ?_⟩
        rw [← h5 j hj]
        congr 1
        obtain ⟨bl, o, sp⟩ := a
        unfold Addr.add
        split <;> split <;> split <;> simp_all <;> omega
      have all : ∀ k, k ≤ n → ∃ xs : List α, xs.length = k ∧ (∀ b, b ∈ xs → D.ok b) ∧ (xs.map D.b).sum ≤ Rows.uptoBulkAll ((elems.take k).map (·.1)) ∧ ∀ j, j < k * s → w0.cell? (a.add j) = (xs.flatMap D.e)[j]? := by
        intro k
        induction k with
        | zero => intro _; exact ⟨[], rfl, by simp, by simp, fun j hj => by omega⟩
        | succ k ih =>
          intro hk
          obtain ⟨xs, l1, o1, b1, c1⟩ := ih (by omega)
          obtain ⟨y, hy, b, o2, b2, c2⟩ := each k (by omega)
          have hfl : (xs.flatMap D.e).length = k * s := by
            have : ∀ l : List α, (l.flatMap D.e).length = l.length * s := by
              intro l
              induction l with
              | nil => simp
              | cons x l ih => simp [hD.len, ih, Nat.add_mul]; omega
            rw [this, l1]
          refine ⟨xs ++ [b], by simp [l1], fun b' hb' => ?_, ?_, fun j hj => ?_⟩
          · rcases List.mem_append.1 hb' with q | q
            · exact o1 _ q
            · simp at q; subst q; exact o2
          · have ht : elems.take (k + 1) = elems.take k ++ [y] := by
              rw [List.take_add_one, hy]; rfl
            have happ : ∀ l m : List (DataW H), Rows.uptoBulkAll (l ++ m) = Rows.uptoBulkAll l + Rows.uptoBulkAll m := by
              intro l m
              induction l with
              | nil => simp [Rows.uptoBulkAll]
              | cons x l ih => simp [Rows.uptoBulkAll, ih]; omega
            rw [ht, List.map_append, List.map_append, happ]
            simp only [List.map_cons, List.map_nil, List.sum_append, List.sum_cons, List.sum_nil, Rows.uptoBulkAll]
            omega
          · rw [Nat.add_mul, Nat.one_mul] at hj
            rw [List.flatMap_append]
            by_cases hjk : j < k * s
            · rw [c1 j hjk, List.getElem?_append_left (by omega)]
            · rw [List.getElem?_append_right (by omega), hfl]
              have := c2 (j - k * s) (by omega)
              rw [show k * s + (j - k * s) = j by omega] at this
              simpa using this
      obtain ⟨xs, l1, o1, b1, c1⟩ := all n (Nat.le_refl _)
      have hfl : (xs.flatMap D.e).length = n * s := by
        have : ∀ l : List α, (l.flatMap D.e).length = l.length * s := by
          intro l
          induction l with
          | nil => simp
          | cons x l ih => simp [hD.len, ih, Nat.add_mul]; omega
        rw [this, l1]
      refine ⟨xs, ?_, o1, ?_⟩
      · rw [l1]
        refine ⟨⟨_, _, rfl, hn, hcu⟩, fun nx ι => .sext a n c ha hn hcu, fun h f => ⟨Nat.le_refl _, ?_⟩⟩
        by_cases h0 : n = 0
        · subst h0; left; exact ⟨rfl, List.eq_nil_of_length_eq_zero (by simpa using hfl)⟩
        · right
          have hpos : 0 < n * s := Nat.mul_pos (by omega) hs
          obtain ⟨q1, q2, q3⟩ := cells_ext hpos c1 hfl f
          refine ⟨by omega, a, rfl, q3, fun _ v hv => ?_⟩
          obtain ⟨b, hb, hv⟩ := List.mem_flatMap.1 hv
          exact hD.cl b (o1 b hb) v hv
      · rw [List.take_of_length_le (by omega)] at b1
        simp only [Rows.uptoBulk]
        omega
end

/-! ### Reading out of them -/
theorem drop_flatMap {α : Type} {e : α → List Value} {s : Nat} (he : ∀ a, (e a).length = s) : ∀ (xs : List α) (i : Nat) (a : α), xs[i]? = some a → ((xs.flatMap e).drop (i * s)).take s = e a := by
  intro xs
  induction xs with
  | nil => intro i a h; simp at h
  | cons x xs ih =>
    intro i a h
    cases i with
    | zero =>
      simp at h
      subst h
      simp [List.flatMap_cons, ← he x]
    | succ i =>
      simp at h
      rw [List.flatMap_cons, Nat.add_mul, Nat.one_mul, Nat.add_comm, ← he x, ← List.drop_drop, List.drop_left, he x]
      exact ih i a h
end Go.Proofs.Ythjpddggnhgjhaa.Ah
