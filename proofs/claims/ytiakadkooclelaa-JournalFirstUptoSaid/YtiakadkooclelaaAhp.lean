/- Arguments that lie in what was there: how structs and slices of them are opened. -/
import Derived.Test.YtiakadkooclelaaRows
import Derived.Test.YtiakadkooclelaaAh19
import Derived.Test.YtiakadkooclelaaAh20
set_option linter.unusedVariables false
set_option linter.unusedSimpArgs false
set_option linter.constructorNameAsVariable false
namespace Go.Proofs.Ytiakadkooclelaa.Ah
open Go
section
open Go Go.ChangeShapes Go.WideShapes

structure Dec (α : Type) where
  e : α → List Value
  ok : α → Prop
  b : α → Nat

structure Dec.Of {α : Type} (D : Dec α) (P : Program) (w0 : World) (t : TypeId) (s : Nat) : Prop where
  size : P.cellsOf t = s
  len : ∀ a, (D.e a).length = s
  cl : ∀ a, D.ok a → ∀ v, v ∈ D.e a → ClC w0.heap.size v
  opens : ∀ {H : Type} {enc : TypeId × Value → H} {fuel : Nat} {cs : List Value} {x : DataW H × List MemPlace}, DataW.trod enc P w0 0 (fun _ => true) true fuel t cs = some x → (∀ p, p ∈ x.2 → p.block < w0.heap.size) → ∃ a, cs = D.e a ∧ D.ok a ∧ D.b a ≤ Rows.uptoBulk x.1

theorem clC_int (B : Nat) (k : IntKind) (n : Int) : ClC B (.int k n) := ⟨cl_int B k n, rfl⟩
theorem clC_string (B : Nat) (s : ByteArray) : ClC B (.string s) := ⟨cl_string B s, rfl⟩
/-! ### Of one cell -/
def dInt (k : IntKind) : Dec Int := ⟨fun n => [.int k n], fun n => k.min ≤ n ∧ n ≤ k.max, fun _ => 1⟩
def dStr : Dec (List UInt8) := ⟨fun l => [.string (str l)], fun _ => True, fun l => l.length + 1⟩
section
variable {P : Program} {w0 : World} {t : TypeId}
theorem dInt_of {k : IntKind} (ht : P.underlying t = some (.int k)) (hc : P.cellsOf t = 1) : (dInt k).Of P w0 t 1 := by
  refine ⟨hc, fun _ => rfl, fun a _ v hv => ?_, fun {H enc fuel cs x} hx hp => ?_⟩
  · simp only [dInt, List.mem_singleton] at hv; subst hv; exact clC_int _ _ _
  · obtain ⟨n, rfl, rfl, hw⟩ := DataW.trod_int ht hx
    refine ⟨n, rfl, ?_, by simp [dInt, Rows.uptoBulk]⟩
    simpa [dInt, Lit.wf] using hw
theorem dStr_of (ht : P.underlying t = some .string) (hc : P.cellsOf t = 1) : dStr.Of P w0 t 1 := by
  refine ⟨hc, fun _ => rfl, fun a _ v hv => ?_, fun {H enc fuel cs x} hx hp => ?_⟩
  · simp only [dStr, List.mem_singleton] at hv; subst hv; exact clC_string _ _
  · obtain ⟨s, rfl, rfl, hw⟩ := DataW.trod_string ht hx
    exact ⟨s.data.toList, by simp [dStr], trivial, by simp [dStr, Rows.uptoBulk]⟩
/-! ### Structs -/
/-! ### Slices -/
structure ExtSl (w0 : World) (s : Nat) (v : Value) (n : Nat) (ys : List Value) : Prop where
  sl : ∃ a c, v = .slice a n c ∧ n ≤ c ∧ c < ucap
  cl : Cl w0.heap.size v
  src : ∀ h, Fit w0 h → Src w0.heap.size h s v n ys
theorem cells_ext {W : World} {a : Addr} {n : Nat} {cs : List Value} (hn : 0 < n) (h : ∀ i, i < n → W.cell? (a.add i) = cs[i]?) (hl : cs.length = n) {h0 : Hp} (f : Fit W h0) : a.block < W.heap.size ∧ a.spot = none ∧ h0.getN a n = some cs := by
  have h1 := h 0 hn
  have h2 : ∃ v, cs[0]? = some v := ⟨cs[0]'(by omega), by simp⟩
  obtain ⟨v, hv⟩ := h2
  rw [hv] at h1
  have a0 : a.add 0 = a := by simp [Addr.add]
  rw [a0] at h1
  unfold World.cell? at h1
  split at h1
  · rename_i c el fr hb
    have hlt : a.block < W.heap.size := by
      rcases Nat.lt_or_ge a.block W.heap.size with q | q
      · exact q
      · rw [Array.getElem?_eq_none q] at hb; simp at hb
    split at h1
    · simp at h1
    · rename_i hs
      have hs : a.spot = none := by simpa using hs
      refine ⟨hlt, hs, ?_⟩
      have hblk : h0.blk a.block = some c.toList := by rw [f.ext _ hlt]; simp [extBlk, hb]
      obtain ⟨b, o, sp⟩ := a
      simp only at hs hblk hb h ⊢
      subst hs
      have hall : ∀ i, i < n → c.toList[o + i]? = cs[i]? := by
        intro i hi
        have := h i hi
        simp only [addr_add, World.cell?, hb] at this
        simpa using this
      have hle : o + n ≤ c.toList.length := by
        have := hall (n - 1) (by omega)
        rw [List.getElem?_eq_getElem (by omega : n - 1 < cs.length)] at this
        have := (List.getElem?_eq_some_iff.1 this).1
        omega
      rw [getN_eq, hblk, Option.bind_some, if_pos hle]
      congr 1
      apply List.ext_getElem?
      intro i
      by_cases hi : i < n
      · rw [List.getElem?_take, if_pos hi, List.getElem?_drop, hall i hi]
      · rw [List.getElem?_take, if_neg hi, List.getElem?_eq_none (by omega)]
  · simp at h1
theorem okWide_slice2 {e : TypeId} {W : World} {r : Reach} {b0 : Nat} {v : Value} (ht : P.underlying t = some (.slice e)) (h : Value.okWide P W r b0 t v) : v = .slice none 0 0 ∨ ∃ a n c, v = .slice (some a) n c ∧ n ≤ c ∧ (c : Int) ≤ IntKind.i64.max ∧ a.block < W.heap.size := by
  simp only [Value.okWide, ht, Cell.okWide] at h
  cases v with
  | slice a n c =>
    cases a with
    | none =>
      left
      simp only [Cell.ok, ht] at h
      split at h <;> simp_all
    | some a =>
      right
      simp only [Cell.ok, ht] at h
      obtain ⟨h1, h2, h3⟩ := h
      refine ⟨a, n, c, rfl, h1, h2, ?_⟩
      obtain ⟨-, -, row, cells, h4, -⟩ := h3
      unfold World.shape? at h4
      rcases Nat.lt_or_ge a.block W.heap.size with q | q
      · exact q
      · rw [Array.getElem?_eq_none q] at h4; simp at h4
  | _ => simp_all [Cell.ok]
theorem open_sl {α : Type} {D : Dec α} {e : TypeId} {s : Nat} {H : Type} {enc : TypeId × Value → H} {r : Reach} {b0 : Nat} {v : Value} {d : DataW H} {ps : List MemPlace}
    (ht : P.underlying t = some (.slice e)) (hs : 0 < s) (hD : D.Of P w0 e s) (hval : Value.okWide P w0 r b0 t v) (hd : DataW.Trod enc P w0 0 (fun _ => true) true t v d ps) (hp : ∀ p, p ∈ ps → p.block < w0.heap.size) :
    ∃ xs : List α, ExtSl w0 s v xs.length (xs.flatMap D.e) ∧ (∀ a, a ∈ xs → D.ok a) ∧ (xs.map D.b).sum + 1 ≤ Rows.uptoBulk d := by
  rcases okWide_slice2 ht hval with rfl | ⟨a, n, c, rfl, hn, hc, ha⟩
  · obtain ⟨fuel, hf⟩ := hd
    refine ⟨[], ⟨⟨none, 0, rfl, Nat.le_refl _, by decide⟩, fun _ _ => .snil, fun h f => ?_⟩, by simp, ?_⟩
    · simp [Src]
    · rcases DataW.trod_slice ht hf with ⟨-, h0⟩ | ⟨a, len, cap, elems, rest, n, rfl, h1, -⟩
      · cases h0; simp [Rows.uptoBulk]
      · simp [Value.cells] at h1
  · obtain ⟨fuel, hf⟩ := hd
    have hcu : c < ucap := by
      have : (c : Int) ≤ 9223372036854775807 := hc
      show c < 18446744073709551616
      omega
    rcases DataW.trod_slice ht hf with ⟨h0, -⟩ | ⟨a', len, cap, elems, rest, m, rfl, h1, hx, hb, hl, hm, hlen, hel, -⟩
    · simp [Value.cells] at h0
    · simp only [Value.cells, List.toList_toArray, List.cons.injEq, Value.slice.injEq, Option.some.injEq, and_true] at h1
      obtain ⟨rfl, rfl, rfl⟩ := h1
      cases hx
      rw [hD.size] at hel
      -- the elements, one by one
      have each : ∀ i, i < n → ∃ y, elems[i]? = some y ∧ ∃ b, D.ok b ∧ D.b b ≤ Rows.uptoBulk y.1 ∧ ∀ j, j < s → w0.cell? (a.add (i * s + j)) = (D.e b)[j]? := by
        intro i hi
        have h2 := hel i hi
        rw [List.getElem?_eq_getElem (by omega : i < elems.length)] at h2 ⊢
        rw [Option.bind_eq_some_iff] at h2
        obtain ⟨cs, h3, h4⟩ := h2
        obtain ⟨b, rfl, o1, b1⟩ := hD.opens h4 (fun p hq => hp p (by simp only [List.mem_append, List.mem_flatMap]; exact .inr ⟨_, .inl (List.getElem_mem _), hq⟩))
        obtain ⟨-, -, h5⟩ := World.cells?_some h3
        refine ⟨_, rfl, b, o1, b1, fun j hj => ?_⟩
        rw [← h5 j hj]
        congr 1
        obtain ⟨bl, o, sp⟩ := a
        unfold Addr.add
        split <;> split <;> split <;> simp_all <;> omega
      have all : ∀ k, k ≤ n → ∃ xs : List α, xs.length = k ∧ (∀ b, b ∈ xs → D.ok b) ∧ (xs.map D.b).sum ≤ Rows.uptoBulkAll ((elems.take k).map (·.1)) ∧ ∀ j, j < k * s → w0.cell? (a.add j) = (xs.flatMap D.e)[j]? := by
        intro k
        induction k with
        | zero => intro _; exact ⟨[], rfl, by simp, by simp, fun j hj => by omega⟩
        | succ k ih =>
          intro hk
          obtain ⟨xs, l1, o1, b1, c1⟩ := ih (by omega)
          obtain ⟨y, hy, b, o2, b2, c2⟩ := each k (by omega)
          have hfl : (xs.flatMap D.e).length = k * s := by
            have : ∀ l : List α, (l.flatMap D.e).length = l.length * s := by
              intro l
              induction l with
              | nil => simp
              | cons x l ih => simp [hD.len, ih, Nat.add_mul]; omega
            rw [this, l1]
          refine ⟨xs ++ [b], by simp [l1], fun b' hb' => ?_, ?_, fun j hj => ?_⟩
          · rcases List.mem_append.1 hb' with q | q
            · exact o1 _ q
            · simp at q; subst q; exact o2
          · have ht : elems.take (k + 1) = elems.take k ++ [y] := by
              rw [List.take_add_one, hy]; rfl
            have happ : ∀ l m : List (DataW H), Rows.uptoBulkAll (l ++ m) = Rows.uptoBulkAll l + Rows.uptoBulkAll m := by
              intro l m
              induction l with
              | nil => simp [Rows.uptoBulkAll]
              | cons x l ih => simp [Rows.uptoBulkAll, ih]; omega
            rw [ht, List.map_append, List.map_append, happ]
            simp only [List.map_cons, List.map_nil, List.sum_append, List.sum_cons, List.sum_nil, Rows.uptoBulkAll]
            omega
          · rw [Nat.add_mul, Nat.one_mul] at hj
            rw [List.flatMap_append]
            by_cases hjk : j < k * s
            · rw [c1 j hjk, List.getElem?_append_left (by omega)]
            · rw [List.getElem?_append_right (by omega), hfl]
              have := c2 (j - k * s) (by omega)
              rw [show k * s + (j - k * s) = j by omega] at this
              simpa using this
      obtain ⟨xs, l1, o1, b1, c1⟩ := all n (Nat.le_refl _)
      have hfl : (xs.flatMap D.e).length = n * s := by
        have : ∀ l : List α, (l.flatMap D.e).length = l.length * s := by
          intro l
          induction l with
          | nil => simp
          | cons x l ih => simp [hD.len, ih, Nat.add_mul]; omega
        rw [this, l1]
      refine ⟨xs, ?_, o1, ?_⟩
      · rw [l1]
        refine ⟨⟨_, _, rfl, hn, hcu⟩, fun nx ι => .sext a n c ha hn hcu, fun h f => ⟨Nat.le_refl _, ?_⟩⟩
        by_cases h0 : n = 0
        · subst h0; left; exact ⟨rfl, List.eq_nil_of_length_eq_zero (by simpa using hfl)⟩
        · right
          have hpos : 0 < n * s := Nat.mul_pos (by omega) hs
          obtain ⟨q1, q2, q3⟩ := cells_ext hpos c1 hfl f
          refine ⟨by omega, a, rfl, q3, fun _ v hv => ?_⟩
          obtain ⟨b, hb, hv⟩ := List.mem_flatMap.1 hv
          exact hD.cl b (o1 b hb) v hv
      · rw [List.take_of_length_le (by omega)] at b1
        simp only [Rows.uptoBulk]
        omega
end

/-! ### Reading out of them -/
end
section
theorem put_new (h : Hp) (z c : List Value) (s : Nat) (hu : c.all isPtr = false) : (h.new z s).put h.next c = h.new c s := by
  have e1 : (fun i => if i = h.next then some c else if i = h.next then some z else h.blk i) = (fun i => if i = h.next then some c else h.blk i) := by
    funext i
    by_cases e : i = h.next <;> simp [e]
  have e2 : (fun i => if i = h.next then (if i = h.next then !z.isEmpty && z.all isPtr else h.um i) && c.all isPtr else if i = h.next then !z.isEmpty && z.all isPtr else h.um i) = (fun i => if i = h.next then !c.isEmpty && c.all isPtr else h.um i) := by
    funext i
    by_cases e : i = h.next <;> simp [e, hu]
  unfold Hp.put Hp.new
  simp only [e1, e2]
section
variable {w0 : World} {h : Hp} {s : Nat} {K : Kont}
theorem loadA_at {b o : Nat} {cs : List Value} {v : Value} (hB : w0.heap.size ≤ b) (hb : h.blk b = some cs) (hv : cs[o]? = some v) (hk : K v h) : loadA w0 (.pointer (some ⟨b, o, none⟩)) K h := by
  rw [loadA_own]
  exact ⟨v, by simp [hb, hv], fun hlt => by omega, hk⟩
end
/-! ### Words under binders -/
theorem faddA_ptr (a : Addr) (n : Nat) : addA (.pointer (some a)) n = fun K => K (.pointer (some (a.add n))) := by funext K h; exact propext (addA_ptr a n)
theorem fnilA_ptr (a : Addr) : nilA (.pointer (some a)) = fun K => K (.pointer (some a)) := by funext K h; exact propext (nilA_ptr a)
theorem fguardA_tt (m : Kont → Hp → Prop) : guardA (.bool true) true m = m := by funext K h; exact propext (guardA_tt m)
theorem fguardA_ff (m : Kont → Hp → Prop) : guardA (.bool false) false m = m := by funext K h; exact propext (guardA_ff m)
theorem fguardA_tf (m : Kont → Hp → Prop) : guardA (.bool true) false m = fun K => K undef := by funext K h; exact propext (guardA_tf m)
theorem fguardA_ft (m : Kont → Hp → Prop) : guardA (.bool false) true m = fun K => K undef := by funext K h; exact propext (guardA_ft m)
theorem fguardA_undef (want : Bool) (m : Kont → Hp → Prop) : guardA undef want m = fun K => K undef := by funext K h; exact propext (guardA_undef want m)
theorem fpickA_true (a b : Value) : pickA (.bool true) a b = fun K => K a := by funext K h; exact propext (pickA_true a b)
theorem fpickA_false (a b : Value) : pickA (.bool false) a b = fun K => K b := by funext K h; exact propext (pickA_false a b)
theorem fcondA_true (x y : Hp → Prop) : condA (.bool true) x y = x := by funext h; exact propext (condA_true x y)
theorem fcondA_false (x y : Hp → Prop) : condA (.bool false) x y = y := by funext h; exact propext (condA_false x y)
theorem freadQ_slSlA (s : Nat) (x : Value) (lo hi mx : Option Value) : readQ (slSlA s x lo hi mx) = slSlA s x lo hi mx := by
  funext K h
  refine propext ⟨?_, ?_⟩
  · rintro ⟨v, ⟨a, n, c, l, u, e1, e2, e3, e4, e5, e6⟩, k⟩
    refine ⟨a, n, c, l, u, e1, e2, e3, e4, e5, ?_⟩
    cases mx with
    | none =>
      simp only at e6 ⊢
      split
      · rename_i hc
        rw [if_pos hc] at e6
        obtain ⟨g1, ad, g2, g3, g4, rfl, -⟩ := e6
        exact ⟨g1, ad, g2, g3, g4, k⟩
      · rename_i hc
        rw [if_neg hc] at e6
        obtain ⟨g1, rfl, -⟩ := e6
        exact ⟨g1, k⟩
    | some mv =>
      obtain ⟨m, g1, g2, g3, g4, rfl, -⟩ := e6
      exact ⟨m, g1, g2, g3, g4, k⟩
  · rintro ⟨a, n, c, l, u, e1, e2, e3, e4, e5, e6⟩
    cases mx with
    | none =>
      simp only at e6
      split at e6
      · rename_i hc
        obtain ⟨g1, ad, g2, g3, g4, g5⟩ := e6
        exact ⟨_, ⟨a, n, c, l, u, e1, e2, e3, e4, e5, by show (if c = ucap then _ else _); rw [if_pos hc]; exact ⟨g1, ad, g2, g3, g4, rfl, rfl⟩⟩, g5⟩
      · rename_i hc
        exact ⟨_, ⟨a, n, c, l, u, e1, e2, e3, e4, e5, by show (if c = ucap then _ else _); rw [if_neg hc]; exact ⟨e6.1, rfl, rfl⟩⟩, e6.2⟩
    | some mv =>
      obtain ⟨m, g1, g2, g3, g4, g5⟩ := e6
      exact ⟨_, ⟨a, n, c, l, u, e1, e2, e3, e4, e5, m, g1, g2, g3, g4, rfl, rfl⟩, g5⟩
/-! ### Sources stay -/
def sblk : Value → List Nat
  | .slice (some a) _ _ => [a.block]
  | _ => []
theorem Src.frame {B s m : Nat} {h h' : Hp} {x : Value} {ys : List Value} (hs : Src B h s x m ys) (hb : ∀ b cs, b ∈ sblk x → h.blk b = some cs → h'.blk b = some cs) : Src B h' s x m ys := by
  unfold Src at hs ⊢
  split at hs
  · exact hs
  · rename_i a n c
    refine ⟨hs.1, ?_⟩
    rcases hs.2 with h0 | ⟨h0, ad, rfl, hg, hcl⟩
    · exact .inl h0
    · refine .inr ⟨h0, ad, rfl, ?_, hcl⟩
      obtain ⟨hsp, cs, hbk, hle, hv⟩ := Hp.getN_some hg
      obtain ⟨b, o, sp⟩ := ad
      simp only at hsp hbk hle hv
      subst hsp
      rw [getN_eq, hb b cs (by simp [sblk]) hbk, Option.bind_some, if_pos hle, hv]
  · exact hs
theorem Src.step {w0 : World} {B s m : Nat} {h h' : Hp} {x : Value} {ys : List Value} {S S' : List Nat} (hs : Src B h s x m ys) (f : Fit w0 h) (st : Step h h' S S') (hd : ∀ b, b ∈ sblk x → b ∉ S) : Src B h' s x m ys :=
  hs.frame fun b cs hb hbk => by rw [(st.keep b (f.lt b cs hbk) (hd b hb)).1]; exact hbk
theorem Fit.new {w0 : World} {h : Hp} (f : Fit w0 h) {c : List Value} {s : Nat} (hc : ∀ v, v ∈ c → isCell v = true) : Fit w0 (h.new c s) := by
  refine ⟨by have := f.base; simp; omega, fun i hi => ?_, fun b cs hb => ?_, fun b cs hB hb v hv => ?_, fun b x e => by have := f.lps b x e; simp; omega, fun b cs hB hb hu => ?_⟩
  rotate_right
  · simp only [new_blk] at hb
    have hu : (if b = h.next then !c.isEmpty && c.all isPtr else h.um b) = true := hu
    split at hb
    · rename_i e
      rw [if_pos e] at hu
      cases hb
      exact (Bool.and_eq_true_iff.1 hu).2
    · rename_i e
      rw [if_neg e] at hu
      exact f.um b cs hB hb hu
  · have : i ≠ h.next := by have := f.base; omega
    simpa [this] using f.ext i hi
  · simp at hb
    split at hb
    · simp; omega
    · have := f.lt b cs hb; simp; omega
  · simp at hb
    split at hb
    · cases hb; exact hc v hv
    · exact f.cell b cs hB hb v hv
theorem Fit.put {w0 : World} {h : Hp} (f : Fit w0 h) {p : Nat} {c : List Value} (hp : w0.heap.size ≤ p) (hlt : p < h.next) (hc : ∀ v, v ∈ c → isCell v = true) : Fit w0 (h.put p c) := by
  refine ⟨f.base, fun i hi => ?_, fun b cs hb => ?_, fun b cs hB hb v hv => ?_, f.lps, fun b cs hB hb hu => ?_⟩
  rotate_right
  · simp only [put_blk] at hb
    have hu : (if b = p then h.um b && c.all isPtr else h.um b) = true := hu
    split at hb
    · rename_i e
      rw [if_pos e] at hu
      cases hb
      exact (Bool.and_eq_true_iff.1 hu).2
    · rename_i e
      rw [if_neg e] at hu
      exact f.um b cs hB hb hu
  · have : i ≠ p := by omega
    simpa [this] using f.ext i hi
  · simp at hb
    split at hb
    · simp; omega
    · exact f.lt b cs hb
  · simp at hb
    split at hb
    · cases hb; exact hc v hv
    · exact f.cell b cs hB hb v hv
theorem Dec.Of.map {α β : Type} {D : Dec α} {E : Dec β} {P : Program} {w0 : World} {t : TypeId} {s : Nat} (hD : D.Of P w0 t s) (f : α → β) (he : ∀ a, E.e (f a) = D.e a) (hok : ∀ a, D.ok a → E.ok (f a)) (hb : ∀ a, E.b (f a) ≤ D.b a)
    (hlen : ∀ b, (E.e b).length = s) (hcl : ∀ b, E.ok b → ∀ v, v ∈ E.e b → ClC w0.heap.size v) : E.Of P w0 t s := by
  refine ⟨hD.size, hlen, hcl, fun {H enc fuel cs x} hx hp => ?_⟩
  obtain ⟨a, rfl, o, b⟩ := hD.opens hx hp
  exact ⟨f a, (he a).symm, hok a o, Nat.le_trans (hb a) b⟩
theorem wa {α : Type} : (∀ (l : List α) (i : Nat), l.toArray[i]? = l[i]?) ∧ (∀ (a : α) (l : List α), (a :: l)[0]? = some a) ∧ (∀ (a : α) (l : List α) (i : Nat), (a :: l)[i + 1]? = l[i]?) :=
  ⟨fun _ _ => List.getElem?_toArray, fun _ _ => List.getElem?_cons_zero, fun _ _ _ => List.getElem?_cons_succ⟩
theorem wd : (∀ (a : Option Addr) (n c : Nat), lenSl (Value.slice a n c) = some (Value.int IntKind.i64 ↑n)) ∧
  (∀ (s : ByteArray), lenStr (Value.string s) = some (Value.int IntKind.i64 ↑s.size)) ∧
    (∀ (l : List UInt8), (str l).size = l.length) ∧
      (∀ (v : Value) (K : Kont), pureA (some v) K = K v) ∧
        (∀ (a : Addr), nilA (Value.pointer (some a)) = fun K => K (Value.pointer (some a))) ∧
          (∀ (a : Addr) (n : Nat), addA (Value.pointer (some a)) n = fun K => K (Value.pointer (some (a.add n)))) ∧
            (∀ (b o n : Nat), (⟨b, o, none⟩ : Addr).add n = ⟨b, o + n, none⟩) ∧
              (∀ (n : Nat), 0 + n = n) ∧
                (∀ (n : Nat), n + 0 = n) ∧
                  (∀ (v : Value), (pureQ fun K => K v) = fun K => K v) ∧
                    (∀ (x : Value), pureQ (nilA x) = nilA x) ∧
                      (∀ (x : Value) (n : Nat), pureQ (addA x n) = addA x n) ∧
                        (∀ (o : Option Value), pureQ (pureA o) = pureA o) ∧
                          (∀ (x : Value) (want : Bool) (m : Kont → Hp → Prop),
                              pureQ (guardA x want m) = guardA x want (pureQ m)) ∧
                            (∀ (s : Nat) (x i : Value), pureQ (idxSlA s x i) = idxSlA s x i) ∧
                              (∀ (c a b : Value), pureQ (pickA c a b) = pickA c a b) ∧
                                (∀ {w0 : World} (x : Value), readQ (loadA w0 x) = loadA w0 x) ∧
                                  (∀ {w0 : World} (x : Value) (n : Nat), readQ (loadNA w0 x n) = loadNA w0 x n) ∧
                                    (∀ {w0 : World} (x : Value), readQ (b2sA w0 x) = b2sA w0 x) ∧
                                      (∀ (x : Value) (want : Bool) (m : Kont → Hp → Prop),
                                          readQ (guardA x want m) = guardA x want (readQ m)) ∧
                                        (∀ (s : Nat) (x : Value) (lo hi mx : Option Value),
                                            readQ (slSlA s x lo hi mx) = slSlA s x lo hi mx) ∧
                                          (∀ (v : Value), (readQ fun K => K v) = fun K => K v) ∧
                                            (∀ (k : Hp → Prop), endA k = k) ∧
                                              (∀ (k : Hp → Prop), allA [k] = k) ∧
                                                (∀ (k : Hp → Prop), stillA [] k = k) ∧
                                                  (∀ (m : Kont → Hp → Prop), guardA (Value.bool true) true m = m) ∧
                                                    (∀ (m : Kont → Hp → Prop), guardA (Value.bool false) false m = m) ∧
                                                      (∀ (m : Kont → Hp → Prop),
                                                          guardA (Value.bool true) false m = fun K => K undef) ∧
                                                        (∀ (m : Kont → Hp → Prop),
                                                            guardA (Value.bool false) true m = fun K => K undef) ∧
                                                          (∀ (want : Bool) (m : Kont → Hp → Prop),
                                                              guardA undef want m = fun K => K undef) ∧
                                                            (∀ (a b : Value),
                                                                pickA (Value.bool true) a b = fun K => K a) ∧
                                                              (∀ (a b : Value),
                                                                  pickA (Value.bool false) a b = fun K => K b) ∧
                                                                (∀ (x y : Hp → Prop), condA (Value.bool true) x y = x) ∧
                                                                  (∀ (x y : Hp → Prop),
                                                                      condA (Value.bool false) x y = y) ∧
                                                                    (∀ (k : IntKind) (a b : Int),
                                                                        binA BinOp.add (Value.int k a) (Value.int k b) =
                                                                          some (Value.int k (k.wrap (a + b)))) ∧
                                                                      (∀ (k : IntKind) (a b : Int),
                                                                          binA BinOp.sub (Value.int k a)
                                                                              (Value.int k b) =
                                                                            some (Value.int k (k.wrap (a - b)))) ∧
                                                                        (∀ (k : IntKind) (a b : Int),
                                                                            binA BinOp.mul (Value.int k a)
                                                                                (Value.int k b) =
                                                                              some (Value.int k (k.wrap (a * b)))) ∧
                                                                          (∀ (k : IntKind) (a b : Int),
                                                                              binA BinOp.eql (Value.int k a)
                                                                                  (Value.int k b) =
                                                                                some (Value.bool (a == b))) ∧
                                                                            (∀ (k : IntKind) (a b : Int),
                                                                                binA BinOp.neq (Value.int k a)
                                                                                    (Value.int k b) =
                                                                                  some (Value.bool (a != b))) ∧
                                                                              (∀ (k : IntKind) (a b : Int),
                                                                                  binA BinOp.lss (Value.int k a)
                                                                                      (Value.int k b) =
                                                                                    some
                                                                                      (Value.bool (decide (a < b)))) ∧
                                                                                (∀ (k : IntKind) (a b : Int),
                                                                                    binA BinOp.leq (Value.int k a)
                                                                                        (Value.int k b) =
                                                                                      some
                                                                                        (Value.bool (decide (a ≤ b)))) ∧
                                                                                  (∀ (k : IntKind) (a b : Int),
                                                                                      binA BinOp.gtr (Value.int k a)
                                                                                          (Value.int k b) =
                                                                                        some
                                                                                          (Value.bool
                                                                                            (decide (b < a)))) ∧
                                                                                    (∀ (k : IntKind) (a b : Int),
                                                                                        binA BinOp.geq (Value.int k a)
                                                                                            (Value.int k b) =
                                                                                          some
                                                                                            (Value.bool
                                                                                              (decide (b ≤ a)))) ∧
                                                                                      (∀ (b : Bool),
                                                                                          unA UnOp.not (Value.bool b) =
                                                                                            some (Value.bool !b)) ∧
                                                                                        (!true) = false ∧
                                                                                          (!false) = true ∧
                                                                                            (∀ (k k' : IntKind)
                                                                                                (n : Int),
                                                                                                convA k
                                                                                                    (Value.int k' n) =
                                                                                                  some
                                                                                                    (Value.int k
                                                                                                      (k.wrap n))) ∧
                                                                                              ∀ (vs : Array Value)
                                                                                                (i : Nat),
                                                                                                extA (Value.tuple vs)
                                                                                                    i =
                                                                                                  vs[i]? :=
  ⟨@lenSl_slice, @lenStr_string, @str_size, @fpureA_some, @fnilA_ptr, @faddA_ptr, @addr_add, @Nat.zero_add, @Nat.add_zero, @fpureQ_k, @fpureQ_nilA, @fpureQ_addA, @fpureQ_pureA, @fpureQ_guardA, @fpureQ_idxSlA, @fpureQ_pickA, @freadQ_loadA, @freadQ_loadNA, @freadQ_b2sA, @freadQ_guardA, @freadQ_slSlA, @freadQ_k, @fendA, @fallA_one, @fstillA_nil, @fguardA_tt, @fguardA_ff, @fguardA_tf, @fguardA_ft, @fguardA_undef, @fpickA_true, @fpickA_false, @fcondA_true, @fcondA_false, @binA_add, @binA_sub, @binA_mul, @binA_eql, @binA_neq, @binA_lss, @binA_leq, @binA_gtr, @binA_geq, @unA_not, @Bool.not_true, @Bool.not_false, @convA_int, @extA_tuple⟩
end
section
inductive Rows (w0 : World) (h : Hp) : List Value → List (List UInt8) → List Nat → Prop
  | nil : Rows w0 h [] [] []
  | snoc {vs : List Value} {rs : List (List UInt8)} {S : List Nat} {v : Value} {r : List UInt8} {T : List Nat} : Rows w0 h vs rs S → Vec w0 h 1 v r.length (bvs r) T → (∀ b, b ∈ T → b ∉ S) → Rows w0 h (vs ++ [v]) (rs ++ [r]) (S ++ T)
section
variable {w0 : World} {h h' : Hp} {vs : List Value} {rs : List (List UInt8)} {S : List Nat}
theorem Rows.len (q : Rows w0 h vs rs S) : vs.length = rs.length := by
  induction q with
  | nil => rfl
  | snoc _ _ _ ih => simp [ih]
theorem Rows.lt (q : Rows w0 h vs rs S) : ∀ b, b ∈ S → w0.heap.size ≤ b ∧ b < h.next := by
  induction q with
  | nil => simp
  | snoc _ v _ ih =>
    intro b hb
    rcases List.mem_append.1 hb with e | e
    · exact ih b e
    · exact v.lt b e
theorem Rows.frame (q : Rows w0 h vs rs S) {T T' : List Nat} (st : Step h h' T T') (hd : ∀ b, b ∈ S → b ∉ T) : Rows w0 h' vs rs S := by
  induction q with
  | nil => exact .nil
  | snoc _ v d ih => exact .snoc (ih fun b hb => hd b (by simp [hb])) (v.frame st fun b hb => hd b (by simp [hb])) d
theorem Rows.put (q : Rows w0 h vs rs S) {p : Nat} (hp : p ∉ S) (c : List Value) : Rows w0 (h.put p c) vs rs S := by
  induction q with
  | nil => exact .nil
  | snoc _ v d ih => exact .snoc (ih fun e => hp (by simp [e])) (v.put (fun e => hp (by simp [e])) c) d
theorem Rows.cell (q : Rows w0 h vs rs S) : ∀ v, v ∈ vs → isCell v = true ∧ v ≠ junk := by
  induction q with
  | nil => simp
  | snoc _ v d ih =>
    intro x hx
    rcases List.mem_append.1 hx with e | e
    · exact ih x e
    · simp at e; subst e; obtain ⟨a, c, rfl⟩ := v.slice; simp
theorem Rows.get (q : Rows w0 h vs rs S) {i : Nat} {r : List UInt8} (hi : rs[i]? = some r) : ∃ v T, vs[i]? = some v ∧ Vec w0 h 1 v r.length (bvs r) T ∧ ∀ b, b ∈ T → b ∈ S := by
  induction q with
  | nil => simp at hi
  | snoc q v d ih =>
    rename_i vs rs S v0 r0 T
    have hl := q.len
    by_cases h1 : i < rs.length
    · rw [List.getElem?_append_left h1] at hi
      obtain ⟨x, T1, e, vx, hs⟩ := ih hi
      exact ⟨x, T1, by rw [List.getElem?_append_left (by omega)]; exact e, vx, fun b hb => by simp [hs b hb]⟩
    · rw [List.getElem?_append_right (by omega)] at hi
      have h2 : i - rs.length = 0 := by
        rcases Nat.eq_zero_or_pos (i - rs.length) with e | e
        · exact e
        · rw [List.getElem?_eq_none (by simp; omega)] at hi; simp at hi
      rw [h2] at hi
      simp at hi
      subst hi
      exact ⟨v0, T, by rw [List.getElem?_append_right (by omega), show i - vs.length = 0 by omega]; rfl, v, fun b hb => by simp [hb]⟩
theorem Rows.last {r : List UInt8} (q : Rows w0 h vs (rs ++ [r]) S) : ∃ vs' v S' T, vs = vs' ++ [v] ∧ Rows w0 h vs' rs S' ∧ Vec w0 h 1 v r.length (bvs r) T ∧ (∀ b, b ∈ T → b ∉ S') ∧ S = S' ++ T := by
  generalize hg : rs ++ [r] = rr at q
  cases q with
  | nil => simp at hg
  | snoc q v d =>
    obtain ⟨rfl, e⟩ := List.append_inj' hg rfl
    simp at e
    subst e
    exact ⟨_, _, _, _, rfl, q, v, d, rfl⟩
def VVec (w0 : World) (h : Hp) (x : Value) (rs : List (List UInt8)) (S : List Nat) : Prop :=
  ∃ vs T S0, Vec w0 h 1 x rs.length vs T ∧ Rows w0 h vs rs S0 ∧ (∀ b, b ∈ T → b ∉ S0) ∧ S = T ++ S0
variable {x : Value}
theorem VVec.nil : VVec w0 h (.slice none 0 0) [] [] := ⟨[], [], [], .nil, .nil, by simp, rfl⟩
theorem VVec.lt (q : VVec w0 h x rs S) : ∀ b, b ∈ S → w0.heap.size ≤ b ∧ b < h.next := by
  obtain ⟨vs, T, S0, v, r, d, rfl⟩ := q
  intro b hb
  rcases List.mem_append.1 hb with e | e
  · exact v.lt b e
  · exact r.lt b e
theorem VVec.frame (q : VVec w0 h x rs S) {T T' : List Nat} (st : Step h h' T T') (hd : ∀ b, b ∈ S → b ∉ T) : VVec w0 h' x rs S := by
  obtain ⟨vs, U, S0, v, r, d, rfl⟩ := q
  exact ⟨vs, U, S0, v.frame st fun b hb => hd b (by simp [hb]), r.frame st fun b hb => hd b (by simp [hb]), d, rfl⟩
theorem VVec.put (q : VVec w0 h x rs S) {p : Nat} (hp : p ∉ S) (c : List Value) : VVec w0 (h.put p c) x rs S := by
  obtain ⟨vs, U, S0, v, r, d, rfl⟩ := q
  exact ⟨vs, U, S0, v.put (fun e => hp (by simp [e])) c, r.put (fun e => hp (by simp [e])) c, d, rfl⟩
theorem VVec.slice (q : VVec w0 h x rs S) : ∃ a c, x = .slice a rs.length c := by
  obtain ⟨vs, U, S0, v, r, d, rfl⟩ := q
  exact v.slice
theorem appA_vvec {by_ : Nat} {v : Value} {r : List UInt8} {T : List Nat} {ay : Option Addr} {cy : Nat} {K : Kont} (hf : w0.heap.size ≤ h.next) (q : VVec w0 h x rs S) (hs : Src w0.heap.size h 1 (.slice ay 1 cy) 1 [v]) (hv : Vec w0 h 1 v r.length (bvs r) T) (hd : ∀ b, b ∈ T → b ∉ S)
    (hb : (rs.length + 1) * by_ ≤ 140737488355328) (hn : rs.length + 1 ≤ 140737488355328) (hk : ∀ x' h' S', VVec w0 h' x' (rs ++ [r]) S' → Step h h' (S ++ T) S' → K x' h') : appA w0 1 by_ x (.slice ay 1 cy) K h := by
  obtain ⟨vs, U, S0, vx, rw_, d, rfl⟩ := q
  refine appA_vec (m := 1) hf vx (by simp) hs (by simp) hb hn (by omega) (fun x' h' U' v' st => ?_)
  have hS0 : ∀ b, b ∈ S0 → b ∉ U := fun b hb he => d b he hb
  have hTU : ∀ b, b ∈ T → b ∉ U := fun b hb he => hd b hb (by simp [he])
  have hTS : ∀ b, b ∈ T → b ∉ S0 := fun b hb he => hd b hb (by simp [he])
  refine hk x' h' (U' ++ (S0 ++ T)) ⟨vs ++ [v], U', S0 ++ T, by simpa using v', .snoc (rw_.frame st hS0) (hv.frame st hTU) hTS, fun b hb he => ?_, rfl⟩ ?_
  · rcases (st.own b hb).2 with e | e
    · rcases List.mem_append.1 he with g | g
      · exact d b e g
      · exact hTU b g e
    · rcases List.mem_append.1 he with g | g
      · have := (rw_.lt b g).2; omega
      · have := (hv.lt b g).2; omega
  · refine st.wide (fun b hb => by simp [hb]) (fun b hb => ?_)
    rcases List.mem_append.1 hb with e | e
    · exact .inl e
    · rcases List.mem_append.1 e with g | g
      · exact .inr ⟨by simp [g], (rw_.lt b g).2⟩
      · exact .inr ⟨by simp [g], (hv.lt b g).2⟩
theorem VVec.get (q : VVec w0 h x rs S) {i : Nat} {r : List UInt8} (hi : rs[i]? = some r) : ∃ b vs v T, x = .slice (some ⟨b, 0, none⟩) rs.length ucap ∧ w0.heap.size ≤ b ∧ h.blk b = some vs ∧ h.esz b = 1 ∧ vs[i]? = some v ∧ vs.length = rs.length ∧ Vec w0 h 1 v r.length (bvs r) T ∧ (∀ c, c ∈ T → c ∈ S) := by
  obtain ⟨vs, U, S0, v, rr, d, rfl⟩ := q
  obtain ⟨y, T, e, vy, hs⟩ := rr.get hi
  rcases v with ⟨rfl, e1, rfl, rfl⟩ | ⟨b, rfl, rfl, hB, hlt, hbk, hes, hl⟩
  · simp at e
  · exact ⟨b, vs, y, T, rfl, hB, hbk, hes, e, by simpa using hl, vy, fun c hc => by simp [hs c hc]⟩
end
end
end Go.Proofs.Ytiakadkooclelaa.Ah
