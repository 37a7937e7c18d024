/- Arguments that lie in what was there: how structs and slices of them are opened. -/
import Derived.Test.YtfmoemconapmhaaGreatRows
import Derived.Test.YtfmoemconapmhaaGreatAh19
import Derived.Test.YtfmoemconapmhaaGreatAh20
set_option linter.unusedVariables false
set_option linter.unusedSimpArgs false
set_option linter.constructorNameAsVariable false
namespace Go.Proofs.YtfmoemconapmhaaGreat.Ah
open Go
open Go Go.ChangeShapes Go.WideShapes
structure Dec (α : Type) where
 e : α → List Value
 ok : α → Prop
 b : α → Nat
structure Dec.Of {α : Type} (D : Dec α) (P : Program) (w0 : World) (t : TypeId) (s : Nat) : Prop where
 size : P.cellsOf t = s
 len : ∀ a, (D.e a).length = s
 cl : ∀ a, D.ok a → ∀ v, v ∈ D.e a → ClC w0.heap.size v
 opens : ∀ {H : Type} {enc : TypeId × Value → H} {fuel : Nat} {cs : List Value} {x : DataW H × List MemPlace}, DataW.trod enc P w0 0 (fun _ => true) true fuel t cs = some x → (∀ p, p ∈ x.2 → p.block < w0.heap.size) → ∃ a, cs = D.e a ∧ D.ok a ∧ D.b a ≤ Rows.uptoBulk x.1
theorem qsx (B : Nat) (k : IntKind) (n : Int) : ClC B (.int k n) := ⟨q09s B k n, rfl⟩
theorem qpt (B : Nat) (s : ByteArray) : ClC B (.string s) := ⟨q04c B s, rfl⟩
theorem q07e (B : Nat) (b : Bool) : ClC B (.bool b) := ⟨q091 B b, rfl⟩
/-! ### Of one cell -/
def dInt (k : IntKind) : Dec Int := ⟨fun n => [.int k n], fun n => k.min ≤ n ∧ n ≤ k.max, fun _ => 1⟩
def dNat (k : IntKind) : Dec Nat := ⟨fun n => [.int k n], fun n => n < 2 ^ k.bits, fun _ => 1⟩
def dStr : Dec (List UInt8) := ⟨fun l => [.string (str l)], fun _ => True, fun l => l.length + 1⟩
def dBool : Dec Bool := ⟨fun q => [.bool q], fun _ => True, fun _ => 1⟩
section
variable {P : Program} {w0 : World} {t : TypeId}
theorem q8j {k : IntKind} (ht : P.underlying t = some (.int k)) (hc : P.cellsOf t = 1) : (dInt k).Of P w0 t 1 := by
 refine ⟨hc, fun _ => rfl, fun a _ v hv => ?_, fun {H enc fuel cs x} hx hp => ?_⟩
 ·simp only [dInt, List.mem_singleton] at hv; subst hv; exact qsx _ _ _
 ·obtain ⟨n, rfl, rfl, hw⟩ := DataW.trod_int ht hx
  refine ⟨n, rfl, ?_, by simp [dInt, Rows.uptoBulk]⟩
  simpa [dInt, Lit.wf] using hw
theorem qi0 (ht : P.underlying t = some .string) (hc : P.cellsOf t = 1) : dStr.Of P w0 t 1 := by
 refine ⟨hc, fun _ => rfl, fun a _ v hv => ?_, fun {H enc fuel cs x} hx hp => ?_⟩
 ·simp only [dStr, List.mem_singleton] at hv; subst hv; exact qpt _ _
 ·obtain ⟨s, rfl, rfl, hw⟩ := DataW.trod_string ht hx
  exact ⟨s.data.toList, by simp [dStr], trivial, by simp [dStr, Rows.uptoBulk]⟩
/-! ### Structs -/
def dUnit : Dec Unit := ⟨fun _ => [], fun _ => True, fun _ => 0⟩
def dPair {α β : Type} (D : Dec α) (E : Dec β) : Dec (α × β) := ⟨fun p => D.e p.1 ++ E.e p.2, fun p => D.ok p.1 ∧ E.ok p.2, fun p => D.b p.1 + E.b p.2⟩
structure Dec.OfFs {α : Type} (D : Dec α) (P : Program) (w0 : World) (fs : List Field) (o s : Nat) : Prop where
 len : ∀ a, (D.e a).length = s
 cl : ∀ a, D.ok a → ∀ v, v ∈ D.e a → ClC w0.heap.size v
 opens : ∀ {H : Type} {enc : TypeId × Value → H} {n : Nat} {cs : List Value} {xs : List (DataW H × List MemPlace)}, cs.length = o + s → xs.length = fs.length →
  (∀ (i : Nat) f, fs[i]? = some f → DataW.trod enc P w0 0 (fun _ => true) true n f.type ((cs.drop f.offset).take (P.cellsOf f.type)) = xs[i]?) → (∀ y, y ∈ xs → ∀ p, p ∈ y.2 → p.block < w0.heap.size) → ∃ a, cs.drop o = D.e a ∧ D.ok a ∧ D.b a ≤ Rows.uptoBulkAll (xs.map (·.1))
theorem qhj {o : Nat} : dUnit.OfFs P w0 [] o 0 := by
 refine ⟨fun _ => rfl, fun a _ v hv => by simp [dUnit] at hv, fun {H enc n cs xs} hl hx h _ => ⟨(), ?_, trivial, by simp [dUnit]⟩⟩
 simp only [dUnit]
 exact List.drop_eq_nil_of_le (by omega)
theorem q1p {α β : Type} {D : Dec α} {E : Dec β} {f : Field} {fs : List Field} {o s s' : Nat} (hf : f.offset = o) (hD : D.Of P w0 f.type s) (hE : E.OfFs P w0 fs (o + s) s') : (dPair D E).OfFs P w0 (f :: fs) o (s + s') := by
 refine ⟨fun a => by simp [dPair, hD.len, hE.len], fun a ha v hv => ?_, fun {H enc n cs xs} hl hx h hp => ?_⟩
 ·rcases List.mem_append.1 hv with e | e
  ·exact hD.cl _ ha.1 v e
  ·exact hE.cl _ ha.2 v e
 ·cases xs with
  | nil => simp at hx
  | cons x xs =>
   have h0 := h 0 f rfl
   simp only [List.getElem?_cons_zero] at h0
   rw [hf, hD.size] at h0
   obtain ⟨a, e1, o1, b1⟩ := hD.opens h0 (hp x (by simp))
   obtain ⟨b, e2, o2, b2⟩ := hE.opens (cs := cs) (xs := xs) (by omega) (by simpa using hx) (fun i g hg => by simpa using h (i + 1) g (by simpa using hg)) (fun y hy => hp y (by simp [hy]))
   refine ⟨(a, b), ?_, ⟨o1, o2⟩, by simp only [dPair, List.map_cons, Rows.uptoBulkAll]; omega⟩
   simp only [dPair]
   rw [← e1, ← e2, ← List.drop_drop, List.take_append_drop]
def dStruct {α : Type} (D : Dec α) : Dec α := ⟨D.e, D.ok, fun a => D.b a + 1⟩
theorem qgw {α : Type} {D : Dec α} {fs : Array Field} {s : Nat} (ht : P.underlying t = some (.struct fs)) (hc : P.cellsOf t = s) (hD : D.OfFs P w0 fs.toList 0 s) : (dStruct D).Of P w0 t s := by
 refine ⟨hc, hD.len, hD.cl, fun {H enc fuel cs x} hx hp => ?_⟩
 obtain ⟨xs, n, rfl, rfl, hl, hxl, h⟩ := DataW.trod_struct ht hx
 obtain ⟨a, e1, o1, b1⟩ := hD.opens (cs := cs) (xs := xs) (by omega) (by simpa using hxl) (fun i f hf => h i f (by simpa using hf)) (fun y hy p hq => hp p (List.mem_flatMap.2 ⟨y, hy, hq⟩))
 exact ⟨a, by rw [List.drop_zero] at e1; exact e1, o1, by simp only [dStruct, Rows.uptoBulk]; omega⟩
theorem q07q {α : Type} {D : Dec α} {fs : Array Field} {s : Nat} {H : Type} {enc : TypeId × Value → H} {r : Reach} {b0 : Nat} {v : Value} {d : DataW H} {ps : List MemPlace}
  (ht : P.underlying t = some (.struct fs)) (hD : D.Of P w0 t s) (hval : Value.okWide P w0 r b0 t v) (hd : DataW.Trod enc P w0 0 (fun _ => true) true t v d ps) (hp : ∀ p, p ∈ ps → p.block < w0.heap.size) :
  ∃ a, v = .agg (D.e a).toArray ∧ D.ok a ∧ D.b a ≤ Rows.uptoBulk d := by
 obtain ⟨cs, rfl, hs⟩ := okWide_struct ht hval
 obtain ⟨fuel, hf⟩ := hd
 obtain ⟨a, e1, o1, b1⟩ := hD.opens hf hp
 simp only [Value.cells] at e1
 exact ⟨a, by rw [← e1], o1, b1⟩
theorem clAgg {B : Nat} {cs : List Value} (h : ∀ v, v ∈ cs → ClC B v) : Cl B (.agg cs.toArray) := by
 intro nx ι
 refine .agg _ _ rfl (fun i v v' a b => ?_) fun i v a => ?_
 ·rw [a] at b; cases b; exact (h v (by simpa using List.mem_of_getElem? (by simpa using a))).1 nx ι
 ·exact (h v (by simpa using List.mem_of_getElem? (by simpa using a))).2
/-! ### Slices -/
structure ExtSl (w0 : World) (s : Nat) (v : Value) (n : Nat) (ys : List Value) : Prop where
 sl : ∃ a c, v = .slice a n c ∧ n ≤ c ∧ c < ucap
 cl : Cl w0.heap.size v
 src : ∀ h, Fit w0 h → Src w0.heap.size h s v n ys
theorem q04y {W : World} {a : Addr} {n : Nat} {cs : List Value} (hn : 0 < n) (h : ∀ i, i < n → W.cell? (a.add i) = cs[i]?) (hl : cs.length = n) {h0 : Hp} (f : Fit W h0) : a.block < W.heap.size ∧ a.spot = none ∧ h0.getN a n = some cs := by
 have h1 := h 0 hn
 have h2 : ∃ v, cs[0]? = some v := ⟨cs[0]'(by omega), by simp⟩
 obtain ⟨v, hv⟩ := h2
 rw [hv] at h1
 have a0 : a.add 0 = a := by simp [Addr.add]
 rw [a0] at h1
 unfold World.cell? at h1
 split at h1
 ·rename_i c el fr hb
  have hlt : a.block < W.heap.size := by
   rcases Nat.lt_or_ge a.block W.heap.size with q | q
   ·exact q
   ·rw [Array.getElem?_eq_none q] at hb; simp at hb
  split at h1
  ·simp at h1
  ·rename_i hs
   have hs : a.spot = none := by simpa using hs
   refine ⟨hlt, hs, ?_⟩
   have hblk : h0.blk a.block = some c.toList := by rw [f.ext _ hlt]; simp [extBlk, hb]
   obtain ⟨b, o, sp⟩ := a
   simp only at hs hblk hb h ⊢
   subst hs
   have hall : ∀ i, i < n → c.toList[o + i]? = cs[i]? := by
    intro i hi
    have := h i hi
    simp only [q10, World.cell?, hb] at this
    simpa using this
   have hle : o + n ≤ c.toList.length := by
    have := hall (n - 1) (by omega)
    rw [List.getElem?_eq_getElem (by omega : n - 1 < cs.length)] at this
    have := (List.getElem?_eq_some_iff.1 this).1
    omega
   rw [q2f, hblk, Option.bind_some, if_pos hle]
   congr 1
   apply List.ext_getElem?
   intro i
   by_cases hi : i < n
   ·rw [List.getElem?_take, if_pos hi, List.getElem?_drop, hall i hi]
   ·rw [List.getElem?_take, if_neg hi, List.getElem?_eq_none (by omega)]
 ·simp at h1
end
/-! ### Reading out of them -/
theorem qg7 {α : Type} {e : α → List Value} {s : Nat} (he : ∀ a, (e a).length = s) : ∀ (xs : List α) (i : Nat) (a : α), xs[i]? = some a → ((xs.flatMap e).drop (i * s)).take s = e a := by
 intro xs
 induction xs with
 | nil => intro i a h; simp at h
 | cons x xs ih =>
  intro i a h
  cases i with
  | zero =>
   simp at h
   subst h
   simp [List.flatMap_cons, ← he x]
  | succ i =>
   simp at h
   rw [List.flatMap_cons, Nat.add_mul, Nat.one_mul, Nat.add_comm, ← he x, ← List.drop_drop, List.drop_left, he x]
   exact ih i a h
theorem q08v (h : Hp) (z c : List Value) (s : Nat) (hu : c.all isPtr = false) : (h.new z s).put h.next c = h.new c s := by
 have e1 : (fun i => if i = h.next then some c else if i = h.next then some z else h.blk i) = (fun i => if i = h.next then some c else h.blk i) := by
  funext i
  by_cases e : i = h.next <;> simp [e]
 have e2 : (fun i => if i = h.next then (if i = h.next then !z.isEmpty && z.all isPtr else h.um i) && c.all isPtr else if i = h.next then !z.isEmpty && z.all isPtr else h.um i) = (fun i => if i = h.next then !c.isEmpty && c.all isPtr else h.um i) := by
  funext i
  by_cases e : i = h.next <;> simp [e, hu]
 unfold Hp.put Hp.new
 simp only [e1, e2]
theorem qgo (z c : List Value) (hl : c.length = z.length) : splice z 0 c = c := by
 unfold splice
 simp [← hl]
section
variable {w0 : World} {h : Hp} {s : Nat} {K : Kont}
theorem qo {b n : Nat} {cs : List Value} (hB : w0.heap.size ≤ b) (hb : h.blk b = some cs) (hn : cs.length = n) (hk : K (.agg cs.toArray) h) : loadNA w0 (.pointer (some ⟨b, 0, none⟩)) n K h := by
 rw [qgs]
 exact ⟨cs, by simp [hb, ← hn], fun hlt => by omega, hk⟩
theorem qc {b o : Nat} {cs : List Value} {v : Value} (hB : w0.heap.size ≤ b) (hb : h.blk b = some cs) (hv : cs[o]? = some v) (hk : K v h) : loadA w0 (.pointer (some ⟨b, o, none⟩)) K h := by
 rw [q05o]
 exact ⟨v, by simp [hb, hv], fun hlt => by omega, hk⟩
end
/-! ### Words under binders -/
theorem q051 (a : Addr) (n : Nat) : addA (.pointer (some a)) n = fun K => K (.pointer (some (a.add n))) := by funext K h; exact propext (q071 a n)
theorem q04u (a : Addr) : nilA (.pointer (some a)) = fun K => K (.pointer (some a)) := by funext K h; exact propext (q061 a)
theorem q03t (m : Kont → Hp → Prop) : guardA (.bool true) true m = m := by funext K h; exact propext (q7y m)
theorem q03f (m : Kont → Hp → Prop) : guardA (.bool false) false m = m := by funext K h; exact propext (qbu m)
theorem q03s (m : Kont → Hp → Prop) : guardA (.bool true) false m = fun K => K undef := by funext K h; exact propext (qhd m)
theorem q03e (m : Kont → Hp → Prop) : guardA (.bool false) true m = fun K => K undef := by funext K h; exact propext (q7z m)
theorem qzk (want : Bool) (m : Kont → Hp → Prop) : guardA undef want m = fun K => K undef := by funext K h; exact propext (q00e want m)
theorem q01h (a b : Value) : pickA (.bool true) a b = fun K => K a := by funext K h; exact propext (q4f a b)
theorem q00n (a b : Value) : pickA (.bool false) a b = fun K => K b := by funext K h; exact propext (q3v a b)
theorem q01a (x y : Hp → Prop) : condA (.bool true) x y = x := by funext h; exact propext (q0f x y)
theorem q008 (x y : Hp → Prop) : condA (.bool false) x y = y := by funext h; exact propext (q0l x y)
theorem q00f (s : Nat) (x : Value) (lo hi mx : Option Value) : readQ (slSlA s x lo hi mx) = slSlA s x lo hi mx := by
 funext K h
 refine propext ⟨?_, ?_⟩
 ·rintro ⟨v, ⟨a, n, c, l, u, e1, e2, e3, e4, e5, e6⟩, k⟩
  refine ⟨a, n, c, l, u, e1, e2, e3, e4, e5, ?_⟩
  cases mx with
  | none =>
   simp only at e6 ⊢
   split
   ·rename_i hc
    rw [if_pos hc] at e6
    obtain ⟨g1, ad, g2, g3, g4, rfl, -⟩ := e6
    exact ⟨g1, ad, g2, g3, g4, k⟩
   ·rename_i hc
    rw [if_neg hc] at e6
    obtain ⟨g1, rfl, -⟩ := e6
    exact ⟨g1, k⟩
  | some mv =>
   obtain ⟨m, g1, g2, g3, g4, rfl, -⟩ := e6
   exact ⟨m, g1, g2, g3, g4, k⟩
 ·rintro ⟨a, n, c, l, u, e1, e2, e3, e4, e5, e6⟩
  cases mx with
  | none =>
   simp only at e6
   split at e6
   ·rename_i hc
    obtain ⟨g1, ad, g2, g3, g4, g5⟩ := e6
    exact ⟨_, ⟨a, n, c, l, u, e1, e2, e3, e4, e5, by show (if c = ucap then _ else _); rw [if_pos hc]; exact ⟨g1, ad, g2, g3, g4, rfl, rfl⟩⟩, g5⟩
   ·rename_i hc
    exact ⟨_, ⟨a, n, c, l, u, e1, e2, e3, e4, e5, by show (if c = ucap then _ else _); rw [if_neg hc]; exact ⟨e6.1, rfl, rfl⟩⟩, e6.2⟩
  | some mv =>
   obtain ⟨m, g1, g2, g3, g4, g5⟩ := e6
   exact ⟨_, ⟨a, n, c, l, u, e1, e2, e3, e4, e5, m, g1, g2, g3, g4, rfl, rfl⟩, g5⟩
/-! ### Sources stay -/
def sblk : Value → List Nat
 | .slice (some a) _ _ => [a.block]
 | _ => []
theorem Src.frame {B s m : Nat} {h h' : Hp} {x : Value} {ys : List Value} (hs : Src B h s x m ys) (hb : ∀ b cs, b ∈ sblk x → h.blk b = some cs → h'.blk b = some cs) : Src B h' s x m ys := by
 unfold Src at hs ⊢
 split at hs
 ·exact hs
 ·rename_i a n c
  refine ⟨hs.1, ?_⟩
  rcases hs.2 with h0 | ⟨h0, ad, rfl, hg, hcl⟩
  ·exact .inl h0
  ·refine .inr ⟨h0, ad, rfl, ?_, hcl⟩
   obtain ⟨hsp, cs, hbk, hle, hv⟩ := Hp.getN_some hg
   obtain ⟨b, o, sp⟩ := ad
   simp only at hsp hbk hle hv
   subst hsp
   rw [q2f, hb b cs (by simp [sblk]) hbk, Option.bind_some, if_pos hle, hv]
 ·exact hs
theorem Src.step {w0 : World} {B s m : Nat} {h h' : Hp} {x : Value} {ys : List Value} {S S' : List Nat} (hs : Src B h s x m ys) (f : Fit w0 h) (st : Step h h' S S') (hd : ∀ b, b ∈ sblk x → b ∉ S) : Src B h' s x m ys :=
 hs.frame fun b cs hb hbk => by rw [(st.keep b (f.lt b cs hbk) (hd b hb)).1]; exact hbk
theorem Fit.new {w0 : World} {h : Hp} (f : Fit w0 h) {c : List Value} {s : Nat} (hc : ∀ v, v ∈ c → isCell v = true) : Fit w0 (h.new c s) := by
 refine ⟨by have := f.base; simp; omega, fun i hi => ?_, fun b cs hb => ?_, fun b cs hB hb v hv => ?_, fun b x e => by have := f.lps b x e; simp; omega, fun b cs hB hb hu => ?_⟩
 rotate_right
 ·simp only [q0b] at hb
  have hu : (if b = h.next then !c.isEmpty && c.all isPtr else h.um b) = true := hu
  split at hb
  ·rename_i e
   rw [if_pos e] at hu
   cases hb
   exact (Bool.and_eq_true_iff.1 hu).2
  ·rename_i e
   rw [if_neg e] at hu
   exact f.um b cs hB hb hu
 ·have : i ≠ h.next := by have := f.base; omega
  simpa [this] using f.ext i hi
 ·simp at hb
  split at hb
  ·simp; omega
  ·have := f.lt b cs hb; simp; omega
 ·simp at hb
  split at hb
  ·cases hb; exact hc v hv
  ·exact f.cell b cs hB hb v hv
theorem qrt {w0 : World} {h : Hp} (f : Fit w0 h) {b : Nat} {c : List Value} (hB : w0.heap.size ≤ b) (hb : h.blk b = some c) : h.put b c = h := by
 have e1 : (fun i => if i = b then some c else h.blk i) = h.blk := by
  funext i
  split
  ·rename_i e; rw [e, hb]
  ·rfl
 have e2 : (fun i => if i = b then h.um i && c.all isPtr else h.um i) = h.um := by
  funext i
  split
  ·rename_i e
   cases hu : h.um i with
   | false => rfl
   | true => rw [Bool.true_and]; rw [e] at hu; exact f.um b c hB hb hu
  ·rfl
 unfold Hp.put
 rw [e1, e2]
theorem Fit.put {w0 : World} {h : Hp} (f : Fit w0 h) {p : Nat} {c : List Value} (hp : w0.heap.size ≤ p) (hlt : p < h.next) (hc : ∀ v, v ∈ c → isCell v = true) : Fit w0 (h.put p c) := by
 refine ⟨f.base, fun i hi => ?_, fun b cs hb => ?_, fun b cs hB hb v hv => ?_, f.lps, fun b cs hB hb hu => ?_⟩
 rotate_right
 ·simp only [qi] at hb
  have hu : (if b = p then h.um b && c.all isPtr else h.um b) = true := hu
  split at hb
  ·rename_i e
   rw [if_pos e] at hu
   cases hb
   exact (Bool.and_eq_true_iff.1 hu).2
  ·rename_i e
   rw [if_neg e] at hu
   exact f.um b cs hB hb hu
 ·have : i ≠ p := by omega
  simpa [this] using f.ext i hi
 ·simp at hb
  split at hb
  ·simp; omega
  ·exact f.lt b cs hb
 ·simp at hb
  split at hb
  ·cases hb; exact hc v hv
  ·exact f.cell b cs hB hb v hv
theorem Dec.Of.map {α β : Type} {D : Dec α} {E : Dec β} {P : Program} {w0 : World} {t : TypeId} {s : Nat} (hD : D.Of P w0 t s) (f : α → β) (he : ∀ a, E.e (f a) = D.e a) (hok : ∀ a, D.ok a → E.ok (f a)) (hb : ∀ a, E.b (f a) ≤ D.b a)
  (hlen : ∀ b, (E.e b).length = s) (hcl : ∀ b, E.ok b → ∀ v, v ∈ E.e b → ClC w0.heap.size v) : E.Of P w0 t s := by
 refine ⟨hD.size, hlen, hcl, fun {H enc fuel cs x} hx hp => ?_⟩
 obtain ⟨a, rfl, o, b⟩ := hD.opens hx hp
 exact ⟨f a, (he a).symm, hok a o, Nat.le_trans (hb a) b⟩
theorem wa {α : Type} : (∀ (l : List α) (i : Nat), l.toArray[i]? = l[i]?) ∧ (∀ (a : α) (l : List α), (a :: l)[0]? = some a) ∧ (∀ (a : α) (l : List α) (i : Nat), (a :: l)[i + 1]? = l[i]?) :=
 ⟨fun _ _ => List.getElem?_toArray, fun _ _ => List.getElem?_cons_zero, fun _ _ _ => List.getElem?_cons_succ⟩
theorem wd : (∀ (a : Option Addr) (n c : Nat), lenSl (Value.slice a n c) = some (Value.int IntKind.i64 ↑n)) ∧
 (∀ (s : ByteArray), lenStr (Value.string s) = some (Value.int IntKind.i64 ↑s.size)) ∧
  (∀ (l : List UInt8), (str l).size = l.length) ∧
   (∀ (v : Value) (K : Kont), pureA (some v) K = K v) ∧
    (∀ (a : Addr), nilA (Value.pointer (some a)) = fun K => K (Value.pointer (some a))) ∧
     (∀ (a : Addr) (n : Nat), addA (Value.pointer (some a)) n = fun K => K (Value.pointer (some (a.add n)))) ∧
      (∀ (b o n : Nat), (⟨b, o, none⟩ : Addr).add n = ⟨b, o + n, none⟩) ∧
       (∀ (n : Nat), 0 + n = n) ∧
        (∀ (n : Nat), n + 0 = n) ∧
         (∀ (v : Value), (pureQ fun K => K v) = fun K => K v) ∧
          (∀ (x : Value), pureQ (nilA x) = nilA x) ∧
           (∀ (x : Value) (n : Nat), pureQ (addA x n) = addA x n) ∧
            (∀ (o : Option Value), pureQ (pureA o) = pureA o) ∧
             (∀ (x : Value) (want : Bool) (m : Kont → Hp → Prop),
               pureQ (guardA x want m) = guardA x want (pureQ m)) ∧
              (∀ (s : Nat) (x i : Value), pureQ (idxSlA s x i) = idxSlA s x i) ∧
               (∀ (c a b : Value), pureQ (pickA c a b) = pickA c a b) ∧
                (∀ {w0 : World} (x : Value), readQ (loadA w0 x) = loadA w0 x) ∧
                 (∀ {w0 : World} (x : Value) (n : Nat), readQ (loadNA w0 x n) = loadNA w0 x n) ∧
                  (∀ {w0 : World} (x : Value), readQ (b2sA w0 x) = b2sA w0 x) ∧
                   (∀ (x : Value) (want : Bool) (m : Kont → Hp → Prop),
                     readQ (guardA x want m) = guardA x want (readQ m)) ∧
                    (∀ (s : Nat) (x : Value) (lo hi mx : Option Value),
                      readQ (slSlA s x lo hi mx) = slSlA s x lo hi mx) ∧
                     (∀ (v : Value), (readQ fun K => K v) = fun K => K v) ∧
                      (∀ (k : Hp → Prop), endA k = k) ∧
                       (∀ (k : Hp → Prop), allA [k] = k) ∧
                        (∀ (k : Hp → Prop), stillA [] k = k) ∧
                         (∀ (m : Kont → Hp → Prop), guardA (Value.bool true) true m = m) ∧
                          (∀ (m : Kont → Hp → Prop), guardA (Value.bool false) false m = m) ∧
                           (∀ (m : Kont → Hp → Prop),
                             guardA (Value.bool true) false m = fun K => K undef) ∧
                            (∀ (m : Kont → Hp → Prop),
                              guardA (Value.bool false) true m = fun K => K undef) ∧
                             (∀ (want : Bool) (m : Kont → Hp → Prop),
                               guardA undef want m = fun K => K undef) ∧
                              (∀ (a b : Value),
                                pickA (Value.bool true) a b = fun K => K a) ∧
                               (∀ (a b : Value),
                                 pickA (Value.bool false) a b = fun K => K b) ∧
                                (∀ (x y : Hp → Prop), condA (Value.bool true) x y = x) ∧
                                 (∀ (x y : Hp → Prop),
                                   condA (Value.bool false) x y = y) ∧
                                  (∀ (k : IntKind) (a b : Int),
                                    binA BinOp.add (Value.int k a) (Value.int k b) =
                                     some (Value.int k (k.wrap (a + b)))) ∧
                                   (∀ (k : IntKind) (a b : Int),
                                     binA BinOp.sub (Value.int k a)
                                       (Value.int k b) =
                                      some (Value.int k (k.wrap (a - b)))) ∧
                                    (∀ (k : IntKind) (a b : Int),
                                      binA BinOp.mul (Value.int k a)
                                        (Value.int k b) =
                                       some (Value.int k (k.wrap (a * b)))) ∧
                                     (∀ (k : IntKind) (a b : Int),
                                       binA BinOp.eql (Value.int k a)
                                         (Value.int k b) =
                                        some (Value.bool (a == b))) ∧
                                      (∀ (k : IntKind) (a b : Int),
                                        binA BinOp.neq (Value.int k a)
                                          (Value.int k b) =
                                         some (Value.bool (a != b))) ∧
                                       (∀ (k : IntKind) (a b : Int),
                                         binA BinOp.lss (Value.int k a)
                                           (Value.int k b) =
                                          some
                                           (Value.bool (decide (a < b)))) ∧
                                        (∀ (k : IntKind) (a b : Int),
                                          binA BinOp.leq (Value.int k a)
                                            (Value.int k b) =
                                           some
                                            (Value.bool (decide (a ≤ b)))) ∧
                                         (∀ (k : IntKind) (a b : Int),
                                           binA BinOp.gtr (Value.int k a)
                                             (Value.int k b) =
                                            some
                                             (Value.bool
                                              (decide (b < a)))) ∧
                                          (∀ (k : IntKind) (a b : Int),
                                            binA BinOp.geq (Value.int k a)
                                              (Value.int k b) =
                                             some
                                              (Value.bool
                                               (decide (b ≤ a)))) ∧
                                           (∀ (b : Bool),
                                             unA UnOp.not (Value.bool b) =
                                              some (Value.bool !b)) ∧
                                            (!true) = false ∧
                                             (!false) = true ∧
                                              (∀ (k k' : IntKind)
                                                (n : Int),
                                                convA k
                                                  (Value.int k' n) =
                                                 some
                                                  (Value.int k
                                                   (k.wrap n))) ∧
                                               ∀ (vs : Array Value)
                                                (i : Nat),
                                                extA (Value.tuple vs)
                                                  i =
                                                 vs[i]? :=
 ⟨@qb5, @q4d, @q0q, @q01l, @q04u, @q051, @q10, @Nat.zero_add, @Nat.add_zero, @q06o, @q01k, @q01d, @q00w, @qzg, @q001, @q006, @q00s, @qzm, @q016, @qzq, @q00f, @q06m, @fendA, @q05b, @q01r, @q03t, @q03f, @q03s, @q03e, @qzk, @q01h, @q00n, @q01a, @q008, @q2c, @q060, @qc1, @qbz, @q1s, @q1r, @q06q, @q2b, @q066, @q08p, @Bool.not_true, @Bool.not_false, @q1o, @qgr⟩
inductive Rows (w0 : World) (h : Hp) : List Value → List (List UInt8) → List Nat → Prop
 | nil : Rows w0 h [] [] []
 | snoc {vs : List Value} {rs : List (List UInt8)} {S : List Nat} {v : Value} {r : List UInt8} {T : List Nat} : Rows w0 h vs rs S → Vec w0 h 1 v r.length (bvs r) T → (∀ b, b ∈ T → b ∉ S) → Rows w0 h (vs ++ [v]) (rs ++ [r]) (S ++ T)
section
variable {w0 : World} {h h' : Hp} {vs : List Value} {rs : List (List UInt8)} {S : List Nat}
theorem Rows.len (q : Rows w0 h vs rs S) : vs.length = rs.length := by
 induction q with
 | nil => rfl
 | snoc _ _ _ ih => simp [ih]
theorem Rows.lt (q : Rows w0 h vs rs S) : ∀ b, b ∈ S → w0.heap.size ≤ b ∧ b < h.next := by
 induction q with
 | nil => simp
 | snoc _ v _ ih =>
  intro b hb
  rcases List.mem_append.1 hb with e | e
  ·exact ih b e
  ·exact v.lt b e
theorem Rows.frame (q : Rows w0 h vs rs S) {T T' : List Nat} (st : Step h h' T T') (hd : ∀ b, b ∈ S → b ∉ T) : Rows w0 h' vs rs S := by
 induction q with
 | nil => exact .nil
 | snoc _ v d ih => exact .snoc (ih fun b hb => hd b (by simp [hb])) (v.frame st fun b hb => hd b (by simp [hb])) d
theorem Rows.put (q : Rows w0 h vs rs S) {p : Nat} (hp : p ∉ S) (c : List Value) : Rows w0 (h.put p c) vs rs S := by
 induction q with
 | nil => exact .nil
 | snoc _ v d ih => exact .snoc (ih fun e => hp (by simp [e])) (v.put (fun e => hp (by simp [e])) c) d
theorem Rows.cell (q : Rows w0 h vs rs S) : ∀ v, v ∈ vs → isCell v = true ∧ v ≠ junk := by
 induction q with
 | nil => simp
 | snoc _ v d ih =>
  intro x hx
  rcases List.mem_append.1 hx with e | e
  ·exact ih x e
  ·simp at e; subst e; obtain ⟨a, c, rfl⟩ := v.slice; simp
theorem Rows.get (q : Rows w0 h vs rs S) {i : Nat} {r : List UInt8} (hi : rs[i]? = some r) : ∃ v T, vs[i]? = some v ∧ Vec w0 h 1 v r.length (bvs r) T ∧ ∀ b, b ∈ T → b ∈ S := by
 induction q with
 | nil => simp at hi
 | snoc q v d ih =>
  rename_i vs rs S v0 r0 T
  have hl := q.len
  by_cases h1 : i < rs.length
  ·rw [List.getElem?_append_left h1] at hi
   obtain ⟨x, T1, e, vx, hs⟩ := ih hi
   exact ⟨x, T1, by rw [List.getElem?_append_left (by omega)]; exact e, vx, fun b hb => by simp [hs b hb]⟩
  ·rw [List.getElem?_append_right (by omega)] at hi
   have h2 : i - rs.length = 0 := by
    rcases Nat.eq_zero_or_pos (i - rs.length) with e | e
    ·exact e
    ·rw [List.getElem?_eq_none (by simp; omega)] at hi; simp at hi
   rw [h2] at hi
   simp at hi
   subst hi
   exact ⟨v0, T, by rw [List.getElem?_append_right (by omega), show i - vs.length = 0 by omega]; rfl, v, fun b hb => by simp [hb]⟩
theorem Rows.last {r : List UInt8} (q : Rows w0 h vs (rs ++ [r]) S) : ∃ vs' v S' T, vs = vs' ++ [v] ∧ Rows w0 h vs' rs S' ∧ Vec w0 h 1 v r.length (bvs r) T ∧ (∀ b, b ∈ T → b ∉ S') ∧ S = S' ++ T := by
 generalize hg : rs ++ [r] = rr at q
 cases q with
 | nil => simp at hg
 | snoc q v d =>
  obtain ⟨rfl, e⟩ := List.append_inj' hg rfl
  simp at e
  subst e
  exact ⟨_, _, _, _, rfl, q, v, d, rfl⟩
def VVec (w0 : World) (h : Hp) (x : Value) (rs : List (List UInt8)) (S : List Nat) : Prop :=
 ∃ vs T S0, Vec w0 h 1 x rs.length vs T ∧ Rows w0 h vs rs S0 ∧ (∀ b, b ∈ T → b ∉ S0) ∧ S = T ++ S0
variable {x : Value}
theorem VVec.nil : VVec w0 h (.slice none 0 0) [] [] := ⟨[], [], [], .nil, .nil, by simp, rfl⟩
theorem VVec.lt (q : VVec w0 h x rs S) : ∀ b, b ∈ S → w0.heap.size ≤ b ∧ b < h.next := by
 obtain ⟨vs, T, S0, v, r, d, rfl⟩ := q
 intro b hb
 rcases List.mem_append.1 hb with e | e
 ·exact v.lt b e
 ·exact r.lt b e
theorem VVec.frame (q : VVec w0 h x rs S) {T T' : List Nat} (st : Step h h' T T') (hd : ∀ b, b ∈ S → b ∉ T) : VVec w0 h' x rs S := by
 obtain ⟨vs, U, S0, v, r, d, rfl⟩ := q
 exact ⟨vs, U, S0, v.frame st fun b hb => hd b (by simp [hb]), r.frame st fun b hb => hd b (by simp [hb]), d, rfl⟩
theorem VVec.put (q : VVec w0 h x rs S) {p : Nat} (hp : p ∉ S) (c : List Value) : VVec w0 (h.put p c) x rs S := by
 obtain ⟨vs, U, S0, v, r, d, rfl⟩ := q
 exact ⟨vs, U, S0, v.put (fun e => hp (by simp [e])) c, r.put (fun e => hp (by simp [e])) c, d, rfl⟩
theorem VVec.slice (q : VVec w0 h x rs S) : ∃ a c, x = .slice a rs.length c := by
 obtain ⟨vs, U, S0, v, r, d, rfl⟩ := q
 exact v.slice
theorem VVec.get (q : VVec w0 h x rs S) {i : Nat} {r : List UInt8} (hi : rs[i]? = some r) : ∃ b vs v T, x = .slice (some ⟨b, 0, none⟩) rs.length ucap ∧ w0.heap.size ≤ b ∧ h.blk b = some vs ∧ h.esz b = 1 ∧ vs[i]? = some v ∧ vs.length = rs.length ∧ Vec w0 h 1 v r.length (bvs r) T ∧ (∀ c, c ∈ T → c ∈ S) := by
 obtain ⟨vs, U, S0, v, rr, d, rfl⟩ := q
 obtain ⟨y, T, e, vy, hs⟩ := rr.get hi
 rcases v with ⟨rfl, e1, rfl, rfl⟩ | ⟨b, rfl, rfl, hB, hlt, hbk, hes, hl⟩
 ·simp at e
 ·exact ⟨b, vs, y, T, rfl, hB, hbk, hes, e, by simpa using hl, vy, fun c hc => by simp [hs c hc]⟩
end
end Go.Proofs.YtfmoemconapmhaaGreat.Ah
