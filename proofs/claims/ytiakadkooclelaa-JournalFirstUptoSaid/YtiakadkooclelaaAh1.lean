/- The abstract heap, and how it stands to the model's world. -/
import Derived.CallsIn
import Derived.Below
import Derived.KernelRfl
set_option linter.unusedVariables false
set_option linter.unusedSimpArgs false
namespace Go.Proofs.Ytiakadkooclelaa.Ah
open Go

def junk : Value := .chan none
def ucap : Nat := 18446744073709551616

structure Pl where
  β : Nat
  d : Nat
  rsv : Nat
  sz : Nat
abbrev Inj := Nat → Pl

def isCell : Value → Bool
  | .agg _ => false
  | .tuple _ => false
  | .chan _ => false
  | _ => true

abbrev unk : Value := .map none
inductive VRel (B nx : Nat) (ι : Inj) : Value → Value → Prop
  | bool (b : Bool) : VRel B nx ι (.bool b) (.bool b)
  | int (k : IntKind) (n : Int) : VRel B nx ι (.int k n) (.int k n)
  | string (s : ByteArray) : VRel B nx ι (.string s) (.string s)
  | pnil : VRel B nx ι (.pointer none) (.pointer none)
  | pext (a : Addr) (h : a.block < B) : VRel B nx ι (.pointer (some a)) (.pointer (some a))
  | pint (b o : Nat) (h1 : B ≤ b) (h2 : b < nx) : VRel B nx ι (.pointer (some ⟨b, o, none⟩)) (.pointer (some ⟨(ι b).β, (ι b).d + o, none⟩))
  | snil : VRel B nx ι (.slice none 0 0) (.slice none 0 0)
  | sext (a : Addr) (n c : Nat) (h : a.block < B) (hn : n ≤ c) (hc : c < ucap) : VRel B nx ι (.slice (some a) n c) (.slice (some a) n c)
  | sint (b o n c c' : Nat) (h1 : B ≤ b) (h2 : b < nx) (hn : n ≤ c') (hc : (c = ucap ∧ o + c' * (ι b).sz = (ι b).rsv) ∨ (c = c' ∧ c < ucap)) :
      VRel B nx ι (.slice (some ⟨b, o, none⟩) n c) (.slice (some ⟨(ι b).β, (ι b).d + o, none⟩) n c')
  | szero (b o c : Nat) (a : Addr) (h1 : B ≤ b) (hc : (c = ucap ∧ b < nx ∧ (ι b).rsv ≤ o) ∨ c = 0) : VRel B nx ι (.slice (some ⟨b, o, none⟩) 0 c) (.slice (some a) 0 0)
  | sempty (a a' : Addr) (h1 : B ≤ a.block) : VRel B nx ι (.slice (some a) 0 0) (.slice (some a') 0 0)
  | nilFunc : VRel B nx ι .nilFunc .nilFunc
  | nilIface : VRel B nx ι .nilIface .nilIface
  | any (v : Value) (h : isCell v = true) : VRel B nx ι (.map none) v
  | yld (b : Nat) (h1 : B ≤ b) (h2 : b < nx) : VRel B nx ι (.func (.yield b) #[] #[]) (.func (.yield (ι b).β) #[] #[])
  | func (fn : Fn) (f c f' c' : Array Value) (hf : f.size = f'.size) (hc : c.size = c'.size)
      (h1 : ∀ (i : Nat) v v', f[i]? = some v → f'[i]? = some v' → VRel B nx ι v v') (h2 : ∀ (i : Nat) v v', c[i]? = some v → c'[i]? = some v' → VRel B nx ι v v')
      (hfn : ∃ k, fn = .func k) :
      VRel B nx ι (.func fn f c) (.func fn f' c')
  | agg (c c' : Array Value) (hc : c.size = c'.size) (h : ∀ (i : Nat) v v', c[i]? = some v → c'[i]? = some v' → VRel B nx ι v v') (hi : ∀ (i : Nat) v, c[i]? = some v → isCell v = true) :
      VRel B nx ι (.agg c) (.agg c')
  | tuple (c c' : Array Value) (hc : c.size = c'.size) (h : ∀ (i : Nat) v v', c[i]? = some v → c'[i]? = some v' → VRel B nx ι v v') : VRel B nx ι (.tuple c) (.tuple c')

def Cl (B : Nat) (v : Value) : Prop := ∀ nx ι, VRel B nx ι v v

abbrev Fr := Nat → Value
structure Lp where
  n : Nat
  t : Fr
  ps : List Nat
  assign : Code
  body : Code
inductive Lst
  | ready
  | busy
  | done (o : Option Nat)
  | mark
  deriving DecidableEq

structure Hp where
  blk : Nat → Option (List Value)
  next : Nat
  esz : Nat → Nat
  lp : Nat → Option (Lp × Lst)
  cp : Nat → Option Nat
  um : Nat → Bool

def isPtr : Value → Bool
  | .pointer _ => true
  | _ => false
namespace Hp
def get (h : Hp) (a : Addr) : Option Value := if a.spot.isNone then (h.blk a.block).bind (·[a.off]?) else none
def put (h : Hp) (b : Nat) (c : List Value) : Hp := { h with blk := fun i => if i = b then some c else h.blk i, um := fun i => if i = b then h.um i && c.all isPtr else h.um i }
def new (h : Hp) (c : List Value) (s : Nat) : Hp := { blk := fun i => if i = h.next then some c else h.blk i, next := h.next + 1, esz := fun i => if i = h.next then s else h.esz i, lp := h.lp, cp := fun i => if i = h.next then none else h.cp i, um := fun i => if i = h.next then !c.isEmpty && c.all isPtr else h.um i }
def newD (h : Hp) (c : List Value) (s : Nat) : Hp := { h.new c s with um := fun i => if i = h.next then false else h.um i }
def kill (h : Hp) (b : Nat) : Hp := { h with blk := fun i => if i = b then none else h.blk i }
end Hp

def extBlk (w : World) (i : Nat) : Option (List Value) :=
  match w.heap[i]? with
  | some (.cells c _ _) => some c.toList
  | _ => none

def Agree (nx : Nat) (ι ι' : Inj) : Prop := ∀ b, b < nx → ι' b = ι b

structure Live (B : Nat) (ι : Inj) (h : Hp) (w : World) (b : Nat) (cs : List Value) : Prop where
  lt : b < h.next
  len : cs.length ≤ (ι b).rsv
  sz : (ι b).sz = h.esz b
  cell : ∀ v, v ∈ cs → isCell v = true
  row : 0 < (ι b).rsv → B ≤ (ι b).β ∧ ∃ arr e lo hi, w.heap[(ι b).β]? = some (.cells arr e (lo, hi)) ∧ (ι b).d + (ι b).rsv ≤ arr.size ∧
    (lo = hi ∨ (arr.size ≤ lo ∧ (ι b).sz = 1)) ∧ (∀ j, j < (ι b).rsv → ∃ v', arr[(ι b).d + j]? = some v' ∧ isCell v' = true) ∧
    ∀ (j : Nat) v, cs[j]? = some v → ∃ v', arr[(ι b).d + j]? = some v' ∧ VRel B h.next ι v v'
  cp : ∀ k, h.cp b = some k → (ι b).rsv = k
  um : h.um b = true → (∀ v, v ∈ cs → isPtr v = true) ∧ ∀ arr e lo hi, 0 < (ι b).rsv → w.heap[(ι b).β]? = some (.cells arr e (lo, hi)) → lo = hi

def FRel (B nx : Nat) (ι : Inj) (n : Nat) (t : Fr) (tmps : Array Value) : Prop := tmps.size = n ∧ ∀ i, i < n → t i ≠ junk → VRel B nx ι (t i) (tmps.getD i undef)

def jumpOf : Option Nat → Code
  | some id => .exit id
  | none => .ret
def stOf : Lst → LoopState → Option Code → Prop
  | .ready, s, p => s = .ready ∧ p = none
  | .busy, s, p => s = .busy ∧ p = none
  | .done o, s, p => s = .done ∧ p = some (jumpOf o)
  | .mark, _, _ => True
def nocells (o : Obj) : Prop := ∀ a e f, o ≠ .cells a e f
structure LRel (B nx : Nat) (ι : Inj) (lp : Nat → Option (Lp × Lst)) (w : World) : Prop where
  row : ∀ b g s, lp b = some (g, s) → b < nx ∧ B ≤ b ∧ B ≤ (ι b).β ∧ B ≤ (ι b).d ∧ w.heap[(ι b).d]? = some (.deferred (some [])) ∧
    ∃ r : Loop, w.heap[(ι b).β]? = some (.loop r) ∧ (s ≠ .mark → stOf s r.state r.pending ∧ r.params.toList = g.ps ∧ r.assign = g.assign ∧ r.body = g.body ∧ FRel B nx ι g.n g.t r.tmps)
  apart : ∀ b b' x x', lp b = some x → lp b' = some x' → b ≠ b' → (ι b).β ≠ (ι b').β ∧ (ι b).d ≠ (ι b').d

def Pl.apart (p q : Pl) : Prop := p.β ≠ q.β ∨ p.rsv = 0 ∨ q.rsv = 0
theorem Pl.apart.symm {p q : Pl} (h : p.apart q) : q.apart p := by unfold Pl.apart at *; omega

structure HRel (w0 : World) (ι : Inj) (h : Hp) (w : World) : Prop where
  base : w0.heap.size ≤ h.next
  size : w0.heap.size ≤ w.heap.size
  ext : ∀ i, i < w0.heap.size → w.heap[i]? = w0.heap[i]?
  exta : ∀ i, i < w0.heap.size → h.blk i = extBlk w0 i
  os : w.os = w0.os
  tape : w.tape = w0.tape
  output : w.output = w0.output
  live : ∀ b cs, w0.heap.size ≤ b → h.blk b = some cs → Live w0.heap.size ι h w b cs
  apart : ∀ b b' cs cs', w0.heap.size ≤ b → w0.heap.size ≤ b' → h.blk b = some cs → h.blk b' = some cs' → b ≠ b' → (ι b).apart (ι b')
  loops : LRel w0.heap.size h.next ι h.lp w

/-! ### Values -/
theorem VRel.mono {B nx nx' : Nat} {ι ι' : Inj} (hn : nx ≤ nx') (ha : Agree nx ι ι') {v v' : Value} (h : VRel B nx ι v v') : VRel B nx' ι' v v' := by
  induction h with
  | bool b => exact .bool b
  | int k n => exact .int k n
  | string s => exact .string s
  | pnil => exact .pnil
  | pext a h => exact .pext a h
  | pint b o h1 h2 =>
    rw [← ha b h2]
    exact .pint b o h1 (by omega)
  | snil => exact .snil
  | sext a n c h hn hc => exact .sext a n c h hn hc
  | sint b o n c c' h1 h2 hn hc =>
    rw [← ha b h2] at hc ⊢
    exact .sint b o n c c' h1 (by omega) hn hc
  | szero b o c a h1 hc =>
    refine .szero b o c a h1 ?_
    rcases hc with ⟨q1, q2, q3⟩ | q
    · exact .inl ⟨q1, by omega, by rw [ha b q2]; exact q3⟩
    · exact .inr q
  | sempty a a' h1 => exact .sempty a a' h1
  | nilFunc => exact .nilFunc
  | nilIface => exact .nilIface
  | any v h => exact .any v h
  | yld b h1 h2 =>
    rw [← ha b h2]
    exact .yld b h1 (by omega)
  | func fn f c f' c' hf hc _ _ hfn ih1 ih2 => exact .func fn f c f' c' hf hc ih1 ih2 hfn
  | agg c c' hc _ hi ih => exact .agg c c' hc ih hi
  | tuple c c' hc _ ih => exact .tuple c c' hc ih

theorem VRel.isCell_eq {B nx : Nat} {ι : Inj} {v v' : Value} (h : VRel B nx ι v v') : isCell v' = isCell v := by
  cases h
  case any h => exact h
  all_goals rfl

theorem VRel.bool_inv {B nx : Nat} {ι : Inj} {b : Bool} {v' : Value} (h : VRel B nx ι (.bool b) v') : v' = .bool b := by cases h; rfl
theorem VRel.int_inv {B nx : Nat} {ι : Inj} {k : IntKind} {n : Int} {v' : Value} (h : VRel B nx ι (.int k n) v') : v' = .int k n := by cases h; rfl
theorem VRel.string_inv {B nx : Nat} {ι : Inj} {s : ByteArray} {v' : Value} (h : VRel B nx ι (.string s) v') : v' = .string s := by cases h; rfl

theorem VRel.yld_inv {B nx : Nat} {ι : Inj} {b : Nat} {v' : Value} (h : VRel B nx ι (.func (.yield b) #[] #[]) v') : v' = .func (.yield (ι b).β) #[] #[] ∧ B ≤ b ∧ b < nx := by
  cases h with
  | yld _ h1 h2 => exact ⟨rfl, h1, h2⟩
  | func _ _ _ _ _ _ _ _ _ hfn => obtain ⟨k, hk⟩ := hfn; cases hk

def VRels (B nx : Nat) (ι : Inj) (l l' : List Value) : Prop := l.length = l'.length ∧ ∀ (i : Nat) v v', l[i]? = some v → l'[i]? = some v' → VRel B nx ι v v'
theorem VRels.mono {B nx nx' : Nat} {ι ι' : Inj} (hn : nx ≤ nx') (ha : Agree nx ι ι') {l l' : List Value} (h : VRels B nx ι l l') : VRels B nx' ι' l l' :=
  ⟨h.1, fun i v v' a b => (h.2 i v v' a b).mono hn ha⟩
theorem VRels.nil {B nx : Nat} {ι : Inj} : VRels B nx ι [] [] := ⟨rfl, fun i v v' h => by simp at h⟩
theorem VRels.cons {B nx : Nat} {ι : Inj} {v v' : Value} {l l' : List Value} (h : VRel B nx ι v v') (t : VRels B nx ι l l') : VRels B nx ι (v :: l) (v' :: l') := by
  refine ⟨by simp [t.1], fun i x x' a b => ?_⟩
  cases i with
  | zero => simp at a b; subst a; subst b; exact h
  | succ i => simp at a b; exact t.2 i x x' a b
theorem VRels.cons_inv {B nx : Nat} {ι : Inj} {v : Value} {l m : List Value} (h : VRels B nx ι (v :: l) m) : ∃ v' l', m = v' :: l' ∧ VRel B nx ι v v' ∧ VRels B nx ι l l' := by
  obtain ⟨hl, hr⟩ := h
  cases m with
  | nil => simp at hl
  | cons v' l' =>
    refine ⟨v', l', rfl, hr 0 v v' (by simp) (by simp), by simpa using hl, fun i x x' a b => hr (i + 1) x x' (by simpa using a) (by simpa using b)⟩
theorem VRels.append {B nx : Nat} {ι : Inj} {l l' m m' : List Value} (h : VRels B nx ι l l') (k : VRels B nx ι m m') : VRels B nx ι (l ++ m) (l' ++ m') := by
  refine ⟨by simp [h.1, k.1], fun i v v' a b => ?_⟩
  by_cases hi : i < l.length
  · rw [List.getElem?_append_left hi] at a
    rw [List.getElem?_append_left (by rw [← h.1]; exact hi)] at b
    exact h.2 i v v' a b
  · rw [List.getElem?_append_right (by omega)] at a
    rw [List.getElem?_append_right (by rw [← h.1]; omega), ← h.1] at b
    exact k.2 _ v v' a b
theorem VRels.toArray {B nx : Nat} {ι : Inj} {l l' : List Value} (h : VRels B nx ι l l') : l.toArray.size = l'.toArray.size ∧ ∀ (i : Nat) v v', l.toArray[i]? = some v → l'.toArray[i]? = some v' → VRel B nx ι v v' :=
  ⟨by simpa using h.1, fun i v v' a b => h.2 i v v' (by simpa using a) (by simpa using b)⟩
theorem VRels.of_array {B nx : Nat} {ι : Inj} {c c' : Array Value} (hc : c.size = c'.size) (h : ∀ (i : Nat) v v', c[i]? = some v → c'[i]? = some v' → VRel B nx ι v v') : VRels B nx ι c.toList c'.toList :=
  ⟨by simpa using hc, fun i v v' a b => h i v v' (by simpa using a) (by simpa using b)⟩
theorem VRels.get {B nx : Nat} {ι : Inj} {l l' : List Value} (h : VRels B nx ι l l') {i : Nat} {v : Value} (a : l[i]? = some v) : ∃ v', l'[i]? = some v' ∧ VRel B nx ι v v' := by
  have hi : i < l'.length := by rw [← h.1]; exact (List.getElem?_eq_some_iff.1 a).1
  exact ⟨l'[i], by simp [hi], h.2 i v _ a (by simp [hi])⟩
theorem VRels.take {B nx : Nat} {ι : Inj} {l l' : List Value} (h : VRels B nx ι l l') (n : Nat) : VRels B nx ι (l.take n) (l'.take n) := by
  refine ⟨by simp [h.1], fun i v v' a b => ?_⟩
  simp only [List.getElem?_take] at a b
  split at a
  · rename_i hlt
    rw [if_pos hlt] at b
    exact h.2 i v v' a b
  · simp at a
theorem VRels.drop {B nx : Nat} {ι : Inj} {l l' : List Value} (h : VRels B nx ι l l') (n : Nat) : VRels B nx ι (l.drop n) (l'.drop n) := by
  refine ⟨by simp [h.1], fun i v v' a b => ?_⟩
  simp only [List.getElem?_drop] at a b
  exact h.2 _ v v' a b

theorem FRel.mono {B nx nx' : Nat} {ι ι' : Inj} {n : Nat} {t : Fr} {tmps : Array Value} (f : FRel B nx ι n t tmps) (hn : nx ≤ nx') (ha : Agree nx ι ι') : FRel B nx' ι' n t tmps :=
  ⟨f.1, fun i hi hj => (f.2 i hi hj).mono hn ha⟩
theorem LRel.mono {B nx nx' : Nat} {ι ι' : Inj} {lp : Nat → Option (Lp × Lst)} {w w' : World} (r : LRel B nx ι lp w) (hn : nx ≤ nx') (ha : Agree nx ι ι')
    (hw : ∀ (i : Nat) o, w.heap[i]? = some o → nocells o → w'.heap[i]? = some o) : LRel B nx' ι' lp w' := by
  refine ⟨fun b g s e => ?_, fun b b' x x' e e' hne => ?_⟩
  · obtain ⟨h1, h2, h3, h4, h5, h6⟩ := r.row b g s e
    rw [ha b h1]
    obtain ⟨q, q1, q2⟩ := h6
    refine ⟨by omega, h2, h3, h4, hw _ _ h5 (fun _ _ _ => by simp), q, hw _ _ q1 (fun _ _ _ => by simp), fun hs => ?_⟩
    obtain ⟨q2, q3, q4, q5, q6⟩ := q2 hs
    exact ⟨q2, q3, q4, q5, q6.mono hn ha⟩
  · obtain ⟨g, s⟩ := x
    obtain ⟨g', s'⟩ := x'
    rw [ha b (r.row b g s e).1, ha b' (r.row b' g' s' e').1]
    exact r.apart b b' _ _ e e' hne
theorem LRel.same {B nx : Nat} {ι : Inj} {lp : Nat → Option (Lp × Lst)} {w w' : World} (r : LRel B nx ι lp w) (hw : ∀ (i : Nat) o, w.heap[i]? = some o → nocells o → w'.heap[i]? = some o) : LRel B nx ι lp w' :=
  r.mono (Nat.le_refl _) (fun _ _ => rfl) hw
theorem LRel.cells {B nx : Nat} {ι : Inj} {lp : Nat → Option (Lp × Lst)} {w w' : World} (r : LRel B nx ι lp w) {b : Nat} {arr : Array Value} {e : TypeId} {f : Nat × Nat} (hh : w.heap[b]? = some (.cells arr e f))
    (hw : ∀ i, i ≠ b → w'.heap[i]? = w.heap[i]?) : LRel B nx ι lp w' :=
  r.same fun i o ho hn => by
    rw [hw i (fun e => by subst e; rw [hh] at ho; cases ho; exact hn _ _ _ rfl)]
    exact ho

/-! ### The heap -/
structure Ext (ι : Inj) (h : Hp) (ι' : Inj) (h' : Hp) : Prop where
  le : h.next ≤ h'.next
  ag : Agree h.next ι ι'
  mks : ∀ b g, h.lp b = some (g, .mark) → h'.lp b = some (g, .mark)
theorem Ext.refl (ι : Inj) (h : Hp) : Ext ι h ι h := ⟨Nat.le_refl _, fun _ _ => rfl, fun _ _ e => e⟩
theorem Ext.trans {ι ι' ι'' : Inj} {h h' h'' : Hp} (a : Ext ι h ι' h') (b : Ext ι' h' ι'' h'') : Ext ι h ι'' h'' :=
  ⟨Nat.le_trans a.1 b.1, fun i hi => (b.2 i (Nat.lt_of_lt_of_le hi a.1)).trans (a.2 i hi), fun i g e => b.3 i g (a.3 i g e)⟩

theorem HRel.drew {w0 : World} {ι : Inj} {h : Hp} {w : World} (r : HRel w0 ι h w) (k : Nat) : HRel w0 ι h { w with drawn := k } :=
  ⟨r.base, r.size, r.ext, r.exta, r.os, r.tape, r.output, fun b cs hb hc => let l := r.live b cs hb hc; ⟨l.lt, l.len, l.sz, l.cell, l.row, l.cp, l.um⟩, r.apart, r.loops.same fun _ _ e _ => e⟩

theorem HRel.alloc {w0 : World} {ι : Inj} {h : Hp} {w : World} (r : HRel w0 ι h w) (o : Obj) : HRel w0 ι h (w.alloc o) := by
  have hs : ∀ i, i < w.heap.size → (w.alloc o).heap[i]? = w.heap[i]? := fun i hi => Go.RowKit.Below.heap_alloc w o i hi
  refine ⟨r.base, by simp; exact Nat.le_succ_of_le r.size, fun i hi => (hs i (Nat.lt_of_lt_of_le hi r.size)).trans (r.ext i hi), r.exta, r.os, r.tape, r.output, fun b cs hb hc => ?_, r.apart, r.loops.same fun i o e _ => (hs i (Array.getElem?_eq_some_iff.1 e).1).trans e⟩
  obtain ⟨lt, len, sz, cell, row, cp, um⟩ := r.live b cs hb hc
  have hum : h.um b = true → (∀ v, v ∈ cs → isPtr v = true) ∧ ∀ arr e lo hi, 0 < (ι b).rsv → (w.alloc o).heap[(ι b).β]? = some (.cells arr e (lo, hi)) → lo = hi := fun hu => ⟨(um hu).1, fun arr e lo hi hp hh => by
    obtain ⟨-, arr0, e0, lo0, hi0, hh0, -⟩ := row hp
    rw [hs _ (Array.getElem?_eq_some_iff.1 hh0).1] at hh
    exact (um hu).2 arr e lo hi hp hh⟩
  refine ⟨lt, len, sz, cell, fun hp => ?_, cp, hum⟩
  obtain ⟨hB, arr, e, lo, hi, hh, rest⟩ := row hp
  exact ⟨hB, arr, e, lo, hi, (hs _ (Array.getElem?_eq_some_iff.1 hh).1).trans hh, rest⟩

theorem HRel.new {w0 : World} {ι : Inj} {h : Hp} {w : World} (r : HRel w0 ι h w) (cs cs' : List Value) (s : Nat) (e : TypeId) (fr : Nat × Nat)
    (hc : ∀ v, v ∈ cs → isCell v = true) (hv : VRels w0.heap.size h.next ι cs (cs'.take cs.length)) (hlo : (cs'.length ≤ fr.1 ∧ s = 1 ∧ (!cs.isEmpty && cs.all isPtr) = false) ∨ fr.2 = fr.1) (hc' : ∀ v, v ∈ cs' → isCell v = true) :
    ∃ ι', Ext ι h ι' (h.new cs s) ∧ ι' h.next = ⟨w.heap.size, 0, cs'.length, s⟩ ∧ HRel w0 ι' (h.new cs s) (w.alloc (.cells cs'.toArray e fr)) := by
  let ι' : Inj := fun i => if i = h.next then ⟨w.heap.size, 0, cs'.length, s⟩ else ι i
  have hag : Agree h.next ι ι' := fun b hb => by simp [ι']; omega
  have hnew : ι' h.next = ⟨w.heap.size, 0, cs'.length, s⟩ := by simp [ι']
  have r1 := r.alloc (.cells cs'.toArray e fr)
  have hlen : cs.length ≤ cs'.length := by have := hv.1; simp at this; omega
  refine ⟨ι', ⟨Nat.le_succ _, hag, fun _ _ e => e⟩, hnew, ?_⟩
  refine ⟨Nat.le_succ_of_le r.base, r1.size, r1.ext, fun i hi => ?_, r1.os, r1.tape, r1.output, ?_, ?_, r1.loops.mono (Nat.le_succ _) hag fun _ _ e _ => e⟩
  · have := r.base
    simp only [Hp.new]
    rw [if_neg (by omega)]
    exact r.exta i hi
  · intro b c hb hbc
    by_cases hbn : b = h.next
    · subst hbn
      simp only [Hp.new, if_true, Option.some.injEq] at hbc
      subst hbc
      refine ⟨by simp [Hp.new], by rw [hnew]; exact hlen, by rw [hnew]; simp [Hp.new], hc, fun _ => ?_, fun k hk => by simp [Hp.new] at hk, fun hu => ?_⟩
      rotate_left
      · have hu' : (!cs.isEmpty && cs.all isPtr) = true := by simpa [Hp.new] using hu
        refine ⟨fun v hv => List.all_eq_true.1 (Bool.and_eq_true_iff.1 hu').2 v hv, fun arr e1 lo hi hp hh => ?_⟩
        rw [hnew] at hh
        have hq : (w.alloc (.cells cs'.toArray e fr)).heap[w.heap.size]? = some (.cells cs'.toArray e fr) := by
          show (w.heap.push _)[w.heap.size]? = _
          simp
        rw [hq] at hh
        obtain ⟨-, -, e3⟩ : cs'.toArray = arr ∧ e = e1 ∧ fr = (lo, hi) := by simpa using hh
        rcases hlo with ⟨-, -, q⟩ | q
        · rw [q] at hu'; cases hu'
        · rw [e3] at q; exact q.symm
      rw [hnew]
      refine ⟨r.size, cs'.toArray, e, fr.1, fr.2, ?_, by simp, ?_, fun j hj => ?_, fun j v hj => ?_⟩
      · show (w.heap.push _)[w.heap.size]? = _
        simp
      · rcases hlo with q | q
        · exact .inr (by simpa using ⟨q.1, q.2.1⟩)
        · exact .inl q.symm
      · simp only at hj
        exact ⟨cs'[j], by simp [hj], hc' _ (List.getElem_mem hj)⟩
      · obtain ⟨v', hv', hr⟩ := hv.get hj
        have hjl : j < cs.length := (List.getElem?_eq_some_iff.1 hj).1
        refine ⟨v', ?_, hr.mono (Nat.le_succ _) hag⟩
        rw [List.getElem?_take, if_pos hjl] at hv'
        simpa using hv'
    · simp only [Hp.new] at hbc
      rw [if_neg hbn] at hbc
      obtain ⟨lt, len, sz, cell, row, cp, um⟩ := r1.live b c hb hbc
      have hb' : ι' b = ι b := hag b lt
      refine ⟨by simp [Hp.new]; omega, by rw [hb']; exact len, by rw [hb', sz]; simp [Hp.new, hbn], cell, fun hp => ?_, fun k hk => by rw [hb']; simp only [Hp.new, if_neg hbn] at hk; exact cp k hk, fun hu => by rw [hb']; simp only [Hp.new, if_neg hbn] at hu; exact um hu⟩
      rw [hb'] at hp ⊢
      obtain ⟨hB, arr, e', lo, hi, hh, h1, h2, h4, h3⟩ := row hp
      refine ⟨hB, arr, e', lo, hi, hh, h1, h2, h4, fun j v hj => ?_⟩
      obtain ⟨v', a, b⟩ := h3 j v hj
      exact ⟨v', a, b.mono (Nat.le_succ _) hag⟩
  · intro b b' c c' hb hb' hbc hbc' hne
    have key : ∀ x cx, w0.heap.size ≤ x → h.blk x = some cx → (ι x).apart ⟨w.heap.size, 0, cs'.length, s⟩ := by
      intro x cx hx hxc
      obtain ⟨_, _, _, _, row⟩ := r.live x cx hx hxc
      by_cases h0 : 0 < (ι x).rsv
      · obtain ⟨_, arr, _, _, _, hh, _⟩ := row h0
        have := (Array.getElem?_eq_some_iff.1 hh).1
        exact .inl (by simp; omega)
      · exact .inr (.inl (by omega))
    simp only [Hp.new] at hbc hbc'
    by_cases h1 : b = h.next
    · by_cases h2 : b' = h.next
      · exact absurd (h1.trans h2.symm) hne
      · rw [if_neg h2] at hbc'
        rw [h1, hnew, hag b' (r.live b' c' hb' hbc').lt]
        exact (key b' c' hb' hbc').symm
    · rw [if_neg h1] at hbc
      by_cases h2 : b' = h.next
      · rw [h2, hnew, hag b (r.live b c hb hbc).lt]
        exact key b c hb hbc
      · rw [if_neg h2] at hbc'
        rw [hag b (r.live b c hb hbc).lt, hag b' (r.live b' c' hb' hbc').lt]
        exact r.apart b b' c c' hb hb' hbc hbc' hne

theorem HRel.dim {w0 : World} {ι : Inj} {h : Hp} {w : World} {c : List Value} {s : Nat} (r : HRel w0 ι (h.new c s) w) : HRel w0 ι (h.newD c s) w :=
  ⟨r.base, r.size, r.ext, r.exta, r.os, r.tape, r.output, fun b cs hb hc => by
    obtain ⟨lt, len, sz, cell, row, cp, um⟩ := r.live b cs hb hc
    refine ⟨lt, len, sz, cell, row, cp, fun hu => um ?_⟩
    by_cases hbn : b = h.next
    · subst hbn
      simp [Hp.newD] at hu
    · simp only [Hp.newD, if_neg hbn] at hu
      simp only [Hp.new, if_neg hbn]
      exact hu, r.apart, r.loops⟩
end Go.Proofs.Ytiakadkooclelaa.Ah
