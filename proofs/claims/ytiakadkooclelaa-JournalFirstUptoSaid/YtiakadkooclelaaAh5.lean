/- What each operation does on the abstract heap: the words of the shallow functions, and vcOp. -/
import Derived.Test.YtiakadkooclelaaAh4
import Derived.Laws.Externs
import Derived.Lib.Bytealg
set_option linter.unusedVariables false
set_option linter.unusedSimpArgs false
namespace Go.Proofs.Ytiakadkooclelaa.Ah
open Go

abbrev Kont := Value → Hp → Prop

/-! ### Words -/
def loadA (w0 : World) (x : Value) (K : Kont) (h : Hp) : Prop :=
  ∃ ad v, x = .pointer (some ad) ∧ h.get ad = some v ∧ (ad.block < w0.heap.size → Cl w0.heap.size v) ∧ K v h
def loadNA (w0 : World) (x : Value) (n : Nat) (K : Kont) (h : Hp) : Prop :=
  ∃ ad vs, x = .pointer (some ad) ∧ h.getN ad n = some vs ∧ (ad.block < w0.heap.size → ∀ v, v ∈ vs → ClC w0.heap.size v) ∧ K (.agg vs.toArray) h
def storeA (w0 : World) (x v : Value) (K : Kont) (h : Hp) : Prop :=
  ∃ b o cs, x = .pointer (some ⟨b, o, none⟩) ∧ w0.heap.size ≤ b ∧ h.blk b = some cs ∧ o < cs.length ∧ isCell v = true ∧ K undef (h.put b (cs.set o v))
def storeNA (w0 : World) (x v : Value) (n : Nat) (K : Kont) (h : Hp) : Prop :=
  ∃ b o cs vs, x = .pointer (some ⟨b, o, none⟩) ∧ w0.heap.size ≤ b ∧ v = .agg vs ∧ vs.size = n ∧ h.blk b = some cs ∧ o + n ≤ cs.length ∧ K undef (h.put b (splice cs o vs.toList))
def nilA (x : Value) (K : Kont) (h : Hp) : Prop := ((∃ ad, x = .pointer (some ad)) ∨ (∃ f a b, x = .func (.func f) a b) ∨ ∃ b, x = .func (.yield b) #[] #[]) ∧ K x h
def addA (x : Value) (off : Nat) (K : Kont) (h : Hp) : Prop := ∃ ad, x = .pointer (some ad) ∧ K (.pointer (some (ad.add off))) h
def pureA (o : Option Value) (K : Kont) (h : Hp) : Prop := ∃ v, o = some v ∧ K v h
def pickA (c a b : Value) (K : Kont) (h : Hp) : Prop := ∃ q, c = .bool q ∧ K (bif q then a else b) h
def newA (cs : List Value) (s : Nat) (K : Kont) (h : Hp) : Prop := (∀ v, v ∈ cs → isCell v = true) ∧ K (.pointer (some ⟨h.next, 0, none⟩)) (h.new cs s)
def boxA (agg : Bool) (s : Nat) (v : Value) (K : Kont) (h : Hp) : Prop :=
  bif agg then ∃ vs, v = .agg vs ∧ K (.pointer (some ⟨h.next, 0, none⟩)) (h.new vs.toList s)
  else isCell v = true ∧ K (.pointer (some ⟨h.next, 0, none⟩)) (h.new [v] s)
def fillA : List (Nat × Nat × Bool × Value) → List Value → (List Value → Hp → Prop) → Hp → Prop
  | [], cs, K, h => K cs h
  | (off, size, agg, v) :: r, cs, K, h =>
    bif agg then ∃ vs, v = .agg vs ∧ vs.size = size ∧ off + size ≤ cs.length ∧ fillA r (splice cs off vs.toList) K h
    else isCell v = true ∧ off < cs.length ∧ fillA r (cs.set off v) K h
def idxSlA (s : Nat) (x i : Value) (K : Kont) (h : Hp) : Prop :=
  ∃ ad n c k j, x = .slice (some ad) n c ∧ i = .int k j ∧ 0 ≤ j ∧ j < (n : Int) ∧ K (.pointer (some (ad.add (j.toNat * s)))) h
def idxArA (len s : Nat) (x i : Value) (K : Kont) (h : Hp) : Prop :=
  ∃ ad k j, x = .pointer (some ad) ∧ i = .int k j ∧ 0 ≤ j ∧ j < (len : Int) ∧ K (.pointer (some (ad.add (j.toNat * s)))) h

def intA (op : BinOp) (k : IntKind) (a b : Int) : Option Value :=
  match op with
  | .add => some (.int k (k.wrap (a + b)))
  | .sub => some (.int k (k.wrap (a - b)))
  | .mul => some (.int k (k.wrap (a * b)))
  | .quo => if b = 0 then none else some (.int k (k.wrap (a.tdiv b)))
  | .rem => if b = 0 then none else some (.int k (a.tmod b))
  | .and => some (.int k (k.wrap (BitVec.ofInt k.bits a &&& BitVec.ofInt k.bits b).toNat))
  | .or => some (.int k (k.wrap (BitVec.ofInt k.bits a ||| BitVec.ofInt k.bits b).toNat))
  | .xor => some (.int k (k.wrap (BitVec.ofInt k.bits a ^^^ BitVec.ofInt k.bits b).toNat))
  | .andNot => some (.int k (k.wrap (BitVec.ofInt k.bits a &&& ~~~(BitVec.ofInt k.bits b)).toNat))
  | .eql => some (.bool (a == b))
  | .neq => some (.bool (a != b))
  | .lss => some (.bool (a < b))
  | .leq => some (.bool (a ≤ b))
  | .gtr => some (.bool (a > b))
  | .geq => some (.bool (a ≥ b))
  | _ => none
def strA (op : BinOp) (x y : ByteArray) : Option Value :=
  match op with
  | .add => if x.size + y.size ≤ 9223372036854775807 then some (.string (x ++ y)) else none
  | .eql => some (.bool (x.toList == y.toList))
  | .neq => some (.bool (!(x.toList == y.toList)))
  | .lss => some (.bool (Op.bytesLess x.toList y.toList))
  | .leq => some (.bool (Op.bytesLess x.toList y.toList || x.toList == y.toList))
  | .gtr => some (.bool (!(Op.bytesLess x.toList y.toList || x.toList == y.toList)))
  | .geq => some (.bool (!Op.bytesLess x.toList y.toList))
  | _ => none
def binA (op : BinOp) (x y : Value) : Option Value :=
  match x, y with
  | .int k a, .int k' b =>
    match op with
    | .shl => if b < 0 then none else some (.int k (k.wrap (a * 2 ^ (min b.toNat k.bits))))
    | .shr => if b < 0 then none else some (.int k (a.fdiv (2 ^ (min b.toNat k.bits))))
    | op => if k = k' then intA op k a b else none
  | .string a, .string b => strA op a b
  | _, _ => none
def eqNeq (op : BinOp) (b : Bool) : Option Value :=
  match op with
  | .eql => some (.bool b)
  | .neq => some (.bool (!b))
  | _ => none
def binBoolA (op : BinOp) (x y : Value) : Option Value :=
  match x, y with
  | .bool a, .bool b => eqNeq op (a == b)
  | _, _ => none
def binPtrA (op : BinOp) (x y : Value) : Option Value :=
  match x, y with
  | .pointer none, .pointer b => eqNeq op b.isNone
  | .pointer (some _), .pointer none => eqNeq op false
  | _, _ => none
def binSlA (op : BinOp) (x y : Value) : Option Value :=
  match x, y with
  | .slice none _ _, .slice b _ _ => eqNeq op b.isNone
  | .slice (some _) _ _, .slice none _ _ => eqNeq op false
  | _, _ => none
def binFnA (op : BinOp) (x y : Value) : Option Value :=
  match x, y with
  | .nilFunc, .nilFunc => eqNeq op true
  | .nilFunc, .func _ _ _ => eqNeq op false
  | .func _ _ _, .nilFunc => eqNeq op false
  | _, _ => none
def flat : Value → Bool
  | .bool _ => true
  | .int _ _ => true
  | .string _ => true
  | _ => false
def eqStA (P : Program) (op : BinOp) (T : TypeId) (x y : Value) (K : Kont) (h : Hp) : Prop :=
  ∃ xs ys q, x = .agg xs ∧ y = .agg ys ∧ (∀ v, v ∈ xs.toList → flat v = true) ∧ (∀ v, v ∈ ys.toList → flat v = true) ∧
    (∀ w, (binOp op T x y).run P w = .ok (.bool q) w) ∧ (∀ w, (eqGuard op T (.tmp 0) (.tmp 0) x y).run P w = .ok () w) ∧ K (.bool q) h
def unA (op : UnOp) (x : Value) : Option Value :=
  match op, x with
  | .neg, .int k n => some (.int k (k.wrap (0 - n)))
  | .xor, .int k n => some (.int k (k.wrap (BitVec.ofInt k.bits (if k.signed then -1 else k.max) ^^^ BitVec.ofInt k.bits n).toNat))
  | .not, .bool b => some (.bool (!b))
  | _, _ => none
def convA (k : IntKind) (x : Value) : Option Value :=
  match x with
  | .int _ n => some (.int k (k.wrap n))
  | _ => none
def strOf (x : Value) : Option Value :=
  match x with
  | .string s => some (.string s)
  | _ => none
def b2sA (w0 : World) (x : Value) (K : Kont) (h : Hp) : Prop :=
  ∃ (a : Option Addr) (n c : Nat) (ys : List Int), x = .slice a n c ∧ Src w0.heap.size h 1 x n (ys.map fun q : Int => .int .u8 q) ∧ K (.string ⟨(ys.map fun q : Int => UInt8.ofNat q.toNat).toArray⟩) h
def sl2slA (w0 : World) (x : Value) (K : Kont) (h : Hp) : Prop :=
  ∃ b o n c cs, x = .slice (some ⟨b, o, none⟩) n c ∧ 0 < n ∧ w0.heap.size ≤ b ∧ h.blk b = some cs ∧ 0 < cs.length ∧ h.esz b = 1 ∧ (∃ v, v ∈ cs ∧ isPtr v = false) ∧ K x h
def s2bA (x : Value) (K : Kont) (h : Hp) : Prop :=
  ∃ s, x = .string s ∧ s.size ≤ 140737488355328 ∧ K (.slice (some ⟨h.next, 0, none⟩) s.size ucap) (h.new (s.data.toList.map fun b => .int .u8 b.toNat) 1)
def zerosL (z : List Value) (n : Nat) : List Value := (List.replicate n z).flatten
def mkA (s bytes : Nat) (z : List Value) (l c : Value) (K : Kont) (h : Hp) : Prop :=
  ∃ (kl kc : IntKind) (n m : Nat), l = .int kl (n : Int) ∧ c = .int kc (m : Int) ∧ n ≤ m ∧ bytes * m ≤ 281474976710656 ∧ m ≤ 281474976710656 ∧
    K (.slice (some ⟨h.next, 0, none⟩) n m) (h.new (zerosL z m) s)
def boundA (o : Option Value) (d : Nat) : Option Nat :=
  match o with
  | none => some d
  | some (.int _ i) => if 0 ≤ i then some i.toNat else none
  | _ => none
def strSlA (x : Value) (lo hi : Option Value) : Option Value :=
  match x with
  | .string s =>
    match boundA lo 0, boundA hi s.size with
    | some l, some u => if l ≤ u ∧ u ≤ s.size then some (.string (s.extract l u)) else none
    | _, _ => none
  | _ => none
def roomA (h : Hp) (a : Option Addr) (n s u : Nat) : Prop := 0 < s ∧ n < u ∧ ∃ ad cs, a = some ad ∧ h.blk ad.block = some cs ∧ ad.off + u * s ≤ cs.length
def slSlA (s : Nat) (x : Value) (lo hi mx : Option Value) (K : Kont) (h : Hp) : Prop :=
  ∃ a n c l u, x = .slice a n c ∧ boundA lo 0 = some l ∧ boundA hi n = some u ∧ l ≤ u ∧ (mx.isSome = true → hi.isSome = true) ∧
    match mx with
    | none =>
      if c = ucap then (u ≤ n ∨ roomA h a n s u) ∧ ∃ ad, a = some ad ∧ h.esz ad.block = s ∧ (∃ cs, h.blk ad.block = some cs) ∧ K (.slice (some (ad.add (l * s))) (u - l) ucap) h
      else u ≤ c ∧ K (.slice (if c = l then a else a.map (·.add (l * s))) (u - l) (c - l)) h
    | some mv => ∃ m, boundA (some mv) 0 = some m ∧ u ≤ m ∧ m < ucap ∧ m ≤ (if c = ucap then n else c) ∧ K (.slice (if m = l then a else a.map (·.add (l * s))) (u - l) (m - l)) h
def arSlA (len s : Nat) (x : Value) (lo hi : Option Value) (K : Kont) (h : Hp) : Prop :=
  ∃ ad l u, x = .pointer (some ad) ∧ boundA lo 0 = some l ∧ boundA hi len = some u ∧ l ≤ u ∧ u ≤ len ∧ len < ucap ∧
    K (.slice (some (if len = l then ad else ad.add (l * s))) (u - l) (len - l)) h
def partA (agg : Bool) (off s : Nat) (cs : Array Value) : Option Value :=
  bif agg then some (.agg (cs.extract off (off + s))) else cs[off]?
def fldA (agg : Bool) (off s : Nat) (x : Value) : Option Value :=
  match x with
  | .agg cs => partA agg off s cs
  | _ => none
def strIdxA (x i : Value) : Option Value :=
  match x, i with
  | .string s, .int _ j => if 0 ≤ j then (s[j.toNat]?).map fun b => .int .u8 b.toNat else none
  | _, _ => none
def arIdxA (agg : Bool) (len s : Nat) (x i : Value) : Option Value :=
  match x, i with
  | .agg cs, .int _ j => if 0 ≤ j ∧ j < (len : Int) then partA agg (j.toNat * s) s cs else none
  | _, _ => none
def extA (x : Value) (i : Nat) : Option Value :=
  match x with
  | .tuple vs => vs[i]?
  | _ => none
def max2A (x y : Value) : Option Value :=
  match x, y with
  | .int k a, .int _ b => some (.int k (if b > a then b else a))
  | _, _ => none
def min2A (x y : Value) : Option Value :=
  match x, y with
  | .int k a, .int _ b => some (.int k (if b < a then b else a))
  | _, _ => none
def foldA (f : Value → Value → Option Value) : Value → List Value → Option Value
  | x, [] => some x
  | x, y :: r => (f x y).bind fun v => foldA f v r
inductive appA (w0 : World) (s bytes : Nat) (x y : Value) (K : Kont) (h : Hp) : Prop
  | mk (m : Nat) (g0 : lenA y = some m) (g1 : (m = 0 → (∃ a n c, x = .slice a n c) ∧ K x h)) (g2 : (0 < m → ∃ n old ys h1, Dst w0.heap.size s h x m n old h1 ∧ Src w0.heap.size h s y m ys ∧ (n + m) * bytes ≤ 140737488355328 ∧ n + m ≤ 140737488355328 ∧
      K (.slice (some ⟨h.next, 0, none⟩) (n + m) ucap) (h1.newD (old ++ ys) s))) : appA w0 s bytes x y K h
  | fit (m n b o : Nat) (cs ys : List Value) (g0 : lenA y = some m) (g1 : x = .slice (some ⟨b, o, none⟩) n ucap) (g2 : 0 < m) (g3 : 0 < s) (g4 : w0.heap.size ≤ b) (g5 : h.blk b = some cs) (g6 : h.esz b = s) (g7 : o + (n + m) * s ≤ cs.length)
      (g8 : Src w0.heap.size h s y m ys) (g9 : K (.slice (some ⟨b, o, none⟩) (n + m) ucap) (h.put b (splice cs (o + n * s) ys))) : appA w0 s bytes x y K h
inductive copyA (w0 : World) (s : Nat) (x y : Value) (K : Kont) (h : Hp) : Prop
  | mk (a : Option Addr) (n c m : Nat) (g0 : x = .slice a n c) (g1 : lenA y = some m) (g2 : (min m n = 0 → K (.int .i64 0) h)) (g3 : (0 < min m n → ∃ b o cs ys, a = some ⟨b, o, none⟩ ∧ w0.heap.size ≤ b ∧ h.blk b = some cs ∧ o + min m n * s ≤ cs.length ∧ Src w0.heap.size h s y (min m n) ys ∧
      K (.int .i64 (min m n : Nat)) (h.put b (splice cs o ys)))) : copyA w0 s x y K h
inductive clearA (w0 : World) (s : Nat) (z : List Value) (x : Value) (K : Kont) (h : Hp) : Prop
  | mk (a : Option Addr) (n c : Nat) (g0 : x = .slice a n c) (g1 : (n = 0 → K undef h)) (g2 : (0 < n → ∃ b o cs, a = some ⟨b, o, none⟩ ∧ w0.heap.size ≤ b ∧ h.blk b = some cs ∧ o + n * s ≤ cs.length ∧ K undef (h.put b (splice cs o (zerosL z n))))) : clearA w0 s z x K h

def Hp.fill (h : Hp) (b k : Nat) (cs : List Value) : Hp := { h with blk := fun i => if i = b then some (cs ++ List.replicate (k - cs.length) unk) else h.blk i, cp := fun i => if i = b then some k else h.cp i, um := fun i => if i = b then false else h.um i }
def capA (w0 : World) (s : Nat) (x : Value) (K : Kont) (h : Hp) : Prop :=
  ∃ a n c, x = .slice a n c ∧ if c = ucap then
    (0 < n ∧ ∃ b o cs, a = some ⟨b, o, none⟩ ∧ w0.heap.size ≤ b ∧ h.blk b = some cs ∧ o < cs.length ∧ h.esz b = s ∧ ∀ c' : Nat, n ≤ c' → cs.length ≤ o + c' * s → K (.int .i64 (c' : Int)) (h.fill b (o + c' * s) cs))
    else K (.int .i64 (c : Int)) h
def appZA (w0 : World) (s bytes : Nat) (z : List Value) (x y : Value) (K : Kont) (h : Hp) : Prop :=
  ∃ b o n m k kk old, x = .slice (some ⟨b, o, none⟩) n ucap ∧ y = .int kk ((m : Nat) : Int) ∧ 0 < m ∧ w0.heap.size ≤ b ∧ h.getN ⟨b, o, none⟩ (n * s) = some old ∧ h.esz b = s ∧ h.cp b = some k ∧ k < o + (n + m) * s ∧
    (n + m) * bytes ≤ 140737488355328 ∧ n + m ≤ 140737488355328 ∧ K (.slice (some ⟨h.next, 0, none⟩) (n + m) ucap) (h.new (old ++ zerosL z m) s)
def ovX (P : Program) (f : FuncId) : Prop :=
  ∃ fn tr t e, P.funcs[f]? = some fn ∧ (fn.name == "runtime.NumGoroutine") = false ∧ fn.body.isNone = true ∧ Extern.findNext fn = none ∧ Extern.find fn = some (Extern.SlicesOverlaps.overlaps #[t, t] #[tr]) ∧
    P.underlying t = some (.slice e) ∧ (P.info? e).isSome = true
def scX (P : Program) (f : FuncId) : Prop :=
  ∃ fn, P.funcs[f]? = some fn ∧ (fn.name == "runtime.NumGoroutine") = false ∧ fn.body.isNone = true ∧ Extern.findNext fn = none ∧ Extern.find fn = some Extern.BytealgCompare.compare
def ovA (P : Program) (w0 : World) (f : FuncId) (x y : Value) (K : Kont) (h : Hp) : Prop :=
  (ovX P f ∧ ∃ b o n c b' o' n' c' cs cs', x = .slice (some ⟨b, o, none⟩) n c ∧ y = .slice (some ⟨b', o', none⟩) n' c' ∧ b ≠ b' ∧ w0.heap.size ≤ b ∧ w0.heap.size ≤ b' ∧ h.blk b = some cs ∧ h.blk b' = some cs' ∧
    o < cs.length ∧ o' < cs'.length ∧ 0 < n ∧ 0 < n' ∧ (h.um b = true ∨ h.esz b ≠ 1) ∧ K (.bool false) h) ∨
  (scX P f ∧ ∃ a b, x = .string a ∧ y = .string b ∧ K (.int .i64 (Lib.compareBytes a.data.toList b.data.toList)) h)
def ovL (P : Program) (w0 : World) (f : FuncId) (args : List Value) (K : Kont) (h : Hp) : Prop :=
  match args with
  | [x, y] => ovA P w0 f x y K h
  | _ => False

/-! ### Calls -/
def ACalls (P : Program) (w0 : World) (f : FuncId) (args : List Value) (h : Hp) (R : Kont) : Prop :=
  (∀ v, v ∈ args → v ≠ junk) ∧ ∀ (ι : Inj) (w : World) (args' : Array Value), HRel w0 ι h w → VRels w0.heap.size h.next ι args args'.toList →
    CallsIn Fence.wide 0 P f args' w fun e w' => ∃ v' ι' h' v, e = .returned v' ∧ Ext ι h ι' h' ∧ HRel w0 ι' h' w' ∧ VRel w0.heap.size h'.next ι' v v' ∧ R v h'

theorem ACalls.mono {P : Program} {w0 : World} {f : FuncId} {args : List Value} {h : Hp} {R R' : Kont} (c : ACalls P w0 f args h R) (hr : ∀ v h', R v h' → R' v h') : ACalls P w0 f args h R' :=
  ⟨c.1, fun ι w args' r v => (c.2 ι w args' r v).mono fun e w' ⟨v', ι', h', v, a, b, c, d, e⟩ => ⟨v', ι', h', v, a, b, c, d, hr _ _ e⟩⟩

def callOK (P : Program) (f : FuncId) : Bool :=
  match P.funcs[f]? with
  | some fn => fn.body.isSome && !(fn.name == "runtime.NumGoroutine")
  | none => false

def AYield (P : Program) (w0 : World) (b : Nat) (args : List Value) (h : Hp) (R : Kont) : Prop :=
  (∀ v, v ∈ args → v ≠ junk) ∧ ∀ (ι : Inj) (w : World) (args' : Array Value), HRel w0 ι h w → VRels w0.heap.size h.next ι args args'.toList →
    ∃ f tmps as bd, (Instr.yield (ι b).β args').run P w = .ok (.round (ι b).β f tmps as bd) w ∧
      RoundIn Fence.wide 0 P (ι b).β f tmps as bd w fun e w' => ∃ v' ι' h' v, e = .returned v' ∧ Ext ι h ι' h' ∧ HRel w0 ι' h' w' ∧ VRel w0.heap.size h'.next ι' v v' ∧ R v h'

theorem AYield.mono {P : Program} {w0 : World} {b : Nat} {args : List Value} {h : Hp} {R R' : Kont} (c : AYield P w0 b args h R) (hr : ∀ v h', R v h' → R' v h') : AYield P w0 b args h R' :=
  ⟨c.1, fun ι w args' r v => by
    obtain ⟨f, tmps, as, bd, e, k⟩ := c.2 ι w args' r v
    exact ⟨f, tmps, as, bd, e, k.mono fun e w' ⟨v', ι', h', v, a, b, c, d, e⟩ => ⟨v', ι', h', v, a, b, c, d, hr _ _ e⟩⟩⟩

def callVA (P : Program) (w0 : World) (fv : Value) (args : List Value) (K : Kont) (h : Hp) : Prop :=
  (∃ f a c, fv = .func (.func f) a c ∧ callOK P f = true ∧ ACalls P w0 f (a.toList ++ args ++ c.toList) h K) ∨ ∃ b, fv = .func (.yield b) #[] #[] ∧ AYield P w0 b args h K

/-! ### What the types say -/
section
variable (P : Program)
def szT (t : TypeId) : Nat := ((P.info? t).map (·.size)).getD 0
def byT (t : TypeId) : Nat := ((P.info? t).map (·.bytes)).getD 0
def zeroT (t : TypeId) : List Value := (((P.info? t).bind (·.zero)).map (·.cells.toList)).getD []
def aggT (t : TypeId) : Bool := match P.underlying t with | some (.struct _) => true | some (.array _ _) => true | _ => false
def constOK : Value → Bool
  | .bool _ => true
  | .int _ _ => true
  | .string _ => true
  | .pointer none => true
  | .slice none 0 0 => true
  | .nilFunc => true
  | _ => false
def okT (t : TypeId) : Bool :=
  match P.info? t with
  | some i =>
    match i.zero with
    | some z => z.cells.size == i.size && z.cells.toList.all constOK && (P.underlying t).isSome && (match z with | .agg _ => aggT P t | .tuple _ => false | _ => !(aggT P t))
    | none => false
  | none => false
end

/-! ### Frames -/
def upd (t : Fr) (d : Nat) (v : Value) : Fr := fun i => if i = d then v else t i
def putA (t : Fr) (d : Option Nat) (v : Value) : Fr := match d with | some d => upd t d v | none => t
def constV : Value → Value
  | .agg cs => if cs.toList.all constOK then .agg cs else junk
  | v => if constOK v then v else junk
def ev (n : Nat) (t : Fr) : Operand → Value
  | .tmp i => if i < n then t i else junk
  | .const v => constV v
  | .global _ => junk
  | .func f => .func (.func f) #[] #[]

end Go.Proofs.Ytiakadkooclelaa.Ah
