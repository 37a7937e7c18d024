/- The words' lemmas: what is left to show of each when its operands are known. -/
import Derived.Test.YtiakadkooclelaaAh16
import Derived.IntWalk
set_option linter.unusedVariables false
set_option linter.unusedSimpArgs false
namespace Go.Proofs.Ytiakadkooclelaa.Ah
open Go

/-! ### What holds of every abstract heap that stands to a world -/
structure Fit (w0 : World) (h : Hp) : Prop where
  base : w0.heap.size ≤ h.next
  ext : ∀ i, i < w0.heap.size → h.blk i = extBlk w0 i
  lt : ∀ b cs, h.blk b = some cs → b < h.next
  cell : ∀ b cs, w0.heap.size ≤ b → h.blk b = some cs → ∀ v, v ∈ cs → isCell v = true
  lps : ∀ b x, h.lp b = some x → w0.heap.size ≤ b ∧ b < h.next
  um : ∀ b cs, w0.heap.size ≤ b → h.blk b = some cs → h.um b = true → cs.all isPtr = true

theorem HRel.fit {w0 : World} {ι : Inj} {h : Hp} {w : World} (r : HRel w0 ι h w) : Fit w0 h := by
  refine ⟨r.base, r.exta, fun b cs e => ?_, fun b cs hb e => (r.live b cs hb e).cell, fun b x e => ⟨(r.loops.row b x.1 x.2 e).2.1, (r.loops.row b x.1 x.2 e).1⟩, fun b cs hb e hu => List.all_eq_true.2 ((r.live b cs hb e).um hu).1⟩
  by_cases hb : w0.heap.size ≤ b
  · exact (r.live b cs hb e).lt
  · have := r.base; omega

theorem ACalls.fit {P : Program} {w0 : World} {f : FuncId} {args : List Value} {h : Hp} {R : Kont} (c : ACalls P w0 f args h fun v h' => Fit w0 h' → R v h') : ACalls P w0 f args h R :=
  ⟨c.1, fun ι w args' r v => (c.2 ι w args' r v).mono fun e w' ⟨v', ι', h', v, a, b, c, d, e⟩ => ⟨v', ι', h', v, a, b, c, d, e c.fit⟩⟩
theorem ACalls.of_fit {P : Program} {w0 : World} {f : FuncId} {args : List Value} {h : Hp} {R : Kont} (hj : ∀ v, v ∈ args → v ≠ junk) (c : Fit w0 h → ACalls P w0 f args h R) : ACalls P w0 f args h R :=
  ⟨hj, fun ι w args' r v => (c r.fit).2 ι w args' r v⟩
theorem callA_of {P : Program} {w0 : World} {f : FuncId} {args : List Value} {h : Hp} {R K : Kont} (c : ACalls P w0 f args h R) (hk : ∀ v h', R v h' → Fit w0 h' → K v h') : callA P w0 f args K h :=
  ACalls.fit (c.mono fun v h' r f => hk v h' r f)

/-! ### The heap -/
@[simp] theorem put_blk (h : Hp) (b : Nat) (c : List Value) (i : Nat) : (h.put b c).blk i = if i = b then some c else h.blk i := rfl
@[simp] theorem put_lp (h : Hp) (b : Nat) (c : List Value) : (h.put b c).lp = h.lp := rfl
@[simp] theorem new_lp (h : Hp) (c : List Value) (s : Nat) : (h.new c s).lp = h.lp := rfl
@[simp] theorem kill_lp (h : Hp) (b : Nat) : (h.kill b).lp = h.lp := rfl
@[simp] theorem put_next (h : Hp) (b : Nat) (c : List Value) : (h.put b c).next = h.next := rfl
@[simp] theorem put_esz (h : Hp) (b : Nat) (c : List Value) : (h.put b c).esz = h.esz := rfl
@[simp] theorem new_blk (h : Hp) (c : List Value) (s : Nat) (i : Nat) : (h.new c s).blk i = if i = h.next then some c else h.blk i := rfl
@[simp] theorem new_next (h : Hp) (c : List Value) (s : Nat) : (h.new c s).next = h.next + 1 := rfl
@[simp] theorem new_esz (h : Hp) (c : List Value) (s : Nat) (i : Nat) : (h.new c s).esz i = if i = h.next then s else h.esz i := rfl
@[simp] theorem newD_lp (h : Hp) (c : List Value) (s : Nat) : (h.newD c s).lp = h.lp := rfl
@[simp] theorem newD_blk (h : Hp) (c : List Value) (s : Nat) (i : Nat) : (h.newD c s).blk i = if i = h.next then some c else h.blk i := rfl
@[simp] theorem newD_next (h : Hp) (c : List Value) (s : Nat) : (h.newD c s).next = h.next + 1 := rfl
@[simp] theorem newD_esz (h : Hp) (c : List Value) (s : Nat) (i : Nat) : (h.newD c s).esz i = if i = h.next then s else h.esz i := rfl
@[simp] theorem kill_blk (h : Hp) (b : Nat) (i : Nat) : (h.kill b).blk i = if i = b then none else h.blk i := rfl
@[simp] theorem kill_next (h : Hp) (b : Nat) : (h.kill b).next = h.next := rfl
@[simp] theorem kill_esz (h : Hp) (b : Nat) : (h.kill b).esz = h.esz := rfl
@[simp] theorem get_eq (h : Hp) (b o : Nat) : h.get ⟨b, o, none⟩ = (h.blk b).bind (·[o]?) := rfl
@[simp] theorem getN_eq (h : Hp) (b o n : Nat) : h.getN ⟨b, o, none⟩ n = (h.blk b).bind fun c => if o + n ≤ c.length then some ((c.drop o).take n) else none := rfl
@[simp] theorem addr_add (b o n : Nat) : (⟨b, o, none⟩ : Addr).add n = ⟨b, o + n, none⟩ := by
  unfold Addr.add
  split
  · rename_i e; subst e; rfl
  · rfl

/-! ### Words without effect -/
section
variable {P : Program} {w0 : World} {K : Kont} {h : Hp}
@[simp] theorem pureA_some (v : Value) : pureA (some v) K h ↔ K v h := by simp [pureA]
@[simp] theorem pureA_none : pureA none K h ↔ False := by simp [pureA]
@[simp] theorem pureQ_k (v : Value) : pureQ (fun K => K v) K h ↔ K v h := by
  constructor
  · rintro ⟨v', e, k⟩; obtain ⟨rfl, -⟩ := e h; exact k
  · intro k; exact ⟨v, fun h0 => ⟨rfl, rfl⟩, k⟩
@[simp] theorem pureQ_pureA (o : Option Value) : pureQ (pureA o) K h ↔ pureA o K h := by
  constructor
  · rintro ⟨v', e, k⟩; obtain ⟨v, rfl, rfl, -⟩ := e h; exact ⟨_, rfl, k⟩
  · rintro ⟨v, rfl, k⟩; exact ⟨v, fun h0 => ⟨v, rfl, rfl, rfl⟩, k⟩
@[simp] theorem nilA_ptr (a : Addr) : nilA (.pointer (some a)) K h ↔ K (.pointer (some a)) h := by simp [nilA]
@[simp] theorem nilA_func (f : FuncId) (a b : Array Value) : nilA (.func (.func f) a b) K h ↔ K (.func (.func f) a b) h := by simp [nilA]
@[simp] theorem addA_ptr (a : Addr) (n : Nat) : addA (.pointer (some a)) n K h ↔ K (.pointer (some (a.add n))) h := by simp [addA]
@[simp] theorem pickA_bool (q : Bool) (a b : Value) : pickA (.bool q) a b K h ↔ K (bif q then a else b) h := by simp [pickA]
@[simp] theorem condA_bool (q : Bool) (x y : Hp → Prop) : condA (.bool q) x y h ↔ (q = true → x h) ∧ (q = false → y h) := by simp [condA]
@[simp] theorem guardA_bool (q want : Bool) (m : Kont → Hp → Prop) : guardA (.bool q) want m K h ↔ (q = want → m K h) ∧ (q ≠ want → K undef h) := by
  constructor
  · rintro ⟨a, b, c⟩; exact ⟨fun e => b (by rw [e]), fun e => c (by simpa using e)⟩
  · rintro ⟨b, c⟩; exact ⟨by simp [junk], fun e => b (by simpa using e), fun e => c (by simpa using e)⟩
theorem condA_true (x y : Hp → Prop) : condA (.bool true) x y h ↔ x h := by simp
theorem condA_false (x y : Hp → Prop) : condA (.bool false) x y h ↔ y h := by simp
theorem guardA_tt (m : Kont → Hp → Prop) : guardA (.bool true) true m K h ↔ m K h := by simp
theorem guardA_ff (m : Kont → Hp → Prop) : guardA (.bool false) false m K h ↔ m K h := by simp
theorem guardA_tf (m : Kont → Hp → Prop) : guardA (.bool true) false m K h ↔ K undef h := by simp
theorem guardA_ft (m : Kont → Hp → Prop) : guardA (.bool false) true m K h ↔ K undef h := by simp
theorem pickA_true (a b : Value) : pickA (.bool true) a b K h ↔ K a h := by simp
theorem pickA_false (a b : Value) : pickA (.bool false) a b K h ↔ K b h := by simp
@[simp] theorem guardA_undef (want : Bool) (m : Kont → Hp → Prop) : guardA undef want m K h ↔ K undef h := by
  constructor
  · rintro ⟨a, b, c⟩; exact c (by simp [undef])
  · intro c; exact ⟨by simp [junk, undef], fun e => absurd e (by simp [undef]), fun _ => c⟩
@[simp] theorem pureQ_nilA (x : Value) : pureQ (nilA x) K h ↔ nilA x K h := by
  constructor
  · rintro ⟨v', e, k⟩; obtain ⟨g, rfl, -⟩ := e h; exact ⟨g, k⟩
  · rintro ⟨g, k⟩; exact ⟨x, fun h0 => ⟨g, rfl, rfl⟩, k⟩
@[simp] theorem pureQ_addA (x : Value) (n : Nat) : pureQ (addA x n) K h ↔ addA x n K h := by
  constructor
  · rintro ⟨v', e, k⟩; obtain ⟨a, rfl, rfl, -⟩ := e h; exact ⟨a, rfl, k⟩
  · rintro ⟨a, rfl, k⟩; exact ⟨_, fun h0 => ⟨a, rfl, rfl, rfl⟩, k⟩
@[simp] theorem pureQ_pickA (c a b : Value) : pureQ (pickA c a b) K h ↔ pickA c a b K h := by
  constructor
  · rintro ⟨v', e, k⟩; obtain ⟨q, rfl, rfl, -⟩ := e h; exact ⟨q, rfl, k⟩
  · rintro ⟨q, rfl, k⟩; exact ⟨_, fun h0 => ⟨q, rfl, rfl, rfl⟩, k⟩
@[simp] theorem pureQ_idxSlA (s : Nat) (x i : Value) : pureQ (idxSlA s x i) K h ↔ idxSlA s x i K h := by
  constructor
  · rintro ⟨v', e, k⟩; obtain ⟨ad, n, c, kk, j, rfl, rfl, a, b, rfl, -⟩ := e h; exact ⟨ad, n, c, kk, j, rfl, rfl, a, b, k⟩
  · rintro ⟨ad, n, c, kk, j, rfl, rfl, a, b, k⟩; exact ⟨_, fun h0 => ⟨ad, n, c, kk, j, rfl, rfl, a, b, rfl, rfl⟩, k⟩
@[simp] theorem pureQ_idxArA (l s : Nat) (x i : Value) : pureQ (idxArA l s x i) K h ↔ idxArA l s x i K h := by
  constructor
  · rintro ⟨v', e, k⟩; obtain ⟨ad, kk, j, rfl, rfl, a, b, rfl, -⟩ := e h; exact ⟨ad, kk, j, rfl, rfl, a, b, k⟩
  · rintro ⟨ad, kk, j, rfl, rfl, a, b, k⟩; exact ⟨_, fun h0 => ⟨ad, kk, j, rfl, rfl, a, b, rfl, rfl⟩, k⟩
@[simp] theorem pureQ_mkFnA (f : FuncId) (a c : List Value) : pureQ (mkFnA f a c) K h ↔ mkFnA f a c K h := by
  constructor
  · rintro ⟨v', e, k⟩; obtain ⟨g, rfl, -⟩ := e h; exact ⟨g, k⟩
  · rintro ⟨g, k⟩; exact ⟨_, fun h0 => ⟨g, rfl, rfl⟩, k⟩
@[simp] theorem pureQ_eqStA (op : BinOp) (T : TypeId) (x y : Value) : pureQ (eqStA P op T x y) K h ↔ eqStA P op T x y K h := by
  constructor
  · rintro ⟨v', e, k⟩; obtain ⟨xs, ys, q, a, b, c, d, f, g, rfl, -⟩ := e h; exact ⟨xs, ys, q, a, b, c, d, f, g, k⟩
  · rintro ⟨xs, ys, q, a, b, c, d, f, g, k⟩; exact ⟨_, fun h0 => ⟨xs, ys, q, a, b, c, d, f, g, rfl, rfl⟩, k⟩
@[simp] theorem pureQ_guardA (x : Value) (want : Bool) (m : Kont → Hp → Prop) : pureQ (guardA x want m) K h ↔ guardA x want (pureQ m) K h := by
  by_cases hx : x = .bool want
  · constructor
    · rintro ⟨v', e, k⟩; exact ⟨(e h).1, fun _ => ⟨v', fun h0 => (e h0).2 hx, k⟩, fun g => absurd hx g⟩
    · rintro ⟨a, b, c⟩; obtain ⟨v, e, k⟩ := b hx; exact ⟨v, fun h0 => ⟨a, fun _ => e h0, fun g => absurd hx g⟩, k⟩
  · constructor
    · rintro ⟨v', e, k⟩; have := (e h).3 hx; obtain ⟨rfl, -⟩ := this; exact ⟨(e h).1, fun g => absurd g hx, fun _ => k⟩
    · rintro ⟨a, b, c⟩; exact ⟨undef, fun h0 => ⟨a, fun g => absurd g hx, fun _ => ⟨rfl, rfl⟩⟩, c hx⟩
@[simp] theorem readQ_guardA (x : Value) (want : Bool) (m : Kont → Hp → Prop) : readQ (guardA x want m) K h ↔ guardA x want (readQ m) K h := by
  by_cases hx : x = .bool want
  · constructor
    · rintro ⟨v', e, k⟩; exact ⟨e.1, fun _ => ⟨v', e.2 hx, k⟩, fun g => absurd hx g⟩
    · rintro ⟨a, b, c⟩; obtain ⟨v, e, k⟩ := b hx; exact ⟨v, ⟨a, fun _ => e, fun g => absurd hx g⟩, k⟩
  · constructor
    · rintro ⟨v', e, k⟩; obtain ⟨rfl, -⟩ := e.3 hx; exact ⟨e.1, fun g => absurd g hx, fun _ => k⟩
    · rintro ⟨a, b, c⟩; exact ⟨undef, ⟨a, fun g => absurd g hx, fun _ => ⟨rfl, rfl⟩⟩, c hx⟩
@[simp] theorem readQ_loadA (x : Value) : readQ (loadA w0 x) K h ↔ loadA w0 x K h := by
  constructor
  · rintro ⟨v', e, k⟩; obtain ⟨ad, v, rfl, a, b, rfl, -⟩ := e; exact ⟨ad, _, rfl, a, b, k⟩
  · rintro ⟨ad, v, rfl, a, b, k⟩; exact ⟨v, ⟨ad, v, rfl, a, b, rfl, rfl⟩, k⟩
@[simp] theorem readQ_loadNA (x : Value) (n : Nat) : readQ (loadNA w0 x n) K h ↔ loadNA w0 x n K h := by
  constructor
  · rintro ⟨v', e, k⟩; obtain ⟨ad, v, rfl, a, b, rfl, -⟩ := e; exact ⟨ad, _, rfl, a, b, k⟩
  · rintro ⟨ad, v, rfl, a, b, k⟩; exact ⟨_, ⟨ad, v, rfl, a, b, rfl, rfl⟩, k⟩
@[simp] theorem readQ_b2sA (x : Value) : readQ (b2sA w0 x) K h ↔ b2sA w0 x K h := by
  constructor
  · rintro ⟨v', e, k⟩; obtain ⟨a, n, c, ys, rfl, s, rfl, -⟩ := e; exact ⟨a, n, c, ys, rfl, s, k⟩
  · rintro ⟨a, n, c, ys, rfl, s, k⟩; exact ⟨_, ⟨a, n, c, ys, rfl, s, rfl, rfl⟩, k⟩
@[simp] theorem readQ_k (v : Value) : readQ (fun K => K v) K h ↔ K v h := by
  constructor
  · rintro ⟨v', ⟨rfl, -⟩, k⟩; exact k
  · intro k; exact ⟨v, ⟨rfl, rfl⟩, k⟩
@[simp] theorem endA_iff (k : Hp → Prop) : endA k h ↔ k h := by simp [endA]
@[simp] theorem allA_nil : allA [] h ↔ True := Iff.rfl
@[simp] theorem allA_one (k : Hp → Prop) : allA [k] h ↔ k h := by simp [allA]
@[simp] theorem allA_cons (k k2 : Hp → Prop) (l : List (Hp → Prop)) : allA (k :: k2 :: l) h ↔ k h ∧ allA (k2 :: l) h := Iff.rfl
@[simp] theorem stillA_iff (G : List (Hp → Prop)) (k : Hp → Prop) : stillA G k h ↔ allA G h ∧ k h := Iff.rfl
theorem sameQ_iff (m : Kont → Hp → Prop) (v : Value) : sameQ m v h ↔ m (fun v' h' => v' = v ∧ h' = h) h := Iff.rfl
@[simp] theorem sameQ_loadA (x v : Value) : sameQ (loadA w0 x) v h ↔ loadA w0 x (fun v' _ => v' = v) h := by simp [sameQ, loadA]
@[simp] theorem sameQ_loadNA (x v : Value) (n : Nat) : sameQ (loadNA w0 x n) v h ↔ loadNA w0 x n (fun v' _ => v' = v) h := by simp [sameQ, loadNA]
@[simp] theorem retA_iff (vs : List Value) (R : Kont) : retA vs R h ↔ (∀ v, v ∈ vs → v ≠ junk) ∧ R (oneOf vs) h := Iff.rfl
@[simp] theorem oneOf_one (v : Value) : oneOf [v] = v := rfl
@[simp] theorem oneOf_nil : oneOf [] = .tuple #[] := rfl
@[simp] theorem oneOf_two (v1 v2 : Value) (l : List Value) : oneOf (v1 :: v2 :: l) = .tuple (v1 :: v2 :: l).toArray := rfl
@[simp] theorem int_junk (k : IntKind) (n : Int) : ¬ (.int k n = junk) := by simp [junk]
@[simp] theorem bool_junk (q : Bool) : ¬ (.bool q = junk) := by simp [junk]
@[simp] theorem string_junk (s : ByteArray) : ¬ (.string s = junk) := by simp [junk]
@[simp] theorem pointer_junk (a : Option Addr) : ¬ (.pointer a = junk) := by simp [junk]
@[simp] theorem slice_junk (a : Option Addr) (n c : Nat) : ¬ (.slice a n c = junk) := by simp [junk]
@[simp] theorem tuple_junk (a : Array Value) : ¬ (.tuple a = junk) := by simp [junk]
@[simp] theorem agg_junk (a : Array Value) : ¬ (.agg a = junk) := by simp [junk]
@[simp] theorem func_junk (f : Fn) (a b : Array Value) : ¬ (.func f a b = junk) := by simp [junk]
@[simp] theorem isCell_int (k : IntKind) (n : Int) : isCell (.int k n) = true := rfl
@[simp] theorem isCell_bool (q : Bool) : isCell (.bool q) = true := rfl
@[simp] theorem isCell_string (s : ByteArray) : isCell (.string s) = true := rfl
@[simp] theorem isCell_pointer (a : Option Addr) : isCell (.pointer a) = true := rfl
@[simp] theorem isCell_slice (a : Option Addr) (n c : Nat) : isCell (.slice a n c) = true := rfl
@[simp] theorem isCell_func (f : Fn) (a b : Array Value) : isCell (.func f a b) = true := rfl
@[simp] theorem isCell_nilFunc : isCell .nilFunc = true := rfl

/-! ### Words of the heap -/
@[simp] theorem loadA_own (b o : Nat) : loadA w0 (.pointer (some ⟨b, o, none⟩)) K h ↔ ∃ v, (h.blk b).bind (·[o]?) = some v ∧ (b < w0.heap.size → Cl w0.heap.size v) ∧ K v h := by simp [loadA]
@[simp] theorem loadNA_own (b o n : Nat) : loadNA w0 (.pointer (some ⟨b, o, none⟩)) n K h ↔ ∃ vs, h.getN ⟨b, o, none⟩ n = some vs ∧ (b < w0.heap.size → ∀ v, v ∈ vs → ClC w0.heap.size v) ∧ K (.agg vs.toArray) h := by simp [loadNA]
@[simp] theorem storeA_own (b o : Nat) (v : Value) : storeA w0 (.pointer (some ⟨b, o, none⟩)) v K h ↔ ∃ cs, w0.heap.size ≤ b ∧ h.blk b = some cs ∧ o < cs.length ∧ isCell v = true ∧ K undef (h.put b (cs.set o v)) := by
  constructor
  · rintro ⟨b', o', cs, e, r⟩; cases e; exact ⟨cs, r⟩
  · rintro ⟨cs, r⟩; exact ⟨b, o, cs, rfl, r⟩
@[simp] theorem newA_iff (cs : List Value) (s : Nat) : newA cs s K h ↔ (∀ v, v ∈ cs → isCell v = true) ∧ K (.pointer (some ⟨h.next, 0, none⟩)) (h.new cs s) := Iff.rfl
@[simp] theorem boxA_one (s : Nat) (v : Value) : boxA false s v K h ↔ isCell v = true ∧ K (.pointer (some ⟨h.next, 0, none⟩)) (h.new [v] s) := Iff.rfl
@[simp] theorem boxA_agg (s : Nat) (vs : Array Value) : boxA true s (.agg vs) K h ↔ K (.pointer (some ⟨h.next, 0, none⟩)) (h.new vs.toList s) := by simp [boxA]
@[simp] theorem idxSlA_iff (s : Nat) (a : Addr) (n c : Nat) (k : IntKind) (j : Int) : idxSlA s (.slice (some a) n c) (.int k j) K h ↔ 0 ≤ j ∧ j < (n : Int) ∧ K (.pointer (some (a.add (j.toNat * s)))) h := by
  constructor
  · rintro ⟨a', n', c', k', j', e, e', r⟩; cases e; cases e'; exact r
  · intro r; exact ⟨a, n, c, k, j, rfl, rfl, r⟩
@[simp] theorem idxArA_iff (l s : Nat) (a : Addr) (k : IntKind) (j : Int) : idxArA l s (.pointer (some a)) (.int k j) K h ↔ 0 ≤ j ∧ j < (l : Int) ∧ K (.pointer (some (a.add (j.toNat * s)))) h := by
  constructor
  · rintro ⟨a', k', j', e, e', r⟩; cases e; cases e'; exact r
  · intro r; exact ⟨a, k, j, rfl, rfl, r⟩
@[simp] theorem buildA_iff (ps : List (Nat × Nat × Bool × Value)) (z : List Value) : buildA ps z K h ↔ fillA ps z (fun cs h => K (.agg cs.toArray) h) h := Iff.rfl
@[simp] theorem bslA_iff (ps : List (Nat × Nat × Bool × Value)) (z : List Value) (l s : Nat) : bslA ps z l s K h ↔ fillA ps z (fun cs h => K (.slice (some ⟨h.next, 0, none⟩) l l) (h.new cs s)) h := Iff.rfl
@[simp] theorem fillA_nil (z : List Value) (K : List Value → Hp → Prop) : fillA [] z K h ↔ K z h := Iff.rfl
@[simp] theorem fillA_one (off size : Nat) (v : Value) (r : List (Nat × Nat × Bool × Value)) (z : List Value) (K : List Value → Hp → Prop) :
    fillA ((off, size, false, v) :: r) z K h ↔ isCell v = true ∧ off < z.length ∧ fillA r (z.set off v) K h := Iff.rfl
@[simp] theorem fillA_agg (off size : Nat) (vs : Array Value) (r : List (Nat × Nat × Bool × Value)) (z : List Value) (K : List Value → Hp → Prop) :
    fillA ((off, size, true, .agg vs) :: r) z K h ↔ vs.size = size ∧ off + size ≤ z.length ∧ fillA r (splice z off vs.toList) K h := by simp [fillA]
@[simp] theorem callA_iff (f : FuncId) (args : List Value) : callA P w0 f args K h ↔ ACalls P w0 f args h K := Iff.rfl
theorem mkA_nat (s by_ : Nat) (z : List Value) (kl kc : IntKind) (n m : Nat) : mkA s by_ z (.int kl n) (.int kc m) K h ↔
    n ≤ m ∧ by_ * m ≤ 281474976710656 ∧ m ≤ 281474976710656 ∧ K (.slice (some ⟨h.next, 0, none⟩) n m) (h.new (zerosL z m) s) := by
  constructor
  · rintro ⟨kl', kc', n', m', e, e', r⟩
    simp only [Value.int.injEq, Int.ofNat_inj] at e e'
    obtain ⟨-, rfl⟩ := e
    obtain ⟨-, rfl⟩ := e'
    exact r
  · intro r; exact ⟨kl, kc, n, m, rfl, rfl, r⟩
@[simp] theorem s2bA_iff (s : ByteArray) : s2bA (.string s) K h ↔ s.size ≤ 140737488355328 ∧ K (.slice (some ⟨h.next, 0, none⟩) s.size ucap) (h.new (s.data.toList.map fun b => .int .u8 b.toNat) 1) := by simp [s2bA]
end

/-! ### Operators -/
@[simp] theorem binA_add (k : IntKind) (a b : Int) : binA .add (.int k a) (.int k b) = some (.int k (k.wrap (a + b))) := by simp [binA, intA]
@[simp] theorem binA_sub (k : IntKind) (a b : Int) : binA .sub (.int k a) (.int k b) = some (.int k (k.wrap (a - b))) := by simp [binA, intA]
@[simp] theorem binA_mul (k : IntKind) (a b : Int) : binA .mul (.int k a) (.int k b) = some (.int k (k.wrap (a * b))) := by simp [binA, intA]
@[simp] theorem binA_eql (k : IntKind) (a b : Int) : binA .eql (.int k a) (.int k b) = some (.bool (a == b)) := by simp [binA, intA]
@[simp] theorem binA_neq (k : IntKind) (a b : Int) : binA .neq (.int k a) (.int k b) = some (.bool (a != b)) := by simp [binA, intA]
@[simp] theorem binA_lss (k : IntKind) (a b : Int) : binA .lss (.int k a) (.int k b) = some (.bool (decide (a < b))) := by simp [binA, intA]
@[simp] theorem binA_leq (k : IntKind) (a b : Int) : binA .leq (.int k a) (.int k b) = some (.bool (decide (a ≤ b))) := by simp [binA, intA]
@[simp] theorem binA_gtr (k : IntKind) (a b : Int) : binA .gtr (.int k a) (.int k b) = some (.bool (decide (b < a))) := by simp [binA, intA]
@[simp] theorem binA_geq (k : IntKind) (a b : Int) : binA .geq (.int k a) (.int k b) = some (.bool (decide (b ≤ a))) := by simp [binA, intA]
@[simp] theorem binA_shr (k k' : IntKind) (a b : Int) (hb : 0 ≤ b) : binA .shr (.int k a) (.int k' b) = some (.int k (a / 2 ^ (min b.toNat k.bits))) := by
  have h2 : (0 : Int) ≤ 2 ^ (min b.toNat k.bits) := Int.pow_nonneg (by omega)
  simp only [binA]
  rw [if_neg (by omega), Int.fdiv_eq_ediv_of_nonneg _ h2]
@[simp] theorem binA_shl (k k' : IntKind) (a b : Int) (hb : 0 ≤ b) : binA .shl (.int k a) (.int k' b) = some (.int k (k.wrap (a * 2 ^ (min b.toNat k.bits)))) := by
  simp only [binA]
  rw [if_neg (by omega)]
theorem binA_quo (k : IntKind) (a b : Int) (hb : b ≠ 0) : binA .quo (.int k a) (.int k b) = some (.int k (k.wrap (a.tdiv b))) := by simp [binA, intA, hb]
theorem binA_rem (k : IntKind) (a b : Int) (hb : b ≠ 0) : binA .rem (.int k a) (.int k b) = some (.int k (a.tmod b)) := by simp [binA, intA, hb]
theorem binA_and (k : IntKind) (a b : Nat) : binA .and (.int k a) (.int k b) = some (.int k (k.wrap ((a &&& b) % 2 ^ k.bits : Nat))) := by
  simp [binA, intA, Nat.and_mod_two_pow]
theorem binA_or (k : IntKind) (a b : Nat) : binA .or (.int k a) (.int k b) = some (.int k (k.wrap ((a ||| b) % 2 ^ k.bits : Nat))) := by
  simp [binA, intA, Nat.or_mod_two_pow]
theorem binA_xor (k : IntKind) (a b : Nat) : binA .xor (.int k a) (.int k b) = some (.int k (k.wrap ((a ^^^ b) % 2 ^ k.bits : Nat))) := by
  simp [binA, intA, Nat.xor_mod_two_pow]
theorem wrap_u {k : IntKind} (hk : k.signed = false) {n : Nat} (h : n < 2 ^ k.bits) : k.wrap (n : Int) = n := by
  have : (n : Int) % 2 ^ k.bits = n := Int.emod_eq_of_lt (by omega) (by exact_mod_cast h)
  simp [IntKind.wrap, hk, this]
@[simp] theorem binBoolA_eql (a b : Bool) : binBoolA .eql (.bool a) (.bool b) = some (.bool (a == b)) := rfl
@[simp] theorem binBoolA_neq (a b : Bool) : binBoolA .neq (.bool a) (.bool b) = some (.bool (!(a == b))) := rfl
@[simp] theorem binPtrA_eql (a : Addr) : binPtrA .eql (.pointer (some a)) (.pointer none) = some (.bool false) := rfl
@[simp] theorem binPtrA_neq (a : Addr) : binPtrA .neq (.pointer (some a)) (.pointer none) = some (.bool true) := rfl
@[simp] theorem binPtrA_eql0 : binPtrA .eql (.pointer none) (.pointer none) = some (.bool true) := rfl
@[simp] theorem binPtrA_neq0 : binPtrA .neq (.pointer none) (.pointer none) = some (.bool false) := rfl
@[simp] theorem unA_not (b : Bool) : unA .not (.bool b) = some (.bool (!b)) := rfl
@[simp] theorem unA_neg (k : IntKind) (n : Int) : unA .neg (.int k n) = some (.int k (k.wrap (0 - n))) := rfl
@[simp] theorem convA_int (k k' : IntKind) (n : Int) : convA k (.int k' n) = some (.int k (k.wrap n)) := rfl
@[simp] theorem strOf_string (s : ByteArray) : strOf (.string s) = some (.string s) := rfl
@[simp] theorem lenStr_string (s : ByteArray) : lenStr (.string s) = some (.int .i64 s.size) := rfl
@[simp] theorem lenSl_slice (a : Option Addr) (n c : Nat) : lenSl (.slice a n c) = some (.int .i64 n) := rfl
@[simp] theorem lenA_string (s : ByteArray) : lenA (.string s) = some s.size := rfl
@[simp] theorem lenA_slice (a : Option Addr) (n c : Nat) : lenA (.slice a n c) = some n := rfl
@[simp] theorem extA_tuple (vs : Array Value) (i : Nat) : extA (.tuple vs) i = vs[i]? := rfl
@[simp] theorem foldA_nil (f : Value → Value → Option Value) (x : Value) : foldA f x [] = some x := rfl
@[simp] theorem foldA_cons (f : Value → Value → Option Value) (x y : Value) (r : List Value) : foldA f x (y :: r) = (f x y).bind fun v => foldA f v r := rfl
@[simp] theorem max2A_int (k : IntKind) (a b : Int) : max2A (.int k a) (.int k b) = some (.int k (max a b)) := by
  simp only [max2A, Option.some.injEq, Value.int.injEq, true_and]
  omega
@[simp] theorem min2A_int (k : IntKind) (a b : Int) : min2A (.int k a) (.int k b) = some (.int k (min a b)) := by
  simp only [min2A, Option.some.injEq, Value.int.injEq, true_and]
  omega
@[simp] theorem fldA_one (off s : Nat) (cs : Array Value) : fldA false off s (.agg cs) = cs[off]? := rfl
@[simp] theorem fldA_agg (off s : Nat) (cs : Array Value) : fldA true off s (.agg cs) = some (.agg (cs.extract off (off + s))) := rfl
theorem zerosL_single (v : Value) (n : Nat) : zerosL [v] n = List.replicate n v := by
  unfold zerosL
  induction n with
  | zero => rfl
  | succ n ih => rw [List.replicate_succ, List.flatten_cons, ih, List.replicate_succ]; rfl
@[simp] theorem zerosL_one (z : List Value) : zerosL z 1 = z := by simp [zerosL]
@[simp] theorem strA_add (x y : ByteArray) (hs : x.size + y.size ≤ 9223372036854775807) : binA .add (.string x) (.string y) = some (.string (x ++ y)) := by simp [binA, strA, hs]
theorem toList_eq {x y : ByteArray} : x.toList = y.toList ↔ x = y := by
  constructor
  · intro e
    have h1 : x.data.toList = y.data.toList := by simpa [ByteArray.toList_eq] using e
    cases x; cases y
    simp at h1
    rw [h1]
  · rintro rfl; rfl
end Go.Proofs.Ytiakadkooclelaa.Ah
