/- The words' soundness, continued. -/
import Derived.Test.YtiakadkooclelaaAh7
set_option linter.unusedVariables false
set_option linter.unusedSimpArgs false
namespace Go.Proofs.Ytiakadkooclelaa.Ah
open Go

section
variable {P : Program} {w0 : World} {ι : Inj} {h : Hp} {w : World} {K : Kont}

theorem equal_bool {T : TypeId} (hT : P.underlying T = some .bool) (a b : Bool) (w : World) : (Op.equal T (.bool a) (.bool b)).run P w = .ok (a == b) w := by
  have key : ∀ d, (Op.equalIn (d + 1) T (.bool a) (.bool b)).run P w = .ok (a == b) w := fun d => by simp [Op.equalIn, run_und hT]
  exact key 9999
theorem equal_ptr {T e : TypeId} (hT : P.underlying T = some (.pointer e)) (b : Option Addr) (w : World) : (Op.equal T (.pointer none) (.pointer b)).run P w = .ok b.isNone w := by
  have key : ∀ d, (Op.equalIn (d + 1) T (.pointer none) (.pointer b)).run P w = .ok b.isNone w := fun d => by simp [Op.equalIn, run_und hT]
  exact key 9999
theorem equal_ptr' {T e : TypeId} (hT : P.underlying T = some (.pointer e)) (a : Addr) (w : World) : (Op.equal T (.pointer (some a)) (.pointer none)).run P w = .ok false w := by
  have key : ∀ d, (Op.equalIn (d + 1) T (.pointer (some a)) (.pointer none)).run P w = .ok false w := fun d => by simp [Op.equalIn, run_und hT]
  exact key 9999
theorem equal_sl {T e : TypeId} (hT : P.underlying T = some (.slice e)) (b : Option Addr) (n c : Nat) (w : World) : (Op.equal T (.slice none 0 0) (.slice b n c)).run P w = .ok b.isNone w := by
  have key : ∀ d, (Op.equalIn (d + 1) T (.slice none 0 0) (.slice b n c)).run P w = .ok b.isNone w := fun d => by simp [Op.equalIn, run_und hT]
  exact key 9999
theorem equal_sl' {T e : TypeId} (hT : P.underlying T = some (.slice e)) (a : Addr) (n c : Nat) (w : World) : (Op.equal T (.slice (some a) n c) (.slice none 0 0)).run P w = .ok false w := by
  have key : ∀ d, (Op.equalIn (d + 1) T (.slice (some a) n c) (.slice none 0 0)).run P w = .ok false w := fun d => by simp [Op.equalIn, run_und hT]
  exact key 9999
theorem equal_fn {T : TypeId} {ps rs : Array TypeId} {b : Bool} (hT : P.underlying T = some (.func ps rs b)) (w : World) : (Op.equal T .nilFunc .nilFunc).run P w = .ok true w := by
  have key : ∀ d, (Op.equalIn (d + 1) T .nilFunc .nilFunc).run P w = .ok true w := fun d => by simp [Op.equalIn, run_und hT]
  exact key 9999
theorem equal_fn1 {T : TypeId} {ps rs : Array TypeId} {b : Bool} (hT : P.underlying T = some (.func ps rs b)) (p : Fn) (q r : Array Value) (w : World) : (Op.equal T .nilFunc (.func p q r)).run P w = .ok false w := by
  have key : ∀ d, (Op.equalIn (d + 1) T .nilFunc (.func p q r)).run P w = .ok false w := fun d => by simp [Op.equalIn, run_und hT]
  exact key 9999
theorem equal_fn2 {T : TypeId} {ps rs : Array TypeId} {b : Bool} (hT : P.underlying T = some (.func ps rs b)) (p : Fn) (q r : Array Value) (w : World) : (Op.equal T (.func p q r) .nilFunc).run P w = .ok false w := by
  have key : ∀ d, (Op.equalIn (d + 1) T (.func p q r) .nilFunc).run P w = .ok false w := fun d => by simp [Op.equalIn, run_und hT]
  exact key 9999

theorem eqNeq_run {op : BinOp} {T : TypeId} {x y v : Value} {b : Bool} (hv : eqNeq op b = some v) (hx : ∀ k n, x ≠ .int k n) (hs : ∀ s, x ≠ .string s) (hf : ∀ k n, x ≠ .float k n) (hc : ∀ k a b, x ≠ .complex k a b)
    (he : ∀ w, (Op.equal T x y).run P w = .ok b w) : (binOp op T x y).run P w = .ok v w ∧ flat v = true := by
  cases op <;> simp only [eqNeq, reduceCtorEq, Option.some.injEq] at hv
  · subst hv
    refine ⟨?_, rfl⟩
    cases x <;> first | exact absurd rfl (hx _ _) | exact absurd rfl (hs _) | exact absurd rfl (hf _ _) | exact absurd rfl (hc _ _ _) | (simp only [binOp, Sem.run_bind, he, Result.andThen_ok, Sem.run_pure])
  · subst hv
    refine ⟨?_, rfl⟩
    cases x <;> first | exact absurd rfl (hx _ _) | exact absurd rfl (hs _) | exact absurd rfl (hf _ _) | exact absurd rfl (hc _ _ _) | (simp only [binOp, Sem.run_bind, he, Result.andThen_ok, Sem.run_pure])

theorem binBoolA_run {op : BinOp} {T : TypeId} {x y v : Value} (hT : P.underlying T = some .bool) (hv : binBoolA op x y = some v) : flat x = true ∧ flat y = true ∧ (binOp op T x y).run P w = .ok v w ∧ flat v = true := by
  unfold binBoolA at hv
  split at hv
  · rename_i a b
    refine ⟨rfl, rfl, eqNeq_run (b := a == b) hv (by simp) (by simp) (by simp) (by simp) (equal_bool hT a b)⟩
  · simp at hv

theorem binPtrA_run {op : BinOp} {T e : TypeId} {x y x' y' v : Value} (hT : P.underlying T = some (.pointer e)) (hx : x ≠ junk → VRel w0.heap.size h.next ι x x') (hy : y ≠ junk → VRel w0.heap.size h.next ι y y') (hv : binPtrA op x y = some v) :
    (binOp op T x' y').run P w = .ok v w ∧ flat v = true ∧ ∃ a, x' = .pointer a := by
  unfold binPtrA at hv
  split at hv
  · rename_i b
    have hx := hx (by simp [junk])
    have hy := hy (by simp [junk])
    cases hx
    have : ∃ b', y' = .pointer b' ∧ b'.isNone = b.isNone := by cases hy <;> exact ⟨_, rfl, rfl⟩
    obtain ⟨b', rfl, hb⟩ := this
    rw [← hb] at hv
    have := eqNeq_run (P := P) (w := w) (T := T) (x := .pointer none) (y := .pointer b') hv (by simp) (by simp) (by simp) (by simp) (equal_ptr hT b')
    exact ⟨this.1, this.2, _, rfl⟩
  · rename_i a
    have hx := hx (by simp [junk])
    have hy := hy (by simp [junk])
    cases hy
    obtain ⟨a', rfl⟩ := PRel.of hx
    have := eqNeq_run (P := P) (w := w) (T := T) (x := .pointer (some a')) (y := .pointer none) hv (by simp) (by simp) (by simp) (by simp) (equal_ptr' hT a')
    exact ⟨this.1, this.2, _, rfl⟩
  · simp at hv

theorem binSlA_run {op : BinOp} {T e : TypeId} {x y x' y' v : Value} (hT : P.underlying T = some (.slice e)) (hx : x ≠ junk → VRel w0.heap.size h.next ι x x') (hy : y ≠ junk → VRel w0.heap.size h.next ι y y') (hv : binSlA op x y = some v) :
    (binOp op T x' y').run P w = .ok v w ∧ flat v = true ∧ ∃ a n c, x' = .slice a n c := by
  unfold binSlA at hv
  split at hv
  · rename_i n c b n' c'
    have hx := hx (by simp [junk])
    have hy := hy (by simp [junk])
    have hx' : x' = .slice none 0 0 := by cases hx; rfl
    subst hx'
    have : ∃ b' q q', y' = .slice b' q q' ∧ b'.isNone = b.isNone := by cases hy <;> exact ⟨_, _, _, rfl, rfl⟩
    obtain ⟨b', q, q', rfl, hb⟩ := this
    rw [← hb] at hv
    have := eqNeq_run (P := P) (w := w) (T := T) (x := .slice none 0 0) (y := .slice b' q q') hv (by simp) (by simp) (by simp) (by simp) (equal_sl hT b' q q')
    exact ⟨this.1, this.2, _, _, _, rfl⟩
  · rename_i a n c n' c'
    have hx := hx (by simp [junk])
    have hy := hy (by simp [junk])
    have hy' : y' = .slice none 0 0 := by cases hy; rfl
    subst hy'
    have : ∃ a' q q', x' = .slice (some a') q q' := by cases hx <;> exact ⟨_, _, _, rfl⟩
    obtain ⟨a', q, q', rfl⟩ := this
    have := eqNeq_run (P := P) (w := w) (T := T) (x := .slice (some a') q q') (y := .slice none 0 0) hv (by simp) (by simp) (by simp) (by simp) (equal_sl' hT a' q q')
    exact ⟨this.1, this.2, _, _, _, rfl⟩
  · simp at hv

theorem binFnA_run {op : BinOp} {T : TypeId} {ps rs : Array TypeId} {b : Bool} {x y x' y' v : Value} (hT : P.underlying T = some (.func ps rs b)) (hx : x ≠ junk → VRel w0.heap.size h.next ι x x') (hy : y ≠ junk → VRel w0.heap.size h.next ι y y') (hv : binFnA op x y = some v) :
    (binOp op T x' y').run P w = .ok v w ∧ flat v = true ∧ ((∃ a b c, x' = .func a b c) ∨ x' = .nilFunc) := by
  unfold binFnA at hv
  split at hv
  · have hx := hx (by simp [junk])
    have hy := hy (by simp [junk])
    cases hx; cases hy
    have := eqNeq_run (P := P) (w := w) (T := T) (x := .nilFunc) (y := .nilFunc) hv (by simp) (by simp) (by simp) (by simp) (equal_fn hT)
    exact ⟨this.1, this.2, .inr rfl⟩
  · have hx := hx (by simp [junk])
    have hy := hy (by simp [junk])
    cases hx
    have : ∃ p q r, y' = .func p q r := by cases hy <;> exact ⟨_, _, _, rfl⟩
    obtain ⟨p, q, r, rfl⟩ := this
    have := eqNeq_run (P := P) (w := w) (T := T) (x := .nilFunc) (y := .func p q r) hv (by simp) (by simp) (by simp) (by simp) (equal_fn1 hT p q r)
    exact ⟨this.1, this.2, .inr rfl⟩
  · have hx := hx (by simp [junk])
    have hy := hy (by simp [junk])
    cases hy
    have : ∃ p q r, x' = .func p q r := by cases hx <;> exact ⟨_, _, _, rfl⟩
    obtain ⟨p, q, r, rfl⟩ := this
    have := eqNeq_run (P := P) (w := w) (T := T) (x := .func p q r) (y := .nilFunc) hv (by simp) (by simp) (by simp) (by simp) (equal_fn2 hT p q r)
    exact ⟨this.1, this.2, .inl ⟨_, _, _, rfl⟩⟩
  · simp at hv

theorem unA_run {op : UnOp} {x v : Value} (hv : unA op x = some v) : flat x = true ∧ (Op.unary op x).run P w = .ok v w ∧ flat v = true := by
  unfold unA at hv
  split at hv
  · cases hv; exact ⟨rfl, rfl, rfl⟩
  · cases hv; exact ⟨rfl, rfl, rfl⟩
  · cases hv; exact ⟨rfl, rfl, rfl⟩
  · simp at hv

theorem convA_run {src dst : TypeId} {k k0 : IntKind} {x v : Value} (hs : P.underlying src = some (.int k0)) (hd : P.underlying dst = some (.int k)) (hv : convA k x = some v) :
    flat x = true ∧ (convert src dst x).run P w = .ok v w ∧ flat v = true := by
  unfold convA at hv
  split at hv
  · cases hv
    exact ⟨rfl, by simp [convert, run_und hs, run_und hd, Conv.intToInt], rfl⟩
  · simp at hv

theorem strOf_run {src dst : TypeId} {x v : Value} (hs : P.underlying src = some .string) (hd : P.underlying dst = some .string) (hv : strOf x = some v) :
    flat x = true ∧ (convert src dst x).run P w = .ok v w ∧ flat v = true := by
  unfold strOf at hv
  split at hv
  · cases hv
    exact ⟨rfl, by simp [convert, run_und hs, run_und hd], rfl⟩
  · simp at hv

theorem b2s_push (ns : List Int) : ∀ (s : ByteArray), (ns.foldl (fun (s : ByteArray) q => s.push (UInt8.ofNat q.toNat)) s) = ⟨s.data ++ (ns.map fun q : Int => UInt8.ofNat q.toNat).toArray⟩ := by
  induction ns with
  | nil => intro s; simp
  | cons q t ih =>
    intro s
    rw [List.foldl_cons, ih]
    simp [ByteArray.push]

theorem b2sA_sound {src dst e : TypeId} {x x' : Value} (hs : P.underlying src = some (.slice e)) (he : P.underlying e = some (.int .u8)) (hd : P.underlying dst = some .string) (r : HRel w0 ι h w)
    (hx : x ≠ junk → VRel w0.heap.size h.next ι x x') (hv : b2sA w0 x K h) : ValOut w0 ι h K ((convert src dst x').run P w) := by
  obtain ⟨a, n, c, ys, rfl, hsrc, hk⟩ := hv
  have hx := hx (by simp [junk])
  obtain ⟨ys', hrun, hyr, hyl, _⟩ := r.src (P := P) hsrc hx
  have hys' : ys' = ys.map fun q : Int => Value.int .u8 q := by
    apply List.ext_getElem?
    intro i
    by_cases hi : i < ys.length
    · obtain ⟨v', hv', hr⟩ := hyr.get (i := i) (v := .int .u8 ys[i]) (by simp [hi])
      rw [hv', hr.int_inv]
      simp [hi]
    · rw [List.getElem?_eq_none (by rw [← hyr.1]; simp; omega), List.getElem?_eq_none (by simp; omega)]
  subst hys'
  have hlen : ys.length = n := by simpa using hyl
  have goal : (convert src dst x').run P w = .ok (.string ⟨(ys.map fun q : Int => UInt8.ofNat q.toNat).toArray⟩) w := by
    rcases hx.slice_inv with ⟨rfl, rfl, rfl, rfl⟩ | ⟨ad, a', c', rfl, rfl, _⟩
    · obtain rfl : ys = [] := List.eq_nil_of_length_eq_zero hlen
      simp [convert, run_und hs, run_und he, run_und hd, Conv.bytesToString]
      rfl
    · have hl := hrun w rfl
      simp only [Builtin.firstCells, Nat.mul_one] at hl
      rw [run_convert_bytes_string w src dst e (some a') n c' hs he hd, run_bytesToString (P := P) w a' n c' ys hl, b2s_push]
      simp
  rw [goal]
  exact .mk r (.string _) hk
end
end Go.Proofs.Ytiakadkooclelaa.Ah
