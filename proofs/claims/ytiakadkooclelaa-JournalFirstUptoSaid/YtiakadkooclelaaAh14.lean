/- Regions that draw their order: one walk over the effects' orders serves for all orders. -/
import Derived.Test.YtiakadkooclelaaAh13
import Derived.OrdersIn
set_option linter.unusedVariables false
set_option linter.unusedSimpArgs false
namespace Go.Proofs.Ytiakadkooclelaa.Ah
open Go

def isPure (P : Program) (o : Oper) : Bool :=
  match o.op with
  | .move _ => true
  | .assign _ => true
  | .pick _ _ _ => true
  | .nilCheck _ => true
  | .binOp _ _ _ _ _ => true
  | .unOp _ _ _ => true
  | .convert src dst _ =>
    match P.underlying src, P.underlying dst with
    | some (.int _), _ => true
    | some .string, some .string => true
    | _, _ => false
  | .makeFunc _ _ _ => true
  | .slice T _ _ _ _ => match P.underlying T with | some .string => true | some (.array _ _) => true | _ => false
  | .fieldAddr _ _ _ => true
  | .field _ _ _ => true
  | .indexAddr _ _ _ => true
  | .index _ _ _ => true
  | .extract _ _ => true
  | .call c => match c.callee with | .builtin .len => true | .builtin .max => true | .builtin .min => true | _ => false
  | _ => false
def isRead (P : Program) (o : Oper) : Bool :=
  match o.op with
  | .load _ _ => true
  | .slice T _ _ _ _ => match P.underlying T with | some (.slice _) => true | _ => false
  | .convert src dst _ =>
    match P.underlying src, P.underlying dst with
    | some (.slice _), some .string => true
    | _, _ => false
  | _ => false
def isQuiet (P : Program) (o : Oper) : Bool := isPure P o || isRead P o

def tmpsOf (l : List Operand) : List Nat := l.filterMap fun | .tmp t => some t | _ => none
def opdsOf : Op → List Operand
  | .move x => [x]
  | .assign x => [x]
  | .pick a b c => [a, b, c]
  | .box _ x => [x]
  | .build _ ps => ps.toList.map (·.2)
  | .buildSlice _ _ ps => ps.toList.map (·.2)
  | .load _ x => [x]
  | .store _ x y => [x, y]
  | .nilCheck x => [x]
  | .binOp _ _ x y _ => [x, y]
  | .unOp _ _ x => [x]
  | .convert _ _ x => [x]
  | .makeFunc _ a b => a.toList ++ b.toList
  | .makeSlice _ x y => [x, y]
  | .slice _ x a b c => x :: (a.toList ++ b.toList ++ c.toList)
  | .fieldAddr _ x _ => [x]
  | .field _ x _ => [x]
  | .indexAddr _ x y => [x, y]
  | .index _ x y => [x, y]
  | .extract x _ => [x]
  | .call c => (match c.callee with | .value f => [f] | _ => []) ++ c.args.toList
  | _ => []
def looks (all : List Oper) (o : Oper) : List Nat :=
  tmpsOf (opdsOf o.op) ++ (match o.guard with | some (j, _) => ((all[j]?).bind (·.dst)).toList | none => [])
def predsOf (o : Oper) : List Nat := (o.after.toList.filter fun e => Region.binds .any e).map (·.on)

def addNew (a b : List Nat) : List Nat := a.foldl (fun acc x => bif acc.contains x then acc else x :: acc) b
def ancsOf (all : List Oper) : List (List Nat) :=
  all.foldl (fun (acc : List (List Nat)) o => acc ++ [(predsOf o).foldl (fun s p => addNew (p :: acc.getD p []) s) []]) []

def distinct : List (Option Nat) → Bool
  | [] => true
  | none :: l => distinct l
  | some d :: l => !(l.contains (some d)) && distinct l

def checkD (all : List Oper) (an : List (List Nat)) : Bool :=
  distinct (all.map (·.dst)) &&
  (List.range all.length).all fun i =>
    match all[i]? with
    | some o =>
      (predsOf o).all (fun p => decide (p < i)) &&
      (an.getD i []).all (fun j => (predsOf o).contains j || (predsOf o).any fun p => (an.getD p []).contains j) &&
      (looks all o).all fun s => (List.range all.length).all fun j =>
        match all[j]? with
        | some oj => oj.dst != some s || (an.getD i []).contains j || (an.getD j []).contains i
        | none => true
    | none => false

noncomputable def stepD (P : Program) (w0 : World) (n : Nat) (all : List Oper) (o : Oper) (t : Fr) (K : Kont) (h : Hp) : Prop := vcStep P w0 n all o (scrub (looks all o) t) K h
def rdy (all : List Oper) (rem : List Nat) (i : Nat) : Bool :=
  match all[i]? with
  | some o => (predsOf o).all fun p => !(rem.contains p)
  | none => false
def quietAt (P : Program) (all : List Oper) (i : Nat) : Bool :=
  match all[i]? with
  | some o => isQuiet P o
  | none => false
def allP (l : List Nat) (p : Nat → Prop) : Prop := l.foldr (fun i q => p i ∧ q) True
def gOK (an : List Nat) (G : List (Nat × (Hp → Prop))) (h : Hp) : Prop := G.foldr (fun g q => bif an.contains g.1 then q else g.2 h ∧ q) True

def pureQ (m : Kont → Hp → Prop) (K : Kont) (h : Hp) : Prop := ∃ v, (∀ h0, m (fun v' h' => v' = v ∧ h' = h0) h0) ∧ K v h
def readQ (m : Kont → Hp → Prop) (K : Kont) (h : Hp) : Prop := ∃ v, m (fun v' h' => v' = v ∧ h' = h) h ∧ K v h

noncomputable def vcTree (P : Program) (w0 : World) (n : Nat) (all : List Oper) (an : List (List Nat)) : Nat → List Nat → Fr → List (Nat × (Hp → Prop)) → (Fr → Hp → Prop) → Hp → Prop
  | 0, rem, t, _, K, h => rem = [] ∧ K t h
  | f + 1, rem, t, G, K, h =>
    match rem.find? fun i => quietAt P all i && rdy all rem i with
    | some i =>
      match all[i]? with
      | some o =>
        bif isPure P o then pureQ (stepD P w0 n all o t) (fun v h' => vcTree P w0 n all an f (rem.erase i) (putA t o.dst v) G K h') h
        else readQ (stepD P w0 n all o t) (fun v h' => vcTree P w0 n all an f (rem.erase i) (putA t o.dst v) ((i, fun h0 => stepD P w0 n all o t (fun v' h'' => v' = v ∧ h'' = h0) h0) :: G) K h') h
      | none => False
    | none =>
      match rem.filter fun i => rdy all rem i with
      | [] => rem = [] ∧ K t h
      | x :: xs => allP (x :: xs) fun i =>
        match all[i]? with
        | some o => stepD P w0 n all o t (fun v h' => gOK (an.getD i []) G h' ∧ vcTree P w0 n all an f (rem.erase i) (putA t o.dst v) G K h') h
        | none => False

noncomputable def vcDraw (P : Program) (w0 : World) (n : Nat) (all : List Oper) (t : Fr) (K : Fr → Hp → Prop) (h : Hp) : Prop :=
  if checkD all (ancsOf all) = true then vcTree P w0 n all (ancsOf all) all.length (List.range all.length) t [] K h else False

section
variable {P : Program} {w0 : World}

theorem allP_mem {l : List Nat} {p : Nat → Prop} (h : allP l p) {i : Nat} (hi : i ∈ l) : p i := by
  induction l with
  | nil => simp at hi
  | cons a l ih =>
    simp only [allP, List.foldr_cons] at h
    rcases List.mem_cons.1 hi with rfl | hi
    · exact h.1
    · exact ih h.2 hi

theorem gOK_mem {an : List Nat} {G : List (Nat × (Hp → Prop))} {h : Hp} (hg : gOK an G h) {g : Nat × (Hp → Prop)} (hm : g ∈ G) (hn : g.1 ∉ an) : g.2 h := by
  induction G with
  | nil => simp at hm
  | cons a l ih =>
    simp only [gOK, List.foldr_cons] at hg
    rcases List.mem_cons.1 hm with rfl | hm
    · rw [show an.contains g.1 = false by simpa using hn] at hg
      exact hg.1
    · cases hc : an.contains a.1 <;> rw [hc] at hg
      · exact ih hg.2 hm
      · exact ih hg hm

structure Tbl (all : List Oper) (an : List (List Nat)) : Prop where
  dst : ∀ (i j : Nat) (oi oj : Oper) (d : Nat), all[i]? = some oi → all[j]? = some oj → oi.dst = some d → oj.dst = some d → i = j
  lt : ∀ (i : Nat) o, all[i]? = some o → ∀ p, p ∈ predsOf o → p < i
  anc : ∀ (i : Nat) o, all[i]? = some o → ∀ j, j ∈ an.getD i [] → j ∈ predsOf o ∨ ∃ p, p ∈ predsOf o ∧ j ∈ an.getD p []
  ssa : ∀ (i j : Nat) (oi oj : Oper) (s : Nat), all[i]? = some oi → all[j]? = some oj → s ∈ looks all oi → oj.dst = some s → j ∈ an.getD i [] ∨ i ∈ an.getD j []

theorem distinct_spec : ∀ (l : List (Option Nat)), distinct l = true → ∀ (i j d : Nat), l[i]? = some (some d) → l[j]? = some (some d) → i = j := by
  intro l
  induction l with
  | nil => intro _ i j d h; simp at h
  | cons x l ih =>
    intro h i j d hi hj
    have hl : distinct l = true := by
      cases x with
      | none => exact h
      | some x => simp only [distinct, Bool.and_eq_true] at h; exact h.2
    have hx : ∀ k : Nat, x = some d → l[k]? = some (some d) → False := fun k e hk => by
      subst e
      simp only [distinct, Bool.and_eq_true, Bool.not_eq_true'] at h
      have := List.mem_of_getElem? hk
      rw [← List.contains_iff_mem] at this
      rw [this] at h
      simp at h
    cases i with
    | zero =>
      cases j with
      | zero => rfl
      | succ j => simp at hi hj; exact (hx j hi hj).elim
    | succ i =>
      cases j with
      | zero => simp at hi hj; exact (hx i hj hi).elim
      | succ j => simp at hi hj; rw [ih hl i j d hi hj]

theorem tbl_of_check {all : List Oper} {an : List (List Nat)} (hc : checkD all an = true) : Tbl all an := by
  simp only [checkD, Bool.and_eq_true] at hc
  obtain ⟨hd, hc⟩ := hc
  have hi : ∀ (i : Nat) o, all[i]? = some o → ((predsOf o).all (fun p => decide (p < i)) = true ∧ (an.getD i []).all (fun j => (predsOf o).contains j || (predsOf o).any fun p => (an.getD p []).contains j) = true) ∧
      ((looks all o).all fun s => (List.range all.length).all fun j => match all[j]? with
        | some oj => oj.dst != some s || (an.getD i []).contains j || (an.getD j []).contains i
        | none => true) = true := by
    intro i o ho
    have hil : i < all.length := (List.getElem?_eq_some_iff.1 ho).1
    have := List.all_eq_true.1 hc i (List.mem_range.2 hil)
    rw [ho] at this
    simpa only [Bool.and_eq_true] using this
  refine ⟨fun i j oi oj d h1 h2 h3 h4 => distinct_spec _ hd i j d (by simp [h1, h3]) (by simp [h2, h4]), fun i o ho p hp => ?_, fun i o ho j hj => ?_, fun i j oi oj s h1 h2 h3 h4 => ?_⟩
  · simpa using List.all_eq_true.1 (hi i o ho).1.1 p hp
  · have := List.all_eq_true.1 (hi i o ho).1.2 j hj
    simp only [Bool.or_eq_true, List.contains_iff_mem, List.any_eq_true] at this
    exact this
  · have hj : j < all.length := (List.getElem?_eq_some_iff.1 h2).1
    have := List.all_eq_true.1 (List.all_eq_true.1 (hi i oi h1).2 s h3) j (List.mem_range.2 hj)
    rw [h2] at this
    simp only [Bool.or_eq_true, List.contains_iff_mem, bne_iff_ne, ne_eq] at this
    rcases this with (h | h) | h
    · exact absurd h4 h
    · exact .inl h
    · exact .inr h

theorem scrub_not {keep : List Nat} {t : Fr} {i : Nat} (h : i ∉ keep) : scrub keep t i = junk := by
  unfold scrub
  induction keep with
  | nil => rfl
  | cons k r ih =>
    simp only [List.map_cons, mkFr, upd]
    rw [if_neg (fun e => h (by simp [e]))]
    exact ih (fun hm => h (by simp [hm]))

structure Late where
  i : Nat
  t : Fr
  v : Value

structure Inv (P : Program) (w0 : World) (n : Nat) (all : List Oper) (an : List (List Nat)) (listed : Array Bool) (rem : List Nat) (R : List Late) (t : Fr) (G : List (Nat × (Hp → Prop))) (ι : Inj) (h : Hp) (a : Act) (w : World) : Prop where
  size : listed.size = all.length
  un : ∀ i, i < all.length → (listed.getD i true = false ↔ (i ∈ rem ∨ ∃ x, x ∈ R ∧ x.i = i))
  nodup : rem.Nodup
  lt : ∀ i, i ∈ rem → i < all.length
  apart : ∀ x, x ∈ R → x.i ∉ rem
  one : R.Pairwise fun x y => x.i ≠ y.i
  down : ∀ i, i < all.length → listed.getD i true = true → ∀ j, j ∈ an.getD i [] → listed.getD j true = true
  gdown : ∀ i, i < all.length → i ∉ rem → ∀ j, j ∈ an.getD i [] → j ∉ rem
  rel : HRel w0 ι h w
  sz : a.tmps.size = n
  fr : ∀ s, s < n → (∀ x, x ∈ R → ∀ o, all[x.i]? = some o → o.dst ≠ some s) → t s ≠ junk → VRel w0.heap.size h.next ι (t s) (a.tmps.getD s undef)
  late : ∀ x, x ∈ R → ∃ o, all[x.i]? = some o ∧ stepD P w0 n all o x.t (fun v' h' => v' = x.v ∧ h' = h) h ∧
    ((∀ h0, stepD P w0 n all o x.t (fun v' h' => v' = x.v ∧ h' = h0) h0) ∨ (x.i, fun h0 => stepD P w0 n all o x.t (fun v' h'' => v' = x.v ∧ h'' = h0) h0) ∈ G) ∧
    (∀ d, o.dst = some d → t d = x.v) ∧
    (∀ s, s < n → s ∈ looks all o → (∀ j oj, j ∈ an.getD x.i [] → all[j]? = some oj → oj.dst = some s → listed.getD j true = true) → x.t s ≠ junk → VRel w0.heap.size h.next ι (x.t s) (a.tmps.getD s undef)) ∧
    (∀ y, y ∈ R → ∀ oy s, all[y.i]? = some oy → oy.dst = some s → y.i ∈ an.getD x.i [] → s ∈ looks all o → x.t s = y.v)

theorem put_getD (a : Act) (d : Option Nat) (v : Value) (s : Nat) (hs : s < a.tmps.size) : (a.put d v).tmps.getD s undef = if d = some s then v else a.tmps.getD s undef := by
  cases d with
  | none => simp [Act.put]
  | some d =>
    simp only [Act.put, Array.getD_eq_getD_getElem?, Array.getElem?_setIfInBounds]
    by_cases e : d = s
    · subst e
      rw [if_pos rfl, if_pos hs, if_pos rfl]; rfl
    · rw [if_neg e, if_neg (by simpa using e)]

theorem putA_get (t : Fr) (d : Option Nat) (v : Value) (s : Nat) : putA t d v s = if d = some s then v else t s := by
  cases d with
  | none => simp [putA]
  | some d =>
    simp only [putA, upd]
    by_cases e : d = s
    · rw [if_pos e.symm, if_pos (by rw [e])]
    · rw [if_neg (fun h => e h.symm), if_neg (by simpa using e)]
end
end Go.Proofs.Ytiakadkooclelaa.Ah
