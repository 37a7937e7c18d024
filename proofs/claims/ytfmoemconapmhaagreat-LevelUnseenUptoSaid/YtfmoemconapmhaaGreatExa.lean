/- seq: texts in order; where a key stands in a list. -/
import Derived.Test.YtfmoemconapmhaaGreatAh30
import Derived.Test.YtfmoemconapmhaaGreatKxa
import Derived.Test.YtfmoemconapmhaaGreatKxb
set_option linter.unusedVariables false
set_option linter.unusedSimpArgs false
set_option linter.constructorNameAsVariable false
namespace Go.Proofs.YtfmoemconapmhaaGreat.Ah
open Go
abbrev Key := List UInt8
def blt (a b : Key) : Bool := Op.bytesLess a b
theorem q0y : ∀ a : Key, blt a a = false := by
 intro a
 induction a with
 | nil => rfl
 | cons x a ih => unfold blt at ih ⊢; simp [Op.bytesLess, ih]
theorem q1n : ∀ {a b c : Key}, blt a b = true → blt b c = true → blt a c = true := by
 intro a
 induction a with
 | nil =>
  intro b c h1 h2
  cases c with
  | nil => cases b <;> simp [blt, Op.bytesLess] at h2
  | cons z c => rfl
 | cons x a ih =>
  intro b c h1 h2
  cases b with
  | nil => simp [blt, Op.bytesLess] at h1
  | cons y b =>
   cases c with
   | nil => simp [blt, Op.bytesLess] at h2
   | cons z c =>
    simp only [blt, Op.bytesLess, Bool.or_eq_true, Bool.and_eq_true, decide_eq_true_eq, beq_iff_eq] at h1 h2 ⊢
    rcases h1 with h1 | ⟨rfl, h1⟩
    ·rcases h2 with h2 | ⟨rfl, h2⟩
     ·left; exact UInt8.lt_trans h1 h2
     ·left; exact h1
    ·rcases h2 with h2 | ⟨rfl, h2⟩
     ·left; exact h2
     ·right; exact ⟨rfl, ih h1 h2⟩
theorem qsp : ∀ {a b : Key}, blt a b = false → blt b a = false → a = b := by
 intro a
 induction a with
 | nil =>
  intro b h1 h2
  cases b with
  | nil => rfl
  | cons y b => simp [blt, Op.bytesLess] at h1
 | cons x a ih =>
  intro b h1 h2
  cases b with
  | nil => simp [blt, Op.bytesLess] at h2
  | cons y b =>
   simp only [blt, Op.bytesLess, Bool.or_eq_false_iff, Bool.and_eq_false_iff, decide_eq_false_iff_not, beq_eq_false_iff_ne] at h1 h2
   have hxy : x = y := by
    have a1 : ¬ x.toNat < y.toNat := fun q => h1.1 (UInt8.lt_iff_toNat_lt.2 q)
    have a2 : ¬ y.toNat < x.toNat := fun q => h2.1 (UInt8.lt_iff_toNat_lt.2 q)
    exact UInt8.toNat_inj.1 (by omega)
   subst hxy
   have b1 : blt a b = false := by
    rcases h1.2 with q | q
    ·exact absurd rfl q
    ·exact q
   have b2 : blt b a = false := by
    rcases h2.2 with q | q
    ·exact absurd rfl q
    ·exact q
   rw [ih b1 b2]
theorem qbp {a b : Key} (h : blt a b = true) : blt b a = false := by
 cases e : blt b a with
 | false => rfl
 | true => have := q1n h e; rw [q0y] at this; cases this
theorem q0s {a b : Key} (h : blt a b = true) : a ≠ b := by
 rintro rfl
 rw [q0y] at h
 cases h
theorem q5n {a b : Key} (h : blt a b = false) : a = b ∨ blt b a = true := by
 cases e : blt b a with
 | false => exact .inl (qsp h e)
 | true => exact .inr rfl
/-! ### The program's comparisons -/
theorem qtr (a b : Key) : binA .lss (.string (str a)) (.string (str b)) = some (.bool (blt a b)) := by simp [binA, strA, blt]
theorem qip (a b : Key) : binA .geq (.string (str a)) (.string (str b)) = some (.bool (!blt a b)) := by simp [binA, strA, blt]
theorem qto (a b : Key) : binA .gtr (.string (str a)) (.string (str b)) = some (.bool (blt b a)) := by
 simp only [binA, strA, qgn]
 congr 2
 show (!(blt a b || a == b)) = blt b a
 cases e : blt a b with
 | true => rw [qbp e]; rfl
 | false =>
  by_cases h : a = b
  ·subst h; rw [q0y]; simp
  ·rcases q5n e with q | q
   ·exact absurd q h
   ·rw [q]; simp [h]
theorem qcn (a b : Key) : binA .eql (.string (str a)) (.string (str b)) = some (.bool (decide (a = b))) := by
 simp only [binA, strA, qgn]
 congr 2
 by_cases h : a = b <;> simp [h]
theorem q5o (a b : Key) : binA .neq (.string (str a)) (.string (str b)) = some (.bool (decide (a ≠ b))) := by
 simp only [binA, strA, qgn]
 congr 2
 by_cases h : a = b <;> simp [h]
theorem qhc : (ByteArray.empty : ByteArray) = str [] := rfl
/-! ### Lists in order -/
section
variable {V : Type}
def Srt (l : List (Key × V)) : Prop := l.Pairwise fun x y => blt x.1 y.1 = true
def findK : List (Key × V) → Key → Nat
 | [], _ => 0
 | x :: l, k => if blt x.1 k = true then findK l k + 1 else 0
def isAt (l : List (Key × V)) (k : Key) (i : Nat) : Bool :=
 match l[i]? with
 | some x => decide (x.1 = k)
 | none => false
def hasK (l : List (Key × V)) (k : Key) : Bool := isAt l k (findK l k)
theorem q5g : ∀ (l : List (Key × V)) (k : Key), findK l k ≤ l.length
 | [], _ => Nat.le_refl _
 | x :: l, k => by
  rw [findK]
  split
  ·have := q5g l k; simp; omega
  ·omega
theorem q7u : ∀ (l : List (Key × V)) (k : Key) (i : Nat) x, i < findK l k → l[i]? = some x → blt x.1 k = true
 | [], _, _, _, h, _ => by simp [findK] at h
 | y :: l, k, i, x, h, hx => by
  rw [findK] at h
  split at h
  ·rename_i e
   cases i with
   | zero => simp at hx; subst hx; exact e
   | succ i => exact q7u l k i x (by omega) (by simpa using hx)
  ·omega
theorem q86 : ∀ (l : List (Key × V)) (k : Key) x, l[findK l k]? = some x → blt x.1 k = false
 | [], _, _, h => by simp at h
 | y :: l, k, x, h => by
  rw [findK] at h
  split at h
  ·exact q86 l k x (by simpa using h)
  ·rename_i e
   simp at h
   subst h
   simpa using e
theorem qpp {l : List (Key × V)} {k : Key} {r : Nat} (h1 : r ≤ l.length) (h2 : ∀ i x, i < r → l[i]? = some x → blt x.1 k = true) (h3 : ∀ x, l[r]? = some x → blt x.1 k = false) : findK l k = r := by
 rcases Nat.lt_trichotomy (findK l k) r with h | h | h
 ·have hl : findK l k < l.length := by omega
  have := h2 (findK l k) l[findK l k] h (List.getElem?_eq_getElem hl)
  rw [q86 l k _ (List.getElem?_eq_getElem hl)] at this
  cases this
 ·exact h
 ·have hl : r < l.length := by have := q5g l k; omega
  have := q7u l k r l[r] h (List.getElem?_eq_getElem hl)
  rw [h3 _ (List.getElem?_eq_getElem hl)] at this
  cases this
theorem Srt.above {l : List (Key × V)} (s : Srt l) {k : Key} {i : Nat} {x : Key × V} (hi : findK l k ≤ i) (hx : l[i]? = some x) : blt x.1 k = false := by
 have hil := (List.getElem?_eq_some_iff.1 hx).1
 rcases Nat.lt_or_eq_of_le hi with h | h
 ·have hl : findK l k < l.length := by omega
  have e1 := q86 l k _ (List.getElem?_eq_getElem hl)
  have e2 := List.pairwise_iff_getElem.1 s (findK l k) i hl hil h
  have e3 : l[i] = x := (List.getElem?_eq_some_iff.1 hx).2
  rw [e3] at e2
  cases e : blt x.1 k with
  | false => rfl
  | true =>
   have := q1n e2 e
   rw [e1] at this
   cases this
 ·subst h
  exact q86 l k _ hx
def bsK (l : List (Key × V)) (k : Key) : Nat → Nat → Nat → Nat
 | 0, i, _ => i
 | m + 1, i, j => if i < j then
   match l[(i + j) / 2]? with
   | some x => if blt x.1 k = true then bsK l k m ((i + j) / 2 + 1) j else bsK l k m i ((i + j) / 2)
   | none => i
  else i
theorem q82 (l : List (Key × V)) (k : Key) : ∀ (m i j : Nat), i ≤ j → j ≤ l.length → i ≤ bsK l k m i j ∧ bsK l k m i j ≤ j
 | 0, i, j, h, _ => ⟨Nat.le_refl _, h⟩
 | m + 1, i, j, h, hj => by
  rw [bsK]
  by_cases hij : i < j
  ·rw [if_pos hij, List.getElem?_eq_getElem (by omega)]
   simp only
   split
   ·have := q82 l k m ((i + j) / 2 + 1) j (by omega) hj
    omega
   ·have := q82 l k m i ((i + j) / 2) (by omega) (by omega)
    omega
  ·rw [if_neg hij]
   omega
theorem qhg {l : List (Key × V)} (s : Srt l) (k : Key) : ∀ (m i j : Nat), i ≤ j → j ≤ l.length → j - i ≤ m → i ≤ findK l k → findK l k ≤ j → bsK l k m i j = findK l k
 | 0, i, j, h, _, hm, h1, h2 => by rw [bsK]; omega
 | m + 1, i, j, h, hj, hm, h1, h2 => by
  rw [bsK]
  by_cases hij : i < j
  ·rw [if_pos hij, List.getElem?_eq_getElem (by omega)]
   simp only
   split
   ·rename_i e
    refine qhg s k m _ _ (by omega) hj (by omega) ?_ h2
    rcases Nat.lt_or_ge ((i + j) / 2) (findK l k) with q | q
    ·exact q
    ·rw [s.above q (List.getElem?_eq_getElem (by omega))] at e
     cases e
   ·rename_i e
    refine qhg s k m _ _ (by omega) (by omega) (by omega) h1 ?_
    rcases Nat.lt_or_ge ((i + j) / 2) (findK l k) with q | q
    ·exact absurd (q7u l k _ _ q (List.getElem?_eq_getElem (by omega))) e
    ·exact q
  ·rw [if_neg hij]
   omega
theorem qsg {l : List (Key × V)} (s : Srt l) (k : Key) : bsK l k l.length 0 l.length = findK l k :=
 qhg s k _ _ _ (Nat.zero_le _) (Nat.le_refl _) (by omega) (Nat.zero_le _) (q5g l k)
end
structure Ent where
 k : Key
 v : Key
 g : Bool
 deriving DecidableEq
def rightE (x : Ent) : Bool := decide (1 ≤ x.k.length) && decide (x.k.length ≤ 64) && decide (x.v.length ≤ 64) && !(x.g && decide (x.v ≠ []))
theorem q1m (x : Ent) : rightE x = true ↔ 1 ≤ x.k.length ∧ x.k.length ≤ 64 ∧ x.v.length ≤ 64 ∧ (x.g = true → x.v = []) := by
 unfold rightE
 cases x.g <;> simp [and_assoc]
def aftr (p : Option Key) (k : Key) : Bool := match p with | none => true | some q => blt q k
def chkF : Option Key → List Ent → Bool
 | _, [] => true
 | p, x :: l => rightE x && aftr p x.k && chkF (some x.k) l
theorem qi2 (p : Option Key) (x : Ent) (l : List Ent) : chkF p (x :: l) = (rightE x && aftr p x.k && chkF (some x.k) l) := by cases p <;> rfl
def chkE (l : List Ent) : Bool := chkF none l
theorem qqh {p : Option Key} {x : Ent} {l : List Ent} (h : chkF p (x :: l) = true) : rightE x = true ∧ (∀ k, p = some k → blt k x.k = true) ∧ chkF (some x.k) l = true := by
 rw [qi2, Bool.and_eq_true, Bool.and_eq_true] at h
 obtain ⟨⟨a, b⟩, c⟩ := h
 exact ⟨a, fun k hk => by subst hk; exact b, c⟩
theorem qbf : ∀ {l : List Ent} {p : Option Key}, chkF p l = true → ∀ x, x ∈ l → rightE x = true
 | y :: l, p, h, x, hx => by
  obtain ⟨a, -, c⟩ := qqh h
  rcases List.mem_cons.1 hx with rfl | hx
  ·exact a
  ·exact qbf c x hx
theorem q85 : ∀ {l : List Ent} {p : Option Key}, chkF p l = true → l.Pairwise (fun x y => blt x.k y.k = true) ∧ ∀ k, p = some k → ∀ x, x ∈ l → blt k x.k = true
 | [], _, _ => ⟨.nil, by simp⟩
 | y :: l, p, h => by
  obtain ⟨a, b, c⟩ := qqh h
  obtain ⟨d, e⟩ := q85 c
  refine ⟨List.pairwise_cons.2 ⟨fun z hz => e _ rfl z hz, d⟩, fun k hk x hx => ?_⟩
  rcases List.mem_cons.1 hx with rfl | hx
  ·exact b k hk
  ·exact q1n (b k hk) (e _ rfl x hx)
theorem q07z {l : List Ent} : ∀ {p : Option Key}, (∀ x, x ∈ l → rightE x = true) → l.Pairwise (fun x y => blt x.k y.k = true) → (∀ k, p = some k → ∀ x, x ∈ l → blt k x.k = true) → chkF p l = true := by
 induction l with
 | nil => intros; rfl
 | cons y l ih =>
  intro p h1 h2 h3
  obtain ⟨d, e⟩ := List.pairwise_cons.1 h2
  rw [qi2, Bool.and_eq_true, Bool.and_eq_true]
  refine ⟨⟨h1 y (by simp), ?_⟩, ih (fun x hx => h1 x (by simp [hx])) e fun k hk x hx => by cases hk; exact d x hx⟩
  cases p with
  | none => rfl
  | some k => exact h3 k rfl y (by simp)
/-! ### An entry's bytes -/
def shd : Key → Key → Nat
 | a :: az, b :: bs => if a = b then shd az bs + 1 else 0
 | _, _ => 0
theorem qij : ∀ a b : Key, shd a b ≤ a.length ∧ shd a b ≤ b.length ∧ a.take (shd a b) = b.take (shd a b)
 | [], [] => by simp [shd]
 | [], _ :: _ => by simp [shd]
 | _ :: _, [] => by simp [shd]
 | a :: az, b :: bs => by
  rw [shd]
  obtain ⟨h1, h2, h3⟩ := qij az bs
  split
  ·rename_i e
   subst e
   simp [h3]
   omega
  ·simp
def goneB (g : Bool) : UInt8 := if g = true then 1 else 0
def eb (ahead : Key) (x : Ent) : List UInt8 := [UInt8.ofNat (shd ahead x.k), UInt8.ofNat (x.k.length - shd ahead x.k), goneB x.g, UInt8.ofNat x.v.length] ++ (x.k.drop (shd ahead x.k) ++ x.v)
theorem q4q (ahead : Key) (x : Ent) : (eb ahead x).length = 4 + (x.k.length - shd ahead x.k) + x.v.length := by simp [eb]; omega
def lastk (l : List Ent) : Key := match l.getLast? with | some x => x.k | none => []
theorem q03n (l : List Ent) (x : Ent) : lastk (l ++ [x]) = x.k := by simp [lastk]
def encL (ahead : Key) : List Ent → List UInt8
 | [] => []
 | x :: l => eb ahead x ++ encL x.k l
theorem qpa : ∀ (l m : List Ent) (a : Key), encL a (l ++ m) = encL a l ++ encL (match l.getLast? with | some x => x.k | none => a) m
 | [], m, a => rfl
 | x :: l, m, a => by
  rw [List.cons_append, encL, encL, qpa l m, List.append_assoc]
  congr 3
  cases l with
  | nil => simp
  | cons y l =>
   rw [List.getLast?_cons_cons]
   cases h : (y :: l).getLast? with
   | none => simp at h
   | some z => rfl
theorem q05n (l : List Ent) (x : Ent) : encL [] (l ++ [x]) = encL [] l ++ eb (lastk l) x := by
 rw [qpa, encL, encL, List.append_nil]
 rfl
theorem qhx {l : List Ent} (h : l ≠ []) (a : Key) : 0 < (encL a l).length := by
 cases l with
 | nil => exact absurd rfl h
 | cons x l => rw [encL, List.length_append, q4q]; omega
/-! ### Blocks -/
abbrev enc (l : List Ent) : List UInt8 := encL [] l
def gstep (block : Nat) (s : List (List Ent) × List Ent) (x : Ent) : List (List Ent) × List Ent :=
 if s.2 ≠ [] ∧ block < (enc s.2).length + (eb (lastk s.2) x).length then (s.1 ++ [s.2], [x]) else (s.1, s.2 ++ [x])
def gall (s : List (List Ent) × List Ent) : List (List Ent) := if s.2 = [] then s.1 else s.1 ++ [s.2]
def gfold (block : Nat) (l : List Ent) : List (List Ent) × List Ent := l.foldl (gstep block) ([], [])
def grp (block : Nat) (l : List Ent) : List (List Ent) := gall (gfold block l)
theorem q032 (block : Nat) (l : List Ent) (x : Ent) : gfold block (l ++ [x]) = gstep block (gfold block l) x := by simp [gfold]
theorem q02k (block : Nat) (s : List (List Ent) × List Ent) (x : Ent) : (gstep block s x).1.flatten ++ (gstep block s x).2 = s.1.flatten ++ s.2 ++ [x] := by
 unfold gstep
 split <;> simp
theorem qph (block : Nat) : ∀ (l : List Ent) (s : List (List Ent) × List Ent), (l.foldl (gstep block) s).1.flatten ++ (l.foldl (gstep block) s).2 = s.1.flatten ++ s.2 ++ l
 | [], s => by simp
 | x :: l, s => by rw [List.foldl_cons, qph block l, q02k]; simp
theorem qgu (block : Nat) (l : List Ent) : (gfold block l).1.flatten ++ (gfold block l).2 = l := by simpa [gfold] using qph block l ([], [])
theorem q2e (block : Nat) (l : List Ent) : (grp block l).flatten = l := by
 have := qgu block l
 unfold grp gall
 split
 ·rename_i e
  rw [e, List.append_nil] at this
  exact this
 ·simpa using this
theorem qh4 (block : Nat) : ∀ (l : List Ent) (s : List (List Ent) × List Ent), (∀ g, g ∈ s.1 → g ≠ []) → ∀ g, g ∈ (l.foldl (gstep block) s).1 → g ≠ []
 | [], s, h => h
 | x :: l, s, h => by
  rw [List.foldl_cons]
  refine qh4 block l _ fun g hg => ?_
  unfold gstep at hg
  split at hg
  ·rename_i c
   rcases List.mem_append.1 hg with q | q
   ·exact h g q
   ·simp at q; subst q; exact c.1
  ·exact h g hg
theorem q8l {block : Nat} {l g : List Ent} (h : g ∈ grp block l) : g ≠ [] := by
 unfold grp gall at h
 have hd := qh4 block l ([], []) (by simp)
 split at h
 ·exact hd g h
 ·rename_i e
  rcases List.mem_append.1 h with q | q
  ·exact hd g q
  ·simp at q; subst q; exact e
/-! ### A run's bytes -/
def outB (G : List (List Ent)) : List UInt8 := G.flatMap fun es => enc es ++ be 4 (crcOf (enc es))
def fkey (es : List Ent) : Key := match es with | x :: _ => x.k | [] => []
def idx (at_ : Nat) : List (List Ent) → List UInt8
 | [] => []
 | es :: G => vi (fkey es).length ++ fkey es ++ (vi at_ ++ vi (enc es).length) ++ idx (at_ + (enc es).length + 4) G
theorem q3x (G H : List (List Ent)) : outB (G ++ H) = outB G ++ outB H := by simp [outB]
theorem qhs (es : List Ent) : outB [es] = enc es ++ be 4 (crcOf (enc es)) := by simp [outB]
theorem q53 (es : List Ent) : (outB [es]).length = (enc es).length + 4 := by simp [qhs]
def foot (block n spans o : Nat) : List UInt8 := be 4 block ++ be 4 n ++ be 4 spans ++ be 4 o
def tailB (block : Nat) (l : List Ent) : List UInt8 := idx 0 (grp block l) ++ foot block l.length (grp block l).length (outB (grp block l)).length
def drun : List UInt8 := [68, 82, 85, 78]
def bld (block : Nat) (l : List Ent) : List UInt8 := outB (grp block l) ++ (tailB block l ++ (be 4 (crcOf (tailB block l)) ++ drun))
theorem qrq (a b c d : Nat) : (foot a b c d).length = 16 := by simp [foot]
theorem qcc (block : Nat) (l : List Ent) : (bld block l).length = (outB (grp block l)).length + (idx 0 (grp block l)).length + 24 := by
 simp [bld, tailB, qrq, drun]; omega
/-! ### Sizes -/
def entsz (l : List Ent) : Nat := (l.map fun x => x.k.length + x.v.length + 4).sum
theorem qcd : ∀ (l : List Ent) (a : Key), (encL a l).length ≤ entsz l
 | [], a => by simp [encL, entsz]
 | x :: l, a => by
  rw [encL, List.length_append, q4q]
  have := qcd l x.k
  simp only [entsz, List.map_cons, List.sum_cons] at this ⊢
  omega
theorem q7n (a b : List Ent) : entsz (a ++ b) = entsz a + entsz b := by simp [entsz]
theorem q0o (x : Ent) (l : List Ent) : entsz (x :: l) = x.k.length + x.v.length + 4 + entsz l := by simp [entsz]
theorem qc6 : ∀ (G : List (List Ent)), (∀ g, g ∈ G → g ≠ []) → (outB G).length ≤ 2 * entsz G.flatten
 | [], _ => by simp [outB]
 | es :: G, h => by
  have h1 := qc6 G fun g hg => h g (by simp [hg])
  have h2 : (enc es).length ≤ entsz es := qcd es []
  rw [show es :: G = [es] ++ G from rfl, q3x, List.length_append, q53, List.flatten_append, q7n, show [es].flatten = es by simp]
  have h3 : 4 ≤ entsz es := by
   cases es with
   | nil => exact absurd rfl (h [] (by simp))
   | cons x l => rw [q0o]; omega
  omega
theorem qbg (block : Nat) (l : List Ent) : (grp block l).length ≤ l.length := by
 have h : ∀ (G : List (List Ent)), (∀ g, g ∈ G → g ≠ []) → G.length ≤ G.flatten.length := by
  intro G
  induction G with
  | nil => intro _; simp
  | cons g G ih =>
   intro h
   have := ih fun g hg => h g (by simp [hg])
   have hg := List.length_pos_iff.2 (h g (by simp))
   simp only [List.flatten_cons, List.length_cons, List.length_append]
   omega
 have := h (grp block l) fun g hg => q8l hg
 rwa [q2e] at this
theorem q099 (es : List Ent) : (fkey es).length ≤ entsz es := by
 cases es with
 | nil => simp [fkey]
 | cons x l => rw [q0o]; simp only [fkey]; omega
theorem qte : ∀ (G : List (List Ent)) (a : Nat), (∀ g, g ∈ G → g ≠ []) → a + (outB G).length < 18446744073709551616 → entsz G.flatten < 18446744073709551616 → (idx a G).length ≤ 9 * entsz G.flatten
 | [], a, _, _, _ => by simp [idx]
 | es :: G, a, h, ha, hs => by
  rw [show es :: G = [es] ++ G from rfl, q3x, List.length_append, q53] at ha
  simp only [List.flatten_cons, q7n] at hs ⊢
  have h1 := qte G (a + (enc es).length + 4) (fun g hg => h g (by simp [hg])) (by omega) (by omega)
  have h2 := q099 es
  have h3 : (enc es).length ≤ entsz es := qcd es []
  have v1 := q06 (n := (fkey es).length) (by omega)
  have v2 := q06 (n := a) (by omega)
  have v3 := q06 (n := (enc es).length) (by omega)
  have h4 : 4 ≤ entsz es := by
   cases es with
   | nil => exact absurd rfl (h [] (by simp))
   | cons x l => rw [q0o]; omega
  rw [idx]
  simp only [List.length_append]
  omega
theorem q09o {n k : Nat} {rest : List UInt8} : (⟨be k n ++ rest, 0⟩ : RS).raw k = (be k n, ⟨rest, 0⟩) := by
 rw [q2g (by simp), List.take_left' (by simp), List.drop_left' (by simp)]
theorem qik {n : Nat} (hn : n < 18446744073709551616) (rest : List UInt8) : (⟨vi n ++ rest, 0⟩ : RS).varint = (n, ⟨rest, 0⟩) := by
 have := qtd rest n 0 0 (by simpa using hn) (by simp)
 unfold RS.varint
 rw [this]
 simp
theorem qcj (s rest : List UInt8) : (⟨s ++ rest, 0⟩ : RS).raw (s.length : Nat) = (s, ⟨rest, 0⟩) := by
 rw [q2g (by simp)]
 simp
theorem q07w {s : List UInt8} (hs : s.length < 18446744073709551616) (rest : List UInt8) : (⟨vi s.length ++ s ++ rest, 0⟩ : RS).text = (s, ⟨rest, 0⟩) := by
 unfold RS.text
 rw [List.append_assoc, qik hs]
 simp only
 rw [if_neg (by simp), if_neg (by simp), qcj]
theorem q09e (c : UInt8) (rest : List UInt8) : (⟨c :: rest, 0⟩ : RS).raw 1 = ([c], ⟨rest, 0⟩) := qcj [c] rest
def rdB : Nat → RS → Key → List Ent → Option (List Ent)
 | 0, _, _, _ => none
 | m + 1, st, ahead, acc => if st.left = 0 then some acc else
  let a := st.raw 1
  let b := a.2.raw 1
  let c := b.2.raw 1
  let d := c.2.raw 1
  if ahead.length < rdn a.1 ∨ 1 < rdn c.1 then none else
   let e := d.2.raw (rdn b.1)
   let f := e.2.raw (rdn d.1)
   if f.2.err ≠ 0 then none else rdB m f.2 (ahead.take (rdn a.1) ++ e.1) (acc ++ [⟨ahead.take (rdn a.1) ++ e.1, f.1, decide (rdn c.1 = 1)⟩])
theorem qhy {n : Nat} (h : n < 256) : rdn [UInt8.ofNat n] = n := by
 rw [qig]
 exact UInt8.toNat_ofNat_of_lt' h
theorem qt7 : ∀ (l : List Ent) (m : Nat) (a : Key) (acc : List Ent), (∀ x, x ∈ l → rightE x = true) → (encL a l).length < m → rdB m ⟨encL a l, 0⟩ a acc = some (acc ++ l)
 | [], m, a, acc, _, hm => by
  cases m with
  | zero => omega
  | succ m => simp [rdB, encL, RS.left]
 | x :: l, m, a, acc, hr, hm => by
  cases m with
  | zero => omega
  | succ m =>
   obtain ⟨r1, r2, r3, r4⟩ := (q1m x).1 (hr x (by simp))
   obtain ⟨s1, s2, s3⟩ := qij a x.k
   rw [encL, List.length_append, q4q] at hm
   have hg : rdn [goneB x.g] = if x.g = true then 1 else 0 := by
    rw [qig]
    unfold goneB
    split <;> rfl
   have hkd : (x.k.drop (shd a x.k)).length = x.k.length - shd a x.k := by simp
   have hl : (⟨encL a (x :: l), 0⟩ : RS).left ≠ 0 := by
    have := qhx (l := x :: l) (by simp) a
    unfold RS.left
    rw [if_neg (by simp)]
    simp only
    omega
   have hs : (⟨encL a (x :: l), 0⟩ : RS) = ⟨UInt8.ofNat (shd a x.k) :: UInt8.ofNat (x.k.length - shd a x.k) :: goneB x.g :: UInt8.ofNat x.v.length :: (x.k.drop (shd a x.k) ++ (x.v ++ encL x.k l)), 0⟩ := by
    rw [encL, eb]; simp
   have h1 : rdn [UInt8.ofNat (shd a x.k)] = shd a x.k := qhy (by omega)
   have h2 : rdn [UInt8.ofNat (x.k.length - shd a x.k)] = x.k.length - shd a x.k := qhy (by omega)
   have h3 : rdn [UInt8.ofNat x.v.length] = x.v.length := qhy (by omega)
   rw [rdB, if_neg hl, hs]
   simp only [q09e, h1, h2, h3, hg]
   rw [if_neg (by
    intro q
    rcases q with q | q
    ·omega
    ·split at q <;> omega)]
   rw [← hkd, qcj]
   simp only
   rw [qcj]
   simp only
   rw [if_neg (by simp)]
   have hkey : a.take (shd a x.k) ++ x.k.drop (shd a x.k) = x.k := by rw [s3, List.take_append_drop]
   have hgd : decide ((if x.g = true then 1 else 0) = 1) = x.g := by cases x.g <;> rfl
   rw [hkey, hgd, qt7 l m x.k _ (fun y hy => hr y (by simp [hy])) (by omega)]
   simp
def prsG (b : List UInt8) (at_ : Nat) : Nat → RS → List Ent → Option (List Ent)
 | 0, _, l => some l
 | m + 1, st, l =>
  let t := st.text
  let f := t.2.varint
  let z := f.2.varint
  if z.2.err ≠ 0 ∨ at_ < f.1 ∨ at_ - f.1 < z.1 then none else
   match rdB (z.1 + 1) ⟨(b.drop f.1).take z.1, 0⟩ [] l with
   | none => none
   | some l' => prsG b at_ m z.2 l'
def prs (b : List UInt8) : Option (List Ent × Nat × Nat) :=
 if b.length < 24 then none else
  let s0 : RS := ⟨b.drop (b.length - 24), 0⟩
  let a := s0.raw 4
  let c := a.2.raw 4
  let d := c.2.raw 4
  let e := d.2.raw 4
  if b.length - 24 < rdn e.1 then none else
   match prsG b (rdn e.1) (min (rdn d.1) b.length) ⟨(b.take (b.length - 24)).drop (rdn e.1), 0⟩ [] with
   | none => none
   | some l => if l.length = rdn c.1 then some (l, rdn a.1, rdn d.1) else none
theorem qs2 (b : List UInt8) (at_ : Nat) (hat : at_ < 18446744073709551616) : ∀ (G : List (List Ent)) (pre : List UInt8) (acc : List Ent) (m : Nat) (post : List UInt8), b = pre ++ outB G ++ post → pre.length + (outB G).length ≤ at_ → m = G.length → (∀ g, g ∈ G → ∀ x, x ∈ g → rightE x = true) →
  prsG b at_ m ⟨idx pre.length G, 0⟩ acc = some (acc ++ G.flatten)
 | [], pre, acc, m, post, hb, ha, hm, hr => by
  subst hm
  simp [prsG]
 | es :: G, pre, acc, m, post, hb, ha, hm, hr => by
  subst hm
  have hob : outB (es :: G) = enc es ++ be 4 (crcOf (enc es)) ++ outB G := by
   rw [show es :: G = [es] ++ G from rfl, q3x, qhs]
  have hol : (outB (es :: G)).length = (enc es).length + 4 + (outB G).length := by rw [hob]; simp; omega
  rw [hol] at ha
  have hfk : (fkey es).length < 18446744073709551616 := by
   cases es with
   | nil => simp [fkey]
   | cons x l =>
    have := (q1m x).1 (hr (x :: l) (by simp) x (by simp))
    simp only [fkey]
    omega
  rw [List.length_cons, prsG, idx]
  have h1 : (⟨vi (fkey es).length ++ fkey es ++ (vi pre.length ++ vi (enc es).length) ++ idx (pre.length + (enc es).length + 4) G, 0⟩ : RS).text = (fkey es, ⟨vi pre.length ++ (vi (enc es).length ++ idx (pre.length + (enc es).length + 4) G), 0⟩) := by
   have := q07w hfk (vi pre.length ++ (vi (enc es).length ++ idx (pre.length + (enc es).length + 4) G))
   simpa using this
  simp only [h1, qik (show pre.length < 18446744073709551616 by omega), qik (show (enc es).length < 18446744073709551616 by omega)]
  rw [if_neg (by
   intro q
   rcases q with q | q | q
   ·simp at q
   ·omega
   ·omega)]
  have hbd : (b.drop pre.length).take (enc es).length = enc es := by
   rw [hb, hob, List.append_assoc, List.drop_left' rfl, List.append_assoc, List.append_assoc, List.take_left' rfl]
  rw [hbd, qt7 es _ [] acc (hr es (by simp)) (Nat.lt_succ_self _)]
  simp only
  have hp : pre.length + (enc es).length + 4 = (pre ++ (enc es ++ be 4 (crcOf (enc es)))).length := by simp; omega
  rw [hp, qs2 b at_ hat G _ _ _ post (by rw [hb, hob]; simp) (by simp; omega) rfl fun g hg => hr g (by simp [hg])]
  simp
theorem q08y {block : Nat} {l : List Ent} (hb : block < 4294967296) (hr : ∀ x, x ∈ l → rightE x = true) (hl : l.length < 4294967296) (ho : (outB (grp block l)).length < 4294967296) : prs (bld block l) = some (l, block, (grp block l).length) := by
 have hlen := qcc block l
 have hgl := qbg block l
 have hne : ∀ g, g ∈ grp block l → g ≠ [] := fun g hg => q8l hg
 have hrg : ∀ g, g ∈ grp block l → ∀ x, x ∈ g → rightE x = true := fun g hg x hx => hr x (by
  have : x ∈ (grp block l).flatten := List.mem_flatten.2 ⟨g, hg, hx⟩
  rwa [q2e] at this)
 have hgo : (grp block l).length ≤ (outB (grp block l)).length := by
  have : ∀ G : List (List Ent), G.length ≤ (outB G).length := by
   intro G
   induction G with
   | nil => simp
   | cons g G ih => rw [show g :: G = [g] ++ G from rfl, q3x, List.length_append, List.length_append, q53]; simp; omega
  exact this _
 generalize hG : grp block l = G at *
 have e1 : bld block l = (outB G ++ idx 0 G) ++ (foot block l.length G.length (outB G).length ++ (be 4 (crcOf (tailB block l)) ++ drun)) := by
  rw [bld, tailB, hG]; simp
 have hL : (outB G ++ idx 0 G).length = (bld block l).length - 24 := by rw [hlen]; simp
 have hd : (bld block l).drop ((bld block l).length - 24) = foot block l.length G.length (outB G).length ++ (be 4 (crcOf (tailB block l)) ++ drun) := by
  conv => lhs; arg 2; rw [e1]
  exact List.drop_left' hL
 have ht : (bld block l).take ((bld block l).length - 24) = outB G ++ idx 0 G := by
  conv => lhs; arg 2; rw [e1]
  exact List.take_left' hL
 have h4 : ∀ n, n < 4294967296 → rdn (be 4 n) = n := fun n hn => by rw [qil, Nat.mod_eq_of_lt (by omega)]
 rw [prs, if_neg (by omega)]
 simp only [hd, ht, foot, List.append_assoc]
 rw [show ((4 : Int)) = ((4 : Nat) : Int) from rfl]
 simp only [q09o, h4 block hb, h4 l.length hl, h4 G.length (by omega), h4 (outB G).length ho]
 have hmin : min G.length (bld block l).length = G.length := Nat.min_eq_left (by rw [hlen]; omega)
 rw [if_neg (by rw [hlen]; omega), List.drop_left' rfl, hmin]
 have := qs2 (bld block l) (outB G).length (by omega) G [] [] G.length (idx 0 G ++ (foot block l.length G.length (outB G).length ++ (be 4 (crcOf (tailB block l)) ++ drun))) (by rw [e1]; simp) (by simp) rfl hrg
 rw [List.length_nil] at this
 rw [this]
 have hfl : G.flatten = l := by rw [← hG]; exact q2e block l
 simp [hfl]
end Go.Proofs.YtfmoemconapmhaaGreat.Ah
