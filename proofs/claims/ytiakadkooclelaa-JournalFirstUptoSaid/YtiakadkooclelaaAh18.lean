/- Texts, vectors of one's own, and what a call may touch. -/
import Derived.Test.YtiakadkooclelaaAh17
set_option linter.unusedVariables false
set_option linter.unusedSimpArgs false
namespace Go.Proofs.Ytiakadkooclelaa.Ah
open Go

def ptr (p : Nat) : Value := .pointer (some ⟨p, 0, none⟩)
/-! ### Bytes -/
def bv (b : UInt8) : Value := .int .u8 (b.toNat : Int)
def bvs (l : List UInt8) : List Value := l.map bv
def str (l : List UInt8) : ByteArray := ⟨l.toArray⟩
@[simp] theorem bvs_nil : bvs [] = [] := rfl
@[simp] theorem bvs_cons (b : UInt8) (l : List UInt8) : bvs (b :: l) = bv b :: bvs l := rfl
@[simp] theorem bvs_append (l m : List UInt8) : bvs (l ++ m) = bvs l ++ bvs m := by simp [bvs]
@[simp] theorem bvs_length (l : List UInt8) : (bvs l).length = l.length := by simp [bvs]
theorem bvs_get (l : List UInt8) (i : Nat) : (bvs l)[i]? = (l[i]?).map bv := by simp [bvs]
@[simp] theorem bvs_take (l : List UInt8) (n : Nat) : (bvs l).take n = bvs (l.take n) := by simp [bvs]
@[simp] theorem bvs_drop (l : List UInt8) (n : Nat) : (bvs l).drop n = bvs (l.drop n) := by simp [bvs]
theorem bvs_eq (l : List UInt8) : l.map (fun b => (.int .u8 b.toNat : Value)) = bvs l := rfl
@[simp] theorem str_size (l : List UInt8) : (str l).size = l.length := by simp [str, ByteArray.size]
@[simp] theorem str_data (l : List UInt8) : (str l).data.toList = l := by simp [str]
@[simp] theorem str_of (s : ByteArray) : str s.data.toList = s := by
  show (⟨s.data.toList.toArray⟩ : ByteArray) = s
  rw [Array.toArray_toList]
theorem size_eq (s : ByteArray) : s.size = s.data.toList.length := rfl
@[simp] theorem str_append (l m : List UInt8) : str l ++ str m = str (l ++ m) := by
  have h : (str l ++ str m).data = (str (l ++ m)).data := by
    rw [ByteArray.data_append]
    simp [str]
  cases e : str l ++ str m
  rw [e] at h
  simp only at h
  rw [h]
@[simp] theorem str_toList (l : List UInt8) : (str l).toList = l := by rw [ByteArray.toList_eq]; simp [str]
theorem str_nil : str [] = .empty := rfl
@[simp] theorem isCell_bv (b : UInt8) : isCell (bv b) = true := rfl
theorem cl_int (B : Nat) (k : IntKind) (n : Int) : Cl B (.int k n) := fun _ _ => .int k n
theorem cl_string (B : Nat) (s : ByteArray) : Cl B (.string s) := fun _ _ => .string s
theorem str_extract (l : List UInt8) (a b : Nat) : (str l).extract a b = str ((l.take b).drop a) := by
  have : ((str l).extract a b).data = (str ((l.take b).drop a)).data := by
    rw [ByteArray.data_extract]
    simp [str]
    rw [List.drop_take]
  cases e : (str l).extract a b
  rw [e] at this
  simp only at this
  rw [this]
theorem strSlA_take (l : List UInt8) (k' : IntKind) (b : Nat) (h2 : b ≤ l.length) : strSlA (.string (str l)) none (some (.int k' b)) = some (.string (str (l.take b))) := by
  simp [strSlA, boundA, h2, str_extract]
theorem strSlA_drop (l : List UInt8) (k : IntKind) (a : Nat) (h : a ≤ l.length) : strSlA (.string (str l)) (some (.int k a)) none = some (.string (str (l.drop a))) := by
  simp [strSlA, boundA, h, str_extract]
theorem strIdxA_str (l : List UInt8) (k : IntKind) (i : Nat) : strIdxA (.string (str l)) (.int k i) = (l[i]?).map bv := by
  have h : ∀ (s : ByteArray) (i : Nat), s[i]? = s.data.toList[i]? := by
    intro s i
    by_cases hi : i < s.size
    · rw [getElem?_pos s i hi, List.getElem?_eq_getElem (by rw [size_eq] at hi; exact hi)]; rfl
    · rw [getElem?_neg s i hi, List.getElem?_eq_none (by rw [size_eq] at hi; omega)]
  simp only [strIdxA]
  rw [if_pos (by omega), h]
  simp
  rfl

/-! ### Steps of the heap -/
structure Step (h h' : Hp) (S S' : List Nat) : Prop where
  next : h.next ≤ h'.next
  keep : ∀ b, b < h.next → b ∉ S → h'.blk b = h.blk b ∧ h'.esz b = h.esz b
  own : ∀ b, b ∈ S' → b < h'.next ∧ (b ∈ S ∨ h.next ≤ b)
  lp : h'.lp = h.lp

theorem Step.refl (h : Hp) (S : List Nat) (hs : ∀ b, b ∈ S → b < h.next) : Step h h S S := ⟨Nat.le_refl _, fun b _ _ => ⟨rfl, rfl⟩, fun b hb => ⟨hs b hb, .inl hb⟩, rfl⟩
theorem Step.trans {h h1 h2 : Hp} {S S1 S2 : List Nat} (a : Step h h1 S S1) (b : Step h1 h2 S1 S2) : Step h h2 S S2 := by
  refine ⟨Nat.le_trans a.1 b.1, fun i hi hs => ?_, fun i hi => ?_, b.4.trans a.4⟩
  · have h1 : i ∉ S1 := fun e => by rcases (a.3 i e).2 with e | e; exact hs e; omega
    have := b.2 i (by have := a.1; omega) h1
    rw [this.1, this.2]
    exact a.2 i hi hs
  · refine ⟨(b.3 i hi).1, ?_⟩
    rcases (b.3 i hi).2 with e | e
    · exact (a.3 i e).2
    · right; have := a.1; omega
theorem Step.more {h h' : Hp} {S S' : List Nat} (a : Step h h' S S') (T : List Nat) (ht : ∀ b, b ∈ T → b < h.next) : Step h h' (S ++ T) (S' ++ T) := by
  refine ⟨a.1, fun b hb hs => a.2 b hb (fun e => hs (by simp [e])), fun b hb => ?_, a.4⟩
  rcases List.mem_append.1 hb with e | e
  · exact ⟨(a.3 b e).1, by rcases (a.3 b e).2 with q | q <;> simp [q]⟩
  · exact ⟨by have := ht b e; have := a.1; omega, by simp [e]⟩
theorem Step.weaken {h h' : Hp} {S S' T T' : List Nat} (a : Step h h' S S') (hS : ∀ b, b ∈ S → b ∈ T ∨ h.next ≤ b) (hS' : ∀ b, b ∈ T' → b ∈ S' ∨ (b ∈ T ∧ b < h.next)) : Step h h' T T' := by
  refine ⟨a.1, fun b hb hs => a.2 b hb (fun e => by rcases hS b e with q | q; exact hs q; omega), fun b hb => ?_, a.4⟩
  rcases hS' b hb with e | ⟨e, f⟩
  · exact ⟨(a.3 b e).1, by rcases (a.3 b e).2 with q | q; exact hS b q; exact .inr q⟩
  · exact ⟨by have := a.1; omega, .inl e⟩

theorem Step.put {h h' : Hp} {S S' : List Nat} (a : Step h h' S S') {p : Nat} (hp : p ∈ S') (cs : List Value) : Step h (h'.put p cs) S S' := by
  refine ⟨a.1, fun b hb hs => ?_, fun b hb => a.3 b hb, a.4⟩
  have : b ≠ p := by
    rintro rfl
    rcases (a.3 b hp).2 with e | e
    · exact hs e
    · omega
  simpa [this] using a.2 b hb hs
theorem Step.new {h h' : Hp} {S S' : List Nat} (a : Step h h' S S') (cs : List Value) (s : Nat) : Step h (h'.new cs s) S (h'.next :: S') := by
  refine ⟨by have := a.1; simp; omega, fun b hb hs => ?_, fun b hb => ?_, a.4⟩
  · have : b ≠ h'.next := by have := a.1; omega
    simpa [this] using a.2 b hb hs
  · rcases List.mem_cons.1 hb with rfl | hb
    · exact ⟨by simp, .inr a.1⟩
    · exact ⟨by have := (a.3 b hb).1; simp; omega, (a.3 b hb).2⟩
theorem Step.newD {h h' : Hp} {S S' : List Nat} (a : Step h h' S S') (cs : List Value) (s : Nat) : Step h (h'.newD cs s) S (h'.next :: S') := ⟨(a.new cs s).1, (a.new cs s).2, (a.new cs s).3, (a.new cs s).4⟩
theorem Step.less {h h' : Hp} {S S' T : List Nat} (a : Step h h' S S') (hT : ∀ b, b ∈ T → b ∈ S') : Step h h' S T := ⟨a.1, a.2, fun b hb => a.3 b (hT b hb), a.4⟩
theorem Step.wide {h h' : Hp} {S S' T T' : List Nat} (a : Step h h' S S') (hS : ∀ b, b ∈ S → b ∈ T) (hT : ∀ b, b ∈ T' → b ∈ S' ∨ (b ∈ T ∧ b < h.next)) : Step h h' T T' :=
  a.weaken (fun b hb => .inl (hS b hb)) hT
/-! ### Sources -/
def Vec (w0 : World) (h : Hp) (s : Nat) (x : Value) (n : Nat) (cs : List Value) (S : List Nat) : Prop :=
  (x = .slice none 0 0 ∧ n = 0 ∧ cs = [] ∧ S = []) ∨
  ∃ q, x = .slice (some ⟨q, 0, none⟩) n ucap ∧ S = [q] ∧ w0.heap.size ≤ q ∧ q < h.next ∧ h.blk q = some cs ∧ h.esz q = s ∧ cs.length = n * s

section
variable {w0 : World} {h h' : Hp} {s n : Nat} {x : Value} {cs : List Value} {S : List Nat}
theorem Vec.nil : Vec w0 h s (.slice none 0 0) 0 [] [] := .inl ⟨rfl, rfl, rfl, rfl⟩
theorem Vec.lt (v : Vec w0 h s x n cs S) : ∀ b, b ∈ S → w0.heap.size ≤ b ∧ b < h.next := by
  rcases v with ⟨-, -, -, rfl⟩ | ⟨q, -, rfl, a, b, -⟩
  · intro b hb; simp at hb
  · intro c hc; simp at hc; subst hc; exact ⟨a, b⟩
theorem Vec.slice (v : Vec w0 h s x n cs S) : ∃ a c, x = .slice a n c := by
  rcases v with ⟨rfl, rfl, -⟩ | ⟨q, rfl, -⟩ <;> exact ⟨_, _, rfl⟩
theorem Vec.len (v : Vec w0 h s x n cs S) : cs.length = n * s := by
  rcases v with ⟨-, rfl, rfl, -⟩ | ⟨q, -, -, -, -, -, -, e⟩ <;> simp [*]
theorem Vec.src (v : Vec w0 h s x n cs S) : Src w0.heap.size h s x n cs := by
  rcases v with ⟨rfl, rfl, rfl, -⟩ | ⟨q, rfl, -, a, b, c, -, e⟩
  · simp [Src]
  · unfold Src
    refine ⟨Nat.le_refl _, ?_⟩
    by_cases hn : n = 0
    · subst hn; left; exact ⟨rfl, List.eq_nil_of_length_eq_zero (by simpa using e)⟩
    · right
      refine ⟨by omega, _, rfl, ?_, fun hlt => by simp at hlt; omega⟩
      simp [c, ← e]
theorem Vec.frame (v : Vec w0 h s x n cs S) {T T' : List Nat} (st : Step h h' T T') (hd : ∀ b, b ∈ S → b ∉ T) : Vec w0 h' s x n cs S := by
  rcases v with ⟨rfl, rfl, rfl, rfl⟩ | ⟨q, rfl, rfl, a, b, c, d, e⟩
  · exact .nil
  · obtain ⟨k1, k2⟩ := st.keep q b (hd q (by simp))
    exact .inr ⟨q, rfl, rfl, a, by have := st.1; omega, by rw [k1]; exact c, by rw [k2]; exact d, e⟩
theorem Vec.put (v : Vec w0 h s x n cs S) {p : Nat} (hp : p ∉ S) (c : List Value) : Vec w0 (h.put p c) s x n cs S := by
  rcases v with ⟨rfl, rfl, rfl, rfl⟩ | ⟨q, rfl, rfl, a, b, d, e, f⟩
  · exact .nil
  · have : q ≠ p := by rintro rfl; simp at hp
    exact .inr ⟨q, rfl, rfl, a, b, by simpa [this] using d, e, f⟩
theorem Vec.new (v : Vec w0 h s x n cs S) (c : List Value) (k : Nat) : Vec w0 (h.new c k) s x n cs S := by
  rcases v with ⟨rfl, rfl, rfl, rfl⟩ | ⟨q, rfl, rfl, a, b, d, e, f⟩
  · exact .nil
  · have : q ≠ h.next := by omega
    exact .inr ⟨q, rfl, rfl, a, by simp; omega, by simpa [this] using d, by simpa [this] using e, f⟩
theorem src_string (B : Nat) (s : ByteArray) : Src B h 1 (.string s) s.size (bvs s.data.toList) := by
  refine ⟨rfl, Nat.le_refl _, ?_⟩
  rw [size_eq, List.take_length]
  rfl
theorem src_own {q o c : Nat} (hq : w0.heap.size ≤ q) (hb : h.blk q = some cs) (hl : o + n * s ≤ cs.length) : Src w0.heap.size h s (.slice (some ⟨q, o, none⟩) n c) n ((cs.drop o).take (n * s)) := by
  unfold Src
  refine ⟨Nat.le_refl _, ?_⟩
  by_cases hn : n = 0
  · subst hn; left; simp
  · right; exact ⟨by omega, _, rfl, by simp [hb, hl], fun hlt => by simp at hlt; omega⟩
theorem src_whole {q c : Nat} (hq : w0.heap.size ≤ q) (hb : h.blk q = some cs) (e : cs.length = n * s) : Src w0.heap.size h s (.slice (some ⟨q, 0, none⟩) n c) n cs := by
  have := src_own (w0 := w0) (h := h) (s := s) (n := n) (o := 0) (c := c) hq hb (by simp [e])
  rw [List.drop_zero, ← e, List.take_length] at this
  exact this
theorem src_new {k : Nat} {c : Nat} (hf : w0.heap.size ≤ h.next) (e : cs.length = n * s) : Src w0.heap.size (h.new cs k) s (.slice (some ⟨h.next, 0, none⟩) n c) n cs := by
  have := src_own (w0 := w0) (h := h.new cs k) (s := s) (n := n) (o := 0) (c := c) hf (cs := cs) (by simp) (by simp [e])
  rw [List.drop_zero, ← e, List.take_length] at this
  exact this

theorem appA_vec {by_ m : Nat} {y : Value} {ys : List Value} {K : Kont} (hf : w0.heap.size ≤ h.next) (v : Vec w0 h s x n cs S) (hl : lenA y = some m) (hs : Src w0.heap.size h s y m ys)
    (hys : ys.length = m * s) (hb : (n + m) * by_ ≤ 140737488355328) (hn : n + m ≤ 140737488355328) (hs0 : 0 < s)
    (hk : ∀ x' h' S', Vec w0 h' s x' (n + m) (cs ++ ys) S' → Step h h' S S' → K x' h') : appA w0 s by_ x y K h := by
  refine .mk m hl (fun hm => ⟨?_, ?_⟩) (fun hm => ?_)
  · obtain ⟨a, c, rfl⟩ := v.slice; exact ⟨_, _, _, rfl⟩
  · subst hm
    have : ys = [] := List.eq_nil_of_length_eq_zero (by simpa using hys)
    subst this
    exact hk x h S (by simpa using v) (.refl _ _ fun b hb => (v.lt b hb).2)
  · rcases v with ⟨rfl, rfl, rfl, rfl⟩ | ⟨q, rfl, rfl, a, b, c, d, e⟩
    · refine ⟨0, [], ys, h, by simp [Dst], hs, hb, hn, ?_⟩
      refine hk _ _ [h.next] (.inr ⟨h.next, rfl, rfl, hf, by simp, by simp, by simp, by simpa using hys⟩) ⟨by simp, fun b hb _ => ?_, fun b hb => ?_, rfl⟩
      · have : b ≠ h.next := by omega
        simp [this]
      · simp at hb; subst hb; simp
    · refine ⟨n, cs, ys, h.kill q, ?_, hs, hb, hn, ?_⟩
      · simp only [Dst]
        refine ⟨trivial, ?_, ?_⟩
        · by_cases h0 : n = 0
          · left; subst h0; exact ⟨rfl, List.eq_nil_of_length_eq_zero (by simpa using e)⟩
          · right; exact ⟨by omega, by simp [c, ← e], fun hlt => by omega⟩
        · rw [if_neg (by omega)]; simp [c, d]
      · refine hk _ _ [h.next] (.inr ⟨h.next, rfl, rfl, hf, by simp, by simp, by simp, by rw [List.length_append, e, hys, Nat.add_mul]⟩) ⟨by simp, fun b' hb' hq => ?_, fun b' hb' => ?_, rfl⟩
        · have : b' ≠ h.next := by omega
          have h2 : b' ≠ q := by simpa using hq
          simp [this, h2]
        · simp at hb'; subst hb'; simp
theorem b2sA_of {a : Option Addr} {c : Nat} {l : List UInt8} {K : Kont} (hs : Src w0.heap.size h 1 (.slice a n c) n (bvs l)) (hk : K (.string (str l)) h) : b2sA w0 (.slice a n c) K h := by
  refine ⟨a, n, c, l.map fun b => (b.toNat : Int), rfl, ?_, ?_⟩
  · have : (l.map fun b => (b.toNat : Int)).map (fun q : Int => (.int .u8 q : Value)) = bvs l := by simp [bvs, bv]
    rw [this]; exact hs
  · have : (l.map fun b => (b.toNat : Int)).map (fun q : Int => UInt8.ofNat q.toNat) = l := by
      rw [List.map_map]
      conv => rhs; rw [← List.map_id l]
      congr 1
      funext b
      simp
    rw [this]; exact hk
theorem Vec.b2s {l : List UInt8} {K : Kont} (v : Vec w0 h 1 x n (bvs l) S) (hk : K (.string (str l)) h) : b2sA w0 x K h := by
  obtain ⟨a, c, rfl⟩ := v.slice
  exact b2sA_of v.src hk
end
end Go.Proofs.Ytiakadkooclelaa.Ah
