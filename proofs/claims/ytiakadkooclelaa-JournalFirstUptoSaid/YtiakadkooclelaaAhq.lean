/- Vectors of pairs of a number and a vector of bytes. -/
import Derived.Test.YtiakadkooclelaaAhp
import Derived.Carry
set_option linter.unusedVariables false
set_option linter.unusedSimpArgs false
set_option linter.constructorNameAsVariable false
namespace Go.Proofs.Ytiakadkooclelaa.Ah
open Go
section
def secCells : Nat → List Value → List Value
  | _, [] => []
  | k, v :: vs => .int .i64 (k : Int) :: v :: secCells (k + 1) vs
theorem secCells_snoc (v : Value) : ∀ (vs : List Value) (k : Nat), secCells k (vs ++ [v]) = secCells k vs ++ [.int .i64 ((k + vs.length : Nat) : Int), v] := by
  intro vs
  induction vs with
  | nil => intro k; simp [secCells]
  | cons x vs ih =>
    intro k
    simp only [List.cons_append, secCells, ih, List.length_cons]
    rw [show k + 1 + vs.length = k + (vs.length + 1) by omega]
@[simp] theorem secCells_length : ∀ (vs : List Value) (k : Nat), (secCells k vs).length = 2 * vs.length := by
  intro vs
  induction vs with
  | nil => intro k; rfl
  | cons x vs ih => intro k; simp [secCells, ih]; omega
theorem secCells_get : ∀ (vs : List Value) (k i : Nat) (v : Value), vs[i]? = some v → (secCells k vs)[2 * i]? = some (.int .i64 ((k + i : Nat) : Int)) ∧ (secCells k vs)[2 * i + 1]? = some v := by
  intro vs
  induction vs with
  | nil => intro k i v h; simp at h
  | cons x vs ih =>
    intro k i v h
    cases i with
    | zero => simp at h; subst h; simp [secCells]
    | succ i =>
      simp at h
      obtain ⟨a, b⟩ := ih (k + 1) i v h
      simp only [secCells]
      rw [show 2 * (i + 1) = 2 * i + 1 + 1 by omega]
      simp only [List.getElem?_cons_succ]
      rw [show k + (i + 1) = k + 1 + i by omega]
      exact ⟨a, b⟩
def SVec (w0 : World) (h : Hp) (x : Value) (k : Nat) (bs : List (List UInt8)) (S : List Nat) : Prop :=
  ∃ vs T S0, Vec w0 h 2 x bs.length (secCells k vs) T ∧ Rows w0 h vs bs S0 ∧ (∀ b, b ∈ T → b ∉ S0) ∧ S = T ++ S0
section
variable {w0 : World} {h h' : Hp} {x : Value} {k : Nat} {bs : List (List UInt8)} {S : List Nat}
theorem SVec.nil (k : Nat) : SVec w0 h (.slice none 0 0) k [] [] := ⟨[], [], [], .nil, .nil, by simp, rfl⟩
theorem SVec.lt (q : SVec w0 h x k bs S) : ∀ b, b ∈ S → w0.heap.size ≤ b ∧ b < h.next := by
  obtain ⟨vs, T, S0, v, r, d, rfl⟩ := q
  intro b hb
  rcases List.mem_append.1 hb with e | e
  · exact v.lt b e
  · exact r.lt b e
theorem SVec.frame (q : SVec w0 h x k bs S) {T T' : List Nat} (st : Step h h' T T') (hd : ∀ b, b ∈ S → b ∉ T) : SVec w0 h' x k bs S := by
  obtain ⟨vs, U, S0, v, r, d, rfl⟩ := q
  exact ⟨vs, U, S0, v.frame st fun b hb => hd b (by simp [hb]), r.frame st fun b hb => hd b (by simp [hb]), d, rfl⟩
theorem SVec.slice (q : SVec w0 h x k bs S) : ∃ a c, x = .slice a bs.length c := by
  obtain ⟨vs, U, S0, v, r, d, rfl⟩ := q
  exact v.slice
theorem appA_svec {by_ : Nat} {v : Value} {r : List UInt8} {T : List Nat} {ay : Option Addr} {cy : Nat} {K : Kont} (hf : w0.heap.size ≤ h.next) (q : SVec w0 h x k bs S) (hs : Src w0.heap.size h 2 (.slice ay 1 cy) 1 [.int .i64 ((k + bs.length : Nat) : Int), v]) (hv : Vec w0 h 1 v r.length (bvs r) T) (hd : ∀ b, b ∈ T → b ∉ S)
    (hb : (bs.length + 1) * by_ ≤ 140737488355328) (hn : bs.length + 1 ≤ 140737488355328) (hk : ∀ x' h' S', SVec w0 h' x' k (bs ++ [r]) S' → Step h h' (S ++ T) S' → K x' h') : appA w0 2 by_ x (.slice ay 1 cy) K h := by
  obtain ⟨vs, U, S0, vx, rw_, d, rfl⟩ := q
  have hvl := rw_.len
  refine appA_vec (m := 1) hf vx (by simp) hs (by simp) hb hn (by omega) (fun x' h' U' v' st => ?_)
  have hS0 : ∀ b, b ∈ S0 → b ∉ U := fun b hb he => d b he hb
  have hTU : ∀ b, b ∈ T → b ∉ U := fun b hb he => hd b hb (by simp [he])
  have hTS : ∀ b, b ∈ T → b ∉ S0 := fun b hb he => hd b hb (by simp [he])
  refine hk x' h' (U' ++ (S0 ++ T)) ⟨vs ++ [v], U', S0 ++ T, by rw [secCells_snoc, hvl]; simpa using v', .snoc (rw_.frame st hS0) (hv.frame st hTU) hTS, fun b hb he => ?_, rfl⟩ ?_
  · rcases (st.own b hb).2 with e | e
    · rcases List.mem_append.1 he with g | g
      · exact d b e g
      · exact hTU b g e
    · rcases List.mem_append.1 he with g | g
      · have := (rw_.lt b g).2; omega
      · have := (hv.lt b g).2; omega
  · refine st.wide (fun b hb => by simp [hb]) (fun b hb => ?_)
    rcases List.mem_append.1 hb with e | e
    · exact .inl e
    · rcases List.mem_append.1 e with g | g
      · exact .inr ⟨by simp [g], (rw_.lt b g).2⟩
      · exact .inr ⟨by simp [g], (hv.lt b g).2⟩
theorem SVec.get (q : SVec w0 h x k bs S) {i : Nat} {r : List UInt8} (hi : bs[i]? = some r) : ∃ b cs v T, x = .slice (some ⟨b, 0, none⟩) bs.length ucap ∧ w0.heap.size ≤ b ∧ b < h.next ∧ h.blk b = some cs ∧ b ∈ S ∧ b ∉ T ∧ cs[2 * i]? = some (.int .i64 ((k + i : Nat) : Int)) ∧ cs[2 * i + 1]? = some v ∧ Vec w0 h 1 v r.length (bvs r) T ∧ (∀ c, c ∈ T → c ∈ S) := by
  obtain ⟨vs, U, S0, v, rr, d, rfl⟩ := q
  obtain ⟨y, T, e, vy, hs⟩ := rr.get hi
  obtain ⟨g1, g2⟩ := secCells_get vs k i y e
  rcases v with ⟨rfl, e1, e2, rfl⟩ | ⟨b, rfl, rfl, hB, hlt, hbk, hes, hl⟩
  · rw [e2] at g1; simp at g1
  · exact ⟨b, _, y, T, rfl, hB, hlt, hbk, by simp, fun hT => d b (by simp) (hs b hT), g1, g2, vy, fun c hc => by simp [hs c hc]⟩
end
end
section
def GV (w0 : World) (h : Hp) (s : Nat) (x : Value) (n : Nat) (cs : List Value) (S : List Nat) : Prop :=
  Vec w0 h s x n cs S ∨ ∃ q, x = .slice (some ⟨q, 0, none⟩) n n ∧ S = [q] ∧ w0.heap.size ≤ q ∧ q < h.next ∧ h.blk q = some cs ∧ cs.length = n * s ∧ n < ucap ∧ h.esz q = s
section
variable {w0 : World} {h h' : Hp} {s n : Nat} {x : Value} {cs : List Value} {S : List Nat}
theorem Vec.gv (v : Vec w0 h s x n cs S) : GV w0 h s x n cs S := .inl v
theorem GV.new {cs : List Value} {n : Nat} (hf : w0.heap.size ≤ h.next) (hl : cs.length = n * s) (hn : n < ucap) : GV w0 (h.new cs s) s (.slice (some ⟨h.next, 0, none⟩) n n) n cs [h.next] :=
  .inr ⟨h.next, rfl, rfl, hf, by simp, by simp, hl, hn, by simp⟩
theorem GV.lt (v : GV w0 h s x n cs S) : ∀ b, b ∈ S → w0.heap.size ≤ b ∧ b < h.next := by
  rcases v with v | ⟨q, -, rfl, a, b, -⟩
  · exact v.lt
  · intro c hc; simp at hc; subst hc; exact ⟨a, b⟩
theorem GV.slice (v : GV w0 h s x n cs S) : ∃ a c, x = .slice a n c := by
  rcases v with v | ⟨q, rfl, -⟩
  · exact v.slice
  · exact ⟨_, _, rfl⟩
theorem GV.len (v : GV w0 h s x n cs S) : cs.length = n * s := by
  rcases v with v | ⟨q, -, -, -, -, -, e, -⟩
  · exact v.len
  · exact e
theorem GV.src (v : GV w0 h s x n cs S) : Src w0.heap.size h s x n cs := by
  rcases v with v | ⟨q, rfl, -, a, b, c, e, -⟩
  · exact v.src
  · exact src_whole a c e
theorem GV.frame (v : GV w0 h s x n cs S) {T T' : List Nat} (st : Step h h' T T') (hd : ∀ b, b ∈ S → b ∉ T) : GV w0 h' s x n cs S := by
  rcases v with v | ⟨q, rfl, rfl, a, b, c, e, f, g⟩
  · exact .inl (v.frame st hd)
  · obtain ⟨k1, k2⟩ := st.keep q b (hd q (by simp))
    exact .inr ⟨q, rfl, rfl, a, by have := st.1; omega, by rw [k1]; exact c, e, f, by rw [k2]; exact g⟩
theorem GV.refl (v : GV w0 h s x n cs S) : Step h h S S := .refl _ _ fun b hb => (v.lt b hb).2
theorem appA_gv {by_ m : Nat} {y : Value} {ys : List Value} {K : Kont} (hf : w0.heap.size ≤ h.next) (v : GV w0 h s x n cs S) (hl : lenA y = some m) (hs : Src w0.heap.size h s y m ys)
    (hys : ys.length = m * s) (hb : (n + m) * by_ ≤ 140737488355328) (hn : n + m ≤ 140737488355328) (hs0 : 0 < s)
    (hk : ∀ x' h' S', GV w0 h' s x' (n + m) (cs ++ ys) S' → Step h h' S S' → K x' h') : appA w0 s by_ x y K h := by
  rcases v with v | ⟨q, rfl, rfl, a, b, c, e, f, g⟩
  · exact appA_vec hf v hl hs hys hb hn hs0 fun x' h' S' v' st => hk x' h' S' (.inl v') st
  · refine .mk m hl (fun h0 => ⟨⟨_, _, _, rfl⟩, ?_⟩) (fun h0 => ⟨n, cs, ys, h, ?_, hs, hb, hn, ?_⟩)
    · subst h0
      have : ys = [] := List.eq_nil_of_length_eq_zero (by simpa using hys)
      subst this
      exact hk _ h [q] (.inr ⟨q, by simp, rfl, a, b, by simpa using c, by simpa using e, by simpa using f, g⟩) (.refl _ _ fun b' hb' => by simp at hb'; omega)
    · simp only [Dst]
      refine ⟨trivial, ?_, ?_⟩
      · by_cases hn0 : n = 0
        · left; subst hn0; exact ⟨rfl, List.eq_nil_of_length_eq_zero (by simpa using e)⟩
        · right; exact ⟨by omega, by simp [c, ← e], fun hlt => by omega⟩
      · rw [if_neg (by omega), if_neg (by omega), if_pos (by omega)]
        trivial
    · refine hk _ _ [h.next] (.inl (.inr ⟨h.next, rfl, rfl, hf, by simp, by simp, by simp, by rw [List.length_append, e, hys, Nat.add_mul]⟩)) ⟨by simp, fun b' hb' hq => ?_, fun b' hb' => ?_, rfl⟩
      · have : b' ≠ h.next := by omega
        simp [this]
      · simp at hb'; subst hb'; simp
theorem appA_gv_pos {by_ m : Nat} {y : Value} {ys : List Value} {K : Kont} (hf : w0.heap.size ≤ h.next) (v : GV w0 h s x n cs S) (hm : 0 < m) (hl : lenA y = some m) (hs : Src w0.heap.size h s y m ys)
    (hys : ys.length = m * s) (hb : (n + m) * by_ ≤ 140737488355328) (hn : n + m ≤ 140737488355328) (hs0 : 0 < s)
    (hk : ∀ x' h' S', Vec w0 h' s x' (n + m) (cs ++ ys) S' → Step h h' S S' → K x' h') : appA w0 s by_ x y K h := by
  rcases v with v | ⟨q, rfl, rfl, a, b, c, e, f, g⟩
  · exact appA_vec hf v hl hs hys hb hn hs0 hk
  · refine .mk m hl (fun h0 => by omega) (fun h0 => ⟨n, cs, ys, h, ?_, hs, hb, hn, ?_⟩)
    · simp only [Dst]
      refine ⟨trivial, ?_, ?_⟩
      · by_cases hn0 : n = 0
        · left; subst hn0; exact ⟨rfl, List.eq_nil_of_length_eq_zero (by simpa using e)⟩
        · right; exact ⟨by omega, by simp [c, ← e], fun hlt => by omega⟩
      · rw [if_neg (by omega), if_neg (by omega), if_pos (by omega)]
        trivial
    · refine hk _ _ [h.next] (.inr ⟨h.next, rfl, rfl, hf, by simp, by simp, by simp, by rw [List.length_append, e, hys, Nat.add_mul]⟩) ⟨by simp, fun b' hb' hq => ?_, fun b' hb' => ?_, rfl⟩
      · have : b' ≠ h.next := by omega
        simp [this]
      · simp at hb'; subst hb'; simp
theorem storeA_at {K : Kont} {b o : Nat} {cs : List Value} {v : Value} (hB : w0.heap.size ≤ b) (hb : h.blk b = some cs) (ho : o < cs.length) (hv : isCell v = true) (hk : K undef (h.put b (cs.set o v))) : storeA w0 (.pointer (some ⟨b, o, none⟩)) v K h := by
  rw [storeA_own]
  exact ⟨cs, hB, hb, ho, hv, hk⟩
end
end
section
theorem bulk_len {α : Type} (b : α → Nat) (hb : ∀ x, 1 ≤ b x) (l : List α) : l.length ≤ (l.map b).sum := by
  induction l with
  | nil => simp
  | cons x l ih => simp only [List.length_cons, List.map_cons, List.sum_cons]; have := hb x; omega
theorem bulk_mem {α : Type} (b : α → Nat) {l : List α} {x : α} (h : x ∈ l) : b x ≤ (l.map b).sum := by
  induction l with
  | nil => simp at h
  | cons y l ih =>
    simp only [List.map_cons, List.sum_cons]
    rcases List.mem_cons.1 h with rfl | h
    · omega
    · have := ih h; omega
section
open Go.ChangeShapes
variable {H : Type} {enc : TypeId × Value → H} {P : Program} {w : World} {base : Nat} {spare : Nat → Bool} {held : Bool}
end
section
variable {w0 : World}
theorem apart_step {h h' : Hp} {S S' T : List Nat} (st : Step h h' S S') (hd : ∀ b, b ∈ T → b ∉ S) (hT : ∀ b, b ∈ T → b < h.next) : ∀ b, b ∈ T → b ∉ S' := fun b hb he => by
  rcases (st.own b he).2 with g | g
  · exact hd b hb g
  · have := hT b hb; omega
end
end
end Go.Proofs.Ytiakadkooclelaa.Ah
