/- Vectors of pairs of a number and a vector of bytes. -/
import Derived.Test.YthjpddggnhgjhaaAh23
set_option linter.unusedVariables false
set_option linter.unusedSimpArgs false
namespace Go.Proofs.Ythjpddggnhgjhaa.Ah
open Go

/-- Numbers from k on, each ahead of its slice. -/
def secCells : Nat → List Value → List Value
  | _, [] => []
  | k, v :: vs => .int .i64 (k : Int) :: v :: secCells (k + 1) vs
theorem secCells_snoc (v : Value) : ∀ (vs : List Value) (k : Nat), secCells k (vs ++ [v]) = secCells k vs ++ [.int .i64 ((k + vs.length : Nat) : Int), v] := by
  intro vs
  induction vs with
  | nil => intro k; simp [secCells]
  | cons x vs ih =>
    intro k
    simp only [List.cons_append, secCells, ih, List.length_cons]
    rw [show k + 1 + vs.length = k + (vs.length + 1) by omega]
@[simp] theorem secCells_length : ∀ (vs : List Value) (k : Nat), (secCells k vs).length = 2 * vs.length := by
  intro vs
  induction vs with
  | nil => intro k; rfl
  | cons x vs ih => intro k; simp [secCells, ih]; omega
theorem secCells_get : ∀ (vs : List Value) (k i : Nat) (v : Value), vs[i]? = some v → (secCells k vs)[2 * i]? = some (.int .i64 ((k + i : Nat) : Int)) ∧ (secCells k vs)[2 * i + 1]? = some v := by
  intro vs
  induction vs with
  | nil => intro k i v h; simp at h
  | cons x vs ih =>
    intro k i v h
    cases i with
    | zero => simp at h; subst h; simp [secCells]
    | succ i =>
      simp at h
      obtain ⟨a, b⟩ := ih (k + 1) i v h
      simp only [secCells]
      rw [show 2 * (i + 1) = 2 * i + 1 + 1 by omega]
      simp only [List.getElem?_cons_succ]
      rw [show k + (i + 1) = k + 1 + i by omega]
      exact ⟨a, b⟩
def SVec (w0 : World) (h : Hp) (x : Value) (k : Nat) (bs : List (List UInt8)) (S : List Nat) : Prop :=
  ∃ vs T S0, Vec w0 h 2 x bs.length (secCells k vs) T ∧ Rows w0 h vs bs S0 ∧ (∀ b, b ∈ T → b ∉ S0) ∧ S = T ++ S0
section
variable {w0 : World} {h h' : Hp} {x : Value} {k : Nat} {bs : List (List UInt8)} {S : List Nat}
theorem SVec.nil (k : Nat) : SVec w0 h (.slice none 0 0) k [] [] := ⟨[], [], [], .nil, .nil, by simp, rfl⟩
theorem SVec.lt (q : SVec w0 h x k bs S) : ∀ b, b ∈ S → w0.heap.size ≤ b ∧ b < h.next := by
  obtain ⟨vs, T, S0, v, r, d, rfl⟩ := q
  intro b hb
  rcases List.mem_append.1 hb with e | e
  · exact v.lt b e
  · exact r.lt b e
theorem SVec.frame (q : SVec w0 h x k bs S) {T T' : List Nat} (st : Step h h' T T') (hd : ∀ b, b ∈ S → b ∉ T) : SVec w0 h' x k bs S := by
  obtain ⟨vs, U, S0, v, r, d, rfl⟩ := q
  exact ⟨vs, U, S0, v.frame st fun b hb => hd b (by simp [hb]), r.frame st fun b hb => hd b (by simp [hb]), d, rfl⟩
theorem SVec.slice (q : SVec w0 h x k bs S) : ∃ a c, x = .slice a bs.length c := by
  obtain ⟨vs, U, S0, v, r, d, rfl⟩ := q
  exact v.slice
/-- One more behind them. -/
theorem appA_svec {by_ : Nat} {v : Value} {r : List UInt8} {T : List Nat} {ay : Option Addr} {cy : Nat} {K : Kont} (hf : w0.heap.size ≤ h.next) (q : SVec w0 h x k bs S) (hs : Src w0.heap.size h 2 (.slice ay 1 cy) 1 [.int .i64 ((k + bs.length : Nat) : Int), v]) (hv : Vec w0 h 1 v r.length (bvs r) T) (hd : ∀ b, b ∈ T → b ∉ S)
    (hb : (bs.length + 1) * by_ ≤ 140737488355328) (hn : bs.length + 1 ≤ 140737488355328) (hk : ∀ x' h' S', SVec w0 h' x' k (bs ++ [r]) S' → Step h h' (S ++ T) S' → K x' h') : appA w0 2 by_ x (.slice ay 1 cy) K h := by
  obtain ⟨vs, U, S0, vx, rw_, d, rfl⟩ := q
  have hvl := rw_.len
  refine appA_vec (m := 1) hf vx (by simp) hs (by simp) hb hn (by omega) (fun x' h' U' v' st => ?_)
  have hS0 : ∀ b, b ∈ S0 → b ∉ U := fun b hb he => d b he hb
  have hTU : ∀ b, b ∈ T → b ∉ U := fun b hb he => hd b hb (by simp [he])
  have hTS : ∀ b, b ∈ T → b ∉ S0 := fun b hb he => hd b hb (by simp [he])
  refine hk x' h' (U' ++ (S0 ++ T)) ⟨vs ++ [v], U', S0 ++ T, by rw [secCells_snoc, hvl]; simpa using v', .snoc (rw_.frame st hS0) (hv.frame st hTU) hTS, fun b hb he => ?_, rfl⟩ ?_
  · rcases (st.own b hb).2 with e | e
    · rcases List.mem_append.1 he with g | g
      · exact d b e g
      · exact hTU b g e
    · rcases List.mem_append.1 he with g | g
      · have := (rw_.lt b g).2; omega
      · have := (hv.lt b g).2; omega
  · refine st.wide (fun b hb => by simp [hb]) (fun b hb => ?_)
    rcases List.mem_append.1 hb with e | e
    · exact .inl e
    · rcases List.mem_append.1 e with g | g
      · exact .inr ⟨by simp [g], (rw_.lt b g).2⟩
      · exact .inr ⟨by simp [g], (hv.lt b g).2⟩
/-- The i-th of them, as it lies. -/
theorem SVec.get (q : SVec w0 h x k bs S) {i : Nat} {r : List UInt8} (hi : bs[i]? = some r) : ∃ b cs v T, x = .slice (some ⟨b, 0, none⟩) bs.length ucap ∧ w0.heap.size ≤ b ∧ b < h.next ∧ h.blk b = some cs ∧ b ∈ S ∧ b ∉ T ∧ cs[2 * i]? = some (.int .i64 ((k + i : Nat) : Int)) ∧ cs[2 * i + 1]? = some v ∧ Vec w0 h 1 v r.length (bvs r) T ∧ (∀ c, c ∈ T → c ∈ S) := by
  obtain ⟨vs, U, S0, v, rr, d, rfl⟩ := q
  obtain ⟨y, T, e, vy, hs⟩ := rr.get hi
  obtain ⟨g1, g2⟩ := secCells_get vs k i y e
  rcases v with ⟨rfl, e1, e2, rfl⟩ | ⟨b, rfl, rfl, hB, hlt, hbk, hes, hl⟩
  · rw [e2] at g1; simp at g1
  · exact ⟨b, _, y, T, rfl, hB, hlt, hbk, by simp, fun hT => d b (by simp) (hs b hT), g1, g2, vy, fun c hc => by simp [hs c hc]⟩
end
end Go.Proofs.Ythjpddggnhgjhaa.Ah
