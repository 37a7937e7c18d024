/- Vectors of vectors of bytes. -/
import Derived.Test.YthjpddggnhgjhaaAh22
set_option linter.unusedVariables false
set_option linter.unusedSimpArgs false
namespace Go.Proofs.Ythjpddggnhgjhaa.Ah
open Go

/-- Each of these slices is a vector of one's own with these bytes; S: their blocks. -/
inductive Rows (w0 : World) (h : Hp) : List Value → List (List UInt8) → List Nat → Prop
  | nil : Rows w0 h [] [] []
  | snoc {vs : List Value} {rs : List (List UInt8)} {S : List Nat} {v : Value} {r : List UInt8} {T : List Nat} : Rows w0 h vs rs S → Vec w0 h 1 v r.length (bvs r) T → (∀ b, b ∈ T → b ∉ S) → Rows w0 h (vs ++ [v]) (rs ++ [r]) (S ++ T)
section
variable {w0 : World} {h h' : Hp} {vs : List Value} {rs : List (List UInt8)} {S : List Nat}
theorem Rows.len (q : Rows w0 h vs rs S) : vs.length = rs.length := by
  induction q with
  | nil => rfl
  | snoc _ _ _ ih => simp [ih]
theorem Rows.lt (q : Rows w0 h vs rs S) : ∀ b, b ∈ S → w0.heap.size ≤ b ∧ b < h.next := by
  induction q with
  | nil => simp
  | snoc _ v _ ih =>
    intro b hb
    rcases List.mem_append.1 hb with e | e
    · exact ih b e
    · exact v.lt b e
theorem Rows.frame (q : Rows w0 h vs rs S) {T T' : List Nat} (st : Step h h' T T') (hd : ∀ b, b ∈ S → b ∉ T) : Rows w0 h' vs rs S := by
  induction q with
  | nil => exact .nil
  | snoc _ v d ih => exact .snoc (ih fun b hb => hd b (by simp [hb])) (v.frame st fun b hb => hd b (by simp [hb])) d
theorem Rows.put (q : Rows w0 h vs rs S) {p : Nat} (hp : p ∉ S) (c : List Value) : Rows w0 (h.put p c) vs rs S := by
  induction q with
  | nil => exact .nil
  | snoc _ v d ih => exact .snoc (ih fun e => hp (by simp [e])) (v.put (fun e => hp (by simp [e])) c) d
theorem Rows.cell (q : Rows w0 h vs rs S) : ∀ v, v ∈ vs → isCell v = true ∧ v ≠ junk := by
  induction q with
  | nil => simp
  | snoc _ v d ih =>
    intro x hx
    rcases List.mem_append.1 hx with e | e
    · exact ih x e
    · simp at e; subst e; obtain ⟨a, c, rfl⟩ := v.slice; simp
theorem Rows.get (q : Rows w0 h vs rs S) {i : Nat} {r : List UInt8} (hi : rs[i]? = some r) : ∃ v T, vs[i]? = some v ∧ Vec w0 h 1 v r.length (bvs r) T ∧ ∀ b, b ∈ T → b ∈ S := by
  induction q with
  | nil => simp at hi
  | snoc q v d ih =>
    rename_i vs rs S v0 r0 T
    have hl := q.len
    by_cases h1 : i < rs.length
    · rw [List.getElem?_append_left h1] at hi
      obtain ⟨x, T1, e, vx, hs⟩ := ih hi
      exact ⟨x, T1, by rw [List.getElem?_append_left (by omega)]; exact e, vx, fun b hb => by simp [hs b hb]⟩
    · rw [List.getElem?_append_right (by omega)] at hi
      have h2 : i - rs.length = 0 := by
        rcases Nat.eq_zero_or_pos (i - rs.length) with e | e
        · exact e
        · rw [List.getElem?_eq_none (by simp; omega)] at hi; simp at hi
      rw [h2] at hi
      simp at hi
      subst hi
      exact ⟨v0, T, by rw [List.getElem?_append_right (by omega), show i - vs.length = 0 by omega]; rfl, v, fun b hb => by simp [hb]⟩
theorem Rows.last {r : List UInt8} (q : Rows w0 h vs (rs ++ [r]) S) : ∃ vs' v S' T, vs = vs' ++ [v] ∧ Rows w0 h vs' rs S' ∧ Vec w0 h 1 v r.length (bvs r) T ∧ (∀ b, b ∈ T → b ∉ S') ∧ S = S' ++ T := by
  generalize hg : rs ++ [r] = rr at q
  cases q with
  | nil => simp at hg
  | snoc q v d =>
    obtain ⟨rfl, e⟩ := List.append_inj' hg rfl
    simp at e
    subst e
    exact ⟨_, _, _, _, rfl, q, v, d, rfl⟩
/-- A vector of such vectors. -/
def VVec (w0 : World) (h : Hp) (x : Value) (rs : List (List UInt8)) (S : List Nat) : Prop :=
  ∃ vs T S0, Vec w0 h 1 x rs.length vs T ∧ Rows w0 h vs rs S0 ∧ (∀ b, b ∈ T → b ∉ S0) ∧ S = T ++ S0
variable {x : Value}
theorem VVec.nil : VVec w0 h (.slice none 0 0) [] [] := ⟨[], [], [], .nil, .nil, by simp, rfl⟩
theorem VVec.lt (q : VVec w0 h x rs S) : ∀ b, b ∈ S → w0.heap.size ≤ b ∧ b < h.next := by
  obtain ⟨vs, T, S0, v, r, d, rfl⟩ := q
  intro b hb
  rcases List.mem_append.1 hb with e | e
  · exact v.lt b e
  · exact r.lt b e
theorem VVec.frame (q : VVec w0 h x rs S) {T T' : List Nat} (st : Step h h' T T') (hd : ∀ b, b ∈ S → b ∉ T) : VVec w0 h' x rs S := by
  obtain ⟨vs, U, S0, v, r, d, rfl⟩ := q
  exact ⟨vs, U, S0, v.frame st fun b hb => hd b (by simp [hb]), r.frame st fun b hb => hd b (by simp [hb]), d, rfl⟩
theorem VVec.put (q : VVec w0 h x rs S) {p : Nat} (hp : p ∉ S) (c : List Value) : VVec w0 (h.put p c) x rs S := by
  obtain ⟨vs, U, S0, v, r, d, rfl⟩ := q
  exact ⟨vs, U, S0, v.put (fun e => hp (by simp [e])) c, r.put (fun e => hp (by simp [e])) c, d, rfl⟩
theorem VVec.slice (q : VVec w0 h x rs S) : ∃ a c, x = .slice a rs.length c := by
  obtain ⟨vs, U, S0, v, r, d, rfl⟩ := q
  exact v.slice
/-- One more vector behind them. -/
theorem appA_vvec {by_ : Nat} {v : Value} {r : List UInt8} {T : List Nat} {ay : Option Addr} {cy : Nat} {K : Kont} (hf : w0.heap.size ≤ h.next) (q : VVec w0 h x rs S) (hs : Src w0.heap.size h 1 (.slice ay 1 cy) 1 [v]) (hv : Vec w0 h 1 v r.length (bvs r) T) (hd : ∀ b, b ∈ T → b ∉ S)
    (hb : (rs.length + 1) * by_ ≤ 140737488355328) (hn : rs.length + 1 ≤ 140737488355328) (hk : ∀ x' h' S', VVec w0 h' x' (rs ++ [r]) S' → Step h h' (S ++ T) S' → K x' h') : appA w0 1 by_ x (.slice ay 1 cy) K h := by
  obtain ⟨vs, U, S0, vx, rw_, d, rfl⟩ := q
  refine appA_vec (m := 1) hf vx (by simp) hs (by simp) hb hn (by omega) (fun x' h' U' v' st => ?_)
  have hS0 : ∀ b, b ∈ S0 → b ∉ U := fun b hb he => d b he hb
  have hTU : ∀ b, b ∈ T → b ∉ U := fun b hb he => hd b hb (by simp [he])
  have hTS : ∀ b, b ∈ T → b ∉ S0 := fun b hb he => hd b hb (by simp [he])
  refine hk x' h' (U' ++ (S0 ++ T)) ⟨vs ++ [v], U', S0 ++ T, by simpa using v', .snoc (rw_.frame st hS0) (hv.frame st hTU) hTS, fun b hb he => ?_, rfl⟩ ?_
  · rcases (st.own b hb).2 with e | e
    · rcases List.mem_append.1 he with g | g
      · exact d b e g
      · exact hTU b g e
    · rcases List.mem_append.1 he with g | g
      · have := (rw_.lt b g).2; omega
      · have := (hv.lt b g).2; omega
  · refine st.wide (fun b hb => by simp [hb]) (fun b hb => ?_)
    rcases List.mem_append.1 hb with e | e
    · exact .inl e
    · rcases List.mem_append.1 e with g | g
      · exact .inr ⟨by simp [g], (rw_.lt b g).2⟩
      · exact .inr ⟨by simp [g], (hv.lt b g).2⟩
/-- The i-th of them, as it lies. -/
theorem VVec.get (q : VVec w0 h x rs S) {i : Nat} {r : List UInt8} (hi : rs[i]? = some r) : ∃ b vs v T, x = .slice (some ⟨b, 0, none⟩) rs.length ucap ∧ w0.heap.size ≤ b ∧ h.blk b = some vs ∧ h.esz b = 1 ∧ vs[i]? = some v ∧ vs.length = rs.length ∧ Vec w0 h 1 v r.length (bvs r) T ∧ (∀ c, c ∈ T → c ∈ S) := by
  obtain ⟨vs, U, S0, v, rr, d, rfl⟩ := q
  obtain ⟨y, T, e, vy, hs⟩ := rr.get hi
  rcases v with ⟨rfl, e1, rfl, rfl⟩ | ⟨b, rfl, rfl, hB, hlt, hbk, hes, hl⟩
  · simp at e
  · exact ⟨b, vs, y, T, rfl, hB, hbk, hes, e, by simpa using hl, vy, fun c hc => by simp [hs c hc]⟩
end
end Go.Proofs.Ythjpddggnhgjhaa.Ah
