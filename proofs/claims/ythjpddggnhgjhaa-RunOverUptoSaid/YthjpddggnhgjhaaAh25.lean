/- Slices of one's own, whether their room is known or not. -/
import Derived.Test.YthjpddggnhgjhaaAh24
set_option linter.unusedVariables false
set_option linter.unusedSimpArgs false
namespace Go.Proofs.Ythjpddggnhgjhaa.Ah
open Go

/-- A vector of one's own, or a slice over the whole of a block of one's own whose capacity is its length. -/
def GV (w0 : World) (h : Hp) (s : Nat) (x : Value) (n : Nat) (cs : List Value) (S : List Nat) : Prop :=
  Vec w0 h s x n cs S ∨ ∃ q, x = .slice (some ⟨q, 0, none⟩) n n ∧ S = [q] ∧ w0.heap.size ≤ q ∧ q < h.next ∧ h.blk q = some cs ∧ cs.length = n * s ∧ n < ucap ∧ h.esz q = s
section
variable {w0 : World} {h h' : Hp} {s n : Nat} {x : Value} {cs : List Value} {S : List Nat}
theorem Vec.gv (v : Vec w0 h s x n cs S) : GV w0 h s x n cs S := .inl v
theorem GV.new {cs : List Value} {n : Nat} (hf : w0.heap.size ≤ h.next) (hl : cs.length = n * s) (hn : n < ucap) : GV w0 (h.new cs s) s (.slice (some ⟨h.next, 0, none⟩) n n) n cs [h.next] :=
  .inr ⟨h.next, rfl, rfl, hf, by simp, by simp, hl, hn, by simp⟩
theorem GV.lt (v : GV w0 h s x n cs S) : ∀ b, b ∈ S → w0.heap.size ≤ b ∧ b < h.next := by
  rcases v with v | ⟨q, -, rfl, a, b, -⟩
  · exact v.lt
  · intro c hc; simp at hc; subst hc; exact ⟨a, b⟩
theorem GV.slice (v : GV w0 h s x n cs S) : ∃ a c, x = .slice a n c := by
  rcases v with v | ⟨q, rfl, -⟩
  · exact v.slice
  · exact ⟨_, _, rfl⟩
theorem GV.len (v : GV w0 h s x n cs S) : cs.length = n * s := by
  rcases v with v | ⟨q, -, -, -, -, -, e, -⟩
  · exact v.len
  · exact e
theorem GV.src (v : GV w0 h s x n cs S) : Src w0.heap.size h s x n cs := by
  rcases v with v | ⟨q, rfl, -, a, b, c, e, -⟩
  · exact v.src
  · exact src_whole a c e
theorem GV.frame (v : GV w0 h s x n cs S) {T T' : List Nat} (st : Step h h' T T') (hd : ∀ b, b ∈ S → b ∉ T) : GV w0 h' s x n cs S := by
  rcases v with v | ⟨q, rfl, rfl, a, b, c, e, f, g⟩
  · exact .inl (v.frame st hd)
  · obtain ⟨k1, k2⟩ := st.keep q b (hd q (by simp))
    exact .inr ⟨q, rfl, rfl, a, by have := st.1; omega, by rw [k1]; exact c, e, f, by rw [k2]; exact g⟩
theorem GV.refl (v : GV w0 h s x n cs S) : Step h h S S := .refl _ _ fun b hb => (v.lt b hb).2
theorem appA_gv {by_ m : Nat} {y : Value} {ys : List Value} {K : Kont} (hf : w0.heap.size ≤ h.next) (v : GV w0 h s x n cs S) (hl : lenA y = some m) (hs : Src w0.heap.size h s y m ys)
    (hys : ys.length = m * s) (hb : (n + m) * by_ ≤ 140737488355328) (hn : n + m ≤ 140737488355328) (hs0 : 0 < s)
    (hk : ∀ x' h' S', GV w0 h' s x' (n + m) (cs ++ ys) S' → Step h h' S S' → K x' h') : appA w0 s by_ x y K h := by
  rcases v with v | ⟨q, rfl, rfl, a, b, c, e, f, g⟩
  · exact appA_vec hf v hl hs hys hb hn hs0 fun x' h' S' v' st => hk x' h' S' (.inl v') st
  · refine .mk m hl (fun h0 => ⟨⟨_, _, _, rfl⟩, ?_⟩) (fun h0 => ⟨n, cs, ys, h, ?_, hs, hb, hn, ?_⟩)
    · subst h0
      have : ys = [] := List.eq_nil_of_length_eq_zero (by simpa using hys)
      subst this
      exact hk _ h [q] (.inr ⟨q, by simp, rfl, a, b, by simpa using c, by simpa using e, by simpa using f, g⟩) (.refl _ _ fun b' hb' => by simp at hb'; omega)
    · simp only [Dst]
      refine ⟨trivial, ?_, ?_⟩
      · by_cases hn0 : n = 0
        · left; subst hn0; exact ⟨rfl, List.eq_nil_of_length_eq_zero (by simpa using e)⟩
        · right; exact ⟨by omega, by simp [c, ← e], fun hlt => by omega⟩
      · rw [if_neg (by omega), if_neg (by omega), if_pos (by omega)]
        trivial
    · refine hk _ _ [h.next] (.inl (.inr ⟨h.next, rfl, rfl, hf, by simp, by simp, by simp, by rw [List.length_append, e, hys, Nat.add_mul]⟩)) ⟨by simp, fun b' hb' hq => ?_, fun b' hb' => ?_, rfl⟩
      · have : b' ≠ h.next := by omega
        simp [this]
      · simp at hb'; subst hb'; simp
/-- Something is appended: a vector then. -/
theorem appA_gv_pos {by_ m : Nat} {y : Value} {ys : List Value} {K : Kont} (hf : w0.heap.size ≤ h.next) (v : GV w0 h s x n cs S) (hm : 0 < m) (hl : lenA y = some m) (hs : Src w0.heap.size h s y m ys)
    (hys : ys.length = m * s) (hb : (n + m) * by_ ≤ 140737488355328) (hn : n + m ≤ 140737488355328) (hs0 : 0 < s)
    (hk : ∀ x' h' S', Vec w0 h' s x' (n + m) (cs ++ ys) S' → Step h h' S S' → K x' h') : appA w0 s by_ x y K h := by
  rcases v with v | ⟨q, rfl, rfl, a, b, c, e, f, g⟩
  · exact appA_vec hf v hl hs hys hb hn hs0 hk
  · refine .mk m hl (fun h0 => by omega) (fun h0 => ⟨n, cs, ys, h, ?_, hs, hb, hn, ?_⟩)
    · simp only [Dst]
      refine ⟨trivial, ?_, ?_⟩
      · by_cases hn0 : n = 0
        · left; subst hn0; exact ⟨rfl, List.eq_nil_of_length_eq_zero (by simpa using e)⟩
        · right; exact ⟨by omega, by simp [c, ← e], fun hlt => by omega⟩
      · rw [if_neg (by omega), if_neg (by omega), if_pos (by omega)]
        trivial
    · refine hk _ _ [h.next] (.inr ⟨h.next, rfl, rfl, hf, by simp, by simp, by simp, by rw [List.length_append, e, hys, Nat.add_mul]⟩) ⟨by simp, fun b' hb' hq => ?_, fun b' hb' => ?_, rfl⟩
      · have : b' ≠ h.next := by omega
        simp [this]
      · simp at hb'; subst hb'; simp
theorem storeA_at {K : Kont} {b o : Nat} {cs : List Value} {v : Value} (hB : w0.heap.size ≤ b) (hb : h.blk b = some cs) (ho : o < cs.length) (hv : isCell v = true) (hk : K undef (h.put b (cs.set o v))) : storeA w0 (.pointer (some ⟨b, o, none⟩)) v K h := by
  rw [storeA_own]
  exact ⟨cs, hB, hb, ho, hv, hk⟩
/-- A variable is made for a struct and filled. -/
theorem box_new {K : Kont} {z e : List Value} {k m : Nat} (hf : w0.heap.size ≤ h.next) (hz : z.length = m) (hl : e.length = m) (hzc : ∀ v, v ∈ z → isCell v = true) (hk : K (.pointer (some ⟨h.next, 0, none⟩)) (h.new e k)) :
    newA z k (fun b => storeNA w0 b (.agg e.toArray) m fun _ => K b) h := by
  refine ⟨hzc, h.next, 0, z, e.toArray, rfl, hf, rfl, by simpa using hl, by simp, by omega, ?_⟩
  rw [splice_all _ _ (by simp; omega), put_new]
  simpa using hk
end
end Go.Proofs.Ythjpddggnhgjhaa.Ah
