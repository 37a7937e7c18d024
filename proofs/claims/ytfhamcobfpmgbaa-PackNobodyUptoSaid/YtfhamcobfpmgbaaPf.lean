/- What a container holds, plain; and as it lies. -/
import Derived.Test.YtfhamcobfpmgbaaPe
set_option linter.unusedVariables false
set_option linter.unusedSimpArgs false
namespace Go.Proofs.Ytfhamcobfpmgbaa.Ah
open Go

/-- What a container holds. -/
structure PS where
  size : Nat
  count : Nat
  id : Nat
  chunks : List (List UInt8)
  shut : Bool
  last : Option (List UInt8)
  taken : Nat
  closed : Bool
def dpak : List UInt8 := [68, 80, 65, 75]
def dfot : List UInt8 := [68, 70, 79, 84]
def slotB (c : List UInt8) : List UInt8 := be 4 c.length ++ be 4 (crcOf (be 4 c.length ++ c)) ++ c
@[simp] theorem slotB_length (c : List UInt8) : (slotB c).length = 8 + c.length := by simp [slotB]; omega
def endOf : List (List UInt8) → Nat
  | [] => 16
  | c :: cs => endOf cs + 8 + c.length
theorem endOf_append (a b : List (List UInt8)) : endOf (a ++ b) + 16 = endOf a + endOf b := by
  induction a with
  | nil => simp [endOf]; omega
  | cons c a ih => simp only [List.cons_append, endOf]; omega
theorem endOf_snoc (a : List (List UInt8)) (c : List UInt8) : endOf (a ++ [c]) = endOf a + 8 + c.length := by
  have := endOf_append a [c]
  simp only [endOf] at this
  omega
theorem endOf_ge (a : List (List UInt8)) : 16 ≤ endOf a := by
  induction a with
  | nil => simp [endOf]
  | cons c a ih => simp only [endOf]; omega
theorem endOf_take (a : List (List UInt8)) (n : Nat) : endOf (a.take n) ≤ endOf a := by
  have := endOf_append (a.take n) (a.drop n)
  rw [List.take_append_drop] at this
  have := endOf_ge (a.drop n)
  omega
def bodyB (id count : Nat) (cs : List (List UInt8)) : List UInt8 := mark16 dpak id count ++ cs.flatMap slotB
theorem bodyB_length (id count : Nat) (cs : List (List UInt8)) : (bodyB id count cs).length = endOf cs := by
  have h1 : (mark16 dpak id count).length = 16 := mark16_length rfl _ _
  have h2 : ∀ l : List (List UInt8), (l.flatMap slotB).length + 16 = endOf l := by
    intro l
    induction l with
    | nil => simp [endOf]
    | cons c l ih => simp only [List.flatMap_cons, List.length_append, slotB_length, endOf]; omega
  have := h2 cs
  simp only [bodyB, List.length_append, h1]
  omega
theorem bodyB_snoc (id count : Nat) (cs : List (List UInt8)) (c : List UInt8) : bodyB id count (cs ++ [c]) = bodyB id count cs ++ slotB c := by simp [bodyB]
def PS.bytes (st : PS) : Nat := st.size * st.count
def PS.foot (st : PS) : List UInt8 := if st.shut then mark16 dfot st.chunks.length (endOf st.chunks) else List.replicate 16 0
theorem PS.foot_length (st : PS) : st.foot.length = 16 := by
  unfold PS.foot
  split
  · exact mark16_length rfl _ _
  · simp
def PS.image (st : PS) : List UInt8 := bodyB st.id st.count st.chunks ++ List.replicate (st.bytes - 16 - endOf st.chunks) 0 ++ st.foot
/-- Where the slots lie. -/
def slotsFrom : Nat → List (List UInt8) → List (Nat × Nat)
  | _, [] => []
  | a, c :: cs => (a + 8, c.length) :: slotsFrom (a + 8 + c.length) cs
theorem slotsFrom_append : ∀ (a b : List (List UInt8)) (k : Nat), slotsFrom k (a ++ b) = slotsFrom k a ++ slotsFrom (k + endOf a - 16) b := by
  intro a
  induction a with
  | nil => intro b k; simp [slotsFrom, endOf]
  | cons c a ih =>
    intro b k
    have := endOf_ge a
    simp only [List.cons_append, slotsFrom, ih, endOf]
    congr 3
    omega
@[simp] theorem slotsFrom_length : ∀ (a : List (List UInt8)) (k : Nat), (slotsFrom k a).length = a.length := by
  intro a
  induction a with
  | nil => intro k; rfl
  | cons c a ih => intro k; simp [slotsFrom, ih]
theorem slotsFrom_snoc (a : List (List UInt8)) (c : List UInt8) : slotsFrom 16 (a ++ [c]) = slotsFrom 16 a ++ [(endOf a + 8, c.length)] := by
  rw [slotsFrom_append]
  have := endOf_ge a
  simp only [slotsFrom]
  congr 3
  omega
theorem slotsFrom_take (a : List (List UInt8)) (n k : Nat) : (slotsFrom k a).take n = slotsFrom k (a.take n) := by
  have h1 := slotsFrom_append (a.take n) (a.drop n) k
  rw [List.take_append_drop] at h1
  rw [h1]
  by_cases hn : n ≤ a.length
  · rw [List.take_left' (by simp; omega)]
  · rw [List.take_of_length_le (by simp; omega), List.drop_eq_nil_of_le (by omega)]
    simp [slotsFrom]
def slotC (l : List (Nat × Nat)) : List Value := l.flatMap fun p => [.int .i64 (p.1 : Int), .int .i64 (p.2 : Int)]
theorem slotC_len (l : List (Nat × Nat)) : (slotC l).length = l.length * 2 := flat_len (s := 2) (fun _ => rfl) l
theorem slotC_get {l : List (Nat × Nat)} {i : Nat} {p : Nat × Nat} (hi : l[i]? = some p) : (slotC l)[i * 2]? = some (.int .i64 p.1) ∧ (slotC l)[i * 2 + 1]? = some (.int .i64 p.2) :=
  ⟨by have := flat_get (e := fun p : Nat × Nat => [(.int .i64 (p.1 : Int) : Value), .int .i64 (p.2 : Int)]) (s := 2) (fun _ => rfl) hi (show 0 < 2 by omega); simpa [slotC] using this,
   by have := flat_get (e := fun p : Nat × Nat => [(.int .i64 (p.1 : Int) : Value), .int .i64 (p.2 : Int)]) (s := 2) (fun _ => rfl) hi (show 1 < 2 by omega); simpa [slotC] using this⟩
theorem slotC_take (l : List (Nat × Nat)) (n : Nat) : (slotC l).take (n * 2) = slotC (l.take n) := by
  by_cases hn : n ≤ l.length
  · have h1 : slotC l = slotC (l.take n) ++ slotC (l.drop n) := by rw [slotC, slotC, slotC, ← List.flatMap_append, List.take_append_drop]
    rw [h1, List.take_left' (by rw [slotC_len]; simp; omega)]
  · rw [List.take_of_length_le (by rw [slotC_len]; omega), List.take_of_length_le (by omega)]
/-- Which containers there are. -/
structure PS.Ok (st : PS) : Prop where
  size : 512 ≤ st.size ∧ st.size ≤ 4096
  count : 1 ≤ st.count ∧ st.count ≤ 64
  id : st.id < 4294967296
  room : endOf st.chunks + 16 ≤ st.bytes
  ne : ∀ c, c ∈ st.chunks → c ≠ []
  taken : st.taken ≤ st.chunks.length
  closed : st.closed = true → st.shut = true ∧ st.taken = st.chunks.length
  last : ∀ t, st.last = some t → t.length = st.bytes
theorem PS.Ok.bytes {st : PS} (o : st.Ok) : 512 ≤ st.bytes ∧ st.bytes ≤ 262144 := by
  have h1 := o.size
  have h2 := o.count
  unfold PS.bytes
  have := Nat.mul_le_mul h1.1 h2.1
  have := Nat.mul_le_mul h1.2 h2.2
  omega
theorem PS.Ok.image {st : PS} (o : st.Ok) : st.image.length = st.bytes := by
  have := o.room
  simp only [PS.image, List.length_append, bodyB_length, List.length_replicate, PS.foot_length]
  omega
theorem chunks_le {cs : List (List UInt8)} : cs.length ≤ endOf cs := by
  induction cs with
  | nil => simp
  | cons c cs ih => simp only [List.length_cons, endOf]; omega
def PS.left (st : PS) : Nat := if st.shut then 0 else st.bytes - 16 - endOf st.chunks - 8
/-- A chunk is laid: where, how long, what is told. -/
def PS.append (st : PS) (b : List UInt8) : (Nat × Nat × Int) × PS :=
  if st.shut then ((0, 0, 6), st) else if b = [] then ((0, 0, 1), st) else if st.left < b.length then ((0, 0, 2), st)
  else ((endOf st.chunks + 8, b.length, 0), { st with chunks := st.chunks ++ [b] })
theorem PS.Ok.append {st : PS} (o : st.Ok) (b : List UInt8) : (st.append b).2.Ok := by
  unfold PS.append
  split
  · exact o
  split
  · exact o
  split
  · exact o
  rename_i h1 h2 h3
  have h4 := o.room
  have h5 : 0 < b.length := List.length_pos_iff.2 h2
  simp only [PS.left, h1] at h3
  refine ⟨o.size, o.count, o.id, ?_, fun c hc => ?_, ?_, fun hc => absurd (o.closed hc).1 h1, o.last⟩
  · show endOf (st.chunks ++ [b]) + 16 ≤ st.bytes
    rw [endOf_snoc]
    simp at h3
    omega
  · rcases List.mem_append.1 hc with e | e
    · exact o.ne c e
    · simp at e; subst e; exact h2
  · have := o.taken; simp; omega
/-- What the image becomes. -/
theorem image_append {st : PS} (o : st.Ok) (hs : st.shut = false) {b : List UInt8} (hb : endOf st.chunks + 8 + b.length + 16 ≤ st.bytes) :
    st.image.take (endOf st.chunks) ++ slotB b ++ st.image.drop (endOf st.chunks + (slotB b).length) = ({ st with chunks := st.chunks ++ [b] } : PS).image := by
  have hl := bodyB_length st.id st.count st.chunks
  simp only [PS.image, PS.foot, hs, bodyB_snoc, PS.bytes, endOf_snoc]
  have hb : endOf st.chunks + 8 + b.length + 16 ≤ st.size * st.count := hb
  simp only [Bool.false_eq_true, if_false]
  have e1 : ((bodyB st.id st.count st.chunks ++ List.replicate (st.size * st.count - 16 - endOf st.chunks) 0 ++ List.replicate 16 0)).take (endOf st.chunks) = bodyB st.id st.count st.chunks := by
    rw [List.append_assoc, List.take_left' hl]
  have e2 : ((bodyB st.id st.count st.chunks ++ List.replicate (st.size * st.count - 16 - endOf st.chunks) 0 ++ List.replicate 16 0)).drop (endOf st.chunks + (slotB b).length) = List.replicate (st.size * st.count - 16 - (endOf st.chunks + 8 + b.length)) 0 ++ List.replicate 16 (0 : UInt8) := by
    rw [List.append_assoc, ← List.drop_drop, List.drop_left' hl, slotB_length, List.drop_append_of_le_length (by simp; omega), List.drop_replicate]
    congr 2
    omega
  rw [e1, e2]
  simp
/-- The chunk of a slot. -/
def readFrom : Nat → List (List UInt8) → Int → Int → Option (List UInt8)
  | _, [], _, _ => none
  | a, c :: cs, o, n => if o = ((a + 8 : Nat) : Int) ∧ n = (c.length : Int) then some c else readFrom (a + 8 + c.length) cs o n
theorem readFrom_some : ∀ (cs : List (List UInt8)) (a : Nat) (o n : Int), (readFrom a cs o n).isSome = (slotsFrom a cs).any (fun p => o == (p.1 : Int) && n == (p.2 : Int)) := by
  intro cs
  induction cs with
  | nil => intro a o n; rfl
  | cons c cs ih =>
    intro a o n
    simp only [readFrom, slotsFrom, List.any_cons]
    by_cases h : o = ((a + 8 : Nat) : Int) ∧ n = (c.length : Int)
    · rw [if_pos h, h.1, h.2]; simp
    · rw [if_neg h, ih]
      have : (o == ((a + 8 : Nat) : Int) && n == (c.length : Int)) = false := by
        rw [Bool.and_eq_false_iff, beq_eq_false_iff_ne, beq_eq_false_iff_ne]
        by_cases h1 : o = ((a + 8 : Nat) : Int)
        · exact .inr fun h2 => h ⟨h1, h2⟩
        · exact .inl h1
      rw [this, Bool.false_or]
/-- It lies in the image. -/
theorem readFrom_cut : ∀ (cs : List (List UInt8)) (pre : List UInt8) (suf : List UInt8) (o n : Int) (c : List UInt8), readFrom pre.length cs o n = some c →
    ∃ k m : Nat, o = (k : Int) ∧ n = (m : Int) ∧ 8 ≤ k ∧ k + m ≤ pre.length + (cs.flatMap slotB).length ∧ c ∈ cs ∧ c.length = m ∧ ((pre ++ cs.flatMap slotB ++ suf).drop k).take m = c := by
  intro cs
  induction cs with
  | nil => intro pre suf o n c h; simp [readFrom] at h
  | cons d cs ih =>
    intro pre suf o n c h
    simp only [readFrom] at h
    split at h
    · rename_i h1
      simp at h
      subst h
      refine ⟨pre.length + 8, d.length, h1.1, h1.2, by omega, by simp; omega, by simp, rfl, ?_⟩
      have : pre ++ (d :: cs).flatMap slotB ++ suf = (pre ++ (be 4 d.length ++ be 4 (crcOf (be 4 d.length ++ d)))) ++ (d ++ (cs.flatMap slotB ++ suf)) := by simp [slotB]
      rw [this, List.drop_left' (by simp), List.take_left' rfl]
    · have := ih (pre ++ slotB d) suf o n c (by rw [List.length_append, slotB_length, ← Nat.add_assoc]; exact h)
      obtain ⟨k, m, h1, h2, h3, h4, h5, h6, h7⟩ := this
      refine ⟨k, m, h1, h2, h3, by simp at h4 ⊢; omega, by simp [h5], h6, ?_⟩
      simpa using h7
def PS.read (st : PS) (o n : Int) : Option (List UInt8) := readFrom 16 st.chunks o n
theorem PS.Ok.read {st : PS} (ok : st.Ok) {o n : Int} {c : List UInt8} (h : st.read o n = some c) : ∃ k m : Nat, o = (k : Int) ∧ n = (m : Int) ∧ k + m ≤ st.bytes ∧ c ≠ [] ∧ c.length = m ∧ (st.image.drop k).take m = c := by
  have h16 : (mark16 dpak st.id st.count).length = 16 := mark16_length rfl _ _
  obtain ⟨k, m, h1, h2, -, h4, h5, h6, h7⟩ := readFrom_cut st.chunks (mark16 dpak st.id st.count) (List.replicate (st.bytes - 16 - endOf st.chunks) 0 ++ st.foot) o n c (by rw [h16]; exact h)
  have := bodyB_length st.id st.count st.chunks
  simp only [bodyB, List.length_append] at this
  have := ok.room
  refine ⟨k, m, h1, h2, by omega, ok.ne c h5, h6, ?_⟩
  rw [← h7]
  simp [PS.image, bodyB]

/-! ### As it lies -/
structure Sep (p : Nat) (A B C : List Nat) : Prop where
  pa : p ∉ A
  pb : p ∉ B
  pc : p ∉ C
  ab : ∀ b, b ∈ A → b ∉ B
  ac : ∀ b, b ∈ A → b ∉ C
  bc : ∀ b, b ∈ B → b ∉ C
def LastV (w0 : World) (h : Hp) (x : Value) (t : Option (List UInt8)) (T : List Nat) : Prop :=
  match t with
  | none => x = .slice none 0 0 ∧ T = []
  | some t => GV w0 h 1 x t.length (bvs t) T
theorem LastV.lt {w0 : World} {h : Hp} {x : Value} {t : Option (List UInt8)} {T : List Nat} (v : LastV w0 h x t T) : ∀ b, b ∈ T → w0.heap.size ≤ b ∧ b < h.next := by
  cases t with
  | none => obtain ⟨-, rfl⟩ := v; simp
  | some t => exact GV.lt v
theorem LastV.frame {w0 : World} {h h' : Hp} {x : Value} {t : Option (List UInt8)} {T S S' : List Nat} (v : LastV w0 h x t T) (st : Step h h' S S') (hd : ∀ b, b ∈ T → b ∉ S) : LastV w0 h' x t T := by
  cases t with
  | none => exact v
  | some t => exact GV.frame v st hd
theorem LastV.slice {w0 : World} {h : Hp} {x : Value} {t : Option (List UInt8)} {T : List Nat} (v : LastV w0 h x t T) : ∃ a n c, x = .slice a n c := by
  cases t with
  | none => obtain ⟨rfl, -⟩ := v; exact ⟨_, _, _, rfl⟩
  | some t => obtain ⟨a, c, e⟩ := GV.slice v; exact ⟨a, _, c, e⟩
def pkC (st : PS) (xi xs xt : Value) : List Value :=
  [.int .i64 st.size, .int .i64 st.count, .int .u32 st.id, xi, xs, .bool st.shut, xt, .int .i64 st.taken, .bool st.closed]
/-- The program's container. -/
structure Pk1 (w0 : World) (h : Hp) (p : Nat) (st : PS) (xi xs xt : Value) (A B C : List Nat) : Prop where
  blk : h.blk p = some (pkC st xi xs xt)
  base : w0.heap.size ≤ p
  lt : p < h.next
  vi : GV w0 h 1 xi st.image.length (bvs st.image) A
  vs : GV w0 h 2 xs st.chunks.length (slotC (slotsFrom 16 st.chunks)) B
  vt : LastV w0 h xt st.last C
  sep : Sep p A B C
def Pk (w0 : World) (h : Hp) (p : Nat) (st : PS) (S : List Nat) : Prop := ∃ xi xs xt A B C, Pk1 w0 h p st xi xs xt A B C ∧ S = p :: (A ++ (B ++ C))
section
variable {w0 : World} {h h' : Hp} {p : Nat} {st : PS} {S : List Nat}
theorem Pk.lts (w : Pk w0 h p st S) : ∀ b, b ∈ S → w0.heap.size ≤ b ∧ b < h.next := by
  obtain ⟨xi, xs, xt, A, B, C, w, rfl⟩ := w
  intro b hb
  simp only [List.mem_cons, List.mem_append] at hb
  rcases hb with rfl | hb | hb | hb
  · exact ⟨w.base, w.lt⟩
  · exact w.vi.lt b hb
  · exact w.vs.lt b hb
  · exact w.vt.lt b hb
theorem Pk.mem (w : Pk w0 h p st S) : p ∈ S := by obtain ⟨xi, xs, xt, A, B, C, w, rfl⟩ := w; simp
theorem Pk.refl (w : Pk w0 h p st S) : Step h h S S := Step.refl _ _ fun b hb => (w.lts b hb).2
theorem Pk1.frame {xi xs xt : Value} {A B C T T' : List Nat} (w : Pk1 w0 h p st xi xs xt A B C) (s : Step h h' T T') (hd : ∀ b, b ∈ p :: (A ++ (B ++ C)) → b ∉ T) : Pk1 w0 h' p st xi xs xt A B C :=
  ⟨(s.keep p w.lt (hd p (by simp))).1.trans w.blk, w.base, Nat.lt_of_lt_of_le w.lt s.next, w.vi.frame s fun b hb => hd b (by simp [hb]), w.vs.frame s fun b hb => hd b (by simp [hb]), w.vt.frame s fun b hb => hd b (by simp [hb]), w.sep⟩
theorem Pk.frame {T T' : List Nat} (w : Pk w0 h p st S) (s : Step h h' T T') (hd : ∀ b, b ∈ S → b ∉ T) : Pk w0 h' p st S := by
  obtain ⟨xi, xs, xt, A, B, C, w, rfl⟩ := w
  exact ⟨xi, xs, xt, A, B, C, w.frame s hd, rfl⟩
/-- An element of a slice of one's own. -/
theorem GV.idx {s n i : Nat} {x : Value} {cs : List Value} {T : List Nat} {k : IntKind} {K : Kont} (v : GV w0 h s x n cs T) (hi : i < n) (hk : ∀ q, q ∈ T → w0.heap.size ≤ q → h.blk q = some cs → K (.pointer (some ⟨q, i * s, none⟩)) h) :
    idxSlA s x (.int k (i : Int)) K h := by
  rcases v with v | ⟨q, rfl, rfl, a, b, c, _, f⟩
  · rcases v with ⟨rfl, rfl, rfl, rfl⟩ | ⟨q, rfl, rfl, a, b, d, e', f⟩
    · omega
    · rw [idxSlA_iff]
      refine ⟨by omega, by omega, ?_⟩
      rw [addr_add, Int.toNat_natCast, Nat.zero_add]
      exact hk q (by simp) a d
  · rw [idxSlA_iff]
    refine ⟨by omega, by omega, ?_⟩
    rw [addr_add, Int.toNat_natCast, Nat.zero_add]
    exact hk q (by simp) a c
end
end Go.Proofs.Ytfhamcobfpmgbaa.Ah
