/- RunNobody. -/
import Derived.Test.YtfmoemconapmhaaGreatExk
import Derived.Test.YtfmoemconapmhaaGreatExf
import Derived.Test.YtfmoemconapmhaaGreatExj
set_option linter.unusedVariables false
set_option linter.unusedSimpArgs false
set_option linter.constructorNameAsVariable false
namespace Go.Proofs.YtfmoemconapmhaaGreat.Ah
open Go
theorem q04l {l : List Itm} (s : Srt l) (k : Key) (v : Ent) (x : Itm) : x ∈ putK l k v ↔ x = (k, v) ∨ (x ∈ l ∧ x.1 ≠ k) := by
 cases hh : hasK l k with
 | false =>
  rw [qrj hh]
  constructor
  ·rintro (h | h)
   ·exact .inl h
   ·exact .inr ⟨h, (qhm s k).1 hh x h⟩
  ·rintro (h | ⟨h, -⟩)
   ·exact .inl h
   ·exact .inr h
 | true =>
  obtain ⟨u, hu⟩ := q4j hh
  have hil := (List.getElem?_eq_some_iff.1 hu).1
  have e : putK l k v = l.take (findK l k) ++ (k, v) :: l.drop (findK l k + 1) := by rw [qs9, if_pos hh]
  have el : l = l.take (findK l k) ++ (k, u) :: l.drop (findK l k + 1) := by
   have h1 := List.drop_eq_getElem_cons hil
   rw [(List.getElem?_eq_some_iff.1 hu).2] at h1
   rw [← h1, List.take_append_drop]
  have h1 : ∀ y, y ∈ l.take (findK l k) → y.1 ≠ k := fun y hy => q0s (qc7 hy)
  have h2 : ∀ y, y ∈ l.drop (findK l k + 1) → y.1 ≠ k := fun y hy => (q0s (qrg s hh hy)).symm
  rw [e, List.mem_append, List.mem_cons]
  constructor
  ·rintro (h | h | h)
   ·exact .inr ⟨List.mem_of_mem_take h, h1 x h⟩
   ·exact .inl h
   ·exact .inr ⟨List.mem_of_mem_drop h, h2 x h⟩
  ·rintro (h | ⟨h, hne⟩)
   ·exact .inr (.inl h)
   ·rw [el, List.mem_append, List.mem_cons] at h
    rcases h with h | h | h
    ·exact .inl h
    ·exact absurd (by rw [h]) hne
    ·exact .inr (.inr h)
def puts (l : List Ent) (es : List Ent) : List Ent := es.foldl withE l
theorem qc4 : ∀ (es l : List Ent), l.Pairwise (fun x y => blt x.k y.k = true) → (puts l es).Pairwise fun x y => blt x.k y.k = true
 | [], l, h => h
 | x :: es, l, h => qc4 es _ (q5e h x)
theorem q04f {l : List Ent} (s : l.Pairwise fun x y => blt x.k y.k = true) (x y : Ent) : y ∈ withE l x ↔ y = x ∨ (y ∈ l ∧ y.k ≠ x.k) := by
 have h := q04l (q0t s) x.k x (y.k, y)
 rw [qcb] at h
 have km : ∀ l : List Ent, (y.k, y) ∈ kl l ↔ y ∈ l := by
  intro l
  unfold kl
  rw [List.mem_map]
  constructor
  ·rintro ⟨z, hz, e⟩
   have : z = y := congrArg (·.2) e
   rw [← this]; exact hz
  ·intro hy; exact ⟨y, hy, rfl⟩
 rw [km, km] at h
 rw [h]
 constructor
 ·rintro (e | e)
  ·exact .inl (congrArg (·.2) e)
  ·exact .inr e
 ·rintro (e | e)
  ·exact .inl (by rw [e])
  ·exact .inr e
theorem qhw : ∀ (es l : List Ent), l.Pairwise (fun x y => blt x.k y.k = true) → es.Pairwise (fun x y => blt x.k y.k = true) → ∀ y, y ∈ puts l es ↔ y ∈ es ∨ (y ∈ l ∧ ∀ x, x ∈ es → y.k ≠ x.k)
 | [], l, h, _, y => by simp [puts]
 | x :: es, l, h, hs, y => by
  obtain ⟨h1, h2⟩ := List.pairwise_cons.1 hs
  have ih := qhw es (withE l x) (q5e h x) h2 y
  rw [show puts l (x :: es) = puts (withE l x) es from rfl, ih, q04f h]
  constructor
  ·rintro (a | ⟨a | ⟨a, b⟩, c⟩)
   ·exact .inl (List.mem_cons_of_mem _ a)
   ·exact .inl (by rw [a]; simp)
   ·refine .inr ⟨a, fun z hz => ?_⟩
    rcases List.mem_cons.1 hz with e | e
    ·rw [e]; exact b
    ·exact c z e
  ·rintro (a | ⟨a, c⟩)
   ·rcases List.mem_cons.1 a with e | e
    ·refine .inr ⟨.inl e, fun z hz => ?_⟩
     rw [e]
     exact q0s (h1 z hz)
    ·exact .inl e
   ·exact .inr ⟨.inr ⟨a, c x (by simp)⟩, fun z hz => c z (by simp [hz])⟩
theorem q8n {l : List Ent} {y : Ent} : (y.k, y) ∈ kl l ↔ y ∈ l := by
 unfold kl
 rw [List.mem_map]
 constructor
 ·rintro ⟨z, hz, e⟩
  have : z = y := congrArg (·.2) e
  rw [← this]; exact hz
 ·intro hy; exact ⟨y, hy, rfl⟩
theorem q07k {a acc : List Ent} {ls : List (List Itm)} (ha : a.Pairwise fun x y => blt x.k y.k = true) (h : IsM ls (kl acc)) : IsM (kl a :: ls) (kl (puts acc a)) := by
 have hs := qt8 h.srt
 have hm := qhw a acc hs ha
 refine ⟨q0t (qc4 a acc hs), fun x hx => ?_, fun m l' y hl hy => ?_⟩
 ·obtain ⟨z, hz, rfl⟩ := List.mem_map.1 hx
  rcases (hm z).1 hz with h1 | ⟨h1, h2⟩
  ·exact ⟨0, kl a, rfl, q8n.2 h1, fun m l' hm => by omega⟩
  ·obtain ⟨n, l, e1, e2, e3⟩ := h.sub _ (q8n.2 h1)
   refine ⟨n + 1, l, by simpa using e1, e2, fun m l' hm hl' y hy => ?_⟩
   cases m with
   | zero =>
    simp at hl'
    subst hl'
    obtain ⟨w, hw, rfl⟩ := List.mem_map.1 hy
    exact (h2 w hw).symm
   | succ m => exact e3 m l' (by omega) (by simpa using hl') y hy
 ·cases m with
  | zero =>
   simp at hl
   subst hl
   obtain ⟨w, hw, rfl⟩ := List.mem_map.1 hy
   exact ⟨(w.k, w), q8n.2 ((hm w).2 (.inl hw)), rfl⟩
  | succ m =>
   obtain ⟨o, ho, e⟩ := h.all m l' y (by simpa using hl) hy
   obtain ⟨z, hz, rfl⟩ := List.mem_map.1 ho
   by_cases hex : ∃ x, x ∈ a ∧ x.k = z.k
   ·obtain ⟨x, hx, e2⟩ := hex
    exact ⟨(x.k, x), q8n.2 ((hm x).2 (.inl hx)), by rw [← e]; exact e2⟩
   ·exact ⟨(z.k, z), q8n.2 ((hm z).2 (.inr ⟨hz, fun x hx e2 => hex ⟨x, hx, e2.symm⟩⟩)), e⟩
def overs : List (List Ent) → List Ent
 | [] => []
 | l :: ls => puts (overs ls) l
theorem qr0 : ∀ ls : List (List Ent), (∀ l, l ∈ ls → l.Pairwise fun x y => blt x.k y.k = true) → IsM (ls.map kl) (kl (overs ls))
 | [], _ => ⟨List.Pairwise.nil, by simp [overs, kl], fun m l' y hm => by simp at hm⟩
 | l :: ls, h => q07k (h l (by simp)) (qr0 ls fun l' hl' => h l' (by simp [hl']))
theorem qqj {ls : List (List Ent)} {out : List Itm} (h : ∀ l, l ∈ ls → l.Pairwise fun x y => blt x.k y.k = true) (im : IsM (ls.map kl) out) : out = kl (overs ls) :=
 IsM.uniq (fun l hl => by
  obtain ⟨z, hz, rfl⟩ := List.mem_map.1 hl
  exact q0t (h z hz)) im (qr0 ls h)
section
variable {w0 : World} {h h' : Hp}
theorem q09p {l : List Ent} {i : Nat} {x : Ent} (h : l[i]? = some x) : (kl l)[i]? = some (x.k, x) := by unfold kl; rw [List.getElem?_map, h]; rfl
def flt (dr : Bool) (l : List Ent) : List Ent := l.filter fun x => !dr || !x.g
theorem q06f (dr : Bool) (l : List Ent) (x : Ent) : flt dr (l ++ [x]) = flt dr l ++ (if (!dr || !x.g) = true then [x] else []) := by
 unfold flt
 rw [List.filter_append]
 congr 1
 simp [List.filter_cons]
end
end Go.Proofs.YtfmoemconapmhaaGreat.Ah
