/- RunNobody. -/
import Derived.Test.YtfmoemconapmhaaGreatExk
import Derived.Test.YtfmoemconapmhaaGreatExf
import Derived.Test.YtfmoemconapmhaaGreatExj
set_option linter.unusedVariables false
set_option linter.unusedSimpArgs false
set_option linter.constructorNameAsVariable false
namespace Go.Proofs.YtfmoemconapmhaaGreat.Ah
open Go
section
variable {w0 : World} {h h' : Hp}
theorem rangeV_nil {fv : Value} {np : Nat} {round : Nat → Lp → List Value → Kont → Hp → Prop} {K0 : Hp → Prop} {Ks : List (Option Nat × (Hp → Prop))} {T : List Nat} (f : Fit w0 h) (it : ∀ g, ItV prog w0 fv (h.newLp g) T [])
    (k0 : ∀ h3, Fit w0 h3 → YStep 0 h h3 [] [] → K0 h3) : rangeA prog w0 fv np round K0 Ks h := by
  refine rangeA_of' (xs := []) (T := T) 0 (Nat.zero_le _) f it (fun _ _ _ _ _ => False) (fun _ _ _ _ _ _ c => c.elim) [] (fun _ _ S => S = []) (fun _ _ _ => False) (fun i => ⟨fun _ _ _ _ e => e, fun _ _ _ _ _ _ e _ _ _ => e, fun _ _ e => by subst e; simp⟩) (fun o => ⟨fun _ _ _ _ e => e, fun _ _ _ _ _ _ e _ _ _ => e, fun _ _ e => e.elim⟩)
    rfl (by simp) (by simp) (fun i x h1 S1 g K hx => by simp at hx) (fun h3 S2 f3 ys e => ?_) (fun o h3 S2 f3 ys e => e.elim)
  subst e
  exact k0 h3 f3 ys
end
theorem putK_mem' {l : List Itm} (s : Srt l) (k : Key) (v : Ent) (x : Itm) : x ∈ putK l k v ↔ x = (k, v) ∨ (x ∈ l ∧ x.1 ≠ k) := by
  cases hh : hasK l k with
  | false =>
    rw [putK_mem hh]
    constructor
    · rintro (h | h)
      · exact .inl h
      · exact .inr ⟨h, (hasK_not s k).1 hh x h⟩
    · rintro (h | ⟨h, -⟩)
      · exact .inl h
      · exact .inr h
  | true =>
    obtain ⟨u, hu⟩ := hasK_some hh
    have hil := (List.getElem?_eq_some_iff.1 hu).1
    have e : putK l k v = l.take (findK l k) ++ (k, v) :: l.drop (findK l k + 1) := by rw [putK_eq, if_pos hh]
    have el : l = l.take (findK l k) ++ (k, u) :: l.drop (findK l k + 1) := by
      have h1 := List.drop_eq_getElem_cons hil
      rw [(List.getElem?_eq_some_iff.1 hu).2] at h1
      rw [← h1, List.take_append_drop]
    have h1 : ∀ y, y ∈ l.take (findK l k) → y.1 ≠ k := fun y hy => blt_ne (take_lt hy)
    have h2 : ∀ y, y ∈ l.drop (findK l k + 1) → y.1 ≠ k := fun y hy => (blt_ne (drop_gt' s hh hy)).symm
    rw [e, List.mem_append, List.mem_cons]
    constructor
    · rintro (h | h | h)
      · exact .inr ⟨List.mem_of_mem_take h, h1 x h⟩
      · exact .inl h
      · exact .inr ⟨List.mem_of_mem_drop h, h2 x h⟩
    · rintro (h | ⟨h, hne⟩)
      · exact .inr (.inl h)
      · rw [el, List.mem_append, List.mem_cons] at h
        rcases h with h | h | h
        · exact .inl h
        · exact absurd (by rw [h]) hne
        · exact .inr (.inr h)
def puts (l : List Ent) (es : List Ent) : List Ent := es.foldl withE l
theorem puts_srt : ∀ (es l : List Ent), l.Pairwise (fun x y => blt x.k y.k = true) → (puts l es).Pairwise fun x y => blt x.k y.k = true
  | [], l, h => h
  | x :: es, l, h => puts_srt es _ (withE_srt h x)
theorem withE_mem {l : List Ent} (s : l.Pairwise fun x y => blt x.k y.k = true) (x y : Ent) : y ∈ withE l x ↔ y = x ∨ (y ∈ l ∧ y.k ≠ x.k) := by
  have h := putK_mem' (kl_srt s) x.k x (y.k, y)
  rw [putK_kl] at h
  have km : ∀ l : List Ent, (y.k, y) ∈ kl l ↔ y ∈ l := by
    intro l
    unfold kl
    rw [List.mem_map]
    constructor
    · rintro ⟨z, hz, e⟩
      have : z = y := congrArg (·.2) e
      rw [← this]; exact hz
    · intro hy; exact ⟨y, hy, rfl⟩
  rw [km, km] at h
  rw [h]
  constructor
  · rintro (e | e)
    · exact .inl (congrArg (·.2) e)
    · exact .inr e
  · rintro (e | e)
    · exact .inl (by rw [e])
    · exact .inr e
theorem puts_mem : ∀ (es l : List Ent), l.Pairwise (fun x y => blt x.k y.k = true) → es.Pairwise (fun x y => blt x.k y.k = true) → ∀ y, y ∈ puts l es ↔ y ∈ es ∨ (y ∈ l ∧ ∀ x, x ∈ es → y.k ≠ x.k)
  | [], l, h, _, y => by simp [puts]
  | x :: es, l, h, hs, y => by
    obtain ⟨h1, h2⟩ := List.pairwise_cons.1 hs
    have ih := puts_mem es (withE l x) (withE_srt h x) h2 y
    rw [show puts l (x :: es) = puts (withE l x) es from rfl, ih, withE_mem h]
    constructor
    · rintro (a | ⟨a | ⟨a, b⟩, c⟩)
      · exact .inl (List.mem_cons_of_mem _ a)
      · exact .inl (by rw [a]; simp)
      · refine .inr ⟨a, fun z hz => ?_⟩
        rcases List.mem_cons.1 hz with e | e
        · rw [e]; exact b
        · exact c z e
    · rintro (a | ⟨a, c⟩)
      · rcases List.mem_cons.1 a with e | e
        · refine .inr ⟨.inl e, fun z hz => ?_⟩
          rw [e]
          exact blt_ne (h1 z hz)
        · exact .inl e
      · exact .inr ⟨.inr ⟨a, c x (by simp)⟩, fun z hz => c z (by simp [hz])⟩
theorem kl_mem {l : List Ent} {y : Ent} : (y.k, y) ∈ kl l ↔ y ∈ l := by
  unfold kl
  rw [List.mem_map]
  constructor
  · rintro ⟨z, hz, e⟩
    have : z = y := congrArg (·.2) e
    rw [← this]; exact hz
  · intro hy; exact ⟨y, hy, rfl⟩
theorem cons_isM {a acc : List Ent} {ls : List (List Itm)} (ha : a.Pairwise fun x y => blt x.k y.k = true) (h : IsM ls (kl acc)) : IsM (kl a :: ls) (kl (puts acc a)) := by
  have hs := srt_kl h.srt
  have hm := puts_mem a acc hs ha
  refine ⟨kl_srt (puts_srt a acc hs), fun x hx => ?_, fun m l' y hl hy => ?_⟩
  · obtain ⟨z, hz, rfl⟩ := List.mem_map.1 hx
    rcases (hm z).1 hz with h1 | ⟨h1, h2⟩
    · exact ⟨0, kl a, rfl, kl_mem.2 h1, fun m l' hm => by omega⟩
    · obtain ⟨n, l, e1, e2, e3⟩ := h.sub _ (kl_mem.2 h1)
      refine ⟨n + 1, l, by simpa using e1, e2, fun m l' hm hl' y hy => ?_⟩
      cases m with
      | zero =>
        simp at hl'
        subst hl'
        obtain ⟨w, hw, rfl⟩ := List.mem_map.1 hy
        exact (h2 w hw).symm
      | succ m => exact e3 m l' (by omega) (by simpa using hl') y hy
  · cases m with
    | zero =>
      simp at hl
      subst hl
      obtain ⟨w, hw, rfl⟩ := List.mem_map.1 hy
      exact ⟨(w.k, w), kl_mem.2 ((hm w).2 (.inl hw)), rfl⟩
    | succ m =>
      obtain ⟨o, ho, e⟩ := h.all m l' y (by simpa using hl) hy
      obtain ⟨z, hz, rfl⟩ := List.mem_map.1 ho
      by_cases hex : ∃ x, x ∈ a ∧ x.k = z.k
      · obtain ⟨x, hx, e2⟩ := hex
        exact ⟨(x.k, x), kl_mem.2 ((hm x).2 (.inl hx)), by rw [← e]; exact e2⟩
      · exact ⟨(z.k, z), kl_mem.2 ((hm z).2 (.inr ⟨hz, fun x hx e2 => hex ⟨x, hx, e2.symm⟩⟩)), e⟩
def overs : List (List Ent) → List Ent
  | [] => []
  | l :: ls => puts (overs ls) l
theorem overs_isM : ∀ ls : List (List Ent), (∀ l, l ∈ ls → l.Pairwise fun x y => blt x.k y.k = true) → IsM (ls.map kl) (kl (overs ls))
  | [], _ => ⟨List.Pairwise.nil, by simp [overs, kl], fun m l' y hm => by simp at hm⟩
  | l :: ls, h => cons_isM (h l (by simp)) (overs_isM ls fun l' hl' => h l' (by simp [hl']))
theorem isM_overs {ls : List (List Ent)} {out : List Itm} (h : ∀ l, l ∈ ls → l.Pairwise fun x y => blt x.k y.k = true) (im : IsM (ls.map kl) out) : out = kl (overs ls) :=
  IsM.uniq (fun l hl => by
    obtain ⟨z, hz, rfl⟩ := List.mem_map.1 hl
    exact kl_srt (h z hz)) im (overs_isM ls h)
section
variable {w0 : World} {h h' : Hp}
def flt (dr : Bool) (l : List Ent) : List Ent := l.filter fun x => !dr || !x.g
end
end Go.Proofs.YtfmoemconapmhaaGreat.Ah
