/- RunNobody. -/
import Derived.Test.YtfmoemconapmhaaGreatExk
import Derived.Test.YtfmoemconapmhaaGreatExf
import Derived.Test.YtfmoemconapmhaaGreatExj
set_option linter.unusedVariables false
set_option linter.unusedSimpArgs false
set_option linter.constructorNameAsVariable false
namespace Go.Proofs.YtfmoemconapmhaaGreat.Ah
open Go
section
variable {w0 : World} {h h' : Hp}
theorem rangeV_nil {fv : Value} {np : Nat} {round : Nat → Lp → List Value → Kont → Hp → Prop} {K0 : Hp → Prop} {Ks : List (Option Nat × (Hp → Prop))} {T : List Nat} (f : Fit w0 h) (it : ∀ g, ItV prog w0 fv (h.newLp g) T [])
    (k0 : ∀ h3, Fit w0 h3 → YStep 0 h h3 [] [] → K0 h3) : rangeA prog w0 fv np round K0 Ks h := by
  refine rangeA_of' (xs := []) (T := T) 0 (Nat.zero_le _) f it (fun _ _ _ _ _ => False) (fun _ _ _ _ _ _ c => c.elim) [] (fun _ _ S => S = []) (fun _ _ _ => False) (fun i => ⟨fun _ _ _ _ e => e, fun _ _ _ _ _ _ e _ _ _ => e, fun _ _ e => by subst e; simp⟩) (fun o => ⟨fun _ _ _ _ e => e, fun _ _ _ _ _ _ e _ _ _ => e, fun _ _ e => e.elim⟩)
    rfl (by simp) (by simp) (fun i x h1 S1 g K hx => by simp at hx) (fun h3 S2 f3 ys e => ?_) (fun o h3 S2 f3 ys e => e.elim)
  subst e
  exact k0 h3 f3 ys
end
theorem fE_cons (x : Ent) (l : List Ent) (k : Key) : fE (x :: l) k = if blt x.k k = true then fE l k + 1 else 0 := rfl
theorem fE_pre {pre post : List Ent} {k : Key} (h : ∀ x, x ∈ pre → blt x.k k = true) : fE (pre ++ post) k = pre.length + fE post k := by
  induction pre with
  | nil => simp
  | cons x pre ih =>
    rw [List.cons_append, fE_cons, if_pos (h x (by simp)), ih (fun y hy => h y (by simp [hy])), List.length_cons]
    omega
section
variable {w0 : World} {h h' : Hp}
theorem lenA_sl2 {s n : Nat} {x : Value} {ys : List Value} (v : Sl w0 h s x n ys) : lenA x = some n := by obtain ⟨a, c, e⟩ := v.slice; rw [e]; simp
theorem rfind_loop {k0 kr : Value → Value → Value → Hp → Prop} {v x4 x5 : Value} {l : List Ent} {k : Key} {hh : Hp} (hv : Es w0 hh v l) (fh : Fit w0 hh) (hl : l.length ≤ 1000000000)
    (h1 : ∀ h', Step hh h' [] [] → fE l k = l.length → isAt (kl l) k (fE l k) = false → k0 v x4 x5 h') (h2 : ∀ h', Step hh h' [] [] → kr v (.int .i64 (fE l k : Int)) (.bool (isAt (kl l) k (fE l k))) h') : ∀ (post pre : List Ent) (h3 : Hp), pre ++ post = l → (∀ x, x ∈ pre → blt x.k k = true) → Step hh h3 [] [] →
      dedupref12_Find_L1 prog w0 k0 kr (post.length + 1) v (.string (str k)) x4 x5 v (.int .i64 (l.length : Int)) (.int .i64 (pre.length : Int)) h3 := by
  intro post
  induction post with
  | nil =>
    intro pre h3 he hp st
    have hpre : pre = l := by simpa using he
    subst hpre
    rw [List.length_nil, dedupref12_Find_L1]
    simp only [dedupref12_Find_B1, wd, List.getElem?_toArray, List.getElem?_cons_zero, List.getElem?_cons_succ, Int.lt_irrefl, decide_false]
    have hf := fE_pre (post := []) hp
    rw [List.append_nil] at hf
    have hf2 : fE pre k = pre.length := by rw [hf]; rfl
    refine h1 h3 st hf2 ?_
    rw [isAt_kl, hf2]
    simp
  | cons x post ih =>
    intro pre h3 he hp st
    have hlen : pre.length + (post.length + 1) = l.length := by rw [← he]; simp
    have hg : l[pre.length]? = some x := by rw [← he]; simp
    have c1 : decide ((pre.length : Int) < (l.length : Int)) = true := decide_eq_true (by omega)
    have e6 : IntKind.i64.wrap ((pre.length : Int) + 1) = (((pre ++ [x]).length : Nat) : Int) := by rw [IntWalk.i64_in _ (by omega)]; simp
    have v3 : Es w0 h3 v l := hv.step fh st (by simp)
    have fb : w0.heap.size ≤ h3.next := Nat.le_trans fh.base st.1
    rw [List.length_cons, dedupref12_Find_L1]
    simp only [dedupref12_Find_B1, wd, List.getElem?_toArray, List.getElem?_cons_zero, List.getElem?_cons_succ, c1]
    refine v3.elem (by omega) (es_get hg) ?_
    refine boxN fb rfl rfl zE_cell ?_
    have sx : Step h3 (h3.new (ee x) 3) [] [h3.next] := (Step.refl h3 [] (by simp)).new _ _
    have bx : (h3.new (ee x) 3).blk h3.next = some (ee x) := by simp
    have stx : Step hh (h3.new (ee x) 3) [] [] := st.trans (sx.less (by simp))
    generalize h3.new (ee x) 3 = h4 at *
    simp only [wd, List.getElem?_toArray, List.getElem?_cons_zero, List.getElem?_cons_succ]
    refine loadA_at fb bx rfl ?_
    simp only [s_geq, wd, List.getElem?_toArray, List.getElem?_cons_zero, List.getElem?_cons_succ]
    cases hb : blt x.k k with
    | true =>
      simp only [Bool.not_true, e6, wd, List.getElem?_toArray, List.getElem?_cons_zero, List.getElem?_cons_succ]
      exact ih (pre ++ [x]) h4 (by simpa using he) (fun y hy => by
        rcases List.mem_append.1 hy with q | q
        · exact hp y q
        · simp at q; subst q; exact hb) stx
    | false =>
      simp only [Bool.not_false, wd, List.getElem?_toArray, List.getElem?_cons_zero, List.getElem?_cons_succ]
      refine loadA_at fb bx rfl ?_
      have hf : fE l k = pre.length := by rw [← he, fE_pre hp, fE_cons, if_neg (by simp [hb])]; simp
      have ha : isAt (kl l) k pre.length = decide (x.k = k) := by rw [isAt_kl, hg]
      simp only [s_eql, wd, List.getElem?_toArray, List.getElem?_cons_zero, List.getElem?_cons_succ]
      have := h2 h4 stx
      rw [hf, ha] at this
      exact this
theorem rFind_spec {v : Value} {l : List Ent} (hv : Es w0 h v l) (hl : l.length ≤ 1000000000) (k : Key) : ACalls prog w0 n_dedupref12_Find [v, .string (str k)] h fun r h' => r = .tuple #[.int .i64 (fE l k : Int), .bool (isAt (kl l) k (fE l k))] ∧ Step h h' [] [] := by
  refine ACalls.of_fit (by simpa using hv.junk) fun f => c_dedupref12_Find (by simpa using hv.junk) ?_
  simp only [s_dedupref12_Find, hv.lenv, wd, List.getElem?_toArray, List.getElem?_cons_zero, List.getElem?_cons_succ]
  refine ⟨l.length + 1, rfind_loop hv f hl (fun h' st e1 e2 => ?_) (fun h' st => ?_) l [] h rfl (by simp) (.refl _ _ (by simp))⟩
  · simp only [hv.lenv, wd, List.getElem?_toArray, List.getElem?_cons_zero, List.getElem?_cons_succ, retA_iff, oneOf_two]
    exact ⟨by simp, by rw [e1] at e2 ⊢; rw [e2], st⟩
  · simp only [retA_iff, oneOf_two]
    exact ⟨by simp, trivial, st⟩
theorem rWith_spec {v : Value} {l : List Ent} (hv : Es w0 h v l) (hl : l.length ≤ 1000000000) (x : Ent) : ACalls prog w0 n_dedupref12_With [v, .agg (ee x).toArray] h fun r h' => ∃ S', Vec w0 h' 3 r (withE l x).length ((withE l x).flatMap ee) S' ∧ Step h h' [] S' := by
  refine ACalls.of_fit (by simp [hv.junk]) fun f => c_dedupref12_With (by simp [hv.junk]) ?_
  have fb := f.base
  have hfl := fE_le l x.k
  simp only [s_dedupref12_With, boxA_agg]
  have sx : Step h (h.new (ee x) 3) [] [h.next] := (Step.refl h [] (by simp)).new _ _
  have bx : (h.new (ee x) 3).blk h.next = some (ee x) := by simp
  have nx : h.next < (h.new (ee x) 3).next := by simp
  have fx : Fit w0 (h.new (ee x) 3) := f.new (by simp [ee, isCell])
  have vx : Es w0 (h.new (ee x) 3) v l := hv.step f sx (by simp)
  show addA _ 0 _ (h.new (ee x) 3)
  generalize h.new (ee x) 3 = h1 at *
  simp only [wd, List.getElem?_toArray, List.getElem?_cons_zero, List.getElem?_cons_succ]
  refine loadA_at fb bx rfl ?_
  refine callA_of (rFind_spec vx hl x.k) fun r h2 ⟨e, s2⟩ f2 => ?_
  subst e
  have v2 : Es w0 h2 v l := vx.step fx s2 (by simp)
  have b2 : h2.blk h.next = some (ee x) := by rw [(s2.keep _ nx (by simp)).1]; exact bx
  have n2 : h.next < h2.next := Nat.lt_of_lt_of_le nx s2.1
  have hz0 : zerosL [(Value.string .empty), .string .empty, .bool false] 0 = [] := rfl
  simp only [bslA_iff, fillA_nil, hz0, wd, List.getElem?_toArray, List.getElem?_cons_zero, List.getElem?_cons_succ]
  have g3 : GV w0 (h2.new [] 3) 3 (.slice (some ⟨h2.next, 0, none⟩) 0 0) 0 [] [h2.next] := GV.new f2.base rfl (by unfold ucap; decide)
  have s3 : Step h2 (h2.new [] 3) [] [h2.next] := (Step.refl h2 [] (by simp)).new _ _
  have f3 : Fit w0 (h2.new [] 3) := f2.new (by simp)
  have v3 : Es w0 (h2.new [] 3) v l := v2.step f2 s3 (by simp)
  have b3 : (h2.new [] 3).blk h.next = some (ee x) := by rw [(s3.keep _ n2 (by simp)).1]; exact b2
  have n3 : (h2.new [] 3).next = h2.next + 1 := rfl
  have s03 : Step h (h2.new [] 3) [] [h2.next] := ((sx.less (T := []) (by simp)).trans s2).trans s3
  have fb2 := f2.base
  generalize h2.new [] 3 = h3 at *
  refine v3.cutN (lo := 0) (hi := fE l x.k) boundA_none boundA_nat (Nat.zero_le _) hfl fun x' _ hbx' vx' => ?_
  have hy1 : ((l.flatMap ee).take (fE l x.k * 3)).drop (0 * 3) = (l.take (fE l x.k)).flatMap ee := by rw [Nat.zero_mul, List.drop_zero, es_take]
  rw [hy1, Nat.sub_zero] at vx'
  have htl : (l.take (fE l x.k)).length = fE l x.k := by rw [List.length_take]; omega
  refine appA_gv (by omega) g3 (lenA_sl2 vx') vx'.src (by rw [es_length, htl]) (by omega) (by omega) (by omega) fun x4 h4 S4 g4 s4 => ?_
  have b4 : h4.blk h.next = some (ee x) := by rw [(s4.keep _ (by omega) (by simp; omega)).1]; exact b3
  refine loadNA_whole fb b4 rfl ?_
  have n4 := s4.1
  refine appN_vec (by omega) g4 rfl rfl (by omega) (by omega) (by omega) fun x5 h5 S5 g5 s5 => ?_
  rw [List.nil_append, Nat.zero_add] at g5
  have s35 : Step h3 h5 [h2.next] S5 := s4.trans s5
  have v5 : Es w0 h5 v l := v2.step f2 (s3.trans s35) (by simp)
  have n5 := s5.1
  have rest : ∀ j, j ≤ l.length → withE l x = l.take (fE l x.k) ++ x :: l.drop j → slSlA 3 v (some (.int .i64 (j : Int))) none none (fun v30 => appA w0 3 40 x5 v30 fun v31 => retA [v31] fun r h' => ∃ S', Vec w0 h' 3 r (withE l x).length ((withE l x).flatMap ee) S' ∧ Step h h' [] S') h5 := by
    intro j hj hw
    refine v5.cutN (lo := j) (hi := l.length) boundA_nat boundA_none hj (Nat.le_refl _) fun x6 _ hbx6 vx6 => ?_
    have hy2 : ((l.flatMap ee).take (l.length * 3)).drop (j * 3) = (l.drop j).flatMap ee := by rw [List.take_of_length_le (by rw [es_length]; omega), es_drop]
    rw [hy2] at vx6
    refine appA_vec (by omega) g5 (lenA_sl2 vx6) vx6.src (by rw [es_length]; simp) (by omega) (by omega) (by omega) fun x7 h7 S7 g7 s7 => ?_
    simp only [retA_iff, oneOf_one]
    refine ⟨by simpa using g7.gv.nj, S7, ?_, s03.trans (s35.trans s7)⟩
    have hlen : (withE l x).length = fE l x.k + 1 + (l.length - j) := by rw [hw]; simp; omega
    have hcell : (withE l x).flatMap ee = (l.take (fE l x.k)).flatMap ee ++ ee x ++ (l.drop j).flatMap ee := by rw [hw]; simp
    rw [hlen, hcell]
    exact g7
  cases hh : isAt (kl l) x.k (fE l x.k) with
  | true =>
    have hil : fE l x.k < l.length := by
      rw [isAt_kl] at hh
      split at hh
      · rename_i y hy; exact (List.getElem?_eq_some_iff.1 hy).1
      · cases hh
    have e6 : IntKind.i64.wrap ((fE l x.k : Int) + 1) = ((fE l x.k + 1 : Nat) : Int) := by rw [IntWalk.i64_in _ (by omega)]; simp
    simp only [e6, wd, List.getElem?_toArray, List.getElem?_cons_zero, List.getElem?_cons_succ]
    have hw : withE l x = l.take (fE l x.k) ++ x :: l.drop (fE l x.k + 1) := by
      unfold withE hasK
      have : isAt (kl l) x.k (findK (kl l) x.k) = true := hh
      rw [this, if_pos rfl]
    exact rest (fE l x.k + 1) (by omega) hw
  | false =>
    simp only [wd, List.getElem?_toArray, List.getElem?_cons_zero, List.getElem?_cons_succ]
    have hw : withE l x = l.take (fE l x.k) ++ x :: l.drop (fE l x.k) := by
      unfold withE hasK
      have : isAt (kl l) x.k (findK (kl l) x.k) = false := hh
      rw [this, if_neg (by simp)]
    exact rest (fE l x.k) hfl hw
end
theorem putK_mem' {l : List Itm} (s : Srt l) (k : Key) (v : Ent) (x : Itm) : x ∈ putK l k v ↔ x = (k, v) ∨ (x ∈ l ∧ x.1 ≠ k) := by
  cases hh : hasK l k with
  | false =>
    rw [putK_mem hh]
    constructor
    · rintro (h | h)
      · exact .inl h
      · exact .inr ⟨h, (hasK_not s k).1 hh x h⟩
    · rintro (h | ⟨h, -⟩)
      · exact .inl h
      · exact .inr h
  | true =>
    obtain ⟨u, hu⟩ := hasK_some hh
    have hil := (List.getElem?_eq_some_iff.1 hu).1
    have e : putK l k v = l.take (findK l k) ++ (k, v) :: l.drop (findK l k + 1) := by rw [putK_eq, if_pos hh]
    have el : l = l.take (findK l k) ++ (k, u) :: l.drop (findK l k + 1) := by
      have h1 := List.drop_eq_getElem_cons hil
      rw [(List.getElem?_eq_some_iff.1 hu).2] at h1
      rw [← h1, List.take_append_drop]
    have h1 : ∀ y, y ∈ l.take (findK l k) → y.1 ≠ k := fun y hy => blt_ne (take_lt hy)
    have h2 : ∀ y, y ∈ l.drop (findK l k + 1) → y.1 ≠ k := fun y hy => (blt_ne (drop_gt' s hh hy)).symm
    rw [e, List.mem_append, List.mem_cons]
    constructor
    · rintro (h | h | h)
      · exact .inr ⟨List.mem_of_mem_take h, h1 x h⟩
      · exact .inl h
      · exact .inr ⟨List.mem_of_mem_drop h, h2 x h⟩
    · rintro (h | ⟨h, hne⟩)
      · exact .inr (.inl h)
      · rw [el, List.mem_append, List.mem_cons] at h
        rcases h with h | h | h
        · exact .inl h
        · exact absurd (by rw [h]) hne
        · exact .inr (.inr h)
def puts (l : List Ent) (es : List Ent) : List Ent := es.foldl withE l
theorem puts_srt : ∀ (es l : List Ent), l.Pairwise (fun x y => blt x.k y.k = true) → (puts l es).Pairwise fun x y => blt x.k y.k = true
  | [], l, h => h
  | x :: es, l, h => puts_srt es _ (withE_srt h x)
theorem withE_mem {l : List Ent} (s : l.Pairwise fun x y => blt x.k y.k = true) (x y : Ent) : y ∈ withE l x ↔ y = x ∨ (y ∈ l ∧ y.k ≠ x.k) := by
  have h := putK_mem' (kl_srt s) x.k x (y.k, y)
  rw [putK_kl] at h
  have km : ∀ l : List Ent, (y.k, y) ∈ kl l ↔ y ∈ l := by
    intro l
    unfold kl
    rw [List.mem_map]
    constructor
    · rintro ⟨z, hz, e⟩
      have : z = y := congrArg (·.2) e
      rw [← this]; exact hz
    · intro hy; exact ⟨y, hy, rfl⟩
  rw [km, km] at h
  rw [h]
  constructor
  · rintro (e | e)
    · exact .inl (congrArg (·.2) e)
    · exact .inr e
  · rintro (e | e)
    · exact .inl (by rw [e])
    · exact .inr e
theorem puts_mem : ∀ (es l : List Ent), l.Pairwise (fun x y => blt x.k y.k = true) → es.Pairwise (fun x y => blt x.k y.k = true) → ∀ y, y ∈ puts l es ↔ y ∈ es ∨ (y ∈ l ∧ ∀ x, x ∈ es → y.k ≠ x.k)
  | [], l, h, _, y => by simp [puts]
  | x :: es, l, h, hs, y => by
    obtain ⟨h1, h2⟩ := List.pairwise_cons.1 hs
    have ih := puts_mem es (withE l x) (withE_srt h x) h2 y
    rw [show puts l (x :: es) = puts (withE l x) es from rfl, ih, withE_mem h]
    constructor
    · rintro (a | ⟨a | ⟨a, b⟩, c⟩)
      · exact .inl (List.mem_cons_of_mem _ a)
      · exact .inl (by rw [a]; simp)
      · refine .inr ⟨a, fun z hz => ?_⟩
        rcases List.mem_cons.1 hz with e | e
        · rw [e]; exact b
        · exact c z e
    · rintro (a | ⟨a, c⟩)
      · rcases List.mem_cons.1 a with e | e
        · refine .inr ⟨.inl e, fun z hz => ?_⟩
          rw [e]
          exact blt_ne (h1 z hz)
        · exact .inl e
      · exact .inr ⟨.inr ⟨a, c x (by simp)⟩, fun z hz => c z (by simp [hz])⟩
theorem kl_mem {l : List Ent} {y : Ent} : (y.k, y) ∈ kl l ↔ y ∈ l := by
  unfold kl
  rw [List.mem_map]
  constructor
  · rintro ⟨z, hz, e⟩
    have : z = y := congrArg (·.2) e
    rw [← this]; exact hz
  · intro hy; exact ⟨y, hy, rfl⟩
theorem cons_isM {a acc : List Ent} {ls : List (List Itm)} (ha : a.Pairwise fun x y => blt x.k y.k = true) (h : IsM ls (kl acc)) : IsM (kl a :: ls) (kl (puts acc a)) := by
  have hs := srt_kl h.srt
  have hm := puts_mem a acc hs ha
  refine ⟨kl_srt (puts_srt a acc hs), fun x hx => ?_, fun m l' y hl hy => ?_⟩
  · obtain ⟨z, hz, rfl⟩ := List.mem_map.1 hx
    rcases (hm z).1 hz with h1 | ⟨h1, h2⟩
    · exact ⟨0, kl a, rfl, kl_mem.2 h1, fun m l' hm => by omega⟩
    · obtain ⟨n, l, e1, e2, e3⟩ := h.sub _ (kl_mem.2 h1)
      refine ⟨n + 1, l, by simpa using e1, e2, fun m l' hm hl' y hy => ?_⟩
      cases m with
      | zero =>
        simp at hl'
        subst hl'
        obtain ⟨w, hw, rfl⟩ := List.mem_map.1 hy
        exact (h2 w hw).symm
      | succ m => exact e3 m l' (by omega) (by simpa using hl') y hy
  · cases m with
    | zero =>
      simp at hl
      subst hl
      obtain ⟨w, hw, rfl⟩ := List.mem_map.1 hy
      exact ⟨(w.k, w), kl_mem.2 ((hm w).2 (.inl hw)), rfl⟩
    | succ m =>
      obtain ⟨o, ho, e⟩ := h.all m l' y (by simpa using hl) hy
      obtain ⟨z, hz, rfl⟩ := List.mem_map.1 ho
      by_cases hex : ∃ x, x ∈ a ∧ x.k = z.k
      · obtain ⟨x, hx, e2⟩ := hex
        exact ⟨(x.k, x), kl_mem.2 ((hm x).2 (.inl hx)), by rw [← e]; exact e2⟩
      · exact ⟨(z.k, z), kl_mem.2 ((hm z).2 (.inr ⟨hz, fun x hx e2 => hex ⟨x, hx, e2.symm⟩⟩)), e⟩
def overs : List (List Ent) → List Ent
  | [] => []
  | l :: ls => puts (overs ls) l
theorem overs_isM : ∀ ls : List (List Ent), (∀ l, l ∈ ls → l.Pairwise fun x y => blt x.k y.k = true) → IsM (ls.map kl) (kl (overs ls))
  | [], _ => ⟨List.Pairwise.nil, by simp [overs, kl], fun m l' y hm => by simp at hm⟩
  | l :: ls, h => cons_isM (h l (by simp)) (overs_isM ls fun l' hl' => h l' (by simp [hl']))
theorem isM_overs {ls : List (List Ent)} {out : List Itm} (h : ∀ l, l ∈ ls → l.Pairwise fun x y => blt x.k y.k = true) (im : IsM (ls.map kl) out) : out = kl (overs ls) :=
  IsM.uniq (fun l hl => by
    obtain ⟨z, hz, rfl⟩ := List.mem_map.1 hl
    exact kl_srt (h z hz)) im (overs_isM ls h)
section
variable {w0 : World} {h h' : Hp}
def flt (dr : Bool) (l : List Ent) : List Ent := l.filter fun x => !dr || !x.g
end
end Go.Proofs.YtfmoemconapmhaaGreat.Ah
