/- RunOver, plain: entries put one over the other are merged lists. -/
import Derived.Test.YthjpddggnhgjhaaExn
import Derived.Test.YthjpddggnhgjhaaExj
import Derived.Test.YthjpddggnhgjhaaExp
import Derived.Test.YthjpddggnhgjhaaExf
set_option linter.unusedVariables false
set_option linter.unusedSimpArgs false
set_option linter.constructorNameAsVariable false
namespace Go.Proofs.Ythjpddggnhgjhaa.Ah
open Go
theorem putK_mem' {l : List Itm} (s : Srt l) (k : Key) (v : Ent) (x : Itm) : x ∈ putK l k v ↔ x = (k, v) ∨ (x ∈ l ∧ x.1 ≠ k) := by
  cases hh : hasK l k with
  | false =>
    rw [putK_mem hh]
    constructor
    · rintro (h | h)
      · exact .inl h
      · exact .inr ⟨h, (hasK_not s k).1 hh x h⟩
    · rintro (h | ⟨h, -⟩)
      · exact .inl h
      · exact .inr h
  | true =>
    obtain ⟨u, hu⟩ := hasK_some hh
    have hil := (List.getElem?_eq_some_iff.1 hu).1
    have e : putK l k v = l.take (findK l k) ++ (k, v) :: l.drop (findK l k + 1) := by rw [putK_eq, if_pos hh]
    have el : l = l.take (findK l k) ++ (k, u) :: l.drop (findK l k + 1) := by
      have h1 := List.drop_eq_getElem_cons hil
      rw [(List.getElem?_eq_some_iff.1 hu).2] at h1
      rw [← h1, List.take_append_drop]
    have h1 : ∀ y, y ∈ l.take (findK l k) → y.1 ≠ k := fun y hy => blt_ne (take_lt hy)
    have h2 : ∀ y, y ∈ l.drop (findK l k + 1) → y.1 ≠ k := fun y hy => (blt_ne (drop_gt' s hh hy)).symm
    rw [e, List.mem_append, List.mem_cons]
    constructor
    · rintro (h | h | h)
      · exact .inr ⟨List.mem_of_mem_take h, h1 x h⟩
      · exact .inl h
      · exact .inr ⟨List.mem_of_mem_drop h, h2 x h⟩
    · rintro (h | ⟨h, hne⟩)
      · exact .inr (.inl h)
      · rw [el, List.mem_append, List.mem_cons] at h
        rcases h with h | h | h
        · exact .inl h
        · exact absurd (by rw [h]) hne
        · exact .inr (.inr h)
def puts (l : List Ent) (es : List Ent) : List Ent := es.foldl withE l
theorem puts_srt : ∀ (es l : List Ent), l.Pairwise (fun x y => blt x.k y.k = true) → (puts l es).Pairwise fun x y => blt x.k y.k = true
  | [], l, h => h
  | x :: es, l, h => puts_srt es _ (withE_srt h x)
theorem puts_len : ∀ (es l : List Ent), (puts l es).length ≤ l.length + es.length
  | [], l => by simp [puts]
  | x :: es, l => by
    have h1 := puts_len es (withE l x)
    have h2 := withE_len l x
    simp only [puts, List.foldl_cons, List.length_cons] at h1 ⊢
    omega
theorem withE_mem {l : List Ent} (s : l.Pairwise fun x y => blt x.k y.k = true) (x y : Ent) : y ∈ withE l x ↔ y = x ∨ (y ∈ l ∧ y.k ≠ x.k) := by
  have h := putK_mem' (kl_srt s) x.k x (y.k, y)
  rw [putK_kl] at h
  have km : ∀ l : List Ent, (y.k, y) ∈ kl l ↔ y ∈ l := by
    intro l
    unfold kl
    rw [List.mem_map]
    constructor
    · rintro ⟨z, hz, e⟩
      have : z = y := congrArg (·.2) e
      rw [← this]; exact hz
    · intro hy; exact ⟨y, hy, rfl⟩
  rw [km, km] at h
  rw [h]
  constructor
  · rintro (e | e)
    · exact .inl (congrArg (·.2) e)
    · exact .inr e
  · rintro (e | e)
    · exact .inl (by rw [e])
    · exact .inr e
theorem puts_mem : ∀ (es l : List Ent), l.Pairwise (fun x y => blt x.k y.k = true) → es.Pairwise (fun x y => blt x.k y.k = true) → ∀ y, y ∈ puts l es ↔ y ∈ es ∨ (y ∈ l ∧ ∀ x, x ∈ es → y.k ≠ x.k)
  | [], l, h, _, y => by simp [puts]
  | x :: es, l, h, hs, y => by
    obtain ⟨h1, h2⟩ := List.pairwise_cons.1 hs
    have ih := puts_mem es (withE l x) (withE_srt h x) h2 y
    rw [show puts l (x :: es) = puts (withE l x) es from rfl, ih, withE_mem h]
    constructor
    · rintro (a | ⟨a | ⟨a, b⟩, c⟩)
      · exact .inl (List.mem_cons_of_mem _ a)
      · exact .inl (by rw [a]; simp)
      · refine .inr ⟨a, fun z hz => ?_⟩
        rcases List.mem_cons.1 hz with e | e
        · rw [e]; exact b
        · exact c z e
    · rintro (a | ⟨a, c⟩)
      · rcases List.mem_cons.1 a with e | e
        · refine .inr ⟨.inl e, fun z hz => ?_⟩
          rw [e]
          exact blt_ne (h1 z hz)
        · exact .inl e
      · exact .inr ⟨.inr ⟨a, c x (by simp)⟩, fun z hz => c z (by simp [hz])⟩
theorem over_isM {a b : List Ent} (ha : a.Pairwise fun x y => blt x.k y.k = true) (hb : b.Pairwise fun x y => blt x.k y.k = true) : IsM [kl a, kl b] (kl (puts (puts [] b) a)) := by
  have hb0 := puts_srt b [] .nil
  have m1 := puts_mem b [] .nil hb
  have m2 := puts_mem a (puts [] b) hb0 ha
  have hmem : ∀ y, y ∈ puts (puts [] b) a ↔ y ∈ a ∨ (y ∈ b ∧ ∀ x, x ∈ a → y.k ≠ x.k) := by
    intro y
    rw [m2 y, m1 y]
    simp
  refine ⟨kl_srt (puts_srt a _ hb0), fun x hx => ?_, fun m l' y hm hy => ?_⟩
  · obtain ⟨z, hz, rfl⟩ := List.mem_map.1 hx
    rcases (hmem z).1 hz with h | ⟨h, hn⟩
    · exact ⟨0, kl a, rfl, List.mem_map.2 ⟨z, h, rfl⟩, fun m l' hm => by omega⟩
    · refine ⟨1, kl b, rfl, List.mem_map.2 ⟨z, h, rfl⟩, fun m l' hm hl' y hy => ?_⟩
      have : m = 0 := by omega
      subst this
      simp at hl'
      subst hl'
      obtain ⟨w, hw, rfl⟩ := List.mem_map.1 hy
      exact (hn w hw).symm
  · match m, hm with
    | 0, hm =>
      simp at hm
      subst hm
      obtain ⟨w, hw, rfl⟩ := List.mem_map.1 hy
      exact ⟨(w.k, w), List.mem_map.2 ⟨w, (hmem w).2 (.inl hw), rfl⟩, rfl⟩
    | 1, hm =>
      simp at hm
      subst hm
      obtain ⟨w, hw, rfl⟩ := List.mem_map.1 hy
      by_cases hex : ∃ x, x ∈ a ∧ x.k = w.k
      · obtain ⟨x, hx, e⟩ := hex
        exact ⟨(x.k, x), List.mem_map.2 ⟨x, (hmem x).2 (.inl hx), rfl⟩, e⟩
      · exact ⟨(w.k, w), List.mem_map.2 ⟨w, (hmem w).2 (.inr ⟨hw, fun x hx e => hex ⟨x, hx, e.symm⟩⟩), rfl⟩, rfl⟩
    | n + 2, hm => simp at hm
theorem mgf_false (out : List Itm) (L : List Ent) (h : out = kl L) : mgf false out = L := by
  subst h
  unfold mgf kl
  rw [List.map_map, List.filter_eq_self.2 (by simp)]
  simp [Function.comp_def]
section
variable {w0 : World} {h h' : Hp}
theorem ov_inner {k2 : Value → Value → Value → Value → Value → Value → Hp → Prop} {x9 x10 x63 x64 x65 r v : Value} {es L0 : List Ent} {M0 : List Nat} {hh : Hp} (hx : ExtSl w0 3 v es.length (es.flatMap ee)) (hr : ∀ x, x ∈ es → rightE x = true) (hl : L0.length + es.length ≤ 5000000)
    (hk : ∀ h' M', Fit w0 h' → Me w0 h' r (puts L0 es) M' → Step hh h' M0 M' → k2 x9 x10 r x63 x64 x65 h') : ∀ (post pre : List Ent) (h1 : Hp) (M : List Nat), pre ++ post = es → Fit w0 h1 → Me w0 h1 r (puts L0 pre) M → Step hh h1 M0 M →
      deduplaw12_RunOver_L2 prog w0 k2 (post.length + 1) x9 x10 r x63 x64 x65 v (.int .i64 (es.length : Int)) (.int .i64 (pre.length : Int)) h1 := by
  intro post
  induction post with
  | nil =>
    intro pre h1 M he f1 m st
    have hpre : pre = es := by simpa using he
    subst hpre
    rw [List.length_nil, deduplaw12_RunOver_L2]
    simp only [deduplaw12_RunOver_B2, wd, List.getElem?_toArray, List.getElem?_cons_zero, List.getElem?_cons_succ, Int.lt_irrefl, decide_false]
    exact hk h1 M f1 m st
  | cons x post ih =>
    intro pre h1 M he f1 m st
    have hlen : pre.length + (post.length + 1) = es.length := by rw [← he]; simp
    have hg : es[pre.length]? = some x := by rw [← he]; simp
    have hxr := hr x (by rw [← he]; simp)
    have c1 : decide ((pre.length : Int) < (es.length : Int)) = true := decide_eq_true (by omega)
    have e6 : IntKind.i64.wrap ((pre.length : Int) + 1) = (((pre ++ [x]).length : Nat) : Int) := by rw [IntWalk.i64_in _ (by omega)]; simp
    have hpl := puts_len pre L0
    have hps : puts L0 (pre ++ [x]) = withE (puts L0 pre) x := by simp [puts]
    rw [List.length_cons, deduplaw12_RunOver_L2]
    simp only [deduplaw12_RunOver_B2, wd, List.getElem?_toArray, List.getElem?_cons_zero, List.getElem?_cons_succ, c1]
    refine (hx.sl' f1 (es_length es)).elem (by omega) (es_get hg) ?_
    have fb := f1.base
    refine boxN fb rfl rfl zE_cell ?_
    have sx : Step h1 (h1.new (ee x) 3) [] [h1.next] := (Step.refl h1 [] (by simp)).new _ _
    have bx : (h1.new (ee x) 3).blk h1.next = some (ee x) := by simp
    have mx := m.frame sx (by simp)
    have stx : Step hh (h1.new (ee x) 3) M0 M := st.trans ((sx.less (T := []) (by simp)).keepS fun b hb => (m.lt b hb).2)
    generalize h1.new (ee x) 3 = h2 at *
    simp only [wd, List.getElem?_toArray, List.getElem?_cons_zero, List.getElem?_cons_succ]
    refine loadA_at fb bx rfl ?_
    obtain ⟨xk, xv, xg⟩ := x
    cases xg with
    | true =>
      obtain ⟨-, -, -, hv0⟩ := (rightE_iff _).1 hxr
      have hv1 : xv = [] := hv0 rfl
      subst hv1
      simp only [wd, List.getElem?_toArray, List.getElem?_cons_zero, List.getElem?_cons_succ]
      refine loadA_at fb bx rfl ?_
      refine callA_of (MDelete12 mx (by omega) xk) fun u h3 ⟨M', e, m3, s3⟩ f3 => ?_
      rw [if_pos hxr] at m3
      simp only [e6, wd, List.getElem?_toArray, List.getElem?_cons_zero, List.getElem?_cons_succ]
      exact ih (pre ++ [_]) h3 M' (by simpa using he) f3 (by rw [hps]; exact m3) (stx.trans s3)
    | false =>
      simp only [wd, List.getElem?_toArray, List.getElem?_cons_zero, List.getElem?_cons_succ]
      refine loadA_at fb bx rfl ?_
      refine loadA_at fb bx rfl ?_
      refine callA_of (MPut12 mx (by omega) xk xv) fun u h3 ⟨M', e, m3, s3⟩ f3 => ?_
      rw [if_pos hxr] at m3
      simp only [e6, wd, List.getElem?_toArray, List.getElem?_cons_zero, List.getElem?_cons_succ]
      exact ih (pre ++ [_]) h3 M' (by simpa using he) f3 (by rw [hps]; exact m3) (stx.trans s3)
theorem RunOver_top {va vb : Value} {a b : List Ent} (ha : ExtSl w0 3 va a.length (a.flatMap ee)) (hb : ExtSl w0 3 vb b.length (b.flatMap ee)) (hla : entsz a ≤ 1048576) (hlb : entsz b ≤ 1048576) :
    ACalls prog w0 n_deduplaw12_RunOver [va, vb] h fun r h' => r = .bool true := by
  have h4a := entsz_len a
  have h4b := entsz_len b
  refine ACalls.of_fit (by simp [ha.nj, hb.nj]) fun f => c_deduplaw12_RunOver (by simp [ha.nj, hb.nj]) ?_
  simp only [s_deduplaw12_RunOver]
  refine callA_of awake_spec fun r h1 ⟨e, s1⟩ f1 => ?_
  subst e
  simp only [wd, List.getElem?_toArray, List.getElem?_cons_zero, List.getElem?_cons_succ]
  refine callA_of (Build_spec (300 : Int) (ha.sl' f1 (es_length a)) (by omega)) fun r h2 ⟨x, Sx, e, gx, s2⟩ f2 => ?_
  subst e
  simp only [wd, List.getElem?_toArray, List.getElem?_cons_zero, List.getElem?_cons_succ]
  refine callA_of (Build_spec (4000 : Int) (hb.sl' f2 (es_length b)) (by omega)) fun r h3 ⟨y, Sy, e, gy, s3⟩ f3 => ?_
  subst e
  have gx3 := gx.frame s3 (by simp)
  have hEa : bldE (300 : Int) a = if chkE a = true then 0 else 120 := by unfold bldE; rw [if_neg (by omega)]
  have hEb : bldE (4000 : Int) b = if chkE b = true then 0 else 120 := by unfold bldE; rw [if_neg (by omega)]
  simp only [wd, List.getElem?_toArray, List.getElem?_cons_zero, List.getElem?_cons_succ]
  by_cases hza : bldE (300 : Int) a = 0
  rotate_left
  · have c1 : (bldE (300 : Int) a != 0) = true := by simp [hza]
    simp only [c1, wd, List.getElem?_toArray, List.getElem?_cons_zero, List.getElem?_cons_succ]
    refine callA_of (r_check_spec (ha.sl' f3 (es_length a)) (by omega)) fun r h4 ⟨e, s4⟩ f4 => ?_
    subst e
    rw [← hEa]
    simp only [c1, wd, List.getElem?_toArray, List.getElem?_cons_zero, List.getElem?_cons_succ, retA_iff, oneOf_one]
    simp
  have c1 : (bldE (300 : Int) a != 0) = false := by simp [hza]
  by_cases hzb : bldE (4000 : Int) b = 0
  rotate_left
  · have c2 : (bldE (4000 : Int) b != 0) = true := by simp [hzb]
    simp only [c1, c2, wd, List.getElem?_toArray, List.getElem?_cons_zero, List.getElem?_cons_succ]
    refine callA_of (r_check_spec (ha.sl' f3 (es_length a)) (by omega)) fun r h4 ⟨e, s4⟩ f4 => ?_
    subst e
    rw [← hEa]
    simp only [c1, wd, List.getElem?_toArray, List.getElem?_cons_zero, List.getElem?_cons_succ]
    refine callA_of (r_check_spec (hb.sl' f4 (es_length b)) (by omega)) fun r h5 ⟨e, s5⟩ f5 => ?_
    subst e
    rw [← hEb]
    simp only [c2, wd, List.getElem?_toArray, List.getElem?_cons_zero, List.getElem?_cons_succ, retA_iff, oneOf_one]
    simp
  have c2 : (bldE (4000 : Int) b != 0) = false := by simp [hzb]
  obtain ⟨-, -, hca⟩ := bldE_ok hza
  obtain ⟨-, -, hcb⟩ := bldE_ok hzb
  simp only [c1, c2, wd, List.getElem?_toArray, List.getElem?_cons_zero, List.getElem?_cons_succ]
  refine callA_of (Open_bld (bl := 300) hza hla gx3.gv) fun r h4 ⟨p, A, e, mp, s4⟩ f4 => ?_
  subst e
  have gy4 := gy.frame s4 (by simp)
  simp only [wd, List.getElem?_toArray, List.getElem?_cons_zero, List.getElem?_cons_succ]
  refine callA_of (Open_bld (bl := 4000) hzb hlb gy4.gv) fun r h5 ⟨q, B, e, mq, s5⟩ f5 => ?_
  subst e
  have mp5 := mp.frame s5 (by simp)
  have c3 : ((0 : Int) != 0) = false := rfl
  simp only [c3, wd, List.getElem?_toArray, List.getElem?_cons_zero, List.getElem?_cons_succ]
  refine callA_of NewMem_spec fun r h6 ⟨M, m6, s6⟩ f6 => ?_
  have mp6 := mp5.frame s6 (by simp)
  have mq6 := mq.frame s6 (by simp)
  obtain ⟨r0, rfl⟩ : ∃ r0, r = ptr r0 := by obtain ⟨q, p, M, e, -⟩ := m6; exact ⟨q, e⟩
  have c4 : binPtrA .eql (.pointer (some ⟨r0, 0, none⟩)) (.pointer none) = some (.bool false) := rfl
  have hz2 : zerosL [(Value.slice none 0 0)] 2 = [.slice none 0 0, .slice none 0 0] := rfl
  simp only [ptr, c4, wd, List.getElem?_toArray, List.getElem?_cons_zero, List.getElem?_cons_succ, bslA_iff, fillA_one, fillA_nil, hz2, List.set_cons_zero, List.set_cons_succ]
  refine ⟨(hb.sl' f6 (es_length b)).isC, by simp, (ha.sl' f6 (es_length a)).isC, by simp, ?_⟩
  have s7 : Step h6 (h6.new [vb, va] 1) [] [h6.next] := (Step.refl h6 [] (by simp)).new _ _
  have gs : GV w0 (h6.new [vb, va] 1) 1 (.slice (some ⟨h6.next, 0, none⟩) 2 2) 2 [vb, va] [h6.next] := GV.new f6.base rfl (by unfold ucap; decide)
  have f7 : Fit w0 (h6.new [vb, va] 1) := f6.new (by simpa using ⟨(hb.sl' f6 (es_length b)).isC, (ha.sl' f6 (es_length a)).isC⟩)
  have mp7 := mp6.frame s7 (by simp)
  have mq7 := mq6.frame s7 (by simp)
  have m7 := m6.frame s7 (by simp)
  have hM : ∀ z, z ∈ M → h5.next ≤ z ∧ z < h6.next := fun z hz => ⟨by
    rcases (s6.own z hz).2 with w | w
    · simp at w
    · exact w, (m6.lt z hz).2⟩
  have hA : ∀ z, z ∈ A → z < h5.next := fun z hz => (mp5.lt z hz).2
  have hB : ∀ z, z ∈ B → z < h5.next := fun z hz => (mq.lt z hz).2
  show deduplaw12_RunOver_E1 _ _ _ _ _ _ _ _ _ (h6.new [vb, va] 1)
  generalize h6.new [vb, va] 1 = h7 at *
  refine ⟨3, ?_⟩
  rw [deduplaw12_RunOver_L1]
  have d0 : decide ((0 : Int) < ((2 : Nat) : Int)) = true := rfl
  simp only [deduplaw12_RunOver_B1, d0, wd, List.getElem?_toArray, List.getElem?_cons_zero, List.getElem?_cons_succ]
  refine gs.sl.one (i := 0) rfl ?_
  simp only [(hb.sl' f7 (es_length b)).lenv, wd, List.getElem?_toArray, List.getElem?_cons_zero, List.getElem?_cons_succ]
  refine ⟨b.length + 1, ?_⟩
  refine ov_inner (r := ptr r0) (L0 := []) (M0 := M) (hh := h7) hb (chkF_right hcb) (by simp; omega) (fun h8 M1 f8 m8 s8 => ?_) b [] h7 M rfl f7 m7 (.refl _ _ fun z hz => (m7.lt z hz).2)
  have gs8 := gs.frame s8 (fun z hz w => by simp at hz; subst hz; have := (hM _ w).2; omega)
  have e1 : IntKind.i64.wrap ((0 : Int) + 1) = ((1 : Nat) : Int) := rfl
  simp only [e1, wd, List.getElem?_toArray, List.getElem?_cons_zero, List.getElem?_cons_succ]
  rw [deduplaw12_RunOver_L1]
  have d1 : decide (((1 : Nat) : Int) < ((2 : Nat) : Int)) = true := rfl
  simp only [deduplaw12_RunOver_B1, d1, wd, List.getElem?_toArray, List.getElem?_cons_zero, List.getElem?_cons_succ]
  refine gs8.sl.one (i := 1) rfl ?_
  simp only [(ha.sl' f8 (es_length a)).lenv, wd, List.getElem?_toArray, List.getElem?_cons_zero, List.getElem?_cons_succ]
  refine ⟨a.length + 1, ?_⟩
  have hpb := puts_len b []
  simp only [List.length_nil, Nat.zero_add] at hpb
  refine ov_inner (r := ptr r0) (L0 := puts [] b) (M0 := M1) (hh := h8) ha (chkF_right hca) (by omega) (fun h9 M2 f9 m9 s9 => ?_) a [] h8 M1 rfl f8 m8 (.refl _ _ fun z hz => (m8.lt z hz).2)
  have s79 : Step h7 h9 M M2 := s8.trans s9
  have e2 : IntKind.i64.wrap (((1 : Nat) : Int) + 1) = ((2 : Nat) : Int) := rfl
  simp only [e2, wd, List.getElem?_toArray, List.getElem?_cons_zero, List.getElem?_cons_succ]
  rw [deduplaw12_RunOver_L1]
  have d2 : decide (((2 : Nat) : Int) < ((2 : Nat) : Int)) = false := rfl
  simp only [deduplaw12_RunOver_B1, d2, wd, List.getElem?_toArray, List.getElem?_cons_zero, List.getElem?_cons_succ]
  have mp9 := mp7.frame s79 (fun z hz w => by have := hA z hz; have := (hM z w).1; omega)
  have mq9 := mq7.frame s79 (fun z hz w => by have := hB z hz; have := (hM z w).1; omega)
  have hzp : zerosL [(Value.pointer none)] 2 = [.pointer none, .pointer none] := rfl
  simp only [bslA_iff, fillA_one, fillA_nil, hzp, List.set_cons_zero, List.set_cons_succ]
  have rp : Ra w0 h9 (p, a) A := .inl ⟨_, mp9⟩
  have rq : Ra w0 h9 (q, b) B := .inl ⟨_, mq9⟩
  refine ⟨rp.isC, by simp, rq.isC, by simp, ?_⟩
  have s10 : Step h9 (h9.new [p, q] 1) [] [h9.next] := (Step.refl h9 [] (by simp)).new _ _
  have g10 : GV w0 (h9.new [p, q] 1) 1 (.slice (some ⟨h9.next, 0, none⟩) 2 2) 2 [p, q] [h9.next] := GV.new f9.base rfl (by unfold ucap; decide)
  have rp10 := rp.step (s10.less (T := []) (by simp))
  have rq10 := rq.step (s10.less (T := []) (by simp))
  have m10 := m9.frame s10 (by simp)
  have n10 := s10.1
  have n59 : h5.next ≤ h9.next := Nat.le_trans s6.1 (Nat.le_trans s7.1 s79.1)
  generalize h9.new [p, q] 1 = h10 at *
  have hsa := (chkF_srt hca).1
  have hsb := (chkF_srt hcb).1
  refine callA_of (rMg_spec (rs := [(p, a), (q, b)]) false g10.sl (fun z hz => ?_) (fun z hz => ?_) (by simp) (by simp; omega)) fun u h11 ⟨out, S', im, hol, g11, s11⟩ f11 => ?_
  · simp at hz
    rcases hz with rfl | rfl
    · exact ⟨A, rp10, fun w hw => by have := hA w hw; omega⟩
    · exact ⟨B, rq10, fun w hw => by have := hB w hw; omega⟩
  · simp at hz
    rcases hz with rfl | rfl
    · exact hsa
    · exact hsb
  · have hout : out = kl (puts (puts [] b) a) := IsM.uniq (ls := [kl a, kl b]) (fun l hl => by
      simp at hl
      rcases hl with rfl | rfl
      · exact kl_srt hsa
      · exact kl_srt hsb) im (over_isM hsa hsb)
    rw [mgf_false out _ hout] at g11
    have m11 := m10.frame s11 (by simp)
    refine callA_of (all_spec m11 g11.sl fun z hz => by rw [Vec.sblk_eq g11] at hz; exact (g11.lt z hz).2) fun u h12 ⟨e, s12⟩ f12 => ?_
    subst e
    simp only [retA_iff, oneOf_one]
    simp
end
end Go.Proofs.Ythjpddggnhgjhaa.Ah
