/- ref12: Find, With, Right. -/
import Derived.Test.YthjpddggnhgjhaaExk
import Derived.Test.YthjpddggnhgjhaaExg
import Derived.Test.YthjpddggnhgjhaaExp
import Derived.Test.YthjpddggnhgjhaaExf
set_option linter.unusedVariables false
set_option linter.unusedSimpArgs false
set_option linter.constructorNameAsVariable false
namespace Go.Proofs.Ythjpddggnhgjhaa.Ah
open Go
theorem fE_cons (x : Ent) (l : List Ent) (k : Key) : fE (x :: l) k = if blt x.k k = true then fE l k + 1 else 0 := rfl
theorem fE_pre {pre post : List Ent} {k : Key} (h : ∀ x, x ∈ pre → blt x.k k = true) : fE (pre ++ post) k = pre.length + fE post k := by
  induction pre with
  | nil => simp
  | cons x pre ih =>
    rw [List.cons_append, fE_cons, if_pos (h x (by simp)), ih (fun y hy => h y (by simp [hy])), List.length_cons]
    omega
section
variable {w0 : World} {h h' : Hp}
theorem lenA_sl2 {s n : Nat} {x : Value} {ys : List Value} (v : Sl w0 h s x n ys) : lenA x = some n := by obtain ⟨a, c, e⟩ := v.slice; rw [e]; simp
theorem rfind_loop {k0 kr : Value → Value → Value → Hp → Prop} {v x4 x5 : Value} {l : List Ent} {k : Key} {hh : Hp} (hv : Es w0 hh v l) (fh : Fit w0 hh) (hl : l.length ≤ 1000000000)
    (h1 : ∀ h', Step hh h' [] [] → fE l k = l.length → isAt (kl l) k (fE l k) = false → k0 v x4 x5 h') (h2 : ∀ h', Step hh h' [] [] → kr v (.int .i64 (fE l k : Int)) (.bool (isAt (kl l) k (fE l k))) h') : ∀ (post pre : List Ent) (h3 : Hp), pre ++ post = l → (∀ x, x ∈ pre → blt x.k k = true) → Step hh h3 [] [] →
      dedupref12_Find_L1 prog w0 k0 kr (post.length + 1) v (.string (str k)) x4 x5 v (.int .i64 (l.length : Int)) (.int .i64 (pre.length : Int)) h3 := by
  intro post
  induction post with
  | nil =>
    intro pre h3 he hp st
    have hpre : pre = l := by simpa using he
    subst hpre
    rw [List.length_nil, dedupref12_Find_L1]
    simp only [dedupref12_Find_B1, wd, List.getElem?_toArray, List.getElem?_cons_zero, List.getElem?_cons_succ, Int.lt_irrefl, decide_false]
    have hf := fE_pre (post := []) hp
    rw [List.append_nil] at hf
    have hf2 : fE pre k = pre.length := by rw [hf]; rfl
    refine h1 h3 st hf2 ?_
    rw [isAt_kl, hf2]
    simp
  | cons x post ih =>
    intro pre h3 he hp st
    have hlen : pre.length + (post.length + 1) = l.length := by rw [← he]; simp
    have hg : l[pre.length]? = some x := by rw [← he]; simp
    have c1 : decide ((pre.length : Int) < (l.length : Int)) = true := decide_eq_true (by omega)
    have e6 : IntKind.i64.wrap ((pre.length : Int) + 1) = (((pre ++ [x]).length : Nat) : Int) := by rw [IntWalk.i64_in _ (by omega)]; simp
    have v3 : Es w0 h3 v l := hv.step fh st (by simp)
    have fb : w0.heap.size ≤ h3.next := Nat.le_trans fh.base st.1
    rw [List.length_cons, dedupref12_Find_L1]
    simp only [dedupref12_Find_B1, wd, List.getElem?_toArray, List.getElem?_cons_zero, List.getElem?_cons_succ, c1]
    refine v3.elem (by omega) (es_get hg) ?_
    refine boxN fb rfl rfl zE_cell ?_
    have sx : Step h3 (h3.new (ee x) 3) [] [h3.next] := (Step.refl h3 [] (by simp)).new _ _
    have bx : (h3.new (ee x) 3).blk h3.next = some (ee x) := by simp
    have stx : Step hh (h3.new (ee x) 3) [] [] := st.trans (sx.less (by simp))
    generalize h3.new (ee x) 3 = h4 at *
    simp only [wd, List.getElem?_toArray, List.getElem?_cons_zero, List.getElem?_cons_succ]
    refine loadA_at fb bx rfl ?_
    simp only [s_geq, wd, List.getElem?_toArray, List.getElem?_cons_zero, List.getElem?_cons_succ]
    cases hb : blt x.k k with
    | true =>
      simp only [Bool.not_true, e6, wd, List.getElem?_toArray, List.getElem?_cons_zero, List.getElem?_cons_succ]
      exact ih (pre ++ [x]) h4 (by simpa using he) (fun y hy => by
        rcases List.mem_append.1 hy with q | q
        · exact hp y q
        · simp at q; subst q; exact hb) stx
    | false =>
      simp only [Bool.not_false, wd, List.getElem?_toArray, List.getElem?_cons_zero, List.getElem?_cons_succ]
      refine loadA_at fb bx rfl ?_
      have hf : fE l k = pre.length := by rw [← he, fE_pre hp, fE_cons, if_neg (by simp [hb])]; simp
      have ha : isAt (kl l) k pre.length = decide (x.k = k) := by rw [isAt_kl, hg]
      simp only [s_eql, wd, List.getElem?_toArray, List.getElem?_cons_zero, List.getElem?_cons_succ]
      have := h2 h4 stx
      rw [hf, ha] at this
      exact this
theorem rFind_spec {v : Value} {l : List Ent} (hv : Es w0 h v l) (hl : l.length ≤ 1000000000) (k : Key) : ACalls prog w0 n_dedupref12_Find [v, .string (str k)] h fun r h' => r = .tuple #[.int .i64 (fE l k : Int), .bool (isAt (kl l) k (fE l k))] ∧ Step h h' [] [] := by
  refine ACalls.of_fit (by simpa using hv.junk) fun f => c_dedupref12_Find (by simpa using hv.junk) ?_
  simp only [s_dedupref12_Find, hv.lenv, wd, List.getElem?_toArray, List.getElem?_cons_zero, List.getElem?_cons_succ]
  refine ⟨l.length + 1, rfind_loop hv f hl (fun h' st e1 e2 => ?_) (fun h' st => ?_) l [] h rfl (by simp) (.refl _ _ (by simp))⟩
  · simp only [hv.lenv, wd, List.getElem?_toArray, List.getElem?_cons_zero, List.getElem?_cons_succ, retA_iff, oneOf_two]
    exact ⟨by simp, by rw [e1] at e2 ⊢; rw [e2], st⟩
  · simp only [retA_iff, oneOf_two]
    exact ⟨by simp, trivial, st⟩
theorem rWith_spec {v : Value} {l : List Ent} (hv : Es w0 h v l) (hl : l.length ≤ 1000000000) (x : Ent) : ACalls prog w0 n_dedupref12_With [v, .agg (ee x).toArray] h fun r h' => ∃ S', Vec w0 h' 3 r (withE l x).length ((withE l x).flatMap ee) S' ∧ Step h h' [] S' := by
  refine ACalls.of_fit (by simp [hv.junk]) fun f => c_dedupref12_With (by simp [hv.junk]) ?_
  have fb := f.base
  have hfl := fE_le l x.k
  simp only [s_dedupref12_With, boxA_agg]
  have sx : Step h (h.new (ee x) 3) [] [h.next] := (Step.refl h [] (by simp)).new _ _
  have bx : (h.new (ee x) 3).blk h.next = some (ee x) := by simp
  have nx : h.next < (h.new (ee x) 3).next := by simp
  have fx : Fit w0 (h.new (ee x) 3) := f.new (by simp [ee, isCell])
  have vx : Es w0 (h.new (ee x) 3) v l := hv.step f sx (by simp)
  show addA _ 0 _ (h.new (ee x) 3)
  generalize h.new (ee x) 3 = h1 at *
  simp only [wd, List.getElem?_toArray, List.getElem?_cons_zero, List.getElem?_cons_succ]
  refine loadA_at fb bx rfl ?_
  refine callA_of (rFind_spec vx hl x.k) fun r h2 ⟨e, s2⟩ f2 => ?_
  subst e
  have v2 : Es w0 h2 v l := vx.step fx s2 (by simp)
  have b2 : h2.blk h.next = some (ee x) := by rw [(s2.keep _ nx (by simp)).1]; exact bx
  have n2 : h.next < h2.next := Nat.lt_of_lt_of_le nx s2.1
  have hz0 : zerosL [(Value.string .empty), .string .empty, .bool false] 0 = [] := rfl
  simp only [bslA_iff, fillA_nil, hz0, wd, List.getElem?_toArray, List.getElem?_cons_zero, List.getElem?_cons_succ]
  have g3 : GV w0 (h2.new [] 3) 3 (.slice (some ⟨h2.next, 0, none⟩) 0 0) 0 [] [h2.next] := GV.new f2.base rfl (by unfold ucap; decide)
  have s3 : Step h2 (h2.new [] 3) [] [h2.next] := (Step.refl h2 [] (by simp)).new _ _
  have f3 : Fit w0 (h2.new [] 3) := f2.new (by simp)
  have v3 : Es w0 (h2.new [] 3) v l := v2.step f2 s3 (by simp)
  have b3 : (h2.new [] 3).blk h.next = some (ee x) := by rw [(s3.keep _ n2 (by simp)).1]; exact b2
  have n3 : (h2.new [] 3).next = h2.next + 1 := rfl
  have s03 : Step h (h2.new [] 3) [] [h2.next] := ((sx.less (T := []) (by simp)).trans s2).trans s3
  have fb2 := f2.base
  generalize h2.new [] 3 = h3 at *
  refine v3.cutN (lo := 0) (hi := fE l x.k) boundA_none boundA_nat (Nat.zero_le _) hfl fun x' _ hbx' vx' => ?_
  have hy1 : ((l.flatMap ee).take (fE l x.k * 3)).drop (0 * 3) = (l.take (fE l x.k)).flatMap ee := by rw [Nat.zero_mul, List.drop_zero, es_take]
  rw [hy1, Nat.sub_zero] at vx'
  have htl : (l.take (fE l x.k)).length = fE l x.k := by rw [List.length_take]; omega
  refine appA_gv (by omega) g3 (lenA_sl2 vx') vx'.src (by rw [es_length, htl]) (by omega) (by omega) (by omega) fun x4 h4 S4 g4 s4 => ?_
  have b4 : h4.blk h.next = some (ee x) := by rw [(s4.keep _ (by omega) (by simp; omega)).1]; exact b3
  refine loadNA_whole fb b4 rfl ?_
  have n4 := s4.1
  refine appN_vec (by omega) g4 rfl rfl (by omega) (by omega) (by omega) fun x5 h5 S5 g5 s5 => ?_
  rw [List.nil_append, Nat.zero_add] at g5
  have s35 : Step h3 h5 [h2.next] S5 := s4.trans s5
  have v5 : Es w0 h5 v l := v2.step f2 (s3.trans s35) (by simp)
  have n5 := s5.1
  have rest : ∀ j, j ≤ l.length → withE l x = l.take (fE l x.k) ++ x :: l.drop j → slSlA 3 v (some (.int .i64 (j : Int))) none none (fun v30 => appA w0 3 40 x5 v30 fun v31 => retA [v31] fun r h' => ∃ S', Vec w0 h' 3 r (withE l x).length ((withE l x).flatMap ee) S' ∧ Step h h' [] S') h5 := by
    intro j hj hw
    refine v5.cutN (lo := j) (hi := l.length) boundA_nat boundA_none hj (Nat.le_refl _) fun x6 _ hbx6 vx6 => ?_
    have hy2 : ((l.flatMap ee).take (l.length * 3)).drop (j * 3) = (l.drop j).flatMap ee := by rw [List.take_of_length_le (by rw [es_length]; omega), es_drop]
    rw [hy2] at vx6
    refine appA_vec (by omega) g5 (lenA_sl2 vx6) vx6.src (by rw [es_length]; simp) (by omega) (by omega) (by omega) fun x7 h7 S7 g7 s7 => ?_
    simp only [retA_iff, oneOf_one]
    refine ⟨by simpa using g7.gv.nj, S7, ?_, s03.trans (s35.trans s7)⟩
    have hlen : (withE l x).length = fE l x.k + 1 + (l.length - j) := by rw [hw]; simp; omega
    have hcell : (withE l x).flatMap ee = (l.take (fE l x.k)).flatMap ee ++ ee x ++ (l.drop j).flatMap ee := by rw [hw]; simp
    rw [hlen, hcell]
    exact g7
  cases hh : isAt (kl l) x.k (fE l x.k) with
  | true =>
    have hil : fE l x.k < l.length := by
      rw [isAt_kl] at hh
      split at hh
      · rename_i y hy; exact (List.getElem?_eq_some_iff.1 hy).1
      · cases hh
    have e6 : IntKind.i64.wrap ((fE l x.k : Int) + 1) = ((fE l x.k + 1 : Nat) : Int) := by rw [IntWalk.i64_in _ (by omega)]; simp
    simp only [e6, wd, List.getElem?_toArray, List.getElem?_cons_zero, List.getElem?_cons_succ]
    have hw : withE l x = l.take (fE l x.k) ++ x :: l.drop (fE l x.k + 1) := by
      unfold withE hasK
      have : isAt (kl l) x.k (findK (kl l) x.k) = true := hh
      rw [this, if_pos rfl]
    exact rest (fE l x.k + 1) (by omega) hw
  | false =>
    simp only [wd, List.getElem?_toArray, List.getElem?_cons_zero, List.getElem?_cons_succ]
    have hw : withE l x = l.take (fE l x.k) ++ x :: l.drop (fE l x.k) := by
      unfold withE hasK
      have : isAt (kl l) x.k (findK (kl l) x.k) = false := hh
      rw [this, if_neg (by simp)]
    exact rest (fE l x.k) hfl hw
end
section
variable {w0 : World} {h h' : Hp}
structure MT (w0 : World) (h : Hp) (r v : Value) (l : List Ent) (M X : List Nat) : Prop where
  m : Me w0 h r l M
  g : Vec w0 h 3 v l.length (l.flatMap ee) X
  d : ∀ b, b ∈ X → b ∉ M
theorem MT.lt {r v : Value} {l : List Ent} {M X : List Nat} (q : MT w0 h r v l M X) : ∀ b, b ∈ M ++ X → b < h.next := fun b hb => by
  rcases List.mem_append.1 hb with z | z
  · exact (q.m.lt b z).2
  · exact (q.g.lt b z).2
theorem MT.step {r v : Value} {l : List Ent} {M X : List Nat} (q : MT w0 h r v l M X) (st : Step h h' [] []) : MT w0 h' r v l M X := ⟨q.m.frame st (by simp), q.g.frame st (by simp), q.d⟩
def StP (w0 : World) (h : Hp) (r : Value) (n : Nat) (M X : List Nat) (u : Value) (h' : Hp) : Prop :=
  ∃ l' v' M' X', u = .tuple #[v', .bool true] ∧ MT w0 h' r v' l' M' X' ∧ Step h h' (M ++ X) (M' ++ X') ∧ l'.length ≤ n + 1
theorem step_end {r v : Value} {l : List Ent} {x : Ent} {M X M5 : List Nat} {h5 : Hp} {q : Nat} (hq : w0.heap.size ≤ q) (b : h5.blk q = some (ee x)) (lq : q < h5.next) (hl : l.length < 9000000) (hX : ∀ b, b ∈ X → b < h.next ∧ b ∉ M) (m5 : Me w0 h5 r (if rightE x = true then withE l x else l) M5) (g5 : Vec w0 h5 3 v l.length (l.flatMap ee) X) (st : Step h h5 M M5) :
    loadNA w0 (.pointer (some ⟨q, 0, none⟩)) 3 (fun v47 => callA prog w0 n_dedupref12_Right [v47] fun v48 => pureA (unA .not v48) fun v49 => condA v49 (pureA (binA .eql (.int .i64 (if rightE x = true then 0 else 120)) (.int .i64 120)) fun v52 => retA [v, v52] (StP w0 h r l.length M X))
      (loadNA w0 (.pointer (some ⟨q, 0, none⟩)) 3 fun v54 => callA prog w0 n_dedupref12_With [v, v54] fun v55 => pureA (binA .eql (.int .i64 (if rightE x = true then 0 else 120)) (.int .i64 0)) fun v57 => retA [v55, v57] (StP w0 h r l.length M X))) h5 := by
  refine loadNA_whole hq b rfl ?_
  refine callA_of (r_may_spec x) fun u h6 ⟨e, s6⟩ f6 => ?_
  subst e
  have b6 : h6.blk q = some (ee x) := by rw [(s6.keep q lq (by simp)).1]; exact b
  have m6 := m5.frame s6 (by simp)
  have g6 := g5.frame s6 (by simp)
  have hM5 : ∀ b, b ∈ M5 → b < h5.next := fun b hb => (m5.lt b hb).2
  have d5 : ∀ b, b ∈ X → b ∉ M5 := fun b hb z => by
    rcases (st.own b z).2 with w | w
    · exact (hX b hb).2 w
    · have := (hX b hb).1; omega
  have st6 : Step h h6 M M5 := st.trans (s6.keepS hM5)
  cases hr : rightE x with
  | false =>
    rw [hr] at m6
    have c : ((120 : Int) == 120) = true := rfl
    simp only [Bool.false_eq_true, if_false, c, wd, List.getElem?_toArray, List.getElem?_cons_zero, List.getElem?_cons_succ, retA_iff, oneOf_two]
    refine ⟨by simpa using g6.gv.nj, l, v, M5, X, rfl, ⟨by simpa using m6, g6, d5⟩, st6.more X (fun b hb => (hX b hb).1), by omega⟩
  | true =>
    rw [hr] at m6
    have c : ((0 : Int) == 0) = true := rfl
    simp only [if_true, c, wd, List.getElem?_toArray, List.getElem?_cons_zero, List.getElem?_cons_succ]
    refine loadNA_whole hq b6 rfl ?_
    refine callA_of (rWith_spec g6.sl (by omega) x) fun u h7 ⟨X', g7, s7⟩ f7 => ?_
    have m7 := m6.frame s7 (by simp)
    simp only [wd, List.getElem?_toArray, List.getElem?_cons_zero, List.getElem?_cons_succ, retA_iff, oneOf_two]
    have hwl := withE_len l x
    have hM6 : ∀ b, b ∈ M5 → b < h6.next := fun b hb => Nat.lt_of_lt_of_le (hM5 b hb) s6.1
    refine ⟨by simpa using g7.gv.nj, withE l x, u, M5, X', rfl, ⟨by simpa using m7, g7, fun b hb z => ?_⟩, ?_, hwl⟩
    · rcases (s7.own b hb).2 with w | w
      · simp at w
      · have := hM6 b z; omega
    · have a := s7.more M5 hM6
      have a2 : Step h6 h7 M5 (M5 ++ X') := a.weaken (fun b hb => .inl (by simpa using hb)) (fun b hb => .inl (by simp at hb ⊢; rcases hb with z | z <;> simp [z]))
      exact (st6.trans a2).wide (fun b hb => List.mem_append_left _ hb) (fun b hb => .inl hb)
theorem step_spec {r v : Value} {l : List Ent} {M X : List Nat} (o : ROp) (q : MT w0 h r v l M X) (hl : l.length < 9000000) :
    ACalls prog w0 n_deduplaw12_step [r, v, .agg o.e.toArray] h (StP w0 h r l.length M X) := by
  refine ACalls.of_fit (by simp [q.m.nj, q.g.gv.nj]) fun f => c_deduplaw12_step (by simp [q.m.nj, q.g.gv.nj]) ?_
  have fb := f.base
  have hX : ∀ b, b ∈ X → b < h.next ∧ b ∉ M := fun b hb => ⟨(q.g.lt b hb).2, q.d b hb⟩
  have hsr : l.Pairwise fun x y => blt x.k y.k = true := by obtain ⟨_, _, _, -, -, -, -, -, -, -, z, -⟩ := q.m; exact z
  simp only [s_deduplaw12_step, boxA_agg]
  have s0 : Step h (h.new o.e 4) [] [h.next] := (Step.refl h [] (by simp)).new _ _
  have b0 : (h.new o.e 4).blk h.next = some o.e := by simp
  have n0 : h.next < (h.new o.e 4).next := by simp
  have q0 := q.step (s0.less (T := []) (by simp))
  show addA _ 1 _ (h.new o.e 4)
  generalize h.new o.e 4 = h1 at *
  simp only [wd, List.getElem?_toArray, List.getElem?_cons_zero, List.getElem?_cons_succ]
  refine loadA_at fb b0 rfl ?_
  refine callA_of (rFind_spec q0.g.sl (by omega) o.key) fun u h2 ⟨e, s2⟩ f2 => ?_
  subst e
  have q2 := q0.step s2
  have b2 : h2.blk h.next = some o.e := by rw [(s2.keep _ n0 (by simp)).1]; exact b0
  have n2 : h.next < h2.next := Nat.lt_of_lt_of_le n0 s2.1
  have s02 : Step h h2 [] [] := (s0.less (T := []) (by simp)).trans s2
  have s0q : Step h h2 (M ++ X) (M ++ X) := s02.keepS q.lt
  have s0M : Step h h2 M M := s02.keepS fun b hb => (q.m.lt b hb).2
  simp only [wd, List.getElem?_toArray, List.getElem?_cons_zero, List.getElem?_cons_succ]
  refine loadA_at fb b2 rfl ?_
  simp only [wd, List.getElem?_toArray, List.getElem?_cons_zero, List.getElem?_cons_succ]
  -- Put, Delete
  by_cases k0 : o.k = 0
  · have c0 : (o.k == 0) = true := by rw [k0]; rfl
    have c1 : (o.k == 1) = false := by rw [k0]; rfl
    simp only [c0, wd, List.getElem?_toArray, List.getElem?_cons_zero, List.getElem?_cons_succ]
    refine loadA_at fb b2 rfl ?_
    refine loadA_at fb b2 rfl ?_
    simp only [buildA_iff, fillA_one, fillA_nil, List.set_cons_zero, List.set_cons_succ]
    refine ⟨rfl, by simp, rfl, by simp, ?_⟩
    have hagg : (Value.agg #[.string (str o.key), .string (str o.v), .bool false]) = .agg (ee ⟨o.key, o.v, false⟩).toArray := rfl
    show newA zE 3 (fun v10 => storeNA w0 v10 (.agg (ee ⟨o.key, o.v, false⟩).toArray) 3 _) h2
    refine boxN f2.base rfl rfl zE_cell ?_
    have sx : Step h2 (h2.new (ee ⟨o.key, o.v, false⟩) 3) [] [h2.next] := (Step.refl h2 [] (by simp)).new _ _
    have bx : (h2.new (ee ⟨o.key, o.v, false⟩) 3).blk h2.next = some (ee ⟨o.key, o.v, false⟩) := by simp
    have nx : h2.next < (h2.new (ee ⟨o.key, o.v, false⟩) 3).next := by simp
    have q3 := q2.step (sx.less (T := []) (by simp))
    have b3 : (h2.new (ee ⟨o.key, o.v, false⟩) 3).blk h.next = some o.e := by rw [(sx.keep _ n2 (by simp)).1]; exact b2
    have s3M : Step h (h2.new (ee ⟨o.key, o.v, false⟩) 3) M M := s0M.trans ((sx.less (T := []) (by simp)).keepS fun b hb => (q2.m.lt b hb).2)
    have fb2 := f2.base
    have hn02 := s02.1
    generalize h2.new (ee ⟨o.key, o.v, false⟩) 3 = h3 at *
    refine loadA_at fb b3 rfl ?_
    simp only [c1, wd, List.getElem?_toArray, List.getElem?_cons_zero, List.getElem?_cons_succ]
    refine loadA_at fb b3 rfl ?_
    refine loadA_at fb b3 rfl ?_
    refine callA_of (MPut12 q3.m (by omega) o.key o.v) fun u h4 ⟨M', e, m4, s4⟩ f4 => ?_
    subst e
    have hXM : ∀ b, b ∈ X → b ∉ M := fun b hb => (hX b hb).2
    have b4 : h4.blk h2.next = some (ee ⟨o.key, o.v, false⟩) := by rw [(s4.keep _ nx (fun z => by have := (q2.m.lt _ z).2; omega)).1]; exact bx
    exact step_end fb2 b4 (Nat.lt_of_lt_of_le nx s4.1) hl hX m4 (q3.g.frame s4 hXM) (s3M.trans s4)
  have c0 : (o.k == 0) = false := by rw [beq_eq_false_iff_ne]; exact k0
  simp only [c0, wd, List.getElem?_toArray, List.getElem?_cons_zero, List.getElem?_cons_succ]
  by_cases k1 : o.k = 1
  · have c1 : (o.k == 1) = true := by rw [k1]; rfl
    simp only [c1, wd, List.getElem?_toArray, List.getElem?_cons_zero, List.getElem?_cons_succ]
    refine loadA_at fb b2 rfl ?_
    refine loadA_at fb b2 rfl ?_
    simp only [buildA_iff, fillA_one, fillA_nil, List.set_cons_zero, List.set_cons_succ]
    refine ⟨rfl, by simp, rfl, by simp, ?_⟩
    show newA zE 3 (fun v10 => storeNA w0 v10 (.agg (ee ⟨o.key, o.v, false⟩).toArray) 3 _) h2
    refine boxN f2.base rfl rfl zE_cell ?_
    have sx : Step h2 (h2.new (ee ⟨o.key, o.v, false⟩) 3) [] [h2.next] := (Step.refl h2 [] (by simp)).new _ _
    have bx : (h2.new (ee ⟨o.key, o.v, false⟩) 3).blk h2.next = some (ee ⟨o.key, o.v, false⟩) := by simp
    have nx : h2.next < (h2.new (ee ⟨o.key, o.v, false⟩) 3).next := by simp
    have b3 : (h2.new (ee ⟨o.key, o.v, false⟩) 3).blk h.next = some o.e := by rw [(sx.keep _ n2 (by simp)).1]; exact b2
    have fb2 := f2.base
    have hn02 := s02.1
    generalize h2.new (ee ⟨o.key, o.v, false⟩) 3 = h3 at *
    refine loadA_at fb b3 rfl ?_
    simp only [c1, wd, List.getElem?_toArray, List.getElem?_cons_zero, List.getElem?_cons_succ]
    refine loadA_at fb b3 rfl ?_
    simp only [buildA_iff, fillA_one, fillA_nil, List.set_cons_zero, List.set_cons_succ]
    refine ⟨rfl, by simp, rfl, by simp, ?_⟩
    show storeNA w0 (.pointer (some ⟨h2.next, 0, none⟩)) (.agg (ee ⟨o.key, [], true⟩).toArray) 3 _ h3
    refine storeNA_whole fb2 bx rfl rfl ?_
    have sy : Step h2 (h3.put h2.next (ee ⟨o.key, [], true⟩)) [] [h2.next] := sx.put (by simp) _
    have by_ : (h3.put h2.next (ee ⟨o.key, [], true⟩)).blk h2.next = some (ee ⟨o.key, [], true⟩) := by simp
    have ny : h2.next < (h3.put h2.next (ee ⟨o.key, [], true⟩)).next := by simpa using nx
    have b4 : (h3.put h2.next (ee ⟨o.key, [], true⟩)).blk h.next = some o.e := by rw [(sy.keep _ n2 (by simp)).1]; exact b2
    have q4 := q2.step (sy.less (T := []) (by simp))
    have s4M : Step h (h3.put h2.next (ee ⟨o.key, [], true⟩)) M M := s0M.trans ((sy.less (T := []) (by simp)).keepS fun b hb => (q2.m.lt b hb).2)
    generalize h3.put h2.next (ee ⟨o.key, [], true⟩) = h4 at *
    refine loadA_at fb b4 rfl ?_
    refine callA_of (MDelete12 q4.m (by omega) o.key) fun u h5 ⟨M', e, m5, s5⟩ f5 => ?_
    subst e
    have hXM : ∀ b, b ∈ X → b ∉ M := fun b hb => (hX b hb).2
    have b5 : h5.blk h2.next = some (ee ⟨o.key, [], true⟩) := by rw [(s5.keep _ ny (fun z => by have := (q2.m.lt _ z).2; omega)).1]; exact by_
    exact step_end fb2 b5 (Nat.lt_of_lt_of_le ny s5.1) hl hX m5 (q4.g.frame s5 hXM) (s4M.trans s5)
  have c1 : (o.k == 1) = false := by rw [beq_eq_false_iff_ne]; exact k1
  simp only [c1, wd, List.getElem?_toArray, List.getElem?_cons_zero, List.getElem?_cons_succ]
  by_cases k2 : o.k = 2
  · have c2 : (o.k == 2) = true := by rw [k2]; rfl
    simp only [c2, wd, List.getElem?_toArray, List.getElem?_cons_zero, List.getElem?_cons_succ]
    refine loadA_at fb b2 rfl ?_
    refine callA_of (MGet12 q2.m o.key) fun u h3 ⟨e, s3⟩ f3 => ?_
    subst e
    have q3 := q2.step s3
    simp only [wd, List.getElem?_toArray, List.getElem?_cons_zero, List.getElem?_cons_succ]
    refine boxN f3.base rfl (eo_len _) zE_cell ?_
    have sx : Step h3 (h3.new (eo (getE l o.key)) 3) [] [h3.next] := (Step.refl h3 [] (by simp)).new _ _
    have bx : (h3.new (eo (getE l o.key)) 3).blk h3.next = some (eo (getE l o.key)) := by simp
    have q4 := q3.step (sx.less (T := []) (by simp))
    have s04 : Step h (h3.new (eo (getE l o.key)) 3) [] [] := s02.trans (s3.trans (sx.less (by simp)))
    have fb3 := f3.base
    generalize h3.new (eo (getE l o.key)) 3 = h4 at *
    have fin : retA [v, .bool true] (StP w0 h r l.length M X) h4 := by
      simp only [retA_iff, oneOf_two]
      exact ⟨by simpa using q4.g.gv.nj, l, v, M, X, rfl, q4, s04.keepS q.lt, by omega⟩
    rcases isAt_getE hsr o.key with ⟨z1, z2⟩ | ⟨x, z1, z2, z3, z4⟩
    · have bb : (false == false) = true := rfl
      rw [z2] at bx
      simp only [z1, z2, Option.isSome, binBoolA_eql, bb, wd, List.getElem?_toArray, List.getElem?_cons_zero, List.getElem?_cons_succ]
      refine loadNA_whole fb3 bx rfl ?_
      simp only [buildA_iff, fillA_nil, stillA_iff, allA_one, sameQ_loadNA]
      refine ⟨loadNA_whole fb3 bx rfl rfl, ?_⟩
      show pureQ (eqStA prog .eql 41 (.agg (ee eE).toArray) (.agg (ee eE).toArray)) _ h4
      rw [fpureQ_eqStA, eqEnt w0]
      exact fin
    · have bb : (true == true) = true := rfl
      rw [z4] at bx
      simp only [z3, z4, Option.isSome, binBoolA_eql, bb, wd, List.getElem?_toArray, List.getElem?_cons_zero, List.getElem?_cons_succ]
      refine loadNA_whole fb3 bx rfl ?_
      refine q4.g.sl.elem (List.getElem?_eq_some_iff.1 z1).1 (es_get z1) ?_
      show pureQ (eqStA prog .eql 41 (.agg (ee x).toArray) (.agg (ee x).toArray)) _ h4
      rw [fpureQ_eqStA, eqEnt w0]
      simp only [stillA_iff, allA_one, sameQ_iff, wd, List.getElem?_toArray, List.getElem?_cons_zero, List.getElem?_cons_succ]
      exact ⟨⟨trivial, trivial⟩, fin⟩
  have c2 : (o.k == 2) = false := by rw [beq_eq_false_iff_ne]; exact k2
  simp only [c2, wd, List.getElem?_toArray, List.getElem?_cons_zero, List.getElem?_cons_succ]
  by_cases k3 : o.k = 3
  · have c3 : (o.k == 3) = true := by rw [k3]; rfl
    simp only [c3, wd, List.getElem?_toArray, List.getElem?_cons_zero, List.getElem?_cons_succ]
    refine callA_of (MLen12 q2.m) fun u h3 ⟨e, e'⟩ f3 => ?_
    subst e
    subst h3
    simp only [q2.g.sl.lenv, beq_self_eq_true, wd, List.getElem?_toArray, List.getElem?_cons_zero, List.getElem?_cons_succ, retA_iff, oneOf_two]
    exact ⟨by simpa using q2.g.gv.nj, l, v, M, X, rfl, q2, s0q, by omega⟩
  have c3 : (o.k == 3) = false := by rw [beq_eq_false_iff_ne]; exact k3
  simp only [c3, wd, List.getElem?_toArray, List.getElem?_cons_zero, List.getElem?_cons_succ]
  by_cases k4 : o.k = 4
  · have c4 : (o.k == 4) = true := by rw [k4]; rfl
    simp only [c4, wd, List.getElem?_toArray, List.getElem?_cons_zero, List.getElem?_cons_succ]
    refine loadA_at fb b2 rfl ?_
    refine callA_of (all_spec q2.m q2.g.sl fun b hb => by rw [Vec.sblk_eq q2.g] at hb; exact (q2.g.lt b hb).2) fun u h3 ⟨e, s3⟩ f3 => ?_
    subst e
    simp only [retA_iff, oneOf_two]
    exact ⟨by simpa using q2.g.gv.nj, l, v, M, X, rfl, q2.step s3, (s02.trans s3).keepS q.lt, by omega⟩
  have c4 : (o.k == 4) = false := by rw [beq_eq_false_iff_ne]; exact k4
  simp only [c4, wd, List.getElem?_toArray, List.getElem?_cons_zero, List.getElem?_cons_succ]
  by_cases k5 : o.k = 5
  · have c5 : (o.k == 5) = true := by rw [k5]; rfl
    simp only [c5, wd, List.getElem?_toArray, List.getElem?_cons_zero, List.getElem?_cons_succ]
    refine callA_of (MClear12 q2.m) fun u h3 ⟨M', m3, s3⟩ f3 => ?_
    simp only [retA_iff, oneOf_two]
    refine ⟨by simp, [], .slice none 0 0, M', [], rfl, ⟨m3, .nil, by simp⟩, ?_, by simp⟩
    exact (s0M.trans s3).wide (fun b hb => List.mem_append_left _ hb) (fun b hb => .inl (by simpa using hb))
  have c5 : (o.k == 5) = false := by rw [beq_eq_false_iff_ne]; exact k5
  simp only [c5, wd, List.getElem?_toArray, List.getElem?_cons_zero, List.getElem?_cons_succ, retA_iff, oneOf_two]
  exact ⟨by simpa using q2.g.gv.nj, l, v, M, X, rfl, q2, s0q, by omega⟩
end
theorem rop_len (o : ROp) : o.e.length = 4 := rfl
section
variable {w0 : World} {h h' : Hp}
theorem mems_loop {k0 kr : Value → Value → Value → Hp → Prop} {x2 v : Value} {os : List ROp} (hx : ExtSl w0 4 v os.length (os.flatMap ROp.e)) (hl : os.length ≤ 2000000)
    (hk : ∀ h' r x l M X, Fit w0 h' → MT w0 h' r x l M X → k0 x2 r x h') : ∀ (post pre : List ROp) (h1 : Hp) (r x : Value) (l : List Ent) (M X : List Nat), pre ++ post = os → Fit w0 h1 → MT w0 h1 r x l M X → l.length ≤ pre.length →
      deduplaw12_RunMems_L1 prog w0 k0 kr (post.length + 1) x2 r x v (.int .i64 (os.length : Int)) (.int .i64 (pre.length : Int)) h1 := by
  intro post
  induction post with
  | nil =>
    intro pre h1 r x l M X he f1 q hlp
    have hpre : pre = os := by simpa using he
    subst hpre
    rw [List.length_nil, deduplaw12_RunMems_L1]
    simp only [deduplaw12_RunMems_B1, wd, List.getElem?_toArray, List.getElem?_cons_zero, List.getElem?_cons_succ, Int.lt_irrefl, decide_false]
    exact hk h1 r x l M X f1 q
  | cons o post ih =>
    intro pre h1 r x l M X he f1 q hlp
    have hlen : pre.length + (post.length + 1) = os.length := by rw [← he]; simp
    have hg : os[pre.length]? = some o := by rw [← he]; simp
    have c1 : decide ((pre.length : Int) < (os.length : Int)) = true := decide_eq_true (by omega)
    have e6 : IntKind.i64.wrap ((pre.length : Int) + 1) = (((pre ++ [o]).length : Nat) : Int) := by rw [IntWalk.i64_in _ (by omega)]; simp
    have hfl : (os.flatMap ROp.e).length = os.length * 4 := fm_length rop_len os
    rw [List.length_cons, deduplaw12_RunMems_L1]
    simp only [deduplaw12_RunMems_B1, wd, List.getElem?_toArray, List.getElem?_cons_zero, List.getElem?_cons_succ, c1]
    refine (hx.sl' f1 hfl).elem (by omega) (flget rop_len hg) ?_
    have fb := f1.base
    refine boxN fb rfl rfl (by simp [isCell]) ?_
    have sx : Step h1 (h1.new o.e 4) [] [h1.next] := (Step.refl h1 [] (by simp)).new _ _
    have bx : (h1.new o.e 4).blk h1.next = some o.e := by simp
    have qx := q.step (sx.less (T := []) (by simp))
    generalize h1.new o.e 4 = h2 at *
    simp only [wd, List.getElem?_toArray, List.getElem?_cons_zero, List.getElem?_cons_succ]
    refine loadA_at fb bx rfl ?_
    simp only [wd, List.getElem?_toArray, List.getElem?_cons_zero, List.getElem?_cons_succ]
    by_cases k6 : o.k = 6
    · have c6 : (o.k == 6) = true := by rw [k6]; rfl
      simp only [c6, wd, List.getElem?_toArray, List.getElem?_cons_zero, List.getElem?_cons_succ]
      refine callA_of (MFork12 qx.m) fun c h3 ⟨S', qc, e, m3, s3⟩ f3 => ?_
      subst e
      have q3m := qx.m.frame s3 (by simp)
      have q3g := qx.g.frame s3 (by simp)
      have hS' : ∀ b, b ∈ S' → h2.next ≤ b := fun b hb => by
        rcases (s3.own b hb).2 with w | w
        · simp at w
        · exact w
      have c7 : binPtrA .eql (.pointer (some ⟨qc, 0, none⟩)) (.pointer none) = some (.bool false) := rfl
      simp only [ptr, c7, wd, List.getElem?_toArray, List.getElem?_cons_zero, List.getElem?_cons_succ]
      have ea : (⟨#[97, 32, 102, 111, 114, 107, 39, 115, 32, 111, 119, 110]⟩ : ByteArray) = str [97, 32, 102, 111, 114, 107, 39, 115, 32, 111, 119, 110] := rfl
      have eb : (⟨#[120]⟩ : ByteArray) = str [120] := rfl
      have ec : (⟨#[98]⟩ : ByteArray) = str [98] := rfl
      rw [ea, eb, ec]
      have hMl : ∀ b, b ∈ M → b < h2.next := fun b hb => (qx.m.lt b hb).2
      refine callA_of (MPut12 q3m (by omega) [97, 32, 102, 111, 114, 107, 39, 115, 32, 111, 119, 110] [120]) fun u h4 ⟨M4, e, m4, s4⟩ f4 => ?_
      have m34 := m3.frame s4 (fun b hb z => by have := hS' b hb; have := hMl b z; omega)
      have g34 := q3g.frame s4 qx.d
      have hM4 : ∀ b, b ∈ M4 → b ∈ M ∨ h3.next ≤ b := fun b hb => (s4.own b hb).2
      have hl4 : (if rightE ⟨[97, 32, 102, 111, 114, 107, 39, 115, 32, 111, 119, 110], [120], false⟩ = true then withE l ⟨[97, 32, 102, 111, 114, 107, 39, 115, 32, 111, 119, 110], [120], false⟩ else l).length ≤ l.length + 1 := by
        split
        · exact withE_len _ _
        · omega
      refine callA_of (MDelete12 m4 (by omega) [98]) fun u h5 ⟨M5, e, m5, s5⟩ f5 => ?_
      have m35 := m34.frame s5 (fun b hb z => by
        have := hS' b hb
        have := (m3.lt b hb).2
        rcases hM4 b z with w | w
        · have := hMl b w; omega
        · omega)
      have g35 := g34.frame s5 (fun b hb z => by
        rcases hM4 b z with w | w
        · exact qx.d b hb w
        · have := (q3g.lt b hb).2; omega)
      simp only [e6, wd, List.getElem?_toArray, List.getElem?_cons_zero, List.getElem?_cons_succ]
      refine ih (pre ++ [o]) h5 _ x l S' X (by simpa using he) f5 ⟨m35, g35, fun b hb z => ?_⟩ (by simp; omega)
      have := hS' b z
      have := (qx.g.lt b hb).2
      omega
    · have c6 : (o.k == 6) = false := by rw [beq_eq_false_iff_ne]; exact k6
      simp only [c6, wd, List.getElem?_toArray, List.getElem?_cons_zero, List.getElem?_cons_succ]
      refine loadNA_whole fb bx rfl ?_
      refine callA_of (step_spec o qx (by omega)) fun u h3 ⟨l', v', M', X', e, q3, s3, hl'⟩ f3 => ?_
      subst e
      simp only [e6, wd, List.getElem?_toArray, List.getElem?_cons_zero, List.getElem?_cons_succ]
      exact ih (pre ++ [o]) h3 r v' l' M' X' (by simpa using he) f3 q3 (by simp; omega)
theorem RunMems_top {v : Value} {os : List ROp} (hx : ExtSl w0 4 v os.length (os.flatMap ROp.e)) (hl : os.length ≤ 2000000) : ACalls prog w0 n_deduplaw12_RunMems [v] h fun r h' => r = .bool true := by
  refine ACalls.of_fit (by simpa using hx.nj) fun f => c_deduplaw12_RunMems (by simpa using hx.nj) ?_
  have hfl : (os.flatMap ROp.e).length = os.length * 4 := fm_length rop_len os
  simp only [s_deduplaw12_RunMems]
  refine callA_of NewMem_spec fun r h1 ⟨S, m1, s1⟩ f1 => ?_
  refine callA_of awake_spec fun u h2 ⟨e, s2⟩ f2 => ?_
  subst e
  have m2 := m1.frame s2 (by simp)
  obtain ⟨q, rfl⟩ : ∃ q, r = ptr q := by obtain ⟨q, p, M, e, -⟩ := m2; exact ⟨q, e⟩
  have c7 : binPtrA .eql (.pointer (some ⟨q, 0, none⟩)) (.pointer none) = some (.bool false) := rfl
  simp only [ptr, c7, (hx.sl' f2 hfl).lenv, wd, List.getElem?_toArray, List.getElem?_cons_zero, List.getElem?_cons_succ]
  refine ⟨os.length + 1, mems_loop hx hl (fun h3 r x l M X f3 q => ?_) os [] h2 _ _ [] S [] rfl f2 ⟨m2, .nil, by simp⟩ (by simp)⟩
  refine callA_of (all_spec q.m q.g.sl fun b hb => by rw [Vec.sblk_eq q.g] at hb; exact (q.g.lt b hb).2) fun u h4 ⟨e, s4⟩ f4 => ?_
  subst e
  simp only [retA_iff, oneOf_one]
  simp
end
end Go.Proofs.Ythjpddggnhgjhaa.Ah
