/- Levels: how many runs, how many steps, how long a manifest. -/
import Derived.Test.YtfmoemconapmhaaGreatQxa
import Derived.Test.YtfmoemconapmhaaGreatQxb
import Derived.Test.YtfmoemconapmhaaGreatNxa
set_option linter.unusedVariables false
set_option linter.unusedSimpArgs false
set_option linter.constructorNameAsVariable false
namespace Go.Proofs.YtfmoemconapmhaaGreat.Ah
open Go
def LS.tot (s : LS) : Nat := s.lv.flatten.length
theorem qca {α : Type} : ∀ (lv : List (List α)) (n : Nat) (r : List α), n < lv.length → (lv.set n r).flatten.length + (lv.getD n []).length = lv.flatten.length + r.length
 | [], _, _, h => absurd h (by simp)
 | a :: t, 0, r, _ => by simp; omega
 | a :: t, n + 1, r, h => by
  have := qca t n r (by simpa using h)
  simp only [List.set_cons_succ, List.flatten_cons, List.length_append, List.getD_cons_succ] at *
  omega
theorem qi6 : ∀ (lv : List (List (List Ent))) (m n : Nat) (r : List (List Ent)), n < lv.length → pot m (lv.set n r) + (m - n) * (lv.getD n []).length = pot m lv + (m - n) * r.length
 | [], _, _, _, h => absurd h (by simp)
 | a :: t, m, 0, r, _ => by simp [pot]; omega
 | a :: t, m, n + 1, r, h => by
  have := qi6 t (m - 1) n r (by simpa using h)
  simp only [List.set_cons_succ, List.getD_cons_succ, pot]
  rw [show m - (n + 1) = m - 1 - n by omega]
  omega
theorem qtk : ∀ (m : Nat) (lv : List (List (List Ent))), pot m lv ≤ m * lv.flatten.length
 | _, [] => by simp [pot]
 | m, r :: t => by
  have h1 := qtk (m - 1) t
  have h2 : (m - 1) * t.flatten.length ≤ m * t.flatten.length := Nat.mul_le_mul_right _ (by omega)
  simp only [pot, List.flatten_cons, List.length_append, Nat.mul_add]
  omega
theorem qqc {α : Type} : ∀ (lv : List (List α)), (lv.drop (lastN lv)).flatten = []
 | [] => by simp [lastN]
 | r :: t => by
  have := qqc t
  unfold lastN
  split
  ·simpa using this
  ·rename_i h
   have h0 : lastN t = 0 := by omega
   rw [h0] at this
   split
   ·simpa using this
   ·rename_i h2
    have : r = [] := by simpa using h2
    subst this
    simpa using ‹(List.drop 0 t).flatten = []›
theorem qq8 {α : Type} (lv : List (List α)) : (lv.take (lastN lv)).flatten = lv.flatten := by
 have h1 := qqc lv
 have h2 : lv.take (lastN lv) ++ lv.drop (lastN lv) = lv := List.take_append_drop _ _
 calc (lv.take (lastN lv)).flatten = (lv.take (lastN lv)).flatten ++ (lv.drop (lastN lv)).flatten := by rw [h1, List.append_nil]
  _ = lv.flatten := by rw [← List.flatten_append, h2]
theorem q06z (lv : List (List (List Ent))) : (runsL lv).sum = lv.flatten.length := by
 unfold runsL
 rw [← List.map_take, ← qq8 lv, List.length_flatten]
theorem q054 {lv : List (List (List Ent))} {fan : Nat} (h : fullN lv fan = none) : ∀ r, r ∈ lv → r.length < fan := by
 intro r hr
 unfold fullN at h
 rw [List.findIdx?_eq_none_iff] at h
 have := h r hr
 simpa using this
theorem q08t {lv : List (List (List Ent))} {fan : Nat} (h : fullN lv fan = none) : ∀ n, n ∈ runsL lv → n < fan := by
 intro n hn
 unfold runsL at hn
 obtain ⟨r, hr, rfl⟩ := List.mem_map.1 (List.mem_of_mem_take hn)
 exact q054 h r hr
theorem qr6 {s : LS} (hl : s.lv.length = 16) : s.flush.tot ≤ s.tot + 1 := by
 unfold LS.flush
 split
 ·omega
 ·have := qca s.lv 0 (s.mem :: s.lv.getD 0 []) (by omega)
  simp only [List.length_cons] at this
  unfold LS.tot
  simp only
  omega
theorem qsm {s : LS} (x : Ent) (hl : s.lv.length = 16) : (s.put x).tot ≤ s.tot + 1 := by
 unfold LS.put
 split
 ·exact qr6 (s := { s with mem := withE s.mem x }) hl
 ·unfold LS.tot
  simp only
  omega
theorem q053 {s : LS} {n : Nat} (h : fullN s.lv s.fan = some n) : s.step.lv = lvStep s.lv n := by unfold LS.step; rw [h]
theorem qh7 {s : LS} (h : fullN s.lv s.fan = none) : s.step = s := by unfold LS.step; rw [h]
theorem qh9 {s : LS} {W n : Nat} (o : LOk s W) (h : fullN s.lv s.fan = some n) : s.step.tot + 1 ≤ s.tot ∧ pot 16 s.step.lv + 1 ≤ pot 16 s.lv := by
 obtain ⟨r, hr, hf⟩ := qbh h
 have hnum := o.num
 have hlen := o.len
 have hn : n < 16 := by have := (List.getElem?_eq_some_iff.1 hr).1; omega
 have hg : s.lv.getD n [] = r := getD_some hr
 have t1 := qca s.lv n [] (by omega)
 have p1 := qi6 s.lv 16 n [] (by omega)
 rw [hg] at t1 p1
 have hsz : (s.lv.set n []).length = 16 := by simp [hlen]
 have q1 : (16 - n) * 2 ≤ (16 - n) * r.length := Nat.mul_le_mul_left _ (by omega)
 unfold LS.tot
 rw [q053 h]
 unfold lvStep
 simp only [List.length_nil, Nat.mul_zero] at t1 p1
 split
 ·omega
 ·have t2 := qca (s.lv.set n []) (min (n + 1) 15) (mergedN s.lv n :: (s.lv.set n []).getD (min (n + 1) 15) []) (by omega)
  have p2 := qi6 (s.lv.set n []) 16 (min (n + 1) 15) (mergedN s.lv n :: (s.lv.set n []).getD (min (n + 1) 15) []) (by omega)
  simp only [List.length_cons, Nat.mul_add, Nat.mul_one] at t2 p2
  omega
theorem q07g {s : LS} {W : Nat} (o : LOk s W) : s.step.tot ≤ s.tot := by
 cases h : fullN s.lv s.fan with
 | none => rw [qh7 h]; omega
 | some n => have := (qh9 o h).1; omega
theorem qtg {α : Type} {f : α → Nat} : ∀ {l : List α} {x : α}, x ∈ l → f x ≤ (l.map f).sum
 | a :: t, x, h => by
  rcases List.mem_cons.1 h with rfl | h
  ·simp
  ·have := qtg (f := f) h
   simp only [List.map_cons, List.sum_cons]
   omega
theorem q06s {s : LS} {W : Nat} (o : LOk s W) (hW : W ≤ 1048576) {l : List Ent} (hl : l ∈ s.lv.flatten) : (runB s.bl l).length ≤ 20 := by
 have hnum := o.num
 obtain ⟨r, hr, hlr⟩ := List.mem_flatten.1 hl
 have hc := (o.rok r hr l hlr).1
 have hz := qi8 hnum.1 hnum.2.1 hc
 have hs : entsz l ≤ (s.lv.flatten.map entsz).sum := qtg hl
 have := o.size
 have h1 := q8k hz (by omega)
 have h2 := q83 (bldR (s.bl : Int) l)
 have h3 := q06 (n := (bldR (s.bl : Int) l).length) (by omega)
 have h4 := q06 (n := crcOf (bldR (s.bl : Int) l)) (by omega)
 simp only [runB, List.length_append]
 omega
theorem qrd (bl : Nat) : ∀ lv : List (List (List Ent)), (∀ l, l ∈ lv.flatten → (runB bl l).length ≤ 20) → lv.flatten.length < 18446744073709551616 → (lv.flatMap (lvB bl)).length ≤ 10 * lv.length + 20 * lv.flatten.length
 | [], _, _ => by simp
 | r :: t, h, hb => by
  simp only [List.flatten_cons, List.length_append] at hb
  have h1 := qrd bl t (fun l hl => h l (by simp [List.flatten_cons]; exact .inr (by simpa using hl))) (by omega)
  have h2 : ∀ (r' : List (List Ent)), (∀ l, l ∈ r' → (runB bl l).length ≤ 20) → (r'.flatMap (runB bl)).length ≤ 20 * r'.length := by
   intro r' hr'
   induction r' with
   | nil => simp
   | cons a r' ih =>
    have := ih fun l hl => hr' l (by simp [hl])
    have := hr' a (by simp)
    simp only [List.flatMap_cons, List.length_append, List.length_cons]
    omega
  have h3 := h2 r fun l hl => h l (by simp [hl])
  have h4 := q06 (n := r.length) (by omega)
  simp only [List.flatMap_cons, List.flatten_cons, List.length_append, List.length_cons, lvB]
  omega
theorem qt2 {s : LS} {W : Nat} (o : LOk s W) (hW : W ≤ 1048576) (ht : s.tot ≤ 50000) : (manB s).length ≤ 200 + 20 * s.tot := by
 have hnum := o.num
 have hla := q4n s.lv
 have hlv := o.len
 have hrl : (runsL s.lv).length ≤ 16 := by unfold runsL; rw [List.length_take, List.length_map]; omega
 have h1 := q06 (n := s.bl) (by omega)
 have h2 := q06 (n := s.fan) (by omega)
 have h3 := q06 (n := s.top) (by omega)
 have h4 := q06 (n := (runsL s.lv).length) (by omega)
 have hf := qq8 s.lv
 have h5 := qrd s.bl (s.lv.take (lastN s.lv)) (fun l hl => q06s o hW (by rw [hf] at hl; exact hl)) (by rw [hf]; unfold LS.tot at ht; omega)
 rw [hf, List.length_take] at h5
 unfold manB LS.tot
 simp only [List.length_append]
 omega
theorem q024 {s : Nat} {x : Value} {lo hi mx : Option Value} {p : Hp → Prop} {h : Hp} (q : slSlA s x lo hi mx (fun _ h => p h) h) : p h := by
 unfold slSlA at q
 obtain ⟨a, c, d, l, u, -, -, -, -, -, q⟩ := q
 cases mx with
 | none =>
  simp only at q
  split at q
  ·exact q.2.elim fun _ w => w.2.2.2
  ·exact q.2
 | some mv => exact q.elim fun _ w => w.2.2.2.2
theorem Sl.cutS {w0 : World} {h : Hp} {s n : Nat} {x : Value} {ys : List Value} (v : Sl w0 h s x n ys) {lo hi : Nat} (hl : lo ≤ hi) (hh : hi ≤ n) : Sl w0 h s (cutV s x lo hi) (hi - lo) ((ys.take (hi * s)).drop (lo * s)) :=
 q024 (lo := some (.int .i64 (lo : Int))) (hi := some (.int .i64 (hi : Int))) (mx := none) (p := fun h => Sl w0 h s (cutV s x lo hi) (hi - lo) ((ys.take (hi * s)).drop (lo * s)))
  (v.cutN (K := fun _ h => Sl w0 h s (cutV s x lo hi) (hi - lo) ((ys.take (hi * s)).drop (lo * s))) qv qv hl hh fun x' e _ g => by subst e; exact g)
theorem qrl : ∀ (l : List LOp) (i : Nat), (l.flatMap LOp.e).take (i * 5) = (l.take i).flatMap LOp.e
 | [], i => by simp
 | o :: l, 0 => by simp
 | o :: l, i + 1 => by
  have := qrl l i
  rw [List.flatMap_cons, List.take_succ_cons, List.flatMap_cons, ← this, List.take_append, List.take_of_length_le (by simp [LOp.e]; omega), show (i + 1) * 5 - o.e.length = i * 5 by simp [LOp.e]; omega]
theorem q04j (l : List LOp) (i : Nat) : opsz (l.take i) ≤ opsz l := by
 have h := List.take_append_drop i l
 have : opsz l = opsz (l.take i) + opsz (l.drop i) := by
  conv => lhs; rw [← h]
  unfold opsz
  rw [List.map_append, List.sum_append]
 omega
theorem FM_D {w0 : World} {h : Hp} {v : Value} {ps : List (Value × List UInt8 × List Nat)} {S0 : List Nat} {s : LS} (fm : FM w0 h v ps S0) (e : (ps.map fun p => p.2.1) = filesB s) :
  ∃ D : List (Value × List Ent), Vec w0 h 1 v D.length (D.map (·.1)) S0 ∧ D.map (·.2) = s.lv.flatten ∧ ∀ p : Value × List Ent, p ∈ D → ∃ U, Vec w0 h 1 p.1 (bldR (s.bl : Int) p.2).length (bvs (bldR (s.bl : Int) p.2)) U := by
 have hlen : ps.length = s.lv.flatten.length := by have := congrArg List.length e; simpa only [filesB, List.length_map] using this
 have e1 : ((ps.map (·.1)).zip s.lv.flatten).map (·.1) = ps.map (·.1) := by
  rw [List.map_fst_zip (by simp [hlen])]
 have e2 : ((ps.map (·.1)).zip s.lv.flatten).map (·.2) = s.lv.flatten := by
  rw [List.map_snd_zip (by simp [hlen])]
 refine ⟨(ps.map (·.1)).zip s.lv.flatten, ?_, e2, fun p hp => ?_⟩
 ·rw [e1, show ((ps.map (·.1)).zip s.lv.flatten).length = ps.length by simp [hlen]]
  exact fm.1
 ·obtain ⟨i, hi⟩ := List.mem_iff_getElem?.1 hp
  rw [List.getElem?_zip_eq_some] at hi
  obtain ⟨h1, h2⟩ := hi
  rw [List.getElem?_map] at h1
  obtain ⟨q, hq, hq1⟩ := Option.map_eq_some_iff.1 h1
  have h3 := congrArg (fun l : List (List UInt8) => l[i]?) e
  simp only [filesB, List.getElem?_map, hq, h2, Option.map_some, Option.some.injEq] at h3
  have := (fm.2.1 q (List.mem_of_getElem? hq)).1
  rw [hq1, h3] at this
  exact ⟨_, this⟩
def usTail (P : Program) (w0 : World) (R : Value → Value → Value → Value → Value → Value → Hp → Prop) (kr : Value → Value → Value → Hp → Prop) (x1 x2 x3 x40 x41 x42 v47 : Value) : Hp → Prop :=
 callA P w0 q0k [x3] fun v94 =>
 callA P w0 q1g [v94, v47] fun v96 =>
 pureA (unA .not v96) fun v97 =>
 condA v97 (kr x1 (.bool false) x3) (
 pureA (binA .add x42 (.int .i64 1)) fun v98 =>
 R x1 x2 x3 x40 x41 v98)
section
variable {w0 : World} {h h' : Hp}
theorem q08j {R : Value → Value → Value → Value → Value → Value → Hp → Prop} {kr : Value → Value → Value → Hp → Prop} {x1 x2 x40 x41 r v : Value} {i : Nat} {s : LS} {S A U : List Nat} {W : Nat} {vw : List Ent} (m : Lv w0 h r s S A) (ok : LOk s W) (hW : W ≤ 1048576) (hvw : s.view = vw) (g : Vec w0 h 2 v vw.length (vw.flatMap pe) U) (hi : i ≤ 2000000)
  (hR : ∀ h', Fit w0 h' → Step h h' [] [] → R x1 x2 r x40 x41 (.int .i64 ((i + 1 : Nat) : Int)) h') : usTail prog w0 R kr x1 x2 r x40 x41 (.int .i64 (i : Int)) v h := by
 have e6 : IntKind.i64.wrap ((i : Int) + 1) = ((i + 1 : Nat) : Int) := by rw [IntWalk.i64_in _ (by omega)]; simp
 have hvl := qhv ok hW
 subst hvw
 unfold usTail
 refine qb (qbr m ok hW) fun v2 h2 ⟨S2, g2, s2⟩ f2 => ?_
 refine qb (qpo g2.sl (g.frame s2 (by simp)).sl (by omega)) fun u h3 ⟨e, e'⟩ f3 => ?_
 subst e
 subst e'
 simp only [wd, wa, e6]
 exact hR _ f3 (s2.less (by simp))
theorem qsz {k0 kr : Value → Value → Value → Hp → Prop} {px : Nat} {b f t : Int} {vs v x2 : Value} {l : List LOp} (hx : ∀ h, Fit w0 h → Sl w0 h 5 v l.length (l.flatMap LOp.e)) (hl : l.length ≤ 1000) (hpx : w0.heap.size ≤ px)
  (hk : ∀ h1 r s S A W, Fit w0 h1 → Lv w0 h1 r s S A → LOk s W → W ≤ 1048576 → s.tot ≤ 1000 → (s.fan : Int) = f → px ∉ S → h1.blk px = some (scrV b f t vs) → px < h1.next → k0 (.pointer (some ⟨px, 0, none⟩)) x2 r h1) :
  ∀ (post pre : List LOp) (h1 : Hp) (r : Value) (s : LS) (S A : List Nat) (W : Nat), pre ++ post = l → Fit w0 h1 → Lv w0 h1 r s S A → LOk s W → W + opsz post ≤ 1048576 → s.tot ≤ pre.length → ((s.bl : Int) = b ∧ (s.fan : Int) = f ∧ (s.top : Int) = t) → px ∉ S → h1.blk px = some (scrV b f t vs) → px < h1.next →
   q1f prog w0 k0 kr (post.length + 1) (.pointer (some ⟨px, 0, none⟩)) x2 r v (.int .i64 (l.length : Int)) (.int .i64 (pre.length : Int)) h1 := by
 intro post
 induction post with
 | nil =>
  intro pre h1 r s S A W he f1 m ok hW ht hn hpS hbx hpl
  have hpre : pre = l := by simpa using he
  subst hpre
  rw [List.length_nil, q1f]
  simp only [q9a, wd, wa, Int.lt_irrefl, decide_false]
  exact hk h1 r s S A W f1 m ok (by omega) (by omega) hn.2.1 hpS hbx hpl
 | cons o post ih =>
  intro pre h1 r s S A W he f1 m ok hW ht hn hpS hbx hpl
  have hlen : pre.length + (post.length + 1) = l.length := by rw [← he]; simp
  have hg : l[pre.length]? = some o := by rw [← he]; simp
  have c1 : decide ((pre.length : Int) < (l.length : Int)) = true := decide_eq_true (by omega)
  have e6 : IntKind.i64.wrap ((pre.length : Int) + 1) = ((pre.length + 1 : Nat) : Int) := by rw [IntWalk.i64_in _ (by omega)]; simp
  have hcost := qqz o post
  have hlv := ok.len
  have hnum := ok.num
  have hsz := ok.size
  rw [List.length_cons, q1f]
  simp only [q9a, wd, wa, c1]
  refine (hx h1 f1).elem (by omega) (q086 hg) ?_
  refine boxN f1.base rfl rfl (by simp [isCell]) ?_
  have s1 : Step h1 (h1.new o.e 5) [] [h1.next] := (Step.refl h1 [] (by simp)).new _ _
  have b1 : (h1.new o.e 5).blk h1.next = some o.e := by simp
  have f2 : Fit w0 (h1.new o.e 5) := f1.new (by simp [LOp.e, isCell])
  have n2 : (h1.new o.e 5).next = h1.next + 1 := rfl
  have fb := f1.base
  have m2 := m.step0 (s1.less (T := []) (by simp))
  have hbx2 : (h1.new o.e 5).blk px = some (scrV b f t vs) := by rw [(s1.keep px hpl (by simp)).1]; exact hbx
  have hpN : h1.next ∉ S := fun w => by have := (m.lt _ w).2; omega
  generalize h1.new o.e 5 = h2 at *
  refine qb (qbr m2 ok (by omega)) fun v47 h3 ⟨U, g3, s3⟩ f3 => ?_
  have b3 : h3.blk h1.next = some o.e := by rw [(s3.keep _ (by omega) (by simp)).1]; exact b1
  have hbx3 : h3.blk px = some (scrV b f t vs) := by rw [(s3.keep px (by omega) (by simp)).1]; exact hbx2
  have n3 := s3.1
  have m3 := m2.step0 s3
  have hU : ∀ b, b ∈ U → b ∉ S := fun b hb w => by
   have := (m2.lt b w).2
   rcases (s3.own b hb).2 with q | q
   ·simp at q
   ·omega
  -- what follows, whatever was done
  have nxt : ∀ (h4 : Hp) (r' : Value) (s' : LS) (S' A' : List Nat) (W' : Nat), Fit w0 h4 → Lv w0 h4 r' s' S' A' → LOk s' W' → W' + opsz post ≤ 1048576 → s'.tot ≤ pre.length + 1 → ((s'.bl : Int) = b ∧ (s'.fan : Int) = f ∧ (s'.top : Int) = t) → px ∉ S' → h4.blk px = some (scrV b f t vs) → px < h4.next →
    q1f prog w0 k0 kr (post.length + 1) (.pointer (some ⟨px, 0, none⟩)) x2 r' v (.int .i64 (l.length : Int)) (.int .i64 ((pre.length + 1 : Nat) : Int)) h4 := by
   intro h4 r' s' S' A' W' f4 m4 ok4 hW4 ht4 hn4 hp4 hb4 hl4
   have := ih (pre ++ [o]) h4 r' s' S' A' W' (by simpa using he) f4 m4 ok4 hW4 (by simpa using ht4) hn4 hp4 hb4 hl4
   simpa using this
  have fin : ∀ (h4 : Hp) (r' : Value) (s' : LS) (S' A' : List Nat) (W' : Nat), Fit w0 h4 → Lv w0 h4 r' s' S' A' → LOk s' W' → W' + opsz post ≤ 1048576 → s'.tot ≤ pre.length + 1 → ((s'.bl : Int) = b ∧ (s'.fan : Int) = f ∧ (s'.top : Int) = t) → px ∉ S' → h4.blk px = some (scrV b f t vs) → px < h4.next → s'.view = s.view → Vec w0 h4 2 v47 s.view.length (s.view.flatMap pe) U →
    usTail prog w0 (q1f prog w0 k0 kr (post.length + 1)) kr (.pointer (some ⟨px, 0, none⟩)) x2 r' v (.int .i64 (l.length : Int)) (.int .i64 (pre.length : Int)) v47 h4 := by
   intro h4 r' s' S' A' W' f4 m4 ok4 hW4 ht4 hn4 hp4 hb4 hl4 hvw g4
   refine q08j m4 ok4 (by omega) hvw g4 (by omega) fun h5 f5 s5 => ?_
   exact nxt h5 r' s' S' A' W' f5 (m4.step0 s5) ok4 hW4 ht4 hn4 hp4 (by rw [(s5.keep px hl4 (by simp)).1]; exact hb4) (by have := s5.1; omega)
  have ownP : ∀ {h4 : Hp} {S' N : List Nat}, Step h3 h4 S (S' ++ N) → px ∉ S' ∧ h4.blk px = some (scrV b f t vs) ∧ px < h4.next ∧ Vec w0 h4 2 v47 s.view.length (s.view.flatMap pe) U := fun {h4 S' N} st => by
   refine ⟨fun w => ?_, by rw [(st.keep px (by omega) hpS).1]; exact hbx3, by have := st.1; omega, g3.frame st hU⟩
   rcases (st.own px (by simp [w])).2 with q | q
   ·exact hpS q
   ·omega
  simp only [wd, wa]
  refine qc fb b3 rfl ?_
  simp only [wd, wa]
  by_cases hk0 : o.k = 0
  ·have d0 : (o.k == 0) = true := by simp [hk0]
   simp only [d0, wd, wa]
   refine qc fb b3 rfl ?_
   refine qc fb b3 rfl ?_
   refine qb (qch o.key o.v m3 ok (by omega)) fun u h4 ⟨S4, N4, e, m4, s4⟩ f4 => ?_
   obtain ⟨p1, p2, p3, -⟩ := ownP s4
   simp only [wd, wa, e6]
   cases hxr : rightE ⟨o.key, o.v, false⟩ with
   | true =>
    rw [hxr] at m4
    have hnn := qs5 s ⟨o.key, o.v, false⟩
    exact nxt h4 r _ S4 _ _ f4 m4 (q5k ok hxr) (by simp only; omega) (by have := qsm ⟨o.key, o.v, false⟩ hlv; simp only [if_true]; omega) (by simp only [if_true]; rw [hnn.1, hnn.2.1, hnn.2.2]; exact hn) p1 p2 p3
   | false =>
    rw [hxr] at m4
    exact nxt h4 r s S4 _ W f4 m4 ok (by omega) (by omega) hn p1 p2 p3
  have d0 : (o.k == 0) = false := by simpa using hk0
  simp only [d0, wd, wa]
  by_cases hk1 : o.k = 1
  ·have d1 : (o.k == 1) = true := by simp [hk1]
   simp only [d1, wd, wa]
   refine qc fb b3 rfl ?_
   refine qb (qqg o.key m3 ok (by omega)) fun u h4 ⟨S4, N4, e, m4, s4⟩ f4 => ?_
   obtain ⟨p1, p2, p3, -⟩ := ownP s4
   simp only [wd, wa, e6]
   cases hxr : rightE ⟨o.key, [], true⟩ with
   | true =>
    rw [hxr] at m4
    have hnn := qs5 s ⟨o.key, [], true⟩
    exact nxt h4 r _ S4 _ _ f4 m4 (q5k ok hxr) (by simp only [List.length_nil]; omega) (by have := qsm ⟨o.key, [], true⟩ hlv; simp only [if_true]; omega) (by simp only [if_true]; rw [hnn.1, hnn.2.1, hnn.2.2]; exact hn) p1 p2 p3
   | false =>
    rw [hxr] at m4
    exact nxt h4 r s S4 _ W f4 m4 ok (by omega) (by omega) hn p1 p2 p3
  have d1 : (o.k == 1) = false := by simpa using hk1
  simp only [d1, wd, wa]
  have hlv0 := ok.lvl 0
  have hfn := qpm s
  have htf := qr6 hlv
  by_cases hk4 : o.k = 4
  ·have d4 : (o.k == 4) = true := by simp [hk4]
   simp only [d4, wd, wa]
   refine qb (qhl m3 hnum.1 hnum.2.1 (q8h ok.mright ok.msrt) (by omega) (by omega)) fun u h4 ⟨S4, N4, e, m4, s4⟩ f4 => ?_
   obtain ⟨p1, p2, p3, p4⟩ := ownP s4
   have := fin h4 r s.flush S4 _ W f4 m4 (qh8 ok) (by omega) (by omega) (by rw [hfn.1, hfn.2.1, hfn.2.2]; exact hn) p1 p2 p3 (qpl ok) p4
   simp only [usTail, wd, wa, e6] at this
   simp only [e6]
   exact this
  have d4 : (o.k == 4) = false := by simpa using hk4
  simp only [d4, wd, wa]
  by_cases hk5 : o.k = 5
  ·have d5 : (o.k == 5) = true := by simp [hk5]
   simp only [d5, wd, wa]
   have hsn := qr1 s
   have hts := q07g ok
   refine qb (qc8 m3 ok (by omega)) fun u h4 ⟨S4, N4, e, m4, s4⟩ f4 => ?_
   obtain ⟨p1, p2, p3, p4⟩ := ownP s4
   have := fin h4 r s.step S4 _ W f4 m4 (qhi ok) (by omega) (by omega) (by rw [hsn.1, hsn.2.1, hsn.2.2]; exact hn) p1 p2 p3 (qpr ok) p4
   simp only [usTail, wd, wa, e6] at this
   simp only [e6]
   exact this
  have d5 : (o.k == 5) = false := by simpa using hk5
  simp only [d5, wd, wa]
  by_cases hk8 : o.k = 8
  ·have d8 : (o.k == 8) = true := by simp [hk8]
   simp only [d8, wd, wa]
   refine qb (qhl m3 hnum.1 hnum.2.1 (q8h ok.mright ok.msrt) (by omega) (by omega)) fun u h4 ⟨S4, N4, e, m4, s4⟩ f4 => ?_
   obtain ⟨p1, p2, p3, p4⟩ := ownP s4
   have hpx4 : ∀ {h5 : Hp} {S5 : List Nat}, Step h4 h5 [] S5 → h5.blk px = some (scrV b f t vs) := fun st => by rw [(st.keep px p3 (by simp)).1]; exact p2
   have okf := qh8 ok
   have hmf : s.flush.mem = [] := by
    unfold LS.flush
    split <;> simp_all
   have heq : ({ s.flush with mem := [] } : LS) = s.flush := by rw [← hmf]
   refine q0p (e := [.int .i64 b, .int .i64 f, .int .i64 t]) hpx p2 rfl ?_
   refine qb (qpb m4 okf (by omega) (by have := qt2 okf (by omega) (by omega); omega)) fun v80 h5 ⟨S5, g5, s5⟩ f5 => ?_
   simp only [q0c, q0a, q7k]
   refine ⟨q0p (e := [.int .i64 b, .int .i64 f, .int .i64 t]) hpx (hpx4 s5) rfl rfl, ?_⟩
   have m5 := m4.step0 s5
   refine qb (q07a m5 (by have := okf.runs; omega)) fun v82 h6 ⟨S0, ps, fm, efm, o1, o2, s6⟩ f6 => ?_
   simp only [q0c, q0a, q7k]
   have s46 : Step h4 h6 [] [] := (s5.less (by simp)).trans s6
   refine ⟨q0p (e := [.int .i64 b, .int .i64 f, .int .i64 t]) hpx (hpx4 s46) rfl rfl, ?_⟩
   obtain ⟨D, gD, eD, hD⟩ := FM_D fm efm
   have ht : (.agg ([.int .i64 b, .int .i64 f, .int .i64 t] : List Value).toArray : Value) = tierV (s.flush.bl : Int) (s.flush.fan : Int) (s.flush.top : Int) := by
    rw [hfn.1, hfn.2.1, hfn.2.2, hn.1, hn.2.1, hn.2.2]; rfl
   rw [ht]
   refine qb (q087 okf (by omega) (by have := qt2 okf (by omega) (by omega); omega) (g5.frame s6 (by simp)).gv gD.sl (fun b hb => by rw [gD.sblk_eq] at hb; exact (gD.lt b hb).2) eD hD) fun w h7 ⟨p, S7, A7, e7, m7, s7⟩ f7 => ?_
   subst e7
   rw [heq] at m7
   obtain ⟨qp, ep⟩ := m7.ptrV
   subst ep
   have c3 : binPtrA .eql (.pointer (some ⟨qp, 0, none⟩)) (.pointer none) = some (.bool false) := rfl
   have s47 : Step h4 h7 [] (S7 ++ A7) := s46.trans s7
   have hp7 : px ∉ S7 := fun w => by
    rcases (s7.own px (by simp [w])).2 with q | q
    ·simp at q
    ·have := s46.1; omega
   have := fin h7 _ s.flush S7 A7 W f7 m7 okf (by omega) (by omega) (by rw [hfn.1, hfn.2.1, hfn.2.2]; exact hn) hp7 (hpx4 s47) (by have := s47.1; omega) (qpl ok) (p4.frame s47 (by simp))
   simp only [usTail, wd, wa, e6] at this
   simp only [wd, wa, c3, e6, show ((0 : Int) != 0) = false from rfl]
   exact this
  have d8 : (o.k == 8) = false := by simpa using hk8
  simp only [d8, wd, wa]
  have s0 : Step h3 h3 S (S ++ []) := by rw [List.append_nil]; exact .refl _ _ fun b hb => by have := (m3.lt b hb).2; omega
  obtain ⟨p1, p2, p3, p4⟩ := ownP s0
  have := fin h3 r s S A W f3 m3 ok (by omega) (by omega) hn p1 p2 p3 rfl p4
  simp only [usTail, wd, wa, e6] at this
  simp only [e6]
  exact this
end
section
variable {w0 : World} {h h' : Hp}
theorem q09c {k3 : Value → Value → Value → Value → Value → Hp → Prop} {x1 x2 x3 x11 x102 : Value} {l : List Nat} (hv : Sl w0 h 1 x102 l.length (inV l)) (hl : l.length ≤ 16) (hs : l.sum ≤ 1000000) (hk : k3 x1 x2 x3 x11 (.int .i64 ((1 + 16 * l.sum : Nat) : Int)) h) :
  ∀ (post pre : List Nat), pre ++ post = l →
   q2o prog w0 k3 (post.length + 1) x1 x2 x3 x11 (.int .i64 ((1 + 16 * pre.sum : Nat) : Int)) x102 (.int .i64 (l.length : Int)) (.int .i64 (pre.length : Int)) h := by
 intro post
 induction post with
 | nil =>
  intro pre he
  have hpre : pre = l := by simpa using he
  subst hpre
  rw [List.length_nil, q2o]
  simp only [q99, wd, wa, Int.lt_irrefl, decide_false]
  exact hk
 | cons n post ih =>
  intro pre he
  have hlen : pre.length + (post.length + 1) = l.length := by rw [← he]; simp
  have hg : l[pre.length]? = some n := by rw [← he]; simp
  have hsum : l.sum = pre.sum + (n + post.sum) := by rw [← he]; simp
  have c1 : decide ((pre.length : Int) < (l.length : Int)) = true := decide_eq_true (by omega)
  have e6 : IntKind.i64.wrap ((pre.length : Int) + 1) = (((pre ++ [n]).length : Nat) : Int) := by rw [IntWalk.i64_in _ (by omega)]; simp
  have e7 : IntKind.i64.wrap (16 * (n : Int)) = ((16 * n : Nat) : Int) := by rw [IntWalk.i64_in _ (by omega)]; simp
  have e8 : IntKind.i64.wrap (((1 + 16 * pre.sum : Nat) : Int) + ((16 * n : Nat) : Int)) = ((1 + 16 * (pre ++ [n]).sum : Nat) : Int) := by rw [IntWalk.i64_in _ (by omega)]; simp; omega
  rw [List.length_cons, q2o]
  simp only [q99, wd, wa, c1]
  refine hv.one (q4o hg) ?_
  simp only [wd, wa, e7, e8, e6]
  exact ih (pre ++ [n]) (by simpa using he)
theorem q06a {k5 kr : Value → Value → Value → Value → Hp → Prop} {px : Nat} {b f t : Int} {vs x2 r v : Value} {vw : List Ent} {M W : Nat} (hW : W ≤ 1048576) (hM : M ≤ 1000000)
  (hk : ∀ h1 s S A U, Fit w0 h1 → Lv w0 h1 r s S A → LOk s W → (s.fan : Int) = f → s.view = vw → fullN s.lv s.fan = none → Vec w0 h1 2 v vw.length (vw.flatMap pe) U → h1.blk px = some (scrV b f t vs) → px < h1.next → k5 (.pointer (some ⟨px, 0, none⟩)) x2 r v h1) :
  ∀ (m c : Nat) (h1 : Hp) (s : LS) (S A U : List Nat), pot 16 s.lv ≤ m → c + m < M → Fit w0 h1 → Lv w0 h1 r s S A → LOk s W → (s.fan : Int) = f → s.view = vw → Vec w0 h1 2 v vw.length (vw.flatMap pe) U → (∀ b, b ∈ U → b ∉ S) → px ∉ S → h1.blk px = some (scrV b f t vs) → px < h1.next →
   q2p prog w0 k5 kr (m + 1) (.pointer (some ⟨px, 0, none⟩)) x2 r v (.int .i64 (M : Int)) (.int .i64 (c : Int)) h1 := by
 intro m
 induction m with
 | zero =>
  intro c h1 s S A U hp hc f1 m1 ok hf hvw g hU hpS hb hl
  rw [q2p]
  simp only [q98]
  refine qb (qc8 m1 ok hW) fun u h2 ⟨S2, N2, e, m2, s2⟩ f2 => ?_
  subst e
  cases hfn : fullN s.lv s.fan with
  | some n => have := (qh9 ok hfn).2; omega
  | none =>
   rw [qh7 hfn] at m2
   simp only [Option.isSome_none, wd, wa]
   exact hk h2 s S2 _ U f2 m2 ok hf hvw hfn (g.frame s2 hU) (by rw [(s2.keep px hl hpS).1]; exact hb) (by have := s2.1; omega)
 | succ m ih =>
  intro c h1 s S A U hp hc f1 m1 ok hf hvw g hU hpS hb hl
  rw [q2p]
  simp only [q98]
  refine qb (qc8 m1 ok hW) fun u h2 ⟨S2, N2, e, m2, s2⟩ f2 => ?_
  subst e
  cases hfn : fullN s.lv s.fan with
  | some n =>
   have hpt := (qh9 ok hfn).2
   have c1 : decide (((c + 1 : Nat) : Int) > (M : Int)) = false := decide_eq_false (by omega)
   have e6 : IntKind.i64.wrap ((c : Int) + 1) = ((c + 1 : Nat) : Int) := by rw [IntWalk.i64_in _ (by omega)]; simp
   have hnn := qr1 s
   have own : ∀ b, b ∈ S2 → b ∈ S ∨ h1.next ≤ b := fun b hb => (s2.own b (by simp [hb])).2
   have c1' : decide ((M : Int) < ((c + 1 : Nat) : Int)) = false := decide_eq_false (by omega)
   simp only [Option.isSome_some, wd, wa, e6, c1, c1']
   refine ih (c + 1) h2 s.step S2 _ U (by omega) (by omega) f2 m2 (qhi ok) (by rw [hnn.2.1]; exact hf) (by rw [qpr ok]; exact hvw) (g.frame s2 hU) (fun b hb w => ?_) (fun w => ?_) (by rw [(s2.keep px hl hpS).1]; exact hb) (by have := s2.1; omega)
   ·rcases own b w with q | q
    ·exact hU b hb q
    ·have := (g.lt b hb).2; omega
   ·rcases own px w with q | q
    ·exact hpS q
    ·omega
  | none =>
   rw [qh7 hfn] at m2
   simp only [Option.isSome_none, wd, wa]
   exact hk h2 s S2 _ U f2 m2 ok hf hvw hfn (g.frame s2 hU) (by rw [(s2.keep px hl hpS).1]; exact hb) (by have := s2.1; omega)
theorem q095 {k7 : Value → Value → Value → Hp → Prop} {kr : Value → Value → Value → Hp → Prop} {px : Nat} {b t : Int} {fan : Nat} {vs x2 x3 x11 x121 : Value} {l : List Nat} (hpx : w0.heap.size ≤ px) (hb : h.blk px = some (scrV b (fan : Int) t vs)) (hv : Sl w0 h 1 x121 l.length (inV l)) (hl : l.length ≤ 16) (hs : ∀ n, n ∈ l → n < fan)
  (hk : k7 x2 x3 x11 h) : ∀ (post pre : List Nat), pre ++ post = l →
   q2n prog w0 k7 kr (post.length + 1) (.pointer (some ⟨px, 0, none⟩)) x2 x3 x11 x121 (.int .i64 (l.length : Int)) (.int .i64 (pre.length : Int)) h := by
 intro post
 induction post with
 | nil =>
  intro pre he
  have hpre : pre = l := by simpa using he
  subst hpre
  rw [List.length_nil, q2n]
  simp only [q9d, wd, wa, Int.lt_irrefl, decide_false]
  exact hk
 | cons n post ih =>
  intro pre he
  have hlen : pre.length + (post.length + 1) = l.length := by rw [← he]; simp
  have hg : l[pre.length]? = some n := by rw [← he]; simp
  have hn := hs n (by rw [← he]; simp)
  have c1 : decide ((pre.length : Int) < (l.length : Int)) = true := decide_eq_true (by omega)
  have c2 : decide ((fan : Int) ≤ (n : Int)) = false := decide_eq_false (by omega)
  have e6 : IntKind.i64.wrap ((pre.length : Int) + 1) = (((pre ++ [n]).length : Nat) : Int) := by rw [IntWalk.i64_in _ (by omega)]; simp
  rw [List.length_cons, q2n]
  simp only [q9d, wd, wa, c1]
  refine hv.one (q4o hg) ?_
  refine qc hpx hb rfl ?_
  simp only [wd, wa, c2, e6]
  exact ih (pre ++ [n]) (by simpa using he)
theorem qsb {px : Nat} {b f t : Int} {vs r : Value} {s : LS} {S A : List Nat} {W : Nat} (hpx : w0.heap.size ≤ px) (fi : Fit w0 h) (m : Lv w0 h r s S A) (ok : LOk s W) (hW : W ≤ 1048576) (ht : s.tot ≤ 1000) (hf : (s.fan : Int) = f) (hpS : px ∉ S) (hb : h.blk px = some (scrV b f t vs)) (hl : px < h.next) :
  (callA prog w0 q0k [r] fun v100_137 =>
   callA prog w0 q17 [r] fun v102_138 =>
   pureA (lenSl v102_138) fun v103_139 =>
   q9c prog w0 (fun y1_140 y2_141 y3_142 y11_143 y12_144 =>
   q9e prog w0 (fun y1_145 y2_146 y3_147 y11_148 =>
   callA prog w0 q17 [y3_147] fun v121_149 =>
   pureA (lenSl v121_149) fun v122_150 =>
   q9b prog w0 (fun y2_151 y3_152 y11_153 =>
   callA prog w0 q0k [y3_152] fun v139_154 =>
   callA prog w0 q1g [v139_154, y11_153] fun v141_155 =>
   retA [v141_155] fun r _ => r = .bool true) (fun y2_156 y3_157 y11_158 =>
   retA [y2_156] fun r _ => r = .bool true) y1_145 y2_146 y3_147 y11_148 v121_149 v122_150 (.int .i64 0)) (fun y1_159 y2_160 y3_161 y11_162 =>
   retA [y2_160] fun r _ => r = .bool true) y1_140 y2_141 y3_142 y11_143 y12_144 (.int .i64 0)) (.pointer (some ⟨px, 0, none⟩)) (.bool false) r v100_137 (.int .i64 1) v102_138 v103_139 (.int .i64 0)) h := by
 have hvl := qhv ok hW
 have hlv := ok.len
 have hrl : ∀ {s : LS}, LOk s W → (runsL s.lv).length ≤ 16 := fun {s} o => by
  have := o.len
  unfold runsL
  rw [List.length_take, List.length_map]
  omega
 refine qb (qbr m ok hW) fun v h2 ⟨U, g2, s2⟩ f2 => ?_
 have m2 := m.step0 s2
 have hU : ∀ b, b ∈ U → b ∉ S := fun b hb w => by
  have := (m.lt b w).2
  rcases (s2.own b hb).2 with q | q
  ·simp at q
  ·omega
 refine qb (q8e m2) fun v3 h3 ⟨S3, g3, d3, s3⟩ f3 => ?_
 have m3 := m2.step0 s3
 have gv3 := g2.frame s3 (by simp)
 have hb3 : h3.blk px = some (scrV b f t vs) := by rw [((s2.less (T := []) (by simp)).trans (s3.less (T := []) (by simp)) |>.keep px hl (by simp)).1]; exact hb
 have n3 : px < h3.next := by have := s2.1; have := s3.1; omega
 have hsum := q06z s.lv
 have hpot := qtk 16 s.lv
 simp only [g3.lenv, wd, wa]
 unfold LS.tot at ht
 refine ⟨(runsL s.lv).length + 1, q09c g3 (hrl ok) (by omega) ?_ (runsL s.lv) [] rfl⟩
 refine ⟨pot 16 s.lv + 1, q06a hW (by omega) (fun h4 s4 S4 A4 U4 f4 m4 ok4 hf4 hvw4 hn4 g4 hb4 hl4 => ?_) (pot 16 s.lv) 0 h3 s S A U (Nat.le_refl _) (by omega) f3 m3 ok hf rfl gv3 hU hpS hb3 n3⟩
 refine qb (q8e m4) fun v5 h5 ⟨S5, g5, d5, s5⟩ f5 => ?_
 have m5 := m4.step0 s5
 have gv5 := g4.frame s5 (by simp)
 have hb5 : h5.blk px = some (scrV b f t vs) := by rw [(s5.keep px hl4 (by simp)).1]; exact hb4
 simp only [g5.lenv, wd, wa]
 rw [← hf4] at hb5
 refine ⟨(runsL s4.lv).length + 1, q095 hpx hb5 g5 (hrl ok4) (q08t hn4) ?_ (runsL s4.lv) [] rfl⟩
 refine qb (qbr m5 ok4 hW) fun v6 h6 ⟨U6, g6, s6⟩ f6 => ?_
 rw [hvw4] at g6
 refine qb (qpo g6.sl (gv5.frame s6 (by simp)).sl (by omega)) fun u h7 ⟨e, e'⟩ f7 => ?_
 subst e
 simp only [qd, qh]
 simp
theorem qyy {b f t : Int} {v : Value} {l : List LOp} (hx : ExtSl w0 5 v l.length (l.flatMap LOp.e)) (hl : l.length ≤ 1048576) (hs : opsz l ≤ 1048576) :
  ACalls prog w0 qkd [.agg (scrV b f t v).toArray] h fun r h' => r = .bool true := by
 refine ACalls.of_fit (by simp) fun fi => qvz (by simp) ?_
 have fb := fi.base
 have hfm : (l.flatMap LOp.e).length = l.length * 5 := q09 (e := LOp.e) (s := 5) (fun _ => rfl) l
 have hvc : isCell v = true := (hx.sl' fi hfm).isC
 simp only [q9f]
 refine q1b (e := scrV b f t v) ?_
 have s1 : Step h (h.new (scrV b f t v) 4) [] [] := ((Step.refl h [] (by simp)).new _ _).less (by simp)
 have b1 : (h.new (scrV b f t v) 4).blk h.next = some (scrV b f t v) := by simp
 have l1 : h.next < (h.new (scrV b f t v) 4).next := by simp
 generalize h.new (scrV b f t v) 4 = h1 at *
 refine qo fb b1 rfl ?_
 refine qb (q03q hvc) fun r h2 ⟨c1, c2⟩ f2 => ?_
 cases hr : rightT b f t with
 | false =>
  obtain ⟨e, s2⟩ := c2 hr
  subst e
  have c3 : binPtrA .eql (.pointer none) (.pointer none) = some (.bool true) := rfl
  simp only [wd, wa, c3, qd, qh]
  simp
 | true =>
  obtain ⟨p, pr, S, Sr, e, m2, mr, s2, hd⟩ := c1 hr
  subst e
  obtain ⟨qr, e⟩ := mr.ptrV
  subst e
  have c3 : binPtrA .eql (.pointer (some ⟨qr, 0, none⟩)) (.pointer none) = some (.bool false) := rfl
  have b2 : h2.blk h.next = some (scrV b f t v) := by rw [(s2.keep _ l1 (by simp)).1]; exact b1
  have l2 : h.next < h2.next := by have := s2.1; omega
  have hpS : h.next ∉ S := fun w => by
   rcases (s2.own h.next (by simp [w])).2 with q | q
   ·simp at q
   ·omega
  simp only [wd, wa, c3]
  refine qc fb b2 rfl ?_
  have hn := (q4e _ _ _).1 hr
  have hrn : rightT ((b.toNat : Nat) : Int) ((f.toNat : Nat) : Int) ((t.toNat : Nat) : Int) = true := by
   rw [show ((b.toNat : Nat) : Int) = b by omega, show ((f.toNat : Nat) : Int) = f by omega, show ((t.toNat : Nat) : Int) = t by omega]
   exact hr
  have hnum : ((((newS b.toNat f.toNat t.toNat).bl : Nat) : Int) = b ∧ (((newS b.toNat f.toNat t.toNat).fan : Nat) : Int) = f ∧ (((newS b.toNat f.toNat t.toNat).top : Nat) : Int) = t) := by
   simp only [newS]
   omega
  simp only [(hx.sl' f2 hfm).lenv, wd, wa]
  by_cases hlt : 1000 < l.length
  ·have c4 : decide ((1000 : Int) < (l.length : Int)) = true := decide_eq_true (by omega)
   simp only [c4, wd, wa]
   refine qc fb b2 rfl ?_
   refine (hx.sl' f2 hfm).cutN (lo := 0) (hi := 1000) rfl rfl (by omega) (by omega) fun x' ex _ g2 => ?_
   have hx' : ∀ h, Fit w0 h → Sl w0 h 5 x' (l.take 1000).length ((l.take 1000).flatMap LOp.e) := fun h fh => by
    have := (hx.sl' fh hfm).cutS (lo := 0) (hi := 1000) (by omega) (by omega)
    rw [qrl, Nat.zero_mul, List.drop_zero, ← ex] at this
    rw [List.length_take, show min 1000 l.length = 1000 by omega]
    exact this
   refine qz fb b2 (by simp [scrV]) g2.isC ?_
   have s3 : Step h2 (h2.put h.next ((scrV b f t v).set 3 x')) [h.next] [h.next] := (Step.refl h2 [h.next] (by simp; omega)).put (by simp) _
   have b3 : (h2.put h.next ((scrV b f t v).set 3 x')).blk h.next = some (scrV b f t x') := by simp [scrV]
   have f3 : Fit w0 (h2.put h.next ((scrV b f t v).set 3 x')) := f2.put fb l2 (fun w hw => by simp [scrV] at hw; rcases hw with rfl | rfl | rfl | rfl <;> first | rfl | exact g2.isC)
   have m3 : Lv w0 (h2.put h.next ((scrV b f t v).set 3 x')) p (newS b.toNat f.toNat t.toNat) S [] := m2.frame s3 (by simpa using fun b hb (e : b = h.next) => hpS (by rw [← e]; exact hb)) (by simp)
   have n3 : h.next < (h2.put h.next ((scrV b f t v).set 3 x')).next := by have := s3.1; omega
   refine qc (h := h2.put h.next ((scrV b f t v).set 3 x')) fb b3 rfl ?_
   simp only [(hx' _ f3).lenv, wd, wa]
   refine ⟨(l.take 1000).length + 1, qsz hx' (by rw [List.length_take]; omega) fb (fun h4 r4 s4 S4 A4 W4 f4 m4 ok4 hW4 ht4 hf4 hp4 hb4 hl4 => ?_) (l.take 1000) [] _ _ _ S [] 0 rfl f3 m3 (qie hrn 0) (by have := q04j l 1000; omega) (by simp [newS, LS.tot]) hnum hpS b3 n3⟩
   exact qsb fb f4 m4 ok4 hW4 ht4 hf4 hp4 hb4 hl4
  ·have c4 : decide ((1000 : Int) < (l.length : Int)) = false := decide_eq_false (by omega)
   simp only [c4, wd, wa]
   refine qc fb b2 rfl ?_
   simp only [(hx.sl' f2 hfm).lenv, wd, wa]
   refine ⟨l.length + 1, qsz (fun h fh => hx.sl' fh hfm) (by omega) fb (fun h4 r4 s4 S4 A4 W4 f4 m4 ok4 hW4 ht4 hf4 hp4 hb4 hl4 => ?_) l [] _ _ _ S [] 0 rfl f2 m2 (qie hrn 0) (by omega) (by simp [newS, LS.tot]) hnum hpS b2 l2⟩
   exact qsb fb f4 m4 ok4 hW4 ht4 hf4 hp4 hb4 hl4
end
end Go.Proofs.YtfmoemconapmhaaGreat.Ah
