/- JournalFirst: the records. -/
import Derived.Test.YtiakadkooclelaaJxb
import Derived.Test.YtiakadkooclelaaAhq
import Derived.Test.YtiakadkooclelaaAhp
set_option linter.unusedVariables false
set_option linter.unusedSimpArgs false
set_option linter.constructorNameAsVariable false
namespace Go.Proofs.Ytiakadkooclelaa.Ah
open Go
def jfTail (P : Program) (w0 : World) (R : Value → Value → Value → Value → Value → Value → Value → Value → Value → Value → Value → Value → Value → Hp → Prop) (x0 x2 x3 x4 x5 x14 x15 x17 x19 x21 x22 x23 x24 : Value) : Hp → Prop :=
 pureA (lenSl x4) fun v107 =>
 pureA (binA .gtr v107 (.int .i64 0)) fun v108 =>
 guardA v108 true (fun K => K x4) fun v110 =>
 guardA v108 true (fun K => K x24) fun v111 =>
 guardA v108 true (fun K => K x4) fun v112 =>
 guardA v108 true (pureA (lenSl v112)) fun v113 =>
 guardA v108 true (pureA (binA .rem v111 v113)) fun v114 =>
 guardA v108 true (idxSlA 1 v110 v114) fun v115 =>
 guardA v108 true (loadA w0 v115) fun v116 =>
 guardA v108 true (pureA (binA .eql v116 (.int .i64 0))) fun v117 =>
 pickA v108 v117 (.bool false) fun v118 =>
 condA v118 (
 callA P w0 n_journal_Writer_Take [x15] fun v121 =>
 appA w0 2 32 x23 v121 fun v122 =>
 callA P w0 n_dedupref07_Writer_Take [x17] fun v124 =>
 pureA (binA .add x24 (.int .i64 1)) fun v77 =>
 R x0 x2 x3 x4 x5 x14 x15 x17 x19 x21 x22 v122 v77) (
 pureA (binA .add x24 (.int .i64 1)) fun v77 =>
 R x0 x2 x3 x4 x5 x14 x15 x17 x19 x21 x22 x23 v77)
section
variable {w0 : World} {h h' h0 : Hp} {pw px : Nat} {laid : List (List UInt8)} {ends : List Nat} {l ss : List (List UInt8)} {x19 x21 x22 x23 : Value} {Sw Sx S1 S2 T U SI : List Nat} {col : Nat → Nat}
theorem lo_step {A A' : List Nat} {k : Nat} (s0 : Step h0 h [] []) (st : Step h h' A A') (cA : ∀ b, b ∈ A → col b = k) (hk : k ≠ 0) (lA : ∀ b, b ∈ A → b < h.next) (hc : ∀ b, b < h0.next → col b = 0) : Step h0 h' [] [] := by
  have s1 : Step h0 h [] A := s0.claim fun b hb => ⟨lA b hb, by
    rcases Nat.lt_or_ge b h0.next with q | q
    · exact absurd ((hc b q).symm.trans (cA b hb)) (fun e => hk e.symm)
    · exact q⟩
  exact (s1.trans st).less (by simp)
theorem lo_col {n k : Nat} (hn : h0.next ≤ n) (hc : ∀ b, b < h0.next → col b = 0) : ∀ b, b < h0.next → (if b < n then col b else k) = 0 := fun b hb => by rw [if_pos (by omega)]; exact hc b hb
theorem FS.taken {st : JS} (f : FS st laid ends l) : l.length = st.taken := by
  rw [f.secs, secList_length, List.length_take]
  have := f.ok.good.1
  omega
theorem JS.Ok.rooms {st : JS} (o : st.Ok) : st.rooms.length ≤ 4096 := by have := o.len; have := o.sectors; omega
theorem jf_take {R : Value → Value → Value → Value → Value → Value → Value → Value → Value → Value → Value → Value → Value → Hp → Prop} {x0 x2 x3 x4 x5 x14 : Value} {st : JS} {tk : List Int} {i : Nat} (f0 : Fit w0 h0) (m : JF w0 h pw px st st laid ends l ss x19 x21 x22 x23 Sw Sx S1 S2 T U SI col) (fs : FS st laid ends l) (s0 : Step h0 h [] []) (hc : ∀ b, b < h0.next → col b = 0)
    (ht : Sl w0 h0 1 x4 tk.length (tk.map fun n => .int .i64 n)) (hi : i ≤ 2000000)
    (hR : ∀ h' st' l' y T' U' col', JF w0 h' pw px st' st' laid ends l' ss x19 x21 x22 y Sw Sx S1 S2 T' U' SI col' → FS st' laid ends l' → (st' = st ∨ st' = st.take) → Step h0 h' [] [] → (∀ b, b < h0.next → col' b = 0) → R x0 x2 x3 x4 x5 x14 (ptr pw) (ptr px) x19 x21 x22 y (.int .i64 ((i + 1 : Nat) : Int)) h') :
    jfTail prog w0 R x0 x2 x3 x4 x5 x14 (ptr pw) (ptr px) x19 x21 x22 x23 (.int .i64 (i : Int)) h := by
  have e6 : IntKind.i64.wrap ((i : Int) + 1) = ((i + 1 : Nat) : Int) := by rw [IntWalk.i64_in _ (by omega)]; simp
  have ht1 := ht.step f0 s0 (by simp)
  have done : R x0 x2 x3 x4 x5 x14 (ptr pw) (ptr px) x19 x21 x22 x23 (.int .i64 ((i + 1 : Nat) : Int)) h := hR h st l x23 T U col m fs (.inl rfl) s0 hc
  unfold jfTail
  simp only [ht1.lenv, wd, wa]
  by_cases hz : tk.length = 0
  · have c1 : decide ((0 : Int) < (tk.length : Int)) = false := decide_eq_false (by omega)
    simp only [c1, wd, wa, e6]
    exact done
  · have c1 : decide ((0 : Int) < (tk.length : Int)) = true := decide_eq_true (by omega)
    have er : binA .rem (.int .i64 (i : Int)) (.int .i64 (tk.length : Int)) = some (.int .i64 ((i % tk.length : Nat) : Int)) := by rw [binA_rem _ _ _ (by omega), ← Int.ofNat_tmod]
    have hlt : i % tk.length < tk.length := Nat.mod_lt _ (by omega)
    have hg : (tk.map fun n => (.int .i64 n : Value))[i % tk.length]? = some (.int .i64 (tk[i % tk.length]'hlt)) := by rw [List.getElem?_map, List.getElem?_eq_getElem hlt]; rfl
    simp only [c1, ht1.lenv, wd, wa, er]
    refine ht1.one hg ?_
    simp only [wd, wa]
    generalize tk[i % tk.length]'hlt = t
    by_cases h0' : t = 0
    · have c2 : (t == 0) = true := by simp [h0']
      simp only [c2, wd, wa]
      refine callA_of (Take_spec m.w fs.ok) fun v h2 ⟨SO, w2, q2, o2, s2⟩ f2 => ?_
      have s20 : Step h h2 Sw Sw := s2.less fun b hb => by simp [hb]
      have lw := fun b hb => (m.w.lt b hb).2
      have m2 : JF w0 h2 pw px st.take st laid ends l ss x19 x21 x22 x23 Sw Sx S1 S2 T U SI (fun b => if b < h.next then col b else 6) :=
        ⟨w2, m.x.frame s20 (col_off m.cw (by decide) m.cx), m.v1.frame s20 (col_off m.cw (by decide) m.c1), m.v2.frame s20 (col_off m.cw (by decide) m.c2), m.ls.frame s20 (col_off m.cw (by decide) m.cT) (col_off m.cw (by decide) m.cU), m.im.frame s20 (col_off m.cw (by decide) m.cI),
          col_new lw m.cw, col_new (fun b hb => (m.x.lt b hb).2) m.cx, col_new (fun b hb => (m.v1.lt b hb).2) m.c1, col_new (fun b hb => (m.v2.lt b hb).2) m.c2, col_new m.ls.lt.1 m.cT, col_new m.ls.lt.2 m.cU, col_new (fun b hb => (m.im.lt b hb).2) m.cI⟩
      have n2 := s2.1
      have sA : Step h0 h2 [] [] := lo_step s0 s20 m.cw (by decide) lw hc
      have hcA : ∀ b, b < h0.next → (if b < h.next then col b else 6) = 0 := lo_col s0.1 hc
      rw [← fs.taken] at q2
      have hsl := fs.ok.rooms
      have hl1 : l.length ≤ 4096 := by have := fs.taken; have := fs.ok.good.1; omega
      have hl2 : st.secs.length ≤ 4096 := by unfold JS.secs; rw [secList_length, List.length_drop]; omega
      refine Lsec.app f2.base m2.ls q2 (fun b hb w => by have := o2 b hb; have := m.ls.lt.1 b w; omega) (by omega) fun y h3 T' ls3 s3 => ?_
      have m3 := m2.setL s3 ls3 fun b hb => by
        rcases List.mem_append.1 hb with q | q
        · exact ⟨m2.ls.lt.2 b q, m2.cU b q⟩
        · exact ⟨(q2.lt b q).2, by rw [if_neg (by have := o2 b q; omega)]⟩
      have sB : Step h0 h3 [] [] := lo_step sA s3 m2.cT (by decide) m2.ls.lt.1 hcA
      refine callA_of (xTake_spec m3.x fs.ok) fun v4 h4 ⟨SO4, w4, q4, o4, s4⟩ f4 => ?_
      have s40 : Step h3 h4 Sx Sx := s4.less fun b hb => by simp [hb]
      have m4 := m3.setX s40 w4
      simp only [wd, wa, e6]
      exact hR h4 st.take _ y T' _ _ m4 fs.take (.inr rfl) (lo_step sB s40 m3.cx (by decide) (fun b hb => (m3.x.lt b hb).2) (lo_col sA.1 hcA)) (lo_col sB.1 (lo_col sA.1 hcA))
    · have c2 : (t == 0) = false := by simpa using h0'
      simp only [c2, wd, wa, e6]
      exact done
end
section
variable {w0 : World} {h0 : Hp} {pw px : Nat}
theorem svs_get {l : List (List UInt8)} {i : Nat} {r : List UInt8} (h : l[i]? = some r) : (svs l)[i]? = some (.string (str r)) := by unfold svs; rw [List.getElem?_map, h]; rfl
def JS.nums (st : JS) : Nat × Nat × Nat := (st.size, st.sectors, st.gen)
theorem nums_append (st : JS) (z : List UInt8) : (st.append z).2.nums = st.nums := by
  unfold JS.append
  split
  · rfl
  · split <;> rfl
theorem jf_recs {k2 : Value → Value → Value → Value → Value → Value → Value → Value → Value → Hp → Prop} {x0 x2 x3 x4 x5 x14 x19 : Value} {tk : List Int} {rs : List (List UInt8)} {ss : List (List UInt8)} {SI : List Nat} {N3 : Nat × Nat × Nat} (f0 : Fit w0 h0) (hr : Sl w0 h0 1 x3 rs.length (svs rs)) (hrl : ∀ r, r ∈ rs → r.length ≤ 1000000000) (hrn : rs.length ≤ 1100000) (ht : Sl w0 h0 1 x4 tk.length (tk.map fun n => .int .i64 n))
    (hk : ∀ h laid ends l st x21 x22 x23 Sw Sx S1 S2 T U col, JF w0 h pw px st st laid ends l ss x19 x21 x22 x23 Sw Sx S1 S2 T U SI col → FS st laid ends l → st.nums = N3 → laid.length ≤ rs.length → Step h0 h [] [] → (∀ b, b < h0.next → col b = 0) → k2 x0 x2 x5 x14 (ptr pw) x19 x21 x22 x23 h) :
    ∀ (post pre : List (List UInt8)) (h : Hp) (laid : List (List UInt8)) (ends : List Nat) (l : List (List UInt8)) (st : JS) (x21 x22 x23 : Value) (Sw Sx S1 S2 T U : List Nat) (col : Nat → Nat), pre ++ post = rs → JF w0 h pw px st st laid ends l ss x19 x21 x22 x23 Sw Sx S1 S2 T U SI col → FS st laid ends l → st.nums = N3 → laid.length ≤ pre.length → Step h0 h [] [] → (∀ b, b < h0.next → col b = 0) →
      deduplaw07_JournalFirst_L2 prog w0 k2 (post.length + 1) x0 x2 x3 x4 x5 x14 (ptr pw) (ptr px) x19 x21 x22 x23 (.int .i64 (pre.length : Int)) h := by
  intro post
  induction post with
  | nil =>
    intro pre h laid ends l st x21 x22 x23 Sw Sx S1 S2 T U col he m fs hN hlp s0 hc
    have hpre : pre = rs := by simpa using he
    subst hpre
    rw [List.length_nil, deduplaw07_JournalFirst_L2]
    simp only [deduplaw07_JournalFirst_B2, (hr.step f0 s0 (by simp)).lenv, wd, wa, Int.lt_irrefl, decide_false]
    exact hk h laid ends l st x21 x22 x23 Sw Sx S1 S2 T U col m fs hN hlp s0 hc
  | cons z post ih =>
    intro pre h laid ends l st x21 x22 x23 Sw Sx S1 S2 T U col he m fs hN hlp s0 hc
    have hlen : pre.length + (post.length + 1) = rs.length := by rw [← he]; simp
    have hg : rs[pre.length]? = some z := by rw [← he]; simp
    have hz := hrl z (by rw [← he]; simp)
    have c1 : decide ((pre.length : Int) < (rs.length : Int)) = true := decide_eq_true (by omega)
    have e6 : IntKind.i64.wrap ((pre.length : Int) + 1) = ((pre.length + 1 : Nat) : Int) := by rw [IntWalk.i64_in _ (by omega)]; simp
    have hr1 := hr.step f0 s0 (by simp)
    rw [List.length_cons, deduplaw07_JournalFirst_L2]
    simp only [deduplaw07_JournalFirst_B2, hr1.lenv, wd, wa, c1]
    refine hr1.one (svs_get hg) ?_
    refine callA_of (Append_spec m.w fs.ok z hz) fun v h1 ⟨e, Sw1, w1, s1⟩ f1 => ?_
    subst e
    have lw := fun b hb => (m.w.lt b hb).2
    have m1 := m.setW s1 w1
    have sA : Step h0 h1 [] [] := lo_step s0 s1 m.cw (by decide) lw hc
    have hcA := lo_col (k := 1) s0.1 hc
    have nx : ∀ (h2 : Hp) laid' ends' st' l' y1 y2 y3 S1' S2' Sw' Sx' T' U' col', JF w0 h2 pw px st' st' laid' ends' l' ss x19 y1 y2 y3 Sw' Sx' S1' S2' T' U' SI col' → FS st' laid' ends' l' → st'.nums = N3 → laid'.length ≤ pre.length + 1 → Step h0 h2 [] [] → (∀ b, b < h0.next → col' b = 0) →
        deduplaw07_JournalFirst_L2 prog w0 k2 (post.length + 1) x0 x2 x3 x4 x5 x14 (ptr pw) (ptr px) x19 y1 y2 y3 (.int .i64 ((pre.length + 1 : Nat) : Int)) h2 := by
      intro h2 laid' ends' st' l' y1 y2 y3 S1' S2' Sw' Sx' T' U' col' m' fs' hN' hl' s' c'
      have := ih (pre ++ [z]) h2 laid' ends' l' st' y1 y2 y3 Sw' Sx' S1' S2' T' U' col' (by simpa using he) m' fs' hN' (by simpa using hl') s' c'
      simpa using this
    by_cases ha : (st.append z).1 = 0
    · have hap : st.append z = (0, (st.append z).2) := by rw [← ha]
      have c2 : ((st.append z).1 == (0 : Int)) = true := by simp [ha]
      simp only [wd, wa, c2]
      have hr2 := hr.step f0 sA (by simp)
      refine hr2.one (svs_get hg) ?_
      refine callA_of (xAppend_spec m1.x fs.ok z hz) fun v h2 ⟨e, Sx2, w2, s2⟩ f2 => ?_
      have m2 := m1.setX s2 w2
      have sB : Step h0 h2 [] [] := lo_step sA s2 m1.cx (by decide) (fun b hb => (m1.x.lt b hb).2) hcA
      have hcB := lo_col (k := 2) sA.1 hcA
      have fs2 := fs.append hap
      have hr3 := hr.step f0 sB (by simp)
      refine hr3.one (svs_get hg) ?_
      refine app1_vec f2.base m2.v1.gv rfl (by omega) (by omega) fun y1 h3 S1' g3 s3 => ?_
      have m3 := m2.set1 (laid' := laid ++ [z]) s3 (by rw [svs_append, List.length_append]; exact g3)
      have sC : Step h0 h3 [] [] := lo_step sB s3 m2.c1 (by decide) (fun b hb => (m2.v1.lt b hb).2) hcB
      have hcC := lo_col (k := 3) sB.1 hcB
      have mx := m3.x
      obtain ⟨xr, Tr, a1, a2, a3, a4, a5, a6⟩ := mx
      obtain ⟨ar, cr, er⟩ := a4.slice
      simp only [ptr, wd, wa]
      refine loadA_at a2 a1 rfl ?_
      rw [er]
      have hel := fs.len
      simp only [wd, wa]
      refine app1_vec (Nat.le_trans f2.base s3.1) m3.v2.gv rfl (by omega) (by omega) fun y2 h4 S2' g4 s4 => ?_
      have m4 := m3.set2 (ends' := ends ++ [(st.append z).2.rooms.length]) s4 (by rw [inN_append, List.length_append]; exact g4)
      have sD : Step h0 h4 [] [] := lo_step sC s4 m3.c2 (by decide) (fun b hb => (m3.v2.lt b hb).2) hcC
      have hcD := lo_col (k := 4) sC.1 hcC
      have := jf_take (R := deduplaw07_JournalFirst_L2 prog w0 k2 (post.length + 1)) (x0 := x0) (x2 := x2) (x3 := x3) (x5 := x5) (x14 := x14) (i := pre.length) f0 m4 fs2 sD hcD ht (by omega) fun h5 st5 l5 y5 T5 U5 col5 m5 fs5 e5 s5 hc5 => nx h5 _ _ _ _ _ _ _ _ _ _ _ _ _ _ m5 fs5 (by rcases e5 with e | e <;> rw [e]; exact (nums_append st z).trans hN; exact (nums_append st z).trans hN) (by simp; omega) s5 hc5
      simp only [jfTail, ptr, wd, wa] at this
      exact this
    · have c2 : ((st.append z).1 == (0 : Int)) = false := by simpa using ha
      have hst : (st.append z).2 = st := by
        unfold JS.append at ha ⊢
        split
        · rfl
        · split
          · rfl
          · rename_i h1 h2
            rw [if_neg h1, if_neg h2] at ha
            simp at ha
      rw [hst] at m1
      simp only [wd, wa, c2]
      have := jf_take (R := deduplaw07_JournalFirst_L2 prog w0 k2 (post.length + 1)) (x0 := x0) (x2 := x2) (x3 := x3) (x5 := x5) (x14 := x14) (i := pre.length) f0 m1 fs sA hcA ht (by omega) fun h5 st5 l5 y5 T5 U5 col5 m5 fs5 e5 s5 hc5 => nx h5 _ _ _ _ _ _ _ _ _ _ _ _ _ _ m5 fs5 (by rcases e5 with e | e <;> rw [e]; exact hN; exact hN) (by omega) s5 hc5
      simp only [jfTail, wd, wa] at this
      exact this
end
theorem secCells_elem : ∀ {vs : List Value} {i k : Nat} {v : Value}, vs[i]? = some v → ((secCells k vs).drop (i * 2)).take 2 = [.int .i64 ((k + i : Nat) : Int), v]
  | [], i, k, v, h => by simp at h
  | a :: t, 0, k, v, h => by
    simp at h
    subst h
    simp [secCells]
  | a :: t, i + 1, k, v, h => by
    have := secCells_elem (vs := t) (i := i) (k := k + 1) (v := v) (by simpa using h)
    rw [show (i + 1) * 2 = 2 + i * 2 by omega, ← List.drop_drop]
    simp only [secCells, List.drop_succ_cons, List.drop_zero]
    rw [this]
    congr 3
    omega
section
variable {w0 : World} {h h' : Hp} {pw px : Nat} {sw sx : JS} {laid : List (List UInt8)} {ends : List Nat} {l ss : List (List UInt8)} {x19 x21 x22 x23 : Value} {Sw Sx S1 S2 T U SI : List Nat} {col : Nat → Nat}
theorem Sl.elemF {x : Value} {n s i f : Nat} {k : IntKind} {ys e : List Value} {u : Value} {K : Kont} (sv : Sl w0 h s x n ys) (hi : i < n) (he : (ys.drop (i * s)).take s = e) (hf : f < s) (hu : e[f]? = some u) (hk : K u h) :
    idxSlA s x (.int k (i : Int)) (fun p => addA p f fun q => loadA w0 q K) h := by
  obtain ⟨a, c, rfl, ⟨-, hs⟩, hy, -⟩ := sv
  rcases hs with ⟨h1, -⟩ | ⟨-, ad, rfl, hg, hcl⟩
  · omega
  · obtain ⟨hsp, cs, hb, hle, rfl⟩ := Hp.getN_some hg
    obtain ⟨b, off, sp⟩ := ad
    simp only at hsp hb hle
    subst hsp
    have hm : (i + 1) * s ≤ n * s := Nat.mul_le_mul_right _ hi
    rw [Nat.add_mul, Nat.one_mul] at hm
    refine ⟨_, n, c, k, i, rfl, rfl, by omega, by omega, _, rfl, ?_⟩
    rw [Int.toNat_natCast, addr_add, addr_add]
    simp only at he hy hcl
    have hu' : cs[off + i * s + f]? = some u := by
      rw [← he, List.getElem?_take, if_pos hf, List.getElem?_drop, List.getElem?_take, if_pos (by omega), List.getElem?_drop] at hu
      rw [← hu]
      congr 1
      rw [Nat.add_assoc]
    refine ⟨_, u, rfl, by simp [Hp.get, hb, hu'], fun hlt => (hcl hlt u ?_).1, hk⟩
    have hlt2 : i * s + f < n * s := by omega
    refine List.mem_of_getElem? (i := i * s + f) ?_
    rw [List.getElem?_take, if_pos hlt2, List.getElem?_drop, ← Nat.add_assoc]
    exact hu'
theorem JF.setI (m : JF w0 h pw px sw sx laid ends l ss x19 x21 x22 x23 Sw Sx S1 S2 T U SI col) {ss' : List (List UInt8)} (st : Step h h' SI SI) (g : GV w0 h' 1 x19 ss'.flatten.length (bvs ss'.flatten) SI) :
    JF w0 h' pw px sw sx laid ends l ss' x19 x21 x22 x23 Sw Sx S1 S2 T U SI col :=
  ⟨m.w.frame st (col_off m.cI (by decide) m.cw), m.x.frame st (col_off m.cI (by decide) m.cx), m.v1.frame st (col_off m.cI (by decide) m.c1), m.v2.frame st (col_off m.cI (by decide) m.c2), m.ls.frame st (col_off m.cI (by decide) m.cT) (col_off m.cI (by decide) m.cU), g, m.cw, m.cx, m.c1, m.c2, m.cT, m.cU, m.cI⟩
theorem jf_img {k4 kr : Value → Value → Value → Value → Value → Value → Value → Value → Hp → Prop} {size n : Nat} {x2 x14 : Value} {ss0 : List (List UInt8)} (hs : 512 ≤ size ∧ size ≤ 4096) (hnl : n ≤ l.length) (hns : n ≤ ss0.length) (hs0 : ss0.length ≤ 4096) (hll : ∀ r, r ∈ l → r.length = size)
    (hk : ∀ h (ss : List (List UInt8)), JF w0 h pw px sw sx laid ends l ss x19 x21 x22 x23 Sw Sx S1 S2 T U SI col → ss.length = ss0.length → (∀ s, s ∈ ss → s.length = size) → (∀ j, j < n → ss[j]? = l[j]?) → (∀ j, n ≤ j → ss[j]? = ss0[j]?) → k4 (.int .i64 (size : Int)) x2 x14 x19 x21 x22 x23 (.int .i64 (n : Int)) h) :
    ∀ (m i : Nat) (h : Hp) (ss : List (List UInt8)), i + m = n → JF w0 h pw px sw sx laid ends l ss x19 x21 x22 x23 Sw Sx S1 S2 T U SI col → ss.length = ss0.length → (∀ s, s ∈ ss → s.length = size) → (∀ j, j < i → ss[j]? = l[j]?) → (∀ j, i ≤ j → ss[j]? = ss0[j]?) →
      deduplaw07_JournalFirst_L3 prog w0 k4 kr (m + 1) (.int .i64 (size : Int)) x2 x14 x19 x21 x22 x23 (.int .i64 (n : Int)) (.int .i64 (i : Int)) h := by
  intro m
  induction m with
  | zero =>
    intro i h ss hi q hl hz hj hj2
    have : i = n := by omega
    subst this
    rw [deduplaw07_JournalFirst_L3]
    simp only [deduplaw07_JournalFirst_B3, wd, wa, Int.lt_irrefl, decide_false]
    exact hk h ss q hl hz hj hj2
  | succ m ih =>
    intro i h ss hi q hl hz hj hj2
    have hfl := flatN_len hz
    have hmul : i * size ≤ 4096 * 4096 := Nat.mul_le_mul (by omega) hs.2
    have hle : i * size ≤ ss.length * size := Nat.mul_le_mul_right _ (by omega)
    have c1 : decide ((i : Int) < (n : Int)) = true := decide_eq_true (by omega)
    have e6 : IntKind.i64.wrap ((i : Int) + 1) = ((i + 1 : Nat) : Int) := by rw [IntWalk.i64_in _ (by omega)]; simp
    have e7 : IntKind.i64.wrap ((i : Int) * (size : Int)) = ((i * size : Nat) : Int) := by rw [← Int.natCast_mul, IntWalk.i64_in _ (by omega)]
    have hil : i < l.length := by omega
    have hgi : l[i]? = some (l[i]'hil) := List.getElem?_eq_getElem hil
    have hrl := hll _ (List.getElem_mem hil)
    generalize l[i]'hil = r at hgi hrl
    obtain ⟨vs, va, vb, -, vd⟩ := q.ls
    obtain ⟨v, Tv, e1, e2, e3⟩ := vd i r hgi
    have he := secCells_elem (k := 0) e1
    rw [Nat.zero_add] at he
    have hcut : ∀ {K : Kont}, K (cutV 1 x19 (i * size) ss.flatten.length) h → slSlA 1 x19 (some (.int .i64 ((i * size : Nat) : Int))) none none K h := fun hK =>
      q.im.sl.cutN (lo := i * size) (hi := ss.flatten.length) boundA_nat boundA_none (by omega) (Nat.le_refl _) fun x' e _ _ => by rw [e]; exact hK
    rw [deduplaw07_JournalFirst_L3]
    simp only [deduplaw07_JournalFirst_B3, wd, wa, c1]
    refine Sl.elemF (f := 0) va.sl hil he (by omega) rfl ?_
    have hrv : (r.length : Int) = (size : Int) := by rw [hrl]
    simp only [wd, wa, bne_self_eq_false]
    refine Sl.elemF (f := 1) va.sl hil he (by omega) rfl ?_
    simp only [e2.sl.lenv, hrv, wd, wa, bne_self_eq_false, e7]
    refine hcut ?_
    refine Sl.elemF (f := 1) va.sl hil he (by omega) rfl ?_
    obtain ⟨a, c, ev⟩ := e2.slice
    try simp only [allA_one]
    refine lay_copy q.im hz (by omega) hrl (by rw [ev]; rfl) e2.src fun r' h4 g4 s4 => ?_
    simp only [wd, wa, e6]
    refine ih (i + 1) h4 (ss.set i r) (by omega) (q.setI s4 g4) (by simpa using hl) (set_mem hz hrl) (fun j hj' => ?_) fun j hj' => ?_
    · by_cases e : j = i
      · subst e
        rw [List.getElem?_set_self (by omega), hgi]
      · rw [List.getElem?_set_ne (fun w => e w.symm)]
        exact hj j (by omega)
    · rw [List.getElem?_set_ne (by omega)]
      exact hj2 j (by omega)
theorem wantN_cons_le {e n : Nat} {t : List Nat} (h : e ≤ n) : wantN (e :: t) n = wantN t n + 1 := by simp [wantN, h]
theorem wantN_cons_gt {e n : Nat} {t : List Nat} (h : ¬ e ≤ n) : wantN (e :: t) n = 0 := by simp [wantN, h]
theorem jf_want {k6 : Value → Value → Value → Value → Value → Value → Value → Hp → Prop} {n : Nat} {x0 x2 : Value} (hv : Sl w0 h 1 x22 ends.length (inN ends)) (hle : ends.length ≤ 2000000) :
    ∀ (post pre : List Nat), pre ++ post = ends → k6 x0 x2 x19 x21 x23 (.int .i64 (n : Int)) (.int .i64 ((pre.length + wantN post n : Nat) : Int)) h →
      deduplaw07_JournalFirst_L4 prog w0 k6 (post.length + 1) x0 x2 x19 x21 x22 x23 (.int .i64 (n : Int)) (.int .i64 (pre.length : Int)) h := by
  intro post
  induction post with
  | nil =>
    intro pre he hk
    have hp : pre = ends := by simpa using he
    subst hp
    rw [List.length_nil, deduplaw07_JournalFirst_L4]
    simp only [deduplaw07_JournalFirst_B4, hv.lenv, wd, wa, Int.lt_irrefl, decide_false]
    exact hk
  | cons e post ih =>
    intro pre he hk
    have hlen : pre.length + (post.length + 1) = ends.length := by rw [← he]; simp
    have hg : (inN ends)[pre.length]? = some (.int .i64 (e : Int)) := by rw [← he]; simp [inN]
    have c1 : decide ((pre.length : Int) < (ends.length : Int)) = true := decide_eq_true (by omega)
    have e6 : IntKind.i64.wrap ((pre.length : Int) + 1) = ((pre.length + 1 : Nat) : Int) := by rw [IntWalk.i64_in _ (by omega)]; simp
    rw [List.length_cons, deduplaw07_JournalFirst_L4]
    simp only [deduplaw07_JournalFirst_B4, hv.lenv, wd, wa, c1]
    refine hv.one hg ?_
    by_cases h0 : e ≤ n
    · have c2 : decide ((e : Int) ≤ (n : Int)) = true := decide_eq_true (by omega)
      rw [wantN_cons_le h0] at hk
      simp only [wd, wa, c2, e6]
      have := ih (pre ++ [e]) (by simpa using he) (by rw [List.length_append, List.length_singleton, Nat.add_assoc, Nat.add_comm 1]; exact hk)
      simpa using this
    · have c2 : decide ((e : Int) ≤ (n : Int)) = false := decide_eq_false (by omega)
      rw [wantN_cons_gt h0] at hk
      simp only [wd, wa, c2]
      exact hk
end
def jfEnd (P : Program) (w0 : World) (R : Kont) (y0 y2 y19 y21 y23 y25 y27 : Value) : Hp → Prop :=
 callA P w0 n_journal_Scan [y0, y2, y19] fun v191 =>
 pureA (extA v191 0) fun v192 =>
 pureA (extA v191 1) fun v193 =>
 pureA (binA .eql v193 (.int .i64 0)) fun v195 =>
 guardA v195 true (fun K => K v192) fun v197 =>
 guardA v195 true (fun K => K y21) fun v198 =>
 guardA v195 true (fun K => K y27) fun v199 =>
 guardA v195 true (slSlA 1 v198 none (some v199) none) fun v200 =>
 guardA v195 true (callA P w0 n_deduplaw07_sameTexts [v197, v200]) fun v201 =>
 pickA v195 v201 (.bool false) fun v202 =>
 guardA v202 true (fun K => K y25) fun v204 =>
 guardA v202 true (fun K => K y23) fun v205 =>
 guardA v202 true (pureA (lenSl v205)) fun v206 =>
 guardA v202 true (pureA (binA .lss v204 v206)) fun v207 =>
 guardA v202 true (fun K => K v207) fun v208 =>
 guardA v208 false (fun K => K y27) fun v209 =>
 guardA v208 false (fun K => K y21) fun v210 =>
 guardA v208 false (pureA (lenSl v210)) fun v211 =>
 guardA v208 false (pureA (binA .eql v209 v211)) fun v212 =>
 guardA v202 true (pickA v208 (.bool true) v212) fun v213 =>
 pickA v202 v213 (.bool false) fun v214 =>
 retA [v214] R
def jfRest (P : Program) (w0 : World) (R : Kont) (y0 y2 y14 y19 y21 y22 y23 y25 : Value) : Hp → Prop :=
 deduplaw07_JournalFirst_E3 P w0 (fun y0 y2 y14 y19 y21 y22 y23 y25 =>
 deduplaw07_JournalFirst_E4 P w0 (fun y0 y2 y19 y21 y23 y25 y27 => jfEnd P w0 R y0 y2 y19 y21 y23 y25 y27) y0 y2 y19 y21 y22 y23 y25 (.int .i64 0)) (fun y0 y2 y14 y19 y21 y22 y23 y25 =>
 retA [y14] R) y0 y2 y14 y19 y21 y22 y23 y25 (.int .i64 0)
def jfMid (P : Program) (w0 : World) (R : Kont) (y0 y2 y5 y14 y15 y19 y21 y22 y23 : Value) : Hp → Prop :=
 callA P w0 n_journal_Writer_Take [y15] fun v127 =>
 appA w0 2 32 y23 v127 fun v128 =>
 pureA (binA .lss y5 (.int .i64 0)) fun v131 =>
 guardA v131 false (fun K => K y5) fun v133 =>
 guardA v131 false (fun K => K v128) fun v134 =>
 guardA v131 false (pureA (lenSl v134)) fun v135 =>
 guardA v131 false (pureA (binA .gtr v133 v135)) fun v136 =>
 pickA v131 (.bool true) v136 fun v137 =>
 condA v137 (
 pureA (lenSl v128) fun v139 =>
 jfRest P w0 R y0 y2 y14 y19 y21 y22 v128 v139) (
 jfRest P w0 R y0 y2 y14 y19 y21 y22 v128 y5)
theorem secList_get {size gen : Nat} : ∀ {rs : List (List UInt8)} {i k : Nat} {r : List UInt8}, rs[i]? = some r → (secList size gen k rs)[i]? = some (sec size gen (k + i) r)
  | [], i, k, r, h => by simp at h
  | a :: t, 0, k, r, h => by
    simp at h
    subst h
    rfl
  | a :: t, i + 1, k, r, h => by
    have := secList_get (size := size) (gen := gen) (k := k + 1) (rs := t) (i := i) (r := r) (by simpa using h)
    rw [secList, List.getElem?_cons_succ, this]
    congr 2
    omega
theorem img_found {st : JS} {laid ss l : List (List UInt8)} {ends : List Nat} {n : Nat} (f : FS st laid ends l) (ht : st.taken = st.rooms.length) (hz : ∀ s, s ∈ ss → s.length = st.size) (hl : ss.length = st.sectors) (hn : n ≤ st.rooms.length)
    (hj : ∀ j, j < n → ss[j]? = l[j]?) (hb : n < st.sectors → ∃ b, ss[n]? = some b ∧ jright st.size st.gen n b = none) : jall st.size st.gen ss.flatten = st.rooms.take n := by
  have hs := f.ok.size
  have hlen := f.ok.len
  have hrm := f.ok.good.2.1
  unfold jall
  rw [flatN_len hz, hl, Nat.mul_div_cancel _ (by omega)]
  have := jgo_first (size := st.size) (gen := st.gen) (img := ss.flatten) (rooms := st.rooms) hn (fun i r hi hr => by
    have h1 : ss[i]? = some (sec st.size st.gen i r) := by
      rw [hj i hi, f.secs, ht, List.take_length, secList_get hr, Nat.zero_add]
    rw [jat_flat hz h1]
    have := hrm r (List.mem_of_getElem? hr)
    exact sec_right (by omega) this) st.sectors 0 (by omega) (by omega) fun hlt => by
      obtain ⟨b, e1, e2⟩ := hb (by omega)
      rw [jat_flat hz e1]
      exact e2
  simpa using this
section
variable {w0 : World} {h h' : Hp} {pw px : Nat} {sw sx : JS} {laid : List (List UInt8)} {ends : List Nat} {l ss : List (List UInt8)} {x19 x21 x22 x23 : Value} {Sw Sx S1 S2 T U SI : List Nat} {col : Nat → Nat}
theorem sameTexts_sl {x y : Value} {l : List (List UInt8)} (hx : Sl w0 h 1 x l.length (svs l)) (hy : Sl w0 h 1 y l.length (svs l)) (hl : l.length ≤ 1000000000) :
    ACalls prog w0 n_deduplaw07_sameTexts [x, y] h fun r h' => r = .bool true ∧ h' = h := by
  obtain ⟨a, c, rfl⟩ := hx.slice
  obtain ⟨a', c', rfl⟩ := hy.slice
  refine ACalls.of_fit (by simp) fun f => c_deduplaw07_sameTexts (by simp) ?_
  simp only [s_deduplaw07_sameTexts, wd, wa, bne_self_eq_false]
  refine ⟨l.length + 1, sameTexts_loop hx.src hy.src hl ?_ l [] rfl⟩
  simp only [retA_iff, oneOf_one]
  exact ⟨by simp, trivial, trivial⟩
theorem jf_end {R : Kont} {gen size n want : Nat} {img : List UInt8} (v1 : Vec w0 h 1 x21 laid.length (svs laid) S1) (hls : Lsec w0 h x23 l T U) (bi : Bs w0 h x19 img) (hlen : img.length ≤ 1000000000) (hf : jfits (size : Int) img.length = true) (hr : jrecs (size : Int) gen img = laid.take want) (hw : want ≤ laid.length) (hn : n ≤ l.length) (hfin : n = l.length → want = laid.length) (hlaid : laid.length ≤ 1100000) (hsz : size ≤ 4096) (hR : ∀ h', R (.bool true) h') :
    jfEnd prog w0 R (.int .i64 (size : Int)) (.int .u64 (gen : Int)) x19 x21 x23 (.int .i64 (n : Int)) (.int .i64 (want : Int)) h := by
  unfold jfEnd
  refine callA_of (Scan_spec (by omega) bi hlen) fun r h1 ⟨y, Uy, e, vy, s1⟩ f1 => ?_
  subst e
  have v11 := v1.frame s1 (by simp)
  have hls1 := hls.frame s1 (by simp) (by simp)
  have he : jerr (size : Int) img.length = 0 := by unfold jerr; rw [if_pos hf]
  obtain ⟨vs, va, -, -, -⟩ := hls1
  rw [hr] at vy
  have hlt : (laid.take want).length = want := by rw [List.length_take]; omega
  simp only [wd, wa, he, bne_self_eq_false, beq_self_eq_true]
  refine v11.sl.cutN (lo := 0) (hi := want) rfl boundA_nat (by omega) hw fun x' e _ sl' => ?_
  have sl2 : Sl w0 h1 1 x' (laid.take want).length (svs (laid.take want)) := by
    rw [hlt]
    simpa [svs] using sl'
  refine callA_of (sameTexts_sl vy.sl sl2 (by omega)) fun r h2 ⟨e, e2⟩ f2 => ?_
  subst e e2
  simp only [wd, wa, va.sl.lenv]
  by_cases hq : n < l.length
  · have c1 : decide ((n : Int) < (l.length : Int)) = true := decide_eq_true (by omega)
    simp only [wd, wa, c1, retA_iff, oneOf_one]
    exact ⟨by simp, hR _⟩
  · have c1 : decide ((n : Int) < (l.length : Int)) = false := decide_eq_false (by omega)
    have hww := hfin (by omega)
    subst hww
    simp only [wd, wa, c1, v11.sl.lenv, beq_self_eq_true, retA_iff, oneOf_one]
    exact ⟨by simp, hR _⟩
theorem jf_rest {R : Kont} {n : Nat} {st : JS} {x14 : Value} (m : JF w0 h pw px sw sx laid ends l ss x19 x21 x22 x23 Sw Sx S1 S2 T U SI col) (fs : FS st laid ends l) (ht : st.taken = st.rooms.length) (hn : n ≤ l.length) (hl : ss.length = st.sectors) (hz : ∀ s, s ∈ ss → s.length = st.size) (hs : jsize (st.size : Int) = true)
    (hb : ∀ j, j < st.sectors → ∃ b, ss[j]? = some b ∧ jright st.size st.gen j b = none) (hlaid : laid.length ≤ 1100000) (hR : ∀ h', R (.bool true) h') :
    jfRest prog w0 R (.int .i64 (st.size : Int)) (.int .u64 (st.gen : Int)) x14 x19 x21 x22 x23 (.int .i64 (n : Int)) h := by
  have hlr : l.length = st.rooms.length := by rw [fs.taken, ht]
  have hsz := fs.ok.size
  have hsc := fs.ok.sectors
  have hlen := fs.ok.len
  have hll : ∀ r, r ∈ l → r.length = st.size := by
    intro r hr
    obtain ⟨i, hi, e⟩ := List.mem_iff_getElem.1 hr
    have h1 : l[i]? = some r := by rw [List.getElem?_eq_getElem hi, e]
    have hi2 : i < st.rooms.length := by omega
    have h2 : l[i]? = some (sec st.size st.gen i (st.rooms[i]'hi2)) := by
      rw [fs.secs, ht, List.take_length, secList_get (List.getElem?_eq_getElem hi2), Nat.zero_add]
    rw [h1] at h2
    have h3 := Option.some.inj h2
    rw [h3]
    exact sec_length _ _ (by omega) (fs.ok.good.2.1 _ (List.getElem_mem hi2))
  unfold jfRest
  refine ⟨n + 1, jf_img (ss0 := ss) (by omega) hn (by omega) (by omega) hll (fun h1 ss1 m1 l1 z1 j1 j2 => ?_) n 0 h ss (by omega) m rfl hz (fun j hj => by omega) (fun j _ => rfl)⟩
  have hff := first_found (n := n) fs
  have hal := img_found (n := n) fs ht z1 (by omega) (by omega) j1 fun hlt => by
    rw [j2 n (Nat.le_refl _)]
    exact hb n hlt
  have hfl := flatN_len z1
  have hmul : ss1.length * st.size ≤ 4096 * 4096 := Nat.mul_le_mul (by omega) (by omega)
  have hmul1 : 1 * st.size ≤ ss1.length * st.size := Nat.mul_le_mul_right _ (by omega)
  have hmul2 : ss1.length * st.size ≤ 4096 * st.size := Nat.mul_le_mul_right _ (by omega)
  have hfit : jfits (st.size : Int) ss1.flatten.length = true := by
    rw [jfits_split, hfl, Int.toNat_natCast]
    exact ⟨hs, Nat.mul_mod_left _ _, by omega, hmul2⟩
  have hrec : jrecs (st.size : Int) st.gen ss1.flatten = laid.take (wantN ends n) := by
    unfold jrecs
    rw [if_pos hfit, Int.toNat_natCast, hal, hff.1]
  have hwl : wantN ends n ≤ laid.length := by
    have := List.takeWhile_prefix (fun e => decide (e ≤ n)) (l := ends)
    have := this.length_le
    have := fs.len
    unfold wantN
    omega
  have hel := fs.len
  refine ⟨ends.length + 1, jf_want m1.v2.sl (by omega) ends [] rfl ?_⟩
  simp only [List.length_nil, Nat.zero_add]
  exact jf_end m1.v1 m1.ls m1.im.sl (by omega) hfit hrec hwl hn (fun e => hff.2 (by omega)) hlaid (by omega) hR
theorem jf_mid {R : Kont} {k : Int} {st : JS} {x14 : Value} (hk : -9223372036854775808 ≤ k ∧ k ≤ 9223372036854775807) (m : JF w0 h pw px st st laid ends l ss x19 x21 x22 x23 Sw Sx S1 S2 T U SI col) (fs : FS st laid ends l) (hl : ss.length = st.sectors) (hz : ∀ s, s ∈ ss → s.length = st.size) (hs : jsize (st.size : Int) = true)
    (hb : ∀ j, j < st.sectors → ∃ b, ss[j]? = some b ∧ jright st.size st.gen j b = none) (hlaid : laid.length ≤ 1100000) (hR : ∀ h', R (.bool true) h') :
    jfMid prog w0 R (.int .i64 (st.size : Int)) (.int .u64 (st.gen : Int)) (.int .i64 k) x14 (ptr pw) x19 x21 x22 x23 h := by
  unfold jfMid
  refine callA_of (Take_spec m.w fs.ok) fun v h2 ⟨SO, w2, q2, o2, s2⟩ f2 => ?_
  have s20 : Step h h2 Sw Sw := s2.less fun b hb => by simp [hb]
  have lw := fun b hb => (m.w.lt b hb).2
  have m2 : JF w0 h2 pw px st.take st laid ends l ss x19 x21 x22 x23 Sw Sx S1 S2 T U SI (fun b => if b < h.next then col b else 6) :=
    ⟨w2, m.x.frame s20 (col_off m.cw (by decide) m.cx), m.v1.frame s20 (col_off m.cw (by decide) m.c1), m.v2.frame s20 (col_off m.cw (by decide) m.c2), m.ls.frame s20 (col_off m.cw (by decide) m.cT) (col_off m.cw (by decide) m.cU), m.im.frame s20 (col_off m.cw (by decide) m.cI),
      col_new lw m.cw, col_new (fun b hb => (m.x.lt b hb).2) m.cx, col_new (fun b hb => (m.v1.lt b hb).2) m.c1, col_new (fun b hb => (m.v2.lt b hb).2) m.c2, col_new m.ls.lt.1 m.cT, col_new m.ls.lt.2 m.cU, col_new (fun b hb => (m.im.lt b hb).2) m.cI⟩
  have n2 := s2.1
  rw [← fs.taken] at q2
  have hsl := fs.ok.rooms
  have hl1 : l.length ≤ 4096 := by have := fs.taken; have := fs.ok.good.1; omega
  have hl2 : st.secs.length ≤ 4096 := by unfold JS.secs; rw [secList_length, List.length_drop]; omega
  refine Lsec.app f2.base m2.ls q2 (fun b hb w => by have := o2 b hb; have := m.ls.lt.1 b w; omega) (by omega) fun y h3 T' ls3 s3 => ?_
  have m3 := m2.setL s3 ls3 fun b hb => by
    rcases List.mem_append.1 hb with q | q
    · exact ⟨m2.ls.lt.2 b q, m2.cU b q⟩
    · exact ⟨(q2.lt b q).2, by rw [if_neg (by have := o2 b q; omega)]⟩
  obtain ⟨vs, va, -, -, -⟩ := m3.ls
  have fs3 := fs.take
  have key : ∀ n : Nat, n ≤ (l ++ st.secs).length → jfRest prog w0 R (.int .i64 (st.size : Int)) (.int .u64 (st.gen : Int)) x14 x19 x21 x22 y (.int .i64 (n : Int)) h3 := fun n hn =>
    jf_rest (st := st.take) m3 fs3 rfl hn hl hz hs hb hlaid hR
  have hln := va.sl.lenv
  simp only [wd, wa]
  by_cases hk0 : k < 0
  · have c1 : decide (k < 0) = true := decide_eq_true hk0
    simp only [wd, wa, c1, hln]
    exact key _ (Nat.le_refl _)
  · have c1 : decide (k < 0) = false := decide_eq_false hk0
    obtain ⟨n, rfl⟩ := Int.eq_ofNat_of_zero_le (by omega : 0 ≤ k)
    simp only [wd, wa, c1, hln]
    by_cases hq : (l ++ st.secs).length < n
    · have c2 : decide (((l ++ st.secs).length : Int) < (n : Int)) = true := decide_eq_true (by omega)
      simp only [wd, wa, c2, hln]
      exact key _ (Nat.le_refl _)
    · have c2 : decide (((l ++ st.secs).length : Int) < (n : Int)) = false := decide_eq_false (by omega)
      simp only [wd, wa, c2, hln]
      exact key _ (by omega)
end
open Go Go.ChangeShapes Go.WideShapes Go.ChangeAt Go.RowKit Go.ChangeMaps
section
variable {H : Type} {enc : TypeId × Value → H} {P : Program} {w : World} {base : Nat} {spare : Nat → Bool} {held : Bool}
theorem trodAll_seven {t0 t1 t2 t3 t4 t5 t6 : TypeId} {args : Array Value} {ds : List (DataW H)} {ps : List MemPlace} (h : DataW.TrodAll enc P w base spare held [t0, t1, t2, t3, t4, t5, t6] args.toList ds ps) :
    ∃ v0 v1 v2 v3 v4 v5 v6 d0 d1 d2 d3 d4 d5 d6 p0 p1 p2 p3 p4 p5 p6, args = #[v0, v1, v2, v3, v4, v5, v6] ∧ ds = [d0, d1, d2, d3, d4, d5, d6] ∧ ps = p0 ++ p1 ++ p2 ++ p3 ++ p4 ++ p5 ++ p6 ∧ DataW.Trod enc P w base spare held t0 v0 d0 p0 ∧ DataW.Trod enc P w base spare held t1 v1 d1 p1 ∧ DataW.Trod enc P w base spare held t2 v2 d2 p2 ∧ DataW.Trod enc P w base spare held t3 v3 d3 p3 ∧ DataW.Trod enc P w base spare held t4 v4 d4 p4 ∧ DataW.Trod enc P w base spare held t5 v5 d5 p5 ∧ DataW.Trod enc P w base spare held t6 v6 d6 p6 := by
  obtain ⟨v0, w0, d0, e0, p0, q0, hargs, rfl, rfl, h0, r0⟩ := trodAll_cons h
  obtain ⟨v1, w1, d1, e1, p1, q1, rfl, rfl, rfl, h1, r1⟩ := trodAll_cons r0
  obtain ⟨v2, w2, d2, e2, p2, q2, rfl, rfl, rfl, h2, r2⟩ := trodAll_cons r1
  obtain ⟨v3, w3, d3, e3, p3, q3, rfl, rfl, rfl, h3, r3⟩ := trodAll_cons r2
  obtain ⟨v4, w4, d4, e4, p4, q4, rfl, rfl, rfl, h4, r4⟩ := trodAll_cons r3
  obtain ⟨v5, w5, d5, e5, p5, q5, rfl, rfl, rfl, h5, r5⟩ := trodAll_cons r4
  obtain ⟨v6, w6, d6, e6, p6, q6, rfl, rfl, rfl, h6, r6⟩ := trodAll_cons r5
  obtain ⟨rfl, rfl, rfl⟩ := trodAll_nil r6
  exact ⟨v0, v1, v2, v3, v4, v5, v6, d0, d1, d2, d3, d4, d5, d6, p0, p1, p2, p3, p4, p5, p6, by cases args; simp_all, rfl, by simp, h0, h1, h2, h3, h4, h5, h6⟩
end
theorem flat_strs (l : List (List UInt8)) : l.flatMap dStr.e = svs l := by
  induction l with
  | nil => rfl
  | cons a t ih => rw [List.flatMap_cons, ih]; rfl
theorem flat_ints (l : List Int) : l.flatMap (dInt .i64).e = l.map fun n => (.int .i64 n : Value) := by
  induction l with
  | nil => rfl
  | cons a t ih => rw [List.flatMap_cons, ih]; rfl
theorem FS.new {size sectors gen : Nat} (o : JS.Ok ⟨size, sectors, gen, [], 0, 0⟩) : FS ⟨size, sectors, gen, [], 0, 0⟩ [] [] [] :=
  ⟨o, rfl, by simp, rfl, by simp, rfl⟩
section
variable {w0 : World} {h : Hp}
theorem JournalFirst_top {x3 x4 : Value} {rs : List (List UInt8)} {tk : List Int} (n s : Int) (gen : Nat) (k : Int) (old : Nat) (hn : -9223372036854775808 ≤ n ∧ n ≤ 9223372036854775807) (hk : -9223372036854775808 ≤ k ∧ k ≤ 9223372036854775807) (hg : gen < 18446744073709551616) (ho : old < 18446744073709551616) (xr : ExtSl w0 1 x3 rs.length (rs.flatMap dStr.e)) (xt : ExtSl w0 1 x4 tk.length (tk.flatMap (dInt .i64).e)) (hrl : ∀ r, r ∈ rs → r.length ≤ 1000000000) (hrn : rs.length ≤ 1100000) :
    ACalls prog w0 n_deduplaw07_JournalFirst [.int .i64 n, .int .i64 s, .int .u64 gen, x3, x4, .int .i64 k, .int .u64 old] h fun v h' => v = .bool true := by
  obtain ⟨a3, c3, e3, -⟩ := xr.sl
  obtain ⟨a4, c4, e4, -⟩ := xt.sl
  refine ACalls.of_fit (by rw [e3, e4]; simp) fun f => c_deduplaw07_JournalFirst (by rw [e3, e4]; simp) ?_
  rw [flat_strs] at xr
  rw [flat_ints] at xt
  have hr := xr.sl' f (by simp [svs])
  have ht := xt.sl' f (by simp)
  clear e3 e4
  simp only [s_deduplaw07_JournalFirst]
  refine callA_of lives_spec fun v1 h1 ⟨e, s1⟩ f1 => ?_
  subst e
  simp only [wd, wa]
  refine callA_of (JNew_spec n s gen hn) fun v2 h2 ⟨gt, gf⟩ f2 => ?_
  cases hj : jok n s with
  | false =>
    obtain ⟨e, e2⟩ := gf hj
    subst e e2
    simp only [wd, wa, bne_self_eq_false, binPtrA_eql0, retA_iff, oneOf_one]
    simp
  | true =>
    obtain ⟨e, w2, s2⟩ := gt hj
    subst e
    simp only [wd, wa, bne_self_eq_false]
    refine callA_of (xNew_spec n s gen hn) fun v3 h3 ⟨gt3, gf3⟩ f3 => ?_
    obtain ⟨e, w3, s3⟩ := gt3 hj
    subst e
    have o0 : JS.Ok ⟨n.toNat, s.toNat, gen, [], 0, 0⟩ := JS.Ok.new hj hg
    have hne : h1.next < h2.next := (w2.lt _ (by simp)).2
    have hjs : jsize n = true := by
      simp only [jok, Bool.and_eq_true] at hj
      exact hj.1.1
    have hrange : 512 ≤ n ∧ n ≤ 4096 ∧ 1 ≤ s ∧ s ≤ 4096 := by
      simp only [jok, Bool.and_eq_true, decide_eq_true_eq] at hj
      have := jsize_range hj.1.1
      omega
    obtain ⟨size, rfl⟩ := Int.eq_ofNat_of_zero_le (by omega : 0 ≤ n)
    obtain ⟨sectors, rfl⟩ := Int.eq_ofNat_of_zero_le (by omega : 0 ≤ s)
    rw [Int.toNat_natCast, Int.toNat_natCast] at o0 w2 w3
    have hm : size * sectors ≤ 4096 * 4096 := Nat.mul_le_mul (by omega) (by omega)
    have e7 : IntKind.i64.wrap ((size : Int) * (sectors : Int)) = ((size * sectors : Nat) : Int) := by rw [← Int.natCast_mul, IntWalk.i64_in _ (by omega)]
    simp only [wd, wa, e7]
    rw [mkA_nat]
    refine ⟨Nat.le_refl _, by omega, by omega, ?_⟩
    have hfl0 : (List.replicate sectors (List.replicate size (0 : UInt8))).flatten = List.replicate (size * sectors) 0 := by
      rw [List.flatten_replicate_replicate, Nat.mul_comm]
    have hz0 : zerosL [(.int .u8 0 : Value)] (size * sectors) = bvs (List.replicate sectors (List.replicate size (0 : UInt8))).flatten := by
      rw [zeros_bvs, hfl0]
    rw [hz0]
    have hlen0 : (List.replicate sectors (List.replicate size (0 : UInt8))).flatten.length = size * sectors := by rw [hfl0, List.length_replicate]
    have g4 : GV w0 (h3.new (bvs (List.replicate sectors (List.replicate size (0 : UInt8))).flatten) 1) 1 (.slice (some ⟨h3.next, 0, none⟩) (size * sectors) (size * sectors)) (List.replicate sectors (List.replicate size (0 : UInt8))).flatten.length (bvs (List.replicate sectors (List.replicate size (0 : UInt8))).flatten) [h3.next] := by
      rw [hlen0]
      exact GV.new f3.base (by rw [bvs_length, hlen0, Nat.mul_one]) (by unfold ucap; omega)
    have s4 : Step h3 (h3.new (bvs (List.replicate sectors (List.replicate size (0 : UInt8))).flatten) 1) [] [h3.next] := (Step.refl h3 [] (by simp)).new _ _
    have f4 : Fit w0 (h3.new (bvs (List.replicate sectors (List.replicate size (0 : UInt8))).flatten) 1) := f3.new (by intro v hv; obtain ⟨u, -, rfl⟩ := List.mem_map.1 hv; rfl)
    generalize h3.new (bvs (List.replicate sectors (List.replicate size (0 : UInt8))).flatten) 1 = h4 at g4 s4 f4 ⊢
    generalize (.slice (some ⟨h3.next, 0, none⟩) (size * sectors) (size * sectors) : Value) = x19 at g4 ⊢
    have key : ∀ (h5 : Hp) (ss : List (List UInt8)), Step h4 h5 [h3.next] [h3.next] → GV w0 h5 1 x19 ss.flatten.length (bvs ss.flatten) [h3.next] → ss.length = sectors → (∀ s, s ∈ ss → s.length = size) → (∀ j, j < sectors → ∃ b, ss[j]? = some b ∧ jright size gen j b = none) →
        deduplaw07_JournalFirst_E2 prog w0 (fun y0 y2 y5 y14 y15 y19 y21 y22 y23 => jfMid prog w0 (fun v h' => v = .bool true) y0 y2 y5 y14 y15 y19 y21 y22 y23) (.int .i64 (size : Int)) (.int .u64 (gen : Int)) x3 x4 (.int .i64 k) (.bool false) (ptr h1.next) (ptr h2.next) x19 (.slice none 0 0) (.slice none 0 0) (.slice none 0 0) (.int .i64 0) h5 := by
      intro h5 ss s5 g5 hl hz hb
      have hlt4 : h3.next < h4.next := (g4.lt _ (by simp)).2
      have hlt3 : h2.next < h3.next := (w3.lt _ (by simp)).2
      have m : JF w0 h5 h1.next h2.next ⟨size, sectors, gen, [], 0, 0⟩ ⟨size, sectors, gen, [], 0, 0⟩ [] [] [] ss x19 (.slice none 0 0) (.slice none 0 0) (.slice none 0 0) [h1.next] [h2.next] [] [] [] [] [h3.next] (fun b => if b = h1.next then 1 else if b = h2.next then 2 else if b = h3.next then 7 else 0) := by
        refine ⟨((w2.frame s3 (by simp)).frame s4 (by simp)).frame s5 (by simp; omega), (w3.frame s4 (by simp)).frame s5 (by simp; omega), .nil, .nil, .nil, g5, ?_, ?_, by simp, by simp, by simp, by simp, ?_⟩
        · intro b hb
          simp at hb
          simp [hb]
        · intro b hb
          simp at hb
          subst hb
          rw [if_neg (by omega), if_pos rfl]
        · intro b hb
          simp at hb
          subst hb
          rw [if_neg (by omega), if_neg (by omega), if_pos rfl]
      have s0 : Step h h5 [] [] := by
        have a1 : Step h h4 [] [] := ((s1.trans (s2.less (T := []) (by simp))).trans (s3.less (T := []) (by simp))).trans (s4.less (T := []) (by simp))
        have a2 : Step h h4 [] [h3.next] := a1.claim fun b hb => by
          have := s1.1
          have := s2.1
          have := s3.1
          simp at hb
          omega
        exact (a2.trans s5).less (by simp)
      have hc : ∀ b, b < h.next → (fun b => if b = h1.next then 1 else if b = h2.next then 2 else if b = h3.next then 7 else 0) b = 0 := by
        intro b hb
        have := s1.1
        have := s3.1
        simp only
        rw [if_neg (by omega), if_neg (by omega), if_neg (by omega)]
      refine ⟨rs.length + 1, jf_recs (N3 := (size, sectors, gen)) f hr hrl hrn ht (fun h6 laid ends l st x21 x22 x23 Sw Sx S1 S2 T U col m6 fs6 hN hll s6 hc6 => ?_) rs [] h5 [] [] [] _ _ _ _ _ _ _ _ _ _ _ rfl m (FS.new o0) rfl (Nat.le_refl _) s0 hc⟩
      have e1 : st.size = size := congrArg (·.1) hN
      have e2 : st.sectors = sectors := congrArg (·.2.1) hN
      have e3 : st.gen = gen := congrArg (·.2.2) hN
      subst e1 e2 e3
      exact jf_mid hk m6 fs6 hl hz hjs hb (by omega) fun _ => rfl
    by_cases hq : old = gen
    · subst hq
      simp only [wd, wa, bne_self_eq_false]
      exact key h4 _ (Step.refl h4 _ fun b hb => (g4.lt b hb).2) g4 (by simp) (fun s hs => by rw [List.eq_of_mem_replicate hs, List.length_replicate]) fun j hj => ⟨_, by rw [List.getElem?_replicate, if_pos hj], zero_none⟩
    · have c1 : ((old : Int) != (gen : Int)) = true := by simp; omega
      simp only [wd, wa, c1]
      refine ⟨sectors + 1, jf_old f4 (by omega) (by omega) ho (fun h5 ss s5 g5 hl hz hj => key h5 ss s5 g5 hl hz fun j hj2 => ⟨_, hj j hj2, old_none hg ho hq⟩) sectors 0 h4 _ (by omega) (Step.refl h4 _ fun b hb => (g4.lt b hb).2) g4 (by simp) (fun s hs => by rw [List.eq_of_mem_replicate hs, List.length_replicate]) fun j hj => by omega⟩
end
end Go.Proofs.Ytiakadkooclelaa.Ah
