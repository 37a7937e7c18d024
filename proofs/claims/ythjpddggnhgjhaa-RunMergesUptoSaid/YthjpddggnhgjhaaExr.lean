/- ref12: Merge. -/
import Derived.Test.YthjpddggnhgjhaaExl
import Derived.Test.YthjpddggnhgjhaaExj
import Derived.Test.YthjpddggnhgjhaaExn
import Derived.Test.YthjpddggnhgjhaaExq
import Derived.Test.YthjpddggnhgjhaaExf
set_option linter.unusedVariables false
set_option linter.unusedSimpArgs false
set_option linter.constructorNameAsVariable false
namespace Go.Proofs.Ythjpddggnhgjhaa.Ah
open Go
section
variable {w0 : World} {h h' : Hp}
theorem kl_get {l : List Ent} {i : Nat} {x : Ent} (h : l[i]? = some x) : (kl l)[i]? = some (x.k, x) := by unfold kl; rw [List.getElem?_map, h]; rfl
theorem rm_inner {k2 : Value → Value → Value → Value → Value → Hp → Prop} {v x1 x15 x16 x17 : Value} {ha : Hp} {ls : List (List Itm)} {n T : Nat} {l : List Ent} (hv : Es w0 ha v l) (fa : Fit w0 ha) (hl : l.length ≤ 100000000) (hT : T ≤ 100000000) (hln : ls[n]? = some (kl l))
    (hr : ∀ x' h' out S', Vec w0 h' 3 x' out.length (out.flatMap ee) S' → RInv ls n l.length (kl out) → out.length ≤ T → Step ha h' [] S' → k2 x1 x' x15 x16 x17 h') : ∀ (post pre : List Ent) (h1 : Hp) (x5 : Value) (S1 : List Nat) (out : List Ent), pre ++ post = l →
      Vec w0 h1 3 x5 out.length (out.flatMap ee) S1 → RInv ls n pre.length (kl out) → out.length + post.length ≤ T → Step ha h1 [] S1 →
      dedupref12_Merge_L2 prog w0 k2 (post.length + 1) x1 x5 x15 x16 x17 v (.int .i64 (l.length : Int)) (.int .i64 (pre.length : Int)) h1 := by
  intro post
  induction post with
  | nil =>
    intro pre h1 x5 S1 out he g i ho st
    have hpre : pre = l := by simpa using he
    subst hpre
    rw [List.length_nil, dedupref12_Merge_L2]
    simp only [dedupref12_Merge_B2, wd, List.getElem?_toArray, List.getElem?_cons_zero, List.getElem?_cons_succ, Int.lt_irrefl, decide_false]
    exact hr x5 h1 out S1 g i (by simpa using ho) st
  | cons x post ih =>
    intro pre h1 x5 S1 out he g i ho st
    have hlen : pre.length + (post.length + 1) = l.length := by rw [← he]; simp
    have hg : l[pre.length]? = some x := by rw [← he]; simp
    have c1 : decide ((pre.length : Int) < (l.length : Int)) = true := decide_eq_true (by omega)
    have e6 : IntKind.i64.wrap ((pre.length : Int) + 1) = (((pre ++ [x]).length : Nat) : Int) := by rw [IntWalk.i64_in _ (by omega)]; simp
    simp only [List.length_cons] at ho
    have vs : Es w0 h1 v l := hv.step fa st (by simp)
    have fb : w0.heap.size ≤ h1.next := Nat.le_trans fa.base st.1
    rw [List.length_cons, dedupref12_Merge_L2]
    simp only [dedupref12_Merge_B2, wd, List.getElem?_toArray, List.getElem?_cons_zero, List.getElem?_cons_succ, c1]
    refine vs.elem (by omega) (es_get hg) ?_
    refine boxN fb rfl rfl zE_cell ?_
    have sx : Step h1 (h1.new (ee x) 3) [] [h1.next] := (Step.refl h1 [] (by simp)).new _ _
    have hx : (h1.new (ee x) 3).blk h1.next = some (ee x) := by simp
    have hS1 := fun b hb => (g.lt b hb).2
    have stx : Step ha (h1.new (ee x) 3) [] S1 := st.trans ((sx.less (T := []) (by simp)).keepS hS1)
    have gx := g.frame sx (by simp)
    have hqx : h1.next < (h1.new (ee x) 3).next := by simp
    generalize h1.new (ee x) 3 = hx1 at *
    simp only [wd, List.getElem?_toArray, List.getElem?_cons_zero, List.getElem?_cons_succ]
    refine loadA_at fb hx rfl ?_
    refine callA_of (rFind_spec gx.sl (by omega) x.k) fun r h2 ⟨e, s2⟩ f2 => ?_
    subst e
    have g2 := gx.frame s2 (by simp)
    have st2 : Step ha h2 [] S1 := stx.trans (s2.keepS fun b hb => (gx.lt b hb).2)
    have hx2 : h2.blk h1.next = some (ee x) := by rw [(s2.keep _ hqx (by simp)).1]; exact hx
    simp only [wd, List.getElem?_toArray, List.getElem?_cons_zero, List.getElem?_cons_succ]
    cases hh : isAt (kl out) x.k (fE out x.k) with
    | true =>
      have hk : hasK (kl out) x.k = true := hh
      simp only [Bool.not_true, wd, List.getElem?_toArray, List.getElem?_cons_zero, List.getElem?_cons_succ, e6]
      exact ih (pre ++ [x]) h2 x5 S1 out (by simpa using he) g2 (by simpa using i.skip hln (kl_get hg) hk) (by omega) st2
    | false =>
      have hk : hasK (kl out) x.k = false := hh
      simp only [Bool.not_false, wd, List.getElem?_toArray, List.getElem?_cons_zero, List.getElem?_cons_succ]
      refine loadNA_whole fb hx2 rfl ?_
      refine callA_of (rWith_spec g2.sl (by omega) x) fun r h3 ⟨S3, g3, s3⟩ f3 => ?_
      simp only [wd, List.getElem?_toArray, List.getElem?_cons_zero, List.getElem?_cons_succ, e6]
      have hpl := withE_len out x
      have ip := i.put hln (kl_get hg) hk
      simp only at ip
      rw [putK_kl] at ip
      exact ih (pre ++ [x]) h3 r S3 _ (by simpa using he) g3 (by simpa using ip) (by omega) ((st2.less (T := []) (by simp)).trans s3)
theorem rm_loop {k0 : Value → Value → Hp → Prop} {v x1 : Value} {ps : List (Value × List Ent)} {hh : Hp} {ls : List (List Itm)} (hv : Sl w0 hh 1 v ps.length (ps.map (·.1))) (hi : ∀ p : Value × List Ent, p ∈ ps → Es w0 hh p.1 p.2) (fh : Fit w0 hh) (hls : ls = ps.map fun q => kl q.2) (hl : ps.length ≤ 2000000) (hl2 : (ps.map fun q => q.2.length).sum ≤ 100000000)
    (hk : ∀ x' h' out S', Vec w0 h' 3 x' out.length (out.flatMap ee) S' → RInv ls ps.length 0 (kl out) → out.length ≤ (ps.map fun q => q.2.length).sum → Step hh h' [] S' → k0 x1 x' h') :
    ∀ (post pre : List (Value × List Ent)) (h1 : Hp) (x5 : Value) (S1 : List Nat) (out : List Ent), pre ++ post = ps → Vec w0 h1 3 x5 out.length (out.flatMap ee) S1 → RInv ls pre.length 0 (kl out) → out.length ≤ (pre.map fun q => q.2.length).sum → Step hh h1 [] S1 →
      dedupref12_Merge_L1 prog w0 k0 (post.length + 1) x1 x5 v (.int .i64 (ps.length : Int)) (.int .i64 (pre.length : Int)) h1 := by
  intro post
  induction post with
  | nil =>
    intro pre h1 x5 S1 out he g i ho st
    have hpre : pre = ps := by simpa using he
    subst hpre
    rw [List.length_nil, dedupref12_Merge_L1]
    simp only [dedupref12_Merge_B1, wd, List.getElem?_toArray, List.getElem?_cons_zero, List.getElem?_cons_succ, Int.lt_irrefl, decide_false]
    exact hk x5 h1 out S1 g i ho st
  | cons z post ih =>
    intro pre h1 x5 S1 out he g i ho st
    have hlen : pre.length + (post.length + 1) = ps.length := by rw [← he]; simp
    have hg : ps[pre.length]? = some z := by rw [← he]; simp
    have hzm : z ∈ ps := List.mem_of_getElem? hg
    have hzl := bulk_mem (fun q : Value × List Ent => q.2.length) hzm
    have c1 : decide ((pre.length : Int) < (ps.length : Int)) = true := decide_eq_true (by omega)
    have e6 : IntKind.i64.wrap ((pre.length : Int) + 1) = (((pre ++ [z]).length : Nat) : Int) := by rw [IntWalk.i64_in _ (by omega)]; simp
    have vs := hv.step fh st (by simp)
    have hsum1 : ((pre ++ [z]).map fun q => q.2.length).sum = (pre.map fun q => q.2.length).sum + z.2.length := by simp
    have hsum2 : (ps.map fun q => q.2.length).sum = (pre.map fun q => q.2.length).sum + z.2.length + (post.map fun q => q.2.length).sum := by rw [← he]; simp; omega
    have hln : ls[pre.length]? = some (kl z.2) := by rw [hls, List.getElem?_map, hg]; rfl
    rw [List.length_cons, dedupref12_Merge_L1]
    simp only [dedupref12_Merge_B1, wd, List.getElem?_toArray, List.getElem?_cons_zero, List.getElem?_cons_succ, c1]
    refine vs.one (u := z.1) (by rw [List.getElem?_map, hg]; rfl) ?_
    simp only [(hi z hzm).lenv, wd, List.getElem?_toArray, List.getElem?_cons_zero, List.getElem?_cons_succ]
    refine ⟨z.2.length + 1, rm_inner (ha := hh) (ls := ls) (n := pre.length) (T := (pre.map fun q => q.2.length).sum + z.2.length) (hi z hzm) fh (by omega) (by omega) hln (fun x' h' out' S' g' i' ho' st' => ?_) z.2 [] h1 x5 S1 out rfl g i (by omega) st⟩
    simp only [wd, List.getElem?_toArray, List.getElem?_cons_zero, List.getElem?_cons_succ, e6]
    have hkl := kl_length z.2
    rw [← hkl] at i'
    exact ih (pre ++ [z]) h' x' S' out' (by simpa using he) g' (by simpa using i'.next hln) (by rw [hsum1]; exact ho') st'
def flt (dr : Bool) (l : List Ent) : List Ent := l.filter fun x => !dr || !x.g
theorem flt_snoc (dr : Bool) (l : List Ent) (x : Ent) : flt dr (l ++ [x]) = flt dr l ++ (if (!dr || !x.g) = true then [x] else []) := by
  unfold flt
  rw [List.filter_append]
  congr 1
  simp [List.filter_cons]
theorem rm_last {k4 : Value → Hp → Prop} {v : Value} {dr : Bool} {out : List Ent} {hh : Hp} {Sv : List Nat} (hv : Vec w0 hh 3 v out.length (out.flatMap ee) Sv) (fh : w0.heap.size ≤ hh.next) (hl : out.length ≤ 1000000000)
    (hk : ∀ h' x S', Step hh h' [] S' → Vec w0 h' 3 x (flt dr out).length ((flt dr out).flatMap ee) S' → k4 x h') : ∀ (post pre : List Ent) (h1 : Hp) (x : Value) (S : List Nat), pre ++ post = out → Step hh h1 [] S → Vec w0 h1 3 x (flt dr pre).length ((flt dr pre).flatMap ee) S →
      dedupref12_Merge_L3 prog w0 k4 (post.length + 1) (.bool dr) x v (.int .i64 (out.length : Int)) (.int .i64 (pre.length : Int)) h1 := by
  intro post
  induction post with
  | nil =>
    intro pre h1 x S he st g
    have hpre : pre = out := by simpa using he
    subst hpre
    rw [List.length_nil, dedupref12_Merge_L3]
    simp only [dedupref12_Merge_B3, wd, List.getElem?_toArray, List.getElem?_cons_zero, List.getElem?_cons_succ, Int.lt_irrefl, decide_false]
    exact hk h1 x S st g
  | cons z post ih =>
    intro pre h1 x S he st g
    have hlen : pre.length + (post.length + 1) = out.length := by rw [← he]; simp
    have hg : out[pre.length]? = some z := by rw [← he]; simp
    have c1 : decide ((pre.length : Int) < (out.length : Int)) = true := decide_eq_true (by omega)
    have e6 : IntKind.i64.wrap ((pre.length : Int) + 1) = (((pre ++ [z]).length : Nat) : Int) := by rw [IntWalk.i64_in _ (by omega)]; simp
    have v1 : Es w0 h1 v out := (hv.frame st (by simp)).sl
    have fb : w0.heap.size ≤ h1.next := Nat.le_trans fh st.1
    have hml : (flt dr pre).length ≤ pre.length := List.length_filter_le _ _
    have hS := fun b hb => (g.lt b hb).2
    rw [List.length_cons, dedupref12_Merge_L3]
    simp only [dedupref12_Merge_B3, wd, List.getElem?_toArray, List.getElem?_cons_zero, List.getElem?_cons_succ, c1]
    refine v1.elem (by omega) (es_get hg) ?_
    refine boxN fb rfl rfl zE_cell ?_
    have sx : Step h1 (h1.new (ee z) 3) [] [h1.next] := (Step.refl h1 [] (by simp)).new _ _
    have bx : (h1.new (ee z) 3).blk h1.next = some (ee z) := by simp
    have gx := g.frame sx (by simp)
    have stx : Step hh (h1.new (ee z) 3) [] S := st.trans ((sx.less (T := []) (by simp)).keepS hS)
    have fbx : w0.heap.size ≤ (h1.new (ee z) 3).next := Nat.le_trans fb sx.1
    generalize h1.new (ee z) 3 = h2 at *
    have sn := flt_snoc dr pre z
    have app : (!dr || !z.g) = true → loadNA w0 (.pointer (some ⟨h1.next, 0, none⟩)) 3 (fun v51 => bslA [(0, 3, true, v51)] (zerosL [.string .empty, .string .empty, .bool false] 1) 1 3 fun v52 => appA w0 3 40 x v52 fun v53 => dedupref12_Merge_L3 prog w0 k4 (post.length + 1) (.bool dr) v53 v (.int .i64 (out.length : Int)) (.int .i64 (((pre ++ [z]).length : Nat) : Int))) h2 := by
      intro hq
      rw [if_pos hq] at sn
      refine loadNA_whole fb bx rfl ?_
      refine appN_vec fbx gx.gv rfl rfl (by omega) (by omega) (by omega) fun x' h3 S3 g3 s3 => ?_
      refine ih (pre ++ [z]) h3 x' S3 (by simpa using he) (stx.trans s3) ?_
      rw [sn, List.length_append, List.flatMap_append]
      simpa using g3
    have skip : (!dr || !z.g) = false → dedupref12_Merge_L3 prog w0 k4 (post.length + 1) (.bool dr) x v (.int .i64 (out.length : Int)) (.int .i64 (((pre ++ [z]).length : Nat) : Int)) h2 := by
      intro hq
      rw [if_neg (by simp [hq]), List.append_nil] at sn
      refine ih (pre ++ [z]) h2 x S (by simpa using he) stx ?_
      rw [sn]
      exact gx
    cases dr with
    | false =>
      simp only [e6, wd, List.getElem?_toArray, List.getElem?_cons_zero, List.getElem?_cons_succ]
      exact app rfl
    | true =>
      simp only [wd, List.getElem?_toArray, List.getElem?_cons_zero, List.getElem?_cons_succ]
      refine loadA_at (o := 2) (v := .bool z.g) fb bx rfl ?_
      cases hzg : z.g with
      | false =>
        simp only [e6, wd, List.getElem?_toArray, List.getElem?_cons_zero, List.getElem?_cons_succ]
        exact app (by rw [hzg]; rfl)
      | true =>
        simp only [e6, wd, List.getElem?_toArray, List.getElem?_cons_zero, List.getElem?_cons_succ]
        exact skip (by rw [hzg]; rfl)
theorem rMerge12_spec {v : Value} {ps : List (Value × List Ent)} (dr : Bool) (hv : Sl w0 h 1 v ps.length (ps.map (·.1))) (hi : ∀ p : Value × List Ent, p ∈ ps → Es w0 h p.1 p.2) (hl : ps.length ≤ 2000000) (hl2 : (ps.map fun q => q.2.length).sum ≤ 100000000) :
    ACalls prog w0 n_dedupref12_Merge [v, .bool dr] h fun r h' => ∃ out S', IsM (ps.map fun q => kl q.2) (kl out) ∧ out.length ≤ (ps.map fun q => q.2.length).sum ∧ Vec w0 h' 3 r (flt dr out).length ((flt dr out).flatMap ee) S' ∧ Step h h' [] S' := by
  refine ACalls.of_fit (by simpa using hv.junk) fun f => c_dedupref12_Merge (by simpa using hv.junk) ?_
  simp only [s_dedupref12_Merge, hv.lenv, wd, List.getElem?_toArray, List.getElem?_cons_zero, List.getElem?_cons_succ]
  refine ⟨ps.length + 1, rm_loop (ls := ps.map fun q => kl q.2) hv hi f rfl hl hl2 (fun x' h1 out S1 g i ho st => ?_) ps [] h _ [] [] rfl .nil ⟨List.Pairwise.nil, by simp [kl], fun m l' y hm => by simp at hm, fun l' y _ hy => by simp at hy⟩ (by simp) (.refl _ _ (by simp))⟩
  have im : IsM (ps.map fun q => kl q.2) (kl out) := by
    have : ps.length = (ps.map fun q => kl q.2).length := by simp
    rw [this] at i
    exact i.done
  simp only [g.sl.lenv, wd, List.getElem?_toArray, List.getElem?_cons_zero, List.getElem?_cons_succ]
  refine ⟨out.length + 1, rm_last g (Nat.le_trans f.base st.1) (by omega) (fun h3 x3 S3 s3 g3 => ?_) out [] h1 _ [] rfl (.refl _ _ (by simp)) .nil⟩
  simp only [retA_iff, oneOf_one]
  exact ⟨by simpa using g3.gv.nj, out, S3, im, ho, g3, (st.less (T := []) (by simp)).trans s3⟩
end
theorem kl_mem {l : List Ent} {y : Ent} : (y.k, y) ∈ kl l ↔ y ∈ l := by
  unfold kl
  rw [List.mem_map]
  constructor
  · rintro ⟨z, hz, e⟩
    have : z = y := congrArg (·.2) e
    rw [← this]; exact hz
  · intro hy; exact ⟨y, hy, rfl⟩
theorem cons_isM {a acc : List Ent} {ls : List (List Itm)} (ha : a.Pairwise fun x y => blt x.k y.k = true) (h : IsM ls (kl acc)) : IsM (kl a :: ls) (kl (puts acc a)) := by
  have hs := srt_kl h.srt
  have hm := puts_mem a acc hs ha
  refine ⟨kl_srt (puts_srt a acc hs), fun x hx => ?_, fun m l' y hl hy => ?_⟩
  · obtain ⟨z, hz, rfl⟩ := List.mem_map.1 hx
    rcases (hm z).1 hz with h1 | ⟨h1, h2⟩
    · exact ⟨0, kl a, rfl, kl_mem.2 h1, fun m l' hm => by omega⟩
    · obtain ⟨n, l, e1, e2, e3⟩ := h.sub _ (kl_mem.2 h1)
      refine ⟨n + 1, l, by simpa using e1, e2, fun m l' hm hl' y hy => ?_⟩
      cases m with
      | zero =>
        simp at hl'
        subst hl'
        obtain ⟨w, hw, rfl⟩ := List.mem_map.1 hy
        exact (h2 w hw).symm
      | succ m => exact e3 m l' (by omega) (by simpa using hl') y hy
  · cases m with
    | zero =>
      simp at hl
      subst hl
      obtain ⟨w, hw, rfl⟩ := List.mem_map.1 hy
      exact ⟨(w.k, w), kl_mem.2 ((hm w).2 (.inl hw)), rfl⟩
    | succ m =>
      obtain ⟨o, ho, e⟩ := h.all m l' y (by simpa using hl) hy
      obtain ⟨z, hz, rfl⟩ := List.mem_map.1 ho
      by_cases hex : ∃ x, x ∈ a ∧ x.k = z.k
      · obtain ⟨x, hx, e2⟩ := hex
        exact ⟨(x.k, x), kl_mem.2 ((hm x).2 (.inl hx)), by rw [← e]; exact e2⟩
      · exact ⟨(z.k, z), kl_mem.2 ((hm z).2 (.inr ⟨hz, fun x hx e2 => hex ⟨x, hx, e2.symm⟩⟩)), e⟩
def overs : List (List Ent) → List Ent
  | [] => []
  | l :: ls => puts (overs ls) l
theorem overs_isM : ∀ ls : List (List Ent), (∀ l, l ∈ ls → l.Pairwise fun x y => blt x.k y.k = true) → IsM (ls.map kl) (kl (overs ls))
  | [], _ => ⟨List.Pairwise.nil, by simp [overs, kl], fun m l' y hm => by simp at hm⟩
  | l :: ls, h => cons_isM (h l (by simp)) (overs_isM ls fun l' hl' => h l' (by simp [hl']))
theorem isM_overs {ls : List (List Ent)} {out : List Itm} (h : ∀ l, l ∈ ls → l.Pairwise fun x y => blt x.k y.k = true) (im : IsM (ls.map kl) out) : out = kl (overs ls) :=
  IsM.uniq (fun l hl => by
    obtain ⟨z, hz, rfl⟩ := List.mem_map.1 hl
    exact kl_srt (h z hz)) im (overs_isM ls h)
theorem overs_skip (p : List Ent → Bool) : ∀ ls : List (List Ent), overs (ls.map fun l => if p l = true then l else []) = overs (ls.filter p)
  | [] => rfl
  | l :: ls => by
    rw [List.map_cons, overs, overs_skip p ls]
    cases hp : p l with
    | true => simp [List.filter_cons, hp, overs]
    | false => simp [List.filter_cons, hp, puts]
theorem mgf_flt (dr : Bool) (L : List Ent) : mgf dr (kl L) = flt dr L := by
  unfold mgf kl flt
  rw [List.map_map]
  congr 1
  simp [Function.comp_def]
section
variable {w0 : World} {h h' : Hp}
def Rb (w0 : World) (h : Hp) (p : Value × List Ent) (S : List Nat) : Prop := (∃ n, Rn w0 h p.1 p.2 n S) ∨ (p.1 = .pointer none ∧ p.2 = [] ∧ S = [])
theorem Rb.frame {p : Value × List Ent} {S T T' : List Nat} (m : Rb w0 h p S) (st : Step h h' T T') (hd : ∀ b, b ∈ S → b ∉ T) : Rb w0 h' p S := by
  rcases m with ⟨n, m⟩ | e
  · exact .inl ⟨n, m.frame st hd⟩
  · exact .inr e
theorem Rb.ra {p : Value × List Ent} {S : List Nat} (m : Rb w0 h p S) : Ra w0 h p S := by
  rcases m with ⟨n, m⟩ | ⟨e1, e2, -⟩
  · exact .inl ⟨n, m⟩
  · exact .inr ⟨.inl e1, e2⟩
theorem Rb.lt {p : Value × List Ent} {S : List Nat} (m : Rb w0 h p S) : ∀ b, b ∈ S → b < h.next := by
  rcases m with ⟨n, m⟩ | ⟨-, -, e⟩
  · exact fun b hb => (m.lt b hb).2
  · subst e; simp
structure MG (w0 : World) (h : Hp) (x5 x6 : Value) (rs ws : List (Value × List Ent)) (S5 S6 : List Nat) : Prop where
  g5 : Vec w0 h 1 x5 rs.length (rs.map (·.1)) S5
  g6 : Vec w0 h 1 x6 ws.length (ws.map (·.1)) S6
  d : ∀ b, b ∈ S5 → b ∉ S6
  m : ∀ p, p ∈ rs → ∃ S, Rb w0 h p S ∧ ∀ b, b ∈ S → b ∉ S5 ∧ b ∉ S6
theorem MG.step {x5 x6 : Value} {rs ws : List (Value × List Ent)} {S5 S6 : List Nat} (g : MG w0 h x5 x6 rs ws S5 S6) (st : Step h h' [] []) : MG w0 h' x5 x6 rs ws S5 S6 :=
  ⟨g.g5.frame st (by simp), g.g6.frame st (by simp), g.d, fun p hp => by
    obtain ⟨S, a, b⟩ := g.m p hp
    exact ⟨S, a.frame st (by simp), b⟩⟩
theorem MG.add5 {x5 x6 x5' : Value} {rs ws : List (Value × List Ent)} {S5 S6 S5' S : List Nat} {p : Value × List Ent} (g : MG w0 h x5 x6 rs ws S5 S6) (m : Rb w0 h p S) (hm : ∀ b, b ∈ S → b ∉ S5 ∧ b ∉ S6) (g5 : Vec w0 h' 1 x5' (rs.length + 1) (rs.map (·.1) ++ [p.1]) S5') (st : Step h h' S5 S5') : MG w0 h' x5' x6 (rs ++ [p]) ws S5' S6 := by
  have own : ∀ b, b ∈ S5' → b ∈ S5 ∨ h.next ≤ b := fun b hb => (st.own b hb).2
  have h6 := fun b hb => (g.g6.lt b hb).2
  refine ⟨by simpa using g5, g.g6.frame st (fun b hb q => g.d b q hb), fun b hb q => ?_, fun z hz => ?_⟩
  · rcases own b hb with w | w
    · exact g.d b w q
    · have := h6 b q; omega
  · have : ∃ S, Rb w0 h z S ∧ ∀ b, b ∈ S → b ∉ S5 ∧ b ∉ S6 := by
      rcases List.mem_append.1 hz with q | q
      · exact g.m z q
      · simp at q; subst q; exact ⟨S, m, hm⟩
    obtain ⟨S, a, b⟩ := this
    have hl := a.lt
    refine ⟨S, a.frame st (fun c hc => (b c hc).1), fun c hc => ⟨fun q => ?_, (b c hc).2⟩⟩
    rcases own c q with w | w
    · exact (b c hc).1 w
    · have := hl c hc; omega
theorem MG.add6 {x5 x6 x6' : Value} {rs ws : List (Value × List Ent)} {S5 S6 S6' : List Nat} {p : Value × List Ent} (g : MG w0 h x5 x6 rs ws S5 S6) (g6 : Vec w0 h' 1 x6' (ws.length + 1) (ws.map (·.1) ++ [p.1]) S6') (st : Step h h' S6 S6') : MG w0 h' x5 x6' rs (ws ++ [p]) S5 S6' := by
  have own : ∀ b, b ∈ S6' → b ∈ S6 ∨ h.next ≤ b := fun b hb => (st.own b hb).2
  have h5 := fun b hb => (g.g5.lt b hb).2
  refine ⟨g.g5.frame st g.d, by simpa using g6, fun b hb q => ?_, fun z hz => ?_⟩
  · rcases own b q with w | w
    · exact g.d b hb w
    · have := h5 b hb; omega
  · obtain ⟨S, a, b⟩ := g.m z hz
    have hl := a.lt
    refine ⟨S, a.frame st (fun c hc => (b c hc).2), fun c hc => ⟨(b c hc).1, fun q => ?_⟩⟩
    rcases own c q with w | w
    · exact (b c hc).2 w
    · have := hl c hc; omega
def keepB (l : List Ent) : Bool := decide (bldE (256 : Int) l = 0)
end
section
variable {w0 : World} {h h' : Hp}
theorem mgs_loop {k0 kr : Value → Value → Value → Value → Hp → Prop} {v x1 x4 : Value} {ls : List (Value × List Ent)} {hh : Hp} (fh : Fit w0 hh) (hx : ExtSl w0 1 v ls.length (ls.map (·.1))) (hi : ∀ p : Value × List Ent, p ∈ ls → ExtSl w0 3 p.1 p.2.length (p.2.flatMap ee) ∧ entsz p.2 ≤ 1048576) (hl : ls.length ≤ 1100000)
    (hk : ∀ h' x5 x6 rs ws S5 S6, Step hh h' [] [] → MG w0 h' x5 x6 rs ws S5 S6 → rs.map (·.2) = (ls.map (·.2)).map (fun l => if keepB l = true then l else []) → ws.map (·.2) = (ls.map (·.2)).filter keepB → (∀ p, p ∈ ws → p ∈ ls) → k0 x1 x4 x5 x6 h') : ∀ (post pre : List (Value × List Ent)) (h1 : Hp) (x5 x6 : Value) (rs ws : List (Value × List Ent)) (S5 S6 : List Nat), pre ++ post = ls → Step hh h1 [] (S5 ++ S6) → MG w0 h1 x5 x6 rs ws S5 S6 →
      rs.map (·.2) = (pre.map (·.2)).map (fun l => if keepB l = true then l else []) → ws.map (·.2) = (pre.map (·.2)).filter keepB → (∀ p, p ∈ ws → p ∈ ls) →
      deduplaw12_RunMerges_L1 prog w0 k0 kr (post.length + 1) v x1 x4 x5 x6 v (.int .i64 (ls.length : Int)) (.int .i64 (pre.length : Int)) h1 := by
  intro post
  induction post with
  | nil =>
    intro pre h1 x5 x6 rs ws S5 S6 he st g e1 e2 e3
    have hpre : pre = ls := by simpa using he
    subst hpre
    rw [List.length_nil, deduplaw12_RunMerges_L1]
    simp only [deduplaw12_RunMerges_B1, wd, List.getElem?_toArray, List.getElem?_cons_zero, List.getElem?_cons_succ, Int.lt_irrefl, decide_false]
    exact hk h1 x5 x6 rs ws S5 S6 (st.less (by simp)) g e1 e2 e3
  | cons z post ih =>
    intro pre h1 x5 x6 rs ws S5 S6 he st g e1 e2 e3
    have hlen : pre.length + (post.length + 1) = ls.length := by rw [← he]; simp
    have hg : (ls.map (·.1))[pre.length]? = some z.1 := by rw [← he]; simp
    have hzm : z ∈ ls := by rw [← he]; simp
    obtain ⟨hz, hzs⟩ := hi z hzm
    have h4 := entsz_len z.2
    have c1 : decide ((pre.length : Int) < (ls.length : Int)) = true := decide_eq_true (by omega)
    have e6 : IntKind.i64.wrap ((pre.length : Int) + 1) = (((pre ++ [z]).length : Nat) : Int) := by rw [IntWalk.i64_in _ (by omega)]; simp
    have hrl : rs.length = pre.length := by have := congrArg List.length e1; simpa using this
    have hwl : ws.length ≤ pre.length := by have := congrArg List.length e2; have q := List.length_filter_le keepB (pre.map (·.2)); simp at this q; omega
    rw [List.length_cons, deduplaw12_RunMerges_L1]
    simp only [deduplaw12_RunMerges_B1, wd, List.getElem?_toArray, List.getElem?_cons_zero, List.getElem?_cons_succ, c1]
    have vx : ∀ {h1 : Hp} {S : List Nat}, Step hh h1 [] S → Sl w0 h1 1 v ls.length (ls.map (·.1)) := fun st => (hx.sl' fh (by simp)).step fh st (by simp)
    have vz : Es w0 h1 z.1 z.2 := (hz.sl' fh (es_length z.2)).step fh st (by simp)
    refine (vx st).one hg ?_
    refine callA_of (Build_spec (256 : Int) vz (by omega)) fun r h2 ⟨y, S2, e, g2, s2⟩ f2 => ?_
    subst e
    have gg := g.step (s2.less (T := []) (by simp))
    have hS56 : ∀ b, b ∈ S5 ++ S6 → b < h1.next := fun b hb => (st.own b hb).1
    have st2 : Step hh h2 [] (S5 ++ S6) := st.trans ((s2.less (T := []) (by simp)).keepS hS56)
    simp only [wd, List.getElem?_toArray, List.getElem?_cons_zero, List.getElem?_cons_succ]
    by_cases hb : bldE (256 : Int) z.2 = 0
    · have c2 : (bldE (256 : Int) z.2 != 0) = false := by simp [hb]
      have hkb : keepB z.2 = true := decide_eq_true hb
      simp only [c2, wd, List.getElem?_toArray, List.getElem?_cons_zero, List.getElem?_cons_succ]
      refine callA_of (Open_bld (bl := 256) hb hzs g2.gv) fun r h3 ⟨p, A, e, m3, s3⟩ f3 => ?_
      subst e
      have g3 := gg.step (s3.less (T := []) (by simp))
      obtain ⟨p0, rfl⟩ : ∃ p0, p = ptr p0 := by obtain ⟨p0, -, -, -, e, -⟩ := m3; exact ⟨p0, e⟩
      have c3 : binPtrA .eql (.pointer (some ⟨p0, 0, none⟩)) (.pointer none) = some (.bool false) := rfl
      simp only [ptr, c3, bne_self_eq_false, wd, List.getElem?_toArray, List.getElem?_cons_zero, List.getElem?_cons_succ]
      have hA : ∀ b, b ∈ A → b ∉ S5 ∧ b ∉ S6 := fun b hb => by
        have h1' : h2.next ≤ b := by
          rcases (s3.own b hb).2 with w | w
          · simp at w
          · exact w
        exact ⟨fun q => by have := (gg.g5.lt b q).2; omega, fun q => by have := (gg.g6.lt b q).2; omega⟩
      refine app1_vec f3.base g3.g5.gv rfl (by omega) (by omega) fun x5' h4' S5' g5' s4 => ?_
      have g4 := g3.add5 (p := (ptr p0, z.2)) (.inl ⟨_, m3⟩) hA g5' s4
      have fb4 : w0.heap.size ≤ h4'.next := Nat.le_trans f3.base s4.1
      have st3 : Step hh h3 [] (S5 ++ S6) := st2.trans ((s3.less (T := []) (by simp)).keepS fun b hb => (st2.own b hb).1)
      have st4 : Step hh h4' [] (S5' ++ S6) := st3.trans (s4.more S6 fun b hb => (g3.g6.lt b hb).2)
      refine (vx st4).one hg ?_
      have hzc : isCell z.1 = true := vz.isC
      refine app1_vec fb4 g4.g6.gv hzc (by omega) (by omega) fun x6' h5 S6' g6' s5 => ?_
      have g5 := g4.add6 (p := z) g6' s5
      have st5 : Step hh h5 [] (S5' ++ S6') := st4.trans ((s5.more S5' fun b hb => (g4.g5.lt b hb).2).weaken (fun b hb => .inl (by simp at hb ⊢; rcases hb with q | q <;> simp [q])) (fun b hb => .inl (by simp at hb ⊢; rcases hb with q | q <;> simp [q])))
      simp only [wd, List.getElem?_toArray, List.getElem?_cons_zero, List.getElem?_cons_succ, e6]
      refine ih (pre ++ [z]) h5 x5' x6' _ _ S5' S6' (by simpa using he) st5 g5 ?_ ?_ (fun p hp => ?_)
      · simp [e1, hkb]
      · simp [e2, hkb, List.filter_cons]
      · rcases List.mem_append.1 hp with q | q
        · exact e3 p q
        · simp at q; subst q; exact hzm
    · have c2 : (bldE (256 : Int) z.2 != 0) = true := by simp [hb]
      have hkb : keepB z.2 = false := decide_eq_false hb
      simp only [c2, wd, List.getElem?_toArray, List.getElem?_cons_zero, List.getElem?_cons_succ]
      refine app1_vec f2.base gg.g5.gv rfl (by omega) (by omega) fun x5' h3 S5' g5' s3 => ?_
      have g3 := gg.add5 (p := (.pointer none, [])) (S := []) (.inr ⟨rfl, rfl, rfl⟩) (by simp) g5' s3
      simp only [wd, List.getElem?_toArray, List.getElem?_cons_zero, List.getElem?_cons_succ, e6]
      have st3 : Step hh h3 [] (S5' ++ S6) := st2.trans (s3.more S6 fun b hb => (gg.g6.lt b hb).2)
      refine ih (pre ++ [z]) h3 x5' x6 _ ws S5' S6 (by simpa using he) st3 g3 ?_ ?_ e3
      · simp [e1, hkb]
      · simp [e2, hkb, List.filter_cons]
theorem RunMerges_top {v : Value} {ls : List (Value × List Ent)} (dr : Bool) (hx : ExtSl w0 1 v ls.length (ls.map (·.1))) (hi : ∀ p : Value × List Ent, p ∈ ls → ExtSl w0 3 p.1 p.2.length (p.2.flatMap ee) ∧ entsz p.2 ≤ 1048576) (hl : ls.length ≤ 1100000) (hs : (ls.map fun p => p.2.length).sum ≤ 10000000) :
    ACalls prog w0 n_deduplaw12_RunMerges [v, .bool dr] h fun r h' => r = .bool true := by
  refine ACalls.of_fit (by simpa using hx.nj) fun f => c_deduplaw12_RunMerges (by simpa using hx.nj) ?_
  simp only [s_deduplaw12_RunMerges]
  refine callA_of awake_spec fun r h1 ⟨e, s1⟩ f1 => ?_
  subst e
  simp only [(hx.sl' f1 (by simp)).lenv, wd, List.getElem?_toArray, List.getElem?_cons_zero, List.getElem?_cons_succ]
  refine ⟨ls.length + 1, mgs_loop (hh := h1) f1 hx hi hl (fun h2 x5 x6 rs ws S5 S6 st g e1 e2 e3 => ?_) ls [] h1 _ _ [] [] [] [] rfl (.refl _ _ (by simp)) ⟨.nil, .nil, by simp, by simp⟩ rfl rfl (by simp)⟩
  have hrl : rs.length = ls.length := by have := congrArg List.length e1; simpa using this
  have hwl : ws.length ≤ ls.length := by have := congrArg List.length e2; have q := List.length_filter_le keepB (ls.map (·.2)); simp at this q; omega
  have srtk : ∀ l : List Ent, keepB l = true → l.Pairwise fun x y => blt x.k y.k = true := fun l hk => (chkF_srt (bldE_ok (of_decide_eq_true hk)).2.2).1
  have srs : ∀ p : Value × List Ent, p ∈ rs → p.2.Pairwise fun x y => blt x.k y.k = true := fun p hp => by
    have : p.2 ∈ rs.map (·.2) := List.mem_map.2 ⟨p, hp, rfl⟩
    rw [e1] at this
    obtain ⟨l, -, e⟩ := List.mem_map.1 this
    rw [← e]
    cases hk : keepB l with
    | true => simpa using srtk l hk
    | false => simp
  have sws : ∀ p : Value × List Ent, p ∈ ws → p.2.Pairwise fun x y => blt x.k y.k = true := fun p hp => by
    have : p.2 ∈ ws.map (·.2) := List.mem_map.2 ⟨p, hp, rfl⟩
    rw [e2] at this
    exact srtk _ (List.mem_filter.1 this).2
  have sum1 : (rs.map fun p => p.2.length).sum ≤ 10000000 := by
    have : (rs.map fun p => p.2.length) = (rs.map (·.2)).map List.length := by simp [List.map_map, Function.comp_def]
    rw [this, e1]
    refine Nat.le_trans ?_ hs
    clear e1 e2 e3 g st srs sws hrl hwl hi hx hs hl
    induction ls with
    | nil => simp
    | cons a t ih =>
      simp only [List.map_cons, List.sum_cons]
      have : (if keepB a.2 = true then a.2 else []).length ≤ a.2.length := by split <;> simp
      omega
  have sum2 : (ws.map fun p => p.2.length).sum ≤ 10000000 := by
    have : (ws.map fun p => p.2.length) = (ws.map (·.2)).map List.length := by simp [List.map_map, Function.comp_def]
    rw [this, e2]
    refine Nat.le_trans ?_ hs
    clear e1 e2 e3 g st srs sws hrl hwl hi hx hs hl sum1 this
    induction ls with
    | nil => simp
    | cons a t ih =>
      simp only [List.map_cons, List.sum_cons, List.filter_cons]
      split
      · simp only [List.map_cons, List.sum_cons]; omega
      · omega
  refine callA_of (rMg_spec dr g.g5.sl (fun p hp => ?_) srs (by omega) (by omega)) fun u h3 ⟨out, S', im, hol, g3, s3⟩ f3 => ?_
  · obtain ⟨S, a, -⟩ := g.m p hp
    exact ⟨S, a.ra, a.lt⟩
  · have g6 := g.g6.frame s3 (by simp)
    refine callA_of (rMerge12_spec dr g6.sl (fun p hp => (hi p (e3 p hp)).1.sl' f3 (es_length p.2)) (by omega) (by omega)) fun u2 h4 ⟨out2, S2, im2, hol2, g4, s4⟩ f4 => ?_
    have c1 : (rs.map fun p => kl p.2) = (rs.map (·.2)).map kl := by simp [List.map_map, Function.comp_def]
    have c2 : (ws.map fun p => kl p.2) = (ws.map (·.2)).map kl := by simp [List.map_map, Function.comp_def]
    rw [c1] at im
    rw [c2] at im2
    have o1 := isM_overs (fun l hl => by obtain ⟨p, hp, rfl⟩ := List.mem_map.1 hl; exact srs p hp) im
    have o2 := isM_overs (fun l hl => by obtain ⟨p, hp, rfl⟩ := List.mem_map.1 hl; exact sws p hp) im2
    rw [e1, overs_skip] at o1
    rw [e2] at o2
    rw [← o2] at o1
    rw [o1, mgf_flt] at g3
    have g34 := g3.frame s4 (by simp)
    have hfl : (flt dr out2).length ≤ out2.length := List.length_filter_le _ _
    refine callA_of (same_spec g34.sl g4.sl (by omega)) fun u3 h5 ⟨e, e'⟩ f5 => ?_
    subst e e'
    simp only [retA_iff, oneOf_one]
    simp
end
end Go.Proofs.Ythjpddggnhgjhaa.Ah
