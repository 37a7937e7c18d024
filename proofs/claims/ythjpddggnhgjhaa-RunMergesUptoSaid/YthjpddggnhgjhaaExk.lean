/- run.Mem: its calls. -/
import Derived.Test.YthjpddggnhgjhaaExi
import Derived.Test.YthjpddggnhgjhaaExg
import Derived.Test.YthjpddggnhgjhaaAh32
set_option linter.unusedVariables false
set_option linter.unusedSimpArgs false
set_option linter.constructorNameAsVariable false
namespace Go.Proofs.Ythjpddggnhgjhaa.Ah
open Go
def withE (l : List Ent) (x : Ent) : List Ent := l.take (fE l x.k) ++ x :: l.drop (if hasK (kl l) x.k = true then fE l x.k + 1 else fE l x.k)
theorem kl_append (a b : List Ent) : kl (a ++ b) = kl a ++ kl b := by simp [kl]
theorem kl_take (l : List Ent) (i : Nat) : kl (l.take i) = (kl l).take i := by simp [kl]
theorem kl_drop (l : List Ent) (i : Nat) : kl (l.drop i) = (kl l).drop i := by simp [kl]
theorem putK_kl (l : List Ent) (x : Ent) : putK (kl l) x.k x = kl (withE l x) := by
  unfold withE putK
  rw [kl_append, show kl (x :: l.drop (if hasK (kl l) x.k = true then fE l x.k + 1 else fE l x.k)) = (x.k, x) :: kl (l.drop (if hasK (kl l) x.k = true then fE l x.k + 1 else fE l x.k)) from rfl, kl_take, kl_drop]
  cases hh : hasK (kl l) x.k with
  | false => rfl
  | true =>
    obtain ⟨u, hu⟩ := hasK_some hh
    have hil := (List.getElem?_eq_some_iff.1 hu).1
    simp only [if_true]
    exact List.set_eq_take_append_cons_drop.trans (if_pos hil)
theorem hasK_getE {l : List Ent} (s : l.Pairwise fun x y => blt x.k y.k = true) (k : Key) : hasK (kl l) k = (getE l k).isSome ∧ getK (kl l) k = getE l k := by
  unfold getK hasK
  rcases isAt_getE s k with ⟨q1, q2⟩ | ⟨x, q1, q2, q3, q4⟩
  · have : isAt (kl l) k (findK (kl l) k) = false := q1
    rw [this, q2]
    exact ⟨rfl, rfl⟩
  · have : isAt (kl l) k (findK (kl l) k) = true := q3
    have h2 : (kl l)[findK (kl l) k]? = some (x.k, x) := by
      have : l[findK (kl l) k]? = some x := q1
      unfold kl at this ⊢
      rw [List.getElem?_map, this]
      rfl
    rw [this, q4, h2]
    exact ⟨rfl, rfl⟩
section
variable {w0 : World} {h h' : Hp}
def Me (w0 : World) (h : Hp) (r : Value) (l : List Ent) (S : List Nat) : Prop :=
  ∃ q p M, r = ptr q ∧ h.blk q = some [ptr p] ∧ Mp w0 h p (kl l) M ∧ w0.heap.size ≤ q ∧ q < h.next ∧ q ∉ M ∧ S = q :: M ∧ l.Pairwise (fun x y => blt x.k y.k = true) ∧ l.length ≤ 10000000
theorem Me.nj {r : Value} {l : List Ent} {S : List Nat} (m : Me w0 h r l S) : r ≠ junk := by obtain ⟨q, p, M, e, -⟩ := m; subst e; simp [ptr, junk]
theorem Me.isC {r : Value} {l : List Ent} {S : List Nat} (m : Me w0 h r l S) : isCell r = true := by obtain ⟨q, p, M, e, -⟩ := m; subst e; rfl
theorem Me.lt {r : Value} {l : List Ent} {S : List Nat} (m : Me w0 h r l S) : ∀ b, b ∈ S → w0.heap.size ≤ b ∧ b < h.next := by
  obtain ⟨q, p, M, e, a1, a2, a3, a4, a5, a6, a7⟩ := m
  subst a6
  intro b hb
  rcases List.mem_cons.1 hb with rfl | hb
  · exact ⟨a3, a4⟩
  · exact a2.lt b hb
theorem Me.frame {r : Value} {l : List Ent} {S T T' : List Nat} (m : Me w0 h r l S) (st : Step h h' T T') (hd : ∀ b, b ∈ S → b ∉ T) : Me w0 h' r l S := by
  obtain ⟨q, p, M, e, a1, a2, a3, a4, a5, a6, a7, a8⟩ := m
  subst a6
  exact ⟨q, p, M, e, by rw [(st.keep q a4 (hd q (by simp))).1]; exact a1, a2.frame st (fun b hb => hd b (by simp [hb])), a3, Nat.lt_of_lt_of_le a4 st.1, a5, rfl, a7, a8⟩
def Mno (w0 : World) (h : Hp) (r : Value) : Prop := r = .pointer none ∨ ∃ p, r = ptr p ∧ w0.heap.size ≤ p ∧ p < h.next ∧ h.blk p = some [.pointer none]
theorem Mno.step {r : Value} (m : Mno w0 h r) (st : Step h h' [] []) : Mno w0 h' r := by
  rcases m with m | ⟨p, a, b, c, d⟩
  · exact .inl m
  · exact .inr ⟨p, a, b, Nat.lt_of_lt_of_le c st.1, by rw [(st.keep p c (by simp)).1]; exact d⟩
theorem Mno.nj {r : Value} (m : Mno w0 h r) : r ≠ junk := by
  rcases m with m | ⟨p, a, b, c, d⟩ <;> subst r <;> simp [ptr, junk]
theorem Mmade_spec {r : Value} {l : List Ent} {S : List Nat} (m : Me w0 h r l S) : ACalls prog w0 n_run_Mem_made [r] h fun v h' => v = .bool true ∧ h' = h := by
  refine ACalls.of_fit (by simpa using m.nj) fun f => c_run_Mem_made (by simpa using m.nj) ?_
  obtain ⟨q, p, M, e, a1, a2, a3, a4, a5, a6, a7⟩ := m
  subst e
  have c0 : binPtrA .neq (.pointer (some ⟨q, 0, none⟩)) (.pointer none) = some (.bool true) := rfl
  have c1 : binPtrA .neq (.pointer (some ⟨p, 0, none⟩)) (.pointer none) = some (.bool true) := rfl
  simp only [s_run_Mem_made, ptr, c0, wd, List.getElem?_toArray, List.getElem?_cons_zero, List.getElem?_cons_succ]
  refine loadA_at a3 a1 rfl ?_
  simp only [ptr, c1, wd, List.getElem?_toArray, List.getElem?_cons_zero, List.getElem?_cons_succ, retA_iff, oneOf_one]
  exact ⟨by simp, trivial, trivial⟩
theorem Mmade_no {r : Value} (m : Mno w0 h r) : ACalls prog w0 n_run_Mem_made [r] h fun v h' => v = .bool false ∧ h' = h := by
  refine ACalls.of_fit (by simpa using m.nj) fun f => c_run_Mem_made (by simpa using m.nj) ?_
  have c1 : binPtrA .neq (.pointer none) (.pointer none) = some (.bool false) := rfl
  rcases m with m | ⟨p, a, b, c, d⟩
  · subst m
    simp only [s_run_Mem_made, c1, wd, List.getElem?_toArray, List.getElem?_cons_zero, List.getElem?_cons_succ, retA_iff, oneOf_one]
    exact ⟨by simp, trivial, trivial⟩
  · subst a
    have c0 : binPtrA .neq (.pointer (some ⟨p, 0, none⟩)) (.pointer none) = some (.bool true) := rfl
    simp only [s_run_Mem_made, ptr, c0, wd, List.getElem?_toArray, List.getElem?_cons_zero, List.getElem?_cons_succ]
    refine loadA_at b d rfl ?_
    simp only [c1, wd, List.getElem?_toArray, List.getElem?_cons_zero, List.getElem?_cons_succ, retA_iff, oneOf_one]
    exact ⟨by simp, trivial, trivial⟩
theorem NewMem_spec : ACalls prog w0 n_run_NewMem [] h fun r h' => ∃ S, Me w0 h' r [] S ∧ Step h h' [] S := by
  refine ACalls.of_fit (by simp) fun f => c_run_NewMem (by simp) ?_
  simp only [s_run_NewMem]
  refine callA_of NewMap_spec fun r h1 ⟨e, m1, s1⟩ f1 => ?_
  subst e
  simp only [buildA_iff, fillA_one, fillA_nil, List.set_cons_zero, boxA_agg, retA_iff, oneOf_one]
  have sn : Step h1 (h1.new [ptr h.next] 1) [] [h1.next] := (Step.refl h1 [] (by simp)).new _ _
  have n1 := s1.1
  have hlt := (s1.own h.next (by simp)).1
  exact ⟨rfl, by simp, by simp, [h1.next, h.next], ⟨h1.next, h.next, [h.next], rfl, by simp, m1.frame sn (by simp), f1.base, by simp, by simp; omega, rfl, .nil, by simp⟩, s1.new _ _⟩
theorem MLen12 {r : Value} {l : List Ent} {S : List Nat} (m : Me w0 h r l S) : ACalls prog w0 n_run_Mem_Len [r] h fun v h' => v = .int .i64 (l.length : Int) ∧ h' = h := by
  refine ACalls.of_fit (by simpa using m.nj) fun f => c_run_Mem_Len (by simpa using m.nj) ?_
  simp only [s_run_Mem_Len]
  refine callA_of (Mmade_spec m) fun v h1 ⟨e, e'⟩ f1 => ?_
  subst e e'
  obtain ⟨q, p, M, e, a1, a2, a3, a4, a5, a6, a7⟩ := m
  subst e
  simp only [ptr, wd, List.getElem?_toArray, List.getElem?_cons_zero, List.getElem?_cons_succ]
  refine loadA_at a3 a1 rfl ?_
  refine callA_of (MLen_spec a2) fun v h1 ⟨e, e'⟩ f1 => ?_
  subst e e'
  simp only [kl_length, retA_iff, oneOf_one]
  exact ⟨by simp, trivial, trivial⟩
theorem MLen12_no {r : Value} (m : Mno w0 h r) : ACalls prog w0 n_run_Mem_Len [r] h fun v h' => v = .int .i64 0 ∧ h' = h := by
  refine ACalls.of_fit (by simpa using m.nj) fun f => c_run_Mem_Len (by simpa using m.nj) ?_
  simp only [s_run_Mem_Len]
  refine callA_of (Mmade_no m) fun v h1 ⟨e, e'⟩ f1 => ?_
  subst e e'
  simp only [wd, List.getElem?_toArray, List.getElem?_cons_zero, List.getElem?_cons_succ, retA_iff, oneOf_one]
  exact ⟨by simp, trivial, trivial⟩
theorem MGet12 {r : Value} {l : List Ent} {S : List Nat} (m : Me w0 h r l S) (k : Key) : ACalls prog w0 n_run_Mem_Get [r, .string (str k)] h fun v h' => v = .tuple #[.agg (eo (getE l k)).toArray, .bool (getE l k).isSome] ∧ Step h h' [] [] := by
  refine ACalls.of_fit (by simpa using m.nj) fun f => c_run_Mem_Get (by simpa using m.nj) ?_
  simp only [s_run_Mem_Get, newA_iff]
  refine ⟨zE_cell, ?_⟩
  have fb := f.base
  have sn : Step h (h.new zE 3) [] [h.next] := (Step.refl h [] (by simp)).new _ _
  have n1 : h.next < (h.new zE 3).next := by simp
  have bn : (h.new zE 3).blk h.next = some zE := by simp
  have mn := m.frame sn (by simp)
  show callA _ _ _ _ _ (h.new zE 3)
  generalize h.new zE 3 = h1 at *
  refine callA_of (Mmade_spec mn) fun v h2 ⟨e, e'⟩ f2 => ?_
  subst e e'
  obtain ⟨q, p, M, e, a1, a2, a3, a4, a5, a6, a7, a8⟩ := mn
  subst e
  simp only [ptr, wd, List.getElem?_toArray, List.getElem?_cons_zero, List.getElem?_cons_succ]
  refine loadA_at a3 a1 rfl ?_
  refine callA_of (MGet_spec a2 (kl_srt a7) (by rw [kl_length]; omega) k) fun v h3 ⟨e, s3⟩ f3 => ?_
  subst e
  obtain ⟨g1, g2⟩ := hasK_getE a7 k
  rw [g1, g2]
  simp only [wd, List.getElem?_toArray, List.getElem?_cons_zero, List.getElem?_cons_succ]
  have b3 : h3.blk h.next = some zE := by rw [(s3.keep _ n1 (by simp)).1]; exact bn
  refine storeNA_whole fb b3 rfl (eo_len _) ?_
  refine loadNA_whole (cs := eo (getE l k)) fb (by simp) (eo_len _) ?_
  simp only [retA_iff, oneOf_two]
  exact ⟨by simp, trivial, ((sn.trans (s3.keepS (by simpa using n1))).put (by simp) _).less (by simp)⟩
theorem MGet12_no {r : Value} (m : Mno w0 h r) (k : Key) : ACalls prog w0 n_run_Mem_Get [r, .string (str k)] h fun v h' => v = .tuple #[.agg zE.toArray, .bool false] ∧ Step h h' [] [] := by
  refine ACalls.of_fit (by simpa using m.nj) fun f => c_run_Mem_Get (by simpa using m.nj) ?_
  simp only [s_run_Mem_Get, newA_iff]
  refine ⟨zE_cell, ?_⟩
  have fb := f.base
  have sn : Step h (h.new zE 3) [] [h.next] := (Step.refl h [] (by simp)).new _ _
  have bn : (h.new zE 3).blk h.next = some zE := by simp
  have mn := m.step (sn.less (by simp))
  show callA _ _ _ _ _ (h.new zE 3)
  generalize h.new zE 3 = h1 at *
  refine callA_of (Mmade_no mn) fun v h2 ⟨e, e'⟩ f2 => ?_
  subst e e'
  simp only [wd, List.getElem?_toArray, List.getElem?_cons_zero, List.getElem?_cons_succ, buildA_iff, fillA_nil]
  refine storeNA_whole (e := zE) fb bn rfl rfl ?_
  refine loadNA_whole (cs := zE) fb (by simp) rfl ?_
  simp only [retA_iff, oneOf_two]
  exact ⟨by simp, trivial, (sn.put (by simp) _).less (by simp)⟩
end
theorem srt_kl {l : List Ent} (s : Srt (kl l)) : l.Pairwise fun x y => blt x.k y.k = true := by
  unfold Srt kl at s
  exact List.pairwise_map.1 s
theorem withE_srt {l : List Ent} (s : l.Pairwise fun x y => blt x.k y.k = true) (x : Ent) : (withE l x).Pairwise fun x y => blt x.k y.k = true := by
  refine srt_kl ?_
  rw [← putK_kl]
  exact putK_srt (kl_srt s) x.k x
theorem withE_len (l : List Ent) (x : Ent) : (withE l x).length ≤ l.length + 1 := by
  have := putK_len (kl l) x.k x
  rwa [putK_kl, kl_length, kl_length] at this
section
variable {w0 : World} {h h' : Hp}
theorem Mset_spec {r : Value} {l : List Ent} {S : List Nat} (m : Me w0 h r l S) (hl : l.length < 10000000) (x : Ent) : ACalls prog w0 n_run_Mem_set [r, .agg (ee x).toArray] h fun v h' => ∃ S',
    v = .int .i64 (if rightE x = true then 0 else 120) ∧ Me w0 h' r (if rightE x = true then withE l x else l) S' ∧ Step h h' S S' := by
  refine ACalls.of_fit (by simpa using m.nj) fun f => c_run_Mem_set (by simpa using m.nj) ?_
  simp only [s_run_Mem_set, boxA_agg]
  have fb := f.base
  have sn : Step h (h.new (ee x) 3) [] [h.next] := (Step.refl h [] (by simp)).new _ _
  have n1 : h.next < (h.new (ee x) 3).next := by simp
  have bn : (h.new (ee x) 3).blk h.next = some (ee x) := by simp
  have mn := m.frame sn (by simp)
  have hlt := fun b hb => (m.lt b hb).2
  show callA _ _ _ _ _ (h.new (ee x) 3)
  generalize h.new (ee x) 3 = h1 at *
  refine callA_of (Mmade_spec mn) fun v h2 ⟨e, e'⟩ f2 => ?_
  subst e e'
  simp only [wd, List.getElem?_toArray, List.getElem?_cons_zero, List.getElem?_cons_succ]
  refine loadNA_whole fb bn rfl ?_
  refine callA_of (p_may_spec x) fun v h3 ⟨e, s3⟩ f3 => ?_
  subst e
  have s03 : Step h h3 S S := ((sn.less (T := []) (by simp)).trans s3).keepS hlt
  have m3 := mn.frame s3 (by simp)
  have b3 : h3.blk h.next = some (ee x) := by rw [(s3.keep _ n1 (by simp)).1]; exact bn
  cases hr : rightE x with
  | false =>
    simp only [wd, List.getElem?_toArray, List.getElem?_cons_zero, List.getElem?_cons_succ, retA_iff, oneOf_one]
    exact ⟨by simp, S, by simp, by simpa using m3, s03⟩
  | true =>
    obtain ⟨q, p, M, e, a1, a2, a3, a4, a5, a6, a7, a8⟩ := m3
    subst e a6
    simp only [ptr, wd, List.getElem?_toArray, List.getElem?_cons_zero, List.getElem?_cons_succ]
    refine loadA_at a3 a1 rfl ?_
    refine loadA_at fb b3 rfl ?_
    refine loadNA_whole fb b3 rfl ?_
    refine callA_of (MPut_spec a2 (kl_srt a7) (by rw [kl_length]; omega) x.k x) fun v h4 ⟨e, M', m4, s4⟩ f4 => ?_
    rw [putK_kl] at m4
    simp only [retA_iff, oneOf_one]
    have hq' : q ∉ M' := fun z => by
      rcases (s4.own q z).2 with z | z
      · exact a5 z
      · omega
    refine ⟨by simp, q :: M', by simp, ?_, s03.trans (s4.consR a4)⟩
    rw [if_pos trivial]
    have hwl := withE_len l x
    exact ⟨q, p, M', rfl, by rw [(s4.keep q a4 a5).1]; exact a1, m4, a3, Nat.lt_of_lt_of_le a4 s4.1, hq', rfl, withE_srt a7 x, by omega⟩
theorem Mset_no {r : Value} (m : Mno w0 h r) (x : Ent) : ACalls prog w0 n_run_Mem_set [r, .agg (ee x).toArray] h fun v h' => v = .int .i64 6 ∧ Step h h' [] [] := by
  refine ACalls.of_fit (by simpa using m.nj) fun f => c_run_Mem_set (by simpa using m.nj) ?_
  simp only [s_run_Mem_set, boxA_agg]
  have sn : Step h (h.new (ee x) 3) [] [h.next] := (Step.refl h [] (by simp)).new _ _
  have mn := m.step (sn.less (by simp))
  show callA _ _ _ _ _ (h.new (ee x) 3)
  generalize h.new (ee x) 3 = h1 at *
  refine callA_of (Mmade_no mn) fun v h2 ⟨e, e'⟩ f2 => ?_
  subst e e'
  simp only [wd, List.getElem?_toArray, List.getElem?_cons_zero, List.getElem?_cons_succ, retA_iff, oneOf_one]
  exact ⟨by simp, trivial, sn.less (by simp)⟩
theorem MPut12 {r : Value} {l : List Ent} {S : List Nat} (m : Me w0 h r l S) (hl : l.length < 10000000) (k v : Key) : ACalls prog w0 n_run_Mem_Put [r, .string (str k), .string (str v)] h fun u h' => ∃ S',
    u = .int .i64 (if rightE ⟨k, v, false⟩ = true then 0 else 120) ∧ Me w0 h' r (if rightE ⟨k, v, false⟩ = true then withE l ⟨k, v, false⟩ else l) S' ∧ Step h h' S S' := by
  refine ACalls.of_fit (by simpa using m.nj) fun f => c_run_Mem_Put (by simpa using m.nj) ?_
  simp only [s_run_Mem_Put, buildA_iff, fillA_one, fillA_nil, List.set_cons_zero, List.set_cons_succ]
  refine ⟨rfl, by simp, rfl, by simp, ?_⟩
  refine callA_of (Mset_spec m hl ⟨k, v, false⟩) fun u h1 ⟨S', e, m1, s1⟩ f1 => ?_
  subst e
  simp only [retA_iff, oneOf_one]
  exact ⟨by simp, S', trivial, m1, s1⟩
theorem MDelete12 {r : Value} {l : List Ent} {S : List Nat} (m : Me w0 h r l S) (hl : l.length < 10000000) (k : Key) : ACalls prog w0 n_run_Mem_Delete [r, .string (str k)] h fun u h' => ∃ S',
    u = .int .i64 (if rightE ⟨k, [], true⟩ = true then 0 else 120) ∧ Me w0 h' r (if rightE ⟨k, [], true⟩ = true then withE l ⟨k, [], true⟩ else l) S' ∧ Step h h' S S' := by
  refine ACalls.of_fit (by simpa using m.nj) fun f => c_run_Mem_Delete (by simpa using m.nj) ?_
  simp only [s_run_Mem_Delete, buildA_iff, fillA_one, fillA_nil, List.set_cons_zero, List.set_cons_succ]
  refine ⟨rfl, by simp, rfl, by simp, ?_⟩
  refine callA_of (Mset_spec m hl ⟨k, [], true⟩) fun u h1 ⟨S', e, m1, s1⟩ f1 => ?_
  subst e
  simp only [retA_iff, oneOf_one]
  exact ⟨by simp, S', trivial, m1, s1⟩
theorem MPut12_no {r : Value} (m : Mno w0 h r) (k v : Key) : ACalls prog w0 n_run_Mem_Put [r, .string (str k), .string (str v)] h fun u h' => u = .int .i64 6 ∧ Step h h' [] [] := by
  refine ACalls.of_fit (by simpa using m.nj) fun f => c_run_Mem_Put (by simpa using m.nj) ?_
  simp only [s_run_Mem_Put, buildA_iff, fillA_one, fillA_nil, List.set_cons_zero, List.set_cons_succ]
  refine ⟨rfl, by simp, rfl, by simp, ?_⟩
  refine callA_of (Mset_no m ⟨k, v, false⟩) fun u h1 ⟨e, s1⟩ f1 => ?_
  subst e
  simp only [retA_iff, oneOf_one]
  exact ⟨by simp, trivial, s1⟩
theorem MDelete12_no {r : Value} (m : Mno w0 h r) (k : Key) : ACalls prog w0 n_run_Mem_Delete [r, .string (str k)] h fun u h' => u = .int .i64 6 ∧ Step h h' [] [] := by
  refine ACalls.of_fit (by simpa using m.nj) fun f => c_run_Mem_Delete (by simpa using m.nj) ?_
  simp only [s_run_Mem_Delete, buildA_iff, fillA_one, fillA_nil, List.set_cons_zero, List.set_cons_succ]
  refine ⟨rfl, by simp, rfl, by simp, ?_⟩
  refine callA_of (Mset_no m ⟨k, [], true⟩) fun u h1 ⟨e, s1⟩ f1 => ?_
  subst e
  simp only [retA_iff, oneOf_one]
  exact ⟨by simp, trivial, s1⟩
theorem MFork12 {r : Value} {l : List Ent} {S : List Nat} (m : Me w0 h r l S) : ACalls prog w0 n_run_Mem_Fork [r] h fun v h' => ∃ S' q, v = ptr q ∧ Me w0 h' v l S' ∧ Step h h' [] S' := by
  refine ACalls.of_fit (by simpa using m.nj) fun f => c_run_Mem_Fork (by simpa using m.nj) ?_
  simp only [s_run_Mem_Fork]
  refine callA_of (Mmade_spec m) fun v h1 ⟨e, e'⟩ f1 => ?_
  subst e e'
  obtain ⟨q, p, M, e, a1, a2, a3, a4, a5, a6, a7, a8⟩ := m
  subst e
  simp only [ptr, wd, List.getElem?_toArray, List.getElem?_cons_zero, List.getElem?_cons_succ]
  refine loadA_at a3 a1 rfl ?_
  refine callA_of (MFork_spec a2 (by rw [kl_length]; omega)) fun v h2 ⟨p', M', e, m2, s2⟩ f2 => ?_
  subst e
  simp only [buildA_iff, fillA_one, fillA_nil, List.set_cons_zero, boxA_agg, retA_iff, oneOf_one]
  have sn : Step h2 (h2.new [ptr p'] 1) [] [h2.next] := (Step.refl h2 [] (by simp)).new _ _
  have hM := fun b hb => (m2.lt b hb).2
  exact ⟨rfl, by simp, by simp, h2.next :: M', h2.next, rfl, ⟨h2.next, p', M', rfl, by simp, m2.frame sn (by simp), f2.base, by simp, fun z => by have := hM _ z; omega, rfl, a7, a8⟩, s2.trans ((Step.refl h2 M' hM).new _ _)⟩
theorem MFork12_no {r : Value} (m : Mno w0 h r) : ACalls prog w0 n_run_Mem_Fork [r] h fun v h' => v = .pointer none ∧ h' = h := by
  refine ACalls.of_fit (by simpa using m.nj) fun f => c_run_Mem_Fork (by simpa using m.nj) ?_
  simp only [s_run_Mem_Fork]
  refine callA_of (Mmade_no m) fun v h1 ⟨e, e'⟩ f1 => ?_
  subst e e'
  simp only [wd, List.getElem?_toArray, List.getElem?_cons_zero, List.getElem?_cons_succ, retA_iff, oneOf_one]
  exact ⟨by simp, trivial, trivial⟩
theorem MClear12 {r : Value} {l : List Ent} {S : List Nat} (m : Me w0 h r l S) : ACalls prog w0 n_run_Mem_Clear [r] h fun v h' => ∃ S', Me w0 h' r [] S' ∧ Step h h' S S' := by
  refine ACalls.of_fit (by simpa using m.nj) fun f => c_run_Mem_Clear (by simpa using m.nj) ?_
  have hlt := fun b hb => (m.lt b hb).2
  simp only [s_run_Mem_Clear]
  refine callA_of (Mmade_spec m) fun v h1 ⟨e, e'⟩ f1 => ?_
  subst e e'
  obtain ⟨q, p, M, e, a1, a2, a3, a4, a5, a6, a7, a8⟩ := m
  subst e a6
  simp only [wd, List.getElem?_toArray, List.getElem?_cons_zero, List.getElem?_cons_succ]
  refine callA_of NewMap_spec fun v h2 ⟨e, m2, s2⟩ f2 => ?_
  subst e
  have b2 : h2.blk q = some [ptr p] := by rw [(s2.keep q a4 (by simp)).1]; exact a1
  have n2 := s2.1
  have hlt2 := (s2.own h1.next (by simp)).1
  simp only [ptr, wd, List.getElem?_toArray, List.getElem?_cons_zero, List.getElem?_cons_succ]
  refine storeA_at a3 b2 (by simp) rfl ?_
  simp only [List.set_cons_zero, retA_iff]
  have sp : Step h2 (h2.put q [ptr h1.next]) [q] [q] := (Step.refl h2 [q] (by simp; omega)).put (by simp) _
  have s3 : Step h1 h2 (q :: M) (q :: M ++ [h1.next]) := by
    have := s2.more (q :: M) hlt
    exact this.weaken (fun b hb => .inl (by simpa using hb)) (fun b hb => .inl (by simp at hb ⊢; rcases hb with r | r | r <;> simp [r]))
  refine ⟨by simp, [q, h1.next], ⟨q, h1.next, [h1.next], rfl, by simp [ptr], m2.frame sp (by simp; omega), a3, by simp; omega, by simp; omega, rfl, .nil, by simp⟩, (s3.put (p := q) (by simp) _).less (by simp)⟩
theorem MClear12_no {r : Value} (m : Mno w0 h r) : ACalls prog w0 n_run_Mem_Clear [r] h fun v h' => h' = h := by
  refine ACalls.of_fit (by simpa using m.nj) fun f => c_run_Mem_Clear (by simpa using m.nj) ?_
  simp only [s_run_Mem_Clear]
  refine callA_of (Mmade_no m) fun v h1 ⟨e, e'⟩ f1 => ?_
  subst e e'
  simp only [wd, List.getElem?_toArray, List.getElem?_cons_zero, List.getElem?_cons_succ, retA_iff]
  exact ⟨by simp, trivial⟩
end
section
variable {w0 : World} {h h' : Hp}
theorem KeepC.up {N B B' : Nat} {C : Hp → List Nat → Prop} (k : KeepC w0 N B C) (hB : B ≤ B') : KeepC w0 N B' C :=
  ⟨k.ins, fun h h' S T T' f c st hd hb => k.step h h' S T T' f c st hd (fun b q => Nat.le_trans hB (hb b q)), k.lt⟩
theorem KeepC.and_blk {N B q : Nat} {C : Hp → List Nat → Prop} {y : Value} (k : KeepC w0 N B C) (hq : q < B) : KeepC w0 N B (fun h S => C h S ∧ h.blk q = some [y] ∧ q ∉ S ∧ q < h.next) := by
  refine ⟨fun h lp S e ⟨c, b, n, l⟩ => ⟨k.ins h lp S e c, b, n, l⟩, fun h h' S T T' f ⟨c, b, n, l⟩ st hd hB => ⟨k.step h h' S T T' f c st hd hB, ?_, n, Nat.lt_of_lt_of_le l st.1⟩, fun h S ⟨c, _, _, _⟩ => k.lt h S c⟩
  rw [(st.keep q l (fun z => by have := hB q z; omega)).1]
  exact b
theorem YStep.cutN {N : Nat} {S S' : List Nat} (s : YStep N h h' S S') : YStep N h (h'.cutLp h) S S' := ⟨s.1, s.2, s.3, fun b hN hb => by rw [cutLp_lp, if_pos hb]; exact s.4 b hN hb⟩
theorem itV_kl (l : List Ent) : itV (kl l) (fun _ => true) = l.map fun x => [.string (str x.k), .agg (ee x).toArray] := by
  unfold itV kl
  rw [List.filter_eq_self.2 (by simp), List.map_map]
  rfl
theorem mem_it {hh : Hp} {q : Nat} {r : Value} {l : List Ent} {T M : List Nat} (bq : hh.blk q = some [r]) (wq : w0.heap.size ≤ q) (m : Me w0 hh r l M) (hT : q ∈ T ∧ ∀ b, b ∈ M → b ∈ T) :
    ItV prog w0 (.func (.func n_run_Mem_All_S1) #[] #[ptr q]) hh T (sV l) := by
  intro y N S C D hy hyc hN kC kD hstep h0 hd
  refine ⟨_, _, _, rfl, by kernel_rfl, ?_⟩
  refine ACalls.of_fit (by simp [ptr, hy]) fun f => c_run_Mem_All_S1 (by simp [ptr, hy]) ?_
  have hSlt := (kC 0).lt hh S h0
  have lq := f.lt _ _ bq
  have hML := m.lt
  have fb := f.base
  simp only [s_run_Mem_All_S1, ptr]
  refine ⟨hyc, ?_⟩
  have sn : Step hh (hh.new [y] 1) [] [hh.next] := (Step.refl hh [] (by simp)).new _ _
  have bn : (hh.new [y] 1).blk hh.next = some [y] := by simp
  have n1 : hh.next < (hh.new [y] 1).next := by simp
  have mn := m.frame sn (by simp)
  have bqn : (hh.new [y] 1).blk q = some [r] := by rw [(sn.keep q lq (by simp)).1]; exact bq
  have lqn : q < (hh.new [y] 1).next := by simp; omega
  show loadA _ _ _ (hh.new [y] 1)
  generalize hh.new [y] 1 = h1 at *
  refine loadA_at wq bqn rfl ?_
  refine callA_of (Mmade_spec mn) fun v h2 ⟨e, e'⟩ f2 => ?_
  subst e
  subst h2
  simp only [wd, List.getElem?_toArray, List.getElem?_cons_zero, List.getElem?_cons_succ]
  refine loadA_at wq bqn rfl ?_
  obtain ⟨qm, p, Mm, e, a1, a2, a3, a4, a5, a6, a7, a8⟩ := mn
  subst e a6
  simp only [ptr, wd, List.getElem?_toArray, List.getElem?_cons_zero, List.getElem?_cons_succ]
  refine loadA_at a3 a1 rfl ?_
  refine callA_of (All_spec p) fun v h2 ⟨q1, q2, e, b1, b2, b3, b4, b5, b6, s2⟩ f2' => ?_
  subst e
  have s02 : Step hh h2 [] [] := (sn.less (T := []) (by simp)).trans s2
  have m2 := a2.frame s2 (by simp)
  have bn2 : h2.blk hh.next = some [y] := by rw [(s2.keep _ n1 (by simp)).1]; exact bn
  have n2 : hh.next < h2.next := Nat.lt_of_lt_of_le n1 s2.1
  have sS : Step hh h2 S S := s02.keepS hSlt
  have fin : ∀ h3 S2, YStep N h2 h3 S S2 → (C (sV l).length h3 S2 ∨ D h3 S2) → cutA hh (retA [] fun _ h2 => ∃ S2, YStep N hh h2 S S2 ∧ (C (sV l).length h2 S2 ∨ D h2 S2)) h3 := by
    intro h3 S2 ys hk
    unfold cutA
    simp only [retA_iff]
    have hi : ∀ b, b < N → (h3.cutLp hh).lp b = h3.lp b := fun b hb => by rw [cutLp_lp, if_pos (by omega)]
    refine ⟨by simp, S2, ((sS.y N).trans ys).cutN, ?_⟩
    rcases hk with c | d
    · exact .inl ((kC _).ins h3 (h3.cutLp hh).lp S2 hi c)
    · exact .inr (kD.ins h3 (h3.cutLp hh).lp S2 hi d)
  refine rangeA_of' (xs := itV (kl l) fun _ => true) (T := q1 :: q2 :: Mm) N (by omega) f2' (fun g => ?_) (fun b g x K => newA zE 3 fun v => storeNA w0 v (x.tail.getD 0 undef) 3 fun _ => loadA w0 (ptr hh.next) fun v15 => loadNA w0 v 3 fun v16 => callVA prog w0 v15 [v16] fun v17 => pureA (unA .not v17) fun v18 => condA v18 (endR b g (some none) K) (endR b g none K))
    (fun b g x K h1 hl hk => round_st hl hk) S (fun i h1 S1 => C i h1 S1 ∧ h1.blk hh.next = some [y] ∧ hh.next ∉ S1 ∧ hh.next < h1.next) (fun o h1 S1 => o = none ∧ D h1 S1)
    (fun i => ((kC i).up s02.1).and_blk n2) (fun o => ⟨fun h lp S e ⟨a, b⟩ => ⟨a, kD.ins h lp S e b⟩, fun h h' S T T' f ⟨a, b⟩ st hd hB => ⟨a, (kD.up s02.1).step h h' S T T' f b st hd hB⟩, fun h S ⟨a, b⟩ => kD.lt h S b⟩)
    ⟨(kC 0).step hh h2 S [] [] f h0 s02 (by simp) (by simp), bn2, fun z => by have := hSlt _ z; omega, n2⟩ (fun b hb => ?_) ?_ ?_ ?_ ?_
  · exact (over_it (hh := h2.newLp g) (p := p) (q1 := q1) (q2 := q2) (l := kl l) (kp := fun _ => true) (T := q1 :: q2 :: Mm) (M := Mm) b1 b2 (by omega) (by omega) (m2.frame ((YStep.refl 0 h2 [] (by simp)).newLp g).step (by simp) : Mp w0 ((h2.newLp g).as h2) p (kl l) Mm) (by rw [kl_length]; omega) ⟨by simp, by simp, fun b hb => by simp [hb]⟩
      fun h1 _ _ x hx => callVA_func (by kernel_rfl) (All_S1 x.1) fun r h2 hr f2 => hr).v
  · have hbl := hSlt b hb
    have hs1 := sn.1
    simp only [List.mem_cons]
    intro z
    rcases z with z | z | z
    · omega
    · omega
    · exact hd b hb (hT.2 b (List.mem_cons_of_mem _ z))
  · rw [itV_kl]
    intro z hz
    obtain ⟨x, hx, rfl⟩ := List.mem_map.1 hz
    exact ⟨rfl, by simp⟩
  · rintro i x h3 S1 g1 K hi f3 ⟨c, by_, nq, lq0⟩ lb _ ends exits
    rw [itV_kl, List.getElem?_map] at hi
    obtain ⟨z, hz, rfl⟩ := Option.map_eq_some_iff.1 hi
    have hS1 := (kC i).lt h3 S1 c
    simp only [List.tail_cons, List.getD_cons_zero]
    have fb3 := f3.base
    refine boxN fb3 rfl rfl zE_cell ?_
    have sx : Step h3 (h3.new (ee z) 3) [] [h3.next] := (Step.refl h3 [] (by simp)).new _ _
    have bx : (h3.new (ee z) 3).blk h3.next = some (ee z) := by simp
    have fx : Fit w0 (h3.new (ee z) 3) := f3.new (by simp [ee, isCell])
    have by2 : (h3.new (ee z) 3).blk hh.next = some [y] := by rw [(sx.keep _ lq0 (by simp)).1]; exact by_
    have cx := (kC i).step h3 _ S1 [] [] f3 c (sx.less (T := []) (by simp)) (by simp) (by simp)
    have ysx : YStep N h3 (h3.new (ee z) 3) S1 S1 := ((sx.less (T := []) (by simp)).keepS hS1).y N
    have nx : h3.next < (h3.new (ee z) 3).next := by simp
    generalize h3.new (ee z) 3 = h4 at *
    simp only [ptr]
    refine loadA_at fb by2 rfl ?_
    refine loadNA_whole fb3 bx rfl ?_
    have hzi : (sV l)[i]? = some [.agg (ee z).toArray] := by unfold sV; rw [List.getElem?_map, hz]; rfl
    refine callVA_of (hstep i _ h4 S1 hzi fx cx) fun v h5 ⟨S2, ys, hv⟩ f5 => ?_
    have ys35 := ysx.trans ys
    have hq5 : hh.next ∉ S2 := fun w => by
      rcases (ys35.own _ w).2 with w | w
      · exact nq w
      · omega
    rcases hv with ⟨rfl, c5⟩ | ⟨rfl, d5⟩
    · simp only [wd, List.getElem?_toArray, List.getElem?_cons_zero, List.getElem?_cons_succ]
      exact ends h5 S2 ys35 ⟨c5, by rw [(ys35.keep _ lq0 nq).1]; exact by_, hq5, Nat.lt_of_lt_of_le lq0 ys35.next⟩
    · simp only [wd, List.getElem?_toArray, List.getElem?_cons_zero, List.getElem?_cons_succ]
      exact exits none h5 S2 ys35 ⟨rfl, d5⟩
  · rintro h3 S2 f3 ys ⟨c, -⟩
    have : (itV (kl l) fun _ => true).length = (sV l).length := by rw [itV_kl]; simp [sV]
    rw [this] at c
    exact fin h3 S2 ys (.inl c)
  · rintro o h3 S2 f3 ys ⟨rfl, d⟩
    exact ⟨_, List.mem_singleton_self _, rfl, fin h3 S2 ys (.inr d)⟩
theorem mem_no {hh : Hp} {q : Nat} {r : Value} {T : List Nat} (bq : hh.blk q = some [r]) (wq : w0.heap.size ≤ q) (m : Mno w0 hh r) : ItV prog w0 (.func (.func n_run_Mem_All_S1) #[] #[ptr q]) hh T [] := by
  intro y N S C D hy hyc hN kC kD hstep h0 hd
  refine ⟨_, _, _, rfl, by kernel_rfl, ?_⟩
  refine ACalls.of_fit (by simp [ptr, hy]) fun f => c_run_Mem_All_S1 (by simp [ptr, hy]) ?_
  have hSlt := (kC 0).lt hh S h0
  have lq := f.lt _ _ bq
  simp only [s_run_Mem_All_S1, ptr]
  refine ⟨hyc, ?_⟩
  have sn : Step hh (hh.new [y] 1) [] [hh.next] := (Step.refl hh [] (by simp)).new _ _
  have mn := m.step (sn.less (by simp))
  have bqn : (hh.new [y] 1).blk q = some [r] := by rw [(sn.keep q lq (by simp)).1]; exact bq
  show loadA _ _ _ (hh.new [y] 1)
  generalize hh.new [y] 1 = h1 at *
  refine loadA_at wq bqn rfl ?_
  refine callA_of (Mmade_no mn) fun v h2 ⟨e, e'⟩ f2 => ?_
  subst e
  subst h2
  simp only [wd, List.getElem?_toArray, List.getElem?_cons_zero, List.getElem?_cons_succ]
  unfold cutA
  simp only [retA_iff]
  have s0 : Step hh h1 [] [] := sn.less (by simp)
  have c1 := (kC 0).step hh h1 S [] [] f h0 s0 (by simp) (by simp)
  exact ⟨by simp, S, ((s0.keepS hSlt).y N).cutN, .inl ((kC 0).ins h1 (h1.cutLp hh).lp S (fun b hb => by rw [cutLp_lp, if_pos (by omega)]) c1)⟩
end
end Go.Proofs.Ythjpddggnhgjhaa.Ah
