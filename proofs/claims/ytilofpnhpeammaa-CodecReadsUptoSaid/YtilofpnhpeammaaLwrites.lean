/- CodecWrites: the walk. -/
import Derived.Test.YtilofpnhpeammaaKop
import Derived.Test.YtilofpnhpeammaaGlaw02
set_option linter.unusedVariables false
set_option linter.unusedSimpArgs false
namespace Go.Proofs.Ytilofpnhpeammaa.Ah
open Go

theorem WS.len_out (st : WS) : st.len = st.out.length := by unfold WS.len WS.out; split <;> simp
/-- What is asked where the script says so. -/
theorem writes_look {w0 : World} {h : Hp} {p b : Nat} {st : WS} {S : List Nat} {o : Opt} {nx : Hp → Prop} {kr : Value → Value → Value → Value → Hp → Prop} (f : Fit w0 h) (w : Wr w0 h p st S) (hb : h.blk b = some o.e) (hB : w0.heap.size ≤ b) (hk : nx h) :
    addA (ptr b) 0 (fun v55 => loadA w0 v55 fun v56 => pureA (binA .neq v56 (.int .i64 7)) fun v57 => condA v57 nx (
      callA prog w0 n_codec_Writer_Done [ptr p] fun v60 =>
      pureA (extA v60 0) fun v61 =>
      pureA (extA v60 1) fun v62 =>
      callA prog w0 n_codec_Writer_Len [ptr p] fun v64 =>
      pureA (lenStr (.string (str st.out))) fun v66 =>
      pureA (binA .neq v64 v66) fun v67 =>
      guardA v67 false (fun K => K v61) fun v69 =>
      guardA v67 false (fun K => K (.string (str st.out))) fun v70 =>
      guardA v67 false (pureA (binA .neq v69 v70)) fun v71 =>
      pickA v67 (.bool true) v71 fun v72 =>
      guardA v72 false (fun K => K v62) fun v74 =>
      guardA v72 false (pureA (binA .eql v74 (.int .i64 3))) fun v75 =>
      guardA v72 false (fun K => K (.bool st.over)) fun v76 =>
      guardA v72 false (pureA (binBoolA .neq v75 v76)) fun v77 =>
      pickA v72 (.bool true) v77 fun v78 =>
      guardA v78 false (fun K => K (.bool st.over)) fun v80 =>
      guardA v78 false (pureA (unA .not v80)) fun v81 =>
      guardA v78 false (fun K => K v81) fun v82 =>
      guardA v82 true (fun K => K v62) fun v83 =>
      guardA v82 true (pureA (binA .neq v83 (.int .i64 0))) fun v84 =>
      guardA v78 false (pickA v82 v84 (.bool false)) fun v85 =>
      pickA v78 (.bool true) v85 fun v86 =>
      condA v86 (kr (.bool false) (ptr p) (.string (str st.out)) (.bool st.over)) nx)) h := by
  simp only [ptr, addA_ptr, addr_add, Nat.zero_add]
  refine loadA_at hB hb (by rfl) ?_
  by_cases h7 : o.kind = 7
  · have e7 : (o.kind != 7) = false := by simp [h7]
    simp only [binA_neq, pureA_some, e7, condA_false]
    refine callA_of (WDone_spec w) fun v h1 ⟨e, e1⟩ f1 => ?_
    subst e e1
    simp only [extA_tuple, pureA_some]
    simp
    refine callA_of (WLen_spec w) fun v h2 ⟨e, e1⟩ f2 => ?_
    subst e e1
    simp only [WS.len_out, lenStr_string, str_size, binA_neq, pureA_some, bne_self_eq_false, guardA_ff, pickA_false, binA_strneq, decide_true, Bool.not_true, binA_eql]
    cases ho : st.over with
    | false =>
      have he : st.err = 0 := by simp [WS.err, ho]
      simp only [he, binBoolA_neq, pureA_some, unA_not, show ((0 : Int) == 3) = false from rfl, beq_self_eq_true, Bool.not_true, Bool.not_false, guardA_ff, guardA_tt, pickA_false, pickA_true, binA_neq, bne_self_eq_false, condA_false]
      exact hk
    | true =>
      have he : st.err = 3 := by simp [WS.err, ho]
      simp only [he, binBoolA_neq, pureA_some, unA_not, beq_self_eq_true, Bool.not_true, Bool.not_false, guardA_ff, guardA_tt, guardA_ft, guardA_tf, pickA_false, pickA_true, condA_false]
      exact hk
  · have e7 : (o.kind != 7) = true := by simp [h7]
    simp only [binA_neq, pureA_some, e7, condA_true]
    exact hk

def opsz (os : List Opt) : Nat := (os.map fun o => o.s.length + 10).sum
theorem opsz_le (os : List Opt) : opsz os ≤ 10 * (os.map dOp.b).sum := by
  unfold opsz
  induction os with
  | nil => simp
  | cons o os ih => simp only [List.map_cons, List.sum_cons, dOp]; simp only [dOp] at ih; omega

theorem ops_elem {os pre post : List Opt} {o : Opt} (he : pre ++ o :: post = os) : ((os.flatMap Opt.e).drop (pre.length * 3)).take 3 = o.e :=
  drop_flatMap (e := Opt.e) (s := 3) (fun _ => rfl) os pre.length o (by rw [← he]; simp)

theorem writes_loop {w0 : World} {k0 kr : Value → Value → Value → Value → Hp → Prop} {most : Int} (hm : -9223372036854775808 ≤ most ∧ most ≤ 9223372036854775807) {p c : Nat} {a : Option Addr} {os : List Opt} (hok : ∀ o, o ∈ os → o.n < 18446744073709551616) (hos : os.length ≤ 1000000000)
    (hsl : ∀ h, Fit w0 h → Src w0.heap.size h 3 (.slice a os.length c) os.length (os.flatMap Opt.e)) : ∀ (post pre : List Opt) (h : Hp) (st : WS) (S : List Nat), pre ++ post = os → Fit w0 h → Wr w0 h p st S → st.most = max most 0 → (st.over = false → (st.bs.length : Int) ≤ st.most) →
    st.bs.length + opsz post ≤ 1000000000 → (∀ st' h' S', Fit w0 h' → Wr w0 h' p st' S' → Step h h' S S' → k0 (.bool false) (ptr p) (.string (str st'.out)) (.bool st'.over) h') →
    deduplaw02_CodecWrites_L1 prog w0 k0 kr (post.length + 1) (.int .i64 most) (.bool false) (ptr p) (.string (str st.out)) (.bool st.over) (.slice a os.length c) (.int .i64 (os.length : Int)) (.int .i64 (pre.length : Int)) h := by
  intro post
  induction post with
  | nil =>
    intro pre h st S he f w hst hle hsz hk
    have : pre = os := by simpa using he
    subst this
    rw [deduplaw02_CodecWrites_L1]
    simp only [deduplaw02_CodecWrites_B1, binA_lss, pureA_some, Int.lt_irrefl, decide_false, condA_false]
    exact hk st h S f w (Step.refl _ _ fun b hb => (w.lt b hb).2)
  | cons o post ih =>
    intro pre h st S he f w hst hle hsz hk
    have hlen : pre.length + (post.length + 1) = os.length := by rw [← he]; simp
    have ho : o ∈ os := by rw [← he]; simp
    have hon := hok o ho
    have hsz2 : opsz (o :: post) = o.s.length + 10 + opsz post := by simp [opsz]
    have hbl := o.b_len hon (by omega)
    have c1 : decide ((pre.length : Int) < (os.length : Int)) = true := decide_eq_true (by omega)
    have e5 : IntKind.i64.wrap ((pre.length : Int) + 1) = ((pre.length + 1 : Nat) : Int) := by rw [IntWalk.i64_in _ (by omega)]; simp
    rw [List.length_cons, deduplaw02_CodecWrites_L1]
    simp only [deduplaw02_CodecWrites_B1, binA_lss, pureA_some, c1, condA_true]
    refine idx_box (e := o.e) f.base (hsl h f) (by omega) (ops_elem he) rfl rfl (by simp) ?_
    refine loadNA_whole (cs := o.e) f.base (by simp) rfl ?_
    have hw1 := w.frame ((Step.refl h [] (by simp)).new o.e 3) (by simp)
    refine callA_of (write_spec o hon (by omega) hw1 (by omega) hle) fun v h2 ⟨S2, w2, s2⟩ f2 => ?_
    have hbS : h.next ∉ S := fun e => by have := (w.lt _ e).2; omega
    have hbS2 : h.next ∉ S2 := by
      intro e
      rcases (s2.own _ e).2 with q | q
      · exact hbS q
      · simp at q; omega
    have hb2 : h2.blk h.next = some o.e := by rw [(s2.keep h.next (by simp) hbS).1]; simp
    refine loadNA_whole f.base hb2 rfl ?_
    refine callA_of (bytes_spec o hon (by omega)) fun v h3 ⟨e, s3⟩ f3 => ?_
    subst e
    have hb3 : h3.blk h.next = some o.e := by rw [(s3.keep h.next (by have := s2.next; simp at this; omega) (by simp)).1]; exact hb2
    have w3 := w2.frame s3 (by simp)
    have s03 : Step h h3 S S2 := by
      have q1 := (Step.refl h S (fun b hb => (w.lt b hb).2)).new o.e 3
      have q2 := (q1.less (T := S) (fun b hb => by simp [hb])).trans s2
      exact q2.trans (s3.wide (by simp) (fun b hb => .inr ⟨hb, (w2.lt b hb).2⟩))
    have hR : ∀ st', st' = st.put o.b → (st'.over = false → (st'.bs.length : Int) ≤ st'.most) → st'.bs.length ≤ st.bs.length + o.b.length → st'.most = st.most →
        deduplaw02_CodecWrites_L1 prog w0 k0 kr (post.length + 1) (.int .i64 most) (.bool false) (ptr p) (.string (str st'.out)) (.bool st'.over) (.slice a os.length c) (.int .i64 (os.length : Int)) (.int .i64 ((pre.length + 1 : Nat) : Int)) h3 := by
      intro st' e1 e2 e3 e4
      subst e1
      have := ih (pre ++ [o]) h3 (st.put o.b) S2 (by simpa using he) f3 w3 (by rw [e4, hst]) e2 (by omega) (fun st' h' S' f' w' s' => hk st' h' S' f' w' (s03.trans s'))
      simpa using this
    cases hov : st.over with
    | true =>
      have hput : st.put o.b = st := by simp [WS.put, hov]
      rw [hput] at w3 hR
      simp only [unA_not, Bool.not_true, pureA_some, guardA_ft, guardA_undef, pickA_false, condA_false]
      have hl := writes_look (kr := kr) (nx := pureA (binA .add (.int .i64 (pre.length : Int)) (.int .i64 1)) fun v87 => deduplaw02_CodecWrites_L1 prog w0 k0 kr (post.length + 1) (.int .i64 most) (.bool false) (ptr p) (.string (str st.out)) (.bool st.over) (.slice a os.length c) (.int .i64 (os.length : Int)) v87) f3 w3 hb3 f.base (by
        simp only [binA_add, pureA_some, e5]
        exact hR st rfl (fun e => by rw [hov] at e; simp at e) (by omega) rfl)
      rw [hov] at hl
      exact hl
    | false =>
      have hout : st.out = st.bs := by simp [WS.out, hov]
      have hlm := hle hov
      have hwr : IntKind.i64.wrap (most - (st.out.length : Int)) = most - (st.out.length : Int) := IntWalk.i64_in _ (by rw [hout]; omega)
      simp only [unA_not, Bool.not_false, pureA_some, guardA_tt, pickA_true, lenStr_string, str_size, binA_sub, hwr, binA_gtr]
      by_cases hC : most - (st.out.length : Int) < (o.b.length : Int) ∧ 0 < o.b.length
      · have c2 : decide (most - (st.out.length : Int) < (o.b.length : Int)) = true := decide_eq_true hC.1
        have c3 : decide ((0 : Int) < (o.b.length : Int)) = true := decide_eq_true (by omega)
        simp only [c2, c3, guardA_tt, pickA_true, pureA_some, condA_true, lenStr_string, str_size, binA_gtr]
        have hput : st.put o.b = { st with over := true } := by
          unfold WS.put
          rw [hov, if_neg (by simp), if_pos (by rw [hout] at hC; omega)]
        have ho2 : (st.put o.b).out = [] := by rw [hput]; rfl
        have ho3 : (st.put o.b).over = true := by rw [hput]
        have hl := writes_look (kr := kr) (nx := pureA (binA .add (.int .i64 (pre.length : Int)) (.int .i64 1)) fun v87 => deduplaw02_CodecWrites_L1 prog w0 k0 kr (post.length + 1) (.int .i64 most) (.bool false) (ptr p) (.string (str (st.put o.b).out)) (.bool (st.put o.b).over) (.slice a os.length c) (.int .i64 (os.length : Int)) v87) f3 w3 hb3 f.base (by
          simp only [binA_add, pureA_some, e5]
          exact hR _ rfl (fun e => by rw [ho3] at e; simp at e) (by rw [hput]; simp) (by rw [hput]))
        rw [ho2, ho3] at hl
        exact hl
      · have hgo : ∀ {Z : Value → Hp → Prop}, Z (.bool false) h3 → guardA (.bool (decide (most - (st.out.length : Int) < (o.b.length : Int)))) true (fun K => K (.string (str o.b))) (fun v45 =>
            guardA (.bool (decide (most - (st.out.length : Int) < (o.b.length : Int)))) true (pureA (lenStr v45)) fun v46 =>
            guardA (.bool (decide (most - (st.out.length : Int) < (o.b.length : Int)))) true (pureA (binA .gtr v46 (.int .i64 0))) fun v47 =>
            guardA (.bool true) true (pickA (.bool (decide (most - (st.out.length : Int) < (o.b.length : Int)))) v47 (.bool false)) Z) h3 := by
          intro Z hZ
          cases c2 : decide (most - (st.out.length : Int) < (o.b.length : Int)) with
          | false => simp only [guardA_ft, guardA_tt, pickA_false]; exact hZ
          | true =>
            have h1 := of_decide_eq_true c2
            have c3 : decide ((0 : Int) < (o.b.length : Int)) = false := decide_eq_false (fun e => hC ⟨h1, by omega⟩)
            simp only [guardA_tt, lenStr_string, str_size, pureA_some, binA_gtr, c3, pickA_true]
            exact hZ
        refine hgo ?_
        simp only [pickA_true, pureA_some, condA_false, condA_true]
        have hput : st.put o.b = { st with bs := st.bs ++ o.b } := by
          unfold WS.put
          rw [hov, if_neg (by simp), if_neg (by rw [hout] at hC; omega)]
        have ho2 : (st.put o.b).out = st.out ++ o.b := by rw [hput, hout]; simp [WS.out, hov]
        have ho3 : (st.put o.b).over = false := by rw [hput]; exact hov
        rw [strA_add _ _ (by rw [hout]; simp; omega)]
        simp only [pureA_some, str_append]
        have hl := writes_look (kr := kr) (nx := pureA (binA .add (.int .i64 (pre.length : Int)) (.int .i64 1)) fun v87 => deduplaw02_CodecWrites_L1 prog w0 k0 kr (post.length + 1) (.int .i64 most) (.bool false) (ptr p) (.string (str (st.put o.b).out)) (.bool (st.put o.b).over) (.slice a os.length c) (.int .i64 (os.length : Int)) v87) f3 w3 hb3 f.base (by
          simp only [binA_add, pureA_some, e5]
          refine hR _ rfl (fun e => ?_) (by rw [hput]; simp) (by rw [hput])
          rw [hput]
          simp only [List.length_append]
          rw [hout] at hC
          omega)
        rw [ho2, ho3] at hl
        exact hl
theorem CodecWrites_spec {w0 : World} {h : Hp} (most : Int) (hm : -9223372036854775808 ≤ most ∧ most ≤ 9223372036854775807) {v : Value} {os : List Opt} (hx : ExtSl w0 3 v os.length (os.flatMap Opt.e)) (hok : ∀ o, o ∈ os → o.n < 18446744073709551616) (hb : (os.map dOp.b).sum ≤ 1048576) :
    ACalls prog w0 n_deduplaw02_CodecWrites [.int .i64 most, v] h fun v h' => v = .bool true := by
  obtain ⟨a, c, rfl, hn, hc⟩ := hx.sl
  refine ACalls.of_fit (by simp) fun f => c_deduplaw02_CodecWrites (by simp) ?_
  have hsz := opsz_le os
  have hos : os.length ≤ (os.map dOp.b).sum := by
    clear hx hok hb hsz hn
    induction os with
    | nil => simp
    | cons o os ih => simp only [List.length_cons, List.map_cons, List.sum_cons]; have : 1 ≤ dOp.b o := by simp [dOp]
                      omega
  simp only [s_deduplaw02_CodecWrites]
  refine callA_of (NewWriter_spec most hm) fun v h1 ⟨e, w1, s1⟩ f1 => ?_
  subst e
  refine callA_of awake02_spec fun v h2 ⟨e, s2⟩ f2 => ?_
  subst e
  have w2 := w1.frame s2 (by simp)
  simp only [unA_not, Bool.not_true, pureA_some, guardA_ff, binPtr_ptr, pickA_false, condA_false, lenSl_slice]
  refine ⟨os.length + 1, writes_loop hm hok (by omega) (fun h f => hx.src h f) os [] h2 _ _ rfl f2 w2 rfl (fun _ => by simp; omega) (by simp; omega) (fun st h' S' f' w' s' => ?_)⟩
  refine callA_of (WDone_spec w') fun v h1 ⟨e, e1⟩ f1 => ?_
  subst e e1
  simp only [extA_tuple, pureA_some]
  simp
  refine callA_of (WLen_spec w') fun v h2 ⟨e, e1⟩ f2 => ?_
  subst e e1
  simp only [WS.len_out, lenStr_string, str_size, binA_eql, pureA_some, beq_self_eq_true, guardA_tt, pickA_true, binA_streql, decide_true]
  cases ho : st.over with
  | false =>
    have he : st.err = 0 := by simp [WS.err, ho]
    simp only [he, binBoolA_eql, pureA_some, show ((0 : Int) == 3) = false from rfl, beq_self_eq_true, guardA_ff, guardA_tt, guardA_ft, pickA_false, pickA_true, retA_iff, oneOf_one]
    simp
  | true =>
    have he : st.err = 3 := by simp [WS.err, ho]
    simp only [he, binBoolA_eql, pureA_some, beq_self_eq_true, guardA_ff, guardA_tt, guardA_tf, pickA_false, pickA_true, retA_iff, oneOf_one]
    simp
end Go.Proofs.Ytilofpnhpeammaa.Ah
