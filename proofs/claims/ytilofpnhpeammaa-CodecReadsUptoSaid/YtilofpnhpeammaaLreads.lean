/- CodecReads: the walk. -/
import Derived.Test.YtilofpnhpeammaaLwrites
import Derived.Test.YtilofpnhpeammaaKu
set_option linter.unusedVariables false
set_option linter.unusedSimpArgs false
namespace Go.Proofs.Ytilofpnhpeammaa.Ah
open Go

/-- What a reader should tell: at a fault nothing is left. -/
def RS.clr (st : RS) : RS := if st.err ≠ 0 then ⟨[], st.err⟩ else st
theorem RS.clr_err (st : RS) : st.clr.err = st.err := by unfold RS.clr; split <;> rfl
theorem RS.clr0 {st : RS} (h : st.err = 0) : st.clr = st := by simp [RS.clr, h]
theorem RS.clr1 {st : RS} (h : st.err ≠ 0) : st.clr = ⟨[], st.err⟩ := by simp [RS.clr, h]
theorem RS.clr_left (st : RS) : st.left = st.clr.s.length := by unfold RS.left RS.clr; split <;> simp
theorem wrap_i64_range (n : Int) : -9223372036854775808 ≤ IntKind.i64.wrap n ∧ IntKind.i64.wrap n ≤ 9223372036854775807 := by
  simp only [IntKind.wrap, IntKind.signed, IntKind.bits]
  simp
  split <;> omega

theorem fails_spec {w0 : World} {h : Hp} {r : Nat} {st : RS} (w : Rd w0 h r st) (e : Int) (he : 0 ≤ e ∧ e < 1000) :
    ACalls prog w0 n_deduplaw02_reading_fails [ptr r, .int .i64 e] h fun v h' => Rd w0 h' r ⟨[], e⟩ ∧ Step h h' [r] [r] := by
  refine ACalls.of_fit (by simp [ptr]) fun f => c_deduplaw02_reading_fails (by simp [ptr]) ?_
  simp [s_deduplaw02_reading_fails, ptr, w.1, Nat.not_lt.2 w.2.1, w.2.1]
  have := w.put ⟨[], e⟩ (by simp) he
  refine ⟨⟨?_, w.2.1, by simpa using w.2.2.1, by simp, he⟩, ?_⟩
  · simp [str_nil]
  · exact ((Step.refl h [r] (by simpa using w.2.2.1)).put (by simp) _).put (by simp) _
theorem reading_raw_spec {w0 : World} {h : Hp} {r : Nat} {st : RS} (w : Rd w0 h r st.clr) (n : Int) (hn : -9223372036854775808 ≤ n ∧ n ≤ 9223372036854775807) :
    ACalls prog w0 n_deduplaw02_reading_raw [ptr r, .int .i64 n] h fun v h' => v = .string (str (st.raw n).1) ∧ Rd w0 h' r (st.raw n).2.clr ∧ Step h h' [r] [r] := by
  refine ACalls.of_fit (by simp [ptr]) fun f => c_deduplaw02_reading_raw (by simp [ptr]) ?_
  simp [s_deduplaw02_reading_raw, ptr, w.1, Nat.not_lt.2 w.2.1, w.2.1, RS.clr_err]
  refine ⟨fun h0 => ?_, fun h0 => ?_⟩
  · simpa [RS.raw, h0, str_nil] using ⟨w, w.refl⟩
  rw [RS.clr0 h0] at w ⊢
  refine ⟨fun h1 => ?_, fun h1 => ⟨fun h2 => ?_, fun h2 => ?_⟩⟩
  · refine callA_of (fails_spec w 1 (by omega)) fun v h' ⟨w', s⟩ _ => ?_
    simpa [RS.raw, h0, h1, str_nil, RS.clr] using ⟨w', s⟩
  · refine callA_of (fails_spec w 20 (by omega)) fun v h' ⟨w', s⟩ _ => ?_
    simpa [RS.raw, h0, Int.not_lt.2 h1, h2, str_nil, RS.clr] using ⟨w', s⟩
  · obtain ⟨k, rfl⟩ := Int.eq_ofNat_of_zero_le h1
    have hk : k ≤ st.s.length := by omega
    have hnl : ¬ st.s.length < k := by omega
    have hng : ¬ (k : Int) < 0 := by omega
    simp [strSlA_take _ _ _ hk, strSlA_drop _ _ _ hk, RS.raw, h0, h2, w.1, Nat.not_lt.2 w.2.1, w.2.1, hnl, hng, RS.clr]
    have := w.put ⟨st.s.drop k, 0⟩ (by have := w.2.2.2.1; simp; omega) (by simp)
    simpa [h0] using this
theorem reading_varint_spec {w0 : World} {h : Hp} {r : Nat} {st : RS} (w : Rd w0 h r st.clr) :
    ACalls prog w0 n_deduplaw02_reading_varint [ptr r] h fun v h' => v = .int .u64 (st.varint.1 : Nat) ∧ Rd w0 h' r st.varint.2.clr ∧ Step h h' [r] [r] := by
  refine ACalls.of_fit (by simp [ptr]) fun f => c_deduplaw02_reading_varint (by simp [ptr]) ?_
  simp [s_deduplaw02_reading_varint, ptr, w.1, Nat.not_lt.2 w.2.1, w.2.1, RS.clr_err]
  have hb := shp_bound st.s 0 0 (by omega) (by simp)
  refine ⟨fun h0 => ?_, fun h0 => ?_⟩
  · simpa [RS.varint, h0] using ⟨w, w.refl⟩
  · rw [RS.clr0 h0] at w ⊢
    refine callA_of (rReadVarint_spec st.s w.2.2.2.1) fun v h1 ⟨e, e1⟩ f1 => ?_
    subst e e1
    simp [w.1, Nat.not_lt.2 w.2.1, w.2.1]
    refine ⟨fun h2 => ?_, fun h2 => ?_⟩
    · refine callA_of (fails_spec w _ hb.2.2) fun v h' ⟨w', s⟩ _ => ?_
      simpa [RS.varint, h0, h2, RS.clr] using ⟨w', s⟩
    · rw [strSlA_drop _ _ _ (by omega)]
      have := w.put ⟨st.s.drop (shp st.s 0 0).2.1, 0⟩ (by have := w.2.2.2.1; simp; omega) (by simp)
      simpa [RS.varint, h0, h2, w.1, w.2.1, RS.clr] using this
theorem reading_text_spec {w0 : World} {h : Hp} {r : Nat} {st : RS} (w : Rd w0 h r st.clr) :
    ACalls prog w0 n_deduplaw02_reading_text [ptr r] h fun v h' => v = .string (str st.text.1) ∧ Rd w0 h' r st.text.2.clr ∧ Step h h' [r] [r] := by
  refine ACalls.of_fit (by simp [ptr]) fun f => c_deduplaw02_reading_text (by simp [ptr]) ?_
  refine callA_of (reading_varint_spec w) fun v h1 ⟨e, w1, s1⟩ f1 => ?_
  subst e
  have hlen : IntKind.u64.wrap (st.varint.2.clr.s.length : Int) = (st.varint.2.clr.s.length : Int) := IntWalk.u64_in _ (by have := w1.2.2.2.1; omega)
  have hl0 := w1.2.2.2.1
  simp only [ptr, nilA_ptr, addA_ptr, addr_add, Nat.zero_add]
  refine loadA_at w1.2.1 w1.1 (by rfl) ?_
  simp only [binA_eql, pureA_some, RS.clr_err]
  by_cases h0 : st.varint.2.err = 0
  · rw [RS.clr0 h0] at w1 hlen hl0
    have c0 : (st.varint.2.err == 0) = true := by simp [h0]
    simp only [c0, guardA_tt, nilA_ptr, addA_ptr, addr_add, Nat.add_zero]
    refine loadA_at w1.2.1 w1.1 (by rfl) ?_
    simp only [guardA_tt, lenStr_string, str_size, pureA_some, convA_int, hlen, binA_gtr, pickA_true, condA_bool]
    refine ⟨fun h2 => ?_, fun h2 => ?_⟩
    · have h2 := of_decide_eq_true h2
      refine callA_of (fails_spec w1 20 (by omega)) fun v h' ⟨w', s⟩ _ => ?_
      have h2' : st.varint.2.s.length < st.varint.1 := by omega
      simpa [RS.text, h0, h2', str_nil, RS.clr] using ⟨w', s1.trans s⟩
    · have h2 := of_decide_eq_false h2
      have hw : IntKind.i64.wrap (st.varint.1 : Int) = (st.varint.1 : Int) := IntWalk.i64_in _ (by omega)
      rw [hw]
      refine callA_of (reading_raw_spec (st := st.varint.2) (by rw [RS.clr0 h0]; exact w1) st.varint.1 (by omega)) fun v h' ⟨e, w', s⟩ _ => ?_
      subst e
      have hn : ¬ st.varint.2.s.length < st.varint.1 := by omega
      simpa [RS.text, h0, hn] using ⟨w', s1.trans s⟩
  · have c0 : (st.varint.2.err == 0) = false := by simp [h0]
    simp only [c0, guardA_ft, guardA_undef, pickA_false, condA_false, convA_int, pureA_some]
    refine callA_of (reading_raw_spec w1 _ (wrap_i64_range _)) fun v h' ⟨e, w', s⟩ _ => ?_
    subst e
    have hr : st.varint.2.raw (IntKind.i64.wrap (st.varint.1 : Int)) = ([], st.varint.2) := by simp [RS.raw, h0]
    rw [hr] at w' ⊢
    simpa [RS.text, h0] using ⟨w', s1.trans s⟩

/-- One step of both. -/
def RS.next (st : RS) (o : Opt) : RS :=
  if o.kind = 0 then (st.raw 1).2 else if o.kind = 1 then (st.raw 2).2 else if o.kind = 2 then (st.raw 4).2 else if o.kind = 3 then (st.raw 8).2 else
  if o.kind = 4 then st.varint.2 else if o.kind = 5 then st.text.2 else if o.kind = 6 then (st.raw (IntKind.i64.wrap o.n)).2 else st
theorem step_pair {h h' h2 : Hp} {r x : Nat} (hr : r < h.next) (hx : x < h.next) (s1 : Step h h' [r] [r]) (s2 : Step h' h2 [x] [x]) : Step h h2 [r, x] [r, x] :=
  (s1.wide (T := [r, x]) (T' := [r, x]) (by simp) (fun b hb => by simp at hb; rcases hb with rfl | rfl; exact .inl (by simp); exact .inr ⟨by simp, hx⟩)).trans
    (s2.wide (T := [r, x]) (T' := [r, x]) (by simp) (fun b hb => by simp at hb; have := s1.1; rcases hb with rfl | rfl; exact .inr ⟨by simp, by omega⟩; exact .inl (by simp)))
theorem num_step {w0 : World} {h : Hp} {r x : Nat} {st : RS} {k : IntKind} {n : Nat} {K : Kont} (hn : n ≤ 8) (hne : r ≠ x) (wr : Rd w0 h r st) (wx : Rd w0 h x st.clr) (f : FuncId)
    (hc : ACalls prog w0 f [ptr r] h fun v h' => v = .int k (rdn (st.raw n).1 : Nat) ∧ Rd w0 h' r (st.raw n).2 ∧ Step h h' [r] [r])
    (hK : ∀ h', Fit w0 h' → Rd w0 h' r (st.raw n).2 → Rd w0 h' x (st.raw n).2.clr → Step h h' [r, x] [r, x] → K (.bool true) h') :
    callA prog w0 f [ptr r] (fun v13 => pureA (convA .u64 v13) fun v14 => callA prog w0 n_deduplaw02_reading_raw [ptr x, (.int .i64 n)] fun v16 => callA prog w0 n_dedupref02_Read [v16] fun v17 => pureA (binA .eql v14 v17) K) h := by
  have hl := raw_len st n
  have hlt := rdn_raw st n
  have hp : 256 ^ n ≤ 256 ^ 8 := Nat.pow_le_pow_right (by omega) hn
  refine callA_of hc fun v h1 ⟨e, w1, s1⟩ f1 => ?_
  subst e
  have e1 : IntKind.u64.wrap ((rdn (st.raw n).1 : Nat) : Int) = ((rdn (st.raw n).1 : Nat) : Int) := IntWalk.u64_in _ (by omega)
  simp only [convA_int, pureA_some, e1]
  have wx1 := wx.frame s1 (by simpa using fun e => hne e.symm)
  refine callA_of (reading_raw_spec wx1 n (by omega)) fun v h2 ⟨e, w2, s2⟩ f2 => ?_
  subst e
  refine callA_of (rRead_spec (st.raw n).1 (by omega)) fun v h3 ⟨e, e3⟩ f3 => ?_
  subst e e3
  simp only [binA_eql, pureA_some, beq_self_eq_true]
  exact hK _ f2 (w1.frame s2 (by simpa using hne)) w2 (step_pair wr.2.2.1 wx.2.2.1 s1 s2)
theorem look_step {w0 : World} {h : Hp} {r x : Nat} {st : RS} {rest : Int} {K : Kont} (wr : Rd w0 h r st) (wx : Rd w0 h x st.clr) (hrest : st.done = rest) (f0 : Fit w0 h) (hK : K (.bool true) h) :
    (pureQ (fun K => K (ptr r)) fun v85 =>
     pureQ (fun K => K (ptr x)) fun v87 =>
     pureQ (nilA v87) fun v88 =>
     pureQ (addA v88 0) fun v89 =>
     readQ (loadA w0 v89) fun v90 =>
     pureQ (pureA (lenStr v90)) fun v91 =>
     allA [
     (callA prog w0 n_codec_Reader_Left [v85] fun v86 =>
     stillA [(sameQ (loadA w0 v89) v90)] (
     pureQ (pureA (binA .eql v86 v91)) fun v92 =>
     pureQ (fun K => K v92) fun v93 =>
     pureQ (guardA v93 true (fun K => K (ptr r))) fun v94 =>
     pureQ (guardA v93 true (fun K => K (ptr x))) fun v96 =>
     pureQ (guardA v93 true (nilA v96)) fun v97 =>
     pureQ (guardA v93 true (addA v97 1)) fun v98 =>
     readQ (guardA v93 true (loadA w0 v98)) fun v99 =>
     allA [
     (guardA v93 true (callA prog w0 n_codec_Reader_Err [v94]) fun v95 =>
     stillA [(sameQ (guardA v93 true (loadA w0 v98)) v99)] (
     pureQ (guardA v93 true (pureA (binA .eql v95 v99))) fun v100 =>
     pureQ (pickA v93 v100 (.bool false)) fun v101 =>
     pureQ (fun K => K v101) fun v102 =>
     pureQ (guardA v102 true (fun K => K (ptr r))) fun v103 =>
     pureQ (guardA v102 true (fun K => K (.int .i64 rest))) fun v105 =>
     allA [
     (guardA v102 true (callA prog w0 n_codec_Reader_Done [v103]) fun v104 =>
     stillA [] (
     pureQ (guardA v102 true (pureA (binA .eql v104 v105))) fun v106 =>
     pureQ (pickA v102 v106 (.bool false)) fun v107 =>
     pureQ (fun K => K v107) fun v6 =>
     endA (K v6)))]))]))]) h := by
  have hd : K (.bool true) h := hK
  subst hrest
  simp only [fpureQ_k, fpureQ_nilA, fpureQ_addA, ptr, nilA_ptr, addA_ptr, addr_add, Nat.add_zero, Nat.zero_add]
  simp only [freadQ_loadA]
  refine loadA_at wx.2.1 wx.1 (by rfl) ?_
  simp only [lenStr_string, str_size, fpureQ_pureA, pureA_some, allA_one]
  refine callA_of (RLeft_spec wr) fun v h1 ⟨e, e1⟩ f1 => ?_
  subst e e1
  simp only [stillA_iff, allA_one, sameQ_loadA]
  refine ⟨loadA_at wx.2.1 wx.1 (by rfl) rfl, ?_⟩
  simp only [binA_eql, fpureQ_pureA, fpureA_some, RS.clr_left, beq_self_eq_true, fpureQ_k, fpureQ_guardA, freadQ_guardA, guardA_tt, nilA_ptr, fpureQ_nilA, fpureQ_addA, addA_ptr, addr_add, Nat.zero_add, freadQ_loadA]
  refine loadA_at wx.2.1 wx.1 (by rfl) ?_
  simp only [allA_one, guardA_tt]
  refine callA_of (RErr_spec wr) fun v h1 ⟨e, e1⟩ f1 => ?_
  subst e e1
  simp only [stillA_iff, allA_one]
  refine ⟨?_, ?_⟩
  · rw [sameQ_iff, guardA_tt]
    exact loadA_at wx.2.1 wx.1 (by rfl) ⟨rfl, rfl⟩
  simp only [binA_eql, fpureQ_pureA, fpureA_some, RS.clr_err, beq_self_eq_true, fpureQ_k, fpureQ_guardA, guardA_tt, fpureQ_pickA, pickA_true, allA_one]
  refine callA_of (RDone_spec wr) fun v h1 ⟨e, e1⟩ f1 => ?_
  subst e e1
  simp only [stillA_iff, allA_nil, true_and, binA_eql, fpureQ_pureA, fpureA_some, beq_self_eq_true, fpureQ_k, fpureQ_guardA, guardA_tt, fpureQ_pickA, pickA_true, endA_iff]
  exact hd
theorem step_spec {w0 : World} {h : Hp} {r x : Nat} {st : RS} (o : Opt) (hn : o.n < 18446744073709551616) (hne : r ≠ x) (wr : Rd w0 h r st) (wx : Rd w0 h x st.clr) :
    ACalls prog w0 n_deduplaw02_step [ptr r, ptr x, .agg o.e.toArray] h fun v h' => v = .bool true ∧ Rd w0 h' r (st.next o) ∧ Rd w0 h' x (st.next o).clr ∧ Step h h' [r, x] [r, x] := by
  obtain ⟨k, n, s⟩ := o
  refine ACalls.of_fit (by simp [ptr]) fun f => c_deduplaw02_step (by simp [ptr]) ?_
  have s0 := (Step.refl h [r, x] (fun b hb => by simp at hb; have := wr.2.2.1; have := wx.2.2.1; omega)).new [.int .i64 k, .int .u64 n, .string (str s)] 3
  have w1 := wr.frame ((Step.refl h [] (by simp)).new [.int .i64 k, .int .u64 n, .string (str s)] 3) (by simp)
  have x1 := wx.frame ((Step.refl h [] (by simp)).new [.int .i64 k, .int .u64 n, .string (str s)] 3) (by simp)
  have fin : ∀ {h' : Hp}, Step (h.new [.int .i64 k, .int .u64 n, .string (str s)] 3) h' [r, x] [r, x] → Step h h' [r, x] [r, x] := fun q => (s0.less (fun b hb => by simp [hb])).trans q
  have hbx : (h.new [.int .i64 k, .int .u64 n, .string (str s)] 3).blk h.next = some [.int .i64 k, .int .u64 n, .string (str s)] := by simp
  simp only [s_deduplaw02_step, boxA_agg, Opt.e, List.toList_toArray, addA_ptr, addr_add, Nat.add_zero, Nat.zero_add]
  refine loadA_at f.base hbx (by rfl) ?_
  simp only [binA_eql, pureA_some]
  by_cases k0 : k = 0
  · subst k0
    simp only [pureA_some, beq_self_eq_true, condA_true]
    refine num_step (n := 1) (by omega) hne w1 x1 _ (RU8_spec w1) fun h' f' wr' wx' s' => ?_
    simp only [retA_iff, oneOf_one]
    exact ⟨by simp, by trivial, by simpa [RS.next] using wr', by simpa [RS.next] using wx', fin s'⟩
  have c0 : (k == 0) = false := by simp [k0]
  simp only [c0, condA_false, pureA_some]
  by_cases k1 : k = 1
  · subst k1
    simp only [pureA_some, beq_self_eq_true, condA_true]
    refine num_step (n := 2) (by omega) hne w1 x1 _ (RU16_spec w1) fun h' f' wr' wx' s' => ?_
    simp only [retA_iff, oneOf_one]
    exact ⟨by simp, by trivial, by simpa [RS.next] using wr', by simpa [RS.next] using wx', fin s'⟩
  have c1 : (k == 1) = false := by simp [k1]
  simp only [c1, condA_false, pureA_some]
  by_cases k2 : k = 2
  · subst k2
    simp only [pureA_some, beq_self_eq_true, condA_true]
    refine num_step (n := 4) (by omega) hne w1 x1 _ (RU32_spec w1) fun h' f' wr' wx' s' => ?_
    simp only [retA_iff, oneOf_one]
    exact ⟨by simp, by trivial, by simpa [RS.next] using wr', by simpa [RS.next] using wx', fin s'⟩
  have c2 : (k == 2) = false := by simp [k2]
  simp only [c2, condA_false, pureA_some]
  by_cases k3 : k = 3
  · subst k3
    simp only [pureA_some, beq_self_eq_true, condA_true]
    refine callA_of (RU64_spec w1) fun v h1 ⟨e, w2, s1⟩ f1 => ?_
    subst e
    have x2 := x1.frame s1 (by simpa using fun e => hne e.symm)
    refine callA_of (reading_raw_spec x2 8 (by omega)) fun v h2 ⟨e, x3, s2⟩ f2 => ?_
    subst e
    refine callA_of (rRead_spec (st.raw 8).1 (raw_len st 8)) fun v h3 ⟨e, e3⟩ f3 => ?_
    subst e e3
    simp only [binA_eql, pureA_some, beq_self_eq_true, retA_iff, oneOf_one]
    exact ⟨by simp, by trivial, by simpa [RS.next] using w2.frame s2 (by simpa using hne), by simpa [RS.next] using x3, fin (step_pair w1.2.2.1 x1.2.2.1 s1 s2)⟩
  have c3 : (k == 3) = false := by simp [k3]
  simp only [c3, condA_false, pureA_some]
  by_cases k4 : k = 4
  · subst k4
    simp only [pureA_some, beq_self_eq_true, condA_true]
    refine callA_of (RVarint_spec w1) fun v h1 ⟨e, w2, s1⟩ f1 => ?_
    subst e
    have x2 := x1.frame s1 (by simpa using fun e => hne e.symm)
    refine callA_of (reading_varint_spec x2) fun v h2 ⟨e, x3, s2⟩ f2 => ?_
    subst e
    simp only [binA_eql, pureA_some, beq_self_eq_true, retA_iff, oneOf_one]
    exact ⟨by simp, by trivial, by simpa [RS.next] using w2.frame s2 (by simpa using hne), by simpa [RS.next] using x3, fin (step_pair w1.2.2.1 x1.2.2.1 s1 s2)⟩
  have c4 : (k == 4) = false := by simp [k4]
  simp only [c4, condA_false, pureA_some]
  by_cases k5 : k = 5
  · subst k5
    simp only [pureA_some, beq_self_eq_true, condA_true]
    refine callA_of (RText_spec w1) fun v h1 ⟨e, w2, s1⟩ f1 => ?_
    subst e
    have x2 := x1.frame s1 (by simpa using fun e => hne e.symm)
    refine callA_of (reading_text_spec x2) fun v h2 ⟨e, x3, s2⟩ f2 => ?_
    subst e
    simp only [binA_streql, pureA_some, decide_true, retA_iff, oneOf_one]
    exact ⟨by simp, by trivial, by simpa [RS.next] using w2.frame s2 (by simpa using hne), by simpa [RS.next] using x3, fin (step_pair w1.2.2.1 x1.2.2.1 s1 s2)⟩
  have c5 : (k == 5) = false := by simp [k5]
  simp only [c5, condA_false, pureA_some]
  by_cases k6 : k = 6
  · subst k6
    simp only [pureA_some, beq_self_eq_true, condA_true, fpureQ_k, fpureQ_addA, addA_ptr, addr_add, Nat.zero_add, freadQ_loadA]
    refine loadA_at f.base hbx (by rfl) ?_
    simp only [fpureQ_pureA, convA_int, fpureA_some, addA_ptr, addr_add, Nat.zero_add]
    refine loadA_at f.base hbx (by rfl) ?_
    simp only [convA_int, fpureA_some, allA_one]
    refine callA_of (RRaw_spec w1 _ (wrap_i64_range _)) fun v h1 ⟨e, w2, s1⟩ f1 => ?_
    subst e
    have hbx1 : h1.blk h.next = some [.int .i64 6, .int .u64 n, .string (str s)] := by
      rw [(s1.keep h.next (by simp) (by have := wr.2.2.1; simp; omega)).1]; exact hbx
    simp only [stillA_iff, allA_one, sameQ_loadA]
    refine ⟨loadA_at f.base hbx1 (by rfl) rfl, ?_⟩
    have x2 := x1.frame s1 (by simpa using fun e => hne e.symm)
    refine callA_of (reading_raw_spec x2 _ (wrap_i64_range _)) fun v h2 ⟨e, x3, s2⟩ f2 => ?_
    subst e
    simp only [stillA_iff, allA_nil, true_and, binA_streql, fpureA_some, decide_true, endA_iff, retA_iff, oneOf_one]
    exact ⟨by simp, by simpa [RS.next] using w2.frame s2 (by simpa using hne), by simpa [RS.next] using x3, fin (step_pair w1.2.2.1 x1.2.2.1 s1 s2)⟩
  have c6 : (k == 6) = false := by simp [k6]
  simp only [c6, condA_false, pureA_some]
  have hnx : st.next ⟨k, n, s⟩ = st := by simp [RS.next, k0, k1, k2, k3, k4, k5, k6]
  rw [hnx]
  have hK : retA [.bool true] (fun v h' => v = .bool true ∧ Rd w0 h' r st ∧ Rd w0 h' x st.clr ∧ Step h h' [r, x] [r, x]) (h.new [.int .i64 k, .int .u64 n, .string (str s)] 3) := by
    simp only [retA_iff, oneOf_one]
    exact ⟨by simp, by trivial, w1, x1, s0.less (fun b hb => by simp [hb])⟩
  have f1 : Fit w0 (h.new [.int .i64 k, .int .u64 n, .string (str s)] 3) := by
    refine ⟨by have := f.base; simp; omega, fun i hi => ?_, fun b cs hb => ?_, fun b cs hB hb v hv => ?_⟩
    · have : i ≠ h.next := by have := f.base; omega
      simpa [this] using f.ext i hi
    · simp at hb
      split at hb
      · simp; omega
      · have := f.lt b cs hb; simp; omega
    · simp at hb
      split at hb
      · cases hb; simp at hv; rcases hv with rfl | rfl | rfl <;> rfl
      · exact f.cell b cs hB hb v hv
  simp only [ptr, nilA_ptr, addA_ptr, addr_add, Nat.zero_add]
  refine loadA_at x1.2.1 x1.1 (by rfl) ?_
  simp only [binA_eql, pureA_some, RS.clr_err]
  by_cases h0 : st.err = 0
  · have c0 : (st.err == 0) = true := by simp [h0]
    simp only [c0, guardA_tt, nilA_ptr, addA_ptr, addr_add, Nat.add_zero]
    refine loadA_at x1.2.1 x1.1 (by rfl) ?_
    rw [← str_nil, binA_strneq]
    simp only [guardA_tt, pureA_some, pickA_true, condA_bool, RS.clr0 h0]
    rw [RS.clr0 h0] at x1
    refine ⟨fun h2 => ?_, fun h2 => ?_⟩
    · have h3 : ¬ st.s = [] := by simpa [str_inj] using h2
      refine look_step (rest := 22) (K := fun v6 => retA [v6] _) w1 (by rw [RS.clr0 h0]; exact x1) ?_ f1 (by rw [RS.clr0 h0] at hK; exact hK)
      have : 0 < st.s.length := List.length_pos_iff.2 h3
      simp [RS.done, h0, this]
    · have h3 : st.s = [] := by simpa [str_inj] using h2
      refine look_step (rest := st.err) (K := fun v6 => retA [v6] _) w1 (by rw [RS.clr0 h0]; exact x1) ?_ f1 (by rw [RS.clr0 h0] at hK; exact hK)
      simp [RS.done, h0, h3]
  · have c0 : (st.err == 0) = false := by simp [h0]
    simp only [c0, guardA_ft, guardA_undef, pickA_false, condA_false]
    refine look_step (rest := st.err) (K := fun v6 => retA [v6] _) w1 x1 ?_ f1 hK
    simp [RS.done, h0]
theorem reads_loop {w0 : World} {k0 kr : Value → Value → Value → Hp → Prop} {r x c : Nat} {a : Option Addr} {os : List Opt} (hne : r ≠ x) (hok : ∀ o, o ∈ os → o.n < 18446744073709551616) (hos : os.length ≤ 1000000000)
    (hsl : ∀ h, Fit w0 h → Src w0.heap.size h 3 (.slice a os.length c) os.length (os.flatMap Opt.e)) : ∀ (post pre : List Opt) (h : Hp) (st : RS), pre ++ post = os → Fit w0 h → Rd w0 h r st → Rd w0 h x st.clr →
    (∀ st' h', Fit w0 h' → Rd w0 h' r st' → Rd w0 h' x st'.clr → k0 (.bool false) (ptr r) (ptr x) h') →
    deduplaw02_CodecReads_L1 prog w0 k0 kr (post.length + 1) (.bool false) (ptr r) (ptr x) (.slice a os.length c) (.int .i64 (os.length : Int)) (.int .i64 (pre.length : Int)) h := by
  intro post
  induction post with
  | nil =>
    intro pre h st he f wr wx hk
    have : pre = os := by simpa using he
    subst this
    rw [deduplaw02_CodecReads_L1]
    simp only [deduplaw02_CodecReads_B1, binA_lss, pureA_some, Int.lt_irrefl, decide_false, condA_false]
    exact hk st h f wr wx
  | cons o post ih =>
    intro pre h st he f wr wx hk
    have hlen : pre.length + (post.length + 1) = os.length := by rw [← he]; simp
    have ho : o ∈ os := by rw [← he]; simp
    have c1 : decide ((pre.length : Int) < (os.length : Int)) = true := decide_eq_true (by omega)
    have e5 : IntKind.i64.wrap ((pre.length : Int) + 1) = ((pre.length + 1 : Nat) : Int) := by rw [IntWalk.i64_in _ (by omega)]; simp
    rw [List.length_cons, deduplaw02_CodecReads_L1]
    simp only [deduplaw02_CodecReads_B1, binA_lss, pureA_some, c1, condA_true]
    refine idx_box (e := o.e) f.base (hsl h f) (by omega) (ops_elem he) rfl rfl (by simp) ?_
    refine loadNA_whole (cs := o.e) f.base (by simp) rfl ?_
    have s0 := (Step.refl h [] (by simp)).new o.e 3
    refine callA_of (step_spec o (hok o ho) hne (wr.frame s0 (by simp)) (wx.frame s0 (by simp))) fun v h2 ⟨e, wr2, wx2, s2⟩ f2 => ?_
    subst e
    simp only [unA_not, Bool.not_true, pureA_some, condA_false, binA_add, e5]
    have := ih (pre ++ [o]) h2 (st.next o) (by simpa using he) f2 wr2 wx2 hk
    simpa using this
theorem CodecReads_spec {w0 : World} {h : Hp} (s : List UInt8) (hs : s.length ≤ 140737488355328) {v : Value} {os : List Opt} (hx : ExtSl w0 3 v os.length (os.flatMap Opt.e)) (hok : ∀ o, o ∈ os → o.n < 18446744073709551616) (hb : (os.map dOp.b).sum ≤ 1048576) :
    ACalls prog w0 n_deduplaw02_CodecReads [.string (str s), v] h fun v h' => v = .bool true := by
  obtain ⟨a, c, rfl, hn, hc⟩ := hx.sl
  refine ACalls.of_fit (by simp) fun f => c_deduplaw02_CodecReads (by simp) ?_
  have hos : os.length ≤ (os.map dOp.b).sum := by
    clear hx hok hb hn
    induction os with
    | nil => simp
    | cons o os ih => simp only [List.length_cons, List.map_cons, List.sum_cons]; have : 1 ≤ dOp.b o := by simp [dOp]
                      omega
  simp only [s_deduplaw02_CodecReads]
  refine callA_of (NewReader_spec s hs) fun v h1 ⟨e, w1, s1⟩ f1 => ?_
  subst e
  refine callA_of awake02_spec fun v h2 ⟨e, s2⟩ f2 => ?_
  subst e
  have w2 := w1.frame s2 (by simp)
  simp only [unA_not, Bool.not_true, pureA_some, guardA_ff, binPtr_ptr, pickA_false, condA_false, lenSl_slice, buildA_iff, fillA_one, fillA_nil, isCell_string, List.length_cons, List.length_nil, List.set_cons_zero, true_and, boxA_agg, List.toList_toArray]
  refine ⟨by omega, os.length + 1, ?_⟩
  have w3 := w2.frame ((Step.refl h2 [] (by simp)).new [.string (str s), .int .i64 0] 2) (by simp)
  have hne : h.next ≠ h2.next := by have := w2.2.2.1; omega
  have f3 : Fit w0 (h2.new [.string (str s), .int .i64 0] 2) := by
    refine ⟨by have := f2.base; simp; omega, fun i hi => ?_, fun b cs hb => ?_, fun b cs hB hb v hv => ?_⟩
    · have : i ≠ h2.next := by have := f2.base; omega
      simpa [this] using f2.ext i hi
    · simp at hb
      split at hb
      · simp; omega
      · have := f2.lt b cs hb; simp; omega
    · simp at hb
      split at hb
      · cases hb; simp at hv; rcases hv with rfl | rfl <;> rfl
      · exact f2.cell b cs hB hb v hv
  refine reads_loop hne hok (by omega) (fun h f => hx.src h f) os [] _ ⟨s, 0⟩ rfl f3 w3 ⟨by simp [RS.clr], f2.base, by simp, by simpa [RS.clr] using hs, by simp [RS.clr]⟩ (fun st h' f' wr wx => ?_)
  simp only [buildA_iff, fillA_one, fillA_nil, isCell_int, List.length_cons, List.length_nil, List.set_cons_zero, true_and]
  refine ⟨by omega, ?_⟩
  refine callA_of (step_spec ⟨7, 0, []⟩ (by simp) hne wr wx) fun v h2 ⟨e, wr2, wx2, s2⟩ f2 => ?_
  subst e
  simp
end Go.Proofs.Ytilofpnhpeammaa.Ah
