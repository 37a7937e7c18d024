/- CodecBack: the walk. -/
import Derived.Test.YtilofpnhpeammaaLreads
import Derived.Test.YtilofpnhpeammaaLfr
set_option linter.unusedVariables false
set_option linter.unusedSimpArgs false
namespace Go.Proofs.Ytilofpnhpeammaa.Ah
open Go

theorem opsz_cons (o : Opt) (os : List Opt) : opsz (o :: os) = o.s.length + 10 + opsz os := by simp [opsz]
theorem back_loop1 {w0 : World} {k0 kr : Value → Value → Value → Hp → Prop} {p c : Nat} {a : Option Addr} {os : List Opt} (hok : ∀ o, o ∈ os → o.n < 18446744073709551616) (hos : os.length ≤ 1000000000)
    (hsl : ∀ h, Fit w0 h → Src w0.heap.size h 3 (.slice a os.length c) os.length (os.flatMap Opt.e)) : ∀ (post pre : List Opt) (h : Hp) (sz : Nat) (S : List Nat) (x0 x2 : Value), pre ++ post = os → Fit w0 h → Wr w0 h p ⟨1073741824, pre.flatMap Opt.b, false⟩ S → (pre.flatMap Opt.b).length ≤ sz →
    sz + opsz post ≤ 100000000 → (∀ h' S', Fit w0 h' → Wr w0 h' p ⟨1073741824, os.flatMap Opt.b, false⟩ S' → (os.flatMap Opt.b).length ≤ 100000000 → k0 x0 x2 (ptr p) h') →
    deduplaw02_CodecBack_L1 prog w0 k0 kr (post.length + 1) x0 x2 (ptr p) (.int .i64 (sz : Int)) (.slice a os.length c) (.int .i64 (os.length : Int)) (.int .i64 (pre.length : Int)) h := by
  intro post
  induction post with
  | nil =>
    intro pre h sz S x0 x2 he f w hl hsz hk
    have : pre = os := by simpa using he
    subst this
    rw [deduplaw02_CodecBack_L1]
    simp only [deduplaw02_CodecBack_B1, binA_lss, pureA_some, Int.lt_irrefl, decide_false, condA_false]
    exact hk h S f w (by simp [opsz] at hsz; omega)
  | cons o post ih =>
    intro pre h sz S x0 x2 he f w hl hsz hk
    have hlen : pre.length + (post.length + 1) = os.length := by rw [← he]; simp
    have ho : o ∈ os := by rw [← he]; simp
    have hon := hok o ho
    rw [opsz_cons] at hsz
    have hbl := o.b_len hon (by omega)
    have c1 : decide ((pre.length : Int) < (os.length : Int)) = true := decide_eq_true (by omega)
    have e5 : IntKind.i64.wrap ((pre.length : Int) + 1) = ((pre.length + 1 : Nat) : Int) := by rw [IntWalk.i64_in _ (by omega)]; simp
    have e6 : IntKind.i64.wrap ((o.s.length : Int) + 10) = ((o.s.length + 10 : Nat) : Int) := by rw [IntWalk.i64_in _ (by omega)]; simp
    have e7 : IntKind.i64.wrap ((sz : Int) + ((o.s.length + 10 : Nat) : Int)) = ((sz + (o.s.length + 10) : Nat) : Int) := by rw [IntWalk.i64_in _ (by omega)]; simp
    have c2 : decide ((1073741824 : Int) < ((sz + (o.s.length + 10) : Nat) : Int)) = false := decide_eq_false (by omega)
    rw [List.length_cons, deduplaw02_CodecBack_L1]
    simp only [deduplaw02_CodecBack_B1, binA_lss, pureA_some, c1, condA_true]
    refine idx_box (e := o.e) f.base (hsl h f) (by omega) (ops_elem he) rfl rfl (by simp) ?_
    simp only [addA_ptr, addr_add, Nat.zero_add]
    refine loadA_at (cs := o.e) f.base (by simp) (by rfl) ?_
    simp only [lenStr_string, str_size, pureA_some, binA_add, e6, e7, binA_gtr, c2, condA_false]
    refine loadNA_whole (cs := o.e) f.base (by simp) rfl ?_
    have hw1 := w.frame ((Step.refl h [] (by simp)).new o.e 3) (by simp)
    refine callA_of (write_spec o hon (by omega) hw1 (by simp only; omega) (fun _ => by simp only; omega)) fun v h2 ⟨S2, w2, s2⟩ f2 => ?_
    have hput : (⟨1073741824, pre.flatMap Opt.b, false⟩ : WS).put o.b = ⟨1073741824, (pre ++ [o]).flatMap Opt.b, false⟩ := by
      rw [put_ok (by omega)]; simp
    rw [hput] at w2
    simp only [e5]
    have := ih (pre ++ [o]) h2 (sz + (o.s.length + 10)) S2 x0 x2 (by simpa using he) f2 w2 (by simp; simp at hl; omega) (by omega) hk
    simpa using this

theorem back_read {w0 : World} {h : Hp} {r b o : Nat} {st' : RS} {f : FuncId} {args cs : List Value} {c x : Value} {Z : Value → Hp → Prop} (hc : ACalls prog w0 f args h fun v h' => v = c ∧ Rd w0 h' r st' ∧ Step h h' [r] [r])
    (he : binA .eql c c = some (.bool true)) (hB : w0.heap.size ≤ b) (hb : h.blk b = some cs) (hlt : b < h.next) (hne : b ≠ r) (hx : cs[o]? = some x) (hK : ∀ h', Fit w0 h' → Rd w0 h' r st' → Z (.bool true) h') :
    callA prog w0 f args (fun v62 => stillA [(sameQ (loadA w0 (.pointer (some ⟨b, o, none⟩))) x)] (pureA (binA .eql v62 c) fun v66 => endA (Z v66))) h := by
  refine callA_of hc fun v h1 ⟨e, w1, s1⟩ f1 => ?_
  subst e
  have hb1 : h1.blk b = some cs := by rw [(s1.keep b hlt (by simpa using hne)).1]; exact hb
  simp only [stillA_iff, allA_one, sameQ_loadA]
  refine ⟨loadA_at hB hb1 hx rfl, ?_⟩
  simp only [he, fpureA_some, endA_iff]
  exact hK h1 f1 w1
theorem back_num {st : RS} {n k : Nat} {rest : List UInt8} (e : st = ⟨be k n ++ rest, 0⟩) : st.raw k = (be k n, ⟨rest, 0⟩) := by
  subst e
  rw [raw_ok (by simp)]
  have h1 : (be k n ++ rest).take k = be k n := by rw [List.take_left' (by simp)]
  have h2 : (be k n ++ rest).drop k = rest := by rw [List.drop_left' (by simp)]
  rw [h1, h2]
theorem back_var {n : Nat} (hn : n < 18446744073709551616) (rest : List UInt8) : (⟨vi n ++ rest, 0⟩ : RS).varint = (n, ⟨rest, 0⟩) := by
  have := shp_vi rest n 0 0 (by simpa using hn) (by simp)
  unfold RS.varint
  rw [this]
  simp
theorem back_raw (s rest : List UInt8) : (⟨s ++ rest, 0⟩ : RS).raw (s.length : Nat) = (s, ⟨rest, 0⟩) := by
  rw [raw_ok (by simp)]
  simp
theorem back_text {s : List UInt8} (hs : s.length < 18446744073709551616) (rest : List UInt8) : (⟨vi s.length ++ s ++ rest, 0⟩ : RS).text = (s, ⟨rest, 0⟩) := by
  unfold RS.text
  rw [List.append_assoc, back_var hs]
  simp only
  rw [if_neg (by simp), if_neg (by simp), back_raw]
theorem back_loop2 {w0 : World} {k2 kr : Value → Value → Hp → Prop} {r c : Nat} {a : Option Addr} {os : List Opt} (hok : ∀ o, o ∈ os → o.n < 18446744073709551616 ∧ o.s.length ≤ 100000000) (hos : os.length ≤ 1000000000)
    (hsl : ∀ h, Fit w0 h → Src w0.heap.size h 3 (.slice a os.length c) os.length (os.flatMap Opt.e)) : ∀ (post pre : List Opt) (h : Hp), pre ++ post = os → Fit w0 h → Rd w0 h r ⟨post.flatMap Opt.b, 0⟩ →
    (∀ x h', Fit w0 h' → Rd w0 h' r ⟨[], 0⟩ → k2 x (ptr r) h') → ∀ x2,
    deduplaw02_CodecBack_L2 prog w0 k2 kr (post.length + 1) x2 (ptr r) (.slice a os.length c) (.int .i64 (os.length : Int)) (.int .i64 (pre.length : Int)) h := by
  intro post
  induction post with
  | nil =>
    intro pre h he f w hk x2
    have : pre = os := by simpa using he
    subst this
    rw [deduplaw02_CodecBack_L2]
    simp only [deduplaw02_CodecBack_B2, binA_lss, pureA_some, Int.lt_irrefl, decide_false, condA_false]
    exact hk _ h f w
  | cons o post ih =>
    intro pre h he f w hk x2
    have hlen : pre.length + (post.length + 1) = os.length := by rw [← he]; simp
    have ho : o ∈ os := by rw [← he]; simp
    obtain ⟨hon, hos2⟩ := hok o ho
    have c1 : decide ((pre.length : Int) < (os.length : Int)) = true := decide_eq_true (by omega)
    have e5 : IntKind.i64.wrap ((pre.length : Int) + 1) = ((pre.length + 1 : Nat) : Int) := by rw [IntWalk.i64_in _ (by omega)]; simp
    rw [List.flatMap_cons] at w
    rw [List.length_cons, deduplaw02_CodecBack_L2]
    simp only [deduplaw02_CodecBack_B2, binA_lss, pureA_some, c1, condA_true]
    refine idx_box (e := o.e) f.base (hsl h f) (by omega) (ops_elem he) rfl rfl (by simp) ?_
    have hgo : ∀ h', Fit w0 h' → Rd w0 h' r ⟨post.flatMap Opt.b, 0⟩ → deduplaw02_CodecBack_L2 prog w0 k2 kr (post.length + 1) x2 (ptr r) (.slice a os.length c) (.int .i64 (os.length : Int)) (.int .i64 ((pre.length + 1 : Nat) : Int)) h' := by
      intro h' f' w'
      have := ih (pre ++ [o]) h' (by simpa using he) f' w' hk x2
      simpa using this
    have hnr : h.next ≠ r := by have := w.2.2.1; omega
    have hn1 : h.next < (h.new o.e 3).next := by simp
    have hbx : (h.new o.e 3).blk h.next = some o.e := by simp
    have w1 := w.frame ((Step.refl h [] (by simp)).new o.e 3) (by simp)
    have f1 : Fit w0 (h.new o.e 3) := by
      refine ⟨by have := f.base; simp; omega, fun i hi => ?_, fun b cs hb => ?_, fun b cs hB hb v hv => ?_⟩
      · have : i ≠ h.next := by have := f.base; omega
        simpa [this] using f.ext i hi
      · simp at hb
        split at hb
        · simp; omega
        · have := f.lt b cs hb; simp; omega
      · simp at hb
        split at hb
        · cases hb; simp [Opt.e] at hv; rcases hv with rfl | rfl | rfl <;> rfl
        · exact f.cell b cs hB hb v hv
    clear ih hk
    generalize h.new o.e 3 = h1 at w1 f1 hbx hn1 ⊢
    obtain ⟨k, n, s⟩ := o
    simp only [addA_ptr, addr_add, Nat.add_zero, Nat.zero_add]
    refine loadA_at f.base hbx (by rfl) ?_
    simp only [binA_eql, pureA_some]
    have fin : ∀ {h'}, Fit w0 h' → Rd w0 h' r ⟨post.flatMap Opt.b, 0⟩ → pureA (unA .not (.bool true)) (fun v115 => condA v115 (kr (.bool false) (ptr r)) (pureA (binA .add (.int .i64 (pre.length : Int)) (.int .i64 1)) fun v116 => deduplaw02_CodecBack_L2 prog w0 k2 kr (post.length + 1) x2 (ptr r) (.slice a os.length c) (.int .i64 (os.length : Int)) v116)) h' := by
      intro h' f' w'
      simp only [unA_not, Bool.not_true, pureA_some, condA_false, binA_add, e5]
      exact hgo h' f' w'
    by_cases k0 : k = 0
    · subst k0
      have hst : (⟨be 1 n ++ post.flatMap Opt.b, 0⟩ : RS).raw 1 = _ := back_num (k := 1) (n := n) (rest := post.flatMap Opt.b) (st := ⟨be 1 n ++ post.flatMap Opt.b, 0⟩) rfl
      have w1 : Rd w0 h1 r ⟨be 1 n ++ post.flatMap Opt.b, 0⟩ := by simpa [Opt.b] using w1
      have hc := RU8_spec w1
      rw [hst] at hc
      simp only [rdn_be] at hc
      simp only [pureA_some, beq_self_eq_true, condA_true, fpureQ_k, fpureQ_pureA, fpureQ_addA, addA_ptr, addr_add, Nat.zero_add, freadQ_loadA]
      refine loadA_at f.base hbx (by rfl) ?_
      have e1 : IntKind.u8.wrap (n : Int) = ((n % 256 ^ 1 : Nat) : Int) := by rw [IntKind.wrap_u8]; simp
      simp only [convA_int, fpureA_some, allA_one, e1]
      exact back_read hc (by simp) f.base hbx hn1 hnr (by rfl) (fun h' f' w' => fin f' w')
    have c0 : (k == 0) = false := by simp [k0]
    simp only [c0, condA_false, pureA_some]
    by_cases k1 : k = 1
    · subst k1
      have hst : (⟨be 2 n ++ post.flatMap Opt.b, 0⟩ : RS).raw 2 = _ := back_num (k := 2) (n := n) (rest := post.flatMap Opt.b) (st := ⟨be 2 n ++ post.flatMap Opt.b, 0⟩) rfl
      have w1 : Rd w0 h1 r ⟨be 2 n ++ post.flatMap Opt.b, 0⟩ := by simpa [Opt.b] using w1
      have hc := RU16_spec w1
      rw [hst] at hc
      simp only [rdn_be] at hc
      simp only [pureA_some, beq_self_eq_true, condA_true, fpureQ_k, fpureQ_pureA, fpureQ_addA, addA_ptr, addr_add, Nat.zero_add, freadQ_loadA]
      refine loadA_at f.base hbx (by rfl) ?_
      have e1 : IntKind.u16.wrap (n : Int) = ((n % 256 ^ 2 : Nat) : Int) := by simp [IntKind.wrap, IntKind.signed, IntKind.bits]
      simp only [convA_int, fpureA_some, allA_one, e1]
      exact back_read hc (by simp) f.base hbx hn1 hnr (by rfl) (fun h' f' w' => fin f' w')
    have c1 : (k == 1) = false := by simp [k1]
    simp only [c1, condA_false, pureA_some]
    by_cases k2 : k = 2
    · subst k2
      have hst : (⟨be 4 n ++ post.flatMap Opt.b, 0⟩ : RS).raw 4 = _ := back_num (k := 4) (n := n) (rest := post.flatMap Opt.b) (st := ⟨be 4 n ++ post.flatMap Opt.b, 0⟩) rfl
      have w1 : Rd w0 h1 r ⟨be 4 n ++ post.flatMap Opt.b, 0⟩ := by simpa [Opt.b] using w1
      have hc := RU32_spec w1
      rw [hst] at hc
      simp only [rdn_be] at hc
      simp only [pureA_some, beq_self_eq_true, condA_true, fpureQ_k, fpureQ_pureA, fpureQ_addA, addA_ptr, addr_add, Nat.zero_add, freadQ_loadA]
      refine loadA_at f.base hbx (by rfl) ?_
      have e1 : IntKind.u32.wrap (n : Int) = ((n % 256 ^ 4 : Nat) : Int) := by simp [IntKind.wrap, IntKind.signed, IntKind.bits]
      simp only [convA_int, fpureA_some, allA_one, e1]
      exact back_read hc (by simp) f.base hbx hn1 hnr (by rfl) (fun h' f' w' => fin f' w')
    have c2 : (k == 2) = false := by simp [k2]
    simp only [c2, condA_false, pureA_some]
    by_cases k3 : k = 3
    · subst k3
      have hst : (⟨be 8 n ++ post.flatMap Opt.b, 0⟩ : RS).raw 8 = _ := back_num (k := 8) (n := n) (rest := post.flatMap Opt.b) (st := ⟨be 8 n ++ post.flatMap Opt.b, 0⟩) rfl
      have w1 : Rd w0 h1 r ⟨be 8 n ++ post.flatMap Opt.b, 0⟩ := by simpa [Opt.b] using w1
      have hc := RU64_spec w1
      rw [hst] at hc
      simp only [rdn_be, Nat.mod_eq_of_lt (show n < 256 ^ 8 from hon)] at hc
      simp only [pureA_some, beq_self_eq_true, condA_true, fpureQ_k, fpureQ_pureA, fpureQ_addA, addA_ptr, addr_add, Nat.zero_add, freadQ_loadA]
      refine loadA_at f.base hbx (by rfl) ?_
      simp only [allA_one]
      exact back_read hc (by simp) f.base hbx hn1 hnr (by rfl) (fun h' f' w' => fin f' w')
    have c3 : (k == 3) = false := by simp [k3]
    simp only [c3, condA_false, pureA_some]
    by_cases k4 : k = 4
    · subst k4
      have w1 : Rd w0 h1 r ⟨vi n ++ post.flatMap Opt.b, 0⟩ := by simpa [Opt.b] using w1
      have hc := RVarint_spec w1
      rw [back_var hon] at hc
      dsimp only at hc
      simp only [pureA_some, beq_self_eq_true, condA_true, fpureQ_k, fpureQ_pureA, fpureQ_addA, addA_ptr, addr_add, Nat.zero_add, freadQ_loadA]
      refine loadA_at f.base hbx (by rfl) ?_
      simp only [allA_one]
      exact back_read hc (by simp) f.base hbx hn1 hnr (by rfl) (fun h' f' w' => fin f' w')
    have c4 : (k == 4) = false := by simp [k4]
    simp only [c4, condA_false, pureA_some]
    by_cases k5 : k = 5
    · subst k5
      have w1 : Rd w0 h1 r ⟨vi s.length ++ s ++ post.flatMap Opt.b, 0⟩ := by simpa [Opt.b] using w1
      have hc := RText_spec w1
      rw [back_text (by simp only at hos2; omega)] at hc
      dsimp only at hc
      simp only [pureA_some, beq_self_eq_true, condA_true, fpureQ_k, fpureQ_pureA, fpureQ_addA, addA_ptr, addr_add, Nat.zero_add, freadQ_loadA]
      refine loadA_at f.base hbx (by rfl) ?_
      simp only [allA_one]
      exact back_read hc (by rw [binA_streql]; simp) f.base hbx hn1 hnr (by rfl) (fun h' f' w' => fin f' w')
    have c5 : (k == 5) = false := by simp [k5]
    simp only [c5, condA_false, pureA_some]
    by_cases k6 : k = 6
    · subst k6
      have w1 : Rd w0 h1 r ⟨s ++ post.flatMap Opt.b, 0⟩ := by simpa [Opt.b] using w1
      have hc := RRaw_spec w1 (s.length : Nat) (by simp only at hos2; omega)
      rw [back_raw] at hc
      dsimp only at hc
      simp only [pureA_some, beq_self_eq_true, condA_true, fpureQ_k, fpureQ_pureA, fpureQ_addA, addA_ptr, addr_add, Nat.zero_add, freadQ_loadA]
      refine loadA_at f.base hbx (by rfl) ?_
      simp only [lenStr_string, str_size, fpureA_some, addA_ptr, addr_add, Nat.zero_add]
      refine loadA_at f.base hbx (by rfl) ?_
      simp only [allA_one]
      exact back_read hc (by rw [binA_streql]; simp) f.base hbx hn1 hnr (by rfl) (fun h' f' w' => fin f' w')
    have c6 : (k == 6) = false := by simp [k6]
    simp only [c6, condA_false, pureA_some]
    have hb0 : (⟨k, n, s⟩ : Opt).b = [] := by simp [Opt.b, k0, k1, k2, k3, k4, k5, k6]
    rw [hb0] at w1
    have := fin f1 (by simpa using w1)
    simpa using this
theorem CodecBack_spec {w0 : World} {h : Hp} {v : Value} {os : List Opt} (hx : ExtSl w0 3 v os.length (os.flatMap Opt.e)) (hok : ∀ o, o ∈ os → o.n < 18446744073709551616) (hb : (os.map dOp.b).sum ≤ 1048576) :
    ACalls prog w0 n_deduplaw02_CodecBack [v] h fun v h' => v = .bool true := by
  obtain ⟨a, c, rfl, hn, hc⟩ := hx.sl
  refine ACalls.of_fit (by simp) fun f => c_deduplaw02_CodecBack (by simp) ?_
  have hsz := opsz_le os
  have hos : os.length ≤ (os.map dOp.b).sum ∧ ∀ o, o ∈ os → o.s.length ≤ (os.map dOp.b).sum := by
    clear hx hok hb hsz hn
    induction os with
    | nil => simp
    | cons o os ih =>
      simp only [List.length_cons, List.map_cons, List.sum_cons]
      have : dOp.b o = o.s.length + 1 := by simp [dOp]
      refine ⟨by omega, fun q hq => ?_⟩
      rcases List.mem_cons.1 hq with rfl | hq
      · omega
      · have := ih.2 q hq; omega
  simp only [s_deduplaw02_CodecBack]
  refine callA_of (NewWriter_spec 1073741824 (by omega)) fun v h1 ⟨e, w1, s1⟩ f1 => ?_
  subst e
  refine callA_of awake02_spec fun v h2 ⟨e, s2⟩ f2 => ?_
  subst e
  have w2 := w1.frame s2 (by simp)
  simp only [unA_not, Bool.not_true, pureA_some, guardA_ff, binPtr_ptr, pickA_false, condA_false, lenSl_slice]
  refine ⟨os.length + 1, back_loop1 hok (by omega) (fun h f => hx.src h f) os [] h2 0 _ _ _ rfl f2 w2 (by simp) (by omega) (fun h' S' f' w' hl => ?_)⟩
  refine callA_of (WDone_spec w') fun v h3 ⟨e, e1⟩ f3 => ?_
  subst e e1
  have e1 : (⟨1073741824, os.flatMap Opt.b, false⟩ : WS).out = os.flatMap Opt.b := rfl
  have e2 : (⟨1073741824, os.flatMap Opt.b, false⟩ : WS).err = 0 := rfl
  rw [e1, e2]
  simp only [extA_tuple, pureA_some]
  simp
  refine callA_of (NewReader_spec (os.flatMap Opt.b) (by omega)) fun v h4 ⟨e, w4, s4⟩ f4 => ?_
  subst e
  simp only [binA_neq, bne_self_eq_false, pureA_some, guardA_ff, binPtr_ptr, pickA_false, condA_false, lenSl_slice]
  refine ⟨os.length + 1, back_loop2 (fun o ho => ⟨hok o ho, by have := hos.2 o ho; omega⟩) (by omega) (fun h f => hx.src h f) os [] h4 rfl f4 w4 (fun x h5 f5 w5 => ?_) _⟩
  refine callA_of (RLeft_spec w5) fun v h6 ⟨e, e1⟩ f6 => ?_
  subst e e1
  simp only [binA_eql, RS.left, pureA_some]
  simp
  refine callA_of (RDone_spec w5) fun v h6 ⟨e, e1⟩ f6 => ?_
  subst e e1
  simp [RS.done]
end Go.Proofs.Ytilofpnhpeammaa.Ah
