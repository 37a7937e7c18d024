/- dedupref07.Writer: Append, Take, Fork. -/
import Derived.Test.YtiakadkooclelaaJy
set_option linter.unusedVariables false
set_option linter.unusedSimpArgs false
namespace Go.Proofs.Ytiakadkooclelaa.Ah
open Go

section
variable {w0 : World} {p : Nat}
theorem xappend_loop {k0 : Value → Hp → Prop} {all : List UInt8} {x5 : Value} {SX : List Nat} (hal : all.length ≤ 1000000) : ∀ (post pre : List UInt8) (st : JS) (h : Hp) (S : List Nat), pre ++ post = all → Jw w0 h p st S → (512 ≤ st.size ∧ st.size ≤ 4096) → GV w0 h 1 x5 all.length (bvs all) SX → (∀ c, c ∈ SX → c ∉ S) → Good st.room st.taken st.rooms →
    (pushAll st.room st.taken st.rooms post).length ≤ 1000000 →
    (∀ h' S', Jw w0 h' p { st with rooms := pushAll st.room st.taken st.rooms post } S' → Step h h' S S' → k0 (ptr p) h') →
    dedupref07_Writer_Append_L1 prog w0 k0 (post.length + 1) (ptr p) x5 (.int .i64 (pre.length : Int)) h := by
  intro post
  induction post with
  | nil =>
    intro pre st h S he w hsz v5 hd g hN hk
    have hpre : pre = all := by simpa using he
    obtain ⟨a5, c5, rfl⟩ := v5.slice
    rw [dedupref07_Writer_Append_L1]
    simp only [dedupref07_Writer_Append_B1, lenSl_slice, lenStr_string, str_size, fpureA_some, fnilA_ptr, faddA_ptr, addr_add, Nat.zero_add, Nat.add_zero, fpureQ_k, fpureQ_nilA, fpureQ_addA, fpureQ_pureA, fpureQ_guardA, fpureQ_idxSlA, fpureQ_pickA, freadQ_loadA, freadQ_loadNA, freadQ_b2sA, freadQ_guardA, freadQ_slSlA, freadQ_k, fendA, fallA_one, fstillA_nil, fguardA_tt, fguardA_ff, fguardA_tf, fguardA_ft, fguardA_undef, fpickA_true, fpickA_false, fcondA_true, fcondA_false, binA_add, binA_sub, binA_mul, binA_eql, binA_neq, binA_lss, binA_leq, binA_gtr, binA_geq, unA_not, Bool.not_true, Bool.not_false, convA_int, extA_tuple, List.getElem?_toArray, List.getElem?_cons_zero, List.getElem?_cons_succ, hpre, Int.lt_irrefl, decide_false]
    exact hk h S w w.refl
  | cons b post ih =>
    intro pre st h S he w hsz v5 hd g hN hk
    have hml := pushAll_len (room := st.room) (taken := st.taken) (b :: post) st.rooms
    refine push_step (b := b) w hsz g.1 g.2.1 (by omega) v5 (by rw [← he]; simp) hal hd fun h' S' w' v' d' s' => ?_
    have hr : 0 < st.room := by unfold JS.room; omega
    obtain ⟨g', -⟩ := good_push (b := b) hr g
    have := ih (pre ++ [b]) { st with rooms := pushB st.room st.taken st.rooms b } h' S' (by simpa using he) w' hsz v' d' g' hN (fun h2 S2 w2 s2 => hk h2 S2 w2 (s'.trans s2))
    simpa using this
theorem xAppend_spec {h : Hp} {st : JS} {S : List Nat} (w : Jw w0 h p st S) (o : st.Ok) (l : List UInt8) (hl : l.length ≤ 1000000000) :
    ACalls prog w0 n_dedupref07_Writer_Append [ptr p, .string (str l)] h fun v h' => v = .int .i64 (st.append l).1 ∧ ∃ S', Jw w0 h' p (st.append l).2 S' ∧ Step h h' S S' := by
  refine ACalls.of_fit (by simp [ptr]) fun f => c_dedupref07_Writer_Append (by simp [ptr]) ?_
  simp only [s_dedupref07_Writer_Append, lenSl_slice, lenStr_string, str_size, fpureA_some, fnilA_ptr, faddA_ptr, addr_add, Nat.zero_add, Nat.add_zero, fpureQ_k, fpureQ_nilA, fpureQ_addA, fpureQ_pureA, fpureQ_guardA, fpureQ_idxSlA, fpureQ_pickA, freadQ_loadA, freadQ_loadNA, freadQ_b2sA, freadQ_guardA, freadQ_slSlA, freadQ_k, fendA, fallA_one, fstillA_nil, fguardA_tt, fguardA_ff, fguardA_tf, fguardA_ft, fguardA_undef, fpickA_true, fpickA_false, fcondA_true, fcondA_false, binA_add, binA_sub, binA_mul, binA_eql, binA_neq, binA_lss, binA_leq, binA_gtr, binA_geq, unA_not, Bool.not_true, Bool.not_false, convA_int, extA_tuple, List.getElem?_toArray, List.getElem?_cons_zero, List.getElem?_cons_succ]
  by_cases h1 : 65536 < l.length
  · have c1 : decide ((65536 : Int) < (l.length : Int)) = true := decide_eq_true (by omega)
    have ha : st.append l = (3, st) := by simp [JS.append, h1]
    simp only [c1, fcondA_true, retA_iff, oneOf_one, ha]
    exact ⟨by simp, by trivial, S, w, w.refl⟩
  have c1 : decide ((65536 : Int) < (l.length : Int)) = false := decide_eq_false (by omega)
  have e1 : IntKind.i64.wrap (4 + (l.length : Int)) = (l.length : Int) + 4 := by rw [IntWalk.i64_in _ (by omega)]; omega
  simp only [lenSl_slice, lenStr_string, str_size, fpureA_some, fnilA_ptr, faddA_ptr, addr_add, Nat.zero_add, Nat.add_zero, fpureQ_k, fpureQ_nilA, fpureQ_addA, fpureQ_pureA, fpureQ_guardA, fpureQ_idxSlA, fpureQ_pickA, freadQ_loadA, freadQ_loadNA, freadQ_b2sA, freadQ_guardA, freadQ_slSlA, freadQ_k, fendA, fallA_one, fstillA_nil, fguardA_tt, fguardA_ff, fguardA_tf, fguardA_ft, fguardA_undef, fpickA_true, fpickA_false, fcondA_true, fcondA_false, binA_add, binA_sub, binA_mul, binA_eql, binA_neq, binA_lss, binA_leq, binA_gtr, binA_geq, unA_not, Bool.not_true, Bool.not_false, convA_int, extA_tuple, List.getElem?_toArray, List.getElem?_cons_zero, List.getElem?_cons_succ, c1, e1]
  refine callA_of (xfree_spec w o) fun v h2 ⟨e, e1⟩ f2 => ?_
  subst e e1
  by_cases h2' : st.free < l.length + 4
  · have c2 : decide (st.free < (l.length : Int) + 4) = true := decide_eq_true h2'
    have ha : st.append l = (2, st) := by simp [JS.append, h1, h2']
    simp only [lenSl_slice, lenStr_string, str_size, fpureA_some, fnilA_ptr, faddA_ptr, addr_add, Nat.zero_add, Nat.add_zero, fpureQ_k, fpureQ_nilA, fpureQ_addA, fpureQ_pureA, fpureQ_guardA, fpureQ_idxSlA, fpureQ_pickA, freadQ_loadA, freadQ_loadNA, freadQ_b2sA, freadQ_guardA, freadQ_slSlA, freadQ_k, fendA, fallA_one, fstillA_nil, fguardA_tt, fguardA_ff, fguardA_tf, fguardA_ft, fguardA_undef, fpickA_true, fpickA_false, fcondA_true, fcondA_false, binA_add, binA_sub, binA_mul, binA_eql, binA_neq, binA_lss, binA_leq, binA_gtr, binA_geq, unA_not, Bool.not_true, Bool.not_false, convA_int, extA_tuple, List.getElem?_toArray, List.getElem?_cons_zero, List.getElem?_cons_succ, c2, retA_iff, oneOf_one, ha]
    exact ⟨by simp, by trivial, S, w, w.refl⟩
  have c2 : decide (st.free < (l.length : Int) + 4) = false := decide_eq_false h2'
  have ha : st.append l = (0, { st with rooms := pushAll st.room st.taken st.rooms (be 4 l.length ++ l), cnt := IntKind.i64.wrap (st.cnt + 1) }) := by simp [JS.append, h1, h2']
  have hok := o.append l
  rw [ha] at hok ⊢
  have e2 : IntKind.u64.wrap (l.length : Int) = l.length := IntWalk.u64_in _ (by omega)
  simp only [lenSl_slice, lenStr_string, str_size, fpureA_some, fnilA_ptr, faddA_ptr, addr_add, Nat.zero_add, Nat.add_zero, fpureQ_k, fpureQ_nilA, fpureQ_addA, fpureQ_pureA, fpureQ_guardA, fpureQ_idxSlA, fpureQ_pickA, freadQ_loadA, freadQ_loadNA, freadQ_b2sA, freadQ_guardA, freadQ_slSlA, freadQ_k, fendA, fallA_one, fstillA_nil, fguardA_tt, fguardA_ff, fguardA_tf, fguardA_ft, fguardA_undef, fpickA_true, fpickA_false, fcondA_true, fcondA_false, binA_add, binA_sub, binA_mul, binA_eql, binA_neq, binA_lss, binA_leq, binA_gtr, binA_geq, unA_not, Bool.not_true, Bool.not_false, convA_int, extA_tuple, List.getElem?_toArray, List.getElem?_cons_zero, List.getElem?_cons_succ, c2, e2]
  refine callA_of (high_spec l.length 4 (by omega) (by omega)) fun v h3 ⟨S3, g3, s3⟩ f3 => ?_
  have w3 := w.frame s3 (by simp)
  refine appA_gv f3.base g3 (m := l.length) (ys := bvs l) (by simp) (by have := src_string (h := h3) w0.heap.size (str l); simpa using this) (by simp) (by omega) (by omega) (by omega) fun x5 h4 S4 v4 s4 => ?_
  have hS3 : ∀ b, b ∈ S3 → h2.next ≤ b := fun b hb => by
    rcases (s3.own b hb).2 with e | e
    · simp at e
    · exact e
  have wl := w.lt
  have w4 := w3.frame s4 (fun b hb he => by have := hS3 b he; have := (wl b hb).2; omega)
  have s34 : Step h2 h4 [] S4 := s3.trans s4
  have hS4 : ∀ b, b ∈ S4 → b ∉ S := fun b hb he => by
    rcases (s34.own b hb).2 with e | e
    · simp at e
    · have := (wl b he).2; omega
  rw [← bvs_append, show 4 + l.length = (be 4 l.length ++ l).length by simp] at v4
  have hbound := hok.len
  have hse := o.sectors
  refine ⟨(be 4 l.length ++ l).length + 1, ?_⟩
  have := xappend_loop (w0 := w0) (p := p) (all := be 4 l.length ++ l) (x5 := x5) (SX := S4) (k0 := fun y0 => nilA y0 fun v90 => addA v90 5 fun v91 => loadA w0 v91 fun v92 => pureA (binA .add v92 (.int .i64 1)) fun v93 => nilA y0 fun v94 => addA v94 5 fun v95 => storeA w0 v95 v93 fun _ => retA [(.int .i64 0)] fun v h' => v = .int .i64 0 ∧ ∃ S', Jw w0 h' p { st with rooms := pushAll st.room st.taken st.rooms (be 4 l.length ++ l), cnt := IntKind.i64.wrap (st.cnt + 1) } S' ∧ Step h2 h' S S')
    (by simp; omega) (be 4 l.length ++ l) [] st h4 S rfl w4 o.size v4 hS4 o.good (by simp only at hbound; omega) (fun h5 S5 w5 s5 => by
    obtain ⟨x, T, hb, hB, hlt, vv, hp, rfl⟩ := w5
    simp only [ptr, lenSl_slice, lenStr_string, str_size, fpureA_some, fnilA_ptr, faddA_ptr, addr_add, Nat.zero_add, Nat.add_zero, fpureQ_k, fpureQ_nilA, fpureQ_addA, fpureQ_pureA, fpureQ_guardA, fpureQ_idxSlA, fpureQ_pickA, freadQ_loadA, freadQ_loadNA, freadQ_b2sA, freadQ_guardA, freadQ_slSlA, freadQ_k, fendA, fallA_one, fstillA_nil, fguardA_tt, fguardA_ff, fguardA_tf, fguardA_ft, fguardA_undef, fpickA_true, fpickA_false, fcondA_true, fcondA_false, binA_add, binA_sub, binA_mul, binA_eql, binA_neq, binA_lss, binA_leq, binA_gtr, binA_geq, unA_not, Bool.not_true, Bool.not_false, convA_int, extA_tuple, List.getElem?_toArray, List.getElem?_cons_zero, List.getElem?_cons_succ]
    refine loadA_at hB hb (by rfl) ?_
    simp only [lenSl_slice, lenStr_string, str_size, fpureA_some, fnilA_ptr, faddA_ptr, addr_add, Nat.zero_add, Nat.add_zero, fpureQ_k, fpureQ_nilA, fpureQ_addA, fpureQ_pureA, fpureQ_guardA, fpureQ_idxSlA, fpureQ_pickA, freadQ_loadA, freadQ_loadNA, freadQ_b2sA, freadQ_guardA, freadQ_slSlA, freadQ_k, fendA, fallA_one, fstillA_nil, fguardA_tt, fguardA_ff, fguardA_tf, fguardA_ft, fguardA_undef, fpickA_true, fpickA_false, fcondA_true, fcondA_false, binA_add, binA_sub, binA_mul, binA_eql, binA_neq, binA_lss, binA_leq, binA_gtr, binA_geq, unA_not, Bool.not_true, Bool.not_false, convA_int, extA_tuple, List.getElem?_toArray, List.getElem?_cons_zero, List.getElem?_cons_succ]
    refine storeA_at hB hb (by simp) rfl ?_
    simp only [retA_iff, oneOf_one]
    refine ⟨by simp, by trivial, p :: T, ⟨x, T, by simp, hB, by simpa using hlt, vv.put hp _, hp, rfl⟩, ?_⟩
    exact (((s34.wide (T := S) (T' := S) (by simp) (fun b hb => .inr ⟨hb, (wl b hb).2⟩)).trans s5).put (by simp) _))
  exact this

theorem xtake_loop {k0 : Value → Value → Hp → Prop} {st : JS} {x : Value} {vs : List Value} {U S0 : List Nat} (o : st.Ok) : ∀ (post pre : List (List UInt8)) (h : Hp) (x3 : Value) (SO : List Nat), pre ++ post = st.rooms.drop st.taken →
    h.blk p = some [.int .i64 st.size, .int .i64 st.sectors, .int .u64 st.gen, x, .int .i64 st.taken, .int .i64 st.cnt] → w0.heap.size ≤ p → p < h.next → Vec w0 h 1 x st.rooms.length vs U → Rows w0 h vs st.rooms S0 → SVec w0 h x3 st.taken (secList st.size st.gen st.taken pre) SO → (∀ b, b ∈ SO → b ∉ p :: (U ++ S0)) →
    (∀ h' x' SO', SVec w0 h' x' st.taken st.secs SO' → Step h h' SO SO' → k0 (ptr p) x' h') →
    dedupref07_Writer_Take_L1 prog w0 k0 (post.length + 1) (ptr p) x3 (.int .i64 ((st.taken + pre.length : Nat) : Int)) h := by
  intro post
  induction post with
  | nil =>
    intro pre h x3 SO he hb hB hlt v rr sv hd hk
    have hpre : pre = st.rooms.drop st.taken := by simpa using he
    have hta := o.good.1
    have hpl : st.taken + pre.length = st.rooms.length := by rw [hpre]; simp; omega
    obtain ⟨ax, cx, hx⟩ := v.slice
    rw [dedupref07_Writer_Take_L1]
    simp only [dedupref07_Writer_Take_B1, ptr, lenSl_slice, lenStr_string, str_size, fpureA_some, fnilA_ptr, faddA_ptr, addr_add, Nat.zero_add, Nat.add_zero, fpureQ_k, fpureQ_nilA, fpureQ_addA, fpureQ_pureA, fpureQ_guardA, fpureQ_idxSlA, fpureQ_pickA, freadQ_loadA, freadQ_loadNA, freadQ_b2sA, freadQ_guardA, freadQ_slSlA, freadQ_k, fendA, fallA_one, fstillA_nil, fguardA_tt, fguardA_ff, fguardA_tf, fguardA_ft, fguardA_undef, fpickA_true, fpickA_false, fcondA_true, fcondA_false, binA_add, binA_sub, binA_mul, binA_eql, binA_neq, binA_lss, binA_leq, binA_gtr, binA_geq, unA_not, Bool.not_true, Bool.not_false, convA_int, extA_tuple, List.getElem?_toArray, List.getElem?_cons_zero, List.getElem?_cons_succ]
    refine loadA_at hB hb (by rfl) ?_
    rw [hx]
    simp only [lenSl_slice, lenStr_string, str_size, fpureA_some, fnilA_ptr, faddA_ptr, addr_add, Nat.zero_add, Nat.add_zero, fpureQ_k, fpureQ_nilA, fpureQ_addA, fpureQ_pureA, fpureQ_guardA, fpureQ_idxSlA, fpureQ_pickA, freadQ_loadA, freadQ_loadNA, freadQ_b2sA, freadQ_guardA, freadQ_slSlA, freadQ_k, fendA, fallA_one, fstillA_nil, fguardA_tt, fguardA_ff, fguardA_tf, fguardA_ft, fguardA_undef, fpickA_true, fpickA_false, fcondA_true, fcondA_false, binA_add, binA_sub, binA_mul, binA_eql, binA_neq, binA_lss, binA_leq, binA_gtr, binA_geq, unA_not, Bool.not_true, Bool.not_false, convA_int, extA_tuple, List.getElem?_toArray, List.getElem?_cons_zero, List.getElem?_cons_succ, hpl, Int.lt_irrefl, decide_false]
    rw [hpre] at sv
    exact hk h x3 SO sv (Step.refl _ _ fun b hb => (sv.lt b hb).2)
  | cons r post ih =>
    intro pre h x3 SO he hb hB hlt v rr sv hd hk
    have hlen : st.taken + pre.length < st.rooms.length := by
      have := congrArg List.length he
      simp at this; omega
    have hle := o.len
    have hse := o.sectors
    have hta := o.good.1
    have hget : st.rooms[st.taken + pre.length]? = some r := by
      rw [← List.getElem?_drop, ← he]; simp
    obtain ⟨y, T, hy, vy, hT⟩ := rr.get hget
    have hr := o.good.2.1 r (List.mem_of_getElem? hget)
    have hvl := rr.len
    have c1 : decide (((st.taken + pre.length : Nat) : Int) < (st.rooms.length : Int)) = true := decide_eq_true (by omega)
    have e5 : IntKind.i64.wrap (((st.taken + pre.length : Nat) : Int) + 1) = ((st.taken + (pre.length + 1) : Nat) : Int) := by rw [IntWalk.i64_in _ (by omega)]; omega
    have hsx := v.src
    obtain ⟨ax, cx, hx⟩ := v.slice
    rw [hx] at hsx
    rw [List.length_cons, dedupref07_Writer_Take_L1]
    simp only [dedupref07_Writer_Take_B1, ptr, lenSl_slice, lenStr_string, str_size, fpureA_some, fnilA_ptr, faddA_ptr, addr_add, Nat.zero_add, Nat.add_zero, fpureQ_k, fpureQ_nilA, fpureQ_addA, fpureQ_pureA, fpureQ_guardA, fpureQ_idxSlA, fpureQ_pickA, freadQ_loadA, freadQ_loadNA, freadQ_b2sA, freadQ_guardA, freadQ_slSlA, freadQ_k, fendA, fallA_one, fstillA_nil, fguardA_tt, fguardA_ff, fguardA_tf, fguardA_ft, fguardA_undef, fpickA_true, fpickA_false, fcondA_true, fcondA_false, binA_add, binA_sub, binA_mul, binA_eql, binA_neq, binA_lss, binA_leq, binA_gtr, binA_geq, unA_not, Bool.not_true, Bool.not_false, convA_int, extA_tuple, List.getElem?_toArray, List.getElem?_cons_zero, List.getElem?_cons_succ]
    refine loadA_at hB hb (by rfl) ?_
    rw [hx]
    simp only [lenSl_slice, lenStr_string, str_size, fpureA_some, fnilA_ptr, faddA_ptr, addr_add, Nat.zero_add, Nat.add_zero, fpureQ_k, fpureQ_nilA, fpureQ_addA, fpureQ_pureA, fpureQ_guardA, fpureQ_idxSlA, fpureQ_pickA, freadQ_loadA, freadQ_loadNA, freadQ_b2sA, freadQ_guardA, freadQ_slSlA, freadQ_k, fendA, fallA_one, fstillA_nil, fguardA_tt, fguardA_ff, fguardA_tf, fguardA_ft, fguardA_undef, fpickA_true, fpickA_false, fcondA_true, fcondA_false, binA_add, binA_sub, binA_mul, binA_eql, binA_neq, binA_lss, binA_leq, binA_gtr, binA_geq, unA_not, Bool.not_true, Bool.not_false, convA_int, extA_tuple, List.getElem?_toArray, List.getElem?_cons_zero, List.getElem?_cons_succ, c1]
    refine loadA_at hB hb (by rfl) ?_
    refine loadA_at hB hb (by rfl) ?_
    refine loadA_at hB hb (by rfl) ?_
    rw [hx]
    refine idx_load1 hsx hvl hy ?_
    obtain ⟨ay, cy, rfl⟩ := vy.slice
    refine callA_of (Bytes_spec (gen := st.gen) o.size o.gen (by omega) (by have := hr; unfold JS.room at this; exact this) vy.src) fun v1 h1 ⟨S1, v1v, s1⟩ f1 => ?_
    have hsl := sec_length st.gen (st.taken + pre.length) (size := st.size) (r := r) (by have := o.size; omega) hr
    have sv1 := sv.frame s1 (by simp)
    have hel : st.taken + (secList st.size st.gen st.taken pre).length = st.taken + pre.length := by simp
    have v1v' : Vec w0 h1 1 v1 (sec st.size st.gen (st.taken + pre.length) r).length (bvs (sec st.size st.gen (st.taken + pre.length) r)) S1 := by rw [hsl]; exact v1v
    have hse1 := sec_elem (k := st.taken) (r := sec st.size st.gen (st.taken + pre.length) r) (K := fun v46 => dedupref07_Writer_Take_L1 prog w0 k0 (post.length + 1) (ptr p) v46 (.int .i64 (IntKind.i64.wrap (((st.taken + pre.length : Nat) : Int) + 1)))) f1.base sv1 v1v' (fun b hb1 hb2 => by
      rcases (s1.own b hb1).2 with e | e
      · simp at e
      · have := (sv.lt b hb2).2; omega) (by simp; omega) (fun x' h' S' v' st' => by
      rw [e5]
      have s12 : Step h h' SO S' := (s1.wide (T := SO) (T' := SO ++ S1) (by simp) (fun b hb => by
        rcases List.mem_append.1 hb with e | e
        · exact .inr ⟨e, (sv.lt b e).2⟩
        · exact .inl e)).trans st'
      have hpSO : p ∉ SO := fun e => hd p e (by simp)
      have hb' : h'.blk p = _ := (s12.keep p hlt hpSO).1.trans hb
      have := ih (pre ++ [r]) h' x' S' (by simpa using he) hb' hB (by have := s12.next; omega) (v.frame s12 fun b hb he => hd b he (by simp [hb])) (rr.frame s12 fun b hb he => hd b he (by simp [hb])) (by rw [secList_snoc]; exact v') (fun b hb he => by
        rcases (s12.own b hb).2 with g | g
        · exact hd b g he
        · have : b < h.next := by
            rcases List.mem_cons.1 he with rfl | he
            · exact hlt
            · rcases List.mem_append.1 he with he | he
              · exact (v.lt b he).2
              · exact (rr.lt b he).2
          omega) (fun h2 x2 S2 v2 s2 => hk h2 x2 S2 v2 (s12.trans s2))
      simpa using this)
    rw [hel] at hse1
    exact hse1
theorem xTake_spec {h : Hp} {st : JS} {S : List Nat} (w : Jw w0 h p st S) (o : st.Ok) :
    ACalls prog w0 n_dedupref07_Writer_Take [ptr p] h fun v h' => ∃ SO, Jw w0 h' p st.take S ∧ SVec w0 h' v st.taken st.secs SO ∧ (∀ b, b ∈ SO → h.next ≤ b) ∧ Step h h' S (SO ++ S) := by
  refine ACalls.of_fit (by simp [ptr]) fun f => c_dedupref07_Writer_Take (by simp [ptr]) ?_
  have wr := w.refl
  obtain ⟨x, T, hb, hB, hlt, vv, hp, rfl⟩ := w
  obtain ⟨vs, U, S0, v, rr, d, rfl⟩ := vv
  simp only [s_dedupref07_Writer_Take, ptr, lenSl_slice, lenStr_string, str_size, fpureA_some, fnilA_ptr, faddA_ptr, addr_add, Nat.zero_add, Nat.add_zero, fpureQ_k, fpureQ_nilA, fpureQ_addA, fpureQ_pureA, fpureQ_guardA, fpureQ_idxSlA, fpureQ_pickA, freadQ_loadA, freadQ_loadNA, freadQ_b2sA, freadQ_guardA, freadQ_slSlA, freadQ_k, fendA, fallA_one, fstillA_nil, fguardA_tt, fguardA_ff, fguardA_tf, fguardA_ft, fguardA_undef, fpickA_true, fpickA_false, fcondA_true, fcondA_false, binA_add, binA_sub, binA_mul, binA_eql, binA_neq, binA_lss, binA_leq, binA_gtr, binA_geq, unA_not, Bool.not_true, Bool.not_false, convA_int, extA_tuple, List.getElem?_toArray, List.getElem?_cons_zero, List.getElem?_cons_succ]
  refine loadA_at hB hb (by rfl) ?_
  have hl : (st.rooms.drop st.taken).length = st.rooms.length - st.taken := by simp
  refine ⟨(st.rooms.drop st.taken).length + 1, ?_⟩
  refine xtake_loop o (st.rooms.drop st.taken) [] h _ [] rfl hb hB hlt v rr (SVec.nil _) (by simp) fun h2 x2 SO v2 s2 => ?_
  simp only [ptr, lenSl_slice, lenStr_string, str_size, fpureA_some, fnilA_ptr, faddA_ptr, addr_add, Nat.zero_add, Nat.add_zero, fpureQ_k, fpureQ_nilA, fpureQ_addA, fpureQ_pureA, fpureQ_guardA, fpureQ_idxSlA, fpureQ_pickA, freadQ_loadA, freadQ_loadNA, freadQ_b2sA, freadQ_guardA, freadQ_slSlA, freadQ_k, fendA, fallA_one, fstillA_nil, fguardA_tt, fguardA_ff, fguardA_tf, fguardA_ft, fguardA_undef, fpickA_true, fpickA_false, fcondA_true, fcondA_false, binA_add, binA_sub, binA_mul, binA_eql, binA_neq, binA_lss, binA_leq, binA_gtr, binA_geq, unA_not, Bool.not_true, Bool.not_false, convA_int, extA_tuple, List.getElem?_toArray, List.getElem?_cons_zero, List.getElem?_cons_succ]
  have hb2 : h2.blk p = _ := (s2.keep p hlt (by simp)).1.trans hb
  refine loadA_at hB hb2 (by rfl) ?_
  obtain ⟨ax, cx, hx⟩ := v.slice
  rw [hx]
  simp only [lenSl_slice, lenStr_string, str_size, fpureA_some, fnilA_ptr, faddA_ptr, addr_add, Nat.zero_add, Nat.add_zero, fpureQ_k, fpureQ_nilA, fpureQ_addA, fpureQ_pureA, fpureQ_guardA, fpureQ_idxSlA, fpureQ_pickA, freadQ_loadA, freadQ_loadNA, freadQ_b2sA, freadQ_guardA, freadQ_slSlA, freadQ_k, fendA, fallA_one, fstillA_nil, fguardA_tt, fguardA_ff, fguardA_tf, fguardA_ft, fguardA_undef, fpickA_true, fpickA_false, fcondA_true, fcondA_false, binA_add, binA_sub, binA_mul, binA_eql, binA_neq, binA_lss, binA_leq, binA_gtr, binA_geq, unA_not, Bool.not_true, Bool.not_false, convA_int, extA_tuple, List.getElem?_toArray, List.getElem?_cons_zero, List.getElem?_cons_succ]
  rw [storeA_own]
  refine ⟨_, hB, hb2, by simp, rfl, ?_⟩
  obtain ⟨a2, c2, hx2⟩ := v2.slice
  have hSO : ∀ b, b ∈ SO → h.next ≤ b := fun b hb => by
    rcases (s2.own b hb).2 with e | e
    · simp at e
    · exact e
  simp only [retA_iff, oneOf_one]
  refine ⟨by rw [hx2]; simp, SO, ⟨x, U ++ S0, ?_, hB, by have := s2.next; simp; omega, ⟨vs, U, S0, ?_, ?_, d, rfl⟩, hp, rfl⟩, ?_, hSO, ?_⟩
  · simp [JS.take]
  · exact (v.frame s2 (by simp)).put (fun e => hp (by simp [e])) _
  · exact (rr.frame s2 (by simp)).put (fun e => hp (by simp [e])) _
  · obtain ⟨vs2, U2, S2, g1, g2, g3, g4⟩ := v2
    have hpSO : p ∉ SO := fun e => by have := hSO p e; omega
    rw [g4] at hpSO
    exact ⟨vs2, U2, S2, g1.put (fun e => hpSO (by simp [e])) _, g2.put (fun e => hpSO (by simp [e])) _, g3, g4⟩
  · refine (s2.wide (T := p :: (U ++ S0)) (T' := SO ++ (p :: (U ++ S0))) (by simp) (fun b hb => ?_)).put (by simp) _
    rcases List.mem_append.1 hb with e | e
    · exact .inl e
    · exact .inr ⟨e, wr.own b e |>.1⟩

theorem xfork_loop {k0 : Value → Hp → Prop} {q : Nat} {st : JS} {x : Value} {vs : List Value} {U S0 : List Nat} (o : st.Ok) (hpq : p ≠ q) : ∀ (post pre : List (List UInt8)) (h : Hp) (SQ : List Nat), pre ++ post = st.rooms →
    h.blk p = some [.int .i64 st.size, .int .i64 st.sectors, .int .u64 st.gen, x, .int .i64 st.taken, .int .i64 st.cnt] → w0.heap.size ≤ p → p < h.next → Vec w0 h 1 x st.rooms.length vs U → Rows w0 h vs st.rooms S0 → Jw w0 h q { st with rooms := pre } SQ → (∀ b, b ∈ SQ → b ∉ p :: (U ++ S0)) →
    (∀ h' SQ', Jw w0 h' q st SQ' → Step h h' SQ SQ' → k0 (ptr q) h') →
    dedupref07_Writer_Fork_L1 prog w0 k0 (post.length + 1) (ptr p) (ptr q) (.int .i64 (pre.length : Int)) h := by
  intro post
  induction post with
  | nil =>
    intro pre h SQ he hb hB hlt v rr w hd hk
    have hpre : pre = st.rooms := by simpa using he
    subst hpre
    obtain ⟨ax, cx, hx⟩ := v.slice
    rw [dedupref07_Writer_Fork_L1]
    simp only [dedupref07_Writer_Fork_B1, ptr, lenSl_slice, lenStr_string, str_size, fpureA_some, fnilA_ptr, faddA_ptr, addr_add, Nat.zero_add, Nat.add_zero, fpureQ_k, fpureQ_nilA, fpureQ_addA, fpureQ_pureA, fpureQ_guardA, fpureQ_idxSlA, fpureQ_pickA, freadQ_loadA, freadQ_loadNA, freadQ_b2sA, freadQ_guardA, freadQ_slSlA, freadQ_k, fendA, fallA_one, fstillA_nil, fguardA_tt, fguardA_ff, fguardA_tf, fguardA_ft, fguardA_undef, fpickA_true, fpickA_false, fcondA_true, fcondA_false, binA_add, binA_sub, binA_mul, binA_eql, binA_neq, binA_lss, binA_leq, binA_gtr, binA_geq, unA_not, Bool.not_true, Bool.not_false, convA_int, extA_tuple, List.getElem?_toArray, List.getElem?_cons_zero, List.getElem?_cons_succ]
    refine loadA_at hB hb (by rfl) ?_
    rw [hx]
    simp only [lenSl_slice, lenStr_string, str_size, fpureA_some, fnilA_ptr, faddA_ptr, addr_add, Nat.zero_add, Nat.add_zero, fpureQ_k, fpureQ_nilA, fpureQ_addA, fpureQ_pureA, fpureQ_guardA, fpureQ_idxSlA, fpureQ_pickA, freadQ_loadA, freadQ_loadNA, freadQ_b2sA, freadQ_guardA, freadQ_slSlA, freadQ_k, fendA, fallA_one, fstillA_nil, fguardA_tt, fguardA_ff, fguardA_tf, fguardA_ft, fguardA_undef, fpickA_true, fpickA_false, fcondA_true, fcondA_false, binA_add, binA_sub, binA_mul, binA_eql, binA_neq, binA_lss, binA_leq, binA_gtr, binA_geq, unA_not, Bool.not_true, Bool.not_false, convA_int, extA_tuple, List.getElem?_toArray, List.getElem?_cons_zero, List.getElem?_cons_succ, Int.lt_irrefl, decide_false]
    exact hk h SQ w w.refl
  | cons r post ih =>
    intro pre h SQ he hb hB hlt v rr w hd hk
    have hlen : pre.length + (post.length + 1) = st.rooms.length := by rw [← he]; simp
    have hle := o.len
    have hse := o.sectors
    have hget : st.rooms[pre.length]? = some r := by rw [← he]; simp
    obtain ⟨y, T, hy, vy, hT⟩ := rr.get hget
    have hr := o.good.2.1 r (List.mem_of_getElem? hget)
    have hne := o.ne r (List.mem_of_getElem? hget)
    have hro := o.room
    have hvl := rr.len
    have c1 : decide ((pre.length : Int) < (st.rooms.length : Int)) = true := decide_eq_true (by omega)
    have e5 : IntKind.i64.wrap ((pre.length : Int) + 1) = ((pre.length + 1 : Nat) : Int) := by rw [IntWalk.i64_in _ (by omega)]; simp
    rcases v with ⟨-, e, -⟩ | ⟨b0, rfl, rfl, hb0B, hb0l, hb0, hb0e, hb0n⟩
    · omega
    have v : Vec w0 h 1 (.slice (some ⟨b0, 0, none⟩) st.rooms.length ucap) st.rooms.length vs [b0] := .inr ⟨b0, rfl, rfl, hb0B, hb0l, hb0, hb0e, hb0n⟩
    have wl := w.lt
    obtain ⟨x0, hbq, hBq, hltq⟩ : ∃ x0, h.blk q = some [.int .i64 st.size, .int .i64 st.sectors, .int .u64 st.gen, x0, .int .i64 st.taken, .int .i64 st.cnt] ∧ w0.heap.size ≤ q ∧ q < h.next := by
      obtain ⟨x0, U0, g1, g2, g3, -⟩ := w
      exact ⟨x0, g1, g2, g3⟩
    have hlt0 : ∀ b, b ∈ T → b < h.next := fun b hb => (vy.lt b hb).2
    rw [List.length_cons, dedupref07_Writer_Fork_L1]
    simp only [dedupref07_Writer_Fork_B1, ptr, lenSl_slice, lenStr_string, str_size, fpureA_some, fnilA_ptr, faddA_ptr, addr_add, Nat.zero_add, Nat.add_zero, fpureQ_k, fpureQ_nilA, fpureQ_addA, fpureQ_pureA, fpureQ_guardA, fpureQ_idxSlA, fpureQ_pickA, freadQ_loadA, freadQ_loadNA, freadQ_b2sA, freadQ_guardA, freadQ_slSlA, freadQ_k, fendA, fallA_one, fstillA_nil, fguardA_tt, fguardA_ff, fguardA_tf, fguardA_ft, fguardA_undef, fpickA_true, fpickA_false, fcondA_true, fcondA_false, binA_add, binA_sub, binA_mul, binA_eql, binA_neq, binA_lss, binA_leq, binA_gtr, binA_geq, unA_not, Bool.not_true, Bool.not_false, convA_int, extA_tuple, List.getElem?_toArray, List.getElem?_cons_zero, List.getElem?_cons_succ]
    refine loadA_at hB hb (by rfl) ?_
    simp only [lenSl_slice, lenStr_string, str_size, fpureA_some, fnilA_ptr, faddA_ptr, addr_add, Nat.zero_add, Nat.add_zero, fpureQ_k, fpureQ_nilA, fpureQ_addA, fpureQ_pureA, fpureQ_guardA, fpureQ_idxSlA, fpureQ_pickA, freadQ_loadA, freadQ_loadNA, freadQ_b2sA, freadQ_guardA, freadQ_slSlA, freadQ_k, fendA, fallA_one, fstillA_nil, fguardA_tt, fguardA_ff, fguardA_tf, fguardA_ft, fguardA_undef, fpickA_true, fpickA_false, fcondA_true, fcondA_false, binA_add, binA_sub, binA_mul, binA_eql, binA_neq, binA_lss, binA_leq, binA_gtr, binA_geq, unA_not, Bool.not_true, Bool.not_false, convA_int, extA_tuple, List.getElem?_toArray, List.getElem?_cons_zero, List.getElem?_cons_succ, c1]
    refine loadA_at hBq hbq (by rfl) ?_
    refine loadA_at hB hb (by rfl) ?_
    refine idxSlA_own (by omega) ?_
    refine loadA_at hb0B hb0 hy ?_
    obtain ⟨ay, cy, hyv⟩ := vy.slice
    -- the bytes, into a vector of their own
    have hemp : ∀ {K : Kont}, (∀ x' h' S', Vec w0 h' 1 x' r.length (bvs r) S' → Step h h' [] S' → K x' h') → bslA [] (zerosL [(.int .u8 0)] 0) 0 1 (fun v20 => stillA [(sameQ (loadA w0 (.pointer (some ⟨b0, pre.length, none⟩))) y), (sameQ (loadA w0 (.pointer (some ⟨p, 3, none⟩))) (.slice (some ⟨b0, 0, none⟩) st.rooms.length ucap)), (sameQ (loadA w0 (.pointer (some ⟨q, 3, none⟩))) x0)] (appA w0 1 1 v20 y K)) h := by
      intro K hK
      simp only [bslA_iff, fillA_nil, stillA_iff, allA_cons, allA_one, sameQ_loadA]
      have s1 := (Step.refl h [] (by simp)).new (zerosL [(.int .u8 0 : Value)] 0) 1
      refine ⟨⟨loadA_at hb0B ((s1.keep b0 hb0l (by simp)).1.trans hb0) hy rfl, loadA_at hB ((s1.keep p hlt (by simp)).1.trans hb) (by rfl) rfl, loadA_at hBq ((s1.keep q hltq (by simp)).1.trans hbq) (by rfl) rfl⟩, ?_⟩
      have := app_empty (w0 := w0) (h := h) (r := r) (y := y) (K := K) (by omega) hne (by omega) (by rw [hyv]; simp) vy.src (by
        rw [hyv]
        intro b hb
        rcases vy with ⟨e, e1, -⟩ | ⟨c0, e, e2, -, hl0, -⟩
        · rw [hyv] at e; simp at e; rw [e.1] at hb; simp [sblk] at hb
        · rw [hyv] at e; simp at e; rw [e.1] at hb; simp [sblk] at hb; omega) hK
      simpa only [bslA_iff, fillA_nil] using this
    refine hemp fun v1 h1 T1 v1v s1 => ?_
    have hbq1 : h1.blk q = _ := (s1.keep q hltq (by simp)).1.trans hbq
    simp only [stillA_iff, allA_one, sameQ_loadA]
    refine ⟨loadA_at hBq hbq1 (by rfl) rfl, ?_⟩
    have hT1 : ∀ b, b ∈ T1 → h.next ≤ b := fun b hb => by
      rcases (s1.own b hb).2 with e | e
      · simp at e
      · exact e
    obtain ⟨x2, hb2, hgo⟩ := fork_put (K := fun h' => dedupref07_Writer_Fork_L1 prog w0 k0 (post.length + 1) (.pointer (some ⟨p, 0, none⟩)) (.pointer (some ⟨q, 0, none⟩)) (.int .i64 (IntKind.i64.wrap ((pre.length : Int) + 1))) h') (w.frame s1 (by simp)) v1v (fun b hb he => by have := hT1 b hb; have := (wl b he).2; omega) (by simp only; omega) (fun h' S' w' st' => by
      rw [e5]
      have s12 : Step h h' SQ S' := (s1.wide (T := SQ) (T' := SQ ++ T1) (by simp) (fun b hb => by
        rcases List.mem_append.1 hb with e | e
        · exact .inr ⟨e, (wl b e).2⟩
        · exact .inl e)).trans st'
      have hpSQ : p ∉ SQ := fun e => hd p e (by simp)
      have hb' : h'.blk p = _ := (s12.keep p hlt hpSQ).1.trans hb
      have := ih (pre ++ [r]) h' S' (by simpa using he) hb' hB (by have := s12.next; omega) (v.frame s12 fun b hb he => hd b he (by simp at hb; simp [hb])) (rr.frame s12 fun b hb he => hd b he (by simp [hb])) w' (fun b hb he => by
        rcases (s12.own b hb).2 with g | g
        · exact hd b g he
        · have : b < h.next := by
            rcases List.mem_cons.1 he with rfl | he
            · exact hlt
            · rcases List.mem_append.1 he with he | he
              · exact (v.lt b he).2
              · exact (rr.lt b he).2
          omega) (fun h2 S2 w2 s2 => hk h2 S2 w2 (s12.trans s2))
      simpa [ptr] using this)
    have hxx : x2 = x0 := by
      rw [hbq1] at hb2
      simp at hb2
      exact hb2.symm
    rw [hxx] at hgo
    simpa only [stillA_iff, allA_one, sameQ_loadA] using hgo
theorem xFork_spec {h : Hp} {st : JS} {S : List Nat} (w : Jw w0 h p st S) (o : st.Ok) :
    ACalls prog w0 n_dedupref07_Writer_Fork [ptr p] h fun v h' => ∃ q S', v = ptr q ∧ Jw w0 h' q st S' ∧ (∀ b, b ∈ S' → h.next ≤ b) ∧ Step h h' [] S' := by
  refine ACalls.of_fit (by simp [ptr]) fun f => c_dedupref07_Writer_Fork (by simp [ptr]) ?_
  have wl := w.lt
  obtain ⟨x, T, hb, hB, hlt, vv, hp, rfl⟩ := w
  obtain ⟨vs, U, S0, v, rr, d, rfl⟩ := vv
  simp only [s_dedupref07_Writer_Fork, ptr, lenSl_slice, lenStr_string, str_size, fpureA_some, fnilA_ptr, faddA_ptr, addr_add, Nat.zero_add, Nat.add_zero, fpureQ_k, fpureQ_nilA, fpureQ_addA, fpureQ_pureA, fpureQ_guardA, fpureQ_idxSlA, fpureQ_pickA, freadQ_loadA, freadQ_loadNA, freadQ_b2sA, freadQ_guardA, freadQ_slSlA, freadQ_k, fendA, fallA_one, fstillA_nil, fguardA_tt, fguardA_ff, fguardA_tf, fguardA_ft, fguardA_undef, fpickA_true, fpickA_false, fcondA_true, fcondA_false, binA_add, binA_sub, binA_mul, binA_eql, binA_neq, binA_lss, binA_leq, binA_gtr, binA_geq, unA_not, Bool.not_true, Bool.not_false, convA_int, extA_tuple, List.getElem?_toArray, List.getElem?_cons_zero, List.getElem?_cons_succ]
  refine loadNA_whole hB hb (by rfl) ?_
  refine box_new (e := [.int .i64 st.size, .int .i64 st.sectors, .int .u64 st.gen, x, .int .i64 st.taken, .int .i64 st.cnt]) f.base rfl rfl (by simp) ?_
  simp only [lenSl_slice, lenStr_string, str_size, fpureA_some, fnilA_ptr, faddA_ptr, addr_add, Nat.zero_add, Nat.add_zero, fpureQ_k, fpureQ_nilA, fpureQ_addA, fpureQ_pureA, fpureQ_guardA, fpureQ_idxSlA, fpureQ_pickA, freadQ_loadA, freadQ_loadNA, freadQ_b2sA, freadQ_guardA, freadQ_slSlA, freadQ_k, fendA, fallA_one, fstillA_nil, fguardA_tt, fguardA_ff, fguardA_tf, fguardA_ft, fguardA_undef, fpickA_true, fpickA_false, fcondA_true, fcondA_false, binA_add, binA_sub, binA_mul, binA_eql, binA_neq, binA_lss, binA_leq, binA_gtr, binA_geq, unA_not, Bool.not_true, Bool.not_false, convA_int, extA_tuple, List.getElem?_toArray, List.getElem?_cons_zero, List.getElem?_cons_succ]
  refine storeA_at (cs := [.int .i64 st.size, .int .i64 st.sectors, .int .u64 st.gen, x, .int .i64 st.taken, .int .i64 st.cnt]) f.base (by simp) (by simp) rfl ?_
  have s1 : Step h ((h.new [.int .i64 st.size, .int .i64 st.sectors, .int .u64 st.gen, x, .int .i64 st.taken, .int .i64 st.cnt] 6).put h.next [.int .i64 st.size, .int .i64 st.sectors, .int .u64 st.gen, .slice none 0 0, .int .i64 st.taken, .int .i64 st.cnt]) [] [h.next] := ((Step.refl h [] (by simp)).new _ _).put (by simp) _
  have hb1 := (s1.keep p hlt (by simp)).1.trans hb
  refine ⟨st.rooms.length + 1, xfork_loop o (by omega) st.rooms [] _ [h.next] rfl hb1 hB (by simp; omega) (v.frame s1 (by simp)) (rr.frame s1 (by simp)) ⟨.slice none 0 0, [], by simp, f.base, by simp, .nil, by simp, rfl⟩ (fun b hb he => ?_) (fun h2 SQ w2 s2 => ?_)⟩
  · simp only [List.mem_singleton] at hb
    subst hb
    have := (wl h.next he).2
    omega
  · simp only [retA_iff, oneOf_one]
    have s12 := s1.trans s2
    refine ⟨by simp [ptr], h.next, SQ, rfl, w2, fun b hb => ?_, s12⟩
    rcases (s12.own b hb).2 with e | e
    · simp at e
    · exact e
end
end Go.Proofs.Ytiakadkooclelaa.Ah
