/- journal: what is found in bytes. -/
import Derived.Test.YtiakadkooclelaaJl
import Derived.Test.YtiakadkooclelaaAh30
set_option linter.unusedVariables false
set_option linter.unusedSimpArgs false
namespace Go.Proofs.Ytiakadkooclelaa.Ah
open Go
section
variable {w0 : World} {h : Hp}
/-! ### slices.Chunk -/
theorem chunk_loop {hh : Hp} {sb nb n cnt N : Nat} {x y : Value} {l : List UInt8} {S : List Nat} {C : Nat → Hp → List Nat → Prop} {D : Hp → List Nat → Prop} {R : Hp → Prop} (hsb : hh.blk sb = some [x]) (hnb : hh.blk nb = some [.int .i64 (n : Int)])
    (hB1 : w0.heap.size ≤ sb) (hB2 : w0.heap.size ≤ nb) (fh : Fit w0 hh) (bs : Bs w0 hh x l) (hn : 0 < n) (hl : l.length = cnt * n) (hll : l.length ≤ 1000000000) (hd : ∀ b, b ∈ S → b ∉ sb :: nb :: sblk x)
    (hstep : ∀ i v h1 S1, ((List.range cnt).map fun k => [cut3V 1 x (k * n) (k * n + n)])[i]? = some v → Fit w0 h1 → C i h1 S1 → callVA prog w0 y v (fun v h2 => ∃ S2, YStep N h1 h2 S1 S2 ∧ ((v = .bool true ∧ C (i + 1) h2 S2) ∨ (v = .bool false ∧ D h2 S2))) h1)
    (hR : ∀ h2 S2, YStep N hh h2 S S2 → (C cnt h2 S2 ∨ D h2 S2) → R h2) : ∀ (r k : Nat) (h1 : Hp) (S1 : List Nat), k + r = cnt → Fit w0 h1 → YStep N hh h1 S S1 → C k h1 S1 →
      slices_Chunk_lbyte_byte_S1_L1 prog w0 R R (r + 1) y (ptr sb) (ptr nb) (.int .i64 (k * n : Nat)) h1 := by
  intro r
  induction r with
  | zero =>
    intro k h1 S1 hk f1 ys c
    have hs1 : h1.blk sb = some [x] := by rw [(ys.keep sb (fh.lt _ _ hsb) (fun q => hd sb q (by simp))).1]; exact hsb
    obtain ⟨a, q, e⟩ := bs.slice
    have c1 : decide ((k * n : Nat) < (l.length : Int)) = false := decide_eq_false (by rw [hl, show k = cnt by omega]; omega)
    rw [slices_Chunk_lbyte_byte_S1_L1]
    simp only [slices_Chunk_lbyte_byte_S1_B1, ptr]
    refine loadA_at hB1 hs1 rfl ?_
    rw [e]
    simp only [lenSl_slice, lenStr_string, str_size, fpureA_some, fnilA_ptr, faddA_ptr, addr_add, Nat.zero_add, Nat.add_zero, fpureQ_k, fpureQ_nilA, fpureQ_addA, fpureQ_pureA, fpureQ_guardA, fpureQ_idxSlA, fpureQ_pickA, freadQ_loadA, freadQ_loadNA, freadQ_b2sA, freadQ_guardA, freadQ_slSlA, freadQ_k, fendA, fallA_one, fstillA_nil, fguardA_tt, fguardA_ff, fguardA_tf, fguardA_ft, fguardA_undef, fpickA_true, fpickA_false, fcondA_true, fcondA_false, binA_add, binA_sub, binA_mul, binA_eql, binA_neq, binA_lss, binA_leq, binA_gtr, binA_geq, unA_not, Bool.not_true, Bool.not_false, convA_int, extA_tuple, List.getElem?_toArray, List.getElem?_cons_zero, List.getElem?_cons_succ, c1]
    have : k = cnt := by omega
    subst this
    exact hR h1 S1 ys (.inl c)
  | succ r ih =>
    intro k h1 S1 hk f1 ys c
    have hs1 : h1.blk sb = some [x] := by rw [(ys.keep sb (fh.lt _ _ hsb) (fun q => hd sb q (by simp))).1]; exact hsb
    have hn1 : h1.blk nb = some [.int .i64 (n : Int)] := by rw [(ys.keep nb (fh.lt _ _ hnb) (fun q => hd nb q (by simp))).1]; exact hnb
    have bs1 : Bs w0 h1 x l := (bs.step fh ys.step (fun b hb q => hd b q (by simp [hb])) : Bs w0 (h1.as hh) x l)
    obtain ⟨a, q, e⟩ := bs.slice
    have hkn : k * n + n ≤ l.length := by rw [hl, show cnt = k + (r + 1) by omega, Nat.add_mul, Nat.add_mul]; omega
    have c1 : decide ((k * n : Nat) < (l.length : Int)) = true := decide_eq_true (by omega)
    rw [slices_Chunk_lbyte_byte_S1_L1]
    simp only [slices_Chunk_lbyte_byte_S1_B1, ptr]
    refine loadA_at hB1 hs1 rfl ?_
    rw [show lenSl x = some (.int .i64 (l.length : Int)) by rw [e]; rfl]
    simp only [lenSl_slice, lenStr_string, str_size, fpureA_some, fnilA_ptr, faddA_ptr, addr_add, Nat.zero_add, Nat.add_zero, fpureQ_k, fpureQ_nilA, fpureQ_addA, fpureQ_pureA, fpureQ_guardA, fpureQ_idxSlA, fpureQ_pickA, freadQ_loadA, freadQ_loadNA, freadQ_b2sA, freadQ_guardA, freadQ_slSlA, freadQ_k, fendA, fallA_one, fstillA_nil, fguardA_tt, fguardA_ff, fguardA_tf, fguardA_ft, fguardA_undef, fpickA_true, fpickA_false, fcondA_true, fcondA_false, binA_add, binA_sub, binA_mul, binA_eql, binA_neq, binA_lss, binA_leq, binA_gtr, binA_geq, unA_not, Bool.not_true, Bool.not_false, convA_int, extA_tuple, List.getElem?_toArray, List.getElem?_cons_zero, List.getElem?_cons_succ, c1]
    refine loadA_at hB2 hn1 rfl ?_
    refine loadA_at hB1 hs1 rfl ?_
    refine bs1.cut (lo := k * n) (hi := l.length) boundA_nat rfl (by omega) (Nat.le_refl _) fun x' e' _ b' => ?_
    obtain ⟨a', q', e2⟩ := b'.slice
    have hlen : ((l.take l.length).drop (k * n)).length = l.length - k * n := by simp
    rw [show lenSl x' = some (.int .i64 ((l.length - k * n : Nat) : Int)) by rw [e2, hlen]; rfl]
    have e3 : foldA min2A (.int .i64 (n : Int)) [.int .i64 ((l.length - k * n : Nat) : Int)] = some (.int .i64 (n : Int)) := by
      simp only [foldA, min2A, Option.bind_some]
      rw [if_neg (by omega)]
    have e4 : IntKind.i64.wrap (((k * n : Nat) : Int) + (n : Int)) = ((k * n + n : Nat) : Int) := by rw [IntWalk.i64_in _ (by omega)]; simp
    simp only [lenSl_slice, lenStr_string, str_size, fpureA_some, fnilA_ptr, faddA_ptr, addr_add, Nat.zero_add, Nat.add_zero, fpureQ_k, fpureQ_nilA, fpureQ_addA, fpureQ_pureA, fpureQ_guardA, fpureQ_idxSlA, fpureQ_pickA, freadQ_loadA, freadQ_loadNA, freadQ_b2sA, freadQ_guardA, freadQ_slSlA, freadQ_k, fendA, fallA_one, fstillA_nil, fguardA_tt, fguardA_ff, fguardA_tf, fguardA_ft, fguardA_undef, fpickA_true, fpickA_false, fcondA_true, fcondA_false, binA_add, binA_sub, binA_mul, binA_eql, binA_neq, binA_lss, binA_leq, binA_gtr, binA_geq, unA_not, Bool.not_true, Bool.not_false, convA_int, extA_tuple, List.getElem?_toArray, List.getElem?_cons_zero, List.getElem?_cons_succ, e3, e4]
    refine loadA_at hB1 hs1 rfl ?_
    refine bs1.cut3 (lo := k * n) (hi := k * n + n) boundA_nat boundA_nat boundA_nat rfl (by omega) hkn (by unfold ucap; omega) fun _ _ => ?_
    refine callVA_of (hstep k _ h1 S1 (by rw [List.getElem?_map, List.getElem?_range (by omega)]; rfl) f1 c) fun v h2 ⟨S2, ys2, hv⟩ f2 => ?_
    have ys3 := ys.trans ys2
    rcases hv with ⟨rfl, c2⟩ | ⟨rfl, d2⟩
    · simp only [lenSl_slice, lenStr_string, str_size, fpureA_some, fnilA_ptr, faddA_ptr, addr_add, Nat.zero_add, Nat.add_zero, fpureQ_k, fpureQ_nilA, fpureQ_addA, fpureQ_pureA, fpureQ_guardA, fpureQ_idxSlA, fpureQ_pickA, freadQ_loadA, freadQ_loadNA, freadQ_b2sA, freadQ_guardA, freadQ_slSlA, freadQ_k, fendA, fallA_one, fstillA_nil, fguardA_tt, fguardA_ff, fguardA_tf, fguardA_ft, fguardA_undef, fpickA_true, fpickA_false, fcondA_true, fcondA_false, binA_add, binA_sub, binA_mul, binA_eql, binA_neq, binA_lss, binA_leq, binA_gtr, binA_geq, unA_not, Bool.not_true, Bool.not_false, convA_int, extA_tuple, List.getElem?_toArray, List.getElem?_cons_zero, List.getElem?_cons_succ]
      have hn2 : h2.blk nb = some [.int .i64 (n : Int)] := by rw [(ys3.keep nb (fh.lt _ _ hnb) (fun q => hd nb q (by simp))).1]; exact hnb
      refine loadA_at hB2 hn2 rfl ?_
      simp only [lenSl_slice, lenStr_string, str_size, fpureA_some, fnilA_ptr, faddA_ptr, addr_add, Nat.zero_add, Nat.add_zero, fpureQ_k, fpureQ_nilA, fpureQ_addA, fpureQ_pureA, fpureQ_guardA, fpureQ_idxSlA, fpureQ_pickA, freadQ_loadA, freadQ_loadNA, freadQ_b2sA, freadQ_guardA, freadQ_slSlA, freadQ_k, fendA, fallA_one, fstillA_nil, fguardA_tt, fguardA_ff, fguardA_tf, fguardA_ft, fguardA_undef, fpickA_true, fpickA_false, fcondA_true, fcondA_false, binA_add, binA_sub, binA_mul, binA_eql, binA_neq, binA_lss, binA_leq, binA_gtr, binA_geq, unA_not, Bool.not_true, Bool.not_false, convA_int, extA_tuple, List.getElem?_toArray, List.getElem?_cons_zero, List.getElem?_cons_succ, e4]
      have := ih (k + 1) h2 S2 (by omega) f2 ys3 c2
      rw [Nat.add_mul, Nat.one_mul] at this
      exact this
    · simp only [lenSl_slice, lenStr_string, str_size, fpureA_some, fnilA_ptr, faddA_ptr, addr_add, Nat.zero_add, Nat.add_zero, fpureQ_k, fpureQ_nilA, fpureQ_addA, fpureQ_pureA, fpureQ_guardA, fpureQ_idxSlA, fpureQ_pickA, freadQ_loadA, freadQ_loadNA, freadQ_b2sA, freadQ_guardA, freadQ_slSlA, freadQ_k, fendA, fallA_one, fstillA_nil, fguardA_tt, fguardA_ff, fguardA_tf, fguardA_ft, fguardA_undef, fpickA_true, fpickA_false, fcondA_true, fcondA_false, binA_add, binA_sub, binA_mul, binA_eql, binA_neq, binA_lss, binA_leq, binA_gtr, binA_geq, unA_not, Bool.not_true, Bool.not_false, convA_int, extA_tuple, List.getElem?_toArray, List.getElem?_cons_zero, List.getElem?_cons_succ]
      exact hR h2 S2 ys3 (.inr d2)
theorem chunk_it {hh : Hp} {sb nb n cnt : Nat} {x : Value} {l : List UInt8} (hsb : hh.blk sb = some [x]) (hnb : hh.blk nb = some [.int .i64 (n : Int)])
    (hB1 : w0.heap.size ≤ sb) (hB2 : w0.heap.size ≤ nb) (bs : Bs w0 hh x l) (hn : 0 < n) (hl : l.length = cnt * n) (hll : l.length ≤ 1000000000) :
    ItC prog w0 (.func (.func n_slices_Chunk_lbyte_byte_S1) #[] #[ptr sb, ptr nb]) hh (sb :: nb :: sblk x) ((List.range cnt).map fun k => [cut3V 1 x (k * n) (k * n + n)]) := by
  intro y N S C D hy hN kC kD hstep h0 hd
  refine ⟨_, _, _, rfl, by kernel_rfl, ?_⟩
  refine ACalls.of_fit (by simp [ptr, hy]) fun fh => c_slices_Chunk_lbyte_byte_S1 (by simp [ptr, hy]) ?_
  simp only [s_slices_Chunk_lbyte_byte_S1]
  refine ⟨cnt + 1, ?_⟩
  have := chunk_loop (N := N) (C := C) (D := D) (R := retA [] fun _ h2 => ∃ S2, YStep N hh h2 S S2 ∧ (C ((List.range cnt).map fun k => [cut3V 1 x (k * n) (k * n + n)]).length h2 S2 ∨ D h2 S2)) hsb hnb hB1 hB2 fh bs hn hl hll hd hstep (fun h2 S2 ys k => by
    simp only [retA_iff, List.length_map, List.length_range]
    exact ⟨by simp, S2, ys, k⟩) cnt 0 hh S (by omega) fh (YStep.refl N hh S ((kC 0).lt hh S h0)) h0
  simpa using this
theorem Chunk_spec {x : Value} {n : Nat} (hn : 0 < n) (hx : x ≠ junk) (hxc : isCell x = true) : ACalls prog w0 n_slices_Chunk_lbyte_byte [x, .int .i64 (n : Int)] h fun v h' => ∃ sb nb, v = .func (.func n_slices_Chunk_lbyte_byte_S1) #[] #[ptr sb, ptr nb] ∧
    h'.blk sb = some [x] ∧ h'.blk nb = some [.int .i64 (n : Int)] ∧ h.next ≤ sb ∧ h.next ≤ nb ∧ sb < h'.next ∧ nb < h'.next ∧ Step h h' [] [] := by
  refine ACalls.of_fit (by simp [hx]) fun f => c_slices_Chunk_lbyte_byte (by simp [hx]) ?_
  simp only [s_slices_Chunk_lbyte_byte]
  have c1 : decide ((n : Int) < 1) = false := decide_eq_false (by omega)
  have hb := f.base
  refine ⟨hxc, rfl, ?_⟩
  refine loadA_at (cs := [.int .i64 (n : Int)]) (by simp; omega) (by simp) rfl ?_
  simp only [lenSl_slice, lenStr_string, str_size, fpureA_some, fnilA_ptr, faddA_ptr, addr_add, Nat.zero_add, Nat.add_zero, fpureQ_k, fpureQ_nilA, fpureQ_addA, fpureQ_pureA, fpureQ_guardA, fpureQ_idxSlA, fpureQ_pickA, freadQ_loadA, freadQ_loadNA, freadQ_b2sA, freadQ_guardA, freadQ_slSlA, freadQ_k, fendA, fallA_one, fstillA_nil, fguardA_tt, fguardA_ff, fguardA_tf, fguardA_ft, fguardA_undef, fpickA_true, fpickA_false, fcondA_true, fcondA_false, binA_add, binA_sub, binA_mul, binA_eql, binA_neq, binA_lss, binA_leq, binA_gtr, binA_geq, unA_not, Bool.not_true, Bool.not_false, convA_int, extA_tuple, List.getElem?_toArray, List.getElem?_cons_zero, List.getElem?_cons_succ, c1]
  refine ⟨by simp [ptr, junk], ?_⟩
  simp only [retA_iff, oneOf_one]
  refine ⟨by simp, h.next, h.next + 1, rfl, ?_, by simp, Nat.le_refl _, by omega, by simp; omega, by simp, (((Step.refl h [] (by simp)).new _ _).new _ _).less (by simp)⟩
  have : h.next ≠ h.next + 1 := by omega
  simp
end
/-! ### What is found -/
def jown (size : Nat) (b : List UInt8) : Option (List UInt8) :=
  if size - 24 < rdn ((b.drop 16).take 4) then none else some ((b.drop 24).take (rdn ((b.drop 16).take 4)))
def jright (size gen i : Nat) (b : List UInt8) : Option (List UInt8) :=
  match jown size b with
  | none => none
  | some own => if b = sec size gen i own then some own else none
def jat (size : Nat) (img : List UInt8) (n : Nat) : List UInt8 := (img.drop (n * size)).take size
def jgo (size gen : Nat) (img : List UInt8) : Nat → Nat → List (List UInt8)
  | 0, _ => []
  | r + 1, k => match jright size gen k (jat size img k) with
    | none => []
    | some own => own :: jgo size gen img r (k + 1)
def jfits (n : Int) (len : Nat) : Bool := jsize n && decide (len % n.toNat = 0) && decide (n.toNat ≤ len) && decide (len ≤ 4096 * n.toNat)
def jall (size gen : Nat) (img : List UInt8) : List (List UInt8) := jgo size gen img (img.length / size) 0
def recs : Nat → List UInt8 → List (List UInt8)
  | 0, _ => []
  | m + 1, b => if b.length < 4 then [] else if 65536 < rdn (b.take 4) ∨ b.length - 4 < rdn (b.take 4) then [] else (b.drop 4).take (rdn (b.take 4)) :: recs m (b.drop (4 + rdn (b.take 4)))
def svs (l : List (List UInt8)) : List Value := l.map fun t => .string (str t)
theorem rdn_lt4 {l : List UInt8} (h : l.length = 4) : rdn l < 4294967296 := by
  match l, h with
  | [a, b, c, d], _ =>
    have h1 := a.toNat_lt
    have h2 := b.toNat_lt
    have h3 := c.toNat_lt
    have h4 := d.toNat_lt
    simp only [rdn, List.foldl_cons, List.foldl_nil]
    omega
theorem jright_own {size gen i : Nat} {b own : List UInt8} (h : jright size gen i b = some own) : jown size b = some own ∧ b = sec size gen i own := by
  unfold jright at h
  split at h
  · simp at h
  · split at h
    · rename_i e1 e2
      simp at h
      subst h
      exact ⟨e1, e2⟩
    · simp at h
theorem jown_len {size : Nat} {b own : List UInt8} (h : jown size b = some own) : own.length ≤ size - 24 := by
  unfold jown at h
  split at h
  · simp at h
  · simp at h
    subst h
    simp
    omega
section
variable {w0 : World} {h : Hp}
theorem bv_ne (a b : UInt8) : binA .neq (bv a) (bv b) = some (.bool (decide (a ≠ b))) := by
  simp only [bv, binA_neq]
  congr 2
  by_cases e : a = b
  · subst e; simp
  · have : a.toNat ≠ b.toNat := fun q => e (UInt8.toNat_inj.1 q)
    rw [decide_eq_true e, bne_iff_ne]
    omega
/-! ### slices.Equal -/
theorem equalB_loop {k0 kr : Value → Hp → Prop} {a a' : Option Addr} {c c' : Nat} {l m : List UInt8} (v : Bs w0 h (.slice a l.length c) l) (w : Bs w0 h (.slice a' m.length c') m) (hlm : l.length = m.length) (hl : l.length ≤ 1000000000) :
    ∀ (post pre : List UInt8) (post' pre' : List UInt8), pre ++ post = l → pre' ++ post' = m → pre.length = pre'.length → (post = post' → k0 (.bool false) h) → (post ≠ post' → kr (.bool false) h) →
    slices_Equal_lbyte_byte_L1 prog w0 k0 kr (post.length + 1) (.slice a l.length c) (.slice a' m.length c') (.bool false) (.int .i64 (l.length : Int)) (.int .i64 (pre.length : Int)) h := by
  intro post
  induction post with
  | nil =>
    intro pre post' pre' he he' hp hk hkr
    have : pre = l := by simpa using he
    subst this
    have : post' = [] := by
      have := congrArg List.length he'
      simp at this
      exact List.eq_nil_of_length_eq_zero (by omega)
    rw [List.length_nil, slices_Equal_lbyte_byte_L1]
    simp only [slices_Equal_lbyte_byte_B1, lenSl_slice, lenStr_string, str_size, fpureA_some, fnilA_ptr, faddA_ptr, addr_add, Nat.zero_add, Nat.add_zero, fpureQ_k, fpureQ_nilA, fpureQ_addA, fpureQ_pureA, fpureQ_guardA, fpureQ_idxSlA, fpureQ_pickA, freadQ_loadA, freadQ_loadNA, freadQ_b2sA, freadQ_guardA, freadQ_slSlA, freadQ_k, fendA, fallA_one, fstillA_nil, fguardA_tt, fguardA_ff, fguardA_tf, fguardA_ft, fguardA_undef, fpickA_true, fpickA_false, fcondA_true, fcondA_false, binA_add, binA_sub, binA_mul, binA_eql, binA_neq, binA_lss, binA_leq, binA_gtr, binA_geq, unA_not, Bool.not_true, Bool.not_false, convA_int, extA_tuple, List.getElem?_toArray, List.getElem?_cons_zero, List.getElem?_cons_succ, Int.lt_irrefl, decide_false]
    exact hk this.symm
  | cons b post ih =>
    intro pre post' pre' he he' hp hk hkr
    have hlen : pre.length + (post.length + 1) = l.length := by rw [← he]; simp
    cases post' with
    | nil =>
      have := congrArg List.length he'
      simp at this
      omega
    | cons b' post' =>
      have hg : l[pre.length]? = some b := by rw [← he]; simp
      have hg' : m[pre.length]? = some b' := by rw [← he', hp]; simp
      have c1 : decide ((pre.length : Int) < (l.length : Int)) = true := decide_eq_true (by omega)
      have e6 : IntKind.i64.wrap ((pre.length : Int) + 1) = ((pre.length + 1 : Nat) : Int) := by rw [IntWalk.i64_in _ (by omega)]; simp
      rw [List.length_cons, slices_Equal_lbyte_byte_L1]
      simp only [slices_Equal_lbyte_byte_B1, lenSl_slice, lenStr_string, str_size, fpureA_some, fnilA_ptr, faddA_ptr, addr_add, Nat.zero_add, Nat.add_zero, fpureQ_k, fpureQ_nilA, fpureQ_addA, fpureQ_pureA, fpureQ_guardA, fpureQ_idxSlA, fpureQ_pickA, freadQ_loadA, freadQ_loadNA, freadQ_b2sA, freadQ_guardA, freadQ_slSlA, freadQ_k, fendA, fallA_one, fstillA_nil, fguardA_tt, fguardA_ff, fguardA_tf, fguardA_ft, fguardA_undef, fpickA_true, fpickA_false, fcondA_true, fcondA_false, binA_add, binA_sub, binA_mul, binA_eql, binA_neq, binA_lss, binA_leq, binA_gtr, binA_geq, unA_not, Bool.not_true, Bool.not_false, convA_int, extA_tuple, List.getElem?_toArray, List.getElem?_cons_zero, List.getElem?_cons_succ, c1]
      refine idx_load1 v.src (by simp) (by rw [bvs_get, hg]; rfl) ?_
      refine idx_load1 w.src (by simp) (by rw [bvs_get, hg']; rfl) ?_
      simp only [bv_ne, lenSl_slice, lenStr_string, str_size, fpureA_some, fnilA_ptr, faddA_ptr, addr_add, Nat.zero_add, Nat.add_zero, fpureQ_k, fpureQ_nilA, fpureQ_addA, fpureQ_pureA, fpureQ_guardA, fpureQ_idxSlA, fpureQ_pickA, freadQ_loadA, freadQ_loadNA, freadQ_b2sA, freadQ_guardA, freadQ_slSlA, freadQ_k, fendA, fallA_one, fstillA_nil, fguardA_tt, fguardA_ff, fguardA_tf, fguardA_ft, fguardA_undef, fpickA_true, fpickA_false, fcondA_true, fcondA_false, binA_add, binA_sub, binA_mul, binA_eql, binA_neq, binA_lss, binA_leq, binA_gtr, binA_geq, unA_not, Bool.not_true, Bool.not_false, convA_int, extA_tuple, List.getElem?_toArray, List.getElem?_cons_zero, List.getElem?_cons_succ]
      by_cases e : b = b'
      · have c2 : decide (b ≠ b') = false := decide_eq_false (by simpa using e)
        simp only [c2, lenSl_slice, lenStr_string, str_size, fpureA_some, fnilA_ptr, faddA_ptr, addr_add, Nat.zero_add, Nat.add_zero, fpureQ_k, fpureQ_nilA, fpureQ_addA, fpureQ_pureA, fpureQ_guardA, fpureQ_idxSlA, fpureQ_pickA, freadQ_loadA, freadQ_loadNA, freadQ_b2sA, freadQ_guardA, freadQ_slSlA, freadQ_k, fendA, fallA_one, fstillA_nil, fguardA_tt, fguardA_ff, fguardA_tf, fguardA_ft, fguardA_undef, fpickA_true, fpickA_false, fcondA_true, fcondA_false, binA_add, binA_sub, binA_mul, binA_eql, binA_neq, binA_lss, binA_leq, binA_gtr, binA_geq, unA_not, Bool.not_true, Bool.not_false, convA_int, extA_tuple, List.getElem?_toArray, List.getElem?_cons_zero, List.getElem?_cons_succ, e6]
        have := ih (pre ++ [b]) post' (pre' ++ [b']) (by simpa using he) (by simpa using he') (by simp [hp]) (fun q => hk (by rw [e, q])) (fun q => hkr (by rw [e]; simpa using q))
        simpa using this
      · have c2 : decide (b ≠ b') = true := decide_eq_true e
        simp only [c2, lenSl_slice, lenStr_string, str_size, fpureA_some, fnilA_ptr, faddA_ptr, addr_add, Nat.zero_add, Nat.add_zero, fpureQ_k, fpureQ_nilA, fpureQ_addA, fpureQ_pureA, fpureQ_guardA, fpureQ_idxSlA, fpureQ_pickA, freadQ_loadA, freadQ_loadNA, freadQ_b2sA, freadQ_guardA, freadQ_slSlA, freadQ_k, fendA, fallA_one, fstillA_nil, fguardA_tt, fguardA_ff, fguardA_tf, fguardA_ft, fguardA_undef, fpickA_true, fpickA_false, fcondA_true, fcondA_false, binA_add, binA_sub, binA_mul, binA_eql, binA_neq, binA_lss, binA_leq, binA_gtr, binA_geq, unA_not, Bool.not_true, Bool.not_false, convA_int, extA_tuple, List.getElem?_toArray, List.getElem?_cons_zero, List.getElem?_cons_succ]
        exact hkr (by simp [e])
theorem equalB_spec {x y : Value} {l m : List UInt8} (v : Bs w0 h x l) (w : Bs w0 h y m) (hl : l.length ≤ 1000000000) :
    ACalls prog w0 n_slices_Equal_lbyte_byte [x, y] h fun r h' => r = .bool (decide (l = m)) ∧ h' = h := by
  refine ACalls.of_fit (by simpa using ⟨v.junk, w.junk⟩) fun f => c_slices_Equal_lbyte_byte (by simpa using ⟨v.junk, w.junk⟩) ?_
  obtain ⟨a, c, rfl⟩ := v.slice
  obtain ⟨a', c', rfl⟩ := w.slice
  simp only [s_slices_Equal_lbyte_byte, lenSl_slice, lenStr_string, str_size, fpureA_some, fnilA_ptr, faddA_ptr, addr_add, Nat.zero_add, Nat.add_zero, fpureQ_k, fpureQ_nilA, fpureQ_addA, fpureQ_pureA, fpureQ_guardA, fpureQ_idxSlA, fpureQ_pickA, freadQ_loadA, freadQ_loadNA, freadQ_b2sA, freadQ_guardA, freadQ_slSlA, freadQ_k, fendA, fallA_one, fstillA_nil, fguardA_tt, fguardA_ff, fguardA_tf, fguardA_ft, fguardA_undef, fpickA_true, fpickA_false, fcondA_true, fcondA_false, binA_add, binA_sub, binA_mul, binA_eql, binA_neq, binA_lss, binA_leq, binA_gtr, binA_geq, unA_not, Bool.not_true, Bool.not_false, convA_int, extA_tuple, List.getElem?_toArray, List.getElem?_cons_zero, List.getElem?_cons_succ]
  by_cases hlm : l.length = m.length
  · have c1 : ((l.length : Int) != (m.length : Int)) = false := by rw [hlm]; simp
    simp only [c1, lenSl_slice, lenStr_string, str_size, fpureA_some, fnilA_ptr, faddA_ptr, addr_add, Nat.zero_add, Nat.add_zero, fpureQ_k, fpureQ_nilA, fpureQ_addA, fpureQ_pureA, fpureQ_guardA, fpureQ_idxSlA, fpureQ_pickA, freadQ_loadA, freadQ_loadNA, freadQ_b2sA, freadQ_guardA, freadQ_slSlA, freadQ_k, fendA, fallA_one, fstillA_nil, fguardA_tt, fguardA_ff, fguardA_tf, fguardA_ft, fguardA_undef, fpickA_true, fpickA_false, fcondA_true, fcondA_false, binA_add, binA_sub, binA_mul, binA_eql, binA_neq, binA_lss, binA_leq, binA_gtr, binA_geq, unA_not, Bool.not_true, Bool.not_false, convA_int, extA_tuple, List.getElem?_toArray, List.getElem?_cons_zero, List.getElem?_cons_succ]
    refine ⟨l.length + 1, equalB_loop v w hlm hl l [] m [] rfl rfl rfl (fun e => ?_) (fun e => ?_)⟩
    · simp only [retA_iff, oneOf_one]; exact ⟨by simp, by simp [e], by trivial⟩
    · simp only [retA_iff, oneOf_one]; exact ⟨by simp, by simp [e], by trivial⟩
  · have c1 : ((l.length : Int) != (m.length : Int)) = true := by rw [bne_iff_ne]; omega
    have : l ≠ m := fun e => hlm (by rw [e])
    simp only [c1, lenSl_slice, lenStr_string, str_size, fpureA_some, fnilA_ptr, faddA_ptr, addr_add, Nat.zero_add, Nat.add_zero, fpureQ_k, fpureQ_nilA, fpureQ_addA, fpureQ_pureA, fpureQ_guardA, fpureQ_idxSlA, fpureQ_pickA, freadQ_loadA, freadQ_loadNA, freadQ_b2sA, freadQ_guardA, freadQ_slSlA, freadQ_k, fendA, fallA_one, fstillA_nil, fguardA_tt, fguardA_ff, fguardA_tf, fguardA_ft, fguardA_undef, fpickA_true, fpickA_false, fcondA_true, fcondA_false, binA_add, binA_sub, binA_mul, binA_eql, binA_neq, binA_lss, binA_leq, binA_gtr, binA_geq, unA_not, Bool.not_true, Bool.not_false, convA_int, extA_tuple, List.getElem?_toArray, List.getElem?_cons_zero, List.getElem?_cons_succ, retA_iff, oneOf_one]
    exact ⟨by simp, by simp [this], by trivial⟩

theorem jown_parts {size : Nat} {b : List UInt8} (hb : b.length = size) (hs : 512 ≤ size) (hn : ¬ size - 24 < rdn ((b.drop 16).take 4)) : ((b.take (24 + rdn ((b.drop 16).take 4))).drop 24) = (b.drop 24).take (rdn ((b.drop 16).take 4)) := by
  rw [List.drop_take]; congr 1; omega
theorem cut_eq (b : List UInt8) (lo n : Nat) : (b.take (lo + n)).drop lo = (b.drop lo).take n := by rw [List.drop_take]; congr 1; omega
theorem used_spec {x : Value} {b : List UInt8} {size gen i : Nat} (hs : 512 ≤ size ∧ size ≤ 4096) (hi : i < 4294967296) (v : Bs w0 h x b) (hb : b.length = size) :
    ACalls prog w0 n_journal_used [.int .i64 size, .int .u64 gen, .int .i64 i, x] h fun r h' => Step h h' [] [] ∧ ∃ y, r = .tuple #[y, .bool (jright size gen i b).isSome] ∧
      ∀ own, jright size gen i b = some own → Bs w0 h' y own ∧ sblk y = sblk x := by
  refine ACalls.of_fit (by simpa using v.junk) fun f => c_journal_used (by simpa using v.junk) ?_
  simp only [s_journal_used]
  refine v.cut (lo := 16) (hi := 20) rfl rfl (by omega) (by omega) fun x1 _ _ v1 => ?_
  rw [cut_eq b 16 4] at v1
  have hl4 : ((b.drop 16).take 4).length = 4 := by simp; omega
  refine v1.b2s ?_
  refine callA_of (NewReader_spec _ (by omega)) fun vr h1 ⟨e, w1, s1⟩ f1 => ?_
  subst e
  refine callA_of (RU32_spec w1) fun vn h2 ⟨e, w2, s2⟩ f2 => ?_
  subst e
  have r1 : ((⟨(b.drop 16).take 4, 0⟩ : RS).raw 4).1 = (b.drop 16).take 4 := by
    unfold RS.raw
    rw [if_neg (by simp), if_neg (by omega), if_neg (by simp only [hl4]; omega)]
    exact List.take_of_length_le (Nat.le_of_eq hl4)
  rw [r1]
  have hn := rdn_lt4 hl4
  have hown : jown size b = if size - 24 < rdn ((b.drop 16).take 4) then none else some ((b.drop 24).take (rdn ((b.drop 16).take 4))) := rfl
  obtain ⟨n, hn0⟩ : ∃ n, n = rdn ((b.drop 16).take 4) := ⟨_, rfl⟩
  rw [← hn0] at hn hown
  have s12 : Step h h2 [] [] := (s1.trans s2).less (by simp)
  have e1 : IntKind.i64.wrap (n : Int) = (n : Int) := IntWalk.i64_in _ (by omega)
  have e2 : IntKind.i64.wrap ((size : Int) - 24) = (size : Int) - 24 := IntWalk.i64_in _ (by omega)
  have e3 : IntKind.i64.wrap (24 + (n : Int)) = ((24 + n : Nat) : Int) := by rw [IntWalk.i64_in _ (by omega)]; simp
  simp only [← hn0, lenSl_slice, lenStr_string, str_size, fpureA_some, fnilA_ptr, faddA_ptr, addr_add, Nat.zero_add, Nat.add_zero, fpureQ_k, fpureQ_nilA, fpureQ_addA, fpureQ_pureA, fpureQ_guardA, fpureQ_idxSlA, fpureQ_pickA, freadQ_loadA, freadQ_loadNA, freadQ_b2sA, freadQ_guardA, freadQ_slSlA, freadQ_k, fendA, fallA_one, fstillA_nil, fguardA_tt, fguardA_ff, fguardA_tf, fguardA_ft, fguardA_undef, fpickA_true, fpickA_false, fcondA_true, fcondA_false, binA_add, binA_sub, binA_mul, binA_eql, binA_neq, binA_lss, binA_leq, binA_gtr, binA_geq, unA_not, Bool.not_true, Bool.not_false, convA_int, extA_tuple, List.getElem?_toArray, List.getElem?_cons_zero, List.getElem?_cons_succ, e1, e2, e3]
  by_cases hlt : size - 24 < n
  · have c1 : decide ((size : Int) - 24 < (n : Int)) = true := decide_eq_true (by omega)
    rw [if_pos hlt] at hown
    have e4 : jright size gen i b = none := by unfold jright; rw [hown]
    simp only [c1, lenSl_slice, lenStr_string, str_size, fpureA_some, fnilA_ptr, faddA_ptr, addr_add, Nat.zero_add, Nat.add_zero, fpureQ_k, fpureQ_nilA, fpureQ_addA, fpureQ_pureA, fpureQ_guardA, fpureQ_idxSlA, fpureQ_pickA, freadQ_loadA, freadQ_loadNA, freadQ_b2sA, freadQ_guardA, freadQ_slSlA, freadQ_k, fendA, fallA_one, fstillA_nil, fguardA_tt, fguardA_ff, fguardA_tf, fguardA_ft, fguardA_undef, fpickA_true, fpickA_false, fcondA_true, fcondA_false, binA_add, binA_sub, binA_mul, binA_eql, binA_neq, binA_lss, binA_leq, binA_gtr, binA_geq, unA_not, Bool.not_true, Bool.not_false, convA_int, extA_tuple, List.getElem?_toArray, List.getElem?_cons_zero, List.getElem?_cons_succ, retA_iff, oneOf_two, e4]
    exact ⟨by simp, s12, _, rfl, by simp⟩
  · have c1 : decide ((size : Int) - 24 < (n : Int)) = false := decide_eq_false (by omega)
    rw [if_neg hlt] at hown
    simp only [c1, lenSl_slice, lenStr_string, str_size, fpureA_some, fnilA_ptr, faddA_ptr, addr_add, Nat.zero_add, Nat.add_zero, fpureQ_k, fpureQ_nilA, fpureQ_addA, fpureQ_pureA, fpureQ_guardA, fpureQ_idxSlA, fpureQ_pickA, freadQ_loadA, freadQ_loadNA, freadQ_b2sA, freadQ_guardA, freadQ_slSlA, freadQ_k, fendA, fallA_one, fstillA_nil, fguardA_tt, fguardA_ff, fguardA_tf, fguardA_ft, fguardA_undef, fpickA_true, fpickA_false, fcondA_true, fcondA_false, binA_add, binA_sub, binA_mul, binA_eql, binA_neq, binA_lss, binA_leq, binA_gtr, binA_geq, unA_not, Bool.not_true, Bool.not_false, convA_int, extA_tuple, List.getElem?_toArray, List.getElem?_cons_zero, List.getElem?_cons_succ]
    have v2 : Bs w0 h2 x b := v.step f s12 (by simp)
    refine v2.cut (lo := 24) (hi := 24 + n) rfl boundA_nat (by omega) (by omega) fun x2 _ hx2 v3 => ?_
    rw [cut_eq b 24 n] at v3
    have hl : ((b.drop 24).take n).length ≤ size - 24 := by simp; omega
    obtain ⟨own, ho⟩ : ∃ own, own = (b.drop 24).take n := ⟨_, rfl⟩
    rw [← ho] at v3 hl hown
    obtain ⟨a2, c2, e5⟩ := v3.slice
    have v3' := v3
    rw [e5] at v3'
    have hc := sector_spec (w0 := w0) (h := h2) (gen := gen) hs hi hl v3'.src
    rw [← e5] at hc
    refine callA_of hc fun vs h3 ⟨S3, g3, s3⟩ f3 => ?_
    have v4 : Bs w0 h3 x b := v2.step f2 s3 (by simp)
    have hsl := sec_length gen i (by omega) hl
    have g4 : Bs w0 h3 vs (sec size gen i own) := by
      have := g3.sl
      unfold Bs
      rw [hsl]
      exact this
    refine callA_of (equalB_spec v4 g4 (by omega)) fun vb h4 ⟨e6, e7⟩ f4 => ?_
    subst e6 e7
    simp only [retA_iff, oneOf_two]
    have e8 : jright size gen i b = if b = sec size gen i own then some own else none := by unfold jright; rw [hown]
    refine ⟨by simp [v3.junk], (s12.trans s3).less (by simp), x2, ?_, fun own' he => ?_⟩
    · rw [e8]
      by_cases q : b = sec size gen i own
      · rw [if_pos q]; simp [← q]
      · rw [if_neg q]; simp [q]
    · rw [e8] at he
      split at he
      · simp at he
        subst he
        exact ⟨v3.step f2 s3 (by simp), hx2⟩
      · simp at he
end
theorem jgo_none {size gen k n : Nat} {img : List UInt8} (hk : k < n) (h : jright size gen k (jat size img k) = none) : jgo size gen img (n - k) k = [] := by
  rw [show n - k = (n - (k + 1)) + 1 by omega, jgo, h]
theorem jgo_some {size gen k n : Nat} {img own : List UInt8} (hk : k < n) (h : jright size gen k (jat size img k) = some own) : jgo size gen img (n - k) k = own :: jgo size gen img (n - (k + 1)) (k + 1) := by
  rw [show n - k = (n - (k + 1)) + 1 by omega, jgo, h]
theorem jgo_flat {size gen : Nat} {img : List UInt8} : ∀ (r k : Nat), (jgo size gen img r k).flatten.length ≤ r * size := by
  intro r
  induction r with
  | zero => intro k; simp [jgo]
  | succ r ih =>
    intro k
    rw [jgo]
    split
    · simp
    · rename_i own e
      have h1 := jown_len (jright_own e).1
      have h2 := ih (k + 1)
      rw [List.flatten_cons, List.length_append, Nat.add_mul]
      omega
section
variable {w0 : World} {h : Hp}
def SC (w0 : World) (B q3 q4 q9 q10 size gen cnt : Nat) (x : Value) (img : List UInt8) (i : Nat) (h1 : Hp) (S1 : List Nat) : Prop :=
  ∃ os y U, S1 = q9 :: q10 :: U ∧ os.length = i ∧ os.flatten.length ≤ i * size ∧ jgo size gen img cnt 0 = os ++ jgo size gen img (cnt - i) i ∧ h1.blk q9 = some [y] ∧ h1.blk q10 = some [.int .i64 (i : Int)] ∧
    Vec w0 h1 1 y os.flatten.length (bvs os.flatten) U ∧ (∀ b, b ∈ U → B ≤ b) ∧ h1.blk q3 = some [.int .i64 (size : Int)] ∧ h1.blk q4 = some [.int .u64 (gen : Int)] ∧ Bs w0 h1 x img ∧ B ≤ h1.next
def SD (w0 : World) (B q9 q10 size gen cnt : Nat) (img : List UInt8) (o : Option Nat) (h1 : Hp) (S1 : List Nat) : Prop :=
  o = some 0 ∧ ∃ y U, S1 = q9 :: q10 :: U ∧ h1.blk q9 = some [y] ∧ h1.blk q10 = some [.int .i64 ((jgo size gen img cnt 0).length : Int)] ∧
    Vec w0 h1 1 y (jgo size gen img cnt 0).flatten.length (bvs (jgo size gen img cnt 0).flatten) U ∧ (∀ b, b ∈ U → B ≤ b) ∧ B ≤ h1.next
theorem sc_keep {B q3 q4 q9 q10 size gen cnt i : Nat} {x : Value} {img : List UInt8} (h3 : q3 < B) (h4 : q4 < B) (h9 : q9 < B) (h10 : q10 < B) (hx : ∀ b, b ∈ sblk x → b < B) : KeepC w0 0 B (SC w0 B q3 q4 q9 q10 size gen cnt x img i) := by
  refine ⟨fun h lp S _ c => c, fun h h' S T T' f ⟨os, y, U, e, a1, a2, a3, a4, a5, a6, a7, a8, a9, a10, a11⟩ st hd hB => ?_, fun h S ⟨os, y, U, e, a1, a2, a3, a4, a5, a6, a7, a8, a9, a10, a11⟩ b hb => ?_⟩
  · subst e
    have k : ∀ b, b < B → b ∉ T := fun b hb q => by have := hB b q; omega
    refine ⟨os, y, U, rfl, a1, a2, a3, ?_, ?_, a6.frame st (fun b hb => hd b (by simp [hb])), a7, ?_, ?_, a10.step f st (fun b hb => k b (hx b hb)), Nat.le_trans a11 st.1⟩
    · rw [(st.keep q9 (by omega) (k q9 h9)).1]; exact a4
    · rw [(st.keep q10 (by omega) (k q10 h10)).1]; exact a5
    · rw [(st.keep q3 (by omega) (k q3 h3)).1]; exact a8
    · rw [(st.keep q4 (by omega) (k q4 h4)).1]; exact a9
  · subst e
    rcases List.mem_cons.1 hb with rfl | hb
    · omega
    · rcases List.mem_cons.1 hb with rfl | hb
      · omega
      · exact (a6.lt b hb).2
theorem sd_keep {B q9 q10 size gen cnt : Nat} {img : List UInt8} {o : Option Nat} (h9 : q9 < B) (h10 : q10 < B) : KeepC w0 0 B (SD w0 B q9 q10 size gen cnt img o) := by
  refine ⟨fun h lp S _ c => c, fun h h' S T T' f ⟨eo, y, U, e, a4, a5, a6, a7, a11⟩ st hd hB => ?_, fun h S ⟨eo, y, U, e, a4, a5, a6, a7, a11⟩ b hb => ?_⟩
  · subst e
    have k : ∀ b, b < B → b ∉ T := fun b hb q => by have := hB b q; omega
    refine ⟨eo, y, U, rfl, ?_, ?_, a6.frame st (fun b hb => hd b (by simp [hb])), a7, Nat.le_trans a11 st.1⟩
    · rw [(st.keep q9 (by omega) (k q9 h9)).1]; exact a4
    · rw [(st.keep q10 (by omega) (k q10 h10)).1]; exact a5
  · subst e
    rcases List.mem_cons.1 hb with rfl | hb
    · omega
    · rcases List.mem_cons.1 hb with rfl | hb
      · omega
      · exact (a6.lt b hb).2
theorem stream_loop {hA : Hp} {q3 q4 q9 q10 sb nb size gen cnt : Nat} {x : Value} {img : List UInt8} {K0 : Hp → Prop} (f : Fit w0 hA) (hs : 512 ≤ size ∧ size ≤ 4096) (hc : cnt ≤ 4096) (hl : img.length = cnt * size)
    (b3 : hA.blk q3 = some [.int .i64 (size : Int)]) (b4 : hA.blk q4 = some [.int .u64 (gen : Int)]) (b9 : hA.blk q9 = some [.slice none 0 0]) (b10 : hA.blk q10 = some [.int .i64 0])
    (w3 : w0.heap.size ≤ q3) (w4 : w0.heap.size ≤ q4) (w9 : w0.heap.size ≤ q9) (w10 : w0.heap.size ≤ q10) (n1 : q9 ≠ q10) (n2 : q3 ≠ q9) (n3 : q3 ≠ q10) (n4 : q4 ≠ q9) (n5 : q4 ≠ q10)
    (bsb : hA.blk sb = some [x]) (bnb : hA.blk nb = some [.int .i64 (size : Int)]) (wsb : w0.heap.size ≤ sb) (wnb : w0.heap.size ≤ nb) (v : Bs w0 hA x img)
    (hd : ∀ b, b ∈ [q9, q10] → b ∉ sb :: nb :: sblk x) (hx : ∀ b, b ∈ sblk x → b < hA.next)
    (hk : ∀ h3 y U, Fit w0 h3 → YStep 0 hA h3 [q9, q10] (q9 :: q10 :: U) → h3.blk q9 = some [y] → h3.blk q10 = some [.int .i64 ((jgo size gen img cnt 0).length : Int)] →
      Vec w0 h3 1 y (jgo size gen img cnt 0).flatten.length (bvs (jgo size gen img cnt 0).flatten) U → (∀ b, b ∈ U → hA.next ≤ b) → K0 h3) :
    rangeA prog w0 (.func (.func n_slices_Chunk_lbyte_byte_S1) #[] #[ptr sb, ptr nb]) 1 (fun b g args K => journal_stream_R1 prog w0 b g K (ptr q3) (ptr q4) (ptr q9) (ptr q10) (args.getD 0 undef)) K0 [(some 0, K0)] hA := by
  have l3 := f.lt _ _ b3
  have l4 := f.lt _ _ b4
  have l9 := f.lt _ _ b9
  have l10 := f.lt _ _ b10
  have hll : img.length ≤ 1000000000 := by
    have : cnt * size ≤ 4096 * 4096 := Nat.mul_le_mul hc hs.2
    omega
  refine rangeA_of (xs := (List.range cnt).map fun k => [cut3V 1 x (k * size) (k * size + size)]) (T := sb :: nb :: sblk x) 0 (Nat.zero_le _) f (fun g => chunk_it bsb bnb wsb wnb v (by omega) hl hll) _ (fun b g x K => rfl)
    [q9, q10] (SC w0 hA.next q3 q4 q9 q10 size gen cnt x img) (SD w0 hA.next q9 q10 size gen cnt img) (fun i => sc_keep l3 l4 l9 l10 hx) (fun o => sd_keep l9 l10) ?_ hd ?_ ?_ ?_ ?_
  · exact ⟨[], .slice none 0 0, [], rfl, rfl, by simp, by simp, b9, b10, .nil, by simp, b3, b4, v, Nat.le_refl _⟩
  · intro y hy
    obtain ⟨k, hk', rfl⟩ := List.mem_map.1 hy
    have hk2 : k < cnt := List.mem_range.1 hk'
    have : k * size + size ≤ img.length := by
      rw [hl]
      have : (k + 1) * size ≤ cnt * size := Nat.mul_le_mul_right _ hk2
      rw [Nat.add_mul] at this
      omega
    exact ⟨rfl, by simpa using (v.cut3_sl (lo := k * size) (hi := k * size + size) (by omega) this (by unfold ucap; omega)).1.junk⟩
  · rintro i y h1 S1 g K hi f1 ⟨os, z, U, e, a1, a2, a3, a4, a5, a6, a7, a8, a9, a10, a11⟩ lb _ ends exits
    rw [List.getElem?_map] at hi
    obtain ⟨k, hk', rfl⟩ := Option.map_eq_some_iff.1 hi
    have hkc : i < cnt ∧ k = i := by
      have := List.getElem?_eq_some_iff.1 hk'
      obtain ⟨q, q'⟩ := this
      simp at q q'
      exact ⟨q, q'.symm⟩
    obtain ⟨hic, rfl⟩ := hkc
    subst e
    have hke : k * size + size ≤ img.length := by
      rw [hl]
      have : (k + 1) * size ≤ cnt * size := Nat.mul_le_mul_right _ hic
      rw [Nat.add_mul] at this
      omega
    have vc := (a10.cut3_sl (lo := k * size) (hi := k * size + size) (by omega) hke (by unfold ucap; omega)).1
    have e1 : (img.take (k * size + size)).drop (k * size) = jat size img k := by rw [cut_eq]; rfl
    rw [e1] at vc
    have hjl : (jat size img k).length = size := by simp [jat]; omega
    simp only [ptr, List.getD_cons_zero]
    refine loadA_at w3 a8 rfl ?_
    refine loadA_at w4 a9 rfl ?_
    refine loadA_at w10 a5 rfl ?_
    refine callA_of (used_spec hs (by omega) vc hjl) fun r h2 ⟨s2, y2, e2, hown⟩ f2 => ?_
    subst e2
    simp only [lenSl_slice, lenStr_string, str_size, fpureA_some, fnilA_ptr, faddA_ptr, addr_add, Nat.zero_add, Nat.add_zero, fpureQ_k, fpureQ_nilA, fpureQ_addA, fpureQ_pureA, fpureQ_guardA, fpureQ_idxSlA, fpureQ_pickA, freadQ_loadA, freadQ_loadNA, freadQ_b2sA, freadQ_guardA, freadQ_slSlA, freadQ_k, fendA, fallA_one, fstillA_nil, fguardA_tt, fguardA_ff, fguardA_tf, fguardA_ft, fguardA_undef, fpickA_true, fpickA_false, fcondA_true, fcondA_false, binA_add, binA_sub, binA_mul, binA_eql, binA_neq, binA_lss, binA_leq, binA_gtr, binA_geq, unA_not, Bool.not_true, Bool.not_false, convA_int, extA_tuple, List.getElem?_toArray, List.getElem?_cons_zero, List.getElem?_cons_succ]
    have c9 : h2.blk q9 = some [z] := by rw [(s2.keep q9 (by omega) (by simp)).1]; exact a4
    have c10 : h2.blk q10 = some [.int .i64 (k : Int)] := by rw [(s2.keep q10 (by omega) (by simp)).1]; exact a5
    have cU := a6.frame s2 (by simp)
    have s2' : Step h1 h2 (q9 :: q10 :: U) (q9 :: q10 :: U) := s2.wide (by simp) (fun b hb => .inr ⟨hb, by
      rcases List.mem_cons.1 hb with rfl | hb
      · omega
      · rcases List.mem_cons.1 hb with rfl | hb
        · omega
        · exact (a6.lt b hb).2⟩)
    cases hj : jright size gen k (jat size img k) with
    | none =>
      rw [jgo_none hic hj, List.append_nil] at a3
      simp only [Option.isSome_none, lenSl_slice, lenStr_string, str_size, fpureA_some, fnilA_ptr, faddA_ptr, addr_add, Nat.zero_add, Nat.add_zero, fpureQ_k, fpureQ_nilA, fpureQ_addA, fpureQ_pureA, fpureQ_guardA, fpureQ_idxSlA, fpureQ_pickA, freadQ_loadA, freadQ_loadNA, freadQ_b2sA, freadQ_guardA, freadQ_slSlA, freadQ_k, fendA, fallA_one, fstillA_nil, fguardA_tt, fguardA_ff, fguardA_tf, fguardA_ft, fguardA_undef, fpickA_true, fpickA_false, fcondA_true, fcondA_false, binA_add, binA_sub, binA_mul, binA_eql, binA_neq, binA_lss, binA_leq, binA_gtr, binA_geq, unA_not, Bool.not_true, Bool.not_false, convA_int, extA_tuple, List.getElem?_toArray, List.getElem?_cons_zero, List.getElem?_cons_succ]
      refine exits (some 0) h2 (q9 :: q10 :: U) (s2'.y 0) ⟨rfl, z, U, rfl, c9, ?_, ?_, a7, Nat.le_trans a11 s2.1⟩
      · rw [a3, a1]; exact c10
      · rw [a3]; exact cU
    | some own =>
      have hr := jgo_some hic hj
      simp only [Option.isSome_some, lenSl_slice, lenStr_string, str_size, fpureA_some, fnilA_ptr, faddA_ptr, addr_add, Nat.zero_add, Nat.add_zero, fpureQ_k, fpureQ_nilA, fpureQ_addA, fpureQ_pureA, fpureQ_guardA, fpureQ_idxSlA, fpureQ_pickA, freadQ_loadA, freadQ_loadNA, freadQ_b2sA, freadQ_guardA, freadQ_slSlA, freadQ_k, fendA, fallA_one, fstillA_nil, fguardA_tt, fguardA_ff, fguardA_tf, fguardA_ft, fguardA_undef, fpickA_true, fpickA_false, fcondA_true, fcondA_false, binA_add, binA_sub, binA_mul, binA_eql, binA_neq, binA_lss, binA_leq, binA_gtr, binA_geq, unA_not, Bool.not_true, Bool.not_false, convA_int, extA_tuple, List.getElem?_toArray, List.getElem?_cons_zero, List.getElem?_cons_succ]
      obtain ⟨v2, _⟩ := hown own hj
      have hol := jown_len (jright_own hj).1
      have hol' : own.length ≤ size := by omega
      have hbig : k * size ≤ 4096 * 4096 := Nat.mul_le_mul (by omega) hs.2
      refine loadA_at w9 c9 rfl ?_
      obtain ⟨ay, cy, ey⟩ := v2.slice
      refine appA_vec f2.base cU (m := own.length) (by rw [ey]; rfl) v2.src (by simp) (by omega) (by omega) (by omega) fun x' h3 S3 v3 s3 => ?_
      have hS3 : ∀ b, b ∈ S3 → hA.next ≤ b := fun b hb => by
        rcases (s3.own b hb).2 with q | q
        · exact a7 b q
        · have := s2.1; omega
      have hU9 : ∀ b, b < hA.next → b ∉ U := fun b hb q => by have := a7 b q; omega
      have hS9 : ∀ b, b < hA.next → b ∉ S3 := fun b hb q => by have := hS3 b q; omega
      have d9 : h3.blk q9 = some [z] := by rw [(s3.keep q9 (by have := s2.1; omega) (hU9 q9 l9)).1]; exact c9
      have d10 : h3.blk q10 = some [.int .i64 (k : Int)] := by rw [(s3.keep q10 (by have := s2.1; omega) (hU9 q10 l10)).1]; exact c10
      have hxc : isCell x' = true := by obtain ⟨a, c, e⟩ := v3.slice; rw [e]; rfl
      refine storeA_at w9 d9 (by simp) hxc ?_
      simp only [List.set_cons_zero]
      refine loadA_at (cs := [.int .i64 (k : Int)]) w10 (by rw [put_blk, if_neg (Ne.symm n1)]; exact d10) rfl ?_
      have e4 : IntKind.i64.wrap ((k : Int) + 1) = ((k + 1 : Nat) : Int) := by rw [IntWalk.i64_in _ (by omega)]; simp
      simp only [lenSl_slice, lenStr_string, str_size, fpureA_some, fnilA_ptr, faddA_ptr, addr_add, Nat.zero_add, Nat.add_zero, fpureQ_k, fpureQ_nilA, fpureQ_addA, fpureQ_pureA, fpureQ_guardA, fpureQ_idxSlA, fpureQ_pickA, freadQ_loadA, freadQ_loadNA, freadQ_b2sA, freadQ_guardA, freadQ_slSlA, freadQ_k, fendA, fallA_one, fstillA_nil, fguardA_tt, fguardA_ff, fguardA_tf, fguardA_ft, fguardA_undef, fpickA_true, fpickA_false, fcondA_true, fcondA_false, binA_add, binA_sub, binA_mul, binA_eql, binA_neq, binA_lss, binA_leq, binA_gtr, binA_geq, unA_not, Bool.not_true, Bool.not_false, convA_int, extA_tuple, List.getElem?_toArray, List.getElem?_cons_zero, List.getElem?_cons_succ, e4]
      refine storeA_at (cs := [.int .i64 (k : Int)]) w10 (by rw [put_blk, if_neg (Ne.symm n1)]; exact d10) (by simp) rfl ?_
      simp only [List.set_cons_zero]
      have s3' : Step h2 h3 (q9 :: q10 :: U) (q9 :: q10 :: S3) := s3.wide (fun b hb => by simp [hb]) (fun b hb => by
        rcases List.mem_cons.1 hb with rfl | hb
        · exact .inr ⟨by simp, by have := s2.1; omega⟩
        · rcases List.mem_cons.1 hb with rfl | hb
          · exact .inr ⟨by simp, by have := s2.1; omega⟩
          · exact .inl hb)
      have st := ((s2'.trans s3').put (p := q9) (by simp) [x']).put (p := q10) (by simp) [.int .i64 ((k + 1 : Nat) : Int)]
      have a3b := a8
      refine ends _ (q9 :: q10 :: S3) (st.y 0) ⟨os ++ [own], x', S3, rfl, by simp [a1], ?_, ?_, ?_, ?_, ?_, hS3, ?_, ?_, ?_, ?_⟩
      · simp only [List.flatten_append, List.flatten_cons, List.flatten_nil, List.append_nil, List.length_append, Nat.add_mul]
        omega
      · rw [a3, hr]; simp
      · rw [put_blk, if_neg n1, put_blk, if_pos rfl]
      · rw [put_blk, if_pos rfl]
      · have e5 : (os ++ [own]).flatten = os.flatten ++ own := by simp
        rw [e5]
        have := (v3.put (hS9 q9 l9) [x']).put (hS9 q10 l10) [.int .i64 ((k + 1 : Nat) : Int)]
        simpa using this
      · rw [(st.keep q3 (by omega) (by
          simp only [List.mem_cons, not_or]
          exact ⟨n2, n3, hU9 q3 l3⟩)).1]
        exact a8
      · rw [(st.keep q4 (by omega) (by
          simp only [List.mem_cons, not_or]
          exact ⟨n4, n5, hU9 q4 l4⟩)).1]
        exact a9
      · refine a10.step f1 st (fun b hb => ?_)
        have hbl := hx b hb
        simp only [List.mem_cons, not_or]
        exact ⟨fun e => hd q9 (by simp) (by subst e; simp [hb]), fun e => hd q10 (by simp) (by subst e; simp [hb]), hU9 b hbl⟩
      · exact Nat.le_trans a11 st.1
  · rintro h3 S2 f3 ys ⟨os, z, U, e, a1, a2, a3, a4, a5, a6, a7, a8, a9, a10, a11⟩
    subst e
    simp only [List.length_map, List.length_range, Nat.sub_self, jgo, List.append_nil] at a1 a3 a5
    refine hk h3 z U f3 ys a4 ?_ ?_ a7
    · rw [a3, a1]; exact a5
    · rw [a3]; exact a6
  · rintro o h3 S2 f3 ys ⟨rfl, y, U, e, a4, a5, a6, a7, a11⟩
    subst e
    exact ⟨(some 0, K0), by simp, rfl, hk h3 y U f3 ys a4 a5 a6 a7⟩
end
section
variable {w0 : World} {h : Hp}
theorem Bs.blk_lt {x : Value} {l : List UInt8} (v : Bs w0 h x l) (f : Fit w0 h) (h0 : 0 < l.length) : ∀ b, b ∈ sblk x → b < h.next := by
  obtain ⟨a, c, rfl, ⟨-, hs⟩, -, -⟩ := v
  rcases hs with ⟨h1, -⟩ | ⟨-, ad, rfl, hg, -⟩
  · omega
  · obtain ⟨-, cs, hb, -⟩ := Hp.getN_some hg
    intro b hm
    simp [sblk] at hm
    subst hm
    exact f.lt _ _ hb
theorem jfits_split {n : Int} {len : Nat} : jfits n len = true ↔ jsize n = true ∧ len % n.toNat = 0 ∧ n.toNat ≤ len ∧ len ≤ 4096 * n.toNat := by
  simp [jfits, and_assoc]
theorem stream_spec {x : Value} {img : List UInt8} {n : Int} {gen : Nat} (hn : -9223372036854775808 ≤ n ∧ n ≤ 9223372036854775807) (v : Bs w0 h x img) (hl : img.length ≤ 1000000000) :
    ACalls prog w0 n_journal_stream [.int .i64 n, .int .u64 gen, x] h fun r h' => (jfits n img.length = false ∧ r = .tuple #[.slice none 0 0, .int .i64 0, .int .i64 1] ∧ Step h h' [] []) ∨
      (jfits n img.length = true ∧ ∃ y U, r = .tuple #[y, .int .i64 ((jall n.toNat gen img).length : Int), .int .i64 0] ∧ Vec w0 h' 1 y (jall n.toNat gen img).flatten.length (bvs (jall n.toNat gen img).flatten) U ∧ Step h h' [] U) := by
  refine ACalls.of_fit (by simpa using v.junk) fun f => c_journal_stream (by simpa using v.junk) ?_
  simp only [s_journal_stream]
  have hb := f.base
  refine ⟨rfl, rfl, ?_⟩
  have s2 : Step h ((h.new [.int .i64 n] 1).new [.int .u64 (gen : Int)] 1) [] [h.next + 1, h.next] := ((Step.refl h [] (by simp)).new _ _).new _ _
  have f2 : Fit w0 ((h.new [.int .i64 n] 1).new [.int .u64 (gen : Int)] 1) := (f.new (by simp [isCell])).new (by simp [isCell])
  have b3 : ((h.new [.int .i64 n] 1).new [.int .u64 (gen : Int)] 1).blk h.next = some [.int .i64 n] := by simp
  have b4 : ((h.new [.int .i64 n] 1).new [.int .u64 (gen : Int)] 1).blk (h.next + 1) = some [.int .u64 (gen : Int)] := by simp
  have v2 : Bs w0 ((h.new [.int .i64 n] 1).new [.int .u64 (gen : Int)] 1) x img := v.step f s2 (by simp)
  have nx2 : ((h.new [.int .i64 n] 1).new [.int .u64 (gen : Int)] 1).next = h.next + 2 := rfl
  rw [show (h.new [.int .i64 n] 1).next = h.next + 1 from rfl]
  obtain ⟨h2, hh2⟩ : ∃ h2, h2 = (h.new [.int .i64 n] 1).new [.int .u64 (gen : Int)] 1 := ⟨_, rfl⟩
  rw [← hh2] at s2 f2 b3 b4 v2 nx2 ⊢
  refine loadA_at hb b3 rfl ?_
  refine callA_of (sizeRight_spec n hn) fun r h' ⟨e, e'⟩ _ => ?_
  subst e
  have e3 := e'.symm
  subst e3
  obtain ⟨a, c, ex⟩ := v.slice
  have elx : lenSl x = some (.int .i64 (img.length : Int)) := by rw [ex]; rfl
  have no : jfits n img.length = false → cutA h (retA [.slice none 0 0, .int .i64 0, .int .i64 1] fun r h' => (jfits n img.length = false ∧ r = .tuple #[.slice none 0 0, .int .i64 0, .int .i64 1] ∧ Step h h' [] []) ∨
      (jfits n img.length = true ∧ ∃ y U, r = .tuple #[y, .int .i64 ((jall n.toNat gen img).length : Int), .int .i64 0] ∧ Vec w0 h' 1 y (jall n.toNat gen img).flatten.length (bvs (jall n.toNat gen img).flatten) U ∧ Step h h' [] U)) h2 := fun q => by
    unfold cutA
    simp only [retA_iff, oneOf_two]
    exact ⟨by simp, .inl ⟨q, trivial, (((s2.less (T := []) (by simp)).y 0).cut)⟩⟩
  by_cases hsz : jsize n = true
  rotate_left
  · have hsz' : jsize n = false := by simpa using hsz
    have hf : jfits n img.length = false := by simp [jfits, hsz']
    simp only [hsz', lenSl_slice, lenStr_string, str_size, fpureA_some, fnilA_ptr, faddA_ptr, addr_add, Nat.zero_add, Nat.add_zero, fpureQ_k, fpureQ_nilA, fpureQ_addA, fpureQ_pureA, fpureQ_guardA, fpureQ_idxSlA, fpureQ_pickA, freadQ_loadA, freadQ_loadNA, freadQ_b2sA, freadQ_guardA, freadQ_slSlA, freadQ_k, fendA, fallA_one, fstillA_nil, fguardA_tt, fguardA_ff, fguardA_tf, fguardA_ft, fguardA_undef, fpickA_true, fpickA_false, fcondA_true, fcondA_false, binA_add, binA_sub, binA_mul, binA_eql, binA_neq, binA_lss, binA_leq, binA_gtr, binA_geq, unA_not, Bool.not_true, Bool.not_false, convA_int, extA_tuple, List.getElem?_toArray, List.getElem?_cons_zero, List.getElem?_cons_succ]
    exact no hf
  have hr := jsize_range hsz
  obtain ⟨size, rfl⟩ := Int.eq_ofNat_of_zero_le (show 0 ≤ n by omega)
  have hs : 512 ≤ size ∧ size ≤ 4096 := by omega
  have e1 : binA .rem (.int .i64 (img.length : Int)) (.int .i64 (size : Int)) = some (.int .i64 ((img.length % size : Nat) : Int)) := by rw [binA_rem _ _ _ (by omega), ← Int.ofNat_tmod]
  have hq : img.length / size ≤ img.length := Nat.div_le_self _ _
  have e2 : binA .quo (.int .i64 (img.length : Int)) (.int .i64 (size : Int)) = some (.int .i64 ((img.length / size : Nat) : Int)) := by
    rw [binA_quo _ _ _ (by omega), ← Int.ofNat_tdiv]
    generalize img.length / size = q at hq
    rw [IntWalk.i64_in _ (by omega)]
  have ht : ((size : Int)).toNat = size := rfl
  simp only [hsz, lenSl_slice, lenStr_string, str_size, fpureA_some, fnilA_ptr, faddA_ptr, addr_add, Nat.zero_add, Nat.add_zero, fpureQ_k, fpureQ_nilA, fpureQ_addA, fpureQ_pureA, fpureQ_guardA, fpureQ_idxSlA, fpureQ_pickA, freadQ_loadA, freadQ_loadNA, freadQ_b2sA, freadQ_guardA, freadQ_slSlA, freadQ_k, fendA, fallA_one, fstillA_nil, fguardA_tt, fguardA_ff, fguardA_tf, fguardA_ft, fguardA_undef, fpickA_true, fpickA_false, fcondA_true, fcondA_false, binA_add, binA_sub, binA_mul, binA_eql, binA_neq, binA_lss, binA_leq, binA_gtr, binA_geq, unA_not, Bool.not_true, Bool.not_false, convA_int, extA_tuple, List.getElem?_toArray, List.getElem?_cons_zero, List.getElem?_cons_succ, elx]
  refine loadA_at hb b3 rfl ?_
  simp only [e1, lenSl_slice, lenStr_string, str_size, fpureA_some, fnilA_ptr, faddA_ptr, addr_add, Nat.zero_add, Nat.add_zero, fpureQ_k, fpureQ_nilA, fpureQ_addA, fpureQ_pureA, fpureQ_guardA, fpureQ_idxSlA, fpureQ_pickA, freadQ_loadA, freadQ_loadNA, freadQ_b2sA, freadQ_guardA, freadQ_slSlA, freadQ_k, fendA, fallA_one, fstillA_nil, fguardA_tt, fguardA_ff, fguardA_tf, fguardA_ft, fguardA_undef, fpickA_true, fpickA_false, fcondA_true, fcondA_false, binA_add, binA_sub, binA_mul, binA_eql, binA_neq, binA_lss, binA_leq, binA_gtr, binA_geq, unA_not, Bool.not_true, Bool.not_false, convA_int, extA_tuple, List.getElem?_toArray, List.getElem?_cons_zero, List.getElem?_cons_succ]
  by_cases hm : img.length % size = 0
  rotate_left
  · have c1 : (((img.length % size : Nat) : Int) != 0) = true := by rw [bne_iff_ne]; omega
    have hf : jfits (size : Int) img.length = false := by
      rw [Bool.eq_false_iff]
      intro q
      rw [jfits_split, ht] at q
      exact hm q.2.1
    simp only [c1, lenSl_slice, lenStr_string, str_size, fpureA_some, fnilA_ptr, faddA_ptr, addr_add, Nat.zero_add, Nat.add_zero, fpureQ_k, fpureQ_nilA, fpureQ_addA, fpureQ_pureA, fpureQ_guardA, fpureQ_idxSlA, fpureQ_pickA, freadQ_loadA, freadQ_loadNA, freadQ_b2sA, freadQ_guardA, freadQ_slSlA, freadQ_k, fendA, fallA_one, fstillA_nil, fguardA_tt, fguardA_ff, fguardA_tf, fguardA_ft, fguardA_undef, fpickA_true, fpickA_false, fcondA_true, fcondA_false, binA_add, binA_sub, binA_mul, binA_eql, binA_neq, binA_lss, binA_leq, binA_gtr, binA_geq, unA_not, Bool.not_true, Bool.not_false, convA_int, extA_tuple, List.getElem?_toArray, List.getElem?_cons_zero, List.getElem?_cons_succ]
    exact no hf
  have c1 : (((img.length % size : Nat) : Int) != 0) = false := by rw [hm]; rfl
  simp only [c1, lenSl_slice, lenStr_string, str_size, fpureA_some, fnilA_ptr, faddA_ptr, addr_add, Nat.zero_add, Nat.add_zero, fpureQ_k, fpureQ_nilA, fpureQ_addA, fpureQ_pureA, fpureQ_guardA, fpureQ_idxSlA, fpureQ_pickA, freadQ_loadA, freadQ_loadNA, freadQ_b2sA, freadQ_guardA, freadQ_slSlA, freadQ_k, fendA, fallA_one, fstillA_nil, fguardA_tt, fguardA_ff, fguardA_tf, fguardA_ft, fguardA_undef, fpickA_true, fpickA_false, fcondA_true, fcondA_false, binA_add, binA_sub, binA_mul, binA_eql, binA_neq, binA_lss, binA_leq, binA_gtr, binA_geq, unA_not, Bool.not_true, Bool.not_false, convA_int, extA_tuple, List.getElem?_toArray, List.getElem?_cons_zero, List.getElem?_cons_succ, elx]
  refine loadA_at hb b3 rfl ?_
  simp only [lenSl_slice, lenStr_string, str_size, fpureA_some, fnilA_ptr, faddA_ptr, addr_add, Nat.zero_add, Nat.add_zero, fpureQ_k, fpureQ_nilA, fpureQ_addA, fpureQ_pureA, fpureQ_guardA, fpureQ_idxSlA, fpureQ_pickA, freadQ_loadA, freadQ_loadNA, freadQ_b2sA, freadQ_guardA, freadQ_slSlA, freadQ_k, fendA, fallA_one, fstillA_nil, fguardA_tt, fguardA_ff, fguardA_tf, fguardA_ft, fguardA_undef, fpickA_true, fpickA_false, fcondA_true, fcondA_false, binA_add, binA_sub, binA_mul, binA_eql, binA_neq, binA_lss, binA_leq, binA_gtr, binA_geq, unA_not, Bool.not_true, Bool.not_false, convA_int, extA_tuple, List.getElem?_toArray, List.getElem?_cons_zero, List.getElem?_cons_succ]
  by_cases hle : size ≤ img.length
  rotate_left
  · have c2 : decide ((img.length : Int) < (size : Int)) = true := decide_eq_true (by omega)
    have hf : jfits (size : Int) img.length = false := by
      rw [Bool.eq_false_iff]
      intro q
      rw [jfits_split, ht] at q
      exact hle q.2.2.1
    simp only [c2, lenSl_slice, lenStr_string, str_size, fpureA_some, fnilA_ptr, faddA_ptr, addr_add, Nat.zero_add, Nat.add_zero, fpureQ_k, fpureQ_nilA, fpureQ_addA, fpureQ_pureA, fpureQ_guardA, fpureQ_idxSlA, fpureQ_pickA, freadQ_loadA, freadQ_loadNA, freadQ_b2sA, freadQ_guardA, freadQ_slSlA, freadQ_k, fendA, fallA_one, fstillA_nil, fguardA_tt, fguardA_ff, fguardA_tf, fguardA_ft, fguardA_undef, fpickA_true, fpickA_false, fcondA_true, fcondA_false, binA_add, binA_sub, binA_mul, binA_eql, binA_neq, binA_lss, binA_leq, binA_gtr, binA_geq, unA_not, Bool.not_true, Bool.not_false, convA_int, extA_tuple, List.getElem?_toArray, List.getElem?_cons_zero, List.getElem?_cons_succ]
    exact no hf
  have c2 : decide ((img.length : Int) < (size : Int)) = false := decide_eq_false (by omega)
  simp only [c2, lenSl_slice, lenStr_string, str_size, fpureA_some, fnilA_ptr, faddA_ptr, addr_add, Nat.zero_add, Nat.add_zero, fpureQ_k, fpureQ_nilA, fpureQ_addA, fpureQ_pureA, fpureQ_guardA, fpureQ_idxSlA, fpureQ_pickA, freadQ_loadA, freadQ_loadNA, freadQ_b2sA, freadQ_guardA, freadQ_slSlA, freadQ_k, fendA, fallA_one, fstillA_nil, fguardA_tt, fguardA_ff, fguardA_tf, fguardA_ft, fguardA_undef, fpickA_true, fpickA_false, fcondA_true, fcondA_false, binA_add, binA_sub, binA_mul, binA_eql, binA_neq, binA_lss, binA_leq, binA_gtr, binA_geq, unA_not, Bool.not_true, Bool.not_false, convA_int, extA_tuple, List.getElem?_toArray, List.getElem?_cons_zero, List.getElem?_cons_succ, elx]
  refine loadA_at hb b3 rfl ?_
  simp only [e2, lenSl_slice, lenStr_string, str_size, fpureA_some, fnilA_ptr, faddA_ptr, addr_add, Nat.zero_add, Nat.add_zero, fpureQ_k, fpureQ_nilA, fpureQ_addA, fpureQ_pureA, fpureQ_guardA, fpureQ_idxSlA, fpureQ_pickA, freadQ_loadA, freadQ_loadNA, freadQ_b2sA, freadQ_guardA, freadQ_slSlA, freadQ_k, fendA, fallA_one, fstillA_nil, fguardA_tt, fguardA_ff, fguardA_tf, fguardA_ft, fguardA_undef, fpickA_true, fpickA_false, fcondA_true, fcondA_false, binA_add, binA_sub, binA_mul, binA_eql, binA_neq, binA_lss, binA_leq, binA_gtr, binA_geq, unA_not, Bool.not_true, Bool.not_false, convA_int, extA_tuple, List.getElem?_toArray, List.getElem?_cons_zero, List.getElem?_cons_succ]
  have hdm := Nat.div_add_mod img.length size
  rw [hm, Nat.add_zero] at hdm
  by_cases hmx : img.length ≤ 4096 * size
  rotate_left
  · have c3 : decide ((4096 : Int) < ((img.length / size : Nat) : Int)) = true := decide_eq_true (by
      have : 4096 < img.length / size := Nat.lt_of_not_le fun q => hmx (by have := Nat.mul_le_mul_left size q; rw [hdm] at this; omega)
      exact Int.ofNat_lt.2 this)
    have hf : jfits (size : Int) img.length = false := by
      rw [Bool.eq_false_iff]
      intro q
      rw [jfits_split, ht] at q
      exact hmx q.2.2.2
    simp only [c3, lenSl_slice, lenStr_string, str_size, fpureA_some, fnilA_ptr, faddA_ptr, addr_add, Nat.zero_add, Nat.add_zero, fpureQ_k, fpureQ_nilA, fpureQ_addA, fpureQ_pureA, fpureQ_guardA, fpureQ_idxSlA, fpureQ_pickA, freadQ_loadA, freadQ_loadNA, freadQ_b2sA, freadQ_guardA, freadQ_slSlA, freadQ_k, fendA, fallA_one, fstillA_nil, fguardA_tt, fguardA_ff, fguardA_tf, fguardA_ft, fguardA_undef, fpickA_true, fpickA_false, fcondA_true, fcondA_false, binA_add, binA_sub, binA_mul, binA_eql, binA_neq, binA_lss, binA_leq, binA_gtr, binA_geq, unA_not, Bool.not_true, Bool.not_false, convA_int, extA_tuple, List.getElem?_toArray, List.getElem?_cons_zero, List.getElem?_cons_succ]
    exact no hf
  have hcn : img.length / size ≤ 4096 := by
    exact Nat.div_le_of_le_mul (by rw [Nat.mul_comm]; exact hmx)
  have c3 : decide ((4096 : Int) < ((img.length / size : Nat) : Int)) = false := decide_eq_false (by generalize img.length / size = q at hcn; omega)
  have hf : jfits (size : Int) img.length = true := by rw [jfits_split, ht]; exact ⟨hsz, hm, hle, hmx⟩
  simp only [c3, lenSl_slice, lenStr_string, str_size, fpureA_some, fnilA_ptr, faddA_ptr, addr_add, Nat.zero_add, Nat.add_zero, fpureQ_k, fpureQ_nilA, fpureQ_addA, fpureQ_pureA, fpureQ_guardA, fpureQ_idxSlA, fpureQ_pickA, freadQ_loadA, freadQ_loadNA, freadQ_b2sA, freadQ_guardA, freadQ_slSlA, freadQ_k, fendA, fallA_one, fstillA_nil, fguardA_tt, fguardA_ff, fguardA_tf, fguardA_ft, fguardA_undef, fpickA_true, fpickA_false, fcondA_true, fcondA_false, binA_add, binA_sub, binA_mul, binA_eql, binA_neq, binA_lss, binA_leq, binA_gtr, binA_geq, unA_not, Bool.not_true, Bool.not_false, convA_int, extA_tuple, List.getElem?_toArray, List.getElem?_cons_zero, List.getElem?_cons_succ, newA_iff]
  refine ⟨by simp, by simp, ?_⟩
  have s4 : Step h2 ((h2.new [.slice none 0 0] 1).new [.int .i64 0] 1) [] [h2.next + 1, h2.next] := ((Step.refl h2 [] (by simp)).new _ _).new _ _
  have f4 : Fit w0 ((h2.new [.slice none 0 0] 1).new [.int .i64 0] 1) := (f2.new (by simp [isCell])).new (by simp [isCell])
  rw [show (h2.new [.slice none 0 0] 1).next = h2.next + 1 from rfl]
  have hb2 := f2.base
  refine storeA_at (cs := [.int .i64 0]) (by omega) (by simp) (by simp) rfl ?_
  simp only [List.set_cons_zero]
  have ep : ((h2.new [.slice none 0 0] 1).new [.int .i64 0] 1).put (h2.next + 1) [.int .i64 0] = (h2.new [.slice none 0 0] 1).new [.int .i64 0] 1 := by
    have := put_new (h := h2.new [.slice none 0 0] 1) (c := [.int .i64 0]) (z := [.int .i64 0]) (s := 1)
    exact this
  rw [ep]
  obtain ⟨h4, hh4⟩ : ∃ h4, h4 = (h2.new [.slice none 0 0] 1).new [.int .i64 0] 1 := ⟨_, rfl⟩
  have b9 : h4.blk h2.next = some [.slice none 0 0] := by rw [hh4]; simp
  have b10 : h4.blk (h2.next + 1) = some [.int .i64 0] := by rw [hh4]; simp
  have nx4 : h4.next = h2.next + 2 := by rw [hh4]; rfl
  rw [← hh4] at s4 f4 ⊢
  have l3 := f2.lt _ _ b3
  have l4 := f2.lt _ _ b4
  have b3' : h4.blk h.next = some [.int .i64 (size : Int)] := by rw [(s4.keep _ l3 (by simp)).1]; exact b3
  have b4' : h4.blk (h.next + 1) = some [.int .u64 (gen : Int)] := by rw [(s4.keep _ l4 (by simp)).1]; exact b4
  have v4 : Bs w0 h4 x img := v2.step f2 s4 (by simp)
  refine loadA_at hb b3' rfl ?_
  refine callA_of (Chunk_spec (n := size) (by omega) v.junk (by rw [ex]; rfl)) fun fv h5 ⟨sb, nb, e, bsb, bnb, q1, q2, q3, q4, s5⟩ f5 => ?_
  subst e
  have keep : ∀ b c, h4.blk b = some c → h5.blk b = some c := fun b c e => by rw [(s5.keep b (f4.lt _ _ e) (by simp)).1]; exact e
  have v5 : Bs w0 h5 x img := v4.step f4 s5 (by simp)
  have hxl : ∀ b, b ∈ sblk x → b < h.next := v.blk_lt f (by omega)
  have n45 := s5.next
  refine stream_loop (cnt := img.length / size) (gen := gen) f5 hs hcn (by rw [Nat.mul_comm]; exact hdm.symm) (keep _ _ b3') (keep _ _ b4') (keep _ _ b9) (keep _ _ b10) (by omega) (by omega) (by omega) (by omega) (by omega) (by omega) (by omega) (by omega) (by omega)
    bsb bnb (by omega) (by omega) v5 (fun b hb' => ?_) (fun b hb' => by have := hxl b hb'; omega) (fun h6 y U f6 ys c9 c10 vU hU => ?_)
  · have : b = h2.next ∨ b = h2.next + 1 := by simpa using hb'
    simp only [List.mem_cons, not_or]
    exact ⟨by omega, by omega, fun q => by have := hxl b q; omega⟩
  · refine loadA_at (by omega) c9 rfl ?_
    refine loadA_at (by omega) c10 rfl ?_
    unfold cutA
    simp only [retA_iff, oneOf_two]
    have hyj : y ≠ junk := by obtain ⟨a, c, e⟩ := vU.slice; rw [e]; simp [junk]
    refine ⟨by simp [hyj], .inr ⟨hf, y, U, rfl, vU, ?_⟩⟩
    have st : YStep 0 h h5 [] [h2.next, h2.next + 1] := ((((s2.less (T := []) (by simp)).trans s4).trans (s5.wide (T := [h2.next + 1, h2.next]) (T' := [h2.next, h2.next + 1]) (by simp) (fun b hb' => .inr ⟨by simp at hb' ⊢; omega, by simp at hb'; omega⟩))).y 0)
    exact ((st.trans ys).less (by simp +contextual)).cut
end
section
variable {w0 : World} {h : Hp}
theorem Sl.stepL {h' : Hp} {s n : Nat} {x : Value} {ys : List Value} (v : Sl w0 h s x n ys) (hx : ∀ b, b ∈ sblk x → b < h.next) {S S' : List Nat} (st : Step h h' S S') (hd : ∀ b, b ∈ sblk x → b ∉ S) : Sl w0 h' s x n ys := by
  obtain ⟨a, c, rfl, h1, h2, h3⟩ := v
  refine ⟨a, c, rfl, h1.frame fun b cs hb hbk => by rw [(st.keep b (hx b hb) (hd b hb)).1]; exact hbk, h2, ?_⟩
  rcases h3 with h3 | ⟨rfl, ad, rfl, h4, cs, h5⟩
  · exact .inl h3
  · obtain ⟨k1, k2⟩ := st.keep ad.block (hx _ (by simp [sblk])) (hd _ (by simp [sblk]))
    exact .inr ⟨rfl, ad, rfl, by rw [k2]; exact h4, cs, by rw [k1]; exact h5⟩
theorem Vec.sblk_eq {s n : Nat} {x : Value} {cs : List Value} {S : List Nat} (v : Vec w0 h s x n cs S) : sblk x = S := by
  rcases v with ⟨rfl, -, -, rfl⟩ | ⟨q, rfl, rfl, -⟩ <;> rfl
/-- A text is appended to a list of one's own. -/
theorem app_text {x : Value} {acc : List (List UInt8)} {U : List Nat} {t : List UInt8} {K : Kont} (hb : w0.heap.size ≤ h.next) (v : Vec w0 h 1 x acc.length (svs acc) U) (hn : acc.length ≤ 1000000000)
    (hk : ∀ x' h' S', Vec w0 h' 1 x' (acc ++ [t]).length (svs (acc ++ [t])) S' → Step h h' U S' → K x' h') :
    bslA [(0, 1, false, .string (str t))] (zerosL [(.string .empty)] 1) 1 1 (fun y => appA w0 1 16 x y K) h := by
  have hz : zerosL [(.string .empty : Value)] 1 = [.string .empty] := rfl
  rw [hz]
  simp only [bslA_iff, fillA_one, fillA_nil, List.set_cons_zero]
  refine ⟨rfl, by simp, ?_⟩
  have s1 : Step h (h.new [.string (str t)] 1) U U := (((Step.refl h U fun b hb => (v.lt b hb).2)).new _ _).less (by simp +contextual)
  refine appA_vec (m := 1) (ys := [.string (str t)]) (by simp; omega) (v.new _ _) (by rfl) (src_new hb rfl) rfl (by omega) (by omega) (by omega) fun x' h' S' v' st => ?_
  refine hk x' h' S' ?_ (s1.trans st)
  rw [List.length_append]
  simpa [svs] using v'
theorem Scan_loop {k0 : Value → Hp → Prop} : ∀ (m : Nat) (b : List UInt8) (h1 : Hp) (x8 x11 : Value) (acc : List (List UInt8)) (U : List Nat), b.length < m → b.length ≤ 1000000000 → w0.heap.size ≤ h1.next → Bs w0 h1 x8 b → Vec w0 h1 1 x11 acc.length (svs acc) U → acc.length + b.length ≤ 1000000000 →
    (∀ q, q ∈ sblk x8 → q ∉ U) → (∀ q, q ∈ sblk x8 → q < h1.next) → (∀ x' h' S', Vec w0 h' 1 x' (acc ++ recs m b).length (svs (acc ++ recs m b)) S' → Step h1 h' U S' → k0 x' h') →
    journal_Scan_L1 prog w0 k0 m x8 x11 h1 := by
  intro m
  induction m with
  | zero => intro b h1 x8 x11 acc U hlt; omega
  | succ m ih =>
    intro b h1 x8 x11 acc U hlt hl f v w ha hd hx hk
    obtain ⟨a, c, ex⟩ := v.slice
    have elx : lenSl x8 = some (.int .i64 (b.length : Int)) := by rw [ex]; rfl
    rw [journal_Scan_L1]
    simp only [journal_Scan_B1, elx, lenSl_slice, lenStr_string, str_size, fpureA_some, fnilA_ptr, faddA_ptr, addr_add, Nat.zero_add, Nat.add_zero, fpureQ_k, fpureQ_nilA, fpureQ_addA, fpureQ_pureA, fpureQ_guardA, fpureQ_idxSlA, fpureQ_pickA, freadQ_loadA, freadQ_loadNA, freadQ_b2sA, freadQ_guardA, freadQ_slSlA, freadQ_k, fendA, fallA_one, fstillA_nil, fguardA_tt, fguardA_ff, fguardA_tf, fguardA_ft, fguardA_undef, fpickA_true, fpickA_false, fcondA_true, fcondA_false, binA_add, binA_sub, binA_mul, binA_eql, binA_neq, binA_lss, binA_leq, binA_gtr, binA_geq, unA_not, Bool.not_true, Bool.not_false, convA_int, extA_tuple, List.getElem?_toArray, List.getElem?_cons_zero, List.getElem?_cons_succ]
    by_cases h4 : b.length < 4
    · have c1 : decide ((4 : Int) ≤ (b.length : Int)) = false := decide_eq_false (by omega)
      have e : recs (m + 1) b = [] := by rw [recs, if_pos h4]
      simp only [c1, lenSl_slice, lenStr_string, str_size, fpureA_some, fnilA_ptr, faddA_ptr, addr_add, Nat.zero_add, Nat.add_zero, fpureQ_k, fpureQ_nilA, fpureQ_addA, fpureQ_pureA, fpureQ_guardA, fpureQ_idxSlA, fpureQ_pickA, freadQ_loadA, freadQ_loadNA, freadQ_b2sA, freadQ_guardA, freadQ_slSlA, freadQ_k, fendA, fallA_one, fstillA_nil, fguardA_tt, fguardA_ff, fguardA_tf, fguardA_ft, fguardA_undef, fpickA_true, fpickA_false, fcondA_true, fcondA_false, binA_add, binA_sub, binA_mul, binA_eql, binA_neq, binA_lss, binA_leq, binA_gtr, binA_geq, unA_not, Bool.not_true, Bool.not_false, convA_int, extA_tuple, List.getElem?_toArray, List.getElem?_cons_zero, List.getElem?_cons_succ]
      rw [e, List.append_nil] at hk
      exact hk x11 h1 U w (.refl _ _ fun q hq => (w.lt q hq).2)
    · have c1 : decide ((4 : Int) ≤ (b.length : Int)) = true := decide_eq_true (by omega)
      simp only [c1, lenSl_slice, lenStr_string, str_size, fpureA_some, fnilA_ptr, faddA_ptr, addr_add, Nat.zero_add, Nat.add_zero, fpureQ_k, fpureQ_nilA, fpureQ_addA, fpureQ_pureA, fpureQ_guardA, fpureQ_idxSlA, fpureQ_pickA, freadQ_loadA, freadQ_loadNA, freadQ_b2sA, freadQ_guardA, freadQ_slSlA, freadQ_k, fendA, fallA_one, fstillA_nil, fguardA_tt, fguardA_ff, fguardA_tf, fguardA_ft, fguardA_undef, fpickA_true, fpickA_false, fcondA_true, fcondA_false, binA_add, binA_sub, binA_mul, binA_eql, binA_neq, binA_lss, binA_leq, binA_gtr, binA_geq, unA_not, Bool.not_true, Bool.not_false, convA_int, extA_tuple, List.getElem?_toArray, List.getElem?_cons_zero, List.getElem?_cons_succ]
      refine v.cut (lo := 0) (hi := 4) rfl rfl (by omega) (by omega) fun x1 _ _ v1 => ?_
      rw [List.drop_zero] at v1
      have hl4 : (b.take 4).length = 4 := by simp; omega
      refine v1.b2s ?_
      refine callA_of (NewReader_spec _ (by omega)) fun vr h2 ⟨e, w2, s2⟩ f2 => ?_
      subst e
      refine callA_of (RU32_spec w2) fun vn h3 ⟨e, w3, s3⟩ f3 => ?_
      subst e
      have r1 : ((⟨b.take 4, 0⟩ : RS).raw 4).1 = b.take 4 := by
        unfold RS.raw
        rw [if_neg (by simp), if_neg (by omega), if_neg (by simp only [hl4]; omega)]
        exact List.take_of_length_le (Nat.le_of_eq hl4)
      rw [r1]
      have hn := rdn_lt4 hl4
      have hrec : recs (m + 1) b = if 65536 < rdn (b.take 4) ∨ b.length - 4 < rdn (b.take 4) then [] else (b.drop 4).take (rdn (b.take 4)) :: recs m (b.drop (4 + rdn (b.take 4))) := by rw [recs, if_neg h4]
      obtain ⟨n, hn0⟩ : ∃ n, n = rdn (b.take 4) := ⟨_, rfl⟩
      rw [← hn0] at hn hrec
      have s13 : Step h1 h3 [] [] := (s2.trans s3).less (by simp)
      have e1 : IntKind.i64.wrap (n : Int) = (n : Int) := IntWalk.i64_in _ (by omega)
      have e2 : IntKind.i64.wrap ((b.length : Int) - 4) = (b.length : Int) - 4 := IntWalk.i64_in _ (by omega)
      have e3 : IntKind.i64.wrap (4 + (n : Int)) = ((4 + n : Nat) : Int) := by rw [IntWalk.i64_in _ (by omega)]; simp
      have w3' := w.frame s13 (by simp)
      have sU : Step h1 h3 U U := s13.wide (by simp) (fun q hq => .inr ⟨hq, (w.lt q hq).2⟩)
      simp only [← hn0, e1, lenSl_slice, lenStr_string, str_size, fpureA_some, fnilA_ptr, faddA_ptr, addr_add, Nat.zero_add, Nat.add_zero, fpureQ_k, fpureQ_nilA, fpureQ_addA, fpureQ_pureA, fpureQ_guardA, fpureQ_idxSlA, fpureQ_pickA, freadQ_loadA, freadQ_loadNA, freadQ_b2sA, freadQ_guardA, freadQ_slSlA, freadQ_k, fendA, fallA_one, fstillA_nil, fguardA_tt, fguardA_ff, fguardA_tf, fguardA_ft, fguardA_undef, fpickA_true, fpickA_false, fcondA_true, fcondA_false, binA_add, binA_sub, binA_mul, binA_eql, binA_neq, binA_lss, binA_leq, binA_gtr, binA_geq, unA_not, Bool.not_true, Bool.not_false, convA_int, extA_tuple, List.getElem?_toArray, List.getElem?_cons_zero, List.getElem?_cons_succ]
      have stop : recs (m + 1) b = [] → k0 x11 h3 := fun e => by
        rw [e, List.append_nil] at hk
        exact hk x11 h3 U w3' sU
      by_cases h5 : 65536 < n
      · have c2 : decide ((65536 : Int) < (n : Int)) = true := decide_eq_true (by omega)
        simp only [c2, lenSl_slice, lenStr_string, str_size, fpureA_some, fnilA_ptr, faddA_ptr, addr_add, Nat.zero_add, Nat.add_zero, fpureQ_k, fpureQ_nilA, fpureQ_addA, fpureQ_pureA, fpureQ_guardA, fpureQ_idxSlA, fpureQ_pickA, freadQ_loadA, freadQ_loadNA, freadQ_b2sA, freadQ_guardA, freadQ_slSlA, freadQ_k, fendA, fallA_one, fstillA_nil, fguardA_tt, fguardA_ff, fguardA_tf, fguardA_ft, fguardA_undef, fpickA_true, fpickA_false, fcondA_true, fcondA_false, binA_add, binA_sub, binA_mul, binA_eql, binA_neq, binA_lss, binA_leq, binA_gtr, binA_geq, unA_not, Bool.not_true, Bool.not_false, convA_int, extA_tuple, List.getElem?_toArray, List.getElem?_cons_zero, List.getElem?_cons_succ]
        exact stop (by rw [hrec, if_pos (.inl h5)])
      · have c2 : decide ((65536 : Int) < (n : Int)) = false := decide_eq_false (by omega)
        simp only [c2, elx, e2, lenSl_slice, lenStr_string, str_size, fpureA_some, fnilA_ptr, faddA_ptr, addr_add, Nat.zero_add, Nat.add_zero, fpureQ_k, fpureQ_nilA, fpureQ_addA, fpureQ_pureA, fpureQ_guardA, fpureQ_idxSlA, fpureQ_pickA, freadQ_loadA, freadQ_loadNA, freadQ_b2sA, freadQ_guardA, freadQ_slSlA, freadQ_k, fendA, fallA_one, fstillA_nil, fguardA_tt, fguardA_ff, fguardA_tf, fguardA_ft, fguardA_undef, fpickA_true, fpickA_false, fcondA_true, fcondA_false, binA_add, binA_sub, binA_mul, binA_eql, binA_neq, binA_lss, binA_leq, binA_gtr, binA_geq, unA_not, Bool.not_true, Bool.not_false, convA_int, extA_tuple, List.getElem?_toArray, List.getElem?_cons_zero, List.getElem?_cons_succ]
        by_cases h6 : b.length - 4 < n
        · have c3 : decide ((b.length : Int) - 4 < (n : Int)) = true := decide_eq_true (by omega)
          simp only [c3, lenSl_slice, lenStr_string, str_size, fpureA_some, fnilA_ptr, faddA_ptr, addr_add, Nat.zero_add, Nat.add_zero, fpureQ_k, fpureQ_nilA, fpureQ_addA, fpureQ_pureA, fpureQ_guardA, fpureQ_idxSlA, fpureQ_pickA, freadQ_loadA, freadQ_loadNA, freadQ_b2sA, freadQ_guardA, freadQ_slSlA, freadQ_k, fendA, fallA_one, fstillA_nil, fguardA_tt, fguardA_ff, fguardA_tf, fguardA_ft, fguardA_undef, fpickA_true, fpickA_false, fcondA_true, fcondA_false, binA_add, binA_sub, binA_mul, binA_eql, binA_neq, binA_lss, binA_leq, binA_gtr, binA_geq, unA_not, Bool.not_true, Bool.not_false, convA_int, extA_tuple, List.getElem?_toArray, List.getElem?_cons_zero, List.getElem?_cons_succ]
          exact stop (by rw [hrec, if_pos (.inr h6)])
        · have c3 : decide ((b.length : Int) - 4 < (n : Int)) = false := decide_eq_false (by omega)
          rw [if_neg (by omega)] at hrec
          simp only [c3, e3, lenSl_slice, lenStr_string, str_size, fpureA_some, fnilA_ptr, faddA_ptr, addr_add, Nat.zero_add, Nat.add_zero, fpureQ_k, fpureQ_nilA, fpureQ_addA, fpureQ_pureA, fpureQ_guardA, fpureQ_idxSlA, fpureQ_pickA, freadQ_loadA, freadQ_loadNA, freadQ_b2sA, freadQ_guardA, freadQ_slSlA, freadQ_k, fendA, fallA_one, fstillA_nil, fguardA_tt, fguardA_ff, fguardA_tf, fguardA_ft, fguardA_undef, fpickA_true, fpickA_false, fcondA_true, fcondA_false, binA_add, binA_sub, binA_mul, binA_eql, binA_neq, binA_lss, binA_leq, binA_gtr, binA_geq, unA_not, Bool.not_true, Bool.not_false, convA_int, extA_tuple, List.getElem?_toArray, List.getElem?_cons_zero, List.getElem?_cons_succ]
          have v3 : Bs w0 h3 x8 b := v.stepL hx s13 (by simp)
          refine v3.cut (lo := 4) (hi := 4 + n) rfl boundA_nat (by omega) (by omega) fun x2 _ _ v4 => ?_
          rw [cut_eq b 4 n] at v4
          refine v4.b2s ?_
          refine app_text f3.base w3' (by omega) fun x' h5 S5 w5 s5 => ?_
          have hx3 : ∀ q, q ∈ sblk x8 → q < h3.next := fun q hq => Nat.lt_of_lt_of_le (hx q hq) s13.1
          have v5 : Bs w0 h5 x8 b := v3.stepL hx3 s5 hd
          refine v5.cut (lo := 4 + n) (hi := b.length) boundA_nat (by rw [boundA_none]) (by omega) (Nat.le_refl _) fun x3 _ hx3' v6 => ?_
          rw [List.take_length] at v6
          have hl5 : (b.drop (4 + n)).length = b.length - (4 + n) := by simp
          refine ih (b.drop (4 + n)) h5 x3 x' (acc ++ [(b.drop 4).take n]) S5 (by omega) (by omega) (Nat.le_trans f3.base s5.1) v6 w5 (by rw [hl5]; simp; omega) (fun q hq => ?_) (fun q hq => ?_) (fun x9 h9 S9 w9 s9 => hk x9 h9 S9 ?_ ((sU.trans s5).trans s9))
          · rw [hx3'] at hq
            intro hq5
            rcases (s5.own q hq5).2 with e | e
            · exact hd q hq e
            · have := hx3 q hq; omega
          · rw [hx3'] at hq
            exact Nat.lt_of_lt_of_le (hx3 q hq) s5.1
          · rw [hrec]
            simpa using w9
def recsA (b : List UInt8) : List (List UInt8) := recs (b.length + 1) b
theorem jgo_total {size gen cnt : Nat} {img : List UInt8} (hs : size ≤ 4096) (hc : cnt ≤ 4096) : (jgo size gen img cnt 0).flatten.length ≤ 16777216 := by
  have h1 := jgo_flat (size := size) (gen := gen) (img := img) cnt 0
  have h2 : cnt * size ≤ 4096 * 4096 := Nat.mul_le_mul hc hs
  omega
theorem jfits_div {n : Int} {len : Nat} (h : jfits n len = true) : 512 ≤ n ∧ n ≤ 4096 ∧ len / n.toNat ≤ 4096 ∧ len = len / n.toNat * n.toNat := by
  obtain ⟨a, b, c, d⟩ := jfits_split.1 h
  have hr := jsize_range a
  refine ⟨hr.1, hr.2, Nat.div_le_of_le_mul (by rw [Nat.mul_comm]; exact d), ?_⟩
  have := Nat.div_add_mod len n.toNat
  rw [b, Nat.add_zero, Nat.mul_comm] at this
  exact this.symm
def jerr (n : Int) (len : Nat) : Int := if jfits n len = true then 0 else 1
def jrecs (n : Int) (gen : Nat) (img : List UInt8) : List (List UInt8) := if jfits n img.length = true then recsA (jall n.toNat gen img).flatten else []
def jcount (n : Int) (gen : Nat) (img : List UInt8) : Nat := if jfits n img.length = true then (jall n.toNat gen img).length else 0
theorem Scan_spec {x : Value} {img : List UInt8} {n : Int} {gen : Nat} (hn : -9223372036854775808 ≤ n ∧ n ≤ 9223372036854775807) (v : Bs w0 h x img) (hl : img.length ≤ 1000000000) :
    ACalls prog w0 n_journal_Scan [.int .i64 n, .int .u64 gen, x] h fun r h' => ∃ y U, r = .tuple #[y, .int .i64 (jerr n img.length)] ∧ Vec w0 h' 1 y (jrecs n gen img).length (svs (jrecs n gen img)) U ∧ Step h h' [] U := by
  refine ACalls.of_fit (by simpa using v.junk) fun f => c_journal_Scan (by simpa using v.junk) ?_
  simp only [s_journal_Scan]
  refine callA_of (stream_spec hn v hl) fun r h1 hr f1 => ?_
  rcases hr with ⟨hf, rfl, s1⟩ | ⟨hf, y, U, rfl, vU, s1⟩
  · have c1 : ((1 : Int) != 0) = true := rfl
    simp only [c1, lenSl_slice, lenStr_string, str_size, fpureA_some, fnilA_ptr, faddA_ptr, addr_add, Nat.zero_add, Nat.add_zero, fpureQ_k, fpureQ_nilA, fpureQ_addA, fpureQ_pureA, fpureQ_guardA, fpureQ_idxSlA, fpureQ_pickA, freadQ_loadA, freadQ_loadNA, freadQ_b2sA, freadQ_guardA, freadQ_slSlA, freadQ_k, fendA, fallA_one, fstillA_nil, fguardA_tt, fguardA_ff, fguardA_tf, fguardA_ft, fguardA_undef, fpickA_true, fpickA_false, fcondA_true, fcondA_false, binA_add, binA_sub, binA_mul, binA_eql, binA_neq, binA_lss, binA_leq, binA_gtr, binA_geq, unA_not, Bool.not_true, Bool.not_false, convA_int, extA_tuple, List.getElem?_toArray, List.getElem?_cons_zero, List.getElem?_cons_succ, retA_iff, oneOf_two, jerr, jrecs, hf]
    exact ⟨by simp, _, [], rfl, by simpa [svs] using Vec.nil, s1⟩
  · have c1 : ((0 : Int) != 0) = false := rfl
    obtain ⟨q1, q2, q3, q4⟩ := jfits_div hf
    have ht := jgo_total (size := n.toNat) (gen := gen) (img := img) (by omega) q3
    have e1 : jrecs n gen img = recsA (jall n.toNat gen img).flatten := by unfold jrecs; rw [if_pos hf]
    have e2 : jerr n img.length = 0 := by unfold jerr; rw [if_pos hf]
    simp only [c1, lenSl_slice, lenStr_string, str_size, fpureA_some, fnilA_ptr, faddA_ptr, addr_add, Nat.zero_add, Nat.add_zero, fpureQ_k, fpureQ_nilA, fpureQ_addA, fpureQ_pureA, fpureQ_guardA, fpureQ_idxSlA, fpureQ_pickA, freadQ_loadA, freadQ_loadNA, freadQ_b2sA, freadQ_guardA, freadQ_slSlA, freadQ_k, fendA, fallA_one, fstillA_nil, fguardA_tt, fguardA_ff, fguardA_tf, fguardA_ft, fguardA_undef, fpickA_true, fpickA_false, fcondA_true, fcondA_false, binA_add, binA_sub, binA_mul, binA_eql, binA_neq, binA_lss, binA_leq, binA_gtr, binA_geq, unA_not, Bool.not_true, Bool.not_false, convA_int, extA_tuple, List.getElem?_toArray, List.getElem?_cons_zero, List.getElem?_cons_succ, e1, e2]
    have hlt := fun b hb => (vU.lt b hb).2
    refine ⟨(jall n.toNat gen img).flatten.length + 1, ?_⟩
    refine Scan_loop _ (jall n.toNat gen img).flatten h1 y (.slice none 0 0) [] [] (by omega) (Nat.le_trans ht (by decide)) f1.base vU.sl .nil (by rw [List.length_nil, Nat.zero_add]; exact Nat.le_trans ht (by decide)) (by simp) (fun q hq => hlt q (by rwa [vU.sblk_eq] at hq)) (fun x' h' S' v' s' => ?_)
    simp only [retA_iff, oneOf_two]
    have hj : x' ≠ junk := by obtain ⟨a, c, e⟩ := v'.slice; rw [e]; simp [junk]
    refine ⟨by simp [hj], x', S', rfl, by simpa [recsA] using v', ?_⟩
    exact ((s1.less (T := []) (by simp)).trans s')
theorem Sectors_spec {x : Value} {img : List UInt8} {n : Int} {gen : Nat} (hn : -9223372036854775808 ≤ n ∧ n ≤ 9223372036854775807) (v : Bs w0 h x img) (hl : img.length ≤ 1000000000) :
    ACalls prog w0 n_journal_Sectors [.int .i64 n, .int .u64 gen, x] h fun r h' => r = .tuple #[.int .i64 (jcount n gen img : Int), .int .i64 (jerr n img.length)] ∧ Step h h' [] [] := by
  refine ACalls.of_fit (by simpa using v.junk) fun f => c_journal_Sectors (by simpa using v.junk) ?_
  simp only [s_journal_Sectors]
  refine callA_of (stream_spec hn v hl) fun r h1 hr f1 => ?_
  rcases hr with ⟨hf, rfl, s1⟩ | ⟨hf, y, U, rfl, vU, s1⟩
  · simp only [lenSl_slice, lenStr_string, str_size, fpureA_some, fnilA_ptr, faddA_ptr, addr_add, Nat.zero_add, Nat.add_zero, fpureQ_k, fpureQ_nilA, fpureQ_addA, fpureQ_pureA, fpureQ_guardA, fpureQ_idxSlA, fpureQ_pickA, freadQ_loadA, freadQ_loadNA, freadQ_b2sA, freadQ_guardA, freadQ_slSlA, freadQ_k, fendA, fallA_one, fstillA_nil, fguardA_tt, fguardA_ff, fguardA_tf, fguardA_ft, fguardA_undef, fpickA_true, fpickA_false, fcondA_true, fcondA_false, binA_add, binA_sub, binA_mul, binA_eql, binA_neq, binA_lss, binA_leq, binA_gtr, binA_geq, unA_not, Bool.not_true, Bool.not_false, convA_int, extA_tuple, List.getElem?_toArray, List.getElem?_cons_zero, List.getElem?_cons_succ, retA_iff, oneOf_two, jerr, jcount, hf]
    exact ⟨by simp, rfl, s1⟩
  · simp only [lenSl_slice, lenStr_string, str_size, fpureA_some, fnilA_ptr, faddA_ptr, addr_add, Nat.zero_add, Nat.add_zero, fpureQ_k, fpureQ_nilA, fpureQ_addA, fpureQ_pureA, fpureQ_guardA, fpureQ_idxSlA, fpureQ_pickA, freadQ_loadA, freadQ_loadNA, freadQ_b2sA, freadQ_guardA, freadQ_slSlA, freadQ_k, fendA, fallA_one, fstillA_nil, fguardA_tt, fguardA_ff, fguardA_tf, fguardA_ft, fguardA_undef, fpickA_true, fpickA_false, fcondA_true, fcondA_false, binA_add, binA_sub, binA_mul, binA_eql, binA_neq, binA_lss, binA_leq, binA_gtr, binA_geq, unA_not, Bool.not_true, Bool.not_false, convA_int, extA_tuple, List.getElem?_toArray, List.getElem?_cons_zero, List.getElem?_cons_succ, retA_iff, oneOf_two, jerr, jcount, hf]
    exact ⟨by simp, rfl, s1.less (by simp)⟩
/-! ### The document -/
theorem number_loop {k0 : Value → Hp → Prop} {x : Value} {l : List UInt8} (v : Bs w0 h x l) (hl : l.length ≤ 4) : ∀ (post pre : List UInt8), pre ++ post = l → k0 (.int .u64 (rdn l : Int)) h →
    dedupref07_number_L1 prog w0 k0 (post.length + 1) x (.int .u64 (rdn pre : Int)) (.int .i64 (pre.length : Int)) h := by
  obtain ⟨a, c, ex⟩ := v.slice
  have elx : lenSl x = some (.int .i64 (l.length : Int)) := by rw [ex]; rfl
  have bnd : ∀ q : List UInt8, rdn q < 256 ^ q.length := fun q => by
    have : ∀ (q : List UInt8) (a : Nat), q.foldl (fun n b => n * 256 + b.toNat) a < (a + 1) * 256 ^ q.length := by
      intro q
      induction q with
      | nil => intro a; simp
      | cons b q ih =>
        intro a
        have h1 := ih (a * 256 + b.toNat)
        have h2 := b.toNat_lt
        have h3 : (a * 256 + b.toNat + 1) * 256 ^ q.length ≤ (a + 1) * 256 * 256 ^ q.length := Nat.mul_le_mul_right _ (by omega)
        rw [List.foldl_cons, List.length_cons, Nat.pow_succ, Nat.mul_comm (256 ^ q.length), ← Nat.mul_assoc]
        omega
    have := this q 0
    simpa [rdn] using this
  intro post
  induction post with
  | nil =>
    intro pre he hk
    have : pre = l := by simpa using he
    subst this
    rw [List.length_nil, dedupref07_number_L1]
    simp only [dedupref07_number_B1, elx, lenSl_slice, lenStr_string, str_size, fpureA_some, fnilA_ptr, faddA_ptr, addr_add, Nat.zero_add, Nat.add_zero, fpureQ_k, fpureQ_nilA, fpureQ_addA, fpureQ_pureA, fpureQ_guardA, fpureQ_idxSlA, fpureQ_pickA, freadQ_loadA, freadQ_loadNA, freadQ_b2sA, freadQ_guardA, freadQ_slSlA, freadQ_k, fendA, fallA_one, fstillA_nil, fguardA_tt, fguardA_ff, fguardA_tf, fguardA_ft, fguardA_undef, fpickA_true, fpickA_false, fcondA_true, fcondA_false, binA_add, binA_sub, binA_mul, binA_eql, binA_neq, binA_lss, binA_leq, binA_gtr, binA_geq, unA_not, Bool.not_true, Bool.not_false, convA_int, extA_tuple, List.getElem?_toArray, List.getElem?_cons_zero, List.getElem?_cons_succ, Int.lt_irrefl, decide_false]
    exact hk
  | cons b post ih =>
    intro pre he hk
    have hlen : pre.length + (post.length + 1) = l.length := by rw [← he]; simp
    have hg : l[pre.length]? = some b := by rw [← he]; simp
    have c1 : decide ((pre.length : Int) < (l.length : Int)) = true := decide_eq_true (by omega)
    have hp := bnd pre
    have hp3 : rdn pre < 16777216 := Nat.lt_of_lt_of_le hp (Nat.le_trans (Nat.pow_le_pow_right (by omega) (by omega : pre.length ≤ 3)) (by decide))
    have hb := b.toNat_lt
    have e1 : IntKind.u64.wrap ((rdn pre : Int) * 256) = ((rdn pre * 256 : Nat) : Int) := by rw [IntWalk.u64_in _ (by omega)]; simp
    have e2 : IntKind.u64.wrap ((b.toNat : Nat) : Int) = ((b.toNat : Nat) : Int) := IntWalk.u64_in _ (by omega)
    have e3 : IntKind.u64.wrap (((rdn pre * 256 : Nat) : Int) + ((b.toNat : Nat) : Int)) = ((rdn (pre ++ [b]) : Nat) : Int) := by
      rw [IntWalk.u64_in _ (by omega)]
      simp [rdn]
    have e6 : IntKind.i64.wrap ((pre.length : Int) + 1) = (((pre ++ [b]).length : Nat) : Int) := by rw [IntWalk.i64_in _ (by omega)]; simp
    rw [List.length_cons, dedupref07_number_L1]
    simp only [dedupref07_number_B1, elx, lenSl_slice, lenStr_string, str_size, fpureA_some, fnilA_ptr, faddA_ptr, addr_add, Nat.zero_add, Nat.add_zero, fpureQ_k, fpureQ_nilA, fpureQ_addA, fpureQ_pureA, fpureQ_guardA, fpureQ_idxSlA, fpureQ_pickA, freadQ_loadA, freadQ_loadNA, freadQ_b2sA, freadQ_guardA, freadQ_slSlA, freadQ_k, fendA, fallA_one, fstillA_nil, fguardA_tt, fguardA_ff, fguardA_tf, fguardA_ft, fguardA_undef, fpickA_true, fpickA_false, fcondA_true, fcondA_false, binA_add, binA_sub, binA_mul, binA_eql, binA_neq, binA_lss, binA_leq, binA_gtr, binA_geq, unA_not, Bool.not_true, Bool.not_false, convA_int, extA_tuple, List.getElem?_toArray, List.getElem?_cons_zero, List.getElem?_cons_succ, c1, e1]
    rw [ex]
    have v' := v
    rw [ex] at v'
    refine idx_load1 v'.src (by simp) (by rw [bvs_get, hg]; rfl) ?_
    simp only [bv, lenSl_slice, lenStr_string, str_size, fpureA_some, fnilA_ptr, faddA_ptr, addr_add, Nat.zero_add, Nat.add_zero, fpureQ_k, fpureQ_nilA, fpureQ_addA, fpureQ_pureA, fpureQ_guardA, fpureQ_idxSlA, fpureQ_pickA, freadQ_loadA, freadQ_loadNA, freadQ_b2sA, freadQ_guardA, freadQ_slSlA, freadQ_k, fendA, fallA_one, fstillA_nil, fguardA_tt, fguardA_ff, fguardA_tf, fguardA_ft, fguardA_undef, fpickA_true, fpickA_false, fcondA_true, fcondA_false, binA_add, binA_sub, binA_mul, binA_eql, binA_neq, binA_lss, binA_leq, binA_gtr, binA_geq, unA_not, Bool.not_true, Bool.not_false, convA_int, extA_tuple, List.getElem?_toArray, List.getElem?_cons_zero, List.getElem?_cons_succ, e2, e3, e6]
    rw [← ex]
    exact ih (pre ++ [b]) (by simpa using he) hk
theorem xnumber_spec {x : Value} {l : List UInt8} (v : Bs w0 h x l) (hl : l.length ≤ 4) : ACalls prog w0 n_dedupref07_number [x] h fun r h' => r = .int .u64 (rdn l : Int) ∧ h' = h := by
  refine ACalls.of_fit (by simpa using v.junk) fun f => c_dedupref07_number (by simpa using v.junk) ?_
  simp only [s_dedupref07_number]
  refine ⟨l.length + 1, ?_⟩
  refine number_loop v hl l [] rfl ?_
  simp only [retA_iff, oneOf_one]
  exact ⟨by simp, trivial, trivial⟩
theorem xsame_loop {k0 kr : Value → Hp → Prop} {a a' : Option Addr} {c c' : Nat} {l m : List UInt8} (v : Bs w0 h (.slice a l.length c) l) (w : Bs w0 h (.slice a' m.length c') m) (hlm : l.length = m.length) (hl : l.length ≤ 1000000000) :
    ∀ (post pre : List UInt8) (post' pre' : List UInt8), pre ++ post = l → pre' ++ post' = m → pre.length = pre'.length → (post = post' → k0 (.bool false) h) → (post ≠ post' → kr (.bool false) h) →
    dedupref07_same_L1 prog w0 k0 kr (post.length + 1) (.slice a l.length c) (.slice a' m.length c') (.bool false) (.int .i64 (pre.length : Int)) h := by
  intro post
  induction post with
  | nil =>
    intro pre post' pre' he he' hp hk hkr
    have : pre = l := by simpa using he
    subst this
    have : post' = [] := by
      have := congrArg List.length he'
      simp at this
      exact List.eq_nil_of_length_eq_zero (by omega)
    rw [List.length_nil, dedupref07_same_L1]
    simp only [dedupref07_same_B1, lenSl_slice, lenStr_string, str_size, fpureA_some, fnilA_ptr, faddA_ptr, addr_add, Nat.zero_add, Nat.add_zero, fpureQ_k, fpureQ_nilA, fpureQ_addA, fpureQ_pureA, fpureQ_guardA, fpureQ_idxSlA, fpureQ_pickA, freadQ_loadA, freadQ_loadNA, freadQ_b2sA, freadQ_guardA, freadQ_slSlA, freadQ_k, fendA, fallA_one, fstillA_nil, fguardA_tt, fguardA_ff, fguardA_tf, fguardA_ft, fguardA_undef, fpickA_true, fpickA_false, fcondA_true, fcondA_false, binA_add, binA_sub, binA_mul, binA_eql, binA_neq, binA_lss, binA_leq, binA_gtr, binA_geq, unA_not, Bool.not_true, Bool.not_false, convA_int, extA_tuple, List.getElem?_toArray, List.getElem?_cons_zero, List.getElem?_cons_succ, Int.lt_irrefl, decide_false]
    exact hk this.symm
  | cons b post ih =>
    intro pre post' pre' he he' hp hk hkr
    have hlen : pre.length + (post.length + 1) = l.length := by rw [← he]; simp
    cases post' with
    | nil =>
      have := congrArg List.length he'
      simp at this
      omega
    | cons b' post' =>
      have hg : l[pre.length]? = some b := by rw [← he]; simp
      have hg' : m[pre.length]? = some b' := by rw [← he', hp]; simp
      have c1 : decide ((pre.length : Int) < (l.length : Int)) = true := decide_eq_true (by omega)
      have e6 : IntKind.i64.wrap ((pre.length : Int) + 1) = ((pre.length + 1 : Nat) : Int) := by rw [IntWalk.i64_in _ (by omega)]; simp
      rw [List.length_cons, dedupref07_same_L1]
      simp only [dedupref07_same_B1, lenSl_slice, lenStr_string, str_size, fpureA_some, fnilA_ptr, faddA_ptr, addr_add, Nat.zero_add, Nat.add_zero, fpureQ_k, fpureQ_nilA, fpureQ_addA, fpureQ_pureA, fpureQ_guardA, fpureQ_idxSlA, fpureQ_pickA, freadQ_loadA, freadQ_loadNA, freadQ_b2sA, freadQ_guardA, freadQ_slSlA, freadQ_k, fendA, fallA_one, fstillA_nil, fguardA_tt, fguardA_ff, fguardA_tf, fguardA_ft, fguardA_undef, fpickA_true, fpickA_false, fcondA_true, fcondA_false, binA_add, binA_sub, binA_mul, binA_eql, binA_neq, binA_lss, binA_leq, binA_gtr, binA_geq, unA_not, Bool.not_true, Bool.not_false, convA_int, extA_tuple, List.getElem?_toArray, List.getElem?_cons_zero, List.getElem?_cons_succ, c1]
      refine idx_load1 v.src (by simp) (by rw [bvs_get, hg]; rfl) ?_
      refine idx_load1 w.src (by simp) (by rw [bvs_get, hg']; rfl) ?_
      simp only [bv_ne, lenSl_slice, lenStr_string, str_size, fpureA_some, fnilA_ptr, faddA_ptr, addr_add, Nat.zero_add, Nat.add_zero, fpureQ_k, fpureQ_nilA, fpureQ_addA, fpureQ_pureA, fpureQ_guardA, fpureQ_idxSlA, fpureQ_pickA, freadQ_loadA, freadQ_loadNA, freadQ_b2sA, freadQ_guardA, freadQ_slSlA, freadQ_k, fendA, fallA_one, fstillA_nil, fguardA_tt, fguardA_ff, fguardA_tf, fguardA_ft, fguardA_undef, fpickA_true, fpickA_false, fcondA_true, fcondA_false, binA_add, binA_sub, binA_mul, binA_eql, binA_neq, binA_lss, binA_leq, binA_gtr, binA_geq, unA_not, Bool.not_true, Bool.not_false, convA_int, extA_tuple, List.getElem?_toArray, List.getElem?_cons_zero, List.getElem?_cons_succ]
      by_cases e : b = b'
      · have c2 : decide (b ≠ b') = false := decide_eq_false (by simpa using e)
        simp only [c2, lenSl_slice, lenStr_string, str_size, fpureA_some, fnilA_ptr, faddA_ptr, addr_add, Nat.zero_add, Nat.add_zero, fpureQ_k, fpureQ_nilA, fpureQ_addA, fpureQ_pureA, fpureQ_guardA, fpureQ_idxSlA, fpureQ_pickA, freadQ_loadA, freadQ_loadNA, freadQ_b2sA, freadQ_guardA, freadQ_slSlA, freadQ_k, fendA, fallA_one, fstillA_nil, fguardA_tt, fguardA_ff, fguardA_tf, fguardA_ft, fguardA_undef, fpickA_true, fpickA_false, fcondA_true, fcondA_false, binA_add, binA_sub, binA_mul, binA_eql, binA_neq, binA_lss, binA_leq, binA_gtr, binA_geq, unA_not, Bool.not_true, Bool.not_false, convA_int, extA_tuple, List.getElem?_toArray, List.getElem?_cons_zero, List.getElem?_cons_succ, e6]
        have := ih (pre ++ [b]) post' (pre' ++ [b']) (by simpa using he) (by simpa using he') (by simp [hp]) (fun q => hk (by rw [e, q])) (fun q => hkr (by rw [e]; simpa using q))
        simpa using this
      · have c2 : decide (b ≠ b') = true := decide_eq_true e
        simp only [c2, lenSl_slice, lenStr_string, str_size, fpureA_some, fnilA_ptr, faddA_ptr, addr_add, Nat.zero_add, Nat.add_zero, fpureQ_k, fpureQ_nilA, fpureQ_addA, fpureQ_pureA, fpureQ_guardA, fpureQ_idxSlA, fpureQ_pickA, freadQ_loadA, freadQ_loadNA, freadQ_b2sA, freadQ_guardA, freadQ_slSlA, freadQ_k, fendA, fallA_one, fstillA_nil, fguardA_tt, fguardA_ff, fguardA_tf, fguardA_ft, fguardA_undef, fpickA_true, fpickA_false, fcondA_true, fcondA_false, binA_add, binA_sub, binA_mul, binA_eql, binA_neq, binA_lss, binA_leq, binA_gtr, binA_geq, unA_not, Bool.not_true, Bool.not_false, convA_int, extA_tuple, List.getElem?_toArray, List.getElem?_cons_zero, List.getElem?_cons_succ]
        exact hkr (by simp [e])
theorem xsame_spec {x y : Value} {l m : List UInt8} (v : Bs w0 h x l) (w : Bs w0 h y m) (hl : l.length ≤ 1000000000) :
    ACalls prog w0 n_dedupref07_same [x, y] h fun r h' => r = .bool (decide (l = m)) ∧ h' = h := by
  refine ACalls.of_fit (by simpa using ⟨v.junk, w.junk⟩) fun f => c_dedupref07_same (by simpa using ⟨v.junk, w.junk⟩) ?_
  obtain ⟨a, c, rfl⟩ := v.slice
  obtain ⟨a', c', rfl⟩ := w.slice
  simp only [s_dedupref07_same, lenSl_slice, lenStr_string, str_size, fpureA_some, fnilA_ptr, faddA_ptr, addr_add, Nat.zero_add, Nat.add_zero, fpureQ_k, fpureQ_nilA, fpureQ_addA, fpureQ_pureA, fpureQ_guardA, fpureQ_idxSlA, fpureQ_pickA, freadQ_loadA, freadQ_loadNA, freadQ_b2sA, freadQ_guardA, freadQ_slSlA, freadQ_k, fendA, fallA_one, fstillA_nil, fguardA_tt, fguardA_ff, fguardA_tf, fguardA_ft, fguardA_undef, fpickA_true, fpickA_false, fcondA_true, fcondA_false, binA_add, binA_sub, binA_mul, binA_eql, binA_neq, binA_lss, binA_leq, binA_gtr, binA_geq, unA_not, Bool.not_true, Bool.not_false, convA_int, extA_tuple, List.getElem?_toArray, List.getElem?_cons_zero, List.getElem?_cons_succ]
  by_cases hlm : l.length = m.length
  · have c1 : ((l.length : Int) != (m.length : Int)) = false := by rw [hlm]; simp
    simp only [c1, lenSl_slice, lenStr_string, str_size, fpureA_some, fnilA_ptr, faddA_ptr, addr_add, Nat.zero_add, Nat.add_zero, fpureQ_k, fpureQ_nilA, fpureQ_addA, fpureQ_pureA, fpureQ_guardA, fpureQ_idxSlA, fpureQ_pickA, freadQ_loadA, freadQ_loadNA, freadQ_b2sA, freadQ_guardA, freadQ_slSlA, freadQ_k, fendA, fallA_one, fstillA_nil, fguardA_tt, fguardA_ff, fguardA_tf, fguardA_ft, fguardA_undef, fpickA_true, fpickA_false, fcondA_true, fcondA_false, binA_add, binA_sub, binA_mul, binA_eql, binA_neq, binA_lss, binA_leq, binA_gtr, binA_geq, unA_not, Bool.not_true, Bool.not_false, convA_int, extA_tuple, List.getElem?_toArray, List.getElem?_cons_zero, List.getElem?_cons_succ]
    refine ⟨l.length + 1, xsame_loop v w hlm hl l [] m [] rfl rfl rfl (fun e => ?_) (fun e => ?_)⟩
    · simp only [retA_iff, oneOf_one]; exact ⟨by simp, by simp [e], by trivial⟩
    · simp only [retA_iff, oneOf_one]; exact ⟨by simp, by simp [e], by trivial⟩
  · have c1 : ((l.length : Int) != (m.length : Int)) = true := by rw [bne_iff_ne]; omega
    have : l ≠ m := fun e => hlm (by rw [e])
    simp only [c1, lenSl_slice, lenStr_string, str_size, fpureA_some, fnilA_ptr, faddA_ptr, addr_add, Nat.zero_add, Nat.add_zero, fpureQ_k, fpureQ_nilA, fpureQ_addA, fpureQ_pureA, fpureQ_guardA, fpureQ_idxSlA, fpureQ_pickA, freadQ_loadA, freadQ_loadNA, freadQ_b2sA, freadQ_guardA, freadQ_slSlA, freadQ_k, fendA, fallA_one, fstillA_nil, fguardA_tt, fguardA_ff, fguardA_tf, fguardA_ft, fguardA_undef, fpickA_true, fpickA_false, fcondA_true, fcondA_false, binA_add, binA_sub, binA_mul, binA_eql, binA_neq, binA_lss, binA_leq, binA_gtr, binA_geq, unA_not, Bool.not_true, Bool.not_false, convA_int, extA_tuple, List.getElem?_toArray, List.getElem?_cons_zero, List.getElem?_cons_succ, retA_iff, oneOf_one]
    exact ⟨by simp, by simp [this], by trivial⟩
theorem right_spec {x : Value} {b : List UInt8} {size gen i : Nat} (hs : 512 ≤ size ∧ size ≤ 4096) (hg : gen < 18446744073709551616) (hi : i < 4294967296) (v : Bs w0 h x b) (hb : b.length = size) :
    ACalls prog w0 n_dedupref07_right [.int .i64 size, .int .u64 gen, .int .i64 i, x] h fun r h' => Step h h' [] [] ∧ ∃ y, r = .tuple #[y, .bool (jright size gen i b).isSome] ∧
      ∀ own, jright size gen i b = some own → Bs w0 h' y own ∧ sblk y = sblk x := by
  refine ACalls.of_fit (by simpa using v.junk) fun f => c_dedupref07_right (by simpa using v.junk) ?_
  simp only [s_dedupref07_right]
  refine v.cut (lo := 16) (hi := 20) rfl rfl (by omega) (by omega) fun x1 _ _ v1 => ?_
  rw [cut_eq b 16 4] at v1
  have hl4 : ((b.drop 16).take 4).length = 4 := by simp; omega
  refine callA_of (xnumber_spec v1 (by omega)) fun vn h2 ⟨e, e'⟩ f2 => ?_
  subst e
  have e3 := e'.symm
  subst e3
  have hn := rdn_lt4 hl4
  have hown : jown size b = if size - 24 < rdn ((b.drop 16).take 4) then none else some ((b.drop 24).take (rdn ((b.drop 16).take 4))) := rfl
  obtain ⟨n, hn0⟩ : ∃ n, n = rdn ((b.drop 16).take 4) := ⟨_, rfl⟩
  rw [← hn0] at hn hown
  have e1 : IntKind.i64.wrap (n : Int) = (n : Int) := IntWalk.i64_in _ (by omega)
  have e2 : IntKind.i64.wrap ((size : Int) - 24) = (size : Int) - 24 := IntWalk.i64_in _ (by omega)
  have e4 : IntKind.u64.wrap ((size : Int) - 24) = (size : Int) - 24 := IntWalk.u64_in _ (by omega)
  have e3 : IntKind.i64.wrap (24 + (n : Int)) = ((24 + n : Nat) : Int) := by rw [IntWalk.i64_in _ (by omega)]; simp
  simp only [← hn0, lenSl_slice, lenStr_string, str_size, fpureA_some, fnilA_ptr, faddA_ptr, addr_add, Nat.zero_add, Nat.add_zero, fpureQ_k, fpureQ_nilA, fpureQ_addA, fpureQ_pureA, fpureQ_guardA, fpureQ_idxSlA, fpureQ_pickA, freadQ_loadA, freadQ_loadNA, freadQ_b2sA, freadQ_guardA, freadQ_slSlA, freadQ_k, fendA, fallA_one, fstillA_nil, fguardA_tt, fguardA_ff, fguardA_tf, fguardA_ft, fguardA_undef, fpickA_true, fpickA_false, fcondA_true, fcondA_false, binA_add, binA_sub, binA_mul, binA_eql, binA_neq, binA_lss, binA_leq, binA_gtr, binA_geq, unA_not, Bool.not_true, Bool.not_false, convA_int, extA_tuple, List.getElem?_toArray, List.getElem?_cons_zero, List.getElem?_cons_succ, e1, e2, e4, e3]
  by_cases hlt : size - 24 < n
  · have c1 : decide ((size : Int) - 24 < (n : Int)) = true := decide_eq_true (by omega)
    rw [if_pos hlt] at hown
    have e4 : jright size gen i b = none := by unfold jright; rw [hown]
    simp only [c1, lenSl_slice, lenStr_string, str_size, fpureA_some, fnilA_ptr, faddA_ptr, addr_add, Nat.zero_add, Nat.add_zero, fpureQ_k, fpureQ_nilA, fpureQ_addA, fpureQ_pureA, fpureQ_guardA, fpureQ_idxSlA, fpureQ_pickA, freadQ_loadA, freadQ_loadNA, freadQ_b2sA, freadQ_guardA, freadQ_slSlA, freadQ_k, fendA, fallA_one, fstillA_nil, fguardA_tt, fguardA_ff, fguardA_tf, fguardA_ft, fguardA_undef, fpickA_true, fpickA_false, fcondA_true, fcondA_false, binA_add, binA_sub, binA_mul, binA_eql, binA_neq, binA_lss, binA_leq, binA_gtr, binA_geq, unA_not, Bool.not_true, Bool.not_false, convA_int, extA_tuple, List.getElem?_toArray, List.getElem?_cons_zero, List.getElem?_cons_succ, retA_iff, oneOf_two, e4]
    exact ⟨by simp, .refl _ _ (by simp), _, rfl, by simp⟩
  · have c1 : decide ((size : Int) - 24 < (n : Int)) = false := decide_eq_false (by omega)
    rw [if_neg hlt] at hown
    simp only [c1, lenSl_slice, lenStr_string, str_size, fpureA_some, fnilA_ptr, faddA_ptr, addr_add, Nat.zero_add, Nat.add_zero, fpureQ_k, fpureQ_nilA, fpureQ_addA, fpureQ_pureA, fpureQ_guardA, fpureQ_idxSlA, fpureQ_pickA, freadQ_loadA, freadQ_loadNA, freadQ_b2sA, freadQ_guardA, freadQ_slSlA, freadQ_k, fendA, fallA_one, fstillA_nil, fguardA_tt, fguardA_ff, fguardA_tf, fguardA_ft, fguardA_undef, fpickA_true, fpickA_false, fcondA_true, fcondA_false, binA_add, binA_sub, binA_mul, binA_eql, binA_neq, binA_lss, binA_leq, binA_gtr, binA_geq, unA_not, Bool.not_true, Bool.not_false, convA_int, extA_tuple, List.getElem?_toArray, List.getElem?_cons_zero, List.getElem?_cons_succ, e1, e3]
    refine v.cut (lo := 24) (hi := 24 + n) rfl boundA_nat (by omega) (by omega) fun x2 _ hx2 v3 => ?_
    rw [cut_eq b 24 n] at v3
    have hl : ((b.drop 24).take n).length ≤ size - 24 := by simp; omega
    obtain ⟨own, ho⟩ : ∃ own, own = (b.drop 24).take n := ⟨_, rfl⟩
    rw [← ho] at v3 hl hown
    obtain ⟨a2, c2, e5⟩ := v3.slice
    have v3' := v3
    rw [e5] at v3'
    have hc := Bytes_spec (w0 := w0) (h := h) (gen := gen) hs hg hi hl v3'.src
    rw [← e5] at hc
    refine callA_of hc fun vs h3 ⟨S3, g3, s3⟩ f3 => ?_
    have v4 : Bs w0 h3 x b := v.step f s3 (by simp)
    have hsl := sec_length gen i (by omega) hl
    have g4 : Bs w0 h3 vs (sec size gen i own) := by
      have := g3.sl
      unfold Bs
      rw [hsl]
      exact this
    refine callA_of (xsame_spec v4 g4 (by omega)) fun vb h4 ⟨e6, e7⟩ f4 => ?_
    subst e6 e7
    simp only [retA_iff, oneOf_two]
    have e8 : jright size gen i b = if b = sec size gen i own then some own else none := by unfold jright; rw [hown]
    refine ⟨by simp [v3.junk], s3.less (by simp), x2, ?_, fun own' he => ?_⟩
    · rw [e8]
      by_cases q : b = sec size gen i own
      · rw [if_pos q]; simp [← q]
      · rw [if_neg q]; simp [q]
    · rw [e8] at he
      split at he
      · simp at he
        subst he
        exact ⟨v3.step f s3 (by simp), hx2⟩
      · simp at he
end
theorem jgo_get {size gen : Nat} {img own : List UInt8} : ∀ (r k i : Nat), (jgo size gen img r k)[i]? = some own → jright size gen (k + i) (jat size img (k + i)) = some own := by
  intro r
  induction r with
  | zero => intro k i h; simp [jgo] at h
  | succ r ih =>
    intro k i h
    rw [jgo] at h
    split at h
    · simp at h
    · rename_i o e
      cases i with
      | zero => simp at h; subst h; exact e
      | succ i =>
        have := ih (k + 1) i (by simpa using h)
        rwa [show k + 1 + i = k + (i + 1) by omega] at this
theorem jgo_len {size gen : Nat} {img : List UInt8} : ∀ (r k : Nat), (jgo size gen img r k).length ≤ r := by
  intro r
  induction r with
  | zero => intro k; simp [jgo]
  | succ r ih =>
    intro k
    rw [jgo]
    split
    · simp
    · have := ih (k + 1)
      simp
      omega
section
variable {w0 : World} {h : Hp}
theorem fits_spec {x : Value} {img : List UInt8} {n : Int} (hn : -9223372036854775808 ≤ n ∧ n ≤ 9223372036854775807) (v : Bs w0 h x img) (hl : img.length ≤ 1000000000) :
    ACalls prog w0 n_dedupref07_fits [.int .i64 n, x] h fun r h' => r = .bool (jfits n img.length) ∧ h' = h := by
  refine ACalls.of_fit (by simpa using v.junk) fun f => c_dedupref07_fits (by simpa using v.junk) ?_
  obtain ⟨a, c, ex⟩ := v.slice
  have elx : lenSl x = some (.int .i64 (img.length : Int)) := by rw [ex]; rfl
  simp only [s_dedupref07_fits]
  refine callA_of (power_spec n hn) fun r h' ⟨e, e'⟩ _ => ?_
  subst e
  have e3 := e'.symm
  subst e3
  have fin : ∀ q, jfits n img.length = q → retA [.bool q] (fun r h' => r = .bool (jfits n img.length) ∧ h' = h) h := fun q hq => by
    simp only [retA_iff, oneOf_one]
    exact ⟨by simp, by rw [hq], trivial⟩
  by_cases hsz : jsize n = true
  rotate_left
  · have hsz' : jsize n = false := by simpa using hsz
    simp only [hsz', lenSl_slice, lenStr_string, str_size, fpureA_some, fnilA_ptr, faddA_ptr, addr_add, Nat.zero_add, Nat.add_zero, fpureQ_k, fpureQ_nilA, fpureQ_addA, fpureQ_pureA, fpureQ_guardA, fpureQ_idxSlA, fpureQ_pickA, freadQ_loadA, freadQ_loadNA, freadQ_b2sA, freadQ_guardA, freadQ_slSlA, freadQ_k, fendA, fallA_one, fstillA_nil, fguardA_tt, fguardA_ff, fguardA_tf, fguardA_ft, fguardA_undef, fpickA_true, fpickA_false, fcondA_true, fcondA_false, binA_add, binA_sub, binA_mul, binA_eql, binA_neq, binA_lss, binA_leq, binA_gtr, binA_geq, unA_not, Bool.not_true, Bool.not_false, convA_int, extA_tuple, List.getElem?_toArray, List.getElem?_cons_zero, List.getElem?_cons_succ]
    exact fin _ (by simp [jfits, hsz'])
  have hr := jsize_range hsz
  obtain ⟨size, rfl⟩ := Int.eq_ofNat_of_zero_le (show 0 ≤ n by omega)
  have ht : ((size : Int)).toNat = size := rfl
  have e1 : binA .rem (.int .i64 (img.length : Int)) (.int .i64 (size : Int)) = some (.int .i64 ((img.length % size : Nat) : Int)) := by rw [binA_rem _ _ _ (by omega), ← Int.ofNat_tmod]
  have e2 : IntKind.i64.wrap (4096 * (size : Int)) = 4096 * (size : Int) := IntWalk.i64_in _ (by omega)
  simp only [hsz, lenSl_slice, lenStr_string, str_size, fpureA_some, fnilA_ptr, faddA_ptr, addr_add, Nat.zero_add, Nat.add_zero, fpureQ_k, fpureQ_nilA, fpureQ_addA, fpureQ_pureA, fpureQ_guardA, fpureQ_idxSlA, fpureQ_pickA, freadQ_loadA, freadQ_loadNA, freadQ_b2sA, freadQ_guardA, freadQ_slSlA, freadQ_k, fendA, fallA_one, fstillA_nil, fguardA_tt, fguardA_ff, fguardA_tf, fguardA_ft, fguardA_undef, fpickA_true, fpickA_false, fcondA_true, fcondA_false, binA_add, binA_sub, binA_mul, binA_eql, binA_neq, binA_lss, binA_leq, binA_gtr, binA_geq, unA_not, Bool.not_true, Bool.not_false, convA_int, extA_tuple, List.getElem?_toArray, List.getElem?_cons_zero, List.getElem?_cons_succ, elx, e1]
  by_cases hm : img.length % size = 0
  rotate_left
  · have c1 : (((img.length % size : Nat) : Int) == 0) = false := by rw [beq_eq_false_iff_ne]; omega
    simp only [c1, lenSl_slice, lenStr_string, str_size, fpureA_some, fnilA_ptr, faddA_ptr, addr_add, Nat.zero_add, Nat.add_zero, fpureQ_k, fpureQ_nilA, fpureQ_addA, fpureQ_pureA, fpureQ_guardA, fpureQ_idxSlA, fpureQ_pickA, freadQ_loadA, freadQ_loadNA, freadQ_b2sA, freadQ_guardA, freadQ_slSlA, freadQ_k, fendA, fallA_one, fstillA_nil, fguardA_tt, fguardA_ff, fguardA_tf, fguardA_ft, fguardA_undef, fpickA_true, fpickA_false, fcondA_true, fcondA_false, binA_add, binA_sub, binA_mul, binA_eql, binA_neq, binA_lss, binA_leq, binA_gtr, binA_geq, unA_not, Bool.not_true, Bool.not_false, convA_int, extA_tuple, List.getElem?_toArray, List.getElem?_cons_zero, List.getElem?_cons_succ]
    refine fin _ (Bool.eq_false_iff.2 fun q => ?_)
    rw [jfits_split, ht] at q
    exact hm q.2.1
  have c1 : (((img.length % size : Nat) : Int) == 0) = true := by rw [hm]; rfl
  simp only [c1, lenSl_slice, lenStr_string, str_size, fpureA_some, fnilA_ptr, faddA_ptr, addr_add, Nat.zero_add, Nat.add_zero, fpureQ_k, fpureQ_nilA, fpureQ_addA, fpureQ_pureA, fpureQ_guardA, fpureQ_idxSlA, fpureQ_pickA, freadQ_loadA, freadQ_loadNA, freadQ_b2sA, freadQ_guardA, freadQ_slSlA, freadQ_k, fendA, fallA_one, fstillA_nil, fguardA_tt, fguardA_ff, fguardA_tf, fguardA_ft, fguardA_undef, fpickA_true, fpickA_false, fcondA_true, fcondA_false, binA_add, binA_sub, binA_mul, binA_eql, binA_neq, binA_lss, binA_leq, binA_gtr, binA_geq, unA_not, Bool.not_true, Bool.not_false, convA_int, extA_tuple, List.getElem?_toArray, List.getElem?_cons_zero, List.getElem?_cons_succ, elx]
  by_cases hle : size ≤ img.length
  rotate_left
  · have c2 : decide ((size : Int) ≤ (img.length : Int)) = false := decide_eq_false (by omega)
    simp only [c2, lenSl_slice, lenStr_string, str_size, fpureA_some, fnilA_ptr, faddA_ptr, addr_add, Nat.zero_add, Nat.add_zero, fpureQ_k, fpureQ_nilA, fpureQ_addA, fpureQ_pureA, fpureQ_guardA, fpureQ_idxSlA, fpureQ_pickA, freadQ_loadA, freadQ_loadNA, freadQ_b2sA, freadQ_guardA, freadQ_slSlA, freadQ_k, fendA, fallA_one, fstillA_nil, fguardA_tt, fguardA_ff, fguardA_tf, fguardA_ft, fguardA_undef, fpickA_true, fpickA_false, fcondA_true, fcondA_false, binA_add, binA_sub, binA_mul, binA_eql, binA_neq, binA_lss, binA_leq, binA_gtr, binA_geq, unA_not, Bool.not_true, Bool.not_false, convA_int, extA_tuple, List.getElem?_toArray, List.getElem?_cons_zero, List.getElem?_cons_succ]
    refine fin _ (Bool.eq_false_iff.2 fun q => ?_)
    rw [jfits_split, ht] at q
    exact hle q.2.2.1
  have c2 : decide ((size : Int) ≤ (img.length : Int)) = true := decide_eq_true (by omega)
  simp only [c2, lenSl_slice, lenStr_string, str_size, fpureA_some, fnilA_ptr, faddA_ptr, addr_add, Nat.zero_add, Nat.add_zero, fpureQ_k, fpureQ_nilA, fpureQ_addA, fpureQ_pureA, fpureQ_guardA, fpureQ_idxSlA, fpureQ_pickA, freadQ_loadA, freadQ_loadNA, freadQ_b2sA, freadQ_guardA, freadQ_slSlA, freadQ_k, fendA, fallA_one, fstillA_nil, fguardA_tt, fguardA_ff, fguardA_tf, fguardA_ft, fguardA_undef, fpickA_true, fpickA_false, fcondA_true, fcondA_false, binA_add, binA_sub, binA_mul, binA_eql, binA_neq, binA_lss, binA_leq, binA_gtr, binA_geq, unA_not, Bool.not_true, Bool.not_false, convA_int, extA_tuple, List.getElem?_toArray, List.getElem?_cons_zero, List.getElem?_cons_succ, elx, e2]
  refine fin _ ?_
  by_cases hmx : img.length ≤ 4096 * size
  · rw [decide_eq_true (by omega)]
    exact jfits_split.2 ⟨hsz, by rw [ht]; exact hm, by rw [ht]; exact hle, by rw [ht]; exact hmx⟩
  · rw [decide_eq_false (by omega)]
    refine Bool.eq_false_iff.2 fun q => ?_
    rw [jfits_split, ht] at q
    exact hmx q.2.2.2
theorem chunk_bs {x : Value} {img : List UInt8} {size cnt k : Nat} (v : Bs w0 h x img) (hl : img.length = cnt * size) (hk : k < cnt) {K : Kont} (hK : ∀ x', sblk x' = sblk x → Bs w0 h x' (jat size img k) → (jat size img k).length = size → K x' h) :
    slSlA 1 x (some (.int .i64 ((k * size : Nat) : Int))) (some (.int .i64 (((k + 1) * size : Nat) : Int))) none K h := by
  have hle : (k + 1) * size ≤ cnt * size := Nat.mul_le_mul_right _ hk
  have e : (k + 1) * size = k * size + size := by rw [Nat.add_mul, Nat.one_mul]
  refine v.cut (lo := k * size) (hi := (k + 1) * size) boundA_nat boundA_nat (by omega) (by omega) fun x' _ hx v' => hK x' hx ?_ ?_
  · rw [e, cut_eq] at v'
    exact v'
  · simp [jat]; omega
theorem xSectors_loop {k0 : Value → Hp → Prop} {x : Value} {img : List UInt8} {size gen cnt : Nat} (hs : 512 ≤ size ∧ size ≤ 4096) (hg : gen < 18446744073709551616) (hc : cnt ≤ 4096) (hl : img.length = cnt * size) (hx : ∀ q, q ∈ sblk x → q < h.next) :
    ∀ (r k : Nat) (h1 : Hp) (os : List (List UInt8)), k + r = cnt → os.length = k → jgo size gen img cnt 0 = os ++ jgo size gen img r k → Bs w0 h1 x img → h.next ≤ h1.next →
      (∀ h', Step h1 h' [] [] → k0 (.int .i64 ((jgo size gen img cnt 0).length : Int)) h') → dedupref07_Sectors_L1 prog w0 k0 (r + 1) (.int .i64 (size : Int)) (.int .u64 (gen : Int)) x (.int .i64 (k : Int)) h1 := by
  intro r
  have hbig : ∀ k, k ≤ cnt + 1 → k * size ≤ 4097 * 4096 := fun k hk => Nat.mul_le_mul (by omega) hs.2
  induction r with
  | zero =>
    intro k h1 os hk ho he v hn hk0
    obtain ⟨a, c, ex⟩ := v.slice
    have elx : lenSl x = some (.int .i64 (img.length : Int)) := by rw [ex]; rfl
    have h2 := hbig (k + 1) (by omega)
    have hkc : k = cnt := by omega
    have e1 : IntKind.i64.wrap ((k : Int) + 1) = ((k + 1 : Nat) : Int) := by rw [IntWalk.i64_in _ (by omega)]; simp
    have e2 : IntKind.i64.wrap (((k + 1 : Nat) : Int) * (size : Int)) = (((k + 1) * size : Nat) : Int) := by rw [← Int.natCast_mul, IntWalk.i64_in _ (by omega)]
    have c1 : decide ((((k + 1) * size : Nat) : Int) ≤ (img.length : Int)) = false := decide_eq_false (by rw [hl, hkc, Nat.add_mul]; omega)
    rw [dedupref07_Sectors_L1]
    simp only [dedupref07_Sectors_B1, elx, lenSl_slice, lenStr_string, str_size, fpureA_some, fnilA_ptr, faddA_ptr, addr_add, Nat.zero_add, Nat.add_zero, fpureQ_k, fpureQ_nilA, fpureQ_addA, fpureQ_pureA, fpureQ_guardA, fpureQ_idxSlA, fpureQ_pickA, freadQ_loadA, freadQ_loadNA, freadQ_b2sA, freadQ_guardA, freadQ_slSlA, freadQ_k, fendA, fallA_one, fstillA_nil, fguardA_tt, fguardA_ff, fguardA_tf, fguardA_ft, fguardA_undef, fpickA_true, fpickA_false, fcondA_true, fcondA_false, binA_add, binA_sub, binA_mul, binA_eql, binA_neq, binA_lss, binA_leq, binA_gtr, binA_geq, unA_not, Bool.not_true, Bool.not_false, convA_int, extA_tuple, List.getElem?_toArray, List.getElem?_cons_zero, List.getElem?_cons_succ, e1, e2, c1]
    have := hk0 h1 (.refl _ _ (by simp))
    rw [he] at this
    simpa [jgo, ho] using this
  | succ r ih =>
    intro k h1 os hk ho he v hn hk0
    obtain ⟨a, c, ex⟩ := v.slice
    have elx : lenSl x = some (.int .i64 (img.length : Int)) := by rw [ex]; rfl
    have h2 := hbig (k + 1) (by omega)
    have h3 := hbig k (by omega)
    have e1 : IntKind.i64.wrap ((k : Int) + 1) = ((k + 1 : Nat) : Int) := by rw [IntWalk.i64_in _ (by omega)]; simp
    have e2 : IntKind.i64.wrap (((k + 1 : Nat) : Int) * (size : Int)) = (((k + 1) * size : Nat) : Int) := by rw [← Int.natCast_mul, IntWalk.i64_in _ (by omega)]
    have e3 : IntKind.i64.wrap ((k : Int) * (size : Int)) = ((k * size : Nat) : Int) := by rw [← Int.natCast_mul, IntWalk.i64_in _ (by omega)]
    have hle : (k + 1) * size ≤ cnt * size := Nat.mul_le_mul_right _ (by omega)
    have c1 : decide ((((k + 1) * size : Nat) : Int) ≤ (img.length : Int)) = true := decide_eq_true (by omega)
    rw [dedupref07_Sectors_L1]
    simp only [dedupref07_Sectors_B1, elx, lenSl_slice, lenStr_string, str_size, fpureA_some, fnilA_ptr, faddA_ptr, addr_add, Nat.zero_add, Nat.add_zero, fpureQ_k, fpureQ_nilA, fpureQ_addA, fpureQ_pureA, fpureQ_guardA, fpureQ_idxSlA, fpureQ_pickA, freadQ_loadA, freadQ_loadNA, freadQ_b2sA, freadQ_guardA, freadQ_slSlA, freadQ_k, fendA, fallA_one, fstillA_nil, fguardA_tt, fguardA_ff, fguardA_tf, fguardA_ft, fguardA_undef, fpickA_true, fpickA_false, fcondA_true, fcondA_false, binA_add, binA_sub, binA_mul, binA_eql, binA_neq, binA_lss, binA_leq, binA_gtr, binA_geq, unA_not, Bool.not_true, Bool.not_false, convA_int, extA_tuple, List.getElem?_toArray, List.getElem?_cons_zero, List.getElem?_cons_succ, e1, e2, e3, c1]
    refine chunk_bs v hl (by omega) fun x' hx' v' hl' => ?_
    refine callA_of (right_spec hs hg (by omega) v' hl') fun rr h4 ⟨s4, y, e4, _⟩ f4 => ?_
    subst e4
    simp only [lenSl_slice, lenStr_string, str_size, fpureA_some, fnilA_ptr, faddA_ptr, addr_add, Nat.zero_add, Nat.add_zero, fpureQ_k, fpureQ_nilA, fpureQ_addA, fpureQ_pureA, fpureQ_guardA, fpureQ_idxSlA, fpureQ_pickA, freadQ_loadA, freadQ_loadNA, freadQ_b2sA, freadQ_guardA, freadQ_slSlA, freadQ_k, fendA, fallA_one, fstillA_nil, fguardA_tt, fguardA_ff, fguardA_tf, fguardA_ft, fguardA_undef, fpickA_true, fpickA_false, fcondA_true, fcondA_false, binA_add, binA_sub, binA_mul, binA_eql, binA_neq, binA_lss, binA_leq, binA_gtr, binA_geq, unA_not, Bool.not_true, Bool.not_false, convA_int, extA_tuple, List.getElem?_toArray, List.getElem?_cons_zero, List.getElem?_cons_succ]
    cases hj : jright size gen k (jat size img k) with
    | none =>
      have : jgo size gen img (r + 1) k = [] := by rw [jgo, hj]
      rw [this, List.append_nil] at he
      simp only [Option.isSome_none, lenSl_slice, lenStr_string, str_size, fpureA_some, fnilA_ptr, faddA_ptr, addr_add, Nat.zero_add, Nat.add_zero, fpureQ_k, fpureQ_nilA, fpureQ_addA, fpureQ_pureA, fpureQ_guardA, fpureQ_idxSlA, fpureQ_pickA, freadQ_loadA, freadQ_loadNA, freadQ_b2sA, freadQ_guardA, freadQ_slSlA, freadQ_k, fendA, fallA_one, fstillA_nil, fguardA_tt, fguardA_ff, fguardA_tf, fguardA_ft, fguardA_undef, fpickA_true, fpickA_false, fcondA_true, fcondA_false, binA_add, binA_sub, binA_mul, binA_eql, binA_neq, binA_lss, binA_leq, binA_gtr, binA_geq, unA_not, Bool.not_true, Bool.not_false, convA_int, extA_tuple, List.getElem?_toArray, List.getElem?_cons_zero, List.getElem?_cons_succ]
      have := hk0 h4 s4
      rw [he, ho] at this
      exact this
    | some own =>
      have : jgo size gen img (r + 1) k = own :: jgo size gen img r (k + 1) := by rw [jgo, hj]
      simp only [Option.isSome_some, lenSl_slice, lenStr_string, str_size, fpureA_some, fnilA_ptr, faddA_ptr, addr_add, Nat.zero_add, Nat.add_zero, fpureQ_k, fpureQ_nilA, fpureQ_addA, fpureQ_pureA, fpureQ_guardA, fpureQ_idxSlA, fpureQ_pickA, freadQ_loadA, freadQ_loadNA, freadQ_b2sA, freadQ_guardA, freadQ_slSlA, freadQ_k, fendA, fallA_one, fstillA_nil, fguardA_tt, fguardA_ff, fguardA_tf, fguardA_ft, fguardA_undef, fpickA_true, fpickA_false, fcondA_true, fcondA_false, binA_add, binA_sub, binA_mul, binA_eql, binA_neq, binA_lss, binA_leq, binA_gtr, binA_geq, unA_not, Bool.not_true, Bool.not_false, convA_int, extA_tuple, List.getElem?_toArray, List.getElem?_cons_zero, List.getElem?_cons_succ, e1]
      exact ih (k + 1) h4 (os ++ [own]) (by omega) (by simp [ho]) (by rw [he, this]; simp) (v.stepL (fun q hq => Nat.lt_of_lt_of_le (hx q hq) hn) s4 (by simp)) (Nat.le_trans hn s4.1) (fun h' s' => hk0 h' (s4.trans s'))
theorem xSectors_spec {x : Value} {img : List UInt8} {n : Int} {gen : Nat} (hn : -9223372036854775808 ≤ n ∧ n ≤ 9223372036854775807) (hg : gen < 18446744073709551616) (v : Bs w0 h x img) (hl : img.length ≤ 1000000000) :
    ACalls prog w0 n_dedupref07_Sectors [.int .i64 n, .int .u64 gen, x] h fun r h' => r = .tuple #[.int .i64 (jcount n gen img : Int), .int .i64 (jerr n img.length)] ∧ Step h h' [] [] := by
  refine ACalls.of_fit (by simpa using v.junk) fun f => c_dedupref07_Sectors (by simpa using v.junk) ?_
  simp only [s_dedupref07_Sectors]
  refine callA_of (fits_spec hn v hl) fun r h1 ⟨e, e'⟩ f1 => ?_
  subst e
  have e3 := e'.symm
  subst e3
  by_cases hf : jfits n img.length = true
  · obtain ⟨q1, q2, q3, q4⟩ := jfits_div hf
    obtain ⟨size, rfl⟩ := Int.eq_ofNat_of_zero_le (show 0 ≤ n by omega)
    have ht : ((size : Int)).toNat = size := rfl
    rw [ht] at q3 q4
    have e1 : jcount (size : Int) gen img = (jgo size gen img (img.length / size) 0).length := by unfold jcount; rw [if_pos hf]; rfl
    have e2 : jerr (size : Int) img.length = 0 := by unfold jerr; rw [if_pos hf]
    simp only [hf, lenSl_slice, lenStr_string, str_size, fpureA_some, fnilA_ptr, faddA_ptr, addr_add, Nat.zero_add, Nat.add_zero, fpureQ_k, fpureQ_nilA, fpureQ_addA, fpureQ_pureA, fpureQ_guardA, fpureQ_idxSlA, fpureQ_pickA, freadQ_loadA, freadQ_loadNA, freadQ_b2sA, freadQ_guardA, freadQ_slSlA, freadQ_k, fendA, fallA_one, fstillA_nil, fguardA_tt, fguardA_ff, fguardA_tf, fguardA_ft, fguardA_undef, fpickA_true, fpickA_false, fcondA_true, fcondA_false, binA_add, binA_sub, binA_mul, binA_eql, binA_neq, binA_lss, binA_leq, binA_gtr, binA_geq, unA_not, Bool.not_true, Bool.not_false, convA_int, extA_tuple, List.getElem?_toArray, List.getElem?_cons_zero, List.getElem?_cons_succ, e1, e2]
    refine ⟨img.length / size + 1, ?_⟩
    refine xSectors_loop (h := h) (cnt := img.length / size) (by omega) hg q3 q4 (v.blk_lt f (by have := (jfits_split.1 hf).2.2.1; rw [ht] at this; omega)) (img.length / size) 0 h [] (Nat.zero_add _) rfl (List.nil_append _).symm v (Nat.le_refl _) (fun h' s' => ?_)
    simp only [retA_iff, oneOf_two]
    exact ⟨by simp, trivial, s'⟩
  · have hf' : jfits n img.length = false := by simpa using hf
    simp only [hf', lenSl_slice, lenStr_string, str_size, fpureA_some, fnilA_ptr, faddA_ptr, addr_add, Nat.zero_add, Nat.add_zero, fpureQ_k, fpureQ_nilA, fpureQ_addA, fpureQ_pureA, fpureQ_guardA, fpureQ_idxSlA, fpureQ_pickA, freadQ_loadA, freadQ_loadNA, freadQ_b2sA, freadQ_guardA, freadQ_slSlA, freadQ_k, fendA, fallA_one, fstillA_nil, fguardA_tt, fguardA_ff, fguardA_tf, fguardA_ft, fguardA_undef, fpickA_true, fpickA_false, fcondA_true, fcondA_false, binA_add, binA_sub, binA_mul, binA_eql, binA_neq, binA_lss, binA_leq, binA_gtr, binA_geq, unA_not, Bool.not_true, Bool.not_false, convA_int, extA_tuple, List.getElem?_toArray, List.getElem?_cons_zero, List.getElem?_cons_succ, retA_iff, oneOf_two, jcount, jerr]
    exact ⟨by simp, rfl, .refl _ _ (by simp)⟩
end
section
variable {w0 : World} {h : Hp}
theorem xScan_loop1 {k0 : Value → Hp → Prop} {x : Value} {img : List UInt8} {size gen cnt : Nat} (hs : 512 ≤ size ∧ size ≤ 4096) (hg : gen < 18446744073709551616) (hc : cnt ≤ 4096) (hl : img.length = cnt * size) (hx : ∀ q, q ∈ sblk x → q < h.next) :
    ∀ (r k : Nat) (h1 : Hp) (y : Value) (U : List Nat), k + r = (jgo size gen img cnt 0).length → Bs w0 h1 x img → h.next ≤ h1.next → w0.heap.size ≤ h1.next → Vec w0 h1 1 y ((jgo size gen img cnt 0).take k).flatten.length (bvs ((jgo size gen img cnt 0).take k).flatten) U → (∀ q, q ∈ U → h.next ≤ q) →
      ((jgo size gen img cnt 0).take k).flatten.length ≤ k * size → (∀ y' h' U', Vec w0 h' 1 y' (jgo size gen img cnt 0).flatten.length (bvs (jgo size gen img cnt 0).flatten) U' → Step h1 h' U U' → k0 y' h') → dedupref07_Scan_L1 prog w0 k0 (r + 1) (.int .i64 (size : Int)) (.int .u64 (gen : Int)) x (.int .i64 ((jgo size gen img cnt 0).length : Int)) y (.int .i64 (k : Int)) h1 := by
  intro r
  have hbig : ∀ k, k ≤ cnt + 1 → k * size ≤ 4097 * 4096 := fun k hk => Nat.mul_le_mul (by omega) hs.2
  have hjl : (jgo size gen img cnt 0).length ≤ cnt := jgo_len cnt 0
  induction r with
  | zero =>
    intro k h1 y U hk v hn hb vU hU hfl hk0
    have c1 : decide ((k : Int) < ((jgo size gen img cnt 0).length : Int)) = false := decide_eq_false (by omega)
    rw [dedupref07_Scan_L1]
    simp only [dedupref07_Scan_B1, lenSl_slice, lenStr_string, str_size, fpureA_some, fnilA_ptr, faddA_ptr, addr_add, Nat.zero_add, Nat.add_zero, fpureQ_k, fpureQ_nilA, fpureQ_addA, fpureQ_pureA, fpureQ_guardA, fpureQ_idxSlA, fpureQ_pickA, freadQ_loadA, freadQ_loadNA, freadQ_b2sA, freadQ_guardA, freadQ_slSlA, freadQ_k, fendA, fallA_one, fstillA_nil, fguardA_tt, fguardA_ff, fguardA_tf, fguardA_ft, fguardA_undef, fpickA_true, fpickA_false, fcondA_true, fcondA_false, binA_add, binA_sub, binA_mul, binA_eql, binA_neq, binA_lss, binA_leq, binA_gtr, binA_geq, unA_not, Bool.not_true, Bool.not_false, convA_int, extA_tuple, List.getElem?_toArray, List.getElem?_cons_zero, List.getElem?_cons_succ, c1]
    refine hk0 y h1 U ?_ (.refl _ _ fun q hq => (vU.lt q hq).2)
    rwa [List.take_of_length_le (by omega)] at vU
  | succ r ih =>
    intro k h1 y U hk v hn hb vU hU hfl hk0
    have h2 := hbig (k + 1) (by omega)
    have h3 := hbig k (by omega)
    have e1 : IntKind.i64.wrap ((k : Int) + 1) = ((k + 1 : Nat) : Int) := by rw [IntWalk.i64_in _ (by omega)]; simp
    have e2 : IntKind.i64.wrap (((k + 1 : Nat) : Int) * (size : Int)) = (((k + 1) * size : Nat) : Int) := by rw [← Int.natCast_mul, IntWalk.i64_in _ (by omega)]
    have e3 : IntKind.i64.wrap ((k : Int) * (size : Int)) = ((k * size : Nat) : Int) := by rw [← Int.natCast_mul, IntWalk.i64_in _ (by omega)]
    have c1 : decide ((k : Int) < ((jgo size gen img cnt 0).length : Int)) = true := decide_eq_true (by omega)
    rw [dedupref07_Scan_L1]
    simp only [dedupref07_Scan_B1, lenSl_slice, lenStr_string, str_size, fpureA_some, fnilA_ptr, faddA_ptr, addr_add, Nat.zero_add, Nat.add_zero, fpureQ_k, fpureQ_nilA, fpureQ_addA, fpureQ_pureA, fpureQ_guardA, fpureQ_idxSlA, fpureQ_pickA, freadQ_loadA, freadQ_loadNA, freadQ_b2sA, freadQ_guardA, freadQ_slSlA, freadQ_k, fendA, fallA_one, fstillA_nil, fguardA_tt, fguardA_ff, fguardA_tf, fguardA_ft, fguardA_undef, fpickA_true, fpickA_false, fcondA_true, fcondA_false, binA_add, binA_sub, binA_mul, binA_eql, binA_neq, binA_lss, binA_leq, binA_gtr, binA_geq, unA_not, Bool.not_true, Bool.not_false, convA_int, extA_tuple, List.getElem?_toArray, List.getElem?_cons_zero, List.getElem?_cons_succ, e1, e2, e3, c1]
    refine chunk_bs v hl (by omega) fun x' hx' v' hl' => ?_
    refine callA_of (right_spec hs hg (by omega) v' hl') fun rr h4 ⟨s4, y2, e4, hown⟩ f4 => ?_
    subst e4
    simp only [lenSl_slice, lenStr_string, str_size, fpureA_some, fnilA_ptr, faddA_ptr, addr_add, Nat.zero_add, Nat.add_zero, fpureQ_k, fpureQ_nilA, fpureQ_addA, fpureQ_pureA, fpureQ_guardA, fpureQ_idxSlA, fpureQ_pickA, freadQ_loadA, freadQ_loadNA, freadQ_b2sA, freadQ_guardA, freadQ_slSlA, freadQ_k, fendA, fallA_one, fstillA_nil, fguardA_tt, fguardA_ff, fguardA_tf, fguardA_ft, fguardA_undef, fpickA_true, fpickA_false, fcondA_true, fcondA_false, binA_add, binA_sub, binA_mul, binA_eql, binA_neq, binA_lss, binA_leq, binA_gtr, binA_geq, unA_not, Bool.not_true, Bool.not_false, convA_int, extA_tuple, List.getElem?_toArray, List.getElem?_cons_zero, List.getElem?_cons_succ]
    have hget : (jgo size gen img cnt 0)[k]? = some ((jgo size gen img cnt 0)[k]'(by omega)) := List.getElem?_eq_getElem (by omega)
    obtain ⟨own, hown0⟩ : ∃ own, own = (jgo size gen img cnt 0)[k]'(by omega) := ⟨_, rfl⟩
    rw [← hown0] at hget
    have hj := jgo_get cnt 0 k hget
    rw [Nat.zero_add] at hj
    obtain ⟨v2, _⟩ := hown own hj
    have hol := jown_len (jright_own hj).1
    have etk : (jgo size gen img cnt 0).take (k + 1) = (jgo size gen img cnt 0).take k ++ [own] := by rw [List.take_add_one, hget]; rfl
    have efl : ((jgo size gen img cnt 0).take (k + 1)).flatten = ((jgo size gen img cnt 0).take k).flatten ++ own := by rw [etk]; simp
    obtain ⟨ay, cy, ey⟩ := v2.slice
    have vU4 := vU.frame s4 (by simp)
    have sU : Step h1 h4 U U := s4.wide (by simp) (fun q hq => .inr ⟨hq, (vU.lt q hq).2⟩)
    generalize hq : ((jgo size gen img cnt 0).take k).flatten = fl at *
    refine appA_vec f4.base vU4 (m := own.length) (by rw [ey]; rfl) v2.src (by simp) (by omega) (by omega) (by omega) fun y3 h5 S5 v5 s5 => ?_
    have vl : fl.length + own.length = (fl ++ own).length := by simp
    rw [vl, ← bvs_append, ← efl] at v5
    refine ih (k + 1) h5 y3 S5 (by omega) ?_ (by have := s4.1; have := s5.1; omega) (Nat.le_trans f4.base s5.1) v5 (fun q hq5 => ?_) ?_ (fun y' h' U' v' s' => hk0 y' h' U' v' ((sU.trans s5).trans s'))
    · exact v.stepL (fun q hq5 => Nat.lt_of_lt_of_le (hx q hq5) hn) (sU.trans s5) (fun q hq5 hm => by have := hU q hm; have := hx q hq5; omega)
    · rcases (s5.own q hq5).2 with e | e
      · exact hU q e
      · have := s4.1; omega
    · rw [efl, List.length_append, Nat.add_mul]
      omega
theorem xScan_loop2 {k2 : Value → Hp → Prop} : ∀ (m : Nat) (b : List UInt8) (h1 : Hp) (x8 x11 : Value) (acc : List (List UInt8)) (U : List Nat), b.length < m → b.length ≤ 1000000000 → w0.heap.size ≤ h1.next → Bs w0 h1 x8 b → Vec w0 h1 1 x11 acc.length (svs acc) U → acc.length + b.length ≤ 1000000000 →
    (∀ q, q ∈ sblk x8 → q ∉ U) → (∀ q, q ∈ sblk x8 → q < h1.next) → (∀ x' h' S', Vec w0 h' 1 x' (acc ++ recs m b).length (svs (acc ++ recs m b)) S' → Step h1 h' U S' → k2 x' h') →
    dedupref07_Scan_L2 prog w0 k2 m x8 x11 h1 := by
  intro m
  induction m with
  | zero => intro b h1 x8 x11 acc U hlt; omega
  | succ m ih =>
    intro b h1 x8 x11 acc U hlt hl f v w ha hd hx hk
    obtain ⟨a, c, ex⟩ := v.slice
    have elx : lenSl x8 = some (.int .i64 (b.length : Int)) := by rw [ex]; rfl
    rw [dedupref07_Scan_L2]
    simp only [dedupref07_Scan_B2, elx, lenSl_slice, lenStr_string, str_size, fpureA_some, fnilA_ptr, faddA_ptr, addr_add, Nat.zero_add, Nat.add_zero, fpureQ_k, fpureQ_nilA, fpureQ_addA, fpureQ_pureA, fpureQ_guardA, fpureQ_idxSlA, fpureQ_pickA, freadQ_loadA, freadQ_loadNA, freadQ_b2sA, freadQ_guardA, freadQ_slSlA, freadQ_k, fendA, fallA_one, fstillA_nil, fguardA_tt, fguardA_ff, fguardA_tf, fguardA_ft, fguardA_undef, fpickA_true, fpickA_false, fcondA_true, fcondA_false, binA_add, binA_sub, binA_mul, binA_eql, binA_neq, binA_lss, binA_leq, binA_gtr, binA_geq, unA_not, Bool.not_true, Bool.not_false, convA_int, extA_tuple, List.getElem?_toArray, List.getElem?_cons_zero, List.getElem?_cons_succ]
    by_cases h4 : b.length < 4
    · have c1 : decide ((4 : Int) ≤ (b.length : Int)) = false := decide_eq_false (by omega)
      have e : recs (m + 1) b = [] := by rw [recs, if_pos h4]
      simp only [c1, lenSl_slice, lenStr_string, str_size, fpureA_some, fnilA_ptr, faddA_ptr, addr_add, Nat.zero_add, Nat.add_zero, fpureQ_k, fpureQ_nilA, fpureQ_addA, fpureQ_pureA, fpureQ_guardA, fpureQ_idxSlA, fpureQ_pickA, freadQ_loadA, freadQ_loadNA, freadQ_b2sA, freadQ_guardA, freadQ_slSlA, freadQ_k, fendA, fallA_one, fstillA_nil, fguardA_tt, fguardA_ff, fguardA_tf, fguardA_ft, fguardA_undef, fpickA_true, fpickA_false, fcondA_true, fcondA_false, binA_add, binA_sub, binA_mul, binA_eql, binA_neq, binA_lss, binA_leq, binA_gtr, binA_geq, unA_not, Bool.not_true, Bool.not_false, convA_int, extA_tuple, List.getElem?_toArray, List.getElem?_cons_zero, List.getElem?_cons_succ]
      rw [e, List.append_nil] at hk
      exact hk x11 h1 U w (.refl _ _ fun q hq => (w.lt q hq).2)
    · have c1 : decide ((4 : Int) ≤ (b.length : Int)) = true := decide_eq_true (by omega)
      simp only [c1, lenSl_slice, lenStr_string, str_size, fpureA_some, fnilA_ptr, faddA_ptr, addr_add, Nat.zero_add, Nat.add_zero, fpureQ_k, fpureQ_nilA, fpureQ_addA, fpureQ_pureA, fpureQ_guardA, fpureQ_idxSlA, fpureQ_pickA, freadQ_loadA, freadQ_loadNA, freadQ_b2sA, freadQ_guardA, freadQ_slSlA, freadQ_k, fendA, fallA_one, fstillA_nil, fguardA_tt, fguardA_ff, fguardA_tf, fguardA_ft, fguardA_undef, fpickA_true, fpickA_false, fcondA_true, fcondA_false, binA_add, binA_sub, binA_mul, binA_eql, binA_neq, binA_lss, binA_leq, binA_gtr, binA_geq, unA_not, Bool.not_true, Bool.not_false, convA_int, extA_tuple, List.getElem?_toArray, List.getElem?_cons_zero, List.getElem?_cons_succ]
      refine v.cut (lo := 0) (hi := 4) rfl rfl (by omega) (by omega) fun x1 _ _ v1 => ?_
      rw [List.drop_zero] at v1
      have hl4 : (b.take 4).length = 4 := by simp; omega
      refine callA_of (xnumber_spec v1 (by omega)) fun vn h3 ⟨e, e'⟩ f3 => ?_
      subst e
      have e3' := e'.symm
      subst e3'
      have hn := rdn_lt4 hl4
      have hrec : recs (m + 1) b = if 65536 < rdn (b.take 4) ∨ b.length - 4 < rdn (b.take 4) then [] else (b.drop 4).take (rdn (b.take 4)) :: recs m (b.drop (4 + rdn (b.take 4))) := by rw [recs, if_neg h4]
      obtain ⟨n, hn0⟩ : ∃ n, n = rdn (b.take 4) := ⟨_, rfl⟩
      rw [← hn0] at hn hrec
      have e1 : IntKind.i64.wrap (n : Int) = (n : Int) := IntWalk.i64_in _ (by omega)
      have e2 : IntKind.i64.wrap ((b.length : Int) - 4) = (b.length : Int) - 4 := IntWalk.i64_in _ (by omega)
      have e3 : IntKind.i64.wrap (4 + (n : Int)) = ((4 + n : Nat) : Int) := by rw [IntWalk.i64_in _ (by omega)]; simp
      have sU : Step h1 h1 U U := .refl _ _ fun q hq => (w.lt q hq).2
      simp only [← hn0, e1, lenSl_slice, lenStr_string, str_size, fpureA_some, fnilA_ptr, faddA_ptr, addr_add, Nat.zero_add, Nat.add_zero, fpureQ_k, fpureQ_nilA, fpureQ_addA, fpureQ_pureA, fpureQ_guardA, fpureQ_idxSlA, fpureQ_pickA, freadQ_loadA, freadQ_loadNA, freadQ_b2sA, freadQ_guardA, freadQ_slSlA, freadQ_k, fendA, fallA_one, fstillA_nil, fguardA_tt, fguardA_ff, fguardA_tf, fguardA_ft, fguardA_undef, fpickA_true, fpickA_false, fcondA_true, fcondA_false, binA_add, binA_sub, binA_mul, binA_eql, binA_neq, binA_lss, binA_leq, binA_gtr, binA_geq, unA_not, Bool.not_true, Bool.not_false, convA_int, extA_tuple, List.getElem?_toArray, List.getElem?_cons_zero, List.getElem?_cons_succ]
      have stop : recs (m + 1) b = [] → k2 x11 h1 := fun e => by
        rw [e, List.append_nil] at hk
        exact hk x11 h1 U w sU
      by_cases h5 : 65536 < n
      · have c2 : decide ((65536 : Int) < (n : Int)) = true := decide_eq_true (by omega)
        simp only [c2, lenSl_slice, lenStr_string, str_size, fpureA_some, fnilA_ptr, faddA_ptr, addr_add, Nat.zero_add, Nat.add_zero, fpureQ_k, fpureQ_nilA, fpureQ_addA, fpureQ_pureA, fpureQ_guardA, fpureQ_idxSlA, fpureQ_pickA, freadQ_loadA, freadQ_loadNA, freadQ_b2sA, freadQ_guardA, freadQ_slSlA, freadQ_k, fendA, fallA_one, fstillA_nil, fguardA_tt, fguardA_ff, fguardA_tf, fguardA_ft, fguardA_undef, fpickA_true, fpickA_false, fcondA_true, fcondA_false, binA_add, binA_sub, binA_mul, binA_eql, binA_neq, binA_lss, binA_leq, binA_gtr, binA_geq, unA_not, Bool.not_true, Bool.not_false, convA_int, extA_tuple, List.getElem?_toArray, List.getElem?_cons_zero, List.getElem?_cons_succ]
        exact stop (by rw [hrec, if_pos (.inl h5)])
      · have c2 : decide ((65536 : Int) < (n : Int)) = false := decide_eq_false (by omega)
        simp only [c2, elx, e1, e2, lenSl_slice, lenStr_string, str_size, fpureA_some, fnilA_ptr, faddA_ptr, addr_add, Nat.zero_add, Nat.add_zero, fpureQ_k, fpureQ_nilA, fpureQ_addA, fpureQ_pureA, fpureQ_guardA, fpureQ_idxSlA, fpureQ_pickA, freadQ_loadA, freadQ_loadNA, freadQ_b2sA, freadQ_guardA, freadQ_slSlA, freadQ_k, fendA, fallA_one, fstillA_nil, fguardA_tt, fguardA_ff, fguardA_tf, fguardA_ft, fguardA_undef, fpickA_true, fpickA_false, fcondA_true, fcondA_false, binA_add, binA_sub, binA_mul, binA_eql, binA_neq, binA_lss, binA_leq, binA_gtr, binA_geq, unA_not, Bool.not_true, Bool.not_false, convA_int, extA_tuple, List.getElem?_toArray, List.getElem?_cons_zero, List.getElem?_cons_succ]
        by_cases h6 : b.length - 4 < n
        · have c3 : decide ((b.length : Int) - 4 < (n : Int)) = true := decide_eq_true (by omega)
          simp only [c3, lenSl_slice, lenStr_string, str_size, fpureA_some, fnilA_ptr, faddA_ptr, addr_add, Nat.zero_add, Nat.add_zero, fpureQ_k, fpureQ_nilA, fpureQ_addA, fpureQ_pureA, fpureQ_guardA, fpureQ_idxSlA, fpureQ_pickA, freadQ_loadA, freadQ_loadNA, freadQ_b2sA, freadQ_guardA, freadQ_slSlA, freadQ_k, fendA, fallA_one, fstillA_nil, fguardA_tt, fguardA_ff, fguardA_tf, fguardA_ft, fguardA_undef, fpickA_true, fpickA_false, fcondA_true, fcondA_false, binA_add, binA_sub, binA_mul, binA_eql, binA_neq, binA_lss, binA_leq, binA_gtr, binA_geq, unA_not, Bool.not_true, Bool.not_false, convA_int, extA_tuple, List.getElem?_toArray, List.getElem?_cons_zero, List.getElem?_cons_succ]
          exact stop (by rw [hrec, if_pos (.inr h6)])
        · have c3 : decide ((b.length : Int) - 4 < (n : Int)) = false := decide_eq_false (by omega)
          rw [if_neg (by omega)] at hrec
          simp only [c3, e1, e3, lenSl_slice, lenStr_string, str_size, fpureA_some, fnilA_ptr, faddA_ptr, addr_add, Nat.zero_add, Nat.add_zero, fpureQ_k, fpureQ_nilA, fpureQ_addA, fpureQ_pureA, fpureQ_guardA, fpureQ_idxSlA, fpureQ_pickA, freadQ_loadA, freadQ_loadNA, freadQ_b2sA, freadQ_guardA, freadQ_slSlA, freadQ_k, fendA, fallA_one, fstillA_nil, fguardA_tt, fguardA_ff, fguardA_tf, fguardA_ft, fguardA_undef, fpickA_true, fpickA_false, fcondA_true, fcondA_false, binA_add, binA_sub, binA_mul, binA_eql, binA_neq, binA_lss, binA_leq, binA_gtr, binA_geq, unA_not, Bool.not_true, Bool.not_false, convA_int, extA_tuple, List.getElem?_toArray, List.getElem?_cons_zero, List.getElem?_cons_succ]
          refine v.cut (lo := 4) (hi := 4 + n) rfl boundA_nat (by omega) (by omega) fun x2 _ _ v4 => ?_
          rw [cut_eq b 4 n] at v4
          refine v4.b2s ?_
          refine app_text f w (by omega) fun x' h5 S5 w5 s5 => ?_
          have v5 : Bs w0 h5 x8 b := v.stepL hx s5 hd
          refine v5.cut (lo := 4 + n) (hi := b.length) boundA_nat (by rw [boundA_none]) (by omega) (Nat.le_refl _) fun x3 _ hx3' v6 => ?_
          rw [List.take_length] at v6
          have hl5 : (b.drop (4 + n)).length = b.length - (4 + n) := by simp
          refine ih (b.drop (4 + n)) h5 x3 x' (acc ++ [(b.drop 4).take n]) S5 (by omega) (by omega) (Nat.le_trans f s5.1) v6 w5 (by rw [hl5]; simp; omega) (fun q hq => ?_) (fun q hq => ?_) (fun x9 h9 S9 w9 s9 => hk x9 h9 S9 ?_ (s5.trans s9))
          · rw [hx3'] at hq
            intro hq5
            rcases (s5.own q hq5).2 with e | e
            · exact hd q hq e
            · have := hx q hq; omega
          · rw [hx3'] at hq
            exact Nat.lt_of_lt_of_le (hx q hq) s5.1
          · rw [hrec]
            simpa using w9
theorem xScan_spec {x : Value} {img : List UInt8} {n : Int} {gen : Nat} (hn : -9223372036854775808 ≤ n ∧ n ≤ 9223372036854775807) (hg : gen < 18446744073709551616) (v : Bs w0 h x img) (hl : img.length ≤ 1000000000) :
    ACalls prog w0 n_dedupref07_Scan [.int .i64 n, .int .u64 gen, x] h fun r h' => ∃ y U, r = .tuple #[y, .int .i64 (jerr n img.length)] ∧ Vec w0 h' 1 y (jrecs n gen img).length (svs (jrecs n gen img)) U ∧ Step h h' [] U := by
  refine ACalls.of_fit (by simpa using v.junk) fun f => c_dedupref07_Scan (by simpa using v.junk) ?_
  simp only [s_dedupref07_Scan]
  refine callA_of (xSectors_spec hn hg v hl) fun r h1 ⟨e, s1⟩ f1 => ?_
  subst e
  by_cases hf : jfits n img.length = true
  rotate_left
  · have e1 : jerr n img.length = 1 := by unfold jerr; rw [if_neg hf]
    have e2 : jrecs n gen img = [] := by unfold jrecs; rw [if_neg hf]
    have c1 : ((1 : Int) != 0) = true := rfl
    simp only [c1, lenSl_slice, lenStr_string, str_size, fpureA_some, fnilA_ptr, faddA_ptr, addr_add, Nat.zero_add, Nat.add_zero, fpureQ_k, fpureQ_nilA, fpureQ_addA, fpureQ_pureA, fpureQ_guardA, fpureQ_idxSlA, fpureQ_pickA, freadQ_loadA, freadQ_loadNA, freadQ_b2sA, freadQ_guardA, freadQ_slSlA, freadQ_k, fendA, fallA_one, fstillA_nil, fguardA_tt, fguardA_ff, fguardA_tf, fguardA_ft, fguardA_undef, fpickA_true, fpickA_false, fcondA_true, fcondA_false, binA_add, binA_sub, binA_mul, binA_eql, binA_neq, binA_lss, binA_leq, binA_gtr, binA_geq, unA_not, Bool.not_true, Bool.not_false, convA_int, extA_tuple, List.getElem?_toArray, List.getElem?_cons_zero, List.getElem?_cons_succ, retA_iff, oneOf_two, e1, e2]
    exact ⟨by simp, _, [], rfl, by simpa [svs] using Vec.nil, s1⟩
  · have c1 : ((0 : Int) != 0) = false := rfl
    obtain ⟨q1, q2, q3, q4⟩ := jfits_div hf
    obtain ⟨size, rfl⟩ := Int.eq_ofNat_of_zero_le (show 0 ≤ n by omega)
    have ht : ((size : Int)).toNat = size := rfl
    rw [ht] at q3 q4
    have e0 : jcount (size : Int) gen img = (jgo size gen img (img.length / size) 0).length := by unfold jcount; rw [if_pos hf]; rfl
    have e1 : jrecs (size : Int) gen img = recsA (jgo size gen img (img.length / size) 0).flatten := by unfold jrecs; rw [if_pos hf]; rfl
    have e2 : jerr (size : Int) img.length = 0 := by unfold jerr; rw [if_pos hf]
    have htot := jgo_total (size := size) (gen := gen) (img := img) (by omega) q3
    have hxl := v.blk_lt f (by have := (jfits_split.1 hf).2.2.1; rw [ht] at this; omega)
    have v1 : Bs w0 h1 x img := v.step f s1 (by simp)
    simp only [c1, lenSl_slice, lenStr_string, str_size, fpureA_some, fnilA_ptr, faddA_ptr, addr_add, Nat.zero_add, Nat.add_zero, fpureQ_k, fpureQ_nilA, fpureQ_addA, fpureQ_pureA, fpureQ_guardA, fpureQ_idxSlA, fpureQ_pickA, freadQ_loadA, freadQ_loadNA, freadQ_b2sA, freadQ_guardA, freadQ_slSlA, freadQ_k, fendA, fallA_one, fstillA_nil, fguardA_tt, fguardA_ff, fguardA_tf, fguardA_ft, fguardA_undef, fpickA_true, fpickA_false, fcondA_true, fcondA_false, binA_add, binA_sub, binA_mul, binA_eql, binA_neq, binA_lss, binA_leq, binA_gtr, binA_geq, unA_not, Bool.not_true, Bool.not_false, convA_int, extA_tuple, List.getElem?_toArray, List.getElem?_cons_zero, List.getElem?_cons_succ, e0, e1, e2]
    generalize img.length / size = cnt at *
    refine ⟨(jgo size gen img cnt 0).length + 1, ?_⟩
    refine xScan_loop1 (h := h) (cnt := cnt) (by omega) hg q3 q4 hxl (jgo size gen img cnt 0).length 0 h1 (.slice none 0 0) [] (Nat.zero_add _) v1 s1.1 f1.base .nil (by simp) (by simp) (fun y2 h2 U2 v2 s2 => ?_)
    refine ⟨(jgo size gen img cnt 0).flatten.length + 1, ?_⟩
    have hb2 : w0.heap.size ≤ h2.next := Nat.le_trans f1.base s2.1
    refine xScan_loop2 _ (jgo size gen img cnt 0).flatten h2 y2 (.slice none 0 0) [] [] (Nat.lt_succ_self _) (Nat.le_trans htot (by decide)) hb2 v2.sl .nil (by rw [List.length_nil, Nat.zero_add]; exact Nat.le_trans htot (by decide)) (by simp) (fun q hq => (v2.lt q (by rwa [v2.sblk_eq] at hq)).2) (fun x' h' S' v' s' => ?_)
    simp only [retA_iff, oneOf_two]
    have hj : x' ≠ junk := by obtain ⟨a, c, e⟩ := v'.slice; rw [e]; simp [junk]
    refine ⟨by simp [hj], x', S', rfl, by simpa [recsA] using v', ?_⟩
    exact (s1.trans (s2.less (T := []) (by simp))).trans s'
/-! ### Lists of texts held against each other -/
theorem str_neq (a : List UInt8) : binA .neq (.string (str a)) (.string (str a)) = some (.bool false) := by simp [binA, strA]
theorem sameTexts_loop {k0 kr : Value → Hp → Prop} {a a' : Option Addr} {c c' : Nat} {l : List (List UInt8)} (hx : Src w0.heap.size h 1 (.slice a l.length c) l.length (svs l)) (hy : Src w0.heap.size h 1 (.slice a' l.length c') l.length (svs l)) (hl : l.length ≤ 1000000000) (hk : k0 (.bool false) h) :
    ∀ (post pre : List (List UInt8)), pre ++ post = l → deduplaw07_sameTexts_L1 prog w0 k0 kr (post.length + 1) (.slice a l.length c) (.slice a' l.length c') (.bool false) (.int .i64 (pre.length : Int)) h := by
  intro post
  induction post with
  | nil =>
    intro pre he
    have : pre = l := by simpa using he
    subst this
    rw [List.length_nil, deduplaw07_sameTexts_L1]
    simp only [deduplaw07_sameTexts_B1, lenSl_slice, lenStr_string, str_size, fpureA_some, fnilA_ptr, faddA_ptr, addr_add, Nat.zero_add, Nat.add_zero, fpureQ_k, fpureQ_nilA, fpureQ_addA, fpureQ_pureA, fpureQ_guardA, fpureQ_idxSlA, fpureQ_pickA, freadQ_loadA, freadQ_loadNA, freadQ_b2sA, freadQ_guardA, freadQ_slSlA, freadQ_k, fendA, fallA_one, fstillA_nil, fguardA_tt, fguardA_ff, fguardA_tf, fguardA_ft, fguardA_undef, fpickA_true, fpickA_false, fcondA_true, fcondA_false, binA_add, binA_sub, binA_mul, binA_eql, binA_neq, binA_lss, binA_leq, binA_gtr, binA_geq, unA_not, Bool.not_true, Bool.not_false, convA_int, extA_tuple, List.getElem?_toArray, List.getElem?_cons_zero, List.getElem?_cons_succ, Int.lt_irrefl, decide_false]
    exact hk
  | cons b post ih =>
    intro pre he
    have hlen : pre.length + (post.length + 1) = l.length := by rw [← he]; simp
    have hg : (svs l)[pre.length]? = some (.string (str b)) := by rw [← he]; simp [svs]
    have c1 : decide ((pre.length : Int) < (l.length : Int)) = true := decide_eq_true (by omega)
    have e6 : IntKind.i64.wrap ((pre.length : Int) + 1) = ((pre.length + 1 : Nat) : Int) := by rw [IntWalk.i64_in _ (by omega)]; simp
    rw [List.length_cons, deduplaw07_sameTexts_L1]
    simp only [deduplaw07_sameTexts_B1, lenSl_slice, lenStr_string, str_size, fpureA_some, fnilA_ptr, faddA_ptr, addr_add, Nat.zero_add, Nat.add_zero, fpureQ_k, fpureQ_nilA, fpureQ_addA, fpureQ_pureA, fpureQ_guardA, fpureQ_idxSlA, fpureQ_pickA, freadQ_loadA, freadQ_loadNA, freadQ_b2sA, freadQ_guardA, freadQ_slSlA, freadQ_k, fendA, fallA_one, fstillA_nil, fguardA_tt, fguardA_ff, fguardA_tf, fguardA_ft, fguardA_undef, fpickA_true, fpickA_false, fcondA_true, fcondA_false, binA_add, binA_sub, binA_mul, binA_eql, binA_neq, binA_lss, binA_leq, binA_gtr, binA_geq, unA_not, Bool.not_true, Bool.not_false, convA_int, extA_tuple, List.getElem?_toArray, List.getElem?_cons_zero, List.getElem?_cons_succ, c1]
    refine idx_load1 hx (by simp [svs]) hg ?_
    refine idx_load1 hy (by simp [svs]) hg ?_
    simp only [str_neq, lenSl_slice, lenStr_string, str_size, fpureA_some, fnilA_ptr, faddA_ptr, addr_add, Nat.zero_add, Nat.add_zero, fpureQ_k, fpureQ_nilA, fpureQ_addA, fpureQ_pureA, fpureQ_guardA, fpureQ_idxSlA, fpureQ_pickA, freadQ_loadA, freadQ_loadNA, freadQ_b2sA, freadQ_guardA, freadQ_slSlA, freadQ_k, fendA, fallA_one, fstillA_nil, fguardA_tt, fguardA_ff, fguardA_tf, fguardA_ft, fguardA_undef, fpickA_true, fpickA_false, fcondA_true, fcondA_false, binA_add, binA_sub, binA_mul, binA_eql, binA_neq, binA_lss, binA_leq, binA_gtr, binA_geq, unA_not, Bool.not_true, Bool.not_false, convA_int, extA_tuple, List.getElem?_toArray, List.getElem?_cons_zero, List.getElem?_cons_succ, e6]
    have := ih (pre ++ [b]) (by simpa using he)
    simpa using this
theorem sameTexts_eq {x y : Value} {l : List (List UInt8)} {U T : List Nat} (hx : Vec w0 h 1 x l.length (svs l) U) (hy : Vec w0 h 1 y l.length (svs l) T) (hl : l.length ≤ 1000000000) :
    ACalls prog w0 n_deduplaw07_sameTexts [x, y] h fun r h' => r = .bool true ∧ h' = h := by
  obtain ⟨a, c, rfl⟩ := hx.slice
  obtain ⟨a', c', rfl⟩ := hy.slice
  refine ACalls.of_fit (by simp) fun f => c_deduplaw07_sameTexts (by simp) ?_
  simp only [s_deduplaw07_sameTexts, lenSl_slice, lenStr_string, str_size, fpureA_some, fnilA_ptr, faddA_ptr, addr_add, Nat.zero_add, Nat.add_zero, fpureQ_k, fpureQ_nilA, fpureQ_addA, fpureQ_pureA, fpureQ_guardA, fpureQ_idxSlA, fpureQ_pickA, freadQ_loadA, freadQ_loadNA, freadQ_b2sA, freadQ_guardA, freadQ_slSlA, freadQ_k, fendA, fallA_one, fstillA_nil, fguardA_tt, fguardA_ff, fguardA_tf, fguardA_ft, fguardA_undef, fpickA_true, fpickA_false, fcondA_true, fcondA_false, binA_add, binA_sub, binA_mul, binA_eql, binA_neq, binA_lss, binA_leq, binA_gtr, binA_geq, unA_not, Bool.not_true, Bool.not_false, convA_int, extA_tuple, List.getElem?_toArray, List.getElem?_cons_zero, List.getElem?_cons_succ, bne_self_eq_false]
  refine ⟨l.length + 1, sameTexts_loop hx.src hy.src hl ?_ l [] rfl⟩
  simp only [retA_iff, oneOf_one]
  exact ⟨by simp, trivial, trivial⟩
theorem recs_len : ∀ (m : Nat) (b : List UInt8), (recs m b).length ≤ b.length := by
  intro m
  induction m with
  | zero => intro b; simp [recs]
  | succ m ih =>
    intro b
    rw [recs]
    split
    · simp
    · split
      · simp
      · have := ih (b.drop (4 + rdn (b.take 4)))
        simp at this ⊢
        omega
theorem jrecs_len {n : Int} {gen : Nat} {img : List UInt8} : (jrecs n gen img).length ≤ 16777216 := by
  unfold jrecs
  split
  · rename_i hf
    obtain ⟨q1, q2, q3, q4⟩ := jfits_div hf
    exact Nat.le_trans (recs_len _ _) (jgo_total (by omega) q3)
  · simp
/-! ### JournalScans -/
theorem JournalScans_spec {x : Value} {img : List UInt8} {n : Int} {gen : Nat} (hn : -9223372036854775808 ≤ n ∧ n ≤ 9223372036854775807) (hg : gen < 18446744073709551616) (v : Bs w0 h x img) (hl : img.length ≤ 1000000000) :
    ACalls prog w0 n_deduplaw07_JournalScans [.int .i64 n, .int .u64 gen, x] h fun r h' => r = .bool true := by
  refine ACalls.of_fit (by simpa using v.junk) fun f => c_deduplaw07_JournalScans (by simpa using v.junk) ?_
  simp only [s_deduplaw07_JournalScans]
  refine app_new f v (by omega) (by omega) (by omega) fun o h1 S1 g1 _ s1 _ => ?_
  have fit1 : True := trivial
  refine callA_of (Scan_spec hn g1.sl hl) fun r h2 ⟨y2, U2, e, v2, s2⟩ f2 => ?_
  subst e
  simp only [lenSl_slice, lenStr_string, str_size, fpureA_some, fnilA_ptr, faddA_ptr, addr_add, Nat.zero_add, Nat.add_zero, fpureQ_k, fpureQ_nilA, fpureQ_addA, fpureQ_pureA, fpureQ_guardA, fpureQ_idxSlA, fpureQ_pickA, freadQ_loadA, freadQ_loadNA, freadQ_b2sA, freadQ_guardA, freadQ_slSlA, freadQ_k, fendA, fallA_one, fstillA_nil, fguardA_tt, fguardA_ff, fguardA_tf, fguardA_ft, fguardA_undef, fpickA_true, fpickA_false, fcondA_true, fcondA_false, binA_add, binA_sub, binA_mul, binA_eql, binA_neq, binA_lss, binA_leq, binA_gtr, binA_geq, unA_not, Bool.not_true, Bool.not_false, convA_int, extA_tuple, List.getElem?_toArray, List.getElem?_cons_zero, List.getElem?_cons_succ]
  have x2 : Bs w0 h2 x img := v.step f ((s1.less (T := []) (by simp)).trans s2) (by simp)
  refine callA_of (xScan_spec hn hg x2 hl) fun r h3 ⟨y3, U3, e, v3, s3⟩ f3 => ?_
  subst e
  simp only [lenSl_slice, lenStr_string, str_size, fpureA_some, fnilA_ptr, faddA_ptr, addr_add, Nat.zero_add, Nat.add_zero, fpureQ_k, fpureQ_nilA, fpureQ_addA, fpureQ_pureA, fpureQ_guardA, fpureQ_idxSlA, fpureQ_pickA, freadQ_loadA, freadQ_loadNA, freadQ_b2sA, freadQ_guardA, freadQ_slSlA, freadQ_k, fendA, fallA_one, fstillA_nil, fguardA_tt, fguardA_ff, fguardA_tf, fguardA_ft, fguardA_undef, fpickA_true, fpickA_false, fcondA_true, fcondA_false, binA_add, binA_sub, binA_mul, binA_eql, binA_neq, binA_lss, binA_leq, binA_gtr, binA_geq, unA_not, Bool.not_true, Bool.not_false, convA_int, extA_tuple, List.getElem?_toArray, List.getElem?_cons_zero, List.getElem?_cons_succ]
  have g3 := (g1.frame s2 (by simp)).frame s3 (by simp)
  refine callA_of (Sectors_spec hn g3.sl hl) fun r h4 ⟨e, s4⟩ f4 => ?_
  subst e
  simp only [lenSl_slice, lenStr_string, str_size, fpureA_some, fnilA_ptr, faddA_ptr, addr_add, Nat.zero_add, Nat.add_zero, fpureQ_k, fpureQ_nilA, fpureQ_addA, fpureQ_pureA, fpureQ_guardA, fpureQ_idxSlA, fpureQ_pickA, freadQ_loadA, freadQ_loadNA, freadQ_b2sA, freadQ_guardA, freadQ_slSlA, freadQ_k, fendA, fallA_one, fstillA_nil, fguardA_tt, fguardA_ff, fguardA_tf, fguardA_ft, fguardA_undef, fpickA_true, fpickA_false, fcondA_true, fcondA_false, binA_add, binA_sub, binA_mul, binA_eql, binA_neq, binA_lss, binA_leq, binA_gtr, binA_geq, unA_not, Bool.not_true, Bool.not_false, convA_int, extA_tuple, List.getElem?_toArray, List.getElem?_cons_zero, List.getElem?_cons_succ]
  have x4 : Bs w0 h4 x img := (x2.step f2 s3 (by simp)).step f3 s4 (by simp)
  refine callA_of (xSectors_spec hn hg x4 hl) fun r h5 ⟨e, s5⟩ f5 => ?_
  subst e
  simp only [lenSl_slice, lenStr_string, str_size, fpureA_some, fnilA_ptr, faddA_ptr, addr_add, Nat.zero_add, Nat.add_zero, fpureQ_k, fpureQ_nilA, fpureQ_addA, fpureQ_pureA, fpureQ_guardA, fpureQ_idxSlA, fpureQ_pickA, freadQ_loadA, freadQ_loadNA, freadQ_b2sA, freadQ_guardA, freadQ_slSlA, freadQ_k, fendA, fallA_one, fstillA_nil, fguardA_tt, fguardA_ff, fguardA_tf, fguardA_ft, fguardA_undef, fpickA_true, fpickA_false, fcondA_true, fcondA_false, binA_add, binA_sub, binA_mul, binA_eql, binA_neq, binA_lss, binA_leq, binA_gtr, binA_geq, unA_not, Bool.not_true, Bool.not_false, convA_int, extA_tuple, List.getElem?_toArray, List.getElem?_cons_zero, List.getElem?_cons_succ]
  refine callA_of lives_spec fun r h6 ⟨e, s6⟩ f6 => ?_
  subst e
  simp only [lenSl_slice, lenStr_string, str_size, fpureA_some, fnilA_ptr, faddA_ptr, addr_add, Nat.zero_add, Nat.add_zero, fpureQ_k, fpureQ_nilA, fpureQ_addA, fpureQ_pureA, fpureQ_guardA, fpureQ_idxSlA, fpureQ_pickA, freadQ_loadA, freadQ_loadNA, freadQ_b2sA, freadQ_guardA, freadQ_slSlA, freadQ_k, fendA, fallA_one, fstillA_nil, fguardA_tt, fguardA_ff, fguardA_tf, fguardA_ft, fguardA_undef, fpickA_true, fpickA_false, fcondA_true, fcondA_false, binA_add, binA_sub, binA_mul, binA_eql, binA_neq, binA_lss, binA_leq, binA_gtr, binA_geq, unA_not, Bool.not_true, Bool.not_false, convA_int, extA_tuple, List.getElem?_toArray, List.getElem?_cons_zero, List.getElem?_cons_succ]
  have w2 := (((v2.frame s3 (by simp)).frame s4 (by simp)).frame s5 (by simp)).frame s6 (by simp)
  have w3 := ((v3.frame s4 (by simp)).frame s5 (by simp)).frame s6 (by simp)
  refine callA_of (sameTexts_eq w2 w3 (Nat.le_trans jrecs_len (by decide))) fun r h7 ⟨e, e'⟩ f7 => ?_
  subst e
  have e3 := e'.symm
  subst e3
  simp only [lenSl_slice, lenStr_string, str_size, fpureA_some, fnilA_ptr, faddA_ptr, addr_add, Nat.zero_add, Nat.add_zero, fpureQ_k, fpureQ_nilA, fpureQ_addA, fpureQ_pureA, fpureQ_guardA, fpureQ_idxSlA, fpureQ_pickA, freadQ_loadA, freadQ_loadNA, freadQ_b2sA, freadQ_guardA, freadQ_slSlA, freadQ_k, fendA, fallA_one, fstillA_nil, fguardA_tt, fguardA_ff, fguardA_tf, fguardA_ft, fguardA_undef, fpickA_true, fpickA_false, fcondA_true, fcondA_false, binA_add, binA_sub, binA_mul, binA_eql, binA_neq, binA_lss, binA_leq, binA_gtr, binA_geq, unA_not, Bool.not_true, Bool.not_false, convA_int, extA_tuple, List.getElem?_toArray, List.getElem?_cons_zero, List.getElem?_cons_succ, beq_self_eq_true]
  have g6 := ((g3.frame s4 (by simp)).frame s5 (by simp)).frame s6 (by simp)
  have x6 : Bs w0 h6 x img := (x4.step f4 s5 (by simp)).step f5 s6 (by simp)
  obtain ⟨a1, c1, ea⟩ := g6.slice
  obtain ⟨a2, c2, eb⟩ := x6.slice
  have ga := g6.src
  have gb := x6.src
  rw [ea] at ga
  rw [eb] at gb
  have hc := sameBytes_eq hl ga gb
  rw [← ea, ← eb] at hc
  refine callA_of hc fun r h8 ⟨e, e'⟩ f8 => ?_
  subst e
  simp only [lenSl_slice, lenStr_string, str_size, fpureA_some, fnilA_ptr, faddA_ptr, addr_add, Nat.zero_add, Nat.add_zero, fpureQ_k, fpureQ_nilA, fpureQ_addA, fpureQ_pureA, fpureQ_guardA, fpureQ_idxSlA, fpureQ_pickA, freadQ_loadA, freadQ_loadNA, freadQ_b2sA, freadQ_guardA, freadQ_slSlA, freadQ_k, fendA, fallA_one, fstillA_nil, fguardA_tt, fguardA_ff, fguardA_tf, fguardA_ft, fguardA_undef, fpickA_true, fpickA_false, fcondA_true, fcondA_false, binA_add, binA_sub, binA_mul, binA_eql, binA_neq, binA_lss, binA_leq, binA_gtr, binA_geq, unA_not, Bool.not_true, Bool.not_false, convA_int, extA_tuple, List.getElem?_toArray, List.getElem?_cons_zero, List.getElem?_cons_succ, retA_iff, oneOf_one]
  exact ⟨by simp, trivial⟩
theorem JournalScans_top {x : Value} {img : List UInt8} (n : Int) (gen : Nat) (hn : -9223372036854775808 ≤ n ∧ n ≤ 9223372036854775807) (hg : gen < 18446744073709551616) (v : ExtSl w0 1 x img.length (img.flatMap dByte.e)) (hl : img.length ≤ 1000000000) :
    ACalls prog w0 n_deduplaw07_JournalScans [.int .i64 n, .int .u64 gen, x] h fun r h' => r = .bool true :=
  ACalls.of_fit (by obtain ⟨a, c, rfl, -⟩ := v.sl; simp) fun f => JournalScans_spec hn hg (v.bytes h f) hl
end
end Go.Proofs.Ytiakadkooclelaa.Ah
