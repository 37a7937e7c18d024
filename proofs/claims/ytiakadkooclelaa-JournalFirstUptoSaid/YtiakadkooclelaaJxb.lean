/- What is found, plain; the first sectors of what was taken. -/
import Derived.Test.YtiakadkooclelaaJxa
import Derived.Test.YtiakadkooclelaaAh30
import Derived.Test.YtiakadkooclelaaAhq
import Derived.Test.YtiakadkooclelaaAh27
import Derived.Test.YtiakadkooclelaaAh31
set_option linter.unusedVariables false
set_option linter.unusedSimpArgs false
set_option linter.constructorNameAsVariable false
namespace Go.Proofs.Ytiakadkooclelaa.Ah
open Go
def jown (size : Nat) (b : List UInt8) : Option (List UInt8) :=
  if size - 24 < rdn ((b.drop 16).take 4) then none else some ((b.drop 24).take (rdn ((b.drop 16).take 4)))
def jright (size gen i : Nat) (b : List UInt8) : Option (List UInt8) :=
  match jown size b with
  | none => none
  | some own => if b = sec size gen i own then some own else none
def jat (size : Nat) (img : List UInt8) (n : Nat) : List UInt8 := (img.drop (n * size)).take size
def jgo (size gen : Nat) (img : List UInt8) : Nat → Nat → List (List UInt8)
  | 0, _ => []
  | r + 1, k => match jright size gen k (jat size img k) with
    | none => []
    | some own => own :: jgo size gen img r (k + 1)
def recs : Nat → List UInt8 → List (List UInt8)
  | 0, _ => []
  | m + 1, b => if b.length < 4 then [] else if 65536 < rdn (b.take 4) ∨ b.length - 4 < rdn (b.take 4) then [] else (b.drop 4).take (rdn (b.take 4)) :: recs m (b.drop (4 + rdn (b.take 4)))
def recsA (b : List UInt8) : List (List UInt8) := recs (b.length + 1) b
/-! ### Records of a stream -/
theorem rdn_cons' (b : UInt8) (l : List UInt8) : rdn (b :: l) = b.toNat * 256 ^ l.length + rdn l := by
  have key : ∀ (l : List UInt8) (n : Nat), l.foldl (fun n b => n * 256 + b.toNat) n = n * 256 ^ l.length + rdn l := by
    intro l
    induction l with
    | nil => intro n; simp [rdn]
    | cons c l ih =>
      intro n
      have h1 := ih (n * 256 + c.toNat)
      have h2 := ih (0 * 256 + c.toNat)
      simp only [rdn, List.foldl_cons, List.length_cons] at h1 h2 ⊢
      rw [h1, h2, Nat.add_mul, Nat.pow_succ, Nat.zero_mul, Nat.zero_add, Nat.mul_assoc, Nat.mul_comm 256, Nat.add_assoc]
  have := key l (0 * 256 + b.toNat)
  simpa [rdn] using this
theorem rdn_be' : ∀ (s n : Nat), rdn (be s n) = n % 256 ^ s := by
  intro s
  induction s with
  | zero => intro n; simp [be, rdn, Nat.mod_one]
  | succ s ih =>
    intro n
    rw [be, rdn_cons', ih, be_length]
    have : (UInt8.ofNat (n / 256 ^ s)).toNat = n / 256 ^ s % 256 := by simp
    rw [this, Nat.pow_succ, Nat.mod_mul, Nat.mul_comm, Nat.add_comm]
def enc (r : List UInt8) : List UInt8 := be 4 r.length ++ r
def cntL : List (List UInt8) → Nat → Nat
  | [], _ => 0
  | r :: t, L => if 4 + r.length ≤ L then 1 + cntL t (L - (4 + r.length)) else 0
theorem recs_prefix : ∀ (laid : List (List UInt8)) (L m : Nat), (∀ r, r ∈ laid → r.length ≤ 65536) → ((laid.flatMap enc).take L).length < m → recs m ((laid.flatMap enc).take L) = laid.take (cntL laid L)
  | [], L, 0, _, _ => by simp [recs]
  | [], L, m + 1, _, _ => by simp [recs]
  | r :: t, L, 0, _, h => absurd h (by omega)
  | r :: t, L, m + 1, hr, h => by
    have h1 := hr r (by simp)
    have hb4 : (be 4 r.length).length = 4 := be_length 4 _
    have hrd : rdn (be 4 r.length) = r.length := by rw [rdn_be']; omega
    have hs : ((r :: t).flatMap enc) = be 4 r.length ++ (r ++ t.flatMap enc) := by simp [enc]
    rw [hs] at h ⊢
    unfold recs cntL
    by_cases hL : 4 + r.length ≤ L
    · have e0 : (be 4 r.length ++ (r ++ t.flatMap enc)).take L = be 4 r.length ++ (r ++ (t.flatMap enc).take (L - (4 + r.length))) := by
        rw [List.take_append, List.take_of_length_le (by omega), List.take_append, List.take_of_length_le (by omega), hb4]
        congr 3
        omega
      rw [e0] at h ⊢
      have e1 : (be 4 r.length ++ (r ++ (t.flatMap enc).take (L - (4 + r.length)))).take 4 = be 4 r.length := by rw [List.take_append_of_le_length (by omega), List.take_of_length_le (by omega)]
      have e2 : (be 4 r.length ++ (r ++ (t.flatMap enc).take (L - (4 + r.length)))).drop 4 = r ++ (t.flatMap enc).take (L - (4 + r.length)) := by rw [List.drop_append_of_le_length (by omega), List.drop_of_length_le (by omega), List.nil_append]
      have e3 : (be 4 r.length ++ (r ++ (t.flatMap enc).take (L - (4 + r.length)))).drop (4 + r.length) = (t.flatMap enc).take (L - (4 + r.length)) := by rw [← List.drop_drop, e2, List.drop_left]
      simp only [List.length_append, hb4] at h
      rw [e1, hrd, e2, e3, if_neg (by simp only [List.length_append, hb4]; omega), if_neg (by simp only [List.length_append, hb4]; omega), if_pos hL, List.take_left]
      rw [recs_prefix t (L - (4 + r.length)) m (fun x hx => hr x (by simp [hx])) (by omega), show 1 + cntL t (L - (4 + r.length)) = cntL t (L - (4 + r.length)) + 1 by omega, List.take_succ_cons]
    · rw [if_neg hL, List.take_zero]
      have hlen : ((be 4 r.length ++ (r ++ t.flatMap enc)).take L).length = L := by
        rw [List.length_take]
        simp only [List.length_append, hb4]
        omega
      rw [hlen]
      by_cases h4 : L < 4
      · rw [if_pos h4]
      · have e1 : ((be 4 r.length ++ (r ++ t.flatMap enc)).take L).take 4 = be 4 r.length := by rw [List.take_take, Nat.min_eq_left (by omega), List.take_append_of_le_length (by omega), List.take_of_length_le (by omega)]
        rw [if_neg h4, e1, hrd, if_pos (by omega)]
theorem recsA_prefix {laid : List (List UInt8)} (L : Nat) (h : ∀ r, r ∈ laid → r.length ≤ 65536) : recsA ((laid.flatMap enc).take L) = laid.take (cntL laid L) := recs_prefix laid L _ h (by omega)
section
variable {w0 : World} {h : Hp}
/-! ### slices.Chunk -/
theorem chunk_loop {hh : Hp} {sb nb n cnt N : Nat} {x y : Value} {l : List UInt8} {S : List Nat} {C : Nat → Hp → List Nat → Prop} {D : Hp → List Nat → Prop} {R : Hp → Prop} (hsb : hh.blk sb = some [x]) (hnb : hh.blk nb = some [.int .i64 (n : Int)])
    (hB1 : w0.heap.size ≤ sb) (hB2 : w0.heap.size ≤ nb) (fh : Fit w0 hh) (bs : Bs w0 hh x l) (hn : 0 < n) (hl : l.length = cnt * n) (hll : l.length ≤ 1000000000) (hd : ∀ b, b ∈ S → b ∉ sb :: nb :: sblk x)
    (hstep : ∀ i v h1 S1, ((List.range cnt).map fun k => [cut3V 1 x (k * n) (k * n + n)])[i]? = some v → Fit w0 h1 → C i h1 S1 → callVA prog w0 y v (fun v h2 => ∃ S2, YStep N h1 h2 S1 S2 ∧ ((v = .bool true ∧ C (i + 1) h2 S2) ∨ (v = .bool false ∧ D h2 S2))) h1)
    (hR : ∀ h2 S2, YStep N hh h2 S S2 → (C cnt h2 S2 ∨ D h2 S2) → R h2) : ∀ (r k : Nat) (h1 : Hp) (S1 : List Nat), k + r = cnt → Fit w0 h1 → YStep N hh h1 S S1 → C k h1 S1 →
      slices_Chunk_lbyte_byte_S1_L1 prog w0 R R (r + 1) y (ptr sb) (ptr nb) (.int .i64 (k * n : Nat)) h1 := by
  intro r
  induction r with
  | zero =>
    intro k h1 S1 hk f1 ys c
    have hs1 : h1.blk sb = some [x] := by rw [(ys.keep sb (fh.lt _ _ hsb) (fun q => hd sb q (by simp))).1]; exact hsb
    obtain ⟨a, q, e⟩ := bs.slice
    have c1 : decide ((k * n : Nat) < (l.length : Int)) = false := decide_eq_false (by rw [hl, show k = cnt by omega]; omega)
    rw [slices_Chunk_lbyte_byte_S1_L1]
    simp only [slices_Chunk_lbyte_byte_S1_B1, ptr]
    refine loadA_at hB1 hs1 rfl ?_
    rw [e]
    simp only [wd, wa, c1]
    have : k = cnt := by omega
    subst this
    exact hR h1 S1 ys (.inl c)
  | succ r ih =>
    intro k h1 S1 hk f1 ys c
    have hs1 : h1.blk sb = some [x] := by rw [(ys.keep sb (fh.lt _ _ hsb) (fun q => hd sb q (by simp))).1]; exact hsb
    have hn1 : h1.blk nb = some [.int .i64 (n : Int)] := by rw [(ys.keep nb (fh.lt _ _ hnb) (fun q => hd nb q (by simp))).1]; exact hnb
    have bs1 : Bs w0 h1 x l := (bs.step fh ys.step (fun b hb q => hd b q (by simp [hb])) : Bs w0 (h1.as hh) x l)
    obtain ⟨a, q, e⟩ := bs.slice
    have hkn : k * n + n ≤ l.length := by rw [hl, show cnt = k + (r + 1) by omega, Nat.add_mul, Nat.add_mul]; omega
    have c1 : decide ((k * n : Nat) < (l.length : Int)) = true := decide_eq_true (by omega)
    rw [slices_Chunk_lbyte_byte_S1_L1]
    simp only [slices_Chunk_lbyte_byte_S1_B1, ptr]
    refine loadA_at hB1 hs1 rfl ?_
    rw [show lenSl x = some (.int .i64 (l.length : Int)) by rw [e]; rfl]
    simp only [wd, wa, c1]
    refine loadA_at hB2 hn1 rfl ?_
    refine loadA_at hB1 hs1 rfl ?_
    refine bs1.cut (lo := k * n) (hi := l.length) boundA_nat rfl (by omega) (Nat.le_refl _) fun x' e' _ b' => ?_
    obtain ⟨a', q', e2⟩ := b'.slice
    have hlen : ((l.take l.length).drop (k * n)).length = l.length - k * n := by simp
    rw [show lenSl x' = some (.int .i64 ((l.length - k * n : Nat) : Int)) by rw [e2, hlen]; rfl]
    have e3 : foldA min2A (.int .i64 (n : Int)) [.int .i64 ((l.length - k * n : Nat) : Int)] = some (.int .i64 (n : Int)) := by
      simp only [foldA, min2A, Option.bind_some]
      rw [if_neg (by omega)]
    have e4 : IntKind.i64.wrap (((k * n : Nat) : Int) + (n : Int)) = ((k * n + n : Nat) : Int) := by rw [IntWalk.i64_in _ (by omega)]; simp
    simp only [wd, wa, e3, e4]
    refine loadA_at hB1 hs1 rfl ?_
    refine bs1.cut3 (lo := k * n) (hi := k * n + n) boundA_nat boundA_nat boundA_nat rfl (by omega) hkn (by unfold ucap; omega) fun _ _ => ?_
    refine callVA_of (hstep k _ h1 S1 (by rw [List.getElem?_map, List.getElem?_range (by omega)]; rfl) f1 c) fun v h2 ⟨S2, ys2, hv⟩ f2 => ?_
    have ys3 := ys.trans ys2
    rcases hv with ⟨rfl, c2⟩ | ⟨rfl, d2⟩
    · simp only [wd, wa]
      have hn2 : h2.blk nb = some [.int .i64 (n : Int)] := by rw [(ys3.keep nb (fh.lt _ _ hnb) (fun q => hd nb q (by simp))).1]; exact hnb
      refine loadA_at hB2 hn2 rfl ?_
      simp only [wd, wa, e4]
      have := ih (k + 1) h2 S2 (by omega) f2 ys3 c2
      rw [Nat.add_mul, Nat.one_mul] at this
      exact this
    · simp only [wd, wa]
      exact hR h2 S2 ys3 (.inr d2)
theorem chunk_it {hh : Hp} {sb nb n cnt : Nat} {x : Value} {l : List UInt8} (hsb : hh.blk sb = some [x]) (hnb : hh.blk nb = some [.int .i64 (n : Int)])
    (hB1 : w0.heap.size ≤ sb) (hB2 : w0.heap.size ≤ nb) (bs : Bs w0 hh x l) (hn : 0 < n) (hl : l.length = cnt * n) (hll : l.length ≤ 1000000000) :
    ItC prog w0 (.func (.func n_slices_Chunk_lbyte_byte_S1) #[] #[ptr sb, ptr nb]) hh (sb :: nb :: sblk x) ((List.range cnt).map fun k => [cut3V 1 x (k * n) (k * n + n)]) := by
  intro y N S C D hy hN kC kD hstep h0 hd
  refine ⟨_, _, _, rfl, by kernel_rfl, ?_⟩
  refine ACalls.of_fit (by simp [ptr, hy]) fun fh => c_slices_Chunk_lbyte_byte_S1 (by simp [ptr, hy]) ?_
  simp only [s_slices_Chunk_lbyte_byte_S1]
  refine ⟨cnt + 1, ?_⟩
  have := chunk_loop (N := N) (C := C) (D := D) (R := retA [] fun _ h2 => ∃ S2, YStep N hh h2 S S2 ∧ (C ((List.range cnt).map fun k => [cut3V 1 x (k * n) (k * n + n)]).length h2 S2 ∨ D h2 S2)) hsb hnb hB1 hB2 fh bs hn hl hll hd hstep (fun h2 S2 ys k => by
    simp only [retA_iff, List.length_map, List.length_range]
    exact ⟨by simp, S2, ys, k⟩) cnt 0 hh S (by omega) fh (YStep.refl N hh S ((kC 0).lt hh S h0)) h0
  simpa using this
theorem Chunk_spec {x : Value} {n : Nat} (hn : 0 < n) (hx : x ≠ junk) (hxc : isCell x = true) : ACalls prog w0 n_slices_Chunk_lbyte_byte [x, .int .i64 (n : Int)] h fun v h' => ∃ sb nb, v = .func (.func n_slices_Chunk_lbyte_byte_S1) #[] #[ptr sb, ptr nb] ∧
    h'.blk sb = some [x] ∧ h'.blk nb = some [.int .i64 (n : Int)] ∧ h.next ≤ sb ∧ h.next ≤ nb ∧ sb < h'.next ∧ nb < h'.next ∧ Step h h' [] [] := by
  refine ACalls.of_fit (by simp [hx]) fun f => c_slices_Chunk_lbyte_byte (by simp [hx]) ?_
  simp only [s_slices_Chunk_lbyte_byte]
  have c1 : decide ((n : Int) < 1) = false := decide_eq_false (by omega)
  have hb := f.base
  refine ⟨hxc, rfl, ?_⟩
  refine loadA_at (cs := [.int .i64 (n : Int)]) (by simp; omega) (by simp) rfl ?_
  simp only [wd, wa, c1]
  refine ⟨by simp [ptr, junk], ?_⟩
  simp only [retA_iff, oneOf_one]
  refine ⟨by simp, h.next, h.next + 1, rfl, ?_, by simp, Nat.le_refl _, by omega, by simp; omega, by simp, (((Step.refl h [] (by simp)).new _ _).new _ _).less (by simp)⟩
  have : h.next ≠ h.next + 1 := by omega
  simp
end
/-! ### What is found -/
def jfits (n : Int) (len : Nat) : Bool := jsize n && decide (len % n.toNat = 0) && decide (n.toNat ≤ len) && decide (len ≤ 4096 * n.toNat)
def jall (size gen : Nat) (img : List UInt8) : List (List UInt8) := jgo size gen img (img.length / size) 0
def svs (l : List (List UInt8)) : List Value := l.map fun t => .string (str t)
theorem rdn_lt4 {l : List UInt8} (h : l.length = 4) : rdn l < 4294967296 := by
  match l, h with
  | [a, b, c, d], _ =>
    have h1 := a.toNat_lt
    have h2 := b.toNat_lt
    have h3 := c.toNat_lt
    have h4 := d.toNat_lt
    simp only [rdn, List.foldl_cons, List.foldl_nil]
    omega
theorem jright_own {size gen i : Nat} {b own : List UInt8} (h : jright size gen i b = some own) : jown size b = some own ∧ b = sec size gen i own := by
  unfold jright at h
  split at h
  · simp at h
  · split at h
    · rename_i e1 e2
      simp at h
      subst h
      exact ⟨e1, e2⟩
    · simp at h
theorem jown_len {size : Nat} {b own : List UInt8} (h : jown size b = some own) : own.length ≤ size - 24 := by
  unfold jown at h
  split at h
  · simp at h
  · simp at h
    subst h
    simp
    omega
section
variable {w0 : World} {h : Hp}
theorem bv_ne (a b : UInt8) : binA .neq (bv a) (bv b) = some (.bool (decide (a ≠ b))) := by
  simp only [bv, binA_neq]
  congr 2
  by_cases e : a = b
  · subst e; simp
  · have : a.toNat ≠ b.toNat := fun q => e (UInt8.toNat_inj.1 q)
    rw [decide_eq_true e, bne_iff_ne]
    omega
/-! ### slices.Equal -/
theorem equalB_loop {k0 kr : Value → Hp → Prop} {a a' : Option Addr} {c c' : Nat} {l m : List UInt8} (v : Bs w0 h (.slice a l.length c) l) (w : Bs w0 h (.slice a' m.length c') m) (hlm : l.length = m.length) (hl : l.length ≤ 1000000000) :
    ∀ (post pre : List UInt8) (post' pre' : List UInt8), pre ++ post = l → pre' ++ post' = m → pre.length = pre'.length → (post = post' → k0 (.bool false) h) → (post ≠ post' → kr (.bool false) h) →
    slices_Equal_lbyte_byte_L1 prog w0 k0 kr (post.length + 1) (.slice a l.length c) (.slice a' m.length c') (.bool false) (.int .i64 (l.length : Int)) (.int .i64 (pre.length : Int)) h := by
  intro post
  induction post with
  | nil =>
    intro pre post' pre' he he' hp hk hkr
    have : pre = l := by simpa using he
    subst this
    have : post' = [] := by
      have := congrArg List.length he'
      simp at this
      exact List.eq_nil_of_length_eq_zero (by omega)
    rw [List.length_nil, slices_Equal_lbyte_byte_L1]
    simp only [slices_Equal_lbyte_byte_B1, wd, wa, Int.lt_irrefl, decide_false]
    exact hk this.symm
  | cons b post ih =>
    intro pre post' pre' he he' hp hk hkr
    have hlen : pre.length + (post.length + 1) = l.length := by rw [← he]; simp
    cases post' with
    | nil =>
      have := congrArg List.length he'
      simp at this
      omega
    | cons b' post' =>
      have hg : l[pre.length]? = some b := by rw [← he]; simp
      have hg' : m[pre.length]? = some b' := by rw [← he', hp]; simp
      have c1 : decide ((pre.length : Int) < (l.length : Int)) = true := decide_eq_true (by omega)
      have e6 : IntKind.i64.wrap ((pre.length : Int) + 1) = ((pre.length + 1 : Nat) : Int) := by rw [IntWalk.i64_in _ (by omega)]; simp
      rw [List.length_cons, slices_Equal_lbyte_byte_L1]
      simp only [slices_Equal_lbyte_byte_B1, wd, wa, c1]
      refine idx_load1 v.src (by simp) (by rw [bvs_get, hg]; rfl) ?_
      refine idx_load1 w.src (by simp) (by rw [bvs_get, hg']; rfl) ?_
      simp only [bv_ne, wd, wa]
      by_cases e : b = b'
      · have c2 : decide (b ≠ b') = false := decide_eq_false (by simpa using e)
        simp only [c2, wd, wa, e6]
        have := ih (pre ++ [b]) post' (pre' ++ [b']) (by simpa using he) (by simpa using he') (by simp [hp]) (fun q => hk (by rw [e, q])) (fun q => hkr (by rw [e]; simpa using q))
        simpa using this
      · have c2 : decide (b ≠ b') = true := decide_eq_true e
        simp only [c2, wd, wa]
        exact hkr (by simp [e])
theorem equalB_spec {x y : Value} {l m : List UInt8} (v : Bs w0 h x l) (w : Bs w0 h y m) (hl : l.length ≤ 1000000000) :
    ACalls prog w0 n_slices_Equal_lbyte_byte [x, y] h fun r h' => r = .bool (decide (l = m)) ∧ h' = h := by
  refine ACalls.of_fit (by simpa using ⟨v.junk, w.junk⟩) fun f => c_slices_Equal_lbyte_byte (by simpa using ⟨v.junk, w.junk⟩) ?_
  obtain ⟨a, c, rfl⟩ := v.slice
  obtain ⟨a', c', rfl⟩ := w.slice
  simp only [s_slices_Equal_lbyte_byte, wd, wa]
  by_cases hlm : l.length = m.length
  · have c1 : ((l.length : Int) != (m.length : Int)) = false := by rw [hlm]; simp
    simp only [c1, wd, wa]
    refine ⟨l.length + 1, equalB_loop v w hlm hl l [] m [] rfl rfl rfl (fun e => ?_) (fun e => ?_)⟩
    · simp only [retA_iff, oneOf_one]; exact ⟨by simp, by simp [e], by trivial⟩
    · simp only [retA_iff, oneOf_one]; exact ⟨by simp, by simp [e], by trivial⟩
  · have c1 : ((l.length : Int) != (m.length : Int)) = true := by rw [bne_iff_ne]; omega
    have : l ≠ m := fun e => hlm (by rw [e])
    simp only [c1, wd, wa, retA_iff, oneOf_one]
    exact ⟨by simp, by simp [this], by trivial⟩

theorem cut_eq (b : List UInt8) (lo n : Nat) : (b.take (lo + n)).drop lo = (b.drop lo).take n := by rw [List.drop_take]; congr 1; omega
theorem used_spec {x : Value} {b : List UInt8} {size gen i : Nat} (hs : 512 ≤ size ∧ size ≤ 4096) (hi : i < 4294967296) (v : Bs w0 h x b) (hb : b.length = size) :
    ACalls prog w0 n_journal_used [.int .i64 size, .int .u64 gen, .int .i64 i, x] h fun r h' => Step h h' [] [] ∧ ∃ y, r = .tuple #[y, .bool (jright size gen i b).isSome] ∧
      ∀ own, jright size gen i b = some own → Bs w0 h' y own ∧ sblk y = sblk x := by
  refine ACalls.of_fit (by simpa using v.junk) fun f => c_journal_used (by simpa using v.junk) ?_
  simp only [s_journal_used]
  refine v.cut (lo := 16) (hi := 20) rfl rfl (by omega) (by omega) fun x1 _ _ v1 => ?_
  rw [cut_eq b 16 4] at v1
  have hl4 : ((b.drop 16).take 4).length = 4 := by simp; omega
  refine v1.b2s ?_
  refine callA_of (NewReader_spec _ (by omega)) fun vr h1 ⟨e, w1, s1⟩ f1 => ?_
  subst e
  refine callA_of (RU32_spec w1) fun vn h2 ⟨e, w2, s2⟩ f2 => ?_
  subst e
  have r1 : ((⟨(b.drop 16).take 4, 0⟩ : RS).raw 4).1 = (b.drop 16).take 4 := by
    unfold RS.raw
    rw [if_neg (by simp), if_neg (by omega), if_neg (by simp only [hl4]; omega)]
    exact List.take_of_length_le (Nat.le_of_eq hl4)
  rw [r1]
  have hn := rdn_lt4 hl4
  have hown : jown size b = if size - 24 < rdn ((b.drop 16).take 4) then none else some ((b.drop 24).take (rdn ((b.drop 16).take 4))) := rfl
  obtain ⟨n, hn0⟩ : ∃ n, n = rdn ((b.drop 16).take 4) := ⟨_, rfl⟩
  rw [← hn0] at hn hown
  have s12 : Step h h2 [] [] := (s1.trans s2).less (by simp)
  have e1 : IntKind.i64.wrap (n : Int) = (n : Int) := IntWalk.i64_in _ (by omega)
  have e2 : IntKind.i64.wrap ((size : Int) - 24) = (size : Int) - 24 := IntWalk.i64_in _ (by omega)
  have e3 : IntKind.i64.wrap (24 + (n : Int)) = ((24 + n : Nat) : Int) := by rw [IntWalk.i64_in _ (by omega)]; simp
  simp only [← hn0, wd, wa, e1, e2, e3]
  by_cases hlt : size - 24 < n
  · have c1 : decide ((size : Int) - 24 < (n : Int)) = true := decide_eq_true (by omega)
    rw [if_pos hlt] at hown
    have e4 : jright size gen i b = none := by unfold jright; rw [hown]
    simp only [c1, wd, wa, retA_iff, oneOf_two, e4]
    exact ⟨by simp, s12, _, rfl, by simp⟩
  · have c1 : decide ((size : Int) - 24 < (n : Int)) = false := decide_eq_false (by omega)
    rw [if_neg hlt] at hown
    simp only [c1, wd, wa]
    have v2 : Bs w0 h2 x b := v.step f s12 (by simp)
    refine v2.cut (lo := 24) (hi := 24 + n) rfl boundA_nat (by omega) (by omega) fun x2 _ hx2 v3 => ?_
    rw [cut_eq b 24 n] at v3
    have hl : ((b.drop 24).take n).length ≤ size - 24 := by simp; omega
    obtain ⟨own, ho⟩ : ∃ own, own = (b.drop 24).take n := ⟨_, rfl⟩
    rw [← ho] at v3 hl hown
    obtain ⟨a2, c2, e5⟩ := v3.slice
    have v3' := v3
    rw [e5] at v3'
    have hc := sector_spec (w0 := w0) (h := h2) (gen := gen) hs hi hl v3'.src
    rw [← e5] at hc
    refine callA_of hc fun vs h3 ⟨S3, g3, s3⟩ f3 => ?_
    have v4 : Bs w0 h3 x b := v2.step f2 s3 (by simp)
    have hsl := sec_length gen i (by omega) hl
    have g4 : Bs w0 h3 vs (sec size gen i own) := by
      have := g3.sl
      unfold Bs
      rw [hsl]
      exact this
    refine callA_of (equalB_spec v4 g4 (by omega)) fun vb h4 ⟨e6, e7⟩ f4 => ?_
    subst e6 e7
    simp only [retA_iff, oneOf_two]
    have e8 : jright size gen i b = if b = sec size gen i own then some own else none := by unfold jright; rw [hown]
    refine ⟨by simp [v3.junk], (s12.trans s3).less (by simp), x2, ?_, fun own' he => ?_⟩
    · rw [e8]
      by_cases q : b = sec size gen i own
      · rw [if_pos q]; simp [← q]
      · rw [if_neg q]; simp [q]
    · rw [e8] at he
      split at he
      · simp at he
        subst he
        exact ⟨v3.step f2 s3 (by simp), hx2⟩
      · simp at he
end
theorem jgo_none {size gen k n : Nat} {img : List UInt8} (hk : k < n) (h : jright size gen k (jat size img k) = none) : jgo size gen img (n - k) k = [] := by
  rw [show n - k = (n - (k + 1)) + 1 by omega, jgo, h]
theorem jgo_some {size gen k n : Nat} {img own : List UInt8} (hk : k < n) (h : jright size gen k (jat size img k) = some own) : jgo size gen img (n - k) k = own :: jgo size gen img (n - (k + 1)) (k + 1) := by
  rw [show n - k = (n - (k + 1)) + 1 by omega, jgo, h]
theorem jgo_flat {size gen : Nat} {img : List UInt8} : ∀ (r k : Nat), (jgo size gen img r k).flatten.length ≤ r * size := by
  intro r
  induction r with
  | zero => intro k; simp [jgo]
  | succ r ih =>
    intro k
    rw [jgo]
    split
    · simp
    · rename_i own e
      have h1 := jown_len (jright_own e).1
      have h2 := ih (k + 1)
      rw [List.flatten_cons, List.length_append, Nat.add_mul]
      omega
section
variable {w0 : World} {h : Hp}
def SC (w0 : World) (B q3 q4 q9 q10 size gen cnt : Nat) (x : Value) (img : List UInt8) (i : Nat) (h1 : Hp) (S1 : List Nat) : Prop :=
  ∃ os y U, S1 = q9 :: q10 :: U ∧ os.length = i ∧ os.flatten.length ≤ i * size ∧ jgo size gen img cnt 0 = os ++ jgo size gen img (cnt - i) i ∧ h1.blk q9 = some [y] ∧ h1.blk q10 = some [.int .i64 (i : Int)] ∧
    Vec w0 h1 1 y os.flatten.length (bvs os.flatten) U ∧ (∀ b, b ∈ U → B ≤ b) ∧ h1.blk q3 = some [.int .i64 (size : Int)] ∧ h1.blk q4 = some [.int .u64 (gen : Int)] ∧ Bs w0 h1 x img ∧ B ≤ h1.next
def SD (w0 : World) (B q9 q10 size gen cnt : Nat) (img : List UInt8) (o : Option Nat) (h1 : Hp) (S1 : List Nat) : Prop :=
  o = some 0 ∧ ∃ y U, S1 = q9 :: q10 :: U ∧ h1.blk q9 = some [y] ∧ h1.blk q10 = some [.int .i64 ((jgo size gen img cnt 0).length : Int)] ∧
    Vec w0 h1 1 y (jgo size gen img cnt 0).flatten.length (bvs (jgo size gen img cnt 0).flatten) U ∧ (∀ b, b ∈ U → B ≤ b) ∧ B ≤ h1.next
theorem sc_keep {B q3 q4 q9 q10 size gen cnt i : Nat} {x : Value} {img : List UInt8} (h3 : q3 < B) (h4 : q4 < B) (h9 : q9 < B) (h10 : q10 < B) (hx : ∀ b, b ∈ sblk x → b < B) : KeepC w0 0 B (SC w0 B q3 q4 q9 q10 size gen cnt x img i) := by
  refine ⟨fun h lp S _ c => c, fun h h' S T T' f ⟨os, y, U, e, a1, a2, a3, a4, a5, a6, a7, a8, a9, a10, a11⟩ st hd hB => ?_, fun h S ⟨os, y, U, e, a1, a2, a3, a4, a5, a6, a7, a8, a9, a10, a11⟩ b hb => ?_⟩
  · subst e
    have k : ∀ b, b < B → b ∉ T := fun b hb q => by have := hB b q; omega
    refine ⟨os, y, U, rfl, a1, a2, a3, ?_, ?_, a6.frame st (fun b hb => hd b (by simp [hb])), a7, ?_, ?_, a10.step f st (fun b hb => k b (hx b hb)), Nat.le_trans a11 st.1⟩
    · rw [(st.keep q9 (by omega) (k q9 h9)).1]; exact a4
    · rw [(st.keep q10 (by omega) (k q10 h10)).1]; exact a5
    · rw [(st.keep q3 (by omega) (k q3 h3)).1]; exact a8
    · rw [(st.keep q4 (by omega) (k q4 h4)).1]; exact a9
  · subst e
    rcases List.mem_cons.1 hb with rfl | hb
    · omega
    · rcases List.mem_cons.1 hb with rfl | hb
      · omega
      · exact (a6.lt b hb).2
theorem sd_keep {B q9 q10 size gen cnt : Nat} {img : List UInt8} {o : Option Nat} (h9 : q9 < B) (h10 : q10 < B) : KeepC w0 0 B (SD w0 B q9 q10 size gen cnt img o) := by
  refine ⟨fun h lp S _ c => c, fun h h' S T T' f ⟨eo, y, U, e, a4, a5, a6, a7, a11⟩ st hd hB => ?_, fun h S ⟨eo, y, U, e, a4, a5, a6, a7, a11⟩ b hb => ?_⟩
  · subst e
    have k : ∀ b, b < B → b ∉ T := fun b hb q => by have := hB b q; omega
    refine ⟨eo, y, U, rfl, ?_, ?_, a6.frame st (fun b hb => hd b (by simp [hb])), a7, Nat.le_trans a11 st.1⟩
    · rw [(st.keep q9 (by omega) (k q9 h9)).1]; exact a4
    · rw [(st.keep q10 (by omega) (k q10 h10)).1]; exact a5
  · subst e
    rcases List.mem_cons.1 hb with rfl | hb
    · omega
    · rcases List.mem_cons.1 hb with rfl | hb
      · omega
      · exact (a6.lt b hb).2
theorem stream_loop {hA : Hp} {q3 q4 q9 q10 sb nb size gen cnt : Nat} {x : Value} {img : List UInt8} {K0 : Hp → Prop} (f : Fit w0 hA) (hs : 512 ≤ size ∧ size ≤ 4096) (hc : cnt ≤ 4096) (hl : img.length = cnt * size)
    (b3 : hA.blk q3 = some [.int .i64 (size : Int)]) (b4 : hA.blk q4 = some [.int .u64 (gen : Int)]) (b9 : hA.blk q9 = some [.slice none 0 0]) (b10 : hA.blk q10 = some [.int .i64 0])
    (w3 : w0.heap.size ≤ q3) (w4 : w0.heap.size ≤ q4) (w9 : w0.heap.size ≤ q9) (w10 : w0.heap.size ≤ q10) (n1 : q9 ≠ q10) (n2 : q3 ≠ q9) (n3 : q3 ≠ q10) (n4 : q4 ≠ q9) (n5 : q4 ≠ q10)
    (bsb : hA.blk sb = some [x]) (bnb : hA.blk nb = some [.int .i64 (size : Int)]) (wsb : w0.heap.size ≤ sb) (wnb : w0.heap.size ≤ nb) (v : Bs w0 hA x img)
    (hd : ∀ b, b ∈ [q9, q10] → b ∉ sb :: nb :: sblk x) (hx : ∀ b, b ∈ sblk x → b < hA.next)
    (hk : ∀ h3 y U, Fit w0 h3 → YStep 0 hA h3 [q9, q10] (q9 :: q10 :: U) → h3.blk q9 = some [y] → h3.blk q10 = some [.int .i64 ((jgo size gen img cnt 0).length : Int)] →
      Vec w0 h3 1 y (jgo size gen img cnt 0).flatten.length (bvs (jgo size gen img cnt 0).flatten) U → (∀ b, b ∈ U → hA.next ≤ b) → K0 h3) :
    rangeA prog w0 (.func (.func n_slices_Chunk_lbyte_byte_S1) #[] #[ptr sb, ptr nb]) 1 (fun b g args K => journal_stream_R1 prog w0 b g K (ptr q3) (ptr q4) (ptr q9) (ptr q10) (args.getD 0 undef)) K0 [(some 0, K0)] hA := by
  have l3 := f.lt _ _ b3
  have l4 := f.lt _ _ b4
  have l9 := f.lt _ _ b9
  have l10 := f.lt _ _ b10
  have hll : img.length ≤ 1000000000 := by
    have : cnt * size ≤ 4096 * 4096 := Nat.mul_le_mul hc hs.2
    omega
  refine rangeA_of (xs := (List.range cnt).map fun k => [cut3V 1 x (k * size) (k * size + size)]) (T := sb :: nb :: sblk x) 0 (Nat.zero_le _) f (fun g => chunk_it bsb bnb wsb wnb v (by omega) hl hll) _ (fun b g x K => rfl)
    [q9, q10] (SC w0 hA.next q3 q4 q9 q10 size gen cnt x img) (SD w0 hA.next q9 q10 size gen cnt img) (fun i => sc_keep l3 l4 l9 l10 hx) (fun o => sd_keep l9 l10) ?_ hd ?_ ?_ ?_ ?_
  · exact ⟨[], .slice none 0 0, [], rfl, rfl, by simp, by simp, b9, b10, .nil, by simp, b3, b4, v, Nat.le_refl _⟩
  · intro y hy
    obtain ⟨k, hk', rfl⟩ := List.mem_map.1 hy
    have hk2 : k < cnt := List.mem_range.1 hk'
    have : k * size + size ≤ img.length := by
      rw [hl]
      have : (k + 1) * size ≤ cnt * size := Nat.mul_le_mul_right _ hk2
      rw [Nat.add_mul] at this
      omega
    exact ⟨rfl, by simpa using (v.cut3_sl (lo := k * size) (hi := k * size + size) (by omega) this (by unfold ucap; omega)).1.junk⟩
  · rintro i y h1 S1 g K hi f1 ⟨os, z, U, e, a1, a2, a3, a4, a5, a6, a7, a8, a9, a10, a11⟩ lb _ ends exits
    rw [List.getElem?_map] at hi
    obtain ⟨k, hk', rfl⟩ := Option.map_eq_some_iff.1 hi
    have hkc : i < cnt ∧ k = i := by
      have := List.getElem?_eq_some_iff.1 hk'
      obtain ⟨q, q'⟩ := this
      simp at q q'
      exact ⟨q, q'.symm⟩
    obtain ⟨hic, rfl⟩ := hkc
    subst e
    have hke : k * size + size ≤ img.length := by
      rw [hl]
      have : (k + 1) * size ≤ cnt * size := Nat.mul_le_mul_right _ hic
      rw [Nat.add_mul] at this
      omega
    have vc := (a10.cut3_sl (lo := k * size) (hi := k * size + size) (by omega) hke (by unfold ucap; omega)).1
    have e1 : (img.take (k * size + size)).drop (k * size) = jat size img k := by rw [cut_eq]; rfl
    rw [e1] at vc
    have hjl : (jat size img k).length = size := by simp [jat]; omega
    simp only [ptr, List.getD_cons_zero]
    refine loadA_at w3 a8 rfl ?_
    refine loadA_at w4 a9 rfl ?_
    refine loadA_at w10 a5 rfl ?_
    refine callA_of (used_spec hs (by omega) vc hjl) fun r h2 ⟨s2, y2, e2, hown⟩ f2 => ?_
    subst e2
    simp only [wd, wa]
    have c9 : h2.blk q9 = some [z] := by rw [(s2.keep q9 (by omega) (by simp)).1]; exact a4
    have c10 : h2.blk q10 = some [.int .i64 (k : Int)] := by rw [(s2.keep q10 (by omega) (by simp)).1]; exact a5
    have cU := a6.frame s2 (by simp)
    have s2' : Step h1 h2 (q9 :: q10 :: U) (q9 :: q10 :: U) := s2.wide (by simp) (fun b hb => .inr ⟨hb, by
      rcases List.mem_cons.1 hb with rfl | hb
      · omega
      · rcases List.mem_cons.1 hb with rfl | hb
        · omega
        · exact (a6.lt b hb).2⟩)
    cases hj : jright size gen k (jat size img k) with
    | none =>
      rw [jgo_none hic hj, List.append_nil] at a3
      simp only [Option.isSome_none, wd, wa]
      refine exits (some 0) h2 (q9 :: q10 :: U) (s2'.y 0) ⟨rfl, z, U, rfl, c9, ?_, ?_, a7, Nat.le_trans a11 s2.1⟩
      · rw [a3, a1]; exact c10
      · rw [a3]; exact cU
    | some own =>
      have hr := jgo_some hic hj
      simp only [Option.isSome_some, wd, wa]
      obtain ⟨v2, _⟩ := hown own hj
      have hol := jown_len (jright_own hj).1
      have hol' : own.length ≤ size := by omega
      have hbig : k * size ≤ 4096 * 4096 := Nat.mul_le_mul (by omega) hs.2
      refine loadA_at w9 c9 rfl ?_
      obtain ⟨ay, cy, ey⟩ := v2.slice
      refine appA_vec f2.base cU (m := own.length) (by rw [ey]; rfl) v2.src (by simp) (by omega) (by omega) (by omega) fun x' h3 S3 v3 s3 => ?_
      have hS3 : ∀ b, b ∈ S3 → hA.next ≤ b := fun b hb => by
        rcases (s3.own b hb).2 with q | q
        · exact a7 b q
        · have := s2.1; omega
      have hU9 : ∀ b, b < hA.next → b ∉ U := fun b hb q => by have := a7 b q; omega
      have hS9 : ∀ b, b < hA.next → b ∉ S3 := fun b hb q => by have := hS3 b q; omega
      have d9 : h3.blk q9 = some [z] := by rw [(s3.keep q9 (by have := s2.1; omega) (hU9 q9 l9)).1]; exact c9
      have d10 : h3.blk q10 = some [.int .i64 (k : Int)] := by rw [(s3.keep q10 (by have := s2.1; omega) (hU9 q10 l10)).1]; exact c10
      have hxc : isCell x' = true := by obtain ⟨a, c, e⟩ := v3.slice; rw [e]; rfl
      refine storeA_at w9 d9 (by simp) hxc ?_
      simp only [List.set_cons_zero]
      refine loadA_at (cs := [.int .i64 (k : Int)]) w10 (by rw [put_blk, if_neg (Ne.symm n1)]; exact d10) rfl ?_
      have e4 : IntKind.i64.wrap ((k : Int) + 1) = ((k + 1 : Nat) : Int) := by rw [IntWalk.i64_in _ (by omega)]; simp
      simp only [wd, wa, e4]
      refine storeA_at (cs := [.int .i64 (k : Int)]) w10 (by rw [put_blk, if_neg (Ne.symm n1)]; exact d10) (by simp) rfl ?_
      simp only [List.set_cons_zero]
      have s3' : Step h2 h3 (q9 :: q10 :: U) (q9 :: q10 :: S3) := s3.wide (fun b hb => by simp [hb]) (fun b hb => by
        rcases List.mem_cons.1 hb with rfl | hb
        · exact .inr ⟨by simp, by have := s2.1; omega⟩
        · rcases List.mem_cons.1 hb with rfl | hb
          · exact .inr ⟨by simp, by have := s2.1; omega⟩
          · exact .inl hb)
      have st := ((s2'.trans s3').put (p := q9) (by simp) [x']).put (p := q10) (by simp) [.int .i64 ((k + 1 : Nat) : Int)]
      have a3b := a8
      refine ends _ (q9 :: q10 :: S3) (st.y 0) ⟨os ++ [own], x', S3, rfl, by simp [a1], ?_, ?_, ?_, ?_, ?_, hS3, ?_, ?_, ?_, ?_⟩
      · simp only [List.flatten_append, List.flatten_cons, List.flatten_nil, List.append_nil, List.length_append, Nat.add_mul]
        omega
      · rw [a3, hr]; simp
      · rw [put_blk, if_neg n1, put_blk, if_pos rfl]
      · rw [put_blk, if_pos rfl]
      · have e5 : (os ++ [own]).flatten = os.flatten ++ own := by simp
        rw [e5]
        have := (v3.put (hS9 q9 l9) [x']).put (hS9 q10 l10) [.int .i64 ((k + 1 : Nat) : Int)]
        simpa using this
      · rw [(st.keep q3 (by omega) (by
          simp only [List.mem_cons, not_or]
          exact ⟨n2, n3, hU9 q3 l3⟩)).1]
        exact a8
      · rw [(st.keep q4 (by omega) (by
          simp only [List.mem_cons, not_or]
          exact ⟨n4, n5, hU9 q4 l4⟩)).1]
        exact a9
      · refine a10.step f1 st (fun b hb => ?_)
        have hbl := hx b hb
        simp only [List.mem_cons, not_or]
        exact ⟨fun e => hd q9 (by simp) (by subst e; simp [hb]), fun e => hd q10 (by simp) (by subst e; simp [hb]), hU9 b hbl⟩
      · exact Nat.le_trans a11 st.1
  · rintro h3 S2 f3 ys ⟨os, z, U, e, a1, a2, a3, a4, a5, a6, a7, a8, a9, a10, a11⟩
    subst e
    simp only [List.length_map, List.length_range, Nat.sub_self, jgo, List.append_nil] at a1 a3 a5
    refine hk h3 z U f3 ys a4 ?_ ?_ a7
    · rw [a3, a1]; exact a5
    · rw [a3]; exact a6
  · rintro o h3 S2 f3 ys ⟨rfl, y, U, e, a4, a5, a6, a7, a11⟩
    subst e
    exact ⟨(some 0, K0), by simp, rfl, hk h3 y U f3 ys a4 a5 a6 a7⟩
end
section
variable {w0 : World} {h : Hp}
theorem Bs.blk_lt {x : Value} {l : List UInt8} (v : Bs w0 h x l) (f : Fit w0 h) (h0 : 0 < l.length) : ∀ b, b ∈ sblk x → b < h.next := by
  obtain ⟨a, c, rfl, ⟨-, hs⟩, -, -⟩ := v
  rcases hs with ⟨h1, -⟩ | ⟨-, ad, rfl, hg, -⟩
  · omega
  · obtain ⟨-, cs, hb, -⟩ := Hp.getN_some hg
    intro b hm
    simp [sblk] at hm
    subst hm
    exact f.lt _ _ hb
theorem jfits_split {n : Int} {len : Nat} : jfits n len = true ↔ jsize n = true ∧ len % n.toNat = 0 ∧ n.toNat ≤ len ∧ len ≤ 4096 * n.toNat := by
  simp [jfits, and_assoc]
theorem stream_spec {x : Value} {img : List UInt8} {n : Int} {gen : Nat} (hn : -9223372036854775808 ≤ n ∧ n ≤ 9223372036854775807) (v : Bs w0 h x img) (hl : img.length ≤ 1000000000) :
    ACalls prog w0 n_journal_stream [.int .i64 n, .int .u64 gen, x] h fun r h' => (jfits n img.length = false ∧ r = .tuple #[.slice none 0 0, .int .i64 0, .int .i64 1] ∧ Step h h' [] []) ∨
      (jfits n img.length = true ∧ ∃ y U, r = .tuple #[y, .int .i64 ((jall n.toNat gen img).length : Int), .int .i64 0] ∧ Vec w0 h' 1 y (jall n.toNat gen img).flatten.length (bvs (jall n.toNat gen img).flatten) U ∧ Step h h' [] U) := by
  refine ACalls.of_fit (by simpa using v.junk) fun f => c_journal_stream (by simpa using v.junk) ?_
  simp only [s_journal_stream]
  have hb := f.base
  refine ⟨rfl, rfl, ?_⟩
  have s2 : Step h ((h.new [.int .i64 n] 1).new [.int .u64 (gen : Int)] 1) [] [h.next + 1, h.next] := ((Step.refl h [] (by simp)).new _ _).new _ _
  have f2 : Fit w0 ((h.new [.int .i64 n] 1).new [.int .u64 (gen : Int)] 1) := (f.new (by simp [isCell])).new (by simp [isCell])
  have b3 : ((h.new [.int .i64 n] 1).new [.int .u64 (gen : Int)] 1).blk h.next = some [.int .i64 n] := by simp
  have b4 : ((h.new [.int .i64 n] 1).new [.int .u64 (gen : Int)] 1).blk (h.next + 1) = some [.int .u64 (gen : Int)] := by simp
  have v2 : Bs w0 ((h.new [.int .i64 n] 1).new [.int .u64 (gen : Int)] 1) x img := v.step f s2 (by simp)
  have nx2 : ((h.new [.int .i64 n] 1).new [.int .u64 (gen : Int)] 1).next = h.next + 2 := rfl
  rw [show (h.new [.int .i64 n] 1).next = h.next + 1 from rfl]
  obtain ⟨h2, hh2⟩ : ∃ h2, h2 = (h.new [.int .i64 n] 1).new [.int .u64 (gen : Int)] 1 := ⟨_, rfl⟩
  rw [← hh2] at s2 f2 b3 b4 v2 nx2 ⊢
  refine loadA_at hb b3 rfl ?_
  refine callA_of (sizeRight_spec n hn) fun r h' ⟨e, e'⟩ _ => ?_
  subst e
  have e3 := e'.symm
  subst e3
  obtain ⟨a, c, ex⟩ := v.slice
  have elx : lenSl x = some (.int .i64 (img.length : Int)) := by rw [ex]; rfl
  have no : jfits n img.length = false → cutA h (retA [.slice none 0 0, .int .i64 0, .int .i64 1] fun r h' => (jfits n img.length = false ∧ r = .tuple #[.slice none 0 0, .int .i64 0, .int .i64 1] ∧ Step h h' [] []) ∨
      (jfits n img.length = true ∧ ∃ y U, r = .tuple #[y, .int .i64 ((jall n.toNat gen img).length : Int), .int .i64 0] ∧ Vec w0 h' 1 y (jall n.toNat gen img).flatten.length (bvs (jall n.toNat gen img).flatten) U ∧ Step h h' [] U)) h2 := fun q => by
    unfold cutA
    simp only [retA_iff, oneOf_two]
    exact ⟨by simp, .inl ⟨q, trivial, (((s2.less (T := []) (by simp)).y 0).cut)⟩⟩
  by_cases hsz : jsize n = true
  rotate_left
  · have hsz' : jsize n = false := by simpa using hsz
    have hf : jfits n img.length = false := by simp [jfits, hsz']
    simp only [hsz', wd, wa]
    exact no hf
  have hr := jsize_range hsz
  obtain ⟨size, rfl⟩ := Int.eq_ofNat_of_zero_le (show 0 ≤ n by omega)
  have hs : 512 ≤ size ∧ size ≤ 4096 := by omega
  have e1 : binA .rem (.int .i64 (img.length : Int)) (.int .i64 (size : Int)) = some (.int .i64 ((img.length % size : Nat) : Int)) := by rw [binA_rem _ _ _ (by omega), ← Int.ofNat_tmod]
  have hq : img.length / size ≤ img.length := Nat.div_le_self _ _
  have e2 : binA .quo (.int .i64 (img.length : Int)) (.int .i64 (size : Int)) = some (.int .i64 ((img.length / size : Nat) : Int)) := by
    rw [binA_quo _ _ _ (by omega), ← Int.ofNat_tdiv]
    generalize img.length / size = q at hq
    rw [IntWalk.i64_in _ (by omega)]
  have ht : ((size : Int)).toNat = size := rfl
  simp only [hsz, wd, wa, elx]
  refine loadA_at hb b3 rfl ?_
  simp only [e1, wd, wa]
  by_cases hm : img.length % size = 0
  rotate_left
  · have c1 : (((img.length % size : Nat) : Int) != 0) = true := by rw [bne_iff_ne]; omega
    have hf : jfits (size : Int) img.length = false := by
      rw [Bool.eq_false_iff]
      intro q
      rw [jfits_split, ht] at q
      exact hm q.2.1
    simp only [c1, wd, wa]
    exact no hf
  have c1 : (((img.length % size : Nat) : Int) != 0) = false := by rw [hm]; rfl
  simp only [c1, wd, wa, elx]
  refine loadA_at hb b3 rfl ?_
  simp only [wd, wa]
  by_cases hle : size ≤ img.length
  rotate_left
  · have c2 : decide ((img.length : Int) < (size : Int)) = true := decide_eq_true (by omega)
    have hf : jfits (size : Int) img.length = false := by
      rw [Bool.eq_false_iff]
      intro q
      rw [jfits_split, ht] at q
      exact hle q.2.2.1
    simp only [c2, wd, wa]
    exact no hf
  have c2 : decide ((img.length : Int) < (size : Int)) = false := decide_eq_false (by omega)
  simp only [c2, wd, wa, elx]
  refine loadA_at hb b3 rfl ?_
  simp only [e2, wd, wa]
  have hdm := Nat.div_add_mod img.length size
  rw [hm, Nat.add_zero] at hdm
  by_cases hmx : img.length ≤ 4096 * size
  rotate_left
  · have c3 : decide ((4096 : Int) < ((img.length / size : Nat) : Int)) = true := decide_eq_true (by
      have : 4096 < img.length / size := Nat.lt_of_not_le fun q => hmx (by have := Nat.mul_le_mul_left size q; rw [hdm] at this; omega)
      exact Int.ofNat_lt.2 this)
    have hf : jfits (size : Int) img.length = false := by
      rw [Bool.eq_false_iff]
      intro q
      rw [jfits_split, ht] at q
      exact hmx q.2.2.2
    simp only [c3, wd, wa]
    exact no hf
  have hcn : img.length / size ≤ 4096 := by
    exact Nat.div_le_of_le_mul (by rw [Nat.mul_comm]; exact hmx)
  have c3 : decide ((4096 : Int) < ((img.length / size : Nat) : Int)) = false := decide_eq_false (by generalize img.length / size = q at hcn; omega)
  have hf : jfits (size : Int) img.length = true := by rw [jfits_split, ht]; exact ⟨hsz, hm, hle, hmx⟩
  simp only [c3, wd, wa, newA_iff]
  refine ⟨by simp, by simp, ?_⟩
  have s4 : Step h2 ((h2.new [.slice none 0 0] 1).new [.int .i64 0] 1) [] [h2.next + 1, h2.next] := ((Step.refl h2 [] (by simp)).new _ _).new _ _
  have f4 : Fit w0 ((h2.new [.slice none 0 0] 1).new [.int .i64 0] 1) := (f2.new (by simp [isCell])).new (by simp [isCell])
  rw [show (h2.new [.slice none 0 0] 1).next = h2.next + 1 from rfl]
  have hb2 := f2.base
  refine storeA_at (cs := [.int .i64 0]) (by omega) (by simp) (by simp) rfl ?_
  simp only [List.set_cons_zero]
  have ep : ((h2.new [.slice none 0 0] 1).new [.int .i64 0] 1).put (h2.next + 1) [.int .i64 0] = (h2.new [.slice none 0 0] 1).new [.int .i64 0] 1 := by
    have := put_new (h := h2.new [.slice none 0 0] 1) (c := [.int .i64 0]) (z := [.int .i64 0]) (s := 1)
    exact this rfl
  rw [ep]
  obtain ⟨h4, hh4⟩ : ∃ h4, h4 = (h2.new [.slice none 0 0] 1).new [.int .i64 0] 1 := ⟨_, rfl⟩
  have b9 : h4.blk h2.next = some [.slice none 0 0] := by rw [hh4]; simp
  have b10 : h4.blk (h2.next + 1) = some [.int .i64 0] := by rw [hh4]; simp
  have nx4 : h4.next = h2.next + 2 := by rw [hh4]; rfl
  rw [← hh4] at s4 f4 ⊢
  have l3 := f2.lt _ _ b3
  have l4 := f2.lt _ _ b4
  have b3' : h4.blk h.next = some [.int .i64 (size : Int)] := by rw [(s4.keep _ l3 (by simp)).1]; exact b3
  have b4' : h4.blk (h.next + 1) = some [.int .u64 (gen : Int)] := by rw [(s4.keep _ l4 (by simp)).1]; exact b4
  have v4 : Bs w0 h4 x img := v2.step f2 s4 (by simp)
  refine loadA_at hb b3' rfl ?_
  refine callA_of (Chunk_spec (n := size) (by omega) v.junk (by rw [ex]; rfl)) fun fv h5 ⟨sb, nb, e, bsb, bnb, q1, q2, q3, q4, s5⟩ f5 => ?_
  subst e
  have keep : ∀ b c, h4.blk b = some c → h5.blk b = some c := fun b c e => by rw [(s5.keep b (f4.lt _ _ e) (by simp)).1]; exact e
  have v5 : Bs w0 h5 x img := v4.step f4 s5 (by simp)
  have hxl : ∀ b, b ∈ sblk x → b < h.next := v.blk_lt f (by omega)
  have n45 := s5.next
  refine stream_loop (cnt := img.length / size) (gen := gen) f5 hs hcn (by rw [Nat.mul_comm]; exact hdm.symm) (keep _ _ b3') (keep _ _ b4') (keep _ _ b9) (keep _ _ b10) (by omega) (by omega) (by omega) (by omega) (by omega) (by omega) (by omega) (by omega) (by omega)
    bsb bnb (by omega) (by omega) v5 (fun b hb' => ?_) (fun b hb' => by have := hxl b hb'; omega) (fun h6 y U f6 ys c9 c10 vU hU => ?_)
  · have : b = h2.next ∨ b = h2.next + 1 := by simpa using hb'
    simp only [List.mem_cons, not_or]
    exact ⟨by omega, by omega, fun q => by have := hxl b q; omega⟩
  · refine loadA_at (by omega) c9 rfl ?_
    refine loadA_at (by omega) c10 rfl ?_
    unfold cutA
    simp only [retA_iff, oneOf_two]
    have hyj : y ≠ junk := by obtain ⟨a, c, e⟩ := vU.slice; rw [e]; simp [junk]
    refine ⟨by simp [hyj], .inr ⟨hf, y, U, rfl, vU, ?_⟩⟩
    have st : YStep 0 h h5 [] [h2.next, h2.next + 1] := ((((s2.less (T := []) (by simp)).trans s4).trans (s5.wide (T := [h2.next + 1, h2.next]) (T' := [h2.next, h2.next + 1]) (by simp) (fun b hb' => .inr ⟨by simp at hb' ⊢; omega, by simp at hb'; omega⟩))).y 0)
    exact ((st.trans ys).less (by simp +contextual)).cut
end
section
variable {w0 : World} {h : Hp}
theorem app_text {x : Value} {acc : List (List UInt8)} {U : List Nat} {t : List UInt8} {K : Kont} (hb : w0.heap.size ≤ h.next) (v : Vec w0 h 1 x acc.length (svs acc) U) (hn : acc.length ≤ 1000000000)
    (hk : ∀ x' h' S', Vec w0 h' 1 x' (acc ++ [t]).length (svs (acc ++ [t])) S' → Step h h' U S' → K x' h') :
    bslA [(0, 1, false, .string (str t))] (zerosL [(.string .empty)] 1) 1 1 (fun y => appA w0 1 16 x y K) h := by
  have hz : zerosL [(.string .empty : Value)] 1 = [.string .empty] := rfl
  rw [hz]
  simp only [bslA_iff, fillA_one, fillA_nil, List.set_cons_zero]
  refine ⟨rfl, by simp, ?_⟩
  have s1 : Step h (h.new [.string (str t)] 1) U U := (((Step.refl h U fun b hb => (v.lt b hb).2)).new _ _).less (by simp +contextual)
  refine appA_vec (m := 1) (ys := [.string (str t)]) (by simp; omega) (v.new _ _) (by rfl) (src_new hb rfl) rfl (by omega) (by omega) (by omega) fun x' h' S' v' st => ?_
  refine hk x' h' S' ?_ (s1.trans st)
  rw [List.length_append]
  simpa [svs] using v'
theorem Scan_loop {k0 : Value → Hp → Prop} : ∀ (m : Nat) (b : List UInt8) (h1 : Hp) (x8 x11 : Value) (acc : List (List UInt8)) (U : List Nat), b.length < m → b.length ≤ 1000000000 → w0.heap.size ≤ h1.next → Bs w0 h1 x8 b → Vec w0 h1 1 x11 acc.length (svs acc) U → acc.length + b.length ≤ 1000000000 →
    (∀ q, q ∈ sblk x8 → q ∉ U) → (∀ q, q ∈ sblk x8 → q < h1.next) → (∀ x' h' S', Vec w0 h' 1 x' (acc ++ recs m b).length (svs (acc ++ recs m b)) S' → Step h1 h' U S' → k0 x' h') →
    journal_Scan_L1 prog w0 k0 m x8 x11 h1 := by
  intro m
  induction m with
  | zero => intro b h1 x8 x11 acc U hlt; omega
  | succ m ih =>
    intro b h1 x8 x11 acc U hlt hl f v w ha hd hx hk
    obtain ⟨a, c, ex⟩ := v.slice
    have elx : lenSl x8 = some (.int .i64 (b.length : Int)) := by rw [ex]; rfl
    rw [journal_Scan_L1]
    simp only [journal_Scan_B1, elx, wd, wa]
    by_cases h4 : b.length < 4
    · have c1 : decide ((4 : Int) ≤ (b.length : Int)) = false := decide_eq_false (by omega)
      have e : recs (m + 1) b = [] := by rw [recs, if_pos h4]
      simp only [c1, wd, wa]
      rw [e, List.append_nil] at hk
      exact hk x11 h1 U w (.refl _ _ fun q hq => (w.lt q hq).2)
    · have c1 : decide ((4 : Int) ≤ (b.length : Int)) = true := decide_eq_true (by omega)
      simp only [c1, wd, wa]
      refine v.cut (lo := 0) (hi := 4) rfl rfl (by omega) (by omega) fun x1 _ _ v1 => ?_
      rw [List.drop_zero] at v1
      have hl4 : (b.take 4).length = 4 := by simp; omega
      refine v1.b2s ?_
      refine callA_of (NewReader_spec _ (by omega)) fun vr h2 ⟨e, w2, s2⟩ f2 => ?_
      subst e
      refine callA_of (RU32_spec w2) fun vn h3 ⟨e, w3, s3⟩ f3 => ?_
      subst e
      have r1 : ((⟨b.take 4, 0⟩ : RS).raw 4).1 = b.take 4 := by
        unfold RS.raw
        rw [if_neg (by simp), if_neg (by omega), if_neg (by simp only [hl4]; omega)]
        exact List.take_of_length_le (Nat.le_of_eq hl4)
      rw [r1]
      have hn := rdn_lt4 hl4
      have hrec : recs (m + 1) b = if 65536 < rdn (b.take 4) ∨ b.length - 4 < rdn (b.take 4) then [] else (b.drop 4).take (rdn (b.take 4)) :: recs m (b.drop (4 + rdn (b.take 4))) := by rw [recs, if_neg h4]
      obtain ⟨n, hn0⟩ : ∃ n, n = rdn (b.take 4) := ⟨_, rfl⟩
      rw [← hn0] at hn hrec
      have s13 : Step h1 h3 [] [] := (s2.trans s3).less (by simp)
      have e1 : IntKind.i64.wrap (n : Int) = (n : Int) := IntWalk.i64_in _ (by omega)
      have e2 : IntKind.i64.wrap ((b.length : Int) - 4) = (b.length : Int) - 4 := IntWalk.i64_in _ (by omega)
      have e3 : IntKind.i64.wrap (4 + (n : Int)) = ((4 + n : Nat) : Int) := by rw [IntWalk.i64_in _ (by omega)]; simp
      have w3' := w.frame s13 (by simp)
      have sU : Step h1 h3 U U := s13.wide (by simp) (fun q hq => .inr ⟨hq, (w.lt q hq).2⟩)
      simp only [← hn0, e1, wd, wa]
      have stop : recs (m + 1) b = [] → k0 x11 h3 := fun e => by
        rw [e, List.append_nil] at hk
        exact hk x11 h3 U w3' sU
      by_cases h5 : 65536 < n
      · have c2 : decide ((65536 : Int) < (n : Int)) = true := decide_eq_true (by omega)
        simp only [c2, wd, wa]
        exact stop (by rw [hrec, if_pos (.inl h5)])
      · have c2 : decide ((65536 : Int) < (n : Int)) = false := decide_eq_false (by omega)
        simp only [c2, elx, e2, wd, wa]
        by_cases h6 : b.length - 4 < n
        · have c3 : decide ((b.length : Int) - 4 < (n : Int)) = true := decide_eq_true (by omega)
          simp only [c3, wd, wa]
          exact stop (by rw [hrec, if_pos (.inr h6)])
        · have c3 : decide ((b.length : Int) - 4 < (n : Int)) = false := decide_eq_false (by omega)
          rw [if_neg (by omega)] at hrec
          simp only [c3, e3, wd, wa]
          have v3 : Bs w0 h3 x8 b := v.stepL hx s13 (by simp)
          refine v3.cut (lo := 4) (hi := 4 + n) rfl boundA_nat (by omega) (by omega) fun x2 _ _ v4 => ?_
          rw [cut_eq b 4 n] at v4
          refine v4.b2s ?_
          refine app_text f3.base w3' (by omega) fun x' h5 S5 w5 s5 => ?_
          have hx3 : ∀ q, q ∈ sblk x8 → q < h3.next := fun q hq => Nat.lt_of_lt_of_le (hx q hq) s13.1
          have v5 : Bs w0 h5 x8 b := v3.stepL hx3 s5 hd
          refine v5.cut (lo := 4 + n) (hi := b.length) boundA_nat (by rw [boundA_none]) (by omega) (Nat.le_refl _) fun x3 _ hx3' v6 => ?_
          rw [List.take_length] at v6
          have hl5 : (b.drop (4 + n)).length = b.length - (4 + n) := by simp
          refine ih (b.drop (4 + n)) h5 x3 x' (acc ++ [(b.drop 4).take n]) S5 (by omega) (by omega) (Nat.le_trans f3.base s5.1) v6 w5 (by rw [hl5]; simp; omega) (fun q hq => ?_) (fun q hq => ?_) (fun x9 h9 S9 w9 s9 => hk x9 h9 S9 ?_ ((sU.trans s5).trans s9))
          · rw [hx3'] at hq
            intro hq5
            rcases (s5.own q hq5).2 with e | e
            · exact hd q hq e
            · have := hx3 q hq; omega
          · rw [hx3'] at hq
            exact Nat.lt_of_lt_of_le (hx3 q hq) s5.1
          · rw [hrec]
            simpa using w9
theorem jgo_total {size gen cnt : Nat} {img : List UInt8} (hs : size ≤ 4096) (hc : cnt ≤ 4096) : (jgo size gen img cnt 0).flatten.length ≤ 16777216 := by
  have h1 := jgo_flat (size := size) (gen := gen) (img := img) cnt 0
  have h2 : cnt * size ≤ 4096 * 4096 := Nat.mul_le_mul hc hs
  omega
theorem jfits_div {n : Int} {len : Nat} (h : jfits n len = true) : 512 ≤ n ∧ n ≤ 4096 ∧ len / n.toNat ≤ 4096 ∧ len = len / n.toNat * n.toNat := by
  obtain ⟨a, b, c, d⟩ := jfits_split.1 h
  have hr := jsize_range a
  refine ⟨hr.1, hr.2, Nat.div_le_of_le_mul (by rw [Nat.mul_comm]; exact d), ?_⟩
  have := Nat.div_add_mod len n.toNat
  rw [b, Nat.add_zero, Nat.mul_comm] at this
  exact this.symm
def jerr (n : Int) (len : Nat) : Int := if jfits n len = true then 0 else 1
def jrecs (n : Int) (gen : Nat) (img : List UInt8) : List (List UInt8) := if jfits n img.length = true then recsA (jall n.toNat gen img).flatten else []
theorem Scan_spec {x : Value} {img : List UInt8} {n : Int} {gen : Nat} (hn : -9223372036854775808 ≤ n ∧ n ≤ 9223372036854775807) (v : Bs w0 h x img) (hl : img.length ≤ 1000000000) :
    ACalls prog w0 n_journal_Scan [.int .i64 n, .int .u64 gen, x] h fun r h' => ∃ y U, r = .tuple #[y, .int .i64 (jerr n img.length)] ∧ Vec w0 h' 1 y (jrecs n gen img).length (svs (jrecs n gen img)) U ∧ Step h h' [] U := by
  refine ACalls.of_fit (by simpa using v.junk) fun f => c_journal_Scan (by simpa using v.junk) ?_
  simp only [s_journal_Scan]
  refine callA_of (stream_spec hn v hl) fun r h1 hr f1 => ?_
  rcases hr with ⟨hf, rfl, s1⟩ | ⟨hf, y, U, rfl, vU, s1⟩
  · have c1 : ((1 : Int) != 0) = true := rfl
    simp only [c1, wd, wa, retA_iff, oneOf_two, jerr, jrecs, hf]
    exact ⟨by simp, _, [], rfl, by simpa [svs] using Vec.nil, s1⟩
  · have c1 : ((0 : Int) != 0) = false := rfl
    obtain ⟨q1, q2, q3, q4⟩ := jfits_div hf
    have ht := jgo_total (size := n.toNat) (gen := gen) (img := img) (by omega) q3
    have e1 : jrecs n gen img = recsA (jall n.toNat gen img).flatten := by unfold jrecs; rw [if_pos hf]
    have e2 : jerr n img.length = 0 := by unfold jerr; rw [if_pos hf]
    simp only [c1, wd, wa, e1, e2]
    have hlt := fun b hb => (vU.lt b hb).2
    refine ⟨(jall n.toNat gen img).flatten.length + 1, ?_⟩
    refine Scan_loop _ (jall n.toNat gen img).flatten h1 y (.slice none 0 0) [] [] (by omega) (Nat.le_trans ht (by decide)) f1.base vU.sl .nil (by rw [List.length_nil, Nat.zero_add]; exact Nat.le_trans ht (by decide)) (by simp) (fun q hq => hlt q (by rwa [vU.sblk_eq] at hq)) (fun x' h' S' v' s' => ?_)
    simp only [retA_iff, oneOf_two]
    have hj : x' ≠ junk := by obtain ⟨a, c, e⟩ := v'.slice; rw [e]; simp [junk]
    refine ⟨by simp [hj], x', S', rfl, by simpa [recsA] using v', ?_⟩
    exact ((s1.less (T := []) (by simp)).trans s')
/-! ### The document -/
end
section
variable {w0 : World} {h : Hp}
/-! ### Lists of texts held against each other -/
theorem str_neq (a : List UInt8) : binA .neq (.string (str a)) (.string (str a)) = some (.bool false) := by simp [binA, strA]
theorem sameTexts_loop {k0 kr : Value → Hp → Prop} {a a' : Option Addr} {c c' : Nat} {l : List (List UInt8)} (hx : Src w0.heap.size h 1 (.slice a l.length c) l.length (svs l)) (hy : Src w0.heap.size h 1 (.slice a' l.length c') l.length (svs l)) (hl : l.length ≤ 1000000000) (hk : k0 (.bool false) h) :
    ∀ (post pre : List (List UInt8)), pre ++ post = l → deduplaw07_sameTexts_L1 prog w0 k0 kr (post.length + 1) (.slice a l.length c) (.slice a' l.length c') (.bool false) (.int .i64 (pre.length : Int)) h := by
  intro post
  induction post with
  | nil =>
    intro pre he
    have : pre = l := by simpa using he
    subst this
    rw [List.length_nil, deduplaw07_sameTexts_L1]
    simp only [deduplaw07_sameTexts_B1, wd, wa, Int.lt_irrefl, decide_false]
    exact hk
  | cons b post ih =>
    intro pre he
    have hlen : pre.length + (post.length + 1) = l.length := by rw [← he]; simp
    have hg : (svs l)[pre.length]? = some (.string (str b)) := by rw [← he]; simp [svs]
    have c1 : decide ((pre.length : Int) < (l.length : Int)) = true := decide_eq_true (by omega)
    have e6 : IntKind.i64.wrap ((pre.length : Int) + 1) = ((pre.length + 1 : Nat) : Int) := by rw [IntWalk.i64_in _ (by omega)]; simp
    rw [List.length_cons, deduplaw07_sameTexts_L1]
    simp only [deduplaw07_sameTexts_B1, wd, wa, c1]
    refine idx_load1 hx (by simp [svs]) hg ?_
    refine idx_load1 hy (by simp [svs]) hg ?_
    simp only [str_neq, wd, wa, e6]
    have := ih (pre ++ [b]) (by simpa using he)
    simpa using this
/-! ### JournalScans -/
end
theorem tot_flat (rs : List (List UInt8)) : rs.flatten.length = tot rs := by simp [tot, List.length_flatten]
theorem flat_pushB {room taken : Nat} (rs : List (List UInt8)) (b : UInt8) : (pushB room taken rs b).flatten = rs.flatten ++ [b] := by
  rcases List.eq_nil_or_concat rs with rfl | ⟨fs, r, rfl⟩
  · simp [pushB]
  · rw [List.concat_eq_append, pushB_snoc]
    split <;> simp
theorem flat_pushAll {room taken : Nat} : ∀ (l : List UInt8) (rs : List (List UInt8)), (pushAll room taken rs l).flatten = rs.flatten ++ l
  | [], rs => by simp [pushAll_nil]
  | b :: l, rs => by rw [pushAll_cons, flat_pushAll l, flat_pushB]; simp
theorem take_pushB {room taken : Nat} {rs : List (List UInt8)} {b : UInt8} (h : taken ≤ rs.length) : (pushB room taken rs b).take taken = rs.take taken := by
  rcases List.eq_nil_or_concat rs with rfl | ⟨fs, r, rfl⟩
  · have : taken = 0 := by simpa using h
    subst this
    simp
  · rw [List.concat_eq_append] at h ⊢
    rw [List.length_append] at h
    simp only [List.length_cons, List.length_nil] at h
    rw [pushB_snoc]
    by_cases he : fs.length + 1 = taken
    · rw [if_pos (.inl he), List.take_append_of_le_length (by simp; omega)]
    · split
      · rw [List.take_append_of_le_length (by simp; omega)]
      · rw [List.take_append_of_le_length (by omega), List.take_append_of_le_length (by omega)]
theorem take_pushAll {room taken : Nat} : ∀ (l : List UInt8) (rs : List (List UInt8)), taken ≤ rs.length → (pushAll room taken rs l).take taken = rs.take taken
  | [], rs, _ => by simp [pushAll_nil]
  | b :: l, rs, h => by rw [pushAll_cons, take_pushAll l _ (Nat.le_trans h pushB_len), take_pushB h]
def ExtR (rs rs' : List (List UInt8)) : Prop := ∃ fs r x gs, rs = fs ++ [r] ∧ rs' = fs ++ (r ++ x) :: gs
theorem ExtR.refl {rs : List (List UInt8)} (h : rs ≠ []) : ExtR rs rs := by
  rcases List.eq_nil_or_concat rs with rfl | ⟨fs, r, rfl⟩
  · exact absurd rfl h
  · exact ⟨fs, r, [], [], by simp, by simp⟩
theorem ExtR.pushB {room taken : Nat} {rs rs' : List (List UInt8)} (e : ExtR rs rs') (b : UInt8) : ExtR rs (pushB room taken rs' b) := by
  obtain ⟨fs, r, x, gs, rfl, rfl⟩ := e
  rcases List.eq_nil_or_concat gs with rfl | ⟨gs, g, rfl⟩
  · rw [pushB_snoc]
    split
    · exact ⟨fs, r, x, [[b]], rfl, by simp⟩
    · exact ⟨fs, r, x ++ [b], [], rfl, by simp⟩
  · rw [List.concat_eq_append, show fs ++ (r ++ x) :: (gs ++ [g]) = (fs ++ (r ++ x) :: gs) ++ [g] by simp, pushB_snoc]
    split
    · exact ⟨fs, r, x, gs ++ [g] ++ [[b]], rfl, by simp⟩
    · exact ⟨fs, r, x, gs ++ [g ++ [b]], rfl, by simp⟩
theorem ExtR.pushAll {room taken : Nat} {rs : List (List UInt8)} : ∀ (l : List UInt8) {rs' : List (List UInt8)}, ExtR rs rs' → ExtR rs (pushAll room taken rs' l)
  | [], _, e => e
  | b :: l, _, e => by rw [pushAll_cons]; exact ExtR.pushAll l (e.pushB b)
theorem tot_take (rs : List (List UInt8)) (n : Nat) : tot (rs.take n) ≤ tot rs := by
  have := tot_append (rs.take n) (rs.drop n)
  rw [List.take_append_drop] at this
  omega
theorem ends_iff {rs rs' : List (List UInt8)} {n : Nat} (e : ExtR rs rs') (hne : ∀ r, r ∈ rs → r ≠ []) : rs.length ≤ n ↔ tot rs ≤ tot (rs'.take n) := by
  obtain ⟨fs, r, x, gs, rfl, rfl⟩ := e
  have hr := List.length_pos_iff.2 (hne r (by simp))
  constructor
  · intro h
    simp only [List.length_append, List.length_cons, List.length_nil] at h
    obtain ⟨k, rfl⟩ : ∃ k, n = fs.length + (k + 1) := ⟨n - fs.length - 1, by omega⟩
    rw [List.take_length_add_append, List.take_succ_cons, tot_append, tot_append, tot_one]
    simp only [tot, List.map_cons, List.sum_cons, List.length_append]
    omega
  · intro h
    rcases Nat.lt_or_ge fs.length n with q | q
    · simp; omega
    · rw [List.take_append_of_le_length q, tot_append, tot_one] at h
      have := tot_take fs n
      omega
theorem secList_append (size gen : Nat) : ∀ (a b : List (List UInt8)) (k : Nat), secList size gen k (a ++ b) = secList size gen k a ++ secList size gen (k + a.length) b
  | [], b, k => by simp [secList]
  | x :: a, b, k => by
    simp only [List.cons_append, secList, secList_append size gen a b (k + 1), List.length_cons]
    congr 3
    omega
structure FS (st : JS) (laid : List (List UInt8)) (ends : List Nat) (l : List (List UInt8)) : Prop where
  ok : st.Ok
  flat : st.rooms.flatten = laid.flatMap enc
  small : ∀ r, r ∈ laid → r.length ≤ 65536
  len : ends.length = laid.length
  rel : ∀ (j e : Nat), ends[j]? = some e → ∃ rs, ExtR rs st.rooms ∧ (∀ r, r ∈ rs → r ≠ []) ∧ rs.length = e ∧ rs.flatten = (laid.take (j + 1)).flatMap enc
  secs : l = secList st.size st.gen 0 (st.rooms.take st.taken)
theorem FS.append {st st' : JS} {laid : List (List UInt8)} {ends : List Nat} {l : List (List UInt8)} {r : List UInt8} (f : FS st laid ends l) (h : st.append r = (0, st')) : FS st' (laid ++ [r]) (ends ++ [st'.rooms.length]) l := by
  have ok := f.ok.append r
  rw [h] at ok
  unfold JS.append at h
  split at h
  · simp at h
  · rename_i h1
    split at h
    · simp at h
    · have hst : st' = { st with rooms := pushAll st.room st.taken st.rooms (be 4 r.length ++ r), cnt := IntKind.i64.wrap (st.cnt + 1) } := by simpa using h.symm
      have hfl : st'.rooms.flatten = (laid ++ [r]).flatMap enc := by
        rw [hst]
        simp only [flat_pushAll, f.flat, List.flatMap_append, List.flatMap_cons, List.flatMap_nil, List.append_nil]
        rfl
      have hrne : st'.rooms ≠ [] := by
        intro e
        have := congrArg List.length hfl
        rw [e, List.flatMap_append] at this
        simp [enc] at this
        omega
      refine ⟨ok, hfl, fun x hx => ?_, by simp [f.len], fun j e hj => ?_, ?_⟩
      · rcases List.mem_append.1 hx with q | q
        · exact f.small x q
        · simp at q; subst q; omega
      · rcases Nat.lt_or_ge j ends.length with q | q
        · rw [List.getElem?_append_left q] at hj
          obtain ⟨rs, e1, e2, e3, e4⟩ := f.rel j e hj
          refine ⟨rs, by rw [hst]; exact e1.pushAll _, e2, e3, ?_⟩
          rw [List.take_append_of_le_length (by have := f.len; omega)]
          exact e4
        · rw [List.getElem?_append_right q] at hj
          have hj0 : j - ends.length = 0 := by
            rcases Nat.eq_zero_or_pos (j - ends.length) with w | w
            · exact w
            · rw [List.getElem?_eq_none (by simp; omega)] at hj; simp at hj
          rw [hj0] at hj
          simp at hj
          refine ⟨st'.rooms, .refl hrne, ok.ne, hj, ?_⟩
          rw [List.take_of_length_le (by have := f.len; simp; omega)]
          exact hfl
      · rw [hst]
        simp only
        rw [take_pushAll _ _ f.ok.good.1]
        exact f.secs
theorem FS.take {st : JS} {laid : List (List UInt8)} {ends : List Nat} {l : List (List UInt8)} (f : FS st laid ends l) : FS st.take laid ends (l ++ st.secs) := by
  refine ⟨f.ok.take, f.flat, f.small, f.len, f.rel, ?_⟩
  have h1 : st.take.rooms.take st.take.taken = st.rooms.take st.taken ++ st.rooms.drop st.taken := by
    rw [List.take_append_drop]
    exact List.take_of_length_le (Nat.le_refl _)
  rw [h1, secList_append, List.length_take, Nat.zero_add, Nat.min_eq_left f.ok.good.1]
  conv => lhs; rw [f.secs]
  rfl
def wantN (ends : List Nat) (n : Nat) : Nat := (ends.takeWhile fun e => decide (e ≤ n)).length
theorem want_cnt (n : Nat) : ∀ (laid : List (List UInt8)) (ends : List Nat) (L : Nat), ends.length = laid.length → (∀ (j e : Nat), ends[j]? = some e → (e ≤ n ↔ ((laid.take (j + 1)).flatMap enc).length ≤ L)) → wantN ends n = cntL laid L
  | [], [], _, _, _ => rfl
  | [], _ :: _, _, h, _ => by simp at h
  | _ :: _, [], _, h, _ => by simp at h
  | r :: laid, e :: ends, L, hl, h => by
    have h0 := h 0 e rfl
    simp only [List.take_succ_cons, List.take_zero, List.flatMap_cons, List.flatMap_nil, List.append_nil, enc, List.length_append, be_length] at h0
    unfold wantN cntL
    by_cases hL : 4 + r.length ≤ L
    · have he := h0.2 (by simpa [Nat.add_comm] using hL)
      rw [if_pos hL, List.takeWhile_cons_of_pos (by simpa using he), List.length_cons]
      have := want_cnt n laid ends (L - (4 + r.length)) (by simpa using hl) fun j e' hj => by
        have := h (j + 1) e' (by simpa using hj)
        rw [this]
        simp only [List.take_succ_cons, List.flatMap_cons, enc, List.length_append, be_length]
        omega
      unfold wantN at this
      rw [this, Nat.add_comm]
    · have he : ¬ e ≤ n := fun w => hL (by have := h0.1 w; omega)
      rw [if_neg hL, List.takeWhile_cons_of_neg (by simpa using he)]
      rfl
theorem cntL_all : ∀ (laid : List (List UInt8)) (L : Nat), (laid.flatMap enc).length ≤ L → cntL laid L = laid.length
  | [], _, _ => rfl
  | r :: laid, L, h => by
    simp only [List.flatMap_cons, enc, List.length_append, be_length] at h
    unfold cntL
    rw [if_pos (by omega), cntL_all laid _ (by omega), List.length_cons, Nat.add_comm]
/-! ### The image -/
theorem sec_own {size gen i : Nat} {r : List UInt8} (hs : size ≤ 4096) (hr : r.length ≤ size - 24) : jown size (sec size gen i r) = some r := by
  have e1 : ((sec size gen i r).drop 16).take 4 = be 4 r.length := by
    have h : sec size gen i r = ([68, 74, 82, 78] ++ be 8 gen ++ be 4 i) ++ (be 4 r.length ++ (be 4 (crcOf (sec0 gen i r.length ++ secR size r)) ++ secR size r)) := by unfold sec sec0; simp only [List.append_assoc]
    rw [h, List.drop_left' (by simp), List.take_left' (by simp)]
  have e2 : (sec size gen i r).drop 24 = secR size r := by
    unfold sec
    rw [List.drop_left' (by simp)]
  have hrd : rdn (be 4 r.length) = r.length := by rw [rdn_be']; omega
  unfold jown
  rw [e1, hrd, if_neg (by omega), e2]
  unfold secR
  rw [List.take_left]
theorem sec_right {size gen i : Nat} {r : List UInt8} (hs : size ≤ 4096) (hr : r.length ≤ size - 24) : jright size gen i (sec size gen i r) = some r := by
  unfold jright
  rw [sec_own hs hr]
  simp
theorem sec_gen {size gen i : Nat} {r : List UInt8} : ((sec size gen i r).drop 4).take 8 = be 8 gen := by
  unfold sec sec0
  simp [List.append_assoc, List.take_append]
theorem jright_none {size gen i : Nat} {b : List UInt8} (h : ∀ own, b ≠ sec size gen i own) : jright size gen i b = none := by
  unfold jright
  split
  · rfl
  · rw [if_neg (h _)]
theorem zero_none {size gen i n : Nat} : jright size gen i (List.replicate n 0) = none := by
  refine jright_none fun own e => ?_
  have h1 := congrArg (fun l : List UInt8 => l[0]?) e
  have h2 : (sec size gen i own)[0]? = some 68 := rfl
  simp only [h2, List.getElem?_replicate] at h1
  split at h1 <;> simp at h1
theorem old_none {size gen old i j : Nat} {r : List UInt8} (hg : gen < 18446744073709551616) (ho : old < 18446744073709551616) (h : old ≠ gen) : jright size gen i (sec size old j r) = none := by
  refine jright_none fun own e => h ?_
  have h1 := congrArg (fun l : List UInt8 => rdn ((l.drop 4).take 8)) e
  simp only [sec_gen, rdn_be'] at h1
  omega
theorem jgo_first {size gen n : Nat} {img : List UInt8} {rooms : List (List UInt8)} (hn : n ≤ rooms.length) (h1 : ∀ (i : Nat) r, i < n → rooms[i]? = some r → jright size gen i (jat size img i) = some r) :
    ∀ (m k : Nat), k ≤ n → n ≤ k + m → (n < k + m → jright size gen n (jat size img n) = none) → jgo size gen img m k = (rooms.take n).drop k
  | 0, k, hk, hm, _ => by
    have : k = n := by omega
    subst this
    rw [List.drop_of_length_le (by simp; omega)]
    rfl
  | m + 1, k, hk, hm, h2 => by
    unfold jgo
    rcases Nat.lt_or_ge k n with q | q
    · obtain ⟨r, hr⟩ : ∃ r, rooms[k]? = some r := ⟨rooms[k]'(by omega), by simp⟩
      rw [h1 k r q hr]
      have : (rooms.take n).drop k = r :: (rooms.take n).drop (k + 1) := by
        have hg : (rooms.take n)[k]? = some r := by rw [List.getElem?_take, if_pos q]; exact hr
        obtain ⟨hl, e⟩ := List.getElem?_eq_some_iff.1 hg
        rw [List.drop_eq_getElem_cons hl, e]
      rw [this]
      simp only
      rw [jgo_first hn h1 m (k + 1) q (by omega) (fun w => h2 (by omega))]
    · have : k = n := by omega
      subst this
      rw [h2 (by omega), List.drop_of_length_le (by simp; omega)]
theorem first_found {st : JS} {laid : List (List UInt8)} {ends : List Nat} {l : List (List UInt8)} {n : Nat} (f : FS st laid ends l) : recsA ((st.rooms.take n).flatten) = laid.take (wantN ends n) ∧ (st.rooms.length ≤ n → wantN ends n = laid.length) := by
  have hw := want_cnt n laid ends (tot (st.rooms.take n)) f.len fun j e hj => by
    obtain ⟨rs, e1, e2, e3, e4⟩ := f.rel j e hj
    rw [← e3, ends_iff e1 e2, ← e4, tot_flat]
  have hp : (st.rooms.take n).flatten = (laid.flatMap enc).take (tot (st.rooms.take n)) := by
    have h1 : st.rooms.flatten = (st.rooms.take n).flatten ++ (st.rooms.drop n).flatten := by rw [← List.flatten_append, List.take_append_drop]
    rw [← f.flat, h1, ← tot_flat, List.take_left]
  refine ⟨by rw [hw, hp, recsA_prefix _ f.small], fun hn => ?_⟩
  rw [hw, List.take_of_length_le hn, ← tot_flat, f.flat]
  exact cntL_all laid _ (Nat.le_refl _)
theorem jat_flat {n : Nat} : ∀ {ss : List (List UInt8)} {i : Nat} {s : List UInt8}, (∀ s, s ∈ ss → s.length = n) → ss[i]? = some s → jat n ss.flatten i = s
  | [], i, s, _, h => by simp at h
  | a :: t, 0, s, hl, h => by
    simp at h
    subst h
    have := hl a (by simp)
    unfold jat
    rw [Nat.zero_mul, List.drop_zero, List.flatten_cons, List.take_left' this]
  | a :: t, i + 1, s, hl, h => by
    have ha := hl a (by simp)
    have := jat_flat (ss := t) (i := i) (fun s hs => hl s (by simp [hs])) (by simpa using h)
    unfold jat at this ⊢
    rw [List.flatten_cons, Nat.add_mul, Nat.one_mul, Nat.add_comm, ← List.drop_drop, List.drop_left' ha]
    exact this
theorem flat_set {n : Nat} : ∀ {ss : List (List UInt8)} {i : Nat} {x : List UInt8}, (∀ s, s ∈ ss → s.length = n) → i < ss.length → x.length = n → ss.flatten.take (i * n) ++ x ++ ss.flatten.drop (i * n + x.length) = (ss.set i x).flatten
  | [], i, x, _, h, _ => by simp at h
  | a :: t, 0, x, hl, h, hx => by
    have ha := hl a (by simp)
    rw [Nat.zero_mul, List.take_zero, List.nil_append, Nat.zero_add, List.flatten_cons, List.drop_left' (by omega), List.set_cons_zero, List.flatten_cons]
  | a :: t, i + 1, x, hl, h, hx => by
    have ha := hl a (by simp)
    have := flat_set (ss := t) (i := i) (fun s hs => hl s (by simp [hs])) (by simpa using h) hx
    rw [List.set_cons_succ, List.flatten_cons, List.flatten_cons, ← this, show (i + 1) * n = a.length + i * n by rw [ha, Nat.add_mul]; omega, List.take_length_add_append, Nat.add_assoc, List.drop_length_add_append]
    simp only [List.append_assoc]
theorem flatN_len {n : Nat} : ∀ {ss : List (List UInt8)}, (∀ s, s ∈ ss → s.length = n) → ss.flatten.length = ss.length * n
  | [], _ => by simp
  | a :: t, hl => by
    have ha := hl a (by simp)
    have := flatN_len (ss := t) fun s hs => hl s (by simp [hs])
    rw [List.flatten_cons, List.length_append, this, List.length_cons, ha, Nat.add_mul]
    omega
theorem set_mem {n : Nat} {ss : List (List UInt8)} {i : Nat} {x : List UInt8} (hl : ∀ s, s ∈ ss → s.length = n) (hx : x.length = n) : ∀ s, s ∈ ss.set i x → s.length = n := fun s hs => by
  rcases List.mem_or_eq_of_mem_set hs with h | h
  · exact hl s h
  · rw [h]; exact hx
theorem secCells_append : ∀ (a b : List Value) (k : Nat), secCells k (a ++ b) = secCells k a ++ secCells (k + a.length) b
  | [], b, k => by simp [secCells]
  | v :: a, b, k => by
    simp only [List.cons_append, secCells, secCells_append a b (k + 1), List.length_cons]
    congr 4
    omega
section
variable {w0 : World} {h h' : Hp}
theorem GV.write {x : Value} {n s : Nat} {cs cs' : List Value} {S : List Nat} {q : Nat} (v : GV w0 h s x n cs S) (hq : q ∈ S) (hl : cs'.length = cs.length) : GV w0 (h.put q cs') s x n cs' S := by
  have e := v.len
  rcases v with v | ⟨q', rfl, rfl, a, b, c, _, f⟩
  · rcases v with ⟨rfl, rfl, rfl, rfl⟩ | ⟨q', rfl, rfl, a, b, d, e', f⟩
    · simp at hq
    · simp at hq; subst hq
      exact .inl (.inr ⟨q, rfl, rfl, a, by simpa using b, by simp, by simpa using e', by omega⟩)
  · simp at hq; subst hq
    exact .inr ⟨q, rfl, rfl, a, by simpa using b, by simp, by omega, f⟩
theorem GV.at {x : Value} {l : List Value} {n : Nat} {S : List Nat} (v : GV w0 h 1 x n l S) {lo hi : Nat} (hl : lo < hi) (hh : hi ≤ n) :
    ∃ q c, S = [q] ∧ cutV 1 x lo hi = .slice (some ⟨q, lo, none⟩) (hi - lo) c ∧ w0.heap.size ≤ q ∧ q < h.next ∧ h.blk q = some l := by
  rcases v with v | ⟨q, rfl, rfl, a, b, c, _, f⟩
  · rcases v with ⟨rfl, rfl, rfl, rfl⟩ | ⟨q, rfl, rfl, a, b, d, e', f⟩
    · omega
    · exact ⟨q, ucap, rfl, by simp [cutV], a, b, d⟩
  · exact ⟨q, n - lo, rfl, by
      simp only [cutV]
      rw [if_neg (Nat.ne_of_lt f.1), if_neg (by omega)]
      simp, a, b, c⟩
theorem splice_bvs (l m : List UInt8) (lo : Nat) : splice (bvs l) lo (bvs m) = bvs (l.take lo ++ m ++ l.drop (lo + m.length)) := by
  unfold splice
  simp
theorem GV.copy {x y : Value} {l m : List UInt8} {S : List Nat} {lo hi : Nat} {K : Kont} (v : GV w0 h 1 x l.length (bvs l) S) (hl : lo ≤ hi) (hh : hi ≤ l.length) (hm : m.length ≤ hi - lo) (hy : lenA y = some m.length) (hs : Src w0.heap.size h 1 y m.length (bvs m))
    (hk : ∀ r h', r ≠ junk → GV w0 h' 1 x l.length (bvs (l.take lo ++ m ++ l.drop (lo + m.length))) S → Step h h' S S → K r h') : copyA w0 1 (cutV 1 x lo hi) y K h := by
  rcases Nat.eq_zero_or_pos m.length with h0 | h0
  · have hm0 : m = [] := List.eq_nil_of_length_eq_zero h0
    subst hm0
    obtain ⟨a, c, e⟩ := (Sl.cut_sl v.sl hl hh).1.slice
    rw [e]
    refine ⟨a, _, _, 0, rfl, hy, fun _ => hk _ _ (by simp) (by simpa using v) v.refl, fun hp => by simp at hp⟩
  · obtain ⟨q, c, rfl, e, hB, hlt, hb⟩ := v.at (lo := lo) (hi := hi) (by omega) hh
    rw [e]
    refine ⟨_, _, _, m.length, rfl, hy, fun hp => by omega, fun _ => ⟨q, lo, bvs l, bvs m, rfl, hB, hb, ?_, ?_, ?_⟩⟩
    · simp; omega
    · rw [Nat.min_eq_left hm]; exact hs
    · rw [splice_bvs]
      refine hk _ _ (by simp) (v.write (by simp) (by simp; omega)) ((Step.refl h [q] (by simpa using hlt)).put (by simp) _)
def Lsec (w0 : World) (h : Hp) (x : Value) (l : List (List UInt8)) (T U : List Nat) : Prop :=
  ∃ vs, Vec w0 h 2 x l.length (secCells 0 vs) T ∧ vs.length = l.length ∧ (∀ b, b ∈ U → b < h.next ∧ b ∉ T) ∧ ∀ (i : Nat) r, l[i]? = some r → ∃ v Tv, vs[i]? = some v ∧ Vec w0 h 1 v r.length (bvs r) Tv ∧ ∀ b, b ∈ Tv → b ∈ U
theorem Lsec.nil : Lsec w0 h (.slice none 0 0) [] [] [] := ⟨[], .nil, rfl, by simp, by simp⟩
theorem Lsec.frame {x : Value} {l : List (List UInt8)} {T U S S' : List Nat} (m : Lsec w0 h x l T U) (st : Step h h' S S') (hT : ∀ b, b ∈ T → b ∉ S) (hU : ∀ b, b ∈ U → b ∉ S) : Lsec w0 h' x l T U := by
  obtain ⟨vs, a, b, c, d⟩ := m
  refine ⟨vs, a.frame st hT, b, fun q hq => ⟨by have := (c q hq).1; have := st.1; omega, (c q hq).2⟩, fun i r hi => ?_⟩
  obtain ⟨v, Tv, e1, e2, e3⟩ := d i r hi
  exact ⟨v, Tv, e1, e2.frame st fun q hq => hU q (e3 q hq), e3⟩
theorem Lsec.app {x y : Value} {l bs : List (List UInt8)} {T U SO : List Nat} {K : Kont} (hf : w0.heap.size ≤ h.next) (m : Lsec w0 h x l T U) (q : SVec w0 h y l.length bs SO) (hd : ∀ b, b ∈ SO → b ∉ T) (hn : (l.length + bs.length) ≤ 1000000)
    (hk : ∀ x' h' T', Lsec w0 h' x' (l ++ bs) T' (U ++ SO) → Step h h' T T' → K x' h') : appA w0 2 32 x y K h := by
  have hSO := q.lt
  obtain ⟨vs, a, b, c, d⟩ := m
  obtain ⟨vs2, T2, S2, v2, rr, d2, rfl⟩ := q
  have hl2 := rr.len
  obtain ⟨aa, cc, ey⟩ := v2.slice
  refine appA_vec (m := bs.length) hf a (by rw [ey]; rfl) v2.src (by rw [secCells_length, hl2, Nat.mul_comm]) (by omega) (by omega) (by omega) fun x' h' T' g st => ?_
  have hnT : ∀ q, q < h.next → q ∉ T → q ∉ T' := fun q hq hqT w => by
    rcases (st.own q w).2 with e | e
    · exact hqT e
    · omega
  refine hk x' h' T' ⟨vs ++ vs2, ?_, by simp [b, hl2], fun q hq => ?_, fun i r hi => ?_⟩ st
  · rw [secCells_append, List.length_append, b, Nat.zero_add]
    exact g
  · rcases List.mem_append.1 hq with w | w
    · exact ⟨by have := (c q w).1; have := st.1; omega, hnT q (c q w).1 (c q w).2⟩
    · have := (hSO q w).2
      exact ⟨by have := st.1; omega, hnT q this (hd q w)⟩
  · rcases Nat.lt_or_ge i l.length with w | w
    · rw [List.getElem?_append_left w] at hi
      obtain ⟨v, Tv, e1, e2, e3⟩ := d i r hi
      exact ⟨v, Tv, by rw [List.getElem?_append_left (by omega)]; exact e1, e2.frame st fun q hq => (c q (e3 q hq)).2, fun q hq => by simp [e3 q hq]⟩
    · rw [List.getElem?_append_right w] at hi
      obtain ⟨v, Tv, e1, e2, e3⟩ := rr.get hi
      refine ⟨v, Tv, by rw [List.getElem?_append_right (by omega), b]; exact e1, e2.frame st fun q hq => hd q (by simp [e3 q hq]), fun q hq => by simp [e3 q hq]⟩
end
def oldB : List UInt8 := [0, 0, 0, 1, 120]
section
variable {w0 : World} {h h' : Hp}
theorem lay_copy {size i : Nat} {x y : Value} {ss : List (List UInt8)} {m : List UInt8} {S : List Nat} {K : Kont} (v : GV w0 h 1 x ss.flatten.length (bvs ss.flatten) S) (hss : ∀ s, s ∈ ss → s.length = size) (hi : i < ss.length) (hm : m.length = size) (hy : lenA y = some m.length) (hs : Src w0.heap.size h 1 y m.length (bvs m))
    (hk : ∀ r h', GV w0 h' 1 x (ss.set i m).flatten.length (bvs (ss.set i m).flatten) S → Step h h' S S → K r h') : copyA w0 1 (cutV 1 x (i * size) ss.flatten.length) y K h := by
  have hfl := flatN_len hss
  have h1 : (i + 1) * size ≤ ss.length * size := Nat.mul_le_mul_right _ hi
  rw [Nat.add_mul, Nat.one_mul] at h1
  refine v.copy (by omega) (Nat.le_refl _) (by omega) hy hs fun r h' _ g st => hk r h' ?_ st
  have := flat_set hss hi hm
  have hl2 : (ss.set i m).flatten.length = ss.flatten.length := by rw [flatN_len (set_mem hss hm), List.length_set, hfl]
  rw [hl2, ← this]
  exact g
theorem jf_old {k0 : Value → Value → Value → Value → Value → Value → Value → Value → Value → Hp → Prop} {size sectors old : Nat} {x2 x3 x4 x5 x14 x15 x17 x19 : Value} {SI : List Nat} {hh : Hp} (f : Fit w0 hh) (hs : 512 ≤ size ∧ size ≤ 4096) (hn : sectors ≤ 4096) (ho : old < 18446744073709551616)
    (hk : ∀ h1 (ss : List (List UInt8)), Step hh h1 SI SI → GV w0 h1 1 x19 ss.flatten.length (bvs ss.flatten) SI → ss.length = sectors → (∀ s, s ∈ ss → s.length = size) → (∀ j, j < sectors → ss[j]? = some (sec size old j oldB)) → k0 (.int .i64 (size : Int)) x2 x3 x4 x5 x14 x15 x17 x19 h1) :
    ∀ (m i : Nat) (h1 : Hp) (ss : List (List UInt8)), i + m = sectors → Step hh h1 SI SI → GV w0 h1 1 x19 ss.flatten.length (bvs ss.flatten) SI → ss.length = sectors → (∀ s, s ∈ ss → s.length = size) → (∀ j, j < i → ss[j]? = some (sec size old j oldB)) →
      deduplaw07_JournalFirst_L1 prog w0 k0 (m + 1) (.int .i64 (size : Int)) (.int .i64 (sectors : Int)) x2 x3 x4 x5 (.int .u64 (old : Int)) x14 x15 x17 x19 (.int .i64 (i : Int)) h1 := by
  intro m
  induction m with
  | zero =>
    intro i h1 ss hi st g hl hz hj
    have : i = sectors := by omega
    subst this
    rw [deduplaw07_JournalFirst_L1]
    simp only [deduplaw07_JournalFirst_B1, wd, wa, Int.lt_irrefl, decide_false]
    exact hk h1 ss st g hl hz hj
  | succ m ih =>
    intro i h1 ss hi st g hl hz hj
    have fb : w0.heap.size ≤ h1.next := Nat.le_trans f.base st.1
    have hfl := flatN_len hz
    have hmul : i * size ≤ 4096 * 4096 := Nat.mul_le_mul (by omega) hs.2
    have hle : i * size ≤ ss.length * size := Nat.mul_le_mul_right _ (by omega)
    have c1 : decide ((i : Int) < (sectors : Int)) = true := decide_eq_true (by omega)
    have e6 : IntKind.i64.wrap ((i : Int) + 1) = ((i + 1 : Nat) : Int) := by rw [IntWalk.i64_in _ (by omega)]; simp
    have e7 : IntKind.i64.wrap ((i : Int) * (size : Int)) = ((i * size : Nat) : Int) := by rw [← Int.natCast_mul, IntWalk.i64_in _ (by omega)]
    have hcut : ∀ {h2 : Hp} {K : Kont}, GV w0 h2 1 x19 ss.flatten.length (bvs ss.flatten) SI → K (cutV 1 x19 (i * size) ss.flatten.length) h2 → slSlA 1 x19 (some (.int .i64 ((i * size : Nat) : Int))) none none K h2 := fun g2 hK =>
      g2.sl.cutN (lo := i * size) (hi := ss.flatten.length) boundA_nat boundA_none (by omega) (Nat.le_refl _) fun x' e _ _ => by rw [e]; exact hK
    rw [deduplaw07_JournalFirst_L1]
    simp only [deduplaw07_JournalFirst_B1, wd, wa, c1, e7]
    refine hcut g ?_
    simp only [bslA_iff, fillA_one, fillA_nil, show zerosL [(.int .u8 0 : Value)] 5 = [.int .u8 0, .int .u8 0, .int .u8 0, .int .u8 0, .int .u8 0] from rfl, List.set_cons_zero, List.set_cons_succ]
    refine ⟨rfl, by simp, rfl, by simp, rfl, by simp, rfl, by simp, rfl, by simp, ?_⟩
    have s2 : Step h1 (h1.new (bvs oldB) 1) [] [] := ((Step.refl h1 [] (by simp)).new _ _).less (by simp)
    have q2 : Src w0.heap.size (h1.new (bvs oldB) 1) 1 (.slice (some ⟨h1.next, 0, none⟩) oldB.length 5) oldB.length (bvs oldB) := src_new fb rfl
    show stillA _ _ (h1.new (bvs oldB) 1)
    have g2 := g.frame s2 (by simp)
    have st2 := st.trans (s2.keepS fun b hb => (g.lt b hb).2)
    generalize h1.new (bvs oldB) 1 = h2 at *
    simp only [stillA_iff, allA_one, sameQ_slSlA]
    refine ⟨hcut g2 rfl, ?_⟩
    refine callA_of (Bytes_spec hs ho (by omega) (by simp [oldB]; omega) q2) fun v h3 ⟨S3, g3, s3⟩ f3 => ?_
    have gi3 := g2.frame s3 (by simp)
    simp only [stillA_iff, allA_one, sameQ_slSlA]
    refine ⟨hcut gi3 rfl, ?_⟩
    have hsl : (sec size old i oldB).length = size := sec_length _ _ (by omega) (by simp [oldB]; omega)
    obtain ⟨a, c, ev⟩ := g3.slice
    refine lay_copy gi3 hz (by omega) hsl (by rw [ev, hsl]; rfl) (by have := g3.src; rw [hsl]; exact this) fun r h4 g4 s4 => ?_
    simp only [wd, wa, e6]
    refine ih (i + 1) h4 (ss.set i (sec size old i oldB)) (by omega) ((st2.trans ((s3.less (T := []) (by simp)).keepS fun b hb => (g2.lt b hb).2)).trans s4) g4 (by simpa using hl) (set_mem hz hsl) fun j hj' => ?_
    by_cases e : j = i
    · subst e
      rw [List.getElem?_set_self (by omega)]
    · rw [List.getElem?_set_ne (fun w => e w.symm)]
      exact hj j (by omega)
end
def inN (l : List Nat) : List Value := l.map fun n : Nat => .int .i64 (n : Int)
theorem inN_append (a b : List Nat) : inN (a ++ b) = inN a ++ inN b := by simp [inN]
theorem svs_append (a b : List (List UInt8)) : svs (a ++ b) = svs a ++ svs b := by simp [svs]
structure JF (w0 : World) (h : Hp) (pw px : Nat) (sw sx : JS) (laid : List (List UInt8)) (ends : List Nat) (l ss : List (List UInt8)) (x19 x21 x22 x23 : Value) (Sw Sx S1 S2 T U SI : List Nat) (col : Nat → Nat) : Prop where
  w : Jw w0 h pw sw Sw
  x : Jw w0 h px sx Sx
  v1 : Vec w0 h 1 x21 laid.length (svs laid) S1
  v2 : Vec w0 h 1 x22 ends.length (inN ends) S2
  ls : Lsec w0 h x23 l T U
  im : GV w0 h 1 x19 ss.flatten.length (bvs ss.flatten) SI
  cw : ∀ b, b ∈ Sw → col b = 1
  cx : ∀ b, b ∈ Sx → col b = 2
  c1 : ∀ b, b ∈ S1 → col b = 3
  c2 : ∀ b, b ∈ S2 → col b = 4
  cT : ∀ b, b ∈ T → col b = 5
  cU : ∀ b, b ∈ U → col b = 6
  cI : ∀ b, b ∈ SI → col b = 7
section
variable {w0 : World} {h h' : Hp} {pw px : Nat} {sw sx : JS} {laid : List (List UInt8)} {ends : List Nat} {l ss : List (List UInt8)} {x19 x21 x22 x23 : Value} {Sw Sx S1 S2 T U SI : List Nat} {col : Nat → Nat}
theorem Lsec.lt {x : Value} (m : Lsec w0 h x l T U) : (∀ b, b ∈ T → b < h.next) ∧ ∀ b, b ∈ U → b < h.next := by
  obtain ⟨vs, a, b, c, d⟩ := m
  exact ⟨fun q hq => (a.lt q hq).2, fun q hq => (c q hq).1⟩
theorem col_off {A : List Nat} {k : Nat} (cA : ∀ b, b ∈ A → col b = k) {X : List Nat} {j : Nat} (hj : j ≠ k) (cX : ∀ b, b ∈ X → col b = j) : ∀ b, b ∈ X → b ∉ A := fun b hb w => hj (by rw [← cX b hb, cA b w])
theorem col_new {n k : Nat} {X : List Nat} {j : Nat} (hl : ∀ b, b ∈ X → b < n) (cX : ∀ b, b ∈ X → col b = j) : ∀ b, b ∈ X → (if b < n then col b else k) = j := fun b hb => by rw [if_pos (hl b hb)]; exact cX b hb
theorem col_own {A A' : List Nat} {k : Nat} (st : Step h h' A A') (cA : ∀ b, b ∈ A → col b = k) (lA : ∀ b, b ∈ A → b < h.next) : ∀ b, b ∈ A' → (if b < h.next then col b else k) = k := fun b hb => by
  rcases (st.own b hb).2 with q | q
  · rw [if_pos (lA b q)]; exact cA b q
  · rw [if_neg (by omega)]
theorem JF.setW (m : JF w0 h pw px sw sx laid ends l ss x19 x21 x22 x23 Sw Sx S1 S2 T U SI col) {sw' : JS} {Sw' : List Nat} (st : Step h h' Sw Sw') (w' : Jw w0 h' pw sw' Sw') :
    JF w0 h' pw px sw' sx laid ends l ss x19 x21 x22 x23 Sw' Sx S1 S2 T U SI (fun b => if b < h.next then col b else 1) := by
  have lw := fun b hb => (m.w.lt b hb).2
  exact ⟨w', m.x.frame st (col_off m.cw (by decide) m.cx), m.v1.frame st (col_off m.cw (by decide) m.c1), m.v2.frame st (col_off m.cw (by decide) m.c2), m.ls.frame st (col_off m.cw (by decide) m.cT) (col_off m.cw (by decide) m.cU), m.im.frame st (col_off m.cw (by decide) m.cI),
    col_own st m.cw lw, col_new (fun b hb => (m.x.lt b hb).2) m.cx, col_new (fun b hb => (m.v1.lt b hb).2) m.c1, col_new (fun b hb => (m.v2.lt b hb).2) m.c2, col_new m.ls.lt.1 m.cT, col_new m.ls.lt.2 m.cU, col_new (fun b hb => (m.im.lt b hb).2) m.cI⟩
theorem JF.setX (m : JF w0 h pw px sw sx laid ends l ss x19 x21 x22 x23 Sw Sx S1 S2 T U SI col) {sx' : JS} {Sx' : List Nat} (st : Step h h' Sx Sx') (x' : Jw w0 h' px sx' Sx') :
    JF w0 h' pw px sw sx' laid ends l ss x19 x21 x22 x23 Sw Sx' S1 S2 T U SI (fun b => if b < h.next then col b else 2) := by
  have lx := fun b hb => (m.x.lt b hb).2
  exact ⟨m.w.frame st (col_off m.cx (by decide) m.cw), x', m.v1.frame st (col_off m.cx (by decide) m.c1), m.v2.frame st (col_off m.cx (by decide) m.c2), m.ls.frame st (col_off m.cx (by decide) m.cT) (col_off m.cx (by decide) m.cU), m.im.frame st (col_off m.cx (by decide) m.cI),
    col_new (fun b hb => (m.w.lt b hb).2) m.cw, col_own st m.cx lx, col_new (fun b hb => (m.v1.lt b hb).2) m.c1, col_new (fun b hb => (m.v2.lt b hb).2) m.c2, col_new m.ls.lt.1 m.cT, col_new m.ls.lt.2 m.cU, col_new (fun b hb => (m.im.lt b hb).2) m.cI⟩
theorem JF.set1 (m : JF w0 h pw px sw sx laid ends l ss x19 x21 x22 x23 Sw Sx S1 S2 T U SI col) {laid' : List (List UInt8)} {y : Value} {S1' : List Nat} (st : Step h h' S1 S1') (v' : Vec w0 h' 1 y laid'.length (svs laid') S1') :
    JF w0 h' pw px sw sx laid' ends l ss x19 y x22 x23 Sw Sx S1' S2 T U SI (fun b => if b < h.next then col b else 3) := by
  have l1 := fun b hb => (m.v1.lt b hb).2
  exact ⟨m.w.frame st (col_off m.c1 (by decide) m.cw), m.x.frame st (col_off m.c1 (by decide) m.cx), v', m.v2.frame st (col_off m.c1 (by decide) m.c2), m.ls.frame st (col_off m.c1 (by decide) m.cT) (col_off m.c1 (by decide) m.cU), m.im.frame st (col_off m.c1 (by decide) m.cI),
    col_new (fun b hb => (m.w.lt b hb).2) m.cw, col_new (fun b hb => (m.x.lt b hb).2) m.cx, col_own st m.c1 l1, col_new (fun b hb => (m.v2.lt b hb).2) m.c2, col_new m.ls.lt.1 m.cT, col_new m.ls.lt.2 m.cU, col_new (fun b hb => (m.im.lt b hb).2) m.cI⟩
theorem JF.set2 (m : JF w0 h pw px sw sx laid ends l ss x19 x21 x22 x23 Sw Sx S1 S2 T U SI col) {ends' : List Nat} {y : Value} {S2' : List Nat} (st : Step h h' S2 S2') (v' : Vec w0 h' 1 y ends'.length (inN ends') S2') :
    JF w0 h' pw px sw sx laid ends' l ss x19 x21 y x23 Sw Sx S1 S2' T U SI (fun b => if b < h.next then col b else 4) := by
  have l2 := fun b hb => (m.v2.lt b hb).2
  exact ⟨m.w.frame st (col_off m.c2 (by decide) m.cw), m.x.frame st (col_off m.c2 (by decide) m.cx), m.v1.frame st (col_off m.c2 (by decide) m.c1), v', m.ls.frame st (col_off m.c2 (by decide) m.cT) (col_off m.c2 (by decide) m.cU), m.im.frame st (col_off m.c2 (by decide) m.cI),
    col_new (fun b hb => (m.w.lt b hb).2) m.cw, col_new (fun b hb => (m.x.lt b hb).2) m.cx, col_new (fun b hb => (m.v1.lt b hb).2) m.c1, col_own st m.c2 l2, col_new m.ls.lt.1 m.cT, col_new m.ls.lt.2 m.cU, col_new (fun b hb => (m.im.lt b hb).2) m.cI⟩
theorem JF.setL (m : JF w0 h pw px sw sx laid ends l ss x19 x21 x22 x23 Sw Sx S1 S2 T U SI col) {l' : List (List UInt8)} {y : Value} {T' U' : List Nat} (st : Step h h' T T') (v' : Lsec w0 h' y l' T' U') (hU : ∀ b, b ∈ U' → b < h.next ∧ col b = 6) :
    JF w0 h' pw px sw sx laid ends l' ss x19 x21 x22 y Sw Sx S1 S2 T' U' SI (fun b => if b < h.next then col b else 5) := by
  exact ⟨m.w.frame st (col_off m.cT (by decide) m.cw), m.x.frame st (col_off m.cT (by decide) m.cx), m.v1.frame st (col_off m.cT (by decide) m.c1), m.v2.frame st (col_off m.cT (by decide) m.c2), v', m.im.frame st (col_off m.cT (by decide) m.cI),
    col_new (fun b hb => (m.w.lt b hb).2) m.cw, col_new (fun b hb => (m.x.lt b hb).2) m.cx, col_new (fun b hb => (m.v1.lt b hb).2) m.c1, col_new (fun b hb => (m.v2.lt b hb).2) m.c2, col_own st m.cT m.ls.lt.1, fun b hb => by rw [if_pos (hU b hb).1]; exact (hU b hb).2, col_new (fun b hb => (m.im.lt b hb).2) m.cI⟩
end
end Go.Proofs.Ytiakadkooclelaa.Ah
