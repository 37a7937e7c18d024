/- codec.Writer: what each call does. -/
import Derived.Test.YtfmoemconapmhaaGreatGcodec
import Derived.Test.YtfmoemconapmhaaGreatGn
import Derived.Test.YtfmoemconapmhaaGreatAh20
set_option linter.unusedVariables false
set_option linter.unusedSimpArgs false
set_option linter.constructorNameAsVariable false
namespace Go.Proofs.YtfmoemconapmhaaGreat.Ah
open Go
structure WS where
 most : Int
 bs : List UInt8
 over : Bool
def WS.put (s : WS) (l : List UInt8) : WS := if s.over then s else if s.most - s.bs.length < l.length then { s with over := true } else { s with bs := s.bs ++ l }
def Wr (w0 : World) (h : Hp) (p : Nat) (st : WS) (S : List Nat) : Prop :=
 ∃ x T, h.blk p = some [.int .i64 st.most, x, .bool st.over] ∧ w0.heap.size ≤ p ∧ p < h.next ∧ Vec w0 h 1 x st.bs.length (bvs st.bs) T ∧ p ∉ T ∧ S = p :: T ∧ 0 ≤ st.most ∧ st.most ≤ 9223372036854775807
theorem Wr.lt {w0 : World} {h : Hp} {p : Nat} {st : WS} {S : List Nat} (w : Wr w0 h p st S) : ∀ b, b ∈ S → w0.heap.size ≤ b ∧ b < h.next := by
 obtain ⟨x, T, a, b, c, d, e, rfl, _⟩ := w
 intro i hi
 rcases List.mem_cons.1 hi with rfl | hi
 ·exact ⟨b, c⟩
 ·exact d.lt i hi
theorem Wr.frame {w0 : World} {h h' : Hp} {p : Nat} {st : WS} {S T T' : List Nat} (w : Wr w0 h p st S) (s : Step h h' T T') (hd : ∀ b, b ∈ S → b ∉ T) : Wr w0 h' p st S := by
 obtain ⟨x, U, a, b, c, d, e, rfl, f⟩ := w
 exact ⟨x, U, by rw [(s.2 p c (hd p (by simp))).1]; exact a, b, by have := s.1; omega, d.frame s (fun i hi => hd i (by simp [hi])), e, rfl, f⟩
theorem qam {w0 : World} {h : Hp} (most : Int) (hm : -9223372036854775808 ≤ most ∧ most ≤ 9223372036854775807) :
  ACalls prog w0 q4y [.int .i64 most] h fun v h' => v = ptr h.next ∧ Wr w0 h' h.next ⟨max most 0, [], false⟩ [h.next] ∧ Step h h' [] [h.next] := by
 refine ACalls.of_fit (by simp) fun f => qxz (by simp) ?_
 simp [qf0]
 refine ⟨rfl, ⟨_, [], by simp, f.base, by simp, .nil, by simp, rfl, by simp; omega, by simp; omega⟩, by simp, fun b hb _ => ?_, fun b hb => ?_, rfl⟩
 ·have : b ≠ h.next := by omega
  simp [this]
 ·simp at hb; subst hb; simp
theorem q8b {w0 : World} {h : Hp} {p : Nat} {st : WS} {S : List Nat} {ay : Option Addr} {cy : Nat} {l : List UInt8} (w : Wr w0 h p st S) (hs : Src w0.heap.size h 1 (.slice ay l.length cy) l.length (bvs l))
  (hsz : st.bs.length + l.length ≤ 140737488355328) :
  ACalls prog w0 q3e [ptr p, .slice ay l.length cy] h fun v h' => ∃ S', Wr w0 h' p (st.put l) S' ∧ Step h h' S S' := by
 refine ACalls.of_fit (by simp [ptr]) fun f => qxh (by simp [ptr]) ?_
 have w2 := w
 obtain ⟨x, T, hb0, hp, hp2, hv, hpT, rfl, hm⟩ := w
 obtain ⟨ax, cx, hx⟩ := hv.slice
 simp [qev, ptr, hb0, hx, Nat.not_lt.2 hp]
 refine ⟨fun ho => ⟨_, by simpa [WS.put, ho] using w2, Step.refl _ _ fun b hb => (w2.lt b hb).2⟩, fun ho => ?_⟩
 rw [IntWalk.i64_in _ (by omega), ← hx]
 refine ⟨fun hlt => ⟨hp, ?_⟩, fun hge => ?_⟩
 ·exact ⟨p :: T, ⟨x, T, by simp [WS.put, ho, hlt], hp, by simpa using hp2, by simpa [WS.put, ho, hlt] using hv.put hpT _, hpT, rfl, by simpa [WS.put, ho, hlt] using hm⟩, (Step.refl _ _ fun b hb => (w2.lt b hb).2).put (by simp) _⟩
 ·have hst : st.put l = { st with bs := st.bs ++ l } := by simp [WS.put, ho]; omega
  refine q0r f.base hv (by simp) hs (by simp) (by omega) (by omega) (by omega) (fun x' h' T' hv' s' => ?_)
  have hpT' : p ∉ T' := fun e => by rcases (s'.3 p e).2 with q | q; exact hpT q; omega
  have hpb : h'.blk p = h.blk p := (s'.2 p hp2 hpT).1
  obtain ⟨ax', cx', hx'⟩ := hv'.slice
  simp [hpb, hb0, Nat.not_lt.2 hp, hp, hx', hst]
  rw [← hx']
  have s2 := s'.1
  refine ⟨p :: T', ⟨x', T', by simp, hp, by simp; omega, by simpa using hv'.put hpT' _, hpT', rfl, hm⟩, ?_⟩
  have s3 : Step h h' (p :: T) (p :: T') := s'.wide (fun b hb => by simp [hb]) (fun b hb => by rcases List.mem_cons.1 hb with rfl | hb; exact .inr ⟨by simp, hp2⟩; exact .inl hb)
  exact s3.put (by simp) _
/-! ### Numbers -/
def be : Nat → Nat → List UInt8
 | 0, _ => []
 | s + 1, n => UInt8.ofNat (n / 256 ^ s) :: be s n
@[simp] theorem q4h (s n : Nat) : (be s n).length = s := by induction s with | zero => rfl | succ s ih => simp [be, ih]
theorem q4m (n : Nat) : bv (UInt8.ofNat n) = .int .u8 ((n % 256 : Nat) : Int) := by simp [bv]
theorem q03c {w0 : World} {kk : IntKind} (hkk : 4 ≤ kk.bits) {p q n0 s : Nat} {K : Value → Value → Hp → Prop} (hq : w0.heap.size ≤ q) (hs : s ≤ 8) : ∀ (k i : Nat) (h : Hp), i + k = s → q < h.next →
  h.blk q = some (List.replicate k (.int .u8 0) ++ bvs (be i n0)) → (∀ h', h'.blk q = some (bvs (be s n0)) → Step h h' [q] [q] → K (ptr p) (.slice (some ⟨q, 0, none⟩) s s) h') →
  q2x prog w0 K (k + 1) (ptr p) (.int kk ((n0 / 256 ^ i : Nat) : Int)) (.int .i64 (s : Int)) (.slice (some ⟨q, 0, none⟩) s s) (.int .i64 (s : Int)) (.int .i64 (i : Int)) h := by
 intro k
 induction k with
 | zero =>
  intro i h hi hql hb hk
  have : i = s := by omega
  subst this
  simp [q2x, q9q]
  exact hk h (by simpa using hb) (.refl _ _ (by simpa using hql))
 | succ k ih =>
  intro i h hi hql hb hk
  rw [q2x]
  simp [q9q]
  have e1 : IntKind.i64.wrap (IntKind.i64.wrap ((s : Int) - 1) - (i : Int)) = (k : Int) := by rw [IntWalk.i64_in ((s : Int) - 1) (by omega), IntWalk.i64_in _ (by omega)]; omega
  have e2 : IntKind.i64.wrap ((i : Int) + 1) = ((i + 1 : Nat) : Int) := by rw [IntWalk.i64_in _ (by omega)]; simp
  have e3 : (n0 : Int) / 256 ^ i / 2 ^ min 4 kk.bits / 2 ^ min 4 kk.bits = ((n0 / 256 ^ (i + 1) : Nat) : Int) := by
   rw [Nat.pow_succ, ← Nat.div_div_eq_div_mul]
   rw [Nat.min_eq_left hkk]
   simp
   omega
  have e4 : IntKind.u8.wrap ((n0 : Int) / 256 ^ i) = ((n0 / 256 ^ i % 256 : Nat) : Int) := by rw [IntKind.wrap_u8]; simp
  rw [e1, e2, e3, e4]
  refine ⟨fun _ => ⟨by omega, by omega, hq, _, hb, by simp; omega, ?_⟩, fun hle => by omega⟩
  refine ih (i + 1) _ (by omega) (by simpa using hql) ?_ (fun h' hb' st => hk h' hb' ?_)
  ·simp only [qi, if_true, Int.toNat_natCast, be, qhq, q4m]
   rw [List.set_append_left _ _ (by simp), List.replicate_succ', List.set_append_right _ _ (by simp)]
   simp
  ·exact ((Step.refl h [q] (by simpa using hql)).put (by simp) _).trans st
theorem q05g {w0 : World} {h : Hp} {kk : IntKind} (hkk : 4 ≤ kk.bits) {p : Nat} {st : WS} {S : List Nat} (n s : Nat) (hs : s ≤ 8) (f : Fit w0 h) (w : Wr w0 h p st S) (hsz : st.bs.length + s ≤ 140737488355328) :
  q6o prog w0 (ptr p) (.int kk n) (.int .i64 s) (fun v h' => ∃ S', Wr w0 h' p (st.put (be s n)) S' ∧ Step h h' S S') h := by
 simp only [q6o, qhz, qb5, qt, qdq]
 refine ⟨Nat.le_refl _, by omega, by omega, s + 1, ?_⟩
 have := q03c (w0 := w0) hkk (p := p) (q := h.next) (n0 := n) (s := s) (K := fun y0 y6 => callA prog w0 q3e [y0, y6] fun _ => retA [] fun v h' => ∃ S', Wr w0 h' p (st.put (be s n)) S' ∧ Step h h' S S') f.base hs s 0 (h.new (zerosL [Value.int IntKind.u8 0] s) 1) (by omega) (by simp) (by simp [qom, be]) ?_
 ·simpa using this
 ·intro h1 hb1 st1
  have s1 : Step h h1 S (h.next :: S) := (((Step.refl h S fun b hb => (w.lt b hb).2).new (zerosL [Value.int IntKind.u8 0] s) 1).trans (st1.wide (T := h.next :: S) (T' := h.next :: S) (by simp) (fun b hb => by
   rcases List.mem_cons.1 hb with rfl | hb
   ·exact .inl (by simp)
   ·exact .inr ⟨by simp [hb], by have := (w.lt b hb).2; simp; omega⟩)))
  have w1 : Wr w0 h1 p st S := by
   refine (w.frame (T := []) (T' := [h.next]) ?_ (by simp)).frame st1 ?_
   ·exact (Step.refl h [] (by simp)).new _ _
   ·intro b hb; have := (w.lt b hb).2; simp; omega
  have hsrc := q5b (w0 := w0) (h := h1) (q := h.next) (c := s) (n := s) (s := 1) f.base hb1 (by simp)
  refine qb (q8b (l := be s n) (ay := some ⟨h.next, 0, none⟩) (cy := s) w1 (by simpa using hsrc) (by simpa using hsz)) ?_ |> fun r => by simpa using r
  rintro v h2 ⟨S', w2, s2⟩ f2
  simp only [qd, q58]
  exact ⟨by simp, S', w2, (s1.less (T := S) (fun b hb => by simp [hb])).trans s2⟩
theorem q03a {w0 : World} {h : Hp} {p : Nat} {st : WS} {S : List Nat} (n : Nat) (hn : n < 256) (f : Fit w0 h) (w : Wr w0 h p st S) (hsz : st.bs.length + 1 ≤ 140737488355328) :
  q6w prog w0 (ptr p) (.int .u8 n) (.int .i64 (1 : Nat)) (fun v h' => ∃ S', Wr w0 h' p (st.put (be 1 n)) S' ∧ Step h h' S S') h := by
 simp only [q6w, qhz, qb5, qt, qdv]
 refine ⟨Nat.le_refl _, by omega, by omega, 2, ?_⟩
 have hb : (.int .u8 (n : Int) : Value) = bv (UInt8.ofNat n) := by rw [q4m, Nat.mod_eq_of_lt hn]
 have hbl : f.base = f.base := rfl
 simp [q4u, qdz, show IntKind.i64.wrap (IntKind.i64.wrap (1 - 1)) = 0 by decide, show IntKind.i64.wrap 0 = 0 by decide, show IntKind.i64.wrap 1 = 1 by decide, qom]
 refine ⟨f.base, ?_⟩
 have s1 : Step h ((h.new [Value.int IntKind.u8 0] 1).put h.next [Value.int IntKind.u8 n]) S (h.next :: S) := ((Step.refl h S fun b hb => (w.lt b hb).2).new _ 1).put (by simp) _
 have w1 := (w.frame ((Step.refl h [] (by simp)).new [Value.int IntKind.u8 0] 1) (by simp)).frame (((Step.refl (h.new [Value.int IntKind.u8 0] 1) [h.next] (by simp)).put (p := h.next) (by simp) [Value.int IntKind.u8 n])) (by intro b hb; have := (w.lt b hb).2; simp; omega)
 have hsrc := q5b (w0 := w0) (h := (h.new [Value.int IntKind.u8 0] 1).put h.next [Value.int IntKind.u8 n]) (q := h.next) (c := 1) (n := 1) (s := 1) f.base (cs := bvs (be 1 n)) (by simp [be, hb]) (by simp)
 have := qb (q8b (l := be 1 n) (ay := some ⟨h.next, 0, none⟩) (cy := 1) w1 (by simpa using hsrc) (by simpa using hsz)) (K := fun _ => retA [] (fun v h' => ∃ S', Wr w0 h' p (st.put (be 1 n)) S' ∧ Step h h' S S')) ?_
 ·simpa using this
 ·rintro v h2 ⟨S', w2, s2⟩ f2
  simp only [qd, q58]
  exact ⟨by simp, S', w2, (s1.less (T := S) (fun b hb => by simp [hb])).trans s2⟩
theorem qsh {w0 : World} {h : Hp} {p : Nat} {st : WS} {S : List Nat} (n : Nat) (hn : n < 256) (w : Wr w0 h p st S) (hsz : st.bs.length + 1 ≤ 140737488355328) :
  ACalls prog w0 qag [ptr p, .int .u8 n] h fun v h' => ∃ S', Wr w0 h' p (st.put (be 1 n)) S' ∧ Step h h' S S' := by
 refine ACalls.of_fit (by simp [ptr]) fun f => qy2 (by simp [ptr]) ?_
 refine qb (qx4 (by simp [ptr]) (q03a n hn f w hsz)) fun v h' r _ => ?_
 simpa using r
theorem q8c {w0 : World} {h : Hp} {p : Nat} {st : WS} {S : List Nat} (n : Nat) (w : Wr w0 h p st S) (hsz : st.bs.length + 4 ≤ 140737488355328) :
  ACalls prog w0 q48 [ptr p, .int .u32 n] h fun v h' => ∃ S', Wr w0 h' p (st.put (be 4 n)) S' ∧ Step h h' S S' := by
 refine ACalls.of_fit (by simp [ptr]) fun f => qxn (by simp [ptr]) ?_
 refine qb (qwv (by simp [ptr]) (q05g (by decide) n 4 (by omega) f w hsz)) fun v h' r _ => ?_
 simpa using r
def g7 (n : Nat) : UInt8 := UInt8.ofNat (n % 128 + 128)
def vi (n : Nat) : List UInt8 := if h : n < 128 then [UInt8.ofNat n] else g7 n :: vi (n / 128)
theorem or128 (n : Nat) : binA .or (.int .u8 (IntKind.u8.wrap (n : Int))) (.int .u8 128) = some (bv (g7 n)) := by
 have e : IntKind.u8.wrap (n : Int) = ((n % 256 : Nat) : Int) := by rw [IntKind.wrap_u8]; simp
 have h2 : ∀ x, x < 256 → x ||| 128 = x % 128 + 128 := by
  intro x hx
  have h5 := Nat.two_pow_add_eq_or_of_lt (i := 7) (b := x % 128) (by omega) 1
  simp at h5
  by_cases h6 : x < 128
  ·rw [Nat.mod_eq_of_lt h6] at h5 ⊢
   rw [Nat.or_comm, ← h5]; omega
  ·have e : x = 128 ||| x % 128 := by rw [← h5]; omega
   rw [e, Nat.or_comm, ← Nat.or_assoc, Nat.or_self, ← h5]; omega
 have h3 := h2 (n % 256) (Nat.mod_lt _ (by omega))
 have := qi4 .u8 (n % 256) 128
 rw [e, show (128 : Int) = ((128 : Nat) : Int) from rfl, this, g7, q4m, q0u rfl (Nat.mod_lt _ (by decide)), h3]
 have h4 : (n % 256 % 128 + 128) % 2 ^ IntKind.u8.bits = (n % 128 + 128) % 256 := by simp [IntKind.bits]
 rw [h4]
theorem q09y : ∀ k n, n < 128 ^ (k + 1) → (vi n).length ≤ k + 1 := by
 intro k
 induction k with
 | zero => intro n h; unfold vi; rw [dif_pos (by simpa using h)]; simp
 | succ k ih =>
  intro n h
  unfold vi
  split
  ·simp
  ·have := ih (n / 128) (by rw [Nat.pow_succ] at h; omega)
   simp; omega
theorem q06 {n : Nat} (h : n < 18446744073709551616) : (vi n).length ≤ 10 := q09y 9 n (by omega)
theorem q012 {w0 : World} {K : Value → Value → Hp → Prop} (n : Nat) : ∀ (h : Hp) (x : Value) (pre : List UInt8) (S : List Nat), w0.heap.size ≤ h.next → Vec w0 h 1 x pre.length (bvs pre) S → pre.length + (vi n).length ≤ 100 → n < 18446744073709551616 →
  (∀ (h' : Hp) (x' : Value) (m : Nat) (pre' : List UInt8) (S' : List Nat), m < 128 → Vec w0 h' 1 x' pre'.length (bvs pre') S' → pre' ++ [UInt8.ofNat m] = pre ++ vi n → Step h h' S S' → K (.int .u64 m) x' h') →
  q3h prog w0 K (vi n).length (.int .u64 n) x h := by
 induction n using vi.induct with
 | case1 n hn =>
  intro h x pre S hf hv hl hb hk
  have e : vi n = [UInt8.ofNat n] := by unfold vi; rw [dif_pos hn]
  rw [e] at hk ⊢
  simp [q3h, qaj, show ¬ (128 : Int) ≤ n by omega]
  exact hk h x n pre S hn hv rfl (.refl _ _ fun b hb => (hv.lt b hb).2)
 | case2 n hn ih =>
  intro h x pre S hf hv hl hb hk
  have e : vi n = g7 n :: vi (n / 128) := by rw [vi]; rw [dif_neg hn]
  rw [e] at hk hl ⊢
  simp at hl
  simp [q3h, qaj, or128]
  refine ⟨fun _ => ?_, fun h => by omega⟩
  refine q0r (w0 := w0) (m := 1) (s := 1) (by_ := 1) (h := h.new [bv (g7 n)] 1) (ys := bvs [g7 n]) (by simp; omega) (hv.new _ _) (by simp) (q1t hf (by simp)) (by simp) (by omega) (by omega) (by omega) (fun x' h' S' hv' st => ?_)
  have st2 : Step h h' S S' := (((Step.refl h S fun b hb => (hv.lt b hb).2).new _ _).less (T := S) (fun b hb => by simp [hb])).trans st
  simp [IntKind.bits]
  have e2 : (n : Int) / 128 = ((n / 128 : Nat) : Int) := by simp
  rw [e2]
  refine ih h' x' (pre ++ [g7 n]) S' (by have := st2.1; omega) (by simpa using hv') (by simp; omega) (by omega) (fun h2 x2 m pre' S2 hm hv2 hp st3 => hk h2 x2 m pre' S2 hm hv2 (by simpa using hp) (st2.trans st3))
theorem qpc {w0 : World} {h : Hp} (n : Nat) (hn : n < 18446744073709551616) :
  ACalls prog w0 qak [.int .u64 n] h fun v h' => ∃ S', Vec w0 h' 1 v (vi n).length (bvs (vi n)) S' ∧ Step h h' [] S' := by
 refine ACalls.of_fit (by simp) fun f => qz7 (by simp) ?_
 have h10 := q06 hn
 refine ⟨(vi n).length, q012 n h _ [] [] f.base .nil (by simp; omega) hn (fun h' x' m pre' S' hm hv he st => ?_)⟩
 have e : IntKind.u8.wrap (m : Int) = ((m % 256 : Nat) : Int) := by rw [IntKind.wrap_u8]; simp
 simp [e]
 have hb : (.int .u8 ((m : Int) % 256) : Value) = bv (UInt8.ofNat m) := by rw [q4m]; simp
 rw [hb]
 have hlen : pre'.length + 1 = (vi n).length := by rw [← List.nil_append (vi n), ← he]; simp
 have hfb := f.base
 have := st.1
 refine q0r (w0 := w0) (m := 1) (s := 1) (by_ := 1) (h := h'.new [bv (UInt8.ofNat m)] 1) (ys := bvs [UInt8.ofNat m]) (by simp; omega) (hv.new _ _) (by simp) (q1t (by omega) (by simp)) (by simp) (by omega) (by omega) (by omega) (fun x2 h2 S2 hv2 st2 => ?_)
 obtain ⟨a, c, rfl⟩ := hv2.slice
 simp
 refine ⟨S2, ?_, ((st.new _ _).less (T := S') (fun b hb => by simp [hb])).trans st2⟩
 rw [← hlen]
 have he2 : bvs pre' ++ bvs [UInt8.ofNat m] = bvs (vi n) := by rw [← q28, he]; simp
 rw [← he2]
 exact hv2
theorem qgd {w0 : World} {h : Hp} {p : Nat} {st : WS} {S : List Nat} (n : Nat) (hn : n < 18446744073709551616) (w : Wr w0 h p st S) (hsz : st.bs.length + 10 ≤ 140737488355328) :
  ACalls prog w0 q21 [ptr p, .int .u64 n] h fun v h' => ∃ S', Wr w0 h' p (st.put (vi n)) S' ∧ Step h h' S S' := by
 refine ACalls.of_fit (by simp [ptr]) fun f => qwr (by simp [ptr]) ?_
 have h10 := q06 hn
 refine qb (qpc n hn) fun v h1 ⟨S1, hv, s1⟩ f1 => ?_
 obtain ⟨a, c, hx⟩ := hv.slice
 subst hx
 refine qb (q8b (l := vi n) (w.frame s1 (by simp)) hv.src (by omega)) fun v h2 ⟨S2, w2, s2⟩ f2 => ?_
 simp only [qd, q58]
 refine ⟨by simp, S2, w2, ?_⟩
 exact (s1.wide (T := S) (T' := S) (by simp) (fun b hb => .inr ⟨hb, (w.lt b hb).2⟩)).trans s2
theorem q04n {w0 : World} {h : Hp} {p : Nat} {st : WS} {S : List Nat} (l : List UInt8) (hl : l.length ≤ 70368744177664) (w : Wr w0 h p st S) (hsz : st.bs.length + 10 + l.length ≤ 140737488355328) :
  ACalls prog w0 qea [ptr p, .string (str l)] h fun v h' => ∃ S', Wr w0 h' p (st.put (vi l.length ++ l)) S' ∧ Step h h' S S' := by
 refine ACalls.of_fit (by simp [ptr]) fun f => qxd (by simp [ptr]) ?_
 have h10 := q06 (n := l.length) (by omega)
 simp only [qei, q4d, qt, q1o, q0q]
 rw [IntWalk.u64_in _ (by omega)]
 refine qb (qpc l.length (by omega)) fun v h1 ⟨S1, hv, s1⟩ f1 => ?_
 refine q0r (m := l.length) (ys := bvs l) f1.base hv (by simp) ?_ (by simp) (by omega) (by omega) (by omega) (fun x' h2 S2 hv2 s2 => ?_)
 ·have := qqb (h := h1) w0.heap.size (str l)
  simpa using this
 ·have hv3 : Vec w0 h2 1 x' (vi l.length ++ l).length (bvs (vi l.length ++ l)) S2 := by simpa using hv2
  obtain ⟨a, c, rfl⟩ := hv3.slice
  have s12 := s1.trans s2
  refine qb (q8b (l := vi l.length ++ l) (ay := a) (cy := c) (w.frame s12 (by simp)) hv3.src (by simp; omega)) fun v h3 ⟨S3, w3, s3⟩ f3 => ?_
  simp only [qd, q58]
  exact ⟨by simp, S3, w3, (s12.wide (T := S) (T' := S) (by simp) (fun b hb => .inr ⟨hb, (w.lt b hb).2⟩)).trans s3⟩
theorem qh1 {w0 : World} {h : Hp} {p : Nat} {st : WS} {S : List Nat} (l : List UInt8) (hl : l.length ≤ 70368744177664) (w : Wr w0 h p st S) (hsz : st.bs.length + l.length ≤ 140737488355328) :
  ACalls prog w0 q73 [ptr p, .string (str l)] h fun v h' => ∃ S', Wr w0 h' p (st.put l) S' ∧ Step h h' S S' := by
 refine ACalls.of_fit (by simp [ptr]) fun f => qxp (by simp [ptr]) ?_
 simp only [qes, qs3, q0q, qrh, qim]
 refine ⟨by omega, ?_⟩
 have s1 := (Step.refl h [] (by simp)).new (bvs l) 1
 refine qb (q8b (l := l) (ay := some ⟨h.next, 0, none⟩) (cy := ucap) (w.frame s1 (by simp)) (q1t f.base (by simp)) hsz) fun v h3 ⟨S3, w3, s3⟩ f3 => ?_
 simp only [qd, q58]
 exact ⟨by simp, S3, w3, (s1.wide (T := S) (T' := S) (by simp) (fun b hb => .inr ⟨hb, (w.lt b hb).2⟩)).trans s3⟩
def WS.len (s : WS) : Nat := if s.over then 0 else s.bs.length
def WS.out (s : WS) : List UInt8 := if s.over then [] else s.bs
def WS.err (s : WS) : Int := if s.over then 3 else 0
theorem q56 {w0 : World} {h : Hp} {p : Nat} {st : WS} {S : List Nat} (w : Wr w0 h p st S) :
  ACalls prog w0 q39 [ptr p] h fun v h' => v = .tuple #[.string (str st.out), .int .i64 st.err] ∧ h' = h := by
 refine ACalls.of_fit (by simp [ptr]) fun f => qxe (by simp [ptr]) ?_
 obtain ⟨x, T, hb0, hp, hp2, hv, hpT, rfl, hm⟩ := w
 obtain ⟨ax, cx, hx⟩ := hv.slice
 simp [qee, ptr, hb0, Nat.not_lt.2 hp, WS.out, WS.err]
 refine ⟨fun ho => by simp [ho, q5i], fun ho => hv.b2s ?_⟩
 simp [ho]
structure RS where
 s : List UInt8
 err : Int
def Rd (w0 : World) (h : Hp) (r : Nat) (st : RS) : Prop := h.blk r = some [.string (str st.s), .int .i64 st.err] ∧ w0.heap.size ≤ r ∧ r < h.next ∧ st.s.length ≤ 140737488355328 ∧ 0 ≤ st.err ∧ st.err < 1000
theorem Rd.frame {w0 : World} {h h' : Hp} {r : Nat} {st : RS} {T T' : List Nat} (w : Rd w0 h r st) (s : Step h h' T T') (hd : r ∉ T) : Rd w0 h' r st :=
 ⟨by rw [(s.2 r w.2.2.1 hd).1]; exact w.1, w.2.1, by have := s.1; have := w.2.2.1; omega, w.2.2.2⟩
theorem Rd.put {w0 : World} {h : Hp} {r : Nat} {st : RS} (w : Rd w0 h r st) (st' : RS) (hl : st'.s.length ≤ 140737488355328) (he : 0 ≤ st'.err ∧ st'.err < 1000) : Rd w0 (h.put r [.string (str st'.s), .int .i64 st'.err]) r st' ∧ Step h (h.put r [.string (str st'.s), .int .i64 st'.err]) [r] [r] :=
 ⟨⟨by simp, w.2.1, by simpa using w.2.2.1, hl, he⟩, (Step.refl h [r] (by simpa using w.2.2.1)).put (by simp) _⟩
theorem Rd.refl {w0 : World} {h : Hp} {r : Nat} {st : RS} (w : Rd w0 h r st) : Step h h [r] [r] := Step.refl h [r] (by simpa using w.2.2.1)
def RS.fault (st : RS) (e : Int) : RS := if st.err = 0 then { st with err := e } else st
def RS.raw (st : RS) (n : Int) : List UInt8 × RS :=
 if st.err ≠ 0 then ([], st) else if n < 0 then ([], { st with err := 1 }) else if (st.s.length : Int) < n then ([], { st with err := 20 }) else (st.s.take n.toNat, { st with s := st.s.drop n.toNat })
def rdn (l : List UInt8) : Nat := l.foldl (fun n b => n * 256 + b.toNat) 0
def shp : List UInt8 → Nat → Nat → Nat × Nat × Int
 | [], _, _ => (0, 0, 20)
 | c :: l, i, acc =>
  if i = 9 ∧ c ≠ 1 then (0, 0, 21)
  else if c.toNat < 128 then (if c = 0 ∧ 0 < i then (0, 0, 21) else (acc + c.toNat % 128 * 128 ^ i, i + 1, 0))
  else shp l (i + 1) (acc + c.toNat % 128 * 128 ^ i)
def RS.varint (st : RS) : Nat × RS :=
 if st.err ≠ 0 then (0, st) else if (shp st.s 0 0).2.2 ≠ 0 then (0, { st with err := (shp st.s 0 0).2.2 }) else ((shp st.s 0 0).1, { st with s := st.s.drop (shp st.s 0 0).2.1 })
def RS.text (st : RS) : List UInt8 × RS :=
 if st.varint.2.err ≠ 0 then ([], st.varint.2) else if st.varint.2.s.length < st.varint.1 then ([], { st.varint.2 with err := 20 }) else st.varint.2.raw st.varint.1
theorem q7b {w0 : World} {h : Hp} (l : List UInt8) (hl : l.length ≤ 140737488355328) :
  ACalls prog w0 q49 [.string (str l)] h fun v h' => v = ptr h.next ∧ Rd w0 h' h.next ⟨l, 0⟩ ∧ Step h h' [] [h.next] := by
 refine ACalls.of_fit (by simp) fun f => qy7 (by simp) ?_
 simp [qez]
 exact ⟨rfl, ⟨by simp, f.base, by simp, hl, by simp, by simp⟩, (Step.refl h [] (by simp)).new _ _⟩
theorem qbe {w0 : World} {h : Hp} {r : Nat} {st : RS} (w : Rd w0 h r st) (e : Int) (he : 0 ≤ e ∧ e < 1000) :
  ACalls prog w0 q4v [ptr r, .int .i64 e] h fun v h' => v = .string .empty ∧ Rd w0 h' r (st.fault e) ∧ Step h h' [r] [r] := by
 refine ACalls.of_fit (by simp [ptr]) fun f => qx2 (by simp [ptr]) ?_
 simp [qe1, ptr, w.1, Nat.not_lt.2 w.2.1, w.2.1]
 refine ⟨fun h0 => ?_, fun h0 => ?_⟩
 ·have := w.put { st with err := e } w.2.2.2.1 he
  simpa [RS.fault, h0] using this
 ·simpa [RS.fault, h0] using ⟨w, w.refl⟩
theorem q5d {w0 : World} {h : Hp} {r : Nat} {st : RS} (w : Rd w0 h r st) (n : Int) (hn : -9223372036854775808 ≤ n ∧ n ≤ 9223372036854775807) :
  ACalls prog w0 q18 [ptr r, .int .i64 n] h fun v h' => v = .string (str (st.raw n).1) ∧ Rd w0 h' r (st.raw n).2 ∧ Step h h' [r] [r] := by
 refine ACalls.of_fit (by simp [ptr]) fun f => qxo (by simp [ptr]) ?_
 simp [qew, ptr, w.1, Nat.not_lt.2 w.2.1, w.2.1]
 refine ⟨fun h0 => ?_, fun h0 => ⟨fun h1 => ?_, fun h1 => ⟨fun h2 => ?_, fun h2 => ?_⟩⟩⟩
 ·simpa [RS.raw, h0, q5i] using ⟨w, w.refl⟩
 ·refine qb (qbe w 1 (by omega)) fun v h' ⟨e, w', s⟩ _ => ?_
  subst e
  simpa [RS.raw, h0, h1, q5i, RS.fault] using ⟨by simpa [RS.fault, h0] using w', s⟩
 ·refine qb (qbe w 20 (by omega)) fun v h' ⟨e, w', s⟩ _ => ?_
  subst e
  simpa [RS.raw, h0, Int.not_lt.2 h1, h2, q5i, RS.fault] using ⟨by simpa [RS.fault, h0] using w', s⟩
 ·obtain ⟨k, rfl⟩ := Int.eq_ofNat_of_zero_le h1
  have hk : k ≤ st.s.length := by omega
  simp [qgk _ _ _ hk, q7s _ _ _ hk, RS.raw, h0, h2, w.1, Nat.not_lt.2 w.2.1, w.2.1]
  have hnl : ¬ st.s.length < k := by omega
  have hng : ¬ (k : Int) < 0 := by omega
  simp [hnl, hng]
  have := w.put ⟨st.s.drop k, 0⟩ (by have := w.2.2.2.1; simp; omega) (by simp)
  simpa using this
theorem qtm : ∀ (l : List UInt8) (n i : Nat), n < 256 ^ i → l.foldl (fun n b => n * 256 + b.toNat) n < 256 ^ (i + l.length) := by
 intro l
 induction l with
 | nil => intro n i h; simpa using h
 | cons b l ih =>
  intro n i h
  have := ih (n * 256 + b.toNat) (i + 1) (by have := UInt8.toNat_lt b; rw [Nat.pow_succ]; omega)
  simp only [List.foldl_cons, List.length_cons]
  rw [show i + (l.length + 1) = i + 1 + l.length by omega]
  exact this
theorem q05w {w0 : World} {K : Value → Hp → Prop} {h : Hp} {q : Nat} {l : List UInt8} (hq : w0.heap.size ≤ q) (hb : h.blk q = some (bvs l)) (hl : l.length ≤ 8) : ∀ (post pre : List UInt8) (n : Nat) (c : Nat), pre ++ post = l → n < 256 ^ pre.length →
  K (.int .u64 (post.foldl (fun n b => n * 256 + b.toNat) n : Nat)) h →
  q34 prog w0 K (post.length + 1) (.int .u64 (n : Int)) (.slice (some ⟨q, 0, none⟩) l.length c) (.int .i64 (l.length : Int)) (.int .i64 (pre.length : Int)) h := by
 intro post
 induction post with
 | nil =>
  intro pre n c he hn hk
  have : pre = l := by simpa using he
  subst this
  simpa [q34, qa1] using hk
 | cons b post ih =>
  intro pre n c he hn hk
  have hlen : pre.length + (post.length + 1) = l.length := by rw [← he]; simp
  have hg : l[pre.length]? = some b := by rw [← he]; simp
  have hn8 : n < 256 ^ 7 := Nat.lt_of_lt_of_le hn (Nat.pow_le_pow_right (by omega) (by omega))
  have hbl := UInt8.toNat_lt b
  have e1 : IntKind.u64.wrap ((n : Int) * 256) = ((n * 256 : Nat) : Int) := by rw [IntWalk.u64_in _ (by omega)]; simp
  have e2 : IntKind.u64.wrap (b.toNat : Int) = (b.toNat : Int) := by rw [IntWalk.u64_in _ (by omega)]
  have e3 : binA .or (.int .u64 ((n * 256 : Nat) : Int)) (.int .u64 (b.toNat : Int)) = some (.int .u64 ((n * 256 + b.toNat : Nat) : Int)) := by
   have h5 := Nat.two_pow_add_eq_or_of_lt (i := 8) (b := b.toNat) (by omega) n
   have h6 : n * 256 ||| b.toNat = n * 256 + b.toNat := by rw [Nat.mul_comm n 256]; simpa using h5.symm
   rw [qi4, h6, Nat.mod_eq_of_lt (by simp [IntKind.bits]; omega), q0u rfl (by simp [IntKind.bits]; omega)]
  have e4 : IntKind.i64.wrap ((pre.length : Int) + 1) = ((pre.length + 1 : Nat) : Int) := by rw [IntWalk.i64_in _ (by omega)]; simp
  rw [List.length_cons, q34]
  have hbg : (h.blk q).bind (·[pre.length]?) = some (.int .u8 (b.toNat : Int)) := by simp only [hb, Option.bind_some, q093, hg]; rfl
  simp [qa1, hbg, Nat.not_lt.2 hq, show pre.length < l.length by omega, show ¬ l.length ≤ pre.length by omega, show min 8 IntKind.u64.bits = 8 from rfl]
  rw [e1, e2, e3, e4]
  simp
  have := ih (pre ++ [b]) (n * 256 + b.toNat) c (by simpa using he) (by rw [List.length_append, List.length_singleton, Nat.pow_succ]; omega) (by simpa using hk)
  simpa using this
theorem qqe {w0 : World} {h : Hp} {r : Nat} {st : RS} (w : Rd w0 h r st) (k : Nat) (hk : k ≤ 8) :
  ACalls prog w0 qa6 [ptr r, .int .i64 k] h fun v h' => v = .int .u64 (rdn (st.raw k).1 : Nat) ∧ Rd w0 h' r (st.raw k).2 ∧ Step h h' [r] [r] := by
 refine ACalls.of_fit (by simp [ptr]) fun f => qx7 (by simp [ptr]) ?_
 have hlen : (st.raw k).1.length ≤ 8 := by
  unfold RS.raw
  repeat' split
  all_goals simp
  omega
 refine qb (q5d w k (by omega)) fun v h1 ⟨e, w1, s1⟩ f1 => ?_
 subst e
 simp only [qs3, q0q, qrh, qim, qb5, qt]
 refine ⟨by omega, (st.raw k).1.length + 1, ?_⟩
 have := q05w (w0 := w0) (K := fun y5 => retA [y5] fun v h' => v = .int .u64 (rdn (st.raw k).1 : Nat) ∧ Rd w0 h' r (st.raw k).2 ∧ Step h h' [r] [r]) (h := h1.new (bvs (st.raw k).1) 1) (q := h1.next) (l := (st.raw k).1) f1.base (by simp) hlen (st.raw k).1 [] 0 ucap (by simp) (by simp) ?_
 ·simpa using this
 ·simp only [qd, qh]
  refine ⟨by simp, rfl, w1.frame ((Step.refl h1 [] (by simp)).new _ _) (by simp), ?_⟩
  exact (s1.new _ _).less (by simp)
theorem q09a (st : RS) (k : Nat) : (st.raw k).1.length ≤ k := by
 unfold RS.raw
 repeat' split
 all_goals simp
 omega
theorem q4p (st : RS) (k : Nat) : rdn (st.raw k).1 < 256 ^ k := by
 have := qtm (st.raw k).1 0 0 (by simp)
 exact Nat.lt_of_lt_of_le this (Nat.pow_le_pow_right (by omega) (by have := q09a st k; omega))
theorem q5h {w0 : World} {h : Hp} {r : Nat} {st : RS} (w : Rd w0 h r st) :
  ACalls prog w0 q3g [ptr r] h fun v h' => v = .int .u8 (rdn (st.raw 1).1 : Nat) ∧ Rd w0 h' r (st.raw 1).2 ∧ Step h h' [r] [r] := by
 refine ACalls.of_fit (by simp [ptr]) fun f => qy3 (by simp [ptr]) ?_
 refine qb (qqe w 1 (by omega)) fun v h1 ⟨e, w1, s1⟩ f1 => ?_
 subst e
 have := q4p st 1
 have e : IntKind.u8.wrap ((rdn (st.raw (1 : Nat)).1 : Nat) : Int) = ((rdn (st.raw (1 : Nat)).1 : Nat) : Int) := IntWalk.u8_in _ (by omega)
 simp only [q1o, qt, e, qd, qh]
 exact ⟨by simp, rfl, w1, s1⟩
theorem q5c {w0 : World} {h : Hp} {r : Nat} {st : RS} (w : Rd w0 h r st) :
  ACalls prog w0 q3f [ptr r] h fun v h' => v = .int .u32 (rdn (st.raw 4).1 : Nat) ∧ Rd w0 h' r (st.raw 4).2 ∧ Step h h' [r] [r] := by
 refine ACalls.of_fit (by simp [ptr]) fun f => qxk (by simp [ptr]) ?_
 refine qb (qqe w 4 (by omega)) fun v h1 ⟨e, w1, s1⟩ f1 => ?_
 subst e
 have := q4p st 4
 have e : IntKind.u32.wrap ((rdn (st.raw (4 : Nat)).1 : Nat) : Int) = ((rdn (st.raw (4 : Nat)).1 : Nat) : Int) := IntWalk.u32_in _ (by omega)
 simp only [q1o, qt, e, qd, qh]
 exact ⟨by simp, rfl, w1, s1⟩
theorem q80 {w0 : World} {h : Hp} {r : Nat} {st : RS} (w : Rd w0 h r st) : ACalls prog w0 q0j [ptr r] h fun v h' => v = .int .i64 st.err ∧ h' = h := by
 refine ACalls.of_fit (by simp [ptr]) fun f => qxj (by simp [ptr]) ?_
 simp [qen, ptr, w.1, Nat.not_lt.2 w.2.1, w.2.1]
def RS.left (st : RS) : Nat := if st.err ≠ 0 then 0 else st.s.length
theorem q02n {w0 : World} {h : Hp} {r : Nat} {st : RS} (w : Rd w0 h r st) : ACalls prog w0 qed [ptr r] h fun v h' => v = .int .i64 st.left ∧ h' = h := by
 refine ACalls.of_fit (by simp [ptr]) fun f => qxa (by simp [ptr]) ?_
 simp [qeb, ptr, w.1, Nat.not_lt.2 w.2.1, w.2.1, RS.left]
 exact ⟨fun h0 => by simp [h0], fun h0 => by simp [h0]⟩
def RS.done (st : RS) : Int := if st.err ≠ 0 then st.err else if 0 < st.s.length then 22 else 0
theorem q039 {w0 : World} {h : Hp} {r : Nat} {st : RS} (w : Rd w0 h r st) : ACalls prog w0 qeh [ptr r] h fun v h' => v = .int .i64 st.done ∧ h' = h := by
 refine ACalls.of_fit (by simp [ptr]) fun f => qx9 (by simp [ptr]) ?_
 refine qb (q80 w) fun v h1 ⟨e, e2⟩ f1 => ?_
 subst e e2
 simp [ptr, w.1, Nat.not_lt.2 w.2.1, w.2.1, RS.done]
 refine ⟨fun h0 => by simp [h0], fun h0 => ⟨fun h1 => by simp [h0]; intro h2; simp [h2] at h1, fun h1 => by simp [h0]; exact h1⟩⟩
/-! ### Varints -/
theorem qbw (c : UInt8) (l : List UInt8) (i acc : Nat) : shp (c :: l) i acc = if i = 9 ∧ c ≠ 1 then (0, 0, 21) else if c.toNat < 128 then (if c = 0 ∧ 0 < i then (0, 0, 21) else (acc + c.toNat % 128 * 128 ^ i, i + 1, 0)) else shp l (i + 1) (acc + c.toNat % 128 * 128 ^ i) := rfl
theorem and127 (b : UInt8) : binA .and (.int .u8 (b.toNat : Int)) (.int .u8 127) = some (.int .u8 ((b.toNat % 128 : Nat) : Int)) := by
 have h := UInt8.toNat_lt b
 have h5 : b.toNat &&& 127 = b.toNat % 128 := Nat.and_two_pow_sub_one_eq_mod b.toNat 7
 have := qhh .u8 b.toNat 127
 rw [show (127 : Int) = ((127 : Nat) : Int) from rfl, this, h5, Nat.mod_eq_of_lt (by simp [IntKind.bits]; omega), q0u rfl (by simp [IntKind.bits]; omega)]
theorem q02s {w0 : World} {k0 kr : Value → Value → Value → Hp → Prop} {h : Hp} {l : List UInt8} (hl : l.length ≤ 140737488355328) : ∀ (post pre : List UInt8) (n : Nat), pre ++ post = l → pre.length ≤ 9 → n < 128 ^ pre.length →
  (∀ a b c, shp post pre.length n = (0, 0, 20) → k0 a b c h) → (shp post pre.length n ≠ (0, 0, 20) → kr (.int .u64 ((shp post pre.length n).1 : Nat)) (.int .i64 ((shp post pre.length n).2.1 : Nat)) (.int .i64 (shp post pre.length n).2.2) h) →
  q1i prog w0 k0 kr (post.length + 1) (.string (str l)) (.int .u64 (n : Int)) (.int .i64 0) (.int .i64 0) (.int .i64 (l.length : Int)) (.int .i64 (pre.length : Int)) h := by
 intro post
 induction post with
 | nil =>
  intro pre n he hp hn h0 hr
  have : pre = l := by simpa using he
  subst this
  simpa [q1i, q4b] using h0 _ _ _ rfl
 | cons b post ih =>
  intro pre n he hp hn h0 hr
  have hlen : pre.length + (post.length + 1) = l.length := by rw [← he]; simp
  have hg : l[pre.length]? = some b := by rw [← he]; simp
  have hb := UInt8.toNat_lt b
  rw [List.length_cons, q1i]
  rw [qbw] at h0 hr
  have e1 : IntKind.i64.wrap (7 * (pre.length : Int)) = ((7 * pre.length : Nat) : Int) := by rw [IntWalk.i64_in _ (by omega)]; simp
  have hmin : min (7 * pre.length) IntKind.u64.bits = 7 * pre.length := Nat.min_eq_left (by simp [IntKind.bits]; omega)
  have hs : strIdxA (.string (str l)) (.int .i64 (pre.length : Int)) = some (.int .u8 (b.toNat : Int)) := by rw [qgg, hg]; rfl
  have e2 : IntKind.u64.wrap ((b.toNat % 128 : Nat) : Int) = ((b.toNat % 128 : Nat) : Int) := IntWalk.u64_in _ (by omega)
  have e5 : IntKind.i64.wrap ((pre.length : Int) + 1) = ((pre.length + 1 : Nat) : Int) := by rw [IntWalk.i64_in _ (by omega)]; simp
  have hp7 : 128 ^ pre.length = 2 ^ (7 * pre.length) := by rw [Nat.pow_mul]
  have hm : b.toNat % 128 * 128 ^ pre.length ≤ 127 * 128 ^ pre.length := Nat.mul_le_mul_right _ (by omega)
  have e3 : b.toNat % 128 * 128 ^ pre.length < 18446744073709551616 → binA .shl (.int .u64 ((b.toNat % 128 : Nat) : Int)) (.int .i64 ((7 * pre.length : Nat) : Int)) = some (.int .u64 ((b.toNat % 128 * 128 ^ pre.length : Nat) : Int)) := by
   intro hlt
   have e : ((b.toNat % 128 : Nat) : Int) * 2 ^ (7 * pre.length) = ((b.toNat % 128 * 128 ^ pre.length : Nat) : Int) := by rw [hp7]; simp
   rw [q06d _ _ _ _ (by omega), Int.toNat_natCast, hmin, e, IntWalk.u64_in _ (by omega)]
  have e4 : n + b.toNat % 128 * 128 ^ pre.length < 18446744073709551616 → binA .or (.int .u64 (n : Int)) (.int .u64 ((b.toNat % 128 * 128 ^ pre.length : Nat) : Int)) = some (.int .u64 ((n + b.toNat % 128 * 128 ^ pre.length : Nat) : Int)) := by
   intro hlt
   have h5 := Nat.two_pow_add_eq_or_of_lt (i := 7 * pre.length) (b := n) (by rw [← hp7]; exact hn) (b.toNat % 128)
   have h6 : n ||| b.toNat % 128 * 128 ^ pre.length = n + b.toNat % 128 * 128 ^ pre.length := by rw [hp7, Nat.or_comm, Nat.mul_comm (b.toNat % 128), ← h5, Nat.add_comm]
   rw [qi4, h6, Nat.mod_eq_of_lt (by simp only [IntKind.bits]; omega), q0u rfl (by simp only [IntKind.bits]; omega)]
  have hz : (b = 0) ↔ b.toNat = 0 := ⟨fun e => by rw [e]; rfl, fun e => UInt8.toNat_inj.1 (by simpa using e)⟩
  have h1z : (b = 1) ↔ b.toNat = 1 := ⟨fun e => by rw [e]; rfl, fun e => UInt8.toNat_inj.1 (by simpa using e)⟩
  have c1 : decide ((pre.length : Int) < (l.length : Int)) = true := decide_eq_true (by omega)
  by_cases hA : pre.length = 9 ∧ b ≠ 1
  ·rw [if_pos hA] at hr
   have c9 : ((pre.length : Int) == 9) = true := by simp; omega
   have cb : ((b.toNat : Int) != 1) = true := by
    have h1 : ¬ b.toNat = 1 := fun e => hA.2 (h1z.2 e)
    simp only [bne_iff_ne, ne_eq]; omega
   simp only [q4b, q1r, qbz, q1s, qc1, q2c, q2b, qt, q0f, q0l, q7y, q7z, q4f, q3v, q1o, hs, c1, c9, cb]
   simpa using hr
  rw [if_neg hA] at h0 hr
  have hlt : n + b.toNat % 128 * 128 ^ pre.length < 18446744073709551616 := by
   by_cases h9 : pre.length = 9
   ·have hb1 : b.toNat = 1 := h1z.1 (Decidable.not_not.1 fun e => hA ⟨h9, e⟩)
    rw [h9] at hn
    rw [h9, hb1]
    omega
   ·have hpow : 128 ^ pre.length ≤ 128 ^ 8 := Nat.pow_le_pow_right (by omega) (by omega)
    omega
  have hgo : (bif ((pre.length : Int) == 9) then ((b.toNat : Int) != 1) else false) = false := by
   cases c9 : ((pre.length : Int) == 9) with
   | false => rfl
   | true =>
    have h9 : pre.length = 9 := by simp at c9; omega
    have hb1 : b.toNat = 1 := h1z.1 (Decidable.not_not.1 fun e => hA ⟨h9, e⟩)
    simp [hb1]
  have key : q4b prog w0 (q1i prog w0 k0 kr (post.length + 1)) k0 kr (.string (str l)) (.int .u64 (n : Int)) (.int .i64 0) (.int .i64 0) (.int .i64 (l.length : Int)) (.int .i64 (pre.length : Int)) h ↔
    (condA (.bool (decide ((b.toNat : Int) < 128))) (
     guardA (.bool ((b.toNat : Int) == 0)) true (pureA (binA .gtr (.int .i64 (pre.length : Int)) (.int .i64 0))) fun v35_16 =>
     pickA (.bool ((b.toNat : Int) == 0)) v35_16 (.bool false) fun v36_17 =>
     condA v36_17 (kr (.int .u64 0) (.int .i64 0) (.int .i64 21)) (
     kr (.int .u64 ((n + b.toNat % 128 * 128 ^ pre.length : Nat) : Int)) (.int .i64 ((pre.length + 1 : Nat) : Int)) (.int .i64 0))) (
     q1i prog w0 k0 kr (post.length + 1) (.string (str l)) (.int .u64 ((n + b.toNat % 128 * 128 ^ pre.length : Nat) : Int)) (.int .i64 0) (.int .i64 0) (.int .i64 (l.length : Int)) (.int .i64 ((pre.length + 1 : Nat) : Int)))) h := by
   have hf := e3 (by omega)
   have hg4 := e4 hlt
   cases c9 : ((pre.length : Int) == 9) with
   | false =>
    cases c128 : decide ((b.toNat : Int) < 128) <;> cases c0 : ((b.toNat : Int) == 0) <;> cases cp : decide ((0 : Int) < (pre.length : Int)) <;>
     simp only [q4b, q1r, qbz, q1s, qc1, q2c, q2b, qt, q0f, q0l, q7y, q7z, q4f, q3v, q1o, hs, c1, c9, c128, c0, cp, and127, e1, e2, hf, hg4, e5]
   | true =>
    rw [c9] at hgo
    have cb : ((b.toNat : Int) != 1) = false := hgo
    cases c128 : decide ((b.toNat : Int) < 128) <;> cases c0 : ((b.toNat : Int) == 0) <;> cases cp : decide ((0 : Int) < (pre.length : Int)) <;>
     simp only [q4b, q1r, qbz, q1s, qc1, q2c, q2b, qt, q0f, q0l, q7y, q7z, q4f, q3v, q1o, hs, c1, c9, cb, c128, c0, cp, and127, e1, e2, hf, hg4, e5]
  rw [key]
  by_cases h128 : b.toNat < 128
  ·rw [if_pos h128] at h0 hr
   have c128 : decide ((b.toNat : Int) < 128) = true := decide_eq_true (by omega)
   simp only [c128, q0f]
   by_cases hb0 : b.toNat = 0
   ·have c0 : ((b.toNat : Int) == 0) = true := by simp only [beq_iff_eq]; omega
    simp only [c0, q7y, q2b, qt, q4f]
    by_cases hp0 : 0 < pre.length
    ·rw [if_pos ⟨hz.2 hb0, hp0⟩] at hr
     have cp : decide ((0 : Int) < (pre.length : Int)) = true := decide_eq_true (by omega)
     simp only [cp, q0f]
     simpa using hr
    ·rw [if_neg (fun e => hp0 e.2)] at hr
     have cp : decide ((0 : Int) < (pre.length : Int)) = false := decide_eq_false (by omega)
     simp only [cp, q0l]
     exact hr (by simp)
   ·have c0 : ((b.toNat : Int) == 0) = false := by simp only [beq_eq_false_iff_ne, ne_eq]; omega
    rw [if_neg (fun e => hb0 (hz.1 e.1))] at hr
    simp only [c0, q7z, q3v, q0l]
    exact hr (by simp)
  ·rw [if_neg h128] at h0 hr
   have c128 : decide ((b.toNat : Int) < 128) = false := decide_eq_false (by omega)
   simp only [c128, q0l]
   have h9 : pre.length ≠ 9 := fun e => by
    have hb1 : b.toNat = 1 := h1z.1 (Decidable.not_not.1 fun e' => hA ⟨e, e'⟩)
    omega
   have := ih (pre ++ [b]) (n + b.toNat % 128 * 128 ^ pre.length) (by simpa using he) (by simp; omega) (by rw [List.length_append, List.length_singleton, Nat.pow_succ]; omega) (by simpa using h0) (by simpa using hr)
   simpa using this
theorem q03i {w0 : World} {h : Hp} (l : List UInt8) (hl : l.length ≤ 140737488355328) :
  ACalls prog w0 qfq [.string (str l)] h fun v h' => v = .tuple #[.int .u64 ((shp l 0 0).1 : Nat), .int .i64 ((shp l 0 0).2.1 : Nat), .int .i64 (shp l 0 0).2.2] ∧ h' = h := by
 refine ACalls.of_fit (by simp) fun f => qzh (by simp) ?_
 simp only [qar, q4d, qt, q0q]
 refine ⟨l.length + 1, ?_⟩
 have := q02s (w0 := w0) (k0 := fun y2 y3 y4 => retA [(.int .u64 0), (.int .i64 0), (.int .i64 20)] fun v h' => v = .tuple #[.int .u64 ((shp l 0 0).1 : Nat), .int .i64 ((shp l 0 0).2.1 : Nat), .int .i64 (shp l 0 0).2.2] ∧ h' = h)
  (kr := fun y2 y3 y4 => retA [y2, y3, y4] fun v h' => v = .tuple #[.int .u64 ((shp l 0 0).1 : Nat), .int .i64 ((shp l 0 0).2.1 : Nat), .int .i64 (shp l 0 0).2.2] ∧ h' = h) (h := h) (l := l) hl l [] 0 (by simp) (by simp) (by simp)
  (fun a b c e => by simp at e; simp [e]) (fun e => by simp)
 simpa using this
theorem qqo : ∀ (l : List UInt8) (i n : Nat), i ≤ 9 → n < 128 ^ i → (shp l i n).1 < 18446744073709551616 ∧ (shp l i n).2.1 ≤ i + l.length ∧ 0 ≤ (shp l i n).2.2 ∧ (shp l i n).2.2 < 1000 := by
 intro l
 induction l with
 | nil => intro i n hi hn; simp [shp]
 | cons c l ih =>
  intro i n hi hn
  have hc := UInt8.toNat_lt c
  have hm : c.toNat % 128 * 128 ^ i ≤ 127 * 128 ^ i := Nat.mul_le_mul_right _ (by omega)
  rw [qbw]
  split
  ·simp
  rename_i hA
  have h1z : (c = 1) ↔ c.toNat = 1 := ⟨fun e => by rw [e]; rfl, fun e => UInt8.toNat_inj.1 (by simpa using e)⟩
  have hlt : n + c.toNat % 128 * 128 ^ i < 18446744073709551616 := by
   by_cases h9 : i = 9
   ·have hb1 : c.toNat = 1 := h1z.1 (Decidable.not_not.1 fun e => hA ⟨h9, e⟩)
    rw [h9] at hn
    rw [h9, hb1]
    omega
   ·have hpow : 128 ^ i ≤ 128 ^ 8 := Nat.pow_le_pow_right (by omega) (by omega)
    omega
  split
  ·split
   ·simp
   ·simp; exact hlt
  ·have h9 : i ≠ 9 := fun e => by
    have hb1 : c.toNat = 1 := h1z.1 (Decidable.not_not.1 fun e' => hA ⟨e, e'⟩)
    omega
   have := ih (i + 1) (n + c.toNat % 128 * 128 ^ i) (by omega) (by rw [Nat.pow_succ]; omega)
   simp
   omega
theorem qaw {w0 : World} {h : Hp} {r : Nat} {st : RS} (w : Rd w0 h r st) :
  ACalls prog w0 q14 [ptr r] h fun v h' => v = .int .u64 (st.varint.1 : Nat) ∧ Rd w0 h' r st.varint.2 ∧ Step h h' [r] [r] := by
 refine ACalls.of_fit (by simp [ptr]) fun f => qwt (by simp [ptr]) ?_
 simp [qdw, ptr, w.1, Nat.not_lt.2 w.2.1, w.2.1]
 have hb := qqo st.s 0 0 (by omega) (by simp)
 refine ⟨fun h0 => ?_, fun h0 => ?_⟩
 ·simpa [RS.varint, h0] using ⟨w, w.refl⟩
 ·refine qb (q03i st.s w.2.2.2.1) fun v h1 ⟨e, e1⟩ f1 => ?_
  subst e e1
  simp [w.1, Nat.not_lt.2 w.2.1, w.2.1]
  refine ⟨fun h2 => ?_, fun h2 => ?_⟩
  ·refine qb (qbe w _ hb.2.2) fun v h' ⟨e, w', s⟩ _ => ?_
   simpa [RS.varint, h0, h2] using ⟨by simpa [RS.fault, h0] using w', s⟩
  ·rw [q7s _ _ _ (by omega)]
   have := w.put ⟨st.s.drop (shp st.s 0 0).2.1, 0⟩ (by have := w.2.2.2.1; simp; omega) (by simp)
   simpa [RS.varint, h0, h2, w.1, w.2.1] using this
theorem q02p {w0 : World} {h : Hp} {r : Nat} {st : RS} (w : Rd w0 h r st) :
  ACalls prog w0 qe6 [ptr r] h fun v h' => v = .string (str st.text.1) ∧ Rd w0 h' r st.text.2 ∧ Step h h' [r] [r] := by
 refine ACalls.of_fit (by simp [ptr]) fun f => qxg (by simp [ptr]) ?_
 refine qb (qaw w) fun v h1 ⟨e, w1, s1⟩ f1 => ?_
 subst e
 have hlen : IntKind.u64.wrap (st.varint.2.s.length : Int) = (st.varint.2.s.length : Int) := IntWalk.u64_in _ (by have := w1.2.2.2.1; omega)
 simp [ptr, w1.1, Nat.not_lt.2 w1.2.1, w1.2.1, hlen]
 refine ⟨fun h0 => ?_, fun h0 => ⟨fun h2 => ?_, fun h2 => ?_⟩⟩
 ·simpa [RS.text, h0, q5i] using ⟨w1, s1⟩
 ·refine qb (qbe w1 20 (by omega)) fun v h' ⟨e, w', s⟩ _ => ?_
  subst e
  simpa [RS.text, h0, h2, q5i] using ⟨by simpa [RS.fault, h0] using w', s1.trans s⟩
 ·have hw : IntKind.i64.wrap (st.varint.1 : Int) = (st.varint.1 : Int) := IntWalk.i64_in _ (by have := w1.2.2.2.1; omega)
  rw [hw]
  refine qb (q5d w1 st.varint.1 (by have := w1.2.2.2.1; omega)) fun v h' ⟨e, w', s⟩ _ => ?_
  subst e
  have hn : ¬ st.varint.2.s.length < st.varint.1 := by omega
  simpa [RS.text, h0, hn] using ⟨w', s1.trans s⟩
def crcB (c : Nat) : Nat := (c / 2) ^^^ (if c % 2 = 1 then 2197175160 else 0)
def crc8 : Nat → Nat → Nat
 | 0, c => c
 | k + 1, c => crc8 k (crcB c)
def crcN (c : Nat) (l : List UInt8) : Nat := l.foldl (fun c b => crc8 8 (c ^^^ b.toNat)) c
def crcOf (l : List UInt8) : Nat := crcN 4294967295 l ^^^ 4294967295
theorem qib {c : Nat} (h : c < 4294967296) : crcB c < 4294967296 := by
 unfold crcB
 exact Nat.xor_lt_two_pow (n := 32) (by omega) (by split <;> omega)
theorem qse : ∀ (k c : Nat), c < 4294967296 → crc8 k c < 4294967296 := by
 intro k
 induction k with
 | zero => intro c h; exact h
 | succ k ih => intro c h; exact ih _ (qib h)
theorem qcf {c : Nat} (b : UInt8) (h : c < 4294967296) : c ^^^ b.toNat < 4294967296 := Nat.xor_lt_two_pow (n := 32) h (by have := UInt8.toNat_lt b; omega)
theorem qsl (l : List UInt8) : ∀ c, c < 4294967296 → crcN c l < 4294967296 := by
 induction l with
 | nil => intro c h; exact h
 | cons b l ih => intro c h; exact ih _ (qse 8 _ (qcf b h))
theorem q83 (l : List UInt8) : crcOf l < 4294967296 := Nat.xor_lt_two_pow (n := 32) (qsl l _ (by omega)) (by omega)
theorem q04r {w0 : World} {k2 : Value → Value → Value → Value → Hp → Prop} {x0 x6 x7 : Value} {h : Hp} : ∀ (k i c : Nat), i + k = 8 → c < 4294967296 → k2 x0 (.int .u32 (crc8 k c : Nat)) x6 x7 h →
  q3r prog w0 k2 (k + 1) x0 (.int .u32 (c : Int)) x6 x7 (.int .i64 (i : Int)) h := by
 intro k
 induction k with
 | zero =>
  intro i c hi hc hk
  have c8 : decide ((i : Int) < 8) = false := decide_eq_false (by omega)
  rw [q3r]
  simp only [qau, q1r, qt, c8, q0l]
  exact hk
 | succ k ih =>
  intro i c hi hc hk
  have c8 : decide ((i : Int) < 8) = true := decide_eq_true (by omega)
  have e1 : binA .shr (.int .u32 (c : Int)) (.int .u64 1) = some (.int .u32 ((c / 2 : Nat) : Int)) := by rw [qhu _ _ _ _ (by omega)]; simp [IntKind.bits]
  have e2 : binA .and (.int .u32 (c : Int)) (.int .u32 1) = some (.int .u32 ((c % 2 : Nat) : Int)) := by
   have := qhh .u32 c 1
   rw [show (1 : Int) = ((1 : Nat) : Int) from rfl, this, Nat.and_one_is_mod, Nat.mod_eq_of_lt (by simp only [IntKind.bits]; omega), q0u rfl (by simp only [IntKind.bits]; omega)]
  have e3 : unA .neg (.int .u32 ((c % 2 : Nat) : Int)) = some (.int .u32 ((if c % 2 = 1 then 4294967295 else 0 : Nat) : Int)) := by
   rw [q07u, IntKind.wrap_u32]
   split
   ·rename_i e; rw [e]; rfl
   ·rename_i e; rw [show c % 2 = 0 by omega]; rfl
  have e4 : binA .and (.int .u32 2197175160) (.int .u32 ((if c % 2 = 1 then 4294967295 else 0 : Nat) : Int)) = some (.int .u32 ((if c % 2 = 1 then 2197175160 else 0 : Nat) : Int)) := by
   have := qhh .u32 2197175160 (if c % 2 = 1 then 4294967295 else 0)
   rw [show (2197175160 : Int) = ((2197175160 : Nat) : Int) from rfl, this]
   split <;> rfl
  have e5 : binA .xor (.int .u32 ((c / 2 : Nat) : Int)) (.int .u32 ((if c % 2 = 1 then 2197175160 else 0 : Nat) : Int)) = some (.int .u32 (crcB c : Nat)) := by
   have hl := qib hc
   rw [qho]
   show some (Value.int IntKind.u32 (IntKind.u32.wrap ((crcB c % 2 ^ IntKind.u32.bits : Nat) : Int))) = _
   rw [Nat.mod_eq_of_lt (by simp only [IntKind.bits]; omega), q0u rfl (by simp only [IntKind.bits]; omega)]
  have e6 : IntKind.i64.wrap ((i : Int) + 1) = ((i + 1 : Nat) : Int) := by rw [IntWalk.i64_in _ (by omega)]; simp
  rw [q3r]
  simp only [qau, q1r, qt, c8, q0f, e1, e2, e3, e4, e5, q2c, e6]
  exact ih (i + 1) (crcB c) (by omega) (qib hc) hk
theorem q04o {w0 : World} {k0 : Value → Hp → Prop} {h : Hp} {l : List UInt8} (hl : l.length ≤ 140737488355328) : ∀ (post pre : List UInt8) (c : Nat), pre ++ post = l → c < 4294967296 → k0 (.int .u32 (crcN c post : Nat)) h →
  q3l prog w0 k0 (post.length + 1) (.string (str l)) (.int .u32 (c : Int)) (.int .i64 (l.length : Int)) (.int .i64 (pre.length : Int)) h := by
 intro post
 induction post with
 | nil =>
  intro pre c he hc hk
  have : pre = l := by simpa using he
  subst this
  have c8 : decide ((pre.length : Int) < (pre.length : Int)) = false := decide_eq_false (by omega)
  simp only [List.length_nil, q3l, q7m, q1r, qt, c8, q0l]
  exact hk
 | cons b post ih =>
  intro pre c he hc hk
  have hlen : pre.length + (post.length + 1) = l.length := by rw [← he]; simp
  have hg : l[pre.length]? = some b := by rw [← he]; simp
  have hb := UInt8.toNat_lt b
  have c1 : decide ((pre.length : Int) < (l.length : Int)) = true := decide_eq_true (by omega)
  have hs : strIdxA (.string (str l)) (.int .i64 (pre.length : Int)) = some (.int .u8 (b.toNat : Int)) := by rw [qgg, hg]; rfl
  have e1 : IntKind.u32.wrap (b.toNat : Int) = (b.toNat : Int) := IntWalk.u32_in _ (by omega)
  have e2 : binA .xor (.int .u32 (c : Int)) (.int .u32 (b.toNat : Int)) = some (.int .u32 ((c ^^^ b.toNat : Nat) : Int)) := by
   have := qcf b hc
   rw [qho, Nat.mod_eq_of_lt (by simp only [IntKind.bits]; omega), q0u rfl (by simp only [IntKind.bits]; omega)]
  have e6 : IntKind.i64.wrap ((pre.length : Int) + 1) = ((pre.length + 1 : Nat) : Int) := by rw [IntWalk.i64_in _ (by omega)]; simp
  rw [List.length_cons, q3l]
  simp only [q7m, q1r, qt, c1, q0f, hs, q1o, e1, e2]
  refine ⟨9, q04r 8 0 _ rfl (qcf b hc) ?_⟩
  simp only [q2c, qt, e6]
  have := ih (pre ++ [b]) (crc8 8 (c ^^^ b.toNat)) (by simpa using he) (qse _ _ (qcf b hc)) hk
  simpa using this
theorem q5f {w0 : World} {h : Hp} (l : List UInt8) (hl : l.length ≤ 140737488355328) :
  ACalls prog w0 q3w [.string (str l)] h fun v h' => v = .int .u32 (crcOf l : Nat) ∧ h' = h := by
 refine ACalls.of_fit (by simp) fun f => q025 (by simp) ?_
 simp only [qb9, q4d, qt, q0q]
 refine ⟨l.length + 1, q04o hl l [] 4294967295 rfl (by omega) ?_⟩
 have e : unA .xor (.int .u32 (crcN 4294967295 l : Nat)) = some (.int .u32 (crcOf l : Nat)) := by
  have h1 := qsl l 4294967295 (by omega)
  have h2 := q83 l
  have := qho .u32 4294967295 (crcN 4294967295 l)
  rw [Nat.xor_comm, show crcN 4294967295 l ^^^ 4294967295 = crcOf l from rfl, Nat.mod_eq_of_lt (by simp only [IntKind.bits]; omega), q0u rfl (by simp only [IntKind.bits]; omega)] at this
  rw [← this]
  rfl
 simp only [e, qt, qd, qh]
 simp
@[simp] theorem q0bu (p : Nat) : ¬ (ptr p = junk) := by simp [ptr]
theorem q01c (a b : ByteArray) : binA .neq (.string a) (.string b) = some (.bool (!decide (a = b))) := by
 simp only [binA, strA]
 congr 2
 by_cases h : a = b
 ·subst h; simp
 ·simp [h, toList_eq]
theorem q2g {s : List UInt8} {k : Nat} (h : k ≤ s.length) : (⟨s, 0⟩ : RS).raw k = (s.take k, ⟨s.drop k, 0⟩) := by
 simp [RS.raw, show ¬ (k : Int) < 0 by omega, show ¬ s.length < k by omega]
theorem qqk {s : List UInt8} {k : Nat} (h : s.length < k) : (⟨s, 0⟩ : RS).raw k = ([], ⟨s, 20⟩) := by
 simp [RS.raw, show ¬ (k : Int) < 0 by omega, h]
theorem q08s {s : List UInt8} {e k : Int} (h : e ≠ 0) : (⟨s, e⟩ : RS).raw k = ([], ⟨s, e⟩) := by
 simp [RS.raw, h]
def unf : List UInt8 → Nat × List UInt8 × Nat × Int
 | b0 :: b1 :: b2 :: b3 :: b4 :: b5 :: b6 :: b7 :: r =>
  if [b0, b1] ≠ [68, 70] ∨ b3 ≠ 0 ∨ 1048576 < rdn [b4, b5, b6, b7] then (0, [], 0, 21)
  else if r.length < rdn [b4, b5, b6, b7] + 4 then (0, [], 0, 20)
  else if crcOf ((b0 :: b1 :: b2 :: b3 :: b4 :: b5 :: b6 :: b7 :: r).take (8 + rdn [b4, b5, b6, b7])) ≠ rdn ((r.drop (rdn [b4, b5, b6, b7])).take 4) then (0, [], 0, 23)
  else (b2.toNat, r.take (rdn [b4, b5, b6, b7]), 12 + rdn [b4, b5, b6, b7], 0)
 | _ => (0, [], 0, 20)
def unfV (u : Nat × List UInt8 × Nat × Int) : Value := .tuple #[.int .u8 (u.1 : Nat), .string (str u.2.1), .int .i64 (u.2.2.1 : Nat), .int .i64 u.2.2.2]
theorem len8 {l : List UInt8} (h : ¬ l.length < 8) : ∃ b0 b1 b2 b3 b4 b5 b6 b7 r, l = b0 :: b1 :: b2 :: b3 :: b4 :: b5 :: b6 :: b7 :: r := by
 match l with
 | b0 :: b1 :: b2 :: b3 :: b4 :: b5 :: b6 :: b7 :: r => exact ⟨b0, b1, b2, b3, b4, b5, b6, b7, r, rfl⟩
 | [] => simp at h
 | [_] => simp at h
 | [_, _] => simp at h
 | [_, _, _] => simp at h
 | [_, _, _, _] => simp at h
 | [_, _, _, _, _] => simp at h
 | [_, _, _, _, _, _] => simp at h
 | [_, _, _, _, _, _, _] => simp at h
theorem q04p {l : List UInt8} (h : l.length < 8) : unf l = (0, [], 0, 20) := by
 match l with
 | b0 :: b1 :: b2 :: b3 :: b4 :: b5 :: b6 :: b7 :: r => simp at h; omega
 | [] => rfl
 | [_] => rfl
 | [_, _] => rfl
 | [_, _, _] => rfl
 | [_, _, _, _] => rfl
 | [_, _, _, _, _] => rfl
 | [_, _, _, _, _, _] => rfl
 | [_, _, _, _, _, _, _] => rfl
theorem q09q (l : List UInt8) : rdn l < 256 ^ l.length := by
 have := qtm l 0 0 (by simp)
 simpa [rdn] using this
theorem qig (b : UInt8) : rdn [b] = b.toNat := by simp [rdn]
theorem q08q (a b : UInt8) : decide (str [a, b] = ⟨#[68, 70]⟩) = decide ([a, b] = [68, 70]) := by
 have : (⟨#[68, 70]⟩ : ByteArray) = str [68, 70] := rfl
 rw [this]
 exact decide_eq_decide.2 q07y
theorem q00u {w0 : World} {h : Hp} (l : List UInt8) (hl : l.length ≤ 140737488355328) :
  ACalls prog w0 qfe [.string (str l)] h fun v h' => v = unfV (unf l) ∧ Step h h' [] [] := by
 refine ACalls.of_fit (by simp) fun f => qz1 (by simp) ?_
 by_cases h8 : l.length < 8
 ·have c1 : decide ((l.length : Int) < 8) = true := decide_eq_true (by omega)
  simp only [qah, q4d, q0q, qt, q1r, c1, q0f, qd, qk, q04p h8]
  exact ⟨by simp, rfl, Step.refl _ _ (by simp)⟩
 have c1 : decide ((l.length : Int) < 8) = false := decide_eq_false (by omega)
 simp only [qah, q4d, q0q, qt, q1r, c1, q0l]
 refine qb (q7b l hl) fun v h1 ⟨e, r1, s1⟩ f1 => ?_
 subst e
 obtain ⟨b0, b1, b2, b3, b4, b5, b6, b7, r, rfl⟩ := len8 h8
 refine qb (q5d r1 (2 : Nat) (by omega)) fun v h2 ⟨e, r2, s2⟩ f2 => ?_
 subst e
 rw [q2g (by simp)] at r2 ⊢
 simp only [List.take_succ_cons, List.take_zero, List.drop_succ_cons, List.drop_zero] at r2 ⊢
 refine qb (q5h r2) fun v h3 ⟨e, r3, s3⟩ f3 => ?_
 subst e
 have k1 : (⟨b2 :: b3 :: b4 :: b5 :: b6 :: b7 :: r, 0⟩ : RS).raw 1 = ([b2], ⟨b3 :: b4 :: b5 :: b6 :: b7 :: r, 0⟩) := q2g (k := 1) (by simp)
 rw [k1] at r3 ⊢
 refine qb (q5h r3) fun v h4 ⟨e, r4, s4⟩ f4 => ?_
 subst e
 have k2 : (⟨b3 :: b4 :: b5 :: b6 :: b7 :: r, 0⟩ : RS).raw 1 = ([b3], ⟨b4 :: b5 :: b6 :: b7 :: r, 0⟩) := q2g (k := 1) (by simp)
 rw [k2] at r4 ⊢
 refine qb (q5c r4) fun v h5 ⟨e, r5, s5⟩ f5 => ?_
 subst e
 have k3 : (⟨b4 :: b5 :: b6 :: b7 :: r, 0⟩ : RS).raw 4 = ([b4, b5, b6, b7], ⟨r, 0⟩) := q2g (k := 4) (by simp)
 rw [k3] at r5 ⊢
 have hn := q09q [b4, b5, b6, b7]
 simp only [List.length_cons, List.length_nil] at hn
 simp only [unf]
 generalize hnn : rdn [b4, b5, b6, b7] = n at hn ⊢
 have s05 : Step h h5 [] [h.next] := ((((s1.trans s2).trans s3).trans s4).trans s5)
 have e1 : IntKind.i64.wrap ((n : Nat) : Int) = (n : Int) := IntWalk.i64_in _ (by omega)
 have hz : (b3 = 0) ↔ b3.toNat = 0 := ⟨fun e => by rw [e]; rfl, fun e => UInt8.toNat_inj.1 (by simpa using e)⟩
 simp only [q1o, qt, e1, q01c, q08q, qig, q1s, q2b]
 by_cases hA : [b0, b1] ≠ [68, 70] ∨ b3 ≠ 0 ∨ 1048576 < n
 ·rw [if_pos hA]
  have hgo : ∀ (X Y : Hp → Prop), X h5 → (guardA (.bool (!decide ([b0, b1] = [68, 70]))) false (fun K => K (.int .u8 (b3.toNat : Int))) fun v28_10 =>
    guardA (.bool (!decide ([b0, b1] = [68, 70]))) false (pureA (binA .neq v28_10 (.int .u8 0))) fun v29_11 =>
    pickA (.bool (!decide ([b0, b1] = [68, 70]))) (.bool true) v29_11 fun v30_12 =>
    guardA v30_12 false (fun K => K (.int .i64 (n : Int))) fun v32_13 =>
    guardA v30_12 false (pureA (binA .gtr v32_13 (.int .i64 1048576))) fun v33_14 =>
    pickA v30_12 (.bool true) v33_14 fun v34_15 => condA v34_15 X Y) h5 := by
   intro X Y hX
   cases c1 : decide ([b0, b1] = [68, 70]) with
   | false => simp only [Bool.not_false, qhd, q4f, q0f]; exact hX
   | true =>
    have hm := of_decide_eq_true c1
    simp only [Bool.not_true, qbu, q3v, q1s, qt]
    cases c2 : ((b3.toNat : Int) != 0) with
    | true => simp only [qhd, q4f, q0f]; exact hX
    | false =>
     have h0 : b3.toNat = 0 := by simp at c2; omega
     have hn2 : 1048576 < n := by
      rcases hA with q | q | q
      ·exact absurd hm q
      ·exact absurd (hz.2 h0) q
      ·exact q
     have c3 : decide ((1048576 : Int) < (n : Int)) = true := decide_eq_true (by omega)
     simp only [qbu, q3v, q2b, qt, c3, q0f]; exact hX
  refine hgo _ _ ?_
  simp only [qd, qk]
  exact ⟨by simp, rfl, s05.less (by simp)⟩
 ·rw [if_neg hA]
  have hm : [b0, b1] = [68, 70] := Decidable.not_not.1 fun q => hA (.inl q)
  have h0 : b3.toNat = 0 := hz.1 (Decidable.not_not.1 fun q => hA (.inr (.inl q)))
  have hn2 : ¬ 1048576 < n := fun q => hA (.inr (.inr q))
  have c2 : ((b3.toNat : Int) != 0) = false := by simp; omega
  have c3 : decide ((1048576 : Int) < (n : Int)) = false := decide_eq_false (by omega)
  simp only [decide_eq_true hm, Bool.not_true, qbu, q3v, q1s, qt, c2, q2b, c3, q0l]
  refine qb (q5d r5 (n : Int) (by omega)) fun v h6 ⟨e, r6, s6⟩ f6 => ?_
  subst e
  refine qb (q5c r6) fun v h7 ⟨e, r7, s7⟩ f7 => ?_
  subst e
  refine qb (q80 r7) fun v h8 ⟨e, e2⟩ f8 => ?_
  subst e e2
  have s07 := (s05.trans s6).trans s7
  by_cases hs : r.length < n + 4
  ·rw [if_pos hs]
   have he : (((⟨r, 0⟩ : RS).raw (n : Int)).2.raw 4).2.err = 20 := by
    by_cases h9 : r.length < n
    ·rw [qqk h9, q08s (by omega)]
    ·rw [q2g (by omega)]
     have := qqk (s := r.drop n) (k := 4) (by simp; omega)
     exact congrArg (fun x => x.2.err) this
   rw [he]
   simp only [q1s, qt, show ((20 : Int) != 0) = true from rfl, q0f, qd, qk]
   exact ⟨by simp, rfl, s07.less (by simp)⟩
  ·rw [if_neg hs]
   have k4 : (⟨r, 0⟩ : RS).raw (n : Int) = (r.take n, ⟨r.drop n, 0⟩) := q2g (by omega)
   have k5 : (⟨r.drop n, 0⟩ : RS).raw 4 = ((r.drop n).take 4, ⟨(r.drop n).drop 4, 0⟩) := q2g (k := 4) (by simp; omega)
   rw [k4, k5]
   have e8 : IntKind.i64.wrap ((8 : Int) + (n : Int)) = ((8 + n : Nat) : Int) := by rw [IntWalk.i64_in _ (by omega)]; omega
   have e12 : IntKind.i64.wrap (((8 + n : Nat) : Int) + 4) = ((12 + n : Nat) : Int) := by rw [IntWalk.i64_in _ (by omega)]; omega
   simp only [q1s, show ((0 : Int) != 0) = false from rfl, q0l, q2c, qt, e8, e12]
   rw [qgk _ _ _ (by simp; omega)]
   simp only [qt]
   refine qb (q5f _ (by simp only [List.length_take]; omega)) fun v h9 ⟨e, e2⟩ f9 => ?_
   subst e e2
   simp only [q1s, qt]
   by_cases hc : crcOf ((b0 :: b1 :: b2 :: b3 :: b4 :: b5 :: b6 :: b7 :: r).take (8 + n)) = rdn ((r.drop n).take 4)
   ·rw [if_neg (fun q => q hc)]
    have c4 : (((crcOf ((b0 :: b1 :: b2 :: b3 :: b4 :: b5 :: b6 :: b7 :: r).take (8 + n)) : Nat) : Int) != ((rdn ((r.drop n).take 4) : Nat) : Int)) = false := by rw [hc]; simp
    simp only [c4, q0l, q2c, qt, e8, e12, qd, qk]
    exact ⟨by simp, rfl, s07.less (by simp)⟩
   ·rw [if_pos hc]
    have c4 : (((crcOf ((b0 :: b1 :: b2 :: b3 :: b4 :: b5 :: b6 :: b7 :: r).take (8 + n)) : Nat) : Int) != ((rdn ((r.drop n).take 4) : Nat) : Int)) = true := by simp only [bne_iff_ne, ne_eq]; omega
    simp only [c4, q0f, qd, qk]
    exact ⟨by simp, rfl, s07.less (by simp)⟩
def uv (n : Nat) : Value := .int .u64 (n : Int)
def uvs (l : List Nat) : List Value := l.map uv
@[simp] theorem q0b1 (l : List Nat) : (uvs l).length = l.length := by simp [uvs]
@[simp] theorem q0b4 (l m : List Nat) : uvs (l ++ m) = uvs l ++ uvs m := by simp [uvs]
def nums : Nat → List UInt8 → List Nat
 | 0, _ => []
 | k + 1, l => rdn (l.take 8) :: nums k (l.drop 8)
@[simp] theorem q0am (k : Nat) (l : List UInt8) : (nums k l).length = k := by
 induction k generalizing l with
 | zero => rfl
 | succ k ih => simp [nums, ih]
def rdk : Nat → RS → List Nat × RS
 | 0, st => ([], st)
 | k + 1, st => (rdn (st.raw 8).1 :: (rdk k (st.raw 8).2).1, (rdk k (st.raw 8).2).2)
@[simp] theorem q0av (k : Nat) (st : RS) : (rdk k st).1.length = k := by
 induction k generalizing st with
 | zero => rfl
 | succ k ih => simp [rdk, ih]
end Go.Proofs.YtfmoemconapmhaaGreat.Ah
