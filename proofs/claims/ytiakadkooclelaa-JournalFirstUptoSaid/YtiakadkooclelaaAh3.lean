/- Slices and append. -/
import Derived.Test.YtiakadkooclelaaAh2
import Derived.Laws.Append
import Derived.Laws.AppendOwn
set_option linter.unusedVariables false
set_option linter.unusedSimpArgs false
namespace Go.Proofs.Ytiakadkooclelaa.Ah
open Go

section
variable {B nx : Nat} {ι : Inj}

theorem VRel.slice_inv {a : Option Addr} {n c : Nat} {v' : Value} (h : VRel B nx ι (.slice a n c) v') :
    (a = none ∧ n = 0 ∧ c = 0 ∧ v' = .slice none 0 0) ∨
    ∃ ad a' c', a = some ad ∧ v' = .slice (some a') n c' ∧ n ≤ c' ∧ (0 < c' → PRel B nx ι ad a') ∧ (c ≠ ucap → c' = c) ∧
      (c = ucap → B ≤ ad.block ∧ ad.spot = none) ∧ (c = ucap → 0 < c' → ad.block < nx ∧ ad.off + c' * (ι ad.block).sz = (ι ad.block).rsv) ∧ (ad.block < B → a' = ad) ∧ (c ≠ ucap → c < ucap) ∧ (c = ucap → c' = 0 → ad.block < nx ∧ (ι ad.block).rsv ≤ ad.off) := by
  cases h with
  | snil => exact .inl ⟨rfl, rfl, rfl, rfl⟩
  | sext ad _ _ h hn hc => exact .inr ⟨ad, ad, c, rfl, rfl, hn, fun _ => .pext _ h, fun _ => rfl, fun hc' => absurd hc' (Nat.ne_of_lt hc), fun hc' _ => absurd hc' (Nat.ne_of_lt hc), fun _ => rfl, fun _ => hc, fun hc' _ => absurd hc' (Nat.ne_of_lt hc)⟩
  | sint b o _ _ c' h1 h2 hn hc =>
    refine .inr ⟨⟨b, o, none⟩, _, c', rfl, rfl, hn, fun _ => .pint b o h1 h2, fun hne => ?_, fun _ => ⟨h1, rfl⟩, fun hc' _ => ⟨h2, ?_⟩, fun hlt => absurd h1 (by simp at hlt; omega), fun hne => by rcases hc with ⟨e, _⟩ | ⟨_, e⟩; exact absurd e hne; exact e, fun hc' h0 => ⟨h2, by
      rcases hc with ⟨_, e⟩ | ⟨_, e⟩
      · rw [h0, Nat.zero_mul, Nat.add_zero] at e; exact Nat.le_of_eq e.symm
      · rw [hc'] at e; exact absurd e (Nat.lt_irrefl _)⟩⟩
    · rcases hc with ⟨e, _⟩ | ⟨e, _⟩
      · exact absurd e hne
      · exact e.symm
    · rcases hc with ⟨_, e⟩ | ⟨_, e⟩
      · exact e
      · rw [hc'] at e; exact absurd e (Nat.lt_irrefl _)
  | szero b o _ a h1 hc =>
    exact .inr ⟨⟨b, o, none⟩, a, 0, rfl, rfl, Nat.le_refl _, fun h0 => absurd h0 (by simp), fun hne => by
      rcases hc with ⟨e, _⟩ | e
      · exact absurd e hne
      · exact e.symm, fun _ => ⟨h1, rfl⟩, fun _ h0 => absurd h0 (by simp), fun hlt => absurd h1 (by simp at hlt; omega), fun hne => by rcases hc with ⟨e, _⟩ | e; exact absurd e hne; rw [e]; decide, fun hc' _ => by rcases hc with ⟨_, e⟩ | e; exact e; rw [e] at hc'; exact absurd hc' (by decide)⟩
  | sempty ad a h1 =>
    exact .inr ⟨ad, a, 0, rfl, rfl, Nat.le_refl _, fun h0 => absurd h0 (by simp), fun _ => rfl, fun e => absurd e (by decide), fun e _ => absurd e (by decide), fun hlt => absurd h1 (by omega), fun _ => by decide, fun e => absurd e (by decide)⟩
end

section
variable {P : Program} {w : World}

theorem run_append_fit {t t2 ty e : TypeId} {i : TypeInfo} (ht : P.underlying t = some (.slice e)) (hi : P.info? e = some i) {d2 : TypeDesc} (ht2 : P.underlying t2 = some d2) (hd2 : ∀ k, d2 ≠ .int k)
    {a : Addr} {n c m : Nat} {y : Value} {news : Array Value} {w' : World} (hlen : (Builtin.lenOf y).run P w = .ok m w) (hsrc : (Builtin.firstCells i.size m y).run P w = .ok news w)
    (hroom : n + m ≤ c) (hst : (storeCells (a.add (n * i.size)) news.toList).run P w = .ok () w') :
    (Builtin.append_ #[t, t2] ty #[.slice (some a) n c, y]).run P w = .ok (.slice (some a) (n + m) c) w' := by
  have hz : (match d2 with | .int _ => true | _ => false) = false := by
    cases d2 <;> first | rfl | exact absurd rfl (hd2 _)
  simp [Builtin.append_, run_underlying ht, run_underlying ht2, sizeOf, typeInfo, hi, hz, hlen, hroom, hsrc, hst]

theorem run_append_more {t t2 ty e : TypeId} {i : TypeInfo} {z : Value} (ht : P.underlying t = some (.slice e)) (hi : P.info? e = some i) (hzv : i.zero = some z) {d2 : TypeDesc} (ht2 : P.underlying t2 = some d2) (hd2 : ∀ k, d2 ≠ .int k)
    {b : Option Addr} {n c m : Nat} {y : Value} {old news : Array Value} (hlen : (Builtin.lenOf y).run P w = .ok m w) (hsrc : ∀ w', w'.heap = w.heap → (Builtin.firstCells i.size m y).run P w' = .ok news w')
    (hold : ∀ w', w'.heap = w.heap → (Builtin.firstCells i.size n (.slice b n c)).run P w' = .ok old w')
    (hroom : c < n + m) (hb : (n + m) * i.bytes ≤ 140737488355328) (h63 : n + m ≤ 9223372036854775807) (hb0 : i.bytes ≠ 0 ∨ True) :
    ∃ k, n + m ≤ k ∧ k < ucap ∧ (Builtin.append_ #[t, t2] ty #[.slice b n c, y]).run P w =
      .ok (.slice (some ⟨w.heap.size, 0, none⟩) (n + m) k) (w.drew.alloc (.cells (old ++ news ++ Builtin.zeroCells z.cells (k - (n + m))) e)) := by
  have hz : (match d2 with | .int _ => true | _ => false) = false := by
    cases d2 <;> first | rfl | exact absurd rfl (hd2 _)
  have hfit := growslice_fits hroom hb
  have h63' : ¬ (((n + m : Nat) : Int) > IntKind.i64.max) := by
    have : IntKind.i64.max = 9223372036854775807 := by decide
    rw [this]; omega
  refine ⟨grownCap w (n + m) c e, grownCap_ge _ _ _ _, ?_, ?_⟩
  · have hlt := Nat.mod_lt (w.tape w.drawn (.appendCap (n + m) c e)) (show 0 < 2 ^ 63 - (n + m) by omega)
    simp only [grownCap, Question.cut, ucap] at hlt ⊢
    omega
  · have h1 := hsrc w.drew rfl
    have h2 := hold w.drew rfl
    have hn : ¬ (n + m ≤ c) := by omega
    have hf' : ¬ (Builtin.nextslicecap (n + m) c * i.bytes > 2 ^ 48) := by simp; exact hfit
    have hcast : ¬ (9223372036854775807 < (n : Int) + (m : Int)) := by omega
    have hf2 : ¬ (281474976710656 < Builtin.nextslicecap (n + m) c * i.bytes) := by omega
    simp [Builtin.append_, run_underlying ht, run_underlying ht2, sizeOf, typeInfo, zeroValue, hi, hzv, hz, hlen, hn, hcast, hf2, Question.forced, h1, h2, newRow, grownCap]
end

/-! ### The source of an append or a copy; what it is appended to -/
def ClC (B : Nat) (v : Value) : Prop := Cl B v ∧ isCell v = true

def Src (B : Nat) (h : Hp) (s : Nat) (y : Value) (m : Nat) (ys : List Value) : Prop :=
  match y with
  | .string str => s = 1 ∧ m ≤ str.size ∧ ys = (str.data.toList.take m).map fun b => .int .u8 b.toNat
  | .slice a m' _ => m ≤ m' ∧ ((m = 0 ∧ ys = []) ∨ (0 < m ∧ ∃ ad, a = some ad ∧ h.getN ad (m * s) = some ys ∧ (ad.block < B → ∀ v, v ∈ ys → ClC B v)))
  | _ => False

def lenA : Value → Option Nat
  | .string s => some s.size
  | .slice _ n _ => some n
  | _ => none

theorem Hp.getN_some {h : Hp} {a : Addr} {n : Nat} {vs : List Value} (hg : h.getN a n = some vs) : a.spot = none ∧ ∃ cs, h.blk a.block = some cs ∧ a.off + n ≤ cs.length ∧ vs = (cs.drop a.off).take n := by
  unfold Hp.getN at hg
  split at hg
  case isFalse => simp at hg
  case isTrue hs =>
  obtain ⟨cs, hb, hv⟩ := Option.bind_eq_some_iff.1 hg
  split at hv
  case isFalse => simp at hv
  case isTrue hle => exact ⟨by simpa using hs, cs, hb, hle, by simpa using hv.symm⟩

theorem Hp.getN_length {h : Hp} {a : Addr} {n : Nat} {vs : List Value} (hg : h.getN a n = some vs) : vs.length = n := by
  obtain ⟨_, cs, _, hle, rfl⟩ := Hp.getN_some hg
  simp; omega

section
variable {w0 : World} {ι : Inj} {h : Hp} {w : World} {P : Program}

theorem HRel.cells_of (r : HRel w0 ι h w) {a : Addr} {n : Nat} {vs : List Value} (hg : h.getN a n = some vs) (hcl : a.block < w0.heap.size → ∀ v, v ∈ vs → ClC w0.heap.size v) : ∀ v, v ∈ vs → isCell v = true := by
  intro v hv
  by_cases hb : a.block < w0.heap.size
  · exact (hcl hb v hv).2
  · obtain ⟨_, cs, hbk, _, rfl⟩ := Hp.getN_some hg
    exact (r.live _ cs (by omega) hbk).cell v (List.mem_of_mem_drop (List.mem_of_mem_take hv))

theorem HRel.src (r : HRel w0 ι h w) {s m : Nat} {y y' : Value} {ys : List Value} (hs : Src w0.heap.size h s y m ys) (hy : VRel w0.heap.size h.next ι y y') :
    ∃ ys' : List Value, (∀ w', w'.heap = w.heap → (Builtin.firstCells s m y').run P w' = .ok ys'.toArray w') ∧ VRels w0.heap.size h.next ι ys ys' ∧ ys.length = m * s ∧ ∀ v, v ∈ ys → isCell v = true := by
  unfold Src at hs
  split at hs
  · rename_i str
    obtain ⟨rfl, hm, rfl⟩ := hs
    obtain rfl := hy.string_inv
    refine ⟨(str.data.toList.take m).map fun b => .int .u8 b.toNat, fun w' _ => ?_, ⟨rfl, fun i v v' a b => ?_⟩, ?_, fun v hv => ?_⟩
    · simp only [Builtin.firstCells, Sem.run_pure]
      congr 1
      apply Array.ext'
      rw [Array.toList_map]
      have : (str.extract 0 m).data.toList = str.data.toList.take m := by simp
      rw [this]
    · rw [a] at b
      cases b
      rw [List.getElem?_map] at a
      obtain ⟨x, _, rfl⟩ := Option.map_eq_some_iff.1 a
      exact .int _ _
    · have : str.data.toList.length = str.size := by simp
      simp only [List.length_map, List.length_take, this]
      omega
    · obtain ⟨b, _, rfl⟩ := List.mem_map.1 hv
      rfl
  · rename_i a m' c
    obtain ⟨hm, h0⟩ := hs
    rcases hy.slice_inv with ⟨rfl, rfl, rfl, rfl⟩ | ⟨ad, a', c', rfl, rfl, hn, hp, _⟩
    · obtain rfl : m = 0 := by omega
      rcases h0 with ⟨_, rfl⟩ | ⟨h0, _⟩
      · exact ⟨[], fun w' _ => by simp [Builtin.firstCells], .nil, by simp, fun v hv => by simp at hv⟩
      · omega
    · rcases h0 with ⟨rfl, rfl⟩ | ⟨h0, ad', e, hg, hcl⟩
      · exact ⟨[], fun w' _ => by simp [Builtin.firstCells, loadCells, loadCellsFrom], .nil, by simp, fun v hv => by simp at hv⟩
      · cases e
        obtain ⟨vs', h1, h2⟩ := r.readN (P := P) (hp (by omega)) hg (fun hlt v hv => (hcl hlt v hv).1)
        exact ⟨vs', fun w' hw' => h1 w' hw', h2, Hp.getN_length hg, r.cells_of hg hcl⟩
  · exact hs.elim
end
end Go.Proofs.Ytiakadkooclelaa.Ah
