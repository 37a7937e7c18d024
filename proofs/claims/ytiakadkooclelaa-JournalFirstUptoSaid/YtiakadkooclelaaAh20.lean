/- The words' lemmas as equations of functions (they hold under a binder too); reading out of sources. -/
import Derived.Test.YtiakadkooclelaaAh18
set_option linter.unusedVariables false
set_option linter.unusedSimpArgs false
namespace Go.Proofs.Ytiakadkooclelaa.Ah
open Go

section
variable {P : Program} {w0 : World}
theorem fpureQ_k (v : Value) : pureQ (fun K => K v) = fun K => K v := by funext K h; exact propext (pureQ_k v)
theorem fpureQ_pureA (o : Option Value) : pureQ (pureA o) = pureA o := by funext K h; exact propext (pureQ_pureA o)
theorem fpureQ_nilA (x : Value) : pureQ (nilA x) = nilA x := by funext K h; exact propext (pureQ_nilA x)
theorem fpureQ_addA (x : Value) (n : Nat) : pureQ (addA x n) = addA x n := by funext K h; exact propext (pureQ_addA x n)
theorem fpureQ_pickA (c a b : Value) : pureQ (pickA c a b) = pickA c a b := by funext K h; exact propext (pureQ_pickA c a b)
theorem fpureQ_idxSlA (s : Nat) (x i : Value) : pureQ (idxSlA s x i) = idxSlA s x i := by funext K h; exact propext (pureQ_idxSlA s x i)
theorem fpureQ_guardA (x : Value) (want : Bool) (m : Kont → Hp → Prop) : pureQ (guardA x want m) = guardA x want (pureQ m) := by funext K h; exact propext (pureQ_guardA x want m)
theorem freadQ_guardA (x : Value) (want : Bool) (m : Kont → Hp → Prop) : readQ (guardA x want m) = guardA x want (readQ m) := by funext K h; exact propext (readQ_guardA x want m)
theorem freadQ_k (v : Value) : readQ (fun K => K v) = fun K => K v := by funext K h; exact propext (readQ_k v)
theorem freadQ_loadA (x : Value) : readQ (loadA w0 x) = loadA w0 x := by funext K h; exact propext (readQ_loadA x)
theorem freadQ_loadNA (x : Value) (n : Nat) : readQ (loadNA w0 x n) = loadNA w0 x n := by funext K h; exact propext (readQ_loadNA x n)
theorem freadQ_b2sA (x : Value) : readQ (b2sA w0 x) = b2sA w0 x := by funext K h; exact propext (readQ_b2sA x)
theorem fendA (k : Hp → Prop) : endA k = k := by funext h; exact propext (endA_iff k)
theorem fallA_one (k : Hp → Prop) : allA [k] = k := by funext h; exact propext (allA_one k)
theorem fstillA_nil (k : Hp → Prop) : stillA [] k = k := by funext h; simp
theorem fpureA_some (v : Value) (K : Kont) : pureA (some v) K = K v := by funext h; exact propext (pureA_some v)

variable {h : Hp} {K : Kont}
theorem idx_load1 {a : Option Addr} {m c n i : Nat} {k : IntKind} {ys : List Value} {v : Value} (hs : Src w0.heap.size h 1 (.slice a m c) n ys) (hn : ys.length = n) (hi : ys[i]? = some v) (hk : K v h) :
    idxSlA 1 (.slice a m c) (.int k (i : Int)) (fun p => loadA w0 p K) h := by
  have hin : i < ys.length := (List.getElem?_eq_some_iff.1 hi).1
  obtain ⟨hm, hs⟩ := hs
  rcases hs with ⟨rfl, rfl⟩ | ⟨h0, ad, rfl, hg, hcl⟩
  · simp at hi
  · refine ⟨ad, m, c, k, i, rfl, rfl, by omega, by omega, ?_⟩
    obtain ⟨hsp, cs, hb, hle, hv⟩ := Hp.getN_some hg
    obtain ⟨b, o, sp⟩ := ad
    simp only at hsp hb hle hv
    subst hsp
    have hlt : b < w0.heap.size → Cl w0.heap.size v := fun hb => (hcl hb v (List.mem_of_getElem? hi)).1
    rw [addr_add, Int.toNat_natCast, Nat.mul_one]
    refine ⟨_, v, rfl, ?_, hlt, hk⟩
    rw [get_eq, hb, Option.bind_some]
    rw [hv, List.getElem?_take] at hi
    split at hi
    · rwa [List.getElem?_drop] at hi
    · simp at hi
theorem idx_loadN {a : Option Addr} {m c n s i : Nat} {k : IntKind} {ys : List Value} (hs : Src w0.heap.size h s (.slice a m c) n ys) (hi : i < n) (hk : K (.agg ((ys.drop (i * s)).take s).toArray) h) :
    idxSlA s (.slice a m c) (.int k (i : Int)) (fun p => loadNA w0 p s K) h := by
  obtain ⟨hm, hs⟩ := hs
  rcases hs with ⟨rfl, rfl⟩ | ⟨h0, ad, rfl, hg, hcl⟩
  · omega
  · refine ⟨ad, m, c, k, i, rfl, rfl, by omega, by omega, ?_⟩
    obtain ⟨hsp, cs, hb, hle, hv⟩ := Hp.getN_some hg
    obtain ⟨b, o, sp⟩ := ad
    simp only at hsp hb hle hv
    subst hsp
    have hms : (i + 1) * s ≤ n * s := Nat.mul_le_mul_right _ hi
    rw [Nat.add_mul, Nat.one_mul] at hms
    rw [addr_add, Int.toNat_natCast]
    refine ⟨_, (ys.drop (i * s)).take s, rfl, ?_, fun hb v hv => hcl hb v (List.mem_of_mem_drop (List.mem_of_mem_take hv)), hk⟩
    rw [getN_eq, hb, Option.bind_some, if_pos (by omega), hv]
    congr 1
    rw [List.drop_take, List.take_take, Nat.min_eq_left (by omega), List.drop_drop]
end
end Go.Proofs.Ytiakadkooclelaa.Ah
