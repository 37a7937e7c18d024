/- A round over a slice that was there: an element is read into a variable of its own. -/
import Derived.Test.YthjpddggnhgjhaaAh21
set_option linter.unusedVariables false
set_option linter.unusedSimpArgs false
namespace Go.Proofs.Ythjpddggnhgjhaa.Ah
open Go

theorem put_new (h : Hp) (z c : List Value) (s : Nat) : (h.new z s).put h.next c = h.new c s := by
  unfold Hp.put Hp.new
  simp only [Hp.mk.injEq, and_true]
  funext i
  by_cases e : i = h.next <;> simp [e]
theorem splice_all (z c : List Value) (hl : c.length = z.length) : splice z 0 c = c := by
  unfold splice
  simp [← hl]
section
variable {w0 : World} {h : Hp} {s : Nat} {K : Kont}
theorem loadNA_whole {b n : Nat} {cs : List Value} (hB : w0.heap.size ≤ b) (hb : h.blk b = some cs) (hn : cs.length = n) (hk : K (.agg cs.toArray) h) : loadNA w0 (.pointer (some ⟨b, 0, none⟩)) n K h := by
  rw [loadNA_own]
  exact ⟨cs, by simp [hb, ← hn], fun hlt => by omega, hk⟩
theorem loadA_at {b o : Nat} {cs : List Value} {v : Value} (hB : w0.heap.size ≤ b) (hb : h.blk b = some cs) (hv : cs[o]? = some v) (hk : K v h) : loadA w0 (.pointer (some ⟨b, o, none⟩)) K h := by
  rw [loadA_own]
  exact ⟨v, by simp [hb, hv], fun hlt => by omega, hk⟩
/-- An element out of a source is read into a new variable. -/
theorem idx_box {a : Option Addr} {m c n i : Nat} {k : IntKind} {ys z e : List Value} (hf : w0.heap.size ≤ h.next) (hs : Src w0.heap.size h s (.slice a m c) n ys) (hi : i < n) (he : (ys.drop (i * s)).take s = e) (hl : e.length = s) (hz : z.length = s)
    (hzc : ∀ v, v ∈ z → isCell v = true) (hk : K (.pointer (some ⟨h.next, 0, none⟩)) (h.new e s)) :
    idxSlA s (.slice a m c) (.int k (i : Int)) (fun p => loadNA w0 p s fun x => newA z s fun b => storeNA w0 b x s fun _ => K b) h := by
  refine idx_loadN hs hi ?_
  rw [he]
  refine ⟨hzc, h.next, 0, z, e.toArray, rfl, hf, rfl, by simpa using hl, by simp, by omega, ?_⟩
  rw [splice_all _ _ (by simp; omega), put_new]
  simpa using hk
end
/-! ### Words under binders -/
theorem faddA_ptr (a : Addr) (n : Nat) : addA (.pointer (some a)) n = fun K => K (.pointer (some (a.add n))) := by funext K h; exact propext (addA_ptr a n)
theorem fnilA_ptr (a : Addr) : nilA (.pointer (some a)) = fun K => K (.pointer (some a)) := by funext K h; exact propext (nilA_ptr a)
theorem fguardA_tt (m : Kont → Hp → Prop) : guardA (.bool true) true m = m := by funext K h; exact propext (guardA_tt m)
theorem fguardA_ff (m : Kont → Hp → Prop) : guardA (.bool false) false m = m := by funext K h; exact propext (guardA_ff m)
theorem fguardA_tf (m : Kont → Hp → Prop) : guardA (.bool true) false m = fun K => K undef := by funext K h; exact propext (guardA_tf m)
theorem fguardA_ft (m : Kont → Hp → Prop) : guardA (.bool false) true m = fun K => K undef := by funext K h; exact propext (guardA_ft m)
theorem fguardA_undef (want : Bool) (m : Kont → Hp → Prop) : guardA undef want m = fun K => K undef := by funext K h; exact propext (guardA_undef want m)
theorem fpickA_true (a b : Value) : pickA (.bool true) a b = fun K => K a := by funext K h; exact propext (pickA_true a b)
theorem fpickA_false (a b : Value) : pickA (.bool false) a b = fun K => K b := by funext K h; exact propext (pickA_false a b)
theorem fcondA_true (x y : Hp → Prop) : condA (.bool true) x y = x := by funext h; exact propext (condA_true x y)
theorem fcondA_false (x y : Hp → Prop) : condA (.bool false) x y = y := by funext h; exact propext (condA_false x y)
theorem freadQ_slSlA (s : Nat) (x : Value) (lo hi mx : Option Value) : readQ (slSlA s x lo hi mx) = slSlA s x lo hi mx := by
  funext K h
  refine propext ⟨?_, ?_⟩
  · rintro ⟨v, ⟨a, n, c, l, u, e1, e2, e3, e4, e5, e6⟩, k⟩
    refine ⟨a, n, c, l, u, e1, e2, e3, e4, e5, ?_⟩
    cases mx with
    | none =>
      simp only at e6 ⊢
      split
      · rename_i hc
        rw [if_pos hc] at e6
        obtain ⟨g1, ad, g2, g3, g4, rfl, -⟩ := e6
        exact ⟨g1, ad, g2, g3, g4, k⟩
      · rename_i hc
        rw [if_neg hc] at e6
        obtain ⟨g1, rfl, -⟩ := e6
        exact ⟨g1, k⟩
    | some mv =>
      obtain ⟨m, g1, g2, g3, g4, rfl, -⟩ := e6
      exact ⟨m, g1, g2, g3, g4, k⟩
  · rintro ⟨a, n, c, l, u, e1, e2, e3, e4, e5, e6⟩
    cases mx with
    | none =>
      simp only at e6
      split at e6
      · rename_i hc
        obtain ⟨g1, ad, g2, g3, g4, g5⟩ := e6
        exact ⟨_, ⟨a, n, c, l, u, e1, e2, e3, e4, e5, by show (if c = ucap then _ else _); rw [if_pos hc]; exact ⟨g1, ad, g2, g3, g4, rfl, rfl⟩⟩, g5⟩
      · rename_i hc
        exact ⟨_, ⟨a, n, c, l, u, e1, e2, e3, e4, e5, by show (if c = ucap then _ else _); rw [if_neg hc]; exact ⟨e6.1, rfl, rfl⟩⟩, e6.2⟩
    | some mv =>
      obtain ⟨m, g1, g2, g3, g4, g5⟩ := e6
      exact ⟨_, ⟨a, n, c, l, u, e1, e2, e3, e4, e5, m, g1, g2, g3, g4, rfl, rfl⟩, g5⟩
/-! ### Sources stay -/
def sblk : Value → List Nat
  | .slice (some a) _ _ => [a.block]
  | _ => []
theorem Src.frame {B s m : Nat} {h h' : Hp} {x : Value} {ys : List Value} (hs : Src B h s x m ys) (hb : ∀ b cs, b ∈ sblk x → h.blk b = some cs → h'.blk b = some cs) : Src B h' s x m ys := by
  unfold Src at hs ⊢
  split at hs
  · exact hs
  · rename_i a n c
    refine ⟨hs.1, ?_⟩
    rcases hs.2 with h0 | ⟨h0, ad, rfl, hg, hcl⟩
    · exact .inl h0
    · refine .inr ⟨h0, ad, rfl, ?_, hcl⟩
      obtain ⟨hsp, cs, hbk, hle, hv⟩ := Hp.getN_some hg
      obtain ⟨b, o, sp⟩ := ad
      simp only at hsp hbk hle hv
      subst hsp
      rw [getN_eq, hb b cs (by simp [sblk]) hbk, Option.bind_some, if_pos hle, hv]
  · exact hs
theorem Src.step {w0 : World} {B s m : Nat} {h h' : Hp} {x : Value} {ys : List Value} {S S' : List Nat} (hs : Src B h s x m ys) (f : Fit w0 h) (st : Step h h' S S') (hd : ∀ b, b ∈ sblk x → b ∉ S) : Src B h' s x m ys :=
  hs.frame fun b cs hb hbk => by rw [(st.keep b (f.lt b cs hbk) (hd b hb)).1]; exact hbk
theorem Fit.new {w0 : World} {h : Hp} (f : Fit w0 h) {c : List Value} {s : Nat} (hc : ∀ v, v ∈ c → isCell v = true) : Fit w0 (h.new c s) := by
  refine ⟨by have := f.base; simp; omega, fun i hi => ?_, fun b cs hb => ?_, fun b cs hB hb v hv => ?_, fun b x e => by have := f.lps b x e; simp; omega⟩
  · have : i ≠ h.next := by have := f.base; omega
    simpa [this] using f.ext i hi
  · simp at hb
    split at hb
    · simp; omega
    · have := f.lt b cs hb; simp; omega
  · simp at hb
    split at hb
    · cases hb; exact hc v hv
    · exact f.cell b cs hB hb v hv
theorem Fit.put {w0 : World} {h : Hp} (f : Fit w0 h) {p : Nat} {c : List Value} (hp : w0.heap.size ≤ p) (hlt : p < h.next) (hc : ∀ v, v ∈ c → isCell v = true) : Fit w0 (h.put p c) := by
  refine ⟨f.base, fun i hi => ?_, fun b cs hb => ?_, fun b cs hB hb v hv => ?_, f.lps⟩
  · have : i ≠ p := by omega
    simpa [this] using f.ext i hi
  · simp at hb
    split at hb
    · simp; omega
    · exact f.lt b cs hb
  · simp at hb
    split at hb
    · cases hb; exact hc v hv
    · exact f.cell b cs hB hb v hv
/-- One shape of an encoding for another. -/
theorem Dec.Of.map {α β : Type} {D : Dec α} {E : Dec β} {P : Program} {w0 : World} {t : TypeId} {s : Nat} (hD : D.Of P w0 t s) (f : α → β) (he : ∀ a, E.e (f a) = D.e a) (hok : ∀ a, D.ok a → E.ok (f a)) (hb : ∀ a, E.b (f a) ≤ D.b a)
    (hlen : ∀ b, (E.e b).length = s) (hcl : ∀ b, E.ok b → ∀ v, v ∈ E.e b → ClC w0.heap.size v) : E.Of P w0 t s := by
  refine ⟨hD.size, hlen, hcl, fun {H enc fuel cs x} hx hp => ?_⟩
  obtain ⟨a, rfl, o, b⟩ := hD.opens hx hp
  exact ⟨f a, (he a).symm, hok a o, Nat.le_trans (hb a) b⟩
/-- The words that every walk goes by. -/
theorem wd : (∀ (a : Option Addr) (n c : Nat), lenSl (Value.slice a n c) = some (Value.int IntKind.i64 ↑n)) ∧
  (∀ (s : ByteArray), lenStr (Value.string s) = some (Value.int IntKind.i64 ↑s.size)) ∧
    (∀ (l : List UInt8), (str l).size = l.length) ∧
      (∀ (v : Value) (K : Kont), pureA (some v) K = K v) ∧
        (∀ (a : Addr), nilA (Value.pointer (some a)) = fun K => K (Value.pointer (some a))) ∧
          (∀ (a : Addr) (n : Nat), addA (Value.pointer (some a)) n = fun K => K (Value.pointer (some (a.add n)))) ∧
            (∀ (b o n : Nat), (⟨b, o, none⟩ : Addr).add n = ⟨b, o + n, none⟩) ∧
              (∀ (n : Nat), 0 + n = n) ∧
                (∀ (n : Nat), n + 0 = n) ∧
                  (∀ (v : Value), (pureQ fun K => K v) = fun K => K v) ∧
                    (∀ (x : Value), pureQ (nilA x) = nilA x) ∧
                      (∀ (x : Value) (n : Nat), pureQ (addA x n) = addA x n) ∧
                        (∀ (o : Option Value), pureQ (pureA o) = pureA o) ∧
                          (∀ (x : Value) (want : Bool) (m : Kont → Hp → Prop),
                              pureQ (guardA x want m) = guardA x want (pureQ m)) ∧
                            (∀ (s : Nat) (x i : Value), pureQ (idxSlA s x i) = idxSlA s x i) ∧
                              (∀ (c a b : Value), pureQ (pickA c a b) = pickA c a b) ∧
                                (∀ {w0 : World} (x : Value), readQ (loadA w0 x) = loadA w0 x) ∧
                                  (∀ {w0 : World} (x : Value) (n : Nat), readQ (loadNA w0 x n) = loadNA w0 x n) ∧
                                    (∀ {w0 : World} (x : Value), readQ (b2sA w0 x) = b2sA w0 x) ∧
                                      (∀ (x : Value) (want : Bool) (m : Kont → Hp → Prop),
                                          readQ (guardA x want m) = guardA x want (readQ m)) ∧
                                        (∀ (s : Nat) (x : Value) (lo hi mx : Option Value),
                                            readQ (slSlA s x lo hi mx) = slSlA s x lo hi mx) ∧
                                          (∀ (v : Value), (readQ fun K => K v) = fun K => K v) ∧
                                            (∀ (k : Hp → Prop), endA k = k) ∧
                                              (∀ (k : Hp → Prop), allA [k] = k) ∧
                                                (∀ (k : Hp → Prop), stillA [] k = k) ∧
                                                  (∀ (m : Kont → Hp → Prop), guardA (Value.bool true) true m = m) ∧
                                                    (∀ (m : Kont → Hp → Prop), guardA (Value.bool false) false m = m) ∧
                                                      (∀ (m : Kont → Hp → Prop),
                                                          guardA (Value.bool true) false m = fun K => K undef) ∧
                                                        (∀ (m : Kont → Hp → Prop),
                                                            guardA (Value.bool false) true m = fun K => K undef) ∧
                                                          (∀ (want : Bool) (m : Kont → Hp → Prop),
                                                              guardA undef want m = fun K => K undef) ∧
                                                            (∀ (a b : Value),
                                                                pickA (Value.bool true) a b = fun K => K a) ∧
                                                              (∀ (a b : Value),
                                                                  pickA (Value.bool false) a b = fun K => K b) ∧
                                                                (∀ (x y : Hp → Prop), condA (Value.bool true) x y = x) ∧
                                                                  (∀ (x y : Hp → Prop),
                                                                      condA (Value.bool false) x y = y) ∧
                                                                    (∀ (k : IntKind) (a b : Int),
                                                                        binA BinOp.add (Value.int k a) (Value.int k b) =
                                                                          some (Value.int k (k.wrap (a + b)))) ∧
                                                                      (∀ (k : IntKind) (a b : Int),
                                                                          binA BinOp.sub (Value.int k a)
                                                                              (Value.int k b) =
                                                                            some (Value.int k (k.wrap (a - b)))) ∧
                                                                        (∀ (k : IntKind) (a b : Int),
                                                                            binA BinOp.mul (Value.int k a)
                                                                                (Value.int k b) =
                                                                              some (Value.int k (k.wrap (a * b)))) ∧
                                                                          (∀ (k : IntKind) (a b : Int),
                                                                              binA BinOp.eql (Value.int k a)
                                                                                  (Value.int k b) =
                                                                                some (Value.bool (a == b))) ∧
                                                                            (∀ (k : IntKind) (a b : Int),
                                                                                binA BinOp.neq (Value.int k a)
                                                                                    (Value.int k b) =
                                                                                  some (Value.bool (a != b))) ∧
                                                                              (∀ (k : IntKind) (a b : Int),
                                                                                  binA BinOp.lss (Value.int k a)
                                                                                      (Value.int k b) =
                                                                                    some
                                                                                      (Value.bool (decide (a < b)))) ∧
                                                                                (∀ (k : IntKind) (a b : Int),
                                                                                    binA BinOp.leq (Value.int k a)
                                                                                        (Value.int k b) =
                                                                                      some
                                                                                        (Value.bool (decide (a ≤ b)))) ∧
                                                                                  (∀ (k : IntKind) (a b : Int),
                                                                                      binA BinOp.gtr (Value.int k a)
                                                                                          (Value.int k b) =
                                                                                        some
                                                                                          (Value.bool
                                                                                            (decide (b < a)))) ∧
                                                                                    (∀ (k : IntKind) (a b : Int),
                                                                                        binA BinOp.geq (Value.int k a)
                                                                                            (Value.int k b) =
                                                                                          some
                                                                                            (Value.bool
                                                                                              (decide (b ≤ a)))) ∧
                                                                                      (∀ (b : Bool),
                                                                                          unA UnOp.not (Value.bool b) =
                                                                                            some (Value.bool !b)) ∧
                                                                                        (!true) = false ∧
                                                                                          (!false) = true ∧
                                                                                            (∀ (k k' : IntKind)
                                                                                                (n : Int),
                                                                                                convA k
                                                                                                    (Value.int k' n) =
                                                                                                  some
                                                                                                    (Value.int k
                                                                                                      (k.wrap n))) ∧
                                                                                              ∀ (vs : Array Value)
                                                                                                (i : Nat),
                                                                                                extA (Value.tuple vs)
                                                                                                    i =
                                                                                                  vs[i]? :=
  ⟨@lenSl_slice, @lenStr_string, @str_size, @fpureA_some, @fnilA_ptr, @faddA_ptr, @addr_add, @Nat.zero_add, @Nat.add_zero, @fpureQ_k, @fpureQ_nilA, @fpureQ_addA, @fpureQ_pureA, @fpureQ_guardA, @fpureQ_idxSlA, @fpureQ_pickA, @freadQ_loadA, @freadQ_loadNA, @freadQ_b2sA, @freadQ_guardA, @freadQ_slSlA, @freadQ_k, @fendA, @fallA_one, @fstillA_nil, @fguardA_tt, @fguardA_ff, @fguardA_tf, @fguardA_ft, @fguardA_undef, @fpickA_true, @fpickA_false, @fcondA_true, @fcondA_false, @binA_add, @binA_sub, @binA_mul, @binA_eql, @binA_neq, @binA_lss, @binA_leq, @binA_gtr, @binA_geq, @unA_not, @Bool.not_true, @Bool.not_false, @convA_int, @extA_tuple⟩
end Go.Proofs.Ythjpddggnhgjhaa.Ah
