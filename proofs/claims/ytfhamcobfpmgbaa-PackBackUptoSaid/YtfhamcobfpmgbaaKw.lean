/- codec.Writer: what each call does. -/
import Derived.Test.YtfhamcobfpmgbaaGcodec
set_option linter.unusedVariables false
set_option linter.unusedSimpArgs false
namespace Go.Proofs.Ytfhamcobfpmgbaa.Ah
open Go

/-- What a writer holds. -/
structure WS where
  most : Int
  bs : List UInt8
  over : Bool
def WS.put (s : WS) (l : List UInt8) : WS := if s.over then s else if s.most - s.bs.length < l.length then { s with over := true } else { s with bs := s.bs ++ l }

def ptr (p : Nat) : Value := .pointer (some ⟨p, 0, none⟩)
def Wr (w0 : World) (h : Hp) (p : Nat) (st : WS) (S : List Nat) : Prop :=
  ∃ x T, h.blk p = some [.int .i64 st.most, x, .bool st.over] ∧ w0.heap.size ≤ p ∧ p < h.next ∧ Vec w0 h 1 x st.bs.length (bvs st.bs) T ∧ p ∉ T ∧ S = p :: T ∧ 0 ≤ st.most ∧ st.most ≤ 9223372036854775807

theorem Wr.lt {w0 : World} {h : Hp} {p : Nat} {st : WS} {S : List Nat} (w : Wr w0 h p st S) : ∀ b, b ∈ S → w0.heap.size ≤ b ∧ b < h.next := by
  obtain ⟨x, T, a, b, c, d, e, rfl, _⟩ := w
  intro i hi
  rcases List.mem_cons.1 hi with rfl | hi
  · exact ⟨b, c⟩
  · exact d.lt i hi
theorem Wr.frame {w0 : World} {h h' : Hp} {p : Nat} {st : WS} {S T T' : List Nat} (w : Wr w0 h p st S) (s : Step h h' T T') (hd : ∀ b, b ∈ S → b ∉ T) : Wr w0 h' p st S := by
  obtain ⟨x, U, a, b, c, d, e, rfl, f⟩ := w
  exact ⟨x, U, by rw [(s.2 p c (hd p (by simp))).1]; exact a, b, by have := s.1; omega, d.frame s (fun i hi => hd i (by simp [hi])), e, rfl, f⟩

theorem NewWriter_spec {w0 : World} {h : Hp} (most : Int) (hm : -9223372036854775808 ≤ most ∧ most ≤ 9223372036854775807) :
    ACalls prog w0 n_codec_NewWriter [.int .i64 most] h fun v h' => v = ptr h.next ∧ Wr w0 h' h.next ⟨max most 0, [], false⟩ [h.next] ∧ Step h h' [] [h.next] := by
  refine ACalls.of_fit (by simp) fun f => c_codec_NewWriter (by simp) ?_
  simp [s_codec_NewWriter]
  refine ⟨rfl, ⟨_, [], by simp, f.base, by simp, .nil, by simp, rfl, by simp; omega, by simp; omega⟩, by simp, fun b hb _ => ?_, fun b hb => ?_⟩
  · have : b ≠ h.next := by omega
    simp [this]
  · simp at hb; subst hb; simp

theorem put_spec {w0 : World} {h : Hp} {p : Nat} {st : WS} {S : List Nat} {ay : Option Addr} {cy : Nat} {l : List UInt8} (w : Wr w0 h p st S) (hs : Src w0.heap.size h 1 (.slice ay l.length cy) l.length (bvs l))
    (hsz : st.bs.length + l.length ≤ 140737488355328) :
    ACalls prog w0 n_codec_Writer_put [ptr p, .slice ay l.length cy] h fun v h' => ∃ S', Wr w0 h' p (st.put l) S' ∧ Step h h' S S' := by
  refine ACalls.of_fit (by simp [ptr]) fun f => c_codec_Writer_put (by simp [ptr]) ?_
  have w2 := w
  obtain ⟨x, T, hb0, hp, hp2, hv, hpT, rfl, hm⟩ := w
  obtain ⟨ax, cx, hx⟩ := hv.slice
  simp [s_codec_Writer_put, ptr, hb0, hx, Nat.not_lt.2 hp]
  refine ⟨fun ho => ⟨_, by simpa [WS.put, ho] using w2, Step.refl _ _ fun b hb => (w2.lt b hb).2⟩, fun ho => ?_⟩
  rw [IntWalk.i64_in _ (by omega), ← hx]
  refine ⟨fun hlt => ⟨hp, ?_⟩, fun hge => ?_⟩
  · exact ⟨p :: T, ⟨x, T, by simp [WS.put, ho, hlt], hp, by simpa using hp2, by simpa [WS.put, ho, hlt] using hv.put hpT _, hpT, rfl, by simpa [WS.put, ho, hlt] using hm⟩, (Step.refl _ _ fun b hb => (w2.lt b hb).2).put (by simp) _⟩
  · have hst : st.put l = { st with bs := st.bs ++ l } := by simp [WS.put, ho]; omega
    refine appA_vec f.base hv (by simp) hs (by simp) (by omega) (by omega) (by omega) (fun x' h' T' hv' s' => ?_)
    have hpT' : p ∉ T' := fun e => by rcases (s'.3 p e).2 with q | q; exact hpT q; omega
    have hpb : h'.blk p = h.blk p := (s'.2 p hp2 hpT).1
    obtain ⟨ax', cx', hx'⟩ := hv'.slice
    simp [hpb, hb0, Nat.not_lt.2 hp, hp, hx', hst]
    rw [← hx']
    have s2 := s'.1
    refine ⟨p :: T', ⟨x', T', by simp, hp, by simp; omega, by simpa using hv'.put hpT' _, hpT', rfl, hm⟩, ?_⟩
    have s3 : Step h h' (p :: T) (p :: T') := s'.wide (fun b hb => by simp [hb]) (fun b hb => by rcases List.mem_cons.1 hb with rfl | hb; exact .inr ⟨by simp, hp2⟩; exact .inl hb)
    exact s3.put (by simp) _

/-! ### Numbers -/
/-- The lowest bytes of a number, the highest first. -/
def be : Nat → Nat → List UInt8
  | 0, _ => []
  | s + 1, n => UInt8.ofNat (n / 256 ^ s) :: be s n
@[simp] theorem be_length (s n : Nat) : (be s n).length = s := by induction s with | zero => rfl | succ s ih => simp [be, ih]
theorem bv_ofNat (n : Nat) : bv (UInt8.ofNat n) = .int .u8 ((n % 256 : Nat) : Int) := by simp [bv]

end Go.Proofs.Ytfhamcobfpmgbaa.Ah
