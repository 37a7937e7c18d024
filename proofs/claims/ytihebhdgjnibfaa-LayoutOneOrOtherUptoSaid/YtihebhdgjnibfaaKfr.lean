/- Frame, the program's and the document's. -/
import Derived.Test.YtihebhdgjnibfaaKnum
set_option linter.unusedVariables false
set_option linter.unusedSimpArgs false
namespace Go.Proofs.Ytihebhdgjnibfaa.Ah
open Go

theorem put_ok {m : Int} {bs l : List UInt8} (h : (bs.length : Int) + l.length ≤ m) : (⟨m, bs, false⟩ : WS).put l = ⟨m, bs ++ l, false⟩ := by
  simp [WS.put]; omega
def frame0 (k : Nat) (b : List UInt8) : List UInt8 := [68, 70] ++ be 1 k ++ be 1 0 ++ be 4 b.length ++ b
def frame (k : Nat) (b : List UInt8) : List UInt8 := frame0 k b ++ be 4 (crcOf (frame0 k b))
@[simp] theorem frame0_length (k : Nat) (b : List UInt8) : (frame0 k b).length = 8 + b.length := by simp [frame0]; omega
theorem Frame_spec {w0 : World} {h : Hp} (k : Nat) (hk : k < 256) (b : List UInt8) (hb : b.length ≤ 70368744177664) :
    ACalls prog w0 n_codec_Frame [.int .u8 k, .string (str b)] h fun v h' =>
      v = (if 1048576 < b.length then .tuple #[.string .empty, .int .i64 3] else .tuple #[.string (str (frame k b)), .int .i64 0]) ∧ Step h h' [] [] := by
  refine ACalls.of_fit (by simp) fun f => c_codec_Frame (by simp) ?_
  simp only [s_codec_Frame, lenStr_string, str_size, pureA_some, binA_gtr]
  by_cases hl : 1048576 < b.length
  · have c1 : decide ((1048576 : Int) < (b.length : Int)) = true := decide_eq_true (by omega)
    simp only [c1, condA_true, retA_iff, oneOf_two, if_pos hl]
    exact ⟨by simp, by trivial, Step.refl _ _ (by simp)⟩
  · have c1 : decide ((1048576 : Int) < (b.length : Int)) = false := decide_eq_false (by omega)
    have e8 : IntKind.i64.wrap (8 + (b.length : Int)) = 8 + (b.length : Int) := IntWalk.i64_in _ (by omega)
    have e12 : IntKind.i64.wrap (8 + (b.length : Int) + 4) = 12 + (b.length : Int) := by rw [IntWalk.i64_in _ (by omega)]; omega
    simp only [c1, condA_false, binA_add, pureA_some, e8, e12, if_neg hl]
    refine callA_of (NewWriter_spec _ (by omega)) fun v h1 ⟨e, w1, s1⟩ f1 => ?_
    subst e
    rw [show max (12 + (b.length : Int)) 0 = 12 + (b.length : Int) by omega] at w1
    refine callA_of (WRaw_spec [68, 70] (by simp) w1 (by simp)) fun v h2 ⟨S2, w2, s2⟩ f2 => ?_
    rw [put_ok (by simp; omega)] at w2
    refine callA_of (U8_spec k hk w2 (by simp)) fun v h3 ⟨S3, w3, s3⟩ f3 => ?_
    rw [put_ok (by simp; omega)] at w3
    refine callA_of (U8_spec 0 (by omega) w3 (by simp)) fun v h4 ⟨S4, w4, s4⟩ f4 => ?_
    rw [put_ok (by simp; omega)] at w4
    have e32 : IntKind.u32.wrap (b.length : Int) = (b.length : Int) := IntWalk.u32_in _ (by omega)
    simp only [convA_int, pureA_some, e32]
    refine callA_of (U32_spec b.length w4 (by simp)) fun v h5 ⟨S5, w5, s5⟩ f5 => ?_
    rw [put_ok (by simp; omega)] at w5
    refine callA_of (WRaw_spec b hb w5 (by simp; omega)) fun v h6 ⟨S6, w6, s6⟩ f6 => ?_
    rw [put_ok (by simp)] at w6
    have hfr : [] ++ [68, 70] ++ be 1 k ++ be 1 0 ++ be 4 b.length ++ b = frame0 k b := by simp [frame0]
    rw [hfr] at w6
    refine callA_of (WDone_spec w6) fun v h7 ⟨e, e2⟩ f7 => ?_
    subst e e2
    have o1 : (⟨12 + (b.length : Int), frame0 k b, false⟩ : WS).out = frame0 k b := rfl
    simp only [extA_tuple, List.getElem?_toArray, List.getElem?_cons_zero, List.getElem?_cons_succ, pureA_some, o1]
    refine callA_of (Crc_spec (frame0 k b) (by simp; omega)) fun v h8 ⟨e, e2⟩ f8 => ?_
    subst e e2
    refine callA_of (U32_spec (crcOf (frame0 k b)) w6 (by simp; omega)) fun v h9 ⟨S9, w9, s9⟩ f9 => ?_
    rw [put_ok (by simp; omega)] at w9
    refine callA_of (WDone_spec w9) fun v h10 ⟨e, e2⟩ f10 => ?_
    subst e e2
    have o2 : (⟨12 + (b.length : Int), frame0 k b ++ be 4 (crcOf (frame0 k b)), false⟩ : WS).out = frame k b := rfl
    have o3 : (⟨12 + (b.length : Int), frame0 k b ++ be 4 (crcOf (frame0 k b)), false⟩ : WS).err = 0 := rfl
    simp only [extA_tuple, List.getElem?_toArray, List.getElem?_cons_zero, List.getElem?_cons_succ, pureA_some, o2, o3, retA_iff, oneOf_two]
    exact ⟨by simp, by trivial, (((((((s1.trans s2).trans s3).trans s4).trans s5).trans s6).trans s9).less (by simp))⟩
theorem rFrame_spec {w0 : World} {h : Hp} (k : Nat) (hk : k < 256) (b : List UInt8) (hb : b.length ≤ 70368744177664) :
    ACalls prog w0 n_dedupref02_Frame [.int .u8 k, .string (str b)] h fun v h' =>
      v = (if 1048576 < b.length then .tuple #[.string .empty, .int .i64 3] else .tuple #[.string (str (frame k b)), .int .i64 0]) ∧ Step h h' [] [] := by
  refine ACalls.of_fit (by simp) fun f => c_dedupref02_Frame (by simp) ?_
  simp only [s_dedupref02_Frame, lenStr_string, str_size, pureA_some, binA_gtr]
  by_cases hl : 1048576 < b.length
  · have c1 : decide ((1048576 : Int) < (b.length : Int)) = true := decide_eq_true (by omega)
    simp only [c1, condA_true, retA_iff, oneOf_two, if_pos hl]
    exact ⟨by simp, by trivial, Step.refl _ _ (by simp)⟩
  · have c1 : decide ((1048576 : Int) < (b.length : Int)) = false := decide_eq_false (by omega)
    have e8 : IntKind.u64.wrap (b.length : Int) = (b.length : Int) := IntWalk.u64_in _ (by omega)
    have kb : (.int .u8 (k : Int) : Value) = bv (UInt8.ofNat k) := by rw [bv_ofNat, Nat.mod_eq_of_lt hk]
    have zb : (.int .u8 0 : Value) = bv 0 := rfl
    have hDF : (⟨#[68, 70]⟩ : ByteArray) = str [68, 70] := rfl
    have hfr : [68, 70] ++ [UInt8.ofNat k, 0] ++ be 4 b.length ++ b = frame0 k b := by simp [frame0, be]
    have fin : ∀ h1, Step h h1 [] [] → (callA prog w0 n_dedupref02_Crc [.string (str (frame0 k b))] fun v23_15 =>
        pureA (convA .u64 v23_15) fun v24_16 =>
        callA prog w0 n_dedupref02_Number [v24_16, (.int .i64 4)] fun v25_17 =>
        pureA (binA .add (.string (str (frame0 k b))) v25_17) fun v26_18 =>
        retA [v26_18, (.int .i64 0)] fun v h' => v = .tuple #[.string (str (frame k b)), .int .i64 0] ∧ Step h h' [] []) h1 := by
      intro h1 s1
      refine callA_of (rCrc_spec _ (by simp; omega)) fun v h2 ⟨e, e2⟩ f2 => ?_
      subst e e2
      have hc := crcOf_lt (frame0 k b)
      have e9 : IntKind.u64.wrap ((crcOf (frame0 k b) : Nat) : Int) = ((crcOf (frame0 k b) : Nat) : Int) := IntWalk.u64_in _ (by omega)
      simp only [convA_int, pureA_some, e9]
      refine callA_of (rNumber_spec _ 4 (by omega)) fun v h3 ⟨e, s3⟩ f3 => ?_
      subst e
      rw [strA_add _ _ (by simp; omega)]
      simp only [pureA_some, str_append, retA_iff, oneOf_two]
      exact ⟨by simp, rfl, s1.trans s3⟩
    simp only [c1, condA_false, fpureQ_k, fpureQ_pureA, pureA_some, lenStr_string, str_size, convA_int, e8, if_neg hl, freadQ_b2sA, fendA, allA_cons, allA_one]
    constructor
    · simp [kb, zb, zerosL, stillA, sameQ]
      refine b2sA_of (l := [UInt8.ofNat k, 0]) (src_new f.base (by simp)) ?_
      rw [hDF, strA_add _ _ (by simp)]
      simp only [str_append, pureA_some, allA_one]
      have s1 : Step h (h.new [bv (UInt8.ofNat k), bv 0] 1) [] [] := ((Step.refl h [] (by simp)).new _ _).less (by simp)
      refine callA_of (rNumber_spec _ 4 (by omega)) fun v h2 ⟨e, s2⟩ f2 => ?_
      subst e
      have hb2 : h2.blk h.next = some (bvs [UInt8.ofNat k, 0]) := by rw [(s2.2 h.next (by simp) (by simp)).1]; simp
      simp only [stillA_iff, allA_one, sameQ_iff]
      refine ⟨b2sA_of (l := [UInt8.ofNat k, 0]) (src_whole f.base hb2 (by simp)) ⟨rfl, rfl⟩, ?_⟩
      rw [strA_add _ _ (by simp)]
      simp only [str_append, pureA_some]
      rw [strA_add _ _ (by simp; omega)]
      simp only [str_append, pureA_some, hfr]
      exact fin h2 (s1.trans s2)
    · refine callA_of (rNumber_spec _ 4 (by omega)) fun v h2 ⟨e, s2⟩ f2 => ?_
      subst e
      simp [kb, zb, zerosL, stillA, sameQ]
      refine b2sA_of (l := [UInt8.ofNat k, 0]) (src_new f2.base (by simp)) ?_
      rw [hDF, strA_add _ _ (by simp)]
      simp only [str_append, pureA_some]
      rw [strA_add _ _ (by simp)]
      simp only [str_append, pureA_some]
      rw [strA_add _ _ (by simp; omega)]
      simp only [str_append, pureA_some, hfr]
      exact fin _ (s2.trans (((Step.refl h2 [] (by simp)).new _ _).less (by simp)))
end Go.Proofs.Ytihebhdgjnibfaa.Ah
