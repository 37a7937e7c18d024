/- CodecShortest: the walk. -/
import Derived.Test.YtilofpnhpeammaaKvi
set_option linter.unusedVariables false
set_option linter.unusedSimpArgs false
namespace Go.Proofs.Ytilofpnhpeammaa.Ah
open Go

theorem put_vi20 {n : Nat} (hn : n < 18446744073709551616) : (⟨20, [], false⟩ : WS).put (vi n) = ⟨20, vi n, false⟩ := by
  have := vi_10 hn
  simp [WS.put]; omega
theorem short_le {w0 : World} {h : Hp} (a b : Nat) (hab : a ≤ b) (hb : b < 18446744073709551616) (l : List UInt8) (hl : l.length ≤ 70368744177664) :
    s_deduplaw02_CodecShortest prog w0 (.int .u64 a) (.int .u64 b) (.string (str l)) (fun v h' => v = .bool true) h := by
  have ha : a < 18446744073709551616 := by omega
  have cab : decide ((b : Int) < (a : Int)) = false := decide_eq_false (by omega)
  have ha10 := vi_10 ha
  have hb10 := vi_10 hb
  have hap := vi_pos a
  have hbp := vi_pos b
  have hmono := vi_mono b a hab
  refine callA_of awake02_spec fun v h0 ⟨e, s0⟩ f0 => ?_
  subst e
  simp only [unA_not, Bool.not_true, pureA_some, condA_false, binA_gtr, cab]
  refine callA_of (NewWriter_spec 20 (by omega)) fun v h1 ⟨e, w1, s1⟩ f1 => ?_
  subst e
  refine callA_of (NewWriter_spec 20 (by omega)) fun v h2 ⟨e, u2, s2⟩ f2 => ?_
  subst e
  rw [show max (20 : Int) 0 = 20 from rfl] at w1 u2
  have w2 := w1.frame s2 (by simp)
  have hn1 := (w1.lt h0.next (by simp)).2
  simp only [binPtr_ptr, pureA_some, guardA_ff, pickA_false, condA_false]
  refine callA_of (Varint_spec a ha w2 (by simp)) fun v h3 ⟨S3, w3, s3⟩ f3 => ?_
  rw [put_vi20 ha] at w3
  have u3 := u2.frame s3 (by simp; omega)
  refine callA_of (Varint_spec b hb u3 (by simp)) fun v h4 ⟨T4, u4, s4⟩ f4 => ?_
  rw [put_vi20 hb] at u4
  have w4 := w3.frame s4 (by
    intro i hi
    have h5 := (w3.lt i hi)
    have h6 := (s3.3 i hi)
    simp
    rintro rfl
    rcases h6.2 with q | q
    · simp at q; omega
    · have := (u2.lt h1.next (by simp)).2; omega)
  refine callA_of (WDone_spec w4) fun v h5 ⟨e, e2⟩ f5 => ?_
  subst e e2
  simp only [extA_tuple, List.getElem?_toArray, List.getElem?_cons_zero, List.getElem?_cons_succ, pureA_some]
  refine callA_of (WDone_spec u4) fun v h5 ⟨e, e2⟩ f5 => ?_
  subst e e2
  have o1 : (⟨20, vi a, false⟩ : WS).out = vi a := rfl
  have o2 : (⟨20, vi b, false⟩ : WS).out = vi b := rfl
  have o3 : (⟨20, vi a, false⟩ : WS).err = 0 := rfl
  have o4 : (⟨20, vi b, false⟩ : WS).err = 0 := rfl
  have c1 : decide (((vi a).length : Int) < 1) = false := decide_eq_false (by omega)
  have c2 : decide (((vi b).length : Int) < ((vi a).length : Int)) = false := decide_eq_false (by omega)
  have c3 : decide ((10 : Int) < ((vi b).length : Int)) = false := decide_eq_false (by omega)
  have z0 : ((0 : Int) != 0) = false := rfl
  simp only [o1, o2, o3, o4, extA_tuple, List.getElem?_toArray, List.getElem?_cons_zero, List.getElem?_cons_succ, pureA_some, binA_neq, z0, guardA_ff, pickA_false, lenStr_string, str_size, binA_lss, binA_gtr, c1, c2, c3, condA_false]
  rw [strA_add _ _ (by simp; omega)]
  simp only [pureA_some, str_append]
  refine callA_of (NewReader_spec (vi b ++ l) (by simp; omega)) fun v h6 ⟨e, r6, s6⟩ f6 => ?_
  subst e
  have e1 : IntKind.i64.wrap (((vi b).length : Int) - 1) = (((vi b).length - 1 : Nat) : Int) := by rw [IntWalk.i64_in _ (by omega)]; omega
  simp only [binA_sub, pureA_some, e1]
  rw [strSlA_take _ _ _ (by omega)]
  simp only [pureA_some]
  refine callA_of (NewReader_spec ((vi b).take ((vi b).length - 1)) (by simp; omega)) fun v h7 ⟨e, q7, s7⟩ f7 => ?_
  subst e
  have r7 := r6.frame s7 (by simp)
  simp only [binPtr_ptr, pureA_some, guardA_ff, pickA_false]
  refine callA_of (RVarint_spec r7) fun v h8 ⟨e, r8, s8⟩ f8 => ?_
  subst e
  have hv : (⟨vi b ++ l, 0⟩ : RS).varint = (b, ⟨l, 0⟩) := by simp [RS.varint, shp_vi l b 0 0 (by omega) (by simp)]
  have q8 := q7.frame s8 (by have := r6.2.2.1; simp; omega)
  have zb : (((b : Nat) : Int) != ((b : Nat) : Int)) = false := by simp
  rw [hv] at r8 ⊢
  simp only [binA_neq, zb, pureA_some, pickA_false, guardA_ff]
  refine callA_of (RLeft_spec r8) fun v h9 ⟨e, e2⟩ f9 => ?_
  subst e e2
  have hl2 : (⟨l, 0⟩ : RS).left = l.length := rfl
  have zl : ((l.length : Int) != (l.length : Int)) = false := by simp
  simp only [hl2, lenStr_string, str_size, binA_neq, pureA_some, zl, guardA_ff, pickA_false, condA_false]
  refine callA_of (RVarint_spec q8) fun v h10 ⟨e, q10, s10⟩ f10 => ?_
  subst e
  have hv2 : (⟨(vi b).take ((vi b).length - 1), 0⟩ : RS).varint = (0, ⟨(vi b).take ((vi b).length - 1), 20⟩) := by simp [RS.varint, shp_cut b 0 0 (by omega)]
  rw [hv2] at q10 ⊢
  simp only [binA_eql, pureA_some, show (((0 : Nat) : Int) == 0) = true from rfl, guardA_tt]
  refine callA_of (RErr_spec q10) fun v h11 ⟨e, e2⟩ f11 => ?_
  subst e e2
  simp only [binA_eql, pureA_some, show ((20 : Int) == 20) = true from rfl, guardA_tt, pickA_true, retA_iff, oneOf_one]
  simp
theorem CodecShortest_spec {w0 : World} {h : Hp} (a b : Nat) (ha : a < 18446744073709551616) (hb : b < 18446744073709551616) (l : List UInt8) (hl : l.length ≤ 70368744177664) :
    ACalls prog w0 n_deduplaw02_CodecShortest [.int .u64 a, .int .u64 b, .string (str l)] h fun v h' => v = .bool true := by
  refine c_deduplaw02_CodecShortest (by simp) ?_
  by_cases hab : a ≤ b
  · exact short_le a b hab hb l hl
  · have := short_le (w0 := w0) (h := h) b a (by omega) ha l hl
    refine ACalls.mono this fun v h' hv => ?_
    have c1 : decide ((b : Int) < (a : Int)) = true := decide_eq_true (by omega)
    have c2 : decide ((a : Int) < (b : Int)) = false := decide_eq_false (by omega)
    cases v with
    | bool q =>
      cases q with
      | true => simpa only [unA_not, Bool.not_true, pureA_some, condA_false, condA_true, binA_gtr, c1, c2] using hv
      | false => simpa only [unA_not, Bool.not_false, pureA_some, condA_false, condA_true, binA_gtr, c1, c2] using hv
    | _ => simp [unA] at hv
end Go.Proofs.Ytilofpnhpeammaa.Ah
