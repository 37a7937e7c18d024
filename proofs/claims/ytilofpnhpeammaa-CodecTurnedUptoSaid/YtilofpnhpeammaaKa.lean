/- deduplaw02.awake: true. -/
import Derived.Test.YtilofpnhpeammaaKc
import Derived.Test.YtilofpnhpeammaaGlaw02
set_option linter.unusedVariables false
set_option linter.unusedSimpArgs false
namespace Go.Proofs.Ytilofpnhpeammaa.Ah
open Go

theorem vi300 : vi 300 = [172, 2] := by
  unfold vi; rw [dif_neg (by omega)]; unfold vi; rw [dif_pos (by omega)]; rfl
theorem vi2 : vi 2 = [2] := by unfold vi; rw [dif_pos (by omega)]; rfl
theorem binPtr_ptr (p : Nat) : binPtrA .eql (ptr p) (.pointer none) = some (.bool false) := rfl
@[simp] theorem ptr_junk (p : Nat) : ¬ (ptr p = junk) := by simp [ptr]
theorem binA_strneq (a b : ByteArray) : binA .neq (.string a) (.string b) = some (.bool (!decide (a = b))) := by
  simp only [binA, strA]
  congr 2
  by_cases h : a = b
  · subst h; simp
  · simp [h, toList_eq]
theorem binA_streql (a b : ByteArray) : binA .eql (.string a) (.string b) = some (.bool (decide (a = b))) := by
  simp only [binA, strA]
  congr 2
  by_cases h : a = b
  · subst h; simp
  · simp [h, toList_eq]

theorem awake02_spec {w0 : World} {h : Hp} : ACalls prog w0 n_deduplaw02_awake [] h fun v h' => v = .bool true ∧ Step h h' [] [] := by
  refine ACalls.of_fit (by simp) fun f => c_deduplaw02_awake (by simp) ?_
  refine callA_of (NewWriter_spec 100 (by omega)) fun v h1 ⟨e, w1, s1⟩ f1 => ?_
  subst e
  rw [show max (100 : Int) 0 = 100 from rfl] at w1
  simp only [binPtr_ptr, pureA_some, guardA_ff]
  refine callA_of (Crc_spec [49, 50, 51, 52, 53, 54, 55, 56, 57] (by simp)) fun v h2 ⟨e, e2⟩ f2 => ?_
  subst e e2
  have hc : crcOf [49, 50, 51, 52, 53, 54, 55, 56, 57] = 3808858755 := by kernel_rfl
  rw [hc]
  simp only [binA_neq, pureA_some, guardA_ff, pickA_false, show (((3808858755 : Nat) : Int) != 3808858755) = false from rfl, condA_false]
  refine callA_of (Varint_spec 300 (by omega) w1 (by simp)) fun v h3 ⟨S3, w3, s3⟩ f3 => ?_
  refine callA_of (Text_spec [97, 98] (by simp) w3 (by simp [WS.put, vi300])) fun v h4 ⟨S4, w4, s4⟩ f4 => ?_
  refine callA_of (WDone_spec w4) fun v h5 ⟨e, e2⟩ f5 => ?_
  subst e e2
  have ho : (((⟨100, [], false⟩ : WS).put (vi 300)).put (vi ([97, 98] : List UInt8).length ++ [97, 98])).out = [172, 2, 2, 97, 98] := by simp [vi300, vi2, WS.put, WS.out]
  have he : (((⟨100, [], false⟩ : WS).put (vi 300)).put (vi ([97, 98] : List UInt8).length ++ [97, 98])).err = 0 := by simp [vi300, vi2, WS.put, WS.err]
  rw [ho, he]
  simp only [extA_tuple, List.getElem?_toArray, List.getElem?_cons_zero, List.getElem?_cons_succ, pureA_some]
  refine callA_of (NewReader_spec [172, 2, 2, 97, 98] (by simp)) fun v h6 ⟨e, w6, s6⟩ f6 => ?_
  subst e
  have hs : (str [172, 2, 2, 97, 98]) = ⟨#[172, 2, 2, 97, 98]⟩ := rfl
  simp only [binPtr_ptr, pureA_some, guardA_ff, binA_strneq, hs, decide_true, Bool.not_true, pickA_false, binA_neq, show ((0 : Int) != 0) = false from rfl, condA_false]
  refine callA_of (RVarint_spec w6) fun v h7 ⟨e, w7, s7⟩ f7 => ?_
  subst e
  have hv : (⟨[172, 2, 2, 97, 98], 0⟩ : RS).varint = (300, ⟨[2, 97, 98], 0⟩) := by simp [RS.varint, shp]
  rw [hv] at w7 ⊢
  simp only [binA_eql, pureA_some, show (((300 : Nat) : Int) == 300) = true from rfl, guardA_tt]
  refine callA_of (RText_spec w7) fun v h8 ⟨e, w8, s8⟩ f8 => ?_
  subst e
  have ht : (⟨[2, 97, 98], 0⟩ : RS).text = ([97, 98], ⟨[], 0⟩) := by simp [RS.text, RS.varint, shp, RS.raw]
  rw [ht] at w8 ⊢
  have hs2 : (str [97, 98]) = ⟨#[97, 98]⟩ := rfl
  simp only [binA_streql, hs2, decide_true, pureA_some, pickA_true, guardA_tt]
  refine callA_of (RDone_spec w8) fun v h9 ⟨e, e2⟩ f9 => ?_
  subst e e2
  have hd : (⟨[], 0⟩ : RS).done = 0 := by simp [RS.done]
  rw [hd]
  simp only [binA_eql, pureA_some, show ((0 : Int) == 0) = true from rfl, guardA_tt, pickA_true, retA_iff, oneOf_one]
  refine ⟨by simp, trivial, ?_⟩
  have t1 := ((s1.trans s3).trans s4).less (T := []) (by simp)
  have t2 := (((s6.trans s7).trans s8).less (T := []) (by simp))
  exact t1.trans t2
end Go.Proofs.Ytilofpnhpeammaa.Ah
