/- Unframe, the program's and the document's. -/
import Derived.Test.YtihebhdgjnibfaaKf
set_option linter.unusedVariables false
set_option linter.unusedSimpArgs false
namespace Go.Proofs.Ytihebhdgjnibfaa.Ah
open Go

theorem raw_ok {s : List UInt8} {k : Nat} (h : k ≤ s.length) : (⟨s, 0⟩ : RS).raw k = (s.take k, ⟨s.drop k, 0⟩) := by
  simp [RS.raw, show ¬ (k : Int) < 0 by omega, show ¬ s.length < k by omega]
theorem raw_short {s : List UInt8} {k : Nat} (h : s.length < k) : (⟨s, 0⟩ : RS).raw k = ([], ⟨s, 20⟩) := by
  simp [RS.raw, show ¬ (k : Int) < 0 by omega, h]
theorem raw_err {s : List UInt8} {e k : Int} (h : e ≠ 0) : (⟨s, e⟩ : RS).raw k = ([], ⟨s, e⟩) := by
  simp [RS.raw, h]
def unf : List UInt8 → Nat × List UInt8 × Nat × Int
  | b0 :: b1 :: b2 :: b3 :: b4 :: b5 :: b6 :: b7 :: r =>
    if [b0, b1] ≠ [68, 70] ∨ b3 ≠ 0 ∨ 1048576 < rdn [b4, b5, b6, b7] then (0, [], 0, 21)
    else if r.length < rdn [b4, b5, b6, b7] + 4 then (0, [], 0, 20)
    else if crcOf ((b0 :: b1 :: b2 :: b3 :: b4 :: b5 :: b6 :: b7 :: r).take (8 + rdn [b4, b5, b6, b7])) ≠ rdn ((r.drop (rdn [b4, b5, b6, b7])).take 4) then (0, [], 0, 23)
    else (b2.toNat, r.take (rdn [b4, b5, b6, b7]), 12 + rdn [b4, b5, b6, b7], 0)
  | _ => (0, [], 0, 20)
def unfV (u : Nat × List UInt8 × Nat × Int) : Value := .tuple #[.int .u8 (u.1 : Nat), .string (str u.2.1), .int .i64 (u.2.2.1 : Nat), .int .i64 u.2.2.2]
theorem len8 {l : List UInt8} (h : ¬ l.length < 8) : ∃ b0 b1 b2 b3 b4 b5 b6 b7 r, l = b0 :: b1 :: b2 :: b3 :: b4 :: b5 :: b6 :: b7 :: r := by
  match l with
  | b0 :: b1 :: b2 :: b3 :: b4 :: b5 :: b6 :: b7 :: r => exact ⟨b0, b1, b2, b3, b4, b5, b6, b7, r, rfl⟩
  | [] => simp at h
  | [_] => simp at h
  | [_, _] => simp at h
  | [_, _, _] => simp at h
  | [_, _, _, _] => simp at h
  | [_, _, _, _, _] => simp at h
  | [_, _, _, _, _, _] => simp at h
  | [_, _, _, _, _, _, _] => simp at h
theorem unf_short {l : List UInt8} (h : l.length < 8) : unf l = (0, [], 0, 20) := by
  match l with
  | b0 :: b1 :: b2 :: b3 :: b4 :: b5 :: b6 :: b7 :: r => simp at h; omega
  | [] => rfl
  | [_] => rfl
  | [_, _] => rfl
  | [_, _, _] => rfl
  | [_, _, _, _] => rfl
  | [_, _, _, _, _] => rfl
  | [_, _, _, _, _, _] => rfl
  | [_, _, _, _, _, _, _] => rfl
theorem rdn_le (l : List UInt8) : rdn l < 256 ^ l.length := by
  have := rdn_lt l 0 0 (by simp)
  simpa [rdn] using this
theorem rdn_one (b : UInt8) : rdn [b] = b.toNat := by simp [rdn]
theorem str_two (a b : UInt8) : decide (str [a, b] = ⟨#[68, 70]⟩) = decide ([a, b] = [68, 70]) := by
  have : (⟨#[68, 70]⟩ : ByteArray) = str [68, 70] := rfl
  rw [this]
  exact decide_eq_decide.2 str_inj

theorem Unframe_spec {w0 : World} {h : Hp} (l : List UInt8) (hl : l.length ≤ 140737488355328) :
    ACalls prog w0 n_codec_Unframe [.string (str l)] h fun v h' => v = unfV (unf l) ∧ Step h h' [] [] := by
  refine ACalls.of_fit (by simp) fun f => c_codec_Unframe (by simp) ?_
  by_cases h8 : l.length < 8
  · have c1 : decide ((l.length : Int) < 8) = true := decide_eq_true (by omega)
    simp only [s_codec_Unframe, lenStr_string, str_size, pureA_some, binA_lss, c1, condA_true, retA_iff, oneOf_two, unf_short h8]
    exact ⟨by simp, rfl, Step.refl _ _ (by simp)⟩
  have c1 : decide ((l.length : Int) < 8) = false := decide_eq_false (by omega)
  simp only [s_codec_Unframe, lenStr_string, str_size, pureA_some, binA_lss, c1, condA_false]
  refine callA_of (NewReader_spec l hl) fun v h1 ⟨e, r1, s1⟩ f1 => ?_
  subst e
  obtain ⟨b0, b1, b2, b3, b4, b5, b6, b7, r, rfl⟩ := len8 h8
  refine callA_of (RRaw_spec r1 (2 : Nat) (by omega)) fun v h2 ⟨e, r2, s2⟩ f2 => ?_
  subst e
  rw [raw_ok (by simp)] at r2 ⊢
  simp only [List.take_succ_cons, List.take_zero, List.drop_succ_cons, List.drop_zero] at r2 ⊢
  refine callA_of (RU8_spec r2) fun v h3 ⟨e, r3, s3⟩ f3 => ?_
  subst e
  have k1 : (⟨b2 :: b3 :: b4 :: b5 :: b6 :: b7 :: r, 0⟩ : RS).raw 1 = ([b2], ⟨b3 :: b4 :: b5 :: b6 :: b7 :: r, 0⟩) := raw_ok (k := 1) (by simp)
  rw [k1] at r3 ⊢
  refine callA_of (RU8_spec r3) fun v h4 ⟨e, r4, s4⟩ f4 => ?_
  subst e
  have k2 : (⟨b3 :: b4 :: b5 :: b6 :: b7 :: r, 0⟩ : RS).raw 1 = ([b3], ⟨b4 :: b5 :: b6 :: b7 :: r, 0⟩) := raw_ok (k := 1) (by simp)
  rw [k2] at r4 ⊢
  refine callA_of (RU32_spec r4) fun v h5 ⟨e, r5, s5⟩ f5 => ?_
  subst e
  have k3 : (⟨b4 :: b5 :: b6 :: b7 :: r, 0⟩ : RS).raw 4 = ([b4, b5, b6, b7], ⟨r, 0⟩) := raw_ok (k := 4) (by simp)
  rw [k3] at r5 ⊢
  have hn := rdn_le [b4, b5, b6, b7]
  simp only [List.length_cons, List.length_nil] at hn
  simp only [unf]
  generalize hnn : rdn [b4, b5, b6, b7] = n at hn ⊢
  have s05 : Step h h5 [] [h.next] := ((((s1.trans s2).trans s3).trans s4).trans s5)
  have e1 : IntKind.i64.wrap ((n : Nat) : Int) = (n : Int) := IntWalk.i64_in _ (by omega)
  have hz : (b3 = 0) ↔ b3.toNat = 0 := ⟨fun e => by rw [e]; rfl, fun e => UInt8.toNat_inj.1 (by simpa using e)⟩
  simp only [convA_int, pureA_some, e1, binA_strneq, str_two, rdn_one, binA_neq, binA_gtr]
  by_cases hA : [b0, b1] ≠ [68, 70] ∨ b3 ≠ 0 ∨ 1048576 < n
  · rw [if_pos hA]
    have hgo : ∀ (X Y : Hp → Prop), X h5 → (guardA (.bool (!decide ([b0, b1] = [68, 70]))) false (fun K => K (.int .u8 (b3.toNat : Int))) fun v28_10 =>
        guardA (.bool (!decide ([b0, b1] = [68, 70]))) false (pureA (binA .neq v28_10 (.int .u8 0))) fun v29_11 =>
        pickA (.bool (!decide ([b0, b1] = [68, 70]))) (.bool true) v29_11 fun v30_12 =>
        guardA v30_12 false (fun K => K (.int .i64 (n : Int))) fun v32_13 =>
        guardA v30_12 false (pureA (binA .gtr v32_13 (.int .i64 1048576))) fun v33_14 =>
        pickA v30_12 (.bool true) v33_14 fun v34_15 => condA v34_15 X Y) h5 := by
      intro X Y hX
      cases c1 : decide ([b0, b1] = [68, 70]) with
      | false => simp only [Bool.not_false, guardA_tf, pickA_true, condA_true]; exact hX
      | true =>
        have hm := of_decide_eq_true c1
        simp only [Bool.not_true, guardA_ff, pickA_false, binA_neq, pureA_some]
        cases c2 : ((b3.toNat : Int) != 0) with
        | true => simp only [guardA_tf, pickA_true, condA_true]; exact hX
        | false =>
          have h0 : b3.toNat = 0 := by simp at c2; omega
          have hn2 : 1048576 < n := by
            rcases hA with q | q | q
            · exact absurd hm q
            · exact absurd (hz.2 h0) q
            · exact q
          have c3 : decide ((1048576 : Int) < (n : Int)) = true := decide_eq_true (by omega)
          simp only [guardA_ff, pickA_false, binA_gtr, pureA_some, c3, condA_true]; exact hX
    refine hgo _ _ ?_
    simp only [retA_iff, oneOf_two]
    exact ⟨by simp, rfl, s05.less (by simp)⟩
  · rw [if_neg hA]
    have hm : [b0, b1] = [68, 70] := Decidable.not_not.1 fun q => hA (.inl q)
    have h0 : b3.toNat = 0 := hz.1 (Decidable.not_not.1 fun q => hA (.inr (.inl q)))
    have hn2 : ¬ 1048576 < n := fun q => hA (.inr (.inr q))
    have c2 : ((b3.toNat : Int) != 0) = false := by simp; omega
    have c3 : decide ((1048576 : Int) < (n : Int)) = false := decide_eq_false (by omega)
    simp only [decide_eq_true hm, Bool.not_true, guardA_ff, pickA_false, binA_neq, pureA_some, c2, binA_gtr, c3, condA_false]
    refine callA_of (RRaw_spec r5 (n : Int) (by omega)) fun v h6 ⟨e, r6, s6⟩ f6 => ?_
    subst e
    refine callA_of (RU32_spec r6) fun v h7 ⟨e, r7, s7⟩ f7 => ?_
    subst e
    refine callA_of (RErr_spec r7) fun v h8 ⟨e, e2⟩ f8 => ?_
    subst e e2
    have s07 := (s05.trans s6).trans s7
    by_cases hs : r.length < n + 4
    · rw [if_pos hs]
      have he : (((⟨r, 0⟩ : RS).raw (n : Int)).2.raw 4).2.err = 20 := by
        by_cases h9 : r.length < n
        · rw [raw_short h9, raw_err (by omega)]
        · rw [raw_ok (by omega)]
          have := raw_short (s := r.drop n) (k := 4) (by simp; omega)
          exact congrArg (fun x => x.2.err) this
      rw [he]
      simp only [binA_neq, pureA_some, show ((20 : Int) != 0) = true from rfl, condA_true, retA_iff, oneOf_two]
      exact ⟨by simp, rfl, s07.less (by simp)⟩
    · rw [if_neg hs]
      have k4 : (⟨r, 0⟩ : RS).raw (n : Int) = (r.take n, ⟨r.drop n, 0⟩) := raw_ok (by omega)
      have k5 : (⟨r.drop n, 0⟩ : RS).raw 4 = ((r.drop n).take 4, ⟨(r.drop n).drop 4, 0⟩) := raw_ok (k := 4) (by simp; omega)
      rw [k4, k5]
      have e8 : IntKind.i64.wrap ((8 : Int) + (n : Int)) = ((8 + n : Nat) : Int) := by rw [IntWalk.i64_in _ (by omega)]; omega
      have e12 : IntKind.i64.wrap (((8 + n : Nat) : Int) + 4) = ((12 + n : Nat) : Int) := by rw [IntWalk.i64_in _ (by omega)]; omega
      simp only [binA_neq, show ((0 : Int) != 0) = false from rfl, condA_false, binA_add, pureA_some, e8, e12]
      rw [strSlA_take _ _ _ (by simp; omega)]
      simp only [pureA_some]
      refine callA_of (Crc_spec _ (by simp only [List.length_take]; omega)) fun v h9 ⟨e, e2⟩ f9 => ?_
      subst e e2
      simp only [binA_neq, pureA_some]
      by_cases hc : crcOf ((b0 :: b1 :: b2 :: b3 :: b4 :: b5 :: b6 :: b7 :: r).take (8 + n)) = rdn ((r.drop n).take 4)
      · rw [if_neg (fun q => q hc)]
        have c4 : (((crcOf ((b0 :: b1 :: b2 :: b3 :: b4 :: b5 :: b6 :: b7 :: r).take (8 + n)) : Nat) : Int) != ((rdn ((r.drop n).take 4) : Nat) : Int)) = false := by rw [hc]; simp
        simp only [c4, condA_false, binA_add, pureA_some, e8, e12, retA_iff, oneOf_two]
        exact ⟨by simp, rfl, s07.less (by simp)⟩
      · rw [if_pos hc]
        have c4 : (((crcOf ((b0 :: b1 :: b2 :: b3 :: b4 :: b5 :: b6 :: b7 :: r).take (8 + n)) : Nat) : Int) != ((rdn ((r.drop n).take 4) : Nat) : Int)) = true := by simp only [bne_iff_ne, ne_eq]; omega
        simp only [c4, condA_true, retA_iff, oneOf_two]
        exact ⟨by simp, rfl, s07.less (by simp)⟩
theorem rUnframe_spec {w0 : World} {h : Hp} (l : List UInt8) (hl : l.length ≤ 140737488355328) :
    ACalls prog w0 n_dedupref02_Unframe [.string (str l)] h fun v h' => v = unfV (unf l) ∧ h' = h := by
  refine ACalls.of_fit (by simp) fun f => c_dedupref02_Unframe (by simp) ?_
  by_cases h8 : l.length < 8
  · have c1 : decide ((l.length : Int) < 8) = true := decide_eq_true (by omega)
    simp only [s_dedupref02_Unframe, lenStr_string, str_size, pureA_some, binA_lss, c1, condA_true, retA_iff, oneOf_two, unf_short h8]
    exact ⟨by simp, rfl, by trivial⟩
  have c1 : decide ((l.length : Int) < 8) = false := decide_eq_false (by omega)
  obtain ⟨b0, b1, b2, b3, b4, b5, b6, b7, r, rfl⟩ := len8 h8
  have m1 : strSlA (.string (str (b0 :: b1 :: b2 :: b3 :: b4 :: b5 :: b6 :: b7 :: r))) (some (.int .i64 4)) (some (.int .i64 8)) = some (.string (str [b4, b5, b6, b7])) := strSlA_mid _ .i64 .i64 4 8 (by omega) (by simp)
  have m2 : strSlA (.string (str (b0 :: b1 :: b2 :: b3 :: b4 :: b5 :: b6 :: b7 :: r))) none (some (.int .i64 2)) = some (.string (str [b0, b1])) := strSlA_take _ .i64 2 (by simp)
  have m3 : strIdxA (.string (str (b0 :: b1 :: b2 :: b3 :: b4 :: b5 :: b6 :: b7 :: r))) (.int .i64 3) = some (.int .u8 (b3.toNat : Int)) := strIdxA_str _ .i64 3
  have m4 : strIdxA (.string (str (b0 :: b1 :: b2 :: b3 :: b4 :: b5 :: b6 :: b7 :: r))) (.int .i64 2) = some (.int .u8 (b2.toNat : Int)) := strIdxA_str _ .i64 2
  simp only [s_dedupref02_Unframe, lenStr_string, str_size, pureA_some, binA_lss, c1, condA_false, m1]
  refine callA_of (rRead_spec [b4, b5, b6, b7] (by simp)) fun v h1 ⟨e, e2⟩ f1 => ?_
  subst e e2
  have hn := rdn_le [b4, b5, b6, b7]
  simp only [List.length_cons, List.length_nil] at hn
  simp only [unf]
  generalize hnn : rdn [b4, b5, b6, b7] = n at hn ⊢
  have e1 : IntKind.i64.wrap ((n : Nat) : Int) = (n : Int) := IntWalk.i64_in _ (by omega)
  have hz : (b3 = 0) ↔ b3.toNat = 0 := ⟨fun e => by rw [e]; rfl, fun e => UInt8.toNat_inj.1 (by simpa using e)⟩
  simp only [m2, m3, pureA_some, binA_strneq, str_two]
  by_cases hA : [b0, b1] ≠ [68, 70] ∨ b3 ≠ 0 ∨ 1048576 < n
  · rw [if_pos hA]
    cases c1 : decide ([b0, b1] = [68, 70]) with
    | false =>
      simp only [Bool.not_false, guardA_tf, pickA_true, condA_true, retA_iff, oneOf_two]
      exact ⟨by simp, rfl, by trivial⟩
    | true =>
      have hm := of_decide_eq_true c1
      simp only [Bool.not_true, guardA_ff, pickA_false, binA_neq, pureA_some, m3]
      cases c2 : ((b3.toNat : Int) != 0) with
      | true =>
        simp only [guardA_tf, pickA_true, condA_true, retA_iff, oneOf_two]
        exact ⟨by simp, rfl, by trivial⟩
      | false =>
        have h0 : b3.toNat = 0 := by simp at c2; omega
        have hn2 : 1048576 < n := by
          rcases hA with q | q | q
          · exact absurd hm q
          · exact absurd (hz.2 h0) q
          · exact q
        have c3 : decide ((1048576 : Int) < (n : Int)) = true := decide_eq_true (by omega)
        simp only [guardA_ff, pickA_false, binA_gtr, pureA_some, c3, condA_true, retA_iff, oneOf_two]
        exact ⟨by simp, rfl, by trivial⟩
  · rw [if_neg hA]
    have hm : [b0, b1] = [68, 70] := Decidable.not_not.1 fun q => hA (.inl q)
    have h0 : b3.toNat = 0 := hz.1 (Decidable.not_not.1 fun q => hA (.inr (.inl q)))
    have hn2 : ¬ 1048576 < n := fun q => hA (.inr (.inr q))
    have c2 : ((b3.toNat : Int) != 0) = false := by simp; omega
    have c3 : decide ((1048576 : Int) < (n : Int)) = false := decide_eq_false (by omega)
    have e12 : IntKind.i64.wrap ((12 : Int) + (n : Int)) = ((12 + n : Nat) : Int) := by rw [IntWalk.i64_in _ (by omega)]; omega
    have e8 : IntKind.i64.wrap (((12 + n : Nat) : Int) - 4) = ((8 + n : Nat) : Int) := by rw [IntWalk.i64_in _ (by omega)]; omega
    simp only [decide_eq_true hm, Bool.not_true, guardA_ff, pickA_false, binA_neq, pureA_some, m3, c2, binA_gtr, c3, condA_false, convA_int, e1, binA_add, e12, lenStr_string, str_size, binA_lss]
    by_cases hs : r.length < n + 4
    · rw [if_pos hs]
      have c5 : decide (((b0 :: b1 :: b2 :: b3 :: b4 :: b5 :: b6 :: b7 :: r).length : Int) < ((12 + n : Nat) : Int)) = true := decide_eq_true (by simp only [List.length_cons]; omega)
      simp only [c5, condA_true, retA_iff, oneOf_two]
      exact ⟨by simp, rfl, by trivial⟩
    · rw [if_neg hs]
      have c5 : decide (((b0 :: b1 :: b2 :: b3 :: b4 :: b5 :: b6 :: b7 :: r).length : Int) < ((12 + n : Nat) : Int)) = false := decide_eq_false (by simp only [List.length_cons]; omega)
      have m5 := strSlA_mid (b0 :: b1 :: b2 :: b3 :: b4 :: b5 :: b6 :: b7 :: r) .i64 .i64 (8 + n) (12 + n) (by omega) (by simp only [List.length_cons]; omega)
      have m6 := strSlA_take (b0 :: b1 :: b2 :: b3 :: b4 :: b5 :: b6 :: b7 :: r) .i64 (8 + n) (by simp only [List.length_cons]; omega)
      have m7 : strSlA (.string (str (b0 :: b1 :: b2 :: b3 :: b4 :: b5 :: b6 :: b7 :: r))) (some (.int .i64 8)) (some (.int .i64 ((8 + n : Nat) : Int))) = _ := strSlA_mid (b0 :: b1 :: b2 :: b3 :: b4 :: b5 :: b6 :: b7 :: r) .i64 .i64 8 (8 + n) (by omega) (by simp only [List.length_cons]; omega)
      have q5 : ((b0 :: b1 :: b2 :: b3 :: b4 :: b5 :: b6 :: b7 :: r).take (12 + n)).drop (8 + n) = (r.drop n).take 4 := by
        rw [List.drop_take, show 12 + n - (8 + n) = 4 by omega, Nat.add_comm 8 n]
        rfl
      have q7 : ((b0 :: b1 :: b2 :: b3 :: b4 :: b5 :: b6 :: b7 :: r).take (8 + n)).drop 8 = r.take n := by
        rw [List.drop_take, show 8 + n - 8 = n by omega]
        rfl
      rw [q5] at m5
      rw [q7] at m7
      simp only [c5, condA_false, pureQ_k, pureQ_pureA, binA_sub, pureA_some, e8, m5, m6, allA_one, stillA_iff, allA_nil, true_and]
      refine callA_of (rRead_spec _ (by simp only [List.length_take]; omega)) fun v h1 ⟨e, e2⟩ f1 => ?_
      subst e e2
      simp only [stillA_iff, allA_nil, true_and, allA_one]
      refine callA_of (rCrc_spec _ (by simp only [List.length_take]; omega)) fun v h1 ⟨e, e2⟩ f1 => ?_
      subst e e2
      simp only [stillA_iff, allA_nil, true_and, allA_one]
      have hcl := crcOf_lt ((b0 :: b1 :: b2 :: b3 :: b4 :: b5 :: b6 :: b7 :: r).take (8 + n))
      have e9 : IntKind.u64.wrap ((crcOf ((b0 :: b1 :: b2 :: b3 :: b4 :: b5 :: b6 :: b7 :: r).take (8 + n)) : Nat) : Int) = ((crcOf ((b0 :: b1 :: b2 :: b3 :: b4 :: b5 :: b6 :: b7 :: r).take (8 + n)) : Nat) : Int) := IntWalk.u64_in _ (by omega)
      simp only [pureQ_pureA, convA_int, pureA_some, e9, binA_neq, endA_iff]
      by_cases hc : crcOf ((b0 :: b1 :: b2 :: b3 :: b4 :: b5 :: b6 :: b7 :: r).take (8 + n)) = rdn ((r.drop n).take 4)
      · rw [if_neg (fun q => q hc)]
        have c4 : (((rdn ((r.drop n).take 4) : Nat) : Int) != ((crcOf ((b0 :: b1 :: b2 :: b3 :: b4 :: b5 :: b6 :: b7 :: r).take (8 + n)) : Nat) : Int)) = false := by rw [hc]; simp
        simp only [c4, condA_false, pureQ_k, pureQ_pureA, m4, pureA_some, binA_sub, e8, m7, endA_iff, retA_iff, oneOf_two]
        exact ⟨by simp, rfl, by trivial⟩
      · rw [if_pos hc]
        have c4 : (((rdn ((r.drop n).take 4) : Nat) : Int) != ((crcOf ((b0 :: b1 :: b2 :: b3 :: b4 :: b5 :: b6 :: b7 :: r).take (8 + n)) : Nat) : Int)) = true := by simp only [bne_iff_ne, ne_eq]; omega
        simp only [c4, condA_true, retA_iff, oneOf_two]
        exact ⟨by simp, rfl, by trivial⟩
end Go.Proofs.Ytihebhdgjnibfaa.Ah
