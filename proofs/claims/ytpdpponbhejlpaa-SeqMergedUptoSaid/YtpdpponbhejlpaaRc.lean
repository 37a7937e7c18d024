/- SeqMerges, SeqMerged: the walks. -/
import Derived.Test.YtpdpponbhejlpaaRxb
import Derived.Test.YtpdpponbhejlpaaSxm
set_option linter.unusedVariables false
set_option linter.unusedSimpArgs false
namespace Go.Proofs.Ytpdpponbhejlpaa.Ah
open Go
theorem srt_id {l : List Itm} (s : Srt l) : srt l = l := by
  have : ∀ (l acc : List Itm), Srt (acc ++ l) → srtO acc l = acc ++ l := by
    intro l
    induction l with
    | nil => intro acc _; simp [srtO]
    | cons x l ih =>
      intro acc h
      have ha : above acc x = true := by
        unfold above
        split
        · rfl
        · rename_i y e
          exact (List.pairwise_append.1 h).2.2 y (List.mem_of_getLast? e) x (by simp)
      rw [srtO, if_pos ha, ih (acc ++ [x]) (by simpa using h)]
      simp
  exact this l [] (by simpa using s)
/-- Merged parts. -/
theorem IsM.parts {A B C ab out : List Itm} (h1 : IsM [A, B] ab) (h2 : IsM [ab, C] out) : IsM [A, B, C] out := by
  refine ⟨h2.srt, fun x hx => ?_, fun m l y hm hy => ?_⟩
  · obtain ⟨n, l, e1, e2, e3⟩ := h2.sub x hx
    match n, e1, e3 with
    | 0, e1, e3 =>
      simp at e1
      subst e1
      obtain ⟨n, l, k1, k2, k3⟩ := h1.sub x e2
      match n, k1, k3 with
      | 0, k1, k3 => exact ⟨0, l, by simpa using k1, k2, fun m l' hm => by omega⟩
      | 1, k1, k3 =>
        refine ⟨1, l, by simpa using k1, k2, fun m l' hm hl => ?_⟩
        have : m = 0 := by omega
        subst this
        exact k3 0 l' (by omega) (by simpa using hl)
      | n + 2, k1, k3 => simp at k1
    | 1, e1, e3 =>
      simp at e1
      subst e1
      refine ⟨2, C, rfl, e2, fun m l' hm hl y hy e => ?_⟩
      have hl2 : [A, B][m]? = some l' := by
        match m, hm, hl with
        | 0, _, hl => simpa using hl
        | 1, _, hl => simpa using hl
      obtain ⟨o, ho, e'⟩ := h1.all m l' y hl2 hy
      exact e3 0 ab (by omega) rfl o ho (by rw [e', e])
    | n + 2, e1, e3 => simp at e1
  · have key : ∀ (l : List Itm) (m : Nat), [A, B][m]? = some l → y ∈ l → ∃ o, o ∈ out ∧ o.1 = y.1 := by
      intro l m hl hy
      obtain ⟨o, ho, e⟩ := h1.all m l y hl hy
      obtain ⟨o', ho', e'⟩ := h2.all 0 ab o rfl ho
      exact ⟨o', ho', by rw [e', e]⟩
    match m, hm with
    | 0, hm => exact key l 0 (by simpa using hm) hy
    | 1, hm => exact key l 1 (by simpa using hm) hy
    | 2, hm =>
      simp at hm
      subst hm
      exact h2.all 1 C y rfl hy
    | n + 3, hm => simp at hm
theorem IsM.twice {l : List Itm} (s : Srt l) : IsM [l, l] l := by
  refine ⟨s, fun x hx => ⟨0, l, rfl, hx, fun m l' hm => by omega⟩, fun m l' y hm hy => ?_⟩
  match m, hm with
  | 0, hm => simp at hm; subst hm; exact ⟨y, hy, rfl⟩
  | 1, hm => simp at hm; subst hm; exact ⟨y, hy, rfl⟩
  | n + 2, hm => simp at hm
section
variable {w0 : World} {h h' : Hp}
/-- Lists are laid side by side. -/
theorem mkLs {ps : List (Value × List Itm)} (f : Fit w0 h) (hn : ps.length < 1000000) (hs : ∀ p, p ∈ ps → Is w0 h p.1 p.2) : Ls w0 (h.new (ps.map (·.1)) 1) (.slice (some ⟨h.next, 0, none⟩) ps.length ps.length) ps := by
  refine ⟨(GV.new (s := 1) f.base (by simp) (by unfold ucap; omega)).sl, fun p hp => (hs p hp).step f ((Step.refl h [] (by simp)).new _ _) (by simp)⟩
theorem cell_sl {s n : Nat} {x : Value} {ys : List Value} (v : Sl w0 h s x n ys) : isCell x = true := by obtain ⟨a, c, e⟩ := v.slice; rw [e]; rfl
theorem merges_loop {k0 : Value → Value → Value → Value → Hp → Prop} {x7 x8 x9 x11 : Value} {q n : Nat} {hh : Hp} (hq : w0.heap.size ≤ q) (hn : n ≤ 1000000000)
    (hk : ∀ h', Step hh h' [q] [q] → Fit w0 h' → k0 x7 x8 x9 x11 h') : ∀ (r i : Nat) (h1 : Hp) (cs : List Value), i + r = n → h1.blk q = some cs → cs.length = n * 2 → Fit w0 h1 → Step hh h1 [q] [q] →
      deduplaw10_SeqMerges_L1 prog w0 k0 (r + 1) x7 x8 x9 (.slice (some ⟨q, 0, none⟩) n ucap) x11 (.int .i64 (n : Int)) (.int .i64 (i : Int)) h1 := by
  intro r
  induction r with
  | zero =>
    intro i h1 cs hi hb hl f1 st
    have : i = n := by omega
    subst this
    rw [deduplaw10_SeqMerges_L1]
    simp only [deduplaw10_SeqMerges_B1, lenSl_slice, lenStr_string, str_size, fpureA_some, fnilA_ptr, faddA_ptr, addr_add, Nat.zero_add, Nat.add_zero, fpureQ_k, fpureQ_nilA, fpureQ_addA, fpureQ_pureA, fpureQ_guardA, fpureQ_idxSlA, fpureQ_pickA, freadQ_loadA, freadQ_loadNA, freadQ_b2sA, freadQ_guardA, freadQ_slSlA, freadQ_k, fendA, fallA_one, fstillA_nil, fguardA_tt, fguardA_ff, fguardA_tf, fguardA_ft, fguardA_undef, fpickA_true, fpickA_false, fcondA_true, fcondA_false, binA_add, binA_sub, binA_mul, binA_eql, binA_neq, binA_lss, binA_leq, binA_gtr, binA_geq, unA_not, Bool.not_true, Bool.not_false, convA_int, extA_tuple, List.getElem?_toArray, List.getElem?_cons_zero, List.getElem?_cons_succ, Int.lt_irrefl, decide_false]
    exact hk h1 st f1
  | succ r ih =>
    intro i h1 cs hi hb hl f1 st
    have c1 : decide ((i : Int) < (n : Int)) = true := decide_eq_true (by omega)
    have e6 : IntKind.i64.wrap ((i : Int) + 1) = ((i + 1 : Nat) : Int) := by rw [IntWalk.i64_in _ (by omega)]; simp
    rw [deduplaw10_SeqMerges_L1]
    simp only [deduplaw10_SeqMerges_B1, lenSl_slice, lenStr_string, str_size, fpureA_some, fnilA_ptr, faddA_ptr, addr_add, Nat.zero_add, Nat.add_zero, fpureQ_k, fpureQ_nilA, fpureQ_addA, fpureQ_pureA, fpureQ_guardA, fpureQ_idxSlA, fpureQ_pickA, freadQ_loadA, freadQ_loadNA, freadQ_b2sA, freadQ_guardA, freadQ_slSlA, freadQ_k, fendA, fallA_one, fstillA_nil, fguardA_tt, fguardA_ff, fguardA_tf, fguardA_ft, fguardA_undef, fpickA_true, fpickA_false, fcondA_true, fcondA_false, binA_add, binA_sub, binA_mul, binA_eql, binA_neq, binA_lss, binA_leq, binA_gtr, binA_geq, unA_not, Bool.not_true, Bool.not_false, convA_int, extA_tuple, List.getElem?_toArray, List.getElem?_cons_zero, List.getElem?_cons_succ, c1]
    refine ⟨_, _, _, _, _, rfl, rfl, by omega, by omega, ?_⟩
    simp only [lenSl_slice, lenStr_string, str_size, fpureA_some, fnilA_ptr, faddA_ptr, addr_add, Nat.zero_add, Nat.add_zero, fpureQ_k, fpureQ_nilA, fpureQ_addA, fpureQ_pureA, fpureQ_guardA, fpureQ_idxSlA, fpureQ_pickA, freadQ_loadA, freadQ_loadNA, freadQ_b2sA, freadQ_guardA, freadQ_slSlA, freadQ_k, fendA, fallA_one, fstillA_nil, fguardA_tt, fguardA_ff, fguardA_tf, fguardA_ft, fguardA_undef, fpickA_true, fpickA_false, fcondA_true, fcondA_false, binA_add, binA_sub, binA_mul, binA_eql, binA_neq, binA_lss, binA_leq, binA_gtr, binA_geq, unA_not, Bool.not_true, Bool.not_false, convA_int, extA_tuple, List.getElem?_toArray, List.getElem?_cons_zero, List.getElem?_cons_succ, Int.toNat_natCast]
    refine storeA_at hq hb (by omega) rfl ?_
    simp only [e6]
    refine ih (i + 1) _ (cs.set (i * 2 + 1) (.int .i64 (-1))) (by omega) (by simp) (by simpa using hl) (f1.put hq (f1.lt _ _ hb) fun v hv => ?_) (st.put (by simp) _)
    rcases List.mem_or_eq_of_mem_set hv with e | e
    · exact f1.cell q cs hq hb v e
    · subst e; rfl
theorem SeqMerges_top {va vb vc : Value} {a b c : List Itm} (ha : ExtSl w0 2 va a.length (ivs a)) (hb : ExtSl w0 2 vb b.length (ivs b)) (hc : ExtSl w0 2 vc c.length (ivs c)) (hla : a.length ≤ 2000000) (hlb : b.length ≤ 2000000) (hlc : c.length ≤ 2000000) :
    ACalls prog w0 n_deduplaw10_SeqMerges [va, vb, vc] h fun r h' => r = .bool true := by
  refine ACalls.of_fit (by simpa using ⟨ha.nj, hb.nj, hc.nj⟩) fun f => c_deduplaw10_SeqMerges (by simpa using ⟨ha.nj, hb.nj, hc.nj⟩) ?_
  simp only [s_deduplaw10_SeqMerges]
  have hz3 : zerosL [(Value.slice none 0 0)] 3 = [.slice none 0 0, .slice none 0 0, .slice none 0 0] := rfl
  refine callA_of awake_spec fun r h1 ⟨e, s1⟩ f1 => ?_
  subst e
  simp only [lenSl_slice, lenStr_string, str_size, fpureA_some, fnilA_ptr, faddA_ptr, addr_add, Nat.zero_add, Nat.add_zero, fpureQ_k, fpureQ_nilA, fpureQ_addA, fpureQ_pureA, fpureQ_guardA, fpureQ_idxSlA, fpureQ_pickA, freadQ_loadA, freadQ_loadNA, freadQ_b2sA, freadQ_guardA, freadQ_slSlA, freadQ_k, fendA, fallA_one, fstillA_nil, fguardA_tt, fguardA_ff, fguardA_tf, fguardA_ft, fguardA_undef, fpickA_true, fpickA_false, fcondA_true, fcondA_false, binA_add, binA_sub, binA_mul, binA_eql, binA_neq, binA_lss, binA_leq, binA_gtr, binA_geq, unA_not, Bool.not_true, Bool.not_false, convA_int, extA_tuple, List.getElem?_toArray, List.getElem?_cons_zero, List.getElem?_cons_succ]
  refine callA_of (items_spec (ha.is h1 f1) (by omega)) fun x h2 ⟨SX, gx, s2⟩ f2 => ?_
  refine callA_of (items_spec (hb.is h2 f2) (by omega)) fun y h3 ⟨SY, gy, s3⟩ f3 => ?_
  refine callA_of (items_spec (hc.is h3 f3) (by omega)) fun z h4 ⟨SZ, gz, s4⟩ f4 => ?_
  have gx4 := (gx.frame s3 (by simp)).frame s4 (by simp)
  have gy4 := gy.frame s4 (by simp)
  clear gx gy
  -- the program's
  have merge : ∀ (h : Hp) (f : Fit w0 h), Vec w0 h 2 x a.length (ivs a) SX → Vec w0 h 2 y b.length (ivs b) SY → Vec w0 h 2 z c.length (ivs c) SZ → ∀ K : Kont, (∀ r h' out S', IsM [srt a, srt b, srt c] out → out.length ≤ 6000000 → Vec w0 h' 2 r out.length (ivs out) S' → Step h h' [] S' → Fit w0 h' → K r h') →
      bslA [(0, 1, false, x), (1, 1, false, y), (2, 1, false, z)] (zerosL [(.slice none 0 0)] 3) 3 1 (fun v24_6 => callA prog w0 n_seq_Merge_string_int [v24_6] K) h := by
    intro h f gx gy gz K hK
    simp only [bslA_iff, fillA_one, fillA_nil, hz3, List.set_cons_zero, List.set_cons_succ]
    refine ⟨cell_sl gx.sl, by simp, cell_sl gy.sl, by simp, cell_sl gz.sl, by simp, ?_⟩
    have L := mkLs (ps := [(x, a), (y, b), (z, c)]) f (by simp) (by
      intro p hp
      simp at hp
      rcases hp with rfl | rfl | rfl
      · exact gx.sl
      · exact gy.sl
      · exact gz.sl)
    refine callA_of (Merge_spec L (by simp) (by simp; omega)) fun r h' ⟨out, S', im, hol, g, st⟩ f' => ?_
    exact hK r h' out S' im (by simp at hol; omega) g ((((Step.refl h [] (by simp)).new _ _).less (T := []) (by simp)).trans st) f'
  refine merge h4 f4 gx4 gy4 gz _ fun v h5 out S5 im hol g5 s5 f5 => ?_
  simp only [bslA_iff, fillA_one, fillA_nil, hz3, List.set_cons_zero, List.set_cons_succ]
  have L := mkLs (ps := [(va, a), (vb, b), (vc, c)]) f5 (by simp) (by
    intro p hp
    simp at hp
    rcases hp with rfl | rfl | rfl
    · exact ha.is _ f5
    · exact hb.is _ f5
    · exact hc.is _ f5)
  refine ⟨cell_sl (ha.is _ f5), by simp, cell_sl (hb.is _ f5), by simp, cell_sl (hc.is _ f5), by simp, ?_⟩
  refine callA_of (rMerge_spec L (by simp) (by simp; omega)) fun u h6 ⟨out2, S6, im2, hol2, g6, s6⟩ f6 => ?_
  have hso : ∀ l, l ∈ [srt a, srt b, srt c] → Srt l := by
    intro l hl
    simp at hl
    rcases hl with rfl | rfl | rfl <;> exact srt_sorted _
  have e : out2 = out := im2.uniq hso im
  subst e
  have s56 : Step h5 h6 [] S6 := (((Step.refl h5 [] (by simp)).new _ _).less (T := []) (by simp)).trans s6
  have g56 := g5.frame s56 (by simp)
  have gx6 := (gx4.frame s5 (by simp)).frame s56 (by simp)
  have gy6 := (gy4.frame s5 (by simp)).frame s56 (by simp)
  have gz6 := (gz.frame s5 (by simp)).frame s56 (by simp)
  refine callA_of (same_spec g56.sl g6.sl (by omega)) fun r h7 ⟨e, e'⟩ f7 => ?_
  subst e
  have e2 := e'.symm
  subst e2
  simp only [decide_true, Bool.not_true, lenSl_slice, lenStr_string, str_size, fpureA_some, fnilA_ptr, faddA_ptr, addr_add, Nat.zero_add, Nat.add_zero, fpureQ_k, fpureQ_nilA, fpureQ_addA, fpureQ_pureA, fpureQ_guardA, fpureQ_idxSlA, fpureQ_pickA, freadQ_loadA, freadQ_loadNA, freadQ_b2sA, freadQ_guardA, freadQ_slSlA, freadQ_k, fendA, fallA_one, fstillA_nil, fguardA_tt, fguardA_ff, fguardA_tf, fguardA_ft, fguardA_undef, fpickA_true, fpickA_false, fcondA_true, fcondA_false, binA_add, binA_sub, binA_mul, binA_eql, binA_neq, binA_lss, binA_leq, binA_gtr, binA_geq, unA_not, Bool.not_true, Bool.not_false, convA_int, extA_tuple, List.getElem?_toArray, List.getElem?_cons_zero, List.getElem?_cons_succ]
  refine callA_of (same_spec gx6.sl (ha.is _ f6) (by omega)) fun r h7 ⟨e, e'⟩ f7 => ?_
  subst e
  have e2 := e'.symm
  subst e2
  simp only [decide_true, Bool.not_true, lenSl_slice, lenStr_string, str_size, fpureA_some, fnilA_ptr, faddA_ptr, addr_add, Nat.zero_add, Nat.add_zero, fpureQ_k, fpureQ_nilA, fpureQ_addA, fpureQ_pureA, fpureQ_guardA, fpureQ_idxSlA, fpureQ_pickA, freadQ_loadA, freadQ_loadNA, freadQ_b2sA, freadQ_guardA, freadQ_slSlA, freadQ_k, fendA, fallA_one, fstillA_nil, fguardA_tt, fguardA_ff, fguardA_tf, fguardA_ft, fguardA_undef, fpickA_true, fpickA_false, fcondA_true, fcondA_false, binA_add, binA_sub, binA_mul, binA_eql, binA_neq, binA_lss, binA_leq, binA_gtr, binA_geq, unA_not, Bool.not_true, Bool.not_false, convA_int, extA_tuple, List.getElem?_toArray, List.getElem?_cons_zero, List.getElem?_cons_succ]
  refine callA_of (same_spec gy6.sl (hb.is _ f6) (by omega)) fun r h7 ⟨e, e'⟩ f7 => ?_
  subst e
  have e2 := e'.symm
  subst e2
  simp only [decide_true, Bool.not_true, lenSl_slice, lenStr_string, str_size, fpureA_some, fnilA_ptr, faddA_ptr, addr_add, Nat.zero_add, Nat.add_zero, fpureQ_k, fpureQ_nilA, fpureQ_addA, fpureQ_pureA, fpureQ_guardA, fpureQ_idxSlA, fpureQ_pickA, freadQ_loadA, freadQ_loadNA, freadQ_b2sA, freadQ_guardA, freadQ_slSlA, freadQ_k, fendA, fallA_one, fstillA_nil, fguardA_tt, fguardA_ff, fguardA_tf, fguardA_ft, fguardA_undef, fpickA_true, fpickA_false, fcondA_true, fcondA_false, binA_add, binA_sub, binA_mul, binA_eql, binA_neq, binA_lss, binA_leq, binA_gtr, binA_geq, unA_not, Bool.not_true, Bool.not_false, convA_int, extA_tuple, List.getElem?_toArray, List.getElem?_cons_zero, List.getElem?_cons_succ]
  refine callA_of (same_spec gz6.sl (hc.is _ f6) (by omega)) fun r h7 ⟨e, e'⟩ f7 => ?_
  subst e
  have e2 := e'.symm
  subst e2
  simp only [decide_true, Bool.not_true, lenSl_slice, lenStr_string, str_size, fpureA_some, fnilA_ptr, faddA_ptr, addr_add, Nat.zero_add, Nat.add_zero, fpureQ_k, fpureQ_nilA, fpureQ_addA, fpureQ_pureA, fpureQ_guardA, fpureQ_idxSlA, fpureQ_pickA, freadQ_loadA, freadQ_loadNA, freadQ_b2sA, freadQ_guardA, freadQ_slSlA, freadQ_k, fendA, fallA_one, fstillA_nil, fguardA_tt, fguardA_ff, fguardA_tf, fguardA_ft, fguardA_undef, fpickA_true, fpickA_false, fcondA_true, fcondA_false, binA_add, binA_sub, binA_mul, binA_eql, binA_neq, binA_lss, binA_leq, binA_gtr, binA_geq, unA_not, Bool.not_true, Bool.not_false, convA_int, extA_tuple, List.getElem?_toArray, List.getElem?_cons_zero, List.getElem?_cons_succ, g56.sl.lenv]
  have fin : ∀ h8, Step h6 h8 S5 S5 → Fit w0 h8 → bslA [(0, 1, false, x), (1, 1, false, y), (2, 1, false, z)] (zerosL [(.slice none 0 0)] 3) 3 1 (fun v66_36 =>
      callA prog w0 n_seq_Merge_string_int [v66_36] fun v67_37 =>
      callA prog w0 n_deduplaw10_same [v67_37, u] fun v69_38 =>
      guardA v69_38 true (callA prog w0 n_seq_Merge_string_int [(.slice none 0 0)]) fun v71_39 =>
      guardA v69_38 true (pureA (lenSl v71_39)) fun v72_40 =>
      guardA v69_38 true (pureA (binA .eql v72_40 (.int .i64 0))) fun v73_41 =>
      pickA v69_38 v73_41 (.bool false) fun v74_42 =>
      retA [v74_42] fun r h' => r = .bool true) h8 := by
    intro h8 s8 f8
    have ap : ∀ {T : List Nat}, (∀ q, q ∈ T → q < h4.next) → ∀ q, q ∈ T → q ∉ S5 := fun hT => apart_step s5 (by simp) hT
    have hx4 := fun q hq => (gx4.lt q hq).2
    have hy4 := fun q hq => (gy4.lt q hq).2
    have hz4 := fun q hq => (gz.lt q hq).2
    have h65 : ∀ q, q ∈ S6 → q ∉ S5 := fun q hq hq5 => by
      have := (s5.own q hq5).1
      rcases (s56.own q hq).2 with e | e
      · simp at e
      · omega
    refine merge h8 f8 (gx6.frame s8 (ap hx4)) (gy6.frame s8 (ap hy4)) (gz6.frame s8 (ap hz4)) _ fun v9 h9 out9 S9 im9 hol9 g9 s9 f9 => ?_
    have e : out9 = out2 := im9.uniq hso im
    subst e
    have g69 := (g6.frame s8 h65).frame s9 (by simp)
    refine callA_of (same_spec g9.sl g69.sl (by omega)) fun r h7 ⟨e, e'⟩ f7 => ?_
    subst e e'
    simp only [decide_true, lenSl_slice, lenStr_string, str_size, fpureA_some, fnilA_ptr, faddA_ptr, addr_add, Nat.zero_add, Nat.add_zero, fpureQ_k, fpureQ_nilA, fpureQ_addA, fpureQ_pureA, fpureQ_guardA, fpureQ_idxSlA, fpureQ_pickA, freadQ_loadA, freadQ_loadNA, freadQ_b2sA, freadQ_guardA, freadQ_slSlA, freadQ_k, fendA, fallA_one, fstillA_nil, fguardA_tt, fguardA_ff, fguardA_tf, fguardA_ft, fguardA_undef, fpickA_true, fpickA_false, fcondA_true, fcondA_false, binA_add, binA_sub, binA_mul, binA_eql, binA_neq, binA_lss, binA_leq, binA_gtr, binA_geq, unA_not, Bool.not_true, Bool.not_false, convA_int, extA_tuple, List.getElem?_toArray, List.getElem?_cons_zero, List.getElem?_cons_succ]
    have L0 : Ls w0 h7 (.slice none 0 0) [] := ⟨Sl.nil, by simp⟩
    refine callA_of (Merge_spec L0 (by simp) (by simp)) fun r10 h10 ⟨out10, S10, im10, hol10, g10, s10⟩ f10 => ?_
    have e : out10 = [] := List.eq_nil_of_length_eq_zero (by simpa using hol10)
    subst e
    simp only [g10.sl.lenv, List.length_nil, lenSl_slice, lenStr_string, str_size, fpureA_some, fnilA_ptr, faddA_ptr, addr_add, Nat.zero_add, Nat.add_zero, fpureQ_k, fpureQ_nilA, fpureQ_addA, fpureQ_pureA, fpureQ_guardA, fpureQ_idxSlA, fpureQ_pickA, freadQ_loadA, freadQ_loadNA, freadQ_b2sA, freadQ_guardA, freadQ_slSlA, freadQ_k, fendA, fallA_one, fstillA_nil, fguardA_tt, fguardA_ff, fguardA_tf, fguardA_ft, fguardA_undef, fpickA_true, fpickA_false, fcondA_true, fcondA_false, binA_add, binA_sub, binA_mul, binA_eql, binA_neq, binA_lss, binA_leq, binA_gtr, binA_geq, unA_not, Bool.not_true, Bool.not_false, convA_int, extA_tuple, List.getElem?_toArray, List.getElem?_cons_zero, List.getElem?_cons_succ, retA_iff, oneOf_one]
    exact ⟨by simp, rfl⟩
  rcases g56 with ⟨rfl, e1, -, rfl⟩ | ⟨q, rfl, rfl, q1, q2, q3, q4, q5⟩
  · rw [e1]
    refine ⟨1, ?_⟩
    rw [deduplaw10_SeqMerges_L1]
    have c0 : decide (((0 : Nat) : Int) < ((0 : Nat) : Int)) = false := rfl
    have c1 : decide ((0 : Int) < ((0 : Nat) : Int)) = false := rfl
    simp only [deduplaw10_SeqMerges_B1, lenSl_slice, lenStr_string, str_size, fpureA_some, fnilA_ptr, faddA_ptr, addr_add, Nat.zero_add, Nat.add_zero, fpureQ_k, fpureQ_nilA, fpureQ_addA, fpureQ_pureA, fpureQ_guardA, fpureQ_idxSlA, fpureQ_pickA, freadQ_loadA, freadQ_loadNA, freadQ_b2sA, freadQ_guardA, freadQ_slSlA, freadQ_k, fendA, fallA_one, fstillA_nil, fguardA_tt, fguardA_ff, fguardA_tf, fguardA_ft, fguardA_undef, fpickA_true, fpickA_false, fcondA_true, fcondA_false, binA_add, binA_sub, binA_mul, binA_eql, binA_neq, binA_lss, binA_leq, binA_gtr, binA_geq, unA_not, Bool.not_true, Bool.not_false, convA_int, extA_tuple, List.getElem?_toArray, List.getElem?_cons_zero, List.getElem?_cons_succ, c0, c1]
    exact fin h6 (.refl _ _ (by simp)) f6
  · exact ⟨out2.length + 1, merges_loop q1 (by omega) (fun h8 s8 f8 => fin h8 s8 f8) out2.length 0 h6 _ (by omega) q3 q5 f6 (.refl _ _ (by simpa using q2))⟩
/-! ### SeqMerged -/
theorem neItem (w0 : World) (x : Itm) : eqStA prog .neq 54 (.agg (iv x).toArray) (.agg (iv x).toArray) = fun K => K (.bool false) := by
  have hS : prog.underlying 54 = some (.struct (prog.fieldsOf 54)) := by kernel_rfl
  have hp : prog.stoodInHeld 54 = false := by kernel_rfl
  have key : ∀ w, (binOp .neq 54 (.agg (iv x).toArray) (.agg (iv x).toArray)).run prog w = .ok (.bool false) w := by
    obtain ⟨k, v⟩ := x
    intro w
    rw [run_neq_struct, show (10000 : Nat) = 9999 + 1 from rfl, run_equalIn_agg w 9999 54 _ _ hS hp]
    simp only [Program.fieldsOf, Try.underlying54, iv]
    go_simp
  funext K h
  refine propext ⟨?_, fun hk => ?_⟩
  · rintro ⟨xs, ys, q, e1, e2, -, -, e3, -, hk⟩
    cases e1
    cases e2
    have := (e3 w0).symm.trans (key w0)
    simp at this
    subst this
    exact hk
  · refine ⟨_, _, _, rfl, rfl, fun v hv => ?_, fun v hv => ?_, key, fun w => run_eqGuard_agg w _ _ _ _ _ _ (by kernel_rfl), hk⟩
    all_goals
      simp [iv] at hv
      rcases hv with rfl | rfl <;> rfl
theorem merged_loop {k0 : Value → Hp → Prop} {kr : Value → Hp → Prop} {v7 v8 v9 x6 : Value} {l : List Itm} (h7 : Is w0 h v7 l) (h8 : Is w0 h v8 l) (h9 : Is w0 h v9 l) (hl : l.length ≤ 1000000000) (hs : Srt l) (hk : k0 x6 h) : ∀ (r i : Nat), i + r = l.length →
      deduplaw10_SeqMerged_L1 prog w0 k0 kr (r + 1) x6 v7 v8 v9 (.int .i64 (l.length : Int)) (.int .i64 (i : Int)) h := by
  intro r
  induction r with
  | zero =>
    intro i hi
    have : i = l.length := by omega
    subst this
    rw [deduplaw10_SeqMerged_L1]
    simp only [deduplaw10_SeqMerged_B1, lenSl_slice, lenStr_string, str_size, fpureA_some, fnilA_ptr, faddA_ptr, addr_add, Nat.zero_add, Nat.add_zero, fpureQ_k, fpureQ_nilA, fpureQ_addA, fpureQ_pureA, fpureQ_guardA, fpureQ_idxSlA, fpureQ_pickA, freadQ_loadA, freadQ_loadNA, freadQ_b2sA, freadQ_guardA, freadQ_slSlA, freadQ_k, fendA, fallA_one, fstillA_nil, fguardA_tt, fguardA_ff, fguardA_tf, fguardA_ft, fguardA_undef, fpickA_true, fpickA_false, fcondA_true, fcondA_false, binA_add, binA_sub, binA_mul, binA_eql, binA_neq, binA_lss, binA_leq, binA_gtr, binA_geq, unA_not, Bool.not_true, Bool.not_false, convA_int, extA_tuple, List.getElem?_toArray, List.getElem?_cons_zero, List.getElem?_cons_succ, Int.lt_irrefl, decide_false]
    exact hk
  | succ r ih =>
    intro i hi
    have c1 : decide ((i : Int) < (l.length : Int)) = true := decide_eq_true (by omega)
    have e6 : IntKind.i64.wrap ((i : Int) + 1) = ((i + 1 : Nat) : Int) := by rw [IntWalk.i64_in _ (by omega)]; simp
    have hil : i < l.length := by omega
    have hg : l[i]? = some l[i] := List.getElem?_eq_getElem hil
    rw [deduplaw10_SeqMerged_L1]
    simp only [deduplaw10_SeqMerged_B1, lenSl_slice, lenStr_string, str_size, fpureA_some, fnilA_ptr, faddA_ptr, addr_add, Nat.zero_add, Nat.add_zero, fpureQ_k, fpureQ_nilA, fpureQ_addA, fpureQ_pureA, fpureQ_guardA, fpureQ_idxSlA, fpureQ_pickA, freadQ_loadA, freadQ_loadNA, freadQ_b2sA, freadQ_guardA, freadQ_slSlA, freadQ_k, fendA, fallA_one, fstillA_nil, fguardA_tt, fguardA_ff, fguardA_tf, fguardA_ft, fguardA_undef, fpickA_true, fpickA_false, fcondA_true, fcondA_false, binA_add, binA_sub, binA_mul, binA_eql, binA_neq, binA_lss, binA_leq, binA_gtr, binA_geq, unA_not, Bool.not_true, Bool.not_false, convA_int, extA_tuple, List.getElem?_toArray, List.getElem?_cons_zero, List.getElem?_cons_succ, c1, fpureQ_eqStA]
    refine h8.elem hil (ivs_get hg) ?_
    refine h7.elem hil (ivs_get hg) ?_
    simp only [neItem w0, lenSl_slice, lenStr_string, str_size, fpureA_some, fnilA_ptr, faddA_ptr, addr_add, Nat.zero_add, Nat.add_zero, fpureQ_k, fpureQ_nilA, fpureQ_addA, fpureQ_pureA, fpureQ_guardA, fpureQ_idxSlA, fpureQ_pickA, freadQ_loadA, freadQ_loadNA, freadQ_b2sA, freadQ_guardA, freadQ_slSlA, freadQ_k, fendA, fallA_one, fstillA_nil, fguardA_tt, fguardA_ff, fguardA_tf, fguardA_ft, fguardA_undef, fpickA_true, fpickA_false, fcondA_true, fcondA_false, binA_add, binA_sub, binA_mul, binA_eql, binA_neq, binA_lss, binA_leq, binA_gtr, binA_geq, unA_not, Bool.not_true, Bool.not_false, convA_int, extA_tuple, List.getElem?_toArray, List.getElem?_cons_zero, List.getElem?_cons_succ]
    refine h9.elem hil (ivs_get hg) ?_
    refine h7.elem hil (ivs_get hg) ?_
    simp only [neItem w0, lenSl_slice, lenStr_string, str_size, fpureA_some, fnilA_ptr, faddA_ptr, addr_add, Nat.zero_add, Nat.add_zero, fpureQ_k, fpureQ_nilA, fpureQ_addA, fpureQ_pureA, fpureQ_guardA, fpureQ_idxSlA, fpureQ_pickA, freadQ_loadA, freadQ_loadNA, freadQ_b2sA, freadQ_guardA, freadQ_slSlA, freadQ_k, fendA, fallA_one, fstillA_nil, fguardA_tt, fguardA_ff, fguardA_tf, fguardA_ft, fguardA_undef, fpickA_true, fpickA_false, fcondA_true, fcondA_false, binA_add, binA_sub, binA_mul, binA_eql, binA_neq, binA_lss, binA_leq, binA_gtr, binA_geq, unA_not, Bool.not_true, Bool.not_false, convA_int, extA_tuple, List.getElem?_toArray, List.getElem?_cons_zero, List.getElem?_cons_succ]
    rcases Nat.eq_zero_or_pos i with h0 | h0
    · have c2 : decide ((0 : Int) < (i : Int)) = false := decide_eq_false (by omega)
      simp only [c2, lenSl_slice, lenStr_string, str_size, fpureA_some, fnilA_ptr, faddA_ptr, addr_add, Nat.zero_add, Nat.add_zero, fpureQ_k, fpureQ_nilA, fpureQ_addA, fpureQ_pureA, fpureQ_guardA, fpureQ_idxSlA, fpureQ_pickA, freadQ_loadA, freadQ_loadNA, freadQ_b2sA, freadQ_guardA, freadQ_slSlA, freadQ_k, fendA, fallA_one, fstillA_nil, fguardA_tt, fguardA_ff, fguardA_tf, fguardA_ft, fguardA_undef, fpickA_true, fpickA_false, fcondA_true, fcondA_false, binA_add, binA_sub, binA_mul, binA_eql, binA_neq, binA_lss, binA_leq, binA_gtr, binA_geq, unA_not, Bool.not_true, Bool.not_false, convA_int, extA_tuple, List.getElem?_toArray, List.getElem?_cons_zero, List.getElem?_cons_succ, e6]
      exact ih (i + 1) (by omega)
    · have c2 : decide ((0 : Int) < (i : Int)) = true := decide_eq_true (by omega)
      have e5 : IntKind.i64.wrap ((i : Int) - 1) = ((i - 1 : Nat) : Int) := by rw [IntWalk.i64_in _ (by omega)]; omega
      have hg1 : l[i - 1]? = some l[i - 1] := List.getElem?_eq_getElem (by omega)
      simp only [c2, lenSl_slice, lenStr_string, str_size, fpureA_some, fnilA_ptr, faddA_ptr, addr_add, Nat.zero_add, Nat.add_zero, fpureQ_k, fpureQ_nilA, fpureQ_addA, fpureQ_pureA, fpureQ_guardA, fpureQ_idxSlA, fpureQ_pickA, freadQ_loadA, freadQ_loadNA, freadQ_b2sA, freadQ_guardA, freadQ_slSlA, freadQ_k, fendA, fallA_one, fstillA_nil, fguardA_tt, fguardA_ff, fguardA_tf, fguardA_ft, fguardA_undef, fpickA_true, fpickA_false, fcondA_true, fcondA_false, binA_add, binA_sub, binA_mul, binA_eql, binA_neq, binA_lss, binA_leq, binA_gtr, binA_geq, unA_not, Bool.not_true, Bool.not_false, convA_int, extA_tuple, List.getElem?_toArray, List.getElem?_cons_zero, List.getElem?_cons_succ, e5]
      refine h7.fld (o := 0) (by omega) (by omega) (ivs_key hg1) ?_
      refine h7.fld (o := 0) (by omega) (by omega) (ivs_key hg) ?_
      have hb := List.pairwise_iff_getElem.1 hs (i - 1) i (by omega) hil (by omega)
      simp only [s_geq, hb, Bool.not_true, lenSl_slice, lenStr_string, str_size, fpureA_some, fnilA_ptr, faddA_ptr, addr_add, Nat.zero_add, Nat.add_zero, fpureQ_k, fpureQ_nilA, fpureQ_addA, fpureQ_pureA, fpureQ_guardA, fpureQ_idxSlA, fpureQ_pickA, freadQ_loadA, freadQ_loadNA, freadQ_b2sA, freadQ_guardA, freadQ_slSlA, freadQ_k, fendA, fallA_one, fstillA_nil, fguardA_tt, fguardA_ff, fguardA_tf, fguardA_ft, fguardA_undef, fpickA_true, fpickA_false, fcondA_true, fcondA_false, binA_add, binA_sub, binA_mul, binA_eql, binA_neq, binA_lss, binA_leq, binA_gtr, binA_geq, unA_not, Bool.not_true, Bool.not_false, convA_int, extA_tuple, List.getElem?_toArray, List.getElem?_cons_zero, List.getElem?_cons_succ, e6]
      exact ih (i + 1) (by omega)
theorem SeqMerged_top {va vb vc : Value} {a b c : List Itm} (ha : ExtSl w0 2 va a.length (ivs a)) (hb : ExtSl w0 2 vb b.length (ivs b)) (hc : ExtSl w0 2 vc c.length (ivs c)) (hla : a.length ≤ 2000000) (hlb : b.length ≤ 2000000) (hlc : c.length ≤ 2000000) :
    ACalls prog w0 n_deduplaw10_SeqMerged [va, vb, vc] h fun r h' => r = .bool true := by
  refine ACalls.of_fit (by simpa using ⟨ha.nj, hb.nj, hc.nj⟩) fun f => c_deduplaw10_SeqMerged (by simpa using ⟨ha.nj, hb.nj, hc.nj⟩) ?_
  simp only [s_deduplaw10_SeqMerged]
  have hz3 : zerosL [(Value.slice none 0 0)] 3 = [.slice none 0 0, .slice none 0 0, .slice none 0 0] := rfl
  have hz2 : zerosL [(Value.slice none 0 0)] 2 = [.slice none 0 0, .slice none 0 0] := rfl
  refine callA_of awake_spec fun r h1 ⟨e, s1⟩ f1 => ?_
  subst e
  simp only [lenSl_slice, lenStr_string, str_size, fpureA_some, fnilA_ptr, faddA_ptr, addr_add, Nat.zero_add, Nat.add_zero, fpureQ_k, fpureQ_nilA, fpureQ_addA, fpureQ_pureA, fpureQ_guardA, fpureQ_idxSlA, fpureQ_pickA, freadQ_loadA, freadQ_loadNA, freadQ_b2sA, freadQ_guardA, freadQ_slSlA, freadQ_k, fendA, fallA_one, fstillA_nil, fguardA_tt, fguardA_ff, fguardA_tf, fguardA_ft, fguardA_undef, fpickA_true, fpickA_false, fcondA_true, fcondA_false, binA_add, binA_sub, binA_mul, binA_eql, binA_neq, binA_lss, binA_leq, binA_gtr, binA_geq, unA_not, Bool.not_true, Bool.not_false, convA_int, extA_tuple, List.getElem?_toArray, List.getElem?_cons_zero, List.getElem?_cons_succ]
  refine callA_of (items_spec (ha.is h1 f1) (by omega)) fun x h2 ⟨SX, gx, s2⟩ f2 => ?_
  refine callA_of (items_spec (hb.is h2 f2) (by omega)) fun y h3 ⟨SY, gy, s3⟩ f3 => ?_
  refine callA_of (items_spec (hc.is h3 f3) (by omega)) fun z h4 ⟨SZ, gz, s4⟩ f4 => ?_
  have gx4 := (gx.frame s3 (by simp)).frame s4 (by simp)
  have gy4 := gy.frame s4 (by simp)
  clear gx gy
  have two : ∀ (h : Hp) (f : Fit w0 h) (x y : Value) (a b : List Itm), Is w0 h x a → Is w0 h y b → a.length + b.length ≤ 50000000 → ∀ K : Kont, (∀ r h' out S', IsM [srt a, srt b] out → out.length ≤ a.length + b.length → Vec w0 h' 2 r out.length (ivs out) S' → Step h h' [] S' → Fit w0 h' → K r h') →
      bslA [(0, 1, false, x), (1, 1, false, y)] (zerosL [(.slice none 0 0)] 2) 2 1 (fun v24_6 => callA prog w0 n_seq_Merge_string_int [v24_6] K) h := by
    intro h f x y a b gx gy hl K hK
    simp only [bslA_iff, fillA_one, fillA_nil, hz2, List.set_cons_zero, List.set_cons_succ]
    refine ⟨cell_sl gx, by simp, cell_sl gy, by simp, ?_⟩
    have L := mkLs (ps := [(x, a), (y, b)]) f (by simp) (by
      intro p hp
      simp at hp
      rcases hp with rfl | rfl
      · exact gx
      · exact gy)
    refine callA_of (Merge_spec L (by simp) (by simp; omega)) fun r h' ⟨out, S', im, hol, g, st⟩ f' => ?_
    exact hK r h' out S' im (by simp at hol; omega) g ((((Step.refl h [] (by simp)).new _ _).less (T := []) (by simp)).trans st) f'
  simp only [bslA_iff, fillA_one, fillA_nil, hz3, List.set_cons_zero, List.set_cons_succ]
  have L := mkLs (ps := [(x, a), (y, b), (z, c)]) f4 (by simp) (by
    intro p hp
    simp at hp
    rcases hp with rfl | rfl | rfl
    · exact gx4.sl
    · exact gy4.sl
    · exact gz.sl)
  refine ⟨cell_sl gx4.sl, by simp, cell_sl gy4.sl, by simp, cell_sl gz.sl, by simp, ?_⟩
  refine callA_of (Merge_spec L (by simp) (by simp; omega)) fun v5 h5 ⟨all, S5, im, hol, g5, s5⟩ f5 => ?_
  have hal : all.length ≤ 6000000 := by simp at hol; omega
  refine callA_of (items_spec (ha.is h5 f5) (by omega)) fun x2 h6 ⟨S6, g6, s6⟩ f6 => ?_
  refine callA_of (items_spec (hb.is h6 f6) (by omega)) fun y2 h7 ⟨S7, g7, s7⟩ f7 => ?_
  have g57 := (g5.frame s6 (by simp)).frame s7 (by simp)
  refine two h7 f7 x2 y2 a b (g6.frame s7 (by simp)).sl g7.sl (by omega) _ fun v8 h8 ab S8 imab hol8 g8 s8 f8 => ?_
  have g58 := g57.frame s8 (by simp)
  refine callA_of (items_spec (hc.is h8 f8) (by omega)) fun z2 h9 ⟨S9, g9, s9⟩ f9 => ?_
  have g59 := g58.frame s9 (by simp)
  refine two h9 f9 v8 z2 ab c (g8.frame s9 (by simp)).sl g9.sl (by omega) _ fun v10 h10 parts S10 imp hol10 g10 s10 f10 => ?_
  have g510 := g59.frame s10 (by simp)
  refine two h10 f10 v5 v5 all all g510.sl g510.sl (by omega) _ fun v11 h11 again S11 ima hol11 g11 s11 f11 => ?_
  have g511 := g510.frame s11 (by simp)
  have g1011 := g10.frame s11 (by simp)
  have hso : ∀ l, l ∈ [srt a, srt b, srt c] → Srt l := by
    intro l hl
    simp at hl
    rcases hl with rfl | rfl | rfl <;> exact srt_sorted _
  rw [srt_id imab.srt] at imp
  have e1 : parts = all := (imab.parts imp).uniq hso im
  rw [srt_id im.srt] at ima
  have e2 : again = all := ima.uniq (by simpa using im.srt) (.twice im.srt)
  subst e1
  subst e2
  simp only [g511.sl.lenv, g1011.sl.lenv, g11.sl.lenv, lenSl_slice, lenStr_string, str_size, fpureA_some, fnilA_ptr, faddA_ptr, addr_add, Nat.zero_add, Nat.add_zero, fpureQ_k, fpureQ_nilA, fpureQ_addA, fpureQ_pureA, fpureQ_guardA, fpureQ_idxSlA, fpureQ_pickA, freadQ_loadA, freadQ_loadNA, freadQ_b2sA, freadQ_guardA, freadQ_slSlA, freadQ_k, fendA, fallA_one, fstillA_nil, fguardA_tt, fguardA_ff, fguardA_tf, fguardA_ft, fguardA_undef, fpickA_true, fpickA_false, fcondA_true, fcondA_false, binA_add, binA_sub, binA_mul, binA_eql, binA_neq, binA_lss, binA_leq, binA_gtr, binA_geq, unA_not, Bool.not_true, Bool.not_false, convA_int, extA_tuple, List.getElem?_toArray, List.getElem?_cons_zero, List.getElem?_cons_succ, bne_self_eq_false]
  refine ⟨_, merged_loop g511.sl g1011.sl g11.sl (by omega) im.srt ?_ _ 0 (Nat.zero_add _)⟩
  simp only [retA_iff, oneOf_one]
  simp
end
end Go.Proofs.Ytpdpponbhejlpaa.Ah
