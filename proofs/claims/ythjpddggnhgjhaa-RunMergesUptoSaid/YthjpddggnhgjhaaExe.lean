/- run: what a block's bytes are read as. -/
import Derived.Test.YthjpddggnhgjhaaExc
set_option linter.unusedVariables false
set_option linter.unusedSimpArgs false
set_option linter.constructorNameAsVariable false
namespace Go.Proofs.Ythjpddggnhgjhaa.Ah
open Go
theorem raw_le (st : RS) (n : Int) : (st.raw n).2.s.length ≤ st.s.length := by
  unfold RS.raw
  split
  · exact Nat.le_refl _
  · split
    · exact Nat.le_refl _
    · split
      · exact Nat.le_refl _
      · simp
theorem raw_lt {st : RS} (h : st.left ≠ 0) : (st.raw 1).2.s.length < st.s.length := by
  unfold RS.left at h
  split at h
  · exact absurd rfl h
  · rename_i he
    unfold RS.raw
    rw [if_neg he, if_neg (by omega), if_neg (by omega)]
    simp
    omega
theorem rd1_lt (st : RS) : rdn (st.raw 1).1 < 256 := by
  have := rdn_raw st 1
  simpa using this
theorem raw_1le (st : RS) (n : Nat) : (st.raw (n : Int)).1.length ≤ n := by
  unfold RS.raw
  split
  · simp
  · split
    · simp
    · split
      · simp
      · simp; omega
theorem Step.consR {h h' : Hp} {S S' : List Nat} (a : Step h h' S S') {r : Nat} (hr : r < h.next) : Step h h' (r :: S) (r :: S') := a.wide (fun b hb => List.mem_cons_of_mem _ hb) fun b hb => by
  rcases List.mem_cons.1 hb with e | e
  · subst e; exact .inr ⟨by simp, hr⟩
  · exact .inl e
def zE : List Value := [.string .empty, .string .empty, .bool false]
section
variable {w0 : World} {h h' : Hp}
theorem read_end {k0 kr : Value → Value → Value → Hp → Prop} {r qx : Nat} {x1 : Value} {acc : List Ent} {st5 : RS} {y : Ent} {m : Nat} {S : List Nat} (w5 : Rd w0 h r st5) (wq : w0.heap.size ≤ qx) (hq : h.blk qx = some (ee y)) (lq : qx < h.next) (hrS : r ∉ S) (hqS : qx ∉ S) (hqr : qx ≠ r) (g : Vec w0 h 3 x1 acc.length (acc.flatMap ee) S) (hacc : acc.length ≤ 3510000000000)
    (hbad : st5.err ≠ 0 → ∀ h1, Step h h1 [] [] → kr x1 (.slice none 0 0) (.bool false) h1)
    (hok : st5.err = 0 → ∀ h1 x1' S', Rd w0 h1 r st5 → Vec w0 h1 3 x1' (acc ++ [y]).length ((acc ++ [y]).flatMap ee) S' → r ∉ S' → Step h h1 S S' → run_read_L1 prog w0 k0 kr m x1' (.slice none 0 0) (.bool false) (.string (str y.k)) (ptr r) h1) :
    callA prog w0 n_codec_Reader_Err [ptr r] (fun v51 => pureA (binA .neq v51 (.int .i64 0)) fun v52 => condA v52 (kr x1 (.slice none 0 0) (.bool false)) (
      loadA w0 (.pointer (some ⟨qx, 0, none⟩)) fun v54 => loadNA w0 (.pointer (some ⟨qx, 0, none⟩)) 3 fun v56 =>
      bslA [(0, 3, true, v56)] (zerosL [.string .empty, .string .empty, .bool false] 1) 1 3 fun v57 => appA w0 3 40 x1 v57 fun v58 => run_read_L1 prog w0 k0 kr m v58 (.slice none 0 0) (.bool false) v54 (ptr r))) h := by
  refine ACalls.fit ((RErr_spec w5).mono fun v h1 ⟨e, e'⟩ f1 => ?_)
  subst e e'
  by_cases he : st5.err = 0
  · have c1 : (st5.err != 0) = false := by simp [he]
    simp only [c1, wd, List.getElem?_toArray, List.getElem?_cons_zero, List.getElem?_cons_succ]
    refine loadA_at wq hq rfl ?_
    refine loadNA_whole wq hq rfl ?_
    refine appN_vec f1.base g.gv rfl rfl (by omega) (by omega) (by omega) fun x' h2 S2 g2 s2 => ?_
    have e1 : acc.flatMap ee ++ ee y = (acc ++ [y]).flatMap ee := by simp
    have e2 : acc.length + 1 = (acc ++ [y]).length := by simp
    rw [e1, e2] at g2
    have hlr := w5.2.2.1
    exact hok he h2 x' S2 (w5.frame s2 hrS) g2 (fun e => by
      rcases (s2.own _ e).2 with q | q
      · exact hrS q
      · omega) s2
  · have c1 : (st5.err != 0) = true := by simp [he]
    simp only [c1, wd, List.getElem?_toArray, List.getElem?_cons_zero, List.getElem?_cons_succ]
    exact hbad he h1 (.refl _ _ (by simp))
theorem read_loop12 {k0 kr : Value → Value → Value → Hp → Prop} {r T : Nat} {hh : Hp} {S0 : List Nat} {res : Option (List Ent)} (hT : T ≤ 3500000000000)
    (hk : ∀ l, res = some l → ∀ h' x' S' y z, Vec w0 h' 3 x' l.length (l.flatMap ee) S' → Step hh h' (r :: S0) (r :: S') → l.length ≤ T → k0 x' y z h') (hkr : res = none → ∀ h' x' S', Step hh h' (r :: S0) (r :: S') → kr x' (.slice none 0 0) (.bool false) h') :
    ∀ (m : Nat) (st : RS) (ahead : Key) (acc : List Ent) (h1 : Hp) (x1 : Value) (S : List Nat), st.s.length < m → acc.length + st.s.length ≤ T → ahead.length ≤ 1000 → res = rdB m st ahead acc → Rd w0 h1 r st → Vec w0 h1 3 x1 acc.length (acc.flatMap ee) S → r ∉ S → Step hh h1 (r :: S0) (r :: S) →
      run_read_L1 prog w0 k0 kr m x1 (.slice none 0 0) (.bool false) (.string (str ahead)) (ptr r) h1 := by
  intro m
  induction m with
  | zero => intro st ahead acc h1 x1 S hm; omega
  | succ m ih =>
    intro st ahead acc h1 x1 S hm hac hah hres w g hrS stp
    rw [run_read_L1]
    simp only [run_read_B1]
    refine callA_of (RLeft_spec w) fun v h2 ⟨e, e'⟩ f2 => ?_
    subst e e'
    by_cases hl : st.left = 0
    · have c1 : decide ((0 : Int) < (st.left : Int)) = false := decide_eq_false (by omega)
      simp only [wd, List.getElem?_toArray, List.getElem?_cons_zero, List.getElem?_cons_succ, c1]
      rw [rdB, if_pos hl] at hres
      exact hk acc hres h2 x1 S _ _ g stp (by omega)
    · have c1 : decide ((0 : Int) < (st.left : Int)) = true := decide_eq_true (by omega)
      simp only [wd, List.getElem?_toArray, List.getElem?_cons_zero, List.getElem?_cons_succ, c1]
      rw [rdB, if_neg hl] at hres
      simp only at hres
      have d1 := raw_lt hl
      refine callA_of (RU8_spec w) fun v h3 ⟨e, w3, s3⟩ f3 => ?_
      subst e
      have l1 := rd1_lt st
      generalize ha : st.raw 1 = a at *
      have i1 : IntKind.i64.wrap ((rdn a.1 : Nat) : Int) = ((rdn a.1 : Nat) : Int) := IntWalk.i64_in _ (by omega)
      simp only [wd, List.getElem?_toArray, List.getElem?_cons_zero, List.getElem?_cons_succ, i1]
      refine callA_of (RU8_spec w3) fun v h4 ⟨e, w4, s4⟩ f4 => ?_
      subst e
      have l2 := rd1_lt a.2
      have d2 := raw_le a.2 1
      generalize hb : a.2.raw 1 = b at *
      have i2 : IntKind.i64.wrap ((rdn b.1 : Nat) : Int) = ((rdn b.1 : Nat) : Int) := IntWalk.i64_in _ (by omega)
      simp only [wd, List.getElem?_toArray, List.getElem?_cons_zero, List.getElem?_cons_succ, i2]
      refine callA_of (RU8_spec w4) fun v h5 ⟨e, w5, s5⟩ f5 => ?_
      subst e
      have l3 := rd1_lt b.2
      have d3 := raw_le b.2 1
      generalize hc : b.2.raw 1 = c at *
      refine callA_of (RU8_spec w5) fun v h6 ⟨e, w6, s6⟩ f6 => ?_
      subst e
      have l4 := rd1_lt c.2
      have d4 := raw_le c.2 1
      generalize hd : c.2.raw 1 = d at *
      have i4 : IntKind.i64.wrap ((rdn d.1 : Nat) : Int) = ((rdn d.1 : Nat) : Int) := IntWalk.i64_in _ (by omega)
      have s26 : Step h2 h6 [r] [r] := s3.trans (s4.trans (s5.trans s6))
      have g6 := g.frame s26 (by simpa using fun b hb => (fun e => hrS (by rw [← e]; exact hb) : b ≠ r))
      have hSlt := fun b hb => (g.lt b hb).2
      have hSlt2 := fun b hb => (g6.lt b hb).2
      have st6 : Step hh h6 (r :: S0) (r :: S) := stp.trans (s26.more S hSlt)
      simp only [wd, List.getElem?_toArray, List.getElem?_cons_zero, List.getElem?_cons_succ, i4]
      by_cases hn : ahead.length < rdn a.1
      · have c2 : decide ((ahead.length : Int) < ((rdn a.1 : Nat) : Int)) = true := decide_eq_true (by omega)
        simp only [wd, List.getElem?_toArray, List.getElem?_cons_zero, List.getElem?_cons_succ, c2]
        rw [if_pos (.inl hn)] at hres
        exact hkr hres h6 x1 S st6
      have c2 : decide ((ahead.length : Int) < ((rdn a.1 : Nat) : Int)) = false := decide_eq_false (by omega)
      simp only [wd, List.getElem?_toArray, List.getElem?_cons_zero, List.getElem?_cons_succ, c2]
      by_cases hg : 1 < rdn c.1
      · have c3 : decide ((1 : Int) < ((rdn c.1 : Nat) : Int)) = true := decide_eq_true (by omega)
        simp only [wd, List.getElem?_toArray, List.getElem?_cons_zero, List.getElem?_cons_succ, c3]
        rw [if_pos (.inr hg)] at hres
        exact hkr hres h6 x1 S st6
      have c3 : decide ((1 : Int) < ((rdn c.1 : Nat) : Int)) = false := decide_eq_false (by omega)
      rw [if_neg (fun q => q.elim hn hg)] at hres
      have htl : (ahead.take (rdn a.1)).length = rdn a.1 := by rw [List.length_take]; omega
      have hnb : decide (((rdn c.1 : Nat) : Int) = 1) = decide (rdn c.1 = 1) := by by_cases q : rdn c.1 = 1 <;> simp [q] <;> omega
      have e1 := raw_1le d.2 (rdn b.1)
      have d5 := raw_le d.2 (rdn b.1)
      have e2 := raw_1le (d.2.raw (rdn b.1)).2 (rdn d.1)
      have d6 := raw_le (d.2.raw (rdn b.1)).2 (rdn d.1)
      have R1 := fun (hX : Hp) (wX : Rd w0 hX r d.2) => RRaw_spec wX ((rdn b.1 : Nat) : Int) (by omega)
      have R2 := fun (hX : Hp) (wX : Rd w0 hX r (d.2.raw (rdn b.1)).2) => RRaw_spec wX ((rdn d.1 : Nat) : Int) (by omega)
      generalize (d.2.raw (rdn b.1)) = e at *
      generalize (e.2.raw (rdn d.1)) = f at *
      have hadd : binA .add (.string (str (ahead.take (rdn a.1)))) (.string (str e.1)) = some (.string (str (ahead.take (rdn a.1) ++ e.1))) := add_str _ _ (by omega)
      have hgn : (((rdn c.1 : Nat) : Int) == 1) = decide (rdn c.1 = 1) := by by_cases q : rdn c.1 = 1 <;> simp [q] <;> omega
      have hz : [Value.string .empty, .string .empty, .bool false] = zE := rfl
      generalize hy : (⟨ahead.take (rdn a.1) ++ e.1, f.1, decide (rdn c.1 = 1)⟩ : Ent) = y at *
      have hyk : y.k = ahead.take (rdn a.1) ++ e.1 := by rw [← hy]
      have hagg : ([Value.string (str (ahead.take (rdn a.1) ++ e.1)), .string (str f.1), .bool (decide (rdn c.1 = 1))]) = ee y := by rw [← hy]; rfl
      have hsz : w0.heap.size ≤ h6.next := f6.base
      have fin : ∀ (hX : Hp) (q : Nat), Rd w0 hX r f.2 → Step h6 hX [r] [r, q] → h6.next ≤ q → hX.blk q = some (ee y) → q < hX.next →
          callA prog w0 n_codec_Reader_Err [ptr r] (fun v51 => pureA (binA .neq v51 (.int .i64 0)) fun v52 => condA v52 (kr x1 (.slice none 0 0) (.bool false)) (
            loadA w0 (.pointer (some ⟨q, 0, none⟩)) fun v54 => loadNA w0 (.pointer (some ⟨q, 0, none⟩)) 3 fun v56 =>
            bslA [(0, 3, true, v56)] (zerosL [.string .empty, .string .empty, .bool false] 1) 1 3 fun v57 => appA w0 3 40 x1 v57 fun v58 => run_read_L1 prog w0 k0 kr m v58 (.slice none 0 0) (.bool false) v54 (ptr r))) hX := by
        intro hX q wX sX hq bX lX
        have sr : Step h6 hX [r] [r] := sX.less (by simp)
        have hSr : ∀ b, b ∈ S → b ∉ [r] := fun b hb => by simpa using fun e => hrS (by rw [← e]; exact hb)
        have gX := g6.frame sr hSr
        have hqS : q ∉ S := fun q' => by have := hSlt2 q q'; omega
        have hrl := w6.2.2.1
        have stX : Step hh hX (r :: S0) (r :: S) := st6.trans (sr.more S hSlt2)
        refine read_end wX (by omega) bX lX hrS hqS (by omega) gX (by omega) (fun he h8 s8 => ?_) fun he h8 x8 S8 w8 g8 hr8 s8 => ?_
        · rw [if_pos he] at hres
          exact hkr hres h8 x1 S (stX.trans (s8.keepS fun b hb => (stX.own b hb).1))
        · rw [if_neg (by simpa using he)] at hres
          rw [← hyk]at hres
          refine ih f.2 y.k (acc ++ [y]) h8 x8 S8 (by omega) (by simp; omega) (by rw [hyk, List.length_append]; omega) hres w8 g8 hr8 (stX.trans (s8.consR wX.2.2.1))
      have fin2 : ∀ (hX : Hp) (q : Nat), Rd w0 hX r f.2 → Step h6 hX [r] [r, q] → h6.next ≤ q → hX.blk q = some zE → q < hX.next →
          storeNA w0 (.pointer (some ⟨q, 0, none⟩)) (.agg (ee y).toArray) 3 (fun _ => callA prog w0 n_codec_Reader_Err [ptr r] (fun v51 => pureA (binA .neq v51 (.int .i64 0)) fun v52 => condA v52 (kr x1 (.slice none 0 0) (.bool false)) (
            loadA w0 (.pointer (some ⟨q, 0, none⟩)) fun v54 => loadNA w0 (.pointer (some ⟨q, 0, none⟩)) 3 fun v56 =>
            bslA [(0, 3, true, v56)] (zerosL [.string .empty, .string .empty, .bool false] 1) 1 3 fun v57 => appA w0 3 40 x1 v57 fun v58 => run_read_L1 prog w0 k0 kr m v58 (.slice none 0 0) (.bool false) v54 (ptr r)))) hX := by
        intro hX q wX sX hq bX lX
        have hrl := w6.2.2.1
        refine storeNA_whole (by omega) bX rfl rfl ?_
        have sp : Step hX (hX.put q (ee y)) [q] [q] := (Step.refl hX [q] (by simpa using lX)).put (by simp) _
        exact fin _ q (wX.frame sp (by simp; omega)) (sX.put (by simp) _) hq (by simp) (by simpa using lX)
      have fin3 : ∀ (hX : Hp), Rd w0 hX r f.2 → Step h6 hX [r] [r] → storeNA w0 (.pointer (some ⟨hX.next, 0, none⟩)) (.agg (ee y).toArray) 3 (fun _ => callA prog w0 n_codec_Reader_Err [ptr r] (fun v51 => pureA (binA .neq v51 (.int .i64 0)) fun v52 => condA v52 (kr x1 (.slice none 0 0) (.bool false)) (
            loadA w0 (.pointer (some ⟨hX.next, 0, none⟩)) fun v54 => loadNA w0 (.pointer (some ⟨hX.next, 0, none⟩)) 3 fun v56 =>
            bslA [(0, 3, true, v56)] (zerosL [.string .empty, .string .empty, .bool false] 1) 1 3 fun v57 => appA w0 3 40 x1 v57 fun v58 => run_read_L1 prog w0 k0 kr m v58 (.slice none 0 0) (.bool false) v54 (ptr r)))) (hX.new zE 3) := by
        intro hX wX sX
        have sn : Step hX (hX.new zE 3) [] [hX.next] := (Step.refl hX [] (by simp)).new _ _
        exact fin2 _ hX.next (wX.frame sn (by simp)) ((sX.new _ _).less (by simp)) sX.next (by simp) (by simp)
      simp only [wd, List.getElem?_toArray, List.getElem?_cons_zero, List.getElem?_cons_succ, c3, strSlA_take _ _ _ (show rdn a.1 ≤ ahead.length by omega), hgn, allA_cons]
      have hcell : ∀ v, v ∈ [Value.string .empty, .string .empty, .bool false] → isCell v = true := by simp [isCell]
      refine ⟨?_, ?_⟩
      · refine callA_of (R1 _ w6) fun v h7 ⟨e7, w7, s7⟩ f7 => ?_
        subst e7
        simp only [hadd, wd, List.getElem?_toArray, List.getElem?_cons_zero, List.getElem?_cons_succ, allA_cons]
        refine ⟨?_, ?_⟩
        · refine callA_of (R2 _ w7) fun v h8 ⟨e8, w8, s8⟩ f8 => ?_
          subst e8
          simp only [allA_cons, buildA_iff, newA_iff, fillA_one, fillA_nil, List.set_cons_zero, List.set_cons_succ, hagg, wd, List.getElem?_toArray, List.getElem?_cons_zero, List.getElem?_cons_succ]
          have c7 : isCell (.string (str (ahead.take (rdn a.1) ++ e.1))) = true := rfl
          exact ⟨⟨rfl, by simp, rfl, by simp, rfl, by simp, hcell, fin3 h8 w8 (s7.trans s8)⟩, hcell, rfl, by simp, rfl, by simp, rfl, by simp, fin3 h8 w8 (s7.trans s8)⟩
        · simp only [newA_iff]
          refine ⟨hcell, ?_⟩
          have sn : Step h7 (h7.new zE 3) [] [h7.next] := (Step.refl h7 [] (by simp)).new _ _
          have n1 : h7.next < (h7.new zE 3).next := by simp
          have wn := w7.frame sn (by simp)
          have bn : (h7.new zE 3).blk h7.next = some zE := by simp
          have sX : Step h6 (h7.new zE 3) [r] [r, h7.next] := (s7.new _ _).less (by simp)
          have fn : Fit w0 (h7.new zE 3) := f7.new hcell
          have hr7 := w7.2.2.1
          have hq7 := s7.next
          show callA _ _ _ _ _ (h7.new zE 3)
          generalize h7.new zE 3 = h7' at *
          generalize h7.next = q at *
          refine callA_of (R2 _ wn) fun v h8 ⟨e8, w8, s8⟩ f8 => ?_
          subst e8
          simp only [allA_cons, buildA_iff, fillA_one, fillA_nil, List.set_cons_zero, List.set_cons_succ, hagg, wd, List.getElem?_toArray, List.getElem?_cons_zero, List.getElem?_cons_succ]
          have b8 : h8.blk q = some zE := by rw [(s8.keep q n1 (by simp; omega)).1]; exact bn
          exact ⟨rfl, by simp, rfl, by simp, rfl, by simp, fin2 h8 q w8 (sX.trans (s8.more [q] (by simpa using n1))) hq7 b8 (Nat.lt_of_lt_of_le n1 s8.next)⟩
      · simp only [newA_iff]
        refine ⟨hcell, ?_⟩
        have sn : Step h6 (h6.new zE 3) [] [h6.next] := (Step.refl h6 [] (by simp)).new _ _
        have n1 : h6.next < (h6.new zE 3).next := by simp
        have wn := w6.frame sn (by simp)
        have bn : (h6.new zE 3).blk h6.next = some zE := by simp
        have sX : Step h6 (h6.new zE 3) [r] [r, h6.next] := ((Step.refl h6 [r] (by simpa using w6.2.2.1)).new _ _).less (by simp)
        have fn : Fit w0 (h6.new zE 3) := f6.new hcell
        have hr7 := w6.2.2.1
        show callA _ _ _ _ _ (h6.new zE 3)
        generalize h6.new zE 3 = h6' at *
        refine callA_of (R1 _ wn) fun v h7 ⟨e7, w7, s7⟩ f7 => ?_
        subst e7
        simp only [hadd, wd, List.getElem?_toArray, List.getElem?_cons_zero, List.getElem?_cons_succ, allA_cons]
        refine callA_of (R2 _ w7) fun v h8 ⟨e8, w8, s8⟩ f8 => ?_
        subst e8
        simp only [allA_cons, buildA_iff, fillA_one, fillA_nil, List.set_cons_zero, List.set_cons_succ, hagg, wd, List.getElem?_toArray, List.getElem?_cons_zero, List.getElem?_cons_succ]
        have s78 := s7.trans s8
        have b8 : h8.blk h6.next = some zE := by rw [(s78.keep h6.next n1 (by simp; omega)).1]; exact bn
        exact ⟨rfl, by simp, rfl, by simp, rfl, by simp, fin2 h8 h6.next w8 (sX.trans (s78.more [h6.next] (by simpa using n1))) (Nat.le_refl _) b8 (Nat.lt_of_lt_of_le n1 s78.next)⟩
end
theorem rdB_len : ∀ (m : Nat) (st : RS) (a : Key) (acc l : List Ent), rdB m st a acc = some l → l.length ≤ acc.length + st.s.length
  | 0, st, a, acc, l, h => by simp [rdB] at h
  | m + 1, st, a, acc, l, h => by
    rw [rdB] at h
    split at h
    · cases h; omega
    · rename_i hl
      simp only at h
      split at h
      · cases h
      · split at h
        · cases h
        · have := rdB_len m _ _ _ _ h
          have d1 := raw_lt hl
          have d2 := raw_le (st.raw 1).2 1
          have d3 := raw_le ((st.raw 1).2.raw 1).2 1
          have d4 := raw_le (((st.raw 1).2.raw 1).2.raw 1).2 1
          have d5 := raw_le ((((st.raw 1).2.raw 1).2.raw 1).2.raw 1).2 (rdn ((st.raw 1).2.raw 1).1)
          have d6 := raw_le (((((st.raw 1).2.raw 1).2.raw 1).2.raw 1).2.raw (rdn ((st.raw 1).2.raw 1).1)).2 (rdn ((((st.raw 1).2.raw 1).2.raw 1).2.raw 1).1)
          simp only [List.length_append, List.length_singleton] at this
          omega
section
variable {w0 : World} {h h' : Hp}
theorem rdE_spec {v : Value} {acc : List Ent} {S : List Nat} (s : List UInt8) (g : Vec w0 h 3 v acc.length (acc.flatMap ee) S) (hb : acc.length + s.length ≤ 3500000000000) :
    ACalls prog w0 n_run_read [.string (str s), v] h fun r h' => match rdB (s.length + 1) ⟨s, 0⟩ [] acc with
      | none => r = .tuple #[.slice none 0 0, .bool false] ∧ Step h h' S []
      | some l => ∃ x S', r = .tuple #[x, .bool true] ∧ Vec w0 h' 3 x l.length (l.flatMap ee) S' ∧ Step h h' S S' := by
  refine ACalls.of_fit (by simpa using g.gv.nj) fun f => c_run_read (by simpa using g.gv.nj) ?_
  simp only [s_run_read]
  refine callA_of (NewReader_spec s (by omega)) fun v1 h1 ⟨e, w1, s1⟩ f1 => ?_
  subst e
  have hSlt := fun b hb => (g.lt b hb).2
  have hrS : h.next ∉ S := fun q => by have := hSlt _ q; omega
  have g1 := g.frame s1 (by simp)
  have s01 : Step h h1 S (h.next :: S) := (s1.more S hSlt)
  have lts := fun b hb => (s01.own b hb).1
  refine ⟨s.length + 1, ?_⟩
  have em : ByteArray.empty = str ([] : Key) := rfl
  rw [em]
  refine read_loop12 (S0 := S) (hh := h1) (T := acc.length + s.length) (res := rdB (s.length + 1) ⟨s, 0⟩ [] acc) (by omega) ?_ ?_ (s.length + 1) ⟨s, 0⟩ [] acc h1 v S (by simp) (by simp) (by simp) rfl w1 g1 hrS (.refl _ _ lts)
  · intro l hl h' x' S' y z gx sx hlen
    simp only [hl, retA_iff, oneOf_two]
    exact ⟨by simp [gx.gv.nj], x', S', rfl, gx, (s01.trans sx).less fun b hb => List.mem_cons_of_mem _ hb⟩
  · intro hl h' x' S' sx
    simp only [hl, retA_iff, oneOf_two]
    exact ⟨by simp, trivial, (s01.trans sx).less (by simp)⟩
theorem vint_lt (st : RS) : st.varint.1 < 18446744073709551616 := by
  have hb := shp_bound st.s 0 0 (by omega) (by simp)
  unfold RS.varint
  split
  · simp
  · split
    · simp
    · exact hb.1
def spansB (b : List UInt8) : Nat := rdn ((((⟨b.drop (b.length - 24), 0⟩ : RS).raw 4).2.raw 4).2.raw 4).1
theorem parse_loop {k0 kr : Value → Value → Value → Value → Value → Value → Hp → Prop} {b : List UInt8} {r at_ N : Nat} {hh : Hp} {x3 x4 x7 x8 : Value} {res : Option (List Ent)} (hb : b.length ≤ 1000000000) (hat : at_ ≤ b.length) (hN : N * b.length ≤ 3500000000000) (hN2 : N ≤ b.length)
    (hk : ∀ l, res = some l → ∀ h' x' S' y, Vec w0 h' 3 x' l.length (l.flatMap ee) S' → Step hh h' [r] (r :: S') → l.length ≤ 3500000000000 → k0 x' x3 x4 y x7 x8 h')
    (hkr : res = none → ∀ h', Step hh h' [r] [r] → kr (.slice none 0 0) (.int .i64 0) (.int .i64 0) (.bool false) x7 x8 h') :
    ∀ (m n : Nat) (st : RS) (acc : List Ent) (h1 : Hp) (x1 y : Value) (S : List Nat), n + m = N → res = prsG b at_ m st acc → Rd w0 h1 r st → Vec w0 h1 3 x1 acc.length (acc.flatMap ee) S → r ∉ S → Step hh h1 [r] (r :: S) → acc.length + m * b.length ≤ N * b.length →
      run_parse_L1 prog w0 k0 kr (m + 1) (.string (str b)) x1 x3 x4 y (ptr r) x7 x8 (.int .i64 (at_ : Int)) (.int .i64 (N : Int)) (.int .i64 (n : Int)) h1 := by
  intro m
  induction m with
  | zero =>
    intro n st acc h1 x1 y S hn hres w g hrS stp hl
    have c1 : decide ((n : Int) < (N : Int)) = false := decide_eq_false (by omega)
    rw [run_parse_L1]
    simp only [run_parse_B1, wd, List.getElem?_toArray, List.getElem?_cons_zero, List.getElem?_cons_succ, c1]
    exact hk acc hres h1 x1 S y g stp (by omega)
  | succ m ih =>
    intro n st acc h1 x1 y S hn hres w g hrS stp hl
    have hSlt := fun b hb => (g.lt b hb).2
    have c1 : decide ((n : Int) < (N : Int)) = true := decide_eq_true (by omega)
    rw [run_parse_L1]
    simp only [run_parse_B1, wd, List.getElem?_toArray, List.getElem?_cons_zero, List.getElem?_cons_succ, c1]
    rw [prsG] at hres
    refine callA_of (RText_spec w) fun v h2 ⟨e, w2, s2⟩ f2 => ?_
    generalize st.text = t at *
    refine callA_of (RVarint_spec w2) fun v h3 ⟨e, w3, s3⟩ f3 => ?_
    subst e
    have v1 := vint_lt t.2
    generalize t.2.varint = f at *
    refine callA_of (RVarint_spec w3) fun v h4 ⟨e, w4, s4⟩ f4 => ?_
    subst e
    have v2 := vint_lt f.2
    generalize f.2.varint = z at *
    refine callA_of (RErr_spec w4) fun v h5 ⟨e, e'⟩ f5 => ?_
    subst e e'
    have s14 : Step h1 h5 [r] [r] := s2.trans (s3.trans s4)
    have g5 := g.frame s14 (by simpa using fun b hb => (fun e => hrS (by rw [← e]; exact hb) : b ≠ r))
    have st5 : Step hh h5 [r] (r :: S) := stp.trans (s14.more S hSlt)
    by_cases he : z.2.err = 0
    · have c2 : (z.2.err != 0) = false := by simp [he]
      have u1 : IntKind.u64.wrap (at_ : Int) = (at_ : Int) := IntWalk.u64_in _ (by omega)
      simp only [wd, List.getElem?_toArray, List.getElem?_cons_zero, List.getElem?_cons_succ, c2, u1]
      by_cases hf : at_ < f.1
      · have c3 : decide ((at_ : Int) < (f.1 : Int)) = true := decide_eq_true (by omega)
        simp only [wd, List.getElem?_toArray, List.getElem?_cons_zero, List.getElem?_cons_succ, c3]
        rw [if_pos (.inr (.inl hf))] at hres
        exact hkr hres h5 (st5.less (by simp))
      · have c3 : decide ((at_ : Int) < (f.1 : Int)) = false := decide_eq_false (by omega)
        have u2 : IntKind.u64.wrap ((at_ : Int) - (f.1 : Int)) = ((at_ - f.1 : Nat) : Int) := by rw [IntWalk.u64_in _ (by omega)]; omega
        simp only [wd, List.getElem?_toArray, List.getElem?_cons_zero, List.getElem?_cons_succ, c3, u1, u2]
        by_cases hz : at_ - f.1 < z.1
        · have c4 : decide (((at_ - f.1 : Nat) : Int) < (z.1 : Int)) = true := decide_eq_true (by omega)
          simp only [wd, List.getElem?_toArray, List.getElem?_cons_zero, List.getElem?_cons_succ, c4, u1, u2]
          rw [if_pos (.inr (.inr hz))] at hres
          exact hkr hres h5 (st5.less (by simp))
        · have c4 : decide (((at_ - f.1 : Nat) : Int) < (z.1 : Int)) = false := decide_eq_false (by omega)
          have u3 : IntKind.u64.wrap ((f.1 : Int) + (z.1 : Int)) = ((f.1 + z.1 : Nat) : Int) := by rw [IntWalk.u64_in _ (by omega)]; omega
          simp only [wd, List.getElem?_toArray, List.getElem?_cons_zero, List.getElem?_cons_succ, c4, u1, u2, u3, strSlA_mid b _ _ f.1 (f.1 + z.1) (by omega) (by omega)]
          rw [if_neg (by
            intro q
            rcases q with q | q | q
            · exact q he
            · exact hf q
            · exact hz q)] at hres
          have hsl : (b.take (f.1 + z.1)).drop f.1 = (b.drop f.1).take z.1 := by rw [List.drop_take]; congr 1; omega
          have hsll : ((b.drop f.1).take z.1).length = z.1 := by rw [List.length_take, List.length_drop]; omega
          rw [hsl]
          have hmb : (m + 1) * b.length = m * b.length + b.length := by rw [Nat.add_mul, Nat.one_mul]
          refine callA_of (rdE_spec _ g5 (by rw [hsll]; omega)) fun v h6 hv f6 => ?_
          rw [hsll] at hv
          have hrl := w4.2.2.1
          cases hr : rdB (z.1 + 1) ⟨(b.drop f.1).take z.1, 0⟩ [] acc with
          | none =>
            rw [hr] at hv hres
            obtain ⟨e, s6⟩ := hv
            subst e
            simp only [wd, List.getElem?_toArray, List.getElem?_cons_zero, List.getElem?_cons_succ]
            exact hkr hres h6 (st5.trans ((s6.consR hrl).wide (fun b hb => hb) fun b hb => .inl hb))
          | some l =>
            rw [hr] at hv hres
            obtain ⟨x, S', e, g6, s6⟩ := hv
            subst e
            have hlen := rdB_len _ _ _ _ _ hr
            simp only [hsll] at hlen
            have e6 : IntKind.i64.wrap ((n : Int) + 1) = ((n + 1 : Nat) : Int) := by rw [IntWalk.i64_in _ (by omega)]; simp
            simp only [wd, List.getElem?_toArray, List.getElem?_cons_zero, List.getElem?_cons_succ, e6]
            have hrS' : r ∉ S' := fun q => by
              rcases (s6.own _ q).2 with q | q
              · exact hrS q
              · omega
            exact ih (n + 1) z.2 l h6 x _ S' (by omega) hres (w4.frame s6 hrS) g6 hrS' (st5.trans (s6.consR hrl)) (by omega)
    · have c2 : (z.2.err != 0) = true := by simp [he]
      simp only [wd, List.getElem?_toArray, List.getElem?_cons_zero, List.getElem?_cons_succ, c2]
      rw [if_pos (.inl he)] at hres
      exact hkr hres h5 (st5.less (by simp))
theorem parse_spec (b : List UInt8) (hb : b.length ≤ 1000000000) (hN : min (spansB b) b.length * b.length ≤ 3500000000000) :
    ACalls prog w0 n_run_parse [.string (str b)] h fun r h' => match prs b with
      | none => (∃ v e1 e2, r = .tuple #[v, e1, e2, .bool false]) ∧ Step h h' [] []
      | some (l, block, n) => ∃ x S', r = .tuple #[x, .int .i64 (block : Int), .int .i64 (n : Int), .bool true] ∧ Vec w0 h' 3 x l.length (l.flatMap ee) S' ∧ l.length ≤ 3500000000000 ∧ Step h h' [] S' := by
  refine ACalls.of_fit (by simp) fun f => c_run_parse (by simp) ?_
  simp only [s_run_parse]
  generalize hP : prs b = P
  by_cases hl : b.length < 24
  · have c1 : decide ((b.length : Int) < 24) = true := decide_eq_true (by omega)
    simp only [wd, List.getElem?_toArray, List.getElem?_cons_zero, List.getElem?_cons_succ, c1, retA_iff, oneOf_two]
    rw [prs, if_pos hl] at hP
    subst hP
    exact ⟨by simp, ⟨_, _, _, rfl⟩, .refl _ _ (by simp)⟩
  have c1 : decide ((b.length : Int) < 24) = false := decide_eq_false (by omega)
  have e1 : IntKind.i64.wrap ((b.length : Int) - 24) = ((b.length - 24 : Nat) : Int) := by rw [IntWalk.i64_in _ (by omega)]; omega
  simp only [wd, List.getElem?_toArray, List.getElem?_cons_zero, List.getElem?_cons_succ, c1, e1, strSlA_drop b _ _ (show b.length - 24 ≤ b.length by omega)]
  rw [prs, if_neg hl] at hP
  simp only at hP
  unfold spansB at hN
  refine callA_of (NewReader_spec _ (by simp; omega)) fun v h1 ⟨e, w1, s1⟩ f1 => ?_
  subst e
  generalize hs0 : (⟨b.drop (b.length - 24), 0⟩ : RS) = s0 at *
  have l1 := rdn_raw s0 4
  refine callA_of (RU32_spec w1) fun v h2 ⟨e, w2, s2⟩ f2 => ?_
  subst e
  generalize s0.raw 4 = a at *
  have u1 : IntKind.i64.wrap ((rdn a.1 : Nat) : Int) = ((rdn a.1 : Nat) : Int) := IntWalk.i64_in _ (by omega)
  simp only [wd, List.getElem?_toArray, List.getElem?_cons_zero, List.getElem?_cons_succ, u1]
  have l2 := rdn_raw a.2 4
  refine callA_of (RU32_spec w2) fun v h3 ⟨e, w3, s3⟩ f3 => ?_
  subst e
  generalize a.2.raw 4 = c at *
  have u2 : IntKind.i64.wrap ((rdn c.1 : Nat) : Int) = ((rdn c.1 : Nat) : Int) := IntWalk.i64_in _ (by omega)
  simp only [wd, List.getElem?_toArray, List.getElem?_cons_zero, List.getElem?_cons_succ, u2]
  have l3 := rdn_raw c.2 4
  refine callA_of (RU32_spec w3) fun v h4 ⟨e, w4, s4⟩ f4 => ?_
  subst e
  generalize c.2.raw 4 = d at *
  have u3 : IntKind.i64.wrap ((rdn d.1 : Nat) : Int) = ((rdn d.1 : Nat) : Int) := IntWalk.i64_in _ (by omega)
  simp only [wd, List.getElem?_toArray, List.getElem?_cons_zero, List.getElem?_cons_succ, u3]
  have l4 := rdn_raw d.2 4
  refine callA_of (RU32_spec w4) fun v h5 ⟨e, w5, s5⟩ f5 => ?_
  subst e
  generalize d.2.raw 4 = e at *
  have u4 : IntKind.i64.wrap ((rdn e.1 : Nat) : Int) = ((rdn e.1 : Nat) : Int) := IntWalk.i64_in _ (by omega)
  simp only [wd, List.getElem?_toArray, List.getElem?_cons_zero, List.getElem?_cons_succ, u4, e1]
  have s15 : Step h h5 [] [h.next] := s1.trans (s2.trans (s3.trans (s4.trans s5)))
  by_cases ha : b.length - 24 < rdn e.1
  · have c2 : decide (((b.length - 24 : Nat) : Int) < ((rdn e.1 : Nat) : Int)) = true := decide_eq_true (by omega)
    simp only [wd, List.getElem?_toArray, List.getElem?_cons_zero, List.getElem?_cons_succ, c2, retA_iff, oneOf_two]
    rw [if_pos ha] at hP
    subst hP
    exact ⟨by simp, ⟨_, _, _, rfl⟩, s15.less (by simp)⟩
  have c2 : decide (((b.length - 24 : Nat) : Int) < ((rdn e.1 : Nat) : Int)) = false := decide_eq_false (by omega)
  simp only [wd, List.getElem?_toArray, List.getElem?_cons_zero, List.getElem?_cons_succ, c2, e1, strSlA_mid b _ _ (rdn e.1) (b.length - 24) (by omega) (by omega)]
  rw [if_neg ha] at hP
  refine callA_of (NewReader_spec _ (by simp; omega)) fun v h6 ⟨e, w6, s6⟩ f6 => ?_
  subst e
  have hmin : min (rdn d.1 : Int) (b.length : Int) = ((min (rdn d.1) b.length : Nat) : Int) := by omega
  simp only [wd, List.getElem?_toArray, List.getElem?_cons_zero, List.getElem?_cons_succ, foldA_cons, foldA_nil, min2A_int, Option.bind_some, hmin]
  refine ⟨min (rdn d.1) b.length + 1, ?_⟩
  have s06 : Step h h6 [] [h5.next] := (s15.less (T := []) (by simp)).trans s6
  refine parse_loop (hh := h6) (res := prsG b (rdn e.1) (min (rdn d.1) b.length) ⟨(b.take (b.length - 24)).drop (rdn e.1), 0⟩ []) hb (by omega) hN (by omega) ?_ ?_ _ 0 _ [] h6 _ _ [] (by omega) rfl w6 .nil (by simp) (.refl _ _ (by simpa using w6.2.2.1)) (by simp)
  · intro l hl h7 x S7 y g7 s7 hlen
    have hl7 : lenSl x = some (.int .i64 (l.length : Int)) := g7.sl.lenv
    rw [hl] at hP
    simp only at hP
    simp only [hl7, wd, List.getElem?_toArray, List.getElem?_cons_zero, List.getElem?_cons_succ, retA_iff, oneOf_two]
    refine ⟨by simp [g7.gv.nj], ?_⟩
    by_cases hq : l.length = rdn c.1
    · rw [if_pos hq] at hP
      subst hP
      exact ⟨x, S7, by simp [hq], g7, hlen, (s06.trans s7).less fun b hb => List.mem_cons_of_mem _ hb⟩
    · rw [if_neg hq] at hP
      subst hP
      exact ⟨⟨x, .int .i64 (rdn a.1 : Nat), .int .i64 (rdn d.1 : Nat), by simp; omega⟩, (s06.trans s7).less (by simp)⟩
  · intro hl h7 s7
    rw [hl] at hP
    subst hP
    simp only [retA_iff, oneOf_two]
    exact ⟨by simp, ⟨_, _, _, rfl⟩, (s06.trans s7).less (by simp)⟩
end
end Go.Proofs.Ythjpddggnhgjhaa.Ah
