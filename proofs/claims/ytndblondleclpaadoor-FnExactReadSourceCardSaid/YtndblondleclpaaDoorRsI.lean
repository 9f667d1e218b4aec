/- Texts of sources, as the program reads them. Each theorem names its conditions. -/
import Derived.Test.YtndblondleclpaaDoorRsS
import Derived.Test.YtndblondleclpaaDoorRdI
import Derived.Test.YtndblondleclpaaDoorStI
import Derived.Lib.SplitLaws
namespace Go.Proofs.YtndblondleclpaaDoor
open Go.RowKit
set_option linter.unusedVariables false
set_option linter.unusedSimpArgs false

theorem split_words (s : ByteArray) : Lib.countB s ⟨#[32]⟩ + 1 = (spl 32 s.data.toList).length ∧ (Lib.splitB ⟨#[32]⟩ 0 (Lib.countB s ⟨#[32]⟩) s).map Value.string = cS (spl 32 s.data.toList) := by
  have d := Lib.splitB_data ⟨#[32]⟩ 0 (Lib.countB s ⟨#[32]⟩) s
  have e : Lib.splitK (⟨#[32]⟩ : ByteArray).data.toList 0 (Lib.countB s ⟨#[32]⟩) s.data.toList = spl 32 s.data.toList := split_spl 32 _ _ (Nat.le_refl _)
  rw [e] at d
  have n := Lib.splitB_all ⟨#[32]⟩ (by decide) 0 _ s rfl
  refine ⟨by rw [← n, ← d, List.length_map], ?_⟩
  rw [← d]
  unfold cS
  rw [List.map_map]
  refine List.map_congr_left fun x _ => ?_
  simp
theorem owS_new (w : World) {B : Nat} (hB : B ≤ w.heap.size) (ws : List (List UInt8)) (hl : ws.length ≤ 1048577) (e : TypeId) : OwS (w.alloc (.cells (cS ws).toArray e)) B (.slice (some ⟨w.heap.size, 0, none⟩) ws.length ws.length) ws := by
  refine ⟨cS_one _, .inr ⟨w.heap.size, ws.length, by rw [cS_len], hB, by rw [cS_len]; exact Nat.le_refl _, by simp [maxLen]; omega, by simp, fun i u hi => ?_, fun j hj => ?_⟩⟩
  · simp [hi]
  · have : j < (cS ws).length := by rw [cS_len]; exact hj
    simp [this]
theorem tp_le (l : List UInt8) (c : UInt8) : (Lib.trimPrefix l [c]).length ≤ l.length := by
  unfold Lib.trimPrefix; split <;> simp
theorem ts_le (l : List UInt8) (c : UInt8) : (Lib.trimSuffix l [c]).length ≤ l.length := by
  unfold Lib.trimSuffix; split <;> simp
theorem cut_leI (l : List UInt8) (c : UInt8) : (Lib.cut l [c]).1.length ≤ l.length ∧ (Lib.cut l [c]).2.1.length ≤ l.length := by
  rcases cut_spl c l with ⟨_, e, _⟩ | ⟨a, b, rfl, _, e, _⟩
  · rw [e]; simp
  · rw [e]; simp; omega
structure WI (q : List UInt8) (f b1 : Bool) (n1 : Int) (b2 : Bool) (n2 : Int) : Prop where
  no1 : b1 = false → ∀ st, stepI st q = none
  no2 : b1 = true → f ≠ b2 → ∀ st, stepI st q = none
  inn : b1 = true → f = b2 → ∀ st : PS, (st.ins || Lib.hasPrefix q [40]) = true → stepI st q = some ⟨true, st.H, st.P ++ [n1], st.G ++ [n2]⟩
  out : b1 = true → f = b2 → ∀ st : PS, (st.ins || Lib.hasPrefix q [40]) = false → stepI st q = some ⟨false, st.H ++ [n1], st.P, st.G⟩
  r1 : R64 n1
  r2 : R64 n2
theorem rdec_r64 (l : List UInt8) : R64 ((rdec l).getD 0) := by
  cases h : rdec l with
  | none => unfold R64; simp
  | some m => have := (rdec_some h).2; unfold R64; simp only [Option.getD_some]; omega
theorem word_I (q : List UInt8) {A Bt : List UInt8} {f : Bool} (hc : Lib.cut (Lib.trimSuffix (Lib.trimPrefix q [40]) [41]) [43] = (A, Bt, f)) :
    WI q f (rdec A).isSome ((rdec A).getD 0) (rdec Bt).isSome ((rdec Bt).getD 0) := by
  refine ⟨fun h st => ?_, fun h1 h2 st => ?_, fun h1 h2 st hi => ?_, fun h1 h2 st hi => ?_, rdec_r64 _, rdec_r64 _⟩
  · unfold stepI; rw [hc]; simp only
    cases hr : rdec A with
    | none => rfl
    | some t => rw [hr] at h; cases h
  · unfold stepI; rw [hc]; simp only
    cases hr : rdec A with
    | none => rfl
    | some t => simp only; rw [if_neg h2]
  · unfold stepI; rw [hc]; simp only
    cases hr : rdec A with
    | none => rw [hr] at h1; cases h1
    | some t => simp only; rw [if_pos h2, if_pos hi]; rfl
  · unfold stepI; rw [hc]; simp only
    cases hr : rdec A with
    | none => rw [hr] at h1; cases h1
    | some t => simp only; rw [if_pos h2, if_neg (by rw [hi]; simp)]; rfl
theorem foldI_next {ws : List (List UInt8)} {st0 st st' : PS} {i : Nat} {q : List UInt8} (hf : foldI st0 ws = foldI st (ws.drop i)) (hq : ws[i]? = some q) (hs : stepI st q = some st') : foldI st0 ws = foldI st' (ws.drop (i + 1)) := by
  have hi := (List.getElem?_eq_some_iff.1 hq).1
  rw [hf, List.drop_eq_getElem_cons hi, (List.getElem?_eq_some_iff.1 hq).2, foldI, hs]
theorem foldI_bad {ws : List (List UInt8)} {st0 st : PS} {i : Nat} {q : List UInt8} (hf : foldI st0 ws = foldI st (ws.drop i)) (hq : ws[i]? = some q) (hs : stepI st q = none) : foldI st0 ws = none := by
  have hi := (List.getElem?_eq_some_iff.1 hq).1
  rw [hf, List.drop_eq_getElem_cons hi, (List.getElem?_eq_some_iff.1 hq).2, foldI, hs]
theorem ri_fold {l : List UInt8} (h : foldI ⟨false, [], [], []⟩ (spl 32 l) = none) : rsS l = none := by rw [← rs_eq]; unfold rsI; rw [h]
theorem ri_end {l : List UInt8} {st : PS} (h : foldI ⟨false, [], [], []⟩ (spl 32 l) = some st) (hv : stxt st.H st.P st.G = l) : rsS l = some (st.H, st.P, st.G) := by rw [← rs_eq]; unfold rsI; rw [h]; simp only; rw [if_pos hv]
theorem ri_end_no {l : List UInt8} {st : PS} (h : foldI ⟨false, [], [], []⟩ (spl 32 l) = some st) (hv : stxt st.H st.P st.G ≠ l) : rsS l = none := by rw [← rs_eq]; unfold rsI; rw [h]; simp only; rw [if_neg hv]
theorem icp_eq {Q T : ByteArray} {q : List UInt8} {b : Bool} (hQ : Q.data.toList = q) (hT : (⟨(Lib.trimPrefix q [40]).toArray⟩ : ByteArray) = T) (hb : Lib.hasPrefix q [40] = b) (w : World) :
    Calls Tryd.prog 46 #[.string Q, .string ⟨#[40]⟩] w fun e w' => e = .returned (.tuple #[.string T, .bool b]) ∧ w' = w := by
  subst hQ; subst hT; subst hb; exact Tryd.strings_CutPrefix Q ⟨#[40]⟩ w
theorem ics_eq {Q T : ByteArray} {q : List UInt8} (hs : Q.size ≤ 1048577) (hQ : Q.data.toList = q) (hT : (⟨(Lib.trimSuffix q [41]).toArray⟩ : ByteArray) = T) (w : World) :
    Calls Tryd.prog 47 #[.string Q, .string ⟨#[41]⟩] w fun e w' => (∃ b, e = .returned (.tuple #[.string T, .bool b])) ∧ w' = w := by
  subst hQ; subst hT
  refine (Tryd.strings_CutSuffix Q ⟨#[41]⟩ w (by omega)).mono ?_
  rintro e w' ⟨rfl, rfl⟩
  exact ⟨⟨_, rfl⟩, rfl⟩
theorem icut_eq {Q A B : ByteArray} {q x y : List UInt8} {f : Bool} {m : Int} (hs : Q.size ≤ 1048577) (hQ : Q.data.toList = q) (hc : Lib.cut q [43] = (x, y, f)) (hA : (⟨x.toArray⟩ : ByteArray) = A) (hB : (⟨y.toArray⟩ : ByteArray) = B) (w : World) (hm : w.cell? ⟨0, 0, none⟩ = some (.int .i64 m)) :
    Calls Tryd.prog 40 #[.string Q, .string ⟨#[43]⟩] w fun e w' => e = .returned (.tuple #[.string A, .string B, .bool f]) ∧ Bl w w' := by
  subst hQ; subst hA; subst hB
  have H := Tryd.strings_Cut Q ⟨#[43]⟩ m w (by omega) hm
  rw [show Lib.cut Q.data.toList (⟨#[43]⟩ : ByteArray).data.toList = (x, y, f) from hc] at H
  refine H.mono ?_
  rintro e w' ⟨rfl, n, rfl⟩
  exact ⟨rfl, Drawn.below ⟨n, rfl⟩ _⟩
theorem ird_eq {A : ByteArray} {x : List UInt8} {n : Int} {b : Bool} (hs : A.size ≤ 1048577) (hA : A.data.toList = x) (hn : (rdec x).getD 0 = n) (hb : (rdec x).isSome = b) (w : World) (hE : Env w) :
    Calls Tryd.prog 41 #[.string A] w fun e w' => e = .returned (.tuple #[.int .i64 n, .bool b]) ∧ Bl w w' := by
  subst hA; subst hn; subst hb
  exact irdec_any A w (by omega) hE
theorem start2 (w : World) (W : World) (hW : W = ((w.alloc (.cells #[.slice none 0 0, .slice none 0 0, .slice none 0 0] 31)).alloc (.cells #[.slice none 0 0, .slice none 0 0, .slice none 0 0] 31))) :
    Bx W (w.heap.size + 1) #[.slice none 0 0, .slice none 0 0, .slice none 0 0] ∧ Bx W w.heap.size #[.slice none 0 0, .slice none 0 0, .slice none 0 0] ∧ Bl w W ∧ W.heap.size = w.heap.size + 2 := by
  subst hW
  have x0 := Bx.new (b := w.heap.size) w #[.slice none 0 0, .slice none 0 0, .slice none 0 0] 31 rfl
  exact ⟨Bx.new _ _ _ (by simp), x0.alloc _, bl_alloc (bl_alloc (bl_refl _) _) _, by simp⟩
theorem sizeD {A : ByteArray} {x : List UInt8} (h : A.data.toList = x) : A.size = x.length := by rw [Lib.size_eq A, h]

set_option maxRecDepth 100000 in
set_option maxHeartbeats 25600000 in
theorem impl_ReadSource (s : ByteArray) (w : World) (hs : s.size ≤ 1048576) (hE : Env w) :
    Calls Tryd.prog 21 #[.string s] w (RsP s.data.toList w) := by
  obtain ⟨l, hl⟩ : ∃ l, s.data.toList = l := ⟨_, rfl⟩
  have HE := Lib.hid hE
  clear hE
  have hSW := split_words s
  have hln : l.length ≤ 1048576 := by rw [← hl, ← Lib.size_eq s]; exact hs
  have HL := Lib.hid hl
  rw [hl] at hSW
  clear hl
  rw [HL.out]
  obtain ⟨ws, hws⟩ : ∃ ws, spl 32 l = ws := ⟨_, rfl⟩
  have hn1 : ws.length ≤ 1048577 := by rw [← hws]; have := spl_numB 32 l; omega
  have HQ := Lib.hid (show ∀ q ∈ ws, q.length ≤ 1048576 by
    intro q hq; rw [← hws] at hq; have := spl_lenB (c := 32) _ l (Nat.le_refl _) q hq; omega)
  have HWS := Lib.hid hws
  rw [hws] at hSW
  have HSW := Lib.hid hSW
  clear hws hSW
  obtain ⟨m, hm⟩ := HE.out.mx
  have HM := Lib.hid hm
  clear hm
  go_enter Tryd.func21, Tryd.ntmps21
  go_wp2_with fail
  obtain ⟨x2, r2, b2, z2⟩ := start2 w _ rfl
  generalize hW : ((w.alloc (.cells #[.slice none 0 0, .slice none 0 0, .slice none 0 0] 31)).alloc (.cells #[.slice none 0 0, .slice none 0 0, .slice none 0 0] 31)) = W2 at *
  clear hW
  have HSP := Tryd.strings_Split s ⟨#[32]⟩ m W2 (by omega) ((b2.cell (p := ⟨_, 0, none⟩) (cell_lt HM.out)).trans HM.out) (by decide)
  rw [HSW.out.1, HSW.out.2] at HSP
  refine HSP.mono ?_
  clear HSP
  rintro e w1 ⟨rfl, hw1⟩
  have ho := owS_new W2 (B := w.heap.size + 1) (by omega) ws hn1 9
  rw [← hw1] at ho
  have B1 : Bl W2 w1 := by rw [hw1]; exact bl_alloc (bl_refl _) _
  clear hw1
  rw [z2] at ho ⊢
  have D0 : Bg w w1 (w.heap.size + 1) (w.heap.size + 2) ws.length ws (.slice none 0 0) (.slice none 0 0) (.slice none 0 0) ⟨[], [], []⟩ :=
    ⟨x2.below B1, ownS_nil _ _, fun k hk => by rcases hk with q | q | q <;> simp [Value.ownBlock] at q, Nat.le_refl _, r2.below B1, bl_call b2 B1, ho, by omega, fun k hk => by rcases hk with q | q | q <;> simp [Value.ownBlock] at q⟩
  clear x2 r2 ho
  have BE := bl_call b2 B1
  have D00 := Lib.hid D0
  clear D0 b2 B1
  generalize w.heap.size + 2 = gw at *
  have hb : w.heap.size + 1 = w.heap.size + 1 := rfl
  obtain ⟨cw, hcw⟩ : ∃ c, c = ws.length := ⟨_, rfl⟩
  go_wp2_with fail
  go_loopw [5, 7, 8, 9, 10, 11, 12, 13, 14, 15, 16, 20] (fun s5 _ _ _ _ _ _ _ _ _ _ s20 wr => ∃ (h p g : Value) (st : PS) (i : Nat), s5 = .bool st.ins ∧ s20 = .int .i64 i ∧ i ≤ ws.length ∧ Hid (Bg w wr (w.heap.size + 1) gw ws.length ws h p g ⟨st.H, st.P, st.G⟩) ∧ Hid (foldI ⟨false, [], [], []⟩ ws = foldI st (ws.drop i) ∧ st.H.length ≤ i ∧ st.P.length ≤ i ∧ st.G.length ≤ i)) (fun _ _ _ _ _ _ _ _ _ _ _ s20 _ => ws.length - (intOf s20).toNat)
  case atStart => exact ⟨_, _, _, ⟨false, [], [], []⟩, 0, rfl, rfl, Nat.zero_le _, D00, Lib.hid ⟨by simp, Nat.le_refl _, Nat.le_refl _, Nat.le_refl _⟩⟩
  case round =>
    rcases hrel with ⟨h, p, g, ⟨ins, SH, SP, SG⟩, i, rfl, rfl, hi, HD, HF⟩
    simp only at HD HF ⊢
    clear D00 z2 hb hcw BE
    rcases Nat.lt_or_ge i ws.length with hlt | hge
    · obtain ⟨q, hq⟩ : ∃ q, ws[i]? = some q := ⟨_, List.getElem?_eq_getElem hlt⟩
      have hql := HQ.out q (List.mem_of_getElem? hq)
      have HQI := Lib.hid hq
      obtain ⟨Q, hQ⟩ : ∃ Q : ByteArray, (⟨q.toArray⟩ : ByteArray) = Q := ⟨_, rfl⟩
      have HQD := Lib.hid (show Q.data.toList = q by rw [← hQ])
      have hcwq : wr.cell? ⟨gw, i, none⟩ = some (.string Q) := by rw [← hQ]; exact HD.out.W.cell (cS_get hq)
      clear hq hQ
      obtain ⟨hp, hhp⟩ : ∃ b, Lib.hasPrefix q [40] = b := ⟨_, rfl⟩
      obtain ⟨T1, hT1⟩ : ∃ T : ByteArray, (⟨(Lib.trimPrefix q [40]).toArray⟩ : ByteArray) = T := ⟨_, rfl⟩
      have hT1D : T1.data.toList = Lib.trimPrefix q [40] := by rw [← hT1]
      obtain ⟨T2, hT2⟩ : ∃ T : ByteArray, (⟨(Lib.trimSuffix (Lib.trimPrefix q [40]) [41]).toArray⟩ : ByteArray) = T := ⟨_, rfl⟩
      have hT2D : T2.data.toList = Lib.trimSuffix (Lib.trimPrefix q [40]) [41] := by rw [← hT2]
      obtain ⟨x, y, f, hc⟩ : ∃ x y f, Lib.cut (Lib.trimSuffix (Lib.trimPrefix q [40]) [41]) [43] = (x, y, f) := ⟨_, _, _, rfl⟩
      obtain ⟨A, hA⟩ : ∃ T : ByteArray, (⟨x.toArray⟩ : ByteArray) = T := ⟨_, rfl⟩
      have hAD : A.data.toList = x := by rw [← hA]
      obtain ⟨Y, hY⟩ : ∃ T : ByteArray, (⟨y.toArray⟩ : ByteArray) = T := ⟨_, rfl⟩
      have hYD : Y.data.toList = y := by rw [← hY]
      have hW := word_I q hc
      obtain ⟨n1, hn1'⟩ : ∃ z, (rdec x).getD 0 = z := ⟨_, rfl⟩
      obtain ⟨b1, hb1⟩ : ∃ z, (rdec x).isSome = z := ⟨_, rfl⟩
      obtain ⟨n2, hn2⟩ : ∃ z, (rdec y).getD 0 = z := ⟨_, rfl⟩
      obtain ⟨b2, hb2⟩ : ∃ z, (rdec y).isSome = z := ⟨_, rfl⟩
      rw [hn1', hb1, hn2, hb2] at hW
      have HW := Lib.hid hW
      clear hW
      have HHP := Lib.hid hhp
      have HC1 := Lib.hid (fun w => icp_eq HQD.out hT1 hhp w)
      have HC2 := Lib.hid (fun w => ics_eq (by rw [sizeD hT1D]; have := tp_le q 40; omega) hT1D hT2 w)
      have HC3 := Lib.hid (fun w hm => icut_eq (m := m) (by rw [sizeD hT2D]; have := tp_le q 40; have := ts_le (Lib.trimPrefix q [40]) 41; omega) hT2D hc hA hY w hm)
      have hcl := cut_leI (Lib.trimSuffix (Lib.trimPrefix q [40]) [41]) 43
      rw [hc] at hcl
      simp only at hcl
      have HC4 := Lib.hid (fun w hE => ird_eq (by rw [sizeD hAD]; have := tp_le q 40; have := ts_le (Lib.trimPrefix q [40]) 41; omega) hAD hn1' hb1 w hE)
      have HC5 := Lib.hid (fun w hE => ird_eq (by rw [sizeD hYD]; have := tp_le q 40; have := ts_le (Lib.trimPrefix q [40]) 41; omega) hYD hn2 hb2 w hE)
      clear hhp hT1 hT1D hT2 hT2D hc hA hAD hY hYD hn1' hb1 hn2 hb2 hcl hql
      have HRN := Lib.hid (And.intro HW.out.r1 HW.out.r2)
      have BW := Lib.hid HD.out.B
      obtain ⟨cB, fB, zB⟩ := HD.out.X.out
      obtain ⟨cR, fR, zR⟩ := HD.out.R.out
      cases ins
      · cases hp
        · skip
          go_wp2_with fail
          refine (HC1.out _).mono ?_
          rintro e w9 ⟨rfl, rfl⟩
          go_wp2_with fail
          refine (HC2.out _).mono ?_
          rintro e w9 ⟨⟨bs, rfl⟩, rfl⟩
          go_wp2_with fail
          refine (HC3.out _ ((HD.out.B.cell (p := ⟨_, 0, none⟩) (cell_lt HM.out)).trans HM.out)).mono ?_
          rintro e w3 ⟨rfl, B3⟩
          go_wp2_with fail
          refine (HC4.out _ (HE.out.below (bl_call HD.out.B B3))).mono ?_
          rintro e w4 ⟨rfl, B4⟩
          have B34 := bl_call B3 B4
          clear B3 B4
          go_wp2_with fail
          refine (HC5.out _ (HE.out.below (bl_call HD.out.B B34))).mono ?_
          rintro e w5 ⟨rfl, B5⟩
          have BB := bl_call B34 B5
          clear B34 B5
          have HD3 := Lib.hid (HD.out.bl BB)
          clear cB fB zB cR fR zR hcwq
          obtain ⟨cB, fB, zB⟩ := HD3.out.X.out
          obtain ⟨cR, fR, zR⟩ := HD3.out.R.out
          cases hb1 : b1 with
          | false =>
            have HB := Lib.hid (ri_fold (l := l) (by rw [HWS.out]; exact foldI_bad HF.out.1 HQI.out (HW.out.no1 hb1 _)))
            clear hb1
            go_wp2
            refine bodyPost_ret (v := .tuple #[.agg #[.slice none 0 0, .slice none 0 0, .slice none 0 0], .bool false]) (by simp only [results, Tryd.results21]; go_simp) rfl ?_
            refine rs_bad HB.out ?_
            repeat first | (with_reducible exact HD3.out.B) | (with_reducible refine bl_set ?_ (by first | exact Nat.le_refl _ | (simp; done) | (simp; omega)) _)
          | true =>
            by_cases hfb : f = b2
            · have HST := Lib.hid (HW.out.out hb1 hfb ⟨false, SH, SP, SG⟩ (by rw [HHP.out]; rfl))
              have hff : (f == b2) = true := by rw [hfb]; exact beq_self_eq_true _
              have hfn : (f != b2) = false := by rw [hfb]; simp
              clear hfb hb1
              have HLN := Lib.hid (show SH.length ≤ 1048577 by have := HF.out.2; (try simp only at this); omega)
              go_wp2_with (at_builtin; refine wpList_append_one rfl _ _ rfl (w.heap.size + 1) _ SH (by rfl) HD3.out.O.1 _ HRN.out.1 (by rfl) (by have := HLN.out; omega) (by have := HD3.out.bb; have := HD3.out.X.out.2.2; omega) ?_; intro v' wn ho hg hor; obtain ⟨P2, hP2⟩ : ∃ z, z = SH ++ [n1] := ⟨_, rfl⟩; rw [← hP2] at ho; have HP2 := Lib.hid hP2; have hap := HD3.out.app0 ho hg hor (Nat.le_succ _); clear hP2 hg hor; obtain ⟨a1, c1, rfl, _⟩ := ho.form; obtain ⟨xN, D1⟩ := hap; have HD4 := Lib.hid D1; clear D1 ho cB fB zB cR fR zR; obtain ⟨cB, fB, zB⟩ := xN.out)
              go_wp2
              go_roundw
              case rel => exact ⟨_, _, _, ⟨false, P2, SP, SG⟩, i + 1, rfl, by simp, by omega, HD4, Lib.hid ⟨foldI_next HF.out.1 HQI.out (by rw [HST.out, HP2.out]), by have := HF.out.2.1; (try simp only at this ⊢); rw [HP2.out]; simp; omega, by have := HF.out.2.2.1; (try simp only at this ⊢); omega, by have := HF.out.2.2.2; (try simp only at this ⊢); omega⟩⟩
              case measure => simp only [intOf, Int.toNat_natCast]; omega
            · have HB := Lib.hid (ri_fold (l := l) (by rw [HWS.out]; exact foldI_bad HF.out.1 HQI.out (HW.out.no2 hb1 hfb _)))
              have hff : (f == b2) = false := beq_eq_false_iff_ne.2 hfb
              have hfn : (f != b2) = true := by simpa using hfb
              clear hfb hb1
              go_wp2
              refine bodyPost_ret (v := .tuple #[.agg #[.slice none 0 0, .slice none 0 0, .slice none 0 0], .bool false]) (by simp only [results, Tryd.results21]; go_simp) rfl ?_
              refine rs_bad HB.out ?_
              repeat first | (with_reducible exact HD3.out.B) | (with_reducible refine bl_set ?_ (by first | exact Nat.le_refl _ | (simp; done) | (simp; omega)) _)
        · skip
          go_wp2_with fail
          refine (HC1.out _).mono ?_
          rintro e w9 ⟨rfl, rfl⟩
          go_wp2_with fail
          refine (HC2.out _).mono ?_
          rintro e w9 ⟨⟨bs, rfl⟩, rfl⟩
          go_wp2_with fail
          refine (HC3.out _ ((HD.out.B.cell (p := ⟨_, 0, none⟩) (cell_lt HM.out)).trans HM.out)).mono ?_
          rintro e w3 ⟨rfl, B3⟩
          go_wp2_with fail
          refine (HC4.out _ (HE.out.below (bl_call HD.out.B B3))).mono ?_
          rintro e w4 ⟨rfl, B4⟩
          have B34 := bl_call B3 B4
          clear B3 B4
          go_wp2_with fail
          refine (HC5.out _ (HE.out.below (bl_call HD.out.B B34))).mono ?_
          rintro e w5 ⟨rfl, B5⟩
          have BB := bl_call B34 B5
          clear B34 B5
          have HD3 := Lib.hid (HD.out.bl BB)
          clear cB fB zB cR fR zR hcwq
          obtain ⟨cB, fB, zB⟩ := HD3.out.X.out
          obtain ⟨cR, fR, zR⟩ := HD3.out.R.out
          cases hb1 : b1 with
          | false =>
            have HB := Lib.hid (ri_fold (l := l) (by rw [HWS.out]; exact foldI_bad HF.out.1 HQI.out (HW.out.no1 hb1 _)))
            clear hb1
            go_wp2
            refine bodyPost_ret (v := .tuple #[.agg #[.slice none 0 0, .slice none 0 0, .slice none 0 0], .bool false]) (by simp only [results, Tryd.results21]; go_simp) rfl ?_
            refine rs_bad HB.out ?_
            repeat first | (with_reducible exact HD3.out.B) | (with_reducible refine bl_set ?_ (by first | exact Nat.le_refl _ | (simp; done) | (simp; omega)) _)
          | true =>
            by_cases hfb : f = b2
            · have HST := Lib.hid (HW.out.inn hb1 hfb ⟨false, SH, SP, SG⟩ (by rw [HHP.out]; rfl))
              have hff : (f == b2) = true := by rw [hfb]; exact beq_self_eq_true _
              have hfn : (f != b2) = false := by rw [hfb]; simp
              clear hfb hb1
              have HLN := Lib.hid (show SP.length ≤ 1048577 ∧ SG.length ≤ 1048577 by have := HF.out.2; (try simp only at this); omega)
              go_wp2_with (at_builtin; first | (refine wpList_append_one rfl _ _ rfl (w.heap.size + 1) _ SP (by rfl) HD3.out.O.2.1 _ HRN.out.1 (by rfl) (by have := HLN.out; omega) (by have := HD3.out.bb; have := HD3.out.X.out.2.2; omega) ?_; intro v' wn ho hg hor; obtain ⟨P2, hP2⟩ : ∃ z, z = SP ++ [n1] := ⟨_, rfl⟩; rw [← hP2] at ho; have HP2 := Lib.hid hP2; have hap := HD3.out.app1 ho hg hor (Nat.le_succ _); clear hP2 hg hor; obtain ⟨a1, c1, rfl, _⟩ := ho.form; obtain ⟨xN, D1⟩ := hap; have HD4 := Lib.hid D1; clear D1 ho cB fB zB cR fR zR; obtain ⟨cB, fB, zB⟩ := xN.out; obtain ⟨cG, fG, zG⟩ := HD4.out.X.out) | (refine wpList_append_one rfl _ _ rfl (w.heap.size + 1) _ SG (by rfl) HD4.out.O.2.2.1 _ HRN.out.2 (by first | rfl | (rw [World.heap_size_setCell]; rfl) | (simp; rfl) | (simp; done)) (by have := HLN.out; omega) (by have := HD4.out.bb; have := HD4.out.X.out.2.2; omega) ?_; intro v' wm ho hg hor; obtain ⟨G2, hG2⟩ : ∃ z, z = SG ++ [n2] := ⟨_, rfl⟩; rw [← hG2] at ho; have HG2 := Lib.hid hG2; have hap := HD4.out.app2 ho hg hor (Nat.le_succ _); clear hG2 hg hor; obtain ⟨a2, c2, rfl, _⟩ := ho.form; obtain ⟨xM, D2⟩ := hap; have HD5 := Lib.hid D2; clear D2 ho cB fB zB cG fG zG; obtain ⟨cB, fB, zB⟩ := xM.out))
              go_wp2
              go_roundw
              case rel => exact ⟨_, _, _, ⟨true, SH, P2, G2⟩, i + 1, rfl, by simp, by omega, HD5, Lib.hid ⟨foldI_next HF.out.1 HQI.out (by rw [HST.out, HP2.out, HG2.out]), by have := HF.out.2.1; (try simp only at this ⊢); omega, by have := HF.out.2.2.1; (try simp only at this ⊢); rw [HP2.out]; simp; omega, by have := HF.out.2.2.2; (try simp only at this ⊢); rw [HG2.out]; simp; omega⟩⟩
              case measure => simp only [intOf, Int.toNat_natCast]; omega
            · have HB := Lib.hid (ri_fold (l := l) (by rw [HWS.out]; exact foldI_bad HF.out.1 HQI.out (HW.out.no2 hb1 hfb _)))
              have hff : (f == b2) = false := beq_eq_false_iff_ne.2 hfb
              have hfn : (f != b2) = true := by simpa using hfb
              clear hfb hb1
              go_wp2
              refine bodyPost_ret (v := .tuple #[.agg #[.slice none 0 0, .slice none 0 0, .slice none 0 0], .bool false]) (by simp only [results, Tryd.results21]; go_simp) rfl ?_
              refine rs_bad HB.out ?_
              repeat first | (with_reducible exact HD3.out.B) | (with_reducible refine bl_set ?_ (by first | exact Nat.le_refl _ | (simp; done) | (simp; omega)) _)
      · skip
        go_wp2_with fail
        refine (HC1.out _).mono ?_
        rintro e w9 ⟨rfl, rfl⟩
        go_wp2_with fail
        refine (HC2.out _).mono ?_
        rintro e w9 ⟨⟨bs, rfl⟩, rfl⟩
        go_wp2_with fail
        refine (HC3.out _ ((HD.out.B.cell (p := ⟨_, 0, none⟩) (cell_lt HM.out)).trans HM.out)).mono ?_
        rintro e w3 ⟨rfl, B3⟩
        go_wp2_with fail
        refine (HC4.out _ (HE.out.below (bl_call HD.out.B B3))).mono ?_
        rintro e w4 ⟨rfl, B4⟩
        have B34 := bl_call B3 B4
        clear B3 B4
        go_wp2_with fail
        refine (HC5.out _ (HE.out.below (bl_call HD.out.B B34))).mono ?_
        rintro e w5 ⟨rfl, B5⟩
        have BB := bl_call B34 B5
        clear B34 B5
        have HD3 := Lib.hid (HD.out.bl BB)
        clear cB fB zB cR fR zR hcwq
        obtain ⟨cB, fB, zB⟩ := HD3.out.X.out
        obtain ⟨cR, fR, zR⟩ := HD3.out.R.out
        cases hb1 : b1 with
        | false =>
          have HB := Lib.hid (ri_fold (l := l) (by rw [HWS.out]; exact foldI_bad HF.out.1 HQI.out (HW.out.no1 hb1 _)))
          clear hb1
          go_wp2
          refine bodyPost_ret (v := .tuple #[.agg #[.slice none 0 0, .slice none 0 0, .slice none 0 0], .bool false]) (by simp only [results, Tryd.results21]; go_simp) rfl ?_
          refine rs_bad HB.out ?_
          repeat first | (with_reducible exact HD3.out.B) | (with_reducible refine bl_set ?_ (by first | exact Nat.le_refl _ | (simp; done) | (simp; omega)) _)
        | true =>
          by_cases hfb : f = b2
          · have HST := Lib.hid (HW.out.inn hb1 hfb ⟨true, SH, SP, SG⟩ (by rw [HHP.out]; rfl))
            have hff : (f == b2) = true := by rw [hfb]; exact beq_self_eq_true _
            have hfn : (f != b2) = false := by rw [hfb]; simp
            clear hfb hb1
            have HLN := Lib.hid (show SP.length ≤ 1048577 ∧ SG.length ≤ 1048577 by have := HF.out.2; (try simp only at this); omega)
            go_wp2_with (at_builtin; first | (refine wpList_append_one rfl _ _ rfl (w.heap.size + 1) _ SP (by rfl) HD3.out.O.2.1 _ HRN.out.1 (by rfl) (by have := HLN.out; omega) (by have := HD3.out.bb; have := HD3.out.X.out.2.2; omega) ?_; intro v' wn ho hg hor; obtain ⟨P2, hP2⟩ : ∃ z, z = SP ++ [n1] := ⟨_, rfl⟩; rw [← hP2] at ho; have HP2 := Lib.hid hP2; have hap := HD3.out.app1 ho hg hor (Nat.le_succ _); clear hP2 hg hor; obtain ⟨a1, c1, rfl, _⟩ := ho.form; obtain ⟨xN, D1⟩ := hap; have HD4 := Lib.hid D1; clear D1 ho cB fB zB cR fR zR; obtain ⟨cB, fB, zB⟩ := xN.out; obtain ⟨cG, fG, zG⟩ := HD4.out.X.out) | (refine wpList_append_one rfl _ _ rfl (w.heap.size + 1) _ SG (by rfl) HD4.out.O.2.2.1 _ HRN.out.2 (by first | rfl | (rw [World.heap_size_setCell]; rfl) | (simp; rfl) | (simp; done)) (by have := HLN.out; omega) (by have := HD4.out.bb; have := HD4.out.X.out.2.2; omega) ?_; intro v' wm ho hg hor; obtain ⟨G2, hG2⟩ : ∃ z, z = SG ++ [n2] := ⟨_, rfl⟩; rw [← hG2] at ho; have HG2 := Lib.hid hG2; have hap := HD4.out.app2 ho hg hor (Nat.le_succ _); clear hG2 hg hor; obtain ⟨a2, c2, rfl, _⟩ := ho.form; obtain ⟨xM, D2⟩ := hap; have HD5 := Lib.hid D2; clear D2 ho cB fB zB cG fG zG; obtain ⟨cB, fB, zB⟩ := xM.out))
            go_wp2
            go_roundw
            case rel => exact ⟨_, _, _, ⟨true, SH, P2, G2⟩, i + 1, rfl, by simp, by omega, HD5, Lib.hid ⟨foldI_next HF.out.1 HQI.out (by rw [HST.out, HP2.out, HG2.out]), by have := HF.out.2.1; (try simp only at this ⊢); omega, by have := HF.out.2.2.1; (try simp only at this ⊢); rw [HP2.out]; simp; omega, by have := HF.out.2.2.2; (try simp only at this ⊢); rw [HG2.out]; simp; omega⟩⟩
            case measure => simp only [intOf, Int.toNat_natCast]; omega
          · have HB := Lib.hid (ri_fold (l := l) (by rw [HWS.out]; exact foldI_bad HF.out.1 HQI.out (HW.out.no2 hb1 hfb _)))
            have hff : (f == b2) = false := beq_eq_false_iff_ne.2 hfb
            have hfn : (f != b2) = true := by simpa using hfb
            clear hfb hb1
            go_wp2
            refine bodyPost_ret (v := .tuple #[.agg #[.slice none 0 0, .slice none 0 0, .slice none 0 0], .bool false]) (by simp only [results, Tryd.results21]; go_simp) rfl ?_
            refine rs_bad HB.out ?_
            repeat first | (with_reducible exact HD3.out.B) | (with_reducible refine bl_set ?_ (by first | exact Nat.le_refl _ | (simp; done) | (simp; omega)) _)
    · obtain rfl : i = ws.length := by omega
      have HFE := Lib.hid (show foldI ⟨false, [], [], []⟩ (spl 32 l) = some ⟨ins, SH, SP, SG⟩ by rw [HWS.out, HF.out.1, List.drop_length]; rfl)
      have HSL := Lib.hid HD.out.O.sl
      obtain ⟨ah, ch, hh, _⟩ := HD.out.O.1.form
      obtain ⟨ap, cp, hpp, _⟩ := HD.out.O.2.1.form
      obtain ⟨ag, cg, hg, _⟩ := HD.out.O.2.2.1.form
      subst hh
      subst hpp
      subst hg
      obtain ⟨cB, fB, zB⟩ := HD.out.X.out
      obtain ⟨cR, fR, zR⟩ := HD.out.R.out
      go_wp2_with fail
      refine (impl_SourceText _ _ _ ⟨SH, SP, SG⟩ _ HSL.out (HE.out.below HD.out.B).tab).mono ?_
      rintro e w5 ⟨rfl, B5⟩
      have HD3 := Lib.hid (HD.out.bl B5)
      clear cB fB zB cR fR zR
      obtain ⟨cB, fB, zB⟩ := HD3.out.X.out
      obtain ⟨cR, fR, zR⟩ := HD3.out.R.out
      by_cases hq : stxt SH SP SG = l
      · have HG := Lib.hid (ri_end HFE.out hq)
        have hcmp : (stxt SH SP SG == s.toList) = true := by rw [ByteArray.toList_eq, HL.out]; exact beq_iff_eq.2 hq
        clear hq
        go_wp2
        refine bodyPost_ret (v := .tuple #[.agg #[.slice ah SH.length ch, .slice ap SP.length cp, .slice ag SG.length cg], .bool true]) (by simp only [results, Tryd.results21]; go_simp) rfl ?_
        exact rs_good HG.out HD3.out (only_set3 _ _ _ _ _)
      · have HB := Lib.hid (ri_end_no HFE.out hq)
        have hcmp : (stxt SH SP SG == s.toList) = false := by rw [ByteArray.toList_eq, HL.out]; exact beq_eq_false_iff_ne.2 hq
        clear hq
        go_wp2
        refine bodyPost_ret (v := .tuple #[.agg #[.slice none 0 0, .slice none 0 0, .slice none 0 0], .bool false]) (by simp only [results, Tryd.results21]; go_simp) rfl ?_
        refine rs_bad HB.out ?_
        repeat first | (with_reducible exact HD3.out.B) | (with_reducible refine bl_set ?_ (by first | exact Nat.le_refl _ | (simp; done) | (simp; omega)) _)

end Go.Proofs.YtndblondleclpaaDoor
