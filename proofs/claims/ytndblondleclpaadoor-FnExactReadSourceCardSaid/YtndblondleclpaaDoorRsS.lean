/- Texts of sources, as the reference reads them. Each theorem names its conditions. -/
import Derived.Test.YtndblondleclpaaDoorBag
import Derived.Test.YtndblondleclpaaDoorSrcS
namespace Go.Proofs.YtndblondleclpaaDoor
open Go.RowKit
set_option linter.unusedVariables false
set_option linter.unusedSimpArgs false


/-- What both return. -/
noncomputable def rsF (l : List UInt8) : Src × Bool := match rsS l with
  | some x => (⟨x.1, x.2.1, x.2.2⟩, true)
  | none => (⟨[], [], []⟩, false)
theorem rsF_none {l : List UInt8} (h : rsS l = none) : rsF l = (⟨[], [], []⟩, false) := by unfold rsF; rw [h]
theorem rsF_some {l : List UInt8} {A B C : List Int} (h : rsS l = some (A, B, C)) : rsF l = (⟨A, B, C⟩, true) := by unfold rsF; rw [h]
def RsP (l : List UInt8) (w : World) (e : Ending) (w' : World) : Prop :=
  ∃ h p g, e = .returned (.tuple #[.agg #[h, p, g], .bool (rsF l).2]) ∧ OwnS w' w.heap.size h p g (rsF l).1 ∧ Bl w w'
theorem ownS_nil (w : World) (B : Nat) : OwnS w B (.slice none 0 0) (.slice none 0 0) (.slice none 0 0) ⟨[], [], []⟩ :=
  ⟨Own.nil _ _, Own.nil _ _, Own.nil _ _, fun k h => by simp [Value.ownBlock] at h, fun k h => by simp [Value.ownBlock] at h, fun k h => by simp [Value.ownBlock] at h⟩
theorem rs_bad {l : List UInt8} {w w' : World} (h : rsS l = none) (hb : Bl w w') : RsP l w (.returned (.tuple #[.agg #[.slice none 0 0, .slice none 0 0, .slice none 0 0], .bool false])) w' := by
  unfold RsP
  rw [rsF_none h]
  exact ⟨_, _, _, rfl, ownS_nil _ _, hb⟩
theorem bl_set3 {w wr : World} (h : Bl w wr) (b : Nat) (hb : w.heap.size ≤ b) (x y z : Value) : Bl w (((wr.setCell ⟨b, 0, none⟩ x).setCell ⟨b, 1, none⟩ y).setCell ⟨b, 2, none⟩ z) :=
  bl_set (bl_set (bl_set h (by simpa using hb) _) (by simpa using hb) _) (by simpa using hb) _
theorem only_set3 (wr : World) (b : Nat) (x y z : Value) : Only wr (((wr.setCell ⟨b, 0, none⟩ x).setCell ⟨b, 1, none⟩ y).setCell ⟨b, 2, none⟩ z) (fun k => k = b) :=
  ((only_setB wr ⟨b, 0, none⟩ x).trans (only_setB _ ⟨b, 1, none⟩ y)).trans (only_setB _ ⟨b, 2, none⟩ z)
theorem rs_good {l : List UInt8} {w wr w' : World} {b gw cw : Nat} {ws : List (List UInt8)} {h p g : Value} {s : Src} (hr : rsS l = some (s.H, s.P, s.G)) (D : Bg w wr b gw cw ws h p g s) (ho : Only wr w' (fun k => k = w.heap.size)) :
    RsP l w (.returned (.tuple #[.agg #[h, p, g], .bool true])) w' := by
  unfold RsP
  rw [rsF_some hr]
  have hn : ∀ k, w.heap.size + 1 ≤ k → ¬ (k = w.heap.size) := fun k hk e => by omega
  refine ⟨h, p, g, rfl, ?_, Below.only D.B ho D.B.size (fun k hk => by omega)⟩
  exact OwnS.mono ⟨D.O.1.only ho (fun k e => hn k (D.O.1.lt k e).1), D.O.2.1.only ho (fun k e => hn k (D.O.2.1.lt k e).1), D.O.2.2.1.only ho (fun k e => hn k (D.O.2.2.1.lt k e).1), D.O.2.2.2⟩ (Nat.le_succ _)
/-- One word read. -/
theorem fold_next {ws : List (List UInt8)} {st0 st st' : RS} {i : Nat} {q : List UInt8} (hf : foldS st0 ws = foldS st (ws.drop i)) (hq : ws[i]? = some q) (hs : stepS st q = some st') : foldS st0 ws = foldS st' (ws.drop (i + 1)) := by
  have hi := (List.getElem?_eq_some_iff.1 hq).1
  rw [hf, List.drop_eq_getElem_cons hi, (List.getElem?_eq_some_iff.1 hq).2, foldS, hs]
theorem fold_bad {ws : List (List UInt8)} {st0 st : RS} {i : Nat} {q : List UInt8} (hf : foldS st0 ws = foldS st (ws.drop i)) (hq : ws[i]? = some q) (hs : stepS st q = none) : foldS st0 ws = none := by
  have hi := (List.getElem?_eq_some_iff.1 hq).1
  rw [hf, List.drop_eq_getElem_cons hi, (List.getElem?_eq_some_iff.1 hq).2, foldS, hs]
theorem rs_fold {l : List UInt8} (h : foldS ⟨false, false, [], [], []⟩ (spl 32 l) = none) : rsS l = none := by unfold rsS; rw [h]
theorem rs_end {l : List UInt8} {st : RS} (h : foldS ⟨false, false, [], [], []⟩ (spl 32 l) = some st) (hv : st.ins = st.ended ∧ VS st.H st.P st.G) : rsS l = some (st.H, st.P, st.G) := by unfold rsS; rw [h]; simp only; rw [if_pos hv]
theorem rs_end_no {l : List UInt8} {st : RS} (h : foldS ⟨false, false, [], [], []⟩ (spl 32 l) = some st) (hv : ¬ (st.ins = st.ended ∧ VS st.H st.P st.G)) : rsS l = none := by unfold rsS; rw [h]; simp only; rw [if_neg hv]
theorem st_ended {st : RS} {q : List UInt8} (h : st.ended = true) : stepS st q = none := by unfold stepS; rw [if_pos (.inl h)]
theorem st_empty {st : RS} {q : List UInt8} (h : q = []) : stepS st q = none := by unfold stepS; rw [if_pos (.inr h)]
theorem st_bad {st : RS} {q w2 : List UInt8} (he : st.ended = false) (hq : q ≠ []) (h2 : w2S st.ins q = w2) (h : wordS w2 = none) : stepS st q = none := by
  unfold stepS; rw [if_neg (by simp [he, hq]), h2, h]
theorem st_in {st : RS} {q w2 : List UInt8} {n g : Int} (he : st.ended = false) (hq : q ≠ []) (h2 : w2S st.ins q = w2) (h : wordS w2 = some (n, g)) (hi : (st.ins || opS st.ins q) = true) :
    stepS st q = some ⟨true, clS st.ins q, st.H, st.P ++ [n], st.G ++ [g]⟩ := by
  unfold stepS; rw [if_neg (by simp [he, hq]), h2, h]; simp only; rw [if_pos hi]
theorem st_out {st : RS} {q w2 : List UInt8} {n g : Int} (he : st.ended = false) (hq : q ≠ []) (h2 : w2S st.ins q = w2) (h : wordS w2 = some (n, g)) (hi : (st.ins || opS st.ins q) = false) (hg : ¬ 0 < g) :
    stepS st q = some ⟨false, false, st.H ++ [n], st.P, st.G⟩ := by
  unfold stepS; rw [if_neg (by simp [he, hq]), h2, h]; simp only; rw [if_neg (by simp [hi]), if_neg hg]
theorem st_out_no {st : RS} {q w2 : List UInt8} {n g : Int} (he : st.ended = false) (hq : q ≠ []) (h2 : w2S st.ins q = w2) (h : wordS w2 = some (n, g)) (hi : (st.ins || opS st.ins q) = false) (hg : 0 < g) :
    stepS st q = none := by
  unfold stepS; rw [if_neg (by simp [he, hq]), h2, h]; simp only; rw [if_neg (by simp [hi]), if_pos hg]
theorem str_last {s : ByteArray} (h : 0 < s.size) : s.data.toList.getLast? = some (s[s.size - 1]'(by omega)) := by
  have := str_ix (s := s) (i := s.size - 1) (by omega)
  rw [List.getLast?_eq_getElem?, ← Lib.size_eq s]; exact this
theorem str_front {s : ByteArray} : (s.extract 0 (s.size - 1)).data.toList = s.data.toList.dropLast := by
  rw [Lib.extract_data, List.dropLast_eq_take, ← Lib.size_eq s]; simp
theorem own_madeR (w : World) {B : Nat} (hB : B ≤ w.heap.size) : Own (w.alloc (.cells #[] 2)) B (.slice (some ⟨w.heap.size, 0, none⟩) 0 0) [] := own_made w hB

theorem size_alloc1 (w : World) (o : Obj) : (w.alloc o).heap.size = w.heap.size + 1 := by simp
theorem wordS_rng {w : List UInt8} {n g : Int} (h : wordS w = some (n, g)) : R64 n ∧ R64 g := by
  unfold wordS at h
  cases hr : rdec (spl 43 w).head! with
  | none => rw [hr] at h; cases h
  | some m =>
    rw [hr] at h
    simp only at h
    have b1 := (rdec_some hr).2
    unfold R64
    by_cases h1 : (spl 43 w).length = 1
    · rw [if_pos h1] at h
      simp only [Option.some.injEq, Prod.mk.injEq] at h
      omega
    · rw [if_neg h1] at h
      by_cases h2 : (spl 43 w).length = 2
      · rw [if_pos h2] at h
        cases hr2 : rdec (spl 43 w)[1]! with
        | none => rw [hr2] at h; cases h
        | some k =>
          rw [hr2] at h
          simp only at h
          have b2 := (rdec_some hr2).2
          by_cases h3 : 0 < k
          · rw [if_pos h3] at h
            simp only [Option.some.injEq, Prod.mk.injEq] at h
            omega
          · rw [if_neg h3] at h; cases h
      · rw [if_neg h2] at h; cases h
theorem OwX.mono {w : World} {B B' : Nat} {v : Value} {cs : List Value} (h : OwX w B v cs) (hB : B' ≤ B) : OwX w B' v cs := by
  refine ⟨h.1, ?_⟩
  rcases h.2 with q | ⟨g, cap, e, h1, q⟩
  · exact .inl q
  · exact .inr ⟨g, cap, e, Nat.le_trans hB h1, q⟩
theorem apart_of {a b : Nat} (h : a ≠ b) (n c m d : Nat) : Apart (.slice (some ⟨a, 0, none⟩) n c) (.slice (some ⟨b, 0, none⟩) m d) := fun k e q => by
  simp [Value.ownBlock] at e q; omega
/-- The boxes at the reference's start. -/
theorem start5 (w : World) (W : World) (hW : W = ((((w.alloc (.cells #[.slice none 0 0, .slice none 0 0, .slice none 0 0] 31)).alloc (.cells #[] 2)).alloc (.cells #[] 2)).alloc (.cells #[] 2)).alloc (.cells #[.slice (some ⟨w.heap.size + 1, 0, none⟩) 0 0, .slice (some ⟨w.heap.size + 1 + 1, 0, none⟩) 0 0, .slice (some ⟨w.heap.size + 1 + 1 + 1, 0, none⟩) 0 0] 31)) :
    Bx W (w.heap.size + 1 + 1 + 1 + 1) #[.slice (some ⟨w.heap.size + 1, 0, none⟩) 0 0, .slice (some ⟨w.heap.size + 1 + 1, 0, none⟩) 0 0, .slice (some ⟨w.heap.size + 1 + 1 + 1, 0, none⟩) 0 0] ∧
    OwnS W (w.heap.size + 1) (.slice (some ⟨w.heap.size + 1, 0, none⟩) 0 0) (.slice (some ⟨w.heap.size + 1 + 1, 0, none⟩) 0 0) (.slice (some ⟨w.heap.size + 1 + 1 + 1, 0, none⟩) 0 0) ⟨[], [], []⟩ ∧
    Bx W w.heap.size #[.slice none 0 0, .slice none 0 0, .slice none 0 0] ∧ Bl w W ∧ W.heap.size = w.heap.size + 5 := by
  subst hW
  have o1 := own_madeR (w.alloc (.cells #[.slice none 0 0, .slice none 0 0, .slice none 0 0] 31)) (B := w.heap.size + 1) (by simp)
  have o2 := own_madeR ((w.alloc (.cells #[.slice none 0 0, .slice none 0 0, .slice none 0 0] 31)).alloc (.cells #[] 2)) (B := w.heap.size + 1) (by simp)
  have o3 := own_madeR (((w.alloc (.cells #[.slice none 0 0, .slice none 0 0, .slice none 0 0] 31)).alloc (.cells #[] 2)).alloc (.cells #[] 2)) (B := w.heap.size + 1) (by first | (simp; done) | (simp; omega))
  have x0 := Bx.new (b := w.heap.size) w #[.slice none 0 0, .slice none 0 0, .slice none 0 0] 31 rfl
  simp only [size_alloc1] at o1 o2 o3
  refine ⟨Bx.new _ _ _ (by simp), ⟨(((o1.alloc _).alloc _).alloc _), ((o2.alloc _).alloc _), (o3.alloc _), apart_of (by omega) _ _ _ _, apart_of (by omega) _ _ _ _, apart_of (by omega) _ _ _ _⟩, (((x0.alloc _).alloc _).alloc _).alloc _, bl_alloc (bl_alloc (bl_alloc (bl_alloc (bl_alloc (bl_refl _) _) _) _) _) _, by simp⟩

set_option maxRecDepth 100000 in
set_option maxHeartbeats 25600000 in
theorem spec_ReadSource (s : ByteArray) (w : World) (hs : s.size ≤ 1048576) :
    Calls Tryd.prog 20 #[.string s] w (RsP s.data.toList w) := by
  obtain ⟨l, hl⟩ : ∃ l, s.data.toList = l := ⟨_, rfl⟩
  have hln : l.length ≤ 1048576 := by rw [← hl, ← Lib.size_eq s]; exact hs
  have HL := Lib.hid hl
  clear hl
  rw [HL.out]
  obtain ⟨ws, hws⟩ : ∃ ws, spl 32 l = ws := ⟨_, rfl⟩
  have hn1 : ws.length ≤ 1048577 := by rw [← hws]; have := spl_numB 32 l; omega
  have HQ := Lib.hid (show ∀ q ∈ ws, q.length ≤ 1048576 by
    intro q hq; rw [← hws] at hq; have := spl_lenB (c := 32) _ l (Nat.le_refl _) q hq; omega)
  have HWS := Lib.hid hws
  clear hws
  go_enter Tryd.func20, Tryd.ntmps20
  go_wp2_with fail
  obtain ⟨x5, o5, r5, b5, z5⟩ := start5 w _ rfl
  have HSPL := lspl_any s 32
  generalize hW : ((((w.alloc (.cells #[.slice none 0 0, .slice none 0 0, .slice none 0 0] 31)).alloc (.cells #[] 2)).alloc (.cells #[] 2)).alloc (.cells #[] 2)).alloc (.cells #[.slice (some ⟨w.heap.size + 1, 0, none⟩) 0 0, .slice (some ⟨w.heap.size + 1 + 1, 0, none⟩) 0 0, .slice (some ⟨w.heap.size + 1 + 1 + 1, 0, none⟩) 0 0] 31) = W5 at *
  clear hW
  have HSPL := HSPL W5 (by omega)
  rw [HL.out, HWS.out] at HSPL
  refine HSPL.mono ?_
  clear HSPL
  rintro e w1 ⟨gw, cw, rfl, ho, B1⟩
  have hgw := ho.lt gw rfl
  have D0 : Bg w w1 (w.heap.size + 1 + 1 + 1 + 1) gw cw ws (.slice (some ⟨w.heap.size + 1, 0, none⟩) 0 0) (.slice (some ⟨w.heap.size + 1 + 1, 0, none⟩) 0 0) (.slice (some ⟨w.heap.size + 1 + 1 + 1, 0, none⟩) 0 0) ⟨[], [], []⟩ :=
    ⟨x5.below B1, o5.below B1, fun k hk => by rcases hk with q | q | q <;> (simp [Value.ownBlock] at q; omega), by omega, r5.below B1, bl_call b5 B1, ho.mono (by omega), by omega, fun k hk => by rcases hk with q | q | q <;> (simp [Value.ownBlock] at q; omega)⟩
  clear x5 o5 r5 b5 hgw ho
  have D00 := Lib.hid D0
  clear D0
  generalize w.heap.size + 1 + 1 + 1 + 1 = b at *
  go_wp2_with fail
  go_loopw [6, 7, 8, 9, 10, 11, 12] (fun s6 s7 s8 _ _ _ _ wr => ∃ (h p g : Value) (st : RS) (i : Nat), s6 = .bool st.ins ∧ s7 = .bool st.ended ∧ s8 = .int .i64 i ∧ i ≤ ws.length ∧ Hid (Bg w wr b gw cw ws h p g ⟨st.H, st.P, st.G⟩) ∧ Hid (foldS ⟨false, false, [], [], []⟩ ws = foldS st (ws.drop i) ∧ st.H.length ≤ i ∧ st.P.length ≤ i ∧ st.G.length ≤ i)) (fun _ _ s8 _ _ _ _ _ => ws.length - (intOf s8).toNat)
  case atStart => exact ⟨_, _, _, ⟨false, false, [], [], []⟩, 0, rfl, rfl, rfl, Nat.zero_le _, D00, Lib.hid ⟨by simp, Nat.le_refl _, Nat.le_refl _, Nat.le_refl _⟩⟩
  case round =>
    rcases hrel with ⟨h, p, g, ⟨ins, ended, SH, SP, SG⟩, i, rfl, rfl, rfl, hi, HD, HF⟩
    simp only at HD HF ⊢
    clear D00 B1 z5
    rcases Nat.lt_or_ge i ws.length with hlt | hge
    · obtain ⟨q, hq⟩ : ∃ q, ws[i]? = some q := ⟨_, List.getElem?_eq_getElem hlt⟩
      have hql := HQ.out q (List.mem_of_getElem? hq)
      have HQI := Lib.hid hq
      obtain ⟨Q, hQ⟩ : ∃ Q : ByteArray, (⟨q.toArray⟩ : ByteArray) = Q := ⟨_, rfl⟩
      have HQD := Lib.hid (show Q.data.toList = q by rw [← hQ])
      have hQs : Q.size ≤ 1048576 := by rw [Lib.size_eq Q, HQD.out]; exact hql
      have hcw : wr.cell? ⟨gw, i, none⟩ = some (.string Q) := by rw [← hQ]; exact HD.out.W.cell (cS_get hq)
      clear hq hQ hql
      obtain ⟨cB, fB, zB⟩ := HD.out.X.out
      obtain ⟨cR, fR, zR⟩ := HD.out.R.out
      by_cases hen : ended = true
      · subst hen
        have HB := Lib.hid (rs_fold (l := l) (by rw [HWS.out]; exact fold_bad HF.out.1 HQI.out (st_ended rfl)))
        go_wp2
        refine bodyPost_ret (v := .tuple #[.agg #[.slice none 0 0, .slice none 0 0, .slice none 0 0], .bool false]) (by simp only [results, Tryd.results20]; go_simp) rfl ?_
        refine rs_bad HB.out ?_
        repeat first | (with_reducible exact HD.out.B) | (with_reducible refine bl_set ?_ (by first | exact Nat.le_refl _ | (simp; done) | (simp; omega)) _)
      · obtain rfl : ended = false := by simpa using hen
        clear hen
        by_cases hq0 : Q.size = 0
        · have hem := (empty_yes hq0).1
          have HB := Lib.hid (rs_fold (l := l) (by rw [HWS.out]; exact fold_bad HF.out.1 HQI.out (st_empty (by rw [← HQD.out]; exact (empty_yes hq0).2))))
          clear hq0
          go_wp2
          refine bodyPost_ret (v := .tuple #[.agg #[.slice none 0 0, .slice none 0 0, .slice none 0 0], .bool false]) (by simp only [results, Tryd.results20]; go_simp) rfl ?_
          refine rs_bad HB.out ?_
          repeat first | (with_reducible exact HD.out.B) | (with_reducible refine bl_set ?_ (by first | exact Nat.le_refl _ | (simp; done) | (simp; omega)) _)
        · have hqp : 0 < Q.size := by omega
          have hem := empty_no hqp
          have HQN := Lib.hid (show q ≠ [] from fun z => by rw [Lib.size_eq Q, HQD.out, z] at hqp; simp at hqp)
          obtain ⟨qr, hqr, hqx⟩ := str_head hqp
          rw [HQD.out] at hqr
          have HQR := Lib.hid hqr
          have HQX := Lib.hid hqx
          clear hq0 hqr hqx
          by_cases hin : ins = true
          · subst hin
            have HOP := Lib.hid (show opS true q = false from rfl)
            have HT1 := Lib.hid (show Q.data.toList = w1S true q by rw [HQD.out]; rfl)
            by_cases ht0 : Q.size = 0
            · exact absurd ht0 (by omega)
            · have htp : 0 < Q.size := by omega
              have het := empty_no htp
              have hlast := str_last htp
              have hti : ((Q.size : Int) - 1).toNat = Q.size - 1 := by omega
              have htl : Q.size - 1 < Q.size := by omega
              obtain ⟨lc, hlc⟩ : ∃ x, Q[Q.size - 1] = x := ⟨_, rfl⟩
              rw [hlc] at hlast
              have HLAST := Lib.hid hlast
              clear hlast ht0
              by_cases h41 : lc = 41
              · have q41 : ((lc.toNat : Int) == 41) = true := by rw [h41]; rfl
                have HCL := Lib.hid (show clS true q = true by unfold clS; rw [← HT1.out, HLAST.out, h41, HOP.out]; rfl)
                obtain ⟨T2, hT2⟩ : ∃ T2, Q.extract 0 (Q.size - 1) = T2 := ⟨_, rfl⟩
                have hT2s : T2.size ≤ 1048576 := by rw [← hT2, ByteArray.size_extract]; omega
                have HT2 := Lib.hid (show w2S true q = T2.data.toList by unfold w2S; rw [HCL.out, ← HT1.out, ← hT2, str_front]; rfl)
                clear h41
                go_wp2_with fail
                refine (lwrd_any T2 _ (by omega)).mono ?_
                rintro e w3 ⟨n, g2, rfl, hx, B3⟩
                have HX3 := Lib.hid hx
                clear hx
                clear cB fB zB cR fR zR hcw
                have HD3 := Lib.hid (HD.out.bl B3)
                obtain ⟨cB, fB, zB⟩ := HD3.out.X.out
                obtain ⟨cR, fR, zR⟩ := HD3.out.R.out
                cases ho : wordS T2.data.toList with
                | none =>
                  have HB := Lib.hid (rs_fold (l := l) (by rw [HWS.out]; exact fold_bad HF.out.1 HQI.out (st_bad rfl HQN.out HT2.out ho)))
                  clear ho
                  go_wp2
                  refine bodyPost_ret (v := .tuple #[.agg #[.slice none 0 0, .slice none 0 0, .slice none 0 0], .bool false]) (by simp only [results, Tryd.results20]; go_simp) rfl ?_
                  refine rs_bad HB.out ?_
                  repeat first | (with_reducible exact HD3.out.B) | (with_reducible refine bl_set ?_ (by first | exact Nat.le_refl _ | (simp; done) | (simp; omega)) _)
                | some x =>
                  obtain ⟨n2, g3⟩ := x
                  have hxx := HX3.out _ ho
                  have e1 : n = n2 := (Prod.mk.inj hxx).1.symm
                  have e2 : g2 = g3 := (Prod.mk.inj hxx).2.symm
                  clear hxx
                  subst e1
                  subst e2
                  have hrn := wordS_rng ho
                  have HRN := Lib.hid hrn
                  have HST := Lib.hid (st_in (st := ⟨true, false, SH, SP, SG⟩) rfl HQN.out HT2.out ho rfl)
                  clear ho hrn
                  have HLN := Lib.hid (show SP.length ≤ 1048577 ∧ SG.length ≤ 1048577 by have := HF.out.2; (try simp only at this); omega)
                  go_wp2_with (at_builtin; first | (refine wpList_append_one rfl _ _ rfl (w.heap.size + 1) _ SP (by rfl) HD3.out.O.2.1 _ HRN.out.1 (by rfl) (by have := HLN.out; omega) (by have := HD3.out.bb; have := HD3.out.X.out.2.2; omega) ?_; intro v' wn ho hg hor; obtain ⟨P2, hP2⟩ : ∃ z, z = SP ++ [n] := ⟨_, rfl⟩; rw [← hP2] at ho; have HP2 := Lib.hid hP2; have hap := HD3.out.app1 ho hg hor (Nat.le_succ _); clear hP2 hg hor; obtain ⟨a1, c1, rfl, _⟩ := ho.form; obtain ⟨xN, D1⟩ := hap; have HD4 := Lib.hid D1; clear D1 ho cB fB zB cR fR zR; obtain ⟨cB, fB, zB⟩ := xN.out; obtain ⟨cG, fG, zG⟩ := HD4.out.X.out) | (refine wpList_append_one rfl _ _ rfl (w.heap.size + 1) _ SG (by rfl) HD4.out.O.2.2.1 _ HRN.out.2 (by first | rfl | (rw [World.heap_size_setCell]; rfl) | (simp; rfl) | (simp; done)) (by have := HLN.out; omega) (by have := HD4.out.bb; have := HD4.out.X.out.2.2; omega) ?_; intro v' wm ho hg hor; obtain ⟨G2, hG2⟩ : ∃ z, z = SG ++ [g2] := ⟨_, rfl⟩; rw [← hG2] at ho; have HG2 := Lib.hid hG2; have hap := HD4.out.app2 ho hg hor (Nat.le_succ _); clear hG2 hg hor; obtain ⟨a2, c2, rfl, _⟩ := ho.form; obtain ⟨xM, D2⟩ := hap; have HD5 := Lib.hid D2; clear D2 ho cB fB zB cG fG zG; obtain ⟨cB, fB, zB⟩ := xM.out))
                  go_wp2
                  go_roundw
                  case rel => exact ⟨_, _, _, ⟨true, true, SH, P2, G2⟩, i + 1, rfl, rfl, by simp, by omega, HD5, Lib.hid ⟨fold_next HF.out.1 HQI.out (by rw [HST.out, HP2.out, HG2.out, HCL.out]), by have := HF.out.2.1; (try simp only at this ⊢); omega, by have := HF.out.2.2.1; (try simp only at this ⊢); rw [HP2.out]; simp; omega, by have := HF.out.2.2.2; (try simp only at this ⊢); rw [HG2.out]; simp; omega⟩⟩
                  case measure => simp only [intOf, Int.toNat_natCast]; omega
              · have q41 : ((lc.toNat : Int) == 41) = false := beq_eq_false_iff_ne.2 (fun z => h41 (UInt8.toNat_inj.1 (by have : (41 : UInt8).toNat = 41 := rfl; omega)))
                have HCL := Lib.hid (show clS true q = false by unfold clS; rw [← HT1.out, HLAST.out, HOP.out]; simp [h41])
                have HT2 := Lib.hid (show w2S true q = Q.data.toList by unfold w2S; rw [HCL.out, ← HT1.out]; rfl)
                clear h41
                go_wp2_with fail
                refine (lwrd_any Q _ (by omega)).mono ?_
                rintro e w3 ⟨n, g2, rfl, hx, B3⟩
                have HX3 := Lib.hid hx
                clear hx
                clear cB fB zB cR fR zR hcw
                have HD3 := Lib.hid (HD.out.bl B3)
                obtain ⟨cB, fB, zB⟩ := HD3.out.X.out
                obtain ⟨cR, fR, zR⟩ := HD3.out.R.out
                cases ho : wordS Q.data.toList with
                | none =>
                  have HB := Lib.hid (rs_fold (l := l) (by rw [HWS.out]; exact fold_bad HF.out.1 HQI.out (st_bad rfl HQN.out HT2.out ho)))
                  clear ho
                  go_wp2
                  refine bodyPost_ret (v := .tuple #[.agg #[.slice none 0 0, .slice none 0 0, .slice none 0 0], .bool false]) (by simp only [results, Tryd.results20]; go_simp) rfl ?_
                  refine rs_bad HB.out ?_
                  repeat first | (with_reducible exact HD3.out.B) | (with_reducible refine bl_set ?_ (by first | exact Nat.le_refl _ | (simp; done) | (simp; omega)) _)
                | some x =>
                  obtain ⟨n2, g3⟩ := x
                  have hxx := HX3.out _ ho
                  have e1 : n = n2 := (Prod.mk.inj hxx).1.symm
                  have e2 : g2 = g3 := (Prod.mk.inj hxx).2.symm
                  clear hxx
                  subst e1
                  subst e2
                  have hrn := wordS_rng ho
                  have HRN := Lib.hid hrn
                  have HST := Lib.hid (st_in (st := ⟨true, false, SH, SP, SG⟩) rfl HQN.out HT2.out ho rfl)
                  clear ho hrn
                  have HLN := Lib.hid (show SP.length ≤ 1048577 ∧ SG.length ≤ 1048577 by have := HF.out.2; (try simp only at this); omega)
                  go_wp2_with (at_builtin; first | (refine wpList_append_one rfl _ _ rfl (w.heap.size + 1) _ SP (by rfl) HD3.out.O.2.1 _ HRN.out.1 (by rfl) (by have := HLN.out; omega) (by have := HD3.out.bb; have := HD3.out.X.out.2.2; omega) ?_; intro v' wn ho hg hor; obtain ⟨P2, hP2⟩ : ∃ z, z = SP ++ [n] := ⟨_, rfl⟩; rw [← hP2] at ho; have HP2 := Lib.hid hP2; have hap := HD3.out.app1 ho hg hor (Nat.le_succ _); clear hP2 hg hor; obtain ⟨a1, c1, rfl, _⟩ := ho.form; obtain ⟨xN, D1⟩ := hap; have HD4 := Lib.hid D1; clear D1 ho cB fB zB cR fR zR; obtain ⟨cB, fB, zB⟩ := xN.out; obtain ⟨cG, fG, zG⟩ := HD4.out.X.out) | (refine wpList_append_one rfl _ _ rfl (w.heap.size + 1) _ SG (by rfl) HD4.out.O.2.2.1 _ HRN.out.2 (by first | rfl | (rw [World.heap_size_setCell]; rfl) | (simp; rfl) | (simp; done)) (by have := HLN.out; omega) (by have := HD4.out.bb; have := HD4.out.X.out.2.2; omega) ?_; intro v' wm ho hg hor; obtain ⟨G2, hG2⟩ : ∃ z, z = SG ++ [g2] := ⟨_, rfl⟩; rw [← hG2] at ho; have HG2 := Lib.hid hG2; have hap := HD4.out.app2 ho hg hor (Nat.le_succ _); clear hG2 hg hor; obtain ⟨a2, c2, rfl, _⟩ := ho.form; obtain ⟨xM, D2⟩ := hap; have HD5 := Lib.hid D2; clear D2 ho cB fB zB cG fG zG; obtain ⟨cB, fB, zB⟩ := xM.out))
                  go_wp2
                  go_roundw
                  case rel => exact ⟨_, _, _, ⟨true, false, SH, P2, G2⟩, i + 1, rfl, rfl, by simp, by omega, HD5, Lib.hid ⟨fold_next HF.out.1 HQI.out (by rw [HST.out, HP2.out, HG2.out, HCL.out]), by have := HF.out.2.1; (try simp only at this ⊢); omega, by have := HF.out.2.2.1; (try simp only at this ⊢); rw [HP2.out]; simp; omega, by have := HF.out.2.2.2; (try simp only at this ⊢); rw [HG2.out]; simp; omega⟩⟩
                  case measure => simp only [intOf, Int.toNat_natCast]; omega
          · obtain rfl : ins = false := by simpa using hin
            clear hin
            by_cases h40 : Q[0] = 40
            · have q40 : ((Q[0].toNat : Int) == 40) = true := by rw [h40]; rfl
              have HOP := Lib.hid (show opS false q = true by rw [HQR.out, opS, h40]; rfl)
              obtain ⟨T1, hT1⟩ : ∃ T1, Q.extract 1 Q.size = T1 := ⟨_, rfl⟩
              have hT1s : T1.size ≤ 1048576 := by rw [← hT1, ByteArray.size_extract]; omega
              have HT1 := Lib.hid (show T1.data.toList = w1S false q by unfold w1S; rw [HOP.out, ← hT1, HQX.out, HQR.out]; rfl)
              clear h40
              by_cases ht0 : T1.size = 0
              · have het := (empty_yes ht0).1
                have HCL := Lib.hid (show clS false q = false by unfold clS; rw [← HT1.out, (empty_yes ht0).2]; simp)
                have HT2 := Lib.hid (show w2S false q = T1.data.toList by unfold w2S; rw [HCL.out, ← HT1.out]; rfl)
                clear ht0
                go_wp2_with fail
                refine (lwrd_any T1 _ (by omega)).mono ?_
                rintro e w3 ⟨n, g2, rfl, hx, B3⟩
                have HX3 := Lib.hid hx
                clear hx
                clear cB fB zB cR fR zR hcw
                have HD3 := Lib.hid (HD.out.bl B3)
                obtain ⟨cB, fB, zB⟩ := HD3.out.X.out
                obtain ⟨cR, fR, zR⟩ := HD3.out.R.out
                cases ho : wordS T1.data.toList with
                | none =>
                  have HB := Lib.hid (rs_fold (l := l) (by rw [HWS.out]; exact fold_bad HF.out.1 HQI.out (st_bad rfl HQN.out HT2.out ho)))
                  clear ho
                  go_wp2
                  refine bodyPost_ret (v := .tuple #[.agg #[.slice none 0 0, .slice none 0 0, .slice none 0 0], .bool false]) (by simp only [results, Tryd.results20]; go_simp) rfl ?_
                  refine rs_bad HB.out ?_
                  repeat first | (with_reducible exact HD3.out.B) | (with_reducible refine bl_set ?_ (by first | exact Nat.le_refl _ | (simp; done) | (simp; omega)) _)
                | some x =>
                  obtain ⟨n2, g3⟩ := x
                  have hxx := HX3.out _ ho
                  have e1 : n = n2 := (Prod.mk.inj hxx).1.symm
                  have e2 : g2 = g3 := (Prod.mk.inj hxx).2.symm
                  clear hxx
                  subst e1
                  subst e2
                  have hrn := wordS_rng ho
                  have HRN := Lib.hid hrn
                  have HST := Lib.hid (st_in (st := ⟨false, false, SH, SP, SG⟩) rfl HQN.out HT2.out ho (by rw [HOP.out]; rfl))
                  clear ho hrn
                  have HLN := Lib.hid (show SP.length ≤ 1048577 ∧ SG.length ≤ 1048577 by have := HF.out.2; (try simp only at this); omega)
                  go_wp2_with (at_builtin; first | (refine wpList_append_one rfl _ _ rfl (w.heap.size + 1) _ SP (by rfl) HD3.out.O.2.1 _ HRN.out.1 (by rfl) (by have := HLN.out; omega) (by have := HD3.out.bb; have := HD3.out.X.out.2.2; omega) ?_; intro v' wn ho hg hor; obtain ⟨P2, hP2⟩ : ∃ z, z = SP ++ [n] := ⟨_, rfl⟩; rw [← hP2] at ho; have HP2 := Lib.hid hP2; have hap := HD3.out.app1 ho hg hor (Nat.le_succ _); clear hP2 hg hor; obtain ⟨a1, c1, rfl, _⟩ := ho.form; obtain ⟨xN, D1⟩ := hap; have HD4 := Lib.hid D1; clear D1 ho cB fB zB cR fR zR; obtain ⟨cB, fB, zB⟩ := xN.out; obtain ⟨cG, fG, zG⟩ := HD4.out.X.out) | (refine wpList_append_one rfl _ _ rfl (w.heap.size + 1) _ SG (by rfl) HD4.out.O.2.2.1 _ HRN.out.2 (by first | rfl | (rw [World.heap_size_setCell]; rfl) | (simp; rfl) | (simp; done)) (by have := HLN.out; omega) (by have := HD4.out.bb; have := HD4.out.X.out.2.2; omega) ?_; intro v' wm ho hg hor; obtain ⟨G2, hG2⟩ : ∃ z, z = SG ++ [g2] := ⟨_, rfl⟩; rw [← hG2] at ho; have HG2 := Lib.hid hG2; have hap := HD4.out.app2 ho hg hor (Nat.le_succ _); clear hG2 hg hor; obtain ⟨a2, c2, rfl, _⟩ := ho.form; obtain ⟨xM, D2⟩ := hap; have HD5 := Lib.hid D2; clear D2 ho cB fB zB cG fG zG; obtain ⟨cB, fB, zB⟩ := xM.out))
                  go_wp2
                  go_roundw
                  case rel => exact ⟨_, _, _, ⟨true, false, SH, P2, G2⟩, i + 1, rfl, rfl, by simp, by omega, HD5, Lib.hid ⟨fold_next HF.out.1 HQI.out (by rw [HST.out, HP2.out, HG2.out, HCL.out]), by have := HF.out.2.1; (try simp only at this ⊢); omega, by have := HF.out.2.2.1; (try simp only at this ⊢); rw [HP2.out]; simp; omega, by have := HF.out.2.2.2; (try simp only at this ⊢); rw [HG2.out]; simp; omega⟩⟩
                  case measure => simp only [intOf, Int.toNat_natCast]; omega
              · have htp : 0 < T1.size := by omega
                have het := empty_no htp
                have hlast := str_last htp
                have hti : ((T1.size : Int) - 1).toNat = T1.size - 1 := by omega
                have htl : T1.size - 1 < T1.size := by omega
                obtain ⟨lc, hlc⟩ : ∃ x, T1[T1.size - 1] = x := ⟨_, rfl⟩
                rw [hlc] at hlast
                have HLAST := Lib.hid hlast
                clear hlast ht0
                by_cases h41 : lc = 41
                · have q41 : ((lc.toNat : Int) == 41) = true := by rw [h41]; rfl
                  have HCL := Lib.hid (show clS false q = true by unfold clS; rw [← HT1.out, HLAST.out, h41, HOP.out]; rfl)
                  obtain ⟨T2, hT2⟩ : ∃ T2, T1.extract 0 (T1.size - 1) = T2 := ⟨_, rfl⟩
                  have hT2s : T2.size ≤ 1048576 := by rw [← hT2, ByteArray.size_extract]; omega
                  have HT2 := Lib.hid (show w2S false q = T2.data.toList by unfold w2S; rw [HCL.out, ← HT1.out, ← hT2, str_front]; rfl)
                  clear h41
                  go_wp2_with fail
                  refine (lwrd_any T2 _ (by omega)).mono ?_
                  rintro e w3 ⟨n, g2, rfl, hx, B3⟩
                  have HX3 := Lib.hid hx
                  clear hx
                  clear cB fB zB cR fR zR hcw
                  have HD3 := Lib.hid (HD.out.bl B3)
                  obtain ⟨cB, fB, zB⟩ := HD3.out.X.out
                  obtain ⟨cR, fR, zR⟩ := HD3.out.R.out
                  cases ho : wordS T2.data.toList with
                  | none =>
                    have HB := Lib.hid (rs_fold (l := l) (by rw [HWS.out]; exact fold_bad HF.out.1 HQI.out (st_bad rfl HQN.out HT2.out ho)))
                    clear ho
                    go_wp2
                    refine bodyPost_ret (v := .tuple #[.agg #[.slice none 0 0, .slice none 0 0, .slice none 0 0], .bool false]) (by simp only [results, Tryd.results20]; go_simp) rfl ?_
                    refine rs_bad HB.out ?_
                    repeat first | (with_reducible exact HD3.out.B) | (with_reducible refine bl_set ?_ (by first | exact Nat.le_refl _ | (simp; done) | (simp; omega)) _)
                  | some x =>
                    obtain ⟨n2, g3⟩ := x
                    have hxx := HX3.out _ ho
                    have e1 : n = n2 := (Prod.mk.inj hxx).1.symm
                    have e2 : g2 = g3 := (Prod.mk.inj hxx).2.symm
                    clear hxx
                    subst e1
                    subst e2
                    have hrn := wordS_rng ho
                    have HRN := Lib.hid hrn
                    have HST := Lib.hid (st_in (st := ⟨false, false, SH, SP, SG⟩) rfl HQN.out HT2.out ho (by rw [HOP.out]; rfl))
                    clear ho hrn
                    have HLN := Lib.hid (show SP.length ≤ 1048577 ∧ SG.length ≤ 1048577 by have := HF.out.2; (try simp only at this); omega)
                    go_wp2_with (at_builtin; first | (refine wpList_append_one rfl _ _ rfl (w.heap.size + 1) _ SP (by rfl) HD3.out.O.2.1 _ HRN.out.1 (by rfl) (by have := HLN.out; omega) (by have := HD3.out.bb; have := HD3.out.X.out.2.2; omega) ?_; intro v' wn ho hg hor; obtain ⟨P2, hP2⟩ : ∃ z, z = SP ++ [n] := ⟨_, rfl⟩; rw [← hP2] at ho; have HP2 := Lib.hid hP2; have hap := HD3.out.app1 ho hg hor (Nat.le_succ _); clear hP2 hg hor; obtain ⟨a1, c1, rfl, _⟩ := ho.form; obtain ⟨xN, D1⟩ := hap; have HD4 := Lib.hid D1; clear D1 ho cB fB zB cR fR zR; obtain ⟨cB, fB, zB⟩ := xN.out; obtain ⟨cG, fG, zG⟩ := HD4.out.X.out) | (refine wpList_append_one rfl _ _ rfl (w.heap.size + 1) _ SG (by rfl) HD4.out.O.2.2.1 _ HRN.out.2 (by first | rfl | (rw [World.heap_size_setCell]; rfl) | (simp; rfl) | (simp; done)) (by have := HLN.out; omega) (by have := HD4.out.bb; have := HD4.out.X.out.2.2; omega) ?_; intro v' wm ho hg hor; obtain ⟨G2, hG2⟩ : ∃ z, z = SG ++ [g2] := ⟨_, rfl⟩; rw [← hG2] at ho; have HG2 := Lib.hid hG2; have hap := HD4.out.app2 ho hg hor (Nat.le_succ _); clear hG2 hg hor; obtain ⟨a2, c2, rfl, _⟩ := ho.form; obtain ⟨xM, D2⟩ := hap; have HD5 := Lib.hid D2; clear D2 ho cB fB zB cG fG zG; obtain ⟨cB, fB, zB⟩ := xM.out))
                    go_wp2
                    go_roundw
                    case rel => exact ⟨_, _, _, ⟨true, true, SH, P2, G2⟩, i + 1, rfl, rfl, by simp, by omega, HD5, Lib.hid ⟨fold_next HF.out.1 HQI.out (by rw [HST.out, HP2.out, HG2.out, HCL.out]), by have := HF.out.2.1; (try simp only at this ⊢); omega, by have := HF.out.2.2.1; (try simp only at this ⊢); rw [HP2.out]; simp; omega, by have := HF.out.2.2.2; (try simp only at this ⊢); rw [HG2.out]; simp; omega⟩⟩
                    case measure => simp only [intOf, Int.toNat_natCast]; omega
                · have q41 : ((lc.toNat : Int) == 41) = false := beq_eq_false_iff_ne.2 (fun z => h41 (UInt8.toNat_inj.1 (by have : (41 : UInt8).toNat = 41 := rfl; omega)))
                  have HCL := Lib.hid (show clS false q = false by unfold clS; rw [← HT1.out, HLAST.out, HOP.out]; simp [h41])
                  have HT2 := Lib.hid (show w2S false q = T1.data.toList by unfold w2S; rw [HCL.out, ← HT1.out]; rfl)
                  clear h41
                  go_wp2_with fail
                  refine (lwrd_any T1 _ (by omega)).mono ?_
                  rintro e w3 ⟨n, g2, rfl, hx, B3⟩
                  have HX3 := Lib.hid hx
                  clear hx
                  clear cB fB zB cR fR zR hcw
                  have HD3 := Lib.hid (HD.out.bl B3)
                  obtain ⟨cB, fB, zB⟩ := HD3.out.X.out
                  obtain ⟨cR, fR, zR⟩ := HD3.out.R.out
                  cases ho : wordS T1.data.toList with
                  | none =>
                    have HB := Lib.hid (rs_fold (l := l) (by rw [HWS.out]; exact fold_bad HF.out.1 HQI.out (st_bad rfl HQN.out HT2.out ho)))
                    clear ho
                    go_wp2
                    refine bodyPost_ret (v := .tuple #[.agg #[.slice none 0 0, .slice none 0 0, .slice none 0 0], .bool false]) (by simp only [results, Tryd.results20]; go_simp) rfl ?_
                    refine rs_bad HB.out ?_
                    repeat first | (with_reducible exact HD3.out.B) | (with_reducible refine bl_set ?_ (by first | exact Nat.le_refl _ | (simp; done) | (simp; omega)) _)
                  | some x =>
                    obtain ⟨n2, g3⟩ := x
                    have hxx := HX3.out _ ho
                    have e1 : n = n2 := (Prod.mk.inj hxx).1.symm
                    have e2 : g2 = g3 := (Prod.mk.inj hxx).2.symm
                    clear hxx
                    subst e1
                    subst e2
                    have hrn := wordS_rng ho
                    have HRN := Lib.hid hrn
                    have HST := Lib.hid (st_in (st := ⟨false, false, SH, SP, SG⟩) rfl HQN.out HT2.out ho (by rw [HOP.out]; rfl))
                    clear ho hrn
                    have HLN := Lib.hid (show SP.length ≤ 1048577 ∧ SG.length ≤ 1048577 by have := HF.out.2; (try simp only at this); omega)
                    go_wp2_with (at_builtin; first | (refine wpList_append_one rfl _ _ rfl (w.heap.size + 1) _ SP (by rfl) HD3.out.O.2.1 _ HRN.out.1 (by rfl) (by have := HLN.out; omega) (by have := HD3.out.bb; have := HD3.out.X.out.2.2; omega) ?_; intro v' wn ho hg hor; obtain ⟨P2, hP2⟩ : ∃ z, z = SP ++ [n] := ⟨_, rfl⟩; rw [← hP2] at ho; have HP2 := Lib.hid hP2; have hap := HD3.out.app1 ho hg hor (Nat.le_succ _); clear hP2 hg hor; obtain ⟨a1, c1, rfl, _⟩ := ho.form; obtain ⟨xN, D1⟩ := hap; have HD4 := Lib.hid D1; clear D1 ho cB fB zB cR fR zR; obtain ⟨cB, fB, zB⟩ := xN.out; obtain ⟨cG, fG, zG⟩ := HD4.out.X.out) | (refine wpList_append_one rfl _ _ rfl (w.heap.size + 1) _ SG (by rfl) HD4.out.O.2.2.1 _ HRN.out.2 (by first | rfl | (rw [World.heap_size_setCell]; rfl) | (simp; rfl) | (simp; done)) (by have := HLN.out; omega) (by have := HD4.out.bb; have := HD4.out.X.out.2.2; omega) ?_; intro v' wm ho hg hor; obtain ⟨G2, hG2⟩ : ∃ z, z = SG ++ [g2] := ⟨_, rfl⟩; rw [← hG2] at ho; have HG2 := Lib.hid hG2; have hap := HD4.out.app2 ho hg hor (Nat.le_succ _); clear hG2 hg hor; obtain ⟨a2, c2, rfl, _⟩ := ho.form; obtain ⟨xM, D2⟩ := hap; have HD5 := Lib.hid D2; clear D2 ho cB fB zB cG fG zG; obtain ⟨cB, fB, zB⟩ := xM.out))
                    go_wp2
                    go_roundw
                    case rel => exact ⟨_, _, _, ⟨true, false, SH, P2, G2⟩, i + 1, rfl, rfl, by simp, by omega, HD5, Lib.hid ⟨fold_next HF.out.1 HQI.out (by rw [HST.out, HP2.out, HG2.out, HCL.out]), by have := HF.out.2.1; (try simp only at this ⊢); omega, by have := HF.out.2.2.1; (try simp only at this ⊢); rw [HP2.out]; simp; omega, by have := HF.out.2.2.2; (try simp only at this ⊢); rw [HG2.out]; simp; omega⟩⟩
                    case measure => simp only [intOf, Int.toNat_natCast]; omega
            · have q40 : ((Q[0].toNat : Int) == 40) = false := beq_eq_false_iff_ne.2 (fun z => h40 (UInt8.toNat_inj.1 (by have : (40 : UInt8).toNat = 40 := rfl; omega)))
              have HOP := Lib.hid (show opS false q = false by rw [HQR.out, opS]; simp [h40])
              have HCL := Lib.hid (show clS false q = false by unfold clS; rw [HOP.out]; rfl)
              have HT2 := Lib.hid (show w2S false q = Q.data.toList by unfold w2S w1S; rw [HCL.out, HOP.out, HQD.out]; rfl)
              clear h40
              go_wp2_with fail
              refine (lwrd_any Q _ (by omega)).mono ?_
              rintro e w3 ⟨n, g2, rfl, hx, B3⟩
              have HX3 := Lib.hid hx
              clear hx
              clear cB fB zB cR fR zR hcw
              have HD3 := Lib.hid (HD.out.bl B3)
              obtain ⟨cB, fB, zB⟩ := HD3.out.X.out
              obtain ⟨cR, fR, zR⟩ := HD3.out.R.out
              cases ho : wordS Q.data.toList with
              | none =>
                have HB := Lib.hid (rs_fold (l := l) (by rw [HWS.out]; exact fold_bad HF.out.1 HQI.out (st_bad rfl HQN.out HT2.out ho)))
                clear ho
                go_wp2
                refine bodyPost_ret (v := .tuple #[.agg #[.slice none 0 0, .slice none 0 0, .slice none 0 0], .bool false]) (by simp only [results, Tryd.results20]; go_simp) rfl ?_
                refine rs_bad HB.out ?_
                repeat first | (with_reducible exact HD3.out.B) | (with_reducible refine bl_set ?_ (by first | exact Nat.le_refl _ | (simp; done) | (simp; omega)) _)
              | some x =>
                obtain ⟨n2, g3⟩ := x
                have hxx := HX3.out _ ho
                have e1 : n = n2 := (Prod.mk.inj hxx).1.symm
                have e2 : g2 = g3 := (Prod.mk.inj hxx).2.symm
                clear hxx
                subst e1
                subst e2
                have hrn := wordS_rng ho
                have HRN := Lib.hid hrn
                by_cases hg0 : 0 < g2
                · have HB := Lib.hid (rs_fold (l := l) (by rw [HWS.out]; exact fold_bad HF.out.1 HQI.out (st_out_no (st := ⟨false, false, SH, SP, SG⟩) rfl HQN.out HT2.out ho (by rw [HOP.out]; rfl) hg0)))
                  clear ho
                  go_wp2
                  refine bodyPost_ret (v := .tuple #[.agg #[.slice none 0 0, .slice none 0 0, .slice none 0 0], .bool false]) (by simp only [results, Tryd.results20]; go_simp) rfl ?_
                  refine rs_bad HB.out ?_
                  repeat first | (with_reducible exact HD3.out.B) | (with_reducible refine bl_set ?_ (by first | exact Nat.le_refl _ | (simp; done) | (simp; omega)) _)
                · have HST := Lib.hid (st_out (st := ⟨false, false, SH, SP, SG⟩) rfl HQN.out HT2.out ho (by rw [HOP.out]; rfl) hg0)
                  clear ho hrn
                  have HLN := Lib.hid (show SH.length ≤ 1048577 by have := HF.out.2; (try simp only at this); omega)
                  go_wp2_with (at_builtin; refine wpList_append_one rfl _ _ rfl (w.heap.size + 1) _ SH (by rfl) HD3.out.O.1 _ HRN.out.1 (by rfl) (by have := HLN.out; omega) (by have := HD3.out.bb; have := HD3.out.X.out.2.2; omega) ?_; intro v' wn ho hg hor; obtain ⟨P2, hP2⟩ : ∃ z, z = SH ++ [n] := ⟨_, rfl⟩; rw [← hP2] at ho; have HP2 := Lib.hid hP2; have hap := HD3.out.app0 ho hg hor (Nat.le_succ _); clear hP2 hg hor; obtain ⟨a1, c1, rfl, _⟩ := ho.form; obtain ⟨xN, D1⟩ := hap; have HD4 := Lib.hid D1; clear D1 ho cB fB zB cR fR zR; obtain ⟨cB, fB, zB⟩ := xN.out)
                  go_wp2
                  go_roundw
                  case rel => exact ⟨_, _, _, ⟨false, false, P2, SP, SG⟩, i + 1, rfl, rfl, by simp, by omega, HD4, Lib.hid ⟨fold_next HF.out.1 HQI.out (by rw [HST.out, HP2.out]), by have := HF.out.2.1; (try simp only at this ⊢); rw [HP2.out]; simp; omega, by have := HF.out.2.2.1; (try simp only at this ⊢); omega, by have := HF.out.2.2.2; (try simp only at this ⊢); omega⟩⟩
                  case measure => simp only [intOf, Int.toNat_natCast]; omega
    · obtain rfl : i = ws.length := by omega
      have HFE := Lib.hid (show foldS ⟨false, false, [], [], []⟩ (spl 32 l) = some ⟨ins, ended, SH, SP, SG⟩ by rw [HWS.out, HF.out.1, List.drop_length]; rfl)
      obtain ⟨cB, fB, zB⟩ := HD.out.X.out
      obtain ⟨cR, fR, zR⟩ := HD.out.R.out
      cases ins
      all_goals cases ended
      · cases hok : okSrc ⟨SH, SP, SG⟩ with
        | false =>
          have HB := Lib.hid (rs_end_no HFE.out (fun z => by rw [okSrc_iff.2 ((vs_ok (s := ⟨SH, SP, SG⟩)).2 z.2)] at hok; cases hok))
          go_wp2_with fail
          refine (svalid_any h p g ⟨SH, SP, SG⟩ _ b HD.out.O.sl HD.out.X).mono ?_
          rintro e w3 ⟨he, B3⟩
          rw [hok] at he
          subst he
          have HD3 := Lib.hid (HD.out.bl B3)
          clear cB fB zB cR fR zR
          obtain ⟨cB, fB, zB⟩ := HD3.out.X.out
          obtain ⟨cR, fR, zR⟩ := HD3.out.R.out
          go_wp2
          refine bodyPost_ret (v := .tuple #[.agg #[.slice none 0 0, .slice none 0 0, .slice none 0 0], .bool false]) (by simp only [results, Tryd.results20]; go_simp) rfl ?_
          refine rs_bad HB.out ?_
          repeat first | (with_reducible exact HD3.out.B) | (with_reducible refine bl_set ?_ (by first | exact Nat.le_refl _ | (simp; done) | (simp; omega)) _)
        | true =>
          have HG := Lib.hid (rs_end HFE.out ⟨rfl, (vs_ok (s := ⟨SH, SP, SG⟩)).1 (okSrc_iff.1 hok)⟩)
          go_wp2_with fail
          refine (svalid_any h p g ⟨SH, SP, SG⟩ _ b HD.out.O.sl HD.out.X).mono ?_
          rintro e w3 ⟨he, B3⟩
          rw [hok] at he
          subst he
          have HD3 := Lib.hid (HD.out.bl B3)
          clear cB fB zB cR fR zR
          obtain ⟨ah, ch, hh, _⟩ := HD3.out.O.1.form
          obtain ⟨ap, cp, hp, _⟩ := HD3.out.O.2.1.form
          obtain ⟨ag, cg, hg, _⟩ := HD3.out.O.2.2.1.form
          subst hh
          subst hp
          subst hg
          obtain ⟨cB, fB, zB⟩ := HD3.out.X.out
          obtain ⟨cR, fR, zR⟩ := HD3.out.R.out
          go_wp2
          refine bodyPost_ret (v := .tuple #[.agg #[.slice ah SH.length ch, .slice ap SP.length cp, .slice ag SG.length cg], .bool true]) (by simp only [results, Tryd.results20]; go_simp) rfl ?_
          exact rs_good HG.out HD3.out (only_set3 _ _ _ _ _)
      · have HB := Lib.hid (rs_end_no HFE.out (fun z => by have := z.1; cases this))
        go_wp2
        refine bodyPost_ret (v := .tuple #[.agg #[.slice none 0 0, .slice none 0 0, .slice none 0 0], .bool false]) (by simp only [results, Tryd.results20]; go_simp) rfl ?_
        refine rs_bad HB.out ?_
        repeat first | (with_reducible exact HD.out.B) | (with_reducible refine bl_set ?_ (by first | exact Nat.le_refl _ | (simp; done) | (simp; omega)) _)
      · have HB := Lib.hid (rs_end_no HFE.out (fun z => by have := z.1; cases this))
        go_wp2
        refine bodyPost_ret (v := .tuple #[.agg #[.slice none 0 0, .slice none 0 0, .slice none 0 0], .bool false]) (by simp only [results, Tryd.results20]; go_simp) rfl ?_
        refine rs_bad HB.out ?_
        repeat first | (with_reducible exact HD.out.B) | (with_reducible refine bl_set ?_ (by first | exact Nat.le_refl _ | (simp; done) | (simp; omega)) _)
      · cases hok : okSrc ⟨SH, SP, SG⟩ with
        | false =>
          have HB := Lib.hid (rs_end_no HFE.out (fun z => by rw [okSrc_iff.2 ((vs_ok (s := ⟨SH, SP, SG⟩)).2 z.2)] at hok; cases hok))
          go_wp2_with fail
          refine (svalid_any h p g ⟨SH, SP, SG⟩ _ b HD.out.O.sl HD.out.X).mono ?_
          rintro e w3 ⟨he, B3⟩
          rw [hok] at he
          subst he
          have HD3 := Lib.hid (HD.out.bl B3)
          clear cB fB zB cR fR zR
          obtain ⟨cB, fB, zB⟩ := HD3.out.X.out
          obtain ⟨cR, fR, zR⟩ := HD3.out.R.out
          go_wp2
          refine bodyPost_ret (v := .tuple #[.agg #[.slice none 0 0, .slice none 0 0, .slice none 0 0], .bool false]) (by simp only [results, Tryd.results20]; go_simp) rfl ?_
          refine rs_bad HB.out ?_
          repeat first | (with_reducible exact HD3.out.B) | (with_reducible refine bl_set ?_ (by first | exact Nat.le_refl _ | (simp; done) | (simp; omega)) _)
        | true =>
          have HG := Lib.hid (rs_end HFE.out ⟨rfl, (vs_ok (s := ⟨SH, SP, SG⟩)).1 (okSrc_iff.1 hok)⟩)
          go_wp2_with fail
          refine (svalid_any h p g ⟨SH, SP, SG⟩ _ b HD.out.O.sl HD.out.X).mono ?_
          rintro e w3 ⟨he, B3⟩
          rw [hok] at he
          subst he
          have HD3 := Lib.hid (HD.out.bl B3)
          clear cB fB zB cR fR zR
          obtain ⟨ah, ch, hh, _⟩ := HD3.out.O.1.form
          obtain ⟨ap, cp, hp, _⟩ := HD3.out.O.2.1.form
          obtain ⟨ag, cg, hg, _⟩ := HD3.out.O.2.2.1.form
          subst hh
          subst hp
          subst hg
          obtain ⟨cB, fB, zB⟩ := HD3.out.X.out
          obtain ⟨cR, fR, zR⟩ := HD3.out.R.out
          go_wp2
          refine bodyPost_ret (v := .tuple #[.agg #[.slice ah SH.length ch, .slice ap SP.length cp, .slice ag SG.length cg], .bool true]) (by simp only [results, Tryd.results20]; go_simp) rfl ?_
          exact rs_good HG.out HD3.out (only_set3 _ _ _ _ _)

end Go.Proofs.YtndblondleclpaaDoor
