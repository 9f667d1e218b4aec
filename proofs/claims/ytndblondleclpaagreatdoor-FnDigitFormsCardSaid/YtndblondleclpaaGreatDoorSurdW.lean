/- Surds: the reference's walk, and its source. Each theorem names its conditions. -/
import Derived.Test.YtndblondleclpaaGreatDoorSurdS
import Derived.Test.YtndblondleclpaaGreatDoorSrcS
import Derived.Test.YtndblondleclpaaGreatDoorClone
import Derived.Test.YtndblondleclpaaGreatDoorUpd
import Derived.Deep.LoopGhost
namespace Go.Proofs.YtndblondleclpaaGreatDoor
open Go.RowKit
set_option linter.unusedVariables false
set_option linter.unusedSimpArgs false

def WkP (w : World) (R : Option (List Int × Nat)) (e : Ending) (w' : World) : Prop :=
  Bl w w' ∧ match R with
    | none => e = .returned (.tuple #[.pointer (some ⟨w.heap.size + 1, 0, none⟩), .bool false])
    | some r => e = .returned (.tuple #[.pointer (some ⟨w.heap.size + 1, 0, none⟩), .bool true]) ∧ r.2 ≤ r.1.length ∧ r.1.length ≤ 400 ∧ ∃ lv tv, Bx w' (w.heap.size + 1) #[lv, tv, .int .i64 r.2] ∧ Own w' (w.heap.size + 2) tv r.1
theorem sfind_eq {va : Value} {L : List Sud} {p d q z : Int} (h : fiZ (p, d, q) L = z) (w : World) (ha : SlU w va L) : Calls Tryz.prog 195 #[va, .agg #[.int .i64 p, .int .i64 d, .int .i64 q]] w fun e w' => e = .returned (.int .i64 z) ∧ Bl w w' := h ▸ sfind_any p d q w ha
theorem own_farU {w : World} {B : Nat} {v : Value} {xs : List Int} (h : Own w B v xs) {p : Addr} (hp : ∀ k, v.ownBlock = some k → k ≠ p.block) (u : Value) : Own (w.setCell p u) B v xs := by
  refine h.grown (row := some p.block) ⟨rfl, rfl, rfl, by simp, fun k hk hne => Below.heap_setCell w p u k (fun e => hne (by rw [e]))⟩ (.inr fun e => hp _ e rfl)
theorem own_apartU {w w' : World} {B : Nat} {v rv : Value} {xs : List Int} (h : Own w B v xs) (hg : w.grownBy w' rv.ownBlock) (hne : ∀ k, rv.ownBlock = some k → v.ownBlock ≠ some k) : Own w' B v xs := by
  refine h.grown hg ?_
  cases e : v.ownBlock with
  | none => exact .inl rfl
  | some k => exact .inr fun q => hne k q.symm e
theorem ownU_apart {w w' : World} {B : Nat} {v rv : Value} {fs : List Sud} (h : OwnU w B v fs) (hg : w.grownBy w' rv.ownBlock) (hne : ∀ k, rv.ownBlock = some k → v.ownBlock ≠ some k) : OwnU w' B v fs := by
  refine h.grown hg ?_
  cases e : v.ownBlock with
  | none => exact .inl rfl
  | some k => exact .inr fun q => hne k q.symm e
theorem dis_sym {v rv : Value} (h : ∀ k, rv.ownBlock = some k → v.ownBlock ≠ some k) : ∀ k, v.ownBlock = some k → rv.ownBlock ≠ some k := fun k h1 h2 => h k h2 h1
theorem dis_new {v rv rv' : Value} {n : Nat} (hl : rv'.ownBlock = rv.ownBlock ∨ rv'.ownBlock = some n) (hd : ∀ k, rv.ownBlock = some k → v.ownBlock ≠ some k) (hlt : ∀ k, v.ownBlock = some k → k < n) : ∀ k, rv'.ownBlock = some k → v.ownBlock ≠ some k := by
  intro k h1 h2
  rcases hl with e | e
  · exact hd k (e ▸ h1) h2
  · rw [e] at h1
    injection h1 with h1
    have := hlt k h2
    omega
theorem sflU_eq {p d q a : Int} (h : flU p d q = a) (w : World) (h1 : okU p d q = true) : Calls Tryz.prog 196 #[.agg #[.int .i64 p, .int .i64 d, .int .i64 q]] w fun e w' => e = .returned (.int .i64 a) ∧ Bl w w' := h ▸ sflU_any w h1
theorem snxU_eq {p d q a p1 d1 q1 : Int} {b : Bool} (h : nxU p d q a = ((p1, d1, q1), b)) (w : World) (h1 : okU p d q = true) (h2 : -1002001 ≤ a ∧ a ≤ 1002001) : Calls Tryz.prog 197 #[.agg #[.int .i64 p, .int .i64 d, .int .i64 q], .int .i64 a] w fun e w' => e = .returned (.tuple #[.agg #[.int .i64 p1, .int .i64 d1, .int .i64 q1], .bool b]) ∧ Bl w w' :=
  (snxU_any w h1 h2).mono fun e w' k => by rw [h] at k; exact k
theorem row_ne {w : World} {B b : Nat} {v : Value} {fs : List Sud} (h : OwnU w B v fs) (hb : b < B) : v.ownBlock ≠ some b := fun e => by have := (h.lt _ e).1; omega
theorem row_neU2 {w : World} {B b : Nat} {v : Value} {xs : List Int} (h : Own w B v xs) (hb : b < B) : v.ownBlock ≠ some b := fun e => by have := (h.lt _ e).1; omega
set_option maxRecDepth 100000 in
set_option maxHeartbeats 12800000 in
theorem swalk_any {p0 d0 q0 : Int} (w : World) (h0 : okU p0 d0 q0 = true) : Calls Tryz.prog 179 #[.agg #[.int .i64 p0, .int .i64 d0, .int .i64 q0]] w (WkP w (wkF [] [] (p0, d0, q0))) := by
  obtain ⟨R, hR⟩ : ∃ R, wkF [] [] (p0, d0, q0) = R := ⟨_, rfl⟩
  rw [hR]
  have HR := Lib.hid hR
  have H0 := Lib.hid h0
  clear hR h0
  go_enter Tryz.func179, Tryz.ntmps179
  go_wp2_with fail
  have xS0 : Bx ((w.alloc (.cells #[.int .i64 p0, .int .i64 d0, .int .i64 q0] 143)).alloc (.cells #[.slice none 0 0, .slice none 0 0, .int .i64 0] 165)) w.heap.size #[.int .i64 p0, .int .i64 d0, .int .i64 q0] := (Bx.new (b := w.heap.size) w _ 143 rfl).alloc _
  have xW0 : Bx ((w.alloc (.cells #[.int .i64 p0, .int .i64 d0, .int .i64 q0] 143)).alloc (.cells #[.slice none 0 0, .slice none 0 0, .int .i64 0] 165)) (w.heap.size + 1) #[.slice none 0 0, .slice none 0 0, .int .i64 0] := Bx.new (b := w.heap.size + 1) (w.alloc (.cells #[.int .i64 p0, .int .i64 d0, .int .i64 q0] 143)) _ 165 (by simp)
  have B0 : Bl w ((w.alloc (.cells #[.int .i64 p0, .int .i64 d0, .int .i64 q0] 143)).alloc (.cells #[.slice none 0 0, .slice none 0 0, .int .i64 0] 165)) := bl_alloc (bl_alloc (bl_refl w) _) _
  have z0 : w.heap.size + 2 ≤ (((w.alloc (.cells #[.int .i64 p0, .int .i64 d0, .int .i64 q0] 143)).alloc (.cells #[.slice none 0 0, .slice none 0 0, .int .i64 0] 165))).heap.size := by simp
  generalize ((w.alloc (.cells #[.int .i64 p0, .int .i64 d0, .int .i64 q0] 143)).alloc (.cells #[.slice none 0 0, .slice none 0 0, .int .i64 0] 165)) = wa at *
  go_loopg [5, 6, 7] 401 (fun n _ _ _ wr => ∃ (p d q fz : Int) (lv tv : Value) (L : List Sud) (T : List Int), Bx wr w.heap.size #[.int .i64 p, .int .i64 d, .int .i64 q] ∧ Bx wr (w.heap.size + 1) #[lv, tv, .int .i64 fz] ∧ OwnU wr (w.heap.size + 2) lv L ∧ Own wr (w.heap.size + 2) tv T ∧ Hid (wkF L T (p, d, q) = R) ∧ Hid (okU p d q = true) ∧ L.length = T.length ∧ L.length ≤ 400 ∧ n + L.length = 401 ∧ Hid (∀ k, lv.ownBlock = some k → tv.ownBlock ≠ some k) ∧ Bl w wr ∧ w.heap.size + 2 ≤ wr.heap.size)
  case atStart => exact ⟨p0, d0, q0, 0, _, _, [], [], xS0, xW0, OwnU.nil _ _, Own.nil _ _, HR, H0, rfl, by simp, by simp, Lib.hid (fun k h => by simp [Value.ownBlock] at h), B0, z0⟩
  case round =>
    obtain ⟨p, d, q, fz, lv, tv, L, T, xS, xW, hL, hT, HE, HOK, hlen, hL4, hn, HD, hB, hz⟩ := hrel
    clear xS0 xW0 B0 z0
    have HL := Lib.hid hL
    have HT := Lib.hid hT
    have HN := Lib.hid hn
    have HLN := Lib.hid hlen
    clear hlen
    obtain ⟨la, lc, rfl, _⟩ := hL.form
    obtain ⟨ta, tc, rfl, _⟩ := hT.form
    clear hL hT hn
    obtain ⟨Z, hZ⟩ : ∃ Z, fiZ (p, d, q) L = Z := ⟨_, rfl⟩
    have HZ := Lib.hid hZ
    clear hZ
    obtain ⟨cS, fS, zS⟩ := xS.out
    obtain ⟨cW, fW, zW⟩ := xW.out
    go_wp2_with fail
    go_cut [10, 11, 12, 13, 14, 15, 16, 17, 18] from 10 to 18 (fun _ _ _ _ _ _ _ _ _ wx => Bx wx w.heap.size #[.int .i64 p, .int .i64 d, .int .i64 q] ∧ Bx wx (w.heap.size + 1) #[.slice la L.length lc, .slice ta T.length tc, .int .i64 Z] ∧ OwnU wx (w.heap.size + 2) (.slice la L.length lc) L ∧ Own wx (w.heap.size + 2) (.slice ta T.length tc) T ∧ Bl w wx ∧ w.heap.size + 2 ≤ wx.heap.size)
    case first =>
      go_region_held3 (fun w' => w'.cell? ⟨w.heap.size, 0, none⟩ = some (.int .i64 p) ∧ w'.cell? ⟨w.heap.size, 1, none⟩ = some (.int .i64 d) ∧ w'.cell? ⟨w.heap.size, 2, none⟩ = some (.int .i64 q) ∧ w'.cell? ⟨w.heap.size + 1, 0, none⟩ = some (.slice la L.length lc)) (first | (simp [*]; done) | (go_simp; done) | go_keep)
        ((go_at_call 195; go_must (refine (sfind_eq HZ.out _ (HL.out.below (bl_drew (bl_refl wr))).slU).mono ?_; rintro e w2 ⟨rfl, hb2⟩; have xS2 := xS.drew.below hb2; have xW2 := xW.drew.below hb2; have B2 : Bl w w2 := bl_call (bl_drew hB) hb2; have hL2 := HL.out.below (w' := w2) (bl_call (bl_drew (bl_refl _)) hb2); have hT2 := HT.out.below (w' := w2) (bl_call (bl_drew (bl_refl _)) hb2); have z2 := Nat.le_trans hz hb2.size; clear cS fS zS cW fW zW; obtain ⟨cS, fS, zS⟩ := xS2.out; obtain ⟨cW, fW, zW⟩ := xW2.out)))
      all_goals
        go_wp2_with fail
        go_meet
        exact ⟨xS2.far (p := ⟨w.heap.size + 1, 2, none⟩) (by simp) _, xW2.set 2 _, hL2.far (p := ⟨w.heap.size + 1, 2, none⟩) (fun k hk => by have := (hL2.lt k hk).1; simp; omega) _, (own_farU hT2 (p := ⟨w.heap.size + 1, 2, none⟩) (fun k hk => by have := (hT2.lt k hk).1; simp; omega) _), bl_set B2 (by simp) _, by simpa using z2⟩
    case rest =>
      obtain ⟨xS1, xW1, hL1, hT1, B1, z1⟩ := hcut
      clear cS fS zS cW fW zW xS xW hB hz HL HT
      have HL := Lib.hid hL1
      have HT := Lib.hid hT1
      clear hL1 hT1
      obtain ⟨cS, fS, zS⟩ := xS1.out
      obtain ⟨cW, fW, zW⟩ := xW1.out
      cases hf : fiU (p, d, q) L 0 with
      | some k =>
        have hk := fiU_lt _ _ _ hf
        have hzk : Z = (k : Int) := by rw [← HZ.out]; unfold fiZ; rw [hf]; rfl
        have hRR : R = some (T, k) := by rw [← HE.out, wk_met hL4 hf]
        have HRR := Lib.hid hRR
        have hk2 : k ≤ L.length := by omega
        clear hf hRR hk HZ
        subst hzk
        go_wp2
        go_ret2
        rw [HRR.out]
        exact ⟨B1, rfl, by show k ≤ T.length; have := HLN.out; omega, by show T.length ≤ 400; have := HLN.out; omega, _, _, xW1, HT.out⟩
      | none =>
        have hzk : Z = -1 := by rw [← HZ.out]; unfold fiZ; rw [hf]; rfl
        have HF := Lib.hid hf
        clear hf HZ
        subst hzk
        by_cases h4 : L.length = 400
        · have hRR : R = none := by rw [← HE.out, wk_full h4 HF.out]
          have HRR := Lib.hid hRR
          have h4' : (400 : Int) ≤ (L.length : Int) := by omega
          clear hRR h4
          go_wp2
          go_ret2
          rw [HRR.out]
          exact ⟨B1, rfl⟩
        · have hl4 : L.length < 400 := by omega
          have h4' : ¬ (400 : Int) ≤ (L.length : Int) := by omega
          have hfb := flU_bd HOK.out
          obtain ⟨t, ht⟩ : ∃ t, flU p d q = t := ⟨_, rfl⟩
          have HTT := Lib.hid ht
          rw [ht] at hfb
          clear h4 ht
          go_wp2_with fail
          refine (sflU_eq HTT.out _ HOK.out).mono ?_
          rintro e w2 ⟨rfl, hb2⟩
          have xS2 := xS1.below hb2
          have xW2 := xW1.below hb2
          have HL2 := Lib.hid (HL.out.below hb2)
          have HT2 := Lib.hid (HT.out.below hb2)
          have B2 := bl_call B1 hb2
          have z2 := Nat.le_trans z1 hb2.size
          clear cS fS zS cW fW zW xS1 xW1 B1 z1 HL HT
          obtain ⟨cS, fS, zS⟩ := xS2.out
          obtain ⟨cW, fW, zW⟩ := xW2.out
          go_wp2_with fail
          go_cut [34, 35, 36, 37, 38, 39, 40, 41, 42, 43] from 34 to 43 (fun _ _ _ _ _ _ _ _ _ _ wx => ∃ (la2 : Option Addr) (lc2 : Nat), Bx wx w.heap.size #[.int .i64 p, .int .i64 d, .int .i64 q] ∧ Bx wx (w.heap.size + 1) #[.slice la2 (L.length + 1) lc2, .slice ta T.length tc, .int .i64 (-1)] ∧ Hid (OwnU wx (w.heap.size + 2) (.slice la2 (L.length + 1) lc2) (L ++ [(p, d, q)])) ∧ Hid (Own wx (w.heap.size + 2) (.slice ta T.length tc) T) ∧ Hid (∀ k, (Value.slice la2 (L.length + 1) lc2).ownBlock = some k → (Value.slice ta T.length tc).ownBlock ≠ some k) ∧ Bl w wx ∧ w.heap.size + 2 ≤ wx.heap.size)
          case first =>
            go_region_law ((first | (refine step_append_su (by rfl) _ _ (by rfl) (w.heap.size + 2) _ L (by rfl) ((HL2.out.below (bl_drew (bl_refl _))).below (bl_alloc (bl_refl _) _)) w2.heap.size p d q (by rfl) (Bx.new (b := w2.heap.size) w2.drew #[.int .i64 p, .int .i64 d, .int .i64 q] 143 (by rfl)) (by omega) (by simp; omega) ?_; intro v' wn ho hg hloc; obtain ⟨a1, n1, rfl, _⟩ := ho.form; have xSn := (xS2.drew.alloc (.cells #[.int .i64 p, .int .i64 d, .int .i64 q] 143)).grownApartF hg (row_ne HL2.out (by omega)); have xWn := (xW2.drew.alloc (.cells #[.int .i64 p, .int .i64 d, .int .i64 q] 143)).grownApartF hg (row_ne HL2.out (by omega)); clear cS fS zS cW fW zW; obtain ⟨cS, fS, zS⟩ := xSn.out; obtain ⟨cW, fW, zW⟩ := xWn.out)))
            all_goals
              have hln : (L ++ [(p, d, q)]).length = L.length + 1 := by simp
              rw [hln] at ho hloc
              have hTn := own_apartU ((HT2.out.below (bl_drew (bl_refl _))).below (bl_alloc (bl_refl _) (.cells #[.int .i64 p, .int .i64 d, .int .i64 q] 143))) hg HD.out
              have hDn := dis_new hloc HD.out (fun k hk => by have := (HT2.out.lt k hk).2; simp; omega)
              have Bn := bl_grown (bl_alloc (bl_drew B2) (.cells #[.int .i64 p, .int .i64 d, .int .i64 q] 143)) hg (fun k hk => by have := (HL2.out.lt k hk).1; omega)
              have zn : w.heap.size + 2 ≤ wn.heap.size := by have := hg.size; simp at this; omega
              go_wp2_with fail
              go_meet
              exact ⟨a1, n1, xSn.far (p := ⟨w.heap.size + 1, 0, none⟩) (by simp) _, xWn.set 0 _, Lib.hid (ho.far (p := ⟨w.heap.size + 1, 0, none⟩) (fun k hk => by have := (ho.lt k hk).1; simp; omega) _), Lib.hid (own_farU hTn (p := ⟨w.heap.size + 1, 0, none⟩) (fun k hk => by have := (hTn.lt k hk).1; simp; omega) _), Lib.hid hDn, bl_set Bn (by simp) _, by simpa using zn⟩
          case rest =>
            obtain ⟨la2, lc2, xS3, xW3, HL3, HT3, HD3, B3, z3⟩ := hcut
            clear cS fS zS cW fW zW xS2 xW2 HL2 HT2 B2 z2 HD
            obtain ⟨cS, fS, zS⟩ := xS3.out
            obtain ⟨cW, fW, zW⟩ := xW3.out
            have hTl : T.length < 1000000000 := by have := HLN.out; omega
            go_wp2_with (at_builtin; refine wpList_append_one rfl _ _ rfl (w.heap.size + 2) _ T (by rfl) HT3.out t (by unfold R64; omega) (by first | rfl | simp [Act.eval]) (by omega) (by omega) ?_; intro v' wn ho hg hloc; obtain ⟨a1, n1, rfl, _⟩ := ho.form; have xSn := xS3.grownApartF hg (row_neU2 HT3.out (by omega)); have xWn := xW3.grownApartF hg (row_neU2 HT3.out (by omega)); clear cS fS zS cW fW zW; obtain ⟨cS, fS, zS⟩ := xSn.out; obtain ⟨cW, fW, zW⟩ := xWn.out)
            have hln : (T ++ [t]).length = T.length + 1 := by simp
            rw [hln] at ho hloc
            have hLn := ownU_apart HL3.out hg (dis_sym HD3.out)
            have hDn := dis_sym (dis_new hloc (dis_sym HD3.out) (fun k hk => by have := (HL3.out.lt k hk).2; omega))
            have Bn := bl_grown B3 hg (fun k hk => by have := (HT3.out.lt k hk).1; omega)
            have zn : w.heap.size + 2 ≤ wn.heap.size := by have := hg.size; omega
            have xS4 := xSn.far (p := ⟨w.heap.size + 1, 1, none⟩) (by simp) (.slice a1 (T.length + 1) n1)
            have xW4 := xWn.set 1 (.slice a1 (T.length + 1) n1)
            have HL4 := Lib.hid (hLn.far (p := ⟨w.heap.size + 1, 1, none⟩) (fun k hk => by have := (hLn.lt k hk).1; simp; omega) (.slice a1 (T.length + 1) n1))
            have HT4 := Lib.hid (own_farU ho (p := ⟨w.heap.size + 1, 1, none⟩) (fun k hk => by have := (ho.lt k hk).1; simp; omega) (.slice a1 (T.length + 1) n1))
            have HD4 := Lib.hid hDn
            have B4 : Bl w (wn.setCell ⟨w.heap.size + 1, 1, none⟩ (.slice a1 (T.length + 1) n1)) := bl_set Bn (by simp) _
            have z4 : w.heap.size + 2 ≤ (wn.setCell ⟨w.heap.size + 1, 1, none⟩ (.slice a1 (T.length + 1) n1)).heap.size := by simpa using zn
            clear hLn ho hDn hg hloc hln xSn xWn Bn zn xS3 xW3 HL3 HT3 HD3 B3 z3 cS fS zS cW fW zW
            obtain ⟨cS, fS, zS⟩ := xS4.out
            obtain ⟨cW, fW, zW⟩ := xW4.out
            generalize wn.setCell ⟨w.heap.size + 1, 1, none⟩ (.slice a1 (T.length + 1) n1) = w4 at *
            obtain ⟨⟨⟨p1, d1, q1⟩, b⟩, hX⟩ : ∃ X, nxU p d q t = X := ⟨_, rfl⟩
            have HX := Lib.hid hX
            clear hX
            cases b with
            | false =>
              refine (snxU_eq HX.out _ HOK.out hfb).mono ?_
              rintro e w5 ⟨rfl, hb5⟩
              have xS5 := (xS4.below hb5).alloc (.cells #[.int .i64 p1, .int .i64 d1, .int .i64 q1] 143)
              have xW5 := (xW4.below hb5).alloc (.cells #[.int .i64 p1, .int .i64 d1, .int .i64 q1] 143)
              have xN5 : Bx (w5.alloc (.cells #[.int .i64 p1, .int .i64 d1, .int .i64 q1] 143)) w5.heap.size #[.int .i64 p1, .int .i64 d1, .int .i64 q1] := Bx.new (b := w5.heap.size) w5 _ 143 rfl
              have HL5 := Lib.hid ((HL4.out.below hb5).below (bl_alloc (bl_refl _) (.cells #[.int .i64 p1, .int .i64 d1, .int .i64 q1] 143)))
              have HT5 := Lib.hid ((HT4.out.below hb5).below (bl_alloc (bl_refl _) (.cells #[.int .i64 p1, .int .i64 d1, .int .i64 q1] 143)))
              have B5 := bl_alloc (bl_call B4 hb5) (.cells #[.int .i64 p1, .int .i64 d1, .int .i64 q1] 143)
              have z5 : w.heap.size + 2 ≤ w5.heap.size := Nat.le_trans z4 hb5.size
              have z6 : w5.heap.size + 1 ≤ (w5.alloc (.cells #[.int .i64 p1, .int .i64 d1, .int .i64 q1] 143)).heap.size := by simp
              clear xS4 xW4 HL4 HT4 B4 z4 cS fS zS cW fW zW
              obtain ⟨cS, fS, zS⟩ := xS5.out
              obtain ⟨cW, fW, zW⟩ := xW5.out
              obtain ⟨cN, fN, zN⟩ := xN5.out
              have hRR : R = none := by rw [← HE.out, wk_bad hl4 HF.out (by rw [HTT.out, HX.out])]
              have HRR := Lib.hid hRR
              clear hRR
              go_wp2
              go_ret2
              rw [HRR.out]
              exact ⟨B5, rfl⟩
            | true =>
              refine (snxU_eq HX.out _ HOK.out hfb).mono ?_
              rintro e w5 ⟨rfl, hb5⟩
              have xS5 := (xS4.below hb5).alloc (.cells #[.int .i64 p1, .int .i64 d1, .int .i64 q1] 143)
              have xW5 := (xW4.below hb5).alloc (.cells #[.int .i64 p1, .int .i64 d1, .int .i64 q1] 143)
              have xN5 : Bx (w5.alloc (.cells #[.int .i64 p1, .int .i64 d1, .int .i64 q1] 143)) w5.heap.size #[.int .i64 p1, .int .i64 d1, .int .i64 q1] := Bx.new (b := w5.heap.size) w5 _ 143 rfl
              have HL5 := Lib.hid ((HL4.out.below hb5).below (bl_alloc (bl_refl _) (.cells #[.int .i64 p1, .int .i64 d1, .int .i64 q1] 143)))
              have HT5 := Lib.hid ((HT4.out.below hb5).below (bl_alloc (bl_refl _) (.cells #[.int .i64 p1, .int .i64 d1, .int .i64 q1] 143)))
              have B5 := bl_alloc (bl_call B4 hb5) (.cells #[.int .i64 p1, .int .i64 d1, .int .i64 q1] 143)
              have z5 : w.heap.size + 2 ≤ w5.heap.size := Nat.le_trans z4 hb5.size
              have z6 : w5.heap.size + 1 ≤ (w5.alloc (.cells #[.int .i64 p1, .int .i64 d1, .int .i64 q1] 143)).heap.size := by simp
              clear xS4 xW4 HL4 HT4 B4 z4 cS fS zS cW fW zW
              obtain ⟨cS, fS, zS⟩ := xS5.out
              obtain ⟨cW, fW, zW⟩ := xW5.out
              obtain ⟨cN, fN, zN⟩ := xN5.out
              have HE2 := Lib.hid (show wkF (L ++ [(p, d, q)]) (T ++ [t]) (p1, d1, q1) = R by
                have h := wk_on (T := T) hl4 HF.out (by rw [HTT.out, HX.out])
                rw [HTT.out, HX.out] at h
                rw [← h]; exact HE.out)
              have HOK2 := Lib.hid (show okU p1 d1 q1 = true by
                have h := nx_ok (p := p) (d := d) (q := q) (a := t) (by rw [HX.out])
                rw [HX.out] at h; exact h)
              go_wp2
              go_roundg (gk - 1)
              case measure => have := HN.out; omega
              case rel =>
                have hl1 : (L ++ [(p, d, q)]).length = L.length + 1 := by simp
                have hl2 : (T ++ [t]).length = T.length + 1 := by simp
                refine ⟨p1, d1, q1, -1, .slice la2 (L.length + 1) lc2, .slice a1 (T.length + 1) n1, L ++ [(p, d, q)], T ++ [t], ((xS5.set 0 _).set 1 _).set 2 _, ((xW5.far (p := ⟨w.heap.size, 0, none⟩) (by simp) _).far (p := ⟨w.heap.size, 1, none⟩) (by simp) _).far (p := ⟨w.heap.size, 2, none⟩) (by simp) _, ((HL5.out.far (p := ⟨w.heap.size, 0, none⟩) ?_ _).far (p := ⟨w.heap.size, 1, none⟩) ?_ _).far (p := ⟨w.heap.size, 2, none⟩) ?_ _, own_farU (own_farU (own_farU HT5.out (p := ⟨w.heap.size, 0, none⟩) ?_ _) (p := ⟨w.heap.size, 1, none⟩) ?_ _) (p := ⟨w.heap.size, 2, none⟩) ?_ _, HE2, HOK2, ?_, ?_, ?_, HD4, bl_set (bl_set (bl_set B5 (p := ⟨w.heap.size, 0, none⟩) (by simp) _) (p := ⟨w.heap.size, 1, none⟩) (by simp) _) (p := ⟨w.heap.size, 2, none⟩) (by simp) _, ?_⟩
                · exact fun k hk => by have := (HL5.out.lt k hk).1; simp; omega
                · exact fun k hk => by have := (HL5.out.lt k hk).1; simp; omega
                · exact fun k hk => by have := (HL5.out.lt k hk).1; simp; omega
                · exact fun k hk => by have := (HT5.out.lt k hk).1; simp; omega
                · exact fun k hk => by have := (HT5.out.lt k hk).1; simp; omega
                · exact fun k hk => by have := (HT5.out.lt k hk).1; simp; omega
                · rw [hl1, hl2]; have := HLN.out; omega
                · rw [hl1]; omega
                · rw [hl1]; have := HN.out; omega
                · simp; omega

/-- What a good walk leaves: a block with the terms and the period's beginning. -/
def WkB (w w' : World) (b : Nat) (T : List Int) (k : Nat) : Prop := w.heap.size ≤ b ∧ k ≤ T.length ∧ T.length ≤ 400 ∧ ∃ lv tv, Bx w' b #[lv, tv, .int .i64 k] ∧ Own w' w.heap.size tv T

set_option maxRecDepth 100000 in
set_option maxHeartbeats 3200000 in
theorem scode_bad {p d q : Int} (w : World) (h : okU p d q = false) : Calls Tryz.prog 151 #[.agg #[.int .i64 p, .int .i64 d, .int .i64 q]] w fun e w' => ∃ v, e = .returned (.tuple #[v, .int .i64 1]) ∧ Bl w w' := by
  have E := Lib.hid h
  clear h
  go_enter Tryz.func151, Tryz.ntmps151
  go_wp2_with fail
  have B1 : Bl w (w.alloc (.cells #[.int .i64 p, .int .i64 d, .int .i64 q] 143)) := (bl_alloc (bl_refl _) _)
  have xS_1 : Bx (w.alloc (.cells #[.int .i64 p, .int .i64 d, .int .i64 q] 143)) (w.heap.size) #[.int .i64 p, .int .i64 d, .int .i64 q] := (Bx.new (b := w.heap.size) _ #[.int .i64 p, .int .i64 d, .int .i64 q] 143 (by first | rfl | simp))
  have zz1 : w.heap.size + 1 ≤ (w.alloc (.cells #[.int .i64 p, .int .i64 d, .int .i64 q] 143)).heap.size := (by simp)
  generalize (w.alloc (.cells #[.int .i64 p, .int .i64 d, .int .i64 q] 143)) = w1 at *
  obtain ⟨cS_1, fS_1, zS_1⟩ := xS_1.out
  refine (sokU_eq E.out _).mono ?_
  rintro e w2 ⟨rfl, hb2⟩
  have B2 : Bl w w2 := bl_call B1 hb2
  have xS_2 : Bx w2 (w.heap.size) #[.int .i64 p, .int .i64 d, .int .i64 q] := xS_1.below hb2
  clear cS_1 fS_1 zS_1
  obtain ⟨cS_2, fS_2, zS_2⟩ := xS_2.out
  go_wp2
  go_ret2
  exact ⟨_, rfl, bl_alloc B2 _⟩

set_option maxRecDepth 100000 in
set_option maxHeartbeats 3200000 in
theorem scode_full {p d q : Int} (w : World) (h : okU p d q = true) (hw : wkF [] [] (p, d, q) = none) : Calls Tryz.prog 151 #[.agg #[.int .i64 p, .int .i64 d, .int .i64 q]] w fun e w' => ∃ v, e = .returned (.tuple #[v, .int .i64 5]) ∧ Bl w w' := by
  have E := Lib.hid h
  have HW := Lib.hid hw
  clear h hw
  go_enter Tryz.func151, Tryz.ntmps151
  go_wp2_with fail
  have B1 : Bl w (w.alloc (.cells #[.int .i64 p, .int .i64 d, .int .i64 q] 143)) := (bl_alloc (bl_refl _) _)
  have xS_1 : Bx (w.alloc (.cells #[.int .i64 p, .int .i64 d, .int .i64 q] 143)) (w.heap.size) #[.int .i64 p, .int .i64 d, .int .i64 q] := (Bx.new (b := w.heap.size) _ #[.int .i64 p, .int .i64 d, .int .i64 q] 143 (by first | rfl | simp))
  have zz1 : w.heap.size + 1 ≤ (w.alloc (.cells #[.int .i64 p, .int .i64 d, .int .i64 q] 143)).heap.size := (by simp)
  generalize (w.alloc (.cells #[.int .i64 p, .int .i64 d, .int .i64 q] 143)) = w1 at *
  obtain ⟨cS_1, fS_1, zS_1⟩ := xS_1.out
  refine (sokU_eq E.out _).mono ?_
  rintro e w2 ⟨rfl, hb2⟩
  have B2 : Bl w w2 := bl_call B1 hb2
  have xS_2 : Bx w2 (w.heap.size) #[.int .i64 p, .int .i64 d, .int .i64 q] := xS_1.below hb2
  clear cS_1 fS_1 zS_1
  obtain ⟨cS_2, fS_2, zS_2⟩ := xS_2.out
  go_wp2_with fail
  refine (swalk_any _ E.out).mono ?_
  rintro e w9 ⟨hb9, hm⟩
  rw [HW.out] at hm
  have hm : e = _ := hm
  subst hm
  go_wp2
  go_ret2
  exact ⟨_, rfl, bl_call B2 hb9⟩

set_option maxRecDepth 100000 in
set_option maxHeartbeats 3200000 in
theorem scode_ok {p d q : Int} (w : World) {T : List Int} {k : Nat} (h : okU p d q = true) (hw : wkF [] [] (p, d, q) = some (T, k)) : Calls Tryz.prog 151 #[.agg #[.int .i64 p, .int .i64 d, .int .i64 q]] w fun e w' => ∃ b, e = .returned (.tuple #[.pointer (some ⟨b, 0, none⟩), .int .i64 0]) ∧ WkB w w' b T k ∧ Bl w w' := by
  have E := Lib.hid h
  have HW := Lib.hid hw
  clear h hw
  go_enter Tryz.func151, Tryz.ntmps151
  go_wp2_with fail
  have B1 : Bl w (w.alloc (.cells #[.int .i64 p, .int .i64 d, .int .i64 q] 143)) := (bl_alloc (bl_refl _) _)
  have xS_1 : Bx (w.alloc (.cells #[.int .i64 p, .int .i64 d, .int .i64 q] 143)) (w.heap.size) #[.int .i64 p, .int .i64 d, .int .i64 q] := (Bx.new (b := w.heap.size) _ #[.int .i64 p, .int .i64 d, .int .i64 q] 143 (by first | rfl | simp))
  have zz1 : w.heap.size + 1 ≤ (w.alloc (.cells #[.int .i64 p, .int .i64 d, .int .i64 q] 143)).heap.size := (by simp)
  generalize (w.alloc (.cells #[.int .i64 p, .int .i64 d, .int .i64 q] 143)) = w1 at *
  obtain ⟨cS_1, fS_1, zS_1⟩ := xS_1.out
  refine (sokU_eq E.out _).mono ?_
  rintro e w2 ⟨rfl, hb2⟩
  have B2 : Bl w w2 := bl_call B1 hb2
  have xS_2 : Bx w2 (w.heap.size) #[.int .i64 p, .int .i64 d, .int .i64 q] := xS_1.below hb2
  clear cS_1 fS_1 zS_1
  obtain ⟨cS_2, fS_2, zS_2⟩ := xS_2.out
  go_wp2_with fail
  refine (swalk_any _ E.out).mono ?_
  rintro e w9 ⟨hb9, hm⟩
  rw [HW.out] at hm
  obtain ⟨rfl, h1, h2, lv, tv, h3, h4⟩ := hm
  go_wp2
  go_ret2
  exact ⟨_, rfl, ⟨by have := B2.size; omega, h1, h2, lv, tv, h3, h4.mono (by have := B2.size; omega)⟩, bl_call B2 hb9⟩

end Go.Proofs.YtndblondleclpaaGreatDoor
