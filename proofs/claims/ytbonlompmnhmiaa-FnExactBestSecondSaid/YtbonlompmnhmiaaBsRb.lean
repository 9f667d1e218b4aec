/- Best approximations: the reference sees a fraction. Each theorem names its conditions. -/
import Derived.Test.YtbonlompmnhmiaaBsR
namespace Go.Proofs.Ytbonlompmnhmiaa
open Go.RowKit
set_option linter.unusedVariables false
set_option linter.unusedSimpArgs false


set_option maxRecDepth 100000 in
set_option maxHeartbeats 3200000 in
theorem see_tf {w : World} {p B : Nat} {n d x y : Int} {a : Option Addr} {c : Nat} {L : List (Int × Int)} (hx : Bx w p #[.int .i64 n, .int .i64 d, .bool true, .slice a L.length c, .bool false]) (ho : OwnF w B (.slice a L.length c) L) (hB : B ≤ w.heap.size) (hp : (Value.slice a L.length c).ownBlock ≠ some p) (ok : Sm2 n d x y) (hl : L.length ≤ 200) (hb : bestK true n d x y = false) :
    Calls Try.prog 98 #[.pointer (some ⟨p, 0, none⟩), .agg #[.int .i64 x, .int .i64 y]] w (SeeP w p B n d true (.slice a L.length c) (seeF false (x, y) L)) := by
  have hpw := hx.out.2.2
  have HS := Lib.hid ok
  have HO := Lib.hid ho
  have HP := Lib.hid hp
  have HK := Lib.hid (show secondF n d x y = false from hb)
  have hyu : yielded.match_1 (fun _ => Option Bool) (some undef) (fun b => some b) (fun _ => none) = none := rfl
  clear ok ho hp hb
  go_enter Try.func98, Try.ntmps98
  go_wp2_with fail
  have xG : Bx (w.alloc (.cells #[.int .i64 x, .int .i64 y] 26)) w.heap.size #[.int .i64 x, .int .i64 y] := Bx.new (b := w.heap.size) _ _ _ rfl
  have xL := hx.alloc (.cells #[.int .i64 x, .int .i64 y] 26)
  have B1 : Bl w (w.alloc (.cells #[.int .i64 x, .int .i64 y] 26)) := bl_alloc (bl_refl _) _
  generalize w.alloc (.cells #[.int .i64 x, .int .i64 y] 26) = w1 at *
  obtain ⟨cG, fG, zG⟩ := xG.out
  obtain ⟨cL, fL, zL⟩ := xL.out
  go_cut [32] (fun s32 wx => s32 = .bool true ∧ Bl w1 wx)
  case first =>
    (first | go_region_law ((first | (go_simp; go_at_call 87; go_must (refine (ssec_eq HK.out _ HS.out).mono ?_; rintro e w2 ⟨rfl, hb2⟩; have xG2 := xG.drew.below hb2; have xL2 := xL.drew.below hb2; have B2 : Bl w1 w2 := bl_call (bl_drew (bl_refl _)) hb2; clear cG fG zG cL fL zL; obtain ⟨cG, fG, zG⟩ := xG2.out; obtain ⟨cL, fL, zL⟩ := xL2.out); go_wp2_with fail))) | fail)
    all_goals (go_wp2_with fail; all_goals go_meet; all_goals exact ⟨rfl, B2⟩)
  case rest =>
    obtain ⟨rfl, hj⟩ := hcut
    obtain ⟨w2, rfl⟩ : ∃ x : World, x = wc := ⟨_, rfl⟩
    have xG2 := xG.below hj
    have xL2 := xL.below hj
    have B2 := bl_call B1 hj
    clear cG fG zG cL fL zL
    obtain ⟨cG, fG, zG⟩ := xG2.out
    obtain ⟨cL, fL, zL⟩ := xL2.out
    have HR := Lib.hid (see_no (g := (x, y)) (L := L) (b := false) rfl)
    go_wp2
    refine bodyPost_ret (results_none rfl _ _ _) rfl ?_
    exact see_mk HR.out (upv_bl (upv_refl _ _ _) B2) xL2 (HO.out.below B2) (fun k h => .inl h)

set_option maxRecDepth 100000 in
set_option maxHeartbeats 3200000 in
theorem see_tt {w : World} {p B : Nat} {n d x y : Int} {a : Option Addr} {c : Nat} {L : List (Int × Int)} (hx : Bx w p #[.int .i64 n, .int .i64 d, .bool true, .slice a L.length c, .bool false]) (ho : OwnF w B (.slice a L.length c) L) (hB : B ≤ w.heap.size) (hp : (Value.slice a L.length c).ownBlock ≠ some p) (ok : Sm2 n d x y) (hl : L.length ≤ 200) (hb : bestK true n d x y = true) :
    Calls Try.prog 98 #[.pointer (some ⟨p, 0, none⟩), .agg #[.int .i64 x, .int .i64 y]] w (SeeP w p B n d true (.slice a L.length c) (seeF true (x, y) L)) := by
  have hpw := hx.out.2.2
  have HS := Lib.hid ok
  have HO := Lib.hid ho
  have HP := Lib.hid hp
  have HK := Lib.hid (show secondF n d x y = true from hb)
  have hyu : yielded.match_1 (fun _ => Option Bool) (some undef) (fun b => some b) (fun _ => none) = none := rfl
  clear ok ho hp hb
  go_enter Try.func98, Try.ntmps98
  go_wp2_with fail
  have xG : Bx (w.alloc (.cells #[.int .i64 x, .int .i64 y] 26)) w.heap.size #[.int .i64 x, .int .i64 y] := Bx.new (b := w.heap.size) _ _ _ rfl
  have xL := hx.alloc (.cells #[.int .i64 x, .int .i64 y] 26)
  have B1 : Bl w (w.alloc (.cells #[.int .i64 x, .int .i64 y] 26)) := bl_alloc (bl_refl _) _
  generalize w.alloc (.cells #[.int .i64 x, .int .i64 y] 26) = w1 at *
  obtain ⟨cG, fG, zG⟩ := xG.out
  obtain ⟨cL, fL, zL⟩ := xL.out
  go_cut [32] (fun s32 wx => s32 = .bool false ∧ Bl w1 wx)
  case first =>
    (first | go_region_law ((first | (go_simp; go_at_call 87; go_must (refine (ssec_eq HK.out _ HS.out).mono ?_; rintro e w2 ⟨rfl, hb2⟩; have xG2 := xG.drew.below hb2; have xL2 := xL.drew.below hb2; have B2 : Bl w1 w2 := bl_call (bl_drew (bl_refl _)) hb2; clear cG fG zG cL fL zL; obtain ⟨cG, fG, zG⟩ := xG2.out; obtain ⟨cL, fL, zL⟩ := xL2.out); go_wp2_with fail))) | fail)
    all_goals (go_wp2_with fail; all_goals go_meet; all_goals exact ⟨rfl, B2⟩)
  case rest =>
    obtain ⟨rfl, hj⟩ := hcut
    obtain ⟨w2, rfl⟩ : ∃ x : World, x = wc := ⟨_, rfl⟩
    have xG2 := xG.below hj
    have xL2 := xL.below hj
    have B2 := bl_call B1 hj
    clear cG fG zG cL fL zL
    obtain ⟨cG, fG, zG⟩ := xG2.out
    obtain ⟨cL, fL, zL⟩ := xL2.out
    by_cases hfull : 200 ≤ L.length
    ·
      have HR := Lib.hid (see_full (g := (x, y)) (L := L) (b := true) rfl hfull)
      have hfi : (200 : Int) ≤ (L.length : Int) := by omega
      go_wp2
      refine bodyPost_ret (results_none rfl _ _ _) rfl ?_
      have u1 := upd_set (upd_refl w2 p) 4 (.bool true)
      exact see_mk HR.out (upv_upd (upv_bl (upv_refl _ _ _) B2) u1) (xL2.set 4 (.bool true)) ((HO.out.below B2).upd u1 HP.out) (fun k h => .inl h)
    ·
      have HR := Lib.hid (see_yes (g := (x, y)) (L := L) (b := true) rfl hfull)
      have hfi : ¬ (200 : Int) ≤ (L.length : Int) := by omega
      have HO2 := Lib.hid (HO.out.below B2)
      have hB2 : B ≤ w2.heap.size := Nat.le_trans hB B2.size
      have u2 : Upv w w2 p (.slice a L.length c) := upv_bl (upv_refl _ _ _) B2
      go_wp2_with fail
      clear cG fG zG cL fL zL
      obtain ⟨cG, fG, zG⟩ := xG2.out
      obtain ⟨cL, fL, zL⟩ := xL2.out
      go_region_law ((first | (refine step_append_fr (by rfl) _ _ (by rfl) B _ L (by rfl) (HO2.out.drew.alloc _) w2.heap.size x y (by rfl) (Bx.new (b := w2.heap.size) w2.drew #[.int .i64 x, .int .i64 y] 26 (by rfl)) (by omega) (by simp; omega) ?_; intro v' wn ho hg hloc; obtain ⟨a1, n1, rfl, _⟩ := ho.form; have xn := (xL2.drew.alloc (.cells #[.int .i64 x, .int .i64 y] 26)).grownApartF hg HP.out; have un : Upv w wn p (.slice a L.length c) := upv_row (upv_bl u2 (bl_alloc (bl_drew (bl_refl _)) (.cells #[.int .i64 x, .int .i64 y] 26))) hg (fun k hk => .inl hk); obtain ⟨cn, fn, zn⟩ := xn.out)))
      all_goals
      have hL2 : (L ++ [(x, y)]).length = L.length + 1 := by simp
      rw [hL2] at ho hloc
      have HR1 : RowOf w (.slice a L.length c) (.slice a1 (L.length + 1) n1) := fun k hk => by
        rcases hloc with l | l
        · exact .inl (l ▸ hk)
        · rw [l] at hk; injection hk with hk; right; have := B2.size; rw [← hk]; simp; omega
      have HN1 := own_ne HR1 HP.out hpw
      have u3 := upd_set (upd_refl wn p) 3 (.slice a1 (L.length + 1) n1)
      have HLL := Lib.hid hL2
      clear hL2 hloc
      go_wp2
      refine bodyPost_ret (results_none rfl _ _ _) rfl ?_
      exact see_mk HR.out (upv_upd un u3) (xn.set 3 (.slice a1 (L.length + 1) n1)) (ho.upd u3 HN1) HR1

end Go.Proofs.Ytbonlompmnhmiaa
