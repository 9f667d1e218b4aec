/- Some of the texts of this claim, joined in one file: Cont, Conv. -/
import Derived.Test.YtgkelemfbmmgnaaGreatMSv1
import Derived.Test.YtgkelemfbmmgnaaGreatMSv7
import Derived.Test.YtgkelemfbmmgnaaGreatMSv2
import Derived.Test.YtgkelemfbmmgnaaGreatMSv3
/- slices.ContainsFunc with the two closures of the program. Each theorem names its conditions. -/
namespace Go.Proofs.YtgkelemfbmmgnaaGreat
open Go.RowKit
set_option linter.unusedVariables false
set_option linter.unusedSimpArgs false

theorem inB_eq {n lo hi : Int} {b : Bool} (h : inB n lo hi = b) (w : World) : Calls Tryz.prog 38 #[.int .i64 n, .int .i64 lo, .int .i64 hi] w fun e w' => e = .returned (.bool b) ∧ w = w' := h ▸ within_any n lo hi w
theorem any_take {xs : List Int} {pr : Int → Bool} {k : Nat} {x : Int} (h : (xs.take k).any pr = false) (hx : xs[k]? = some x) (hp : pr x = false) : (xs.take (k + 1)).any pr = false := by
  rw [List.take_add_one, hx, List.any_append, h]
  simp [hp]
theorem any_at {xs : List Int} {pr : Int → Bool} {k : Nat} {x : Int} (hx : xs[k]? = some x) (hp : pr x = true) : xs.any pr = true := by
  rw [List.any_eq_true]
  exact ⟨x, List.mem_of_getElem? hx, hp⟩
def IdxPost (b : Bool) (w : World) (e : Ending) (w' : World) : Prop := ∃ i : Int, e = .returned (.int .i64 i) ∧ decide (0 ≤ i) = b ∧ Bl w w'
theorem Sl.cellAt' {w w' : World} {a : Option Addr} {n c : Nat} {xs : List Int} (h : Sl w (.slice a n c) xs) (hb : Bl w w') {k : Nat} (hk : k < xs.length) :
    ∃ b o, a = some ⟨b, o, none⟩ ∧ ∃ x, xs[k]? = some x ∧ w'.cell? ⟨b, o + k, none⟩ = some (.int .i64 x) ∧ R64 x := by
  obtain ⟨a', cap, e, h1, h2, h3, h4, h5⟩ := h
  simp only [Value.slice.injEq] at e
  obtain ⟨rfl, rfl, rfl⟩ := e
  rcases h5 with h5 | ⟨b, off, rfl, hc⟩
  · rw [h5] at hk; simp at hk
  · have hx : xs[k]? = some xs[k] := List.getElem?_eq_getElem hk
    exact ⟨b, off, rfl, _, hx, (hb.cell (p := ⟨b, off + k, none⟩) (cell_lt (hc k _ hx))).trans (hc k _ hx), h3 _ (List.getElem_mem hk)⟩
theorem Sl.form' {w : World} {v : Value} {xs : List Int} (h : Sl w v xs) : ∃ a c, v = .slice a xs.length c ∧ xs.length ≤ c := by
  obtain ⟨a, cap, rfl, h1, _⟩ := h
  exact ⟨a, cap, rfl, h1⟩

set_option maxHeartbeats 400000 in
theorem cloT_eq {x : Int} {b : Bool} (h : (!inB x 1 1000000000) = b) (w : World) : Calls Tryz.prog 107 #[.int .i64 x] w fun e w' => e = .returned (.bool b) ∧ w = w' := by
  have H := Lib.hid (show inB x 1 1000000000 = !b by rw [← h]; simp)
  clear h
  go_enter Tryz.func107, Tryz.ntmps107
  go_wp2_with fail
  refine (inB_eq H.out _).mono ?_
  rintro e w' ⟨rfl, rfl⟩
  go_wp2
  go_ret
  exact ⟨ret_bool (by simp), rfl⟩

set_option maxRecDepth 100000 in
set_option maxHeartbeats 1600000 in
theorem idxT_any (va : Value) (xs : List Int) (w : World) (ha : Sl w va xs) (hl : xs.length ≤ 1048576) :
    Calls Tryz.prog 111 #[va, .func (.func 107) #[] #[]] w (IdxPost (xs.any fun x => (!inB x 1 1000000000)) w) := by
  obtain ⟨av, cv, rfl, hcv⟩ := ha.form'
  obtain ⟨pr, hpr⟩ : ∃ pr : Int → Bool, pr = fun x => (!inB x 1 1000000000) := ⟨_, rfl⟩
  have HPR := Lib.hid (show ∀ x, pr x = (!inB x 1 1000000000) from fun x => by rw [hpr])
  rw [← hpr]
  clear hpr
  have HA := Lib.hid ha
  clear ha
  go_enter Tryz.func111, Tryz.ntmps111
  go_wp2
  go_loopw [8, 5] (fun s8 s5 wr => ∃ k : Nat, s8 = .int .i64 k ∧ k ≤ xs.length ∧ Hid ((xs.take k).any pr = false) ∧ Bl w wr) (fun s8 _ _ => xs.length - (intOf s8).toNat)
  case atStart => exact ⟨0, rfl, Nat.zero_le _, Lib.hid (by simp), bl_refl _⟩
  case round =>
    rcases hrel with ⟨k, rfl, hkl, hG, Br⟩
    rcases Nat.lt_or_ge k xs.length with hk | hk
    · obtain ⟨bb, oo, rfl, x, hx, cx, rx⟩ := HA.out.cellAt' Br hk
      have HX := Lib.hid hx
      clear hx
      cases hp : pr x with
      | true =>
        have HP := Lib.hid hp
        clear hp
        go_wp2_with fail
        refine (cloT_eq (b := true) (by rw [← HPR.out x]; exact HP.out) _ ).mono ?_
        rintro e w9 ⟨rfl, rfl⟩
        go_wp2
        go_ret
        exact ⟨k, rfl, by rw [any_at HX.out HP.out]; simp, Br⟩
      | false =>
        have HP := Lib.hid hp
        clear hp
        have HN := Lib.hid (any_take hG.out HX.out HP.out)
        go_wp2_with fail
        refine (cloT_eq (b := false) (by rw [← HPR.out x]; exact HP.out) _ ).mono ?_
        rintro e w9 ⟨rfl, rfl⟩
        go_wp2
        go_roundw
        case rel => exact ⟨k + 1, by go_num, by omega, HN, Br⟩
        case measure => clear HN; simp only [intOf, Int.toNat_natCast]; omega
    · have HN := Lib.hid (show xs.any pr = false by have := hG.out; rwa [List.take_of_length_le hk] at this)
      go_wp2
      go_ret
      exact ⟨-1, rfl, by rw [HN.out]; simp, Br⟩

set_option maxHeartbeats 800000 in
theorem contT_any (va : Value) (xs : List Int) (w : World) (ha : Sl w va xs) (hl : xs.length ≤ 1048576) :
    Calls Tryz.prog 106 #[va, .func (.func 107) #[] #[]] w fun e w' => e = .returned (.bool (xs.any fun x => (!inB x 1 1000000000))) ∧ Bl w w' := by
  go_enter Tryz.func106, Tryz.ntmps106
  go_wp2_with fail
  refine (idxT_any va xs w ha hl ).mono ?_
  rintro e w1 ⟨i, rfl, hi, hb1⟩
  have HI := Lib.hid hi
  clear hi
  go_wp2
  go_ret
  exact ⟨ret_bool HI.out, hb1⟩

end Go.Proofs.YtgkelemfbmmgnaaGreat

/- The convergents of terms: the program and the reference. Each theorem names its conditions. -/
namespace Go.Proofs.YtgkelemfbmmgnaaGreat
open Go.RowKit
set_option linter.unusedVariables false
set_option linter.unusedSimpArgs false

theorem mulb {x y X Y : Int} (h1 : -X ≤ x ∧ x ≤ X) (h2 : -Y ≤ y ∧ y ≤ Y) : -(X * Y) ≤ x * y ∧ x * y ≤ X * Y := by
  have hX : 0 ≤ X := by omega
  have hY : 0 ≤ Y := by omega
  have a1 := Int.mul_nonneg (show 0 ≤ X - x by omega) (show 0 ≤ Y - y by omega)
  have a2 := Int.mul_nonneg (show 0 ≤ X + x by omega) (show 0 ≤ Y + y by omega)
  have a3 := Int.mul_nonneg (show 0 ≤ X - x by omega) (show 0 ≤ Y + y by omega)
  have a4 := Int.mul_nonneg (show 0 ≤ X + x by omega) (show 0 ≤ Y - y by omega)
  have e1 : (X - x) * (Y - y) = X * Y - X * y - x * Y + x * y := by grind
  have e2 : (X + x) * (Y + y) = X * Y + X * y + x * Y + x * y := by grind
  have e3 : (X - x) * (Y + y) = X * Y + X * y - x * Y - x * y := by grind
  have e4 : (X + x) * (Y - y) = X * Y - X * y + x * Y - x * y := by grind
  omega
/-- The convergents behind a state, if all are plain. -/
def convG : List Int → Int → Int → Int → Int → Option (List (Int × Int))
  | [], _, _, _, _ => some []
  | t :: ts, p, q, p0, q0 => if okF (t * p + p0) (t * q + q0) then (convG ts (t * p + p0) (t * q + q0) p q).map ((t * p + p0, t * q + q0) :: ·) else none
def convL (xs : List Int) : Option (List (Int × Int)) := convG xs 1 0 0 1
theorem drop_cons {xs : List Int} {k : Nat} {t : Int} (h : xs[k]? = some t) : xs.drop k = t :: xs.drop (k + 1) := by
  obtain ⟨h1, h2⟩ := List.getElem?_eq_some_iff.1 h
  rw [List.drop_eq_getElem_cons h1, h2]
theorem convG_no {xs : List Int} {k : Nat} {t p q p0 q0 : Int} {fs : List (Int × Int)} {R : Option (List (Int × Int))} (h : xs[k]? = some t) (hr : R = (convG (xs.drop k) p q p0 q0).map (fs ++ ·)) (ho : okF (t * p + p0) (t * q + q0) = false) : R = none := by
  rw [hr, drop_cons h, convG, ho]
  rfl
theorem convG_yes {xs : List Int} {k : Nat} {t p q p0 q0 : Int} {fs : List (Int × Int)} {R : Option (List (Int × Int))} (h : xs[k]? = some t) (hr : R = (convG (xs.drop k) p q p0 q0).map (fs ++ ·)) (ho : okF (t * p + p0) (t * q + q0) = true) : R = (convG (xs.drop (k + 1)) (t * p + p0) (t * q + q0) p q).map ((fs ++ [(t * p + p0, t * q + q0)]) ++ ·) := by
  rw [hr, drop_cons h, convG, ho, if_pos rfl, Option.map_map]
  congr 1
  funext l
  simp
theorem convG_end {xs : List Int} {k : Nat} {p q p0 q0 : Int} {fs : List (Int × Int)} {R : Option (List (Int × Int))} (h : xs.length ≤ k) (hr : R = (convG (xs.drop k) p q p0 q0).map (fs ++ ·)) : R = some fs := by
  rw [hr, List.drop_eq_nil_of_le h, convG]
  simp
theorem convG_len {xs : List Int} : ∀ {p q p0 q0 : Int} {fs : List (Int × Int)}, convG xs p q p0 q0 = some fs → fs.length = xs.length := by
  induction xs with
  | nil => intro p q p0 q0 fs h; simp [convG] at h; subst h; rfl
  | cons t ts ih =>
    intro p q p0 q0 fs h
    rw [convG] at h
    split at h
    · obtain ⟨l, hl, rfl⟩ := Option.map_eq_some_iff.1 h
      simp [ih hl]
    · cases h
theorem convG_ok {xs : List Int} : ∀ {p q p0 q0 : Int} {fs : List (Int × Int)}, convG xs p q p0 q0 = some fs → ∀ f ∈ fs, okF f.1 f.2 = true := by
  induction xs with
  | nil => intro p q p0 q0 fs h; simp [convG] at h; subst h; simp
  | cons t ts ih =>
    intro p q p0 q0 fs h
    rw [convG] at h
    split at h
    · rename_i ho
      obtain ⟨l, hl, rfl⟩ := Option.map_eq_some_iff.1 h
      intro f hf
      rcases List.mem_cons.1 hf with rfl | hf
      · exact ho
      · exact ih hl f hf
    · cases h
theorem validF_eq' {n d : Int} {b : Bool} (h : okF n d = b) (w : World) : Calls Tryz.prog 27 #[.agg #[.int .i64 n, .int .i64 d]] w fun e w' => e = .returned (.bool b) ∧ Bl w w' := h ▸ validF_any n d w
theorem ok_eq' {n d : Int} {b : Bool} (h : okF n d = b) (w : World) : Calls Tryz.prog 30 #[.agg #[.int .i64 n, .int .i64 d]] w fun e w' => e = .returned (.bool b) ∧ Bl w w' := h ▸ ok_any n d w
theorem ret_fb {v : Value} {R : Option (List (Int × Int))} {b : Bool} (h : R.isSome = b) : Ending.returned (.tuple #[v, .bool b]) = .returned (.tuple #[v, .bool R.isSome]) := by rw [h]

set_option maxRecDepth 100000 in
set_option maxHeartbeats 3200000 in
theorem convI_any (va : Value) (xs : List Int) (w : World) (ha : Sl w va xs) (hl : xs.length ≤ 1000000) (hb : ∀ x ∈ xs, -1000000000 ≤ x ∧ x ≤ 1000000000) :
    Calls Tryz.prog 41 #[va] w fun e w' => ∃ a n c, e = .returned (.tuple #[.slice a n c, .bool (convL xs).isSome]) ∧ OwnF w' w.heap.size (.slice a n c) ((convL xs).getD []) ∧ Bl w w' := by
  obtain ⟨av, cv, rfl, hcv⟩ := ha.form
  obtain ⟨R, hR⟩ : ∃ R, R = convL xs := ⟨_, rfl⟩
  rw [← hR]
  have HR0 := Lib.hid hR
  clear hR
  have HB := Lib.hid hb
  have HA := Lib.hid ha
  clear hb ha
  obtain ⟨i0, hi, hz0, hz1, hz2⟩ := info_parts info_fr
  go_enter Tryz.func41, Tryz.ntmps41
  go_wp2_with (at_make; refine wpList_make_own _ rfl _ _ 75 rfl w.heap.size 25 i0 (.agg #[.int .i64 0, .int .i64 0]) 2 Tryz.underlying75 hi hz0 hz1 .i64 .i64 _ xs.length rfl rfl rfl (by rw [hz2]; omega) (by unfold maxLen; omega) (Nat.le_refl _) ?_; intro w1 hown hgrow)
  have B1 : Bl w w1 := below_of_grown hgrow
  clear hgrow
  go_loopw [4, 5, 6, 7, 8, 17, 10, 11] (fun s4 s5 s6 s7 s8 s17 s10 s11 wr => ∃ (k : Nat) (fs : List (Int × Int)) (a : Option Addr) (c : Nat) (p q p0 q0 : Int), s17 = .int .i64 k ∧ s4 = .slice a fs.length c ∧ s5 = .int .i64 p ∧ s6 = .int .i64 q ∧ s7 = .int .i64 p0 ∧ s8 = .int .i64 q0 ∧ k ≤ xs.length ∧ fs.length = k ∧ OwnF wr w.heap.size (.slice a fs.length c) fs ∧ Hid (R = (convG (xs.drop k) p q p0 q0).map (fs ++ ·)) ∧ -1000000000 ≤ p ∧ p ≤ 1000000000 ∧ -1000000000 ≤ q ∧ q ≤ 1000000000 ∧ -1000000000 ≤ p0 ∧ p0 ≤ 1000000000 ∧ -1000000000 ≤ q0 ∧ q0 ≤ 1000000000 ∧ Bl w wr) (fun _ _ _ _ _ s17 _ _ _ => xs.length - (intOf s17).toNat)
  case atStart => exact ⟨0, [], _, _, 1, 0, 0, 1, rfl, rfl, rfl, rfl, rfl, rfl, Nat.zero_le _, rfl, hown, Lib.hid (by rw [HR0.out, convL]; simp), by omega, by omega, by omega, by omega, by omega, by omega, by omega, by omega, B1⟩
  case round =>
    rcases hrel with ⟨k, fs, a, c, p, q, p0, q0, rfl, rfl, rfl, rfl, rfl, rfl, hkl, hfk, ho, hx, p1, p2, p3, p4, p5, p6, p7, p8, Br⟩
    subst hfk
    have HO := Lib.hid ho
    clear ho
    rcases Nat.lt_or_ge fs.length xs.length with hk | hk
    ·
      obtain ⟨bb, oo, rfl, t, ht, ct, rt⟩ := HA.out.cellAt' Br hk
      have htb := HB.out t (List.mem_of_getElem? ht)
      have HT := Lib.hid ht
      clear ht
      have m1 := mulb htb (show -1000000000 ≤ p ∧ p ≤ 1000000000 by omega)
      have m2 := mulb htb (show -1000000000 ≤ q ∧ q ≤ 1000000000 by omega)
      cases e1 : okF (t * p + p0) (t * q + q0) with
      | false =>
        have E1 := Lib.hid e1
        clear e1
        have HX := Lib.hid (convG_no HT.out hx.out E1.out)
        go_wp2_with fail
        refine (validF_eq' E1.out _).mono ?_
        rintro e wr1 ⟨rfl, hbr1⟩
        have Br1 : Bl w wr1 := bl_call (bl_alloc Br _) hbr1
        have xP_r1 : Bx wr1 (wr.heap.size) #[.int .i64 (t * p + p0), .int .i64 (t * q + q0)] := (Bx.new (b := wr.heap.size) _ #[.int .i64 (t * p + p0), .int .i64 (t * q + q0)] 25 (by first | rfl | simp)).below hbr1
        obtain ⟨cP_r1, fP_r1, zP_r1⟩ := xP_r1.out
        go_wp2
        go_ret2
        exact ⟨none, 0, 0, ret_fb (by rw [HX.out]; rfl), by rw [HX.out]; exact OwnF.nil _ _, Br1⟩
      | true =>
        have kb := okF_iff.1 e1
        have E1 := Lib.hid e1
        clear e1
        have HX := Lib.hid (convG_yes HT.out hx.out E1.out)
        go_wp2_with fail
        refine (validF_eq' E1.out _).mono ?_
        rintro e wr1 ⟨rfl, hbr1⟩
        have Br1 : Bl w wr1 := bl_call (bl_alloc Br _) hbr1
        have xP_r1 : Bx wr1 (wr.heap.size) #[.int .i64 (t * p + p0), .int .i64 (t * q + q0)] := (Bx.new (b := wr.heap.size) _ #[.int .i64 (t * p + p0), .int .i64 (t * q + q0)] 25 (by first | rfl | simp)).below hbr1
        obtain ⟨cP_r1, fP_r1, zP_r1⟩ := xP_r1.out
        have HO1 := Lib.hid ((HO.out.alloc _).below hbr1)
        go_wp2_with (at_builtin; refine wpList_append_frac rfl _ _ rfl w.heap.size _ fs (by rfl) HO1.out _ _ (by rfl) (by omega) (Br1.size) ?_; intro v' wn ho hg hat; obtain ⟨a1, c1, rfl, _⟩ := ho.form)
        have BN := bl_grown Br1 hg (fun k hk => (HO1.out.lt k hk).1)
        clear hg hat
        have HO2 := Lib.hid ho
        clear ho
        go_wp2
        go_roundw
        case rel => exact ⟨fs.length + 1, fs ++ [(t * p + p0, t * q + q0)], a1, c1, _, _, _, _, by go_num, by simp, rfl, rfl, rfl, rfl, by omega, by simp, HO2.out, HX, by omega, by omega, by omega, by omega, by omega, by omega, by omega, by omega, BN⟩
        case measure => clear HX; simp only [intOf, Int.toNat_natCast]; omega
    · have HX := Lib.hid (convG_end hk hx.out)
      go_wp2
      go_ret2
      exact ⟨a, fs.length, c, ret_fb (by rw [HX.out]; rfl), by rw [HX.out]; exact HO.out, Br⟩

set_option maxHeartbeats 400000 in
theorem cnew_any (w : World) : Calls Tryz.prog 77 #[] w fun e w' => e = .returned (.agg #[.int .i64 1, .int .i64 0, .int .i64 0, .int .i64 1]) ∧ Bl w w' := by
  go_enter Tryz.func77, Tryz.ntmps77
  go_wp2
  refine bodyPost_ret (v := .agg #[.int .i64 1, .int .i64 0, .int .i64 0, .int .i64 1]) (by simp only [results, Tryz.results77]; go_simp) rfl ⟨rfl, ?_⟩
  repeat first | (with_reducible exact bl_refl _) | (with_reducible refine bl_alloc ?_ _) | (with_reducible refine bl_set ?_ (by first | exact Nat.le_refl _ | (simp; done) | (simp; omega)) _)
set_option maxRecDepth 100000 in
set_option maxHeartbeats 800000 in
theorem cnext_any (p q p0 q0 t : Int) (w : World) (m1 : -1000000000000000000 ≤ t * p ∧ t * p ≤ 1000000000000000000) (m2 : -1000000000000000000 ≤ t * q ∧ t * q ≤ 1000000000000000000) (h1 : -1000000000 ≤ p0 ∧ p0 ≤ 1000000000) (h2 : -1000000000 ≤ q0 ∧ q0 ≤ 1000000000) :
    Calls Tryz.prog 78 #[.agg #[.int .i64 p, .int .i64 q, .int .i64 p0, .int .i64 q0], .int .i64 t] w fun e w' => e = .returned (.agg #[.int .i64 (t * p + p0), .int .i64 (t * q + q0), .int .i64 p, .int .i64 q]) ∧ Bl w w' := by
  go_enter Tryz.func78, Tryz.ntmps78
  go_wp2
  refine bodyPost_ret (v := .agg #[.int .i64 (t * p + p0), .int .i64 (t * q + q0), .int .i64 p, .int .i64 q]) (by simp only [results, Tryz.results78]; go_simp) rfl ⟨rfl, ?_⟩
  repeat first | (with_reducible exact bl_refl _) | (with_reducible refine bl_alloc ?_ _) | (with_reducible refine bl_set ?_ (by first | exact Nat.le_refl _ | (simp; done) | (simp; omega)) _)

set_option maxRecDepth 100000 in
set_option maxHeartbeats 3200000 in
theorem convS_any (va : Value) (xs : List Int) (w : World) (ha : Sl w va xs) (hl : xs.length ≤ 1000000) (hb : ∀ x ∈ xs, -1000000000 ≤ x ∧ x ≤ 1000000000) :
    Calls Tryz.prog 44 #[va] w fun e w' => ∃ a n c, e = .returned (.tuple #[.slice a n c, .bool (convL xs).isSome]) ∧ OwnF w' w.heap.size (.slice a n c) ((convL xs).getD []) ∧ Bl w w' := by
  obtain ⟨av, cv, rfl, hcv⟩ := ha.form
  obtain ⟨R, hR⟩ : ∃ R, R = convL xs := ⟨_, rfl⟩
  rw [← hR]
  have HR0 := Lib.hid hR
  clear hR
  have HB := Lib.hid hb
  have HA := Lib.hid ha
  clear hb ha
  go_enter Tryz.func44, Tryz.ntmps44
  go_wp2_with fail
  refine (cnew_any _).mono ?_
  rintro e w1 ⟨rfl, hb1⟩
  have B1 : Bl w w1 := bl_call (bl_alloc (bl_refl _) _) hb1
  have HO := Lib.hid (((ownF_made w rfl (Nat.le_refl w.heap.size)).below hb1).alloc (.cells #[.int .i64 1, .int .i64 0, .int .i64 0, .int .i64 1] 114))
  go_wp2_with fail
  have B2 : Bl w (w1.alloc (.cells #[.int .i64 1, .int .i64 0, .int .i64 0, .int .i64 1] 114)) := (bl_alloc B1 _)
  have xC_2 : Bx (w1.alloc (.cells #[.int .i64 1, .int .i64 0, .int .i64 0, .int .i64 1] 114)) (w1.heap.size) #[.int .i64 1, .int .i64 0, .int .i64 0, .int .i64 1] := (Bx.new (b := w1.heap.size) _ #[.int .i64 1, .int .i64 0, .int .i64 0, .int .i64 1] 114 (by first | rfl | simp))
  have zz2 : w1.heap.size + 1 ≤ (w1.alloc (.cells #[.int .i64 1, .int .i64 0, .int .i64 0, .int .i64 1] 114)).heap.size := (by simp)
  generalize (w1.alloc (.cells #[.int .i64 1, .int .i64 0, .int .i64 0, .int .i64 1] 114)) = w2 at *
  obtain ⟨cC_2, fC_2, zC_2⟩ := xC_2.out
  go_loopw [4, 6, 7] (fun s4 s6 s7 wr => ∃ (fs : List (Int × Int)) (a : Option Addr) (c : Nat) (p q p0 q0 : Int), s6 = .int .i64 fs.length ∧ s4 = .slice a fs.length c ∧ fs.length ≤ xs.length ∧ OwnF wr w.heap.size (.slice a fs.length c) fs ∧ Hid (∀ k, (Value.slice a fs.length c).ownBlock = some k → k ≠ w1.heap.size) ∧ Hid (R = (convG (xs.drop fs.length) p q p0 q0).map (fs ++ ·)) ∧ -1000000000 ≤ p ∧ p ≤ 1000000000 ∧ -1000000000 ≤ q ∧ q ≤ 1000000000 ∧ -1000000000 ≤ p0 ∧ p0 ≤ 1000000000 ∧ -1000000000 ≤ q0 ∧ q0 ≤ 1000000000 ∧ Bx wr (w1.heap.size) #[.int .i64 p, .int .i64 q, .int .i64 p0, .int .i64 q0] ∧ Bl w wr) (fun _ s6 _ _ => xs.length - (intOf s6).toNat)
  case atStart =>
    refine ⟨[], _, _, 1, 0, 0, 1, rfl, rfl, Nat.zero_le _, HO.out, Lib.hid (fun k hk => ?_), Lib.hid (by rw [HR0.out, convL]; simp), by omega, by omega, by omega, by omega, by omega, by omega, by omega, by omega, xC_2, B2⟩
    have := hb1.size
    simp [Value.ownBlock] at hk this
    omega
  case round =>
    rcases hrel with ⟨fs, a, c, p, q, p0, q0, rfl, rfl, hkl, ho, hne, hx, p1, p2, p3, p4, p5, p6, p7, p8, yC, Br⟩
    have HO1 := Lib.hid ho
    clear ho HO cC_2 fC_2 zC_2
    rcases Nat.lt_or_ge fs.length xs.length with hk | hk
    ·
      obtain ⟨cC, fC, zC⟩ := yC.out
      obtain ⟨bb, oo, rfl, t, ht, ct, rt⟩ := HA.out.cellAt' Br hk
      have htb := HB.out t (List.mem_of_getElem? ht)
      have HT := Lib.hid ht
      clear ht
      have m1 := mulb htb (show -1000000000 ≤ p ∧ p ≤ 1000000000 by omega)
      have m2 := mulb htb (show -1000000000 ≤ q ∧ q ≤ 1000000000 by omega)
      have hi1 : (0 : Int) ≤ (fs.length : Int) := by omega
      have hi2 : (fs.length : Int) < (xs.length : Int) := by omega
      go_wp2_with fail
      go_cut [21] (fun s21 wx => Bx wx (w1.heap.size) #[.int .i64 (t * p + p0), .int .i64 (t * q + q0), .int .i64 p, .int .i64 q] ∧ OwnF wx w.heap.size (.slice a fs.length c) fs ∧ Bl w wx)
      case first =>
        go_region_with (go_at_call 78; go_must (refine (cnext_any p q p0 q0 t _ (by omega) (by omega) (by omega) (by omega)).mono ?_; rintro e wk ⟨rfl, hbk⟩; have Bk : Bl wr wk := bl_call (bl_drew (bl_refl _)) hbk; have yk := yC.below Bk; obtain ⟨cy, fy, zy⟩ := yk.out; have HOk := Lib.hid (HO1.out.below Bk)))
        all_goals (go_wp2_with fail; all_goals go_meet)
        all_goals exact ⟨(((yk.set 0 _).set 1 _).set 2 _).set 3 _, (((HOk.out.far hne.out _).far hne.out _).far hne.out _).far hne.out _, bl_set (bl_set (bl_set (bl_set (bl_call Br Bk) B1.size _) B1.size _) B1.size _) B1.size _⟩
      case rest =>
        obtain ⟨xC, ho2, hj⟩ := hcut
        obtain ⟨w8, rfl⟩ : ∃ x : World, x = wc := ⟨_, rfl⟩
        have B8 : Bl w w8 := hj
        have HO2 := Lib.hid ho2
        clear ho2 HO1 cC fC zC
        obtain ⟨cC, fC, zC⟩ := xC.out
        cases e1 : okF (t * p + p0) (t * q + q0) with
        | false =>
          have E1 := Lib.hid e1
          clear e1
          have HX := Lib.hid (convG_no HT.out hx.out E1.out)
          go_wp2_with fail
          refine (ok_eq' E1.out _).mono ?_
          rintro e wq1 ⟨rfl, hbq1⟩
          have Bq1 : Bl w wq1 := bl_call (bl_alloc B8 _) hbq1
          have xC_q1 : Bx wq1 (w1.heap.size) #[.int .i64 (t * p + p0), .int .i64 (t * q + q0), .int .i64 p, .int .i64 q] := (xC.alloc _).below hbq1
          have xP_q1 : Bx wq1 (w8.heap.size) #[.int .i64 (t * p + p0), .int .i64 (t * q + q0)] := (Bx.new (b := w8.heap.size) _ #[.int .i64 (t * p + p0), .int .i64 (t * q + q0)] 25 (by first | rfl | simp)).below hbq1
          clear cC fC zC
          obtain ⟨cC_q1, fC_q1, zC_q1⟩ := xC_q1.out
          obtain ⟨cP_q1, fP_q1, zP_q1⟩ := xP_q1.out
          go_wp2
          go_ret2
          exact ⟨none, 0, 0, ret_fb (by rw [HX.out]; rfl), by rw [HX.out]; exact OwnF.nil _ _, Bq1⟩
        | true =>
          have kb := okF_iff.1 e1
          have E1 := Lib.hid e1
          clear e1
          have HX := Lib.hid (convG_yes HT.out hx.out E1.out)
          go_wp2_with fail
          refine (ok_eq' E1.out _).mono ?_
          rintro e wq1 ⟨rfl, hbq1⟩
          have Bq1 : Bl w wq1 := bl_call (bl_alloc B8 _) hbq1
          have xC_q1 : Bx wq1 (w1.heap.size) #[.int .i64 (t * p + p0), .int .i64 (t * q + q0), .int .i64 p, .int .i64 q] := (xC.alloc _).below hbq1
          have xP_q1 : Bx wq1 (w8.heap.size) #[.int .i64 (t * p + p0), .int .i64 (t * q + q0)] := (Bx.new (b := w8.heap.size) _ #[.int .i64 (t * p + p0), .int .i64 (t * q + q0)] 25 (by first | rfl | simp)).below hbq1
          clear cC fC zC
          obtain ⟨cC_q1, fC_q1, zC_q1⟩ := xC_q1.out
          obtain ⟨cP_q1, fP_q1, zP_q1⟩ := xP_q1.out
          have HO3 := Lib.hid ((HO2.out.alloc _).below hbq1)
          go_wp2_with (at_builtin; refine wpList_append_frac rfl _ _ rfl w.heap.size _ fs (by rfl) HO3.out _ _ (by rfl) (by omega) (Bq1.size) ?_; intro v' wn ho hg hat; obtain ⟨a1, c1, rfl, _⟩ := ho.form)
          have BN := bl_grown Bq1 hg (fun k hk => (HO3.out.lt k hk).1)
          have xN := xC_q1.grownApartF hg (fun q => hne.out _ q rfl)
          have HN := Lib.hid (show ∀ k, (Value.slice a1 (fs ++ [(t * p + p0, t * q + q0)]).length c1).ownBlock = some k → k ≠ w1.heap.size from fun k hk => by
            have zc := xC_q1.out.2.2
            rcases hat with e | e
            · rw [e] at hk; exact hne.out k hk
            · rw [e] at hk; cases hk; omega)
          clear hg hat
          have HO4 := Lib.hid ho
          clear ho
          go_wp2
          go_roundw
          case rel => exact ⟨fs ++ [(t * p + p0, t * q + q0)], a1, c1, _, _, _, _, by simp, by simp, by simp; omega, HO4.out, HN, by rw [List.length_append]; exact HX, by omega, by omega, by omega, by omega, by omega, by omega, by omega, by omega, xN, BN⟩
          case measure => clear HX; simp only [intOf, Int.toNat_natCast]; omega
    · have HX := Lib.hid (convG_end hk hx.out)
      go_wp2
      go_ret2
      exact ⟨a, fs.length, c, ret_fb (by rw [HX.out]; rfl), by rw [HX.out]; exact HO1.out, Br⟩

end Go.Proofs.YtgkelemfbmmgnaaGreat

