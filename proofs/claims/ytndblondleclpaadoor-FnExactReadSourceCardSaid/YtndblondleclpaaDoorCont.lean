/- slices.ContainsFunc with the two closures of the program. Each theorem names its conditions. -/
import Derived.Test.YtndblondleclpaaDoorNum
namespace Go.Proofs.YtndblondleclpaaDoor
open Go.RowKit
set_option linter.unusedVariables false
set_option linter.unusedSimpArgs false

theorem inB_eq {n lo hi : Int} {b : Bool} (h : inB n lo hi = b) (w : World) : Calls Tryd.prog 29 #[.int .i64 n, .int .i64 lo, .int .i64 hi] w fun e w' => e = .returned (.bool b) ∧ w = w' := h ▸ within_any n lo hi w
theorem any_take {xs : List Int} {pr : Int → Bool} {k : Nat} {x : Int} (h : (xs.take k).any pr = false) (hx : xs[k]? = some x) (hp : pr x = false) : (xs.take (k + 1)).any pr = false := by
  rw [List.take_add_one, hx, List.any_append, h]
  simp [hp]
theorem any_at {xs : List Int} {pr : Int → Bool} {k : Nat} {x : Int} (hx : xs[k]? = some x) (hp : pr x = true) : xs.any pr = true := by
  rw [List.any_eq_true]
  exact ⟨x, List.mem_of_getElem? hx, hp⟩
def IdxPost (b : Bool) (w : World) (e : Ending) (w' : World) : Prop := ∃ i : Int, e = .returned (.int .i64 i) ∧ decide (0 ≤ i) = b ∧ Bl w w'
theorem Sl.cellAt' {w w' : World} {a : Option Addr} {n c : Nat} {xs : List Int} (h : Sl w (.slice a n c) xs) (hb : Bl w w') {k : Nat} (hk : k < xs.length) :
    ∃ b o, a = some ⟨b, o, none⟩ ∧ ∃ x, xs[k]? = some x ∧ w'.cell? ⟨b, o + k, none⟩ = some (.int .i64 x) ∧ R64 x := by
  obtain ⟨a', cap, e, h1, h2, h3, h4, h5⟩ := h
  simp only [Value.slice.injEq] at e
  obtain ⟨rfl, rfl, rfl⟩ := e
  rcases h5 with h5 | ⟨b, off, rfl, hc⟩
  · rw [h5] at hk; simp at hk
  · have hx : xs[k]? = some xs[k] := List.getElem?_eq_getElem hk
    exact ⟨b, off, rfl, _, hx, (hb.cell (p := ⟨b, off + k, none⟩) (cell_lt (hc k _ hx))).trans (hc k _ hx), h3 _ (List.getElem_mem hk)⟩
theorem Sl.form' {w : World} {v : Value} {xs : List Int} (h : Sl w v xs) : ∃ a c, v = .slice a xs.length c ∧ xs.length ≤ c := by
  obtain ⟨a, cap, rfl, h1, _⟩ := h
  exact ⟨a, cap, rfl, h1⟩

set_option maxHeartbeats 400000 in
theorem cloD_eq {x : Int} {v : Bool} {b : Nat} {base : Int} (h : (!inB x 0 (base - 1)) = v) (w : World) (hb : Bx w b #[.int .i64 base]) (hbase : -9223372036854775807 ≤ base ∧ base ≤ 9223372036854775807) : Calls Tryd.prog 51 #[.int .i64 x, .pointer (some ⟨b, 0, none⟩)] w fun e w' => e = .returned (.bool v) ∧ w = w' := by
  have H := Lib.hid (show inB x 0 (base - 1) = !v by rw [← h]; simp)
  clear h
  obtain ⟨cc, fc, zc⟩ := hb.out
  go_enter Tryd.func51, Tryd.ntmps51
  go_wp2_with fail
  refine (inB_eq H.out _).mono ?_
  rintro e w' ⟨rfl, rfl⟩
  go_wp2
  go_ret
  exact ⟨ret_bool (by simp), rfl⟩

set_option maxRecDepth 100000 in
set_option maxHeartbeats 1600000 in
theorem idxD_any (va : Value) (xs : List Int) (b : Nat) (base : Int) (w : World) (ha : Sl w va xs) (hl : xs.length ≤ 1048576) (hb : Bx w b #[.int .i64 base]) (hbase : -9223372036854775807 ≤ base ∧ base ≤ 9223372036854775807) :
    Calls Tryd.prog 64 #[va, .func (.func 51) #[] #[.pointer (some ⟨b, 0, none⟩)]] w (IdxPost (xs.any fun x => (!inB x 0 (base - 1))) w) := by
  obtain ⟨av, cv, rfl, hcv⟩ := ha.form'
  obtain ⟨pr, hpr⟩ : ∃ pr : Int → Bool, pr = fun x => (!inB x 0 (base - 1)) := ⟨_, rfl⟩
  have HPR := Lib.hid (show ∀ x, pr x = (!inB x 0 (base - 1)) from fun x => by rw [hpr])
  rw [← hpr]
  clear hpr
  have HA := Lib.hid ha
  clear ha
  go_enter Tryd.func64, Tryd.ntmps64
  go_wp2
  go_loopw [8, 5] (fun s8 s5 wr => ∃ k : Nat, s8 = .int .i64 k ∧ k ≤ xs.length ∧ Hid ((xs.take k).any pr = false) ∧ Bl w wr) (fun s8 _ _ => xs.length - (intOf s8).toNat)
  case atStart => exact ⟨0, rfl, Nat.zero_le _, Lib.hid (by simp), bl_refl _⟩
  case round =>
    rcases hrel with ⟨k, rfl, hkl, hG, Br⟩
    rcases Nat.lt_or_ge k xs.length with hk | hk
    · obtain ⟨bb, oo, rfl, x, hx, cx, rx⟩ := HA.out.cellAt' Br hk
      have HX := Lib.hid hx
      clear hx
      cases hp : pr x with
      | true =>
        have HP := Lib.hid hp
        clear hp
        go_wp2_with fail
        refine (cloD_eq (v := true) (by rw [← HPR.out x]; exact HP.out) _ (hb.below Br) hbase).mono ?_
        rintro e w9 ⟨rfl, rfl⟩
        go_wp2
        go_ret
        exact ⟨k, rfl, by rw [any_at HX.out HP.out]; simp, Br⟩
      | false =>
        have HP := Lib.hid hp
        clear hp
        have HN := Lib.hid (any_take hG.out HX.out HP.out)
        go_wp2_with fail
        refine (cloD_eq (v := false) (by rw [← HPR.out x]; exact HP.out) _ (hb.below Br) hbase).mono ?_
        rintro e w9 ⟨rfl, rfl⟩
        go_wp2
        go_roundw
        case rel => exact ⟨k + 1, by go_num, by omega, HN, Br⟩
        case measure => clear HN; simp only [intOf, Int.toNat_natCast]; omega
    · have HN := Lib.hid (show xs.any pr = false by have := hG.out; rwa [List.take_of_length_le hk] at this)
      go_wp2
      go_ret
      exact ⟨-1, rfl, by rw [HN.out]; simp, Br⟩

set_option maxHeartbeats 800000 in
theorem contD_any (va : Value) (xs : List Int) (b : Nat) (base : Int) (w : World) (ha : Sl w va xs) (hl : xs.length ≤ 1048576) (hb : Bx w b #[.int .i64 base]) (hbase : -9223372036854775807 ≤ base ∧ base ≤ 9223372036854775807) :
    Calls Tryd.prog 50 #[va, .func (.func 51) #[] #[.pointer (some ⟨b, 0, none⟩)]] w fun e w' => e = .returned (.bool (xs.any fun x => (!inB x 0 (base - 1)))) ∧ Bl w w' := by
  go_enter Tryd.func50, Tryd.ntmps50
  go_wp2_with fail
  refine (idxD_any va xs b base w ha hl hb hbase).mono ?_
  rintro e w1 ⟨i, rfl, hi, hb1⟩
  have HI := Lib.hid hi
  clear hi
  go_wp2
  go_ret
  exact ⟨ret_bool HI.out, hb1⟩

end Go.Proofs.YtndblondleclpaaDoor
