/- The tests of fractions of the chapter on best approximations. Conditions: each theorem names its own. -/
import Derived.Test.YtgkelemfbmmgnaaOff
namespace Go.Proofs.Ytgkelemfbmmgnaa
open Go.RowKit
set_option linter.unusedVariables false
set_option linter.unusedSimpArgs false

/-- The slice value v reads, in the world w, as the fractions fs. -/
def SlF (w : World) (v : Value) (fs : List (Int × Int)) : Prop :=
  ∃ a cap, v = .slice a fs.length cap ∧ fs.length ≤ cap ∧ cap ≤ maxLen ∧ (a = none → cap = 0) ∧
    (fs = [] ∨ ∃ b off, a = some ⟨b, off, none⟩ ∧ ∀ i n d, fs[i]? = some (n, d) → w.cell? ⟨b, off + i * 2, none⟩ = some (.int .i64 n) ∧ w.cell? ⟨b, off + i * 2 + 1, none⟩ = some (.int .i64 d))
theorem SlF.below {w w' : World} {v : Value} {fs : List (Int × Int)} (h : SlF w v fs) (hb : Bl w w') : SlF w' v fs := by
  obtain ⟨a, cap, rfl, h1, h2, h4, h5⟩ := h
  refine ⟨a, cap, rfl, h1, h2, h4, ?_⟩
  rcases h5 with h5 | ⟨b, off, rfl, hc⟩
  · exact .inl h5
  · exact .inr ⟨b, off, rfl, fun i n d hx => ⟨(hb.cell (p := ⟨b, off + i * 2, none⟩) (cell_lt (hc i n d hx).1)).trans (hc i n d hx).1, (hb.cell (p := ⟨b, off + i * 2 + 1, none⟩) (cell_lt (hc i n d hx).2)).trans (hc i n d hx).2⟩⟩
theorem SlF.len {w : World} {v : Value} {fs : List (Int × Int)} (h : SlF w v fs) : fs.length ≤ 9223372036854775807 := by
  obtain ⟨a, cap, rfl, h1, h2, _⟩ := h; unfold maxLen at h2; omega
theorem SlF.form {w : World} {v : Value} {fs : List (Int × Int)} (h : SlF w v fs) : ∃ a c, v = .slice a fs.length c ∧ fs.length ≤ c := by
  obtain ⟨a, cap, rfl, h1, _⟩ := h
  exact ⟨a, cap, rfl, h1⟩
theorem SlF.cellAt {w w' : World} {a : Option Addr} {n c : Nat} {fs : List (Int × Int)} (h : SlF w (.slice a n c) fs) (hb : Bl w w') {k : Nat} (hk : k < fs.length) :
    ∃ b o, a = some ⟨b, o, none⟩ ∧ ∃ n d, fs[k]? = some (n, d) ∧ w'.cell? ⟨b, o + k * 2, none⟩ = some (.int .i64 n) ∧ w'.cell? ⟨b, o + k * 2 + 1, none⟩ = some (.int .i64 d) := by
  obtain ⟨a', cap, e, h1, h2, h4, h5⟩ := h
  simp only [Value.slice.injEq] at e
  obtain ⟨rfl, rfl, rfl⟩ := e
  rcases h5 with h5 | ⟨b, off, rfl, hc⟩
  · rw [h5] at hk; simp at hk
  · have hx : fs[k]? = some (fs[k].1, fs[k].2) := List.getElem?_eq_getElem hk
    obtain ⟨g1, g2⟩ := hc k _ _ hx
    exact ⟨b, off, rfl, _, _, hx, (hb.cell (p := ⟨b, off + k * 2, none⟩) (cell_lt g1)).trans g1, (hb.cell (p := ⟨b, off + k * 2 + 1, none⟩) (cell_lt g2)).trans g2⟩
/-- A slice of fractions that is written out. -/
theorem SlF.lit {w : World} {b : Nat} {cs : Array Value} {fs : List (Int × Int)} {n c : Nat} (hx : Bx w b cs) (hn : n = fs.length) (hc : n ≤ c) (hm : c ≤ maxLen) (h : ∀ i n d, fs[i]? = some (n, d) → cs[i * 2]? = some (.int .i64 n) ∧ cs[i * 2 + 1]? = some (.int .i64 d)) :
    SlF w (.slice (some ⟨b, 0, none⟩) n c) fs := by
  subst hn
  refine ⟨_, c, rfl, hc, hm, by simp, .inr ⟨b, 0, rfl, fun i n d hi => ?_⟩⟩
  rw [Nat.zero_add, hx.out.1, hx.out.1]
  exact h i n d hi

def okP (f : Int × Int) : Bool := okF f.1 f.2
def smP (f : Int × Int) : Bool := inB f.1 (-1000000) 1000000 && decide (f.2 ≤ 1000000)
/-- The code for fractions, where the other arguments are in range or not. -/
def bestC (fits : Bool) (fs : List (Int × Int)) : Int := if fs.all okP then (if fits && fs.all smP then 0 else 2) else 1
theorem all_take_succ {p : Int × Int → Bool} {fs : List (Int × Int)} {k : Nat} {n d : Int} (h : fs[k]? = some (n, d)) : (fs.take (k + 1)).all p = ((fs.take k).all p && p (n, d)) := by
  rw [List.take_add_one, h]; simp
theorem all_false {p : Int × Int → Bool} {fs : List (Int × Int)} {k : Nat} {n d : Int} (h : fs[k]? = some (n, d)) (hp : p (n, d) = false) : fs.all p = false := by
  rw [List.all_eq_false]
  exact ⟨(n, d), List.mem_of_getElem? h, by simp [hp]⟩

set_option maxRecDepth 100000 in
set_option maxHeartbeats 1600000 in
theorem checkBest_any (fits : Bool) (v : Value) (fs : List (Int × Int)) (w : World) (hv : SlF w v fs) :
    Calls Try.prog 71 #[.bool fits, v] w fun r w' => r = .returned (.int .i64 (bestC fits fs)) ∧ Bl w w' := by
  have hl := hv.len
  obtain ⟨a, c, rfl, hc⟩ := hv.form
  go_enter Try.func71, Try.ntmps71
  go_wp2_with fail
  go_loopw [0, 9] (fun f i wr => ∃ k : Nat, k ≤ fs.length ∧ i = .int .i64 k ∧ f = .bool (fits && (fs.take k).all smP) ∧ (fs.take k).all okP = true ∧ Bl w wr) (fun _ i _ => fs.length - (intOf i).toNat)
  case atStart => exact ⟨0, Nat.zero_le _, rfl, by simp, by simp, bl_refl _⟩
  case round =>
    obtain ⟨k, hk, rfl, rfl, hok, hB⟩ := hrel
    have HOK := Lib.hid hok
    clear hok
    by_cases hlt : k < fs.length
    · obtain ⟨b, o, rfl, n, d, hx, c1, c2⟩ := hv.cellAt hB hlt
      have HX := Lib.hid hx
      clear hx
      go_wp2_with fail
      refine (validF_any _ _ _).mono ?_
      rintro e w1 ⟨rfl, hb1⟩
      have B1 : Bl w w1 := bl_call (bl_alloc hB _) hb1
      have x1 := (Bx.new (b := wr.heap.size) _ #[.int .i64 n, .int .i64 d] 44 rfl).below hb1
      obtain ⟨cx, fx, zx⟩ := x1.out
      cases e1 : okF n d with
      | false =>
        have HR := Lib.hid (show (1 : Int) = bestC fits fs by rw [bestC, all_false HX.out (p := okP) e1]; rfl)
        go_wp2
        go_ret
        exact ⟨ret_int HR.out, B1⟩
      | true =>
        have HT := Lib.hid (show (fs.take (k + 1)).all okP = true by rw [all_take_succ HX.out, HOK.out]; exact e1)
        have HS := Lib.hid (all_take_succ (p := smP) HX.out)
        generalize hfl : (fits && (fs.take k).all smP) = fl
        have HF := Lib.hid hfl
        clear hfl
        cases fl with
        | false =>
          go_wp2
          go_roundw
          case rel => exact ⟨k + 1, by omega, by go_num, by rw [HS.out, ← Bool.and_assoc, HF.out]; rfl, HT.out, B1⟩
          case measure => simp [intOf]; omega
        | true =>
          cases e2 : inB n (-1000000) 1000000 with
          | false =>
            go_wp2_with (go_at_call 67; refine (within_any _ _ _ _).mono ?_; rintro e w' ⟨rfl, rfl⟩)
            go_roundw
            case rel => exact ⟨k + 1, by omega, by go_num, by rw [HS.out, ← Bool.and_assoc, HF.out, smP, e2]; rfl, HT.out, B1⟩
            case measure => simp [intOf]; omega
          | true =>
            have HD := Lib.hid (show decide (d ≤ 1000000) = (fits && (fs.take (k + 1)).all smP) by rw [HS.out, ← Bool.and_assoc, HF.out, smP, e2]; simp)
            go_wp2_with (go_at_call 67; refine (within_any _ _ _ _).mono ?_; rintro e w' ⟨rfl, rfl⟩)
            go_roundw
            case rel => exact ⟨k + 1, by omega, by go_num, by rw [HD.out], HT.out, B1⟩
            case measure => simp [intOf]; omega
    · have hkl : k = fs.length := by omega
      have HA := Lib.hid (show (fs.take k).all smP = fs.all smP by rw [hkl, List.take_length])
      have HO := Lib.hid (show fs.all okP = true by have := HOK.out; rwa [hkl, List.take_length] at this)
      clear hkl
      generalize hfl : (fits && (fs.take k).all smP) = fl
      have HF := Lib.hid (show (fits && fs.all smP) = fl by rw [← HA.out]; exact hfl)
      clear hfl
      cases fl with
      | false =>
        have HR := Lib.hid (show (2 : Int) = bestC fits fs by rw [bestC, HO.out, HF.out]; rfl)
        go_wp2
        go_ret
        exact ⟨ret_int HR.out, hB⟩
      | true =>
        have HR := Lib.hid (show (0 : Int) = bestC fits fs by rw [bestC, HO.out, HF.out]; rfl)
        go_wp2
        go_ret
        exact ⟨ret_int HR.out, hB⟩

set_option maxHeartbeats 400000 in
theorem small_any (n d : Int) (w : World) :
    Calls Try.prog 107 #[.agg #[.int .i64 n, .int .i64 d]] w fun e w' => e = .returned (.bool (smP (n, d))) ∧ Bl w w' := by
  cases e1 : inB n (-1000000) 1000000 with
  | false =>
    have HR := Lib.hid (show false = smP (n, d) by simp [smP, e1])
    go_enter Try.func107, Try.ntmps107
    go_wp2_with (go_at_call 73; refine (in_any _ _ _ _).mono ?_; rintro e w' ⟨rfl, rfl⟩)
    go_ret
    exact ⟨ret_bool HR.out, bl_alloc (bl_refl _) _⟩
  | true =>
    have HR := Lib.hid (show decide (d ≤ 1000000) = smP (n, d) by simp [smP, e1])
    go_enter Try.func107, Try.ntmps107
    go_wp2_with (go_at_call 73; refine (in_any _ _ _ _).mono ?_; rintro e w' ⟨rfl, rfl⟩)
    go_ret
    exact ⟨ret_bool HR.out, bl_alloc (bl_refl _) _⟩

set_option maxRecDepth 100000 in
set_option maxHeartbeats 1600000 in
theorem l18Code_any (v : Value) (fs : List (Int × Int)) (w : World) (hv : SlF w v fs) :
    Calls Try.prog 75 #[v] w fun r w' => r = .returned (.int .i64 (bestC true fs)) ∧ Bl w w' := by
  have hl := hv.len
  obtain ⟨a, c, rfl, hc⟩ := hv.form
  go_enter Try.func75, Try.ntmps75
  go_wp2_with fail
  go_loopw [3] (fun i wr => ∃ k : Nat, k ≤ fs.length ∧ i = .int .i64 k ∧ (fs.take k).all okP = true ∧ Bl w wr) (fun i _ => fs.length - (intOf i).toNat)
  case atStart => exact ⟨0, Nat.zero_le _, rfl, by simp, bl_refl _⟩
  case round =>
    obtain ⟨k, hk, rfl, hok, hB⟩ := hrel
    have HOK := Lib.hid hok
    clear hok
    by_cases hlt : k < fs.length
    · obtain ⟨b, o, rfl, n, d, hx, c1, c2⟩ := hv.cellAt hB hlt
      have HX := Lib.hid hx
      clear hx
      go_wp2_with fail
      refine (ok_any _ _ _).mono ?_
      rintro e w1 ⟨rfl, hb1⟩
      have B1 : Bl w w1 := bl_call hB hb1
      cases e1 : okF n d with
      | false =>
        have HR := Lib.hid (show (1 : Int) = bestC true fs by rw [bestC, all_false HX.out (p := okP) e1]; rfl)
        go_wp2
        go_ret
        exact ⟨ret_int HR.out, B1⟩
      | true =>
        have HT := Lib.hid (show (fs.take (k + 1)).all okP = true by rw [all_take_succ HX.out, HOK.out]; exact e1)
        go_wp2
        go_roundw
        case rel => exact ⟨k + 1, by omega, by go_num, HT.out, B1⟩
        case measure => simp [intOf]; omega
    · have hkl : k = fs.length := by omega
      have HO := Lib.hid (show fs.all okP = true by have := HOK.out; rwa [hkl, List.take_length] at this)
      clear hkl
      go_wp2
      obtain ⟨wo, rfl⟩ : ∃ wo : World, wo = wr := ⟨_, rfl⟩
      go_loopw [4] (fun i wr => ∃ k : Nat, k ≤ fs.length ∧ i = .int .i64 k ∧ (fs.take k).all smP = true ∧ Bl w wr) (fun i _ => fs.length - (intOf i).toNat)
      case atStart => exact ⟨0, Nat.zero_le _, rfl, by simp, hB⟩
      case round =>
        obtain ⟨m, hm, rfl, hsm, hB2⟩ := hrel
        have HSM := Lib.hid hsm
        clear hsm
        by_cases hlm : m < fs.length
        · obtain ⟨b, o, rfl, n, d, hx, c1, c2⟩ := hv.cellAt hB2 hlm
          have HX := Lib.hid hx
          clear hx
          go_wp2_with fail
          refine (small_any _ _ _).mono ?_
          rintro e w1 ⟨rfl, hb1⟩
          have B1 : Bl w w1 := bl_call hB2 hb1
          cases e1 : smP (n, d) with
          | false =>
            have HR := Lib.hid (show (2 : Int) = bestC true fs by rw [bestC, HO.out, all_false HX.out e1]; rfl)
            go_wp2
            go_ret
            exact ⟨ret_int HR.out, B1⟩
          | true =>
            have HT := Lib.hid (show (fs.take (m + 1)).all smP = true by rw [all_take_succ HX.out, HSM.out]; exact e1)
            go_wp2
            go_roundw
            case rel => exact ⟨m + 1, by omega, by go_num, HT.out, B1⟩
            case measure => simp [intOf]; omega
        · have hkl : m = fs.length := by omega
          have HR := Lib.hid (show (0 : Int) = bestC true fs by
            have := HSM.out
            rw [hkl, List.take_length] at this
            rw [bestC, HO.out, this]; rfl)
          clear hkl
          go_wp2
          go_ret
          exact ⟨ret_int HR.out, hB2⟩

end Go.Proofs.Ytgkelemfbmmgnaa
