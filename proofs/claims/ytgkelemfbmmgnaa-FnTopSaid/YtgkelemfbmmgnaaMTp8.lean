/- Some of the texts of this claim, joined in one file: Chk, AppF. -/
import Derived.Test.YtgkelemfbmmgnaaMTp7
import Derived.Laws.AppendOwnNone
import Derived.Maps.AppendAt
import Derived.OwnWalk
/- The tests of fractions of the chapter on best approximations. Conditions: each theorem names its own. -/
namespace Go.Proofs.Ytgkelemfbmmgnaa
open Go.RowKit
set_option linter.unusedVariables false
set_option linter.unusedSimpArgs false

/-- The slice value v reads, in the world w, as the fractions fs. -/
def SlF (w : World) (v : Value) (fs : List (Int × Int)) : Prop :=
  ∃ a cap, v = .slice a fs.length cap ∧ fs.length ≤ cap ∧ cap ≤ maxLen ∧ (a = none → cap = 0) ∧
    (fs = [] ∨ ∃ b off, a = some ⟨b, off, none⟩ ∧ ∀ i n d, fs[i]? = some (n, d) → w.cell? ⟨b, off + i * 2, none⟩ = some (.int .i64 n) ∧ w.cell? ⟨b, off + i * 2 + 1, none⟩ = some (.int .i64 d))
theorem SlF.below {w w' : World} {v : Value} {fs : List (Int × Int)} (h : SlF w v fs) (hb : Bl w w') : SlF w' v fs := by
  obtain ⟨a, cap, rfl, h1, h2, h4, h5⟩ := h
  refine ⟨a, cap, rfl, h1, h2, h4, ?_⟩
  rcases h5 with h5 | ⟨b, off, rfl, hc⟩
  · exact .inl h5
  · exact .inr ⟨b, off, rfl, fun i n d hx => ⟨(hb.cell (p := ⟨b, off + i * 2, none⟩) (cell_lt (hc i n d hx).1)).trans (hc i n d hx).1, (hb.cell (p := ⟨b, off + i * 2 + 1, none⟩) (cell_lt (hc i n d hx).2)).trans (hc i n d hx).2⟩⟩
theorem SlF.len {w : World} {v : Value} {fs : List (Int × Int)} (h : SlF w v fs) : fs.length ≤ 9223372036854775807 := by
  obtain ⟨a, cap, rfl, h1, h2, _⟩ := h; unfold maxLen at h2; omega
theorem SlF.form {w : World} {v : Value} {fs : List (Int × Int)} (h : SlF w v fs) : ∃ a c, v = .slice a fs.length c ∧ fs.length ≤ c := by
  obtain ⟨a, cap, rfl, h1, _⟩ := h
  exact ⟨a, cap, rfl, h1⟩
theorem SlF.cellAt {w w' : World} {a : Option Addr} {n c : Nat} {fs : List (Int × Int)} (h : SlF w (.slice a n c) fs) (hb : Bl w w') {k : Nat} (hk : k < fs.length) :
    ∃ b o, a = some ⟨b, o, none⟩ ∧ ∃ n d, fs[k]? = some (n, d) ∧ w'.cell? ⟨b, o + k * 2, none⟩ = some (.int .i64 n) ∧ w'.cell? ⟨b, o + k * 2 + 1, none⟩ = some (.int .i64 d) := by
  obtain ⟨a', cap, e, h1, h2, h4, h5⟩ := h
  simp only [Value.slice.injEq] at e
  obtain ⟨rfl, rfl, rfl⟩ := e
  rcases h5 with h5 | ⟨b, off, rfl, hc⟩
  · rw [h5] at hk; simp at hk
  · have hx : fs[k]? = some (fs[k].1, fs[k].2) := List.getElem?_eq_getElem hk
    obtain ⟨g1, g2⟩ := hc k _ _ hx
    exact ⟨b, off, rfl, _, _, hx, (hb.cell (p := ⟨b, off + k * 2, none⟩) (cell_lt g1)).trans g1, (hb.cell (p := ⟨b, off + k * 2 + 1, none⟩) (cell_lt g2)).trans g2⟩
/-- A slice of fractions that is written out. -/
theorem SlF.lit {w : World} {b : Nat} {cs : Array Value} {fs : List (Int × Int)} {n c : Nat} (hx : Bx w b cs) (hn : n = fs.length) (hc : n ≤ c) (hm : c ≤ maxLen) (h : ∀ i n d, fs[i]? = some (n, d) → cs[i * 2]? = some (.int .i64 n) ∧ cs[i * 2 + 1]? = some (.int .i64 d)) :
    SlF w (.slice (some ⟨b, 0, none⟩) n c) fs := by
  subst hn
  refine ⟨_, c, rfl, hc, hm, by simp, .inr ⟨b, 0, rfl, fun i n d hi => ?_⟩⟩
  rw [Nat.zero_add, hx.out.1, hx.out.1]
  exact h i n d hi

def okP (f : Int × Int) : Bool := okF f.1 f.2
def smP (f : Int × Int) : Bool := inB f.1 (-1000000) 1000000 && decide (f.2 ≤ 1000000)
/-- The code for fractions, where the other arguments are in range or not. -/
def bestC (fits : Bool) (fs : List (Int × Int)) : Int := if fs.all okP then (if fits && fs.all smP then 0 else 2) else 1
theorem all_take_succ {p : Int × Int → Bool} {fs : List (Int × Int)} {k : Nat} {n d : Int} (h : fs[k]? = some (n, d)) : (fs.take (k + 1)).all p = ((fs.take k).all p && p (n, d)) := by
  rw [List.take_add_one, h]; simp
theorem all_false {p : Int × Int → Bool} {fs : List (Int × Int)} {k : Nat} {n d : Int} (h : fs[k]? = some (n, d)) (hp : p (n, d) = false) : fs.all p = false := by
  rw [List.all_eq_false]
  exact ⟨(n, d), List.mem_of_getElem? h, by simp [hp]⟩

set_option maxRecDepth 100000 in
set_option maxHeartbeats 1600000 in
theorem checkBest_any (fits : Bool) (v : Value) (fs : List (Int × Int)) (w : World) (hv : SlF w v fs) :
    Calls Try.prog 71 #[.bool fits, v] w fun r w' => r = .returned (.int .i64 (bestC fits fs)) ∧ Bl w w' := by
  have hl := hv.len
  obtain ⟨a, c, rfl, hc⟩ := hv.form
  go_enter Try.func71, Try.ntmps71
  go_wp2_with fail
  go_loopw [0, 9] (fun f i wr => ∃ k : Nat, k ≤ fs.length ∧ i = .int .i64 k ∧ f = .bool (fits && (fs.take k).all smP) ∧ (fs.take k).all okP = true ∧ Bl w wr) (fun _ i _ => fs.length - (intOf i).toNat)
  case atStart => exact ⟨0, Nat.zero_le _, rfl, by simp, by simp, bl_refl _⟩
  case round =>
    obtain ⟨k, hk, rfl, rfl, hok, hB⟩ := hrel
    have HOK := Lib.hid hok
    clear hok
    by_cases hlt : k < fs.length
    · obtain ⟨b, o, rfl, n, d, hx, c1, c2⟩ := hv.cellAt hB hlt
      have HX := Lib.hid hx
      clear hx
      go_wp2_with fail
      refine (validF_any _ _ _).mono ?_
      rintro e w1 ⟨rfl, hb1⟩
      have B1 : Bl w w1 := bl_call (bl_alloc hB _) hb1
      have x1 := (Bx.new (b := wr.heap.size) _ #[.int .i64 n, .int .i64 d] 44 rfl).below hb1
      obtain ⟨cx, fx, zx⟩ := x1.out
      cases e1 : okF n d with
      | false =>
        have HR := Lib.hid (show (1 : Int) = bestC fits fs by rw [bestC, all_false HX.out (p := okP) e1]; rfl)
        go_wp2
        go_ret
        exact ⟨ret_int HR.out, B1⟩
      | true =>
        have HT := Lib.hid (show (fs.take (k + 1)).all okP = true by rw [all_take_succ HX.out, HOK.out]; exact e1)
        have HS := Lib.hid (all_take_succ (p := smP) HX.out)
        generalize hfl : (fits && (fs.take k).all smP) = fl
        have HF := Lib.hid hfl
        clear hfl
        cases fl with
        | false =>
          go_wp2
          go_roundw
          case rel => exact ⟨k + 1, by omega, by go_num, by rw [HS.out, ← Bool.and_assoc, HF.out]; rfl, HT.out, B1⟩
          case measure => simp [intOf]; omega
        | true =>
          cases e2 : inB n (-1000000) 1000000 with
          | false =>
            go_wp2_with (go_at_call 67; refine (within_any _ _ _ _).mono ?_; rintro e w' ⟨rfl, rfl⟩)
            go_roundw
            case rel => exact ⟨k + 1, by omega, by go_num, by rw [HS.out, ← Bool.and_assoc, HF.out, smP, e2]; rfl, HT.out, B1⟩
            case measure => simp [intOf]; omega
          | true =>
            have HD := Lib.hid (show decide (d ≤ 1000000) = (fits && (fs.take (k + 1)).all smP) by rw [HS.out, ← Bool.and_assoc, HF.out, smP, e2]; simp)
            go_wp2_with (go_at_call 67; refine (within_any _ _ _ _).mono ?_; rintro e w' ⟨rfl, rfl⟩)
            go_roundw
            case rel => exact ⟨k + 1, by omega, by go_num, by rw [HD.out], HT.out, B1⟩
            case measure => simp [intOf]; omega
    · have hkl : k = fs.length := by omega
      have HA := Lib.hid (show (fs.take k).all smP = fs.all smP by rw [hkl, List.take_length])
      have HO := Lib.hid (show fs.all okP = true by have := HOK.out; rwa [hkl, List.take_length] at this)
      clear hkl
      generalize hfl : (fits && (fs.take k).all smP) = fl
      have HF := Lib.hid (show (fits && fs.all smP) = fl by rw [← HA.out]; exact hfl)
      clear hfl
      cases fl with
      | false =>
        have HR := Lib.hid (show (2 : Int) = bestC fits fs by rw [bestC, HO.out, HF.out]; rfl)
        go_wp2
        go_ret
        exact ⟨ret_int HR.out, hB⟩
      | true =>
        have HR := Lib.hid (show (0 : Int) = bestC fits fs by rw [bestC, HO.out, HF.out]; rfl)
        go_wp2
        go_ret
        exact ⟨ret_int HR.out, hB⟩

set_option maxHeartbeats 400000 in
theorem small_any (n d : Int) (w : World) :
    Calls Try.prog 107 #[.agg #[.int .i64 n, .int .i64 d]] w fun e w' => e = .returned (.bool (smP (n, d))) ∧ Bl w w' := by
  cases e1 : inB n (-1000000) 1000000 with
  | false =>
    have HR := Lib.hid (show false = smP (n, d) by simp [smP, e1])
    go_enter Try.func107, Try.ntmps107
    go_wp2_with (go_at_call 73; refine (in_any _ _ _ _).mono ?_; rintro e w' ⟨rfl, rfl⟩)
    go_ret
    exact ⟨ret_bool HR.out, bl_alloc (bl_refl _) _⟩
  | true =>
    have HR := Lib.hid (show decide (d ≤ 1000000) = smP (n, d) by simp [smP, e1])
    go_enter Try.func107, Try.ntmps107
    go_wp2_with (go_at_call 73; refine (in_any _ _ _ _).mono ?_; rintro e w' ⟨rfl, rfl⟩)
    go_ret
    exact ⟨ret_bool HR.out, bl_alloc (bl_refl _) _⟩

set_option maxRecDepth 100000 in
set_option maxHeartbeats 1600000 in
theorem l18Code_any (v : Value) (fs : List (Int × Int)) (w : World) (hv : SlF w v fs) :
    Calls Try.prog 75 #[v] w fun r w' => r = .returned (.int .i64 (bestC true fs)) ∧ Bl w w' := by
  have hl := hv.len
  obtain ⟨a, c, rfl, hc⟩ := hv.form
  go_enter Try.func75, Try.ntmps75
  go_wp2_with fail
  go_loopw [3] (fun i wr => ∃ k : Nat, k ≤ fs.length ∧ i = .int .i64 k ∧ (fs.take k).all okP = true ∧ Bl w wr) (fun i _ => fs.length - (intOf i).toNat)
  case atStart => exact ⟨0, Nat.zero_le _, rfl, by simp, bl_refl _⟩
  case round =>
    obtain ⟨k, hk, rfl, hok, hB⟩ := hrel
    have HOK := Lib.hid hok
    clear hok
    by_cases hlt : k < fs.length
    · obtain ⟨b, o, rfl, n, d, hx, c1, c2⟩ := hv.cellAt hB hlt
      have HX := Lib.hid hx
      clear hx
      go_wp2_with fail
      refine (ok_any _ _ _).mono ?_
      rintro e w1 ⟨rfl, hb1⟩
      have B1 : Bl w w1 := bl_call hB hb1
      cases e1 : okF n d with
      | false =>
        have HR := Lib.hid (show (1 : Int) = bestC true fs by rw [bestC, all_false HX.out (p := okP) e1]; rfl)
        go_wp2
        go_ret
        exact ⟨ret_int HR.out, B1⟩
      | true =>
        have HT := Lib.hid (show (fs.take (k + 1)).all okP = true by rw [all_take_succ HX.out, HOK.out]; exact e1)
        go_wp2
        go_roundw
        case rel => exact ⟨k + 1, by omega, by go_num, HT.out, B1⟩
        case measure => simp [intOf]; omega
    · have hkl : k = fs.length := by omega
      have HO := Lib.hid (show fs.all okP = true by have := HOK.out; rwa [hkl, List.take_length] at this)
      clear hkl
      go_wp2
      obtain ⟨wo, rfl⟩ : ∃ wo : World, wo = wr := ⟨_, rfl⟩
      go_loopw [4] (fun i wr => ∃ k : Nat, k ≤ fs.length ∧ i = .int .i64 k ∧ (fs.take k).all smP = true ∧ Bl w wr) (fun i _ => fs.length - (intOf i).toNat)
      case atStart => exact ⟨0, Nat.zero_le _, rfl, by simp, hB⟩
      case round =>
        obtain ⟨m, hm, rfl, hsm, hB2⟩ := hrel
        have HSM := Lib.hid hsm
        clear hsm
        by_cases hlm : m < fs.length
        · obtain ⟨b, o, rfl, n, d, hx, c1, c2⟩ := hv.cellAt hB2 hlm
          have HX := Lib.hid hx
          clear hx
          go_wp2_with fail
          refine (small_any _ _ _).mono ?_
          rintro e w1 ⟨rfl, hb1⟩
          have B1 : Bl w w1 := bl_call hB2 hb1
          cases e1 : smP (n, d) with
          | false =>
            have HR := Lib.hid (show (2 : Int) = bestC true fs by rw [bestC, HO.out, all_false HX.out e1]; rfl)
            go_wp2
            go_ret
            exact ⟨ret_int HR.out, B1⟩
          | true =>
            have HT := Lib.hid (show (fs.take (m + 1)).all smP = true by rw [all_take_succ HX.out, HSM.out]; exact e1)
            go_wp2
            go_roundw
            case rel => exact ⟨m + 1, by omega, by go_num, HT.out, B1⟩
            case measure => simp [intOf]; omega
        · have hkl : m = fs.length := by omega
          have HR := Lib.hid (show (0 : Int) = bestC true fs by
            have := HSM.out
            rw [hkl, List.take_length] at this
            rw [bestC, HO.out, this]; rfl)
          clear hkl
          go_wp2
          go_ret
          exact ⟨ret_int HR.out, hB2⟩

end Go.Proofs.Ytgkelemfbmmgnaa

/- Lists of fractions of the call's own, and append. Each theorem names its conditions. -/
namespace Go.Proofs.Ytgkelemfbmmgnaa
open Go.RowKit
set_option linter.unusedVariables false
set_option linter.unusedSimpArgs false


/-- The cells of a list of fractions. -/
def cellsF : List (Int × Int) → List Value
  | [] => []
  | f :: fs => .int .i64 f.1 :: .int .i64 f.2 :: cellsF fs
theorem cellsF_len (fs : List (Int × Int)) : (cellsF fs).length = fs.length * 2 := by
  induction fs with
  | nil => rfl
  | cons f fs ih => simp [cellsF, ih]; omega
theorem cellsF_app (fs gs : List (Int × Int)) : cellsF (fs ++ gs) = cellsF fs ++ cellsF gs := by
  induction fs with
  | nil => rfl
  | cons f fs ih => simp [cellsF, ih]
theorem cellsF_get (fs : List (Int × Int)) : ∀ (i : Nat) (n d : Int), fs[i]? = some (n, d) → (cellsF fs)[i * 2]? = some (.int .i64 n) ∧ (cellsF fs)[i * 2 + 1]? = some (.int .i64 d) := by
  induction fs with
  | nil => intro i n d h; simp at h
  | cons f fs ih =>
    intro i n d h
    cases i with
    | zero => simp at h; subst h; exact ⟨rfl, rfl⟩
    | succ i =>
      have := ih i n d (by simpa using h)
      rw [show (i + 1) * 2 = i * 2 + 1 + 1 by omega]
      exact this
theorem cellsF_one (fs : List (Int × Int)) : ∀ u ∈ cellsF fs, u.oneCell' = true := by
  induction fs with
  | nil => simp [cellsF]
  | cons f fs ih =>
    intro u hu
    simp only [cellsF, List.mem_cons] at hu
    rcases hu with rfl | rfl | hu
    · rfl
    · rfl
    · exact ih u hu
/-- What the call owns, from block B on: the slice value v, whose fractions are fs. -/
def OwnF (w : World) (B : Nat) (v : Value) (fs : List (Int × Int)) : Prop := w.ownsRow B 44 2 v fs.length (cellsF fs)
theorem OwnF.nil (w : World) (B : Nat) : OwnF w B (.slice none 0 0) [] := World.ownsRow_nil _ _ _ _
theorem OwnF.mono {w : World} {B B' : Nat} {v : Value} {fs : List (Int × Int)} (h : OwnF w B v fs) (hB : B' ≤ B) : OwnF w B' v fs := by
  obtain ⟨h1, h2⟩ := h
  refine ⟨h1, ?_⟩
  rcases h2 with h2 | ⟨g, cap, cur, hv, hg, r⟩
  · exact .inl h2
  · exact .inr ⟨g, cap, cur, hv, Nat.le_trans hB hg, r⟩
theorem OwnF.lt {w : World} {B : Nat} {v : Value} {fs : List (Int × Int)} (h : OwnF w B v fs) : ∀ k, v.ownBlock = some k → B ≤ k ∧ k < w.heap.size := World.ownsRow.lt h
theorem OwnF.grown {w w' : World} {B : Nat} {v : Value} {fs : List (Int × Int)} {row : Option Nat} (h : OwnF w B v fs) (hg : w.grownBy w' row) (hne : v.ownBlock = none ∨ v.ownBlock ≠ row) : OwnF w' B v fs :=
  World.ownsRow.kept h hg hne
theorem OwnF.below {w w' : World} {B : Nat} {v : Value} {fs : List (Int × Int)} (h : OwnF w B v fs) (hb : Bl w w') : OwnF w' B v fs := by
  refine h.grown (grown_of_below hb none) ?_
  cases v.ownBlock <;> simp
theorem OwnF.alloc {w : World} {B : Nat} {v : Value} {fs : List (Int × Int)} (h : OwnF w B v fs) (o : Obj) : OwnF (w.alloc o) B v fs := h.below (bl_alloc (bl_refl _) o)
theorem OwnF.drew {w : World} {B : Nat} {v : Value} {fs : List (Int × Int)} (h : OwnF w B v fs) : OwnF w.drew B v fs := h
theorem OwnF.setCell {w : World} {B : Nat} {v : Value} {fs : List (Int × Int)} (h : OwnF w B v fs) {a : Addr} (ha : a.block < B) (u : Value) : OwnF (w.setCell a u) B v fs := ownsRow_setCell_below h ha u
theorem OwnF.far {w : World} {B : Nat} {v : Value} {fs : List (Int × Int)} (h : OwnF w B v fs) {p : Addr} (hp : ∀ k, v.ownBlock = some k → k ≠ p.block) (u : Value) : OwnF (w.setCell p u) B v fs := by
  refine h.grown (row := some p.block) ⟨rfl, rfl, rfl, by simp, fun k hk hne => Below.heap_setCell w p u k (fun e => hne (by rw [e]))⟩ (.inr fun e => hp _ e rfl)
theorem OwnF.slF {w : World} {B : Nat} {v : Value} {fs : List (Int × Int)} (h : OwnF w B v fs) : SlF w v fs := by
  rcases h.2 with ⟨rfl, h2⟩ | ⟨g, cap, cur, rfl, hg, hh, hn, hm, hs, ht⟩
  · obtain rfl := List.eq_nil_of_length_eq_zero h2
    exact ⟨none, 0, rfl, Nat.le_refl _, by simp [maxLen], fun _ => rfl, .inl rfl⟩
  · refine ⟨_, cap, rfl, hn, hm, by simp, .inr ⟨g, 0, rfl, fun i n d hx => ?_⟩⟩
    have hi : i < fs.length := (List.getElem?_eq_some_iff.1 hx).1
    have e := cellsF_get fs i n d hx
    rw [Nat.zero_add]
    exact ⟨(World.ownsRow.cellAt h (i * 2) (by omega)).trans e.1, (World.ownsRow.cellAt h (i * 2 + 1) (by omega)).trans e.2⟩
theorem OwnF.form {w : World} {B : Nat} {v : Value} {fs : List (Int × Int)} (h : OwnF w B v fs) : ∃ a c, v = .slice a fs.length c ∧ fs.length ≤ c := h.slF.form
theorem info_fr : (Try.prog.info? 44).map (fun i => (i.zero, i.size, i.bytes)) = some (some (.agg #[.int .i64 0, .int .i64 0]), 2, 16) := by kernel_rfl
/-- append(s, f): one fraction. -/
theorem wpList_append_frac {w : World} {ops : Array Oper} {rest : List Oper} {o : Oper} {a : Act} {Q : Exit → Act → World → Prop} (hgd : o.guard = none) (s x : Operand)
    (ho : o.op = .call { callee := .builtin .append, args := #[s, x], argTypes := #[103, 103] })
    (B : Nat) (v : Value) (fs : List (Int × Int)) (hs : a.eval s = v) (hown : OwnF w B v fs) (n d : Int)
    (hx : a.eval x = .slice (some ⟨w.heap.size, 0, none⟩) 1 1) (hl : fs.length < 1000000000) (hB : B ≤ w.heap.size)
    (h : ∀ v' w', OwnF w' B v' (fs ++ [(n, d)]) → w.grownBy w' v.ownBlock → (v'.ownBlock = v.ownBlock ∨ v'.ownBlock = some (w.heap.size + 1)) → wpList Try.prog ops Q rest (a.put o.dst v') w') :
    wpList Try.prog ops Q (o :: rest) a (w.alloc (.cells #[.int .i64 n, .int .i64 d] 44)) := by
  obtain ⟨i0, hi, hz0, hz1, hz2⟩ := info_parts info_fr
  refine wpList_append_own_at _ hgd s x 103 ho B 44 i0 (.agg #[.int .i64 0, .int .i64 0]) 2 16 Try.underlying103 hi hz0 hz1 hz2 rfl (by decide) v fs.length (cellsF fs) hs (hown.alloc _) ⟨w.heap.size, 0, none⟩ 1 1 (cellsF [(n, d)]) hx rfl ?_ (cellsF_one _) (by unfold maxLen; omega) (by omega) (by simp; omega) ?_
  · intro j u hu
    match j, hu with
    | 0, hu => simp [cellsF] at hu; subst hu; simp [Addr.add]
    | 1, hu => simp [cellsF] at hu; subst hu; simp [Addr.add]
  · intro v' w' a1 a2 _ a4
    refine h v' w' ?_ ?_ (by simpa using a4)
    · unfold OwnF
      rw [cellsF_app, List.length_append]
      exact a1
    · exact ⟨a2.os, a2.tape, a2.output, Nat.le_trans (by simp) a2.size, fun k hk hne => (a2.block k (by simp; omega) hne).trans (heap_alloc_old w _ hk)⟩
theorem ownF_made (w : World) {B k : Nat} (hk : k = w.heap.size) (hB : B ≤ w.heap.size) : OwnF (w.alloc (.cells #[] 44)) B (.slice (some ⟨k, 0, none⟩) 0 0) [] := by
  subst hk
  exact World.ownsRow_made w #[] 0 hB (by simp [maxLen]) (by simp)
theorem Bx.grownApartF {w w' : World} {b : Nat} {cs : Array Value} {row : Option Nat} (h : Bx w b cs) (hg : w.grownBy w' row) (hn : row ≠ some b) : Bx w' b cs := by
  have hl := h.out.2.2
  obtain ⟨t, h⟩ := h
  exact ⟨t, (hg.block b hl (fun e => hn e.symm)).trans h⟩
/-- Behind an append to a row that was made since B, what lay below B is as it was. -/
theorem bl_grown {w0 w w' : World} {row : Option Nat} (h : Bl w0 w) (hg : w.grownBy w' row) (hr : ∀ k, row = some k → w0.heap.size ≤ k) : Bl w0 w' :=
  Below.trans h ⟨hg.os, hg.tape, hg.output, hg.size, fun k hk => hg.block k (Nat.lt_of_lt_of_le hk h.size) (fun e => by have := hr k e.symm; omega)⟩


end Go.Proofs.Ytgkelemfbmmgnaa

