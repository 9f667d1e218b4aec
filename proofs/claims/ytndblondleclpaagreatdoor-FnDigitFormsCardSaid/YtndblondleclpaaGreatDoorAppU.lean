/- Lists of surds: in memory, and of the call's own. Each theorem names its conditions. -/
import Derived.Test.YtndblondleclpaaGreatDoorAppF
import Derived.Test.YtndblondleclpaaGreatDoorApp
import Derived.Deep.AppendLies
import Derived.Deep.RegionLaw
namespace Go.Proofs.YtndblondleclpaaGreatDoor
open Go.RowKit
set_option linter.unusedVariables false
set_option linter.unusedSimpArgs false

/-- A surd: P, D, Q. -/
abbrev Sud := Int × Int × Int
def SlU (w : World) (v : Value) (fs : List Sud) : Prop :=
  ∃ a cap, v = .slice a fs.length cap ∧ fs.length ≤ cap ∧ cap ≤ maxLen ∧ (a = none → cap = 0) ∧
    (fs = [] ∨ ∃ b off, a = some ⟨b, off, none⟩ ∧ ∀ (i : Nat) (p d q : Int), fs[i]? = some (p, d, q) → w.cell? ⟨b, off + i * 3, none⟩ = some (.int .i64 p) ∧ w.cell? ⟨b, off + i * 3 + 1, none⟩ = some (.int .i64 d) ∧ w.cell? ⟨b, off + i * 3 + 2, none⟩ = some (.int .i64 q))
theorem SlU.below {w w' : World} {v : Value} {fs : List Sud} (h : SlU w v fs) (hb : Bl w w') : SlU w' v fs := by
  obtain ⟨a, cap, rfl, h1, h2, h4, h5⟩ := h
  refine ⟨a, cap, rfl, h1, h2, h4, ?_⟩
  rcases h5 with h5 | ⟨b, off, rfl, hc⟩
  · exact .inl h5
  · exact .inr ⟨b, off, rfl, fun i p d q hx => ⟨(hb.cell (p := ⟨b, off + i * 3, none⟩) (cell_lt (hc i p d q hx).1)).trans (hc i p d q hx).1, (hb.cell (p := ⟨b, off + i * 3 + 1, none⟩) (cell_lt (hc i p d q hx).2.1)).trans (hc i p d q hx).2.1, (hb.cell (p := ⟨b, off + i * 3 + 2, none⟩) (cell_lt (hc i p d q hx).2.2)).trans (hc i p d q hx).2.2⟩⟩
theorem SlU.len {w : World} {v : Value} {fs : List Sud} (h : SlU w v fs) : fs.length ≤ 9223372036854775807 := by
  obtain ⟨a, cap, rfl, h1, h2, _⟩ := h; unfold maxLen at h2; omega
theorem SlU.form {w : World} {v : Value} {fs : List Sud} (h : SlU w v fs) : ∃ a c, v = .slice a fs.length c ∧ fs.length ≤ c := by
  obtain ⟨a, cap, rfl, h1, _⟩ := h
  exact ⟨a, cap, rfl, h1⟩
theorem SlU.cellAt {w w' : World} {a : Option Addr} {n c : Nat} {fs : List Sud} (h : SlU w (.slice a n c) fs) (hb : Bl w w') {k : Nat} (hk : k < fs.length) :
    ∃ b o, a = some ⟨b, o, none⟩ ∧ ∃ p d q, fs[k]? = some (p, d, q) ∧ w'.cell? ⟨b, o + k * 3, none⟩ = some (.int .i64 p) ∧ w'.cell? ⟨b, o + k * 3 + 1, none⟩ = some (.int .i64 d) ∧ w'.cell? ⟨b, o + k * 3 + 2, none⟩ = some (.int .i64 q) := by
  obtain ⟨a', cap, e, h1, h2, h4, h5⟩ := h
  simp only [Value.slice.injEq] at e
  obtain ⟨rfl, rfl, rfl⟩ := e
  rcases h5 with h5 | ⟨b, off, rfl, hc⟩
  · rw [h5] at hk; simp at hk
  · obtain ⟨p, d, q, hx⟩ : ∃ p d q, fs[k]? = some (p, d, q) := ⟨_, _, _, List.getElem?_eq_getElem hk⟩
    have e := hc k p d q hx
    exact ⟨b, off, rfl, p, d, q, hx, (hb.cell (p := ⟨b, off + k * 3, none⟩) (cell_lt e.1)).trans e.1, (hb.cell (p := ⟨b, off + k * 3 + 1, none⟩) (cell_lt e.2.1)).trans e.2.1, (hb.cell (p := ⟨b, off + k * 3 + 2, none⟩) (cell_lt e.2.2)).trans e.2.2⟩
/-- The cells of a list of surds. -/
def cellsU : List Sud → List Value
  | [] => []
  | f :: fs => .int .i64 f.1 :: .int .i64 f.2.1 :: .int .i64 f.2.2 :: cellsU fs
theorem cellsU_len (fs : List Sud) : (cellsU fs).length = fs.length * 3 := by
  induction fs with
  | nil => rfl
  | cons f fs ih => simp [cellsU, ih]; omega
theorem cellsU_app (fs gs : List Sud) : cellsU (fs ++ gs) = cellsU fs ++ cellsU gs := by
  induction fs with
  | nil => rfl
  | cons f fs ih => simp [cellsU, ih]
theorem cellsU_get (fs : List Sud) : ∀ (i : Nat) (p d q : Int), fs[i]? = some (p, d, q) → (cellsU fs)[i * 3]? = some (.int .i64 p) ∧ (cellsU fs)[i * 3 + 1]? = some (.int .i64 d) ∧ (cellsU fs)[i * 3 + 2]? = some (.int .i64 q) := by
  induction fs with
  | nil => intro i p d q h; simp at h
  | cons f fs ih =>
    intro i p d q h
    cases i with
    | zero => simp at h; subst h; exact ⟨rfl, rfl, rfl⟩
    | succ i =>
      have := ih i p d q (by simpa using h)
      rw [show (i + 1) * 3 = i * 3 + 1 + 1 + 1 by omega]
      exact this
theorem cellsU_one (fs : List Sud) : ∀ u ∈ cellsU fs, u.oneCell' = true := by
  induction fs with
  | nil => simp [cellsU]
  | cons f fs ih =>
    intro u hu
    simp only [cellsU, List.mem_cons] at hu
    rcases hu with rfl | rfl | rfl | hu
    · rfl
    · rfl
    · rfl
    · exact ih u hu
def OwnU (w : World) (B : Nat) (v : Value) (fs : List Sud) : Prop := w.ownsRow B 143 3 v fs.length (cellsU fs)
theorem OwnU.nil (w : World) (B : Nat) : OwnU w B (.slice none 0 0) [] := World.ownsRow_nil _ _ _ _
theorem OwnU.lt {w : World} {B : Nat} {v : Value} {fs : List Sud} (h : OwnU w B v fs) : ∀ k, v.ownBlock = some k → B ≤ k ∧ k < w.heap.size := World.ownsRow.lt h
theorem OwnU.grown {w w' : World} {B : Nat} {v : Value} {fs : List Sud} {row : Option Nat} (h : OwnU w B v fs) (hg : w.grownBy w' row) (hne : v.ownBlock = none ∨ v.ownBlock ≠ row) : OwnU w' B v fs :=
  World.ownsRow.kept h hg hne
theorem OwnU.below {w w' : World} {B : Nat} {v : Value} {fs : List Sud} (h : OwnU w B v fs) (hb : Bl w w') : OwnU w' B v fs := by
  refine h.grown (grown_of_below hb none) ?_
  cases v.ownBlock <;> simp
theorem OwnU.far {w : World} {B : Nat} {v : Value} {fs : List Sud} (h : OwnU w B v fs) {p : Addr} (hp : ∀ k, v.ownBlock = some k → k ≠ p.block) (u : Value) : OwnU (w.setCell p u) B v fs := by
  refine h.grown (row := some p.block) ⟨rfl, rfl, rfl, by simp, fun k hk hne => Below.heap_setCell w p u k (fun e => hne (by rw [e]))⟩ (.inr fun e => hp _ e rfl)
theorem OwnU.slU {w : World} {B : Nat} {v : Value} {fs : List Sud} (h : OwnU w B v fs) : SlU w v fs := by
  rcases h.2 with ⟨rfl, h2⟩ | ⟨g, cap, cur, rfl, hg, hh, hn, hm, hs, ht⟩
  · obtain rfl := List.eq_nil_of_length_eq_zero h2
    exact ⟨none, 0, rfl, Nat.le_refl _, by simp [maxLen], fun _ => rfl, .inl rfl⟩
  · refine ⟨_, cap, rfl, hn, hm, by simp, .inr ⟨g, 0, rfl, fun i p d q hx => ?_⟩⟩
    have hi : i < fs.length := (List.getElem?_eq_some_iff.1 hx).1
    have e := cellsU_get fs i p d q hx
    rw [Nat.zero_add]
    exact ⟨(World.ownsRow.cellAt h (i * 3) (by omega)).trans e.1, (World.ownsRow.cellAt h (i * 3 + 1) (by omega)).trans e.2.1, (World.ownsRow.cellAt h (i * 3 + 2) (by omega)).trans e.2.2⟩
theorem OwnU.form {w : World} {B : Nat} {v : Value} {fs : List Sud} (h : OwnU w B v fs) : ∃ a c, v = .slice a fs.length c ∧ fs.length ≤ c := h.slU.form
theorem info_su : (Tryz.prog.info? 143).map (fun i => (i.zero, i.size, i.bytes)) = some (some (.agg #[.int .i64 0, .int .i64 0, .int .i64 0]), 3, 24) := by kernel_rfl
/-- append(s, x) of one surd, in a region that draws. -/
theorem step_append_su {w : World} {ops : Array Oper} {o : Oper} {a : Act} {K : Act → World → Prop} {Q : Exit → Act → World → Prop} {E : Prop} (hgd : o.guard = none) (s x : Operand)
    (ho : o.op = .call { callee := .builtin .append, args := #[s, x], argTypes := #[163, 163] })
    (B : Nat) (v : Value) (fs : List Sud) (hs : a.eval s = v) (hown : OwnU w B v fs) (b : Nat) (p d q : Int) (hx : a.eval x = .slice (some ⟨b, 0, none⟩) 1 1) (hb : Bx w b #[.int .i64 p, .int .i64 d, .int .i64 q])
    (hl : fs.length ≤ 1000000000) (hB : B ≤ w.heap.size)
    (h : ∀ v' w', OwnU w' B v' (fs ++ [(p, d, q)]) → w.grownBy w' v.ownBlock → (v'.ownBlock = v.ownBlock ∨ v'.ownBlock = some w.heap.size) → K (a.put o.dst v') w') :
    if Region.wanted o (yielded ops a.tmps) = true then Oper.wp Tryz.prog o a w K Q else E := by
  obtain ⟨i0, hi, hz0, hz1, hz2⟩ := info_parts info_su
  refine step_append_lies w hgd s x 163 ho B 143 i0 (.agg #[.int .i64 0, .int .i64 0, .int .i64 0]) 3 24 Tryz.underlying163 hi hz0 hz1 hz2 rfl (by decide) v fs.length (cellsU fs) hs hown ⟨b, 0, none⟩ 1 1 (cellsU [(p, d, q)]) hx (by simp [cellsU]) (fun j u hu => ?_) (cellsU_one _) (by omega) (by unfold maxLen; omega) (by omega) hB _ rfl ?_
  · match j, hu with
    | 0, hu => simp [cellsU] at hu; subst hu; simp [Addr.add]; exact hb.out.1 0
    | 1, hu => simp [cellsU] at hu; subst hu; simp [Addr.add]; exact hb.out.1 1
    | 2, hu => simp [cellsU] at hu; subst hu; simp [Addr.add]; exact hb.out.1 2
  · intro g c w' a1 a2 a3 a4
    exact h _ w' (by unfold OwnU; rw [cellsU_app, List.length_append]; exact a1) a2 (a3.imp (fun q => q.symm) (fun q => congrArg some q))
/-- append(s, x) of one number, in a region that draws. -/
theorem step_append_i1 {w : World} {ops : Array Oper} {o : Oper} {a : Act} {K : Act → World → Prop} {Q : Exit → Act → World → Prop} {E : Prop} (hgd : o.guard = none) (s x : Operand)
    (ho : o.op = .call { callee := .builtin .append, args := #[s, x], argTypes := #[24, 24] })
    (B : Nat) (v : Value) (xs : List Int) (hs : a.eval s = v) (hown : Own w B v xs) (b : Nat) (y : Int) (hy : R64 y) (hx : a.eval x = .slice (some ⟨b, 0, none⟩) 1 1) (hb : Bx w b #[.int .i64 y])
    (hl : xs.length ≤ 1000000000) (hB : B ≤ w.heap.size)
    (h : ∀ v' w', Own w' B v' (xs ++ [y]) → w.grownBy w' v.ownBlock → (v'.ownBlock = v.ownBlock ∨ v'.ownBlock = some w.heap.size) → K (a.put o.dst v') w') :
    if Region.wanted o (yielded ops a.tmps) = true then Oper.wp Tryz.prog o a w K Q else E := by
  obtain ⟨i0, hi, hz0, hz1, hz2⟩ := info_parts info_i64
  refine step_append_lies w hgd s x 24 ho B 2 i0 (.int .i64 0) 1 8 Tryz.underlying24 hi hz0 hz1 hz2 rfl (by decide) v xs.length (xs.map (Value.int .i64)) hs hown.1 ⟨b, 0, none⟩ 1 1 ([y].map (Value.int .i64)) hx (by simp) (fun j u hu => ?_) ?_ (by omega) (by unfold maxLen; omega) (by omega) hB _ rfl ?_
  · match j, hu with
    | 0, hu => simp at hu; subst hu; simp [Addr.add]; exact hb.out.1 0
  · intro u hu
    simp at hu
    subst hu; rfl
  · intro g c w' a1 a2 a3 a4
    exact h _ w' (own_of_row hown.2 (by intro z hz; simp at hz; subst hz; exact hy) a1) a2 (a3.imp (fun q => q.symm) (fun q => congrArg some q))

end Go.Proofs.YtndblondleclpaaGreatDoor
