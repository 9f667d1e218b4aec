/- Lists of fractions of the call's own, and append. Each theorem names its conditions. -/
import Derived.Test.YtndblondleclpaaGreatDoorChk
import Derived.Laws.AppendOwnNone
import Derived.Maps.AppendAt
import Derived.OwnWalk
namespace Go.Proofs.YtndblondleclpaaGreatDoor
open Go.RowKit
set_option linter.unusedVariables false
set_option linter.unusedSimpArgs false


/-- The cells of a list of fractions. -/
def cellsF : List (Int × Int) → List Value
  | [] => []
  | f :: fs => .int .i64 f.1 :: .int .i64 f.2 :: cellsF fs
theorem cellsF_len (fs : List (Int × Int)) : (cellsF fs).length = fs.length * 2 := by
  induction fs with
  | nil => rfl
  | cons f fs ih => simp [cellsF, ih]; omega
theorem cellsF_app (fs gs : List (Int × Int)) : cellsF (fs ++ gs) = cellsF fs ++ cellsF gs := by
  induction fs with
  | nil => rfl
  | cons f fs ih => simp [cellsF, ih]
theorem cellsF_get (fs : List (Int × Int)) : ∀ (i : Nat) (n d : Int), fs[i]? = some (n, d) → (cellsF fs)[i * 2]? = some (.int .i64 n) ∧ (cellsF fs)[i * 2 + 1]? = some (.int .i64 d) := by
  induction fs with
  | nil => intro i n d h; simp at h
  | cons f fs ih =>
    intro i n d h
    cases i with
    | zero => simp at h; subst h; exact ⟨rfl, rfl⟩
    | succ i =>
      have := ih i n d (by simpa using h)
      rw [show (i + 1) * 2 = i * 2 + 1 + 1 by omega]
      exact this
theorem cellsF_one (fs : List (Int × Int)) : ∀ u ∈ cellsF fs, u.oneCell' = true := by
  induction fs with
  | nil => simp [cellsF]
  | cons f fs ih =>
    intro u hu
    simp only [cellsF, List.mem_cons] at hu
    rcases hu with rfl | rfl | hu
    · rfl
    · rfl
    · exact ih u hu
/-- What the call owns, from block B on: the slice value v, whose fractions are fs. -/
def OwnF (w : World) (B : Nat) (v : Value) (fs : List (Int × Int)) : Prop := w.ownsRow B 45 2 v fs.length (cellsF fs)
theorem OwnF.nil (w : World) (B : Nat) : OwnF w B (.slice none 0 0) [] := World.ownsRow_nil _ _ _ _
theorem OwnF.mono {w : World} {B B' : Nat} {v : Value} {fs : List (Int × Int)} (h : OwnF w B v fs) (hB : B' ≤ B) : OwnF w B' v fs := by
  obtain ⟨h1, h2⟩ := h
  refine ⟨h1, ?_⟩
  rcases h2 with h2 | ⟨g, cap, cur, hv, hg, r⟩
  · exact .inl h2
  · exact .inr ⟨g, cap, cur, hv, Nat.le_trans hB hg, r⟩
theorem OwnF.lt {w : World} {B : Nat} {v : Value} {fs : List (Int × Int)} (h : OwnF w B v fs) : ∀ k, v.ownBlock = some k → B ≤ k ∧ k < w.heap.size := World.ownsRow.lt h
theorem OwnF.grown {w w' : World} {B : Nat} {v : Value} {fs : List (Int × Int)} {row : Option Nat} (h : OwnF w B v fs) (hg : w.grownBy w' row) (hne : v.ownBlock = none ∨ v.ownBlock ≠ row) : OwnF w' B v fs :=
  World.ownsRow.kept h hg hne
theorem OwnF.below {w w' : World} {B : Nat} {v : Value} {fs : List (Int × Int)} (h : OwnF w B v fs) (hb : Bl w w') : OwnF w' B v fs := by
  refine h.grown (grown_of_below hb none) ?_
  cases v.ownBlock <;> simp
theorem OwnF.alloc {w : World} {B : Nat} {v : Value} {fs : List (Int × Int)} (h : OwnF w B v fs) (o : Obj) : OwnF (w.alloc o) B v fs := h.below (bl_alloc (bl_refl _) o)
theorem OwnF.drew {w : World} {B : Nat} {v : Value} {fs : List (Int × Int)} (h : OwnF w B v fs) : OwnF w.drew B v fs := h
theorem OwnF.setCell {w : World} {B : Nat} {v : Value} {fs : List (Int × Int)} (h : OwnF w B v fs) {a : Addr} (ha : a.block < B) (u : Value) : OwnF (w.setCell a u) B v fs := ownsRow_setCell_below h ha u
theorem OwnF.far {w : World} {B : Nat} {v : Value} {fs : List (Int × Int)} (h : OwnF w B v fs) {p : Addr} (hp : ∀ k, v.ownBlock = some k → k ≠ p.block) (u : Value) : OwnF (w.setCell p u) B v fs := by
  refine h.grown (row := some p.block) ⟨rfl, rfl, rfl, by simp, fun k hk hne => Below.heap_setCell w p u k (fun e => hne (by rw [e]))⟩ (.inr fun e => hp _ e rfl)
theorem OwnF.slF {w : World} {B : Nat} {v : Value} {fs : List (Int × Int)} (h : OwnF w B v fs) : SlF w v fs := by
  rcases h.2 with ⟨rfl, h2⟩ | ⟨g, cap, cur, rfl, hg, hh, hn, hm, hs, ht⟩
  · obtain rfl := List.eq_nil_of_length_eq_zero h2
    exact ⟨none, 0, rfl, Nat.le_refl _, by simp [maxLen], fun _ => rfl, .inl rfl⟩
  · refine ⟨_, cap, rfl, hn, hm, by simp, .inr ⟨g, 0, rfl, fun i n d hx => ?_⟩⟩
    have hi : i < fs.length := (List.getElem?_eq_some_iff.1 hx).1
    have e := cellsF_get fs i n d hx
    rw [Nat.zero_add]
    exact ⟨(World.ownsRow.cellAt h (i * 2) (by omega)).trans e.1, (World.ownsRow.cellAt h (i * 2 + 1) (by omega)).trans e.2⟩
theorem OwnF.form {w : World} {B : Nat} {v : Value} {fs : List (Int × Int)} (h : OwnF w B v fs) : ∃ a c, v = .slice a fs.length c ∧ fs.length ≤ c := h.slF.form
theorem info_fr : (Tryz.prog.info? 45).map (fun i => (i.zero, i.size, i.bytes)) = some (some (.agg #[.int .i64 0, .int .i64 0]), 2, 16) := by kernel_rfl
/-- append(s, f): one fraction. -/
theorem wpList_append_frac {w : World} {ops : Array Oper} {rest : List Oper} {o : Oper} {a : Act} {Q : Exit → Act → World → Prop} (hgd : o.guard = none) (s x : Operand)
    (ho : o.op = .call { callee := .builtin .append, args := #[s, x], argTypes := #[119, 119] })
    (B : Nat) (v : Value) (fs : List (Int × Int)) (hs : a.eval s = v) (hown : OwnF w B v fs) (n d : Int)
    (hx : a.eval x = .slice (some ⟨w.heap.size, 0, none⟩) 1 1) (hl : fs.length < 1000000000) (hB : B ≤ w.heap.size)
    (h : ∀ v' w', OwnF w' B v' (fs ++ [(n, d)]) → w.grownBy w' v.ownBlock → (v'.ownBlock = v.ownBlock ∨ v'.ownBlock = some (w.heap.size + 1)) → wpList Tryz.prog ops Q rest (a.put o.dst v') w') :
    wpList Tryz.prog ops Q (o :: rest) a (w.alloc (.cells #[.int .i64 n, .int .i64 d] 45)) := by
  obtain ⟨i0, hi, hz0, hz1, hz2⟩ := info_parts info_fr
  refine wpList_append_own_at _ hgd s x 119 ho B 45 i0 (.agg #[.int .i64 0, .int .i64 0]) 2 16 Tryz.underlying119 hi hz0 hz1 hz2 rfl (by decide) v fs.length (cellsF fs) hs (hown.alloc _) ⟨w.heap.size, 0, none⟩ 1 1 (cellsF [(n, d)]) hx rfl ?_ (cellsF_one _) (by unfold maxLen; omega) (by omega) (by simp; omega) ?_
  · intro j u hu
    match j, hu with
    | 0, hu => simp [cellsF] at hu; subst hu; simp [Addr.add]
    | 1, hu => simp [cellsF] at hu; subst hu; simp [Addr.add]
  · intro v' w' a1 a2 _ a4
    refine h v' w' ?_ ?_ (by simpa using a4)
    · unfold OwnF
      rw [cellsF_app, List.length_append]
      exact a1
    · exact ⟨a2.os, a2.tape, a2.output, Nat.le_trans (by simp) a2.size, fun k hk hne => (a2.block k (by simp; omega) hne).trans (heap_alloc_old w _ hk)⟩
theorem ownF_made (w : World) {B k : Nat} (hk : k = w.heap.size) (hB : B ≤ w.heap.size) : OwnF (w.alloc (.cells #[] 45)) B (.slice (some ⟨k, 0, none⟩) 0 0) [] := by
  subst hk
  exact World.ownsRow_made w #[] 0 hB (by simp [maxLen]) (by simp)
theorem Bx.grownApartF {w w' : World} {b : Nat} {cs : Array Value} {row : Option Nat} (h : Bx w b cs) (hg : w.grownBy w' row) (hn : row ≠ some b) : Bx w' b cs := by
  have hl := h.out.2.2
  obtain ⟨t, h⟩ := h
  exact ⟨t, (hg.block b hl (fun e => hn e.symm)).trans h⟩
/-- Behind an append to a row that was made since B, what lay below B is as it was. -/
theorem bl_grown {w0 w w' : World} {row : Option Nat} (h : Bl w0 w) (hg : w.grownBy w' row) (hr : ∀ k, row = some k → w0.heap.size ≤ k) : Bl w0 w' :=
  Below.trans h ⟨hg.os, hg.tape, hg.output, hg.size, fun k hk => hg.block k (Nat.lt_of_lt_of_le hk h.size) (fun e => by have := hr k e.symm; omega)⟩


end Go.Proofs.YtndblondleclpaaGreatDoor
