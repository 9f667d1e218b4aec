/- Some of the texts of this claim, joined in one file: AppB, DecS, Cont, Dig, DgT, RdS. -/
import Derived.Test.YtndblondleclpaaGreatDoorBase
import Derived.ArgAppend
import Derived.Lib.ConvBytes
import Derived.Lib.Strings
import Derived.Laws.BytesString
import Derived.OwnWalk
import Derived.Test.YtndblondleclpaaGreatDoorMB1
import Derived.Lib.ItoaLen
import Derived.Test.YtndblondleclpaaGreatDoorNum
/- Rows of one-cell elements of the call's own (bytes, strings): made, appended to; bytes turned into a string; a string's bytes in a new row. Each theorem names its conditions. -/
namespace Go.Proofs.YtndblondleclpaaGreatDoor
open Go.RowKit
set_option linter.unusedVariables false
set_option linter.unusedSimpArgs false

theorem add_litB (b o j : Nat) : (⟨b, o, none⟩ : Addr).add j = ⟨b, o + j, none⟩ := by unfold Addr.add; split <;> simp_all

/-- An element of a list, in every later world. -/
theorem Sl.cellIn {w : World} {a : Option Addr} {n c : Nat} {xs : List Int} (h : Sl w (.slice a n c) xs) {k : Nat} (hk : k < xs.length) :
    ∃ b o, a = some ⟨b, o, none⟩ ∧ b < w.heap.size ∧ ∃ x, xs[k]? = some x ∧ R64 x ∧ Hid (∀ w', Bl w w' → w'.cell? ⟨b, o + k, none⟩ = some (.int .i64 x)) := by
  obtain ⟨a', cap, e, h1, h2, h3, h4, h5⟩ := h
  simp only [Value.slice.injEq] at e
  obtain ⟨rfl, rfl, rfl⟩ := e
  rcases h5 with h5 | ⟨b, off, rfl, hc⟩
  · rw [h5] at hk; simp at hk
  · have hx : xs[k]? = some xs[k] := List.getElem?_eq_getElem hk
    exact ⟨b, off, rfl, cell_lt (hc k _ hx), _, hx, h3 _ (List.getElem_mem hk), Lib.hid fun w' hb => (hb.cell (p := ⟨b, off + k, none⟩) (cell_lt (hc k _ hx))).trans (hc k _ hx)⟩

/-- The slice value v, nil or of a row of the call's own (from block B on), holds the cells cs; all its places can be written. -/
def OwX (w : World) (B : Nat) (v : Value) (cs : List Value) : Prop :=
  (∀ u ∈ cs, u.oneCell' = true) ∧ ((v = .slice none 0 0 ∧ cs = []) ∨ ∃ g cap, v = .slice (some ⟨g, 0, none⟩) cs.length cap ∧ B ≤ g ∧ cs.length ≤ cap ∧ cap ≤ maxLen ∧ g < w.heap.size ∧
    (∀ (i : Nat) (u : Value), cs[i]? = some u → w.cell? ⟨g, i, none⟩ = some u) ∧
    (∀ j, j < cap → (w.cell? ⟨g, j, none⟩).isSome = true ∧ w.frozen? ⟨g, j, none⟩ = false))
theorem OwX.form {w : World} {B : Nat} {v : Value} {cs : List Value} (h : OwX w B v cs) : ∃ a c, v = .slice a cs.length c ∧ cs.length ≤ c ∧ c ≤ maxLen := by
  rcases h.2 with ⟨rfl, rfl⟩ | ⟨g, cap, e, hB, h1, h2, h3, _⟩
  · exact ⟨none, 0, rfl, Nat.le_refl _, by simp [maxLen]⟩
  · exact ⟨_, cap, e, h1, h2⟩
theorem OwX.form1 {w : World} {B : Nat} {v : Value} {cs : List Value} (h : OwX w B v cs) (hne : cs ≠ []) : ∃ g c, v = .slice (some ⟨g, 0, none⟩) cs.length c ∧ B ≤ g ∧ g < w.heap.size ∧ cs.length ≤ c ∧ c ≤ maxLen := by
  rcases h.2 with ⟨rfl, rfl⟩ | ⟨g, cap, e, hB, h1, h2, h3, _⟩
  · exact absurd rfl hne
  · exact ⟨g, cap, e, hB, h3, h1, h2⟩
theorem bl_grownX {w wr wn : World} {row : Option Nat} (h : Bl w wr) (hg : wr.grownBy wn row) (hr : ∀ k, row = some k → w.heap.size ≤ k) : Bl w wn :=
  ⟨hg.os.trans h.os, hg.tape.trans h.tape, hg.output.trans h.output, Nat.le_trans h.size hg.size, fun k hk => (hg.block k (Nat.lt_of_lt_of_le hk h.size) (fun e => by have := hr k e.symm; omega)).trans (h.block k hk)⟩
theorem OwX.lt {w : World} {B : Nat} {v : Value} {cs : List Value} (h : OwX w B v cs) : ∀ k, v.ownBlock = some k → B ≤ k ∧ k < w.heap.size := by
  intro k hk
  rcases h.2 with ⟨rfl, rfl⟩ | ⟨g, cap, rfl, hB, h1, h2, h3, _⟩
  · simp [Value.ownBlock] at hk
  · simp [Value.ownBlock] at hk
    subst hk; exact ⟨hB, h3⟩
theorem OwX.cell {w : World} {B n c g : Nat} {cs : List Value} (h : OwX w B (.slice (some ⟨g, 0, none⟩) n c) cs) {i : Nat} {u : Value} (hi : cs[i]? = some u) : w.cell? ⟨g, i, none⟩ = some u := by
  rcases h.2 with ⟨e, _⟩ | ⟨g', cap, e, hB, h1, h2, h3, h4, _⟩
  · cases e
  · injection e with e _ _; injection e with e; injection e with e; subst e; exact h4 i u hi
theorem OwX.kept {w w' : World} {B : Nat} {v : Value} {cs : List Value} {row : Option Nat} (h : OwX w B v cs) (hg : w.grownBy w' row) (hne : v.ownBlock = none ∨ v.ownBlock ≠ row) : OwX w' B v cs := by
  refine ⟨h.1, ?_⟩
  rcases h.2 with q | ⟨g, cap, rfl, hB, h1, h2, h3, h4, h5⟩
  · exact .inl q
  · have hb : w'.heap[g]? = w.heap[g]? := hg.block g h3 (by simpa [Value.ownBlock] using hne)
    refine .inr ⟨g, cap, rfl, hB, h1, h2, Nat.lt_of_lt_of_le h3 hg.size, fun i b hi => ?_, fun j hj => ?_⟩
    · rw [World.cell?_of_block (a := ⟨g, i, none⟩) hb]; exact h4 i b hi
    · rw [World.cell?_of_block (a := ⟨g, j, none⟩) hb, World.frozen?_of_block (a := ⟨g, j, none⟩) hb]; exact h5 j hj
theorem OwX.below {w w' : World} {B : Nat} {v : Value} {cs : List Value} (h : OwX w B v cs) (hb : Bl w w') : OwX w' B v cs := by
  refine h.kept (row := none) (grown_of_below hb none) ?_
  cases v.ownBlock <;> simp
theorem OwX.alloc {w : World} {B : Nat} {v : Value} {cs : List Value} (h : OwX w B v cs) (o : Obj) : OwX (w.alloc o) B v cs := h.below (bl_alloc (bl_refl _) o)
theorem OwX.drew {w : World} {B : Nat} {v : Value} {cs : List Value} (h : OwX w B v cs) : OwX w.drew B v cs := h
theorem OwX.nil (w : World) (B : Nat) : OwX w B (.slice none 0 0) [] := ⟨by simp, .inl ⟨rfl, rfl⟩⟩
theorem OwX.made {w : World} {B : Nat} (hB : B ≤ w.heap.size) (e : TypeId) : OwX (w.alloc (.cells #[] e)) B (.slice (some ⟨w.heap.size, 0, none⟩) 0 0) [] :=
  ⟨by simp, .inr ⟨w.heap.size, 0, rfl, hB, Nat.le_refl _, by simp [maxLen], by simp, by simp, by omega⟩⟩
theorem OwX.lit {w : World} {B : Nat} (hB : B ≤ w.heap.size) (u : Value) (hu : u.oneCell' = true) (e : TypeId) : OwX (w.alloc (.cells #[u] e)) B (.slice (some ⟨w.heap.size, 0, none⟩) 1 1) [u] := by
  refine ⟨by simpa using hu, .inr ⟨w.heap.size, 1, rfl, hB, Nat.le_refl _, by simp [maxLen], by simp, fun i b hi => ?_, fun j hj => ?_⟩⟩
  · match i, hi with
    | 0, hi => simp at hi; subst hi; simp
  · obtain rfl : j = 0 := by omega
    simp

theorem size_setCells (b : Nat) : ∀ (vs : List Value) (o : Nat) (w : World), (w.setCells b o vs).heap.size = w.heap.size
  | [], _, _ => rfl
  | v :: r, o, w => by rw [World.setCells, size_setCells b r (o + 1)]; simp
theorem grown_setCells (b : Nat) : ∀ (vs : List Value) (o : Nat) (w : World), w.grownBy (w.setCells b o vs) (some b)
  | [], _, w => World.grownBy.refl _ _
  | v :: r, o, w => by
    rw [World.setCells]
    have h := grown_setCells b r (o + 1) (w.setCell ⟨b, o, none⟩ v)
    exact ⟨h.os, h.tape, h.output, by have := h.size; simpa using this, fun k hk hne => (h.block k (by simpa using hk) hne).trans (Below.heap_setCell w ⟨b, o, none⟩ v k (fun e => hne (by rw [e])))⟩
theorem owX_of_row {w : World} {B e n : Nat} {v : Value} {cs : List Value} (h1 : ∀ u ∈ cs, u.oneCell' = true) (r : w.ownsRow B e 1 v n cs) : OwX w B v cs := by
  refine ⟨h1, ?_⟩
  have hl : cs.length = n := by rw [r.1, Nat.mul_one]
  subst hl
  rcases r.2 with ⟨e, hn⟩ | ⟨g', cap', cur, rfl, hb, hh, hn, hm, hsz, ht⟩
  · exact .inl ⟨e, List.eq_nil_of_length_eq_zero hn⟩
  · have hlt := (Array.getElem?_eq_some_iff.1 hh).1
    refine .inr ⟨g', cap', rfl, hb, hn, hm, hlt, fun i b hi => ?_, fun j hj => ?_⟩
    · have hi2 := (List.getElem?_eq_some_iff.1 hi).1
      rw [← ht, List.getElem?_take, if_pos (by omega)] at hi
      rw [cell_of_row w g' i cur _ (0, 0) hh]
      simpa using hi
    · rw [cell_of_row w g' j cur _ (0, 0) hh, frozen_of_row w g' j cur _ hh]
      exact ⟨by simp [show j < cur.size by omega], rfl⟩

theorem info_partsB {P : Program} {e : TypeId} {z : Value} {n m : Nat} (h : (P.info? e).map (fun i => (i.zero, i.size, i.bytes)) = some (some z, n, m)) : ∃ i, P.info? e = some i ∧ i.zero = some z ∧ i.size = n ∧ i.bytes = m := by
  obtain ⟨i, hi, he⟩ := Option.map_eq_some_iff.1 h
  simp only [Prod.mk.injEq] at he
  exact ⟨i, hi, he.1, he.2.1, he.2.2⟩

/-- append(s, x...): s the call's own, x a row. -/
theorem wp_append_x {w : World} {o : Oper} {a : Act} {K : Act → World → Prop} {Q : Exit → Act → World → Prop} {t e : TypeId} {z : Value} {bytes : Nat} (hu : Tryz.prog.underlying t = some (.slice e))
    (hinfo : (Tryz.prog.info? e).map (fun i => (i.zero, i.size, i.bytes)) = some (some z, 1, bytes)) (hz : z.cells.size = 1) (hby : bytes ≤ 100) (s x : Operand)
    (ho : o.op = .call { callee := .builtin .append, args := #[s, x], argTypes := #[t, t] })
    (B : Nat) (v : Value) (bs : List Value) (hs : a.eval s = v) (hown : OwX w B v bs) (m c : Nat) (cs : List Value) (hx : a.eval x = .slice (some ⟨m, 0, none⟩) cs.length c) (hc1 : ∀ u ∈ cs, u.oneCell' = true)
    (hcs : ∀ (i : Nat) (u : Value), cs[i]? = some u → w.cell? ⟨m, i, none⟩ = some u) (hl : bs.length + cs.length ≤ 1000000000) (hB : B ≤ w.heap.size)
    (h : ∀ v' w', OwX w' B v' (bs ++ cs) → w.grownBy w' v.ownBlock → (v'.ownBlock = v.ownBlock ∨ ∀ k, v'.ownBlock = some k → w.heap.size ≤ k) → K (a.put o.dst v') w') :
    Oper.wp Tryz.prog o a w K Q := by
  obtain ⟨i0, hi, hz0, hz1, hz2⟩ := info_partsB hinfo
  have h1' : ∀ u ∈ bs ++ cs, u.oneCell' = true := fun u hu => (List.mem_append.1 hu).elim (hown.1 u) (hc1 u)
  have hnews : ∀ (j : Nat) (u : Value), cs[j]? = some u → w.cell? ((⟨m, 0, none⟩ : Addr).add j) = some u := by
    intro j u hu
    rw [add_litB, Nat.zero_add]; exact hcs j u hu
  have hbb : (bs.length + cs.length) * bytes ≤ 140737488355328 := Nat.le_trans (Nat.mul_le_mul hl hby) (by decide)
  rcases hown.2 with ⟨rfl, rfl⟩ | ⟨g, cap, rfl, hBg, h1, h2, h3, h4, h5⟩
  · refine wp_append_own w s x t ho w.heap.size e i0 z 1 bytes hu hi hz0 hz1 hz2 hz (by decide) (.slice none 0 0) 0 [] hs (World.ownsRow_nil _ _ _ _) ⟨m, 0, none⟩ cs.length c cs hx (by simp) hnews hc1 (by unfold maxLen; simp at hl; omega) (by simpa using hbb) (Nat.le_refl _) ?_
    intro v' w' r1 r2 _
    have hO : OwX w' w.heap.size v' ([] ++ cs) := owX_of_row h1' r1
    refine h v' w' ⟨h1', ?_⟩ r2 (.inr fun k hk => (hO.lt k hk).1)
    rcases hO.2 with q | ⟨g', cap', e0, hb, q⟩
    · exact .inl q
    · exact .inr ⟨g', cap', e0, Nat.le_trans hB hb, q⟩
  · by_cases hr : bs.length + cs.length ≤ cap
    · have hrun := run_append_room_cells (P := Tryz.prog) w t o.type e i0 hu hi g 0 bs.length cap ⟨m, 0, none⟩ cs.length c cs (by rw [hz1]; omega) hnews hc1 hr
        (fun j hj => by rw [hz1]; exact (h5 _ (by omega)).1) (fun j hj => by rw [hz1]; exact (h5 _ (by omega)).2)
      rw [hz1, Nat.mul_one, Nat.zero_add] at hrun
      unfold Oper.wp
      simp [execOp, ho, resolve, invoke, builtin, hs, hx, hrun, Result.andThen]
      have hsome : ∀ j, j < cs.length → (w.cell? ⟨g, bs.length + j, none⟩).isSome = true := fun j hj => (h5 _ (by omega)).1
      refine h _ _ ⟨h1', .inr ⟨g, cap, by rw [List.length_append], hBg, by rw [List.length_append]; exact hr, h2, by rw [size_setCells]; exact h3, fun i b hi => ?_, fun j hj => ?_⟩⟩ (grown_setCells _ _ _ _) (.inl rfl)
      · by_cases hlt : i < bs.length
        · rw [List.getElem?_append_left hlt] at hi
          rw [World.cell?_setCells_out _ _ _ _ _ (fun _ _ => .inl hlt)]; exact h4 i b hi
        · rw [List.getElem?_append_right (by omega)] at hi
          obtain ⟨hi2, hg2⟩ := List.getElem?_eq_some_iff.1 hi
          have := World.cell?_setCells_in g cs bs.length w hsome (i - bs.length) hi2
          rw [show bs.length + (i - bs.length) = i by omega] at this
          rw [this, hg2]
      · rw [World.frozen?_setCells]
        refine ⟨?_, (h5 j hj).2⟩
        by_cases hin : bs.length ≤ j ∧ j < bs.length + cs.length
        · have := World.cell?_setCells_in g cs bs.length w hsome (j - bs.length) (by omega)
          rw [show bs.length + (j - bs.length) = j by omega] at this
          rw [this]; rfl
        · rw [World.cell?_setCells_out _ _ _ _ _ (fun _ _ => by show j < _ ∨ _ ≤ j; omega)]; exact (h5 j hj).1
    · obtain ⟨v', w', hrun, r1, r2⟩ := run_append_arg_grows (P := Tryz.prog) w t o.type e i0 z 1 bytes hu hi hz0 hz1 hz2 hz (by decide) ⟨g, 0, none⟩ bs.length cap bs (by simp)
        (fun j u hu => by rw [add_litB, Nat.zero_add]; exact h4 j u hu) ⟨m, 0, none⟩ cs.length c cs (by simp) hnews (by omega) (by unfold maxLen; omega) hbb
      unfold Oper.wp
      simp [execOp, ho, resolve, invoke, builtin, hs, hx, hrun, Result.andThen]
      have hO : OwX w' w.heap.size v' (bs ++ cs) := owX_of_row h1' r1
      refine h _ w' ⟨h1', ?_⟩ ⟨r2.os, r2.tape, r2.output, r2.size, fun b hb _ => r2.block b hb (by simp)⟩ (.inr (fun k hk => (hO.lt k hk).1))
      rcases hO.2 with q | ⟨g', cap', e0, hb, q⟩
      · exact .inl q
      · exact .inr ⟨g', cap', e0, Nat.le_trans hB hb, q⟩
theorem wpList_append_x {w : World} {ops : Array Oper} {rest : List Oper} {o : Oper} {a : Act} {Q : Exit → Act → World → Prop} (hgd : o.guard = none) {t e : TypeId} {z : Value} {bytes : Nat} (hu : Tryz.prog.underlying t = some (.slice e))
    (hinfo : (Tryz.prog.info? e).map (fun i => (i.zero, i.size, i.bytes)) = some (some z, 1, bytes)) (hz : z.cells.size = 1) (hby : bytes ≤ 100) (s x : Operand)
    (ho : o.op = .call { callee := .builtin .append, args := #[s, x], argTypes := #[t, t] })
    (B : Nat) (v : Value) (bs : List Value) (hs : a.eval s = v) (hown : OwX w B v bs) (m c : Nat) (cs : List Value) (hx : a.eval x = .slice (some ⟨m, 0, none⟩) cs.length c) (hc1 : ∀ u ∈ cs, u.oneCell' = true)
    (hcs : ∀ (i : Nat) (u : Value), cs[i]? = some u → w.cell? ⟨m, i, none⟩ = some u) (hl : bs.length + cs.length ≤ 1000000000) (hB : B ≤ w.heap.size)
    (h : ∀ v' w', OwX w' B v' (bs ++ cs) → w.grownBy w' v.ownBlock → (v'.ownBlock = v.ownBlock ∨ ∀ k, v'.ownBlock = some k → w.heap.size ≤ k) → wpList Tryz.prog ops Q rest (a.put o.dst v') w') :
    wpList Tryz.prog ops Q (o :: rest) a w :=
  wpList_plain hgd fun _ hK => wp_append_x hu hinfo hz hby s x ho B v bs hs hown m c cs hx hc1 hcs hl hB fun v' w' h2 h3 h4 => hK _ _ (h v' w' h2 h3 h4)
theorem step_append_x {w : World} {ops : Array Oper} {o : Oper} {a : Act} {K : Act → World → Prop} {Q : Exit → Act → World → Prop} {E : Prop} (hgd : o.guard = none) {t e : TypeId} {z : Value} {bytes : Nat} (hu : Tryz.prog.underlying t = some (.slice e))
    (hinfo : (Tryz.prog.info? e).map (fun i => (i.zero, i.size, i.bytes)) = some (some z, 1, bytes)) (hz : z.cells.size = 1) (hby : bytes ≤ 100) (s x : Operand)
    (ho : o.op = .call { callee := .builtin .append, args := #[s, x], argTypes := #[t, t] })
    (B : Nat) (v : Value) (bs : List Value) (hs : a.eval s = v) (hown : OwX w B v bs) (m c : Nat) (cs : List Value) (hx : a.eval x = .slice (some ⟨m, 0, none⟩) cs.length c) (hc1 : ∀ u ∈ cs, u.oneCell' = true)
    (hcs : ∀ (i : Nat) (u : Value), cs[i]? = some u → w.cell? ⟨m, i, none⟩ = some u) (hl : bs.length + cs.length ≤ 1000000000) (hB : B ≤ w.heap.size)
    (h : ∀ v' w', OwX w' B v' (bs ++ cs) → w.grownBy w' v.ownBlock → (v'.ownBlock = v.ownBlock ∨ ∀ k, v'.ownBlock = some k → w.heap.size ≤ k) → K (a.put o.dst v') w') :
    if Region.wanted o (yielded ops a.tmps) = true then Oper.wp Tryz.prog o a w K Q else E := by
  have hw : Region.wanted o (yielded ops a.tmps) = true := by simp [Region.wanted, hgd]
  rw [if_pos hw]
  exact wp_append_x hu hinfo hz hby s x ho B v bs hs hown m c cs hx hc1 hcs hl hB h

/-! Bytes. -/
def cB (bs : List UInt8) : List Value := bs.map fun b => Value.int .u8 (b.toNat : Int)
theorem cB_len (bs : List UInt8) : (cB bs).length = bs.length := by simp [cB]
theorem cB_one (bs : List UInt8) : ∀ u ∈ cB bs, u.oneCell' = true := by
  intro u hu
  obtain ⟨b, _, rfl⟩ := List.mem_map.1 hu
  rfl
theorem cB_app (bs cs : List UInt8) : cB (bs ++ cs) = cB bs ++ cB cs := by simp [cB]
theorem cB_get {bs : List UInt8} {i : Nat} {b : UInt8} (h : bs[i]? = some b) : (cB bs)[i]? = some (.int .u8 (b.toNat : Int)) := by simp [cB, h]
theorem info_u8 : (Tryz.prog.info? 5).map (fun i => (i.zero, i.size, i.bytes)) = some (some (.int .u8 0), 1, 1) := by kernel_rfl
abbrev OwB (w : World) (B : Nat) (v : Value) (bs : List UInt8) : Prop := OwX w B v (cB bs)
/-- A string's bytes in a new row. -/
theorem OwB.conv {w : World} {B : Nat} (hB : B ≤ w.heap.size) (s : ByteArray) (hc : grownCap w s.size 0 5 ≤ maxLen) :
    OwB (Lib.bytesWorld w 5 s) B (.slice (some ⟨w.heap.size, 0, none⟩) s.size (grownCap w s.size 0 5)) s.data.toList ∧ Bl w (Lib.bytesWorld w 5 s) := by
  have hge := grownCap_ge w s.size 0 5
  have hcs : (Lib.bytesCells w 5 s).size = grownCap w s.size 0 5 := by
    simp only [Lib.bytesCells, Array.size_append, Array.size_map, Array.size_replicate]
    have : s.data.size = s.size := rfl
    omega
  have hlen : (cB s.data.toList).length = s.size := by rw [cB_len]; exact (Lib.size_eq s).symm
  refine ⟨⟨cB_one _, .inr ⟨w.heap.size, grownCap w s.size 0 5, by rw [hlen], hB, by rw [hlen]; exact hge, hc, by rw [Lib.bytesWorld_size]; omega, fun i b hi => ?_, fun j hj => ?_⟩⟩, ?_⟩
  · have hl := (List.getElem?_eq_some_iff.1 hi).1
    rw [Lib.bytesWorld_cell w _ s i (by omega), ← hi]
    simp only [cB, List.getElem?_map, List.getD]
    rw [List.getElem?_eq_getElem (by rw [cB_len] at hl; exact hl)]; rfl
  · have hnew := Lib.bytesWorld_at_new w 5 s
    refine ⟨?_, ?_⟩
    · simp [World.cell?, hnew, hcs, hj]
    · simp [World.frozen?, hnew, hcs]
      omega
  · exact ⟨rfl, rfl, rfl, by rw [Lib.bytesWorld_size]; omega, fun k hk => Lib.bytesWorld_at_old w _ s k hk⟩
theorem fold_push : ∀ (bs : List UInt8) (s : ByteArray), (bs.map fun b => ((b.toNat : Nat) : Int)).foldl (fun r n => r.push (UInt8.ofNat n.toNat)) s = ⟨s.data ++ bs.toArray⟩
  | [], s => by simp
  | b :: bs, s => by
    rw [List.map_cons, List.foldl_cons, fold_push bs]
    simp [ByteArray.push]
/-- string(x), x a row of bytes. -/
theorem run_string_b {w : World} {B g n c : Nat} {bs : List UInt8} (h : OwB w B (.slice (some ⟨g, 0, none⟩) n c) bs) : (convert 22 9 (.slice (some ⟨g, 0, none⟩) n c)).run Tryz.prog w = .ok (.string ⟨bs.toArray⟩) w := by
  have hn : n = bs.length := by
    obtain ⟨a, c', e, _⟩ := h.form
    injection e with _ e _; rw [e, cB_len]
  subst hn
  have hld : (loadCells ⟨g, 0, none⟩ bs.length).run Tryz.prog w = .ok ((bs.map fun b => ((b.toNat : Nat) : Int)).map (Value.int .u8)).toArray w := by
    have := run_loadCells_list (P := Tryz.prog) w ⟨g, 0, none⟩ (cB bs) (fun j v hv => by rw [add_litB, Nat.zero_add]; exact h.cell hv)
    rw [cB_len] at this
    rw [this]
    simp [cB]
  rw [run_convert_bytes_string w 22 9 5 _ _ _ Tryz.underlying22 Tryz.underlying5 Tryz.underlying9, run_bytesToString w _ _ _ _ hld, fold_push]
  simp

theorem str_app (a b : List UInt8) : (⟨a.toArray⟩ : ByteArray) ++ ⟨b.toArray⟩ = ⟨(a ++ b).toArray⟩ := by
  apply ByteArray.ext
  rw [ByteArray.data_append]
  simp
theorem str_get (a : ByteArray) : a = ⟨a.data.toList.toArray⟩ := by simp

/-! Strings. -/
def cS (l : List (List UInt8)) : List Value := l.map fun b => Value.string ⟨b.toArray⟩
theorem cS_len (l : List (List UInt8)) : (cS l).length = l.length := by simp [cS]
theorem cS_one (l : List (List UInt8)) : ∀ u ∈ cS l, u.oneCell' = true := by
  intro u hu
  obtain ⟨b, _, rfl⟩ := List.mem_map.1 hu
  rfl
theorem cS_app (l m : List (List UInt8)) : cS (l ++ m) = cS l ++ cS m := by simp [cS]
theorem cS_get {l : List (List UInt8)} {i : Nat} {b : List UInt8} (h : l[i]? = some b) : (cS l)[i]? = some (.string ⟨b.toArray⟩) := by simp [cS, h]
theorem info_str : (Tryz.prog.info? 9).map (fun i => (i.zero, i.size, i.bytes)) = some (some (.string ByteArray.empty), 1, 16) := by kernel_rfl
abbrev OwS (w : World) (B : Nat) (v : Value) (l : List (List UInt8)) : Prop := OwX w B v (cS l)

/-! One element more. -/
theorem wpList_append_b1 {w0 w : World} {ops : Array Oper} {rest : List Oper} {o : Oper} {a : Act} {Q : Exit → Act → World → Prop} (hgd : o.guard = none) (s x : Operand)
    (ho : o.op = .call { callee := .builtin .append, args := #[s, x], argTypes := #[22, 22] })
    (v : Value) (acc : List UInt8) (hs : a.eval s = v) (hown : OwB w w0.heap.size v acc) (y : UInt8) (m : Nat) (hx : a.eval x = .slice (some ⟨m, 0, none⟩) 1 1) (hm : w.cell? ⟨m, 0, none⟩ = some (.int .u8 (y.toNat : Int)))
    (hl : acc.length ≤ 100000000) (hB : Bl w0 w)
    (h : ∀ (acc' : List UInt8) (g c : Nat) (w' : World), Hid (acc' = acc ++ [y]) → Hid (OwB w' w0.heap.size (.slice (some ⟨g, 0, none⟩) acc'.length c) acc') → w.grownBy w' v.ownBlock → Bl w0 w' → Hid (some g = v.ownBlock ∨ w.heap.size ≤ g) → wpList Tryz.prog ops Q rest (a.put o.dst (.slice (some ⟨g, 0, none⟩) acc'.length c)) w') :
    wpList Tryz.prog ops Q (o :: rest) a w := by
  skip
  refine wpList_append_x hgd Tryz.underlying22 info_u8 rfl (by decide) s x ho w0.heap.size v (cB acc) hs hown m 1 [(.int .u8 (y.toNat : Int))] hx (by intro u hu; simp at hu; subst hu; rfl) (by intro i u hi; match i, hi with | 0, hi => simp at hi; subst hi; exact hm) (by rw [cB_len]; simp; omega) hB.size ?_
  intro v' w' h1 h2 h3
  obtain ⟨g, c, rfl, _⟩ := h1.form1 (by simp)
  have e : cB acc ++ [(.int .u8 (y.toNat : Int))] = cB (acc ++ [y]) := by rw [cB_app]; rfl
  rw [e] at h1 h3 ⊢
  rw [cB_len] at h1 h3 ⊢
  exact h _ g c w' (Lib.hid rfl) (Lib.hid h1) h2 (bl_grownX hB h2 (fun k hk => (hown.lt k hk).1)) (Lib.hid (by
    rcases h3 with q | q
    · exact .inl q
    · exact .inr (q g rfl)))
theorem step_append_b1 {w0 w : World} {ops : Array Oper} {o : Oper} {a : Act} {K : Act → World → Prop} {Q : Exit → Act → World → Prop} {E : Prop} (hgd : o.guard = none) (s x : Operand)
    (ho : o.op = .call { callee := .builtin .append, args := #[s, x], argTypes := #[22, 22] })
    (v : Value) (acc : List UInt8) (hs : a.eval s = v) (hown : OwB w w0.heap.size v acc) (y : UInt8) (m : Nat) (hx : a.eval x = .slice (some ⟨m, 0, none⟩) 1 1) (hm : w.cell? ⟨m, 0, none⟩ = some (.int .u8 (y.toNat : Int)))
    (hl : acc.length ≤ 100000000) (hB : Bl w0 w)
    (h : ∀ (acc' : List UInt8) (g c : Nat) (w' : World), Hid (acc' = acc ++ [y]) → Hid (OwB w' w0.heap.size (.slice (some ⟨g, 0, none⟩) acc'.length c) acc') → w.grownBy w' v.ownBlock → Bl w0 w' → Hid (some g = v.ownBlock ∨ w.heap.size ≤ g) → K (a.put o.dst (.slice (some ⟨g, 0, none⟩) acc'.length c)) w') :
    if Region.wanted o (yielded ops a.tmps) = true then Oper.wp Tryz.prog o a w K Q else E := by
  skip
  refine step_append_x hgd Tryz.underlying22 info_u8 rfl (by decide) s x ho w0.heap.size v (cB acc) hs hown m 1 [(.int .u8 (y.toNat : Int))] hx (by intro u hu; simp at hu; subst hu; rfl) (by intro i u hi; match i, hi with | 0, hi => simp at hi; subst hi; exact hm) (by rw [cB_len]; simp; omega) hB.size ?_
  intro v' w' h1 h2 h3
  obtain ⟨g, c, rfl, _⟩ := h1.form1 (by simp)
  have e : cB acc ++ [(.int .u8 (y.toNat : Int))] = cB (acc ++ [y]) := by rw [cB_app]; rfl
  rw [e] at h1 h3 ⊢
  rw [cB_len] at h1 h3 ⊢
  exact h _ g c w' (Lib.hid rfl) (Lib.hid h1) h2 (bl_grownX hB h2 (fun k hk => (hown.lt k hk).1)) (Lib.hid (by
    rcases h3 with q | q
    · exact .inl q
    · exact .inr (q g rfl)))
theorem wpList_append_s1 {w0 w : World} {ops : Array Oper} {rest : List Oper} {o : Oper} {a : Act} {Q : Exit → Act → World → Prop} (hgd : o.guard = none) (s x : Operand)
    (ho : o.op = .call { callee := .builtin .append, args := #[s, x], argTypes := #[80, 80] })
    (v : Value) (acc : List (List UInt8)) (hs : a.eval s = v) (hown : OwS w w0.heap.size v acc) (y : List UInt8) (m : Nat) (hx : a.eval x = .slice (some ⟨m, 0, none⟩) 1 1) (hm : w.cell? ⟨m, 0, none⟩ = some (.string ⟨y.toArray⟩))
    (hl : acc.length ≤ 100000000) (hB : Bl w0 w)
    (h : ∀ (acc' : List (List UInt8)) (g c : Nat) (w' : World), Hid (acc' = acc ++ [y]) → Hid (OwS w' w0.heap.size (.slice (some ⟨g, 0, none⟩) acc'.length c) acc') → w.grownBy w' v.ownBlock → Bl w0 w' → Hid (some g = v.ownBlock ∨ w.heap.size ≤ g) → wpList Tryz.prog ops Q rest (a.put o.dst (.slice (some ⟨g, 0, none⟩) acc'.length c)) w') :
    wpList Tryz.prog ops Q (o :: rest) a w := by
  skip
  refine wpList_append_x hgd Tryz.underlying80 info_str rfl (by decide) s x ho w0.heap.size v (cS acc) hs hown m 1 [(.string ⟨y.toArray⟩)] hx (by intro u hu; simp at hu; subst hu; rfl) (by intro i u hi; match i, hi with | 0, hi => simp at hi; subst hi; exact hm) (by rw [cS_len]; simp; omega) hB.size ?_
  intro v' w' h1 h2 h3
  obtain ⟨g, c, rfl, _⟩ := h1.form1 (by simp)
  have e : cS acc ++ [(.string ⟨y.toArray⟩)] = cS (acc ++ [y]) := by rw [cS_app]; rfl
  rw [e] at h1 h3 ⊢
  rw [cS_len] at h1 h3 ⊢
  exact h _ g c w' (Lib.hid rfl) (Lib.hid h1) h2 (bl_grownX hB h2 (fun k hk => (hown.lt k hk).1)) (Lib.hid (by
    rcases h3 with q | q
    · exact .inl q
    · exact .inr (q g rfl)))
theorem step_append_s1 {w0 w : World} {ops : Array Oper} {o : Oper} {a : Act} {K : Act → World → Prop} {Q : Exit → Act → World → Prop} {E : Prop} (hgd : o.guard = none) (s x : Operand)
    (ho : o.op = .call { callee := .builtin .append, args := #[s, x], argTypes := #[80, 80] })
    (v : Value) (acc : List (List UInt8)) (hs : a.eval s = v) (hown : OwS w w0.heap.size v acc) (y : List UInt8) (m : Nat) (hx : a.eval x = .slice (some ⟨m, 0, none⟩) 1 1) (hm : w.cell? ⟨m, 0, none⟩ = some (.string ⟨y.toArray⟩))
    (hl : acc.length ≤ 100000000) (hB : Bl w0 w)
    (h : ∀ (acc' : List (List UInt8)) (g c : Nat) (w' : World), Hid (acc' = acc ++ [y]) → Hid (OwS w' w0.heap.size (.slice (some ⟨g, 0, none⟩) acc'.length c) acc') → w.grownBy w' v.ownBlock → Bl w0 w' → Hid (some g = v.ownBlock ∨ w.heap.size ≤ g) → K (a.put o.dst (.slice (some ⟨g, 0, none⟩) acc'.length c)) w') :
    if Region.wanted o (yielded ops a.tmps) = true then Oper.wp Tryz.prog o a w K Q else E := by
  skip
  refine step_append_x hgd Tryz.underlying80 info_str rfl (by decide) s x ho w0.heap.size v (cS acc) hs hown m 1 [(.string ⟨y.toArray⟩)] hx (by intro u hu; simp at hu; subst hu; rfl) (by intro i u hi; match i, hi with | 0, hi => simp at hi; subst hi; exact hm) (by rw [cS_len]; simp; omega) hB.size ?_
  intro v' w' h1 h2 h3
  obtain ⟨g, c, rfl, _⟩ := h1.form1 (by simp)
  have e : cS acc ++ [(.string ⟨y.toArray⟩)] = cS (acc ++ [y]) := by rw [cS_app]; rfl
  rw [e] at h1 h3 ⊢
  rw [cS_len] at h1 h3 ⊢
  exact h _ g c w' (Lib.hid rfl) (Lib.hid h1) h2 (bl_grownX hB h2 (fun k hk => (hown.lt k hk).1)) (Lib.hid (by
    rcases h3 with q | q
    · exact .inl q
    · exact .inr (q g rfl)))

end Go.Proofs.YtndblondleclpaaGreatDoor

/- The reference's decimal text. Each theorem names its conditions. -/
namespace Go.Proofs.YtndblondleclpaaGreatDoor
open Go.RowKit
set_option linter.unusedVariables false
set_option linter.unusedSimpArgs false

theorem decU_len {u : Nat} (h : u ≤ 9223372036854775808) : (decU u).length ≤ 20 := by
  unfold decU
  split
  · simp
  · rw [Lib.decDigits_length]; exact Lib.nDigits_le20 u (by omega)
theorem tmod_ab (k : Int) : (if k.tmod 10 < 0 then -(k.tmod 10) else k.tmod 10) = ((k.natAbs % 10 : Nat) : Int) := by
  rw [← (dec_abs k).2]; split <;> omega
theorem tmod_bdD (k : Int) : -10 < k.tmod 10 ∧ k.tmod 10 < 10 := by
  have := (dec_abs k).2
  have h := Nat.mod_lt k.natAbs (show 10 > 0 by decide)
  omega

set_option maxRecDepth 100000 in
set_option maxHeartbeats 3200000 in
theorem ldec_any (n : Int) (hn : R64 n) (w : World) :
    Calls Tryz.prog 120 #[.int .i64 n] w fun e w' => e = .returned (.string ⟨(Lib.itoa n).toArray⟩) ∧ Bl w w' := by
  unfold R64 at hn
  go_enter Tryz.func120, Tryz.ntmps120
  go_wp2
  go_loopw [3, 4, 5] (fun s3 s4 _ wr => ∃ (bs : List UInt8) (k : Int) (g c : Nat), s3 = .slice (some ⟨g, 0, none⟩) bs.length c ∧ s4 = .int .i64 k ∧ -9223372036854775808 ≤ k ∧ k ≤ 9223372036854775807 ∧ OwB wr w.heap.size (.slice (some ⟨g, 0, none⟩) bs.length c) bs ∧ Hid (decU k.natAbs ++ bs = decU n.natAbs) ∧ Bl w wr) (fun _ s4 _ _ => (intOf s4).natAbs)
  case atStart => exact ⟨[], n, w.heap.size, 0, rfl, rfl, hn.1, hn.2, OwX.made (Nat.le_refl _) _, Lib.hid (by simp), bl_alloc (bl_refl _) _⟩
  case round =>
    rcases hrel with ⟨bs, k, g, c, rfl, rfl, hk0, hk1, ho, hx, Br⟩
    have HO := Lib.hid ho
    clear ho
    by_cases hk : k = 0
    · subst hk
      have HE := Lib.hid (show bs = decU n.natAbs by have := hx.out; simpa [decU] using this)
      have HR := Lib.hid (ref_dec n)
      clear hx
      have HL := Lib.hid (show n = 0 ↔ bs.length = 0 by
        rw [HE.out]
        by_cases h0 : n = 0
        · subst h0; simp [decU]
        · have := dec_pos n.natAbs
          simp only [h0, false_iff]
          rw [decU_pos (by omega)]; omega)
      have hst := run_string_b HO.out
      by_cases h0 : n = 0
      · have hb0 := HL.out.1 h0
        have HX := Lib.hid (show (⟨#[48]⟩ : ByteArray) = ⟨(Lib.itoa n).toArray⟩ by rw [← HR.out, if_pos h0])
        go_wp2
        go_ret
        exact ⟨by rw [← HX.out]; rfl, Br⟩
      · have hb0 : ¬ bs.length = 0 := fun q => h0 (HL.out.2 q)
        by_cases hn0 : n < 0
        · have HX := Lib.hid (show (⟨#[45]⟩ : ByteArray) ++ ⟨bs.toArray⟩ = ⟨(Lib.itoa n).toArray⟩ by rw [← HR.out, if_neg h0, if_pos hn0, ← HE.out]; exact str_app [45] bs)
          have hbl : bs.length ≤ 20 := by rw [HE.out]; exact decU_len (by omega)
          go_wp2
          go_ret
          exact ⟨by rw [← HX.out]; rfl, Br⟩
        · have HX := Lib.hid (show (⟨bs.toArray⟩ : ByteArray) = ⟨(Lib.itoa n).toArray⟩ by rw [← HR.out, if_neg h0, if_neg hn0, ← HE.out])
          go_wp2
          go_ret
          exact ⟨by rw [← HX.out]; rfl, Br⟩
    · have hb := tmod_bdD k
      have HA := Lib.hid (tmod_ab k)
      have HX := Lib.hid (dec_round (u := k.natAbs) (by omega) bs)
      have HD := Lib.hid (dec_abs k)
      have HLn := Lib.hid (show bs.length ≤ 20 by
        have := congrArg List.length hx.out
        rw [List.length_append] at this
        have := decU_len (u := n.natAbs) (by omega)
        omega)
      have hM : k.natAbs % 10 < 10 := Nat.mod_lt _ (by decide)
      by_cases hd : k.tmod 10 < 0
      · have HU := Lib.hid (show (48 + -(k.tmod 10) : Int) = ((UInt8.ofNat (48 + k.natAbs % 10)).toNat : Int) by
          have := HA.out; rw [if_pos hd] at this; rw [digit_byte hM]; omega)
        go_wp2_with (at_builtin; refine wpList_append_x rfl Tryz.underlying22 info_u8 rfl (by decide) _ _ rfl w.heap.size _ [.int .u8 (48 + -(k.tmod 10))] (by rfl) (OwX.lit Br.size _ rfl _) g c (cB bs) (by rw [cB_len]; rfl) (cB_one bs) (fun i u hi => (HO.out.alloc _).cell hi) (by have := HLn.out; rw [cB_len]; simp; omega) (Nat.le_trans Br.size (by simp)) ?_; intro v' wn ho hg hor; obtain ⟨a1, c1, rfl, _⟩ := ho.form1 (by simp))
        have HO2 := Lib.hid ho
        have BN := bl_grownX (bl_alloc Br _) hg (fun k hk => by simp [Value.ownBlock] at hk; have := Br.size; omega)
        have HLL := Lib.hid (cB_len bs)
        clear ho hg hor
        go_wp2
        go_roundw
        case rel =>
          refine ⟨UInt8.ofNat (48 + k.natAbs % 10) :: bs, k.tdiv 10, a1, c1, by rw [HLL.out]; rfl, rfl, by have := HD.out.1; omega, by have := HD.out.1; omega, ?_, Lib.hid ?_, BN⟩
          · have := HO2.out
            rw [HU.out] at this
            simp only [List.length_append, HLL.out, List.length_singleton] at this
            rw [show (UInt8.ofNat (48 + k.natAbs % 10) :: bs).length = 1 + bs.length by rw [List.length_cons, Nat.add_comm]]
            exact this
          · rw [HD.out.1, ← HX.out]; exact hx.out
        case measure =>
          have := HD.out.1
          simp only [intOf]
          omega
      · have HU := Lib.hid (show (48 + k.tmod 10 : Int) = ((UInt8.ofNat (48 + k.natAbs % 10)).toNat : Int) by
          have := HA.out; rw [if_neg hd] at this; rw [digit_byte hM]; omega)
        go_wp2_with (at_builtin; refine wpList_append_x rfl Tryz.underlying22 info_u8 rfl (by decide) _ _ rfl w.heap.size _ [.int .u8 (48 + k.tmod 10)] (by rfl) (OwX.lit Br.size _ rfl _) g c (cB bs) (by rw [cB_len]; rfl) (cB_one bs) (fun i u hi => (HO.out.alloc _).cell hi) (by have := HLn.out; rw [cB_len]; simp; omega) (Nat.le_trans Br.size (by simp)) ?_; intro v' wn ho hg hor; obtain ⟨a1, c1, rfl, _⟩ := ho.form1 (by simp))
        have HO2 := Lib.hid ho
        have BN := bl_grownX (bl_alloc Br _) hg (fun k hk => by simp [Value.ownBlock] at hk; have := Br.size; omega)
        have HLL := Lib.hid (cB_len bs)
        clear ho hg hor
        go_wp2
        go_roundw
        case rel =>
          refine ⟨UInt8.ofNat (48 + k.natAbs % 10) :: bs, k.tdiv 10, a1, c1, by rw [HLL.out]; rfl, rfl, by have := HD.out.1; omega, by have := HD.out.1; omega, ?_, Lib.hid ?_, BN⟩
          · have := HO2.out
            rw [HU.out] at this
            simp only [List.length_append, HLL.out, List.length_singleton] at this
            rw [show (UInt8.ofNat (48 + k.natAbs % 10) :: bs).length = 1 + bs.length by rw [List.length_cons, Nat.add_comm]]
            exact this
          · rw [HD.out.1, ← HX.out]; exact hx.out
        case measure =>
          have := HD.out.1
          simp only [intOf]
          omega

end Go.Proofs.YtndblondleclpaaGreatDoor

/- slices.ContainsFunc with the two closures of the program. Each theorem names its conditions. -/
namespace Go.Proofs.YtndblondleclpaaGreatDoor
open Go.RowKit
set_option linter.unusedVariables false
set_option linter.unusedSimpArgs false

theorem inB_eq {n lo hi : Int} {b : Bool} (h : inB n lo hi = b) (w : World) : Calls Tryz.prog 46 #[.int .i64 n, .int .i64 lo, .int .i64 hi] w fun e w' => e = .returned (.bool b) ∧ w = w' := h ▸ within_any n lo hi w
theorem any_take {xs : List Int} {pr : Int → Bool} {k : Nat} {x : Int} (h : (xs.take k).any pr = false) (hx : xs[k]? = some x) (hp : pr x = false) : (xs.take (k + 1)).any pr = false := by
  rw [List.take_add_one, hx, List.any_append, h]
  simp [hp]
theorem any_at {xs : List Int} {pr : Int → Bool} {k : Nat} {x : Int} (hx : xs[k]? = some x) (hp : pr x = true) : xs.any pr = true := by
  rw [List.any_eq_true]
  exact ⟨x, List.mem_of_getElem? hx, hp⟩
def IdxPost (b : Bool) (w : World) (e : Ending) (w' : World) : Prop := ∃ i : Int, e = .returned (.int .i64 i) ∧ decide (0 ≤ i) = b ∧ Bl w w'
theorem Sl.cellAt' {w w' : World} {a : Option Addr} {n c : Nat} {xs : List Int} (h : Sl w (.slice a n c) xs) (hb : Bl w w') {k : Nat} (hk : k < xs.length) :
    ∃ b o, a = some ⟨b, o, none⟩ ∧ ∃ x, xs[k]? = some x ∧ w'.cell? ⟨b, o + k, none⟩ = some (.int .i64 x) ∧ R64 x := by
  obtain ⟨a', cap, e, h1, h2, h3, h4, h5⟩ := h
  simp only [Value.slice.injEq] at e
  obtain ⟨rfl, rfl, rfl⟩ := e
  rcases h5 with h5 | ⟨b, off, rfl, hc⟩
  · rw [h5] at hk; simp at hk
  · have hx : xs[k]? = some xs[k] := List.getElem?_eq_getElem hk
    exact ⟨b, off, rfl, _, hx, (hb.cell (p := ⟨b, off + k, none⟩) (cell_lt (hc k _ hx))).trans (hc k _ hx), h3 _ (List.getElem_mem hk)⟩
theorem Sl.form' {w : World} {v : Value} {xs : List Int} (h : Sl w v xs) : ∃ a c, v = .slice a xs.length c ∧ xs.length ≤ c := by
  obtain ⟨a, cap, rfl, h1, _⟩ := h
  exact ⟨a, cap, rfl, h1⟩

set_option maxHeartbeats 400000 in
theorem cloT_eq {x : Int} {b : Bool} (h : (!inB x 1 1000000000) = b) (w : World) : Calls Tryz.prog 131 #[.int .i64 x] w fun e w' => e = .returned (.bool b) ∧ w = w' := by
  have H := Lib.hid (show inB x 1 1000000000 = !b by rw [← h]; simp)
  clear h
  go_enter Tryz.func131, Tryz.ntmps131
  go_wp2_with fail
  refine (inB_eq H.out _).mono ?_
  rintro e w' ⟨rfl, rfl⟩
  go_wp2
  go_ret
  exact ⟨ret_bool (by simp), rfl⟩

set_option maxRecDepth 100000 in
set_option maxHeartbeats 1600000 in
theorem idxT_any (va : Value) (xs : List Int) (w : World) (ha : Sl w va xs) (hl : xs.length ≤ 1048576) :
    Calls Tryz.prog 155 #[va, .func (.func 131) #[] #[]] w (IdxPost (xs.any fun x => (!inB x 1 1000000000)) w) := by
  obtain ⟨av, cv, rfl, hcv⟩ := ha.form'
  obtain ⟨pr, hpr⟩ : ∃ pr : Int → Bool, pr = fun x => (!inB x 1 1000000000) := ⟨_, rfl⟩
  have HPR := Lib.hid (show ∀ x, pr x = (!inB x 1 1000000000) from fun x => by rw [hpr])
  rw [← hpr]
  clear hpr
  have HA := Lib.hid ha
  clear ha
  go_enter Tryz.func155, Tryz.ntmps155
  go_wp2
  go_loopw [8, 5] (fun s8 s5 wr => ∃ k : Nat, s8 = .int .i64 k ∧ k ≤ xs.length ∧ Hid ((xs.take k).any pr = false) ∧ Bl w wr) (fun s8 _ _ => xs.length - (intOf s8).toNat)
  case atStart => exact ⟨0, rfl, Nat.zero_le _, Lib.hid (by simp), bl_refl _⟩
  case round =>
    rcases hrel with ⟨k, rfl, hkl, hG, Br⟩
    rcases Nat.lt_or_ge k xs.length with hk | hk
    · obtain ⟨bb, oo, rfl, x, hx, cx, rx⟩ := HA.out.cellAt' Br hk
      have HX := Lib.hid hx
      clear hx
      cases hp : pr x with
      | true =>
        have HP := Lib.hid hp
        clear hp
        go_wp2_with fail
        refine (cloT_eq (b := true) (by rw [← HPR.out x]; exact HP.out) _ ).mono ?_
        rintro e w9 ⟨rfl, rfl⟩
        go_wp2
        go_ret
        exact ⟨k, rfl, by rw [any_at HX.out HP.out]; simp, Br⟩
      | false =>
        have HP := Lib.hid hp
        clear hp
        have HN := Lib.hid (any_take hG.out HX.out HP.out)
        go_wp2_with fail
        refine (cloT_eq (b := false) (by rw [← HPR.out x]; exact HP.out) _ ).mono ?_
        rintro e w9 ⟨rfl, rfl⟩
        go_wp2
        go_roundw
        case rel => exact ⟨k + 1, by go_num, by omega, HN, Br⟩
        case measure => clear HN; simp only [intOf, Int.toNat_natCast]; omega
    · have HN := Lib.hid (show xs.any pr = false by have := hG.out; rwa [List.take_of_length_le hk] at this)
      go_wp2
      go_ret
      exact ⟨-1, rfl, by rw [HN.out]; simp, Br⟩

set_option maxHeartbeats 800000 in
theorem contT_any (va : Value) (xs : List Int) (w : World) (ha : Sl w va xs) (hl : xs.length ≤ 1048576) :
    Calls Tryz.prog 128 #[va, .func (.func 131) #[] #[]] w fun e w' => e = .returned (.bool (xs.any fun x => (!inB x 1 1000000000))) ∧ Bl w w' := by
  go_enter Tryz.func128, Tryz.ntmps128
  go_wp2_with fail
  refine (idxT_any va xs w ha hl ).mono ?_
  rintro e w1 ⟨i, rfl, hi, hb1⟩
  have HI := Lib.hid hi
  clear hi
  go_wp2
  go_ret
  exact ⟨ret_bool HI.out, hb1⟩

set_option maxHeartbeats 400000 in
theorem cloD_eq {x : Int} {v : Bool} {b : Nat} {base : Int} (h : (!inB x 0 (base - 1)) = v) (w : World) (hb : Bx w b #[.int .i64 base]) (hbase : -9223372036854775807 ≤ base ∧ base ≤ 9223372036854775807) : Calls Tryz.prog 129 #[.int .i64 x, .pointer (some ⟨b, 0, none⟩)] w fun e w' => e = .returned (.bool v) ∧ w = w' := by
  have H := Lib.hid (show inB x 0 (base - 1) = !v by rw [← h]; simp)
  clear h
  obtain ⟨cc, fc, zc⟩ := hb.out
  go_enter Tryz.func129, Tryz.ntmps129
  go_wp2_with fail
  refine (inB_eq H.out _).mono ?_
  rintro e w' ⟨rfl, rfl⟩
  go_wp2
  go_ret
  exact ⟨ret_bool (by simp), rfl⟩

set_option maxRecDepth 100000 in
set_option maxHeartbeats 1600000 in
theorem idxD_any (va : Value) (xs : List Int) (b : Nat) (base : Int) (w : World) (ha : Sl w va xs) (hl : xs.length ≤ 1048576) (hb : Bx w b #[.int .i64 base]) (hbase : -9223372036854775807 ≤ base ∧ base ≤ 9223372036854775807) :
    Calls Tryz.prog 155 #[va, .func (.func 129) #[] #[.pointer (some ⟨b, 0, none⟩)]] w (IdxPost (xs.any fun x => (!inB x 0 (base - 1))) w) := by
  obtain ⟨av, cv, rfl, hcv⟩ := ha.form'
  obtain ⟨pr, hpr⟩ : ∃ pr : Int → Bool, pr = fun x => (!inB x 0 (base - 1)) := ⟨_, rfl⟩
  have HPR := Lib.hid (show ∀ x, pr x = (!inB x 0 (base - 1)) from fun x => by rw [hpr])
  rw [← hpr]
  clear hpr
  have HA := Lib.hid ha
  clear ha
  go_enter Tryz.func155, Tryz.ntmps155
  go_wp2
  go_loopw [8, 5] (fun s8 s5 wr => ∃ k : Nat, s8 = .int .i64 k ∧ k ≤ xs.length ∧ Hid ((xs.take k).any pr = false) ∧ Bl w wr) (fun s8 _ _ => xs.length - (intOf s8).toNat)
  case atStart => exact ⟨0, rfl, Nat.zero_le _, Lib.hid (by simp), bl_refl _⟩
  case round =>
    rcases hrel with ⟨k, rfl, hkl, hG, Br⟩
    rcases Nat.lt_or_ge k xs.length with hk | hk
    · obtain ⟨bb, oo, rfl, x, hx, cx, rx⟩ := HA.out.cellAt' Br hk
      have HX := Lib.hid hx
      clear hx
      cases hp : pr x with
      | true =>
        have HP := Lib.hid hp
        clear hp
        go_wp2_with fail
        refine (cloD_eq (v := true) (by rw [← HPR.out x]; exact HP.out) _ (hb.below Br) hbase).mono ?_
        rintro e w9 ⟨rfl, rfl⟩
        go_wp2
        go_ret
        exact ⟨k, rfl, by rw [any_at HX.out HP.out]; simp, Br⟩
      | false =>
        have HP := Lib.hid hp
        clear hp
        have HN := Lib.hid (any_take hG.out HX.out HP.out)
        go_wp2_with fail
        refine (cloD_eq (v := false) (by rw [← HPR.out x]; exact HP.out) _ (hb.below Br) hbase).mono ?_
        rintro e w9 ⟨rfl, rfl⟩
        go_wp2
        go_roundw
        case rel => exact ⟨k + 1, by go_num, by omega, HN, Br⟩
        case measure => clear HN; simp only [intOf, Int.toNat_natCast]; omega
    · have HN := Lib.hid (show xs.any pr = false by have := hG.out; rwa [List.take_of_length_le hk] at this)
      go_wp2
      go_ret
      exact ⟨-1, rfl, by rw [HN.out]; simp, Br⟩

set_option maxHeartbeats 800000 in
theorem contD_any (va : Value) (xs : List Int) (b : Nat) (base : Int) (w : World) (ha : Sl w va xs) (hl : xs.length ≤ 1048576) (hb : Bx w b #[.int .i64 base]) (hbase : -9223372036854775807 ≤ base ∧ base ≤ 9223372036854775807) :
    Calls Tryz.prog 128 #[va, .func (.func 129) #[] #[.pointer (some ⟨b, 0, none⟩)]] w fun e w' => e = .returned (.bool (xs.any fun x => (!inB x 0 (base - 1)))) ∧ Bl w w' := by
  go_enter Tryz.func128, Tryz.ntmps128
  go_wp2_with fail
  refine (idxD_any va xs b base w ha hl hb hbase).mono ?_
  rintro e w1 ⟨i, rfl, hi, hb1⟩
  have HI := Lib.hid hi
  clear hi
  go_wp2
  go_ret
  exact ⟨ret_bool HI.out, hb1⟩

end Go.Proofs.YtndblondleclpaaGreatDoor

/- Digits of a base: what the program and the reference make of them. Each theorem names its conditions. -/
namespace Go.Proofs.YtndblondleclpaaGreatDoor
open Go.RowKit
set_option linter.unusedVariables false
set_option linter.unusedSimpArgs false

theorem in_eq' {n lo hi : Int} {b : Bool} (h : inB n lo hi = b) (w : World) : Calls Tryz.prog 49 #[.int .i64 n, .int .i64 lo, .int .i64 hi] w fun e w' => e = .returned (.bool b) ∧ w = w' := h ▸ in_any n lo hi w
set_option maxHeartbeats 400000 in
theorem ibase_eq {n : Int} {b : Bool} (h : inB n 2 36 = b) (w : World) : Calls Tryz.prog 79 #[.int .i64 n] w fun e w' => e = .returned (.bool b) ∧ w = w' := by
  have H := Lib.hid h
  clear h
  go_enter Tryz.func79, Tryz.ntmps79
  go_wp2_with fail
  refine (inB_eq H.out _).mono ?_
  rintro e w' ⟨rfl, rfl⟩
  go_wp2
  go_ret
  exact ⟨rfl, rfl⟩
set_option maxHeartbeats 400000 in
theorem sbase_eq {n : Int} {b : Bool} (h : inB n 2 36 = b) (w : World) : Calls Tryz.prog 83 #[.int .i64 n] w fun e w' => e = .returned (.bool b) ∧ w = w' := by
  have H := Lib.hid h
  clear h
  go_enter Tryz.func83, Tryz.ntmps83
  go_wp2_with fail
  refine (in_eq' H.out _).mono ?_
  rintro e w' ⟨rfl, rfl⟩
  go_wp2
  go_ret
  exact ⟨rfl, rfl⟩
/-- Are all numbers digits of a base? -/
def digP (base : Int) (xs : List Int) : Bool := !xs.any fun x => (!inB x 0 (base - 1))
theorem digP_mem {base : Int} {xs : List Int} (h : digP base xs = true) : ∀ x ∈ xs, 0 ≤ x ∧ x ≤ base - 1 := by
  intro x hx
  have h' : (xs.any fun x => (!inB x 0 (base - 1))) = false := by simpa [digP] using h
  have := List.any_eq_false.1 h' x hx
  exact inB_iff.1 (by simpa using this)
set_option maxHeartbeats 400000 in
theorem areD_eq {base : Int} {va : Value} {xs : List Int} {b : Bool} (h : digP base xs = b) (w : World) (hb : 2 ≤ base ∧ base ≤ 36) (ha : Sl w va xs) (hl : xs.length ≤ 1048576) :
    Calls Tryz.prog 86 #[.int .i64 base, va] w fun e w' => e = .returned (.bool b) ∧ Bl w w' := by
  have H := Lib.hid h
  clear h
  go_enter Tryz.func86, Tryz.ntmps86
  go_wp2_with fail
  refine (contD_any va xs w.heap.size base _ (ha.alloc _) hl (Bx.new _ _ _ rfl) (by omega)).mono ?_
  rintro e w1 ⟨rfl, hb1⟩
  go_wp2
  go_ret
  exact ⟨ret_bool H.out, bl_call (bl_alloc (bl_refl _) _) hb1⟩
set_option maxRecDepth 100000 in
set_option maxHeartbeats 1600000 in
theorem sdig_any {base : Int} (va : Value) (xs : List Int) (w : World) (hb : 2 ≤ base ∧ base ≤ 36) (ha : Sl w va xs) (hl : xs.length ≤ 1048576) :
    Calls Tryz.prog 90 #[va, .int .i64 base] w fun e w' => e = .returned (.bool (digP base xs)) ∧ Bl w w' := by
  obtain ⟨av, cv, rfl, hcv⟩ := ha.form'
  have HA := Lib.hid ha
  clear ha
  go_enter Tryz.func90, Tryz.ntmps90
  go_wp2
  go_loopw [5] (fun s5 wr => ∃ k : Nat, s5 = .int .i64 k ∧ k ≤ xs.length ∧ Hid (((xs.take k).any fun x => (!inB x 0 (base - 1))) = false) ∧ Bl w wr) (fun s5 _ => xs.length - (intOf s5).toNat)
  case atStart => exact ⟨0, rfl, Nat.zero_le _, Lib.hid (by simp), bl_refl _⟩
  case round =>
    rcases hrel with ⟨k, rfl, hkl, hG, Br⟩
    rcases Nat.lt_or_ge k xs.length with hk | hk
    · obtain ⟨bb, oo, rfl, x, hx, cx, rx⟩ := HA.out.cellAt' Br hk
      have HX := Lib.hid hx
      clear hx
      cases hp : inB x 0 (base - 1) with
      | false =>
        have HP := Lib.hid hp
        have HN := Lib.hid (any_at (pr := fun x => (!inB x 0 (base - 1))) HX.out (by simp [hp]))
        clear hp
        go_wp2_with fail
        refine (in_eq' HP.out _).mono ?_
        rintro e w9 ⟨rfl, rfl⟩
        go_wp2
        go_ret
        exact ⟨ret_bool (by rw [digP, HN.out]; rfl), Br⟩
      | true =>
        have HP := Lib.hid hp
        have HN := Lib.hid (any_take hG.out HX.out (by simp [hp]))
        clear hp
        go_wp2_with fail
        refine (in_eq' HP.out _).mono ?_
        rintro e w9 ⟨rfl, rfl⟩
        go_wp2
        go_roundw
        case rel => exact ⟨k + 1, by go_num, by omega, HN, Br⟩
        case measure => clear HN; simp only [intOf, Int.toNat_natCast]; omega
    · have HN := Lib.hid (show (xs.any fun x => (!inB x 0 (base - 1))) = false by have := hG.out; rwa [List.take_of_length_le hk] at this)
      go_wp2
      go_ret
      exact ⟨ret_bool (by rw [digP, HN.out]; rfl), Br⟩
theorem sdig_eq {base : Int} {va : Value} {xs : List Int} {b : Bool} (h : digP base xs = b) (w : World) (hb : 2 ≤ base ∧ base ≤ 36) (ha : Sl w va xs) (hl : xs.length ≤ 1048576) :
    Calls Tryz.prog 90 #[va, .int .i64 base] w fun e w' => e = .returned (.bool b) ∧ Bl w w' := h ▸ sdig_any va xs w hb ha hl
/-! Powers and numbers. -/
theorem pow_pos' {b : Int} (hb : 2 ≤ b) (k : Nat) : 1 ≤ b ^ k := by
  induction k with
  | zero => simp
  | succ k ih =>
    rw [Int.pow_succ]
    have := Int.mul_le_mul_of_nonneg_left (show 1 ≤ b by omega) (show 0 ≤ b ^ k by omega)
    omega
theorem pow_le {b : Int} (hb : 2 ≤ b) {j k : Nat} (h : j ≤ k) : b ^ j ≤ b ^ k := by
  obtain ⟨d, rfl⟩ := Nat.exists_eq_add_of_le h
  rw [Int.pow_add]
  have := pow_pos' hb d
  have := pow_pos' hb j
  have := Int.mul_le_mul_of_nonneg_left (show 1 ≤ b ^ d by omega) (show 0 ≤ b ^ j by omega)
  omega
/-- The number with some digits. -/
def numF (b : Int) (xs : List Int) : Int := xs.foldl (fun n x => n * b + x) 0
theorem numF_snoc {b : Int} {xs : List Int} {k : Nat} {x : Int} (h : xs[k]? = some x) : numF b (xs.take (k + 1)) = numF b (xs.take k) * b + x := by
  rw [List.take_add_one, h, numF, List.foldl_append]
  rfl
theorem numF_bd {b : Int} {xs : List Int} (hb : 2 ≤ b) (h : ∀ x ∈ xs, 0 ≤ x ∧ x ≤ b - 1) : ∀ k, k ≤ xs.length → 0 ≤ numF b (xs.take k) ∧ numF b (xs.take k) ≤ b ^ k - 1 := by
  intro k
  induction k with
  | zero => intro _; simp [numF]
  | succ k ih =>
    intro hk
    have hx : xs[k]? = some xs[k] := List.getElem?_eq_getElem (by omega)
    have i := ih (by omega)
    have j := h xs[k] (List.getElem_mem (by omega))
    rw [numF_snoc hx, Int.pow_succ]
    have a := Int.mul_nonneg i.1 (show 0 ≤ b by omega)
    have c := Int.mul_le_mul_of_nonneg_right i.2 (show 0 ≤ b by omega)
    have e : (b ^ k - 1) * b = b ^ k * b - b := by grind
    omega

theorem ret_ib' {a b : Int} {c d : Bool} (h : a = b) (h' : c = d) : Ending.returned (.tuple #[.int .i64 a, .bool c]) = .returned (.tuple #[.int .i64 b, .bool d]) := by rw [h, h']
set_option maxRecDepth 100000 in
set_option maxHeartbeats 1600000 in
theorem power_ok {b : Int} (k : Nat) (w : World) (hb : 2 ≤ b ∧ b ≤ 36) (hk : k ≤ 1048576) (h : b ^ k ≤ 1000000000) :
    Calls Tryz.prog 87 #[.int .i64 b, .int .i64 k] w fun e w' => e = .returned (.tuple #[.int .i64 (b ^ k), .bool true]) ∧ Bl w w' := by
  have HH := Lib.hid h
  clear h
  go_enter Tryz.func87, Tryz.ntmps87
  go_wp2
  go_loopw [6, 8] (fun s6 s8 wr => ∃ (j : Nat) (o : Int), s8 = .int .i64 j ∧ s6 = .int .i64 o ∧ j ≤ k ∧ Hid (o = b ^ j) ∧ 1 ≤ o ∧ o ≤ 1000000000 ∧ Bl w wr) (fun _ s8 _ => k - (intOf s8).toNat)
  case atStart => exact ⟨0, 1, rfl, rfl, Nat.zero_le _, Lib.hid (by simp), by omega, by omega, bl_refl _⟩
  case round =>
    rcases hrel with ⟨j, o, rfl, rfl, hjk, ho, h1, h2, Br⟩
    rcases Nat.lt_or_ge j k with hk | hk
    · have HN := Lib.hid (show o * b = b ^ (j + 1) by rw [ho.out, Int.pow_succ])
      have hle : o * b ≤ 1000000000 := by have := pow_le hb.1 (show j + 1 ≤ k by omega); have := HH.out; rw [HN.out]; omega
      have hge := Int.mul_le_mul_of_nonneg_left (show 1 ≤ b by omega) (show 0 ≤ o by omega)
      go_wp2
      go_roundw
      case rel => exact ⟨j + 1, _, by go_num, rfl, by omega, HN, by omega, by omega, Br⟩
      case measure => clear HN; simp only [intOf, Int.toNat_natCast]; omega
    · obtain rfl : j = k := by omega
      go_wp2
      go_ret2
      exact ⟨ret_ib' ho.out rfl, Br⟩
set_option maxRecDepth 100000 in
set_option maxHeartbeats 1600000 in
theorem power_no {b : Int} (k : Nat) (w : World) (hb : 2 ≤ b ∧ b ≤ 36) (hk : k ≤ 1048576) (h : 1000000000 < b ^ k) :
    Calls Tryz.prog 87 #[.int .i64 b, .int .i64 k] w fun e w' => e = .returned (.tuple #[.int .i64 0, .bool false]) ∧ Bl w w' := by
  have HH := Lib.hid h
  clear h
  go_enter Tryz.func87, Tryz.ntmps87
  go_wp2
  go_loopw [6, 8] (fun s6 s8 wr => ∃ (j : Nat) (o : Int), s8 = .int .i64 j ∧ s6 = .int .i64 o ∧ j ≤ k ∧ Hid (o = b ^ j) ∧ 1 ≤ o ∧ o ≤ 1000000000 ∧ Bl w wr) (fun _ s8 _ => k - (intOf s8).toNat)
  case atStart => exact ⟨0, 1, rfl, rfl, Nat.zero_le _, Lib.hid (by simp), by omega, by omega, bl_refl _⟩
  case round =>
    rcases hrel with ⟨j, o, rfl, rfl, hjk, ho, h1, h2, Br⟩
    have hjk2 : j < k := by
      rcases Nat.lt_or_ge j k with q | q
      · exact q
      · have e : j = k := by omega
        have a := ho.out; have c := HH.out; rw [e] at a; omega
    have HN := Lib.hid (show o * b = b ^ (j + 1) by rw [ho.out, Int.pow_succ])
    have hge := Int.mul_le_mul_of_nonneg_left (show 1 ≤ b by omega) (show 0 ≤ o by omega)
    have hup := Int.mul_le_mul_of_nonneg_left hb.2 (show 0 ≤ o by omega)
    rcases Int.lt_or_le 1000000000 (o * b) with hq | hq
    · go_wp2
      go_ret2
      exact ⟨rfl, Br⟩
    · go_wp2
      go_roundw
      case rel => exact ⟨j + 1, _, by go_num, rfl, by omega, HN, by omega, by omega, Br⟩
      case measure => clear HN; simp only [intOf, Int.toNat_natCast]; omega
set_option maxRecDepth 100000 in
set_option maxHeartbeats 1600000 in
theorem numI_any {b : Int} (va : Value) (xs : List Int) (w : World) (hb : 2 ≤ b ∧ b ≤ 36) (ha : Sl w va xs) (hl : xs.length ≤ 1048576) (hd : ∀ x ∈ xs, 0 ≤ x ∧ x ≤ b - 1) (hp : b ^ xs.length ≤ 1000000000) :
    Calls Tryz.prog 88 #[.int .i64 b, va] w fun e w' => e = .returned (.int .i64 (numF b xs)) ∧ Bl w w' := by
  obtain ⟨av, cv, rfl, hcv⟩ := ha.form'
  have HA := Lib.hid ha
  have HD := Lib.hid hd
  have HP := Lib.hid hp
  clear ha hd hp
  go_enter Tryz.func88, Tryz.ntmps88
  go_wp2
  go_loopw [5, 10, 7] (fun s5 s10 s7 wr => ∃ (k : Nat) (n : Int), s10 = .int .i64 k ∧ s5 = .int .i64 n ∧ k ≤ xs.length ∧ Hid (n = numF b (xs.take k)) ∧ Bl w wr) (fun _ s10 _ _ => xs.length - (intOf s10).toNat)
  case atStart => exact ⟨0, 0, rfl, rfl, Nat.zero_le _, Lib.hid (by simp [numF]), bl_refl _⟩
  case round =>
    rcases hrel with ⟨k, n, rfl, rfl, hkl, hn, Br⟩
    rcases Nat.lt_or_ge k xs.length with hk | hk
    · obtain ⟨bb, oo, rfl, x, hx, cx, rx⟩ := HA.out.cellAt' Br hk
      have hxd := HD.out x (List.mem_of_getElem? hx)
      have HN := Lib.hid (show n * b + x = numF b (xs.take (k + 1)) by rw [numF_snoc hx, hn.out])
      have bd := numF_bd hb.1 HD.out k hkl
      rw [← hn.out] at bd
      have hpk := pow_le hb.1 hkl
      have hpp := HP.out
      have hb2 : 0 ≤ n ∧ n ≤ 1000000000 := by omega
      have a1 := Int.mul_nonneg hb2.1 (show 0 ≤ b by omega)
      have a2 := Int.mul_le_mul hb2.2 hb.2 (show 0 ≤ b by omega) (by omega)
      clear hx bd hpk hpp
      go_wp2
      go_roundw
      case rel => exact ⟨k + 1, _, by go_num, rfl, by omega, HN, Br⟩
      case measure => clear HN; simp only [intOf, Int.toNat_natCast]; omega
    · have HN := Lib.hid (show n = numF b xs by have := hn.out; rwa [List.take_of_length_le hk] at this)
      go_wp2
      go_ret
      exact ⟨ret_int HN.out, Br⟩
theorem quo_gt {b o : Int} (hb : 2 ≤ b) : 1000000000 / b < o ↔ 1000000000 < o * b := by
  rw [Int.ediv_lt_iff_lt_mul (by omega)]
theorem ret_iib' {a b c d : Int} {x y : Bool} (h : a = b) (h' : c = d) (h'' : x = y) : Ending.returned (.tuple #[.int .i64 a, .int .i64 c, .bool x]) = .returned (.tuple #[.int .i64 b, .int .i64 d, .bool y]) := by rw [h, h', h'']
set_option maxRecDepth 100000 in
set_option maxHeartbeats 1600000 in
theorem val_any {b : Int} (va : Value) (xs : List Int) (w : World) (hb : 2 ≤ b ∧ b ≤ 36) (ha : Sl w va xs) (hl : xs.length ≤ 1048576) (hd : ∀ x ∈ xs, 0 ≤ x ∧ x ≤ b - 1) :
    Calls Tryz.prog 91 #[va, .int .i64 b] w fun e w' => e = .returned (if b ^ xs.length ≤ 1000000000 then .tuple #[.int .i64 (numF b xs), .int .i64 (b ^ xs.length), .bool true] else .tuple #[.int .i64 0, .int .i64 0, .bool false]) ∧ Bl w w' := by
  obtain ⟨av, cv, rfl, hcv⟩ := ha.form'
  obtain ⟨RV, hRV⟩ : ∃ RV : Value, RV = (if b ^ xs.length ≤ 1000000000 then .tuple #[.int .i64 (numF b xs), .int .i64 (b ^ xs.length), .bool true] else .tuple #[.int .i64 0, .int .i64 0, .bool false]) := ⟨_, rfl⟩
  rw [← hRV]
  have HRV := Lib.hid hRV
  have HA := Lib.hid ha
  have HD := Lib.hid hd
  clear ha hd hRV
  go_enter Tryz.func91, Tryz.ntmps91
  go_wp2
  go_loopw [7, 8, 9] (fun s7 s8 s9 wr => ∃ (k : Nat) (n o : Int), s9 = .int .i64 k ∧ s7 = .int .i64 n ∧ s8 = .int .i64 o ∧ k ≤ xs.length ∧ Hid (n = numF b (xs.take k)) ∧ Hid (o = b ^ k) ∧ 1 ≤ o ∧ o ≤ 1000000000 ∧ Bl w wr) (fun _ _ s9 _ => xs.length - (intOf s9).toNat)
  case atStart => exact ⟨0, 0, 1, rfl, rfl, rfl, Nat.zero_le _, Lib.hid (by simp [numF]), Lib.hid (by simp), by omega, by omega, bl_refl _⟩
  case round =>
    rcases hrel with ⟨k, n, o, rfl, rfl, rfl, hkl, hn, ho, h1, h2, Br⟩
    have HO := Lib.hid (show o * b = b ^ (k + 1) by rw [ho.out, Int.pow_succ])
    rcases Nat.lt_or_ge k xs.length with hk | hk
    · obtain ⟨bb, oo, rfl, x, hx, cx, rx⟩ := HA.out.cellAt' Br hk
      have hxd := HD.out x (List.mem_of_getElem? hx)
      have HN := Lib.hid (show n * b + x = numF b (xs.take (k + 1)) by rw [numF_snoc hx, hn.out])
      have bd := numF_bd hb.1 HD.out k hkl
      rw [← hn.out, ← ho.out] at bd
      have hb2 : 0 ≤ n ∧ n ≤ 1000000000 := by omega
      have a1 := Int.mul_nonneg hb2.1 (show 0 ≤ b by omega)
      have a2 := Int.mul_le_mul hb2.2 hb.2 (show 0 ≤ b by omega) (by omega)
      have hge := Int.mul_le_mul_of_nonneg_left (show 1 ≤ b by omega) (show 0 ≤ o by omega)
      have hup := Int.mul_le_mul_of_nonneg_left hb.2 (show 0 ≤ o by omega)
      have qg := quo_gt (o := o) hb.1
      clear hx bd
      rcases Int.lt_or_le 1000000000 (o * b) with hq | hq
      · have hdq : decide (1000000000 / b < o) = true := by rw [decide_eq_true_iff]; exact qg.2 hq
        have HV := Lib.hid (show RV = .tuple #[.int .i64 0, .int .i64 0, .bool false] by
          rw [HRV.out, if_neg]
          have := pow_le hb.1 (show k + 1 ≤ xs.length by omega)
          rw [← HO.out] at this
          omega)
        clear qg
        go_wp2
        go_ret3
        rw [HV.out]
        exact ⟨rfl, Br⟩
      · have hdq : decide (1000000000 / b < o) = false := by rw [decide_eq_false_iff_not]; intro h; have := qg.1 h; omega
        clear qg
        go_wp2
        go_roundw
        case rel => exact ⟨k + 1, _, _, by go_num, rfl, rfl, by omega, HN, HO, by omega, by omega, Br⟩
        case measure => clear HN HO; simp only [intOf, Int.toNat_natCast]; omega
    · have e : k = xs.length := by omega
      have HN := Lib.hid (show RV = .tuple #[.int .i64 n, .int .i64 o, .bool true] by
        have h3 := hn.out; rw [List.take_of_length_le hk] at h3
        have h4 := ho.out; rw [e] at h4
        rw [HRV.out, if_pos (by omega), h3, h4])
      clear e
      go_wp2
      go_ret3
      rw [HN.out]
      exact ⟨rfl, Br⟩

end Go.Proofs.YtndblondleclpaaGreatDoor

/- Texts of digits, written by the reference. Each theorem names its conditions. -/
namespace Go.Proofs.YtndblondleclpaaGreatDoor
open Go.RowKit
set_option linter.unusedVariables false
set_option linter.unusedSimpArgs false

set_option maxHeartbeats 400000 in
theorem lsign_any (d : Int) (w : World) (h0 : 0 ≤ d) (h1 : d < 36) : Calls Tryz.prog 136 #[.int .i64 d] w fun e w' => e = .returned (.int .u8 ((sgc d).toNat : Int)) ∧ w = w' := by
  go_enter Tryz.func136, Tryz.ntmps136
  by_cases h : d < 10
  · have HX := Lib.hid (show (48 + d : Int) = ((sgc d).toNat : Int) by unfold sgc; rw [if_pos h, UInt8.toNat_ofNat']; omega)
    go_wp2
    go_ret
    exact ⟨by rw [← HX.out]; rfl, rfl⟩
  · have HX := Lib.hid (show (97 + d - 10 : Int) = ((sgc d).toNat : Int) by unfold sgc; rw [if_neg h, UInt8.toNat_ofNat']; omega)
    go_wp2
    go_ret
    exact ⟨by rw [← HX.out]; rfl, rfl⟩

/-- What has been written when k digits are. -/
def dpre (whole : Int) (xs : List Int) (k : Nat) : List UInt8 := Lib.itoa whole ++ (if k = 0 then [] else 46 :: (xs.take k).map sgc)
theorem dpre_all (whole : Int) (xs : List Int) : dpre whole xs xs.length = dtext whole xs := by
  unfold dpre dtext
  by_cases h : xs = []
  · subst h; simp
  · rw [if_neg h, if_neg (fun q => h (List.eq_nil_of_length_eq_zero q)), List.take_length]
theorem dpre_zero {whole : Int} {xs : List Int} {x : Int} (h : xs[0]? = some x) : (Lib.itoa whole ++ [46]) ++ [sgc x] = dpre whole xs 1 := by
  cases xs with
  | nil => simp at h
  | cons y l => simp at h; subst h; simp [dpre]
theorem dpre_succ {whole : Int} {xs : List Int} {k : Nat} {x : Int} (hk : k ≠ 0) (h : xs[k]? = some x) : dpre whole xs k ++ [sgc x] = dpre whole xs (k + 1) := by
  unfold dpre
  rw [if_neg hk, if_neg (by omega), List.take_add_one, h]
  simp
theorem dpre_len {whole : Int} {xs : List Int} {k : Nat} (hw : R64 whole) (hk : k ≤ 1000) : (dpre whole xs k).length ≤ 1100 := by
  unfold dpre
  have := Lib.itoa_length_le whole hw.1 hw.2
  rw [List.length_append]
  split
  · simp; omega
  · simp; omega

set_option maxRecDepth 100000 in
set_option maxHeartbeats 3200000 in
theorem ltext_any (whole : Int) (va : Value) (xs : List Int) (w : World) (hw : R64 whole) (ha : Sl w va xs) (hl : xs.length ≤ 1000) (hd : ∀ x ∈ xs, 0 ≤ x ∧ x < 36) :
    Calls Tryz.prog 100 #[.int .i64 whole, va] w fun e w' => e = .returned (.string ⟨(dtext whole xs).toArray⟩) ∧ Bl w w' := by
  obtain ⟨av, cv, rfl, hcv⟩ := ha.form'
  have HA := Lib.hid ha
  have HD := Lib.hid hd
  have HW := Lib.hid hw
  clear ha hd hw
  have kc := fun (w : World) (s : ByteArray) => Lib.run_convert_string_bytes (P := Tryz.prog) w 9 22 5 s Tryz.underlying9 Tryz.underlying22 Tryz.underlying5
  go_enter Tryz.func100, Tryz.ntmps100
  go_wp2_with fail
  refine (ldec_any whole HW.out _).mono ?_
  rintro e w1 ⟨rfl, B1⟩
  have hsz : (⟨(Lib.itoa whole).toArray⟩ : ByteArray).size ≤ 21 := by
    have := Lib.itoa_length_le whole HW.out.1 HW.out.2
    simpa [ByteArray.size] using this
  obtain ⟨s, hs⟩ : ∃ s : ByteArray, s = ⟨(Lib.itoa whole).toArray⟩ := ⟨_, rfl⟩
  rw [← hs] at hsz ⊢
  have hcv := OwB.conv (w := w1) (B := w.heap.size) B1.size s (grownCap_le_maxLen _ _ _ _ (by unfold maxLen; omega))
  have HS := Lib.hid hs
  clear hs
  go_wp2_with fail
  obtain ⟨hc1, hc2⟩ := hcv
  have B2 := bl_call B1 hc2
  generalize grownCap w1 s.size 0 5 = c1 at *
  generalize w1.heap.size = g1 at hc1 ⊢
  have hn1 : s.size = (Lib.itoa whole).length := by rw [HS.out]; simp [ByteArray.size]
  rw [hn1] at hc1 ⊢
  have hsl : s.data.toList = Lib.itoa whole := by rw [HS.out]
  rw [hsl] at hc1
  have HO0 := Lib.hid hc1
  clear hc1 hc2 hn1 B1 hsz hsl
  generalize Lib.bytesWorld w1 5 s = w2 at *
  clear HS kc
  obtain ⟨L0, hL0⟩ : ∃ l, l = Lib.itoa whole := ⟨_, rfl⟩
  rw [← hL0] at HO0 ⊢
  have HL0 := Lib.hid hL0
  clear hL0
  go_loopw [5, 6] (fun s5 s6 wr => ∃ (acc : List UInt8) (k g c : Nat), s5 = .slice (some ⟨g, 0, none⟩) acc.length c ∧ s6 = .int .i64 k ∧ k ≤ xs.length ∧ OwB wr w.heap.size (.slice (some ⟨g, 0, none⟩) acc.length c) acc ∧ Hid (acc = dpre whole xs k) ∧ Bl w wr) (fun _ s6 _ => xs.length - (intOf s6).toNat)
  case atStart => exact ⟨L0, 0, g1, c1, rfl, rfl, Nat.zero_le _, HO0.out, Lib.hid (by rw [HL0.out]; simp [dpre]), B2⟩
  case round =>
    rcases hrel with ⟨acc, k, g, c, rfl, rfl, hk, ho, hx, Br⟩
    have HO := Lib.hid ho
    have HLa := Lib.hid (show acc.length ≤ 1100 by rw [hx.out]; exact dpre_len HW.out (by omega))
    clear ho
    rcases Nat.lt_or_ge k xs.length with hlt | hge
    · obtain ⟨b0, o0, rfl, hb0, x, hxk, hr, HC⟩ := HA.out.cellIn hlt
      have hxd := HD.out x (List.mem_of_getElem? hxk)
      have HXK := Lib.hid hxk
      clear hxk hr
      by_cases hk0 : k = 0
      · subst hk0
        go_wp2_with (at_builtin; refine wpList_append_b1 (w0 := w) rfl _ _ rfl _ acc (by rfl) (HO.out.alloc _) 46 wr.heap.size (by rfl) (by simp) (by have := HLa.out; omega) (bl_alloc Br _) ?_; intro acc1 g1 c1 wn HA1 HO1 hg BN _; clear hg; have hcn : wn.cell? ⟨b0, o0, none⟩ = some (.int .i64 x) := (by have := HC.out wn BN; rwa [Nat.add_zero] at this))
        have HLb := Lib.hid (show acc1.length ≤ 1101 by rw [HA1.out]; have := HLa.out; simp; omega)
        refine (lsign_any x wn hxd.1 hxd.2).mono ?_
        rintro e w9 ⟨rfl, rfl⟩
        clear hcn
        go_wp2_with (at_builtin; refine wpList_append_b1 (w0 := w) rfl _ _ rfl _ acc1 (by rfl) (HO1.out.alloc _) (sgc x) wn.heap.size (by rfl) (by simp) (by have := HLb.out; omega) (bl_alloc BN _) ?_; intro acc2 g2 c2 wm HA2 HO2 hg BM _)
        clear hg
        go_wp2
        go_roundw
        case rel => exact ⟨acc2, 1, g2, c2, rfl, rfl, by omega, HO2.out, Lib.hid (by rw [HA2.out, HA1.out, hx.out, ← dpre_zero HXK.out]; simp [dpre]), BM⟩
        case measure => simp only [intOf]; omega
      · have hcn := HC.out wr Br
        go_wp2_with fail
        refine (lsign_any x wr hxd.1 hxd.2).mono ?_
        rintro e w9 ⟨rfl, rfl⟩
        clear hcn
        go_wp2_with (at_builtin; refine wpList_append_b1 (w0 := w) rfl _ _ rfl _ acc (by rfl) (HO.out.alloc _) (sgc x) wr.heap.size (by rfl) (by simp) (by have := HLa.out; omega) (bl_alloc Br _) ?_; intro acc2 g2 c2 wm HA2 HO2 hg BM _)
        clear hg
        go_wp2
        go_roundw
        case rel => exact ⟨acc2, k + 1, g2, c2, rfl, by simp, by omega, HO2.out, Lib.hid (by rw [HA2.out, hx.out, dpre_succ hk0 HXK.out]), BM⟩
        case measure => simp only [intOf, Int.toNat_natCast]; omega
    · obtain rfl : k = xs.length := by omega
      have hst := run_string_b HO.out
      have HX := Lib.hid (show (⟨acc.toArray⟩ : ByteArray) = ⟨(dtext whole xs).toArray⟩ by rw [hx.out, dpre_all])
      go_wp2
      go_ret
      exact ⟨by rw [← HX.out]; rfl, Br⟩

end Go.Proofs.YtndblondleclpaaGreatDoor

/- Decimal texts and parts of texts, as the reference reads them. Each theorem names its conditions. -/
namespace Go.Proofs.YtndblondleclpaaGreatDoor
open Go.RowKit
set_option linter.unusedVariables false
set_option linter.unusedSimpArgs false

theorem ldig_yes {c : UInt8} (h : 48 ≤ c.toNat ∧ c.toNat ≤ 57) (w : World) : Calls Tryz.prog 137 #[.int .u8 (c.toNat : Int)] w fun e w' => e = .returned (.bool true) ∧ w = w' := by
  have h1 : 48 ≤ (c.toNat : Int) := by omega
  have h2 : (c.toNat : Int) ≤ 57 := by omega
  clear h
  go_enter Tryz.func137, Tryz.ntmps137
  go_wp2
  go_ret
  exact ⟨rfl, rfl⟩
theorem ldig_no {c : UInt8} (h : ¬ (48 ≤ c.toNat ∧ c.toNat ≤ 57)) (w : World) : Calls Tryz.prog 137 #[.int .u8 (c.toNat : Int)] w fun e w' => e = .returned (.bool false) ∧ w = w' := by
  by_cases h1 : 48 ≤ (c.toNat : Int)
  · have h2 : ¬ (c.toNat : Int) ≤ 57 := by omega
    clear h
    go_enter Tryz.func137, Tryz.ntmps137
    go_wp2
    go_ret
    exact ⟨rfl, rfl⟩
  · clear h
    go_enter Tryz.func137, Tryz.ntmps137
    go_wp2
    go_ret
    exact ⟨rfl, rfl⟩
theorem lsml_yes {c : UInt8} (h : 97 ≤ c.toNat ∧ c.toNat ≤ 122) (w : World) : Calls Tryz.prog 138 #[.int .u8 (c.toNat : Int)] w fun e w' => e = .returned (.bool true) ∧ w = w' := by
  have h1 : 97 ≤ (c.toNat : Int) := by omega
  have h2 : (c.toNat : Int) ≤ 122 := by omega
  clear h
  go_enter Tryz.func138, Tryz.ntmps138
  go_wp2
  go_ret
  exact ⟨rfl, rfl⟩
theorem lsml_no {c : UInt8} (h : ¬ (97 ≤ c.toNat ∧ c.toNat ≤ 122)) (w : World) : Calls Tryz.prog 138 #[.int .u8 (c.toNat : Int)] w fun e w' => e = .returned (.bool false) ∧ w = w' := by
  by_cases h1 : 97 ≤ (c.toNat : Int)
  · have h2 : ¬ (c.toNat : Int) ≤ 122 := by omega
    clear h
    go_enter Tryz.func138, Tryz.ntmps138
    go_wp2
    go_ret
    exact ⟨rfl, rfl⟩
  · clear h
    go_enter Tryz.func138, Tryz.ntmps138
    go_wp2
    go_ret
    exact ⟨rfl, rfl⟩
theorem idig_yes {c : UInt8} (h : 48 ≤ c.toNat ∧ c.toNat ≤ 57) (w : World) : Calls Tryz.prog 98 #[.int .u8 (c.toNat : Int)] w fun e w' => e = .returned (.bool true) ∧ w = w' := by
  have h1 : 48 ≤ (c.toNat : Int) := by omega
  have h2 : (c.toNat : Int) ≤ 57 := by omega
  clear h
  go_enter Tryz.func98, Tryz.ntmps98
  go_wp2
  go_ret
  exact ⟨rfl, rfl⟩
theorem idig_no {c : UInt8} (h : ¬ (48 ≤ c.toNat ∧ c.toNat ≤ 57)) (w : World) : Calls Tryz.prog 98 #[.int .u8 (c.toNat : Int)] w fun e w' => e = .returned (.bool false) ∧ w = w' := by
  by_cases h1 : 48 ≤ (c.toNat : Int)
  · have h2 : ¬ (c.toNat : Int) ≤ 57 := by omega
    clear h
    go_enter Tryz.func98, Tryz.ntmps98
    go_wp2
    go_ret
    exact ⟨rfl, rfl⟩
  · clear h
    go_enter Tryz.func98, Tryz.ntmps98
    go_wp2
    go_ret
    exact ⟨rfl, rfl⟩
theorem isml_yes {c : UInt8} (h : 97 ≤ c.toNat ∧ c.toNat ≤ 122) (w : World) : Calls Tryz.prog 99 #[.int .u8 (c.toNat : Int)] w fun e w' => e = .returned (.bool true) ∧ w = w' := by
  have h1 : 97 ≤ (c.toNat : Int) := by omega
  have h2 : (c.toNat : Int) ≤ 122 := by omega
  clear h
  go_enter Tryz.func99, Tryz.ntmps99
  go_wp2
  go_ret
  exact ⟨rfl, rfl⟩
theorem isml_no {c : UInt8} (h : ¬ (97 ≤ c.toNat ∧ c.toNat ≤ 122)) (w : World) : Calls Tryz.prog 99 #[.int .u8 (c.toNat : Int)] w fun e w' => e = .returned (.bool false) ∧ w = w' := by
  by_cases h1 : 97 ≤ (c.toNat : Int)
  · have h2 : ¬ (c.toNat : Int) ≤ 122 := by omega
    clear h
    go_enter Tryz.func99, Tryz.ntmps99
    go_wp2
    go_ret
    exact ⟨rfl, rfl⟩
  · clear h
    go_enter Tryz.func99, Tryz.ntmps99
    go_wp2
    go_ret
    exact ⟨rfl, rfl⟩

theorem empty_yes {s : ByteArray} (h : s.size = 0) : s.toList.isEmpty = true ∧ s.data.toList = [] := by
  rw [ByteArray.toList_eq]
  have : s.data.toList.length = s.size := (Lib.size_eq s).symm
  have h2 := List.eq_nil_of_length_eq_zero (this.trans h)
  rw [h2]; exact ⟨rfl, rfl⟩
theorem empty_no {s : ByteArray} (h : 0 < s.size) : s.toList.isEmpty = false := by
  rw [ByteArray.toList_eq]
  have : s.data.toList.length = s.size := (Lib.size_eq s).symm
  cases hl : s.data.toList with
  | nil => rw [hl] at this; simp at this; omega
  | cons => rfl
theorem str_ix {s : ByteArray} {i : Nat} (h : i < s.size) : s.data.toList[i]? = some s[i] := by
  have h2 : i < s.data.toList.length := by rw [← Lib.size_eq s]; exact h
  rw [List.getElem?_eq_getElem h2]; rfl
theorem str_head {s : ByteArray} (h : 0 < s.size) : ∃ r, s.data.toList = s[0] :: r ∧ (s.extract 1 s.size).data.toList = r := by
  have h0 := str_ix h
  cases hl : s.data.toList with
  | nil => rw [hl] at h0; simp at h0
  | cons x r =>
    rw [hl] at h0
    simp at h0
    refine ⟨r, by rw [← h0], ?_⟩
    rw [Lib.extract_data, hl]
    have : s.size = (x :: r).length := by rw [← hl]; exact Lib.size_eq s
    rw [this]; simp
theorem tl_neg {b : UInt8} {r : List UInt8} (h : b = 45) : tl (b :: r) = r := by subst h; simp [tl]
theorem tl_pos {b : UInt8} {r : List UInt8} (h : b ≠ 45) : tl (b :: r) = b :: r := by simp [tl, h]
theorem rdec_short {l : List UInt8} (h : (tl l).length < 1 ∨ 18 < (tl l).length) : rdec l = none := by unfold rdec; rw [if_pos h]
theorem rdec_bad {l : List UInt8} (h : ¬ ((tl l).length < 1 ∨ 18 < (tl l).length)) (hd : Lib.decFrom 0 (tl l) = none) : rdec l = none := by unfold rdec; rw [if_neg h, hd]
theorem rdec_no {l : List UInt8} {m : Nat} (h : ¬ ((tl l).length < 1 ∨ 18 < (tl l).length)) (hd : Lib.decFrom 0 (tl l) = some m) (hn : Lib.itoa (sg l m) ≠ l) : rdec l = none := by unfold rdec; rw [if_neg h, hd]; simp only; rw [if_neg hn]
theorem rdec_yes {l : List UInt8} {m : Nat} (h : ¬ ((tl l).length < 1 ∨ 18 < (tl l).length)) (hd : Lib.decFrom 0 (tl l) = some m) (hn : Lib.itoa (sg l m) = l) : rdec l = some (sg l m) := by unfold rdec; rw [if_neg h, hd]; simp only; rw [if_pos hn]
theorem dec_bad {l : List UInt8} {k : Nat} {c : UInt8} (h : l[k]? = some c) (hc : ¬ (48 ≤ c.toNat ∧ c.toNat ≤ 57)) : Lib.decFrom 0 l = none := by
  cases hd : Lib.decFrom 0 l with
  | none => rfl
  | some n =>
    obtain ⟨d, hd2⟩ := Lib.digit_of_decFrom l 0 n hd k c h
    unfold Lib.digitVal at hd2
    rw [if_neg hc] at hd2; cases hd2
theorem ret_rd {l : List UInt8} {o : Option Int} {x : Int} {b : Bool} (h : rdec l = o) (hx : o.getD 0 = x) (hb : o.isSome = b) : Ending.returned (.tuple #[.int .i64 x, .bool b]) = Ending.returned (.tuple #[.int .i64 ((rdec l).getD 0), .bool (rdec l).isSome]) := by rw [h, hx, hb]
theorem pow17 {m k : Nat} (h : m < 10 ^ k) (hk : k ≤ 17) : m < 100000000000000000 :=
  Nat.lt_of_lt_of_le h (Nat.le_trans (Nat.pow_le_pow_right (by decide) hk) (by decide))
theorem pow18 {m k : Nat} (h : m < 10 ^ k) (hk : k ≤ 18) : m < 1000000000000000000 :=
  Nat.lt_of_lt_of_le h (Nat.le_trans (Nat.pow_le_pow_right (by decide) hk) (by decide))

set_option maxRecDepth 100000 in
set_option maxHeartbeats 6400000 in
theorem lnum_any (s : ByteArray) (w : World) (hs : s.size ≤ 2000000) :
    Calls Tryz.prog 101 #[.string s] w fun e w' => e = .returned (.tuple #[.int .i64 ((rdec s.data.toList).getD 0), .bool (rdec s.data.toList).isSome]) ∧ Bl w w' := by
  have hszl : s.data.toList.length = s.size := (Lib.size_eq s).symm
  by_cases h0 : s.size = 0
  · have hem := (empty_yes h0).1
    have HR := Lib.hid (show rdec s.data.toList = none by rw [(empty_yes h0).2]; rfl)
    have h1 : ((s.size : Int) < 1) := by omega
    clear h0 hszl
    go_enter Tryz.func101, Tryz.ntmps101
    go_wp2
    refine bodyPost_ret (v := .tuple #[.int .i64 0, .bool false]) (by simp only [results, Tryz.results101]; go_simp) rfl ?_
    exact ⟨ret_rd HR.out rfl rfl, bl_refl _⟩
  · have hne : 0 < s.size := by omega
    have hem := empty_no hne
    obtain ⟨r, hsr, hxr⟩ := str_head hne
    clear h0
    by_cases hb : s[0].toNat = 45
    · obtain ⟨T, hT⟩ : ∃ T, s.extract 1 s.size = T := ⟨_, rfl⟩
      have hq : ((s[0].toNat : Int) == 45) = true := beq_iff_eq.2 (by omega)
      have HTL := Lib.hid (show T.data.toList = tl s.data.toList by rw [← hT, hxr, hsr, tl_neg (UInt8.toNat_inj.1 hb)])
      have hTs : T.size < s.size := by rw [← hT, ByteArray.size_extract]; omega
      have HSG := Lib.hid (show ∀ m, sg s.data.toList m = -(m : Int) by intro m; rw [hsr, sg, if_pos (UInt8.toNat_inj.1 hb)])
      have HTN := Lib.hid (show (tl s.data.toList).length = T.size by rw [← HTL.out]; exact (Lib.size_eq T).symm)
      clear hsr hxr hb hszl
      by_cases hl1 : T.size < 1
      · have HR := Lib.hid (rdec_short (l := s.data.toList) (.inl (by rw [HTN.out]; exact hl1)))
        have q1 : ((T.size : Int) < 1) := by omega
        clear hl1
        go_enter Tryz.func101, Tryz.ntmps101
        go_wp2
        refine bodyPost_ret (v := .tuple #[.int .i64 (0), .bool false]) (by simp only [results, Tryz.results101]; go_simp) rfl ?_
        exact ⟨ret_rd HR.out rfl rfl, bl_refl _⟩
      by_cases hl2 : 18 < T.size
      · have HR := Lib.hid (rdec_short (l := s.data.toList) (.inr (by rw [HTN.out]; exact hl2)))
        have q1 : ¬ ((T.size : Int) < 1) := by omega
        have q2 : (18 : Int) < (T.size : Int) := by omega
        clear hl1 hl2
        go_enter Tryz.func101, Tryz.ntmps101
        go_wp2
        refine bodyPost_ret (v := .tuple #[.int .i64 (0), .bool false]) (by simp only [results, Tryz.results101]; go_simp) rfl ?_
        exact ⟨ret_rd HR.out rfl rfl, bl_refl _⟩
      have hl3 : 1 ≤ T.size := by omega
      have hl4 : T.size ≤ 18 := by omega
      have HSH := Lib.hid (show ¬ ((tl s.data.toList).length < 1 ∨ 18 < (tl s.data.toList).length) by rw [HTN.out]; omega)
      clear hl1 hl2
      go_enter Tryz.func101, Tryz.ntmps101
      go_wp2_with fail
      go_loopw [5, 6] (fun s5 s6 wr => ∃ (k m : Nat), s5 = .int .i64 m ∧ s6 = .int .i64 k ∧ k ≤ T.size ∧ Hid (m < 10 ^ k) ∧ Hid (Lib.decFrom 0 (T.data.toList.take k) = some m) ∧ Bl w wr) (fun _ s6 _ => T.size - (intOf s6).toNat)
      case atStart => exact ⟨0, 0, rfl, rfl, Nat.zero_le _, Lib.hid (by decide), Lib.hid (by simp [Lib.decFrom]), bl_refl _⟩
      case round =>
        rcases hrel with ⟨k, m, rfl, rfl, hk, hm, hd, Br⟩
        rcases Nat.lt_or_ge k T.size with hlt | hge
        · have hm17 := pow17 hm.out (show k ≤ 17 by omega)
          obtain ⟨c, hc⟩ : ∃ c, T[k] = c := ⟨_, rfl⟩
          have HCK := Lib.hid (show T.data.toList[k]? = some c by rw [← hc]; exact str_ix hlt)
          have hc255 := c.toNat_lt
          by_cases hdig : 48 ≤ c.toNat ∧ c.toNat ≤ 57
          · obtain ⟨hd1, hd2⟩ := hdig
            go_wp2_with fail
            refine (ldig_yes ⟨hd1, hd2⟩ _).mono ?_
            rintro e w9 ⟨rfl, rfl⟩
            go_wp2
            go_roundw
            case rel =>
              refine ⟨k + 1, m * 10 + (c.toNat - 48), ?_, by simp, by omega, Lib.hid ?_, Lib.hid ?_, Br⟩
              · congr 1; omega
              · have := hm.out; rw [Nat.pow_succ]; omega
              · exact Lib.decFrom_take _ k 0 m c _ hd.out HCK.out (by unfold Lib.digitVal; rw [if_pos ⟨hd1, hd2⟩])
            case measure => simp only [intOf, Int.toNat_natCast]; omega
          · have HDG := Lib.hid hdig
            have HR := Lib.hid (rdec_bad (l := s.data.toList) HSH.out (by rw [← HTL.out]; exact dec_bad HCK.out hdig))
            clear hdig
            go_wp2_with fail
            refine (ldig_no HDG.out _).mono ?_
            rintro e w9 ⟨rfl, rfl⟩
            go_wp2
            refine bodyPost_ret (v := .tuple #[.int .i64 (0), .bool false]) (by simp only [results, Tryz.results101]; go_simp) rfl ?_
            exact ⟨ret_rd HR.out rfl rfl, Br⟩
        · obtain rfl : k = T.size := by omega
          have hm18 := pow18 hm.out hl4
          have HD := Lib.hid (show Lib.decFrom 0 (tl s.data.toList) = some m by have := hd.out; rw [List.take_of_length_le (by rw [← Lib.size_eq T]; exact Nat.le_refl _), HTL.out] at this; exact this)
          clear hd hm hge hk
          go_wp2_with fail
          refine (ldec_any (-(m : Int)) (by unfold R64; omega) _).mono ?_
          rintro e w2 ⟨rfl, B2⟩
          have BB := bl_call Br B2
          by_cases hn : Lib.itoa (-(m : Int)) = s.data.toList
          · have HN := Lib.hid (rdec_yes HSH.out HD.out (by rw [HSG.out]; exact hn))
            have hcmp : (Lib.itoa (-(m : Int)) == s.toList) = true := by rw [ByteArray.toList_eq]; exact beq_iff_eq.2 hn
            rw [HSG.out] at HN
            clear hn
            go_wp2
            refine bodyPost_ret (v := .tuple #[.int .i64 (-(m : Int)), .bool true]) (by simp only [results, Tryz.results101]; go_simp) rfl ?_
            exact ⟨ret_rd HN.out rfl rfl, BB⟩
          · have HN := Lib.hid (rdec_no HSH.out HD.out (by rw [HSG.out]; exact hn))
            have hcmp : (Lib.itoa (-(m : Int)) == s.toList) = false := by rw [ByteArray.toList_eq]; exact beq_eq_false_iff_ne.2 hn
            clear hn
            go_wp2
            refine bodyPost_ret (v := .tuple #[.int .i64 (0), .bool false]) (by simp only [results, Tryz.results101]; go_simp) rfl ?_
            exact ⟨ret_rd HN.out rfl rfl, BB⟩
    · have hq : ((s[0].toNat : Int) == 45) = false := beq_eq_false_iff_ne.2 (by omega)
      have HTL := Lib.hid (show s.data.toList = tl s.data.toList by rw [hsr, tl_pos (fun q => hb (by rw [q]; rfl))])
      have HSG := Lib.hid (show ∀ m, sg s.data.toList m = (m : Int) by intro m; rw [hsr, sg, if_neg (fun q => hb (by rw [q]; rfl))])
      have HTN := Lib.hid (show (tl s.data.toList).length = s.size by rw [← HTL.out]; exact (Lib.size_eq s).symm)
      clear hsr hxr hb hszl
      by_cases hl1 : s.size < 1
      · have HR := Lib.hid (rdec_short (l := s.data.toList) (.inl (by rw [HTN.out]; exact hl1)))
        have q1 : ((s.size : Int) < 1) := by omega
        clear hl1
        go_enter Tryz.func101, Tryz.ntmps101
        go_wp2
        refine bodyPost_ret (v := .tuple #[.int .i64 (0), .bool false]) (by simp only [results, Tryz.results101]; go_simp) rfl ?_
        exact ⟨ret_rd HR.out rfl rfl, bl_refl _⟩
      by_cases hl2 : 18 < s.size
      · have HR := Lib.hid (rdec_short (l := s.data.toList) (.inr (by rw [HTN.out]; exact hl2)))
        have q1 : ¬ ((s.size : Int) < 1) := by omega
        have q2 : (18 : Int) < (s.size : Int) := by omega
        clear hl1 hl2
        go_enter Tryz.func101, Tryz.ntmps101
        go_wp2
        refine bodyPost_ret (v := .tuple #[.int .i64 (0), .bool false]) (by simp only [results, Tryz.results101]; go_simp) rfl ?_
        exact ⟨ret_rd HR.out rfl rfl, bl_refl _⟩
      have hl3 : 1 ≤ s.size := by omega
      have hl4 : s.size ≤ 18 := by omega
      have HSH := Lib.hid (show ¬ ((tl s.data.toList).length < 1 ∨ 18 < (tl s.data.toList).length) by rw [HTN.out]; omega)
      clear hl1 hl2
      go_enter Tryz.func101, Tryz.ntmps101
      go_wp2_with fail
      go_loopw [5, 6] (fun s5 s6 wr => ∃ (k m : Nat), s5 = .int .i64 m ∧ s6 = .int .i64 k ∧ k ≤ s.size ∧ Hid (m < 10 ^ k) ∧ Hid (Lib.decFrom 0 (s.data.toList.take k) = some m) ∧ Bl w wr) (fun _ s6 _ => s.size - (intOf s6).toNat)
      case atStart => exact ⟨0, 0, rfl, rfl, Nat.zero_le _, Lib.hid (by decide), Lib.hid (by simp [Lib.decFrom]), bl_refl _⟩
      case round =>
        rcases hrel with ⟨k, m, rfl, rfl, hk, hm, hd, Br⟩
        rcases Nat.lt_or_ge k s.size with hlt | hge
        · have hm17 := pow17 hm.out (show k ≤ 17 by omega)
          obtain ⟨c, hc⟩ : ∃ c, s[k] = c := ⟨_, rfl⟩
          have HCK := Lib.hid (show s.data.toList[k]? = some c by rw [← hc]; exact str_ix hlt)
          have hc255 := c.toNat_lt
          by_cases hdig : 48 ≤ c.toNat ∧ c.toNat ≤ 57
          · obtain ⟨hd1, hd2⟩ := hdig
            go_wp2_with fail
            refine (ldig_yes ⟨hd1, hd2⟩ _).mono ?_
            rintro e w9 ⟨rfl, rfl⟩
            go_wp2
            go_roundw
            case rel =>
              refine ⟨k + 1, m * 10 + (c.toNat - 48), ?_, by simp, by omega, Lib.hid ?_, Lib.hid ?_, Br⟩
              · congr 1; omega
              · have := hm.out; rw [Nat.pow_succ]; omega
              · exact Lib.decFrom_take _ k 0 m c _ hd.out HCK.out (by unfold Lib.digitVal; rw [if_pos ⟨hd1, hd2⟩])
            case measure => simp only [intOf, Int.toNat_natCast]; omega
          · have HDG := Lib.hid hdig
            have HR := Lib.hid (rdec_bad (l := s.data.toList) HSH.out (by rw [← HTL.out]; exact dec_bad HCK.out hdig))
            clear hdig
            go_wp2_with fail
            refine (ldig_no HDG.out _).mono ?_
            rintro e w9 ⟨rfl, rfl⟩
            go_wp2
            refine bodyPost_ret (v := .tuple #[.int .i64 (0), .bool false]) (by simp only [results, Tryz.results101]; go_simp) rfl ?_
            exact ⟨ret_rd HR.out rfl rfl, Br⟩
        · obtain rfl : k = s.size := by omega
          have hm18 := pow18 hm.out hl4
          have HD := Lib.hid (show Lib.decFrom 0 (tl s.data.toList) = some m by have := hd.out; rw [List.take_of_length_le (by rw [← Lib.size_eq s]; exact Nat.le_refl _), HTL.out] at this; exact this)
          clear hd hm hge hk
          go_wp2_with fail
          refine (ldec_any ((m : Int)) (by unfold R64; omega) _).mono ?_
          rintro e w2 ⟨rfl, B2⟩
          have BB := bl_call Br B2
          by_cases hn : Lib.itoa ((m : Int)) = s.data.toList
          · have HN := Lib.hid (rdec_yes HSH.out HD.out (by rw [HSG.out]; exact hn))
            have hcmp : (Lib.itoa ((m : Int)) == s.toList) = true := by rw [ByteArray.toList_eq]; exact beq_iff_eq.2 hn
            rw [HSG.out] at HN
            clear hn
            go_wp2
            refine bodyPost_ret (v := .tuple #[.int .i64 ((m : Int)), .bool true]) (by simp only [results, Tryz.results101]; go_simp) rfl ?_
            exact ⟨ret_rd HN.out rfl rfl, BB⟩
          · have HN := Lib.hid (rdec_no HSH.out HD.out (by rw [HSG.out]; exact hn))
            have hcmp : (Lib.itoa ((m : Int)) == s.toList) = false := by rw [ByteArray.toList_eq]; exact beq_eq_false_iff_ne.2 hn
            clear hn
            go_wp2
            refine bodyPost_ret (v := .tuple #[.int .i64 (0), .bool false]) (by simp only [results, Tryz.results101]; go_simp) rfl ?_
            exact ⟨ret_rd HN.out rfl rfl, BB⟩

/-! The parts of a text. -/
theorem drop_split {l : List UInt8} {f i : Nat} {c : UInt8} (hf : f ≤ i) (h : l[i]? = some c) : l.drop f = (l.drop f).take (i - f) ++ c :: l.drop (i + 1) := by
  have hi := (List.getElem?_eq_some_iff.1 h).1
  have e : l.drop i = c :: l.drop (i + 1) := by
    rw [List.drop_eq_getElem_cons hi, (List.getElem?_eq_some_iff.1 h).2]
  rw [← e]
  have e2 : l.drop i = (l.drop f).drop (i - f) := by rw [List.drop_drop]; congr 1; omega
  rw [e2, List.take_append_drop]
theorem piece_snoc {l : List UInt8} {f i : Nat} {c : UInt8} (hf : f ≤ i) (h : l[i]? = some c) : (l.drop f).take (i + 1 - f) = (l.drop f).take (i - f) ++ [c] := by
  have e : (l.drop f)[i - f]? = some c := by rw [List.getElem?_drop, show f + (i - f) = i by omega]; exact h
  rw [show i + 1 - f = (i - f) + 1 by omega, List.take_add_one, e]; rfl

set_option maxRecDepth 100000 in
set_option maxHeartbeats 6400000 in
theorem lspl_any (s : ByteArray) (sc : UInt8) (w : World) (hs : s.size ≤ 2000000) :
    Calls Tryz.prog 69 #[.string s, .int .u8 (sc.toNat : Int)] w fun e w' => ∃ g c, e = .returned (.slice (some ⟨g, 0, none⟩) (spl sc s.data.toList).length c) ∧ OwS w' w.heap.size (.slice (some ⟨g, 0, none⟩) (spl sc s.data.toList).length c) (spl sc s.data.toList) ∧ Bl w w' := by
  obtain ⟨l, hl⟩ : ∃ l, s.data.toList = l := ⟨_, rfl⟩
  have hln : l.length = s.size := by rw [← hl]; exact (Lib.size_eq s).symm
  rw [hl]
  have HL := Lib.hid hl
  have HLN := Lib.hid hln
  clear hl hln
  go_enter Tryz.func69, Tryz.ntmps69
  go_wp2_with fail
  go_loopw [5, 6, 7] (fun s5 s6 s7 wr => ∃ (ws : List (List UInt8)) (g c f i : Nat), s5 = .slice (some ⟨g, 0, none⟩) ws.length c ∧ s6 = .int .i64 f ∧ s7 = .int .i64 i ∧ f ≤ i ∧ i ≤ s.size ∧ OwS wr w.heap.size (.slice (some ⟨g, 0, none⟩) ws.length c) ws ∧ Hid (ws ++ spl sc (l.drop f) = spl sc l ∧ sc ∉ (l.drop f).take (i - f) ∧ ws.length ≤ i) ∧ Bl w wr) (fun _ _ s7 _ => s.size - (intOf s7).toNat)
  case atStart => exact ⟨[], w.heap.size, 0, 0, 0, rfl, rfl, rfl, Nat.le_refl _, Nat.zero_le _, OwX.made (Nat.le_refl _) _, Lib.hid ⟨by simp, by simp, by simp⟩, bl_alloc (bl_refl _) _⟩
  case round =>
    rcases hrel with ⟨ws, g, c, f, i, rfl, rfl, rfl, hf, hi, ho, hw, Br⟩
    have HO := Lib.hid ho
    have HW := Lib.hid hw.out
    have HLw := Lib.hid (show ws.length ≤ 2000000 by have := hw.out.2.2; omega)
    clear ho hw
    rcases Nat.lt_or_ge i s.size with hlt | hge
    · obtain ⟨x, hx⟩ : ∃ x, s[i] = x := ⟨_, rfl⟩
      have HX := Lib.hid (show l[i]? = some x by rw [← HL.out, ← hx]; exact str_ix hlt)
      by_cases hb : x = sc
      · have hq : ((x.toNat : Int) == (sc.toNat : Int)) = true := by rw [hb]; exact beq_self_eq_true _
        have HB := Lib.hid hb
        clear hb
        have hfs : f ≤ s.size := by omega
        obtain ⟨P, hP⟩ : ∃ P, s.extract f i = P := ⟨_, rfl⟩
        have HP := Lib.hid (show P.data.toList = (l.drop f).take (i - f) by rw [← hP, Lib.extract_data, HL.out])
        go_wp2_with (at_builtin; refine wpList_append_s1 (w0 := w) rfl _ _ rfl _ ws (by rfl) (HO.out.alloc _) ((l.drop f).take (i - f)) wr.heap.size (by rfl) (by rw [← HP.out]; simp) (by have := HLw.out; omega) (bl_alloc Br _) ?_; intro ws2 g2 c2 wn HA2 HO2 hg BN _)
        clear hg
        go_wp2
        go_roundw
        case rel =>
          refine ⟨ws2, g2, c2, i + 1, i + 1, rfl, by simp, by simp, Nat.le_refl _, by omega, HO2.out, Lib.hid ⟨?_, by simp, ?_⟩, BN⟩
          · have h1 := HW.out.1
            have hx2 := HX.out
            rw [HB.out] at hx2
            rw [drop_split hf hx2, spl_hit _ HW.out.2.1] at h1
            rw [HA2.out, ← h1]; simp
          · rw [HA2.out]; have := HW.out.2.2; simp; omega
        case measure => simp only [intOf]; omega
      · have hq : ((x.toNat : Int) == (sc.toNat : Int)) = false := beq_eq_false_iff_ne.2 (fun q => hb (UInt8.toNat_inj.1 (by omega)))
        have HB := Lib.hid hb
        clear hb
        go_wp2
        go_roundw
        case rel =>
          refine ⟨ws, g, c, f, i + 1, rfl, rfl, by simp, by omega, by omega, HO.out, Lib.hid ⟨HW.out.1, ?_, by have := HW.out.2.2; omega⟩, Br⟩
          rw [piece_snoc hf HX.out]
          simp only [List.mem_append, List.mem_singleton, not_or]
          exact ⟨HW.out.2.1, fun q => HB.out q.symm⟩
        case measure => simp only [intOf, Int.toNat_natCast]; omega
    · obtain rfl : i = s.size := by omega
      obtain ⟨P, hP⟩ : ∃ P, s.extract f s.size = P := ⟨_, rfl⟩
      have HP := Lib.hid (show P.data.toList = l.drop f by rw [← hP, Lib.extract_data, HL.out]; exact List.take_of_length_le (by rw [List.length_drop, HLN.out]; exact Nat.le_refl _))
      have HE := Lib.hid (show ws ++ [l.drop f] = spl sc l by
        rw [← HW.out.1, spl_none]
        have := HW.out.2.1
        rwa [List.take_of_length_le (by rw [List.length_drop, HLN.out]; exact Nat.le_refl _)] at this)
      go_wp2_with (at_builtin; refine wpList_append_s1 (w0 := w) rfl _ _ rfl _ ws (by rfl) (HO.out.alloc _) (l.drop f) wr.heap.size (by rfl) (by rw [← HP.out]; simp) (by have := HLw.out; omega) (bl_alloc Br _) ?_; intro ws2 g2 c2 wn HA2 HO2 hg BN _)
      clear hg
      have HE2 := Lib.hid (show ws2 = spl sc l by rw [HA2.out]; exact HE.out)
      go_wp2
      go_ret
      have := HO2.out
      rw [HE2.out] at this
      exact ⟨g2, c2, by rw [← HE2.out]; rfl, this, BN⟩


end Go.Proofs.YtndblondleclpaaGreatDoor

