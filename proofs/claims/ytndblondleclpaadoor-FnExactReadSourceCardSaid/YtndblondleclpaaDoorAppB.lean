/- Rows of one-cell elements of the call's own (bytes, strings): made, appended to; bytes turned into a string; a string's bytes in a new row. Each theorem names its conditions. -/
import Derived.Test.YtndblondleclpaaDoorBase
import Derived.ArgAppend
import Derived.Lib.ConvBytes
import Derived.Lib.Strings
import Derived.Laws.BytesString
import Derived.OwnWalk
namespace Go.Proofs.YtndblondleclpaaDoor
open Go.RowKit
set_option linter.unusedVariables false
set_option linter.unusedSimpArgs false

theorem add_litB (b o j : Nat) : (⟨b, o, none⟩ : Addr).add j = ⟨b, o + j, none⟩ := by unfold Addr.add; split <;> simp_all

/-- An element of a list, in every later world. -/
theorem Sl.cellIn {w : World} {a : Option Addr} {n c : Nat} {xs : List Int} (h : Sl w (.slice a n c) xs) {k : Nat} (hk : k < xs.length) :
    ∃ b o, a = some ⟨b, o, none⟩ ∧ b < w.heap.size ∧ ∃ x, xs[k]? = some x ∧ R64 x ∧ Hid (∀ w', Bl w w' → w'.cell? ⟨b, o + k, none⟩ = some (.int .i64 x)) := by
  obtain ⟨a', cap, e, h1, h2, h3, h4, h5⟩ := h
  simp only [Value.slice.injEq] at e
  obtain ⟨rfl, rfl, rfl⟩ := e
  rcases h5 with h5 | ⟨b, off, rfl, hc⟩
  · rw [h5] at hk; simp at hk
  · have hx : xs[k]? = some xs[k] := List.getElem?_eq_getElem hk
    exact ⟨b, off, rfl, cell_lt (hc k _ hx), _, hx, h3 _ (List.getElem_mem hk), Lib.hid fun w' hb => (hb.cell (p := ⟨b, off + k, none⟩) (cell_lt (hc k _ hx))).trans (hc k _ hx)⟩

/-- The slice value v, nil or of a row of the call's own (from block B on), holds the cells cs; all its places can be written. -/
def OwX (w : World) (B : Nat) (v : Value) (cs : List Value) : Prop :=
  (∀ u ∈ cs, u.oneCell' = true) ∧ ((v = .slice none 0 0 ∧ cs = []) ∨ ∃ g cap, v = .slice (some ⟨g, 0, none⟩) cs.length cap ∧ B ≤ g ∧ cs.length ≤ cap ∧ cap ≤ maxLen ∧ g < w.heap.size ∧
    (∀ (i : Nat) (u : Value), cs[i]? = some u → w.cell? ⟨g, i, none⟩ = some u) ∧
    (∀ j, j < cap → (w.cell? ⟨g, j, none⟩).isSome = true ∧ w.frozen? ⟨g, j, none⟩ = false))
theorem OwX.form {w : World} {B : Nat} {v : Value} {cs : List Value} (h : OwX w B v cs) : ∃ a c, v = .slice a cs.length c ∧ cs.length ≤ c ∧ c ≤ maxLen := by
  rcases h.2 with ⟨rfl, rfl⟩ | ⟨g, cap, e, hB, h1, h2, h3, _⟩
  · exact ⟨none, 0, rfl, Nat.le_refl _, by simp [maxLen]⟩
  · exact ⟨_, cap, e, h1, h2⟩
theorem OwX.form1 {w : World} {B : Nat} {v : Value} {cs : List Value} (h : OwX w B v cs) (hne : cs ≠ []) : ∃ g c, v = .slice (some ⟨g, 0, none⟩) cs.length c ∧ B ≤ g ∧ g < w.heap.size ∧ cs.length ≤ c ∧ c ≤ maxLen := by
  rcases h.2 with ⟨rfl, rfl⟩ | ⟨g, cap, e, hB, h1, h2, h3, _⟩
  · exact absurd rfl hne
  · exact ⟨g, cap, e, hB, h3, h1, h2⟩
theorem bl_grownX {w wr wn : World} {row : Option Nat} (h : Bl w wr) (hg : wr.grownBy wn row) (hr : ∀ k, row = some k → w.heap.size ≤ k) : Bl w wn :=
  ⟨hg.os.trans h.os, hg.tape.trans h.tape, hg.output.trans h.output, Nat.le_trans h.size hg.size, fun k hk => (hg.block k (Nat.lt_of_lt_of_le hk h.size) (fun e => by have := hr k e.symm; omega)).trans (h.block k hk)⟩
theorem OwX.lt {w : World} {B : Nat} {v : Value} {cs : List Value} (h : OwX w B v cs) : ∀ k, v.ownBlock = some k → B ≤ k ∧ k < w.heap.size := by
  intro k hk
  rcases h.2 with ⟨rfl, rfl⟩ | ⟨g, cap, rfl, hB, h1, h2, h3, _⟩
  · simp [Value.ownBlock] at hk
  · simp [Value.ownBlock] at hk
    subst hk; exact ⟨hB, h3⟩
theorem OwX.cell {w : World} {B n c g : Nat} {cs : List Value} (h : OwX w B (.slice (some ⟨g, 0, none⟩) n c) cs) {i : Nat} {u : Value} (hi : cs[i]? = some u) : w.cell? ⟨g, i, none⟩ = some u := by
  rcases h.2 with ⟨e, _⟩ | ⟨g', cap, e, hB, h1, h2, h3, h4, _⟩
  · cases e
  · injection e with e _ _; injection e with e; injection e with e; subst e; exact h4 i u hi
theorem OwX.kept {w w' : World} {B : Nat} {v : Value} {cs : List Value} {row : Option Nat} (h : OwX w B v cs) (hg : w.grownBy w' row) (hne : v.ownBlock = none ∨ v.ownBlock ≠ row) : OwX w' B v cs := by
  refine ⟨h.1, ?_⟩
  rcases h.2 with q | ⟨g, cap, rfl, hB, h1, h2, h3, h4, h5⟩
  · exact .inl q
  · have hb : w'.heap[g]? = w.heap[g]? := hg.block g h3 (by simpa [Value.ownBlock] using hne)
    refine .inr ⟨g, cap, rfl, hB, h1, h2, Nat.lt_of_lt_of_le h3 hg.size, fun i b hi => ?_, fun j hj => ?_⟩
    · rw [World.cell?_of_block (a := ⟨g, i, none⟩) hb]; exact h4 i b hi
    · rw [World.cell?_of_block (a := ⟨g, j, none⟩) hb, World.frozen?_of_block (a := ⟨g, j, none⟩) hb]; exact h5 j hj
theorem OwX.below {w w' : World} {B : Nat} {v : Value} {cs : List Value} (h : OwX w B v cs) (hb : Bl w w') : OwX w' B v cs := by
  refine h.kept (row := none) (grown_of_below hb none) ?_
  cases v.ownBlock <;> simp
theorem OwX.alloc {w : World} {B : Nat} {v : Value} {cs : List Value} (h : OwX w B v cs) (o : Obj) : OwX (w.alloc o) B v cs := h.below (bl_alloc (bl_refl _) o)
theorem OwX.drew {w : World} {B : Nat} {v : Value} {cs : List Value} (h : OwX w B v cs) : OwX w.drew B v cs := h
theorem OwX.nil (w : World) (B : Nat) : OwX w B (.slice none 0 0) [] := ⟨by simp, .inl ⟨rfl, rfl⟩⟩
theorem OwX.made {w : World} {B : Nat} (hB : B ≤ w.heap.size) (e : TypeId) : OwX (w.alloc (.cells #[] e)) B (.slice (some ⟨w.heap.size, 0, none⟩) 0 0) [] :=
  ⟨by simp, .inr ⟨w.heap.size, 0, rfl, hB, Nat.le_refl _, by simp [maxLen], by simp, by simp, by omega⟩⟩
theorem OwX.lit {w : World} {B : Nat} (hB : B ≤ w.heap.size) (u : Value) (hu : u.oneCell' = true) (e : TypeId) : OwX (w.alloc (.cells #[u] e)) B (.slice (some ⟨w.heap.size, 0, none⟩) 1 1) [u] := by
  refine ⟨by simpa using hu, .inr ⟨w.heap.size, 1, rfl, hB, Nat.le_refl _, by simp [maxLen], by simp, fun i b hi => ?_, fun j hj => ?_⟩⟩
  · match i, hi with
    | 0, hi => simp at hi; subst hi; simp
  · obtain rfl : j = 0 := by omega
    simp

theorem size_setCells (b : Nat) : ∀ (vs : List Value) (o : Nat) (w : World), (w.setCells b o vs).heap.size = w.heap.size
  | [], _, _ => rfl
  | v :: r, o, w => by rw [World.setCells, size_setCells b r (o + 1)]; simp
theorem grown_setCells (b : Nat) : ∀ (vs : List Value) (o : Nat) (w : World), w.grownBy (w.setCells b o vs) (some b)
  | [], _, w => World.grownBy.refl _ _
  | v :: r, o, w => by
    rw [World.setCells]
    have h := grown_setCells b r (o + 1) (w.setCell ⟨b, o, none⟩ v)
    exact ⟨h.os, h.tape, h.output, by have := h.size; simpa using this, fun k hk hne => (h.block k (by simpa using hk) hne).trans (Below.heap_setCell w ⟨b, o, none⟩ v k (fun e => hne (by rw [e])))⟩
theorem owX_of_row {w : World} {B e n : Nat} {v : Value} {cs : List Value} (h1 : ∀ u ∈ cs, u.oneCell' = true) (r : w.ownsRow B e 1 v n cs) : OwX w B v cs := by
  refine ⟨h1, ?_⟩
  have hl : cs.length = n := by rw [r.1, Nat.mul_one]
  subst hl
  rcases r.2 with ⟨e, hn⟩ | ⟨g', cap', cur, rfl, hb, hh, hn, hm, hsz, ht⟩
  · exact .inl ⟨e, List.eq_nil_of_length_eq_zero hn⟩
  · have hlt := (Array.getElem?_eq_some_iff.1 hh).1
    refine .inr ⟨g', cap', rfl, hb, hn, hm, hlt, fun i b hi => ?_, fun j hj => ?_⟩
    · have hi2 := (List.getElem?_eq_some_iff.1 hi).1
      rw [← ht, List.getElem?_take, if_pos (by omega)] at hi
      rw [cell_of_row w g' i cur _ (0, 0) hh]
      simpa using hi
    · rw [cell_of_row w g' j cur _ (0, 0) hh, frozen_of_row w g' j cur _ hh]
      exact ⟨by simp [show j < cur.size by omega], rfl⟩

theorem info_partsB {P : Program} {e : TypeId} {z : Value} {n m : Nat} (h : (P.info? e).map (fun i => (i.zero, i.size, i.bytes)) = some (some z, n, m)) : ∃ i, P.info? e = some i ∧ i.zero = some z ∧ i.size = n ∧ i.bytes = m := by
  obtain ⟨i, hi, he⟩ := Option.map_eq_some_iff.1 h
  simp only [Prod.mk.injEq] at he
  exact ⟨i, hi, he.1, he.2.1, he.2.2⟩

/-- append(s, x...): s the call's own, x a row. -/
theorem wp_append_x {w : World} {o : Oper} {a : Act} {K : Act → World → Prop} {Q : Exit → Act → World → Prop} {t e : TypeId} {z : Value} {bytes : Nat} (hu : Tryd.prog.underlying t = some (.slice e))
    (hinfo : (Tryd.prog.info? e).map (fun i => (i.zero, i.size, i.bytes)) = some (some z, 1, bytes)) (hz : z.cells.size = 1) (hby : bytes ≤ 100) (s x : Operand)
    (ho : o.op = .call { callee := .builtin .append, args := #[s, x], argTypes := #[t, t] })
    (B : Nat) (v : Value) (bs : List Value) (hs : a.eval s = v) (hown : OwX w B v bs) (m c : Nat) (cs : List Value) (hx : a.eval x = .slice (some ⟨m, 0, none⟩) cs.length c) (hc1 : ∀ u ∈ cs, u.oneCell' = true)
    (hcs : ∀ (i : Nat) (u : Value), cs[i]? = some u → w.cell? ⟨m, i, none⟩ = some u) (hl : bs.length + cs.length ≤ 1000000000) (hB : B ≤ w.heap.size)
    (h : ∀ v' w', OwX w' B v' (bs ++ cs) → w.grownBy w' v.ownBlock → (v'.ownBlock = v.ownBlock ∨ ∀ k, v'.ownBlock = some k → w.heap.size ≤ k) → K (a.put o.dst v') w') :
    Oper.wp Tryd.prog o a w K Q := by
  obtain ⟨i0, hi, hz0, hz1, hz2⟩ := info_partsB hinfo
  have h1' : ∀ u ∈ bs ++ cs, u.oneCell' = true := fun u hu => (List.mem_append.1 hu).elim (hown.1 u) (hc1 u)
  have hnews : ∀ (j : Nat) (u : Value), cs[j]? = some u → w.cell? ((⟨m, 0, none⟩ : Addr).add j) = some u := by
    intro j u hu
    rw [add_litB, Nat.zero_add]; exact hcs j u hu
  have hbb : (bs.length + cs.length) * bytes ≤ 140737488355328 := Nat.le_trans (Nat.mul_le_mul hl hby) (by decide)
  rcases hown.2 with ⟨rfl, rfl⟩ | ⟨g, cap, rfl, hBg, h1, h2, h3, h4, h5⟩
  · refine wp_append_own w s x t ho w.heap.size e i0 z 1 bytes hu hi hz0 hz1 hz2 hz (by decide) (.slice none 0 0) 0 [] hs (World.ownsRow_nil _ _ _ _) ⟨m, 0, none⟩ cs.length c cs hx (by simp) hnews hc1 (by unfold maxLen; simp at hl; omega) (by simpa using hbb) (Nat.le_refl _) ?_
    intro v' w' r1 r2 _
    have hO : OwX w' w.heap.size v' ([] ++ cs) := owX_of_row h1' r1
    refine h v' w' ⟨h1', ?_⟩ r2 (.inr fun k hk => (hO.lt k hk).1)
    rcases hO.2 with q | ⟨g', cap', e0, hb, q⟩
    · exact .inl q
    · exact .inr ⟨g', cap', e0, Nat.le_trans hB hb, q⟩
  · by_cases hr : bs.length + cs.length ≤ cap
    · have hrun := run_append_room_cells (P := Tryd.prog) w t o.type e i0 hu hi g 0 bs.length cap ⟨m, 0, none⟩ cs.length c cs (by rw [hz1]; omega) hnews hc1 hr
        (fun j hj => by rw [hz1]; exact (h5 _ (by omega)).1) (fun j hj => by rw [hz1]; exact (h5 _ (by omega)).2)
      rw [hz1, Nat.mul_one, Nat.zero_add] at hrun
      unfold Oper.wp
      simp [execOp, ho, resolve, invoke, builtin, hs, hx, hrun, Result.andThen]
      have hsome : ∀ j, j < cs.length → (w.cell? ⟨g, bs.length + j, none⟩).isSome = true := fun j hj => (h5 _ (by omega)).1
      refine h _ _ ⟨h1', .inr ⟨g, cap, by rw [List.length_append], hBg, by rw [List.length_append]; exact hr, h2, by rw [size_setCells]; exact h3, fun i b hi => ?_, fun j hj => ?_⟩⟩ (grown_setCells _ _ _ _) (.inl rfl)
      · by_cases hlt : i < bs.length
        · rw [List.getElem?_append_left hlt] at hi
          rw [World.cell?_setCells_out _ _ _ _ _ (fun _ _ => .inl hlt)]; exact h4 i b hi
        · rw [List.getElem?_append_right (by omega)] at hi
          obtain ⟨hi2, hg2⟩ := List.getElem?_eq_some_iff.1 hi
          have := World.cell?_setCells_in g cs bs.length w hsome (i - bs.length) hi2
          rw [show bs.length + (i - bs.length) = i by omega] at this
          rw [this, hg2]
      · rw [World.frozen?_setCells]
        refine ⟨?_, (h5 j hj).2⟩
        by_cases hin : bs.length ≤ j ∧ j < bs.length + cs.length
        · have := World.cell?_setCells_in g cs bs.length w hsome (j - bs.length) (by omega)
          rw [show bs.length + (j - bs.length) = j by omega] at this
          rw [this]; rfl
        · rw [World.cell?_setCells_out _ _ _ _ _ (fun _ _ => by show j < _ ∨ _ ≤ j; omega)]; exact (h5 j hj).1
    · obtain ⟨v', w', hrun, r1, r2⟩ := run_append_arg_grows (P := Tryd.prog) w t o.type e i0 z 1 bytes hu hi hz0 hz1 hz2 hz (by decide) ⟨g, 0, none⟩ bs.length cap bs (by simp)
        (fun j u hu => by rw [add_litB, Nat.zero_add]; exact h4 j u hu) ⟨m, 0, none⟩ cs.length c cs (by simp) hnews (by omega) (by unfold maxLen; omega) hbb
      unfold Oper.wp
      simp [execOp, ho, resolve, invoke, builtin, hs, hx, hrun, Result.andThen]
      have hO : OwX w' w.heap.size v' (bs ++ cs) := owX_of_row h1' r1
      refine h _ w' ⟨h1', ?_⟩ ⟨r2.os, r2.tape, r2.output, r2.size, fun b hb _ => r2.block b hb (by simp)⟩ (.inr (fun k hk => (hO.lt k hk).1))
      rcases hO.2 with q | ⟨g', cap', e0, hb, q⟩
      · exact .inl q
      · exact .inr ⟨g', cap', e0, Nat.le_trans hB hb, q⟩
theorem wpList_append_x {w : World} {ops : Array Oper} {rest : List Oper} {o : Oper} {a : Act} {Q : Exit → Act → World → Prop} (hgd : o.guard = none) {t e : TypeId} {z : Value} {bytes : Nat} (hu : Tryd.prog.underlying t = some (.slice e))
    (hinfo : (Tryd.prog.info? e).map (fun i => (i.zero, i.size, i.bytes)) = some (some z, 1, bytes)) (hz : z.cells.size = 1) (hby : bytes ≤ 100) (s x : Operand)
    (ho : o.op = .call { callee := .builtin .append, args := #[s, x], argTypes := #[t, t] })
    (B : Nat) (v : Value) (bs : List Value) (hs : a.eval s = v) (hown : OwX w B v bs) (m c : Nat) (cs : List Value) (hx : a.eval x = .slice (some ⟨m, 0, none⟩) cs.length c) (hc1 : ∀ u ∈ cs, u.oneCell' = true)
    (hcs : ∀ (i : Nat) (u : Value), cs[i]? = some u → w.cell? ⟨m, i, none⟩ = some u) (hl : bs.length + cs.length ≤ 1000000000) (hB : B ≤ w.heap.size)
    (h : ∀ v' w', OwX w' B v' (bs ++ cs) → w.grownBy w' v.ownBlock → (v'.ownBlock = v.ownBlock ∨ ∀ k, v'.ownBlock = some k → w.heap.size ≤ k) → wpList Tryd.prog ops Q rest (a.put o.dst v') w') :
    wpList Tryd.prog ops Q (o :: rest) a w :=
  wpList_plain hgd fun _ hK => wp_append_x hu hinfo hz hby s x ho B v bs hs hown m c cs hx hc1 hcs hl hB fun v' w' h2 h3 h4 => hK _ _ (h v' w' h2 h3 h4)
theorem step_append_x {w : World} {ops : Array Oper} {o : Oper} {a : Act} {K : Act → World → Prop} {Q : Exit → Act → World → Prop} {E : Prop} (hgd : o.guard = none) {t e : TypeId} {z : Value} {bytes : Nat} (hu : Tryd.prog.underlying t = some (.slice e))
    (hinfo : (Tryd.prog.info? e).map (fun i => (i.zero, i.size, i.bytes)) = some (some z, 1, bytes)) (hz : z.cells.size = 1) (hby : bytes ≤ 100) (s x : Operand)
    (ho : o.op = .call { callee := .builtin .append, args := #[s, x], argTypes := #[t, t] })
    (B : Nat) (v : Value) (bs : List Value) (hs : a.eval s = v) (hown : OwX w B v bs) (m c : Nat) (cs : List Value) (hx : a.eval x = .slice (some ⟨m, 0, none⟩) cs.length c) (hc1 : ∀ u ∈ cs, u.oneCell' = true)
    (hcs : ∀ (i : Nat) (u : Value), cs[i]? = some u → w.cell? ⟨m, i, none⟩ = some u) (hl : bs.length + cs.length ≤ 1000000000) (hB : B ≤ w.heap.size)
    (h : ∀ v' w', OwX w' B v' (bs ++ cs) → w.grownBy w' v.ownBlock → (v'.ownBlock = v.ownBlock ∨ ∀ k, v'.ownBlock = some k → w.heap.size ≤ k) → K (a.put o.dst v') w') :
    if Region.wanted o (yielded ops a.tmps) = true then Oper.wp Tryd.prog o a w K Q else E := by
  have hw : Region.wanted o (yielded ops a.tmps) = true := by simp [Region.wanted, hgd]
  rw [if_pos hw]
  exact wp_append_x hu hinfo hz hby s x ho B v bs hs hown m c cs hx hc1 hcs hl hB h

/-! Bytes. -/
def cB (bs : List UInt8) : List Value := bs.map fun b => Value.int .u8 (b.toNat : Int)
theorem cB_len (bs : List UInt8) : (cB bs).length = bs.length := by simp [cB]
theorem cB_one (bs : List UInt8) : ∀ u ∈ cB bs, u.oneCell' = true := by
  intro u hu
  obtain ⟨b, _, rfl⟩ := List.mem_map.1 hu
  rfl
theorem cB_app (bs cs : List UInt8) : cB (bs ++ cs) = cB bs ++ cB cs := by simp [cB]
theorem cB_get {bs : List UInt8} {i : Nat} {b : UInt8} (h : bs[i]? = some b) : (cB bs)[i]? = some (.int .u8 (b.toNat : Int)) := by simp [cB, h]
theorem info_u8 : (Tryd.prog.info? 5).map (fun i => (i.zero, i.size, i.bytes)) = some (some (.int .u8 0), 1, 1) := by kernel_rfl
abbrev OwB (w : World) (B : Nat) (v : Value) (bs : List UInt8) : Prop := OwX w B v (cB bs)
/-- A string's bytes in a new row. -/
theorem OwB.conv {w : World} {B : Nat} (hB : B ≤ w.heap.size) (s : ByteArray) (hc : grownCap w s.size 0 5 ≤ maxLen) :
    OwB (Lib.bytesWorld w 5 s) B (.slice (some ⟨w.heap.size, 0, none⟩) s.size (grownCap w s.size 0 5)) s.data.toList ∧ Bl w (Lib.bytesWorld w 5 s) := by
  have hge := grownCap_ge w s.size 0 5
  have hcs : (Lib.bytesCells w 5 s).size = grownCap w s.size 0 5 := by
    simp only [Lib.bytesCells, Array.size_append, Array.size_map, Array.size_replicate]
    have : s.data.size = s.size := rfl
    omega
  have hlen : (cB s.data.toList).length = s.size := by rw [cB_len]; exact (Lib.size_eq s).symm
  refine ⟨⟨cB_one _, .inr ⟨w.heap.size, grownCap w s.size 0 5, by rw [hlen], hB, by rw [hlen]; exact hge, hc, by rw [Lib.bytesWorld_size]; omega, fun i b hi => ?_, fun j hj => ?_⟩⟩, ?_⟩
  · have hl := (List.getElem?_eq_some_iff.1 hi).1
    rw [Lib.bytesWorld_cell w _ s i (by omega), ← hi]
    simp only [cB, List.getElem?_map, List.getD]
    rw [List.getElem?_eq_getElem (by rw [cB_len] at hl; exact hl)]; rfl
  · have hnew := Lib.bytesWorld_at_new w 5 s
    refine ⟨?_, ?_⟩
    · simp [World.cell?, hnew, hcs, hj]
    · simp [World.frozen?, hnew, hcs]
      omega
  · exact ⟨rfl, rfl, rfl, by rw [Lib.bytesWorld_size]; omega, fun k hk => Lib.bytesWorld_at_old w _ s k hk⟩
theorem fold_push : ∀ (bs : List UInt8) (s : ByteArray), (bs.map fun b => ((b.toNat : Nat) : Int)).foldl (fun r n => r.push (UInt8.ofNat n.toNat)) s = ⟨s.data ++ bs.toArray⟩
  | [], s => by simp
  | b :: bs, s => by
    rw [List.map_cons, List.foldl_cons, fold_push bs]
    simp [ByteArray.push]
/-- string(x), x a row of bytes. -/
theorem run_string_b {w : World} {B g n c : Nat} {bs : List UInt8} (h : OwB w B (.slice (some ⟨g, 0, none⟩) n c) bs) : (convert 49 9 (.slice (some ⟨g, 0, none⟩) n c)).run Tryd.prog w = .ok (.string ⟨bs.toArray⟩) w := by
  have hn : n = bs.length := by
    obtain ⟨a, c', e, _⟩ := h.form
    injection e with _ e _; rw [e, cB_len]
  subst hn
  have hld : (loadCells ⟨g, 0, none⟩ bs.length).run Tryd.prog w = .ok ((bs.map fun b => ((b.toNat : Nat) : Int)).map (Value.int .u8)).toArray w := by
    have := run_loadCells_list (P := Tryd.prog) w ⟨g, 0, none⟩ (cB bs) (fun j v hv => by rw [add_litB, Nat.zero_add]; exact h.cell hv)
    rw [cB_len] at this
    rw [this]
    simp [cB]
  rw [run_convert_bytes_string w 49 9 5 _ _ _ Tryd.underlying49 Tryd.underlying5 Tryd.underlying9, run_bytesToString w _ _ _ _ hld, fold_push]
  simp

theorem str_app (a b : List UInt8) : (⟨a.toArray⟩ : ByteArray) ++ ⟨b.toArray⟩ = ⟨(a ++ b).toArray⟩ := by
  apply ByteArray.ext
  rw [ByteArray.data_append]
  simp
theorem str_get (a : ByteArray) : a = ⟨a.data.toList.toArray⟩ := by simp

/-! Strings. -/
def cS (l : List (List UInt8)) : List Value := l.map fun b => Value.string ⟨b.toArray⟩
theorem cS_len (l : List (List UInt8)) : (cS l).length = l.length := by simp [cS]
theorem cS_one (l : List (List UInt8)) : ∀ u ∈ cS l, u.oneCell' = true := by
  intro u hu
  obtain ⟨b, _, rfl⟩ := List.mem_map.1 hu
  rfl
theorem cS_app (l m : List (List UInt8)) : cS (l ++ m) = cS l ++ cS m := by simp [cS]
theorem cS_get {l : List (List UInt8)} {i : Nat} {b : List UInt8} (h : l[i]? = some b) : (cS l)[i]? = some (.string ⟨b.toArray⟩) := by simp [cS, h]
theorem info_str : (Tryd.prog.info? 9).map (fun i => (i.zero, i.size, i.bytes)) = some (some (.string ByteArray.empty), 1, 16) := by kernel_rfl
abbrev OwS (w : World) (B : Nat) (v : Value) (l : List (List UInt8)) : Prop := OwX w B v (cS l)

/-! One element more. -/
theorem wpList_append_b1 {w0 w : World} {ops : Array Oper} {rest : List Oper} {o : Oper} {a : Act} {Q : Exit → Act → World → Prop} (hgd : o.guard = none) (s x : Operand)
    (ho : o.op = .call { callee := .builtin .append, args := #[s, x], argTypes := #[49, 49] })
    (v : Value) (acc : List UInt8) (hs : a.eval s = v) (hown : OwB w w0.heap.size v acc) (y : UInt8) (m : Nat) (hx : a.eval x = .slice (some ⟨m, 0, none⟩) 1 1) (hm : w.cell? ⟨m, 0, none⟩ = some (.int .u8 (y.toNat : Int)))
    (hl : acc.length ≤ 100000000) (hB : Bl w0 w)
    (h : ∀ (acc' : List UInt8) (g c : Nat) (w' : World), Hid (acc' = acc ++ [y]) → Hid (OwB w' w0.heap.size (.slice (some ⟨g, 0, none⟩) acc'.length c) acc') → w.grownBy w' v.ownBlock → Bl w0 w' → Hid (some g = v.ownBlock ∨ w.heap.size ≤ g) → wpList Tryd.prog ops Q rest (a.put o.dst (.slice (some ⟨g, 0, none⟩) acc'.length c)) w') :
    wpList Tryd.prog ops Q (o :: rest) a w := by
  skip
  refine wpList_append_x hgd Tryd.underlying49 info_u8 rfl (by decide) s x ho w0.heap.size v (cB acc) hs hown m 1 [(.int .u8 (y.toNat : Int))] hx (by intro u hu; simp at hu; subst hu; rfl) (by intro i u hi; match i, hi with | 0, hi => simp at hi; subst hi; exact hm) (by rw [cB_len]; simp; omega) hB.size ?_
  intro v' w' h1 h2 h3
  obtain ⟨g, c, rfl, _⟩ := h1.form1 (by simp)
  have e : cB acc ++ [(.int .u8 (y.toNat : Int))] = cB (acc ++ [y]) := by rw [cB_app]; rfl
  rw [e] at h1 h3 ⊢
  rw [cB_len] at h1 h3 ⊢
  exact h _ g c w' (Lib.hid rfl) (Lib.hid h1) h2 (bl_grownX hB h2 (fun k hk => (hown.lt k hk).1)) (Lib.hid (by
    rcases h3 with q | q
    · exact .inl q
    · exact .inr (q g rfl)))
theorem step_append_b1 {w0 w : World} {ops : Array Oper} {o : Oper} {a : Act} {K : Act → World → Prop} {Q : Exit → Act → World → Prop} {E : Prop} (hgd : o.guard = none) (s x : Operand)
    (ho : o.op = .call { callee := .builtin .append, args := #[s, x], argTypes := #[49, 49] })
    (v : Value) (acc : List UInt8) (hs : a.eval s = v) (hown : OwB w w0.heap.size v acc) (y : UInt8) (m : Nat) (hx : a.eval x = .slice (some ⟨m, 0, none⟩) 1 1) (hm : w.cell? ⟨m, 0, none⟩ = some (.int .u8 (y.toNat : Int)))
    (hl : acc.length ≤ 100000000) (hB : Bl w0 w)
    (h : ∀ (acc' : List UInt8) (g c : Nat) (w' : World), Hid (acc' = acc ++ [y]) → Hid (OwB w' w0.heap.size (.slice (some ⟨g, 0, none⟩) acc'.length c) acc') → w.grownBy w' v.ownBlock → Bl w0 w' → Hid (some g = v.ownBlock ∨ w.heap.size ≤ g) → K (a.put o.dst (.slice (some ⟨g, 0, none⟩) acc'.length c)) w') :
    if Region.wanted o (yielded ops a.tmps) = true then Oper.wp Tryd.prog o a w K Q else E := by
  skip
  refine step_append_x hgd Tryd.underlying49 info_u8 rfl (by decide) s x ho w0.heap.size v (cB acc) hs hown m 1 [(.int .u8 (y.toNat : Int))] hx (by intro u hu; simp at hu; subst hu; rfl) (by intro i u hi; match i, hi with | 0, hi => simp at hi; subst hi; exact hm) (by rw [cB_len]; simp; omega) hB.size ?_
  intro v' w' h1 h2 h3
  obtain ⟨g, c, rfl, _⟩ := h1.form1 (by simp)
  have e : cB acc ++ [(.int .u8 (y.toNat : Int))] = cB (acc ++ [y]) := by rw [cB_app]; rfl
  rw [e] at h1 h3 ⊢
  rw [cB_len] at h1 h3 ⊢
  exact h _ g c w' (Lib.hid rfl) (Lib.hid h1) h2 (bl_grownX hB h2 (fun k hk => (hown.lt k hk).1)) (Lib.hid (by
    rcases h3 with q | q
    · exact .inl q
    · exact .inr (q g rfl)))
theorem wpList_append_s1 {w0 w : World} {ops : Array Oper} {rest : List Oper} {o : Oper} {a : Act} {Q : Exit → Act → World → Prop} (hgd : o.guard = none) (s x : Operand)
    (ho : o.op = .call { callee := .builtin .append, args := #[s, x], argTypes := #[54, 54] })
    (v : Value) (acc : List (List UInt8)) (hs : a.eval s = v) (hown : OwS w w0.heap.size v acc) (y : List UInt8) (m : Nat) (hx : a.eval x = .slice (some ⟨m, 0, none⟩) 1 1) (hm : w.cell? ⟨m, 0, none⟩ = some (.string ⟨y.toArray⟩))
    (hl : acc.length ≤ 100000000) (hB : Bl w0 w)
    (h : ∀ (acc' : List (List UInt8)) (g c : Nat) (w' : World), Hid (acc' = acc ++ [y]) → Hid (OwS w' w0.heap.size (.slice (some ⟨g, 0, none⟩) acc'.length c) acc') → w.grownBy w' v.ownBlock → Bl w0 w' → Hid (some g = v.ownBlock ∨ w.heap.size ≤ g) → wpList Tryd.prog ops Q rest (a.put o.dst (.slice (some ⟨g, 0, none⟩) acc'.length c)) w') :
    wpList Tryd.prog ops Q (o :: rest) a w := by
  skip
  refine wpList_append_x hgd Tryd.underlying54 info_str rfl (by decide) s x ho w0.heap.size v (cS acc) hs hown m 1 [(.string ⟨y.toArray⟩)] hx (by intro u hu; simp at hu; subst hu; rfl) (by intro i u hi; match i, hi with | 0, hi => simp at hi; subst hi; exact hm) (by rw [cS_len]; simp; omega) hB.size ?_
  intro v' w' h1 h2 h3
  obtain ⟨g, c, rfl, _⟩ := h1.form1 (by simp)
  have e : cS acc ++ [(.string ⟨y.toArray⟩)] = cS (acc ++ [y]) := by rw [cS_app]; rfl
  rw [e] at h1 h3 ⊢
  rw [cS_len] at h1 h3 ⊢
  exact h _ g c w' (Lib.hid rfl) (Lib.hid h1) h2 (bl_grownX hB h2 (fun k hk => (hown.lt k hk).1)) (Lib.hid (by
    rcases h3 with q | q
    · exact .inl q
    · exact .inr (q g rfl)))
theorem step_append_s1 {w0 w : World} {ops : Array Oper} {o : Oper} {a : Act} {K : Act → World → Prop} {Q : Exit → Act → World → Prop} {E : Prop} (hgd : o.guard = none) (s x : Operand)
    (ho : o.op = .call { callee := .builtin .append, args := #[s, x], argTypes := #[54, 54] })
    (v : Value) (acc : List (List UInt8)) (hs : a.eval s = v) (hown : OwS w w0.heap.size v acc) (y : List UInt8) (m : Nat) (hx : a.eval x = .slice (some ⟨m, 0, none⟩) 1 1) (hm : w.cell? ⟨m, 0, none⟩ = some (.string ⟨y.toArray⟩))
    (hl : acc.length ≤ 100000000) (hB : Bl w0 w)
    (h : ∀ (acc' : List (List UInt8)) (g c : Nat) (w' : World), Hid (acc' = acc ++ [y]) → Hid (OwS w' w0.heap.size (.slice (some ⟨g, 0, none⟩) acc'.length c) acc') → w.grownBy w' v.ownBlock → Bl w0 w' → Hid (some g = v.ownBlock ∨ w.heap.size ≤ g) → K (a.put o.dst (.slice (some ⟨g, 0, none⟩) acc'.length c)) w') :
    if Region.wanted o (yielded ops a.tmps) = true then Oper.wp Tryd.prog o a w K Q else E := by
  skip
  refine step_append_x hgd Tryd.underlying54 info_str rfl (by decide) s x ho w0.heap.size v (cS acc) hs hown m 1 [(.string ⟨y.toArray⟩)] hx (by intro u hu; simp at hu; subst hu; rfl) (by intro i u hi; match i, hi with | 0, hi => simp at hi; subst hi; exact hm) (by rw [cS_len]; simp; omega) hB.size ?_
  intro v' w' h1 h2 h3
  obtain ⟨g, c, rfl, _⟩ := h1.form1 (by simp)
  have e : cS acc ++ [(.string ⟨y.toArray⟩)] = cS (acc ++ [y]) := by rw [cS_app]; rfl
  rw [e] at h1 h3 ⊢
  rw [cS_len] at h1 h3 ⊢
  exact h _ g c w' (Lib.hid rfl) (Lib.hid h1) h2 (bl_grownX hB h2 (fun k hk => (hown.lt k hk).1)) (Lib.hid (by
    rcases h3 with q | q
    · exact .inl q
    · exact .inr (q g rfl)))

end Go.Proofs.YtndblondleclpaaDoor
