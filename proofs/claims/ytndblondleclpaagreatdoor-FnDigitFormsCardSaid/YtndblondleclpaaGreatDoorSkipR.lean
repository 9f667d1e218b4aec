/- SkipTerms: the reference. Each theorem names its conditions. -/
import Derived.Test.YtndblondleclpaaGreatDoorSkipM
import Derived.Deep.AppendLies
import Derived.Deep.RegionLaw
namespace Go.Proofs.YtndblondleclpaaGreatDoor
open Go.RowKit
set_option linter.unusedVariables false
set_option linter.unusedSimpArgs false


theorem sterm_eqK {h p g : Value} {s : Src} {K i b0 : Nat} {t : Int} {b : Bool} (hT : termP s (K + i) = (t, b)) (w : World) (ha : SlS w h p g s) (hx : Bx w b0 #[h, p, g]) (ok : OkPer s) (hk : K + i ≤ 1100) :
    Calls Tryz.prog 50 #[.pointer (some ⟨b0, 0, none⟩), .int .i64 ((K : Int) + (i : Int))] w fun e w' => e = .returned (.tuple #[.int .i64 t, .bool b]) ∧ Bl w w' :=
  (sterm_any h p g s ((K : Int) + (i : Int)) w b0 ha hx ok (by omega) (by omega)).mono fun _ _ q => ⟨by rw [q.1, show ((K : Int) + (i : Int)).toNat = K + i by omega, hT], q.2⟩
theorem term_bdK {s : Src} (h : OkSrc s) {k : Nat} (hk : k ≤ 1100) : R64 (termP s k).1 := by
  unfold R64 termP
  split
  · rename_i hkl
    have a := h.hd k _ (List.getElem?_eq_getElem hkl)
    simp only [List.getD_eq_getElem?_getD, List.getElem?_eq_getElem hkl, Option.getD_some]
    unfold lowAt at a
    split at a <;> omega
  · split
    · simp
    · rename_i hp
      have hm : (k - s.H.length) % s.P.length < s.P.length := Nat.mod_lt _ (by omega)
      have hm2 : (k - s.H.length) % s.P.length < s.G.length := by rw [h.gp]; exact hm
      have a1 := h.per _ _ (List.getElem?_eq_getElem hm)
      have a2 := h.gr _ _ (List.getElem?_eq_getElem hm2)
      simp only [List.getD_eq_getElem?_getD, List.getElem?_eq_getElem hm, List.getElem?_eq_getElem hm2, Option.getD_some]
      have hQ : (k - s.H.length) / s.P.length ≤ k := Nat.le_trans (Nat.div_le_self _ _) (by omega)
      generalize s.P[(k - s.H.length) % s.P.length] = x at a1 ⊢
      generalize s.G[(k - s.H.length) % s.P.length] = y at a2 ⊢
      generalize (k - s.H.length) / s.P.length = Q at hQ ⊢
      have := prod_bd (Q : Int) y 1100 1000000 (by omega) (by omega) a2.1 a2.2
      omega
theorem sl_one {w : World} {b : Nat} {y : Int} (hx : Bx w b #[.int .i64 y]) (hy : R64 y) : Sl w (.slice (some ⟨b, 0, none⟩) 1 1) [y] := by
  refine ⟨some ⟨b, 0, none⟩, 1, rfl, Nat.le_refl _, by unfold maxLen; omega, fun x h => ?_, by simp, .inr ⟨b, 0, rfl, fun i x h => ?_⟩⟩
  · simp at h; subst h; exact hy
  · have hi : i = 0 := by
      rcases Nat.eq_zero_or_pos i with e | e
      · exact e
      · rw [List.getElem?_eq_none (by simp; omega)] at h; cases h
    subst hi
    simp at h
    subst h
    exact hx.out.1 0
theorem step_append_slL {w : World} {ops : Array Oper} {o : Oper} {a : Act} {K : Act → World → Prop} {Q : Exit → Act → World → Prop} {E : Prop} (hgd : o.guard = none) (s x : Operand)
    (ho : o.op = .call { callee := .builtin .append, args := #[s, x], argTypes := #[24, 24] })
    (B : Nat) (v : Value) (xs : List Int) (hs : a.eval s = v) (hown : Own w B v xs) (va : Value) (ys : List Int) (hx : a.eval x = va) (hsl : Sl w va ys) (hne : 0 < ys.length)
    (hl : xs.length + ys.length ≤ 1000000000) (hB : B ≤ w.heap.size)
    (h : ∀ v' w', Own w' B v' (xs ++ ys) → w.grownBy w' v.ownBlock → (v'.ownBlock = v.ownBlock ∨ v'.ownBlock = some w.heap.size) → K (a.put o.dst v') w') :
    if Region.wanted o (yielded ops a.tmps) = true then Oper.wp Tryz.prog o a w K Q else E := by
  obtain ⟨i0, hi, hz0, hz1, hz2⟩ := info_parts info_i64
  obtain ⟨av, cap, rfl, h1, h2, h3, h4, h5⟩ := hsl
  rcases h5 with hy | ⟨b, off, rfl, hc⟩
  · rw [hy] at hne; simp at hne
  · refine step_append_lies w hgd s x 24 ho B 2 i0 (.int .i64 0) 1 8 Tryz.underlying24 hi hz0 hz1 hz2 rfl (by decide) v xs.length (xs.map (Value.int .i64)) hs hown.1 ⟨b, off, none⟩ ys.length cap (ys.map (Value.int .i64)) hx (by simp) (fun j u hu => ?_) ?_ hne (by unfold maxLen; omega) (by omega) hB _ rfl ?_
    · rw [List.getElem?_map] at hu
      obtain ⟨y, hy, rfl⟩ := Option.map_eq_some_iff.1 hu
      rw [add_lit]
      exact hc j y hy
    · intro u hu
      obtain ⟨y, _, rfl⟩ := List.mem_map.1 hu
      rfl
    · intro g c w' a1 a2 a3 a4
      exact h _ w' (own_of_row hown.2 h3 a1) a2 (a3.imp (fun e => e.symm) (fun e => congrArg some e))
theorem own_apart {w w' : World} {B : Nat} {u v : Value} {xs : List Int} (h : Own w B u xs) (hg : w.grownBy w' v.ownBlock) (ha : Apart v u) : Own w' B u xs := by
  refine h.grown hg ?_
  cases e : u.ownBlock with
  | none => exact .inl rfl
  | some k => exact .inr (fun q => ha k q.symm e)
theorem apart_new {w : World} {B N : Nat} {u v v' : Value} {xs : List Int} (h : Own w B u xs) (ha : Apart u v) (hloc : v'.ownBlock = v.ownBlock ∨ v'.ownBlock = some N) (hN : w.heap.size ≤ N) : Apart u v' := fun k e q => by
  rcases hloc with l | l
  · exact ha k e (l ▸ q)
  · rw [l] at q
    injection q with q
    have := (h.lt k e).2
    omega
theorem apart_symm {u v : Value} (h : Apart u v) : Apart v u := fun k e q => h k q e

theorem sl_nilAny {w : World} {a : Option Addr} {c : Nat} (h : a = none → c = 0) (hc : c ≤ maxLen) : Sl w (.slice a 0 c) [] :=
  ⟨a, c, rfl, Nat.zero_le _, hc, fun x q => by simp at q, h, .inl rfl⟩
theorem sl_nilK {w : World} {a : Option Addr} {n c : Nat} (hn : n = 0) (h : a = none → c = 0) (hc : c ≤ maxLen) : Sl w (.slice a n c) [] := by subst hn; exact sl_nilAny h hc

/-- A slice expression s[k:], whatever the slice's capacity. -/
theorem slice_from {w : World} {a : Option Addr} {c : Nat} {xs : List Int} (h : Sl w (.slice a xs.length c) xs) (K : Nat) (hk : K ≤ xs.length) :
    ∃ a' c', (∀ W, (Instr.slice 24 (.slice a xs.length c) (some (.int .i64 (K : Int))) none none).run Tryz.prog W = .ok (.slice a' (xs.length - K) c') W) ∧
      (∀ W, (Instr.sliceAt 24 (.slice a xs.length c) (some (.int .i64 (K : Int))) none none).run Tryz.prog W = .ok (.slice a' (xs.length - K) c') W) ∧ Sl w (.slice a' (xs.length - K) c') (xs.drop K) := by
  have hz : ∀ w, (Go.sizeOf 2).run Tryz.prog w = .ok 1 w := fun w => by kernel_rfl
  have ht' : Tryz.prog.underlying 24 = some (.slice (Tryz.prog.elem 24)) := by simp [Program.elem, Tryz.underlying24]
  have he : Tryz.prog.elem 24 = 2 := by simp [Program.elem, Tryz.underlying24]
  have h1 : ∀ W, (Instr.slice 24 (.slice a xs.length c) (some (.int .i64 (K : Int))) none none).run Tryz.prog W = .ok (.slice (if c = K then a else a.map (·.add (K * 1))) (xs.length - K) (c - K)) W := fun W => by
    rw [run_slice_l W 24 a xs.length c ht' .i64 (K : Int) (by omega) (by omega), he, hz]
    simp [Result.andThen, sliced]
  refine ⟨_, _, h1, fun W => by rw [run_sliceAt_slice W _ _ _ _ _ ht']; exact h1 W, ?_⟩
  obtain ⟨a0, c0, e, g1, g2, g3, g4, g5⟩ := h
  simp only [Value.slice.injEq] at e
  obtain ⟨rfl, _, rfl⟩ := e
  by_cases hck : c = K
  · rw [if_pos hck]
    exact ⟨a, c - K, by simp, by simp; omega, by omega, fun x hx => g3 x (List.mem_of_mem_drop hx), fun q => by have := g4 q; omega, .inl (List.drop_eq_nil_iff.2 (by omega))⟩
  · rw [if_neg hck]
    refine ⟨_, c - K, by simp; rfl, by simp; omega, by omega, fun x hx => g3 x (List.mem_of_mem_drop hx), fun q => ?_, ?_⟩
    · have : a = none := by cases a with
        | none => rfl
        | some ad => simp at q
      have := g4 this; omega
    · rcases g5 with g5 | ⟨b, o, rfl, hc⟩
      · subst g5; exact .inl (by simp)
      · refine .inr ⟨b, o + K, by simp [Addr.add]; try (split <;> simp_all), fun i x hx => ?_⟩
        rw [List.getElem?_drop] at hx
        have := hc (K + i) x hx
        rw [show o + K + i = o + (K + i) by omega]
        exact this

end Go.Proofs.YtndblondleclpaaGreatDoor
