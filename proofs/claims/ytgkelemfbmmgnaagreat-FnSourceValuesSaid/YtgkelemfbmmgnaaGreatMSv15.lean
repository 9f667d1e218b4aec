/- Some of the texts of this claim, joined in one file: SkipR, SurdX. -/
import Derived.Test.YtgkelemfbmmgnaaGreatMSv14
import Derived.Deep.AppendLies
import Derived.Deep.RegionLaw
import Derived.Test.YtgkelemfbmmgnaaGreatMSv12
import Derived.OwnWalk
/- SkipTerms: the reference. Each theorem names its conditions. -/
namespace Go.Proofs.YtgkelemfbmmgnaaGreat
open Go.RowKit
set_option linter.unusedVariables false
set_option linter.unusedSimpArgs false


theorem sterm_eqK {h p g : Value} {s : Src} {K i b0 : Nat} {t : Int} {b : Bool} (hT : termP s (K + i) = (t, b)) (w : World) (ha : SlS w h p g s) (hx : Bx w b0 #[h, p, g]) (ok : OkPer s) (hk : K + i ≤ 1100) :
    Calls Tryz.prog 53 #[.pointer (some ⟨b0, 0, none⟩), .int .i64 ((K : Int) + (i : Int))] w fun e w' => e = .returned (.tuple #[.int .i64 t, .bool b]) ∧ Bl w w' :=
  (sterm_any h p g s ((K : Int) + (i : Int)) w b0 ha hx ok (by omega) (by omega)).mono fun _ _ q => ⟨by rw [q.1, show ((K : Int) + (i : Int)).toNat = K + i by omega, hT], q.2⟩
theorem term_bdK {s : Src} (h : OkSrc s) {k : Nat} (hk : k ≤ 1100) : R64 (termP s k).1 := by
  unfold R64 termP
  split
  · rename_i hkl
    have a := h.hd k _ (List.getElem?_eq_getElem hkl)
    simp only [List.getD_eq_getElem?_getD, List.getElem?_eq_getElem hkl, Option.getD_some]
    unfold lowAt at a
    split at a <;> omega
  · split
    · simp
    · rename_i hp
      have hm : (k - s.H.length) % s.P.length < s.P.length := Nat.mod_lt _ (by omega)
      have hm2 : (k - s.H.length) % s.P.length < s.G.length := by rw [h.gp]; exact hm
      have a1 := h.per _ _ (List.getElem?_eq_getElem hm)
      have a2 := h.gr _ _ (List.getElem?_eq_getElem hm2)
      simp only [List.getD_eq_getElem?_getD, List.getElem?_eq_getElem hm, List.getElem?_eq_getElem hm2, Option.getD_some]
      have hQ : (k - s.H.length) / s.P.length ≤ k := Nat.le_trans (Nat.div_le_self _ _) (by omega)
      generalize s.P[(k - s.H.length) % s.P.length] = x at a1 ⊢
      generalize s.G[(k - s.H.length) % s.P.length] = y at a2 ⊢
      generalize (k - s.H.length) / s.P.length = Q at hQ ⊢
      have := prod_bd (Q : Int) y 1100 1000000 (by omega) (by omega) a2.1 a2.2
      omega
theorem sl_one {w : World} {b : Nat} {y : Int} (hx : Bx w b #[.int .i64 y]) (hy : R64 y) : Sl w (.slice (some ⟨b, 0, none⟩) 1 1) [y] := by
  refine ⟨some ⟨b, 0, none⟩, 1, rfl, Nat.le_refl _, by unfold maxLen; omega, fun x h => ?_, by simp, .inr ⟨b, 0, rfl, fun i x h => ?_⟩⟩
  · simp at h; subst h; exact hy
  · have hi : i = 0 := by
      rcases Nat.eq_zero_or_pos i with e | e
      · exact e
      · rw [List.getElem?_eq_none (by simp; omega)] at h; cases h
    subst hi
    simp at h
    subst h
    exact hx.out.1 0
theorem step_append_slL {w : World} {ops : Array Oper} {o : Oper} {a : Act} {K : Act → World → Prop} {Q : Exit → Act → World → Prop} {E : Prop} (hgd : o.guard = none) (s x : Operand)
    (ho : o.op = .call { callee := .builtin .append, args := #[s, x], argTypes := #[27, 27] })
    (B : Nat) (v : Value) (xs : List Int) (hs : a.eval s = v) (hown : Own w B v xs) (va : Value) (ys : List Int) (hx : a.eval x = va) (hsl : Sl w va ys) (hne : 0 < ys.length)
    (hl : xs.length + ys.length ≤ 1000000000) (hB : B ≤ w.heap.size)
    (h : ∀ v' w', Own w' B v' (xs ++ ys) → w.grownBy w' v.ownBlock → (v'.ownBlock = v.ownBlock ∨ v'.ownBlock = some w.heap.size) → K (a.put o.dst v') w') :
    if Region.wanted o (yielded ops a.tmps) = true then Oper.wp Tryz.prog o a w K Q else E := by
  obtain ⟨i0, hi, hz0, hz1, hz2⟩ := info_parts info_i64
  obtain ⟨av, cap, rfl, h1, h2, h3, h4, h5⟩ := hsl
  rcases h5 with hy | ⟨b, off, rfl, hc⟩
  · rw [hy] at hne; simp at hne
  · refine step_append_lies w hgd s x 27 ho B 2 i0 (.int .i64 0) 1 8 Tryz.underlying27 hi hz0 hz1 hz2 rfl (by decide) v xs.length (xs.map (Value.int .i64)) hs hown.1 ⟨b, off, none⟩ ys.length cap (ys.map (Value.int .i64)) hx (by simp) (fun j u hu => ?_) ?_ hne (by unfold maxLen; omega) (by omega) hB _ rfl ?_
    · rw [List.getElem?_map] at hu
      obtain ⟨y, hy, rfl⟩ := Option.map_eq_some_iff.1 hu
      rw [add_lit]
      exact hc j y hy
    · intro u hu
      obtain ⟨y, _, rfl⟩ := List.mem_map.1 hu
      rfl
    · intro g c w' a1 a2 a3 a4
      exact h _ w' (own_of_row hown.2 h3 a1) a2 (a3.imp (fun e => e.symm) (fun e => congrArg some e))
theorem own_apart {w w' : World} {B : Nat} {u v : Value} {xs : List Int} (h : Own w B u xs) (hg : w.grownBy w' v.ownBlock) (ha : Apart v u) : Own w' B u xs := by
  refine h.grown hg ?_
  cases e : u.ownBlock with
  | none => exact .inl rfl
  | some k => exact .inr (fun q => ha k q.symm e)
theorem apart_new {w : World} {B N : Nat} {u v v' : Value} {xs : List Int} (h : Own w B u xs) (ha : Apart u v) (hloc : v'.ownBlock = v.ownBlock ∨ v'.ownBlock = some N) (hN : w.heap.size ≤ N) : Apart u v' := fun k e q => by
  rcases hloc with l | l
  · exact ha k e (l ▸ q)
  · rw [l] at q
    injection q with q
    have := (h.lt k e).2
    omega
theorem apart_symm {u v : Value} (h : Apart u v) : Apart v u := fun k e q => h k q e

theorem sl_nilAny {w : World} {a : Option Addr} {c : Nat} (h : a = none → c = 0) (hc : c ≤ maxLen) : Sl w (.slice a 0 c) [] :=
  ⟨a, c, rfl, Nat.zero_le _, hc, fun x q => by simp at q, h, .inl rfl⟩
theorem sl_nilK {w : World} {a : Option Addr} {n c : Nat} (hn : n = 0) (h : a = none → c = 0) (hc : c ≤ maxLen) : Sl w (.slice a n c) [] := by subst hn; exact sl_nilAny h hc

/-- A slice expression s[k:], whatever the slice's capacity. -/
theorem slice_from {w : World} {a : Option Addr} {c : Nat} {xs : List Int} (h : Sl w (.slice a xs.length c) xs) (K : Nat) (hk : K ≤ xs.length) :
    ∃ a' c', (∀ W, (Instr.slice 27 (.slice a xs.length c) (some (.int .i64 (K : Int))) none none).run Tryz.prog W = .ok (.slice a' (xs.length - K) c') W) ∧
      (∀ W, (Instr.sliceAt 27 (.slice a xs.length c) (some (.int .i64 (K : Int))) none none).run Tryz.prog W = .ok (.slice a' (xs.length - K) c') W) ∧ Sl w (.slice a' (xs.length - K) c') (xs.drop K) := by
  have hz : ∀ w, (Go.sizeOf 2).run Tryz.prog w = .ok 1 w := fun w => by kernel_rfl
  have ht' : Tryz.prog.underlying 27 = some (.slice (Tryz.prog.elem 27)) := by simp [Program.elem, Tryz.underlying27]
  have he : Tryz.prog.elem 27 = 2 := by simp [Program.elem, Tryz.underlying27]
  have h1 : ∀ W, (Instr.slice 27 (.slice a xs.length c) (some (.int .i64 (K : Int))) none none).run Tryz.prog W = .ok (.slice (if c = K then a else a.map (·.add (K * 1))) (xs.length - K) (c - K)) W := fun W => by
    rw [run_slice_l W 27 a xs.length c ht' .i64 (K : Int) (by omega) (by omega), he, hz]
    simp [Result.andThen, sliced]
  refine ⟨_, _, h1, fun W => by rw [run_sliceAt_slice W _ _ _ _ _ ht']; exact h1 W, ?_⟩
  obtain ⟨a0, c0, e, g1, g2, g3, g4, g5⟩ := h
  simp only [Value.slice.injEq] at e
  obtain ⟨rfl, _, rfl⟩ := e
  by_cases hck : c = K
  · rw [if_pos hck]
    exact ⟨a, c - K, by simp, by simp; omega, by omega, fun x hx => g3 x (List.mem_of_mem_drop hx), fun q => by have := g4 q; omega, .inl (List.drop_eq_nil_iff.2 (by omega))⟩
  · rw [if_neg hck]
    refine ⟨_, c - K, by simp; rfl, by simp; omega, by omega, fun x hx => g3 x (List.mem_of_mem_drop hx), fun q => ?_, ?_⟩
    · have : a = none := by cases a with
        | none => rfl
        | some ad => simp at q
      have := g4 this; omega
    · rcases g5 with g5 | ⟨b, o, rfl, hc⟩
      · subst g5; exact .inl (by simp)
      · refine .inr ⟨b, o + K, by simp [Addr.add]; try (split <;> simp_all), fun i x hx => ?_⟩
        rw [List.getElem?_drop] at hx
        have := hc (K + i) x hx
        rw [show o + K + i = o + (K + i) by omega]
        exact this

end Go.Proofs.YtgkelemfbmmgnaaGreat

/- Surds: the reference's source. Each theorem names its conditions. -/
namespace Go.Proofs.YtgkelemfbmmgnaaGreat
open Go.RowKit
set_option linter.unusedVariables false
set_option linter.unusedSimpArgs false

theorem surdF_bad {p d q : Int} (h : okU p d q = false) : surdF p d q = (⟨[], [], []⟩, 1) := by unfold surdF; rw [h]; rfl
theorem surdF_full {p d q : Int} (h : okU p d q = true) (hw : wkF [] [] (p, d, q) = none) : surdF p d q = (⟨[], [], []⟩, 5) := by unfold surdF; rw [if_pos h, hw]
theorem surdF_no {p d q : Int} {r : List Int × Nat} (h : okU p d q = true) (hw : wkF [] [] (p, d, q) = some r) (ho : okSrc (srcU r) = false) : surdF p d q = (⟨[], [], []⟩, 5) := by
  unfold surdF; rw [if_pos h, hw]; simp only []; rw [if_neg (by rw [ho]; simp)]
theorem surdF_yes {p d q : Int} {r : List Int × Nat} (h : okU p d q = true) (hw : wkF [] [] (p, d, q) = some r) (ho : okSrc (srcU r) = true) : surdF p d q = (srcU r, 0) := by
  unfold surdF; rw [if_pos h, hw]; simp only []; rw [if_pos ho]
set_option maxRecDepth 100000 in
set_option maxHeartbeats 12800000 in
theorem spec_SourceOfSurd (p d q : Int) (w : World) : Calls Tryz.prog 10 #[.agg #[.int .i64 p, .int .i64 d, .int .i64 q]] w (SkP (surdF p d q) w) := by
  cases hok : okU p d q with
  | false =>
    have E := Lib.hid hok
    have HR := Lib.hid (surdF_bad hok)
    clear hok
    go_enter Tryz.func10, Tryz.ntmps10
    go_wp2_with fail
    have B1 : Bl w ((w.alloc (.cells #[.int .i64 p, .int .i64 d, .int .i64 q] 33)).alloc (.cells #[.slice none 0 0, .slice none 0 0, .slice none 0 0] 29)) := (bl_alloc (bl_alloc (bl_refl _) _) _)
    have xS_1 : Bx ((w.alloc (.cells #[.int .i64 p, .int .i64 d, .int .i64 q] 33)).alloc (.cells #[.slice none 0 0, .slice none 0 0, .slice none 0 0] 29)) (w.heap.size) #[.int .i64 p, .int .i64 d, .int .i64 q] := ((Bx.new (b := w.heap.size) _ #[.int .i64 p, .int .i64 d, .int .i64 q] 33 (by first | rfl | simp)).alloc _)
    have xR_1 : Bx ((w.alloc (.cells #[.int .i64 p, .int .i64 d, .int .i64 q] 33)).alloc (.cells #[.slice none 0 0, .slice none 0 0, .slice none 0 0] 29)) (w.heap.size + 1) #[.slice none 0 0, .slice none 0 0, .slice none 0 0] := (Bx.new (b := w.heap.size + 1) _ #[.slice none 0 0, .slice none 0 0, .slice none 0 0] 29 (by first | rfl | simp))
    have zz1 : w.heap.size + 2 ≤ ((w.alloc (.cells #[.int .i64 p, .int .i64 d, .int .i64 q] 33)).alloc (.cells #[.slice none 0 0, .slice none 0 0, .slice none 0 0] 29)).heap.size := (by simp)
    generalize ((w.alloc (.cells #[.int .i64 p, .int .i64 d, .int .i64 q] 33)).alloc (.cells #[.slice none 0 0, .slice none 0 0, .slice none 0 0] 29)) = w1 at *
    obtain ⟨cS_1, fS_1, zS_1⟩ := xS_1.out
    obtain ⟨cR_1, fR_1, zR_1⟩ := xR_1.out
    refine (scode_bad _ E.out).mono ?_
    rintro e w2 ⟨v, rfl, hb2⟩
    have B2 : Bl w w2 := bl_call B1 hb2
    have xS_2 : Bx w2 (w.heap.size) #[.int .i64 p, .int .i64 d, .int .i64 q] := xS_1.below hb2
    have xR_2 : Bx w2 (w.heap.size + 1) #[.slice none 0 0, .slice none 0 0, .slice none 0 0] := xR_1.below hb2
    clear cS_1 fS_1 zS_1 cR_1 fR_1 zR_1
    obtain ⟨cS_2, fS_2, zS_2⟩ := xS_2.out
    obtain ⟨cR_2, fR_2, zR_2⟩ := xR_2.out
    go_wp2
    refine bodyPost_ret (v := .tuple #[.agg #[.slice none 0 0, .slice none 0 0, .slice none 0 0], .int .i64 1]) (by simp only [results, Tryz.results10]; go_simp) rfl ?_
    exact skp_no HR.out (bl_set (bl_set (bl_set B2 (p := ⟨w.heap.size + 1, 0, none⟩) (by first | (simp; done) | (simp; omega)) _) (p := ⟨w.heap.size + 1, 1, none⟩) (by first | (simp; done) | (simp; omega)) _) (p := ⟨w.heap.size + 1, 2, none⟩) (by first | (simp; done) | (simp; omega)) _)
  | true =>
    cases hw : wkF [] [] (p, d, q) with
    | none =>
      have E := Lib.hid hok
      have HW := Lib.hid hw
      have HR := Lib.hid (surdF_full hok hw)
      clear hok hw
      go_enter Tryz.func10, Tryz.ntmps10
      go_wp2_with fail
      have B1 : Bl w ((w.alloc (.cells #[.int .i64 p, .int .i64 d, .int .i64 q] 33)).alloc (.cells #[.slice none 0 0, .slice none 0 0, .slice none 0 0] 29)) := (bl_alloc (bl_alloc (bl_refl _) _) _)
      have xS_1 : Bx ((w.alloc (.cells #[.int .i64 p, .int .i64 d, .int .i64 q] 33)).alloc (.cells #[.slice none 0 0, .slice none 0 0, .slice none 0 0] 29)) (w.heap.size) #[.int .i64 p, .int .i64 d, .int .i64 q] := ((Bx.new (b := w.heap.size) _ #[.int .i64 p, .int .i64 d, .int .i64 q] 33 (by first | rfl | simp)).alloc _)
      have xR_1 : Bx ((w.alloc (.cells #[.int .i64 p, .int .i64 d, .int .i64 q] 33)).alloc (.cells #[.slice none 0 0, .slice none 0 0, .slice none 0 0] 29)) (w.heap.size + 1) #[.slice none 0 0, .slice none 0 0, .slice none 0 0] := (Bx.new (b := w.heap.size + 1) _ #[.slice none 0 0, .slice none 0 0, .slice none 0 0] 29 (by first | rfl | simp))
      have zz1 : w.heap.size + 2 ≤ ((w.alloc (.cells #[.int .i64 p, .int .i64 d, .int .i64 q] 33)).alloc (.cells #[.slice none 0 0, .slice none 0 0, .slice none 0 0] 29)).heap.size := (by simp)
      generalize ((w.alloc (.cells #[.int .i64 p, .int .i64 d, .int .i64 q] 33)).alloc (.cells #[.slice none 0 0, .slice none 0 0, .slice none 0 0] 29)) = w1 at *
      obtain ⟨cS_1, fS_1, zS_1⟩ := xS_1.out
      obtain ⟨cR_1, fR_1, zR_1⟩ := xR_1.out
      refine (scode_full _ E.out HW.out).mono ?_
      rintro e w2 ⟨v, rfl, hb2⟩
      have B2 : Bl w w2 := bl_call B1 hb2
      have xS_2 : Bx w2 (w.heap.size) #[.int .i64 p, .int .i64 d, .int .i64 q] := xS_1.below hb2
      have xR_2 : Bx w2 (w.heap.size + 1) #[.slice none 0 0, .slice none 0 0, .slice none 0 0] := xR_1.below hb2
      clear cS_1 fS_1 zS_1 cR_1 fR_1 zR_1
      obtain ⟨cS_2, fS_2, zS_2⟩ := xS_2.out
      obtain ⟨cR_2, fR_2, zR_2⟩ := xR_2.out
      go_wp2
      refine bodyPost_ret (v := .tuple #[.agg #[.slice none 0 0, .slice none 0 0, .slice none 0 0], .int .i64 5]) (by simp only [results, Tryz.results10]; go_simp) rfl ?_
      exact skp_no HR.out (bl_set (bl_set (bl_set B2 (p := ⟨w.heap.size + 1, 0, none⟩) (by first | (simp; done) | (simp; omega)) _) (p := ⟨w.heap.size + 1, 1, none⟩) (by first | (simp; done) | (simp; omega)) _) (p := ⟨w.heap.size + 1, 2, none⟩) (by first | (simp; done) | (simp; omega)) _)
    | some r =>
      obtain ⟨T, k⟩ := r
      have E := Lib.hid hok
      have HW := Lib.hid hw
      have HRN := Lib.hid (surdF_no hok hw)
      have HRY := Lib.hid (surdF_yes hok hw)
      clear hok hw
      go_enter Tryz.func10, Tryz.ntmps10
      go_wp2_with fail
      have B1 : Bl w ((w.alloc (.cells #[.int .i64 p, .int .i64 d, .int .i64 q] 33)).alloc (.cells #[.slice none 0 0, .slice none 0 0, .slice none 0 0] 29)) := (bl_alloc (bl_alloc (bl_refl _) _) _)
      have xS_1 : Bx ((w.alloc (.cells #[.int .i64 p, .int .i64 d, .int .i64 q] 33)).alloc (.cells #[.slice none 0 0, .slice none 0 0, .slice none 0 0] 29)) (w.heap.size) #[.int .i64 p, .int .i64 d, .int .i64 q] := ((Bx.new (b := w.heap.size) _ #[.int .i64 p, .int .i64 d, .int .i64 q] 33 (by first | rfl | simp)).alloc _)
      have xR_1 : Bx ((w.alloc (.cells #[.int .i64 p, .int .i64 d, .int .i64 q] 33)).alloc (.cells #[.slice none 0 0, .slice none 0 0, .slice none 0 0] 29)) (w.heap.size + 1) #[.slice none 0 0, .slice none 0 0, .slice none 0 0] := (Bx.new (b := w.heap.size + 1) _ #[.slice none 0 0, .slice none 0 0, .slice none 0 0] 29 (by first | rfl | simp))
      have zz1 : w.heap.size + 2 ≤ ((w.alloc (.cells #[.int .i64 p, .int .i64 d, .int .i64 q] 33)).alloc (.cells #[.slice none 0 0, .slice none 0 0, .slice none 0 0] 29)).heap.size := (by simp)
      generalize ((w.alloc (.cells #[.int .i64 p, .int .i64 d, .int .i64 q] 33)).alloc (.cells #[.slice none 0 0, .slice none 0 0, .slice none 0 0] 29)) = w1 at *
      obtain ⟨cS_1, fS_1, zS_1⟩ := xS_1.out
      obtain ⟨cR_1, fR_1, zR_1⟩ := xR_1.out
      refine (scode_ok _ E.out HW.out).mono ?_
      rintro e w2 ⟨b, rfl, hwb, hb2⟩
      have B2 : Bl w w2 := bl_call B1 hb2
      have xS_2 : Bx w2 (w.heap.size) #[.int .i64 p, .int .i64 d, .int .i64 q] := xS_1.below hb2
      have xR_2 : Bx w2 (w.heap.size + 1) #[.slice none 0 0, .slice none 0 0, .slice none 0 0] := xR_1.below hb2
      clear cS_1 fS_1 zS_1 cR_1 fR_1 zR_1
      obtain ⟨cS_2, fS_2, zS_2⟩ := xS_2.out
      obtain ⟨cR_2, fR_2, zR_2⟩ := xR_2.out
      obtain ⟨hb0, hkT, hT4, lv, tv, xB, hT⟩ := hwb
      obtain ⟨ta, tc, rfl, htc⟩ := hT.form
      have SLT := Lib.hid (hT.sl.take k hkT)
      obtain ⟨a9, c9, hsl1, hsl2, hsl3⟩ := slice_from hT.sl k hkT
      have SLD := Lib.hid hsl3
      have HT := Lib.hid hT
      clear hsl3 hT
      have hlt : (T.take k).length = k := by rw [List.length_take]; omega
      have hld : (T.drop k).length = T.length - k := by rw [List.length_drop]
      have HLT := Lib.hid hlt
      have HLD := Lib.hid hld
      clear hlt hld
      have hK0 : (0 : Int) ≤ (k : Int) := by omega
      have hK1 : (k : Int) ≤ (T.length : Int) := by omega
      have hK2 : (k : Int) ≤ (tc : Int) := by omega
      have hK3 : k ≤ tc := by omega
      obtain ⟨cB, fB, zB⟩ := xB.out
      go_wp2_with fail
      go_cut [6] (fun s6 wx => ∃ y a1 c1 a2 c2, s6 = .pointer (some ⟨y, 0, none⟩) ∧ Bx wx y #[.slice a1 k c1, .slice a2 (T.length - k) c2, .slice none 0 0] ∧ Own wx w2.heap.size (.slice a1 k c1) (T.take k) ∧ Own wx w2.heap.size (.slice a2 (T.length - k) c2) (T.drop k) ∧ Apart (.slice a1 k c1) (.slice a2 (T.length - k) c2) ∧ w2.heap.size ≤ y ∧ (∀ j, (Value.slice a1 k c1).ownBlock = some j → j ≠ y) ∧ (∀ j, (Value.slice a2 (T.length - k) c2).ownBlock = some j → j ≠ y) ∧ Bl w2 wx)
      case first =>
        have BB := bl_drew (bl_refl w2)
        have bb0 := xB
        clear cS_2 fS_2 zS_2 cR_2 fR_2 zR_2 cB fB zB
        obtain ⟨cB, fB, zB⟩ := bb0.out
        have nn1 := World.new_ne w2 ⟨b, 1, none⟩ (show w2.cell? ⟨b, 1, none⟩ = some (.slice ta T.length tc) by rw [bb0.out.1]; rfl)
        have nn2 := World.new_ne w2 ⟨b, 2, none⟩ (show w2.cell? ⟨b, 2, none⟩ = some (.int .i64 k) by rw [bb0.out.1]; rfl)
        go_region_held3 (fun w' => w'.cell? ⟨b, 1, none⟩ = some (.slice ta T.length tc) ∧ w'.cell? ⟨b, 2, none⟩ = some (.int .i64 k)) (first | (simp [*]; done) | (go_simp; done) | go_keep)
          (first | (go_at_call 35; refine (own_any _ (T.take k) _ (by first | exact SLT.out.below BB | exact SLT.out.below (bl_alloc BB _)) (by rw [HLT.out]; omega)).mono ?_; rintro e w5 ⟨a1, c1, rfl, O1, hb5⟩; rw [HLT.out] at O1; rw [HLT.out]; have L1 := Lib.hid O1.lt; have z1 := hb5.size; have BB : Bl w2 w5 := bl_call (by first | exact BB | exact bl_alloc BB _) hb5; clear cB fB zB; obtain ⟨cB, fB, zB⟩ := (bb0.below BB).out; have ne_w5 : w5.heap.size ≠ b := (by omega); have nnA_w5 := World.new_ne w5 ⟨b, 1, none⟩ (show w5.cell? ⟨b, 1, none⟩ = some (.slice ta T.length tc) by rw [cB]; rfl); have nnB_w5 := World.new_ne w5 ⟨b, 2, none⟩ (show w5.cell? ⟨b, 2, none⟩ = some (.int .i64 k) by rw [cB]; rfl); (first | (have O2 := O2.below hb5) | (have O2 := (O2.alloc _).below hb5) | skip); (first | (have nb := nb.below hb5; obtain ⟨cn, fn, zn⟩ := nb.out) | (have nb := (Bx.new _ #[.slice none 0 0, .slice none 0 0, .slice none 0 0] 29 rfl).below hb5; obtain ⟨cn, fn, zn⟩ := nb.out) | (have nb := (Bx.new w2 #[.slice none 0 0, .slice none 0 0, .slice none 0 0] 29 rfl).drew.below hb5; obtain ⟨cn, fn, zn⟩ := nb.out) | skip))
                 | (go_at_call 35; refine (own_any _ (T.drop k) _ (by first | exact SLD.out.below BB | exact SLD.out.below (bl_alloc BB _)) (by rw [HLD.out]; omega)).mono ?_; rintro e w6 ⟨a2, c2, rfl, O2, hb6⟩; rw [HLD.out] at O2; rw [HLD.out]; have L2 := Lib.hid O2.lt; have z2 := hb6.size; have BB : Bl w2 w6 := bl_call (by first | exact BB | exact bl_alloc BB _) hb6; clear cB fB zB; obtain ⟨cB, fB, zB⟩ := (bb0.below BB).out; have ne_w6 : w6.heap.size ≠ b := (by omega); have nnA_w6 := World.new_ne w6 ⟨b, 1, none⟩ (show w6.cell? ⟨b, 1, none⟩ = some (.slice ta T.length tc) by rw [cB]; rfl); have nnB_w6 := World.new_ne w6 ⟨b, 2, none⟩ (show w6.cell? ⟨b, 2, none⟩ = some (.int .i64 k) by rw [cB]; rfl); (first | (have O1 := O1.below hb6) | (have O1 := (O1.alloc _).below hb6) | skip); (first | (have nb := nb.below hb6; obtain ⟨cn, fn, zn⟩ := nb.out) | (have nb := (Bx.new _ #[.slice none 0 0, .slice none 0 0, .slice none 0 0] 29 rfl).below hb6; obtain ⟨cn, fn, zn⟩ := nb.out) | (have nb := (Bx.new w2 #[.slice none 0 0, .slice none 0 0, .slice none 0 0] 29 rfl).drew.below hb6; obtain ⟨cn, fn, zn⟩ := nb.out) | skip)))
        all_goals (go_wp2_with fail; go_meet)
        all_goals have AP : Apart (.slice a1 k c1) (.slice a2 (T.length - k) c2) := (fun j e q => (by have q1 := L1.out j e; have q2 := L2.out j q; (try simp at q1 q2 z1 z2); omega))
        all_goals (first
          | (refine ⟨_, a1, c1, a2, c2, rfl, ((nb.set 0 _).set 1 _).set 2 _, ?_, ?_, AP, ?_, ?_, ?_, ?_⟩
             · exact (((own_farU (own_farU (own_farU O1 (fun j hj => by have q := L1.out j hj; (try simp at q z1 z2); simp; omega) _) (fun j hj => by have q := L1.out j hj; (try simp at q z1 z2); simp; omega) _) (fun j hj => by have q := L1.out j hj; (try simp at q z1 z2); simp; omega) _)).mono (by first | exact Nat.le_refl _ | ((try simp at z1 z2); have h5 := hb5.size; have h6 := hb6.size; (try simp at h5 h6); first | omega | (simp; done) | (simp; omega))))
             · exact (((own_farU (own_farU (own_farU O2 (fun j hj => by have q := L2.out j hj; (try simp at q z1 z2); simp; omega) _) (fun j hj => by have q := L2.out j hj; (try simp at q z1 z2); simp; omega) _) (fun j hj => by have q := L2.out j hj; (try simp at q z1 z2); simp; omega) _)).mono (by first | exact Nat.le_refl _ | ((try simp at z1 z2); have h5 := hb5.size; have h6 := hb6.size; (try simp at h5 h6); first | omega | (simp; done) | (simp; omega))))
             · ((try simp at z1 z2); have h5 := hb5.size; have h6 := hb6.size; (try simp at h5 h6); first | omega | (simp; done) | (simp; omega))
             · exact fun j hj => by have q := L1.out j hj; (try simp at q z1 z2); first | omega | (simp; omega)
             · exact fun j hj => by have q := L2.out j hj; (try simp at q z1 z2); first | omega | (simp; omega)
             · exact bl_set (bl_set (bl_set BB (by ((try simp at z1 z2); have h5 := hb5.size; have h6 := hb6.size; (try simp at h5 h6); first | omega | (simp; done) | (simp; omega))) _) (by ((try simp at z1 z2); have h5 := hb5.size; have h6 := hb6.size; (try simp at h5 h6); first | omega | (simp; done) | (simp; omega))) _) (by ((try simp at z1 z2); have h5 := hb5.size; have h6 := hb6.size; (try simp at h5 h6); first | omega | (simp; done) | (simp; omega))) _)
          | exact ⟨_, a1, c1, a2, c2, rfl, Bx.new _ _ _ rfl, (O1.alloc _).mono (by first | exact Nat.le_refl _ | ((try simp at z1 z2); have h5 := hb5.size; have h6 := hb6.size; (try simp at h5 h6); first | omega | (simp; done) | (simp; omega))), (O2.alloc _).mono (by first | exact Nat.le_refl _ | ((try simp at z1 z2); have h5 := hb5.size; have h6 := hb6.size; (try simp at h5 h6); first | omega | (simp; done) | (simp; omega))), AP, BB.size, fun j hj => by have q := O1.lt j hj; omega, fun j hj => by have q := O2.lt j hj; omega, bl_alloc BB _⟩)
      case rest =>
        obtain ⟨y, a1, c1, a2, c2, rfl, xY, o1, o2, AP, hy, n1, n2, hj⟩ := hcut
        obtain ⟨w3, rfl⟩ : ∃ x : World, x = wc := ⟨_, rfl⟩
        have B3 : Bl w w3 := bl_call B2 hj
        have xR3 := xR_2.below hj
        have z3 := hj.size
        clear cS_2 fS_2 zS_2 cR_2 fR_2 zR_2 cB fB zB
        obtain ⟨cY, fY, zY⟩ := xY.out
        obtain ⟨i0, hi, hz0, hz1, hz2⟩ := info_parts info_i64
        have O1 := Lib.hid o1
        have O2 := Lib.hid o2
        have N1 := Lib.hid n1
        have N2 := Lib.hid n2
        have HAP := Lib.hid AP
        clear o1 o2 n1 n2 AP
        go_wp2_with (at_make; refine wpList_make_full _ rfl _ _ 27 rfl w2.heap.size 2 i0 (.int .i64 0) 1 Tryz.underlying27 hi hz0 hz1 .i64 .i64 _ _ (T.length - k) rfl rfl rfl rfl ?c1 ?c2 ?c3 ?_)
        case c1 => rw [hz2]; omega
        case c2 => unfold maxLen; omega
        case c3 => exact z3
        intro w5 hown5 hgrow5
        have hb5 : Bl w3 w5 := below_of_grown hgrow5
        have o3 : Own w5 w2.heap.size (.slice (some ⟨w3.heap.size, 0, none⟩) (T.length - k) (T.length - k)) (List.replicate (T.length - k) 0) := ⟨by simpa [toList_madeCells_one] using hown5, fun x hx => by have := List.eq_of_mem_replicate hx; subst this; unfold R64; omega⟩
        have O3 := Lib.hid o3
        have hs5 : w3.heap.size + 1 ≤ w5.heap.size := by have := (o3.lt w3.heap.size rfl).2; omega
        have xY5 := xY.below hb5
        have xR5 := xR3.below hb5
        have B5 := bl_call B3 hb5
        clear cY fY zY hown5 hgrow5 o3
        obtain ⟨cY, fY, zY⟩ := xY5.out
        have hyl : y < w3.heap.size := xY.out.2.2
        have hRl : w.heap.size + 1 < w2.heap.size := xR_2.out.2.2
        have xY6 := xY5.set 2 (.slice (some ⟨w3.heap.size, 0, none⟩) (T.length - k) (T.length - k))
        have xR6 := xR5.far (p := ⟨y, 2, none⟩) (by simp; omega) (.slice (some ⟨w3.heap.size, 0, none⟩) (T.length - k) (T.length - k))
        have B6 : Bl w (w5.setCell ⟨y, 2, none⟩ (.slice (some ⟨w3.heap.size, 0, none⟩) (T.length - k) (T.length - k))) := bl_set B5 (by have := B2.size; simp; omega) _
        have O16 := Lib.hid (own_farU (O1.out.below hb5) (p := ⟨y, 2, none⟩) N1.out (.slice (some ⟨w3.heap.size, 0, none⟩) (T.length - k) (T.length - k)))
        have O26 := Lib.hid (own_farU (O2.out.below hb5) (p := ⟨y, 2, none⟩) N2.out (.slice (some ⟨w3.heap.size, 0, none⟩) (T.length - k) (T.length - k)))
        have O36 := Lib.hid (own_farU O3.out (p := ⟨y, 2, none⟩) (fun j hj => by have : w3.heap.size = j := (by injection hj); simp; omega) (.slice (some ⟨w3.heap.size, 0, none⟩) (T.length - k) (T.length - k)))
        have A13 : Apart (.slice a1 k c1) (.slice (some ⟨w3.heap.size, 0, none⟩) (T.length - k) (T.length - k)) := fun j e q => by
          have := (O1.out.lt j e).2
          have : w3.heap.size = j := by injection q
          omega
        have A23 : Apart (.slice a2 (T.length - k) c2) (.slice (some ⟨w3.heap.size, 0, none⟩) (T.length - k) (T.length - k)) := fun j e q => by
          have := (O2.out.lt j e).2
          have : w3.heap.size = j := by injection q
          omega
        have OS := Lib.hid (show OwnS _ w2.heap.size (.slice a1 k c1) (.slice a2 (T.length - k) c2) (.slice (some ⟨w3.heap.size, 0, none⟩) (T.length - k) (T.length - k)) (srcU (T, k)) from ⟨O16.out, O26.out, O36.out, HAP.out, A13, A23⟩)
        clear A13 A23 O1 O2 O3 O16 O26 O36
        go_wp2_with fail
        generalize w5.setCell ⟨y, 2, none⟩ (.slice (some ⟨w3.heap.size, 0, none⟩) (T.length - k) (T.length - k)) = w6 at *
        clear cY fY zY
        cases hsrc : okSrc (srcU (T, k)) with
        | false =>
          have HS := Lib.hid hsrc
          clear hsrc
          refine (svalid_eqKu HS.out _ OS.out.sl xY6).mono ?_
          rintro e w7 ⟨rfl, hb7⟩
          have B7 := bl_call B6 hb7
          obtain ⟨cR, fR, zR⟩ := (xR6.below hb7).out
          go_wp2
          refine bodyPost_ret (v := .tuple #[.agg #[.slice none 0 0, .slice none 0 0, .slice none 0 0], .int .i64 5]) (by simp only [results, Tryz.results10]; go_simp) rfl ?_
          exact skp_no (HRN.out HS.out) (bl_set (bl_set (bl_set B7 (p := ⟨w.heap.size + 1, 0, none⟩) (by first | (simp; done) | (simp; omega)) _) (p := ⟨w.heap.size + 1, 1, none⟩) (by first | (simp; done) | (simp; omega)) _) (p := ⟨w.heap.size + 1, 2, none⟩) (by first | (simp; done) | (simp; omega)) _)
        | true =>
          have HS := Lib.hid hsrc
          clear hsrc
          refine (svalid_eqKu HS.out _ OS.out.sl xY6).mono ?_
          rintro e w7 ⟨rfl, hb7⟩
          have B7 := bl_call B6 hb7
          obtain ⟨cR, fR, zR⟩ := (xR6.below hb7).out
          obtain ⟨cY, fY, zY⟩ := (xY6.below hb7).out
          have OS7 := OS.out.below hb7
          go_wp2
          refine bodyPost_ret (v := .tuple #[.agg #[.slice a1 k c1, .slice a2 (T.length - k) c2, .slice (some ⟨w3.heap.size, 0, none⟩) (T.length - k) (T.length - k)], .int .i64 0]) (by simp only [results, Tryz.results10]; go_simp) rfl ?_
          exact skp_yes (HRY.out HS.out) (OwnS.mono (B := w2.heap.size) ⟨(own_farU (own_farU (own_farU OS7.1 (p := ⟨w.heap.size + 1, 0, none⟩) (fun j hj => by have := (OS7.1.lt j hj).1; simp; omega) _) (p := ⟨w.heap.size + 1, 1, none⟩) (fun j hj => by have := (OS7.1.lt j hj).1; simp; omega) _) (p := ⟨w.heap.size + 1, 2, none⟩) (fun j hj => by have := (OS7.1.lt j hj).1; simp; omega) _), (own_farU (own_farU (own_farU OS7.2.1 (p := ⟨w.heap.size + 1, 0, none⟩) (fun j hj => by have := (OS7.2.1.lt j hj).1; simp; omega) _) (p := ⟨w.heap.size + 1, 1, none⟩) (fun j hj => by have := (OS7.2.1.lt j hj).1; simp; omega) _) (p := ⟨w.heap.size + 1, 2, none⟩) (fun j hj => by have := (OS7.2.1.lt j hj).1; simp; omega) _), (own_farU (own_farU (own_farU OS7.2.2.1 (p := ⟨w.heap.size + 1, 0, none⟩) (fun j hj => by have := (OS7.2.2.1.lt j hj).1; simp; omega) _) (p := ⟨w.heap.size + 1, 1, none⟩) (fun j hj => by have := (OS7.2.2.1.lt j hj).1; simp; omega) _) (p := ⟨w.heap.size + 1, 2, none⟩) (fun j hj => by have := (OS7.2.2.1.lt j hj).1; simp; omega) _), OS7.2.2.2⟩ (by have := B2.size; omega)) (bl_set (bl_set (bl_set B7 (p := ⟨w.heap.size + 1, 0, none⟩) (by first | (simp; done) | (simp; omega)) _) (p := ⟨w.heap.size + 1, 1, none⟩) (by first | (simp; done) | (simp; omega)) _) (p := ⟨w.heap.size + 1, 2, none⟩) (by first | (simp; done) | (simp; omega)) _)

end Go.Proofs.YtgkelemfbmmgnaaGreat

