/- NearestInteger: the program and the reference give the same. No condition. -/
import Derived.Test.YtgmofofokhlhnaaL17
namespace Go.Proofs.Ytgmofofokhlhnaa
open Go.RowKit
set_option linter.unusedVariables false
set_option linter.unusedSimpArgs false

theorem Sl.lit {w : World} {b : Nat} {cs : Array Value} {xs : List Int} {n c : Nat} (hx : Bx w b cs) (hn : n = xs.length) (hc : n ≤ c) (hm : c ≤ maxLen) (hr : ∀ x ∈ xs, R64 x) (h : ∀ (i : Nat) (x : Int), xs[i]? = some x → cs[i]? = some (.int .i64 x)) : Sl w (.slice (some ⟨b, 0, none⟩) n c) xs := by
  subst hn
  refine ⟨_, c, rfl, hc, hm, hr, by simp, .inr ⟨b, 0, rfl, fun i x hi => ?_⟩⟩
  rw [Nat.zero_add, hx.out.1]
  exact h i x hi
theorem lit2i (x y : Int) : ∀ (i : Nat) (z : Int), [x, y][i]? = some z → #[Value.int .i64 x, Value.int .i64 y][i]? = some (.int .i64 z) := by
  intro i z h
  match i, h with
  | 0, h => simp at h; subst h; rfl
  | 1, h => simp at h; subst h; rfl
theorem shortL_idem {xs : List Int} (h : ∀ (i : Nat) (x : Int), 1 ≤ i → xs[i]? = some x → 1 ≤ x) : shortL (shortL xs) = shortL xs := by
  by_cases c : 1 < xs.length ∧ xs[xs.length - 1]? = some 1
  · have hx : (xs.take (xs.length - 1))[xs.length - 2]? = some xs[xs.length - 2] := by
      rw [List.getElem?_take, if_pos (by omega)]
      exact List.getElem?_eq_getElem (by omega)
    have hs := shortL_yes c hx
    refine shortL_no fun q => ?_
    have hl : (shortL xs).length = xs.length - 1 := by rw [hs]; simp
    obtain ⟨q1, q2⟩ := q
    rw [hl] at q1 q2
    rw [hs, List.getElem?_set, if_pos (by omega), if_pos (by simp; omega)] at q2
    have := h (xs.length - 2) _ (by omega) (List.getElem?_eq_getElem (by omega))
    simp at q2
    omega
  · rw [shortL_no c, shortL_no c]
theorem plain_idem {s : Src} (ok : OkSrc s) : plainS (plainS s) = plainS s := by
  by_cases c : s.P.length = 0
  · have e : plainS s = ⟨shortL s.H, [], []⟩ := by rw [plainS, if_pos c]
    rw [e, plainS, if_pos (by rfl)]
    simp only [Src.mk.injEq, and_true]
    refine shortL_idem fun i x hi hx => ?_
    have := (ok.hd i x hx).1
    unfold lowAt at this
    rw [if_neg (by omega)] at this
    exact this
  · have e : plainS s = s := by rw [plainS, if_neg c]
    rw [e, e]
theorem plain_half (t : Int) : plainS ⟨[t, 2], [], []⟩ = ⟨[t, 2], [], []⟩ := by simp [plainS, shortL]
theorem shortL_bd {xs : List Int} {m : Int} (h : ∀ y ∈ xs, y ≤ m) : ∀ y ∈ shortL xs, y ≤ m + 1 := by
  intro y hy
  by_cases c : 1 < xs.length ∧ xs[xs.length - 1]? = some 1
  · have hx : (xs.take (xs.length - 1))[xs.length - 2]? = some xs[xs.length - 2] := by
      rw [List.getElem?_take, if_pos (by omega)]
      exact List.getElem?_eq_getElem (by omega)
    rw [shortL_yes c hx] at hy
    rcases List.mem_or_eq_of_mem_set hy with q | q
    · have := h y (List.mem_of_mem_take q); omega
    · have := h _ (List.getElem_mem (show xs.length - 2 < xs.length by omega)); omega
  · rw [shortL_no c] at hy
    have := h y hy; omega
theorem shortL_lo {xs : List Int} {m : Int} (h : ∀ y ∈ xs, m ≤ y) : ∀ y ∈ shortL xs, m ≤ y := by
  intro y hy
  by_cases c : 1 < xs.length ∧ xs[xs.length - 1]? = some 1
  · have hx : (xs.take (xs.length - 1))[xs.length - 2]? = some xs[xs.length - 2] := by
      rw [List.getElem?_take, if_pos (by omega)]
      exact List.getElem?_eq_getElem (by omega)
    rw [shortL_yes c hx] at hy
    rcases List.mem_or_eq_of_mem_set hy with q | q
    · exact h y (List.mem_of_mem_take q)
    · have := h _ (List.getElem_mem (show xs.length - 2 < xs.length by omega)); omega
  · rw [shortL_no c] at hy
    exact h y hy
theorem OkSrc.h1 {s : Src} (x : OkSrc s) : ∀ y ∈ s.H, -1000000000 ≤ y ∧ y ≤ 1000000000 := fun y hy => by
  obtain ⟨i, hi⟩ := List.getElem?_of_mem hy
  have := x.hd i y hi
  unfold lowAt at this
  split at this <;> omega
theorem plain_hb {s : Src} (ok : OkSrc s) : ∀ y ∈ (plainS s).H, -1000000000 ≤ y ∧ y ≤ 1000000001 := by
  by_cases c : s.P.length = 0
  · rw [show plainS s = ⟨shortL s.H, [], []⟩ by rw [plainS, if_pos c]]
    exact fun y hy => ⟨shortL_lo (fun z hz => (ok.h1 z hz).1) y hy, shortL_bd (fun z hz => (ok.h1 z hz).2) y hy⟩
  · rw [show plainS s = s by rw [plainS, if_neg c]]
    exact fun y hy => by have := ok.h1 y hy; omega
/-- Bounds of the first term. -/
theorem term0_bd {s : Src} (ok : OkSrc s) : -1000000000 ≤ (termP (plainS s) 0).1 ∧ (termP (plainS s) 0).1 ≤ 1000000001 := by
  have hb := plain_hb ok
  have op := ok.okPlain
  unfold termP
  split
  · rename_i h
    have e : (plainS s).H[0]? = some (plainS s).H[0] := List.getElem?_eq_getElem h
    have := hb _ (List.getElem_mem h)
    simp [e]
    omega
  · rename_i h
    split
    · simp
    · rename_i h2
      have h0 : (plainS s).H.length = 0 := by omega
      have e : (plainS s).P[0]? = some (plainS s).P[0] := List.getElem?_eq_getElem (by omega)
      have := op.per 0 _ e
      simp [h0, e]
      omega
noncomputable def nearIntF (s : Src) (m : Int) : Int × Int :=
  if code17 s s m = 0 then
    (if (cmpP (plainS s) ⟨[(termP (plainS s) 0).1, 2], [], []⟩ m.toNat).2 = 0 then
      (if (cmpP (plainS s) ⟨[(termP (plainS s) 0).1, 2], [], []⟩ m.toNat).1 < 0 then ((termP (plainS s) 0).1, 0) else ((termP (plainS s) 0).1 + 1, 0))
    else (0, (cmpP (plainS s) ⟨[(termP (plainS s) 0).1, 2], [], []⟩ m.toNat).2))
  else (0, code17 s s m)

set_option maxRecDepth 100000 in
set_option maxHeartbeats 3200000 in
theorem impl_NearestInteger (h p g : Value) (s : Src) (m : Int) (w : World) (hs : SlS w h p g s) :
    Calls Try.prog 72 #[.agg #[h, p, g], .int .i64 m] w fun e w' => e = .returned (.tuple #[.int .i64 (nearIntF s m).1, .int .i64 (nearIntF s m).2]) ∧ Bl w w' := by
  cases e1 : okSrc s with
  | false =>
    have hcd : code17 s s m = 1 := by simp [code17, e1]
    have HR := Lib.hid (show nearIntF s m = (0, 1) by rw [nearIntF, if_neg (by omega), hcd])
    clear hcd
    have E1 := Lib.hid e1
    clear e1
    go_enter Try.func72, Try.ntmps72
    go_wp2_with fail
    refine (ivalid_eqL E1.out _ (hs.below (bl_alloc (bl_refl _) _))).mono ?_
    rintro e w1 ⟨rfl, hb1⟩
    have B1 : Bl w w1 := bl_call (bl_alloc (bl_refl _) _) hb1
    have xF_1 : Bx w1 (w.heap.size) #[h, p, g] := (Bx.new (b := w.heap.size) _ #[h, p, g] 26 (by first | rfl | simp)).below hb1
    obtain ⟨cF_1, fF_1, zF_1⟩ := xF_1.out
    go_wp2
    go_ret2
    exact ⟨ret_ii2 HR.out, B1⟩
  | true =>
    cases e3 : inB m 1 1000 with
    | false =>
      have hcd : code17 s s m = 2 := by simp [code17, e1, e3]
      have HR := Lib.hid (show nearIntF s m = (0, 2) by rw [nearIntF, if_neg (by omega), hcd])
      clear hcd
      have E1 := Lib.hid e1
      clear e1
      have E3 := Lib.hid e3
      clear e3
      go_enter Try.func72, Try.ntmps72
      go_wp2_with fail
      refine (ivalid_eqL E1.out _ (hs.below (bl_alloc (bl_refl _) _))).mono ?_
      rintro e w1 ⟨rfl, hb1⟩
      have B1 : Bl w w1 := bl_call (bl_alloc (bl_refl _) _) hb1
      have xF_1 : Bx w1 (w.heap.size) #[h, p, g] := (Bx.new (b := w.heap.size) _ #[h, p, g] 26 (by first | rfl | simp)).below hb1
      obtain ⟨cF_1, fF_1, zF_1⟩ := xF_1.out
      go_wp2_with fail
      refine (isMost_eq E3.out _).mono ?_
      rintro e w9 ⟨rfl, rfl⟩
      go_wp2
      go_ret2
      exact ⟨ret_ii2 HR.out, B1⟩
    | true =>
      have hcd : code17 s s m = 0 := by simp [code17, e1, e3]
      have HR := (show nearIntF s m = _ by rw [nearIntF, if_pos hcd])
      have hm := inB_iff.1 e3
      obtain ⟨M, rfl⟩ := Int.eq_ofNat_of_zero_le (show 0 ≤ m by omega)
      rw [Int.toNat_natCast] at HR
      have K1 := okSrc_H e1
      obtain ⟨⟨x, o⟩, hx⟩ : ∃ z, termP (plainS s) 0 = z := ⟨_, rfl⟩
      have hxb := term0_bd K1
      rw [hx] at HR hxb
      have HX := Lib.hid hx
      clear hx
      simp only [] at HR hxb
      obtain ⟨⟨u, v⟩, hc⟩ : ∃ z, cmpP (plainS s) ⟨[x, 2], [], []⟩ M = z := ⟨_, rfl⟩
      rw [hc] at HR
      have HC := Lib.hid hc
      clear hc
      simp only [] at HR
      have HR := Lib.hid HR
      have hr2 : ∀ z ∈ [x, 2], R64 z := by simp [R64]; omega
      have hr2 := Lib.hid hr2
      have hok2 := Lib.hid (okPer_fin (xs := [x, 2]) (by simp))
      clear hcd
      have E1 := Lib.hid e1
      clear e1
      have E3 := Lib.hid e3
      clear e3
      go_enter Try.func72, Try.ntmps72
      go_wp2_with fail
      refine (ivalid_eqL E1.out _ (hs.below (bl_alloc (bl_refl _) _))).mono ?_
      rintro e w1 ⟨rfl, hb1⟩
      have B1 : Bl w w1 := bl_call (bl_alloc (bl_refl _) _) hb1
      have xF_1 : Bx w1 (w.heap.size) #[h, p, g] := (Bx.new (b := w.heap.size) _ #[h, p, g] 26 (by first | rfl | simp)).below hb1
      obtain ⟨cF_1, fF_1, zF_1⟩ := xF_1.out
      go_wp2_with fail
      refine (isMost_eq E3.out _).mono ?_
      rintro e w9 ⟨rfl, rfl⟩
      go_wp2_with fail
      refine (shortOf_any h p g s _ (hs.below B1) K1).mono ?_
      rintro e w2 ⟨ax1, nx1, cx1, ax2, nx2, cx2, ax3, nx3, cx3, ax4, nx4, cx4, fx, rfl, HZ, hb2⟩
      have B2 : Bl w w2 := bl_call B1 hb2
      have xF_2 : Bx w2 (w.heap.size) #[h, p, g] := xF_1.below hb2
      clear cF_1 fF_1 zF_1
      obtain ⟨cF_2, fF_2, zF_2⟩ := xF_2.out
      have HZ := Lib.hid HZ
      go_wp2_with fail
      refine (at_eq (k := 0) HX.out _ (HZ.out.below (bl_alloc (bl_refl _) _)) (by omega)).mono ?_
      rintro e w3 ⟨rfl, hb3⟩
      have B3 : Bl w w3 := bl_call (bl_alloc B2 _) hb3
      have xF_3 : Bx w3 (w.heap.size) #[h, p, g] := (xF_2.alloc _).below hb3
      have xX_3 : Bx w3 (w2.heap.size) #[.slice ax1 nx1 cx1, .slice ax2 nx2 cx2, .slice ax3 nx3 cx3, .slice ax4 nx4 cx4, .bool fx] := (Bx.new (b := w2.heap.size) _ #[.slice ax1 nx1 cx1, .slice ax2 nx2 cx2, .slice ax3 nx3 cx3, .slice ax4 nx4 cx4, .bool fx] 107 (by first | rfl | simp)).below hb3
      clear cF_2 fF_2 zF_2
      obtain ⟨cF_3, fF_3, zF_3⟩ := xF_3.out
      obtain ⟨cX_3, fX_3, zX_3⟩ := xX_3.out
      go_wp2_with fail
      refine (compareBy_any _ _ _ _ _ _ _ _ _ _ _ _ _ (plainS s) none 0 0 none 0 0 none 0 0 _ _ _ true ⟨[x, 2], [], []⟩ M _ (((HZ.out.below (bl_alloc (bl_refl _) _)).below hb3).below (bl_alloc (bl_refl _) _)) ⟨hok2.out, .inr ⟨rfl, rfl, Sl.lit (Bx.new (b := w3.heap.size) _ #[.int .i64 x, .int .i64 2] 2 (by first | rfl | simp)) rfl (Nat.le_refl _) (by simp [maxLen]) hr2.out (lit2i x 2)⟩⟩ (by omega)).mono ?_
      rintro e w4 ⟨rfl, hb4⟩
      have B4 : Bl w w4 := bl_call (bl_alloc B3 _) hb4
      have xF_4 : Bx w4 (w.heap.size) #[h, p, g] := (xF_3.alloc _).below hb4
      have xX_4 : Bx w4 (w2.heap.size) #[.slice ax1 nx1 cx1, .slice ax2 nx2 cx2, .slice ax3 nx3 cx3, .slice ax4 nx4 cx4, .bool fx] := (xX_3.alloc _).below hb4
      have xL_4 : Bx w4 (w3.heap.size) #[.int .i64 x, .int .i64 2] := (Bx.new (b := w3.heap.size) _ #[.int .i64 x, .int .i64 2] 2 (by first | rfl | simp)).below hb4
      clear cF_3 fF_3 zF_3 cX_3 fX_3 zX_3
      obtain ⟨cF_4, fF_4, zF_4⟩ := xF_4.out
      obtain ⟨cX_4, fX_4, zX_4⟩ := xX_4.out
      obtain ⟨cL_4, fL_4, zL_4⟩ := xL_4.out
      rw [HC.out]
      by_cases hv : v = 0
      · subst hv
        by_cases hu : u < 0
        ·
          have HU := Lib.hid hu
          go_wp2
          go_ret2
          exact ⟨ret_ii2 (by rw [HR.out, if_pos trivial, if_pos HU.out]), B4⟩
        ·
          have HU := Lib.hid hu
          have hu2 : 0 ≤ u := by omega
          go_wp2
          go_ret2
          exact ⟨ret_ii2 (by rw [HR.out, if_pos trivial, if_neg (by have := HU.out; omega)]), B4⟩
      ·
        have HV := Lib.hid hv
        have hv2 : (v != 0) = true := by simp [hv]
        clear hv
        go_wp2
        go_ret2
        exact ⟨ret_ii2 (by rw [HR.out, if_neg HV.out]), B4⟩

set_option maxRecDepth 100000 in
set_option maxHeartbeats 3200000 in
theorem spec_NearestInteger (h p g : Value) (s : Src) (m : Int) (w : World) (hs : SlS w h p g s) :
    Calls Try.prog 73 #[.agg #[h, p, g], .int .i64 m] w fun e w' => e = .returned (.tuple #[.int .i64 (nearIntF s m).1, .int .i64 (nearIntF s m).2]) ∧ Bl w w' := by
  by_cases hcz : code17 s s m = 0
  ·
    have HR := (show nearIntF s m = _ by rw [nearIntF, if_pos hcz])
    obtain ⟨k1, k2, hm⟩ := code17_zero hcz
    obtain ⟨M, rfl⟩ := Int.eq_ofNat_of_zero_le (show 0 ≤ m by omega)
    rw [Int.toNat_natCast] at HR
    have hb : (code17 s s M != 0) = false := by simp [hcz]
    have K1 := okSrc_H k1
    clear k1 k2
    obtain ⟨⟨x, o⟩, hx⟩ : ∃ z, termP (plainS s) 0 = z := ⟨_, rfl⟩
    have hxb := term0_bd K1
    rw [hx] at HR hxb
    have HX := Lib.hid hx
    clear hx
    simp only [] at HR hxb
    obtain ⟨⟨u, v⟩, hc⟩ : ∃ z, cmpP (plainS s) ⟨[x, 2], [], []⟩ M = z := ⟨_, rfl⟩
    rw [hc] at HR
    have HC := Lib.hid hc
    clear hc
    simp only [] at HR
    have HR := Lib.hid HR
    have hr2 : ∀ z ∈ [x, 2], R64 z := by simp [R64]; omega
    have hr2 := Lib.hid hr2
    have hok2 := Lib.hid (okPer_fin (xs := [x, 2]) (by simp))
    have HP := Lib.hid (plain_idem K1)
    have HPH := Lib.hid (plain_half x)
    have hk := Lib.hid (plain_hb K1)
    clear hcz
    generalize hcc : code17 s s M = cc at *
    have HCC := Lib.hid hcc
    clear hcc
    go_enter Try.func73, Try.ntmps73
    go_wp2_with fail
    refine (code17_any h p g s h p g s M _ (w.heap.size) (w.heap.size) (hs.below (bl_alloc (bl_refl _) _)) (hs.below (bl_alloc (bl_refl _) _)) (Bx.new (b := w.heap.size) _ #[h, p, g] 26 (by first | rfl | simp)) (Bx.new (b := w.heap.size) _ #[h, p, g] 26 (by first | rfl | simp))).mono ?_
    rintro e w1 ⟨rfl, hb1⟩
    have B1 : Bl w w1 := bl_call (bl_alloc (bl_refl _) _) hb1
    have xF_1 : Bx w1 (w.heap.size) #[h, p, g] := (Bx.new (b := w.heap.size) _ #[h, p, g] 26 (by first | rfl | simp)).below hb1
    obtain ⟨cF_1, fF_1, zF_1⟩ := xF_1.out
    rw [HCC.out]
    go_wp2_with fail
    refine (plainSrc_any h p g s _ (w.heap.size) (hs.below B1) xF_1 K1.okPer K1.hb).mono ?_
    rintro e w2 ⟨u1, v1, z1, u2, v2, z2, u3, v3, z3, rfl, HA, hb2⟩
    have B2 : Bl w w2 := bl_call B1 hb2
    have xF_2 : Bx w2 (w.heap.size) #[h, p, g] := xF_1.below hb2
    clear cF_1 fF_1 zF_1
    obtain ⟨cF_2, fF_2, zF_2⟩ := xF_2.out
    have HA := Lib.hid HA
    go_wp2_with fail
    refine (sterm_eqS (k := 0) HX.out _ (w2.heap.size) (HA.out.alloc _) (Bx.new (b := w2.heap.size) _ #[.slice u1 v1 z1, .slice u2 v2 z2, .slice u3 v3 z3] 26 (by first | rfl | simp)) K1.okPer.plain (by omega)).mono ?_
    rintro e w3 ⟨rfl, hb3⟩
    have B3 : Bl w w3 := bl_call (bl_alloc B2 _) hb3
    have xF_3 : Bx w3 (w.heap.size) #[h, p, g] := (xF_2.alloc _).below hb3
    have xA_3 : Bx w3 (w2.heap.size) #[.slice u1 v1 z1, .slice u2 v2 z2, .slice u3 v3 z3] := (Bx.new (b := w2.heap.size) _ #[.slice u1 v1 z1, .slice u2 v2 z2, .slice u3 v3 z3] 26 (by first | rfl | simp)).below hb3
    clear cF_2 fF_2 zF_2
    obtain ⟨cF_3, fF_3, zF_3⟩ := xF_3.out
    obtain ⟨cA_3, fA_3, zA_3⟩ := xA_3.out
    go_wp2_with fail
    refine (scompare_any _ _ _ (plainS s) _ _ _ ⟨[x, 2], [], []⟩ M _ (w2.heap.size) (w3.heap.size + 1) ((HA.out.alloc _).below hb3 |>.alloc _ |>.alloc _) ⟨Sl.lit ((Bx.new (b := w3.heap.size) _ #[.int .i64 x, .int .i64 2] 2 (by first | rfl | simp)).alloc _) rfl (Nat.le_refl _) (by simp [maxLen]) hr2.out (lit2i x 2), Sl.nil _, Sl.nil _⟩ ((xA_3.alloc _).alloc _) (Bx.new (b := w3.heap.size + 1) _ #[.slice (some ⟨w3.heap.size, 0, none⟩) 2 2, .slice none 0 0, .slice none 0 0] 26 (by first | rfl | simp)) K1.okPer.plain hok2.out (fun y hy => by have := hk.out y hy; omega) (by simp; omega) (by omega)).mono ?_
    rintro e w4 ⟨rfl, hb4⟩
    have B4 : Bl w w4 := bl_call (bl_alloc (bl_alloc B3 _) _) hb4
    have xF_4 : Bx w4 (w.heap.size) #[h, p, g] := ((xF_3.alloc _).alloc _).below hb4
    have xA_4 : Bx w4 (w2.heap.size) #[.slice u1 v1 z1, .slice u2 v2 z2, .slice u3 v3 z3] := ((xA_3.alloc _).alloc _).below hb4
    have xL_4 : Bx w4 (w3.heap.size) #[.int .i64 x, .int .i64 2] := ((Bx.new (b := w3.heap.size) _ #[.int .i64 x, .int .i64 2] 2 (by first | rfl | simp)).alloc _).below hb4
    have xH_4 : Bx w4 (w3.heap.size + 1) #[.slice (some ⟨w3.heap.size, 0, none⟩) 2 2, .slice none 0 0, .slice none 0 0] := (Bx.new (b := w3.heap.size + 1) _ #[.slice (some ⟨w3.heap.size, 0, none⟩) 2 2, .slice none 0 0, .slice none 0 0] 26 (by first | rfl | simp)).below hb4
    clear cF_3 fF_3 zF_3 cA_3 fA_3 zA_3
    obtain ⟨cF_4, fF_4, zF_4⟩ := xF_4.out
    obtain ⟨cA_4, fA_4, zA_4⟩ := xA_4.out
    obtain ⟨cL_4, fL_4, zL_4⟩ := xL_4.out
    obtain ⟨cH_4, fH_4, zH_4⟩ := xH_4.out
    rw [HP.out, HPH.out, HC.out]
    by_cases hv : v = 0
    · subst hv
      by_cases hu : u < 0
      ·
        have HU := Lib.hid hu
        go_wp2
        go_ret2
        exact ⟨ret_ii2 (by rw [HR.out, if_pos trivial, if_pos HU.out]), B4⟩
      ·
        have HU := Lib.hid hu
        have hu2 : 0 ≤ u := by omega
        go_wp2
        go_ret2
        exact ⟨ret_ii2 (by rw [HR.out, if_pos trivial, if_neg (by have := HU.out; omega)]), B4⟩
    ·
      have HV := Lib.hid hv
      have hv2 : (v != 0) = true := by simp [hv]
      clear hv
      go_wp2
      go_ret2
      exact ⟨ret_ii2 (by rw [HR.out, if_neg HV.out]), B4⟩
  ·
    have HR := Lib.hid (show nearIntF s m = (0, code17 s s m) by rw [nearIntF, if_neg hcz])
    have hb : (code17 s s m != 0) = true := by simp [hcz]
    clear hcz
    generalize hcc : code17 s s m = cc at *
    have HCC := Lib.hid hcc
    clear hcc
    go_enter Try.func73, Try.ntmps73
    go_wp2_with fail
    refine (code17_any h p g s h p g s m _ (w.heap.size) (w.heap.size) (hs.below (bl_alloc (bl_refl _) _)) (hs.below (bl_alloc (bl_refl _) _)) (Bx.new (b := w.heap.size) _ #[h, p, g] 26 (by first | rfl | simp)) (Bx.new (b := w.heap.size) _ #[h, p, g] 26 (by first | rfl | simp))).mono ?_
    rintro e w1 ⟨rfl, hb1⟩
    have B1 : Bl w w1 := bl_call (bl_alloc (bl_refl _) _) hb1
    have xF_1 : Bx w1 (w.heap.size) #[h, p, g] := (Bx.new (b := w.heap.size) _ #[h, p, g] 26 (by first | rfl | simp)).below hb1
    obtain ⟨cF_1, fF_1, zF_1⟩ := xF_1.out
    rw [HCC.out]
    go_wp2
    go_ret2
    exact ⟨ret_ii2 HR.out, B1⟩

end Go.Proofs.Ytgmofofokhlhnaa
