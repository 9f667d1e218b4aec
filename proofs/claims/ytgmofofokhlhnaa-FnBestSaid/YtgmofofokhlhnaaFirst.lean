/- Best approximations of the first kind. Each theorem names its conditions. -/
import Derived.Test.YtgmofofokhlhnaaMost
namespace Go.Proofs.Ytgmofofokhlhnaa
open Go.RowKit
set_option linter.unusedVariables false
set_option linter.unusedSimpArgs false

theorem ret_bi {r : Bool × Int} {x : Bool} {b : Int} (h : r = (x, b)) : Ending.returned (.tuple #[.bool x, .int .i64 b]) = .returned (.tuple #[.bool r.1, .int .i64 r.2]) := by subst h; rfl
structure Sm2 (n d x y : Int) : Prop where
  n1 : -1000000 ≤ n
  n2 : n ≤ 1000000
  d1 : 1 ≤ d
  d2 : d ≤ 1000000
  x1 : -1000000 ≤ x
  x2 : x ≤ 1000000
  y1 : 1 ≤ y
  y2 : y ≤ 1000000
  g : gcdI n d = 1
  o : okF n d = true
theorem sm2_of {n d a b : Int} (h : bestC true [(n, d), (a, b)] = 0) : Sm2 n d a b := by
  obtain ⟨_, h1, h2⟩ := bestC_zero h
  have q := h1 (n, d) (by simp)
  have o1 := okP_bd (h1 (n, d) (by simp)); have o2 := okP_bd (h1 (a, b) (by simp))
  have s1 := smP_bd (h2 (n, d) (by simp)); have s2 := smP_bd (h2 (a, b) (by simp))
  exact ⟨by omega, by omega, by omega, by omega, by omega, by omega, by omega, by omega, o1.2.2.2.2, q⟩

/-- A best approximation of the first kind. -/
noncomputable def firstF (n d x y : Int) : Bool :=
  decide (((x = (sidesF n d y).1.1 ∧ y = (sidesF n d y).1.2) ∧ (cmpErrF n d (sidesF n d y).1.1 (sidesF n d y).1.2 (sidesF n d y).2.1 (sidesF n d y).2.2 < 0 ∨ ((sidesF n d y).1.1 = (sidesF n d y).2.1 ∧ (sidesF n d y).1.2 = (sidesF n d y).2.2))) ∨
    ((x = (sidesF n d y).2.1 ∧ y = (sidesF n d y).2.2) ∧ 0 < cmpErrF n d (sidesF n d y).1.1 (sidesF n d y).1.2 (sidesF n d y).2.1 (sidesF n d y).2.2))
theorem firstF_eq {n d x y a b p q : Int} (hs : sidesF n d y = ((a, b), (p, q))) : firstF n d x y = decide (((x = a ∧ y = b) ∧ (cmpErrF n d a b p q < 0 ∨ (a = p ∧ b = q))) ∨ ((x = p ∧ y = q) ∧ 0 < cmpErrF n d a b p q)) := by unfold firstF; rw [hs]
theorem same_sides {n d y a b p q : Int} (hg : gcdI n d = 1) (h1 : 1 ≤ y) (hs : sidesF n d y = ((a, b), (p, q))) (e1 : a = p) (e2 : b = q) : (a = n ∧ b = d) ∧ cmpErrF n d a b p q = 0 := by
  subst e1 e2
  refine ⟨?_, by simp [cmpErrF, cmpF]⟩
  by_cases hm : d ≤ y
  · rw [sidesF_own hm] at hs
    simp at hs
    exact ⟨hs.1.symm, hs.2.symm⟩
  · have s := (sidesF_spec hg h1 hm).1
    rw [hs] at s
    have := s.det
    simp only [] at this
    omega

set_option maxRecDepth 100000 in
set_option maxHeartbeats 6400000 in
theorem sfirst_any (n d x y : Int) (w : World) (ok : Sm2 n d x y) :
    Calls Try.prog 119 #[.agg #[.int .i64 n, .int .i64 d], .agg #[.int .i64 x, .int .i64 y]] w fun r w' => r = .returned (.bool (firstF n d x y)) ∧ Bl w w' := by
  have HS := Lib.hid ok
  obtain ⟨n1, n2, d1, d2, x1, x2, y1, y2, _, _⟩ := ok
  obtain ⟨⟨⟨a, b⟩, ⟨p, q⟩⟩, hs⟩ : ∃ z, z = sidesF n d y := ⟨_, rfl⟩
  have HSD := Lib.hid hs.symm
  have HSM := Lib.hid (sides_small HS.out.o y1 ⟨n1, n2⟩ d2 hs.symm)
  have HN := Lib.hid (firstF_eq (x := x) hs.symm)
  clear hs
  have HSS := Lib.hid (fun e1 e2 => same_sides HS.out.g y1 HSD.out e1 e2)
  obtain ⟨C, hC⟩ : ∃ C, C = cmpErrF n d a b p q := ⟨_, rfl⟩
  have HC := Lib.hid hC.symm
  clear hC
  by_cases hp : a = p
  ·
    by_cases hq : b = q
    ·
      by_cases hu : x = n
      ·
        by_cases hv : y = d
        ·
          have HR := Lib.hid (show true = firstF n d x y by rw [HN.out, HC.out]; have hss := HSS.out hp hq; rw [HC.out] at hss; simp; omega)
          have k0 : (a == p) = true := by simp; omega
          have k1 : (b == q) = true := by simp; omega
          have k2 : (x == n) = true := by simp; omega
          have k3 : (y == d) = true := by simp; omega
          clear hp hq hu hv
          go_enter Try.func119, Try.ntmps119
          go_wp2_with fail
          refine (sides_eq HS.out.o y y1 HSD.out _).mono ?_
          rintro e w1 ⟨rfl, hb1⟩
          have B1 : Bl w w1 := bl_call (bl_alloc (bl_alloc (bl_refl _) _) _) hb1
          have xF_1 : Bx w1 (w.heap.size) #[.int .i64 (n), .int .i64 (d)] := ((Bx.new (b := w.heap.size) _ #[.int .i64 (n), .int .i64 (d)] 55 (by first | rfl | simp)).alloc _).below hb1
          have xG_1 : Bx w1 (w.heap.size + 1) #[.int .i64 (x), .int .i64 (y)] := (Bx.new (b := w.heap.size + 1) _ #[.int .i64 (x), .int .i64 (y)] 55 (by first | rfl | simp)).below hb1
          obtain ⟨cF_1, fF_1, zF_1⟩ := xF_1.out
          obtain ⟨cG_1, fG_1, zG_1⟩ := xG_1.out
          go_wp2
          go_ret
          exact ⟨ret_bool (by first | exact HR.out | (rw [← HR.out]; simp; omega)), (bl_alloc (bl_alloc B1 _) _)⟩
        ·
          have HR := Lib.hid (show false = firstF n d x y by rw [HN.out, HC.out]; have hss := HSS.out hp hq; rw [HC.out] at hss; simp; omega)
          have k0 : (a == p) = true := by simp; omega
          have k1 : (b == q) = true := by simp; omega
          have k2 : (x == n) = true := by simp; omega
          have k3 : (y == d) = false := by simp; omega
          clear hp hq hu hv
          go_enter Try.func119, Try.ntmps119
          go_wp2_with fail
          refine (sides_eq HS.out.o y y1 HSD.out _).mono ?_
          rintro e w1 ⟨rfl, hb1⟩
          have B1 : Bl w w1 := bl_call (bl_alloc (bl_alloc (bl_refl _) _) _) hb1
          have xF_1 : Bx w1 (w.heap.size) #[.int .i64 (n), .int .i64 (d)] := ((Bx.new (b := w.heap.size) _ #[.int .i64 (n), .int .i64 (d)] 55 (by first | rfl | simp)).alloc _).below hb1
          have xG_1 : Bx w1 (w.heap.size + 1) #[.int .i64 (x), .int .i64 (y)] := (Bx.new (b := w.heap.size + 1) _ #[.int .i64 (x), .int .i64 (y)] 55 (by first | rfl | simp)).below hb1
          obtain ⟨cF_1, fF_1, zF_1⟩ := xF_1.out
          obtain ⟨cG_1, fG_1, zG_1⟩ := xG_1.out
          go_wp2
          go_ret
          exact ⟨ret_bool (by first | exact HR.out | (rw [← HR.out]; simp; omega)), (bl_alloc (bl_alloc B1 _) _)⟩
      ·
        have HR := Lib.hid (show false = firstF n d x y by rw [HN.out, HC.out]; have hss := HSS.out hp hq; rw [HC.out] at hss; simp; omega)
        have k0 : (a == p) = true := by simp; omega
        have k1 : (b == q) = true := by simp; omega
        have k2 : (x == n) = false := by simp; omega
        clear hp hq hu
        go_enter Try.func119, Try.ntmps119
        go_wp2_with fail
        refine (sides_eq HS.out.o y y1 HSD.out _).mono ?_
        rintro e w1 ⟨rfl, hb1⟩
        have B1 : Bl w w1 := bl_call (bl_alloc (bl_alloc (bl_refl _) _) _) hb1
        have xF_1 : Bx w1 (w.heap.size) #[.int .i64 (n), .int .i64 (d)] := ((Bx.new (b := w.heap.size) _ #[.int .i64 (n), .int .i64 (d)] 55 (by first | rfl | simp)).alloc _).below hb1
        have xG_1 : Bx w1 (w.heap.size + 1) #[.int .i64 (x), .int .i64 (y)] := (Bx.new (b := w.heap.size + 1) _ #[.int .i64 (x), .int .i64 (y)] 55 (by first | rfl | simp)).below hb1
        obtain ⟨cF_1, fF_1, zF_1⟩ := xF_1.out
        obtain ⟨cG_1, fG_1, zG_1⟩ := xG_1.out
        go_wp2
        go_ret
        exact ⟨ret_bool (by first | exact HR.out | (rw [← HR.out]; simp; omega)), (bl_alloc (bl_alloc B1 _) _)⟩
    ·
      by_cases hc : C < 0
      ·
        by_cases hu : x = a
        ·
          by_cases hv : y = b
          ·
            have HR := Lib.hid (show true = firstF n d x y by rw [HN.out, HC.out]; simp; omega)
            have k0 : (a == p) = true := by simp; omega
            have k1 : (b == q) = false := by simp; omega
            have k2 : (x == a) = true := by simp; omega
            have k3 : (y == b) = true := by simp; omega
            have c0 : C < 0 := by omega
            clear hp hq hc hu hv
            go_enter Try.func119, Try.ntmps119
            go_wp2_with fail
            refine (sides_eq HS.out.o y y1 HSD.out _).mono ?_
            rintro e w1 ⟨rfl, hb1⟩
            have B1 : Bl w w1 := bl_call (bl_alloc (bl_alloc (bl_refl _) _) _) hb1
            have xF_1 : Bx w1 (w.heap.size) #[.int .i64 (n), .int .i64 (d)] := ((Bx.new (b := w.heap.size) _ #[.int .i64 (n), .int .i64 (d)] 55 (by first | rfl | simp)).alloc _).below hb1
            have xG_1 : Bx w1 (w.heap.size + 1) #[.int .i64 (x), .int .i64 (y)] := (Bx.new (b := w.heap.size + 1) _ #[.int .i64 (x), .int .i64 (y)] 55 (by first | rfl | simp)).below hb1
            obtain ⟨cF_1, fF_1, zF_1⟩ := xF_1.out
            obtain ⟨cG_1, fG_1, zG_1⟩ := xG_1.out
            go_wp2_with fail
            refine (scmpErr_any n d a b p q _ HSM.out.1).mono ?_
            rintro e w2 ⟨rfl, hb2⟩
            have B2 : Bl w w2 := bl_call (bl_alloc (bl_alloc B1 _) _) hb2
            have xF_2 : Bx w2 (w.heap.size) #[.int .i64 (n), .int .i64 (d)] := ((xF_1.alloc _).alloc _).below hb2
            have xG_2 : Bx w2 (w.heap.size + 1) #[.int .i64 (x), .int .i64 (y)] := ((xG_1.alloc _).alloc _).below hb2
            have xL_2 : Bx w2 (w1.heap.size) #[.int .i64 (a), .int .i64 (b)] := ((Bx.new (b := w1.heap.size) _ #[.int .i64 (a), .int .i64 (b)] 55 (by first | rfl | simp)).alloc _).below hb2
            have xH_2 : Bx w2 (w1.heap.size + 1) #[.int .i64 (p), .int .i64 (q)] := (Bx.new (b := w1.heap.size + 1) _ #[.int .i64 (p), .int .i64 (q)] 55 (by first | rfl | simp)).below hb2
            clear cF_1 fF_1 zF_1 cG_1 fG_1 zG_1
            obtain ⟨cF_2, fF_2, zF_2⟩ := xF_2.out
            obtain ⟨cG_2, fG_2, zG_2⟩ := xG_2.out
            obtain ⟨cL_2, fL_2, zL_2⟩ := xL_2.out
            obtain ⟨cH_2, fH_2, zH_2⟩ := xH_2.out
            rw [HC.out]
            go_wp2
            go_ret
            exact ⟨ret_bool (by first | exact HR.out | (rw [← HR.out]; simp; omega)), B2⟩
          ·
            have HR := Lib.hid (show false = firstF n d x y by rw [HN.out, HC.out]; simp; omega)
            have k0 : (a == p) = true := by simp; omega
            have k1 : (b == q) = false := by simp; omega
            have k2 : (x == a) = true := by simp; omega
            have k3 : (y == b) = false := by simp; omega
            have c0 : C < 0 := by omega
            clear hp hq hc hu hv
            go_enter Try.func119, Try.ntmps119
            go_wp2_with fail
            refine (sides_eq HS.out.o y y1 HSD.out _).mono ?_
            rintro e w1 ⟨rfl, hb1⟩
            have B1 : Bl w w1 := bl_call (bl_alloc (bl_alloc (bl_refl _) _) _) hb1
            have xF_1 : Bx w1 (w.heap.size) #[.int .i64 (n), .int .i64 (d)] := ((Bx.new (b := w.heap.size) _ #[.int .i64 (n), .int .i64 (d)] 55 (by first | rfl | simp)).alloc _).below hb1
            have xG_1 : Bx w1 (w.heap.size + 1) #[.int .i64 (x), .int .i64 (y)] := (Bx.new (b := w.heap.size + 1) _ #[.int .i64 (x), .int .i64 (y)] 55 (by first | rfl | simp)).below hb1
            obtain ⟨cF_1, fF_1, zF_1⟩ := xF_1.out
            obtain ⟨cG_1, fG_1, zG_1⟩ := xG_1.out
            go_wp2_with fail
            refine (scmpErr_any n d a b p q _ HSM.out.1).mono ?_
            rintro e w2 ⟨rfl, hb2⟩
            have B2 : Bl w w2 := bl_call (bl_alloc (bl_alloc B1 _) _) hb2
            have xF_2 : Bx w2 (w.heap.size) #[.int .i64 (n), .int .i64 (d)] := ((xF_1.alloc _).alloc _).below hb2
            have xG_2 : Bx w2 (w.heap.size + 1) #[.int .i64 (x), .int .i64 (y)] := ((xG_1.alloc _).alloc _).below hb2
            have xL_2 : Bx w2 (w1.heap.size) #[.int .i64 (a), .int .i64 (b)] := ((Bx.new (b := w1.heap.size) _ #[.int .i64 (a), .int .i64 (b)] 55 (by first | rfl | simp)).alloc _).below hb2
            have xH_2 : Bx w2 (w1.heap.size + 1) #[.int .i64 (p), .int .i64 (q)] := (Bx.new (b := w1.heap.size + 1) _ #[.int .i64 (p), .int .i64 (q)] 55 (by first | rfl | simp)).below hb2
            clear cF_1 fF_1 zF_1 cG_1 fG_1 zG_1
            obtain ⟨cF_2, fF_2, zF_2⟩ := xF_2.out
            obtain ⟨cG_2, fG_2, zG_2⟩ := xG_2.out
            obtain ⟨cL_2, fL_2, zL_2⟩ := xL_2.out
            obtain ⟨cH_2, fH_2, zH_2⟩ := xH_2.out
            rw [HC.out]
            go_wp2
            go_ret
            exact ⟨ret_bool (by first | exact HR.out | (rw [← HR.out]; simp; omega)), B2⟩
        ·
          have HR := Lib.hid (show false = firstF n d x y by rw [HN.out, HC.out]; simp; omega)
          have k0 : (a == p) = true := by simp; omega
          have k1 : (b == q) = false := by simp; omega
          have k2 : (x == a) = false := by simp; omega
          have c0 : C < 0 := by omega
          clear hp hq hc hu
          go_enter Try.func119, Try.ntmps119
          go_wp2_with fail
          refine (sides_eq HS.out.o y y1 HSD.out _).mono ?_
          rintro e w1 ⟨rfl, hb1⟩
          have B1 : Bl w w1 := bl_call (bl_alloc (bl_alloc (bl_refl _) _) _) hb1
          have xF_1 : Bx w1 (w.heap.size) #[.int .i64 (n), .int .i64 (d)] := ((Bx.new (b := w.heap.size) _ #[.int .i64 (n), .int .i64 (d)] 55 (by first | rfl | simp)).alloc _).below hb1
          have xG_1 : Bx w1 (w.heap.size + 1) #[.int .i64 (x), .int .i64 (y)] := (Bx.new (b := w.heap.size + 1) _ #[.int .i64 (x), .int .i64 (y)] 55 (by first | rfl | simp)).below hb1
          obtain ⟨cF_1, fF_1, zF_1⟩ := xF_1.out
          obtain ⟨cG_1, fG_1, zG_1⟩ := xG_1.out
          go_wp2_with fail
          refine (scmpErr_any n d a b p q _ HSM.out.1).mono ?_
          rintro e w2 ⟨rfl, hb2⟩
          have B2 : Bl w w2 := bl_call (bl_alloc (bl_alloc B1 _) _) hb2
          have xF_2 : Bx w2 (w.heap.size) #[.int .i64 (n), .int .i64 (d)] := ((xF_1.alloc _).alloc _).below hb2
          have xG_2 : Bx w2 (w.heap.size + 1) #[.int .i64 (x), .int .i64 (y)] := ((xG_1.alloc _).alloc _).below hb2
          have xL_2 : Bx w2 (w1.heap.size) #[.int .i64 (a), .int .i64 (b)] := ((Bx.new (b := w1.heap.size) _ #[.int .i64 (a), .int .i64 (b)] 55 (by first | rfl | simp)).alloc _).below hb2
          have xH_2 : Bx w2 (w1.heap.size + 1) #[.int .i64 (p), .int .i64 (q)] := (Bx.new (b := w1.heap.size + 1) _ #[.int .i64 (p), .int .i64 (q)] 55 (by first | rfl | simp)).below hb2
          clear cF_1 fF_1 zF_1 cG_1 fG_1 zG_1
          obtain ⟨cF_2, fF_2, zF_2⟩ := xF_2.out
          obtain ⟨cG_2, fG_2, zG_2⟩ := xG_2.out
          obtain ⟨cL_2, fL_2, zL_2⟩ := xL_2.out
          obtain ⟨cH_2, fH_2, zH_2⟩ := xH_2.out
          rw [HC.out]
          go_wp2
          go_ret
          exact ⟨ret_bool (by first | exact HR.out | (rw [← HR.out]; simp; omega)), B2⟩
      ·
        by_cases hd : 0 < C
        ·
          by_cases hu : x = p
          ·
            by_cases hv : y = q
            ·
              have HR := Lib.hid (show true = firstF n d x y by rw [HN.out, HC.out]; simp; omega)
              have k0 : (a == p) = true := by simp; omega
              have k1 : (b == q) = false := by simp; omega
              have k2 : (x == p) = true := by simp; omega
              have k3 : (y == q) = true := by simp; omega
              have c0 : 0 < C := by omega
              clear hp hq hc hd hu hv
              go_enter Try.func119, Try.ntmps119
              go_wp2_with fail
              refine (sides_eq HS.out.o y y1 HSD.out _).mono ?_
              rintro e w1 ⟨rfl, hb1⟩
              have B1 : Bl w w1 := bl_call (bl_alloc (bl_alloc (bl_refl _) _) _) hb1
              have xF_1 : Bx w1 (w.heap.size) #[.int .i64 (n), .int .i64 (d)] := ((Bx.new (b := w.heap.size) _ #[.int .i64 (n), .int .i64 (d)] 55 (by first | rfl | simp)).alloc _).below hb1
              have xG_1 : Bx w1 (w.heap.size + 1) #[.int .i64 (x), .int .i64 (y)] := (Bx.new (b := w.heap.size + 1) _ #[.int .i64 (x), .int .i64 (y)] 55 (by first | rfl | simp)).below hb1
              obtain ⟨cF_1, fF_1, zF_1⟩ := xF_1.out
              obtain ⟨cG_1, fG_1, zG_1⟩ := xG_1.out
              go_wp2_with fail
              refine (scmpErr_any n d a b p q _ HSM.out.1).mono ?_
              rintro e w2 ⟨rfl, hb2⟩
              have B2 : Bl w w2 := bl_call (bl_alloc (bl_alloc B1 _) _) hb2
              have xF_2 : Bx w2 (w.heap.size) #[.int .i64 (n), .int .i64 (d)] := ((xF_1.alloc _).alloc _).below hb2
              have xG_2 : Bx w2 (w.heap.size + 1) #[.int .i64 (x), .int .i64 (y)] := ((xG_1.alloc _).alloc _).below hb2
              have xL_2 : Bx w2 (w1.heap.size) #[.int .i64 (a), .int .i64 (b)] := ((Bx.new (b := w1.heap.size) _ #[.int .i64 (a), .int .i64 (b)] 55 (by first | rfl | simp)).alloc _).below hb2
              have xH_2 : Bx w2 (w1.heap.size + 1) #[.int .i64 (p), .int .i64 (q)] := (Bx.new (b := w1.heap.size + 1) _ #[.int .i64 (p), .int .i64 (q)] 55 (by first | rfl | simp)).below hb2
              clear cF_1 fF_1 zF_1 cG_1 fG_1 zG_1
              obtain ⟨cF_2, fF_2, zF_2⟩ := xF_2.out
              obtain ⟨cG_2, fG_2, zG_2⟩ := xG_2.out
              obtain ⟨cL_2, fL_2, zL_2⟩ := xL_2.out
              obtain ⟨cH_2, fH_2, zH_2⟩ := xH_2.out
              rw [HC.out]
              go_wp2
              go_ret
              exact ⟨ret_bool (by first | exact HR.out | (rw [← HR.out]; simp; omega)), B2⟩
            ·
              have HR := Lib.hid (show false = firstF n d x y by rw [HN.out, HC.out]; simp; omega)
              have k0 : (a == p) = true := by simp; omega
              have k1 : (b == q) = false := by simp; omega
              have k2 : (x == p) = true := by simp; omega
              have k3 : (y == q) = false := by simp; omega
              have c0 : 0 < C := by omega
              clear hp hq hc hd hu hv
              go_enter Try.func119, Try.ntmps119
              go_wp2_with fail
              refine (sides_eq HS.out.o y y1 HSD.out _).mono ?_
              rintro e w1 ⟨rfl, hb1⟩
              have B1 : Bl w w1 := bl_call (bl_alloc (bl_alloc (bl_refl _) _) _) hb1
              have xF_1 : Bx w1 (w.heap.size) #[.int .i64 (n), .int .i64 (d)] := ((Bx.new (b := w.heap.size) _ #[.int .i64 (n), .int .i64 (d)] 55 (by first | rfl | simp)).alloc _).below hb1
              have xG_1 : Bx w1 (w.heap.size + 1) #[.int .i64 (x), .int .i64 (y)] := (Bx.new (b := w.heap.size + 1) _ #[.int .i64 (x), .int .i64 (y)] 55 (by first | rfl | simp)).below hb1
              obtain ⟨cF_1, fF_1, zF_1⟩ := xF_1.out
              obtain ⟨cG_1, fG_1, zG_1⟩ := xG_1.out
              go_wp2_with fail
              refine (scmpErr_any n d a b p q _ HSM.out.1).mono ?_
              rintro e w2 ⟨rfl, hb2⟩
              have B2 : Bl w w2 := bl_call (bl_alloc (bl_alloc B1 _) _) hb2
              have xF_2 : Bx w2 (w.heap.size) #[.int .i64 (n), .int .i64 (d)] := ((xF_1.alloc _).alloc _).below hb2
              have xG_2 : Bx w2 (w.heap.size + 1) #[.int .i64 (x), .int .i64 (y)] := ((xG_1.alloc _).alloc _).below hb2
              have xL_2 : Bx w2 (w1.heap.size) #[.int .i64 (a), .int .i64 (b)] := ((Bx.new (b := w1.heap.size) _ #[.int .i64 (a), .int .i64 (b)] 55 (by first | rfl | simp)).alloc _).below hb2
              have xH_2 : Bx w2 (w1.heap.size + 1) #[.int .i64 (p), .int .i64 (q)] := (Bx.new (b := w1.heap.size + 1) _ #[.int .i64 (p), .int .i64 (q)] 55 (by first | rfl | simp)).below hb2
              clear cF_1 fF_1 zF_1 cG_1 fG_1 zG_1
              obtain ⟨cF_2, fF_2, zF_2⟩ := xF_2.out
              obtain ⟨cG_2, fG_2, zG_2⟩ := xG_2.out
              obtain ⟨cL_2, fL_2, zL_2⟩ := xL_2.out
              obtain ⟨cH_2, fH_2, zH_2⟩ := xH_2.out
              rw [HC.out]
              go_wp2
              go_ret
              exact ⟨ret_bool (by first | exact HR.out | (rw [← HR.out]; simp; omega)), B2⟩
          ·
            have HR := Lib.hid (show false = firstF n d x y by rw [HN.out, HC.out]; simp; omega)
            have k0 : (a == p) = true := by simp; omega
            have k1 : (b == q) = false := by simp; omega
            have k2 : (x == p) = false := by simp; omega
            have c0 : 0 < C := by omega
            clear hp hq hc hd hu
            go_enter Try.func119, Try.ntmps119
            go_wp2_with fail
            refine (sides_eq HS.out.o y y1 HSD.out _).mono ?_
            rintro e w1 ⟨rfl, hb1⟩
            have B1 : Bl w w1 := bl_call (bl_alloc (bl_alloc (bl_refl _) _) _) hb1
            have xF_1 : Bx w1 (w.heap.size) #[.int .i64 (n), .int .i64 (d)] := ((Bx.new (b := w.heap.size) _ #[.int .i64 (n), .int .i64 (d)] 55 (by first | rfl | simp)).alloc _).below hb1
            have xG_1 : Bx w1 (w.heap.size + 1) #[.int .i64 (x), .int .i64 (y)] := (Bx.new (b := w.heap.size + 1) _ #[.int .i64 (x), .int .i64 (y)] 55 (by first | rfl | simp)).below hb1
            obtain ⟨cF_1, fF_1, zF_1⟩ := xF_1.out
            obtain ⟨cG_1, fG_1, zG_1⟩ := xG_1.out
            go_wp2_with fail
            refine (scmpErr_any n d a b p q _ HSM.out.1).mono ?_
            rintro e w2 ⟨rfl, hb2⟩
            have B2 : Bl w w2 := bl_call (bl_alloc (bl_alloc B1 _) _) hb2
            have xF_2 : Bx w2 (w.heap.size) #[.int .i64 (n), .int .i64 (d)] := ((xF_1.alloc _).alloc _).below hb2
            have xG_2 : Bx w2 (w.heap.size + 1) #[.int .i64 (x), .int .i64 (y)] := ((xG_1.alloc _).alloc _).below hb2
            have xL_2 : Bx w2 (w1.heap.size) #[.int .i64 (a), .int .i64 (b)] := ((Bx.new (b := w1.heap.size) _ #[.int .i64 (a), .int .i64 (b)] 55 (by first | rfl | simp)).alloc _).below hb2
            have xH_2 : Bx w2 (w1.heap.size + 1) #[.int .i64 (p), .int .i64 (q)] := (Bx.new (b := w1.heap.size + 1) _ #[.int .i64 (p), .int .i64 (q)] 55 (by first | rfl | simp)).below hb2
            clear cF_1 fF_1 zF_1 cG_1 fG_1 zG_1
            obtain ⟨cF_2, fF_2, zF_2⟩ := xF_2.out
            obtain ⟨cG_2, fG_2, zG_2⟩ := xG_2.out
            obtain ⟨cL_2, fL_2, zL_2⟩ := xL_2.out
            obtain ⟨cH_2, fH_2, zH_2⟩ := xH_2.out
            rw [HC.out]
            go_wp2
            go_ret
            exact ⟨ret_bool (by first | exact HR.out | (rw [← HR.out]; simp; omega)), B2⟩
        ·
          have HR := Lib.hid (show false = firstF n d x y by rw [HN.out, HC.out]; simp; omega)
          have k0 : (a == p) = true := by simp; omega
          have k1 : (b == q) = false := by simp; omega
          have c0 : C ≤ 0 := by omega
          have c1 : 0 ≤ C := by omega
          clear hp hq hc hd
          go_enter Try.func119, Try.ntmps119
          go_wp2_with fail
          refine (sides_eq HS.out.o y y1 HSD.out _).mono ?_
          rintro e w1 ⟨rfl, hb1⟩
          have B1 : Bl w w1 := bl_call (bl_alloc (bl_alloc (bl_refl _) _) _) hb1
          have xF_1 : Bx w1 (w.heap.size) #[.int .i64 (n), .int .i64 (d)] := ((Bx.new (b := w.heap.size) _ #[.int .i64 (n), .int .i64 (d)] 55 (by first | rfl | simp)).alloc _).below hb1
          have xG_1 : Bx w1 (w.heap.size + 1) #[.int .i64 (x), .int .i64 (y)] := (Bx.new (b := w.heap.size + 1) _ #[.int .i64 (x), .int .i64 (y)] 55 (by first | rfl | simp)).below hb1
          obtain ⟨cF_1, fF_1, zF_1⟩ := xF_1.out
          obtain ⟨cG_1, fG_1, zG_1⟩ := xG_1.out
          go_wp2_with fail
          refine (scmpErr_any n d a b p q _ HSM.out.1).mono ?_
          rintro e w2 ⟨rfl, hb2⟩
          have B2 : Bl w w2 := bl_call (bl_alloc (bl_alloc B1 _) _) hb2
          have xF_2 : Bx w2 (w.heap.size) #[.int .i64 (n), .int .i64 (d)] := ((xF_1.alloc _).alloc _).below hb2
          have xG_2 : Bx w2 (w.heap.size + 1) #[.int .i64 (x), .int .i64 (y)] := ((xG_1.alloc _).alloc _).below hb2
          have xL_2 : Bx w2 (w1.heap.size) #[.int .i64 (a), .int .i64 (b)] := ((Bx.new (b := w1.heap.size) _ #[.int .i64 (a), .int .i64 (b)] 55 (by first | rfl | simp)).alloc _).below hb2
          have xH_2 : Bx w2 (w1.heap.size + 1) #[.int .i64 (p), .int .i64 (q)] := (Bx.new (b := w1.heap.size + 1) _ #[.int .i64 (p), .int .i64 (q)] 55 (by first | rfl | simp)).below hb2
          clear cF_1 fF_1 zF_1 cG_1 fG_1 zG_1
          obtain ⟨cF_2, fF_2, zF_2⟩ := xF_2.out
          obtain ⟨cG_2, fG_2, zG_2⟩ := xG_2.out
          obtain ⟨cL_2, fL_2, zL_2⟩ := xL_2.out
          obtain ⟨cH_2, fH_2, zH_2⟩ := xH_2.out
          rw [HC.out]
          go_wp2
          go_ret
          exact ⟨ret_bool (by first | exact HR.out | (rw [← HR.out]; simp; omega)), B2⟩
  ·
    by_cases hc : C < 0
    ·
      by_cases hu : x = a
      ·
        by_cases hv : y = b
        ·
          have HR := Lib.hid (show true = firstF n d x y by rw [HN.out, HC.out]; simp; omega)
          have k0 : (a == p) = false := by simp; omega
          have k1 : (x == a) = true := by simp; omega
          have k2 : (y == b) = true := by simp; omega
          have c0 : C < 0 := by omega
          clear hp hc hu hv
          go_enter Try.func119, Try.ntmps119
          go_wp2_with fail
          refine (sides_eq HS.out.o y y1 HSD.out _).mono ?_
          rintro e w1 ⟨rfl, hb1⟩
          have B1 : Bl w w1 := bl_call (bl_alloc (bl_alloc (bl_refl _) _) _) hb1
          have xF_1 : Bx w1 (w.heap.size) #[.int .i64 (n), .int .i64 (d)] := ((Bx.new (b := w.heap.size) _ #[.int .i64 (n), .int .i64 (d)] 55 (by first | rfl | simp)).alloc _).below hb1
          have xG_1 : Bx w1 (w.heap.size + 1) #[.int .i64 (x), .int .i64 (y)] := (Bx.new (b := w.heap.size + 1) _ #[.int .i64 (x), .int .i64 (y)] 55 (by first | rfl | simp)).below hb1
          obtain ⟨cF_1, fF_1, zF_1⟩ := xF_1.out
          obtain ⟨cG_1, fG_1, zG_1⟩ := xG_1.out
          go_wp2_with fail
          refine (scmpErr_any n d a b p q _ HSM.out.1).mono ?_
          rintro e w2 ⟨rfl, hb2⟩
          have B2 : Bl w w2 := bl_call (bl_alloc (bl_alloc B1 _) _) hb2
          have xF_2 : Bx w2 (w.heap.size) #[.int .i64 (n), .int .i64 (d)] := ((xF_1.alloc _).alloc _).below hb2
          have xG_2 : Bx w2 (w.heap.size + 1) #[.int .i64 (x), .int .i64 (y)] := ((xG_1.alloc _).alloc _).below hb2
          have xL_2 : Bx w2 (w1.heap.size) #[.int .i64 (a), .int .i64 (b)] := ((Bx.new (b := w1.heap.size) _ #[.int .i64 (a), .int .i64 (b)] 55 (by first | rfl | simp)).alloc _).below hb2
          have xH_2 : Bx w2 (w1.heap.size + 1) #[.int .i64 (p), .int .i64 (q)] := (Bx.new (b := w1.heap.size + 1) _ #[.int .i64 (p), .int .i64 (q)] 55 (by first | rfl | simp)).below hb2
          clear cF_1 fF_1 zF_1 cG_1 fG_1 zG_1
          obtain ⟨cF_2, fF_2, zF_2⟩ := xF_2.out
          obtain ⟨cG_2, fG_2, zG_2⟩ := xG_2.out
          obtain ⟨cL_2, fL_2, zL_2⟩ := xL_2.out
          obtain ⟨cH_2, fH_2, zH_2⟩ := xH_2.out
          rw [HC.out]
          go_wp2
          go_ret
          exact ⟨ret_bool (by first | exact HR.out | (rw [← HR.out]; simp; omega)), B2⟩
        ·
          have HR := Lib.hid (show false = firstF n d x y by rw [HN.out, HC.out]; simp; omega)
          have k0 : (a == p) = false := by simp; omega
          have k1 : (x == a) = true := by simp; omega
          have k2 : (y == b) = false := by simp; omega
          have c0 : C < 0 := by omega
          clear hp hc hu hv
          go_enter Try.func119, Try.ntmps119
          go_wp2_with fail
          refine (sides_eq HS.out.o y y1 HSD.out _).mono ?_
          rintro e w1 ⟨rfl, hb1⟩
          have B1 : Bl w w1 := bl_call (bl_alloc (bl_alloc (bl_refl _) _) _) hb1
          have xF_1 : Bx w1 (w.heap.size) #[.int .i64 (n), .int .i64 (d)] := ((Bx.new (b := w.heap.size) _ #[.int .i64 (n), .int .i64 (d)] 55 (by first | rfl | simp)).alloc _).below hb1
          have xG_1 : Bx w1 (w.heap.size + 1) #[.int .i64 (x), .int .i64 (y)] := (Bx.new (b := w.heap.size + 1) _ #[.int .i64 (x), .int .i64 (y)] 55 (by first | rfl | simp)).below hb1
          obtain ⟨cF_1, fF_1, zF_1⟩ := xF_1.out
          obtain ⟨cG_1, fG_1, zG_1⟩ := xG_1.out
          go_wp2_with fail
          refine (scmpErr_any n d a b p q _ HSM.out.1).mono ?_
          rintro e w2 ⟨rfl, hb2⟩
          have B2 : Bl w w2 := bl_call (bl_alloc (bl_alloc B1 _) _) hb2
          have xF_2 : Bx w2 (w.heap.size) #[.int .i64 (n), .int .i64 (d)] := ((xF_1.alloc _).alloc _).below hb2
          have xG_2 : Bx w2 (w.heap.size + 1) #[.int .i64 (x), .int .i64 (y)] := ((xG_1.alloc _).alloc _).below hb2
          have xL_2 : Bx w2 (w1.heap.size) #[.int .i64 (a), .int .i64 (b)] := ((Bx.new (b := w1.heap.size) _ #[.int .i64 (a), .int .i64 (b)] 55 (by first | rfl | simp)).alloc _).below hb2
          have xH_2 : Bx w2 (w1.heap.size + 1) #[.int .i64 (p), .int .i64 (q)] := (Bx.new (b := w1.heap.size + 1) _ #[.int .i64 (p), .int .i64 (q)] 55 (by first | rfl | simp)).below hb2
          clear cF_1 fF_1 zF_1 cG_1 fG_1 zG_1
          obtain ⟨cF_2, fF_2, zF_2⟩ := xF_2.out
          obtain ⟨cG_2, fG_2, zG_2⟩ := xG_2.out
          obtain ⟨cL_2, fL_2, zL_2⟩ := xL_2.out
          obtain ⟨cH_2, fH_2, zH_2⟩ := xH_2.out
          rw [HC.out]
          go_wp2
          go_ret
          exact ⟨ret_bool (by first | exact HR.out | (rw [← HR.out]; simp; omega)), B2⟩
      ·
        have HR := Lib.hid (show false = firstF n d x y by rw [HN.out, HC.out]; simp; omega)
        have k0 : (a == p) = false := by simp; omega
        have k1 : (x == a) = false := by simp; omega
        have c0 : C < 0 := by omega
        clear hp hc hu
        go_enter Try.func119, Try.ntmps119
        go_wp2_with fail
        refine (sides_eq HS.out.o y y1 HSD.out _).mono ?_
        rintro e w1 ⟨rfl, hb1⟩
        have B1 : Bl w w1 := bl_call (bl_alloc (bl_alloc (bl_refl _) _) _) hb1
        have xF_1 : Bx w1 (w.heap.size) #[.int .i64 (n), .int .i64 (d)] := ((Bx.new (b := w.heap.size) _ #[.int .i64 (n), .int .i64 (d)] 55 (by first | rfl | simp)).alloc _).below hb1
        have xG_1 : Bx w1 (w.heap.size + 1) #[.int .i64 (x), .int .i64 (y)] := (Bx.new (b := w.heap.size + 1) _ #[.int .i64 (x), .int .i64 (y)] 55 (by first | rfl | simp)).below hb1
        obtain ⟨cF_1, fF_1, zF_1⟩ := xF_1.out
        obtain ⟨cG_1, fG_1, zG_1⟩ := xG_1.out
        go_wp2_with fail
        refine (scmpErr_any n d a b p q _ HSM.out.1).mono ?_
        rintro e w2 ⟨rfl, hb2⟩
        have B2 : Bl w w2 := bl_call (bl_alloc (bl_alloc B1 _) _) hb2
        have xF_2 : Bx w2 (w.heap.size) #[.int .i64 (n), .int .i64 (d)] := ((xF_1.alloc _).alloc _).below hb2
        have xG_2 : Bx w2 (w.heap.size + 1) #[.int .i64 (x), .int .i64 (y)] := ((xG_1.alloc _).alloc _).below hb2
        have xL_2 : Bx w2 (w1.heap.size) #[.int .i64 (a), .int .i64 (b)] := ((Bx.new (b := w1.heap.size) _ #[.int .i64 (a), .int .i64 (b)] 55 (by first | rfl | simp)).alloc _).below hb2
        have xH_2 : Bx w2 (w1.heap.size + 1) #[.int .i64 (p), .int .i64 (q)] := (Bx.new (b := w1.heap.size + 1) _ #[.int .i64 (p), .int .i64 (q)] 55 (by first | rfl | simp)).below hb2
        clear cF_1 fF_1 zF_1 cG_1 fG_1 zG_1
        obtain ⟨cF_2, fF_2, zF_2⟩ := xF_2.out
        obtain ⟨cG_2, fG_2, zG_2⟩ := xG_2.out
        obtain ⟨cL_2, fL_2, zL_2⟩ := xL_2.out
        obtain ⟨cH_2, fH_2, zH_2⟩ := xH_2.out
        rw [HC.out]
        go_wp2
        go_ret
        exact ⟨ret_bool (by first | exact HR.out | (rw [← HR.out]; simp; omega)), B2⟩
    ·
      by_cases hd : 0 < C
      ·
        by_cases hu : x = p
        ·
          by_cases hv : y = q
          ·
            have HR := Lib.hid (show true = firstF n d x y by rw [HN.out, HC.out]; simp; omega)
            have k0 : (a == p) = false := by simp; omega
            have k1 : (x == p) = true := by simp; omega
            have k2 : (y == q) = true := by simp; omega
            have c0 : 0 < C := by omega
            clear hp hc hd hu hv
            go_enter Try.func119, Try.ntmps119
            go_wp2_with fail
            refine (sides_eq HS.out.o y y1 HSD.out _).mono ?_
            rintro e w1 ⟨rfl, hb1⟩
            have B1 : Bl w w1 := bl_call (bl_alloc (bl_alloc (bl_refl _) _) _) hb1
            have xF_1 : Bx w1 (w.heap.size) #[.int .i64 (n), .int .i64 (d)] := ((Bx.new (b := w.heap.size) _ #[.int .i64 (n), .int .i64 (d)] 55 (by first | rfl | simp)).alloc _).below hb1
            have xG_1 : Bx w1 (w.heap.size + 1) #[.int .i64 (x), .int .i64 (y)] := (Bx.new (b := w.heap.size + 1) _ #[.int .i64 (x), .int .i64 (y)] 55 (by first | rfl | simp)).below hb1
            obtain ⟨cF_1, fF_1, zF_1⟩ := xF_1.out
            obtain ⟨cG_1, fG_1, zG_1⟩ := xG_1.out
            go_wp2_with fail
            refine (scmpErr_any n d a b p q _ HSM.out.1).mono ?_
            rintro e w2 ⟨rfl, hb2⟩
            have B2 : Bl w w2 := bl_call (bl_alloc (bl_alloc B1 _) _) hb2
            have xF_2 : Bx w2 (w.heap.size) #[.int .i64 (n), .int .i64 (d)] := ((xF_1.alloc _).alloc _).below hb2
            have xG_2 : Bx w2 (w.heap.size + 1) #[.int .i64 (x), .int .i64 (y)] := ((xG_1.alloc _).alloc _).below hb2
            have xL_2 : Bx w2 (w1.heap.size) #[.int .i64 (a), .int .i64 (b)] := ((Bx.new (b := w1.heap.size) _ #[.int .i64 (a), .int .i64 (b)] 55 (by first | rfl | simp)).alloc _).below hb2
            have xH_2 : Bx w2 (w1.heap.size + 1) #[.int .i64 (p), .int .i64 (q)] := (Bx.new (b := w1.heap.size + 1) _ #[.int .i64 (p), .int .i64 (q)] 55 (by first | rfl | simp)).below hb2
            clear cF_1 fF_1 zF_1 cG_1 fG_1 zG_1
            obtain ⟨cF_2, fF_2, zF_2⟩ := xF_2.out
            obtain ⟨cG_2, fG_2, zG_2⟩ := xG_2.out
            obtain ⟨cL_2, fL_2, zL_2⟩ := xL_2.out
            obtain ⟨cH_2, fH_2, zH_2⟩ := xH_2.out
            rw [HC.out]
            go_wp2
            go_ret
            exact ⟨ret_bool (by first | exact HR.out | (rw [← HR.out]; simp; omega)), B2⟩
          ·
            have HR := Lib.hid (show false = firstF n d x y by rw [HN.out, HC.out]; simp; omega)
            have k0 : (a == p) = false := by simp; omega
            have k1 : (x == p) = true := by simp; omega
            have k2 : (y == q) = false := by simp; omega
            have c0 : 0 < C := by omega
            clear hp hc hd hu hv
            go_enter Try.func119, Try.ntmps119
            go_wp2_with fail
            refine (sides_eq HS.out.o y y1 HSD.out _).mono ?_
            rintro e w1 ⟨rfl, hb1⟩
            have B1 : Bl w w1 := bl_call (bl_alloc (bl_alloc (bl_refl _) _) _) hb1
            have xF_1 : Bx w1 (w.heap.size) #[.int .i64 (n), .int .i64 (d)] := ((Bx.new (b := w.heap.size) _ #[.int .i64 (n), .int .i64 (d)] 55 (by first | rfl | simp)).alloc _).below hb1
            have xG_1 : Bx w1 (w.heap.size + 1) #[.int .i64 (x), .int .i64 (y)] := (Bx.new (b := w.heap.size + 1) _ #[.int .i64 (x), .int .i64 (y)] 55 (by first | rfl | simp)).below hb1
            obtain ⟨cF_1, fF_1, zF_1⟩ := xF_1.out
            obtain ⟨cG_1, fG_1, zG_1⟩ := xG_1.out
            go_wp2_with fail
            refine (scmpErr_any n d a b p q _ HSM.out.1).mono ?_
            rintro e w2 ⟨rfl, hb2⟩
            have B2 : Bl w w2 := bl_call (bl_alloc (bl_alloc B1 _) _) hb2
            have xF_2 : Bx w2 (w.heap.size) #[.int .i64 (n), .int .i64 (d)] := ((xF_1.alloc _).alloc _).below hb2
            have xG_2 : Bx w2 (w.heap.size + 1) #[.int .i64 (x), .int .i64 (y)] := ((xG_1.alloc _).alloc _).below hb2
            have xL_2 : Bx w2 (w1.heap.size) #[.int .i64 (a), .int .i64 (b)] := ((Bx.new (b := w1.heap.size) _ #[.int .i64 (a), .int .i64 (b)] 55 (by first | rfl | simp)).alloc _).below hb2
            have xH_2 : Bx w2 (w1.heap.size + 1) #[.int .i64 (p), .int .i64 (q)] := (Bx.new (b := w1.heap.size + 1) _ #[.int .i64 (p), .int .i64 (q)] 55 (by first | rfl | simp)).below hb2
            clear cF_1 fF_1 zF_1 cG_1 fG_1 zG_1
            obtain ⟨cF_2, fF_2, zF_2⟩ := xF_2.out
            obtain ⟨cG_2, fG_2, zG_2⟩ := xG_2.out
            obtain ⟨cL_2, fL_2, zL_2⟩ := xL_2.out
            obtain ⟨cH_2, fH_2, zH_2⟩ := xH_2.out
            rw [HC.out]
            go_wp2
            go_ret
            exact ⟨ret_bool (by first | exact HR.out | (rw [← HR.out]; simp; omega)), B2⟩
        ·
          have HR := Lib.hid (show false = firstF n d x y by rw [HN.out, HC.out]; simp; omega)
          have k0 : (a == p) = false := by simp; omega
          have k1 : (x == p) = false := by simp; omega
          have c0 : 0 < C := by omega
          clear hp hc hd hu
          go_enter Try.func119, Try.ntmps119
          go_wp2_with fail
          refine (sides_eq HS.out.o y y1 HSD.out _).mono ?_
          rintro e w1 ⟨rfl, hb1⟩
          have B1 : Bl w w1 := bl_call (bl_alloc (bl_alloc (bl_refl _) _) _) hb1
          have xF_1 : Bx w1 (w.heap.size) #[.int .i64 (n), .int .i64 (d)] := ((Bx.new (b := w.heap.size) _ #[.int .i64 (n), .int .i64 (d)] 55 (by first | rfl | simp)).alloc _).below hb1
          have xG_1 : Bx w1 (w.heap.size + 1) #[.int .i64 (x), .int .i64 (y)] := (Bx.new (b := w.heap.size + 1) _ #[.int .i64 (x), .int .i64 (y)] 55 (by first | rfl | simp)).below hb1
          obtain ⟨cF_1, fF_1, zF_1⟩ := xF_1.out
          obtain ⟨cG_1, fG_1, zG_1⟩ := xG_1.out
          go_wp2_with fail
          refine (scmpErr_any n d a b p q _ HSM.out.1).mono ?_
          rintro e w2 ⟨rfl, hb2⟩
          have B2 : Bl w w2 := bl_call (bl_alloc (bl_alloc B1 _) _) hb2
          have xF_2 : Bx w2 (w.heap.size) #[.int .i64 (n), .int .i64 (d)] := ((xF_1.alloc _).alloc _).below hb2
          have xG_2 : Bx w2 (w.heap.size + 1) #[.int .i64 (x), .int .i64 (y)] := ((xG_1.alloc _).alloc _).below hb2
          have xL_2 : Bx w2 (w1.heap.size) #[.int .i64 (a), .int .i64 (b)] := ((Bx.new (b := w1.heap.size) _ #[.int .i64 (a), .int .i64 (b)] 55 (by first | rfl | simp)).alloc _).below hb2
          have xH_2 : Bx w2 (w1.heap.size + 1) #[.int .i64 (p), .int .i64 (q)] := (Bx.new (b := w1.heap.size + 1) _ #[.int .i64 (p), .int .i64 (q)] 55 (by first | rfl | simp)).below hb2
          clear cF_1 fF_1 zF_1 cG_1 fG_1 zG_1
          obtain ⟨cF_2, fF_2, zF_2⟩ := xF_2.out
          obtain ⟨cG_2, fG_2, zG_2⟩ := xG_2.out
          obtain ⟨cL_2, fL_2, zL_2⟩ := xL_2.out
          obtain ⟨cH_2, fH_2, zH_2⟩ := xH_2.out
          rw [HC.out]
          go_wp2
          go_ret
          exact ⟨ret_bool (by first | exact HR.out | (rw [← HR.out]; simp; omega)), B2⟩
      ·
        have HR := Lib.hid (show false = firstF n d x y by rw [HN.out, HC.out]; simp; omega)
        have k0 : (a == p) = false := by simp; omega
        have c0 : C ≤ 0 := by omega
        have c1 : 0 ≤ C := by omega
        clear hp hc hd
        go_enter Try.func119, Try.ntmps119
        go_wp2_with fail
        refine (sides_eq HS.out.o y y1 HSD.out _).mono ?_
        rintro e w1 ⟨rfl, hb1⟩
        have B1 : Bl w w1 := bl_call (bl_alloc (bl_alloc (bl_refl _) _) _) hb1
        have xF_1 : Bx w1 (w.heap.size) #[.int .i64 (n), .int .i64 (d)] := ((Bx.new (b := w.heap.size) _ #[.int .i64 (n), .int .i64 (d)] 55 (by first | rfl | simp)).alloc _).below hb1
        have xG_1 : Bx w1 (w.heap.size + 1) #[.int .i64 (x), .int .i64 (y)] := (Bx.new (b := w.heap.size + 1) _ #[.int .i64 (x), .int .i64 (y)] 55 (by first | rfl | simp)).below hb1
        obtain ⟨cF_1, fF_1, zF_1⟩ := xF_1.out
        obtain ⟨cG_1, fG_1, zG_1⟩ := xG_1.out
        go_wp2_with fail
        refine (scmpErr_any n d a b p q _ HSM.out.1).mono ?_
        rintro e w2 ⟨rfl, hb2⟩
        have B2 : Bl w w2 := bl_call (bl_alloc (bl_alloc B1 _) _) hb2
        have xF_2 : Bx w2 (w.heap.size) #[.int .i64 (n), .int .i64 (d)] := ((xF_1.alloc _).alloc _).below hb2
        have xG_2 : Bx w2 (w.heap.size + 1) #[.int .i64 (x), .int .i64 (y)] := ((xG_1.alloc _).alloc _).below hb2
        have xL_2 : Bx w2 (w1.heap.size) #[.int .i64 (a), .int .i64 (b)] := ((Bx.new (b := w1.heap.size) _ #[.int .i64 (a), .int .i64 (b)] 55 (by first | rfl | simp)).alloc _).below hb2
        have xH_2 : Bx w2 (w1.heap.size + 1) #[.int .i64 (p), .int .i64 (q)] := (Bx.new (b := w1.heap.size + 1) _ #[.int .i64 (p), .int .i64 (q)] 55 (by first | rfl | simp)).below hb2
        clear cF_1 fF_1 zF_1 cG_1 fG_1 zG_1
        obtain ⟨cF_2, fF_2, zF_2⟩ := xF_2.out
        obtain ⟨cG_2, fG_2, zG_2⟩ := xG_2.out
        obtain ⟨cL_2, fL_2, zL_2⟩ := xL_2.out
        obtain ⟨cH_2, fH_2, zH_2⟩ := xH_2.out
        rw [HC.out]
        go_wp2
        go_ret
        exact ⟨ret_bool (by first | exact HR.out | (rw [← HR.out]; simp; omega)), B2⟩

noncomputable def isFirF (n d x y : Int) : Bool × Int := if bestC true [(n, d), (x, y)] = 0 then (firstF n d x y, 0) else (false, bestC true [(n, d), (x, y)])

set_option maxRecDepth 100000 in
set_option maxHeartbeats 3200000 in
theorem spec_IsBestFirst (n d x y : Int) (w : World) :
    Calls Try.prog 51 #[.agg #[.int .i64 n, .int .i64 d], .agg #[.int .i64 x, .int .i64 y]] w fun r w' => r = .returned (.tuple #[.bool (isFirF n d x y).1, .int .i64 (isFirF n d x y).2]) ∧ Bl w w' := by
  by_cases hc : bestC true [(n, d), (x, y)] = 0
  ·
    have HR := Lib.hid (show isFirF n d x y = (firstF n d x y, 0) by rw [isFirF, if_pos hc])
    have hb : (bestC true [(n, d), (x, y)] != 0) = false := by simp [hc]
    have HS := Lib.hid (sm2_of hc)
    clear hc
    generalize hcc : bestC true [(n, d), (x, y)] = cc at *
    have HC := Lib.hid hcc
    clear hcc
    obtain ⟨n1, n2, d1, d2, x1, x2, y1, y2, _, _⟩ := HS.out
    have m1 := mul_bd n1 n2 (show 0 ≤ y by omega) y2
    have m2 := mul_bd x1 x2 (show 0 ≤ d by omega) d2
    go_enter Try.func51, Try.ntmps51
    go_wp2_with fail
    refine (l18Code_any _ _ _ (SlF.lit (fs := [(n, d), (x, y)]) (Bx.new (b := w.heap.size + 1 + 1) _ #[.int .i64 (n), .int .i64 (d), .int .i64 (x), .int .i64 (y)] 55 (by first | rfl | simp)) rfl (Nat.le_refl _) (by simp [maxLen]) (lit2 n d x y))).mono ?_
    rintro e w1 ⟨rfl, hb1⟩
    have B1 : Bl w w1 := bl_call (bl_alloc (bl_alloc (bl_alloc (bl_refl _) _) _) _) hb1
    have xF_1 : Bx w1 (w.heap.size) #[.int .i64 (n), .int .i64 (d)] := (((Bx.new (b := w.heap.size) _ #[.int .i64 (n), .int .i64 (d)] 55 (by first | rfl | simp)).alloc _).alloc _).below hb1
    have xG_1 : Bx w1 (w.heap.size + 1) #[.int .i64 (x), .int .i64 (y)] := ((Bx.new (b := w.heap.size + 1) _ #[.int .i64 (x), .int .i64 (y)] 55 (by first | rfl | simp)).alloc _).below hb1
    have xL_1 : Bx w1 (w.heap.size + 1 + 1) #[.int .i64 (n), .int .i64 (d), .int .i64 (x), .int .i64 (y)] := (Bx.new (b := w.heap.size + 1 + 1) _ #[.int .i64 (n), .int .i64 (d), .int .i64 (x), .int .i64 (y)] 55 (by first | rfl | simp)).below hb1
    obtain ⟨cF_1, fF_1, zF_1⟩ := xF_1.out
    obtain ⟨cG_1, fG_1, zG_1⟩ := xG_1.out
    obtain ⟨cL_1, fL_1, zL_1⟩ := xL_1.out
    rw [HC.out]
    go_wp2_with fail
    refine (sfirst_any n d x y _ HS.out).mono ?_
    rintro e w2 ⟨rfl, hb2⟩
    have B2 : Bl w w2 := bl_call B1 hb2
    have xF_2 : Bx w2 (w.heap.size) #[.int .i64 (n), .int .i64 (d)] := xF_1.below hb2
    have xG_2 : Bx w2 (w.heap.size + 1) #[.int .i64 (x), .int .i64 (y)] := xG_1.below hb2
    have xL_2 : Bx w2 (w.heap.size + 1 + 1) #[.int .i64 (n), .int .i64 (d), .int .i64 (x), .int .i64 (y)] := xL_1.below hb2
    clear cF_1 fF_1 zF_1 cG_1 fG_1 zG_1 cL_1 fL_1 zL_1
    obtain ⟨cF_2, fF_2, zF_2⟩ := xF_2.out
    obtain ⟨cG_2, fG_2, zG_2⟩ := xG_2.out
    obtain ⟨cL_2, fL_2, zL_2⟩ := xL_2.out
    go_wp2
    go_ret2
    exact ⟨ret_bi HR.out, B2⟩
  ·
    have HR := Lib.hid (show isFirF n d x y = (false, bestC true [(n, d), (x, y)]) by rw [isFirF, if_neg hc])
    have hb : (bestC true [(n, d), (x, y)] != 0) = true := by simp [hc]
    clear hc
    generalize hcc : bestC true [(n, d), (x, y)] = cc at *
    have HC := Lib.hid hcc
    clear hcc
    go_enter Try.func51, Try.ntmps51
    go_wp2_with fail
    refine (l18Code_any _ _ _ (SlF.lit (fs := [(n, d), (x, y)]) (Bx.new (b := w.heap.size + 1 + 1) _ #[.int .i64 (n), .int .i64 (d), .int .i64 (x), .int .i64 (y)] 55 (by first | rfl | simp)) rfl (Nat.le_refl _) (by simp [maxLen]) (lit2 n d x y))).mono ?_
    rintro e w1 ⟨rfl, hb1⟩
    have B1 : Bl w w1 := bl_call (bl_alloc (bl_alloc (bl_alloc (bl_refl _) _) _) _) hb1
    have xF_1 : Bx w1 (w.heap.size) #[.int .i64 (n), .int .i64 (d)] := (((Bx.new (b := w.heap.size) _ #[.int .i64 (n), .int .i64 (d)] 55 (by first | rfl | simp)).alloc _).alloc _).below hb1
    have xG_1 : Bx w1 (w.heap.size + 1) #[.int .i64 (x), .int .i64 (y)] := ((Bx.new (b := w.heap.size + 1) _ #[.int .i64 (x), .int .i64 (y)] 55 (by first | rfl | simp)).alloc _).below hb1
    have xL_1 : Bx w1 (w.heap.size + 1 + 1) #[.int .i64 (n), .int .i64 (d), .int .i64 (x), .int .i64 (y)] := (Bx.new (b := w.heap.size + 1 + 1) _ #[.int .i64 (n), .int .i64 (d), .int .i64 (x), .int .i64 (y)] 55 (by first | rfl | simp)).below hb1
    obtain ⟨cF_1, fF_1, zF_1⟩ := xF_1.out
    obtain ⟨cG_1, fG_1, zG_1⟩ := xG_1.out
    obtain ⟨cL_1, fL_1, zL_1⟩ := xL_1.out
    rw [HC.out]
    go_wp2
    go_ret2
    exact ⟨ret_bi HR.out, B1⟩

end Go.Proofs.Ytgmofofokhlhnaa
