/- The walk of the law FnDigitForms: for all bytes it returns true, where the tables and the errors of the library lie as its text lays them. Each theorem names its conditions. -/
import Derived.Deep.RegionHeld3
import Derived.Test.YtndblondleclpaaGreatDoorMB9
import Derived.Test.YtndblondleclpaaGreatDoorMB10
import Derived.Test.YtndblondleclpaaGreatDoorMB6
import Derived.Test.YtndblondleclpaaGreatDoorMB5
import Derived.Test.YtndblondleclpaaGreatDoorMB3
import Derived.Test.YtndblondleclpaaGreatDoorSdK
import Derived.Test.YtndblondleclpaaGreatDoorSkipR
namespace Go.Proofs.YtndblondleclpaaGreatDoor
open Go.RowKit Go.ChangeShapes Go.WideShapes Go.ChangeAt
set_option linter.unusedVariables false
set_option linter.unusedSimpArgs false

theorem iper_eq {n d b x y c : Int} (e : perF n d b = (x, y, c)) (w : World) : Calls Tryz.prog 28 #[.agg #[.int .i64 n, .int .i64 d], .int .i64 b] w fun r w' => r = .returned (.tuple #[.int .i64 x, .int .i64 y, .int .i64 c]) ∧ Bl w w' :=
  (impl_DigitPeriod n d b w).mono fun _ _ q => by rw [e] at q; exact q
theorem sper_eq {n d b x y c : Int} (e : perF n d b = (x, y, c)) (w : World) : Calls Tryz.prog 29 #[.agg #[.int .i64 n, .int .i64 d], .int .i64 b] w fun r w' => r = .returned (.tuple #[.int .i64 x, .int .i64 y, .int .i64 c]) ∧ Bl w w' :=
  (spec_DigitPeriod n d b w).mono fun _ _ q => by rw [e] at q; exact q
theorem ifrd_eq {b wh n d c : Int} {va vb : Value} {xs ys : List Int} (e : frDigF b wh xs ys = ((n, d), c)) (w : World) (ha : Sl w va xs) (lx : xs.length ≤ 1048576) (hb : Sl w vb ys) (ly : ys.length ≤ 1048576) : Calls Tryz.prog 31 #[.int .i64 b, .int .i64 wh, va, vb] w fun r w' => r = .returned (.tuple #[.agg #[.int .i64 n, .int .i64 d], .int .i64 c]) ∧ Bl w w' :=
  (impl_FractionFromDigits b wh va xs vb ys w ha lx hb ly).mono fun _ _ q => by rw [e] at q; exact q
theorem sfrd_eq {b wh n d c : Int} {va vb : Value} {xs ys : List Int} (e : frDigF b wh xs ys = ((n, d), c)) (w : World) (ha : Sl w va xs) (lx : xs.length ≤ 1048576) (hb : Sl w vb ys) (ly : ys.length ≤ 1048576) : Calls Tryz.prog 32 #[.int .i64 b, .int .i64 wh, va, vb] w fun r w' => r = .returned (.tuple #[.agg #[.int .i64 n, .int .i64 d], .int .i64 c]) ∧ Bl w w' :=
  (spec_FractionFromDigits b wh va xs vb ys w ha lx hb ly).mono fun _ _ q => by rw [e] at q; exact q
theorem ibnd_eq {va : Value} {xs : List Int} {x y u v c : Int} (e : bndTF xs = ((x, y), (u, v), c)) (w : World) (ha : Sl w va xs) (hl : xs.length ≤ 1048576) : Calls Tryz.prog 34 #[va] w fun r w' => r = .returned (.tuple #[.agg #[.int .i64 x, .int .i64 y], .agg #[.int .i64 u, .int .i64 v], .int .i64 c]) ∧ Bl w w' :=
  (impl_BoundsOfTerms va xs w ha hl).mono fun _ _ q => by rw [e] at q; exact q
theorem sbnd_eq {va : Value} {xs : List Int} {x y u v c : Int} (e : bndTF xs = ((x, y), (u, v), c)) (w : World) (ha : Sl w va xs) (hl : xs.length ≤ 1048576) : Calls Tryz.prog 35 #[va] w fun r w' => r = .returned (.tuple #[.agg #[.int .i64 x, .int .i64 y], .agg #[.int .i64 u, .int .i64 v], .int .i64 c]) ∧ Bl w w' :=
  (spec_BoundsOfTerms va xs w ha hl).mono fun _ _ q => by rw [e] at q; exact q
theorem idof_eq {n d b m x c : Int} {L : List Int} (e : dofF n d b m = (x, L, c)) (w : World) : Calls Tryz.prog 43 #[.agg #[.int .i64 n, .int .i64 d], .int .i64 b, .int .i64 m] w fun r w' => ∃ av cv, r = .returned (.tuple #[.int .i64 x, .slice av L.length cv, .int .i64 c]) ∧ Own w' w.heap.size (.slice av L.length cv) L ∧ Bl w w' :=
  (impl_DigitsOfFraction n d b m w).mono fun _ _ ⟨a1, n1, c1, q1, q2, q3⟩ => by
    rw [e] at q1 q2
    obtain ⟨a2, c2, e2, _⟩ := q2.form
    injection e2 with h1 h2 h3
    subst h1; subst h2; subst h3
    exact ⟨_, _, q1, q2, q3⟩
theorem irdg_eq {b x : Int} {T : ByteArray} {L : List Int} {o : Bool} (e : rdgF b T.data.toList = (x, L, o)) (w : World) (hs : T.size ≤ 1048576) (hE : Env w) : Calls Tryz.prog 38 #[.int .i64 b, .string T] w fun r w' => ∃ av cv, r = .returned (.tuple #[.int .i64 x, .slice av L.length cv, .bool o]) ∧ Own w' w.heap.size (.slice av L.length cv) L ∧ Bl w w' :=
  (impl_ReadDigits b T w hs hE).mono fun _ _ q => by unfold RdgP at q; rw [e] at q; exact q
theorem srdg_eq {b x : Int} {T : ByteArray} {L : List Int} {o : Bool} (e : rdgF b T.data.toList = (x, L, o)) (w : World) (hs : T.size ≤ 1048576) : Calls Tryz.prog 40 #[.int .i64 b, .string T] w fun r w' => ∃ av cv, r = .returned (.tuple #[.int .i64 x, .slice av L.length cv, .bool o]) ∧ Own w' w.heap.size (.slice av L.length cv) L ∧ Bl w w' :=
  (spec_ReadDigits b T w hs).mono fun _ _ q => by unfold RdgP at q; rw [e] at q; exact q
theorem idtx_eq {b q : Int} {va : Value} {xs : List Int} {T : ByteArray} (e : (⟨(dtxt b q xs).toArray⟩ : ByteArray) = T) (w : World) (ha : Sl w va xs) (hl : xs.length ≤ 1048576) (ht : Tab w) : Calls Tryz.prog 37 #[.int .i64 b, .int .i64 q, va] w fun r w' => r = .returned (.string T) ∧ Bl w w' :=
  e ▸ impl_DigitsText b q va xs w ha hl ht
theorem sdtx_eq {b q : Int} {va : Value} {xs : List Int} {T : ByteArray} (e : (⟨(dtxt b q xs).toArray⟩ : ByteArray) = T) (w : World) (ha : Sl w va xs) (hl : xs.length ≤ 1048576) : Calls Tryz.prog 41 #[.int .i64 b, .int .i64 q, va] w fun r w' => r = .returned (.string T) ∧ Bl w w' :=
  e ▸ spec_DigitsText b q va xs w ha hl
/-- The text of digits, and what is read from it. -/
theorem dtx_facts (b q : Int) (xs : List Int) : ∃ T : ByteArray, (⟨(dtxt b q xs).toArray⟩ : ByteArray) = T ∧ T.size ≤ 1048576 ∧ ((T.toList.isEmpty = false ∧ rdgF b T.data.toList = (q, xs, true)) ∨ (T.toList.isEmpty = true ∧ rdgF b T.data.toList = (0, [], false))) := by
  by_cases v : DV b q xs
  · refine ⟨_, rfl, ?_, .inl ⟨?_, ?_⟩⟩
    · have h1 := v.w
      have := dpre_len (xs := xs) (whole := q) (by unfold R64; omega) v.l
      rw [dpre_all] at this
      simp only [ByteArray.size, dtxt_yes v, List.size_toArray]
      omega
    · refine empty_no ?_
      have := dtext_ne q xs
      simp only [ByteArray.size, dtxt_yes v, List.size_toArray]
      exact List.length_pos_iff.2 this
    · exact rdgF_some (rdgS_iff.2 ⟨v, (dtxt_yes v).symm⟩)
  · refine ⟨_, rfl, ?_, .inr ⟨?_, ?_⟩⟩
    · simp [ByteArray.size, dtxt_no v]
    · exact (empty_yes (by simp [ByteArray.size, dtxt_no v])).1
    · refine rdgF_none ?_
      cases h : rdgS b ((⟨(dtxt b q xs).toArray⟩ : ByteArray).data.toList) with
      | none => rfl
      | some x =>
        obtain ⟨y, zs⟩ := x
        have h1 := (rdgS_iff.1 h).2
        rw [dtxt_no v] at h1
        exact absurd h1 (dtext_ne y zs)
theorem f6_selfD {va vb : Value} {xs : List Int} (w : World) (ha : Sl w va xs) (hb : Sl w vb xs) : Calls Tryz.prog 21 #[va, vb] w fun e w' => e = .returned (.bool true) ∧ Bl w w' :=
  (f6ints_any va vb xs xs w ha hb).mono fun _ _ q => ⟨by rw [q.1]; simp, by obtain ⟨n, e⟩ := q.2; rw [e]; exact Drawn.below ⟨n, rfl⟩ _⟩
theorem sl_takeD {w : World} {a : Option Addr} {c : Nat} {xs : List Int} (h : Sl w (.slice a xs.length c) xs) (k : Nat) (hk : k ≤ xs.length) : Sl w (.slice a k c) (xs.take k) := by
  obtain ⟨a0, c0, e, g1, g2, g3, g4, g5⟩ := h
  simp only [Value.slice.injEq] at e
  obtain ⟨rfl, _, rfl⟩ := e
  refine ⟨a, c, by rw [List.length_take, Nat.min_eq_left hk], by rw [List.length_take]; omega, g2, fun x hx => g3 x (List.mem_of_mem_take hx), g4, ?_⟩
  rcases g5 with g5 | ⟨b, o, rfl, hc⟩
  · left; simp [g5]
  · refine .inr ⟨b, o, rfl, fun i n hi => hc i n ?_⟩
    rw [List.getElem?_take] at hi
    split at hi
    · exact hi
    · simp at hi
theorem rdgF_lenD (base : Int) (l : List UInt8) : (rdgF base l).2.1.length ≤ 1000 := by
  cases h : rdgS base l with
  | none => rw [rdgF_none h]; simp
  | some x => obtain ⟨a, b⟩ := x; rw [rdgF_some h]; exact (rdgS_iff.1 h).1.l
theorem per_le {d b s p : Nat} (hd : 0 < d) (h : Per d b s p) : s + p ≤ d := by
  rcases h with ⟨rfl, hs, hn⟩ | ⟨_, _, _, hne⟩
  · refine pigeon d s (fun i => b ^ i % d) (fun i _ => Nat.mod_lt _ hd) (fun i j hij hj e => ?_)
    have e : b ^ i % d = b ^ j % d := e
    have e2 : b ^ (i + (s - j)) % d = b ^ (j + (s - j)) % d := by
      rw [Nat.pow_add, Nat.pow_add, Nat.mul_mod, e, ← Nat.mul_mod]
    rw [show j + (s - j) = s by omega, Nat.mod_eq_zero_of_dvd hs] at e2
    exact hn (i + (s - j)) (by omega) (Nat.dvd_of_mod_eq_zero e2)
  · exact pigeon d (s + p) (fun i => b ^ i % d) (fun i _ => Nat.mod_lt _ hd) (fun i j hij hj e => hne i j hij hj e.symm)
theorem per_bd {n d b x y : Int} (h : perF n d b = (x, y, 0)) : 0 ≤ x ∧ 0 ≤ y ∧ x + y ≤ 1000000000 := by
  obtain ⟨hok, hb, s, p, rfl, rfl, hP⟩ := per_ok h
  have hd := (okF_iff.1 hok).1
  have := per_le (by omega) hP
  omega
/-- The digits of a period, and the way back. -/
theorem per_back {n d b x y : Int} (h : perF n d b = (x, y, 0)) (hm : x + y ≤ 200) : ∃ (s p : Nat) (q : Int) (L : List Int), x = s ∧ y = p ∧ L.length = s + p ∧ dofF n d b (x + y) = (q, L, 0) ∧ ∃ u v c : Int, frDigF b q (L.take s) (L.drop s) = ((u, v), c) ∧ ((c = 0 ∧ u = n ∧ v = d) ∨ (c = 5 ∧ u = 0 ∧ v = 0)) := by
  obtain ⟨hok, hb, s, p, rfl, rfl, hP⟩ := per_ok h
  refine ⟨s, p, n / d, digsG d b (s + p) (n - n / d * d), rfl, rfl, digsG_len _ _ _ _, ?_, ?_⟩
  · have e : ((s : Int) + (p : Int)) = ((s + p : Nat) : Int) := by omega
    rw [e, dof_yes hok (inB_iff.2 hb) (inB_iff.2 (by omega))]
  · rcases back_law hok hb hP with e | e
    · exact ⟨_, _, _, e, .inl ⟨rfl, rfl, rfl⟩⟩
    · exact ⟨_, _, _, e, .inr ⟨rfl, rfl, rfl⟩⟩
set_option maxRecDepth 100000 in
set_option maxHeartbeats 51200000 in
theorem lawDigitForms (v0 : Value) (x0 : List Int) (w : World) (S0 : SlB w v0 x0) (hE : Env w) :
    Calls Tryz.prog 4 #[v0] w fun e w' => e = .returned (.bool true) ∧ Bl w w' := by
  have H0 := Lib.hid S0
  have HE := Lib.hid hE
  obtain ⟨a0, c0, rfl, _⟩ := S0.form
  clear S0 hE
  by_cases hl : 4096 < x0.length
  · have hL := Lib.hid (decide_eq_true hl)
    clear hl
    go_enter Tryz.func4, Tryz.ntmps4
    go_wp2_with fail
    refine (f6big_anyK H0.out).mono ?_
    rintro e w9 ⟨rfl, rfl⟩
    rw [hL.out]
    go_wp2
    go_ret
    exact ⟨rfl, bl_refl _⟩
  · have hL := Lib.hid (decide_eq_false hl)
    have hl0 : x0.length ≤ 4096 := by omega
    clear hl
    go_enter Tryz.func4, Tryz.ntmps4
    go_wp2_with fail
    refine (f6big_anyK H0.out).mono ?_
    rintro e w9 ⟨rfl, rfl⟩
    rw [hL.out]
    go_wp2_with fail
    refine (ddper_any H0.out hl0).mono ?_
    rintro e w1 ⟨n1, d1, b1, rfl, hb1⟩
    have B1 : Bl w w1 := bl_call (bl_refl _) hb1
    obtain ⟨⟨x1, y1, c1⟩, hx1⟩ : ∃ X, perF n1 d1 b1 = X := ⟨_, rfl⟩
    have HX1 := Lib.hid hx1
    clear hx1
    go_wp2_with fail
    have B2 : Bl w (w1.alloc (.cells #[.int .i64 n1, .int .i64 d1] 45)) := (bl_alloc B1 _)
    have xA_2 : Bx (w1.alloc (.cells #[.int .i64 n1, .int .i64 d1] 45)) (w1.heap.size) #[.int .i64 n1, .int .i64 d1] := (Bx.new (b := w1.heap.size) _ #[.int .i64 n1, .int .i64 d1] 45 (by first | rfl | simp))
    have zz2 : w1.heap.size + 1 ≤ (w1.alloc (.cells #[.int .i64 n1, .int .i64 d1] 45)).heap.size := (by simp)
    generalize (w1.alloc (.cells #[.int .i64 n1, .int .i64 d1] 45)) = w2 at *
    obtain ⟨cA_2, fA_2, zA_2⟩ := xA_2.out
    refine (iper_eq HX1.out _).mono ?_
    rintro e w3 ⟨rfl, hb3⟩
    have B3 : Bl w w3 := bl_call B2 hb3
    have xA_3 : Bx w3 (w1.heap.size) #[.int .i64 n1, .int .i64 d1] := xA_2.below hb3
    clear cA_2 fA_2 zA_2
    obtain ⟨cA_3, fA_3, zA_3⟩ := xA_3.out
    go_wp2_with fail
    refine (sper_eq HX1.out _).mono ?_
    rintro e w4 ⟨rfl, hb4⟩
    have B4 : Bl w w4 := bl_call B3 hb4
    have xA_4 : Bx w4 (w1.heap.size) #[.int .i64 n1, .int .i64 d1] := xA_3.below hb4
    clear cA_3 fA_3 zA_3
    obtain ⟨cA_4, fA_4, zA_4⟩ := xA_4.out
    have H2 := Lib.hid (H0.out.below B4)
    go_wp2_with fail
    refine (dffd_any H2.out hl0).mono ?_
    rintro e w5 ⟨b2, q2, va2, xs2, vb2, ys2, rfl, rb2, rq2, SA, la2, SB, lb2, hb5⟩
    have B5 : Bl w w5 := bl_call B4 hb5
    have xA_5 : Bx w5 (w1.heap.size) #[.int .i64 n1, .int .i64 d1] := xA_4.below hb5
    clear cA_4 fA_4 zA_4
    obtain ⟨cA_5, fA_5, zA_5⟩ := xA_5.out
    clear rb2 rq2
    obtain ⟨a2, k2, rfl, _⟩ := SA.form
    obtain ⟨a3, k3, rfl, _⟩ := SB.form
    have LA := Lib.hid (show xs2.length ≤ 1048576 by omega)
    have LB := Lib.hid (show ys2.length ≤ 1048576 by omega)
    clear la2 lb2
    have SA := Lib.hid SA
    have SB := Lib.hid SB
    obtain ⟨⟨⟨n2, d2⟩, c2⟩, hx2⟩ : ∃ X, frDigF b2 q2 xs2 ys2 = X := ⟨_, rfl⟩
    have HX2 := Lib.hid hx2
    clear hx2
    go_wp2_with fail
    refine (ifrd_eq HX2.out _ SA.out LA.out SB.out LB.out).mono ?_
    rintro e w6 ⟨rfl, hb6⟩
    have B6 : Bl w w6 := bl_call B5 hb6
    have xA_6 : Bx w6 (w1.heap.size) #[.int .i64 n1, .int .i64 d1] := xA_5.below hb6
    clear cA_5 fA_5 zA_5
    obtain ⟨cA_6, fA_6, zA_6⟩ := xA_6.out
    have SA : Hid (Sl w6 (.slice a2 xs2.length k2) xs2) := Lib.hid ((SA.out.below (bl_refl w5)).below hb6)
    have SB : Hid (Sl w6 (.slice a3 ys2.length k3) ys2) := Lib.hid ((SB.out.below (bl_refl w5)).below hb6)
    go_wp2_with fail
    have B7 : Bl w (w6.alloc (.cells #[.int .i64 n2, .int .i64 d2] 45)) := (bl_alloc B6 _)
    have xA_7 : Bx (w6.alloc (.cells #[.int .i64 n2, .int .i64 d2] 45)) (w1.heap.size) #[.int .i64 n1, .int .i64 d1] := (xA_6.alloc _)
    have xB_7 : Bx (w6.alloc (.cells #[.int .i64 n2, .int .i64 d2] 45)) (w6.heap.size) #[.int .i64 n2, .int .i64 d2] := (Bx.new (b := w6.heap.size) _ #[.int .i64 n2, .int .i64 d2] 45 (by first | rfl | simp))
    have zz7 : w6.heap.size + 1 ≤ (w6.alloc (.cells #[.int .i64 n2, .int .i64 d2] 45)).heap.size := (by simp)
    clear cA_6 fA_6 zA_6
    have SA : Hid (Sl (w6.alloc (.cells #[.int .i64 n2, .int .i64 d2] 45)) (.slice a2 xs2.length k2) xs2) := Lib.hid (SA.out.below (bl_alloc (bl_refl w6) _))
    have SB : Hid (Sl (w6.alloc (.cells #[.int .i64 n2, .int .i64 d2] 45)) (.slice a3 ys2.length k3) ys2) := Lib.hid (SB.out.below (bl_alloc (bl_refl w6) _))
    generalize (w6.alloc (.cells #[.int .i64 n2, .int .i64 d2] 45)) = w7 at *
    obtain ⟨cA_7, fA_7, zA_7⟩ := xA_7.out
    obtain ⟨cB_7, fB_7, zB_7⟩ := xB_7.out
    refine (sfrd_eq HX2.out _ SA.out LA.out SB.out LB.out).mono ?_
    rintro e w8 ⟨rfl, hb8⟩
    have B8 : Bl w w8 := bl_call B7 hb8
    have xA_8 : Bx w8 (w1.heap.size) #[.int .i64 n1, .int .i64 d1] := xA_7.below hb8
    have xB_8 : Bx w8 (w6.heap.size) #[.int .i64 n2, .int .i64 d2] := xB_7.below hb8
    clear cA_7 fA_7 zA_7 cB_7 fB_7 zB_7
    obtain ⟨cA_8, fA_8, zA_8⟩ := xA_8.out
    obtain ⟨cB_8, fB_8, zB_8⟩ := xB_8.out
    have SA : Hid (Sl w8 (.slice a2 xs2.length k2) xs2) := Lib.hid ((SA.out.below (bl_refl w7)).below hb8)
    have SB : Hid (Sl w8 (.slice a3 ys2.length k3) ys2) := Lib.hid ((SB.out.below (bl_refl w7)).below hb8)
    go_wp2_with fail
    have B9 : Bl w (w8.alloc (.cells #[.int .i64 n2, .int .i64 d2] 45)) := (bl_alloc B8 _)
    have xA_9 : Bx (w8.alloc (.cells #[.int .i64 n2, .int .i64 d2] 45)) (w1.heap.size) #[.int .i64 n1, .int .i64 d1] := (xA_8.alloc _)
    have xB_9 : Bx (w8.alloc (.cells #[.int .i64 n2, .int .i64 d2] 45)) (w6.heap.size) #[.int .i64 n2, .int .i64 d2] := (xB_8.alloc _)
    have xC_9 : Bx (w8.alloc (.cells #[.int .i64 n2, .int .i64 d2] 45)) (w8.heap.size) #[.int .i64 n2, .int .i64 d2] := (Bx.new (b := w8.heap.size) _ #[.int .i64 n2, .int .i64 d2] 45 (by first | rfl | simp))
    have zz9 : w8.heap.size + 1 ≤ (w8.alloc (.cells #[.int .i64 n2, .int .i64 d2] 45)).heap.size := (by simp)
    clear cA_8 fA_8 zA_8 cB_8 fB_8 zB_8
    have SA : Hid (Sl (w8.alloc (.cells #[.int .i64 n2, .int .i64 d2] 45)) (.slice a2 xs2.length k2) xs2) := Lib.hid (SA.out.below (bl_alloc (bl_refl w8) _))
    have SB : Hid (Sl (w8.alloc (.cells #[.int .i64 n2, .int .i64 d2] 45)) (.slice a3 ys2.length k3) ys2) := Lib.hid (SB.out.below (bl_alloc (bl_refl w8) _))
    generalize (w8.alloc (.cells #[.int .i64 n2, .int .i64 d2] 45)) = w9 at *
    obtain ⟨cA_9, fA_9, zA_9⟩ := xA_9.out
    obtain ⟨cB_9, fB_9, zB_9⟩ := xB_9.out
    obtain ⟨cC_9, fC_9, zC_9⟩ := xC_9.out
    clear SA SB
    have H3 := Lib.hid (H0.out.below B9)
    refine (dbnd_any H3.out hl0).mono ?_
    rintro e w10 ⟨va4, xs4, rfl, SC, l4, hb10⟩
    have B10 : Bl w w10 := bl_call B9 hb10
    have xA_10 : Bx w10 (w1.heap.size) #[.int .i64 n1, .int .i64 d1] := xA_9.below hb10
    have xB_10 : Bx w10 (w6.heap.size) #[.int .i64 n2, .int .i64 d2] := xB_9.below hb10
    have xC_10 : Bx w10 (w8.heap.size) #[.int .i64 n2, .int .i64 d2] := xC_9.below hb10
    clear cA_9 fA_9 zA_9 cB_9 fB_9 zB_9 cC_9 fC_9 zC_9
    obtain ⟨cA_10, fA_10, zA_10⟩ := xA_10.out
    obtain ⟨cB_10, fB_10, zB_10⟩ := xB_10.out
    obtain ⟨cC_10, fC_10, zC_10⟩ := xC_10.out
    obtain ⟨a4, k4, rfl, _⟩ := SC.form
    have LC := Lib.hid (show xs4.length ≤ 1048576 by omega)
    clear l4
    have SC := Lib.hid SC
    obtain ⟨⟨⟨n4, d4⟩, ⟨m4, e4⟩, c4⟩, hx3⟩ : ∃ X, bndTF xs4 = X := ⟨_, rfl⟩
    have HX3 := Lib.hid hx3
    clear hx3
    go_wp2_with fail
    refine (ibnd_eq HX3.out _ SC.out LC.out).mono ?_
    rintro e w11 ⟨rfl, hb11⟩
    have B11 : Bl w w11 := bl_call B10 hb11
    have xA_11 : Bx w11 (w1.heap.size) #[.int .i64 n1, .int .i64 d1] := xA_10.below hb11
    have xB_11 : Bx w11 (w6.heap.size) #[.int .i64 n2, .int .i64 d2] := xB_10.below hb11
    have xC_11 : Bx w11 (w8.heap.size) #[.int .i64 n2, .int .i64 d2] := xC_10.below hb11
    clear cA_10 fA_10 zA_10 cB_10 fB_10 zB_10 cC_10 fC_10 zC_10
    obtain ⟨cA_11, fA_11, zA_11⟩ := xA_11.out
    obtain ⟨cB_11, fB_11, zB_11⟩ := xB_11.out
    obtain ⟨cC_11, fC_11, zC_11⟩ := xC_11.out
    have SC : Hid (Sl w11 (.slice a4 xs4.length k4) xs4) := Lib.hid ((SC.out.below (bl_refl w10)).below hb11)
    go_wp2_with fail
    have B12 : Bl w ((w11.alloc (.cells #[.int .i64 n4, .int .i64 d4] 45)).alloc (.cells #[.int .i64 m4, .int .i64 e4] 45)) := (bl_alloc (bl_alloc B11 _) _)
    have xA_12 : Bx ((w11.alloc (.cells #[.int .i64 n4, .int .i64 d4] 45)).alloc (.cells #[.int .i64 m4, .int .i64 e4] 45)) (w1.heap.size) #[.int .i64 n1, .int .i64 d1] := ((xA_11.alloc _).alloc _)
    have xB_12 : Bx ((w11.alloc (.cells #[.int .i64 n4, .int .i64 d4] 45)).alloc (.cells #[.int .i64 m4, .int .i64 e4] 45)) (w6.heap.size) #[.int .i64 n2, .int .i64 d2] := ((xB_11.alloc _).alloc _)
    have xC_12 : Bx ((w11.alloc (.cells #[.int .i64 n4, .int .i64 d4] 45)).alloc (.cells #[.int .i64 m4, .int .i64 e4] 45)) (w8.heap.size) #[.int .i64 n2, .int .i64 d2] := ((xC_11.alloc _).alloc _)
    have xD_12 : Bx ((w11.alloc (.cells #[.int .i64 n4, .int .i64 d4] 45)).alloc (.cells #[.int .i64 m4, .int .i64 e4] 45)) (w11.heap.size) #[.int .i64 n4, .int .i64 d4] := ((Bx.new (b := w11.heap.size) _ #[.int .i64 n4, .int .i64 d4] 45 (by first | rfl | simp)).alloc _)
    have xE_12 : Bx ((w11.alloc (.cells #[.int .i64 n4, .int .i64 d4] 45)).alloc (.cells #[.int .i64 m4, .int .i64 e4] 45)) (w11.heap.size + 1) #[.int .i64 m4, .int .i64 e4] := (Bx.new (b := w11.heap.size + 1) _ #[.int .i64 m4, .int .i64 e4] 45 (by first | rfl | simp))
    have zz12 : w11.heap.size + 2 ≤ ((w11.alloc (.cells #[.int .i64 n4, .int .i64 d4] 45)).alloc (.cells #[.int .i64 m4, .int .i64 e4] 45)).heap.size := (by simp)
    clear cA_11 fA_11 zA_11 cB_11 fB_11 zB_11 cC_11 fC_11 zC_11
    have SC : Hid (Sl ((w11.alloc (.cells #[.int .i64 n4, .int .i64 d4] 45)).alloc (.cells #[.int .i64 m4, .int .i64 e4] 45)) (.slice a4 xs4.length k4) xs4) := Lib.hid (SC.out.below (bl_alloc (bl_alloc (bl_refl w11) _) _))
    generalize ((w11.alloc (.cells #[.int .i64 n4, .int .i64 d4] 45)).alloc (.cells #[.int .i64 m4, .int .i64 e4] 45)) = w12 at *
    obtain ⟨cA_12, fA_12, zA_12⟩ := xA_12.out
    obtain ⟨cB_12, fB_12, zB_12⟩ := xB_12.out
    obtain ⟨cC_12, fC_12, zC_12⟩ := xC_12.out
    obtain ⟨cD_12, fD_12, zD_12⟩ := xD_12.out
    obtain ⟨cE_12, fE_12, zE_12⟩ := xE_12.out
    refine (sbnd_eq HX3.out _ SC.out LC.out).mono ?_
    rintro e w13 ⟨rfl, hb13⟩
    have B13 : Bl w w13 := bl_call B12 hb13
    have xA_13 : Bx w13 (w1.heap.size) #[.int .i64 n1, .int .i64 d1] := xA_12.below hb13
    have xB_13 : Bx w13 (w6.heap.size) #[.int .i64 n2, .int .i64 d2] := xB_12.below hb13
    have xC_13 : Bx w13 (w8.heap.size) #[.int .i64 n2, .int .i64 d2] := xC_12.below hb13
    have xD_13 : Bx w13 (w11.heap.size) #[.int .i64 n4, .int .i64 d4] := xD_12.below hb13
    have xE_13 : Bx w13 (w11.heap.size + 1) #[.int .i64 m4, .int .i64 e4] := xE_12.below hb13
    clear cA_12 fA_12 zA_12 cB_12 fB_12 zB_12 cC_12 fC_12 zC_12 cD_12 fD_12 zD_12 cE_12 fE_12 zE_12
    obtain ⟨cA_13, fA_13, zA_13⟩ := xA_13.out
    obtain ⟨cB_13, fB_13, zB_13⟩ := xB_13.out
    obtain ⟨cC_13, fC_13, zC_13⟩ := xC_13.out
    obtain ⟨cD_13, fD_13, zD_13⟩ := xD_13.out
    obtain ⟨cE_13, fE_13, zE_13⟩ := xE_13.out
    have SC : Hid (Sl w13 (.slice a4 xs4.length k4) xs4) := Lib.hid ((SC.out.below (bl_refl w12)).below hb13)
    go_wp2_with fail
    have B14 : Bl w ((w13.alloc (.cells #[.int .i64 n4, .int .i64 d4] 45)).alloc (.cells #[.int .i64 m4, .int .i64 e4] 45)) := (bl_alloc (bl_alloc B13 _) _)
    have xA_14 : Bx ((w13.alloc (.cells #[.int .i64 n4, .int .i64 d4] 45)).alloc (.cells #[.int .i64 m4, .int .i64 e4] 45)) (w1.heap.size) #[.int .i64 n1, .int .i64 d1] := ((xA_13.alloc _).alloc _)
    have xB_14 : Bx ((w13.alloc (.cells #[.int .i64 n4, .int .i64 d4] 45)).alloc (.cells #[.int .i64 m4, .int .i64 e4] 45)) (w6.heap.size) #[.int .i64 n2, .int .i64 d2] := ((xB_13.alloc _).alloc _)
    have xC_14 : Bx ((w13.alloc (.cells #[.int .i64 n4, .int .i64 d4] 45)).alloc (.cells #[.int .i64 m4, .int .i64 e4] 45)) (w8.heap.size) #[.int .i64 n2, .int .i64 d2] := ((xC_13.alloc _).alloc _)
    have xD_14 : Bx ((w13.alloc (.cells #[.int .i64 n4, .int .i64 d4] 45)).alloc (.cells #[.int .i64 m4, .int .i64 e4] 45)) (w11.heap.size) #[.int .i64 n4, .int .i64 d4] := ((xD_13.alloc _).alloc _)
    have xE_14 : Bx ((w13.alloc (.cells #[.int .i64 n4, .int .i64 d4] 45)).alloc (.cells #[.int .i64 m4, .int .i64 e4] 45)) (w11.heap.size + 1) #[.int .i64 m4, .int .i64 e4] := ((xE_13.alloc _).alloc _)
    have xF_14 : Bx ((w13.alloc (.cells #[.int .i64 n4, .int .i64 d4] 45)).alloc (.cells #[.int .i64 m4, .int .i64 e4] 45)) (w13.heap.size) #[.int .i64 n4, .int .i64 d4] := ((Bx.new (b := w13.heap.size) _ #[.int .i64 n4, .int .i64 d4] 45 (by first | rfl | simp)).alloc _)
    have xG_14 : Bx ((w13.alloc (.cells #[.int .i64 n4, .int .i64 d4] 45)).alloc (.cells #[.int .i64 m4, .int .i64 e4] 45)) (w13.heap.size + 1) #[.int .i64 m4, .int .i64 e4] := (Bx.new (b := w13.heap.size + 1) _ #[.int .i64 m4, .int .i64 e4] 45 (by first | rfl | simp))
    have zz14 : w13.heap.size + 2 ≤ ((w13.alloc (.cells #[.int .i64 n4, .int .i64 d4] 45)).alloc (.cells #[.int .i64 m4, .int .i64 e4] 45)).heap.size := (by simp)
    clear cA_13 fA_13 zA_13 cB_13 fB_13 zB_13 cC_13 fC_13 zC_13 cD_13 fD_13 zD_13 cE_13 fE_13 zE_13
    have SC : Hid (Sl ((w13.alloc (.cells #[.int .i64 n4, .int .i64 d4] 45)).alloc (.cells #[.int .i64 m4, .int .i64 e4] 45)) (.slice a4 xs4.length k4) xs4) := Lib.hid (SC.out.below (bl_alloc (bl_alloc (bl_refl w13) _) _))
    generalize ((w13.alloc (.cells #[.int .i64 n4, .int .i64 d4] 45)).alloc (.cells #[.int .i64 m4, .int .i64 e4] 45)) = w14 at *
    obtain ⟨cA_14, fA_14, zA_14⟩ := xA_14.out
    obtain ⟨cB_14, fB_14, zB_14⟩ := xB_14.out
    obtain ⟨cC_14, fC_14, zC_14⟩ := xC_14.out
    obtain ⟨cD_14, fD_14, zD_14⟩ := xD_14.out
    obtain ⟨cE_14, fE_14, zE_14⟩ := xE_14.out
    obtain ⟨cF_14, fF_14, zF_14⟩ := xF_14.out
    obtain ⟨cG_14, fG_14, zG_14⟩ := xG_14.out
    have H4 := Lib.hid (H0.out.below B14)
    refine (ddtxt_any H4.out hl0).mono ?_
    rintro e w15 ⟨b5, q5, va5, xs5, rfl, rb5, rq5, SD, l5, hb15⟩
    have B15 : Bl w w15 := bl_call B14 hb15
    have xA_15 : Bx w15 (w1.heap.size) #[.int .i64 n1, .int .i64 d1] := xA_14.below hb15
    have xB_15 : Bx w15 (w6.heap.size) #[.int .i64 n2, .int .i64 d2] := xB_14.below hb15
    have xC_15 : Bx w15 (w8.heap.size) #[.int .i64 n2, .int .i64 d2] := xC_14.below hb15
    have xD_15 : Bx w15 (w11.heap.size) #[.int .i64 n4, .int .i64 d4] := xD_14.below hb15
    have xE_15 : Bx w15 (w11.heap.size + 1) #[.int .i64 m4, .int .i64 e4] := xE_14.below hb15
    have xF_15 : Bx w15 (w13.heap.size) #[.int .i64 n4, .int .i64 d4] := xF_14.below hb15
    have xG_15 : Bx w15 (w13.heap.size + 1) #[.int .i64 m4, .int .i64 e4] := xG_14.below hb15
    clear cA_14 fA_14 zA_14 cB_14 fB_14 zB_14 cC_14 fC_14 zC_14 cD_14 fD_14 zD_14 cE_14 fE_14 zE_14 cF_14 fF_14 zF_14 cG_14 fG_14 zG_14
    obtain ⟨cA_15, fA_15, zA_15⟩ := xA_15.out
    obtain ⟨cB_15, fB_15, zB_15⟩ := xB_15.out
    obtain ⟨cC_15, fC_15, zC_15⟩ := xC_15.out
    obtain ⟨cD_15, fD_15, zD_15⟩ := xD_15.out
    obtain ⟨cE_15, fE_15, zE_15⟩ := xE_15.out
    obtain ⟨cF_15, fF_15, zF_15⟩ := xF_15.out
    obtain ⟨cG_15, fG_15, zG_15⟩ := xG_15.out
    have SC : Hid (Sl w15 (.slice a4 xs4.length k4) xs4) := Lib.hid ((SC.out.below (bl_refl w14)).below hb15)
    clear rb5 rq5
    obtain ⟨a5, k5, rfl, _⟩ := SD.form
    have LD := Lib.hid (show xs5.length ≤ 1048576 by omega)
    clear l5
    have SD := Lib.hid SD
    obtain ⟨T6, hT6, z6, hR6⟩ := dtx_facts b5 q5 xs5
    have HT6 := Lib.hid hT6
    have Z6 := Lib.hid z6
    have HR6 := Lib.hid hR6
    clear hT6 z6 hR6
    obtain ⟨⟨q6, L6, o6⟩, hx4⟩ : ∃ X, rdgF b5 T6.data.toList = X := ⟨_, rfl⟩
    have HX4 := Lib.hid hx4
    clear hx4
    go_wp2_with fail
    refine (idtx_eq HT6.out _ SD.out LD.out (HE.out.tab.below B15)).mono ?_
    rintro e w16 ⟨rfl, hb16⟩
    have B16 : Bl w w16 := bl_call B15 hb16
    have xA_16 : Bx w16 (w1.heap.size) #[.int .i64 n1, .int .i64 d1] := xA_15.below hb16
    have xB_16 : Bx w16 (w6.heap.size) #[.int .i64 n2, .int .i64 d2] := xB_15.below hb16
    have xC_16 : Bx w16 (w8.heap.size) #[.int .i64 n2, .int .i64 d2] := xC_15.below hb16
    have xD_16 : Bx w16 (w11.heap.size) #[.int .i64 n4, .int .i64 d4] := xD_15.below hb16
    have xE_16 : Bx w16 (w11.heap.size + 1) #[.int .i64 m4, .int .i64 e4] := xE_15.below hb16
    have xF_16 : Bx w16 (w13.heap.size) #[.int .i64 n4, .int .i64 d4] := xF_15.below hb16
    have xG_16 : Bx w16 (w13.heap.size + 1) #[.int .i64 m4, .int .i64 e4] := xG_15.below hb16
    clear cA_15 fA_15 zA_15 cB_15 fB_15 zB_15 cC_15 fC_15 zC_15 cD_15 fD_15 zD_15 cE_15 fE_15 zE_15 cF_15 fF_15 zF_15 cG_15 fG_15 zG_15
    obtain ⟨cA_16, fA_16, zA_16⟩ := xA_16.out
    obtain ⟨cB_16, fB_16, zB_16⟩ := xB_16.out
    obtain ⟨cC_16, fC_16, zC_16⟩ := xC_16.out
    obtain ⟨cD_16, fD_16, zD_16⟩ := xD_16.out
    obtain ⟨cE_16, fE_16, zE_16⟩ := xE_16.out
    obtain ⟨cF_16, fF_16, zF_16⟩ := xF_16.out
    obtain ⟨cG_16, fG_16, zG_16⟩ := xG_16.out
    have SC : Hid (Sl w16 (.slice a4 xs4.length k4) xs4) := Lib.hid ((SC.out.below (bl_refl w15)).below hb16)
    have SD : Hid (Sl w16 (.slice a5 xs5.length k5) xs5) := Lib.hid ((SD.out.below (bl_refl w15)).below hb16)
    go_wp2_with fail
    refine (irdg_eq HX4.out _ Z6.out (HE.out.below B16)).mono ?_
    rintro e w17 ⟨av6, cv6, rfl, SE, hb17⟩
    have B17 : Bl w w17 := bl_call B16 hb17
    have xA_17 : Bx w17 (w1.heap.size) #[.int .i64 n1, .int .i64 d1] := xA_16.below hb17
    have xB_17 : Bx w17 (w6.heap.size) #[.int .i64 n2, .int .i64 d2] := xB_16.below hb17
    have xC_17 : Bx w17 (w8.heap.size) #[.int .i64 n2, .int .i64 d2] := xC_16.below hb17
    have xD_17 : Bx w17 (w11.heap.size) #[.int .i64 n4, .int .i64 d4] := xD_16.below hb17
    have xE_17 : Bx w17 (w11.heap.size + 1) #[.int .i64 m4, .int .i64 e4] := xE_16.below hb17
    have xF_17 : Bx w17 (w13.heap.size) #[.int .i64 n4, .int .i64 d4] := xF_16.below hb17
    have xG_17 : Bx w17 (w13.heap.size + 1) #[.int .i64 m4, .int .i64 e4] := xG_16.below hb17
    clear cA_16 fA_16 zA_16 cB_16 fB_16 zB_16 cC_16 fC_16 zC_16 cD_16 fD_16 zD_16 cE_16 fE_16 zE_16 cF_16 fF_16 zF_16 cG_16 fG_16 zG_16
    obtain ⟨cA_17, fA_17, zA_17⟩ := xA_17.out
    obtain ⟨cB_17, fB_17, zB_17⟩ := xB_17.out
    obtain ⟨cC_17, fC_17, zC_17⟩ := xC_17.out
    obtain ⟨cD_17, fD_17, zD_17⟩ := xD_17.out
    obtain ⟨cE_17, fE_17, zE_17⟩ := xE_17.out
    obtain ⟨cF_17, fF_17, zF_17⟩ := xF_17.out
    obtain ⟨cG_17, fG_17, zG_17⟩ := xG_17.out
    have SC : Hid (Sl w17 (.slice a4 xs4.length k4) xs4) := Lib.hid ((SC.out.below (bl_refl w16)).below hb17)
    have SD : Hid (Sl w17 (.slice a5 xs5.length k5) xs5) := Lib.hid ((SD.out.below (bl_refl w16)).below hb17)
    have SE := SE.sl
    have SE := Lib.hid SE
    have H5 := Lib.hid (H0.out.below B17)
    go_wp2_with fail
    refine (drdig_any H5.out hl0).mono ?_
    rintro e w18 ⟨b7, T7, rfl, rb7, z7, hb18⟩
    have B18 : Bl w w18 := bl_call B17 hb18
    have xA_18 : Bx w18 (w1.heap.size) #[.int .i64 n1, .int .i64 d1] := xA_17.below hb18
    have xB_18 : Bx w18 (w6.heap.size) #[.int .i64 n2, .int .i64 d2] := xB_17.below hb18
    have xC_18 : Bx w18 (w8.heap.size) #[.int .i64 n2, .int .i64 d2] := xC_17.below hb18
    have xD_18 : Bx w18 (w11.heap.size) #[.int .i64 n4, .int .i64 d4] := xD_17.below hb18
    have xE_18 : Bx w18 (w11.heap.size + 1) #[.int .i64 m4, .int .i64 e4] := xE_17.below hb18
    have xF_18 : Bx w18 (w13.heap.size) #[.int .i64 n4, .int .i64 d4] := xF_17.below hb18
    have xG_18 : Bx w18 (w13.heap.size + 1) #[.int .i64 m4, .int .i64 e4] := xG_17.below hb18
    clear cA_17 fA_17 zA_17 cB_17 fB_17 zB_17 cC_17 fC_17 zC_17 cD_17 fD_17 zD_17 cE_17 fE_17 zE_17 cF_17 fF_17 zF_17 cG_17 fG_17 zG_17
    obtain ⟨cA_18, fA_18, zA_18⟩ := xA_18.out
    obtain ⟨cB_18, fB_18, zB_18⟩ := xB_18.out
    obtain ⟨cC_18, fC_18, zC_18⟩ := xC_18.out
    obtain ⟨cD_18, fD_18, zD_18⟩ := xD_18.out
    obtain ⟨cE_18, fE_18, zE_18⟩ := xE_18.out
    obtain ⟨cF_18, fF_18, zF_18⟩ := xF_18.out
    obtain ⟨cG_18, fG_18, zG_18⟩ := xG_18.out
    have SC : Hid (Sl w18 (.slice a4 xs4.length k4) xs4) := Lib.hid ((SC.out.below (bl_refl w17)).below hb18)
    have SD : Hid (Sl w18 (.slice a5 xs5.length k5) xs5) := Lib.hid ((SD.out.below (bl_refl w17)).below hb18)
    have SE : Hid (Sl w18 (.slice av6 L6.length cv6) L6) := Lib.hid ((SE.out.below (bl_refl w17)).below hb18)
    clear rb7
    have Z7 := Lib.hid z7
    clear z7
    obtain ⟨⟨q7, L7, o7⟩, hx5⟩ : ∃ X, rdgF b7 T7.data.toList = X := ⟨_, rfl⟩
    have HX5 := Lib.hid hx5
    clear hx5
    go_wp2_with fail
    refine (irdg_eq HX5.out _ Z7.out (HE.out.below B18)).mono ?_
    rintro e w19 ⟨av7, cv7, rfl, SF, hb19⟩
    have B19 : Bl w w19 := bl_call B18 hb19
    have xA_19 : Bx w19 (w1.heap.size) #[.int .i64 n1, .int .i64 d1] := xA_18.below hb19
    have xB_19 : Bx w19 (w6.heap.size) #[.int .i64 n2, .int .i64 d2] := xB_18.below hb19
    have xC_19 : Bx w19 (w8.heap.size) #[.int .i64 n2, .int .i64 d2] := xC_18.below hb19
    have xD_19 : Bx w19 (w11.heap.size) #[.int .i64 n4, .int .i64 d4] := xD_18.below hb19
    have xE_19 : Bx w19 (w11.heap.size + 1) #[.int .i64 m4, .int .i64 e4] := xE_18.below hb19
    have xF_19 : Bx w19 (w13.heap.size) #[.int .i64 n4, .int .i64 d4] := xF_18.below hb19
    have xG_19 : Bx w19 (w13.heap.size + 1) #[.int .i64 m4, .int .i64 e4] := xG_18.below hb19
    clear cA_18 fA_18 zA_18 cB_18 fB_18 zB_18 cC_18 fC_18 zC_18 cD_18 fD_18 zD_18 cE_18 fE_18 zE_18 cF_18 fF_18 zF_18 cG_18 fG_18 zG_18
    obtain ⟨cA_19, fA_19, zA_19⟩ := xA_19.out
    obtain ⟨cB_19, fB_19, zB_19⟩ := xB_19.out
    obtain ⟨cC_19, fC_19, zC_19⟩ := xC_19.out
    obtain ⟨cD_19, fD_19, zD_19⟩ := xD_19.out
    obtain ⟨cE_19, fE_19, zE_19⟩ := xE_19.out
    obtain ⟨cF_19, fF_19, zF_19⟩ := xF_19.out
    obtain ⟨cG_19, fG_19, zG_19⟩ := xG_19.out
    have SC : Hid (Sl w19 (.slice a4 xs4.length k4) xs4) := Lib.hid ((SC.out.below (bl_refl w18)).below hb19)
    have SD : Hid (Sl w19 (.slice a5 xs5.length k5) xs5) := Lib.hid ((SD.out.below (bl_refl w18)).below hb19)
    have SE : Hid (Sl w19 (.slice av6 L6.length cv6) L6) := Lib.hid ((SE.out.below (bl_refl w18)).below hb19)
    have SF := SF.sl
    have SF := Lib.hid SF
    go_wp2_with fail
    refine (srdg_eq HX5.out _ Z7.out).mono ?_
    rintro e w20 ⟨av8, cv8, rfl, SG, hb20⟩
    have B20 : Bl w w20 := bl_call B19 hb20
    have xA_20 : Bx w20 (w1.heap.size) #[.int .i64 n1, .int .i64 d1] := xA_19.below hb20
    have xB_20 : Bx w20 (w6.heap.size) #[.int .i64 n2, .int .i64 d2] := xB_19.below hb20
    have xC_20 : Bx w20 (w8.heap.size) #[.int .i64 n2, .int .i64 d2] := xC_19.below hb20
    have xD_20 : Bx w20 (w11.heap.size) #[.int .i64 n4, .int .i64 d4] := xD_19.below hb20
    have xE_20 : Bx w20 (w11.heap.size + 1) #[.int .i64 m4, .int .i64 e4] := xE_19.below hb20
    have xF_20 : Bx w20 (w13.heap.size) #[.int .i64 n4, .int .i64 d4] := xF_19.below hb20
    have xG_20 : Bx w20 (w13.heap.size + 1) #[.int .i64 m4, .int .i64 e4] := xG_19.below hb20
    clear cA_19 fA_19 zA_19 cB_19 fB_19 zB_19 cC_19 fC_19 zC_19 cD_19 fD_19 zD_19 cE_19 fE_19 zE_19 cF_19 fF_19 zF_19 cG_19 fG_19 zG_19
    obtain ⟨cA_20, fA_20, zA_20⟩ := xA_20.out
    obtain ⟨cB_20, fB_20, zB_20⟩ := xB_20.out
    obtain ⟨cC_20, fC_20, zC_20⟩ := xC_20.out
    obtain ⟨cD_20, fD_20, zD_20⟩ := xD_20.out
    obtain ⟨cE_20, fE_20, zE_20⟩ := xE_20.out
    obtain ⟨cF_20, fF_20, zF_20⟩ := xF_20.out
    obtain ⟨cG_20, fG_20, zG_20⟩ := xG_20.out
    have SC : Hid (Sl w20 (.slice a4 xs4.length k4) xs4) := Lib.hid ((SC.out.below (bl_refl w19)).below hb20)
    have SD : Hid (Sl w20 (.slice a5 xs5.length k5) xs5) := Lib.hid ((SD.out.below (bl_refl w19)).below hb20)
    have SE : Hid (Sl w20 (.slice av6 L6.length cv6) L6) := Lib.hid ((SE.out.below (bl_refl w19)).below hb20)
    have SF : Hid (Sl w20 (.slice av7 L7.length cv7) L7) := Lib.hid ((SF.out.below (bl_refl w19)).below hb20)
    have SG := SG.sl
    have SG := Lib.hid SG
    go_upto_region 18 with fail
    go_cut [223] (fun s223 wx => s223 = .bool false ∧ Bl w20 wx)
    case first =>

      rcases HR6.out with ⟨he6, hr6⟩ | ⟨he6, hr6⟩
      · as_aux_lemma =>
          have e7 := HX4.out
          rw [hr6] at e7
          obtain ⟨rfl, e8⟩ := Prod.mk.inj e7
          obtain ⟨rfl, rfl⟩ := Prod.mk.inj e8
          clear e7 e8 hr6
          go_wp2_with fail
          refine (sdtx_eq HT6.out _ SD.out LD.out).mono ?_
          rintro e w21 ⟨rfl, hb21⟩
          have B21 : Bl w w21 := bl_call B20 hb21
          have xA_21 : Bx w21 (w1.heap.size) #[.int .i64 n1, .int .i64 d1] := xA_20.below hb21
          have xB_21 : Bx w21 (w6.heap.size) #[.int .i64 n2, .int .i64 d2] := xB_20.below hb21
          have xC_21 : Bx w21 (w8.heap.size) #[.int .i64 n2, .int .i64 d2] := xC_20.below hb21
          have xD_21 : Bx w21 (w11.heap.size) #[.int .i64 n4, .int .i64 d4] := xD_20.below hb21
          have xE_21 : Bx w21 (w11.heap.size + 1) #[.int .i64 m4, .int .i64 e4] := xE_20.below hb21
          have xF_21 : Bx w21 (w13.heap.size) #[.int .i64 n4, .int .i64 d4] := xF_20.below hb21
          have xG_21 : Bx w21 (w13.heap.size + 1) #[.int .i64 m4, .int .i64 e4] := xG_20.below hb21
          clear cA_20 fA_20 zA_20 cB_20 fB_20 zB_20 cC_20 fC_20 zC_20 cD_20 fD_20 zD_20 cE_20 fE_20 zE_20 cF_20 fF_20 zF_20 cG_20 fG_20 zG_20
          obtain ⟨cA_21, fA_21, zA_21⟩ := xA_21.out
          obtain ⟨cB_21, fB_21, zB_21⟩ := xB_21.out
          obtain ⟨cC_21, fC_21, zC_21⟩ := xC_21.out
          obtain ⟨cD_21, fD_21, zD_21⟩ := xD_21.out
          obtain ⟨cE_21, fE_21, zE_21⟩ := xE_21.out
          obtain ⟨cF_21, fF_21, zF_21⟩ := xF_21.out
          obtain ⟨cG_21, fG_21, zG_21⟩ := xG_21.out
          have SC : Hid (Sl w21 (.slice a4 xs4.length k4) xs4) := Lib.hid ((SC.out.below (bl_refl w20)).below hb21)
          have SD : Hid (Sl w21 (.slice a5 xs5.length k5) xs5) := Lib.hid ((SD.out.below (bl_refl w20)).below hb21)
          have SE : Hid (Sl w21 (.slice av6 xs5.length cv6) xs5) := Lib.hid ((SE.out.below (bl_refl w20)).below hb21)
          have SF : Hid (Sl w21 (.slice av7 L7.length cv7) L7) := Lib.hid ((SF.out.below (bl_refl w20)).below hb21)
          have SG : Hid (Sl w21 (.slice av8 L7.length cv8) L7) := Lib.hid ((SG.out.below (bl_refl w20)).below hb21)
          go_wp2_with fail
          refine (f6_selfD _ SE.out SD.out).mono ?_
          rintro e w22 ⟨rfl, hb22⟩
          have B22 : Bl w w22 := bl_call B21 hb22
          have xA_22 : Bx w22 (w1.heap.size) #[.int .i64 n1, .int .i64 d1] := xA_21.below hb22
          have xB_22 : Bx w22 (w6.heap.size) #[.int .i64 n2, .int .i64 d2] := xB_21.below hb22
          have xC_22 : Bx w22 (w8.heap.size) #[.int .i64 n2, .int .i64 d2] := xC_21.below hb22
          have xD_22 : Bx w22 (w11.heap.size) #[.int .i64 n4, .int .i64 d4] := xD_21.below hb22
          have xE_22 : Bx w22 (w11.heap.size + 1) #[.int .i64 m4, .int .i64 e4] := xE_21.below hb22
          have xF_22 : Bx w22 (w13.heap.size) #[.int .i64 n4, .int .i64 d4] := xF_21.below hb22
          have xG_22 : Bx w22 (w13.heap.size + 1) #[.int .i64 m4, .int .i64 e4] := xG_21.below hb22
          clear cA_21 fA_21 zA_21 cB_21 fB_21 zB_21 cC_21 fC_21 zC_21 cD_21 fD_21 zD_21 cE_21 fE_21 zE_21 cF_21 fF_21 zF_21 cG_21 fG_21 zG_21
          obtain ⟨cA_22, fA_22, zA_22⟩ := xA_22.out
          obtain ⟨cB_22, fB_22, zB_22⟩ := xB_22.out
          obtain ⟨cC_22, fC_22, zC_22⟩ := xC_22.out
          obtain ⟨cD_22, fD_22, zD_22⟩ := xD_22.out
          obtain ⟨cE_22, fE_22, zE_22⟩ := xE_22.out
          obtain ⟨cF_22, fF_22, zF_22⟩ := xF_22.out
          obtain ⟨cG_22, fG_22, zG_22⟩ := xG_22.out
          have SC : Hid (Sl w22 (.slice a4 xs4.length k4) xs4) := Lib.hid ((SC.out.below (bl_refl w21)).below hb22)
          have SD : Hid (Sl w22 (.slice a5 xs5.length k5) xs5) := Lib.hid ((SD.out.below (bl_refl w21)).below hb22)
          have SE : Hid (Sl w22 (.slice av6 xs5.length cv6) xs5) := Lib.hid ((SE.out.below (bl_refl w21)).below hb22)
          have SF : Hid (Sl w22 (.slice av7 L7.length cv7) L7) := Lib.hid ((SF.out.below (bl_refl w21)).below hb22)
          have SG : Hid (Sl w22 (.slice av8 L7.length cv8) L7) := Lib.hid ((SG.out.below (bl_refl w21)).below hb22)
          go_wp2_with fail
          refine (f6_selfD _ SF.out SG.out).mono ?_
          rintro e w23 ⟨rfl, hb23⟩
          have B23 : Bl w w23 := bl_call B22 hb23
          have xA_23 : Bx w23 (w1.heap.size) #[.int .i64 n1, .int .i64 d1] := xA_22.below hb23
          have xB_23 : Bx w23 (w6.heap.size) #[.int .i64 n2, .int .i64 d2] := xB_22.below hb23
          have xC_23 : Bx w23 (w8.heap.size) #[.int .i64 n2, .int .i64 d2] := xC_22.below hb23
          have xD_23 : Bx w23 (w11.heap.size) #[.int .i64 n4, .int .i64 d4] := xD_22.below hb23
          have xE_23 : Bx w23 (w11.heap.size + 1) #[.int .i64 m4, .int .i64 e4] := xE_22.below hb23
          have xF_23 : Bx w23 (w13.heap.size) #[.int .i64 n4, .int .i64 d4] := xF_22.below hb23
          have xG_23 : Bx w23 (w13.heap.size + 1) #[.int .i64 m4, .int .i64 e4] := xG_22.below hb23
          clear cA_22 fA_22 zA_22 cB_22 fB_22 zB_22 cC_22 fC_22 zC_22 cD_22 fD_22 zD_22 cE_22 fE_22 zE_22 cF_22 fF_22 zF_22 cG_22 fG_22 zG_22
          obtain ⟨cA_23, fA_23, zA_23⟩ := xA_23.out
          obtain ⟨cB_23, fB_23, zB_23⟩ := xB_23.out
          obtain ⟨cC_23, fC_23, zC_23⟩ := xC_23.out
          obtain ⟨cD_23, fD_23, zD_23⟩ := xD_23.out
          obtain ⟨cE_23, fE_23, zE_23⟩ := xE_23.out
          obtain ⟨cF_23, fF_23, zF_23⟩ := xF_23.out
          obtain ⟨cG_23, fG_23, zG_23⟩ := xG_23.out
          have SC : Hid (Sl w23 (.slice a4 xs4.length k4) xs4) := Lib.hid ((SC.out.below (bl_refl w22)).below hb23)
          have SD : Hid (Sl w23 (.slice a5 xs5.length k5) xs5) := Lib.hid ((SD.out.below (bl_refl w22)).below hb23)
          have SE : Hid (Sl w23 (.slice av6 xs5.length cv6) xs5) := Lib.hid ((SE.out.below (bl_refl w22)).below hb23)
          have SF : Hid (Sl w23 (.slice av7 L7.length cv7) L7) := Lib.hid ((SF.out.below (bl_refl w22)).below hb23)
          have SG : Hid (Sl w23 (.slice av8 L7.length cv8) L7) := Lib.hid ((SG.out.below (bl_refl w22)).below hb23)
          go_wp2_with fail
          go_meet
          exact ⟨by first | rfl | simp, (bl_call (bl_call (bl_call (bl_refl w20) hb21) hb22) hb23)⟩
      · as_aux_lemma =>
          have e7 := HX4.out
          rw [hr6] at e7
          obtain ⟨rfl, e8⟩ := Prod.mk.inj e7
          obtain ⟨rfl, rfl⟩ := Prod.mk.inj e8
          clear e7 e8 hr6
          have hyu : yielded.match_1 (fun _ => Option Bool) (some undef) (fun b => some b) (fun _ => none) = none := rfl
          go_wp2_with fail
          refine (sdtx_eq HT6.out _ SD.out LD.out).mono ?_
          rintro e w21 ⟨rfl, hb21⟩
          have B21 : Bl w w21 := bl_call B20 hb21
          have xA_21 : Bx w21 (w1.heap.size) #[.int .i64 n1, .int .i64 d1] := xA_20.below hb21
          have xB_21 : Bx w21 (w6.heap.size) #[.int .i64 n2, .int .i64 d2] := xB_20.below hb21
          have xC_21 : Bx w21 (w8.heap.size) #[.int .i64 n2, .int .i64 d2] := xC_20.below hb21
          have xD_21 : Bx w21 (w11.heap.size) #[.int .i64 n4, .int .i64 d4] := xD_20.below hb21
          have xE_21 : Bx w21 (w11.heap.size + 1) #[.int .i64 m4, .int .i64 e4] := xE_20.below hb21
          have xF_21 : Bx w21 (w13.heap.size) #[.int .i64 n4, .int .i64 d4] := xF_20.below hb21
          have xG_21 : Bx w21 (w13.heap.size + 1) #[.int .i64 m4, .int .i64 e4] := xG_20.below hb21
          clear cA_20 fA_20 zA_20 cB_20 fB_20 zB_20 cC_20 fC_20 zC_20 cD_20 fD_20 zD_20 cE_20 fE_20 zE_20 cF_20 fF_20 zF_20 cG_20 fG_20 zG_20
          obtain ⟨cA_21, fA_21, zA_21⟩ := xA_21.out
          obtain ⟨cB_21, fB_21, zB_21⟩ := xB_21.out
          obtain ⟨cC_21, fC_21, zC_21⟩ := xC_21.out
          obtain ⟨cD_21, fD_21, zD_21⟩ := xD_21.out
          obtain ⟨cE_21, fE_21, zE_21⟩ := xE_21.out
          obtain ⟨cF_21, fF_21, zF_21⟩ := xF_21.out
          obtain ⟨cG_21, fG_21, zG_21⟩ := xG_21.out
          have SC : Hid (Sl w21 (.slice a4 xs4.length k4) xs4) := Lib.hid ((SC.out.below (bl_refl w20)).below hb21)
          have SD : Hid (Sl w21 (.slice a5 xs5.length k5) xs5) := Lib.hid ((SD.out.below (bl_refl w20)).below hb21)
          have SE : Hid (Sl w21 (.slice av6 ([] : List Int).length cv6) []) := Lib.hid ((SE.out.below (bl_refl w20)).below hb21)
          have SF : Hid (Sl w21 (.slice av7 L7.length cv7) L7) := Lib.hid ((SF.out.below (bl_refl w20)).below hb21)
          have SG : Hid (Sl w21 (.slice av8 L7.length cv8) L7) := Lib.hid ((SG.out.below (bl_refl w20)).below hb21)
          go_wp2_with fail
          refine (f6_selfD _ SF.out SG.out).mono ?_
          rintro e w22 ⟨rfl, hb22⟩
          have B22 : Bl w w22 := bl_call B21 hb22
          have xA_22 : Bx w22 (w1.heap.size) #[.int .i64 n1, .int .i64 d1] := xA_21.below hb22
          have xB_22 : Bx w22 (w6.heap.size) #[.int .i64 n2, .int .i64 d2] := xB_21.below hb22
          have xC_22 : Bx w22 (w8.heap.size) #[.int .i64 n2, .int .i64 d2] := xC_21.below hb22
          have xD_22 : Bx w22 (w11.heap.size) #[.int .i64 n4, .int .i64 d4] := xD_21.below hb22
          have xE_22 : Bx w22 (w11.heap.size + 1) #[.int .i64 m4, .int .i64 e4] := xE_21.below hb22
          have xF_22 : Bx w22 (w13.heap.size) #[.int .i64 n4, .int .i64 d4] := xF_21.below hb22
          have xG_22 : Bx w22 (w13.heap.size + 1) #[.int .i64 m4, .int .i64 e4] := xG_21.below hb22
          clear cA_21 fA_21 zA_21 cB_21 fB_21 zB_21 cC_21 fC_21 zC_21 cD_21 fD_21 zD_21 cE_21 fE_21 zE_21 cF_21 fF_21 zF_21 cG_21 fG_21 zG_21
          obtain ⟨cA_22, fA_22, zA_22⟩ := xA_22.out
          obtain ⟨cB_22, fB_22, zB_22⟩ := xB_22.out
          obtain ⟨cC_22, fC_22, zC_22⟩ := xC_22.out
          obtain ⟨cD_22, fD_22, zD_22⟩ := xD_22.out
          obtain ⟨cE_22, fE_22, zE_22⟩ := xE_22.out
          obtain ⟨cF_22, fF_22, zF_22⟩ := xF_22.out
          obtain ⟨cG_22, fG_22, zG_22⟩ := xG_22.out
          have SC : Hid (Sl w22 (.slice a4 xs4.length k4) xs4) := Lib.hid ((SC.out.below (bl_refl w21)).below hb22)
          have SD : Hid (Sl w22 (.slice a5 xs5.length k5) xs5) := Lib.hid ((SD.out.below (bl_refl w21)).below hb22)
          have SE : Hid (Sl w22 (.slice av6 ([] : List Int).length cv6) []) := Lib.hid ((SE.out.below (bl_refl w21)).below hb22)
          have SF : Hid (Sl w22 (.slice av7 L7.length cv7) L7) := Lib.hid ((SF.out.below (bl_refl w21)).below hb22)
          have SG : Hid (Sl w22 (.slice av8 L7.length cv8) L7) := Lib.hid ((SG.out.below (bl_refl w21)).below hb22)
          go_wp2_with fail
          go_meet
          exact ⟨by first | rfl | simp, (bl_call (bl_call (bl_refl w20) hb21) hb22)⟩
    case rest =>
      obtain ⟨rfl, hcut⟩ := hcut
      obtain ⟨WW, rfl⟩ : ∃ x : World, x = wc := ⟨_, rfl⟩
      have BW : Bl w WW := bl_call B20 hcut
      have SC : Hid (Sl WW (.slice a4 xs4.length k4) xs4) := Lib.hid (SC.out.below hcut)
      have XA : Bx WW (w1.heap.size) #[.int .i64 n1, .int .i64 d1] := xA_20.below hcut
      have XD : Bx WW (w11.heap.size) #[.int .i64 n4, .int .i64 d4] := xD_20.below hcut
      have XE : Bx WW (w11.heap.size + 1) #[.int .i64 m4, .int .i64 e4] := xE_20.below hcut
      (try clear B20); (try clear hb20); (try clear zz20)
      (try clear B19); (try clear hb19); (try clear zz19)
      (try clear B18); (try clear hb18); (try clear zz18)
      (try clear B17); (try clear hb17); (try clear zz17)
      (try clear B16); (try clear hb16); (try clear zz16)
      (try clear B15); (try clear hb15); (try clear zz15)
      (try clear B14); (try clear hb14); (try clear zz14)
      (try clear B13); (try clear hb13); (try clear zz13)
      (try clear B12); (try clear hb12); (try clear zz12)
      (try clear B11); (try clear hb11); (try clear zz11)
      (try clear B10); (try clear hb10); (try clear zz10)
      (try clear B9); (try clear hb9); (try clear zz9)
      (try clear B8); (try clear hb8); (try clear zz8)
      (try clear B7); (try clear hb7); (try clear zz7)
      (try clear B6); (try clear hb6); (try clear zz6)
      (try clear B5); (try clear hb5); (try clear zz5)
      (try clear B4); (try clear hb4); (try clear zz4)
      (try clear B3); (try clear hb3); (try clear zz3)
      (try clear B2); (try clear hb2); (try clear zz2)
      (try clear B1); (try clear hb1); (try clear zz1)
      clear HX2 HX4 HX5 H0 H2 H3 H4 H5 LA LB LD Z6 Z7 HR6 HT6 HE hL hl0
      clear hcut cA_20 fA_20 zA_20 cB_20 fB_20 zB_20 cC_20 fC_20 zC_20 cD_20 fD_20 zD_20 cE_20 fE_20 zE_20 cF_20 fF_20 zF_20 cG_20 fG_20 zG_20 xA_20 xB_20 xC_20 xD_20 xE_20 xF_20 xG_20 SD SE SF SG
      as_aux_lemma =>
        have XA' := Lib.hid XA
        go_upto_if 225 with fail
        go_cut [] (fun wx => Bl WW wx)
        case first =>
          by_cases hc4 : c4 = 0
          · subst hc4
            obtain ⟨hT, fs, x, y, hc, hx, hfl, hxy⟩ := bnd_val HX3.out
            have HTT := Lib.hid hT
            have HC := Lib.hid hc
            have HXX := Lib.hid hx
            have HFL := Lib.hid hfl
            clear hT hc hx hfl
            obtain ⟨cD, fD, zD⟩ := XD.out
            obtain ⟨cE, fE, zE⟩ := XE.out
            go_wp2_with fail
            refine (ivalue_any _ SC.out HTT.out HC.out HXX.out HFL.out).mono ?_
            rintro e w2 ⟨rfl, hb2⟩
            have XV : Bx (w2.alloc (.cells #[.int .i64 x, .int .i64 y] 45)) w2.heap.size #[.int .i64 x, .int .i64 y] := Bx.new (b := w2.heap.size) _ _ _ rfl
            have XD2 := (XD.below hb2).alloc (.cells #[.int .i64 x, .int .i64 y] 45)
            have XE2 := (XE.below hb2).alloc (.cells #[.int .i64 x, .int .i64 y] 45)
            have B2 : Bl WW (w2.alloc (.cells #[.int .i64 x, .int .i64 y] 45)) := bl_alloc hb2 _
            clear cD fD zD cE fE zE
            go_upto_region 22 with fail
            obtain ⟨bV, hbV⟩ : ∃ bV, bV = w2.heap.size := ⟨_, rfl⟩
            rw [← hbV] at XV ⊢
            generalize w2.alloc (.cells #[.int .i64 x, .int .i64 y] 45) = w3 at *
            clear hbV
            obtain ⟨cV, fV, zV⟩ := XV.out
            obtain ⟨cD, fD, zD⟩ := XD2.out
            obtain ⟨cE, fE, zE⟩ := XE2.out
            rcases hxy with ⟨rfl, rfl⟩ | ⟨rfl, rfl⟩
            · go_wp2_with fail
              go_meet
              exact B2
            · by_cases h1 : x = n4
              · subst h1
                by_cases h2 : y = d4
                · subst h2
                  go_wp2_with fail
                  go_meet
                  exact B2
                · have e2 : (y == d4) = false := by simp [h2]
                  clear h2
                  go_wp2_with fail
                  go_meet
                  exact B2
              · have e1 : (x == n4) = false := by simp [h1]
                clear h1
                go_wp2_with fail
                go_meet
                exact B2
          · have e4 : (c4 == 0) = false := by simp [hc4]
            go_wp2_with fail
            go_meet
            exact bl_refl _
        case rest =>
          obtain ⟨W2, rfl⟩ : ∃ x : World, x = wc := ⟨_, rfl⟩
          have B2 : Bl w W2 := bl_call BW hcut
          have XA2 := XA'.out.below hcut
          clear XA XA' XD XE SC hcut
          by_cases hc1 : c1 = 0
          · subst hc1
            by_cases hm : x1 + y1 ≤ 200
            · obtain ⟨s, p, q, L, rfl, rfl, hLn, hdo, u, v, c, hfr, hc⟩ := per_back HX1.out hm
              have HDO := Lib.hid hdo
              have HFR := Lib.hid hfr
              have hw : IntKind.i64.wrap ((s : Int) + (p : Int)) = (s : Int) + (p : Int) := by rw [IntKind.wrap_i64]; omega
              have hg : ¬ 200 < (s : Int) + (p : Int) := by omega
              clear hdo hfr
              obtain ⟨cA, fA, zA⟩ := XA2.out
              go_wp2_with fail
              refine (idof_eq HDO.out _).mono ?_
              rintro e w3 ⟨av, cv, rfl, O3, hb3⟩
              have B3 := bl_call B2 hb3
              have XA3 := XA2.below hb3
              have hsl := O3.sl
              obtain ⟨_, hcv⟩ : ∃ _ : Unit, L.length ≤ cv := ⟨(), by obtain ⟨a9, c9, e9, h9, _⟩ := hsl; injection e9 with _ _ e9; omega⟩
              clear cA fA zA O3 XA2 B2
              have hle : (L.length : Int) = (s : Int) + (p : Int) := by omega
              have hs1 : s ≤ L.length := by omega
              have hsi : (s : Int) ≤ (cv : Int) := by omega
              have hsn : s ≤ cv := by omega
              have hsl1 : (s : Int) ≤ (L.length : Int) := by omega
              have hlb : ((L.length : Int) == (s : Int) + (p : Int)) = true := by simp [hle]
              have T1 := Lib.hid (sl_takeD hsl s hs1)
              obtain ⟨a9, c9, hsl2, hsl3, hT2⟩ := slice_from hsl s hs1
              have T2 := Lib.hid hT2
              have LT := Lib.hid (show (L.take s).length ≤ 1048576 by rw [List.length_take]; omega)
              have LU := Lib.hid (show (L.drop s).length ≤ 1048576 by rw [List.length_drop]; omega)
              have HLE := Lib.hid hle
              clear hT2 hle hLn
              have hAN : w1.heap.size ≠ w3.heap.size := by have := XA3.out.2.2; omega
              have BA : Bl w3 (w3.alloc (.cells #[.int .i64 0, .int .i64 0] 45)).drew := bl_drew (bl_alloc (bl_refl _) _)
              have BD : Bl w3 w3.drew := bl_drew (bl_refl _)
              rcases hc with ⟨rfl, rfl, rfl⟩ | ⟨rfl, rfl, rfl⟩
              · skip
                go_wp2_with fail
                refine wp_region_held_drew (S := fun _ => True) (by kernel_rfl) trivial (fun _ => ?_)
                refine' wpAnyH_take (i := 0) (oi := ⟨some 272, .move _, _, _, _, _⟩) (v := _) rfl (by kernel_rfl) (by kernel_rfl) (by kernel_rfl) (fun _ _ _ h => h) (Or.inl ⟨by rfl, ?_⟩) trivial ?_
                rotate_left
                · (intro wS _; go_simp; try with_reducible rfl)
                try simp only [Act.put, List.setIfInBounds_toArray, List.set_cons_zero, List.set_cons_succ]
                refine' wpAnyH_take (i := 1) (oi := ⟨some 273, .move _, _, _, _, _⟩) (v := _) rfl (by kernel_rfl) (by kernel_rfl) (by kernel_rfl) (fun _ _ _ h => h) (Or.inl ⟨by rfl, ?_⟩) trivial ?_
                rotate_left
                · (intro wS _; go_simp; try with_reducible rfl)
                try simp only [Act.put, List.setIfInBounds_toArray, List.set_cons_zero, List.set_cons_succ]
                refine' wpAnyH_take (i := 2) (oi := ⟨some 274, .move _, _, _, _, _⟩) (v := _) rfl (by kernel_rfl) (by kernel_rfl) (by kernel_rfl) (fun _ _ _ h => h) (Or.inl ⟨by rfl, ?_⟩) trivial ?_
                rotate_left
                · (intro wS _; go_simp; try with_reducible rfl)
                try simp only [Act.put, List.setIfInBounds_toArray, List.set_cons_zero, List.set_cons_succ]
                refine' wpAnyH_take (i := 3) (oi := ⟨some 275, .move _, _, _, _, _⟩) (v := _) rfl (by kernel_rfl) (by kernel_rfl) (by kernel_rfl) (fun _ _ _ h => h) (Or.inl ⟨by rfl, ?_⟩) trivial ?_
                rotate_left
                · (intro wS _; go_simp; try with_reducible rfl)
                try simp only [Act.put, List.setIfInBounds_toArray, List.set_cons_zero, List.set_cons_succ]
                refine' wpAnyH_take (i := 5) (oi := ⟨some 277, .move _, _, _, _, _⟩) (v := _) rfl (by kernel_rfl) (by kernel_rfl) (by kernel_rfl) (fun _ _ _ h => h) (Or.inl ⟨by rfl, ?_⟩) trivial ?_
                rotate_left
                · (intro wS _; go_simp; try with_reducible rfl)
                try simp only [Act.put, List.setIfInBounds_toArray, List.set_cons_zero, List.set_cons_succ]
                refine' wpAnyH_take (i := 6) (oi := ⟨some 278, .move _, _, _, _, _⟩) (v := _) rfl (by kernel_rfl) (by kernel_rfl) (by kernel_rfl) (fun _ _ _ h => h) (Or.inl ⟨by rfl, ?_⟩) trivial ?_
                rotate_left
                · (intro wS _; go_simp; try with_reducible rfl)
                try simp only [Act.put, List.setIfInBounds_toArray, List.set_cons_zero, List.set_cons_succ]
                refine' wpAnyH_take (i := 4) (oi := ⟨some 276, .slice _ _ _ _ _, _, _, _, _⟩) (v := _) rfl (by kernel_rfl) (by kernel_rfl) (by kernel_rfl) (fun _ _ _ h => h) (Or.inl ⟨by rfl, ?_⟩) trivial ?_
                rotate_left
                · (intro wS _; go_simp; try with_reducible rfl)
                try simp only [Act.put, List.setIfInBounds_toArray, List.set_cons_zero, List.set_cons_succ]
                refine' wpAnyH_take (i := 7) (oi := ⟨some 279, .slice _ _ _ _ _, _, _, _, _⟩) (v := _) rfl (by kernel_rfl) (by kernel_rfl) (by kernel_rfl) (fun _ _ _ h => h) (Or.inl ⟨by rfl, ?_⟩) trivial ?_
                rotate_left
                · (intro wS _; go_simp; try with_reducible rfl)
                try simp only [Act.put, List.setIfInBounds_toArray, List.set_cons_zero, List.set_cons_succ]
                refine wpAnyH_ready (rs := [8, 12]) (by kernel_rfl) (by simp) ?_
                refine AllReadyH.cons (o := ⟨some 280, .call _, _, _, _, _⟩) rfl (fun K hK => ?_) ?_
                · as_aux_lemma =>
                    go_simp
                    refine (ifrd_eq HFR.out _ (T1.out.below BD) LT.out (T2.out.below BD) LU.out).mono ?_
                    rintro e w5 ⟨rfl, hb5⟩
                    have B5 := bl_call (bl_drew B3) hb5
                    have XA5 := XA3.drew.below hb5
                    go_wp2_with fail
                    refine hK.out _ _ trivial (fun _ => ?_)
                    clear hK K
                    try simp only [Act.put, List.setIfInBounds_toArray, List.set_cons_zero, List.set_cons_succ]
                    refine' wpAnyH_take (i := 9) (oi := ⟨some 271, .move _, _, _, _, _⟩) (v := _) rfl (by kernel_rfl) (by kernel_rfl) (by kernel_rfl) (fun _ _ _ h => h) (Or.inl ⟨by rfl, ?_⟩) trivial ?_
                    rotate_left
                    · (intro wS _; go_simp; try with_reducible rfl)
                    try simp only [Act.put, List.setIfInBounds_toArray, List.set_cons_zero, List.set_cons_succ]
                    refine' wpAnyH_take (i := 10) (oi := ⟨some 281, .extract _ _, _, _, _, _⟩) (v := _) rfl (by kernel_rfl) (by kernel_rfl) (by kernel_rfl) (fun _ _ _ h => h) (Or.inl ⟨by rfl, ?_⟩) trivial ?_
                    rotate_left
                    · (intro wS _; go_simp; try with_reducible rfl)
                    try simp only [Act.put, List.setIfInBounds_toArray, List.set_cons_zero, List.set_cons_succ]
                    refine' wpAnyH_take (i := 11) (oi := ⟨some 282, .extract _ _, _, _, _, _⟩) (v := _) rfl (by kernel_rfl) (by kernel_rfl) (by kernel_rfl) (fun _ _ _ h => h) (Or.inl ⟨by rfl, ?_⟩) trivial ?_
                    rotate_left
                    · (intro wS _; go_simp; try with_reducible rfl)
                    try simp only [Act.put, List.setIfInBounds_toArray, List.set_cons_zero, List.set_cons_succ]
                    refine wpAnyH_ready (rs := [12]) (by kernel_rfl) (by simp) ?_
                    refine AllReadyH.cons (o := ⟨some 46, .alloc _, _, _, _, _⟩) rfl (fun K hK => ?_) AllReadyH.nil
                    go_simp
                    refine hK.out _ _ trivial (fun _ => ?_)
                    clear hK K
                    try simp only [Act.put, List.setIfInBounds_toArray, List.set_cons_zero, List.set_cons_succ]
                    have XA6 := XA5.alloc (.cells #[.int .i64 0, .int .i64 0] 45)
                    have XN6 := Bx.new (b := w5.heap.size) w5 #[.int .i64 0, .int .i64 0] 45 rfl
                    have B6 := bl_alloc B5 (.cells #[.int .i64 0, .int .i64 0] 45)
                    have hNE : w1.heap.size ≠ w5.heap.size := by have := XA5.out.2.2; omega
                    have hz5 := B5.size
                    obtain ⟨bN, hbN⟩ : ∃ b, w5.heap.size = b := ⟨_, rfl⟩
                    obtain ⟨w6, hw6⟩ : ∃ x, w5.alloc (.cells #[.int .i64 0, .int .i64 0] 45) = x := ⟨_, rfl⟩
                    rw [hw6] at XA6 XN6 B6 ⊢
                    rw [hbN] at XN6 hNE hz5 ⊢
                    clear hw6 hbN XA5
                    obtain ⟨cA, fA, zA⟩ := XA6.out
                    obtain ⟨cN, fN, zN⟩ := XN6.out
                    refine wpAnyH_ready (rs := [13]) (by kernel_rfl) (by simp) ?_
                    refine AllReadyH.cons (o := ⟨none, .store _ _ _, _, _, _, _⟩) rfl (fun K hK => ?_) AllReadyH.nil
                    go_simp
                    refine hK.out _ _ trivial (fun _ => ?_)
                    clear hK K
                    try simp only [Act.put, List.setIfInBounds_toArray, List.set_cons_zero, List.set_cons_succ]
                    refine' wpAnyH_take (i := 14) (oi := ⟨some 47, .assign _, _, _, _, _⟩) (v := _) rfl (by kernel_rfl) (by kernel_rfl) (by kernel_rfl) (fun _ _ _ h => h) (Or.inl ⟨by rfl, ?_⟩) trivial ?_
                    rotate_left
                    · (intro wS _; go_simp; try with_reducible rfl)
                    try simp only [Act.put, List.setIfInBounds_toArray, List.set_cons_zero, List.set_cons_succ]
                    refine wpAnyH_done (by kernel_rfl) ?_ _
                    go_wp2
                    go_ret
                    exact ⟨by first | rfl | simp, by have hzz := B3.size; exact bl_set (bl_set B6 (by first | omega | (simp; done) | (simp; omega)) _) (by first | omega | (simp; done) | (simp; omega)) _⟩
                · refine AllReadyH.cons (o := ⟨some 46, .alloc _, _, _, _, _⟩) rfl (fun K hK => ?_) AllReadyH.nil
                  as_aux_lemma =>
                    go_simp
                    refine hK.out _ _ trivial (fun _ => ?_)
                    clear hK K
                    try simp only [Act.put, List.setIfInBounds_toArray, List.set_cons_zero, List.set_cons_succ]
                    refine wpAnyH_ready (rs := [8]) (by kernel_rfl) (by simp) ?_
                    refine AllReadyH.cons (o := ⟨some 280, .call _, _, _, _, _⟩) rfl (fun K hK => ?_) AllReadyH.nil
                    go_simp
                    refine (ifrd_eq HFR.out _ (T1.out.below BA) LT.out (T2.out.below BA) LU.out).mono ?_
                    rintro e w5 ⟨rfl, hb5⟩
                    have B5 := bl_call (bl_drew (bl_alloc B3 _)) hb5
                    have XA5 := (XA3.alloc _).drew.below hb5
                    have XN5 := (Bx.new (b := w3.heap.size) w3 #[.int .i64 0, .int .i64 0] 45 rfl).drew.below hb5
                    go_wp2_with fail
                    refine hK.out _ _ trivial (fun _ => ?_)
                    clear hK K
                    try simp only [Act.put, List.setIfInBounds_toArray, List.set_cons_zero, List.set_cons_succ]
                    refine' wpAnyH_take (i := 9) (oi := ⟨some 271, .move _, _, _, _, _⟩) (v := _) rfl (by kernel_rfl) (by kernel_rfl) (by kernel_rfl) (fun _ _ _ h => h) (Or.inl ⟨by rfl, ?_⟩) trivial ?_
                    rotate_left
                    · (intro wS _; go_simp; try with_reducible rfl)
                    try simp only [Act.put, List.setIfInBounds_toArray, List.set_cons_zero, List.set_cons_succ]
                    refine' wpAnyH_take (i := 10) (oi := ⟨some 281, .extract _ _, _, _, _, _⟩) (v := _) rfl (by kernel_rfl) (by kernel_rfl) (by kernel_rfl) (fun _ _ _ h => h) (Or.inl ⟨by rfl, ?_⟩) trivial ?_
                    rotate_left
                    · (intro wS _; go_simp; try with_reducible rfl)
                    try simp only [Act.put, List.setIfInBounds_toArray, List.set_cons_zero, List.set_cons_succ]
                    refine' wpAnyH_take (i := 11) (oi := ⟨some 282, .extract _ _, _, _, _, _⟩) (v := _) rfl (by kernel_rfl) (by kernel_rfl) (by kernel_rfl) (fun _ _ _ h => h) (Or.inl ⟨by rfl, ?_⟩) trivial ?_
                    rotate_left
                    · (intro wS _; go_simp; try with_reducible rfl)
                    try simp only [Act.put, List.setIfInBounds_toArray, List.set_cons_zero, List.set_cons_succ]
                    obtain ⟨cA, fA, zA⟩ := XA5.out
                    obtain ⟨cN, fN, zN⟩ := XN5.out
                    refine wpAnyH_ready (rs := [13]) (by kernel_rfl) (by simp) ?_
                    refine AllReadyH.cons (o := ⟨none, .store _ _ _, _, _, _, _⟩) rfl (fun K hK => ?_) AllReadyH.nil
                    go_simp
                    refine hK.out _ _ trivial (fun _ => ?_)
                    clear hK K
                    try simp only [Act.put, List.setIfInBounds_toArray, List.set_cons_zero, List.set_cons_succ]
                    refine' wpAnyH_take (i := 14) (oi := ⟨some 47, .assign _, _, _, _, _⟩) (v := _) rfl (by kernel_rfl) (by kernel_rfl) (by kernel_rfl) (fun _ _ _ h => h) (Or.inl ⟨by rfl, ?_⟩) trivial ?_
                    rotate_left
                    · (intro wS _; go_simp; try with_reducible rfl)
                    try simp only [Act.put, List.setIfInBounds_toArray, List.set_cons_zero, List.set_cons_succ]
                    refine wpAnyH_done (by kernel_rfl) ?_ _
                    go_wp2
                    go_ret
                    exact ⟨by first | rfl | simp, by have hzz := B3.size; exact bl_set (bl_set B5 (by first | omega | (simp; done) | (simp; omega)) _) (by first | omega | (simp; done) | (simp; omega)) _⟩
              · skip
                go_wp2_with fail
                refine wp_region_held_drew (S := fun _ => True) (by kernel_rfl) trivial (fun _ => ?_)
                refine' wpAnyH_take (i := 0) (oi := ⟨some 272, .move _, _, _, _, _⟩) (v := _) rfl (by kernel_rfl) (by kernel_rfl) (by kernel_rfl) (fun _ _ _ h => h) (Or.inl ⟨by rfl, ?_⟩) trivial ?_
                rotate_left
                · (intro wS _; go_simp; try with_reducible rfl)
                try simp only [Act.put, List.setIfInBounds_toArray, List.set_cons_zero, List.set_cons_succ]
                refine' wpAnyH_take (i := 1) (oi := ⟨some 273, .move _, _, _, _, _⟩) (v := _) rfl (by kernel_rfl) (by kernel_rfl) (by kernel_rfl) (fun _ _ _ h => h) (Or.inl ⟨by rfl, ?_⟩) trivial ?_
                rotate_left
                · (intro wS _; go_simp; try with_reducible rfl)
                try simp only [Act.put, List.setIfInBounds_toArray, List.set_cons_zero, List.set_cons_succ]
                refine' wpAnyH_take (i := 2) (oi := ⟨some 274, .move _, _, _, _, _⟩) (v := _) rfl (by kernel_rfl) (by kernel_rfl) (by kernel_rfl) (fun _ _ _ h => h) (Or.inl ⟨by rfl, ?_⟩) trivial ?_
                rotate_left
                · (intro wS _; go_simp; try with_reducible rfl)
                try simp only [Act.put, List.setIfInBounds_toArray, List.set_cons_zero, List.set_cons_succ]
                refine' wpAnyH_take (i := 3) (oi := ⟨some 275, .move _, _, _, _, _⟩) (v := _) rfl (by kernel_rfl) (by kernel_rfl) (by kernel_rfl) (fun _ _ _ h => h) (Or.inl ⟨by rfl, ?_⟩) trivial ?_
                rotate_left
                · (intro wS _; go_simp; try with_reducible rfl)
                try simp only [Act.put, List.setIfInBounds_toArray, List.set_cons_zero, List.set_cons_succ]
                refine' wpAnyH_take (i := 5) (oi := ⟨some 277, .move _, _, _, _, _⟩) (v := _) rfl (by kernel_rfl) (by kernel_rfl) (by kernel_rfl) (fun _ _ _ h => h) (Or.inl ⟨by rfl, ?_⟩) trivial ?_
                rotate_left
                · (intro wS _; go_simp; try with_reducible rfl)
                try simp only [Act.put, List.setIfInBounds_toArray, List.set_cons_zero, List.set_cons_succ]
                refine' wpAnyH_take (i := 6) (oi := ⟨some 278, .move _, _, _, _, _⟩) (v := _) rfl (by kernel_rfl) (by kernel_rfl) (by kernel_rfl) (fun _ _ _ h => h) (Or.inl ⟨by rfl, ?_⟩) trivial ?_
                rotate_left
                · (intro wS _; go_simp; try with_reducible rfl)
                try simp only [Act.put, List.setIfInBounds_toArray, List.set_cons_zero, List.set_cons_succ]
                refine' wpAnyH_take (i := 4) (oi := ⟨some 276, .slice _ _ _ _ _, _, _, _, _⟩) (v := _) rfl (by kernel_rfl) (by kernel_rfl) (by kernel_rfl) (fun _ _ _ h => h) (Or.inl ⟨by rfl, ?_⟩) trivial ?_
                rotate_left
                · (intro wS _; go_simp; try with_reducible rfl)
                try simp only [Act.put, List.setIfInBounds_toArray, List.set_cons_zero, List.set_cons_succ]
                refine' wpAnyH_take (i := 7) (oi := ⟨some 279, .slice _ _ _ _ _, _, _, _, _⟩) (v := _) rfl (by kernel_rfl) (by kernel_rfl) (by kernel_rfl) (fun _ _ _ h => h) (Or.inl ⟨by rfl, ?_⟩) trivial ?_
                rotate_left
                · (intro wS _; go_simp; try with_reducible rfl)
                try simp only [Act.put, List.setIfInBounds_toArray, List.set_cons_zero, List.set_cons_succ]
                refine wpAnyH_ready (rs := [8, 12]) (by kernel_rfl) (by simp) ?_
                refine AllReadyH.cons (o := ⟨some 280, .call _, _, _, _, _⟩) rfl (fun K hK => ?_) ?_
                · as_aux_lemma =>
                    go_simp
                    refine (ifrd_eq HFR.out _ (T1.out.below BD) LT.out (T2.out.below BD) LU.out).mono ?_
                    rintro e w5 ⟨rfl, hb5⟩
                    have B5 := bl_call (bl_drew B3) hb5
                    have XA5 := XA3.drew.below hb5
                    go_wp2_with fail
                    refine hK.out _ _ trivial (fun _ => ?_)
                    clear hK K
                    try simp only [Act.put, List.setIfInBounds_toArray, List.set_cons_zero, List.set_cons_succ]
                    refine' wpAnyH_take (i := 9) (oi := ⟨some 271, .move _, _, _, _, _⟩) (v := _) rfl (by kernel_rfl) (by kernel_rfl) (by kernel_rfl) (fun _ _ _ h => h) (Or.inl ⟨by rfl, ?_⟩) trivial ?_
                    rotate_left
                    · (intro wS _; go_simp; try with_reducible rfl)
                    try simp only [Act.put, List.setIfInBounds_toArray, List.set_cons_zero, List.set_cons_succ]
                    refine' wpAnyH_take (i := 10) (oi := ⟨some 281, .extract _ _, _, _, _, _⟩) (v := _) rfl (by kernel_rfl) (by kernel_rfl) (by kernel_rfl) (fun _ _ _ h => h) (Or.inl ⟨by rfl, ?_⟩) trivial ?_
                    rotate_left
                    · (intro wS _; go_simp; try with_reducible rfl)
                    try simp only [Act.put, List.setIfInBounds_toArray, List.set_cons_zero, List.set_cons_succ]
                    refine' wpAnyH_take (i := 11) (oi := ⟨some 282, .extract _ _, _, _, _, _⟩) (v := _) rfl (by kernel_rfl) (by kernel_rfl) (by kernel_rfl) (fun _ _ _ h => h) (Or.inl ⟨by rfl, ?_⟩) trivial ?_
                    rotate_left
                    · (intro wS _; go_simp; try with_reducible rfl)
                    try simp only [Act.put, List.setIfInBounds_toArray, List.set_cons_zero, List.set_cons_succ]
                    refine wpAnyH_ready (rs := [12]) (by kernel_rfl) (by simp) ?_
                    refine AllReadyH.cons (o := ⟨some 46, .alloc _, _, _, _, _⟩) rfl (fun K hK => ?_) AllReadyH.nil
                    go_simp
                    refine hK.out _ _ trivial (fun _ => ?_)
                    clear hK K
                    try simp only [Act.put, List.setIfInBounds_toArray, List.set_cons_zero, List.set_cons_succ]
                    have XA6 := XA5.alloc (.cells #[.int .i64 0, .int .i64 0] 45)
                    have XN6 := Bx.new (b := w5.heap.size) w5 #[.int .i64 0, .int .i64 0] 45 rfl
                    have B6 := bl_alloc B5 (.cells #[.int .i64 0, .int .i64 0] 45)
                    have hNE : w1.heap.size ≠ w5.heap.size := by have := XA5.out.2.2; omega
                    have hz5 := B5.size
                    obtain ⟨bN, hbN⟩ : ∃ b, w5.heap.size = b := ⟨_, rfl⟩
                    obtain ⟨w6, hw6⟩ : ∃ x, w5.alloc (.cells #[.int .i64 0, .int .i64 0] 45) = x := ⟨_, rfl⟩
                    rw [hw6] at XA6 XN6 B6 ⊢
                    rw [hbN] at XN6 hNE hz5 ⊢
                    clear hw6 hbN XA5
                    obtain ⟨cA, fA, zA⟩ := XA6.out
                    obtain ⟨cN, fN, zN⟩ := XN6.out
                    refine wpAnyH_ready (rs := [13]) (by kernel_rfl) (by simp) ?_
                    refine AllReadyH.cons (o := ⟨none, .store _ _ _, _, _, _, _⟩) rfl (fun K hK => ?_) AllReadyH.nil
                    go_simp
                    refine hK.out _ _ trivial (fun _ => ?_)
                    clear hK K
                    try simp only [Act.put, List.setIfInBounds_toArray, List.set_cons_zero, List.set_cons_succ]
                    refine' wpAnyH_take (i := 14) (oi := ⟨some 47, .assign _, _, _, _, _⟩) (v := _) rfl (by kernel_rfl) (by kernel_rfl) (by kernel_rfl) (fun _ _ _ h => h) (Or.inl ⟨by rfl, ?_⟩) trivial ?_
                    rotate_left
                    · (intro wS _; go_simp; try with_reducible rfl)
                    try simp only [Act.put, List.setIfInBounds_toArray, List.set_cons_zero, List.set_cons_succ]
                    refine wpAnyH_done (by kernel_rfl) ?_ _
                    go_wp2
                    go_ret
                    exact ⟨by first | rfl | simp, by have hzz := B3.size; exact bl_set (bl_set B6 (by first | omega | (simp; done) | (simp; omega)) _) (by first | omega | (simp; done) | (simp; omega)) _⟩
                · refine AllReadyH.cons (o := ⟨some 46, .alloc _, _, _, _, _⟩) rfl (fun K hK => ?_) AllReadyH.nil
                  as_aux_lemma =>
                    go_simp
                    refine hK.out _ _ trivial (fun _ => ?_)
                    clear hK K
                    try simp only [Act.put, List.setIfInBounds_toArray, List.set_cons_zero, List.set_cons_succ]
                    refine wpAnyH_ready (rs := [8]) (by kernel_rfl) (by simp) ?_
                    refine AllReadyH.cons (o := ⟨some 280, .call _, _, _, _, _⟩) rfl (fun K hK => ?_) AllReadyH.nil
                    go_simp
                    refine (ifrd_eq HFR.out _ (T1.out.below BA) LT.out (T2.out.below BA) LU.out).mono ?_
                    rintro e w5 ⟨rfl, hb5⟩
                    have B5 := bl_call (bl_drew (bl_alloc B3 _)) hb5
                    have XA5 := (XA3.alloc _).drew.below hb5
                    have XN5 := (Bx.new (b := w3.heap.size) w3 #[.int .i64 0, .int .i64 0] 45 rfl).drew.below hb5
                    go_wp2_with fail
                    refine hK.out _ _ trivial (fun _ => ?_)
                    clear hK K
                    try simp only [Act.put, List.setIfInBounds_toArray, List.set_cons_zero, List.set_cons_succ]
                    refine' wpAnyH_take (i := 9) (oi := ⟨some 271, .move _, _, _, _, _⟩) (v := _) rfl (by kernel_rfl) (by kernel_rfl) (by kernel_rfl) (fun _ _ _ h => h) (Or.inl ⟨by rfl, ?_⟩) trivial ?_
                    rotate_left
                    · (intro wS _; go_simp; try with_reducible rfl)
                    try simp only [Act.put, List.setIfInBounds_toArray, List.set_cons_zero, List.set_cons_succ]
                    refine' wpAnyH_take (i := 10) (oi := ⟨some 281, .extract _ _, _, _, _, _⟩) (v := _) rfl (by kernel_rfl) (by kernel_rfl) (by kernel_rfl) (fun _ _ _ h => h) (Or.inl ⟨by rfl, ?_⟩) trivial ?_
                    rotate_left
                    · (intro wS _; go_simp; try with_reducible rfl)
                    try simp only [Act.put, List.setIfInBounds_toArray, List.set_cons_zero, List.set_cons_succ]
                    refine' wpAnyH_take (i := 11) (oi := ⟨some 282, .extract _ _, _, _, _, _⟩) (v := _) rfl (by kernel_rfl) (by kernel_rfl) (by kernel_rfl) (fun _ _ _ h => h) (Or.inl ⟨by rfl, ?_⟩) trivial ?_
                    rotate_left
                    · (intro wS _; go_simp; try with_reducible rfl)
                    try simp only [Act.put, List.setIfInBounds_toArray, List.set_cons_zero, List.set_cons_succ]
                    obtain ⟨cA, fA, zA⟩ := XA5.out
                    obtain ⟨cN, fN, zN⟩ := XN5.out
                    refine wpAnyH_ready (rs := [13]) (by kernel_rfl) (by simp) ?_
                    refine AllReadyH.cons (o := ⟨none, .store _ _ _, _, _, _, _⟩) rfl (fun K hK => ?_) AllReadyH.nil
                    go_simp
                    refine hK.out _ _ trivial (fun _ => ?_)
                    clear hK K
                    try simp only [Act.put, List.setIfInBounds_toArray, List.set_cons_zero, List.set_cons_succ]
                    refine' wpAnyH_take (i := 14) (oi := ⟨some 47, .assign _, _, _, _, _⟩) (v := _) rfl (by kernel_rfl) (by kernel_rfl) (by kernel_rfl) (fun _ _ _ h => h) (Or.inl ⟨by rfl, ?_⟩) trivial ?_
                    rotate_left
                    · (intro wS _; go_simp; try with_reducible rfl)
                    try simp only [Act.put, List.setIfInBounds_toArray, List.set_cons_zero, List.set_cons_succ]
                    refine wpAnyH_done (by kernel_rfl) ?_ _
                    go_wp2
                    go_ret
                    exact ⟨by first | rfl | simp, by have hzz := B3.size; exact bl_set (bl_set B5 (by first | omega | (simp; done) | (simp; omega)) _) (by first | omega | (simp; done) | (simp; omega)) _⟩
            · have hbb := per_bd HX1.out
              have hw : IntKind.i64.wrap (x1 + y1) = x1 + y1 := by rw [IntKind.wrap_i64]; omega
              have hg : 200 < x1 + y1 := by omega
              go_wp2
              go_ret
              exact ⟨rfl, B2⟩
          · have e1 : (c1 == 0) = false := by simp [hc1]
            go_wp2
            go_ret
            exact ⟨rfl, B2⟩

end Go.Proofs.YtndblondleclpaaGreatDoor
