/- Some of the texts of this claim, joined in one file: FirstT, FirstL. -/
import Derived.Test.YtgkelemfbmmgnaaGreatMSv13
import Derived.Test.YtgkelemfbmmgnaaGreatMSv7
import Derived.Test.YtgkelemfbmmgnaaGreatMSv12
/- The first terms of a source: the program and the reference. Each theorem names its conditions. -/
namespace Go.Proofs.YtgkelemfbmmgnaaGreat
open Go.RowKit
set_option linter.unusedVariables false
set_option linter.unusedSimpArgs false

/-- At most n terms from place k on. -/
def firstG (s : Src) : Nat → Nat → List Int
  | 0, _ => []
  | n + 1, k => if (termP s k).2 then (termP s k).1 :: firstG s n (k + 1) else []
/-- The first terms. -/
def firstL (s : Src) (n : Nat) : List Int := firstG s n 0
theorem firstG_no {s : Src} {n k : Nat} {x : Int} (h : termP s k = (x, false)) : firstG s n k = [] := by
  cases n with
  | zero => rfl
  | succ n => rw [firstG, h]; rfl
theorem firstG_yes {s : Src} {M k : Nat} {x : Int} {xs T : List Int} (h : termP s k = (x, true)) (hk : k < M) (e : xs ++ firstG s (M - k) k = T) : (xs ++ [x]) ++ firstG s (M - (k + 1)) (k + 1) = T := by
  rw [show M - k = (M - (k + 1)) + 1 by omega, firstG, h] at e
  rw [← e]
  simp
theorem firstG_len (s : Src) (n : Nat) : ∀ k, (firstG s n k).length ≤ n := by
  induction n with
  | zero => intro k; simp [firstG]
  | succ n ih =>
    intro k
    rw [firstG]
    split
    · simp [ih]
    · simp
theorem termP_bd {s : Src} (ok : OkSrc s) (k : Nat) (hk : k ≤ 1000000) : -1000000000 ≤ (termP s k).1 ∧ (termP s k).1 ≤ 1000001000000 := by
  unfold termP
  split
  · rename_i h
    have e : s.H[k]? = some s.H[k] := List.getElem?_eq_getElem h
    have := ok.hd k _ e
    unfold lowAt at this
    simp [e]
    split at this <;> omega
  · split
    · simp
    · rename_i h h2
      have hm : (k - s.H.length) % s.P.length < s.P.length := Nat.mod_lt _ (by omega)
      have hm2 : (k - s.H.length) % s.P.length < s.G.length := by rw [ok.gp]; exact hm
      have e1 : s.P[(k - s.H.length) % s.P.length]? = some s.P[(k - s.H.length) % s.P.length] := List.getElem?_eq_getElem hm
      have e2 : s.G[(k - s.H.length) % s.P.length]? = some s.G[(k - s.H.length) % s.P.length] := List.getElem?_eq_getElem hm2
      have b1 := ok.per _ _ e1
      have b2 := ok.gr _ _ e2
      have hq : (k - s.H.length) / s.P.length ≤ k := Nat.le_trans (Nat.div_le_self _ _) (by omega)
      simp only [List.getD_eq_getElem?_getD, e1, e2, Option.getD_some]
      generalize (k - s.H.length) / s.P.length = Q at *
      have hp := prod_bd (Q : Int) s.G[(k - s.H.length) % s.P.length] 1000000 1000000 (by omega) (by omega) b2.1 b2.2
      omega
theorem iterm_eqF {h p g : Value} {s : Src} {k : Nat} {x : Int} {o : Bool} (he : termP s k = (x, o)) (w : World) (ha : SlS w h p g s) (ok : OkPer s) (h1 : k ≤ 1000000) :
    Calls Tryz.prog 47 #[.agg #[h, p, g], .int .i64 k] w fun e w' => e = .returned (.tuple #[.int .i64 x, .bool o]) ∧ Bl w w' := by
  have := iterm_any h p g s k w ha ok (by omega) (by omega)
  rw [Int.toNat_natCast, he] at this
  exact this
theorem sterm_eqT {h p g : Value} {s : Src} {k : Nat} {x : Int} {o : Bool} (he : termP s k = (x, o)) (w : World) (b : Nat) (ha : SlS w h p g s) (hx : Bx w b #[h, p, g]) (ok : OkPer s) (h1 : k ≤ 1000000) :
    Calls Tryz.prog 53 #[.pointer (some ⟨b, 0, none⟩), .int .i64 k] w fun e w' => e = .returned (.tuple #[.int .i64 x, .bool o]) ∧ Bl w w' := by
  have := sterm_any h p g s k w b ha hx ok (by omega) (by omega)
  rw [Int.toNat_natCast, he] at this
  exact this
theorem lsizeB (a : Option Addr) (n c : Nat) (w : World) (hn : n ≤ 9223372036854775807) : Calls Tryz.prog 40 #[.slice a n c] w fun e w' => e = .returned (.int .i64 n) ∧ Bl w w' :=
  (lsize_any a n c w hn).mono (by rintro e w' ⟨h1, rfl⟩; exact ⟨h1, bl_refl _⟩)
theorem Bx.grownApart {w w' : World} {b : Nat} {cs : Array Value} {row : Option Nat} (h : Bx w b cs) (hg : w.grownBy w' row) (hn : row ≠ some b) : Bx w' b cs := by
  have hl := h.out.2.2
  obtain ⟨t, h⟩ := h
  exact ⟨t, (hg.block b hl (fun e => hn e.symm)).trans h⟩

set_option maxRecDepth 100000 in
set_option maxHeartbeats 3200000 in
theorem firstI_any (h p g : Value) (s : Src) (M : Nat) (w : World) (hs : SlS w h p g s) (ok : OkSrc s) (hM : M ≤ 1000) :
    Calls Tryz.prog 39 #[.agg #[h, p, g], .int .i64 M] w fun e w' => ∃ a c, e = .returned (.slice a (firstL s M).length c) ∧ Own w' w.heap.size (.slice a (firstL s M).length c) (firstL s M) ∧ Bl w w' := by
  obtain ⟨T, hT⟩ : ∃ T, T = firstL s M := ⟨_, rfl⟩
  have hl := Lib.hid (show T.length ≤ M by rw [hT]; exact firstG_len s M 0)
  rw [← hT]
  have HT := Lib.hid hT
  clear hT
  have HS := Lib.hid hs
  clear hs
  go_enter Tryz.func39, Tryz.ntmps39
  go_wp2_with fail
  have B1 : Bl w (w.alloc (.cells #[h, p, g] 29)) := (bl_alloc (bl_refl _) _)
  have xF_1 : Bx (w.alloc (.cells #[h, p, g] 29)) (w.heap.size) #[h, p, g] := (Bx.new (b := w.heap.size) _ #[h, p, g] 29 (by first | rfl | simp))
  have zz1 : w.heap.size + 1 ≤ (w.alloc (.cells #[h, p, g] 29)).heap.size := (by simp)
  generalize (w.alloc (.cells #[h, p, g] 29)) = w1 at *
  obtain ⟨cF_1, fF_1, zF_1⟩ := xF_1.out
  go_loopg [5, 6, 7] M (fun n s5 s6 s7 wr => ∃ (xs : List Int) (a : Option Addr) (c : Nat), s5 = .slice a xs.length c ∧ Own wr w1.heap.size (.slice a xs.length c) xs ∧ Hid (xs ++ firstG s (M - xs.length) xs.length = T) ∧ n + xs.length = M ∧ Bx wr (w.heap.size) #[h, p, g] ∧ Bl w1 wr)
  case atStart =>
    exact ⟨[], none, 0, rfl, Own.nil _ _, Lib.hid (by rw [HT.out]; rfl), by simp, xF_1, bl_refl _⟩
  case round =>
    rcases hrel with ⟨xs, a, c, rfl, ho, hx, hn, yF, Bq⟩
    have Br : Bl w wr := bl_call B1 Bq
    have HO := Lib.hid ho
    clear ho cF_1 fF_1 zF_1
    obtain ⟨cF, fF, zF⟩ := yF.out
    rcases Nat.lt_or_ge xs.length M with hk | hk
    ·
      obtain ⟨⟨x, o⟩, hx1⟩ : ∃ z, termP s xs.length = z := ⟨_, rfl⟩
      have hb := termP_bd ok xs.length (by omega)
      rw [hx1] at hb
      simp only [] at hb
      have HX1 := Lib.hid hx1
      clear hx1
      go_wp2_with (go_at_call 40; refine (lsize_any _ _ _ _ (by omega)).mono ?_; rintro e w9 ⟨rfl, rfl⟩)
      go_region_held3 (fun w' => w'.cell? ⟨w.heap.size, 0, none⟩ = some (h) ∧ w'.cell? ⟨w.heap.size, 1, none⟩ = some (p) ∧ w'.cell? ⟨w.heap.size, 2, none⟩ = some (g)) (first | (simp [*]; done) | (go_simp; done) | go_keep)
        (first | (go_at_call 40; go_must (refine (lsizeB _ _ _ _ (by omega)).mono ?_; rintro e wr1 ⟨rfl, hbr1⟩; have Br1 : Bl w wr1 := bl_call (bl_drew Br) hbr1; have xF_r1 : Bx wr1 (w.heap.size) #[h, p, g] := yF.drew.below hbr1; clear cF fF zF; obtain ⟨cF_r1, fF_r1, zF_r1⟩ := xF_r1.out)) | (go_at_call 47; go_must (refine (iterm_eqF HX1.out _ (HS.out.below (bl_call (bl_drew Br) hbr1)) ok.okPer (by omega)).mono ?_; rintro e wr2 ⟨rfl, hbr2⟩; have Br2 : Bl w wr2 := bl_call Br1 hbr2; have xF_r2 : Bx wr2 (w.heap.size) #[h, p, g] := xF_r1.below hbr2; clear cF_r1 fF_r1 zF_r1; obtain ⟨cF_r2, fF_r2, zF_r2⟩ := xF_r2.out)))
      cases o with
      | false =>
        have HX := Lib.hid (show xs = T by have := hx.out; rwa [firstG_no HX1.out, List.append_nil] at this)
        have HO1 := Lib.hid ((HO.out.drew.below hbr1).below hbr2)
        clear HO
        go_wp2
        go_ret
        have e := HX.out
        subst e
        exact ⟨a, c, rfl, HO1.out.mono B1.size, Br2⟩
      | true =>
        have HX := Lib.hid (firstG_yes HX1.out hk hx.out)
        have HO1 := Lib.hid ((HO.out.drew.below hbr1).below hbr2)
        clear HO
        go_wp2_with (at_builtin; refine wpList_append_one rfl _ _ rfl w1.heap.size _ xs (by rfl) HO1.out _ (by unfold R64; omega) (by rfl) (by omega) (bl_call (bl_call (bl_drew Bq) hbr1) hbr2).size ?_; intro v' wn ho hg _; obtain ⟨a1, c1, rfl, _⟩ := ho.form)
        have BN := bl_grown (bl_call (bl_call (bl_drew Bq) hbr1) hbr2) hg (fun k hk => (HO1.out.lt k hk).1)
        have xN := xF_r2.grownApart hg (fun q => by have := (HO1.out.lt _ q).1; omega)
        clear hg
        have HO2 := Lib.hid ho
        clear ho
        go_wp2
        go_roundg (M - (xs.length + 1))
        case measure => omega
        case rel => exact ⟨xs ++ [x], a1, c1, by simp, HO2.out, by rw [List.length_append]; exact HX, by simp; omega, xN, BN⟩
    ·
      have HX := Lib.hid (show xs = T by have := hx.out; rw [show M - xs.length = 0 by omega] at this; rwa [firstG, List.append_nil] at this)
      go_wp2_with (go_at_call 40; refine (lsize_any _ _ _ _ (by omega)).mono ?_; rintro e w9 ⟨rfl, rfl⟩)
      go_ret
      have e := HX.out
      subst e
      exact ⟨a, c, rfl, HO.out.mono B1.size, Br⟩

set_option maxRecDepth 100000 in
set_option maxHeartbeats 3200000 in
theorem firstS_any (h p g : Value) (s : Src) (M : Nat) (w : World) (b : Nat) (hs : SlS w h p g s) (hx0 : Bx w b #[h, p, g]) (ok : OkSrc s) (hM : M ≤ 1000) :
    Calls Tryz.prog 43 #[.pointer (some ⟨b, 0, none⟩), .int .i64 M] w fun e w' => ∃ a c, e = .returned (.slice a (firstL s M).length c) ∧ Own w' w.heap.size (.slice a (firstL s M).length c) (firstL s M) ∧ Bl w w' := by
  obtain ⟨T, hT⟩ : ∃ T, T = firstL s M := ⟨_, rfl⟩
  have hl := Lib.hid (show T.length ≤ M by rw [hT]; exact firstG_len s M 0)
  rw [← hT]
  have HT := Lib.hid hT
  clear hT
  have HS := Lib.hid hs
  clear hs
  have xF_0 := hx0
  have hbw := xF_0.out.2.2
  obtain ⟨cF_0, fF_0, zF_0⟩ := xF_0.out
  go_enter Tryz.func43, Tryz.ntmps43
  go_wp2
  go_loopg [5, 6, 7, 8] M (fun n s5 s6 s7 s8 wr => ∃ (xs : List Int) (a : Option Addr) (c : Nat), s5 = .slice a xs.length c ∧ s6 = .int .i64 xs.length ∧ Own wr w.heap.size (.slice a xs.length c) xs ∧ Hid (xs ++ firstG s (M - xs.length) xs.length = T) ∧ n + xs.length = M ∧ Bx wr (b) #[h, p, g] ∧ Bl w wr)
  case atStart =>
    exact ⟨[], some ⟨w.heap.size, 0, none⟩, 0, rfl, rfl, own_made w (Nat.le_refl _), Lib.hid (by rw [HT.out]; rfl), by simp, xF_0.alloc _, bl_alloc (bl_refl _) _⟩
  case round =>
    rcases hrel with ⟨xs, a, c, rfl, rfl, ho, hx, hn, yF, Br⟩
    have HO := Lib.hid ho
    clear ho cF_0 fF_0 zF_0
    obtain ⟨cF, fF, zF⟩ := yF.out
    rcases Nat.lt_or_ge xs.length M with hk | hk
    ·
      obtain ⟨⟨x, o⟩, hx1⟩ : ∃ z, termP s xs.length = z := ⟨_, rfl⟩
      have hb := termP_bd ok xs.length (by omega)
      rw [hx1] at hb
      simp only [] at hb
      have HX1 := Lib.hid hx1
      clear hx1
      go_wp2_with fail
      refine (sterm_eqT HX1.out _ b (HS.out.below Br) yF ok.okPer (by omega)).mono ?_
      rintro e wr1 ⟨rfl, hbr1⟩
      have Br1 : Bl w wr1 := bl_call Br hbr1
      have xF_r1 : Bx wr1 (b) #[h, p, g] := yF.below hbr1
      clear cF fF zF
      obtain ⟨cF_r1, fF_r1, zF_r1⟩ := xF_r1.out
      cases o with
      | false =>
        have HX := Lib.hid (show xs = T by have := hx.out; rwa [firstG_no HX1.out, List.append_nil] at this)
        have HO1 := Lib.hid (HO.out.below hbr1)
        clear HO
        go_wp2
        go_ret
        have e := HX.out
        subst e
        exact ⟨a, c, rfl, HO1.out, Br1⟩
      | true =>
        have HX := Lib.hid (firstG_yes HX1.out hk hx.out)
        have HO1 := Lib.hid (HO.out.below hbr1)
        clear HO
        go_wp2_with (at_builtin; refine wpList_append_one rfl _ _ rfl w.heap.size _ xs (by rfl) HO1.out _ (by unfold R64; omega) (by rfl) (by omega) (Br1).size ?_; intro v' wn ho hg _; obtain ⟨a1, c1, rfl, _⟩ := ho.form)
        have BN := bl_grown Br1 hg (fun k hk => (HO1.out.lt k hk).1)
        have xN := xF_r1.grownApart hg (fun q => by have := (HO1.out.lt _ q).1; omega)
        clear hg
        have HO2 := Lib.hid ho
        clear ho
        go_wp2
        go_roundg (M - (xs.length + 1))
        case measure => omega
        case rel => exact ⟨xs ++ [x], a1, c1, by simp, by simp, HO2.out, by rw [List.length_append]; exact HX, by simp; omega, xN, BN⟩
    ·
      have HX := Lib.hid (show xs = T by have := hx.out; rw [show M - xs.length = 0 by omega] at this; rwa [firstG, List.append_nil] at this)
      go_wp2
      go_ret
      have e := HX.out
      subst e
      exact ⟨a, c, rfl, HO.out, Br⟩

end Go.Proofs.YtgkelemfbmmgnaaGreat

/- FirstTerms: the program and the reference give the same. No condition. -/
namespace Go.Proofs.YtgkelemfbmmgnaaGreat
open Go.RowKit
set_option linter.unusedVariables false
set_option linter.unusedSimpArgs false

theorem ivalid_eqF {h p g : Value} {s : Src} {b : Bool} (e : okSrc s = b) (w : World) (ha : SlS w h p g s) : Calls Tryz.prog 29 #[.agg #[h, p, g]] w fun e w' => e = .returned (.bool b) ∧ Bl w w' := e ▸ ivalid_any h p g s w ha
theorem svalid_eqF {h p g : Value} {s : Src} {b : Bool} (e : okSrc s = b) (w : World) (x : Nat) (ha : SlS w h p g s) (hx : Bx w x #[h, p, g]) : Calls Tryz.prog 36 #[.pointer (some ⟨x, 0, none⟩)] w fun e w' => e = .returned (.bool b) ∧ Bl w w' := e ▸ svalid_any h p g s w x ha hx
theorem within_eqF {n lo hi : Int} {b : Bool} (h : inB n lo hi = b) (w : World) : Calls Tryz.prog 38 #[.int .i64 n, .int .i64 lo, .int .i64 hi] w fun e w' => e = .returned (.bool b) ∧ w = w' := h ▸ within_any n lo hi w
theorem in_eqF {n lo hi : Int} {b : Bool} (h : inB n lo hi = b) (w : World) : Calls Tryz.prog 42 #[.int .i64 n, .int .i64 lo, .int .i64 hi] w fun e w' => e = .returned (.bool b) ∧ w = w' := h ▸ in_any n lo hi w
theorem ret_li {v : Value} {xs : List Int} {r : List Int × Int} {c : Int} (h : r = (xs, c)) : Ending.returned (.tuple #[v, .int .i64 c]) = .returned (.tuple #[v, .int .i64 r.2]) := by rw [h]
noncomputable def firstF (s : Src) (m : Int) : List Int × Int := if okSrc s then (if inB m 0 1000 then (firstL s m.toNat, 0) else ([], 2)) else ([], 1)
theorem firstF_len (s : Src) (m : Int) : (firstF s m).1.length ≤ 1048576 := by
  unfold firstF
  split
  · split
    · rename_i h
      have := inB_iff.1 h
      have := firstG_len s m.toNat 0
      simp [firstL]
      omega
    · simp
  · simp

set_option maxRecDepth 100000 in
set_option maxHeartbeats 3200000 in
theorem impl_FirstTerms (h p g : Value) (s : Src) (m : Int) (w : World) (hs : SlS w h p g s) :
    Calls Tryz.prog 21 #[.agg #[h, p, g], .int .i64 m] w fun e w' => ∃ a n c, e = .returned (.tuple #[.slice a n c, .int .i64 (firstF s m).2]) ∧ Own w' w.heap.size (.slice a n c) (firstF s m).1 ∧ Bl w w' := by
  cases e1 : okSrc s with
  | false =>
    have HR := (show firstF s m = ([], 1) by simp [firstF, e1])
    have HR := Lib.hid HR
    have E1 := Lib.hid e1
    clear e1
    go_enter Tryz.func21, Tryz.ntmps21
    go_wp2_with fail
    refine (ivalid_eqF E1.out _ (hs.below (bl_alloc (bl_refl _) _))).mono ?_
    rintro e w1 ⟨rfl, hb1⟩
    have B1 : Bl w w1 := bl_call (bl_alloc (bl_refl _) _) hb1
    have xF_1 : Bx w1 (w.heap.size) #[h, p, g] := (Bx.new (b := w.heap.size) _ #[h, p, g] 29 (by first | rfl | simp)).below hb1
    obtain ⟨cF_1, fF_1, zF_1⟩ := xF_1.out
    go_wp2
    go_ret2
    exact ⟨_, _, _, ret_li HR.out, by rw [HR.out]; exact Own.nil _ _, B1⟩
  | true =>
    cases e2 : inB m 0 1000 with
    | false =>
      have HR := (show firstF s m = ([], 2) by simp [firstF, e1, e2])
      have HR := Lib.hid HR
      have E1 := Lib.hid e1
      clear e1
      have E2 := Lib.hid e2
      clear e2
      go_enter Tryz.func21, Tryz.ntmps21
      go_wp2_with fail
      refine (ivalid_eqF E1.out _ (hs.below (bl_alloc (bl_refl _) _))).mono ?_
      rintro e w1 ⟨rfl, hb1⟩
      have B1 : Bl w w1 := bl_call (bl_alloc (bl_refl _) _) hb1
      have xF_1 : Bx w1 (w.heap.size) #[h, p, g] := (Bx.new (b := w.heap.size) _ #[h, p, g] 29 (by first | rfl | simp)).below hb1
      obtain ⟨cF_1, fF_1, zF_1⟩ := xF_1.out
      go_wp2_with fail
      refine (within_eqF E2.out _).mono ?_
      rintro e w9 ⟨rfl, rfl⟩
      go_wp2
      go_ret2
      exact ⟨_, _, _, ret_li HR.out, by rw [HR.out]; exact Own.nil _ _, B1⟩
    | true =>
      have HR := (show firstF s m = (firstL s m.toNat, 0) by simp [firstF, e1, e2])
      have hm := inB_iff.1 e2
      obtain ⟨M, rfl⟩ := Int.eq_ofNat_of_zero_le (show 0 ≤ m by omega)
      rw [Int.toNat_natCast] at HR
      have K1 := okSrc_iff.1 e1
      have HR := Lib.hid HR
      have E1 := Lib.hid e1
      clear e1
      have E2 := Lib.hid e2
      clear e2
      go_enter Tryz.func21, Tryz.ntmps21
      go_wp2_with fail
      refine (ivalid_eqF E1.out _ (hs.below (bl_alloc (bl_refl _) _))).mono ?_
      rintro e w1 ⟨rfl, hb1⟩
      have B1 : Bl w w1 := bl_call (bl_alloc (bl_refl _) _) hb1
      have xF_1 : Bx w1 (w.heap.size) #[h, p, g] := (Bx.new (b := w.heap.size) _ #[h, p, g] 29 (by first | rfl | simp)).below hb1
      obtain ⟨cF_1, fF_1, zF_1⟩ := xF_1.out
      go_wp2_with fail
      refine (within_eqF E2.out _).mono ?_
      rintro e w9 ⟨rfl, rfl⟩
      go_wp2_with fail
      refine (firstI_any h p g s M _ (hs.below B1) K1 (by omega)).mono ?_
      rintro e w2 ⟨ya, yc, rfl, HY, hb2⟩
      have B2 : Bl w w2 := bl_call B1 hb2
      have xF_2 : Bx w2 (w.heap.size) #[h, p, g] := xF_1.below hb2
      clear cF_1 fF_1 zF_1
      obtain ⟨cF_2, fF_2, zF_2⟩ := xF_2.out
      have HY := Lib.hid HY
      go_wp2
      go_ret2
      exact ⟨_, _, _, ret_li HR.out, by rw [HR.out]; exact HY.out.mono B1.size, B2⟩

end Go.Proofs.YtgkelemfbmmgnaaGreat

