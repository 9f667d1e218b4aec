/- The first terms of a source: the program and the reference. Each theorem names its conditions. -/
import Derived.Test.YtgmofofokhlhnaaTerm
import Derived.Test.YtgmofofokhlhnaaApp
import Derived.Test.YtgmofofokhlhnaaSrcI
import Derived.Test.YtgmofofokhlhnaaSrcS
namespace Go.Proofs.Ytgmofofokhlhnaa
open Go.RowKit
set_option linter.unusedVariables false
set_option linter.unusedSimpArgs false

/-- At most n terms from place k on. -/
def firstG (s : Src) : Nat → Nat → List Int
  | 0, _ => []
  | n + 1, k => if (termP s k).2 then (termP s k).1 :: firstG s n (k + 1) else []
/-- The first terms. -/
def firstL (s : Src) (n : Nat) : List Int := firstG s n 0
theorem firstG_no {s : Src} {n k : Nat} {x : Int} (h : termP s k = (x, false)) : firstG s n k = [] := by
  cases n with
  | zero => rfl
  | succ n => rw [firstG, h]; rfl
theorem firstG_yes {s : Src} {M k : Nat} {x : Int} {xs T : List Int} (h : termP s k = (x, true)) (hk : k < M) (e : xs ++ firstG s (M - k) k = T) : (xs ++ [x]) ++ firstG s (M - (k + 1)) (k + 1) = T := by
  rw [show M - k = (M - (k + 1)) + 1 by omega, firstG, h] at e
  rw [← e]
  simp
theorem firstG_len (s : Src) (n : Nat) : ∀ k, (firstG s n k).length ≤ n := by
  induction n with
  | zero => intro k; simp [firstG]
  | succ n ih =>
    intro k
    rw [firstG]
    split
    · simp [ih]
    · simp
theorem termP_bd {s : Src} (ok : OkSrc s) (k : Nat) (hk : k ≤ 1000000) : -1000000000 ≤ (termP s k).1 ∧ (termP s k).1 ≤ 1000001000000 := by
  unfold termP
  split
  · rename_i h
    have e : s.H[k]? = some s.H[k] := List.getElem?_eq_getElem h
    have := ok.hd k _ e
    unfold lowAt at this
    simp [e]
    split at this <;> omega
  · split
    · simp
    · rename_i h h2
      have hm : (k - s.H.length) % s.P.length < s.P.length := Nat.mod_lt _ (by omega)
      have hm2 : (k - s.H.length) % s.P.length < s.G.length := by rw [ok.gp]; exact hm
      have e1 : s.P[(k - s.H.length) % s.P.length]? = some s.P[(k - s.H.length) % s.P.length] := List.getElem?_eq_getElem hm
      have e2 : s.G[(k - s.H.length) % s.P.length]? = some s.G[(k - s.H.length) % s.P.length] := List.getElem?_eq_getElem hm2
      have b1 := ok.per _ _ e1
      have b2 := ok.gr _ _ e2
      have hq : (k - s.H.length) / s.P.length ≤ k := Nat.le_trans (Nat.div_le_self _ _) (by omega)
      simp only [List.getD_eq_getElem?_getD, e1, e2, Option.getD_some]
      generalize (k - s.H.length) / s.P.length = Q at *
      have hp := prod_bd (Q : Int) s.G[(k - s.H.length) % s.P.length] 1000000 1000000 (by omega) (by omega) b2.1 b2.2
      omega
theorem iterm_eqF {h p g : Value} {s : Src} {k : Nat} {x : Int} {o : Bool} (he : termP s k = (x, o)) (w : World) (ha : SlS w h p g s) (ok : OkPer s) (h1 : k ≤ 1000000) :
    Calls Try.prog 96 #[.agg #[h, p, g], .int .i64 k] w fun e w' => e = .returned (.tuple #[.int .i64 x, .bool o]) ∧ Bl w w' := by
  have := iterm_any h p g s k w ha ok (by omega) (by omega)
  rw [Int.toNat_natCast, he] at this
  exact this
theorem sterm_eqT {h p g : Value} {s : Src} {k : Nat} {x : Int} {o : Bool} (he : termP s k = (x, o)) (w : World) (b : Nat) (ha : SlS w h p g s) (hx : Bx w b #[h, p, g]) (ok : OkPer s) (h1 : k ≤ 1000000) :
    Calls Try.prog 91 #[.pointer (some ⟨b, 0, none⟩), .int .i64 k] w fun e w' => e = .returned (.tuple #[.int .i64 x, .bool o]) ∧ Bl w w' := by
  have := sterm_any h p g s k w b ha hx ok (by omega) (by omega)
  rw [Int.toNat_natCast, he] at this
  exact this
theorem lsizeB (a : Option Addr) (n c : Nat) (w : World) (hn : n ≤ 9223372036854775807) : Calls Try.prog 98 #[.slice a n c] w fun e w' => e = .returned (.int .i64 n) ∧ Bl w w' :=
  (lsize_any a n c w hn).mono (by rintro e w' ⟨h1, rfl⟩; exact ⟨h1, bl_refl _⟩)
theorem Bx.grownApart {w w' : World} {b : Nat} {cs : Array Value} {row : Option Nat} (h : Bx w b cs) (hg : w.grownBy w' row) (hn : row ≠ some b) : Bx w' b cs := by
  have hl := h.out.2.2
  obtain ⟨t, h⟩ := h
  exact ⟨t, (hg.block b hl (fun e => hn e.symm)).trans h⟩

set_option maxRecDepth 100000 in
set_option maxHeartbeats 3200000 in
theorem firstS_any (h p g : Value) (s : Src) (M : Nat) (w : World) (b : Nat) (hs : SlS w h p g s) (hx0 : Bx w b #[h, p, g]) (ok : OkSrc s) (hM : M ≤ 1000) :
    Calls Try.prog 170 #[.pointer (some ⟨b, 0, none⟩), .int .i64 M] w fun e w' => ∃ a c, e = .returned (.slice a (firstL s M).length c) ∧ Own w' w.heap.size (.slice a (firstL s M).length c) (firstL s M) ∧ Bl w w' := by
  obtain ⟨T, hT⟩ : ∃ T, T = firstL s M := ⟨_, rfl⟩
  have hl := Lib.hid (show T.length ≤ M by rw [hT]; exact firstG_len s M 0)
  rw [← hT]
  have HT := Lib.hid hT
  clear hT
  have HS := Lib.hid hs
  clear hs
  have xF_0 := hx0
  have hbw := xF_0.out.2.2
  obtain ⟨cF_0, fF_0, zF_0⟩ := xF_0.out
  go_enter Try.func170, Try.ntmps170
  go_wp2
  go_loopg [5, 6, 7, 8] M (fun n s5 s6 s7 s8 wr => ∃ (xs : List Int) (a : Option Addr) (c : Nat), s5 = .slice a xs.length c ∧ s6 = .int .i64 xs.length ∧ Own wr w.heap.size (.slice a xs.length c) xs ∧ Hid (xs ++ firstG s (M - xs.length) xs.length = T) ∧ n + xs.length = M ∧ Bx wr (b) #[h, p, g] ∧ Bl w wr)
  case atStart =>
    exact ⟨[], some ⟨w.heap.size, 0, none⟩, 0, rfl, rfl, own_made w (Nat.le_refl _), Lib.hid (by rw [HT.out]; rfl), by simp, xF_0.alloc _, bl_alloc (bl_refl _) _⟩
  case round =>
    rcases hrel with ⟨xs, a, c, rfl, rfl, ho, hx, hn, yF, Br⟩
    have HO := Lib.hid ho
    clear ho cF_0 fF_0 zF_0
    obtain ⟨cF, fF, zF⟩ := yF.out
    rcases Nat.lt_or_ge xs.length M with hk | hk
    ·
      obtain ⟨⟨x, o⟩, hx1⟩ : ∃ z, termP s xs.length = z := ⟨_, rfl⟩
      have hb := termP_bd ok xs.length (by omega)
      rw [hx1] at hb
      simp only [] at hb
      have HX1 := Lib.hid hx1
      clear hx1
      go_wp2_with fail
      refine (sterm_eqT HX1.out _ b (HS.out.below Br) yF ok.okPer (by omega)).mono ?_
      rintro e wr1 ⟨rfl, hbr1⟩
      have Br1 : Bl w wr1 := bl_call Br hbr1
      have xF_r1 : Bx wr1 (b) #[h, p, g] := yF.below hbr1
      clear cF fF zF
      obtain ⟨cF_r1, fF_r1, zF_r1⟩ := xF_r1.out
      cases o with
      | false =>
        have HX := Lib.hid (show xs = T by have := hx.out; rwa [firstG_no HX1.out, List.append_nil] at this)
        have HO1 := Lib.hid (HO.out.below hbr1)
        clear HO
        go_wp2
        go_ret
        have e := HX.out
        subst e
        exact ⟨a, c, rfl, HO1.out, Br1⟩
      | true =>
        have HX := Lib.hid (firstG_yes HX1.out hk hx.out)
        have HO1 := Lib.hid (HO.out.below hbr1)
        clear HO
        go_wp2_with (at_builtin; refine wpList_append_one rfl _ _ rfl w.heap.size _ xs (by rfl) HO1.out _ (by unfold R64; omega) (by rfl) (by omega) (Br1).size ?_; intro v' wn ho hg _; obtain ⟨a1, c1, rfl, _⟩ := ho.form)
        have BN := bl_grown Br1 hg (fun k hk => (HO1.out.lt k hk).1)
        have xN := xF_r1.grownApart hg (fun q => by have := (HO1.out.lt _ q).1; omega)
        clear hg
        have HO2 := Lib.hid ho
        clear ho
        go_wp2
        go_roundg (M - (xs.length + 1))
        case measure => omega
        case rel => exact ⟨xs ++ [x], a1, c1, by simp, by simp, HO2.out, by rw [List.length_append]; exact HX, by simp; omega, xN, BN⟩
    ·
      have HX := Lib.hid (show xs = T by have := hx.out; rw [show M - xs.length = 0 by omega] at this; rwa [firstG, List.append_nil] at this)
      go_wp2
      go_ret
      have e := HX.out
      subst e
      exact ⟨a, c, rfl, HO.out, Br⟩

end Go.Proofs.Ytgmofofokhlhnaa
