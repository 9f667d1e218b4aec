/- SkipTerms: the program. Each theorem names its conditions. -/
import Derived.Test.YtndblondleclpaaGreatDoorSkipR
import Derived.Deep.AppendLies
import Derived.Deep.RegionLaw
namespace Go.Proofs.YtndblondleclpaaGreatDoor
open Go.RowKit
set_option linter.unusedVariables false
set_option linter.unusedSimpArgs false


theorem iterm_eqK {h p g : Value} {s : Src} {K i : Nat} {x : Int} {o : Bool} (he : termP s (K + i) = (x, o)) (w : World) (ha : SlS w h p g s) (ok : OkPer s) (h1 : K + i ≤ 1000000) :
    Calls Tryz.prog 47 #[.agg #[h, p, g], .int .i64 ((K : Int) + (i : Int))] w fun e w' => e = .returned (.tuple #[.int .i64 x, .bool o]) ∧ Bl w w' :=
  (iterm_any h p g s ((K : Int) + (i : Int)) w ha ok (by omega) (by omega)).mono fun _ _ q => ⟨by rw [q.1, show ((K : Int) + (i : Int)).toNat = K + i by omega, he], q.2⟩
theorem out_le {s : Src} {K : Nat} (h : K ≤ s.H.length) : outF s K = ⟨s.H.drop K, s.P, s.G⟩ := by rw [outF, if_pos h]
/-- What a region that copies lists and makes a block keeps, in any order. -/
structure Reg (w0 : World) (B0 : Nat) (wv : World) (S : Nat → Option (Value × List Int)) (ob : Option Nat) : Prop where
  bl : Bl w0 wv
  B1 : B0 ≤ wv.heap.size
  o : ∀ j v xs, S j = some (v, xs) → Own wv w0.heap.size v xs ∧ ∀ k, v.ownBlock = some k → B0 ≤ k
  ap : ∀ i j v xs u ys, i ≠ j → S i = some (v, xs) → S j = some (u, ys) → Apart v u
  bx : ∀ b, ob = some b → Bx wv b #[.slice none 0 0, .slice none 0 0, .slice none 0 0] ∧ B0 ≤ b ∧ ∀ j v xs, S j = some (v, xs) → v.ownBlock ≠ some b
theorem Reg.start {w0 wv : World} (h : Bl w0 wv) : Reg w0 wv.heap.size wv (fun _ => none) none :=
  ⟨h, Nat.le_refl _, fun j v xs e => (by cases e), fun i j v xs u ys _ e => (by cases e), fun b e => (by cases e)⟩
theorem Reg.alloc {w0 : World} {B0 : Nat} {wv : World} {S : Nat → Option (Value × List Int)} (h : Reg w0 B0 wv S none) (t : TypeId) : Reg w0 B0 (wv.alloc (.cells #[.slice none 0 0, .slice none 0 0, .slice none 0 0] t)) S (some wv.heap.size) :=
  ⟨bl_alloc h.bl _, by have := h.B1; simp; omega, fun j v xs e => ⟨(h.o j v xs e).1.alloc _, (h.o j v xs e).2⟩, h.ap, fun b e => (by
    injection e with e
    subst e
    exact ⟨Bx.new _ _ _ rfl, h.B1, fun j v xs e q => (by have := ((h.o j v xs e).1.lt _ q).2; omega)⟩)⟩
theorem Reg.set {w0 : World} {B0 : Nat} {wv wv' : World} {S : Nat → Option (Value × List Int)} {ob : Option Nat} {v : Value} {xs : List Int} (h : Reg w0 B0 wv S ob) (j : Nat) (O : Own wv' wv.heap.size v xs) (hb : Bl wv wv') : Reg w0 B0 wv' (fun i => if i = j then some (v, xs) else S i) ob := by
  refine ⟨bl_call h.bl hb, Nat.le_trans h.B1 hb.size, fun i u ys e => ?_, fun i k u ys u' ys' hne e e' => ?_, fun b e => ?_⟩
  · by_cases hi : i = j
    · simp only [hi, if_true, Option.some.injEq, Prod.mk.injEq] at e
      obtain ⟨rfl, rfl⟩ := e
      exact ⟨O.mono h.bl.size, fun k q => Nat.le_trans h.B1 (O.lt k q).1⟩
    · simp only [hi, if_false] at e
      exact ⟨(h.o i u ys e).1.below hb, (h.o i u ys e).2⟩
  · have key : ∀ i u ys, i ≠ j → S i = some (u, ys) → Apart u v := fun i u ys hi e k q q' => by
      have a1 := ((h.o i u ys e).1.lt k q).2
      have a2 := (O.lt k q').1
      omega
    by_cases hi : i = j
    · simp only [hi, if_true, Option.some.injEq, Prod.mk.injEq] at e
      obtain ⟨rfl, rfl⟩ := e
      have hk : k ≠ j := fun q => hne (by rw [hi, q])
      simp only [hk, if_false] at e'
      exact apart_symm (key k u' ys' hk e')
    · simp only [hi, if_false] at e
      by_cases hk : k = j
      · simp only [hk, if_true, Option.some.injEq, Prod.mk.injEq] at e'
        obtain ⟨rfl, rfl⟩ := e'
        exact key i u ys hi e
      · simp only [hk, if_false] at e'
        exact h.ap i k u ys u' ys' hne e e'
  · obtain ⟨b1, b2, b3⟩ := h.bx b e
    refine ⟨b1.below hb, b2, fun i u ys e => ?_⟩
    by_cases hi : i = j
    · simp only [hi, if_true, Option.some.injEq, Prod.mk.injEq] at e
      obtain ⟨rfl, rfl⟩ := e
      intro q
      have a1 := b1.out.2.2
      have a2 := (O.lt _ q).1
      omega
    · simp only [hi, if_false] at e
      exact b3 i u ys e
/-- What the region leaves: the new source's block and its three lists. -/
def SkO (w : World) (B0 : Nat) (s : Src) (s8 : Value) (wx : World) : Prop :=
  ∃ (bo : Nat) (v1 v2 v3 : Value), s8 = .pointer (some ⟨bo, 0, none⟩) ∧ Bx wx bo #[v1, v2, v3] ∧ OwnS wx w.heap.size v1 v2 v3 s ∧ (∀ k, v1.ownBlock = some k ∨ v2.ownBlock = some k ∨ v3.ownBlock = some k → k ≠ bo ∧ B0 ≤ k) ∧ B0 ≤ bo ∧ Bl w wx
theorem sko_new {w wv : World} {B0 : Nat} {S : Nat → Option (Value × List Int)} {v1 v2 v3 : Value} {x1 x2 x3 : List Int} {t : TypeId} (h : Reg w B0 wv S none) (h1 : S 1 = some (v1, x1)) (h2 : S 2 = some (v2, x2)) (h3 : S 3 = some (v3, x3)) : SkO w B0 ⟨x1, x2, x3⟩ (.pointer (some ⟨wv.heap.size, 0, none⟩)) (wv.alloc (.cells #[v1, v2, v3] t)) := by
  refine ⟨wv.heap.size, v1, v2, v3, rfl, Bx.new _ _ _ rfl, ⟨(h.o 1 _ _ h1).1.alloc _, (h.o 2 _ _ h2).1.alloc _, (h.o 3 _ _ h3).1.alloc _, h.ap 1 2 _ _ _ _ (by omega) h1 h2, h.ap 1 3 _ _ _ _ (by omega) h1 h3, h.ap 2 3 _ _ _ _ (by omega) h2 h3⟩, fun k q => ?_, h.B1, bl_alloc h.bl _⟩
  rcases q with q | q | q
  · exact ⟨by have := ((h.o 1 _ _ h1).1.lt k q).2; omega, (h.o 1 _ _ h1).2 k q⟩
  · exact ⟨by have := ((h.o 2 _ _ h2).1.lt k q).2; omega, (h.o 2 _ _ h2).2 k q⟩
  · exact ⟨by have := ((h.o 3 _ _ h3).1.lt k q).2; omega, (h.o 3 _ _ h3).2 k q⟩
theorem sko_set {w wv : World} {B0 b : Nat} {S : Nat → Option (Value × List Int)} {v1 v2 v3 : Value} {x1 x2 x3 : List Int} (hB : w.heap.size ≤ B0) (h : Reg w B0 wv S (some b)) (h1 : S 1 = some (v1, x1)) (h2 : S 2 = some (v2, x2)) (h3 : S 3 = some (v3, x3)) : SkO w B0 ⟨x1, x2, x3⟩ (.pointer (some ⟨b, 0, none⟩)) (((wv.setCell ⟨b, 0, none⟩ v1).setCell ⟨b, 1, none⟩ v2).setCell ⟨b, 2, none⟩ v3) := by
  obtain ⟨b1, b2, b3⟩ := h.bx b rfl
  have u := upd_set (upd_set (upd_set (upd_refl wv b) 0 v1) 1 v2) 2 v3
  refine ⟨b, v1, v2, v3, rfl, Bx.congMKu (((b1.set 0 v1).set 1 v2).set 2 v3) (by simp), ⟨(h.o 1 _ _ h1).1.upd u (b3 1 _ _ h1), (h.o 2 _ _ h2).1.upd u (b3 2 _ _ h2), (h.o 3 _ _ h3).1.upd u (b3 3 _ _ h3), h.ap 1 2 _ _ _ _ (by omega) h1 h2, h.ap 1 3 _ _ _ _ (by omega) h1 h3, h.ap 2 3 _ _ _ _ (by omega) h2 h3⟩, fun k q => ?_, b2, bl_upd h.bl u (Nat.le_trans hB b2)⟩
  rcases q with q | q | q
  · exact ⟨fun e => b3 1 _ _ h1 (e ▸ q), (h.o 1 _ _ h1).2 k q⟩
  · exact ⟨fun e => b3 2 _ _ h2 (e ▸ q), (h.o 2 _ _ h2).2 k q⟩
  · exact ⟨fun e => b3 3 _ _ h3 (e ▸ q), (h.o 3 _ _ h3).2 k q⟩
theorem sko_done {w wv : World} {B0 b : Nat} {S : Nat → Option (Value × List Int)} {v1 v2 v3 : Value} {x1 x2 x3 : List Int} {cs ds : Array Value} (hB : w.heap.size + 2 ≤ B0) (h : Reg w B0 wv S (some b)) (h1 : S 1 = some (v1, x1)) (h2 : S 2 = some (v2, x2)) (h3 : S 3 = some (v3, x3)) (xx : Bx wv w.heap.size cs) (rr : Bx wv (w.heap.size + 1) ds) :
    Hid (SkO w B0 ⟨x1, x2, x3⟩ (.pointer (some ⟨b, 0, none⟩)) (((wv.setCell ⟨b, 0, none⟩ v1).setCell ⟨b, 1, none⟩ v2).setCell ⟨b, 2, none⟩ v3)) ∧ Bx (((wv.setCell ⟨b, 0, none⟩ v1).setCell ⟨b, 1, none⟩ v2).setCell ⟨b, 2, none⟩ v3) w.heap.size cs ∧ Bx (((wv.setCell ⟨b, 0, none⟩ v1).setCell ⟨b, 1, none⟩ v2).setCell ⟨b, 2, none⟩ v3) (w.heap.size + 1) ds := by
  have hb := (h.bx b rfl).2.1
  have n1 : b ≠ w.heap.size := by omega
  have n2 : b ≠ w.heap.size + 1 := by omega
  exact ⟨Lib.hid (sko_set (by omega) h h1 h2 h3), ((xx.far n1 _).far n1 _).far n1 _, ((rr.far n2 _).far n2 _).far n2 _⟩
theorem drop_end {xs : List Int} {K : Nat} (h : xs.length ≤ K) : xs.drop K = [] := List.drop_eq_nil_iff.2 h

end Go.Proofs.YtndblondleclpaaGreatDoor
