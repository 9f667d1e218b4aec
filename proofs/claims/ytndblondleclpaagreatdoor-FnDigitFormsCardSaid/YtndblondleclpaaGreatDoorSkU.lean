/- Small contracts for SkipTerms. Each theorem names its conditions. -/
import Derived.Test.YtndblondleclpaaGreatDoorTerm
import Derived.Test.YtndblondleclpaaGreatDoorSrcI
import Derived.Test.YtndblondleclpaaGreatDoorSrcS
import Derived.Test.YtndblondleclpaaGreatDoorClone
import Derived.Test.YtndblondleclpaaGreatDoorShort
import Derived.Deep.LoopGhost
namespace Go.Proofs.YtndblondleclpaaGreatDoor
open Go.RowKit
set_option linter.unusedVariables false
set_option linter.unusedSimpArgs false

set_option linter.unusedSimpArgs false

theorem inB_eqSKu {n lo hi : Int} {b : Bool} (h : inB n lo hi = b) (w : World) : Calls Tryz.prog 46 #[.int .i64 n, .int .i64 lo, .int .i64 hi] w fun e w' => e = .returned (.bool b) ∧ w = w' := h ▸ within_any n lo hi w
set_option maxHeartbeats 400000 in
theorem sizeI_anyKu (a : Option Addr) (n c : Nat) (w : World) (hn : n ≤ 9223372036854775807) : Calls Tryz.prog 54 #[.slice a n c] w fun e w' => e = .returned (.int .i64 n) ∧ w = w' := lsize_any a n c w hn
theorem Sl.cellAtU {w w' : World} {a : Option Addr} {n c : Nat} {xs : List Int} (h : Sl w (.slice a n c) xs) (hb : Bl w w') {k : Nat} (hk : k < xs.length) :
    ∃ b o, a = some ⟨b, o, none⟩ ∧ ∃ x, xs[k]? = some x ∧ w'.cell? ⟨b, o + k, none⟩ = some (.int .i64 x) ∧ R64 x := by
  obtain ⟨a', cap, e, h1, h2, h3, h4, h5⟩ := h
  simp only [Value.slice.injEq] at e
  obtain ⟨rfl, rfl, rfl⟩ := e
  rcases h5 with h5 | ⟨b, off, rfl, hc⟩
  · rw [h5] at hk; simp at hk
  · have hx : xs[k]? = some xs[k] := List.getElem?_eq_getElem hk
    exact ⟨b, off, rfl, _, hx, (hb.cell (p := ⟨b, off + k, none⟩) (cell_lt (hc k _ hx))).trans (hc k _ hx), h3 _ (List.getElem_mem hk)⟩
set_option linter.unusedSimpArgs false


theorem iterm_eqKu {h p g : Value} {src : Src} {k : Nat} {t : Int} {b : Bool} (hT : termP src k = (t, b)) (w : World) (ha : SlS w h p g src) (ok : OkPer src) (hk : k ≤ 1000) :
    Calls Tryz.prog 47 #[.agg #[h, p, g], .int .i64 (k : Int)] w fun e w' => e = .returned (.tuple #[.int .i64 t, .bool b]) ∧ Bl w w' :=
  (iterm_any h p g src k w ha ok (by omega) (by omega)).mono fun _ _ q => ⟨by rw [q.1, Int.toNat_natCast, hT], q.2⟩
theorem ivalid_eqKu {h p g : Value} {src : Src} {b : Bool} (hb : okSrc src = b) (w : World) (ha : SlS w h p g src) : Calls Tryz.prog 25 #[.agg #[h, p, g]] w fun e w' => e = .returned (.bool b) ∧ Bl w w' := hb ▸ ivalid_any h p g src w ha
theorem svalid_eqKu {h p g : Value} {src : Src} {b0 : Nat} {b : Bool} (hb : okSrc src = b) (w : World) (ha : SlS w h p g src) (hx : Bx w b0 #[h, p, g]) : Calls Tryz.prog 48 #[.pointer (some ⟨b0, 0, none⟩)] w fun e w' => e = .returned (.bool b) ∧ Bl w w' := hb ▸ svalid_any h p g src w b0 ha hx
theorem sin_eqMKu {n lo hi : Int} {b : Bool} (h : inB n lo hi = b) (w : World) : Calls Tryz.prog 49 #[.int .i64 n, .int .i64 lo, .int .i64 hi] w fun e w' => e = .returned (.bool b) ∧ w = w' := h ▸ in_any n lo hi w
theorem own_madeMKu (X : World) {B k : Nat} (hk : k = X.heap.size) (hB : B ≤ X.heap.size) : Own (X.alloc (.cells #[] 2)) B (.slice (some ⟨k, 0, none⟩) 0 0) [] := by subst hk; exact own_made X hB
theorem Bx.congMKu {w : World} {b : Nat} {cs cs' : Array Value} (h : Bx w b cs) (e : cs = cs') : Bx w b cs' := e ▸ h

end Go.Proofs.YtndblondleclpaaGreatDoor
