/- FirstTerms: the program and the reference give the same. No condition. -/
import Derived.Test.YtgmofofokhlhnaaFirstT
namespace Go.Proofs.Ytgmofofokhlhnaa
open Go.RowKit
set_option linter.unusedVariables false
set_option linter.unusedSimpArgs false

theorem ivalid_eqF {h p g : Value} {s : Src} {b : Bool} (e : okSrc s = b) (w : World) (ha : SlS w h p g s) : Calls Try.prog 78 #[.agg #[h, p, g]] w fun e w' => e = .returned (.bool b) ∧ Bl w w' := e ▸ ivalid_any h p g s w ha
theorem svalid_eqF {h p g : Value} {s : Src} {b : Bool} (e : okSrc s = b) (w : World) (x : Nat) (ha : SlS w h p g s) (hx : Bx w x #[h, p, g]) : Calls Try.prog 89 #[.pointer (some ⟨x, 0, none⟩)] w fun e w' => e = .returned (.bool b) ∧ Bl w w' := e ▸ svalid_any h p g s w x ha hx
theorem within_eqF {n lo hi : Int} {b : Bool} (h : inB n lo hi = b) (w : World) : Calls Try.prog 95 #[.int .i64 n, .int .i64 lo, .int .i64 hi] w fun e w' => e = .returned (.bool b) ∧ w = w' := h ▸ within_any n lo hi w
theorem in_eqF {n lo hi : Int} {b : Bool} (h : inB n lo hi = b) (w : World) : Calls Try.prog 93 #[.int .i64 n, .int .i64 lo, .int .i64 hi] w fun e w' => e = .returned (.bool b) ∧ w = w' := h ▸ in_any n lo hi w
theorem ret_li {v : Value} {xs : List Int} {r : List Int × Int} {c : Int} (h : r = (xs, c)) : Ending.returned (.tuple #[v, .int .i64 c]) = .returned (.tuple #[v, .int .i64 r.2]) := by rw [h]
noncomputable def firstF (s : Src) (m : Int) : List Int × Int := if okSrc s then (if inB m 0 1000 then (firstL s m.toNat, 0) else ([], 2)) else ([], 1)
theorem firstF_len (s : Src) (m : Int) : (firstF s m).1.length ≤ 1048576 := by
  unfold firstF
  split
  · split
    · rename_i h
      have := inB_iff.1 h
      have := firstG_len s m.toNat 0
      simp [firstL]
      omega
    · simp
  · simp

end Go.Proofs.Ytgmofofokhlhnaa
