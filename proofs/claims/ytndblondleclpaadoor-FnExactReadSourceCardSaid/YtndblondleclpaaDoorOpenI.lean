/- How a law's arguments are opened: integers, fractions, slices of integers, sources. No condition. -/
import Derived.Test.YtndblondleclpaaDoorRows
import Derived.Test.YtndblondleclpaaDoorLawF
import Derived.Test.YtndblondleclpaaDoorLawI
import Derived.Test.YtndblondleclpaaDoorOnly
import Derived.ProofKit
import Derived.OpenShut
import Derived.ShutString
import Derived.ChangeOld
import Derived.Lib.SmallJoins
namespace Go.Proofs.YtndblondleclpaaDoor
open Go.RowKit Go.ChangeShapes Go.WideShapes Go.ChangeAt
open Go.Joins (open_agg2)
set_option linter.unusedVariables false
set_option linter.unusedSimpArgs false
set_option maxRecDepth 100000

theorem own : ownKnob Tryd.prog.godebug = none := by kernel_rfl
theorem laidOut : laidOutB Tryd.prog = true := by kernel_rfl

theorem r64_of_wf {x : Int} (h : (Lit.int .i64 x).wf = true) : R64 x := by
  have := bounds_i64 h
  unfold R64
  omega

section
variable {H : Type} {enc : TypeId × Value → H} {W : World}

theorem sl_of_trod {fuel : Nat} {v : Value} {y : DataW H × List MemPlace} (h : DataW.trod enc Tryd.prog W 0 (fun _ => true) true fuel 22 [v] = some y) : ∃ xs, Sl W v xs := by
  rcases open_ints Tryd.underlying22 Tryd.underlying2 (by kernel_rfl) h with ⟨hcs, _⟩ | ⟨x, l, c, zs, hcs, _, hl, hm, hz, _, hcell, hwz⟩
  · simp at hcs
    subst hcs
    exact ⟨[], Sl.nil W⟩
  · simp at hcs
    subst hcs
    have hz' : zs.length = c := by simpa using hz
    have hlen : (zs.take l).length = l := by simp; omega
    refine ⟨zs.take l, some x, c, by rw [hlen], by omega, hm, fun n hn => r64_of_wf (hwz n (List.mem_of_mem_take hn)), by simp, ?_⟩
    by_cases h0 : l = 0
    · left; subst h0; simp
    · right
      obtain ⟨b, off, spot⟩ := x
      have hc := hcell 0 (by omega)
      have hspot : spot = none := by simpa [Addr.add] using World.cell?_spot hc
      subst hspot
      refine ⟨b, off, rfl, fun i n hi => ?_⟩
      have hil : i < l := by have := (List.getElem?_eq_some_iff.1 hi).1; omega
      have hc := hcell i (by omega)
      rw [List.getElem?_take, if_pos hil] at hi
      have e : zs.getD i 0 = n := by simp [hi]
      rw [e] at hc
      rw [← hc]
      unfold Addr.add
      split
      · rename_i hi0; subst hi0; rfl
      · rfl

theorem ints_of_trod {v : Value} {d : DataW H} {p : List MemPlace} {r : Reach} {b0 : Nat} (hv : Value.okWide Tryd.prog W r b0 22 v) (h : DataW.Trod enc Tryd.prog W 0 (fun _ => true) true 22 v d p) :
    ∃ xs, Sl W v xs := by
  obtain ⟨a, l, c, rfl⟩ := okWide_slice Tryd.underlying22 hv
  obtain ⟨fuel, hf⟩ := h
  exact sl_of_trod (by simpa [Value.cells] using hf)

end

end Go.Proofs.YtndblondleclpaaDoor
