/- The source of e: the program and the reference make the same one, in new memory. No condition. -/
import Derived.Test.YtndblondleclpaaGreatDoorLawBs
namespace Go.Proofs.YtndblondleclpaaGreatDoor
open Go.RowKit
set_option linter.unusedVariables false
set_option linter.unusedSimpArgs false

def srcE : Src := ⟨[2], [1, 2, 1], [0, 2, 0]⟩

theorem own_lit (w : World) (xs : List Int) (hr : ∀ x ∈ xs, R64 x) (hl : xs.length ≤ maxLen) :
    Own (w.alloc (.cells (xs.map (Value.int .i64)).toArray 2)) w.heap.size (.slice (some ⟨w.heap.size, 0, none⟩) xs.length xs.length) xs := by
  refine ⟨?_, hr⟩
  have := World.ownsRow_lit (base := w.heap.size) (e := 2) (size := 1) w (xs.map (Value.int .i64)).toArray xs.length (Nat.le_refl _) hl (by simp)
  simpa using this

theorem srcE_own (w : World) (o : Obj) : OwnS ((((w.alloc o).alloc (.cells #[.int .i64 2] 2)).alloc (.cells #[.int .i64 1, .int .i64 2, .int .i64 1] 2)).alloc (.cells #[.int .i64 0, .int .i64 2, .int .i64 0] 2)) w.heap.size
    (.slice (some ⟨w.heap.size + 1, 0, none⟩) 1 1) (.slice (some ⟨w.heap.size + 1 + 1, 0, none⟩) 3 3) (.slice (some ⟨w.heap.size + 1 + 1 + 1, 0, none⟩) 3 3) srcE := by
  have o1 := own_lit (w.alloc o) [2] (by simp [R64]) (by simp [maxLen])
  have o2 := own_lit ((w.alloc o).alloc (.cells #[.int .i64 2] 2)) [1, 2, 1] (by simp [R64]) (by simp [maxLen])
  have o3 := own_lit (((w.alloc o).alloc (.cells #[.int .i64 2] 2)).alloc (.cells #[.int .i64 1, .int .i64 2, .int .i64 1] 2)) [0, 2, 0] (by simp [R64]) (by simp [maxLen])
  simp at o1 o2 o3
  refine ⟨((o1.alloc _).alloc _).mono (by omega), (o2.alloc _).mono (by omega), o3.mono (by omega), ?_, ?_, ?_⟩ <;> (intro k h1 h2; simp [Value.ownBlock] at h1 h2; omega)

set_option maxHeartbeats 400000 in
theorem specE_any (w : World) : Calls Tryz.prog 119 #[] w fun e w' => ∃ h p g, e = .returned (.agg #[h, p, g]) ∧ OwnS w' w.heap.size h p g srcE ∧ Below w.heap.size w w' := by
  go_enter Tryz.func119, Tryz.ntmps119
  go_wp2
  refine bodyPost_ret (v := .agg #[.slice (some ⟨w.heap.size + 1, 0, none⟩) 1 1, .slice (some ⟨w.heap.size + 1 + 1, 0, none⟩) 3 3, .slice (some ⟨w.heap.size + 1 + 1 + 1, 0, none⟩) 3 3]) (by simp only [results, Tryz.results119]; go_simp) rfl ⟨_, _, _, rfl, ?_, ?_⟩
  · exact srcE_own _ _
  · exact ((((Below.refl _ _).alloc (Nat.le_refl _) _).alloc (by simp) _).alloc (by simp; omega) _).alloc (by simp; omega) _

theorem srcE_len : srcE.H.length ≤ 1048576 ∧ srcE.P.length ≤ 1048576 ∧ srcE.G.length ≤ 1048576 := by simp [srcE]

end Go.Proofs.YtndblondleclpaaGreatDoor
