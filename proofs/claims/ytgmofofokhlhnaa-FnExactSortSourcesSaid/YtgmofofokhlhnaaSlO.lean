/- How a list of sources is opened. No condition. -/
import Derived.Test.YtgmofofokhlhnaaOpenS
import Derived.Test.YtgmofofokhlhnaaSl
import Derived.Deep.Slices
namespace Go.Proofs.Ytgmofofokhlhnaa
open Go.RowKit Go.ChangeShapes Go.WideShapes Go.ChangeAt
set_option linter.unusedVariables false
set_option linter.unusedSimpArgs false
set_option maxRecDepth 100000
section
variable {H : Type} {enc : TypeId × Value → H} {W : World}

theorem srcs_of_trod {v : Value} {d : DataW H} {p : List MemPlace} {r : Reach} {b0 : Nat} (hv : Value.okWide Try.prog W r b0 63 v) (h : DataW.Trod enc Try.prog W 0 (fun _ => true) true 63 v d p) :
    ∃ ss, SlL W v ss := by
  obtain ⟨a, l, c, rfl⟩ := okWide_slice Try.underlying63 hv
  obtain ⟨fuel, hf⟩ := h
  have hf : DataW.trod enc Try.prog W 0 (fun _ => true) true fuel 63 [.slice a l c] = some (d, p) := by simpa [Value.cells] using hf
  rcases Go.Deep.open_slice Try.underlying63 hf with ⟨hcs, _⟩ | ⟨a', len, cap, m, n, D, Pl, hcs, _, hl, hm, hmm, _, hx⟩
  · simp at hcs
    obtain ⟨rfl, rfl, rfl⟩ := hcs
    exact ⟨[], none, 0, rfl, by simp, by simp [maxLen], fun _ => rfl, by simp⟩
  · simp at hcs
    obtain ⟨rfl, rfl, rfl⟩ := hcs
    have hlm : l ≤ m := by rw [hmm]; split <;> omega
    have c3 : Try.prog.cellsOf 42 = 3 := by kernel_rfl
    have c1 : Try.prog.cellsOf 24 = 1 := by kernel_rfl
    have each : ∀ i, i < l → ∃ q : Value × Value × Value × Src, W.cell? (a'.add (i * 3)) = some q.1 ∧ W.cell? (a'.add (i * 3 + 1)) = some q.2.1 ∧ W.cell? (a'.add (i * 3 + 2)) = some q.2.2.1 ∧ SlS W q.1 q.2.1 q.2.2.1 q.2.2.2 := by
      intro i hi
      obtain ⟨cs', h1, h2⟩ := hx i (by omega)
      rw [c3] at h1
      obtain ⟨_, hlen, hcell⟩ := World.cells?_some h1
      obtain ⟨xs, k, hk, hxy, _, hxl, hf⟩ := DataW.trod_struct Try.underlying42 h2
      match xs, hxl, cs', hlen with
      | [y0, y1, y2], _, [v0, v1, v2], _ =>
        have g0 := hf 0 _ rfl
        have g1 := hf 1 _ rfl
        have g2 := hf 2 _ rfl
        simp [c1] at g0 g1 g2
        have e0 := hcell 0 (by omega)
        have e1 := hcell 1 (by omega)
        have e2 := hcell 2 (by omega)
        rw [Go.Deep.add_add] at e0 e1 e2
        obtain ⟨x0, s0⟩ := sl_of_trod g0
        obtain ⟨x1, s1⟩ := sl_of_trod g1
        obtain ⟨x2, s2⟩ := sl_of_trod g2
        exact ⟨(v0, v1, v2, ⟨x0, x1, x2⟩), by simpa using e0, by simpa using e1, by simpa using e2, s0, s1, s2⟩
    have hdef : Inhabited (Value × Value × Value × Src) := ⟨(.slice none 0 0, .slice none 0 0, .slice none 0 0, ⟨[], [], []⟩)⟩
    obtain ⟨q, hq⟩ := Go.Deep.choose_lt each
    refine ⟨(List.range l).map fun i => (q i).2.2.2, some a', c, by simp, by simpa using hl, hm, by simp, fun i s hs => ?_⟩
    have hil : i < l := by have := (List.getElem?_eq_some_iff.1 hs).1; simpa using this
    obtain ⟨e0, e1, e2, e3⟩ := hq i hil
    simp [hil] at hs
    subst hs
    obtain ⟨b, off, spot⟩ := a'
    have hspot : spot = none := by
      have hz := (hq 0 (by omega)).1
      simpa [Addr.add] using World.cell?_spot hz
    subst hspot
    have ha : ∀ k, (⟨b, off, none⟩ : Addr).add k = ⟨b, off + k, none⟩ := fun k => by
      unfold Addr.add
      split
      · rename_i h0; subst h0; rfl
      · rfl
    rw [ha] at e0 e1 e2
    exact ⟨b, off, _, _, _, rfl, ⟨e0, e1, e2⟩, e3⟩

end

end Go.Proofs.Ytgmofofokhlhnaa
