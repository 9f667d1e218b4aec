/- Functions of two numbers: the reference feeds a term. Each theorem names its conditions. -/
import Derived.Test.YtgmofofokhlhnaaDb7
import Derived.Test.YtgmofofokhlhnaaDb8
namespace Go.Proofs.Ytgmofofokhlhnaa
open Go.RowKit
set_option linter.unusedVariables false
set_option linter.unusedSimpArgs false


theorem sl_cell {w w' : World} {b o n c k : Nat} {xs : List Int} (h : Sl w (.slice (some ⟨b, o, none⟩) n c) xs) (hb : Bl w w') (hk : k < xs.length) : ∃ t, xs[k]? = some t ∧ w'.cell? ⟨b, o + k, none⟩ = some (.int .i64 t) := by
  obtain ⟨b', o', e, t, ht, hc, _⟩ := h.cellAt' hb hk
  injection e with e; injection e with e1 e2; subst e1 e2
  exact ⟨t, ht, hc⟩
theorem sl_dropA {w : World} {b o n c k : Nat} {xs : List Int} (h : Sl w (.slice (some ⟨b, o, none⟩) n c) xs) (hk : k ≤ xs.length) : Sl w (.slice (some ⟨b, o + k, none⟩) (xs.length - k) (c - k)) (xs.drop k) := by
  obtain ⟨a', cap, e, h1, h2, h3, h4, h5⟩ := h
  simp only [Value.slice.injEq] at e
  obtain ⟨rfl, rfl, rfl⟩ := e
  refine ⟨some ⟨b, o + k, none⟩, c - k, by simp, by simp; omega, by unfold maxLen at *; omega, fun x hx => h3 x (List.mem_of_mem_drop hx), by simp, ?_⟩
  rcases h5 with h5 | ⟨b', off, e, hc⟩
  · subst h5; exact .inl (by simp)
  · simp only [Option.some.injEq, Addr.mk.injEq] at e
    obtain ⟨rfl, rfl, _⟩ := e
    refine .inr ⟨_, _, rfl, fun i x hx => ?_⟩
    rw [List.getElem?_drop] at hx
    have := hc (k + i) x hx
    rw [show o + k + i = o + (k + i) by omega]
    exact this
theorem sl_dropB {w : World} {b o n c k : Nat} {xs : List Int} (h : Sl w (.slice (some ⟨b, o, none⟩) n c) xs) (hk : k ≤ xs.length) (hc : c = k) : Sl w (.slice (some ⟨b, o, none⟩) (xs.length - k) 0) (xs.drop k) := by
  obtain ⟨a', cap, e, h1, h2, h3, h4, h5⟩ := h
  simp only [Value.slice.injEq] at e
  obtain ⟨rfl, rfl, rfl⟩ := e
  exact ⟨some ⟨b, o, none⟩, 0, by simp, by simp; omega, by unfold maxLen at *; omega, fun x hx => h3 x (List.mem_of_mem_drop hx), by simp, .inl (List.drop_eq_nil_iff.2 (by omega))⟩
theorem drop_bd {xs : List Int} {k : Nat} (h : termsP xs = true) (hk : 1 ≤ k) : ∀ t ∈ xs.drop k, 1 ≤ t ∧ t ≤ 1000000000 := fun t ht => by
  obtain ⟨j, hj⟩ := List.getElem?_of_mem ht
  rw [List.getElem?_drop] at hj
  have := inB_iff.1 ((termsP_iff.1 h).2 (k + j) t hj)
  unfold lowT at this
  rw [if_neg (by omega)] at this
  exact this
theorem bdS_leX {d : Db} (h : bdD d = true) : bdS (leX d) = true := by
  have h := bdD_iff.1 h
  exact bdS_iff.2 ⟨h.1, h.2.1, h.2.2.2.2.1, h.2.2.2.2.2.1⟩
theorem bdS_leY {d : Db} (h : bdD d = true) : bdS (leY d) = true := by
  have h := bdD_iff.1 h
  exact bdS_iff.2 ⟨h.1, h.2.2.1, h.2.2.2.2.1, h.2.2.2.2.2.2.1⟩
theorem okD_bd {d : Db} (h : okD d = true) : bdD d = true := by unfold okD at h; simp at h; exact h.1
theorem EmD.shb {d : Db} {out : List Int} (h : EmD d out) : ∀ x ∈ out, x ≤ 2000000000 := fun x hx => by have := h.leX.bds x hx; omega
theorem iokD_eq {d : Db} {b : Bool} (h : okD d = b) (w : World) : Calls Try.prog 126 #[.agg #[.int .i64 d.a, .int .i64 d.b, .int .i64 d.c, .int .i64 d.d, .int .i64 d.e, .int .i64 d.f, .int .i64 d.g, .int .i64 d.h]] w fun e w' => e = .returned (.bool b) ∧ Bl w w' := h ▸ iokD_any d w
theorem finp_is {R R' : List Int × Int} {w0 w' : World} {e : Ending} (h : R = R') (hf : FinP R' w0 e w') : FinP R w0 e w' := by rw [h]; exact hf

end Go.Proofs.Ytgmofofokhlhnaa
