/- How a law's surds are opened. No condition. -/
import Derived.Test.YtgmofofokhlhnaaOpenS
import Derived.Test.YtgmofofokhlhnaaOpenSrc
import Derived.Test.YtgmofofokhlhnaaSurdK
namespace Go.Proofs.Ytgmofofokhlhnaa
open Go.RowKit Go.ChangeShapes Go.WideShapes Go.ChangeAt Go.Deep
set_option linter.unusedVariables false
set_option linter.unusedSimpArgs false
set_option maxRecDepth 100000

section
variable {H : Type} {enc : TypeId × Value → H}
theorem surd_of_trod {W : World} {v : Value} {d : DataW H} {p : List MemPlace} {r : Reach} {b0 : Nat} (hv : Value.okWide Try.prog W r b0 80 v) (h : DataW.Trod enc Try.prog W 0 (fun _ => true) true 80 v d p) :
    ∃ n e f : Int, v = .agg #[.int .i64 n, .int .i64 e, .int .i64 f] ∧ R64 n ∧ R64 e ∧ R64 f := by
  obtain ⟨v0, v1, v2, y0, y1, y2, m, rfl, _, _, h0, h1, h2⟩ := Go.Joins.open_agg3 Try.underlying80 (by kernel_rfl) (by kernel_rfl) hv h
  obtain ⟨a, e0, _, wa⟩ := DataW.trod_int Try.underlying2 h0
  obtain ⟨b, e1, _, wb⟩ := DataW.trod_int Try.underlying2 h1
  obtain ⟨c, e2, _, wc⟩ := DataW.trod_int Try.underlying2 h2
  simp only [List.cons.injEq, and_true] at e0 e1 e2
  subst e0 e1 e2
  exact ⟨a, b, c, rfl, r64_of_wf wa, r64_of_wf wb, r64_of_wf wc⟩
end
set_option maxHeartbeats 1600000 in
theorem toSu_any (n e f : Int) (w : World) :
    Calls Try.prog 60 #[.agg #[.int .i64 n, .int .i64 e, .int .i64 f]] w fun r w' => r = .returned (.agg #[.int .i64 n, .int .i64 e, .int .i64 f]) ∧ Bl w w' := by
  go_enter Try.func60, Try.ntmps60
  go_wp2
  refine bodyPost_ret (v := .agg #[.int .i64 n, .int .i64 e, .int .i64 f]) (by simp only [results, Try.results60]; go_simp) rfl ⟨rfl, ?_⟩
  exact bl_alloc (bl_alloc (bl_alloc (bl_refl _) _) _) _
theorem surdF_len (p d q : Int) : (surdF p d q).1.H.length ≤ 1048576 ∧ (surdF p d q).1.P.length ≤ 1048576 ∧ (surdF p d q).1.G.length ≤ 1048576 := by
  have nil : ∀ c : Int, ((⟨[], [], []⟩, c) : Src × Int).1.H.length ≤ 1048576 ∧ ((⟨[], [], []⟩, c) : Src × Int).1.P.length ≤ 1048576 ∧ ((⟨[], [], []⟩, c) : Src × Int).1.G.length ≤ 1048576 := fun c => by simp
  cases hok : okU p d q with
  | false => rw [surdF_bad hok]; exact nil 1
  | true =>
    cases hw : wkF [] [] (p, d, q) with
    | none => rw [surdF_full hok hw]; exact nil 5
    | some r =>
      cases ho : okSrc (srcU r) with
      | false => rw [surdF_no hok hw ho]; exact nil 5
      | true =>
        rw [surdF_yes hok hw ho]
        have k := okSrc_iff.1 ho
        have h1 := k.h30; have h2 := k.p30; have h3 := k.gp
        exact ⟨by show (srcU r).H.length ≤ _; omega, by show (srcU r).P.length ≤ _; omega, by show (srcU r).G.length ≤ _; omega⟩

end Go.Proofs.Ytgmofofokhlhnaa
