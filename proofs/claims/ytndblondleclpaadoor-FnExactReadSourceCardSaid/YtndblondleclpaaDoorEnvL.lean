/- What the listed variables and the world's shape give; a row with listed variables whose contract is handed the world's shape. Each theorem names its conditions. -/
import Derived.Test.YtndblondleclpaaDoorLaidT
import Derived.Test.YtndblondleclpaaDoorRdI
import Derived.Shelf.Vars
import Derived.LaidMore
namespace Go.Proofs.YtndblondleclpaaDoor
open Go.RowKit
set_option linter.unusedVariables false
set_option maxRecDepth 100000

theorem mx_of_shape {W : World} (h : W.ShapedOpen Tryd.prog) : ∃ m : Int, W.cell? ⟨0, 0, none⟩ = some (.int .i64 m) :=
  cell_of_shapedOpen_int (P := Tryd.prog) (g := 0) (t := 3) (zero := #[.int .i64 0]) h (of_decide_eq_true (by kernel_rfl)) (by kernel_rfl) rfl (by kernel_rfl) (by kernel_rfl) Tryd.underlying3
theorem es_star : "*errors.errorString" = "*" ++ "errors.errorString" := by decide
theorem es_row (u : TypeId) (h : Tryd.prog.typeName? 3 u = some "*errors.errorString") : u = 126 :=
  typeName_ptr_named (nm := "errors.errorString") (by rw [← es_star]; kernel_rfl) (by kernel_rfl) (by decide) u (by rw [← es_star]; exact h)
theorem rng_of_head {W : World} {r : List (String × DataW Unit)} (h : laidMet Tryd.prog (("strconv.ErrRange", Rows.laid_strconv_ErrRange) :: r) W) : ∃ tp p, W.var? Tryd.prog "strconv.ErrRange" = some #[.iface tp p] := by
  obtain ⟨a, s, hv, _⟩ := laid_sentinel h (g := 3) (ti := 76) (tp := 126) (te := 128) (ts := 9) (by kernel_rfl) (by kernel_rfl) Tryd.underlying76 es_row Tryd.underlying126 Tryd.underlying128 rfl rfl Tryd.underlying9 (by kernel_rfl) (by kernel_rfl)
  exact ⟨_, _, hv⟩
theorem syn_of_head {W : World} {r : List (String × DataW Unit)} (h : laidMet Tryd.prog (("strconv.ErrSyntax", Rows.laid_strconv_ErrSyntax) :: r) W) : ∃ tp p, W.var? Tryd.prog "strconv.ErrSyntax" = some #[.iface tp p] := by
  obtain ⟨a, s, hv, _⟩ := laid_sentinel h (g := 2) (ti := 76) (tp := 126) (te := 128) (ts := 9) (by kernel_rfl) (by kernel_rfl) Tryd.underlying76 es_row Tryd.underlying126 Tryd.underlying128 rfl rfl Tryd.underlying9 (by kernel_rfl) (by kernel_rfl)
  exact ⟨_, _, hv⟩

section
variable {H : Type} {enc : TypeId × Value → H}
/-- A row with a premise X on the world, the contract handed the world's shape. -/
theorem handed_shaped {C : Checked} {os : Os} {f : FuncId} {fn : Func} {s : ChangeSpec} {X : World → Array Value → Prop} (hX : ∀ (w w' : World) (args : Array Value), w.heap = w'.heap → X w args → X w' args)
    (own : ownKnob C.prog.godebug = none) (started : os.Started) (noInit : C.prog.inits.idxOf? f = none) (hfn : C.prog.funcs[f]? = some fn)
    (witness : ∃ (w : World) (tape : Tape) (i : Input), w.os = os ∧ (w.forCall tape i).Shaped C.prog ∧ i.vars = [] ∧ Input.okWide C.prog (w.forCall tape i) .any w.heap.size f i ∧
      ((s.pre enc C.prog fn [] false (w.forCall tape i).memory i.args ∧ X (w.forCall tape i).memory i.args) ∧ sizedMet enc C.prog fn (OpenSpec.ofChange s) false (w.forCall tape i).memory i.args) ∧ ({} : Assume).holds C.prog (lone (Frame.enter C.prog f i.args .normal) [] (w.forCall tape i)))
    (contract : ∀ (W : World) (base : Nat) (args : Array Value) (ds gs : List (DataW H)) (before : List MemPlace),
      (∀ (j : Nat) t v, fn.params[j]? = some t → args[j]? = some v → Value.okWide C.prog W .any base t v) →
      DataW.Whole enc C.prog fn.params.toList s.vars false W args.toList ds gs before → X W args → W.ShapedOpen C.prog →
      Calls C.prog f args W fun e W' => ∃ v, e = .returned v ∧ s.post enc C.prog fn false true false false W args v W') :
    ReturnsInHanded {} C os f .any (fun w args => (s.pre enc C.prog fn [] false w args ∧ X w args) ∧ sizedMet enc C.prog fn (OpenSpec.ofChange s) false w args) (s.post enc C.prog fn false true false false) := by
  apply returnsInHanded_of_calls own started noInit witness
  intro w tape i h1 hshape h3 hok hp h6
  have hb : ∀ (j : Nat) t v, fn.params[j]? = some t → i.args[j]? = some v → Value.okWide C.prog (w.forCall tape i) .any w.heap.size t v := by
    obtain ⟨_, _, _, g, hg, _, _, _, _, hv⟩ := hok
    cases Option.some.inj (hg.symm.trans hfn)
    exact hv
  rcases hp with ⟨⟨⟨ds, gs, b, hwhole, _⟩, hx⟩, _⟩
  have hc := contract (w.forCall tape i) w.heap.size i.args ds gs b hb (DataW.Whole.of_heap (w' := w.forCall tape i) (by rfl) hwhole) (hX _ _ _ (by rfl) hx) hshape
  refine hc.mono ?_
  rintro e W' ⟨v, rfl, hpost⟩
  exact ChangeSpec.post_blind hpost
end
end Go.Proofs.YtndblondleclpaaDoor
