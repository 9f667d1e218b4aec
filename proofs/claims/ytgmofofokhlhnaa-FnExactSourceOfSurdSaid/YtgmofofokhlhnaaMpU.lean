/- Surds: a map from surds to places that the call makes. Each theorem names its conditions. -/
import Derived.Test.YtgmofofokhlhnaaSurdM
import Derived.Maps.OwnSet
import Derived.DeepKeys4
namespace Go.Proofs.Ytgmofofokhlhnaa
open Go.RowKit Go.Maps
set_option linter.unusedVariables false
set_option linter.unusedSimpArgs false
set_option maxRecDepth 100000

abbrev agU (p d q : Int) : Value := .agg #[.int .i64 p, .int .i64 d, .int .i64 q]
theorem laidU : laidOutB Try.prog = true := by kernel_rfl
theorem rowU : (82 : TypeId) < Try.prog.types.size := of_decide_eq_true (by kernel_rfl)
theorem wideU : (match Try.prog.underlying 82 with | some (.array _ _) | some (.struct _) => true | _ => false) = true := by kernel_rfl
theorem lawU : Keyed Try.prog 82 := Keyed.of_law (deep_law_laid laidU (m := 2) (by omega) rowU (by kernel_rfl) wideU)
theorem keytU : Try.prog.keyType 82 = true := by kernel_rfl
theorem zeroU (w : World) : (zeroValue 3).run Try.prog w = .ok (.int .i64 0) w := by kernel_rfl
theorem szU : ∃ m, Try.prog.types.size = m + 2 := ⟨Try.prog.types.size - 2, by have h : 2 ≤ Try.prog.types.size := of_decide_eq_true (by kernel_rfl); omega⟩
theorem keyU {p d q : Int} (hp : R64 p) (hd : R64 d) (hq : R64 q) : ∃ kl, keyOf Try.prog 82 (agU p d q) = some kl := by
  have hkt := keytU
  obtain ⟨m, hm⟩ := szU
  have wp := WalkArith.wf_i64 hp
  have wd := WalkArith.wf_i64 hd
  have wq := WalkArith.wf_i64 hq
  have c1 : Try.prog.cellsOf 2 = 1 := by kernel_rfl
  have c3 : Try.prog.cellsOf 82 = 3 := by kernel_rfl
  have ui := Try.underlying2
  unfold keyOf
  simp only [Try.underlying82]
  rw [if_pos (by simp [hkt, agU, Value.formed, Try.underlying82, c3]), hm]
  unfold Program.keyLits
  simp only [Try.underlying82, Value.cells, agU]
  rw [if_pos (by rw [c3]; refine ⟨rfl, by simp⟩)]
  simp [c1, Program.keyLits, ui, wp, wd, wq]

/-- A map of the call's own from the surds of a list to their places. -/
def MpU (w : World) (b : Nat) (L : List Sud) : Prop :=
  ∃ D : DataW Unit, w.ownsMap Try.prog 82 (plainElem Try.prog 3) b L.length D ∧ IsMap D ∧
    ∀ (p d q : Int) (kl : Lit), keyOf Try.prog 82 (agU p d q) = some kl → has D kl = (fiU (p, d, q) L 0).isSome ∧ ∀ k, fiU (p, d, q) L 0 = some k → D.atKey kl (.lit (.int .i64 0)) = .lit (.int .i64 (k : Nat))
theorem MpU.made (w : World) : MpU (w.alloc (.map #[] 0)) w.heap.size [] :=
  ⟨.map [], World.ownsMap_made _ _ _ _, isMap_empty, fun p d q kl h => ⟨rfl, fun k e => by cases e⟩⟩
theorem MpU.lt {w : World} {b : Nat} {L : List Sud} (h : MpU w b L) : b < w.heap.size := by
  obtain ⟨D, h, _⟩ := h
  exact h.lt
theorem MpU.kept {w w' : World} {b : Nat} {L : List Sud} {row : Option Nat} (h : MpU w b L) (hg : w.grownBy w' row) (hne : some b ≠ row) : MpU w' b L := by
  obtain ⟨D, h, r⟩ := h
  exact ⟨D, h.kept hg hne, r⟩
theorem MpU.below {w w' : World} {b : Nat} {L : List Sud} (h : MpU w b L) (hb : Bl w w') : MpU w' b L := h.kept (grown_of_below hb none) (by simp)
theorem MpU.drew {w : World} {b : Nat} {L : List Sud} (h : MpU w b L) : MpU w.drew b L := h
theorem MpU.far {w : World} {b : Nat} {L : List Sud} (h : MpU w b L) {p : Addr} (hp : b ≠ p.block) (u : Value) : MpU (w.setCell p u) b L :=
  h.kept (row := some p.block) ⟨rfl, rfl, rfl, by simp, fun k hk hne => Below.heap_setCell w p u k (fun e => hne (by rw [e]))⟩ (by simpa using hp)
theorem fiU_app {x s : Sud} (L : List Sud) : ∀ k, fiU x (L ++ [s]) k = match fiU x L k with | some j => some j | none => if s = x then some (k + L.length) else none := by
  induction L with
  | nil => intro k; simp [fiU]
  | cons y L ih =>
    intro k
    simp only [List.cons_append, fiU]
    by_cases h : y = x
    · simp [h]
    · simp only [h, if_false]
      rw [ih]
      simp only [List.length_cons, show k + 1 + L.length = k + (L.length + 1) by omega]
/-- The look-up. -/
theorem MpU.look {w : World} {b : Nat} {L : List Sud} {p d q : Int} (h : MpU w b L) (hp : R64 p) (hd : R64 d) (hq : R64 q) :
    ∃ c : Int, (∀ {em : Bool}, em = true → (Instr.lookup 200 (.map (some b)) (agU p d q) em).run Try.prog w = .ok (.tuple #[.int .i64 c, .bool (fiU (p, d, q) L 0).isSome]) w) ∧ ∀ k, fiU (p, d, q) L 0 = some k → c = (k : Nat) := by
  obtain ⟨D, ho, hm, hr⟩ := h
  obtain ⟨kl, hk⟩ := keyU hp hd hq
  obtain ⟨v, ps, hrun, hv⟩ := ho.look_ok lawU Try.underlying200 (zeroU w) (plainElem_int Try.underlying3 (by decide)) hk
  obtain ⟨c, rfl, hc, hwc⟩ := plainElem_int_inv Try.underlying3 hv
  simp only [Prod.mk.injEq] at hc
  obtain ⟨e1, e2⟩ := hr p d q kl hk
  refine ⟨c, fun he => by rw [he, hrun, e1], fun k hf => ?_⟩
  have := (e2 k hf).symm.trans hc.1
  injection this with this
  injection this with _ this
  exact this.symm
/-- The store at a key that is not there. -/
theorem MpU.store {w : World} {b : Nat} {L : List Sud} {p d q : Int} (h : MpU w b L) (hp : R64 p) (hd : R64 d) (hq : R64 q) (hl : L.length ≤ 400) (hn : fiU (p, d, q) L 0 = none) :
    ∃ w', (Instr.mapUpdate 200 (.map (some b)) (agU p d q) (.int .i64 L.length)).run Try.prog w = .ok () w' ∧ MpU w' b (L ++ [(p, d, q)]) ∧ w.grownBy w' (some b) := by
  obtain ⟨D, ho, hm, hr⟩ := h
  obtain ⟨kl, hk⟩ := keyU hp hd hq
  obtain ⟨w', hrun, ho', hg⟩ := ho.update lawU Try.underlying200 (by unfold maxLen; omega) hk (plainElem_int Try.underlying3 (WalkArith.wf_i64 (n := (L.length : Int)) (by omega)))
  refine ⟨w', hrun, ⟨_, by rw [List.length_append]; exact ho', hm.put _ _, fun p1 d1 q1 kl1 hk1 => ?_⟩, hg⟩
  by_cases he : (p1, d1, q1) = (p, d, q)
  · simp only [Prod.mk.injEq] at he
    obtain ⟨rfl, rfl, rfl⟩ := he
    obtain rfl : kl1 = kl := by rw [hk] at hk1; injection hk1 with e; exact e.symm
    have hf : fiU (p1, d1, q1) (L ++ [(p1, d1, q1)]) 0 = some L.length := by rw [fiU_app, hn]; simp
    refine ⟨by rw [has_put_same hm (lawU.key hk), hf]; rfl, fun k e => ?_⟩
    rw [hf] at e
    injection e with e
    rw [← e]
    exact atKey_put_same hm (lawU.key hk) _ _
  · have hkk : kl1 ≠ kl := by
      intro e
      subst e
      have := lawU.inj hk hk1
      simp only [agU, Value.agg.injEq] at this
      have := congrArg Array.toList this
      simp at this
      exact he (by simp [this.1, this.2.1, this.2.2])
    have hf : fiU (p1, d1, q1) (L ++ [(p, d, q)]) 0 = fiU (p1, d1, q1) L 0 := by
      rw [fiU_app]
      have e2 : ¬ (p, d, q) = (p1, d1, q1) := fun e => he e.symm
      cases fiU (p1, d1, q1) L 0 with
      | some j => rfl
      | none => simp only [if_neg e2]
    rw [hf, has_put_other hkk, atKey_put_other hkk]
    exact hr p1 d1 q1 kl1 hk1

end Go.Proofs.Ytgmofofokhlhnaa
