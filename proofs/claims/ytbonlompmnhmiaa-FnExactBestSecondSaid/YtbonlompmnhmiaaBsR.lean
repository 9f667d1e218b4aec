/- Best approximations: the reference. Each theorem names its conditions. -/
import Derived.Deep.AppendLies
import Derived.Deep.RegionLaw
import Derived.Test.YtbonlompmnhmiaaBsQ
import Derived.Test.YtbonlompmnhmiaaSecS
import Derived.Test.YtbonlompmnhmiaaLawFS
import Derived.Test.YtbonlompmnhmiaaUpd
namespace Go.Proofs.Ytbonlompmnhmiaa
open Go.RowKit
set_option linter.unusedVariables false
set_option linter.unusedSimpArgs false

theorem OwnF.upd {w w' : World} {B p : Nat} {v : Value} {fs : List (Int × Int)} (h : OwnF w B v fs) (hu : Upd w w' p) (hn : v.ownBlock ≠ some p) : OwnF w' B v fs := h.grown hu (.inr hn)
def RowOf (w : World) (ov v1 : Value) : Prop := ∀ k, v1.ownBlock = some k → ov.ownBlock = some k ∨ w.heap.size ≤ k
theorem own_ne {w : World} {p : Nat} {ov v1 : Value} (hr : RowOf w ov v1) (hp : ov.ownBlock ≠ some p) (hpw : p < w.heap.size) : v1.ownBlock ≠ some p := by
  intro e
  rcases hr p e with h | h
  · exact hp h
  · omega
/-- append(s, f) at a step of a region that draws: f lies at the head of a new block. -/
theorem step_append_fr {w : World} {ops : Array Oper} {o : Oper} {a : Act} {K : Act → World → Prop} {Q : Exit → Act → World → Prop} {E : Prop} (hgd : o.guard = none) (s x : Operand)
    (ho : o.op = .call { callee := .builtin .append, args := #[s, x], argTypes := #[35, 35] })
    (B : Nat) (v : Value) (fs : List (Int × Int)) (hs : a.eval s = v) (hown : OwnF w B v fs) (b : Nat) (n d : Int) (hx : a.eval x = .slice (some ⟨b, 0, none⟩) 1 1) (hb : Bx w b #[.int .i64 n, .int .i64 d])
    (hl : fs.length ≤ 1000000000) (hB : B ≤ w.heap.size)
    (h : ∀ v' w', OwnF w' B v' (fs ++ [(n, d)]) → w.grownBy w' v.ownBlock → (v'.ownBlock = v.ownBlock ∨ v'.ownBlock = some w.heap.size) → K (a.put o.dst v') w') :
    if Region.wanted o (yielded ops a.tmps) = true then Oper.wp Try.prog o a w K Q else E := by
  obtain ⟨i0, hi, hz0, hz1, hz2⟩ := info_parts info_fr
  refine step_append_lies w hgd s x 35 ho B 26 i0 (.agg #[.int .i64 0, .int .i64 0]) 2 16 Try.underlying35 hi hz0 hz1 hz2 rfl (by decide) v fs.length (cellsF fs) hs hown ⟨b, 0, none⟩ 1 1 (cellsF [(n, d)]) hx (by simp [cellsF]) (fun j u hu => ?_) (cellsF_one _) (by omega) (by unfold maxLen; omega) (by omega) hB _ rfl ?_
  · match j, hu with
    | 0, hu => simp [cellsF] at hu; subst hu; simp [Addr.add]; exact hb.out.1 0
    | 1, hu => simp [cellsF] at hu; subst hu; simp [Addr.add]; exact hb.out.1 1
  · intro g c w' a1 a2 a3 a4
    exact h _ w' (by unfold OwnF; rw [cellsF_app, List.length_append]; exact a1) a2 (a3.imp (fun q => q.symm) (fun q => congrArg some q))

set_option maxRecDepth 100000 in
set_option maxHeartbeats 3200000 in
theorem plus_any (a b c e k : Int) (w : World) (h1 : -4000000000000000000 ≤ k * c ∧ k * c ≤ 4000000000000000000) (h2 : -4000000000000000000 ≤ k * e ∧ k * e ≤ 4000000000000000000) (h3 : -4000000000000000000 ≤ a ∧ a ≤ 4000000000000000000) (h4 : -4000000000000000000 ≤ b ∧ b ≤ 4000000000000000000) :
    Calls Try.prog 99 #[.agg #[.int .i64 a, .int .i64 b], .agg #[.int .i64 c, .int .i64 e], .int .i64 k] w fun r w' => r = .returned (.agg #[.int .i64 (a + k * c), .int .i64 (b + k * e)]) ∧ Bl w w' := by
  go_enter Try.func99, Try.ntmps99
  go_wp2
  refine bodyPost_ret (v := .agg #[.int .i64 (a + k * c), .int .i64 (b + k * e)]) (by simp only [results, Try.results99]; go_simp) rfl ?_
  refine ⟨rfl, ?_⟩
  repeat first | (with_reducible assumption) | (with_reducible exact bl_refl _) | (with_reducible refine bl_alloc ?_ _) | (with_reducible refine bl_dN ?_ _) | (with_reducible refine bl_drew ?_) | (with_reducible refine bl_set ?_ (by first | exact Nat.le_refl _ | omega | (simp; done) | (simp; omega)) _)

def SeeP (w : World) (p B : Nat) (n d : Int) (sec : Bool) (ov : Value) (R : List (Int × Int) × Bool) (e : Ending) (w' : World) : Prop :=
  e = .returned (.tuple #[]) ∧ Upv w w' p ov ∧ ∃ v1 : Value, Bx w' p #[.int .i64 n, .int .i64 d, .bool sec, v1, .bool R.2] ∧ OwnF w' B v1 R.1 ∧ RowOf w ov v1
theorem see_mk {w w' : World} {p B : Nat} {n d : Int} {sec b : Bool} {ov v1 : Value} {L : List (Int × Int)} {R : List (Int × Int) × Bool} (hR : R = (L, b)) (hu : Upv w w' p ov) (hx : Bx w' p #[.int .i64 n, .int .i64 d, .bool sec, v1, .bool b]) (ho : OwnF w' B v1 L) (hr : RowOf w ov v1) : SeeP w p B n d sec ov R (.returned (.tuple #[])) w' := by
  subst hR; exact ⟨rfl, hu, v1, hx, ho, hr⟩
theorem sfirst_eq {n d x y : Int} {b : Bool} (h : firstF n d x y = b) (w : World) (ok : Sm2 n d x y) : Calls Try.prog 86 #[.agg #[.int .i64 n, .int .i64 d], .agg #[.int .i64 x, .int .i64 y]] w fun r w' => r = .returned (.bool b) ∧ Bl w w' := h ▸ sfirst_any n d x y w ok
theorem ssec_eq {n d x y : Int} {b : Bool} (h : secondF n d x y = b) (w : World) (ok : Sm2 n d x y) : Calls Try.prog 87 #[.agg #[.int .i64 n, .int .i64 d], .agg #[.int .i64 x, .int .i64 y]] w fun r w' => r = .returned (.bool b) ∧ Bl w w' := h ▸ second_any n d x y w ok

end Go.Proofs.Ytbonlompmnhmiaa
