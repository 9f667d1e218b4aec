/- A source in its short form: the program's own form of it, and its terms. Each theorem names its conditions. -/
import Derived.Test.YtgmofofokhlhnaaShort
import Derived.Test.YtgmofofokhlhnaaTerm
namespace Go.Proofs.Ytgmofofokhlhnaa
open Go.RowKit
set_option linter.unusedVariables false
set_option linter.unusedSimpArgs false

/-- A source with the terms of its short form. -/
def plainS (s : Src) : Src := if s.P.length = 0 then ⟨shortL s.H, [], []⟩ else s
/-- The program's short source, written out. -/
abbrev shV (a1 : Option Addr) (n1 c1 : Nat) (a2 : Option Addr) (n2 c2 : Nat) (a3 : Option Addr) (n3 c3 : Nat) (a4 : Option Addr) (n4 c4 : Nat) (b : Bool) : Value :=
  .agg #[.slice a1 n1 c1, .slice a2 n2 c2, .slice a3 n3 c3, .slice a4 n4 c4, .bool b]
def ShS (w : World) (a1 : Option Addr) (n1 c1 : Nat) (a2 : Option Addr) (n2 c2 : Nat) (a3 : Option Addr) (n3 c3 : Nat) (a4 : Option Addr) (n4 c4 : Nat) (b : Bool) (s : Src) : Prop :=
  OkPer s ∧ ((s.P.length ≠ 0 ∧ b = false ∧ SlS w (.slice a1 n1 c1) (.slice a2 n2 c2) (.slice a3 n3 c3) s) ∨ (s.P = [] ∧ b = true ∧ Sl w (.slice a4 n4 c4) s.H))
theorem ShS.below {w w' : World} {a1 : Option Addr} {n1 c1 : Nat} {a2 : Option Addr} {n2 c2 : Nat} {a3 : Option Addr} {n3 c3 : Nat} {a4 : Option Addr} {n4 c4 : Nat} {b : Bool} {s : Src} (x : ShS w a1 n1 c1 a2 n2 c2 a3 n3 c3 a4 n4 c4 b s) (hb : Bl w w') : ShS w' a1 n1 c1 a2 n2 c2 a3 n3 c3 a4 n4 c4 b s := by
  obtain ⟨o, x⟩ := x
  refine ⟨o, ?_⟩
  rcases x with ⟨h1, e, a⟩ | ⟨h1, e, a⟩
  · exact .inl ⟨h1, e, a.below hb⟩
  · exact .inr ⟨h1, e, a.below hb⟩
theorem okPer_fin {xs : List Int} (h : xs.length ≤ 1000) : OkPer ⟨xs, [], []⟩ := ⟨h, by simp, rfl, by simp, by simp⟩
theorem OkSrc.okPlain {s : Src} (x : OkSrc s) : OkPer (plainS s) := by
  unfold plainS
  split
  · exact okPer_fin (by have := shortL_len s.H; have := x.h30; omega)
  · exact x.okPer
theorem OkSrc.hb {s : Src} (x : OkSrc s) : ∀ y ∈ s.H, y ≤ 2000000000 := fun y hy => by
  obtain ⟨i, hi⟩ := List.getElem?_of_mem hy
  have := (x.hd i y hi).2
  omega

set_option maxRecDepth 100000 in
set_option maxHeartbeats 1600000 in
theorem at_any (a1 : Option Addr) (n1 c1 : Nat) (a2 : Option Addr) (n2 c2 : Nat) (a3 : Option Addr) (n3 c3 : Nat) (a4 : Option Addr) (n4 c4 : Nat) (b : Bool) (s : Src) (k : Int) (w : World) (hs : ShS w a1 n1 c1 a2 n2 c2 a3 n3 c3 a4 n4 c4 b s) (h0 : 0 ≤ k) (h1 : k ≤ 1000000) :
    Calls Try.prog 88 #[.agg #[.slice a1 n1 c1, .slice a2 n2 c2, .slice a3 n3 c3, .slice a4 n4 c4, .bool b], .int .i64 k] w fun e w' => e = .returned (.tuple #[.int .i64 (termP s k.toNat).1, .bool (termP s k.toNat).2]) ∧ Bl w w' := by
  obtain ⟨ok, hs⟩ := hs
  rcases hs with ⟨hp, rfl, a⟩ | ⟨hp, rfl, a⟩
  · go_enter Try.func88, Try.ntmps88
    go_wp2_with fail
    refine (iterm_any _ _ _ s k _ (a.alloc _) ok h0 h1).mono ?_
    rintro e w1 ⟨rfl, hb1⟩
    go_wp2
    go_ret2
    exact ⟨rfl, bl_call (bl_alloc (bl_refl _) _) hb1⟩
  · obtain ⟨K, rfl⟩ := Int.eq_ofNat_of_zero_le h0
    have hK : K ≤ 1000000 := by omega
    clear h0 h1
    rw [Int.toNat_natCast]
    have hl := ok.h30
    obtain ⟨al, cl, e4, hcl⟩ := a.form
    simp only [Value.slice.injEq] at e4
    obtain ⟨q1, q2, q3⟩ := e4
    subst q1 q2 q3
    rcases Nat.lt_or_ge K s.H.length with hk | hk
    · obtain ⟨b, o, rfl, x, hxx, hcx, hrx⟩ := a.cellAt (bl_alloc (bl_refl w) (.cells #[.slice a1 n1 c1, .slice a2 n2 c2, .slice a3 n3 c3, .slice a4 s.H.length c4, .bool true] 107)) hk
      have HR := Lib.hid (show (x, true) = termP s K by rw [termP, if_pos hk]; simp [hxx])
      clear hxx
      go_enter Try.func88, Try.ntmps88
      go_wp2_with (go_at_call 98; refine (lsize_any _ _ _ _ (by omega)).mono ?_; rintro e w' ⟨rfl, rfl⟩)
      go_ret2
      exact ⟨ret_ib HR.out, bl_alloc (bl_refl _) _⟩
    · have HR := Lib.hid (show ((0 : Int), false) = termP s K by rw [termP, if_neg (by omega), if_pos (by simp [hp])])
      go_enter Try.func88, Try.ntmps88
      go_wp2_with (go_at_call 98; refine (lsize_any _ _ _ _ (by omega)).mono ?_; rintro e w' ⟨rfl, rfl⟩)
      go_ret2
      exact ⟨ret_ib HR.out, bl_alloc (bl_refl _) _⟩

set_option maxRecDepth 100000 in
set_option maxHeartbeats 1600000 in
theorem shortOf_any (h p g : Value) (s : Src) (w : World) (hs : SlS w h p g s) (ok : OkSrc s) :
    Calls Try.prog 81 #[.agg #[h, p, g]] w fun e w' => ∃ a1 n1 c1 a2 n2 c2 a3 n3 c3 a4 n4 c4 b, e = .returned (.agg #[.slice a1 n1 c1, .slice a2 n2 c2, .slice a3 n3 c3, .slice a4 n4 c4, .bool b]) ∧ ShS w' a1 n1 c1 a2 n2 c2 a3 n3 c3 a4 n4 c4 b (plainS s) ∧ Bl w w' := by
  obtain ⟨ah, ch, rfl, hch⟩ := hs.1.form
  obtain ⟨ap, cp, rfl, hcp⟩ := hs.2.1.form
  obtain ⟨ag, cg, rfl, hcg⟩ := hs.2.2.form
  have hpl := ok.p30
  by_cases c : s.P.length = 0
  · have HP := Lib.hid (show plainS s = ⟨shortL s.H, [], []⟩ by rw [plainS, if_pos c])
    have cb : decide (0 < s.P.length) = false := by simp [c]
    have HC := Lib.hid c
    clear c
    rw [HP.out]
    go_enter Try.func81, Try.ntmps81
    go_wp2_with fail
    refine (shortI_any _ s.H _ ((hs.1.alloc _).alloc _) (by have := ok.h30; omega) ok.hb).mono ?_
    rintro e w1 ⟨a, c, rfl, ho, hb1⟩
    have B1 : Bl w w1 := bl_call (bl_alloc (bl_alloc (bl_refl _) _) _) hb1
    have x1 : Bx w1 (w.heap.size + 1) #[.slice none 0 0, .slice none 0 0, .slice none 0 0, .slice none 0 0, .bool false] := (Bx.new (b := w.heap.size + 1) _ _ 107 (by simp)).below hb1
    obtain ⟨cx, fx, zx⟩ := x1.out
    have HO := Lib.hid ho
    clear ho
    go_wp2
    refine bodyPost_ret (v := .agg #[.slice none 0 0, .slice none 0 0, .slice none 0 0, .slice a (shortL s.H).length c, .bool true]) (by simp only [results, Try.results81]; go_simp) rfl ?_
    refine ⟨none, 0, 0, none, 0, 0, none, 0, 0, a, _, c, true, rfl, ⟨okPer_fin (by have := shortL_len s.H; have := ok.h30; omega), .inr ⟨rfl, rfl, ?_⟩⟩, ?_⟩
    · refine Own.sl (B := ((w.alloc (.cells #[.slice ah s.H.length ch, .slice ap s.P.length cp, .slice ag s.G.length cg] 26)).alloc (.cells #[.slice none 0 0, .slice none 0 0, .slice none 0 0, .slice none 0 0, .bool false] 107)).heap.size) ?_
      repeat first | (with_reducible exact HO.out) | (with_reducible refine Own.setCell ?_ (by simp) _)
    · repeat first | (with_reducible exact B1) | (with_reducible refine bl_set ?_ (by simp) _)
  · have HP := Lib.hid (show plainS s = s by rw [plainS, if_neg c])
    have cb : decide (0 < s.P.length) = true := by simp; omega
    have HC := Lib.hid c
    clear c
    rw [HP.out]
    go_enter Try.func81, Try.ntmps81
    go_wp2
    refine bodyPost_ret (v := .agg #[.slice ah s.H.length ch, .slice ap s.P.length cp, .slice ag s.G.length cg, .slice none 0 0, .bool false]) (by simp only [results, Try.results81]; go_simp) rfl ?_
    exact ⟨_, _, _, _, _, _, _, _, _, none, 0, 0, false, rfl, ⟨ok.okPer, .inl ⟨HC.out, rfl, (hs.alloc _).alloc _⟩⟩, bl_alloc (bl_alloc (bl_refl _) _) _⟩

end Go.Proofs.Ytgmofofokhlhnaa
