/- Some of the texts of this claim, joined in one file: At, Plain, PlO, TlA. -/
import Derived.Test.YtgkelemfbmmgnaaShort
import Derived.Test.YtgkelemfbmmgnaaTerm
import Derived.Test.YtgkelemfbmmgnaaSurdW
import Derived.ArgAppend
/- A source in its short form: the program's own form of it, and its terms. Each theorem names its conditions. -/
namespace Go.Proofs.Ytgkelemfbmmgnaa
open Go.RowKit
set_option linter.unusedVariables false
set_option linter.unusedSimpArgs false

/-- A source with the terms of its short form. -/
def plainS (s : Src) : Src := if s.P.length = 0 then ⟨shortL s.H, [], []⟩ else s
/-- The program's short source, written out. -/
abbrev shV (a1 : Option Addr) (n1 c1 : Nat) (a2 : Option Addr) (n2 c2 : Nat) (a3 : Option Addr) (n3 c3 : Nat) (a4 : Option Addr) (n4 c4 : Nat) (b : Bool) : Value :=
  .agg #[.slice a1 n1 c1, .slice a2 n2 c2, .slice a3 n3 c3, .slice a4 n4 c4, .bool b]
def ShS (w : World) (a1 : Option Addr) (n1 c1 : Nat) (a2 : Option Addr) (n2 c2 : Nat) (a3 : Option Addr) (n3 c3 : Nat) (a4 : Option Addr) (n4 c4 : Nat) (b : Bool) (s : Src) : Prop :=
  OkPer s ∧ ((s.P.length ≠ 0 ∧ b = false ∧ SlS w (.slice a1 n1 c1) (.slice a2 n2 c2) (.slice a3 n3 c3) s) ∨ (s.P = [] ∧ b = true ∧ Sl w (.slice a4 n4 c4) s.H))
theorem ShS.below {w w' : World} {a1 : Option Addr} {n1 c1 : Nat} {a2 : Option Addr} {n2 c2 : Nat} {a3 : Option Addr} {n3 c3 : Nat} {a4 : Option Addr} {n4 c4 : Nat} {b : Bool} {s : Src} (x : ShS w a1 n1 c1 a2 n2 c2 a3 n3 c3 a4 n4 c4 b s) (hb : Bl w w') : ShS w' a1 n1 c1 a2 n2 c2 a3 n3 c3 a4 n4 c4 b s := by
  obtain ⟨o, x⟩ := x
  refine ⟨o, ?_⟩
  rcases x with ⟨h1, e, a⟩ | ⟨h1, e, a⟩
  · exact .inl ⟨h1, e, a.below hb⟩
  · exact .inr ⟨h1, e, a.below hb⟩
theorem okPer_fin {xs : List Int} (h : xs.length ≤ 1000) : OkPer ⟨xs, [], []⟩ := ⟨h, by simp, rfl, by simp, by simp⟩
theorem OkSrc.okPlain {s : Src} (x : OkSrc s) : OkPer (plainS s) := by
  unfold plainS
  split
  · exact okPer_fin (by have := shortL_len s.H; have := x.h30; omega)
  · exact x.okPer
theorem OkSrc.hb {s : Src} (x : OkSrc s) : ∀ y ∈ s.H, y ≤ 2000000000 := fun y hy => by
  obtain ⟨i, hi⟩ := List.getElem?_of_mem hy
  have := (x.hd i y hi).2
  omega

set_option maxRecDepth 100000 in
set_option maxHeartbeats 1600000 in
theorem at_any (a1 : Option Addr) (n1 c1 : Nat) (a2 : Option Addr) (n2 c2 : Nat) (a3 : Option Addr) (n3 c3 : Nat) (a4 : Option Addr) (n4 c4 : Nat) (b : Bool) (s : Src) (k : Int) (w : World) (hs : ShS w a1 n1 c1 a2 n2 c2 a3 n3 c3 a4 n4 c4 b s) (h0 : 0 ≤ k) (h1 : k ≤ 1000000) :
    Calls Try.prog 49 #[.agg #[.slice a1 n1 c1, .slice a2 n2 c2, .slice a3 n3 c3, .slice a4 n4 c4, .bool b], .int .i64 k] w fun e w' => e = .returned (.tuple #[.int .i64 (termP s k.toNat).1, .bool (termP s k.toNat).2]) ∧ Bl w w' := by
  obtain ⟨ok, hs⟩ := hs
  rcases hs with ⟨hp, rfl, a⟩ | ⟨hp, rfl, a⟩
  · go_enter Try.func49, Try.ntmps49
    go_wp2_with fail
    refine (iterm_any _ _ _ s k _ (a.alloc _) ok h0 h1).mono ?_
    rintro e w1 ⟨rfl, hb1⟩
    go_wp2
    go_ret2
    exact ⟨rfl, bl_call (bl_alloc (bl_refl _) _) hb1⟩
  · obtain ⟨K, rfl⟩ := Int.eq_ofNat_of_zero_le h0
    have hK : K ≤ 1000000 := by omega
    clear h0 h1
    rw [Int.toNat_natCast]
    have hl := ok.h30
    obtain ⟨al, cl, e4, hcl⟩ := a.form
    simp only [Value.slice.injEq] at e4
    obtain ⟨q1, q2, q3⟩ := e4
    subst q1 q2 q3
    rcases Nat.lt_or_ge K s.H.length with hk | hk
    · obtain ⟨b, o, rfl, x, hxx, hcx, hrx⟩ := a.cellAt (bl_alloc (bl_refl w) (.cells #[.slice a1 n1 c1, .slice a2 n2 c2, .slice a3 n3 c3, .slice a4 s.H.length c4, .bool true] 71)) hk
      have HR := Lib.hid (show (x, true) = termP s K by rw [termP, if_pos hk]; simp [hxx])
      clear hxx
      go_enter Try.func49, Try.ntmps49
      go_wp2_with (go_at_call 68; refine (lsize_any _ _ _ _ (by omega)).mono ?_; rintro e w' ⟨rfl, rfl⟩)
      go_ret2
      exact ⟨ret_ib HR.out, bl_alloc (bl_refl _) _⟩
    · have HR := Lib.hid (show ((0 : Int), false) = termP s K by rw [termP, if_neg (by omega), if_pos (by simp [hp])])
      go_enter Try.func49, Try.ntmps49
      go_wp2_with (go_at_call 68; refine (lsize_any _ _ _ _ (by omega)).mono ?_; rintro e w' ⟨rfl, rfl⟩)
      go_ret2
      exact ⟨ret_ib HR.out, bl_alloc (bl_refl _) _⟩

set_option maxRecDepth 100000 in
set_option maxHeartbeats 1600000 in
theorem shortOf_any (h p g : Value) (s : Src) (w : World) (hs : SlS w h p g s) (ok : OkSrc s) :
    Calls Try.prog 42 #[.agg #[h, p, g]] w fun e w' => ∃ a1 n1 c1 a2 n2 c2 a3 n3 c3 a4 n4 c4 b, e = .returned (.agg #[.slice a1 n1 c1, .slice a2 n2 c2, .slice a3 n3 c3, .slice a4 n4 c4, .bool b]) ∧ ShS w' a1 n1 c1 a2 n2 c2 a3 n3 c3 a4 n4 c4 b (plainS s) ∧ Bl w w' := by
  obtain ⟨ah, ch, rfl, hch⟩ := hs.1.form
  obtain ⟨ap, cp, rfl, hcp⟩ := hs.2.1.form
  obtain ⟨ag, cg, rfl, hcg⟩ := hs.2.2.form
  have hpl := ok.p30
  by_cases c : s.P.length = 0
  · have HP := Lib.hid (show plainS s = ⟨shortL s.H, [], []⟩ by rw [plainS, if_pos c])
    have cb : decide (0 < s.P.length) = false := by simp [c]
    have HC := Lib.hid c
    clear c
    rw [HP.out]
    go_enter Try.func42, Try.ntmps42
    go_wp2_with fail
    refine (shortI_any _ s.H _ ((hs.1.alloc _).alloc _) (by have := ok.h30; omega) ok.hb).mono ?_
    rintro e w1 ⟨a, c, rfl, ho, hb1⟩
    have B1 : Bl w w1 := bl_call (bl_alloc (bl_alloc (bl_refl _) _) _) hb1
    have x1 : Bx w1 (w.heap.size + 1) #[.slice none 0 0, .slice none 0 0, .slice none 0 0, .slice none 0 0, .bool false] := (Bx.new (b := w.heap.size + 1) _ _ 71 (by simp)).below hb1
    obtain ⟨cx, fx, zx⟩ := x1.out
    have HO := Lib.hid ho
    clear ho
    go_wp2
    refine bodyPost_ret (v := .agg #[.slice none 0 0, .slice none 0 0, .slice none 0 0, .slice a (shortL s.H).length c, .bool true]) (by simp only [results, Try.results42]; go_simp) rfl ?_
    refine ⟨none, 0, 0, none, 0, 0, none, 0, 0, a, _, c, true, rfl, ⟨okPer_fin (by have := shortL_len s.H; have := ok.h30; omega), .inr ⟨rfl, rfl, ?_⟩⟩, ?_⟩
    · refine Own.sl (B := ((w.alloc (.cells #[.slice ah s.H.length ch, .slice ap s.P.length cp, .slice ag s.G.length cg] 26)).alloc (.cells #[.slice none 0 0, .slice none 0 0, .slice none 0 0, .slice none 0 0, .bool false] 71)).heap.size) ?_
      repeat first | (with_reducible exact HO.out) | (with_reducible refine Own.setCell ?_ (by simp) _)
    · repeat first | (with_reducible exact B1) | (with_reducible refine bl_set ?_ (by simp) _)
  · have HP := Lib.hid (show plainS s = s by rw [plainS, if_neg c])
    have cb : decide (0 < s.P.length) = true := by simp; omega
    have HC := Lib.hid c
    clear c
    rw [HP.out]
    go_enter Try.func42, Try.ntmps42
    go_wp2
    refine bodyPost_ret (v := .agg #[.slice ah s.H.length ch, .slice ap s.P.length cp, .slice ag s.G.length cg, .slice none 0 0, .bool false]) (by simp only [results, Try.results42]; go_simp) rfl ?_
    exact ⟨_, _, _, _, _, _, _, _, _, none, 0, 0, false, rfl, ⟨ok.okPer, .inl ⟨HC.out, rfl, (hs.alloc _).alloc _⟩⟩, bl_alloc (bl_alloc (bl_refl _) _) _⟩

end Go.Proofs.Ytgkelemfbmmgnaa

/- The reference's short form of a source. Each theorem names its conditions. -/
namespace Go.Proofs.Ytgkelemfbmmgnaa
open Go.RowKit
set_option linter.unusedVariables false
set_option linter.unusedSimpArgs false

theorem OkPer.plain {s : Src} (x : OkPer s) : OkPer (plainS s) := by
  unfold plainS
  split
  · exact okPer_fin (by have := shortL_len s.H; have := x.h30; omega)
  · exact x

theorem Sl.far {w : World} {v : Value} {xs : List Int} (h : Sl w v xs) {p : Addr} (hp : ∀ k, v.ownBlock = some k → k ≠ p.block) (u : Value) : Sl (w.setCell p u) v xs := by
  refine h.grown (row := some p.block) ⟨rfl, rfl, rfl, by simp, fun k hk hne => Below.heap_setCell w p u k (fun e => hne (by rw [e]))⟩ (.inr fun e => hp _ e rfl)

theorem Own.far {w : World} {B : Nat} {v : Value} {xs : List Int} (h : Own w B v xs) {p : Addr} (hp : ∀ k, v.ownBlock = some k → k ≠ p.block) (u : Value) : Own (w.setCell p u) B v xs := by
  refine h.grown (row := some p.block) ⟨rfl, rfl, rfl, by simp, fun k hk hne => Below.heap_setCell w p u k (fun e => hne (by rw [e]))⟩ (.inr fun e => hp _ e rfl)
theorem Sl.empty {w w' : World} {v : Value} (h : Sl w v []) : Sl w' v [] := by
  obtain ⟨a, cap, rfl, h1, h2, h3, h4, h5⟩ := h
  exact ⟨a, cap, rfl, h1, h2, h3, h4, .inl rfl⟩

set_option maxRecDepth 100000 in
set_option maxHeartbeats 6400000 in
theorem plainSrc_any (h p g : Value) (s : Src) (w : World) (b : Nat) (hs : SlS w h p g s) (hx : Bx w b #[h, p, g]) (ok : OkPer s) (hbd : ∀ y ∈ s.H, y ≤ 2000000000) :
    Calls Try.prog 51 #[.pointer (some ⟨b, 0, none⟩)] w fun e w' => ∃ a1 n1 c1 a2 n2 c2 a3 n3 c3, e = .returned (.agg #[.slice a1 n1 c1, .slice a2 n2 c2, .slice a3 n3 c3]) ∧ SlS w' (.slice a1 n1 c1) (.slice a2 n2 c2) (.slice a3 n3 c3) (plainS s) ∧ Bl w w' := by
  have l1 := ok.h30
  have l2 := ok.p30
  have l3 : s.G.length ≤ 30 := by rw [ok.gp]; exact ok.p30
  go_enter Try.func51, Try.ntmps51
  go_wp2_with fail
  have BW := bl_alloc (bl_refl w) (.cells #[.slice none 0 0, .slice none 0 0, .slice none 0 0] 26)
  have hr0 := Bx.new (b := w.heap.size) w #[.slice none 0 0, .slice none 0 0, .slice none 0 0] 26 rfl
  have hx := hx.alloc (.cells #[.slice none 0 0, .slice none 0 0, .slice none 0 0] 26)
  have hs := hs.alloc (.cells #[.slice none 0 0, .slice none 0 0, .slice none 0 0] 26)
  generalize w.alloc (.cells #[.slice none 0 0, .slice none 0 0, .slice none 0 0] 26) = w0 at *
  obtain ⟨cx, fx, zx⟩ := hx.out
  go_cut [3] (fun s3 wx => ∃ q a1 c1 a2 c2 a3 c3, s3 = .pointer (some ⟨q, 0, none⟩) ∧ Bx wx q #[.slice a1 s.H.length c1, .slice a2 s.P.length c2, .slice a3 s.G.length c3] ∧ Own wx w0.heap.size (.slice a1 s.H.length c1) s.H ∧ Own wx w0.heap.size (.slice a2 s.P.length c2) s.P ∧ Own wx w0.heap.size (.slice a3 s.G.length c3) s.G ∧ w0.heap.size ≤ q ∧ Bl w0 wx)
  case first =>
    have BB := bl_refl w0
    have BB := bl_drew BB
    go_region_held3 (fun w' => w'.cell? ⟨b, 0, none⟩ = some h ∧ w'.cell? ⟨b, 1, none⟩ = some p ∧ w'.cell? ⟨b, 2, none⟩ = some g) (first | (simp [*]; done) | (go_simp; done) | go_keep)
      (first | (go_at_call_of 48 h; go_must (refine (own_any h s.H _ (by first | exact hs.1.below BB | exact hs.1.below (bl_alloc BB _)) (by omega)).mono ?_; rintro e w1 ⟨a1, c1, rfl, o1, hb1⟩; have r1 := Lib.hid o1.lt; have z1 := hb1.size; have BB : Bl w0 w1 := bl_call (by first | exact BB | exact bl_alloc BB _) hb1; obtain ⟨cx, fx, zx⟩ := (hx.below BB).out; (first | (have o2 := o2.below hb1) | (have o2 := (o2.alloc _).below hb1) | skip); (first | (have o3 := o3.below hb1) | (have o3 := (o3.alloc _).below hb1) | skip); (first | (have nb := nb.below hb1; obtain ⟨cn, fn, zn⟩ := nb.out) | (have nb := (Bx.new _ #[.slice none 0 0, .slice none 0 0, .slice none 0 0] 26 rfl).below hb1; obtain ⟨cn, fn, zn⟩ := nb.out) | (have nb := (Bx.new w0 #[.slice none 0 0, .slice none 0 0, .slice none 0 0] 26 rfl).drew.below hb1; obtain ⟨cn, fn, zn⟩ := nb.out) | skip))) | (go_at_call_of 48 p; go_must (refine (own_any p s.P _ (by first | exact hs.2.1.below BB | exact hs.2.1.below (bl_alloc BB _)) (by omega)).mono ?_; rintro e w2 ⟨a2, c2, rfl, o2, hb2⟩; have r2 := Lib.hid o2.lt; have z2 := hb2.size; have BB : Bl w0 w2 := bl_call (by first | exact BB | exact bl_alloc BB _) hb2; obtain ⟨cx, fx, zx⟩ := (hx.below BB).out; (first | (have o1 := o1.below hb2) | (have o1 := (o1.alloc _).below hb2) | skip); (first | (have o3 := o3.below hb2) | (have o3 := (o3.alloc _).below hb2) | skip); (first | (have nb := nb.below hb2; obtain ⟨cn, fn, zn⟩ := nb.out) | (have nb := (Bx.new _ #[.slice none 0 0, .slice none 0 0, .slice none 0 0] 26 rfl).below hb2; obtain ⟨cn, fn, zn⟩ := nb.out) | (have nb := (Bx.new w0 #[.slice none 0 0, .slice none 0 0, .slice none 0 0] 26 rfl).drew.below hb2; obtain ⟨cn, fn, zn⟩ := nb.out) | skip))) | (go_at_call_of 48 g; go_must (refine (own_any g s.G _ (by first | exact hs.2.2.below BB | exact hs.2.2.below (bl_alloc BB _)) (by omega)).mono ?_; rintro e w3 ⟨a3, c3, rfl, o3, hb3⟩; have r3 := Lib.hid o3.lt; have z3 := hb3.size; have BB : Bl w0 w3 := bl_call (by first | exact BB | exact bl_alloc BB _) hb3; obtain ⟨cx, fx, zx⟩ := (hx.below BB).out; (first | (have o1 := o1.below hb3) | (have o1 := (o1.alloc _).below hb3) | skip); (first | (have o2 := o2.below hb3) | (have o2 := (o2.alloc _).below hb3) | skip); (first | (have nb := nb.below hb3; obtain ⟨cn, fn, zn⟩ := nb.out) | (have nb := (Bx.new _ #[.slice none 0 0, .slice none 0 0, .slice none 0 0] 26 rfl).below hb3; obtain ⟨cn, fn, zn⟩ := nb.out) | (have nb := (Bx.new w0 #[.slice none 0 0, .slice none 0 0, .slice none 0 0] 26 rfl).drew.below hb3; obtain ⟨cn, fn, zn⟩ := nb.out) | skip))))
    all_goals (go_wp2_with fail; go_meet)
    all_goals (first
      | (refine ⟨_, a1, c1, a2, c2, a3, c3, rfl, ((nb.set 0 _).set 1 _).set 2 _, ?_, ?_, ?_, ?_, ?_⟩
         · exact (((o1.far (fun k hk => by have q := r1.out k hk; (try simp at q z1 z2 z3); simp; omega) _).far (fun k hk => by have q := r1.out k hk; (try simp at q z1 z2 z3); simp; omega) _).far (fun k hk => by have q := r1.out k hk; (try simp at q z1 z2 z3); simp; omega) _).mono (by first | exact Nat.le_refl _ | ((try simp at z1 z2 z3); have h5 := hb1.size; (try simp at h5); first | omega | (simp; done) | (simp; omega)))
         · exact (((o2.far (fun k hk => by have q := r2.out k hk; (try simp at q z1 z2 z3); simp; omega) _).far (fun k hk => by have q := r2.out k hk; (try simp at q z1 z2 z3); simp; omega) _).far (fun k hk => by have q := r2.out k hk; (try simp at q z1 z2 z3); simp; omega) _).mono (by ((try simp at z1 z2 z3); have h5 := hb1.size; (try simp at h5); first | omega | (simp; done) | (simp; omega)))
         · exact (((o3.far (fun k hk => by have q := r3.out k hk; (try simp at q z1 z2 z3); simp; omega) _).far (fun k hk => by have q := r3.out k hk; (try simp at q z1 z2 z3); simp; omega) _).far (fun k hk => by have q := r3.out k hk; (try simp at q z1 z2 z3); simp; omega) _).mono (by ((try simp at z1 z2 z3); have h5 := hb1.size; (try simp at h5); first | omega | (simp; done) | (simp; omega)))
         · ((try simp at z1 z2 z3); have h5 := hb1.size; (try simp at h5); first | omega | (simp; done) | (simp; omega))
         · exact bl_set (bl_set (bl_set BB (by ((try simp at z1 z2 z3); have h5 := hb1.size; (try simp at h5); first | omega | (simp; done) | (simp; omega))) _) (by ((try simp at z1 z2 z3); have h5 := hb1.size; (try simp at h5); first | omega | (simp; done) | (simp; omega))) _) (by ((try simp at z1 z2 z3); have h5 := hb1.size; (try simp at h5); first | omega | (simp; done) | (simp; omega))) _)
      | exact ⟨_, a1, c1, a2, c2, a3, c3, rfl, Bx.new _ _ _ rfl, (o1.alloc _).mono (by first | exact Nat.le_refl _ | ((try simp at z1 z2 z3); have h5 := hb1.size; (try simp at h5); first | omega | (simp; done) | (simp; omega))), (o2.alloc _).mono (by ((try simp at z1 z2 z3); have h5 := hb1.size; (try simp at h5); first | omega | (simp; done) | (simp; omega))), (o3.alloc _).mono (by ((try simp at z1 z2 z3); have h5 := hb1.size; (try simp at h5); first | omega | (simp; done) | (simp; omega))), BB.size, bl_alloc BB _⟩)
  case rest =>
    obtain ⟨q, a1, c1, a2, c2, a3, c3, rfl, xq, o1, o2, o3, hq, hj⟩ := hcut
    obtain ⟨w4, rfl⟩ : ∃ x : World, x = wc := ⟨_, rfl⟩
    have B4 : Bl w w4 := bl_call BW hj
    have zr0 := hr0.out.2.2
    have hr := hr0.below hj
    clear cx fx zx
    obtain ⟨cq, fq, zq⟩ := xq.out
    obtain ⟨cr, fr, zr⟩ := hr.out
    have hne : w.heap.size ≠ q := by omega
    have HO1 := Lib.hid o1
    have HO2 := Lib.hid o2
    have HO3 := Lib.hid o3
    clear o1 o2 o3
    by_cases c : s.P.length = 0
    · have HP := Lib.hid (show plainS s = ⟨shortL s.H, [], []⟩ by rw [plainS, if_pos c])
      have HN := Lib.hid (show s.P = [] ∧ s.G = [] from ⟨List.eq_nil_of_length_eq_zero c, List.eq_nil_of_length_eq_zero (by rw [ok.gp]; exact c)⟩)
      have cb : ((s.P.length : Int) == 0) = true := beq_iff_eq.2 (by omega)
      clear c
      go_wp2_with fail
      refine (shortS_any _ s.H _ HO1.out.sl (by omega) hbd).mono ?_
      rintro e w5 ⟨a, c', rfl, ho, hb5⟩
      have B5 : Bl w w5 := bl_call B4 hb5
      have HO := Lib.hid ho
      have xq5 := xq.below hb5
      have hr5 := hr.below hb5
      clear cq fq cr fr ho
      obtain ⟨cq, fq, zq5⟩ := xq5.out
      obtain ⟨cr, fr, zr5⟩ := hr5.out
      go_wp2
      refine bodyPost_ret (v := .agg #[.slice a (shortL s.H).length c', .slice a2 s.P.length c2, .slice a3 s.G.length c3]) (by simp only [results, Try.results51]; go_simp) rfl ?_
      rw [HP.out]
      refine ⟨a, _, c', a2, _, c2, a3, _, c3, rfl, ⟨?_, ?_, ?_⟩, ?_⟩
      · refine Own.sl (B := w4.heap.size) ?_
        repeat first | (with_reducible exact HO.out) | (with_reducible refine Own.setCell ?_ (by first | exact zq | exact zr | (simp; omega)) _)
      · have h2 := HO2.out.sl
        rw [HN.out.1] at h2
        rw [HN.out.1]
        exact h2.empty
      · have h2 := HO3.out.sl
        rw [HN.out.2] at h2
        rw [HN.out.2]
        exact h2.empty
      · repeat first | (with_reducible exact B5) | (with_reducible refine bl_set ?_ (by first | exact Nat.le_refl _ | (simp; omega) | (have := BW.size; simp; omega)) _)
    · have HP := Lib.hid (show plainS s = s by rw [plainS, if_neg c])
      have cb : ((s.P.length : Int) == 0) = false := beq_eq_false_iff_ne.2 (by omega)
      clear c
      go_wp2
      refine bodyPost_ret (v := .agg #[.slice a1 s.H.length c1, .slice a2 s.P.length c2, .slice a3 s.G.length c3]) (by simp only [results, Try.results51]; go_simp) rfl ?_
      rw [HP.out]
      refine ⟨a1, _, c1, a2, _, c2, a3, _, c3, rfl, ⟨?_, ?_, ?_⟩, ?_⟩
      · refine Own.sl (B := w0.heap.size) ?_
        repeat first | (with_reducible exact HO1.out) | (with_reducible refine Own.setCell ?_ (by first | exact zr0 | (simp; omega)) _)
      · refine Own.sl (B := w0.heap.size) ?_
        repeat first | (with_reducible exact HO2.out) | (with_reducible refine Own.setCell ?_ (by first | exact zr0 | (simp; omega)) _)
      · refine Own.sl (B := w0.heap.size) ?_
        repeat first | (with_reducible exact HO3.out) | (with_reducible refine Own.setCell ?_ (by first | exact zr0 | (simp; omega)) _)
      · repeat first | (with_reducible exact B4) | (with_reducible refine bl_set ?_ (by first | exact Nat.le_refl _ | (simp; omega) | (have := BW.size; simp; omega)) _)

end Go.Proofs.Ytgkelemfbmmgnaa

/- The reference's short form of a source is the call's own. Each theorem names its conditions. -/
namespace Go.Proofs.Ytgkelemfbmmgnaa
open Go.RowKit
set_option linter.unusedVariables false
set_option linter.unusedSimpArgs false

set_option maxRecDepth 100000 in
set_option maxHeartbeats 6400000 in
theorem plainOwn_any (h p g : Value) (s : Src) (w : World) (b : Nat) (hs : SlS w h p g s) (hx : Bx w b #[h, p, g]) (ok : OkPer s) (hbd : ∀ y ∈ s.H, y ≤ 2000000000) :
    Calls Try.prog 51 #[.pointer (some ⟨b, 0, none⟩)] w fun e w' => ∃ a1 n1 c1 a2 n2 c2 a3 n3 c3, e = .returned (.agg #[.slice a1 n1 c1, .slice a2 n2 c2, .slice a3 n3 c3]) ∧ OwnS w' w.heap.size (.slice a1 n1 c1) (.slice a2 n2 c2) (.slice a3 n3 c3) (plainS s) ∧ Bl w w' := by
  have l1 := ok.h30
  have l2 := ok.p30
  have l3 : s.G.length ≤ 30 := by rw [ok.gp]; exact ok.p30
  go_enter Try.func51, Try.ntmps51
  go_wp2_with fail
  have BW := bl_alloc (bl_refl w) (.cells #[.slice none 0 0, .slice none 0 0, .slice none 0 0] 26)
  have hr0 := Bx.new (b := w.heap.size) w #[.slice none 0 0, .slice none 0 0, .slice none 0 0] 26 rfl
  have hx := hx.alloc (.cells #[.slice none 0 0, .slice none 0 0, .slice none 0 0] 26)
  have hs := hs.alloc (.cells #[.slice none 0 0, .slice none 0 0, .slice none 0 0] 26)
  generalize w.alloc (.cells #[.slice none 0 0, .slice none 0 0, .slice none 0 0] 26) = w0 at *
  obtain ⟨cx, fx, zx⟩ := hx.out
  go_cut [3] (fun s3 wx => ∃ q a1 c1 a2 c2 a3 c3, s3 = .pointer (some ⟨q, 0, none⟩) ∧ Bx wx q #[.slice a1 s.H.length c1, .slice a2 s.P.length c2, .slice a3 s.G.length c3] ∧ Own wx w0.heap.size (.slice a1 s.H.length c1) s.H ∧ Own wx w0.heap.size (.slice a2 s.P.length c2) s.P ∧ Own wx w0.heap.size (.slice a3 s.G.length c3) s.G ∧ w0.heap.size ≤ q ∧ ((∀ k, (Value.slice a1 s.H.length c1).ownBlock = some k → (Value.slice a2 s.P.length c2).ownBlock ≠ some k) ∧ (∀ k, (Value.slice a1 s.H.length c1).ownBlock = some k → (Value.slice a3 s.G.length c3).ownBlock ≠ some k) ∧ (∀ k, (Value.slice a2 s.P.length c2).ownBlock = some k → (Value.slice a3 s.G.length c3).ownBlock ≠ some k) ∧ (∀ k, (Value.slice a1 s.H.length c1).ownBlock = some k → k ≠ q) ∧ (∀ k, (Value.slice a2 s.P.length c2).ownBlock = some k → k ≠ q) ∧ (∀ k, (Value.slice a3 s.G.length c3).ownBlock = some k → k ≠ q)) ∧ Bl w0 wx)
  case first =>
    have BB := bl_refl w0
    have BB := bl_drew BB
    go_region_held3 (fun w' => w'.cell? ⟨b, 0, none⟩ = some h ∧ w'.cell? ⟨b, 1, none⟩ = some p ∧ w'.cell? ⟨b, 2, none⟩ = some g) (first | (simp [*]; done) | (go_simp; done) | go_keep)
      (first | (go_at_call_of 48 h; go_must (refine (own_any h s.H _ (by first | exact hs.1.below BB | exact hs.1.below (bl_alloc BB _)) (by omega)).mono ?_; rintro e w1 ⟨a1, c1, rfl, o1, hb1⟩; have r1 := Lib.hid o1.lt; have z1 := hb1.size; have BB : Bl w0 w1 := bl_call (by first | exact BB | exact bl_alloc BB _) hb1; obtain ⟨cx, fx, zx⟩ := (hx.below BB).out; (first | (have o2 := o2.below hb1) | (have o2 := (o2.alloc _).below hb1) | skip); (first | (have o3 := o3.below hb1) | (have o3 := (o3.alloc _).below hb1) | skip); (first | (have nb := nb.below hb1; obtain ⟨cn, fn, zn⟩ := nb.out) | (have nb := (Bx.new _ #[.slice none 0 0, .slice none 0 0, .slice none 0 0] 26 rfl).below hb1; obtain ⟨cn, fn, zn⟩ := nb.out) | (have nb := (Bx.new w0 #[.slice none 0 0, .slice none 0 0, .slice none 0 0] 26 rfl).drew.below hb1; obtain ⟨cn, fn, zn⟩ := nb.out) | skip))) | (go_at_call_of 48 p; go_must (refine (own_any p s.P _ (by first | exact hs.2.1.below BB | exact hs.2.1.below (bl_alloc BB _)) (by omega)).mono ?_; rintro e w2 ⟨a2, c2, rfl, o2, hb2⟩; have r2 := Lib.hid o2.lt; have z2 := hb2.size; have BB : Bl w0 w2 := bl_call (by first | exact BB | exact bl_alloc BB _) hb2; obtain ⟨cx, fx, zx⟩ := (hx.below BB).out; (first | (have o1 := o1.below hb2) | (have o1 := (o1.alloc _).below hb2) | skip); (first | (have o3 := o3.below hb2) | (have o3 := (o3.alloc _).below hb2) | skip); (first | (have nb := nb.below hb2; obtain ⟨cn, fn, zn⟩ := nb.out) | (have nb := (Bx.new _ #[.slice none 0 0, .slice none 0 0, .slice none 0 0] 26 rfl).below hb2; obtain ⟨cn, fn, zn⟩ := nb.out) | (have nb := (Bx.new w0 #[.slice none 0 0, .slice none 0 0, .slice none 0 0] 26 rfl).drew.below hb2; obtain ⟨cn, fn, zn⟩ := nb.out) | skip))) | (go_at_call_of 48 g; go_must (refine (own_any g s.G _ (by first | exact hs.2.2.below BB | exact hs.2.2.below (bl_alloc BB _)) (by omega)).mono ?_; rintro e w3 ⟨a3, c3, rfl, o3, hb3⟩; have r3 := Lib.hid o3.lt; have z3 := hb3.size; have BB : Bl w0 w3 := bl_call (by first | exact BB | exact bl_alloc BB _) hb3; obtain ⟨cx, fx, zx⟩ := (hx.below BB).out; (first | (have o1 := o1.below hb3) | (have o1 := (o1.alloc _).below hb3) | skip); (first | (have o2 := o2.below hb3) | (have o2 := (o2.alloc _).below hb3) | skip); (first | (have nb := nb.below hb3; obtain ⟨cn, fn, zn⟩ := nb.out) | (have nb := (Bx.new _ #[.slice none 0 0, .slice none 0 0, .slice none 0 0] 26 rfl).below hb3; obtain ⟨cn, fn, zn⟩ := nb.out) | (have nb := (Bx.new w0 #[.slice none 0 0, .slice none 0 0, .slice none 0 0] 26 rfl).drew.below hb3; obtain ⟨cn, fn, zn⟩ := nb.out) | skip))))
    all_goals (go_wp2_with fail; go_meet)
    all_goals (first
      | (refine ⟨_, a1, c1, a2, c2, a3, c3, rfl, ((nb.set 0 _).set 1 _).set 2 _, ?_, ?_, ?_, ?_, ⟨(fun k e1 e2 => by have q1 := r1.out k e1; have q2 := r2.out k e2; (try simp at q1 q2 z1 z2 z3); omega), (fun k e1 e2 => by have q1 := r1.out k e1; have q2 := r3.out k e2; (try simp at q1 q2 z1 z2 z3); omega), (fun k e1 e2 => by have q1 := r2.out k e1; have q2 := r3.out k e2; (try simp at q1 q2 z1 z2 z3); omega), (fun k e1 => by first | (have q1 := r1.out k e1; (try simp at q1 z1 z2 z3); (try simp); omega) | (have q1 := (o1.lt k e1).2; (try simp at q1 ⊢); omega)), (fun k e1 => by first | (have q1 := r2.out k e1; (try simp at q1 z1 z2 z3); (try simp); omega) | (have q1 := (o2.lt k e1).2; (try simp at q1 ⊢); omega)), (fun k e1 => by first | (have q1 := r3.out k e1; (try simp at q1 z1 z2 z3); (try simp); omega) | (have q1 := (o3.lt k e1).2; (try simp at q1 ⊢); omega))⟩, ?_⟩
         · exact (((o1.far (fun k hk => by have q := r1.out k hk; (try simp at q z1 z2 z3); simp; omega) _).far (fun k hk => by have q := r1.out k hk; (try simp at q z1 z2 z3); simp; omega) _).far (fun k hk => by have q := r1.out k hk; (try simp at q z1 z2 z3); simp; omega) _).mono (by first | exact Nat.le_refl _ | ((try simp at z1 z2 z3); have h5 := hb1.size; (try simp at h5); first | omega | (simp; done) | (simp; omega)))
         · exact (((o2.far (fun k hk => by have q := r2.out k hk; (try simp at q z1 z2 z3); simp; omega) _).far (fun k hk => by have q := r2.out k hk; (try simp at q z1 z2 z3); simp; omega) _).far (fun k hk => by have q := r2.out k hk; (try simp at q z1 z2 z3); simp; omega) _).mono (by ((try simp at z1 z2 z3); have h5 := hb1.size; (try simp at h5); first | omega | (simp; done) | (simp; omega)))
         · exact (((o3.far (fun k hk => by have q := r3.out k hk; (try simp at q z1 z2 z3); simp; omega) _).far (fun k hk => by have q := r3.out k hk; (try simp at q z1 z2 z3); simp; omega) _).far (fun k hk => by have q := r3.out k hk; (try simp at q z1 z2 z3); simp; omega) _).mono (by ((try simp at z1 z2 z3); have h5 := hb1.size; (try simp at h5); first | omega | (simp; done) | (simp; omega)))
         · ((try simp at z1 z2 z3); have h5 := hb1.size; (try simp at h5); first | omega | (simp; done) | (simp; omega))
         · exact bl_set (bl_set (bl_set BB (by ((try simp at z1 z2 z3); have h5 := hb1.size; (try simp at h5); first | omega | (simp; done) | (simp; omega))) _) (by ((try simp at z1 z2 z3); have h5 := hb1.size; (try simp at h5); first | omega | (simp; done) | (simp; omega))) _) (by ((try simp at z1 z2 z3); have h5 := hb1.size; (try simp at h5); first | omega | (simp; done) | (simp; omega))) _)
      | exact ⟨_, a1, c1, a2, c2, a3, c3, rfl, Bx.new _ _ _ rfl, (o1.alloc _).mono (by first | exact Nat.le_refl _ | ((try simp at z1 z2 z3); have h5 := hb1.size; (try simp at h5); first | omega | (simp; done) | (simp; omega))), (o2.alloc _).mono (by ((try simp at z1 z2 z3); have h5 := hb1.size; (try simp at h5); first | omega | (simp; done) | (simp; omega))), (o3.alloc _).mono (by ((try simp at z1 z2 z3); have h5 := hb1.size; (try simp at h5); first | omega | (simp; done) | (simp; omega))), BB.size, ⟨(fun k e1 e2 => by have q1 := r1.out k e1; have q2 := r2.out k e2; (try simp at q1 q2 z1 z2 z3); omega), (fun k e1 e2 => by have q1 := r1.out k e1; have q2 := r3.out k e2; (try simp at q1 q2 z1 z2 z3); omega), (fun k e1 e2 => by have q1 := r2.out k e1; have q2 := r3.out k e2; (try simp at q1 q2 z1 z2 z3); omega), (fun k e1 => by first | (have q1 := r1.out k e1; (try simp at q1 z1 z2 z3); (try simp); omega) | (have q1 := (o1.lt k e1).2; (try simp at q1 ⊢); omega)), (fun k e1 => by first | (have q1 := r2.out k e1; (try simp at q1 z1 z2 z3); (try simp); omega) | (have q1 := (o2.lt k e1).2; (try simp at q1 ⊢); omega)), (fun k e1 => by first | (have q1 := r3.out k e1; (try simp at q1 z1 z2 z3); (try simp); omega) | (have q1 := (o3.lt k e1).2; (try simp at q1 ⊢); omega))⟩, bl_alloc BB _⟩)
  case rest =>
    obtain ⟨q, a1, c1, a2, c2, a3, c3, rfl, xq, o1, o2, o3, hq, hap, hj⟩ := hcut
    have HAP := Lib.hid hap
    clear hap
    have hw0z : w.heap.size ≤ w0.heap.size := BW.size
    obtain ⟨w4, rfl⟩ : ∃ x : World, x = wc := ⟨_, rfl⟩
    have B4 : Bl w w4 := bl_call BW hj
    have zr0 := hr0.out.2.2
    have hr := hr0.below hj
    clear cx fx zx
    obtain ⟨cq, fq, zq⟩ := xq.out
    obtain ⟨cr, fr, zr⟩ := hr.out
    have hne : w.heap.size ≠ q := by omega
    have HO1 := Lib.hid o1
    have HO2 := Lib.hid o2
    have HO3 := Lib.hid o3
    clear o1 o2 o3
    by_cases c : s.P.length = 0
    · have HP := Lib.hid (show plainS s = ⟨shortL s.H, [], []⟩ by rw [plainS, if_pos c])
      have HN := Lib.hid (show s.P = [] ∧ s.G = [] from ⟨List.eq_nil_of_length_eq_zero c, List.eq_nil_of_length_eq_zero (by rw [ok.gp]; exact c)⟩)
      have cb : ((s.P.length : Int) == 0) = true := beq_iff_eq.2 (by omega)
      clear c
      go_wp2_with fail
      refine (shortS_any _ s.H _ HO1.out.sl (by omega) hbd).mono ?_
      rintro e w5 ⟨a, c', rfl, ho, hb5⟩
      have B5 : Bl w w5 := bl_call B4 hb5
      have HO := Lib.hid ho
      have xq5 := xq.below hb5
      have hr5 := hr.below hb5
      clear cq fq cr fr ho
      obtain ⟨cq, fq, zq5⟩ := xq5.out
      obtain ⟨cr, fr, zr5⟩ := hr5.out
      go_wp2
      refine bodyPost_ret (v := .agg #[.slice a (shortL s.H).length c', .slice a2 s.P.length c2, .slice a3 s.G.length c3]) (by simp only [results, Try.results51]; go_simp) rfl ?_
      rw [HP.out]
      have l2 := HO2.out.lt
      have l3 := HO3.out.lt
      have l1 := HO.out.lt
      have P2 := HO2.out.below hb5
      have P3 := HO3.out.below hb5
      have z45 := B4.size
      have z5 := hb5.size
      refine ⟨a, _, c', a2, _, c2, a3, _, c3, rfl, ⟨?_, ?_, ?_, ?_, ?_, ?_⟩, ?_⟩
      · refine Own.mono (B := w4.heap.size) ?_ (by omega)
        repeat first | (with_reducible exact HO.out) | (with_reducible refine Own.setCell ?_ (by first | exact zq | exact zr | (simp; omega)) _)
      · have f2 : ∀ k, (Value.slice a2 s.P.length c2).ownBlock = some k → k ≠ q := HAP.out.2.2.2.2.1
        rw [HN.out.1] at f2 P2 l2 ⊢
        refine Own.mono (B := w0.heap.size) ?_ hw0z
        refine Own.setCell (Own.setCell (Own.setCell (own_farU P2 (p := ⟨q, 0, none⟩) (fun k e => f2 k e) _) (by first | exact zr0 | (simp; omega)) _) (by first | exact zr0 | (simp; omega)) _) (by first | exact zr0 | (simp; omega)) _
      · have f3 : ∀ k, (Value.slice a3 s.G.length c3).ownBlock = some k → k ≠ q := HAP.out.2.2.2.2.2
        rw [HN.out.2] at f3 P3 l3 ⊢
        refine Own.mono (B := w0.heap.size) ?_ hw0z
        refine Own.setCell (Own.setCell (Own.setCell (own_farU P3 (p := ⟨q, 0, none⟩) (fun k e => f3 k e) _) (by first | exact zr0 | (simp; omega)) _) (by first | exact zr0 | (simp; omega)) _) (by first | exact zr0 | (simp; omega)) _
      · intro k e1 e2
        have := (l1 k e1).1; have := (l2 k e2).2; omega
      · intro k e1 e2
        have := (l1 k e1).1; have := (l3 k e2).2; omega
      · have f := HAP.out.2.2.1
        rw [HN.out.1, HN.out.2] at f
        rw [HN.out.1, HN.out.2]
        exact f
      · repeat first | (with_reducible exact B5) | (with_reducible refine bl_set ?_ (by first | exact Nat.le_refl _ | (simp; omega) | (have := BW.size; simp; omega)) _)
    · have HP := Lib.hid (show plainS s = s by rw [plainS, if_neg c])
      have cb : ((s.P.length : Int) == 0) = false := beq_eq_false_iff_ne.2 (by omega)
      clear c
      go_wp2
      refine bodyPost_ret (v := .agg #[.slice a1 s.H.length c1, .slice a2 s.P.length c2, .slice a3 s.G.length c3]) (by simp only [results, Try.results51]; go_simp) rfl ?_
      rw [HP.out]
      refine ⟨a1, _, c1, a2, _, c2, a3, _, c3, rfl, ⟨?_, ?_, ?_, HAP.out.1, HAP.out.2.1, HAP.out.2.2.1⟩, ?_⟩
      · refine Own.mono (B := w0.heap.size) ?_ hw0z
        repeat first | (with_reducible exact HO1.out) | (with_reducible refine Own.setCell ?_ (by first | exact zr0 | (simp; omega)) _)
      · refine Own.mono (B := w0.heap.size) ?_ hw0z
        repeat first | (with_reducible exact HO2.out) | (with_reducible refine Own.setCell ?_ (by first | exact zr0 | (simp; omega)) _)
      · refine Own.mono (B := w0.heap.size) ?_ hw0z
        repeat first | (with_reducible exact HO3.out) | (with_reducible refine Own.setCell ?_ (by first | exact zr0 | (simp; omega)) _)
      · repeat first | (with_reducible exact B4) | (with_reducible refine bl_set ?_ (by first | exact Nat.le_refl _ | (simp; omega) | (have := BW.size; simp; omega)) _)

end Go.Proofs.Ytgkelemfbmmgnaa

/- append to what follows the first number of a list of the call's own. Each theorem names its conditions. -/
namespace Go.Proofs.Ytgkelemfbmmgnaa
open Go.RowKit
set_option linter.unusedVariables false
set_option linter.unusedSimpArgs false

/-- The value of s[1:], s a list of the call's own, not empty. -/
def tailV (g n cap : Nat) : Value := if cap = 1 then .slice (some ⟨g, 0, none⟩) 0 0 else .slice (some ⟨g, 1, none⟩) (n - 1) (cap - 1)
theorem own_spare {w : World} {B g n cap : Nat} {zs : List Int} (h : Own w B (.slice (some ⟨g, 0, none⟩) n cap) zs) (hc : n < cap) : (w.cell? ⟨g, n, none⟩).isSome = true ∧ w.frozen? ⟨g, n, none⟩ = false := by
  rcases h.1.2 with ⟨e, _⟩ | ⟨g', cap', cur, e, hg, hh, hn, hm, hs, ht⟩
  · cases e
  · injection e with e1 e2 e3
    injection e1 with e1
    injection e1 with e1
    subst e1; subst e3
    have hl : n < cur.size := by omega
    refine ⟨?_, ?_⟩
    · simp [World.cell?, hh, hl]
    · simp [World.frozen?, hh]
theorem wp_append_core {w : World} {o : Oper} {a : Act} {K : Act → World → Prop} {Q : Exit → Act → World → Prop} (s x : Operand)
    (ho : o.op = .call { callee := .builtin .append, args := #[s, x], argTypes := #[24, 24] })
    (g off k c : Nat) (ts : List Int) (hk : ts.length = k) (hs : a.eval s = .slice (some ⟨g, off, none⟩) k c) (hc : ∀ i y, ts[i]? = some y → w.cell? ⟨g, off + i, none⟩ = some (.int .i64 y)) (hr : ∀ y ∈ ts, R64 y)
    (m : Nat) (y : Int) (hy : R64 y) (hx : a.eval x = .slice (some ⟨m, 0, none⟩) 1 1) (hm : Bx w m #[.int .i64 y])
    (hsp : k + 1 ≤ c → (w.cell? ⟨g, off + k, none⟩).isSome = true ∧ w.frozen? ⟨g, off + k, none⟩ = false) (hcm : c ≤ maxLen) (hl : k ≤ 1000000)
    (h : ∀ v' w', Sl w' v' (ts ++ [y]) → w.grownBy w' (some g) → (∀ b, v'.ownBlock = some b → b = g ∨ w.heap.size ≤ b) → K (a.put o.dst v') w') :
    Oper.wp Try.prog o a w K Q := by
  obtain ⟨i0, hi, hz0, hz1, hz2⟩ := info_parts info_i64
  have hnews : ∀ (j : Nat) (u : Value), [Value.int .i64 y][j]? = some u → w.cell? ((⟨m, 0, none⟩ : Addr).add j) = some u := by
    intro j u hu
    match j, hu with
    | 0, hu => simp at hu; subst hu; rw [add_lit]; exact hm.out.1 0
  by_cases hr2 : k + 1 ≤ c
  · have sp := hsp hr2
    have sp1 : ∀ j, j < [Value.int .i64 y].length → (w.cell? ⟨g, off + k * i0.size + j, none⟩).isSome = true := by
      intro j hj
      have e : j = 0 := by simpa using hj
      rw [e, hz1, Nat.mul_one, Nat.add_zero]
      exact sp.1
    have sp2 : ∀ j, j < [Value.int .i64 y].length → w.frozen? ⟨g, off + k * i0.size + j, none⟩ = false := by
      intro j hj
      have e : j = 0 := by simpa using hj
      rw [e, hz1, Nat.mul_one, Nat.add_zero]
      exact sp.2
    have hrun := run_append_room_cells (P := Try.prog) w 24 o.type 2 i0 Try.underlying24 hi g off k c ⟨m, 0, none⟩ 1 1 [.int .i64 y] (by rw [hz1]; rfl) hnews (by simp; rfl) hr2
      sp1 sp2
    rw [hz1, Nat.mul_one] at hrun
    unfold Oper.wp
    simp [execOp, ho, resolve, invoke, builtin, hs, hx, hrun, Result.andThen]
    have e : w.setCells g (off + k) [.int .i64 y] = w.setCell ⟨g, off + k, none⟩ (.int .i64 y) := rfl
    rw [e]
    refine h _ _ ?_ ?_ (fun b hb => .inl (by simpa [Value.ownBlock] using hb.symm))
    · refine ⟨some ⟨g, off, none⟩, c, by rw [List.length_append, hk]; rfl, by rw [List.length_append, hk]; exact hr2, hcm, ?_, by simp, .inr ⟨g, off, rfl, fun i z hz => ?_⟩⟩
      · intro z hz
        rcases List.mem_append.1 hz with q | q
        · exact hr z q
        · simp at q; subst q; exact hy
      · by_cases hi2 : i < k
        · rw [List.getElem?_append_left (by omega)] at hz
          rw [World.cell?_setCell_other _ _ _ _ (fun q => by injection q with _ q _; omega)]
          exact hc i z hz
        · rw [List.getElem?_append_right (by omega), hk] at hz
          have hik : i - k = 0 := by
            rcases Nat.eq_zero_or_pos (i - k) with q | q
            · exact q
            · rw [List.getElem?_eq_none (by simp; omega)] at hz; cases hz
          rw [hik] at hz
          simp at hz
          subst hz
          have : i = k := by omega
          subst this
          obtain ⟨u, hu⟩ := Option.isSome_iff_exists.1 sp.1
          exact World.cell?_setCell_same _ _ _ hu
    · exact ⟨rfl, rfl, rfl, by simp, fun b hb hn => Below.heap_setCell w ⟨g, off + k, none⟩ _ b (fun q => hn (by rw [q]))⟩
  · obtain ⟨v', w', hrun, r1, r2⟩ := run_append_arg_grows (P := Try.prog) w 24 o.type 2 i0 (.int .i64 0) 1 8 Try.underlying24 hi hz0 hz1 hz2 rfl (by decide) ⟨g, off, none⟩ k c (ts.map (Value.int .i64)) (by simp [hk])
      (fun j u hu => by
        rw [List.getElem?_map] at hu
        obtain ⟨z, hz, rfl⟩ := Option.map_eq_some_iff.1 hu
        rw [add_lit]; exact hc j z hz) ⟨m, 0, none⟩ 1 1 [.int .i64 y] (by simp) hnews (by omega) (by unfold maxLen; omega) (by omega)
    unfold Oper.wp
    simp [execOp, ho, resolve, invoke, builtin, hs, hx, hrun, Result.andThen]
    have hO : Own w' w.heap.size v' (ts ++ [y]) := own_of_row (ys := [y]) hr (by simpa using hy) (by rw [hk]; exact r1)
    exact h _ _ hO.sl ⟨r2.os, r2.tape, r2.output, r2.size, fun b hb _ => r2.block b hb (by simp)⟩ (fun b hb => .inr (hO.lt b hb).1)
/-- append(s[1:], y), s the call's own, in a region that draws. -/
theorem step_append_tl {w : World} {ops : Array Oper} {o : Oper} {a : Act} {K : Act → World → Prop} {Q : Exit → Act → World → Prop} {E : Prop} (hgd : o.guard = none) (s x : Operand)
    (ho : o.op = .call { callee := .builtin .append, args := #[s, x], argTypes := #[24, 24] })
    (B g n cap : Nat) (zs : List Int) (hown : Own w B (.slice (some ⟨g, 0, none⟩) n cap) zs) (hn1 : 0 < n) (hs : a.eval s = tailV g n cap)
    (m : Nat) (y : Int) (hy : R64 y) (hx : a.eval x = .slice (some ⟨m, 0, none⟩) 1 1) (hm : Bx w m #[.int .i64 y]) (hl : n ≤ 1000000)
    (h : ∀ v' w', Sl w' v' (zs.tail ++ [y]) → w.grownBy w' (some g) → (∀ b, v'.ownBlock = some b → b = g ∨ w.heap.size ≤ b) → K (a.put o.dst v') w') :
    if Region.wanted o (yielded ops a.tmps) = true then Oper.wp Try.prog o a w K Q else E := by
  have hw : Region.wanted o (yielded ops a.tmps) = true := by simp [Region.wanted, hgd]
  rw [if_pos hw]
  have hnum := hown.num
  obtain ⟨_, cap', e, hc1, hc2, _⟩ := hown.sl
  injection e with _ _ e
  subst e
  have htl : zs.tail.length = n - 1 := by rw [List.length_tail, hnum]
  have hR : ∀ z ∈ zs.tail, R64 z := fun z hz => hown.2 z (List.mem_of_mem_tail hz)
  by_cases hcap : cap = 1
  · have h1 : n = 1 := by omega
    have ht0 : zs.tail = [] := List.eq_nil_of_length_eq_zero (by omega)
    rw [tailV, if_pos hcap] at hs
    rw [ht0] at h hR
    exact wp_append_core s x ho g 0 0 0 [] rfl hs (fun i z hz => by simp at hz) hR m y hy hx hm (fun q => by omega) (by unfold maxLen; omega) (by omega) h
  · rw [tailV, if_neg hcap] at hs
    refine wp_append_core s x ho g 1 (n - 1) (cap - 1) zs.tail htl hs (fun i z hz => ?_) hR m y hy hx hm (fun q => ?_) (by omega) (by omega) h
    · rw [List.getElem?_tail] at hz
      have hi := (List.getElem?_eq_some_iff.1 hz).1
      obtain ⟨z2, hz2, c2, _⟩ := hown.cellAt hi
      rw [hz] at hz2
      injection hz2 with hz2
      subst hz2
      rw [show 1 + i = i + 1 by omega]
      exact c2
    · have := own_spare hown (show n < cap by omega)
      rw [show 1 + (n - 1) = n by omega]
      exact this

end Go.Proofs.Ytgkelemfbmmgnaa

