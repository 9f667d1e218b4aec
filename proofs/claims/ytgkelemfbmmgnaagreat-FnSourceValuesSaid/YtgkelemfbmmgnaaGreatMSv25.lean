/- Some of the texts of this claim, joined in one file: StS, Val. -/
import Derived.Test.YtgkelemfbmmgnaaGreatMSv24
import Derived.Test.YtgkelemfbmmgnaaGreatMSv21
/- The reference's stream: terms are fed and emitted. Each theorem names its conditions. -/
namespace Go.Proofs.YtgkelemfbmmgnaaGreat
open Go.RowKit
set_option linter.unusedVariables false
set_option linter.unusedSimpArgs false


set_option maxHeartbeats 800000 in
theorem big_yes (q c : Int) (w : World) (hq : -1000000000 ≤ q ∧ q ≤ 1000000000) (hc : -1000000000 ≤ c ∧ c ≤ 1000000000) :
    Calls Tryz.prog 91 #[.int .i64 q, .int .i64 c] w fun e w' => e = .returned (.bool true) ∧ w = w' := by
  by_cases h0 : q = 0
  · have c0 : (q == 0) = true := by simp [h0]
    clear h0
    go_enter Tryz.func91, Tryz.ntmps91
    go_wp2
    go_ret
    exact ⟨rfl, rfl⟩
  · have c0 : (q == 0) = false := by simp [h0]
    have a1 : 1 ≤ ab q := by unfold ab; omega
    have a2 : ab q ≤ 1000000000 := ab_le hq
    have a3 : ab c ≤ 1000000000 := ab_le hc
    have a4 := ab_nonneg c
    have a5 : 1000000000 ≤ 1000000000000000000 / ab q := by
      rw [Int.le_ediv_iff_mul_le (by omega)]
      omega
    have a6 : 1000000000000000000 / ab q ≤ 1000000000000000000 := Int.ediv_le_self _ (by omega)
    have a7 : ab c ≤ 1000000000000000000 / ab q := by omega
    have cz : (ab q == 0) = false := by rw [beq_eq_false_iff_ne]; omega
    clear h0
    go_enter Tryz.func91, Tryz.ntmps91
    go_wp2_with fail
    refine (size_any _ _ (by omega)).mono ?_
    rintro e w9 ⟨rfl, rfl⟩
    go_wp2_with fail
    refine (size_any _ _ (by omega)).mono ?_
    rintro e w9 ⟨rfl, rfl⟩
    go_wp2
    go_ret
    exact ⟨rfl, rfl⟩

set_option maxRecDepth 100000 in
set_option maxHeartbeats 3200000 in
theorem sem_any (s : St) (q : Int) (w : World) (e : bdS s = true) (hq : -1000000000 ≤ q ∧ q ≤ 1000000000) : Calls Tryz.prog 58 #[.agg #[.int .i64 s.a, .int .i64 s.b, .int .i64 s.c, .int .i64 s.d], .int .i64 q] w fun e w' => e = .returned (.tuple #[.agg #[.int .i64 (emF s q).a, .int .i64 (emF s q).b, .int .i64 (emF s q).c, .int .i64 (emF s q).d], .bool (bdS (emF s q))]) ∧ Bl w w' := by
  have hb := bdS_iff.1 e
  have b1 := mulbdS hq hb.2.2.1
  have b2 := mulbdS hq hb.2.2.2
  clear e
  go_enter Tryz.func58, Tryz.ntmps58
  go_wp2_with fail
  have B1 : Bl w ((w.alloc (.cells #[.int .i64 s.a, .int .i64 s.b, .int .i64 s.c, .int .i64 s.d] 40)).alloc (.cells #[.int .i64 0, .int .i64 0, .int .i64 0, .int .i64 0] 40)) := (bl_alloc (bl_alloc (bl_refl _) _) _)
  have xS_1 : Bx ((w.alloc (.cells #[.int .i64 s.a, .int .i64 s.b, .int .i64 s.c, .int .i64 s.d] 40)).alloc (.cells #[.int .i64 0, .int .i64 0, .int .i64 0, .int .i64 0] 40)) (w.heap.size) #[.int .i64 s.a, .int .i64 s.b, .int .i64 s.c, .int .i64 s.d] := ((Bx.new (b := w.heap.size) _ #[.int .i64 s.a, .int .i64 s.b, .int .i64 s.c, .int .i64 s.d] 40 (by first | rfl | simp)).alloc _)
  have xR_1 : Bx ((w.alloc (.cells #[.int .i64 s.a, .int .i64 s.b, .int .i64 s.c, .int .i64 s.d] 40)).alloc (.cells #[.int .i64 0, .int .i64 0, .int .i64 0, .int .i64 0] 40)) (w.heap.size + 1) #[.int .i64 0, .int .i64 0, .int .i64 0, .int .i64 0] := (Bx.new (b := w.heap.size + 1) _ #[.int .i64 0, .int .i64 0, .int .i64 0, .int .i64 0] 40 (by first | rfl | simp))
  have zz1 : w.heap.size + 2 ≤ ((w.alloc (.cells #[.int .i64 s.a, .int .i64 s.b, .int .i64 s.c, .int .i64 s.d] 40)).alloc (.cells #[.int .i64 0, .int .i64 0, .int .i64 0, .int .i64 0] 40)).heap.size := (by simp)
  generalize ((w.alloc (.cells #[.int .i64 s.a, .int .i64 s.b, .int .i64 s.c, .int .i64 s.d] 40)).alloc (.cells #[.int .i64 0, .int .i64 0, .int .i64 0, .int .i64 0] 40)) = w1 at *
  obtain ⟨cS_1, fS_1, zS_1⟩ := xS_1.out
  obtain ⟨cR_1, fR_1, zR_1⟩ := xR_1.out
  refine (big_yes _ _ _ hq hb.2.2.1).mono ?_
  rintro e w9 ⟨rfl, rfl⟩
  go_wp2_with fail
  refine (big_yes _ _ _ hq hb.2.2.2).mono ?_
  rintro e w9 ⟨rfl, rfl⟩
  go_wp2_with fail
  have B2 : Bl w (w1.alloc (.cells #[.int .i64 (s.c), .int .i64 (s.d), .int .i64 (s.a - q * s.c), .int .i64 (s.b - q * s.d)] 40)) := (bl_alloc B1 _)
  have xS_2 : Bx (w1.alloc (.cells #[.int .i64 (s.c), .int .i64 (s.d), .int .i64 (s.a - q * s.c), .int .i64 (s.b - q * s.d)] 40)) (w.heap.size) #[.int .i64 s.a, .int .i64 s.b, .int .i64 s.c, .int .i64 s.d] := (xS_1.alloc _)
  have xR_2 : Bx (w1.alloc (.cells #[.int .i64 (s.c), .int .i64 (s.d), .int .i64 (s.a - q * s.c), .int .i64 (s.b - q * s.d)] 40)) (w.heap.size + 1) #[.int .i64 0, .int .i64 0, .int .i64 0, .int .i64 0] := (xR_1.alloc _)
  have xN_2 : Bx (w1.alloc (.cells #[.int .i64 (s.c), .int .i64 (s.d), .int .i64 (s.a - q * s.c), .int .i64 (s.b - q * s.d)] 40)) (w1.heap.size) #[.int .i64 (s.c), .int .i64 (s.d), .int .i64 (s.a - q * s.c), .int .i64 (s.b - q * s.d)] := (Bx.new (b := w1.heap.size) _ #[.int .i64 (s.c), .int .i64 (s.d), .int .i64 (s.a - q * s.c), .int .i64 (s.b - q * s.d)] 40 (by first | rfl | simp))
  have zz2 : w1.heap.size + 1 ≤ (w1.alloc (.cells #[.int .i64 (s.c), .int .i64 (s.d), .int .i64 (s.a - q * s.c), .int .i64 (s.b - q * s.d)] 40)).heap.size := (by simp)
  clear cS_1 fS_1 zS_1 cR_1 fR_1 zR_1
  generalize (w1.alloc (.cells #[.int .i64 (s.c), .int .i64 (s.d), .int .i64 (s.a - q * s.c), .int .i64 (s.b - q * s.d)] 40)) = w2 at *
  obtain ⟨cS_2, fS_2, zS_2⟩ := xS_2.out
  obtain ⟨cR_2, fR_2, zR_2⟩ := xR_2.out
  obtain ⟨cN_2, fN_2, zN_2⟩ := xN_2.out
  go_cut [5] (fun s5 wx => s5 = .bool (bdS (emF s q)) ∧ Bx wx (w.heap.size + 1) #[.int .i64 (s.c), .int .i64 (s.d), .int .i64 (s.a - q * s.c), .int .i64 (s.b - q * s.d)] ∧ Bl w wx)
  case first =>
    go_region_held3 (fun w' => w'.cell? ⟨w1.heap.size, 0, none⟩ = some (.int .i64 (s.c)) ∧ w'.cell? ⟨w1.heap.size, 1, none⟩ = some (.int .i64 (s.d)) ∧ w'.cell? ⟨w1.heap.size, 2, none⟩ = some (.int .i64 (s.a - q * s.c)) ∧ w'.cell? ⟨w1.heap.size, 3, none⟩ = some (.int .i64 (s.b - q * s.d))) (first | (simp [*]; done) | (go_simp; done) | go_keep)
      (first | (go_at_call 56; go_must (refine (sfits_any (emF s q) _).mono ?_; rintro e w8 ⟨rfl, hb8⟩; (first | (have nb : Bx w8 (w1.heap.size) #[.int .i64 (s.c), .int .i64 (s.d), .int .i64 (s.a - q * s.c), .int .i64 (s.b - q * s.d)] := xN_2.drew.below hb8; have rb : Bx w8 (w.heap.size + 1) #[.int .i64 0, .int .i64 0, .int .i64 0, .int .i64 0] := xR_2.drew.below hb8; have BB : Bl w w8 := bl_call (bl_drew B2) hb8; obtain ⟨cn, fn, zn⟩ := nb.out; obtain ⟨cr, fr, zr⟩ := rb.out) | (have nb : Bx w8 (w1.heap.size) #[.int .i64 (s.c), .int .i64 (s.d), .int .i64 (s.a - q * s.c), .int .i64 (s.b - q * s.d)] := ((((xN_2.drew.far (by first | (simp; done) | (simp; omega)) _).far (by first | (simp; done) | (simp; omega)) _).far (by first | (simp; done) | (simp; omega)) _).far (by first | (simp; done) | (simp; omega)) _).below hb8; have rb : Bx w8 (w.heap.size + 1) #[.int .i64 (s.c), .int .i64 (s.d), .int .i64 (s.a - q * s.c), .int .i64 (s.b - q * s.d)] := ((((xR_2.drew.set 0 (.int .i64 (s.c))).set 1 (.int .i64 (s.d))).set 2 (.int .i64 (s.a - q * s.c))).set 3 (.int .i64 (s.b - q * s.d))).below hb8; have BB : Bl w w8 := bl_call (bl_set (bl_set (bl_set (bl_set (bl_drew B2) (by first | exact Nat.le_refl _ | (simp; done) | (simp; omega)) _) (by first | exact Nat.le_refl _ | (simp; done) | (simp; omega)) _) (by first | exact Nat.le_refl _ | (simp; done) | (simp; omega)) _) (by first | exact Nat.le_refl _ | (simp; done) | (simp; omega)) _) hb8; obtain ⟨cn, fn, zn⟩ := nb.out; obtain ⟨cr, fr, zr⟩ := rb.out)))))
    all_goals (go_wp2_with fail; go_meet; (first | exact ⟨rfl, rb, BB⟩ | exact ⟨rfl, ((((rb.set 0 (.int .i64 (s.c))).set 1 (.int .i64 (s.d))).set 2 (.int .i64 (s.a - q * s.c))).set 3 (.int .i64 (s.b - q * s.d))), (bl_set (bl_set (bl_set (bl_set BB (by first | exact Nat.le_refl _ | (simp; done) | (simp; omega)) _) (by first | exact Nat.le_refl _ | (simp; done) | (simp; omega)) _) (by first | exact Nat.le_refl _ | (simp; done) | (simp; omega)) _) (by first | exact Nat.le_refl _ | (simp; done) | (simp; omega)) _)⟩))
  case rest =>
    obtain ⟨rfl, xR, BB⟩ := hcut
    have BC : Bl w wc := BB
    obtain ⟨cR, fR, zR⟩ := xR.out
    clear cS_2 fS_2 zS_2 cR_2 fR_2 zR_2 cN_2 fN_2 zN_2
    go_wp2
    refine bodyPost_ret (v := .tuple #[.agg #[.int .i64 (s.c), .int .i64 (s.d), .int .i64 (s.a - q * s.c), .int .i64 (s.b - q * s.d)], .bool (bdS (emF s q))]) (by simp only [results, Tryz.results58]; go_simp) rfl ⟨rfl, BC⟩

/-- What emission leaves in the reference's stream. -/
def EmS (w : World) (p B : Nat) (ov : Value) (R : Option (St × List Int)) (e : Ending) (w' : World) : Prop :=
  Upv w w' p ov ∧ e = .returned (.tuple #[]) ∧ match R with
    | none => ∃ (s1 : St) (v1 : Value), Bx w' p #[.int .i64 s1.a, .int .i64 s1.b, .int .i64 s1.c, .int .i64 s1.d, v1, .int .i64 5]
    | some (s', out') => ∃ ov' : Value, Bx w' p #[.int .i64 s'.a, .int .i64 s'.b, .int .i64 s'.c, .int .i64 s'.d, ov', .int .i64 0] ∧ Own w' B ov' out' ∧ RowOf w ov ov'
theorem ems_yes {w w' : World} {p B : Nat} {ov v1 : Value} {s1 : St} {o1 : List Int} {R : Option (St × List Int)} (hR : R = some (s1, o1)) (hu : Upv w w' p ov) (hx : Bx w' p #[.int .i64 s1.a, .int .i64 s1.b, .int .i64 s1.c, .int .i64 s1.d, v1, .int .i64 0]) (ho : Own w' B v1 o1) (hr : RowOf w ov v1) : EmS w p B ov R (.returned (.tuple #[])) w' := by
  subst hR
  exact ⟨hu, rfl, v1, hx, ho, hr⟩
theorem ems_no {w w' : World} {p B : Nat} {ov : Value} {R : Option (St × List Int)} {s1 : St} {v1 : Value} (hR : R = none) (hu : Upv w w' p ov) (hx : Bx w' p #[.int .i64 s1.a, .int .i64 s1.b, .int .i64 s1.c, .int .i64 s1.d, v1, .int .i64 5]) : EmS w p B ov R (.returned (.tuple #[])) w' := by
  subst hR
  exact ⟨hu, rfl, s1, v1, hx⟩

/-- Feed a term, and emit what is known then. -/
def feedR (s : St) (out : List Int) (t : Int) : Option (St × List Int) := if bdS (fedF s t) then emitF 1073741824 (fedF s t) out else none
theorem feedR_yes {s : St} {out : List Int} {t : Int} (h : bdS (fedF s t) = true) : feedR s out t = emitF 1073741824 (fedF s t) out := by rw [feedR, if_pos h]
theorem feedR_no {s : St} {out : List Int} {t : Int} (h : bdS (fedF s t) = false) : feedR s out t = none := by rw [feedR, if_neg (by rw [h]; simp)]
theorem ems_on {w w1 w2 : World} {p B : Nat} {ov : Value} {R : Option (St × List Int)} {e : Ending} (hu : Upd w w1 p) (h : EmS w1 p B ov R e w2) : EmS w p B ov R e w2 := by
  obtain ⟨h1, h2, h3⟩ := h
  refine ⟨upv_upv (upv_upd (upv_refl w p ov) hu) h1 (fun k hk => .inl hk), h2, ?_⟩
  cases R with
  | none => exact h3
  | some r =>
    obtain ⟨ov', a, b, c⟩ := h3
    exact ⟨ov', a, b, fun k hk => (c k hk).imp id (fun q => Nat.le_trans hu.size q)⟩
end Go.Proofs.YtgkelemfbmmgnaaGreat

/- Whether a list is one of terms: the program's test and the reference's. Each theorem names its conditions. -/
namespace Go.Proofs.YtgkelemfbmmgnaaGreat
open Go.RowKit
set_option linter.unusedVariables false
set_option linter.unusedSimpArgs false

/-- Are the numbers terms? -/
def termsP (xs : List Int) : Bool :=
  decide (1 ≤ xs.length ∧ xs.length ≤ 60) && inB (xs.getD 0 0) (-1000000000) 1000000000 && !(xs.tail.any fun x => (!inB x 1 1000000000))
theorem Sl.from1 {w : World} {n c : Nat} {b o : Nat} {xs : List Int} (h : Sl w (.slice (some ⟨b, o, none⟩) n c) xs) (hn : 1 ≤ xs.length) : Sl w (.slice (some ⟨b, o + 1, none⟩) (n - 1) (c - 1)) xs.tail := by
  obtain ⟨a', cap, e, h1, h2, h3, h4, h5⟩ := h
  simp only [Value.slice.injEq] at e
  obtain ⟨rfl, rfl, rfl⟩ := e
  refine ⟨some ⟨b, o + 1, none⟩, c - 1, by simp, by simp; omega, by unfold maxLen at *; omega, fun x hx => h3 x (List.mem_of_mem_tail hx), by simp, ?_⟩
  rcases h5 with h5 | ⟨b', off, e, hc⟩
  · subst h5; simp at hn
  · simp only [Option.some.injEq, Addr.mk.injEq] at e
    obtain ⟨rfl, rfl, _⟩ := e
    refine .inr ⟨_, _, rfl, fun i x hx => ?_⟩
    rw [List.getElem?_tail] at hx
    have := hc (i + 1) x hx
    rw [show o + 1 + i = o + (i + 1) by omega]
    exact this
set_option maxHeartbeats 400000 in
theorem sizeI_any (a : Option Addr) (n c : Nat) (w : World) (hn : n ≤ 9223372036854775807) : Calls Tryz.prog 40 #[.slice a n c] w fun e w' => e = .returned (.int .i64 n) ∧ w = w' := lsize_any a n c w hn

set_option maxRecDepth 100000 in
set_option maxHeartbeats 1600000 in
theorem ivalT_any (va : Value) (xs : List Int) (w : World) (ha : Sl w va xs) (hl : xs.length ≤ 1048576) :
    Calls Tryz.prog 85 #[va] w fun e w' => e = .returned (.bool (termsP xs)) ∧ Bl w w' := by
  obtain ⟨av, cv, rfl, hcv⟩ := ha.form'
  cases e1 : inB (xs.length : Int) 1 60 with
  | false =>
    have HR := Lib.hid (show false = termsP xs by
      have : ¬ (1 ≤ xs.length ∧ xs.length ≤ 60) := fun h => by rw [inB_iff.2 (by omega)] at e1; cases e1
      simp [termsP, this])
    have E1 := Lib.hid e1
    clear e1
    go_enter Tryz.func85, Tryz.ntmps85
    go_wp2_with (go_at_call 40; refine (lsize_any _ _ _ _ (by omega)).mono ?_; rintro e w9 ⟨rfl, rfl⟩)
    refine (inB_eq E1.out _).mono ?_
    rintro e w9 ⟨rfl, rfl⟩
    go_wp2
    go_ret
    exact ⟨ret_bool HR.out, bl_refl _⟩
  | true =>
    have hb := inB_iff.1 e1
    have h1 : 1 ≤ xs.length ∧ xs.length ≤ 60 := by omega
    obtain ⟨b, o, rfl, x, hx, cx, rx⟩ := ha.cellAt' (bl_refl w) (k := 0) (by omega)
    have hx0 : xs.getD 0 0 = x := by simp [hx]
    rw [Nat.add_zero] at cx
    have E1 := Lib.hid e1
    clear e1
    cases e2 : inB x (-1000000000) 1000000000 with
    | false =>
      have HR := Lib.hid (show false = termsP xs by simp only [termsP, hx0, e2]; simp)
      have E2 := Lib.hid e2
      clear e2 hx hx0
      go_enter Tryz.func85, Tryz.ntmps85
      go_wp2_with (go_at_call 40; refine (lsize_any _ _ _ _ (by omega)).mono ?_; rintro e w9 ⟨rfl, rfl⟩)
      refine (inB_eq E1.out _).mono ?_
      rintro e w9 ⟨rfl, rfl⟩
      go_wp2_with fail
      refine (inB_eq E2.out _).mono ?_
      rintro e w9 ⟨rfl, rfl⟩
      go_wp2
      go_ret
      exact ⟨ret_bool HR.out, bl_refl _⟩
    | true =>
      have HR := Lib.hid (show (!(xs.tail.any fun x => (!inB x 1 1000000000))) = termsP xs by simp only [termsP, hx0, e2]; simp [h1])
      have E2 := Lib.hid e2
      clear e2 hx hx0
      have hi1 : (1 : Int) ≤ (xs.length : Int) := by omega
      have hi2 : (xs.length : Int) ≤ (cv : Int) := by omega
      by_cases hc1 : cv = 1
      · subst hc1
        have hl1 : xs.length = 1 := by omega
        obtain ⟨y, rfl⟩ := List.length_eq_one_iff.1 hl1
        have hd : ∀ W : World, Sl W (.slice (some ⟨b, o, none⟩) 0 0) [] := fun W => ⟨_, 0, rfl, Nat.le_refl _, by simp [maxLen], by simp, by simp, .inl rfl⟩
        have HD := Lib.hid hd
        have ha' := Lib.hid ha
        clear hd ha hl1
        go_enter Tryz.func85, Tryz.ntmps85
        go_wp2_with (go_at_call 40; refine (lsize_any _ _ _ _ (by omega)).mono ?_; rintro e w9 ⟨rfl, rfl⟩)
        refine (inB_eq E1.out _).mono ?_
        rintro e w9 ⟨rfl, rfl⟩
        go_wp2_with fail
        refine (inB_eq E2.out _).mono ?_
        rintro e w9 ⟨rfl, rfl⟩
        go_wp2_with fail
        refine (contT_any _ [] _ (HD.out _) (by simp)).mono ?_
        rintro e w1 ⟨rfl, hb1⟩
        go_wp2
        go_ret
        exact ⟨ret_bool (by have := HR.out; simpa using this), hb1⟩
      · have hc2 : (cv == 1) = false := by simp [hc1]
        have hc3 : 1 < cv := by omega
        have hd := Lib.hid (ha.from1 h1.1)
        clear hc1
        go_enter Tryz.func85, Tryz.ntmps85
        go_wp2_with (go_at_call 40; refine (lsize_any _ _ _ _ (by omega)).mono ?_; rintro e w9 ⟨rfl, rfl⟩)
        refine (inB_eq E1.out _).mono ?_
        rintro e w9 ⟨rfl, rfl⟩
        go_wp2_with fail
        refine (inB_eq E2.out _).mono ?_
        rintro e w9 ⟨rfl, rfl⟩
        go_wp2_with fail
        refine (contT_any _ xs.tail _ hd.out (by simp; omega)).mono ?_
        rintro e w1 ⟨rfl, hb1⟩
        go_wp2
        go_ret
        exact ⟨ret_bool HR.out, hb1⟩
theorem sinB_eq {n lo hi : Int} {b : Bool} (h : inB n lo hi = b) (w : World) : Calls Tryz.prog 42 #[.int .i64 n, .int .i64 lo, .int .i64 hi] w fun e w' => e = .returned (.bool b) ∧ w = w' := h ▸ in_any n lo hi w

/-- The least term at a place. -/
def lowT (i : Nat) : Int := if i = 0 then -1000000000 else 1
theorem termsP_iff {xs : List Int} : termsP xs = true ↔ (1 ≤ xs.length ∧ xs.length ≤ 60) ∧ ∀ (i : Nat) (x : Int), xs[i]? = some x → inB x (lowT i) 1000000000 = true := by
  unfold termsP
  simp only [Bool.and_eq_true, decide_eq_true_eq, Bool.not_eq_true', List.any_eq_false]
  constructor
  · rintro ⟨⟨h1, h2⟩, h3⟩
    refine ⟨h1, fun i x hx => ?_⟩
    cases i with
    | zero => simp [hx] at h2; exact h2
    | succ i =>
      have := h3 x (List.mem_of_getElem? (i := i) (by rw [List.getElem?_tail]; exact hx))
      simpa [lowT] using this
  · rintro ⟨h1, h2⟩
    refine ⟨⟨h1, ?_⟩, fun x hx => ?_⟩
    · have hx : xs[0]? = some xs[0] := List.getElem?_eq_getElem (by omega)
      have := h2 0 _ hx
      simp [hx]
      exact this
    · obtain ⟨i, hi⟩ := List.getElem?_of_mem hx
      rw [List.getElem?_tail] at hi
      have := h2 (i + 1) x hi
      simpa [lowT] using this
theorem termsP_no {xs : List Int} {i : Nat} {x : Int} (hx : xs[i]? = some x) (h : inB x (lowT i) 1000000000 = false) : false = termsP xs := by
  cases e : termsP xs with
  | false => rfl
  | true => have := (termsP_iff.1 e).2 i x hx; rw [h] at this; cases this
set_option maxRecDepth 100000 in
set_option maxHeartbeats 1600000 in
theorem svalT_any (va : Value) (xs : List Int) (w : World) (ha : Sl w va xs) (hl : xs.length ≤ 1048576) :
    Calls Tryz.prog 88 #[va] w fun e w' => e = .returned (.bool (termsP xs)) ∧ Bl w w' := by
  obtain ⟨av, cv, rfl, hcv⟩ := ha.form'
  have HA := Lib.hid ha
  clear ha
  go_enter Tryz.func88, Tryz.ntmps88
  go_wp2
  go_loopw [3, 4] (fun s3 s4 wr => ∃ k : Nat, s3 = .int .i64 k ∧ k ≤ xs.length ∧ Hid (∀ (i : Nat) (x : Int), i < k → xs[i]? = some x → inB x (lowT i) 1000000000 = true) ∧ Bl w wr) (fun s3 _ _ => xs.length - (intOf s3).toNat)
  case atStart => exact ⟨0, rfl, Nat.zero_le _, Lib.hid (fun i x hi => absurd hi (Nat.not_lt_zero _)), bl_refl _⟩
  case round =>
    rcases hrel with ⟨k, rfl, hkl, hG, Br⟩
    rcases Nat.lt_or_ge k xs.length with hk | hk
    · obtain ⟨bb, oo, rfl, x, hx, cx, rx⟩ := HA.out.cellAt' Br hk
      have HX := Lib.hid hx
      clear hx
      have hlow : lowT k = if k = 0 then -1000000000 else 1 := rfl
      cases hp : inB x (lowT k) 1000000000 with
      | false =>
        have HR := Lib.hid (termsP_no HX.out hp)
        rcases Nat.eq_zero_or_pos k with h0 | h0
        all_goals
          first | (rw [hlow, if_pos h0] at hp) | (rw [hlow, if_neg (by omega)] at hp)
          have HP := Lib.hid hp
          clear hp hlow
          first | (subst h0; rw [Nat.add_zero] at cx) | (have hb : ((k : Int) == 0) = false := beq_eq_false_iff_ne.2 (by omega))
          go_wp2_with fail
          refine (sinB_eq HP.out _).mono ?_
          rintro e w9 ⟨rfl, rfl⟩
          go_wp2
          go_ret
          exact ⟨ret_bool HR.out, Br⟩
      | true =>
        have HN := Lib.hid (show ∀ (i : Nat) (x : Int), i < k + 1 → xs[i]? = some x → inB x (lowT i) 1000000000 = true from fun i y hi hy => by
          rcases Nat.lt_or_ge i k with q | q
          · exact hG.out i y q hy
          · obtain rfl : i = k := by omega
            rw [HX.out] at hy
            exact Option.some.inj hy ▸ hp)
        rcases Nat.eq_zero_or_pos k with h0 | h0
        all_goals
          first | (rw [hlow, if_pos h0] at hp) | (rw [hlow, if_neg (by omega)] at hp)
          have HP := Lib.hid hp
          clear hp hlow
          first | (subst h0; rw [Nat.add_zero] at cx) | (have hb : ((k : Int) == 0) = false := beq_eq_false_iff_ne.2 (by omega))
          go_wp2_with fail
          refine (sinB_eq HP.out _).mono ?_
          rintro e w9 ⟨rfl, rfl⟩
          go_wp2
          go_roundw
          case rel => exact ⟨_, by go_num, by omega, HN, Br⟩
          case measure => clear HN; simp [intOf]; omega
    · have HN := Lib.hid (show ∀ (i : Nat) (x : Int), xs[i]? = some x → inB x (lowT i) 1000000000 = true from fun i x hx => hG.out i x (Nat.lt_of_lt_of_le (List.getElem?_eq_some_iff.1 hx).1 hk) hx)
      cases e1 : inB (xs.length : Int) 1 60 with
      | false =>
        have HR := Lib.hid (show false = termsP xs by
          cases e : termsP xs with
          | false => rfl
          | true => have := (termsP_iff.1 e).1; rw [inB_iff.2 (by omega)] at e1; cases e1)
        have E1 := Lib.hid e1
        clear e1
        go_wp2_with fail
        refine (sinB_eq E1.out _).mono ?_
        rintro e w9 ⟨rfl, rfl⟩
        go_wp2
        go_ret
        exact ⟨ret_bool HR.out, Br⟩
      | true =>
        have HR := Lib.hid (show true = termsP xs from (termsP_iff.2 ⟨by have := inB_iff.1 e1; omega, HN.out⟩).symm)
        have E1 := Lib.hid e1
        clear e1
        go_wp2_with fail
        refine (sinB_eq E1.out _).mono ?_
        rintro e w9 ⟨rfl, rfl⟩
        go_wp2
        go_ret
        exact ⟨ret_bool HR.out, Br⟩

end Go.Proofs.YtgkelemfbmmgnaaGreat

