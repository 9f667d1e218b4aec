/- Some of the texts of this claim, joined in one file: Fneed, EndI. -/
import Derived.Test.YtgkelemfbmmgnaaMTp12
import Derived.Test.YtgkelemfbmmgnaaMTp6
import Derived.Test.YtgkelemfbmmgnaaMTp13
import Derived.Test.YtgkelemfbmmgnaaMTp7
/- FeedsNeeded: the program and the reference give the same. Each theorem names its conditions. -/
namespace Go.Proofs.Ytgkelemfbmmgnaa
open Go.RowKit
set_option linter.unusedVariables false
set_option linter.unusedSimpArgs false

/-- How many terms are needed for m terms of the value. -/
def feedsG (m : Int) : List Int → Nat → St → List Int → Int × Int
  | [], n, s, out => if (out.length : Int) < m then (0, 3) else ((n : Int), 0)
  | t :: ts, n, s, out => if (out.length : Int) < m then (match feedR s out t with | none => (0, 5) | some r => feedsG m ts (n + 1) r.1 r.2) else ((n : Int), 0)
theorem feeds_done {m : Int} {xs : List Int} {n : Nat} {s : St} {out : List Int} (h : ¬ (out.length : Int) < m) : feedsG m xs n s out = ((n : Int), 0) := by
  cases xs <;> rw [feedsG, if_neg h]
theorem drop_at {xs : List Int} {k : Nat} {t : Int} (h : xs[k]? = some t) : xs.drop k = t :: xs.drop (k + 1) := by
  obtain ⟨hk, rfl⟩ := List.getElem?_eq_some_iff.1 h
  exact List.drop_eq_getElem_cons hk
theorem feeds_end {m : Int} {xs : List Int} {n : Nat} {s : St} {out : List Int} (h : (out.length : Int) < m) (hn : n = xs.length) : feedsG m (xs.drop n) n s out = (0, 3) := by
  rw [List.drop_of_length_le (by omega), feedsG, if_pos h]
theorem feeds_none {m t : Int} {xs : List Int} {n : Nat} {s : St} {out : List Int} (h : (out.length : Int) < m) (ht : xs[n]? = some t) (hr : feedR s out t = none) : feedsG m (xs.drop n) n s out = (0, 5) := by
  rw [drop_at ht, feedsG, if_pos h, hr]
theorem feeds_some {m t : Int} {xs : List Int} {n : Nat} {s s' : St} {out out' : List Int} (h : (out.length : Int) < m) (ht : xs[n]? = some t) (hr : feedR s out t = some (s', out')) : feedsG m (xs.drop n) n s out = feedsG m (xs.drop (n + 1)) (n + 1) s' out' := by
  rw [drop_at ht, feedsG, if_pos h, hr]
/-- How many terms are needed, and a code. -/
def fneedF (a b c d : Int) (xs : List Int) (m : Int) : Int × Int :=
  if okS ⟨a, b, c, d⟩ then (if termsP xs then (if inB m 0 60 then feedsG m xs 0 ⟨a, b, c, d⟩ [] else (0, 2)) else (0, 1)) else (0, 1)
theorem feedR_inv {s s' : St} {out out' : List Int} {t : Int} (hl : out.length ≤ 60) (h : feedR s out t = some (s', out')) : bdS s' = true ∧ out'.length ≤ 60 ∧ out.length ≤ out'.length ∧ (Det s → Det s') := by
  unfold feedR at h
  split at h
  · rename_i hb
    have h1 := emit_bd (most := 1073741824) (by omega) hl hb h
    have h2 := emit_keeps (most := 1073741824) (fun _ => True) (fun _ _ _ => trivial) hl trivial h
    exact ⟨h1, h2.2.1, h2.2.2, fun hd => (emit_keeps (most := 1073741824) Det (fun _ q hq => hq.em q) hl (hd.fed t) h).1⟩
  · cases h
theorem termsP_bdT {xs : List Int} {n : Nat} {t : Int} (h : termsP xs = true) (ht : xs[n]? = some t) : -1000000000 ≤ t ∧ t ≤ 1000000000 := by
  have := (termsP_iff.1 h).2 n t ht
  have := inB_iff.1 this
  unfold lowT at this
  split at this <;> omega
theorem ret_iiN {r : Int × Int} {x b : Int} (h : r = (x, b)) : Ending.returned (.tuple #[.int .i64 x, .int .i64 b]) = .returned (.tuple #[.int .i64 r.1, .int .i64 r.2]) := by subst h; rfl
theorem iok_eq {s : St} {b : Bool} (h : okS s = b) (w : World) : Calls Try.prog 132 #[.agg #[.int .i64 s.a, .int .i64 s.b, .int .i64 s.c, .int .i64 s.d]] w fun e w' => e = .returned (.bool b) ∧ Bl w w' := h ▸ iok_any s w
theorem ivalT_eqN {va : Value} {xs : List Int} {b : Bool} (h : termsP xs = b) (w : World) (ha : Sl w va xs) (hl : xs.length ≤ 1048576) : Calls Try.prog 60 #[va] w fun e w' => e = .returned (.bool b) ∧ Bl w w' := h ▸ ivalT_any va xs w ha hl
end Go.Proofs.Ytgkelemfbmmgnaa

/- The end of a stream: the program. Each theorem names its conditions. -/
namespace Go.Proofs.Ytgkelemfbmmgnaa
open Go.RowKit
set_option linter.unusedVariables false
set_option linter.unusedSimpArgs false

theorem okF_bdE {n d : Int} (h : okF n d = true) : 1 ≤ d ∧ d ≤ 1000000000 ∧ -1000000000 ≤ n ∧ n ≤ 1000000000 := by
  have := okF_iff.1 h
  exact ⟨this.1.1, this.1.2, this.2.1.1, this.2.1.2⟩
theorem full_code {a c : Int} (h : (fullF a c).2.2 = 0) : okF (fullF a c).1 (fullF a c).2.1 = true := by
  obtain ⟨n, d, e⟩ : ∃ n d, (if c < 0 then lowF (-a) (-c) else lowF a c) = (n, d) := ⟨_, _, rfl⟩
  rw [fullF_eq a c n d e] at h ⊢
  cases k : okF n d with
  | true => rw [if_pos rfl]; exact k
  | false => rw [k] at h; simp at h
theorem end_inf {s : St} {out : List Int} (h : s.c = 0) (h2 : s.a = 0 ∨ out.length = 0) : endF s out = ([], 6) := by rw [endF, if_pos h, if_pos h2]
theorem end_inf_ok {s : St} {out : List Int} (h : s.c = 0) (h2 : ¬ (s.a = 0 ∨ out.length = 0)) (h3 : termsP (shortL out) = true) : endF s out = (shortL out, 0) := by rw [endF, if_pos h, if_neg h2, if_pos h3]
theorem end_inf_no {s : St} {out : List Int} (h : s.c = 0) (h2 : ¬ (s.a = 0 ∨ out.length = 0)) (h3 : termsP (shortL out) = false) : endF s out = ([], 5) := by rw [endF, if_pos h, if_neg h2, if_neg (by rw [h3]; simp)]
theorem end_code {s : St} {out : List Int} (h : s.c ≠ 0) (h2 : (fullF s.a s.c).2.2 ≠ 0) : endF s out = ([], (fullF s.a s.c).2.2) := by rw [endF, if_neg h, if_neg h2]
theorem end_ok {s : St} {out : List Int} {n d : Int} (h : s.c ≠ 0) (h2 : fullF s.a s.c = (n, d, 0)) (h3 : termsP (shortL (out ++ termsF n d)) = true) : endF s out = (shortL (out ++ termsF n d), 0) := by
  rw [endF, if_neg h, h2, if_pos rfl]; simp only []; rw [if_pos h3]
theorem end_no {s : St} {out : List Int} {n d : Int} (h : s.c ≠ 0) (h2 : fullF s.a s.c = (n, d, 0)) (h3 : termsP (shortL (out ++ termsF n d)) = false) : endF s out = ([], 5) := by
  rw [endF, if_neg h, h2, if_pos rfl]; simp only []; rw [if_neg (by rw [h3]; simp)]
/-- What the end of a stream tells and leaves. -/
def EndI (w : World) (p : Nat) (ov : Value) (s : St) (out : List Int) (e : Ending) (w' : World) : Prop :=
  ∃ a k c, e = .returned (.tuple #[.slice a k c, .int .i64 (endF s out).2]) ∧ Own w' w.heap.size (.slice a k c) (endF s out).1 ∧ Upv w w' p ov
theorem endi_no {w w' : World} {p : Nat} {ov : Value} {s : St} {out : List Int} {c : Int} (h : endF s out = ([], c)) (hu : Upv w w' p ov) : EndI w p ov s out (.returned (.tuple #[.slice none 0 0, .int .i64 c])) w' := by
  unfold EndI; rw [h]; exact ⟨none, 0, 0, rfl, Own.nil _ _, hu⟩
theorem endi_yes {w w' : World} {p k n : Nat} {ov : Value} {s : St} {out l : List Int} {a : Option Addr} (h : endF s out = (l, 0)) (ho : Own w' w.heap.size (.slice a k n) l) (hu : Upv w w' p ov) : EndI w p ov s out (.returned (.tuple #[.slice a k n, .int .i64 0])) w' := by
  unfold EndI; rw [h]; exact ⟨a, k, n, rfl, ho, hu⟩
theorem short_bd {xs : List Int} (h : ∀ x ∈ xs, -1000000000 ≤ x ∧ x ≤ 1000000000) : ∀ x ∈ xs, x ≤ 2000000000 := fun x hx => by have := h x hx; omega
theorem app_bd {out : List Int} {n d : Int} (hb : ∀ x ∈ out, -1000000000 ≤ x ∧ x ≤ 1000000000) (h : okF n d = true) : ∀ x ∈ out ++ termsF n d, -1000000000 ≤ x ∧ x ≤ 1000000000 := fun x hx => by
  have := okF_bdE h
  rcases List.mem_append.1 hx with hx | hx
  · exact hb x hx
  · exact termsF_R64 (by omega) (by omega) (by omega) x hx
theorem ivalT_eqE {va : Value} {xs : List Int} {b : Bool} (h : termsP xs = b) (w : World) (ha : Sl w va xs) (hl : xs.length ≤ 1048576) : Calls Try.prog 60 #[va] w fun e w' => e = .returned (.bool b) ∧ Bl w w' := h ▸ ivalT_any va xs w ha hl
set_option maxRecDepth 100000 in
set_option maxHeartbeats 6400000 in
theorem iend_any {w : World} {p B : Nat} {s : St} {lo : Bool} {ov : Value} {out : List Int} (hx : Bx w p #[.int .i64 s.a, .int .i64 s.b, .int .i64 s.c, .int .i64 s.d, .bool lo, ov]) (ho : Own w B ov out) (hB : B ≤ w.heap.size) (hp : ov.ownBlock ≠ some p) (hb : bdS s = true) (hl : out.length ≤ 60) (hbo : ∀ x ∈ out, -1000000000 ≤ x ∧ x ≤ 1000000000) :
    Calls Try.prog 118 #[.pointer (some ⟨p, 0, none⟩)] w (EndI w p ov s out) := by
  have hpw := hx.out.2.2
  have HO := Lib.hid ho
  have HP := Lib.hid hp
  have hbb := bdS_iff.1 hb
  have HBO := Lib.hid hbo
  obtain ⟨va, vc, rfl, _⟩ := ho.form
  clear ho hp hb hbo
  obtain ⟨c0, f0, _⟩ := hx.out
  by_cases hc : s.c = 0
  · have cc : (s.c == 0) = true := by simp [hc]
    have cn : (s.c != 0) = false := by simp [hc]
    by_cases hz : s.a = 0 ∨ out.length = 0
    · have HR := Lib.hid (end_inf hc hz)
      clear hc
      by_cases h1 : s.a = 0
      · have ca : (s.a == 0) = true := by simp [h1]
        clear h1 hz
        go_enter Try.func118, Try.ntmps118
        go_wp2
        go_ret2
        exact endi_no HR.out (upv_bl (upv_refl _ _ _) (bl_alloc (bl_refl _) _))
      · have ca : (s.a == 0) = false := by simp [h1]
        have cl : ((out.length : Int) == 0) = true := by simp; exact List.eq_nil_of_length_eq_zero (hz.resolve_left h1)
        clear h1 hz
        go_enter Try.func118, Try.ntmps118
        go_wp2
        go_ret2
        exact endi_no HR.out (upv_bl (upv_refl _ _ _) (bl_alloc (bl_refl _) _))
    · have ca : (s.a == 0) = false := by rw [beq_eq_false_iff_ne]; omega
      have cl : ((out.length : Int) == 0) = false := by rw [beq_eq_false_iff_ne]; omega
      cases ht : termsP (shortL out) with
      | true =>
        have HR := Lib.hid (end_inf_ok hc hz ht)
        have HT := Lib.hid ht
        clear ht hc hz
        go_enter Try.func118, Try.ntmps118
        go_wp2_with fail
        refine (shortI_any _ out _ (HO.out.alloc _).sl (by omega) (short_bd HBO.out)).mono ?_
        rintro e w2 ⟨a2, c2, rfl, HS, hb2⟩
        have HS := Lib.hid HS
        have u2 : Upv w w2 p (.slice va out.length vc) := upv_bl (upv_refl _ _ _) (bl_call (bl_alloc (bl_refl _) _) hb2)
        clear c0 f0
        go_wp2_with fail
        refine (ivalT_eqE HT.out _ HS.out.sl (by have := shortL_len out; omega)).mono ?_
        rintro e w3 ⟨rfl, hb3⟩
        go_wp2
        go_ret2
        exact endi_yes HR.out ((HS.out.below hb3).mono (by simp)) (upv_bl u2 hb3)
      | false =>
        have HR := Lib.hid (end_inf_no hc hz ht)
        have HT := Lib.hid ht
        clear ht hc hz
        go_enter Try.func118, Try.ntmps118
        go_wp2_with fail
        refine (shortI_any _ out _ (HO.out.alloc _).sl (by omega) (short_bd HBO.out)).mono ?_
        rintro e w2 ⟨a2, c2, rfl, HS, hb2⟩
        have HS := Lib.hid HS
        have u2 : Upv w w2 p (.slice va out.length vc) := upv_bl (upv_refl _ _ _) (bl_call (bl_alloc (bl_refl _) _) hb2)
        clear c0 f0
        go_wp2_with fail
        refine (ivalT_eqE HT.out _ HS.out.sl (by have := shortL_len out; omega)).mono ?_
        rintro e w3 ⟨rfl, hb3⟩
        go_wp2
        go_ret2
        exact endi_no HR.out (upv_bl u2 hb3)
  · have cc : (s.c == 0) = false := by simp [hc]
    have cn : (s.c != 0) = true := by simp [hc]
    have HC := Lib.hid hc
    by_cases hz : (fullF s.a s.c).2.2 = 0
    · have hok := full_code hz
      obtain ⟨n, d, k, hF⟩ : ∃ n d k, fullF s.a s.c = (n, d, k) := ⟨_, _, _, rfl⟩
      rw [hF] at hok hz
      simp only [] at hok hz
      subst hz
      have hbk := okF_bdE hok
      have HOK := Lib.hid hok
      have HF := Lib.hid hF
      have h60 := termsF_60 (n := n) (d := d) (by omega) (by omega)
      clear hF hok
      cases ht : termsP (shortL (out ++ termsF n d)) with
      | true =>
        have HR := Lib.hid (end_ok hc HF.out ht)
        have HT := Lib.hid ht
        clear ht hc
        go_enter Try.func118, Try.ntmps118
        go_wp2_with fail
        refine (plain_any _ _ _ (by omega) (by omega) HC.out (by omega) (by omega)).mono ?_
        rintro e w2 ⟨rfl, hb2⟩
        rw [HF.out]
        simp only []
        have hb2' : Bl w w2 := bl_call (bl_alloc (bl_refl _) _) hb2
        have x2 := hx.below hb2'
        have HO2 := Lib.hid (HO.out.below hb2')
        clear c0 f0
        obtain ⟨c2, f2, z2⟩ := x2.out
        go_wp2_with fail
        have hA : Bl w2 (w2.alloc (.cells #[.int .i64 n, .int .i64 d] 44)) := bl_alloc (bl_refl _) _
        have HO3 := Lib.hid (HO2.out.below hA)
        have hB3 : Bl w (w2.alloc (.cells #[.int .i64 n, .int .i64 d] 44)) := bl_call hb2' hA
        clear c2 f2 z2
        generalize w2.alloc (.cells #[.int .i64 n, .int .i64 d] 44) = w3 at *
        refine (expand_any n d _ (by omega) (by omega) (by omega)).mono ?_
        rintro e w4 ⟨ea, ec, rfl, hE, hb4⟩
        have HE := Lib.hid hE
        have HO4 := Lib.hid (HO3.out.below hb4)
        have hB4 := bl_call hB3 hb4
        clear hE
        go_wp2_with (at_builtin; refine wpList_append_sl rfl _ _ rfl B _ out (by rfl) HO4.out _ (termsF n d) (by rfl) HE.out.sl (by omega) (Nat.le_trans hB hB4.size) ?_; intro v' wn ho hg hloc; obtain ⟨a1, n1, rfl, _⟩ := ho.form)
        have hlen : (out ++ termsF n d).length = out.length + (termsF n d).length := by simp
        rw [hlen] at ho
        have HO5 := Lib.hid ho
        have HLEN := Lib.hid hlen
        clear hlen
        have u5 : Upv w wn p (.slice va out.length vc) := upv_row (upv_bl (upv_refl _ _ _) hB4) hg (fun k hk => .inl hk)
        have hsz := hg.size
        clear ho hg hloc
        go_wp2_with fail
        refine (shortI_any _ (out ++ termsF n d) _ HO5.out.sl (by rw [HLEN.out]; omega) (short_bd (app_bd HBO.out HOK.out))).mono ?_
        rintro e w6 ⟨a6, c6, rfl, HS, hb6⟩
        have HS := Lib.hid HS
        go_wp2_with fail
        refine (ivalT_eqE HT.out _ HS.out.sl (by have := shortL_len (out ++ termsF n d); rw [HLEN.out] at this; omega)).mono ?_
        rintro e w7 ⟨rfl, hb7⟩
        go_wp2
        go_ret2
        exact endi_yes HR.out ((HS.out.below hb7).mono (Nat.le_trans hB4.size hsz)) (upv_bl (upv_bl u5 hb6) hb7)
      | false =>
        have HR := Lib.hid (end_no hc HF.out ht)
        have HT := Lib.hid ht
        clear ht hc
        go_enter Try.func118, Try.ntmps118
        go_wp2_with fail
        refine (plain_any _ _ _ (by omega) (by omega) HC.out (by omega) (by omega)).mono ?_
        rintro e w2 ⟨rfl, hb2⟩
        rw [HF.out]
        simp only []
        have hb2' : Bl w w2 := bl_call (bl_alloc (bl_refl _) _) hb2
        have x2 := hx.below hb2'
        have HO2 := Lib.hid (HO.out.below hb2')
        clear c0 f0
        obtain ⟨c2, f2, z2⟩ := x2.out
        go_wp2_with fail
        have hA : Bl w2 (w2.alloc (.cells #[.int .i64 n, .int .i64 d] 44)) := bl_alloc (bl_refl _) _
        have HO3 := Lib.hid (HO2.out.below hA)
        have hB3 : Bl w (w2.alloc (.cells #[.int .i64 n, .int .i64 d] 44)) := bl_call hb2' hA
        clear c2 f2 z2
        generalize w2.alloc (.cells #[.int .i64 n, .int .i64 d] 44) = w3 at *
        refine (expand_any n d _ (by omega) (by omega) (by omega)).mono ?_
        rintro e w4 ⟨ea, ec, rfl, hE, hb4⟩
        have HE := Lib.hid hE
        have HO4 := Lib.hid (HO3.out.below hb4)
        have hB4 := bl_call hB3 hb4
        clear hE
        go_wp2_with (at_builtin; refine wpList_append_sl rfl _ _ rfl B _ out (by rfl) HO4.out _ (termsF n d) (by rfl) HE.out.sl (by omega) (Nat.le_trans hB hB4.size) ?_; intro v' wn ho hg hloc; obtain ⟨a1, n1, rfl, _⟩ := ho.form)
        have hlen : (out ++ termsF n d).length = out.length + (termsF n d).length := by simp
        rw [hlen] at ho
        have HO5 := Lib.hid ho
        have HLEN := Lib.hid hlen
        clear hlen
        have u5 : Upv w wn p (.slice va out.length vc) := upv_row (upv_bl (upv_refl _ _ _) hB4) hg (fun k hk => .inl hk)
        have hsz := hg.size
        clear ho hg hloc
        go_wp2_with fail
        refine (shortI_any _ (out ++ termsF n d) _ HO5.out.sl (by rw [HLEN.out]; omega) (short_bd (app_bd HBO.out HOK.out))).mono ?_
        rintro e w6 ⟨a6, c6, rfl, HS, hb6⟩
        have HS := Lib.hid HS
        go_wp2_with fail
        refine (ivalT_eqE HT.out _ HS.out.sl (by have := shortL_len (out ++ termsF n d); rw [HLEN.out] at this; omega)).mono ?_
        rintro e w7 ⟨rfl, hb7⟩
        go_wp2
        go_ret2
        exact endi_no HR.out (upv_bl (upv_bl u5 hb6) hb7)
    · have HR := Lib.hid (end_code (out := out) hc hz)
      have cz : ((fullF s.a s.c).2.2 != 0) = true := by simp [hz]
      obtain ⟨n, d, k, hF⟩ : ∃ n d k, fullF s.a s.c = (n, d, k) := ⟨_, _, _, rfl⟩
      rw [hF] at cz HR
      have HF := Lib.hid hF
      clear hF hz hc
      simp only [] at cz HR
      go_enter Try.func118, Try.ntmps118
      go_wp2_with fail
      refine (plain_any _ _ _ (by omega) (by omega) HC.out (by omega) (by omega)).mono ?_
      rintro e w2 ⟨rfl, hb2⟩
      rw [HF.out]
      simp only []
      have u2 : Upv w w2 p (.slice va out.length vc) := upv_bl (upv_refl _ _ _) (bl_call (bl_alloc (bl_refl _) _) hb2)
      clear c0 f0
      go_wp2
      go_ret2
      exact endi_no HR.out (upv_bl u2 (bl_alloc (bl_refl _) _))

end Go.Proofs.Ytgkelemfbmmgnaa

