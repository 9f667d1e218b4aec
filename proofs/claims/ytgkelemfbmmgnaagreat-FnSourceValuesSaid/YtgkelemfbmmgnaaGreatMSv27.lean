/- Some of the texts of this claim, joined in one file: EndI, EndS. -/
import Derived.Test.YtgkelemfbmmgnaaGreatMSv26
import Derived.Test.YtgkelemfbmmgnaaGreatMSv17
import Derived.Test.YtgkelemfbmmgnaaGreatMSv5
import Derived.Deep.AppendLies
import Derived.Deep.RegionLaw
import Derived.Test.YtgkelemfbmmgnaaGreatMSv7
/- The end of a stream: the program. Each theorem names its conditions. -/
namespace Go.Proofs.YtgkelemfbmmgnaaGreat
open Go.RowKit
set_option linter.unusedVariables false
set_option linter.unusedSimpArgs false

theorem okF_bdE {n d : Int} (h : okF n d = true) : 1 ≤ d ∧ d ≤ 1000000000 ∧ -1000000000 ≤ n ∧ n ≤ 1000000000 := by
  have := okF_iff.1 h
  exact ⟨this.1.1, this.1.2, this.2.1.1, this.2.1.2⟩
theorem full_code {a c : Int} (h : (fullF a c).2.2 = 0) : okF (fullF a c).1 (fullF a c).2.1 = true := by
  obtain ⟨n, d, e⟩ : ∃ n d, (if c < 0 then lowF (-a) (-c) else lowF a c) = (n, d) := ⟨_, _, rfl⟩
  rw [fullF_eq a c n d e] at h ⊢
  cases k : okF n d with
  | true => rw [if_pos rfl]; exact k
  | false => rw [k] at h; simp at h
theorem end_inf {s : St} {out : List Int} (h : s.c = 0) (h2 : s.a = 0 ∨ out.length = 0) : endF s out = ([], 6) := by rw [endF, if_pos h, if_pos h2]
theorem end_inf_ok {s : St} {out : List Int} (h : s.c = 0) (h2 : ¬ (s.a = 0 ∨ out.length = 0)) (h3 : termsP (shortL out) = true) : endF s out = (shortL out, 0) := by rw [endF, if_pos h, if_neg h2, if_pos h3]
theorem end_inf_no {s : St} {out : List Int} (h : s.c = 0) (h2 : ¬ (s.a = 0 ∨ out.length = 0)) (h3 : termsP (shortL out) = false) : endF s out = ([], 5) := by rw [endF, if_pos h, if_neg h2, if_neg (by rw [h3]; simp)]
theorem end_code {s : St} {out : List Int} (h : s.c ≠ 0) (h2 : (fullF s.a s.c).2.2 ≠ 0) : endF s out = ([], (fullF s.a s.c).2.2) := by rw [endF, if_neg h, if_neg h2]
theorem end_ok {s : St} {out : List Int} {n d : Int} (h : s.c ≠ 0) (h2 : fullF s.a s.c = (n, d, 0)) (h3 : termsP (shortL (out ++ termsF n d)) = true) : endF s out = (shortL (out ++ termsF n d), 0) := by
  rw [endF, if_neg h, h2, if_pos rfl]; simp only []; rw [if_pos h3]
theorem end_no {s : St} {out : List Int} {n d : Int} (h : s.c ≠ 0) (h2 : fullF s.a s.c = (n, d, 0)) (h3 : termsP (shortL (out ++ termsF n d)) = false) : endF s out = ([], 5) := by
  rw [endF, if_neg h, h2, if_pos rfl]; simp only []; rw [if_neg (by rw [h3]; simp)]
/-- What the end of a stream tells and leaves. -/
def EndI (w : World) (p : Nat) (ov : Value) (s : St) (out : List Int) (e : Ending) (w' : World) : Prop :=
  ∃ a k c, e = .returned (.tuple #[.slice a k c, .int .i64 (endF s out).2]) ∧ Own w' w.heap.size (.slice a k c) (endF s out).1 ∧ Upv w w' p ov
theorem endi_no {w w' : World} {p : Nat} {ov : Value} {s : St} {out : List Int} {c : Int} (h : endF s out = ([], c)) (hu : Upv w w' p ov) : EndI w p ov s out (.returned (.tuple #[.slice none 0 0, .int .i64 c])) w' := by
  unfold EndI; rw [h]; exact ⟨none, 0, 0, rfl, Own.nil _ _, hu⟩
theorem endi_yes {w w' : World} {p k n : Nat} {ov : Value} {s : St} {out l : List Int} {a : Option Addr} (h : endF s out = (l, 0)) (ho : Own w' w.heap.size (.slice a k n) l) (hu : Upv w w' p ov) : EndI w p ov s out (.returned (.tuple #[.slice a k n, .int .i64 0])) w' := by
  unfold EndI; rw [h]; exact ⟨a, k, n, rfl, ho, hu⟩
theorem short_bd {xs : List Int} (h : ∀ x ∈ xs, -1000000000 ≤ x ∧ x ≤ 1000000000) : ∀ x ∈ xs, x ≤ 2000000000 := fun x hx => by have := h x hx; omega
theorem app_bd {out : List Int} {n d : Int} (hb : ∀ x ∈ out, -1000000000 ≤ x ∧ x ≤ 1000000000) (h : okF n d = true) : ∀ x ∈ out ++ termsF n d, -1000000000 ≤ x ∧ x ≤ 1000000000 := fun x hx => by
  have := okF_bdE h
  rcases List.mem_append.1 hx with hx | hx
  · exact hb x hx
  · exact termsF_R64 (by omega) (by omega) (by omega) x hx
theorem ivalT_eqE {va : Value} {xs : List Int} {b : Bool} (h : termsP xs = b) (w : World) (ha : Sl w va xs) (hl : xs.length ≤ 1048576) : Calls Tryz.prog 85 #[va] w fun e w' => e = .returned (.bool b) ∧ Bl w w' := h ▸ ivalT_any va xs w ha hl
theorem svalT_eqE {va : Value} {xs : List Int} {b : Bool} (h : termsP xs = b) (w : World) (ha : Sl w va xs) (hl : xs.length ≤ 1048576) : Calls Tryz.prog 88 #[va] w fun e w' => e = .returned (.bool b) ∧ Bl w w' := h ▸ svalT_any va xs w ha hl

set_option maxRecDepth 100000 in
set_option maxHeartbeats 6400000 in
theorem iend_any {w : World} {p B : Nat} {s : St} {lo : Bool} {ov : Value} {out : List Int} (hx : Bx w p #[.int .i64 s.a, .int .i64 s.b, .int .i64 s.c, .int .i64 s.d, .bool lo, ov]) (ho : Own w B ov out) (hB : B ≤ w.heap.size) (hp : ov.ownBlock ≠ some p) (hb : bdS s = true) (hl : out.length ≤ 60) (hbo : ∀ x ∈ out, -1000000000 ≤ x ∧ x ≤ 1000000000) :
    Calls Tryz.prog 51 #[.pointer (some ⟨p, 0, none⟩)] w (EndI w p ov s out) := by
  have hpw := hx.out.2.2
  have HO := Lib.hid ho
  have HP := Lib.hid hp
  have hbb := bdS_iff.1 hb
  have HBO := Lib.hid hbo
  obtain ⟨va, vc, rfl, _⟩ := ho.form
  clear ho hp hb hbo
  obtain ⟨c0, f0, _⟩ := hx.out
  by_cases hc : s.c = 0
  · have cc : (s.c == 0) = true := by simp [hc]
    have cn : (s.c != 0) = false := by simp [hc]
    by_cases hz : s.a = 0 ∨ out.length = 0
    · have HR := Lib.hid (end_inf hc hz)
      clear hc
      by_cases h1 : s.a = 0
      · have ca : (s.a == 0) = true := by simp [h1]
        clear h1 hz
        go_enter Tryz.func51, Tryz.ntmps51
        go_wp2
        go_ret2
        exact endi_no HR.out (upv_bl (upv_refl _ _ _) (bl_alloc (bl_refl _) _))
      · have ca : (s.a == 0) = false := by simp [h1]
        have cl : ((out.length : Int) == 0) = true := by simp; exact List.eq_nil_of_length_eq_zero (hz.resolve_left h1)
        clear h1 hz
        go_enter Tryz.func51, Tryz.ntmps51
        go_wp2
        go_ret2
        exact endi_no HR.out (upv_bl (upv_refl _ _ _) (bl_alloc (bl_refl _) _))
    · have ca : (s.a == 0) = false := by rw [beq_eq_false_iff_ne]; omega
      have cl : ((out.length : Int) == 0) = false := by rw [beq_eq_false_iff_ne]; omega
      cases ht : termsP (shortL out) with
      | true =>
        have HR := Lib.hid (end_inf_ok hc hz ht)
        have HT := Lib.hid ht
        clear ht hc hz
        go_enter Tryz.func51, Tryz.ntmps51
        go_wp2_with fail
        refine (shortI_any _ out _ (HO.out.alloc _).sl (by omega) (short_bd HBO.out)).mono ?_
        rintro e w2 ⟨a2, c2, rfl, HS, hb2⟩
        have HS := Lib.hid HS
        have u2 : Upv w w2 p (.slice va out.length vc) := upv_bl (upv_refl _ _ _) (bl_call (bl_alloc (bl_refl _) _) hb2)
        clear c0 f0
        go_wp2_with fail
        refine (ivalT_eqE HT.out _ HS.out.sl (by have := shortL_len out; omega)).mono ?_
        rintro e w3 ⟨rfl, hb3⟩
        go_wp2
        go_ret2
        exact endi_yes HR.out ((HS.out.below hb3).mono (by simp)) (upv_bl u2 hb3)
      | false =>
        have HR := Lib.hid (end_inf_no hc hz ht)
        have HT := Lib.hid ht
        clear ht hc hz
        go_enter Tryz.func51, Tryz.ntmps51
        go_wp2_with fail
        refine (shortI_any _ out _ (HO.out.alloc _).sl (by omega) (short_bd HBO.out)).mono ?_
        rintro e w2 ⟨a2, c2, rfl, HS, hb2⟩
        have HS := Lib.hid HS
        have u2 : Upv w w2 p (.slice va out.length vc) := upv_bl (upv_refl _ _ _) (bl_call (bl_alloc (bl_refl _) _) hb2)
        clear c0 f0
        go_wp2_with fail
        refine (ivalT_eqE HT.out _ HS.out.sl (by have := shortL_len out; omega)).mono ?_
        rintro e w3 ⟨rfl, hb3⟩
        go_wp2
        go_ret2
        exact endi_no HR.out (upv_bl u2 hb3)
  · have cc : (s.c == 0) = false := by simp [hc]
    have cn : (s.c != 0) = true := by simp [hc]
    have HC := Lib.hid hc
    by_cases hz : (fullF s.a s.c).2.2 = 0
    · have hok := full_code hz
      obtain ⟨n, d, k, hF⟩ : ∃ n d k, fullF s.a s.c = (n, d, k) := ⟨_, _, _, rfl⟩
      rw [hF] at hok hz
      simp only [] at hok hz
      subst hz
      have hbk := okF_bdE hok
      have HOK := Lib.hid hok
      have HF := Lib.hid hF
      have h60 := termsF_60 (n := n) (d := d) (by omega) (by omega)
      clear hF hok
      cases ht : termsP (shortL (out ++ termsF n d)) with
      | true =>
        have HR := Lib.hid (end_ok hc HF.out ht)
        have HT := Lib.hid ht
        clear ht hc
        go_enter Tryz.func51, Tryz.ntmps51
        go_wp2_with fail
        refine (plain_any _ _ _ (by omega) (by omega) HC.out (by omega) (by omega)).mono ?_
        rintro e w2 ⟨rfl, hb2⟩
        rw [HF.out]
        simp only []
        have hb2' : Bl w w2 := bl_call (bl_alloc (bl_refl _) _) hb2
        have x2 := hx.below hb2'
        have HO2 := Lib.hid (HO.out.below hb2')
        clear c0 f0
        obtain ⟨c2, f2, z2⟩ := x2.out
        go_wp2_with fail
        have hA : Bl w2 (w2.alloc (.cells #[.int .i64 n, .int .i64 d] 25)) := bl_alloc (bl_refl _) _
        have HO3 := Lib.hid (HO2.out.below hA)
        have hB3 : Bl w (w2.alloc (.cells #[.int .i64 n, .int .i64 d] 25)) := bl_call hb2' hA
        clear c2 f2 z2
        generalize w2.alloc (.cells #[.int .i64 n, .int .i64 d] 25) = w3 at *
        refine (expand_any n d _ (by omega) (by omega) (by omega)).mono ?_
        rintro e w4 ⟨ea, ec, rfl, hE, hb4⟩
        have HE := Lib.hid hE
        have HO4 := Lib.hid (HO3.out.below hb4)
        have hB4 := bl_call hB3 hb4
        clear hE
        go_wp2_with (at_builtin; refine wpList_append_sl rfl _ _ rfl B _ out (by rfl) HO4.out _ (termsF n d) (by rfl) HE.out.sl (by omega) (Nat.le_trans hB hB4.size) ?_; intro v' wn ho hg hloc; obtain ⟨a1, n1, rfl, _⟩ := ho.form)
        have hlen : (out ++ termsF n d).length = out.length + (termsF n d).length := by simp
        rw [hlen] at ho
        have HO5 := Lib.hid ho
        have HLEN := Lib.hid hlen
        clear hlen
        have u5 : Upv w wn p (.slice va out.length vc) := upv_row (upv_bl (upv_refl _ _ _) hB4) hg (fun k hk => .inl hk)
        have hsz := hg.size
        clear ho hg hloc
        go_wp2_with fail
        refine (shortI_any _ (out ++ termsF n d) _ HO5.out.sl (by rw [HLEN.out]; omega) (short_bd (app_bd HBO.out HOK.out))).mono ?_
        rintro e w6 ⟨a6, c6, rfl, HS, hb6⟩
        have HS := Lib.hid HS
        go_wp2_with fail
        refine (ivalT_eqE HT.out _ HS.out.sl (by have := shortL_len (out ++ termsF n d); rw [HLEN.out] at this; omega)).mono ?_
        rintro e w7 ⟨rfl, hb7⟩
        go_wp2
        go_ret2
        exact endi_yes HR.out ((HS.out.below hb7).mono (Nat.le_trans hB4.size hsz)) (upv_bl (upv_bl u5 hb6) hb7)
      | false =>
        have HR := Lib.hid (end_no hc HF.out ht)
        have HT := Lib.hid ht
        clear ht hc
        go_enter Tryz.func51, Tryz.ntmps51
        go_wp2_with fail
        refine (plain_any _ _ _ (by omega) (by omega) HC.out (by omega) (by omega)).mono ?_
        rintro e w2 ⟨rfl, hb2⟩
        rw [HF.out]
        simp only []
        have hb2' : Bl w w2 := bl_call (bl_alloc (bl_refl _) _) hb2
        have x2 := hx.below hb2'
        have HO2 := Lib.hid (HO.out.below hb2')
        clear c0 f0
        obtain ⟨c2, f2, z2⟩ := x2.out
        go_wp2_with fail
        have hA : Bl w2 (w2.alloc (.cells #[.int .i64 n, .int .i64 d] 25)) := bl_alloc (bl_refl _) _
        have HO3 := Lib.hid (HO2.out.below hA)
        have hB3 : Bl w (w2.alloc (.cells #[.int .i64 n, .int .i64 d] 25)) := bl_call hb2' hA
        clear c2 f2 z2
        generalize w2.alloc (.cells #[.int .i64 n, .int .i64 d] 25) = w3 at *
        refine (expand_any n d _ (by omega) (by omega) (by omega)).mono ?_
        rintro e w4 ⟨ea, ec, rfl, hE, hb4⟩
        have HE := Lib.hid hE
        have HO4 := Lib.hid (HO3.out.below hb4)
        have hB4 := bl_call hB3 hb4
        clear hE
        go_wp2_with (at_builtin; refine wpList_append_sl rfl _ _ rfl B _ out (by rfl) HO4.out _ (termsF n d) (by rfl) HE.out.sl (by omega) (Nat.le_trans hB hB4.size) ?_; intro v' wn ho hg hloc; obtain ⟨a1, n1, rfl, _⟩ := ho.form)
        have hlen : (out ++ termsF n d).length = out.length + (termsF n d).length := by simp
        rw [hlen] at ho
        have HO5 := Lib.hid ho
        have HLEN := Lib.hid hlen
        clear hlen
        have u5 : Upv w wn p (.slice va out.length vc) := upv_row (upv_bl (upv_refl _ _ _) hB4) hg (fun k hk => .inl hk)
        have hsz := hg.size
        clear ho hg hloc
        go_wp2_with fail
        refine (shortI_any _ (out ++ termsF n d) _ HO5.out.sl (by rw [HLEN.out]; omega) (short_bd (app_bd HBO.out HOK.out))).mono ?_
        rintro e w6 ⟨a6, c6, rfl, HS, hb6⟩
        have HS := Lib.hid HS
        go_wp2_with fail
        refine (ivalT_eqE HT.out _ HS.out.sl (by have := shortL_len (out ++ termsF n d); rw [HLEN.out] at this; omega)).mono ?_
        rintro e w7 ⟨rfl, hb7⟩
        go_wp2
        go_ret2
        exact endi_no HR.out (upv_bl (upv_bl u5 hb6) hb7)
    · have HR := Lib.hid (end_code (out := out) hc hz)
      have cz : ((fullF s.a s.c).2.2 != 0) = true := by simp [hz]
      obtain ⟨n, d, k, hF⟩ : ∃ n d k, fullF s.a s.c = (n, d, k) := ⟨_, _, _, rfl⟩
      rw [hF] at cz HR
      have HF := Lib.hid hF
      clear hF hz hc
      simp only [] at cz HR
      go_enter Tryz.func51, Tryz.ntmps51
      go_wp2_with fail
      refine (plain_any _ _ _ (by omega) (by omega) HC.out (by omega) (by omega)).mono ?_
      rintro e w2 ⟨rfl, hb2⟩
      rw [HF.out]
      simp only []
      have u2 : Upv w w2 p (.slice va out.length vc) := upv_bl (upv_refl _ _ _) (bl_call (bl_alloc (bl_refl _) _) hb2)
      clear c0 f0
      go_wp2
      go_ret2
      exact endi_no HR.out (upv_bl u2 (bl_alloc (bl_refl _) _))

end Go.Proofs.YtgkelemfbmmgnaaGreat

/- The end of a stream: the reference. Each theorem names its conditions. -/
namespace Go.Proofs.YtgkelemfbmmgnaaGreat
open Go.RowKit
set_option linter.unusedVariables false
set_option linter.unusedSimpArgs false

theorem termsF_posE {n d : Int} (h : 1 ≤ d) : 0 < (termsF n d).length := by
  rw [termsF, termsN, if_neg (by omega)]
  simp

/-- append(s, x...) at a step of a region that draws: x is not empty. -/
theorem step_append_sl {w : World} {ops : Array Oper} {o : Oper} {a : Act} {K : Act → World → Prop} {Q : Exit → Act → World → Prop} {E : Prop} (hgd : o.guard = none) (s x : Operand)
    (ho : o.op = .call { callee := .builtin .append, args := #[s, x], argTypes := #[27, 27] })
    (B : Nat) (v : Value) (xs : List Int) (hs : a.eval s = v) (hown : Own w B v xs) (va : Value) (ys : List Int) (hx : a.eval x = va) (hsl : Sl w va ys) (hne : 0 < ys.length)
    (hl : xs.length + ys.length ≤ 1000000000) (hB : B ≤ w.heap.size)
    (h : ∀ v' w', Own w' B v' (xs ++ ys) → w.grownBy w' v.ownBlock → K (a.put o.dst v') w') :
    if Region.wanted o (yielded ops a.tmps) = true then Oper.wp Tryz.prog o a w K Q else E := by
  obtain ⟨i0, hi, hz0, hz1, hz2⟩ := info_parts info_i64
  obtain ⟨av, cap, rfl, h1, h2, h3, h4, h5⟩ := hsl
  rcases h5 with hy | ⟨b, off, rfl, hc⟩
  · rw [hy] at hne; simp at hne
  · refine step_append_lies w hgd s x 27 ho B 2 i0 (.int .i64 0) 1 8 Tryz.underlying27 hi hz0 hz1 hz2 rfl (by decide) v xs.length (xs.map (Value.int .i64)) hs hown.1 ⟨b, off, none⟩ ys.length cap (ys.map (Value.int .i64)) hx (by simp) (fun j u hu => ?_) ?_ hne (by unfold maxLen; omega) (by omega) hB _ rfl ?_
    · rw [List.getElem?_map] at hu
      obtain ⟨y, hy, rfl⟩ := Option.map_eq_some_iff.1 hu
      rw [add_lit]
      exact hc j y hy
    · intro u hu
      obtain ⟨y, _, rfl⟩ := List.mem_map.1 hu
      rfl
    · intro g c w' a1 a2 a3 a4
      exact h _ w' (own_of_row hown.2 h3 a1) a2
theorem short13_any (va : Value) (xs : List Int) (w : World) (ha : Sl w va xs) (hl : xs.length ≤ 1000000) (hb : ∀ x ∈ xs, x ≤ 2000000000) :
    Calls Tryz.prog 86 #[va] w fun e w' => ∃ a c, e = .returned (.slice a (shortL xs).length c) ∧ Own w' w.heap.size (.slice a (shortL xs).length c) (shortL xs) ∧ Bl w w' := by
  obtain ⟨a, c, rfl, hc⟩ := ha.form
  by_cases h0 : xs.length = 0
  · have cl : ((xs.length : Int) == 0) = true := by simp; exact List.eq_nil_of_length_eq_zero h0
    obtain rfl := List.eq_nil_of_length_eq_zero h0
    clear cl h0
    go_enter Tryz.func86, Tryz.ntmps86
    go_wp2
    go_ret
    exact ⟨_, _, rfl, own_made w (Nat.le_refl _), bl_alloc (bl_refl _) _⟩
  · have cl : ((xs.length : Int) == 0) = false := by rw [beq_eq_false_iff_ne]; omega
    clear h0
    go_enter Tryz.func86, Tryz.ntmps86
    go_wp2_with fail
    refine (shortS_any _ xs _ ha hl hb).mono ?_
    rintro e w2 ⟨a2, c2, rfl, HS, hb2⟩
    go_wp2
    go_ret
    exact ⟨a2, c2, rfl, HS, hb2⟩
/-- What the end of the reference's stream leaves. -/
def EndS (w : World) (p : Nat) (ov : Value) (s : St) (out : List Int) (e : Ending) (w' : World) : Prop :=
  e = .returned (.tuple #[]) ∧ Upv w w' p ov ∧ ∃ v1 : Value, Bx w' p #[.int .i64 s.a, .int .i64 s.b, .int .i64 s.c, .int .i64 s.d, v1, .int .i64 (endF s out).2] ∧ ((endF s out).2 = 0 → ∃ a k c, v1 = .slice a k c ∧ Own w' w.heap.size v1 (endF s out).1)
theorem ends_no {w w' : World} {p : Nat} {ov v1 : Value} {s : St} {out l : List Int} {c : Int} (h : endF s out = (l, c)) (hc : c ≠ 0) (hu : Upv w w' p ov) (hx : Bx w' p #[.int .i64 s.a, .int .i64 s.b, .int .i64 s.c, .int .i64 s.d, v1, .int .i64 c]) : EndS w p ov s out (.returned (.tuple #[])) w' := by
  unfold EndS; rw [h]; exact ⟨rfl, hu, v1, hx, fun q => absurd q hc⟩
theorem ends_yes {w w' : World} {p k n : Nat} {ov : Value} {s : St} {out l : List Int} {a : Option Addr} (h : endF s out = (l, 0)) (hu : Upv w w' p ov) (hx : Bx w' p #[.int .i64 s.a, .int .i64 s.b, .int .i64 s.c, .int .i64 s.d, .slice a k n, .int .i64 0]) (ho : Own w' w.heap.size (.slice a k n) l) : EndS w p ov s out (.returned (.tuple #[])) w' := by
  unfold EndS; rw [h]; exact ⟨rfl, hu, _, hx, fun _ => ⟨a, k, n, rfl, ho⟩⟩

set_option maxRecDepth 100000 in
set_option maxHeartbeats 6400000 in
theorem send_any {w : World} {p B : Nat} {s : St} {ov : Value} {out : List Int} (hx : Bx w p #[.int .i64 s.a, .int .i64 s.b, .int .i64 s.c, .int .i64 s.d, ov, .int .i64 0]) (ho : Own w B ov out) (hB : B ≤ w.heap.size) (hp : ov.ownBlock ≠ some p) (hb : bdS s = true) (hl : out.length ≤ 60) (hbo : ∀ x ∈ out, -1000000000 ≤ x ∧ x ≤ 1000000000) (hJ : s.c = 0 → out ≠ [] → termsP (shortL out) = true) :
    Calls Tryz.prog 54 #[.pointer (some ⟨p, 0, none⟩)] w (EndS w p ov s out) := by
  have hpw := hx.out.2.2
  have HO := Lib.hid ho
  have HP := Lib.hid hp
  have hbb := bdS_iff.1 hb
  have HBO := Lib.hid hbo
  have HJ := Lib.hid hJ
  obtain ⟨va, vc, rfl, _⟩ := ho.form
  clear ho hp hb hbo hJ
  obtain ⟨c0, f0, _⟩ := hx.out
  by_cases hc : s.c = 0
  · have cc : (s.c == 0) = true := by simp [hc]
    by_cases hz : s.a = 0 ∨ out.length = 0
    · have HR := Lib.hid (end_inf hc hz)
      clear hc
      by_cases h1 : out.length = 0
      · have cl : ((out.length : Int) == 0) = true := by simp; exact List.eq_nil_of_length_eq_zero h1
        clear h1 hz
        go_enter Tryz.func54, Tryz.ntmps54
        go_wp2_with fail
        clear c0 f0
        refine (short13_any _ out _ (HO.out.upd (upd_set (upd_refl _ p) 5 (.int .i64 6)) HP.out).sl (by omega) (short_bd HBO.out)).mono ?_
        rintro e w2 ⟨a2, k2, rfl, HS, hb2⟩
        have HS := Lib.hid HS
        have x2 := (hx.set 5 (.int .i64 6)).below hb2
        obtain ⟨c2, f2, z2⟩ := x2.out
        go_wp2
        go_end0
        exact ends_no HR.out (by decide) (upv_upd (upv_bl (upv_upd (upv_refl _ _ _) (upd_set (upd_refl _ _) _ _)) hb2) (upd_set (upd_refl _ _) _ _)) (x2.set 4 (.slice a2 (shortL out).length k2))
      · have cl : ((out.length : Int) == 0) = false := by rw [beq_eq_false_iff_ne]; omega
        have ca : (s.a == 0) = true := by simp [hz.resolve_right h1]
        clear h1 hz
        go_enter Tryz.func54, Tryz.ntmps54
        go_wp2_with fail
        clear c0 f0
        refine (short13_any _ out _ (HO.out.upd (upd_set (upd_refl _ p) 5 (.int .i64 6)) HP.out).sl (by omega) (short_bd HBO.out)).mono ?_
        rintro e w2 ⟨a2, k2, rfl, HS, hb2⟩
        have HS := Lib.hid HS
        have x2 := (hx.set 5 (.int .i64 6)).below hb2
        obtain ⟨c2, f2, z2⟩ := x2.out
        go_wp2
        go_end0
        exact ends_no HR.out (by decide) (upv_upd (upv_bl (upv_upd (upv_refl _ _ _) (upd_set (upd_refl _ _) _ _)) hb2) (upd_set (upd_refl _ _) _ _)) (x2.set 4 (.slice a2 (shortL out).length k2))
    · have ca : (s.a == 0) = false := by rw [beq_eq_false_iff_ne]; omega
      have cl : ((out.length : Int) == 0) = false := by rw [beq_eq_false_iff_ne]; omega
      have HR := Lib.hid (end_inf_ok hc hz (HJ.out hc (fun e => hz (.inr (by rw [e]; rfl)))))
      clear hc hz
      go_enter Tryz.func54, Tryz.ntmps54
      go_wp2_with fail
      clear c0 f0
      refine (short13_any _ out _ HO.out.sl (by omega) (short_bd HBO.out)).mono ?_
      rintro e w2 ⟨a2, k2, rfl, HS, hb2⟩
      have HS := Lib.hid HS
      have x2 := hx.below hb2
      obtain ⟨c2, f2, z2⟩ := x2.out
      go_wp2
      go_end0
      exact ends_yes HR.out (upv_upd (upv_bl (upv_refl _ _ _) hb2) (upd_set (upd_refl _ _) _ _)) (x2.set 4 (.slice a2 (shortL out).length k2)) (HS.out.upd (upd_set (upd_refl _ _) _ _) (fun q => by have := (HS.out.lt _ q).1; have := hb2.size; omega))
  · have cc : (s.c == 0) = false := by simp [hc]
    have HC := Lib.hid hc
    obtain ⟨n, d, k, hF⟩ : ∃ n d k, fullF s.a s.c = (n, d, k) := ⟨_, _, _, rfl⟩
    have HF := Lib.hid hF
    clear hF hc
    go_enter Tryz.func54, Tryz.ntmps54
    go_wp2_with fail
    go_cut [2, 3] (fun s2 s3 wx => ∃ b, s2 = .pointer (some ⟨b, 0, none⟩) ∧ s3 = .int .i64 k ∧ Bx wx b #[.int .i64 n, .int .i64 d] ∧ w.heap.size ≤ b ∧ Bl w wx)
    case first =>
      go_region_held3 (fun w' => w'.cell? ⟨p, 0, none⟩ = some (.int .i64 s.a) ∧ w'.cell? ⟨p, 2, none⟩ = some (.int .i64 s.c)) (first | (simp [*]; done) | (go_simp; done) | go_keep)
        (first | (go_at_call 87; go_must (refine (full_any _ _ _ (by omega) (by omega) HC.out (by omega) (by omega)).mono ?_; rintro e w8 ⟨rfl, hb8⟩; rw [HF.out]; simp only []; have xP : Bx w8 p #[.int .i64 s.a, .int .i64 s.b, .int .i64 s.c, .int .i64 s.d, .slice va out.length vc, .int .i64 0] := (by first | exact hx.drew.below hb8 | exact (hx.alloc _).drew.below hb8 | exact (hx.drew.alloc _).below hb8); have BB : Bl w w8 := (by first | exact bl_call (bl_drew (bl_refl _)) hb8 | exact bl_call (bl_drew (bl_alloc (bl_refl _) _)) hb8 | exact bl_call (bl_alloc (bl_drew (bl_refl _)) _) hb8); obtain ⟨cP, fP, zP⟩ := xP.out; try (have xN : Bx w8 w.heap.size #[.int .i64 0, .int .i64 0] := (by first | exact (Bx.new (b := w.heap.size) w #[.int .i64 0, .int .i64 0] 25 rfl).drew.below hb8 | exact (Bx.new (b := w.heap.size) w.drew #[.int .i64 0, .int .i64 0] 25 rfl).below hb8); obtain ⟨cN, fN, zN⟩ := xN.out))))
      all_goals (go_wp2_with fail; go_meet)
      all_goals (first | exact ⟨w8.heap.size, rfl, rfl, Bx.new w8 _ _ rfl, BB.size, bl_alloc BB _⟩ | exact ⟨w.heap.size, rfl, rfl, (xN.set 0 _).set 1 _, Nat.le_refl _, bl_set (bl_set BB (Nat.le_refl _) _) (Nat.le_refl _) _⟩)
    case rest =>
      obtain ⟨b, rfl, rfl, xb, hbw, Bc⟩ := hcut
      have Bc' : Bl w wc := Bc
      have x1 : Bx wc p #[.int .i64 s.a, .int .i64 s.b, .int .i64 s.c, .int .i64 s.d, .slice va out.length vc, .int .i64 0] := hx.below Bc'
      have HO1 := Lib.hid (HO.out.below Bc')
      have HBN : Hid (Value.ownBlock (.slice va out.length vc) ≠ some b) := Lib.hid (fun q => by have := (HO.out.lt _ q).2; omega)
      clear c0 f0
      obtain ⟨c1, f1, z1⟩ := x1.out
      obtain ⟨cb, fb, zb⟩ := xb.out
      by_cases hk : k = 0
      · subst hk
        have hok := full_code (a := s.a) (c := s.c) (by rw [HF.out])
        rw [HF.out] at hok
        simp only [] at hok
        have hbk := okF_bdE hok
        have HOK := Lib.hid hok
        have h60 := termsF_60 (n := n) (d := d) (by omega) (by omega)
        have htp := termsF_posE (n := n) (d := d) (by omega)
        clear hok
        have hBc := Bc'.size
        go_wp2_with fail
        go_cut [] (fun wx => ∃ a6 k6 w6, wx = w6.setCell ⟨p, 4, none⟩ (.slice a6 (shortL (out ++ termsF n d)).length k6) ∧ Bx w6 p #[.int .i64 s.a, .int .i64 s.b, .int .i64 s.c, .int .i64 s.d, .slice va out.length vc, .int .i64 0] ∧ Own w6 w.heap.size (.slice a6 (shortL (out ++ termsF n d)).length k6) (shortL (out ++ termsF n d)) ∧ Upv w w6 p (.slice va out.length vc))
        case first =>
          go_region_law ((first | (go_simp; go_at_call 31; go_must (refine (lterms_any n d _ (by omega) (by omega) (by omega)).mono ?_; rintro e w4 ⟨ea, ec, rfl, hE, hb4⟩; have x4 : Bx w4 p #[.int .i64 s.a, .int .i64 s.b, .int .i64 s.c, .int .i64 s.d, .slice va out.length vc, .int .i64 0] := x1.drew.below hb4; have xb4 := xb.drew.below hb4; have HO4 := Lib.hid ((HO1.out.below (bl_drew (bl_refl _))).below hb4); have HE := Lib.hid hE; have B4 : Bl w w4 := bl_call (bl_drew Bc') hb4; have hs4 := B4.size; clear hE; obtain ⟨c4, f4, z4⟩ := x4.out; obtain ⟨cb4, fb4, zb4⟩ := xb4.out); go_wp2_with fail) | (refine step_append_sl (by rfl) _ _ (by rfl) B _ out (by rfl) HO4.out _ (termsF n d) (by rfl) HE.out.sl htp (by omega) (Nat.le_trans hB B4.size) ?_; intro v' wn ho hg; obtain ⟨a1, n1, rfl, _⟩ := ho.form; have hlen : (out ++ termsF n d).length = out.length + (termsF n d).length := (by simp); rw [hlen] at ho; have HO5 := Lib.hid ho; have HLEN := Lib.hid hlen; have xN : Bx wn p #[.int .i64 s.a, .int .i64 s.b, .int .i64 s.c, .int .i64 s.d, .slice va out.length vc, .int .i64 0] := x4.grownApartF hg (fun q => HP.out q); have xbN := xb4.grownApartF hg (fun q => HBN.out q); have u5 : Upv w wn p (.slice va out.length vc) := upv_row (upv_bl (upv_refl _ _ _) B4) hg (fun k hk => .inl hk); have hsz := hg.size; clear ho hg hlen; obtain ⟨cN, fN, zN⟩ := xN.out; obtain ⟨cbN, fbN, zbN⟩ := xbN.out) | (go_simp; go_at_call 86; go_must (refine (short13_any _ (out ++ termsF n d) _ HO5.out.sl (by rw [HLEN.out]; omega) (short_bd (app_bd HBO.out HOK.out))).mono ?_; rintro e w6 ⟨a6, k6, rfl, HS, hb6⟩; have HS := Lib.hid HS; have x6 := xN.below hb6; have xb6 := xbN.below hb6; have u6 := upv_bl u5 hb6; obtain ⟨c6, f6, z6⟩ := x6.out; obtain ⟨cb6, fb6, zb6⟩ := xb6.out); go_wp2_with fail)))
          all_goals (go_wp2_with fail; go_meet)
          all_goals exact ⟨a6, k6, w6, rfl, x6, HS.out.mono (Nat.le_trans B4.size hsz), u6⟩
        case rest =>
          obtain ⟨a6, k6, w6, rfl, x6, ho6, u6⟩ := hcut
          clear c1 f1 z1 cb fb zb
          have xW : Bx (w6.setCell ⟨p, 4, none⟩ (.slice a6 (shortL (out ++ termsF n d)).length k6)) p #[.int .i64 s.a, .int .i64 s.b, .int .i64 s.c, .int .i64 s.d, .slice a6 (shortL (out ++ termsF n d)).length k6, .int .i64 0] := x6.set 4 (.slice a6 (shortL (out ++ termsF n d)).length k6)
          have uW := upv_upd u6 (upd_set (upd_refl w6 p) 4 (.slice a6 (shortL (out ++ termsF n d)).length k6))
          have HW := Lib.hid (ho6.upd (upd_set (upd_refl w6 p) 4 (.slice a6 (shortL (out ++ termsF n d)).length k6)) (fun q => by have := (ho6.lt _ q).1; omega))
          clear ho6 u6 x6
          generalize w6.setCell ⟨p, 4, none⟩ (.slice a6 (shortL (out ++ termsF n d)).length k6) = w7 at *
          obtain ⟨cW, fW, zW⟩ := xW.out
          cases ht : termsP (shortL (out ++ termsF n d)) with
          | true =>
            have HR := Lib.hid (end_ok HC.out HF.out ht)
            have HT := Lib.hid ht
            clear ht
            go_wp2_with fail
            refine (svalT_eqE HT.out _ HW.out.sl (by have := shortL_len (out ++ termsF n d); have e : (out ++ termsF n d).length = out.length + (termsF n d).length := (by simp); omega)).mono ?_
            rintro e w8 ⟨rfl, hb8⟩
            have x8 := xW.below hb8
            clear cW fW
            obtain ⟨c8, f8, z8⟩ := x8.out
            go_wp2
            go_end0
            exact ends_yes HR.out (upv_bl uW hb8) x8 (HW.out.below hb8)
          | false =>
            have HR := Lib.hid (end_no HC.out HF.out ht)
            have HT := Lib.hid ht
            clear ht
            go_wp2_with fail
            refine (svalT_eqE HT.out _ HW.out.sl (by have := shortL_len (out ++ termsF n d); have e : (out ++ termsF n d).length = out.length + (termsF n d).length := (by simp); omega)).mono ?_
            rintro e w8 ⟨rfl, hb8⟩
            have x8 := xW.below hb8
            clear cW fW
            obtain ⟨c8, f8, z8⟩ := x8.out
            go_wp2
            go_end0
            exact ends_no HR.out (by decide) (upv_upd (upv_bl uW hb8) (upd_set (upd_refl _ _) _ _)) (x8.set 5 (.int .i64 5))
      · have ck : (k != 0) = true := by simp [hk]
        have HR : Hid (endF s out = ([], k)) := Lib.hid (by have := end_code (out := out) HC.out (by rw [HF.out]; exact hk); rw [HF.out] at this; exact this)
        go_wp2
        go_end0
        exact ends_no HR.out hk (upv_upd (upv_bl (upv_refl _ _ _) Bc') (upd_set (upd_refl _ _) _ _)) (x1.set 5 (.int .i64 k))

end Go.Proofs.YtgkelemfbmmgnaaGreat

