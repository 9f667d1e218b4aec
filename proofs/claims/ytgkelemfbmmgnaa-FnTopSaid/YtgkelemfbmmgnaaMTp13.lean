/- Some of the texts of this claim, joined in one file: TermsW, RunM. -/
import Derived.Test.YtgkelemfbmmgnaaMTp12
import Derived.Test.YtgkelemfbmmgnaaMTp9
import Derived.Test.YtgkelemfbmmgnaaMTp5
import Derived.Test.YtgkelemfbmmgnaaMTp6
import Derived.Test.YtgkelemfbmmgnaaMTp10
/- The terms of a fraction: the program's and the reference's walk. Each theorem names its conditions. -/
namespace Go.Proofs.Ytgkelemfbmmgnaa
open Go.RowKit
set_option linter.unusedVariables false
set_option linter.unusedSimpArgs false

theorem app_cons {xs : List Int} {x : Int} {ys T : List Int} (h : xs ++ x :: ys = T) : (xs ++ [x]) ++ ys = T := by rw [← h]; simp

set_option maxRecDepth 100000 in
set_option maxHeartbeats 1600000 in
theorem expand_any (n d : Int) (w : World) (h0 : 0 ≤ d) (h2 : d ≤ 1000000000) (h3 : -1000000000 ≤ n ∧ n ≤ 1000000000) :
    Calls Try.prog 134 #[.int .i64 n, .int .i64 d] w fun e w' => ∃ a c, e = .returned (.slice a (termsF n d).length c) ∧ Own w' w.heap.size (.slice a (termsF n d).length c) (termsF n d) ∧ Bl w w' := by
  obtain ⟨T, hT⟩ : ∃ T, T = termsF n d := ⟨_, rfl⟩
  have hl := Lib.hid (show T.length ≤ 60 by rw [hT]; exact termsF_60 h0 h2)
  have hr := Lib.hid (show ∀ x ∈ T, -1000000000 ≤ x ∧ x ≤ 1000000000 by rw [hT]; exact termsF_R64 h0 h2 h3)
  rw [← hT]
  have HT := Lib.hid hT
  clear hT
  go_enter Try.func134, Try.ntmps134
  go_wp2
  go_loopw [0, 1, 5, 6] (fun s0 s1 s5 s6 wr => ∃ (n' d' : Int) (xs : List Int) (a : Option Addr) (c : Nat), s0 = .int .i64 n' ∧ s1 = .int .i64 d' ∧ s5 = .slice a xs.length c ∧ Own wr w.heap.size (.slice a xs.length c) xs ∧ Hid (xs ++ termsF n' d' = T) ∧ 0 ≤ d' ∧ d' ≤ 1000000000 ∧ -1000000000 ≤ n' ∧ n' ≤ 1000000000 ∧ Bl w wr) (fun _ s1 _ _ _ => (intOf s1).toNat)
  case atStart => exact ⟨n, d, [], none, 0, rfl, rfl, rfl, Own.nil _ _, Lib.hid (by rw [HT.out]; rfl), h0, h2, h3.1, h3.2, bl_refl _⟩
  case round =>
    obtain ⟨n', d', xs, a, c, rfl, rfl, rfl, ho, hx, k0, k1, k2, k3, Br⟩ := hrel
    have HO := Lib.hid ho
    clear ho
    rcases (show d' = 0 ∨ 0 < d' by omega) with e | hp
    · subst e
      have HX := Lib.hid (show xs = T by have := hx.out; rwa [termsF_zero, List.append_nil] at this)
      go_wp2
      go_ret
      have e := HX.out
      subst e
      exact ⟨a, c, rfl, HO.out, Br⟩
    · have hz : (d' != 0) = true := by simp; omega
      have hq := quo_le hp ⟨k2, k3⟩ (by omega)
      have HX := Lib.hid (show (xs ++ [n' / d']) ++ termsF d' (n' - n' / d' * d') = T by have := hx.out; rw [termsF_step hp] at this; exact app_cons this)
      have hrl := rest_lt (n := n') hp
      have hm : n' - 1000000000 ≤ n' / d' * d' ∧ n' / d' * d' ≤ n' := by omega
      have hlen : xs.length ≤ 60 := by have := hl.out; have h5 := congrArg List.length hx.out; rw [List.length_append] at h5; omega
      go_wp2_with (first | (go_at_call 125; refine (fdiv_any _ _ _ (by omega) (by omega) (by omega) (by omega)).mono ?_; rintro e w' ⟨rfl, rfl⟩) | (at_builtin; refine wpList_append_one rfl _ _ rfl w.heap.size _ xs (by rfl) HO.out _ (by unfold R64; omega) (by rfl) (by omega) Br.size ?_; intro v' w1 ho hg _; obtain ⟨a1, c1, rfl, _⟩ := ho.form))
      have B1 := bl_grown Br hg (fun k hk => (HO.out.lt k hk).1)
      clear hg
      have HO1 := Lib.hid ho
      clear ho
      go_wp2
      go_roundw
      case rel => exact ⟨d', _, xs ++ [n' / d'], a1, c1, rfl, rfl, by simp, HO1.out, HX, by omega, by omega, by omega, by omega, B1⟩
      case measure => simp [intOf]; omega

set_option maxRecDepth 100000 in
set_option maxHeartbeats 1600000 in
theorem lterms_any (n d : Int) (w : World) (h0 : 0 ≤ d) (h2 : d ≤ 1000000000) (h3 : -1000000000 ≤ n ∧ n ≤ 1000000000) :
    Calls Try.prog 55 #[.agg #[.int .i64 n, .int .i64 d]] w fun e w' => ∃ a c, e = .returned (.slice a (termsF n d).length c) ∧ Own w' w.heap.size (.slice a (termsF n d).length c) (termsF n d) ∧ Bl w w' := by
  obtain ⟨T, hT⟩ : ∃ T, T = termsF n d := ⟨_, rfl⟩
  have hl := Lib.hid (show T.length ≤ 60 by rw [hT]; exact termsF_60 h0 h2)
  have hr := Lib.hid (show ∀ x ∈ T, -1000000000 ≤ x ∧ x ≤ 1000000000 by rw [hT]; exact termsF_R64 h0 h2 h3)
  rw [← hT]
  have HT := Lib.hid hT
  clear hT
  go_enter Try.func55, Try.ntmps55
  go_wp2
  go_loopw [3, 4, 5, 6, 7] (fun s3 s4 s5 s6 s7 wr => ∃ (n' d' : Int) (xs : List Int) (a : Option Addr) (c : Nat), s4 = .int .i64 n' ∧ s5 = .int .i64 d' ∧ s3 = .slice a xs.length c ∧ Own wr w.heap.size (.slice a xs.length c) xs ∧ Hid (xs ++ termsF n' d' = T) ∧ 0 ≤ d' ∧ d' ≤ 1000000000 ∧ -1000000000 ≤ n' ∧ n' ≤ 1000000000 ∧ Bl w wr) (fun _ _ s5 _ _ _ => (intOf s5).toNat)
  case atStart => exact ⟨n, d, [], some ⟨w.heap.size + 1, 0, none⟩, 0, rfl, rfl, rfl, (by have h := own_made (B := w.heap.size) (w.alloc (.cells #[.int .i64 n, .int .i64 d] 44)) (by simp); rw [World.size_alloc] at h; exact h), Lib.hid (by rw [HT.out]; rfl), h0, h2, h3.1, h3.2, bl_alloc (bl_alloc (bl_refl _) _) _⟩
  case round =>
    obtain ⟨n', d', xs, a, c, rfl, rfl, rfl, ho, hx, k0, k1, k2, k3, Br⟩ := hrel
    have HO := Lib.hid ho
    clear ho
    rcases (show d' = 0 ∨ 0 < d' by omega) with e | hp
    · subst e
      have HX := Lib.hid (show xs = T by have := hx.out; rwa [termsF_zero, List.append_nil] at this)
      go_wp2
      go_ret
      have e := HX.out
      subst e
      exact ⟨a, c, rfl, HO.out, Br⟩
    · have hz : (d' != 0) = true := by simp; omega
      have hq := quo_le hp ⟨k2, k3⟩ (by omega)
      have HX := Lib.hid (show (xs ++ [n' / d']) ++ termsF d' (n' - n' / d' * d') = T by have := hx.out; rw [termsF_step hp] at this; exact app_cons this)
      have hrl := rest_lt (n := n') hp
      have hm : n' - 1000000000 ≤ n' / d' * d' ∧ n' / d' * d' ≤ n' := by omega
      have hlen : xs.length ≤ 60 := by have := hl.out; have h5 := congrArg List.length hx.out; rw [List.length_append] at h5; omega
      go_wp2_with (first | (go_at_call 89; refine (floor_any _ _ _ (by omega) (by omega) (by omega) (by omega)).mono ?_; rintro e w' ⟨rfl, rfl⟩) | (at_builtin; refine wpList_append_one rfl _ _ rfl w.heap.size _ xs (by rfl) HO.out _ (by unfold R64; omega) (by rfl) (by omega) Br.size ?_; intro v' w1 ho hg _; obtain ⟨a1, c1, rfl, _⟩ := ho.form))
      have B1 := bl_grown Br hg (fun k hk => (HO.out.lt k hk).1)
      clear hg
      have HO1 := Lib.hid ho
      clear ho
      go_wp2
      go_roundw
      case rel => exact ⟨d', _, xs ++ [n' / d'], a1, c1, rfl, rfl, by simp, HO1.out, HX, by omega, by omega, by omega, by omega, B1⟩
      case measure => simp [intOf]; omega

end Go.Proofs.Ytgkelemfbmmgnaa

/- RunState's plain law: what has been emitted are terms in short form, where nothing is left. No condition but what each theorem names. -/
namespace Go.Proofs.Ytgkelemfbmmgnaa
open Go.RowKit
set_option linter.unusedVariables false
set_option linter.unusedSimpArgs false

/-- At both ends the value is greater than 1, or infinite. -/
def Cone (s : St) : Prop := (0 ≤ s.c ∧ 0 ≤ s.c + s.d ∧ s.c < s.a ∧ s.c + s.d < s.a + s.b) ∨ (s.c ≤ 0 ∧ s.c + s.d ≤ 0 ∧ s.a < s.c ∧ s.a + s.b < s.c + s.d)
structure EmJ (s : St) (out : List Int) : Prop where
  len : out.length ≤ 60
  bd : ∀ (i : Nat) (x : Int), out[i]? = some x → lowT i ≤ x ∧ x ≤ 1000000000
  cone : out = [] ∨ Cone s
  last : 2 ≤ out.length → (∀ x, out[out.length - 1]? = some x → 2 ≤ x) ∨ (s.c ≠ 0 ∧ s.c + s.d ≠ 0)
theorem EmJ.nil (s : St) : EmJ s [] := ⟨by simp, by simp, .inl rfl, by simp⟩
theorem mul_step {x t : Int} (hx : 0 ≤ x) (ht : 1 ≤ t) : x ≤ x * t := by
  have := Int.mul_le_mul_of_nonneg_left ht hx
  omega
theorem cone_fed {s : St} {t : Int} (h : Cone s) (ht : 1 ≤ t) : Cone (fedF s t) := by
  unfold Cone fedF at *
  simp only
  rcases h with ⟨h1, h2, h3, h4⟩ | ⟨h1, h2, h3, h4⟩
  · left
    have a1 := mul_step h1 ht
    have a2 := mul_step (x := s.a - s.c) (by omega) ht
    have e : (s.a - s.c) * t = s.a * t - s.c * t := Int.sub_mul _ _ _
    refine ⟨by omega, by omega, by omega, by omega⟩
  · right
    have a1 := mul_step (x := -s.c) (by omega) ht
    have a2 := mul_step (x := s.c - s.a) (by omega) ht
    have e : (s.c - s.a) * t = s.c * t - s.a * t := Int.sub_mul _ _ _
    have e2 : -s.c * t = -(s.c * t) := Int.neg_mul _ _
    refine ⟨by omega, by omega, by omega, by omega⟩
theorem EmJ.fed {s : St} {out : List Int} {t : Int} (h : EmJ s out) (ht : out = [] ∨ 1 ≤ t) : EmJ (fedF s t) out := by
  rcases ht with rfl | ht
  · exact EmJ.nil _
  refine ⟨h.len, h.bd, h.cone.imp id (fun hc => cone_fed hc ht), fun hl => ?_⟩
  rcases h.last hl with h1 | ⟨h1, h2⟩
  · exact .inl h1
  · right
    have hc : Cone s := by
      rcases h.cone with e | e
      · subst e; simp at hl
      · exact e
    unfold fedF
    simp only
    rcases hc with ⟨k1, k2, k3, k4⟩ | ⟨k1, k2, k3, k4⟩
    · have a1 := mul_step k1 ht
      constructor <;> omega
    · have a1 := mul_step (x := -s.c) (by omega) ht
      have e2 : -s.c * t = -(s.c * t) := Int.neg_mul _ _
      constructor <;> omega
/-- The rest of a division with any divisor. -/
theorem fdv_rest {n d : Int} (hd : d ≠ 0) : (0 < d → 0 ≤ n - fdv n d * d ∧ n - fdv n d * d < d) ∧ (d < 0 → n - fdv n d * d ≤ 0 ∧ d < n - fdv n d * d) := by
  unfold fdv
  refine ⟨fun h => ?_, fun h => ?_⟩
  · rw [if_neg (by omega)]
    have h1 := Int.emod_nonneg n hd
    have h2 := Int.emod_lt_of_pos n h
    have h3 := Int.mul_ediv_add_emod n d
    have h4 : n / d * d = d * (n / d) := Int.mul_comm _ _
    omega
  · rw [if_pos h]
    have h1 := Int.emod_nonneg (-n) (show -d ≠ 0 by omega)
    have h2 := Int.emod_lt_of_pos (-n) (show 0 < -d by omega)
    have h3 := Int.mul_ediv_add_emod (-n) (-d)
    have h4 : -n / -d * d = -(-d * (-n / -d)) := by rw [Int.neg_mul, Int.neg_neg]; exact Int.mul_comm _ _
    omega
theorem EmJ.em {s : St} {out : List Int} {q : Int} (h : EmJ s out) (hb : bdS s = true) (hl : out.length < 60) (hq : knF s = some q) : EmJ (emF s q) (out ++ [q]) := by
  have hqb := kn_bd hb hq
  obtain ⟨o1, o2, o3⟩ := knF_some hq
  obtain ⟨c1, c2, c3⟩ := opS_no o1
  have r1 := fdv_rest (n := s.a) c1
  have r2 := fdv_rest (n := s.a + s.b) c2
  rw [o3] at r1
  rw [o2] at r2
  have e : q * (s.c + s.d) = q * s.c + q * s.d := Int.mul_add _ _ _
  have hcone : Cone (emF s q) := by
    unfold Cone emF
    simp only
    rcases Int.lt_or_le s.c 0 with k | k
    · have k2 := c3.1 k
      have r1 := r1.2 k
      have r2 := r2.2 k2
      right; omega
    · have r1 := r1.1 (by omega)
      have r2 := r2.1 (by omega)
      left; omega
  have hge : out ≠ [] → 1 ≤ q := by
    intro hne
    rcases h.cone.resolve_left hne with ⟨k1, k2, k3, k4⟩ | ⟨k1, k2, k3, k4⟩
    · have r1 := r1.1 (by omega)
      refine Classical.byContradiction fun hc => ?_
      have := Int.mul_le_mul_of_nonneg_right (show q ≤ 0 by omega) k1
      omega
    · have r1 := r1.2 (by omega)
      refine Classical.byContradiction fun hc => ?_
      have := Int.mul_le_mul_of_nonneg_right (show q ≤ 0 by omega) (show 0 ≤ -s.c by omega)
      have e2 : q * -s.c = -(q * s.c) := Int.mul_neg _ _
      omega
  refine ⟨by simp; omega, fun i x hx => ?_, .inr hcone, fun hl2 => ?_⟩
  · rcases Nat.lt_or_ge i out.length with k | k
    · rw [List.getElem?_append_left k] at hx
      exact h.bd i x hx
    · rw [List.getElem?_append_right k] at hx
      have hi : i - out.length = 0 := by
        rcases Nat.eq_zero_or_pos (i - out.length) with z | z
        · exact z
        · rw [List.getElem?_eq_none (by simp; omega)] at hx; cases hx
      rw [hi] at hx
      simp at hx
      subst hx
      unfold lowT
      split
      · exact hqb
      · exact ⟨hge (by intro e; subst e; simp at k hi; omega), hqb.2⟩
  · have hne : out ≠ [] := by intro e; subst e; simp at hl2
    rw [List.length_append, List.length_singleton, Nat.add_sub_cancel]
    by_cases hz : (emF s q).c ≠ 0 ∧ (emF s q).c + (emF s q).d ≠ 0
    · exact .inr hz
    · left
      intro x hx
      rw [List.getElem?_append_right (Nat.le_refl _)] at hx
      simp at hx
      subst hx
      have h1 := hge hne
      refine Classical.byContradiction fun hc => hz ?_
      have hq1 : q = 1 := by omega
      subst hq1
      unfold emF
      simp only
      rcases h.cone.resolve_left hne with ⟨k1, k2, k3, k4⟩ | ⟨k1, k2, k3, k4⟩
      · constructor <;> omega
      · constructor <;> omega
theorem emit_pair {most : Nat} {s s' : St} {out out' : List Int} (hm : 60 < most) (P : St → List Int → Prop) (hp : ∀ s out q, bdS s = true → out.length < 60 → knF s = some q → P s out → P (emF s q) (out ++ [q])) : out.length ≤ 60 → bdS s = true → P s out → emitF most s out = some (s', out') → P s' out' := by
  have key : ∀ f s out, out.length ≤ 60 → bdS s = true → P s out → emitM most f s out = some (s', out') → P s' out' := by
    intro f
    induction f with
    | zero => intro s out _ _ _ h; cases h
    | succ f ih =>
      intro s out hl hb hs h
      rw [emitM] at h
      split at h
      · injection h with h; injection h with h1 h2; subst h1 h2; exact hs
      · split at h
        · injection h with h; injection h with h1 h2; subst h1 h2; exact hs
        · rename_i q hq
          split at h
          · cases h
          · split at h
            · rename_i h60 hb2
              exact ih (emF s q) (out ++ [q]) (by simp; omega) hb2 (hp s out q hb (by omega) hq hs) h
            · split at h
              · omega
              · cases h
  intro hl hb hs h
  exact key _ s out hl hb hs h
/-- Feed all terms. -/
def runG : List Int → St → List Int → Option (St × List Int)
  | [], s, out => some (s, out)
  | t :: ts, s, out => match feedR s out t with | none => none | some r => runG ts r.1 r.2
theorem feedR_J {s s' : St} {out out' : List Int} {t : Int} (h : feedR s out t = some (s', out')) (hj : EmJ s out) (ht : out = [] ∨ 1 ≤ t) : EmJ s' out' := by
  unfold feedR at h
  split at h
  · rename_i hb
    exact emit_pair (most := 1073741824) (by omega) EmJ (fun s out q h1 h2 h3 h4 => h4.em h1 h2 h3) hj.len hb (hj.fed ht) h
  · cases h
/-- Where nothing is left, what has been emitted is a list of terms in short form. -/
theorem run_short {s : St} {out : List Int} (h : EmJ s out) (hc : s.c = 0) (hne : out ≠ []) : termsP (shortL out) = true ∧ shortL out = out := by
  have e : shortL out = out := by
    refine shortL_no (fun ⟨h1, h2⟩ => ?_)
    rcases h.last (by omega) with k | k
    · have := k 1 h2; omega
    · exact k.1 hc
  rw [e]
  refine ⟨termsP_iff.2 ⟨⟨?_, h.len⟩, fun i x hx => inB_iff.2 (h.bd i x hx)⟩, rfl⟩
  cases out with
  | nil => exact absurd rfl hne
  | cons a l => simp
/-- What is left when all terms have been fed: the terms, and a code. -/
noncomputable def endF (s : St) (out : List Int) : List Int × Int :=
  if s.c = 0 then (if s.a = 0 ∨ out.length = 0 then ([], 6) else (if termsP (shortL out) then (shortL out, 0) else ([], 5)))
  else if (fullF s.a s.c).2.2 = 0 then (if termsP (shortL (out ++ termsF (fullF s.a s.c).1 (fullF s.a s.c).2.1)) then (shortL (out ++ termsF (fullF s.a s.c).1 (fullF s.a s.c).2.1), 0) else ([], 5))
  else ([], (fullF s.a s.c).2.2)

end Go.Proofs.Ytgkelemfbmmgnaa

