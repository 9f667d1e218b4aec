/- Lists of sources in memory. Each theorem names its conditions. -/
import Derived.Test.YtgmofofokhlhnaaLawBs
import Derived.Test.YtgmofofokhlhnaaPt
import Derived.OwnWalk
namespace Go.Proofs.Ytgmofofokhlhnaa
open Go.RowKit
set_option linter.unusedVariables false
set_option linter.unusedSimpArgs false

/-- A list of sources in memory. -/
def SlL (w : World) (v : Value) (ss : List Src) : Prop :=
  ∃ a c, v = .slice a ss.length c ∧ ss.length ≤ c ∧ c ≤ maxLen ∧ (a = none → c = 0) ∧ ∀ i s, ss[i]? = some s → ∃ b o h p g, a = some ⟨b, o, none⟩ ∧ P3 w b (o + i * 3) h p g ∧ SlS w h p g s
theorem SlL.below {w w' : World} {v : Value} {ss : List Src} (x : SlL w v ss) (hb : Bl w w') : SlL w' v ss := by
  obtain ⟨a, c, e, h1, h2, h3, h4⟩ := x
  refine ⟨a, c, e, h1, h2, h3, fun i s hs => ?_⟩
  obtain ⟨b, o, h, p, g, e2, x1, x2⟩ := h4 i s hs
  exact ⟨b, o, h, p, g, e2, x1.below hb, x2.below hb⟩
theorem SlL.alloc {w : World} {v : Value} {ss : List Src} (x : SlL w v ss) (t : Obj) : SlL (w.alloc t) v ss := x.below (bl_alloc (bl_refl _) t)
theorem SlL.drew {w : World} {v : Value} {ss : List Src} (x : SlL w v ss) : SlL w.drew v ss := x
theorem SlL.form {w : World} {v : Value} {ss : List Src} (x : SlL w v ss) : ∃ a c, v = .slice a ss.length c ∧ ss.length ≤ c := by
  obtain ⟨a, c, e, h1, _⟩ := x; exact ⟨a, c, e, h1⟩
theorem SlL.len {w : World} {v : Value} {ss : List Src} (x : SlL w v ss) : ss.length ≤ 9223372036854775807 := by
  obtain ⟨a, c, e, h1, h2, _⟩ := x; unfold maxLen at h2; omega
theorem SlL.at {w w' : World} {a : Option Addr} {n c : Nat} {ss : List Src} (x : SlL w (.slice a n c) ss) (hb : Bl w w') {k : Nat} (hk : k < ss.length) :
    ∃ b o, a = some ⟨b, o, none⟩ ∧ ∃ h p g s, ss[k]? = some s ∧ P3 w' b (o + k * 3) h p g ∧ SlS w' h p g s := by
  obtain ⟨a', c', e, _, _, _, h4⟩ := x.below hb
  injection e with e1 e2 e3
  subst e1 e2 e3
  obtain ⟨b, o, h, p, g, e, x1, x2⟩ := h4 k _ (List.getElem?_eq_getElem hk)
  exact ⟨b, o, e, h, p, g, _, List.getElem?_eq_getElem hk, x1, x2⟩
/-- .. at a place of a list whose row is known. -/
theorem SlL.atR {w w' : World} {b o n c : Nat} {ss : List Src} (x : SlL w (.slice (some ⟨b, o, none⟩) n c) ss) (hb : Bl w w') {k : Nat} {s : Src} (hs : ss[k]? = some s) :
    ∃ h p g, P3 w' b (o + k * 3) h p g ∧ SlS w' h p g s := by
  obtain ⟨b', o', e, h, p, g, s', hs', x1, x2⟩ := x.at hb (List.getElem?_eq_some_iff.1 hs).1
  injection e with e
  injection e with e1 e2
  subst e1 e2
  rw [hs] at hs'
  injection hs' with hs'
  subst hs'
  exact ⟨h, p, g, x1, x2⟩
/-- The lengths of all lists of a source, of all sources. -/
def totS (s : Src) : Nat := s.H.length + s.P.length + s.G.length
def totL : List Src → Nat
  | [] => 0
  | s :: r => totS s + totL r
theorem totL_take {ss : List Src} {k : Nat} {s : Src} (h : ss[k]? = some s) : totL (ss.take (k + 1)) = totL (ss.take k) + totS s := by
  induction ss generalizing k with
  | nil => simp at h
  | cons t r ih =>
    cases k with
    | zero => simp at h; subst h; simp [totL]
    | succ k =>
      simp only [List.getElem?_cons_succ] at h
      have := ih h
      simp only [List.take_succ_cons, totL]
      omega
theorem totS_le {ss : List Src} {s : Src} (h : s ∈ ss) : totS s ≤ totL ss := by
  induction ss with
  | nil => cases h
  | cons t r ih =>
    rcases List.mem_cons.1 h with rfl | h
    · simp only [totL]; omega
    · have := ih h; simp only [totL]; omega
theorem bel_bl {w w' : World} (h : Below w.heap.size w w') : Bl w w' := h

set_option maxRecDepth 100000 in
set_option maxHeartbeats 1600000 in
theorem szL_any (va : Value) (ss : List Src) (n : Int) (w : World) (ha : SlL w va ss) (h0 : 0 ≤ n) (h1 : n ≤ 4611686018427387904) :
    Calls Try.prog 43 #[va, .int .i64 n] w fun e w' => ∃ q : Int, e = .returned (.int .i64 q) ∧ (0 ≤ q → (ss.length : Int) ≤ n ∧ (totL ss : Int) ≤ n) ∧ Bl w w' := by
  have hl := ha.len
  obtain ⟨a, c, rfl, hc⟩ := ha.form
  have HA := Lib.hid ha
  clear ha
  by_cases hneg : n - (ss.length : Int) < 0
  · go_enter Try.func43, Try.ntmps43
    go_wp2
    go_ret
    exact ⟨-1, rfl, fun h => absurd h (by omega), bl_refl _⟩
  · go_enter Try.func43, Try.ntmps43
    go_wp2
    go_loopw [1, 5] (fun s1 s5 wr => ∃ (k : Nat) (L : Int), k ≤ ss.length ∧ s5 = .int .i64 k ∧ s1 = .int .i64 L ∧ 0 ≤ L ∧ L + (totL (ss.take k) : Int) ≤ n - (ss.length : Int) ∧ Bl w wr) (fun _ s5 _ => ss.length - (intOf s5).toNat)
    case atStart => exact ⟨0, _, Nat.zero_le _, rfl, rfl, by omega, by simp [totL], bl_refl _⟩
    case round =>
      obtain ⟨k, L, hk, rfl, rfl, hL0, hL1, hB⟩ := hrel
      have hLn : L ≤ 4611686018427387904 := by omega
      by_cases hlt : k < ss.length
      · obtain ⟨b, o, rfl, h, p, g, s, hs, x3, xs⟩ := HA.out.at hB hlt
        have HT := Lib.hid (totL_take hs)
        obtain ⟨cx, cx1, cx2⟩ := x3
        clear hs
        go_wp2_with fail
        refine (szS_any h p g s L _ xs hL0 hLn).mono ?_
        rintro e w1 ⟨rfl, hb1⟩
        have B1 : Bl w w1 := bl_call hB hb1
        clear cx cx1 cx2
        by_cases hz : szS L s < 0
        · go_wp2
          go_ret
          exact ⟨-1, rfl, fun h => absurd h (by omega), B1⟩
        · obtain ⟨q1, q2, q3, q4, q5⟩ := szS_nonneg L s (by omega)
          have hz0 : 0 ≤ szS L s := by omega
          have hz1 : szS L s + (totL (ss.take (k + 1)) : Int) ≤ n - (ss.length : Int) := by have := HT.out; unfold totS at this; omega
          have HZ := Lib.hid hz1
          clear q1 q2 q3 q4 q5 hz1
          go_wp2
          go_roundw
          case rel => exact ⟨k + 1, szS L s, by omega, by go_num, rfl, hz0, HZ.out, B1⟩
          case measure => simp only [intOf]; omega
      · go_wp2
        go_ret
        exact ⟨L, rfl, fun _ => ⟨by omega, by rw [List.take_of_length_le (by omega)] at hL1; omega⟩, hB⟩

set_option maxRecDepth 100000 in
set_option maxHeartbeats 1600000 in
theorem eqL_any (va vb : Value) (ss ts : List Src) (w : World) (ha : SlL w va ss) (hb : SlL w vb ts) (he : ss = ts) :
    Calls Try.prog 45 #[va, vb] w fun e w' => e = .returned (.bool true) ∧ Bl w w' := by
  subst he
  have hl := ha.len
  obtain ⟨a, ca, rfl, hca⟩ := ha.form
  obtain ⟨b, cb, rfl, hcb⟩ := hb.form
  have HA := Lib.hid ha
  have HB := Lib.hid hb
  have hne : ((ss.length : Int) != (ss.length : Int)) = false := by simp
  clear ha hb
  go_enter Try.func45, Try.ntmps45
  go_wp2
  go_loopw [5] (fun i wr => ∃ k : Nat, k ≤ ss.length ∧ i = .int .i64 k ∧ Bl w wr) (fun i _ => ss.length - (intOf i).toNat)
  case atStart => exact ⟨0, Nat.zero_le _, rfl, bl_refl _⟩
  case round =>
    obtain ⟨k, hk, rfl, hB⟩ := hrel
    by_cases hlt : k < ss.length
    · obtain ⟨b1, o1, rfl, h, p, g, s, hs, x3, xs⟩ := HA.out.at hB hlt
      obtain ⟨b2, o2, rfl, h', p', g', s', hs', y3, ys⟩ := HB.out.at hB hlt
      obtain rfl : s' = s := by rw [hs] at hs'; exact (Option.some.inj hs').symm
      have HX := Lib.hid x3
      have HY := Lib.hid y3
      have HXS := Lib.hid xs
      have HYS := Lib.hid ys
      obtain ⟨cx, cx1, cx2⟩ := x3
      obtain ⟨cy, cy1, cy2⟩ := y3
      clear hs hs' xs ys
      go_wp2_with fail
      go_region_held3 (fun w' => w'.cell? ⟨b1, o1 + k * 3, none⟩ = some h ∧ w'.cell? ⟨b1, o1 + k * 3 + 1, none⟩ = some p ∧ w'.cell? ⟨b1, o1 + k * 3 + 2, none⟩ = some g ∧ w'.cell? ⟨b2, o2 + k * 3, none⟩ = some h' ∧ w'.cell? ⟨b2, o2 + k * 3 + 1, none⟩ = some p' ∧ w'.cell? ⟨b2, o2 + k * 3 + 2, none⟩ = some g') (first | (simp [*]; done) | (go_simp; done) | go_keep)
        ((go_at_call 32; refine (eqS_any h p g h' p' g' s' s' _ HXS.out.drew HYS.out.drew).mono ?_; rintro e w2 ⟨rfl, hb2⟩; have B2 : Bl w w2 := bl_call (bl_drew hB) hb2; clear cx cx1 cx2 cy cy1 cy2; obtain ⟨cx, cx1, cx2⟩ := HX.out.drew.below hb2; obtain ⟨cy, cy1, cy2⟩ := HY.out.drew.below hb2))
      all_goals go_wp2
      all_goals go_roundw
      case rel => exact ⟨k + 1, by omega, by go_num, B2⟩
      case measure => simp only [intOf]; omega
    · go_wp2
      go_ret
      exact ⟨rfl, hB⟩

/-- A list of sources that a call has made: its row, its rows' blocks, all between lo and hi. -/
structure OwnT (w : World) (lo hi g : Nat) (n : Nat) (ss : List Src) (cs : Array Value) (T : Nat → Value × Value × Value) : Prop where
  row : Bx w g cs
  glo : lo ≤ g
  ghi : g < hi
  siz : cs.size = ss.length * 3
  cel : ∀ i, i < n → cs[i * 3]? = some (T i).1 ∧ cs[i * 3 + 1]? = some (T i).2.1 ∧ cs[i * 3 + 2]? = some (T i).2.2
  own : ∀ i s, i < n → ss[i]? = some s → OwnS w lo (T i).1 (T i).2.1 (T i).2.2 s
  top : ∀ i k, i < n → blks (T i).1 (T i).2.1 (T i).2.2 k → g < k ∧ k < hi
  apt : ∀ i j k, i < n → j < n → i ≠ j → blks (T i).1 (T i).2.1 (T i).2.2 k → ¬ blks (T j).1 (T j).2.1 (T j).2.2 k
def OwnL (w : World) (lo hi g : Nat) (ss : List Src) : Prop := ss.length ≤ 1048576 ∧ hi ≤ w.heap.size ∧ ∃ cs T, OwnT w lo hi g ss.length ss cs T
theorem OwnT.below {w w' : World} {lo hi g n : Nat} {ss : List Src} {cs : Array Value} {T : Nat → Value × Value × Value} (x : OwnT w lo hi g n ss cs T) (hb : Bl w w') : OwnT w' lo hi g n ss cs T :=
  ⟨x.row.below hb, x.glo, x.ghi, x.siz, x.cel, fun i s hi hs => (x.own i s hi hs).below hb, x.top, x.apt⟩
theorem OwnL.below {w w' : World} {lo hi g : Nat} {ss : List Src} (x : OwnL w lo hi g ss) (hb : Bl w w') : OwnL w' lo hi g ss := by
  obtain ⟨h1, h2, cs, T, h3⟩ := x
  exact ⟨h1, Nat.le_trans h2 hb.size, cs, T, h3.below hb⟩
theorem OwnL.alloc {w : World} {lo hi g : Nat} {ss : List Src} (x : OwnL w lo hi g ss) (t : Obj) : OwnL (w.alloc t) lo hi g ss := x.below (bl_alloc (bl_refl _) t)
theorem OwnL.drew {w : World} {lo hi g : Nat} {ss : List Src} (x : OwnL w lo hi g ss) : OwnL w.drew lo hi g ss := x.below (bl_drew (bl_refl _))
theorem OwnL.sl {w : World} {lo hi g : Nat} {ss : List Src} (x : OwnL w lo hi g ss) : SlL w (.slice (some ⟨g, 0, none⟩) ss.length ss.length) ss := by
  obtain ⟨h1, h2, cs, T, x⟩ := x
  refine ⟨some ⟨g, 0, none⟩, ss.length, rfl, Nat.le_refl _, by unfold maxLen; omega, by simp, fun i s hs => ?_⟩
  have hl := (List.getElem?_eq_some_iff.1 hs).1
  have hc := x.cel i hl
  have hr := x.row.out.1
  refine ⟨g, 0, (T i).1, (T i).2.1, (T i).2.2, rfl, ⟨?_, ?_, ?_⟩, (x.own i s hl hs).sl⟩
  · rw [Nat.zero_add, hr]; exact hc.1
  · rw [Nat.zero_add, hr]; exact hc.2.1
  · rw [Nat.zero_add, hr]; exact hc.2.2
theorem OwnS.setCell {w : World} {B : Nat} {h p g : Value} {s : Src} (x : OwnS w B h p g s) {a : Addr} (ha : a.block < B) (u : Value) : OwnS (w.setCell a u) B h p g s :=
  ⟨x.1.setCell ha u, x.2.1.setCell ha u, x.2.2.1.setCell ha u, x.2.2.2⟩
theorem Own.farK {w : World} {B : Nat} {v : Value} {xs : List Int} (h : Own w B v xs) {p : Addr} (hp : ∀ k, v.ownBlock = some k → k ≠ p.block) (u : Value) : Own (w.setCell p u) B v xs := by
  refine h.grown (row := some p.block) ⟨rfl, rfl, rfl, by simp, fun k hk hne => Below.heap_setCell w p u k (fun e => hne (by rw [e]))⟩ (.inr fun e => hp _ e rfl)
theorem OwnS.farK {w : World} {B : Nat} {h p g : Value} {s : Src} (x : OwnS w B h p g s) {a : Addr} (ha : ∀ k, blks h p g k → k ≠ a.block) (u : Value) : OwnS (w.setCell a u) B h p g s :=
  ⟨x.1.farK (fun k e => ha k (.inl e)) u, x.2.1.farK (fun k e => ha k (.inr (.inl e))) u, x.2.2.1.farK (fun k e => ha k (.inr (.inr e))) u, x.2.2.2⟩
theorem ownT_start {w : World} {g : Nat} {ss : List Src} {cs : Array Value} (hx : Bx w g cs) (hs : cs.size = ss.length * 3) (hi : Nat) (hg : g < hi) : OwnT w g hi g 0 ss cs (fun _ => (.slice none 0 0, .slice none 0 0, .slice none 0 0)) :=
  ⟨hx, Nat.le_refl _, hg, hs, fun i h => absurd h (by omega), fun i s h => absurd h (by omega), fun i k h => absurd h (by omega), fun i j k h => absurd h (by omega)⟩
theorem cs_set3 {cs : Array Value} {n j : Nat} {a b c : Value} (hs : cs.size = n * 3) (hj : j < n) : ∀ i, i < n → (((cs.setIfInBounds (j * 3) a).setIfInBounds (j * 3 + 1) b).setIfInBounds (j * 3 + 2) c)[i * 3]? = (if i = j then some a else cs[i * 3]?) ∧ (((cs.setIfInBounds (j * 3) a).setIfInBounds (j * 3 + 1) b).setIfInBounds (j * 3 + 2) c)[i * 3 + 1]? = (if i = j then some b else cs[i * 3 + 1]?) ∧ (((cs.setIfInBounds (j * 3) a).setIfInBounds (j * 3 + 1) b).setIfInBounds (j * 3 + 2) c)[i * 3 + 2]? = (if i = j then some c else cs[i * 3 + 2]?) := by
  intro i hi
  by_cases h : i = j
  · subst h
    simp only [if_true]
    refine ⟨?_, ?_, ?_⟩
    · rw [Array.getElem?_setIfInBounds_ne (by omega), Array.getElem?_setIfInBounds_ne (by omega), Array.getElem?_setIfInBounds_self_of_lt (by omega)]
    · rw [Array.getElem?_setIfInBounds_ne (by omega), Array.getElem?_setIfInBounds_self_of_lt (by simp; omega)]
    · rw [Array.getElem?_setIfInBounds_self_of_lt (by simp; omega)]
  · simp only [if_neg h]
    refine ⟨?_, ?_, ?_⟩ <;> rw [Array.getElem?_setIfInBounds_ne (by omega), Array.getElem?_setIfInBounds_ne (by omega), Array.getElem?_setIfInBounds_ne (by omega)]
/-- One source more in the row. -/
theorem OwnT.step {w w2 : World} {lo hi g n : Nat} {ss : List Src} {cs : Array Value} {T : Nat → Value × Value × Value} {s : Src} {a b c : Value} (x : OwnT w lo hi g n ss cs T) (hb : Bl w w2) (hw : w.heap.size = hi) (hn : n < ss.length) (hs : ss[n]? = some s) (o : OwnS w2 w.heap.size a b c s) :
    OwnT (((w2.setCell ⟨g, n * 3, none⟩ a).setCell ⟨g, n * 3 + 1, none⟩ b).setCell ⟨g, n * 3 + 2, none⟩ c) lo w2.heap.size g (n + 1) ss (((cs.setIfInBounds (n * 3) a).setIfInBounds (n * 3 + 1) b).setIfInBounds (n * 3 + 2) c) (fun i => if i = n then (a, b, c) else T i) := by
  have x2 := x.below hb
  have hz := hb.size
  have hg := x.ghi
  have hgl := x.glo
  have lo2 := o.blk
  refine ⟨((x2.row.set _ _).set _ _).set _ _, x.glo, by omega, by simp [x.siz], fun i hi => ?_, fun i s' hi hs' => ?_, fun i k hi hk => ?_, fun i j k hi hj hne hk hk' => ?_⟩
  · have h3 := cs_set3 (a := a) (b := b) (c := c) x.siz hn i (by omega)
    by_cases h : i = n
    · simp only [if_pos h] at h3 ⊢
      exact h3
    · simp only [if_neg h] at h3 ⊢
      have := x.cel i (by omega)
      exact ⟨h3.1.trans this.1, h3.2.1.trans this.2.1, h3.2.2.trans this.2.2⟩
  · by_cases h : i = n
    · subst h
      simp only [if_true]
      obtain rfl : s' = s := by rw [hs] at hs'; exact (Option.some.inj hs').symm
      refine OwnS.mono (B := w.heap.size) ?_ (by omega)
      exact ((o.setCell (a := ⟨g, i * 3, none⟩) (by show g < _; omega) _).setCell (a := ⟨g, i * 3 + 1, none⟩) (by show g < _; omega) _).setCell (a := ⟨g, i * 3 + 2, none⟩) (by show g < _; omega) _
    · simp only [if_neg h]
      have o1 := x2.own i s' (by omega) hs'
      have ht := x.top i
      have hf : ∀ k, blks (T i).1 (T i).2.1 (T i).2.2 k → k ≠ g := fun k hk => by have := ht k (by omega) hk; omega
      exact ((o1.farK (a := ⟨g, n * 3, none⟩) hf _).farK (a := ⟨g, n * 3 + 1, none⟩) hf _).farK (a := ⟨g, n * 3 + 2, none⟩) hf _
  · by_cases h : i = n
    · simp only [if_pos h] at hk
      have := lo2 k hk
      omega
    · simp only [if_neg h] at hk
      have := x.top i k (by omega) hk
      omega
  · by_cases h : i = n
    · have h' : ¬ j = n := fun e => hne (by rw [h, e])
      simp only [if_pos h] at hk
      simp only [if_neg h'] at hk'
      have := lo2 k hk
      have := x.top j k (by omega) hk'
      omega
    · simp only [if_neg h] at hk
      by_cases h' : j = n
      · simp only [if_pos h'] at hk'
        have := lo2 k hk'
        have := x.top i k (by omega) hk
        omega
      · simp only [if_neg h'] at hk'
        exact x.apt i j k (by omega) (by omega) hne hk hk'
theorem info_src : (Try.prog.info? 26).map (fun i => (i.zero, i.size, i.bytes)) = some (some (.agg #[.slice none 0 0, .slice none 0 0, .slice none 0 0]), 3, 72) := by kernel_rfl
set_option maxRecDepth 100000 in
set_option maxHeartbeats 1600000 in
theorem toL_any (va : Value) (ss : List Src) (w : World) (ha : SlL w va ss) (hl : ss.length ≤ 1048576) (ht : totL ss ≤ 1048576) :
    Calls Try.prog 44 #[va] w fun e w' => ∃ g, e = .returned (.slice (some ⟨g, 0, none⟩) ss.length ss.length) ∧ OwnL w' w.heap.size w'.heap.size g ss ∧ Bl w w' := by
  obtain ⟨i0, hi, hz0, hz1, hz2⟩ := info_parts info_src
  obtain ⟨a, c, rfl, hc⟩ := ha.form
  have HA := Lib.hid ha
  clear ha
  go_enter Try.func44, Try.ntmps44
  go_wp2_with (at_make; refine wpList_make_full _ rfl _ _ 31 rfl w.heap.size 26 i0 (.agg #[.slice none 0 0, .slice none 0 0, .slice none 0 0]) 3 Try.underlying31 hi hz0 hz1 .i64 .i64 _ _ ss.length rfl rfl rfl rfl ?c1 ?c2 ?c3 ?_)
  case c1 => rw [hz2]; omega
  case c2 => unfold maxLen; omega
  case c3 => exact Nat.le_refl _
  intro w1 hown1 hgrow1
  have hB1 := below_of_grown hgrow1
  obtain ⟨cs, hx, hcs⟩ : ∃ cs, Bx w1 w.heap.size cs ∧ cs.size = ss.length * 3 := by
    rcases hown1.2 with ⟨h, _⟩ | ⟨g', cap, cur, hv, hb, hg, _, _, hcs, _⟩
    · simp at h
    · simp only [Value.slice.injEq, Option.some.injEq, Addr.mk.injEq, and_true, true_and] at hv
      obtain ⟨rfl, rfl⟩ := hv
      exact ⟨cur, ⟨_, hg⟩, hcs⟩
  have hg1 := hx.out.2.2
  have h1 := Lib.hid (ownT_start hx hcs w1.heap.size hg1)
  clear hown1 hgrow1 hx hcs
  go_wp2
  go_loopw [4] (fun s4 wr => ∃ (j : Nat) (cs : Array Value) (T : Nat → Value × Value × Value), j ≤ ss.length ∧ s4 = .int .i64 j ∧ Hid (OwnT wr w.heap.size wr.heap.size w.heap.size j ss cs T) ∧ Bl w wr) (fun s4 _ => ss.length - (intOf s4).toNat)
  case atStart => exact ⟨0, _, _, Nat.zero_le _, rfl, h1, hB1⟩
  case round =>
    obtain ⟨j, cs, T, hj, rfl, hO, hB⟩ := hrel
    by_cases hlt : j < ss.length
    · obtain ⟨b, o, rfl, h, p, g, s, hs, x3, xs⟩ := HA.out.at hB hlt
      have HS := Lib.hid hs
      have hts : totS s ≤ 1048576 := Nat.le_trans (totS_le (List.mem_of_getElem? hs)) ht
      have hts2 : s.H.length ≤ 1048576 ∧ s.P.length ≤ 1048576 ∧ s.G.length ≤ 1048576 := by unfold totS at hts; omega
      obtain ⟨cx, cx1, cx2⟩ := x3
      clear hs hts
      go_wp2_with fail
      refine (toS_any h p g s _ xs hts2).mono ?_
      rintro e w2 ⟨h', p', g', rfl, ho, hb2⟩
      obtain ⟨⟨a1, n1, c1, rfl⟩, ⟨a2, n2, c2, rfl⟩, ⟨a3, n3, c3, rfl⟩⟩ := ho.shape
      have hb2 : Bl wr w2 := hb2
      have B2 : Bl w w2 := bl_call hB hb2
      have hst := hO.out.step hb2 rfl hlt HS.out ho
      have hr := (hO.out.below hb2).row.out
      have hsz := hO.out.siz
      have hgw := hr.2.2
      obtain ⟨u0, hu0⟩ : ∃ u, cs[j * 3]? = some u := ⟨_, Array.getElem?_eq_getElem (by omega)⟩
      obtain ⟨u1, hu1⟩ : ∃ u, cs[j * 3 + 1]? = some u := ⟨_, Array.getElem?_eq_getElem (by omega)⟩
      obtain ⟨u2, hu2⟩ : ∃ u, cs[j * 3 + 2]? = some u := ⟨_, Array.getElem?_eq_getElem (by omega)⟩
      have k0 : w2.cell? ⟨w.heap.size, j * 3, none⟩ = some u0 := by rw [hr.1, hu0]
      have k1 : w2.cell? ⟨w.heap.size, j * 3 + 1, none⟩ = some u1 := by rw [hr.1, hu1]
      have k2 : w2.cell? ⟨w.heap.size, j * 3 + 2, none⟩ = some u2 := by rw [hr.1, hu2]
      have f0 := hr.2.1
      have HST := Lib.hid hst
      have HB3 := Lib.hid (bl_set (bl_set (bl_set B2 (p := ⟨w.heap.size, j * 3, none⟩) (Nat.le_refl _) (.slice a1 n1 c1)) (p := ⟨w.heap.size, j * 3 + 1, none⟩) (Nat.le_refl _) (.slice a2 n2 c2)) (p := ⟨w.heap.size, j * 3 + 2, none⟩) (Nat.le_refl _) (.slice a3 n3 c3))
      clear cx cx1 cx2 hst hu0 hu1 hu2 hr ho
      go_wp2
      go_roundw
      case rel => exact ⟨j + 1, _, _, by omega, by go_num, by simpa using HST, HB3.out⟩
      case measure => simp only [intOf]; omega
    · go_wp2
      go_ret
      obtain rfl : j = ss.length := by omega
      exact ⟨_, rfl, ⟨hl, Nat.le_refl _, cs, T, hO.out⟩, hB⟩

end Go.Proofs.Ytgmofofokhlhnaa
