/- Some of the texts of this claim, joined in one file: SoL, Fin. -/
import Derived.Test.YtgkelemfbmmgnaaSoMm
import Derived.Test.YtgkelemfbmmgnaaEqSm
import Derived.Test.YtgkelemfbmmgnaaCmpSrcm
import Derived.Test.YtgkelemfbmmgnaaNum
/- The order of sources: plain laws. Each theorem names its conditions. -/
namespace Go.Proofs.Ytgkelemfbmmgnaa
set_option linter.unusedVariables false
set_option linter.unusedSimpArgs false

theorem decT_or {a b : Int × Bool} {k : Nat} {c : Int} (h : decT a b k = some c) : -1 ≤ c ∧ c ≤ 1 := by
  have hs := sgnK_or k
  unfold decT at h
  split at h
  · injection h with h; omega
  · injection h with h; omega
  · injection h with h; omega
  · split at h
    · injection h with h; omega
    · split at h
      · injection h with h; omega
      · cases h
theorem cmpG_or {f : Nat → Option Int} (hf : ∀ k c, f k = some c → -1 ≤ c ∧ c ≤ 1) : ∀ n k, -1 ≤ (cmpG f n k).1 ∧ (cmpG f n k).1 ≤ 1
  | 0, k => by simp [cmpG]
  | n + 1, k => by
    rw [cmpG]
    cases e : f k with
    | none => exact cmpG_or hf n (k + 1)
    | some c => exact hf k c e
theorem code17_sym (s t : Src) (m : Int) : code17 t s m = code17 s t m := by
  unfold code17
  rw [Bool.and_comm]
theorem cmpSrc_or {s t : Src} {m x c : Int} (h : cmpSrcF s t m = (x, c)) : -1 ≤ x ∧ x ≤ 1 := by
  unfold cmpSrcF at h
  split at h
  · have e := cmpG_or (f := decF (plainS s) (plainS t)) (fun k c q => decT_or q) m.toNat 0
    rw [show cmpG (decF (plainS s) (plainS t)) m.toNat 0 = cmpP (plainS s) (plainS t) m.toNat from rfl, h] at e
    exact e
  · injection h with h _; omega
theorem cmpSrc_back {s t : Src} {m x c : Int} (h : cmpSrcF s t m = (x, c)) : cmpSrcF t s m = (-x, c) := by
  unfold cmpSrcF at h ⊢
  rw [code17_sym]
  split at h
  · rename_i e
    rw [if_pos e, cmpP_sym, h]
  · rename_i e
    rw [if_neg e]
    injection h with h1 h2
    rw [← h1, h2]; rfl
/-- Equal for ever: the comparison finds nothing, or the end of both. -/
theorem cmpG_ever {s t : Src} (h : Ever s t) : ∀ n k, (cmpG (decF s t) n k).1 = 0
  | 0, k => rfl
  | n + 1, k => by
    rw [cmpG]
    have e : decF s t k = none ∨ decF s t k = some 0 := by
      unfold decF
      rw [h k]
      unfold decT
      cases q : (termP t k).2 with
      | false => right; rfl
      | true => left; simp
    rcases e with e | e
    · rw [e]; exact cmpG_ever h n (k + 1)
    · rw [e]
theorem cmpG_even {s t : Src} : ∀ n k, (∀ j, j < k → termP s j = termP t j) → cmpG (decF s t) n k = (0, 0) → Ever s t
  | 0, k, _, h => by simp [cmpG] at h
  | n + 1, k, hb, h => by
    rw [cmpG] at h
    cases e : decF s t k with
    | none =>
      rw [e] at h
      exact cmpG_even n (k + 1) (upto1 hb (decT_none e)) h
    | some c =>
      rw [e] at h
      have hc : c = 0 := by injection h with h _
      subst hc
      have hs := sgnK_or k
      rcases hx : termP s k with ⟨x, o⟩
      rcases hy : termP t k with ⟨y, u⟩
      unfold decF at e
      rw [hx, hy] at e
      cases o <;> cases u <;> simp only [decT] at e
      · exact ever_off hb hx hy
      · injection e with e; omega
      · injection e with e; omega
      · split at e
        · injection e with e; omega
        · split at e
          · injection e with e; omega
          · cases e
theorem eqSrc_ok {s t : Src} {b : Bool} (h : eqSrcF s t = (b, 0)) : okSrc s = true ∧ okSrc t = true ∧ (b = true ↔ Ever (plainS s) (plainS t)) := by
  unfold eqSrcF at h
  split at h
  · rename_i e
    rw [Bool.and_eq_true] at e
    injection h with h _
    exact ⟨e.1, e.2, by rw [← h]; simp⟩
  · injection h with _ h; cases h
theorem code17_1000 {s t : Src} (h1 : okSrc s = true) (h2 : okSrc t = true) : cmpSrcF s t 1000 = cmpP (plainS s) (plainS t) 1000 := by
  have e : code17 s t 1000 = 0 := by unfold code17; rw [h1, h2]; rfl
  unfold cmpSrcF
  rw [if_pos e]; rfl
theorem eq_cmp_true {s t : Src} {x c : Int} (h : eqSrcF s t = (true, 0)) (h2 : cmpSrcF s t 1000 = (x, c)) : x = 0 := by
  obtain ⟨a, b, q⟩ := eqSrc_ok h
  rw [code17_1000 a b] at h2
  have e := cmpG_ever (q.1 rfl) 1000 0
  rw [show cmpG (decF (plainS s) (plainS t)) 1000 0 = cmpP (plainS s) (plainS t) 1000 from rfl, h2] at e
  exact e
theorem eq_cmp_false {s t : Src} {x : Int} (h : eqSrcF s t = (false, 0)) (h2 : cmpSrcF s t 1000 = (x, 0)) : x ≠ 0 := by
  intro hx
  subst hx
  obtain ⟨a, b, q⟩ := eqSrc_ok h
  rw [code17_1000 a b] at h2
  have := q.2 (cmpG_even 1000 0 (by simp) h2)
  cases this
/-- Sorted, and in the order of places where nothing parts two. -/
def St (f : Nat → Nat → Int × Int) (out : List Nat) : Prop := out.Pairwise fun a b => (f a b).1 = 0 → a < b
theorem st_ins {f : Nat → Nat → Int × Int} (hf : CmpOk f) {n : Nat} {out : List Nat} (s : Srt f n out) (hd : Dec f (n + 1)) (h : St f out) : St f (insF f out n) := by
  unfold insF
  refine List.pairwise_append.2 ⟨h.sublist (List.take_sublist _ _), List.pairwise_cons.2 ⟨fun x hx e => ?_, h.sublist (List.drop_sublist _ _)⟩, fun a ha b hb => ?_⟩
  · obtain ⟨j, hj⟩ := List.getElem?_of_mem hx
    rw [List.getElem?_drop] at hj
    have := s.high hf hd (j := posF f out n + j) (by omega) hj
    omega
  · have ha2 := (s.mem a).1 (List.mem_of_mem_take ha)
    rcases List.mem_cons.1 hb with rfl | hb
    · exact fun _ => ha2
    · have := List.pairwise_append.1 (show (out.take (posF f out n) ++ out.drop (posF f out n)).Pairwise _ by rw [List.take_append_drop]; exact h)
      exact this.2.2 a ha b hb
theorem st_all {f : Nat → Nat → Int × Int} (hf : CmpOk f) : ∀ n, Dec f n → St f (sortG f n)
  | 0, _ => List.Pairwise.nil
  | n + 1, hd => st_ins hf (srt_all hf n (hd.mono (by omega))) hd (st_all hf n (hd.mono (by omega)))
/-- The first of the least. -/
def Fst (f : Nat → Nat → Int × Int) (n b : Nat) : Prop := ∀ j, j < n → j ≠ b → (f b j).1 ≤ 0 ∧ (j < b → (f b j).1 < 0)
theorem leastG_fst {f : Nat → Nat → Int × Int} (hf : CmpOk f) {N : Nat} (hd : Dec f N) : ∀ n i b, i + n = N → b < i → Fst f i b → ∃ b' : Nat, leastG f n b i = ((b' : Int), 0) ∧ b' < N ∧ Fst f N b'
  | 0, i, b, hi, hb, h => ⟨b, rfl, by omega, by rw [← hi]; exact h⟩
  | n + 1, i, b, hi, hb, h => by
    have d1 := hd.both hf (i := i) (j := b) (by omega) (by omega) (by omega)
    rw [leastG, if_pos d1]
    have sb := hf.sym i b
    by_cases hl : (f i b).1 < 0
    · rw [if_pos hl]
      refine leastG_fst hf hd n (i + 1) i (by omega) (by omega) (fun j hj hne => ?_)
      have hji : j < i := by omega
      have key : (f i j).1 < 0 := by
        by_cases hjb : j = b
        · rw [hjb]; exact hl
        · have dbj := hd.both hf (i := b) (j := j) (by omega) (by omega) (by omega)
          have dij := hd.both hf (i := i) (j := j) (by omega) (by omega) (by omega)
          have t1 := hf.tr i b j d1 dbj (by omega) (h j hji hjb).1
          rcases Int.lt_or_le (f i j).1 0 with g | g
          · exact g
          · have s1 := hf.sym i j
            have t2 := hf.tr b j i dbj (by rw [s1]; exact dij) (h j hji hjb).1 (by rw [s1]; show -(f i j).1 ≤ 0; omega)
            rw [sb] at t2
            have t3 : -(f i b).1 ≤ 0 := t2
            omega
      exact ⟨by omega, fun _ => key⟩
    · rw [if_neg hl]
      refine leastG_fst hf hd n (i + 1) b (by omega) (by omega) (fun j hj hne => ?_)
      by_cases hji : j = i
      · rw [hji, sb]
        exact ⟨by show -(f i b).1 ≤ 0; omega, fun q => by omega⟩
      · exact h j (by omega) hne
theorem fst_head {f : Nat → Nat → Int × Int} (hf : CmpOk f) {N b : Nat} {out : List Nat} (s : Srt f N out) (st : St f out) (hb : b < N) (h : Fst f N b) : ∃ r, out = b :: r := by
  cases out with
  | nil => have := s.len; simp at this; omega
  | cons m r =>
    refine ⟨r, ?_⟩
    have hm := (s.mem m).1 (by simp)
    by_cases e : m = b
    · rw [e]
    · exfalso
      have hbr : b ∈ r := by
        have := (s.mem b).2 hb
        rcases List.mem_cons.1 this with q | q
        · exact absurd q.symm e
        · exact q
      have p1 := (List.pairwise_cons.1 s.srt).1 b hbr
      have p2 := (List.pairwise_cons.1 st).1 b hbr
      have q := h m hm e
      have sb := hf.sym m b
      rw [sb] at q
      have q1 : -(f m b).1 ≤ 0 := q.1
      have hz : (f m b).1 = 0 := by omega
      have hlt := p2 hz
      have q2 : -(f m b).1 < 0 := q.2 hlt
      omega
theorem sort_out {ss : List Src} {m : Int} {L : List Int} (h : sortF ss m = (L, 0)) :
    ∃ (M : Nat) (out : List Nat), m = (M : Int) ∧ L = natL out ∧ listC ss m = 0 ∧ Dec (cmpAt ss M) ss.length ∧ Srt (cmpAt ss M) ss.length out ∧ St (cmpAt ss M) out := by
  by_cases hc : listC ss m = 0
  · obtain ⟨_, hm, hl⟩ := listC_zero hc
    obtain ⟨M, rfl⟩ := Int.eq_ofNat_of_zero_le (show 0 ≤ m by omega)
    by_cases hd : Dec (cmpAt ss M) ss.length
    · rw [sortF_yes hc hd] at h
      injection h with h _
      exact ⟨M, _, rfl, h.symm, hc, hd, srt_all (cmpAt_ok ss M) _ hd, st_all (cmpAt_ok ss M) _ hd⟩
    · have h2 := sortF_no (M := M) hc hd
      rw [h2] at h
      injection h with _ h; cases h
  · rw [sortF_bad hc] at h
    injection h with _ h
    exact absurd h hc
theorem cmpSrc_at {ss : List Src} {M i j : Nat} {s t : Src} (hc : listC ss (M : Int) = 0) (h1 : ss[i]? = some s) (h2 : ss[j]? = some t) : cmpSrcF s t (M : Int) = cmpAt ss M i j := by
  obtain ⟨ha, hm, _⟩ := listC_zero hc
  have o1 : okSrc s = true := List.all_eq_true.1 ha s (List.mem_of_getElem? h1)
  have o2 : okSrc t = true := List.all_eq_true.1 ha t (List.mem_of_getElem? h2)
  have e : code17 s t (M : Int) = 0 := by unfold code17; rw [o1, o2, inB_iff.2 hm]; rfl
  unfold cmpSrcF
  rw [if_pos e, cmpAt_eq h1 h2]; rfl
theorem sort_step {ss : List Src} {m : Int} {L : List Int} (h : sortF ss m = (L, 0)) {i : Nat} (hi : i + 1 < L.length) :
    ∃ (a b : Nat) (s t : Src) (x : Int), L[i]? = some (a : Int) ∧ L[i + 1]? = some (b : Int) ∧ ss[a]? = some s ∧ ss[b]? = some t ∧ cmpSrcF s t m = (x, 0) ∧ (x < 0 ∨ x = 0 ∧ a < b) := by
  obtain ⟨M, out, rfl, rfl, hc, hd, hs, st⟩ := sort_out h
  rw [natL_len] at hi
  have hi0 : i < out.length := by omega
  have m1 := (hs.mem out[i]).1 (List.getElem_mem hi0)
  have m2 := (hs.mem out[i + 1]).1 (List.getElem_mem hi)
  have p1 := List.pairwise_iff_getElem.1 hs.srt i (i + 1) hi0 hi (by omega)
  have p2 := List.pairwise_iff_getElem.1 st i (i + 1) hi0 hi (by omega)
  have nd := List.pairwise_iff_getElem.1 hs.nd i (i + 1) hi0 hi (by omega)
  have d := hd.both (cmpAt_ok ss M) m1 m2 nd
  refine ⟨out[i], out[i + 1], _, _, (cmpAt ss M out[i] out[i + 1]).1, natL_get (List.getElem?_eq_getElem hi0), natL_get (List.getElem?_eq_getElem hi), List.getElem?_eq_getElem m1, List.getElem?_eq_getElem m2, ?_, ?_⟩
  · rw [cmpSrc_at hc (List.getElem?_eq_getElem m1) (List.getElem?_eq_getElem m2)]
    exact Prod.ext rfl d
  · rcases Int.lt_or_eq_of_le p1 with q | q
    · exact .inl q
    · exact .inr ⟨q, p2 q⟩
theorem sort_least {ss : List Src} {m x c : Int} {L : List Int} (h : sortF ss m = (L, 0)) (h2 : leastF ss m = (x, c)) : L = [] ∨ (c = 0 ∧ ∃ r, L = x :: r) := by
  obtain ⟨M, out, rfl, rfl, hc, hd, hs, st⟩ := sort_out h
  unfold leastF at h2
  rw [if_pos hc] at h2
  by_cases h0 : ss.length = 0
  · left
    have := hs.len
    rw [List.eq_nil_of_length_eq_zero (l := out) (by omega)]; rfl
  · right
    rw [if_neg h0, Int.toNat_natCast] at h2
    obtain ⟨b, e, hb, hF⟩ := leastG_fst (cmpAt_ok ss M) hd (ss.length - 1) 1 0 (by omega) (by omega) (fun j hj hne => by omega)
    rw [e] at h2
    injection h2 with h3 h4
    obtain ⟨r, hr⟩ := fst_head (cmpAt_ok ss M) hs st hb hF
    exact ⟨h4.symm, natL r, by rw [hr, ← h3]; rfl⟩

end Go.Proofs.Ytgkelemfbmmgnaa

/- The laws' equality of lists of numbers. Each theorem names its conditions. -/
namespace Go.Proofs.Ytgkelemfbmmgnaa
open Go.RowKit
set_option linter.unusedVariables false
set_option linter.unusedSimpArgs false

set_option maxHeartbeats 400000 in
theorem f6ints_any (va vb : Value) (xs ys : List Int) (w : World) (ha : Sl w va xs) (hb : Sl w vb ys) :
    Calls Try.prog 20 #[va, vb] w fun e w' => e = .returned (.bool (decide (xs = ys))) ∧ Drawn w w' := by
  have la := ha.len
  have lb := hb.len
  obtain ⟨a, ca, rfl, h1, h2, h3, h4, h5⟩ := ha
  obtain ⟨b, cb, rfl, g1, g2, g3, g4, g5⟩ := hb
  by_cases hl : xs.length = ys.length
  · have hne : ((xs.length : Int) != (ys.length : Int)) = false := by simp [hl]
    have HL := Lib.hid hl
    have hle : xs.length ≤ ys.length := by omega
    clear hl
    go_enter Try.func20, Try.ntmps20
    go_wp2
    go_loopw [5] (fun i wr => ∃ k : Nat, k ≤ xs.length ∧ i = .int .i64 k ∧ xs.take k = ys.take k ∧ Drawn w wr) (fun i _ => xs.length - (intOf i).toNat)
    case atStart => exact ⟨0, Nat.zero_le _, rfl, by simp, Drawn.refl _⟩
    case round =>
      obtain ⟨k, hk, rfl, ht, nd, rfl⟩ := hrel
      have HT := Lib.hid ht
      clear ht
      by_cases hlt : k < xs.length
      · rcases h5 with h5 | ⟨p, o, rfl, hc⟩
        · have : xs.length = 0 := by rw [h5]; rfl
          omega
        rcases g5 with g5 | ⟨q, r, rfl, gc⟩
        · have : ys.length = 0 := by rw [g5]; rfl
          omega
        obtain ⟨x, hx⟩ : ∃ x, xs[k]? = some x := ⟨_, List.getElem?_eq_getElem hlt⟩
        obtain ⟨y, hy⟩ : ∃ y, ys[k]? = some y := ⟨_, List.getElem?_eq_getElem (by omega)⟩
        have c1 : w.cell? ⟨p, o + k, none⟩ = some (.int .i64 x) := hc k x hx
        have c2 : w.cell? ⟨q, r + k, none⟩ = some (.int .i64 y) := gc k y hy
        have HX := Lib.hid hx
        have HY := Lib.hid hy
        have hkys : k < ys.length := by omega
        clear hx hy hc gc h3 g3 h4 g4
        by_cases hxy : x = y
        · subst hxy
          have hn : (x != x) = false := by simp
          go_wp2
          go_quiet (fail)
          go_wp2
          go_roundw
          case rel => exact ⟨k + 1, by omega, by go_num, by rw [List.take_add_one, List.take_add_one, HT.out, HX.out, HY.out], _, rfl⟩
          case measure => simp [intOf]; omega
        · have hn : (x != y) = true := by simp [hxy]
          go_wp2
          go_quiet (fail)
          go_wp2
          go_ret
          exact ⟨ret_bool (by
            refine (decide_eq_false ?_).symm
            intro e
            rw [e] at HX
            exact hxy (Option.some.inj (HX.out.symm.trans HY.out))), Drawn.more ⟨nd, rfl⟩ _⟩
      · go_wp2
        go_ret
        exact ⟨ret_bool (by
          refine (decide_eq_true ?_).symm
          have e := HT.out
          rw [List.take_of_length_le (by omega), List.take_of_length_le (by have := HL.out; omega)] at e
          exact e), nd, rfl⟩
  · have hne : ((xs.length : Int) != (ys.length : Int)) = true := by simp; omega
    go_enter Try.func20, Try.ntmps20
    go_wp2
    go_ret
    exact ⟨ret_bool (by refine (decide_eq_false ?_).symm; intro e; rw [e] at hl; exact hl rfl), Drawn.refl _⟩


end Go.Proofs.Ytgkelemfbmmgnaa

