/- Some of the texts of this claim, joined in one file: LsC, Ls. -/
import Derived.Test.YtgkelemfbmmgnaaMO4
/- Lists of sources: the least one. Each theorem names its conditions. -/
namespace Go.Proofs.Ytgkelemfbmmgnaa
open Go.RowKit
set_option linter.unusedVariables false
set_option linter.unusedSimpArgs false

/-- The code of a list of sources. -/
noncomputable def listC (ss : List Src) (m : Int) : Int := if ss.all okSrc then (if inB m 1 1000 && decide (ss.length ≤ 50) then 0 else 2) else 1
theorem all_more {ss : List Src} {k : Nat} {s : Src} (h : (ss.take k).all okSrc = true) (hs : ss[k]? = some s) (ho : okSrc s = true) : (ss.take (k + 1)).all okSrc = true := by
  rw [List.take_add_one, hs, List.all_append, h]
  simp [ho]
theorem all_not {ss : List Src} {k : Nat} {s : Src} (hs : ss[k]? = some s) (ho : okSrc s = false) : ss.all okSrc = false := by
  rw [← Bool.not_eq_true, List.all_eq_true]
  intro h
  have := h s (List.mem_of_getElem? hs)
  rw [ho] at this
  cases this
theorem listC_1 {ss : List Src} {m : Int} (h : ss.all okSrc = false) : listC ss m = 1 := by simp only [listC, h]; rfl
theorem listC_2 {ss : List Src} {m : Int} (h : ss.all okSrc = true) (h2 : inB m 1 1000 = false) : listC ss m = 2 := by simp only [listC, h, h2]; rfl
theorem listC_3 {ss : List Src} {m : Int} (h : ss.all okSrc = true) (h2 : 50 < ss.length) : listC ss m = 2 := by
  have e : decide (ss.length ≤ 50) = false := decide_eq_false (by omega)
  simp only [listC, h, e, Bool.and_false]; rfl
theorem listC_0 {ss : List Src} {m : Int} (h : ss.all okSrc = true) (h2 : inB m 1 1000 = true) (h3 : ss.length ≤ 50) : listC ss m = 0 := by
  have e : decide (ss.length ≤ 50) = true := decide_eq_true h3
  simp only [listC, h, h2, e]; rfl
theorem listC_zero {ss : List Src} {m : Int} (h : listC ss m = 0) : ss.all okSrc = true ∧ (1 ≤ m ∧ m ≤ 1000) ∧ ss.length ≤ 50 := by
  cases h1 : ss.all okSrc with
  | false => rw [listC_1 h1] at h; cases h
  | true =>
    cases h2 : inB m 1 1000 with
    | false => rw [listC_2 h1 h2] at h; cases h
    | true =>
      refine ⟨rfl, inB_iff.1 h2, ?_⟩
      rcases Nat.lt_or_ge 50 ss.length with g | g
      · rw [listC_3 h1 g] at h; cases h
      · exact g
theorem all_ok {ss : List Src} {k : Nat} {s : Src} (h : ss.all okSrc = true) (hs : ss[k]? = some s) : OkSrc s := okSrc_iff.1 (List.all_eq_true.1 h s (List.mem_of_getElem? hs))
/-- How two of them compare. -/
def srcAt (ss : List Src) (i : Nat) : Src := ss.getD i ⟨[], [], []⟩
def cmpAt (ss : List Src) (M : Nat) (i j : Nat) : Int × Int := cmpP (plainS (srcAt ss i)) (plainS (srcAt ss j)) M
theorem cmpAt_eq {ss : List Src} {M i j : Nat} {s t : Src} (h1 : ss[i]? = some s) (h2 : ss[j]? = some t) : cmpAt ss M i j = cmpP (plainS s) (plainS t) M := by
  unfold cmpAt srcAt
  rw [List.getD_eq_getElem?_getD, List.getD_eq_getElem?_getD, h1, h2]; rfl
def leastG (f : Nat → Nat → Int × Int) : Nat → Nat → Nat → Int × Int
  | 0, b, _ => ((b : Int), 0)
  | n + 1, b, i => if (f i b).2 = 0 then leastG f n (if (f i b).1 < 0 then i else b) (i + 1) else (0, (f i b).2)
noncomputable def leastF (ss : List Src) (m : Int) : Int × Int := if listC ss m = 0 then (if ss.length = 0 then (0, 3) else leastG (cmpAt ss m.toNat) (ss.length - 1) 0 1) else (0, listC ss m)
theorem least_stop {f : Nat → Nat → Int × Int} {r : Int × Int} {n b i : Nat} {c q : Int} (h : r = leastG f (n - i) b i) (hi : i < n) (hf : f i b = (c, q)) (hq : q ≠ 0) : r = (0, q) := by
  rw [h, show n - i = (n - (i + 1)) + 1 by omega, leastG, hf, if_neg hq]
theorem least_less {f : Nat → Nat → Int × Int} {r : Int × Int} {n b i : Nat} {c : Int} (h : r = leastG f (n - i) b i) (hi : i < n) (hf : f i b = (c, 0)) (hc : c < 0) : r = leastG f (n - (i + 1)) i (i + 1) := by
  rw [h, show n - i = (n - (i + 1)) + 1 by omega, leastG, hf, if_pos rfl, if_pos hc]
theorem least_keep {f : Nat → Nat → Int × Int} {r : Int × Int} {n b i : Nat} {c : Int} (h : r = leastG f (n - i) b i) (hi : i < n) (hf : f i b = (c, 0)) (hc : ¬ c < 0) : r = leastG f (n - (i + 1)) b (i + 1) := by
  rw [h, show n - i = (n - (i + 1)) + 1 by omega, leastG, hf, if_pos rfl, if_neg hc]
theorem least_end {f : Nat → Nat → Int × Int} {r : Int × Int} {n b i : Nat} (h : r = leastG f (n - i) b i) (hi : n ≤ i) : r = ((b : Int), 0) := by
  rw [h, show n - i = 0 by omega]; rfl
theorem shortOf_ok {h p g : Value} {s : Src} (w : World) (hs : SlS w h p g s) (ok : OkSrc s) :
    Calls Try.prog 42 #[.agg #[h, p, g]] w fun e w' => ∃ a1 n1 c1 a2 n2 c2 a3 n3 c3 a4 n4 c4 b, e = .returned (.agg #[.slice a1 n1 c1, .slice a2 n2 c2, .slice a3 n3 c3, .slice a4 n4 c4, .bool b]) ∧ ShS w' a1 n1 c1 a2 n2 c2 a3 n3 c3 a4 n4 c4 b (plainS s) ∧ Bl w w' := shortOf_any h p g s w hs ok
theorem compareBy_eq {ax1 : Option Addr} {nx1 cx1 : Nat} {ax2 : Option Addr} {nx2 cx2 : Nat} {ax3 : Option Addr} {nx3 cx3 : Nat} {ax4 : Option Addr} {nx4 cx4 : Nat} {bx : Bool} {s : Src} {ay1 : Option Addr} {ny1 cy1 : Nat} {ay2 : Option Addr} {ny2 cy2 : Nat} {ay3 : Option Addr} {ny3 cy3 : Nat} {ay4 : Option Addr} {ny4 cy4 : Nat} {by_ : Bool} {t : Src} {m : Nat} {c q : Int} (he : cmpP s t m = (c, q)) (w : World) (hs : ShS w ax1 nx1 cx1 ax2 nx2 cx2 ax3 nx3 cx3 ax4 nx4 cx4 bx s) (ht : ShS w ay1 ny1 cy1 ay2 ny2 cy2 ay3 ny3 cy3 ay4 ny4 cy4 by_ t) (hm : m ≤ 1000000) :
    Calls Try.prog 41 #[.agg #[.slice ax1 nx1 cx1, .slice ax2 nx2 cx2, .slice ax3 nx3 cx3, .slice ax4 nx4 cx4, .bool bx], .agg #[.slice ay1 ny1 cy1, .slice ay2 ny2 cy2, .slice ay3 ny3 cy3, .slice ay4 ny4 cy4, .bool by_], .int .i64 m] w fun e w' => e = .returned (.tuple #[.int .i64 c, .int .i64 q]) ∧ Bl w w' :=
  (compareBy_any _ _ _ _ _ _ _ _ _ _ _ _ _ s _ _ _ _ _ _ _ _ _ _ _ _ _ t m w hs ht hm).mono fun e w' z => by rw [he] at z; exact z
theorem scompare_eqP {hx px gx : Value} {s : Src} {hy py gy : Value} {t : Src} {m : Nat} {c q : Int} (he : cmpP (plainS s) (plainS t) m = (c, q)) (w : World) (bx ox by_ oy : Nat) (hs : SlS w hx px gx s) (ht : SlS w hy py gy t) (Bx0 : P3 w bx ox hx px gx) (By0 : P3 w by_ oy hy py gy) (os : OkSrc s) (ot : OkSrc t) (hm : m ≤ 1000000) :
    Calls Try.prog 44 #[.pointer (some ⟨bx, ox, none⟩), .pointer (some ⟨by_, oy, none⟩), .int .i64 m] w fun e w' => e = .returned (.tuple #[.int .i64 c, .int .i64 q]) ∧ Bl w w' :=
  (scompare_anyP hx px gx s hy py gy t m w bx ox by_ oy hs ht Bx0 By0 os.okPer ot.okPer os.hb ot.hb hm).mono fun e w' z => by rw [he] at z; exact z
theorem svalid_eqP {h p g : Value} {s : Src} {b : Bool} (e : okSrc s = b) (w : World) (x o : Nat) (ha : SlS w h p g s) (hx : P3 w x o h p g) : Calls Try.prog 50 #[.pointer (some ⟨x, o, none⟩)] w fun e w' => e = .returned (.bool b) ∧ Bl w w' := e ▸ svalid_anyP h p g s w x o ha hx
set_option maxRecDepth 100000 in
set_option maxHeartbeats 1600000 in
theorem icheck_any (va : Value) (ss : List Src) (m : Int) (w : World) (ha : SlL w va ss) :
    Calls Try.prog 46 #[va, .int .i64 m] w fun e w' => e = .returned (.int .i64 (listC ss m)) ∧ Bl w w' := by
  have hl := ha.len
  obtain ⟨a, c, rfl, hc⟩ := ha.form
  have HA := Lib.hid ha
  clear ha
  go_enter Try.func46, Try.ntmps46
  go_wp2
  go_loopw [9] (fun i wr => ∃ k : Nat, k ≤ ss.length ∧ i = .int .i64 k ∧ Hid ((ss.take k).all okSrc = true) ∧ Bl w wr) (fun i _ => ss.length - (intOf i).toNat)
  case atStart => exact ⟨0, Nat.zero_le _, rfl, Lib.hid (by simp), bl_refl _⟩
  case round =>
    obtain ⟨k, hk, rfl, HT, hB⟩ := hrel
    by_cases hlt : k < ss.length
    · obtain ⟨b, o, rfl, h, p, g, s, hs, x3, xs⟩ := HA.out.at hB hlt
      obtain ⟨ah, ch, rfl, _⟩ := xs.1.form
      obtain ⟨ap, cp, rfl, _⟩ := xs.2.1.form
      obtain ⟨ag, cg, rfl, _⟩ := xs.2.2.form
      have HS := Lib.hid hs
      have HX := Lib.hid x3
      obtain ⟨cx, cx1, cx2⟩ := x3
      clear hs
      cases e : okSrc s with
      | false =>
        have E := Lib.hid e
        have HR := Lib.hid (listC_1 (m := m) (all_not HS.out e))
        clear e
        go_wp2_with fail
        refine (ivalid_eqL E.out _ (xs.alloc _)).mono ?_
        rintro e w1 ⟨rfl, hb1⟩
        have B1 : Bl w w1 := bl_call (bl_alloc hB _) hb1
        go_wp2
        go_ret
        exact ⟨ret_int HR.out.symm, B1⟩
      | true =>
        have E := Lib.hid e
        have HT2 := Lib.hid (all_more HT.out HS.out e)
        clear e
        go_wp2_with fail
        refine (ivalid_eqL E.out _ (xs.alloc _)).mono ?_
        rintro e w1 ⟨rfl, hb1⟩
        have B1 : Bl w w1 := bl_call (bl_alloc hB _) hb1
        go_wp2
        go_roundw
        case rel => exact ⟨k + 1, by omega, by go_num, HT2, B1⟩
        case measure => simp only [intOf]; omega
    · have HALL := Lib.hid (show ss.all okSrc = true by have := HT.out; rw [List.take_of_length_le (by omega)] at this; exact this)
      cases e3 : inB m 1 1000 with
      | false =>
        have E3 := Lib.hid e3
        have HR := Lib.hid (listC_2 HALL.out e3)
        clear e3
        go_wp2_with fail
        refine (isMost_eq E3.out _).mono ?_
        rintro e w9 ⟨rfl, rfl⟩
        go_wp2
        go_ret
        exact ⟨ret_int HR.out.symm, hB⟩
      | true =>
        have E3 := Lib.hid e3
        rcases Nat.lt_or_ge 50 ss.length with hg | hg
        · have HR := Lib.hid (listC_3 (m := m) HALL.out hg)
          have hg1 : (50 : Int) < (ss.length : Int) := by omega
          clear e3
          go_wp2_with fail
          refine (isMost_eq E3.out _).mono ?_
          rintro e w9 ⟨rfl, rfl⟩
          go_wp2
          go_ret
          exact ⟨ret_int HR.out.symm, hB⟩
        · have HR := Lib.hid (listC_0 HALL.out e3 hg)
          have hg1 : ¬ (50 : Int) < (ss.length : Int) := by omega
          clear e3
          go_wp2_with fail
          refine (isMost_eq E3.out _).mono ?_
          rintro e w9 ⟨rfl, rfl⟩
          go_wp2
          go_ret
          exact ⟨ret_int HR.out.symm, hB⟩
theorem icheck_eq {va : Value} {ss : List Src} {m c : Int} (he : listC ss m = c) (w : World) (ha : SlL w va ss) : Calls Try.prog 46 #[va, .int .i64 m] w fun e w' => e = .returned (.int .i64 c) ∧ Bl w w' := he ▸ icheck_any va ss m w ha
set_option maxRecDepth 100000 in
set_option maxHeartbeats 1600000 in
theorem scheck_any (va : Value) (ss : List Src) (m : Int) (w : World) (ha : SlL w va ss) :
    Calls Try.prog 47 #[va, .int .i64 m] w fun e w' => e = .returned (.int .i64 (listC ss m)) ∧ Bl w w' := by
  have hl := ha.len
  obtain ⟨a, c, rfl, hc⟩ := ha.form
  have HA := Lib.hid ha
  clear ha
  go_enter Try.func47, Try.ntmps47
  go_wp2
  go_loopw [5] (fun i wr => ∃ k : Nat, k ≤ ss.length ∧ i = .int .i64 k ∧ Hid ((ss.take k).all okSrc = true) ∧ Bl w wr) (fun i _ => ss.length - (intOf i).toNat)
  case atStart => exact ⟨0, Nat.zero_le _, rfl, Lib.hid (by simp), bl_refl _⟩
  case round =>
    obtain ⟨k, hk, rfl, HT, hB⟩ := hrel
    by_cases hlt : k < ss.length
    · obtain ⟨b, o, rfl, h, p, g, s, hs, x3, xs⟩ := HA.out.at hB hlt
      obtain ⟨ah, ch, rfl, _⟩ := xs.1.form
      obtain ⟨ap, cp, rfl, _⟩ := xs.2.1.form
      obtain ⟨ag, cg, rfl, _⟩ := xs.2.2.form
      have HS := Lib.hid hs
      have HX := Lib.hid x3
      obtain ⟨cx, cx1, cx2⟩ := x3
      clear hs
      cases e : okSrc s with
      | false =>
        have E := Lib.hid e
        have HR := Lib.hid (listC_1 (m := m) (all_not HS.out e))
        clear e
        go_wp2_with fail
        refine (svalid_eqP E.out _ _ _ xs HX.out).mono ?_
        rintro e w1 ⟨rfl, hb1⟩
        have B1 : Bl w w1 := bl_call hB hb1
        go_wp2
        go_ret
        exact ⟨ret_int HR.out.symm, B1⟩
      | true =>
        have E := Lib.hid e
        have HT2 := Lib.hid (all_more HT.out HS.out e)
        clear e
        go_wp2_with fail
        refine (svalid_eqP E.out _ _ _ xs HX.out).mono ?_
        rintro e w1 ⟨rfl, hb1⟩
        have B1 : Bl w w1 := bl_call hB hb1
        go_wp2
        go_roundw
        case rel => exact ⟨k + 1, by omega, by go_num, HT2, B1⟩
        case measure => simp only [intOf]; omega
    · have HALL := Lib.hid (show ss.all okSrc = true by have := HT.out; rw [List.take_of_length_le (by omega)] at this; exact this)
      cases e3 : inB m 1 1000 with
      | false =>
        have E3 := Lib.hid e3
        have HR := Lib.hid (listC_2 HALL.out e3)
        clear e3
        go_wp2_with fail
        refine (in_eq E3.out _).mono ?_
        rintro e w9 ⟨rfl, rfl⟩
        go_wp2
        go_ret
        exact ⟨ret_int HR.out.symm, hB⟩
      | true =>
        have E3 := Lib.hid e3
        rcases Nat.lt_or_ge 50 ss.length with hg | hg
        · have HR := Lib.hid (listC_3 (m := m) HALL.out hg)
          have hg1 : (50 : Int) < (ss.length : Int) := by omega
          clear e3
          go_wp2_with fail
          refine (in_eq E3.out _).mono ?_
          rintro e w9 ⟨rfl, rfl⟩
          go_wp2
          go_ret
          exact ⟨ret_int HR.out.symm, hB⟩
        · have HR := Lib.hid (listC_0 HALL.out e3 hg)
          have hg1 : ¬ (50 : Int) < (ss.length : Int) := by omega
          clear e3
          go_wp2_with fail
          refine (in_eq E3.out _).mono ?_
          rintro e w9 ⟨rfl, rfl⟩
          go_wp2
          go_ret
          exact ⟨ret_int HR.out.symm, hB⟩
theorem scheck_eq {va : Value} {ss : List Src} {m c : Int} (he : listC ss m = c) (w : World) (ha : SlL w va ss) : Calls Try.prog 47 #[va, .int .i64 m] w fun e w' => e = .returned (.int .i64 c) ∧ Bl w w' := he ▸ scheck_any va ss m w ha

end Go.Proofs.Ytgkelemfbmmgnaa

/- Lists of sources: the least one. Each theorem names its conditions. -/
namespace Go.Proofs.Ytgkelemfbmmgnaa
open Go.RowKit
set_option linter.unusedVariables false
set_option linter.unusedSimpArgs false


set_option maxRecDepth 100000 in
set_option maxHeartbeats 3200000 in
theorem impl_LeastSource (va : Value) (ss : List Src) (m : Int) (w : World) (ha : SlL w va ss) :
    Calls Try.prog 12 #[va, .int .i64 m] w fun e w' => e = .returned (.tuple #[.int .i64 (leastF ss m).1, .int .i64 (leastF ss m).2]) ∧ Bl w w' := by
  have hl := ha.len
  obtain ⟨a, c, rfl, hc⟩ := ha.form
  have HA := Lib.hid ha
  clear ha
  by_cases hz : listC ss m = 0
  · obtain ⟨hall, hm, hl50⟩ := listC_zero hz
    have HALL := Lib.hid hall
    have HZ := Lib.hid hz
    obtain ⟨M, rfl⟩ := Int.eq_ofNat_of_zero_le (show 0 ≤ m by omega)
    by_cases h0 : ss.length = 0
    · have HR := Lib.hid (show leastF ss (M : Int) = (0, 3) by rw [leastF, if_pos hz, if_pos h0])
      have h1 : ((ss.length : Int) == 0) = true := beq_iff_eq.2 (by omega)
      clear hall hz h0
      go_enter Try.func12, Try.ntmps12
      go_wp2_with fail
      refine (icheck_eq HZ.out _ HA.out).mono ?_
      rintro e w1 ⟨rfl, hb1⟩
      go_wp2
      go_ret2
      exact ⟨ret_ii2 HR.out, hb1⟩
    · have HR := Lib.hid (show leastF ss (M : Int) = leastG (cmpAt ss M) (ss.length - 1) 0 1 by rw [leastF, if_pos hz, if_neg h0, Int.toNat_natCast])
      have h1 : ((ss.length : Int) == 0) = false := beq_eq_false_iff_ne.2 (by omega)
      have hpos : 0 < ss.length := by omega
      clear hall hz h0
      go_enter Try.func12, Try.ntmps12
      go_wp2_with fail
      refine (icheck_eq HZ.out _ HA.out).mono ?_
      rintro e w1 ⟨rfl, hb1⟩
      go_wp2
      go_loopw [7, 8] (fun s7 s8 wr => ∃ b i : Nat, s7 = .int .i64 b ∧ s8 = .int .i64 i ∧ b < ss.length ∧ 1 ≤ i ∧ i ≤ ss.length ∧ Hid (leastF ss (M : Int) = leastG (cmpAt ss M) (ss.length - i) b i) ∧ Bl w wr) (fun _ s8 _ => ss.length - (intOf s8).toNat)
      case atStart => exact ⟨0, 1, rfl, rfl, hpos, Nat.le_refl _, hpos, HR, hb1⟩
      case round =>
        obtain ⟨b, i, rfl, rfl, hbl, hi1, hi2, HG, hB⟩ := hrel
        by_cases hlt : i < ss.length
        · obtain ⟨pb, po, rfl, h, p, g, s, hs, x3, xs⟩ := HA.out.at hB hlt
          obtain ⟨t, ht⟩ : ∃ t, ss[b]? = some t := ⟨_, List.getElem?_eq_getElem hbl⟩
          obtain ⟨h', p', g', y3, ys⟩ := HA.out.atR hB ht
          obtain ⟨cc, q, hcq⟩ : ∃ cc q, cmpP (plainS s) (plainS t) M = (cc, q) := ⟨_, _, rfl⟩
          have HC := Lib.hid hcq
          have HF := Lib.hid (show cmpAt ss M i b = (cc, q) by rw [cmpAt_eq hs ht]; exact hcq)
          have HK1 := Lib.hid (all_ok HALL.out hs)
          have HK2 := Lib.hid (all_ok HALL.out ht)
          have HX := Lib.hid x3
          have HY := Lib.hid y3
          have HXS := Lib.hid xs
          have HYS := Lib.hid ys
          obtain ⟨cx, cx1, cx2⟩ := x3
          obtain ⟨cy, cy1, cy2⟩ := y3
          clear hs ht hcq xs ys
          go_wp2_with fail
          go_region_held3 (fun w' => w'.cell? ⟨pb, po + i * 3, none⟩ = some h ∧ w'.cell? ⟨pb, po + i * 3 + 1, none⟩ = some p ∧ w'.cell? ⟨pb, po + i * 3 + 2, none⟩ = some g ∧ w'.cell? ⟨pb, po + b * 3, none⟩ = some h' ∧ w'.cell? ⟨pb, po + b * 3 + 1, none⟩ = some p' ∧ w'.cell? ⟨pb, po + b * 3 + 2, none⟩ = some g') (first | (simp [*]; done) | (go_simp; done) | go_keep)
            (first | (go_at_call_of 42 (h); go_must (refine (shortOf_ok _ (HXS.out.drew) HK1.out).mono ?_; rintro e w3 ⟨ax1, nx1, cx1', ax2, nx2, cx2', ax3, nx3, cx3, ax4, nx4, cx4, fx, rfl, HP, hb3⟩; have HX := Lib.hid HX.out.drew; have HY := Lib.hid HY.out.drew; have B3 : Bl w w3 := bl_call (bl_drew hB) hb3; have HX := Lib.hid (HX.out.below hb3); have HY := Lib.hid (HY.out.below hb3); clear cx cx1 cx2 cy cy1 cy2; obtain ⟨cx, cx1, cx2⟩ := HX.out; obtain ⟨cy, cy1, cy2⟩ := HY.out)) | (go_at_call_of 42 (h'); go_must (refine (shortOf_ok _ ((HYS.out.drew).below hb3) HK2.out).mono ?_; rintro e w4 ⟨ay1, ny1, cy1', ay2, ny2, cy2', ay3, ny3, cy3, ay4, ny4, cy4, fy, rfl, HQ, hb4⟩; have B4 : Bl w w4 := bl_call B3 hb4; have HX := Lib.hid (HX.out.below hb4); have HY := Lib.hid (HY.out.below hb4); clear cx cx1 cx2 cy cy1 cy2; obtain ⟨cx, cx1, cx2⟩ := HX.out; obtain ⟨cy, cy1, cy2⟩ := HY.out)) | (go_at_call 41; go_must (refine (compareBy_eq HC.out _ (HP.below hb4) HQ (by omega)).mono ?_; rintro e w5 ⟨rfl, hb5⟩; have B5 : Bl w w5 := bl_call B4 hb5; have HX := Lib.hid (HX.out.below hb5); have HY := Lib.hid (HY.out.below hb5); clear cx cx1 cx2 cy cy1 cy2; obtain ⟨cx, cx1, cx2⟩ := HX.out; obtain ⟨cy, cy1, cy2⟩ := HY.out)))
          by_cases hq : q = 0
          · subst hq
            by_cases hcc : cc < 0
            · have HN := Lib.hid (least_less HG.out hlt HF.out hcc)
              go_wp2
              go_roundw
              case rel => exact ⟨i, i + 1, rfl, by go_num, hlt, by omega, by omega, HN, B5⟩
              case measure => simp only [intOf]; omega
            · have HN := Lib.hid (least_keep HG.out hlt HF.out hcc)
              go_wp2
              go_roundw
              case rel => exact ⟨b, i + 1, rfl, by go_num, hbl, by omega, by omega, HN, B5⟩
              case measure => simp only [intOf]; omega
          · have HN := Lib.hid (least_stop HG.out hlt HF.out hq)
            have hq1 : (q != 0) = true := bne_iff_ne.2 hq
            go_wp2
            go_ret2
            exact ⟨ret_ii2 HN.out, B5⟩
        · have HN := Lib.hid (least_end HG.out (by omega))
          go_wp2
          go_ret2
          exact ⟨ret_ii2 HN.out, hB⟩
  · have HR := Lib.hid (show leastF ss m = (0, listC ss m) by rw [leastF, if_neg hz])
    have hz1 : (listC ss m != 0) = true := bne_iff_ne.2 hz
    have hz2 : (listC ss m == 0) = false := beq_eq_false_iff_ne.2 hz
    clear hz
    generalize hcc : listC ss m = cc at *
    have HZ := Lib.hid hcc
    clear hcc
    go_enter Try.func12, Try.ntmps12
    go_wp2_with fail
    refine (icheck_eq HZ.out _ HA.out).mono ?_
    rintro e w1 ⟨rfl, hb1⟩
    go_wp2
    go_ret2
    exact ⟨ret_ii2 HR.out, hb1⟩

set_option maxRecDepth 100000 in
set_option maxHeartbeats 3200000 in
theorem spec_LeastSource (va : Value) (ss : List Src) (m : Int) (w : World) (ha : SlL w va ss) :
    Calls Try.prog 13 #[va, .int .i64 m] w fun e w' => e = .returned (.tuple #[.int .i64 (leastF ss m).1, .int .i64 (leastF ss m).2]) ∧ Bl w w' := by
  have hl := ha.len
  obtain ⟨a, c, rfl, hc⟩ := ha.form
  have HA := Lib.hid ha
  clear ha
  by_cases hz : listC ss m = 0
  · obtain ⟨hall, hm, hl50⟩ := listC_zero hz
    have HALL := Lib.hid hall
    have HZ := Lib.hid hz
    obtain ⟨M, rfl⟩ := Int.eq_ofNat_of_zero_le (show 0 ≤ m by omega)
    by_cases h0 : ss.length = 0
    · have HR := Lib.hid (show leastF ss (M : Int) = (0, 3) by rw [leastF, if_pos hz, if_pos h0])
      have h1 : ((ss.length : Int) == 0) = true := beq_iff_eq.2 (by omega)
      clear hall hz h0
      go_enter Try.func13, Try.ntmps13
      go_wp2_with fail
      refine (scheck_eq HZ.out _ HA.out).mono ?_
      rintro e w1 ⟨rfl, hb1⟩
      go_wp2
      go_ret2
      exact ⟨ret_ii2 HR.out, hb1⟩
    · have HR := Lib.hid (show leastF ss (M : Int) = leastG (cmpAt ss M) (ss.length - 1) 0 1 by rw [leastF, if_pos hz, if_neg h0, Int.toNat_natCast])
      have h1 : ((ss.length : Int) == 0) = false := beq_eq_false_iff_ne.2 (by omega)
      have hpos : 0 < ss.length := by omega
      clear hall hz h0
      go_enter Try.func13, Try.ntmps13
      go_wp2_with fail
      refine (scheck_eq HZ.out _ HA.out).mono ?_
      rintro e w1 ⟨rfl, hb1⟩
      go_wp2
      go_loopw [7, 8] (fun s7 s8 wr => ∃ b i : Nat, s7 = .int .i64 b ∧ s8 = .int .i64 i ∧ b < ss.length ∧ 1 ≤ i ∧ i ≤ ss.length ∧ Hid (leastF ss (M : Int) = leastG (cmpAt ss M) (ss.length - i) b i) ∧ Bl w wr) (fun _ s8 _ => ss.length - (intOf s8).toNat)
      case atStart => exact ⟨0, 1, rfl, rfl, hpos, Nat.le_refl _, hpos, HR, hb1⟩
      case round =>
        obtain ⟨b, i, rfl, rfl, hbl, hi1, hi2, HG, hB⟩ := hrel
        by_cases hlt : i < ss.length
        · obtain ⟨pb, po, rfl, h, p, g, s, hs, x3, xs⟩ := HA.out.at hB hlt
          obtain ⟨t, ht⟩ : ∃ t, ss[b]? = some t := ⟨_, List.getElem?_eq_getElem hbl⟩
          obtain ⟨h', p', g', y3, ys⟩ := HA.out.atR hB ht
          obtain ⟨cc, q, hcq⟩ : ∃ cc q, cmpP (plainS s) (plainS t) M = (cc, q) := ⟨_, _, rfl⟩
          have HC := Lib.hid hcq
          have HF := Lib.hid (show cmpAt ss M i b = (cc, q) by rw [cmpAt_eq hs ht]; exact hcq)
          have HK1 := Lib.hid (all_ok HALL.out hs)
          have HK2 := Lib.hid (all_ok HALL.out ht)
          have HX := Lib.hid x3
          have HY := Lib.hid y3
          have HXS := Lib.hid xs
          have HYS := Lib.hid ys
          obtain ⟨cx, cx1, cx2⟩ := x3
          obtain ⟨cy, cy1, cy2⟩ := y3
          clear hs ht hcq xs ys
          go_wp2_with fail
          go_region_held3 (fun w' => w'.cell? ⟨pb, po + i * 3, none⟩ = some h ∧ w'.cell? ⟨pb, po + i * 3 + 1, none⟩ = some p ∧ w'.cell? ⟨pb, po + i * 3 + 2, none⟩ = some g ∧ w'.cell? ⟨pb, po + b * 3, none⟩ = some h' ∧ w'.cell? ⟨pb, po + b * 3 + 1, none⟩ = some p' ∧ w'.cell? ⟨pb, po + b * 3 + 2, none⟩ = some g') (first | (simp [*]; done) | (go_simp; done) | go_keep)
            ((go_at_call 44; refine (scompare_eqP HC.out _ _ _ _ _ (HXS.out.drew) (HYS.out.drew) HX.out.drew HY.out.drew HK1.out HK2.out (by omega)).mono ?_; rintro e w5 ⟨rfl, hb5⟩; have B5 : Bl w w5 := bl_call (bl_drew hB) hb5; have HX := Lib.hid (HX.out.drew.below hb5); have HY := Lib.hid (HY.out.drew.below hb5); clear cx cx1 cx2 cy cy1 cy2; obtain ⟨cx, cx1, cx2⟩ := HX.out; obtain ⟨cy, cy1, cy2⟩ := HY.out))
          by_cases hq : q = 0
          · subst hq
            by_cases hcc : cc < 0
            · have HN := Lib.hid (least_less HG.out hlt HF.out hcc)
              go_wp2
              go_roundw
              case rel => exact ⟨i, i + 1, rfl, by go_num, hlt, by omega, by omega, HN, B5⟩
              case measure => simp only [intOf]; omega
            · have HN := Lib.hid (least_keep HG.out hlt HF.out hcc)
              go_wp2
              go_roundw
              case rel => exact ⟨b, i + 1, rfl, by go_num, hbl, by omega, by omega, HN, B5⟩
              case measure => simp only [intOf]; omega
          · have HN := Lib.hid (least_stop HG.out hlt HF.out hq)
            have hq1 : (q != 0) = true := bne_iff_ne.2 hq
            go_wp2
            go_ret2
            exact ⟨ret_ii2 HN.out, B5⟩
        · have HN := Lib.hid (least_end HG.out (by omega))
          go_wp2
          go_ret2
          exact ⟨ret_ii2 HN.out, hB⟩
  · have HR := Lib.hid (show leastF ss m = (0, listC ss m) by rw [leastF, if_neg hz])
    have hz1 : (listC ss m != 0) = true := bne_iff_ne.2 hz
    have hz2 : (listC ss m == 0) = false := beq_eq_false_iff_ne.2 hz
    clear hz
    generalize hcc : listC ss m = cc at *
    have HZ := Lib.hid hcc
    clear hcc
    go_enter Try.func13, Try.ntmps13
    go_wp2_with fail
    refine (scheck_eq HZ.out _ HA.out).mono ?_
    rintro e w1 ⟨rfl, hb1⟩
    go_wp2
    go_ret2
    exact ⟨ret_ii2 HR.out, hb1⟩

end Go.Proofs.Ytgkelemfbmmgnaa

