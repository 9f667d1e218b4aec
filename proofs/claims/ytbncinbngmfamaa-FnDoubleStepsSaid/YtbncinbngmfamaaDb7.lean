/- Functions of two numbers: the reference emits all that is known. Each theorem names its conditions. -/
import Derived.Test.YtbncinbngmfamaaDb6
import Derived.Test.YtbncinbngmfamaaDb4
namespace Go.Proofs.Ytbncinbngmfamaa
open Go.RowKit
set_option linter.unusedVariables false
set_option linter.unusedSimpArgs false


theorem semD_eq {d : Db} {t : Int} {b : Bool} (h : bdD (emD d t) = b) (w : World) (e : bdD d = true) (ht : -1000000000 ≤ t ∧ t ≤ 1000000000) : Calls Try.prog 161 #[.agg #[.int .i64 d.a, .int .i64 d.b, .int .i64 d.c, .int .i64 d.d, .int .i64 d.e, .int .i64 d.f, .int .i64 d.g, .int .i64 d.h], .int .i64 t] w fun e w' => e = .returned (.tuple #[.agg #[.int .i64 (emD d t).a, .int .i64 (emD d t).b, .int .i64 (emD d t).c, .int .i64 (emD d t).d, .int .i64 (emD d t).e, .int .i64 (emD d t).f, .int .i64 (emD d t).g, .int .i64 (emD d t).h], .bool b]) ∧ Bl w w' := h ▸ semD_any d t w e ht
theorem okD_em {d : Db} {b : Bool} (h : bdD d = true) (he : enD d = b) : okD d = !b := by unfold okD; rw [h, he]; rfl
/-- What emission leaves in the reference's run. -/
def EmT (w : World) (p B : Nat) (ov : Value) (R : Option (Db × List Int × Bool)) (e : Ending) (w' : World) : Prop :=
  Upv w w' p ov ∧ e = .returned (.tuple #[]) ∧ match R with
    | none => ∃ (d1 : Db) (v1 : Value), Bx w' p #[.int .i64 d1.a, .int .i64 d1.b, .int .i64 d1.c, .int .i64 d1.d, .int .i64 d1.e, .int .i64 d1.f, .int .i64 d1.g, .int .i64 d1.h, v1, .bool false, .int .i64 5]
    | some (d', out', b) => ∃ v1 : Value, Bx w' p #[.int .i64 d'.a, .int .i64 d'.b, .int .i64 d'.c, .int .i64 d'.d, .int .i64 d'.e, .int .i64 d'.f, .int .i64 d'.g, .int .i64 d'.h, v1, .bool b, .int .i64 0] ∧ Own w' B v1 out' ∧ RowOf w ov v1
theorem emt_yes {w w' : World} {p B : Nat} {ov v1 : Value} {d1 : Db} {o1 : List Int} {b : Bool} {R : Option (Db × List Int × Bool)} (hR : R = some (d1, o1, b)) (hu : Upv w w' p ov) (hx : Bx w' p #[.int .i64 d1.a, .int .i64 d1.b, .int .i64 d1.c, .int .i64 d1.d, .int .i64 d1.e, .int .i64 d1.f, .int .i64 d1.g, .int .i64 d1.h, v1, .bool b, .int .i64 0]) (ho : Own w' B v1 o1) (hr : RowOf w ov v1) : EmT w p B ov R (.returned (.tuple #[])) w' := by
  subst hR
  exact ⟨hu, rfl, v1, hx, ho, hr⟩
theorem emt_no {w w' : World} {p B : Nat} {ov v1 : Value} {d1 : Db} {R : Option (Db × List Int × Bool)} (hR : R = none) (hu : Upv w w' p ov) (hx : Bx w' p #[.int .i64 d1.a, .int .i64 d1.b, .int .i64 d1.c, .int .i64 d1.d, .int .i64 d1.e, .int .i64 d1.f, .int .i64 d1.g, .int .i64 d1.h, v1, .bool false, .int .i64 5]) : EmT w p B ov R (.returned (.tuple #[])) w' := by
  subst hR
  exact ⟨hu, rfl, d1, v1, hx⟩

set_option maxRecDepth 100000 in
set_option maxHeartbeats 6400000 in
theorem semT_any {w : World} {p B : Nat} {d : Db} {ov : Value} {out : List Int} (hx : Bx w p #[.int .i64 d.a, .int .i64 d.b, .int .i64 d.c, .int .i64 d.d, .int .i64 d.e, .int .i64 d.f, .int .i64 d.g, .int .i64 d.h, ov, .bool false, .int .i64 0]) (ho : Own w B ov out) (hB : B ≤ w.heap.size) (hp : ov.ownBlock ≠ some p) (hb : bdD d = true) (hl : out.length ≤ 60) :
    Calls Try.prog 152 #[.pointer (some ⟨p, 0, none⟩)] w (EmT w p B ov (emitDF d out)) := by
  have hpw := hx.out.2.2
  obtain ⟨R, hR⟩ : ∃ R, emitDF d out = R := ⟨_, rfl⟩
  rw [hR]
  have HR := Lib.hid hR
  have HB := Lib.hid hb
  have HP := Lib.hid hp
  clear hR hb hp
  go_enter Try.func152, Try.ntmps152
  go_wp2_with fail
  go_loopg [2, 3, 4, 5] (61 - out.length) (fun n _ _ _ _ wr => ∃ (d1 : Db) (o1 : List Int) (v1 : Value) (bb : Bool), Bx wr p #[.int .i64 d1.a, .int .i64 d1.b, .int .i64 d1.c, .int .i64 d1.d, .int .i64 d1.e, .int .i64 d1.f, .int .i64 d1.g, .int .i64 d1.h, v1, .bool bb, .int .i64 0] ∧ Own wr B v1 o1 ∧ Hid (bb = false → emitDF d1 o1 = R) ∧ Hid (bb = true → R = some (d1, o1, true)) ∧ Hid (bdD d1 = true) ∧ o1.length ≤ 60 ∧ n + o1.length = 61 ∧ Hid (RowOf w ov v1) ∧ Upv w wr p ov)
  case atStart => exact ⟨d, out, ov, false, hx, ho, Lib.hid (fun _ => HR.out), Lib.hid (fun q => by cases q), HB, hl, by omega, Lib.hid (fun k h => .inl h), upv_refl _ _ _⟩
  case round =>
    obtain ⟨d1, o1, v1, bb, x1, h1, HEF, HET, HBB, hl1, hn, HRW, hu⟩ := hrel
    have HO := Lib.hid h1
    have HN := Lib.hid hn
    obtain ⟨va, vc, rfl, _⟩ := h1.form
    clear h1 hn
    have hpr := x1.out.2.2
    obtain ⟨c1, f1, _⟩ := x1.out
    have HNE := Lib.hid (own_ne HRW.out HP.out hpw)
    cases bb with
    | true =>
      have HE := Lib.hid (HET.out rfl)
      go_wp2
      go_end0
      exact emt_yes HE.out hu x1 HO.out HRW.out
    | false =>
      have HE := Lib.hid (HEF.out rfl)
      clear HEF HET
      cases hq : knD d1 with
      | none =>
        have HK := Lib.hid (knr_none hq)
        have HQ := Lib.hid (emd_none hl1 hq)
        clear hq
        go_wp2_with fail
        refine (sknD_at HK.out _ HBB.out).mono ?_
        rintro e w2 ⟨rfl, hb2⟩
        have x2 := x1.below hb2
        have HO2 := Lib.hid (HO.out.below hb2)
        have hu2 := upv_bl hu hb2
        clear c1 f1
        obtain ⟨c2, f2, _⟩ := x2.out
        go_wp2
        go_end0
        exact emt_yes (by rw [← HE.out, HQ.out]) hu2 x2 HO2.out HRW.out
      | some q =>
        have hqb := knD_bd HBB.out hq
        have HK := Lib.hid (knr_some hq)
        have HQ := Lib.hid hq
        clear hq
        go_wp2_with fail
        refine (sknD_at HK.out _ HBB.out).mono ?_
        rintro e w2 ⟨rfl, hb2⟩
        have x2 := x1.below hb2
        have HO2 := Lib.hid (HO.out.below hb2)
        have hu2 := upv_bl hu hb2
        clear c1 f1
        obtain ⟨c2, f2, _⟩ := x2.out
        cases hb6 : bdD (emD d1 q) with
        | false =>
          have E6 := Lib.hid hb6
          have HE2 := Lib.hid (show emitDF d1 o1 = none by by_cases h60 : o1.length = 60; exact emd_full h60 HQ.out; exact emd_big (by omega) HQ.out hb6)
          clear hb6
          go_wp2_with fail
          refine (semD_eq E6.out _ HBB.out hqb).mono ?_
          rintro e w3 ⟨rfl, hb3⟩
          have x3 := x2.below hb3
          have HO3 := Lib.hid (HO2.out.below hb3)
          have hu3 := upv_bl hu2 hb3
          clear c2 f2
          obtain ⟨c3, f3, z3⟩ := x3.out
          go_wp2
          go_end0
          exact emt_no (by rw [← HE.out, HE2.out]) (d1 := d1) (v1 := .slice va o1.length vc) (upv_bl (upv_upd hu3 (upd_set (upd_refl _ _) _ _)) (bl_alloc (bl_refl _) _)) ((x3.set 10 (.int .i64 5)).alloc _)
        | true =>
          have E6 := Lib.hid hb6
          clear hb6
          go_wp2_with fail
          refine (semD_eq E6.out _ HBB.out hqb).mono ?_
          rintro e w3 ⟨rfl, hb3⟩
          have x3 := x2.below hb3
          have HO3 := Lib.hid (HO2.out.below hb3)
          have hu3 := upv_bl hu2 hb3
          clear c2 f2
          obtain ⟨c3, f3, z3⟩ := x3.out
          by_cases h60 : o1.length = 60
          · have HE2 := Lib.hid (emd_full h60 HQ.out)
            have h60' : 60 ≤ o1.length := by omega
            clear h60
            go_wp2
            go_end0
            exact emt_no (by rw [← HE.out, HE2.out]) (d1 := d1) (v1 := .slice va o1.length vc) (upv_bl (upv_upd hu3 (upd_set (upd_refl _ _) _ _)) (bl_alloc (bl_refl _) _)) ((x3.set 10 (.int .i64 5)).alloc _)
          · have hl60 : o1.length < 60 := by omega
            clear h60
            have hsz2 := hu3.size
            go_wp2_with (at_builtin; refine wpList_append_one rfl _ _ rfl B _ o1 (by rfl) (HO3.out.alloc _) q (by unfold R64; omega) (by first | rfl | simp [Act.eval]) (by omega) (by simp; omega) ?_; intro v' wn ho hg hloc; obtain ⟨a1, n1, rfl, _⟩ := ho.form; have xN := (x3.alloc _).grownApartF hg (fun q => HNE.out q); have xB := (Bx.new w3 #[.int .i64 (emD d1 q).a, .int .i64 (emD d1 q).b, .int .i64 (emD d1 q).c, .int .i64 (emD d1 q).d, .int .i64 (emD d1 q).e, .int .i64 (emD d1 q).f, .int .i64 (emD d1 q).g, .int .i64 (emD d1 q).h] 26 rfl).grownApartF hg (fun e => by have := (HO3.out.lt _ e).2; omega); have zNB : w3.heap.size < wn.heap.size := (by have := hg.size; simp at this; omega); clear c3 f3 z3; obtain ⟨cN, fN, zN⟩ := xN.out; obtain ⟨cB, fB, zB⟩ := xB.out)
            have hlen : (o1 ++ [q]).length = o1.length + 1 := by simp
            have huN := upv_row (upv_bl hu3 (bl_alloc (bl_refl _) _)) hg HRW.out
            rw [hlen] at ho hloc
            clear hlen
            have hRW3 : RowOf w ov (.slice a1 (o1.length + 1) n1) := fun k hk => by
              rcases hloc with e | e
              · exact HRW.out k (e ▸ hk)
              · rw [e] at hk; injection hk with hk; right; simp at hk; omega
            have HRW3 := Lib.hid hRW3
            have HNE3 := Lib.hid (own_ne HRW3.out HP.out hpw)
            have HO4 := Lib.hid ho
            clear hg hloc ho hRW3
            obtain ⟨b0, he⟩ : ∃ b0, enD (emD d1 q) = b0 := ⟨_, rfl⟩
            have HOK := Lib.hid (okD_em E6.out he)
            have HDN := Lib.hid (show b0 = false → emitDF (emD d1 q) (o1 ++ [q]) = R from fun e0 => by rw [← emd_step hl60 HQ.out E6.out (he.trans e0)]; exact HE.out)
            have HDT := Lib.hid (show b0 = true → R = some (emD d1 q, o1 ++ [q], true) from fun e0 => by rw [← HE.out, emd_done hl60 HQ.out E6.out (he.trans e0)])
            clear he
            go_wp2_with fail
            refine (sokD_eq HOK.out _).mono ?_
            rintro e w5 ⟨rfl, hb5⟩
            have uW := (upd_set (upd_set (upd_set (upd_set (upd_set (upd_set (upd_set (upd_set (upd_set (upd_refl wn p) 8 (.slice a1 (o1.length + 1) n1)) 0 (.int .i64 (emD d1 q).a)) 1 (.int .i64 (emD d1 q).b)) 2 (.int .i64 (emD d1 q).c)) 3 (.int .i64 (emD d1 q).d)) 4 (.int .i64 (emD d1 q).e)) 5 (.int .i64 (emD d1 q).f)) 6 (.int .i64 (emD d1 q).g)) 7 (.int .i64 (emD d1 q).h))
            have xW := (((((((((xN.set 8 (.slice a1 (o1.length + 1) n1)).set 0 (.int .i64 (emD d1 q).a)).set 1 (.int .i64 (emD d1 q).b)).set 2 (.int .i64 (emD d1 q).c)).set 3 (.int .i64 (emD d1 q).d)).set 4 (.int .i64 (emD d1 q).e)).set 5 (.int .i64 (emD d1 q).f)).set 6 (.int .i64 (emD d1 q).g)).set 7 (.int .i64 (emD d1 q).h))
            have x5 := xW.below hb5
            have HO5 := Lib.hid ((HO4.out.upd uW HNE3.out).below hb5)
            have u5 := upv_bl (upv_upd huN uW) hb5
            clear cN fN cB fB xB xN
            obtain ⟨c5, f5, z5⟩ := x5.out
            go_wp2
            go_roundg (gk - 1)
            case measure => have := HN.out; omega
            case rel =>
              have uX := upd_set (upd_refl w5 p) 9 (.bool b0)
              exact ⟨emD d1 q, o1 ++ [q], .slice a1 (o1.length + 1) n1, b0, by simpa using x5.set 9 (.bool b0), HO5.out.upd uX HNE3.out, HDN, HDT, E6, by simp; omega, by have := HN.out; simp; omega, HRW3, upv_upd u5 uX⟩

end Go.Proofs.Ytbncinbngmfamaa
