/- Decimal texts, as the program reads them. Each theorem names its conditions. -/
import Derived.Test.YtndblondleclpaaDoorRdS
import Derived.Test.YtndblondleclpaaDoorDgI
namespace Go.Proofs.YtndblondleclpaaDoor
open Go.RowKit
set_option linter.unusedVariables false
set_option linter.unusedSimpArgs false

/-- What the library's variables give: the table of powers of ten, the two errors, a number. -/
structure Env (w : World) : Prop where
  tab : Tab w
  syn : ∃ tp p, w.var? Tryd.prog "strconv.ErrSyntax" = some #[.iface tp p]
  rng : ∃ tp p, w.var? Tryd.prog "strconv.ErrRange" = some #[.iface tp p]
  mx : ∃ m : Int, w.cell? ⟨0, 0, none⟩ = some (.int .i64 m)
theorem var_below {w w' : World} {n : String} {cs : Array Value} (h : w.var? Tryd.prog n = some cs) (hb : Bl w w') : w'.var? Tryd.prog n = some cs := by
  unfold World.var? at *
  cases hg : Tryd.prog.globalNamed n with
  | none => simp [hg] at h
  | some g =>
    simp only [hg, Option.bind_some] at h ⊢
    have hlt : g < w.heap.size := by
      rcases Nat.lt_or_ge g w.heap.size with h' | h'
      · exact h'
      · rw [Array.getElem?_eq_none h'] at h; simp at h
    rw [hb.block g hlt]
    exact h
theorem Env.below {w w' : World} (h : Env w) (hb : Bl w w') : Env w' := by
  obtain ⟨h1, ⟨t2, p2, h2⟩, ⟨t3, p3, h3⟩, m, h4⟩ := h
  exact ⟨h1.below hb, ⟨t2, p2, var_below h2 hb⟩, ⟨t3, p3, var_below h3 hb⟩, m, (hb.cell (p := ⟨_, 0, none⟩) (cell_lt h4)).trans h4⟩

/-- strconv.ParseInt(s, 10, 64). -/
theorem parse_any (s : ByteArray) (w : World) (hs : s.size ≤ 2000000) (hE : Env w) :
    Calls Tryd.prog 60 #[.string s, .int .i64 10, .int .i64 64] w fun e w' =>
      ((∃ v, Lib.parseIntB 64 s.data.toList = .ok v ∧ e = .returned (.tuple #[.int .i64 v, .nilIface])) ∨
       ((∀ v, Lib.parseIntB 64 s.data.toList ≠ .ok v) ∧ ∃ x t p, e = .returned (.tuple #[.int .i64 x, .iface t p]))) ∧ Bl w w' := by
  obtain ⟨_, ⟨t2, p2, h2⟩, ⟨t3, p3, h3⟩, _⟩ := hE
  by_cases hr : Lib.parseIntB 64 s.data.toList = .range
  · refine (Tryd.strconv_ParseInt_10_at64_range_var s (by omega) hr t3 p3 w h3).mono ?_
    rintro e w' ⟨N, rfl, _, _, hb⟩
    exact ⟨.inr ⟨fun v q => (by rw [hr] at q; cases q), _, _, _, rfl⟩, hb⟩
  · cases hk : Lib.parseIntB 64 s.data.toList with
    | ok v =>
      refine (Tryd.strconv_ParseInt_10_at64_ok s (by omega) v hk w).mono ?_
      rintro e w' ⟨rfl, hw⟩
      refine ⟨.inl ⟨v, rfl, rfl⟩, ?_⟩
      rcases hw with rfl | ⟨t, rfl⟩
      · exact bl_refl _
      · exact ⟨rfl, rfl, rfl, by rw [Lib.bytesWorld_size]; omega, fun k hk => Lib.bytesWorld_at_old w _ t k hk⟩
    | range => exact absurd hk hr
    | _ =>
      have hno : ∀ v, Lib.parseIntB 64 s.data.toList ≠ .ok v := fun v q => by rw [hk] at q; cases q
      refine (Tryd.strconv_ParseInt_10_at64_syn s (by omega) hno hr t2 p2 w h2).mono ?_
      rintro e w' ⟨N, rfl, _, _, hb⟩
      exact ⟨.inr ⟨fun v q => (by cases q), _, _, _, rfl⟩, hb⟩

set_option maxRecDepth 100000 in
set_option maxHeartbeats 3200000 in
theorem irdec_any (s : ByteArray) (w : World) (hs : s.size ≤ 2000000) (hE : Env w) :
    Calls Tryd.prog 41 #[.string s] w fun e w' => e = .returned (.tuple #[.int .i64 ((rdec s.data.toList).getD 0), .bool (rdec s.data.toList).isSome]) ∧ Bl w w' := by
  have HI := Lib.hid (rdI_eq s.data.toList)
  have HE := Lib.hid hE
  clear hE
  obtain ⟨T, hT⟩ : ∃ T : ByteArray, (⟨(Lib.trimPrefix s.data.toList [45]).toArray⟩ : ByteArray) = T := ⟨_, rfl⟩
  have HTL := Lib.hid (show Lib.trimPrefix s.data.toList [45] = tl s.data.toList from trim_tl _)
  have HTN := Lib.hid (show (tl s.data.toList).length = T.size by rw [← hT, ← HTL.out]; simp [ByteArray.size])
  have HTT := Lib.hid hT
  clear hT
  by_cases hl : 18 < T.size
  · have HR := Lib.hid (rdec_short (l := s.data.toList) (.inr (by rw [HTN.out]; exact hl)))
    go_enter Tryd.func41, Tryd.ntmps41
    go_wp2_with fail
    refine (Tryd.strings_TrimPrefix s ⟨#[45]⟩ _).mono ?_
    rintro e w' ⟨rfl, rfl⟩
    rw [HTT.out]
    go_wp2
    refine bodyPost_ret (v := .tuple #[.int .i64 0, .bool false]) (by simp only [results, Tryd.results41]; go_simp) rfl ?_
    exact ⟨ret_rd HR.out rfl rfl, bl_refl _⟩
  · have HLN := Lib.hid hl
    go_enter Tryd.func41, Tryd.ntmps41
    go_wp2_with fail
    refine (Tryd.strings_TrimPrefix s ⟨#[45]⟩ _).mono ?_
    rintro e w' ⟨rfl, rfl⟩
    rw [HTT.out]
    go_wp2_with fail
    refine (parse_any s _ hs HE.out).mono ?_
    rintro e w1 ⟨⟨v, hv, rfl⟩ | ⟨hv, x, t, p, rfl⟩, B1⟩
    · have hvb := Lib.parseIntB_bounds hv
      have e63 : ((2 ^ (64 - 1) : Nat) : Int) = 9223372036854775808 := by decide
      rw [e63] at hvb
      have HR := Lib.hid (show rdec s.data.toList = if Lib.itoa v = s.data.toList then some v else none by
        rw [← HI.out, rdI, HTL.out, if_neg (by rw [HTN.out]; exact HLN.out), hv])
      clear hv e63
      go_wp2_with fail
      refine (idec_any v (by unfold R64; omega) _ (HE.out.tab.below B1)).mono ?_
      rintro e w2 ⟨rfl, B2⟩
      by_cases hn : Lib.itoa v = s.data.toList
      · have HN := Lib.hid (show rdec s.data.toList = some v by rw [HR.out, if_pos hn])
        have hcmp : (Lib.itoa v == s.toList) = true := by rw [ByteArray.toList_eq]; exact beq_iff_eq.2 hn
        clear hn
        go_wp2
        refine bodyPost_ret (v := .tuple #[.int .i64 v, .bool true]) (by simp only [results, Tryd.results41]; go_simp) rfl ?_
        exact ⟨ret_rd HN.out rfl rfl, bl_call B1 B2⟩
      · have HN := Lib.hid (show rdec s.data.toList = none by rw [HR.out, if_neg hn])
        have hcmp : (Lib.itoa v == s.toList) = false := by rw [ByteArray.toList_eq]; exact beq_eq_false_iff_ne.2 hn
        clear hn
        go_wp2
        refine bodyPost_ret (v := .tuple #[.int .i64 0, .bool false]) (by simp only [results, Tryd.results41]; go_simp) rfl ?_
        exact ⟨ret_rd HN.out rfl rfl, bl_call B1 B2⟩
    · have HN := Lib.hid (show rdec s.data.toList = none by
        rw [← HI.out, rdI, HTL.out, if_neg (by rw [HTN.out]; exact HLN.out)]
        cases hk : Lib.parseIntB 64 s.data.toList with
        | ok v => exact absurd hk (hv v)
        | _ => rfl)
      clear hv
      go_wp2
      refine bodyPost_ret (v := .tuple #[.int .i64 0, .bool false]) (by simp only [results, Tryd.results41]; go_simp) rfl ?_
      exact ⟨ret_rd HN.out rfl rfl, B1⟩

end Go.Proofs.YtndblondleclpaaDoor
