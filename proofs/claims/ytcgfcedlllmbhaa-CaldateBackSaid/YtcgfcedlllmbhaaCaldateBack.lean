/-
  CaldateBack returns true for every year, month, day and day number. No condition.
-/
import Derived.Test.YtcgfcedlllmbhaaCalNames
import Derived.ProofKit
import Derived.OpenShut
namespace Go.Proofs.Ytcgfcedlllmbhaa.caldateBack
open Go.ChangeShapes Go.WideShapes Go.ChangeAt Go.RowKit
set_option linter.unusedVariables false

/-- the second half of the law: from 'a, b, c, is := Date(day)' on; what is proved of the first half is that it goes on -/
def Ok (w : World) (e : Ending) (w' : World) : Prop := e = .returned (.bool true) ∧ Below w.heap.size w w'

/-- how the date of the next day differs, as the two tests of the law -/
theorem next_tests (y m d y' m' d' : Int) (h : Cal.ok y m d = true) (h' : Cal.ok y' m' d' = true) (e : Cal.num y' m' d' = Cal.num y m d + 1) :
    ((y' == y) = true ∧ (m' == m) = true ∧ (d' == d + 1) = true ∧ (d' == 1) = false) ∨
    ((y' == y) = true ∧ (m' == m) = false ∧ (d' == 1) = true ∧ (m' == m + 1) = true) ∨
    ((y' == y) = false ∧ (d' == 1) = true ∧ (y' == y + 1) = true ∧ (m' == 1) = true ∧ (m == 12) = true) := by
  rcases Cal.next_day y m d y' m' d' h h' e with ⟨rfl, rfl, rfl⟩ | ⟨rfl, ⟨rfl, rfl⟩ | ⟨rfl, rfl, rfl⟩⟩
  · left; rw [Cal.ok_iff] at h; simp; omega
  · right; left; simp; omega
  · right; right; simp; omega

theorem beq_t {a b : Int} (h : a = b) : (a == b) = true := by simp [h]
theorem beq_f {a b : Int} (h : a ≠ b) : (a == b) = false := by simp [h]

set_option maxRecDepth 100000 in
set_option maxHeartbeats 2000000 in
theorem back_yes_next (y m d n : Int) (w : World) (h : Cal.ok y m d = true) (h1 : 1 ≤ n) (h2 : n < 3652059) :
    Calls Try.prog 4 #[.int .i64 y, .int .i64 m, .int .i64 d, .int .i64 n] w (Ok w) := by
  have hb := Cal.num_bd y m d h
  have H := Lib.hid h
  clear h
  obtain ⟨hb1, hb2⟩ := hb
  have hd : decide (n ≤ 3652059) = true := by simp; omega
  go_enter Try.func4, Try.ntmps4
  go_wp2_with fail
  refine (day_yes _ _ _ _ H.out).mono ?_
  rintro e w' ⟨rfl, rfl⟩
  go_wp2_with fail
  refine (date_yes _ _ hb1 hb2).mono ?_
  rintro e w' ⟨y1, m1, d1, hok1, hnum1, rfl, rfl⟩
  obtain ⟨rfl, rfl, rfl⟩ := Cal.num_inj y1 m1 d1 y m d hok1 H.out hnum1
  clear hok1 hnum1
  go_wp2_with fail
  refine (date_yes _ _ (by omega) (by omega)).mono ?_
  rintro e w' ⟨y2, m2, d2, hok2, hnum2, rfl, rfl⟩
  have H2 := Lib.hid hok2
  have N2 := Lib.hid hnum2
  clear hok2 hnum2
  go_wp2_with fail
  refine (day_yes _ _ _ _ H2.out).mono ?_
  rintro e w' ⟨rfl, rfl⟩
  rw [N2.out]
  go_wp2_with fail
  refine (date_yes _ _ (by omega) (by omega)).mono ?_
  rintro e w' ⟨y3, m3, d3, hok3, hnum3, rfl, rfl⟩
  have hc := next_tests y2 m2 d2 y3 m3 d3 H2.out hok3 (by rw [hnum3, N2.out])
  have bo2 := H2.out; rw [Cal.ok_iff] at bo2
  obtain ⟨b1, b2, b3, b4, b5, b6⟩ := bo2
  have b7 : d2 ≤ 31 := by have := Cal.mlen_bd y2 m2; omega
  clear b6 hok3 hnum3
  rcases hc with ⟨t1, t2, t3, t4⟩ | ⟨t1, t2, t3, t4⟩ | ⟨t1, t2, t3, t4, t5⟩
  · go_wp2_with (go_at_call 10; refine (works_any _).mono ?_; rintro e w' ⟨rfl, hb⟩)
    go_ret
    exact ⟨rfl, hb⟩
  · go_wp2_with (go_at_call 10; refine (works_any _).mono ?_; rintro e w' ⟨rfl, hb⟩)
    go_ret
    exact ⟨rfl, hb⟩
  · go_wp2_with (go_at_call 10; refine (works_any _).mono ?_; rintro e w' ⟨rfl, hb⟩)
    go_ret
    exact ⟨rfl, hb⟩

set_option maxRecDepth 100000 in
set_option maxHeartbeats 2000000 in
theorem back_yes_last (y m d n : Int) (w : World) (h : Cal.ok y m d = true) (h1 : 3652059 ≤ n) (h2 : n ≤ 3652059) :
    Calls Try.prog 4 #[.int .i64 y, .int .i64 m, .int .i64 d, .int .i64 n] w (Ok w) := by
  have hb := Cal.num_bd y m d h
  have H := Lib.hid h
  clear h
  obtain ⟨hb1, hb2⟩ := hb
  have hd : decide (n ≤ 3652059) = true := by simp; omega
  have hl : (n == 3652059) = true := by simp; omega
  go_enter Try.func4, Try.ntmps4
  go_wp2_with fail
  refine (day_yes _ _ _ _ H.out).mono ?_
  rintro e w' ⟨rfl, rfl⟩
  go_wp2_with fail
  refine (date_yes _ _ hb1 hb2).mono ?_
  rintro e w' ⟨y1, m1, d1, hok1, hnum1, rfl, rfl⟩
  obtain ⟨rfl, rfl, rfl⟩ := Cal.num_inj y1 m1 d1 y m d hok1 H.out hnum1
  clear hok1 hnum1
  go_wp2_with fail
  refine (date_yes _ _ (by omega) (by omega)).mono ?_
  rintro e w' ⟨y2, m2, d2, hok2, hnum2, rfl, rfl⟩
  have H2 := Lib.hid hok2
  have N2 := Lib.hid hnum2
  clear hok2 hnum2
  go_wp2_with fail
  refine (day_yes _ _ _ _ H2.out).mono ?_
  rintro e w' ⟨rfl, rfl⟩
  rw [N2.out]
  go_wp2_with (go_at_call 10; refine (works_any _).mono ?_; rintro e w' ⟨rfl, hb⟩)
  go_ret
  exact ⟨rfl, hb⟩

set_option maxRecDepth 100000 in
set_option maxHeartbeats 2000000 in
theorem back_yes_low (y m d n : Int) (w : World) (h : Cal.ok y m d = true) (h1 : n < 1) :
    Calls Try.prog 4 #[.int .i64 y, .int .i64 m, .int .i64 d, .int .i64 n] w (Ok w) := by
  have hb := Cal.num_bd y m d h
  have H := Lib.hid h
  clear h
  obtain ⟨hb1, hb2⟩ := hb
  have hd : decide (1 ≤ n) = false := by simp; omega
  have H1 := Lib.hid (show n < 1 ∨ 3652059 < n by omega)
  go_enter Try.func4, Try.ntmps4
  go_wp2_with fail
  refine (day_yes _ _ _ _ H.out).mono ?_
  rintro e w' ⟨rfl, rfl⟩
  go_wp2_with fail
  refine (date_yes _ _ hb1 hb2).mono ?_
  rintro e w' ⟨y1, m1, d1, hok1, hnum1, rfl, rfl⟩
  obtain ⟨rfl, rfl, rfl⟩ := Cal.num_inj y1 m1 d1 y m d hok1 H.out hnum1
  clear hok1 hnum1
  go_wp2_with fail
  refine (date_no _ _ H1.out).mono ?_
  rintro e w' ⟨rfl, rfl⟩
  go_wp2_with (go_at_call 10; refine (works_any _).mono ?_; rintro e w' ⟨rfl, hb⟩)
  go_ret
  exact ⟨rfl, hb⟩

set_option maxRecDepth 100000 in
set_option maxHeartbeats 2000000 in
theorem back_yes_high (y m d n : Int) (w : World) (h : Cal.ok y m d = true) (h1 : 3652059 < n) :
    Calls Try.prog 4 #[.int .i64 y, .int .i64 m, .int .i64 d, .int .i64 n] w (Ok w) := by
  have hb := Cal.num_bd y m d h
  have H := Lib.hid h
  clear h
  obtain ⟨hb1, hb2⟩ := hb
  have hd : decide (n ≤ 3652059) = false := by simp; omega
  have H1 := Lib.hid (show n < 1 ∨ 3652059 < n by omega)
  go_enter Try.func4, Try.ntmps4
  go_wp2_with fail
  refine (day_yes _ _ _ _ H.out).mono ?_
  rintro e w' ⟨rfl, rfl⟩
  go_wp2_with fail
  refine (date_yes _ _ hb1 hb2).mono ?_
  rintro e w' ⟨y1, m1, d1, hok1, hnum1, rfl, rfl⟩
  obtain ⟨rfl, rfl, rfl⟩ := Cal.num_inj y1 m1 d1 y m d hok1 H.out hnum1
  clear hok1 hnum1
  go_wp2_with fail
  refine (date_no _ _ H1.out).mono ?_
  rintro e w' ⟨rfl, rfl⟩
  go_wp2_with (go_at_call 10; refine (works_any _).mono ?_; rintro e w' ⟨rfl, hb⟩)
  go_ret
  exact ⟨rfl, hb⟩

set_option maxRecDepth 100000 in
set_option maxHeartbeats 2000000 in
theorem back_no_next (y m d n : Int) (w : World) (h : Cal.ok y m d = false) (h1 : 1 ≤ n) (h2 : n < 3652059) :
    Calls Try.prog 4 #[.int .i64 y, .int .i64 m, .int .i64 d, .int .i64 n] w (Ok w) := by
  have H := Lib.hid h
  clear h
  have hd : decide (n ≤ 3652059) = true := by simp; omega
  go_enter Try.func4, Try.ntmps4
  go_wp2_with fail
  refine (day_no _ _ _ _ H.out).mono ?_
  rintro e w' ⟨rfl, rfl⟩
  go_wp2_with fail
  refine (date_yes _ _ (by omega) (by omega)).mono ?_
  rintro e w' ⟨y2, m2, d2, hok2, hnum2, rfl, rfl⟩
  have H2 := Lib.hid hok2
  have N2 := Lib.hid hnum2
  clear hok2 hnum2
  go_wp2_with fail
  refine (day_yes _ _ _ _ H2.out).mono ?_
  rintro e w' ⟨rfl, rfl⟩
  rw [N2.out]
  go_wp2_with fail
  refine (date_yes _ _ (by omega) (by omega)).mono ?_
  rintro e w' ⟨y3, m3, d3, hok3, hnum3, rfl, rfl⟩
  have hc := next_tests y2 m2 d2 y3 m3 d3 H2.out hok3 (by rw [hnum3, N2.out])
  have bo2 := H2.out; rw [Cal.ok_iff] at bo2
  obtain ⟨b1, b2, b3, b4, b5, b6⟩ := bo2
  have b7 : d2 ≤ 31 := by have := Cal.mlen_bd y2 m2; omega
  clear b6 hok3 hnum3
  rcases hc with ⟨t1, t2, t3, t4⟩ | ⟨t1, t2, t3, t4⟩ | ⟨t1, t2, t3, t4, t5⟩
  · go_wp2_with (go_at_call 10; refine (works_any _).mono ?_; rintro e w' ⟨rfl, hb⟩)
    go_ret
    exact ⟨rfl, hb⟩
  · go_wp2_with (go_at_call 10; refine (works_any _).mono ?_; rintro e w' ⟨rfl, hb⟩)
    go_ret
    exact ⟨rfl, hb⟩
  · go_wp2_with (go_at_call 10; refine (works_any _).mono ?_; rintro e w' ⟨rfl, hb⟩)
    go_ret
    exact ⟨rfl, hb⟩

set_option maxRecDepth 100000 in
set_option maxHeartbeats 2000000 in
theorem back_no_last (y m d n : Int) (w : World) (h : Cal.ok y m d = false) (h1 : 3652059 ≤ n) (h2 : n ≤ 3652059) :
    Calls Try.prog 4 #[.int .i64 y, .int .i64 m, .int .i64 d, .int .i64 n] w (Ok w) := by
  have H := Lib.hid h
  clear h
  have hd : decide (n ≤ 3652059) = true := by simp; omega
  have hl : (n == 3652059) = true := by simp; omega
  go_enter Try.func4, Try.ntmps4
  go_wp2_with fail
  refine (day_no _ _ _ _ H.out).mono ?_
  rintro e w' ⟨rfl, rfl⟩
  go_wp2_with fail
  refine (date_yes _ _ (by omega) (by omega)).mono ?_
  rintro e w' ⟨y2, m2, d2, hok2, hnum2, rfl, rfl⟩
  have H2 := Lib.hid hok2
  have N2 := Lib.hid hnum2
  clear hok2 hnum2
  go_wp2_with fail
  refine (day_yes _ _ _ _ H2.out).mono ?_
  rintro e w' ⟨rfl, rfl⟩
  rw [N2.out]
  go_wp2_with (go_at_call 10; refine (works_any _).mono ?_; rintro e w' ⟨rfl, hb⟩)
  go_ret
  exact ⟨rfl, hb⟩

set_option maxRecDepth 100000 in
set_option maxHeartbeats 2000000 in
theorem back_no_low (y m d n : Int) (w : World) (h : Cal.ok y m d = false) (h1 : n < 1) :
    Calls Try.prog 4 #[.int .i64 y, .int .i64 m, .int .i64 d, .int .i64 n] w (Ok w) := by
  have H := Lib.hid h
  clear h
  have hd : decide (1 ≤ n) = false := by simp; omega
  have H1 := Lib.hid (show n < 1 ∨ 3652059 < n by omega)
  go_enter Try.func4, Try.ntmps4
  go_wp2_with fail
  refine (day_no _ _ _ _ H.out).mono ?_
  rintro e w' ⟨rfl, rfl⟩
  go_wp2_with fail
  refine (date_no _ _ H1.out).mono ?_
  rintro e w' ⟨rfl, rfl⟩
  go_wp2_with (go_at_call 10; refine (works_any _).mono ?_; rintro e w' ⟨rfl, hb⟩)
  go_ret
  exact ⟨rfl, hb⟩

set_option maxRecDepth 100000 in
set_option maxHeartbeats 2000000 in
theorem back_no_high (y m d n : Int) (w : World) (h : Cal.ok y m d = false) (h1 : 3652059 < n) :
    Calls Try.prog 4 #[.int .i64 y, .int .i64 m, .int .i64 d, .int .i64 n] w (Ok w) := by
  have H := Lib.hid h
  clear h
  have hd : decide (n ≤ 3652059) = false := by simp; omega
  have H1 := Lib.hid (show n < 1 ∨ 3652059 < n by omega)
  go_enter Try.func4, Try.ntmps4
  go_wp2_with fail
  refine (day_no _ _ _ _ H.out).mono ?_
  rintro e w' ⟨rfl, rfl⟩
  go_wp2_with fail
  refine (date_no _ _ H1.out).mono ?_
  rintro e w' ⟨rfl, rfl⟩
  go_wp2_with (go_at_call 10; refine (works_any _).mono ?_; rintro e w' ⟨rfl, hb⟩)
  go_ret
  exact ⟨rfl, hb⟩

theorem walk (y m d n : Int) (_w0 : (Lit.int .i64 y).wf = true) (_w1 : (Lit.int .i64 m).wf = true) (_w2 : (Lit.int .i64 d).wf = true) (_w3 : (Lit.int .i64 n).wf = true) (w : World) :
    Calls Try.prog 4 #[.int .i64 y, .int .i64 m, .int .i64 d, .int .i64 n] w (Ok w) := by
  by_cases c1 : n < 1
  · cases h : Cal.ok y m d
    · exact back_no_low y m d n w h c1
    · exact back_yes_low y m d n w h c1
  by_cases c2 : 3652059 < n
  · cases h : Cal.ok y m d
    · exact back_no_high y m d n w h c2
    · exact back_yes_high y m d n w h c2
  by_cases c3 : n < 3652059
  · cases h : Cal.ok y m d
    · exact back_no_next y m d n w h (by omega) c3
    · exact back_yes_next y m d n w h (by omega) c3
  · cases h : Cal.ok y m d
    · exact back_no_last y m d n w h (by omega) (by omega)
    · exact back_yes_last y m d n w h (by omega) (by omega)

theorem own : ownKnob Try.prog.godebug = none := by kernel_rfl

set_option maxRecDepth 100000 in
theorem lifted (os : Os) (started : os.Started) (H : Type) (enc : TypeId × Value → H) :
    ReturnsInHanded {} Try.checked os 4 .any (Rows.caldateBackSpec.pre6 enc Try.prog Try.f4 Rows.caldateBackRow.domain false) (Rows.caldateBackSpec.post enc Try.prog Try.f4 false true false false) := by
  refine returnsInHanded_of_change (C := Try.checked) own started (by kernel_rfl) Try.func4
    (ChangeSpec.witness6 (enc := enc) (C := Try.checked) false ⟨#[], #[.int .i64 0, .int .i64 0, .int .i64 0, .int .i64 0], []⟩ 8 (by kernel_rfl) (by kernel_rfl) (by kernel_rfl) (by kernel_rfl)) ?_
  intro W base args ds gs before hval0 hW hcnd _
  have hval : ∀ (j : Nat) t v, Try.f4.params[j]? = some t → args[j]? = some v → Value.okWide Try.prog W .any base t v := hval0
  have hW' := hW
  obtain ⟨p, q, hA0, hV, rfl, hfz, hnd⟩ := hW
  have hA : DataW.TrodAll enc Try.prog W 0 (fun _ => true) true Try.f4.params.toList args.toList ds p := hA0
  rw [Try.params4] at hA hval
  obtain ⟨v0, vs0, d0, ds0, p0, q0, hargs, rfl, rfl, h0, r0⟩ := trodAll_cons hA
  obtain ⟨v1, vs1, d1, ds1, p1, q1, rfl, rfl, rfl, h1, r1⟩ := trodAll_cons r0
  obtain ⟨v2, vs2, d2, ds2, p2, q2, rfl, rfl, rfl, h2, r2⟩ := trodAll_cons r1
  obtain ⟨v3, vs3, d3, ds3, p3, q3, rfl, rfl, rfl, h3, r3⟩ := trodAll_cons r2
  obtain ⟨rfl, rfl, rfl⟩ := trodAll_nil r3
  obtain rfl : args = #[v0, v1, v2, v3] := by cases args; simp_all
  obtain ⟨rfl, rfl⟩ := trodVars_none hV
  obtain ⟨a0, rfl, rfl, rfl, w0⟩ := open_int Try.underlying3 (hval 0 3 v0 rfl rfl) h0
  obtain ⟨a1, rfl, rfl, rfl, w1⟩ := open_int Try.underlying3 (hval 1 3 v1 rfl rfl) h1
  obtain ⟨a2, rfl, rfl, rfl, w2⟩ := open_int Try.underlying3 (hval 2 3 v2 rfl rfl) h2
  obtain ⟨a3, rfl, rfl, rfl, w3⟩ := open_int Try.underlying3 (hval 3 3 v3 rfl rfl) h3
  clear hA0 hval0
  simp only [List.append_nil] at hW'
  refine (walk a0 a1 a2 a3 w0 w1 w2 w3 W).mono fun e W' ⟨he, bel⟩ => ?_
  subst he
  exact ⟨_, rfl, _, _, _, [], [], [], hW', trodAll_mk1 (shut_bool Try.underlying4 _), (trodAll_cons_mk (shut_int Try.underlying3 w0) (trodAll_cons_mk (shut_int Try.underlying3 w1) (trodAll_cons_mk (shut_int Try.underlying3 w2) (trodAll_cons_mk (shut_int Try.underlying3 w3) trodAll_mk0)))), rfl, bel.frame _, fun h => by cases h⟩

/-- the statement -/
theorem proved : Rows.CaldateBackSaid :=
  OpenClaim.holds_of_wide 4 Try.f4 rfl rfl rfl rfl rfl rfl rfl ⟨rfl, rfl, rfl, rfl, rfl⟩ rfl rfl rfl rfl rfl (by kernel_rfl) Try.func4 (by kernel_rfl)
    (of_decide_eq_true (by kernel_rfl)) (by unfold Func.isWrapper; first | (rw [if_pos (by decide +kernel)]; kernel_rfl) | (rw [if_neg (by decide +kernel)]; exact ⟨rfl, rfl⟩))
    (fun os started H enc _ => lifted os started H enc)
#print axioms proved
end Go.Proofs.Ytcgfcedlllmbhaa.caldateBack
