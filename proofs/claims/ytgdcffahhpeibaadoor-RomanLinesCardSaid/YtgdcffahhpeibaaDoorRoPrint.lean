/-
  roman.Print by its contract. No condition but the list's and the strings' own bound.
-/
import Derived.Test.YtgdcffahhpeibaaDoorRoParse
namespace Go.Proofs.YtgdcffahhpeibaaDoor
open Go.RowKit
theorem wp_cat {P : Program} {o : Oper} {a : Act} {w : World} {K : Act → World → Prop} {Q : Exit → Act → World → Prop} (x y : Operand) (t u : TypeId) (hop : o.op = Op.binOp .add t x y u) (s1 s2 : ByteArray) (h1 : a.eval x = .string s1) (h2 : a.eval y = .string s2)
    (hs : s1.size + s2.size ≤ 9223372036854775807) (hK : K (a.put o.dst (.string (s1 ++ s2))) w) : Oper.wp P o a w K Q := by
  have h3 : (binOp .add t (.string s1) (.string s2)).run P w = .ok (.string (s1 ++ s2)) w := by
    rw [binOp_string_add, run_string_add_sum w s1 s2 hs]
  unfold Oper.wp
  simp [execOp, hop, h1, h2, h3, Result.andThen, eqGuard]
  exact hK
theorem data_isEmpty (b : ByteArray) : b.data.isEmpty = b.data.toList.isEmpty := by
  obtain ⟨⟨l⟩⟩ := b
  cases l <;> rfl
/-- a text and an error's number -/
def GivesT (res : List UInt8 × Nat) (e : Ending) : Prop := ∃ s, Is s res.1 ∧ e = .returned (.tuple #[.string s, .int .i64 (res.2 : Nat)])
/-- block b holds the rule r -/
def RB (b : Nat) (r : RuleB) (w : World) : Prop := w.heap[b]? = some (.cells #[.string r.1, .string r.2.1, .string r.2.2] 39)
theorem RB.new (w : World) (r1 r2 r3 : ByteArray) : RB w.heap.size (r1, r2, r3) (w.alloc (.cells #[.string r1, .string r2, .string r3] 39)) := (MapKept.heap_alloc w _).1
theorem RB.c0 {b : Nat} {r : RuleB} {w : World} (h : RB b r w) : w.cell? ⟨b, 0, none⟩ = some (.string r.1) := by rw [Lib.cell_of_heap h]; rfl
theorem RB.c1 {b : Nat} {r : RuleB} {w : World} (h : RB b r w) : w.cell? ⟨b, 1, none⟩ = some (.string r.2.1) := by rw [Lib.cell_of_heap h]; rfl
theorem RB.c2 {b : Nat} {r : RuleB} {w : World} (h : RB b r w) : w.cell? ⟨b, 2, none⟩ = some (.string r.2.2) := by rw [Lib.cell_of_heap h]; rfl
theorem RB.kept {b c : Nat} {r : RuleB} {w w' : World} (h : RB b r w) (hk : Lib.OthersKept 5 (some c) w w') (hne : b ≠ c) : RB b r w' :=
  hk b _ h (fun e => hne (Option.some.inj e)) (fun _ _ e => by injection e with _ e; exact absurd e (by decide))
theorem text_snoc (xs : List RuleB) (k : Nat) (r : RuleB) (h : xs[k]? = some r) : Ro.text (rulesL (xs.take (k + 1))) = Ro.text (rulesL (xs.take k)) ++ (Ro.ruleLine (ruleL r) ++ [10]) := by
  rw [take_snoc xs k r h]
  unfold Ro.text rulesL
  simp
theorem write_nl (B b : Nat) (l : List UInt8) (w : World) (h : Bldr B b l w) (hlen : l.length + 1 ≤ 140737488355328) (hBw : B ≤ w.heap.size) :
    Calls Tryd.prog 40 #[.pointer (some ⟨b, 0, none⟩), .int .u8 10] w fun e w' => e = .returned .nilIface ∧ Bldr B b (l ++ [10]) w' ∧ Bk B b w w' := write_byte B b l 10 w h hlen hBw
set_option maxRecDepth 100000 in
set_option maxHeartbeats 4000000 in
theorem print_any (v : Value) (xs : List RuleB) (w : World) (h : LieR v xs w) (hn : xs.length ≤ 1000000000000) (hz : Short3 xs) (ht : Tabs w) :
    Calls Tryd.prog 22 #[v] w fun e w' => GivesT (Ro.print (rulesL xs)) e ∧ Below w.heap.size w w' := by
  have HL := Lib.hid h
  have HT := Lib.hid ht
  have HZ := Lib.hid hz
  clear ht hz
  rcases Ro.check_cases (rulesL xs) with hc | hc | hc
  case inr.inl =>
    have HR := Eqq.mk (show Ro.print (rulesL xs) = ([], 2) by unfold Ro.print; rw [hc]; rfl)
    have HC := Eqq.mk hc
    clear hc h
    go_enter Tryd.func22, Tryd.ntmps22
    go_wp2_with fail
    with_reducible refine (check_any v xs _ HL.out hn HZ.out HT.out).mono ?_
    rw [HC.out]
    rintro e w1 ⟨rfl, hb⟩
    have HB := Lib.hid hb
    clear hb
    go_wp2_with fail
    go_ret2
    exact ⟨⟨⟨#[]⟩, by rw [HR.out]; exact Is.mk [], by rw [HR.out]; rfl⟩, HB.out⟩
  case inr.inr =>
    have HR := Eqq.mk (show Ro.print (rulesL xs) = ([], 50) by unfold Ro.print; rw [hc]; rfl)
    have HC := Eqq.mk hc
    clear hc h
    go_enter Tryd.func22, Tryd.ntmps22
    go_wp2_with fail
    with_reducible refine (check_any v xs _ HL.out hn HZ.out HT.out).mono ?_
    rw [HC.out]
    rintro e w1 ⟨rfl, hb⟩
    have HB := Lib.hid hb
    clear hb
    go_wp2_with fail
    go_ret2
    exact ⟨⟨⟨#[]⟩, by rw [HR.out]; exact Is.mk [], by rw [HR.out]; rfl⟩, HB.out⟩
  have HR := Eqq.mk (show Ro.print (rulesL xs) = (Ro.text (rulesL xs), 0) by unfold Ro.print; rw [hc]; rfl)
  have HC := Eqq.mk hc
  obtain ⟨h5, hgd⟩ := (Ro.check_zero _).1 hc
  have hal := ((Ro.good_iff _).1 hgd).1
  obtain ⟨n, hnn⟩ : ∃ n, xs.length = n := ⟨_, rfl⟩
  have hn5 : n ≤ 500 := by have : (rulesL xs).length = n := by unfold rulesL; rw [List.length_map, hnn]
                           omega
  have HTL := Lib.hid (show ∀ k, k ≤ n → (Ro.text (rulesL (xs.take k))).length ≤ 26 * k by
    intro k hk
    have h1 := Ro.text_len (rulesL (xs.take k)) (fun r hr => hal r (by unfold rulesL at hr ⊢; obtain ⟨x, hx, rfl⟩ := List.mem_map.1 hr; exact List.mem_map.2 ⟨x, List.mem_of_mem_take hx, rfl⟩))
    have h2 : (rulesL (xs.take k)).length = k := by unfold rulesL; rw [List.length_map, List.length_take]; omega
    rw [h2] at h1
    exact h1)
  have HSL := Lib.hid (show ∀ k r, xs[k]? = some r → (Ro.ruleLine (ruleL r)).length ≤ 25 from fun k r hr => Ro.ruleLine_len (hal (ruleL r) (List.mem_map.2 ⟨r, List.mem_of_getElem? hr, rfl⟩)))
  have HN := Eqq.mk hnn
  clear hc h h5 hgd hal
  go_enter Tryd.func22, Tryd.ntmps22
  go_wp2_with fail
  with_reducible refine (check_any v xs _ HL.out hn HZ.out HT.out).mono ?_
  rw [HC.out]
  rintro e w1 ⟨rfl, hb⟩
  have HB := Lib.hid hb
  have HL1 := Lib.hid (HL.out.keep hb)
  clear hb
  obtain ⟨ao, cap, rfl, hcap, hx⟩ := HL1.out
  rw [hnn] at hn hcap ⊢
  have HX := Lib.hid hx
  clear hx hnn hcap
  go_wp2_with fail
  go_loopw [15] (fun iv wr => ∃ k : Nat, k ≤ n ∧ iv = .int .i64 k ∧ Bldr w1.heap.size w1.heap.size (Ro.text (rulesL (xs.take k))) wr ∧ Below w1.heap.size w1 wr ∧ w1.heap.size < wr.heap.size) (fun iv _ => n - (intOf iv).toNat)
  case atStart => exact ⟨0, Nat.zero_le _, rfl, Lib.IsBuilderF.of (Lib.fresh_isBuilder 72 5 w1), (Below.refl _ _).alloc (Nat.le_refl _) _, by simp⟩
  case round =>
    obtain ⟨k, hk, rfl, hI, hb, hlt1⟩ := hrel
    have HBl := Lib.hid hI
    have HBe := Lib.hid hb
    have hsw := hb.size
    clear hI hb
    by_cases hlt : k < n
    · obtain ⟨r, hr⟩ : ∃ r, xs[k]? = some r := ⟨_, List.getElem?_eq_getElem (by rw [HN.out]; exact hlt)⟩
      obtain ⟨g, o, rfl, d1, d2, d3⟩ := HX.out k r hr
      have c1 := below_cellU d1 HBe.out (Nat.le_refl _)
      have c2 := below_cellU d2 HBe.out (Nat.le_refl _)
      have c3 := below_cellU d3 HBe.out (Nat.le_refl _)
      have hsl := HSL.out k r hr
      have htl := HTL.out k hk
      have HTS := Eqq.mk (text_snoc xs k r hr)
      obtain ⟨r1, r2, r3⟩ := r
      dsimp only at c1 c2 c3
      have hq1 := (Is.of r1).size
      have hq2 := (Is.of r2).size
      have hq3 := (Is.of r3).size
      have hrl3 := (Is.of r3).list
      unfold Ro.ruleLine ruleL at hsl HTS
      dsimp only at hsl HTS
      simp only [List.length_append, List.length_cons, List.length_nil] at hsl
      have z1 : r1.size + 1 ≤ 9223372036854775807 := by omega
      have y1 : r1.size + (⟨#[9]⟩ : ByteArray).size ≤ 9223372036854775807 := z1
      have x1 : r1.size ≤ 9223372036854775806 := by omega
      have x2 : r1.size + r2.size ≤ 9223372036854775806 := by omega
      have w1' : r1.size + (#[9] : Array UInt8).size ≤ 9223372036854775807 := z1
      have w2' : r1.size + (#[9] : Array UInt8).size + r2.size ≤ 9223372036854775807 := by show r1.size + 1 + r2.size ≤ _; omega
      have w3' : (#[9] : Array UInt8).size + r3.size ≤ 9223372036854775807 := by show 1 + r3.size ≤ _; have := hq3; have : r3.data.toList.length ≤ 25 := (by by_cases h : r3.data.toList = []; rw [h]; simp; rw [if_neg h] at hsl; simp only [List.length_append, List.length_cons, List.length_nil] at hsl; omega); omega
      have x0 : r1.size < 9223372036854775807 := by omega
      have x0' : ¬ 9223372036854775807 ≤ r1.size := by omega
      have q3b : r3.data.toList.length ≤ 25 := by
        by_cases h : r3.data.toList = []
        · rw [h]; simp
        · rw [if_neg h] at hsl; simp only [List.length_append, List.length_cons, List.length_nil] at hsl; omega
      have x3 : r3.size ≤ 9223372036854775806 := by omega
      have x3' : r3.size < 9223372036854775807 := by omega
      have x3'' : ¬ 9223372036854775807 ≤ r3.size := by omega
      have z2 : r1.size + 1 + r2.size ≤ 9223372036854775807 := by omega
      have z3 : (r1 ++ (⟨#[9]⟩ : ByteArray)).size + r2.size ≤ 9223372036854775807 := by rw [ByteArray.size_append]; exact z2
      have hwz : (r1 ++ (⟨#[9]⟩ : ByteArray) ++ r2).size ≤ 25 := by rw [ByteArray.size_append, ByteArray.size_append, show (⟨#[9]⟩ : ByteArray).size = 1 from rfl]; omega
      have HB1 := Lib.hid (HBe.out.alloc HBe.out.size (.cells #[.string r1, .string r2, .string r3] 39))
      have HBl1 := Lib.hid (show Bldr _ _ _ (wr.alloc (.cells #[.string r1, .string r2, .string r3] 39)) from Lib.IsBuilderF.alloc HBl.out _)
      have HRB := Lib.hid (RB.new wr r1 r2 r3)
      have hne : wr.heap.size ≠ w1.heap.size := by omega
      clear hr d1 d2 d3
      go_wp2_with fail
      refine wp_cat (.tmp 20) (.const (.string ⟨#[9]⟩)) _ _ rfl r1 ⟨#[9]⟩ rfl rfl z1 ?_
      go_wp2_with fail
      refine wp_cat (.tmp 21) (.tmp 23) _ _ rfl (r1 ++ ⟨#[9]⟩) r2 rfl rfl z3 ?_
      go_wp2_with fail
      refine (write_string w1.heap.size w1.heap.size _ (r1 ++ (⟨#[9]⟩ : ByteArray) ++ r2) _ HBl1.out (by omega) (by simp; omega)).mono ?_
      rintro e w3 ⟨rfl, hI3, hb3, hk3⟩
      have HI3 := Lib.hid hI3
      have HB3 := Lib.hid (HB1.out.trans hb3)
      have HRB3 := Lib.hid (HRB.out.kept hk3 hne)
      have f2 := HRB3.out.c2
      dsimp only at f2
      have hs3 : w1.heap.size < w3.heap.size := by have := hb3.size; have := HRB3.out; have := heap_lt this; omega
      clear hI3 hb3 hk3
      by_cases h3 : r3.data.toList = []
      · have e3 : r3.toList.isEmpty = true := by rw [hrl3, h3]; rfl
        have f3 : (!r3.toList.isEmpty) = false := by rw [e3]; rfl
        have k3 : r3.data.isEmpty = true := by rw [data_isEmpty, h3]; rfl
        have j3 : (!r3.data.isEmpty) = false := by rw [k3]; rfl
        rw [if_pos h3] at HTS hsl
        simp only [List.length_nil] at hsl
        go_wp2_with fail
        refine (write_nl w1.heap.size w1.heap.size _ _ HI3.out (by rw [List.length_append, (Is.of (r1 ++ (⟨#[9]⟩ : ByteArray) ++ r2)).size.symm]; omega) (by omega)).mono ?_
        rintro e w4 ⟨rfl, hI4, hb4, hk4⟩
        have HI4 := Lib.hid hI4
        have HB4 := Lib.hid (HB3.out.trans hb4)
        have hs4 := hb4.size
        clear hI4 hb4 hk4
        go_wp2_with fail
        go_roundw
        case rel =>
          refine ⟨k + 1, by omega, by go_num, ?_, HB4.out, by have := HB4.out.size; omega⟩
          have := HI4.out
          rw [HTS.out]
          simpa [ByteArray.data_append, List.append_assoc] using this
        case measure => simp [intOf]; omega
      · have e3 : r3.toList.isEmpty = false := by rw [hrl3]; cases h : r3.data.toList with | nil => exact absurd h h3 | cons a b => rfl
        have f3 : (!r3.toList.isEmpty) = true := by rw [e3]; rfl
        have k3 : r3.data.isEmpty = false := by rw [data_isEmpty]; cases h : r3.data.toList with | nil => exact absurd h h3 | cons a b => rfl
        have j3 : (!r3.data.isEmpty) = true := by rw [k3]; rfl
        rw [if_neg h3] at HTS hsl
        simp only [List.length_append, List.length_cons, List.length_nil] at hsl
        have z4 : 1 + r3.size ≤ 9223372036854775807 := by omega
        have y4 : (⟨#[9]⟩ : ByteArray).size + r3.size ≤ 9223372036854775807 := z4
        have hwz3 : ((⟨#[9]⟩ : ByteArray) ++ r3).size ≤ 25 := by rw [ByteArray.size_append, show (⟨#[9]⟩ : ByteArray).size = 1 from rfl]; omega
        go_wp2_with fail
        refine wp_cat (.const (.string ⟨#[9]⟩)) (.tmp 30) _ _ rfl ⟨#[9]⟩ r3 rfl rfl z4 ?_
        go_wp2_with fail
        refine (write_string w1.heap.size w1.heap.size _ ((⟨#[9]⟩ : ByteArray) ++ r3) _ HI3.out (by rw [List.length_append, (Is.of (r1 ++ (⟨#[9]⟩ : ByteArray) ++ r2)).size.symm]; omega) (by omega)).mono ?_
        rintro e w5 ⟨rfl, hI5, hb5, hk5⟩
        have HI5 := Lib.hid hI5
        have HB5 := Lib.hid (HB3.out.trans hb5)
        have hs5 := hb5.size
        clear hI5 hb5 hk5
        go_wp2_with fail
        refine (write_nl w1.heap.size w1.heap.size _ _ HI5.out (by rw [List.length_append, List.length_append, (Is.of (r1 ++ (⟨#[9]⟩ : ByteArray) ++ r2)).size.symm, (Is.of ((⟨#[9]⟩ : ByteArray) ++ r3)).size.symm]; omega) (by omega)).mono ?_
        rintro e w4 ⟨rfl, hI4, hb4, hk4⟩
        have HI4 := Lib.hid hI4
        have HB4 := Lib.hid (HB5.out.trans hb4)
        have hs4 := hb4.size
        clear hI4 hb4 hk4
        go_wp2_with fail
        go_roundw
        case rel =>
          refine ⟨k + 1, by omega, by go_num, ?_, HB4.out, by have := HB4.out.size; omega⟩
          have := HI4.out
          rw [HTS.out]
          simpa [ByteArray.data_append, List.append_assoc] using this
        case measure => simp [intOf]; omega
    · obtain rfl : k = n := by omega
      have HRR := Eqq.mk (show Ro.print (rulesL xs) = (Ro.text (rulesL (xs.take k)), 0) by rw [HR.out, ← HN.out, List.take_length])
      go_wp2_with fail
      refine (bld_string w1.heap.size w1.heap.size _ _ HBl.out hsw).mono ?_
      rintro e w3 ⟨rfl, _, hb3, _⟩
      have HB3 := Lib.hid (HB.out.trans ((HBe.out.trans hb3).mono HB.out.size))
      clear hb3
      go_wp2_with fail
      go_ret2
      exact ⟨⟨_, by rw [HRR.out]; exact Is.mk _, by rw [HRR.out]; rfl⟩, HB3.out⟩
end Go.Proofs.YtgdcffahhpeibaaDoor
