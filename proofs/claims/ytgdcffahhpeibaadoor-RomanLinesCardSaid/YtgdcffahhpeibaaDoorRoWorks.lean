/-
  henkanlaw05.works is true. No condition.
-/
import Derived.Test.YtgdcffahhpeibaaDoorRoPrint
namespace Go.Proofs.YtgdcffahhpeibaaDoor
open Go.RowKit
theorem rulesL_inj : ∀ {xs ys : List RuleB}, rulesL xs = rulesL ys → xs = ys
  | [], [], _ => rfl
  | [], _ :: _, h => by simp [rulesL] at h
  | _ :: _, [], h => by simp [rulesL] at h
  | x :: xs, y :: ys, h => by
    unfold rulesL at h
    rw [List.map_cons, List.map_cons] at h
    injection h with h1 h2
    rw [ruleL_inj h1, rulesL_inj (xs := xs) (ys := ys) h2]
def wText : ByteArray := ⟨#[107, 97, 9, 227, 129, 139, 10, 107, 107, 9, 227, 129, 163, 9, 107]⟩
def wRules : List RuleB := [(⟨#[107, 97]⟩, ⟨#[227, 129, 139]⟩, ⟨#[]⟩), (⟨#[107, 107]⟩, ⟨#[227, 129, 163]⟩, ⟨#[107]⟩)]
def wOut : List UInt8 := [107, 97, 9, 227, 129, 139, 10, 107, 107, 9, 227, 129, 163, 9, 107, 10]
theorem w_parse : Ro.parse wText.data.toList = (rulesL wRules, 0, 0) := by kernel_rfl
theorem w_print : Ro.print (rulesL wRules) = (wOut, 0) := by kernel_rfl
theorem w_long1 : Ro.longer (rulesL wRules) [107] = true := by kernel_rfl
theorem w_long2 : Ro.longer (rulesL wRules) [107, 107] = false := by kernel_rfl
theorem lies_cells (w : World) (xs : List RuleB) (T : TypeId) (n : Nat) (hn : xs.length = n) : LieR (.slice (some ⟨w.heap.size, 0, none⟩) n n) xs (w.alloc (.cells (cellsR xs).toArray T)) := by
  subst hn
  refine ⟨_, _, rfl, Nat.le_refl _, fun k r hk => ⟨w.heap.size, 0, rfl, ?_⟩⟩
  obtain ⟨h1, h2, h3⟩ := cellsR_at xs k r hk
  have hh : (w.alloc (.cells (cellsR xs).toArray T)).heap[w.heap.size]? = some (.cells (cellsR xs).toArray T) := (MapKept.heap_alloc w _).1
  simp only [Nat.zero_add, Lib.cell_of_heap hh]
  exact ⟨by simpa using h1, by simpa using h2, by simpa using h3⟩
theorem w_short : Short3 wRules := by
  intro r hr
  unfold wRules at hr
  simp only [List.mem_cons, List.not_mem_nil, or_false] at hr
  rcases hr with rfl | rfl <;> exact ⟨by decide, by decide, by decide⟩
set_option maxRecDepth 100000 in
set_option maxHeartbeats 4000000 in
theorem works_any (w : World) (ht : Tabs w) :
    Calls Tryd.prog 11 #[] w fun e w' => e = .returned (.bool true) ∧ Below w.heap.size w w' := by
  have HT := Lib.hid ht
  clear ht
  go_enter Tryd.func11, Tryd.ntmps11
  go_wp2_with fail
  refine (parse_any wText _ _ (Is.of _) (by decide) HT.out).mono ?_
  rw [w_parse]
  rintro e w1 ⟨⟨v, xs, rfl, hx, ho⟩, hb⟩
  obtain rfl := rulesL_inj hx
  have HB1 := Lib.hid hb
  have HL1 := Lib.hid ho.lie
  clear hx ho hb
  go_wp2_with fail
  refine (print_any v wRules _ HL1.out (by decide) w_short (HT.out.keep HB1.out)).mono ?_
  rw [w_print]
  rintro e w2 ⟨⟨s, hs, rfl⟩, hb⟩
  obtain rfl : s = ⟨wOut.toArray⟩ := hs.eq (Is.mk _)
  have HB2 := Lib.hid (HB1.out.trans (hb.mono HB1.out.size))
  have HL2 := Lib.hid (HL1.out.keep hb)
  clear hb hs
  have HB3 := Lib.hid (HB2.out.alloc HB2.out.size (.cells (cellsR wRules).toArray 44))
  have HL3 := Lib.hid (HL2.out.keep ((Below.refl w2.heap.size w2).alloc (Nat.le_refl _) (.cells (cellsR wRules).toArray 44)))
  go_wp2_with fail
  refine (same_any v _ wRules wRules _ HL3.out (lies_cells w2 wRules 44 2 rfl) (by decide) (by decide)).mono ?_
  rw [decide_eq_true rfl]
  rintro e w4 ⟨rfl, hb⟩
  have HB4 := Lib.hid (HB3.out.trans (hb.mono HB3.out.size))
  have HL4 := Lib.hid (HL3.out.keep hb)
  clear hb
  go_wp2_with fail
  refine (longer_any ⟨#[107]⟩ [107] v wRules _ rfl HL4.out (by decide)).mono ?_
  rw [w_long1]
  rintro e w5 ⟨rfl, hb⟩
  have HB5 := Lib.hid (HB4.out.trans (hb.mono HB4.out.size))
  have HL5 := Lib.hid (HL4.out.keep hb)
  clear hb
  go_wp2_with fail
  refine (longer_any ⟨#[107, 107]⟩ [107, 107] v wRules _ rfl HL5.out (by decide)).mono ?_
  rw [w_long2]
  rintro e w6 ⟨rfl, hb⟩
  have HB6 := Lib.hid (HB5.out.trans (hb.mono HB5.out.size))
  clear hb
  go_wp2_with fail
  go_ret
  exact ⟨rfl, HB6.out⟩
end Go.Proofs.YtgdcffahhpeibaaDoor
