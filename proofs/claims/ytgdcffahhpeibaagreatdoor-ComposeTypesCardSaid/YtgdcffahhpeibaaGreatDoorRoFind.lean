/-
  roman.Find, Longer with slices.IndexFunc, ContainsFunc and their closures; henkanref05.Find, Longer by their contracts. No condition but the lists' own bound.
-/
import Derived.Test.YtgdcffahhpeibaaGreatDoorRRules
import Derived.Laws.ResultCell
namespace Go.Proofs.YtgdcffahhpeibaaGreatDoor
open Go.RowKit
theorem beq_list (a b : ByteArray) : (a.toList == b.toList) = (a.data.toList == b.data.toList) := by rw [Lib.toList_data, Lib.toList_data]
/-- the first rule of xs for which p holds, as IndexFunc tells it -/
def FirstR (p : Ro.Rule → Bool) (xs : List RuleB) (e : Ending) : Prop :=
  (∃ (k : Nat) (r : RuleB), xs[k]? = some r ∧ (rulesL xs).find? p = some (ruleL r) ∧ e = .returned (.int .i64 (k : Int))) ∨ ((rulesL xs).find? p = none ∧ e = .returned (.int .i64 (-1)))
theorem find_at {α : Type} (p : α → Bool) : ∀ (l : List α) (k : Nat) (x : α), l[k]? = some x → (∀ j y, j < k → l[j]? = some y → p y = false) → p x = true → l.find? p = some x
  | [], k, x, h, _, _ => by simp at h
  | y :: l, 0, x, h, _, hp => by
    rw [List.getElem?_cons_zero] at h
    injection h with h
    subst h
    rw [List.find?_cons_of_pos hp]
  | y :: l, k + 1, x, h, hno, hp => by
    rw [List.getElem?_cons_succ] at h
    rw [List.find?_cons_of_neg (by rw [hno 0 y (by omega) rfl]; simp)]
    exact find_at p l k x h (fun j z hj hz => hno (j + 1) z (by omega) (by rw [List.getElem?_cons_succ]; exact hz)) hp
theorem find_no {α : Type} (p : α → Bool) (l : List α) (h : ∀ (j : Nat) y, l[j]? = some y → p y = false) : l.find? p = none := by
  rw [List.find?_eq_none]
  intro y hy
  obtain ⟨j, hj⟩ := List.getElem?_of_mem hy
  rw [h j y hj]
  simp
theorem rulesL_at (xs : List RuleB) (k : Nat) : (rulesL xs)[k]? = (xs[k]?).map ruleL := by unfold rulesL; rw [List.getElem?_map]
def eqK (k : List UInt8) (r : Ro.Rule) : Bool := r.1 == k
def lgK (k : List UInt8) (r : Ro.Rule) : Bool := decide (k.length < r.1.length) && r.1.take k.length == k
theorem find_eq (l : List Ro.Rule) (k : List UInt8) : Ro.find l k = l.find? (eqK k) := rfl
theorem longer_eq (l : List Ro.Rule) (k : List UInt8) : Ro.longer l k = l.any (lgK k) := rfl
theorem box3b (w : World) (o : Obj) (x y z : Value) (T : TypeId) :
    ((w.alloc o).alloc (.cells #[x, y, z] T)).cell? ⟨w.heap.size + 1, 0, none⟩ = some x ∧ ((w.alloc o).alloc (.cells #[x, y, z] T)).cell? ⟨w.heap.size + 1, 1, none⟩ = some y ∧ ((w.alloc o).alloc (.cells #[x, y, z] T)).cell? ⟨w.heap.size + 1, 2, none⟩ = some z := by
  have h0 := box3_0 (w.alloc o) x y z T
  have h1 := box3_1 (w.alloc o) x y z T
  have h2 := box3_2 (w.alloc o) x y z T
  simp only [World.size_alloc] at h0 h1 h2
  exact ⟨h0, h1, h2⟩
theorem box3f (w : World) (o : Obj) (x y z : Value) (T : TypeId) (j : Nat) : ((w.alloc o).alloc (.cells #[x, y, z] T)).frozen? ⟨w.heap.size + 1, j, none⟩ = false := by
  have h := (MapKept.heap_alloc (w.alloc o) (.cells #[x, y, z] T)).1
  simp only [World.size_alloc] at h
  exact Lib.frozen_of_heap h j
/-- what Find hands back -/
def FoundV (xs : List RuleB) (k : List UInt8) : Value := match xs.find? (fun r => r.1.data.toList == k) with
  | some r => .tuple #[ruleV r, .bool true]
  | none => .tuple #[ruleV (⟨#[]⟩, ⟨#[]⟩, ⟨#[]⟩), .bool false]
theorem find_map (p : Ro.Rule → Bool) (xs : List RuleB) : (rulesL xs).find? p = (xs.find? (fun r => p (ruleL r))).map ruleL := by
  induction xs with
  | nil => rfl
  | cons r xs ih =>
    show (ruleL r :: rulesL xs).find? p = _
    rw [List.find?_cons, List.find?_cons]
    cases p (ruleL r)
    · exact ih
    · rfl
theorem found_hit {xs : List RuleB} {k : List UInt8} {r : RuleB} (h : (rulesL xs).find? (eqK k) = some (ruleL r)) : FoundV xs k = .tuple #[ruleV r, .bool true] := by
  rw [find_map] at h
  unfold FoundV
  unfold eqK at h
  dsimp only [ruleL] at h
  cases hf : xs.find? (fun r => r.1.data.toList == k) with
  | none => rw [hf] at h; cases h
  | some r' =>
    rw [hf] at h
    injection h with h
    rw [ruleL_inj h]
theorem found_miss {xs : List RuleB} {k : List UInt8} (h : (rulesL xs).find? (eqK k) = none) : FoundV xs k = .tuple #[ruleV (⟨#[]⟩, ⟨#[]⟩, ⟨#[]⟩), .bool false] := by
  rw [find_map] at h
  unfold FoundV
  unfold eqK at h
  dsimp only [ruleL] at h
  cases hf : xs.find? (fun r => r.1.data.toList == k) with
  | none => rfl
  | some r' => rw [hf] at h; cases h
theorem found_find (xs : List RuleB) (k : List UInt8) : Ro.find (rulesL xs) k = (xs.find? (fun r => r.1.data.toList == k)).map ruleL := find_map _ xs
theorem any_of_find {α : Type} {p : α → Bool} {l : List α} {x : α} (h : l.find? p = some x) : l.any p = true := by
  rw [List.any_eq_true]
  exact ⟨x, List.mem_of_find?_eq_some h, List.find?_some h⟩
theorem any_of_none {α : Type} {p : α → Bool} {l : List α} (h : l.find? p = none) : l.any p = false := by
  rw [List.any_eq_false]
  exact fun x hx => by have := List.find?_eq_none.1 h x hx; exact this
set_option maxRecDepth 100000 in
set_option maxHeartbeats 2000000 in
theorem rfind_any (x : ByteArray) (l : List UInt8) (v : Value) (xs : List RuleB) (w : World) (hx : Is x l) (h : LieR v xs w) (hn : xs.length ≤ 1000000000000) :
    Calls Tryz.prog 136 #[v, .string x] w fun e w' => e = .returned (FoundV xs l) ∧ Below w.heap.size w w' := by
  have HB0 := Lib.hid ((Below.refl w.heap.size w).alloc (Nat.le_refl _) (.cells #[.string ⟨#[]⟩, .string ⟨#[]⟩, .string ⟨#[]⟩] 117))
  have HXD := Eqq.mk hx.data
  have HL := Lib.hid (h.keep HB0.out)
  obtain ⟨ao, cap, rfl, hcap, hxx⟩ := HL.out
  obtain ⟨n, hn2⟩ : ∃ n, xs.length = n := ⟨_, rfl⟩
  have HN := Eqq.mk hn2
  rw [hn2] at hn ⊢
  have HX := Lib.hid hxx
  clear h hx hcap hxx hn2
  go_enter Tryz.func136, Tryz.ntmps136
  go_wp2_with fail
  go_loop [6] (fun iv => ∃ k : Nat, k ≤ n ∧ iv = .int .i64 k ∧ (∀ (j : Nat) y, j < k → (rulesL xs)[j]? = some y → eqK l y = false)) (fun iv => n - (intOf iv).toNat)
  case atStart => exact ⟨0, Nat.zero_le _, rfl, fun j y hj => by omega⟩
  case round =>
    obtain ⟨k, hk, rfl, hno⟩ := hrel
    have HNO := Lib.hid hno
    clear hno
    by_cases hlt : k < n
    · have hkl : k < xs.length := by rw [HN.out]; exact hlt
      obtain ⟨r, hr⟩ : ∃ r, xs[k]? = some r := ⟨_, List.getElem?_eq_getElem hkl⟩
      obtain ⟨g, o, rfl, d1, d2, d3⟩ := HX.out k r hr
      have HRL := Eqq.mk (show (rulesL xs)[k]? = some (ruleL r) by rw [rulesL_at, hr]; rfl)
      obtain ⟨r1, r2, r3⟩ := r
      dsimp only at d1 d2 d3
      obtain ⟨b, hb⟩ : ∃ b, (r1.toList == x.toList) = b := ⟨_, rfl⟩
      have HP := Eqq.mk (show eqK l (ruleL (r1, r2, r3)) = b by unfold eqK ruleL; dsimp only; rw [← HXD.out, ← beq_list, hb])
      clear hr
      cases b
      · have HNX := Lib.hid (show ∀ (j : Nat) y, j < k + 1 → (rulesL xs)[j]? = some y → eqK l y = false by
          intro j y hj hy
          rcases Nat.lt_or_ge j k with h | h
          · exact HNO.out j y h hy
          · obtain rfl : j = k := by omega
            rw [HRL.out] at hy
            injection hy with hy
            subst hy
            exact HP.out)
        go_wp2_with fail
        go_round
        case rel => exact ⟨k + 1, by omega, by go_num, HNX.out⟩
        case measure => simp [intOf]; omega
      · have HF := Eqq.mk (found_hit (find_at (eqK l) _ k _ HRL.out HNO.out HP.out))
        go_wp2_with fail
        refine bodyPost_ret (v := .tuple #[ruleV (r1, r2, r3), .bool true]) (by simp [results, Tryz.results136, go_sem]) rfl ⟨by rw [HF.out], ?_⟩
        exact (Below.refl _ _).alloc (Nat.le_refl _) _
    · obtain rfl : k = n := by omega
      have HF := Eqq.mk (found_miss (find_no (eqK l) _ (fun j y hy => HNO.out j y (by
        rcases Nat.lt_or_ge j k with h | h
        · exact h
        · rw [rulesL_at, List.getElem?_eq_none (by rw [HN.out]; exact h)] at hy; cases hy) hy)))
      go_wp2_with fail
      refine bodyPost_ret (v := .tuple #[ruleV (⟨#[]⟩, ⟨#[]⟩, ⟨#[]⟩), .bool false]) (by simp [results, Tryz.results136, go_sem]) rfl ⟨by rw [HF.out], ?_⟩
      exact (Below.refl _ _).alloc (Nat.le_refl _) _
set_option maxRecDepth 100000 in
set_option maxHeartbeats 2000000 in
theorem rlonger_any (x : ByteArray) (l : List UInt8) (v : Value) (xs : List RuleB) (w : World) (hx : Is x l) (h : LieR v xs w) (hn : xs.length ≤ 1000000000000) :
    Calls Tryz.prog 118 #[v, .string x] w fun e w' => e = .returned (.bool (Ro.longer (rulesL xs) l)) ∧ w = w' := by
  have HXI := Lib.hid hx
  have hxs := hx.size
  have HXS := Eqq.mk hxs
  obtain ⟨ao, cap, rfl, hcap, hxx⟩ := h
  obtain ⟨n, hn2⟩ : ∃ n, xs.length = n := ⟨_, rfl⟩
  have HN := Eqq.mk hn2
  rw [hn2] at hn ⊢
  have HX := Lib.hid hxx
  clear hx hcap hxx hn2 hxs
  go_enter Tryz.func118, Tryz.ntmps118
  go_wp2_with fail
  go_loop [5] (fun iv => ∃ k : Nat, k ≤ n ∧ iv = .int .i64 k ∧ (∀ (j : Nat) y, j < k → (rulesL xs)[j]? = some y → lgK l y = false)) (fun iv => n - (intOf iv).toNat)
  case atStart => exact ⟨0, Nat.zero_le _, rfl, fun j y hj => by omega⟩
  case round =>
    obtain ⟨k, hk, rfl, hno⟩ := hrel
    have HNO := Lib.hid hno
    clear hno
    by_cases hlt : k < n
    · have hkl : k < xs.length := by rw [HN.out]; exact hlt
      obtain ⟨r, hr⟩ : ∃ r, xs[k]? = some r := ⟨_, List.getElem?_eq_getElem hkl⟩
      obtain ⟨g, o, rfl, d1, d2, d3⟩ := HX.out k r hr
      have HRL := Eqq.mk (show (rulesL xs)[k]? = some (ruleL r) by rw [rulesL_at, hr]; rfl)
      obtain ⟨r1, r2, r3⟩ := r
      dsimp only at d1 d2 d3
      clear hr
      have hks := (Is.of r1).size
      have next : lgK l (ruleL (r1, r2, r3)) = false → ∀ (j : Nat) y, j < k + 1 → (rulesL xs)[j]? = some y → lgK l y = false := by
        intro hp j y hj hy
        rcases Nat.lt_or_ge j k with h | h
        · exact HNO.out j y h hy
        · obtain rfl : j = k := by omega
          rw [HRL.out] at hy
          injection hy with hy
          subst hy
          exact hp
      by_cases hl : x.size < r1.size
      · have hd : decide (x.size < r1.size) = true := decide_eq_true hl
        obtain ⟨b, hb⟩ : ∃ b, ((r1.extract 0 x.size).toList == x.toList) = b := ⟨_, rfl⟩
        have hlg : lgK l (ruleL (r1, r2, r3)) = b := by
          unfold lgK ruleL
          dsimp only
          rw [decide_eq_true (by have := HXS.out; omega), Bool.true_and, ← hb, ((Is.of r1).upto x.size).list, HXI.out.list, HXS.out]
        cases b
        · have HNX := Lib.hid (next hlg)
          clear next hlg hks
          go_wp2_with fail
          go_round
          case rel => exact ⟨k + 1, by omega, by go_num, HNX.out⟩
          case measure => simp [intOf]; omega
        · have HF := Eqq.mk (any_of_find (find_at (lgK l) _ k _ HRL.out HNO.out hlg))
          clear next hlg hks
          go_wp2_with fail
          go_ret
          exact ⟨by rw [longer_eq, HF.out]; rfl, rfl⟩
      · have hd : decide (x.size < r1.size) = false := decide_eq_false hl
        have HNX := Lib.hid (next (by
          unfold lgK ruleL
          dsimp only
          rw [decide_eq_false (by have := HXS.out; omega), Bool.false_and]))
        clear next hks hl
        go_wp2_with fail
        go_round
        case rel => exact ⟨k + 1, by omega, by go_num, HNX.out⟩
        case measure => simp [intOf]; omega
    · obtain rfl : k = n := by omega
      have HF := Eqq.mk (any_of_none (find_no (lgK l) _ (fun j y hy => HNO.out j y (by
        rcases Nat.lt_or_ge j k with h | h
        · exact h
        · rw [rulesL_at, List.getElem?_eq_none (by rw [HN.out]; exact h)] at hy; cases hy) hy)))
      go_wp2_with fail
      go_ret
      exact ⟨by rw [longer_eq, HF.out]; rfl, rfl⟩
end Go.Proofs.YtgdcffahhpeibaaGreatDoor
