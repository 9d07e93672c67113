/-
  roman.Find, Longer with slices.IndexFunc, ContainsFunc and their closures; henkanref05.Find, Longer by their contracts. No condition but the lists' own bound.
-/
import Derived.Test.YtgdcffahhpeibaaDoorRRules
import Derived.Laws.ResultCell
namespace Go.Proofs.YtgdcffahhpeibaaDoor
open Go.RowKit
theorem beq_list (a b : ByteArray) : (a.toList == b.toList) = (a.data.toList == b.data.toList) := by rw [Lib.toList_data, Lib.toList_data]
/-- the first rule of xs for which p holds, as IndexFunc tells it -/
def FirstR (p : Ro.Rule → Bool) (xs : List RuleB) (e : Ending) : Prop :=
  (∃ (k : Nat) (r : RuleB), xs[k]? = some r ∧ (rulesL xs).find? p = some (ruleL r) ∧ e = .returned (.int .i64 (k : Int))) ∨ ((rulesL xs).find? p = none ∧ e = .returned (.int .i64 (-1)))
theorem find_at {α : Type} (p : α → Bool) : ∀ (l : List α) (k : Nat) (x : α), l[k]? = some x → (∀ j y, j < k → l[j]? = some y → p y = false) → p x = true → l.find? p = some x
  | [], k, x, h, _, _ => by simp at h
  | y :: l, 0, x, h, _, hp => by
    rw [List.getElem?_cons_zero] at h
    injection h with h
    subst h
    rw [List.find?_cons_of_pos hp]
  | y :: l, k + 1, x, h, hno, hp => by
    rw [List.getElem?_cons_succ] at h
    rw [List.find?_cons_of_neg (by rw [hno 0 y (by omega) rfl]; simp)]
    exact find_at p l k x h (fun j z hj hz => hno (j + 1) z (by omega) (by rw [List.getElem?_cons_succ]; exact hz)) hp
theorem find_no {α : Type} (p : α → Bool) (l : List α) (h : ∀ (j : Nat) y, l[j]? = some y → p y = false) : l.find? p = none := by
  rw [List.find?_eq_none]
  intro y hy
  obtain ⟨j, hj⟩ := List.getElem?_of_mem hy
  rw [h j y hj]
  simp
theorem rulesL_at (xs : List RuleB) (k : Nat) : (rulesL xs)[k]? = (xs[k]?).map ruleL := by unfold rulesL; rw [List.getElem?_map]
def eqK (k : List UInt8) (r : Ro.Rule) : Bool := r.1 == k
def lgK (k : List UInt8) (r : Ro.Rule) : Bool := decide (k.length < r.1.length) && r.1.take k.length == k
theorem find_eq (l : List Ro.Rule) (k : List UInt8) : Ro.find l k = l.find? (eqK k) := rfl
theorem longer_eq (l : List Ro.Rule) (k : List UInt8) : Ro.longer l k = l.any (lgK k) := rfl
theorem box3b (w : World) (o : Obj) (x y z : Value) (T : TypeId) :
    ((w.alloc o).alloc (.cells #[x, y, z] T)).cell? ⟨w.heap.size + 1, 0, none⟩ = some x ∧ ((w.alloc o).alloc (.cells #[x, y, z] T)).cell? ⟨w.heap.size + 1, 1, none⟩ = some y ∧ ((w.alloc o).alloc (.cells #[x, y, z] T)).cell? ⟨w.heap.size + 1, 2, none⟩ = some z := by
  have h0 := box3_0 (w.alloc o) x y z T
  have h1 := box3_1 (w.alloc o) x y z T
  have h2 := box3_2 (w.alloc o) x y z T
  simp only [World.size_alloc] at h0 h1 h2
  exact ⟨h0, h1, h2⟩
theorem box3f (w : World) (o : Obj) (x y z : Value) (T : TypeId) (j : Nat) : ((w.alloc o).alloc (.cells #[x, y, z] T)).frozen? ⟨w.heap.size + 1, j, none⟩ = false := by
  have h := (MapKept.heap_alloc (w.alloc o) (.cells #[x, y, z] T)).1
  simp only [World.size_alloc] at h
  exact Lib.frozen_of_heap h j
set_option maxRecDepth 100000 in
set_option maxHeartbeats 1000000 in
theorem clo_find (x : ByteArray) (r : RuleB) (c : Nat) (w : World) (hc : w.cell? ⟨c, 0, none⟩ = some (.string x)) :
    Calls Tryd.prog 31 #[ruleV r, .pointer (some ⟨c, 0, none⟩)] w fun e w' => e = .returned (.bool (eqK x.data.toList (ruleL r))) ∧ Below w.heap.size w w' := by
  obtain ⟨k, o, n⟩ := r
  have hlt := World.block_lt_of_cell? w _ hc
  have HE := Eqq.mk (beq_list k x)
  dsimp only [ruleV, ruleL, eqK]
  rw [← HE.out]
  go_enter Tryd.func31, Tryd.ntmps31
  go_wp2_with fail
  go_ret
  exact ⟨rfl, (Below.refl _ _).alloc (Nat.le_refl _) _⟩
set_option maxRecDepth 100000 in
set_option maxHeartbeats 2000000 in
theorem idx_find (x : ByteArray) (c : Nat) (v : Value) (xs : List RuleB) (w : World) (h : LieR v xs w) (hn : xs.length ≤ 1000000000000) (hc : w.cell? ⟨c, 0, none⟩ = some (.string x)) :
    Calls Tryd.prog 30 #[v, .func (.func 31) #[] #[.pointer (some ⟨c, 0, none⟩)]] w fun e w' => FirstR (eqK x.data.toList) xs e ∧ Below w.heap.size w w' := by
  have HL := Lib.hid h
  have HC := Lib.hid hc
  obtain ⟨ao, cap, rfl, hcap, hx⟩ := h
  obtain ⟨n, hn2⟩ : ∃ n, xs.length = n := ⟨_, rfl⟩
  have HN := Eqq.mk hn2
  rw [hn2] at hn ⊢
  have HX := Lib.hid hx
  clear hc hx hn2 hcap
  go_enter Tryd.func30, Tryd.ntmps30
  go_wp2_with fail
  go_loopw [8] (fun iv wr => ∃ k : Nat, k ≤ n ∧ iv = .int .i64 k ∧ (∀ (j : Nat) y, j < k → (rulesL xs)[j]? = some y → eqK x.data.toList y = false) ∧ Below w.heap.size w wr) (fun iv _ => n - (intOf iv).toNat)
  case atStart => exact ⟨0, Nat.zero_le _, rfl, fun j y hj => by omega, Below.refl _ _⟩
  case round =>
    obtain ⟨k, hk, rfl, hno, hb⟩ := hrel
    have HNO := Lib.hid hno
    have HB := Lib.hid hb
    clear hno hb
    by_cases hlt : k < n
    · have hkl : k < xs.length := by rw [HN.out]; exact hlt
      obtain ⟨r, hr⟩ : ∃ r, xs[k]? = some r := ⟨_, List.getElem?_eq_getElem hkl⟩
      obtain ⟨g, o, rfl, d1, d2, d3⟩ := HX.out k r hr
      have c1 := below_cellU d1 HB.out (Nat.le_refl _)
      have c2 := below_cellU d2 HB.out (Nat.le_refl _)
      have c3 := below_cellU d3 HB.out (Nat.le_refl _)
      have HCC := Lib.hid (below_cellU HC.out HB.out (Nat.le_refl _))
      have HR := Eqq.mk hr
      have HRL := Eqq.mk (show (rulesL xs)[k]? = some (ruleL r) by rw [rulesL_at, hr]; rfl)
      obtain ⟨b, hb⟩ : ∃ b, eqK x.data.toList (ruleL r) = b := ⟨_, rfl⟩
      have HP := Eqq.mk hb
      clear hr hb d1 d2 d3
      cases b
      · go_wp2_with fail
        with_reducible refine (clo_find x r c _ HCC.out).mono ?_
        rw [HP.out]
        rintro e w2 ⟨rfl, hb2⟩
        have HB2 := Lib.hid (HB.out.trans (hb2.mono HB.out.size))
        clear hb2
        have HNX := Lib.hid (show ∀ (j : Nat) y, j < k + 1 → (rulesL xs)[j]? = some y → eqK x.data.toList y = false by
          intro j y hj hy
          rcases Nat.lt_or_ge j k with h | h
          · exact HNO.out j y h hy
          · obtain rfl : j = k := by omega
            rw [HRL.out] at hy
            injection hy with hy
            subst hy
            exact HP.out)
        go_wp2_with fail
        go_roundw
        case rel => exact ⟨k + 1, by omega, by go_num, HNX.out, HB2.out⟩
        case measure => simp [intOf]; omega
      · go_wp2_with fail
        with_reducible refine (clo_find x r c _ HCC.out).mono ?_
        rw [HP.out]
        rintro e w2 ⟨rfl, hb2⟩
        have HB2 := Lib.hid (HB.out.trans (hb2.mono HB.out.size))
        clear hb2
        go_wp2_with fail
        go_ret
        exact ⟨.inl ⟨k, r, HR.out, find_at (eqK x.data.toList) _ k _ HRL.out HNO.out HP.out, rfl⟩, HB2.out⟩
    · obtain rfl : k = n := by omega
      go_wp2_with fail
      go_ret
      refine ⟨.inr ⟨find_no (eqK x.data.toList) _ (fun j y hy => HNO.out j y ?_ hy), rfl⟩, HB.out⟩
      rcases Nat.lt_or_ge j k with h | h
      · exact h
      · rw [rulesL_at, List.getElem?_eq_none (by rw [HN.out]; exact h)] at hy; cases hy
/-- what Find hands back -/
def FoundV (xs : List RuleB) (k : List UInt8) : Value := match xs.find? (fun r => r.1.data.toList == k) with
  | some r => .tuple #[ruleV r, .bool true]
  | none => .tuple #[ruleV (⟨#[]⟩, ⟨#[]⟩, ⟨#[]⟩), .bool false]
theorem find_map (p : Ro.Rule → Bool) (xs : List RuleB) : (rulesL xs).find? p = (xs.find? (fun r => p (ruleL r))).map ruleL := by
  induction xs with
  | nil => rfl
  | cons r xs ih =>
    show (ruleL r :: rulesL xs).find? p = _
    rw [List.find?_cons, List.find?_cons]
    cases p (ruleL r)
    · exact ih
    · rfl
theorem found_hit {xs : List RuleB} {k : List UInt8} {r : RuleB} (h : (rulesL xs).find? (eqK k) = some (ruleL r)) : FoundV xs k = .tuple #[ruleV r, .bool true] := by
  rw [find_map] at h
  unfold FoundV
  unfold eqK at h
  dsimp only [ruleL] at h
  cases hf : xs.find? (fun r => r.1.data.toList == k) with
  | none => rw [hf] at h; cases h
  | some r' =>
    rw [hf] at h
    injection h with h
    rw [ruleL_inj h]
theorem found_miss {xs : List RuleB} {k : List UInt8} (h : (rulesL xs).find? (eqK k) = none) : FoundV xs k = .tuple #[ruleV (⟨#[]⟩, ⟨#[]⟩, ⟨#[]⟩), .bool false] := by
  rw [find_map] at h
  unfold FoundV
  unfold eqK at h
  dsimp only [ruleL] at h
  cases hf : xs.find? (fun r => r.1.data.toList == k) with
  | none => rfl
  | some r' => rw [hf] at h; cases h
theorem found_find (xs : List RuleB) (k : List UInt8) : Ro.find (rulesL xs) k = (xs.find? (fun r => r.1.data.toList == k)).map ruleL := find_map _ xs
set_option maxRecDepth 100000 in
set_option maxHeartbeats 2000000 in
theorem find_any (x : ByteArray) (l : List UInt8) (v : Value) (xs : List RuleB) (w : World) (hx : Is x l) (h : LieR v xs w) (hn : xs.length ≤ 1000000000000) :
    Calls Tryd.prog 16 #[v, .string x] w fun e w' => e = .returned (FoundV xs l) ∧ Below w.heap.size w w' := by
  have HB0 := Lib.hid (((Below.refl w.heap.size w).alloc (Nat.le_refl _) (.cells #[.string x] 9)).alloc (by simp) (.cells #[.string ⟨#[]⟩, .string ⟨#[]⟩, .string ⟨#[]⟩] 39))
  have HL := Lib.hid (h.keep HB0.out)
  have HLL := Lib.hid h
  have HXD := Eqq.mk hx.data
  have hcx : ((w.alloc (.cells #[.string x] 9)).alloc (.cells #[.string ⟨#[]⟩, .string ⟨#[]⟩, .string ⟨#[]⟩] 39)).cell? ⟨w.heap.size, 0, none⟩ = some (.string x) := by go_simp
  have HCX := Lib.hid hcx
  clear h hcx hx
  go_enter Tryd.func16, Tryd.ntmps16
  go_wp2_with fail
  with_reducible refine (idx_find x w.heap.size v xs _ HL.out hn HCX.out).mono ?_
  rw [HXD.out]
  rintro e w2 ⟨⟨k, r, h1, h2, rfl⟩ | ⟨h0, rfl⟩, hb2⟩
  · have HF := Eqq.mk (found_hit h2)
    have HB2 := Lib.hid (HB0.out.trans (hb2.mono HB0.out.size))
    have HL2 := Lib.hid (HLL.out.below HB2.out (Nat.le_refl _))
    obtain ⟨ao, cap, rfl, hcap, hxx⟩ := HL2.out
    obtain ⟨g, o, rfl, d1, d2, d3⟩ := hxx k r h1
    have hkl : k < xs.length := by
      rcases Nat.lt_or_ge k xs.length with h' | h'
      · exact h'
      · rw [List.getElem?_eq_none h'] at h1; cases h1
    obtain ⟨r1, r2, r3⟩ := r
    dsimp only at d1 d2 d3 HF
    obtain ⟨a0, a1, a2⟩ := box3b w (.cells #[.string x] 9) (.string ⟨#[]⟩) (.string ⟨#[]⟩) (.string ⟨#[]⟩) 39
    have af := box3f w (.cells #[.string x] 9) (.string ⟨#[]⟩) (.string ⟨#[]⟩) (.string ⟨#[]⟩) 39
    have hbz : w.heap.size + 1 < w2.heap.size := by have := hb2.size; simp at this; omega
    have e0 : w2.cell? ⟨w.heap.size + 1, 0, none⟩ = some (.string ⟨#[]⟩) := below_cellU a0 hb2 (Nat.le_refl _)
    have e1 : w2.cell? ⟨w.heap.size + 1, 1, none⟩ = some (.string ⟨#[]⟩) := below_cellU a1 hb2 (Nat.le_refl _)
    have e2 : w2.cell? ⟨w.heap.size + 1, 2, none⟩ = some (.string ⟨#[]⟩) := below_cellU a2 hb2 (Nat.le_refl _)
    have g0 : w2.frozen? ⟨w.heap.size + 1, 0, none⟩ = false := (hb2.frozen (p := ⟨w.heap.size + 1, 0, none⟩) (by simp)).trans (af 0)
    have g1 : w2.frozen? ⟨w.heap.size + 1, 1, none⟩ = false := (hb2.frozen (p := ⟨w.heap.size + 1, 1, none⟩) (by simp)).trans (af 1)
    have g2 : w2.frozen? ⟨w.heap.size + 1, 2, none⟩ = false := (hb2.frozen (p := ⟨w.heap.size + 1, 2, none⟩) (by simp)).trans (af 2)
    clear a0 a1 a2 af
    clear h1 h2 hxx hcap hb2
    go_wp2_with fail
    refine bodyPost_ret (v := .tuple #[ruleV (r1, r2, r3), .bool true]) (by simp [results, Tryd.results16, go_sem, e0, e1, e2]) rfl ⟨by rw [HF.out], ?_⟩
    exact ((HB2.out.setCell (p := ⟨w.heap.size + 1, 0, none⟩) (by simp) _).setCell (p := ⟨w.heap.size + 1, 1, none⟩) (by simp) _).setCell (p := ⟨w.heap.size + 1, 2, none⟩) (by simp) _
  · have HF := Eqq.mk (found_miss h0)
    have HB2 := Lib.hid (HB0.out.trans (hb2.mono HB0.out.size))
    obtain ⟨a0, a1, a2⟩ := box3b w (.cells #[.string x] 9) (.string ⟨#[]⟩) (.string ⟨#[]⟩) (.string ⟨#[]⟩) 39
    have af := box3f w (.cells #[.string x] 9) (.string ⟨#[]⟩) (.string ⟨#[]⟩) (.string ⟨#[]⟩) 39
    have hbz : w.heap.size + 1 < w2.heap.size := by have := hb2.size; simp at this; omega
    have e0 : w2.cell? ⟨w.heap.size + 1, 0, none⟩ = some (.string ⟨#[]⟩) := below_cellU a0 hb2 (Nat.le_refl _)
    have e1 : w2.cell? ⟨w.heap.size + 1, 1, none⟩ = some (.string ⟨#[]⟩) := below_cellU a1 hb2 (Nat.le_refl _)
    have e2 : w2.cell? ⟨w.heap.size + 1, 2, none⟩ = some (.string ⟨#[]⟩) := below_cellU a2 hb2 (Nat.le_refl _)
    have g0 : w2.frozen? ⟨w.heap.size + 1, 0, none⟩ = false := (hb2.frozen (p := ⟨w.heap.size + 1, 0, none⟩) (by simp)).trans (af 0)
    have g1 : w2.frozen? ⟨w.heap.size + 1, 1, none⟩ = false := (hb2.frozen (p := ⟨w.heap.size + 1, 1, none⟩) (by simp)).trans (af 1)
    have g2 : w2.frozen? ⟨w.heap.size + 1, 2, none⟩ = false := (hb2.frozen (p := ⟨w.heap.size + 1, 2, none⟩) (by simp)).trans (af 2)
    clear a0 a1 a2 af
    clear h0 hb2
    go_wp2_with fail
    refine bodyPost_ret (v := .tuple #[ruleV (⟨#[]⟩, ⟨#[]⟩, ⟨#[]⟩), .bool false]) (by simp [results, Tryd.results16, go_sem, e0, e1, e2]) rfl ⟨by rw [HF.out], ?_⟩
    exact ((HB2.out.setCell (p := ⟨w.heap.size + 1, 0, none⟩) (by simp) _).setCell (p := ⟨w.heap.size + 1, 1, none⟩) (by simp) _).setCell (p := ⟨w.heap.size + 1, 2, none⟩) (by simp) _
theorem any_of_find {α : Type} {p : α → Bool} {l : List α} {x : α} (h : l.find? p = some x) : l.any p = true := by
  rw [List.any_eq_true]
  exact ⟨x, List.mem_of_find?_eq_some h, List.find?_some h⟩
theorem any_of_none {α : Type} {p : α → Bool} {l : List α} (h : l.find? p = none) : l.any p = false := by
  rw [List.any_eq_false]
  exact fun x hx => by have := List.find?_eq_none.1 h x hx; exact this
theorem hasPrefix_take (s p : List UInt8) : Lib.hasPrefix s p = (s.take p.length == p) := by
  rw [Bool.eq_iff_iff, beq_iff_eq]
  unfold Lib.hasPrefix
  rw [List.isPrefixOf_iff_prefix, List.prefix_iff_eq_take]
  exact ⟨fun h => h.symm, fun h => h.symm⟩
set_option maxRecDepth 100000 in
set_option maxHeartbeats 1000000 in
theorem clo_longer (x : ByteArray) (r : RuleB) (c : Nat) (w : World) (hc : w.cell? ⟨c, 0, none⟩ = some (.string x)) :
    Calls Tryd.prog 33 #[ruleV r, .pointer (some ⟨c, 0, none⟩)] w fun e w' => e = .returned (.bool (lgK x.data.toList (ruleL r))) ∧ Below w.heap.size w w' := by
  obtain ⟨k, o, n⟩ := r
  have hlt := World.block_lt_of_cell? w _ hc
  have hxs := (Is.of x).size
  have hks := (Is.of k).size
  dsimp only [ruleV]
  by_cases hl : x.size < k.size
  · obtain ⟨R, hR⟩ : ∃ R, lgK x.data.toList (ruleL (k, o, n)) = R := ⟨_, rfl⟩
    have HP := Eqq.mk (show Lib.hasPrefix k.data.toList x.data.toList = R by
      rw [hasPrefix_take, ← hR]
      unfold lgK ruleL
      dsimp only
      rw [decide_eq_true (by omega), Bool.true_and])
    have hd : decide (x.size < k.size) = true := decide_eq_true hl
    rw [hR]
    clear hR hxs hks hl
    go_enter Tryd.func33, Tryd.ntmps33
    go_wp2_with fail
    with_reducible refine (Tryd.strings_HasPrefix k x _).mono ?_
    rw [HP.out]
    rintro e w2 ⟨rfl, rfl⟩
    go_wp2_with fail
    go_ret
    exact ⟨rfl, (Below.refl _ _).alloc (Nat.le_refl _) _⟩
  · have HR := Eqq.mk (show lgK x.data.toList (ruleL (k, o, n)) = false by
      unfold lgK ruleL
      dsimp only
      rw [decide_eq_false (by omega), Bool.false_and])
    have hd : decide (x.size < k.size) = false := decide_eq_false hl
    clear hxs hks hl
    go_enter Tryd.func33, Tryd.ntmps33
    go_wp2_with fail
    go_ret
    exact ⟨by rw [HR.out]; rfl, (Below.refl _ _).alloc (Nat.le_refl _) _⟩
set_option maxRecDepth 100000 in
set_option maxHeartbeats 2000000 in
theorem idx_longer (x : ByteArray) (c : Nat) (v : Value) (xs : List RuleB) (w : World) (h : LieR v xs w) (hn : xs.length ≤ 1000000000000) (hc : w.cell? ⟨c, 0, none⟩ = some (.string x)) :
    Calls Tryd.prog 30 #[v, .func (.func 33) #[] #[.pointer (some ⟨c, 0, none⟩)]] w fun e w' => FirstR (lgK x.data.toList) xs e ∧ Below w.heap.size w w' := by
  have HL := Lib.hid h
  have HC := Lib.hid hc
  obtain ⟨ao, cap, rfl, hcap, hx⟩ := h
  obtain ⟨n, hn2⟩ : ∃ n, xs.length = n := ⟨_, rfl⟩
  have HN := Eqq.mk hn2
  rw [hn2] at hn ⊢
  have HX := Lib.hid hx
  clear hc hx hn2 hcap
  go_enter Tryd.func30, Tryd.ntmps30
  go_wp2_with fail
  go_loopw [8] (fun iv wr => ∃ k : Nat, k ≤ n ∧ iv = .int .i64 k ∧ (∀ (j : Nat) y, j < k → (rulesL xs)[j]? = some y → lgK x.data.toList y = false) ∧ Below w.heap.size w wr) (fun iv _ => n - (intOf iv).toNat)
  case atStart => exact ⟨0, Nat.zero_le _, rfl, fun j y hj => by omega, Below.refl _ _⟩
  case round =>
    obtain ⟨k, hk, rfl, hno, hb⟩ := hrel
    have HNO := Lib.hid hno
    have HB := Lib.hid hb
    clear hno hb
    by_cases hlt : k < n
    · have hkl : k < xs.length := by rw [HN.out]; exact hlt
      obtain ⟨r, hr⟩ : ∃ r, xs[k]? = some r := ⟨_, List.getElem?_eq_getElem hkl⟩
      obtain ⟨g, o, rfl, d1, d2, d3⟩ := HX.out k r hr
      have c1 := below_cellU d1 HB.out (Nat.le_refl _)
      have c2 := below_cellU d2 HB.out (Nat.le_refl _)
      have c3 := below_cellU d3 HB.out (Nat.le_refl _)
      have HCC := Lib.hid (below_cellU HC.out HB.out (Nat.le_refl _))
      have HR := Eqq.mk hr
      have HRL := Eqq.mk (show (rulesL xs)[k]? = some (ruleL r) by rw [rulesL_at, hr]; rfl)
      obtain ⟨b, hb⟩ : ∃ b, lgK x.data.toList (ruleL r) = b := ⟨_, rfl⟩
      have HP := Eqq.mk hb
      clear hr hb d1 d2 d3
      cases b
      · go_wp2_with fail
        with_reducible refine (clo_longer x r c _ HCC.out).mono ?_
        rw [HP.out]
        rintro e w2 ⟨rfl, hb2⟩
        have HB2 := Lib.hid (HB.out.trans (hb2.mono HB.out.size))
        clear hb2
        have HNX := Lib.hid (show ∀ (j : Nat) y, j < k + 1 → (rulesL xs)[j]? = some y → lgK x.data.toList y = false by
          intro j y hj hy
          rcases Nat.lt_or_ge j k with h | h
          · exact HNO.out j y h hy
          · obtain rfl : j = k := by omega
            rw [HRL.out] at hy
            injection hy with hy
            subst hy
            exact HP.out)
        go_wp2_with fail
        go_roundw
        case rel => exact ⟨k + 1, by omega, by go_num, HNX.out, HB2.out⟩
        case measure => simp [intOf]; omega
      · go_wp2_with fail
        with_reducible refine (clo_longer x r c _ HCC.out).mono ?_
        rw [HP.out]
        rintro e w2 ⟨rfl, hb2⟩
        have HB2 := Lib.hid (HB.out.trans (hb2.mono HB.out.size))
        clear hb2
        go_wp2_with fail
        go_ret
        exact ⟨.inl ⟨k, r, HR.out, find_at (lgK x.data.toList) _ k _ HRL.out HNO.out HP.out, rfl⟩, HB2.out⟩
    · obtain rfl : k = n := by omega
      go_wp2_with fail
      go_ret
      refine ⟨.inr ⟨find_no (lgK x.data.toList) _ (fun j y hy => HNO.out j y ?_ hy), rfl⟩, HB.out⟩
      rcases Nat.lt_or_ge j k with h | h
      · exact h
      · rw [rulesL_at, List.getElem?_eq_none (by rw [HN.out]; exact h)] at hy; cases hy
set_option maxRecDepth 100000 in
set_option maxHeartbeats 1000000 in
theorem contains_longer (x : ByteArray) (c : Nat) (v : Value) (xs : List RuleB) (w : World) (h : LieR v xs w) (hn : xs.length ≤ 1000000000000) (hc : w.cell? ⟨c, 0, none⟩ = some (.string x)) :
    Calls Tryd.prog 32 #[v, .func (.func 33) #[] #[.pointer (some ⟨c, 0, none⟩)]] w fun e w' => e = .returned (.bool ((rulesL xs).any (lgK x.data.toList))) ∧ Below w.heap.size w w' := by
  have HL := Lib.hid h
  have HC := Lib.hid hc
  clear h hc
  go_enter Tryd.func32, Tryd.ntmps32
  go_wp2_with fail
  with_reducible refine (idx_longer x c v xs _ HL.out hn HC.out).mono ?_
  rintro e w2 ⟨⟨k, r, h1, h2, rfl⟩ | ⟨h0, rfl⟩, hb2⟩
  · have HR := Eqq.mk (any_of_find h2)
    have HB := Lib.hid hb2
    clear h1 h2 hb2
    go_wp2_with fail
    go_ret
    exact ⟨by rw [HR.out]; rfl, HB.out⟩
  · have HR := Eqq.mk (any_of_none h0)
    have HB := Lib.hid hb2
    clear h0 hb2
    go_wp2_with fail
    go_ret
    exact ⟨by rw [HR.out]; rfl, HB.out⟩
set_option maxRecDepth 100000 in
set_option maxHeartbeats 1000000 in
theorem longer_any (x : ByteArray) (l : List UInt8) (v : Value) (xs : List RuleB) (w : World) (hx : Is x l) (h : LieR v xs w) (hn : xs.length ≤ 1000000000000) :
    Calls Tryd.prog 17 #[v, .string x] w fun e w' => e = .returned (.bool (Ro.longer (rulesL xs) l)) ∧ Below w.heap.size w w' := by
  have HB0 := Lib.hid ((Below.refl w.heap.size w).alloc (Nat.le_refl _) (.cells #[.string x] 9))
  have HL := Lib.hid (h.keep HB0.out)
  have HR := Eqq.mk (show Ro.longer (rulesL xs) l = (rulesL xs).any (lgK x.data.toList) by rw [hx.data]; rfl)
  have hcx : (w.alloc (.cells #[.string x] 9)).cell? ⟨w.heap.size, 0, none⟩ = some (.string x) := by go_simp
  have HCX := Lib.hid hcx
  clear h hcx hx
  go_enter Tryd.func17, Tryd.ntmps17
  go_wp2_with fail
  with_reducible refine (contains_longer x w.heap.size v xs _ HL.out hn HCX.out).mono ?_
  rw [← HR.out]
  rintro e w2 ⟨rfl, hb2⟩
  have HB := Lib.hid (HB0.out.trans (hb2.mono HB0.out.size))
  clear hb2
  go_wp2_with fail
  go_ret
  exact ⟨rfl, HB.out⟩
end Go.Proofs.YtgdcffahhpeibaaDoor
