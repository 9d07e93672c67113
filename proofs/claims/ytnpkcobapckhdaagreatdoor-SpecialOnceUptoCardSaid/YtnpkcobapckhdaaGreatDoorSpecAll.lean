/-
  Texts merged: SpecFind, SpecTabs, SpecApp, SpecMath, SpecOf, SpecRef, SpecLaw.
-/
import Derived.Test.YtnpkcobapckhdaaGreatDoorUtfAll
import Derived.BigQuiet
import Derived.Deep.QuietTactic
import Derived.Test.YtnpkcobapckhdaaGreatDoorCalEra
import Derived.Test.YtnpkcobapckhdaaGreatDoorStrs
import Derived.Laws.AppendOwnNone
import Derived.Below
import Derived.Test.YtnpkcobapckhdaaGreatDoorForms
import Derived.Test.YtnpkcobapckhdaaGreatDoorRForms
import Derived.Test.YtnpkcobapckhdaaGreatDoorGTabs
import Derived.Test.YtnpkcobapckhdaaGreatDoorCalLaw
namespace Go.Proofs.YtnpkcobapckhdaaGreatDoor
open Go.RowKit

/-! ### int -/
set_option maxRecDepth 100000 in
set_option maxHeartbeats 1000000 in
theorem clo_int (nm x : ByteArray) (v : Int) (c : Nat) (w : World) (hc : w.cell? ⟨c, 0, none⟩ = some (.string x)) :
    Calls Tryz.prog 76 #[.agg #[.string nm, .int .i64 v], .pointer (some ⟨c, 0, none⟩)] w fun e w' => e = .returned (.bool (nm.toList == x.toList)) ∧ Below w.heap.size w w' := by
  have hlt := World.block_lt_of_cell? w _ hc
  go_enter Tryz.func76, Tryz.ntmps76
  go_wp2_with fail
  go_ret
  exact ⟨rfl, (Below.refl _ _).alloc (Nat.le_refl _) _⟩
/-- a table of rows as it lies in block b -/
def TabAt_int (b : Nat) (t : List (ByteArray × Int)) (w : World) : Prop := ∀ (k : Nat) (x : ByteArray) (v : Int), t[k]? = some (x, v) → w.cell? ⟨b, k * 2, none⟩ = some (.string x) ∧ w.cell? ⟨b, k * 2 + 1, none⟩ = some (.int .i64 v)
theorem TabAt_int.below {b : Nat} {t : List (ByteArray × Int)} {w w' : World} {B : Nat} (h : TabAt_int b t w) (hb : Below B w w') (hB : w.heap.size ≤ B) : TabAt_int b t w' := fun k x v hk => ⟨below_cellU (h k x v hk).1 hb hB, below_cellU (h k x v hk).2 hb hB⟩
/-- the first row of that name -/
def FirstAt_int (t : List (ByteArray × Int)) (x : ByteArray) (e : Ending) : Prop :=
  (∃ (k : Nat) (v : ByteArray × Int), t[k]? = some v ∧ v.1.toList = x.toList ∧ (∀ (j : Nat) (y : ByteArray × Int), j < k → t[j]? = some y → y.1.toList ≠ x.toList) ∧ e = .returned (.int .i64 (k : Int))) ∨ ((∀ (j : Nat) y, t[j]? = some y → y.1.toList ≠ x.toList) ∧ e = .returned (.int .i64 (-1)))
set_option maxRecDepth 100000 in
set_option maxHeartbeats 1000000 in
theorem idx_int (b c n : Nat) (t : List (ByteArray × Int)) (x : ByteArray) (w : World) (hn : t.length = n) (h9 : n ≤ 100) (ht : TabAt_int b t w) (hc : w.cell? ⟨c, 0, none⟩ = some (.string x)) :
    Calls Tryz.prog 75 #[.slice (some ⟨b, 0, none⟩) n n, .func (.func 76) #[] #[.pointer (some ⟨c, 0, none⟩)]] w fun e w' => FirstAt_int t x e ∧ Below w.heap.size w w' := by
  have HT := Lib.hid ht
  have HC := Lib.hid hc
  have HN := Eqv2.mk hn
  clear ht hc hn
  go_enter Tryz.func75, Tryz.ntmps75
  go_wp2_with fail
  go_loopw [8] (fun kv wr => ∃ k : Nat, k ≤ n ∧ kv = .int .i64 k ∧ (∀ (j : Nat) y, j < k → t[j]? = some y → y.1.toList ≠ x.toList) ∧ Below w.heap.size w wr) (fun kv _ => n - (intOf kv).toNat)
  case atStart => exact ⟨0, Nat.zero_le _, rfl, fun j y hj => by omega, Below.refl _ _⟩
  case round =>
    obtain ⟨k, hk, rfl, hno, hb⟩ := hrel
    have HNO := Lib.hid hno
    have HB := Lib.hid hb
    clear hno hb
    by_cases hlt : k < n
    · have hkl : k < t.length := by rw [HN.out]; exact hlt
      obtain ⟨nm, v, hnv⟩ : ∃ nm v, t[k] = (nm, v) := ⟨_, _, rfl⟩
      have hkv : t[k]? = some (nm, v) := by rw [List.getElem?_eq_getElem hkl, hnv]
      obtain ⟨d1, d2⟩ := HT.out k nm v hkv
      have c1 : wr.cell? ⟨b, k * 2, none⟩ = some (.string nm) := below_cellU d1 HB.out (Nat.le_refl _)
      have c2 : wr.cell? ⟨b, k * 2 + 1, none⟩ = some (.int .i64 v) := below_cellU d2 HB.out (Nat.le_refl _)
      have hcc : wr.cell? ⟨c, 0, none⟩ = some (.string x) := below_cellU HC.out HB.out (Nat.le_refl _)
      have HKV := Eqv2.mk hkv
      have HCC := Lib.hid hcc
      clear hnv hkv d1 d2 hcc
      cases he : (nm.toList == x.toList)
      · have HE := Eqv2.mk he
        clear he
        go_wp2_with fail
        with_reducible refine (clo_int nm x v c _ HCC.out).mono ?_
        rw [HE.out]
        rintro e w2 ⟨rfl, hb2⟩
        have HB2 := Lib.hid (HB.out.trans (hb2.mono HB.out.size))
        clear hb2
        have HNX := Lib.hid (show ∀ (j : Nat) y, j < k + 1 → t[j]? = some y → y.1.toList ≠ x.toList by
          intro j y hj hy
          rcases Nat.lt_or_ge j k with h | h
          · exact HNO.out j y h hy
          · obtain rfl : j = k := by omega
            rw [HKV.out] at hy
            injection hy with hy
            subst hy
            exact beq_eq_false_iff_ne.1 HE.out)
        go_wp2_with fail
        go_roundw
        case rel => exact ⟨k + 1, by omega, by go_num, HNX.out, HB2.out⟩
        case measure => simp [intOf]; omega
      · have HE := Eqv2.mk he
        clear he
        go_wp2_with fail
        with_reducible refine (clo_int nm x v c _ HCC.out).mono ?_
        rw [HE.out]
        rintro e w2 ⟨rfl, hb2⟩
        have HB2 := Lib.hid (HB.out.trans (hb2.mono HB.out.size))
        clear hb2
        go_wp2_with fail
        go_ret
        exact ⟨.inl ⟨k, (nm, v), HKV.out, eq_of_beq HE.out, HNO.out, rfl⟩, HB2.out⟩
    · obtain rfl : k = n := by omega
      go_wp2_with fail
      go_ret
      refine ⟨.inr ⟨fun j y hy => HNO.out j y ?_ hy, rfl⟩, HB.out⟩
      rcases Nat.lt_or_ge j k with h | h
      · exact h
      · rw [List.getElem?_eq_none (by rw [HN.out]; exact h)] at hy; cases hy
/-- what find answers -/
def FoundV_int (t : List (ByteArray × Int)) (x : ByteArray) : Value := match t.find? (fun y => y.1.toList == x.toList) with
  | some y => .tuple #[.int .i64 y.2, .bool true]
  | none => .tuple #[.int .i64 0, .bool false]
theorem found_hit_int {t : List (ByteArray × Int)} {x : ByteArray} {k : Nat} {v : ByteArray × Int} (h1 : t[k]? = some v) (h2 : v.1.toList = x.toList) (h3 : ∀ (j : Nat) (y : ByteArray × Int), j < k → t[j]? = some y → y.1.toList ≠ x.toList) : FoundV_int t x = .tuple #[.int .i64 v.2, .bool true] := by
  have : t.find? (fun y => y.1.toList == x.toList) = some v := by
    have hk : k < t.length := by
      rcases Nat.lt_or_ge k t.length with h | h
      · exact h
      · rw [List.getElem?_eq_none h] at h1; cases h1
    rw [List.find?_eq_some_iff_getElem]
    refine ⟨by rw [beq_iff_eq]; exact h2, k, hk, ?_, fun j hj => ?_⟩
    · rw [List.getElem?_eq_getElem hk] at h1; exact Option.some.inj h1
    · have := h3 j t[j] hj (List.getElem?_eq_getElem (by omega))
      simpa using this
  unfold FoundV_int; rw [this]
theorem found_miss_int {t : List (ByteArray × Int)} {x : ByteArray} (h : ∀ (j : Nat) y, t[j]? = some y → y.1.toList ≠ x.toList) : FoundV_int t x = .tuple #[.int .i64 0, .bool false] := by
  have : t.find? (fun y => y.1.toList == x.toList) = none := by
    rw [List.find?_eq_none]
    intro y hy
    obtain ⟨j, hj, rfl⟩ := List.getElem_of_mem hy
    have := h j t[j] (List.getElem?_eq_getElem hj)
    simpa using this
  unfold FoundV_int; rw [this]
set_option maxRecDepth 100000 in
set_option maxHeartbeats 1000000 in
theorem find_int (b n : Nat) (t : List (ByteArray × Int)) (x : ByteArray) (w : World) (hn : t.length = n) (h9 : n ≤ 100) (ht : TabAt_int b t w) :
    Calls Tryz.prog 33 #[.slice (some ⟨b, 0, none⟩) n n, .string x] w fun e w' => e = .returned (FoundV_int t x) ∧ Below w.heap.size w w' := by
  have HB0 := Lib.hid ((Below.refl w.heap.size w).alloc (Nat.le_refl _) (.cells #[.string x] 9))
  have HT := Lib.hid (TabAt_int.below ht HB0.out (Nat.le_refl _))
  have HTT := Lib.hid ht
  have HN := Eqv2.mk hn
  have hcx : (w.alloc (.cells #[.string x] 9)).cell? ⟨w.heap.size, 0, none⟩ = some (.string x) := by go_simp
  have HCX := Lib.hid hcx
  clear ht hn hcx
  go_enter Tryz.func33, Tryz.ntmps33
  go_wp2_with fail
  with_reducible refine (idx_int b w.heap.size n t x _ HN.out h9 HT.out HCX.out).mono ?_
  rintro e w2 ⟨⟨k, v, h1, h2, h3, rfl⟩ | ⟨h0, rfl⟩, hb2⟩
  · have HF := Eqv2.mk (found_hit_int h1 h2 h3)
    have HB2 := Lib.hid (HB0.out.trans (hb2.mono HB0.out.size))
    have hc2 : w2.cell? ⟨b, k * 2 + 1, none⟩ = some (.int .i64 v.2) := below_cellU (HTT.out k v.1 v.2 h1).2 HB2.out (Nat.le_refl _)
    have hk : k < n := by
      rw [← HN.out]
      rcases Nat.lt_or_ge k t.length with h | h
      · exact h
      · rw [List.getElem?_eq_none h] at h1; cases h1
    obtain ⟨v1, v2⟩ := v
    dsimp only at hc2 HF
    clear h1 h2 h3 hb2
    go_wp2_with fail
    go_ret2
    exact ⟨by rw [HF.out]; rfl, HB2.out⟩
  · have HF := Eqv2.mk (found_miss_int h0)
    have HB2 := Lib.hid (HB0.out.trans (hb2.mono HB0.out.size))
    clear h0 hb2
    go_wp2_with fail
    go_ret2
    exact ⟨by rw [HF.out]; rfl, HB2.out⟩

/-! ### str -/
set_option maxRecDepth 100000 in
set_option maxHeartbeats 1000000 in
theorem clo_str (nm x : ByteArray) (v : ByteArray) (c : Nat) (w : World) (hc : w.cell? ⟨c, 0, none⟩ = some (.string x)) :
    Calls Tryz.prog 78 #[.agg #[.string nm, .string v], .pointer (some ⟨c, 0, none⟩)] w fun e w' => e = .returned (.bool (nm.toList == x.toList)) ∧ Below w.heap.size w w' := by
  have hlt := World.block_lt_of_cell? w _ hc
  go_enter Tryz.func78, Tryz.ntmps78
  go_wp2_with fail
  go_ret
  exact ⟨rfl, (Below.refl _ _).alloc (Nat.le_refl _) _⟩
/-- a table of rows as it lies in block b -/
def TabAt_str (b : Nat) (t : List (ByteArray × ByteArray)) (w : World) : Prop := ∀ (k : Nat) (x : ByteArray) (v : ByteArray), t[k]? = some (x, v) → w.cell? ⟨b, k * 2, none⟩ = some (.string x) ∧ w.cell? ⟨b, k * 2 + 1, none⟩ = some (.string v)
theorem TabAt_str.below {b : Nat} {t : List (ByteArray × ByteArray)} {w w' : World} {B : Nat} (h : TabAt_str b t w) (hb : Below B w w') (hB : w.heap.size ≤ B) : TabAt_str b t w' := fun k x v hk => ⟨below_cellU (h k x v hk).1 hb hB, below_cellU (h k x v hk).2 hb hB⟩
/-- the first row of that name -/
def FirstAt_str (t : List (ByteArray × ByteArray)) (x : ByteArray) (e : Ending) : Prop :=
  (∃ (k : Nat) (v : ByteArray × ByteArray), t[k]? = some v ∧ v.1.toList = x.toList ∧ (∀ (j : Nat) (y : ByteArray × ByteArray), j < k → t[j]? = some y → y.1.toList ≠ x.toList) ∧ e = .returned (.int .i64 (k : Int))) ∨ ((∀ (j : Nat) y, t[j]? = some y → y.1.toList ≠ x.toList) ∧ e = .returned (.int .i64 (-1)))
set_option maxRecDepth 100000 in
set_option maxHeartbeats 1000000 in
theorem idx_str (b c n : Nat) (t : List (ByteArray × ByteArray)) (x : ByteArray) (w : World) (hn : t.length = n) (h9 : n ≤ 100) (ht : TabAt_str b t w) (hc : w.cell? ⟨c, 0, none⟩ = some (.string x)) :
    Calls Tryz.prog 77 #[.slice (some ⟨b, 0, none⟩) n n, .func (.func 78) #[] #[.pointer (some ⟨c, 0, none⟩)]] w fun e w' => FirstAt_str t x e ∧ Below w.heap.size w w' := by
  have HT := Lib.hid ht
  have HC := Lib.hid hc
  have HN := Eqv2.mk hn
  clear ht hc hn
  go_enter Tryz.func77, Tryz.ntmps77
  go_wp2_with fail
  go_loopw [8] (fun kv wr => ∃ k : Nat, k ≤ n ∧ kv = .int .i64 k ∧ (∀ (j : Nat) y, j < k → t[j]? = some y → y.1.toList ≠ x.toList) ∧ Below w.heap.size w wr) (fun kv _ => n - (intOf kv).toNat)
  case atStart => exact ⟨0, Nat.zero_le _, rfl, fun j y hj => by omega, Below.refl _ _⟩
  case round =>
    obtain ⟨k, hk, rfl, hno, hb⟩ := hrel
    have HNO := Lib.hid hno
    have HB := Lib.hid hb
    clear hno hb
    by_cases hlt : k < n
    · have hkl : k < t.length := by rw [HN.out]; exact hlt
      obtain ⟨nm, v, hnv⟩ : ∃ nm v, t[k] = (nm, v) := ⟨_, _, rfl⟩
      have hkv : t[k]? = some (nm, v) := by rw [List.getElem?_eq_getElem hkl, hnv]
      obtain ⟨d1, d2⟩ := HT.out k nm v hkv
      have c1 : wr.cell? ⟨b, k * 2, none⟩ = some (.string nm) := below_cellU d1 HB.out (Nat.le_refl _)
      have c2 : wr.cell? ⟨b, k * 2 + 1, none⟩ = some (.string v) := below_cellU d2 HB.out (Nat.le_refl _)
      have hcc : wr.cell? ⟨c, 0, none⟩ = some (.string x) := below_cellU HC.out HB.out (Nat.le_refl _)
      have HKV := Eqv2.mk hkv
      have HCC := Lib.hid hcc
      clear hnv hkv d1 d2 hcc
      cases he : (nm.toList == x.toList)
      · have HE := Eqv2.mk he
        clear he
        go_wp2_with fail
        with_reducible refine (clo_str nm x v c _ HCC.out).mono ?_
        rw [HE.out]
        rintro e w2 ⟨rfl, hb2⟩
        have HB2 := Lib.hid (HB.out.trans (hb2.mono HB.out.size))
        clear hb2
        have HNX := Lib.hid (show ∀ (j : Nat) y, j < k + 1 → t[j]? = some y → y.1.toList ≠ x.toList by
          intro j y hj hy
          rcases Nat.lt_or_ge j k with h | h
          · exact HNO.out j y h hy
          · obtain rfl : j = k := by omega
            rw [HKV.out] at hy
            injection hy with hy
            subst hy
            exact beq_eq_false_iff_ne.1 HE.out)
        go_wp2_with fail
        go_roundw
        case rel => exact ⟨k + 1, by omega, by go_num, HNX.out, HB2.out⟩
        case measure => simp [intOf]; omega
      · have HE := Eqv2.mk he
        clear he
        go_wp2_with fail
        with_reducible refine (clo_str nm x v c _ HCC.out).mono ?_
        rw [HE.out]
        rintro e w2 ⟨rfl, hb2⟩
        have HB2 := Lib.hid (HB.out.trans (hb2.mono HB.out.size))
        clear hb2
        go_wp2_with fail
        go_ret
        exact ⟨.inl ⟨k, (nm, v), HKV.out, eq_of_beq HE.out, HNO.out, rfl⟩, HB2.out⟩
    · obtain rfl : k = n := by omega
      go_wp2_with fail
      go_ret
      refine ⟨.inr ⟨fun j y hy => HNO.out j y ?_ hy, rfl⟩, HB.out⟩
      rcases Nat.lt_or_ge j k with h | h
      · exact h
      · rw [List.getElem?_eq_none (by rw [HN.out]; exact h)] at hy; cases hy
/-- what find answers -/
def FoundV_str (t : List (ByteArray × ByteArray)) (x : ByteArray) : Value := match t.find? (fun y => y.1.toList == x.toList) with
  | some y => .tuple #[.string y.2, .bool true]
  | none => .tuple #[.string ⟨#[]⟩, .bool false]
theorem found_hit_str {t : List (ByteArray × ByteArray)} {x : ByteArray} {k : Nat} {v : ByteArray × ByteArray} (h1 : t[k]? = some v) (h2 : v.1.toList = x.toList) (h3 : ∀ (j : Nat) (y : ByteArray × ByteArray), j < k → t[j]? = some y → y.1.toList ≠ x.toList) : FoundV_str t x = .tuple #[.string v.2, .bool true] := by
  have : t.find? (fun y => y.1.toList == x.toList) = some v := by
    have hk : k < t.length := by
      rcases Nat.lt_or_ge k t.length with h | h
      · exact h
      · rw [List.getElem?_eq_none h] at h1; cases h1
    rw [List.find?_eq_some_iff_getElem]
    refine ⟨by rw [beq_iff_eq]; exact h2, k, hk, ?_, fun j hj => ?_⟩
    · rw [List.getElem?_eq_getElem hk] at h1; exact Option.some.inj h1
    · have := h3 j t[j] hj (List.getElem?_eq_getElem (by omega))
      simpa using this
  unfold FoundV_str; rw [this]
theorem found_miss_str {t : List (ByteArray × ByteArray)} {x : ByteArray} (h : ∀ (j : Nat) y, t[j]? = some y → y.1.toList ≠ x.toList) : FoundV_str t x = .tuple #[.string ⟨#[]⟩, .bool false] := by
  have : t.find? (fun y => y.1.toList == x.toList) = none := by
    rw [List.find?_eq_none]
    intro y hy
    obtain ⟨j, hj, rfl⟩ := List.getElem_of_mem hy
    have := h j t[j] (List.getElem?_eq_getElem hj)
    simpa using this
  unfold FoundV_str; rw [this]
set_option maxRecDepth 100000 in
set_option maxHeartbeats 1000000 in
theorem find_str (b n : Nat) (t : List (ByteArray × ByteArray)) (x : ByteArray) (w : World) (hn : t.length = n) (h9 : n ≤ 100) (ht : TabAt_str b t w) :
    Calls Tryz.prog 34 #[.slice (some ⟨b, 0, none⟩) n n, .string x] w fun e w' => e = .returned (FoundV_str t x) ∧ Below w.heap.size w w' := by
  have HB0 := Lib.hid ((Below.refl w.heap.size w).alloc (Nat.le_refl _) (.cells #[.string x] 9))
  have HT := Lib.hid (TabAt_str.below ht HB0.out (Nat.le_refl _))
  have HTT := Lib.hid ht
  have HN := Eqv2.mk hn
  have hcx : (w.alloc (.cells #[.string x] 9)).cell? ⟨w.heap.size, 0, none⟩ = some (.string x) := by go_simp
  have HCX := Lib.hid hcx
  clear ht hn hcx
  go_enter Tryz.func34, Tryz.ntmps34
  go_wp2_with fail
  with_reducible refine (idx_str b w.heap.size n t x _ HN.out h9 HT.out HCX.out).mono ?_
  rintro e w2 ⟨⟨k, v, h1, h2, h3, rfl⟩ | ⟨h0, rfl⟩, hb2⟩
  · have HF := Eqv2.mk (found_hit_str h1 h2 h3)
    have HB2 := Lib.hid (HB0.out.trans (hb2.mono HB0.out.size))
    have hc2 : w2.cell? ⟨b, k * 2 + 1, none⟩ = some (.string v.2) := below_cellU (HTT.out k v.1 v.2 h1).2 HB2.out (Nat.le_refl _)
    have hk : k < n := by
      rw [← HN.out]
      rcases Nat.lt_or_ge k t.length with h | h
      · exact h
      · rw [List.getElem?_eq_none h] at h1; cases h1
    obtain ⟨v1, v2⟩ := v
    dsimp only at hc2 HF
    clear h1 h2 h3 hb2
    go_wp2_with fail
    go_ret2
    exact ⟨by rw [HF.out]; rfl, HB2.out⟩
  · have HF := Eqv2.mk (found_miss_str h0)
    have HB2 := Lib.hid (HB0.out.trans (hb2.mono HB0.out.size))
    clear h0 hb2
    go_wp2_with fail
    go_ret2
    exact ⟨by rw [HF.out]; rfl, HB2.out⟩
end Go.Proofs.YtnpkcobapckhdaaGreatDoor
namespace Go.Proofs.YtnpkcobapckhdaaGreatDoor
open Go.RowKit
def dayTab : List (ByteArray × Int) := [(⟨#[227, 129, 141, 227, 130, 135, 227, 129, 134]⟩, 0), (⟨#[227, 129, 130, 227, 129, 151, 227, 129, 159]⟩, 1), (⟨#[227, 129, 130, 227, 129, 153]⟩, 1), (⟨#[227, 129, 130, 227, 129, 149, 227, 129, 163, 227, 129, 166]⟩, 2), (⟨#[227, 129, 141, 227, 129, 174, 227, 129, 134]⟩, (-1)), (⟨#[227, 129, 138, 227, 129, 168, 227, 129, 168, 227, 129, 132]⟩, (-2))]
def symTab : List (ByteArray × ByteArray) := [(⟨#[227, 130, 132, 227, 129, 152, 227, 130, 139, 227, 129, 151]⟩, ⟨#[226, 134, 146, 32, 226, 134, 144, 32, 226, 134, 145, 32, 226, 134, 147, 32, 226, 135, 146, 32, 226, 135, 148]⟩), (⟨#[227, 129, 187, 227, 129, 151]⟩, ⟨#[226, 152, 134, 32, 226, 152, 133]⟩), (⟨#[227, 129, 190, 227, 130, 139]⟩, ⟨#[226, 151, 139, 32, 226, 151, 143, 32, 226, 151, 142]⟩), (⟨#[227, 129, 149, 227, 130, 147, 227, 129, 139, 227, 129, 143]⟩, ⟨#[226, 150, 179, 32, 226, 150, 178, 32, 226, 150, 189, 32, 226, 150, 188]⟩), (⟨#[227, 129, 151, 227, 129, 139, 227, 129, 143]⟩, ⟨#[226, 150, 161, 32, 226, 150, 160]⟩), (⟨#[227, 129, 139, 227, 129, 163, 227, 129, 147]⟩, ⟨#[227, 128, 140, 227, 128, 141, 32, 227, 128, 142, 227, 128, 143, 32, 239, 188, 136, 239, 188, 137, 32, 227, 128, 144, 227, 128, 145, 32, 227, 128, 136, 227, 128, 137, 32, 227, 128, 138, 227, 128, 139]⟩), (⟨#[227, 129, 138, 227, 130, 147, 227, 129, 183]⟩, ⟨#[226, 153, 170]⟩), (⟨#[227, 129, 147, 227, 130, 129]⟩, ⟨#[226, 128, 187]⟩), (⟨#[227, 129, 139, 227, 130, 137]⟩, ⟨#[227, 128, 156]⟩), (⟨#[227, 129, 166, 227, 130, 147]⟩, ⟨#[227, 131, 187, 32, 227, 128, 129, 32, 226, 128, 166]⟩), (⟨#[227, 130, 134, 227, 129, 134, 227, 129, 179, 227, 130, 147]⟩, ⟨#[227, 128, 146]⟩), (⟨#[227, 129, 138, 227, 129, 170, 227, 129, 152]⟩, ⟨#[227, 128, 133, 32, 227, 128, 131]⟩)]
def daysC : Array Value := #[.string ⟨#[227, 129, 141, 227, 130, 135, 227, 129, 134]⟩, .int .i64 0, .string ⟨#[227, 129, 130, 227, 129, 151, 227, 129, 159]⟩, .int .i64 1, .string ⟨#[227, 129, 130, 227, 129, 153]⟩, .int .i64 1, .string ⟨#[227, 129, 130, 227, 129, 149, 227, 129, 163, 227, 129, 166]⟩, .int .i64 2, .string ⟨#[227, 129, 141, 227, 129, 174, 227, 129, 134]⟩, .int .i64 (-1), .string ⟨#[227, 129, 138, 227, 129, 168, 227, 129, 168, 227, 129, 132]⟩, .int .i64 (-2)]
def daysZ : Array Value := #[.string ⟨#[]⟩, .int .i64 0, .string ⟨#[]⟩, .int .i64 0, .string ⟨#[]⟩, .int .i64 0, .string ⟨#[]⟩, .int .i64 0, .string ⟨#[]⟩, .int .i64 0, .string ⟨#[]⟩, .int .i64 0]
set_option maxRecDepth 100000 in
set_option maxHeartbeats 1000000 in
theorem days_any (w : World) :
    Calls Tryz.prog 31 #[] w fun e w' => e = .returned (.agg daysC) ∧ Below w.heap.size w w' := by
  go_enter Tryz.func31, Tryz.ntmps31
  go_wp2_with (refine wpList_store_row rfl 42 (.tmp 0) (.tmp 7) rfl w.heap.size daysC rfl rfl 42 daysZ (MapKept.heap_alloc w _).1 (by kernel_rfl) rfl (by kernel_rfl) ?_)
  exact bodyPost_ret (v := .agg daysC) (results_cell_row rfl _ _ w.heap.size 42 daysC (0, 0) _ rfl (setRow_heap _ _ daysZ _ _ _ (MapKept.heap_alloc w _).1) Tryz.underlying42 rfl (by kernel_rfl)) rfl ⟨rfl, below_setRow ((Below.refl _ _).alloc (Nat.le_refl _) _) (Nat.le_refl _) _⟩
def symbolsC : Array Value := #[.string ⟨#[227, 130, 132, 227, 129, 152, 227, 130, 139, 227, 129, 151]⟩, .string ⟨#[226, 134, 146, 32, 226, 134, 144, 32, 226, 134, 145, 32, 226, 134, 147, 32, 226, 135, 146, 32, 226, 135, 148]⟩, .string ⟨#[227, 129, 187, 227, 129, 151]⟩, .string ⟨#[226, 152, 134, 32, 226, 152, 133]⟩, .string ⟨#[227, 129, 190, 227, 130, 139]⟩, .string ⟨#[226, 151, 139, 32, 226, 151, 143, 32, 226, 151, 142]⟩, .string ⟨#[227, 129, 149, 227, 130, 147, 227, 129, 139, 227, 129, 143]⟩, .string ⟨#[226, 150, 179, 32, 226, 150, 178, 32, 226, 150, 189, 32, 226, 150, 188]⟩, .string ⟨#[227, 129, 151, 227, 129, 139, 227, 129, 143]⟩, .string ⟨#[226, 150, 161, 32, 226, 150, 160]⟩, .string ⟨#[227, 129, 139, 227, 129, 163, 227, 129, 147]⟩, .string ⟨#[227, 128, 140, 227, 128, 141, 32, 227, 128, 142, 227, 128, 143, 32, 239, 188, 136, 239, 188, 137, 32, 227, 128, 144, 227, 128, 145, 32, 227, 128, 136, 227, 128, 137, 32, 227, 128, 138, 227, 128, 139]⟩, .string ⟨#[227, 129, 138, 227, 130, 147, 227, 129, 183]⟩, .string ⟨#[226, 153, 170]⟩, .string ⟨#[227, 129, 147, 227, 130, 129]⟩, .string ⟨#[226, 128, 187]⟩, .string ⟨#[227, 129, 139, 227, 130, 137]⟩, .string ⟨#[227, 128, 156]⟩, .string ⟨#[227, 129, 166, 227, 130, 147]⟩, .string ⟨#[227, 131, 187, 32, 227, 128, 129, 32, 226, 128, 166]⟩, .string ⟨#[227, 130, 134, 227, 129, 134, 227, 129, 179, 227, 130, 147]⟩, .string ⟨#[227, 128, 146]⟩, .string ⟨#[227, 129, 138, 227, 129, 170, 227, 129, 152]⟩, .string ⟨#[227, 128, 133, 32, 227, 128, 131]⟩]
def symbolsZ : Array Value := #[.string ⟨#[]⟩, .string ⟨#[]⟩, .string ⟨#[]⟩, .string ⟨#[]⟩, .string ⟨#[]⟩, .string ⟨#[]⟩, .string ⟨#[]⟩, .string ⟨#[]⟩, .string ⟨#[]⟩, .string ⟨#[]⟩, .string ⟨#[]⟩, .string ⟨#[]⟩, .string ⟨#[]⟩, .string ⟨#[]⟩, .string ⟨#[]⟩, .string ⟨#[]⟩, .string ⟨#[]⟩, .string ⟨#[]⟩, .string ⟨#[]⟩, .string ⟨#[]⟩, .string ⟨#[]⟩, .string ⟨#[]⟩, .string ⟨#[]⟩, .string ⟨#[]⟩]
set_option maxRecDepth 100000 in
set_option maxHeartbeats 1000000 in
theorem symbols_any (w : World) :
    Calls Tryz.prog 32 #[] w fun e w' => e = .returned (.agg symbolsC) ∧ Below w.heap.size w w' := by
  go_enter Tryz.func32, Tryz.ntmps32
  go_wp2_with (refine wpList_store_row rfl 46 (.tmp 0) (.tmp 13) rfl w.heap.size symbolsC rfl rfl 46 symbolsZ (MapKept.heap_alloc w _).1 (by kernel_rfl) rfl (by kernel_rfl) ?_)
  exact bodyPost_ret (v := .agg symbolsC) (results_cell_row rfl _ _ w.heap.size 46 symbolsC (0, 0) _ rfl (setRow_heap _ _ symbolsZ _ _ _ (MapKept.heap_alloc w _).1) Tryz.underlying46 rfl (by kernel_rfl)) rfl ⟨rfl, below_setRow ((Below.refl _ _).alloc (Nat.le_refl _) _) (Nat.le_refl _) _⟩
theorem dayTab_at (g : Nat) (w : World) (t : TypeId) (fr : Nat × Nat) (h : w.heap[g]? = some (.cells daysC t fr)) : TabAt_int g dayTab w := by
  intro k x v hk
  have hk6 : k < 6 := by
    rcases Nat.lt_or_ge k 6 with h | h
    · exact h
    · rw [List.getElem?_eq_none (by exact h)] at hk; cases hk
  rw [Lib.cell_of_heap h, Lib.cell_of_heap h]
  obtain rfl | rfl | rfl | rfl | rfl | rfl : k = 0 ∨ k = 1 ∨ k = 2 ∨ k = 3 ∨ k = 4 ∨ k = 5 := by omega
  all_goals (injection hk with hk; injection hk with h1 h2; subst h1 h2; exact ⟨rfl, rfl⟩)
theorem symTab_at (g : Nat) (w : World) (t : TypeId) (fr : Nat × Nat) (h : w.heap[g]? = some (.cells symbolsC t fr)) : TabAt_str g symTab w := by
  intro k x v hk
  have hk6 : k < 12 := by
    rcases Nat.lt_or_ge k 12 with h | h
    · exact h
    · rw [List.getElem?_eq_none (by exact h)] at hk; cases hk
  rw [Lib.cell_of_heap h, Lib.cell_of_heap h]
  obtain rfl | rfl | rfl | rfl | rfl | rfl | rfl | rfl | rfl | rfl | rfl | rfl : k = 0 ∨ k = 1 ∨ k = 2 ∨ k = 3 ∨ k = 4 ∨ k = 5 ∨ k = 6 ∨ k = 7 ∨ k = 8 ∨ k = 9 ∨ k = 10 ∨ k = 11 := by omega
  all_goals (injection hk with hk; injection hk with h1 h2; subst h1 h2; exact ⟨rfl, rfl⟩)
end Go.Proofs.YtnpkcobapckhdaaGreatDoor
namespace Go.Proofs.YtnpkcobapckhdaaGreatDoor
open Go.RowKit
/-- a list that is read: nil, or a row of a block -/
def Src (v : Value) (ys : List ByteArray) (w : World) : Prop := (v = .slice none 0 0 ∧ ys = []) ∨ ∃ g cap, v = .slice (some ⟨g, 0, none⟩) ys.length cap ∧ ys.length ≤ cap ∧ g < w.heap.size ∧ ∀ (k : Nat) (x : ByteArray), ys[k]? = some x → w.cell? ⟨g, k, none⟩ = some (.string x)
theorem Src.nil (w : World) : Src (.slice none 0 0) [] w := .inl ⟨rfl, rfl⟩
theorem Strs.src {B : Nat} {v : Value} {xs : List ByteArray} {w : World} (h : Strs B v xs w) : Src v xs w := by
  by_cases h0 : xs = []
  · subst h0
    obtain ⟨_, ⟨hv, _⟩ | ⟨g, cap, cur, hv, hB, hg, hc, _⟩⟩ := h
    · exact .inl ⟨hv, rfl⟩
    · exact .inr ⟨g, cap, hv, hc, heap_lt hg, fun k x hx => by simp at hx⟩
  · obtain ⟨g, cap, hv, hB, hg, hc, hcell, _⟩ := h.at h0
    exact .inr ⟨g, cap, hv, hc, hg, hcell⟩
theorem Src.below {v : Value} {xs : List ByteArray} {w w' : World} {B : Nat} (h : Src v xs w) (hb : Below B w w') (hB : w.heap.size ≤ B) : Src v xs w' := by
  rcases h with h | ⟨g, cap, hv, hc, hg, hcell⟩
  · exact .inl h
  · exact .inr ⟨g, cap, hv, hc, Nat.lt_of_lt_of_le hg (hb.size), fun k x hx => (hb.cell (p := ⟨g, k, none⟩) (Nat.lt_of_lt_of_le hg hB)).trans (hcell k x hx)⟩
set_option maxRecDepth 100000 in
theorem wpList_append_strs {ops : Array Oper} {rest : List Oper} {o : Oper} {a : Act} {Q : Exit → Act → World → Prop} (w : World) (hgd : o.guard = none) (s x : Operand)
    (ho : o.op = .call { callee := .builtin .append, args := #[s, x], argTypes := #[23, 23] }) (B : Nat) (v : Value) (xs : List ByteArray) (hs : a.eval s = v) (hown : Strs B v xs w)
    (v2 : Value) (ys : List ByteArray) (hx : a.eval x = v2) (hsrc : Src v2 ys w) (hbd : xs.length + ys.length ≤ 1000) (hB : B ≤ w.heap.size)
    (h : ∀ v' w', Strs B v' (xs ++ ys) w' → (∀ W, Below B W w → Below B W w') → w.heap.size ≤ w'.heap.size → (∀ k, k < w.heap.size → v.ownBlock ≠ some k → w'.heap[k]? = w.heap[k]?) → wpList Tryz.prog ops Q rest (a.put o.dst v') w') : wpList Tryz.prog ops Q (o :: rest) a w := by
  obtain ⟨i0, hi, hz0, hz1, hz2⟩ := info_parts infoStr
  rcases hsrc with ⟨rfl, rfl⟩ | ⟨g, cap, rfl, hc, hg, hcell⟩
  · refine wpList_append_own_none hgd s x 23 ho B 9 i0 1 Tryz.underlying23 hi v xs.length (xs.map Value.string) hs hown hx ?_
    exact h v w (by rw [List.append_nil]; exact hown) (fun W hW => hW) (Nat.le_refl _) (fun _ _ _ => rfl)
  · refine wpList_append_own w hgd s x 23 ho B 9 i0 (.string ⟨#[]⟩) 1 16 Tryz.underlying23 hi hz0 hz1 hz2 rfl (by decide) v xs.length (xs.map Value.string) hs hown ⟨g, 0, none⟩ ys.length cap (ys.map Value.string) hx (by simp) (fun j u hu => ?_) (fun u hu => ?_) (by unfold maxLen; omega) (by omega) hB ?_
    · rw [List.getElem?_map] at hu
      cases hy : ys[j]? with
      | none => rw [hy] at hu; cases hu
      | some y =>
        rw [hy] at hu
        injection hu with hu
        subst hu
        have := hcell j y hy
        rw [Addr.add_lit, Nat.zero_add]; exact this
    · obtain ⟨y, _, rfl⟩ := List.mem_map.1 hu; rfl
    · intro v' w' hown' hgrow _
      refine h v' w' ?_ (fun W hW => hW.grown hgrow hB (fun k hk => (World.ownsRow.lt hown k hk).1)) hgrow.size (fun k h1 h2 => hgrow.block k h1 (fun e => h2 e.symm))
      unfold Strs
      rw [List.length_append, List.map_append]
      exact hown'
end Go.Proofs.YtnpkcobapckhdaaGreatDoor
namespace Go.Proofs.YtnpkcobapckhdaaGreatDoor
open Go.RowKit
open Classical in
/-- the forms of any day number -/
noncomputable def dayL (n : Int) : List (List UInt8) :=
  if h : ∃ y m d : Nat, Cal.ok y m d = true ∧ Cal.num y m d = n then CF.formsL n.toNat h.choose h.choose_spec.choose h.choose_spec.choose_spec.choose else []
theorem dayL_eq {n y m d : Nat} (h1 : Cal.ok y m d = true) (h2 : Cal.num y m d = n) : dayL (n : Int) = CF.formsL n y m d := by
  have h : ∃ y m d : Nat, Cal.ok y m d = true ∧ Cal.num y m d = (n : Int) := ⟨y, m, d, h1, h2⟩
  unfold dayL
  rw [dif_pos h]
  have hs := h.choose_spec.choose_spec.choose_spec
  obtain ⟨e1, e2, e3⟩ := Cal.num_inj _ _ _ y m d hs.1 h1 (hs.2.trans h2.symm)
  rw [Int.toNat_natCast]
  congr 1
  · exact Int.ofNat.inj e1
  · exact Int.ofNat.inj e2
  · exact Int.ofNat.inj e3
theorem dayL_out {n : Int} (h : n < 1 ∨ 3652059 < n) : dayL n = [] := by
  unfold dayL
  rw [dif_neg]
  rintro ⟨y, m, d, h1, h2⟩
  have := Cal.num_bd y m d h1
  omega
theorem dayL_len (n : Int) : (dayL n).length ≤ 8 := by
  unfold dayL
  split
  · exact formsL_len _ _ _ _
  · simp
theorem cforms_all (n : Int) (w : World) (ht : CTabs w) : Calls Tryz.prog 25 #[.int .i64 n] w (GivesC (dayL n) w) := by
  by_cases h : n < 1 ∨ 3652059 < n
  · refine (forms_no n w h).mono ?_
    rintro e w' ⟨rfl, rfl⟩
    exact ⟨_, [], by rw [dayL_out h]; rfl, Strs.nil _ _, rfl, Below.refl _ _⟩
  · obtain ⟨k, rfl⟩ : ∃ k : Nat, n = k := ⟨n.toNat, by omega⟩
    obtain ⟨y, m, d, h1, h2⟩ := date_exists k (by omega) (by omega)
    rw [dayL_eq h1 h2]
    exact formsC_any k y m d w (by omega) (by omega) h1 h2 ht
theorem rforms_all (n : Int) (w : World) : Calls Tryz.prog 38 #[.int .i64 n] w (GivesC (dayL n) w) := by
  by_cases h : n < 1 ∨ 3652059 < n
  · refine (rforms_no n w h).mono ?_
    rintro e w' ⟨rfl, rfl⟩
    exact ⟨_, [], by rw [dayL_out h]; rfl, Strs.nil _ _, rfl, Below.refl _ _⟩
  · obtain ⟨k, rfl⟩ : ∃ k : Nat, n = k := ⟨n.toNat, by omega⟩
    obtain ⟨y, m, d, h1, h2⟩ := date_exists k (by omega) (by omega)
    rw [dayL_eq h1 h2]
    exact rformsC_any k y m d w (by omega) (by omega) h1 h2
/-- the row that a reading names -/
def dayRow (x : ByteArray) : Option (ByteArray × Int) := dayTab.find? (fun y => y.1.toList == x.toList)
def symRow (x : ByteArray) : Option (ByteArray × ByteArray) := symTab.find? (fun y => y.1.toList == x.toList)
def sp : ByteArray := ⟨#[32]⟩
def pieces (s : ByteArray) : List ByteArray := Lib.splitB sp 0 (Lib.countB s sp) s
noncomputable def dayPart (x : ByteArray) (day : Int) : List (List UInt8) := match dayRow x with
  | some y => if -2 ≤ day ∧ day ≤ 3652061 then dayL (day + y.2) else []
  | none => []
def symPart (x : ByteArray) : List (List UInt8) := match symRow x with
  | some y => (pieces y.2).map (·.data.toList)
  | none => []
/-- what Of returns -/
noncomputable def ofL (l : List UInt8) (day : Int) : List (List UInt8) := Num.forms l ++ dayPart ⟨(UT.hira l).toArray⟩ day ++ symPart ⟨(UT.hira l).toArray⟩
theorem dayRow_bd {x : ByteArray} {y : ByteArray × Int} (h : dayRow x = some y) : -2 ≤ y.2 ∧ y.2 ≤ 2 := by
  have hm := List.mem_of_find?_eq_some h
  have : ∀ y ∈ dayTab, -2 ≤ y.2 ∧ y.2 ≤ 2 := by decide +kernel
  exact this y hm
theorem symRow_bd {x : ByteArray} {y : ByteArray × ByteArray} (h : symRow x = some y) : (pieces y.2).length = Lib.countB y.2 sp + 1 ∧ Lib.countB y.2 sp ≤ 10 ∧ y.2.size ≤ 100 := by
  have hm := List.mem_of_find?_eq_some h
  have : ∀ y ∈ symTab, (pieces y.2).length = Lib.countB y.2 sp + 1 ∧ Lib.countB y.2 sp ≤ 10 ∧ y.2.size ≤ 100 := by decide +kernel
  exact this y hm
theorem foundDay {x : ByteArray} : FoundV_int dayTab x = match dayRow x with | some y => .tuple #[.int .i64 y.2, .bool true] | none => .tuple #[.int .i64 0, .bool false] := rfl
theorem foundSym {x : ByteArray} : FoundV_str symTab x = match symRow x with | some y => .tuple #[.string y.2, .bool true] | none => .tuple #[.string ⟨#[]⟩, .bool false] := rfl
theorem foldl_addU_len (M L : List (List UInt8)) : (M.foldl Num.addU L).length ≤ L.length + M.length := by
  induction M generalizing L with
  | nil => simp
  | cons x M ih =>
    rw [List.foldl_cons, List.length_cons]
    have := ih (Num.addU L x)
    have := Num.addU_len L x
    omega
theorem forms_len (l : List UInt8) : (Num.forms l).length ≤ 6 := by
  unfold Num.forms
  split
  · simp
  · split
    · exact foldl_addU_len _ _
    · simp
end Go.Proofs.YtnpkcobapckhdaaGreatDoor
namespace Go.Proofs.YtnpkcobapckhdaaGreatDoor
open Go.RowKit
/-- the two tables, as Of lays them behind world w -/
def tabW (w : World) : World := (((w.alloc (.cells daysZ 42)).alloc (.cells symbolsZ 46)).setRow w.heap.size daysC).setRow (w.heap.size + 1) symbolsC
theorem tabW_size (w : World) : (tabW w).heap.size = w.heap.size + 1 + 1 := by
  unfold tabW; simp [World.setRow]
theorem tabW_z0 (w : World) : ((w.alloc (.cells daysZ 42)).alloc (.cells symbolsZ 46)).heap[w.heap.size]? = some (.cells daysZ 42 (0, 0)) := by
  rw [Lib.alloc_old _ _ _ (by simp)]
  exact (MapKept.heap_alloc w _).1
theorem tabW_z1 (w : World) : (((w.alloc (.cells daysZ 42)).alloc (.cells symbolsZ 46)).setRow w.heap.size daysC).heap[w.heap.size + 1]? = some (.cells symbolsZ 46 (0, 0)) := by
  rw [setRow_other _ _ _ _ (by omega)]
  have := (MapKept.heap_alloc (w.alloc (.cells daysZ 42)) (.cells symbolsZ 46)).1
  simpa using this
theorem tabW_days (w : World) : (tabW w).heap[w.heap.size]? = some (.cells daysC 42 (0, 0)) := by
  unfold tabW
  rw [setRow_other _ _ _ _ (by omega)]
  exact setRow_heap _ _ _ _ _ _ (tabW_z0 w)
theorem tabW_syms (w : World) : (tabW w).heap[w.heap.size + 1]? = some (.cells symbolsC 46 (0, 0)) := by
  unfold tabW
  exact setRow_heap _ _ _ _ _ _ (tabW_z1 w)
theorem tabW_below (w : World) : Below w.heap.size w (tabW w) :=
  below_setRow (below_setRow (((Below.refl _ _).alloc (Nat.le_refl _) _).alloc (by simp) _) (Nat.le_refl _) _) (by omega) _
theorem src_new (w : World) (ys : List ByteArray) (n : Nat) (h : ys.length = n) : Src (.slice (some ⟨w.heap.size, 0, none⟩) n n) ys (w.alloc (.cells (ys.map Value.string).toArray 9)) := by
  subst h
  have hg := (MapKept.heap_alloc w (.cells (ys.map Value.string).toArray 9)).1
  refine .inr ⟨w.heap.size, ys.length, rfl, Nat.le_refl _, heap_lt hg, fun k x hk => ?_⟩
  rw [Lib.cell_of_heap hg, List.getElem?_toArray, List.getElem?_map, hk]; rfl
set_option maxRecDepth 100000 in
set_option maxHeartbeats 8000000 in
theorem of_any (s : ByteArray) (l : List UInt8) (day : Int) (w : World) (h : Is s l) (hs : s.size ≤ 17592186044416) (ht : STabs w) :
    Calls Tryz.prog 14 #[.string s, .int .i64 day] w (GivesC (ofL l day) w) := by
  have HI := Lib.hid h
  have HT := Lib.hid ht
  have HFL := Lib.hid (forms_len l)
  obtain ⟨L, hL⟩ : ∃ L, ofL l day = L := ⟨_, rfl⟩
  have HL := Eqv2.mk hL
  rw [hL]
  clear h ht hL
  go_enter Tryz.func14, Tryz.ntmps14
  go_wp2_with fail
  with_reducible refine (forms_any s l _ HI.out (by omega) HT.out.cal.num).mono ?_
  rintro e w1 ⟨v1, xs1, hm1, hx1, rfl, hb⟩
  have HM1 := Eqv2.mk hm1
  have HX1 := Lib.hid hx1
  have HB1 := Lib.hid hb
  have HT1 := Lib.hid (HT.out.keep hb)
  have hl1 : xs1.length ≤ 6 := by have := HFL.out; rw [← hm1, List.length_map] at this; exact this
  clear hm1 hx1 hb
  go_wp2_with fail
  with_reducible refine (khira_any s l _ HI.out hs HT1.out.cal.num).mono ?_
  rintro e w2 ⟨⟨x, hx, rfl⟩, hb⟩
  have HXX := Eqv2.mk (show (⟨(UT.hira l).toArray⟩ : ByteArray) = x from (Is.mk _).eq hx)
  have HB2 := Lib.hid (HB1.out.trans (hb.mono HB1.out.size))
  have HT2 := Lib.hid (HT1.out.keep hb)
  have HX2 := Lib.hid (HX1.out.below hb (Nat.le_refl _))
  have HS12 := Lib.hid hb.size
  clear hx hb
  go_wp2_with fail
  with_reducible refine (days_any _).mono ?_
  rintro e w3 ⟨rfl, hb⟩
  have HB3 := Lib.hid (HB2.out.trans (hb.mono HB2.out.size))
  have HT3 := Lib.hid (HT2.out.keep hb)
  have HX3 := Lib.hid (HX2.out.below hb (Nat.le_refl _))
  have HS23 := Lib.hid hb.size
  clear hb
  go_wp2_with fail
  with_reducible refine (symbols_any _).mono ?_
  rintro e w4 ⟨rfl, hb⟩
  have HB4 := Lib.hid (HB3.out.trans (hb.mono HB3.out.size))
  have HT4 := Lib.hid (HT3.out.keep hb)
  have HX4 := Lib.hid (HX3.out.below hb (Nat.le_refl _))
  have HS34 := Lib.hid hb.size
  clear hb
  have z0 := tabW_z0 w4
  have z1 := tabW_z1 w4
  have HZ0 := Lib.hid z0
  have HZ1 := Lib.hid z1
  clear z0 z1
  go_wp2_with (first | (refine wpList_store_row rfl 42 (.tmp 7) (.tmp 17) rfl w4.heap.size daysC rfl rfl 42 daysZ HZ0.out (by kernel_rfl) rfl (by kernel_rfl) ?_) | (refine wpList_store_row rfl 46 (.tmp 8) (.tmp 18) rfl (w4.heap.size + 1) symbolsC rfl rfl 46 symbolsZ HZ1.out (by kernel_rfl) rfl (by kernel_rfl) ?_))
  change Calls Tryz.prog _ _ (tabW w4) _
  have hbt := tabW_below w4
  have htd : TabAt_int w4.heap.size dayTab (tabW w4) := dayTab_at _ _ _ _ (tabW_days w4)
  have hts := tabW_syms w4
  have hown4 : ∀ k, v1.ownBlock = some k → k < w4.heap.size := fun k hk => by
    have a := (World.ownsRow.lt HX1.out k hk).2
    have b := HS12.out; have c := HS23.out; have d := HS34.out; omega
  have HOW := Lib.hid hown4
  obtain ⟨g, hg⟩ : ∃ g, w4.heap.size + 1 = g := ⟨_, rfl⟩
  have hg1 : w4.heap.size < g := by omega
  have hgt : g < (tabW w4).heap.size := by rw [tabW_size]; omega
  obtain ⟨wt, hwt⟩ : ∃ wt, tabW w4 = wt := ⟨_, rfl⟩
  rw [hwt] at hbt htd hts hgt ⊢
  have HTD := Lib.hid htd
  have HBt := Lib.hid (HB4.out.trans (hbt.mono HB4.out.size))
  have HTt := Lib.hid (HT4.out.keep hbt)
  have HXt := Lib.hid (HX4.out.below hbt (Nat.le_refl _))
  have HTS := Lib.hid hts
  clear hbt htd hts hwt hown4 HS12 HS23 HS34 HZ0 HZ1 HX1 HX2 HX3 HX4 HB1 HB2 HB3 HB4 HT1 HT2 HT3 HT4
  with_reducible refine (find_int w4.heap.size 6 dayTab x wt rfl (by omega) HTD.out).mono ?_
  rw [foundDay]
  rintro e w5 ⟨he, hb⟩
  have HB5 := Lib.hid (HBt.out.trans (hb.mono HBt.out.size))
  have HT5 := Lib.hid (HTt.out.keep hb)
  have HX5 := Lib.hid (HXt.out.below hb (Nat.le_refl _))
  have hg5 : g < w5.heap.size := Nat.lt_of_lt_of_le hgt hb.size
  have HTS5 := Lib.hid (show w5.heap[g]? = some (.cells symbolsC 46 (0, 0)) by rw [hb.block g hgt, ← hg]; rw [← hg] at hgt; exact HTS.out)
  clear hb HBt HTt HXt HTS HTD
  obtain ⟨g, rfl⟩ : ∃ g', g' = g := ⟨g, rfl⟩
  cases hd : dayRow x with
  | none =>
    rw [hd] at he
    subst he
    have HP := Eqv2.mk (show dayPart x day = [] by unfold dayPart; rw [hd])
    clear hd
    go_wp2_with fail
    have HTB := Lib.hid (symTab_at _ _ _ _ HTS5.out)
    with_reducible refine (find_str g 12 symTab x _ rfl (by omega) HTB.out).mono ?_
    rw [foundSym]
    rintro e w8 ⟨he, hb⟩
    have HB8 := Lib.hid (HB5.out.trans (hb.mono HB5.out.size))
    have HT8 := Lib.hid (HT5.out.keep hb)
    have HX8 := Lib.hid (HX5.out.below hb (Nat.le_refl _))
    clear hb
    cases hsr : symRow x with
    | none =>
      rw [hsr] at he
      subst he
      have HQ := Eqv2.mk (show symPart x = [] by unfold symPart; rw [hsr])
      clear hsr
      go_wp2_with fail
      go_ret
      exact ⟨_, xs1, by rw [← HL.out]; unfold ofL; rw [HXX.out, HQ.out, HP.out]; rw [HM1.out]; simp, HX8.out, rfl, HB8.out⟩
    | some z =>
      rw [hsr] at he
      subst he
      obtain ⟨zn, zs⟩ := z
      obtain ⟨z1, z2, z3⟩ := symRow_bd hsr
      have HQ := Eqv2.mk (show symPart x = (pieces zs).map (·.data.toList) by unfold symPart; rw [hsr])
      dsimp only at z1 z2 z3 ⊢
      clear hsr
      obtain ⟨mx, hmx⟩ := HT8.out.mx
      go_wp2_with fail
      with_reducible refine (Tryz.strings_Split zs ⟨#[32]⟩ mx _ (by omega) hmx (by decide)).mono ?_
      rintro e w9 ⟨rfl, rfl⟩
      have hsrc : Src (.slice (some ⟨w8.heap.size, 0, none⟩) (Lib.countB zs ⟨#[32]⟩ + 1) (Lib.countB zs ⟨#[32]⟩ + 1)) (pieces zs) (w8.alloc (.cells ((pieces zs).map Value.string).toArray 9)) := src_new w8 (pieces zs) _ z1
      have HSRC := Lib.hid hsrc
      have HX9 := Lib.hid (HX8.out.alloc (.cells ((pieces zs).map Value.string).toArray 9))
      have HB9 := Lib.hid (HB8.out.alloc HB8.out.size (.cells ((pieces zs).map Value.string).toArray 9))
      clear hsrc
      go_wp2_with (at_builtin; refine wpList_append_strs _ rfl _ _ rfl w.heap.size _ xs1 rfl HX9.out _ (pieces zs) rfl HSRC.out ?d1 ?d2 ?_)
      case d1 => omega
      case d2 => exact HB9.out.size
      intro v10 w10 hx10 hbf _ _
      have HB10 := Lib.hid (hbf w HB9.out)
      have HX10 := Lib.hid hx10
      clear hx10 hbf
      go_wp2_with fail
      go_ret
      exact ⟨_, xs1 ++ pieces zs, by rw [← HL.out]; unfold ofL; rw [HXX.out, HQ.out, HP.out, List.map_append]; rw [HM1.out]; simp, HX10.out, rfl, HB10.out⟩
  | some y =>
    rw [hd] at he
    subst he
    obtain ⟨yn, yv⟩ := y
    obtain ⟨y1, y2⟩ := dayRow_bd hd
    dsimp only at y1 y2 ⊢
    by_cases c1 : -2 ≤ day
    · by_cases c2 : day ≤ 3652061
      · have HP := Eqv2.mk (show dayPart x day = dayL (day + yv) by unfold dayPart; rw [hd]; dsimp only; rw [if_pos ⟨c1, c2⟩])
        clear hd
        go_wp2_with fail
        with_reducible refine (cforms_all (day + yv) _ HT5.out.cal).mono ?_
        rintro e w6 ⟨v6, xs6, hm6, hx6, rfl, hb⟩
        have hl6 : xs6.length ≤ 8 := by have := dayL_len (day + yv); rw [← hm6, List.length_map] at this; exact this
        have HM6 := Eqv2.mk hm6
        have HSRC6 := Lib.hid hx6.src
        have HX6 := Lib.hid (HX5.out.below hb (Nat.le_refl _))
        have HB6 := Lib.hid (HB5.out.trans (hb.mono HB5.out.size))
        have HTS6 := Lib.hid (show w6.heap[g]? = some (.cells symbolsC 46 (0, 0)) by rw [hb.block g hg5]; exact HTS5.out)
        have hg6 : g < w6.heap.size := Nat.lt_of_lt_of_le hg5 hb.size
        clear hm6 hx6 hb
        go_wp2_with (at_builtin; refine wpList_append_strs _ rfl _ _ rfl w.heap.size v1 xs1 rfl HX6.out v6 xs6 rfl HSRC6.out ?c1 ?c2 ?_)
        case c1 => omega
        case c2 => exact HB6.out.size
        intro v7 w7 hx7 hbf _ hfr
        have HB7 := Lib.hid (hbf w HB6.out)
        have HX7 := Lib.hid hx7
        have HT7 := Lib.hid (HT.out.keep HB7.out)
        have HTS7 := Lib.hid (show w7.heap[g]? = some (.cells symbolsC 46 (0, 0)) by rw [hfr g hg6 (fun e => by have := HOW.out g e; omega)]; exact HTS6.out)
        clear hx7 hbf hfr
        go_wp2_with fail
        have HTB := Lib.hid (symTab_at _ _ _ _ HTS7.out)
        with_reducible refine (find_str g 12 symTab x _ rfl (by omega) HTB.out).mono ?_
        rw [foundSym]
        rintro e w8 ⟨he, hb⟩
        have HB8 := Lib.hid (HB7.out.trans (hb.mono HB7.out.size))
        have HT8 := Lib.hid (HT7.out.keep hb)
        have HX8 := Lib.hid (HX7.out.below hb (Nat.le_refl _))
        clear hb
        cases hsr : symRow x with
        | none =>
          rw [hsr] at he
          subst he
          have HQ := Eqv2.mk (show symPart x = [] by unfold symPart; rw [hsr])
          clear hsr
          go_wp2_with fail
          go_ret
          exact ⟨_, xs1 ++ xs6, by rw [← HL.out]; unfold ofL; rw [HXX.out, HQ.out, HP.out]; rw [List.map_append, HM1.out, HM6.out]; simp, HX8.out, rfl, HB8.out⟩
        | some z =>
          rw [hsr] at he
          subst he
          obtain ⟨zn, zs⟩ := z
          obtain ⟨z1, z2, z3⟩ := symRow_bd hsr
          have HQ := Eqv2.mk (show symPart x = (pieces zs).map (·.data.toList) by unfold symPart; rw [hsr])
          dsimp only at z1 z2 z3 ⊢
          clear hsr
          obtain ⟨mx, hmx⟩ := HT8.out.mx
          go_wp2_with fail
          with_reducible refine (Tryz.strings_Split zs ⟨#[32]⟩ mx _ (by omega) hmx (by decide)).mono ?_
          rintro e w9 ⟨rfl, rfl⟩
          have hsrc : Src (.slice (some ⟨w8.heap.size, 0, none⟩) (Lib.countB zs ⟨#[32]⟩ + 1) (Lib.countB zs ⟨#[32]⟩ + 1)) (pieces zs) (w8.alloc (.cells ((pieces zs).map Value.string).toArray 9)) := src_new w8 (pieces zs) _ z1
          have HSRC := Lib.hid hsrc
          have HX9 := Lib.hid (HX8.out.alloc (.cells ((pieces zs).map Value.string).toArray 9))
          have HB9 := Lib.hid (HB8.out.alloc HB8.out.size (.cells ((pieces zs).map Value.string).toArray 9))
          clear hsrc
          go_wp2_with (at_builtin; refine wpList_append_strs _ rfl _ _ rfl w.heap.size _ (xs1 ++ xs6) rfl HX9.out _ (pieces zs) rfl HSRC.out ?d1 ?d2 ?_)
          case d1 => simp only [List.length_append]; omega
          case d2 => exact HB9.out.size
          intro v10 w10 hx10 hbf _ _
          have HB10 := Lib.hid (hbf w HB9.out)
          have HX10 := Lib.hid hx10
          clear hx10 hbf
          go_wp2_with fail
          go_ret
          exact ⟨_, (xs1 ++ xs6) ++ pieces zs, by rw [← HL.out]; unfold ofL; rw [HXX.out, HQ.out, HP.out, List.map_append]; rw [List.map_append, HM1.out, HM6.out], (by rw [List.append_assoc]; exact HX10.out), rfl, HB10.out⟩
      · have HP := Eqv2.mk (show dayPart x day = [] by unfold dayPart; rw [hd]; dsimp only; rw [if_neg (by omega)])
        clear hd
        go_wp2_with fail
        have HTB := Lib.hid (symTab_at _ _ _ _ HTS5.out)
        with_reducible refine (find_str g 12 symTab x _ rfl (by omega) HTB.out).mono ?_
        rw [foundSym]
        rintro e w8 ⟨he, hb⟩
        have HB8 := Lib.hid (HB5.out.trans (hb.mono HB5.out.size))
        have HT8 := Lib.hid (HT5.out.keep hb)
        have HX8 := Lib.hid (HX5.out.below hb (Nat.le_refl _))
        clear hb
        cases hsr : symRow x with
        | none =>
          rw [hsr] at he
          subst he
          have HQ := Eqv2.mk (show symPart x = [] by unfold symPart; rw [hsr])
          clear hsr
          go_wp2_with fail
          go_ret
          exact ⟨_, xs1, by rw [← HL.out]; unfold ofL; rw [HXX.out, HQ.out, HP.out]; rw [HM1.out]; simp, HX8.out, rfl, HB8.out⟩
        | some z =>
          rw [hsr] at he
          subst he
          obtain ⟨zn, zs⟩ := z
          obtain ⟨z1, z2, z3⟩ := symRow_bd hsr
          have HQ := Eqv2.mk (show symPart x = (pieces zs).map (·.data.toList) by unfold symPart; rw [hsr])
          dsimp only at z1 z2 z3 ⊢
          clear hsr
          obtain ⟨mx, hmx⟩ := HT8.out.mx
          go_wp2_with fail
          with_reducible refine (Tryz.strings_Split zs ⟨#[32]⟩ mx _ (by omega) hmx (by decide)).mono ?_
          rintro e w9 ⟨rfl, rfl⟩
          have hsrc : Src (.slice (some ⟨w8.heap.size, 0, none⟩) (Lib.countB zs ⟨#[32]⟩ + 1) (Lib.countB zs ⟨#[32]⟩ + 1)) (pieces zs) (w8.alloc (.cells ((pieces zs).map Value.string).toArray 9)) := src_new w8 (pieces zs) _ z1
          have HSRC := Lib.hid hsrc
          have HX9 := Lib.hid (HX8.out.alloc (.cells ((pieces zs).map Value.string).toArray 9))
          have HB9 := Lib.hid (HB8.out.alloc HB8.out.size (.cells ((pieces zs).map Value.string).toArray 9))
          clear hsrc
          go_wp2_with (at_builtin; refine wpList_append_strs _ rfl _ _ rfl w.heap.size _ xs1 rfl HX9.out _ (pieces zs) rfl HSRC.out ?d1 ?d2 ?_)
          case d1 => omega
          case d2 => exact HB9.out.size
          intro v10 w10 hx10 hbf _ _
          have HB10 := Lib.hid (hbf w HB9.out)
          have HX10 := Lib.hid hx10
          clear hx10 hbf
          go_wp2_with fail
          go_ret
          exact ⟨_, xs1 ++ pieces zs, by rw [← HL.out]; unfold ofL; rw [HXX.out, HQ.out, HP.out, List.map_append]; rw [HM1.out]; simp, HX10.out, rfl, HB10.out⟩
    · have HP := Eqv2.mk (show dayPart x day = [] by unfold dayPart; rw [hd]; dsimp only; rw [if_neg (by omega)])
      clear hd
      go_wp2_with fail
      have HTB := Lib.hid (symTab_at _ _ _ _ HTS5.out)
      with_reducible refine (find_str g 12 symTab x _ rfl (by omega) HTB.out).mono ?_
      rw [foundSym]
      rintro e w8 ⟨he, hb⟩
      have HB8 := Lib.hid (HB5.out.trans (hb.mono HB5.out.size))
      have HT8 := Lib.hid (HT5.out.keep hb)
      have HX8 := Lib.hid (HX5.out.below hb (Nat.le_refl _))
      clear hb
      cases hsr : symRow x with
      | none =>
        rw [hsr] at he
        subst he
        have HQ := Eqv2.mk (show symPart x = [] by unfold symPart; rw [hsr])
        clear hsr
        go_wp2_with fail
        go_ret
        exact ⟨_, xs1, by rw [← HL.out]; unfold ofL; rw [HXX.out, HQ.out, HP.out]; rw [HM1.out]; simp, HX8.out, rfl, HB8.out⟩
      | some z =>
        rw [hsr] at he
        subst he
        obtain ⟨zn, zs⟩ := z
        obtain ⟨z1, z2, z3⟩ := symRow_bd hsr
        have HQ := Eqv2.mk (show symPart x = (pieces zs).map (·.data.toList) by unfold symPart; rw [hsr])
        dsimp only at z1 z2 z3 ⊢
        clear hsr
        obtain ⟨mx, hmx⟩ := HT8.out.mx
        go_wp2_with fail
        with_reducible refine (Tryz.strings_Split zs ⟨#[32]⟩ mx _ (by omega) hmx (by decide)).mono ?_
        rintro e w9 ⟨rfl, rfl⟩
        have hsrc : Src (.slice (some ⟨w8.heap.size, 0, none⟩) (Lib.countB zs ⟨#[32]⟩ + 1) (Lib.countB zs ⟨#[32]⟩ + 1)) (pieces zs) (w8.alloc (.cells ((pieces zs).map Value.string).toArray 9)) := src_new w8 (pieces zs) _ z1
        have HSRC := Lib.hid hsrc
        have HX9 := Lib.hid (HX8.out.alloc (.cells ((pieces zs).map Value.string).toArray 9))
        have HB9 := Lib.hid (HB8.out.alloc HB8.out.size (.cells ((pieces zs).map Value.string).toArray 9))
        clear hsrc
        go_wp2_with (at_builtin; refine wpList_append_strs _ rfl _ _ rfl w.heap.size _ xs1 rfl HX9.out _ (pieces zs) rfl HSRC.out ?d1 ?d2 ?_)
        case d1 => omega
        case d2 => exact HB9.out.size
        intro v10 w10 hx10 hbf _ _
        have HB10 := Lib.hid (hbf w HB9.out)
        have HX10 := Lib.hid hx10
        clear hx10 hbf
        go_wp2_with fail
        go_ret
        exact ⟨_, xs1 ++ pieces zs, by rw [← HL.out]; unfold ofL; rw [HXX.out, HQ.out, HP.out, List.map_append]; rw [HM1.out]; simp, HX10.out, rfl, HB10.out⟩
end Go.Proofs.YtnpkcobapckhdaaGreatDoor
namespace Go.Proofs.YtnpkcobapckhdaaGreatDoor
open Go.RowKit
theorem ne_str {x : ByteArray} {a : Array UInt8} (h : ¬ x = ⟨a⟩) : (x.toList == a.toList) = false := by
  rw [beq_eq_false_iff_ne, Lib.toList_data]
  intro e
  exact h (ByteArray.ext (Array.toList_inj.1 e))
theorem ne_str2 {x : ByteArray} {a : Array UInt8} (h : ¬ x = ⟨a⟩) : ((⟨a⟩ : ByteArray).toList == x.toList) = false := by
  rw [beq_eq_false_iff_ne, Lib.toList_data, Lib.toList_data]
  intro e
  exact h (ByteArray.ext (Array.toList_inj.1 e.symm))
def dayV (x : ByteArray) : Value := match dayRow x with | some y => .tuple #[.int .i64 y.2, .bool true] | none => .tuple #[.int .i64 0, .bool false]
set_option maxRecDepth 100000 in
set_option maxHeartbeats 2000000 in
theorem away_any (x : ByteArray) (w : World) :
    Calls Tryz.prog 37 #[.string x] w fun e w' => e = .returned (dayV x) ∧ w = w' := by
  by_cases h0 : x = ⟨#[227, 129, 141, 227, 130, 135, 227, 129, 134]⟩
  · subst h0
    have HR := Eqv2.mk (show dayV ⟨#[227, 129, 141, 227, 130, 135, 227, 129, 134]⟩ = .tuple #[.int .i64 0, .bool true] by unfold dayV; rw [show dayRow ⟨#[227, 129, 141, 227, 130, 135, 227, 129, 134]⟩ = some (⟨#[227, 129, 141, 227, 130, 135, 227, 129, 134]⟩, 0) by decide +kernel])
    skip
    go_enter Tryz.func37, Tryz.ntmps37
    go_wp2_with fail
    go_ret2
    exact ⟨by rw [HR.out]; rfl, rfl⟩
  by_cases h1 : x = ⟨#[227, 129, 130, 227, 129, 151, 227, 129, 159]⟩
  · subst h1
    have HR := Eqv2.mk (show dayV ⟨#[227, 129, 130, 227, 129, 151, 227, 129, 159]⟩ = .tuple #[.int .i64 1, .bool true] by unfold dayV; rw [show dayRow ⟨#[227, 129, 130, 227, 129, 151, 227, 129, 159]⟩ = some (⟨#[227, 129, 130, 227, 129, 151, 227, 129, 159]⟩, 1) by decide +kernel])
    clear h0
    go_enter Tryz.func37, Tryz.ntmps37
    go_wp2_with fail
    go_ret2
    exact ⟨by rw [HR.out]; rfl, rfl⟩
  by_cases h2 : x = ⟨#[227, 129, 130, 227, 129, 153]⟩
  · subst h2
    have HR := Eqv2.mk (show dayV ⟨#[227, 129, 130, 227, 129, 153]⟩ = .tuple #[.int .i64 1, .bool true] by unfold dayV; rw [show dayRow ⟨#[227, 129, 130, 227, 129, 153]⟩ = some (⟨#[227, 129, 130, 227, 129, 153]⟩, 1) by decide +kernel])
    clear h0 h1
    go_enter Tryz.func37, Tryz.ntmps37
    go_wp2_with fail
    go_ret2
    exact ⟨by rw [HR.out]; rfl, rfl⟩
  by_cases h3 : x = ⟨#[227, 129, 130, 227, 129, 149, 227, 129, 163, 227, 129, 166]⟩
  · subst h3
    have HR := Eqv2.mk (show dayV ⟨#[227, 129, 130, 227, 129, 149, 227, 129, 163, 227, 129, 166]⟩ = .tuple #[.int .i64 2, .bool true] by unfold dayV; rw [show dayRow ⟨#[227, 129, 130, 227, 129, 149, 227, 129, 163, 227, 129, 166]⟩ = some (⟨#[227, 129, 130, 227, 129, 149, 227, 129, 163, 227, 129, 166]⟩, 2) by decide +kernel])
    clear h0 h1 h2
    go_enter Tryz.func37, Tryz.ntmps37
    go_wp2_with fail
    go_ret2
    exact ⟨by rw [HR.out]; rfl, rfl⟩
  by_cases h4 : x = ⟨#[227, 129, 141, 227, 129, 174, 227, 129, 134]⟩
  · subst h4
    have HR := Eqv2.mk (show dayV ⟨#[227, 129, 141, 227, 129, 174, 227, 129, 134]⟩ = .tuple #[.int .i64 (-1), .bool true] by unfold dayV; rw [show dayRow ⟨#[227, 129, 141, 227, 129, 174, 227, 129, 134]⟩ = some (⟨#[227, 129, 141, 227, 129, 174, 227, 129, 134]⟩, (-1)) by decide +kernel])
    clear h0 h1 h2 h3
    go_enter Tryz.func37, Tryz.ntmps37
    go_wp2_with fail
    go_ret2
    exact ⟨by rw [HR.out]; rfl, rfl⟩
  by_cases h5 : x = ⟨#[227, 129, 138, 227, 129, 168, 227, 129, 168, 227, 129, 132]⟩
  · subst h5
    have HR := Eqv2.mk (show dayV ⟨#[227, 129, 138, 227, 129, 168, 227, 129, 168, 227, 129, 132]⟩ = .tuple #[.int .i64 (-2), .bool true] by unfold dayV; rw [show dayRow ⟨#[227, 129, 138, 227, 129, 168, 227, 129, 168, 227, 129, 132]⟩ = some (⟨#[227, 129, 138, 227, 129, 168, 227, 129, 168, 227, 129, 132]⟩, (-2)) by decide +kernel])
    clear h0 h1 h2 h3 h4
    go_enter Tryz.func37, Tryz.ntmps37
    go_wp2_with fail
    go_ret2
    exact ⟨by rw [HR.out]; rfl, rfl⟩
  have HR := Eqv2.mk (show dayV x = .tuple #[.int .i64 0, .bool false] by
    have : dayRow x = none := by
      unfold dayRow dayTab
      simp only [List.find?_cons, ne_str2 h0, ne_str2 h1, ne_str2 h2, ne_str2 h3, ne_str2 h4, ne_str2 h5, List.find?_nil]
    unfold dayV; rw [this])
  have e0 : (x.toList == [227, 129, 141, 227, 130, 135, 227, 129, 134]) = false := ne_str h0
  have e1 : (x.toList == [227, 129, 130, 227, 129, 151, 227, 129, 159]) = false := ne_str h1
  have e2 : (x.toList == [227, 129, 130, 227, 129, 153]) = false := ne_str h2
  have e3 : (x.toList == [227, 129, 130, 227, 129, 149, 227, 129, 163, 227, 129, 166]) = false := ne_str h3
  have e4 : (x.toList == [227, 129, 141, 227, 129, 174, 227, 129, 134]) = false := ne_str h4
  have e5 : (x.toList == [227, 129, 138, 227, 129, 168, 227, 129, 168, 227, 129, 132]) = false := ne_str h5
  clear h0 h1 h2 h3 h4 h5
  go_enter Tryz.func37, Tryz.ntmps37
  go_wp2_with fail
  go_ret2
  exact ⟨by rw [HR.out]; rfl, rfl⟩
theorem strs_new (w : World) (ys : List ByteArray) (cs : Array Value) (n : Nat) (hcs : cs = (ys.map Value.string).toArray) (h : ys.length = n) (h9 : n ≤ 1000) : Strs w.heap.size (.slice (some ⟨w.heap.size, 0, none⟩) n n) ys (w.alloc (.cells cs 9)) := by
  subst h hcs
  have hg := (MapKept.heap_alloc w (.cells (ys.map Value.string).toArray 9)).1
  exact ⟨by rw [List.length_map, Nat.mul_one], .inr ⟨w.heap.size, ys.length, _, rfl, Nat.le_refl _, hg, Nat.le_refl _, by unfold maxLen; omega, by simp, by rw [Nat.mul_one]; exact List.take_of_length_le (by simp)⟩⟩
theorem bas_of {xs : List ByteArray} {L : List (List UInt8)} (h : xs.map (·.data.toList) = L) : xs.map (·.data.toList) = L := h
set_option maxRecDepth 100000 in
set_option maxHeartbeats 4000000 in
theorem rsymbols_any (x : ByteArray) (w : World) :
    Calls Tryz.prog 39 #[.string x] w (GivesC (symPart x) w) := by
  by_cases h0 : x = ⟨#[227, 130, 132, 227, 129, 152, 227, 130, 139, 227, 129, 151]⟩
  · subst h0
    have HR := Eqv2.mk (show symPart ⟨#[227, 130, 132, 227, 129, 152, 227, 130, 139, 227, 129, 151]⟩ = ([⟨#[226, 134, 146]⟩, ⟨#[226, 134, 144]⟩, ⟨#[226, 134, 145]⟩, ⟨#[226, 134, 147]⟩, ⟨#[226, 135, 146]⟩, ⟨#[226, 135, 148]⟩] : List ByteArray).map (·.data.toList) by unfold symPart; rw [show symRow ⟨#[227, 130, 132, 227, 129, 152, 227, 130, 139, 227, 129, 151]⟩ = some (⟨#[227, 130, 132, 227, 129, 152, 227, 130, 139, 227, 129, 151]⟩, ⟨#[226, 134, 146, 32, 226, 134, 144, 32, 226, 134, 145, 32, 226, 134, 147, 32, 226, 135, 146, 32, 226, 135, 148]⟩) by decide +kernel]; decide +kernel)
    have HS := Lib.hid (strs_new w ([⟨#[226, 134, 146]⟩, ⟨#[226, 134, 144]⟩, ⟨#[226, 134, 145]⟩, ⟨#[226, 134, 147]⟩, ⟨#[226, 135, 146]⟩, ⟨#[226, 135, 148]⟩] : List ByteArray) #[.string ⟨#[226, 134, 146]⟩, .string ⟨#[226, 134, 144]⟩, .string ⟨#[226, 134, 145]⟩, .string ⟨#[226, 134, 147]⟩, .string ⟨#[226, 135, 146]⟩, .string ⟨#[226, 135, 148]⟩] 6 rfl rfl (by omega))
    skip
    go_enter Tryz.func39, Tryz.ntmps39
    go_wp2_with fail
    go_ret
    exact ⟨_, _, HR.out.symm, HS.out, rfl, (Below.refl _ _).alloc (Nat.le_refl _) _⟩
  by_cases h1 : x = ⟨#[227, 129, 187, 227, 129, 151]⟩
  · subst h1
    have HR := Eqv2.mk (show symPart ⟨#[227, 129, 187, 227, 129, 151]⟩ = ([⟨#[226, 152, 134]⟩, ⟨#[226, 152, 133]⟩] : List ByteArray).map (·.data.toList) by unfold symPart; rw [show symRow ⟨#[227, 129, 187, 227, 129, 151]⟩ = some (⟨#[227, 129, 187, 227, 129, 151]⟩, ⟨#[226, 152, 134, 32, 226, 152, 133]⟩) by decide +kernel]; decide +kernel)
    have HS := Lib.hid (strs_new w ([⟨#[226, 152, 134]⟩, ⟨#[226, 152, 133]⟩] : List ByteArray) #[.string ⟨#[226, 152, 134]⟩, .string ⟨#[226, 152, 133]⟩] 2 rfl rfl (by omega))
    clear h0
    go_enter Tryz.func39, Tryz.ntmps39
    go_wp2_with fail
    go_ret
    exact ⟨_, _, HR.out.symm, HS.out, rfl, (Below.refl _ _).alloc (Nat.le_refl _) _⟩
  by_cases h2 : x = ⟨#[227, 129, 190, 227, 130, 139]⟩
  · subst h2
    have HR := Eqv2.mk (show symPart ⟨#[227, 129, 190, 227, 130, 139]⟩ = ([⟨#[226, 151, 139]⟩, ⟨#[226, 151, 143]⟩, ⟨#[226, 151, 142]⟩] : List ByteArray).map (·.data.toList) by unfold symPart; rw [show symRow ⟨#[227, 129, 190, 227, 130, 139]⟩ = some (⟨#[227, 129, 190, 227, 130, 139]⟩, ⟨#[226, 151, 139, 32, 226, 151, 143, 32, 226, 151, 142]⟩) by decide +kernel]; decide +kernel)
    have HS := Lib.hid (strs_new w ([⟨#[226, 151, 139]⟩, ⟨#[226, 151, 143]⟩, ⟨#[226, 151, 142]⟩] : List ByteArray) #[.string ⟨#[226, 151, 139]⟩, .string ⟨#[226, 151, 143]⟩, .string ⟨#[226, 151, 142]⟩] 3 rfl rfl (by omega))
    clear h0 h1
    go_enter Tryz.func39, Tryz.ntmps39
    go_wp2_with fail
    go_ret
    exact ⟨_, _, HR.out.symm, HS.out, rfl, (Below.refl _ _).alloc (Nat.le_refl _) _⟩
  by_cases h3 : x = ⟨#[227, 129, 149, 227, 130, 147, 227, 129, 139, 227, 129, 143]⟩
  · subst h3
    have HR := Eqv2.mk (show symPart ⟨#[227, 129, 149, 227, 130, 147, 227, 129, 139, 227, 129, 143]⟩ = ([⟨#[226, 150, 179]⟩, ⟨#[226, 150, 178]⟩, ⟨#[226, 150, 189]⟩, ⟨#[226, 150, 188]⟩] : List ByteArray).map (·.data.toList) by unfold symPart; rw [show symRow ⟨#[227, 129, 149, 227, 130, 147, 227, 129, 139, 227, 129, 143]⟩ = some (⟨#[227, 129, 149, 227, 130, 147, 227, 129, 139, 227, 129, 143]⟩, ⟨#[226, 150, 179, 32, 226, 150, 178, 32, 226, 150, 189, 32, 226, 150, 188]⟩) by decide +kernel]; decide +kernel)
    have HS := Lib.hid (strs_new w ([⟨#[226, 150, 179]⟩, ⟨#[226, 150, 178]⟩, ⟨#[226, 150, 189]⟩, ⟨#[226, 150, 188]⟩] : List ByteArray) #[.string ⟨#[226, 150, 179]⟩, .string ⟨#[226, 150, 178]⟩, .string ⟨#[226, 150, 189]⟩, .string ⟨#[226, 150, 188]⟩] 4 rfl rfl (by omega))
    clear h0 h1 h2
    go_enter Tryz.func39, Tryz.ntmps39
    go_wp2_with fail
    go_ret
    exact ⟨_, _, HR.out.symm, HS.out, rfl, (Below.refl _ _).alloc (Nat.le_refl _) _⟩
  by_cases h4 : x = ⟨#[227, 129, 151, 227, 129, 139, 227, 129, 143]⟩
  · subst h4
    have HR := Eqv2.mk (show symPart ⟨#[227, 129, 151, 227, 129, 139, 227, 129, 143]⟩ = ([⟨#[226, 150, 161]⟩, ⟨#[226, 150, 160]⟩] : List ByteArray).map (·.data.toList) by unfold symPart; rw [show symRow ⟨#[227, 129, 151, 227, 129, 139, 227, 129, 143]⟩ = some (⟨#[227, 129, 151, 227, 129, 139, 227, 129, 143]⟩, ⟨#[226, 150, 161, 32, 226, 150, 160]⟩) by decide +kernel]; decide +kernel)
    have HS := Lib.hid (strs_new w ([⟨#[226, 150, 161]⟩, ⟨#[226, 150, 160]⟩] : List ByteArray) #[.string ⟨#[226, 150, 161]⟩, .string ⟨#[226, 150, 160]⟩] 2 rfl rfl (by omega))
    clear h0 h1 h2 h3
    go_enter Tryz.func39, Tryz.ntmps39
    go_wp2_with fail
    go_ret
    exact ⟨_, _, HR.out.symm, HS.out, rfl, (Below.refl _ _).alloc (Nat.le_refl _) _⟩
  by_cases h5 : x = ⟨#[227, 129, 139, 227, 129, 163, 227, 129, 147]⟩
  · subst h5
    have HR := Eqv2.mk (show symPart ⟨#[227, 129, 139, 227, 129, 163, 227, 129, 147]⟩ = ([⟨#[227, 128, 140, 227, 128, 141]⟩, ⟨#[227, 128, 142, 227, 128, 143]⟩, ⟨#[239, 188, 136, 239, 188, 137]⟩, ⟨#[227, 128, 144, 227, 128, 145]⟩, ⟨#[227, 128, 136, 227, 128, 137]⟩, ⟨#[227, 128, 138, 227, 128, 139]⟩] : List ByteArray).map (·.data.toList) by unfold symPart; rw [show symRow ⟨#[227, 129, 139, 227, 129, 163, 227, 129, 147]⟩ = some (⟨#[227, 129, 139, 227, 129, 163, 227, 129, 147]⟩, ⟨#[227, 128, 140, 227, 128, 141, 32, 227, 128, 142, 227, 128, 143, 32, 239, 188, 136, 239, 188, 137, 32, 227, 128, 144, 227, 128, 145, 32, 227, 128, 136, 227, 128, 137, 32, 227, 128, 138, 227, 128, 139]⟩) by decide +kernel]; decide +kernel)
    have HS := Lib.hid (strs_new w ([⟨#[227, 128, 140, 227, 128, 141]⟩, ⟨#[227, 128, 142, 227, 128, 143]⟩, ⟨#[239, 188, 136, 239, 188, 137]⟩, ⟨#[227, 128, 144, 227, 128, 145]⟩, ⟨#[227, 128, 136, 227, 128, 137]⟩, ⟨#[227, 128, 138, 227, 128, 139]⟩] : List ByteArray) #[.string ⟨#[227, 128, 140, 227, 128, 141]⟩, .string ⟨#[227, 128, 142, 227, 128, 143]⟩, .string ⟨#[239, 188, 136, 239, 188, 137]⟩, .string ⟨#[227, 128, 144, 227, 128, 145]⟩, .string ⟨#[227, 128, 136, 227, 128, 137]⟩, .string ⟨#[227, 128, 138, 227, 128, 139]⟩] 6 rfl rfl (by omega))
    clear h0 h1 h2 h3 h4
    go_enter Tryz.func39, Tryz.ntmps39
    go_wp2_with fail
    go_ret
    exact ⟨_, _, HR.out.symm, HS.out, rfl, (Below.refl _ _).alloc (Nat.le_refl _) _⟩
  by_cases h6 : x = ⟨#[227, 129, 138, 227, 130, 147, 227, 129, 183]⟩
  · subst h6
    have HR := Eqv2.mk (show symPart ⟨#[227, 129, 138, 227, 130, 147, 227, 129, 183]⟩ = ([⟨#[226, 153, 170]⟩] : List ByteArray).map (·.data.toList) by unfold symPart; rw [show symRow ⟨#[227, 129, 138, 227, 130, 147, 227, 129, 183]⟩ = some (⟨#[227, 129, 138, 227, 130, 147, 227, 129, 183]⟩, ⟨#[226, 153, 170]⟩) by decide +kernel]; decide +kernel)
    have HS := Lib.hid (strs_new w ([⟨#[226, 153, 170]⟩] : List ByteArray) #[.string ⟨#[226, 153, 170]⟩] 1 rfl rfl (by omega))
    clear h0 h1 h2 h3 h4 h5
    go_enter Tryz.func39, Tryz.ntmps39
    go_wp2_with fail
    go_ret
    exact ⟨_, _, HR.out.symm, HS.out, rfl, (Below.refl _ _).alloc (Nat.le_refl _) _⟩
  by_cases h7 : x = ⟨#[227, 129, 147, 227, 130, 129]⟩
  · subst h7
    have HR := Eqv2.mk (show symPart ⟨#[227, 129, 147, 227, 130, 129]⟩ = ([⟨#[226, 128, 187]⟩] : List ByteArray).map (·.data.toList) by unfold symPart; rw [show symRow ⟨#[227, 129, 147, 227, 130, 129]⟩ = some (⟨#[227, 129, 147, 227, 130, 129]⟩, ⟨#[226, 128, 187]⟩) by decide +kernel]; decide +kernel)
    have HS := Lib.hid (strs_new w ([⟨#[226, 128, 187]⟩] : List ByteArray) #[.string ⟨#[226, 128, 187]⟩] 1 rfl rfl (by omega))
    clear h0 h1 h2 h3 h4 h5 h6
    go_enter Tryz.func39, Tryz.ntmps39
    go_wp2_with fail
    go_ret
    exact ⟨_, _, HR.out.symm, HS.out, rfl, (Below.refl _ _).alloc (Nat.le_refl _) _⟩
  by_cases h8 : x = ⟨#[227, 129, 139, 227, 130, 137]⟩
  · subst h8
    have HR := Eqv2.mk (show symPart ⟨#[227, 129, 139, 227, 130, 137]⟩ = ([⟨#[227, 128, 156]⟩] : List ByteArray).map (·.data.toList) by unfold symPart; rw [show symRow ⟨#[227, 129, 139, 227, 130, 137]⟩ = some (⟨#[227, 129, 139, 227, 130, 137]⟩, ⟨#[227, 128, 156]⟩) by decide +kernel]; decide +kernel)
    have HS := Lib.hid (strs_new w ([⟨#[227, 128, 156]⟩] : List ByteArray) #[.string ⟨#[227, 128, 156]⟩] 1 rfl rfl (by omega))
    clear h0 h1 h2 h3 h4 h5 h6 h7
    go_enter Tryz.func39, Tryz.ntmps39
    go_wp2_with fail
    go_ret
    exact ⟨_, _, HR.out.symm, HS.out, rfl, (Below.refl _ _).alloc (Nat.le_refl _) _⟩
  by_cases h9 : x = ⟨#[227, 129, 166, 227, 130, 147]⟩
  · subst h9
    have HR := Eqv2.mk (show symPart ⟨#[227, 129, 166, 227, 130, 147]⟩ = ([⟨#[227, 131, 187]⟩, ⟨#[227, 128, 129]⟩, ⟨#[226, 128, 166]⟩] : List ByteArray).map (·.data.toList) by unfold symPart; rw [show symRow ⟨#[227, 129, 166, 227, 130, 147]⟩ = some (⟨#[227, 129, 166, 227, 130, 147]⟩, ⟨#[227, 131, 187, 32, 227, 128, 129, 32, 226, 128, 166]⟩) by decide +kernel]; decide +kernel)
    have HS := Lib.hid (strs_new w ([⟨#[227, 131, 187]⟩, ⟨#[227, 128, 129]⟩, ⟨#[226, 128, 166]⟩] : List ByteArray) #[.string ⟨#[227, 131, 187]⟩, .string ⟨#[227, 128, 129]⟩, .string ⟨#[226, 128, 166]⟩] 3 rfl rfl (by omega))
    clear h0 h1 h2 h3 h4 h5 h6 h7 h8
    go_enter Tryz.func39, Tryz.ntmps39
    go_wp2_with fail
    go_ret
    exact ⟨_, _, HR.out.symm, HS.out, rfl, (Below.refl _ _).alloc (Nat.le_refl _) _⟩
  by_cases h10 : x = ⟨#[227, 130, 134, 227, 129, 134, 227, 129, 179, 227, 130, 147]⟩
  · subst h10
    have HR := Eqv2.mk (show symPart ⟨#[227, 130, 134, 227, 129, 134, 227, 129, 179, 227, 130, 147]⟩ = ([⟨#[227, 128, 146]⟩] : List ByteArray).map (·.data.toList) by unfold symPart; rw [show symRow ⟨#[227, 130, 134, 227, 129, 134, 227, 129, 179, 227, 130, 147]⟩ = some (⟨#[227, 130, 134, 227, 129, 134, 227, 129, 179, 227, 130, 147]⟩, ⟨#[227, 128, 146]⟩) by decide +kernel]; decide +kernel)
    have HS := Lib.hid (strs_new w ([⟨#[227, 128, 146]⟩] : List ByteArray) #[.string ⟨#[227, 128, 146]⟩] 1 rfl rfl (by omega))
    clear h0 h1 h2 h3 h4 h5 h6 h7 h8 h9
    go_enter Tryz.func39, Tryz.ntmps39
    go_wp2_with fail
    go_ret
    exact ⟨_, _, HR.out.symm, HS.out, rfl, (Below.refl _ _).alloc (Nat.le_refl _) _⟩
  by_cases h11 : x = ⟨#[227, 129, 138, 227, 129, 170, 227, 129, 152]⟩
  · subst h11
    have HR := Eqv2.mk (show symPart ⟨#[227, 129, 138, 227, 129, 170, 227, 129, 152]⟩ = ([⟨#[227, 128, 133]⟩, ⟨#[227, 128, 131]⟩] : List ByteArray).map (·.data.toList) by unfold symPart; rw [show symRow ⟨#[227, 129, 138, 227, 129, 170, 227, 129, 152]⟩ = some (⟨#[227, 129, 138, 227, 129, 170, 227, 129, 152]⟩, ⟨#[227, 128, 133, 32, 227, 128, 131]⟩) by decide +kernel]; decide +kernel)
    have HS := Lib.hid (strs_new w ([⟨#[227, 128, 133]⟩, ⟨#[227, 128, 131]⟩] : List ByteArray) #[.string ⟨#[227, 128, 133]⟩, .string ⟨#[227, 128, 131]⟩] 2 rfl rfl (by omega))
    clear h0 h1 h2 h3 h4 h5 h6 h7 h8 h9 h10
    go_enter Tryz.func39, Tryz.ntmps39
    go_wp2_with fail
    go_ret
    exact ⟨_, _, HR.out.symm, HS.out, rfl, (Below.refl _ _).alloc (Nat.le_refl _) _⟩
  have HR := Eqv2.mk (show symPart x = [] by
    have : symRow x = none := by
      unfold symRow symTab
      simp only [List.find?_cons, ne_str2 h0, ne_str2 h1, ne_str2 h2, ne_str2 h3, ne_str2 h4, ne_str2 h5, ne_str2 h6, ne_str2 h7, ne_str2 h8, ne_str2 h9, ne_str2 h10, ne_str2 h11, List.find?_nil]
    unfold symPart; rw [this])
  have e0 : (x.toList == [227, 130, 132, 227, 129, 152, 227, 130, 139, 227, 129, 151]) = false := ne_str h0
  have e1 : (x.toList == [227, 129, 187, 227, 129, 151]) = false := ne_str h1
  have e2 : (x.toList == [227, 129, 190, 227, 130, 139]) = false := ne_str h2
  have e3 : (x.toList == [227, 129, 149, 227, 130, 147, 227, 129, 139, 227, 129, 143]) = false := ne_str h3
  have e4 : (x.toList == [227, 129, 151, 227, 129, 139, 227, 129, 143]) = false := ne_str h4
  have e5 : (x.toList == [227, 129, 139, 227, 129, 163, 227, 129, 147]) = false := ne_str h5
  have e6 : (x.toList == [227, 129, 138, 227, 130, 147, 227, 129, 183]) = false := ne_str h6
  have e7 : (x.toList == [227, 129, 147, 227, 130, 129]) = false := ne_str h7
  have e8 : (x.toList == [227, 129, 139, 227, 130, 137]) = false := ne_str h8
  have e9 : (x.toList == [227, 129, 166, 227, 130, 147]) = false := ne_str h9
  have e10 : (x.toList == [227, 130, 134, 227, 129, 134, 227, 129, 179, 227, 130, 147]) = false := ne_str h10
  have e11 : (x.toList == [227, 129, 138, 227, 129, 170, 227, 129, 152]) = false := ne_str h11
  clear h0 h1 h2 h3 h4 h5 h6 h7 h8 h9 h10 h11
  go_enter Tryz.func39, Tryz.ntmps39
  go_wp2_with fail
  go_ret
  exact ⟨_, [], by rw [HR.out]; rfl, Strs.nil _ _, rfl, Below.refl _ _⟩
theorem symPart_len (x : ByteArray) : (symPart x).length ≤ 20 := by
  unfold symPart
  cases h : symRow x with
  | none => simp
  | some y =>
    have := symRow_bd h
    dsimp only
    rw [List.length_map, this.1]; omega
set_option maxRecDepth 100000 in
set_option maxHeartbeats 8000000 in
theorem rof_any (s : ByteArray) (l : List UInt8) (day : Int) (w : World) (h : Is s l) (hs : s.size ≤ 17592186044416) :
    Calls Tryz.prog 15 #[.string s, .int .i64 day] w (GivesC (ofL l day) w) := by
  have HI := Lib.hid h
  have HFL := Lib.hid (forms_len l)
  obtain ⟨L, hL⟩ : ∃ L, ofL l day = L := ⟨_, rfl⟩
  have HL := Eqv2.mk hL
  rw [hL]
  clear h hL
  go_enter Tryz.func15, Tryz.ntmps15
  go_wp2_with fail
  with_reducible refine (rforms_any s l _ HI.out (by omega)).mono ?_
  rintro e w1 ⟨v0, xs1, hm1, hx1, rfl, hb⟩
  have HM1 := Eqv2.mk hm1
  have HSRC := Lib.hid hx1.src
  have HB1 := Lib.hid hb
  have HX0 := Lib.hid (Strs.nil w.heap.size w1)
  have hl1 : xs1.length ≤ 6 := by have := HFL.out; rw [← hm1, List.length_map] at this; exact this
  clear hm1 hx1 hb
  go_wp2_with (at_builtin; refine wpList_append_strs _ rfl _ _ rfl w.heap.size _ [] rfl HX0.out v0 xs1 rfl HSRC.out ?c1 ?c2 ?_)
  case c1 => simp; omega
  case c2 => exact HB1.out.size
  intro v1 w2 hx2 hbf _ _
  have HB2 := Lib.hid (hbf w HB1.out)
  have HX2 := Lib.hid hx2
  clear hx2 hbf HX0 HSRC
  go_wp2_with fail
  with_reducible refine (rhira_any s l _ HI.out hs).mono ?_
  rintro e w5 ⟨⟨x, hx, rfl⟩, hb⟩
  have HXX := Eqv2.mk (show (⟨(UT.hira l).toArray⟩ : ByteArray) = x from (Is.mk _).eq hx)
  have HB5 := Lib.hid (HB2.out.trans (hb.mono HB2.out.size))
  have HX5 := Lib.hid (HX2.out.below hb (Nat.le_refl _))
  clear hx hb
  go_wp2_with fail
  with_reducible refine (away_any x _).mono ?_
  unfold dayV
  rintro e w6 ⟨he, rfl⟩
  cases hd : dayRow x with
  | none =>
    rw [hd] at he
    subst he
    have HP := Eqv2.mk (show dayPart x day = [] by unfold dayPart; rw [hd])
    clear hd
    go_wp2_with fail
    with_reducible refine (rsymbols_any x _).mono ?_
    rintro e w8 ⟨v8, xs8, hm8, hx8, rfl, hb⟩
    have hl8 : xs8.length ≤ 20 := by have := symPart_len x; rw [← hm8, List.length_map] at this; exact this
    have HM8 := Eqv2.mk hm8
    have HSRC8 := Lib.hid hx8.src
    have HX8 := Lib.hid (HX5.out.below hb (Nat.le_refl _))
    have HB8 := Lib.hid (HB5.out.trans (hb.mono HB5.out.size))
    clear hm8 hx8 hb
    go_wp2_with (at_builtin; refine wpList_append_strs _ rfl _ _ rfl w.heap.size _ xs1 rfl HX8.out v8 xs8 rfl HSRC8.out ?d1 ?d2 ?_)
    case d1 => omega
    case d2 => exact HB8.out.size
    intro v10 w10 hx10 hbf _ _
    have HB10 := Lib.hid (hbf w HB8.out)
    have HX10 := Lib.hid hx10
    clear hx10 hbf
    go_wp2_with fail
    go_ret
    exact ⟨_, xs1 ++ xs8, by rw [← HL.out]; unfold ofL; rw [HXX.out, HP.out, ← HM8.out]; simp only [List.map_append, HM1.out, List.append_nil], HX10.out, rfl, HB10.out⟩
  | some y =>
    rw [hd] at he
    subst he
    obtain ⟨yn, yv⟩ := y
    obtain ⟨y1, y2⟩ := dayRow_bd hd
    dsimp only at y1 y2 ⊢
    by_cases c1 : -2 ≤ day
    · by_cases c2 : day ≤ 3652061
      · have HP := Eqv2.mk (show dayPart x day = dayL (day + yv) by unfold dayPart; rw [hd]; dsimp only; rw [if_pos ⟨c1, c2⟩])
        clear hd
        go_wp2_with fail
        with_reducible refine (rforms_all (day + yv) _).mono ?_
        rintro e w6 ⟨v6, xs6, hm6, hx6, rfl, hb⟩
        have hl6 : xs6.length ≤ 8 := by have := dayL_len (day + yv); rw [← hm6, List.length_map] at this; exact this
        have HM6 := Eqv2.mk hm6
        have HSRC6 := Lib.hid hx6.src
        have HX6 := Lib.hid (HX5.out.below hb (Nat.le_refl _))
        have HB6 := Lib.hid (HB5.out.trans (hb.mono HB5.out.size))
        clear hm6 hx6 hb
        go_wp2_with (at_builtin; refine wpList_append_strs _ rfl _ _ rfl w.heap.size v1 xs1 rfl HX6.out v6 xs6 rfl HSRC6.out ?c1 ?c2 ?_)
        case c1 => omega
        case c2 => exact HB6.out.size
        intro v7 w7 hx7 hbf _ _
        have HB7 := Lib.hid (hbf w HB6.out)
        have HX7 := Lib.hid hx7
        clear hx7 hbf
        go_wp2_with fail
        with_reducible refine (rsymbols_any x _).mono ?_
        rintro e w8 ⟨v8, xs8, hm8, hx8, rfl, hb⟩
        have hl8 : xs8.length ≤ 20 := by have := symPart_len x; rw [← hm8, List.length_map] at this; exact this
        have HM8 := Eqv2.mk hm8
        have HSRC8 := Lib.hid hx8.src
        have HX8 := Lib.hid (HX7.out.below hb (Nat.le_refl _))
        have HB8 := Lib.hid (HB7.out.trans (hb.mono HB7.out.size))
        clear hm8 hx8 hb
        go_wp2_with (at_builtin; refine wpList_append_strs _ rfl _ _ rfl w.heap.size _ (xs1 ++ xs6) rfl HX8.out v8 xs8 rfl HSRC8.out ?d1 ?d2 ?_)
        case d1 => simp only [List.length_append]; omega
        case d2 => exact HB8.out.size
        intro v10 w10 hx10 hbf _ _
        have HB10 := Lib.hid (hbf w HB8.out)
        have HX10 := Lib.hid hx10
        clear hx10 hbf
        go_wp2_with fail
        go_ret
        exact ⟨_, (xs1 ++ xs6) ++ xs8, by rw [← HL.out]; unfold ofL; rw [HXX.out, HP.out, ← HM8.out]; simp only [List.map_append, HM1.out, HM6.out], (by first | exact HX10.out | (rw [List.append_assoc]; exact HX10.out)), rfl, HB10.out⟩
      · have HP := Eqv2.mk (show dayPart x day = [] by unfold dayPart; rw [hd]; dsimp only; rw [if_neg (by omega)])
        clear hd
        go_wp2_with fail
        with_reducible refine (rsymbols_any x _).mono ?_
        rintro e w8 ⟨v8, xs8, hm8, hx8, rfl, hb⟩
        have hl8 : xs8.length ≤ 20 := by have := symPart_len x; rw [← hm8, List.length_map] at this; exact this
        have HM8 := Eqv2.mk hm8
        have HSRC8 := Lib.hid hx8.src
        have HX8 := Lib.hid (HX5.out.below hb (Nat.le_refl _))
        have HB8 := Lib.hid (HB5.out.trans (hb.mono HB5.out.size))
        clear hm8 hx8 hb
        go_wp2_with (at_builtin; refine wpList_append_strs _ rfl _ _ rfl w.heap.size _ xs1 rfl HX8.out v8 xs8 rfl HSRC8.out ?d1 ?d2 ?_)
        case d1 => omega
        case d2 => exact HB8.out.size
        intro v10 w10 hx10 hbf _ _
        have HB10 := Lib.hid (hbf w HB8.out)
        have HX10 := Lib.hid hx10
        clear hx10 hbf
        go_wp2_with fail
        go_ret
        exact ⟨_, xs1 ++ xs8, by rw [← HL.out]; unfold ofL; rw [HXX.out, HP.out, ← HM8.out]; simp only [List.map_append, HM1.out, List.append_nil], HX10.out, rfl, HB10.out⟩
    · have HP := Eqv2.mk (show dayPart x day = [] by unfold dayPart; rw [hd]; dsimp only; rw [if_neg (by omega)])
      clear hd
      go_wp2_with fail
      with_reducible refine (rsymbols_any x _).mono ?_
      rintro e w8 ⟨v8, xs8, hm8, hx8, rfl, hb⟩
      have hl8 : xs8.length ≤ 20 := by have := symPart_len x; rw [← hm8, List.length_map] at this; exact this
      have HM8 := Eqv2.mk hm8
      have HSRC8 := Lib.hid hx8.src
      have HX8 := Lib.hid (HX5.out.below hb (Nat.le_refl _))
      have HB8 := Lib.hid (HB5.out.trans (hb.mono HB5.out.size))
      clear hm8 hx8 hb
      go_wp2_with (at_builtin; refine wpList_append_strs _ rfl _ _ rfl w.heap.size _ xs1 rfl HX8.out v8 xs8 rfl HSRC8.out ?d1 ?d2 ?_)
      case d1 => omega
      case d2 => exact HB8.out.size
      intro v10 w10 hx10 hbf _ _
      have HB10 := Lib.hid (hbf w HB8.out)
      have HX10 := Lib.hid hx10
      clear hx10 hbf
      go_wp2_with fail
      go_ret
      exact ⟨_, xs1 ++ xs8, by rw [← HL.out]; unfold ofL; rw [HXX.out, HP.out, ← HM8.out]; simp only [List.map_append, HM1.out, List.append_nil], HX10.out, rfl, HB10.out⟩
end Go.Proofs.YtnpkcobapckhdaaGreatDoor
namespace Go.Proofs.YtnpkcobapckhdaaGreatDoor
open Go.RowKit
set_option maxHeartbeats 1000000 in
theorem same20_yes (va vb : Value) (xs : List ByteArray) (w : World) (ha : Lies va xs w) (hb : Lies vb xs w) (hl : xs.length ≤ 4611686018427387904) :
    Calls Tryz.prog 13 #[va, vb] w fun e w' => e = .returned (.bool true) ∧ Below w.heap.size w w' := by
  obtain ⟨ao, ca, rfl, ha⟩ := ha
  obtain ⟨bo, cb, rfl, hb⟩ := hb
  obtain ⟨n, hn⟩ : ∃ n, xs.length = n := ⟨_, rfl⟩
  rw [hn] at ha hb hl
  rw [hn]
  have HA := Lib.hid ha
  have HB := Lib.hid hb
  clear ha hb hn
  go_enter Tryz.func13, Tryz.ntmps13
  go_wp2_with fail
  go_loopw [5] (fun i wr => ∃ k : Nat, k ≤ n ∧ i = .int .i64 k ∧ ∃ q, wr = w.drewN q) (fun i _ => n - (intOf i).toNat)
  case atStart => exact ⟨0, by omega, rfl, 0, rfl⟩
  case round =>
    obtain ⟨k, hk, rfl, q, rfl⟩ := hrel
    by_cases hkn : k < n
    · obtain ⟨g, rfl, hg⟩ := HA.out k hkn
      obtain ⟨g2, rfl, hg2⟩ := HB.out k hkn
      obtain ⟨x, hx⟩ : ∃ x, xs.getD k ⟨#[]⟩ = x := ⟨_, rfl⟩
      rw [hx] at hg hg2
      clear hx
      go_wp2_with fail
      go_quiet (fail)
      go_wp2_with fail
      go_roundw
      case rel => exact ⟨k + 1, by omega, by go_num, _, rfl⟩
      case measure => simp [intOf]; omega
    · obtain rfl : k = n := by omega
      go_wp2_with fail
      go_ret
      exact ⟨rfl, bel_dn (Below.refl _ _) q⟩

set_option maxHeartbeats 1000000 in
theorem has_any (v : Value) (xs : List ByteArray) (s : ByteArray) (w : World) (h : Lies v xs w) (hl : xs.length ≤ 1000) :
    Calls Tryz.prog 18 #[v, .string s] w fun e w' => e = .returned (.bool (decide (s.data.toList ∈ xs.map (·.data.toList)))) ∧ w = w' := by
  obtain ⟨ao, cap, rfl, hc⟩ := h
  obtain ⟨n, hn⟩ : ∃ n, xs.length = n := ⟨_, rfl⟩
  have HN := Eqv2.mk hn
  rw [hn] at hc hl
  rw [hn]
  have HC := Lib.hid hc
  obtain ⟨R, hR⟩ : ∃ R, decide (s.data.toList ∈ xs.map (·.data.toList)) = R := ⟨_, rfl⟩
  have HRR := Eqv2.mk hR
  rw [hR]
  clear hc hn hR
  go_enter Tryz.func18, Tryz.ntmps18
  go_wp2_with fail
  go_loop [5] (fun i => ∃ k : Nat, k ≤ n ∧ i = .int .i64 k ∧ (∀ (j : Nat) y, j < k → xs[j]? = some y → y.data.toList ≠ s.data.toList)) (fun i => n - (intOf i).toNat)
  case atStart => exact ⟨0, by omega, rfl, fun j y hj => by omega⟩
  case round =>
    obtain ⟨k, hk, rfl, hno⟩ := hrel
    have HNO := Lib.hid hno
    clear hno
    by_cases hkn : k < n
    · obtain ⟨g, rfl, hg⟩ := HC.out k hkn
      have hkl : k < xs.length := by rw [HN.out]; exact hkn
      obtain ⟨x, hx⟩ : ∃ x, xs.getD k ⟨#[]⟩ = x := ⟨_, rfl⟩
      have hxk : xs[k]? = some x := by rw [← hx, List.getD_eq_getElem?_getD, List.getElem?_eq_getElem hkl]; rfl
      have HXK := Eqv2.mk hxk
      rw [hx] at hg
      clear hx hxk
      by_cases e : x.data.toList = s.data.toList
      · have hb : (x.toList == s.toList) = true := by rw [Lib.toList_data, Lib.toList_data, e]; exact beq_self_eq_true _
        have HR : Eqv2 R true := ⟨HRR.out.symm.trans (decide_eq_true (List.mem_map.2 ⟨x, List.mem_of_getElem? HXK.out, e⟩))⟩
        clear e
        go_wp2_with fail
        go_ret
        exact ⟨by rw [HR.out]; rfl, rfl⟩
      · have hb : (x.toList == s.toList) = false := by rw [Lib.toList_data, Lib.toList_data, beq_eq_false_iff_ne]; exact e
        have HNX := Lib.hid (show ∀ (j : Nat) y, j < k + 1 → xs[j]? = some y → y.data.toList ≠ s.data.toList by
          intro j y hj hy
          rcases Nat.lt_or_ge j k with h | h
          · exact HNO.out j y h hy
          · obtain rfl : j = k := by omega
            rw [HXK.out] at hy; injection hy with hy; subst hy; exact e)
        clear e
        go_wp2_with fail
        go_round
        case rel => exact ⟨k + 1, by omega, by go_num, HNX.out⟩
        case measure => simp [intOf]; omega
    · obtain rfl : k = n := by omega
      have HR : Eqv2 R false := ⟨by
        rw [← HRR.out, decide_eq_false_iff_not]
        intro hm
        obtain ⟨y, hy, he⟩ := List.mem_map.1 hm
        obtain ⟨j, hj, hje⟩ := List.getElem_of_mem hy
        exact HNO.out j y (by rw [← HN.out]; exact hj) (by rw [List.getElem?_eq_getElem hj, hje]) he⟩
      go_wp2_with fail
      go_ret
      exact ⟨by rw [HR.out]; rfl, rfl⟩
theorem ofL_none (l : List UInt8) (day : Int) (h1 : dayRow ⟨(UT.hira l).toArray⟩ = none) : ofL l day = Num.forms l ++ symPart ⟨(UT.hira l).toArray⟩ := by
  unfold ofL dayPart
  rw [h1]
  simp
theorem of123 : ofL [49, 50, 51] 0 = Num.forms [49, 50, 51] ++ symPart ⟨(UT.hira [49, 50, 51]).toArray⟩ := ofL_none _ _ (by decide +kernel)
theorem ofHoshi : ofL [227, 131, 155, 227, 130, 183] 1 = ([⟨#[226, 152, 134]⟩, ⟨#[226, 152, 133]⟩] : List ByteArray).map (·.data.toList) := by rw [ofL_none _ _ (by decide +kernel)]; decide +kernel
theorem ofHon : ofL [227, 129, 187, 227, 130, 147] 1 = [] := by rw [ofL_none _ _ (by decide +kernel)]; decide +kernel
theorem ofL_len (l : List UInt8) (day : Int) : (ofL l day).length ≤ 40 := by
  have a := forms_len l
  have b := symPart_len ⟨(UT.hira l).toArray⟩
  have c : (dayPart ⟨(UT.hira l).toArray⟩ day).length ≤ 8 := by
    unfold dayPart
    split
    · split
      · exact dayL_len _
      · simp
    · simp
  unfold ofL
  rw [List.length_append, List.length_append]; omega
theorem star_lies (w : World) : Lies (.slice (some ⟨w.heap.size, 0, none⟩) 2 2) [⟨#[226, 152, 134]⟩, ⟨#[226, 152, 133]⟩] (w.alloc (.cells #[.string ⟨#[226, 152, 134]⟩, .string ⟨#[226, 152, 133]⟩] 9)) :=
  (strs_new w [⟨#[226, 152, 134]⟩, ⟨#[226, 152, 133]⟩] _ 2 rfl rfl (by omega)).lies
set_option maxRecDepth 100000 in
set_option maxHeartbeats 4000000 in
theorem sworks_any (w : World) (ht : STabs w) :
    Calls Tryz.prog 16 #[] w fun e w' => e = .returned (.bool true) ∧ Below w.heap.size w w' := by
  have HT := Lib.hid ht
  clear ht
  go_enter Tryz.func16, Tryz.ntmps16
  go_wp2_with fail
  with_reducible refine (of_any ⟨#[49, 50, 51]⟩ [49, 50, 51] 0 _ (Is.mk _) (by decide) HT.out).mono ?_
  rw [of123]
  rintro e w1 ⟨v1, xs1, hm1, hx1, rfl, hb⟩
  have HLEN := Lib.hid (show xs1.length ≤ 1000 by have := ofL_len [49, 50, 51] 0; rw [of123, ← hm1, List.length_map] at this; omega)
  have HH1 := Eqv2.mk (show decide ((⟨#[231, 153, 190, 228, 186, 140, 229, 141, 129, 228, 184, 137]⟩ : ByteArray).data.toList ∈ xs1.map (·.data.toList)) = true by rw [hm1]; decide +kernel)
  have HH2 := Eqv2.mk (show decide ((⟨#[239, 188, 145, 239, 188, 146, 239, 188, 147]⟩ : ByteArray).data.toList ∈ xs1.map (·.data.toList)) = true by rw [hm1]; decide +kernel)
  have HX1 := Lib.hid hx1.lies
  have HB1 := Lib.hid hb
  have HT1 := Lib.hid (HT.out.keep hb)
  clear hm1 hx1 hb
  go_wp2_with fail
  with_reducible refine (of_any ⟨#[227, 131, 155, 227, 130, 183]⟩ [227, 131, 155, 227, 130, 183] 1 _ (Is.mk _) (by decide) HT1.out).mono ?_
  rw [ofHoshi]
  rintro e w2 ⟨v2, xs2, hm2, hx2, rfl, hb⟩
  obtain rfl := bas_inj hm2
  have HX2 := Lib.hid (hx2.lies.below ((Below.refl w2.heap.size w2).alloc (Nat.le_refl _) (.cells #[.string ⟨#[226, 152, 134]⟩, .string ⟨#[226, 152, 133]⟩] 9)) (Nat.le_refl _))
  have HSL := Lib.hid (star_lies w2)
  have HB2 := Lib.hid (HB1.out.trans (hb.mono HB1.out.size))
  have HB2a := Lib.hid (HB2.out.alloc HB2.out.size (.cells #[.string ⟨#[226, 152, 134]⟩, .string ⟨#[226, 152, 133]⟩] 9))
  have HX1b := Lib.hid ((HX1.out.below hb (Nat.le_refl _)).below ((Below.refl w2.heap.size w2).alloc (Nat.le_refl _) (.cells #[.string ⟨#[226, 152, 134]⟩, .string ⟨#[226, 152, 133]⟩] 9)) (Nat.le_refl _))
  clear hm2 hx2 hb
  go_wp2_with fail
  with_reducible refine (same20_yes _ _ _ _ HX2.out HSL.out (by decide)).mono ?_
  rintro e w3 ⟨rfl, hb⟩
  have HB3 := Lib.hid (HB2a.out.trans (hb.mono HB2a.out.size))
  have HT3 := Lib.hid (HT.out.keep HB3.out)
  have HX3 := Lib.hid (HX1b.out.below hb (Nat.le_refl _))
  clear hb
  go_wp2_with fail
  with_reducible refine (has_any v1 xs1 ⟨#[231, 153, 190, 228, 186, 140, 229, 141, 129, 228, 184, 137]⟩ _ HX3.out HLEN.out).mono ?_
  rw [HH1.out]
  rintro e w4 ⟨rfl, rfl⟩
  go_wp2_with fail
  with_reducible refine (has_any v1 xs1 ⟨#[239, 188, 145, 239, 188, 146, 239, 188, 147]⟩ _ HX3.out HLEN.out).mono ?_
  rw [HH2.out]
  rintro e w4 ⟨rfl, rfl⟩
  go_wp2_with fail
  with_reducible refine (of_any ⟨#[227, 129, 187, 227, 130, 147]⟩ [227, 129, 187, 227, 130, 147] 1 _ (Is.mk _) (by decide) HT3.out).mono ?_
  rw [ofHon]
  rintro e w5 ⟨v5, xs5, hm5, hx5, rfl, hb⟩
  obtain rfl : xs5 = [] := List.map_eq_nil_iff.1 hm5
  obtain ⟨ao5, cap5, rfl⟩ := hx5.frame
  have HB5 := Lib.hid (HB3.out.trans (hb.mono HB3.out.size))
  clear hm5 hx5 hb
  go_wp2_with fail
  go_ret
  exact ⟨rfl, HB5.out⟩
end Go.Proofs.YtnpkcobapckhdaaGreatDoor
