/-
  What the walks ask of a world: the package's tables (numeral.plain, formal, groups) and unicode/utf8's two, as the program's text lays them; and numeral.valid, henkanref03.Digits by their contracts.
-/
import Derived.Test.YtnpkcobapckhdaaGreatDoorBld
import Derived.Test.YtnpkcobapckhdaaGreatDoorNumMath
import Derived.Shelf.Strings.SlTrimAscii
namespace Go.Proofs.YtnpkcobapckhdaaGreatDoor
open Go.RowKit

def strC (l : List (List UInt8)) : List Value := l.map fun b => .string ⟨b.toArray⟩
def plainC : Array Value := (strC Num.dgP ++ strC Num.unP ++ [Value.bool false]).toArray
def formalC : Array Value := (strC Num.dgF ++ strC Num.unF ++ [Value.bool true]).toArray
def groupsC : Array Value := (strC Num.grp).toArray
/-- block g holds these cells -/
def Row (g : Nat) (cs : Array Value) (w : World) : Prop := ∃ t fr, w.heap[g]? = some (.cells cs t fr)
structure Tabs (w : World) : Prop where
  plain : Row 0 plainC w
  formal : Row 1 formalC w
  groups : Row 2 groupsC w
  utf : Lib.Utf8Tabs 4 5 w

theorem Row.lt {g : Nat} {cs : Array Value} {w : World} (h : Row g cs w) : g < w.heap.size := by
  obtain ⟨t, fr, h⟩ := h
  exact heap_lt h
theorem Row.below {g B : Nat} {cs : Array Value} {w w' : World} (h : Row g cs w) (hb : Below B w w') (hg : g < B) : Row g cs w' := by
  obtain ⟨t, fr, h⟩ := h
  exact ⟨t, fr, by rw [hb.block g hg]; exact h⟩
theorem Row.cell {g : Nat} {cs : Array Value} {w : World} (h : Row g cs w) (i : Nat) : w.cell? ⟨g, i, none⟩ = cs[i]? := by
  obtain ⟨t, fr, h⟩ := h
  exact cell_of_row w g i cs t fr h
theorem cell_lt {w : World} {b o : Nat} {v : Value} (h : w.cell? ⟨b, o, none⟩ = some v) : b < w.heap.size := by
  unfold World.cell? at h
  rcases Nat.lt_or_ge b w.heap.size with h' | h'
  · exact h'
  · simp [Array.getElem?_eq_none h'] at h
theorem Tabs.below {B : Nat} {w w' : World} (h : Tabs w) (hb : Below B w w') (hB : w.heap.size ≤ B) : Tabs w' where
  plain := h.plain.below hb (Nat.lt_of_lt_of_le h.plain.lt hB)
  formal := h.formal.below hb (Nat.lt_of_lt_of_le h.formal.lt hB)
  groups := h.groups.below hb (Nat.lt_of_lt_of_le h.groups.lt hB)
  utf := ⟨fun c hc => by
      have a := h.utf.1 c hc
      have b := cell_lt a
      rw [← a]; exact hb.cell (p := ⟨_, _, none⟩) (Nat.lt_of_lt_of_le b hB), fun i hi => by
      have a := h.utf.2 i hi
      have b := cell_lt a.1
      exact ⟨by rw [← a.1]; exact hb.cell (p := ⟨_, _, none⟩) (Nat.lt_of_lt_of_le b hB), by rw [← a.2]; exact hb.cell (p := ⟨_, _, none⟩) (Nat.lt_of_lt_of_le b hB)⟩⟩

theorem trim_any (s : ByteArray) (w : World) (hs : s.size ≤ 9223372036854775807) :
    Calls Tryz.prog 109 #[.string s, .string ⟨#[48, 49, 50, 51, 52, 53, 54, 55, 56, 57]⟩] w fun e w' => e = .returned (.string ⟨(Lib.trimS s.data.toList Num.cutset).toArray⟩) ∧ Below w.heap.size w w' :=
  Any.strings_Trim_laid Tryz.lays160 (by kernel_rfl) s ⟨#[48, 49, 50, 51, 52, 53, 54, 55, 56, 57]⟩ w hs (by decide) (ascii_of_all (by decide))


theorem isD_iff (c : UInt8) : Num.isD c = true ↔ (48 ≤ (c.toNat : Int) ∧ (c.toNat : Int) ≤ 57) := by
  unfold Num.isD
  rw [Bool.and_eq_true, decide_eq_true_iff, decide_eq_true_iff, UInt8.le_iff_toNat_le, UInt8.le_iff_toNat_le]
  have a : (48 : UInt8).toNat = 48 := rfl
  have b : (57 : UInt8).toNat = 57 := rfl
  omega
/-- t is the string of these bytes -/
def Is (t : ByteArray) (l : List UInt8) : Prop := t.data.toList = l
theorem Is.eq {t t' : ByteArray} {l : List UInt8} (h : Is t l) (h' : Is t' l) : t = t' := by
  cases t; cases t'
  unfold Is at h h'
  simp only [ByteArray.mk.injEq]
  exact Array.toList_inj.1 (h.trans h'.symm)
theorem Is.size {t : ByteArray} {l : List UInt8} (h : Is t l) : t.size = l.length := by
  unfold Is at h
  rw [← h]; exact (Array.length_toList).symm
theorem Is.list {t : ByteArray} {l : List UInt8} (h : Is t l) : t.toList = l := (Lib.toList_data t).trans h
theorem Is.mk (l : List UInt8) : Is ⟨l.toArray⟩ l := List.toList_toArray
theorem Is.data {t : ByteArray} {l : List UInt8} (h : Is t l) : t.data.toList = l := h
theorem Is.of (s : ByteArray) : Is s s.data.toList := rfl
theorem Is.get {t : ByteArray} {l : List UInt8} (h : Is t l) (i : Nat) (hi : i < t.size) : l[i]? = some (t[i]'hi) := by
  unfold Is at h
  subst h
  rw [Array.getElem?_toList]
  exact Array.getElem?_eq_getElem hi

set_option maxHeartbeats 1000000 in
theorem valid_any (s : ByteArray) (l : List UInt8) (w : World) (h : Is s l) (hs : s.size ≤ 9223372036854775807) :
    Calls Tryz.prog 65 #[.string s] w fun e w' => e = .returned (.bool (Num.valid l)) ∧ Below w.heap.size w w' := by
  have HI := Lib.hid h
  have hsz := h.size
  by_cases c1 : l = []
  · have e1 : s.toList.isEmpty = true := by rw [h.list, c1]; rfl
    have HV := Lib.hid (show Num.valid l = false by rw [c1]; rfl)
    clear hsz c1 h
    go_enter Tryz.func65, Tryz.ntmps65
    go_wp2_with fail
    go_ret
    exact ⟨by rw [HV.out]; rfl, Below.refl _ _⟩
  have e1 : s.toList.isEmpty = false := by rw [h.list]; cases l <;> simp_all
  have f1 : (!s.toList.isEmpty) = true := by rw [e1]; rfl
  by_cases c2 : 20 < l.length
  · have hn : 20 < s.size := by omega
    have HV := Lib.hid (show Num.valid l = false by unfold Num.valid; simp; omega)
    clear hsz c1 h c2
    go_enter Tryz.func65, Tryz.ntmps65
    go_wp2_with fail
    go_ret
    exact ⟨by rw [HV.out]; rfl, Below.refl _ _⟩
  have hn : s.size ≤ 20 := by omega
  by_cases c3 : l.all Num.isD = true
  · have HT := Lib.hid ((Num.trim_nil l).2 c3)
    have c0 : 0 < s.size := by cases l with | nil => exact absurd rfl c1 | cons a r => simp at hsz; omega
    by_cases c4 : l.head? = some 48
    · have d1 : ((s[0].toNat : Int) != 48) = false := by
        have := h.get 0 c0
        rw [List.head?_eq_getElem?, this] at c4
        injection c4 with c4
        rw [c4]; rfl
      cases c5 : (l == [48])
      · have d2 : (s.toList == [48]) = false := by rw [h.list]; exact c5
        have HV := Lib.hid (show Num.valid l = false by
          unfold Num.valid; rw [c4, c5]; simp)
        clear hsz c1 c2 c3 c4 c5
        go_enter Tryz.func65, Tryz.ntmps65
        go_wp2_with fail
        refine (trim_any _ _ (by omega)).mono ?_
        rintro e w1 ⟨rfl, hb⟩
        rw [h, HT.out]
        have HB := Lib.hid hb
        clear hb
        go_wp2_with fail
        go_ret
        exact ⟨by rw [HV.out]; rfl, HB.out⟩
      · have d2 : (s.toList == [48]) = true := by rw [h.list]; exact c5
        have HV := Lib.hid (show Num.valid l = true by
          have := eq_of_beq c5; subst this; rfl)
        clear hsz c1 c2 c3 c4 c5
        go_enter Tryz.func65, Tryz.ntmps65
        go_wp2_with fail
        refine (trim_any _ _ (by omega)).mono ?_
        rintro e w1 ⟨rfl, hb⟩
        rw [h, HT.out]
        have HB := Lib.hid hb
        clear hb
        go_wp2_with fail
        go_ret
        exact ⟨by rw [HV.out]; rfl, HB.out⟩
    · have d1 : ((s[0].toNat : Int) != 48) = true := by
        have hg := h.get 0 c0
        rw [List.head?_eq_getElem?, hg] at c4
        rw [bne_iff_ne]
        intro e
        apply c4
        congr 1
        exact UInt8.toNat_inj.1 (by have : ((48 : UInt8).toNat : Int) = 48 := rfl; omega)
      have HV := Lib.hid (show Num.valid l = true by
        rw [Num.valid_iff]; exact ⟨c1, by omega, c3, Or.inl c4⟩)
      clear hsz c1 c2 c3 c4
      go_enter Tryz.func65, Tryz.ntmps65
      go_wp2_with fail
      refine (trim_any _ _ (by omega)).mono ?_
      rintro e w1 ⟨rfl, hb⟩
      rw [h, HT.out]
      have HB := Lib.hid hb
      clear hb
      go_wp2_with fail
      go_ret
      exact ⟨by rw [HV.out]; rfl, HB.out⟩
  · have HV := Lib.hid (show Num.valid l = false by
      cases e : Num.valid l
      · rfl
      · rw [Num.valid_iff] at e; exact absurd e.2.2.1 c3)
    obtain ⟨t, ht⟩ : ∃ t, Is t (Lib.trimS l Num.cutset) := ⟨_, Is.mk _⟩
    have e2 : t.toList.isEmpty = false := by
      rw [ht.list]
      cases e : Lib.trimS l Num.cutset
      · exact absurd ((Num.trim_nil l).1 e) c3
      · rfl
    have HT := Lib.hid (show (⟨(Lib.trimS l Num.cutset).toArray⟩ : ByteArray) = t from (Is.mk _).eq ht)
    clear hsz c1 c2 c3 ht
    go_enter Tryz.func65, Tryz.ntmps65
    go_wp2_with fail
    refine (trim_any _ _ (by omega)).mono ?_
    rintro e w1 ⟨rfl, hb⟩
    rw [h, HT.out]
    have HB := Lib.hid hb
    clear hb
    go_wp2_with fail
    go_ret
    exact ⟨by rw [HV.out]; rfl, HB.out⟩
end Go.Proofs.YtnpkcobapckhdaaGreatDoor
