/-
  numeral.each with its two function values, numeral.Positional and henkanref03.Positional by their contracts. No condition but the string's own bound and the tables.
-/
import Derived.Test.YtnpkcobapckhdaaGreatDoorNumRef
import Derived.BigQuiet
import Derived.Deep.QuietTactic
import Derived.Deep.RegionWith
namespace Go.Proofs.YtnpkcobapckhdaaGreatDoor
open Go.RowKit

/-- digit by digit -/
def mapD (g : Nat → List UInt8) : List UInt8 → List UInt8
  | [] => []
  | c :: r => g (Num.val c) ++ mapD g r
theorem pos_eq : ∀ l, Num.pos l = mapD (Num.dch false) l
  | [] => rfl
  | c :: r => by rw [Num.pos, mapD, pos_eq r]
theorem mapD_len (g : Nat → List UInt8) (hg : ∀ n, (g n).length ≤ 3) : ∀ l, (mapD g l).length ≤ 3 * l.length
  | [] => by simp [mapD]
  | c :: r => by
    have ih := mapD_len g hg r
    have a := hg (Num.val c)
    rw [mapD, List.length_append, List.length_cons]; omega
def MapRel (g : Nat → List UInt8) (l : List UInt8) (k : Nat) (acc : List UInt8) : Prop := acc ++ mapD g (l.drop k) = mapD g l
theorem mapRel_len {g : Nat → List UInt8} {l : List UInt8} {k : Nat} {acc : List UInt8} (hg : ∀ n, (g n).length ≤ 3) (h : MapRel g l k acc) (h20 : l.length ≤ 20) : acc.length ≤ 60 := by
  have a := congrArg List.length h
  rw [List.length_append] at a
  have b := mapD_len g hg l
  omega
theorem mapRel_step {g : Nat → List UInt8} {l : List UInt8} {k n : Nat} {acc : List UInt8} {c : UInt8} (h : MapRel g l k acc) (hc : l[k]? = some c) (hn : Num.val c = n) : MapRel g l (k + 1) (acc ++ g n) := by
  unfold MapRel at *
  have hk : k < l.length := by
    rcases Nat.lt_or_ge k l.length with h' | h'
    · exact h'
    · rw [List.getElem?_eq_none h'] at hc; cases hc
  have hd : l.drop k = c :: l.drop (k + 1) := by
    rw [List.drop_eq_getElem_cons hk]
    congr 1
    rw [List.getElem?_eq_getElem hk] at hc
    exact Option.some.inj hc
  rw [hd, mapD, hn] at h
  rw [List.append_assoc]; exact h
theorem mapRel_end {g : Nat → List UInt8} {l acc : List UInt8} (h : MapRel g l l.length acc) : acc = mapD g l := by
  unfold MapRel at h
  rw [List.drop_length, mapD, List.append_nil] at h
  exact h

set_option maxHeartbeats 1000000 in
theorem fn1 (n : Nat) (w : World) (hn : n < 10) (ht : Tabs w) :
    Calls Tryz.prog 111 #[.int .i64 n] w fun e w' => (∃ t, Is t (Num.dch false n) ∧ e = .returned (.string t)) ∧ w' = w := by
  obtain ⟨D, hD1, hD2⟩ := style_dg false n hn
  have c : w.cell? ⟨0, n, none⟩ = some (.string D) := by rw [ht.plain.cell]; exact hD1
  have HD := Lib.hid hD2
  clear hD1 hD2 ht
  go_enter Tryz.func111, Tryz.ntmps111
  go_wp2_with fail
  go_ret
  exact ⟨⟨D, HD.out, rfl⟩, rfl⟩

def wideCh (n : Nat) : List UInt8 := [239, 188, (144 + n).toUInt8]
theorem wide_enc (n : Nat) (hn : n < 10) : Is (Utf8.encode (65296 + (n : Int))) (wideCh n) := by
  have h1 : n = 0 ∨ n = 1 ∨ n = 2 ∨ n = 3 ∨ n = 4 ∨ n = 5 ∨ n = 6 ∨ n = 7 ∨ n = 8 ∨ n = 9 := by omega
  rcases h1 with rfl | rfl | rfl | rfl | rfl | rfl | rfl | rfl | rfl | rfl <;> (unfold Is; decide)
set_option maxHeartbeats 1000000 in
theorem fn2 (n : Nat) (w : World) (hn : n < 10) (_ht : Tabs w) :
    Calls Tryz.prog 67 #[.int .i64 n] w fun e w' => (∃ t, Is t (wideCh n) ∧ e = .returned (.string t)) ∧ w' = w := by
  have HW := Lib.hid (wide_enc n hn)
  clear _ht
  go_enter Tryz.func67, Tryz.ntmps67
  go_wp2_with fail
  go_ret
  exact ⟨⟨_, HW.out, rfl⟩, rfl⟩

set_option maxHeartbeats 2000000 in
theorem each1 (s : ByteArray) (l : List UInt8) (w : World) (h : Is s l) (ht : Tabs w) (hv : Num.valid l = true) :
    Calls Tryz.prog 66 #[.string s, .func (.func 111) #[] #[]] w fun e w' => (∃ t, Is t (mapD (Num.dch false) l) ∧ e = .returned (.string t)) ∧ Below w.heap.size w w' := by
  have HI := Lib.hid h
  have HZ := Lib.hid h.size
  have HV := Lib.hid hv
  have HT := Lib.hid ht
  have h20 : s.size ≤ 20 := by rw [h.size]; exact ((Num.valid_iff l).1 hv).2.1
  clear h hv ht
  go_enter Tryz.func66, Tryz.ntmps66
  go_wp2_with fail
  go_loopw [9] (fun i wr => ∃ (k : Nat) (acc : List UInt8), k ≤ s.size ∧ i = .int .i64 k ∧ MapRel (Num.dch false) l k acc ∧ Bldr w.heap.size w.heap.size acc wr ∧ Below w.heap.size w wr) (fun i _ => s.size - (intOf i).toNat)
  case atStart => exact ⟨0, [], by omega, rfl, rfl, Lib.IsBuilderF.of (Lib.fresh_isBuilder 86 5 w), (Below.refl _ _).alloc (Nat.le_refl _) _⟩
  case round =>
    obtain ⟨k, acc, hk, rfl, hr, hI, hb⟩ := hrel
    have HRel := Lib.hid hr
    have HBl := Lib.hid hI
    have HBe := Lib.hid hb
    have hsw := hb.size
    clear hr hI hb
    by_cases hlt : k < s.size
    · have HG := Lib.hid (HI.out.get k hlt)
      have hdig := List.all_eq_true.1 ((Num.valid_iff l).1 HV.out).2.2.1 _ (List.mem_of_getElem? HG.out)
      rw [isD_iff] at hdig
      obtain ⟨n, hn⟩ : ∃ n, Num.val s[k] = n := ⟨_, rfl⟩
      have hn0 : (s[k].toNat : Int) = (n : Int) + 48 := by unfold Num.val at hn; omega
      have hn9 : n < 10 := by omega
      have HN := Lib.hid hn
      have hal : acc.length ≤ 60 := mapRel_len (Num.dch_len false) HRel.out (by rw [← HZ.out]; exact h20)
      have HTr := Lib.hid (HT.out.below HBe.out (Nat.le_refl _))
      clear hn hdig
      go_wp2_with fail
      refine (fn1 n _ hn9 HTr.out).mono ?_
      rintro e w1 ⟨⟨t, htx, rfl⟩, rfl⟩
      have HX := Lib.hid htx
      have htl : t.size ≤ 3 := by rw [htx.size]; exact (Num.dch_len false) n
      clear htx
      go_wp2_with fail
      refine (write_string w.heap.size w.heap.size acc t _ HBl.out (by omega) hsw).mono ?_
      rintro e w3 ⟨rfl, hI3, hb3, _⟩
      have HI3 := Lib.hid hI3
      have HB3 := Lib.hid (HBe.out.trans hb3)
      clear hI3 hb3
      go_wp2_with fail
      go_roundw
      case rel => exact ⟨k + 1, acc ++ (Num.dch false) n, by omega, by go_num, mapRel_step HRel.out HG.out HN.out, by rw [← HX.out.data]; exact HI3.out, HB3.out⟩
      case measure => simp [intOf]; omega
    · obtain rfl : k = s.size := by omega
      have HE := Lib.hid (mapRel_end (by have := HRel.out; rw [HZ.out] at this; exact this))
      go_wp2_with fail
      refine (bld_string w.heap.size w.heap.size acc _ HBl.out hsw).mono ?_
      rintro e w3 ⟨rfl, _, hb3, _⟩
      have HB3 := Lib.hid (HBe.out.trans hb3)
      clear hb3
      go_wp2_with fail
      go_ret
      exact ⟨⟨_, by rw [← HE.out]; exact Is.mk _, rfl⟩, HB3.out⟩

set_option maxHeartbeats 2000000 in
theorem each2 (s : ByteArray) (l : List UInt8) (w : World) (h : Is s l) (ht : Tabs w) (hv : Num.valid l = true) :
    Calls Tryz.prog 66 #[.string s, .func (.func 67) #[] #[]] w fun e w' => (∃ t, Is t (mapD (wideCh) l) ∧ e = .returned (.string t)) ∧ Below w.heap.size w w' := by
  have HI := Lib.hid h
  have HZ := Lib.hid h.size
  have HV := Lib.hid hv
  have HT := Lib.hid ht
  have h20 : s.size ≤ 20 := by rw [h.size]; exact ((Num.valid_iff l).1 hv).2.1
  clear h hv ht
  go_enter Tryz.func66, Tryz.ntmps66
  go_wp2_with fail
  go_loopw [9] (fun i wr => ∃ (k : Nat) (acc : List UInt8), k ≤ s.size ∧ i = .int .i64 k ∧ MapRel (wideCh) l k acc ∧ Bldr w.heap.size w.heap.size acc wr ∧ Below w.heap.size w wr) (fun i _ => s.size - (intOf i).toNat)
  case atStart => exact ⟨0, [], by omega, rfl, rfl, Lib.IsBuilderF.of (Lib.fresh_isBuilder 86 5 w), (Below.refl _ _).alloc (Nat.le_refl _) _⟩
  case round =>
    obtain ⟨k, acc, hk, rfl, hr, hI, hb⟩ := hrel
    have HRel := Lib.hid hr
    have HBl := Lib.hid hI
    have HBe := Lib.hid hb
    have hsw := hb.size
    clear hr hI hb
    by_cases hlt : k < s.size
    · have HG := Lib.hid (HI.out.get k hlt)
      have hdig := List.all_eq_true.1 ((Num.valid_iff l).1 HV.out).2.2.1 _ (List.mem_of_getElem? HG.out)
      rw [isD_iff] at hdig
      obtain ⟨n, hn⟩ : ∃ n, Num.val s[k] = n := ⟨_, rfl⟩
      have hn0 : (s[k].toNat : Int) = (n : Int) + 48 := by unfold Num.val at hn; omega
      have hn9 : n < 10 := by omega
      have HN := Lib.hid hn
      have hal : acc.length ≤ 60 := mapRel_len (fun _ => Nat.le_refl _) HRel.out (by rw [← HZ.out]; exact h20)
      have HTr := Lib.hid (HT.out.below HBe.out (Nat.le_refl _))
      clear hn hdig
      go_wp2_with fail
      refine (fn2 n _ hn9 HTr.out).mono ?_
      rintro e w1 ⟨⟨t, htx, rfl⟩, rfl⟩
      have HX := Lib.hid htx
      have htl : t.size ≤ 3 := by rw [htx.size]; exact (fun _ => Nat.le_refl _) n
      clear htx
      go_wp2_with fail
      refine (write_string w.heap.size w.heap.size acc t _ HBl.out (by omega) hsw).mono ?_
      rintro e w3 ⟨rfl, hI3, hb3, _⟩
      have HI3 := Lib.hid hI3
      have HB3 := Lib.hid (HBe.out.trans hb3)
      clear hI3 hb3
      go_wp2_with fail
      go_roundw
      case rel => exact ⟨k + 1, acc ++ (wideCh) n, by omega, by go_num, mapRel_step HRel.out HG.out HN.out, by rw [← HX.out.data]; exact HI3.out, HB3.out⟩
      case measure => simp [intOf]; omega
    · obtain rfl : k = s.size := by omega
      have HE := Lib.hid (mapRel_end (by have := HRel.out; rw [HZ.out] at this; exact this))
      go_wp2_with fail
      refine (bld_string w.heap.size w.heap.size acc _ HBl.out hsw).mono ?_
      rintro e w3 ⟨rfl, _, hb3, _⟩
      have HB3 := Lib.hid (HBe.out.trans hb3)
      clear hb3
      go_wp2_with fail
      go_ret
      exact ⟨⟨_, by rw [← HE.out]; exact Is.mk _, rfl⟩, HB3.out⟩

set_option maxHeartbeats 1000000 in
theorem positional_any (s : ByteArray) (l : List UInt8) (w : World) (h : Is s l) (hs : s.size ≤ 9223372036854775807) (ht : Tabs w) :
    Calls Tryz.prog 69 #[.string s] w (Gives (Num.valid l) (if Num.valid l = true then Num.pos l else []) w) := by
  have HI := Lib.hid h
  have HT := Lib.hid ht
  cases hv : Num.valid l
  · have HV := Lib.hid hv
    clear h hv ht
    go_enter Tryz.func69, Tryz.ntmps69
    go_wp2_with fail
    refine (valid_any s l _ HI.out hs).mono ?_
    rintro e w2 ⟨rfl, hb⟩
    rw [HV.out]
    have HB := Lib.hid hb
    clear hb
    go_wp2_with fail
    go_ret2
    exact ⟨_, Is.mk [], rfl, HB.out⟩
  · have HV := Lib.hid hv
    clear h hv ht
    go_enter Tryz.func69, Tryz.ntmps69
    go_wp2_with fail
    refine (valid_any s l _ HI.out hs).mono ?_
    rintro e w2 ⟨rfl, hb⟩
    rw [HV.out]
    have HB := Lib.hid hb
    clear hb
    go_wp2_with fail
    refine (each1 s l _ HI.out (HT.out.below HB.out (Nat.le_refl _)) HV.out).mono ?_
    rintro e w3 ⟨⟨t, htx, rfl⟩, hb3⟩
    have HX := Lib.hid htx
    have HB3 := Lib.hid (HB.out.trans (hb3.mono HB.out.size))
    clear htx hb3
    go_wp2_with fail
    go_ret2
    exact ⟨t, by first | (rw [pos_eq]; exact HX.out) | (simp only [if_true]; rw [pos_eq]; exact HX.out), rfl, HB3.out⟩

set_option maxHeartbeats 2000000 in
theorem rpositional_any (s : ByteArray) (l : List UInt8) (w : World) (h : Is s l) (hs : s.size ≤ 9223372036854775807) :
    Calls Tryz.prog 82 #[.string s] w (Gives (Num.valid l) (if Num.valid l = true then Num.pos l else []) w) := by
  have HI := Lib.hid h
  cases hv : Num.valid l
  · have HV := Lib.hid hv
    clear h hv
    go_enter Tryz.func82, Tryz.ntmps82
    go_wp2_with fail
    refine (digits_any s l _ HI.out hs).mono ?_
    rintro e w2 ⟨rfl, rfl⟩
    rw [HV.out]
    go_wp2_with fail
    go_ret2
    exact ⟨_, Is.mk [], rfl, Below.refl _ _⟩
  · have HV := Lib.hid hv
    have HZ := Lib.hid h.size
    have h20 : s.size ≤ 20 := by rw [h.size]; exact ((Num.valid_iff l).1 hv).2.1
    clear h hv
    go_enter Tryz.func82, Tryz.ntmps82
    go_wp2_with fail
    refine (digits_any s l _ HI.out hs).mono ?_
    rintro e w2 ⟨rfl, rfl⟩
    rw [HV.out]
    go_wp2_with fail
    go_loopw [4, 5] (fun ov i wr => ∃ (k : Nat) (acc : List UInt8) (t : ByteArray), k ≤ s.size ∧ i = .int .i64 k ∧ ov = .string t ∧ Is t acc ∧ MapRel (Num.dch false) l k acc ∧ Below w.heap.size w wr) (fun _ i _ => s.size - (intOf i).toNat)
    case atStart => exact ⟨0, [], _, by omega, rfl, rfl, rfl, rfl, Below.refl _ _⟩
    case round =>
      obtain ⟨k, acc, t, hk, rfl, rfl, ht, hr, hb⟩ := hrel
      have HRel := Lib.hid hr
      have HX := Lib.hid ht
      have HBe := Lib.hid hb
      have hsw := hb.size
      have hal : acc.length ≤ 60 := mapRel_len (Num.dch_len false) hr (by rw [← HZ.out]; exact h20)
      have htl : t.size ≤ 60 := by rw [ht.size]; exact hal
      clear hr ht hb hal
      by_cases hlt : k < s.size
      · have HG := Lib.hid (HI.out.get k hlt)
        have hdig := List.all_eq_true.1 ((Num.valid_iff l).1 HV.out).2.2.1 _ (List.mem_of_getElem? HG.out)
        rw [isD_iff] at hdig
        obtain ⟨n, hn⟩ : ∃ n, Num.val s[k] = n := ⟨_, rfl⟩
        have hn0 : (s[k].toNat : Int) = (n : Int) + 48 := by unfold Num.val at hn; omega
        have hn9 : n < 10 := by omega
        have HN := Lib.hid hn
        obtain ⟨D, hD1, hD2⟩ := dg_at false n hn9
        have hDl : D.size ≤ 3 := by rw [hD2.size]; exact Num.dch_len _ _
        have HD2 := Lib.hid hD2
        have HD1 := Lib.hid hD1
        clear hn hdig hD1 hD2
        go_wp2_with fail
        have hw : IntKind.u8.wrap (n : Int) = (n : Int) := by rw [IntKind.wrap_u8]; omega
        have hn1 : (n : Int) < 10 := by omega
        have cD1 : (strC Num.dgP).toArray[n]? = some (.string D) := HD1.out
        have cD2 : (strC Num.dgP)[n]? = some (.string D) := by rw [← HD1.out, List.getElem?_toArray]; rfl
        have cD3 : (wr.alloc (.cells (strC Num.dgP).toArray 9)).cell? ⟨wr.heap.size, n, none⟩ = some (.string D) := by rw [Lib.cell_of_heap (MapKept.heap_alloc wr _).1]; exact cD1
        have cD4 : (wr.drew.alloc (.cells (strC Num.dgP).toArray 9)).cell? ⟨wr.heap.size, n, none⟩ = some (.string D) := cD3
        go_region_with (go_at_call 119; refine (rdigP_any _).mono ?_; rintro e w' ⟨rfl, rfl⟩)
        all_goals
          go_wp2_with fail
          go_roundw
          case rel => exact ⟨k + 1, acc ++ Num.dch false n, _, by omega, by go_num, rfl, HX.out.append HD2.out, mapRel_step HRel.out HG.out HN.out, by first | exact (HBe.out.alloc hsw _).drew | exact HBe.out.drew.alloc hsw _ | exact (HBe.out.drew.alloc hsw _).drew⟩
          case measure => simp [intOf]; omega
      · obtain rfl : k = s.size := by omega
        have HE := Lib.hid (mapRel_end (by have := HRel.out; rw [HZ.out] at this; exact this))
        go_wp2_with fail
        go_ret2
        exact ⟨t, by first | (rw [pos_eq, ← HE.out]; exact HX.out) | (simp only [if_true]; rw [pos_eq, ← HE.out]; exact HX.out), rfl, HBe.out⟩
end Go.Proofs.YtnpkcobapckhdaaGreatDoor
