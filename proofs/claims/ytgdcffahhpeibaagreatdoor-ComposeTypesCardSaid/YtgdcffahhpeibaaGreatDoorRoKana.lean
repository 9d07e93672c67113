/-
  roman.isKana with slices.ContainsFunc and its closure, utf.Runes; henkanref05.kana by their contracts. No condition but the string's own bound.
-/
import Derived.Test.YtgdcffahhpeibaaGreatDoorRoKeys
import Derived.Test.YtgdcffahhpeibaaGreatDoorShelf2
import Derived.Laws.IdiomStrings
namespace Go.Proofs.YtgdcffahhpeibaaGreatDoor
open Go.RowKit
theorem runesFrom_eq (s : ByteArray) : ∀ (n i : Nat) (acc : Array Value), s.size - i ≤ n → Conv.runesFrom s n i acc = acc ++ ((UT.runes (s.data.toList.drop i)).map fun (c : Nat) => Value.int .i32 (c : Int)).toArray
  | 0, i, acc, h => by
    have hd : s.data.toList.drop i = [] := List.drop_eq_nil_of_le (by have : s.data.toList.length = s.size := Array.length_toList; omega)
    rw [hd]; simp [Conv.runesFrom, UT.runes_nil]
  | n + 1, i, acc, h => by
    have hl : s.data.toList.length = s.size := Array.length_toList
    rw [Conv.runesFrom]
    by_cases hi : i < s.size
    · have hne : s.data.toList.drop i ≠ [] := by intro e; have := congrArg List.length e; rw [List.length_drop] at this; simp at this; omega
      have hw := Lib.decodeL_width (s.data.toList.drop i)
      have hp : 0 < (s.data.toList.drop i).length := List.length_pos_iff.2 hne
      have hd := Lib.decodeL_drop s i
      rw [if_pos hi, UT.runes_step hne, ← hd]
      dsimp only
      rw [runesFrom_eq s n _ _ (by omega), List.drop_drop]
      simp
    · have hd : s.data.toList.drop i = [] := List.drop_eq_nil_of_le (by omega)
      rw [if_neg hi, hd]; simp [UT.runes_nil]
/-- the slice value v reads as the characters xs -/
def RLie (v : Value) (xs : List Nat) (w : World) : Prop := ∃ ao cap, v = .slice ao xs.length cap ∧ ∀ k, k < xs.length → ∃ g, ao = some ⟨g, 0, none⟩ ∧ w.cell? ⟨g, k, none⟩ = some (.int .i32 (xs.getD k 0))
theorem RLie.below {v : Value} {xs : List Nat} {w w' : World} {B : Nat} (h : RLie v xs w) (hb : Below B w w') (hB : w.heap.size ≤ B) : RLie v xs w' := by
  obtain ⟨ao, cap, hv, hc⟩ := h
  exact ⟨ao, cap, hv, fun k hk => let ⟨g, h1, h2⟩ := hc k hk; ⟨g, h1, below_cellU h2 hb hB⟩⟩
theorem RunesAt.rlie {B : Nat} {v : Value} {xs : List Nat} {w : World} (h : RunesAt B v xs w) : RLie v xs w := by
  have hl : (runeC xs).length = xs.length := by unfold runeC; rw [List.length_map]
  by_cases h0 : xs = []
  · subst h0
    obtain ⟨ao, cap, rfl⟩ := h.frame
    exact ⟨ao, cap, by rfl, fun k hk => by simp at hk⟩
  · obtain ⟨g, cap, rfl, hB, hg, hc, hcell, _⟩ := h.at (by intro e; rw [e] at hl; exact h0 (List.eq_nil_of_length_eq_zero hl.symm))
    refine ⟨_, cap, by rw [hl], fun k hk => ⟨g, rfl, hcell k _ ?_⟩⟩
    unfold runeC
    rw [List.getElem?_map, List.getElem?_eq_getElem hk, List.getD_eq_getElem?_getD, List.getElem?_eq_getElem hk]; rfl
/-- what Runes hands back -/
def URunes (l : List UInt8) (w : World) (e : Ending) (w' : World) : Prop :=
  Below w.heap.size w w' ∧ ((Lib.validD l = false ∧ e = .returned (.tuple #[.slice none 0 0, .bool false])) ∨ (Lib.validD l = true ∧ ∃ v, RLie v (UT.runes l) w' ∧ e = .returned (.tuple #[v, .bool true])))
theorem runesRow (w : World) (xs : List Nat) (n cap : Nat) (C : Array Value) (hC : C = (xs.map fun (c : Nat) => Value.int .i32 (c : Int)).toArray ++ Array.replicate (cap - n) (Value.int .i32 0)) (hn : xs.length = n) (h : w.heap[w.heap.size - 1]? = some (.cells C 21 (0, 0))) :
    RLie (.slice (some ⟨w.heap.size - 1, 0, none⟩) n cap) xs w := by
  subst hn
  refine ⟨_, cap, rfl, fun k hk => ⟨_, rfl, ?_⟩⟩
  rw [Lib.cell_of_heap h, hC, Array.getElem?_append_left (by simpa using hk), List.getElem?_toArray, List.getElem?_map, List.getElem?_eq_getElem hk, List.getD_eq_getElem?_getD, List.getElem?_eq_getElem hk]; rfl
set_option maxRecDepth 100000 in
set_option maxHeartbeats 2000000 in
theorem urunes_any (s : ByteArray) (l : List UInt8) (w : World) (h : Is s l) (hs : s.size ≤ 17592186044416) (ht : Tabs w) :
    Calls Tryz.prog 121 #[.string s] w (URunes l w) := by
  have HI := Lib.hid h
  have HT := Lib.hid ht
  have HRL := Lib.hid (UT.runes_len l.length l (Nat.le_refl _))
  have HSZ := Eqq.mk h.size
  have HRF := Eqq.mk (show Conv.runesFrom s s.size 0 #[] = ((UT.runes l).map fun (c : Nat) => Value.int .i32 (c : Int)).toArray by rw [runesFrom_eq s s.size 0 #[] (by omega), List.drop_zero, h.data]; simp)
  clear h ht
  go_enter Tryz.func121, Tryz.ntmps121
  go_wp2_with fail
  with_reducible refine (Tryz.utf8_ValidString s _ (by omega) HT.out.utf).mono ?_
  rw [HI.out.data]
  rintro e w2 ⟨rfl, hb⟩
  have HB := Lib.hid hb
  clear hb
  cases hv : Lib.validD l
  · have HV := Eqq.mk hv
    clear hv
    go_wp2_with fail
    go_ret2
    exact ⟨HB.out, .inl ⟨HV.out, rfl⟩⟩
  · have HV := Eqq.mk hv
    clear hv
    obtain ⟨n, hn⟩ : ∃ n, (UT.runes l).length = n := ⟨_, rfl⟩
    have hrs : (Conv.runesFrom s s.size 0 #[]).size = n := by rw [HRF.out, List.size_toArray, List.length_map, hn]
    have hn2 : n ≤ 17592186044416 := by have := HRL.out; have := HSZ.out; omega
    have hcv := run_runes_of_string (P := Tryz.prog) w2 9 77 21 s Tryz.underlying9 Tryz.underlying77 Tryz.underlying21 (by rw [hrs]; omega)
    rw [hrs] at hcv
    obtain ⟨cap, hcap⟩ : ∃ cap, grownCap w2 n 0 21 = cap := ⟨_, rfl⟩
    rw [hcap, HRF.out] at hcv
    obtain ⟨C, hC⟩ : ∃ C, ((UT.runes l).map fun (c : Nat) => Value.int .i32 (c : Int)).toArray ++ Array.replicate (cap - n) (Value.int .i32 0) = C := ⟨_, rfl⟩
    rw [hC] at hcv
    have HC := Eqq.mk hC
    have HN := Eqq.mk hn
    have hw3 : ((w2.alloc (.cells C 21)).drew).heap[w2.heap.size]? = some (.cells C 21 (0, 0)) := (MapKept.heap_alloc w2 _).1
    have HL := Lib.hid (show RLie (.slice (some ⟨w2.heap.size, 0, none⟩) n cap) (UT.runes l) ((w2.alloc (.cells C 21)).drew) by
      have := runesRow ((w2.alloc (.cells C 21)).drew) (UT.runes l) n cap C HC.out.symm HN.out (by simpa using hw3)
      simpa using this)
    clear hC hn hrs hcap hw3
    go_wp2_with fail
    go_ret2
    exact ⟨HB.out.trans ((((Below.refl _ _).alloc (Nat.le_refl _) _).drew).mono (by have := HB.out.size; omega)) , .inr ⟨HV.out, _, HL.out, rfl⟩⟩
theorem isKa_yes {c : Nat} (h : (12353 ≤ c ∧ c ≤ 12438) ∨ c = 12540 ∨ c = 12289 ∨ c = 12290) : Ro.isKa c = true := by
  unfold Ro.isKa
  simp only [Bool.or_eq_true, Bool.and_eq_true, decide_eq_true_eq, beq_iff_eq]
  exact h
theorem isKa_no {c : Nat} (h : ¬ ((12353 ≤ c ∧ c ≤ 12438) ∨ c = 12540 ∨ c = 12289 ∨ c = 12290)) : Ro.isKa c = false := by
  cases hk : Ro.isKa c
  · rfl
  · unfold Ro.isKa at hk
    simp only [Bool.or_eq_true, Bool.and_eq_true, decide_eq_true_eq, beq_iff_eq] at hk
    exact absurd hk h
set_option maxRecDepth 100000 in
set_option maxHeartbeats 2000000 in
theorem clo_ka (c : Nat) (w : World) (hc : c ≤ 1114111) :
    Calls Tryz.prog 123 #[.int .i32 c] w fun e w' => e = .returned (.bool (!Ro.isKa c)) ∧ w = w' := by
  by_cases h1 : 12353 ≤ c ∧ c ≤ 12438
  · have HR := Eqq.mk (show (!Ro.isKa c) = false by rw [isKa_yes (.inl h1)]; rfl)
    have g1 : (12353 : Int) ≤ (c : Int) := by omega
    have g2 : (c : Int) ≤ 12438 := by omega
    clear h1
    go_enter Tryz.func123, Tryz.ntmps123
    go_wp2_with fail
    go_ret
    exact ⟨by rw [HR.out]; rfl, rfl⟩
  by_cases h12540 : c = 12540
  · have HR := Eqq.mk (show (!Ro.isKa c) = false by rw [isKa_yes (.inr (.inl h12540))]; rfl)
    have g1 : (12438 : Int) < (c : Int) := by omega
    have g2 : (12353 : Int) ≤ (c : Int) := by omega
    have e12540 : ((c : Int) != 12540) = false := by rw [bne_eq_false_iff_eq]; omega
    clear h1 h12540
    go_enter Tryz.func123, Tryz.ntmps123
    go_wp2_with fail
    go_ret
    exact ⟨by rw [HR.out]; rfl, rfl⟩
  by_cases h12289 : c = 12289
  · have HR := Eqq.mk (show (!Ro.isKa c) = false by rw [isKa_yes (.inr (.inr (.inl h12289)))]; rfl)
    have g1 : (c : Int) < 12353 := by omega
    have e12540 : ((c : Int) != 12540) = true := by rw [bne_iff_ne]; omega
    have e12289 : ((c : Int) != 12289) = false := by rw [bne_eq_false_iff_eq]; omega
    clear h1 h12540 h12289
    go_enter Tryz.func123, Tryz.ntmps123
    go_wp2_with fail
    go_ret
    exact ⟨by rw [HR.out]; rfl, rfl⟩
  by_cases h12290 : c = 12290
  · have HR := Eqq.mk (show (!Ro.isKa c) = false by rw [isKa_yes (.inr (.inr (.inr h12290)))]; rfl)
    have g1 : (c : Int) < 12353 := by omega
    have e12540 : ((c : Int) != 12540) = true := by rw [bne_iff_ne]; omega
    have e12289 : ((c : Int) != 12289) = true := by rw [bne_iff_ne]; omega
    have e12290 : ((c : Int) != 12290) = false := by rw [bne_eq_false_iff_eq]; omega
    clear h1 h12540 h12289 h12290
    go_enter Tryz.func123, Tryz.ntmps123
    go_wp2_with fail
    go_ret
    exact ⟨by rw [HR.out]; rfl, rfl⟩
  have HR := Eqq.mk (show (!Ro.isKa c) = true by rw [isKa_no (by omega)]; rfl)
  have e12540 : ((c : Int) != 12540) = true := by rw [bne_iff_ne]; omega
  have e12289 : ((c : Int) != 12289) = true := by rw [bne_iff_ne]; omega
  have e12290 : ((c : Int) != 12290) = true := by rw [bne_iff_ne]; omega
  by_cases hh : c < 12353
  · have g1 : (c : Int) < 12353 := by omega
    clear h1 hh h12540 h12289 h12290
    go_enter Tryz.func123, Tryz.ntmps123
    go_wp2_with fail
    go_ret
    exact ⟨by rw [HR.out]; rfl, rfl⟩
  · have g1 : (12353 : Int) ≤ (c : Int) := by omega
    have g2 : (12438 : Int) < (c : Int) := by omega
    have g3 : decide ((12438 : Int) < (c : Int)) = true := decide_eq_true (by omega)
    clear h1 hh h12540 h12289 h12290
    go_enter Tryz.func123, Tryz.ntmps123
    go_wp2_with fail
    go_ret
    exact ⟨by rw [HR.out]; rfl, rfl⟩
/-- the first that is no kana, or -1 -/
def FirstNot (xs : List Nat) (e : Ending) : Prop := (∃ k : Nat, k < xs.length ∧ xs.all Ro.isKa = false ∧ e = .returned (.int .i64 (k : Int))) ∨ (xs.all Ro.isKa = true ∧ e = .returned (.int .i64 (-1)))
set_option maxRecDepth 100000 in
set_option maxHeartbeats 2000000 in
theorem idx_ka (v : Value) (xs : List Nat) (w : World) (h : RLie v xs w) (hn : xs.length ≤ 17592186044416) (hx : ∀ c ∈ xs, c ≤ 1114111) :
    Calls Tryz.prog 144 #[v, .func (.func 123) #[] #[]] w fun e w' => FirstNot xs e ∧ ∃ q, w' = w.drewN q := by
  obtain ⟨ao, cap, rfl, hc⟩ := h
  obtain ⟨n, hn2⟩ : ∃ n, xs.length = n := ⟨_, rfl⟩
  have HN := Eqq.mk hn2
  rw [hn2] at hn hc ⊢
  have HC := Lib.hid hc
  have HX := Lib.hid hx
  clear hc hx hn2
  go_enter Tryz.func144, Tryz.ntmps144
  go_wp2_with fail
  go_loopw [8] (fun iv wr => ∃ k : Nat, k ≤ n ∧ iv = .int .i64 k ∧ Eqq ((xs.take k).all Ro.isKa) true ∧ ∃ q, wr = w.drewN q) (fun iv _ => n - (intOf iv).toNat)
  case atStart => exact ⟨0, Nat.zero_le _, rfl, ⟨rfl⟩, 0, rfl⟩
  case round =>
    obtain ⟨k, hk, rfl, hall, q, rfl⟩ := hrel
    by_cases hlt : k < n
    · have hkl : k < xs.length := by rw [HN.out]; exact hlt
      obtain ⟨g, rfl, hg⟩ := HC.out k hlt
      obtain ⟨c, hcx⟩ : ∃ c, xs.getD k 0 = c := ⟨_, rfl⟩
      rw [hcx] at hg
      have hkx : xs[k]? = some c := by rw [← hcx, List.getD_eq_getElem?_getD, List.getElem?_eq_getElem hkl]; rfl
      have hcb := HX.out c (List.mem_of_getElem? hkx)
      have HK := Eqq.mk hkx
      clear hkx hcx
      have hgq : (w.drewN q).cell? ⟨g, k, none⟩ = some (.int .i32 (c : Int)) := hg
      cases hka : Ro.isKa c
      · have HF := Eqq.mk (all_false _ _ _ _ HK.out hka)
        have HKA := Eqq.mk hka
        clear hka hall
        go_wp2_with fail
        with_reducible refine (clo_ka c _ hcb).mono ?_
        rw [HKA.out]
        rintro e w2 ⟨rfl, rfl⟩
        go_wp2_with fail
        go_ret
        exact ⟨.inl ⟨k, by rw [HN.out]; exact hlt, HF.out, rfl⟩, _, rfl⟩
      · have HAL := Eqq.mk (show (xs.take (k + 1)).all Ro.isKa = true by rw [all_take_succ _ _ _ _ HK.out, hall.out, hka]; rfl)
        have HKA := Eqq.mk hka
        clear hka hall
        go_wp2_with fail
        with_reducible refine (clo_ka c _ hcb).mono ?_
        rw [HKA.out]
        rintro e w2 ⟨rfl, rfl⟩
        go_wp2_with fail
        go_roundw
        case rel => exact ⟨k + 1, by omega, by go_num, HAL, _, rfl⟩
        case measure => simp [intOf]; omega
    · obtain rfl : k = n := by omega
      have HAL := Eqq.mk (show xs.all Ro.isKa = true by have := hall.out; rw [← HN.out, List.take_length] at this; exact this)
      clear hall
      go_wp2_with fail
      go_ret
      exact ⟨.inr ⟨HAL.out, rfl⟩, _, rfl⟩
set_option maxRecDepth 100000 in
set_option maxHeartbeats 2000000 in
theorem contains_ka (v : Value) (xs : List Nat) (w : World) (h : RLie v xs w) (hn : xs.length ≤ 17592186044416) (hx : ∀ c ∈ xs, c ≤ 1114111) :
    Calls Tryz.prog 122 #[v, .func (.func 123) #[] #[]] w fun e w' => e = .returned (.bool (!xs.all Ro.isKa)) ∧ ∃ q, w' = w.drewN q := by
  have HL := Lib.hid h
  have HX := Lib.hid hx
  obtain ⟨ao, cap, rfl, _⟩ := h
  go_enter Tryz.func122, Tryz.ntmps122
  go_wp2_with fail
  with_reducible refine (idx_ka _ xs _ HL.out hn HX.out).mono ?_
  rintro e w2 ⟨⟨k, hk, ha, rfl⟩ | ⟨ha, rfl⟩, q, rfl⟩
  · have HR := Eqq.mk (show (!xs.all Ro.isKa) = true by rw [ha]; rfl)
    clear ha hx
    go_wp2_with fail
    go_ret
    exact ⟨by rw [HR.out]; rfl, _, rfl⟩
  · have HR := Eqq.mk (show (!xs.all Ro.isKa) = false by rw [ha]; rfl)
    clear ha hx
    go_wp2_with fail
    go_ret
    exact ⟨by rw [HR.out]; rfl, _, rfl⟩
theorem runes_ch (l : List UInt8) : ∀ c ∈ UT.runes l, c ≤ 1114111 := fun c hc => (of_decide_eq_true (UT.bk_runes_ch l.length l (Nat.le_refl _) c hc)).1
set_option maxRecDepth 100000 in
set_option maxHeartbeats 4000000 in
theorem iskana_any (s : ByteArray) (l : List UInt8) (w : World) (h : Is s l) (hs : s.size ≤ 17592186044416) (ht : Tabs w) :
    Calls Tryz.prog 98 #[.string s] w fun e w' => e = .returned (.bool (Ro.kana l)) ∧ Below w.heap.size w w' := by
  have HI := Lib.hid h
  have HT := Lib.hid ht
  have HRL := Lib.hid (UT.runes_len l.length l (Nat.le_refl _))
  have HSZ := Eqq.mk h.size
  clear h ht
  go_enter Tryz.func98, Tryz.ntmps98
  go_wp2_with fail
  with_reducible refine (urunes_any s l _ HI.out hs HT.out).mono ?_
  rintro e w1 ⟨hb, ⟨hv, rfl⟩ | ⟨hv, v, hx, rfl⟩⟩
  · have HR := Eqq.mk (show Ro.kana l = false by unfold Ro.kana; rw [hv]; rfl)
    have HB := Lib.hid hb
    clear hv hb
    go_wp2_with fail
    go_ret
    exact ⟨by rw [HR.out]; rfl, HB.out⟩
  · have HV := Eqq.mk hv
    have HB := Lib.hid hb
    have HX := Lib.hid hx
    obtain ⟨ao, cap, rfl, _⟩ := hx
    obtain ⟨n, hn⟩ : ∃ n, (UT.runes l).length = n := ⟨_, rfl⟩
    have HN := Eqq.mk hn
    have hn2 : n ≤ 17592186044416 := by have := HRL.out; have := HSZ.out; omega
    rw [hn]
    have HX2 := Lib.hid (show RLie (.slice ao n cap) (UT.runes l) w1 by have := HX.out; rw [hn] at this; exact this)
    clear hv hb hn
    by_cases h4 : n ≤ 4
    · have hd : decide ((n : Int) ≤ 4) = true := decide_eq_true (by omega)
      obtain ⟨A, hA⟩ : ∃ A, (UT.runes l).all Ro.isKa = A := ⟨_, rfl⟩
      have HR := Eqq.mk (show Ro.kana l = A by unfold Ro.kana; rw [HV.out, HN.out, hA, decide_eq_true h4]; rfl)
      have HA := Eqq.mk hA
      clear hA
      go_wp2_with fail
      with_reducible refine (contains_ka _ (UT.runes l) _ HX2.out (by rw [HN.out]; omega) (runes_ch l)).mono ?_
      rw [HA.out]
      rintro e w2 ⟨rfl, q, rfl⟩
      cases A
      · go_wp2_with fail
        go_ret
        exact ⟨by rw [HR.out]; rfl, bel_dn HB.out q⟩
      · go_wp2_with fail
        go_ret
        exact ⟨by rw [HR.out]; rfl, bel_dn HB.out q⟩
    · have h5 : 4 < n := by omega
      have hd : decide ((n : Int) ≤ 4) = false := decide_eq_false (by omega)
      have HR := Eqq.mk (show Ro.kana l = false by unfold Ro.kana; rw [HV.out, HN.out, decide_eq_false h4]; rfl)
      clear h4
      go_wp2_with fail
      go_ret
      exact ⟨by rw [HR.out]; rfl, HB.out⟩
end Go.Proofs.YtgdcffahhpeibaaGreatDoor
