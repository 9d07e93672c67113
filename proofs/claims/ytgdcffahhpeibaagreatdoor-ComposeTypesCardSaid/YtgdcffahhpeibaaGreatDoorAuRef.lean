/-
  henkanref06: Keys, begin, apply, feed, Step, Run, Flush by their contracts. The rules are allowed; the strings short.
-/
import Derived.Test.YtgdcffahhpeibaaGreatDoorAuRound
import Derived.Test.YtgdcffahhpeibaaGreatDoorRoCheck
import Derived.StillTailTactics
import Derived.Deep.RegionHeld3
import Derived.Deep.LoopGhost
namespace Go.Proofs.YtgdcffahhpeibaaGreatDoor
open Go.RowKit
/-- the string of these bytes -/
def ba (l : List UInt8) : ByteArray := ⟨l.toArray⟩
theorem is_ba (l : List UInt8) : Is (ba l) l := Is.mk l
theorem Is.ba {t : ByteArray} {l : List UInt8} (h : Is t l) : t = ba l := h.eq (is_ba l)
theorem Is.cell {t : ByteArray} {l : List UInt8} (h : Is t l) (k : Nat) (c : UInt8) (hc : l[k]? = some c) : Is (t.extract k (k + 1)) [c] := by
  have hk : k < l.length := by
    rcases Nat.lt_or_ge k l.length with h' | h'
    · exact h'
    · rw [List.getElem?_eq_none h'] at hc; cases hc
  have : (l.drop k).take (k + 1 - k) = [c] := by
    rw [show k + 1 - k = 1 by omega, List.drop_eq_getElem_cons hk]
    rw [List.getElem?_eq_getElem hk] at hc
    injection hc with hc
    rw [hc]; rfl
  unfold Is at *
  rw [Lib.extract_data, h, this]
theorem Is.parts {t : ByteArray} {a : List UInt8} (h : Is t a) (i j : Nat) : Is (t.extract i j) ((a.drop i).take (j - i)) := by
  unfold Is at *
  rw [Lib.extract_data, h]
theorem ba_size (l : List UInt8) : (ba l).size = l.length := (is_ba l).size
theorem isEmpty_yes {t : ByteArray} (h : Is t []) : t = ⟨#[]⟩ := h.eq (Is.mk [])
theorem isEmpty_no {t : ByteArray} {l : List UInt8} (h : Is t l) (hl : l ≠ []) : t.toList.isEmpty = false ∧ t.data.isEmpty = false := by
  obtain ⟨⟨d⟩⟩ := t
  unfold Is at h
  dsimp only at h
  subst h
  cases d with
  | nil => exact absurd rfl hl
  | cons c d => exact ⟨by rw [Lib.toList_data]; rfl, rfl⟩
set_option maxRecDepth 100000 in
set_option maxHeartbeats 4000000 in
theorem rkeys_any (s : ByteArray) (l : List UInt8) (w : World) (h : Is s l) (hs : s.size ≤ 1000000000) :
    Calls Tryz.prog 91 #[.string s] w fun e w' => e = .returned (.string (ba (Au.keysOf l))) ∧ Below w.heap.size w w' := by
  have HI := Lib.hid h
  obtain ⟨n, hn⟩ : ∃ n, s.size = n := ⟨_, rfl⟩
  have HN := Eqq.mk hn
  have HLN := Eqq.mk (show l.length = n by rw [← hn, h.size])
  rw [hn] at hs
  clear h
  go_enter Tryz.func91, Tryz.ntmps91
  go_wp2_with fail
  go_loopw [3, 4] (fun sv iv wr => ∃ (k : Nat) (acc : ByteArray), k ≤ n ∧ iv = .int .i64 k ∧ sv = .string acc ∧ Is acc (Au.keysOf (l.take k)) ∧ Below w.heap.size w wr) (fun _ iv _ => n - (intOf iv).toNat)
  case atStart => exact ⟨0, ⟨#[]⟩, Nat.zero_le _, rfl, rfl, Is.mk [], Below.refl _ _⟩
  case round =>
    obtain ⟨k, acc, hk, rfl, rfl, hi, hb⟩ := hrel
    have HB := Lib.hid hb
    have HA := Lib.hid hi
    have hacc : acc.size ≤ 1000000000 := by
      rw [hi.size]
      have h1 := Au.keysOf_len (l.take k)
      rw [List.length_take] at h1
      omega
    clear hb hi
    by_cases hlt : k < n
    · have hlt' : k < s.size := by rw [hn]; exact hlt
      have hget := HI.out.get k hlt'
      have HC := Lib.hid (HI.out.cell k _ hget)
      have HT := Eqq.mk (Au.keysOf_take l k _ hget)
      obtain ⟨x, hx⟩ : ∃ x, s[k]'hlt' = x := ⟨_, rfl⟩
      rw [hx] at HC HT
      obtain ⟨y, hy⟩ : ∃ y, s.extract k (k + 1) = y := ⟨_, rfl⟩
      rw [hy] at HC
      have hys : y.size ≤ 1 := by rw [HC.out.size]; simp
      clear hget
      by_cases h1 : 33 ≤ x.toNat
      · have g1 : (33 : Int) ≤ (x.toNat : Int) := by omega
        by_cases h2 : x.toNat ≤ 126
        · have g2 : (x.toNat : Int) ≤ 126 := by omega
          have HN2 := Lib.hid (show Is (acc ++ y) (Au.keysOf (l.take (k + 1))) by
            rw [HT.out, Au.isKey_yes h1 h2, if_pos rfl]; exact HA.out.append HC.out)
          clear h1 h2
          go_wp2_with fail
          go_roundw
          case rel => exact ⟨k + 1, _, by omega, by go_num, rfl, HN2.out, by first | exact HB.out | exact bel_dn HB.out _ | exact HB.out.drew⟩
          case measure => simp [intOf]; omega
        · have g2 : ¬ ((x.toNat : Int) ≤ 126) := by omega
          have HN2 := Lib.hid (show Is acc (Au.keysOf (l.take (k + 1))) by
            rw [HT.out, Au.isKey_no (.inr (by omega)), if_neg (by simp)]; exact HA.out)
          clear h1 h2
          go_wp2_with fail
          go_roundw
          case rel => exact ⟨k + 1, _, by omega, by go_num, rfl, HN2.out, by first | exact HB.out | exact bel_dn HB.out _ | exact HB.out.drew⟩
          case measure => simp [intOf]; omega
      · have g1 : ¬ ((33 : Int) ≤ (x.toNat : Int)) := by omega
        have HN2 := Lib.hid (show Is acc (Au.keysOf (l.take (k + 1))) by
          rw [HT.out, Au.isKey_no (.inl (by omega)), if_neg (by simp)]; exact HA.out)
        clear h1
        go_wp2_with fail
        go_roundw
        case rel => exact ⟨k + 1, _, by omega, by go_num, rfl, HN2.out, by first | exact HB.out | exact bel_dn HB.out _ | exact HB.out.drew⟩
        case measure => simp [intOf]; omega
    · obtain rfl : k = n := by omega
      have HF := Eqq.mk (show acc = ba (Au.keysOf l) by
        have := HA.out
        rw [← HLN.out, List.take_length] at this
        exact this.ba)
      go_wp2_with fail
      go_ret
      exact ⟨by rw [HF.out]; rfl, HB.out⟩
/-- the rule that begins a string, among rules in memory -/
def BeginV (xs : List RuleB) (l : List UInt8) (e : Ending) : Prop :=
  (∃ r, r ∈ xs ∧ Au.begin (rulesL xs) l = some (ruleL r) ∧ e = .returned (.tuple #[ruleV r, .bool true])) ∨ (Au.begin (rulesL xs) l = none ∧ ∃ r, e = .returned (.tuple #[ruleV r, .bool false]))
theorem found_cases (xs : List RuleB) (k : List UInt8) : (∃ r, r ∈ xs ∧ Ro.find (rulesL xs) k = some (ruleL r) ∧ FoundV xs k = .tuple #[ruleV r, .bool true]) ∨ (Ro.find (rulesL xs) k = none ∧ FoundV xs k = .tuple #[ruleV (⟨#[]⟩, ⟨#[]⟩, ⟨#[]⟩), .bool false]) := by
  rw [found_find]
  unfold FoundV
  cases hf : xs.find? (fun r => r.1.data.toList == k) with
  | none => exact .inr ⟨rfl, rfl⟩
  | some r => exact .inl ⟨r, List.mem_of_find?_eq_some hf, rfl, rfl⟩
set_option maxRecDepth 100000 in
set_option maxHeartbeats 4000000 in
theorem rbegin_any (s : ByteArray) (l : List UInt8) (v : Value) (xs : List RuleB) (w : World) (h : Is s l) (hl : LieR v xs w) (hn : xs.length ≤ 1000000000000) (hs : s.size ≤ 1000000000000) :
    Calls Tryz.prog 119 #[v, .string s] w fun e w' => BeginV xs l e ∧ Below w.heap.size w w' := by
  have HI := Lib.hid h
  have HLN := Eqq.mk (show l.length = s.size by rw [h.size])
  have HB0 := Lib.hid ((Below.refl w.heap.size w).alloc (Nat.le_refl _) (.cells #[.string ⟨#[]⟩, .string ⟨#[]⟩, .string ⟨#[]⟩] 117))
  have HL := Lib.hid (hl.keep HB0.out)
  obtain ⟨W0, hW0⟩ : ∃ W0, w.alloc (.cells #[.string ⟨#[]⟩, .string ⟨#[]⟩, .string ⟨#[]⟩] 117) = W0 := ⟨_, rfl⟩
  have A0 := Lib.hid (box3_0 w (.string ⟨#[]⟩) (.string ⟨#[]⟩) (.string ⟨#[]⟩) 117)
  have A1 := Lib.hid (box3_1 w (.string ⟨#[]⟩) (.string ⟨#[]⟩) (.string ⟨#[]⟩) 117)
  have A2 := Lib.hid (box3_2 w (.string ⟨#[]⟩) (.string ⟨#[]⟩) (.string ⟨#[]⟩) 117)
  have AF := Lib.hid (fun j => Lib.frozen_of_heap (MapKept.heap_alloc w (.cells #[.string ⟨#[]⟩, .string ⟨#[]⟩, .string ⟨#[]⟩] 117)).1 j)
  have HSZ := Lib.hid (show w.heap.size < (w.alloc (.cells #[.string ⟨#[]⟩, .string ⟨#[]⟩, .string ⟨#[]⟩] 117)).heap.size by simp)
  rw [hW0] at HB0 HL A0 A1 A2 AF HSZ
  clear h hl
  go_enter Tryz.func119, Tryz.ntmps119
  go_wp2_with fail
  clear hW0
  go_loopw [6] (fun iv wr => ∃ k : Nat, k ≤ s.size ∧ iv = .int .i64 k ∧ Eqq (Au.begin (rulesL xs) l) (Au.beginN (rulesL xs) l k) ∧ Below W0.heap.size W0 wr) (fun iv _ => (intOf iv).toNat)
  case atStart => exact ⟨s.size, Nat.le_refl _, rfl, ⟨by unfold Au.begin; rw [HLN.out]⟩, Below.refl _ _⟩
  case round =>
    obtain ⟨k, hk, rfl, HE, hb⟩ := hrel
    have HB := Lib.hid hb
    have HBW := Lib.hid (HB0.out.trans (hb.mono HB0.out.size))
    have hwz : w.heap.size < wr.heap.size := Nat.lt_of_lt_of_le HSZ.out hb.size
    have e0 := below_cellU A0.out hb (Nat.le_refl _)
    have e1 := below_cellU A1.out hb (Nat.le_refl _)
    have e2 := below_cellU A2.out hb (Nat.le_refl _)
    have g0 := (hb.frozen (p := ⟨w.heap.size, 0, none⟩) HSZ.out).trans (AF.out 0)
    have g1 := (hb.frozen (p := ⟨w.heap.size, 1, none⟩) HSZ.out).trans (AF.out 1)
    have g2 := (hb.frozen (p := ⟨w.heap.size, 2, none⟩) HSZ.out).trans (AF.out 2)
    clear hb
    cases k with
    | zero =>
      have HZ := Eqq.mk (show Au.begin (rulesL xs) l = none by rw [HE.out]; rfl)
      go_wp2_with fail
      refine bodyPost_ret (v := .tuple #[ruleV (⟨#[]⟩, ⟨#[]⟩, ⟨#[]⟩), .bool false]) (by simp [results, Tryz.results119, go_sem, e0, e1, e2]) rfl ⟨.inr ⟨HZ.out, _, rfl⟩, ?_⟩
      exact ((HBW.out.setCell (p := ⟨w.heap.size, 0, none⟩) (by simp) _).setCell (p := ⟨w.heap.size, 1, none⟩) (by simp) _).setCell (p := ⟨w.heap.size, 2, none⟩) (by simp) _
    | succ k =>
      have hz : (0 : Int) < ((k : Int) + 1) := by omega
      have hz' : (0 : Int) < ((k + 1 : Nat) : Int) := by omega
      have hk1 : k + 1 ≤ s.size := hk
      have HIU := Lib.hid (HI.out.upto (k + 1))
      obtain ⟨y, hy⟩ : ∃ y, s.extract 0 (k + 1) = y := ⟨_, rfl⟩
      rw [hy] at HIU
      rcases found_cases xs (l.take (k + 1)) with ⟨r, hr, hf, hv⟩ | ⟨hf, hv⟩
      · have HF := Eqq.mk (show Au.begin (rulesL xs) l = some (ruleL r) by rw [HE.out]; exact Au.beginN_hit _ _ _ _ hf)
        have HV := Eqq.mk hv
        have HR := Lib.hid hr
        clear hf hv hr
        obtain ⟨r1, r2, r3⟩ := r
        go_wp2_with fail
        with_reducible refine (rfind_any y _ v xs _ HIU.out (HL.out.keep HB.out) hn).mono ?_
        rw [HV.out]
        rintro e w2 ⟨rfl, hb⟩
        have HB2 := Lib.hid (HBW.out.trans (hb.mono HBW.out.size))
        have hwz2 : w.heap.size < w2.heap.size := Nat.lt_of_lt_of_le hwz hb.size
        have e0' := below_cellU e0 hb (Nat.le_refl _)
        have e1' := below_cellU e1 hb (Nat.le_refl _)
        have e2' := below_cellU e2 hb (Nat.le_refl _)
        have g0' := (hb.frozen (p := ⟨w.heap.size, 0, none⟩) hwz).trans g0
        have g1' := (hb.frozen (p := ⟨w.heap.size, 1, none⟩) hwz).trans g1
        have g2' := (hb.frozen (p := ⟨w.heap.size, 2, none⟩) hwz).trans g2
        have hne : w.heap.size ≠ w2.heap.size := by omega
        clear hb e0 e1 e2 g0 g1 g2
        go_wp2_with fail
        refine bodyPost_ret (v := .tuple #[ruleV (r1, r2, r3), .bool true]) (by simp [results, Tryz.results119, go_sem, e0', e1', e2', hwz2]) rfl ⟨.inl ⟨_, HR.out, HF.out, rfl⟩, ?_⟩
        exact (((HB2.out.setCell (p := ⟨w.heap.size, 0, none⟩) (by simp) _).setCell (p := ⟨w.heap.size, 1, none⟩) (by simp) _).setCell (p := ⟨w.heap.size, 2, none⟩) (by simp) _).alloc (by simp; omega) _
      · have HF := Eqq.mk (show Au.begin (rulesL xs) l = Au.beginN (rulesL xs) l k by rw [HE.out]; exact Au.beginN_step _ _ _ hf)
        have HV := Eqq.mk hv
        clear hf hv e0 e1 e2 g0 g1 g2
        go_wp2_with fail
        with_reducible refine (rfind_any y _ v xs _ HIU.out (HL.out.keep HB.out) hn).mono ?_
        rw [HV.out]
        rintro e w2 ⟨rfl, hb⟩
        have HB2 := Lib.hid (HB.out.trans (hb.mono HB.out.size))
        clear hb
        go_wp2_with fail
        go_roundw
        case rel => exact ⟨k, by omega, (by first | rfl | go_num), HF, by first | exact HB2.out | exact HB2.out.alloc HB2.out.size _⟩
        case measure => simp [intOf]
theorem rule_of {xs : List RuleB} (hc : Ro.check (rulesL xs) = 0) {r : RuleB} (hr : r ∈ xs) : 0 < r.1.size ∧ r.1.size ≤ 4 ∧ r.2.1.size ≤ 16 ∧ r.2.2.size ≤ 3 := by
  have h := Au.rule_sizes hc (List.mem_map.2 ⟨r, hr, rfl⟩)
  have e1 := (Is.of r.1).size
  have e2 := (Is.of r.2.1).size
  have e3 := (Is.of r.2.2).size
  rw [e1, e2, e3]
  exact h
theorem begin_len {xs : List RuleB} {l : List UInt8} {r : RuleB} (h : Au.begin (rulesL xs) l = some (ruleL r)) : r.1.size ≤ l.length := by
  obtain ⟨h1, h2, h3, h4⟩ := Au.begin_some h
  rw [(Is.of r.1).size]; exact h3
theorem app_is {xs : List RuleB} {l : List UInt8} {r : RuleB} {s : ByteArray} (hs : Is s l) (h : Au.begin (rulesL xs) l = some (ruleL r)) : Is r.2.1 (Au.apply (rulesL xs) l).1 ∧ Is (r.2.2 ++ s.extract r.1.size s.size) (Au.apply (rulesL xs) l).2 := by
  rw [Au.apply_hit h]
  refine ⟨Is.of _, ?_⟩
  show Is _ (r.2.2.data.toList ++ l.drop r.1.data.toList.length)
  rw [← (Is.of r.1).size]
  exact (Is.of r.2.2).append (hs.from r.1.size)
/-- two strings handed back -/
def TwoV (p : List UInt8 × List UInt8) : Ending := .returned (.tuple #[.string (ba p.1), .string (ba p.2)])
set_option maxRecDepth 100000 in
set_option maxHeartbeats 4000000 in
theorem rapply_any (s : ByteArray) (l : List UInt8) (v : Value) (xs : List RuleB) (w : World) (h : Is s l) (hl : LieR v xs w) (hok : Ro.check (rulesL xs) = 0) (hn : xs.length ≤ 1000000000000) (hs : s.size ≤ 1000000000000) (hne : l ≠ []) :
    Calls Tryz.prog 94 #[v, .string s] w fun e w' => e = TwoV (Au.apply (rulesL xs) l) ∧ Below w.heap.size w w' := by
  have HI := Lib.hid h
  have HL := Lib.hid hl
  have HLN := Eqq.mk (show l.length = s.size by rw [h.size])
  have hpos : 0 < s.size := by rw [h.size]; exact List.length_pos_iff.2 hne
  have HOK := Eqq.mk hok
  clear h hl hok hne
  go_enter Tryz.func94, Tryz.ntmps94
  go_wp2_with fail
  with_reducible refine (rbegin_any s l v xs _ HI.out HL.out hn hs).mono ?_
  rintro e w2 ⟨⟨r, hr, hbg, rfl⟩ | ⟨hbg, r, rfl⟩, hb⟩
  · have HB2 := Lib.hid hb
    obtain ⟨z1, z2, z3, z4⟩ := rule_of HOK.out hr
    have z5 := begin_len hbg
    rw [HLN.out] at z5
    have HAP := Lib.hid (app_is HI.out hbg)
    obtain ⟨r1, r2, r3⟩ := r
    dsimp only at z1 z2 z3 z4 z5 HAP
    obtain ⟨y, hy⟩ : ∃ y, s.extract r1.size s.size = y := ⟨_, rfl⟩
    rw [hy] at HAP
    have hyz : y.size ≤ 1000000000000 := by rw [← hy]; simp; omega
    have z5' : (r1.size : Int) ≤ (s.size : Int) := by omega
    have hcat : r3.size + y.size ≤ 9223372036854775807 := by omega
    clear hr hbg hb
    go_wp2_with fail
    go_quiet (fail)
    go_wp2_with fail
    go_ret2
    refine ⟨?_, by first | exact HB2.out.alloc HB2.out.size _ | exact bel_dn (HB2.out.alloc HB2.out.size _) _ | exact (HB2.out.alloc HB2.out.size _).drew⟩
    unfold TwoV
    rw [← HAP.out.1.ba, ← HAP.out.2.ba]
    first | rfl | trivial
  · have HB2 := Lib.hid hb
    have HAP := Eqq.mk (Au.apply_miss hbg)
    obtain ⟨r1, r2, r3⟩ := r
    have H1 := Lib.hid (HI.out.upto 1)
    have H2 := Lib.hid (HI.out.from 1)
    obtain ⟨y, hy⟩ : ∃ y, s.extract 0 1 = y := ⟨_, rfl⟩
    obtain ⟨z, hz⟩ : ∃ z, s.extract 1 s.size = z := ⟨_, rfl⟩
    rw [hy] at H1
    rw [hz] at H2
    have i1 : (1 : Int) ≤ (s.size : Int) := by omega
    have i2 : 1 ≤ s.size := hpos
    clear hbg hb
    go_wp2_with fail
    go_quiet (fail)
    go_wp2_with fail
    go_ret2
    refine ⟨?_, by first | exact HB2.out.alloc HB2.out.size _ | exact bel_dn (HB2.out.alloc HB2.out.size _) _ | exact (HB2.out.alloc HB2.out.size _).drew⟩
    unfold TwoV
    rw [HAP.out, ← H1.out.ba, ← H2.out.ba]
    first | rfl | trivial
def strB : Value → List UInt8
  | .string s => s.data.toList
  | _ => []
theorem strB_is {t : ByteArray} {l : List UInt8} (h : Is t l) : strB (.string t) = l := h
theorem notEmpty {t : ByteArray} {l : List UInt8} (h : Is t l) (hl : l ≠ []) : t.toList.isEmpty = false ∧ (!t.toList.isEmpty) = true ∧ t.data.isEmpty = false ∧ (!t.data.isEmpty) = true ∧ 0 < t.size := by
  obtain ⟨a, b⟩ := isEmpty_no h hl
  exact ⟨a, by rw [a]; rfl, b, by rw [b]; rfl, by rw [h.size]; exact List.length_pos_iff.2 hl⟩
set_option maxRecDepth 100000 in
set_option maxHeartbeats 4000000 in
theorem rfeed_any (p k : ByteArray) (pl kl : List UInt8) (v : Value) (xs : List RuleB) (w : World) (hp : Is p pl) (hk : Is k kl) (hl : LieR v xs w) (hok : Ro.check (rulesL xs) = 0) (hn : xs.length ≤ 1000000000000) (hs : pl.length + kl.length ≤ 1000000000) :
    Calls Tryz.prog 90 #[v, .string p, .string k] w fun e w' => e = TwoV (Au.feed (rulesL xs) pl kl) ∧ Below w.heap.size w w' := by
  have HP := Lib.hid hp
  have HK := Lib.hid hk
  have HL := Lib.hid hl
  have HOK := Eqq.mk hok
  clear hp hk hl hok
  go_enter Tryz.func90, Tryz.ntmps90
  go_wp2_with fail
  go_loopw [1, 2, 8] (fun pv kv ov wr => ∃ (p0 k0 o0 : ByteArray) (p1 k1 o1 : List UInt8), pv = .string p0 ∧ kv = .string k0 ∧ ov = .string o0 ∧ Is p0 p1 ∧ Is k0 k1 ∧ Is o0 o1 ∧ Au.FeedInv (rulesL xs) pl kl p1 k1 o1 ∧ Below w.heap.size w wr) (fun pv kv _ _ => Au.fuel (strB pv) (strB kv))
  case atStart => exact ⟨p, k, ⟨#[]⟩, pl, kl, [], rfl, rfl, rfl, HP.out, HK.out, Is.mk [], Au.FeedInv.start _ _ _, Below.refl _ _⟩
  case round =>
    obtain ⟨p0, k0, o0, p1, k1, o1, rfl, rfl, rfl, hp0, hk0, ho0, hi, hb⟩ := hrel
    have HB := Lib.hid hb
    have HP0 := Lib.hid hp0
    have HK0 := Lib.hid hk0
    have HO0 := Lib.hid ho0
    have HIN := Lib.hid hi
    have hlen := hi.len
    have q1 := hp0.size
    have q2 := hk0.size
    have q3 := ho0.size
    have b1 : p0.size ≤ 1000000000 := by omega
    have b2 : k0.size ≤ 1000000000 := by omega
    have b3 : o0.size ≤ 16000000000 := by omega
    clear hb hp0 hk0 ho0 hi q1 q2 q3 hlen
    cases k1 with
    | nil =>
      have hk0 : k0 = ⟨#[]⟩ := HK0.out.eq (Is.mk [])
      subst hk0
      have HR := Eqq.mk HIN.out.done
      go_wp2_with fail
      go_ret2
      refine ⟨?_, HB.out⟩
      unfold TwoV
      rw [HR.out, ← HP0.out.ba, ← HO0.out.ba]
      first | rfl | trivial
    | cons c ks =>
      obtain ⟨n1, n2, n3, n4, n5⟩ := notEmpty HK0.out (by simp)
      have H1 := Lib.hid (HK0.out.cell 0 c rfl)
      have H2 := Lib.hid (HK0.out.from 1)
      obtain ⟨y1, hy1⟩ : ∃ y, k0.extract 0 1 = y := ⟨_, rfl⟩
      obtain ⟨y2, hy2⟩ : ∃ y, k0.extract 1 k0.size = y := ⟨_, rfl⟩
      rw [hy1] at H1
      rw [hy2] at H2
      have z1 : y1.size ≤ 1 := by rw [H1.out.size]; simp
      have z2 : y2.size ≤ 1000000000 := by rw [← hy2]; simp; omega
      have i1 : (1 : Int) ≤ (k0.size : Int) := by omega
      have i2 : 1 ≤ k0.size := n5
      have HS := Lib.hid (HP0.out.append H1.out)
      obtain ⟨S, hS⟩ : ∃ S, p0 ++ y1 = S := ⟨_, rfl⟩
      rw [hS] at HS
      have hSz : S.size ≤ 1000000001 := by rw [← hS, ByteArray.size_append]; omega
      have hc1 : p0.size + y1.size ≤ 9223372036854775807 := by omega
      obtain ⟨L, hL⟩ : ∃ L, Ro.longer (rulesL xs) (p1 ++ [c]) = L := ⟨_, rfl⟩
      have HLG := Eqq.mk hL
      clear hL
      cases L
      · have HIN2 := Lib.hid (HIN.out.no HOK.out HLG.out)
        have HM := Lib.hid (Au.fuel_two (Au.short_of HOK.out) p1 c ks)
        have hlen := HIN2.out.len
        go_wp2_with fail
        with_reducible refine (rlonger_any S _ v xs _ HS.out (HL.out.keep HB.out) hn).mono ?_
        rw [HLG.out]
        rintro e w2 ⟨rfl, rfl⟩
        go_wp2_with fail
        with_reducible refine (rapply_any S _ v xs _ HS.out (HL.out.keep HB.out) HOK.out hn (by omega) (Au.snoc_ne p1 c)).mono ?_
        rintro e w3 ⟨rfl, hb⟩
        have HB3 := Lib.hid (HB.out.trans (hb.mono HB.out.size))
        clear hb
        obtain ⟨⟨A1, A2⟩, hA⟩ : ∃ q, Au.apply (rulesL xs) (p1 ++ [c]) = q := ⟨_, rfl⟩
        rw [hA] at HIN2 HM hlen ⊢
        dsimp only at HIN2 HM hlen
        unfold TwoV
        dsimp only
        have g1 := Lib.hid (is_ba A1)
        have g2 := Lib.hid (is_ba A2)
        have g3 := ba_size A1
        have g4 := ba_size A2
        obtain ⟨a1, ha1⟩ : ∃ x, ba A1 = x := ⟨_, rfl⟩
        obtain ⟨a2, ha2⟩ : ∃ x, ba A2 = x := ⟨_, rfl⟩
        rw [ha1] at g1 g3 ⊢
        rw [ha2] at g2 g4 ⊢
        simp only [List.length_append, List.length_nil] at hlen
        have hc2 : o0.size + a1.size ≤ 9223372036854775807 := by omega
        have hc3 : a2.size + y2.size ≤ 9223372036854775807 := by omega
        clear g3 g4 hlen hA ha1 ha2
        have HF1 := Lib.hid (HO0.out.append g1.out)
        have HF2 := Lib.hid (g2.out.append H2.out)
        have HMM := Lib.hid (show Au.fuel (strB (.string ⟨#[]⟩)) (strB (.string (a2 ++ y2))) < Au.fuel (strB (.string p0)) (strB (.string k0)) by
          rw [strB_is HP0.out, strB_is HK0.out, strB_is HF2.out]
          exact HM.out)
        go_wp2_with fail
        go_roundw
        case rel => exact ⟨_, _, _, _, _, _, rfl, rfl, rfl, Is.mk [], HF2.out, HF1.out, HIN2.out, HB3.out⟩
        case measure => exact HMM.out
      · have HIN2 := Lib.hid (HIN.out.yes HOK.out HLG.out)
        have HMM := Lib.hid (show Au.fuel (strB (.string S)) (strB (.string y2)) < Au.fuel (strB (.string p0)) (strB (.string k0)) by
          rw [strB_is HP0.out, strB_is HK0.out, strB_is HS.out, strB_is H2.out]
          exact Au.fuel_one p1 c ks)
        go_wp2_with fail
        with_reducible refine (rlonger_any S _ v xs _ HS.out (HL.out.keep HB.out) hn).mono ?_
        rw [HLG.out]
        rintro e w2 ⟨rfl, rfl⟩
        go_wp2_with fail
        go_roundw
        case rel => exact ⟨_, _, _, _, _, _, rfl, rfl, rfl, HS.out, H2.out, HO0.out, HIN2.out, HB.out⟩
        case measure => exact HMM.out
set_option maxRecDepth 100000 in
set_option maxHeartbeats 4000000 in
theorem rflush_any (k : ByteArray) (kl : List UInt8) (v : Value) (xs : List RuleB) (w : World) (hk : Is k kl) (hl : LieR v xs w) (hok : Ro.check (rulesL xs) = 0) (hn : xs.length ≤ 1000000000000) (hs : k.size ≤ 1000000000) :
    Calls Tryz.prog 71 #[v, .string k] w fun e w' => e = .returned (.string (ba (Au.flush (rulesL xs) kl))) ∧ Below w.heap.size w w' := by
  have HK := Lib.hid hk
  have HL := Lib.hid hl
  have HOK := Eqq.mk hok
  have HZ := Lib.hid (show (Au.keysOf kl).length ≤ 1000000000 by have := Au.keysOf_len kl; have := hk.size; omega)
  clear hk hl hok
  go_enter Tryz.func71, Tryz.ntmps71
  go_wp2_with fail
  with_reducible refine (rkeys_any k kl _ HK.out hs).mono ?_
  rintro e w2 ⟨rfl, hb⟩
  have HB := Lib.hid hb
  clear hb
  go_wp2_with fail
  go_loopw [5, 6] (fun ov pv wr => ∃ (o0 p0 : ByteArray) (o1 p1 : List UInt8), ov = .string o0 ∧ pv = .string p0 ∧ Is o0 o1 ∧ Is p0 p1 ∧ Au.FlushInv (rulesL xs) (Au.keysOf kl) p1 o1 ∧ Below w.heap.size w wr) (fun _ pv _ => (strB pv).length)
  case atStart => exact ⟨⟨#[]⟩, _, [], _, rfl, rfl, Is.mk [], is_ba _, Au.FlushInv.start _ _, HB.out⟩
  case round =>
    obtain ⟨o0, p0, o1, p1, rfl, rfl, ho0, hp0, hi, hb⟩ := hrel
    have HB2 := Lib.hid hb
    have HP0 := Lib.hid hp0
    have HO0 := Lib.hid ho0
    have HIN := Lib.hid hi
    have hlen := hi.len
    have hz := HZ.out
    have q1 := hp0.size
    have q3 := ho0.size
    have b1 : p0.size ≤ 1000000000 := by omega
    have b3 : o0.size ≤ 16000000000 := by omega
    clear hb hp0 ho0 hi q1 q3 hlen hz
    by_cases hp : p1 = []
    · subst hp
      have hp0 : p0 = ⟨#[]⟩ := HP0.out.eq (Is.mk [])
      subst hp0
      have HR := Eqq.mk (show Au.flush (rulesL xs) kl = o1 by rw [Au.flush_eq]; exact HIN.out.done)
      go_wp2_with fail
      go_ret
      refine ⟨?_, HB2.out⟩
      rw [HR.out, ← HO0.out.ba]
      first | rfl | trivial
    · obtain ⟨n1, n2, n3, n4, n5⟩ := notEmpty HP0.out hp
      obtain ⟨hi2, hlt⟩ := HIN.out.step HOK.out hp
      have HIN2 := Lib.hid hi2
      have hlen := hi2.len
      have hz := HZ.out
      have HRL := Lib.hid (show (Au.apply (rulesL xs) p1).2.length ≤ 1000000000 by have := Au.apply_len (Au.short_of HOK.out) hp; have := HP0.out.size; omega)
      clear hi2
      go_wp2_with fail
      with_reducible refine (rapply_any p0 _ v xs _ HP0.out (HL.out.keep HB2.out) HOK.out hn (by omega) hp).mono ?_
      rintro e w3 ⟨rfl, hb⟩
      have HB3 := Lib.hid (HB2.out.trans (hb.mono HB2.out.size))
      clear hb
      obtain ⟨⟨A1, A2⟩, hA⟩ : ∃ q, Au.apply (rulesL xs) p1 = q := ⟨_, rfl⟩
      rw [hA] at HIN2 hlt hlen HRL ⊢
      dsimp only at HIN2 hlt hlen HRL
      unfold TwoV
      dsimp only
      go_wp2_with fail
      with_reducible refine (rfeed_any ⟨#[]⟩ _ [] _ v xs _ (Is.mk []) (is_ba _) (HL.out.keep HB3.out) HOK.out hn (by rw [List.length_nil]; have := HRL.out; omega)).mono ?_
      rintro e w4 ⟨rfl, hb⟩
      have HB4 := Lib.hid (HB3.out.trans (hb.mono HB3.out.size))
      clear hb
      obtain ⟨⟨F1, F2⟩, hF⟩ : ∃ q, Au.feed (rulesL xs) [] A2 = q := ⟨_, rfl⟩
      rw [hF] at HIN2 hlt hlen ⊢
      dsimp only at HIN2 hlt hlen
      unfold TwoV
      dsimp only
      simp only [List.length_append] at hlen
      have g1 := Lib.hid (is_ba A1)
      have g2 := Lib.hid (is_ba F1)
      have g5 := Lib.hid (is_ba F2)
      have g3 := ba_size A1
      have g4 := ba_size F1
      obtain ⟨a1, ha1⟩ : ∃ x, ba A1 = x := ⟨_, rfl⟩
      obtain ⟨f1, hf1⟩ : ∃ x, ba F1 = x := ⟨_, rfl⟩
      obtain ⟨f2, hf2⟩ : ∃ x, ba F2 = x := ⟨_, rfl⟩
      rw [ha1] at g1 g3 ⊢
      rw [hf1] at g2 g4 ⊢
      rw [hf2] at g5 ⊢
      have z1 : a1.size ≤ 16000000000 := by omega
      have z2 : f1.size ≤ 16000000000 := by omega
      have z3 : o0.size + a1.size ≤ 9223372036854775807 := by omega
      have z4 : o0.size + a1.size + f1.size ≤ 9223372036854775807 := by omega
      have HF1 := Lib.hid (HO0.out.append (g1.out.append g2.out))
      have HMM := Lib.hid (show (strB (.string f2)).length < (strB (.string p0)).length by
        rw [strB_is HP0.out, strB_is g5.out]; exact hlt)
      clear g3 g4 hlen hA ha1 hF hf1 hf2 hlt hz
      go_wp2_with fail
      go_roundw
      case rel => exact ⟨_, _, _, _, rfl, rfl, by rw [← ByteArray.append_assoc] at HF1; exact HF1.out, g5.out, HIN2.out, HB4.out⟩
      case measure => exact HMM.out
end Go.Proofs.YtgdcffahhpeibaaGreatDoor
