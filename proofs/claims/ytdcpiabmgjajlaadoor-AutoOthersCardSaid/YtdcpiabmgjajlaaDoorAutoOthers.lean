/-
  keys that occur in no rule are written as they are, and end what is pending
-/
import Derived.Test.YtdcpiabmgjajlaaDoorAuReach
import Derived.Test.YtdcpiabmgjajlaaDoorAuTurn
import Derived.Carry
import Derived.Laws.AppendOwnNone
namespace Go.Proofs.YtdcpiabmgjajlaaDoor.autoOthers
open Go.ChangeShapes Go.WideShapes Go.ChangeAt Go.RowKit
open Go.ChangeMaps (open_string)
set_option linter.unusedVariables false

def inR (xs : List RuleB) (c : UInt8) : Bool := (rulesL xs).any (fun r => r.1.contains c)
def inB (xs : List RuleB) (c : UInt8) : Bool := !Au.isKey c || inR xs c
def othL (xs : List RuleB) (tl : List UInt8) : List UInt8 := tl.filter (fun c => !inB xs c)
theorem inR_succ (xs : List RuleB) (k : Nat) (r : RuleB) (c : UInt8) (h : xs[k]? = some r) : inR (xs.take (k + 1)) c = (inR (xs.take k) c || r.1.data.toList.contains c) := by
  unfold inR
  rw [take_snoc xs k r h, show rulesL (xs.take k ++ [r]) = rulesL (xs.take k) ++ [ruleL r] from List.map_append .., List.any_append]
  congr 1
  rw [List.any_cons, List.any_nil, Bool.or_false]
  rfl
theorem con_succ (rl : List UInt8) (j : Nat) (c x : UInt8) (h : rl[j]? = some x) : (rl.take (j + 1)).contains c = ((rl.take j).contains c || (x == c)) := by
  rw [Au.take_more rl j x h, Bool.eq_iff_iff]
  simp only [List.contains_iff_mem, List.mem_append, List.mem_singleton, Bool.or_eq_true, beq_iff_eq]
  constructor
  · rintro (h | h)
    · exact .inl h
    · exact .inr h.symm
  · rintro (h | h)
    · exact .inl h
    · exact .inr h.symm
theorem base_is (x : UInt8) : (decide ((x.toNat : Int) < 33) || decide (126 < (x.toNat : Int))) = !Au.isKey x := by
  unfold Au.isKey
  rw [Bool.eq_iff_iff]
  simp
  omega
theorem oth_succ (xs : List RuleB) (tl : List UInt8) (i : Nat) (c : UInt8) (h : tl[i]? = some c) : othL xs (tl.take (i + 1)) = if inB xs c = true then othL xs (tl.take i) else othL xs (tl.take i) ++ [c] := by
  unfold othL
  rw [Au.take_more tl i c h, List.filter_append]
  cases hb : inB xs c
  · simp [hb]
  · simp [hb]
theorem oth_len (xs : List RuleB) (tl : List UInt8) : (othL xs tl).length ≤ tl.length := List.length_filter_le ..
theorem oth_keys (xs : List RuleB) (tl : List UInt8) : Au.AllKeys (othL xs tl) ∧ ∀ c ∈ othL xs tl, Au.Other (rulesL xs) c := by
  have h : ∀ c ∈ othL xs tl, inB xs c = false := fun c hc => by have := (List.mem_filter.1 hc).2; simpa using this
  refine ⟨fun c hc => ?_, fun c hc r hr hm => ?_⟩
  · have := h c hc
    unfold inB at this
    simpa using (Bool.or_eq_false_iff.1 this).1
  · have := (Bool.or_eq_false_iff.1 (h c hc)).2
    unfold inR at this
    rw [List.any_eq_false] at this
    exact this r hr (by simpa [List.contains_iff_mem] using hm)
set_option maxRecDepth 100000 in
set_option maxHeartbeats 8000000 in
theorem walk (w : World) (v : Value) (xs : List RuleB) (hl : LieR v xs w) (hn : xs.length ≤ 9223372036854775807) (hz : ∀ r ∈ xs, r.1.size ≤ 9223372036854775807 ∧ r.2.1.size ≤ 9223372036854775807 ∧ r.2.2.size ≤ 9223372036854775807) (s : ByteArray) (hs : s.size ≤ maxLen) (t : ByteArray) (ht : t.size ≤ maxLen) (ht : Tabs w) :
    Calls Tryd.prog 9 #[v, .string s, .string t] w fun e w' => e = .returned (.bool true) ∧ Below w.heap.size w w' := by
  have HT := Lib.hid ht
  have HLV := Lib.hid hl
  have HZ := Lib.hid hz
  clear ht hl hz
  have HIs := Lib.hid (Is.of s)
  obtain ⟨sl, hsl⟩ : ∃ sl, s.data.toList = sl := ⟨_, rfl⟩
  rw [hsl] at HIs
  clear hsl
  try unfold maxLen at hs
  have HIt := Lib.hid (Is.of t)
  obtain ⟨tl, htl⟩ : ∃ tl, t.data.toList = tl := ⟨_, rfl⟩
  rw [htl] at HIt
  clear htl
  try unfold maxLen at ht
  go_enter Tryd.func9, Tryd.ntmps9
  go_wp2_with fail
  with_reducible refine (light_any v xs s _ (HLV.out.keep (Below.refl w.heap.size w)) hn HZ.out (by omega)).mono ?_
  rintro e w' ⟨⟨b, rfl, hb⟩, rfl⟩
  cases b
  · clear hb
    go_wp2_with fail
    go_ret
    exact ⟨rfl, (Below.refl w.heap.size w)⟩
  obtain ⟨h6, hl3, h2⟩ := hb rfl
  have HL3 := Lib.hid hl3
  clear hb hl3
  by_cases h200 : 200 < t.size
  · have d1 : decide (200 < t.size) = true := decide_eq_true h200
    go_wp2_with fail
    go_ret
    exact ⟨rfl, (Below.refl w.heap.size w)⟩
  have d1 : decide (200 < t.size) = false := decide_eq_false h200
  go_wp2_with fail
  with_reducible refine (new_any v xs _ (HLV.out.keep (Below.refl w.heap.size w)) (by omega) HL3.out.short (HT.out.keep (Below.refl w.heap.size w))).mono ?_
  rintro e w1 ⟨hv, hb⟩
  have HB1 := Lib.hid ((Below.refl w.heap.size w).trans (hb.mono (Below.refl w.heap.size w).size))
  clear hb
  rcases hv with ⟨hne, rfl⟩ | ⟨hok, a, rfl, ha⟩
  · obtain ⟨E, hE⟩ : ∃ E, Ro.check (rulesL xs) = E := ⟨_, rfl⟩
    have HE := Eqq.mk hE
    rw [hE] at hne
    rw [hE]
    have i0 : ¬ ((E : Nat) : Int) = 0 := by omega
    have i1 : (((E : Nat) : Int) == 0) = false := by rw [beq_eq_false_iff_ne]; exact i0
    clear hne hE
    go_wp2_with fail
    with_reducible refine (works_any _ (HT.out.keep HB1.out)).mono ?_
    rintro e w2 ⟨rfl, hb⟩
    have HB2 := Lib.hid (HB1.out.trans (hb.mono HB1.out.size))
    clear hb
    go_wp2_with fail
    go_ret
    exact ⟨rfl, HB2.out⟩
  have HOK := Eqq.mk hok
  clear hok
  obtain ⟨N, hN⟩ : ∃ N, w1.heap.size = N := ⟨_, rfl⟩
  have H1 := Lib.hid (Nat.le_of_eq hN.symm)
  rw [hN] at ha
  have HA1 := Lib.hid ha
  clear ha hN
  obtain ⟨ao, cap, rfl, hcap, hx⟩ := HLV.out
  have HLX := Lib.hid hx
  obtain ⟨m, hm9⟩ : ∃ m, xs.length = m := ⟨_, rfl⟩
  have HMM := Eqq.mk hm9
  have HTK := Eqq.mk (show xs.take m = xs by rw [← hm9, List.take_length])
  rw [hm9] at h6
  rw [hm9]
  obtain ⟨n, hn9⟩ : ∃ n, t.size = n := ⟨_, rfl⟩
  have HNN := Eqq.mk hn9
  have HLT := Eqq.mk (show tl.length = n by rw [← hn9, HIt.out.size])
  have htk := List.take_length (l := tl)
  rw [HLT.out] at htk
  have HTT := Eqq.mk htk
  rw [hn9] at h200
  clear hx hcap hm9 hn9 htk d1 ht
  go_wp2_with fail
  go_loopw [9, 10] (fun sv iv wr => ∃ (i : Nat) (acc : ByteArray), i ≤ n ∧ iv = .int .i64 i ∧ sv = .string acc ∧ Is acc (othL xs (tl.take i)) ∧ Below w1.heap.size w1 wr) (fun _ iv _ => n - (intOf iv).toNat)
  case atStart => exact ⟨0, ⟨#[]⟩, Nat.zero_le _, rfl, rfl, Is.mk [], Below.refl _ _⟩
  case round =>
    obtain ⟨i, acc, hi, rfl, rfl, hia, hb⟩ := hrel
    have HB := Lib.hid hb
    have HA := Lib.hid hia
    have hacc : acc.size ≤ 200 := by
      rw [hia.size]
      have h1 := oth_len xs (tl.take i)
      rw [List.length_take] at h1
      omega
    clear hb hia
    by_cases hlt : i < n
    · have hlt' : i < t.size := by rw [HNN.out]; exact hlt
      have hget := HIt.out.get i hlt'
      have HC := Lib.hid (HIt.out.cell i _ hget)
      have HOS := Eqq.mk (oth_succ xs tl i _ hget)
      obtain ⟨x, hx⟩ : ∃ x, t[i]'hlt' = x := ⟨_, rfl⟩
      rw [hx] at HC HOS
      obtain ⟨y, hy⟩ : ∃ y, t.extract i (i + 1) = y := ⟨_, rfl⟩
      rw [hy] at HC
      have hys : y.size ≤ 1 := by rw [HC.out.size]; simp
      clear hget
      have hbase := base_is x
      obtain ⟨B0, hB0⟩ : ∃ B0, (!Au.isKey x) = B0 := ⟨_, rfl⟩
      have HB0 := Eqq.mk hB0
      rw [hB0] at hbase
      clear hB0
      clear hbase
      go_upto_region 10 with fail
      go_cut [11] from 45 to 54 (fun bv wx => bv = .bool B0 ∧ Below w1.heap.size w1 wx)
      case first =>
        by_cases h1 : x.toNat < 33
        · have g1 : (x.toNat : Int) < 33 := by omega
          have HT0 := Eqq.mk (show true = B0 by rw [← HB0.out, Au.isKey_no (.inl h1)]; rfl)
          clear h1
          go_wp2_with fail
          go_meet
          case rel => exact ⟨by rw [← HT0.out], HB.out⟩
        · have g1 : ¬ (x.toNat : Int) < 33 := by omega
          by_cases h2 : 126 < x.toNat
          · have g2 : (126 : Int) < (x.toNat : Int) := by omega
            have HT0 := Eqq.mk (show true = B0 by rw [← HB0.out, Au.isKey_no (.inr h2)]; rfl)
            clear h1 h2
            go_wp2_with fail
            go_meet
            case rel => exact ⟨by rw [← HT0.out], HB.out⟩
          · have g2 : ¬ (126 : Int) < (x.toNat : Int) := by omega
            have HT0 := Eqq.mk (show false = B0 by rw [← HB0.out, Au.isKey_yes (by omega) (by omega)]; rfl)
            clear h1 h2
            go_wp2_with fail
            go_meet
            case rel => exact ⟨by rw [← HT0.out], HB.out⟩
      case rest =>
        obtain ⟨rfl, hb⟩ := hcut
        have HBc := Lib.hid hb
        clear hb
        go_wp2_with fail
        go_loopw [11, 12] (fun inv kv wr => ∃ k : Nat, k ≤ m ∧ kv = .int .i64 k ∧ inv = .bool (B0 || inR (xs.take k) x) ∧ Below w1.heap.size w1 wr) (fun _ kv _ => m - (intOf kv).toNat)
        case atStart => exact ⟨0, Nat.zero_le _, rfl, by rw [List.take_zero, show inR [] x = false from rfl, Bool.or_false], HBc.out⟩
        case round =>
          obtain ⟨k, hk, rfl, hinv, hb⟩ := hrel
          obtain ⟨B1, hB1⟩ : ∃ B1, (B0 || inR (xs.take k) x) = B1 := ⟨_, rfl⟩
          rw [hB1] at hinv
          subst hinv
          have HB1e := Eqq.mk hB1
          have HBk := Lib.hid hb
          clear hB1 hb
          by_cases hkl : k < m
          · obtain ⟨r, hr⟩ : ∃ r, xs[k]? = some r := ⟨_, List.getElem?_eq_getElem (by rw [HMM.out]; exact hkl)⟩
            obtain ⟨g, o, rfl, c1, _, _⟩ := HLX.out k r hr
            have HLT1 := Lib.hid (HL3.out r (List.mem_of_getElem? hr)).1
            have HS := Eqq.mk (inR_succ xs k r x hr)
            obtain ⟨r1, r2, r3⟩ := r
            dsimp only at c1 HLT1 HS
            have HC1 := Lib.hid (below_cellU c1 HB1.out (Nat.le_refl _))
            have HIr := Lib.hid (Is.of r1)
            obtain ⟨rl, hrl⟩ : ∃ rl, r1.data.toList = rl := ⟨_, rfl⟩
            rw [hrl] at HIr HS
            have g1 : (k : Int) < (m : Int) := by omega
            have g2 : (0 : Int) ≤ (k : Int) := by omega
            have hrz : r1.size ≤ 40 := HLT1.out
            have e1 := below_cellU HC1.out HBk.out (Nat.le_refl _)
            clear hr c1 hrl
            go_wp2_with fail
            clear e1
            go_loopw [11, 13] (fun inv nv wr => ∃ j : Nat, j ≤ r1.size ∧ nv = .int .i64 j ∧ inv = .bool (B1 || (rl.take j).contains x) ∧ Below w1.heap.size w1 wr) (fun _ nv _ => r1.size - (intOf nv).toNat)
            case atStart => exact ⟨0, Nat.zero_le _, rfl, by rw [List.take_zero, show ([] : List UInt8).contains x = false from rfl, Bool.or_false], HBk.out⟩
            case round =>
              obtain ⟨j, hj, rfl, hinv, hb⟩ := hrel
              obtain ⟨B2, hB2⟩ : ∃ B2, (B1 || (rl.take j).contains x) = B2 := ⟨_, rfl⟩
              rw [hB2] at hinv
              subst hinv
              have HB2e := Eqq.mk hB2
              have HBj := Lib.hid hb
              have e1 := below_cellU HC1.out hb (Nat.le_refl _)
              clear hB2 hb
              by_cases hjl : j < r1.size
              · have hgz := HIr.out.get j hjl
                have HCS := Eqq.mk (con_succ rl j x _ hgz)
                obtain ⟨z, hz⟩ : ∃ z, r1[j]'hjl = z := ⟨_, rfl⟩
                rw [hz] at HCS
                have g3 : (j : Int) < (r1.size : Int) := by omega
                have g4 : (0 : Int) ≤ (j : Int) := by omega
                clear hgz
                cases B2
                · by_cases hzx : z = x
                  · subst hzx
                    have HN := Eqq.mk (show (B1 || (rl.take (j + 1)).contains z) = true by rw [HCS.out, ← Bool.or_assoc, HB2e.out]; simp)
                    go_wp2_with fail
                    go_quiet (fail)
                    go_wp2_with fail
                    go_roundw
                    case rel => exact ⟨j + 1, by omega, by go_num, by rw [HN.out], by first | exact HBj.out | exact bel_dn HBj.out _ | exact HBj.out.drew⟩
                    case measure => simp [intOf]; omega
                  · have HN := Eqq.mk (show (B1 || (rl.take (j + 1)).contains x) = false by rw [HCS.out, ← Bool.or_assoc, HB2e.out]; simpa using hzx)
                    have d3 : ¬ (z.toNat : Int) = (x.toNat : Int) := fun e => hzx (UInt8.toNat_inj.1 (by omega))
                    have d4 : ((z.toNat : Int) == (x.toNat : Int)) = false := by rw [beq_eq_false_iff_ne]; exact d3
                    clear hzx
                    go_wp2_with fail
                    go_quiet (fail)
                    go_wp2_with fail
                    go_roundw
                    case rel => exact ⟨j + 1, by omega, by go_num, by rw [HN.out], by first | exact HBj.out | exact bel_dn HBj.out _ | exact HBj.out.drew⟩
                    case measure => simp [intOf]; omega
                · have HN := Eqq.mk (show (B1 || (rl.take (j + 1)).contains x) = true by rw [HCS.out, ← Bool.or_assoc, HB2e.out]; simp)
                  go_wp2_with fail
                  go_quiet (fail)
                  go_wp2_with fail
                  go_roundw
                  case rel => exact ⟨j + 1, by omega, by go_num, by rw [HN.out], by first | exact HBj.out | exact bel_dn HBj.out _ | exact HBj.out.drew⟩
                  case measure => simp [intOf]; omega
              · obtain rfl : j = r1.size := by omega
                have HN := Eqq.mk (show B2 = (B0 || inR (xs.take (k + 1)) x) by
                  rw [HS.out, ← Bool.or_assoc, HB1e.out, ← HB2e.out, List.take_of_length_le (by rw [← HIr.out.size]; exact Nat.le_refl _)])
                go_wp2_with fail
                go_roundw
                case rel => exact ⟨k + 1, by omega, by go_num, by rw [HN.out], HBj.out⟩
                case measure => simp [intOf]; omega
          · obtain rfl : k = m := by omega
            have HIB := Eqq.mk (show inB xs x = B1 by rw [← HB1e.out, HTK.out, ← HB0.out]; rfl)
            cases B1
            · have HN := Lib.hid (show Is (acc ++ y) (othL xs (tl.take (i + 1))) by rw [HOS.out, HIB.out, if_neg (by simp)]; exact HA.out.append HC.out)
              have i1 : (0 : Int) ≤ (i : Int) := by omega
              have i2 : (i : Int) + 1 ≤ (n : Int) := by omega
              go_wp2_with fail
              go_roundw
              case rel => exact ⟨i + 1, _, by omega, by go_num, rfl, HN.out, HBk.out⟩
              case measure => simp [intOf]; omega
            · have HN := Lib.hid (show Is acc (othL xs (tl.take (i + 1))) by rw [HOS.out, HIB.out, if_pos rfl]; exact HA.out)
              go_wp2_with fail
              go_roundw
              case rel => exact ⟨i + 1, _, by omega, by go_num, rfl, HN.out, HBk.out⟩
              case measure => simp [intOf]; omega
    · obtain rfl : i = n := by omega
      have hge : ¬ ((i : Int) < (t.size : Int)) := by rw [HNN.out]; omega
      have HO := Lib.hid HA.out
      rw [HTT.out] at HO
      have hol := oth_len xs tl
      rw [HLT.out] at hol
      obtain ⟨hok1, hok2⟩ := oth_keys xs tl
      have HK1 := Lib.hid hok1
      have HK2 := Lib.hid hok2
      obtain ⟨ol, hol9⟩ : ∃ ol, othL xs tl = ol := ⟨_, rfl⟩
      rw [hol9] at HO hol HK1 HK2
      have HBw := Lib.hid (HB1.out.trans (HB.out.mono HB1.out.size))
      have HAw := Lib.hid (HA1.out.go H1.out HB.out)
      have HNw := Lib.hid (Nat.le_trans H1.out HB.out.size)
      clear hok1 hok2 hol9
      by_cases hoe : ol = []
      · subst hoe
        obtain rfl : acc = ⟨#[]⟩ := HO.out.eq (Is.mk [])
        go_wp2_with fail
        with_reducible refine (works_any _ (HT.out.keep HBw.out)).mono ?_
        rintro e w7 ⟨rfl, hb⟩
        have HB7 := Lib.hid (HBw.out.trans (hb.mono HBw.out.size))
        clear hb
        go_wp2_with fail
        go_ret
        exact ⟨rfl, HB7.out⟩
      · have hpe2 : acc.toList.isEmpty = false := by rw [HO.out.list]; cases ol with | nil => exact absurd rfl hoe | cons _ _ => rfl
        have hpe3 : acc.data.isEmpty = false := by rw [← hpe2, Lib.toList_data]; rcases acc with ⟨⟨d⟩⟩; cases d <;> rfl
        have hpe4 : (acc.toList == []) = false := by rw [← hpe2]; cases acc.toList <;> rfl
        have HNE := Lib.hid hoe
        clear hoe
        obtain ⟨⟨xl, pl⟩, h1⟩ : ∃ p, Au.run (rulesL xs) sl = p := ⟨_, rfl⟩
        have HXx := Eqq.mk h1
        clear h1
        have HIx := Lib.hid (is_ba xl)
        have HIp := Lib.hid (is_ba pl)
        obtain ⟨x, hx⟩ : ∃ x, ba xl = x := ⟨_, rfl⟩
        obtain ⟨p, hp⟩ : ∃ x, ba pl = x := ⟨_, rfl⟩
        have HVx := Eqq.mk (show TwoV (xl, pl) = .returned (.tuple #[.string x, .string p]) by unfold TwoV; rw [hx, hp])
        rw [hx] at HIx
        rw [hp] at HIp
        have HEx := Eqq.mk hx
        have HEp := Eqq.mk hp
        clear hx hp
        have hsl : sl.length ≤ 200 := by rw [← HIs.out.size]; exact h2
        have hpz : p.size ≤ 200 := by
          have h := Au.feed_len (Au.short_of HOK.out) [] (Au.keysOf sl)
          rw [show Au.feed (rulesL xs) [] (Au.keysOf sl) = (xl, pl) from HXx.out] at h
          have h' := Au.keysOf_len sl
          rw [HIp.out.size]
          simp only [List.length_nil] at h
          omega
        have hxz : x.size ≤ 3200 := by
          have h := Au.run_len HOK.out sl
          rw [HXx.out] at h
          rw [HIx.out.size]
          dsimp only at h
          omega
        have HIf := Lib.hid (is_ba (Au.flush (rulesL xs) pl))
        have hfz : (ba (Au.flush (rulesL xs) pl)).size ≤ 3200 := by
          rw [ba_size]
          have h := Au.flushP_len HOK.out _ (Au.keysOf pl) (Nat.le_refl _) (Au.allKeys_of pl)
          have h' := Au.keysOf_len pl
          have h3 := HIp.out.size
          show (Au.flushP (rulesL xs) (Au.keysOf pl)).length ≤ _
          omega
        have HL := Eqq.mk (Au.others_law HOK.out sl ol HNE.out HK1.out HK2.out)
        rw [HXx.out] at HL
        dsimp only at HL
        obtain ⟨f, hf⟩ : ∃ f, ba (Au.flush (rulesL xs) pl) = f := ⟨_, rfl⟩
        have HF := Eqq.mk hf
        rw [hf] at HIf hfz
        clear hf
        obtain ⟨xf, hxf⟩ : ∃ xf, x ++ f = xf := ⟨_, rfl⟩
        have hxfz : xf.size ≤ 6400 := by rw [← hxf, ByteArray.size_append]; omega
        obtain ⟨xfo, hxfo⟩ : ∃ xfo, xf ++ acc = xfo := ⟨_, rfl⟩
        have HR := Eqq.mk (show TwoV (Au.run (rulesL xs) (sl ++ ol)) = .returned (.tuple #[.string xfo, .string ⟨#[]⟩]) by
          rw [HL.out, ← List.append_assoc]
          have h : Is xfo (xl ++ Au.flush (rulesL xs) pl ++ ol) := by rw [← hxfo, ← hxf]; exact (HIx.out.append HIf.out).append HO.out
          rw [h.ba]; rfl)
        have HSA := Lib.hid (HIs.out.append HO.out)
        have hsaz : (s ++ acc).size ≤ 400 := by rw [ByteArray.size_append]; omega
        obtain ⟨sa, hsa⟩ : ∃ sa, s ++ acc = sa := ⟨_, rfl⟩
        rw [hsa] at HSA hsaz
        go_wp2_with fail
        with_reducible refine (run_any N a xs s sl _ HAw.out HNw.out HIs.out (by omega)).mono ?_
        rw [HXx.out, HVx.out]
        rintro e w5 ⟨rfl, hb⟩
        have HB5 := Lib.hid (HBw.out.trans (hb.mono HBw.out.size))
        have HA5 := Lib.hid (HAw.out.go HNw.out hb)
        have H5 := Lib.hid (Nat.le_trans HNw.out hb.size)
        clear hb
        go_wp2_with fail
        with_reducible refine (run_any N a xs sa _ _ HA5.out H5.out HSA.out (by omega)).mono ?_
        rw [HR.out]
        rintro e w6 ⟨rfl, hb⟩
        have HB6 := Lib.hid (HB5.out.trans (hb.mono HB5.out.size))
        have HA6 := Lib.hid (HA5.out.go H5.out hb)
        have H6 := Lib.hid (Nat.le_trans H5.out hb.size)
        clear hb
        go_wp2_with fail
        with_reducible refine (flush_any N a xs p pl _ HA6.out H6.out HIp.out (by omega)).mono ?_
        rw [HF.out]
        rintro e w7 ⟨rfl, hb⟩
        have HB7 := Lib.hid (HB6.out.trans (hb.mono HB6.out.size))
        have HA7 := Lib.hid (HA6.out.go H6.out hb)
        have H7 := Lib.hid (Nat.le_trans H6.out hb.size)
        clear hb
        go_wp2_with fail
        with_reducible refine (works_any _ (HT.out.keep HB7.out)).mono ?_
        rintro e w8 ⟨rfl, hb⟩
        have HB8 := Lib.hid (HB7.out.trans (hb.mono HB7.out.size))
        have HA8 := Lib.hid (HA7.out.go H7.out hb)
        have H8 := Lib.hid (Nat.le_trans H7.out hb.size)
        clear hb
        go_wp2_with fail
        go_ret
        exact ⟨rfl, HB8.out⟩

theorem laidOut : laidOutB Tryd.prog = true := by kernel_rfl
set_option maxRecDepth 100000 in
theorem contract (H : Type) (enc : TypeId × Value → H) (W : World) (base : Nat) (args : Array Value) (ds gs : List (DataW H)) (before : List MemPlace)
    (hval : ∀ (j : Nat) t v, Tryd.f9.params[j]? = some t → args[j]? = some v → Value.okWide Tryd.prog W .any base t v)
    (hW : DataW.Whole enc Tryd.prog Tryd.f9.params.toList Rows.autoOthersSpec.vars false W args.toList ds gs before) (hL : laidMetH Tryd.prog Rows.autoOthersRow.laid W) (hS : W.ShapedOpen Tryd.prog)
    (hR : (DataW.weightsEach Tryd.prog (Tryd.f9.params.toList ++ (OpenSpec.ofChange Rows.autoOthersSpec).bare.plain.varTypes Tryd.prog) (ds ++ gs)).all (· ≤ reachBytes) = true) :
    Calls Tryd.prog 9 args W fun e W' => ∃ v, e = .returned v ∧ Rows.autoOthersSpec.post enc Tryd.prog Tryd.f9 false true false false W args v W' := by
  have hT : Tabs W := rtabs_of_laid hL hS
  have hW' := hW
  obtain ⟨p, q, hA0, hV, rfl, hfz, hnd⟩ := hW
  have hA : DataW.TrodAll enc Tryd.prog W 0 (fun _ => true) true Tryd.f9.params.toList args.toList ds p := hA0
  rw [Tryd.params9] at hA hval hR
  obtain ⟨v0, vs0, d0, ds0, p0, q0, hargs, rfl, rfl, h0, r0⟩ := trodAll_cons hA
  obtain ⟨v1, vs1, d1, ds1, p1, q1, rfl, rfl, rfl, h1, r1⟩ := trodAll_cons r0
  obtain ⟨v2, vs2, d2, ds2, p2, q2, rfl, rfl, rfl, h2, r2⟩ := trodAll_cons r1
  obtain ⟨rfl, rfl, rfl⟩ := trodAll_nil r2
  obtain rfl : args = #[v0, v1, v2] := by cases args; simp_all
  obtain ⟨rfl, rfl⟩ := trodVars_none hV
  clear hA0
  simp only [List.append_nil] at hW' hR
  have k0 := h0
  have l0 : ∀ x ∈ p0, x.block < W.heap.size := fun x hx => by simpa using hW'.lt x (by simp [hx])
  have k1 := h1
  have l1 : ∀ x ∈ p1, x.block < W.heap.size := fun x hx => by simpa using hW'.lt x (by simp [hx])
  have k2 := h2
  have l2 : ∀ x ∈ p2, x.block < W.heap.size := fun x hx => by simpa using hW'.lt x (by simp [hx])
  obtain ⟨xs0, hl0, hn0, hz0⟩ := open_rules (hval 0 22 v0 rfl rfl) h0
  obtain ⟨s1, rfl, rfl, rfl, m1⟩ := open_string Tryd.underlying9 (hval 1 9 v1 rfl rfl) h1
  obtain ⟨s2, rfl, rfl, rfl, m2⟩ := open_string Tryd.underlying9 (hval 2 9 v2 rfl rfl) h2
  refine (walk W v0 xs0 hl0 hn0 hz0 s1 m1 s2 m2 hT).mono fun e W' ⟨he, bel⟩ => ?_
  subst he
  exact ⟨_, rfl, _, _, _, [], _, [], hW', trodAll_mk1 (shut_bool Tryd.underlying4 _), (trodAll_cons_mk (Below.trod laidOut (by kernel_rfl) (of_decide_eq_true (by kernel_rfl)) k0 bel l0) (trodAll_cons_mk (Below.trod laidOut (by kernel_rfl) (of_decide_eq_true (by kernel_rfl)) k1 bel l1) (trodAll_cons_mk (Below.trod laidOut (by kernel_rfl) (of_decide_eq_true (by kernel_rfl)) k2 bel l2) trodAll_mk0))), rfl, bel.frame _, fun h => by cases h⟩

theorem reads (os : Os) {H : Type} (enc : TypeId × Value → H) : ∃ places, DataW.whole enc Tryd.prog ((laidWorldR os).forCall (fun _ _ => 0) ⟨#[], #[.slice none 0 0, .string ⟨#[]⟩, .string ⟨#[]⟩], []⟩).memory Tryd.f9.params.toList Rows.autoOthersSpec.vars false #[.slice none 0 0, .string ⟨#[]⟩, .string ⟨#[]⟩].toList 8 = some ([.nil, .lit (.string []), .lit (.string [])], [], places) :=
  ⟨[], by kernel_rfl⟩

set_option maxRecDepth 100000 in
theorem lifted (os : Os) (started : os.Started) (H : Type) (enc : TypeId × Value → H) (F : Stop.Interp) :
    ReturnsInHanded {} Tryd.checked os 9 .any ((OpenSpec.ofChange Rows.autoOthersSpec).preRow enc Tryd.prog Tryd.f9 Rows.autoOthersRow.domain false Rows.autoOthersRow.laid) (((OpenSpec.ofChange Rows.autoOthersSpec).at F).post enc Tryd.prog Tryd.f9 false true false false) := by
  obtain ⟨places, hx⟩ := reads os enc
  refine returnsInHanded_of_row (C := Tryd.checked) (s := (OpenSpec.ofChange Rows.autoOthersSpec)) own started (by kernel_rfl) Tryd.func9
    (witness_row_at (enc := enc) (C := Tryd.checked) false (laidWorldR os) #[.slice none 0 0, .string ⟨#[]⟩, .string ⟨#[]⟩] rfl (by kernel_rfl) (by kernel_rfl) (by kernel_rfl)
      (OpenSpec.preRow_of_cond 8 hx (by kernel_rfl) (fun k hk => by cases hk) (by kernel_rfl) (laid_metR os _))) ?_
  intro W base args ds gs before hval hW _ hcond hR hL hS _
  exact contract H enc W base args ds gs before hval hW hL hS hR

theorem said : Rows.AutoOthersSaid :=
  OpenClaim.holds_of_cond 9 Tryd.f9 rfl rfl rfl rfl rfl rfl rfl ⟨rfl, rfl, rfl, rfl, rfl⟩ rfl rfl rfl rfl rfl (by kernel_rfl) Tryd.func9 (by kernel_rfl)
    (of_decide_eq_true (by kernel_rfl)) (by unfold Func.isWrapper; first | (rw [if_pos (by decide +kernel)]; kernel_rfl) | (rw [if_neg (by decide +kernel)]; exact ⟨rfl, rfl⟩))
    (fun os started H enc _ F => by rw [OpenClaim.pre_eq_preRow]; exact lifted os started H enc F)

theorem plain (f : FuncId) (fn : Func) (hf : Tryd.pinned.checked.prog.funcNamed "henkan/henkanlaw06.AutoOthers" = some f) (hfn : Tryd.pinned.checked.prog.funcs[f]? = some fn) :
    false = Tryd.pinned.checked.prog.looks [] ∧ ∀ (j : Nat) t, fn.params[j]? = some t → Tryd.pinned.checked.prog.wantsStandIn t = false := by
  obtain rfl : f = 9 := Option.some.inj ((show Tryd.prog.funcNamed "henkan/henkanlaw06.AutoOthers" = some 9 by kernel_rfl).symm.trans hf) |>.symm
  obtain rfl : fn = Tryd.f9 := (Option.some.inj (Tryd.func9.symm.trans hfn)).symm
  refine ⟨by kernel_rfl, fun j t ht => ?_⟩
  rw [Tryd.params9] at ht
  have hm := Array.mem_of_getElem? ht
  simp only [List.mem_toArray, List.mem_cons, List.not_mem_nil, or_false] at hm
  rcases hm with rfl | rfl | rfl
  · exact (show Tryd.prog.wantsStandIn 22 = false by kernel_rfl)
  · exact (show Tryd.prog.wantsStandIn 9 = false by kernel_rfl)
  · exact (show Tryd.prog.wantsStandIn 9 = false by kernel_rfl)

/-- the card -/
theorem proved : Rows.AutoOthersCardSaid :=
  Claim7.holds_tied_plain_at .later [] _ _ _ _ said (fun _ h => by cases h) (by kernel_rfl) (fun _ h => by cases h) autoOthers_row_tie rfl ⟨rfl, rfl⟩ (by kernel_rfl) rfl plain (by kernel_rfl)
#print axioms proved
end Go.Proofs.YtdcpiabmgjajlaaDoor.autoOthers
