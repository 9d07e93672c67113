/-
  roman.Check and henkanref05.Check by their contracts. No condition but the lists' and the strings' own bound.
-/
import Derived.Test.YtgdcffahhpeibaaGreatDoorRoAllow
import Derived.Test.YtgdcffahhpeibaaGreatDoorRoFind
import Derived.Test.YtgdcffahhpeibaaGreatDoorRMap
namespace Go.Proofs.YtgdcffahhpeibaaGreatDoor
open Go.RowKit
open Go.Maps (Keyed)
theorem keyStr : Keyed Tryz.prog 9 := Maps.string_keyed Tryz.underlying9
theorem zeroBool (w : World) : (zeroValue 4).run Tryz.prog w = .ok (.bool false) w := by kernel_rfl
/-- the strings of a set of keys -/
def seenF (ks : List (List UInt8)) : Value → Option Value
  | .string s => if ks.contains s.data.toList then some (.bool true) else none
  | _ => none
theorem seenF_get (ks : List (List UInt8)) (s : ByteArray) : (seenF ks (.string s)).getD (.bool false) = .bool (ks.contains s.data.toList) := by
  unfold seenF
  dsimp only
  cases ks.contains s.data.toList <;> rfl
theorem seenF_nil : seenF [] = fun _ => none := by
  funext v
  cases v <;> rfl
theorem seenF_put (ks : List (List UInt8)) (s : ByteArray) : seenF (ks ++ [s.data.toList]) (.string s) = some (.bool true) := by
  unfold seenF
  dsimp only
  rw [if_pos (List.contains_iff_mem.2 (by simp))]
theorem seenF_other (ks : List (List UInt8)) (s : ByteArray) (x : Value) (h : x ≠ .string s) : seenF (ks ++ [s.data.toList]) x = seenF ks x := by
  cases x <;> try rfl
  rename_i t
  unfold seenF
  dsimp only
  have hne : t.data.toList ≠ s.data.toList := by
    intro e
    exact h (by rw [show t = s from ByteArray.ext (Array.toList_inj.1 e)])
  have e : (ks ++ [s.data.toList]).contains t.data.toList = ks.contains t.data.toList := by
    rw [Bool.eq_iff_iff, List.contains_iff_mem, List.contains_iff_mem, List.mem_append]
    simp [hne]
  rw [e]
def keysL (xs : List RuleB) : List (List UInt8) := (rulesL xs).map (·.1)
theorem keysL_take (xs : List RuleB) (k : Nat) (r : RuleB) (h : xs[k]? = some r) : keysL (xs.take (k + 1)) = keysL (xs.take k) ++ [r.1.data.toList] := by
  have hk : k < xs.length := by
    rcases Nat.lt_or_ge k xs.length with h' | h'
    · exact h'
    · rw [List.getElem?_eq_none h'] at h; cases h
  rw [List.getElem?_eq_getElem hk] at h
  injection h with h
  unfold keysL rulesL
  rw [List.take_succ_eq_append_getElem hk, List.map_append, List.map_append, h]
  rfl
theorem good_take (xs : List RuleB) (k : Nat) (r : RuleB) (h : xs[k]? = some r) (hg : Ro.good (rulesL (xs.take k)) = true) (ha : Ro.allowed (ruleL r) = true) (hn : (keysL (xs.take k)).contains r.1.data.toList = false) : Ro.good (rulesL (xs.take (k + 1))) = true := by
  have hk : k < xs.length := by
    rcases Nat.lt_or_ge k xs.length with h' | h'
    · exact h'
    · rw [List.getElem?_eq_none h'] at h; cases h
  rw [List.getElem?_eq_getElem hk] at h
  injection h with h
  have e : rulesL (xs.take (k + 1)) = rulesL (xs.take k) ++ [ruleL r] := by
    unfold rulesL
    rw [List.take_succ_eq_append_getElem hk, List.map_append, h]; rfl
  rw [e]
  exact Ro.goodFrom_snoc _ _ hg ha hn
theorem good_bad (xs : List RuleB) (k : Nat) (r : RuleB) (h : xs[k]? = some r) (hb : Ro.allowed (ruleL r) = false ∨ (keysL (xs.take k)).contains r.1.data.toList = true) : Ro.good (rulesL xs) = false := by
  have hk : k < xs.length := by
    rcases Nat.lt_or_ge k xs.length with h' | h'
    · exact h'
    · rw [List.getElem?_eq_none h'] at h; cases h
  rw [List.getElem?_eq_getElem hk] at h
  injection h with h
  cases hg : Ro.good (rulesL xs)
  · rfl
  · exfalso
    obtain ⟨h1, h2⟩ := (Ro.good_iff _).1 hg
    rcases hb with hb | hb
    · have := h1 (ruleL r) (List.mem_map.2 ⟨r, by rw [← h]; exact List.getElem_mem hk, rfl⟩)
      rw [hb] at this
      cases this
    · have hm := List.contains_iff_mem.1 hb
      have e : (rulesL xs).map (·.1) = keysL (xs.take k) ++ (r.1.data.toList :: keysL (xs.drop (k + 1))) := by
        unfold keysL rulesL
        rw [← h]
        conv => lhs; rw [← List.take_append_drop k xs, List.drop_eq_getElem_cons hk]
        simp only [List.map_append, List.map_cons]
        rfl
      rw [e, List.nodup_append] at h2
      exact h2.2.2 _ hm r.1.data.toList (List.mem_cons_self ..) rfl
/-- every string is short -/
def Short3 (xs : List RuleB) : Prop := ∀ r ∈ xs, r.1.size ≤ 17592186044416 ∧ r.2.1.size ≤ 17592186044416 ∧ r.2.2.size ≤ 17592186044416
theorem maxLen_of {s : ByteArray} (h : s.size ≤ 17592186044416) : s.size ≤ maxLen := by unfold maxLen; omega
set_option maxRecDepth 100000 in
set_option maxHeartbeats 4000000 in
theorem check_any (v : Value) (xs : List RuleB) (w : World) (h : LieR v xs w) (hn : xs.length ≤ 1000000000000) (hz : Short3 xs) (ht : Tabs w) :
    Calls Tryz.prog 42 #[v] w fun e w' => e = .returned (.int .i64 (Ro.check (rulesL xs))) ∧ Below w.heap.size w w' := by
  have HL := Lib.hid h
  have HT := Lib.hid ht
  have HZ := Lib.hid hz
  obtain ⟨ao, cap, rfl, hcap, hx⟩ := h
  obtain ⟨n, hn2⟩ : ∃ n, xs.length = n := ⟨_, rfl⟩
  have HN := Eqq.mk hn2
  have hrl : (rulesL xs).length = n := by unfold rulesL; rw [List.length_map, hn2]
  rw [hn2] at hn ⊢
  have HX := Lib.hid hx
  by_cases h5 : 500 < n
  · have HR := Eqq.mk (show ((Ro.check (rulesL xs) : Nat) : Int) = 2 by unfold Ro.check; rw [hrl, if_pos h5]; rfl)
    have hd : decide ((500 : Int) < (n : Int)) = true := decide_eq_true (by omega)
    clear hx hn2 hcap ht hz hrl h5
    go_enter Tryz.func42, Tryz.ntmps42
    go_wp2_with fail
    go_ret
    exact ⟨by rw [HR.out]; rfl, Below.refl _ _⟩
  · have hd : decide ((500 : Int) < (n : Int)) = false := decide_eq_false (by omega)
    have HCK := Eqq.mk (show Ro.check (rulesL xs) = if Ro.good (rulesL xs) = true then 0 else 50 by unfold Ro.check; rw [hrl, if_neg h5])
    have hmm := @run_makeMap Tryz.prog
    have hm0 : MapIs Tryz.prog 9 w.heap.size 0 (seenF (keysL (xs.take 0))) (w.alloc (.map #[] 0)) := by
      rw [List.take_zero, show keysL [] = [] from rfl, seenF_nil]
      exact MapIs.made _ _ _
    have HM0 := Lib.hid hm0
    have hn5 : n ≤ 500 := by omega
    clear hx hn2 hcap ht hz hrl h5 hm0
    go_enter Tryz.func42, Tryz.ntmps42
    go_wp2_with fail
    clear hmm
    go_loopw [12] (fun iv wr => ∃ k : Nat, k ≤ n ∧ iv = .int .i64 k ∧ MapIs Tryz.prog 9 w.heap.size k (seenF (keysL (xs.take k))) wr ∧ Eqq (Ro.good (rulesL (xs.take k))) true ∧ Below w.heap.size w wr) (fun iv _ => n - (intOf iv).toNat)
    case atStart => exact ⟨0, Nat.zero_le _, rfl, HM0.out, ⟨rfl⟩, (Below.refl _ _).alloc (Nat.le_refl _) _⟩
    case round =>
      obtain ⟨k, hk, rfl, hm, HG, hb⟩ := hrel
      have HM := Lib.hid hm
      have HB := Lib.hid hb
      clear hm hb
      by_cases hlt : k < n
      · have hkl : k < xs.length := by rw [HN.out]; exact hlt
        obtain ⟨r, hr⟩ : ∃ r, xs[k]? = some r := ⟨_, List.getElem?_eq_getElem hkl⟩
        obtain ⟨g, o, rfl, d1, d2, d3⟩ := HX.out k r hr
        have c1 := below_cellU d1 HB.out (Nat.le_refl _)
        have c2 := below_cellU d2 HB.out (Nat.le_refl _)
        have c3 := below_cellU d3 HB.out (Nat.le_refl _)
        obtain ⟨z1, z2, z3⟩ := HZ.out r (List.mem_of_getElem? hr)
        have HKT := Eqq.mk (keysL_take xs k r hr)
        have HGT := Lib.hid (good_take xs k r hr)
        have HGB := Lib.hid (good_bad xs k r hr)
        have HSG := Lib.hid (seenF_get (keysL (xs.take k)) r.1)
        obtain ⟨r1, r2, r3⟩ := r
        dsimp only at c1 c2 c3 z1 z2 z3 HKT HSG
        obtain ⟨ks, hks⟩ : ∃ ks, keysL (xs.take k) = ks := ⟨_, rfl⟩
        rw [hks] at HM HKT HSG HGT HGB
        have HB1 := Lib.hid (HB.out.alloc HB.out.size (.cells #[.string r1, .string r2, .string r3] 87))
        have hwr : w.heap.size < wr.heap.size := HM.out.lt
        clear hr d1 d2 d3 hks
        obtain ⟨b, hb⟩ : ∃ b, ks.contains r1.data.toList = b := ⟨_, rfl⟩
        have HBB := Eqq.mk hb
        have hlk := (HM.out.alloc (.cells #[.string r1, .string r2, .string r3] 87)).look keyStr Tryz.underlying82 (zeroBool _) (WideMaps.keyOf_string_mk Tryz.underlying9 (maxLen_of z1))
        rw [HSG.out, HBB.out] at hlk
        clear hb
        cases b
        · obtain ⟨A, hA⟩ : ∃ A, Ro.allowed (ruleL (r1, r2, r3)) = A := ⟨_, rfl⟩
          have HAA := Eqq.mk hA
          clear hA
          go_wp2_with fail
          with_reducible refine (allowed_any (r1, r2, r3) _ (by dsimp only; omega) z2 (by dsimp only; omega) (HT.out.keep HB1.out)).mono ?_
          rw [HAA.out]
          rintro e w2 ⟨rfl, hb2⟩
          have HB2 := Lib.hid (HB1.out.trans (hb2.mono HB1.out.size))
          have c0 : w2.cell? ⟨wr.heap.size, 0, none⟩ = some (.string r1) := below_cellU (box3_0 wr _ _ _ _) hb2 (Nat.le_refl _)
          have HM2 := Lib.hid ((HM.out.alloc (.cells #[.string r1, .string r2, .string r3] 87)).keep hb2)
          clear hb2 hlk
          cases A
          · have HR := Eqq.mk (show ((Ro.check (rulesL xs) : Nat) : Int) = 50 by rw [HCK.out, HGB.out (.inl HAA.out), if_neg (by simp)]; rfl)
            go_wp2_with fail
            go_ret
            exact ⟨by rw [HR.out]; rfl, HB2.out⟩
          · have HG2 := Eqq.mk (HGT.out HG.out HAA.out HBB.out)
            have hk5 : k ≤ 500 := by omega
            go_wp2_with (at_mapUpdate; refine wpList_put_is _ rfl _ _ _ 82 rfl 9 4 keyStr Tryz.underlying82 w.heap.size k (seenF ks) (seenF (ks ++ [r1.data.toList])) rfl HM2.out (by unfold maxLen; omega) (.string r1) (.bool true) (.string r1.data.toList) rfl rfl (WideMaps.keyOf_string_mk Tryz.underlying9 (maxLen_of z1)) (seenF_put ks r1) (fun x hx => seenF_other ks r1 x hx) ?_)
            intro w3 hm3 hg3
            have HM3 := Lib.hid hm3
            have HB3 := Lib.hid (HB2.out.grown hg3 HB2.out.size (fun j hj => by injection hj with hj; subst hj; exact Nat.le_refl _))
            clear hm3 hg3
            go_wp2_with fail
            go_roundw
            case rel => exact ⟨k + 1, by omega, by go_num, by rw [HKT.out]; exact HM3.out, HG2, HB3.out⟩
            case measure => simp [intOf]; omega
        · have HR := Eqq.mk (show ((Ro.check (rulesL xs) : Nat) : Int) = 50 by rw [HCK.out, HGB.out (.inr HBB.out), if_neg (by simp)]; rfl)
          go_wp2_with fail
          go_ret
          exact ⟨by rw [HR.out]; rfl, HB1.out⟩
      · obtain rfl : k = n := by omega
        have HR := Eqq.mk (show ((Ro.check (rulesL xs) : Nat) : Int) = 0 by
          have := HG.out
          rw [← HN.out, List.take_length] at this
          rw [HCK.out, if_pos this]; rfl)
        go_wp2_with fail
        go_ret
        exact ⟨by rw [HR.out]; rfl, HB.out⟩
end Go.Proofs.YtgdcffahhpeibaaGreatDoor
