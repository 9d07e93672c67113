/-
  henkanref06.used, where, Type by their contracts. The rules are allowed.
-/
import Derived.Test.YtdcpiabmgjajlaaDoorAuMap
import Derived.WalkArith
namespace Go.Proofs.YtdcpiabmgjajlaaDoor
open Go.RowKit
/-- a state with its keys, as it lies -/
def enE : Enc Au.Ent where
  k := 3
  enc := fun e => [.int .i64 (e.1.1 : Int), .string (ba e.1.2), .string (ba e.2)]
  pos := by decide
  len := fun _ => rfl
  one := fun c u hu => by
    simp only [List.mem_cons, List.not_mem_nil, or_false] at hu
    rcases hu with rfl | rfl | rfl <;> rfl
theorem infoEnt : (Tryd.prog.info? 80).map (fun i => (i.zero, i.size, i.bytes)) = some (some (.agg #[.int .i64 0, .string ⟨#[]⟩, .string ⟨#[]⟩]), 3, 40) := by kernel_rfl
def enApp : AppT Tryd.prog enE 81 80 where
  z := .agg #[.int .i64 0, .string ⟨#[]⟩, .string ⟨#[]⟩]
  bytes := 40
  under := Tryd.underlying81
  info := infoEnt
  zsz := rfl
/-- where a state stands in a list -/
def whereR (L : List Au.Ent) (y : Au.St) (e : Ending) : Prop :=
  (Au.lookS L y = none ∧ e = .returned (.int .i64 (-1))) ∨ (∃ (i : Nat) (k : List UInt8), L[i]? = some (y, k) ∧ (∀ (j : Nat) e, j < i → L[j]? = some e → e.1 ≠ y) ∧ Au.lookS L y = some k ∧ e = .returned (.int .i64 (i : Int)))
theorem toList_ne {a b : ByteArray} {x y : List UInt8} (ha : Is a x) (hb : Is b y) : (a.toList == b.toList) = (x == y) := by rw [ha.list, hb.list]
set_option maxRecDepth 100000 in
set_option maxHeartbeats 4000000 in
theorem where_any (v : Value) (L : List Au.Ent) (y1 : Nat) (y2 : List UInt8) (n : Int) (hn1 : n = (y1 : Int)) (q r : ByteArray) (hq : Is q y2) (w : World) (h : LieG enE v L w) (hn : L.length ≤ 1000000000000) :
    Calls Tryd.prog 44 #[v, .agg #[.int .i64 n, .string q, .string r]] w fun e w' => whereR L (y1, y2) e ∧ Below w.heap.size w w' := by
  subst hn1
  have HQ := Lib.hid hq
  have hB0 := (Below.refl w.heap.size w).alloc (Nat.le_refl _) (.cells #[.int .i64 (y1 : Int), .string q, .string r] 80)
  have HB0 := Lib.hid hB0
  have HL := Lib.hid (h.keep hB0)
  have A0 := Lib.hid (box3_0 w (.int .i64 (y1 : Int)) (.string q) (.string r) 80)
  have A1 := Lib.hid (box3_1 w (.int .i64 (y1 : Int)) (.string q) (.string r) 80)
  obtain ⟨W0, hW0⟩ : ∃ W0, w.alloc (.cells #[.int .i64 (y1 : Int), .string q, .string r] 80) = W0 := ⟨_, rfl⟩
  rw [hW0] at HB0 HL A0 A1
  obtain ⟨ao, cap, rfl, hcap, _, _, hx⟩ := HL.out
  obtain ⟨m, hm⟩ : ∃ m, L.length = m := ⟨_, rfl⟩
  have HN := Eqq.mk hm
  rw [hm] at hn ⊢
  have HX := Lib.hid hx
  clear h hq hx hcap hm hB0
  go_enter Tryd.func44, Tryd.ntmps44
  go_wp2_with fail
  clear hW0
  go_loopw [5] (fun iv wr => ∃ i : Nat, i ≤ m ∧ iv = .int .i64 i ∧ (∀ (j : Nat) e, j < i → L[j]? = some e → e.1 ≠ (y1, y2)) ∧ Below W0.heap.size W0 wr) (fun iv _ => m - (intOf iv).toNat)
  case atStart => exact ⟨0, Nat.zero_le _, rfl, fun j e hj => by omega, Below.refl _ _⟩
  case round =>
    obtain ⟨i, hi, rfl, hno, hb⟩ := hrel
    have HNO := Lib.hid hno
    have HB := Lib.hid hb
    have HBW := Lib.hid (HB0.out.trans (hb.mono HB0.out.size))
    have a0 := below_cellU A0.out hb (Nat.le_refl _)
    have a1 := below_cellU A1.out hb (Nat.le_refl _)
    clear hno hb
    by_cases hil : i < m
    · obtain ⟨⟨⟨z1, z2⟩, kz⟩, hz⟩ : ∃ e, L[i]? = some e := ⟨_, List.getElem?_eq_getElem (by rw [HN.out]; exact hil)⟩
      obtain ⟨g, o, rfl, hc⟩ := HX.out i _ hz
      have c0 : wr.cell? ⟨g, o + i * 3, none⟩ = some (.int .i64 (z1 : Int)) := below_cellU (by have h := hc 0 _ rfl; exact h) HB.out (Nat.le_refl _)
      have c1 : wr.cell? ⟨g, o + i * 3 + 1, none⟩ = some (.string (ba z2)) := below_cellU (by have h := hc 1 _ rfl; exact h) HB.out (Nat.le_refl _)
      have HP := Lib.hid (is_ba z2)
      obtain ⟨p, hp⟩ : ∃ p, ba z2 = p := ⟨_, rfl⟩
      rw [hp] at c1 HP
      have HZ := Eqq.mk hz
      have g1 : (i : Int) < (m : Int) := by omega
      have g2 : (0 : Int) ≤ (i : Int) := by omega
      clear hz hc hp
      by_cases h1 : z1 = y1
      · subst h1
        by_cases h2 : z2 = y2
        · subst h2
          have hpq : p = q := HP.out.eq HQ.out
          subst hpq
          go_wp2_with fail
          go_quiet (fail)
          go_wp2_with fail
          go_ret
          exact ⟨.inr ⟨i, kz, HZ.out, HNO.out, Au.lookS_at HZ.out HNO.out, rfl⟩, by first | exact HBW.out | exact bel_dn HBW.out _ | exact HBW.out.drew⟩
        · have hpq : ¬ p.toList = q.toList := by rw [HP.out.list, HQ.out.list]; exact h2
          have hpq2 : (p.toList == q.toList) = false := by rw [beq_eq_false_iff_ne]; exact hpq
          have HNX := Lib.hid (show ∀ (j : Nat) e, j < i + 1 → L[j]? = some e → e.1 ≠ (z1, y2) from fun j e hj he => by
            rcases Nat.lt_or_ge j i with h | h
            · exact HNO.out j e h he
            · obtain rfl : j = i := by omega
              rw [HZ.out] at he
              injection he with he
              subst he
              intro h'
              injection h' with _ h'
              exact h2 h')
          clear h2
          go_wp2_with fail
          go_quiet (fail)
          go_wp2_with fail
          go_roundw
          case rel => exact ⟨i + 1, by omega, by go_num, HNX.out, by first | exact HB.out | exact bel_dn HB.out _ | exact HB.out.drew⟩
          case measure => simp [intOf]; omega
      · have e1 : ¬ ((z1 : Int) = (y1 : Int)) := by omega
        have e2 : ((z1 : Int) == (y1 : Int)) = false := by rw [beq_eq_false_iff_ne]; exact e1
        have HNX := Lib.hid (show ∀ (j : Nat) e, j < i + 1 → L[j]? = some e → e.1 ≠ (y1, y2) from fun j e hj he => by
          rcases Nat.lt_or_ge j i with h | h
          · exact HNO.out j e h he
          · obtain rfl : j = i := by omega
            rw [HZ.out] at he
            injection he with he
            subst he
            intro h'
            injection h' with h' _
            exact h1 h')
        clear h1
        go_wp2_with fail
        go_quiet (fail)
        go_wp2_with fail
        go_roundw
        case rel => exact ⟨i + 1, by omega, by go_num, HNX.out, by first | exact HB.out | exact bel_dn HB.out _ | exact HB.out.drew⟩
        case measure => simp [intOf]; omega
    · obtain rfl : i = m := by omega
      go_wp2_with fail
      go_ret
      exact ⟨.inl ⟨Au.lookS_no (fun j e he => HNO.out j e (by
        rcases Nat.lt_or_ge j i with h | h
        · exact h
        · rw [List.getElem?_eq_none (by rw [HN.out]; exact h)] at he; cases he) he), rfl⟩, HBW.out⟩
namespace Au
open UT (Bs)
open Ro (Rule)
/-- the keys from 33 on that occur among bytes -/
def keysFrom (bs : Bs) (n : Nat) : Bs := ((List.range n).map fun j => UInt8.ofNat (33 + j)).filter fun c => bs.contains c
theorem keysFrom_succ (bs : Bs) (n : Nat) : keysFrom bs (n + 1) = keysFrom bs n ++ (if bs.contains (UInt8.ofNat (33 + n)) = true then [UInt8.ofNat (33 + n)] else []) := by
  unfold keysFrom
  rw [List.range_succ, List.map_append, List.filter_append, List.map_singleton]
  congr 1
  by_cases h : bs.contains (UInt8.ofNat (33 + n)) = true
  · rw [if_pos h, List.filter_cons, if_pos h]; rfl
  · rw [if_neg h, List.filter_cons, if_neg h]; rfl
theorem keysFrom_len (bs : Bs) (n : Nat) : (keysFrom bs n).length ≤ n := by
  unfold keysFrom
  have := List.length_filter_le (fun c => bs.contains c) ((List.range n).map fun j => UInt8.ofNat (33 + j))
  rwa [List.length_map, List.length_range] at this
theorem keysFrom_mem (bs : Bs) (c : UInt8) : c ∈ keysFrom bs 94 ↔ (isKey c = true ∧ c ∈ bs) := by
  unfold keysFrom
  rw [List.mem_filter, List.mem_map, List.contains_iff_mem]
  constructor
  · rintro ⟨⟨j, hj, rfl⟩, h⟩
    rw [List.mem_range] at hj
    refine ⟨?_, h⟩
    have : (UInt8.ofNat (33 + j)).toNat = 33 + j := by rw [UInt8.toNat_ofNat', Nat.mod_eq_of_lt (by omega)]
    exact isKey_yes (by omega) (by omega)
  · rintro ⟨hk, h⟩
    refine ⟨⟨c.toNat - 33, ?_, ?_⟩, h⟩
    · have := key_byte hk
      rw [List.mem_range]; omega
    · have := key_byte hk
      rw [show 33 + (c.toNat - 33) = c.toNat by omega, UInt8.ofNat_toNat]
theorem used_tries {l : List Rule} (h : Ro.check l = 0) (s : Bs) : Tries l s (fun _ => keysFrom (s ++ bytesOf l) 94) := by
  refine tries_of h (fun x c hc => ((keysFrom_mem _ c).1 hc).1) (fun x c hk hn => ⟨fun r hr hm => ?_, fun hm => ?_⟩)
  · exact hn ((keysFrom_mem _ c).2 ⟨hk, List.mem_append_right _ ((bytes_mem l c).2 ⟨r, hr, hm⟩)⟩)
  · exact hn ((keysFrom_mem _ c).2 ⟨hk, List.mem_append_left _ (List.mem_of_mem_drop hm)⟩)
theorem take_more (l : Bs) (k : Nat) (c : UInt8) (h : l[k]? = some c) : l.take (k + 1) = l.take k ++ [c] := by
  have hk : k < l.length := by
    rcases Nat.lt_or_ge k l.length with h' | h'
    · exact h'
    · rw [List.getElem?_eq_none h'] at h; cases h
  rw [List.getElem?_eq_getElem hk] at h
  injection h with h
  rw [List.take_succ_eq_append_getElem hk, h]
end Au
theorem used_mark {w : World} {N : Nat} {bs : List UInt8} (h : w.rowIs N 56 256 (usedV bs)) (c : UInt8) : (w.setCell ⟨N, c.toNat, none⟩ (.bool true)).rowIs N 56 256 (usedV (bs ++ [c])) :=
  (h.set c.toNat (.bool true)).congr (fun i hi => usedV_set bs c i hi)
set_option maxRecDepth 100000 in
set_option maxHeartbeats 4000000 in
theorem used_any (v : Value) (xs : List RuleB) (s : ByteArray) (l : List UInt8) (w : World) (h : LieR v xs w) (hn : xs.length ≤ 1000000000000) (hz : ∀ r ∈ xs, r.1.size ≤ 1000000000) (hs : Is s l) (hsz : s.size ≤ 1000000000) :
    Calls Tryd.prog 43 #[v, .string s] w fun e w' => (∃ u b1, e = .returned u ∧ OwnG byteE 5 b1 u (Au.keysFrom (l ++ Au.bytesOf (rulesL xs)) 94) w') ∧ Below w.heap.size w w' := by
  have HS := Lib.hid hs
  have HLN := Eqq.mk (show l.length = s.size by rw [hs.size])
  have HZ := Lib.hid hz
  have HLR := Lib.hid h
  obtain ⟨ao, cap, rfl, hcap, hx⟩ := h
  obtain ⟨m, hm⟩ : ∃ m, xs.length = m := ⟨_, rfl⟩
  have HM := Eqq.mk hm
  rw [hm] at hn ⊢
  have HX := Lib.hid hx
  have HU0 := Lib.hid (show (w.alloc (.cells Tryd.zeroCells56 56)).rowIs w.heap.size 56 256 (usedV []) by
    have h4 := World.rowIs_alloc w Tryd.zeroCells56 56 (usedV []) (fun i hi => by
      rw [zc256] at hi ⊢
      rw [Array.size_replicate] at hi
      rw [Array.getElem?_replicate, if_pos hi]; rfl)
    rw [show (256 : Nat) = Tryd.zeroCells56.size by rw [zc256, Array.size_replicate]]
    exact h4)
  have HB0 := Lib.hid ((Below.refl w.heap.size w).alloc (Nat.le_refl _) (.cells Tryd.zeroCells56 56))
  obtain ⟨N, hN⟩ : ∃ N, w.heap.size = N := ⟨_, rfl⟩
  have HNN := Eqq.mk hN
  rw [hN] at HU0 HB0
  clear hs hx hcap hm hz
  go_enter Tryd.func43, Tryd.ntmps43
  go_wp2_with fail
  try rw [hN]
  clear hN
  go_loopw [6] (fun iv wr => ∃ i : Nat, i ≤ s.size ∧ iv = .int .i64 i ∧ wr.rowIs N 56 256 (usedV (l.take i)) ∧ Below N w wr) (fun iv _ => s.size - (intOf iv).toNat)
  case atStart => exact ⟨0, Nat.zero_le _, rfl, HU0.out, HB0.out⟩
  case round =>
    obtain ⟨i, hi, rfl, hu, hb⟩ := hrel
    have HU := Lib.hid hu
    have HB := Lib.hid hb
    have hwN := hu.lt
    clear hu hb
    by_cases hil : i < s.size
    · obtain ⟨x, hx⟩ : ∃ x, s[i]'hil = x := ⟨_, rfl⟩
      have hget := HS.out.get i hil
      rw [hx] at hget
      have HT := Eqq.mk (Au.take_more l i x hget)
      have hx256 : x.toNat < 256 := x.toNat_lt
      have g1 : (x.toNat : Int) < 256 := by omega
      have g2 : (0 : Int) ≤ (x.toNat : Int) := by omega
      have g3 : (0 : Int) ≤ (i : Int) := by omega
      have g5 : (i : Int) < (s.size : Int) := by omega
      have hu1 := HU.out.cell hx256
      have hu2 := HU.out.frozen x.toNat
      have HU2 := Lib.hid (used_mark HU.out x)
      have HB2 := Lib.hid (HB.out.setCell (p := ⟨N, x.toNat, none⟩) (Nat.le_refl _) (.bool true))
      clear hget
      go_wp2_with fail
      go_roundw
      case rel => exact ⟨i + 1, by omega, by go_num, by rw [HT.out]; exact HU2.out, HB2.out⟩
      case measure => simp [intOf]; omega
    · obtain rfl : i = s.size := by omega
      have HU1 := Lib.hid (show wr.rowIs N 56 256 (usedV (l ++ Au.bytesOf (rulesL (xs.take 0)))) by
        rw [List.take_zero, show Au.bytesOf (rulesL []) = [] from rfl, List.append_nil]
        have := HU.out
        rwa [← HLN.out, List.take_length] at this)
      clear hwN
      go_wp2_with fail
      go_loopw [7] (fun iv wr => ∃ k : Nat, k ≤ m ∧ iv = .int .i64 k ∧ wr.rowIs N 56 256 (usedV (l ++ Au.bytesOf (rulesL (xs.take k)))) ∧ Below N w wr) (fun iv _ => m - (intOf iv).toNat)
      case atStart => exact ⟨0, Nat.zero_le _, rfl, HU1.out, HB.out⟩
      case round =>
        obtain ⟨k, hk, rfl, hu, hb⟩ := hrel
        have HU := Lib.hid hu
        have HB := Lib.hid hb
        have hwN := hu.lt
        clear hu hb
        by_cases hkl : k < m
        · obtain ⟨r, hr⟩ : ∃ r, xs[k]? = some r := ⟨_, List.getElem?_eq_getElem (by rw [HM.out]; exact hkl)⟩
          obtain ⟨g, o, rfl, d1, d2, d3⟩ := HX.out k r hr
          have c1 := below_cellU d1 HB.out (by rw [HNN.out]; exact Nat.le_refl _)
          have hz1 := HZ.out r (List.mem_of_getElem? hr)
          have HTL := Eqq.mk (show Au.bytesOf (rulesL (xs.take (k + 1))) = Au.bytesOf (rulesL (xs.take k)) ++ r.1.data.toList by rw [rulesL_take xs k r hr, Au.bytes_snoc]; rfl)
          obtain ⟨r1, r2, r3⟩ := r
          dsimp only at c1 hz1 HTL
          have HR1 := Lib.hid (Is.of r1)
          obtain ⟨rl, hrl⟩ : ∃ rl, r1.data.toList = rl := ⟨_, rfl⟩
          rw [hrl] at HTL HR1
          have HRZ := Eqq.mk (show rl.length = r1.size from (HR1.out.size).symm)
          have g1 : (k : Int) < (m : Int) := by omega
          have g2 : (0 : Int) ≤ (k : Int) := by omega
          obtain ⟨Bz, hBz⟩ : ∃ Bz, Au.bytesOf (rulesL (xs.take k)) = Bz := ⟨_, rfl⟩
          rw [hBz] at HU HTL
          have HC1 := Lib.hid d1
          have HCK := Lib.hid (show g < N from by have h8 := World.block_lt_of_cell? _ _ d1; have h9 := HNN.out; dsimp only at h8; omega)
          have HU3 := Lib.hid (show wr.rowIs N 56 256 (usedV (l ++ Bz ++ rl.take 0)) by rw [List.take_zero, List.append_nil]; exact HU.out)
          clear hr d1 d2 d3 hrl hBz
          go_wp2_with fail
          clear c1
          go_loopw [8] (fun jv wr => ∃ j : Nat, j ≤ r1.size ∧ jv = .int .i64 j ∧ wr.rowIs N 56 256 (usedV (l ++ Bz ++ rl.take j)) ∧ Below N w wr) (fun jv _ => r1.size - (intOf jv).toNat)
          case atStart => exact ⟨0, Nat.zero_le _, rfl, HU3.out, HB.out⟩
          case round =>
            obtain ⟨j, hj, rfl, hu, hb⟩ := hrel
            have HU := Lib.hid hu
            have HB := Lib.hid hb
            have hwN := hu.lt
            have c1 := below_cellU HC1.out hb (by rw [HNN.out]; exact Nat.le_refl _)
            clear hu hb
            by_cases hjl : j < r1.size
            · obtain ⟨x, hx⟩ : ∃ x, r1[j]'hjl = x := ⟨_, rfl⟩
              have hget := HR1.out.get j hjl
              rw [hx] at hget
              have HT := Eqq.mk (Au.take_more rl j x hget)
              have hx256 : x.toNat < 256 := x.toNat_lt
              have e1 : (x.toNat : Int) < 256 := by omega
              have e2 : (0 : Int) ≤ (x.toNat : Int) := by omega
              have e3 : (0 : Int) ≤ (j : Int) := by omega
              have e5 : (j : Int) < (r1.size : Int) := by omega
              have hu1 := HU.out.cell hx256
              have hu2 := HU.out.frozen x.toNat
              have HU2 := Lib.hid (used_mark HU.out x)
              have HB2 := Lib.hid (HB.out.setCell (p := ⟨N, x.toNat, none⟩) (Nat.le_refl _) (.bool true))
              clear hget
              go_wp2_with fail
              go_roundw
              case rel => exact ⟨j + 1, by omega, by go_num, by rw [HT.out, ← List.append_assoc]; exact HU2.out, HB2.out⟩
              case measure => simp [intOf]; omega
            · obtain rfl : j = r1.size := by omega
              have HU4 := Lib.hid (show wr.rowIs N 56 256 (usedV (l ++ Au.bytesOf (rulesL (xs.take (k + 1))))) by
                rw [HTL.out, ← List.append_assoc]
                have := HU.out
                rwa [← HRZ.out, List.take_length] at this)
              go_wp2_with fail
              go_roundw
              case rel => exact ⟨k + 1, by omega, by go_num, HU4.out, HB.out⟩
              case measure => simp [intOf]; omega
        · obtain rfl : k = m := by omega
          have HU5 := Lib.hid (show wr.rowIs N 56 256 (usedV (l ++ Au.bytesOf (rulesL xs))) by
            have := HU.out
            rwa [← HM.out, List.take_length] at this)
          obtain ⟨bs, hbs⟩ : ∃ bs, l ++ Au.bytesOf (rulesL xs) = bs := ⟨_, rfl⟩
          have HBS := Eqq.mk hbs
          rw [hbs] at HU5
          clear hbs HU
          go_wp2_with fail
          go_loopw [9, 10] (fun ov iv wr => ∃ i : Nat, i ≤ 94 ∧ iv = .int .i64 ((33 + i : Nat) : Int) ∧ OwnG byteE 5 (N + 1) ov (Au.keysFrom bs i) wr ∧ wr.rowIs N 56 256 (usedV bs) ∧ Below N w wr) (fun _ iv _ => 127 - (intOf iv).toNat)
          case atStart => exact ⟨0, Nat.zero_le _, rfl, OwnG.nil _ _ _, HU5.out, HB.out⟩
          case round =>
            obtain ⟨i, hi, rfl, ho, hu, hb⟩ := hrel
            have HO := Lib.hid ho
            have HU := Lib.hid hu
            have HB := Lib.hid hb
            have hwN := hu.lt
            clear ho hu hb
            by_cases hil : i < 94
            · have HUS := Eqq.mk (Au.keysFrom_succ bs i)
              have hlen := Au.keysFrom_len bs i
              obtain ⟨ci, hci⟩ : ∃ ci, 33 + i = ci := ⟨_, rfl⟩
              have hci2 : ci < 256 := by omega
              have q1 : (ci : Int) ≤ 126 := by omega
              have q2 : (ci : Int) < 256 := by omega
              have q3 : (0 : Int) ≤ (ci : Int) := by omega
              have hu1 := HU.out.cell hci2
              unfold usedV at hu1
              rw [hci] at HUS ⊢
              obtain ⟨u, hu⟩ : ∃ u, bs.contains (UInt8.ofNat ci) = u := ⟨_, rfl⟩
              have HUU := Eqq.mk hu
              rw [hu] at hu1
              have HCI := Eqq.mk hci
              clear hu hci
              cases u
              · have HUK := Eqq.mk (show Au.keysFrom bs (i + 1) = Au.keysFrom bs i by rw [HUS.out, HUU.out, if_neg (by simp), List.append_nil])
                go_wp2_with fail
                go_roundw
                case rel => exact ⟨i + 1, by omega, by have := HCI.out; rw [show 33 + (i + 1) = ci + 1 by omega]; go_num, by rw [HUK.out]; exact HO.out, HU.out, HB.out⟩
                case measure => simp [intOf]; omega
              · have HUK := Eqq.mk (show Au.keysFrom bs (i + 1) = Au.keysFrom bs i ++ [UInt8.ofNat ci] by rw [HUS.out, HUU.out, if_pos rfl])
                have hw8 : IntKind.u8.wrap (ci : Int) = (ci : Int) := by simp [IntKind.wrap, IntKind.bits, IntKind.signed]; omega
                have hcc : ((UInt8.ofNat ci).toNat : Int) = (ci : Int) := by rw [UInt8.toNat_ofNat', Nat.mod_eq_of_lt hci2]
                have HSR := Lib.hid (show SrcG byteE (.slice (some ⟨wr.heap.size, 0, none⟩) 1 1) [UInt8.ofNat ci] (wr.alloc (.cells #[.int .u8 (ci : Int)] 5)) from
                  SrcG.one (fun j u hu => by
                    have hu' : ([Value.int .u8 ((UInt8.ofNat ci).toNat : Int)] : List Value)[j]? = some u := hu
                    rw [hcc] at hu'
                    exact new_cells wr [.int .u8 (ci : Int)] 5 j u hu'))
                obtain ⟨ao2, cap2, rfl⟩ := HO.out.frame
                clear hcc
                go_wp2_with (at_builtin; refine wpList_append_g bytesApp _ rfl _ _ rfl (N + 1) _ _ rfl (HO.out.alloc _) _ [UInt8.ofNat ci] rfl HSR.out (by simp; unfold maxLen; omega) (by show (_ + 1) * 1 ≤ _; omega) (by simp; omega) ?_)
                intro v' w' ho' hg'
                have HO2 := Lib.hid ho'
                have HU2 := Lib.hid ((HU.out.alloc (.cells #[.int .u8 (ci : Int)] 5)).of_block (hg'.block N (by simp; omega) (fun e => by have := (HO.out.block_lt _ e.symm).1; omega)))
                have HB2 := Lib.hid ((HB.out.alloc (by have := HB.out.size; have := HNN.out; omega) (.cells #[.int .u8 (ci : Int)] 5)).grown hg' (by have := HB.out.size; have := HNN.out; simp; omega) (fun b hb => by have := (HO.out.block_lt b hb).1; omega))
                obtain ⟨ao3, cap3, hv3⟩ := ho'.frame
                rw [List.length_append, List.length_singleton] at hv3
                subst hv3
                clear ho' hg'
                go_wp2_with fail
                go_roundw
                case rel => exact ⟨i + 1, by omega, by have := HCI.out; rw [show 33 + (i + 1) = ci + 1 by omega]; go_num, by rw [HUK.out]; exact HO2.out, HU2.out, HB2.out⟩
                case measure => simp [intOf]; omega
            · obtain rfl : i = 94 := by omega
              go_wp2_with fail
              go_ret
              exact ⟨⟨_, _, rfl, by rw [HBS.out]; exact HO.out⟩, by rw [HNN.out]; exact HB.out⟩
end Go.Proofs.YtdcpiabmgjajlaaDoor
