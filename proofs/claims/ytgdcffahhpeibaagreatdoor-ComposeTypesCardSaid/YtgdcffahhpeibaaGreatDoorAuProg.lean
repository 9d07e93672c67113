/-
  auto.isKey, clean, resolve, feed, Step, Run, Flush by their contracts, over an automaton in memory. The rules are allowed; the strings short.
-/
import Derived.Test.YtgdcffahhpeibaaGreatDoorAuRef
import Derived.Test.YtgdcffahhpeibaaGreatDoorGList
namespace Go.Proofs.YtgdcffahhpeibaaGreatDoor
open Go.RowKit
/-- what an automaton's two maps hold -/
def rulesF (xs : List RuleB) : Value → Option Value
  | .string s => (xs.find? (fun r => r.1.data.toList == s.data.toList)).map ruleV
  | _ => none
def partsF (xs : List RuleB) : Value → Option Value
  | .string s => if Ro.longer (rulesL xs) s.data.toList = true then some (.bool true) else none
  | _ => none
/-- bytes, a cell each -/
def byteE : Enc UInt8 where
  k := 1
  enc := fun c => [.int .u8 (c.toNat : Int)]
  pos := by decide
  len := fun _ => rfl
  one := fun c u hu => by simp at hu; subst hu; rfl
/-- the keys of rules: each key that a rule has, and no other -/
def KeysOfR (xs : List RuleB) (ks : List UInt8) : Prop := ks.length ≤ 256 ∧ ∀ c, c ∈ ks ↔ ∃ r ∈ rulesL xs, c ∈ r.1
/-- block a is an automaton of the rules xs; all that it holds lies below B -/
structure AutoIs (B : Nat) (xs : List RuleB) (a : Nat) (w : World) : Prop where
  la : a < B
  ok : Ro.check (rulesL xs) = 0
  ex : ∃ mr mp kv ks, mr < B ∧ mp < B ∧ w.cell? ⟨a, 0, none⟩ = some (.map (some mr)) ∧ w.cell? ⟨a, 1, none⟩ = some (.map (some mp)) ∧ w.cell? ⟨a, 2, none⟩ = some kv ∧
    MapIs Tryz.prog 9 mr 1000 (rulesF xs) w ∧ MapIs Tryz.prog 9 mp 10000 (partsF xs) w ∧ KeysOfR xs ks ∧ (∃ b0, OwnG byteE 5 b0 kv ks w) ∧ (∀ b, kv.ownBlock = some b → b < B)
theorem OwnG.belowB {α : Type} {E : Enc α} {T : TypeId} {B B2 : Nat} {v : Value} {xs : List α} {w w' : World} (h : OwnG E T B v xs w) (hb : Below B2 w w') (hB : ∀ b, v.ownBlock = some b → b < B2) : OwnG E T B v xs w' := by
  obtain ⟨h1, h2 | ⟨g, cap, cur, hv, hB', hg, r⟩⟩ := h
  · exact ⟨h1, .inl h2⟩
  · exact ⟨h1, .inr ⟨g, cap, cur, hv, hB', by rw [hb.block g (hB g (by rw [hv]; rfl))]; exact hg, r⟩⟩
theorem AutoIs.below {B : Nat} {xs : List RuleB} {a : Nat} {w w' : World} (h : AutoIs B xs a w) (hb : Below B w w') : AutoIs B xs a w' := by
  obtain ⟨la, ok, mr, mp, kv, ks, h1, h2, c0, c1, c2, m1, m2, k1, ⟨b0, k2⟩, k3⟩ := h
  exact ⟨la, ok, mr, mp, kv, ks, h1, h2, (hb.cell (p := ⟨a, 0, none⟩) la).trans c0, (hb.cell (p := ⟨a, 1, none⟩) la).trans c1, (hb.cell (p := ⟨a, 2, none⟩) la).trans c2, m1.below hb h1, m2.below hb h2, k1, ⟨b0, k2.belowB hb k3⟩, k3⟩
theorem AutoIs.mono {B B2 : Nat} {xs : List RuleB} {a : Nat} {w : World} (h : AutoIs B xs a w) (hB : B ≤ B2) : AutoIs B2 xs a w := by
  obtain ⟨la, ok, mr, mp, kv, ks, h1, h2, c0, c1, c2, m1, m2, k1, k2, k3⟩ := h
  exact ⟨Nat.lt_of_lt_of_le la hB, ok, mr, mp, kv, ks, Nat.lt_of_lt_of_le h1 hB, Nat.lt_of_lt_of_le h2 hB, c0, c1, c2, m1, m2, k1, k2, fun b hb => Nat.lt_of_lt_of_le (k3 b hb) hB⟩
theorem rulesF_get (xs : List RuleB) (s : ByteArray) (l : List UInt8) (h : Is s l) : (∃ r, r ∈ xs ∧ Ro.find (rulesL xs) l = some (ruleL r) ∧ rulesF xs (.string s) = some (ruleV r)) ∨ (Ro.find (rulesL xs) l = none ∧ rulesF xs (.string s) = none) := by
  have e := h.data
  rw [found_find]
  unfold rulesF
  dsimp only
  rw [e]
  cases hf : xs.find? (fun r => r.1.data.toList == l) with
  | none => exact .inr ⟨rfl, rfl⟩
  | some r => exact .inl ⟨r, List.mem_of_find?_eq_some hf, rfl, rfl⟩
theorem partsF_get (xs : List RuleB) (s : ByteArray) (l : List UInt8) (h : Is s l) : (partsF xs (.string s)).getD (.bool false) = .bool (Ro.longer (rulesL xs) l) := by
  unfold partsF
  dsimp only
  rw [h.data]
  cases Ro.longer (rulesL xs) l <;> rfl
set_option maxRecDepth 100000 in
theorem isKey_any (c : UInt8) (z : Int) (hz : z = (c.toNat : Int)) (w : World) :
    Calls Tryz.prog 82 #[.int .u8 z] w fun e w' => e = .returned (.bool (Au.isKey c)) ∧ w = w' := by
  by_cases h1 : 33 ≤ c.toNat
  · have g1 : (32 : Int) < z := by omega
    by_cases h2 : c.toNat ≤ 126
    · have g2 : z ≤ 126 := by omega
      have HR := Eqq.mk (Au.isKey_yes h1 h2)
      clear h1 h2 hz
      go_enter Tryz.func82, Tryz.ntmps82
      go_wp2_with fail
      go_ret
      exact ⟨by rw [HR.out]; rfl, rfl⟩
    · have g2 : ¬ (z ≤ 126) := by omega
      have HR := Eqq.mk (Au.isKey_no (c := c) (.inr (by omega)))
      clear h1 h2 hz
      go_enter Tryz.func82, Tryz.ntmps82
      go_wp2_with fail
      go_ret
      exact ⟨by rw [HR.out]; rfl, rfl⟩
  · have g1 : ¬ ((32 : Int) < z) := by omega
    have HR := Eqq.mk (Au.isKey_no (c := c) (.inl (by omega)))
    clear h1 hz
    go_enter Tryz.func82, Tryz.ntmps82
    go_wp2_with fail
    go_ret
    exact ⟨by rw [HR.out]; rfl, rfl⟩
set_option maxRecDepth 100000 in
set_option maxHeartbeats 4000000 in
theorem clean_any (s : ByteArray) (l : List UInt8) (w : World) (h : Is s l) (hs : s.size ≤ 1000000000) :
    Calls Tryz.prog 68 #[.string s] w fun e w' => e = .returned (.string (ba (Au.keysOf l))) ∧ Below w.heap.size w w' := by
  have HI := Lib.hid h
  obtain ⟨n, hn⟩ : ∃ n, s.size = n := ⟨_, rfl⟩
  have HN := Eqq.mk hn
  have HLN := Eqq.mk (show l.length = n by rw [← hn, h.size])
  rw [hn] at hs
  have HKL := Lib.hid (show ∀ k, (Au.keysOf (l.take k)).length ≤ 1000000000 from fun k => by
    have h1 := Au.keysOf_len (l.take k)
    rw [List.length_take] at h1
    have := HLN.out
    omega)
  clear h
  go_enter Tryz.func68, Tryz.ntmps68
  go_wp2_with fail
  go_loopw [7] (fun iv wr => ∃ k : Nat, k ≤ n ∧ iv = .int .i64 k ∧ Bldr w.heap.size w.heap.size (Au.keysOf (l.take k)) wr ∧ Below w.heap.size w wr ∧ w.heap.size < wr.heap.size) (fun iv _ => n - (intOf iv).toNat)
  case atStart => exact ⟨0, Nat.zero_le _, rfl, Lib.IsBuilderF.of (Lib.fresh_isBuilder 120 5 w), (Below.refl _ _).alloc (Nat.le_refl _) _, by simp⟩
  case round =>
    obtain ⟨k, hk, rfl, hI, hb, hlt1⟩ := hrel
    have HBl := Lib.hid hI
    have HB := Lib.hid hb
    have hsw := hb.size
    clear hI hb
    by_cases hlt : k < n
    · have hlt' : k < s.size := by rw [hn]; exact hlt
      have hget := HI.out.get k hlt'
      have HT := Eqq.mk (Au.keysOf_take l k _ hget)
      obtain ⟨x, hx⟩ : ∃ x, s[k]'hlt' = x := ⟨_, rfl⟩
      rw [hx] at HT
      have hz := HKL.out k
      obtain ⟨b, hb⟩ : ∃ b, Au.isKey x = b := ⟨_, rfl⟩
      have HBB := Eqq.mk hb
      clear hget hb
      cases b
      · have HN2 := Eqq.mk (show Au.keysOf (l.take (k + 1)) = Au.keysOf (l.take k) by rw [HT.out, HBB.out, if_neg (by simp)])
        go_wp2_with fail
        with_reducible refine (isKey_any x _ rfl _).mono ?_
        rw [HBB.out]
        rintro e w2 ⟨rfl, rfl⟩
        go_wp2_with fail
        go_roundw
        case rel => exact ⟨k + 1, by omega, by go_num, by rw [HN2.out]; exact HBl.out, HB.out, hlt1⟩
        case measure => simp [intOf]; omega
      · have HN2 := Eqq.mk (show Au.keysOf (l.take (k + 1)) = Au.keysOf (l.take k) ++ [x] by rw [HT.out, HBB.out, if_pos rfl])
        go_wp2_with fail
        with_reducible refine (isKey_any x _ rfl _).mono ?_
        rw [HBB.out]
        rintro e w2 ⟨rfl, rfl⟩
        go_wp2_with fail
        with_reducible refine (write_byte w.heap.size w.heap.size _ x _ HBl.out (by omega) hsw).mono ?_
        rintro e w3 ⟨rfl, hI, hb⟩
        have HBl2 := Lib.hid hI
        have HB2 := Lib.hid (HB.out.trans hb.1)
        have hlt2 : w.heap.size < w3.heap.size := Nat.lt_of_lt_of_le hlt1 hb.1.size
        clear hI hb
        go_wp2_with fail
        go_roundw
        case rel => exact ⟨k + 1, by omega, by go_num, by rw [HN2.out]; exact HBl2.out, HB2.out, hlt2⟩
        case measure => simp [intOf]; omega
    · obtain rfl : k = n := by omega
      have HF := Eqq.mk (show Au.keysOf (l.take k) = Au.keysOf l by rw [← HLN.out, List.take_length])
      go_wp2_with fail
      with_reducible refine (bld_string w.heap.size w.heap.size _ _ HBl.out hsw).mono ?_
      rw [HF.out]
      rintro e w3 ⟨rfl, hI, hb⟩
      have HB2 := Lib.hid (HB.out.trans hb.1)
      clear hI hb
      go_wp2_with fail
      go_ret
      exact ⟨rfl, HB2.out⟩
theorem bldrAt_keep {T e : TypeId} {B b : Nat} {p : Value} {bs : List Value} {w w' : World} (h : Lib.BuilderAtF T e B b p bs w) (hb : Below w.heap.size w w') : Lib.BuilderAtF T e B b p bs w' := by
  obtain ⟨hB, v, hbk, ⟨h1, h2⟩, hne⟩ := h
  refine ⟨hB, v, by rw [hb.block _ (heap_lt hbk)]; exact hbk, ⟨h1, ?_⟩, hne⟩
  rcases h2 with h2 | ⟨g, cap, cur, fz, hv, hg1, hg2, r⟩
  · exact .inl h2
  · exact .inr ⟨g, cap, cur, fz, hv, hg1, by rw [hb.block _ (heap_lt hg2)]; exact hg2, r⟩
theorem bldr_keep {B b : Nat} {l : List UInt8} {w w' : World} (h : Bldr B b l w) (hb : Below w.heap.size w w') : Bldr B b l w' :=
  h.elim (fun x => .inl (bldrAt_keep x hb)) (fun x => .inr (bldrAt_keep x hb))
theorem begin_mem {xs : List RuleB} {l : List UInt8} {r : RuleB} (h : Au.begin (rulesL xs) l = some (ruleL r)) : r.1.size ≤ l.length ∧ r ∈ xs := by
  obtain ⟨h1, h2, h3, h4⟩ := Au.begin_some h
  refine ⟨by rw [(Is.of r.1).size]; exact h3, ?_⟩
  obtain ⟨x, hx, he⟩ := List.mem_map.1 h1
  rw [← ruleL_inj he]; exact hx
/-- block b holds the rule r -/
def RBx (b : Nat) (r : RuleB) (w : World) : Prop := w.heap[b]? = some (.cells #[.string r.1, .string r.2.1, .string r.2.2] 87)
theorem RBx.new (w : World) (r1 r2 r3 : ByteArray) : RBx w.heap.size (r1, r2, r3) (w.alloc (.cells #[.string r1, .string r2, .string r3] 87)) := (MapKept.heap_alloc w _).1
theorem RBx.c0 {b : Nat} {r : RuleB} {w : World} (h : RBx b r w) : w.cell? ⟨b, 0, none⟩ = some (.string r.1) := by rw [Lib.cell_of_heap h]; rfl
theorem RBx.c1 {b : Nat} {r : RuleB} {w : World} (h : RBx b r w) : w.cell? ⟨b, 1, none⟩ = some (.string r.2.1) := by rw [Lib.cell_of_heap h]; rfl
theorem RBx.c2 {b : Nat} {r : RuleB} {w : World} (h : RBx b r w) : w.cell? ⟨b, 2, none⟩ = some (.string r.2.2) := by rw [Lib.cell_of_heap h]; rfl
theorem RBx.kept {b c : Nat} {r : RuleB} {w w' : World} (h : RBx b r w) (hk : Lib.OthersKept 5 (some c) w w') (hne : b ≠ c) : RBx b r w' :=
  hk b _ h (fun e => hne (Option.some.inj e)) (fun _ _ e => by injection e with _ e; exact absurd e (by decide))
theorem Bldr.lt {B b : Nat} {l : List UInt8} {w : World} (h : Bldr B b l w) : b < w.heap.size := h.elim (fun x => x.lt) (fun x => x.lt)
set_option maxRecDepth 100000 in
set_option maxHeartbeats 4000000 in
theorem resolve_any (B a b : Nat) (xs : List RuleB) (acc : List UInt8) (s : ByteArray) (l : List UInt8) (w : World) (ha : AutoIs B xs a w) (hI : Bldr B b acc w) (hBw : B ≤ w.heap.size) (h : Is s l) (hl : l ≠ []) (hs : s.size ≤ 1000000000000) (hacc : acc.length ≤ 100000000000000) :
    Calls Tryz.prog 92 #[.pointer (some ⟨a, 0, none⟩), .pointer (some ⟨b, 0, none⟩), .string s] w fun e w' => e = .returned (.string (ba (Au.apply (rulesL xs) l).2)) ∧ Bldr B b (acc ++ (Au.apply (rulesL xs) l).1) w' ∧ Below B w w' := by
  have HI := Lib.hid h
  have HLN := Eqq.mk (show l.length = s.size by rw [h.size])
  have hpos : 0 < s.size := by rw [h.size]; exact List.length_pos_iff.2 hl
  have HBl0 := Lib.hid hI
  have HA0 := Lib.hid ha
  have hok := ha.ok
  have HOK := Eqq.mk hok
  obtain ⟨x0, hx0⟩ : ∃ x, s[0]'hpos = x := ⟨_, rfl⟩
  have HX0 := Eqq.mk (show l.take 1 = [x0] by
    have hg := h.get 0 hpos
    rw [hx0] at hg
    cases l with
    | nil => exact absurd rfl hl
    | cons c l => injection hg with hg; rw [hg]; rfl)
  clear h ha hok hI hl
  go_enter Tryz.func92, Tryz.ntmps92
  go_wp2_with fail
  go_loopw [7] (fun iv wr => ∃ k : Nat, k ≤ s.size ∧ iv = .int .i64 k ∧ Eqq (Au.begin (rulesL xs) l) (Au.beginN (rulesL xs) l k) ∧ Bldr B b acc wr ∧ AutoIs B xs a wr ∧ Below B w wr) (fun iv _ => (intOf iv).toNat)
  case atStart => exact ⟨s.size, Nat.le_refl _, rfl, ⟨by unfold Au.begin; rw [HLN.out]⟩, HBl0.out, HA0.out, Below.refl _ _⟩
  case round =>
    obtain ⟨k, hk, rfl, HE, hbl, hau, hb⟩ := hrel
    have HB := Lib.hid hb
    have HBl := Lib.hid hbl
    have HA := Lib.hid hau
    have hsw : B ≤ wr.heap.size := Nat.le_trans hBw hb.size
    clear hb hbl hau
    cases k with
    | zero =>
      have HZ := Eqq.mk (show Au.apply (rulesL xs) l = ([x0], l.drop 1) by rw [Au.apply_miss (by rw [HE.out]; rfl), HX0.out])
      have HFR := Lib.hid (HI.out.from 1)
      obtain ⟨y, hy⟩ : ∃ y, s.extract 1 s.size = y := ⟨_, rfl⟩
      rw [hy] at HFR
      go_wp2_with fail
      with_reducible refine (write_byte B b acc x0 _ HBl.out (by omega) hsw).mono ?_
      rintro e w3 ⟨rfl, hI, hb⟩
      have HBl2 := Lib.hid hI
      have HB2 := Lib.hid (HB.out.trans hb.1)
      clear hI hb
      go_wp2_with fail
      go_ret
      exact ⟨by rw [HZ.out, HFR.out.ba]; rfl, by rw [HZ.out]; exact HBl2.out, HB2.out⟩
    | succ k =>
      have hz' : (0 : Int) < ((k + 1 : Nat) : Int) := by omega
      have hz'' : (0 : Int) < (k : Int) + 1 := by omega
      have hk2 : ((k + 1 : Nat) : Int) ≤ (s.size : Int) := by omega
      have hk3 : (k : Int) + 1 ≤ (s.size : Int) := by omega
      have hk4 : (0 : Int) ≤ ((k + 1 : Nat) : Int) := by omega
      have hk5 : (0 : Int) ≤ (k : Int) + 1 := by omega
      have HIU := Lib.hid (HI.out.upto (k + 1))
      obtain ⟨y, hy⟩ : ∃ y, s.extract 0 (k + 1) = y := ⟨_, rfl⟩
      rw [hy] at HIU
      obtain ⟨la, _, mr, mp, kv, ks, h1, h2, c0, c1, c2, m1, m2, k1, k2, k3⟩ := HA.out
      have HM := Lib.hid m1
      clear m1 m2 k1 k2 k3 c1 c2
      have hyz : y.size ≤ 9223372036854775807 := by rw [HIU.out.size, List.length_take]; have := HLN.out; omega
      have zR : ∀ W : World, (zeroValue 87).run Tryz.prog W = .ok (ruleV (⟨#[]⟩, ⟨#[]⟩, ⟨#[]⟩)) W := fun W => by kernel_rfl
      rcases rulesF_get xs y _ HIU.out with ⟨r, hr, hf, hv⟩ | ⟨hf, hv⟩
      · have hbg : Au.begin (rulesL xs) l = some (ruleL r) := by rw [HE.out]; exact Au.beginN_hit _ _ _ _ hf
        obtain ⟨z1, z2, z3, z4⟩ := rule_of HOK.out hr
        have hr1 : r.1.size = k + 1 := by
          rw [(Is.of r.1).size]
          have := (Au.find_some hf).2
          have h2 : r.1.data.toList = l.take (k + 1) := this
          rw [h2, List.length_take]
          have := HLN.out
          omega
        have HAP := Lib.hid (app_is HI.out hbg)
        rw [hr1] at HAP
        have HKP := Lib.hid (fun (W : World) (hW : Below wr.heap.size wr W) => (show W.cell? ⟨a, 0, none⟩ = some (.map (some mr)) ∧ (Instr.lookup 81 (.map (some mr)) (.string y) true).run Tryz.prog W = .ok (.tuple #[ruleV r, .bool true]) W ∧ Below wr.heap.size wr W from
          ⟨below_cellU c0 hW (Nat.le_refl _), by
            have h := (HM.out.keep hW).look_ok keyStr Tryz.underlying81 (zR W) (WideMaps.keyOf_string_mk Tryz.underlying9 (show y.size ≤ maxLen from hyz))
            rw [hv] at h
            exact h, hW⟩))
        obtain ⟨r1, r2, r3⟩ := r
        dsimp only at z1 z2 z3 z4 HAP
        obtain ⟨q, hq⟩ : ∃ q, s.extract (k + 1) s.size = q := ⟨_, rfl⟩
        have hqz : q.size ≤ 1000000000000 := by rw [← hq]; simp; omega
        rw [hq] at HAP
        have hcat : r3.size + q.size ≤ 9223372036854775807 := by omega
        clear hf hv hr hbg zR c0 hr1
        go_wp2_with fail
        go_region_held3 (fun W => W.cell? ⟨a, 0, none⟩ = some (.map (some mr)) ∧ (Instr.lookup 81 (.map (some mr)) (.string y) true).run Tryz.prog W = .ok (.tuple #[ruleV (r1, r2, r3), .bool true]) W ∧ Below wr.heap.size wr W)
          (first | exact HKP.out _ (Below.refl _ _) | exact HKP.out _ (Below.refl _ _).drew | exact HKP.out _ ((Below.refl _ _).drew.alloc (Nat.le_refl _) _) | exact HKP.out _ ((Below.refl _ _).alloc (Nat.le_refl _) _).drew)
          (first | fail)
        all_goals
          (rename_i hHeld
           have HWB := Lib.hid hHeld.2.2
           clear hHeld
           have HBl1 := Lib.hid (bldr_keep HBl.out HWB.out)
           have hsz1 := HWB.out.size
           have hlt := Bldr.lt HBl.out
           go_wp2_with fail
           with_reducible refine (write_string B b acc r2 _ HBl1.out (by omega) (Nat.le_trans hsw hsz1)).mono ?_
           rintro e w3 ⟨rfl, hI, hb⟩
           have HBl2 := Lib.hid hI
           have HB3 := Lib.hid ((HB.out.trans (HWB.out.mono hsw)).trans hb.1)
           have HR3 := Lib.hid (RBx.kept (show RBx wr.heap.size (r1, r2, r3) _ from RBx.new wr r1 r2 r3) hb.2 (by omega))
           have d0 := HR3.out.c0
           have d1 := HR3.out.c1
           have d2 := HR3.out.c2
           dsimp only at d0 d1 d2
           clear hI hb hsz1
           have HX1 := Eqq.mk HAP.out.1.data
           have HX2 := Eqq.mk HAP.out.2.ba
           go_wp2_with fail
           go_quiet (fail)
           go_wp2_with fail
           go_ret
           exact ⟨by rw [← HX2.out]; rfl, by rw [← HX1.out]; exact HBl2.out, by first | exact HB3.out | exact bel_dn HB3.out _ | exact HB3.out.drew⟩)
      · have HF := Eqq.mk (show Au.begin (rulesL xs) l = Au.beginN (rulesL xs) l k by rw [HE.out]; exact Au.beginN_step _ _ _ hf)
        have HKP := Lib.hid (fun (W : World) (hW : Below wr.heap.size wr W) => (show W.cell? ⟨a, 0, none⟩ = some (.map (some mr)) ∧ (Instr.lookup 81 (.map (some mr)) (.string y) true).run Tryz.prog W = .ok (.tuple #[ruleV (⟨#[]⟩, ⟨#[]⟩, ⟨#[]⟩), .bool false]) W ∧ Below wr.heap.size wr W from
          ⟨below_cellU c0 hW (Nat.le_refl _), by
            have h := (HM.out.keep hW).look_ok keyStr Tryz.underlying81 (zR W) (WideMaps.keyOf_string_mk Tryz.underlying9 (show y.size ≤ maxLen from hyz))
            rw [hv] at h
            exact h, hW⟩))
        clear hf hv zR c0
        go_wp2_with fail
        go_region_held3 (fun W => W.cell? ⟨a, 0, none⟩ = some (.map (some mr)) ∧ (Instr.lookup 81 (.map (some mr)) (.string y) true).run Tryz.prog W = .ok (.tuple #[ruleV (⟨#[]⟩, ⟨#[]⟩, ⟨#[]⟩), .bool false]) W ∧ Below wr.heap.size wr W)
          (first | exact HKP.out _ (Below.refl _ _) | exact HKP.out _ (Below.refl _ _).drew | exact HKP.out _ ((Below.refl _ _).drew.alloc (Nat.le_refl _) _))
          (first | fail)
        all_goals
          (rename_i hHeld
           have HWB := Lib.hid hHeld.2.2
           clear hHeld
           go_wp2_with fail
           go_roundw
           case rel => exact ⟨k, by omega, (by first | rfl | go_num), HF, bldr_keep HBl.out HWB.out, HA.out.below (HWB.out.mono hsw), HB.out.trans (HWB.out.mono hsw)⟩
           case measure => simp [intOf])
set_option maxRecDepth 100000 in
set_option maxHeartbeats 4000000 in
theorem feed_any (B a b : Nat) (xs : List RuleB) (acc : List UInt8) (p k : ByteArray) (pl kl : List UInt8) (w : World) (ha : AutoIs B xs a w) (hI : Bldr B b acc w) (hBw : B ≤ w.heap.size) (hp : Is p pl) (hk : Is k kl) (hs : pl.length + kl.length ≤ 1000000000) (hacc : acc.length ≤ 10000000000000) :
    Calls Tryz.prog 67 #[.pointer (some ⟨a, 0, none⟩), .pointer (some ⟨b, 0, none⟩), .string p, .string k] w fun e w' => e = .returned (.string (ba (Au.feed (rulesL xs) pl kl).2)) ∧ Bldr B b (acc ++ (Au.feed (rulesL xs) pl kl).1) w' ∧ Below B w w' := by
  have HP := Lib.hid hp
  have HK := Lib.hid hk
  have HBl0 := Lib.hid hI
  have HA0 := Lib.hid ha
  have HOK := Eqq.mk ha.ok
  clear hp hk ha hI
  go_enter Tryz.func67, Tryz.ntmps67
  go_wp2_with fail
  go_loopw [2, 3] (fun pv kv wr => ∃ (p0 k0 : ByteArray) (p1 k1 o1 : List UInt8), pv = .string p0 ∧ kv = .string k0 ∧ Is p0 p1 ∧ Is k0 k1 ∧ Au.FeedInv (rulesL xs) pl kl p1 k1 o1 ∧ Bldr B b (acc ++ o1) wr ∧ AutoIs B xs a wr ∧ Below B w wr) (fun pv kv _ => Au.fuel (strB pv) (strB kv))
  case atStart => exact ⟨p, k, pl, kl, [], rfl, rfl, HP.out, HK.out, Au.FeedInv.start _ _ _, by rw [List.append_nil]; exact HBl0.out, HA0.out, Below.refl _ _⟩
  case round =>
    obtain ⟨p0, k0, p1, k1, o1, rfl, rfl, hp0, hk0, hi, hbl, hau, hb⟩ := hrel
    have HB := Lib.hid hb
    have HP0 := Lib.hid hp0
    have HK0 := Lib.hid hk0
    have HIN := Lib.hid hi
    have HBl := Lib.hid hbl
    have HA := Lib.hid hau
    have hsw : B ≤ wr.heap.size := Nat.le_trans hBw hb.size
    have hlen := hi.len
    have q1 := hp0.size
    have q2 := hk0.size
    have b1 : p0.size ≤ 1000000000 := by omega
    have b2 : k0.size ≤ 1000000000 := by omega
    have b3 : o1.length ≤ 16000000000 := by omega
    clear hb hp0 hk0 hi q1 q2 hlen hbl hau
    cases k1 with
    | nil =>
      have hk0 : k0 = ⟨#[]⟩ := HK0.out.eq (Is.mk [])
      subst hk0
      have HR := Eqq.mk HIN.out.done
      go_wp2_with fail
      go_ret
      exact ⟨by rw [HR.out, HP0.out.ba]; rfl, by rw [HR.out]; exact HBl.out, HB.out⟩
    | cons c ks =>
      obtain ⟨n1, n2, n3, n4, n5⟩ := notEmpty HK0.out (by simp)
      have H1 := Lib.hid (HK0.out.cell 0 c rfl)
      have H2 := Lib.hid (HK0.out.from 1)
      obtain ⟨y1, hy1⟩ : ∃ y, k0.extract 0 1 = y := ⟨_, rfl⟩
      obtain ⟨y2, hy2⟩ : ∃ y, k0.extract 1 k0.size = y := ⟨_, rfl⟩
      rw [hy1] at H1
      rw [hy2] at H2
      have z1 : y1.size ≤ 1 := by rw [H1.out.size]; simp
      have z2 : y2.size ≤ 1000000000 := by rw [← hy2]; simp; omega
      have i1 : (1 : Int) ≤ (k0.size : Int) := by omega
      have i2 : 1 ≤ k0.size := n5
      have HS := Lib.hid (HP0.out.append H1.out)
      obtain ⟨S, hS⟩ : ∃ S, p0 ++ y1 = S := ⟨_, rfl⟩
      rw [hS] at HS
      have hSz : S.size ≤ 1000000001 := by rw [← hS, ByteArray.size_append]; omega
      have hc1 : p0.size + y1.size ≤ 9223372036854775807 := by omega
      obtain ⟨la, _, mr, mp, kv, kk, h1, h2, c0, c1, c2, m1, m2, k1', k2', k3'⟩ := HA.out
      have HM := Lib.hid m2
      clear m1 m2 k1' k2' k3' c0 c2 h1
      have HKP := Lib.hid (fun (W : World) (hW : Below wr.heap.size wr W) => (show W.cell? ⟨a, 1, none⟩ = some (.map (some mp)) ∧ (Instr.lookup 82 (.map (some mp)) (.string S) false).run Tryz.prog W = .ok (.bool (Ro.longer (rulesL xs) (p1 ++ [c]))) W from
        ⟨below_cellU c1 hW (Nat.le_refl _), by
          have h := (HM.out.keep hW).look keyStr Tryz.underlying82 (zeroBool _) (WideMaps.keyOf_string_mk Tryz.underlying9 (show S.size ≤ maxLen by unfold maxLen; omega))
          rw [partsF_get xs S _ HS.out] at h
          exact h⟩))
      obtain ⟨L, hL⟩ : ∃ L, Ro.longer (rulesL xs) (p1 ++ [c]) = L := ⟨_, rfl⟩
      have HLG := Eqq.mk hL
      rw [hL] at HKP
      clear hL c1
      cases L
      · have HIN2 := Lib.hid (HIN.out.no HOK.out HLG.out)
        have HM2 := Lib.hid (Au.fuel_two (Au.short_of HOK.out) p1 c ks)
        have hlen := HIN2.out.len
        go_wp2_with fail
        go_quiet (fail)
        have HWB := Lib.hid (show Below wr.heap.size wr (wr.drewN nq) from bel_dn (Below.refl _ _) nq)
        obtain ⟨hca, hlk⟩ := HKP.out _ HWB.out
        go_wp2_with fail
        with_reducible refine (resolve_any B a b xs _ S _ _ (HA.out.below (HWB.out.mono hsw)) (bldr_keep HBl.out HWB.out) (Nat.le_trans hsw HWB.out.size) HS.out (Au.snoc_ne p1 c) (by omega) (by rw [List.length_append]; omega)).mono ?_
        rintro e w3 ⟨rfl, hI, hb⟩
        have HBl3 := Lib.hid hI
        have HB3 := Lib.hid ((HB.out.trans (HWB.out.mono hsw)).trans hb)
        have HA3 := Lib.hid ((HA.out.below (HWB.out.mono hsw)).below hb)
        clear hI hb hlk hca
        obtain ⟨⟨A1, A2⟩, hA⟩ : ∃ q, Au.apply (rulesL xs) (p1 ++ [c]) = q := ⟨_, rfl⟩
        rw [hA] at HIN2 HM2 hlen HBl3 ⊢
        dsimp only at HIN2 HM2 hlen HBl3
        dsimp only
        have g2 := Lib.hid (is_ba A2)
        have g4 := ba_size A2
        obtain ⟨a2, ha2⟩ : ∃ x, ba A2 = x := ⟨_, rfl⟩
        rw [ha2] at g2 g4 ⊢
        simp only [List.length_append, List.length_nil] at hlen
        have hc3 : a2.size + y2.size ≤ 9223372036854775807 := by omega
        clear g4 hlen hA ha2
        have HF2 := Lib.hid (g2.out.append H2.out)
        have HMM := Lib.hid (show Au.fuel (strB (.string ⟨#[]⟩)) (strB (.string (a2 ++ y2))) < Au.fuel (strB (.string p0)) (strB (.string k0)) by
          rw [strB_is HP0.out, strB_is HK0.out, strB_is HF2.out]
          exact HM2.out)
        go_wp2_with fail
        go_roundw
        case rel => exact ⟨_, _, _, _, _, rfl, rfl, Is.mk [], HF2.out, HIN2.out, by rw [← List.append_assoc]; exact HBl3.out, HA3.out, HB3.out⟩
        case measure => exact HMM.out
      · have HIN2 := Lib.hid (HIN.out.yes HOK.out HLG.out)
        have HMM := Lib.hid (show Au.fuel (strB (.string S)) (strB (.string y2)) < Au.fuel (strB (.string p0)) (strB (.string k0)) by
          rw [strB_is HP0.out, strB_is HK0.out, strB_is HS.out, strB_is H2.out]
          exact Au.fuel_one p1 c ks)
        go_wp2_with fail
        go_quiet (fail)
        have HWB := Lib.hid (show Below wr.heap.size wr (wr.drewN nq) from bel_dn (Below.refl _ _) nq)
        obtain ⟨hca, hlk⟩ := HKP.out _ HWB.out
        go_wp2_with fail
        go_roundw
        case rel => exact ⟨_, _, _, _, _, rfl, rfl, HS.out, H2.out, HIN2.out, bldr_keep HBl.out HWB.out, HA.out.below (HWB.out.mono hsw), HB.out.trans (HWB.out.mono hsw)⟩
        case measure => exact HMM.out
theorem bldr_fresh (w : World) : Bldr w.heap.size w.heap.size [] (w.alloc (.cells #[.pointer none, .slice none 0 0] 120)) := Lib.IsBuilderF.of (Lib.fresh_isBuilder 120 5 w)
set_option maxRecDepth 100000 in
set_option maxHeartbeats 4000000 in
theorem run_any (B a : Nat) (xs : List RuleB) (k : ByteArray) (kl : List UInt8) (w : World) (ha : AutoIs B xs a w) (hBw : B ≤ w.heap.size) (hk : Is k kl) (hs : k.size ≤ 1000000000) :
    Calls Tryz.prog 31 #[.pointer (some ⟨a, 0, none⟩), .string k] w fun e w' => e = TwoV (Au.run (rulesL xs) kl) ∧ Below w.heap.size w w' := by
  have HK := Lib.hid hk
  have HA := Lib.hid (ha.mono hBw)
  have HZ := Lib.hid (show (Au.keysOf kl).length ≤ 1000000000 by have := Au.keysOf_len kl; have := hk.size; omega)
  have HB0 := Lib.hid ((Below.refl w.heap.size w).alloc (Nat.le_refl _) (.cells #[.pointer none, .slice none 0 0] 120))
  have HBl := Lib.hid (bldr_fresh w)
  clear hk ha
  go_enter Tryz.func31, Tryz.ntmps31
  go_wp2_with fail
  with_reducible refine (clean_any k kl _ HK.out hs).mono ?_
  rintro e w2 ⟨rfl, hb⟩
  have HB2 := Lib.hid (HB0.out.trans (hb.mono HB0.out.size))
  have HBl2 := Lib.hid (bldr_keep HBl.out hb)
  clear hb
  go_wp2_with fail
  with_reducible refine (feed_any w.heap.size a w.heap.size xs [] ⟨#[]⟩ _ [] _ _ (HA.out.below HB2.out) HBl2.out HB2.out.size (Is.mk []) (is_ba _) (by rw [List.length_nil]; have := HZ.out; omega) (by simp)).mono ?_
  rintro e w3 ⟨rfl, hI, hb⟩
  have HB3 := Lib.hid (HB2.out.trans hb)
  have HBl3 := Lib.hid hI
  clear hI hb
  go_wp2_with fail
  with_reducible refine (bld_string w.heap.size w.heap.size _ _ HBl3.out HB3.out.size).mono ?_
  rintro e w4 ⟨rfl, hI, hb⟩
  have HB4 := Lib.hid (HB3.out.trans hb.1)
  clear hI hb
  go_wp2_with fail
  go_ret2
  exact ⟨by unfold TwoV Au.run; first | rfl | trivial, HB4.out⟩
set_option maxRecDepth 100000 in
set_option maxHeartbeats 4000000 in
theorem flush_any (B a : Nat) (xs : List RuleB) (k : ByteArray) (kl : List UInt8) (w : World) (ha : AutoIs B xs a w) (hBw : B ≤ w.heap.size) (hk : Is k kl) (hs : k.size ≤ 1000000000) :
    Calls Tryz.prog 70 #[.pointer (some ⟨a, 0, none⟩), .string k] w fun e w' => e = .returned (.string (ba (Au.flush (rulesL xs) kl))) ∧ Below w.heap.size w w' := by
  have HK := Lib.hid hk
  have HA := Lib.hid (ha.mono hBw)
  have HOK := Eqq.mk ha.ok
  have HZ := Lib.hid (show (Au.keysOf kl).length ≤ 1000000000 by have := Au.keysOf_len kl; have := hk.size; omega)
  have HB0 := Lib.hid ((Below.refl w.heap.size w).alloc (Nat.le_refl _) (.cells #[.pointer none, .slice none 0 0] 120))
  have HBl := Lib.hid (bldr_fresh w)
  clear hk ha
  go_enter Tryz.func70, Tryz.ntmps70
  go_wp2_with fail
  with_reducible refine (clean_any k kl _ HK.out hs).mono ?_
  rintro e w2 ⟨rfl, hb⟩
  have HB2 := Lib.hid (HB0.out.trans (hb.mono HB0.out.size))
  have HBl2 := Lib.hid (bldr_keep HBl.out hb)
  clear hb
  go_wp2_with fail
  go_loopw [6] (fun pv wr => ∃ (p0 : ByteArray) (p1 o1 : List UInt8), pv = .string p0 ∧ Is p0 p1 ∧ Au.FlushInv (rulesL xs) (Au.keysOf kl) p1 o1 ∧ Bldr w.heap.size w.heap.size o1 wr ∧ Below w.heap.size w wr) (fun pv _ => (strB pv).length)
  case atStart => exact ⟨_, _, [], rfl, is_ba _, Au.FlushInv.start _ _, HBl2.out, HB2.out⟩
  case round =>
    obtain ⟨p0, p1, o1, rfl, hp0, hi, hbl, hb⟩ := hrel
    have HB3 := Lib.hid hb
    have HP0 := Lib.hid hp0
    have HIN := Lib.hid hi
    have HBr := Lib.hid hbl
    have hlen := hi.len
    have hz := HZ.out
    have q1 := hp0.size
    have b1 : p0.size ≤ 1000000000 := by omega
    have b3 : o1.length ≤ 16000000000 := by omega
    clear hb hp0 hi q1 hlen hz hbl
    by_cases hp : p1 = []
    · subst hp
      have hp0 : p0 = ⟨#[]⟩ := HP0.out.eq (Is.mk [])
      subst hp0
      have HR := Eqq.mk (show Au.flush (rulesL xs) kl = o1 by rw [Au.flush_eq]; exact HIN.out.done)
      go_wp2_with fail
      with_reducible refine (bld_string w.heap.size w.heap.size _ _ HBr.out HB3.out.size).mono ?_
      rintro e w4 ⟨rfl, hI, hb⟩
      have HB4 := Lib.hid (HB3.out.trans hb.1)
      clear hI hb
      go_wp2_with fail
      go_ret
      exact ⟨by rw [HR.out]; rfl, HB4.out⟩
    · obtain ⟨n1, n2, n3, n4, n5⟩ := notEmpty HP0.out hp
      obtain ⟨hi2, hlt⟩ := HIN.out.step HOK.out hp
      have HIN2 := Lib.hid hi2
      have hlen := hi2.len
      have HRL := Lib.hid (show (Au.apply (rulesL xs) p1).2.length ≤ 1000000000 by have := Au.apply_len (Au.short_of HOK.out) hp; have := HP0.out.size; omega)
      have HAL := Lib.hid (show (Au.apply (rulesL xs) p1).1.length ≤ 16 from Au.apply_out HOK.out p1)
      clear hi2
      go_wp2_with fail
      with_reducible refine (resolve_any w.heap.size a w.heap.size xs _ p0 _ _ (HA.out.below HB3.out) HBr.out HB3.out.size HP0.out hp (by omega) (by omega)).mono ?_
      rintro e w3 ⟨rfl, hI, hb⟩
      have HB4 := Lib.hid (HB3.out.trans hb)
      have HBl4 := Lib.hid hI
      clear hI hb
      obtain ⟨⟨A1, A2⟩, hA⟩ : ∃ q, Au.apply (rulesL xs) p1 = q := ⟨_, rfl⟩
      rw [hA] at HIN2 hlt hlen HRL HBl4 HAL ⊢
      dsimp only at HIN2 hlt hlen HRL HBl4 HAL
      dsimp only
      go_wp2_with fail
      with_reducible refine (feed_any w.heap.size a w.heap.size xs _ ⟨#[]⟩ _ [] _ _ (HA.out.below HB4.out) HBl4.out HB4.out.size (Is.mk []) (is_ba _) (by rw [List.length_nil]; have := HRL.out; omega) (by rw [List.length_append]; have := HAL.out; omega)).mono ?_
      rintro e w5 ⟨rfl, hI, hb⟩
      have HB5 := Lib.hid (HB4.out.trans hb)
      have HBl5 := Lib.hid hI
      clear hI hb
      obtain ⟨⟨F1, F2⟩, hF⟩ : ∃ q, Au.feed (rulesL xs) [] A2 = q := ⟨_, rfl⟩
      rw [hF] at HIN2 hlt hlen HBl5 ⊢
      dsimp only at HIN2 hlt hlen HBl5
      dsimp only
      have HMM := Lib.hid (show (strB (.string (ba F2))).length < (strB (.string p0)).length by
        rw [strB_is HP0.out, strB_is (is_ba F2)]; exact hlt)
      clear hlen hA hF hlt
      go_wp2_with fail
      go_roundw
      case rel => exact ⟨_, _, _, rfl, is_ba _, HIN2.out, by rw [← List.append_assoc]; exact HBl5.out, HB5.out⟩
      case measure => exact HMM.out
end Go.Proofs.YtgdcffahhpeibaaGreatDoor
