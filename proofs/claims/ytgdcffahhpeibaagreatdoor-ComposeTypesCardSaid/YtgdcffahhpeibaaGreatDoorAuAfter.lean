/-
  (*auto.Auto).after and choices by their contracts. The rules are allowed; the strings short.
-/
import Derived.Test.YtgdcffahhpeibaaGreatDoorAuStep
import Derived.Test.YtgdcffahhpeibaaGreatDoorAuNew
import Derived.Test.YtgdcffahhpeibaaGreatDoorAuCount
import Derived.Lib.IndexLaws
import Derived.Laws.BytesArg
namespace Go.Proofs.YtgdcffahhpeibaaGreatDoor
open Go.RowKit
/-- a state as a value -/
def stV (x : Au.St) : Value := .agg #[.int .i64 (x.1 : Int), .string (ba x.2)]
/-- what after hands back -/
def AfterV (o : Option Au.St) : Ending := match o with
  | some y => .returned (.tuple #[stV y, .bool true])
  | none => .returned (.tuple #[stV (0, []), .bool false])
theorem succ_hit {l : List Ro.Rule} {s : List UInt8} {x : Au.St} {c : UInt8} (h : (Au.step l x.2 c).1.isPrefixOf (s.drop x.1) = true) : Au.succ l s x c = some (x.1 + (Au.step l x.2 c).1.length, (Au.step l x.2 c).2) := by
  unfold Au.succ; rw [if_pos h]
theorem succ_miss {l : List Ro.Rule} {s : List UInt8} {x : Au.St} {c : UInt8} (h : (Au.step l x.2 c).1.isPrefixOf (s.drop x.1) = false) : Au.succ l s x c = none := by
  unfold Au.succ; rw [if_neg (by rw [h]; simp)]
theorem box2_0 (w : World) (x y : Value) (T : TypeId) : (w.alloc (.cells #[x, y] T)).cell? ⟨w.heap.size, 0, none⟩ = some x := by
  rw [Lib.cell_of_heap (MapKept.heap_alloc w _).1]; rfl
theorem box2_1 (w : World) (x y : Value) (T : TypeId) : (w.alloc (.cells #[x, y] T)).cell? ⟨w.heap.size, 1, none⟩ = some y := by
  rw [Lib.cell_of_heap (MapKept.heap_alloc w _).1]; rfl
set_option maxRecDepth 100000 in
set_option maxHeartbeats 4000000 in
theorem after_any (B a : Nat) (xs : List RuleB) (s p : ByteArray) (l : List UInt8) (x : Au.St) (n : Int) (hnx : n = (x.1 : Int)) (c : UInt8) (z : Int) (hz : z = (c.toNat : Int)) (w : World) (ha : AutoIs B xs a w) (hBw : B ≤ w.heap.size) (hs : Is s l) (hp : Is p x.2) (hx1 : x.1 ≤ l.length) (hx2 : x.2.length ≤ 1000) (hsz : s.size ≤ 1000000000) :
    Calls Tryz.prog 51 #[.pointer (some ⟨a, 0, none⟩), .string s, .agg #[.int .i64 n, .string p], .int .u8 z] w fun e w' => e = AfterV (Au.succ (rulesL xs) l x c) ∧ Below w.heap.size w w' := by
  have HS := Lib.hid hs
  have HP := Lib.hid hp
  have hpz : p.size ≤ 500000000 := by rw [hp.size]; omega
  have HLN := Eqq.mk (show l.length = s.size by rw [hs.size])
  have HNX := Eqq.mk hnx
  have HZZ := Eqq.mk hz
  have n0 : (0 : Int) ≤ n := by omega
  have n1 : n ≤ (s.size : Int) := by rw [hs.size]; omega
  have n2 : n.toNat = x.1 := by omega
  have hba := Lib.hid (is_ba (Au.step (rulesL xs) x.2 c).1)
  have HFR := Lib.hid (hs.from x.1)
  obtain ⟨y, hy⟩ : ∃ y, s.extract x.1 s.size = y := ⟨_, rfl⟩
  rw [hy] at HFR
  have A0 := Lib.hid (box2_0 w (.int .i64 n) (.string p) 96)
  have A1 := Lib.hid (box2_1 w (.int .i64 n) (.string p) 96)
  obtain ⟨W0, hW0⟩ : ∃ W0, w.alloc (.cells #[.int .i64 n, .string p] 96) = W0 := ⟨_, rfl⟩
  have hw0 : W0.heap.size = w.heap.size + 1 := by rw [← hW0, World.size_alloc]
  have R0 := Lib.hid (box2_0 W0 (.int .i64 0) (.string ⟨#[]⟩) 96)
  have R1 := Lib.hid (box2_1 W0 (.int .i64 0) (.string ⟨#[]⟩) 96)
  have RF := Lib.hid (fun j => Lib.frozen_of_heap (MapKept.heap_alloc W0 (.cells #[.int .i64 0, .string ⟨#[]⟩] 96)).1 j)
  have HB0 := Lib.hid (((Below.refl w.heap.size w).alloc (Nat.le_refl _) (.cells #[.int .i64 n, .string p] 96)).alloc (by simp) (.cells #[.int .i64 0, .string ⟨#[]⟩] 96))
  rw [hW0] at A0 A1 HB0
  rw [hw0] at R0 R1 RF
  have A0' := Lib.hid (below_cellU A0.out ((Below.refl W0.heap.size W0).alloc (Nat.le_refl _) (.cells #[.int .i64 0, .string ⟨#[]⟩] 96)) (Nat.le_refl _))
  have A1' := Lib.hid (below_cellU A1.out ((Below.refl W0.heap.size W0).alloc (Nat.le_refl _) (.cells #[.int .i64 0, .string ⟨#[]⟩] 96)) (Nat.le_refl _))
  obtain ⟨W1, hW1⟩ : ∃ W1, W0.alloc (.cells #[.int .i64 0, .string ⟨#[]⟩] 96) = W1 := ⟨_, rfl⟩
  have hw1 : W1.heap.size = w.heap.size + 1 + 1 := by rw [← hW1, World.size_alloc, hw0]
  rw [hW1] at R0 R1 RF HB0 A0' A1'
  have HA := Lib.hid ((ha.mono hBw).below HB0.out)
  have a0 := A0'.out
  have a1 := A1'.out
  obtain ⟨O, hO⟩ : ∃ O, Au.step (rulesL xs) x.2 c = O := ⟨_, rfl⟩
  have HO := Eqq.mk hO
  obtain ⟨b, hb⟩ : ∃ b, O.1.isPrefixOf (l.drop x.1) = b := ⟨_, rfl⟩
  have HPF := Eqq.mk (show Lib.hasPrefix y.data.toList (ba O.1).data.toList = b by
    rw [HFR.out.data]; exact hb)
  have HSU := Eqq.mk (show Au.succ (rulesL xs) l x c = if b = true then some (x.1 + O.1.length, O.2) else none by
    unfold Au.succ; rw [hO, hb])
  have HOL := Lib.hid (show b = true → O.1.length ≤ s.size - x.1 by
    intro h
    rw [h] at hb
    have := (List.isPrefixOf_iff_prefix.1 hb).length_le
    rw [List.length_drop, HLN.out] at this
    exact this)
  clear hs hp ha hnx hz hb hO hba
  go_enter Tryz.func51, Tryz.ntmps51
  go_wp2_with fail
  with_reducible refine (step_any w.heap.size a xs p x.2 c z HZZ.out W1 HA.out HB0.out.size HP.out hpz).mono ?_
  rw [HO.out]
  rintro e w2 ⟨he, hb⟩
  unfold TwoV at he
  subst he
  have HB2 := Lib.hid (HB0.out.trans (hb.mono HB0.out.size))
  have a0' := below_cellU A0'.out hb (Nat.le_refl _)
  have r0 := below_cellU R0.out hb (Nat.le_refl _)
  have r1 := below_cellU R1.out hb (Nat.le_refl _)
  have f0 := (hb.frozen (p := ⟨w.heap.size + 1, 0, none⟩) (by show w.heap.size + 1 < W1.heap.size; omega)).trans (RF.out 0)
  have f1 := (hb.frozen (p := ⟨w.heap.size + 1, 1, none⟩) (by show w.heap.size + 1 < W1.heap.size; omega)).trans (RF.out 1)
  have g1 := ba_size O.1
  obtain ⟨o1, ho1⟩ : ∃ o1, ba O.1 = o1 := ⟨_, rfl⟩
  obtain ⟨o2, ho2⟩ : ∃ o2, ba O.2 = o2 := ⟨_, rfl⟩
  rw [ho1] at HPF g1 ⊢
  rw [ho2]
  have HO2 := Eqq.mk ho2
  have G1 := Eqq.mk g1
  clear hb a0 a1 ho1 ho2 g1
  have hn3 : s.extract n.toNat s.size = y := by rw [n2, hy]
  cases b
  · go_wp2_with fail
    with_reducible refine (Tryz.strings_HasPrefix y o1 _).mono ?_
    rw [HPF.out]
    rintro e w3 ⟨rfl, rfl⟩
    go_wp2_with fail
    refine bodyPost_ret (v := .tuple #[stV (0, []), .bool false]) (by simp [results, Tryz.results51, go_sem, r0, r1, stV, ba]) rfl ⟨?_, ?_⟩
    · rw [HSU.out]; rfl
    · exact (HB2.out.setCell (p := ⟨w.heap.size + 1, 0, none⟩) (by simp) _).setCell (p := ⟨w.heap.size + 1, 1, none⟩) (by simp) _
  · have hol := HOL.out rfl
    have hq1 : o1.size ≤ 1000000000 := by rw [G1.out]; omega
    have hq2 : n + (o1.size : Int) ≤ 9223372036854775807 := by omega
    have hq3 : wrap64 (n + (o1.size : Int)) = n + (o1.size : Int) := by unfold wrap64; omega
    go_wp2_with fail
    with_reducible refine (Tryz.strings_HasPrefix y o1 _).mono ?_
    rw [HPF.out]
    rintro e w3 ⟨rfl, rfl⟩
    go_wp2_with fail
    refine bodyPost_ret (v := .tuple #[.agg #[.int .i64 (n + (o1.size : Int)), .string o2], .bool true]) (by simp [results, Tryz.results51, go_sem, r0, r1]) rfl ⟨?_, ?_⟩
    · rw [HSU.out, if_pos (by trivial)]
      unfold AfterV stV
      dsimp only
      rw [HO2.out, HNX.out, G1.out, Int.natCast_add]
    · exact (HB2.out.setCell (p := ⟨w.heap.size + 1, 0, none⟩) (by simp) _).setCell (p := ⟨w.heap.size + 1, 1, none⟩) (by simp) _
namespace Au
open UT (Bs)
open Ro (Rule)
/-- the keys of a rest that are not among ks, each once -/
def moreF (ks : Bs) (rest : Bs) : Bs := rest.foldl (fun m c => if isKey c && (!ks.contains c && !m.contains c) then m ++ [c] else m) []
theorem moreF_take (ks rest : Bs) (i : Nat) (c : UInt8) (h : rest[i]? = some c) : moreF ks (rest.take (i + 1)) = if isKey c && (!ks.contains c && !(moreF ks (rest.take i)).contains c) then moreF ks (rest.take i) ++ [c] else moreF ks (rest.take i) := by
  have hi : i < rest.length := by
    rcases Nat.lt_or_ge i rest.length with h' | h'
    · exact h'
    · rw [List.getElem?_eq_none h'] at h; cases h
  rw [List.getElem?_eq_getElem hi] at h
  injection h with h
  unfold moreF
  rw [List.take_succ_eq_append_getElem hi, List.foldl_append, h]
  rfl
theorem moreF_snoc (ks rest : Bs) (c : UInt8) : moreF ks (rest ++ [c]) = if isKey c && (!ks.contains c && !(moreF ks rest).contains c) then moreF ks rest ++ [c] else moreF ks rest := by
  unfold moreF
  rw [List.foldl_append]
  rfl
theorem moreF_len (ks : Bs) : ∀ (n : Nat) (rest : Bs), rest.length = n → (moreF ks rest).length ≤ n
  | n, rest, h => by
    rcases snoc_cases rest with rfl | ⟨r, c, rfl⟩
    · simp [moreF]
    · cases n with
      | zero => simp at h
      | succ n =>
        have ih := moreF_len ks n r (by simpa using h)
        rw [moreF_snoc]
        split
        · rw [List.length_append, List.length_singleton]; omega
        · omega
theorem moreF_key (ks : Bs) : ∀ (n : Nat) (rest : Bs), rest.length = n → ∀ c ∈ moreF ks rest, isKey c = true
  | n, rest, h, c, hc => by
    rcases snoc_cases rest with rfl | ⟨r, d, rfl⟩
    · simp [moreF] at hc
    · cases n with
      | zero => simp at h
      | succ n =>
        have ih := moreF_key ks n r (by simpa using h) c
        rw [moreF_snoc] at hc
        split at hc
        · rename_i hh
          rcases List.mem_append.1 hc with hc | hc
          · exact ih hc
          · simp at hc
            subst hc
            rw [Bool.and_eq_true] at hh
            exact hh.1
        · exact ih hc
theorem moreF_all (ks : Bs) : ∀ (n : Nat) (rest : Bs), rest.length = n → ∀ c ∈ rest, isKey c = true → c ∈ ks ∨ c ∈ moreF ks rest
  | n, rest, h, c, hc, hk => by
    rcases snoc_cases rest with rfl | ⟨r, d, rfl⟩
    · simp at hc
    · cases n with
      | zero => simp at h
      | succ n =>
        have ih := moreF_all ks n r (by simpa using h) c
        rw [moreF_snoc]
        rcases List.mem_append.1 hc with hc | hc
        · rcases ih hc hk with h1 | h1
          · exact .inl h1
          · right
            split
            · exact List.mem_append_left _ h1
            · exact h1
        · simp at hc
          subst hc
          by_cases h1 : c ∈ ks
          · exact .inl h1
          · right
            by_cases h2 : c ∈ moreF ks r
            · split
              · exact List.mem_append_left _ h2
              · exact h2
            · rw [if_pos]
              · simp
              · rw [hk]
                have e1 : ks.contains c = false := by rw [Bool.eq_false_iff]; intro e; exact h1 (List.contains_iff_mem.1 e)
                have e2 : (moreF ks r).contains c = false := by rw [Bool.eq_false_iff]; intro e; exact h2 (List.contains_iff_mem.1 e)
                rw [e1, e2]; rfl
/-- the keys that are tried -/
def choicesF (ks rest : Bs) : Bs := ks ++ moreF ks rest
theorem choices_tries {l : List Rule} (h : Ro.check l = 0) {ks : Bs} (hks : ∀ c, c ∈ ks ↔ ∃ r ∈ l, c ∈ r.1) (s : Bs) : Tries l s (fun x => choicesF ks (s.drop x.1)) := by
  refine tries_of h (fun x c hc => ?_) (fun x c hk hn => ⟨fun r hr hm => ?_, fun hm => ?_⟩)
  · unfold choicesF at hc
    rcases List.mem_append.1 hc with hc | hc
    · obtain ⟨r, hr, hm⟩ := (hks c).1 hc
      exact (keyed_of h r hr).1 c hm
    · exact moreF_key ks _ _ rfl c hc
  · exact hn (List.mem_append_left _ ((hks c).2 ⟨r, hr, hm⟩))
  · rcases moreF_all ks _ _ rfl c hm hk with h1 | h1
    · exact hn (List.mem_append_left _ h1)
    · exact hn (List.mem_append_right _ h1)
end Au
theorem indexByte_mem (l : List UInt8) (c : UInt8) : decide (0 ≤ Lib.indexByte l c) = l.contains c := by
  rw [Bool.eq_iff_iff, decide_eq_true_iff, List.contains_iff_mem]
  constructor
  · intro h
    have := (Lib.indexByte_some (l := l) (c := c) (o := (Lib.indexByte l c).toNat) (by omega)).1
    exact List.mem_of_getElem? this
  · intro h
    obtain ⟨k, hk⟩ := List.getElem?_of_mem h
    have := Lib.indexByte_ge l c
    by_cases e : Lib.indexByte l c = -1
    · exact absurd hk (Lib.indexByte_none e k)
    · omega
theorem encode_one (c : UInt8) (h : c.toNat < 128) : Utf8.encode (c.toNat : Int) = ⟨#[c]⟩ := by
  unfold Utf8.encode
  have hv : Utf8.valid (c.toNat : Int) = true := by
    unfold Utf8.valid
    simp
    omega
  simp only [hv, if_true, Int.toNat_natCast]
  rw [if_pos h, UInt8.ofNat_toNat]
set_option maxRecDepth 100000 in
theorem conv_own {T : TypeId} {B : Nat} {v : Value} {cs : List UInt8} {w : World} (h : OwnG byteE T B v cs w) : (convert 57 9 v).run Tryz.prog w = .ok (.string (ba cs)) w := by
  have hl := h.lie
  rcases hl.shape with rfl | ⟨g, o, cap, rfl, hc⟩
  · obtain ⟨ao, cap, hv⟩ := h.frame
    injection hv with _ h2 _
    have : cs = [] := List.eq_nil_of_length_eq_zero h2.symm
    subst this
    have e := run_convert_bytes_nil (P := Tryz.prog) (w := w) 57 5 Tryz.underlying57 Tryz.underlying5 0 0 9 Tryz.underlying9
    rw [e]
    rfl
  · exact run_convert_bytes_back w 57 9 5 ⟨g, o, none⟩ cap cs Tryz.underlying57 Tryz.underlying5 Tryz.underlying9 (fun j hj => by
      rw [addr_add]
      have := hl.at j cs[j] (List.getElem?_eq_getElem hj) 0 (.int .u8 (cs[j].toNat : Int)) rfl
      rw [Nat.add_zero] at this
      rw [show j * byteE.k = j from Nat.mul_one j] at this
      exact this)
theorem OwnG.empty {α : Type} {E : Enc α} (T : TypeId) (B : Nat) (w : World) (hB : B ≤ w.heap.size) : OwnG E T B (.slice (some ⟨w.heap.size, 0, none⟩) 0 0) [] (w.alloc (.cells #[] T)) :=
  ⟨by simp [Enc.cells_nil], .inr ⟨w.heap.size, 0, #[], rfl, hB, (MapKept.heap_alloc w _).1, Nat.le_refl _, by unfold maxLen; omega, by simp, by simp [Enc.cells_nil]⟩⟩
set_option maxRecDepth 100000 in
set_option maxHeartbeats 4000000 in
theorem choices_any (a : Nat) (s : ByteArray) (l : List UInt8) (w : World) (hs : Is s l) (hsz : s.size ≤ 1000) (ks : List UInt8) (kv : Value) (hkv : w.cell? ⟨a, 2, none⟩ = some kv) (hko : ∃ b0, OwnG byteE 5 b0 kv ks w) (hkl : ks.length ≤ 256) :
    Calls Tryz.prog 50 #[.pointer (some ⟨a, 0, none⟩), .string s] w fun e w' => (∃ v b1, e = .returned v ∧ OwnG byteE 5 b1 v (Au.choicesF ks l) w') ∧ Below w.heap.size w w' := by
  have HS := Lib.hid hs
  have HLN := Eqq.mk (show l.length = s.size by rw [hs.size])
  obtain ⟨n, hn⟩ : ∃ n, s.size = n := ⟨_, rfl⟩
  have HN := Eqq.mk hn
  rw [hn] at hsz
  obtain ⟨b0, hko⟩ := hko
  have HKO := Lib.hid hko
  obtain ⟨ao, cap, rfl⟩ := hko.frame
  clear hs hko
  go_enter Tryz.func50, Tryz.ntmps50
  go_wp2_with fail
  go_loopw [6, 15] (fun mv iv wr => ∃ i : Nat, i ≤ n ∧ iv = .int .i64 i ∧ OwnG byteE 5 w.heap.size mv (Au.moreF ks (l.take i)) wr ∧ Below w.heap.size w wr) (fun _ iv _ => n - (intOf iv).toNat)
  case atStart => exact ⟨0, Nat.zero_le _, rfl, OwnG.nil _ _ _, Below.refl _ _⟩
  case round =>
    obtain ⟨i, hi, rfl, ho, hb⟩ := hrel
    have HO := Lib.hid ho
    have HB := Lib.hid hb
    clear ho hb
    have hml := Au.moreF_len ks i (l.take i) (by rw [List.length_take, HLN.out, hn]; omega)
    by_cases hil : i < n
    · have hil' : i < s.size := by rw [hn]; exact hil
      obtain ⟨c, hc⟩ : ∃ c, s[i]'hil' = c := ⟨_, rfl⟩
      have hget := HS.out.get i hil'
      rw [hc] at hget
      have HT := Eqq.mk (Au.moreF_take ks l i c hget)
      have g1 : (0 : Int) ≤ (i : Int) := by omega
      have g2 : (i : Int) < (n : Int) := by omega
      obtain ⟨mv, hmv⟩ : ∃ m, Au.moreF ks (l.take i) = m := ⟨_, rfl⟩
      rw [hmv] at HO HT hml
      obtain ⟨ao2, cap2, rfl⟩ := HO.out.frame
      have hwc : IntKind.i32.wrap (c.toNat : Int) = (c.toNat : Int) := by
        have := c.toNat_lt
        simp [IntKind.wrap, IntKind.bits, IntKind.signed]; omega
      clear hget hmv
      obtain ⟨k1, hk1⟩ : ∃ k1, Au.isKey c = k1 := ⟨_, rfl⟩
      have HK1 := Eqq.mk hk1
      cases k1
      · have HT2 := Eqq.mk (show Au.moreF ks (l.take (i + 1)) = mv by rw [HT.out, hk1]; rfl)
        clear hk1
        go_wp2_with fail
        with_reducible refine (isKey_any c _ rfl _).mono ?_
        rw [HK1.out]
        rintro e w2 ⟨rfl, rfl⟩
        go_wp2_with fail
        go_roundw
        case rel => exact ⟨i + 1, by omega, by go_num, by rw [HT2.out]; exact HO.out, HB.out⟩
        case measure => simp [intOf]; omega
      · have hc128 : c.toNat < 128 := by
          have h := hk1
          unfold Au.isKey at h
          rw [Bool.and_eq_true, decide_eq_true_iff, decide_eq_true_iff] at h
          omega
        have hen := encode_one c hc128
        have HCV1 := Lib.hid (fun (W : World) (hW : Below w.heap.size w W) => conv_own (HKO.out.below hW (Nat.le_refl _)))
        have HCV2 := Lib.hid (conv_own HO.out)
        obtain ⟨k2, hk2⟩ : ∃ k2, ks.contains c = k2 := ⟨_, rfl⟩
        have HK2 := Eqq.mk (show decide (0 ≤ Lib.indexByte (ba ks).data.toList c) = k2 by rw [indexByte_mem, (is_ba ks).data]; exact hk2)
        cases k2
        · obtain ⟨k3, hk3⟩ : ∃ k3, mv.contains c = k3 := ⟨_, rfl⟩
          have HK3 := Eqq.mk (show decide (0 ≤ Lib.indexByte (ba mv).data.toList c) = k3 by rw [indexByte_mem, (is_ba mv).data]; exact hk3)
          cases k3
          · have HT2 := Eqq.mk (show Au.moreF ks (l.take (i + 1)) = mv ++ [c] by rw [HT.out, hk1, hk2, hk3]; rfl)
            clear hk1 hk2 hk3
            go_wp2_with fail
            with_reducible refine (isKey_any c _ rfl _).mono ?_
            rw [HK1.out]
            rintro e w2 ⟨rfl, rfl⟩
            go_wp2_with (rw [HCV1.out _ HB.out]; simp only [Result.andThen]; rw [Oper.upon_value])
            with_reducible refine (Tryz.strings_Contains_one (ba ks) c _).mono ?_
            rw [HK2.out]
            rintro e w3 ⟨rfl, rfl⟩
            go_wp2_with (rw [HCV2.out]; simp only [Result.andThen]; rw [Oper.upon_value])
            with_reducible refine (Tryz.strings_Contains_one (ba mv) c _).mono ?_
            rw [HK3.out]
            rintro e w4 ⟨rfl, rfl⟩
            have HSR := Lib.hid (show SrcG byteE (.slice (some ⟨w4.heap.size, 0, none⟩) 1 1) [c] (w4.alloc (.cells #[.int .u8 (c.toNat : Int)] 5)) from
              SrcG.one (fun j u hu => new_cells w4 [.int .u8 (c.toNat : Int)] 5 j u hu))
            go_wp2_with (at_builtin; refine wpList_append_g bytesApp _ rfl _ _ rfl w.heap.size _ _ rfl (HO.out.alloc _) _ [c] rfl HSR.out (by simp; unfold maxLen; omega) (by show (_ + 1) * 1 ≤ _; omega) (by have := HB.out.size; simp; omega) ?_)
            intro v' w' ho' hg'
            have HO2 := Lib.hid ho'
            have HB2 := Lib.hid ((HB.out.alloc HB.out.size (.cells #[.int .u8 (c.toNat : Int)] 5)).grown hg' (by have := HB.out.size; simp; omega) (fun b hb => (HO.out.block_lt b hb).1))
            obtain ⟨ao3, cap3, hv3⟩ := ho'.frame
            rw [List.length_append, List.length_singleton] at hv3
            subst hv3
            clear ho' hg'
            go_wp2_with fail
            go_roundw
            case rel => exact ⟨i + 1, by omega, by go_num, by rw [HT2.out]; exact HO2.out, HB2.out⟩
            case measure => simp [intOf]; omega
          · have HT2 := Eqq.mk (show Au.moreF ks (l.take (i + 1)) = mv by rw [HT.out, hk1, hk2, hk3]; rfl)
            clear hk1 hk2 hk3
            go_wp2_with fail
            with_reducible refine (isKey_any c _ rfl _).mono ?_
            rw [HK1.out]
            rintro e w2 ⟨rfl, rfl⟩
            go_wp2_with (rw [HCV1.out _ HB.out]; simp only [Result.andThen]; rw [Oper.upon_value])
            with_reducible refine (Tryz.strings_Contains_one (ba ks) c _).mono ?_
            rw [HK2.out]
            rintro e w3 ⟨rfl, rfl⟩
            go_wp2_with (rw [HCV2.out]; simp only [Result.andThen]; rw [Oper.upon_value])
            with_reducible refine (Tryz.strings_Contains_one (ba mv) c _).mono ?_
            rw [HK3.out]
            rintro e w4 ⟨rfl, rfl⟩
            go_wp2_with fail
            go_roundw
            case rel => exact ⟨i + 1, by omega, by go_num, by rw [HT2.out]; exact HO.out, HB.out⟩
            case measure => simp [intOf]; omega
        · have HT2 := Eqq.mk (show Au.moreF ks (l.take (i + 1)) = mv by rw [HT.out, hk1, hk2]; rfl)
          clear hk1 hk2
          go_wp2_with fail
          with_reducible refine (isKey_any c _ rfl _).mono ?_
          rw [HK1.out]
          rintro e w2 ⟨rfl, rfl⟩
          go_wp2_with (rw [HCV1.out _ HB.out]; simp only [Result.andThen]; rw [Oper.upon_value])
          with_reducible refine (Tryz.strings_Contains_one (ba ks) c _).mono ?_
          rw [HK2.out]
          rintro e w3 ⟨rfl, rfl⟩
          go_wp2_with fail
          go_roundw
          case rel => exact ⟨i + 1, by omega, by go_num, by rw [HT2.out]; exact HO.out, HB.out⟩
          case measure => simp [intOf]; omega
    · obtain rfl : i = n := by omega
      have HFL := Eqq.mk (show l.take i = l by rw [← hn, ← HLN.out, List.take_length])
      rw [HFL.out] at HO hml
      obtain ⟨mv, hmv⟩ : ∃ m, Au.moreF ks l = m := ⟨_, rfl⟩
      rw [hmv] at HO hml
      have HCH := Eqq.mk (show Au.choicesF ks l = ks ++ mv by unfold Au.choicesF; rw [hmv])
      obtain ⟨ao2, cap2, rfl⟩ := HO.out.frame
      have HKO2 := Lib.hid (HKO.out.below HB.out (Nat.le_refl _))
      clear hmv
      by_cases h0 : mv = []
      · subst h0
        go_wp2_with fail
        go_ret
        exact ⟨⟨_, b0, rfl, by rw [HCH.out, List.append_nil]; exact HKO2.out⟩, HB.out⟩
      · have hpos : 0 < mv.length := List.length_pos_iff.2 h0
        have h0' : ¬ ((mv.length : Int) = 0) := by omega
        have h0'' : ((mv.length : Int) == 0) = false := by rw [beq_eq_false_iff_ne]; exact h0'
        have HE := Lib.hid (OwnG.empty (E := byteE) 5 w.heap.size wr HB.out.size)
        have HBE := Lib.hid (HB.out.alloc HB.out.size (.cells #[] 5))
        have HSR := Lib.hid ((HKO2.out.alloc (.cells #[] 5)).lie.src)
        have hs0 := HB.out.size
        go_wp2_with (at_builtin; refine wpList_append_g bytesApp _ rfl _ _ rfl w.heap.size _ [] rfl HE.out _ ks rfl HSR.out (by simp; unfold maxLen; omega) (by show (([] : List UInt8).length + ks.length) * 1 ≤ _; simp; omega) (by simp; omega) ?_)
        intro v1 w1 ho1 hg1
        have HO1 := Lib.hid ho1
        have HB1 := Lib.hid (HBE.out.grown hg1 (by simp; omega) (fun b hb => (HE.out.block_lt b hb).1))
        have HS2 := Lib.hid (show SrcG byteE (.slice ao2 mv.length cap2) mv w1 from
          ((HO.out.alloc (.cells #[] 5)).grown hg1 (fun b hb e => by
            have h1 := (HO.out.block_lt b hb).2
            have h2 : (Value.slice (some ⟨wr.heap.size, 0, none⟩) 0 0).ownBlock = some wr.heap.size := rfl
            rw [h2] at e
            injection e with e
            omega)).lie.src)
        obtain ⟨ao3, cap3, rfl⟩ := ho1.frame
        clear ho1 hg1
        go_wp2_with (at_builtin; refine wpList_append_g bytesApp _ rfl _ _ rfl w.heap.size _ ks rfl HO1.out _ mv rfl HS2.out (by unfold maxLen; omega) (by show (ks.length + mv.length) * 1 ≤ _; omega) HB1.out.size ?_)
        intro v2 w2 ho2 hg2
        have HO2 := Lib.hid ho2
        have HB2 := Lib.hid (HB1.out.grown hg2 HB1.out.size (fun b hb => (HO1.out.block_lt b hb).1))
        obtain ⟨ao4, cap4, rfl⟩ := ho2.frame
        clear ho2 hg2
        go_wp2_with fail
        go_ret
        exact ⟨⟨_, _, rfl, by rw [HCH.out]; exact HO2.out⟩, HB2.out⟩
end Go.Proofs.YtgdcffahhpeibaaGreatDoor
