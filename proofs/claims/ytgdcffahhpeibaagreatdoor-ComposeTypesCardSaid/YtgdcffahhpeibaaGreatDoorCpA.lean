/-
  Texts merged (buffers, their validity, texts and keys): CpMath, CpBytes, CpValid, CpGiven, CpRules, CpSame, CpJoin, CpText, CpRText.
-/
import Derived.Test.YtgdcffahhpeibaaGreatDoorAuLaws
import Derived.Test.YtgdcffahhpeibaaGreatDoorAuCount
import Derived.Test.YtgdcffahhpeibaaGreatDoorAuAfter
import Derived.Deep.RegionLaw
import Derived.Deep.RegionHeld3
import Derived.Deep.AppendLies
import Derived.Test.YtgdcffahhpeibaaGreatDoorRoCheck
import Derived.StillTailTactics
import Derived.Laws.AppendOwn
import Derived.BigQuiet
import Derived.OwnWalk
namespace Go.Proofs.YtgdcffahhpeibaaGreatDoor
namespace Cp
open UT (Bs)
/-- an item: the keys that wrote it, the character -/
abbrev Item := Bs × Bs
structure Buf where
  items : List Item
  caret : Int
  pend : Bs
  deriving DecidableEq
def okB (low : Nat) (s : Bs) : Bool := s.all fun b => decide (low ≤ b.toNat) && decide (b.toNat ≤ 126)
def itemOk (x : Item) : Bool := decide (UT.countZ x.2 = 1) && okB 32 x.1
def valid (b : Buf) : Bool := decide (b.items.length ≤ 64) && (decide (0 ≤ b.caret) && (decide (b.caret ≤ (b.items.length : Int)) && (decide (b.pend.length ≤ 8) && (okB 33 b.pend && b.items.all itemOk))))
/-- the items of a text: the keys go to the first -/
def mkItems (raw : Bs) : List Nat → List Item
  | [] => []
  | c :: cs => (raw, Lib.encodeRune (c : Int)) :: cs.map fun (c : Nat) => ([], Lib.encodeRune (c : Int))
def zero : Buf := ⟨[], 0, []⟩
/-- a text with its keys put at the caret -/
def ins (b : Buf) (new : List Item) : Buf := ⟨b.items.take b.caret.toNat ++ new ++ b.items.drop b.caret.toNat, b.caret + (new.length : Int), b.pend⟩
/-- what a string does not end with, cut off its end -/
def ends (s t : Bs) : Bs := if t.length ≤ s.length ∧ s.drop (s.length - t.length) = t then s.take (s.length - t.length) else s
def without (b : Buf) (i : Nat) (c : Int) : Buf := ⟨b.items.take i ++ b.items.drop (i + 1), c, b.pend⟩
/-- a key: the buffer, and 0, or what is wrong: 1 the argument, 2 full -/
def insert (l : List Ro.Rule) (b : Buf) (c : UInt8) : Option (Except Bool Buf) :=
  if valid b = true ∧ 33 ≤ c.toNat ∧ c.toNat ≤ 126 then
    if (Au.step l b.pend c).2.length ≤ 8 then
      if b.items.length + (UT.runes (Au.step l b.pend c).1).length ≤ 64 then some (.ok { ins b (mkItems (ends (b.pend ++ [c]) (Au.step l b.pend c).2) (UT.runes (Au.step l b.pend c).1)) with pend := (Au.step l b.pend c).2 })
      else some (.error true)
    else some (.error false)
  else none
def before (b : Buf) : Bs := (b.items.take b.caret.toNat).flatMap (·.2)
def after (b : Buf) : Bs := (b.items.drop b.caret.toNat).flatMap (·.2)
def rawOf (xs : List Item) : Bs := xs.flatMap (·.1)
def raw (b : Buf) : Bs := rawOf (b.items.take b.caret.toNat) ++ (b.pend ++ rawOf (b.items.drop b.caret.toNat))
theorem okB_take (low : Nat) (s : Bs) (k : Nat) (c : UInt8) (h : s[k]? = some c) : okB low (s.take (k + 1)) = (okB low (s.take k) && (decide (low ≤ c.toNat) && decide (c.toNat ≤ 126))) := by
  have hk : k < s.length := by
    rcases Nat.lt_or_ge k s.length with h' | h'
    · exact h'
    · rw [List.getElem?_eq_none h'] at h; cases h
  rw [List.getElem?_eq_getElem hk] at h
  injection h with h
  unfold okB
  rw [List.take_succ_eq_append_getElem hk, List.all_append, h]
  simp
theorem okB_bad (low : Nat) (s : Bs) (k : Nat) (c : UInt8) (h : s[k]? = some c) (hc : (decide (low ≤ c.toNat) && decide (c.toNat ≤ 126)) = false) : okB low s = false := by
  unfold okB
  rw [List.all_eq_false]
  exact ⟨c, List.mem_of_getElem? h, by rw [hc]; simp⟩
end Cp
end Go.Proofs.YtgdcffahhpeibaaGreatDoor
namespace Go.Proofs.YtgdcffahhpeibaaGreatDoor
open Go.RowKit
set_option maxRecDepth 100000 in
set_option maxHeartbeats 2000000 in
theorem rbytes_any (s : ByteArray) (l : List UInt8) (low : Nat) (z : Int) (hz : z = (low : Int)) (w : World) (h : Is s l) (hs : s.size ≤ 9223372036854775806) :
    Calls Tryz.prog 60 #[.string s, .int .u8 z] w fun e w' => e = .returned (.bool (Cp.okB low l)) ∧ Below w.heap.size w w' := by
  subst hz
  have HI := Lib.hid h
  obtain ⟨n, hn⟩ : ∃ n, s.size = n := ⟨_, rfl⟩
  have HN := Eqq.mk hn
  have HLN := Eqq.mk (show l.length = n by rw [← hn, h.size])
  rw [hn] at hs
  clear h hn
  go_enter Tryz.func60, Tryz.ntmps60
  go_wp2_with fail
  go_loopw [5] (fun iv wr => ∃ k : Nat, k ≤ n ∧ iv = .int .i64 k ∧ Cp.okB low (l.take k) = true ∧ Below w.heap.size w wr) (fun iv _ => n - (intOf iv).toNat)
  case atStart => exact ⟨0, Nat.zero_le _, rfl, rfl, Below.refl _ _⟩
  case round =>
    obtain ⟨k, hk, rfl, hok, hb⟩ := hrel
    have HB := Lib.hid hb
    have HOK := Eqq.mk hok
    clear hb hok
    by_cases hlt : k < n
    · have hlt' : k < s.size := by rw [HN.out]; exact hlt
      have hget := HI.out.get k hlt'
      have HT := Eqq.mk (Cp.okB_take low l k _ hget)
      have HBAD := Lib.hid (Cp.okB_bad low l k _ hget)
      obtain ⟨x, hx⟩ : ∃ x, s[k]'hlt' = x := ⟨_, rfl⟩
      rw [hx] at HT HBAD
      clear hget
      by_cases h1 : low ≤ x.toNat
      · have g1 : (low : Int) ≤ (x.toNat : Int) := by omega
        by_cases h2 : x.toNat ≤ 126
        · have g2 : (x.toNat : Int) ≤ 126 := by omega
          have HN2 := Eqq.mk (show Cp.okB low (l.take (k + 1)) = true by rw [HT.out, HOK.out, decide_eq_true h1, decide_eq_true h2]; rfl)
          clear h1 h2
          go_wp2_with fail
          go_roundw
          case rel => exact ⟨k + 1, by omega, by go_num, HN2.out, by first | exact HB.out | exact bel_dn HB.out _ | exact HB.out.drew⟩
          case measure => simp [intOf]; omega
        · have g2 : ¬ ((x.toNat : Int) ≤ 126) := by omega
          have HF := Eqq.mk (HBAD.out (by rw [decide_eq_false h2, Bool.and_false]))
          clear h1 h2
          go_wp2_with fail
          go_ret
          exact ⟨by rw [HF.out]; rfl, by first | exact HB.out | exact bel_dn HB.out _ | exact HB.out.drew⟩
      · have g1 : ¬ ((low : Int) ≤ (x.toNat : Int)) := by omega
        have HF := Eqq.mk (HBAD.out (by rw [decide_eq_false h1, Bool.false_and]))
        clear h1
        go_wp2_with fail
        go_ret
        exact ⟨by rw [HF.out]; rfl, by first | exact HB.out | exact bel_dn HB.out _ | exact HB.out.drew⟩
    · obtain rfl : k = n := by omega
      have HF := Eqq.mk (show Cp.okB low l = true by have := HOK.out; rwa [← HLN.out, List.take_length] at this)
      have hge : ¬ ((k : Int) < (s.size : Int)) := by rw [HN.out]; omega
      go_wp2_with fail
      go_ret
      exact ⟨by rw [HF.out]; rfl, HB.out⟩
set_option maxRecDepth 100000 in
set_option maxHeartbeats 2000000 in
theorem clo_in (low : Nat) (x : UInt8) (c : Nat) (w : World) (hc : w.cell? ⟨c, 0, none⟩ = some (.int .u8 (low : Int))) (D : Bool) (hD : (decide (x.toNat < low) || decide (126 < (x.toNat : Int))) = D) :
    Calls Tryz.prog 89 #[.int .u8 (x.toNat : Int), .pointer (some ⟨c, 0, none⟩)] w fun e w' => e = .returned (.bool D) ∧ w' = w := by
  by_cases h1 : x.toNat < low
  · have d1 : decide (x.toNat < low) = true := decide_eq_true h1
    have HD := Eqq.mk (show D = true by rw [← hD, d1, Bool.true_or])
    clear hD h1
    go_enter Tryz.func89, Tryz.ntmps89
    go_wp2_with fail
    go_ret
    exact ⟨by rw [HD.out]; rfl, rfl⟩
  · have d1 : decide (x.toNat < low) = false := decide_eq_false h1
    rw [d1, Bool.false_or] at hD
    cases D
    · have d2 : decide (126 < (x.toNat : Int)) = false := hD
      clear hD h1
      go_enter Tryz.func89, Tryz.ntmps89
      go_wp2_with fail
      go_ret
      exact ⟨rfl, rfl⟩
    · have d2 : decide (126 < (x.toNat : Int)) = true := hD
      clear hD h1
      go_enter Tryz.func89, Tryz.ntmps89
      go_wp2_with fail
      go_ret
      exact ⟨rfl, rfl⟩
theorem in_not (low : Nat) (x : UInt8) : (decide (x.toNat < low) || decide (126 < (x.toNat : Int))) = !(decide (low ≤ x.toNat) && decide (x.toNat ≤ 126)) := by
  rw [Bool.eq_iff_iff]
  simp
  omega
/-- what IndexFunc answers -/
def InV (b : Bool) (e : Ending) : Prop := (b = true ∧ e = .returned (.int .i64 (-1))) ∨ (b = false ∧ ∃ k : Nat, e = .returned (.int .i64 (k : Int)))
set_option maxRecDepth 100000 in
set_option maxHeartbeats 2000000 in
theorem idx_in (low : Nat) (l : List UInt8) (g c n cap : Nat) (w : World) (hn : l.length = n) (hm : n ≤ 100000000000000) (hx : ∀ (k : Nat) x, l[k]? = some x → w.cell? ⟨g, k, none⟩ = some (.int .u8 (x.toNat : Int))) (hc : w.cell? ⟨c, 0, none⟩ = some (.int .u8 (low : Int))) :
    Calls Tryz.prog 117 #[.slice (some ⟨g, 0, none⟩) n cap, .func (.func 89) #[] #[.pointer (some ⟨c, 0, none⟩)]] w fun e w' => InV (Cp.okB low l) e ∧ w' = w := by
  have HX := Lib.hid hx
  have HC := Lib.hid hc
  have HN := Eqq.mk hn
  clear hx hc hn
  go_enter Tryz.func117, Tryz.ntmps117
  go_wp2_with fail
  go_loopw [8] (fun iv wr => ∃ k : Nat, k ≤ n ∧ iv = .int .i64 k ∧ Cp.okB low (l.take k) = true ∧ wr = w) (fun iv _ => n - (intOf iv).toNat)
  case atStart => exact ⟨0, Nat.zero_le _, rfl, rfl, rfl⟩
  case round =>
    obtain ⟨k, hk, rfl, hok, rfl⟩ := hrel
    have HOK := Eqq.mk hok
    clear hok
    by_cases hlt : k < n
    · obtain ⟨x, hx⟩ : ∃ x, l[k]? = some x := ⟨_, List.getElem?_eq_getElem (by rw [HN.out]; exact hlt)⟩
      have c1 := HX.out k x hx
      have HT := Eqq.mk (Cp.okB_take low l k _ hx)
      have HBAD := Lib.hid (Cp.okB_bad low l k _ hx)
      have g1 : (k : Int) < (n : Int) := by omega
      have g2 : (0 : Int) ≤ (k : Int) := by omega
      obtain ⟨D, hD⟩ : ∃ D, (decide (x.toNat < low) || decide (126 < (x.toNat : Int))) = D := ⟨_, rfl⟩
      have HD := Eqq.mk hD
      have hD2 := hD
      rw [in_not] at hD2
      clear hx hD
      cases D
      · have HN2 := Eqq.mk (show Cp.okB low (l.take (k + 1)) = true by rw [HT.out, HOK.out, Bool.true_and]; simpa using hD2)
        clear hD2
        go_wp2_with fail
        with_reducible refine (clo_in low x c _ HC.out false HD.out).mono ?_
        rintro e w2 ⟨rfl, rfl⟩
        go_wp2_with fail
        go_roundw
        case rel => exact ⟨k + 1, by omega, by go_num, HN2.out, by first | rfl | trivial⟩
        case measure => simp [intOf]; omega
      · have HF := Eqq.mk (HBAD.out (by rw [Bool.not_eq_true'] at hD2; exact hD2))
        clear hD2
        go_wp2_with fail
        with_reducible refine (clo_in low x c _ HC.out true HD.out).mono ?_
        rintro e w2 ⟨rfl, rfl⟩
        go_wp2_with fail
        go_ret
        exact ⟨.inr ⟨HF.out, k, rfl⟩, rfl⟩
    · obtain rfl : k = n := by omega
      have HF := Eqq.mk (show Cp.okB low l = true by have := HOK.out; rwa [← HN.out, List.take_length] at this)
      go_wp2_with fail
      go_ret
      exact ⟨.inl ⟨HF.out, rfl⟩, rfl⟩
set_option maxRecDepth 100000 in
set_option maxHeartbeats 2000000 in
theorem has_in (low : Nat) (l : List UInt8) (g c n cap : Nat) (w : World) (hn : l.length = n) (hm : n ≤ 100000000000000) (hx : ∀ (k : Nat) x, l[k]? = some x → w.cell? ⟨g, k, none⟩ = some (.int .u8 (x.toNat : Int))) (hc : w.cell? ⟨c, 0, none⟩ = some (.int .u8 (low : Int))) :
    Calls Tryz.prog 88 #[.slice (some ⟨g, 0, none⟩) n cap, .func (.func 89) #[] #[.pointer (some ⟨c, 0, none⟩)]] w fun e w' => e = .returned (.bool (!Cp.okB low l)) ∧ w' = w := by
  have HX := Lib.hid hx
  have HC := Lib.hid hc
  have HN := Eqq.mk hn
  obtain ⟨b, hb⟩ : ∃ b, Cp.okB low l = b := ⟨_, rfl⟩
  have HB := Eqq.mk hb
  clear hx hc hn
  rw [hb]
  clear hb
  go_enter Tryz.func88, Tryz.ntmps88
  go_wp2_with fail
  with_reducible refine (idx_in low l g c n cap w HN.out hm HX.out HC.out).mono ?_
  rw [HB.out]
  rintro e w1 ⟨hi, rfl⟩
  rcases hi with ⟨rfl, rfl⟩ | ⟨rfl, k, rfl⟩
  · go_wp2_with fail
    go_ret
    exact ⟨rfl, rfl⟩
  · have g2 : (0 : Int) ≤ (k : Int) := by omega
    go_wp2_with fail
    go_ret
    exact ⟨rfl, rfl⟩
set_option maxRecDepth 100000 in
set_option maxHeartbeats 2000000 in
theorem within_any (s : ByteArray) (l : List UInt8) (low : Nat) (z : Int) (hz : z = (low : Int)) (w : World) (h : Is s l) (hs : s.size ≤ 100000000000000) :
    Calls Tryz.prog 61 #[.string s, .int .u8 z] w fun e w' => e = .returned (.bool (Cp.okB low l)) ∧ Below w.heap.size w w' := by
  subst hz
  have HI := Lib.hid h
  have HZ := Eqq.mk (show l.length = s.size by rw [h.size])
  have hcv := run_bytes_of_string (P := Tryz.prog) (w.alloc (.cells #[.int .u8 (low : Int)] 5)) 9 57 5 s Tryz.underlying9 Tryz.underlying57 Tryz.underlying5
  obtain ⟨cap, hcap⟩ : ∃ cap, grownCap (w.alloc (.cells #[.int .u8 (low : Int)] 5)) s.size 0 5 = cap := ⟨_, rfl⟩
  obtain ⟨C, hC⟩ : ∃ C, bytesRow s cap = C := ⟨_, rfl⟩
  rw [hcap, hC] at hcv
  have HC := Eqq.mk hC
  have hc0 : (w.alloc (.cells #[.int .u8 (low : Int)] 5)).cell? ⟨w.heap.size, 0, none⟩ = some (.int .u8 (low : Int)) := cell_one_new w (.int .u8 (low : Int)) 5 0 _ rfl
  have hbb := (Below.refl _ (w.alloc (.cells #[.int .u8 (low : Int)] 5)).drew).alloc (Nat.le_refl _) (.cells C 5 (C.size, C.size + 1))
  have HC0 := Lib.hid (below_cellU (show (w.alloc (.cells #[.int .u8 (low : Int)] 5)).drew.cell? ⟨w.heap.size, 0, none⟩ = some (.int .u8 (low : Int)) from hc0) hbb (Nat.le_refl _))
  have HX := Lib.hid (show ∀ (k : Nat) x, l[k]? = some x → ((w.alloc (.cells #[.int .u8 (low : Int)] 5)).drew.alloc (.cells C 5 (C.size, C.size + 1))).cell? ⟨w.heap.size + 1, k, none⟩ = some (.int .u8 (x.toNat : Int)) from fun k x hk => by
    have hg := (MapKept.heap_alloc (w.alloc (.cells #[.int .u8 (low : Int)] 5)).drew (.cells C 5 (C.size, C.size + 1))).1
    have e : (w.alloc (.cells #[.int .u8 (low : Int)] 5)).drew.heap.size = w.heap.size + 1 := World.size_alloc w _
    rw [e] at hg
    rw [Lib.cell_of_heap hg, ← HC.out]
    unfold bytesRow
    have hkl : k < s.size := by
      rw [← HZ.out]
      rcases Nat.lt_or_ge k l.length with h' | h'
      · exact h'
      · rw [List.getElem?_eq_none h'] at hk; cases hk
    rw [Array.getElem?_append_left (by rw [Array.size_map]; exact hkl), Array.getElem?_map, ← Array.getElem?_toList, HI.out.data, hk]
    rfl)
  have HB := Lib.hid (show Below w.heap.size w ((w.alloc (.cells #[.int .u8 (low : Int)] 5)).drew.alloc (.cells C 5 (C.size, C.size + 1))) from ((Below.refl _ w).alloc (Nat.le_refl _) _).drew.trans (hbb.mono (by show w.heap.size ≤ (w.alloc _).heap.size; rw [World.size_alloc]; omega)))
  have HX1 := Lib.hid (show ∀ (k : Nat) x, l[k]? = some x → ((w.alloc (.cells #[.int .u8 (low : Int)] 5)).alloc (.cells C 5 (C.size, C.size + 1))).drew.cell? ⟨w.heap.size + 1, k, none⟩ = some (.int .u8 (x.toNat : Int)) from HX.out)
  have HC1 := Lib.hid (show ((w.alloc (.cells #[.int .u8 (low : Int)] 5)).alloc (.cells C 5 (C.size, C.size + 1))).drew.cell? ⟨w.heap.size, 0, none⟩ = some (.int .u8 (low : Int)) from HC0.out)
  have HB1 := Lib.hid (show Below w.heap.size w ((w.alloc (.cells #[.int .u8 (low : Int)] 5)).alloc (.cells C 5 (C.size, C.size + 1))).drew from HB.out)
  rw [World.size_alloc] at hcv
  clear h hcap hC hc0 hbb
  go_enter Tryz.func61, Tryz.ntmps61
  go_wp2_with fail
  clear hcv
  with_reducible refine (has_in low l (w.heap.size + 1) w.heap.size s.size cap _ HZ.out hs HX1.out HC1.out).mono ?_
  rintro e w2 ⟨rfl, rfl⟩
  obtain ⟨b, hb⟩ : ∃ b, Cp.okB low l = b := ⟨_, rfl⟩
  rw [hb]
  have HBE := Eqq.mk hb
  clear hb
  go_wp2_with fail
  go_ret
  exact ⟨by rw [HBE.out]; cases b <;> rfl, HB1.out⟩
end Go.Proofs.YtgdcffahhpeibaaGreatDoor
namespace Go.Proofs.YtgdcffahhpeibaaGreatDoor
open Go.RowKit
/-- an item, as it lies -/
def itemE : Enc Cp.Item where
  k := 2
  enc := fun x => [.string (ba x.1), .string (ba x.2)]
  pos := by decide
  len := fun _ => rfl
  one := fun c u hu => by
    simp only [List.mem_cons, List.not_mem_nil, or_false] at hu
    rcases hu with rfl | rfl <;> rfl
/-- a buffer's value -/
abbrev bufV (v : Value) (c : Int) (p : ByteArray) : Value := .agg #[v, .int .i64 c, .string p]
/-- sizes that memory bears -/
structure Fits (xs : List Cp.Item) (pl : List UInt8) : Prop where
  n : xs.length ≤ 2000000
  p : pl.length ≤ 2000000
  x : ∀ x ∈ xs, x.1.length ≤ 2000000 ∧ x.2.length ≤ 2000000
theorem valid_no {b : Cp.Buf} (h : 64 < b.items.length ∨ b.caret < 0 ∨ (b.items.length : Int) < b.caret ∨ 8 < b.pend.length ∨ Cp.okB 33 b.pend = false ∨ b.items.all Cp.itemOk = false) : Cp.valid b = false := by
  cases hv : Cp.valid b
  · rfl
  · unfold Cp.valid at hv
    simp only [Bool.and_eq_true, decide_eq_true_eq] at hv
    obtain ⟨h1, h2, h3, h4, h5, h6⟩ := hv
    rcases h with h | h | h | h | h | h
    · omega
    · omega
    · omega
    · omega
    · rw [h5] at h; cases h
    · rw [h6] at h; cases h
theorem valid_yes {b : Cp.Buf} (h1 : b.items.length ≤ 64) (h2 : 0 ≤ b.caret) (h3 : b.caret ≤ (b.items.length : Int)) (h4 : b.pend.length ≤ 8) (h5 : Cp.okB 33 b.pend = true) (h6 : b.items.all Cp.itemOk = true) : Cp.valid b = true := by
  unfold Cp.valid
  rw [decide_eq_true h1, decide_eq_true h2, decide_eq_true h3, decide_eq_true h4, h5, h6]
  rfl
theorem take_snoc9 {α : Type} (xs : List α) (k : Nat) (r : α) (h : xs[k]? = some r) : xs.take (k + 1) = xs.take k ++ [r] := by
  have hk : k < xs.length := by
    rcases Nat.lt_or_ge k xs.length with h' | h'
    · exact h'
    · rw [List.getElem?_eq_none h'] at h; cases h
  rw [List.getElem?_eq_getElem hk] at h
  injection h with h
  rw [List.take_succ_eq_append_getElem hk, h]
theorem all_take {α : Type} (f : α → Bool) (xs : List α) (k : Nat) (x : α) (h : xs[k]? = some x) : (xs.take (k + 1)).all f = ((xs.take k).all f && f x) := by
  rw [take_snoc9 xs k x h, List.all_append]
  simp
theorem all_bad {α : Type} (f : α → Bool) (xs : List α) (k : Nat) (x : α) (h : xs[k]? = some x) (hf : f x = false) : xs.all f = false := by
  rw [List.all_eq_false]
  exact ⟨x, List.mem_of_getElem? h, by rw [hf]; simp⟩
set_option maxRecDepth 100000 in
set_option maxHeartbeats 4000000 in
theorem check8_any (v : Value) (xs : List Cp.Item) (c : Int) (p : ByteArray) (pl : List UInt8) (w : World) (h : LieG itemE v xs w) (hp : Is p pl) (hf : Fits xs pl) (ht : Tabs w) :
    Calls Tryz.prog 22 #[bufV v c p] w fun e w' => e = .returned (.int .i64 (if Cp.valid ⟨xs, c, pl⟩ = true then 0 else 1)) ∧ Below w.heap.size w w' := by
  have HP := Lib.hid hp
  have HF := Lib.hid hf
  have HT := Lib.hid ht
  have HL := Lib.hid h
  have hpz : p.size ≤ 2000000 := by rw [hp.size]; exact hf.p
  have HPZ := Eqq.mk (show pl.length = p.size by rw [hp.size])
  obtain ⟨ao, cap, rfl, hcap, _, _, hx⟩ := h
  have HX := Lib.hid hx
  have hnz := hf.n
  obtain ⟨n, hn⟩ : ∃ n, xs.length = n := ⟨_, rfl⟩
  have HN := Eqq.mk hn
  rw [hn] at hnz HL ⊢
  have HVN := Lib.hid (fun h => valid_no (b := ⟨xs, c, pl⟩) h)
  obtain ⟨V, hV⟩ : ∃ V, Cp.valid ⟨xs, c, pl⟩ = V := ⟨_, rfl⟩
  obtain ⟨E, hE⟩ : ∃ E : Int, (if V = true then 0 else 1) = E := ⟨_, rfl⟩
  have HE := Eqq.mk hE
  rw [hV, hE]
  clear hE
  rw [hV] at HVN
  have HVY := Lib.hid (fun h1 h2 h3 h4 h5 h6 => valid_yes (b := ⟨xs, c, pl⟩) h1 h2 h3 h4 h5 h6)
  rw [hV] at HVY
  dsimp only at HVN HVY
  rw [HN.out, HPZ.out] at HVN HVY
  have HBX := Lib.hid ((Below.refl w.heap.size w).alloc (Nat.le_refl _) (.cells #[.slice ao n cap, .int .i64 c, .string p] 33))
  clear hp hf ht hx hcap hn hV
  by_cases h1 : 64 < n
  · have HR := Eqq.mk (HVN.out (.inl h1))
    have d1 : decide ((64 : Int) < (n : Int)) = true := decide_eq_true (by omega)
    clear h1
    go_enter Tryz.func22, Tryz.ntmps22
    go_wp2_with fail
    go_ret
    exact ⟨by rw [← HE.out, HR.out]; rfl, HBX.out⟩
  have d1 : decide ((64 : Int) < (n : Int)) = false := decide_eq_false (by omega)
  by_cases h2 : c < 0
  · have HR := Eqq.mk (HVN.out (.inr (.inl h2)))
    have d2 : decide (c < 0) = true := decide_eq_true h2
    clear h1 h2
    go_enter Tryz.func22, Tryz.ntmps22
    go_wp2_with fail
    go_ret
    exact ⟨by rw [← HE.out, HR.out]; rfl, HBX.out⟩
  have d2 : decide (c < 0) = false := decide_eq_false h2
  by_cases h3 : (n : Int) < c
  · have HR := Eqq.mk (HVN.out (.inr (.inr (.inl h3))))
    have d3 : decide ((n : Int) < c) = true := decide_eq_true h3
    clear h1 h2 h3
    go_enter Tryz.func22, Tryz.ntmps22
    go_wp2_with fail
    go_ret
    exact ⟨by rw [← HE.out, HR.out]; rfl, HBX.out⟩
  have d3 : decide ((n : Int) < c) = false := decide_eq_false h3
  by_cases h4 : 8 < p.size
  · have HR := Eqq.mk (HVN.out (.inr (.inr (.inr (.inl h4)))))
    have d4 : decide ((8 : Int) < (p.size : Int)) = true := decide_eq_true (by omega)
    clear h1 h2 h3 h4
    go_enter Tryz.func22, Tryz.ntmps22
    go_wp2_with fail
    go_ret
    exact ⟨by rw [← HE.out, HR.out]; rfl, HBX.out⟩
  have d4 : decide ((8 : Int) < (p.size : Int)) = false := decide_eq_false (by omega)
  have HVZ := Lib.hid (fun h5 h6 => HVY.out (by omega) (by omega) (by omega) (by omega) h5 h6)
  clear h1 h2 h3 h4
  obtain ⟨D, hD⟩ : ∃ D, Cp.okB 33 pl = D := ⟨_, rfl⟩
  have HDD := Eqq.mk hD
  clear hD
  have hpz9 : p.size ≤ 100000000000000 := by omega
  go_enter Tryz.func22, Tryz.ntmps22
  go_wp2_with fail
  with_reducible refine (within_any p pl 33 33 rfl _ HP.out hpz9).mono ?_
  rw [HDD.out]
  rintro e w1 ⟨rfl, hb⟩
  have c0 := below_cellU (box3_0 w (.slice ao n cap) (.int .i64 c) (.string p) 33) hb (Nat.le_refl _)
  have HB1 := Lib.hid (HBX.out.trans (hb.mono HBX.out.size))
  clear hb
  cases D
  · have HR := Eqq.mk (HVN.out (.inr (.inr (.inr (.inr (.inl HDD.out))))))
    go_wp2_with fail
    go_ret
    exact ⟨by rw [← HE.out, HR.out]; rfl, HB1.out⟩
  go_wp2_with fail
  clear c0 d1 d2 d3 d4
  go_loopw [37] (fun iv wr => ∃ k : Nat, k ≤ n ∧ iv = .int .i64 k ∧ (xs.take k).all Cp.itemOk = true ∧ Below w.heap.size w wr) (fun iv _ => n - (intOf iv).toNat)
  case atStart => exact ⟨0, Nat.zero_le _, rfl, rfl, HB1.out⟩
  case round =>
    obtain ⟨k, hk, rfl, hok, hb⟩ := hrel
    have HOK := Eqq.mk hok
    have HB := Lib.hid hb
    clear hok hb
    by_cases hlt : k < n
    · obtain ⟨⟨x1, x2⟩, hx⟩ : ∃ x, xs[k]? = some x := ⟨_, List.getElem?_eq_getElem (by rw [HN.out]; exact hlt)⟩
      obtain ⟨g, o, rfl, hcc⟩ := HX.out k _ hx
      have e1 : wr.cell? ⟨g, o + k * 2, none⟩ = some (.string (ba x1)) := below_cellU (by have h := hcc 0 _ rfl; exact h) HB.out (Nat.le_refl _)
      have e2 : wr.cell? ⟨g, o + k * 2 + 1, none⟩ = some (.string (ba x2)) := below_cellU (by have h := hcc 1 _ rfl; exact h) HB.out (Nat.le_refl _)
      obtain ⟨z1, z2⟩ := HF.out.x _ (List.mem_of_getElem? hx)
      dsimp only at z1 z2
      have HAT := Eqq.mk (all_take Cp.itemOk xs k _ hx)
      have HAB := Lib.hid (fun hf => all_bad Cp.itemOk xs k _ hx hf)
      have HI1 := Lib.hid (is_ba x1)
      have HI2 := Lib.hid (is_ba x2)
      have hz1 := ba_size x1
      have hz2 := ba_size x2
      obtain ⟨b1, hb1⟩ : ∃ b, ba x1 = b := ⟨_, rfl⟩
      obtain ⟨b2, hb2⟩ : ∃ b, ba x2 = b := ⟨_, rfl⟩
      rw [hb1] at e1 HI1 hz1
      rw [hb2] at e2 HI2 hz2
      have y1 : b1.size ≤ 100000000000000 := by omega
      have y2 : b2.size < 9223372036854775807 := by omega
      have g1 : (k : Int) < (n : Int) := by omega
      have g2 : (0 : Int) ≤ (k : Int) := by omega
      obtain ⟨Z, hZ⟩ : ∃ Z, UT.countZ x2 = Z := ⟨_, rfl⟩
      have HZ := Eqq.mk hZ
      have HBA := Lib.hid (HB.out.alloc HB.out.size (.cells #[.string b1, .string b2] 106))
      have HBW := Lib.hid ((Below.refl wr.heap.size wr).alloc (Nat.le_refl _) (.cells #[.string b1, .string b2] 106))
      clear hx hcc hb1 hb2 hz1 hz2 z1 z2 hZ
      go_wp2_with fail
      with_reducible refine (pcount_any b2 x2 _ HI2.out y2 (HT.out.keep HBA.out)).mono ?_
      rw [HZ.out]
      rintro e w2 ⟨rfl, hb⟩
      have e3 := below_cellU (box2_0 wr (.string b1) (.string b2) 106) hb (Nat.le_refl _)
      have HB2 := Lib.hid (HBA.out.trans (hb.mono HBA.out.size))
      clear hb e1 e2
      by_cases hz : Z = 1
      · subst hz
        obtain ⟨D, hD⟩ : ∃ D, Cp.okB 32 x1 = D := ⟨_, rfl⟩
        have HDI := Eqq.mk (show Cp.itemOk (x1, x2) = D by unfold Cp.itemOk; rw [HZ.out, hD]; rfl)
        have HDO := Eqq.mk hD
        clear hD
        go_wp2_with fail
        with_reducible refine (within_any b1 x1 32 32 rfl _ HI1.out y1).mono ?_
        rw [HDO.out]
        rintro e w3 ⟨rfl, hb⟩
        have HB3 := Lib.hid (HB2.out.trans (hb.mono HB2.out.size))
        clear hb
        cases D
        · have HR := Eqq.mk (HVN.out (.inr (.inr (.inr (.inr (.inr (HAB.out HDI.out)))))))
          go_wp2_with fail
          go_ret
          exact ⟨by rw [← HE.out, HR.out]; rfl, HB3.out⟩
        · have HN2 := Eqq.mk (show (xs.take (k + 1)).all Cp.itemOk = true by rw [HAT.out, HOK.out, HDI.out]; rfl)
          go_wp2_with fail
          go_roundw
          case rel => exact ⟨k + 1, by omega, by go_num, HN2.out, HB3.out⟩
          case measure => simp [intOf]; omega
      · have HDI := Eqq.mk (show Cp.itemOk (x1, x2) = false by unfold Cp.itemOk; rw [HZ.out, decide_eq_false hz]; rfl)
        have q1 : (Z == 1) = false := by rw [beq_eq_false_iff_ne]; exact hz
        have q2 : (Z != 1) = true := by rw [bne, q1]; rfl
        have HR := Eqq.mk (HVN.out (.inr (.inr (.inr (.inr (.inr (HAB.out HDI.out)))))))
        clear hz
        go_wp2_with fail
        go_ret
        exact ⟨by rw [← HE.out, HR.out]; rfl, HB2.out⟩
    · obtain rfl : k = n := by omega
      have HR := Eqq.mk (HVZ.out HDD.out (by have := HOK.out; rwa [← HN.out, List.take_length] at this))
      go_wp2_with fail
      go_ret
      exact ⟨by rw [← HE.out, HR.out]; rfl, HB.out⟩
set_option maxRecDepth 100000 in
set_option maxHeartbeats 4000000 in
theorem rvalid_any (v : Value) (xs : List Cp.Item) (c : Int) (p : ByteArray) (pl : List UInt8) (w : World) (h : LieG itemE v xs w) (hp : Is p pl) (hf : Fits xs pl) :
    Calls Tryz.prog 20 #[bufV v c p] w fun e w' => e = .returned (.bool (Cp.valid ⟨xs, c, pl⟩)) ∧ Below w.heap.size w w' := by
  have HP := Lib.hid hp
  have HF := Lib.hid hf
  have HL := Lib.hid h
  have hpz : p.size ≤ 2000000 := by rw [hp.size]; exact hf.p
  have HPZ := Eqq.mk (show pl.length = p.size by rw [hp.size])
  obtain ⟨ao, cap, rfl, hcap, _, _, hx⟩ := h
  have HX := Lib.hid hx
  have hnz := hf.n
  obtain ⟨n, hn⟩ : ∃ n, xs.length = n := ⟨_, rfl⟩
  have HN := Eqq.mk hn
  rw [hn] at hnz HL ⊢
  have HVN := Lib.hid (fun h => valid_no (b := ⟨xs, c, pl⟩) h)
  obtain ⟨V, hV⟩ : ∃ V, Cp.valid ⟨xs, c, pl⟩ = V := ⟨_, rfl⟩
  rw [hV]
  rw [hV] at HVN
  have HVY := Lib.hid (fun h1 h2 h3 h4 h5 h6 => valid_yes (b := ⟨xs, c, pl⟩) h1 h2 h3 h4 h5 h6)
  rw [hV] at HVY
  dsimp only at HVN HVY
  rw [HN.out, HPZ.out] at HVN HVY
  have HBX := Lib.hid ((Below.refl w.heap.size w).alloc (Nat.le_refl _) (.cells #[.slice ao n cap, .int .i64 c, .string p] 42))
  clear hp hf hx hcap hn hV
  by_cases h1 : 64 < n
  · have HR := Eqq.mk (HVN.out (.inl h1))
    have d1 : decide ((64 : Int) < (n : Int)) = true := decide_eq_true (by omega)
    clear h1
    go_enter Tryz.func20, Tryz.ntmps20
    go_wp2_with fail
    go_ret
    exact ⟨by rw [HR.out]; rfl, HBX.out⟩
  have d1 : decide ((64 : Int) < (n : Int)) = false := decide_eq_false (by omega)
  by_cases h2 : c < 0
  · have HR := Eqq.mk (HVN.out (.inr (.inl h2)))
    have d2 : decide (c < 0) = true := decide_eq_true h2
    clear h1 h2
    go_enter Tryz.func20, Tryz.ntmps20
    go_wp2_with fail
    go_ret
    exact ⟨by rw [HR.out]; rfl, HBX.out⟩
  have d2 : decide (c < 0) = false := decide_eq_false h2
  by_cases h3 : (n : Int) < c
  · have HR := Eqq.mk (HVN.out (.inr (.inr (.inl h3))))
    have d3 : decide ((n : Int) < c) = true := decide_eq_true h3
    clear h1 h2 h3
    go_enter Tryz.func20, Tryz.ntmps20
    go_wp2_with fail
    go_ret
    exact ⟨by rw [HR.out]; rfl, HBX.out⟩
  have d3 : decide ((n : Int) < c) = false := decide_eq_false h3
  by_cases h4 : 8 < p.size
  · have HR := Eqq.mk (HVN.out (.inr (.inr (.inr (.inl h4)))))
    have d4 : decide ((8 : Int) < (p.size : Int)) = true := decide_eq_true (by omega)
    clear h1 h2 h3 h4
    go_enter Tryz.func20, Tryz.ntmps20
    go_wp2_with fail
    go_ret
    exact ⟨by rw [HR.out]; rfl, HBX.out⟩
  have d4 : decide ((8 : Int) < (p.size : Int)) = false := decide_eq_false (by omega)
  have HVZ := Lib.hid (fun h5 h6 => HVY.out (by omega) (by omega) (by omega) (by omega) h5 h6)
  clear h1 h2 h3 h4
  obtain ⟨D, hD⟩ : ∃ D, Cp.okB 33 pl = D := ⟨_, rfl⟩
  have HDD := Eqq.mk hD
  clear hD
  have hpz8 : p.size ≤ 9223372036854775806 := by omega
  go_enter Tryz.func20, Tryz.ntmps20
  go_wp2_with fail
  with_reducible refine (rbytes_any p pl 33 33 rfl _ HP.out hpz8).mono ?_
  rw [HDD.out]
  rintro e w1 ⟨rfl, hb⟩
  have c0 := below_cellU (box3_0 w (.slice ao n cap) (.int .i64 c) (.string p) 42) hb (Nat.le_refl _)
  have HB1 := Lib.hid (HBX.out.trans (hb.mono HBX.out.size))
  have HW1 := Lib.hid hb
  clear hb
  cases D
  · have HR := Eqq.mk (HVN.out (.inr (.inr (.inr (.inr (.inl HDD.out))))))
    go_wp2_with fail
    go_ret
    exact ⟨by rw [HR.out]; rfl, HB1.out⟩
  go_wp2_with fail
  clear c0 d1 d2 d3 d4
  go_loopw [3] (fun iv wr => ∃ k : Nat, k ≤ n ∧ iv = .int .i64 k ∧ (xs.take k).all Cp.itemOk = true ∧ Below (w.alloc (.cells #[.slice ao n cap, .int .i64 c, .string p] 42)).heap.size (w.alloc (.cells #[.slice ao n cap, .int .i64 c, .string p] 42)) wr) (fun iv _ => n - (intOf iv).toNat)
  case atStart => exact ⟨0, Nat.zero_le _, rfl, rfl, HW1.out⟩
  case round =>
    obtain ⟨k, hk, rfl, hok, hb⟩ := hrel
    have HOK := Eqq.mk hok
    have HB := Lib.hid (HBX.out.trans (hb.mono HBX.out.size))
    have HW := Lib.hid hb
    have c0 := below_cellU (box3_0 w (.slice ao n cap) (.int .i64 c) (.string p) 42) hb (Nat.le_refl _)
    clear hok hb
    by_cases hlt : k < n
    · obtain ⟨⟨x1, x2⟩, hx⟩ : ∃ x, xs[k]? = some x := ⟨_, List.getElem?_eq_getElem (by rw [HN.out]; exact hlt)⟩
      obtain ⟨g, o, rfl, hcc⟩ := HX.out k _ hx
      have e1 : wr.cell? ⟨g, o + k * 2, none⟩ = some (.string (ba x1)) := below_cellU (by have h := hcc 0 _ rfl; exact h) HB.out (Nat.le_refl _)
      have e2 : wr.cell? ⟨g, o + k * 2 + 1, none⟩ = some (.string (ba x2)) := below_cellU (by have h := hcc 1 _ rfl; exact h) HB.out (Nat.le_refl _)
      obtain ⟨z1, z2⟩ := HF.out.x _ (List.mem_of_getElem? hx)
      dsimp only at z1 z2
      have HAT := Eqq.mk (all_take Cp.itemOk xs k _ hx)
      have HAB := Lib.hid (fun hf => all_bad Cp.itemOk xs k _ hx hf)
      have HI1 := Lib.hid (is_ba x1)
      have HI2 := Lib.hid (is_ba x2)
      have hz1 := ba_size x1
      have hz2 := ba_size x2
      obtain ⟨b1, hb1⟩ : ∃ b, ba x1 = b := ⟨_, rfl⟩
      obtain ⟨b2, hb2⟩ : ∃ b, ba x2 = b := ⟨_, rfl⟩
      rw [hb1] at e1 HI1 hz1
      rw [hb2] at e2 HI2 hz2
      have y1 : b1.size ≤ 9223372036854775806 := by omega
      have y2 : b2.size ≤ 17592186044416 := by omega
      have g1 : (k : Int) < (n : Int) := by omega
      have g2 : (0 : Int) ≤ (k : Int) := by omega
      obtain ⟨Z, hZ⟩ : ∃ Z, UT.countZ x2 = Z := ⟨_, rfl⟩
      have HZ := Eqq.mk hZ
      clear hx hcc hb1 hb2 hz1 hz2 z1 z2 hZ
      go_wp2_with fail
      with_reducible refine (count_any b2 x2 _ HI2.out y2).mono ?_
      rw [show (if Lib.validD x2 = true then ((UT.runes x2).length : Int) else -1) = UT.countZ x2 from rfl, HZ.out]
      rintro e w2 ⟨rfl, hb⟩
      have e3 := below_cellU e1 hb (Nat.le_refl _)
      have c1 := below_cellU c0 hb (Nat.le_refl _)
      have HB2 := Lib.hid (HB.out.trans (hb.mono HB.out.size))
      have HW2 := Lib.hid (HW.out.trans (hb.mono HW.out.size))
      clear hb e1 e2 c0
      by_cases hz : Z = 1
      · subst hz
        obtain ⟨D, hD⟩ : ∃ D, Cp.okB 32 x1 = D := ⟨_, rfl⟩
        have HDI := Eqq.mk (show Cp.itemOk (x1, x2) = D by unfold Cp.itemOk; rw [HZ.out, hD]; rfl)
        have HDO := Eqq.mk hD
        clear hD
        go_wp2_with fail
        with_reducible refine (rbytes_any b1 x1 32 32 rfl _ HI1.out y1).mono ?_
        rw [HDO.out]
        rintro e w3 ⟨rfl, hb⟩
        have HB3 := Lib.hid (HB2.out.trans (hb.mono HB2.out.size))
        have HW3 := Lib.hid (HW2.out.trans (hb.mono HW2.out.size))
        clear hb c1
        cases D
        · have HR := Eqq.mk (HVN.out (.inr (.inr (.inr (.inr (.inr (HAB.out HDI.out)))))))
          go_wp2_with fail
          go_ret
          exact ⟨by rw [HR.out]; rfl, HB3.out⟩
        · have HN2 := Eqq.mk (show (xs.take (k + 1)).all Cp.itemOk = true by rw [HAT.out, HOK.out, HDI.out]; rfl)
          go_wp2_with fail
          go_roundw
          case rel => exact ⟨k + 1, by omega, by go_num, HN2.out, HW3.out⟩
          case measure => simp [intOf]; omega
      · have HDI := Eqq.mk (show Cp.itemOk (x1, x2) = false by unfold Cp.itemOk; rw [HZ.out, decide_eq_false hz]; rfl)
        have q1 : (Z == 1) = false := by rw [beq_eq_false_iff_ne]; exact hz
        have q2 : (Z != 1) = true := by rw [bne, q1]; rfl
        have HR := Eqq.mk (HVN.out (.inr (.inr (.inr (.inr (.inr (HAB.out HDI.out)))))))
        clear hz
        go_wp2_with fail
        go_ret
        exact ⟨by rw [HR.out]; rfl, HB2.out⟩
    · obtain rfl : k = n := by omega
      have HR := Eqq.mk (HVZ.out HDD.out (by have := HOK.out; rwa [← HN.out, List.take_length] at this))
      go_wp2_with fail
      go_ret
      exact ⟨by rw [HR.out]; rfl, HB.out⟩
end Go.Proofs.YtgdcffahhpeibaaGreatDoor
namespace Go.Proofs.YtgdcffahhpeibaaGreatDoor
open Go.RowKit
theorem infoItem8 : (Tryz.prog.info? 111).map (fun i => (i.zero, i.size, i.bytes)) = some (some (.agg #[.string ⟨#[]⟩, .string ⟨#[]⟩]), 2, 32) := by kernel_rfl
def item8App : AppT Tryz.prog itemE 40 111 where
  z := .agg #[.string ⟨#[]⟩, .string ⟨#[]⟩]
  bytes := 32
  under := Tryz.underlying40
  info := infoItem8
  zsz := rfl
/-- the buffer in block b holds the items, from B on, and the caret and the keys -/
def OutB (T T2 : TypeId) (B b : Nat) (xs : List Cp.Item) (c : Int) (p : ByteArray) (w : World) : Prop := b < B ∧ ∃ v, w.heap[b]? = some (.cells #[v, .int .i64 c, .string p] T (0, 0)) ∧ OwnG itemE T2 B v xs w
theorem OwnG.drew {α : Type} {E : Enc α} {T : TypeId} {B : Nat} {v : Value} {xs : List α} {w : World} (h : OwnG E T B v xs w) : OwnG E T B v xs w.drew := h
theorem own_set {α : Type} {E : Enc α} {T : TypeId} {B : Nat} {v : Value} {xs : List α} {w : World} (h : OwnG E T B v xs w) (b : Nat) (hb : b < B) (o : Nat) (u : Value) : OwnG E T B v xs (w.setCell ⟨b, o, none⟩ u) := by
  obtain ⟨h1, h2 | ⟨g, cap, cur, hv, hB', hg, r⟩⟩ := h
  · exact ⟨h1, .inl h2⟩
  · exact ⟨h1, .inr ⟨g, cap, cur, hv, hB', by rw [Below.heap_setCell _ _ _ _ (show g ≠ b by omega)]; exact hg, r⟩⟩
theorem three_set {w : World} {b : Nat} {T : TypeId} {x y z : Value} (h : w.heap[b]? = some (.cells #[x, y, z] T (0, 0))) (x' y' z' : Value) :
    (((w.setCell ⟨b, 0, none⟩ x').setCell ⟨b, 1, none⟩ y').setCell ⟨b, 2, none⟩ z').heap[b]? = some (.cells #[x', y', z'] T (0, 0)) := by
  have h1 := heap_setCell_same w b 0 _ _ x' h
  have h2 := heap_setCell_same _ b 1 _ _ y' h1
  exact heap_setCell_same _ b 2 _ _ z' h2
theorem three_new (w : World) (a b c : Obj) : ((w.alloc a).alloc b |>.alloc c).heap[w.heap.size]? = some a ∧ ((w.alloc a).alloc b |>.alloc c).heap[w.heap.size + 1]? = some b ∧ ((w.alloc a).alloc b |>.alloc c).heap[w.heap.size + 1 + 1]? = some c ∧ ((w.alloc a).alloc b |>.alloc c).heap.size = w.heap.size + 1 + 1 + 1 := by
  have h1 := (MapKept.heap_alloc w a).1
  have h2 := (MapKept.heap_alloc (w.alloc a) b).1
  have h3 := (MapKept.heap_alloc ((w.alloc a).alloc b) c).1
  rw [World.size_alloc] at h2
  rw [World.size_alloc, World.size_alloc] at h3
  refine ⟨?_, ?_, h3, by rw [World.size_alloc, World.size_alloc, World.size_alloc]⟩
  · rw [Lib.alloc_old _ _ _ (by rw [World.size_alloc, World.size_alloc]; omega), Lib.alloc_old _ _ _ (by rw [World.size_alloc]; omega)]; exact h1
  · rw [Lib.alloc_old _ _ _ (by rw [World.size_alloc, World.size_alloc]; omega)]; exact h2
set_option maxRecDepth 100000 in
set_option maxHeartbeats 4000000 in
theorem given8_any (v : Value) (xs : List Cp.Item) (c : Int) (p : ByteArray) (w : World) (h : LieG itemE v xs w) (hn : xs.length ≤ 2000000) :
    Calls Tryz.prog 19 #[bufV v c p] w fun e w' => (∃ v', e = .returned (bufV v' c p) ∧ OwnG itemE 111 w.heap.size v' xs w') ∧ Below w.heap.size w w' := by
  obtain ⟨ao, cap, rfl, hcap, _, _, hx⟩ := h
  have HX := Lib.hid hx
  obtain ⟨n, hn2⟩ : ∃ n, xs.length = n := ⟨_, rfl⟩
  have HN := Eqq.mk hn2
  have HTK := Eqq.mk (show xs.take n = xs by rw [← hn2, List.take_length])
  rw [hn2] at hn ⊢
  clear hx hcap hn2
  obtain ⟨S, hS⟩ : ∃ S, w.heap.size = S := ⟨_, rfl⟩
  have HS := Eqq.mk hS
  go_enter Tryz.func19, Tryz.ntmps19
  have HB0 := Lib.hid (show Below S w (((w.alloc (.cells #[.slice ao n cap, .int .i64 c, .string p] 33)).alloc (.cells #[.slice none 0 0, .int .i64 0, .string ⟨#[]⟩] 42)).alloc (.cells #[.slice none 0 0, .int .i64 c, .string p] 42)) from
    (((Below.refl S w).alloc (by omega) _).alloc (by simp; omega) _).alloc (by simp; omega) _)
  have HT := Lib.hid (three_new w (.cells #[.slice ao n cap, .int .i64 c, .string p] 33) (.cells #[.slice none 0 0, .int .i64 0, .string ⟨#[]⟩] 42) (.cells #[.slice none 0 0, .int .i64 c, .string p] 42))
  rw [hS] at HT
  go_wp2_with fail
  try rw [hS]
  clear hS
  obtain ⟨W0, hW0⟩ : ∃ W0, ((w.alloc (.cells #[.slice ao n cap, .int .i64 c, .string p] 33)).alloc (.cells #[.slice none 0 0, .int .i64 0, .string ⟨#[]⟩] 42)).alloc (.cells #[.slice none 0 0, .int .i64 c, .string p] 42) = W0 := ⟨_, rfl⟩
  rw [hW0] at HB0 HT ⊢
  clear hW0
  obtain ⟨t0, t1, t2, t3⟩ := HT.out
  have HT0 := Lib.hid t0
  have HT1 := Lib.hid t1
  have HO0 := Lib.hid (show OutB 42 111 (S + 1 + 1 + 1) (S + 1 + 1) [] c p W0 from ⟨by omega, _, t2, OwnG.nil _ _ _⟩)
  have HSZ := Lib.hid t3
  clear t0 t1 t2 t3
  go_loopw [4] (fun iv wr => ∃ k : Nat, k ≤ n ∧ iv = .int .i64 k ∧ OutB 42 111 (S + 1 + 1 + 1) (S + 1 + 1) (xs.take k) c p wr ∧ Below (S + 1 + 1) W0 wr) (fun iv _ => n - (intOf iv).toNat)
  case atStart => exact ⟨0, Nat.zero_le _, rfl, HO0.out, Below.refl _ _⟩
  case round =>
    obtain ⟨k, hk, rfl, ho, hb⟩ := hrel
    have HO := Lib.hid ho
    have HW := Lib.hid hb
    have HB := Lib.hid (HB0.out.trans (hb.mono (by omega)))
    have h0 : wr.heap[S]? = some (.cells #[.slice ao n cap, .int .i64 c, .string p] 33 (0, 0)) := by rw [hb.block S (by omega)]; exact HT0.out
    have h1 : wr.heap[S + 1]? = some (.cells #[.slice none 0 0, .int .i64 0, .string ⟨#[]⟩] 42 (0, 0)) := by rw [hb.block (S + 1) (by omega)]; exact HT1.out
    have H1 := Lib.hid h1
    have c0 : wr.cell? ⟨S, 0, none⟩ = some (.slice ao n cap) := by rw [Lib.cell_of_heap h0]; rfl
    obtain ⟨_, v, hv, hown⟩ := ho
    have hSw : S + 1 + 1 + 1 ≤ wr.heap.size := by have := hb.size; have := HSZ.out; omega
    clear hb h0 h1
    by_cases hlt : k < n
    · obtain ⟨⟨x1, x2⟩, hx⟩ : ∃ x, xs[k]? = some x := ⟨_, List.getElem?_eq_getElem (by rw [HN.out]; exact hlt)⟩
      have HTS := Eqq.mk (take_snoc9 xs k _ hx)
      obtain ⟨g, o, rfl, hcc⟩ := HX.out k _ hx
      have e1 : wr.cell? ⟨g, o + k * 2, none⟩ = some (.string (ba x1)) := below_cellU (by have h := hcc 0 _ rfl; exact h) HB.out (by rw [HS.out]; exact Nat.le_refl _)
      have e2 : wr.cell? ⟨g, o + k * 2 + 1, none⟩ = some (.string (ba x2)) := below_cellU (by have h := hcc 1 _ rfl; exact h) HB.out (by rw [HS.out]; exact Nat.le_refl _)
      obtain ⟨b1, hb1⟩ : ∃ b, ba x1 = b := ⟨_, rfl⟩
      obtain ⟨b2, hb2⟩ : ∃ b, ba x2 = b := ⟨_, rfl⟩
      have HE1 := Eqq.mk hb1
      have HE2 := Eqq.mk hb2
      rw [hb1] at e1
      rw [hb2] at e2
      obtain ⟨av, cv, hvf⟩ := hown.frame
      have htl : (xs.take k).length = k := by rw [List.length_take, HN.out]; omega
      rw [htl] at hvf
      subst hvf
      have c2 : wr.cell? ⟨S + 1 + 1, 0, none⟩ = some (.slice av k cv) := by rw [Lib.cell_of_heap hv]; rfl
      have HOW := Lib.hid (hown.alloc (.cells #[.string b1, .string b2] 111))
      have HOW0 := Lib.hid hown
      have HV := Lib.hid hv
      have g1 : (k : Int) < (n : Int) := by omega
      have g2 : (0 : Int) ≤ (k : Int) := by omega
      have HKP := Lib.hid (fun (W : World) (hW : Below (S + 1 + 1) wr W) => (show W.cell? ⟨S, 0, none⟩ = some (.slice (some ⟨g, o, none⟩) n cap) ∧ W.cell? ⟨g, o + k * 2, none⟩ = some (.string b1) ∧ W.cell? ⟨g, o + k * 2 + 1, none⟩ = some (.string b2) from
        ⟨(hW.cell (p := ⟨S, 0, none⟩) (by show S < _; omega)).trans c0, (hW.cell (p := ⟨g, o + k * 2, none⟩) (by have := World.block_lt_of_cell? w _ (hcc 0 _ rfl); have := HS.out; show g < _; simp at *; omega)).trans e1, (hW.cell (p := ⟨g, o + k * 2 + 1, none⟩) (by have := World.block_lt_of_cell? w _ (hcc 0 _ rfl); have := HS.out; show g < _; simp at *; omega)).trans e2⟩))
      have hSw2 : S + 1 + 1 ≤ wr.heap.size := by omega
      have c2a : (wr.alloc (.cells #[.string b1, .string b2] 111)).cell? ⟨S + 1 + 1, 0, none⟩ = some (.slice av k cv) := by rw [World.cell?_alloc_past _ _ _ (show S + 1 + 1 < wr.heap.size by omega)]; exact c2
      clear hx hcc hb1 hb2 hv hown
      go_wp2_with fail
      go_region_law
        (first
         | (refine step_append_g item8App _ rfl _ _ (by rfl) (S + 1 + 1 + 1) _ (xs.take k) (by rfl) HOW.out.drew _ [(x1, x2)] (by rfl) (SrcG.one (fun jj u hu => by
              have hu' : ([.string (ba x1), .string (ba x2)] : List Value)[jj]? = some u := hu
              rw [HE1.out, HE2.out] at hu'
              exact new_cells wr _ _ jj u hu')) (by unfold maxLen; rw [htl]; simp only [List.length_singleton]; omega) (by rw [htl]; show (k + 1) * 32 ≤ _; omega) (by simp; omega) ?_
            intro v' w2 ho' hg'
            obtain ⟨av', cv', hvf'⟩ := ho'.frame
            rw [List.length_append, List.length_singleton, htl] at hvf'
            subst hvf'
            have hne : ∀ b, b ≤ S + 1 + 1 → some b ≠ (Value.slice av k cv).ownBlock := fun b hb e => by have := (HOW0.out.block_lt b e.symm).1; omega
            have h2 : w2.heap[S + 1 + 1]? = some (.cells #[.slice av k cv, .int .i64 c, .string p] 42 (0, 0)) := by
              rw [hg'.block (S + 1 + 1) (by simp; omega) (hne _ (by omega))]
              show (wr.alloc _).heap[S + 1 + 1]? = _
              rw [Lib.alloc_old _ _ _ (by omega)]
              exact HV.out
            have c3 : w2.cell? ⟨S + 1 + 1, 0, none⟩ = some (.slice av k cv) := by rw [Lib.cell_of_heap h2]; rfl
            have f3 : w2.frozen? ⟨S + 1 + 1, 0, none⟩ = false := Lib.frozen_of_heap h2 0
            have HO2 := Lib.hid ho'
            have H2 := Lib.hid h2
            have HG2 := Lib.hid (show Below (S + 1 + 1 + 1) wr w2 from (((Below.refl (S + 1 + 1 + 1) wr).alloc hSw (.cells #[.string b1, .string b2] 111)).drew).grown hg' (by simp; omega) (fun b hb => (HOW0.out.block_lt b hb).1))
            clear ho' hg' h2)
         | fail)
      all_goals
        have HN2 := Lib.hid (show OutB 42 111 (S + 1 + 1 + 1) (S + 1 + 1) (xs.take (k + 1)) c p (w2.setCell ⟨S + 1 + 1, 0, none⟩ (.slice av' (k + 1) cv')) from by
          rw [HTS.out]
          exact ⟨by omega, _, heap_setCell_same _ _ 0 _ _ _ H2.out, own_set HO2.out (S + 1 + 1) (by omega) 0 _⟩)
        have HW2 := Lib.hid (HW.out.trans ((HG2.out.mono (Nat.le_succ _)).setCell (p := ⟨S + 1 + 1, 0, none⟩) (Nat.le_refl _) (.slice av' (k + 1) cv')))
        go_wp2_with fail
        go_roundw
        case rel => exact ⟨k + 1, by omega, by go_num, HN2.out, HW2.out⟩
        case measure => simp [intOf]; omega
    · obtain rfl : k = n := by omega
      have c0n := c0
      have k1 : wr.cell? ⟨S + 1 + 1, 1, none⟩ = some (.int .i64 c) := by rw [Lib.cell_of_heap hv]; rfl
      have k2 : wr.cell? ⟨S + 1 + 1, 2, none⟩ = some (.string p) := by rw [Lib.cell_of_heap hv]; rfl
      have m0 : wr.cell? ⟨S + 1, 0, none⟩ = some (.slice none 0 0) := by rw [Lib.cell_of_heap H1.out]; rfl
      have m1 : wr.cell? ⟨S + 1, 1, none⟩ = some (.int .i64 0) := by rw [Lib.cell_of_heap H1.out]; rfl
      have m2 : wr.cell? ⟨S + 1, 2, none⟩ = some (.string ⟨#[]⟩) := by rw [Lib.cell_of_heap H1.out]; rfl
      have q0 : wr.frozen? ⟨S + 1, 0, none⟩ = false := Lib.frozen_of_heap H1.out 0
      have q1 : wr.frozen? ⟨S + 1, 1, none⟩ = false := Lib.frozen_of_heap H1.out 1
      have q2 : wr.frozen? ⟨S + 1, 2, none⟩ = false := Lib.frozen_of_heap H1.out 2
      rw [HTK.out] at hown
      obtain ⟨av, cv, hvf⟩ := hown.frame
      rw [HN.out] at hvf
      subst hvf
      have k0 : wr.cell? ⟨S + 1 + 1, 0, none⟩ = some (.slice av k cv) := by rw [Lib.cell_of_heap hv]; rfl
      have HOE := Lib.hid (own_set (own_set (own_set hown (S + 1) (by omega) 0 (.slice av k cv)) (S + 1) (by omega) 1 (.int .i64 c)) (S + 1) (by omega) 2 (.string p))
      have HBE := Lib.hid (((HB.out.setCell (p := ⟨S + 1, 0, none⟩) (by show S ≤ S + 1; omega) (.slice av k cv)).setCell (p := ⟨S + 1, 1, none⟩) (by show S ≤ S + 1; omega) (.int .i64 c)).setCell (p := ⟨S + 1, 2, none⟩) (by show S ≤ S + 1; omega) (.string p))
      clear hv hown c0n
      have HR := Lib.hid (three_set H1.out (.slice av k cv) (.int .i64 c) (.string p))
      go_wp2_with fail
      (try simp only [Exit.inBlock, Exit.then])
      refine bodyPost_ret (results_cell_row rfl _ _ (S + 1) 42 #[.slice av k cv, .int .i64 c, .string p] (0, 0) _ (by rfl) HR.out Tryz.underlying42 (by rfl) (by kernel_rfl)) rfl ?_
      rw [HS.out]
      exact ⟨⟨_, rfl, HOE.out.lower (by omega)⟩, HBE.out⟩
end Go.Proofs.YtgdcffahhpeibaaGreatDoor
namespace Go.Proofs.YtgdcffahhpeibaaGreatDoor
open Go.RowKit
theorem infotaken_any : (Tryz.prog.info? 117).map (fun i => (i.zero, i.size, i.bytes)) = some (some (ruleV (⟨#[]⟩, ⟨#[]⟩, ⟨#[]⟩)), 3, 48) := by kernel_rfl
theorem take_snoc (xs : List RuleB) (k : Nat) (r : RuleB) (h : xs[k]? = some r) : xs.take (k + 1) = xs.take k ++ [r] := by
  have hk : k < xs.length := by
    rcases Nat.lt_or_ge k xs.length with h' | h'
    · exact h'
    · rw [List.getElem?_eq_none h'] at h; cases h
  rw [List.getElem?_eq_getElem hk] at h
  injection h with h
  rw [List.take_succ_eq_append_getElem hk, h]
set_option maxRecDepth 100000 in
theorem step_append_rule {T S : TypeId} (hS : Tryz.prog.underlying S = some (.slice T)) (hI : (Tryz.prog.info? T).map (fun i => (i.zero, i.size, i.bytes)) = some (some (ruleV (⟨#[]⟩, ⟨#[]⟩, ⟨#[]⟩)), 3, 48))
    {ops : Array Oper} {o : Oper} {a : Act} {K : Act → World → Prop} {Q : Exit → Act → World → Prop} {E : Prop} (w : World) (hgd : o.guard = none) (s x : Operand)
    (ho : o.op = .call { callee := .builtin .append, args := #[s, x], argTypes := #[S, S] }) (B : Nat) (v : Value) (xs : List RuleB) (hs : a.eval s = v) (hown : OwnR T B v xs w)
    (r : RuleB) (b : Nat) (hx : a.eval x = .slice (some ⟨b, 0, none⟩) 1 1) (c0 : w.cell? ⟨b, 0, none⟩ = some (.string r.1)) (c1 : w.cell? ⟨b, 1, none⟩ = some (.string r.2.1)) (c2 : w.cell? ⟨b, 2, none⟩ = some (.string r.2.2))
    (hbd : xs.length ≤ 1000000) (hB : B ≤ w.heap.size)
    (h : ∀ v' w', OwnR T B v' (xs ++ [r]) w' → w.grownBy w' v.ownBlock → K (a.put o.dst v') w') : if Region.wanted o (yielded ops a.tmps) = true then Oper.wp Tryz.prog o a w K Q else E := by
  have hw : Region.wanted o (yielded ops a.tmps) = true := by simp [Region.wanted, hgd]
  rw [if_pos hw]
  obtain ⟨i0, hi, hz0, hz1, hz2⟩ := info_parts hI
  refine wp_append_own w s x S ho B T i0 (ruleV (⟨#[]⟩, ⟨#[]⟩, ⟨#[]⟩)) 3 48 hS hi hz0 hz1 hz2 rfl (by decide) v xs.length (cellsR xs) hs hown ⟨b, 0, none⟩ 1 1 (ruleC r) hx rfl (fun j u hu => ?_) (fun u hu => ?_) (by unfold maxLen; omega) (by omega) hB ?_
  · rw [Addr.add_lit, Nat.zero_add]
    rcases j with _ | _ | _ | j
    · rw [show (ruleC r)[0]? = some (.string r.1) from rfl] at hu; injection hu with hu; rw [← hu]; exact c0
    · rw [show (ruleC r)[0 + 1]? = some (.string r.2.1) from rfl] at hu; injection hu with hu; rw [← hu]; exact c1
    · rw [show (ruleC r)[0 + 1 + 1]? = some (.string r.2.2) from rfl] at hu; injection hu with hu; rw [← hu]; exact c2
    · rw [show (ruleC r)[j + 1 + 1 + 1]? = none from rfl] at hu; cases hu
  · unfold ruleC at hu
    simp only [List.mem_cons, List.not_mem_nil, or_false] at hu
    rcases hu with rfl | rfl | rfl <;> rfl
  · intro v' w' h1 h2 _
    exact h v' w' (OwnR.snoc h1) h2
set_option maxRecDepth 100000 in
set_option maxHeartbeats 4000000 in
theorem rules8_any (v : Value) (xs : List RuleB) (w : World) (h : LieR v xs w) (hn : xs.length ≤ 1000000) :
    Calls Tryz.prog 28 #[v] w fun e w' => ∃ v', e = .returned v' ∧ OwnR 117 w.heap.size v' xs w' ∧ Below w.heap.size w w' := by
  have hO0 := Lib.hid (OwnR.nil 117 w.heap.size w)
  obtain ⟨ao, cap, rfl, hcap, hx⟩ := h
  obtain ⟨n, hn2⟩ : ∃ n, xs.length = n := ⟨_, rfl⟩
  have HN := Eqq.mk hn2
  have HTK := Eqq.mk (show xs.take n = xs by rw [← hn2, List.take_length])
  rw [hn2] at hn ⊢
  have HX := Lib.hid hx
  clear hx hn2 hcap
  go_enter Tryz.func28, Tryz.ntmps28
  go_wp2_with fail
  go_loopw [3, 4] (fun ov iv wr => ∃ k : Nat, k ≤ n ∧ iv = .int .i64 k ∧ OwnR 117 w.heap.size ov (xs.take k) wr ∧ Below w.heap.size w wr) (fun _ iv _ => n - (intOf iv).toNat)
  case atStart => exact ⟨0, Nat.zero_le _, rfl, hO0.out, Below.refl _ _⟩
  case round =>
    obtain ⟨k, hk, rfl, ho, hb⟩ := hrel
    have HO := Lib.hid ho
    have HB := Lib.hid hb
    clear ho hb
    by_cases hlt : k < n
    · have hkl : k < xs.length := by rw [HN.out]; exact hlt
      obtain ⟨r, hr⟩ : ∃ r, xs[k]? = some r := ⟨_, List.getElem?_eq_getElem hkl⟩
      obtain ⟨g, o, rfl, d1, d2, d3⟩ := HX.out k r hr
      have c1 := below_cellU d1 HB.out (Nat.le_refl _)
      have c2 := below_cellU d2 HB.out (Nat.le_refl _)
      have c3 := below_cellU d3 HB.out (Nat.le_refl _)
      have HTS := Eqq.mk (take_snoc xs k r hr)
      have htl : (xs.take k).length ≤ 1000000 := by rw [List.length_take]; omega
      obtain ⟨r1, r2, r3⟩ := r
      dsimp only at c1 c2 c3
      have HKP := Lib.hid (fun (W : World) (hW : Below w.heap.size w W) => (show (W.cell? ⟨g, o + k * 3, none⟩ = some (.string r1) ∧ W.cell? ⟨g, o + k * 3 + 1, none⟩ = some (.string r2) ∧ W.cell? ⟨g, o + k * 3 + 2, none⟩ = some (.string r3)) ∧ Below w.heap.size w W from ⟨⟨below_cellU d1 hW (Nat.le_refl _), below_cellU d2 hW (Nat.le_refl _), below_cellU d3 hW (Nat.le_refl _)⟩, hW⟩))
      clear hr d1 d2 d3
      go_wp2_with fail
      go_region_held3 (fun W => (W.cell? ⟨g, o + k * 3, none⟩ = some (.string r1) ∧ W.cell? ⟨g, o + k * 3 + 1, none⟩ = some (.string r2) ∧ W.cell? ⟨g, o + k * 3 + 2, none⟩ = some (.string r3)) ∧ Below w.heap.size w W)
        (first | exact HKP.out _ HB.out | exact HKP.out _ HB.out.drew | exact HKP.out _ (HB.out.drew.alloc HB.out.size _) | exact HKP.out _ HB2.out)
        ((refine step_append_rule Tryz.underlying54 infotaken_any _ rfl _ _ (by rfl) w.heap.size _ _ (by rfl) ((HO.out.drewN 1).alloc _) (r1, r2, r3) _ (by rfl) (box3_0 _ _ _ _ _) (box3_1 _ _ _ _ _) (box3_2 _ _ _ _ _) htl (by have := HB.out.size; simp; omega) ?_
          intro v' w' ho' hg'
          have HO2 := Lib.hid ho'
          have HB2 := Lib.hid ((HB.out.drew.alloc HB.out.size _).grown hg' (by have := HB.out.size; simp; omega) (fun j hj => (World.ownsRow.lt HO.out j hj).1))
          clear ho' hg'))
      go_wp2_with fail
      go_roundw
      case rel => exact ⟨k + 1, by omega, by go_num, by rw [HTS.out]; exact HO2.out, HB2.out⟩
      case measure => simp [intOf]; omega
    · obtain rfl : k = n := by omega
      have HO3 := Lib.hid HO.out
      rw [HTK.out] at HO3
      go_wp2_with fail
      go_ret
      exact ⟨_, rfl, HO3.out, HB.out⟩
end Go.Proofs.YtgdcffahhpeibaaGreatDoor
namespace Go.Proofs.YtgdcffahhpeibaaGreatDoor
open Go.RowKit
theorem itEq_no (r s : Cp.Item) (h : r ≠ s) : (¬ (ba r.1).toList = (ba s.1).toList) ∨ (ba r.1 = ba s.1 ∧ ¬ (ba r.2).toList = (ba s.2).toList) := by
  obtain ⟨a, b⟩ := r
  obtain ⟨d, e⟩ := s
  dsimp only
  rw [(is_ba a).list, (is_ba d).list, (is_ba b).list, (is_ba e).list]
  by_cases h1 : a = d
  · subst h1
    by_cases h2 : b = e
    · subst h2; exact absurd rfl h
    · exact .inr ⟨rfl, h2⟩
  · exact .inl h1
@[go_sem] theorem egIt8 : Tryz.prog.eqGuardType Tryz.prog.depth 111 = false := by kernel_rfl
theorem two_new (w : World) (a b : Obj) : ((w.alloc a).alloc b).heap[w.heap.size]? = some a ∧ ((w.alloc a).alloc b).heap[w.heap.size + 1]? = some b := by
  have h1 := (MapKept.heap_alloc w a).1
  have h2 := (MapKept.heap_alloc (w.alloc a) b).1
  rw [World.size_alloc] at h2
  exact ⟨by rw [Lib.alloc_old _ _ _ (by rw [World.size_alloc]; omega)]; exact h1, h2⟩
set_option maxRecDepth 100000 in
set_option maxHeartbeats 4000000 in
theorem rsame8_any (v1 v2 : Value) (xs ys : List Cp.Item) (c d : Int) (p q : ByteArray) (pl ql : List UInt8) (w : World) (h1 : LieG itemE v1 xs w) (h2 : LieG itemE v2 ys w) (hp : Is p pl) (hq : Is q ql) (hn1 : xs.length ≤ 1000000000000) (hn2 : ys.length ≤ 1000000000000) :
    Calls Tryz.prog 63 #[bufV v1 c p, bufV v2 d q] w fun e w' => e = .returned (.bool (decide (Cp.Buf.mk xs c pl = Cp.Buf.mk ys d ql))) ∧ Below w.heap.size w w' := by
  obtain ⟨D, hD⟩ : ∃ D, decide (Cp.Buf.mk xs c pl = Cp.Buf.mk ys d ql) = D := ⟨_, rfl⟩
  rw [hD]
  have HNO := Lib.hid (show ¬ (xs = ys ∧ c = d ∧ pl = ql) → D = false from fun h => by rw [← hD]; exact decide_eq_false (fun e => h (by injection e with a b c; exact ⟨a, b, c⟩)))
  have HYE := Lib.hid (show xs = ys → c = d → pl = ql → D = true from fun a b e => by rw [← hD, a, b, e]; exact decide_eq_true rfl)
  clear hD
  obtain ⟨ao1, cap1, rfl, _, _, _, hx1⟩ := h1
  obtain ⟨ao2, cap2, rfl, _, _, _, hx2⟩ := h2
  obtain ⟨n, hn⟩ : ∃ n, xs.length = n := ⟨_, rfl⟩
  obtain ⟨m, hm⟩ : ∃ m, ys.length = m := ⟨_, rfl⟩
  have HN := Eqq.mk hn
  have HM := Eqq.mk hm
  rw [hn] at hn1 ⊢
  rw [hm] at hn2 ⊢
  have HX1 := Lib.hid hx1
  have HX2 := Lib.hid hx2
  have HP := Lib.hid hp
  have HQ := Lib.hid hq
  have HB0 := Lib.hid (((Below.refl w.heap.size w).alloc (Nat.le_refl _) (.cells #[.slice ao1 n cap1, .int .i64 c, .string p] 42)).alloc (by simp) (.cells #[.slice ao2 m cap2, .int .i64 d, .string q] 42))
  clear hx1 hx2 hp hq
  by_cases hnm : n = m
  · subst hnm
    have HTK := Lib.hid (show xs.take n = ys.take n → xs = ys by intro h; rwa [← HN.out, List.take_length, HN.out, ← HM.out, List.take_length] at h)
    clear hn hm
    by_cases hcd : c = d
    · subst hcd
      by_cases hpq : pl = ql
      · subst hpq
        obtain rfl : p = q := HP.out.eq HQ.out
        have HYE2 := Lib.hid (fun h => HYE.out h rfl rfl)
        obtain ⟨S, hS⟩ : ∃ S, w.heap.size = S := ⟨_, rfl⟩
        have HS := Eqq.mk hS
        obtain ⟨t0, t1⟩ := two_new w (.cells #[.slice ao1 n cap1, .int .i64 c, .string p] 42) (.cells #[.slice ao2 n cap2, .int .i64 c, .string p] 42)
        rw [hS] at t0 t1
        have HT0 := Lib.hid t0
        have HT1 := Lib.hid t1
        clear t0 t1
        go_enter Tryz.func63, Tryz.ntmps63
        go_wp2_with fail
        try rw [hS]
        clear hS
        obtain ⟨W0, hW0⟩ : ∃ W0, (w.alloc (.cells #[.slice ao1 n cap1, .int .i64 c, .string p] 42)).alloc (.cells #[.slice ao2 n cap2, .int .i64 c, .string p] 42) = W0 := ⟨_, rfl⟩
        rw [hW0] at HT0 HT1 HB0 ⊢
        clear hW0
        go_loopw [5] (fun iv wr => ∃ k : Nat, k ≤ n ∧ iv = .int .i64 k ∧ Eqq (xs.take k) (ys.take k) ∧ Below W0.heap.size W0 wr) (fun iv _ => n - (intOf iv).toNat)
        case atStart => exact ⟨0, Nat.zero_le _, rfl, ⟨rfl⟩, Below.refl _ _⟩
        case round =>
          obtain ⟨k, hk, rfl, HE, hb⟩ := hrel
          have HW := Lib.hid hb
          have HB := Lib.hid (HB0.out.trans (hb.mono HB0.out.size))
          have z0 : wr.cell? ⟨S, 0, none⟩ = some (.slice ao1 n cap1) := by rw [Lib.cell_of_heap (by rw [hb.block S (heap_lt HT0.out)]; exact HT0.out)]; rfl
          have z1 : wr.cell? ⟨S + 1, 0, none⟩ = some (.slice ao2 n cap2) := by rw [Lib.cell_of_heap (by rw [hb.block (S + 1) (heap_lt HT1.out)]; exact HT1.out)]; rfl
          clear hb
          by_cases hlt : k < n
          · obtain ⟨r, hr⟩ : ∃ r, xs[k]? = some r := ⟨_, List.getElem?_eq_getElem (by rw [HN.out]; exact hlt)⟩
            obtain ⟨s, hs⟩ : ∃ s, ys[k]? = some s := ⟨_, List.getElem?_eq_getElem (by rw [HM.out]; exact hlt)⟩
            obtain ⟨g1, o1, rfl, d1⟩ := HX1.out k r hr
            obtain ⟨g2, o2, rfl, f1⟩ := HX2.out k s hs
            have c1 : wr.cell? ⟨g1, o1 + k * 2, none⟩ = some (.string (ba r.1)) := below_cellU (by have h := d1 0 _ rfl; exact h) HB.out (Nat.le_refl _)
            have c2 : wr.cell? ⟨g1, o1 + k * 2 + 1, none⟩ = some (.string (ba r.2)) := below_cellU (by have h := d1 1 _ rfl; exact h) HB.out (Nat.le_refl _)
            have b1 : wr.cell? ⟨g2, o2 + k * 2, none⟩ = some (.string (ba s.1)) := below_cellU (by have h := f1 0 _ rfl; exact h) HB.out (Nat.le_refl _)
            have b2 : wr.cell? ⟨g2, o2 + k * 2 + 1, none⟩ = some (.string (ba s.2)) := below_cellU (by have h := f1 1 _ rfl; exact h) HB.out (Nat.le_refl _)
            have g3 : (k : Int) < (n : Int) := by omega
            have g4 : (0 : Int) ≤ (k : Int) := by omega
            by_cases hrs : r = s
            · subst hrs
              have HE2 := Eqq.mk (show xs.take (k + 1) = ys.take (k + 1) by rw [take_snoc9 xs k r hr, take_snoc9 ys k r hs, HE.out])
              obtain ⟨e1, he1⟩ : ∃ e, ba r.1 = e := ⟨_, rfl⟩
              obtain ⟨e2, he2⟩ : ∃ e, ba r.2 = e := ⟨_, rfl⟩
              rw [he1] at c1 b1
              rw [he2] at c2 b2
              clear hr hs d1 f1 he1 he2
              go_wp2_with fail
              go_quiet (fail)
              go_wp2_with fail
              go_roundw
              case rel => exact ⟨k + 1, by omega, by go_num, HE2, by first | exact HW.out.drew | exact HW.out | exact bel_dn HW.out _⟩
              case measure => simp [intOf]; omega
            · have hq := itEq_no r s hrs
              have HF := Eqq.mk (HNO.out (fun h => hrs (by have h' := hr; rw [h.1, hs] at h'; injection h' with h'; exact h'.symm)))
              obtain ⟨e1, he1⟩ : ∃ e, ba r.1 = e := ⟨_, rfl⟩
              obtain ⟨e2, he2⟩ : ∃ e, ba r.2 = e := ⟨_, rfl⟩
              obtain ⟨e3, he3⟩ : ∃ e, ba s.1 = e := ⟨_, rfl⟩
              obtain ⟨e4, he4⟩ : ∃ e, ba s.2 = e := ⟨_, rfl⟩
              rw [he1, he3, he2, he4] at hq
              rw [he1] at c1
              rw [he2] at c2
              rw [he3] at b1
              rw [he4] at b2
              clear hr hs d1 f1 he1 he2 he3 he4 hrs
              rcases hq with hq | ⟨rfl, hq⟩ <;>
              (go_wp2_with fail
               go_quiet (fail)
               go_wp2_with fail
               go_ret
               exact ⟨by rw [HF.out]; rfl, by first | exact HB.out.drew | exact HB.out | exact bel_dn HB.out _⟩)
          · obtain rfl : k = n := by omega
            have HF := Eqq.mk (HYE2.out (HTK.out HE.out))
            go_wp2_with fail
            go_ret
            exact ⟨by rw [HF.out]; rfl, HB.out⟩
      · have HF := Eqq.mk (HNO.out (fun h => hpq h.2.2))
        have q1 : (p.toList == q.toList) = false := by rw [HP.out.list, HQ.out.list, beq_eq_false_iff_ne]; exact hpq
        have q2 : ¬ p.toList = q.toList := by rw [HP.out.list, HQ.out.list]; exact hpq
        clear hpq
        go_enter Tryz.func63, Tryz.ntmps63
        go_wp2_with fail
        go_ret
        exact ⟨by rw [HF.out]; rfl, HB0.out⟩
    · have HF := Eqq.mk (HNO.out (fun h => hcd h.2.1))
      have q1 : (c == d) = false := by rw [beq_eq_false_iff_ne]; exact hcd
      have q2 : (c != d) = true := by rw [bne, q1]; rfl
      clear hcd
      go_enter Tryz.func63, Tryz.ntmps63
      go_wp2_with fail
      go_ret
      exact ⟨by rw [HF.out]; rfl, HB0.out⟩
  · have HF := Eqq.mk (HNO.out (fun h => hnm (by rw [← hn, ← hm, h.1])))
    have i1 : ((n : Int) == (m : Int)) = false := by rw [beq_eq_false_iff_ne]; omega
    have i2 : ((n : Int) != (m : Int)) = true := by rw [bne, i1]; rfl
    have i3 : ¬ ((n : Int) = (m : Int)) := by omega
    clear hn hm hnm
    go_enter Tryz.func63, Tryz.ntmps63
    go_wp2_with fail
    go_ret
    exact ⟨by rw [HF.out]; rfl, HB0.out⟩
set_option maxRecDepth 100000 in
set_option maxHeartbeats 4000000 in
theorem same8_any (v1 v2 : Value) (xs ys : List Cp.Item) (c d : Int) (p q : ByteArray) (pl ql : List UInt8) (w : World) (h1 : LieG itemE v1 xs w) (h2 : LieG itemE v2 ys w) (hp : Is p pl) (hq : Is q ql) (hn1 : xs.length ≤ 2000000) (hn2 : ys.length ≤ 1000000000000) :
    Calls Tryz.prog 25 #[bufV v1 c p, bufV v2 d q] w fun e w' => e = .returned (.bool (decide (Cp.Buf.mk xs c pl = Cp.Buf.mk ys d ql))) ∧ Below w.heap.size w w' := by
  obtain ⟨D, hD⟩ : ∃ D, decide (Cp.Buf.mk xs c pl = Cp.Buf.mk ys d ql) = D := ⟨_, rfl⟩
  have HD := Eqq.mk hD
  rw [hD]
  clear hD
  have HP := Lib.hid hp
  have HQ := Lib.hid hq
  have HB0 := Lib.hid (((Below.refl w.heap.size w).alloc (Nat.le_refl _) (.cells #[v1, .int .i64 c, .string p] 33)).alloc (by simp) (.cells #[v2, .int .i64 d, .string q] 42))
  have HL1 := Lib.hid (h1.keep HB0.out)
  have HL2 := Lib.hid (h2.keep HB0.out)
  obtain ⟨ao1, cap1, rfl, _⟩ := h1
  obtain ⟨ao2, cap2, rfl, _⟩ := h2
  obtain ⟨S, hS⟩ : ∃ S, w.heap.size = S := ⟨_, rfl⟩
  have HS := Eqq.mk hS
  obtain ⟨t0, t1⟩ := two_new w (.cells #[.slice ao1 xs.length cap1, .int .i64 c, .string p] 33) (.cells #[.slice ao2 ys.length cap2, .int .i64 d, .string q] 42)
  rw [hS] at t0 t1
  have HT0 := Lib.hid t0
  have HT1 := Lib.hid t1
  clear t0 t1 hp hq
  go_enter Tryz.func25, Tryz.ntmps25
  go_wp2_with fail
  try rw [hS]
  clear hS
  obtain ⟨W0, hW0⟩ : ∃ W0, (w.alloc (.cells #[.slice ao1 xs.length cap1, .int .i64 c, .string p] 33)).alloc (.cells #[.slice ao2 ys.length cap2, .int .i64 d, .string q] 42) = W0 := ⟨_, rfl⟩
  rw [hW0] at HT0 HT1 HB0 HL1 HL2 ⊢
  clear hW0
  have HKP := Lib.hid (fun (W : World) (hW : Below W0.heap.size W0 W) => (show (W.cell? ⟨S, 0, none⟩ = some (.slice ao1 xs.length cap1) ∧ W.cell? ⟨S, 1, none⟩ = some (.int .i64 c) ∧ W.cell? ⟨S, 2, none⟩ = some (.string p)) ∧ (W.cell? ⟨S + 1, 0, none⟩ = some (.slice ao2 ys.length cap2) ∧ W.cell? ⟨S + 1, 1, none⟩ = some (.int .i64 d) ∧ W.cell? ⟨S + 1, 2, none⟩ = some (.string q)) from by
    have q0 : W.heap[S]? = some (.cells #[.slice ao1 xs.length cap1, .int .i64 c, .string p] 33 (0, 0)) := by rw [hW.block S (heap_lt HT0.out)]; exact HT0.out
    have q1 : W.heap[S + 1]? = some (.cells #[.slice ao2 ys.length cap2, .int .i64 d, .string q] 42 (0, 0)) := by rw [hW.block (S + 1) (heap_lt HT1.out)]; exact HT1.out
    exact ⟨⟨by rw [Lib.cell_of_heap q0]; rfl, by rw [Lib.cell_of_heap q0]; rfl, by rw [Lib.cell_of_heap q0]; rfl⟩, by rw [Lib.cell_of_heap q1]; rfl, by rw [Lib.cell_of_heap q1]; rfl, by rw [Lib.cell_of_heap q1]; rfl⟩))
  go_region_held3 (fun W => (W.cell? ⟨S, 0, none⟩ = some (.slice ao1 xs.length cap1) ∧ W.cell? ⟨S, 1, none⟩ = some (.int .i64 c) ∧ W.cell? ⟨S, 2, none⟩ = some (.string p)) ∧ (W.cell? ⟨S + 1, 0, none⟩ = some (.slice ao2 ys.length cap2) ∧ W.cell? ⟨S + 1, 1, none⟩ = some (.int .i64 d) ∧ W.cell? ⟨S + 1, 2, none⟩ = some (.string q)))
    (first | exact HKP.out _ (Below.refl _ _) | exact HKP.out _ (Below.refl _ _).drew | exact HKP.out _ HB2.out | exact HKP.out _ HB2.out.drew | exact HKP.out _ HB3.out | exact HKP.out _ HB3.out.drew)
    (first
     | (go_at_call 19; (with_reducible refine (given8_any _ xs c p _ (HL1.out.keep (Below.refl _ _).drew) hn1).mono ?_); rintro e w2 ⟨⟨v', he, ho⟩, hb⟩; subst he; obtain ⟨ao', cap', hv'⟩ := ho.frame; subst hv'; have HO2 := Lib.hid ho.lie; have HB2 := Lib.hid ((Below.refl W0.heap.size W0).drew.trans hb); clear hb ho)
     | (go_at_call 63; (with_reducible refine (rsame8_any _ _ xs ys c d p q pl ql _ HO2.out (HL2.out.keep HB2.out) HP.out HQ.out (Nat.le_trans hn1 (by omega)) hn2).mono ?_); rw [HD.out]; rintro e w3 ⟨he, hb⟩; subst he; have HB3 := Lib.hid (HB2.out.trans (hb.mono HB2.out.size)); clear hb)
     | (go_at_call 63; (with_reducible refine (rsame8_any _ _ xs ys c d p q pl ql _ (HO2.out.keep (Below.refl _ _).drew) (HL2.out.keep HB2.out.drew) HP.out HQ.out (Nat.le_trans hn1 (by omega)) hn2).mono ?_); rw [HD.out]; rintro e w3 ⟨he, hb⟩; subst he; have HB3 := Lib.hid (HB2.out.drew.trans (hb.mono (by have := HB2.out.size; exact this))); clear hb))
  rename_i hHeld
  clear hHeld
  have HE := Lib.hid (HB0.out.trans (HB3.out.mono HB0.out.size))
  go_wp2_with fail
  go_ret
  exact ⟨rfl, HE.out⟩
end Go.Proofs.YtgdcffahhpeibaaGreatDoor
namespace Go.Proofs.YtgdcffahhpeibaaGreatDoor
open Go.RowKit
theorem flat_len (sel : Cp.Item → List UInt8) (m : Nat) : ∀ xs : List Cp.Item, (∀ x ∈ xs, (sel x).length ≤ m) → (xs.flatMap sel).length ≤ xs.length * m
  | [], _ => by simp
  | x :: xs, h => by
    have ih := flat_len sel m xs (fun y hy => h y (List.mem_cons_of_mem _ hy))
    have h0 := h x (List.mem_cons_self ..)
    rw [List.flatMap_cons, List.length_append, List.length_cons, Nat.add_mul, Nat.one_mul]
    omega
theorem flat_snoc (sel : Cp.Item → List UInt8) (xs : List Cp.Item) (k : Nat) (x : Cp.Item) (h : xs[k]? = some x) : (xs.take (k + 1)).flatMap sel = (xs.take k).flatMap sel ++ sel x := by
  rw [take_snoc9 xs k x h, List.flatMap_append]
  simp
theorem str_data (l : List UInt8) : (⟨l.toArray⟩ : ByteArray) = ba l := rfl
set_option maxRecDepth 100000 in
theorem clo_tx (x1 x2 : ByteArray) (w : World) : Calls Tryz.prog 56 #[.agg #[.string x1, .string x2]] w fun e w' => e = .returned (.string x2) ∧ Below w.heap.size w w' := by
  go_enter Tryz.func56, Tryz.ntmps56
  go_wp2_with fail
  go_ret
  exact ⟨rfl, (Below.refl _ _).alloc (Nat.le_refl _) _⟩
set_option maxRecDepth 100000 in
set_option maxHeartbeats 4000000 in
theorem join_tx (v : Value) (xs : List Cp.Item) (w : World) (h : LieG itemE v xs w) (hn : xs.length ≤ 64) (hz : ∀ x ∈ xs, x.1.length ≤ 2000000 ∧ x.2.length ≤ 2000000) :
    Calls Tryz.prog 57 #[v, .func (.func 56) #[] #[]] w fun e w' => e = .returned (.string (ba (xs.flatMap (·.2)))) ∧ Below w.heap.size w w' := by
  have HZ := Lib.hid hz
  obtain ⟨ao, cap, rfl, _, _, _, hx⟩ := h
  have HX := Lib.hid hx
  obtain ⟨n, hn9⟩ : ∃ n, xs.length = n := ⟨_, rfl⟩
  have HN := Eqq.mk hn9
  rw [hn9] at hn ⊢
  have HFL := Lib.hid (show ∀ k, k ≤ n → ((xs.take k).flatMap (·.2)).length ≤ 128000000 from fun k hk => by
    have h := flat_len (·.2) 2000000 (xs.take k) (fun x hx => (hz x (List.mem_of_mem_take hx)).2)
    rw [List.length_take] at h
    have : min k xs.length * 2000000 ≤ 64 * 2000000 := Nat.mul_le_mul_right _ (by omega)
    omega)
  clear hx hz hn9
  go_enter Tryz.func57, Tryz.ntmps57
  go_wp2_with fail
  go_loopw [10] (fun iv wr => ∃ k : Nat, k ≤ n ∧ iv = .int .i64 k ∧ Bldr w.heap.size w.heap.size ((xs.take k).flatMap (·.2)) wr ∧ Below w.heap.size w wr ∧ w.heap.size < wr.heap.size) (fun iv _ => n - (intOf iv).toNat)
  case atStart => exact ⟨0, Nat.zero_le _, rfl, bldr_fresh w, (Below.refl _ _).alloc (Nat.le_refl _) _, by simp⟩
  case round =>
    obtain ⟨k, hk, rfl, hI, hb, hlt1⟩ := hrel
    have HBl := Lib.hid hI
    have HB := Lib.hid hb
    have hsw := hb.size
    have hfk := HFL.out k hk
    clear hI hb
    by_cases hlt : k < n
    · obtain ⟨⟨x1, x2⟩, hx⟩ : ∃ x, xs[k]? = some x := ⟨_, List.getElem?_eq_getElem (by rw [HN.out]; exact hlt)⟩
      obtain ⟨g, o, rfl, hcc⟩ := HX.out k _ hx
      have e1 : wr.cell? ⟨g, o + k * 2, none⟩ = some (.string (ba x1)) := below_cellU (by have h := hcc 0 _ rfl; exact h) HB.out (Nat.le_refl _)
      have e2 : wr.cell? ⟨g, o + k * 2 + 1, none⟩ = some (.string (ba x2)) := below_cellU (by have h := hcc 1 _ rfl; exact h) HB.out (Nat.le_refl _)
      obtain ⟨z1, z2⟩ := HZ.out _ (List.mem_of_getElem? hx)
      have HFS := Eqq.mk (flat_snoc (·.2) xs k _ hx)
      dsimp only at HFS z1 z2
      have HI := Lib.hid (is_ba x2)
      have hsz := ba_size x2
      obtain ⟨b1, hb1⟩ : ∃ b, ba x1 = b := ⟨_, rfl⟩
      obtain ⟨b2, hb2⟩ : ∃ b, ba x2 = b := ⟨_, rfl⟩
      rw [hb2] at HI hsz
      rw [hb1] at e1
      rw [hb2] at e2
      have hzz : b2.size ≤ 2000000 := by omega
      have g1 : (k : Int) < (n : Int) := by omega
      have g2 : (0 : Int) ≤ (k : Int) := by omega
      have HBA := Lib.hid ((Below.refl wr.heap.size wr).alloc (Nat.le_refl _) (.cells #[.string b1, .string b2] 106))
      clear hx hcc hb1 hb2 hsz z1 z2
      go_wp2_with fail
      with_reducible refine (clo_tx b1 b2 _).mono ?_
      rintro e w2 ⟨rfl, hb⟩
      have HB2r := Lib.hid (HBA.out.trans (hb.mono HBA.out.size))
      have HBl2 := Lib.hid (bldr_keep HBl.out HB2r.out)
      have HB2 := Lib.hid (HB.out.trans (HB2r.out.mono hsw))
      have hsw2 := HB2.out.size
      have hlt2 : w.heap.size < w2.heap.size := Nat.lt_of_lt_of_le hlt1 HB2r.out.size
      clear hb e1 e2
      go_wp2_with fail
      with_reducible refine (write_string w.heap.size w.heap.size _ b2 _ HBl2.out (by omega) hsw2).mono ?_
      rw [HI.out.data]
      rintro e w3 ⟨rfl, hI, hb⟩
      have HBl3 := Lib.hid hI
      have HB3 := Lib.hid (HB2.out.trans hb.1)
      have hlt3 : w.heap.size < w3.heap.size := Nat.lt_of_lt_of_le hlt2 hb.1.size
      clear hI hb
      go_wp2_with fail
      go_roundw
      case rel => exact ⟨k + 1, by omega, by go_num, by rw [HFS.out]; exact HBl3.out, HB3.out, hlt3⟩
      case measure => simp [intOf]; omega
    · obtain rfl : k = n := by omega
      have HF := Eqq.mk (show (xs.take k).flatMap (·.2) = xs.flatMap (·.2) by rw [← HN.out, List.take_length])
      go_wp2_with fail
      with_reducible refine (bld_string w.heap.size w.heap.size _ _ HBl.out hsw).mono ?_
      rw [HF.out, str_data]
      rintro e w2 ⟨rfl, _, hb⟩
      have HB2 := Lib.hid (HB.out.trans hb.1)
      clear hb
      go_wp2_with fail
      go_ret
      exact ⟨rfl, HB2.out⟩
set_option maxRecDepth 100000 in
theorem clo_rw (x1 x2 : ByteArray) (w : World) : Calls Tryz.prog 62 #[.agg #[.string x1, .string x2]] w fun e w' => e = .returned (.string x1) ∧ Below w.heap.size w w' := by
  go_enter Tryz.func62, Tryz.ntmps62
  go_wp2_with fail
  go_ret
  exact ⟨rfl, (Below.refl _ _).alloc (Nat.le_refl _) _⟩
set_option maxRecDepth 100000 in
set_option maxHeartbeats 4000000 in
theorem join_rw (v : Value) (xs : List Cp.Item) (w : World) (h : LieG itemE v xs w) (hn : xs.length ≤ 64) (hz : ∀ x ∈ xs, x.1.length ≤ 2000000 ∧ x.2.length ≤ 2000000) :
    Calls Tryz.prog 57 #[v, .func (.func 62) #[] #[]] w fun e w' => e = .returned (.string (ba (xs.flatMap (·.1)))) ∧ Below w.heap.size w w' := by
  have HZ := Lib.hid hz
  obtain ⟨ao, cap, rfl, _, _, _, hx⟩ := h
  have HX := Lib.hid hx
  obtain ⟨n, hn9⟩ : ∃ n, xs.length = n := ⟨_, rfl⟩
  have HN := Eqq.mk hn9
  rw [hn9] at hn ⊢
  have HFL := Lib.hid (show ∀ k, k ≤ n → ((xs.take k).flatMap (·.1)).length ≤ 128000000 from fun k hk => by
    have h := flat_len (·.1) 2000000 (xs.take k) (fun x hx => (hz x (List.mem_of_mem_take hx)).1)
    rw [List.length_take] at h
    have : min k xs.length * 2000000 ≤ 64 * 2000000 := Nat.mul_le_mul_right _ (by omega)
    omega)
  clear hx hz hn9
  go_enter Tryz.func57, Tryz.ntmps57
  go_wp2_with fail
  go_loopw [10] (fun iv wr => ∃ k : Nat, k ≤ n ∧ iv = .int .i64 k ∧ Bldr w.heap.size w.heap.size ((xs.take k).flatMap (·.1)) wr ∧ Below w.heap.size w wr ∧ w.heap.size < wr.heap.size) (fun iv _ => n - (intOf iv).toNat)
  case atStart => exact ⟨0, Nat.zero_le _, rfl, bldr_fresh w, (Below.refl _ _).alloc (Nat.le_refl _) _, by simp⟩
  case round =>
    obtain ⟨k, hk, rfl, hI, hb, hlt1⟩ := hrel
    have HBl := Lib.hid hI
    have HB := Lib.hid hb
    have hsw := hb.size
    have hfk := HFL.out k hk
    clear hI hb
    by_cases hlt : k < n
    · obtain ⟨⟨x1, x2⟩, hx⟩ : ∃ x, xs[k]? = some x := ⟨_, List.getElem?_eq_getElem (by rw [HN.out]; exact hlt)⟩
      obtain ⟨g, o, rfl, hcc⟩ := HX.out k _ hx
      have e1 : wr.cell? ⟨g, o + k * 2, none⟩ = some (.string (ba x1)) := below_cellU (by have h := hcc 0 _ rfl; exact h) HB.out (Nat.le_refl _)
      have e2 : wr.cell? ⟨g, o + k * 2 + 1, none⟩ = some (.string (ba x2)) := below_cellU (by have h := hcc 1 _ rfl; exact h) HB.out (Nat.le_refl _)
      obtain ⟨z1, z2⟩ := HZ.out _ (List.mem_of_getElem? hx)
      have HFS := Eqq.mk (flat_snoc (·.1) xs k _ hx)
      dsimp only at HFS z1 z2
      have HI := Lib.hid (is_ba x1)
      have hsz := ba_size x1
      obtain ⟨b1, hb1⟩ : ∃ b, ba x1 = b := ⟨_, rfl⟩
      obtain ⟨b2, hb2⟩ : ∃ b, ba x2 = b := ⟨_, rfl⟩
      rw [hb1] at HI hsz
      rw [hb1] at e1
      rw [hb2] at e2
      have hzz : b1.size ≤ 2000000 := by omega
      have g1 : (k : Int) < (n : Int) := by omega
      have g2 : (0 : Int) ≤ (k : Int) := by omega
      have HBA := Lib.hid ((Below.refl wr.heap.size wr).alloc (Nat.le_refl _) (.cells #[.string b1, .string b2] 106))
      clear hx hcc hb1 hb2 hsz z1 z2
      go_wp2_with fail
      with_reducible refine (clo_rw b1 b2 _).mono ?_
      rintro e w2 ⟨rfl, hb⟩
      have HB2r := Lib.hid (HBA.out.trans (hb.mono HBA.out.size))
      have HBl2 := Lib.hid (bldr_keep HBl.out HB2r.out)
      have HB2 := Lib.hid (HB.out.trans (HB2r.out.mono hsw))
      have hsw2 := HB2.out.size
      have hlt2 : w.heap.size < w2.heap.size := Nat.lt_of_lt_of_le hlt1 HB2r.out.size
      clear hb e1 e2
      go_wp2_with fail
      with_reducible refine (write_string w.heap.size w.heap.size _ b1 _ HBl2.out (by omega) hsw2).mono ?_
      rw [HI.out.data]
      rintro e w3 ⟨rfl, hI, hb⟩
      have HBl3 := Lib.hid hI
      have HB3 := Lib.hid (HB2.out.trans hb.1)
      have hlt3 : w.heap.size < w3.heap.size := Nat.lt_of_lt_of_le hlt2 hb.1.size
      clear hI hb
      go_wp2_with fail
      go_roundw
      case rel => exact ⟨k + 1, by omega, by go_num, by rw [HFS.out]; exact HBl3.out, HB3.out, hlt3⟩
      case measure => simp [intOf]; omega
    · obtain rfl : k = n := by omega
      have HF := Eqq.mk (show (xs.take k).flatMap (·.1) = xs.flatMap (·.1) by rw [← HN.out, List.take_length])
      go_wp2_with fail
      with_reducible refine (bld_string w.heap.size w.heap.size _ _ HBl.out hsw).mono ?_
      rw [HF.out, str_data]
      rintro e w2 ⟨rfl, _, hb⟩
      have HB2 := Lib.hid (HB.out.trans hb.1)
      clear hb
      go_wp2_with fail
      go_ret
      exact ⟨rfl, HB2.out⟩
end Go.Proofs.YtgdcffahhpeibaaGreatDoor
namespace Go.Proofs.YtgdcffahhpeibaaGreatDoor
open Go.RowKit
theorem valid_parts {xs : List Cp.Item} {c : Int} {pl : List UInt8} (h : Cp.valid ⟨xs, c, pl⟩ = true) : xs.length ≤ 64 ∧ (∃ k : Nat, c = (k : Int) ∧ k ≤ xs.length) ∧ pl.length ≤ 8 ∧ Cp.okB 33 pl = true ∧ xs.all Cp.itemOk = true := by
  unfold Cp.valid at h
  simp only [Bool.and_eq_true, decide_eq_true_eq] at h
  obtain ⟨h1, h2, h3, h4, h5, h6⟩ := h
  exact ⟨h1, ⟨c.toNat, by omega, by omega⟩, h4, h5, h6⟩
def TextV (b : Cp.Buf) : Ending := if Cp.valid b = true then .returned (.tuple #[.string (ba (Cp.before b)), .string (ba b.pend), .string (ba (Cp.after b))]) else .returned (.tuple #[.string ⟨#[]⟩, .string ⟨#[]⟩, .string ⟨#[]⟩])
def RawV (b : Cp.Buf) : Ending := if Cp.valid b = true then .returned (.string (ba (Cp.raw b))) else .returned (.string ⟨#[]⟩)
theorem ba_app9 (a b : List UInt8) : ba a ++ ba b = ba (a ++ b) := ((is_ba a).append (is_ba b)).ba
theorem lie_full {g o n cap k : Nat} {xs : List Cp.Item} {w : World} (h : LieG itemE (.slice (some ⟨g, o, none⟩) n cap) xs w) (hk : k ≤ n) (hc : cap = k) : LieG itemE (.slice (some ⟨g, o, none⟩) 0 0) (xs.drop k) w := by
  obtain ⟨ao, cap', hv, hcc, hn, hs, hx⟩ := h
  injection hv with hv1 hv2 hv3
  have : xs.drop k = [] := List.drop_eq_nil_of_le (by omega)
  rw [this]
  exact ⟨_, _, rfl, Nat.le_refl _, fun h => (by cases h), fun ad h => (by injection h with h; exact ⟨_, _, h.symm⟩), fun i x hi => by simp at hi⟩
set_option maxRecDepth 100000 in
set_option maxHeartbeats 8000000 in
theorem text8_any (v : Value) (xs : List Cp.Item) (c : Int) (p : ByteArray) (pl : List UInt8) (w : World) (h : LieG itemE v xs w) (hp : Is p pl) (hf : Fits xs pl) (ht : Tabs w) :
    Calls Tryz.prog 17 #[bufV v c p] w fun e w' => e = TextV ⟨xs, c, pl⟩ ∧ Below w.heap.size w w' := by
  obtain ⟨E, hE⟩ : ∃ E, TextV ⟨xs, c, pl⟩ = E := ⟨_, rfl⟩
  have HE := Eqq.mk hE
  rw [hE]
  clear hE
  have HP := Lib.hid hp
  have HF := Lib.hid hf
  have HT := Lib.hid ht
  have hpz : p.size ≤ 2000000 := by rw [hp.size]; exact hf.p
  have hbw := (Below.refl w.heap.size w).alloc (Nat.le_refl _) (.cells #[v, .int .i64 c, .string p] 33)
  have HB0 := Lib.hid hbw
  have HL0 := Lib.hid (h.keep hbw)
  have HTB := Lib.hid (ht.keep hbw)
  obtain ⟨S, hS⟩ : ∃ S, w.heap.size = S := ⟨_, rfl⟩
  have HS := Eqq.mk hS
  have hh := (MapKept.heap_alloc w (.cells #[v, .int .i64 c, .string p] 33)).1
  rw [hS] at hh
  have HH := Lib.hid hh
  obtain ⟨ao, cap, rfl, hcap, hno, hsp, hx⟩ := h
  obtain ⟨n, hn⟩ : ∃ n, xs.length = n := ⟨_, rfl⟩
  have HN := Eqq.mk hn
  rw [hn] at HB0 HL0 HTB HH hcap hbw hh ⊢
  obtain ⟨W0, hW0⟩ : ∃ W0, w.alloc (.cells #[.slice ao n cap, .int .i64 c, .string p] 33) = W0 := ⟨_, rfl⟩
  have HW0 := Eqq.mk hW0
  rw [hW0] at HB0 HL0 HTB HH
  have HKP := Lib.hid (fun (W : World) (hW : Below W0.heap.size W0 W) => (show W.cell? ⟨S, 0, none⟩ = some (.slice ao n cap) ∧ W.cell? ⟨S, 1, none⟩ = some (.int .i64 c) ∧ W.cell? ⟨S, 2, none⟩ = some (.string p) from by
    have q0 : W.heap[S]? = some (.cells #[.slice ao n cap, .int .i64 c, .string p] 33 (0, 0)) := by rw [hW.block S (heap_lt HH.out)]; exact HH.out
    exact ⟨by rw [Lib.cell_of_heap q0]; rfl, by rw [Lib.cell_of_heap q0]; rfl, by rw [Lib.cell_of_heap q0]; rfl⟩))
  clear hp hf ht hx hbw hh hW0 hn
  go_enter Tryz.func17, Tryz.ntmps17
  go_wp2_with fail
  try rw [hS]
  clear hS
  rw [HW0.out]
  with_reducible refine (check8_any _ xs c p pl _ HL0.out HP.out HF.out HTB.out).mono ?_
  rintro e w1 ⟨rfl, hb⟩
  have HB1 := Lib.hid hb
  obtain ⟨c0, c1, c2⟩ := HKP.out _ hb
  clear hb
  obtain ⟨V, hV⟩ : ∃ V, Cp.valid ⟨xs, c, pl⟩ = V := ⟨_, rfl⟩
  have HV := Eqq.mk hV
  rw [hV]
  cases V
  · have HEE := Eqq.mk (show Ending.returned (.tuple #[.string ⟨#[]⟩, .string ⟨#[]⟩, .string ⟨#[]⟩]) = E by rw [← HE.out]; unfold TextV; rw [if_neg (by rw [hV]; simp)])
    rw [if_neg (show ¬ (false = true) by simp)]
    clear hV
    go_wp2_with fail
    go_ret3
    exact ⟨HEE.out, HB0.out.trans (HB1.out.mono HB0.out.size)⟩
  · obtain ⟨h64, ⟨k, rfl, hk⟩, _, _, _⟩ := valid_parts hV
    have HEE := Eqq.mk (show Ending.returned (.tuple #[.string (ba ((xs.take k).flatMap (·.2))), .string p, .string (ba ((xs.drop k).flatMap (·.2)))]) = E by rw [← HE.out]; unfold TextV; rw [if_pos hV]; rw [HP.out.ba]; rfl)
    rw [if_pos rfl]
    rw [HN.out] at hk
    have HL1 := Lib.hid (HL0.out.keep HB1.out)
    have HZ := Lib.hid HF.out.x
    have hnn : ∀ X : List Cp.Item, X.length ≤ n → X.length ≤ 64 := fun X h => by have := HN.out; omega
    have hta : (xs.take k).length ≤ 64 := hnn _ (by rw [List.length_take, HN.out]; omega)
    have hda : (xs.drop k).length ≤ 64 := hnn _ (by rw [List.length_drop, HN.out]; omega)
    have HZT := Lib.hid (show ∀ x ∈ xs.take k, x.1.length ≤ 2000000 ∧ x.2.length ≤ 2000000 from fun x hx => HZ.out x (List.mem_of_mem_take hx))
    have HZD := Lib.hid (show ∀ x ∈ xs.drop k, x.1.length ≤ 2000000 ∧ x.2.length ≤ 2000000 from fun x hx => HZ.out x (List.mem_of_mem_drop hx))
    have i1 : (k : Int) ≤ (n : Int) := by omega
    have i2 : (0 : Int) ≤ (k : Int) := by omega
    have i3 : (k : Int) ≤ (cap : Int) := by omega
    clear hV hnn
    obtain ⟨t1, ht1⟩ : ∃ t, ba ((xs.take k).flatMap (·.2)) = t := ⟨_, rfl⟩
    obtain ⟨t2, ht2⟩ : ∃ t, ba ((xs.drop k).flatMap (·.2)) = t := ⟨_, rfl⟩
    have HT1 := Eqq.mk ht1
    have HT2 := Eqq.mk ht2
    clear ht1 ht2
    rw [HT1.out, HT2.out] at HEE
    cases ao with
    | none =>
      obtain rfl : cap = 0 := hno rfl
      obtain rfl : n = 0 := by omega
      obtain rfl : k = 0 := by omega
      have HX0 := Eqq.mk (show xs = [] from List.eq_nil_of_length_eq_zero HN.out)
      have HLT := Lib.hid (show LieG itemE (.slice none 0 0) (xs.take 0) w1 by rw [List.take_zero]; exact LieG.nil _)
      have HLD := Lib.hid (show LieG itemE (.slice none 0 0) (xs.drop 0) w1 by rw [HX0.out]; exact LieG.nil _)
      clear hno hsp hcap
      go_wp2_with fail
      go_region_held3 (fun W => W.cell? ⟨S, 0, none⟩ = some (.slice none 0 0) ∧ W.cell? ⟨S, 1, none⟩ = some (.int .i64 0) ∧ W.cell? ⟨S, 2, none⟩ = some (.string p))
        (first | exact HKP.out _ HB1.out | exact HKP.out _ HB1.out.drew | exact HKP.out _ HB2.out | exact HKP.out _ HB2.out.drew | exact HKP.out _ HB3.out | exact HKP.out _ HB3.out.drew)
        (first
         | (go_at_call 57; (with_reducible refine (join_tx _ (xs.take 0) _ (HLT.out.keep (Below.refl _ _).drew) hta HZT.out).mono ?_); rw [HT1.out]; rintro e w2 ⟨he, hb⟩; subst he; have HB2r := Lib.hid ((Below.refl w1.heap.size w1).drew.trans hb); have HB2 := Lib.hid (HB1.out.trans (HB2r.out.mono HB1.out.size)); clear hb)
         | (go_at_call 57; (with_reducible refine (join_tx _ (xs.drop 0) _ (HLD.out.keep HB2r.out) hda HZD.out).mono ?_); rw [HT2.out]; rintro e w3 ⟨he, hb⟩; subst he; have HB3 := Lib.hid (HB2.out.trans (hb.mono HB2.out.size)); clear hb)
         | (go_at_call 57; (with_reducible refine (join_tx _ (xs.drop 0) _ (HLD.out.keep HB2r.out.drew) hda HZD.out).mono ?_); rw [HT2.out]; rintro e w3 ⟨he, hb⟩; subst he; have HB3 := Lib.hid (HB2.out.drew.trans (hb.mono (by have := HB2.out.size; exact this))); clear hb)
         | (go_at_call 57; (with_reducible refine (join_tx _ (xs.drop 0) _ (HLD.out.keep (Below.refl _ _).drew) hda HZD.out).mono ?_); rw [HT2.out]; rintro e w2 ⟨he, hb⟩; subst he; have HB2r := Lib.hid ((Below.refl w1.heap.size w1).drew.trans hb); have HB2 := Lib.hid (HB1.out.trans (HB2r.out.mono HB1.out.size)); clear hb)
         | (go_at_call 57; (with_reducible refine (join_tx _ (xs.take 0) _ (HLT.out.keep HB2r.out) hta HZT.out).mono ?_); rw [HT1.out]; rintro e w3 ⟨he, hb⟩; subst he; have HB3 := Lib.hid (HB2.out.trans (hb.mono HB2.out.size)); clear hb)
         | (go_at_call 57; (with_reducible refine (join_tx _ (xs.take 0) _ (HLT.out.keep HB2r.out.drew) hta HZT.out).mono ?_); rw [HT1.out]; rintro e w3 ⟨he, hb⟩; subst he; have HB3 := Lib.hid (HB2.out.drew.trans (hb.mono (by have := HB2.out.size; exact this))); clear hb))
      rename_i hHeld
      clear hHeld
      have HFIN := Lib.hid (HB0.out.trans (HB3.out.mono HB0.out.size))
      go_wp2_with fail
      go_ret3
      exact ⟨HEE.out, HFIN.out⟩
    | some ad =>
      obtain ⟨g, o, rfl⟩ := hsp ad rfl
      clear hno hsp
      by_cases hck : cap = k
      · have HLT := Lib.hid (show LieG itemE (.slice (some ⟨g, o, none⟩) k cap) (xs.take k) w1 from HL1.out.take hk)
        have HLD := Lib.hid (show LieG itemE (.slice (some ⟨g, o, none⟩) 0 0) (xs.drop k) w1 from lie_full HL1.out hk hck)
        have hck2 : k = cap := hck.symm
        clear hck
        subst hck2
        go_wp2_with fail
        go_region_held3 (fun W => W.cell? ⟨S, 0, none⟩ = some (.slice (some ⟨g, o, none⟩) n k) ∧ W.cell? ⟨S, 1, none⟩ = some (.int .i64 (k : Int)) ∧ W.cell? ⟨S, 2, none⟩ = some (.string p))
          (first | exact HKP.out _ HB1.out | exact HKP.out _ HB1.out.drew | exact HKP.out _ HB2.out | exact HKP.out _ HB2.out.drew | exact HKP.out _ HB3.out | exact HKP.out _ HB3.out.drew)
          (first
           | (go_at_call 57; (with_reducible refine (join_tx _ (xs.take k) _ (HLT.out.keep (Below.refl _ _).drew) hta HZT.out).mono ?_); rw [HT1.out]; rintro e w2 ⟨he, hb⟩; subst he; have HB2r := Lib.hid ((Below.refl w1.heap.size w1).drew.trans hb); have HB2 := Lib.hid (HB1.out.trans (HB2r.out.mono HB1.out.size)); clear hb)
           | (go_at_call 57; (with_reducible refine (join_tx _ (xs.drop k) _ (HLD.out.keep HB2r.out) hda HZD.out).mono ?_); rw [HT2.out]; rintro e w3 ⟨he, hb⟩; subst he; have HB3 := Lib.hid (HB2.out.trans (hb.mono HB2.out.size)); clear hb)
           | (go_at_call 57; (with_reducible refine (join_tx _ (xs.drop k) _ (HLD.out.keep HB2r.out.drew) hda HZD.out).mono ?_); rw [HT2.out]; rintro e w3 ⟨he, hb⟩; subst he; have HB3 := Lib.hid (HB2.out.drew.trans (hb.mono (by have := HB2.out.size; exact this))); clear hb)
           | (go_at_call 57; (with_reducible refine (join_tx _ (xs.drop k) _ (HLD.out.keep (Below.refl _ _).drew) hda HZD.out).mono ?_); rw [HT2.out]; rintro e w2 ⟨he, hb⟩; subst he; have HB2r := Lib.hid ((Below.refl w1.heap.size w1).drew.trans hb); have HB2 := Lib.hid (HB1.out.trans (HB2r.out.mono HB1.out.size)); clear hb)
           | (go_at_call 57; (with_reducible refine (join_tx _ (xs.take k) _ (HLT.out.keep HB2r.out) hta HZT.out).mono ?_); rw [HT1.out]; rintro e w3 ⟨he, hb⟩; subst he; have HB3 := Lib.hid (HB2.out.trans (hb.mono HB2.out.size)); clear hb)
           | (go_at_call 57; (with_reducible refine (join_tx _ (xs.take k) _ (HLT.out.keep HB2r.out.drew) hta HZT.out).mono ?_); rw [HT1.out]; rintro e w3 ⟨he, hb⟩; subst he; have HB3 := Lib.hid (HB2.out.drew.trans (hb.mono (by have := HB2.out.size; exact this))); clear hb))
        rename_i hHeld
        clear hHeld
        have HFIN := Lib.hid (HB0.out.trans (HB3.out.mono HB0.out.size))
        go_wp2_with fail
        go_ret3
        exact ⟨HEE.out, HFIN.out⟩
      · have HLT := Lib.hid (show LieG itemE (.slice (some ⟨g, o, none⟩) k cap) (xs.take k) w1 from HL1.out.take hk)
        have HLD := Lib.hid (show LieG itemE (.slice (some ⟨g, o + k * 2, none⟩) (n - k) (cap - k)) (xs.drop k) w1 from HL1.out.drop hk)
        have j1 : ¬ cap - k = 0 := by omega
        have j2 : ¬ (cap : Int) = (k : Int) := by omega
        go_wp2_with fail
        go_region_held3 (fun W => W.cell? ⟨S, 0, none⟩ = some (.slice (some ⟨g, o, none⟩) n cap) ∧ W.cell? ⟨S, 1, none⟩ = some (.int .i64 (k : Int)) ∧ W.cell? ⟨S, 2, none⟩ = some (.string p))
          (first | exact HKP.out _ HB1.out | exact HKP.out _ HB1.out.drew | exact HKP.out _ HB2.out | exact HKP.out _ HB2.out.drew | exact HKP.out _ HB3.out | exact HKP.out _ HB3.out.drew)
          (first
           | (go_at_call 57; (with_reducible refine (join_tx _ (xs.take k) _ (HLT.out.keep (Below.refl _ _).drew) hta HZT.out).mono ?_); rw [HT1.out]; rintro e w2 ⟨he, hb⟩; subst he; have HB2r := Lib.hid ((Below.refl w1.heap.size w1).drew.trans hb); have HB2 := Lib.hid (HB1.out.trans (HB2r.out.mono HB1.out.size)); clear hb)
           | (go_at_call 57; (with_reducible refine (join_tx _ (xs.drop k) _ (HLD.out.keep HB2r.out) hda HZD.out).mono ?_); rw [HT2.out]; rintro e w3 ⟨he, hb⟩; subst he; have HB3 := Lib.hid (HB2.out.trans (hb.mono HB2.out.size)); clear hb)
           | (go_at_call 57; (with_reducible refine (join_tx _ (xs.drop k) _ (HLD.out.keep HB2r.out.drew) hda HZD.out).mono ?_); rw [HT2.out]; rintro e w3 ⟨he, hb⟩; subst he; have HB3 := Lib.hid (HB2.out.drew.trans (hb.mono (by have := HB2.out.size; exact this))); clear hb)
           | (go_at_call 57; (with_reducible refine (join_tx _ (xs.drop k) _ (HLD.out.keep (Below.refl _ _).drew) hda HZD.out).mono ?_); rw [HT2.out]; rintro e w2 ⟨he, hb⟩; subst he; have HB2r := Lib.hid ((Below.refl w1.heap.size w1).drew.trans hb); have HB2 := Lib.hid (HB1.out.trans (HB2r.out.mono HB1.out.size)); clear hb)
           | (go_at_call 57; (with_reducible refine (join_tx _ (xs.take k) _ (HLT.out.keep HB2r.out) hta HZT.out).mono ?_); rw [HT1.out]; rintro e w3 ⟨he, hb⟩; subst he; have HB3 := Lib.hid (HB2.out.trans (hb.mono HB2.out.size)); clear hb)
           | (go_at_call 57; (with_reducible refine (join_tx _ (xs.take k) _ (HLT.out.keep HB2r.out.drew) hta HZT.out).mono ?_); rw [HT1.out]; rintro e w3 ⟨he, hb⟩; subst he; have HB3 := Lib.hid (HB2.out.drew.trans (hb.mono (by have := HB2.out.size; exact this))); clear hb))
        rename_i hHeld
        clear hHeld
        have HFIN := Lib.hid (HB0.out.trans (HB3.out.mono HB0.out.size))
        go_wp2_with fail
        go_ret3
        exact ⟨HEE.out, HFIN.out⟩
set_option maxRecDepth 100000 in
set_option maxHeartbeats 8000000 in
theorem raw8_any (v : Value) (xs : List Cp.Item) (c : Int) (p : ByteArray) (pl : List UInt8) (w : World) (h : LieG itemE v xs w) (hp : Is p pl) (hf : Fits xs pl) (ht : Tabs w) :
    Calls Tryz.prog 23 #[bufV v c p] w fun e w' => e = RawV ⟨xs, c, pl⟩ ∧ Below w.heap.size w w' := by
  obtain ⟨E, hE⟩ : ∃ E, RawV ⟨xs, c, pl⟩ = E := ⟨_, rfl⟩
  have HE := Eqq.mk hE
  rw [hE]
  clear hE
  have HP := Lib.hid hp
  have HF := Lib.hid hf
  have HT := Lib.hid ht
  have hpz : p.size ≤ 2000000 := by rw [hp.size]; exact hf.p
  have hbw := (Below.refl w.heap.size w).alloc (Nat.le_refl _) (.cells #[v, .int .i64 c, .string p] 33)
  have HB0 := Lib.hid hbw
  have HL0 := Lib.hid (h.keep hbw)
  have HTB := Lib.hid (ht.keep hbw)
  obtain ⟨S, hS⟩ : ∃ S, w.heap.size = S := ⟨_, rfl⟩
  have HS := Eqq.mk hS
  have hh := (MapKept.heap_alloc w (.cells #[v, .int .i64 c, .string p] 33)).1
  rw [hS] at hh
  have HH := Lib.hid hh
  obtain ⟨ao, cap, rfl, hcap, hno, hsp, hx⟩ := h
  obtain ⟨n, hn⟩ : ∃ n, xs.length = n := ⟨_, rfl⟩
  have HN := Eqq.mk hn
  rw [hn] at HB0 HL0 HTB HH hcap hbw hh ⊢
  obtain ⟨W0, hW0⟩ : ∃ W0, w.alloc (.cells #[.slice ao n cap, .int .i64 c, .string p] 33) = W0 := ⟨_, rfl⟩
  have HW0 := Eqq.mk hW0
  rw [hW0] at HB0 HL0 HTB HH
  have HKP := Lib.hid (fun (W : World) (hW : Below W0.heap.size W0 W) => (show W.cell? ⟨S, 0, none⟩ = some (.slice ao n cap) ∧ W.cell? ⟨S, 1, none⟩ = some (.int .i64 c) ∧ W.cell? ⟨S, 2, none⟩ = some (.string p) from by
    have q0 : W.heap[S]? = some (.cells #[.slice ao n cap, .int .i64 c, .string p] 33 (0, 0)) := by rw [hW.block S (heap_lt HH.out)]; exact HH.out
    exact ⟨by rw [Lib.cell_of_heap q0]; rfl, by rw [Lib.cell_of_heap q0]; rfl, by rw [Lib.cell_of_heap q0]; rfl⟩))
  clear hp hf ht hx hbw hh hW0 hn
  go_enter Tryz.func23, Tryz.ntmps23
  go_wp2_with fail
  try rw [hS]
  clear hS
  rw [HW0.out]
  with_reducible refine (check8_any _ xs c p pl _ HL0.out HP.out HF.out HTB.out).mono ?_
  rintro e w1 ⟨rfl, hb⟩
  have HB1 := Lib.hid hb
  obtain ⟨c0, c1, c2⟩ := HKP.out _ hb
  clear hb
  obtain ⟨V, hV⟩ : ∃ V, Cp.valid ⟨xs, c, pl⟩ = V := ⟨_, rfl⟩
  have HV := Eqq.mk hV
  rw [hV]
  cases V
  · have HEE := Eqq.mk (show Ending.returned (.string ⟨#[]⟩) = E by rw [← HE.out]; unfold RawV; rw [if_neg (by rw [hV]; simp)])
    rw [if_neg (show ¬ (false = true) by simp)]
    clear hV
    go_wp2_with fail
    go_ret
    exact ⟨HEE.out, HB0.out.trans (HB1.out.mono HB0.out.size)⟩
  · obtain ⟨h64, ⟨k, rfl, hk⟩, _, _, _⟩ := valid_parts hV
    have HEE := Eqq.mk (show Ending.returned (.string (ba ((xs.take k).flatMap (·.1)) ++ p ++ ba ((xs.drop k).flatMap (·.1)))) = E by rw [← HE.out]; unfold RawV; rw [if_pos hV]; rw [HP.out.ba, ba_app9, ba_app9, List.append_assoc]; rfl)
    rw [if_pos rfl]
    rw [HN.out] at hk
    have HL1 := Lib.hid (HL0.out.keep HB1.out)
    have HZ := Lib.hid HF.out.x
    have hnn : ∀ X : List Cp.Item, X.length ≤ n → X.length ≤ 64 := fun X h => by have := HN.out; omega
    have hta : (xs.take k).length ≤ 64 := hnn _ (by rw [List.length_take, HN.out]; omega)
    have hda : (xs.drop k).length ≤ 64 := hnn _ (by rw [List.length_drop, HN.out]; omega)
    have HZT := Lib.hid (show ∀ x ∈ xs.take k, x.1.length ≤ 2000000 ∧ x.2.length ≤ 2000000 from fun x hx => HZ.out x (List.mem_of_mem_take hx))
    have HZD := Lib.hid (show ∀ x ∈ xs.drop k, x.1.length ≤ 2000000 ∧ x.2.length ≤ 2000000 from fun x hx => HZ.out x (List.mem_of_mem_drop hx))
    have i1 : (k : Int) ≤ (n : Int) := by omega
    have i2 : (0 : Int) ≤ (k : Int) := by omega
    have i3 : (k : Int) ≤ (cap : Int) := by omega
    clear hV hnn
    obtain ⟨t1, ht1⟩ : ∃ t, ba ((xs.take k).flatMap (·.1)) = t := ⟨_, rfl⟩
    obtain ⟨t2, ht2⟩ : ∃ t, ba ((xs.drop k).flatMap (·.1)) = t := ⟨_, rfl⟩
    have HT1 := Eqq.mk ht1
    have HT2 := Eqq.mk ht2
    clear ht1 ht2
    have hz1 : t1.size ≤ 128000000 := by
      rw [← HT1.out, ba_size]
      have h := flat_len (·.1) 2000000 (xs.take k) (fun x hx => (HZT.out x hx).1)
      have : (xs.take k).length * 2000000 ≤ 64 * 2000000 := Nat.mul_le_mul_right _ hta
      omega
    have hz2 : t2.size ≤ 128000000 := by
      rw [← HT2.out, ba_size]
      have h := flat_len (·.1) 2000000 (xs.drop k) (fun x hx => (HZD.out x hx).1)
      have : (xs.drop k).length * 2000000 ≤ 64 * 2000000 := Nat.mul_le_mul_right _ hda
      omega
    have hs1 : ¬ 9223372036854775807 < t1.size + p.size := by omega
    obtain ⟨tp, htp⟩ : ∃ t, t1 ++ p = t := ⟨_, rfl⟩
    have hs2 : ¬ 9223372036854775807 < tp.size + t2.size := by rw [← htp, ByteArray.size_append]; omega
    clear hz1 hz2
    rw [HT1.out, HT2.out, htp] at HEE
    cases ao with
    | none =>
      obtain rfl : cap = 0 := hno rfl
      obtain rfl : n = 0 := by omega
      obtain rfl : k = 0 := by omega
      have HX0 := Eqq.mk (show xs = [] from List.eq_nil_of_length_eq_zero HN.out)
      have HLT := Lib.hid (show LieG itemE (.slice none 0 0) (xs.take 0) w1 by rw [List.take_zero]; exact LieG.nil _)
      have HLD := Lib.hid (show LieG itemE (.slice none 0 0) (xs.drop 0) w1 by rw [HX0.out]; exact LieG.nil _)
      clear hno hsp hcap
      go_wp2_with fail
      go_region_held3 (fun W => W.cell? ⟨S, 0, none⟩ = some (.slice none 0 0) ∧ W.cell? ⟨S, 1, none⟩ = some (.int .i64 0) ∧ W.cell? ⟨S, 2, none⟩ = some (.string p))
        (first | exact HKP.out _ HB1.out | exact HKP.out _ HB1.out.drew | exact HKP.out _ HB2.out | exact HKP.out _ HB2.out.drew | exact HKP.out _ HB3.out | exact HKP.out _ HB3.out.drew)
        (first
         | (go_at_call 57; (with_reducible refine (join_rw _ (xs.take 0) _ (HLT.out.keep (Below.refl _ _).drew) hta HZT.out).mono ?_); rw [HT1.out]; rintro e w2 ⟨he, hb⟩; subst he; have HB2r := Lib.hid ((Below.refl w1.heap.size w1).drew.trans hb); have HB2 := Lib.hid (HB1.out.trans (HB2r.out.mono HB1.out.size)); clear hb)
         | (go_at_call 57; (with_reducible refine (join_rw _ (xs.drop 0) _ (HLD.out.keep HB2r.out) hda HZD.out).mono ?_); rw [HT2.out]; rintro e w3 ⟨he, hb⟩; subst he; have HB3 := Lib.hid (HB2.out.trans (hb.mono HB2.out.size)); clear hb)
         | (go_at_call 57; (with_reducible refine (join_rw _ (xs.drop 0) _ (HLD.out.keep HB2r.out.drew) hda HZD.out).mono ?_); rw [HT2.out]; rintro e w3 ⟨he, hb⟩; subst he; have HB3 := Lib.hid (HB2.out.drew.trans (hb.mono (by have := HB2.out.size; exact this))); clear hb)
         | (go_at_call 57; (with_reducible refine (join_rw _ (xs.drop 0) _ (HLD.out.keep (Below.refl _ _).drew) hda HZD.out).mono ?_); rw [HT2.out]; rintro e w2 ⟨he, hb⟩; subst he; have HB2r := Lib.hid ((Below.refl w1.heap.size w1).drew.trans hb); have HB2 := Lib.hid (HB1.out.trans (HB2r.out.mono HB1.out.size)); clear hb)
         | (go_at_call 57; (with_reducible refine (join_rw _ (xs.take 0) _ (HLT.out.keep HB2r.out) hta HZT.out).mono ?_); rw [HT1.out]; rintro e w3 ⟨he, hb⟩; subst he; have HB3 := Lib.hid (HB2.out.trans (hb.mono HB2.out.size)); clear hb)
         | (go_at_call 57; (with_reducible refine (join_rw _ (xs.take 0) _ (HLT.out.keep HB2r.out.drew) hta HZT.out).mono ?_); rw [HT1.out]; rintro e w3 ⟨he, hb⟩; subst he; have HB3 := Lib.hid (HB2.out.drew.trans (hb.mono (by have := HB2.out.size; exact this))); clear hb))
      rename_i hHeld
      clear hHeld
      have HFIN := Lib.hid (HB0.out.trans (HB3.out.mono HB0.out.size))
      go_wp2_with fail
      go_ret
      exact ⟨HEE.out, HFIN.out⟩
    | some ad =>
      obtain ⟨g, o, rfl⟩ := hsp ad rfl
      clear hno hsp
      by_cases hck : cap = k
      · have HLT := Lib.hid (show LieG itemE (.slice (some ⟨g, o, none⟩) k cap) (xs.take k) w1 from HL1.out.take hk)
        have HLD := Lib.hid (show LieG itemE (.slice (some ⟨g, o, none⟩) 0 0) (xs.drop k) w1 from lie_full HL1.out hk hck)
        have hck2 : k = cap := hck.symm
        clear hck
        subst hck2
        go_wp2_with fail
        go_region_held3 (fun W => W.cell? ⟨S, 0, none⟩ = some (.slice (some ⟨g, o, none⟩) n k) ∧ W.cell? ⟨S, 1, none⟩ = some (.int .i64 (k : Int)) ∧ W.cell? ⟨S, 2, none⟩ = some (.string p))
          (first | exact HKP.out _ HB1.out | exact HKP.out _ HB1.out.drew | exact HKP.out _ HB2.out | exact HKP.out _ HB2.out.drew | exact HKP.out _ HB3.out | exact HKP.out _ HB3.out.drew)
          (first
           | (go_at_call 57; (with_reducible refine (join_rw _ (xs.take k) _ (HLT.out.keep (Below.refl _ _).drew) hta HZT.out).mono ?_); rw [HT1.out]; rintro e w2 ⟨he, hb⟩; subst he; have HB2r := Lib.hid ((Below.refl w1.heap.size w1).drew.trans hb); have HB2 := Lib.hid (HB1.out.trans (HB2r.out.mono HB1.out.size)); clear hb)
           | (go_at_call 57; (with_reducible refine (join_rw _ (xs.drop k) _ (HLD.out.keep HB2r.out) hda HZD.out).mono ?_); rw [HT2.out]; rintro e w3 ⟨he, hb⟩; subst he; have HB3 := Lib.hid (HB2.out.trans (hb.mono HB2.out.size)); clear hb)
           | (go_at_call 57; (with_reducible refine (join_rw _ (xs.drop k) _ (HLD.out.keep HB2r.out.drew) hda HZD.out).mono ?_); rw [HT2.out]; rintro e w3 ⟨he, hb⟩; subst he; have HB3 := Lib.hid (HB2.out.drew.trans (hb.mono (by have := HB2.out.size; exact this))); clear hb)
           | (go_at_call 57; (with_reducible refine (join_rw _ (xs.drop k) _ (HLD.out.keep (Below.refl _ _).drew) hda HZD.out).mono ?_); rw [HT2.out]; rintro e w2 ⟨he, hb⟩; subst he; have HB2r := Lib.hid ((Below.refl w1.heap.size w1).drew.trans hb); have HB2 := Lib.hid (HB1.out.trans (HB2r.out.mono HB1.out.size)); clear hb)
           | (go_at_call 57; (with_reducible refine (join_rw _ (xs.take k) _ (HLT.out.keep HB2r.out) hta HZT.out).mono ?_); rw [HT1.out]; rintro e w3 ⟨he, hb⟩; subst he; have HB3 := Lib.hid (HB2.out.trans (hb.mono HB2.out.size)); clear hb)
           | (go_at_call 57; (with_reducible refine (join_rw _ (xs.take k) _ (HLT.out.keep HB2r.out.drew) hta HZT.out).mono ?_); rw [HT1.out]; rintro e w3 ⟨he, hb⟩; subst he; have HB3 := Lib.hid (HB2.out.drew.trans (hb.mono (by have := HB2.out.size; exact this))); clear hb))
        rename_i hHeld
        clear hHeld
        have HFIN := Lib.hid (HB0.out.trans (HB3.out.mono HB0.out.size))
        go_wp2_with fail
        go_ret
        exact ⟨HEE.out, HFIN.out⟩
      · have HLT := Lib.hid (show LieG itemE (.slice (some ⟨g, o, none⟩) k cap) (xs.take k) w1 from HL1.out.take hk)
        have HLD := Lib.hid (show LieG itemE (.slice (some ⟨g, o + k * 2, none⟩) (n - k) (cap - k)) (xs.drop k) w1 from HL1.out.drop hk)
        have j1 : ¬ cap - k = 0 := by omega
        have j2 : ¬ (cap : Int) = (k : Int) := by omega
        go_wp2_with fail
        go_region_held3 (fun W => W.cell? ⟨S, 0, none⟩ = some (.slice (some ⟨g, o, none⟩) n cap) ∧ W.cell? ⟨S, 1, none⟩ = some (.int .i64 (k : Int)) ∧ W.cell? ⟨S, 2, none⟩ = some (.string p))
          (first | exact HKP.out _ HB1.out | exact HKP.out _ HB1.out.drew | exact HKP.out _ HB2.out | exact HKP.out _ HB2.out.drew | exact HKP.out _ HB3.out | exact HKP.out _ HB3.out.drew)
          (first
           | (go_at_call 57; (with_reducible refine (join_rw _ (xs.take k) _ (HLT.out.keep (Below.refl _ _).drew) hta HZT.out).mono ?_); rw [HT1.out]; rintro e w2 ⟨he, hb⟩; subst he; have HB2r := Lib.hid ((Below.refl w1.heap.size w1).drew.trans hb); have HB2 := Lib.hid (HB1.out.trans (HB2r.out.mono HB1.out.size)); clear hb)
           | (go_at_call 57; (with_reducible refine (join_rw _ (xs.drop k) _ (HLD.out.keep HB2r.out) hda HZD.out).mono ?_); rw [HT2.out]; rintro e w3 ⟨he, hb⟩; subst he; have HB3 := Lib.hid (HB2.out.trans (hb.mono HB2.out.size)); clear hb)
           | (go_at_call 57; (with_reducible refine (join_rw _ (xs.drop k) _ (HLD.out.keep HB2r.out.drew) hda HZD.out).mono ?_); rw [HT2.out]; rintro e w3 ⟨he, hb⟩; subst he; have HB3 := Lib.hid (HB2.out.drew.trans (hb.mono (by have := HB2.out.size; exact this))); clear hb)
           | (go_at_call 57; (with_reducible refine (join_rw _ (xs.drop k) _ (HLD.out.keep (Below.refl _ _).drew) hda HZD.out).mono ?_); rw [HT2.out]; rintro e w2 ⟨he, hb⟩; subst he; have HB2r := Lib.hid ((Below.refl w1.heap.size w1).drew.trans hb); have HB2 := Lib.hid (HB1.out.trans (HB2r.out.mono HB1.out.size)); clear hb)
           | (go_at_call 57; (with_reducible refine (join_rw _ (xs.take k) _ (HLT.out.keep HB2r.out) hta HZT.out).mono ?_); rw [HT1.out]; rintro e w3 ⟨he, hb⟩; subst he; have HB3 := Lib.hid (HB2.out.trans (hb.mono HB2.out.size)); clear hb)
           | (go_at_call 57; (with_reducible refine (join_rw _ (xs.take k) _ (HLT.out.keep HB2r.out.drew) hta HZT.out).mono ?_); rw [HT1.out]; rintro e w3 ⟨he, hb⟩; subst he; have HB3 := Lib.hid (HB2.out.drew.trans (hb.mono (by have := HB2.out.size; exact this))); clear hb))
        rename_i hHeld
        clear hHeld
        have HFIN := Lib.hid (HB0.out.trans (HB3.out.mono HB0.out.size))
        go_wp2_with fail
        go_ret
        exact ⟨HEE.out, HFIN.out⟩
end Go.Proofs.YtgdcffahhpeibaaGreatDoor
namespace Go.Proofs.YtgdcffahhpeibaaGreatDoor
open Go.RowKit
def befK (sel : Cp.Item → List UInt8) (xs : List Cp.Item) (c k : Nat) : List UInt8 := (xs.take (min k c)).flatMap sel
def aftK (sel : Cp.Item → List UInt8) (xs : List Cp.Item) (c k : Nat) : List UInt8 := ((xs.take k).drop c).flatMap sel
theorem bef_lt (sel : Cp.Item → List UInt8) (xs : List Cp.Item) (c k : Nat) (x : Cp.Item) (h : xs[k]? = some x) (hk : k < c) : befK sel xs c (k + 1) = befK sel xs c k ++ sel x ∧ aftK sel xs c (k + 1) = aftK sel xs c k := by
  unfold befK aftK
  rw [Nat.min_eq_left (by omega), Nat.min_eq_left (by omega), flat_snoc sel xs k x h, List.drop_eq_nil_of_le (by rw [List.length_take]; omega), List.drop_eq_nil_of_le (by rw [List.length_take]; omega)]
  exact ⟨rfl, rfl⟩
theorem bef_ge (sel : Cp.Item → List UInt8) (xs : List Cp.Item) (c k : Nat) (x : Cp.Item) (h : xs[k]? = some x) (hk : ¬ k < c) : befK sel xs c (k + 1) = befK sel xs c k ∧ aftK sel xs c (k + 1) = aftK sel xs c k ++ sel x := by
  have hkl : k < xs.length := by
    rcases Nat.lt_or_ge k xs.length with h' | h'
    · exact h'
    · rw [List.getElem?_eq_none h'] at h; cases h
  unfold befK aftK
  rw [Nat.min_eq_right (by omega), Nat.min_eq_right (by omega), take_snoc9 xs k x h, List.drop_append_of_le_length (by rw [List.length_take]; omega), List.flatMap_append]
  exact ⟨rfl, by simp⟩
/-- the keys up to an index, those that are pending at the caret among them -/
def rawK (xs : List Cp.Item) (c : Nat) (pl : List UInt8) (k : Nat) : List UInt8 := befK (·.1) xs c k ++ ((if c < k then pl else []) ++ aftK (·.1) xs c k)
theorem raw_end (xs : List Cp.Item) (c : Nat) (pl : List UInt8) (hc : c ≤ xs.length) : rawK xs c pl (xs.length + 1) = Cp.raw ⟨xs, c, pl⟩ := by
  unfold rawK befK aftK Cp.raw Cp.rawOf
  rw [if_pos (by omega), Nat.min_eq_right (by omega), show xs.take (xs.length + 1) = xs from List.take_of_length_le (by omega)]
  rfl
theorem aft_nil (sel : Cp.Item → List UInt8) (xs : List Cp.Item) (c k : Nat) (h : k ≤ c) : aftK sel xs c k = [] := by
  unfold aftK
  rw [List.drop_eq_nil_of_le (by rw [List.length_take]; omega)]
  rfl
theorem raw_step (xs : List Cp.Item) (c k : Nat) (pl : List UInt8) (x : Cp.Item) (h : xs[k]? = some x) : rawK xs c pl (k + 1) = (rawK xs c pl k ++ (if k = c then pl else [])) ++ x.1 := by
  unfold rawK
  rcases Nat.lt_trichotomy k c with hk | hk | hk
  · obtain ⟨q1, q2⟩ := bef_lt (·.1) xs c k x h hk
    rw [q1, q2, if_neg (by omega), if_neg (by omega), if_neg (by omega), aft_nil _ _ _ _ (by omega)]
    simp
  · obtain ⟨q1, q2⟩ := bef_ge (·.1) xs c k x h (by omega)
    rw [q1, q2, if_pos (by omega), if_neg (by omega), if_pos hk, aft_nil _ _ _ _ (by omega)]
    simp
  · obtain ⟨q1, q2⟩ := bef_ge (·.1) xs c k x h (by omega)
    rw [q1, q2, if_pos (by omega), if_pos (by omega), if_neg (by omega)]
    simp
theorem raw_last (xs : List Cp.Item) (c : Nat) (pl : List UInt8) (hc : c ≤ xs.length) : rawK xs c pl (xs.length + 1) = rawK xs c pl xs.length ++ (if xs.length = c then pl else []) := by
  unfold rawK befK aftK
  rw [Nat.min_eq_right (by omega), Nat.min_eq_right hc, show xs.take (xs.length + 1) = xs from List.take_of_length_le (by omega), List.take_length, if_pos (by omega)]
  by_cases h : xs.length = c
  · rw [if_neg (by omega), if_pos h, List.drop_eq_nil_of_le (by omega)]
    simp
  · rw [if_pos (by omega), if_neg h]
    simp
set_option maxRecDepth 100000 in
set_option maxHeartbeats 8000000 in
theorem rtext8_any (v : Value) (xs : List Cp.Item) (c : Int) (p : ByteArray) (pl : List UInt8) (w : World) (h : LieG itemE v xs w) (hp : Is p pl) (hf : Fits xs pl) :
    Calls Tryz.prog 21 #[bufV v c p] w fun e w' => e = TextV ⟨xs, c, pl⟩ ∧ Below w.heap.size w w' := by
  obtain ⟨E, hE⟩ : ∃ E, TextV ⟨xs, c, pl⟩ = E := ⟨_, rfl⟩
  have HE := Eqq.mk hE
  rw [hE]
  clear hE
  have HP := Lib.hid hp
  have HF := Lib.hid hf
  have hpz : p.size ≤ 2000000 := by rw [hp.size]; exact hf.p
  have hbw := (Below.refl w.heap.size w).alloc (Nat.le_refl _) (.cells #[v, .int .i64 c, .string p] 42)
  have HB0 := Lib.hid hbw
  have HL0 := Lib.hid (h.keep hbw)
  obtain ⟨S, hS⟩ : ∃ S, w.heap.size = S := ⟨_, rfl⟩
  have HS := Eqq.mk hS
  have hh := (MapKept.heap_alloc w (.cells #[v, .int .i64 c, .string p] 42)).1
  rw [hS] at hh
  have HH := Lib.hid hh
  obtain ⟨ao, cap, rfl, hcap, hno, hsp, hx⟩ := h
  have HX := Lib.hid hx
  obtain ⟨n, hn⟩ : ∃ n, xs.length = n := ⟨_, rfl⟩
  have HN := Eqq.mk hn
  rw [hn] at HB0 HL0 HH hcap hbw hh ⊢
  obtain ⟨W0, hW0⟩ : ∃ W0, w.alloc (.cells #[.slice ao n cap, .int .i64 c, .string p] 42) = W0 := ⟨_, rfl⟩
  have HW0 := Eqq.mk hW0
  rw [hW0] at HB0 HL0 HH
  have HKP := Lib.hid (fun (W : World) (hW : Below W0.heap.size W0 W) => (show W.cell? ⟨S, 0, none⟩ = some (.slice ao n cap) ∧ W.cell? ⟨S, 1, none⟩ = some (.int .i64 c) ∧ W.cell? ⟨S, 2, none⟩ = some (.string p) from by
    have q0 : W.heap[S]? = some (.cells #[.slice ao n cap, .int .i64 c, .string p] 42 (0, 0)) := by rw [hW.block S (heap_lt HH.out)]; exact HH.out
    exact ⟨by rw [Lib.cell_of_heap q0]; rfl, by rw [Lib.cell_of_heap q0]; rfl, by rw [Lib.cell_of_heap q0]; rfl⟩))
  clear hp hf hx hbw hh hW0 hn hno hsp hcap
  go_enter Tryz.func21, Tryz.ntmps21
  go_wp2_with fail
  try rw [hS]
  clear hS
  rw [HW0.out]
  with_reducible refine (rvalid_any _ xs c p pl _ HL0.out HP.out HF.out).mono ?_
  rintro e w1 ⟨rfl, hb⟩
  have HB1 := Lib.hid hb
  obtain ⟨c0, c1, c2⟩ := HKP.out _ hb
  clear hb
  obtain ⟨V, hV⟩ : ∃ V, Cp.valid ⟨xs, c, pl⟩ = V := ⟨_, rfl⟩
  have HV := Eqq.mk hV
  rw [hV]
  cases V
  · have HEE := Eqq.mk (show Ending.returned (.tuple #[.string ⟨#[]⟩, .string ⟨#[]⟩, .string ⟨#[]⟩]) = E by rw [← HE.out]; unfold TextV; rw [if_neg (by rw [hV]; simp)])
    clear hV
    go_wp2_with fail
    go_ret3
    exact ⟨HEE.out, HB0.out.trans (HB1.out.mono HB0.out.size)⟩
  · obtain ⟨h64, ⟨cn, rfl, hk⟩, _, _, _⟩ := valid_parts hV
    have HEE := Eqq.mk (show Ending.returned (.tuple #[.string (ba ((xs.take cn).flatMap (·.2))), .string p, .string (ba ((xs.drop cn).flatMap (·.2)))]) = E by rw [← HE.out]; unfold TextV; rw [if_pos hV]; rw [HP.out.ba]; rfl)
    have HN9 := HN.out
    rw [HN.out] at hk h64
    have hfl : ∀ (sel : Cp.Item → List UInt8) (ys : List Cp.Item), (∀ x ∈ xs, (sel x).length ≤ 2000000) → (∀ y ∈ ys, y ∈ xs) → ys.length ≤ 64 → (ys.flatMap sel).length ≤ 128000000 := fun sel ys h1 h2 h3 => by
      have h := flat_len sel 2000000 ys (fun y hy => h1 y (h2 y hy))
      have : ys.length * 2000000 ≤ 64 * 2000000 := Nat.mul_le_mul_right _ h3
      omega
    have HFL := Lib.hid hfl
    clear hV hfl HN9
    go_wp2_with fail
    clear c0 c1 c2
    go_loopw [5, 6, 7] (fun s1 s2 iv wr => ∃ (k : Nat) (b1 b2 : ByteArray), k ≤ n ∧ s1 = .string b1 ∧ s2 = .string b2 ∧ iv = .int .i64 k ∧ Is b1 (befK (·.2) xs cn k) ∧ Is b2 (aftK (·.2) xs cn k) ∧ Below W0.heap.size W0 wr) (fun _ _ iv _ => n - (intOf iv).toNat)
    case atStart => exact ⟨0, ⟨#[]⟩, ⟨#[]⟩, Nat.zero_le _, rfl, rfl, rfl, by unfold befK; rw [Nat.zero_min, List.take_zero]; exact Is.mk [], by unfold aftK; rw [List.take_zero, List.drop_nil]; exact Is.mk [], HB1.out⟩
    case round =>
      obtain ⟨k, b1, b2, hkn, rfl, rfl, rfl, hi1, hi2, hb⟩ := hrel
      have HW := Lib.hid hb
      have HB := Lib.hid (HB0.out.trans (hb.mono HB0.out.size))
      obtain ⟨c0, c1, c2⟩ := HKP.out _ hb
      have HI1 := Lib.hid hi1
      have HI2 := Lib.hid hi2
      have hz1 : b1.size ≤ 128000000 := by rw [hi1.size]; exact HFL.out _ _ (fun x hx => (HF.out.x x hx).2) (fun y hy => List.mem_of_mem_take hy) (by rw [List.length_take, HN.out]; omega)
      have hz2 : b2.size ≤ 128000000 := by rw [hi2.size]; exact HFL.out _ _ (fun x hx => (HF.out.x x hx).2) (fun y hy => List.mem_of_mem_take (List.mem_of_mem_drop hy)) (by rw [List.length_drop, List.length_take, HN.out]; omega)
      clear hb hi1 hi2
      by_cases hlt : k < n
      · obtain ⟨⟨x1, x2⟩, hx⟩ : ∃ x, xs[k]? = some x := ⟨_, List.getElem?_eq_getElem (by rw [HN.out]; exact hlt)⟩
        obtain ⟨g, o, rfl, hcc⟩ := HX.out k _ hx
        have e2 : wr.cell? ⟨g, o + k * 2 + 1, none⟩ = some (.string (ba x2)) := below_cellU (by have h := hcc 1 _ rfl; exact h) HB.out (by rw [HS.out]; exact Nat.le_refl _)
        have HI := Lib.hid (is_ba x2)
        have hzx := ba_size x2
        have hzx2 := (HF.out.x _ (List.mem_of_getElem? hx)).2
        dsimp only at hzx2
        obtain ⟨t, ht⟩ : ∃ t, ba x2 = t := ⟨_, rfl⟩
        rw [ht] at e2 HI hzx
        have hzt : t.size ≤ 2000000 := by omega
        have g1 : (k : Int) < (n : Int) := by omega
        have g2 : (0 : Int) ≤ (k : Int) := by omega
        clear hzx hzx2 ht hcc
        by_cases hkc : k < cn
        · obtain ⟨q1, q2⟩ := bef_lt (·.2) xs cn k _ hx hkc
          have HQ1 := Lib.hid (show Is (b1 ++ t) (befK (·.2) xs cn (k + 1)) by rw [q1]; exact HI1.out.append HI.out)
          have HQ2 := Lib.hid (show Is b2 (aftK (·.2) xs cn (k + 1)) by rw [q2]; exact HI2.out)
          have g3 : (k : Int) < (cn : Int) := by omega
          have g4 : ¬ 9223372036854775807 < b1.size + t.size := by omega
          clear hx q1 q2 hkc
          go_wp2_with fail
          go_roundw
          case rel => exact ⟨k + 1, _, _, by omega, rfl, rfl, by go_num, HQ1.out, HQ2.out, by first | exact HW.out | exact bel_dn HW.out _⟩
          case measure => simp [intOf]; omega
        · obtain ⟨q1, q2⟩ := bef_ge (·.2) xs cn k _ hx hkc
          have HQ1 := Lib.hid (show Is b1 (befK (·.2) xs cn (k + 1)) by rw [q1]; exact HI1.out)
          have HQ2 := Lib.hid (show Is (b2 ++ t) (aftK (·.2) xs cn (k + 1)) by rw [q2]; exact HI2.out.append HI.out)
          have g3 : ¬ (k : Int) < (cn : Int) := by omega
          have g4 : ¬ 9223372036854775807 < b2.size + t.size := by omega
          clear hx q1 q2 hkc
          go_wp2_with fail
          go_roundw
          case rel => exact ⟨k + 1, _, _, by omega, rfl, rfl, by go_num, HQ1.out, HQ2.out, by first | exact HW.out | exact bel_dn HW.out _⟩
          case measure => simp [intOf]; omega
      · obtain rfl : k = n := by omega
        have HF1 := Eqq.mk (show .returned (.tuple #[.string b1, .string p, .string b2]) = E by
          rw [← HEE.out, HI1.out.ba, HI2.out.ba]
          unfold befK aftK
          rw [Nat.min_eq_right hk, show xs.take k = xs from List.take_of_length_le (by rw [HN.out]; exact Nat.le_refl _)])
        go_wp2_with fail
        go_quiet (fail)
        go_wp2_with fail
        go_ret3
        exact ⟨HF1.out, by first | exact HB.out | exact bel_dn HB.out _ | exact HB.out.drew⟩
set_option maxRecDepth 100000 in
set_option maxHeartbeats 8000000 in
theorem rraw8_any (v : Value) (xs : List Cp.Item) (c : Int) (p : ByteArray) (pl : List UInt8) (w : World) (h : LieG itemE v xs w) (hp : Is p pl) (hf : Fits xs pl) :
    Calls Tryz.prog 24 #[bufV v c p] w fun e w' => e = RawV ⟨xs, c, pl⟩ ∧ Below w.heap.size w w' := by
  obtain ⟨E, hE⟩ : ∃ E, RawV ⟨xs, c, pl⟩ = E := ⟨_, rfl⟩
  have HE := Eqq.mk hE
  rw [hE]
  clear hE
  have HP := Lib.hid hp
  have HF := Lib.hid hf
  have hpz : p.size ≤ 2000000 := by rw [hp.size]; exact hf.p
  have hbw := (Below.refl w.heap.size w).alloc (Nat.le_refl _) (.cells #[v, .int .i64 c, .string p] 42)
  have HB0 := Lib.hid hbw
  have HL0 := Lib.hid (h.keep hbw)
  obtain ⟨S, hS⟩ : ∃ S, w.heap.size = S := ⟨_, rfl⟩
  have HS := Eqq.mk hS
  have hh := (MapKept.heap_alloc w (.cells #[v, .int .i64 c, .string p] 42)).1
  rw [hS] at hh
  have HH := Lib.hid hh
  obtain ⟨ao, cap, rfl, hcap, hno, hsp, hx⟩ := h
  have HX := Lib.hid hx
  obtain ⟨n, hn⟩ : ∃ n, xs.length = n := ⟨_, rfl⟩
  have HN := Eqq.mk hn
  rw [hn] at HB0 HL0 HH hcap hbw hh ⊢
  obtain ⟨W0, hW0⟩ : ∃ W0, w.alloc (.cells #[.slice ao n cap, .int .i64 c, .string p] 42) = W0 := ⟨_, rfl⟩
  have HW0 := Eqq.mk hW0
  rw [hW0] at HB0 HL0 HH
  have HKP := Lib.hid (fun (W : World) (hW : Below W0.heap.size W0 W) => (show W.cell? ⟨S, 0, none⟩ = some (.slice ao n cap) ∧ W.cell? ⟨S, 1, none⟩ = some (.int .i64 c) ∧ W.cell? ⟨S, 2, none⟩ = some (.string p) from by
    have q0 : W.heap[S]? = some (.cells #[.slice ao n cap, .int .i64 c, .string p] 42 (0, 0)) := by rw [hW.block S (heap_lt HH.out)]; exact HH.out
    exact ⟨by rw [Lib.cell_of_heap q0]; rfl, by rw [Lib.cell_of_heap q0]; rfl, by rw [Lib.cell_of_heap q0]; rfl⟩))
  clear hp hf hx hbw hh hW0 hn hno hsp hcap
  go_enter Tryz.func24, Tryz.ntmps24
  go_wp2_with fail
  try rw [hS]
  clear hS
  rw [HW0.out]
  with_reducible refine (rvalid_any _ xs c p pl _ HL0.out HP.out HF.out).mono ?_
  rintro e w1 ⟨rfl, hb⟩
  have HB1 := Lib.hid hb
  obtain ⟨c0, c1, c2⟩ := HKP.out _ hb
  clear hb
  obtain ⟨V, hV⟩ : ∃ V, Cp.valid ⟨xs, c, pl⟩ = V := ⟨_, rfl⟩
  have HV := Eqq.mk hV
  rw [hV]
  cases V
  · have HEE := Eqq.mk (show Ending.returned (.string ⟨#[]⟩) = E by rw [← HE.out]; unfold RawV; rw [if_neg (by rw [hV]; simp)])
    clear hV
    go_wp2_with fail
    go_ret
    exact ⟨HEE.out, HB0.out.trans (HB1.out.mono HB0.out.size)⟩
  · obtain ⟨h64, ⟨cn, rfl, hk⟩, _, _, _⟩ := valid_parts hV
    have HEE := Eqq.mk (show Ending.returned (.string (ba (Cp.raw ⟨xs, cn, pl⟩))) = E by rw [← HE.out]; unfold RawV; rw [if_pos hV]; done)
    have HN9 := HN.out
    rw [HN.out] at hk h64
    have hfl : ∀ (sel : Cp.Item → List UInt8) (ys : List Cp.Item), (∀ x ∈ xs, (sel x).length ≤ 2000000) → (∀ y ∈ ys, y ∈ xs) → ys.length ≤ 64 → (ys.flatMap sel).length ≤ 128000000 := fun sel ys h1 h2 h3 => by
      have h := flat_len sel 2000000 ys (fun y hy => h1 y (h2 y hy))
      have : ys.length * 2000000 ≤ 64 * 2000000 := Nat.mul_le_mul_right _ h3
      omega
    have HFL := Lib.hid hfl
    clear hV hfl HN9
    have HPB := Lib.hid (show pl.length ≤ 2000000 by rw [← HP.out.size]; exact hpz)
    have HRL := Lib.hid (show ∀ k, (rawK xs cn pl k).length ≤ 260000000 from fun k => by
      unfold rawK
      rw [List.length_append, List.length_append]
      have h1 := HFL.out (·.1) (xs.take (min k cn)) (fun x hx => (HF.out.x x hx).1) (fun y hy => List.mem_of_mem_take hy) (by rw [List.length_take, HN.out]; omega)
      have h2 := HFL.out (·.1) ((xs.take k).drop cn) (fun x hx => (HF.out.x x hx).1) (fun y hy => List.mem_of_mem_take (List.mem_of_mem_drop hy)) (by rw [List.length_drop, List.length_take, HN.out]; omega)
      have h3 : (if cn < k then pl else []).length ≤ 2000000 := by
        split
        · exact HPB.out
        · simp
      unfold befK aftK
      omega)
    go_wp2_with fail
    clear c0 c1 c2
    go_loopw [3, 4] (fun s1 iv wr => ∃ (k : Nat) (b : ByteArray), k ≤ n + 1 ∧ s1 = .string b ∧ iv = .int .i64 k ∧ Is b (rawK xs cn pl k) ∧ Below W0.heap.size W0 wr) (fun _ iv _ => n + 1 - (intOf iv).toNat)
    case atStart => exact ⟨0, ⟨#[]⟩, Nat.zero_le _, rfl, rfl, by unfold rawK befK aftK; rw [Nat.zero_min, List.take_zero, List.drop_nil, if_neg (Nat.not_lt_zero _)]; exact Is.mk [], HB1.out⟩
    case round =>
      obtain ⟨k, b, hkn, rfl, rfl, hi, hb⟩ := hrel
      have HW := Lib.hid hb
      have HB := Lib.hid (HB0.out.trans (hb.mono HB0.out.size))
      obtain ⟨c0, c1, c2⟩ := HKP.out _ hb
      have HI := Lib.hid hi
      have hz := HRL.out k
      rw [← hi.size] at hz
      clear hb hi
      by_cases hle : k ≤ n
      · have g0 : (k : Int) ≤ (n : Int) := by omega
        by_cases hlt : k < n
        · obtain ⟨⟨x1, x2⟩, hx⟩ : ∃ x, xs[k]? = some x := ⟨_, List.getElem?_eq_getElem (by rw [HN.out]; exact hlt)⟩
          obtain ⟨g, o, rfl, hcc⟩ := HX.out k _ hx
          have e2 : wr.cell? ⟨g, o + k * 2, none⟩ = some (.string (ba x1)) := below_cellU (by have h := hcc 0 _ rfl; exact h) HB.out (by rw [HS.out]; exact Nat.le_refl _)
          have HIx := Lib.hid (is_ba x1)
          have hzx := ba_size x1
          have hzx2 := (HF.out.x _ (List.mem_of_getElem? hx)).1
          dsimp only at hzx2
          have HST := Eqq.mk (raw_step xs cn k pl _ hx)
          obtain ⟨t, ht⟩ : ∃ t, ba x1 = t := ⟨_, rfl⟩
          rw [ht] at e2 HIx hzx
          have hzt : t.size ≤ 2000000 := by omega
          have g1 : (k : Int) < (n : Int) := by omega
          have g2 : (0 : Int) ≤ (k : Int) := by omega
          clear hx hzx hzx2 ht hcc
          by_cases hkc : k = cn
          · have HQ := Lib.hid (show Is ((b ++ p) ++ t) (rawK xs cn pl (k + 1)) by rw [HST.out, if_pos hkc]; exact (HI.out.append HP.out).append HIx.out)
            subst hkc
            have g4 : ¬ 9223372036854775807 < b.size + p.size := by omega
            obtain ⟨bp, hbp⟩ : ∃ x, b ++ p = x := ⟨_, rfl⟩
            have g5 : ¬ 9223372036854775807 < bp.size + t.size := by rw [← hbp, ByteArray.size_append]; omega
            rw [hbp] at HQ
            go_wp2_with fail
            go_roundw
            case rel => exact ⟨k + 1, _, by omega, rfl, by go_num, HQ.out, by first | exact HW.out | exact bel_dn HW.out _⟩
            case measure => simp [intOf]; omega
          · have HQ := Lib.hid (show Is (b ++ t) (rawK xs cn pl (k + 1)) by rw [HST.out, if_neg hkc, List.append_nil]; exact HI.out.append HIx.out)
            have g3 : ¬ (k : Int) = (cn : Int) := by omega
            have g6 : ((k : Int) == (cn : Int)) = false := by rw [beq_eq_false_iff_ne]; exact g3
            have g4 : ¬ 9223372036854775807 < b.size + t.size := by omega
            clear hkc
            go_wp2_with fail
            go_roundw
            case rel => exact ⟨k + 1, _, by omega, rfl, by go_num, HQ.out, by first | exact HW.out | exact bel_dn HW.out _⟩
            case measure => simp [intOf]; omega
        · obtain rfl : k = n := by omega
          have HST := Eqq.mk (raw_last xs cn pl (by rw [HN.out]; exact hk))
          rw [HN.out] at HST
          by_cases hkc : k = cn
          · have HQ := Lib.hid (show Is (b ++ p) (rawK xs cn pl (k + 1)) by rw [HST.out, if_pos hkc]; exact HI.out.append HP.out)
            subst hkc
            have g4 : ¬ 9223372036854775807 < b.size + p.size := by omega
            go_wp2_with fail
            go_roundw
            case rel => exact ⟨k + 1, _, by omega, rfl, by go_num, HQ.out, by first | exact HW.out | exact bel_dn HW.out _⟩
            case measure => simp [intOf]
          · have HQ := Lib.hid (show Is b (rawK xs cn pl (k + 1)) by rw [HST.out, if_neg hkc, List.append_nil]; exact HI.out)
            have g3 : ¬ (k : Int) = (cn : Int) := by omega
            have g6 : ((k : Int) == (cn : Int)) = false := by rw [beq_eq_false_iff_ne]; exact g3
            clear hkc
            go_wp2_with fail
            go_roundw
            case rel => exact ⟨k + 1, _, by omega, rfl, by go_num, HQ.out, by first | exact HW.out | exact bel_dn HW.out _⟩
            case measure => simp [intOf]
      · obtain rfl : k = n + 1 := by omega
        have g0 : ¬ (((n + 1 : Nat) : Int) ≤ (n : Int)) := by omega
        have HF1 := Eqq.mk (show .returned (.string b) = E by
          rw [← HEE.out, ← raw_end xs cn pl (by rw [HN.out]; exact hk), HN.out, HI.out.ba])
        go_wp2_with fail
        go_ret
        exact ⟨HF1.out, HB.out⟩
end Go.Proofs.YtgdcffahhpeibaaGreatDoor
