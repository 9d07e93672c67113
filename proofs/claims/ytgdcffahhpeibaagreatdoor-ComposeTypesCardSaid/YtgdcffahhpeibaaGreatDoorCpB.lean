/-
  Texts merged (lists of items: clone, concatenation, insertion, deletion; Back, Delete, Move): CpItems, CpCopy, CpConcat, CpInsert, CpDelete, CpDel, CpBack, CpMove, CpUtf, CpEnds, CpWithout.
-/
import Derived.Test.YtgdcffahhpeibaaGreatDoorCpA
import Derived.Test.YtgdcffahhpeibaaGreatDoorUtfBack
import Derived.Lib.OthersKept
import Derived.Lib.TrimUEq
import Derived.StillTailTactics
import Derived.Laws.AppendOwn
import Derived.BigQuiet
import Derived.IntWalk
import Derived.Lib.BufferMore
import Derived.Lib.AppendZeros
import Derived.Deep.RegionLaw
import Derived.Deep.RegionHeld3
import Derived.Laws.ResultCell
import Derived.Lib.SliceRun
import Derived.ArgAppend
namespace Go.Proofs.YtgdcffahhpeibaaGreatDoor
open Go.RowKit
theorem encode_ba {c : Nat} (hc : UT.isCh c = true) : Utf8.encode (c : Int) = ba (Lib.encodeRune (c : Int)) := by
  have h := of_decide_eq_true hc
  have hv : Utf8.valid (c : Int) = true := by
    unfold Utf8.valid
    rw [Bool.or_eq_true, Bool.and_eq_true, Bool.and_eq_true, decide_eq_true_eq, decide_eq_true_eq, decide_eq_true_eq, decide_eq_true_eq]
    omega
  unfold Utf8.encode
  rw [if_pos hv, Int.toNat_natCast]
  dsimp only
  by_cases h1 : c < 128
  · rw [UT.bk_one h1, if_pos (by omega)]
    rfl
  · rw [if_neg (by omega)]
    by_cases h2 : c < 2048
    · rw [UT.bk_two (by omega) h2, if_pos (by omega)]
      rfl
    · rw [if_neg (by omega)]
      by_cases h3 : c < 65536
      · rw [UT.bk_three (by omega), if_pos (by omega)]
        rfl
      · rw [UT.bk_four (by omega) (by omega), if_neg (by omega)]
        rfl
theorem mk_cons (rl : UT.Bs) (c : Nat) (cs : List Nat) : Cp.mkItems rl (c :: cs) = (rl, Lib.encodeRune (c : Int)) :: Cp.mkItems [] cs := by
  cases cs <;> rfl
theorem mk_len (rl : UT.Bs) (cs : List Nat) : (Cp.mkItems rl cs).length = cs.length := by
  cases cs
  · rfl
  · rw [Cp.mkItems, List.length_cons, List.length_map, List.length_cons]
theorem infoItemP : (Tryz.prog.info? 106).map (fun i => (i.zero, i.size, i.bytes)) = some (some (.agg #[.string ⟨#[]⟩, .string ⟨#[]⟩]), 2, 32) := by kernel_rfl
def itemPApp : AppT Tryz.prog itemE 31 106 where
  z := .agg #[.string ⟨#[]⟩, .string ⟨#[]⟩]
  bytes := 32
  under := Tryz.underlying31
  info := infoItemP
  zsz := rfl
theorem iterPos8 {w : World} {k p : Nat} {s : ByteArray} (h : w.heap[k]? = some (.stringIter s p)) : w.iterPos k = p := by simp [World.iterPos, h]
theorem OwnG.iterAt {α : Type} {E : Enc α} {T : TypeId} {B F p : Nat} {s : ByteArray} {v : Value} {xs : List α} {w : World} (h : OwnG E T B v xs w) (hit : w.heap[F]? = some (.stringIter s p)) (q : Nat) : OwnG E T B v xs (w.iterAt F s q) := by
  obtain ⟨h1, h2 | ⟨g, cap, cur, hv, hB', hg, r⟩⟩ := h
  · exact ⟨h1, .inl h2⟩
  · have hgF : g ≠ F := fun e => by rw [e, hit] at hg; cases hg
    exact ⟨h1, .inr ⟨g, cap, cur, hv, hB', by rw [Lib.iterAt_other _ _ _ _ _ hgF]; exact hg, r⟩⟩
theorem iter_grown {F p : Nat} {s : ByteArray} {w w' : World} {row : Option Nat} (h : w.heap[F]? = some (.stringIter s p)) (hg : w.grownBy w' row) (hne : some F ≠ row) : w'.heap[F]? = some (.stringIter s p) := by
  rw [hg.block F (heap_lt h) hne]; exact h
theorem OwnG.not_iter {α : Type} {E : Enc α} {T : TypeId} {B F p : Nat} {s : ByteArray} {v : Value} {xs : List α} {w : World} (h : OwnG E T B v xs w) (hit : w.heap[F]? = some (.stringIter s p)) : some F ≠ v.ownBlock := by
  obtain ⟨h1, ⟨rfl, _⟩ | ⟨g, cap, cur, hv, hB', hg, r⟩⟩ := h
  · intro e; cases e
  · intro e
    rw [hv] at e
    have e2 : F = g := by injection e
    rw [← e2, hit] at hg; cases hg
set_option maxRecDepth 100000 in
set_option maxHeartbeats 4000000 in
theorem items_any (rb out : ByteArray) (rl ol : List UInt8) (w : World) (hr : Is rb rl) (ho : Is out ol) (hz : out.size ≤ 2000000) :
    Calls Tryz.prog 54 #[.string rb, .string out] w fun e w' => (∃ v, e = .returned v ∧ OwnG itemE 106 w.heap.size v (Cp.mkItems rl (UT.runes ol)) w') ∧ Below w.heap.size w w' := by
  obtain rfl := hr.ba
  have HO := Lib.hid ho
  have hol := ho.size
  obtain ⟨B, hB⟩ : ∃ B, w.heap.size = B := ⟨_, rfl⟩
  have HBB := Eqq.mk hB
  have HI0 := Lib.hid (show (w.iter out 0).heap[B]? = some (.stringIter out 0) by rw [← hB]; exact (MapKept.heap_alloc w _).1)
  have HB0 := Lib.hid (show Below B w (w.iter out 0) from (Below.refl B w).alloc (by omega) (.stringIter out 0))
  have HO0 := Lib.hid (OwnG.nil (E := itemE) 106 B (w.iter out 0))
  clear ho
  go_enter Tryz.func54, Tryz.ntmps54
  go_wp2_with fail
  try rw [hB]
  clear hB
  obtain ⟨W0, hW0⟩ : ∃ W0, w.iter out 0 = W0 := ⟨_, rfl⟩
  rw [hW0] at HI0 HB0 HO0 ⊢
  clear hW0
  go_loopw [0, 5] (fun rv lv wr => ∃ (xs : List Cp.Item) (rl' : UT.Bs) (pos : Nat), pos ≤ out.size ∧ rv = .string (ba rl') ∧ OwnG itemE 106 B lv xs wr ∧ xs.length ≤ pos ∧ Eqq (Cp.mkItems rl (UT.runes ol)) (xs ++ Cp.mkItems rl' (UT.runes (ol.drop pos))) ∧ wr.heap[B]? = some (.stringIter out pos) ∧ Below B w wr) (fun _ _ wr => out.size - wr.iterPos B)
  case atStart => exact ⟨[], rl, 0, Nat.zero_le _, rfl, HO0.out, Nat.le_refl _, ⟨rfl⟩, HI0.out, HB0.out⟩
  case round =>
    obtain ⟨xs, rl', pos, hp, rfl, ho, hxp, HEQ, hit, hb⟩ := hrel
    obtain ⟨av, cv, rfl⟩ := ho.frame
    by_cases hlt : pos < out.size
    · have hne : ol.drop pos ≠ [] := by intro e; have := congrArg List.length e; rw [List.length_drop] at this; simp at this; omega
      have hdec : Lib.decodeL (ol.drop pos) = Utf8.decode out pos := by rw [← HO.out.data]; exact Lib.decodeL_drop out pos
      have hch := UT.bk_decode_ch (ol.drop pos)
      have hle := Lib.decodeL_le (ol.drop pos) hne
      have hst := UT.runes_step hne
      rw [hdec] at hch hle hst
      obtain ⟨⟨c, q⟩, hcq⟩ : ∃ x, Utf8.decode out pos = x := ⟨_, rfl⟩
      rw [hcq] at hch hle hst
      dsimp only at hch hle hst
      rw [List.length_drop] at hle
      rw [List.drop_drop] at hst
      have hnx : ∀ ty, (Instr.next (.pointer (some ⟨B, 0, none⟩)) true ty).run Tryz.prog wr = _ := fun ty => Lib.run_next_any_at wr B out pos ty hit hlt
      rw [hcq] at hnx
      dsimp only at hnx
      have HEN := Eqq.mk (show Cp.mkItems rl (UT.runes ol) = (xs ++ [(rl', Lib.encodeRune (c : Int))]) ++ Cp.mkItems [] (UT.runes (ol.drop (pos + q))) by
        rw [HEQ.out, hst, mk_cons, List.append_assoc]; rfl)
      have hen := encode_ba hch
      obtain ⟨eb, heb⟩ : ∃ eb, ba (Lib.encodeRune (c : Int)) = eb := ⟨_, rfl⟩
      have HEB := Eqq.mk heb
      rw [heb] at hen
      have HOI := Lib.hid (ho.iterAt hit (pos + q))
      have HIi := Lib.hid (Lib.iterAt_heap wr B out pos (pos + q) hit)
      have HBi := Lib.hid (Lib.below_iterAt hb (Nat.le_refl B) out (pos + q))
      have HPOS := Lib.hid (iterPos8 hit)
      obtain ⟨w1, hw1⟩ : ∃ w1, wr.iterAt B out (pos + q) = w1 := ⟨_, rfl⟩
      rw [hw1] at hnx HOI HIi HBi
      have h1q := Lib.decodeL_width (ol.drop pos)
      rw [hdec, hcq] at h1q
      dsimp only at h1q
      have hpq : pos + q ≤ out.size := by omega
      have HN1 := Lib.hid (HOI.out.not_iter HIi.out)
      obtain ⟨rb, hrb⟩ : ∃ rb, ba rl' = rb := ⟨_, rfl⟩
      have HRB := Eqq.mk hrb
      rw [hrb]
      have HXP := Lib.hid hxp
      clear hne hdec hch hst hcq hit hb hw1 heb ho hrb hle
      have HZZ := Lib.hid hz
      have HPQ := Lib.hid hpq
      have H1Q := Lib.hid h1q
      have hxl : xs.length ≤ 2000000 := by omega
      clear hol hxp hlt hp hz hpq h1q
      have HOW := Lib.hid (HOI.out.alloc (.cells #[.string rb, .string eb] 106))
      have hbs : B ≤ w1.heap.size := by have := HBi.out.size; have := HBB.out; omega
      go_wp2_with (at_builtin; refine wpList_append_g itemPApp _ rfl _ _ rfl B _ xs rfl HOW.out _ [(rl', Lib.encodeRune (c : Int))] rfl (SrcG.one (fun jj u hu => by
              have hu' : ([.string (ba rl'), .string (ba (Lib.encodeRune (c : Int)))] : List Value)[jj]? = some u := hu
              rw [HRB.out, HEB.out] at hu'
              exact new_cells w1 [.string rb, .string eb] _ jj u hu')) (by unfold maxLen; simp only [List.length_singleton]; omega) (by show (xs.length + 1) * 32 ≤ _; omega) (by simp; omega) ?_)
      intro v' w' ho' hg'
      have HO2 := Lib.hid ho'
      have HI2 := Lib.hid (iter_grown (show (w1.alloc (.cells #[.string rb, .string eb] 106)).heap[B]? = some (.stringIter out (pos + q)) by rw [Lib.alloc_old _ _ _ (heap_lt HIi.out)]; exact HIi.out) hg' HN1.out)
      have HB2 := Lib.hid ((HBi.out.alloc hbs (.cells #[.string rb, .string eb] 106)).grown hg' (by simp; omega) (fun k hk => (HOI.out.block_lt k hk).1))
      have HP2 := Lib.hid (iterPos8 HI2.out)
      clear ho' hg'
      go_wp2_with fail
      go_roundw
      case rel =>
        have := HPQ.out
        exact ⟨_, [], pos + q, this, rfl, HO2.out, by rw [List.length_append, List.length_singleton]; have := HXP.out; have := H1Q.out; omega, HEN, HI2.out, HB2.out⟩
      case measure =>
        rw [HP2.out, HPOS.out]
        have := HPQ.out
        have := H1Q.out
        omega
    · obtain rfl : pos = out.size := by omega
      have hnil : ol.drop out.size = [] := List.drop_eq_nil_of_le (by omega)
      have hnx : ∀ ty, (Instr.next (.pointer (some ⟨B, 0, none⟩)) true ty).run Tryz.prog wr = _ := fun ty => Lib.run_next_end_at wr B out out.size ty hit hlt
      have HEN := Eqq.mk (show Cp.mkItems rl (UT.runes ol) = xs by rw [HEQ.out, hnil, UT.runes_nil]; exact List.append_nil xs)
      have HOW := Lib.hid ho
      have HBW := Lib.hid hb
      clear hnil hit ho hb
      go_wp2_with fail
      go_ret
      exact ⟨⟨_, rfl, by rw [HEN.out, HBB.out]; exact HOW.out⟩, by rw [HBB.out]; exact HBW.out⟩
end Go.Proofs.YtgdcffahhpeibaaGreatDoor
namespace Go.Proofs.YtgdcffahhpeibaaGreatDoor
open Go.RowKit
theorem OwnG.new0 {α : Type} {E : Enc α} (T : TypeId) (w : World) (B : Nat) (hB : B ≤ w.heap.size) : OwnG E T B (.slice (some ⟨w.heap.size, 0, none⟩) 0 0) [] (w.alloc (.cells #[] T)) :=
  ⟨by simp [Enc.cells], .inr ⟨_, 0, #[], rfl, hB, (MapKept.heap_alloc w _).1, Nat.le_refl _, by unfold maxLen; omega, by simp, by simp [Enc.cells]⟩⟩
set_option maxRecDepth 100000 in
set_option maxHeartbeats 4000000 in
theorem clone8_any (v : Value) (xs : List Cp.Item) (w : World) (h : LieG itemE v xs w) (hn : xs.length ≤ 2000000) :
    Calls Tryz.prog 87 #[v] w fun e w' => (∃ v', e = .returned v' ∧ OwnG itemE 106 w.heap.size v' xs w') ∧ Below w.heap.size w w' := by
  have HB := Lib.hid (Below.refl w.heap.size w)
  have HS := Lib.hid h.src
  have HE := Lib.hid (OwnG.new0 (E := itemE) 106 w w.heap.size (Nat.le_refl _))
  have HBA := Lib.hid ((Below.refl w.heap.size w).alloc (Nat.le_refl _) (.cells #[] 106))
  have HSA := Lib.hid (h.src.below HBA.out (Nat.le_refl _))
  obtain ⟨ao, cap, rfl, hcap, hnone, hsome, hx⟩ := h
  obtain ⟨n, hn2⟩ : ∃ n, xs.length = n := ⟨_, rfl⟩
  have HN := Eqq.mk hn2
  rw [hn2] at hcap hn HS HSA ⊢
  clear hx hn2
  cases ao with
  | none =>
    have hc := hnone rfl
    subst hc
    obtain rfl : n = 0 := by omega
    have hnil : ∀ W, (binOp .eql 31 (.slice none 0 0) (.slice none 0 0)).run Tryz.prog W = .ok (.bool true) W := fun W => Lib.run_eql_slice_nil_nil W _ _ Tryz.underlying31
    have HNil := Lib.hid (OwnG.nil (E := itemE) 106 w.heap.size w)
    obtain rfl : xs = [] := List.eq_nil_of_length_eq_zero HN.out
    clear hnone hsome hcap hn
    go_enter Tryz.func87, Tryz.ntmps87
    go_wp2_with fail
    go_ret
    exact ⟨⟨_, rfl, HNil.out⟩, HB.out⟩
  | some ad =>
    obtain ⟨g, o, rfl⟩ := hsome ad rfl
    clear hnone hsome hcap
    have hnil : ∀ W, (binOp .eql 31 (.slice (some ⟨g, o, none⟩) n cap) (.slice none 0 0)).run Tryz.prog W = .ok (.bool false) W := fun W => Lib.run_eql_slice_some_nil W _ _ _ Tryz.underlying31
    go_enter Tryz.func87, Tryz.ntmps87
    go_wp2_with (at_builtin; refine wpList_append_g itemPApp _ rfl _ _ rfl w.heap.size _ [] rfl HE.out _ xs rfl HSA.out (by unfold maxLen; rw [HN.out]; simp; omega) (by rw [HN.out]; show (0 + n) * 32 ≤ _; omega) (by simp) ?_)
    intro v' w' ho hg
    have HO := Lib.hid ho
    have HB2 := Lib.hid (HBA.out.grown hg (by simp) (fun k hk => (HE.out.block_lt k hk).1))
    clear ho hg
    go_wp2_with fail
    go_ret
    exact ⟨⟨_, rfl, HO.out⟩, HB2.out⟩
set_option maxRecDepth 100000 in
set_option maxHeartbeats 4000000 in
theorem copy8_any (v : Value) (xs : List Cp.Item) (c : Int) (p : ByteArray) (w : World) (h : LieG itemE v xs w) (hn : xs.length ≤ 2000000) :
    Calls Tryz.prog 58 #[bufV v c p] w fun e w' => (∃ v', e = .returned (bufV v' c p) ∧ OwnG itemE 106 w.heap.size v' xs w') ∧ Below w.heap.size w w' := by
  obtain ⟨S, hS⟩ : ∃ S, w.heap.size = S := ⟨_, rfl⟩
  have HS := Eqq.mk hS
  obtain ⟨W0, hW0⟩ : ∃ W0, (w.alloc (.cells #[v, .int .i64 c, .string p] 33)).alloc (.cells #[.slice none 0 0, .int .i64 0, .string ⟨#[]⟩] 33) = W0 := ⟨_, rfl⟩
  have hb0 : Below S w W0 := by rw [← hW0]; exact ((Below.refl S w).alloc (by omega) _).alloc (by simp; omega) _
  have HB0 := Lib.hid hb0
  have h0 : W0.heap[S]? = some (.cells #[v, .int .i64 c, .string p] 33 (0, 0)) := by
    rw [← hW0, Lib.alloc_old _ _ _ (by rw [World.size_alloc]; omega), ← hS]; exact (MapKept.heap_alloc w _).1
  have h1 : W0.heap[S + 1]? = some (.cells #[.slice none 0 0, .int .i64 0, .string ⟨#[]⟩] 33 (0, 0)) := by
    have := (MapKept.heap_alloc (w.alloc (.cells #[v, .int .i64 c, .string p] 33)) (.cells #[.slice none 0 0, .int .i64 0, .string ⟨#[]⟩] 33)).1
    rw [World.size_alloc, hS, hW0] at this; exact this
  have hsz : W0.heap.size = S + 1 + 1 := by rw [← hW0, World.size_alloc, World.size_alloc, hS]
  have HSZ := Lib.hid hsz
  have H0 := Lib.hid h0
  have H1 := Lib.hid h1
  have c0 : W0.cell? ⟨S, 0, none⟩ = some v := by rw [Lib.cell_of_heap h0]; rfl
  have HL := Lib.hid (h.below hb0 (by omega))
  have HW := Eqq.mk hW0
  clear h h0 h1 hsz hb0 hW0
  go_enter Tryz.func58, Tryz.ntmps58
  go_wp2_with fail
  try rw [hS]
  rw [HW.out]
  with_reducible refine (clone8_any v xs W0 HL.out hn).mono ?_
  rintro e w2 ⟨⟨v', rfl, ho⟩, hb⟩
  obtain ⟨av, cv, rfl⟩ := ho.frame
  have h0 : w2.heap[S]? = some (.cells #[v, .int .i64 c, .string p] 33 (0, 0)) := by rw [hb.block S (by rw [HSZ.out]; omega)]; exact H0.out
  have h1 : w2.heap[S + 1]? = some (.cells #[.slice none 0 0, .int .i64 0, .string ⟨#[]⟩] 33 (0, 0)) := by rw [hb.block (S + 1) (by rw [HSZ.out]; omega)]; exact H1.out
  have k0 : w2.cell? ⟨S, 0, none⟩ = some v := by rw [Lib.cell_of_heap h0]; rfl
  have f0 : w2.frozen? ⟨S, 0, none⟩ = false := Lib.frozen_of_heap h0 0
  have h2 : (w2.setCell ⟨S, 0, none⟩ (.slice av xs.length cv)).heap[S]? = some (.cells #[(.slice av xs.length cv), .int .i64 c, .string p] 33 (0, 0)) := heap_setCell_same w2 S 0 _ _ (.slice av xs.length cv) h0
  have h3 : (w2.setCell ⟨S, 0, none⟩ (.slice av xs.length cv)).heap[S + 1]? = some (.cells #[.slice none 0 0, .int .i64 0, .string ⟨#[]⟩] 33 (0, 0)) := by rw [Below.heap_setCell _ _ _ _ (show S + 1 ≠ S by omega)]; exact h1
  obtain ⟨w3, hw3⟩ : ∃ w3, w2.setCell ⟨S, 0, none⟩ (.slice av xs.length cv) = w3 := ⟨_, rfl⟩
  rw [hw3] at h2 h3
  have q0 : w3.cell? ⟨S, 0, none⟩ = some (.slice av xs.length cv) := by rw [Lib.cell_of_heap h2]; rfl
  have q1 : w3.cell? ⟨S, 1, none⟩ = some (.int .i64 c) := by rw [Lib.cell_of_heap h2]; rfl
  have q2 : w3.cell? ⟨S, 2, none⟩ = some (.string p) := by rw [Lib.cell_of_heap h2]; rfl
  have m0 : w3.cell? ⟨S + 1, 0, none⟩ = some (.slice none 0 0) := by rw [Lib.cell_of_heap h3]; rfl
  have m1 : w3.cell? ⟨S + 1, 1, none⟩ = some (.int .i64 0) := by rw [Lib.cell_of_heap h3]; rfl
  have m2 : w3.cell? ⟨S + 1, 2, none⟩ = some (.string ⟨#[]⟩) := by rw [Lib.cell_of_heap h3]; rfl
  have g0 : w3.frozen? ⟨S + 1, 0, none⟩ = false := Lib.frozen_of_heap h3 0
  have g1 : w3.frozen? ⟨S + 1, 1, none⟩ = false := Lib.frozen_of_heap h3 1
  have g2 : w3.frozen? ⟨S + 1, 2, none⟩ = false := Lib.frozen_of_heap h3 2
  have HO3 := Lib.hid (show OwnG itemE 106 (S + 1 + 1) (.slice av xs.length cv) xs w3 by rw [← hw3]; rw [HSZ.out] at ho; exact own_set ho S (by omega) 0 (.slice av xs.length cv))
  have HB3 := Lib.hid (show Below S w w3 by rw [← hw3]; exact (HB0.out.trans (hb.mono (by rw [HSZ.out]; omega))).setCell (p := ⟨S, 0, none⟩) (Nat.le_refl _) (.slice av xs.length cv))
  have HR := Lib.hid (three_set h3 (.slice av xs.length cv) (.int .i64 c) (.string p))
  have HOE := Lib.hid (own_set (own_set (own_set HO3.out (S + 1) (by omega) 0 (.slice av xs.length cv)) (S + 1) (by omega) 1 (.int .i64 c)) (S + 1) (by omega) 2 (.string p))
  have HBE := Lib.hid (((HB3.out.setCell (p := ⟨S + 1, 0, none⟩) (by show S ≤ S + 1; omega) (.slice av xs.length cv)).setCell (p := ⟨S + 1, 1, none⟩) (by show S ≤ S + 1; omega) (.int .i64 c)).setCell (p := ⟨S + 1, 2, none⟩) (by show S ≤ S + 1; omega) (.string p))
  clear ho hb h0 h1 h2 h3 c0
  go_wp2_with fail
  (try simp only [Exit.inBlock, Exit.then])
  refine bodyPost_ret (results_cell_row rfl _ _ (S + 1) 33 #[(.slice av xs.length cv), .int .i64 c, .string p] (0, 0) _ (by rfl) HR.out Tryz.underlying33 (by rfl) (by kernel_rfl)) rfl ?_
  rw [HS.out]
  exact ⟨⟨_, rfl, HOE.out.lower (by omega)⟩, HBE.out⟩
end Go.Proofs.YtgdcffahhpeibaaGreatDoor
namespace Go.Proofs.YtgdcffahhpeibaaGreatDoor
open Go.RowKit
set_option maxRecDepth 100000 in
set_option maxHeartbeats 4000000 in
theorem grow8_any (n : Nat) (w : World) (hn : n ≤ 2000000) :
    Calls Tryz.prog 114 #[.slice none 0 0, .int .i64 n] w fun e w' => (∃ v', e = .returned v' ∧ OwnG itemE 106 w.heap.size v' [] w') ∧ Below w.heap.size w w' := by
  have HB := Lib.hid (Below.refl w.heap.size w)
  have HN := Lib.hid (OwnG.nil (E := itemE) 106 w.heap.size w)
  have g0 : ¬ (n : Int) < 0 := by omega
  by_cases h0 : n = 0
  · subst h0
    clear hn g0
    go_enter Tryz.func114, Tryz.ntmps114
    go_wp2_with fail
    go_ret
    exact ⟨⟨_, rfl, HN.out⟩, HB.out⟩
  · obtain ⟨i0, hi, hz0, hz1, hz2⟩ := info_parts infoItemP
    have happ := Lib.run_append_nil_zeros (P := Tryz.prog) w 31 3 31 106 i0 _ .i64 .i64 Tryz.underlying31 Tryz.underlying3 hi hz0 n (by omega) (by rw [hz1]; decide) (by omega) (by rw [hz2]; omega)
    obtain ⟨cap, hcap⟩ : ∃ cap, grownCap w n 0 106 = cap := ⟨_, rfl⟩
    have hcapge : n ≤ cap := by rw [← hcap]; exact grownCap_ge w _ 0 106
    have hcaple : cap ≤ maxLen := by rw [← hcap]; exact grownCap_le_maxLen w _ 0 106 (by unfold maxLen; omega)
    rw [hcap] at happ
    obtain ⟨Z, hZ⟩ : ∃ Z, (Builtin.zeroCells (Value.agg #[.string ⟨#[]⟩, .string ⟨#[]⟩]).cells n ++ Builtin.zeroCells (Value.agg #[.string ⟨#[]⟩, .string ⟨#[]⟩]).cells (cap - n)) = Z := ⟨_, rfl⟩
    have hZs : Z.size = cap * 2 := by rw [← hZ]; simp [size_zeroCells, Value.cells]; omega
    rw [hZ] at happ
    have HO := Lib.hid (show OwnG itemE 106 w.heap.size (.slice (some ⟨w.heap.size, 0, none⟩) 0 cap) [] (w.alloc (.cells Z 106)) from
      ⟨by simp [Enc.cells], .inr ⟨_, cap, Z, rfl, Nat.le_refl _, (MapKept.heap_alloc w _).1, Nat.zero_le _, hcaple, hZs, by simp [Enc.cells]⟩⟩)
    have HBA := Lib.hid ((Below.refl w.heap.size w).alloc (Nat.le_refl _) (.cells Z 106)).drew
    have g1 : (0 : Int) < (n : Int) := by omega
    have g2 : (0 : Nat) ≤ n := by omega
    clear hcap hZ hZs hcaple h0 hi hz0 hz1 hz2
    go_enter Tryz.func114, Tryz.ntmps114
    go_wp2_with (at_builtin; refine Lib.wpList_append_run _ rfl _ _ _ _ rfl _ _ rfl rfl _ _ happ ?_)
    go_wp2_with fail
    go_ret
    exact ⟨⟨_, rfl, HO.out⟩, HBA.out⟩
theorem flat_snoc8 {α : Type} (xss : List (List α)) (k : Nat) (ys : List α) (h : xss[k]? = some ys) : (xss.take (k + 1)).flatten = (xss.take k).flatten ++ ys := by
  rw [take_snoc9 xss k ys h, List.flatten_append]
  simp
theorem flat_le8 {α : Type} (xss : List (List α)) (k : Nat) : (xss.take k).flatten.length ≤ xss.flatten.length := by
  conv => rhs; rw [← List.take_append_drop k xss]
  rw [List.flatten_append, List.length_append]
  omega
set_option maxRecDepth 100000 in
set_option maxHeartbeats 4000000 in
theorem concat8_any (b m : Nat) (xss : List (List Cp.Item)) (w : World) (hm : xss.length = m) (hn : xss.flatten.length ≤ 1000000) (hml : m ≤ 10)
    (h : ∀ (k : Nat) ys, xss[k]? = some ys → ∃ v ao cap, v = .slice ao ys.length cap ∧ w.cell? ⟨b, k, none⟩ = some v ∧ SrcG itemE v ys w) :
    Calls Tryz.prog 84 #[.slice (some ⟨b, 0, none⟩) m m] w fun e w' => (∃ v', e = .returned v' ∧ OwnG itemE 106 w.heap.size v' xss.flatten w') ∧ Below w.heap.size w w' := by
  have HH := Lib.hid h
  have HM := Eqq.mk hm
  have HTK := Eqq.mk (show xss.take m = xss by rw [← hm, List.take_length])
  have HFL := Lib.hid (flat_le8 xss)
  have HN := Lib.hid hn
  clear h hm hn
  go_enter Tryz.func84, Tryz.ntmps84
  go_wp2_with fail
  go_loopw [3, 11] (fun sv iv wr => ∃ k : Nat, k ≤ m ∧ iv = .int .i64 k ∧ sv = .int .i64 ((xss.take k).flatten.length : Nat) ∧ wr = w) (fun _ iv _ => m - (intOf iv).toNat)
  case atStart => exact ⟨0, Nat.zero_le _, rfl, rfl, rfl⟩
  case round =>
    obtain ⟨k, hk, rfl, rfl, rfl⟩ := hrel
    by_cases hlt : k < m
    · obtain ⟨ys, hy⟩ : ∃ ys, xss[k]? = some ys := ⟨_, List.getElem?_eq_getElem (by rw [HM.out]; exact hlt)⟩
      obtain ⟨v, ao, cap, rfl, hc, _⟩ := HH.out k ys hy
      have HF := Eqq.mk (show (xss.take (k + 1)).flatten.length = (xss.take k).flatten.length + ys.length by rw [flat_snoc8 xss k ys hy, List.length_append])
      have h1 := HFL.out (k + 1)
      rw [HF.out] at h1
      have h2 := HN.out
      obtain ⟨A, hA⟩ : ∃ A, (xss.take k).flatten.length = A := ⟨_, rfl⟩
      obtain ⟨Y, hY⟩ : ∃ Y, ys.length = Y := ⟨_, rfl⟩
      rw [hA, hY] at h1
      have HF2 := Eqq.mk (show (xss.take (k + 1)).flatten.length = A + Y by rw [HF.out, hA, hY])
      rw [hY] at hc
      have hAY : A + Y ≤ 1000000 := by omega
      have g1 : (k : Int) < (m : Int) := by omega
      have g2 : (0 : Int) ≤ (k : Int) := by omega
      have g3 : ¬ (A : Int) + (Y : Int) < 0 := by omega
      rw [hA]
      clear hy h1 h2 hA hY
      go_wp2_with fail
      go_roundw
      case rel => exact ⟨k + 1, by omega, by go_num, by rw [HF2.out]; go_num, True.intro⟩
      case measure => simp [intOf]; omega
    · obtain rfl : k = m := by omega
      have h1 := HFL.out k
      have h2 := HN.out
      rw [HTK.out]
      have HNN := Lib.hid (show xss.flatten.length ≤ 2000000 by omega)
      obtain ⟨A, hA⟩ : ∃ A, xss.flatten.length = A := ⟨_, rfl⟩
      rw [hA] at HNN ⊢
      have HA := Eqq.mk hA
      clear h1 h2 hA
      go_wp2_with fail
      with_reducible refine (grow8_any A wr HNN.out).mono ?_
      rintro e w2 ⟨⟨v0, rfl, ho⟩, hb⟩
      have HO0 := Lib.hid ho
      have HB0 := Lib.hid hb
      clear ho hb
      go_wp2_with fail
      obtain ⟨w1, rfl⟩ : ∃ w1, w1 = wr := ⟨_, rfl⟩
      go_loopw [6, 27] (fun lv iv W => ∃ j : Nat, j ≤ k ∧ iv = .int .i64 j ∧ OwnG itemE 106 w1.heap.size lv (xss.take j).flatten W ∧ Below w1.heap.size w1 W) (fun _ iv _ => k - (intOf iv).toNat)
      case atStart => exact ⟨0, Nat.zero_le _, rfl, HO0.out, HB0.out⟩
      case round =>
        obtain ⟨j, hj, rfl, ho, hb⟩ := hrel
        by_cases hlt2 : j < k
        · obtain ⟨ys, hy⟩ : ∃ ys, xss[j]? = some ys := ⟨_, List.getElem?_eq_getElem (by rw [HM.out]; exact hlt2)⟩
          obtain ⟨v, ao, cap, rfl, hc, hs⟩ := HH.out j ys hy
          have HF := Eqq.mk (flat_snoc8 xss j ys hy)
          have h1 := HFL.out (j + 1)
          rw [HF.out, List.length_append] at h1
          have h2 := HN.out
          have hc1 : wr.cell? ⟨b, j, none⟩ = some (.slice ao ys.length cap) := below_cellU hc hb (Nat.le_refl _)
          have HSR := Lib.hid (hs.below hb (Nat.le_refl _))
          have HO := Lib.hid ho
          have HB := Lib.hid hb
          have hle : (xss.take j).flatten.length + ys.length ≤ 1000000 := by omega
          have hbs : w1.heap.size ≤ wr.heap.size := hb.size
          have g1 : (j : Int) < (k : Int) := by omega
          have g2 : (0 : Int) ≤ (j : Int) := by omega
          clear hy hc hs h1 h2 ho hb
          go_wp2_with (at_builtin; refine wpList_append_g itemPApp _ rfl _ _ rfl w1.heap.size _ _ rfl HO.out _ ys rfl HSR.out (by unfold maxLen; omega) (by show (_ + _) * 32 ≤ _; omega) hbs ?_)
          intro v' w3 ho' hg'
          have HO3 := Lib.hid ho'
          have HB3 := Lib.hid (HB.out.grown hg' hbs (fun q hq => (HO.out.block_lt q hq).1))
          clear ho' hg'
          go_wp2_with fail
          go_roundw
          case rel => exact ⟨j + 1, by omega, by go_num, by rw [HF.out]; exact HO3.out, HB3.out⟩
          case measure => simp [intOf]; omega
        · obtain rfl : j = k := by omega
          have HO := Lib.hid ho
          rw [HTK.out] at HO
          have HB := Lib.hid hb
          clear ho hb
          go_wp2_with fail
          go_ret
          exact ⟨⟨_, rfl, HO.out⟩, HB.out⟩
end Go.Proofs.YtgdcffahhpeibaaGreatDoor
namespace Go.Proofs.YtgdcffahhpeibaaGreatDoor
open Go.RowKit
theorem results_row_tmp {P : Program} {fn : Func} {p u : Tmp} {ty : TypeId} (h : fn.results = #[.cell p ty, .tmp u]) (tmps : Array Value) (w : World) (g : Nat) (t : TypeId) (cs : Array Value) (fr : Nat × Nat) (d : TypeDesc) (uv : Value)
    (hp : tmps.getD p undef = .pointer (some ⟨g, 0, none⟩)) (hv : tmps.getD u undef = uv) (hg : w.heap[g]? = some (.cells cs t fr))
    (hu : P.underlying ty = some d) (hd : (match d with | .struct _ | .array _ _ => true | _ => false) = true) (hi : (P.info? ty).map (·.size) = some cs.size) :
    (results fn tmps).run P w = .ok (.tuple #[.agg cs, uv]) w := by
  rw [results_cell_tmp h, hp, hv]
  simp [asAddr, Result.andThen, run_loadVar_row w g t ty cs fr d hg hu hd hi]
theorem three_src {W : World} {b : Nat} {T : TypeId} {v1 v2 v3 : Value} {x1 x2 x3 : List Cp.Item} (hW : W.heap[b]? = some (.cells #[v1, v2, v3] T (0, 0)))
    (f1 : ∃ ao cap, v1 = .slice ao x1.length cap) (f2 : ∃ ao cap, v2 = .slice ao x2.length cap) (f3 : ∃ ao cap, v3 = .slice ao x3.length cap)
    (s1 : SrcG itemE v1 x1 W) (s2 : SrcG itemE v2 x2 W) (s3 : SrcG itemE v3 x3 W) :
    ∀ (k : Nat) ys, [x1, x2, x3][k]? = some ys → ∃ v ao cap, v = .slice ao ys.length cap ∧ W.cell? ⟨b, k, none⟩ = some v ∧ SrcG itemE v ys W := by
  intro k ys h
  obtain ⟨a1, q1, f1⟩ := f1
  obtain ⟨a2, q2, f2⟩ := f2
  obtain ⟨a3, q3, f3⟩ := f3
  rcases k with _ | _ | _ | k
  · injection h with h; subst h
    exact ⟨v1, a1, q1, f1, by rw [Lib.cell_of_heap hW]; rfl, s1⟩
  · injection h with h; subst h
    exact ⟨v2, a2, q2, f2, by rw [Lib.cell_of_heap hW]; rfl, s2⟩
  · injection h with h; subst h
    exact ⟨v3, a3, q3, f3, by rw [Lib.cell_of_heap hW]; rfl, s3⟩
  · simp at h
theorem new_drew (w : World) (o : Obj) : (w.alloc o).drew.heap[w.heap.size]? = some o := (MapKept.heap_alloc w o).1
set_option maxRecDepth 100000 in
set_option maxHeartbeats 16000000 in
theorem insert8_any (v v2 : Value) (xs ys : List Cp.Item) (k : Nat) (p : ByteArray) (w : World) (h : LieG itemE v xs w) (h2 : LieG itemE v2 ys w) (hk : k ≤ xs.length) (hn : xs.length ≤ 64) (hm : ys.length ≤ 2000000) :
    Calls Tryz.prog 53 #[bufV v k p, v2] w fun e w' => ((64 < xs.length + ys.length ∧ e = .returned (.tuple #[bufV (.slice none 0 0) 0 ⟨#[]⟩, .bool false])) ∨ (xs.length + ys.length ≤ 64 ∧ ∃ v', e = .returned (.tuple #[bufV v' ((k + ys.length : Nat) : Int) p, .bool true]) ∧ OwnG itemE 106 w.heap.size v' (xs.take k ++ (ys ++ xs.drop k)) w')) ∧ Below w.heap.size w w' := by
  obtain ⟨S, hS⟩ : ∃ S, w.heap.size = S := ⟨_, rfl⟩
  have HS := Eqq.mk hS
  obtain ⟨W0, hW0⟩ : ∃ W0, (w.alloc (.cells #[v, .int .i64 k, .string p] 33)).alloc (.cells #[.slice none 0 0, .int .i64 0, .string ⟨#[]⟩] 33) = W0 := ⟨_, rfl⟩
  have hb0 : Below S w W0 := by rw [← hW0]; exact ((Below.refl S w).alloc (by omega) _).alloc (by simp; omega) _
  have HB0 := Lib.hid hb0
  have h0 : W0.heap[S]? = some (.cells #[v, .int .i64 k, .string p] 33 (0, 0)) := by
    rw [← hW0, Lib.alloc_old _ _ _ (by rw [World.size_alloc]; omega), ← hS]; exact (MapKept.heap_alloc w _).1
  have h1 : W0.heap[S + 1]? = some (.cells #[.slice none 0 0, .int .i64 0, .string ⟨#[]⟩] 33 (0, 0)) := by
    have := (MapKept.heap_alloc (w.alloc (.cells #[v, .int .i64 k, .string p] 33)) (.cells #[.slice none 0 0, .int .i64 0, .string ⟨#[]⟩] 33)).1
    rw [World.size_alloc, hS, hW0] at this; exact this
  have hsz : W0.heap.size = S + 1 + 1 := by rw [← hW0, World.size_alloc, World.size_alloc, hS]
  have HSZ := Lib.hid hsz
  have H0 := Lib.hid h0
  have H1 := Lib.hid h1
  have HL := Lib.hid (h.below hb0 (by omega))
  have HL2 := Lib.hid (h2.below hb0 (by omega))
  have HW := Eqq.mk hW0
  obtain ⟨ao, cap, rfl, hcap, hno, hsp, _⟩ := h
  obtain ⟨ao2, cap2, rfl, hcap2, hno2, hsp2, _⟩ := h2
  obtain ⟨n, hnn⟩ : ∃ n, xs.length = n := ⟨_, rfl⟩
  obtain ⟨m, hmm⟩ : ∃ m, ys.length = m := ⟨_, rfl⟩
  have HN := Eqq.mk hnn
  have HM := Eqq.mk hmm
  rw [hnn] at hcap hk hn HL H0 HW ⊢
  rw [hmm] at hcap2 hm HL2 ⊢
  rw [hnn] at h0
  have c0 : W0.cell? ⟨S, 0, none⟩ = some (.slice ao n cap) := by rw [Lib.cell_of_heap h0]; rfl
  have c1 : W0.cell? ⟨S, 1, none⟩ = some (.int .i64 k) := by rw [Lib.cell_of_heap h0]; rfl
  have c2 : W0.cell? ⟨S, 2, none⟩ = some (.string p) := by rw [Lib.cell_of_heap h0]; rfl
  clear h0 h1 hsz hb0 hW0 hnn hmm
  by_cases hfull : 64 < n + m
  · have HFU := Lib.hid hfull
    have d1 : (64 : Int) < (n : Int) + (m : Int) := by omega
    have d0 : (n : Int) + (m : Int) ≤ 3000000 := by omega
    clear hfull hcap hk hn hcap2
    go_enter Tryz.func53, Tryz.ntmps53
    go_wp2_with fail
    (try simp only [Exit.inBlock, Exit.then])
    rw [HW.out]
    refine bodyPost_ret (results_row_tmp rfl _ _ (S + 1) 33 #[.slice none 0 0, .int .i64 0, .string ⟨#[]⟩] (0, 0) _ (.bool false) (by rfl) (by rfl) H1.out Tryz.underlying33 (by rfl) (by kernel_rfl)) rfl ?_
    rw [HS.out]
    exact ⟨.inl ⟨HFU.out, rfl⟩, HB0.out⟩
  · have HFU := Lib.hid (show n + m ≤ 64 by omega)
    have d1 : ¬ (64 : Int) < (n : Int) + (m : Int) := by omega
    have d2 : (n : Int) + (m : Int) ≤ 64 := by omega
    have i1 : (k : Int) ≤ (n : Int) := by omega
    have i2 : (0 : Int) ≤ (k : Int) := by omega
    have i3 : (k : Int) ≤ (cap : Int) := by omega
    have i4 : (0 : Int) ≤ (m : Int) := by omega
    have i5 : (k : Int) + (m : Int) ≤ 64 := by omega
    have HF2 := Lib.hid (show ∃ a q, (Value.slice ao2 m cap2) = .slice a ys.length q from ⟨ao2, cap2, by rw [HM.out]⟩)
    clear hfull
    cases ao with
    | none =>
      obtain hc0 : cap = 0 := hno rfl
      have hn0 : n = 0 := by omega
      have hk0 : k = 0 := by omega
      subst hc0
      subst hk0
      subst hn0
      have z9 : ((0 : Nat) : Int) = 0 := rfl
      rw [z9] at HW H0 c1 ⊢
      have j1 : ¬ (64 : Int) < (m : Int) := by omega
      have j2 : (m : Int) ≤ 64 := by omega
      clear d1 d2 i1 i2 i3 i5 z9
      have HX0 := Eqq.mk (show xs = [] from List.eq_nil_of_length_eq_zero HN.out)
      have HTA := Lib.hid (show LieG itemE (.slice none 0 0) (xs.take 0) W0 from by rw [List.take_zero]; exact LieG.nil _)
      have HDA := Lib.hid (show LieG itemE (.slice none 0 0) (xs.drop 0) W0 from by rw [HX0.out]; exact LieG.nil _)
      have HFT := Lib.hid (show ∃ a q, (Value.slice none 0 0) = .slice a (xs.take 0).length q from ⟨none, 0, by rw [List.take_zero]; rfl⟩)
      have HFD := Lib.hid (show ∃ a q, (Value.slice none 0 0) = .slice a (xs.drop 0).length q from ⟨none, 0, by rw [HX0.out]; rfl⟩)
      clear hno hsp hno2 hsp2 hcap2 hcap hk hn
      go_enter Tryz.func53, Tryz.ntmps53
      go_wp2_with fail
      try rw [hS]
      rw [HW.out]
      go_still_tail 11, (by kernel_rfl)
      change wpList _ _ _ _ _ W0.drew
      have hsz := HSZ.out
      obtain ⟨W1, hW1⟩ : ∃ W1, (W0.alloc (.cells #[(.slice none 0 0), .slice ao2 m cap2, (.slice none 0 0)] 31)).drew = W1 := ⟨_, rfl⟩
      have hb1 : Below (S + 1 + 1) W0 W1 := by rw [← hW1, ← hsz]; exact ((Below.refl _ W0).alloc (Nat.le_refl _) _).drew
      have hh1 : W1.heap[S + 1 + 1]? = some (.cells #[(.slice none 0 0), .slice ao2 m cap2, (.slice none 0 0)] 31 (0, 0)) := by rw [← hW1, ← hsz]; exact new_drew W0 _
      have hz1 : W1.heap.size = S + 1 + 1 + 1 := by rw [← hW1, ← hsz]; exact World.size_alloc W0 _
      have HB1 := Lib.hid hb1
      have HZ1 := Eqq.mk hz1
      have HC := Lib.hid (three_src hh1 HFT.out HF2.out HFD.out (HTA.out.src.below hb1 (by omega)) (HL2.out.src.below hb1 (by omega)) (HDA.out.src.below hb1 (by omega)))
      have HFL := Eqq.mk (show [xs.take 0, ys, xs.drop 0].flatten = xs.take 0 ++ (ys ++ xs.drop 0) by simp)
      have HLEN := Eqq.mk (show [xs.take 0, ys, xs.drop 0].flatten.length = m by rw [HFL.out, List.length_append, List.length_append, List.length_take, List.length_drop, HN.out, HM.out]; omega)
      have HW1 := Eqq.mk hW1
      clear hb1 hh1 hz1 hW1 hsz
      go_wp2_with fail
      try rw [HSZ.out]
      try rw [HW1.out]
      with_reducible refine (concat8_any (S + 1 + 1) 3 [xs.take 0, ys, xs.drop 0] W1 rfl (by rw [HLEN.out]; have := HFU.out; omega) (by decide) HC.out).mono ?_
      rw [HFL.out, HZ1.out]
      rintro e w2 ⟨⟨v', rfl, ho⟩, hb⟩
      obtain ⟨av, cv, hvf⟩ := ho.frame
      rw [← HFL.out, HLEN.out] at hvf
      subst hvf
      have hb2 : Below (S + 1 + 1) W0 w2 := HB1.out.trans (hb.mono (by omega))
      have h0 : w2.heap[S]? = some (.cells #[(.slice none 0 0), .int .i64 0, .string p] 33 (0, 0)) := by rw [hb2.block S (by omega)]; exact H0.out
      have h1 : w2.heap[S + 1]? = some (.cells #[.slice none 0 0, .int .i64 0, .string ⟨#[]⟩] 33 (0, 0)) := by rw [hb2.block (S + 1) (by omega)]; exact H1.out
      have f0 : w2.frozen? ⟨S, 0, none⟩ = false := Lib.frozen_of_heap h0 0
      have k0 : w2.cell? ⟨S, 0, none⟩ = some (.slice none 0 0) := by rw [Lib.cell_of_heap h0]; rfl
      have h2 : (w2.setCell ⟨S, 0, none⟩ (.slice av m cv)).heap[S]? = some (.cells #[.slice av m cv, .int .i64 0, .string p] 33 (0, 0)) := heap_setCell_same w2 S 0 _ _ _ h0
      have h3 : (w2.setCell ⟨S, 0, none⟩ (.slice av m cv)).heap[S + 1]? = some (.cells #[.slice none 0 0, .int .i64 0, .string ⟨#[]⟩] 33 (0, 0)) := by rw [Below.heap_setCell _ _ _ _ (show S + 1 ≠ S by omega)]; exact h1
      obtain ⟨w3, hw3⟩ : ∃ w3, w2.setCell ⟨S, 0, none⟩ (.slice av m cv) = w3 := ⟨_, rfl⟩
      rw [hw3] at h2 h3
      have q1 : w3.cell? ⟨S, 1, none⟩ = some (.int .i64 0) := by rw [Lib.cell_of_heap h2]; rfl
      have f1 : w3.frozen? ⟨S, 1, none⟩ = false := Lib.frozen_of_heap h2 1
      have h4 : (w3.setCell ⟨S, 1, none⟩ (.int .i64 ((m : Int)))).heap[S]? = some (.cells #[.slice av m cv, .int .i64 ((m : Int)), .string p] 33 (0, 0)) := heap_setCell_same w3 S 1 _ _ _ h2
      have h5 : (w3.setCell ⟨S, 1, none⟩ (.int .i64 ((m : Int)))).heap[S + 1]? = some (.cells #[.slice none 0 0, .int .i64 0, .string ⟨#[]⟩] 33 (0, 0)) := by rw [Below.heap_setCell _ _ _ _ (show S + 1 ≠ S by omega)]; exact h3
      obtain ⟨w4, hw4⟩ : ∃ w4, w3.setCell ⟨S, 1, none⟩ (.int .i64 ((m : Int))) = w4 := ⟨_, rfl⟩
      rw [hw4] at h4 h5
      have r0 : w4.cell? ⟨S, 0, none⟩ = some (.slice av m cv) := by rw [Lib.cell_of_heap h4]; rfl
      have r1 : w4.cell? ⟨S, 1, none⟩ = some (.int .i64 ((m : Int))) := by rw [Lib.cell_of_heap h4]; rfl
      have r2 : w4.cell? ⟨S, 2, none⟩ = some (.string p) := by rw [Lib.cell_of_heap h4]; rfl
      have m0 : w4.cell? ⟨S + 1, 0, none⟩ = some (.slice none 0 0) := by rw [Lib.cell_of_heap h5]; rfl
      have m1 : w4.cell? ⟨S + 1, 1, none⟩ = some (.int .i64 0) := by rw [Lib.cell_of_heap h5]; rfl
      have m2 : w4.cell? ⟨S + 1, 2, none⟩ = some (.string ⟨#[]⟩) := by rw [Lib.cell_of_heap h5]; rfl
      have g0 : w4.frozen? ⟨S + 1, 0, none⟩ = false := Lib.frozen_of_heap h5 0
      have g1 : w4.frozen? ⟨S + 1, 1, none⟩ = false := Lib.frozen_of_heap h5 1
      have g2 : w4.frozen? ⟨S + 1, 2, none⟩ = false := Lib.frozen_of_heap h5 2
      have HO4 := Lib.hid (show OwnG itemE 106 (S + 1 + 1 + 1) (.slice av m cv) (xs.take 0 ++ (ys ++ xs.drop 0)) w4 by rw [← hw4, ← hw3]; exact own_set (own_set ho S (by omega) 0 _) S (by omega) 1 _)
      have HB4 := Lib.hid (show Below S w w4 by rw [← hw4, ← hw3]; exact ((HB0.out.trans (hb2.mono (by omega))).setCell (p := ⟨S, 0, none⟩) (Nat.le_refl _) _).setCell (p := ⟨S, 1, none⟩) (Nat.le_refl _) _)
      have HR := Lib.hid (three_set h5 (.slice av m cv) (.int .i64 ((m : Int))) (.string p))
      have HOE := Lib.hid (own_set (own_set (own_set HO4.out (S + 1) (by omega) 0 (.slice av m cv)) (S + 1) (by omega) 1 (.int .i64 ((m : Int)))) (S + 1) (by omega) 2 (.string p))
      have HBE := Lib.hid (((HB4.out.setCell (p := ⟨S + 1, 0, none⟩) (by show S ≤ S + 1; omega) (.slice av m cv)).setCell (p := ⟨S + 1, 1, none⟩) (by show S ≤ S + 1; omega) (.int .i64 ((m : Int)))).setCell (p := ⟨S + 1, 2, none⟩) (by show S ≤ S + 1; omega) (.string p))
      clear ho hb hb2 h0 h1 h2 h3 h4 h5 c0 c1 c2
      go_wp2_with fail
      (try simp only [Exit.inBlock, Exit.then])
      refine bodyPost_ret (results_row_tmp rfl _ _ (S + 1) 33 #[.slice av m cv, .int .i64 ((m : Int)), .string p] (0, 0) _ (.bool true) (by rfl) (by rfl) HR.out Tryz.underlying33 (by rfl) (by kernel_rfl)) rfl ?_
      rw [HS.out]
      exact ⟨.inr ⟨HFU.out, _, by rw [Nat.zero_add], HOE.out.lower (by omega)⟩, HBE.out⟩
    | some ad =>
      obtain ⟨g, o, rfl⟩ := hsp ad rfl
      by_cases hkc : cap = k
      · have hnk : n ≤ k := by omega
        have hck2 : k = cap := hkc.symm
        have HLD9 := Lib.hid (lie_full HL.out hk hkc)
        clear hkc
        subst hck2
        have HTA := Lib.hid (show LieG itemE (.slice (some ⟨g, o, none⟩) k k) (xs.take k) W0 from HL.out.take hk)
        have HDA := Lib.hid (show LieG itemE (.slice (some ⟨g, o, none⟩) 0 0) (xs.drop k) W0 from HLD9.out)
        have HFT := Lib.hid (show ∃ a q, (Value.slice (some ⟨g, o, none⟩) k k) = .slice a (xs.take k).length q from ⟨_, k, by rw [List.length_take, HN.out, Nat.min_eq_left hk]⟩)
        have HFD := Lib.hid (show ∃ a q, (Value.slice (some ⟨g, o, none⟩) 0 0) = .slice a (xs.drop k).length q from ⟨_, 0, by rw [List.length_drop, HN.out, Nat.sub_eq_zero_of_le hnk]⟩)
        clear hno hsp hno2 hsp2 hcap2 hcap hk hn
        go_enter Tryz.func53, Tryz.ntmps53
        go_wp2_with fail
        try rw [hS]
        rw [HW.out]
        go_still_tail 11, (by kernel_rfl)
        change wpList _ _ _ _ _ W0.drew
        have hsz := HSZ.out
        obtain ⟨W1, hW1⟩ : ∃ W1, (W0.alloc (.cells #[(.slice (some ⟨g, o, none⟩) k k), .slice ao2 m cap2, (.slice (some ⟨g, o, none⟩) 0 0)] 31)).drew = W1 := ⟨_, rfl⟩
        have hb1 : Below (S + 1 + 1) W0 W1 := by rw [← hW1, ← hsz]; exact ((Below.refl _ W0).alloc (Nat.le_refl _) _).drew
        have hh1 : W1.heap[S + 1 + 1]? = some (.cells #[(.slice (some ⟨g, o, none⟩) k k), .slice ao2 m cap2, (.slice (some ⟨g, o, none⟩) 0 0)] 31 (0, 0)) := by rw [← hW1, ← hsz]; exact new_drew W0 _
        have hz1 : W1.heap.size = S + 1 + 1 + 1 := by rw [← hW1, ← hsz]; exact World.size_alloc W0 _
        have HB1 := Lib.hid hb1
        have HZ1 := Eqq.mk hz1
        have HC := Lib.hid (three_src hh1 HFT.out HF2.out HFD.out (HTA.out.src.below hb1 (by omega)) (HL2.out.src.below hb1 (by omega)) (HDA.out.src.below hb1 (by omega)))
        have HFL := Eqq.mk (show [xs.take k, ys, xs.drop k].flatten = xs.take k ++ (ys ++ xs.drop k) by simp)
        have HLEN := Eqq.mk (show [xs.take k, ys, xs.drop k].flatten.length = n + m by rw [HFL.out, List.length_append, List.length_append, List.length_take, List.length_drop, HN.out, HM.out]; omega)
        have HW1 := Eqq.mk hW1
        clear hb1 hh1 hz1 hW1 hsz
        go_wp2_with fail
        try rw [HSZ.out]
        try rw [HW1.out]
        with_reducible refine (concat8_any (S + 1 + 1) 3 [xs.take k, ys, xs.drop k] W1 rfl (by rw [HLEN.out]; have := HFU.out; omega) (by decide) HC.out).mono ?_
        rw [HFL.out, HZ1.out]
        rintro e w2 ⟨⟨v', rfl, ho⟩, hb⟩
        obtain ⟨av, cv, hvf⟩ := ho.frame
        rw [← HFL.out, HLEN.out] at hvf
        subst hvf
        have hb2 : Below (S + 1 + 1) W0 w2 := HB1.out.trans (hb.mono (by omega))
        have h0 : w2.heap[S]? = some (.cells #[(.slice (some ⟨g, o, none⟩) n k), .int .i64 k, .string p] 33 (0, 0)) := by rw [hb2.block S (by omega)]; exact H0.out
        have h1 : w2.heap[S + 1]? = some (.cells #[.slice none 0 0, .int .i64 0, .string ⟨#[]⟩] 33 (0, 0)) := by rw [hb2.block (S + 1) (by omega)]; exact H1.out
        have f0 : w2.frozen? ⟨S, 0, none⟩ = false := Lib.frozen_of_heap h0 0
        have k0 : w2.cell? ⟨S, 0, none⟩ = some (.slice (some ⟨g, o, none⟩) n k) := by rw [Lib.cell_of_heap h0]; rfl
        have h2 : (w2.setCell ⟨S, 0, none⟩ (.slice av (n + m) cv)).heap[S]? = some (.cells #[.slice av (n + m) cv, .int .i64 k, .string p] 33 (0, 0)) := heap_setCell_same w2 S 0 _ _ _ h0
        have h3 : (w2.setCell ⟨S, 0, none⟩ (.slice av (n + m) cv)).heap[S + 1]? = some (.cells #[.slice none 0 0, .int .i64 0, .string ⟨#[]⟩] 33 (0, 0)) := by rw [Below.heap_setCell _ _ _ _ (show S + 1 ≠ S by omega)]; exact h1
        obtain ⟨w3, hw3⟩ : ∃ w3, w2.setCell ⟨S, 0, none⟩ (.slice av (n + m) cv) = w3 := ⟨_, rfl⟩
        rw [hw3] at h2 h3
        have q1 : w3.cell? ⟨S, 1, none⟩ = some (.int .i64 k) := by rw [Lib.cell_of_heap h2]; rfl
        have f1 : w3.frozen? ⟨S, 1, none⟩ = false := Lib.frozen_of_heap h2 1
        have h4 : (w3.setCell ⟨S, 1, none⟩ (.int .i64 ((k : Int) + (m : Int)))).heap[S]? = some (.cells #[.slice av (n + m) cv, .int .i64 ((k : Int) + (m : Int)), .string p] 33 (0, 0)) := heap_setCell_same w3 S 1 _ _ _ h2
        have h5 : (w3.setCell ⟨S, 1, none⟩ (.int .i64 ((k : Int) + (m : Int)))).heap[S + 1]? = some (.cells #[.slice none 0 0, .int .i64 0, .string ⟨#[]⟩] 33 (0, 0)) := by rw [Below.heap_setCell _ _ _ _ (show S + 1 ≠ S by omega)]; exact h3
        obtain ⟨w4, hw4⟩ : ∃ w4, w3.setCell ⟨S, 1, none⟩ (.int .i64 ((k : Int) + (m : Int))) = w4 := ⟨_, rfl⟩
        rw [hw4] at h4 h5
        have r0 : w4.cell? ⟨S, 0, none⟩ = some (.slice av (n + m) cv) := by rw [Lib.cell_of_heap h4]; rfl
        have r1 : w4.cell? ⟨S, 1, none⟩ = some (.int .i64 ((k : Int) + (m : Int))) := by rw [Lib.cell_of_heap h4]; rfl
        have r2 : w4.cell? ⟨S, 2, none⟩ = some (.string p) := by rw [Lib.cell_of_heap h4]; rfl
        have m0 : w4.cell? ⟨S + 1, 0, none⟩ = some (.slice none 0 0) := by rw [Lib.cell_of_heap h5]; rfl
        have m1 : w4.cell? ⟨S + 1, 1, none⟩ = some (.int .i64 0) := by rw [Lib.cell_of_heap h5]; rfl
        have m2 : w4.cell? ⟨S + 1, 2, none⟩ = some (.string ⟨#[]⟩) := by rw [Lib.cell_of_heap h5]; rfl
        have g0 : w4.frozen? ⟨S + 1, 0, none⟩ = false := Lib.frozen_of_heap h5 0
        have g1 : w4.frozen? ⟨S + 1, 1, none⟩ = false := Lib.frozen_of_heap h5 1
        have g2 : w4.frozen? ⟨S + 1, 2, none⟩ = false := Lib.frozen_of_heap h5 2
        have HO4 := Lib.hid (show OwnG itemE 106 (S + 1 + 1 + 1) (.slice av (n + m) cv) (xs.take k ++ (ys ++ xs.drop k)) w4 by rw [← hw4, ← hw3]; exact own_set (own_set ho S (by omega) 0 _) S (by omega) 1 _)
        have HB4 := Lib.hid (show Below S w w4 by rw [← hw4, ← hw3]; exact ((HB0.out.trans (hb2.mono (by omega))).setCell (p := ⟨S, 0, none⟩) (Nat.le_refl _) _).setCell (p := ⟨S, 1, none⟩) (Nat.le_refl _) _)
        have HR := Lib.hid (three_set h5 (.slice av (n + m) cv) (.int .i64 ((k : Int) + (m : Int))) (.string p))
        have HOE := Lib.hid (own_set (own_set (own_set HO4.out (S + 1) (by omega) 0 (.slice av (n + m) cv)) (S + 1) (by omega) 1 (.int .i64 ((k : Int) + (m : Int)))) (S + 1) (by omega) 2 (.string p))
        have HBE := Lib.hid (((HB4.out.setCell (p := ⟨S + 1, 0, none⟩) (by show S ≤ S + 1; omega) (.slice av (n + m) cv)).setCell (p := ⟨S + 1, 1, none⟩) (by show S ≤ S + 1; omega) (.int .i64 ((k : Int) + (m : Int)))).setCell (p := ⟨S + 1, 2, none⟩) (by show S ≤ S + 1; omega) (.string p))
        clear ho hb hb2 h0 h1 h2 h3 h4 h5 c0 c1 c2
        go_wp2_with fail
        (try simp only [Exit.inBlock, Exit.then])
        refine bodyPost_ret (results_row_tmp rfl _ _ (S + 1) 33 #[.slice av (n + m) cv, .int .i64 ((k : Int) + (m : Int)), .string p] (0, 0) _ (.bool true) (by rfl) (by rfl) HR.out Tryz.underlying33 (by rfl) (by kernel_rfl)) rfl ?_
        rw [HS.out]
        exact ⟨.inr ⟨HFU.out, _, by rw [Int.natCast_add], HOE.out.lower (by omega)⟩, HBE.out⟩
      · have e9 : ¬ (cap : Int) - (k : Int) = 0 := by omega
        have HTA := Lib.hid (show LieG itemE (.slice (some ⟨g, o, none⟩) k cap) (xs.take k) W0 from HL.out.take hk)
        have HDA := Lib.hid (show LieG itemE (.slice (some ⟨g, o + k * 2, none⟩) (n - k) (cap - k)) (xs.drop k) W0 from HL.out.drop hk)
        have HFT := Lib.hid (show ∃ a q, (Value.slice (some ⟨g, o, none⟩) k cap) = .slice a (xs.take k).length q from ⟨_, cap, by rw [List.length_take, HN.out, Nat.min_eq_left hk]⟩)
        have HFD := Lib.hid (show ∃ a q, (Value.slice (some ⟨g, o + k * 2, none⟩) (n - k) (cap - k)) = .slice a (xs.drop k).length q from ⟨_, cap - k, by rw [List.length_drop, HN.out]⟩)
        clear hno hsp hno2 hsp2 hcap2 hcap hk hn
        go_enter Tryz.func53, Tryz.ntmps53
        go_wp2_with fail
        try rw [hS]
        rw [HW.out]
        go_still_tail 11, (by kernel_rfl)
        change wpList _ _ _ _ _ W0.drew
        have hsz := HSZ.out
        obtain ⟨W1, hW1⟩ : ∃ W1, (W0.alloc (.cells #[(.slice (some ⟨g, o, none⟩) k cap), .slice ao2 m cap2, (.slice (some ⟨g, o + k * 2, none⟩) (n - k) (cap - k))] 31)).drew = W1 := ⟨_, rfl⟩
        have hb1 : Below (S + 1 + 1) W0 W1 := by rw [← hW1, ← hsz]; exact ((Below.refl _ W0).alloc (Nat.le_refl _) _).drew
        have hh1 : W1.heap[S + 1 + 1]? = some (.cells #[(.slice (some ⟨g, o, none⟩) k cap), .slice ao2 m cap2, (.slice (some ⟨g, o + k * 2, none⟩) (n - k) (cap - k))] 31 (0, 0)) := by rw [← hW1, ← hsz]; exact new_drew W0 _
        have hz1 : W1.heap.size = S + 1 + 1 + 1 := by rw [← hW1, ← hsz]; exact World.size_alloc W0 _
        have HB1 := Lib.hid hb1
        have HZ1 := Eqq.mk hz1
        have HC := Lib.hid (three_src hh1 HFT.out HF2.out HFD.out (HTA.out.src.below hb1 (by omega)) (HL2.out.src.below hb1 (by omega)) (HDA.out.src.below hb1 (by omega)))
        have HFL := Eqq.mk (show [xs.take k, ys, xs.drop k].flatten = xs.take k ++ (ys ++ xs.drop k) by simp)
        have HLEN := Eqq.mk (show [xs.take k, ys, xs.drop k].flatten.length = n + m by rw [HFL.out, List.length_append, List.length_append, List.length_take, List.length_drop, HN.out, HM.out]; omega)
        have HW1 := Eqq.mk hW1
        clear hb1 hh1 hz1 hW1 hsz
        go_wp2_with fail
        try rw [HSZ.out]
        try rw [HW1.out]
        with_reducible refine (concat8_any (S + 1 + 1) 3 [xs.take k, ys, xs.drop k] W1 rfl (by rw [HLEN.out]; have := HFU.out; omega) (by decide) HC.out).mono ?_
        rw [HFL.out, HZ1.out]
        rintro e w2 ⟨⟨v', rfl, ho⟩, hb⟩
        obtain ⟨av, cv, hvf⟩ := ho.frame
        rw [← HFL.out, HLEN.out] at hvf
        subst hvf
        have hb2 : Below (S + 1 + 1) W0 w2 := HB1.out.trans (hb.mono (by omega))
        have h0 : w2.heap[S]? = some (.cells #[(.slice (some ⟨g, o, none⟩) n cap), .int .i64 k, .string p] 33 (0, 0)) := by rw [hb2.block S (by omega)]; exact H0.out
        have h1 : w2.heap[S + 1]? = some (.cells #[.slice none 0 0, .int .i64 0, .string ⟨#[]⟩] 33 (0, 0)) := by rw [hb2.block (S + 1) (by omega)]; exact H1.out
        have f0 : w2.frozen? ⟨S, 0, none⟩ = false := Lib.frozen_of_heap h0 0
        have k0 : w2.cell? ⟨S, 0, none⟩ = some (.slice (some ⟨g, o, none⟩) n cap) := by rw [Lib.cell_of_heap h0]; rfl
        have h2 : (w2.setCell ⟨S, 0, none⟩ (.slice av (n + m) cv)).heap[S]? = some (.cells #[.slice av (n + m) cv, .int .i64 k, .string p] 33 (0, 0)) := heap_setCell_same w2 S 0 _ _ _ h0
        have h3 : (w2.setCell ⟨S, 0, none⟩ (.slice av (n + m) cv)).heap[S + 1]? = some (.cells #[.slice none 0 0, .int .i64 0, .string ⟨#[]⟩] 33 (0, 0)) := by rw [Below.heap_setCell _ _ _ _ (show S + 1 ≠ S by omega)]; exact h1
        obtain ⟨w3, hw3⟩ : ∃ w3, w2.setCell ⟨S, 0, none⟩ (.slice av (n + m) cv) = w3 := ⟨_, rfl⟩
        rw [hw3] at h2 h3
        have q1 : w3.cell? ⟨S, 1, none⟩ = some (.int .i64 k) := by rw [Lib.cell_of_heap h2]; rfl
        have f1 : w3.frozen? ⟨S, 1, none⟩ = false := Lib.frozen_of_heap h2 1
        have h4 : (w3.setCell ⟨S, 1, none⟩ (.int .i64 ((k : Int) + (m : Int)))).heap[S]? = some (.cells #[.slice av (n + m) cv, .int .i64 ((k : Int) + (m : Int)), .string p] 33 (0, 0)) := heap_setCell_same w3 S 1 _ _ _ h2
        have h5 : (w3.setCell ⟨S, 1, none⟩ (.int .i64 ((k : Int) + (m : Int)))).heap[S + 1]? = some (.cells #[.slice none 0 0, .int .i64 0, .string ⟨#[]⟩] 33 (0, 0)) := by rw [Below.heap_setCell _ _ _ _ (show S + 1 ≠ S by omega)]; exact h3
        obtain ⟨w4, hw4⟩ : ∃ w4, w3.setCell ⟨S, 1, none⟩ (.int .i64 ((k : Int) + (m : Int))) = w4 := ⟨_, rfl⟩
        rw [hw4] at h4 h5
        have r0 : w4.cell? ⟨S, 0, none⟩ = some (.slice av (n + m) cv) := by rw [Lib.cell_of_heap h4]; rfl
        have r1 : w4.cell? ⟨S, 1, none⟩ = some (.int .i64 ((k : Int) + (m : Int))) := by rw [Lib.cell_of_heap h4]; rfl
        have r2 : w4.cell? ⟨S, 2, none⟩ = some (.string p) := by rw [Lib.cell_of_heap h4]; rfl
        have m0 : w4.cell? ⟨S + 1, 0, none⟩ = some (.slice none 0 0) := by rw [Lib.cell_of_heap h5]; rfl
        have m1 : w4.cell? ⟨S + 1, 1, none⟩ = some (.int .i64 0) := by rw [Lib.cell_of_heap h5]; rfl
        have m2 : w4.cell? ⟨S + 1, 2, none⟩ = some (.string ⟨#[]⟩) := by rw [Lib.cell_of_heap h5]; rfl
        have g0 : w4.frozen? ⟨S + 1, 0, none⟩ = false := Lib.frozen_of_heap h5 0
        have g1 : w4.frozen? ⟨S + 1, 1, none⟩ = false := Lib.frozen_of_heap h5 1
        have g2 : w4.frozen? ⟨S + 1, 2, none⟩ = false := Lib.frozen_of_heap h5 2
        have HO4 := Lib.hid (show OwnG itemE 106 (S + 1 + 1 + 1) (.slice av (n + m) cv) (xs.take k ++ (ys ++ xs.drop k)) w4 by rw [← hw4, ← hw3]; exact own_set (own_set ho S (by omega) 0 _) S (by omega) 1 _)
        have HB4 := Lib.hid (show Below S w w4 by rw [← hw4, ← hw3]; exact ((HB0.out.trans (hb2.mono (by omega))).setCell (p := ⟨S, 0, none⟩) (Nat.le_refl _) _).setCell (p := ⟨S, 1, none⟩) (Nat.le_refl _) _)
        have HR := Lib.hid (three_set h5 (.slice av (n + m) cv) (.int .i64 ((k : Int) + (m : Int))) (.string p))
        have HOE := Lib.hid (own_set (own_set (own_set HO4.out (S + 1) (by omega) 0 (.slice av (n + m) cv)) (S + 1) (by omega) 1 (.int .i64 ((k : Int) + (m : Int)))) (S + 1) (by omega) 2 (.string p))
        have HBE := Lib.hid (((HB4.out.setCell (p := ⟨S + 1, 0, none⟩) (by show S ≤ S + 1; omega) (.slice av (n + m) cv)).setCell (p := ⟨S + 1, 1, none⟩) (by show S ≤ S + 1; omega) (.int .i64 ((k : Int) + (m : Int)))).setCell (p := ⟨S + 1, 2, none⟩) (by show S ≤ S + 1; omega) (.string p))
        clear ho hb hb2 h0 h1 h2 h3 h4 h5 c0 c1 c2
        go_wp2_with fail
        (try simp only [Exit.inBlock, Exit.then])
        refine bodyPost_ret (results_row_tmp rfl _ _ (S + 1) 33 #[.slice av (n + m) cv, .int .i64 ((k : Int) + (m : Int)), .string p] (0, 0) _ (.bool true) (by rfl) (by rfl) HR.out Tryz.underlying33 (by rfl) (by kernel_rfl)) rfl ?_
        rw [HS.out]
        exact ⟨.inr ⟨HFU.out, _, by rw [Int.natCast_add], HOE.out.lower (by omega)⟩, HBE.out⟩
end Go.Proofs.YtgdcffahhpeibaaGreatDoor
namespace Go.Proofs.YtgdcffahhpeibaaGreatDoor
open Go.RowKit
theorem heap_setCells8 (g : Nat) (T : TypeId) : ∀ (vs : List Value) (o : Nat) (w : World) (cur : Array Value), w.heap[g]? = some (.cells cur T (0, 0)) → o + vs.length ≤ cur.size →
    ∃ cur', (w.setCells g o vs).heap[g]? = some (.cells cur' T (0, 0)) ∧ cur'.size = cur.size ∧ cur'.toList = cur.toList.take o ++ (vs ++ cur.toList.drop (o + vs.length))
  | [], o, w, cur, h, _ => ⟨cur, h, rfl, by simp⟩
  | v :: r, o, w, cur, h, ho => by
    rw [List.length_cons] at ho
    obtain ⟨cur', h1, h2, h3⟩ := heap_setCells8 g T r (o + 1) (w.setCell ⟨g, o, none⟩ v) (cur.setIfInBounds o v) (heap_setCell_same w g o _ _ v h) (by rw [Array.size_setIfInBounds]; omega)
    refine ⟨cur', h1, by rw [h2, Array.size_setIfInBounds], ?_⟩
    have hl : cur.toList.length = cur.size := Array.length_toList
    rw [h3, Array.toList_setIfInBounds, List.length_cons, List.drop_set_of_lt (by omega), List.take_set, List.take_succ_eq_append_getElem (by omega), List.set_append, if_neg (by rw [List.length_take]; omega), List.length_take, Nat.min_eq_left (by omega), Nat.sub_self, List.set_cons_zero, List.append_assoc]
    rw [show o + 1 + r.length = o + (r.length + 1) by omega]
    rfl
theorem below_setCells8 {B : Nat} {a : World} (g : Nat) (hg : B ≤ g) : ∀ (vs : List Value) (o : Nat) (w : World), Below B a w → Below B a (w.setCells g o vs)
  | [], _, _, h => h
  | v :: r, o, _, h => below_setCells8 g hg r (o + 1) _ (h.setCell (p := ⟨g, o, none⟩) hg v)
theorem run_clear_item (w : World) (ty : TypeId) (b o c : Nat) (hc : ∀ j, j < 2 → (w.cell? ⟨b, o + j, none⟩).isSome = true) (hf : ∀ j, j < 2 → w.frozen? ⟨b, o + j, none⟩ = false) :
    (Builtin.clear_ #[31] ty #[.slice (some ⟨b, o, none⟩) 1 c]).run Tryz.prog w = .ok (.tuple #[]) (w.setCells b o [.string ⟨#[]⟩, .string ⟨#[]⟩]) := by
  have hst := run_storeCells_cells (P := Tryz.prog) b o [.string ⟨#[]⟩, .string ⟨#[]⟩] 0 w (by simpa using hc) (by simpa using hf) (by intro v hv; simp at hv; rw [hv]; rfl)
  simp only [Nat.add_zero] at hst
  obtain ⟨i0, hi, hz0, hz1, hz2⟩ := info_parts infoItemP
  have hv : ∀ w, (zeroValue 106).run Tryz.prog w = .ok (.agg #[.string ⟨#[]⟩, .string ⟨#[]⟩]) w := fun w => by simp [zeroValue, typeInfo, hi, hz0]
  have hzc : (Builtin.zeroCells (Value.agg #[.string ⟨#[]⟩, .string ⟨#[]⟩]).cells 1).toList = [.string ⟨#[]⟩, .string ⟨#[]⟩] := by kernel_rfl
  simp [Builtin.clear_, run_underlying Tryz.underlying31, hv, hzc, hst]
set_option maxRecDepth 100000 in
set_option maxHeartbeats 8000000 in
theorem delete8_any (v : Value) (xs : List Cp.Item) (i B : Nat) (w : World) (h : OwnG itemE 106 B v xs w) (hi : i < xs.length) :
    Calls Tryz.prog 59 #[v, .int .i64 i, .int .i64 ((i : Int) + 1)] w fun e w' => (∃ v', e = .returned v' ∧ OwnG itemE 106 B v' (xs.take i ++ xs.drop (i + 1)) w') ∧ Below B w w' := by
  obtain ⟨n, hnn⟩ : ∃ n, xs.length = n := ⟨_, rfl⟩
  have HN := Eqq.mk hnn
  obtain ⟨r, hr⟩ : ∃ r, n = i + 1 + r := ⟨n - (i + 1), by omega⟩
  have HI := Lib.hid hi
  rw [hnn] at hi
  have HL := Lib.hid h.lie
  obtain ⟨hlen, ⟨rfl, h0⟩ | ⟨g, cap, cur, rfl, hBg, hg, hc, hm, hs, ht⟩⟩ := h
  · omega
  rw [hnn] at HL ht hc ⊢
  have hcur : cur.toList.length = cap * 2 := by rw [Array.length_toList]; exact hs
  have hce : (itemE.cells xs).length = n * 2 := by rw [Enc.cells_len, hnn]; rfl
  have hks : itemE.k = 2 := rfl
  rw [hks] at hs ht
  have hD : (itemE.cells (xs.drop (i + 1))).length = r * 2 := by rw [Enc.cells_len, List.length_drop, hnn, hr, hks]; omega
  have hT : cur.toList.take (i * 2) = itemE.cells (xs.take i) := by
    have e := itemE.cells_app (xs.take i) (xs.drop i)
    rw [List.take_append_drop] at e
    have h2 : cur.toList.take (i * 2) = (cur.toList.take (n * 2)).take (i * 2) := by rw [List.take_take, Nat.min_eq_left (by omega)]
    rw [h2, ht, e]
    exact List.take_left' (by rw [Enc.cells_len, List.length_take, hnn, hks, Nat.min_eq_left (by omega)])
  obtain ⟨W1, hW1⟩ : ∃ W1, (w.drew).setCells g (0 + i * 2) (itemE.cells (xs.drop (i + 1))) = W1 := ⟨_, rfl⟩
  have HW1 : ∃ cur1, W1.heap[g]? = some (.cells cur1 106 (0, 0)) ∧ cur1.size = cap * 2 ∧ cur1.toList.take ((i + r) * 2) = itemE.cells (xs.take i ++ xs.drop (i + 1)) := by
    obtain ⟨c1, q1, q2, q3⟩ := heap_setCells8 g 106 (itemE.cells (xs.drop (i + 1))) (i * 2) w.drew cur hg (by rw [hD, hs]; omega)
    rw [← hW1, Nat.zero_add]
    refine ⟨c1, q1, by rw [q2, hs], ?_⟩
    rw [q3, Enc.cells_app, hT, ← List.append_assoc]
    refine List.take_left' ?_
    rw [List.length_append, hD, Enc.cells_len, List.length_take, hnn, hks, Nat.min_eq_left (by omega)]
    omega
  obtain ⟨cur1, q1, q2, q3⟩ := HW1
  obtain ⟨W2, hW2⟩ : ∃ W2, W1.setCells g ((i + r) * 2) [.string ⟨#[]⟩, .string ⟨#[]⟩] = W2 := ⟨_, rfl⟩
  obtain ⟨cur2, p1, p2, p3⟩ := heap_setCells8 g 106 [.string ⟨#[]⟩, .string ⟨#[]⟩] ((i + r) * 2) W1 cur1 q1 (by rw [q2]; show (i + r) * 2 + 2 ≤ _; omega)
  have HO := Lib.hid (show OwnG itemE 106 B (.slice (some ⟨g, 0, none⟩) (i + r) cap) (xs.take i ++ xs.drop (i + 1)) W2 from by
    have hlx : (xs.take i ++ xs.drop (i + 1)).length = i + r := by rw [List.length_append, List.length_take, List.length_drop, hnn]; omega
    refine ⟨by rw [Enc.cells_len, hlx], .inr ⟨g, cap, cur2, by rw [hlx], hBg, by rw [← hW2]; exact p1, by rw [hlx]; omega, hm, by rw [p2, q2, hks], ?_⟩⟩
    rw [hlx, hks, p3]
    refine (List.take_left' ?_).trans q3
    rw [List.length_take, Array.length_toList, q2]
    omega)
  have HB := Lib.hid (show Below B w W2 by rw [← hW2, ← hW1]; exact below_setCells8 g hBg _ _ _ (below_setCells8 g hBg _ _ _ (Below.refl B w).drew))
  have hcell : ∀ j, j < cap * 2 → (w.cell? ⟨g, j, none⟩).isSome = true := fun j hj => by
    rw [Lib.cell_of_heap hg]
    simp [hs, hj]
  have hfro : ∀ j, w.frozen? ⟨g, j, none⟩ = false := fun j => Lib.frozen_of_heap hg j
  have hcell1 : ∀ j, j < cap * 2 → (W1.cell? ⟨g, j, none⟩).isSome = true := fun j hj => by
    rw [Lib.cell_of_heap q1]
    simp [q2, hj]
  have hfro1 : ∀ j, W1.frozen? ⟨g, j, none⟩ = false := fun j => Lib.frozen_of_heap q1 j
  obtain ⟨N1, hN1⟩ : ∃ N1, i + r = N1 := ⟨_, rfl⟩
  obtain ⟨J, hJ⟩ : ∃ J, i + 1 = J := ⟨_, rfl⟩
  have hcl : ∀ ty, (Builtin.clear_ #[31] ty #[.slice (some ⟨g, N1 * 2, none⟩) (n - N1) (cap - N1)]).run Tryz.prog W1 = .ok (.tuple #[]) W2 := fun ty => by
    rw [← hW2, ← hN1, show n - (i + r) = 1 by omega]
    exact run_clear_item W1 ty g ((i + r) * 2) _ (fun j hj => hcell1 _ (by omega)) (fun j _ => hfro1 _)
  have i1 : (J : Int) ≤ (n : Int) := by omega
  have i2 : (0 : Int) ≤ (i : Int) := by omega
  have i3 : (n : Int) ≤ (cap : Int) := by omega
  have i4 : (i : Int) ≤ (J : Int) := by omega
  have i5 : (N1 : Int) ≤ (n : Int) := by omega
  have i6 : (J : Int) ≤ (cap : Int) := by omega
  have i7 : (i : Int) ≤ (cap : Int) := by omega
  have i8 : (N1 : Int) ≤ (cap : Int) := by omega
  have i9 : (i : Int) ≤ (n : Int) := by omega
  have hij : ¬ (i : Int) = (J : Int) := by omega
  have hij2 : ((i : Int) == (J : Int)) = false := by rw [beq_eq_false_iff_ne]; exact hij
  have hcN : ¬ cap = N1 := by omega
  have hcI : ¬ cap = i := by omega
  have hnI : ¬ n = i := by omega
  have e1 : ¬ (cap : Int) - (N1 : Int) = 0 := by omega
  obtain ⟨i0, hi0, hz0, hz1, hz2⟩ := info_parts infoItemP
  rw [show (i : Int) + 1 = (J : Int) by omega]
  rw [hN1, hJ] at HO
  rw [hJ] at hW1 hD ⊢
  have hgl : ∀ (j : Nat) u, (itemE.cells (xs.drop J))[j]? = some u → w.cell? ⟨g, J * 2 + j, none⟩ = some u := fun j u hu => by
    have h1 := LieG.cells (LieG.drop HL.out (show J ≤ n by omega)) j u hu
    rw [hks, Nat.zero_add] at h1
    exact h1
  by_cases hfull : cap = J
  · have hnJ : n ≤ J := by omega
    have hn0 : n - J = 0 := by omega
    have hJc : J = cap := hfull.symm
    clear hfull
    subst hJc
    have happ : (Builtin.append_ #[31, 31] 31 #[.slice (some ⟨g, 0, none⟩) i J, .slice (some ⟨g, 0, none⟩) 0 0]).run Tryz.prog w.drew = .ok (.slice (some ⟨g, 0, none⟩) N1 J) W1 := by
      have hE : itemE.cells (xs.drop J) = [] := List.eq_nil_of_length_eq_zero (by rw [hD]; omega)
      rw [← hW1, hE, show N1 = i + 0 by omega]
      have hap := run_append_room_cells (P := Tryz.prog) w.drew 31 31 106 i0 Tryz.underlying31 hi0 g 0 i J ⟨g, 0, none⟩ 0 0 [] (by simp) (fun j u hu => by simp at hu) (fun u hu => by cases hu) (by omega) (fun j hj => by simp at hj) (fun j hj => by simp at hj)
      rw [hz1] at hap
      exact hap
    clear hcell hfro hcell1 hfro1 hgl hN1 hJ hr hnn hW1 hW2 q1 q2 q3 p1 p2 p3 hT hD hcur hce hs ht hg hlen hc hm hi hn0
    go_enter Tryz.func59, Tryz.ntmps59
    go_wp2_with fail
    go_still_tail 6, (by kernel_rfl)
    change wpList _ _ _ _ _ w.drew
    refine Lib.wpList_append_run _ rfl _ _ _ _ rfl _ _ rfl rfl _ _ happ ?_
    go_wp2_with fail
    go_ret
    exact ⟨⟨_, rfl, HO.out⟩, HB.out⟩
  · have e2 : ¬ (cap : Int) - (J : Int) = 0 := by omega
    have happ : (Builtin.append_ #[31, 31] 31 #[.slice (some ⟨g, 0, none⟩) i cap, .slice (some ⟨g, J * 2, none⟩) (n - J) (cap - J)]).run Tryz.prog w.drew = .ok (.slice (some ⟨g, 0, none⟩) N1 cap) W1 := by
      rw [← hW1, show N1 = i + (n - J) by omega]
      have hap := run_append_room_cells (P := Tryz.prog) w.drew 31 31 106 i0 Tryz.underlying31 hi0 g 0 i cap ⟨g, J * 2, none⟩ (n - J) (cap - J) (itemE.cells (xs.drop J)) (by rw [hD, hz1]; omega) (fun j u hu => by rw [addr_add]; exact hgl j u hu) (itemE.cells_one' _) (by omega) (fun j hj => hcell _ (by rw [hz1]; rw [hD] at hj; omega)) (fun j _ => hfro _)
      rw [hz1] at hap
      exact hap
    clear hcell hfro hcell1 hfro1 hgl hN1 hJ hr hnn hW1 hW2 q1 q2 q3 p1 p2 p3 hT hD hcur hce hs ht hg hlen hc hm hi
    go_enter Tryz.func59, Tryz.ntmps59
    go_wp2_with fail
    go_still_tail 6, (by kernel_rfl)
    change wpList _ _ _ _ _ w.drew
    refine Lib.wpList_append_run _ rfl _ _ _ _ rfl _ _ rfl rfl _ _ happ ?_
    go_wp2_with fail
    go_ret
    exact ⟨⟨_, rfl, HO.out⟩, HB.out⟩
end Go.Proofs.YtgdcffahhpeibaaGreatDoor
namespace Go.Proofs.YtgdcffahhpeibaaGreatDoor
open Go.RowKit
namespace Cp
def del (b : Buf) : Buf := if valid b = true ∧ b.caret < (b.items.length : Int) then without b b.caret.toNat b.caret else b
end Cp
/-- a buffer that a function of the package hands back: its list is new memory -/
def BufR (B : Nat) (b : Cp.Buf) (e : Ending) (w : World) : Prop := ∃ v, e = .returned (bufV v b.caret (ba b.pend)) ∧ OwnG itemE 106 B v b.items w
theorem three_cells {w : World} {b : Nat} {T : TypeId} {x y z : Value} (h : w.heap[b]? = some (.cells #[x, y, z] T (0, 0))) :
    (w.cell? ⟨b, 0, none⟩ = some x ∧ w.cell? ⟨b, 1, none⟩ = some y ∧ w.cell? ⟨b, 2, none⟩ = some z) ∧ w.frozen? ⟨b, 0, none⟩ = false ∧ w.frozen? ⟨b, 1, none⟩ = false ∧ w.frozen? ⟨b, 2, none⟩ = false :=
  ⟨⟨by rw [Lib.cell_of_heap h]; rfl, by rw [Lib.cell_of_heap h]; rfl, by rw [Lib.cell_of_heap h]; rfl⟩, Lib.frozen_of_heap h 0, Lib.frozen_of_heap h 1, Lib.frozen_of_heap h 2⟩
theorem three_own {w : World} {b B : Nat} {v : Value} {xs : List Cp.Item} (h : OwnG itemE 106 B v xs w) (hb : b < B) (x y z : Value) : OwnG itemE 106 B v xs (((w.setCell ⟨b, 0, none⟩ x).setCell ⟨b, 1, none⟩ y).setCell ⟨b, 2, none⟩ z) :=
  own_set (own_set (own_set h b hb 0 x) b hb 1 y) b hb 2 z
theorem three_other {w : World} {b c : Nat} (hc : c ≠ b) (x y z : Value) : (((w.setCell ⟨b, 0, none⟩ x).setCell ⟨b, 1, none⟩ y).setCell ⟨b, 2, none⟩ z).heap[c]? = w.heap[c]? := by
  rw [Below.heap_setCell _ _ _ _ hc, Below.heap_setCell _ _ _ _ hc, Below.heap_setCell _ _ _ _ hc]
theorem three_below {a w : World} {b B : Nat} (h : Below B a w) (hb : B ≤ b) (x y z : Value) : Below B a (((w.setCell ⟨b, 0, none⟩ x).setCell ⟨b, 1, none⟩ y).setCell ⟨b, 2, none⟩ z) :=
  ((h.setCell (p := ⟨b, 0, none⟩) hb x).setCell (p := ⟨b, 1, none⟩) hb y).setCell (p := ⟨b, 2, none⟩) hb z
set_option maxRecDepth 100000 in
set_option maxHeartbeats 16000000 in
theorem pdelete_any (v : Value) (xs : List Cp.Item) (c : Int) (p : ByteArray) (pl : List UInt8) (w : World) (h : LieG itemE v xs w) (hp : Is p pl) (hf : Fits xs pl) (ht : Tabs w) :
    Calls Tryz.prog 38 #[bufV v c p] w fun e w' => BufR w.heap.size (Cp.del ⟨xs, c, pl⟩) e w' ∧ Below w.heap.size w w' := by
  have HP := Lib.hid hp
  have HF := Lib.hid hf
  have HPB := Eqq.mk hp.ba
  obtain ⟨S, hS⟩ : ∃ S, w.heap.size = S := ⟨_, rfl⟩
  have HS := Eqq.mk hS
  obtain ⟨W0, hW0⟩ : ∃ W0, (w.alloc (.cells #[v, .int .i64 c, .string p] 33)).alloc (.cells #[.slice none 0 0, .int .i64 0, .string ⟨#[]⟩] 33) = W0 := ⟨_, rfl⟩
  have hb0 : Below S w W0 := by rw [← hW0]; exact ((Below.refl S w).alloc (by omega) _).alloc (by simp; omega) _
  have HB0 := Lib.hid hb0
  have h0 : W0.heap[S]? = some (.cells #[v, .int .i64 c, .string p] 33 (0, 0)) := by
    rw [← hW0, Lib.alloc_old _ _ _ (by rw [World.size_alloc]; omega), ← hS]; exact (MapKept.heap_alloc w _).1
  have h1 : W0.heap[S + 1]? = some (.cells #[.slice none 0 0, .int .i64 0, .string ⟨#[]⟩] 33 (0, 0)) := by
    have := (MapKept.heap_alloc (w.alloc (.cells #[v, .int .i64 c, .string p] 33)) (.cells #[.slice none 0 0, .int .i64 0, .string ⟨#[]⟩] 33)).1
    rw [World.size_alloc, hS, hW0] at this; exact this
  have hsz : W0.heap.size = S + 1 + 1 := by rw [← hW0, World.size_alloc, World.size_alloc, hS]
  have HSZ := Lib.hid hsz
  have H0 := Lib.hid h0
  have H1 := Lib.hid h1
  have HL := Lib.hid (h.below hb0 (by omega))
  have HT := Lib.hid (fun (W : World) (hW : Below S w W) => ht.keep (show Below w.heap.size w W by rw [hS]; exact hW))
  have HW := Eqq.mk hW0
  obtain ⟨⟨c0, c1, c2⟩, _⟩ := three_cells h0
  have hn := hf.n
  clear h h0 h1 hsz hb0 hW0 hp hf ht
  go_enter Tryz.func38, Tryz.ntmps38
  go_wp2_with fail
  try rw [hS]
  rw [HW.out]
  with_reducible refine (copy8_any v xs c p W0 HL.out hn).mono ?_
  rw [HSZ.out]
  rintro e w2 ⟨⟨v', rfl, ho⟩, hb⟩
  obtain ⟨av, cv, rfl⟩ := ho.frame
  have HO2 := Lib.hid ho
  have HB2 := Lib.hid hb
  have h0 : w2.heap[S]? = some (.cells #[v, .int .i64 c, .string p] 33 (0, 0)) := by rw [hb.block S (by omega)]; exact H0.out
  have h1 : w2.heap[S + 1]? = some (.cells #[.slice none 0 0, .int .i64 0, .string ⟨#[]⟩] 33 (0, 0)) := by rw [hb.block (S + 1) (by omega)]; exact H1.out
  obtain ⟨⟨k0, k1, k2⟩, f0, f1, f2⟩ := three_cells h0
  have h2 := three_set h0 (.slice av xs.length cv) (.int .i64 c) (.string p)
  have h3 := (three_other (w := w2) (b := S) (c := S + 1) (by omega) (.slice av xs.length cv) (.int .i64 c) (.string p)).trans h1
  obtain ⟨w3, hw3⟩ : ∃ w3, ((w2.setCell ⟨S, 0, none⟩ (.slice av xs.length cv)).setCell ⟨S, 1, none⟩ (.int .i64 c)).setCell ⟨S, 2, none⟩ (.string p) = w3 := ⟨_, rfl⟩
  have HW3 := Eqq.mk hw3
  rw [hw3] at h2 h3
  have HO3 := Lib.hid (show OwnG itemE 106 (S + 1 + 1) (.slice av xs.length cv) xs w3 by rw [← hw3]; exact three_own ho (by omega) _ _ _)
  have HB3 := Lib.hid (show Below S w w3 by rw [← hw3]; exact three_below (HB0.out.trans (hb.mono (by omega))) (Nat.le_refl _) _ _ _)
  have HT3 := Lib.hid (HT.out _ HB3.out)
  have H2 := Lib.hid h2
  have H3 := Lib.hid h3
  obtain ⟨⟨q0, q1, q2⟩, _⟩ := three_cells h2
  obtain ⟨n, hnn⟩ : ∃ n, xs.length = n := ⟨_, rfl⟩
  have HN := Eqq.mk hnn
  rw [hnn] at HW3 HO3 H2 q0 ⊢
  clear ho hb h0 h1 h2 h3 c0 c1 c2 hw3 hnn hn
  go_wp2_with fail
  try rw [HW3.out]
  with_reducible refine (check8_any _ xs c p pl w3 HO3.out.lie HP.out HF.out HT3.out).mono ?_
  rintro e w4 ⟨rfl, hb⟩
  have HO4 := Lib.hid (HO3.out.below hb (Nat.le_refl _))
  have HB4 := Lib.hid (HB3.out.trans (hb.mono (by have := HB3.out.size; rw [HS.out] at this; exact this)))
  have h4 : w4.heap[S]? = some (.cells #[.slice av n cv, .int .i64 c, .string p] 33 (0, 0)) := by rw [hb.block S (heap_lt H2.out)]; exact H2.out
  have h5 : w4.heap[S + 1]? = some (.cells #[.slice none 0 0, .int .i64 0, .string ⟨#[]⟩] 33 (0, 0)) := by rw [hb.block (S + 1) (heap_lt H3.out)]; exact H3.out
  have H4 := Lib.hid h4
  have H5 := Lib.hid h5
  clear hb q0 q1 q2 k0 k1 k2 f0 f1 f2
  obtain ⟨⟨q0, q1, q2⟩, e0, e1, e2⟩ := three_cells h4
  obtain ⟨V, hV⟩ : ∃ V, Cp.valid ⟨xs, c, pl⟩ = V := ⟨_, rfl⟩
  have HV := Eqq.mk hV
  rw [hV]
  cases V
  · have HD := Eqq.mk (show Cp.del ⟨xs, c, pl⟩ = ⟨xs, c, pl⟩ by unfold Cp.del; rw [if_neg (by rw [hV]; simp)])
    rw [if_neg (show ¬ (false = true) by simp)]
    clear hV
    obtain ⟨⟨m0, m1, m2⟩, g0, g1, g2⟩ := three_cells H5.out
    have HR := Lib.hid (three_set H5.out (.slice av n cv) (.int .i64 c) (.string p))
    have HOE := Lib.hid (three_own HO4.out (show S + 1 < S + 1 + 1 by omega) (.slice av n cv) (.int .i64 c) (.string p))
    have HBE := Lib.hid (three_below HB4.out (show S ≤ S + 1 by omega) (.slice av n cv) (.int .i64 c) (.string p))
    go_wp2_with fail
    (try simp only [Exit.inBlock, Exit.then])
    refine bodyPost_ret (results_cell_row rfl _ _ (S + 1) 33 #[(.slice av n cv), .int .i64 c, .string p] (0, 0) _ (by rfl) HR.out Tryz.underlying33 (by rfl) (by kernel_rfl)) rfl ?_
    rw [HD.out, HS.out]
    exact ⟨⟨_, by rw [HPB.out], HOE.out.lower (by omega)⟩, HBE.out⟩
  · obtain ⟨h64, ⟨k, rfl, hk⟩, _, _, _⟩ := valid_parts hV
    rw [if_pos rfl]
    rw [HN.out] at h64 hk
    by_cases hlt : k < n
    · have HD := Eqq.mk (show Cp.del ⟨xs, (k : Int), pl⟩ = ⟨xs.take k ++ xs.drop (k + 1), (k : Int), pl⟩ by
        unfold Cp.del
        rw [if_pos ⟨hV, by show (k : Int) < (xs.length : Int); rw [HN.out]; omega⟩]
        rfl)
      have HLT := Lib.hid (show k < xs.length by rw [HN.out]; exact hlt)
      have d1 : (k : Int) < (n : Int) := by omega
      have d2 : (0 : Int) ≤ (k : Int) := by omega
      have d3 : (n : Int) ≤ 64 := by omega
      clear hV hlt hk h64 h4 h5
      go_wp2_with fail
      with_reducible refine (delete8_any _ xs k (S + 1 + 1) w4 HO4.out HLT.out).mono ?_
      rintro e w5 ⟨⟨v5, rfl, ho⟩, hb⟩
      obtain ⟨a5, c5, hvf⟩ := ho.frame
      obtain ⟨n5, hn5⟩ : ∃ n5, (xs.take k ++ xs.drop (k + 1)).length = n5 := ⟨_, rfl⟩
      rw [hn5] at hvf
      subst hvf
      have h6 : w5.heap[S]? = some (.cells #[.slice av n cv, .int .i64 k, .string p] 33 (0, 0)) := by rw [hb.block S (by omega)]; exact H4.out
      have h7 : w5.heap[S + 1]? = some (.cells #[.slice none 0 0, .int .i64 0, .string ⟨#[]⟩] 33 (0, 0)) := by rw [hb.block (S + 1) (by omega)]; exact H5.out
      obtain ⟨⟨s0, _, _⟩, t0, _, _⟩ := three_cells h6
      have h8 : (w5.setCell ⟨S, 0, none⟩ (.slice a5 n5 c5)).heap[S]? = some (.cells #[.slice a5 n5 c5, .int .i64 k, .string p] 33 (0, 0)) := heap_setCell_same w5 S 0 _ _ _ h6
      have h9 : (w5.setCell ⟨S, 0, none⟩ (.slice a5 n5 c5)).heap[S + 1]? = some (.cells #[.slice none 0 0, .int .i64 0, .string ⟨#[]⟩] 33 (0, 0)) := by rw [Below.heap_setCell _ _ _ _ (show S + 1 ≠ S by omega)]; exact h7
      obtain ⟨w6, hw6⟩ : ∃ w6, w5.setCell ⟨S, 0, none⟩ (.slice a5 n5 c5) = w6 := ⟨_, rfl⟩
      rw [hw6] at h8 h9
      have H8 := Lib.hid h8
      have H9 := Lib.hid h9
      have HO6 := Lib.hid (show OwnG itemE 106 (S + 1 + 1) (.slice a5 n5 c5) (xs.take k ++ xs.drop (k + 1)) w6 by rw [← hw6]; exact own_set ho S (by omega) 0 _)
      have HB6 := Lib.hid (show Below S w w6 by rw [← hw6]; exact (HB4.out.trans (hb.mono (by omega))).setCell (p := ⟨S, 0, none⟩) (Nat.le_refl _) _)
      clear ho hb h6 h7 h8 h9 q0 q1 q2 e0 e1 e2
      obtain ⟨⟨q0, q1, q2⟩, e0, e1, e2⟩ := three_cells H8.out
      obtain ⟨⟨m0, m1, m2⟩, g0, g1, g2⟩ := three_cells H9.out
      have HR := Lib.hid (three_set H9.out (.slice a5 n5 c5) (.int .i64 k) (.string p))
      have HOE := Lib.hid (three_own HO6.out (show S + 1 < S + 1 + 1 by omega) (.slice a5 n5 c5) (.int .i64 k) (.string p))
      have HBE := Lib.hid (three_below HB6.out (show S ≤ S + 1 by omega) (.slice a5 n5 c5) (.int .i64 k) (.string p))
      go_wp2_with fail
      (try simp only [Exit.inBlock, Exit.then])
      refine bodyPost_ret (results_cell_row rfl _ _ (S + 1) 33 #[(.slice a5 n5 c5), .int .i64 k, .string p] (0, 0) _ (by rfl) HR.out Tryz.underlying33 (by rfl) (by kernel_rfl)) rfl ?_
      rw [HD.out, HS.out]
      exact ⟨⟨_, by rw [HPB.out], HOE.out.lower (by omega)⟩, HBE.out⟩
    · have HD := Eqq.mk (show Cp.del ⟨xs, (k : Int), pl⟩ = ⟨xs, (k : Int), pl⟩ by
        unfold Cp.del
        rw [if_neg (by rintro ⟨_, h⟩; have h' : (k : Int) < (xs.length : Int) := h; rw [HN.out] at h'; omega)])
      have d1 : ¬ (k : Int) < (n : Int) := by omega
      clear hV
      obtain ⟨⟨m0, m1, m2⟩, g0, g1, g2⟩ := three_cells H5.out
      have HR := Lib.hid (three_set H5.out (.slice av n cv) (.int .i64 k) (.string p))
      have HOE := Lib.hid (three_own HO4.out (show S + 1 < S + 1 + 1 by omega) (.slice av n cv) (.int .i64 k) (.string p))
      have HBE := Lib.hid (three_below HB4.out (show S ≤ S + 1 by omega) (.slice av n cv) (.int .i64 k) (.string p))
      go_wp2_with fail
      (try simp only [Exit.inBlock, Exit.then])
      refine bodyPost_ret (results_cell_row rfl _ _ (S + 1) 33 #[(.slice av n cv), .int .i64 k, .string p] (0, 0) _ (by rfl) HR.out Tryz.underlying33 (by rfl) (by kernel_rfl)) rfl ?_
      rw [HD.out, HS.out]
      exact ⟨⟨_, by rw [HPB.out], HOE.out.lower (by omega)⟩, HBE.out⟩
end Go.Proofs.YtgdcffahhpeibaaGreatDoor
namespace Go.Proofs.YtgdcffahhpeibaaGreatDoor
open Go.RowKit
namespace Cp
def back (b : Buf) : Buf := if valid b = true then (if b.pend = [] then (if 0 < b.caret then without b (b.caret - 1).toNat (b.caret - 1) else b) else { b with pend := b.pend.take (b.pend.length - 1) }) else b
end Cp
set_option maxRecDepth 100000 in
set_option maxHeartbeats 16000000 in
theorem pback_any (v : Value) (xs : List Cp.Item) (c : Int) (p : ByteArray) (pl : List UInt8) (w : World) (h : LieG itemE v xs w) (hp : Is p pl) (hf : Fits xs pl) (ht : Tabs w) :
    Calls Tryz.prog 18 #[bufV v c p] w fun e w' => BufR w.heap.size (Cp.back ⟨xs, c, pl⟩) e w' ∧ Below w.heap.size w w' := by
  have HP := Lib.hid hp
  have HF := Lib.hid hf
  have HPB := Eqq.mk hp.ba
  obtain ⟨S, hS⟩ : ∃ S, w.heap.size = S := ⟨_, rfl⟩
  have HS := Eqq.mk hS
  obtain ⟨W0, hW0⟩ : ∃ W0, (w.alloc (.cells #[v, .int .i64 c, .string p] 33)).alloc (.cells #[.slice none 0 0, .int .i64 0, .string ⟨#[]⟩] 33) = W0 := ⟨_, rfl⟩
  have hb0 : Below S w W0 := by rw [← hW0]; exact ((Below.refl S w).alloc (by omega) _).alloc (by simp; omega) _
  have HB0 := Lib.hid hb0
  have h0 : W0.heap[S]? = some (.cells #[v, .int .i64 c, .string p] 33 (0, 0)) := by
    rw [← hW0, Lib.alloc_old _ _ _ (by rw [World.size_alloc]; omega), ← hS]; exact (MapKept.heap_alloc w _).1
  have h1 : W0.heap[S + 1]? = some (.cells #[.slice none 0 0, .int .i64 0, .string ⟨#[]⟩] 33 (0, 0)) := by
    have := (MapKept.heap_alloc (w.alloc (.cells #[v, .int .i64 c, .string p] 33)) (.cells #[.slice none 0 0, .int .i64 0, .string ⟨#[]⟩] 33)).1
    rw [World.size_alloc, hS, hW0] at this; exact this
  have hsz : W0.heap.size = S + 1 + 1 := by rw [← hW0, World.size_alloc, World.size_alloc, hS]
  have HSZ := Lib.hid hsz
  have H0 := Lib.hid h0
  have H1 := Lib.hid h1
  have HL := Lib.hid (h.below hb0 (by omega))
  have HT := Lib.hid (fun (W : World) (hW : Below S w W) => ht.keep (show Below w.heap.size w W by rw [hS]; exact hW))
  have HW := Eqq.mk hW0
  obtain ⟨⟨c0, c1, c2⟩, _⟩ := three_cells h0
  have hn := hf.n
  clear h h0 h1 hsz hb0 hW0 hp hf ht
  go_enter Tryz.func18, Tryz.ntmps18
  go_wp2_with fail
  try rw [hS]
  rw [HW.out]
  with_reducible refine (copy8_any v xs c p W0 HL.out hn).mono ?_
  rw [HSZ.out]
  rintro e w2 ⟨⟨v', rfl, ho⟩, hb⟩
  obtain ⟨av, cv, rfl⟩ := ho.frame
  have HO2 := Lib.hid ho
  have HB2 := Lib.hid hb
  have h0 : w2.heap[S]? = some (.cells #[v, .int .i64 c, .string p] 33 (0, 0)) := by rw [hb.block S (by omega)]; exact H0.out
  have h1 : w2.heap[S + 1]? = some (.cells #[.slice none 0 0, .int .i64 0, .string ⟨#[]⟩] 33 (0, 0)) := by rw [hb.block (S + 1) (by omega)]; exact H1.out
  obtain ⟨⟨k0, k1, k2⟩, f0, f1, f2⟩ := three_cells h0
  have h2 := three_set h0 (.slice av xs.length cv) (.int .i64 c) (.string p)
  have h3 := (three_other (w := w2) (b := S) (c := S + 1) (by omega) (.slice av xs.length cv) (.int .i64 c) (.string p)).trans h1
  obtain ⟨w3, hw3⟩ : ∃ w3, ((w2.setCell ⟨S, 0, none⟩ (.slice av xs.length cv)).setCell ⟨S, 1, none⟩ (.int .i64 c)).setCell ⟨S, 2, none⟩ (.string p) = w3 := ⟨_, rfl⟩
  have HW3 := Eqq.mk hw3
  rw [hw3] at h2 h3
  have HO3 := Lib.hid (show OwnG itemE 106 (S + 1 + 1) (.slice av xs.length cv) xs w3 by rw [← hw3]; exact three_own ho (by omega) _ _ _)
  have HB3 := Lib.hid (show Below S w w3 by rw [← hw3]; exact three_below (HB0.out.trans (hb.mono (by omega))) (Nat.le_refl _) _ _ _)
  have HT3 := Lib.hid (HT.out _ HB3.out)
  have H2 := Lib.hid h2
  have H3 := Lib.hid h3
  obtain ⟨⟨q0, q1, q2⟩, _⟩ := three_cells h2
  obtain ⟨n, hnn⟩ : ∃ n, xs.length = n := ⟨_, rfl⟩
  have HN := Eqq.mk hnn
  rw [hnn] at HW3 HO3 H2 q0 ⊢
  clear ho hb h0 h1 h2 h3 c0 c1 c2 hw3 hnn hn
  go_wp2_with fail
  try rw [HW3.out]
  with_reducible refine (check8_any _ xs c p pl w3 HO3.out.lie HP.out HF.out HT3.out).mono ?_
  rintro e w4 ⟨rfl, hb⟩
  have HO4 := Lib.hid (HO3.out.below hb (Nat.le_refl _))
  have HB4 := Lib.hid (HB3.out.trans (hb.mono (by have := HB3.out.size; rw [HS.out] at this; exact this)))
  have h4 : w4.heap[S]? = some (.cells #[.slice av n cv, .int .i64 c, .string p] 33 (0, 0)) := by rw [hb.block S (heap_lt H2.out)]; exact H2.out
  have h5 : w4.heap[S + 1]? = some (.cells #[.slice none 0 0, .int .i64 0, .string ⟨#[]⟩] 33 (0, 0)) := by rw [hb.block (S + 1) (heap_lt H3.out)]; exact H3.out
  have H4 := Lib.hid h4
  have H5 := Lib.hid h5
  clear hb q0 q1 q2 k0 k1 k2 f0 f1 f2
  obtain ⟨⟨q0, q1, q2⟩, e0, e1, e2⟩ := three_cells h4
  obtain ⟨V, hV⟩ : ∃ V, Cp.valid ⟨xs, c, pl⟩ = V := ⟨_, rfl⟩
  have HV := Eqq.mk hV
  rw [hV]
  cases V
  · have HD := Eqq.mk (show Cp.back ⟨xs, c, pl⟩ = ⟨xs, c, pl⟩ by unfold Cp.back; rw [if_neg (by rw [hV]; simp)])
    rw [if_neg (show ¬ (false = true) by simp)]
    clear hV
    obtain ⟨⟨m0, m1, m2⟩, g0, g1, g2⟩ := three_cells H5.out
    have HR := Lib.hid (three_set H5.out (.slice av n cv) (.int .i64 c) (.string p))
    have HOE := Lib.hid (three_own HO4.out (show S + 1 < S + 1 + 1 by omega) (.slice av n cv) (.int .i64 c) (.string p))
    have HBE := Lib.hid (three_below HB4.out (show S ≤ S + 1 by omega) (.slice av n cv) (.int .i64 c) (.string p))
    go_wp2_with fail
    (try simp only [Exit.inBlock, Exit.then])
    refine bodyPost_ret (results_cell_row rfl _ _ (S + 1) 33 #[(.slice av n cv), .int .i64 c, .string p] (0, 0) _ (by rfl) HR.out Tryz.underlying33 (by rfl) (by kernel_rfl)) rfl ?_
    rw [HD.out, HS.out]
    exact ⟨⟨_, by rw [HPB.out], HOE.out.lower (by omega)⟩, HBE.out⟩
  · obtain ⟨h64, ⟨k, rfl, hk⟩, h8, _, _⟩ := valid_parts hV
    rw [if_pos rfl]
    rw [HN.out] at h64 hk
    by_cases hpe : pl = []
    · subst hpe
      obtain rfl : p = ⟨#[]⟩ := HP.out.eq (Is.mk [])
      by_cases hk0 : k = 0
      · have HD := Eqq.mk (show Cp.back ⟨xs, (k : Int), []⟩ = ⟨xs, (k : Int), []⟩ by
          unfold Cp.back
          rw [if_pos hV, if_pos rfl, if_neg (show ¬ 0 < (k : Int) by omega)])
        have d1 : ¬ 0 < (k : Int) := by omega
        clear hV hk0 hk h64 h8
        obtain ⟨⟨m0, m1, m2⟩, g0, g1, g2⟩ := three_cells H5.out
        have HR := Lib.hid (three_set H5.out (.slice av n cv) (.int .i64 k) (.string ⟨#[]⟩))
        have HOE := Lib.hid (three_own HO4.out (show S + 1 < S + 1 + 1 by omega) (.slice av n cv) (.int .i64 k) (.string ⟨#[]⟩))
        have HBE := Lib.hid (three_below HB4.out (show S ≤ S + 1 by omega) (.slice av n cv) (.int .i64 k) (.string ⟨#[]⟩))
        go_wp2_with fail
        (try simp only [Exit.inBlock, Exit.then])
        refine bodyPost_ret (results_cell_row rfl _ _ (S + 1) 33 #[(.slice av n cv), .int .i64 k, .string ⟨#[]⟩] (0, 0) _ (by rfl) HR.out Tryz.underlying33 (by rfl) (by kernel_rfl)) rfl ?_
        rw [HD.out, HS.out]
        exact ⟨⟨_, by rw [HPB.out], HOE.out.lower (by omega)⟩, HBE.out⟩
      · obtain ⟨j, hj⟩ : ∃ j, k = j + 1 := ⟨k - 1, by omega⟩
        have HD := Eqq.mk (show Cp.back ⟨xs, (k : Int), []⟩ = ⟨xs.take j ++ xs.drop (j + 1), (j : Int), []⟩ by
          unfold Cp.back
          rw [if_pos hV, if_pos rfl, if_pos (show 0 < (k : Int) by omega), show ((Cp.Buf.mk xs (k : Int) []).caret - 1) = (j : Int) by show (k : Int) - 1 = _; omega]
          rfl)
        have HLT := Lib.hid (show j < xs.length by rw [HN.out]; omega)
        have d1 : 0 < (k : Int) := by omega
        have d2 : (k : Int) - 1 = (j : Int) := by omega
        have d3 : (k : Int) ≤ 64 := by omega
        have d4 : (j : Int) ≤ 64 := by omega
        have d5 : 0 ≤ (j : Int) := by omega
        have x1 : (w4.setCell ⟨S, 1, none⟩ (.int .i64 (j : Int))).heap[S]? = some (.cells #[.slice av n cv, .int .i64 j, .string ⟨#[]⟩] 33 (0, 0)) := heap_setCell_same w4 S 1 _ _ _ H4.out
        have x2 : (w4.setCell ⟨S, 1, none⟩ (.int .i64 (j : Int))).heap[S + 1]? = some (.cells #[.slice none 0 0, .int .i64 0, .string ⟨#[]⟩] 33 (0, 0)) := by rw [Below.heap_setCell _ _ _ _ (show S + 1 ≠ S by omega)]; exact H5.out
        obtain ⟨w5, hw5⟩ : ∃ w5, w4.setCell ⟨S, 1, none⟩ (.int .i64 (j : Int)) = w5 := ⟨_, rfl⟩
        rw [hw5] at x1 x2
        have X1 := Lib.hid x1
        have X2 := Lib.hid x2
        have HO5 := Lib.hid (show OwnG itemE 106 (S + 1 + 1) (.slice av n cv) xs w5 by rw [← hw5]; exact own_set HO4.out S (by omega) 1 _)
        have HB5 := Lib.hid (show Below S w w5 by rw [← hw5]; exact HB4.out.setCell (p := ⟨S, 1, none⟩) (Nat.le_refl _) _)
        obtain ⟨⟨y0, y1, y2⟩, u0, u1, u2⟩ := three_cells x1
        clear hV hk0 hk h64 h8 x1 x2 hj h4 h5
        go_wp2_with fail
        with_reducible refine (delete8_any _ xs j (S + 1 + 1) w5 HO5.out HLT.out).mono ?_
        rintro e w7 ⟨⟨v5, rfl, ho⟩, hb⟩
        obtain ⟨a5, c5, hvf⟩ := ho.frame
        obtain ⟨n5, hn5⟩ : ∃ n5, (xs.take j ++ xs.drop (j + 1)).length = n5 := ⟨_, rfl⟩
        rw [hn5] at hvf
        subst hvf
        have h6 : w7.heap[S]? = some (.cells #[.slice av n cv, .int .i64 j, .string ⟨#[]⟩] 33 (0, 0)) := by rw [hb.block S (by omega)]; exact X1.out
        have h7 : w7.heap[S + 1]? = some (.cells #[.slice none 0 0, .int .i64 0, .string ⟨#[]⟩] 33 (0, 0)) := by rw [hb.block (S + 1) (by omega)]; exact X2.out
        obtain ⟨⟨s0, _, _⟩, t0, _, _⟩ := three_cells h6
        have h8 : (w7.setCell ⟨S, 0, none⟩ (.slice a5 n5 c5)).heap[S]? = some (.cells #[.slice a5 n5 c5, .int .i64 j, .string ⟨#[]⟩] 33 (0, 0)) := heap_setCell_same w7 S 0 _ _ _ h6
        have h9 : (w7.setCell ⟨S, 0, none⟩ (.slice a5 n5 c5)).heap[S + 1]? = some (.cells #[.slice none 0 0, .int .i64 0, .string ⟨#[]⟩] 33 (0, 0)) := by rw [Below.heap_setCell _ _ _ _ (show S + 1 ≠ S by omega)]; exact h7
        obtain ⟨w6, hw6⟩ : ∃ w6, w7.setCell ⟨S, 0, none⟩ (.slice a5 n5 c5) = w6 := ⟨_, rfl⟩
        rw [hw6] at h8 h9
        have H8 := Lib.hid h8
        have H9 := Lib.hid h9
        have HO6 := Lib.hid (show OwnG itemE 106 (S + 1 + 1) (.slice a5 n5 c5) (xs.take j ++ xs.drop (j + 1)) w6 by rw [← hw6]; exact own_set ho S (by omega) 0 _)
        have HB6 := Lib.hid (show Below S w w6 by rw [← hw6]; exact (HB5.out.trans (hb.mono (by omega))).setCell (p := ⟨S, 0, none⟩) (Nat.le_refl _) _)
        clear ho hb h6 h7 h8 h9 q0 q1 q2 e0 e1 e2 y0 y1 y2 u0 u1 u2
        obtain ⟨⟨q0, q1, q2⟩, e0, e1, e2⟩ := three_cells H8.out
        obtain ⟨⟨m0, m1, m2⟩, g0, g1, g2⟩ := three_cells H9.out
        have HR := Lib.hid (three_set H9.out (.slice a5 n5 c5) (.int .i64 j) (.string ⟨#[]⟩))
        have HOE := Lib.hid (three_own HO6.out (show S + 1 < S + 1 + 1 by omega) (.slice a5 n5 c5) (.int .i64 j) (.string ⟨#[]⟩))
        have HBE := Lib.hid (three_below HB6.out (show S ≤ S + 1 by omega) (.slice a5 n5 c5) (.int .i64 j) (.string ⟨#[]⟩))
        go_wp2_with fail
        (try simp only [Exit.inBlock, Exit.then])
        refine bodyPost_ret (results_cell_row rfl _ _ (S + 1) 33 #[(.slice a5 n5 c5), .int .i64 j, .string ⟨#[]⟩] (0, 0) _ (by rfl) HR.out Tryz.underlying33 (by rfl) (by kernel_rfl)) rfl ?_
        rw [HD.out, HS.out]
        exact ⟨⟨_, by rw [HPB.out], HOE.out.lower (by omega)⟩, HBE.out⟩
    · obtain ⟨q, hq⟩ : ∃ q, pl.length = q + 1 := ⟨pl.length - 1, by have := List.length_pos_iff.2 hpe; omega⟩
      have hpz : p.size = q + 1 := by rw [HP.out.size, hq]
      have hpn : ¬ p.toList = [] := by rw [HP.out.list]; exact hpe
      have hpb : (p.toList == []) = false := by rw [beq_eq_false_iff_ne]; exact hpn
      obtain ⟨P2, hP2⟩ : ∃ P2, p.extract 0 q = P2 := ⟨_, rfl⟩
      have HP2 := Eqq.mk (show P2 = ba (pl.take q) by rw [← hP2]; exact (HP.out.upto q).ba)
      have HD := Eqq.mk (show Cp.back ⟨xs, (k : Int), pl⟩ = ⟨xs, (k : Int), pl.take q⟩ by
        unfold Cp.back
        rw [if_pos hV, if_neg hpe]
        show Cp.Buf.mk xs (k : Int) (pl.take (pl.length - 1)) = _
        rw [hq]
        rfl)
      have hq7 : q ≤ 7 := by omega
      have x1 : (w4.setCell ⟨S, 2, none⟩ (.string P2)).heap[S]? = some (.cells #[.slice av n cv, .int .i64 k, .string P2] 33 (0, 0)) := heap_setCell_same w4 S 2 _ _ _ H4.out
      have x2 : (w4.setCell ⟨S, 2, none⟩ (.string P2)).heap[S + 1]? = some (.cells #[.slice none 0 0, .int .i64 0, .string ⟨#[]⟩] 33 (0, 0)) := by rw [Below.heap_setCell _ _ _ _ (show S + 1 ≠ S by omega)]; exact H5.out
      obtain ⟨w5, hw5⟩ : ∃ w5, w4.setCell ⟨S, 2, none⟩ (.string P2) = w5 := ⟨_, rfl⟩
      rw [hw5] at x1 x2
      have X1 := Lib.hid x1
      have X2 := Lib.hid x2
      have HO5 := Lib.hid (show OwnG itemE 106 (S + 1 + 1) (.slice av n cv) xs w5 by rw [← hw5]; exact own_set HO4.out S (by omega) 2 _)
      have HB5 := Lib.hid (show Below S w w5 by rw [← hw5]; exact HB4.out.setCell (p := ⟨S, 2, none⟩) (Nat.le_refl _) _)
      obtain ⟨⟨y0, y1, y2⟩, u0, u1, u2⟩ := three_cells x1
      clear hV hk h64 h8 x1 x2 h4 h5 hpe hq
      obtain ⟨⟨m0, m1, m2⟩, g0, g1, g2⟩ := three_cells X2.out
      have HR := Lib.hid (three_set X2.out (.slice av n cv) (.int .i64 k) (.string P2))
      have HOE := Lib.hid (three_own HO5.out (show S + 1 < S + 1 + 1 by omega) (.slice av n cv) (.int .i64 k) (.string P2))
      have HBE := Lib.hid (three_below HB5.out (show S ≤ S + 1 by omega) (.slice av n cv) (.int .i64 k) (.string P2))
      go_wp2_with fail
      (try simp only [Exit.inBlock, Exit.then])
      refine bodyPost_ret (results_cell_row rfl _ _ (S + 1) 33 #[(.slice av n cv), .int .i64 k, .string P2] (0, 0) _ (by rfl) HR.out Tryz.underlying33 (by rfl) (by kernel_rfl)) rfl ?_
      rw [HD.out, HS.out]
      exact ⟨⟨_, by rw [HP2.out], HOE.out.lower (by omega)⟩, HBE.out⟩
end Go.Proofs.YtgdcffahhpeibaaGreatDoor
namespace Go.Proofs.YtgdcffahhpeibaaGreatDoor
open Go.RowKit
namespace Cp
def move (b : Buf) (z : Int) : Buf := if valid b = true ∧ b.pend = [] then { b with caret := min (max (b.caret + min (max z (-64)) 64) 0) (b.items.length : Int) } else b
end Cp
set_option maxRecDepth 100000 in
set_option maxHeartbeats 16000000 in
theorem pmove_any (v : Value) (xs : List Cp.Item) (c : Int) (p : ByteArray) (pl : List UInt8) (w : World) (h : LieG itemE v xs w) (hp : Is p pl) (hf : Fits xs pl) (ht : Tabs w) (z : Int) :
    Calls Tryz.prog 32 #[bufV v c p, .int .i64 z] w fun e w' => BufR w.heap.size (Cp.move ⟨xs, c, pl⟩ z) e w' ∧ Below w.heap.size w w' := by
  have HP := Lib.hid hp
  have HF := Lib.hid hf
  have HPB := Eqq.mk hp.ba
  obtain ⟨S, hS⟩ : ∃ S, w.heap.size = S := ⟨_, rfl⟩
  have HS := Eqq.mk hS
  obtain ⟨W0, hW0⟩ : ∃ W0, (w.alloc (.cells #[v, .int .i64 c, .string p] 33)).alloc (.cells #[.slice none 0 0, .int .i64 0, .string ⟨#[]⟩] 33) = W0 := ⟨_, rfl⟩
  have hb0 : Below S w W0 := by rw [← hW0]; exact ((Below.refl S w).alloc (by omega) _).alloc (by simp; omega) _
  have HB0 := Lib.hid hb0
  have h0 : W0.heap[S]? = some (.cells #[v, .int .i64 c, .string p] 33 (0, 0)) := by
    rw [← hW0, Lib.alloc_old _ _ _ (by rw [World.size_alloc]; omega), ← hS]; exact (MapKept.heap_alloc w _).1
  have h1 : W0.heap[S + 1]? = some (.cells #[.slice none 0 0, .int .i64 0, .string ⟨#[]⟩] 33 (0, 0)) := by
    have := (MapKept.heap_alloc (w.alloc (.cells #[v, .int .i64 c, .string p] 33)) (.cells #[.slice none 0 0, .int .i64 0, .string ⟨#[]⟩] 33)).1
    rw [World.size_alloc, hS, hW0] at this; exact this
  have hsz : W0.heap.size = S + 1 + 1 := by rw [← hW0, World.size_alloc, World.size_alloc, hS]
  have HSZ := Lib.hid hsz
  have H0 := Lib.hid h0
  have H1 := Lib.hid h1
  have HL := Lib.hid (h.below hb0 (by omega))
  have HT := Lib.hid (fun (W : World) (hW : Below S w W) => ht.keep (show Below w.heap.size w W by rw [hS]; exact hW))
  have HW := Eqq.mk hW0
  obtain ⟨⟨c0, c1, c2⟩, _⟩ := three_cells h0
  have hn := hf.n
  clear h h0 h1 hsz hb0 hW0 hp hf ht
  go_enter Tryz.func32, Tryz.ntmps32
  go_wp2_with fail
  try rw [hS]
  rw [HW.out]
  with_reducible refine (copy8_any v xs c p W0 HL.out hn).mono ?_
  rw [HSZ.out]
  rintro e w2 ⟨⟨v', rfl, ho⟩, hb⟩
  obtain ⟨av, cv, rfl⟩ := ho.frame
  have HO2 := Lib.hid ho
  have HB2 := Lib.hid hb
  have h0 : w2.heap[S]? = some (.cells #[v, .int .i64 c, .string p] 33 (0, 0)) := by rw [hb.block S (by omega)]; exact H0.out
  have h1 : w2.heap[S + 1]? = some (.cells #[.slice none 0 0, .int .i64 0, .string ⟨#[]⟩] 33 (0, 0)) := by rw [hb.block (S + 1) (by omega)]; exact H1.out
  obtain ⟨⟨k0, k1, k2⟩, f0, f1, f2⟩ := three_cells h0
  have h2 := three_set h0 (.slice av xs.length cv) (.int .i64 c) (.string p)
  have h3 := (three_other (w := w2) (b := S) (c := S + 1) (by omega) (.slice av xs.length cv) (.int .i64 c) (.string p)).trans h1
  obtain ⟨w3, hw3⟩ : ∃ w3, ((w2.setCell ⟨S, 0, none⟩ (.slice av xs.length cv)).setCell ⟨S, 1, none⟩ (.int .i64 c)).setCell ⟨S, 2, none⟩ (.string p) = w3 := ⟨_, rfl⟩
  have HW3 := Eqq.mk hw3
  rw [hw3] at h2 h3
  have HO3 := Lib.hid (show OwnG itemE 106 (S + 1 + 1) (.slice av xs.length cv) xs w3 by rw [← hw3]; exact three_own ho (by omega) _ _ _)
  have HB3 := Lib.hid (show Below S w w3 by rw [← hw3]; exact three_below (HB0.out.trans (hb.mono (by omega))) (Nat.le_refl _) _ _ _)
  have HT3 := Lib.hid (HT.out _ HB3.out)
  have H2 := Lib.hid h2
  have H3 := Lib.hid h3
  obtain ⟨⟨q0, q1, q2⟩, _⟩ := three_cells h2
  obtain ⟨n, hnn⟩ : ∃ n, xs.length = n := ⟨_, rfl⟩
  have HN := Eqq.mk hnn
  rw [hnn] at HW3 HO3 H2 q0 ⊢
  clear ho hb h0 h1 h2 h3 c0 c1 c2 hw3 hnn hn
  go_wp2_with fail
  try rw [HW3.out]
  with_reducible refine (check8_any _ xs c p pl w3 HO3.out.lie HP.out HF.out HT3.out).mono ?_
  rintro e w4 ⟨rfl, hb⟩
  have HO4 := Lib.hid (HO3.out.below hb (Nat.le_refl _))
  have HB4 := Lib.hid (HB3.out.trans (hb.mono (by have := HB3.out.size; rw [HS.out] at this; exact this)))
  have h4 : w4.heap[S]? = some (.cells #[.slice av n cv, .int .i64 c, .string p] 33 (0, 0)) := by rw [hb.block S (heap_lt H2.out)]; exact H2.out
  have h5 : w4.heap[S + 1]? = some (.cells #[.slice none 0 0, .int .i64 0, .string ⟨#[]⟩] 33 (0, 0)) := by rw [hb.block (S + 1) (heap_lt H3.out)]; exact H3.out
  have H4 := Lib.hid h4
  have H5 := Lib.hid h5
  clear hb q0 q1 q2 k0 k1 k2 f0 f1 f2
  obtain ⟨⟨q0, q1, q2⟩, e0, e1, e2⟩ := three_cells h4
  obtain ⟨V, hV⟩ : ∃ V, Cp.valid ⟨xs, c, pl⟩ = V := ⟨_, rfl⟩
  have HV := Eqq.mk hV
  rw [hV]
  cases V
  · have HD := Eqq.mk (show Cp.move ⟨xs, c, pl⟩ z = ⟨xs, c, pl⟩ by unfold Cp.move; rw [if_neg (by rw [hV]; simp)])
    rw [if_neg (show ¬ (false = true) by simp)]
    clear hV
    obtain ⟨⟨m0, m1, m2⟩, g0, g1, g2⟩ := three_cells H5.out
    have HR := Lib.hid (three_set H5.out (.slice av n cv) (.int .i64 c) (.string p))
    have HOE := Lib.hid (three_own HO4.out (show S + 1 < S + 1 + 1 by omega) (.slice av n cv) (.int .i64 c) (.string p))
    have HBE := Lib.hid (three_below HB4.out (show S ≤ S + 1 by omega) (.slice av n cv) (.int .i64 c) (.string p))
    go_wp2_with fail
    (try simp only [Exit.inBlock, Exit.then])
    refine bodyPost_ret (results_cell_row rfl _ _ (S + 1) 33 #[(.slice av n cv), .int .i64 c, .string p] (0, 0) _ (by rfl) HR.out Tryz.underlying33 (by rfl) (by kernel_rfl)) rfl ?_
    rw [HD.out, HS.out]
    exact ⟨⟨_, by rw [HPB.out], HOE.out.lower (by omega)⟩, HBE.out⟩
  · obtain ⟨h64, ⟨k, rfl, hk⟩, h8, _, _⟩ := valid_parts hV
    rw [if_pos rfl]
    rw [HN.out] at h64 hk
    by_cases hpe : pl = []
    · subst hpe
      obtain rfl : p = ⟨#[]⟩ := HP.out.eq (Is.mk [])
      have d3 : (n : Int) ≤ 64 := by omega
      have d4 : (k : Int) ≤ 64 := by omega
      have HD := Eqq.mk (show Cp.move ⟨xs, (k : Int), []⟩ z = ⟨xs, (min (max ((k : Int) + min (max z (-64)) 64) 0) (n : Int)), []⟩ by
        unfold Cp.move
        rw [if_pos ⟨hV, rfl⟩, ← HN.out])
      have x1 : (w4.setCell ⟨S, 1, none⟩ (.int .i64 (min (max ((k : Int) + min (max z (-64)) 64) 0) (n : Int)))).heap[S]? = some (.cells #[.slice av n cv, .int .i64 (min (max ((k : Int) + min (max z (-64)) 64) 0) (n : Int)), .string ⟨#[]⟩] 33 (0, 0)) := heap_setCell_same w4 S 1 _ _ _ H4.out
      have x2 : (w4.setCell ⟨S, 1, none⟩ (.int .i64 (min (max ((k : Int) + min (max z (-64)) 64) 0) (n : Int)))).heap[S + 1]? = some (.cells #[.slice none 0 0, .int .i64 0, .string ⟨#[]⟩] 33 (0, 0)) := by rw [Below.heap_setCell _ _ _ _ (show S + 1 ≠ S by omega)]; exact H5.out
      obtain ⟨w5, hw5⟩ : ∃ w5, w4.setCell ⟨S, 1, none⟩ (.int .i64 (min (max ((k : Int) + min (max z (-64)) 64) 0) (n : Int))) = w5 := ⟨_, rfl⟩
      rw [hw5] at x1 x2
      have X1 := Lib.hid x1
      have X2 := Lib.hid x2
      have HO5 := Lib.hid (show OwnG itemE 106 (S + 1 + 1) (.slice av n cv) xs w5 by rw [← hw5]; exact own_set HO4.out S (by omega) 1 _)
      have HB5 := Lib.hid (show Below S w w5 by rw [← hw5]; exact HB4.out.setCell (p := ⟨S, 1, none⟩) (Nat.le_refl _) _)
      obtain ⟨⟨y0, y1, y2⟩, u0, u1, u2⟩ := three_cells x1
      clear hV hk h64 h8 x1 x2 h4 h5
      obtain ⟨⟨m0, m1, m2⟩, g0, g1, g2⟩ := three_cells X2.out
      have HR := Lib.hid (three_set X2.out (.slice av n cv) (.int .i64 (min (max ((k : Int) + min (max z (-64)) 64) 0) (n : Int))) (.string ⟨#[]⟩))
      have HOE := Lib.hid (three_own HO5.out (show S + 1 < S + 1 + 1 by omega) (.slice av n cv) (.int .i64 (min (max ((k : Int) + min (max z (-64)) 64) 0) (n : Int))) (.string ⟨#[]⟩))
      have HBE := Lib.hid (three_below HB5.out (show S ≤ S + 1 by omega) (.slice av n cv) (.int .i64 (min (max ((k : Int) + min (max z (-64)) 64) 0) (n : Int))) (.string ⟨#[]⟩))
      go_wp2_with fail
      (try simp only [Exit.inBlock, Exit.then])
      refine bodyPost_ret (results_cell_row rfl _ _ (S + 1) 33 #[(.slice av n cv), .int .i64 (min (max ((k : Int) + min (max z (-64)) 64) 0) (n : Int)), .string ⟨#[]⟩] (0, 0) _ (by rfl) HR.out Tryz.underlying33 (by rfl) (by kernel_rfl)) rfl ?_
      rw [HD.out, HS.out]
      exact ⟨⟨_, by rw [HPB.out], HOE.out.lower (by omega)⟩, HBE.out⟩
    · have hpn : ¬ p.toList = [] := by rw [HP.out.list]; exact hpe
      have hpb : (p.toList == []) = false := by rw [beq_eq_false_iff_ne]; exact hpn
      have HD := Eqq.mk (show Cp.move ⟨xs, (k : Int), pl⟩ z = ⟨xs, (k : Int), pl⟩ by
        unfold Cp.move
        rw [if_neg (by rintro ⟨_, h⟩; exact hpe h)])
      clear hV hk h64 h8 hpe
      obtain ⟨⟨m0, m1, m2⟩, g0, g1, g2⟩ := three_cells H5.out
      have HR := Lib.hid (three_set H5.out (.slice av n cv) (.int .i64 k) (.string p))
      have HOE := Lib.hid (three_own HO4.out (show S + 1 < S + 1 + 1 by omega) (.slice av n cv) (.int .i64 k) (.string p))
      have HBE := Lib.hid (three_below HB4.out (show S ≤ S + 1 by omega) (.slice av n cv) (.int .i64 k) (.string p))
      go_wp2_with fail
      (try simp only [Exit.inBlock, Exit.then])
      refine bodyPost_ret (results_cell_row rfl _ _ (S + 1) 33 #[(.slice av n cv), .int .i64 k, .string p] (0, 0) _ (by rfl) HR.out Tryz.underlying33 (by rfl) (by kernel_rfl)) rfl ?_
      rw [HD.out, HS.out]
      exact ⟨⟨_, by rw [HPB.out], HOE.out.lower (by omega)⟩, HBE.out⟩
end Go.Proofs.YtgdcffahhpeibaaGreatDoor
namespace Go.Proofs.YtgdcffahhpeibaaGreatDoor
open Go.RowKit
set_option maxRecDepth 100000 in
theorem uvalid8_any (s : ByteArray) (l : List UInt8) (w : World) (h : Is s l) (hs : s.size ≤ 17592186044416) (ht : Tabs w) :
    Calls Tryz.prog 52 #[.string s] w fun e w' => e = .returned (.bool (Lib.validD l)) ∧ Below w.heap.size w w' := by
  have HI := Lib.hid h
  have HT := Lib.hid ht
  clear h ht
  go_enter Tryz.func52, Tryz.ntmps52
  go_wp2_with fail
  with_reducible refine (Tryz.utf8_ValidString s _ (by omega) HT.out.utf).mono ?_
  rw [HI.out.data]
  rintro e w2 ⟨rfl, hb⟩
  have HB := Lib.hid hb
  clear hb
  go_wp2_with fail
  go_ret
  exact ⟨rfl, HB.out⟩
end Go.Proofs.YtgdcffahhpeibaaGreatDoor
namespace Go.Proofs.YtgdcffahhpeibaaGreatDoor
open Go.RowKit
set_option maxRecDepth 100000 in
set_option maxHeartbeats 4000000 in
theorem rends_any (s t : ByteArray) (l m : List UInt8) (w : World) (hs : Is s l) (ht : Is t m) (hz : s.size ≤ 100000000) (hz2 : t.size ≤ 100000000) :
    Calls Tryz.prog 65 #[.string s, .string t] w fun e w' => e = .returned (.string (ba (Cp.ends l m))) ∧ w' = w := by
  have HI := Lib.hid hs
  have HJ := Lib.hid ht
  have e1 := hs.size
  have e2 := ht.size
  by_cases hle : t.size ≤ s.size
  · obtain ⟨d, hd⟩ : ∃ d, s.size = t.size + d := ⟨s.size - t.size, by omega⟩
    have g0 : (s.size : Int) - (t.size : Int) = (d : Int) := by omega
    have g1 : ¬ (s.size : Int) - (t.size : Int) < 0 := by omega
    have g2 : (d : Int) ≤ (s.size : Int) := by omega
    have g3 : d ≤ s.size := by omega
    have g4 : (0 : Int) ≤ (d : Int) := by omega
    have hdd : l.length - m.length = d := by omega
    have hml : m.length ≤ l.length := by omega
    obtain ⟨u, hu⟩ : ∃ u, s.extract d s.size = u := ⟨_, rfl⟩
    have HU := Lib.hid (show Is u (l.drop d) by rw [← hu]; exact hs.from d)
    by_cases hq : l.drop d = m
    · have hut : u = t := HU.out.eq (by rw [hq]; exact ht)
      obtain ⟨x, hx⟩ : ∃ x, s.extract 0 d = x := ⟨_, rfl⟩
      have HR := Eqq.mk (show x = ba (Cp.ends l m) by
        unfold Cp.ends
        rw [if_pos ⟨hml, by rw [hdd]; exact hq⟩, hdd, ← hx]
        exact (hs.upto d).ba)
      have hbq : (t.toList == t.toList) = true := by rw [beq_iff_eq]
      rw [hut] at hu
      clear hs ht e1 e2 hdd hml hq hut hd hle
      go_enter Tryz.func65, Tryz.ntmps65
      go_wp2_with fail
      go_ret
      exact ⟨by rw [HR.out]; rfl, rfl⟩
    · have hne : ¬ u.toList = t.toList := by rw [HU.out.list, ht.list]; exact hq
      have hbq : (u.toList == t.toList) = false := by rw [beq_eq_false_iff_ne]; exact hne
      have HR := Eqq.mk (show s = ba (Cp.ends l m) by
        unfold Cp.ends
        rw [if_neg (by rintro ⟨_, h⟩; rw [hdd] at h; exact hq h)]
        exact hs.ba)
      clear hs ht e1 e2 hdd hml hq hd hle
      go_enter Tryz.func65, Tryz.ntmps65
      go_wp2_with fail
      go_ret
      exact ⟨by rw [← HR.out]; rfl, rfl⟩
  · have g1 : (s.size : Int) - (t.size : Int) < 0 := by omega
    have HR := Eqq.mk (show s = ba (Cp.ends l m) by
      unfold Cp.ends
      rw [if_neg (by rintro ⟨h, _⟩; omega)]
      exact hs.ba)
    clear hs ht e1 e2 hle
    go_enter Tryz.func65, Tryz.ntmps65
    go_wp2_with fail
    go_ret
    exact ⟨by rw [← HR.out]; rfl, rfl⟩
end Go.Proofs.YtgdcffahhpeibaaGreatDoor
namespace Go.Proofs.YtgdcffahhpeibaaGreatDoor
open Go.RowKit
set_option maxRecDepth 100000 in
set_option maxHeartbeats 8000000 in
theorem rwithout_any (v : Value) (xs : List Cp.Item) (c z : Int) (p : ByteArray) (i : Nat) (w : World) (h : LieG itemE v xs w) (hi : i < xs.length) (hn : xs.length ≤ 64) :
    Calls Tryz.prog 72 #[bufV v c p, .int .i64 i, .int .i64 z] w fun e w' => (∃ v', e = .returned (bufV v' z p) ∧ OwnG itemE 111 w.heap.size v' (xs.take i ++ xs.drop (i + 1)) w') ∧ Below w.heap.size w w' := by
  obtain ⟨S, hS⟩ : ∃ S, w.heap.size = S := ⟨_, rfl⟩
  have HS := Eqq.mk hS
  obtain ⟨W0, hW0⟩ : ∃ W0, (w.alloc (.cells #[v, .int .i64 c, .string p] 42)).alloc (.cells #[.slice none 0 0, .int .i64 0, .string ⟨#[]⟩] 42) = W0 := ⟨_, rfl⟩
  have hb0 : Below S w W0 := by rw [← hW0]; exact ((Below.refl S w).alloc (by omega) _).alloc (by simp; omega) _
  have HB0 := Lib.hid hb0
  have h0 : W0.heap[S]? = some (.cells #[v, .int .i64 c, .string p] 42 (0, 0)) := by
    rw [← hW0, Lib.alloc_old _ _ _ (by rw [World.size_alloc]; omega), ← hS]; exact (MapKept.heap_alloc w _).1
  have h1 : W0.heap[S + 1]? = some (.cells #[.slice none 0 0, .int .i64 0, .string ⟨#[]⟩] 42 (0, 0)) := by
    have := (MapKept.heap_alloc (w.alloc (.cells #[v, .int .i64 c, .string p] 42)) (.cells #[.slice none 0 0, .int .i64 0, .string ⟨#[]⟩] 42)).1
    rw [World.size_alloc, hS, hW0] at this; exact this
  have hsz : W0.heap.size = S + 1 + 1 := by rw [← hW0, World.size_alloc, World.size_alloc, hS]
  have HSZ := Lib.hid hsz
  have H0 := Lib.hid h0
  have H1 := Lib.hid h1
  have HL := Lib.hid (h.below hb0 (by omega))
  have HW := Eqq.mk hW0
  obtain ⟨ao, cap, rfl, hcap, hno, hsp, _⟩ := h
  obtain ⟨n, hnn⟩ : ∃ n, xs.length = n := ⟨_, rfl⟩
  have HN := Eqq.mk hnn
  rw [hnn] at hcap hi hn HL H0 HW h0 ⊢
  cases ao with
  | none => have := hno rfl; omega
  | some ad =>
    obtain ⟨g, o, rfl⟩ := hsp ad rfl
    obtain ⟨⟨c0, c1, c2⟩, _⟩ := three_cells h0
    obtain ⟨J, hJ⟩ : ∃ J : Nat, i + 1 = J := ⟨_, rfl⟩
    have i1 : (i : Int) ≤ (n : Int) := by omega
    have i2 : (0 : Int) ≤ (i : Int) := by omega
    have i3 : (i : Int) ≤ (cap : Int) := by omega
    have i4 : (i : Int) + 1 = (J : Int) := by omega
    have i5 : (J : Int) ≤ (n : Int) := by omega
    have i6 : (J : Int) ≤ (cap : Int) := by omega
    have i7 : (n : Int) ≤ 64 := by omega
    have HTK := Lib.hid (HL.out.take (show i ≤ n by omega)).src
    have hlt : (xs.take i).length ≤ 64 := by rw [List.length_take]; omega
    clear h0 h1 hsz hb0 hW0 hnn hno hsp
    go_enter Tryz.func72, Tryz.ntmps72
    go_wp2_with (at_builtin; (try rw [HW.out]); refine wpList_append_g item8App _ rfl _ _ rfl (S + 1 + 1) _ [] rfl (OwnG.nil _ _ _) _ (xs.take i) rfl HTK.out (by unfold maxLen; simp only [List.length_nil]; omega) (by show (0 + _) * 32 ≤ _; omega) (by rw [HSZ.out]; exact Nat.le_refl _) ?_)
    intro v1 w1 ho1 hg1
    have ho1' : OwnG itemE 111 (S + 1 + 1) v1 (xs.take i) w1 := ho1
    obtain ⟨a1, q1, rfl⟩ := ho1'.frame
    have HO1 := Lib.hid ho1'
    have HB1 := Lib.hid ((Below.refl (S + 1 + 1) W0).grown hg1 (by rw [HSZ.out]; exact Nat.le_refl _) (fun k hk => by cases hk))
    have h0 : w1.heap[S]? = some (.cells #[.slice (some ⟨g, o, none⟩) n cap, .int .i64 c, .string p] 42 (0, 0)) := by rw [HB1.out.block S (by omega)]; exact H0.out
    have h1 : w1.heap[S + 1]? = some (.cells #[.slice none 0 0, .int .i64 0, .string ⟨#[]⟩] 42 (0, 0)) := by rw [HB1.out.block (S + 1) (by omega)]; exact H1.out
    obtain ⟨⟨r0, r1, r2⟩, _⟩ := three_cells h0
    have hdl : (xs.drop J).length ≤ 64 := by rw [List.length_drop, HN.out]; omega
    have hsz1 : S + 1 + 1 ≤ w1.heap.size := by have := HB1.out.size; rw [HSZ.out] at this; exact this
    have HX1 := Lib.hid h1
    clear ho1 ho1' hg1 h0 h1 c0 c1 c2
    have HJ := Eqq.mk hJ
    by_cases hc : cap = J
    · have hnJ : n ≤ J := by omega
      have HDR := Lib.hid ((lie_full HL.out (show J ≤ n by omega) hc).src.below HB1.out (by rw [HSZ.out]; exact Nat.le_refl _))
      have hc2 : J = cap := hc.symm
      clear hc hJ
      subst hc2
      go_wp2_with (at_builtin; refine wpList_append_g item8App _ rfl _ _ rfl (S + 1 + 1) _ (xs.take i) rfl HO1.out _ (xs.drop J) rfl HDR.out (by unfold maxLen; omega) (by show (_ + _) * 32 ≤ _; omega) hsz1 ?_)
      intro v2 w2 ho2 hg2
      have ho2' : OwnG itemE 111 (S + 1 + 1) v2 (xs.take i ++ xs.drop J) w2 := ho2
      obtain ⟨n2, hn2⟩ : ∃ n2, (xs.take i ++ xs.drop J).length = n2 := ⟨_, rfl⟩
      obtain ⟨a2, q2, hvf⟩ := ho2'.frame
      rw [hn2] at hvf
      subst hvf
      have HB2 := Lib.hid ((Below.refl (S + 1 + 1) w1).grown hg2 hsz1 (fun k hk => (HO1.out.block_lt k (by rw [List.length_take]; exact hk)).1))
      have h0 : w2.heap[S]? = some (.cells #[.slice (some ⟨g, o, none⟩) n J, .int .i64 c, .string p] 42 (0, 0)) := by rw [HB2.out.block S (by omega), HB1.out.block S (by omega)]; exact H0.out
      have h1 : w2.heap[S + 1]? = some (.cells #[.slice none 0 0, .int .i64 0, .string ⟨#[]⟩] 42 (0, 0)) := by rw [HB2.out.block (S + 1) (by omega)]; exact HX1.out
      obtain ⟨⟨y0, y1, y2⟩, _⟩ := three_cells h0
      obtain ⟨⟨m0, m1, m2⟩, g0, g1, g2⟩ := three_cells h1
      have HR := Lib.hid (three_set h1 (.slice a2 n2 q2) (.int .i64 z) (.string p))
      have HOE := Lib.hid (own_set (own_set (own_set ho2' (S + 1) (by omega) 0 (.slice a2 n2 q2)) (S + 1) (by omega) 1 (.int .i64 z)) (S + 1) (by omega) 2 (.string p))
      have HBE := Lib.hid (three_below (HB0.out.trans ((HB1.out.trans HB2.out).mono (show S ≤ S + 1 + 1 by omega))) (show S ≤ S + 1 by omega) (.slice a2 n2 q2) (.int .i64 z) (.string p))
      clear ho2 ho2' hg2 h0 h1 r0 r1 r2
      go_wp2_with fail
      (try simp only [Exit.inBlock, Exit.then])
      refine bodyPost_ret (results_cell_row rfl _ _ (S + 1) 42 #[.slice a2 n2 q2, .int .i64 z, .string p] (0, 0) _ (by rfl) HR.out Tryz.underlying42 (by rfl) (by kernel_rfl)) rfl ?_
      rw [HS.out, HJ.out]
      exact ⟨⟨_, rfl, HOE.out.lower (by omega)⟩, HBE.out⟩
    · have HDR := Lib.hid ((HL.out.drop (show J ≤ n by omega)).src.below HB1.out (by rw [HSZ.out]; exact Nat.le_refl _))
      have e1 : ¬ (cap : Int) - (J : Int) = 0 := by omega
      clear hJ
      go_wp2_with (at_builtin; refine wpList_append_g item8App _ rfl _ _ rfl (S + 1 + 1) _ (xs.take i) rfl HO1.out _ (xs.drop J) rfl HDR.out (by unfold maxLen; omega) (by show (_ + _) * 32 ≤ _; omega) hsz1 ?_)
      intro v2 w2 ho2 hg2
      have ho2' : OwnG itemE 111 (S + 1 + 1) v2 (xs.take i ++ xs.drop J) w2 := ho2
      obtain ⟨n2, hn2⟩ : ∃ n2, (xs.take i ++ xs.drop J).length = n2 := ⟨_, rfl⟩
      obtain ⟨a2, q2, hvf⟩ := ho2'.frame
      rw [hn2] at hvf
      subst hvf
      have HB2 := Lib.hid ((Below.refl (S + 1 + 1) w1).grown hg2 hsz1 (fun k hk => (HO1.out.block_lt k (by rw [List.length_take]; exact hk)).1))
      have h0 : w2.heap[S]? = some (.cells #[.slice (some ⟨g, o, none⟩) n cap, .int .i64 c, .string p] 42 (0, 0)) := by rw [HB2.out.block S (by omega), HB1.out.block S (by omega)]; exact H0.out
      have h1 : w2.heap[S + 1]? = some (.cells #[.slice none 0 0, .int .i64 0, .string ⟨#[]⟩] 42 (0, 0)) := by rw [HB2.out.block (S + 1) (by omega)]; exact HX1.out
      obtain ⟨⟨y0, y1, y2⟩, _⟩ := three_cells h0
      obtain ⟨⟨m0, m1, m2⟩, g0, g1, g2⟩ := three_cells h1
      have HR := Lib.hid (three_set h1 (.slice a2 n2 q2) (.int .i64 z) (.string p))
      have HOE := Lib.hid (own_set (own_set (own_set ho2' (S + 1) (by omega) 0 (.slice a2 n2 q2)) (S + 1) (by omega) 1 (.int .i64 z)) (S + 1) (by omega) 2 (.string p))
      have HBE := Lib.hid (three_below (HB0.out.trans ((HB1.out.trans HB2.out).mono (show S ≤ S + 1 + 1 by omega))) (show S ≤ S + 1 by omega) (.slice a2 n2 q2) (.int .i64 z) (.string p))
      clear ho2 ho2' hg2 h0 h1 r0 r1 r2
      go_wp2_with fail
      (try simp only [Exit.inBlock, Exit.then])
      refine bodyPost_ret (results_cell_row rfl _ _ (S + 1) 42 #[.slice a2 n2 q2, .int .i64 z, .string p] (0, 0) _ (by rfl) HR.out Tryz.underlying42 (by rfl) (by kernel_rfl)) rfl ?_
      rw [HS.out, HJ.out]
      exact ⟨⟨_, rfl, HOE.out.lower (by omega)⟩, HBE.out⟩
end Go.Proofs.YtgdcffahhpeibaaGreatDoor
