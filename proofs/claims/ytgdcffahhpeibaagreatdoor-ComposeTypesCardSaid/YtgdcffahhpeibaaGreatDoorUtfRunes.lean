/-
  A list of one-cell values that the call itself made and owns; henkanref01.Runes, Count by their contracts. No condition but the string's own bound.
-/
import Derived.Test.YtgdcffahhpeibaaGreatDoorUtfRef
import Derived.Test.YtgdcffahhpeibaaGreatDoorStrs
namespace Go.Proofs.YtgdcffahhpeibaaGreatDoor
open Go.RowKit
/-- the slice value v holds the cells cs of type T, in a block of the call's own (from B on), or is nil and holds none -/
def Own1 (T : TypeId) (B : Nat) (v : Value) (cs : List Value) (w : World) : Prop := w.ownsRow B T 1 v cs.length cs
theorem Own1.nil (T : TypeId) (B : Nat) (w : World) : Own1 T B (.slice none 0 0) [] w := World.ownsRow_nil _ _ _ _
theorem Own1.at {T : TypeId} {B : Nat} {v : Value} {cs : List Value} {w : World} (h : Own1 T B v cs w) (h0 : cs ≠ []) :
    ∃ g cap, v = .slice (some ⟨g, 0, none⟩) cs.length cap ∧ B ≤ g ∧ g < w.heap.size ∧ cs.length ≤ cap ∧ (∀ j x, cs[j]? = some x → w.cell? ⟨g, j, none⟩ = some x) ∧ (∀ j, w.frozen? ⟨g, j, none⟩ = false) ∧ ∃ cur, w.heap[g]? = some (.cells cur T (0, 0)) := by
  obtain ⟨h1, ⟨rfl, hn⟩ | ⟨g, cap, cur, rfl, hB, hg, hc, hm, hs, ht⟩⟩ := h
  · exact absurd (List.eq_nil_of_length_eq_zero hn) h0
  · refine ⟨g, cap, rfl, hB, heap_lt hg, hc, fun j x hx => ?_, fun j => Lib.frozen_of_heap hg j, cur, hg⟩
    rw [Lib.cell_of_heap hg]
    have h2 : (cur.toList.take (cs.length * 1))[j]? = some x := by rw [ht, hx]
    have hj : j < cs.length := by
      rcases Nat.lt_or_ge j cs.length with h' | h'
      · exact h'
      · rw [List.getElem?_eq_none h'] at hx; cases hx
    rw [List.getElem?_take, if_pos (by omega)] at h2
    rw [← h2, Array.getElem?_toList]
theorem Own1.frame {T : TypeId} {B : Nat} {v : Value} {cs : List Value} {w : World} (h : Own1 T B v cs w) : ∃ ao cap, v = .slice ao cs.length cap := by
  obtain ⟨_, ⟨hv, hn⟩ | ⟨g, cap, cur, hv, _⟩⟩ := h
  · exact ⟨none, 0, by rw [hv, hn]⟩
  · exact ⟨_, _, hv⟩
theorem Own1.drewN {T : TypeId} {B : Nat} {v : Value} {cs : List Value} {w : World} (h : Own1 T B v cs w) (q : Nat) : Own1 T B v cs (w.drewN q) := h
theorem Own1.alloc {T : TypeId} {B : Nat} {v : Value} {cs : List Value} {w : World} (h : Own1 T B v cs w) (o : Obj) : Own1 T B v cs (w.alloc o) := World.ownsRow.alloc h o
theorem Own1.below {T : TypeId} {B B2 : Nat} {v : Value} {cs : List Value} {w w' : World} (h : Own1 T B v cs w) (hb : Below B2 w w') (hB : w.heap.size ≤ B2) : Own1 T B v cs w' := by
  obtain ⟨h1, h2 | ⟨g, cap, cur, hv, hB', hg, r⟩⟩ := h
  · exact ⟨h1, .inl h2⟩
  · exact ⟨h1, .inr ⟨g, cap, cur, hv, hB', by rw [hb.block g (Nat.lt_of_lt_of_le (heap_lt hg) hB)]; exact hg, r⟩⟩
theorem Own1.snoc {T : TypeId} {B : Nat} {v x : Value} {cs : List Value} {w : World} (h : w.ownsRow B T 1 v (cs.length + 1) (cs ++ [x])) : Own1 T B v (cs ++ [x]) w := by
  unfold Own1
  rw [List.length_append]
  exact h
theorem infoRune : (Tryz.prog.info? 21).map (fun i => (i.zero, i.size, i.bytes)) = some (some (.int .i32 0), 1, 4) := by kernel_rfl
def runeC (xs : List Nat) : List Value := xs.map fun (c : Nat) => Value.int .i32 (c : Int)
def RunesAt (B : Nat) (v : Value) (xs : List Nat) (w : World) : Prop := Own1 21 B v (runeC xs) w
/-- what Runes hands back -/
def RunesOf (l : List UInt8) (w : World) (e : Ending) (w' : World) : Prop :=
  Below w.heap.size w w' ∧ ((Lib.validD l = false ∧ e = .returned (.tuple #[.slice none 0 0, .bool false])) ∨ (Lib.validD l = true ∧ ∃ v, RunesAt w.heap.size v (UT.runes l) w' ∧ e = .returned (.tuple #[v, .bool true])))
set_option maxRecDepth 100000 in
set_option maxHeartbeats 2000000 in
theorem runes_any (s : ByteArray) (l : List UInt8) (w : World) (h : Is s l) (hs : s.size ≤ 17592186044416) :
    Calls Tryz.prog 41 #[.string s] w (RunesOf l w) := by
  have HI := Lib.hid h
  have hz := h.size
  clear h
  obtain ⟨i0, hi, hz0, hz1, hz2⟩ := info_parts infoRune
  go_enter Tryz.func41, Tryz.ntmps41
  go_wp2_with fail
  go_loopw [4, 5] (fun v av wr => ∃ (xs : List Nat) (pos : Nat), pos ≤ s.size ∧ av = .int .i64 pos ∧ RunesAt w.heap.size v xs wr ∧ xs.length ≤ pos ∧ Eqq (UT.runes l) (xs ++ UT.runes (l.drop pos)) ∧ Eqq (Lib.validD l) (Lib.validD (l.drop pos)) ∧ Below w.heap.size w wr) (fun _ av _ => s.size - (intOf av).toNat)
  case atStart => exact ⟨[], 0, Nat.zero_le _, rfl, Own1.nil _ _ _, Nat.le_refl _, ⟨rfl⟩, ⟨rfl⟩, Below.refl _ _⟩
  case round =>
    obtain ⟨xs, pos, hp, rfl, hx, hxp, HRU, HVA, hb⟩ := hrel
    have HB := Lib.hid hb
    have hsw := hb.size
    have hcl : (runeC xs).length = xs.length := by unfold runeC; rw [List.length_map]
    obtain ⟨ao, cap, rfl⟩ := hx.frame
    have hown : wr.ownsRow w.heap.size 21 1 _ (runeC xs).length (runeC xs) := hx
    have HX := Lib.hid hx
    clear hb hx
    by_cases hlt : pos < s.size
    · have hne : l.drop pos ≠ [] := by intro e; have := congrArg List.length e; rw [List.length_drop] at this; simp at this; omega
      have HNE := Lib.hid hne
      obtain ⟨r, n, hr⟩ : ∃ r n, UT.nextL (l.drop pos) = (r, n) := ⟨_, _, rfl⟩
      have HR := Eqq.mk hr
      clear hne hr
      go_wp2_with fail
      with_reducible refine (next_any s l pos _ HI.out hlt (by omega)).mono ?_
      rw [HR.out]
      rintro e w2 ⟨rfl, hb2⟩
      have HB2 := Lib.hid (HB.out.trans (hb2.mono HB.out.size))
      have hown2 := (Own1.below HX.out hb2 (Nat.le_refl _) : Own1 _ _ _ _ _)
      have HX2 := Lib.hid hown2
      have hs2 := hb2.size
      clear hb2 hown hown2
      dsimp only
      by_cases h0 : n = 0
      · have HF := Eqq.mk (UT.next_zero HNE.out (by rw [HR.out]; exact h0))
        have d0 : ((n : Int) == 0) = true := by rw [h0]; rfl
        clear h0
        go_wp2_with fail
        go_ret2
        exact ⟨HB2.out, .inl ⟨by rw [HVA.out, HF.out], rfl⟩⟩
      · obtain ⟨e1, e2⟩ := UT.next_pos HNE.out (by rw [HR.out]; exact h0)
        rw [HR.out] at e1
        have hw := Lib.decodeL_le (l.drop pos) HNE.out
        rw [← e1, List.length_drop] at hw
        dsimp only at hw
        have HRU2 : Eqq (UT.runes l) ((xs ++ [r]) ++ UT.runes (l.drop (pos + n))) := ⟨by
          rw [HRU.out, UT.runes_step HNE.out, ← e1, List.drop_drop, List.append_assoc]; rfl⟩
        have HVA2 : Eqq (Lib.validD l) (Lib.validD (l.drop (pos + n))) := ⟨by
          rw [HVA.out, UT.valid_step HNE.out, if_neg e2, ← e1, List.drop_drop]⟩
        have d0 : ((n : Int) == 0) = false := by simpa using h0
        have hpn : pos + n ≤ s.size := by omega
        have hn1 : 1 ≤ n := by omega
        clear h0 e1 e2 hw
        have hownA : (w2.alloc (.cells #[.int .i32 r] 21)).ownsRow w.heap.size 21 1 (.slice ao (runeC xs).length cap) (runeC xs).length (runeC xs) := HX2.out.alloc _
        go_wp2_with (at_builtin; refine wpList_append_own _ rfl _ _ 77 rfl w.heap.size 21 i0 (.int .i32 0) 1 4 Tryz.underlying77 hi hz0 hz1 hz2 rfl (by decide) _ _ _ rfl hownA ⟨w2.heap.size, 0, none⟩ 1 1 [.int .i32 r] rfl rfl ?c1 ?c2 ?c3 ?c4 ?c5 ?_)
        case c1 => exact cell_one_new _ _ _
        case c2 => intro u hu; simp at hu; subst hu; rfl
        case c3 => unfold maxLen; omega
        case c4 => omega
        case c5 => simp; omega
        intro v' w3 hown' hgrow _
        have hx3 : RunesAt w.heap.size v' (xs ++ [r]) w3 := by unfold RunesAt; have := Own1.snoc (cs := runeC xs) (by rw [hcl]; exact hown'); unfold runeC at this ⊢; rw [List.map_append]; exact this
        have hb3 : Below w.heap.size w w3 := (HB2.out.alloc HB2.out.size _).grown hgrow (by simp; omega) (fun k hk => (World.ownsRow.lt HX2.out k (by rw [hcl]; exact hk)).1)
        have HX3 := Lib.hid hx3
        have HB3 := Lib.hid hb3
        clear hx3 hb3 hown' hgrow hownA
        go_wp2_with fail
        go_roundw
        case rel => exact ⟨xs ++ [r], pos + n, hpn, by go_num, HX3.out, by rw [List.length_append]; show xs.length + 1 ≤ _; omega, HRU2, HVA2, HB3.out⟩
        case measure => simp [intOf]; omega
    · have hnil : l.drop pos = [] := List.drop_eq_nil_of_le (by omega)
      have HRU2 : Eqq xs (UT.runes l) := ⟨by rw [HRU.out, hnil, UT.runes_nil, List.append_nil]⟩
      have HVA2 : Eqq (Lib.validD l) true := ⟨by rw [HVA.out, hnil]; rfl⟩
      clear hnil
      go_wp2_with fail
      go_ret2
      exact ⟨HB.out, .inr ⟨HVA2.out, _, by rw [← HRU2.out]; exact HX.out, rfl⟩⟩
theorem count_any (s : ByteArray) (l : List UInt8) (w : World) (h : Is s l) (hs : s.size ≤ 17592186044416) :
    Calls Tryz.prog 12 #[.string s] w fun e w' => e = .returned (.int .i64 (if Lib.validD l = true then ((UT.runes l).length : Int) else -1)) ∧ Below w.heap.size w w' := by
  have HI := Lib.hid h
  clear h
  obtain ⟨R, hR⟩ : ∃ R, (if Lib.validD l = true then ((UT.runes l).length : Int) else -1) = R := ⟨_, rfl⟩
  have HR := Eqq.mk hR
  rw [hR]
  clear hR
  go_enter Tryz.func12, Tryz.ntmps12
  go_wp2_with fail
  with_reducible refine (runes_any s l _ HI.out hs).mono ?_
  rintro e w1 ⟨hb, ⟨hv, rfl⟩ | ⟨hv, v, hx, rfl⟩⟩
  · have HV := Eqq.mk hv
    have HB := Lib.hid hb
    clear hv hb
    go_wp2_with fail
    go_ret
    exact ⟨by rw [← HR.out, if_neg (by rw [HV.out]; simp)]; rfl, HB.out⟩
  · obtain ⟨ao, cap, rfl⟩ := hx.frame
    have hl : (runeC (UT.runes l)).length = (UT.runes l).length := by unfold runeC; rw [List.length_map]
    rw [hl]
    have HV := Eqq.mk hv
    have HB := Lib.hid hb
    clear hv hb hx hl
    go_wp2_with fail
    go_ret
    exact ⟨by rw [← HR.out, if_pos HV.out]; rfl, HB.out⟩
end Go.Proofs.YtgdcffahhpeibaaGreatDoor
