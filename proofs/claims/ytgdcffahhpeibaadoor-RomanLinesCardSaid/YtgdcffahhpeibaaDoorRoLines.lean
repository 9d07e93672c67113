/-
  henkanlaw05.lines and joined by their contracts. No condition but the strings' own bound.
-/
import Derived.Test.YtgdcffahhpeibaaDoorRoRParse
namespace Go.Proofs.YtgdcffahhpeibaaDoor
open Go.RowKit
set_option maxRecDepth 100000 in
set_option maxHeartbeats 4000000 in
theorem lines_any (s : ByteArray) (l : List UInt8) (w : World) (hs : Is s l) (hsz : s.size ≤ 1048576) :
    Calls Tryd.prog 6 #[.string s] w fun e w' => (∃ v ps, e = .returned v ∧ ps.map (·.data.toList) = Ro.pieces 10 l ∧ Strs w.heap.size v ps w') ∧ Below w.heap.size w w' := by
  have HS := Lib.hid hs
  have HZ := Eqq.mk hs.size
  obtain ⟨n, hn⟩ : ∃ n, s.size = n := ⟨_, rfl⟩
  have HN := Eqq.mk hn
  have hO := Lib.hid (Strs.nil w.heap.size w)
  have hll : l.length = n := by rw [← hn, hs.size]
  have HLL := Eqq.mk hll
  clear hs hll
  go_enter Tryd.func6, Tryd.ntmps6
  go_wp2_with fail
  go_loopw [3, 4, 5] (fun ov fv iv wr => ∃ (i fr : Nat) (ps : List ByteArray), fr ≤ i ∧ i ≤ n ∧ fv = .int .i64 fr ∧ iv = .int .i64 i ∧ ps.length ≤ fr ∧ Strs w.heap.size ov ps wr ∧ Eqq (ps.map (·.data.toList) ++ Ro.pieces 10 (l.drop fr)) (Ro.pieces 10 l) ∧ (∀ j, fr ≤ j → j < i → l[j]? ≠ some 10) ∧ Below w.heap.size w wr) (fun _ _ iv _ => n - (intOf iv).toNat)
  case atStart => exact ⟨0, 0, [], Nat.le_refl _, Nat.zero_le _, rfl, rfl, Nat.le_refl _, hO.out, ⟨rfl⟩, fun j h1 h2 => by omega, Below.refl _ _⟩
  case round =>
    obtain ⟨i, fr, ps, hfi, hin, rfl, rfl, hpl, ho, HE, hno, hb⟩ := hrel
    have HO := Lib.hid ho
    have HNO := Lib.hid hno
    have HB := Lib.hid hb
    clear ho hno hb
    by_cases hlt : i < n
    · have hlt' : i < s.size := by rw [hn]; exact hlt
      have hget := HS.out.get i hlt'
      obtain ⟨x, hx⟩ : ∃ x, s[i]'hlt' = x := ⟨_, rfl⟩
      rw [hx] at hget
      by_cases hxc : x = 10
      · have hc1 : ((x.toNat : Nat) : Int) = 10 := by rw [hxc]; rfl
        have HRN := Eqq.mk (Ro.run_next (l := l) (c := 10) (fr := fr) (i := i) (by rw [HLL.out]; exact hlt) hfi HNO.out (by rw [hget, hxc]))
        have hle : (fr : Int) ≤ (i : Int) := by omega
        have hf0 : (0 : Int) ≤ (fr : Int) := by omega
        have hil : (i : Int) ≤ (n : Int) := by omega
        have HIP := Lib.hid (HS.out.part fr i)
        obtain ⟨y, hy⟩ : ∃ y, s.extract fr i = y := ⟨_, rfl⟩
        rw [hy] at HIP
        clear hget hxc
        go_wp2_with (at_builtin; refine Strs.one _ rfl _ _ rfl w.heap.size _ _ rfl (World.ownsRow.alloc HO.out _) _ y rfl (cell_one_new _ _ _ 0 _ rfl) (by omega) (by have := HB.out.size; simp; omega) ?_)
        intro v' w' ho' hg'
        have HO2 := Lib.hid ho'
        have HB2 := Lib.hid ((HB.out.alloc HB.out.size _).grown hg' (by have := HB.out.size; simp; omega) (fun j hj => (World.ownsRow.lt HO.out j hj).1))
        clear ho' hg'
        go_wp2_with fail
        go_roundw
        case rel =>
          refine ⟨i + 1, i + 1, ps ++ [y], Nat.le_refl _, by omega, by go_num, by go_num, by rw [List.length_append, List.length_singleton]; omega, HO2.out, ⟨?_⟩, fun j h1 h2 => by omega, HB2.out⟩
          rw [← HE.out, HRN.out, List.map_append, List.append_assoc, show ([y].map (·.data.toList)) = [(l.drop fr).take (i - fr)] by rw [← HIP.out.data]; rfl]
          rfl
        case measure => simp [intOf]; omega
      · have hc1 : ¬ ((x.toNat : Nat) : Int) = 10 := by
          intro h
          exact hxc (UInt8.toNat_inj.1 (by rw [show (10 : UInt8).toNat = 10 from rfl]; omega))
        have HNX := Lib.hid (show ∀ j, fr ≤ j → j < i + 1 → l[j]? ≠ some 10 by
          intro j h1 h2
          rcases Nat.lt_or_ge j i with h | h
          · exact HNO.out j h1 h
          · obtain rfl : j = i := by omega
            rw [hget]; intro e; injection e with e; exact hxc e)
        clear hget hxc
        go_wp2_with fail
        go_roundw
        case rel => exact ⟨i + 1, fr, ps, by omega, by omega, rfl, by go_num, hpl, HO.out, HE, HNX.out, HB.out⟩
        case measure => simp [intOf]; omega
    · obtain rfl : i = n := by omega
      have HRL := Eqq.mk (Ro.run_last (l := l) (c := 10) (fr := fr) (by rw [HLL.out]; exact HNO.out))
      have hle : (fr : Int) ≤ (i : Int) := by omega
      have hf0 : (0 : Int) ≤ (fr : Int) := by omega
      have HIP := Lib.hid (HS.out.from fr)
      rw [hn] at HIP
      obtain ⟨y, hy⟩ : ∃ y, s.extract fr i = y := ⟨_, rfl⟩
      rw [hy] at HIP
      go_wp2_with (at_builtin; refine Strs.one _ rfl _ _ rfl w.heap.size _ _ rfl (World.ownsRow.alloc HO.out _) _ y rfl (cell_one_new _ _ _ 0 _ rfl) (by omega) (by have := HB.out.size; simp; omega) ?_)
      intro v' w' ho' hg'
      have HO2 := Lib.hid ho'
      have HB2 := Lib.hid ((HB.out.alloc HB.out.size _).grown hg' (by have := HB.out.size; simp; omega) (fun j hj => (World.ownsRow.lt HO.out j hj).1))
      clear ho' hg'
      go_wp2_with fail
      go_ret
      refine ⟨⟨_, ps ++ [y], rfl, ?_, HO2.out⟩, HB2.out⟩
      rw [← HE.out, HRL.out, List.map_append, show ([y].map (·.data.toList)) = [l.drop fr] by rw [← HIP.out.data]; rfl]
namespace Ro
open UT (Bs)
theorem joined_snoc : ∀ (A : List Bs) (x : Bs), A ≠ [] → joined (A ++ [x]) = joined A ++ 10 :: x
  | [], _, h => absurd rfl h
  | [a], x, _ => rfl
  | a :: b :: r, x, _ => by
    show a ++ 10 :: joined ((b :: r) ++ [x]) = _
    rw [joined_snoc (b :: r) x (by simp)]
    show _ = (a ++ 10 :: joined (b :: r)) ++ 10 :: x
    simp
theorem joined_len : ∀ (B A : List Bs), (joined A).length ≤ (joined (A ++ B)).length
  | [], A => by rw [List.append_nil]; exact Nat.le_refl _
  | b :: B, A => by
    have h1 : (joined A).length ≤ (joined (A ++ [b])).length := by
      by_cases h : A = []
      · subst h; simp [joined]
      · rw [joined_snoc A b h, List.length_append]; omega
    have h2 := joined_len B (A ++ [b])
    rw [List.append_assoc] at h2
    exact Nat.le_trans h1 h2
theorem joined_take (L : List Bs) (k : Nat) : (joined (L.take k)).length ≤ (joined L).length := by
  have := joined_len (L.drop k) (L.take k)
  rwa [List.take_append_drop] at this
end Ro
/-- the slice value v reads as the strings xs -/
def LieS (v : Value) (xs : List ByteArray) (w : World) : Prop := ∃ ao cap, v = .slice ao xs.length cap ∧ ∀ (k : Nat) x, xs[k]? = some x → ∃ g o, ao = some ⟨g, o, none⟩ ∧ w.cell? ⟨g, o + k, none⟩ = some (.string x)
theorem LieS.keep {v : Value} {xs : List ByteArray} {w w' : World} (h : LieS v xs w) (hb : Below w.heap.size w w') : LieS v xs w' := by
  obtain ⟨ao, cap, hv, hx⟩ := h
  exact ⟨ao, cap, hv, fun k x hk => let ⟨g, o, ha, hc⟩ := hx k x hk; ⟨g, o, ha, below_cellU hc hb (Nat.le_refl _)⟩⟩
theorem Strs.lieS {B : Nat} {v : Value} {xs : List ByteArray} {w : World} (h : Strs B v xs w) : LieS v xs w := by
  by_cases h0 : xs = []
  · subst h0
    obtain ⟨_, ⟨hv, _⟩ | ⟨g, cap, cur, hv, _⟩⟩ := h
    · exact ⟨none, 0, hv, fun k x hx => by simp at hx⟩
    · exact ⟨_, cap, hv, fun k x hx => by simp at hx⟩
  · obtain ⟨g, cap, hv, _, hx⟩ := h.spot h0
    exact ⟨_, cap, hv, fun k x hk => ⟨g, 0, rfl, by rw [Nat.zero_add]; exact hx k x hk⟩⟩
theorem map_take_snoc (xs : List ByteArray) (k : Nat) (x : ByteArray) (h : xs[k]? = some x) : (xs.take (k + 1)).map (·.data.toList) = (xs.take k).map (·.data.toList) ++ [x.data.toList] := by
  have hk : k < xs.length := by
    rcases Nat.lt_or_ge k xs.length with h' | h'
    · exact h'
    · rw [List.getElem?_eq_none h'] at h; cases h
  rw [List.getElem?_eq_getElem hk] at h
  injection h with h
  rw [List.take_succ_eq_append_getElem hk, List.map_append, h]
  rfl
set_option maxRecDepth 100000 in
set_option maxHeartbeats 4000000 in
theorem joined_any (v : Value) (xs : List ByteArray) (w : World) (h : LieS v xs w) (hz : (Ro.joined (xs.map (·.data.toList))).length ≤ 20000) (hn : xs.length ≤ 1000000) :
    Calls Tryd.prog 8 #[v] w fun e w' => (∃ t, Is t (Ro.joined (xs.map (·.data.toList))) ∧ e = .returned (.string t)) ∧ w = w' := by
  obtain ⟨ao, cap, rfl, hx⟩ := h
  have HX := Lib.hid hx
  obtain ⟨n, hnn⟩ : ∃ n, xs.length = n := ⟨_, rfl⟩
  have HN := Eqq.mk hnn
  have HZ := Lib.hid (show ∀ k, (Ro.joined ((xs.take k).map (·.data.toList))).length ≤ 20000 from fun k => by
    rw [List.map_take]
    exact Nat.le_trans (Ro.joined_take _ k) hz)
  rw [hnn] at hn ⊢
  clear hx hz hnn
  go_enter Tryd.func8, Tryd.ntmps8
  go_wp2_with fail
  go_loopw [3, 4] (fun sv iv wr => ∃ (k : Nat) (acc : ByteArray), k ≤ n ∧ iv = .int .i64 k ∧ sv = .string acc ∧ Is acc (Ro.joined ((xs.take k).map (·.data.toList))) ∧ wr = w) (fun _ iv _ => n - (intOf iv).toNat)
  case atStart => exact ⟨0, ⟨#[]⟩, Nat.zero_le _, rfl, rfl, Is.mk [], rfl⟩
  case round =>
    obtain ⟨k, acc, hk, rfl, rfl, hi, rfl⟩ := hrel
    have HI := Lib.hid hi
    have hacc : acc.size ≤ 20000 := by rw [hi.size]; exact HZ.out k
    clear hi
    by_cases hlt : k < n
    · obtain ⟨x, hx⟩ : ∃ x, xs[k]? = some x := ⟨_, List.getElem?_eq_getElem (by rw [HN.out]; exact hlt)⟩
      obtain ⟨g, o, rfl, c0⟩ := HX.out k x hx
      have hz1 := HZ.out (k + 1)
      rw [map_take_snoc xs k x hx] at hz1
      by_cases hk0 : k = 0
      · subst hk0
        have HJ := Eqq.mk (show Ro.joined ((xs.take (0 + 1)).map (·.data.toList)) = x.data.toList by rw [map_take_snoc xs 0 x hx]; rfl)
        have hxs : x.size ≤ 20000 := by
          rw [(Is.of x).size]
          exact hz1
        have ha0 : acc = ⟨#[]⟩ := HI.out.eq (Is.mk [])
        subst ha0
        rw [Nat.add_zero] at c0
        clear hx hz1
        go_wp2_with fail
        go_roundw
        case rel =>
          refine ⟨0 + 1, _, by omega, by go_num, rfl, ?_, by first | rfl | trivial⟩
          rw [HJ.out]
          unfold Is
          simp [ByteArray.data_append]
        case measure => simp [intOf]; omega
      · have hne : (xs.take k).map (·.data.toList) ≠ [] := by
          intro e
          have := congrArg List.length e
          rw [List.length_map, List.length_take, HN.out, List.length_nil] at this
          omega
        have HJ := Eqq.mk (show Ro.joined ((xs.take (k + 1)).map (·.data.toList)) = Ro.joined ((xs.take k).map (·.data.toList)) ++ 10 :: x.data.toList by rw [map_take_snoc xs k x hx, Ro.joined_snoc _ _ hne])
        have hxs : x.size ≤ 20000 := by
          rw [(Is.of x).size]
          rw [Ro.joined_snoc _ _ hne, List.length_append, List.length_cons] at hz1
          omega
        have hk1 : (0 : Int) < (k : Int) := by omega
        clear hx hz1 hne
        go_wp2_with fail
        go_roundw
        case rel =>
          refine ⟨k + 1, _, by omega, by go_num, rfl, ?_, by first | rfl | trivial⟩
          rw [HJ.out]
          have := HI.out
          unfold Is at this ⊢
          simp [ByteArray.data_append, this]
        case measure => simp [intOf]; omega
    · obtain rfl : k = n := by omega
      have HE := Eqq.mk (show (xs.take k).map (·.data.toList) = xs.map (·.data.toList) by rw [← HN.out, List.take_length])
      go_wp2_with fail
      go_ret
      exact ⟨⟨_, by rw [← HE.out]; exact HI.out, rfl⟩, rfl⟩
end Go.Proofs.YtgdcffahhpeibaaDoor
