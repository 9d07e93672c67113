/-
  henkanref05.pieces by its contract. No condition but the string's own bound.
-/
import Derived.Test.YtbdekjfimojkbaaDoorRoRPrint
namespace Go.Proofs.YtbdekjfimojkbaaDoor
open Go.RowKit
namespace Ro
open UT (Bs)
theorem run_next {l : Bs} {c : UInt8} {fr i : Nat} (hi : i < l.length) (hf : fr ≤ i) (hno : ∀ j, fr ≤ j → j < i → l[j]? ≠ some c) (hc : l[i]? = some c) : pieces c (l.drop fr) = (l.drop fr).take (i - fr) :: pieces c (l.drop (i + 1)) := by
  have hd : l.drop fr = (l.drop fr).take (i - fr) ++ c :: l.drop (i + 1) := by
    conv => lhs; rw [← List.take_append_drop (i - fr) (l.drop fr), List.drop_drop]
    rw [show fr + (i - fr) = i by omega, List.drop_eq_getElem_cons hi]
    rw [List.getElem?_eq_getElem hi] at hc
    injection hc with hc
    rw [hc]
  rw [hd, pieces_app, ← hd]
  intro hm
  obtain ⟨j, hj⟩ := List.getElem?_of_mem hm
  rw [List.getElem?_take] at hj
  split at hj
  · rw [List.getElem?_drop] at hj
    exact hno (fr + j) (by omega) (by omega) hj
  · cases hj
theorem run_last {l : Bs} {c : UInt8} {fr : Nat} (hno : ∀ j, fr ≤ j → j < l.length → l[j]? ≠ some c) : pieces c (l.drop fr) = [l.drop fr] := by
  apply pieces_none
  intro hm
  obtain ⟨j, hj⟩ := List.getElem?_of_mem hm
  rw [List.getElem?_drop] at hj
  have hjl : fr + j < l.length := by
    rcases Nat.lt_or_ge (fr + j) l.length with h | h
    · exact h
    · rw [List.getElem?_eq_none h] at hj; cases hj
  exact hno (fr + j) (by omega) hjl hj
end Ro
theorem Is.part {t : ByteArray} {a : List UInt8} (h : Is t a) (i j : Nat) : Is (t.extract i j) ((a.drop i).take (j - i)) := by
  unfold Is at *
  rw [Lib.extract_data, h]
set_option maxRecDepth 100000 in
theorem Strs.one {ops : Array Oper} {rest : List Oper} {o : Oper} {a : Act} {Q : Exit → Act → World → Prop} (w : World) (hgd : o.guard = none) (s x : Operand)
    (ho : o.op = .call { callee := .builtin .append, args := #[s, x], argTypes := #[42, 42] }) (B : Nat) (v : Value) (xs : List ByteArray) (hs : a.eval s = v) (hown : Strs B v xs w)
    (b : Nat) (y : ByteArray) (hx : a.eval x = .slice (some ⟨b, 0, none⟩) 1 1) (c0 : w.cell? ⟨b, 0, none⟩ = some (.string y)) (hbd : xs.length ≤ 100000000) (hB : B ≤ w.heap.size)
    (h : ∀ v' w', Strs B v' (xs ++ [y]) w' → w.grownBy w' v.ownBlock → wpList Tryd.prog ops Q rest (a.put o.dst v') w') : wpList Tryd.prog ops Q (o :: rest) a w := by
  obtain ⟨i0, hi, hz0, hz1, hz2⟩ := info_parts infoStr
  refine wpList_append_own w hgd s x 42 ho B 9 i0 (.string ⟨#[]⟩) 1 16 Tryd.underlying42 hi hz0 hz1 hz2 rfl (by decide) v xs.length (xs.map Value.string) hs hown ⟨b, 0, none⟩ 1 1 [.string y] hx rfl (fun j u hu => ?_) (fun u hu => ?_) (by unfold maxLen; omega) (by omega) hB ?_
  · rw [Addr.add_lit, Nat.zero_add]
    cases j with
    | zero => injection hu with hu; subst hu; exact c0
    | succ j => cases hu
  · simp only [List.mem_cons, List.not_mem_nil, or_false] at hu
    subst hu; rfl
  · intro v' w' h1 h2 _
    refine h v' w' ?_ h2
    unfold Strs
    rw [List.length_append, List.map_append]
    exact h1
set_option maxRecDepth 100000 in
set_option maxHeartbeats 4000000 in
theorem rpieces_any (s : ByteArray) (l : List UInt8) (c : UInt8) (z : Int) (hz : z = (c.toNat : Int)) (w : World) (hs : Is s l) (hsz : s.size ≤ 1048576) :
    Calls Tryd.prog 34 #[.string s, .int .u8 z] w fun e w' => (∃ v ps, e = .returned v ∧ ps.map (·.data.toList) = Ro.pieces c l ∧ Strs w.heap.size v ps w') ∧ Below w.heap.size w w' := by
  have HS := Lib.hid hs
  have HZ := Eqq.mk hs.size
  have hz0 : 0 ≤ z := by omega
  have HCZ := Eqq.mk hz
  obtain ⟨n, hn⟩ : ∃ n, s.size = n := ⟨_, rfl⟩
  have HN := Eqq.mk hn
  have hO := Lib.hid (Strs.nil w.heap.size w)
  have hll : l.length = n := by rw [← hn, hs.size]
  have HLL := Eqq.mk hll
  clear hs hz hll
  go_enter Tryd.func34, Tryd.ntmps34
  go_wp2_with fail
  go_loopw [5, 6, 7] (fun ov fv iv wr => ∃ (i fr : Nat) (ps : List ByteArray), fr ≤ i ∧ i ≤ n ∧ fv = .int .i64 fr ∧ iv = .int .i64 i ∧ ps.length ≤ fr ∧ Strs w.heap.size ov ps wr ∧ Eqq (ps.map (·.data.toList) ++ Ro.pieces c (l.drop fr)) (Ro.pieces c l) ∧ (∀ j, fr ≤ j → j < i → l[j]? ≠ some c) ∧ Below w.heap.size w wr) (fun _ _ iv _ => n - (intOf iv).toNat)
  case atStart => exact ⟨0, 0, [], Nat.le_refl _, Nat.zero_le _, rfl, rfl, Nat.le_refl _, hO.out, ⟨rfl⟩, fun j h1 h2 => by omega, Below.refl _ _⟩
  case round =>
    obtain ⟨i, fr, ps, hfi, hin, rfl, rfl, hpl, ho, HE, hno, hb⟩ := hrel
    have HO := Lib.hid ho
    have HNO := Lib.hid hno
    have HB := Lib.hid hb
    clear ho hno hb
    by_cases hlt : i < n
    · have hlt' : i < s.size := by rw [hn]; exact hlt
      have hget := HS.out.get i hlt'
      obtain ⟨x, hx⟩ : ∃ x, s[i]'hlt' = x := ⟨_, rfl⟩
      rw [hx] at hget
      by_cases hxc : x = c
      · subst hxc
        have hc1 : ((x.toNat : Nat) : Int) = z := HCZ.out.symm
        have HRN := Eqq.mk (Ro.run_next (l := l) (c := x) (fr := fr) (i := i) (by rw [HLL.out]; exact hlt) hfi HNO.out hget)
        have hle : (fr : Int) ≤ (i : Int) := by omega
        have hf0 : (0 : Int) ≤ (fr : Int) := by omega
        have hil : (i : Int) ≤ (n : Int) := by omega
        have HIP := Lib.hid (HS.out.part fr i)
        obtain ⟨y, hy⟩ : ∃ y, s.extract fr i = y := ⟨_, rfl⟩
        rw [hy] at HIP
        clear hget
        go_wp2_with (at_builtin; refine Strs.one _ rfl _ _ rfl w.heap.size _ _ rfl (World.ownsRow.alloc HO.out _) _ y rfl (cell_one_new _ _ _ 0 _ rfl) (by omega) (by have := HB.out.size; simp; omega) ?_)
        intro v' w' ho' hg'
        have HO2 := Lib.hid ho'
        have HB2 := Lib.hid ((HB.out.alloc HB.out.size _).grown hg' (by have := HB.out.size; simp; omega) (fun j hj => (World.ownsRow.lt HO.out j hj).1))
        clear ho' hg'
        go_wp2_with fail
        go_roundw
        case rel =>
          refine ⟨i + 1, i + 1, ps ++ [y], Nat.le_refl _, by omega, by go_num, by go_num, by rw [List.length_append, List.length_singleton]; omega, HO2.out, ⟨?_⟩, fun j h1 h2 => by omega, HB2.out⟩
          rw [← HE.out, HRN.out, List.map_append, List.append_assoc, show ([y].map (·.data.toList)) = [(l.drop fr).take (i - fr)] by rw [← HIP.out.data]; rfl]
          rfl
        case measure => simp [intOf]; omega
      · have hc1 : ¬ ((x.toNat : Nat) : Int) = z := by
          intro h
          exact hxc (UInt8.toNat_inj.1 (by have := HCZ.out; omega))
        have HNX := Lib.hid (show ∀ j, fr ≤ j → j < i + 1 → l[j]? ≠ some c by
          intro j h1 h2
          rcases Nat.lt_or_ge j i with h | h
          · exact HNO.out j h1 h
          · obtain rfl : j = i := by omega
            rw [hget]; intro e; injection e with e; exact hxc e)
        clear hget hxc
        go_wp2_with fail
        go_roundw
        case rel => exact ⟨i + 1, fr, ps, by omega, by omega, rfl, by go_num, hpl, HO.out, HE, HNX.out, HB.out⟩
        case measure => simp [intOf]; omega
    · obtain rfl : i = n := by omega
      have HRL := Eqq.mk (Ro.run_last (l := l) (c := c) (fr := fr) (by rw [HLL.out]; exact HNO.out))
      have hle : (fr : Int) ≤ (i : Int) := by omega
      have hf0 : (0 : Int) ≤ (fr : Int) := by omega
      have HIP := Lib.hid (HS.out.from fr)
      rw [hn] at HIP
      obtain ⟨y, hy⟩ : ∃ y, s.extract fr i = y := ⟨_, rfl⟩
      rw [hy] at HIP
      go_wp2_with (at_builtin; refine Strs.one _ rfl _ _ rfl w.heap.size _ _ rfl (World.ownsRow.alloc HO.out _) _ y rfl (cell_one_new _ _ _ 0 _ rfl) (by omega) (by have := HB.out.size; simp; omega) ?_)
      intro v' w' ho' hg'
      have HO2 := Lib.hid ho'
      have HB2 := Lib.hid ((HB.out.alloc HB.out.size _).grown hg' (by have := HB.out.size; simp; omega) (fun j hj => (World.ownsRow.lt HO.out j hj).1))
      clear ho' hg'
      go_wp2_with fail
      go_ret
      refine ⟨⟨_, ps ++ [y], rfl, ?_, HO2.out⟩, HB2.out⟩
      rw [← HE.out, HRL.out, List.map_append, show ([y].map (·.data.toList)) = [l.drop fr] by rw [← HIP.out.data]; rfl]
end Go.Proofs.YtbdekjfimojkbaaDoor
