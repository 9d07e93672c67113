/-
  henkanlaw05.Few, Given, Taken and henkanref05.Same by their contracts. No condition but the lists' own bound.
-/
import Derived.Test.YtgdcffahhpeibaaDoorRoCheck
import Derived.StillTailTactics
import Derived.Laws.AppendOwn
import Derived.Deep.AppendLies
import Derived.Deep.RegionHeld3
import Derived.Laws.StructEq
namespace Go.Proofs.YtgdcffahhpeibaaDoor
open Go.RowKit
theorem infogiven_any : (Tryd.prog.info? 39).map (fun i => (i.zero, i.size, i.bytes)) = some (some (ruleV (⟨#[]⟩, ⟨#[]⟩, ⟨#[]⟩)), 3, 48) := by kernel_rfl
theorem infotaken_any : (Tryd.prog.info? 44).map (fun i => (i.zero, i.size, i.bytes)) = some (some (ruleV (⟨#[]⟩, ⟨#[]⟩, ⟨#[]⟩)), 3, 48) := by kernel_rfl
theorem take_snoc (xs : List RuleB) (k : Nat) (r : RuleB) (h : xs[k]? = some r) : xs.take (k + 1) = xs.take k ++ [r] := by
  have hk : k < xs.length := by
    rcases Nat.lt_or_ge k xs.length with h' | h'
    · exact h'
    · rw [List.getElem?_eq_none h'] at h; cases h
  rw [List.getElem?_eq_getElem hk] at h
  injection h with h
  rw [List.take_succ_eq_append_getElem hk, h]
set_option maxRecDepth 100000 in
theorem wpList_append_rule {T S : TypeId} (hS : Tryd.prog.underlying S = some (.slice T)) (hI : (Tryd.prog.info? T).map (fun i => (i.zero, i.size, i.bytes)) = some (some (ruleV (⟨#[]⟩, ⟨#[]⟩, ⟨#[]⟩)), 3, 48))
    {ops : Array Oper} {rest : List Oper} {o : Oper} {a : Act} {Q : Exit → Act → World → Prop} (w : World) (hgd : o.guard = none) (s x : Operand)
    (ho : o.op = .call { callee := .builtin .append, args := #[s, x], argTypes := #[S, S] }) (B : Nat) (v : Value) (xs : List RuleB) (hs : a.eval s = v) (hown : OwnR T B v xs w)
    (r : RuleB) (b : Nat) (hx : a.eval x = .slice (some ⟨b, 0, none⟩) 1 1) (c0 : w.cell? ⟨b, 0, none⟩ = some (.string r.1)) (c1 : w.cell? ⟨b, 1, none⟩ = some (.string r.2.1)) (c2 : w.cell? ⟨b, 2, none⟩ = some (.string r.2.2))
    (hbd : xs.length ≤ 1000000) (hB : B ≤ w.heap.size)
    (h : ∀ v' w', OwnR T B v' (xs ++ [r]) w' → w.grownBy w' v.ownBlock → wpList Tryd.prog ops Q rest (a.put o.dst v') w') : wpList Tryd.prog ops Q (o :: rest) a w := by
  obtain ⟨i0, hi, hz0, hz1, hz2⟩ := info_parts hI
  refine wpList_append_own w hgd s x S ho B T i0 (ruleV (⟨#[]⟩, ⟨#[]⟩, ⟨#[]⟩)) 3 48 hS hi hz0 hz1 hz2 rfl (by decide) v xs.length (cellsR xs) hs hown ⟨b, 0, none⟩ 1 1 (ruleC r) hx rfl (fun j u hu => ?_) (fun u hu => ?_) (by unfold maxLen; omega) (by omega) hB ?_
  · rw [Addr.add_lit, Nat.zero_add]
    rcases j with _ | _ | _ | j
    · rw [show (ruleC r)[0]? = some (.string r.1) from rfl] at hu; injection hu with hu; rw [← hu]; exact c0
    · rw [show (ruleC r)[0 + 1]? = some (.string r.2.1) from rfl] at hu; injection hu with hu; rw [← hu]; exact c1
    · rw [show (ruleC r)[0 + 1 + 1]? = some (.string r.2.2) from rfl] at hu; injection hu with hu; rw [← hu]; exact c2
    · rw [show (ruleC r)[j + 1 + 1 + 1]? = none from rfl] at hu; cases hu
  · unfold ruleC at hu
    simp only [List.mem_cons, List.not_mem_nil, or_false] at hu
    rcases hu with rfl | rfl | rfl <;> rfl
  · intro v' w' h1 h2 _
    exact h v' w' (OwnR.snoc h1) h2
set_option maxRecDepth 100000 in
theorem step_append_rule {T S : TypeId} (hS : Tryd.prog.underlying S = some (.slice T)) (hI : (Tryd.prog.info? T).map (fun i => (i.zero, i.size, i.bytes)) = some (some (ruleV (⟨#[]⟩, ⟨#[]⟩, ⟨#[]⟩)), 3, 48))
    {ops : Array Oper} {o : Oper} {a : Act} {K : Act → World → Prop} {Q : Exit → Act → World → Prop} {E : Prop} (w : World) (hgd : o.guard = none) (s x : Operand)
    (ho : o.op = .call { callee := .builtin .append, args := #[s, x], argTypes := #[S, S] }) (B : Nat) (v : Value) (xs : List RuleB) (hs : a.eval s = v) (hown : OwnR T B v xs w)
    (r : RuleB) (b : Nat) (hx : a.eval x = .slice (some ⟨b, 0, none⟩) 1 1) (c0 : w.cell? ⟨b, 0, none⟩ = some (.string r.1)) (c1 : w.cell? ⟨b, 1, none⟩ = some (.string r.2.1)) (c2 : w.cell? ⟨b, 2, none⟩ = some (.string r.2.2))
    (hbd : xs.length ≤ 1000000) (hB : B ≤ w.heap.size)
    (h : ∀ v' w', OwnR T B v' (xs ++ [r]) w' → w.grownBy w' v.ownBlock → K (a.put o.dst v') w') : if Region.wanted o (yielded ops a.tmps) = true then Oper.wp Tryd.prog o a w K Q else E := by
  have hw : Region.wanted o (yielded ops a.tmps) = true := by simp [Region.wanted, hgd]
  rw [if_pos hw]
  obtain ⟨i0, hi, hz0, hz1, hz2⟩ := info_parts hI
  refine wp_append_own w s x S ho B T i0 (ruleV (⟨#[]⟩, ⟨#[]⟩, ⟨#[]⟩)) 3 48 hS hi hz0 hz1 hz2 rfl (by decide) v xs.length (cellsR xs) hs hown ⟨b, 0, none⟩ 1 1 (ruleC r) hx rfl (fun j u hu => ?_) (fun u hu => ?_) (by unfold maxLen; omega) (by omega) hB ?_
  · rw [Addr.add_lit, Nat.zero_add]
    rcases j with _ | _ | _ | j
    · rw [show (ruleC r)[0]? = some (.string r.1) from rfl] at hu; injection hu with hu; rw [← hu]; exact c0
    · rw [show (ruleC r)[0 + 1]? = some (.string r.2.1) from rfl] at hu; injection hu with hu; rw [← hu]; exact c1
    · rw [show (ruleC r)[0 + 1 + 1]? = some (.string r.2.2) from rfl] at hu; injection hu with hu; rw [← hu]; exact c2
    · rw [show (ruleC r)[j + 1 + 1 + 1]? = none from rfl] at hu; cases hu
  · unfold ruleC at hu
    simp only [List.mem_cons, List.not_mem_nil, or_false] at hu
    rcases hu with rfl | rfl | rfl <;> rfl
  · intro v' w' h1 h2 _
    exact h v' w' (OwnR.snoc h1) h2
set_option maxRecDepth 100000 in
set_option maxHeartbeats 4000000 in
theorem taken_any (v : Value) (xs : List RuleB) (w : World) (h : LieR v xs w) (hn : xs.length ≤ 1000000) :
    Calls Tryd.prog 10 #[v] w fun e w' => ∃ v', e = .returned v' ∧ OwnR 44 w.heap.size v' xs w' ∧ Below w.heap.size w w' := by
  have hO0 := Lib.hid (OwnR.nil 44 w.heap.size w)
  obtain ⟨ao, cap, rfl, hcap, hx⟩ := h
  obtain ⟨n, hn2⟩ : ∃ n, xs.length = n := ⟨_, rfl⟩
  have HN := Eqq.mk hn2
  have HTK := Eqq.mk (show xs.take n = xs by rw [← hn2, List.take_length])
  rw [hn2] at hn ⊢
  have HX := Lib.hid hx
  clear hx hn2 hcap
  go_enter Tryd.func10, Tryd.ntmps10
  go_wp2_with fail
  go_loopw [3, 4] (fun ov iv wr => ∃ k : Nat, k ≤ n ∧ iv = .int .i64 k ∧ OwnR 44 w.heap.size ov (xs.take k) wr ∧ Below w.heap.size w wr) (fun _ iv _ => n - (intOf iv).toNat)
  case atStart => exact ⟨0, Nat.zero_le _, rfl, hO0.out, Below.refl _ _⟩
  case round =>
    obtain ⟨k, hk, rfl, ho, hb⟩ := hrel
    have HO := Lib.hid ho
    have HB := Lib.hid hb
    clear ho hb
    by_cases hlt : k < n
    · have hkl : k < xs.length := by rw [HN.out]; exact hlt
      obtain ⟨r, hr⟩ : ∃ r, xs[k]? = some r := ⟨_, List.getElem?_eq_getElem hkl⟩
      obtain ⟨g, o, rfl, d1, d2, d3⟩ := HX.out k r hr
      have c1 := below_cellU d1 HB.out (Nat.le_refl _)
      have c2 := below_cellU d2 HB.out (Nat.le_refl _)
      have c3 := below_cellU d3 HB.out (Nat.le_refl _)
      have HTS := Eqq.mk (take_snoc xs k r hr)
      have htl : (xs.take k).length ≤ 1000000 := by rw [List.length_take]; omega
      obtain ⟨r1, r2, r3⟩ := r
      dsimp only at c1 c2 c3
      have HKP := Lib.hid (fun (W : World) (hW : Below w.heap.size w W) => (show (W.cell? ⟨g, o + k * 3, none⟩ = some (.string r1) ∧ W.cell? ⟨g, o + k * 3 + 1, none⟩ = some (.string r2) ∧ W.cell? ⟨g, o + k * 3 + 2, none⟩ = some (.string r3)) ∧ Below w.heap.size w W from ⟨⟨below_cellU d1 hW (Nat.le_refl _), below_cellU d2 hW (Nat.le_refl _), below_cellU d3 hW (Nat.le_refl _)⟩, hW⟩))
      clear hr d1 d2 d3
      go_wp2_with fail
      go_region_held3 (fun W => (W.cell? ⟨g, o + k * 3, none⟩ = some (.string r1) ∧ W.cell? ⟨g, o + k * 3 + 1, none⟩ = some (.string r2) ∧ W.cell? ⟨g, o + k * 3 + 2, none⟩ = some (.string r3)) ∧ Below w.heap.size w W)
        (first | exact HKP.out _ HB.out | exact HKP.out _ HB.out.drew | exact HKP.out _ (HB.out.drew.alloc HB.out.size _) | exact HKP.out _ HB2.out)
        ((refine step_append_rule Tryd.underlying31 infotaken_any _ rfl _ _ (by rfl) w.heap.size _ _ (by rfl) ((HO.out.drewN 1).alloc _) (r1, r2, r3) _ (by rfl) (box3_0 _ _ _ _ _) (box3_1 _ _ _ _ _) (box3_2 _ _ _ _ _) htl (by have := HB.out.size; simp; omega) ?_
          intro v' w' ho' hg'
          have HO2 := Lib.hid ho'
          have HB2 := Lib.hid ((HB.out.drew.alloc HB.out.size _).grown hg' (by have := HB.out.size; simp; omega) (fun j hj => (World.ownsRow.lt HO.out j hj).1))
          clear ho' hg'))
      go_wp2_with fail
      go_roundw
      case rel => exact ⟨k + 1, by omega, by go_num, by rw [HTS.out]; exact HO2.out, HB2.out⟩
      case measure => simp [intOf]; omega
    · obtain rfl : k = n := by omega
      have HO3 := Lib.hid HO.out
      rw [HTK.out] at HO3
      go_wp2_with fail
      go_ret
      exact ⟨_, rfl, HO3.out, HB.out⟩
/-- every string of at most 100 bytes -/
def Few3 (xs : List RuleB) : Prop := ∀ r ∈ xs, r.1.size ≤ 100 ∧ r.2.1.size ≤ 100 ∧ r.2.2.size ≤ 100
/-- what Few answers -/
def FewR (xs : List RuleB) (e : Ending) : Prop := ∃ b, e = .returned (.bool b) ∧ (b = true → xs.length ≤ 200 ∧ Few3 xs)
theorem few_take (xs : List RuleB) (k : Nat) (r : RuleB) (h : xs[k]? = some r) (hf : Few3 (xs.take k)) (h1 : r.1.size ≤ 100) (h2 : r.2.1.size ≤ 100) (h3 : r.2.2.size ≤ 100) : Few3 (xs.take (k + 1)) := by
  intro x hx
  rw [take_snoc xs k r h] at hx
  rcases List.mem_append.1 hx with hx | hx
  · exact hf x hx
  · simp only [List.mem_cons, List.not_mem_nil, or_false] at hx
    subst hx
    exact ⟨h1, h2, h3⟩
end Go.Proofs.YtgdcffahhpeibaaDoor
