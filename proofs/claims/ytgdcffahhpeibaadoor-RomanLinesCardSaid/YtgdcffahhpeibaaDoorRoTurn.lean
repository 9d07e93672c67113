/-
  Parts of a list of rules, appended to a list of the call's own. No condition.
-/
import Derived.Test.YtgdcffahhpeibaaDoorRoRPrint
import Derived.Deep.Slices
namespace Go.Proofs.YtgdcffahhpeibaaDoor
open Go.ChangeShapes Go.WideShapes Go.RowKit
/-- a list of rules that is read: nil, or cells -/
def SrcR (v : Value) (ys : List RuleB) (w : World) : Prop := (v = .slice none 0 0 ∧ ys = []) ∨ ∃ ad c, v = .slice (some ad) ys.length c ∧ ∀ (j : Nat) u, (cellsR ys)[j]? = some u → w.cell? (ad.add j) = some u
theorem cellsR_drop (xs : List RuleB) : ∀ k, cellsR (xs.drop k) = (cellsR xs).drop (k * 3)
  | 0 => by simp
  | k + 1 => by
    cases xs with
    | nil => simp [cellsR]
    | cons r xs =>
      rw [List.drop_succ_cons, cellsR_drop xs k]
      show _ = (ruleC r ++ cellsR xs).drop ((k + 1) * 3)
      rw [show (k + 1) * 3 = (ruleC r).length + k * 3 by show _ = 3 + _; omega, List.drop_append]
      simp
theorem cellsR_take (xs : List RuleB) (k j : Nat) (u : Value) (h : (cellsR (xs.take k))[j]? = some u) : (cellsR xs)[j]? = some u := by
  have e := cellsR_app (xs.take k) (xs.drop k)
  rw [List.take_append_drop] at e
  rw [e, List.getElem?_append_left]
  · exact h
  · rcases Nat.lt_or_ge j (cellsR (xs.take k)).length with h' | h'
    · exact h'
    · rw [List.getElem?_eq_none h'] at h; cases h
theorem SrcR.below {v : Value} {ys : List RuleB} {w w' : World} {B : Nat} (h : SrcR v ys w) (hb : Below B w w') (hB : w.heap.size ≤ B) : SrcR v ys w' := by
  rcases h with h | ⟨ad, c, hv, hc⟩
  · exact .inl h
  · refine .inr ⟨ad, c, hv, fun j u hu => ?_⟩
    have := hc j u hu
    exact (hb.cell (Nat.lt_of_lt_of_le (World.block_lt_of_cell? w _ this) hB)).trans this
/-- the cells of a list that lies at an address, one by one -/
theorem LieR.cells {g o n cap : Nat} {xs : List RuleB} {w : World} (h : LieR (.slice (some ⟨g, o, none⟩) n cap) xs w) (j : Nat) (u : Value) (hu : (cellsR xs)[j]? = some u) : w.cell? ⟨g, o + j, none⟩ = some u := by
  obtain ⟨ao, cap', hv, _, hx⟩ := h
  have hjl : j < (cellsR xs).length := by
    rcases Nat.lt_or_ge j (cellsR xs).length with h | h
    · exact h
    · rw [List.getElem?_eq_none h] at hu; cases hu
  rw [cellsR_len] at hjl
  obtain ⟨r, hr⟩ : ∃ r, xs[j / 3]? = some r := ⟨_, List.getElem?_eq_getElem (by omega)⟩
  obtain ⟨g', o', ha, c0, c1, c2⟩ := hx _ r hr
  injection hv with hv
  rw [← hv] at ha
  injection ha with ha
  injection ha with ha1 ha2
  subst ha1; subst ha2
  obtain ⟨e0, e1, e2⟩ := cellsR_at xs _ r hr
  have hj : j = j / 3 * 3 + j % 3 := by omega
  have h3 : j % 3 = 0 ∨ j % 3 = 1 ∨ j % 3 = 2 := by omega
  rcases h3 with h | h | h
  · rw [h, Nat.add_zero] at hj
    rw [hj] at hu ⊢
    rw [e0] at hu; injection hu with hu; rw [← hu]; exact c0
  · rw [h] at hj
    rw [hj] at hu ⊢
    rw [e1] at hu; injection hu with hu; rw [← hu, ← Nat.add_assoc]; exact c1
  · rw [h] at hj
    rw [hj] at hu ⊢
    rw [e2] at hu; injection hu with hu; rw [← hu, ← Nat.add_assoc]; exact c2
/-- a part from the start -/
theorem src_take {g o n cap k : Nat} {xs : List RuleB} {w : World} (h : LieR (.slice (some ⟨g, o, none⟩) n cap) xs w) (hn : xs.length = n) (hk : k ≤ n) : SrcR (.slice (some ⟨g, o, none⟩) k cap) (xs.take k) w := by
  refine .inr ⟨_, _, by rw [List.length_take, hn, Nat.min_eq_left hk], fun j u hu => ?_⟩
  have ha : (⟨g, o, none⟩ : Addr).add j = ⟨g, o + j, none⟩ := by
    unfold Addr.add
    split
    · rename_i e; rw [e]; rfl
    · rfl
  rw [ha]
  exact h.cells j u (cellsR_take xs k j u hu)
/-- a part to the end -/
theorem src_drop {g o n cap k c : Nat} {xs : List RuleB} {w : World} (h : LieR (.slice (some ⟨g, o, none⟩) n cap) xs w) (hn : xs.length = n) : SrcR (.slice (some ⟨g, o + k * 3, none⟩) (n - k) c) (xs.drop k) w := by
  refine .inr ⟨_, _, by rw [List.length_drop, hn], fun j u hu => ?_⟩
  have ha : (⟨g, o + k * 3, none⟩ : Addr).add j = ⟨g, o + k * 3 + j, none⟩ := by
    unfold Addr.add
    split
    · rename_i e; rw [e]; rfl
    · rfl
  rw [ha]
  rw [cellsR_drop, List.getElem?_drop] at hu
  have := h.cells (k * 3 + j) u hu
  rwa [← Nat.add_assoc] at this
theorem lie_drop {g o n cap k : Nat} {xs : List RuleB} {w : World} (h : LieR (.slice (some ⟨g, o, none⟩) n cap) xs w) (hn : xs.length = n) (hk : k ≤ n) : LieR (.slice (some ⟨g, o + k * 3, none⟩) (n - k) (cap - k)) (xs.drop k) w := by
  obtain ⟨ao, cap', hv, hc, hx⟩ := h
  injection hv with hv1 hv2 hv3
  subst hv3
  refine ⟨_, _, by rw [List.length_drop, hn], by rw [List.length_drop]; omega, fun j r hj => ?_⟩
  rw [List.getElem?_drop] at hj
  obtain ⟨g', o', ha, c0, c1, c2⟩ := hx _ r hj
  rw [← hv1] at ha
  injection ha with ha
  injection ha with ha1 ha2
  subst ha1; subst ha2
  refine ⟨_, _, rfl, ?_, ?_, ?_⟩
  · rw [show o + k * 3 + j * 3 = o + (k + j) * 3 by omega]; exact c0
  · rw [show o + k * 3 + j * 3 + 1 = o + (k + j) * 3 + 1 by omega]; exact c1
  · rw [show o + k * 3 + j * 3 + 2 = o + (k + j) * 3 + 2 by omega]; exact c2
theorem lie_take {g o n cap k : Nat} {xs : List RuleB} {w : World} (h : LieR (.slice (some ⟨g, o, none⟩) n cap) xs w) (hn : xs.length = n) (hk : k ≤ n) : LieR (.slice (some ⟨g, o, none⟩) k cap) (xs.take k) w := by
  obtain ⟨ao, cap', hv, hc, hx⟩ := h
  injection hv with hv1 hv2 hv3
  subst hv1; subst hv3
  exact LieR.take hx hn (by omega) k hk
/-- an empty list that was made -/
theorem OwnR.empty (T : TypeId) (B : Nat) (w : World) (hB : B ≤ w.heap.size) : OwnR T B (.slice (some ⟨w.heap.size, 0, none⟩) 0 0) [] (w.alloc (.cells #[] T)) := by
  refine ⟨rfl, .inr ⟨w.heap.size, 0, #[], rfl, hB, (MapKept.heap_alloc w _).1, Nat.le_refl _, by unfold maxLen; omega, rfl, rfl⟩⟩
set_option maxRecDepth 100000 in
theorem step_append_rules {T S : TypeId} (hS : Tryd.prog.underlying S = some (.slice T)) (hI : (Tryd.prog.info? T).map (fun i => (i.zero, i.size, i.bytes)) = some (some (ruleV (⟨#[]⟩, ⟨#[]⟩, ⟨#[]⟩)), 3, 48))
    {ops : Array Oper} {o : Oper} {a : Act} {K : Act → World → Prop} {Q : Exit → Act → World → Prop} {E : Prop} (w : World) (hgd : o.guard = none) (s x : Operand)
    (ho : o.op = .call { callee := .builtin .append, args := #[s, x], argTypes := #[S, S] }) (B : Nat) (v : Value) (xs : List RuleB) (hs : a.eval s = v) (hown : OwnR T B v xs w)
    (v2 : Value) (ys : List RuleB) (hx : a.eval x = v2) (hsrc : SrcR v2 ys w) (hbd : xs.length + ys.length ≤ 1000000) (hB : B ≤ w.heap.size)
    (h : ∀ v' w', OwnR T B v' (xs ++ ys) w' → (∀ W, Below B W w → Below B W w') → w.heap.size ≤ w'.heap.size → K (a.put o.dst v') w') : if Region.wanted o (yielded ops a.tmps) = true then Oper.wp Tryd.prog o a w K Q else E := by
  have hw : Region.wanted o (yielded ops a.tmps) = true := by simp [Region.wanted, hgd]
  rw [if_pos hw]
  obtain ⟨i0, hi, hz0, hz1, hz2⟩ := info_parts hI
  rcases hsrc with ⟨rfl, rfl⟩ | ⟨ad, c, rfl, hc⟩
  · have hrun := run_append_owned_none (P := Tryd.prog) (w := w) B S o.type T i0 3 hS hi v xs.length (cellsR xs) hown
    unfold Oper.wp
    simp [execOp, ho, resolve, invoke, builtin, hs, hx, hrun, Result.andThen]
    exact h v w (by rw [List.append_nil]; exact hown) (fun W hW => hW) (Nat.le_refl _)
  · refine wp_append_own w s x S ho B T i0 (ruleV (⟨#[]⟩, ⟨#[]⟩, ⟨#[]⟩)) 3 48 hS hi hz0 hz1 hz2 rfl (by decide) v xs.length (cellsR xs) hs hown ad ys.length c (cellsR ys) hx (cellsR_len ys) hc (fun u hu => ?_) (by unfold maxLen; omega) (by omega) hB ?_
    · unfold cellsR at hu
      obtain ⟨r, _, hu⟩ := List.mem_flatMap.1 hu
      unfold ruleC at hu
      simp only [List.mem_cons, List.not_mem_nil, or_false] at hu
      rcases hu with rfl | rfl | rfl <;> rfl
    · intro v' w' h1 h2 _
      refine h v' w' ?_ (fun W hW => hW.grown h2 hB (fun k hk => (World.ownsRow.lt hown k hk).1)) h2.size
      unfold OwnR
      rw [List.length_append, cellsR_app]
      exact h1
set_option maxRecDepth 100000 in
theorem open_shape {H : Type} {enc : TypeId × Value → H} {W : World} {base : Nat} {v : Value} {d : DataW H} {p : List MemPlace} (hval : Value.okWide Tryd.prog W .any base 31 v) (h : DataW.Trod enc Tryd.prog W 0 (fun _ => true) true 31 v d p) :
    v = .slice none 0 0 ∨ ∃ a n c, v = .slice (some a) n c := by
  obtain ⟨a1, len, cap, rfl⟩ := okWide_slice Tryd.underlying31 hval
  obtain ⟨fuel, hf⟩ := h
  rcases Go.Deep.open_slice Tryd.underlying31 hf with ⟨hcs, _⟩ | ⟨a, len', cap', m, n, D, Pl, hcs, _⟩
  · simp [Value.cells] at hcs
    obtain ⟨rfl, rfl, rfl⟩ := hcs
    exact .inl rfl
  · simp [Value.cells] at hcs
    obtain ⟨rfl, rfl, rfl⟩ := hcs
    exact .inr ⟨_, _, _, rfl⟩
end Go.Proofs.YtgdcffahhpeibaaDoor
