/-
  roman.Default$1 (it appends a rule to the variable), roman.Default$2 (the order of keys), cmp.Compare of strings, by their contracts. No condition but the list's own bound.
-/
import Derived.Test.YtgdcffahhpeibaaGreatDoorRuleG
import Derived.Test.YtgdcffahhpeibaaGreatDoorRoDefMath
import Derived.Test.YtgdcffahhpeibaaGreatDoorAuRef
namespace Go.Proofs.YtgdcffahhpeibaaGreatDoor
open Go.RowKit
/-- the variable in block b holds the rules xs -/
def DefIs (B b : Nat) (xs : List RuleB) (w : World) : Prop := B ≤ b ∧ ∃ v, w.heap[b]? = some (.cells #[v] 27 (0, 0)) ∧ OwnR 87 B v xs w
/-- all blocks but those of rules and of the variable stay -/
def Kept (w w' : World) : Prop := ∀ (c : Nat) (o : Obj), w.heap[c]? = some o → (∀ cs fz, o ≠ .cells cs 87 fz) → (∀ cs fz, o ≠ .cells cs 27 fz) → w'.heap[c]? = some o
theorem Kept.refl (w : World) : Kept w w := fun _ _ h _ _ => h
theorem Kept.trans {a b c : World} (h : Kept a b) (h' : Kept b c) : Kept a c := fun k o hk h1 h2 => h' k o (h k o hk h1 h2) h1 h2
theorem Kept.of_below {w w' : World} (h : Below w.heap.size w w') : Kept w w' := fun c o hc _ _ => by rw [h.block c (heap_lt hc)]; exact hc
theorem Kept.drew {w w' : World} (h : Kept w w') : Kept w w'.drew := h
theorem Kept.drewN {w w' : World} (h : Kept w w') (q : Nat) : Kept w (w'.drewN q) := h
theorem Kept.strs {w w' : World} {c : Nat} {cs : Array Value} {fz : Nat × Nat} (h : Kept w w') (hc : w.heap[c]? = some (.cells cs 9 fz)) : w'.heap[c]? = some (.cells cs 9 fz) :=
  h c _ hc (fun _ _ e => by injection e with _ e; exact absurd e (by decide)) (fun _ _ e => by injection e with _ e; exact absurd e (by decide))
theorem Kept.iter {w w' : World} {c : Nat} {s : ByteArray} {p : Nat} (h : Kept w w') (hc : w.heap[c]? = some (.stringIter s p)) : w'.heap[c]? = some (.stringIter s p) :=
  h c _ hc (fun _ _ e => by cases e) (fun _ _ e => by cases e)
theorem DefIs.below {B B2 b : Nat} {xs : List RuleB} {w w' : World} (h : DefIs B b xs w) (hb : Below B2 w w') (hB : w.heap.size ≤ B2) : DefIs B b xs w' := by
  obtain ⟨h1, v, h2, h3⟩ := h
  exact ⟨h1, v, by rw [hb.block b (Nat.lt_of_lt_of_le (heap_lt h2) hB)]; exact h2, h3.below hb hB⟩
theorem DefIs.keep {B b : Nat} {xs : List RuleB} {w w' : World} (h : DefIs B b xs w) (hb : Below w.heap.size w w') : DefIs B b xs w' := h.below hb (Nat.le_refl _)
theorem own_ne {T T2 : TypeId} {B b : Nat} {v : Value} {xs : List RuleB} {w : World} {cs : Array Value} {fr : Nat × Nat} (h : OwnR T B v xs w) (hv : w.heap[b]? = some (.cells cs T2 fr)) (hT : T2 ≠ T) : v.ownBlock ≠ some b := by
  obtain ⟨h1, ⟨rfl, _⟩ | ⟨g, cap, cur, rfl, hB', hg, r⟩⟩ := h
  · intro e; cases e
  · intro e
    injection e with e
    have e' : g = b := e
    rw [e', hv] at hg
    injection hg with hg
    injection hg with _ hg
    exact hT hg
theorem own_setCell {B b : Nat} {v : Value} {xs : List RuleB} {w : World} {cs : Array Value} {fr : Nat × Nat} (h : OwnR 87 B v xs w) (hv : w.heap[b]? = some (.cells cs 27 fr)) (u : Value) : OwnR 87 B v xs (w.setCell ⟨b, 0, none⟩ u) := by
  have hne := own_ne h hv (by decide)
  obtain ⟨h1, h2 | ⟨g, cap, cur, rfl, hB', hg, r⟩⟩ := h
  · exact ⟨h1, .inl h2⟩
  · refine ⟨h1, .inr ⟨g, cap, cur, rfl, hB', ?_, r⟩⟩
    rw [Below.heap_setCell _ _ _ _ (by intro he; exact hne (by simp [Value.ownBlock]; exact he))]
    exact hg
set_option maxRecDepth 100000 in
set_option maxHeartbeats 3200000 in
theorem add1_any (B b : Nat) (xs : List RuleB) (k o n : ByteArray) (w : World) (h : DefIs B b xs w) (hB : B ≤ w.heap.size) (hl : xs.length ≤ 1000) :
    Calls Tryz.prog 43 #[.string k, .string o, .string n, .pointer (some ⟨b, 0, none⟩)] w fun e w' => e = .returned (.tuple #[]) ∧ DefIs B b (xs ++ [(k, o, n)]) w' ∧ Below B w w' ∧ Kept w w' := by
  obtain ⟨hBo, v, hv, hx⟩ := h
  obtain ⟨ao, cap, rfl⟩ := hx.frame
  have hob := heap_lt hv
  have c0 : w.cell? ⟨b, 0, none⟩ = some (.slice ao xs.length cap) := by rw [Lib.cell_of_heap hv]; rfl
  have HV := Lib.hid hv
  have HX := Lib.hid hx
  have HX1 := Lib.hid (ownR_iff.1 (hx.alloc (.cells #[.string k, .string o, .string n] 87)))
  clear hv hx
  go_enter Tryz.func43, Tryz.ntmps43
  go_wp2_with (at_builtin; refine wpList_append_g ruleApp _ rfl _ _ rfl B _ xs rfl HX1.out _ [(k, o, n)] rfl (SrcG.one (fun jj u hu => new_cells w [.string k, .string o, .string n] _ jj u hu)) (by unfold maxLen; simp only [List.length_singleton]; omega) (by show (xs.length + 1) * 48 ≤ _; omega) (by simp; omega) ?_)
  intro v' w' ho hg
  obtain ⟨ao9, cap9, hv9⟩ := ho.frame
  rw [List.length_append, List.length_singleton] at hv9
  subst hv9
  have hne := own_ne HX.out HV.out (by decide)
  have h2 : w'.heap[b]? = some (.cells #[.slice ao xs.length cap] 27 (0, 0)) := by
    rw [hg.block b (by simp; omega) (Ne.symm hne), Lib.alloc_old _ _ _ (by omega)]
    exact HV.out
  have c2 : w'.cell? ⟨b, 0, none⟩ = some (.slice ao xs.length cap) := by rw [Lib.cell_of_heap h2]; rfl
  have f2 : w'.frozen? ⟨b, 0, none⟩ = false := Lib.frozen_of_heap h2 0
  have HO := Lib.hid ho
  have H2 := Lib.hid h2
  have HB := Lib.hid ((((Below.refl B w).alloc hB (.cells #[.string k, .string o, .string n] 87)).grown hg (by simp; omega) (fun c hc => (World.ownsRow.lt HX.out c hc).1)).setCell (p := ⟨b, 0, none⟩) hBo (.slice ao9 (xs.length + 1) cap9))
  have HK := Lib.hid (show Kept w (w'.setCell ⟨b, 0, none⟩ (.slice ao9 (xs.length + 1) cap9)) from fun c ob hc hr1 hr2 => by
    have hcb : c ≠ b := fun e => by rw [e, HV.out] at hc; injection hc with hc; exact hr2 _ _ hc.symm
    have hco : some c ≠ (Value.slice ao xs.length cap).ownBlock := fun e => by
      obtain ⟨_, ⟨hv9, _⟩ | ⟨g, cap', cur, hv9, _, hg9, _⟩⟩ := HX.out
      · rw [hv9] at e; cases e
      · rw [hv9] at e
        injection e with e
        rw [e, hg9] at hc
        injection hc with hc
        exact hr1 _ _ hc.symm
    rw [Below.heap_setCell _ _ _ _ hcb, hg.block c (by simp; have := heap_lt hc; omega) hco, Lib.alloc_old _ _ _ (heap_lt hc)]
    exact hc)
  clear ho hg h2
  go_wp2_with fail
  go_end0
  exact ⟨rfl, ⟨hBo, _, heap_setCell_same _ _ 0 _ _ _ H2.out, own_setCell (ownR_iff.2 HO.out) H2.out _⟩, HB.out, HK.out⟩
end Go.Proofs.YtgdcffahhpeibaaGreatDoor
