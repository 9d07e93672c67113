/-
  A map that a call made, whatever its elements: what it holds, key by key; looked up, written, kept. No condition.
-/
import Derived.Test.YtgdcffahhpeibaaGreatDoorRBase
import Derived.WalkKit
import Derived.Maps.OwnSet
import Derived.Lib.Hide
namespace Go.Proofs.YtgdcffahhpeibaaGreatDoor
open Go.RowKit
open Go.Maps (Keyed)
/-- a value, read as itself -/
def heldR : Value → Option (DataW Value × List MemPlace) := fun v => some (.held v, [])
/-- block b is a map of n entries at most, with keys of type k, that holds what f says -/
def MapIs (P : Program) (k : TypeId) (b n : Nat) (f : Value → Option Value) (w : World) : Prop :=
  ∃ D : DataW Value, w.ownsMap P k heldR b n D ∧ ∀ key kl, keyOf P k key = some kl → Maps.has D kl = (f key).isSome ∧ ∀ v z, f key = some v → D.atKey kl z = .held v
theorem MapIs.made (P : Program) (k : TypeId) (w : World) : MapIs P k w.heap.size 0 (fun _ => none) (w.alloc (.map #[] 0)) :=
  ⟨.map [], World.ownsMap_made _ _ _ _, fun _ _ _ => ⟨rfl, fun _ _ h => by cases h⟩⟩
theorem MapIs.lt {P : Program} {k : TypeId} {b n : Nat} {f : Value → Option Value} {w : World} (h : MapIs P k b n f w) : b < w.heap.size := by
  obtain ⟨D, h1, _⟩ := h; exact h1.lt
theorem MapIs.mono {P : Program} {k : TypeId} {b n m : Nat} {f : Value → Option Value} {w : World} (h : MapIs P k b n f w) (hn : n ≤ m) : MapIs P k b m f w := by
  obtain ⟨D, h1, h2⟩ := h; exact ⟨D, h1.mono hn, h2⟩
theorem MapIs.congr {P : Program} {k : TypeId} {b n : Nat} {f g : Value → Option Value} {w : World} (h : MapIs P k b n f w) (hg : ∀ key kl, keyOf P k key = some kl → g key = f key) : MapIs P k b n g w := by
  obtain ⟨D, h1, h2⟩ := h
  exact ⟨D, h1, fun key kl hk => by rw [hg key kl hk]; exact h2 key kl hk⟩
theorem MapIs.block {P : Program} {k : TypeId} {b n : Nat} {f : Value → Option Value} {w w' : World} (h : MapIs P k b n f w) (hb : w'.heap[b]? = w.heap[b]?) : MapIs P k b n f w' := by
  obtain ⟨D, ⟨es, clock, h1, h2⟩, h3⟩ := h
  exact ⟨D, ⟨es, clock, hb.trans h1, h2⟩, h3⟩
theorem MapIs.below {P : Program} {k : TypeId} {b n B : Nat} {f : Value → Option Value} {w w' : World} (h : MapIs P k b n f w) (hb : Below B w w') (hB : b < B) : MapIs P k b n f w' := h.block (hb.block b hB)
theorem MapIs.keep {P : Program} {k : TypeId} {b n : Nat} {f : Value → Option Value} {w w' : World} (h : MapIs P k b n f w) (hb : Below w.heap.size w w') : MapIs P k b n f w' := h.below hb h.lt
theorem MapIs.grown {P : Program} {k : TypeId} {b n : Nat} {f : Value → Option Value} {w w' : World} {row : Option Nat} (h : MapIs P k b n f w) (hg : w.grownBy w' row) (hne : some b ≠ row) : MapIs P k b n f w' := h.block (hg.block b h.lt hne)
theorem MapIs.alloc {P : Program} {k : TypeId} {b n : Nat} {f : Value → Option Value} {w : World} (h : MapIs P k b n f w) (o : Obj) : MapIs P k b n f (w.alloc o) := h.grown (World.grownBy_alloc w o none) (by simp)
theorem MapIs.drewN {P : Program} {k : TypeId} {b n : Nat} {f : Value → Option Value} {w : World} (h : MapIs P k b n f w) (q : Nat) : MapIs P k b n f (w.drewN q) := h.block rfl
/-- m[k] -/
theorem MapIs.look {P : Program} {k b n : Nat} {f : Value → Option Value} {w : World} (h : MapIs P k b n f w) (K : Keyed P k) {t e : TypeId} (ht : P.underlying t = some (.map k e)) {z : Value} (hz : (zeroValue e).run P w = .ok z w) {key : Value} {kl : Lit} (hkey : keyOf P k key = some kl) :
    (Instr.lookup t (.map (some b)) key false).run P w = .ok ((f key).getD z) w := by
  obtain ⟨D, h1, h2⟩ := h
  obtain ⟨h3, h4⟩ := h2 key kl hkey
  obtain ⟨v, ps, hr, hv⟩ := h1.lookup (zd := .held z) (zp := []) K ht hz rfl hkey
  rw [hr]
  cases hf : f key with
  | none =>
    rw [hf] at h3
    rw [Maps.atKey_of_not_has h3] at hv
    injection hv with hv; injection hv with hv _; injection hv with hv
    rw [hv]; rfl
  | some x =>
    rw [h4 x _ hf] at hv
    injection hv with hv; injection hv with hv _; injection hv with hv
    rw [hv]; rfl
/-- v, ok := m[k] -/
theorem MapIs.look_ok {P : Program} {k b n : Nat} {f : Value → Option Value} {w : World} (h : MapIs P k b n f w) (K : Keyed P k) {t e : TypeId} (ht : P.underlying t = some (.map k e)) {z : Value} (hz : (zeroValue e).run P w = .ok z w) {key : Value} {kl : Lit} (hkey : keyOf P k key = some kl) :
    (Instr.lookup t (.map (some b)) key true).run P w = .ok (.tuple #[(f key).getD z, .bool (f key).isSome]) w := by
  obtain ⟨D, h1, h2⟩ := h
  obtain ⟨h3, h4⟩ := h2 key kl hkey
  obtain ⟨v, ps, hr, hv⟩ := h1.look_ok (zd := .held z) (zp := []) K ht hz rfl hkey
  rw [hr, h3]
  cases hf : f key with
  | none =>
    rw [hf] at h3
    rw [Maps.atKey_of_not_has h3] at hv
    injection hv with hv; injection hv with hv _; injection hv with hv
    rw [hv]; rfl
  | some x =>
    rw [h4 x _ hf] at hv
    injection hv with hv; injection hv with hv _; injection hv with hv
    rw [hv]; rfl
theorem wpList_look_is {P : Program} (w : World) {ops : Array Oper} {rest : List Oper} {o : Oper} {a : Act} {Q : Exit → Act → World → Prop}
    (hg : o.guard = none) (m x : Operand) (t : TypeId) (hop : o.op = Op.lookup t m x false) (k e : TypeId) (K : Keyed P k) (ht : P.underlying t = some (.map k e)) (z : Value) (hz : (zeroValue e).run P w = .ok z w) (b n : Nat) (f : Value → Option Value)
    (hm : a.eval m = .map (some b)) (hown : MapIs P k b n f w) (key : Value) (kl : Lit) (hx : a.eval x = key) (hkey : keyOf P k key = some kl)
    (hK : wpList P ops Q rest (a.put o.dst ((f key).getD z)) w) : wpList P ops Q (o :: rest) a w := by
  refine wpList_plain hg fun K' hK' => ?_
  have hrun := hown.look K ht hz hkey
  unfold Oper.wp
  simp [execOp, hop, hm, hx, hrun, Result.andThen]
  exact hK' _ _ hK
theorem wpList_look_ok_is {P : Program} (w : World) {ops : Array Oper} {rest : List Oper} {o : Oper} {a : Act} {Q : Exit → Act → World → Prop}
    (hg : o.guard = none) (m x : Operand) (t : TypeId) (hop : o.op = Op.lookup t m x true) (k e : TypeId) (K : Keyed P k) (ht : P.underlying t = some (.map k e)) (z : Value) (hz : (zeroValue e).run P w = .ok z w) (b n : Nat) (f : Value → Option Value)
    (hm : a.eval m = .map (some b)) (hown : MapIs P k b n f w) (key : Value) (kl : Lit) (hx : a.eval x = key) (hkey : keyOf P k key = some kl)
    (hK : wpList P ops Q rest (a.put o.dst (.tuple #[(f key).getD z, .bool (f key).isSome])) w) : wpList P ops Q (o :: rest) a w := by
  refine wpList_plain hg fun K' hK' => ?_
  have hrun := hown.look_ok K ht hz hkey
  unfold Oper.wp
  simp [execOp, hop, hm, hx, hrun, Result.andThen]
  exact hK' _ _ hK
/-- m[k] = v -/
theorem MapIs.put {P : Program} {k b n : Nat} {f g : Value → Option Value} {w : World} (h : MapIs P k b n f w) (K : Keyed P k) {t e : TypeId} (ht : P.underlying t = some (.map k e)) (hn : n < maxLen) {key val : Value} {kl : Lit} (hkey : keyOf P k key = some kl)
    (hg : g key = some val) (hg' : ∀ x, x ≠ key → g x = f x) : ∃ w', (Instr.mapUpdate t (.map (some b)) key val).run P w = .ok () w' ∧ MapIs P k b (n + 1) g w' ∧ w.grownBy w' (some b) := by
  obtain ⟨D, h1, h2⟩ := h
  obtain ⟨w', hr, h3, h4⟩ := h1.update (d := .held val) (ps := []) K ht hn hkey rfl
  refine ⟨w', hr, ⟨_, h3, fun key' kl' hk' => ?_⟩, h4⟩
  by_cases he : kl' = kl
  · subst he
    obtain rfl := K.inj hk' hkey
    rw [hg]
    exact ⟨Maps.has_put_same h1.isMap (K.key hkey) _, fun v z hv => by injection hv with hv; rw [← hv]; exact Maps.atKey_put_same h1.isMap (K.key hkey) _ _⟩
  · have hne : key' ≠ key := by rintro rfl; rw [hkey] at hk'; injection hk' with hk'; exact he hk'.symm
    rw [hg' _ hne, Maps.has_put_other he]
    exact ⟨(h2 key' kl' hk').1, fun v z hv => by rw [Maps.atKey_put_other he]; exact (h2 key' kl' hk').2 v z hv⟩
theorem wpList_put_is {P : Program} (w : World) {ops : Array Oper} {rest : List Oper} {o : Oper} {a : Act} {Q : Exit → Act → World → Prop}
    (hg : o.guard = none) (m x v : Operand) (t : TypeId) (hop : o.op = Op.mapUpdate t m x v) (k e : TypeId) (K : Keyed P k) (ht : P.underlying t = some (.map k e)) (b n : Nat) (f g : Value → Option Value)
    (hm : a.eval m = .map (some b)) (hown : MapIs P k b n f w) (hn : n < maxLen) (key val : Value) (kl : Lit) (hx : a.eval x = key) (hv : a.eval v = val) (hkey : keyOf P k key = some kl) (h1 : g key = some val) (h2 : ∀ x, x ≠ key → g x = f x)
    (hK : ∀ w', MapIs P k b (n + 1) g w' → w.grownBy w' (some b) → wpList P ops Q rest (a.put o.dst undef) w') : wpList P ops Q (o :: rest) a w := by
  refine wpList_plain hg fun K' hK' => ?_
  obtain ⟨w', hrun, r1, r2⟩ := hown.put K ht hn hkey h1 h2
  unfold Oper.wp
  simp [execOp, hop, hm, hx, hv, hrun, Result.andThen]
  exact hK' _ _ (hK w' r1 r2)
end Go.Proofs.YtgdcffahhpeibaaGreatDoor
