/-
  Maps of states: what they hold, ranging over them, one map copied into another. No condition.
-/
import Derived.Test.YtgdcffahhpeibaaGreatDoorAuAfter
import Derived.Maps.RangeWalk
import Derived.DeepKeys5
import Derived.Sort.Walk0
namespace Go.Proofs.YtgdcffahhpeibaaGreatDoor
open Go.RowKit
open Go.Maps (Keyed)
/-- a value as a state -/
def unSt : Value → Option Au.St
  | .agg a => match a.toList with
    | [.int .i64 n, .string t] => if 0 ≤ n then some (n.toNat, t.data.toList) else none
    | _ => none
  | _ => none
theorem unSt_stV (x : Au.St) : unSt (stV x) = some x := by
  unfold unSt stV
  simp
  rw [show (ba x.2).data.toList = x.2 from is_ba x.2]
theorem unSt_inv {v : Value} {x : Au.St} (h : unSt v = some x) : v = stV x := by
  unfold unSt at h
  split at h
  · rename_i a
    split at h
    · rename_i n t ha
      split at h
      · rename_i hn
        injection h with h
        subst h
        obtain ⟨a⟩ := a
        dsimp only at ha
        subst ha
        unfold stV
        dsimp only
        rw [show ((n.toNat : Nat) : Int) = n by omega, show ba t.data.toList = t from ((Is.of t).ba).symm]
      · cases h
    · cases h
  · cases h
theorem stV_inj {x y : Au.St} (h : stV x = stV y) : x = y := by
  have := unSt_stV x
  rw [h, unSt_stV] at this
  injection this with this
  exact this.symm
/-- what a map of states to keys holds -/
def stF (R : List Au.Ent) (v : Value) : Option Value := match unSt v with
  | some x => (Au.lookS R x).map fun k => .string (ba k)
  | none => none
theorem stF_get (R : List Au.Ent) (x : Au.St) : stF R (stV x) = (Au.lookS R x).map fun k => .string (ba k) := by
  unfold stF; rw [unSt_stV]
theorem stF_nil : stF [] = fun _ => none := by
  funext v
  unfold stF
  cases unSt v <;> rfl
theorem stF_some {R : List Au.Ent} {v u : Value} (h : stF R v = some u) : ∃ x k, v = stV x ∧ Au.lookS R x = some k ∧ u = .string (ba k) := by
  unfold stF at h
  cases hx : unSt v with
  | none => rw [hx] at h; cases h
  | some x =>
    rw [hx] at h
    dsimp only at h
    cases hl : Au.lookS R x with
    | none => rw [hl] at h; cases h
    | some k =>
      rw [hl] at h
      injection h with h
      exact ⟨x, k, unSt_inv hx, hl, h.symm⟩
theorem stF_new {R : List Au.Ent} {y : Au.St} {k : List UInt8} (h : Au.lookS R y = none) : stF (Au.ins R y k) (stV y) = some (.string (ba k)) ∧ ∀ v, v ≠ stV y → stF (Au.ins R y k) v = stF R v := by
  rw [Au.ins_absent h]
  constructor
  · rw [stF_get, Au.lookS_app, h]
    dsimp only
    rw [Au.lookS, if_pos rfl]; rfl
  · intro v hv
    unfold stF
    cases hx : unSt v with
    | none => rfl
    | some x =>
      dsimp only
      have hne : x ≠ y := by rintro rfl; exact hv (unSt_inv hx)
      rw [Au.lookS_app]
      cases Au.lookS R x with
      | some m => rfl
      | none =>
        dsimp only
        rw [Au.lookS, if_neg (fun e => hne e.symm)]; rfl
theorem stF_less {R : List Au.Ent} {y : Au.St} {k m : List UInt8} (h : Au.lookS R y = some m) (hk : k < m) : stF (Au.ins R y k) (stV y) = some (.string (ba k)) ∧ ∀ v, v ≠ stV y → stF (Au.ins R y k) v = stF R v := by
  obtain ⟨h1, h2⟩ := Au.lookS_ins_less h hk
  constructor
  · rw [stF_get, h1]; rfl
  · intro v hv
    unfold stF
    cases hx : unSt v with
    | none => rfl
    | some x =>
      dsimp only
      rw [h2 x (by rintro rfl; exact hv (unSt_inv hx))]
theorem stF_app (R S : List Au.Ent) (v : Value) (hd : ∀ x k, Au.lookS S x = some k → Au.lookS R x = none) : stF (R ++ S) v = match stF S v with
    | some u => some u
    | none => stF R v := by
  unfold stF
  cases hx : unSt v with
  | none => rfl
  | some x =>
    dsimp only
    rw [Au.lookS_app]
    cases hS : Au.lookS S x with
    | none => cases Au.lookS R x <;> rfl
    | some k => rw [hd x k hS]; rfl
theorem keyState : Keyed Tryz.prog 96 := Keyed.of_law (deep_law_gate (by kernel_rfl) (of_decide_eq_true (by kernel_rfl)) (of_decide_eq_true (by kernel_rfl)) (by kernel_rfl) (by kernel_rfl))
theorem zeroStr (w : World) : (zeroValue 9).run Tryz.prog w = .ok (.string ⟨#[]⟩) w := by kernel_rfl
theorem keyTypeState : Tryz.prog.keyType 96 = true := by kernel_rfl
theorem cellsState : Tryz.prog.cellsOf 96 = 2 := by kernel_rfl
/-! ### ranging over one map, writing another -/
/-- a range under way over a map that holds what f says -/
def RangeIs (P : Program) (k b r n : Nat) (f : Value → Option Value) (left : Lit → Bool) (cnt : Nat) (w : World) : Prop :=
  ∃ D : DataW Value, w.ranges P k heldR b r n D left cnt ∧ ∀ key kl, keyOf P k key = some kl → Maps.has D kl = (f key).isSome ∧ ∀ v z, f key = some v → D.atKey kl z = .held v
/-- the map that is written: what it held, and what has come -/
noncomputable def copyF (P : Program) (k : TypeId) (fR fO : Value → Option Value) (left : Lit → Bool) (v : Value) : Option Value := match keyOf P k v with
  | some kl => (match fR v with
    | some u => if left kl = true then fO v else some u
    | none => fO v)
  | none => fO v
theorem copyF_put {P : Program} {k : TypeId} (K : Keyed P k) {fR fO : Value → Option Value} {left : Lit → Bool} {key u : Value} {kl : Lit} (hk : keyOf P k key = some kl) (hu : fR key = some u) :
    copyF P k fR fO (fun z => left z && !z.sameKey kl) key = some u ∧ ∀ v, v ≠ key → copyF P k fR fO (fun z => left z && !z.sameKey kl) v = copyF P k fR fO left v := by
  constructor
  · unfold copyF
    rw [hk, hu]
    dsimp only
    simp [WideAt.sameKey_self (K.key hk)]
  · intro v hv
    unfold copyF
    cases hkv : keyOf P k v with
    | none => rfl
    | some kl' =>
      dsimp only
      have hne : kl'.sameKey kl = false := by
        cases h : kl'.sameKey kl
        · rfl
        · have e := WideAt.sameKey_eq h
          subst e
          exact absurd (K.inj hkv hk) hv
      simp [hne]
theorem wpList_range_is {P : Program} (w : World) {ops : Array Oper} {rest : List Oper} {o : Oper} {a : Act} {Q : Exit → Act → World → Prop}
    (hg : o.guard = none) (m : Operand) (t : TypeId) (hop : o.op = Op.range t m) (k e : TypeId) (K : Keyed P k) (ht : P.underlying t = some (.map k e)) (b n : Nat) (f : Value → Option Value)
    (hm : a.eval m = .map (some b)) (hown : MapIs P k b n f w)
    (hK : ∀ w' left cnt, RangeIs P k b w.heap.size n f left cnt w' → (∀ fO key kl, keyOf P k key = some kl → copyF P k f fO left key = fO key) → cnt ≤ n → w.grownBy w' none → w'.heap.size = w.heap.size + 1 → wpList P ops Q rest (a.put o.dst (.pointer (some ⟨w.heap.size, 0, none⟩))) w') : wpList P ops Q (o :: rest) a w := by
  obtain ⟨D, h1, h2⟩ := hown
  refine wpList_range_own w hg m t hop k e K ht heldR b n D hm h1 ?_
  intro w' hr hgw hsz
  refine hK w' _ _ ⟨D, hr, h2⟩ (fun fO key kl hk => ?_) h1.size_le hgw hsz
  unfold copyF
  rw [hk]
  dsimp only
  cases hf : f key with
  | none => rfl
  | some u =>
    have := (h2 key kl hk).1
    rw [hf] at this
    dsimp only
    rw [if_pos (show Maps.has D kl = true from this)]
theorem wpList_next_is {P : Program} (w : World) {ops : Array Oper} {rest : List Oper} {o : Oper} {a : Act} {Q : Exit → Act → World → Prop}
    (hg : o.guard = none) (it : Operand) (hop : o.op = Op.next it false) (k : TypeId) (K : Keyed P k) (b r n : Nat) (f : Value → Option Value) (left : Lit → Bool) (cnt : Nat)
    (hit : a.eval it = .pointer (some ⟨r, 0, none⟩)) (h : RangeIs P k b r n f left cnt w)
    (hDone : (∀ fO key, copyF P k f fO left key = match keyOf P k key with | some _ => (match f key with | some u => some u | none => fO key) | none => fO key) → wpList P ops Q rest (a.put o.dst (.tuple #[.bool false])) w)
    (hMore : ∀ (key u : Value) (kl : Lit) (w' : World) (cnt' : Nat), keyOf P k key = some kl → f key = some u → RangeIs P k b r n f (fun z => left z && !z.sameKey kl) cnt' w' → cnt' < cnt →
      w.grownBy w' (some r) → w'.heap.size = w.heap.size → (Instr.entry (.pointer (some ⟨r, 0, none⟩))).run P w' = .ok (.tuple #[key, u]) w' → wpList P ops Q rest (a.put o.dst (.tuple #[.bool true, key, u])) w') :
    wpList P ops Q (o :: rest) a w := by
  obtain ⟨D, h1, h2⟩ := h
  refine wpList_next_ranges w hg it hop k K heldR (fun x : Value => x) (fun x : Value => x) (fun key kl _ => ⟨key, rfl⟩) (fun v y _ => ⟨v, rfl⟩) b r n D left cnt hit h1 (fun _ hl => hDone (fun fO key => ?_)) ?_
  · unfold copyF
    cases hk : keyOf P k key with
    | none => rfl
    | some kl =>
      dsimp only
      cases f key with
      | none => rfl
      | some u => dsimp only; rw [hl kl]; simp
  · intro key c kl y w' cnt' hkey hlk hv hat hr' hlt hgw hsz hen
    obtain ⟨g1, g2⟩ := h2 key kl hkey
    have hhas : Maps.has D kl = true := by
      cases hh : Maps.has D kl
      · exfalso
        have e1 := Maps.atKey_of_not_has hh (.held (.bool true) : DataW Value)
        have e2 := Maps.atKey_of_not_has hh (.held (.bool false) : DataW Value)
        rw [hat] at e1 e2
        rw [e1] at e2
        injection e2 with e2
        injection e2 with e2
        cases e2
      · rfl
    rw [hhas] at g1
    obtain ⟨u, hu⟩ := Option.isSome_iff_exists.1 g1.symm
    have e3 := g2 u (.held u) hu
    rw [hat] at e3
    injection hv with hv
    rw [← hv] at e3
    injection e3 with e3
    subst e3
    exact hMore key c kl w' cnt' hkey hu ⟨D, hr', h2⟩ hlt hgw hsz hen
theorem RangeIs.alloc {P : Program} {k b r n cnt : Nat} {f : Value → Option Value} {left : Lit → Bool} {w : World} (h : RangeIs P k b r n f left cnt w) (o : Obj) : RangeIs P k b r n f left cnt (w.alloc o) := by
  obtain ⟨D, h1, h2⟩ := h
  exact ⟨D, h1.alloc o, h2⟩
theorem RangeIs.kept {P : Program} {k b r n cnt : Nat} {f : Value → Option Value} {left : Lit → Bool} {w w' : World} {row : Option Nat} (h : RangeIs P k b r n f left cnt w) (hg : w.grownBy w' row) (hb : some b ≠ row) (hr : some r ≠ row) : RangeIs P k b r n f left cnt w' := by
  obtain ⟨D, h1, h2⟩ := h
  exact ⟨D, h1.kept hg hb hr, h2⟩
theorem RangeIs.ne {P : Program} {k b r n cnt : Nat} {f : Value → Option Value} {left : Lit → Bool} {w : World} (h : RangeIs P k b r n f left cnt w) : r ≠ b := by
  obtain ⟨D, h1, h2⟩ := h
  exact h1.ne
end Go.Proofs.YtgdcffahhpeibaaGreatDoor
