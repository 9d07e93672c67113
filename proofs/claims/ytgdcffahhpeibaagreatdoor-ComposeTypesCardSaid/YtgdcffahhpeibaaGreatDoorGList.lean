/-
  Lists of elements of a few cells each, as they lie in memory: lists that came in, lists that a call owns, parts of them, appends. No condition.
-/
import Derived.Test.YtgdcffahhpeibaaGreatDoorRBase
import Derived.Laws.AppendOwn
import Derived.Deep.AppendLies
namespace Go.Proofs.YtgdcffahhpeibaaGreatDoor
open Go.RowKit
/-- how an element lies: k cells -/
structure Enc (α : Type) where
  k : Nat
  enc : α → List Value
  pos : 0 < k
  len : ∀ x, (enc x).length = k
  one : ∀ x, ∀ u ∈ enc x, u.oneCell' = true
namespace Enc
variable {α : Type} (E : Enc α)
def cells (xs : List α) : List Value := xs.flatMap E.enc
theorem cells_nil : E.cells [] = [] := rfl
theorem cells_cons (x : α) (xs : List α) : E.cells (x :: xs) = E.enc x ++ E.cells xs := rfl
theorem cells_app (xs ys : List α) : E.cells (xs ++ ys) = E.cells xs ++ E.cells ys := by unfold cells; rw [List.flatMap_append]
theorem cells_one (x : α) : E.cells [x] = E.enc x := by unfold cells; simp
theorem cells_len : ∀ xs : List α, (E.cells xs).length = xs.length * E.k
  | [] => by simp [cells_nil]
  | x :: xs => by
    rw [cells_cons, List.length_append, E.len, cells_len xs, List.length_cons, Nat.add_mul, Nat.one_mul, Nat.add_comm]
theorem cells_at : ∀ (xs : List α) (i : Nat) (x : α) (j : Nat), xs[i]? = some x → j < E.k → (E.cells xs)[i * E.k + j]? = (E.enc x)[j]?
  | [], _, _, _, h, _ => by simp at h
  | y :: xs, 0, x, j, h, hj => by
    rw [List.getElem?_cons_zero] at h
    injection h with h
    subst h
    rw [cells_cons, Nat.zero_mul, Nat.zero_add, List.getElem?_append_left (by rw [E.len]; exact hj)]
  | y :: xs, i + 1, x, j, h, hj => by
    rw [List.getElem?_cons_succ] at h
    rw [cells_cons, Nat.add_mul, Nat.one_mul, List.getElem?_append_right (by rw [E.len]; omega), E.len, show i * E.k + E.k + j - E.k = i * E.k + j by omega]
    exact cells_at xs i x j h hj
theorem cells_one' (xs : List α) : ∀ u ∈ E.cells xs, u.oneCell' = true := fun u hu => by
  obtain ⟨x, _, hx⟩ := List.mem_flatMap.1 hu
  exact E.one x u hx
theorem cells_drop (xs : List α) : ∀ k, E.cells (xs.drop k) = (E.cells xs).drop (k * E.k) := by
  induction xs with
  | nil => intro k; simp [cells_nil]
  | cons x xs ih =>
    intro k
    cases k with
    | zero => simp
    | succ k =>
      rw [List.drop_succ_cons, ih k, cells_cons, Nat.add_mul, Nat.one_mul, Nat.add_comm, ← List.drop_drop]
      congr 1
      have := List.drop_left (l₁ := E.enc x) (l₂ := E.cells xs)
      rw [E.len] at this
      exact this.symm
theorem cells_take (xs : List α) (k j : Nat) (u : Value) (h : (E.cells (xs.take k))[j]? = some u) : (E.cells xs)[j]? = some u := by
  have e := E.cells_app (xs.take k) (xs.drop k)
  rw [List.take_append_drop] at e
  rw [e, List.getElem?_append_left]
  · exact h
  · rcases Nat.lt_or_ge j (E.cells (xs.take k)).length with h' | h'
    · exact h'
    · rw [List.getElem?_eq_none h'] at h; cases h
end Enc
theorem addr_add (g o j : Nat) : (⟨g, o, none⟩ : Addr).add j = ⟨g, o + j, none⟩ := by
  unfold Addr.add
  split
  · rename_i e; rw [e]; rfl
  · rfl
variable {α : Type} {E : Enc α}
/-- the slice value v reads as the list xs -/
def LieG (E : Enc α) (v : Value) (xs : List α) (w : World) : Prop := ∃ ao cap, v = .slice ao xs.length cap ∧ xs.length ≤ cap ∧ (ao = none → cap = 0) ∧ (∀ ad, ao = some ad → ∃ g o, ad = ⟨g, o, none⟩) ∧
  ∀ (i : Nat) x, xs[i]? = some x → ∃ g o, ao = some ⟨g, o, none⟩ ∧ ∀ (j : Nat) u, (E.enc x)[j]? = some u → w.cell? ⟨g, o + i * E.k + j, none⟩ = some u
theorem LieG.nil (w : World) : LieG E (.slice none 0 0) [] w := ⟨none, 0, rfl, Nat.le_refl _, fun _ => rfl, fun ad h => (by cases h), fun i x h => (by simp at h)⟩
theorem LieG.below {v : Value} {xs : List α} {w w' : World} {B : Nat} (h : LieG E v xs w) (hb : Below B w w') (hB : w.heap.size ≤ B) : LieG E v xs w' := by
  obtain ⟨ao, cap, hv, hc, hn, hs, hx⟩ := h
  exact ⟨ao, cap, hv, hc, hn, hs, fun i x hi => let ⟨g, o, ha, hj⟩ := hx i x hi; ⟨g, o, ha, fun j u hu => below_cellU (hj j u hu) hb hB⟩⟩
theorem LieG.keep {v : Value} {xs : List α} {w w' : World} (h : LieG E v xs w) (hb : Below w.heap.size w w') : LieG E v xs w' := h.below hb (Nat.le_refl _)
theorem LieG.cells {g o n cap : Nat} {xs : List α} {w : World} (h : LieG E (.slice (some ⟨g, o, none⟩) n cap) xs w) (j : Nat) (u : Value) (hu : (E.cells xs)[j]? = some u) : w.cell? ⟨g, o + j, none⟩ = some u := by
  obtain ⟨ao, cap', hv, _, _, _, hx⟩ := h
  have hjl : j < (E.cells xs).length := by
    rcases Nat.lt_or_ge j (E.cells xs).length with h | h
    · exact h
    · rw [List.getElem?_eq_none h] at hu; cases hu
  rw [E.cells_len] at hjl
  have hq : j / E.k < xs.length := Nat.div_lt_of_lt_mul (by rw [Nat.mul_comm]; exact hjl)
  obtain ⟨x, hxx⟩ : ∃ x, xs[j / E.k]? = some x := ⟨_, List.getElem?_eq_getElem hq⟩
  obtain ⟨g', o', ha, hcj⟩ := hx _ x hxx
  injection hv with hv
  rw [← hv] at ha
  injection ha with ha
  injection ha with ha1 ha2
  subst ha1; subst ha2
  have hm : j % E.k < E.k := Nat.mod_lt _ E.pos
  have hd : j / E.k * E.k + j % E.k = j := by rw [Nat.mul_comm]; exact Nat.div_add_mod j E.k
  have hc := E.cells_at xs _ x (j % E.k) hxx hm
  rw [hd, hu] at hc
  have := hcj (j % E.k) u hc.symm
  rw [Nat.add_assoc, hd] at this
  exact this
/-- a list of elements that is read: nil, or cells -/
def SrcG (E : Enc α) (v : Value) (ys : List α) (w : World) : Prop := (v = .slice none 0 0 ∧ ys = []) ∨ ∃ ad c, v = .slice (some ad) ys.length c ∧ ∀ (j : Nat) u, (E.cells ys)[j]? = some u → w.cell? (ad.add j) = some u
theorem SrcG.below {v : Value} {ys : List α} {w w' : World} {B : Nat} (h : SrcG E v ys w) (hb : Below B w w') (hB : w.heap.size ≤ B) : SrcG E v ys w' := by
  rcases h with h | ⟨ad, c, hv, hc⟩
  · exact .inl h
  · refine .inr ⟨ad, c, hv, fun j u hu => ?_⟩
    have := hc j u hu
    exact (hb.cell (Nat.lt_of_lt_of_le (World.block_lt_of_cell? w _ this) hB)).trans this
theorem LieG.src {v : Value} {xs : List α} {w : World} (h : LieG E v xs w) : SrcG E v xs w := by
  have h' := h
  obtain ⟨ao, cap, rfl, hc, hn, hs, hx⟩ := h
  cases ao with
  | none =>
    have h0 := hn rfl
    subst h0
    have : xs = [] := List.eq_nil_of_length_eq_zero (by omega)
    subst this
    exact .inl ⟨rfl, rfl⟩
  | some ad =>
    obtain ⟨g, o, rfl⟩ := hs ad rfl
    exact .inr ⟨_, _, rfl, fun j u hu => by rw [addr_add]; exact h'.cells j u hu⟩
theorem SrcG.one {b : Nat} {x : α} {w : World} (h : ∀ (j : Nat) u, (E.enc x)[j]? = some u → w.cell? ⟨b, j, none⟩ = some u) : SrcG E (.slice (some ⟨b, 0, none⟩) 1 1) [x] w :=
  .inr ⟨_, _, rfl, fun j u hu => by rw [addr_add, Nat.zero_add]; rw [E.cells_one] at hu; exact h j u hu⟩
theorem LieG.take {g o n cap k : Nat} {xs : List α} {w : World} (h : LieG E (.slice (some ⟨g, o, none⟩) n cap) xs w) (hk : k ≤ n) : LieG E (.slice (some ⟨g, o, none⟩) k cap) (xs.take k) w := by
  obtain ⟨ao, cap', hv, hc, hn, hs, hx⟩ := h
  injection hv with hv1 hv2 hv3
  subst hv1; subst hv3
  refine ⟨_, _, by rw [List.length_take, ← hv2, Nat.min_eq_left hk], by rw [List.length_take]; omega, hn, hs, fun i x hi => ?_⟩
  rw [List.getElem?_take] at hi
  split at hi
  · exact hx i x hi
  · cases hi
theorem LieG.drop {g o n cap k : Nat} {xs : List α} {w : World} (h : LieG E (.slice (some ⟨g, o, none⟩) n cap) xs w) (hk : k ≤ n) : LieG E (.slice (some ⟨g, o + k * E.k, none⟩) (n - k) (cap - k)) (xs.drop k) w := by
  obtain ⟨ao, cap', hv, hc, hn, hs, hx⟩ := h
  injection hv with hv1 hv2 hv3
  subst hv3
  refine ⟨_, _, by rw [List.length_drop, ← hv2], by rw [List.length_drop]; omega, fun h => (by cases h), fun ad h => (by injection h with h; exact ⟨_, _, h.symm⟩), fun i x hi => ?_⟩
  rw [List.getElem?_drop] at hi
  obtain ⟨g', o', ha, hj⟩ := hx _ x hi
  rw [← hv1] at ha
  injection ha with ha
  injection ha with ha1 ha2
  subst ha1; subst ha2
  refine ⟨_, _, rfl, fun j u hu => ?_⟩
  have := hj j u hu
  rwa [Nat.add_mul, ← Nat.add_assoc] at this
theorem LieG.shape {v : Value} {xs : List α} {w : World} (h : LieG E v xs w) : v = .slice none 0 0 ∨ ∃ g o cap, v = .slice (some ⟨g, o, none⟩) xs.length cap ∧ xs.length ≤ cap := by
  obtain ⟨ao, cap, rfl, hc, hn, hs, hx⟩ := h
  cases ao with
  | none =>
    have h0 := hn rfl
    subst h0
    rw [show xs.length = 0 by omega]
    exact .inl rfl
  | some ad =>
    obtain ⟨g, o, rfl⟩ := hs ad rfl
    exact .inr ⟨g, o, cap, rfl, hc⟩
theorem LieG.at {g o n cap : Nat} {xs : List α} {w : World} (h : LieG E (.slice (some ⟨g, o, none⟩) n cap) xs w) (i : Nat) (x : α) (hi : xs[i]? = some x) : ∀ (j : Nat) u, (E.enc x)[j]? = some u → w.cell? ⟨g, o + i * E.k + j, none⟩ = some u := by
  obtain ⟨ao, cap', hv, hc, hn, hs, hx⟩ := h
  obtain ⟨g', o', ha, hj⟩ := hx i x hi
  injection hv with hv1
  rw [← hv1] at ha
  injection ha with ha
  injection ha with ha1 ha2
  subst ha1; subst ha2
  exact hj
/-- the slice value v owns the list xs, in a block of type T of the call's own (from B on), or is nil and holds none -/
def OwnG (E : Enc α) (T : TypeId) (B : Nat) (v : Value) (xs : List α) (w : World) : Prop := w.ownsRow B T E.k v xs.length (E.cells xs)
theorem OwnG.nil (T : TypeId) (B : Nat) (w : World) : OwnG E T B (.slice none 0 0) [] w := World.ownsRow_nil _ _ _ _
theorem OwnG.lie {T : TypeId} {B : Nat} {v : Value} {xs : List α} {w : World} (h : OwnG E T B v xs w) : LieG E v xs w := by
  obtain ⟨h1, ⟨rfl, hn⟩ | ⟨g, cap, cur, rfl, hB, hg, hc, hm, hs, ht⟩⟩ := h
  · obtain rfl : xs = [] := List.eq_nil_of_length_eq_zero hn
    exact LieG.nil w
  · refine ⟨_, cap, rfl, hc, fun h => (by cases h), fun ad h => (by injection h with h; exact ⟨_, _, h.symm⟩), fun i x hi => ⟨g, 0, rfl, fun j u hu => ?_⟩⟩
    have hil : i < xs.length := by
      rcases Nat.lt_or_ge i xs.length with h' | h'
      · exact h'
      · rw [List.getElem?_eq_none h'] at hi; cases hi
    have hj : j < E.k := by
      rcases Nat.lt_or_ge j E.k with h' | h'
      · exact h'
      · rw [List.getElem?_eq_none (by rw [E.len]; exact h')] at hu; cases hu
    have ha := E.cells_at xs i x j hi hj
    rw [← ht, hu] at ha
    rw [Nat.zero_add, Lib.cell_of_heap hg]
    have hlt : i * E.k + j < xs.length * E.k := by
      have : (i + 1) * E.k ≤ xs.length * E.k := Nat.mul_le_mul_right _ hil
      rw [Nat.add_mul, Nat.one_mul] at this
      omega
    rw [List.getElem?_take, if_pos hlt, Array.getElem?_toList] at ha
    exact ha
theorem OwnG.frame {T : TypeId} {B : Nat} {v : Value} {xs : List α} {w : World} (h : OwnG E T B v xs w) : ∃ ao cap, v = .slice ao xs.length cap := by
  obtain ⟨_, ⟨hv, hn⟩ | ⟨g, cap, cur, hv, _⟩⟩ := h
  · exact ⟨none, 0, by rw [hv, hn]⟩
  · exact ⟨_, _, hv⟩
theorem OwnG.drewN {T : TypeId} {B : Nat} {v : Value} {xs : List α} {w : World} (h : OwnG E T B v xs w) (q : Nat) : OwnG E T B v xs (w.drewN q) := h
theorem OwnG.alloc {T : TypeId} {B : Nat} {v : Value} {xs : List α} {w : World} (h : OwnG E T B v xs w) (o : Obj) : OwnG E T B v xs (w.alloc o) := World.ownsRow.alloc h o
theorem OwnG.below {T : TypeId} {B B2 : Nat} {v : Value} {xs : List α} {w w' : World} (h : OwnG E T B v xs w) (hb : Below B2 w w') (hB : w.heap.size ≤ B2) : OwnG E T B v xs w' := by
  obtain ⟨h1, h2 | ⟨g, cap, cur, hv, hB', hg, r⟩⟩ := h
  · exact ⟨h1, .inl h2⟩
  · exact ⟨h1, .inr ⟨g, cap, cur, hv, hB', by rw [hb.block g (Nat.lt_of_lt_of_le (heap_lt hg) hB)]; exact hg, r⟩⟩
theorem OwnG.keep {T : TypeId} {B : Nat} {v : Value} {xs : List α} {w w' : World} (h : OwnG E T B v xs w) (hb : Below w.heap.size w w') : OwnG E T B v xs w' := h.below hb (Nat.le_refl _)
theorem OwnG.lower {T : TypeId} {B B2 : Nat} {v : Value} {xs : List α} {w : World} (h : OwnG E T B v xs w) (hB : B2 ≤ B) : OwnG E T B2 v xs w := by
  obtain ⟨h1, h2 | ⟨g, cap, cur, hv, hB', r⟩⟩ := h
  · exact ⟨h1, .inl h2⟩
  · exact ⟨h1, .inr ⟨g, cap, cur, hv, Nat.le_trans hB hB', r⟩⟩
theorem OwnG.grown {T : TypeId} {B : Nat} {v : Value} {xs : List α} {w w' : World} {row : Option Nat} (h : OwnG E T B v xs w) (hg : w.grownBy w' row) (hne : ∀ b, v.ownBlock = some b → some b ≠ row) : OwnG E T B v xs w' := by
  obtain ⟨h1, h2 | ⟨g, cap, cur, hv, hB', hb, r⟩⟩ := h
  · exact ⟨h1, .inl h2⟩
  · exact ⟨h1, .inr ⟨g, cap, cur, hv, hB', by rw [hg.block g (heap_lt hb) (hne g (by rw [hv]; rfl))]; exact hb, r⟩⟩
theorem OwnG.block_lt {T : TypeId} {B : Nat} {v : Value} {xs : List α} {w : World} (h : OwnG E T B v xs w) (b : Nat) (hb : v.ownBlock = some b) : B ≤ b ∧ b < w.heap.size := World.ownsRow.lt h b hb
theorem OwnG.app {T : TypeId} {B : Nat} {v : Value} {xs ys : List α} {w : World} (h : w.ownsRow B T E.k v (xs.length + ys.length) (E.cells xs ++ E.cells ys)) : OwnG E T B v (xs ++ ys) w := by
  unfold OwnG
  rw [List.length_append, E.cells_app]
  exact h
theorem grown_refl (w : World) (row : Option Nat) : w.grownBy w row := ⟨rfl, rfl, rfl, Nat.le_refl _, fun _ _ _ => rfl⟩
/-- the append's facts of a type -/
structure AppT (P : Program) (E : Enc α) (S T : TypeId) where
  z : Value
  bytes : Nat
  under : P.underlying S = some (.slice T)
  info : (P.info? T).map (fun i => (i.zero, i.size, i.bytes)) = some (some z, E.k, bytes)
  zsz : z.cells.size = E.k
set_option maxRecDepth 100000 in
theorem wpList_append_g {S T : TypeId} (H : AppT Tryz.prog E S T) {ops : Array Oper} {rest : List Oper} {o : Oper} {a : Act} {Q : Exit → Act → World → Prop} (w : World) (hgd : o.guard = none) (s x : Operand)
    (ho : o.op = .call { callee := .builtin .append, args := #[s, x], argTypes := #[S, S] }) (B : Nat) (v : Value) (xs : List α) (hs : a.eval s = v) (hown : OwnG E T B v xs w)
    (v2 : Value) (ys : List α) (hx : a.eval x = v2) (hsrc : SrcG E v2 ys w) (hbd : xs.length + ys.length ≤ maxLen) (hby : (xs.length + ys.length) * H.bytes ≤ 140737488355328) (hB : B ≤ w.heap.size)
    (h : ∀ v' w', OwnG E T B v' (xs ++ ys) w' → w.grownBy w' v.ownBlock → wpList Tryz.prog ops Q rest (a.put o.dst v') w') : wpList Tryz.prog ops Q (o :: rest) a w := by
  obtain ⟨i0, hi, hz0, hz1, hz2⟩ := info_parts H.info
  rcases hsrc with ⟨rfl, rfl⟩ | ⟨ad, c, rfl, hc⟩
  · have hrun := run_append_owned_none (P := Tryz.prog) (w := w) B S o.type T i0 E.k H.under hi v xs.length (E.cells xs) hown
    refine wpList_plain hgd fun K hK => ?_
    unfold Oper.wp
    simp [execOp, ho, resolve, invoke, builtin, hs, hx, hrun, Result.andThen]
    exact hK _ _ (h v w (by rw [List.append_nil]; exact hown) (grown_refl _ _))
  · refine wpList_append_own w hgd s x S ho B T i0 H.z E.k H.bytes H.under hi hz0 hz1 hz2 H.zsz E.pos v xs.length (E.cells xs) hs hown ad ys.length c (E.cells ys) hx (E.cells_len ys) hc (E.cells_one' ys) hbd hby hB ?_
    intro v' w' h1 h2 _
    exact h v' w' (OwnG.app h1) h2
set_option maxRecDepth 100000 in
theorem step_append_g {S T : TypeId} (H : AppT Tryz.prog E S T) {ops : Array Oper} {o : Oper} {a : Act} {K : Act → World → Prop} {Q : Exit → Act → World → Prop} {X : Prop} (w : World) (hgd : o.guard = none) (s x : Operand)
    (ho : o.op = .call { callee := .builtin .append, args := #[s, x], argTypes := #[S, S] }) (B : Nat) (v : Value) (xs : List α) (hs : a.eval s = v) (hown : OwnG E T B v xs w)
    (v2 : Value) (ys : List α) (hx : a.eval x = v2) (hsrc : SrcG E v2 ys w) (hbd : xs.length + ys.length ≤ maxLen) (hby : (xs.length + ys.length) * H.bytes ≤ 140737488355328) (hB : B ≤ w.heap.size)
    (h : ∀ v' w', OwnG E T B v' (xs ++ ys) w' → w.grownBy w' v.ownBlock → K (a.put o.dst v') w') : if Region.wanted o (yielded ops a.tmps) = true then Oper.wp Tryz.prog o a w K Q else X := by
  have hw : Region.wanted o (yielded ops a.tmps) = true := by simp [Region.wanted, hgd]
  rw [if_pos hw]
  obtain ⟨i0, hi, hz0, hz1, hz2⟩ := info_parts H.info
  rcases hsrc with ⟨rfl, rfl⟩ | ⟨ad, c, rfl, hc⟩
  · have hrun := run_append_owned_none (P := Tryz.prog) (w := w) B S o.type T i0 E.k H.under hi v xs.length (E.cells xs) hown
    unfold Oper.wp
    simp [execOp, ho, resolve, invoke, builtin, hs, hx, hrun, Result.andThen]
    exact h v w (by rw [List.append_nil]; exact hown) (grown_refl _ _)
  · refine wp_append_own w s x S ho B T i0 H.z E.k H.bytes H.under hi hz0 hz1 hz2 H.zsz E.pos v xs.length (E.cells xs) hs hown ad ys.length c (E.cells ys) hx (E.cells_len ys) hc (E.cells_one' ys) hbd hby hB ?_
    intro v' w' h1 h2 _
    exact h v' w' (OwnG.app h1) h2
/-- a block of one element that was just made -/
theorem new_cells (w : World) (cs : List Value) (T : TypeId) (j : Nat) (u : Value) (hu : cs[j]? = some u) : (w.alloc (.cells cs.toArray T)).cell? ⟨w.heap.size, j, none⟩ = some u := by
  rw [Lib.cell_of_heap (MapKept.heap_alloc w _).1]
  simpa using hu
end Go.Proofs.YtgdcffahhpeibaaGreatDoor
