/-
  auto.New by its contract: the error of the check, or an automaton of the rules. No condition but the list's and the strings' own bound.
-/
import Derived.Test.YtgdcffahhpeibaaGreatDoorAuProg
import Derived.Laws.Rows
import Derived.Deep.OwnRows
namespace Go.Proofs.YtgdcffahhpeibaaGreatDoor
open Go.RowKit
namespace Au
open UT (Bs)
open Ro (Rule)
/-- the proper beginnings of a rule's keys -/
def begsR (r : Rule) : List Bs := (List.range r.1.length).map fun n => r.1.take n
def begs (l : List Rule) : List Bs := l.flatMap begsR
def bytesOf (l : List Rule) : Bs := l.flatMap (·.1)
theorem begs_longer (l : List Rule) (s : Bs) : (begs l).contains s = Ro.longer l s := by
  rw [Bool.eq_iff_iff, List.contains_iff_mem, longer_iff]
  unfold begs begsR
  rw [List.mem_flatMap]
  constructor
  · rintro ⟨r, hr, h⟩
    obtain ⟨n, hn, rfl⟩ := List.mem_map.1 h
    rw [List.mem_range] at hn
    refine ⟨r, hr, ?_, ?_⟩
    · rw [List.length_take]; omega
    · rw [List.length_take, Nat.min_eq_left (by omega)]
  · rintro ⟨r, hr, h1, h2⟩
    exact ⟨r, hr, List.mem_map.2 ⟨s.length, List.mem_range.2 h1, h2⟩⟩
theorem begs_snoc (l : List Rule) (r : Rule) : begs (l ++ [r]) = begs l ++ begsR r := by unfold begs; rw [List.flatMap_append]; simp
theorem bytes_snoc (l : List Rule) (r : Rule) : bytesOf (l ++ [r]) = bytesOf l ++ r.1 := by unfold bytesOf; rw [List.flatMap_append]; simp
theorem bytes_mem (l : List Rule) (c : UInt8) : c ∈ bytesOf l ↔ ∃ r ∈ l, c ∈ r.1 := by unfold bytesOf; exact List.mem_flatMap
/-- the keys, in order -/
def usedKeys (bs : Bs) (n : Nat) : Bs := ((List.range n).filter fun i => bs.contains (UInt8.ofNat i)).map UInt8.ofNat
theorem usedKeys_succ (bs : Bs) (n : Nat) : usedKeys bs (n + 1) = usedKeys bs n ++ (if bs.contains (UInt8.ofNat n) = true then [UInt8.ofNat n] else []) := by
  unfold usedKeys
  rw [List.range_succ, List.filter_append, List.map_append]
  congr 1
  by_cases h : bs.contains (UInt8.ofNat n) = true
  · rw [if_pos h, List.filter_cons, if_pos h]; rfl
  · rw [if_neg h, List.filter_cons, if_neg h]; rfl
theorem usedKeys_len (bs : Bs) (n : Nat) : (usedKeys bs n).length ≤ n := by
  unfold usedKeys
  rw [List.length_map]
  have := List.length_filter_le (fun i => bs.contains (UInt8.ofNat i)) (List.range n)
  rwa [List.length_range] at this
theorem usedKeys_mem (bs : Bs) (c : UInt8) : c ∈ usedKeys bs 256 ↔ c ∈ bs := by
  unfold usedKeys
  rw [List.mem_map]
  constructor
  · rintro ⟨i, hi, rfl⟩
    rw [List.mem_filter] at hi
    exact List.contains_iff_mem.1 hi.2
  · intro hc
    refine ⟨c.toNat, List.mem_filter.2 ⟨List.mem_range.2 c.toNat_lt, ?_⟩, UInt8.ofNat_toNat⟩
    rw [UInt8.ofNat_toNat]
    exact List.contains_iff_mem.2 hc
end Au
theorem rulesL_take (xs : List RuleB) (k : Nat) (r : RuleB) (h : xs[k]? = some r) : rulesL (xs.take (k + 1)) = rulesL (xs.take k) ++ [ruleL r] := by
  have hk : k < xs.length := by
    rcases Nat.lt_or_ge k xs.length with h' | h'
    · exact h'
    · rw [List.getElem?_eq_none h'] at h; cases h
  rw [List.getElem?_eq_getElem hk] at h
  injection h with h
  unfold rulesL
  rw [List.take_succ_eq_append_getElem hk, List.map_append, h]
  rfl
theorem take_snocR (xs : List RuleB) (k : Nat) (r : RuleB) (h : xs[k]? = some r) : xs.take (k + 1) = xs.take k ++ [r] := by
  have hk : k < xs.length := by
    rcases Nat.lt_or_ge k xs.length with h' | h'
    · exact h'
    · rw [List.getElem?_eq_none h'] at h; cases h
  rw [List.getElem?_eq_getElem hk] at h
  injection h with h
  rw [List.take_succ_eq_append_getElem hk, h]
/-- one rule more in the map -/
theorem rulesF_put (xs : List RuleB) (r : RuleB) (hn : (xs.map (·.1.data.toList)).contains r.1.data.toList = false) : rulesF (xs ++ [r]) (.string r.1) = some (ruleV r) := by
  unfold rulesF
  dsimp only
  rw [List.find?_append]
  have : xs.find? (fun x => x.1.data.toList == r.1.data.toList) = none := by
    rw [List.find?_eq_none]
    intro x hx he
    have : r.1.data.toList ∈ xs.map (·.1.data.toList) := List.mem_map.2 ⟨x, hx, eq_of_beq he⟩
    rw [List.contains_iff_mem.2 this] at hn
    cases hn
  rw [this]
  simp
theorem rulesF_other (xs : List RuleB) (r : RuleB) (v : Value) (h : v ≠ .string r.1) : rulesF (xs ++ [r]) v = rulesF xs v := by
  cases v <;> try rfl
  rename_i t
  unfold rulesF
  dsimp only
  rw [List.find?_append]
  have hne : (r.1.data.toList == t.data.toList) = false := by
    rw [beq_eq_false_iff_ne]
    intro e
    exact h (by rw [show r.1 = t from ByteArray.ext (Array.toList_inj.1 e)])
  have : [r].find? (fun x => x.1.data.toList == t.data.toList) = none := by
    rw [List.find?_cons_of_neg (by rw [hne]; simp)]; rfl
  rw [this]
  cases xs.find? (fun x => x.1.data.toList == t.data.toList) <;> rfl
theorem good_new {xs : List RuleB} (hc : Ro.check (rulesL xs) = 0) (k : Nat) (r : RuleB) (h : xs[k]? = some r) : ((xs.take k).map (·.1.data.toList)).contains r.1.data.toList = false := by
  have hg := ((Ro.good_iff _).1 ((Ro.check_zero _).1 hc).2).2
  have hk : k < xs.length := by
    rcases Nat.lt_or_ge k xs.length with h' | h'
    · exact h'
    · rw [List.getElem?_eq_none h'] at h; cases h
  rw [List.getElem?_eq_getElem hk] at h
  injection h with h
  have e : (rulesL xs).map (·.1) = (xs.take k).map (·.1.data.toList) ++ (r.1.data.toList :: (xs.drop (k + 1)).map (·.1.data.toList)) := by
    unfold rulesL
    rw [List.map_map, ← h]
    conv => lhs; rw [← List.take_append_drop k xs, List.drop_eq_getElem_cons hk]
    rw [List.map_append, List.map_cons]
    rfl
  rw [e, List.nodup_append] at hg
  cases hb : ((xs.take k).map (·.1.data.toList)).contains r.1.data.toList
  · rfl
  · exact absurd rfl (hg.2.2 _ (List.contains_iff_mem.1 hb) r.1.data.toList (List.mem_cons_self ..))
/-- a row of 256 marks -/
def usedV (bs : List UInt8) (i : Nat) : Value := .bool (bs.contains (UInt8.ofNat i))
theorem usedV_set (bs : List UInt8) (c : UInt8) (i : Nat) (hi : i < 256) : (if i = c.toNat then Value.bool true else usedV bs i) = usedV (bs ++ [c]) i := by
  unfold usedV
  by_cases h : i = c.toNat
  · rw [if_pos h, h, UInt8.ofNat_toNat, List.contains_iff_mem.2 (by simp : c ∈ bs ++ [c])]
  · rw [if_neg h]
    have hne : UInt8.ofNat i ≠ c := by
      intro e
      apply h
      rw [← e]
      simp [UInt8.toNat_ofNat', Nat.mod_eq_of_lt hi]
    have : (bs ++ [c]).contains (UInt8.ofNat i) = bs.contains (UInt8.ofNat i) := by
      rw [Bool.eq_iff_iff, List.contains_iff_mem, List.contains_iff_mem, List.mem_append]
      simp [hne]
    rw [this]
/-- what New's loops hold: the automaton's block and its three parts, from N on -/
structure NewIs (N : Nat) (xs : List RuleB) (gs : List (List UInt8)) (bs : List UInt8) (n m : Nat) (w : World) : Prop where
  rules : MapIs Tryz.prog 9 N n (rulesF xs) w
  parts : MapIs Tryz.prog 9 (N + 1) m (seenF gs) w
  box : w.heap[N + 1 + 1]? = some (.cells #[.map (some N), .map (some (N + 1)), .slice none 0 0] 84 (0, 0))
  used : w.rowIs (N + 1 + 1 + 1) 85 256 (usedV bs)
theorem NewIs.c0 {N : Nat} {xs : List RuleB} {gs : List (List UInt8)} {bs : List UInt8} {n m : Nat} {w : World} (h : NewIs N xs gs bs n m w) : w.cell? ⟨N + 1 + 1, 0, none⟩ = some (.map (some N)) := by rw [Lib.cell_of_heap h.box]; rfl
theorem NewIs.c1 {N : Nat} {xs : List RuleB} {gs : List (List UInt8)} {bs : List UInt8} {n m : Nat} {w : World} (h : NewIs N xs gs bs n m w) : w.cell? ⟨N + 1 + 1, 1, none⟩ = some (.map (some (N + 1))) := by rw [Lib.cell_of_heap h.box]; rfl
theorem NewIs.grown {N : Nat} {xs : List RuleB} {gs : List (List UInt8)} {bs : List UInt8} {n m : Nat} {w w' : World} (h : NewIs N xs gs bs n m w) (hb : Below w.heap.size w w') : NewIs N xs gs bs n m w' :=
  ⟨h.rules.keep hb, h.parts.keep hb, by rw [hb.block _ (heap_lt h.box)]; exact h.box, h.used.of_block (hb.block _ h.used.lt)⟩
theorem cell_grownx {w w' : World} {row : Option Nat} {b o : Nat} {v : Value} (hg : w.grownBy w' row) (hc : w.cell? ⟨b, o, none⟩ = some v) (hne : some b ≠ row) : w'.cell? ⟨b, o, none⟩ = some v := by
  have hbk := hg.block b (World.block_lt_of_cell? w _ hc) hne
  unfold World.cell? at hc ⊢
  rw [hbk]
  exact hc
theorem upon_put {P : Program} {k b n : Nat} {f g : Value → Option Value} {W : World} {o : Oper} {a : Act} {K : Act → World → Prop} {Q : Exit → Act → World → Prop} (h : MapIs P k b n f W) (K0 : Maps.Keyed P k) {t e : TypeId} (ht : P.underlying t = some (.map k e)) (hn : n < maxLen) {key val : Value} {kl : Lit} (hkey : keyOf P k key = some kl)
    (hg : g key = some val) (hg' : ∀ x, x ≠ key → g x = f x) (hK : ∀ w', MapIs P k b (n + 1) g w' → W.grownBy w' (some b) → K (a.put o.dst undef) w') : Oper.upon P o a K Q (((Instr.mapUpdate t (.map (some b)) key val).run P W).andThen fun _ w' => Result.ok Next.skip w') := by
  obtain ⟨w', hr, h1, h2⟩ := h.put K0 ht hn hkey hg hg'
  rw [hr]
  exact hK w' h1 h2
theorem grown_below {N : Nat} {a w w' : World} {b : Nat} (h : Below N a w) (hg : w.grownBy w' (some b)) (hN : N ≤ w.heap.size) (hb : N ≤ b) : Below N a w' := h.grown hg hN (fun j hj => by injection hj with hj; subst hj; exact hb)
theorem NewIs.putR {N : Nat} {xs : List RuleB} {gs : List (List UInt8)} {bs : List UInt8} {n m : Nat} {w w' : World} {r : RuleB} (h : NewIs N xs gs bs n m w) (hm : MapIs Tryz.prog 9 N (n + 1) (rulesF (xs ++ [r])) w') (hg : w.grownBy w' (some N)) : NewIs N (xs ++ [r]) gs bs (n + 1) m w' :=
  ⟨hm, h.parts.grown hg (by simp), by rw [hg.block _ (heap_lt h.box) (by simp; omega)]; exact h.box, h.used.of_block (hg.block _ h.used.lt (by simp; omega))⟩
theorem NewIs.putP {N : Nat} {xs : List RuleB} {gs : List (List UInt8)} {bs : List UInt8} {n m : Nat} {w w' : World} {g : List UInt8} (h : NewIs N xs gs bs n m w) (hm : MapIs Tryz.prog 9 (N + 1) (m + 1) (seenF (gs ++ [g])) w') (hg : w.grownBy w' (some (N + 1))) : NewIs N xs (gs ++ [g]) bs n (m + 1) w' :=
  ⟨h.rules.grown hg (by simp), hm, by rw [hg.block _ (heap_lt h.box) (by simp)]; exact h.box, h.used.of_block (hg.block _ h.used.lt (by simp; omega))⟩
theorem MapIs.setOther {P : Program} {k b n : Nat} {f : Value → Option Value} {w : World} (h : MapIs P k b n f w) (c i : Nat) (v : Value) (hne : b ≠ c) : MapIs P k b n f (w.setCell ⟨c, i, none⟩ v) := h.block (Go.Deep.blk_setCell_other _ _ _ _ hne)
theorem NewIs.mark {N : Nat} {xs : List RuleB} {gs : List (List UInt8)} {bs : List UInt8} {n m : Nat} {w : World} (h : NewIs N xs gs bs n m w) (c : UInt8) : NewIs N xs gs (bs ++ [c]) n m (w.setCell ⟨N + 1 + 1 + 1, c.toNat, none⟩ (.bool true)) :=
  ⟨h.rules.setOther _ _ _ (by omega), h.parts.setOther _ _ _ (by omega), by rw [Go.Deep.blk_setCell_other _ _ _ _ (by show N + 1 + 1 ≠ N + 1 + 1 + 1; omega)]; exact h.box, (h.used.set c.toNat (.bool true)).congr (fun i hi => usedV_set bs c i hi)⟩
theorem zc256 : Tryz.zeroCells85 = Array.replicate 256 (Value.bool false) := by kernel_rfl
theorem newIs_start (w : World) : NewIs w.heap.size [] [] [] 0 0 ((((w.alloc (.map #[] 0)).alloc (.map #[] 0)).alloc (.cells #[.map (some w.heap.size), .map (some (w.heap.size + 1)), .slice none 0 0] 84)).alloc (.cells Tryz.zeroCells85 85)) := by
  have h1 : MapIs Tryz.prog 9 w.heap.size 0 (rulesF []) (w.alloc (.map #[] 0)) := (MapIs.made _ _ w).congr (fun key _ _ => by cases key <;> rfl)
  have h2 : MapIs Tryz.prog 9 (w.heap.size + 1) 0 (seenF []) ((w.alloc (.map #[] 0)).alloc (.map #[] 0)) := by
    have := (MapIs.made Tryz.prog 9 (w.alloc (.map #[] 0))).congr (g := seenF []) (fun key _ _ => by rw [seenF_nil])
    rwa [World.size_alloc] at this
  refine ⟨((h1.alloc _).alloc _).alloc _, (h2.alloc _).alloc _, ?_, ?_⟩
  · have h3 := (MapKept.heap_alloc ((w.alloc (.map #[] 0)).alloc (.map #[] 0)) (.cells #[.map (some w.heap.size), .map (some (w.heap.size + 1)), .slice none 0 0] 84)).1
    rw [World.size_alloc, World.size_alloc] at h3
    exact (Lib.alloc_old _ _ _ (heap_lt h3)).trans h3
  · have h4 := World.rowIs_alloc (((w.alloc (.map #[] 0)).alloc (.map #[] 0)).alloc (.cells #[.map (some w.heap.size), .map (some (w.heap.size + 1)), .slice none 0 0] 84)) Tryz.zeroCells85 85 (usedV []) (fun i hi => by
      rw [zc256] at hi ⊢
      rw [Array.size_replicate] at hi
      rw [Array.getElem?_replicate, if_pos hi]; rfl)
    rw [World.size_alloc, World.size_alloc, World.size_alloc] at h4
    rw [show (256 : Nat) = Tryz.zeroCells85.size by rw [zc256, Array.size_replicate]]
    exact h4
theorem cell_setOther {w : World} {b o c i : Nat} {v u : Value} (h : w.cell? ⟨b, o, none⟩ = some u) (hne : b ≠ c) : (w.setCell ⟨c, i, none⟩ v).cell? ⟨b, o, none⟩ = some u := by
  have hb := heap_setCell_other w ⟨c, i, none⟩ b v hne
  unfold World.cell? at h ⊢
  rw [hb]
  exact h
theorem OwnG.setOther {α : Type} {E : Enc α} {T : TypeId} {B : Nat} {v : Value} {xs : List α} {w : World} (h : OwnG E T B v xs w) (c i : Nat) (u : Value) (hc : c < B) : OwnG E T B v xs (w.setCell ⟨c, i, none⟩ u) := by
  obtain ⟨h1, h2 | ⟨g, cap, cur, hv, hB', hg, r⟩⟩ := h
  · exact ⟨h1, .inl h2⟩
  · exact ⟨h1, .inr ⟨g, cap, cur, hv, hB', by rw [heap_setCell_other w ⟨c, i, none⟩ g u (by show g ≠ c; omega)]; exact hg, r⟩⟩
theorem info256 : (Tryz.prog.info? 85).map (·.size) = some 256 := by kernel_rfl
theorem index256 (cs : Array Value) (i : Nat) (b : Bool) (hi : i < 256) (h : cs[i]? = some (.bool b)) (w : World) : (Instr.index 85 (.agg cs) (.int .i64 (i : Int))).run Tryz.prog w = .ok (.bool b) w := by
  have e1 : (0 : Int) ≤ (i : Int) ∧ (i : Int) < 256 := by omega
  have hu := Tryz.underlying85
  simp [Instr.index, run_underlying hu, asIntOf, e1, go_sem, part, h]
  intro h'; omega
def bytesApp : AppT Tryz.prog byteE 57 5 where
  z := .int .u8 0
  bytes := 1
  under := Tryz.underlying57
  info := infoByte
  zsz := rfl
/-- what the last loop holds -/
structure DoneIs (N : Nat) (xs : List RuleB) (gs : List (List UInt8)) (kv : Value) (ks : List UInt8) (n m : Nat) (w : World) : Prop where
  rules : MapIs Tryz.prog 9 N n (rulesF xs) w
  parts : MapIs Tryz.prog 9 (N + 1) m (seenF gs) w
  box : w.heap[N + 1 + 1]? = some (.cells #[.map (some N), .map (some (N + 1)), kv] 84 (0, 0))
  keys : OwnG byteE 5 (N + 1 + 1 + 1) kv ks w
theorem NewIs.done {N : Nat} {xs : List RuleB} {gs : List (List UInt8)} {bs : List UInt8} {n m : Nat} {w : World} (h : NewIs N xs gs bs n m w) : DoneIs N xs gs (.slice none 0 0) [] n m w := ⟨h.rules, h.parts, h.box, OwnG.nil _ _ _⟩
theorem NewIs.more {N : Nat} {xs : List RuleB} {gs : List (List UInt8)} {bs : List UInt8} {n m m2 : Nat} {w : World} (h : NewIs N xs gs bs n m w) (hm : m ≤ m2) : NewIs N xs gs bs n m2 w := ⟨h.rules, h.parts.mono hm, h.box, h.used⟩
theorem DoneIs.app {N : Nat} {xs : List RuleB} {gs : List (List UInt8)} {kv v' : Value} {ks : List UInt8} {c : UInt8} {n m : Nat} {w w' : World} (h : DoneIs N xs gs kv ks n m w) (o : Obj) (hk : OwnG byteE 5 (N + 1 + 1 + 1) v' (ks ++ [c]) w') (hg : (w.alloc o).grownBy w' kv.ownBlock) : DoneIs N xs gs v' (ks ++ [c]) n m (w'.setCell ⟨N + 1 + 1, 2, none⟩ v') := by
  have hne : ∀ b, b < N + 1 + 1 + 1 → some b ≠ kv.ownBlock := fun b hb e => by
    have := (h.keys.block_lt b e.symm).1
    omega
  have hb : w'.heap[N + 1 + 1]? = some (.cells #[.map (some N), .map (some (N + 1)), kv] 84 (0, 0)) := by
    rw [hg.block _ (by simp; have := heap_lt h.box; omega) (hne _ (by omega)), Lib.alloc_old _ _ _ (heap_lt h.box)]
    exact h.box
  exact ⟨((h.rules.alloc o).grown hg (hne _ (by omega))).setOther _ _ _ (by omega), ((h.parts.alloc o).grown hg (hne _ (by omega))).setOther _ _ _ (by omega), heap_setCell_same w' _ 2 _ _ v' hb, hk.setOther _ _ _ (by omega)⟩
theorem DoneIs.c2 {N : Nat} {xs : List RuleB} {gs : List (List UInt8)} {kv : Value} {ks : List UInt8} {n m : Nat} {w : World} (h : DoneIs N xs gs kv ks n m w) : w.cell? ⟨N + 1 + 1, 2, none⟩ = some kv ∧ w.frozen? ⟨N + 1 + 1, 2, none⟩ = false := ⟨by rw [Lib.cell_of_heap h.box]; rfl, Lib.frozen_of_heap h.box 2⟩
/-- New's result -/
def NewV (xs : List RuleB) (e : Ending) (w : World) : Prop := (Ro.check (rulesL xs) ≠ 0 ∧ e = .returned (.tuple #[.pointer none, .int .i64 (Ro.check (rulesL xs) : Nat)])) ∨
  (Ro.check (rulesL xs) = 0 ∧ ∃ a, e = .returned (.tuple #[.pointer (some ⟨a, 0, none⟩), .int .i64 0]) ∧ AutoIs w.heap.size xs a w)
set_option maxRecDepth 100000 in
set_option maxHeartbeats 4000000 in
theorem new_any (v : Value) (xs : List RuleB) (w : World) (h : LieR v xs w) (hn : xs.length ≤ 1000000000000) (hz : Short3 xs) (ht : Tabs w) :
    Calls Tryz.prog 13 #[v] w fun e w' => NewV xs e w' ∧ Below w.heap.size w w' := by
  have HL := Lib.hid h
  have HT := Lib.hid ht
  have HZ := Lib.hid hz
  clear h ht hz
  by_cases hc : Ro.check (rulesL xs) = 0
  · have HC := Eqq.mk hc
    clear hc
    have hmm := @run_makeMap Tryz.prog
    go_enter Tryz.func13, Tryz.ntmps13
    go_wp2_with fail
    with_reducible refine (check_any v xs _ HL.out hn HZ.out HT.out).mono ?_
    rw [HC.out]
    rintro e w1 ⟨rfl, hb⟩
    have HB1 := Lib.hid hb
    have HL1 := Lib.hid (HL.out.keep hb)
    clear hb
    obtain ⟨ao, cap, rfl, hcap, hx⟩ := HL1.out
    obtain ⟨n, hn2⟩ : ∃ n, xs.length = n := ⟨_, rfl⟩
    have HN := Eqq.mk hn2
    rw [hn2] at hn ⊢
    have hn5 : n ≤ 500 := by
      have := ((Ro.check_zero _).1 HC.out).1
      unfold rulesL at this
      rw [List.length_map, hn2] at this
      exact this
    have HX := Lib.hid hx
    have HI0 := Lib.hid (newIs_start w1)
    have HB0 := Lib.hid (((((Below.refl w1.heap.size w1).alloc (Nat.le_refl _) (.map #[] 0)).alloc (by simp) (.map #[] 0)).alloc (by simp; omega) (.cells #[.map (some w1.heap.size), .map (some (w1.heap.size + 1)), .slice none 0 0] 84)).alloc (by simp; omega) (.cells Tryz.zeroCells85 85))
    obtain ⟨N, hN⟩ : ∃ N, w1.heap.size = N := ⟨_, rfl⟩
    have HNN := Eqq.mk hN
    clear hx hcap hn2
    go_wp2_with fail
    clear hmm
    rw [hN] at HI0
    go_loopw [23] (fun iv wr => ∃ k : Nat, k ≤ n ∧ iv = .int .i64 k ∧ NewIs N (xs.take k) (Au.begs (rulesL (xs.take k))) (Au.bytesOf (rulesL (xs.take k))) k (4 * k) wr ∧ Below N w1 wr) (fun iv _ => n - (intOf iv).toNat)
    case atStart => exact ⟨0, Nat.zero_le _, rfl, HI0.out, by have h := HB0.out; rw [hN] at h; exact h⟩
    case round =>
      obtain ⟨k, hk, rfl, hi, hb⟩ := hrel
      have HI := Lib.hid hi
      have HB := Lib.hid hb
      clear hi hb
      by_cases hlt : k < n
      · have hkl : k < xs.length := by rw [HN.out]; exact hlt
        obtain ⟨r, hr⟩ : ∃ r, xs[k]? = some r := ⟨_, List.getElem?_eq_getElem hkl⟩
        obtain ⟨g, o, rfl, d1, d2, d3⟩ := HX.out k r hr
        have c1 := below_cellU d1 HB.out (by omega)
        have c2 := below_cellU d2 HB.out (by omega)
        have c3 := below_cellU d3 HB.out (by omega)
        have HNW := Lib.hid (good_new HC.out k r hr)
        have HTK := Eqq.mk (take_snocR xs k r hr)
        have HTL := Eqq.mk (rulesL_take xs k r hr)
        obtain ⟨z0, z1, z2, z3⟩ := rule_of HC.out (List.mem_of_getElem? hr)
        obtain ⟨r1, r2, r3⟩ := r
        dsimp only at c1 c2 c3 z0 z1 z2 z3 HNW
        have hlt4 := HI.out.used.lt
        have HKP := Lib.hid (fun (W : World) (hW : Below (wr.heap.size + 1) (wr.alloc (.cells #[.string r1, .string r2, .string r3] 87)) W) => (show W.cell? ⟨N + 1 + 1, 0, none⟩ = some (.map (some N)) ∧ W.cell? ⟨N + 1 + 1, 1, none⟩ = some (.map (some (N + 1))) ∧ W.cell? ⟨wr.heap.size, 0, none⟩ = some (.string r1) ∧ W.cell? ⟨wr.heap.size, 1, none⟩ = some (.string r2) ∧ W.cell? ⟨wr.heap.size, 2, none⟩ = some (.string r3) from
          ⟨below_cellU ((HI.out.grown ((Below.refl _ _).alloc (Nat.le_refl _) _)).c0) hW (by simp), below_cellU ((HI.out.grown ((Below.refl _ _).alloc (Nat.le_refl _) _)).c1) hW (by simp), below_cellU (box3_0 wr _ _ _ _) hW (by simp), below_cellU (box3_1 wr _ _ _ _) hW (by simp), below_cellU (box3_2 wr _ _ _ _) hW (by simp)⟩))
        have HB2 := Lib.hid (show Below N w1 (wr.alloc (.cells #[.string r1, .string r2, .string r3] 87)).drew from (HB.out.alloc (by omega) _).drew)
        have HI2 := Lib.hid (show NewIs N (xs.take k) (Au.begs (rulesL (xs.take k))) (Au.bytesOf (rulesL (xs.take k))) k (4 * k) (wr.alloc (.cells #[.string r1, .string r2, .string r3] 87)).drew from HI.out.grown ((Below.refl _ _).alloc (Nat.le_refl _) _).drew)
        clear hr d1 d2 d3
        go_wp2_with fail
        go_region_held3 (fun W => W.cell? ⟨N + 1 + 1, 0, none⟩ = some (.map (some N)) ∧ W.cell? ⟨N + 1 + 1, 1, none⟩ = some (.map (some (N + 1))) ∧ W.cell? ⟨wr.heap.size, 0, none⟩ = some (.string r1) ∧ W.cell? ⟨wr.heap.size, 1, none⟩ = some (.string r2) ∧ W.cell? ⟨wr.heap.size, 2, none⟩ = some (.string r3))
          (first | exact HKP.out _ (Below.refl _ _) | exact HKP.out _ (Below.refl _ _).drew | exact HK5.out)
          ((refine upon_put HI2.out.rules keyStr Tryz.underlying81 (by unfold maxLen; omega) (WideMaps.keyOf_string_mk Tryz.underlying9 (show r1.size ≤ maxLen by unfold maxLen; omega)) (rulesF_put _ (r1, r2, r3) HNW.out) (fun x hx => rulesF_other _ (r1, r2, r3) x hx) ?_
            intro w5 hm5 hg5
            have HI5 := Lib.hid (HI2.out.putR hm5 hg5)
            have HB5 := Lib.hid (grown_below HB2.out hg5 (by have := HB2.out.size; omega) (Nat.le_refl _))
            have HK5 := Lib.hid (show w5.cell? ⟨N + 1 + 1, 0, none⟩ = some (.map (some N)) ∧ w5.cell? ⟨N + 1 + 1, 1, none⟩ = some (.map (some (N + 1))) ∧ w5.cell? ⟨wr.heap.size, 0, none⟩ = some (.string r1) ∧ w5.cell? ⟨wr.heap.size, 1, none⟩ = some (.string r2) ∧ w5.cell? ⟨wr.heap.size, 2, none⟩ = some (.string r3) from
              ⟨HI5.out.c0, HI5.out.c1, cell_grownx hg5 (box3_0 wr _ _ _ _) (by simp; omega), cell_grownx hg5 (box3_1 wr _ _ _ _) (by simp; omega), cell_grownx hg5 (box3_2 wr _ _ _ _) (by simp; omega)⟩)
            clear hm5 hg5))
        rename_i hHeld
        have q2 := hHeld.2.2.1
        clear hHeld
        obtain ⟨rl, hrl⟩ : ∃ rl, r1.data.toList = rl := ⟨_, rfl⟩
        have HR1 := Lib.hid (show Is r1 rl from hrl)
        have HRZ := Eqq.mk (show rl.length = r1.size by rw [← hrl, (Is.of r1).size])
        obtain ⟨blk, hblk⟩ : ∃ blk, wr.heap.size = blk := ⟨_, rfl⟩
        rw [hblk] at q2
        obtain ⟨G, hG⟩ : ∃ G, Au.begs (rulesL (xs.take k)) = G := ⟨_, rfl⟩
        obtain ⟨Bz, hBz⟩ : ∃ Bz, Au.bytesOf (rulesL (xs.take k)) = Bz := ⟨_, rfl⟩
        have HG := Lib.hid (show Au.begs (rulesL (xs.take (k + 1))) = G ++ (List.range r1.size).map (fun i => rl.take i) by
          rw [HTL.out, Au.begs_snoc, hG, ← HRZ.out, ← hrl]; rfl)
        have HBz := Lib.hid (show Au.bytesOf (rulesL (xs.take (k + 1))) = Bz ++ rl by
          rw [HTL.out, Au.bytes_snoc, hBz, ← hrl]; rfl)
        rw [hG, hBz] at HI5
        have hq4 : N + 1 + 1 + 1 < blk := by omega
        clear hG hBz hrl HI2 HB2 HKP HI HB c1 c2 c3
        go_wp2_with fail
        try rw [hblk]
        clear hblk
        go_loopw [37] (fun jv wr => ∃ j : Nat, j ≤ r1.size ∧ jv = .int .i64 j ∧ NewIs N (xs.take k ++ [(r1, r2, r3)]) (G ++ (List.range j).map (fun i => rl.take i)) (Bz ++ rl.take j) (k + 1) (4 * k + j) wr ∧ wr.cell? ⟨blk, 0, none⟩ = some (.string r1) ∧ Below N w1 wr) (fun jv _ => r1.size - (intOf jv).toNat)
        case atStart => exact ⟨0, Nat.zero_le _, rfl, by rw [List.range_zero, List.map_nil, List.append_nil, List.take_zero, List.append_nil]; exact HI5.out, q2, HB5.out⟩
        case round =>
          obtain ⟨j, hj, rfl, hi, hq, hb⟩ := hrel
          have HI := Lib.hid hi
          have HB := Lib.hid hb
          have hwz := HI.out.used.lt
          have hbz := World.block_lt_of_cell? _ _ hq
          clear hi hb
          by_cases hjl : j < r1.size
          · obtain ⟨x, hx⟩ : ∃ x, r1[j]'hjl = x := ⟨_, rfl⟩
            have hget := HR1.out.get j hjl
            rw [hx] at hget
            have HT1 := Eqq.mk (show rl.take (j + 1) = rl.take j ++ [x] by
              have hjr : j < rl.length := by rw [HRZ.out]; exact hjl
              rw [List.getElem?_eq_getElem hjr] at hget
              injection hget with hget
              rw [List.take_succ_eq_append_getElem hjr, hget])
            have HY := Lib.hid (HR1.out.upto j)
            obtain ⟨y, hy⟩ : ∃ y, r1.extract 0 j = y := ⟨_, rfl⟩
            rw [hy] at HY
            have hys : y.size ≤ 4 := by rw [HY.out.size, List.length_take]; have := HRZ.out; omega
            have hx256 : x.toNat < 256 := x.toNat_lt
            have g1 : (x.toNat : Int) < 256 := by omega
            have g2 : (0 : Int) ≤ (x.toNat : Int) := by omega
            have g3 : (0 : Int) ≤ (j : Int) := by omega
            have g4 : (j : Int) ≤ (r1.size : Int) := by omega
            have g5 : (j : Int) < (r1.size : Int) := by omega
            have HC1 := Lib.hid HI.out.c1
            have HKQ := Lib.hid (fun (W : World) (hW : Below wr.heap.size wr W) => (show W.cell? ⟨N + 1 + 1, 1, none⟩ = some (.map (some (N + 1))) ∧ W.cell? ⟨blk, 0, none⟩ = some (.string r1) from ⟨below_cellU HC1.out hW (Nat.le_refl _), below_cellU hq hW (Nat.le_refl _)⟩))
            have HI2 := Lib.hid (show NewIs N (xs.take k ++ [(r1, r2, r3)]) (G ++ (List.range j).map (fun i => rl.take i)) (Bz ++ rl.take j) (k + 1) (4 * k + j) wr.drew from HI.out.grown (Below.refl _ _).drew)
            have HB2 := Lib.hid (show Below N w1 wr.drew from HB.out.drew)
            have HQ := Lib.hid hq
            clear hget hq
            go_wp2_with fail
            go_region_held3 (fun W => W.cell? ⟨N + 1 + 1, 1, none⟩ = some (.map (some (N + 1))) ∧ W.cell? ⟨blk, 0, none⟩ = some (.string r1))
              (first | exact HKQ.out _ (Below.refl _ _) | exact HKQ.out _ (Below.refl _ _).drew | exact HK6.out)
              ((refine upon_put HI2.out.parts keyStr Tryz.underlying82 (by unfold maxLen; omega) (WideMaps.keyOf_string_mk Tryz.underlying9 (show y.size ≤ maxLen by unfold maxLen; omega)) (seenF_put _ y) (fun x hx => seenF_other _ y x hx) ?_
                intro w6 hm6 hg6
                have HI6 := Lib.hid (HI2.out.putP hm6 hg6)
                have HB6 := Lib.hid (grown_below HB2.out hg6 (by have := HB2.out.size; omega) (by omega))
                have HK6 := Lib.hid (show w6.cell? ⟨N + 1 + 1, 1, none⟩ = some (.map (some (N + 1))) ∧ w6.cell? ⟨blk, 0, none⟩ = some (.string r1) from ⟨HI6.out.c1, cell_grownx hg6 (show wr.drew.cell? ⟨blk, 0, none⟩ = some (.string r1) from HQ.out) (by simp; omega)⟩)
                clear hm6 hg6))
            rename_i hHeld
            have q5 := hHeld.2
            clear hHeld
            have hu1 := HI6.out.used.cell hx256
            have hu2 := HI6.out.used.frozen x.toNat
            have HI7 := Lib.hid (HI6.out.mark x)
            have HQ7 := Lib.hid (cell_setOther (c := N + 1 + 1 + 1) (i := x.toNat) (v := .bool true) q5 (by omega))
            have HB7 := Lib.hid (HB6.out.setCell (p := ⟨N + 1 + 1 + 1, x.toNat, none⟩) (by show N ≤ N + 1 + 1 + 1; omega) (.bool true))
            go_wp2_with fail
            go_roundw
            case rel =>
              refine ⟨j + 1, by omega, by go_num, ?_, HQ7.out, HB7.out⟩
              have h := HI7.out
              rw [HY.out.data, List.append_assoc, List.append_assoc] at h
              rw [List.range_succ, List.map_append, List.map_singleton, HT1.out]
              exact h
            case measure => simp [intOf]; omega
          · obtain rfl : j = r1.size := by omega
            have HI8 := Lib.hid (show NewIs N (xs.take (k + 1)) (Au.begs (rulesL (xs.take (k + 1)))) (Au.bytesOf (rulesL (xs.take (k + 1)))) (k + 1) (4 * (k + 1)) wr by
              rw [HG.out, HBz.out, HTK.out]
              have h := HI.out
              rw [show rl.take r1.size = rl by rw [← HRZ.out, List.take_length]] at h
              exact h.more (by omega))
            go_wp2_with fail
            go_roundw
            case rel => exact ⟨k + 1, by omega, by go_num, HI8.out, HB.out⟩
            case measure => simp [intOf]; omega
      · obtain rfl : k = n := by omega
        have HTK := Eqq.mk (show xs.take k = xs by rw [← HN.out, List.take_length])
        rw [HTK.out] at HI
        obtain ⟨cs, hcs, hsz, hci⟩ := HI.out.used
        have HCS := Lib.hid hcs
        have HCI := Lib.hid hci
        have HD := Lib.hid HI.out.done
        obtain ⟨Bz, hBz⟩ : ∃ Bz, Au.bytesOf (rulesL xs) = Bz := ⟨_, rfl⟩
        have HBz := Eqq.mk hBz
        rw [hBz] at HCI
        clear hcs hci HI hBz
        go_wp2_with (with_reducible refine wpList_load_row rfl 85 _ rfl (N + 1 + 1 + 1) rfl 85 cs (0, 0) _ HCS.out Tryz.underlying85 rfl (by rw [hsz]; exact info256) ?_)
        go_loopw [56] (fun iv wr => ∃ (i : Nat) (kv : Value), i ≤ 256 ∧ iv = .int .i64 i ∧ DoneIs N xs (Au.begs (rulesL xs)) kv (Au.usedKeys Bz i) k (4 * k) wr ∧ Below N w1 wr) (fun iv _ => 256 - (intOf iv).toNat)
        case atStart => exact ⟨0, _, Nat.zero_le _, rfl, HD.out, HB.out⟩
        case round =>
          obtain ⟨i, kv, hi, rfl, hd, hb⟩ := hrel
          have HD := Lib.hid hd
          have HB := Lib.hid hb
          clear hd hb
          by_cases hil : i < 256
          · have HUS := Eqq.mk (Au.usedKeys_succ Bz i)
            obtain ⟨u, hu⟩ : ∃ u, Bz.contains (UInt8.ofNat i) = u := ⟨_, rfl⟩
            have HU := Eqq.mk hu
            have hix := fun W => index256 cs i u hil (by have h := HCI.out i hil; unfold usedV at h; rw [hu] at h; exact h) W
            have e1 : (i : Int) < 256 := by omega
            clear hu
            cases u
            · have HUK := Eqq.mk (show Au.usedKeys Bz (i + 1) = Au.usedKeys Bz i by rw [HUS.out, HU.out, if_neg (by simp), List.append_nil])
              go_wp2_with fail
              go_roundw
              case rel => exact ⟨i + 1, kv, by omega, by go_num, by rw [HUK.out]; exact HD.out, HB.out⟩
              case measure => simp [intOf]; omega
            · have HUK := Eqq.mk (show Au.usedKeys Bz (i + 1) = Au.usedKeys Bz i ++ [UInt8.ofNat i] by rw [HUS.out, HU.out, if_pos rfl])
              obtain ⟨d1, d2⟩ := HD.out.c2
              have hwz := heap_lt HD.out.box
              have hw8 : IntKind.u8.wrap (i : Int) = (i : Int) := by simp [IntKind.wrap, IntKind.bits, IntKind.signed]; omega
              have hlen := Au.usedKeys_len Bz i
              have hcc : ((UInt8.ofNat i).toNat : Int) = (i : Int) := by rw [UInt8.toNat_ofNat', Nat.mod_eq_of_lt hil]
              have HSR := Lib.hid (show SrcG byteE (.slice (some ⟨wr.heap.size, 0, none⟩) 1 1) [UInt8.ofNat i] (wr.alloc (.cells #[.int .u8 (i : Int)] 5)) from
                SrcG.one (fun j u hu => by
                  have hu' : ([Value.int .u8 ((UInt8.ofNat i).toNat : Int)] : List Value)[j]? = some u := hu
                  rw [hcc] at hu'
                  exact new_cells wr [.int .u8 (i : Int)] 5 j u hu'))
              obtain ⟨ao2, cap2, rfl⟩ := HD.out.keys.frame
              clear hcc
              go_wp2_with (at_builtin; refine wpList_append_g bytesApp _ rfl _ _ rfl (N + 1 + 1 + 1) _ _ rfl (HD.out.keys.alloc _) _ [UInt8.ofNat i] rfl HSR.out (by simp; unfold maxLen; omega) (by show (_ + 1) * 1 ≤ _; omega) (by simp; omega) ?_)
              intro v' w' ho' hg'
              have HD2 := Lib.hid (HD.out.app _ ho' hg')
              have f1 : w'.cell? ⟨N + 1 + 1, 2, none⟩ = some (.slice ao2 (Au.usedKeys Bz i).length cap2) := cell_grownx hg' (by rw [World.cell?_alloc_past _ _ _ hwz]; exact d1) (fun e => by have := (HD.out.keys.block_lt _ e.symm).1; omega)
              have f2 : w'.frozen? ⟨N + 1 + 1, 2, none⟩ = false := by
                have hb : w'.heap[N + 1 + 1]? = (wr.alloc (.cells #[.int .u8 (i : Int)] 5)).heap[N + 1 + 1]? := hg'.block _ (by simp; omega) (fun e => by have := (HD.out.keys.block_lt _ e.symm).1; omega)
                rw [Lib.alloc_old _ _ _ hwz] at hb
                exact Lib.frozen_of_heap (hb.trans HD.out.box) 2
              have HB2 := Lib.hid (((HB.out.alloc (by have := HB.out.size; omega) (.cells #[.int .u8 (i : Int)] 5)).grown hg' (by have := HB.out.size; simp; omega) (fun b hb => by have := (HD.out.keys.block_lt b hb).1; omega)).setCell (p := ⟨N + 1 + 1, 2, none⟩) (by show N ≤ N + 1 + 1; omega) v')
              obtain ⟨ao3, cap3, hv3⟩ := ho'.frame
              rw [List.length_append, List.length_singleton] at hv3
              subst hv3
              clear ho' hg' d1 d2
              go_wp2_with fail
              go_roundw
              case rel => exact ⟨i + 1, _, by omega, by go_num, by rw [HUK.out]; exact HD2.out, HB2.out⟩
              case measure => simp [intOf]; omega
          · obtain rfl : i = 256 := by omega
            have HA := Lib.hid (show AutoIs wr.heap.size xs (N + 1 + 1) wr from
              ⟨heap_lt HD.out.box, HC.out, N, N + 1, kv, _, HD.out.rules.lt, HD.out.parts.lt, by rw [Lib.cell_of_heap HD.out.box]; rfl, by rw [Lib.cell_of_heap HD.out.box]; rfl, by rw [Lib.cell_of_heap HD.out.box]; rfl,
                HD.out.rules.mono (by omega), (HD.out.parts.mono (by omega : 4 * k ≤ 10000)).congr (fun key _ _ => by
                  cases key <;> try rfl
                  unfold partsF seenF
                  dsimp only
                  rw [Au.begs_longer]), ⟨by have := Au.usedKeys_len Bz 256; exact this, fun c => by rw [Au.usedKeys_mem, ← HBz.out, Au.bytes_mem]⟩, ⟨_, HD.out.keys⟩, fun b hb => (HD.out.keys.block_lt b hb).2⟩)
            go_wp2_with fail
            go_ret2
            exact ⟨.inr ⟨HC.out, _, by first | rfl | trivial, HA.out⟩, HB1.out.trans (HB.out.mono (by rw [← HNN.out]; exact HB1.out.size))⟩
  · obtain ⟨n, hn2⟩ : ∃ n, Ro.check (rulesL xs) = n := ⟨_, rfl⟩
    have HC := Eqq.mk hn2
    rw [hn2] at hc
    have hd : ¬ ((n : Int) = 0) := by omega
    have hd2 : ((n : Int) == 0) = false := by rw [beq_eq_false_iff_ne]; exact hd
    clear hn2
    go_enter Tryz.func13, Tryz.ntmps13
    go_wp2_with fail
    with_reducible refine (check_any v xs _ HL.out hn HZ.out HT.out).mono ?_
    rw [HC.out]
    rintro e w1 ⟨rfl, hb⟩
    have HB1 := Lib.hid hb
    clear hb
    go_wp2_with fail
    go_ret2
    exact ⟨.inl ⟨by rw [HC.out]; exact hc, by rw [HC.out]; first | rfl | trivial⟩, HB1.out⟩
end Go.Proofs.YtgdcffahhpeibaaGreatDoor
