/-
  What RomanKnown asks besides: henkanlaw05.number by its contract; a row of bytes that is filled. No condition but the number's own bound.
-/
import Derived.Test.YtgdcffahhpeibaaDoorRoDoor
import Derived.Test.YtgdcffahhpeibaaDoorRoKnownMath
import Derived.Lib.SlBytesRow
import Derived.OwnWalk
namespace Go.Proofs.YtgdcffahhpeibaaDoor
open Go.RowKit
set_option linter.unusedVariables false
theorem number_conv (w : World) (i : Nat) (hi : i < 676) : (Go.convert 41 9 (.slice (some ⟨w.heap.size, 0, none⟩) 2 2)).run Tryd.prog (w.alloc (.cells #[.int .u8 (97 + (i : Int) / 26), .int .u8 (97 + (i : Int) % 26)] 5)) =
    .ok (.string (ba (Ro.numB i))) (w.alloc (.cells #[.int .u8 (97 + (i : Int) / 26), .int .u8 (97 + (i : Int) % 26)] 5)) := by
  refine Lib.run_convert_whole (P := Tryd.prog) _ 41 5 9 Tryd.underlying41 Tryd.underlying5 Tryd.underlying9 w.heap.size 0 (ba (Ro.numB i)) (fun j hj => ?_) 2
  rw [ba_size] at hj
  have hj2 : j < 2 := hj
  rw [Nat.zero_add, Lib.cell_of_heap (MapKept.heap_alloc w _).1]
  rcases (show j = 0 ∨ j = 1 by omega) with rfl | rfl
  · show some (Value.int .u8 (97 + (i : Int) / 26)) = some (.int .u8 ((UInt8.ofNat (97 + i / 26)).toNat : Int))
    rw [UInt8.toNat_ofNat', Nat.mod_eq_of_lt (by omega)]
    congr 2
  · show some (Value.int .u8 (97 + (i : Int) % 26)) = some (.int .u8 ((UInt8.ofNat (97 + i % 26)).toNat : Int))
    rw [UInt8.toNat_ofNat', Nat.mod_eq_of_lt (by omega)]
    congr 2
set_option maxRecDepth 100000 in
theorem number_any (i : Nat) (hi : i < 676) (w : World) :
    Calls Tryd.prog 15 #[.int .i64 (i : Int)] w fun e w' => e = .returned (.string (ba (Ro.numB i))) ∧ Below w.heap.size w w' := by
  have hcv := number_conv w i hi
  have HBA := Lib.hid ((Below.refl w.heap.size w).alloc (Nat.le_refl _) (.cells #[.int .u8 (97 + (i : Int) / 26), .int .u8 (97 + (i : Int) % 26)] 5))
  obtain ⟨s, hs⟩ : ∃ s, ba (Ro.numB i) = s := ⟨_, rfl⟩
  have HS := Eqq.mk hs
  rw [hs] at hcv
  have a0 : (0 : Int) ≤ (i : Int) := by omega
  have a1 : (i : Int) ≤ 675 := by omega
  clear hs
  go_enter Tryd.func15, Tryd.ntmps15
  go_wp2_with fail
  go_ret
  exact ⟨by rw [HS.out]; rfl, HBA.out⟩
/-- a row of bytes: i of them are '#' -/
def LongR (g i : Nat) (w : World) : Prop := ∀ j, j < 1048577 → w.frozen? ⟨g, j, none⟩ = false ∧ (∃ u, w.cell? ⟨g, j, none⟩ = some u) ∧ (j < i → w.cell? ⟨g, j, none⟩ = some (.int .u8 35))
theorem LongR.set {g i : Nat} {w : World} (h : LongR g i w) (hi : i < 1048577) : LongR g (i + 1) (w.setCell ⟨g, i, none⟩ (.int .u8 35)) := fun j hj => by
  obtain ⟨hf, ⟨u, hu⟩, h35⟩ := h j hj
  refine ⟨by rw [World.frozen?_setCell]; exact hf, ?_⟩
  by_cases e : i = j
  · subst e
    have := World.cell?_setCell_same (v := .int .u8 35) (h := hu) ..
    exact ⟨⟨_, this⟩, fun _ => this⟩
  · have hne : (⟨g, i, none⟩ : Addr) ≠ ⟨g, j, none⟩ := fun h => by injection h with _ h; exact e h
    rw [World.cell?_setCell_other (h := hne) ..]
    exact ⟨⟨u, hu⟩, fun h => h35 (by omega)⟩
theorem LongR.keep {g i : Nat} {w w' : World} (h : LongR g i w) (hb : Below w.heap.size w w') : LongR g i w' := fun j hj => by
  obtain ⟨hf, ⟨u, hu⟩, h35⟩ := h j hj
  exact ⟨by rw [hb.frozen (p := ⟨g, j, none⟩) (World.block_lt_of_cell? w _ hu)]; exact hf, ⟨u, below_cellU hu hb (Nat.le_refl _)⟩, fun h => below_cellU (h35 h) hb (Nat.le_refl _)⟩
theorem LongR.of {B g N : Nat} {w : World} {xs : List Value} (hN : N = 1048577) (h : w.ownsRow B 5 1 (.slice (some ⟨g, 0, none⟩) N N) N xs) : LongR g 0 w := fun j hj => by
  obtain ⟨_, ⟨hv, _⟩ | ⟨g', cap, cur, hv, _, hg, _, _, hs, _⟩⟩ := h
  · cases hv
  · injection hv with h1 h2 h3
    injection h1 with h1
    injection h1 with h1
    subst h1
    have hlt : j < cur.size := by omega
    exact ⟨Lib.frozen_of_heap hg _, ⟨_, by rw [Lib.cell_of_heap hg]; exact Array.getElem?_eq_getElem hlt⟩, fun h => by omega⟩
/-- the row, or a part from its start, as a string -/
theorem LongR.conv {g i : Nat} {w : World} (h : LongR g i w) (n : Nat) (hn : n ≤ i) (hi : i ≤ 1048577) (S : ByteArray) (hS : Is S (List.replicate n 35)) (cap : Nat) :
    (Go.convert 41 9 (.slice (some ⟨g, 0, none⟩) n cap)).run Tryd.prog w = .ok (.string S) w := by
  have hsz : S.size = n := by rw [hS.size, List.length_replicate]
  have := Lib.run_convert_whole (P := Tryd.prog) w 41 5 9 Tryd.underlying41 Tryd.underlying5 Tryd.underlying9 g 0 S (fun j hj => by
    have hg := hS.get j hj
    rw [List.getElem?_replicate, if_pos (by omega)] at hg
    injection hg with hg
    rw [Nat.zero_add, ← hg]
    exact (h j (by omega)).2.2 (by omega)) cap
  rwa [hsz] at this
theorem infou8 : (Tryd.prog.info? 5).map (fun i => (i.zero, i.size, i.bytes)) = some (some (.int .u8 0), 1, 1) := by kernel_rfl
def bad0 : Array Value := #[.string ⟨#[107, 97]⟩, .string ⟨#[107, 97, 9, 227, 129, 139, 9]⟩, .string ⟨#[107, 97, 32]⟩, .string ⟨#[75, 65, 9, 227, 129, 139]⟩, .string ⟨#[107, 121, 97, 97, 97, 9, 227, 129, 139]⟩, .string ⟨#[107, 97, 9, 227, 130, 171]⟩, .string ⟨#[107, 9]⟩, .string ⟨#[107, 9, 9, 107]⟩, .string ⟨#[107, 97, 9, 227, 129, 139, 9, 107, 9, 107]⟩, .string ⟨#[9, 227, 129, 139]⟩, .string ⟨#[107, 97, 9, 227, 129, 139, 227, 129, 139, 227, 129, 139, 227, 129, 139, 227, 129, 139]⟩, .string ⟨#[107, 97, 9, 255]⟩, .string ⟨#[107, 97, 9, 227, 129, 139, 13]⟩]
theorem bad0_at (i : Nat) (hi : i < 13) : ∃ b ∈ Ro.badL, bad0[i]? = some (.string (ba b)) := by
  rcases (show i = 0 ∨ i = 1 ∨ i = 2 ∨ i = 3 ∨ i = 4 ∨ i = 5 ∨ i = 6 ∨ i = 7 ∨ i = 8 ∨ i = 9 ∨ i = 10 ∨ i = 11 ∨ i = 12 by omega) with rfl | rfl | rfl | rfl | rfl | rfl | rfl | rfl | rfl | rfl | rfl | rfl | rfl
  · exact ⟨[107, 97], by decide, rfl⟩
  · exact ⟨[107, 97, 9, 227, 129, 139, 9], by decide, rfl⟩
  · exact ⟨[107, 97, 32], by decide, rfl⟩
  · exact ⟨[75, 65, 9, 227, 129, 139], by decide, rfl⟩
  · exact ⟨[107, 121, 97, 97, 97, 9, 227, 129, 139], by decide, rfl⟩
  · exact ⟨[107, 97, 9, 227, 130, 171], by decide, rfl⟩
  · exact ⟨[107, 9], by decide, rfl⟩
  · exact ⟨[107, 9, 9, 107], by decide, rfl⟩
  · exact ⟨[107, 97, 9, 227, 129, 139, 9, 107, 9, 107], by decide, rfl⟩
  · exact ⟨[9, 227, 129, 139], by decide, rfl⟩
  · exact ⟨[107, 97, 9, 227, 129, 139, 227, 129, 139, 227, 129, 139, 227, 129, 139, 227, 129, 139], by decide, rfl⟩
  · exact ⟨[107, 97, 9, 255], by decide, rfl⟩
  · exact ⟨[107, 97, 9, 227, 129, 139, 13], by decide, rfl⟩
theorem rulesL_len {xs : List RuleB} {l : List Ro.Rule} (h : rulesL xs = l) : xs.length = l.length := by
  rw [← h]; unfold rulesL; rw [List.length_map]
theorem rulesL_none {xs : List RuleB} (h : rulesL xs = []) : xs = [] := List.eq_nil_of_length_eq_zero (rulesL_len h)
theorem def_xtsu {ys : List RuleB} (h : rulesL ys = Ro.defL) : FoundV ys [120, 116, 115, 117] = .tuple #[ruleV (⟨#[120, 116, 115, 117]⟩, ⟨#[227, 129, 163]⟩, ⟨#[]⟩), .bool true] := by
  refine found_hit ?_
  rw [h]
  decide +kernel
theorem def_none {ys : List RuleB} (h : rulesL ys = Ro.defL) : FoundV ys [] = .tuple #[ruleV (⟨#[]⟩, ⟨#[]⟩, ⟨#[]⟩), .bool false] := by
  refine found_miss ?_
  rw [h]
  decide +kernel
theorem def_longer : Ro.longer Ro.defL [110] = true ∧ Ro.longer Ro.defL [] = true ∧ Ro.longer Ro.defL [110, 110] = false := by decide +kernel
def ex2R : List RuleB := [(⟨#[107, 107]⟩, ⟨#[]⟩, ⟨#[107]⟩)]
theorem ex2_rules : rulesL ex2R = [([107, 107], [], [107])] := rfl
def kr5 (i : Nat) : RuleB := (ba (Ro.numB i), ⟨#[227, 130, 147]⟩, ⟨#[]⟩)
def kL5 (n : Nat) : List RuleB := (List.range n).map kr5
theorem kL5_rules (n : Nat) : rulesL (kL5 n) = Ro.kL n := by
  unfold kL5 rulesL Ro.kL
  rw [List.map_map]
  rfl
theorem kL5_succ (n : Nat) : kL5 (n + 1) = kL5 n ++ [kr5 n] := by unfold kL5; rw [List.range_succ, List.map_append]; rfl
theorem kL5_len (n : Nat) : (kL5 n).length = n := by unfold kL5; rw [List.length_map, List.length_range]
theorem kL5_short (n : Nat) : Short3 (kL5 n) := by
  intro r hr
  obtain ⟨i, _, rfl⟩ := List.mem_map.1 hr
  unfold kr5
  have : (ba (Ro.numB i)).size = 2 := rfl
  exact ⟨by dsimp only; omega, (by decide : (⟨#[227, 130, 147]⟩ : ByteArray).size ≤ 17592186044416), (by decide : (⟨#[]⟩ : ByteArray).size ≤ 17592186044416)⟩
theorem short_more {xs : List RuleB} (h : Short3 xs) : Short3 (xs ++ [(⟨#[]⟩, ⟨#[]⟩, ⟨#[]⟩)]) := by
  intro r hr
  rcases List.mem_append.1 hr with hr | hr
  · exact h r hr
  · simp only [List.mem_cons, List.not_mem_nil, or_false] at hr
    subst hr
    exact ⟨by decide, by decide, by decide⟩
theorem k_more : Ro.check (rulesL (kL5 500 ++ [(⟨#[]⟩, ⟨#[]⟩, ⟨#[]⟩)])) = 2 := by
  rw [show rulesL (kL5 500 ++ [(⟨#[]⟩, ⟨#[]⟩, ⟨#[]⟩)]) = rulesL (kL5 500) ++ [([], [], [])] by unfold rulesL; rw [List.map_append]; rfl, kL5_rules]
  exact Ro.k_long
set_option maxRecDepth 100000 in
/-- a rule of empty strings is appended, behind a guard -/
theorem wpList_append_want {ops : Array Oper} {rest : List Oper} {o : Oper} {a : Act} {Q : Exit → Act → World → Prop} (w : World) (hw : Region.wanted o (yielded ops a.tmps) = true) (s x : Operand)
    (ho : o.op = .call { callee := .builtin .append, args := #[s, x], argTypes := #[25, 25] }) (B : Nat) (v : Value) (xs : List RuleB) (hs : a.eval s = v) (hown : OwnR 39 B v xs w)
    (hx : a.eval x = .slice (some ⟨w.heap.size, 0, none⟩) 1 1) (hn : xs.length ≤ 1000000) (hB : B ≤ w.heap.size)
    (h : ∀ v' w', OwnR 39 B v' (xs ++ [(⟨#[]⟩, ⟨#[]⟩, ⟨#[]⟩)]) w' → Below B w w' → wpList Tryd.prog ops Q rest (a.put o.dst v') w') :
    wpList Tryd.prog ops Q (o :: rest) a (w.alloc (.cells #[.string ⟨#[]⟩, .string ⟨#[]⟩, .string ⟨#[]⟩] 39)) := by
  obtain ⟨i0, hi, hz0, hz1, hz2⟩ := info_parts infogiven_any
  unfold wpList
  rw [if_pos hw]
  refine .inl ?_
  refine wp_append_own (P := Tryd.prog) (w.alloc (.cells #[.string ⟨#[]⟩, .string ⟨#[]⟩, .string ⟨#[]⟩] 39)) s x 25 ho B 39 i0 (ruleV (⟨#[]⟩, ⟨#[]⟩, ⟨#[]⟩)) 3 48 Tryd.underlying25 hi hz0 hz1 hz2 rfl (by decide) v xs.length (cellsR xs) hs (OwnR.alloc hown _) ⟨w.heap.size, 0, none⟩ 1 1 (ruleC (⟨#[]⟩, ⟨#[]⟩, ⟨#[]⟩)) hx rfl (fun j u hu => by
      rw [Addr.add_lit, Nat.zero_add]
      exact new_cells w (ruleC (⟨#[]⟩, ⟨#[]⟩, ⟨#[]⟩)) 39 j u hu) (fun u hu => ruleE.one (⟨#[]⟩, ⟨#[]⟩, ⟨#[]⟩) u hu) (by unfold maxLen; omega) (by omega) (by rw [World.size_alloc]; omega) (fun v' w' h2 h3 _ => h v' w' (OwnR.snoc h2) (((Below.refl B w).alloc hB _).grown h3 (by rw [World.size_alloc]; omega) (fun k hk => (World.ownsRow.lt hown k hk).1)))
end Go.Proofs.YtgdcffahhpeibaaDoor
