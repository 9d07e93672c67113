/-
  Texts merged (the arguments of the cards; works): CpTabs, CpOpen, CpLaw0, CpWorks.
-/
import Derived.Test.YtgdcffahhpeibaaGreatDoorCpD
import Derived.Test.YtgdcffahhpeibaaGreatDoorCards
import Derived.Test.YtgdcffahhpeibaaGreatDoorTie
import Derived.ProofKit
import Derived.OpenShut
import Derived.Deep.DeepHandedRow
import Derived.Lib.LaidU8T
import Derived.Lib.LaidTab
import Derived.Deep.Slices
import Derived.Carry
import Derived.ChangeSame
import Derived.Test.YtgdcffahhpeibaaGreatDoorDefWalk
import Derived.Test.YtgdcffahhpeibaaGreatDoorCpA
namespace Go.Proofs.YtgdcffahhpeibaaGreatDoor
open Go.RowKit Go.Lib
def u8ren : Go.Shelf.Ren := ⟨fun n => n, fun | 5 => 5 | 119 => 163 | 138 => 165 | 139 => 166 | n => n, fun | 3 => 0 | 4 => 1 | n => n⟩
theorem u8types : U8Types Tryz.prog u8ren where
  t5 := Tryz.underlying5
  t119 := Tryz.underlying163
  t138 := Tryz.underlying165
  t139 := Tryz.underlying166
theorem u8extra : U8Extra Tryz.prog u8ren where
  n3 := by kernel_rfl
  n4 := by kernel_rfl
  y3 := by kernel_rfl
  y4 := by kernel_rfl
  c5 := by kernel_rfl
  c119 := by kernel_rfl
  c138 := by kernel_rfl

theorem eFirst : (firstData : DataW Unit) = Rows.laid_unicode_utf8_first := by kernel_rfl
theorem eAcc : (acceptData : DataW Unit) = Rows.laid_unicode_utf8_acceptRanges := by kernel_rfl
abbrev theLaidR : List (String × DataW Unit) := [("unicode/utf8.acceptRanges", Rows.laid_unicode_utf8_acceptRanges), ("unicode/utf8.first", Rows.laid_unicode_utf8_first)]
theorem rtabs_of_laid {W : World} (h : laidMetH Tryz.prog theLaidR W) (hS : W.ShapedOpen Tryz.prog) : Tabs W := by
  have hm : laidMet Tryz.prog theLaidR W := h
  refine ⟨utf8Tabs_of_readsT u8types u8extra ?_ ?_, Tryz.laysM219.s1_3 W hS⟩
  · rw [eFirst]; exact laidMet.reads hm (show ("unicode/utf8.first", Rows.laid_unicode_utf8_first) ∈ theLaidR by simp [theLaidR])
  · rw [eAcc]; exact laidMet.reads hm (show ("unicode/utf8.acceptRanges", Rows.laid_unicode_utf8_acceptRanges) ∈ theLaidR by simp [theLaidR])
theorem own : ownKnob Tryz.prog.godebug = none := by kernel_rfl
def lay (g : Nat) (cs : Array Value) (h : Array Obj) : Array Obj := h.modify g fun
  | .cells _ t frozen => .cells cs t frozen
  | o => o
/-- the heap's tables hold what the program's text lays -/
def layAll (h : Array Obj) : Array Obj := lay 0 (firstTab.map fun z => Value.int .u8 z).toArray (lay 1 (((List.range 16).flatMap fun i => [Value.int .u8 (accLo i : Int), Value.int .u8 (accHi i : Int)])).toArray h)
/-- a world for a witness -/
noncomputable def laidWorldR (os : Os) : World :=
  { World.holding Tryz.prog os ⟨#[], #[], []⟩ with heap := layAll (World.holding Tryz.prog os ⟨#[], #[], []⟩).heap }
theorem laid_metR (os : Os) (args : Array Value) : laidMet Tryz.prog theLaidR ((laidWorldR os).forCall (fun _ _ => 0) ⟨#[], args, []⟩).memory :=
  laidMet_of_run' 8 (by kernel_rfl) (by kernel_rfl)
end Go.Proofs.YtgdcffahhpeibaaGreatDoor
namespace Go.Proofs.YtgdcffahhpeibaaGreatDoor
open Go.ChangeShapes Go.WideShapes Go.ChangeAt Go.RowKit Go.Deep
set_option linter.unusedVariables false
theorem bulk_part {H : Type} {d : DataW H} {l : List (DataW H)} (h : d ∈ l) : Rows.uptoBulk d ≤ Rows.uptoBulkAll l := by
  induction l with
  | nil => cases h
  | cons x r ih =>
    simp only [Rows.uptoBulkAll]
    cases List.mem_cons.1 h with
    | inl e => subst e; omega
    | inr e => have := ih e; omega
theorem bulk_one {H : Type} (d : DataW H) : 1 ≤ Rows.uptoBulk d := by
  cases d with
  | lit l => cases l <;> simp [Rows.uptoBulk]
  | nil => simp [Rows.uptoBulk]
  | ptr d => simp [Rows.uptoBulk]
  | slice elems spare => simp [Rows.uptoBulk]
  | agg parts => simp [Rows.uptoBulk]
  | iface t d => simp [Rows.uptoBulk]
  | map entries => simp [Rows.uptoBulk]
  | held h => simp [Rows.uptoBulk]
theorem bulk_len {H : Type} (l : List (DataW H)) : l.length ≤ Rows.uptoBulkAll l := by
  induction l with
  | nil => simp [Rows.uptoBulkAll]
  | cons x r ih => simp only [Rows.uptoBulkAll, List.length_cons]; have := bulk_one x; omega
theorem bulk_slice {H : Type} {n : Nat} {D : Nat → DataW H} {sp : List (DataW H)} {B : Nat} (h : Rows.uptoBulk (.slice ((List.range n).map D) sp) ≤ B) : n ≤ B ∧ ∀ i, i < n → Rows.uptoBulk (D i) ≤ B := by
  simp only [Rows.uptoBulk] at h
  have hl := bulk_len ((List.range n).map D)
  rw [List.length_map, List.length_range] at hl
  exact ⟨by omega, fun i hi => by have := bulk_part (List.mem_map_of_mem (f := D) (List.mem_range.2 hi)); omega⟩
theorem bulk_agg {H : Type} {ys : List (DataW H × List MemPlace)} {B : Nat} (h : Rows.uptoBulk (.agg (ys.map (·.1))) ≤ B) (j : Nat) (y : DataW H × List MemPlace) (hy : ys[j]? = some y) : Rows.uptoBulk y.1 ≤ B := by
  simp only [Rows.uptoBulk] at h
  have := bulk_part (List.mem_map_of_mem (f := (·.1)) (List.mem_of_getElem? hy))
  omega
theorem bulk_str {H : Type} {s : ByteArray} {B : Nat} (h : Rows.uptoBulk (.lit (.string s.data.toList) : DataW H) ≤ B) : s.size ≤ B := by
  simp only [Rows.uptoBulk, Array.length_toList] at h
  exact Nat.le_of_succ_le h
theorem cellsRule : Tryz.prog.cellsOf 87 = 3 := by kernel_rfl
theorem cellsItem : Tryz.prog.cellsOf 106 = 2 := by kernel_rfl
theorem cellsBuf : Tryz.prog.cellsOf 33 = 3 := by kernel_rfl
theorem cellsStr : Tryz.prog.cellsOf 9 = 1 := by kernel_rfl
theorem cellsInt : Tryz.prog.cellsOf 3 = 1 := by kernel_rfl
theorem cellsU8 : Tryz.prog.cellsOf 5 = 1 := by kernel_rfl
theorem cellsItems : Tryz.prog.cellsOf 31 = 1 := by kernel_rfl
section
variable {H : Type} {enc : TypeId × Value → H} {w : World} {base fuel : Nat} {spare : Nat → Bool} {held : Bool}
theorem one_stringB {B n : Nat} {x : Value} {ys : List (DataW H × List MemPlace)} {j : Nat} (hj : j < ys.length) (hb : ∀ y, ys[j]? = some y → Rows.uptoBulk y.1 ≤ B) (h : DataW.trod enc Tryz.prog w base spare held n 9 [x] = ys[j]?) : ∃ s, x = .string s ∧ s.size ≤ B := by
  rw [List.getElem?_eq_getElem hj] at h
  obtain ⟨s, h1, h2, _⟩ := DataW.trod_string Tryz.underlying9 h
  injection h1 with h1
  have := hb _ (List.getElem?_eq_getElem hj)
  rw [h2] at this
  exact ⟨s, h1, bulk_str this⟩
set_option maxRecDepth 100000 in
theorem open_ruleB {B : Nat} {cs : List Value} {x : DataW H × List MemPlace} (h : DataW.trod enc Tryz.prog w base spare held fuel 87 cs = some x) (hB : Rows.uptoBulk x.1 ≤ B) :
    ∃ r : RuleB, cs = ruleC r ∧ r.1.size ≤ B ∧ r.2.1.size ≤ B ∧ r.2.2.size ≤ B := by
  obtain ⟨ys, n, _, hx, hlen, hyl, hf⟩ := DataW.trod_struct Tryz.underlying87 h
  rw [hx] at hB
  rw [cellsRule] at hlen
  have hyl3 : ys.length = 3 := hyl
  obtain ⟨a, b, c, rfl⟩ : ∃ a b c, cs = [a, b, c] := by
    match cs, hlen with
    | [a, b, c], _ => exact ⟨a, b, c, rfl⟩
  clear hlen
  have h0 := hf 0 _ rfl
  have h1 := hf 1 _ rfl
  have h2 := hf 2 _ rfl
  change DataW.trod _ _ _ _ _ _ n 9 ((([a, b, c] : List Value).drop 0).take (Tryz.prog.cellsOf 9)) = ys[0]? at h0
  change DataW.trod _ _ _ _ _ _ n 9 ((([a, b, c] : List Value).drop 1).take (Tryz.prog.cellsOf 9)) = ys[1]? at h1
  change DataW.trod _ _ _ _ _ _ n 9 ((([a, b, c] : List Value).drop 2).take (Tryz.prog.cellsOf 9)) = ys[2]? at h2
  rw [cellsStr] at h0 h1 h2
  obtain ⟨s0, rfl, m0⟩ := one_stringB (by omega) (fun y hy => bulk_agg hB 0 y hy) h0
  obtain ⟨s1, rfl, m1⟩ := one_stringB (by omega) (fun y hy => bulk_agg hB 1 y hy) h1
  obtain ⟨s2, rfl, m2⟩ := one_stringB (by omega) (fun y hy => bulk_agg hB 2 y hy) h2
  exact ⟨(s0, s1, s2), rfl, m0, m1, m2⟩
set_option maxRecDepth 100000 in
theorem open_itemB {B : Nat} {cs : List Value} {x : DataW H × List MemPlace} (h : DataW.trod enc Tryz.prog w base spare held fuel 106 cs = some x) (hB : Rows.uptoBulk x.1 ≤ B) :
    ∃ r : Cp.Item, cs = itemE.enc r ∧ r.1.length ≤ B ∧ r.2.length ≤ B := by
  obtain ⟨ys, n, _, hx, hlen, hyl, hf⟩ := DataW.trod_struct Tryz.underlying106 h
  rw [hx] at hB
  rw [cellsItem] at hlen
  have hyl3 : ys.length = 2 := hyl
  obtain ⟨a, b, rfl⟩ : ∃ a b, cs = [a, b] := by
    match cs, hlen with
    | [a, b], _ => exact ⟨a, b, rfl⟩
  clear hlen
  have h0 := hf 0 _ rfl
  have h1 := hf 1 _ rfl
  change DataW.trod _ _ _ _ _ _ n 9 ((([a, b] : List Value).drop 0).take (Tryz.prog.cellsOf 9)) = ys[0]? at h0
  change DataW.trod _ _ _ _ _ _ n 9 ((([a, b] : List Value).drop 1).take (Tryz.prog.cellsOf 9)) = ys[1]? at h1
  rw [cellsStr] at h0 h1
  obtain ⟨s0, rfl, m0⟩ := one_stringB (by omega) (fun y hy => bulk_agg hB 0 y hy) h0
  obtain ⟨s1, rfl, m1⟩ := one_stringB (by omega) (fun y hy => bulk_agg hB 1 y hy) h1
  refine ⟨(s0.data.toList, s1.data.toList), ?_, ?_, ?_⟩
  · show _ = [Value.string (ba s0.data.toList), Value.string (ba s1.data.toList)]
    rw [← (Is.of s0).ba, ← (Is.of s1).ba]
  · show s0.data.toList.length ≤ B; rw [← (Is.of s0).size]; exact m0
  · show s1.data.toList.length ≤ B; rw [← (Is.of s1).size]; exact m1
end
theorem listedB {α : Type} (P : Nat → α → Prop) : ∀ n, (∀ i, i < n → ∃ r, P i r) → ∃ xs : List α, xs.length = n ∧ ∀ (k : Nat) r, xs[k]? = some r → P k r
  | 0, _ => ⟨[], rfl, fun k r h => by simp at h⟩
  | n + 1, h => by
    obtain ⟨xs, h1, h2⟩ := listedB P n (fun i hi => h i (by omega))
    obtain ⟨r, hr⟩ := h n (by omega)
    refine ⟨xs ++ [r], by simp [h1], fun k x hx => ?_⟩
    rw [List.getElem?_append] at hx
    split at hx
    · exact h2 k x hx
    · rename_i hk
      have : k - xs.length = 0 := by
        rcases Nat.eq_zero_or_pos (k - xs.length) with h' | h'
        · exact h'
        · rw [List.getElem?_eq_none (by simp; omega)] at hx; cases hx
      rw [this] at hx
      injection hx with hx
      obtain rfl : k = n := by omega
      rw [← hx]; exact hr
/-- the cells of an element at a place: the place has no spot of its own -/
theorem cells_at8 {W : World} {base k : Nat} {a : Addr} {cs : List Value} (hk : 0 < k) (h : W.cells? base a k = some cs) : ∃ g o, a = ⟨g, o, none⟩ ∧ ∀ (j : Nat) u, cs[j]? = some u → W.cell? ⟨g, o + j, none⟩ = some u := by
  obtain ⟨_, hlen, hat⟩ := World.cells?_some h
  obtain ⟨g, o, sp⟩ := a
  have p0 := hat 0 (by omega)
  have hsp : sp = none := by
    have he : (⟨g, o, sp⟩ : Addr).add 0 = ⟨g, o, sp⟩ := rfl
    rw [he] at p0
    rw [List.getElem?_eq_getElem (by omega)] at p0
    exact Go.Proofs.cell_spot (b := g) (o := o) p0
  subst hsp
  refine ⟨g, o, rfl, fun j u hu => ?_⟩
  have hj : j < k := by
    rcases Nat.lt_or_ge j cs.length with h' | h'
    · omega
    · rw [List.getElem?_eq_none h'] at hu; cases hu
  have := hat j hj
  rw [addr_add] at this
  rw [this, hu]
set_option maxRecDepth 100000 in
theorem open_rulesB {H : Type} {enc : TypeId × Value → H} {W : World} {base B : Nat} {v : Value} {d : DataW H} {p : List MemPlace} (hval : Value.okWide Tryz.prog W .any base 27 v) (h : DataW.Trod enc Tryz.prog W 0 (fun _ => true) true 27 v d p) (hB : Rows.uptoBulk d ≤ B) :
    ∃ xs : List RuleB, LieR v xs W ∧ xs.length ≤ B ∧ ∀ r ∈ xs, r.1.size ≤ B ∧ r.2.1.size ≤ B ∧ r.2.2.size ≤ B := by
  obtain ⟨a1, len, cap, rfl⟩ := okWide_slice Tryz.underlying27 hval
  obtain ⟨fuel, hf⟩ := h
  rcases open_slice Tryz.underlying27 hf with ⟨hcs, _⟩ | ⟨a, len', cap', m, n, D, Pl, hcs, _, hl, hm, hmm, hd, hi⟩
  · simp [Value.cells] at hcs
    obtain ⟨rfl, rfl, rfl⟩ := hcs
    exact ⟨[], LieR.nil W, by simp, fun r hr => by simp at hr⟩
  · simp [Value.cells] at hcs
    obtain ⟨rfl, rfl, rfl⟩ := hcs
    rw [if_pos rfl] at hmm
    injection hd with hd1 hd2
    rw [hd1] at hB
    obtain ⟨b1, b2⟩ := bulk_slice hB
    obtain ⟨xs, hx1, hx2⟩ := listedB (fun i (r : RuleB) => (∃ g o, a = ⟨g, o, none⟩ ∧ W.cell? ⟨g, o + i * 3, none⟩ = some (.string r.1) ∧ W.cell? ⟨g, o + i * 3 + 1, none⟩ = some (.string r.2.1) ∧ W.cell? ⟨g, o + i * 3 + 2, none⟩ = some (.string r.2.2)) ∧ r.1.size ≤ B ∧ r.2.1.size ≤ B ∧ r.2.2.size ≤ B) len (fun i him => by
      obtain ⟨cs', hc, ht'⟩ := hi i (by omega)
      rw [cellsRule] at hc
      obtain ⟨r, rfl, z1, z2, z3⟩ := open_ruleB ht' (b2 i him)
      obtain ⟨g, o, ha, hat⟩ := cells_at8 (by omega) hc
      refine ⟨r, ?_, z1, z2, z3⟩
      obtain ⟨g0, o0, sp⟩ := a
      have hsp : sp = none := by
        obtain ⟨cs0, hc0, ht0⟩ := hi 0 (by omega)
        rw [cellsRule] at hc0
        obtain ⟨g', o', ha', _⟩ := cells_at8 (by omega) hc0
        have he : (⟨g0, o0, sp⟩ : Addr).add (0 * 3) = ⟨g0, o0, sp⟩ := rfl
        rw [he] at ha'
        injection ha'
      subst hsp
      rw [addr_add] at ha
      injection ha with ha1 ha2
      subst ha1; subst ha2
      exact ⟨g0, o0, rfl, by have := hat 0 _ rfl; exact this, by have := hat 1 _ rfl; exact this, by have := hat 2 _ rfl; exact this⟩)
    refine ⟨xs, ⟨some a, cap, by rw [hx1], by omega, fun k r hk => ?_⟩, by omega, fun r hr => ?_⟩
    · obtain ⟨⟨g, o, rfl, e1, e2, e3⟩, _⟩ := hx2 k r hk
      exact ⟨g, o, rfl, e1, e2, e3⟩
    · obtain ⟨k, hk⟩ := List.getElem?_of_mem hr
      exact (hx2 k r hk).2
set_option maxRecDepth 100000 in
theorem open_itemsB {H : Type} {enc : TypeId × Value → H} {W : World} {B fuel : Nat} {v : Value} {x : DataW H × List MemPlace} (hsp : ∀ ad n c, v = .slice (some ad) n c → ad.spot = none) (hf : DataW.trod enc Tryz.prog W 0 (fun _ => true) true fuel 31 [v] = some x) (hB : Rows.uptoBulk x.1 ≤ B) :
    ∃ xs : List Cp.Item, LieG itemE v xs W ∧ xs.length ≤ B ∧ ∀ r ∈ xs, r.1.length ≤ B ∧ r.2.length ≤ B := by
  rcases open_slice Tryz.underlying31 hf with ⟨hcs, _⟩ | ⟨a, len, cap, m, n, D, Pl, hcs, _, hl, hm, hmm, hd, hi⟩
  · injection hcs with hcs
    subst hcs
    exact ⟨[], LieG.nil W, by simp, fun r hr => by simp at hr⟩
  · injection hcs with hcs
    subst hcs
    rw [if_pos rfl] at hmm
    rw [hd] at hB
    obtain ⟨b1, b2⟩ := bulk_slice hB
    obtain ⟨g0, o0, sp⟩ := a
    obtain rfl : sp = none := hsp _ _ _ rfl
    obtain ⟨xs, hx1, hx2⟩ := listedB (fun i (r : Cp.Item) => (∀ (j : Nat) u, (itemE.enc r)[j]? = some u → W.cell? ⟨g0, o0 + i * 2 + j, none⟩ = some u) ∧ r.1.length ≤ B ∧ r.2.length ≤ B) len (fun i him => by
      obtain ⟨cs', hc, ht'⟩ := hi i (by omega)
      rw [cellsItem] at hc
      obtain ⟨r, rfl, z1, z2⟩ := open_itemB ht' (b2 i him)
      obtain ⟨g, o, ha, hat⟩ := cells_at8 (by omega) hc
      rw [addr_add] at ha
      injection ha with ha1 ha2
      subst ha1; subst ha2
      exact ⟨r, hat, z1, z2⟩)
    refine ⟨xs, ⟨some ⟨g0, o0, none⟩, cap, by rw [hx1], by omega, (fun e => by cases e), (fun ad e => by injection e with e; exact ⟨_, _, e.symm⟩), (fun k r hk => ⟨g0, o0, rfl, (hx2 k r hk).1⟩)⟩, by omega, fun r hr => ?_⟩
    obtain ⟨k, hk⟩ := List.getElem?_of_mem hr
    exact (hx2 k r hk).2
theorem bufCells : Tryz.prog.cellTypes Tryz.prog.depth 33 = some [31, 3, 9] := by kernel_rfl
set_option maxRecDepth 100000 in
theorem open_bufB {H : Type} {enc : TypeId × Value → H} {W : World} {base B : Nat} {v : Value} {d : DataW H} {p : List MemPlace} (hval : Value.okWide Tryz.prog W .any base 33 v) (h : DataW.Trod enc Tryz.prog W 0 (fun _ => true) true 33 v d p) (hB : Rows.uptoBulk d ≤ B) (hB2 : B ≤ 2000000) :
    ∃ v' xs c pb, v = bufV v' c pb ∧ LieG itemE v' xs W ∧ Fits xs pb.data.toList ∧ xs.length ≤ B ∧ pb.size ≤ B := by
  obtain ⟨cs, rfl, hcs⟩ := okWide_struct Tryz.underlying33 hval
  rw [cellsBuf] at hcs
  obtain ⟨fuel, hf⟩ := h
  obtain ⟨ys, n, _, hx, hlen, hyl, hff⟩ := DataW.trod_struct Tryz.underlying33 hf
  have hd : d = .agg (ys.map (·.1)) := congrArg Prod.fst hx
  rw [hd] at hB
  have hyl3 : ys.length = 3 := hyl
  obtain ⟨a, b, c, rfl⟩ : ∃ a b c, cs = #[a, b, c] := by
    match cs, hcs with
    | ⟨[a, b, c]⟩, _ => exact ⟨a, b, c, rfl⟩
  have h0 := hff 0 _ rfl
  have h1 := hff 1 _ rfl
  have h2 := hff 2 _ rfl
  change DataW.trod _ _ _ _ _ _ n 31 ((([a, b, c] : List Value).drop 0).take (Tryz.prog.cellsOf 31)) = ys[0]? at h0
  change DataW.trod _ _ _ _ _ _ n 3 ((([a, b, c] : List Value).drop 1).take (Tryz.prog.cellsOf 3)) = ys[1]? at h1
  change DataW.trod _ _ _ _ _ _ n 9 ((([a, b, c] : List Value).drop 2).take (Tryz.prog.cellsOf 9)) = ys[2]? at h2
  rw [cellsItems] at h0
  rw [cellsInt] at h1
  rw [cellsStr] at h2
  obtain ⟨y0, hy0⟩ : ∃ y, ys[0]? = some y := ⟨_, List.getElem?_eq_getElem (by omega)⟩
  obtain ⟨y1, hy1⟩ : ∃ y, ys[1]? = some y := ⟨_, List.getElem?_eq_getElem (by omega)⟩
  rw [hy0] at h0
  rw [hy1] at h1
  obtain ⟨s2, rfl, z2⟩ := one_stringB (by omega) (fun y hy => bulk_agg hB 2 y hy) h2
  obtain ⟨k, hk, _⟩ := DataW.trod_int Tryz.underlying3 h1
  injection hk with hk
  subst hk
  have hsp : ∀ ad n c, a = .slice (some ad) n c → ad.spot = none := by
    intro ad n' c' e
    subst e
    simp only [Value.okWide, Tryz.underlying33] at hval
    obtain ⟨cs2, he, _, ts, hts, _, hrow⟩ := hval
    injection he with he
    subst he
    rw [bufCells] at hts
    injection hts with hts
    subst hts
    obtain ⟨u, hu, hc⟩ := hrow 0 _ rfl
    injection hu with hu
    subst hu
    simp only [Cell.okWide, Cell.ok, Tryz.underlying31] at hc
    exact hc.2.2.2.1
  obtain ⟨xs, hl, hn, hz⟩ := open_itemsB hsp h0 (bulk_agg hB 0 y0 hy0)
  exact ⟨a, xs, k, s2, rfl, hl, ⟨by omega, by rw [← (Is.of s2).size]; omega, fun x hx => by have := hz x hx; omega⟩, hn, z2⟩
end Go.Proofs.YtgdcffahhpeibaaGreatDoor
namespace Go.Proofs.YtgdcffahhpeibaaGreatDoor
open Go.RowKit
set_option linter.unusedVariables false
/-- a local variable that holds a buffer: its row -/
def RowIs (T : TypeId) (N : Nat) (v : Value) (c : Int) (p : ByteArray) (W : World) : Prop := W.heap[N]? = some (.cells #[v, .int .i64 c, .string p] T (0, 0))
section
variable {T : TypeId} {N : Nat} {v : Value} {c : Int} {p : ByteArray} {W W' : World}
theorem RowIs.keep (h : RowIs T N v c p W) (hb : Below W.heap.size W W') : RowIs T N v c p W' := by
  unfold RowIs at *
  rw [hb.block N (heap_lt h)]; exact h
theorem RowIs.below {B : Nat} (h : RowIs T N v c p W) (hb : Below B W W') (hN : N < B) : RowIs T N v c p W' := by
  unfold RowIs at *
  rw [hb.block N hN]; exact h
theorem RowIs.new (T : TypeId) (v : Value) (c : Int) (p : ByteArray) (W : World) : RowIs T W.heap.size v c p (W.alloc (.cells #[v, .int .i64 c, .string p] T)) := (MapKept.heap_alloc W _).1
theorem RowIs.put (h : RowIs T N v c p W) (v' : Value) (c' : Int) (p' : ByteArray) : RowIs T N v' c' p' (((W.setCell ⟨N, 0, none⟩ v').setCell ⟨N, 1, none⟩ (.int .i64 c')).setCell ⟨N, 2, none⟩ (.string p')) := three_set h _ _ _
theorem RowIs.other {M : Nat} (h : RowIs T N v c p W) (hM : N ≠ M) (x y z : Value) : RowIs T N v c p (((W.setCell ⟨M, 0, none⟩ x).setCell ⟨M, 1, none⟩ y).setCell ⟨M, 2, none⟩ z) := (three_other hM _ _ _).trans h
end
/-- an automaton of the rules rs -/
abbrev AutoAt (rs : List RuleB) (a : Nat) (W : World) : Prop := AutoIs W.heap.size rs a W
theorem AutoAt.keep {rs : List RuleB} {a : Nat} {W W' : World} (h : AutoAt rs a W) (hb : Below W.heap.size W W') : AutoAt rs a W' := (h.below hb).mono hb.size
theorem TypedR.open {B : Nat} {xs : List Cp.Item} {c : Int} {pl : List UInt8} {t : Bool} {e : Ending} {w : World} {p : ByteArray} (h : TypedR B (⟨xs, c, pl⟩, t) e w) (hp : ba pl = p) : ∃ ao n cap, e = .returned (.tuple #[bufV (.slice ao n cap) c p, .bool t]) ∧ xs.length = n ∧ OwnG itemE 106 B (.slice ao n cap) xs w := by
  obtain ⟨v, he, ho⟩ := h
  obtain ⟨ao, cap, rfl⟩ := ho.frame
  exact ⟨ao, _, cap, by rw [he, ← hp], rfl, ho⟩
theorem BufR.open {B : Nat} {xs : List Cp.Item} {c : Int} {pl : List UInt8} {e : Ending} {w : World} {p : ByteArray} (h : BufR B ⟨xs, c, pl⟩ e w) (hp : ba pl = p) : ∃ ao n cap, e = .returned (bufV (.slice ao n cap) c p) ∧ xs.length = n ∧ OwnG itemE 106 B (.slice ao n cap) xs w := by
  obtain ⟨v, he, ho⟩ := h
  obtain ⟨ao, cap, rfl⟩ := ho.frame
  exact ⟨ao, _, cap, by rw [he, ← hp], rfl, ho⟩
theorem PairR.open {T : TypeId} {B : Nat} {xs : List Cp.Item} {c : Int} {pl : List UInt8} {er : Int} {e : Ending} {w : World} {p : ByteArray} (h : PairR T B (⟨xs, c, pl⟩, er) e w) (hp : ba pl = p) : ∃ ao n cap, e = .returned (.tuple #[bufV (.slice ao n cap) c p, .int .i64 er]) ∧ xs.length = n ∧ OwnG itemE T B (.slice ao n cap) xs w := by
  obtain ⟨v, he, ho⟩ := h
  obtain ⟨ao, cap, rfl⟩ := ho.frame
  exact ⟨ao, _, cap, by rw [he, ← hp], rfl, ho⟩
theorem RefR.open {xs : List Cp.Item} {c : Int} {pl : List UInt8} {e : Ending} {w : World} {p : ByteArray} (h : RefR ⟨xs, c, pl⟩ e w) (hp : ba pl = p) : ∃ ao n cap, e = .returned (bufV (.slice ao n cap) c p) ∧ xs.length = n ∧ LieG itemE (.slice ao n cap) xs w := by
  obtain ⟨v, he, ho⟩ := h
  obtain ⟨ao, cap, rfl, hr⟩ := id ho
  exact ⟨ao, _, cap, by rw [he, ← hp], rfl, ho⟩
theorem text_form (b : Cp.Buf) : ∃ s1 s2 s3, TextV b = .returned (.tuple #[.string s1, .string s2, .string s3]) := by
  unfold TextV
  split
  · exact ⟨_, _, _, rfl⟩
  · exact ⟨_, _, _, rfl⟩
theorem raw_form (b : Cp.Buf) : ∃ s, RawV b = .returned (.string s) := by
  unfold RawV
  split
  · exact ⟨_, rfl⟩
  · exact ⟨_, rfl⟩
theorem text_valid {b : Cp.Buf} (h : Cp.valid b = true) {l1 l2 l3 : List UInt8} {s1 s2 s3 : ByteArray} (h1 : Cp.before b = l1) (h2 : b.pend = l2) (h3 : Cp.after b = l3) (e1 : ba l1 = s1) (e2 : ba l2 = s2) (e3 : ba l3 = s3) : TextV b = .returned (.tuple #[.string s1, .string s2, .string s3]) := by
  unfold TextV
  rw [if_pos h, h1, h2, h3, e1, e2, e3]
theorem raw_valid {b : Cp.Buf} (h : Cp.valid b = true) {l : List UInt8} {s : ByteArray} (h1 : Cp.raw b = l) (e : ba l = s) : RawV b = .returned (.string s) := by
  unfold RawV
  rw [if_pos h, h1, e]
theorem same_yes (b : Cp.Buf) : decide (b = b) = true := decide_eq_true rfl
theorem given9_any (v : Value) (xs : List Cp.Item) (c : Int) (p : ByteArray) (w : World) (h : LieG itemE v xs w) (hn : xs.length ≤ 2000000) :
    Calls Tryz.prog 19 #[bufV v c p] w fun e w' => (∃ ao n cap, e = .returned (bufV (.slice ao n cap) c p) ∧ LieG itemE (.slice ao n cap) xs w') ∧ Below w.heap.size w w' :=
  (given8_any v xs c p w h hn).mono fun e w' ⟨⟨v', he, ho⟩, hb⟩ => by
    obtain ⟨ao, cap, rfl⟩ := ho.frame
    exact ⟨⟨ao, _, cap, he, ho.lie⟩, hb⟩
/-- the document's rules are allowed, and short -/
theorem def_len9 {ys : List RuleB} (h : rulesL ys = Ro.defL) : ys.length ≤ 1000000 := by
  have := congrArg List.length h
  rw [Ro.def_len] at this
  unfold rulesL at this
  rw [List.length_map] at this
  omega
theorem def_short9 {ys : List RuleB} (h : rulesL ys = Ro.defL) : Short3 ys := by
  intro r hr
  have hm : ruleL r ∈ Ro.defL := by rw [← h]; exact List.mem_map_of_mem hr
  obtain ⟨h1, h2, h3, h4⟩ := Au.rule_sizes Ro.def_check hm
  have e1 : (ruleL r).1.length = r.1.size := Array.length_toList
  have e2 : (ruleL r).2.1.length = r.2.1.size := Array.length_toList
  have e3 : (ruleL r).2.2.length = r.2.2.size := Array.length_toList
  omega
theorem def_ok9 {ys : List RuleB} (h : rulesL ys = Ro.defL) : Ro.check (rulesL ys) = 0 := by rw [h]; exact Ro.def_check
/-- New of the document's rules -/
theorem newdef_any (v : Value) (ys : List RuleB) (w : World) (h : LieR v ys w) (hd : rulesL ys = Ro.defL) (ht : Tabs w) :
    Calls Tryz.prog 13 #[v] w fun e w' => (∃ a, e = .returned (.tuple #[.pointer (some ⟨a, 0, none⟩), .int .i64 0]) ∧ AutoAt ys a w') ∧ Below w.heap.size w w' :=
  (new_any v ys w h (Nat.le_trans (def_len9 hd) (by decide)) (def_short9 hd) ht).mono fun e w' ⟨hv, hb⟩ => by
    rcases hv with ⟨hne, _⟩ | ⟨_, a, he, ha⟩
    · exact absurd (def_ok9 hd) hne
    · exact ⟨⟨a, he, ha⟩, hb⟩
end Go.Proofs.YtgdcffahhpeibaaGreatDoor
namespace Go.Proofs.YtgdcffahhpeibaaGreatDoor
open Go.RowKit
set_option linter.unusedVariables false
/-- what the keys kyoun leave -/
def kyI : List Cp.Item := [([107, 121, 111], [227, 129, 141]), ([], [227, 130, 135]), ([117], [227, 129, 134])]
def kyJ : List Cp.Item := kyI ++ [([110], [227, 130, 147])]
theorem ky_is0 : Is ⟨#[107, 121, 111, 117, 110]⟩ [107, 121, 111, 117, 110] := rfl
theorem ky_is1 : Is ⟨#[110]⟩ [110] := rfl
theorem ky_is2 : Is ⟨#[]⟩ [] := rfl
theorem ky_typed : Cp.typedL Ro.defL [107, 121, 111, 117, 110] Cp.zero = (⟨kyI, 3, [110]⟩, true) := by decide +kernel
theorem ky_flush : Cp.flush Ro.defL ⟨kyI, 3, [110]⟩ = ⟨kyJ, 4, []⟩ := by decide +kernel
theorem ky_valid : Cp.valid ⟨kyI, 3, [110]⟩ = true := by decide +kernel
theorem ky_valid2 : Cp.valid ⟨kyJ, 4, []⟩ = true := by decide +kernel
theorem ky_fits : Fits kyI [110] := Cp.fits_of (b := ⟨kyI, 3, [110]⟩) ky_valid (by unfold Cp.Small kyI; decide)
theorem ky_fits2 : Fits kyJ [] := Cp.fits_of (b := ⟨kyJ, 4, []⟩) ky_valid2 (by unfold Cp.Small kyJ kyI; decide)
theorem ky_text : TextV ⟨kyI, 3, [110]⟩ = .returned (.tuple #[.string ⟨#[227, 129, 141, 227, 130, 135, 227, 129, 134]⟩, .string ⟨#[110]⟩, .string ⟨#[]⟩]) := text_valid ky_valid (l1 := [227, 129, 141, 227, 130, 135, 227, 129, 134]) (l2 := [110]) (l3 := []) (by decide +kernel) rfl (by decide +kernel) rfl rfl rfl
theorem ky_text2 : TextV ⟨kyJ, 4, []⟩ = .returned (.tuple #[.string ⟨#[227, 129, 141, 227, 130, 135, 227, 129, 134, 227, 130, 147]⟩, .string ⟨#[]⟩, .string ⟨#[]⟩]) := text_valid ky_valid2 (l1 := [227, 129, 141, 227, 130, 135, 227, 129, 134, 227, 130, 147]) (l2 := []) (l3 := []) (by decide +kernel) rfl (by decide +kernel) rfl rfl rfl
theorem ky_raw2 : RawV ⟨kyJ, 4, []⟩ = .returned (.string ⟨#[107, 121, 111, 117, 110]⟩) := raw_valid ky_valid2 (l := [107, 121, 111, 117, 110]) (by decide +kernel) rfl
set_option maxRecDepth 100000 in
set_option maxHeartbeats 16000000 in
theorem works_any (w : World) (ht : Tabs w) : Calls Tryz.prog 26 #[] w fun e w' => e = .returned (.bool true) ∧ Below w.heap.size w w' := by
  have HB := Lib.hid (Below.refl w.heap.size w)
  have HT0 := Lib.hid ht
  have HT := Lib.hid ht
  clear ht
  go_enter Tryz.func26, Tryz.ntmps26
  go_wp2_with fail
  with_reducible refine (default_any _ HT.out).mono ?_
  rintro e w1 ⟨⟨v, ys, rfl, hd, hl⟩, hb⟩
  have HB := Lib.hid (HB.out.trans (hb.mono HB.out.size))
  have HT := Lib.hid (HT.out.keep hb)
  have HD := Eqq.mk hd
  have HLR := Lib.hid hl
  clear hd hl
  clear hb
  go_wp2_with fail
  with_reducible refine (newdef_any v ys _ HLR.out HD.out HT.out).mono ?_
  rintro e w2 ⟨⟨a, rfl, ha⟩, hb⟩
  have HB := Lib.hid (HB.out.trans (hb.mono HB.out.size))
  have HT := Lib.hid (HT.out.keep hb)
  have HLR := Lib.hid (HLR.out.keep hb)
  have HA := Lib.hid ha
  clear ha
  clear hb
  go_wp2_with fail
  with_reducible refine (typed_any _ a ys ⟨#[107, 121, 111, 117, 110]⟩ [107, 121, 111, 117, 110] _ HA.out (Nat.le_refl _) ky_is0 (by decide) HT.out).mono ?_
  rw [HD.out, ky_typed]
  rintro e w3 ⟨hr, hb⟩
  have HB := Lib.hid (HB.out.trans (hb.mono HB.out.size))
  have HT := Lib.hid (HT.out.keep hb)
  have HLR := Lib.hid (HLR.out.keep hb)
  have HA := Lib.hid (HA.out.keep hb)
  obtain ⟨a1, n1, c1, rfl, hn1, ho⟩ := hr.open (p := ⟨#[110]⟩) rfl
  have HL := Lib.hid ho.lie
  clear ho hr hn1
  clear hb
  have HN3 := Lib.hid HB.out.size
  obtain ⟨w4, hwx⟩ : ∃ W, w3.alloc (.cells #[.slice a1 n1 c1, .int .i64 3, .string ⟨#[110]⟩] 33) = W := ⟨_, rfl⟩
  have HWX1 := Eqq.mk hwx
  have hb : Below w3.heap.size w3 w4 := by rw [← hwx]; exact (Below.refl _ _).alloc (Nat.le_refl _) _
  have HB := Lib.hid (HB.out.trans (hb.mono HB.out.size))
  have HT := Lib.hid (HT.out.keep hb)
  have HLR := Lib.hid (HLR.out.keep hb)
  have HA := Lib.hid (HA.out.keep hb)
  have HL := Lib.hid (HL.out.keep hb)
  have R3 := Lib.hid (show RowIs 33 w3.heap.size (.slice a1 n1 c1) (3) (⟨#[110]⟩) w4 from by rw [← hwx]; exact RowIs.new _ _ _ _ _)
  clear hb hwx
  have HSX := Lib.hid (show w3.heap.size < w4.heap.size from by rw [← HWX1.out, World.size_alloc]; exact Nat.lt_succ_self _)
  obtain ⟨⟨R3c0, R3c1, R3c2⟩, R3f0, R3f1, R3f2⟩ := three_cells (show (w3.alloc (.cells #[.slice a1 n1 c1, .int .i64 3, .string ⟨#[110]⟩] 33)).heap[_]? = _ from by rw [HWX1.out]; exact R3.out)
  go_wp2_with fail
  clear R3c0 R3c1 R3c2 R3f0 R3f1 R3f2
  rw [HWX1.out]
  with_reducible refine (text8_any _ kyI 3 ⟨#[110]⟩ [110] _ HL.out ky_is1 ky_fits HT.out).mono ?_
  rw [ky_text]
  rintro e w5 ⟨rfl, hb⟩
  have HB := Lib.hid (HB.out.trans (hb.mono HB.out.size))
  have HT := Lib.hid (HT.out.keep hb)
  have HLR := Lib.hid (HLR.out.keep hb)
  have HA := Lib.hid (HA.out.keep hb)
  have HL := Lib.hid (HL.out.keep hb)
  have R3 := Lib.hid (R3.out.keep hb)
  have HSY := Lib.hid hb.size
  clear hb
  obtain ⟨⟨R3c0, R3c1, R3c2⟩, R3f0, R3f1, R3f2⟩ := three_cells R3.out
  go_wp2_with fail
  clear R3c0 R3c1 R3c2 R3f0 R3f1 R3f2
  with_reducible refine (pflush_any _ a ys _ kyI 3 ⟨#[110]⟩ [110] _ HA.out (Nat.le_refl _) HL.out ky_is1 ky_fits HT.out).mono ?_
  rw [HD.out, ky_flush]
  rintro e w6 ⟨hr, hb⟩
  have HB := Lib.hid (HB.out.trans (hb.mono HB.out.size))
  have HT := Lib.hid (HT.out.keep hb)
  have HLR := Lib.hid (HLR.out.keep hb)
  have HA := Lib.hid (HA.out.keep hb)
  have HL := Lib.hid (HL.out.keep hb)
  have R3 := Lib.hid (R3.out.keep hb)
  obtain ⟨a2, n2, c2, rfl, hn2, ho⟩ := hr.open (p := ⟨#[]⟩) rfl
  have HO2 := Lib.hid ho
  clear ho hr hn2
  clear hb
  have HSZ := Lib.hid (show w3.heap.size < w5.heap.size from by have h1 := HSY.out; have h2 := HSX.out; omega)
  have hw7 := R3.out.put (.slice a2 n2 c2) 4 ⟨#[]⟩
  have ho7 := three_own8 HO2.out (show w3.heap.size < w5.heap.size from HSZ.out) (.slice a2 n2 c2) (.int .i64 4) (.string ⟨#[]⟩)
  have hb7 := three_below HB.out (show w.heap.size ≤ w3.heap.size from HN3.out) (.slice a2 n2 c2) (.int .i64 4) (.string ⟨#[]⟩)
  obtain ⟨⟨x0, x1, x2⟩, f0, f1, f2⟩ := three_cells R3.out
  obtain ⟨w7, hw9⟩ : ∃ w7, ((w6.setCell ⟨w3.heap.size, 0, none⟩ (.slice a2 n2 c2)).setCell ⟨w3.heap.size, 1, none⟩ (.int .i64 4)).setCell ⟨w3.heap.size, 2, none⟩ (.string ⟨#[]⟩) = w7 := ⟨_, rfl⟩
  rw [hw9] at hw7 ho7 hb7
  have R3 := Lib.hid hw7
  have HL := Lib.hid ho7.lie
  have HB := Lib.hid hb7
  have HT := Lib.hid (HT0.out.keep hb7)
  have HW9 := Eqq.mk hw9
  obtain ⟨⟨y0, y1, y2⟩, _⟩ := three_cells (show (((w6.setCell ⟨w3.heap.size, 0, none⟩ (.slice a2 n2 c2)).setCell ⟨w3.heap.size, 1, none⟩ (.int .i64 4)).setCell ⟨w3.heap.size, 2, none⟩ (.string ⟨#[]⟩)).heap[w3.heap.size]? = _ from by rw [hw9]; exact hw7)
  clear hw7 ho7 hb7 hw9
  go_wp2_with fail
  rw [HW9.out]
  clear x0 x1 x2 f0 f1 f2 y0 y1 y2
  with_reducible refine (text8_any _ kyJ 4 ⟨#[]⟩ [] _ HL.out ky_is2 ky_fits2 HT.out).mono ?_
  rw [ky_text2]
  rintro e w8 ⟨rfl, hb⟩
  have HB := Lib.hid (HB.out.trans (hb.mono HB.out.size))
  have HT := Lib.hid (HT.out.keep hb)
  have HL := Lib.hid (HL.out.keep hb)
  have R3 := Lib.hid (R3.out.keep hb)
  clear hb
  obtain ⟨⟨R3c0, R3c1, R3c2⟩, R3f0, R3f1, R3f2⟩ := three_cells R3.out
  go_wp2_with fail
  clear R3c0 R3c1 R3c2 R3f0 R3f1 R3f2
  with_reducible refine (raw8_any _ kyJ 4 ⟨#[]⟩ [] _ HL.out ky_is2 ky_fits2 HT.out).mono ?_
  rw [ky_raw2]
  rintro e w9 ⟨rfl, hb⟩
  have HB := Lib.hid (HB.out.trans (hb.mono HB.out.size))
  have HT := Lib.hid (HT.out.keep hb)
  have HL := Lib.hid (HL.out.keep hb)
  have R3 := Lib.hid (R3.out.keep hb)
  clear hb
  go_wp2_with fail
  go_ret
  exact ⟨rfl, by first | exact HB.out | exact HB.out.drew⟩
end Go.Proofs.YtgdcffahhpeibaaGreatDoor
