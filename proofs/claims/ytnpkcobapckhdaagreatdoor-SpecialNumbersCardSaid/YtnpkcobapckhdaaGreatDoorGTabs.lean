/-
  The tables that the rows of the great door list, as the walks want them; worlds for the rows' witnesses. No condition but the rows' own lists.
-/
import Derived.Test.YtnpkcobapckhdaaGreatDoorCalTools
import Derived.Test.YtnpkcobapckhdaaGreatDoorCalRead
import Derived.Test.YtnpkcobapckhdaaGreatDoorCards
import Derived.Test.YtnpkcobapckhdaaGreatDoorTie
import Derived.ProofKit
import Derived.OpenShut
import Derived.Deep.DeepHandedRow
import Derived.Lib.LaidU8T
import Derived.Lib.LaidTab
namespace Go.Proofs.YtnpkcobapckhdaaGreatDoor
open Go.RowKit Go.Lib

section
variable {H : Type} {enc : TypeId × Value → H} {P : Program} {w : World} {base : Nat} {sp : Nat → Bool} {held : Bool}
/-- an array of strings that reads so holds them -/
theorem strs_of_array {fuel : Nat} {t e : TypeId} {n : Nat} {cs : List Value} {ls : List (List UInt8)} {p : List MemPlace}
    (ht : P.underlying t = some (.array n e)) (he : P.underlying e = some .string) (hce : P.cellsOf e = 1)
    (h : DataW.trod enc P w base sp held fuel t cs = some (.agg (ls.map fun l => .lit (.string l)), p)) (hl : cs.length = n) (hls : ls.length = n) : cs = ls.map fun l => Value.string ⟨l.toArray⟩ := by
  apply List.ext_getElem?
  intro i
  by_cases hi : i < n
  · obtain ⟨f, d, q, hd, hq⟩ := array_elem ht h i hi
    rw [hce, Nat.mul_one] at hq
    obtain ⟨s, hs, hx, _⟩ := DataW.trod_string he hq
    have h1 : cs[i]? = some (.string s) := by
      have := congrArg (·[0]?) hs
      simpa [List.getElem?_take, List.getElem?_drop] using this
    injection hx with hx1 _
    rw [List.getElem?_map, List.getElem?_eq_getElem (by omega), Option.map_some, hx1] at hd
    have h2 : ls[i] = s.data.toList := by injection hd with hd; injection hd with hd; injection hd
    rw [h1, List.getElem?_map, List.getElem?_eq_getElem (by omega), Option.map_some, h2]
  · rw [List.getElem?_eq_none (by omega), List.getElem?_eq_none (by rw [List.length_map]; omega)]
end

theorem strD (l : List (List UInt8)) : strC l = l.map fun l => Value.string ⟨l.toArray⟩ := rfl
theorem row_of_var {g : Nat} {n : String} {cs cs' : Array Value} {w : World} (hg : Tryz.prog.globalNamed n = some g) (hv : w.var? Tryz.prog n = some cs) (he : cs.toList = cs'.toList) : Row g cs' w := by
  have e : cs = cs' := Array.toList_inj.1 he
  subst e
  simp only [World.var?, hg, Option.bind_some] at hv
  split at hv
  · rename_i c t fr hb
    injection hv with hv
    exact ⟨t, fr, by rw [hb, hv]⟩
  · cases hv
theorem gPlain : Tryz.prog.globalNamed "henkan/numeral.plain" = some 0 := by kernel_rfl
theorem gFormal : Tryz.prog.globalNamed "henkan/numeral.formal" = some 1 := by kernel_rfl
theorem gGroups : Tryz.prog.globalNamed "henkan/numeral.groups" = some 2 := by kernel_rfl
theorem yPlain : (Tryz.prog.globals[0]?).map (·.type) = some 111 := by kernel_rfl
theorem yFormal : (Tryz.prog.globals[1]?).map (·.type) = some 111 := by kernel_rfl
theorem yGroups : (Tryz.prog.globals[2]?).map (·.type) = some 131 := by kernel_rfl
theorem cStr : Tryz.prog.cellsOf 9 = 1 := by kernel_rfl
theorem c5Str : Tryz.prog.cellsOf 131 = 5 := by kernel_rfl
theorem c10Str : Tryz.prog.cellsOf 108 = 10 := by kernel_rfl
theorem c4Str : Tryz.prog.cellsOf 109 = 4 := by kernel_rfl
theorem cBool : Tryz.prog.cellsOf 4 = 1 := by kernel_rfl
theorem cStyle : Tryz.prog.cellsOf 111 = 15 := by kernel_rfl

/-- a style that reads so -/
def styleD (dg un : List (List UInt8)) (o : Bool) : DataW Unit := .agg [.agg (dg.map fun l => .lit (.string l)), .agg (un.map fun l => .lit (.string l)), .lit (.bool o)]
set_option maxRecDepth 100000 in
theorem style_cells {fuel : Nat} {cs : List Value} {w : World} {dg un : List (List UInt8)} {o : Bool} {p : List MemPlace} (hd : dg.length = 10) (hu : un.length = 4)
    (h : DataW.trod (fun _ => ()) Tryz.prog w 0 (fun _ => true) false fuel 111 cs = some (styleD dg un o, p)) : cs = strC dg ++ strC un ++ [Value.bool o] := by
  obtain ⟨xs, n, rfl, hx, hl, hxl, hall⟩ := DataW.trod_struct Tryz.underlying111 h
  rw [cStyle] at hl
  have h0 := hall 0 _ rfl
  have h1 := hall 1 _ rfl
  have h2 := hall 2 _ rfl
  obtain ⟨a, b, c, rfl⟩ : ∃ a b c, xs = [a, b, c] := by
    match xs, hxl with
    | [a, b, c], _ => exact ⟨a, b, c, rfl⟩
  unfold styleD at hx
  injection hx with hx _
  injection hx with hx
  simp only [List.map_cons, List.map_nil, List.cons.injEq, and_true] at hx
  obtain ⟨hx0, hx1, hx2⟩ := hx
  change DataW.trod _ _ _ _ _ _ n 108 ((cs.drop 0).take (Tryz.prog.cellsOf 108)) = some a at h0
  change DataW.trod _ _ _ _ _ _ n 109 ((cs.drop 10).take (Tryz.prog.cellsOf 109)) = some b at h1
  change DataW.trod _ _ _ _ _ _ n 4 ((cs.drop 14).take (Tryz.prog.cellsOf 4)) = some c at h2
  rw [c10Str] at h0
  rw [c4Str] at h1
  rw [cBool] at h2
  obtain ⟨a1, a2⟩ := a
  obtain ⟨b1, b2⟩ := b
  obtain ⟨d1, d2⟩ := c
  simp only at hx0 hx1 hx2
  rw [← hx0] at h0
  rw [← hx1] at h1
  rw [← hx2] at h2
  have e0 := strs_of_array Tryz.underlying108 Tryz.underlying9 cStr h0 (by rw [List.length_take, List.length_drop]; omega) hd
  have e1 := strs_of_array Tryz.underlying109 Tryz.underlying9 cStr h1 (by rw [List.length_take, List.length_drop]; omega) hu
  obtain ⟨b, e2, hb⟩ := DataW.trod_bool Tryz.underlying4 h2
  injection hb with hb _
  injection hb with hb
  injection hb with hb
  have f : cs = (cs.drop 0).take 10 ++ (cs.drop 10).take 4 ++ (cs.drop 14).take 1 := by
    have a1 : cs = cs.take 10 ++ cs.drop 10 := (List.take_append_drop 10 cs).symm
    have a2 : cs.drop 10 = (cs.drop 10).take 4 ++ (cs.drop 10).drop 4 := (List.take_append_drop 4 _).symm
    have a3 : (cs.drop 14).take 1 = cs.drop 14 := List.take_of_length_le (by rw [List.length_drop]; omega)
    rw [a3, List.drop_zero, List.append_assoc]
    rw [List.drop_drop] at a2
    rw [← a2]; exact a1
  rw [f, e0, e1, e2, hb]
  rfl

def u8ren : Go.Shelf.Ren := ⟨fun n => n, fun | 5 => 5 | 119 => 168 | 138 => 170 | 139 => 171 | n => n, fun | 3 => 4 | 4 => 5 | n => n⟩
theorem u8types : U8Types Tryz.prog u8ren where
  t5 := Tryz.underlying5
  t119 := Tryz.underlying168
  t138 := Tryz.underlying170
  t139 := Tryz.underlying171
theorem u8extra : U8Extra Tryz.prog u8ren where
  n3 := by kernel_rfl
  n4 := by kernel_rfl
  y3 := by kernel_rfl
  y4 := by kernel_rfl
  c5 := by kernel_rfl
  c119 := by kernel_rfl
  c138 := by kernel_rfl

theorem eFirst : (firstData : DataW Unit) = Rows.laid_unicode_utf8_first := by kernel_rfl
theorem eAcc : (acceptData : DataW Unit) = Rows.laid_unicode_utf8_acceptRanges := by kernel_rfl
theorem ePow : (tabData .u64 pow10Tab : DataW Unit) = Rows.laid_internal_strconv_uint64pow10 := by kernel_rfl
theorem yPow : (Tryz.prog.globals[8]?).map (·.type) = some 182 := by kernel_rfl
theorem cU64 : Tryz.prog.cellsOf 156 = 1 := by kernel_rfl
theorem c20U64 : Tryz.prog.cellsOf 182 = 20 := by kernel_rfl
abbrev theLaidS : List (String × DataW Unit) := [("math/bits.deBruijn32tab", Rows.laid_math_bits_deBruijn32tab), ("math/bits.deBruijn64tab", Rows.laid_math_bits_deBruijn64tab), ("internal/strconv.uint64pow10", Rows.laid_internal_strconv_uint64pow10), ("unicode/utf8.acceptRanges", Rows.laid_unicode_utf8_acceptRanges), ("henkan/numeral.plain", Rows.laid_henkan_numeral_plain), ("henkan/numeral.formal", Rows.laid_henkan_numeral_formal), ("henkan/numeral.groups", Rows.laid_henkan_numeral_groups), ("unicode/utf8.first", Rows.laid_unicode_utf8_first)]
abbrev theLaidP : List (String × DataW Unit) := [("math/bits.deBruijn32tab", Rows.laid_math_bits_deBruijn32tab), ("math/bits.deBruijn64tab", Rows.laid_math_bits_deBruijn64tab), ("internal/strconv.uint64pow10", Rows.laid_internal_strconv_uint64pow10), ("unicode/utf8.acceptRanges", Rows.laid_unicode_utf8_acceptRanges), ("strconv.ErrRange", Rows.laid_strconv_ErrRange), ("strconv.ErrSyntax", Rows.laid_strconv_ErrSyntax), ("henkan/numeral.plain", Rows.laid_henkan_numeral_plain), ("henkan/numeral.formal", Rows.laid_henkan_numeral_formal), ("henkan/numeral.groups", Rows.laid_henkan_numeral_groups), ("unicode/utf8.first", Rows.laid_unicode_utf8_first)]
theorem ctabs_of {l : List (String × DataW Unit)} {W : World} (hm : laidMet Tryz.prog l W) (m1 : ("henkan/numeral.plain", Rows.laid_henkan_numeral_plain) ∈ l) (m2 : ("henkan/numeral.formal", Rows.laid_henkan_numeral_formal) ∈ l) (m3 : ("henkan/numeral.groups", Rows.laid_henkan_numeral_groups) ∈ l)
    (m4 : ("unicode/utf8.first", Rows.laid_unicode_utf8_first) ∈ l) (m5 : ("unicode/utf8.acceptRanges", Rows.laid_unicode_utf8_acceptRanges) ∈ l) (m6 : ("internal/strconv.uint64pow10", Rows.laid_internal_strconv_uint64pow10) ∈ l) : CTabs W := by
  refine ⟨⟨?_, ?_, ?_, ?_⟩, ?_⟩
  · obtain ⟨g, t, cs, fuel, p, hg, hty, hvar, hd⟩ := laidMet.reads hm m1
    obtain rfl := Option.some.inj (gPlain.symm.trans hg)
    obtain rfl := Option.some.inj (yPlain.symm.trans hty)
    have e : cs.toList = plainC.toList := style_cells (dg := Num.dgP) (un := Num.unP) (o := false) rfl rfl hd
    exact row_of_var gPlain hvar e
  · obtain ⟨g, t, cs, fuel, p, hg, hty, hvar, hd⟩ := laidMet.reads hm m2
    obtain rfl := Option.some.inj (gFormal.symm.trans hg)
    obtain rfl := Option.some.inj (yFormal.symm.trans hty)
    have e : cs.toList = formalC.toList := style_cells (dg := Num.dgF) (un := Num.unF) (o := true) rfl rfl hd
    exact row_of_var gFormal hvar e
  · obtain ⟨g, t, cs, fuel, p, hg, hty, hvar, hd⟩ := laidMet.reads hm m3
    obtain rfl := Option.some.inj (gGroups.symm.trans hg)
    obtain rfl := Option.some.inj (yGroups.symm.trans hty)
    have hlen : cs.toList.length = 5 := by
      cases fuel with
      | zero => simp [DataW.trod] at hd
      | succ n =>
        simp only [DataW.trod, Tryz.underlying131, c5Str] at hd
        split at hd
        · assumption
        · cases hd
    have e : cs.toList = groupsC.toList := strs_of_array (ls := Num.grp) Tryz.underlying131 Tryz.underlying9 cStr hd hlen rfl
    exact row_of_var gGroups hvar e
  · refine utf8Tabs_of_readsT u8types u8extra ?_ ?_
    · rw [eFirst]; exact laidMet.reads hm m4
    · rw [eAcc]; exact laidMet.reads hm m5
  · obtain ⟨g, t, cs, fuel, p, hg, hty, hvar, hd⟩ := laidMet.reads hm m6
    obtain rfl := Option.some.inj (gPow.symm.trans hg)
    obtain rfl := Option.some.inj (yPow.symm.trans hty)
    rw [← ePow] at hd
    unfold TabIs
    rw [hvar, ← cells_of_tab Tryz.underlying182 Tryz.underlying156 cU64 c20U64 hd]
/-- what the special writings want of a world -/
structure STabs (w : World) : Prop where
  cal : CTabs w
  mx : ∃ m, w.cell? ⟨3, 0, none⟩ = some (.int .i64 m)
theorem STabs.below {B : Nat} {w w' : World} (h : STabs w) (hb : Below B w w') (hB : w.heap.size ≤ B) : STabs w' :=
  ⟨h.cal.below hb hB, let ⟨a, c⟩ := h.mx; ⟨a, below_cell c hb hB⟩⟩
theorem STabs.keep {w w' : World} (h : STabs w) (hb : Below w.heap.size w w') : STabs w' := h.below hb (Nat.le_refl _)
theorem stabs_of_laid {W : World} (h : laidMetH Tryz.prog theLaidS W) (hS : W.ShapedOpen Tryz.prog) : STabs W :=
  ⟨ctabs_of (l := theLaidS) h (by simp [theLaidS]) (by simp [theLaidS]) (by simp [theLaidS]) (by simp [theLaidS]) (by simp [theLaidS]) (by simp [theLaidS]), Tryz.laysM145.s1_3 W hS⟩

set_option maxRecDepth 100000 in
theorem iface_of {l : List (String × DataW Unit)} {W : World} (hm : laidMet Tryz.prog l W) {n : String} {g : Nat} {d : DataW Unit} {s : String} (hg : Tryz.prog.globalNamed n = some g) (hy : (Tryz.prog.globals[g]?).map (·.type) = some 88) (mem : (n, DataW.iface s d) ∈ l) :
    ∃ te pe, W.cell? ⟨g, 0, none⟩ = some (.iface te pe) := by
  obtain ⟨g', t, cs, fuel, p, hg', hty, hvar, hd⟩ := laidMet.reads hm mem
  obtain rfl := Option.some.inj (hg.symm.trans hg')
  obtain rfl := Option.some.inj (hy.symm.trans hty)
  have hc : ∃ te pe, cs.toList = [.iface te pe] := by
    cases fuel with
    | zero => simp [DataW.trod] at hd
    | succ k =>
      simp only [DataW.trod, Tryz.underlying88] at hd
      split at hd
      all_goals first
      | (rename_i h1 h2; injection h1 with h1; cases h1; done)
      | exact ⟨_, _, by assumption⟩
      | (cases hd; done)
      | (simp at hd; done)
  obtain ⟨te, pe, hc⟩ := hc
  obtain ⟨_, _, hb⟩ := row_of_var (cs' := #[.iface te pe]) hg hvar hc
  exact ⟨te, pe, by rw [Lib.cell_of_heap hb]; rfl⟩
theorem gRan : Tryz.prog.globalNamed "strconv.ErrRange" = some 7 := by kernel_rfl
theorem gSyn : Tryz.prog.globalNamed "strconv.ErrSyntax" = some 6 := by kernel_rfl
theorem yRan : (Tryz.prog.globals[7]?).map (·.type) = some 88 := by kernel_rfl
theorem ySyn : (Tryz.prog.globals[6]?).map (·.type) = some 88 := by kernel_rfl
theorem plainP : theLaidP.filter (fun x => x.2.handleName?.isSome) = [] := by kernel_rfl
theorem ptabs_of_laid {W : World} (h : laidMetH Tryz.prog theLaidP W) (hS : W.ShapedOpen Tryz.prog) : PTabs W := by
  have hm : laidMet Tryz.prog theLaidP W := by unfold laidMetH at h; rw [plainP] at h; exact h
  refine ⟨ctabs_of hm (by simp [theLaidP]) (by simp [theLaidP]) (by simp [theLaidP]) (by simp [theLaidP]) (by simp [theLaidP]) (by simp [theLaidP]), ?_, ?_, Tryz.laysM145.s1_3 W hS⟩
  · exact iface_of hm gSyn ySyn (show ("strconv.ErrSyntax", Rows.laid_strconv_ErrSyntax) ∈ theLaidP by simp [theLaidP])
  · exact iface_of hm gRan yRan (show ("strconv.ErrRange", Rows.laid_strconv_ErrRange) ∈ theLaidP by simp [theLaidP])

theorem own : ownKnob Tryz.prog.godebug = none := by kernel_rfl
/-- the cells of a table of numbers -/
def litCells : DataW Unit → List Value
  | .agg ds => litAll ds
  | .lit (.int k z) => [.int k z]
  | _ => []
where litAll : List (DataW Unit) → List Value
  | [] => []
  | d :: r => (match d with | .lit (.int k z) => [Value.int k z] | _ => []) ++ litAll r
def lay (g : Nat) (cs : Array Value) (h : Array Obj) : Array Obj := h.modify g fun
  | .cells _ t frozen => .cells cs t frozen
  | o => o
/-- the heap's tables hold what the program's text lays -/
def layAll (h : Array Obj) : Array Obj := lay 9 (litCells Rows.laid_math_bits_deBruijn32tab).toArray (lay 10 (litCells Rows.laid_math_bits_deBruijn64tab).toArray (lay 8 (litCells Rows.laid_internal_strconv_uint64pow10).toArray (lay 0 plainC (lay 1 formalC (lay 2 groupsC (lay 4 (firstTab.map fun z => Value.int .u8 z).toArray (lay 5 (((List.range 16).flatMap fun i => [Value.int .u8 (accLo i : Int), Value.int .u8 (accHi i : Int)])).toArray h)))))))
/-- a world for a witness -/
noncomputable def laidWorldS (os : Os) : World :=
  { World.holding Tryz.prog os ⟨#[], #[], []⟩ with heap := layAll (World.holding Tryz.prog os ⟨#[], #[], []⟩).heap }
theorem laid_metS (os : Os) (args : Array Value) : laidMet Tryz.prog theLaidS ((laidWorldS os).forCall (fun _ _ => 0) ⟨#[], args, []⟩).memory :=
  laidMet_of_run' 8 (by kernel_rfl) (by kernel_rfl)
noncomputable def low : Nat := (World.holding Tryz.prog default ⟨#[], #[], []⟩).heap.size
def rangeS : ByteArray := ⟨#[118, 97, 108, 117, 101, 32, 111, 117, 116, 32, 111, 102, 32, 114, 97, 110, 103, 101]⟩
def syntaxS : ByteArray := ⟨#[105, 110, 118, 97, 108, 105, 100, 32, 115, 121, 110, 116, 97, 120]⟩
/-- .. with the two errors -/
noncomputable def laidWorldP (os : Os) : World :=
  { World.holding Tryz.prog os ⟨#[.cells #[.string rangeS] 189, .cells #[.string syntaxS] 189], #[], []⟩ with heap := lay 7 #[.iface 187 (.pointer (some ⟨low, 0, none⟩))] (lay 6 #[.iface 187 (.pointer (some ⟨low + 1, 0, none⟩))] (layAll (World.holding Tryz.prog os ⟨#[.cells #[.string rangeS] 189, .cells #[.string syntaxS] 189], #[], []⟩).heap)) }
theorem laid_metP (os : Os) (args : Array Value) : laidMet Tryz.prog theLaidP ((laidWorldP os).forCall (fun _ _ => 0) ⟨#[], args, []⟩).memory :=
  laidMet_of_run' 8 (by kernel_rfl) (by kernel_rfl)
end Go.Proofs.YtnpkcobapckhdaaGreatDoor
