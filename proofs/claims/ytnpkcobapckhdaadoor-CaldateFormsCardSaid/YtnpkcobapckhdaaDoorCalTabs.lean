/-
  The tables that a row of the calendar lists, as the walks want them; a world for a row's witness. No condition but the row's own list.
-/
import Derived.Test.YtnpkcobapckhdaaDoorCalTools
import Derived.Test.YtnpkcobapckhdaaDoorCards
import Derived.Test.YtnpkcobapckhdaaDoorTie
import Derived.ProofKit
import Derived.OpenShut
import Derived.Deep.DeepHandedRow
import Derived.Lib.LaidU8T
import Derived.Lib.LaidTab
namespace Go.Proofs.YtnpkcobapckhdaaDoor
open Go.RowKit Go.Lib

section
variable {H : Type} {enc : TypeId × Value → H} {P : Program} {w : World} {base : Nat} {sp : Nat → Bool} {held : Bool}
/-- an array of strings that reads so holds them -/
theorem strs_of_array {fuel : Nat} {t e : TypeId} {n : Nat} {cs : List Value} {ls : List (List UInt8)} {p : List MemPlace}
    (ht : P.underlying t = some (.array n e)) (he : P.underlying e = some .string) (hce : P.cellsOf e = 1)
    (h : DataW.trod enc P w base sp held fuel t cs = some (.agg (ls.map fun l => .lit (.string l)), p)) (hl : cs.length = n) (hls : ls.length = n) : cs = ls.map fun l => Value.string ⟨l.toArray⟩ := by
  apply List.ext_getElem?
  intro i
  by_cases hi : i < n
  · obtain ⟨f, d, q, hd, hq⟩ := array_elem ht h i hi
    rw [hce, Nat.mul_one] at hq
    obtain ⟨s, hs, hx, _⟩ := DataW.trod_string he hq
    have h1 : cs[i]? = some (.string s) := by
      have := congrArg (·[0]?) hs
      simpa [List.getElem?_take, List.getElem?_drop] using this
    injection hx with hx1 _
    rw [List.getElem?_map, List.getElem?_eq_getElem (by omega), Option.map_some, hx1] at hd
    have h2 : ls[i] = s.data.toList := by injection hd with hd; injection hd with hd; injection hd
    rw [h1, List.getElem?_map, List.getElem?_eq_getElem (by omega), Option.map_some, h2]
  · rw [List.getElem?_eq_none (by omega), List.getElem?_eq_none (by rw [List.length_map]; omega)]
end

theorem strD (l : List (List UInt8)) : strC l = l.map fun l => Value.string ⟨l.toArray⟩ := rfl
theorem row_of_var {g : Nat} {n : String} {cs cs' : Array Value} {w : World} (hg : Tryd.prog.globalNamed n = some g) (hv : w.var? Tryd.prog n = some cs) (he : cs.toList = cs'.toList) : Row g cs' w := by
  have e : cs = cs' := Array.toList_inj.1 he
  subst e
  simp only [World.var?, hg, Option.bind_some] at hv
  split at hv
  · rename_i c t fr hb
    injection hv with hv
    exact ⟨t, fr, by rw [hb, hv]⟩
  · cases hv
theorem gPlain : Tryd.prog.globalNamed "henkan/numeral.plain" = some 0 := by kernel_rfl
theorem gGroups : Tryd.prog.globalNamed "henkan/numeral.groups" = some 1 := by kernel_rfl
theorem yPlain : (Tryd.prog.globals[0]?).map (·.type) = some 62 := by kernel_rfl
theorem yGroups : (Tryd.prog.globals[1]?).map (·.type) = some 72 := by kernel_rfl
theorem cStr : Tryd.prog.cellsOf 9 = 1 := by kernel_rfl
theorem c5Str : Tryd.prog.cellsOf 72 = 5 := by kernel_rfl
theorem c10Str : Tryd.prog.cellsOf 59 = 10 := by kernel_rfl
theorem c4Str : Tryd.prog.cellsOf 60 = 4 := by kernel_rfl
theorem cBool : Tryd.prog.cellsOf 4 = 1 := by kernel_rfl
theorem cStyle : Tryd.prog.cellsOf 62 = 15 := by kernel_rfl

/-- a style that reads so -/
def styleD (dg un : List (List UInt8)) (o : Bool) : DataW Unit := .agg [.agg (dg.map fun l => .lit (.string l)), .agg (un.map fun l => .lit (.string l)), .lit (.bool o)]
set_option maxRecDepth 100000 in
theorem style_cells {fuel : Nat} {cs : List Value} {w : World} {dg un : List (List UInt8)} {o : Bool} {p : List MemPlace} (hd : dg.length = 10) (hu : un.length = 4)
    (h : DataW.trod (fun _ => ()) Tryd.prog w 0 (fun _ => true) false fuel 62 cs = some (styleD dg un o, p)) : cs = strC dg ++ strC un ++ [Value.bool o] := by
  obtain ⟨xs, n, rfl, hx, hl, hxl, hall⟩ := DataW.trod_struct Tryd.underlying62 h
  rw [cStyle] at hl
  have h0 := hall 0 _ rfl
  have h1 := hall 1 _ rfl
  have h2 := hall 2 _ rfl
  obtain ⟨a, b, c, rfl⟩ : ∃ a b c, xs = [a, b, c] := by
    match xs, hxl with
    | [a, b, c], _ => exact ⟨a, b, c, rfl⟩
  unfold styleD at hx
  injection hx with hx _
  injection hx with hx
  simp only [List.map_cons, List.map_nil, List.cons.injEq, and_true] at hx
  obtain ⟨hx0, hx1, hx2⟩ := hx
  change DataW.trod _ _ _ _ _ _ n 59 ((cs.drop 0).take (Tryd.prog.cellsOf 59)) = some a at h0
  change DataW.trod _ _ _ _ _ _ n 60 ((cs.drop 10).take (Tryd.prog.cellsOf 60)) = some b at h1
  change DataW.trod _ _ _ _ _ _ n 4 ((cs.drop 14).take (Tryd.prog.cellsOf 4)) = some c at h2
  rw [c10Str] at h0
  rw [c4Str] at h1
  rw [cBool] at h2
  obtain ⟨a1, a2⟩ := a
  obtain ⟨b1, b2⟩ := b
  obtain ⟨d1, d2⟩ := c
  simp only at hx0 hx1 hx2
  rw [← hx0] at h0
  rw [← hx1] at h1
  rw [← hx2] at h2
  have e0 := strs_of_array Tryd.underlying59 Tryd.underlying9 cStr h0 (by rw [List.length_take, List.length_drop]; omega) hd
  have e1 := strs_of_array Tryd.underlying60 Tryd.underlying9 cStr h1 (by rw [List.length_take, List.length_drop]; omega) hu
  obtain ⟨b, e2, hb⟩ := DataW.trod_bool Tryd.underlying4 h2
  injection hb with hb _
  injection hb with hb
  injection hb with hb
  have f : cs = (cs.drop 0).take 10 ++ (cs.drop 10).take 4 ++ (cs.drop 14).take 1 := by
    have a1 : cs = cs.take 10 ++ cs.drop 10 := (List.take_append_drop 10 cs).symm
    have a2 : cs.drop 10 = (cs.drop 10).take 4 ++ (cs.drop 10).drop 4 := (List.take_append_drop 4 _).symm
    have a3 : (cs.drop 14).take 1 = cs.drop 14 := List.take_of_length_le (by rw [List.length_drop]; omega)
    rw [a3, List.drop_zero, List.append_assoc]
    rw [List.drop_drop] at a2
    rw [← a2]; exact a1
  rw [f, e0, e1, e2, hb]
  rfl

def u8ren : Go.Shelf.Ren := ⟨fun n => n, fun | 5 => 5 | 119 => 109 | 138 => 111 | 139 => 112 | n => n, fun | 3 => 6 | 4 => 7 | n => n⟩
theorem u8types : U8Types Tryd.prog u8ren where
  t5 := Tryd.underlying5
  t119 := Tryd.underlying109
  t138 := Tryd.underlying111
  t139 := Tryd.underlying112
theorem u8extra : U8Extra Tryd.prog u8ren where
  n3 := by kernel_rfl
  n4 := by kernel_rfl
  y3 := by kernel_rfl
  y4 := by kernel_rfl
  c5 := by kernel_rfl
  c119 := by kernel_rfl
  c138 := by kernel_rfl

theorem eFirst : (firstData : DataW Unit) = Rows.laid_unicode_utf8_first := by kernel_rfl
theorem eAcc : (acceptData : DataW Unit) = Rows.laid_unicode_utf8_acceptRanges := by kernel_rfl
theorem ePow : (tabData .u64 pow10Tab : DataW Unit) = Rows.laid_internal_strconv_uint64pow10 := by kernel_rfl
theorem yPow : (Tryd.prog.globals[3]?).map (·.type) = some 91 := by kernel_rfl
theorem cU64 : Tryd.prog.cellsOf 79 = 1 := by kernel_rfl
theorem c20U64 : Tryd.prog.cellsOf 91 = 20 := by kernel_rfl
abbrev theLaid : List (String × DataW Unit) := Rows.caldateFormsRow.laid
theorem tabs_of_laid {W : World} (h : laidMetH Tryd.prog theLaid W) : CTabs W := by
  have hm : laidMet Tryd.prog theLaid W := h
  refine ⟨⟨?_, ?_, ?_⟩, ?_⟩
  · obtain ⟨g, t, cs, fuel, p, hg, hty, hvar, hd⟩ := laidMet.reads hm (n := "henkan/numeral.plain") (d := Rows.laid_henkan_numeral_plain) (by simp [theLaid, Rows.caldateFormsRow])
    obtain rfl := Option.some.inj (gPlain.symm.trans hg)
    obtain rfl := Option.some.inj (yPlain.symm.trans hty)
    have e : cs.toList = plainC.toList := style_cells (dg := Num.dgP) (un := Num.unP) (o := false) rfl rfl hd
    exact row_of_var gPlain hvar e
  · obtain ⟨g, t, cs, fuel, p, hg, hty, hvar, hd⟩ := laidMet.reads hm (n := "henkan/numeral.groups") (d := Rows.laid_henkan_numeral_groups) (by simp [theLaid, Rows.caldateFormsRow])
    obtain rfl := Option.some.inj (gGroups.symm.trans hg)
    obtain rfl := Option.some.inj (yGroups.symm.trans hty)
    have hlen : cs.toList.length = 5 := by
      cases fuel with
      | zero => simp [DataW.trod] at hd
      | succ n =>
        simp only [DataW.trod, Tryd.underlying72, c5Str] at hd
        split at hd
        · assumption
        · cases hd
    have e : cs.toList = groupsC.toList := strs_of_array (ls := Num.grp) Tryd.underlying72 Tryd.underlying9 cStr hd hlen rfl
    exact row_of_var gGroups hvar e
  · refine utf8Tabs_of_readsT u8types u8extra ?_ ?_
    · rw [eFirst]; exact laidMet.reads hm (by simp [theLaid, Rows.caldateFormsRow])
    · rw [eAcc]; exact laidMet.reads hm (by simp [theLaid, Rows.caldateFormsRow])
  · obtain ⟨g, t, cs, fuel, p, hg, hty, hvar, hd⟩ := laidMet.reads hm (n := "internal/strconv.uint64pow10") (d := Rows.laid_internal_strconv_uint64pow10) (by simp [theLaid, Rows.caldateFormsRow])
    obtain rfl := Option.some.inj (gPow.symm.trans hg)
    obtain rfl := Option.some.inj (yPow.symm.trans hty)
    rw [← ePow] at hd
    unfold TabIs
    rw [hvar, ← cells_of_tab Tryd.underlying91 Tryd.underlying79 cU64 c20U64 hd]

theorem own : ownKnob Tryd.prog.godebug = none := by kernel_rfl
/-- the cells of a table of numbers -/
def litCells : DataW Unit → List Value
  | .agg ds => litAll ds
  | .lit (.int k z) => [.int k z]
  | _ => []
where litAll : List (DataW Unit) → List Value
  | [] => []
  | d :: r => (match d with | .lit (.int k z) => [Value.int k z] | _ => []) ++ litAll r
def lay (g : Nat) (cs : Array Value) (h : Array Obj) : Array Obj := h.modify g fun
  | .cells _ t frozen => .cells cs t frozen
  | o => o
/-- a world for a witness: the tables hold what the program's text lays -/
noncomputable def laidWorld (os : Os) : World :=
  { World.holding Tryd.prog os ⟨#[], #[], []⟩ with heap := lay 4 (litCells Rows.laid_math_bits_deBruijn32tab).toArray (lay 5 (litCells Rows.laid_math_bits_deBruijn64tab).toArray (lay 3 (litCells Rows.laid_internal_strconv_uint64pow10).toArray (lay 0 plainC (lay 1 groupsC (lay 6 (firstTab.map fun z => Value.int .u8 z).toArray (lay 7 (((List.range 16).flatMap fun i => [Value.int .u8 (accLo i : Int), Value.int .u8 (accHi i : Int)])).toArray (World.holding Tryd.prog os ⟨#[], #[], []⟩).heap)))))) }
theorem laid_met (os : Os) (args : Array Value) : laidMet Tryd.prog theLaid ((laidWorld os).forCall (fun _ _ => 0) ⟨#[], args, []⟩).memory :=
  laidMet_of_run' 8 (by kernel_rfl) (by kernel_rfl)
end Go.Proofs.YtnpkcobapckhdaaDoor
