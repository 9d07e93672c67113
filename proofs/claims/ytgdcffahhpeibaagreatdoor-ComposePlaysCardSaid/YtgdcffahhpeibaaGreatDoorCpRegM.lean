/-
  Move upon both buffers: a drawn region of ComposePlays. No condition.
-/
import Derived.Test.YtgdcffahhpeibaaGreatDoorCpRegs
import Derived.Deep.RegionLaw
import Derived.Deep.CutBlock
import Derived.Deep.RegionHeld3
import Derived.IntWalk
namespace Go.Proofs.YtgdcffahhpeibaaGreatDoor
open Go.ChangeShapes Go.WideShapes Go.ChangeAt Go.RowKit
set_option linter.unusedVariables false
set_option maxRecDepth 100000 in
set_option maxHeartbeats 16000000 in
theorem plays31 {ops : Array Oper} (hops : Tryz.f10.body.bind (regionIn 31) = some ops) {w4 wr : World} {a1 a2 : Option Addr} {m1 q1 m2 q2 : Nat} {c nc : Int} {p np : ByteArray} {nx : List Cp.Item} {nl : List UInt8} {gg oo n capn i : Nat} {num : Int}
    (hrb : RowIs 33 w4.heap.size (.slice a1 m1 q1) c p wr) (hrw : RowIs 42 (w4.heap.size + 1) (.slice a2 m2 q2) c p wr) (hnp : ba nl = np) (hnv : Cp.valid ⟨nx, nc, nl⟩ = true) (hns : Cp.Small ⟨nx, nc, nl⟩) (hbw : Below w4.heap.size w4 wr) (i0 : (0 : Int) ≤ (i : Int)) (i1 : (i : Int) < (n : Int)) (e2 : wr.cell? ⟨gg, oo + i * 3 + 2, none⟩ = some (.int .i64 num))
    (hc1 : ∀ W, Below wr.heap.size wr W → Calls Tryz.prog 32 #[bufV (.slice a1 m1 q1) c p, .int .i64 num] W fun e w' => BufR W.heap.size ⟨nx, nc, nl⟩ e w' ∧ Below W.heap.size W w')
    (hc2 : ∀ W, Below wr.heap.size wr W → Calls Tryz.prog 40 #[bufV (.slice a2 m2 q2) c p, .int .i64 num] W fun e w' => RefR ⟨nx, nc, nl⟩ e w' ∧ Below W.heap.size W w')
    {z1 z2 z3 z4 z5 z9 z10 z11 z12 z13 z14 z15 z16 z17 z18 z19 z20 z21 z22 z23 z24 z25 z26 z27 z28 z29 z30 z31 z32 z33 z34 z35 z36 z37 z38 z39 z40 z41 z42 z43 z44 z45 z46 z47 z48 z49 z50 z51 z52 z53 z54 z55 z56 z57 z58 z59 z60 z61 z62 z63 z64 z65 z66 z67 z68 z69 z70 z71 z72 z73 z74 z75 z76 z77 z78 z79 z80 z81 z82 z83 z84 z85 z86 z87 z88 z89 z90 z91 z92 z93 z94 z95 z96 z97 z98 z99 z100 z101 z102 z103 z104 z105 z106 z107 z108 z109 z110 z111 z112 z113 z114 z115 z116 z117 z118 z119 z120 z121 z122 z123 z124 z125 z126 z127 z128 z129 z130 z131 z132 z133 z134 z135 z136 z137 z138 z139 : Value} {Q : Exit → Act → World → Prop}
    (hQ : ∀ (y108 y109 y110 y111 y112 y113 y114 y115 y116 y117 y118 y119 y120 y121 : Value) (w' : World), Both w4.heap.size (w4.heap.size + 1) w4 w' → Q .normal { tmps := #[.slice (some ⟨gg, oo, none⟩) n capn, z1, z2, z3, z4, z5, .pointer (some ⟨w4.heap.size, 0, none⟩), .pointer (some ⟨w4.heap.size + 1, 0, none⟩), .int .i64 (i : Int), z9, z10, z11, z12, z13, z14, z15, z16, z17, z18, z19, z20, z21, z22, z23, z24, z25, z26, z27, z28, z29, z30, z31, z32, z33, z34, z35, z36, z37, z38, z39, z40, z41, z42, z43, z44, z45, z46, z47, z48, z49, z50, z51, z52, z53, z54, z55, z56, z57, z58, z59, z60, z61, z62, z63, z64, z65, z66, z67, z68, z69, z70, z71, z72, z73, z74, z75, z76, z77, z78, z79, z80, z81, z82, z83, z84, z85, z86, z87, z88, z89, z90, z91, z92, z93, z94, z95, z96, z97, z98, z99, z100, z101, z102, z103, z104, z105, z106, z107, y108, y109, y110, y111, y112, y113, y114, y115, y116, y117, y118, y119, y120, y121, z122, z123, z124, z125, z126, z127, z128, z129, z130, z131, z132, z133, z134, z135, z136, z137, z138, z139], defers := [] } w') :
    (Code.region 31 ops true).wp Tryz.prog Q { tmps := #[.slice (some ⟨gg, oo, none⟩) n capn, z1, z2, z3, z4, z5, .pointer (some ⟨w4.heap.size, 0, none⟩), .pointer (some ⟨w4.heap.size + 1, 0, none⟩), .int .i64 (i : Int), z9, z10, z11, z12, z13, z14, z15, z16, z17, z18, z19, z20, z21, z22, z23, z24, z25, z26, z27, z28, z29, z30, z31, z32, z33, z34, z35, z36, z37, z38, z39, z40, z41, z42, z43, z44, z45, z46, z47, z48, z49, z50, z51, z52, z53, z54, z55, z56, z57, z58, z59, z60, z61, z62, z63, z64, z65, z66, z67, z68, z69, z70, z71, z72, z73, z74, z75, z76, z77, z78, z79, z80, z81, z82, z83, z84, z85, z86, z87, z88, z89, z90, z91, z92, z93, z94, z95, z96, z97, z98, z99, z100, z101, z102, z103, z104, z105, z106, z107, z108, z109, z110, z111, z112, z113, z114, z115, z116, z117, z118, z119, z120, z121, z122, z123, z124, z125, z126, z127, z128, z129, z130, z131, z132, z133, z134, z135, z136, z137, z138, z139], defers := [] } wr := by
  have e9 := Option.some.inj (hops.symm.trans (rfl : Tryz.f10.body.bind (regionIn 31) = some _))
  subst e9
  have HRB := Lib.hid hrb
  have HRW := Lib.hid hrw
  have HNP := Eqq.mk hnp
  have HNI := Lib.hid (show Is np nl by rw [← hnp]; exact is_ba nl)
  have HNV := Eqq.mk hnv
  have HNS := Lib.hid hns
  have HBW := Lib.hid hbw
  have HC1 := Lib.hid hc1
  have HC2 := Lib.hid hc2
  have HQ := Lib.hid hQ
  have HKB := Lib.hid (fun (W : World) (hW : Below wr.heap.size wr W) => three_cells (hrb.keep hW))
  have HKW := Lib.hid (fun (W : World) (hW : Below wr.heap.size wr W) => three_cells (hrw.keep hW))
  have HBR := Lib.hid (Below.refl wr.heap.size wr)
  have HE2 := Lib.hid (fun (W : World) (hW : Below wr.heap.size wr W) => below_cellU e2 hW (Nat.le_refl _))
  clear hops hrb hrw hnp hnv hns hbw hc1 hc2 hQ
  obtain ⟨⟨r0, r1, r2⟩, s0, s1, s2⟩ := HKB.out _ HBR.out
  obtain ⟨⟨t0, t1, t2⟩, x0, x1, x2⟩ := HKW.out _ HBR.out
  refine wp_region_noPanic ?_
  go_region_law
    (first
     | (go_simp; go_at_call 32; (first | (with_reducible refine (HC1.out _ HBR.out.drew).mono ?_) | (with_reducible refine (HC1.out _ HBR.out).mono ?_)); rintro e w99 ⟨hr, hb⟩; obtain ⟨a5, n5, c5, he, hn9, ho⟩ := hr.open HNP.out; subst he; have HLX5 := Lib.hid (show LieG itemE (.slice a5 n5 c5) nx w99 from ho.lie); (try have hb := Below.trans (Below.refl _ _).drew hb); (try have HLY5 := Lib.hid (HLY5.out.keep hb)); have HBR := Lib.hid (HBR.out.trans (hb.mono HBR.out.size)); clear r0 r1 r2 s0 s1 s2 t0 t1 t2 x0 x1 x2 hb hr ho hn9; obtain ⟨⟨r0, r1, r2⟩, s0, s1, s2⟩ := HKB.out _ HBR.out; obtain ⟨⟨t0, t1, t2⟩, x0, x1, x2⟩ := HKW.out _ HBR.out; have e2 := HE2.out _ HBR.out)
     | (go_simp; go_at_call 40; (first | (with_reducible refine (HC2.out _ HBR.out.drew).mono ?_) | (with_reducible refine (HC2.out _ HBR.out).mono ?_)); rintro e w99 ⟨hr, hb⟩; obtain ⟨a6, n6, c6, he, hn9, ho⟩ := hr.open HNP.out; subst he; have HLY5 := Lib.hid (show LieG itemE (.slice a6 n6 c6) nx w99 from ho); (try have hb := Below.trans (Below.refl _ _).drew hb); (try have HLX5 := Lib.hid (HLX5.out.keep hb)); have HBR := Lib.hid (HBR.out.trans (hb.mono HBR.out.size)); clear r0 r1 r2 s0 s1 s2 t0 t1 t2 x0 x1 x2 hb hr ho hn9; obtain ⟨⟨r0, r1, r2⟩, s0, s1, s2⟩ := HKB.out _ HBR.out; obtain ⟨⟨t0, t1, t2⟩, x0, x1, x2⟩ := HKW.out _ HBR.out; have e2 := HE2.out _ HBR.out)
     | fail)
  all_goals
    (clear r0 r1 r2 s0 s1 s2 t0 t1 t2 x0 x1 x2
     refine NoPanic.normal (HQ.out _ _ _ _ _ _ _ _ _ _ _ _ _ _ _ ?_)
     first | exact both_put5 HRB.out HRW.out HBR.out HLX5.out HLY5.out HNI.out HNV.out HNS.out HBW.out | exact (both_put5 HRB.out HRW.out HBR.out HLX5.out HLY5.out HNI.out HNV.out HNS.out HBW.out).keep (Below.refl _ _).drew | exact both_put5 HRB.out HRW.out HBR.out.drew HLX5.out HLY5.out HNI.out HNV.out HNS.out HBW.out)
end Go.Proofs.YtgdcffahhpeibaaGreatDoor
