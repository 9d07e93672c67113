/-
  A list of edits opened to what lies there, under the second form's bound; two buffers, the program's and the document's, that are one plain buffer; what a store into a buffer's row leaves. No condition but the bound.
-/
import Derived.Test.YtgdcffahhpeibaaGreatDoorCpMore
namespace Go.Proofs.YtgdcffahhpeibaaGreatDoor
open Go.ChangeShapes Go.WideShapes Go.ChangeAt Go.RowKit Go.Deep
set_option linter.unusedVariables false
/-- an edit: its kind, its key, its number -/
structure ActP where
  kind : UInt8
  key : UInt8
  num : Int
def actE : Enc ActP where
  k := 3
  enc := fun x => [.int .u8 (x.kind.toNat : Int), .int .u8 (x.key.toNat : Int), .int .i64 x.num]
  pos := by decide
  len := fun _ => rfl
  one := fun c u hu => by
    simp only [List.mem_cons, List.not_mem_nil, or_false] at hu
    rcases hu with rfl | rfl | rfl <;> rfl
theorem cellsAct : Tryz.prog.cellsOf 74 = 3 := by kernel_rfl
section
variable {H : Type} {enc : TypeId × Value → H} {w : World} {base fuel : Nat} {spare : Nat → Bool} {held : Bool}
set_option maxRecDepth 100000 in
theorem open_act {cs : List Value} {x : DataW H × List MemPlace} (h : DataW.trod enc Tryz.prog w base spare held fuel 74 cs = some x) :
    ∃ r : ActP, cs = actE.enc r := by
  obtain ⟨ys, n, _, hx, hlen, hyl, hf⟩ := DataW.trod_struct Tryz.underlying74 h
  rw [cellsAct] at hlen
  have hyl3 : ys.length = 3 := hyl
  obtain ⟨a, b, c, rfl⟩ : ∃ a b c, cs = [a, b, c] := by
    match cs, hlen with
    | [a, b, c], _ => exact ⟨a, b, c, rfl⟩
  clear hlen
  have h0 := hf 0 _ rfl
  have h1 := hf 1 _ rfl
  have h2 := hf 2 _ rfl
  change DataW.trod _ _ _ _ _ _ n 5 ((([a, b, c] : List Value).drop 0).take (Tryz.prog.cellsOf 5)) = ys[0]? at h0
  change DataW.trod _ _ _ _ _ _ n 5 ((([a, b, c] : List Value).drop 1).take (Tryz.prog.cellsOf 5)) = ys[1]? at h1
  change DataW.trod _ _ _ _ _ _ n 3 ((([a, b, c] : List Value).drop 2).take (Tryz.prog.cellsOf 3)) = ys[2]? at h2
  rw [cellsU8] at h0 h1
  rw [cellsInt] at h2
  obtain ⟨y0, hy0⟩ : ∃ y, ys[0]? = some y := ⟨_, List.getElem?_eq_getElem (by omega)⟩
  obtain ⟨y1, hy1⟩ : ∃ y, ys[1]? = some y := ⟨_, List.getElem?_eq_getElem (by omega)⟩
  obtain ⟨y2, hy2⟩ : ∃ y, ys[2]? = some y := ⟨_, List.getElem?_eq_getElem (by omega)⟩
  rw [hy0] at h0
  rw [hy1] at h1
  rw [hy2] at h2
  obtain ⟨k0, e0, _, f0⟩ := DataW.trod_int Tryz.underlying5 h0
  obtain ⟨k1, e1, _, f1⟩ := DataW.trod_int Tryz.underlying5 h1
  obtain ⟨k2, e2, _, _⟩ := DataW.trod_int Tryz.underlying3 h2
  injection e0 with e0
  injection e1 with e1
  injection e2 with e2
  obtain ⟨c0, rfl⟩ := u8_of f0
  obtain ⟨c1, rfl⟩ := u8_of f1
  exact ⟨⟨c0, c1, k2⟩, by rw [e0, e1, e2]; rfl⟩
end
set_option maxRecDepth 100000 in
theorem open_actsB {H : Type} {enc : TypeId × Value → H} {W : World} {base B : Nat} {v : Value} {d : DataW H} {p : List MemPlace} (hval : Value.okWide Tryz.prog W .any base 72 v) (h : DataW.Trod enc Tryz.prog W 0 (fun _ => true) true 72 v d p) (hB : Rows.uptoBulk d ≤ B) :
    ∃ xs : List ActP, LieG actE v xs W ∧ xs.length ≤ B := by
  obtain ⟨a1, len, cap, rfl⟩ := okWide_slice Tryz.underlying72 hval
  have hsp : ∀ ad, a1 = some ad → ad.spot = none := by
    intro ad e
    subst e
    simp only [Value.okWide, Tryz.underlying72] at hval
    exact hval.2.2.2.1
  obtain ⟨fuel, hf⟩ := h
  rcases open_slice Tryz.underlying72 hf with ⟨hcs, _⟩ | ⟨a, len', cap', m, n, D, Pl, hcs, _, hl, hm, hmm, hd, hi⟩
  · simp [Value.cells] at hcs
    obtain ⟨rfl, rfl, rfl⟩ := hcs
    exact ⟨[], LieG.nil W, by simp⟩
  · simp [Value.cells] at hcs
    obtain ⟨rfl, rfl, rfl⟩ := hcs
    rw [if_pos rfl] at hmm
    injection hd with hd1 hd2
    rw [hd1] at hB
    obtain ⟨b1, b2⟩ := bulk_slice hB
    obtain ⟨g0, o0, sp⟩ := a
    obtain rfl : sp = none := hsp _ rfl
    obtain ⟨xs, hx1, hx2⟩ := listedB (fun i (r : ActP) => ∀ (j : Nat) u, (actE.enc r)[j]? = some u → W.cell? ⟨g0, o0 + i * 3 + j, none⟩ = some u) len (fun i him => by
      obtain ⟨cs', hc, ht'⟩ := hi i (by omega)
      rw [cellsAct] at hc
      obtain ⟨r, rfl⟩ := open_act ht'
      obtain ⟨g, o, ha, hat⟩ := cells_at8 (by omega) hc
      rw [addr_add] at ha
      injection ha with ha1 ha2
      subst ha1; subst ha2
      exact ⟨r, hat⟩)
    exact ⟨xs, ⟨some ⟨g0, o0, none⟩, cap, by rw [hx1], by omega, (fun e => by cases e), (fun ad e => by injection e with e; exact ⟨_, _, e.symm⟩), (fun k r hk => ⟨g0, o0, rfl, hx2 k r hk⟩)⟩, by omega⟩
/-- no item lies in a buffer's own row: the row's middle cell is no string -/
theorem lie_row {T : TypeId} {N : Nat} {A : Value} {c : Int} {C v : Value} {xs : List Cp.Item} {w : World} (hr : w.heap[N]? = some (.cells #[A, .int .i64 c, C] T (0, 0))) (h : LieG itemE v xs w) (i : Nat) (u : Value) : LieG itemE v xs (w.setCell ⟨N, i, none⟩ u) := by
  obtain ⟨ao, cap, hv, hc, hn, hs, hx⟩ := h
  refine ⟨ao, cap, hv, hc, hn, hs, fun k x hk => ?_⟩
  obtain ⟨g, o, ha, hj⟩ := hx k x hk
  refine ⟨g, o, ha, fun j y hy => ?_⟩
  have hne : g ≠ N := by
    intro e
    subst e
    have h0 := hj 0 _ rfl
    have h1 := hj 1 _ rfl
    rw [Lib.cell_of_heap hr] at h0 h1
    generalize o + k * itemE.k = q at h0 h1
    match q, h0, h1 with
    | 0, _, h1 => injection h1 with h1; cases h1
    | 1, h0, _ => injection h0 with h0; cases h0
    | q + 2, _, h1 => rw [Array.getElem?_eq_none (by simp)] at h1; cases h1
  rw [show (w.setCell ⟨N, i, none⟩ u).cell? ⟨g, o + k * itemE.k + j, none⟩ = w.cell? ⟨g, o + k * itemE.k + j, none⟩ from by unfold World.cell?; rw [Below.heap_setCell _ _ _ _ hne]]
  exact hj j y hy
theorem lie_three {T : TypeId} {N : Nat} {v0 v : Value} {c : Int} {p : ByteArray} {xs : List Cp.Item} {w : World} (hr : RowIs T N v0 c p w) (h : LieG itemE v xs w) (A : Value) (c' : Int) (C : Value) : LieG itemE v xs (((w.setCell ⟨N, 0, none⟩ A).setCell ⟨N, 1, none⟩ (.int .i64 c')).setCell ⟨N, 2, none⟩ C) := by
  have h1 := heap_setCell_same w N 0 _ _ A hr
  have h2 := heap_setCell_same _ N 1 _ _ (.int .i64 c') h1
  exact lie_row h2 (lie_row h1 (lie_row hr h 0 A) 1 _) 2 C
theorem row_ne {N M : Nat} {va vb : Value} {k1 k2 : Int} {p1 p2 : ByteArray} {W : World} (h : RowIs 33 N va k1 p1 W) (h' : RowIs 42 M vb k2 p2 W) : ¬ M = N := by
  intro e
  subst e
  unfold RowIs at h h'
  rw [h] at h'
  injection h' with h'
  injection h' with _ h'
  exact absurd h' (by decide)
/-- the two buffers of a walk are one plain buffer -/
def Both (N M : Nat) (w W : World) : Prop := ∃ (a1 a2 : Option Addr) (m1 q1 m2 q2 : Nat) (xs : List Cp.Item) (c : Int) (p : ByteArray) (pl : List UInt8), RowIs 33 N (.slice a1 m1 q1) c p W ∧ RowIs 42 M (.slice a2 m2 q2) c p W ∧ LieG itemE (.slice a1 m1 q1) xs W ∧ LieG itemE (.slice a2 m2 q2) xs W ∧ Is p pl ∧ Cp.valid ⟨xs, c, pl⟩ = true ∧ Cp.Small ⟨xs, c, pl⟩ ∧ Below w.heap.size w W
theorem Both.keep {N M : Nat} {w W W' : World} (h : Both N M w W) (hb : Below W.heap.size W W') : Both N M w W' := by
  obtain ⟨a1, a2, m1, q1, m2, q2, xs, c, p, pl, h1, h2, h3, h4, h5, h6, h7, h8⟩ := h
  exact ⟨a1, a2, m1, q1, m2, q2, xs, c, p, pl, h1.keep hb, h2.keep hb, h3.keep hb, h4.keep hb, h5, h6, h7, h8.trans (hb.mono h8.size)⟩
theorem both_put {N M : Nat} {w W : World} {va vb : Value} {k1 k2 : Int} {p1 p2 : ByteArray} (hNM : N ≠ M) (hN : w.heap.size ≤ N) (hM : w.heap.size ≤ M) (hr : RowIs 33 N va k1 p1 W) (hw : RowIs 42 M vb k2 p2 W)
    {a1 a2 : Option Addr} {m1 q1 m2 q2 : Nat} {xs : List Cp.Item} {c : Int} {p : ByteArray} {pl : List UInt8} (h1 : LieG itemE (.slice a1 m1 q1) xs W) (h2 : LieG itemE (.slice a2 m2 q2) xs W) (hp : Is p pl) (hv : Cp.valid ⟨xs, c, pl⟩ = true) (hs : Cp.Small ⟨xs, c, pl⟩) (hB : Below w.heap.size w W) :
    Both N M w ((((((W.setCell ⟨N, 0, none⟩ (.slice a1 m1 q1)).setCell ⟨N, 1, none⟩ (.int .i64 c)).setCell ⟨N, 2, none⟩ (.string p)).setCell ⟨M, 0, none⟩ (.slice a2 m2 q2)).setCell ⟨M, 1, none⟩ (.int .i64 c)).setCell ⟨M, 2, none⟩ (.string p)) := by
  have r1 := hr.put (.slice a1 m1 q1) c p
  have r2 := hw.other (M := N) (fun e => hNM e.symm) (.slice a1 m1 q1) (.int .i64 c) (.string p)
  have l1 := lie_three hr h1 (.slice a1 m1 q1) c (.string p)
  have l2 := lie_three hr h2 (.slice a1 m1 q1) c (.string p)
  exact ⟨a1, a2, m1, q1, m2, q2, xs, c, p, pl, r1.other hNM _ _ _, r2.put _ _ _, lie_three r2 l1 _ _ _, lie_three r2 l2 _ _ _, hp, hv, hs, three_below (three_below hB hN _ _ _) hM _ _ _⟩
end Go.Proofs.YtgdcffahhpeibaaGreatDoor
