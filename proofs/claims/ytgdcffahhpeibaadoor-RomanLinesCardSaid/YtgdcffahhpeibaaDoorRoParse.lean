/-
  roman.Parse by its contract. No condition.
-/
import Derived.Test.YtgdcffahhpeibaaDoorRoSame
namespace Go.Proofs.YtgdcffahhpeibaaDoor
open Go.RowKit
namespace Ro
open UT (Bs)
theorem piece_len (c : UInt8) : ∀ (l p : Bs), p ∈ pieces c l → p.length ≤ l.length
  | [], p, h => by simp [pieces] at h; subst h; simp
  | x :: r, p, h => by
    by_cases hx : x = c
    · subst hx
      rw [pieces_cons_eq] at h
      rcases List.mem_cons.1 h with rfl | h
      · simp
      · have := piece_len x r p h; rw [List.length_cons]; omega
    · obtain ⟨q, qs, h1, h2⟩ := pieces_cons_ne hx r
      rw [h2] at h
      have hq := piece_len c r
      rw [h1] at hq
      rcases List.mem_cons.1 h with rfl | h
      · have := hq q (List.mem_cons_self ..); rw [List.length_cons, List.length_cons]; omega
      · have := hq p (List.mem_cons_of_mem _ h); rw [List.length_cons]; omega
theorem pieces_len (c : UInt8) : ∀ l : Bs, (pieces c l).length ≤ l.length + 1
  | [] => by simp [pieces]
  | x :: r => by
    have ih := pieces_len c r
    by_cases hx : x = c
    · subst hx
      rw [pieces_cons_eq, List.length_cons, List.length_cons]; omega
    · obtain ⟨q, qs, h1, h2⟩ := pieces_cons_ne hx r
      rw [h1] at ih
      rw [h2]
      simp only [List.length_cons] at ih ⊢
      omega
theorem cut_len (l sep : Bs) : (Lib.cut l sep).1.length ≤ l.length ∧ (Lib.cut l sep).2.1.length ≤ l.length := by
  unfold Lib.cut
  split
  · dsimp only
    rw [List.length_take, List.length_drop]
    omega
  · simp
theorem go_skip {L : List Bs} {k : Nat} {x : Bs} {out : List Rule} {R : List Rule × Nat × Nat} (hx : L[k]? = some x) (h : parseGo (L.drop k) k out = R) (hs : skip x = true) : parseGo (L.drop (k + 1)) (k + 1) out = R := by
  have hk : k < L.length := by
    rcases Nat.lt_or_ge k L.length with h' | h'
    · exact h'
    · rw [List.getElem?_eq_none h'] at hx; cases hx
  rw [List.getElem?_eq_getElem hk] at hx
  injection hx with hx
  rw [List.drop_eq_getElem_cons hk, hx, parseGo_cons, if_pos hs] at h
  exact h
theorem go_none {L : List Bs} {k : Nat} {x : Bs} {out : List Rule} {R : List Rule × Nat × Nat} (hx : L[k]? = some x) (h : parseGo (L.drop k) k out = R) (hs : skip x = false) (hl : out.length ≤ 500) (hn : progStep x out = none) : R = ([], k + 1, 50) := by
  have hk : k < L.length := by
    rcases Nat.lt_or_ge k L.length with h' | h'
    · exact h'
    · rw [List.getElem?_eq_none h'] at hx; cases hx
  rw [List.getElem?_eq_getElem hk] at hx
  injection hx with hx
  rw [prog_step x out hl] at hn
  rw [List.drop_eq_getElem_cons hk, hx, parseGo_cons, if_neg (by rw [hs]; simp), hn] at h
  exact h.symm
theorem go_some {L : List Bs} {k : Nat} {x : Bs} {out out' : List Rule} {R : List Rule × Nat × Nat} (hx : L[k]? = some x) (h : parseGo (L.drop k) k out = R) (hs : skip x = false) (hl : out.length ≤ 500) (hn : progStep x out = some out') : parseGo (L.drop (k + 1)) (k + 1) out' = R := by
  have hk : k < L.length := by
    rcases Nat.lt_or_ge k L.length with h' | h'
    · exact h'
    · rw [List.getElem?_eq_none h'] at hx; cases hx
  rw [List.getElem?_eq_getElem hk] at hx
  injection hx with hx
  rw [prog_step x out hl] at hn
  rw [List.drop_eq_getElem_cons hk, hx, parseGo_cons, if_neg (by rw [hs]; simp), hn] at h
  exact h
theorem go_end {L : List Bs} {out : List Rule} {R : List Rule × Nat × Nat} (h : parseGo (L.drop L.length) L.length out = R) : R = (out, 0, 0) := by
  rw [List.drop_length] at h
  exact h.symm
/-- what a line is to the program -/
theorem step_no {x ka re : Bs} {out : List Rule} (h : Lib.cut x [9] = (ka, re, false)) : progStep x out = none := by
  unfold progStep progRule
  rw [h]
  dsimp only
  rw [if_pos (.inl rfl)]
theorem step_gap {x ka re kn : Bs} {ok : Bool} {out : List Rule} (h : Lib.cut x [9] = (ka, re, ok)) (h2 : Lib.cut re [9] = (kn, [], true)) : progStep x out = none := by
  unfold progStep progRule
  rw [h]
  dsimp only
  rw [h2]
  dsimp only
  rw [if_pos (.inr ⟨rfl, rfl⟩)]
theorem step_rule {x ka re kn nx : Bs} {th : Bool} {out : List Rule} (h : Lib.cut x [9] = (ka, re, true)) (h2 : Lib.cut re [9] = (kn, nx, th)) (h3 : th = false ∨ nx ≠ []) :
    progStep x out = if (out.map (·.1)).contains ka || !allowed (ka, kn, nx) || decide (out.length = 500) then none else some (out ++ [(ka, kn, nx)]) := by
  unfold progStep progRule
  rw [h]
  dsimp only
  rw [h2]
  dsimp only
  rw [if_neg (by rintro (h | ⟨h, h'⟩); cases h; rcases h3 with h3 | h3; rw [h] at h3; cases h3; exact h3 h')]
end Ro
/-- what a reading of rules hands back -/
def GivesR (T : TypeId) (B : Nat) (res : List Ro.Rule × Nat × Nat) (e : Ending) (w : World) : Prop := ∃ v xs, e = .returned (.tuple #[v, .int .i64 (res.2.1 : Nat), .int .i64 (res.2.2 : Nat)]) ∧ rulesL xs = res.1 ∧ OwnR T B v xs w
/-- what holds at each round -/
structure PInv (w : World) (mb sb B : Nat) (ps : List ByteArray) (out : List RuleB) (ov : Value) (wr : World) : Prop where
  own : OwnR 39 B ov out wr
  map : MapIs Tryd.prog 9 mb out.length (seenF (keysL out)) wr
  pcs : ∀ (k : Nat) x, ps[k]? = some x → wr.cell? ⟨sb, k, none⟩ = some (.string x)
  bel : Below w.heap.size w wr
  h1 : w.heap.size ≤ mb
  h2 : mb < sb
  h3 : sb < B
  h4 : B ≤ wr.heap.size
theorem PInv.alloc {w wr : World} {mb sb B : Nat} {ps : List ByteArray} {out : List RuleB} {ov : Value} (h : PInv w mb sb B ps out ov wr) (o : Obj) : PInv w mb sb B ps out ov (wr.alloc o) :=
  ⟨h.own.alloc o, h.map.alloc o, fun k x hx => by
    have := h.pcs k x hx
    exact below_cellU this ((Below.refl wr.heap.size wr).alloc (Nat.le_refl _) o) (Nat.le_refl _), h.bel.alloc h.bel.size o, h.h1, h.h2, h.h3, by have := h.h4; simp; omega⟩
theorem PInv.drewN {w wr : World} {mb sb B : Nat} {ps : List ByteArray} {out : List RuleB} {ov : Value} (h : PInv w mb sb B ps out ov wr) (q : Nat) : PInv w mb sb B ps out ov (wr.drewN q) :=
  ⟨h.own.drewN q, h.map.drewN q, h.pcs, bel_dn h.bel q, h.h1, h.h2, h.h3, h.h4⟩
theorem PInv.keep {w wr w' : World} {mb sb B : Nat} {ps : List ByteArray} {out : List RuleB} {ov : Value} (h : PInv w mb sb B ps out ov wr) (hb : Below wr.heap.size wr w') : PInv w mb sb B ps out ov w' :=
  ⟨h.own.keep hb, h.map.keep hb, fun k x hx => below_cellU (h.pcs k x hx) hb (Nat.le_refl _), h.bel.trans (hb.mono h.bel.size), h.h1, h.h2, h.h3, Nat.le_trans h.h4 hb.size⟩
theorem OwnR.grownMap {T : TypeId} {B : Nat} {v : Value} {xs : List RuleB} {w w' : World} {mb : Nat} (h : OwnR T B v xs w) (hg : w.grownBy w' (some mb)) (hm : mb < B) : OwnR T B v xs w' := by
  obtain ⟨h1, h2 | ⟨g, cap, cur, hv, hB', hg', r⟩⟩ := h
  · exact ⟨h1, .inl h2⟩
  · exact ⟨h1, .inr ⟨g, cap, cur, hv, hB', by rw [hg.block g (heap_lt hg') (by intro e; injection e with e; omega)]; exact hg', r⟩⟩
theorem PInv.put {w wr w' : World} {mb sb B : Nat} {ps : List ByteArray} {out : List RuleB} {ov : Value} (h : PInv w mb sb B ps out ov wr) (hg : wr.grownBy w' (some mb)) :
    OwnR 39 B ov out w' ∧ (∀ (k : Nat) x, ps[k]? = some x → w'.cell? ⟨sb, k, none⟩ = some (.string x)) ∧ Below w.heap.size w w' ∧ B ≤ w'.heap.size := by
  refine ⟨h.own.grownMap hg (by have := h.h2; have := h.h3; omega), fun k x hx => ?_, h.bel.grown hg h.bel.size (fun j hj => by injection hj with hj; subst hj; exact h.h1), Nat.le_trans h.h4 hg.size⟩
  have hc := h.pcs k x hx
  have hlt := World.block_lt_of_cell? wr _ hc
  have hbk := hg.block sb hlt (by intro e; injection e with e; have := h.h2; omega)
  unfold World.cell? at hc ⊢
  rw [hbk]
  exact hc
theorem PInv.app {w wr w' : World} {mb sb B n : Nat} {ps : List ByteArray} {out : List RuleB} {ov v' : Value} {r : RuleB} (hmap : MapIs Tryd.prog 9 mb n (seenF (keysL (out ++ [r]))) wr) (hn : n = out.length + 1)
    (ho : OwnR 39 B ov out wr) (hp : ∀ (k : Nat) x, ps[k]? = some x → wr.cell? ⟨sb, k, none⟩ = some (.string x)) (hb : Below w.heap.size w wr) (h1 : w.heap.size ≤ mb) (h2 : mb < sb) (h3 : sb < B) (h4 : B ≤ wr.heap.size)
    (hown : OwnR 39 B v' (out ++ [r]) w') (hg : wr.grownBy w' ov.ownBlock) : PInv w mb sb B ps (out ++ [r]) v' w' := by
  have hob : ∀ j, ov.ownBlock = some j → B ≤ j := fun j hj => (World.ownsRow.lt ho j hj).1
  refine ⟨hown, ?_, fun k x hx => ?_, hb.grown hg hb.size (fun j hj => by have := hob j hj; omega), h1, h2, h3, Nat.le_trans h4 hg.size⟩
  · rw [List.length_append, show out.length + [r].length = n by rw [hn]; rfl]
    exact hmap.grown hg (fun e => by have := hob mb e.symm; omega)
  · have hc := hp k x hx
    have hlt := World.block_lt_of_cell? wr _ hc
    have hbk := hg.block sb hlt (by intro e; have := hob sb e.symm; omega)
    unfold World.cell? at hc ⊢
    rw [hbk]
    exact hc
theorem OwnR.low {T : TypeId} {B B2 : Nat} {v : Value} {xs : List RuleB} {w : World} (h : OwnR T B2 v xs w) (hB : B ≤ B2) : OwnR T B v xs w := by
  obtain ⟨h1, h2 | ⟨g, cap, cur, hv, hB', hg', r⟩⟩ := h
  · exact ⟨h1, .inl h2⟩
  · exact ⟨h1, .inr ⟨g, cap, cur, hv, Nat.le_trans hB hB', hg', r⟩⟩
theorem cell_grown {w w' : World} {row : Option Nat} {b o : Nat} {v : Value} (hg : w.grownBy w' row) (hc : w.cell? ⟨b, o, none⟩ = some v) (hne : some b ≠ row) : w'.cell? ⟨b, o, none⟩ = some v := by
  have hbk := hg.block b (World.block_lt_of_cell? w _ hc) hne
  unfold World.cell? at hc ⊢
  rw [hbk]
  exact hc
/-- the world after draws alone -/
def DrewTo (w w' : World) : Prop := ∃ q, w' = w.drewN q
theorem DrewTo.below {w w' : World} (h : DrewTo w w') : Below w.heap.size w w' := by
  obtain ⟨q, rfl⟩ := h
  exact bel_dn (Below.refl _ _) q
theorem PInv.to {w wr w' : World} {mb sb B : Nat} {ps : List ByteArray} {out : List RuleB} {ov : Value} (h : PInv w mb sb B ps out ov wr) (hd : DrewTo wr w') : PInv w mb sb B ps out ov w' := by
  obtain ⟨q, rfl⟩ := hd
  exact h.drewN q
theorem cut_any (x : ByteArray) (xl ka re : List UInt8) (ok : Bool) (w : World) (h : Is x xl) (hc : Lib.cut xl [9] = (ka, re, ok)) (hs : x.size < 4294967281) (ht : Tabs w) :
    Calls Tryd.prog 19 #[.string x, .string ⟨#[9]⟩] w fun e w' => (∃ sk sr, Is sk ka ∧ Is sr re ∧ e = .returned (.tuple #[.string sk, .string sr, .bool ok])) ∧ DrewTo w w' := by
  obtain ⟨m, hm⟩ := ht.mx
  refine (Tryd.strings_Cut x ⟨#[9]⟩ m w hs hm).mono ?_
  have e : Lib.cut x.data.toList (⟨#[9]⟩ : ByteArray).data.toList = (ka, re, ok) := by rw [h.data]; exact hc
  rw [e]
  rintro e w' ⟨rfl, q, rfl⟩
  exact ⟨⟨_, _, Is.mk ka, Is.mk re, rfl⟩, q, rfl⟩
theorem keysL_snoc (xs : List RuleB) (r : RuleB) : keysL (xs ++ [r]) = keysL xs ++ [r.1.data.toList] := by unfold keysL rulesL; simp [ruleL]
theorem rulesL_snoc (xs : List RuleB) (r : RuleB) : rulesL (xs ++ [r]) = rulesL xs ++ [ruleL r] := by unfold rulesL; simp
theorem alloc_cells (w : World) (ps : List ByteArray) (T : TypeId) (k : Nat) (x : ByteArray) (h : ps[k]? = some x) : (w.alloc (.cells (ps.map Value.string).toArray T)).cell? ⟨w.heap.size, k, none⟩ = some (.string x) := by
  rw [Lib.cell_of_heap (MapKept.heap_alloc w _).1]
  simp [h]
set_option maxRecDepth 100000 in
set_option maxHeartbeats 8000000 in
theorem parse_any (s : ByteArray) (l : List UInt8) (w : World) (hs : Is s l) (hsz : s.size < 4294967281) (ht : Tabs w) :
    Calls Tryd.prog 7 #[.string s] w fun e w' => GivesR 39 w.heap.size (Ro.parse l) e w' ∧ Below w.heap.size w w' := by
  have HT := Lib.hid ht
  have HI := Lib.hid hs
  have hlen := hs.size
  by_cases hbig : 1048576 < s.size
  · have hd : decide ((1048576 : Int) < (s.size : Int)) = true := decide_eq_true (by omega)
    have hd' : decide (1048576 < s.size) = true := decide_eq_true hbig
    have HR := Eqq.mk (show Ro.parse l = ([], 0, 2) by unfold Ro.parse; rw [if_pos (by omega)])
    have hO := Lib.hid (OwnR.nil 39 w.heap.size w)
    clear hs ht hlen
    go_enter Tryd.func7, Tryd.ntmps7
    go_wp2_with fail
    refine bodyPost_ret (v := .tuple #[.slice none 0 0, .int .i64 0, .int .i64 2]) (by simp [results, Tryd.results7, go_sem]) rfl ?_
    exact ⟨⟨_, [], by rw [HR.out]; rfl, by rw [HR.out]; rfl, hO.out⟩, Below.refl _ _⟩
  have hd : decide ((1048576 : Int) < (s.size : Int)) = false := decide_eq_false (by omega)
  have hd' : decide (1048576 < s.size) = false := decide_eq_false hbig
  have HRP := Eqq.mk (show Ro.parse l = Ro.parseGo (Ro.pieces 10 l) 0 [] by unfold Ro.parse; rw [if_neg (by omega)])
  obtain ⟨R, hR⟩ : ∃ R, Ro.parse l = R := ⟨_, rfl⟩
  rw [hR] at HRP ⊢
  obtain ⟨ps, hps⟩ : ∃ ps, Lib.splitB ⟨#[10]⟩ 0 (Lib.countB s ⟨#[10]⟩) s = ps := ⟨_, rfl⟩
  have hsp := Ro.splitB_pieces 10 s
  rw [hps, hs.data] at hsp
  obtain ⟨L, hL⟩ : ∃ L, Ro.pieces 10 l = L := ⟨_, rfl⟩
  have hLn := Ro.pieces_len 10 l
  have HPL := Lib.hid (Ro.piece_len 10 l)
  rw [hL] at hsp HRP hLn HPL
  have HPS := Eqq.mk hsp.1
  obtain ⟨n, hn⟩ : ∃ n, ps.length = n := ⟨_, rfl⟩
  have hnL : L.length = n := by rw [← hsp.1, List.length_map, hn]
  have hcn : Lib.countB s ⟨#[10]⟩ + 1 = n := by rw [← hsp.2, hn]
  have HN := Eqq.mk hn
  have HLN := Eqq.mk hnL
  have hn1 : n ≤ 1048577 := by omega
  have hm0 : MapIs Tryd.prog 9 w.heap.size 0 (seenF (keysL [])) (w.alloc (.map #[] 0)) := by
    rw [show keysL [] = [] from rfl, seenF_nil]
    exact MapIs.made _ _ _
  have HI0 := Lib.hid (show PInv w w.heap.size (w.heap.size + 1) (w.heap.size + 2) ps [] (.slice none 0 0) ((w.alloc (.map #[] 0)).alloc (.cells (ps.map Value.string).toArray 9)) from
    ⟨OwnR.nil _ _ _, hm0.alloc _, fun k x hx => by have := alloc_cells (w.alloc (.map #[] 0)) ps 9 k x hx; simpa using this, ((Below.refl w.heap.size w).alloc (Nat.le_refl _) _).alloc (by simp) _, Nat.le_refl _, by omega, by omega, by simp⟩)
  obtain ⟨m, hmx⟩ := (ht.keep ((Below.refl w.heap.size w).alloc (Nat.le_refl _) (.map #[] 0))).mx
  have HMX := Lib.hid hmx
  have hl5 : l.length ≤ 1048576 := by omega
  have hcc : ((Lib.countB s ⟨#[10]⟩ : Nat) : Int) + 1 = (n : Int) := by omega
  clear hs ht hlen hR hL hLn hn hnL hsp hm0 hmx hbig
  have hmm := @run_makeMap Tryd.prog
  go_enter Tryd.func7, Tryd.ntmps7
  go_wp2_with fail
  clear hmm
  with_reducible refine (Tryd.strings_Split s ⟨#[10]⟩ m _ hsz HMX.out (by decide)).mono ?_
  rw [hps, hcn]
  rintro e w2 ⟨rfl, rfl⟩
  have HI1 := Lib.hid HI0.out
  clear HI0 hcn hcc hps
  go_wp2_with fail
  go_loopw [5, 23] (fun ov iv wr => ∃ (k : Nat) (out : List RuleB), k ≤ n ∧ iv = .int .i64 k ∧ PInv w w.heap.size (w.heap.size + 1) (w.heap.size + 2) ps out ov wr ∧ Eqq (Ro.parseGo (L.drop k) k (rulesL out)) R ∧ out.length ≤ 500) (fun _ iv _ => n - (intOf iv).toNat)
  case atStart => exact ⟨0, [], Nat.zero_le _, rfl, by first | exact HI1.out | simpa using HI1.out, ⟨HRP.out.symm⟩, by simp⟩
  case round =>
    obtain ⟨k, out, hk, rfl, hi, HE, hol⟩ := hrel
    have HI := Lib.hid hi
    clear hi
    by_cases hlt : k < n
    · obtain ⟨x, hx⟩ : ∃ x, ps[k]? = some x := ⟨_, List.getElem?_eq_getElem (by rw [HN.out]; exact hlt)⟩
      have c0 := HI.out.pcs k x hx
      have hLk : L[k]? = some x.data.toList := by rw [← HPS.out, List.getElem?_map, hx]; rfl
      have hxl := HPL.out _ (List.mem_of_getElem? hLk)
      have hxs := (Is.of x).size
      have hxt := (Is.of x).list
      have HIX := Lib.hid (Is.of x)
      obtain ⟨xl, hxe⟩ : ∃ xl, x.data.toList = xl := ⟨_, rfl⟩
      rw [hxe] at hLk hxl hxs hxt HIX
      have HLK := Eqq.mk hLk
      have hx20 : x.size ≤ 1048576 := by omega
      have hkk : (k : Int) < (n : Int) := by omega
      have HSK := Lib.hid (fun h => Ro.go_skip (out := rulesL out) hLk HE.out h)
      have HNO := Lib.hid (fun h1 h2 => Ro.go_none (out := rulesL out) hLk HE.out h1 (by unfold rulesL; rw [List.length_map]; exact hol) h2)
      have HYE := Lib.hid (fun h1 o' h2 => Ro.go_some (out := rulesL out) (out' := o') hLk HE.out h1 (by unfold rulesL; rw [List.length_map]; exact hol) h2)
      clear hx hLk hxe hxl
      by_cases hnil : xl = []
      · have e1 : x.toList.isEmpty = true := by rw [hxt, hnil]; rfl
        have HE2 := Eqq.mk (HSK.out (by rw [hnil]; rfl))
        clear hxs hxt hnil
        go_wp2_with fail
        go_roundw
        case rel => exact ⟨k + 1, out, by omega, by go_num, HI.out, HE2, hol⟩
        case measure => simp [intOf]; omega
      · have e1 : x.toList.isEmpty = false := by rw [hxt]; cases xl with | nil => exact absurd rfl hnil | cons a b => rfl
        have hx0 : 0 < x.size := by rw [hxs]; exact List.length_pos_iff.2 hnil
        have hgt := HIX.out.get 0 hx0
        obtain ⟨c, hc⟩ : ∃ c, x[0]'hx0 = c := ⟨_, rfl⟩
        rw [hc] at hgt
        have HS2 := Lib.hid (show Ro.skip xl = (c == 35) by
          cases xl with
          | nil => exact absurd rfl hnil
          | cons a b => rw [List.getElem?_cons_zero] at hgt; injection hgt with hgt; rw [← hgt]; rfl)
        by_cases h35 : c = 35
        · have HE2 := Eqq.mk (HSK.out (by rw [HS2.out, h35]; rfl))
          have hc35 : ((c.toNat : Nat) : Int) = 35 := by rw [h35]; rfl
          clear hxs hxt hnil hgt
          go_wp2_with fail
          go_roundw
          case rel => exact ⟨k + 1, out, by omega, by go_num, HI.out, HE2, hol⟩
          case measure => simp [intOf]; omega
        · have HSF := Eqq.mk (show Ro.skip xl = false by rw [HS2.out, beq_eq_false_iff_ne]; exact h35)
          have hc35 : ¬ ((c.toNat : Nat) : Int) = 35 := by
            intro h
            exact h35 (UInt8.toNat_inj.1 (by rw [show (35 : UInt8).toNat = 35 from rfl]; omega))
          clear hxs hxt hnil hgt h35
          have HTW := Lib.hid (HT.out.keep HI.out.bel)
          have hwb : w.heap.size + 2 ≤ wr.heap.size := HI.out.h4
          obtain ⟨⟨ka, re, ok⟩, hcut⟩ : ∃ t, Lib.cut xl [9] = t := ⟨_, rfl⟩
          obtain ⟨⟨kn, nx, th⟩, hcut2⟩ : ∃ t, Lib.cut re [9] = t := ⟨_, rfl⟩
          have HC1 := Eqq.mk hcut
          have HC2 := Eqq.mk hcut2
          have hL1 := Ro.cut_len xl [9]
          have hL2 := Ro.cut_len re [9]
          rw [hcut] at hL1
          rw [hcut2] at hL2
          dsimp only at hL1 hL2
          have hxz := HIX.out.size
          obtain ⟨hL1a, hL1b⟩ := hL1
          obtain ⟨hL2a, hL2b⟩ := hL2
          cases ok
          · have HRR := Eqq.mk (HNO.out HSF.out (Ro.step_no hcut))
            clear hcut hcut2
            go_wp2_with fail
            with_reducible refine (cut_any x xl ka re false _ HIX.out HC1.out (by omega) HTW.out).mono ?_
            rintro e w2 ⟨⟨sk, sr, hk1, hr1, rfl⟩, hd2⟩
            have HI2 := Lib.hid (HI.out.to hd2)
            clear hd2
            have HIK := Lib.hid hk1
            have HIR := Lib.hid hr1
            have hrs := hr1.size
            have hks := hk1.size
            clear hk1 hr1
            go_wp2_with fail
            with_reducible refine (cut_any sr re kn nx th _ HIR.out HC2.out (by omega) (HT.out.keep HI2.out.bel)).mono ?_
            rintro e w3 ⟨⟨sn, sx, hk1, hr1, rfl⟩, hd3⟩
            have HI3a := Lib.hid (HI2.out.to hd3)
            clear hd3
            have HIN := Lib.hid hk1
            have HIX2 := Lib.hid hr1
            have hns := hk1.size
            have hnx := hr1.size
            have hxt := hr1.list
            clear hk1 hr1
            go_wp2_with fail
            go_ret3
            exact ⟨⟨_, [], by rw [HRR.out]; rfl, by rw [HRR.out]; rfl, OwnR.nil _ _ _⟩, (HI3a.out.alloc _).bel⟩
          · cases th
            · have HST := Eqq.mk (Ro.step_rule (out := rulesL out) hcut hcut2 (.inl rfl))
              clear hcut hcut2
              go_wp2_with fail
              with_reducible refine (cut_any x xl ka re true _ HIX.out HC1.out (by omega) HTW.out).mono ?_
              rintro e w2 ⟨⟨sk, sr, hk1, hr1, rfl⟩, hd2⟩
              have HI2 := Lib.hid (HI.out.to hd2)
              clear hd2
              have HIK := Lib.hid hk1
              have HIR := Lib.hid hr1
              have hrs := hr1.size
              have hks := hk1.size
              clear hk1 hr1
              go_wp2_with fail
              with_reducible refine (cut_any sr re kn nx false _ HIR.out HC2.out (by omega) (HT.out.keep HI2.out.bel)).mono ?_
              rintro e w3 ⟨⟨sn, sx, hk1, hr1, rfl⟩, hd3⟩
              have HI3a := Lib.hid (HI2.out.to hd3)
              clear hd3
              have HIN := Lib.hid hk1
              have HIX2 := Lib.hid hr1
              have hns := hk1.size
              have hnx := hr1.size
              have hxt := hr1.list
              clear hk1 hr1
              have HI3 := Lib.hid (HI3a.out.alloc (.cells #[.string sk, .string sn, .string sx] 39))
              go_wp2_with fail
              with_reducible refine (allowed_any (sk, sn, sx) _ (by dsimp only; omega) (by dsimp only; omega) (by dsimp only; omega) (HT.out.keep HI3.out.bel)).mono ?_
              rw [show ruleL (sk, sn, sx) = (ka, kn, nx) by unfold ruleL; dsimp only; rw [HIK.out.data, HIN.out.data, HIX2.out.data]]
              obtain ⟨A, hA⟩ : ∃ A, Ro.allowed (ka, kn, nx) = A := ⟨_, rfl⟩
              have HAA := Eqq.mk hA
              rw [hA]
              clear hA
              rintro e w4 ⟨rfl, hb4⟩
              have HI4 := Lib.hid (HI3.out.keep hb4)
              have d0 : w4.cell? ⟨w3.heap.size, 0, none⟩ = some (.string sk) := below_cellU (box3_0 w3 _ _ _ _) hb4 (Nat.le_refl _)
              have d1 : w4.cell? ⟨w3.heap.size, 1, none⟩ = some (.string sn) := below_cellU (box3_1 w3 _ _ _ _) hb4 (Nat.le_refl _)
              have d2 : w4.cell? ⟨w3.heap.size, 2, none⟩ = some (.string sx) := below_cellU (box3_2 w3 _ _ _ _) hb4 (Nat.le_refl _)
              clear hb4
              cases A
              · have HRR := Eqq.mk (HNO.out HSF.out (by rw [HST.out, HAA.out]; simp))
                go_wp2_with fail
                go_ret3
                exact ⟨⟨_, [], by rw [HRR.out]; rfl, by rw [HRR.out]; rfl, OwnR.nil _ _ _⟩, HI4.out.bel⟩
              · have hml : sk.size ≤ maxLen := by unfold maxLen; omega
                have HSG := Eqq.mk (show (seenF (keysL out) (.string sk)).getD (.bool false) = .bool ((keysL out).contains ka) by rw [seenF_get, HIK.out.data])
                have hlk := HI4.out.map.look keyStr Tryd.underlying46 (zeroBool _) (WideMaps.keyOf_string_mk Tryd.underlying9 hml)
                rw [HSG.out] at hlk
                obtain ⟨b, hb⟩ : ∃ b, (keysL out).contains ka = b := ⟨_, rfl⟩
                have HBB := Eqq.mk (show ((rulesL out).map (·.1)).contains ka = b from hb)
                rw [hb] at hlk
                clear hb
                cases b
                · by_cases h500 : out.length = 500
                  · have i5 : ((out.length : Nat) : Int) = 500 := by omega
                    have HRR := Eqq.mk (HNO.out HSF.out (by rw [HST.out, HAA.out, HBB.out, decide_eq_true (by unfold rulesL; rw [List.length_map]; exact h500)]; rfl))
                    obtain ⟨ao, ocap, hov⟩ := HI4.out.own.frame
                    subst hov
                    clear h500
                    go_wp2_with fail
                    go_ret3
                    exact ⟨⟨_, [], by rw [HRR.out]; rfl, by rw [HRR.out]; rfl, OwnR.nil _ _ _⟩, HI4.out.bel⟩
                  · have i5 : ¬ ((out.length : Nat) : Int) = 500 := by omega
                    have HE2 := Eqq.mk (HYE.out HSF.out _ (show Ro.progStep xl (rulesL out) = some (rulesL (out ++ [(sk, sn, sx)])) by
                      rw [HST.out, HAA.out, HBB.out, decide_eq_false (by unfold rulesL; rw [List.length_map]; exact h500), rulesL_snoc]
                      unfold ruleL
                      dsimp only
                      rw [HIK.out.data, HIN.out.data, HIX2.out.data]
                      rfl))
                    have HKS := Eqq.mk (keysL_snoc out (sk, sn, sx))
                    obtain ⟨ao, ocap, hov⟩ := HI4.out.own.frame
                    subst hov
                    have ho5 : out.length ≤ 499 := by omega
                    have hwr : w.heap.size < w3.heap.size := HI3a.out.map.lt
                    clear h500 hol
                    go_wp2_with (at_mapUpdate; refine wpList_put_is _ rfl _ _ _ 46 rfl 9 4 keyStr Tryd.underlying46 w.heap.size out.length (seenF (keysL out)) (seenF (keysL out ++ [sk.data.toList])) rfl HI4.out.map (by unfold maxLen; omega) (.string sk) (.bool true) (.string sk.data.toList) rfl rfl (WideMaps.keyOf_string_mk Tryd.underlying9 hml) (seenF_put (keysL out) sk) (fun x hx => seenF_other (keysL out) sk x hx) ?_)
                    intro w5 hm5 hg5
                    have HM5 := Lib.hid hm5
                    have HP5 := Lib.hid (HI4.out.put hg5)
                    have f0 := cell_grown hg5 d0 (by intro e; injection e with e; omega)
                    have f1 := cell_grown hg5 d1 (by intro e; injection e with e; omega)
                    have f2 := cell_grown hg5 d2 (by intro e; injection e with e; omega)
                    clear hm5 hg5 d0 d1 d2 hlk
                    go_wp2_with (at_builtin; refine wpList_append_rule Tryd.underlying25 infogiven_any _ rfl _ _ rfl (w.heap.size + 2) _ _ rfl (HP5.out.1.alloc _) (sk, sn, sx) _ rfl (box3_0 _ _ _ _ _) (box3_1 _ _ _ _ _) (box3_2 _ _ _ _ _) (by omega) (by have := HP5.out.2.2.2; simp; omega) ?_)
                    intro v' w6 ho6 hg6
                    have HO6 := Lib.hid ho6
                    have HG6 := Lib.hid hg6
                    clear ho6 hg6
                    go_wp2_with fail
                    go_roundw
                    case rel =>
                      refine ⟨k + 1, out ++ [(sk, sn, sx)], by omega, by go_num, ?_, HE2, by rw [List.length_append]; simp; omega⟩
                      have HP := HP5.out
                      refine PInv.app (n := out.length + 1) (wr := w5.alloc (.cells #[.string sk, .string sn, .string sx] 39)) ?_ rfl (HP.1.alloc _) (fun k x hx => below_cellU (HP.2.1 k x hx) ((Below.refl w5.heap.size w5).alloc (Nat.le_refl _) _) (Nat.le_refl _)) (HP.2.2.1.alloc HP.2.2.1.size _) (Nat.le_refl _) (by omega) (by omega) (by have := HP.2.2.2; simp; omega) HO6.out HG6.out
                      rw [HKS.out]
                      exact HM5.out.alloc _
                    case measure => simp [intOf]; omega
                · have HRR := Eqq.mk (HNO.out HSF.out (by rw [HST.out, HBB.out]; rfl))
                  go_wp2_with fail
                  go_ret3
                  exact ⟨⟨_, [], by rw [HRR.out]; rfl, by rw [HRR.out]; rfl, OwnR.nil _ _ _⟩, HI4.out.bel⟩
            · by_cases hnn : nx = []
              · have HRR := Eqq.mk (HNO.out HSF.out (Ro.step_gap hcut (by rw [hnn] at hcut2; exact hcut2)))
                clear hcut hcut2
                go_wp2_with fail
                with_reducible refine (cut_any x xl ka re true _ HIX.out HC1.out (by omega) HTW.out).mono ?_
                rintro e w2 ⟨⟨sk, sr, hk1, hr1, rfl⟩, hd2⟩
                have HI2 := Lib.hid (HI.out.to hd2)
                clear hd2
                have HIK := Lib.hid hk1
                have HIR := Lib.hid hr1
                have hrs := hr1.size
                have hks := hk1.size
                clear hk1 hr1
                go_wp2_with fail
                with_reducible refine (cut_any sr re kn nx true _ HIR.out HC2.out (by omega) (HT.out.keep HI2.out.bel)).mono ?_
                rintro e w3 ⟨⟨sn, sx, hk1, hr1, rfl⟩, hd3⟩
                have HI3a := Lib.hid (HI2.out.to hd3)
                clear hd3
                have HIN := Lib.hid hk1
                have HIX2 := Lib.hid hr1
                have hns := hk1.size
                have hnx := hr1.size
                have hxt := hr1.list
                clear hk1 hr1
                have e7 : sx.toList.isEmpty = true := by rw [hxt, hnn]; rfl
                clear hxt
                go_wp2_with fail
                go_ret3
                exact ⟨⟨_, [], by rw [HRR.out]; rfl, by rw [HRR.out]; rfl, OwnR.nil _ _ _⟩, (HI3a.out.alloc _).bel⟩
              · have HST := Eqq.mk (Ro.step_rule (out := rulesL out) hcut hcut2 (.inr hnn))
                clear hcut hcut2
                go_wp2_with fail
                with_reducible refine (cut_any x xl ka re true _ HIX.out HC1.out (by omega) HTW.out).mono ?_
                rintro e w2 ⟨⟨sk, sr, hk1, hr1, rfl⟩, hd2⟩
                have HI2 := Lib.hid (HI.out.to hd2)
                clear hd2
                have HIK := Lib.hid hk1
                have HIR := Lib.hid hr1
                have hrs := hr1.size
                have hks := hk1.size
                clear hk1 hr1
                go_wp2_with fail
                with_reducible refine (cut_any sr re kn nx true _ HIR.out HC2.out (by omega) (HT.out.keep HI2.out.bel)).mono ?_
                rintro e w3 ⟨⟨sn, sx, hk1, hr1, rfl⟩, hd3⟩
                have HI3a := Lib.hid (HI2.out.to hd3)
                clear hd3
                have HIN := Lib.hid hk1
                have HIX2 := Lib.hid hr1
                have hns := hk1.size
                have hnx := hr1.size
                have hxt := hr1.list
                clear hk1 hr1
                have e7 : sx.toList.isEmpty = false := by rw [hxt]; cases nx with | nil => exact absurd rfl hnn | cons a b => rfl
                clear hxt
                have HI3 := Lib.hid (HI3a.out.alloc (.cells #[.string sk, .string sn, .string sx] 39))
                go_wp2_with fail
                with_reducible refine (allowed_any (sk, sn, sx) _ (by dsimp only; omega) (by dsimp only; omega) (by dsimp only; omega) (HT.out.keep HI3.out.bel)).mono ?_
                rw [show ruleL (sk, sn, sx) = (ka, kn, nx) by unfold ruleL; dsimp only; rw [HIK.out.data, HIN.out.data, HIX2.out.data]]
                obtain ⟨A, hA⟩ : ∃ A, Ro.allowed (ka, kn, nx) = A := ⟨_, rfl⟩
                have HAA := Eqq.mk hA
                rw [hA]
                clear hA
                rintro e w4 ⟨rfl, hb4⟩
                have HI4 := Lib.hid (HI3.out.keep hb4)
                have d0 : w4.cell? ⟨w3.heap.size, 0, none⟩ = some (.string sk) := below_cellU (box3_0 w3 _ _ _ _) hb4 (Nat.le_refl _)
                have d1 : w4.cell? ⟨w3.heap.size, 1, none⟩ = some (.string sn) := below_cellU (box3_1 w3 _ _ _ _) hb4 (Nat.le_refl _)
                have d2 : w4.cell? ⟨w3.heap.size, 2, none⟩ = some (.string sx) := below_cellU (box3_2 w3 _ _ _ _) hb4 (Nat.le_refl _)
                clear hb4
                cases A
                · have HRR := Eqq.mk (HNO.out HSF.out (by rw [HST.out, HAA.out]; simp))
                  go_wp2_with fail
                  go_ret3
                  exact ⟨⟨_, [], by rw [HRR.out]; rfl, by rw [HRR.out]; rfl, OwnR.nil _ _ _⟩, HI4.out.bel⟩
                · have hml : sk.size ≤ maxLen := by unfold maxLen; omega
                  have HSG := Eqq.mk (show (seenF (keysL out) (.string sk)).getD (.bool false) = .bool ((keysL out).contains ka) by rw [seenF_get, HIK.out.data])
                  have hlk := HI4.out.map.look keyStr Tryd.underlying46 (zeroBool _) (WideMaps.keyOf_string_mk Tryd.underlying9 hml)
                  rw [HSG.out] at hlk
                  obtain ⟨b, hb⟩ : ∃ b, (keysL out).contains ka = b := ⟨_, rfl⟩
                  have HBB := Eqq.mk (show ((rulesL out).map (·.1)).contains ka = b from hb)
                  rw [hb] at hlk
                  clear hb
                  cases b
                  · by_cases h500 : out.length = 500
                    · have i5 : ((out.length : Nat) : Int) = 500 := by omega
                      have HRR := Eqq.mk (HNO.out HSF.out (by rw [HST.out, HAA.out, HBB.out, decide_eq_true (by unfold rulesL; rw [List.length_map]; exact h500)]; rfl))
                      obtain ⟨ao, ocap, hov⟩ := HI4.out.own.frame
                      subst hov
                      clear h500
                      go_wp2_with fail
                      go_ret3
                      exact ⟨⟨_, [], by rw [HRR.out]; rfl, by rw [HRR.out]; rfl, OwnR.nil _ _ _⟩, HI4.out.bel⟩
                    · have i5 : ¬ ((out.length : Nat) : Int) = 500 := by omega
                      have HE2 := Eqq.mk (HYE.out HSF.out _ (show Ro.progStep xl (rulesL out) = some (rulesL (out ++ [(sk, sn, sx)])) by
                        rw [HST.out, HAA.out, HBB.out, decide_eq_false (by unfold rulesL; rw [List.length_map]; exact h500), rulesL_snoc]
                        unfold ruleL
                        dsimp only
                        rw [HIK.out.data, HIN.out.data, HIX2.out.data]
                        rfl))
                      have HKS := Eqq.mk (keysL_snoc out (sk, sn, sx))
                      obtain ⟨ao, ocap, hov⟩ := HI4.out.own.frame
                      subst hov
                      have ho5 : out.length ≤ 499 := by omega
                      have hwr : w.heap.size < w3.heap.size := HI3a.out.map.lt
                      clear h500 hol
                      go_wp2_with (at_mapUpdate; refine wpList_put_is _ rfl _ _ _ 46 rfl 9 4 keyStr Tryd.underlying46 w.heap.size out.length (seenF (keysL out)) (seenF (keysL out ++ [sk.data.toList])) rfl HI4.out.map (by unfold maxLen; omega) (.string sk) (.bool true) (.string sk.data.toList) rfl rfl (WideMaps.keyOf_string_mk Tryd.underlying9 hml) (seenF_put (keysL out) sk) (fun x hx => seenF_other (keysL out) sk x hx) ?_)
                      intro w5 hm5 hg5
                      have HM5 := Lib.hid hm5
                      have HP5 := Lib.hid (HI4.out.put hg5)
                      have f0 := cell_grown hg5 d0 (by intro e; injection e with e; omega)
                      have f1 := cell_grown hg5 d1 (by intro e; injection e with e; omega)
                      have f2 := cell_grown hg5 d2 (by intro e; injection e with e; omega)
                      clear hm5 hg5 d0 d1 d2 hlk
                      go_wp2_with (at_builtin; refine wpList_append_rule Tryd.underlying25 infogiven_any _ rfl _ _ rfl (w.heap.size + 2) _ _ rfl (HP5.out.1.alloc _) (sk, sn, sx) _ rfl (box3_0 _ _ _ _ _) (box3_1 _ _ _ _ _) (box3_2 _ _ _ _ _) (by omega) (by have := HP5.out.2.2.2; simp; omega) ?_)
                      intro v' w6 ho6 hg6
                      have HO6 := Lib.hid ho6
                      have HG6 := Lib.hid hg6
                      clear ho6 hg6
                      go_wp2_with fail
                      go_roundw
                      case rel =>
                        refine ⟨k + 1, out ++ [(sk, sn, sx)], by omega, by go_num, ?_, HE2, by rw [List.length_append]; simp; omega⟩
                        have HP := HP5.out
                        refine PInv.app (n := out.length + 1) (wr := w5.alloc (.cells #[.string sk, .string sn, .string sx] 39)) ?_ rfl (HP.1.alloc _) (fun k x hx => below_cellU (HP.2.1 k x hx) ((Below.refl w5.heap.size w5).alloc (Nat.le_refl _) _) (Nat.le_refl _)) (HP.2.2.1.alloc HP.2.2.1.size _) (Nat.le_refl _) (by omega) (by omega) (by have := HP.2.2.2; simp; omega) HO6.out HG6.out
                        rw [HKS.out]
                        exact HM5.out.alloc _
                      case measure => simp [intOf]; omega
                  · have HRR := Eqq.mk (HNO.out HSF.out (by rw [HST.out, HBB.out]; rfl))
                    go_wp2_with fail
                    go_ret3
                    exact ⟨⟨_, [], by rw [HRR.out]; rfl, by rw [HRR.out]; rfl, OwnR.nil _ _ _⟩, HI4.out.bel⟩
    · obtain rfl : k = n := by omega
      have HRR := Eqq.mk (show R = (rulesL out, 0, 0) from Ro.go_end (L := L) (by rw [HLN.out]; exact HE.out))
      go_wp2_with fail
      go_ret3
      exact ⟨⟨_, out, by rw [HRR.out]; rfl, by rw [HRR.out], HI.out.own.low (by omega)⟩, HI.out.bel⟩
end Go.Proofs.YtgdcffahhpeibaaDoor
