/-
  henkanref05.Parse by its contract. No condition.
-/
import Derived.Test.YtbdekjfimojkbaaDoorRoRPieces
namespace Go.Proofs.YtbdekjfimojkbaaDoor
open Go.RowKit
namespace Ro
open UT (Bs)
theorem line_none {L : List Bs} {k : Nat} {x : Bs} {out : List Rule} {R : List Rule × Nat × Nat} (hx : L[k]? = some x) (h : parseGo (L.drop k) k out = R) (hs : skip x = false) (hl : out.length ≤ 500) (hn : lineStep x out = none) : R = ([], k + 1, 50) :=
  go_none hx h hs hl (by rw [prog_step x out hl]; exact hn)
theorem line_some {L : List Bs} {k : Nat} {x : Bs} {out out' : List Rule} {R : List Rule × Nat × Nat} (hx : L[k]? = some x) (h : parseGo (L.drop k) k out = R) (hs : skip x = false) (hl : out.length ≤ 500) (hn : lineStep x out = some out') : parseGo (L.drop (k + 1)) (k + 1) out' = R :=
  go_some hx h hs hl (by rw [prog_step x out hl]; exact hn)
theorem step_of {x : Bs} {out : List Rule} {r : Rule} (h : lineRule x = some r) : lineStep x out = if (out.map (·.1)).contains r.1 || !allowed r || decide (500 ≤ out.length) then none else some (out ++ [r]) := by
  unfold lineStep; rw [h]
theorem step_nope {x : Bs} {out : List Rule} (h : lineRule x = none) : lineStep x out = none := by unfold lineStep; rw [h]
end Ro
/-- a list of strings that a call made, not empty: where it lies -/
theorem Strs.spot {B : Nat} {v : Value} {xs : List ByteArray} {w : World} (h : Strs B v xs w) (h0 : xs ≠ []) : ∃ g cap, v = .slice (some ⟨g, 0, none⟩) xs.length cap ∧ xs.length ≤ cap ∧ ∀ (k : Nat) x, xs[k]? = some x → w.cell? ⟨g, k, none⟩ = some (.string x) := by
  obtain ⟨g, cap, hv, hB, hg, hc, hcell, _⟩ := h.at h0
  exact ⟨g, cap, hv, hc, hcell⟩
set_option maxRecDepth 100000 in
set_option maxHeartbeats 8000000 in
theorem rparse_any (s : ByteArray) (l : List UInt8) (w : World) (hs : Is s l) (hsz : s.size < 4294967281) :
    Calls Tryd.prog 12 #[.string s] w fun e w' => GivesR 51 w.heap.size (Ro.parse l) e w' ∧ Below w.heap.size w w' := by
  have HI := Lib.hid hs
  have hlen := hs.size
  by_cases hbig : 1048576 < s.size
  · have hd : decide ((1048576 : Int) < (s.size : Int)) = true := decide_eq_true (by omega)
    have hd' : decide (1048576 < s.size) = true := decide_eq_true hbig
    have HR := Eqq.mk (show Ro.parse l = ([], 0, 2) by unfold Ro.parse; rw [if_pos (by omega)])
    have hO := Lib.hid (OwnR.nil 51 w.heap.size w)
    clear hs hlen
    go_enter Tryd.func12, Tryd.ntmps12
    go_wp2_with fail
    go_ret3
    exact ⟨⟨_, [], by rw [HR.out]; rfl, by rw [HR.out]; rfl, hO.out⟩, Below.refl _ _⟩
  have hd : decide ((1048576 : Int) < (s.size : Int)) = false := decide_eq_false (by omega)
  have hd' : decide (1048576 < s.size) = false := decide_eq_false hbig
  have HRP := Eqq.mk (show Ro.parse l = Ro.parseGo (Ro.pieces 10 l) 0 [] by unfold Ro.parse; rw [if_neg (by omega)])
  obtain ⟨R, hR⟩ : ∃ R, Ro.parse l = R := ⟨_, rfl⟩
  rw [hR] at HRP ⊢
  obtain ⟨L, hL⟩ : ∃ L, Ro.pieces 10 l = L := ⟨_, rfl⟩
  have hLn := Ro.pieces_len 10 l
  have hL0 := Ro.pieces_ne 10 l
  have HPL := Lib.hid (Ro.piece_len 10 l)
  rw [hL] at HRP hLn HPL hL0
  have HLP := Eqq.mk hL
  have hl5 : l.length ≤ 1048576 := by omega
  have hs5 : s.size ≤ 1048576 := by omega
  clear hs hlen hR hbig hL
  go_enter Tryd.func12, Tryd.ntmps12
  go_wp2_with fail
  with_reducible refine (rpieces_any s l 10 10 rfl _ HI.out hs5).mono ?_
  rw [HLP.out]
  rintro e w1 ⟨⟨lv, ps, rfl, hps, hst⟩, hb⟩
  have HB1 := Lib.hid hb
  have HPS := Eqq.mk hps
  obtain ⟨n, hn⟩ : ∃ n, ps.length = n := ⟨_, rfl⟩
  have hnL : L.length = n := by rw [← hps, List.length_map, hn]
  obtain ⟨gl, lcap, rfl, hlc, hcell⟩ := hst.spot (by rintro rfl; exact hL0 (by rw [← hps]; rfl))
  rw [hn] at hlc ⊢
  have HN := Eqq.mk hn
  have HLN := Eqq.mk hnL
  have HPC := Lib.hid hcell
  have hO1 := Lib.hid (OwnR.nil 51 w1.heap.size w1)
  have hn1 : n ≤ 1048577 := by omega
  clear hps hst hb hn hnL hcell hlc hLn hL0
  go_wp2_with fail
  go_loopw [5, 7] (fun ov iv wr => ∃ (k : Nat) (out : List RuleB), k ≤ n ∧ iv = .int .i64 k ∧ OwnR 51 w1.heap.size ov out wr ∧ Eqq (Ro.parseGo (L.drop k) k (rulesL out)) R ∧ out.length ≤ 500 ∧ Below w1.heap.size w1 wr) (fun _ iv _ => n - (intOf iv).toNat)
  case atStart => exact ⟨0, [], Nat.zero_le _, rfl, hO1.out, ⟨HRP.out.symm⟩, by simp, Below.refl _ _⟩
  case round =>
    obtain ⟨k, out, hk, rfl, hi, HE, hol, hb⟩ := hrel
    have HO := Lib.hid hi
    have HB := Lib.hid hb
    have HBW := Lib.hid (HB1.out.trans (hb.mono HB1.out.size))
    clear hi hb
    by_cases hlt : k < n
    · obtain ⟨x, hx⟩ : ∃ x, ps[k]? = some x := ⟨_, List.getElem?_eq_getElem (by rw [HN.out]; exact hlt)⟩
      have c0 := below_cellU (HPC.out k x hx) HB.out (Nat.le_refl _)
      have hLk : L[k]? = some x.data.toList := by rw [← HPS.out, List.getElem?_map, hx]; rfl
      have hxl := HPL.out _ (List.mem_of_getElem? hLk)
      have hxs := (Is.of x).size
      have hxt := (Is.of x).list
      have HIX := Lib.hid (Is.of x)
      obtain ⟨xl, hxe⟩ : ∃ xl, x.data.toList = xl := ⟨_, rfl⟩
      rw [hxe] at hLk hxl hxs hxt HIX
      have hx20 : x.size ≤ 1048576 := by omega
      have hkk : (k : Int) < (n : Int) := by omega
      have hro : (rulesL out).length ≤ 500 := by unfold rulesL; rw [List.length_map]; exact hol
      have HSK := Lib.hid (fun h => Ro.go_skip (out := rulesL out) hLk HE.out h)
      have HNO := Lib.hid (fun h1 h2 => Ro.line_none (out := rulesL out) hLk HE.out h1 hro h2)
      have HYE := Lib.hid (fun h1 o' h2 => Ro.line_some (out := rulesL out) (out' := o') hLk HE.out h1 hro h2)
      clear hx hLk hxe hxl
      by_cases hnil : xl = []
      · have e1 : x.toList.isEmpty = true := by rw [hxt, hnil]; rfl
        have HE2 := Eqq.mk (HSK.out (by rw [hnil]; rfl))
        clear hxs hxt hnil
        go_wp2_with fail
        go_roundw
        case rel => exact ⟨k + 1, out, by omega, by go_num, HO.out, HE2, hol, HB.out⟩
        case measure => simp [intOf]; omega
      · have e1 : x.toList.isEmpty = false := by rw [hxt]; cases xl with | nil => exact absurd rfl hnil | cons a b => rfl
        have hx0 : 0 < x.size := by rw [hxs]; exact List.length_pos_iff.2 hnil
        have hgt := HIX.out.get 0 hx0
        obtain ⟨c, hc⟩ : ∃ c, x[0]'hx0 = c := ⟨_, rfl⟩
        rw [hc] at hgt
        have HS2 := Lib.hid (show Ro.skip xl = (c == 35) by
          cases xl with
          | nil => exact absurd rfl hnil
          | cons a b => rw [List.getElem?_cons_zero] at hgt; injection hgt with hgt; rw [← hgt]; rfl)
        by_cases h35 : c = 35
        · have HE2 := Eqq.mk (HSK.out (by rw [HS2.out, h35]; rfl))
          have hc35 : ((c.toNat : Nat) : Int) = 35 := by rw [h35]; rfl
          clear hxs hxt hnil hgt
          go_wp2_with fail
          go_roundw
          case rel => exact ⟨k + 1, out, by omega, by go_num, HO.out, HE2, hol, HB.out⟩
          case measure => simp [intOf]; omega
        · have HSF := Eqq.mk (show Ro.skip xl = false by rw [HS2.out, beq_eq_false_iff_ne]; exact h35)
          have hc35 : ¬ ((c.toNat : Nat) : Int) = 35 := by
            intro h
            exact h35 (UInt8.toNat_inj.1 (by rw [show (35 : UInt8).toNat = 35 from rfl]; omega))
          clear hxs hxt hnil hgt h35
          go_wp2_with fail
          with_reducible refine (rpieces_any x xl 9 9 rfl _ HIX.out hx20).mono ?_
          rintro e w2 ⟨⟨pv, ws, rfl, hws, hst⟩, hb⟩
          have HB2 := Lib.hid (HB.out.trans (hb.mono HB.out.size))
          have HO2 := Lib.hid (HO.out.keep hb)
          have HPN := Lib.hid (Ro.piece_len 9 xl)
          obtain ⟨gp, pcap, rfl, hpc, hpx⟩ := hst.spot (by rintro rfl; exact Ro.pieces_ne 9 xl (by rw [← hws]; rfl))
          clear hb hst
          have hxz := HIX.out.size
          have HPX := Lib.hid hpx
          clear hpx
          match ws, hws with
          | [], hws => exact absurd hws.symm (Ro.pieces_ne 9 xl)
          | [a], hws =>
            have HRR := Eqq.mk (HNO.out HSF.out (Ro.step_nope (by unfold Ro.lineRule; rw [← hws]; rfl)))
            clear hws
            dsimp only [List.length_cons, List.length_nil] at hpc ⊢
            go_wp2_with fail
            go_ret3
            exact ⟨⟨_, [], by rw [HRR.out]; rfl, by rw [HRR.out]; rfl, OwnR.nil _ _ _⟩, HB1.out.trans (HB2.out.mono HB1.out.size)⟩
          | [a, b], hws =>
            dsimp only [List.length_cons, List.length_nil] at hpc ⊢
            have p0 := HPX.out 0 a rfl
            have p1 := HPX.out 1 b rfl
            have hlr : Ro.lineRule xl = some (a.data.toList, b.data.toList, []) := by unfold Ro.lineRule; rw [← hws]; rfl
            have HST := Eqq.mk (Ro.step_of (out := rulesL out) hlr)
            have za : a.size ≤ 1048576 := by rw [(Is.of a).size]; have := HPN.out a.data.toList (by rw [← hws]; simp); omega
            have zb : b.size ≤ 1048576 := by rw [(Is.of b).size]; have := HPN.out b.data.toList (by rw [← hws]; simp); omega
            have zd : (⟨#[]⟩ : ByteArray).size ≤ 1048576 := by decide
            clear hws hlr
            have HKP := Lib.hid (fun (W : World) (hW : Below w2.heap.size w2 W) => (show (W.cell? ⟨gp, 0, none⟩ = some (.string a) ∧ W.cell? ⟨gp, 1, none⟩ = some (.string b)) ∧ Below w2.heap.size w2 W from ⟨⟨below_cellU p0 hW (Nat.le_refl _), below_cellU p1 hW (Nat.le_refl _)⟩, hW⟩))
            go_wp2_with fail
            go_region_held3 (fun W => (W.cell? ⟨gp, 0, none⟩ = some (.string a) ∧ W.cell? ⟨gp, 1, none⟩ = some (.string b)) ∧ Below w2.heap.size w2 W)
              (first | exact HKP.out _ (Below.refl _ _) | exact HKP.out _ (Below.refl _ _).drew | exact HKP.out _ ((Below.refl _ _).drew.alloc (Nat.le_refl _) _) | exact HKP.out _ (((Below.refl _ _).alloc (Nat.le_refl _) _).drew) | exact HKP.out _ (((((Below.refl _ _).drew.alloc (Nat.le_refl _) _).setCell (p := ⟨w2.heap.size, 0, none⟩) (Nat.le_refl _) _).setCell (p := ⟨w2.heap.size, 1, none⟩) (Nat.le_refl _) _).setCell (p := ⟨w2.heap.size, 2, none⟩) (Nat.le_refl _) _) | exact HKP.out _ (((((Below.refl _ _).alloc (Nat.le_refl _) _).drew.setCell (p := ⟨w2.heap.size, 0, none⟩) (Nat.le_refl _) _).setCell (p := ⟨w2.heap.size, 1, none⟩) (Nat.le_refl _) _).setCell (p := ⟨w2.heap.size, 2, none⟩) (Nat.le_refl _) _) | go_keep)
              (fail)
            go_wp2_with fail
            obtain ⟨W3, hW3⟩ : ∃ W, W = (w2.alloc (.cells #[.string a, .string b, .string ⟨#[]⟩] 51)).drew := ⟨_, rfl⟩
            rw [← hW3]
            have HB3 := Lib.hid (show Below w1.heap.size w1 W3 by rw [hW3]; exact (HB2.out.alloc HB2.out.size _).drew)
            have hB23 : Below w2.heap.size w2 W3 := by rw [hW3]; exact ((Below.refl w2.heap.size w2).alloc (Nat.le_refl _) _).drew
            have HO3 := Lib.hid (HO2.out.keep hB23)
            have e0 : W3.cell? ⟨w2.heap.size, 0, none⟩ = some (.string a) := by rw [hW3]; exact box3_0 w2 _ _ _ _
            have e1 : W3.cell? ⟨w2.heap.size, 1, none⟩ = some (.string b) := by rw [hW3]; exact box3_1 w2 _ _ _ _
            have e2 : W3.cell? ⟨w2.heap.size, 2, none⟩ = some (.string ⟨#[]⟩) := by rw [hW3]; exact box3_2 w2 _ _ _ _
            have hblk : w2.heap.size < W3.heap.size := by rw [hW3]; simp
            obtain ⟨q, hq⟩ := found_parts out a.data.toList
            obtain ⟨q1, q2, q3⟩ := q
            obtain ⟨tw, htw⟩ : ∃ tw, (keysL out).contains a.data.toList = tw := ⟨_, rfl⟩
            have HBB := Eqq.mk (show ((rulesL out).map (·.1)).contains a.data.toList = tw from htw)
            rw [htw] at hq
            have HQ := Eqq.mk hq
            clear hq htw hB23 hW3
            with_reducible refine (rfind_any a _ _ out _ (Is.of a) HO3.out.lie (by omega)).mono ?_
            rw [HQ.out]
            rintro e w4 ⟨rfl, hb⟩
            have HB4 := Lib.hid (HB3.out.trans (hb.mono HB3.out.size))
            have HO4 := Lib.hid (HO3.out.keep hb)
            have f0 := below_cellU e0 hb (Nat.le_refl _)
            have f1 := below_cellU e1 hb (Nat.le_refl _)
            have f2 := below_cellU e2 hb (Nat.le_refl _)
            have hblk4 : w2.heap.size < w4.heap.size := Nat.lt_of_lt_of_le hblk hb.size
            clear hb e0 e1 e2
            have hba := (Below.refl w4.heap.size w4).alloc (Nat.le_refl _) (.cells #[.string q1, .string q2, .string q3] 51)
            have HB4a := Lib.hid (HB4.out.trans (hba.mono HB4.out.size))
            have HO4a := Lib.hid (HO4.out.keep hba)
            have g0 := below_cellU f0 hba (Nat.le_refl _)
            have g1 := below_cellU f1 hba (Nat.le_refl _)
            have g2 := below_cellU f2 hba (Nat.le_refl _)
            clear hba
            obtain ⟨oa, ocap, hov⟩ := HO4.out.frame
            subst hov
            cases tw
            · obtain ⟨A, hA⟩ : ∃ A, Ro.allowed (a.data.toList, b.data.toList, []) = A := ⟨_, rfl⟩
              have HAA := Eqq.mk hA
              clear hA
              go_wp2_with fail
              with_reducible refine (rallowed_any (a, b, ⟨#[]⟩) _ (by dsimp only; omega) (by dsimp only; omega) (by dsimp only; omega)).mono ?_
              rw [show ruleL (a, b, ⟨#[]⟩) = (a.data.toList, b.data.toList, []) from rfl, HAA.out]
              rintro e w5 ⟨rfl, hb⟩
              have HB5 := Lib.hid (HB4a.out.trans (hb.mono HB4a.out.size))
              have HO5 := Lib.hid (HO4a.out.keep hb)
              have k0 := below_cellU g0 hb (Nat.le_refl _)
              have k1 := below_cellU g1 hb (Nat.le_refl _)
              have k2 := below_cellU g2 hb (Nat.le_refl _)
              clear hb g0 g1 g2 f0 f1 f2
              cases A
              · have HRR := Eqq.mk (HNO.out HSF.out (by rw [HST.out, HAA.out]; simp))
                go_wp2_with fail
                go_ret3
                exact ⟨⟨_, [], by rw [HRR.out]; rfl, by rw [HRR.out]; rfl, OwnR.nil _ _ _⟩, HB1.out.trans (HB5.out.mono HB1.out.size)⟩
              · by_cases h500 : 500 ≤ out.length
                · have i5 : (500 : Int) ≤ ((out.length : Nat) : Int) := by omega
                  have HRR := Eqq.mk (HNO.out HSF.out (by rw [HST.out, HAA.out, HBB.out, decide_eq_true (show 500 ≤ (rulesL out).length by unfold rulesL; rw [List.length_map]; exact h500)]; rfl))
                  clear h500
                  go_wp2_with fail
                  go_ret3
                  exact ⟨⟨_, [], by rw [HRR.out]; rfl, by rw [HRR.out]; rfl, OwnR.nil _ _ _⟩, HB1.out.trans (HB5.out.mono HB1.out.size)⟩
                · have i5 : ¬ (500 : Int) ≤ ((out.length : Nat) : Int) := by omega
                  have HE2 := Eqq.mk (HYE.out HSF.out _ (show Ro.lineStep xl (rulesL out) = some (rulesL (out ++ [(a, b, ⟨#[]⟩)])) by
                    rw [HST.out, HAA.out, HBB.out, decide_eq_false (show ¬ 500 ≤ (rulesL out).length by unfold rulesL; rw [List.length_map]; exact h500), rulesL_snoc]
                    rfl))
                  have ho5 : out.length ≤ 499 := by omega
                  clear h500
                  go_wp2_with (at_builtin; refine wpList_append_rule Tryd.underlying26 infotaken_any _ rfl _ _ rfl w1.heap.size _ _ rfl (HO5.out.alloc _) (a, b, ⟨#[]⟩) _ rfl (box3_0 _ _ _ _ _) (box3_1 _ _ _ _ _) (box3_2 _ _ _ _ _) (by omega) (by have := HB5.out.size; simp; omega) ?_)
                  intro v' w6 ho6 hg6
                  have HO6 := Lib.hid ho6
                  have HB6 := Lib.hid ((HB5.out.alloc HB5.out.size _).grown hg6 (by have := HB5.out.size; simp; omega) (fun j hj => (World.ownsRow.lt HO5.out j hj).1))
                  clear ho6 hg6
                  go_wp2_with fail
                  go_roundw
                  case rel => exact ⟨k + 1, out ++ [(a, b, ⟨#[]⟩)], by omega, by go_num, HO6.out, HE2, by rw [List.length_append]; simp; omega, HB6.out⟩
                  case measure => simp [intOf]; omega
            · have HRR := Eqq.mk (HNO.out HSF.out (by rw [HST.out, HBB.out]; simp))
              go_wp2_with fail
              go_ret3
              exact ⟨⟨_, [], by rw [HRR.out]; rfl, by rw [HRR.out]; rfl, OwnR.nil _ _ _⟩, HB1.out.trans (HB4a.out.mono HB1.out.size)⟩
          | [a, b, d], hws =>
            dsimp only [List.length_cons, List.length_nil] at hpc ⊢
            have p0 := HPX.out 0 a rfl
            have p1 := HPX.out 1 b rfl
            have p2 := HPX.out 2 d rfl
            have hdl := (Is.of d).list
            by_cases hd0 : d.data.toList = []
            · have e7 : d.toList.isEmpty = true := by rw [hdl, hd0]; rfl
              have e8 : d.data.isEmpty = true := by rw [data_isEmpty, hd0]; rfl
              have HRR := Eqq.mk (HNO.out HSF.out (Ro.step_nope (by unfold Ro.lineRule; rw [← hws]; exact if_pos hd0)))
              clear hws hd0 hdl
              go_wp2_with fail
              go_ret3
              exact ⟨⟨_, [], by rw [HRR.out]; rfl, by rw [HRR.out]; rfl, OwnR.nil _ _ _⟩, HB1.out.trans (HB2.out.mono HB1.out.size)⟩
            have e7 : d.toList.isEmpty = false := by rw [hdl]; cases h : d.data.toList with | nil => exact absurd h hd0 | cons a b => rfl
            have e8 : d.data.isEmpty = false := by rw [data_isEmpty]; cases h : d.data.toList with | nil => exact absurd h hd0 | cons a b => rfl
            have hlr : Ro.lineRule xl = some (a.data.toList, b.data.toList, d.data.toList) := by unfold Ro.lineRule; rw [← hws]; exact if_neg hd0
            have HST := Eqq.mk (Ro.step_of (out := rulesL out) hlr)
            have za : a.size ≤ 1048576 := by rw [(Is.of a).size]; have := HPN.out a.data.toList (by rw [← hws]; simp); omega
            have zb : b.size ≤ 1048576 := by rw [(Is.of b).size]; have := HPN.out b.data.toList (by rw [← hws]; simp); omega
            have zd : d.size ≤ 1048576 := by rw [(Is.of d).size]; have := HPN.out d.data.toList (by rw [← hws]; simp); omega
            clear hws hlr hd0 hdl
            have HKP := Lib.hid (fun (W : World) (hW : Below w2.heap.size w2 W) => (show (W.cell? ⟨gp, 0, none⟩ = some (.string a) ∧ W.cell? ⟨gp, 1, none⟩ = some (.string b) ∧ W.cell? ⟨gp, 2, none⟩ = some (.string d)) ∧ Below w2.heap.size w2 W from ⟨⟨below_cellU p0 hW (Nat.le_refl _), below_cellU p1 hW (Nat.le_refl _), below_cellU p2 hW (Nat.le_refl _)⟩, hW⟩))
            go_wp2_with fail
            go_region_held3 (fun W => (W.cell? ⟨gp, 0, none⟩ = some (.string a) ∧ W.cell? ⟨gp, 1, none⟩ = some (.string b) ∧ W.cell? ⟨gp, 2, none⟩ = some (.string d)) ∧ Below w2.heap.size w2 W)
              (first | exact HKP.out _ (Below.refl _ _) | exact HKP.out _ (Below.refl _ _).drew | exact HKP.out _ ((Below.refl _ _).drew.alloc (Nat.le_refl _) _) | exact HKP.out _ (((Below.refl _ _).alloc (Nat.le_refl _) _).drew) | exact HKP.out _ (((((Below.refl _ _).drew.alloc (Nat.le_refl _) _).setCell (p := ⟨w2.heap.size, 0, none⟩) (Nat.le_refl _) _).setCell (p := ⟨w2.heap.size, 1, none⟩) (Nat.le_refl _) _).setCell (p := ⟨w2.heap.size, 2, none⟩) (Nat.le_refl _) _) | exact HKP.out _ (((((Below.refl _ _).alloc (Nat.le_refl _) _).drew.setCell (p := ⟨w2.heap.size, 0, none⟩) (Nat.le_refl _) _).setCell (p := ⟨w2.heap.size, 1, none⟩) (Nat.le_refl _) _).setCell (p := ⟨w2.heap.size, 2, none⟩) (Nat.le_refl _) _) | go_keep)
              (fail)
            go_wp2_with fail
            obtain ⟨W3, hW3⟩ : ∃ W, W = (w2.alloc (.cells #[.string a, .string b, .string d] 51)).drew := ⟨_, rfl⟩
            rw [← hW3]
            have HB3 := Lib.hid (show Below w1.heap.size w1 W3 by rw [hW3]; exact (HB2.out.alloc HB2.out.size _).drew)
            have hB23 : Below w2.heap.size w2 W3 := by rw [hW3]; exact ((Below.refl w2.heap.size w2).alloc (Nat.le_refl _) _).drew
            have HO3 := Lib.hid (HO2.out.keep hB23)
            have e0 : W3.cell? ⟨w2.heap.size, 0, none⟩ = some (.string a) := by rw [hW3]; exact box3_0 w2 _ _ _ _
            have e1 : W3.cell? ⟨w2.heap.size, 1, none⟩ = some (.string b) := by rw [hW3]; exact box3_1 w2 _ _ _ _
            have e2 : W3.cell? ⟨w2.heap.size, 2, none⟩ = some (.string d) := by rw [hW3]; exact box3_2 w2 _ _ _ _
            have hblk : w2.heap.size < W3.heap.size := by rw [hW3]; simp
            obtain ⟨q, hq⟩ := found_parts out a.data.toList
            obtain ⟨q1, q2, q3⟩ := q
            obtain ⟨tw, htw⟩ : ∃ tw, (keysL out).contains a.data.toList = tw := ⟨_, rfl⟩
            have HBB := Eqq.mk (show ((rulesL out).map (·.1)).contains a.data.toList = tw from htw)
            rw [htw] at hq
            have HQ := Eqq.mk hq
            clear hq htw hB23 hW3
            with_reducible refine (rfind_any a _ _ out _ (Is.of a) HO3.out.lie (by omega)).mono ?_
            rw [HQ.out]
            rintro e w4 ⟨rfl, hb⟩
            have HB4 := Lib.hid (HB3.out.trans (hb.mono HB3.out.size))
            have HO4 := Lib.hid (HO3.out.keep hb)
            have f0 := below_cellU e0 hb (Nat.le_refl _)
            have f1 := below_cellU e1 hb (Nat.le_refl _)
            have f2 := below_cellU e2 hb (Nat.le_refl _)
            have hblk4 : w2.heap.size < w4.heap.size := Nat.lt_of_lt_of_le hblk hb.size
            clear hb e0 e1 e2
            have hba := (Below.refl w4.heap.size w4).alloc (Nat.le_refl _) (.cells #[.string q1, .string q2, .string q3] 51)
            have HB4a := Lib.hid (HB4.out.trans (hba.mono HB4.out.size))
            have HO4a := Lib.hid (HO4.out.keep hba)
            have g0 := below_cellU f0 hba (Nat.le_refl _)
            have g1 := below_cellU f1 hba (Nat.le_refl _)
            have g2 := below_cellU f2 hba (Nat.le_refl _)
            clear hba
            obtain ⟨oa, ocap, hov⟩ := HO4.out.frame
            subst hov
            cases tw
            · obtain ⟨A, hA⟩ : ∃ A, Ro.allowed (a.data.toList, b.data.toList, d.data.toList) = A := ⟨_, rfl⟩
              have HAA := Eqq.mk hA
              clear hA
              go_wp2_with fail
              with_reducible refine (rallowed_any (a, b, d) _ (by dsimp only; omega) (by dsimp only; omega) (by dsimp only; omega)).mono ?_
              rw [show ruleL (a, b, d) = (a.data.toList, b.data.toList, d.data.toList) from rfl, HAA.out]
              rintro e w5 ⟨rfl, hb⟩
              have HB5 := Lib.hid (HB4a.out.trans (hb.mono HB4a.out.size))
              have HO5 := Lib.hid (HO4a.out.keep hb)
              have k0 := below_cellU g0 hb (Nat.le_refl _)
              have k1 := below_cellU g1 hb (Nat.le_refl _)
              have k2 := below_cellU g2 hb (Nat.le_refl _)
              clear hb g0 g1 g2 f0 f1 f2
              cases A
              · have HRR := Eqq.mk (HNO.out HSF.out (by rw [HST.out, HAA.out]; simp))
                go_wp2_with fail
                go_ret3
                exact ⟨⟨_, [], by rw [HRR.out]; rfl, by rw [HRR.out]; rfl, OwnR.nil _ _ _⟩, HB1.out.trans (HB5.out.mono HB1.out.size)⟩
              · by_cases h500 : 500 ≤ out.length
                · have i5 : (500 : Int) ≤ ((out.length : Nat) : Int) := by omega
                  have HRR := Eqq.mk (HNO.out HSF.out (by rw [HST.out, HAA.out, HBB.out, decide_eq_true (show 500 ≤ (rulesL out).length by unfold rulesL; rw [List.length_map]; exact h500)]; rfl))
                  clear h500
                  go_wp2_with fail
                  go_ret3
                  exact ⟨⟨_, [], by rw [HRR.out]; rfl, by rw [HRR.out]; rfl, OwnR.nil _ _ _⟩, HB1.out.trans (HB5.out.mono HB1.out.size)⟩
                · have i5 : ¬ (500 : Int) ≤ ((out.length : Nat) : Int) := by omega
                  have HE2 := Eqq.mk (HYE.out HSF.out _ (show Ro.lineStep xl (rulesL out) = some (rulesL (out ++ [(a, b, d)])) by
                    rw [HST.out, HAA.out, HBB.out, decide_eq_false (show ¬ 500 ≤ (rulesL out).length by unfold rulesL; rw [List.length_map]; exact h500), rulesL_snoc]
                    rfl))
                  have ho5 : out.length ≤ 499 := by omega
                  clear h500
                  go_wp2_with (at_builtin; refine wpList_append_rule Tryd.underlying26 infotaken_any _ rfl _ _ rfl w1.heap.size _ _ rfl (HO5.out.alloc _) (a, b, d) _ rfl (box3_0 _ _ _ _ _) (box3_1 _ _ _ _ _) (box3_2 _ _ _ _ _) (by omega) (by have := HB5.out.size; simp; omega) ?_)
                  intro v' w6 ho6 hg6
                  have HO6 := Lib.hid ho6
                  have HB6 := Lib.hid ((HB5.out.alloc HB5.out.size _).grown hg6 (by have := HB5.out.size; simp; omega) (fun j hj => (World.ownsRow.lt HO5.out j hj).1))
                  clear ho6 hg6
                  go_wp2_with fail
                  go_roundw
                  case rel => exact ⟨k + 1, out ++ [(a, b, d)], by omega, by go_num, HO6.out, HE2, by rw [List.length_append]; simp; omega, HB6.out⟩
                  case measure => simp [intOf]; omega
            · have HRR := Eqq.mk (HNO.out HSF.out (by rw [HST.out, HBB.out]; simp))
              go_wp2_with fail
              go_ret3
              exact ⟨⟨_, [], by rw [HRR.out]; rfl, by rw [HRR.out]; rfl, OwnR.nil _ _ _⟩, HB1.out.trans (HB4a.out.mono HB1.out.size)⟩
          | a :: b :: d :: f :: rest, hws =>
            have HRR := Eqq.mk (HNO.out HSF.out (Ro.step_nope (by unfold Ro.lineRule; rw [← hws]; rfl)))
            obtain ⟨m, hm⟩ : ∃ m, (a :: b :: d :: f :: rest).length = m := ⟨_, rfl⟩
            have hm4 : 4 ≤ m := by rw [← hm]; simp
            have h3 : (3 : Int) < (m : Int) := by omega
            have h2 : ¬ ((m : Int) < 2) := by omega
            rw [hm] at hpc ⊢
            clear hws hm
            go_wp2_with fail
            go_ret3
            exact ⟨⟨_, [], by rw [HRR.out]; rfl, by rw [HRR.out]; rfl, OwnR.nil _ _ _⟩, HB1.out.trans (HB2.out.mono HB1.out.size)⟩
    · obtain rfl : k = n := by omega
      have HRR := Eqq.mk (show R = (rulesL out, 0, 0) from Ro.go_end (L := L) (by rw [HLN.out]; exact HE.out))
      go_wp2_with fail
      go_ret3
      exact ⟨⟨_, out, by rw [HRR.out]; rfl, by rw [HRR.out], HO.out.low HB1.out.size⟩, HBW.out⟩
end Go.Proofs.YtbdekjfimojkbaaDoor
