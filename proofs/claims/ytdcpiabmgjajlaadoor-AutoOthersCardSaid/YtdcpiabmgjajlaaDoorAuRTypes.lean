/-
  henkanref06.Type by its contract: the least keys. The rules are allowed.
-/
import Derived.Test.YtdcpiabmgjajlaaDoorAuRType
import Derived.Test.YtdcpiabmgjajlaaDoorAuPType
import Derived.Test.YtdcpiabmgjajlaaDoorAuRStep
import Derived.Test.YtdcpiabmgjajlaaDoorUtfRunes
import Derived.Test.YtdcpiabmgjajlaaDoorAuLaws
import Derived.IntWalk
namespace Go.Proofs.YtdcpiabmgjajlaaDoor
open Go.RowKit
theorem enE_set : ∀ (xs : List Au.Ent) (i : Nat) (y : Au.Ent), i < xs.length → enE.cells (xs.set i y) = (((enE.cells xs).set (i * 3) (.int .i64 (y.1.1 : Int))).set (i * 3 + 1) (.string (ba y.1.2))).set (i * 3 + 2) (.string (ba y.2))
  | [], _, _, h => by simp at h
  | x :: xs, 0, y, _ => by
    rw [List.set_cons_zero, Enc.cells_cons, Enc.cells_cons]; rfl
  | x :: xs, i + 1, y, h => by
    have ih := enE_set xs i y (by simpa using h)
    rw [List.set_cons_succ, Enc.cells_cons, Enc.cells_cons, ih, show (i + 1) * 3 = i * 3 + 1 + 1 + 1 by omega]
    simp [enE]
theorem enE_put {B g cap : Nat} {T : TypeId} {xs : List Au.Ent} {w : World} (h : OwnG enE T B (.slice (some ⟨g, 0, none⟩) xs.length cap) xs w) (i : Nat) (hi : i < xs.length) (y : Au.Ent) :
    OwnG enE T B (.slice (some ⟨g, 0, none⟩) xs.length cap) (xs.set i y) (((w.setCell ⟨g, i * 3, none⟩ (.int .i64 (y.1.1 : Int))).setCell ⟨g, i * 3 + 1, none⟩ (.string (ba y.1.2))).setCell ⟨g, i * 3 + 2, none⟩ (.string (ba y.2))) := by
  have h1 := (World.ownsRow.stored h (i * 3) (.int .i64 (y.1.1 : Int))).1
  have h2 := (World.ownsRow.stored h1 (i * 3 + 1) (.string (ba y.1.2))).1
  have h3 := (World.ownsRow.stored h2 (i * 3 + 2) (.string (ba y.2))).1
  unfold OwnG
  rw [enE_set xs i y hi, List.length_set]
  exact h3
theorem Au.Head.out_len {l : List Ro.Rule} {s : List UInt8} {n : Nat} {old last : List Au.Ent} (hl : Ro.check l = 0) (h : Au.Head l s n old last) {x : Au.St} {k : List UInt8} (hx : (x, k) ∈ last) (c : UInt8) : (Au.step l x.2 c).1.length ≤ 16 * (n + 1) := by
  obtain ⟨h1, h2⟩ := (h.inv.sub x k).1 hx
  obtain ⟨_, _, h4⟩ := Au.reach_run hl s _ k x (Nat.le_refl _) (h.inv.best x k h1).1.1
  have := Au.run_len hl (k ++ [c])
  rw [Au.run_snoc hl, h4, List.length_append, List.length_append, List.length_singleton, h2] at this
  omega
theorem pre_cut {so d : List UInt8} (h : so.isPrefixOf d = true) : so.length ≤ d.length ∧ d.take so.length = so := by
  obtain ⟨t, rfl⟩ := List.isPrefixOf_iff_prefix.1 h
  exact ⟨by simp, by simp⟩
theorem cut_pre {so d : List UInt8} (h : d.take so.length = so) : so.isPrefixOf d = true := by
  rw [List.isPrefixOf_iff_prefix, ← h]
  exact List.take_prefix _ _
theorem conv_cut (c : UInt8) (g o cap : Nat) (W : World) (h : W.cell? ⟨g, o, none⟩ = some (.int .u8 (c.toNat : Int))) : (convert 47 9 (.slice (some ⟨g, o, none⟩) 1 cap)).run Tryd.prog W = .ok (.string (ba [c])) W :=
  run_convert_bytes_back W 47 9 5 ⟨g, o, none⟩ cap [c] Tryd.underlying47 Tryd.underlying5 Tryd.underlying9 (fun j hj => by
    obtain rfl : j = 0 := by simpa using hj
    rw [addr_add]
    exact h)
theorem upon_conv {P : Program} {T1 T2 : TypeId} {W : World} {o : Oper} {a : Act} {K : Act → World → Prop} {Q : Exit → Act → World → Prop} {x v : Value} (h : (convert T1 T2 x).run P W = .ok v W) (hK : K (a.put o.dst v) W) : Oper.upon P o a K Q (((convert T1 T2 x).run P W).andThen fun y w' => Result.ok (Next.value y) w') := by
  rw [h]
  exact hK
theorem wrap_add {a b c : Nat} (h : a + b = c) (hc : c ≤ 1000000000000) : wrap64 ((a : Int) + (b : Int)) = (c : Int) := by unfold wrap64; omega
theorem wrap_one {a c : Nat} (h : a + 1 = c) (hc : c ≤ 1000000000000) : wrap64 ((a : Int) + 1) = (c : Int) ∧ IntKind.i64.wrap ((a : Int) + 1) = (c : Int) := ⟨by unfold wrap64; omega, by rw [IntWalk.i64_in _ (by omega)]; omega⟩
theorem rcount_is (l : List UInt8) : (if Lib.validD l = true then ((UT.runes l).length : Int) else -1) = UT.countZ l := rfl
theorem lt_bytes (k m : List UInt8) : Op.bytesLess (ba k).toList (ba m).toList = decide (k < m) := by
  rw [bytesLess_eq, (is_ba m).list, (is_ba k).list]
theorem own_at {T : TypeId} {B i n : Nat} {ao : Option Addr} {cap : Nat} {xs : List Au.Ent} {w : World} {x : Au.Ent} (h : OwnG enE T B (.slice ao n cap) xs w) (hi : xs[i]? = some x) :
    ∃ g, ao = some ⟨g, 0, none⟩ ∧ ∀ (j : Nat) u, (enE.enc x)[j]? = some u → w.cell? ⟨g, i * 3 + j, none⟩ = some u ∧ w.frozen? ⟨g, i * 3 + j, none⟩ = false := by
  have hl := h.lie
  obtain ⟨h1, ⟨hv, hn⟩ | ⟨g, cap', cur, hv, hB, hg, hc, hm, hs, ht⟩⟩ := h
  · rw [List.eq_nil_of_length_eq_zero hn] at hi; simp at hi
  · injection hv with ha
    subst ha
    refine ⟨g, rfl, fun j u hu => ⟨?_, Lib.frozen_of_heap hg _⟩⟩
    have := hl.at i x hi j u hu
    rwa [Nat.zero_add] at this
set_option maxRecDepth 100000 in
set_option maxHeartbeats 8000000 in
theorem rtype_any (v : Value) (xs : List RuleB) (s : ByteArray) (l : List UInt8) (w : World) (hv : LieR v xs w) (hok : Ro.check (rulesL xs) = 0) (hn : xs.length ≤ 1000000) (hz : ∀ r ∈ xs, r.1.size ≤ 1000000000) (hs : Is s l) (hsz : s.size ≤ 17592186044416) :
    Calls Tryd.prog 27 #[v, .string s] w fun e w' => TypeA xs l e ∧ Below w.heap.size w w' := by
  have HS := Lib.hid hs
  have HV := Lib.hid hv
  have HOK := Eqq.mk hok
  have HZ := Lib.hid hz
  obtain ⟨z, hzz⟩ : ∃ z, UT.countZ l = z := ⟨_, rfl⟩
  have HZZ := Eqq.mk hzz
  by_cases h0 : z < 0
  · have hE := Lib.hid (show TypeA xs l (TypeE none) from ⟨fun _ => rfl, fun h => by rw [hzz] at h; omega⟩)
    clear hs hv hzz hok hz
    go_enter Tryd.func27, Tryd.ntmps27
    go_wp2_with fail
    with_reducible refine (count_any s l _ HS.out hsz).mono ?_
    rw [rcount_is, HZZ.out]
    rintro e w1 ⟨rfl, hb⟩
    have HB := Lib.hid hb
    clear hb
    go_wp2_with fail
    go_ret2
    exact ⟨hE.out, HB.out⟩
  by_cases h64 : 64 < z
  · have hE := Lib.hid (show TypeA xs l (TypeE none) from ⟨fun _ => rfl, fun _ h => by rw [hzz] at h; omega⟩)
    have h0' : ¬ (z < 0) := h0
    clear hs hv hzz hok hz
    go_enter Tryd.func27, Tryd.ntmps27
    go_wp2_with fail
    with_reducible refine (count_any s l _ HS.out hsz).mono ?_
    rw [rcount_is, HZZ.out]
    rintro e w1 ⟨rfl, hb⟩
    have HB := Lib.hid hb
    clear hb
    go_wp2_with fail
    go_ret2
    exact ⟨hE.out, HB.out⟩
  have hlen : l.length ≤ 256 := count_len (by rw [hzz]; omega) (by rw [hzz]; omega)
  have hsz2 : s.size ≤ 256 := by rw [hs.size]; exact hlen
  have HLN := Eqq.mk (show l.length = s.size by rw [hs.size])
  have HANS := Lib.hid (show ∀ r, Au.TypeRes (rulesL xs) l r → TypeA xs l (TypeE r) from fun r hr => ⟨fun h => by rw [hzz] at h; omega, fun _ _ => ⟨r, hr, rfl⟩⟩)
  obtain ⟨cs, hcs⟩ : ∃ cs, Au.keysFrom (l ++ Au.bytesOf (rulesL xs)) 94 = cs := ⟨_, rfl⟩
  have HCS := Eqq.mk hcs
  have hcl : cs.length ≤ 94 := by rw [← hcs]; exact Au.keysFrom_len _ _
  have HTR := Lib.hid (show Au.Tries (rulesL xs) l (fun _ => cs) by have := Au.used_tries hok l; rw [hcs] at this; exact this)
  have HGO := Eqq.mk (show Au.goal l = (s.size, []) by unfold Au.goal; rw [HLN.out])
  obtain ⟨aov, capv, rfl, hcapv, -⟩ := hv
  clear hs hzz hok hz hcs hsz
  go_enter Tryd.func27, Tryd.ntmps27
  go_wp2_with fail
  with_reducible refine (count_any s l _ HS.out (by omega)).mono ?_
  rw [rcount_is, HZZ.out]
  rintro e w1 ⟨rfl, hb⟩
  have HB1 := Lib.hid hb
  clear hb
  go_wp2_with fail
  with_reducible refine (used_any _ xs s l w1 (HV.out.keep HB1.out) (by omega) HZ.out HS.out (by omega)).mono ?_
  rw [HCS.out]
  rintro e w2 ⟨⟨u, b1, rfl, hu⟩, hb⟩
  have HB2 := Lib.hid (HB1.out.trans (hb.mono HB1.out.size))
  have HU := Lib.hid hu
  obtain ⟨aou, capu, rfl⟩ := hu.frame
  clear hu hb
  obtain ⟨G, hG⟩ : ∃ G, w2.heap.size = G := ⟨_, rfl⟩
  have HGG := Eqq.mk hG
  have HO0 := Lib.hid (show OwnG enE 80 G (.slice (some ⟨w2.heap.size, 0, none⟩) 1 1) [(((0, []) : Au.St), [])] (w2.alloc (.cells #[.int .i64 0, .string ⟨#[]⟩, .string ⟨#[]⟩] 80)) from
    World.ownsRow_lit w2 #[.int .i64 0, .string ⟨#[]⟩, .string ⟨#[]⟩] 1 (by omega) (by unfold maxLen; omega) rfl)
  have HB3 := Lib.hid (show Below G w2 (w2.alloc (.cells #[.int .i64 0, .string ⟨#[]⟩, .string ⟨#[]⟩] 80)) from (Below.refl G w2).alloc (by omega) _)
  rw [hG] at HO0
  have hll : l.length ≤ 400 := by omega
  go_wp2_with fail
  try rw [hG]
  clear hG
  go_loopg [8, 9] 1900000 (fun g ov lv wr => ∃ (n : Nat) (old last : List Au.Ent), Au.Head (rulesL xs) l n old last ∧ OwnG enE 80 G ov old wr ∧ LieG enE lv last wr ∧ Below G w2 wr ∧ 2 * (900000 - old.length) + (if last = [] then 0 else 1) ≤ g)
  case atStart => exact ⟨0, _, _, Au.Head.start _ _, HO0.out, HO0.out.lie, HB3.out, by decide⟩
  case round =>
    obtain ⟨n, old, last, hh, ho, hl, hb, hg⟩ := hrel
    have HH := Lib.hid hh
    have HO := Lib.hid ho
    have HL := Lib.hid hl
    have HB := Lib.hid hb
    obtain ⟨bd1, bd2, bd3⟩ := hh.bound HOK.out hll
    obtain ⟨aoo, capo, rfl⟩ := ho.frame
    obtain ⟨aol, capl, rfl, hcapl, _, _, hlx⟩ := hl
    have HLX := Lib.hid hlx
    clear hh ho hb hlx
    by_cases hz : last = []
    · subst hz
      have HE := Lib.hid (HANS.out none HH.out.empty)
      go_wp2_with fail
      go_ret2
      exact ⟨HE.out, HB2.out.trans (HB.out.mono (by have := HB2.out.size; have := HGG.out; omega))⟩
    · have hlen0 : 0 < last.length := List.length_pos_iff.2 hz
      have hl0 : (0 : Int) < (last.length : Int) := by omega
      rw [if_neg hz] at hg
      have HHZ := Lib.hid hz
      clear hz
      go_wp2_with fail
      with_reducible refine (where_any _ last s.size [] (s.size : Int) rfl ⟨#[]⟩ ⟨#[]⟩ (Is.mk []) _ HL.out (by omega)).mono ?_
      rintro e w4 ⟨hw, hb⟩
      rw [← HGO.out] at hw
      have HB4 := Lib.hid (HB.out.trans (hb.mono (by have := HB.out.size; have := HGG.out; omega)))
      have HO4 := Lib.hid (HO.out.keep hb)
      have HL4 := Lib.hid (HL.out.keep hb)
      have HLX4 := Lib.hid hb
      clear hb
      rcases hw with ⟨hno, rfl⟩ | ⟨i, k, hik, _, hlk, rfl⟩
      · have HNO := Eqq.mk (show Au.lookS old (Au.goal l) = none by rw [← HH.out.last_goal]; exact hno)
        obtain ⟨M, hM⟩ : ∃ M, w4.heap.size = M := ⟨_, rfl⟩
        have HMM := Eqq.mk hM
        have hGM : G ≤ M := by have := HB4.out.size; have := HGG.out; omega
        have HB0 := Lib.hid (show Below M w4 w4 from Below.refl _ _)
        have HU4 := Lib.hid (HU.out.below HB4.out (by have := HGG.out; omega))
        have HV4 := Lib.hid (HV.out.keep (HB2.out.trans (HB4.out.mono (by have := HB2.out.size; have := HGG.out; omega))))
        clear hno hM
        go_wp2_with fail
        go_loopw [11, 12] (fun nv iv wr => ∃ (i : Nat) (R : List Au.Ent), i ≤ last.length ∧ iv = .int .i64 i ∧ R = Au.insAll [] (Au.roundC (rulesL xs) l (fun _ => cs) (old.map (·.1)) (last.take i)) ∧ R.length ≤ i * 94 ∧ OwnG enE 80 M nv R wr ∧ Below M w4 wr) (fun _ iv _ => last.length - (intOf iv).toNat)
        case atStart => exact ⟨0, [], Nat.zero_le _, rfl, rfl, Nat.zero_le _, OwnG.nil _ _ _, HB0.out⟩
        case round =>
          obtain ⟨i, R, hi, rfl, hR, hRl, ho, hb⟩ := hrel
          have HRE := Eqq.mk hR
          have HRO := Lib.hid ho
          have HBR := Lib.hid hb
          obtain ⟨aor, capr, rfl⟩ := ho.frame
          clear hR ho hb
          by_cases hil : i < last.length
          · obtain ⟨⟨⟨x1, x2⟩, kx⟩, hx⟩ : ∃ e, last[i]? = some e := ⟨_, List.getElem?_eq_getElem hil⟩
            have HX := Eqq.mk hx
            obtain ⟨f1, f2, f3, f4, f5⟩ := HH.out.ent HOK.out (List.mem_of_getElem? hx)
            dsimp only at f1 f2 f4
            have HRT := Eqq.mk (Au.roundC_take (rulesL xs) l (fun _ => cs) (old.map (·.1)) last i (x1, x2) kx hx)
            have HRT2 := Eqq.mk (show Au.insAll [] (Au.roundC (rulesL xs) l (fun _ => cs) (old.map (·.1)) (last.take (i + 1))) = Au.insAll R (Au.cands (rulesL xs) l (old.map (·.1)) (x1, x2) kx cs) by
              rw [HRT.out, Au.insAll_app, ← HRE.out])
            obtain ⟨gx, ox, hao, hc⟩ := HLX.out i _ hx
            subst hao
            have HC0 := Lib.hid (show w4.cell? ⟨gx, ox + i * 3, none⟩ = some (.int .i64 (x1 : Int)) from below_cellU (by have h := hc 0 _ rfl; exact h) HLX4.out (Nat.le_refl _))
            have HC1 := Lib.hid (show w4.cell? ⟨gx, ox + i * 3 + 1, none⟩ = some (.string (ba x2)) from below_cellU (by have h := hc 1 _ rfl; exact h) HLX4.out (Nat.le_refl _))
            have HC2 := Lib.hid (show w4.cell? ⟨gx, ox + i * 3 + 2, none⟩ = some (.string (ba kx)) from below_cellU (by have h := hc 2 _ rfl; exact h) HLX4.out (Nat.le_refl _))
            have HP2 := Lib.hid (is_ba x2)
            have HK2 := Lib.hid (is_ba kx)
            have hpz : (ba x2).size ≤ 4 := by rw [ba_size]; exact f4
            have hkz : (ba kx).size = n := by rw [ba_size]; exact f1
            obtain ⟨p0, hp0⟩ : ∃ p0, ba x2 = p0 := ⟨_, rfl⟩
            obtain ⟨k0, hk0⟩ : ∃ k0, ba kx = k0 := ⟨_, rfl⟩
            rw [hp0] at HC1 HP2 hpz
            rw [hk0] at HC2 HK2 hkz
            have HKE := Eqq.mk hk0
            have g1 : (i : Int) < (last.length : Int) := by omega
            have g2 : (0 : Int) ≤ (i : Int) := by omega
            clear hx hc f3 f5 hp0 hk0
            go_wp2_with fail
            go_loopw [11, 13] (fun nv jv wr => ∃ (j : Nat) (R2 : List Au.Ent), j ≤ cs.length ∧ jv = .int .i64 j ∧ R2 = Au.insAll R (Au.cands (rulesL xs) l (old.map (·.1)) (x1, x2) kx (cs.take j)) ∧ R2.length ≤ i * 94 + j ∧ OwnG enE 80 M nv R2 wr ∧ Below M w4 wr) (fun _ jv _ => cs.length - (intOf jv).toNat)
            case atStart => exact ⟨0, R, Nat.zero_le _, rfl, rfl, by omega, HRO.out, HBR.out⟩
            case round =>
              obtain ⟨j, R2, hj, rfl, hR2, hRl2, ho, hb⟩ := hrel
              have HRE2 := Eqq.mk hR2
              have HO2 := Lib.hid ho
              have HBo := Lib.hid hb
              have c0 := below_cellU HC0.out hb (by have := HMM.out; omega)
              have c1 := below_cellU HC1.out hb (by have := HMM.out; omega)
              have c2 := below_cellU HC2.out hb (by have := HMM.out; omega)
              obtain ⟨aor2, capr2, rfl⟩ := ho.frame
              clear hR2 ho hb
              by_cases hjl : j < cs.length
              · obtain ⟨c, hc⟩ : ∃ c, cs[j]? = some c := ⟨_, List.getElem?_eq_getElem hjl⟩
                obtain ⟨_, _, hv, _, _, _, hcx⟩ := HU4.out.lie
                obtain ⟨gc, oc, ha0, hcc⟩ := hcx j c hc
                injection hv with hv hv2 hv3
                clear hv2 hv3
                rw [← hv] at ha0
                subst ha0
                have HE0 := Lib.hid (show w4.cell? ⟨gc, oc + j, none⟩ = some (.int .u8 (c.toNat : Int)) from by
                  have h := hcc 0 _ rfl
                  rw [show oc + j * byteE.k + 0 = oc + j by show oc + j * 1 + 0 = _; omega] at h
                  exact h)
                have HCT := Eqq.mk (Au.cands_take (rulesL xs) l old (x1, x2) kx cs j c hc)
                obtain ⟨⟨so, sr⟩, hst⟩ : ∃ p, Au.step (rulesL xs) x2 c = p := ⟨_, rfl⟩
                have HST := Eqq.mk hst
                have HWM := Lib.hid (fun (W : World) (hW : Below wr.heap.size wr W) => (show Below M w4 W from HBo.out.trans (hW.mono (by have := HBo.out.size; have := HMM.out; omega))))
                have HKP := Lib.hid (fun (W : World) (hW : Below wr.heap.size wr W) => (show (W.cell? ⟨gx, ox + i * 3 + 1, none⟩ = some (.string p0) ∧ W.cell? ⟨gc, oc + j, none⟩ = some (.int .u8 (c.toNat : Int))) ∧ Below wr.heap.size wr W from ⟨⟨below_cellU HC1.out (HWM.out W hW) (by have := HMM.out; omega), below_cellU HE0.out (HWM.out W hW) (by have := HMM.out; omega)⟩, hW⟩))
                have e0 := (HKP.out _ (Below.refl _ _)).1.2
                have g3 : (j : Int) < (cs.length : Int) := by omega
                have g4 : (0 : Int) ≤ (j : Int) := by omega
                have hol := HH.out.out_len HOK.out (List.mem_of_getElem? HX.out) c
                dsimp only at hol
                rw [hst] at hol
                dsimp only at hol
                have HQ := Lib.hid (is_ba so)
                have HR0 := Lib.hid (is_ba sr)
                have hqz : (ba so).size = so.length := ba_size so
                obtain ⟨q0, hq0⟩ : ∃ q0, ba so = q0 := ⟨_, rfl⟩
                obtain ⟨r0, hr0⟩ : ∃ r0, ba sr = r0 := ⟨_, rfl⟩
                have HTV := Eqq.mk (show TwoV (so, sr) = .returned (.tuple #[.string q0, .string r0]) by unfold TwoV; rw [hq0, hr0])
                have HRE0 := Eqq.mk hr0
                rw [hq0] at HQ hqz
                rw [hr0] at HR0
                have HQZ := Eqq.mk hqz
                clear hc hv hcx hcc hst hq0 hr0 hqz
                go_wp2_with fail
                go_region_held3 (fun W => (W.cell? ⟨gx, ox + i * 3 + 1, none⟩ = some (.string p0) ∧ W.cell? ⟨gc, oc + j, none⟩ = some (.int .u8 (c.toNat : Int))) ∧ Below wr.heap.size wr W)
                  (first | exact HKP.out _ (Below.refl _ _) | exact HKP.out _ (Below.refl _ _).drew | exact HKP.out _ HB7.out | exact HKP.out _ HB7.out.drew)
                  (first
                   | (go_at_call 22; (with_reducible refine (rstep_any p0 x2 c _ rfl _ xs _ HP2.out (HV4.out.below HBo.out.drew (by have := HMM.out; omega)) HOK.out (by omega) (by omega)).mono ?_); rw [HST.out, HTV.out]; rintro e w7 ⟨he, hb⟩; subst he; have HB7 := Lib.hid ((Below.refl wr.heap.size wr).drew.trans (show Below wr.heap.size wr.drew w7 from hb)); clear hb))
                rename_i hHeld
                have HB8 := Lib.hid hHeld.2
                have HO8 := Lib.hid (HO2.out.keep hHeld.2)
                have HBM8 := Lib.hid (HWM.out _ hHeld.2)
                have d0 := below_cellU HC0.out HBM8.out (by have := HMM.out; omega)
                have d2 := below_cellU HC2.out HBM8.out (by have := HMM.out; omega)
                have de := below_cellU HE0.out HBM8.out (by have := HMM.out; omega)
                have HCJ0 := Eqq.mk (show Au.succ (rulesL xs) l (x1, x2) c = if so.isPrefixOf (l.drop x1) = true then some (x1 + so.length, sr) else none by unfold Au.succ; dsimp only; rw [HST.out])
                clear hHeld HB7 c0 c1 c2 e0
                obtain ⟨tt, hto⟩ : ∃ tt, x1 + so.length = tt := ⟨_, rfl⟩
                have hxs : x1 ≤ s.size := by rw [← HLN.out]; exact f2
                have HTZ : Eqq (wrap64 ((x1 : Int) + (q0.size : Int))) (tt : Int) := Eqq.mk <| wrap_add (by rw [HQZ.out]; exact hto) (by omega)
                by_cases hgt : s.size < tt
                · have hno : Au.succ (rulesL xs) l (x1, x2) c = none := by
                    rw [HCJ0.out, if_neg (fun h => by have := (pre_cut h).1; rw [List.length_drop, HLN.out] at this; omega)]
                  have HCJ := Eqq.mk (show Au.insAll R (Au.cands (rulesL xs) l (old.map (·.1)) (x1, x2) kx (cs.take (j + 1))) = R2 by rw [HCT.out, one_none hno, HRE2.out]; dsimp only; rw [List.append_nil])
                  have h9 : (s.size : Int) < (tt : Int) := by omega
                  clear hno hto
                  have htz := HTZ.out
                  go_wp2_with fail
                  clear htz
                  go_roundw
                  case rel => exact ⟨j + 1, R2, by omega, by go_num, HCJ.out.symm, by omega, HO8.out, HBM8.out⟩
                  case measure => simp [intOf]; omega
                · have hle : tt ≤ s.size := by omega
                  have HTL := Lib.hid (HS.out.parts x1 tt)
                  rw [show tt - x1 = so.length by omega] at HTL
                  obtain ⟨t, ht⟩ : ∃ t, s.extract x1 tt = t := ⟨_, rfl⟩
                  rw [ht] at HTL
                  have h9 : ¬ (s.size : Int) < (tt : Int) := by omega
                  have i1 : (x1 : Int) ≤ (tt : Int) := by omega
                  have i2 : (tt : Int) ≤ (s.size : Int) := by omega
                  have i3 : (0 : Int) ≤ (x1 : Int) := by omega
                  by_cases hpf : so.isPrefixOf (l.drop x1) = true
                  · have htq : t = q0 := HTL.out.eq (by rw [(pre_cut hpf).2]; exact HQ.out)
                    subst htq
                    have HSY := Eqq.mk (show Au.succ (rulesL xs) l (x1, x2) c = some (tt, sr) by rw [HCJ0.out, if_pos hpf, hto])
                    have hcu : cs.length ≤ capu := by
                      obtain ⟨ao9, cap9, he9, hl9, _⟩ := HU4.out.lie
                      injection he9 with _ _ he9
                      rw [he9]; exact hl9
                    obtain ⟨J, hJ⟩ : ∃ J, j + 1 = J := ⟨_, rfl⟩
                    have HJ := Eqq.mk hJ
                    have i4 : (J : Int) ≤ (capu : Int) := by omega
                    have i5 : (j : Int) ≤ (J : Int) := by omega
                    have HI6 := Lib.hid (wrap_one hJ (by omega))
                    have i71 : ¬ capu = j := by omega
                    have i72 : ¬ capu - j = 0 := by omega
                    have i73 : ¬ (capu : Int) = (j : Int) := by omega
                    have i7 : J - j = 1 := by omega
                    have i8 : ((J : Int) - (j : Int)) = 1 := by omega
                    clear hJ
                    clear hpf hto
                    have htz := HTZ.out
                    go_upto_region 21 with fail
                    clear htz
                    rw [HTZ.out]
                    have HCV := Lib.hid (fun (W : World) (hW : W.cell? ⟨gc, oc + j, none⟩ = some (.int .u8 (c.toNat : Int))) => conv_cut c gc (oc + j) (capu - j) W hW)
                    have hK1 : k0 ++ ba [c] = ba (kx ++ [c]) := by rw [← HKE.out]; exact ba_app kx [c]
                    obtain ⟨c1, hc1⟩ : ∃ c1, ba [c] = c1 := ⟨_, rfl⟩
                    obtain ⟨k1, hk1⟩ : ∃ k1, ba (kx ++ [c]) = k1 := ⟨_, rfl⟩
                    have HKK := Eqq.mk hk1
                    have hc1z : c1.size = 1 := by rw [← hc1]; rfl
                    have hkz2 : ¬ 9223372036854775807 < k0.size + c1.size := by omega
                    rw [hc1] at HCV hK1
                    rw [hk1] at hK1
                    obtain ⟨w8, hw8⟩ : ∃ w8, w7 = w8 := ⟨_, rfl⟩
                    rw [hw8] at HB8 HO8 HBM8 d0 d2 de ⊢
                    have HDE := Lib.hid de
                    have HCB := Lib.hid (fun (W : World) (hW : Below w8.heap.size w8 W) => HCV.out W (below_cellU HDE.out hW (Nat.le_refl _)))
                    have HD2 := Lib.hid d2
                    have HKP8 := Lib.hid (fun (W : World) (hW : Below w8.heap.size w8 W) => (show (W.cell? ⟨gx, ox + i * 3 + 2, none⟩ = some (.string k0) ∧ (convert 47 9 (.slice (some ⟨gc, oc + j, none⟩) 1 (capu - j))).run Tryd.prog W = .ok (.string c1) W) ∧ Below w8.heap.size w8 W from ⟨⟨below_cellU HD2.out hW (Nat.le_refl _), HCB.out _ hW⟩, hW⟩))
                    clear hw8 hc1 hk1 d0 d2 de hc1z hkz
                    go_cut [17] from 98 to 112 (fun pv wx => ∃ b, pv = .pointer (some ⟨b, 0, none⟩) ∧ w8.heap.size ≤ b ∧ (wx.cell? ⟨b, 0, none⟩ = some (.int .i64 (tt : Int)) ∧ wx.cell? ⟨b, 1, none⟩ = some (.string r0) ∧ wx.cell? ⟨b, 2, none⟩ = some (.string k1)) ∧ Below w8.heap.size w8 wx)
                    case first =>
                      obtain ⟨i6, i9⟩ := HI6.out
                      go_region_held3 (fun W => (W.cell? ⟨gx, ox + i * 3 + 2, none⟩ = some (.string k0) ∧ (convert 47 9 (.slice (some ⟨gc, oc + j, none⟩) 1 (capu - j))).run Tryd.prog W = .ok (.string c1) W) ∧ Below w8.heap.size w8 W)
                        (first | exact HKP8.out _ (Below.refl _ _) | exact HKP8.out _ (Below.refl _ _).drew | exact HKP8.out _ ((Below.refl _ _).drew.alloc (Nat.le_refl _) _) | exact HKP8.out _ (((Below.refl _ _).alloc (Nat.le_refl _) _).drew) | go_keep)
                        (fail)
                      rename_i hHeld
                      have HDD := Lib.hid hHeld.2
                      clear hHeld
                      go_wp2_with fail
                      go_meet
                      case rel => exact ⟨_, rfl, Nat.le_refl _, ⟨box3_0 _ _ _ _ _, box3_1 _ _ _ _ _, box3_2 _ _ _ _ _⟩, HDD.out⟩
                    case rest =>
                      obtain ⟨bx, rfl, hbx, ⟨y0, y1, y2⟩, hbl⟩ := hcut
                      have HBX := Lib.hid hbl
                      have HO9 := Lib.hid (HO8.out.keep hbl)
                      have HBM9 := Lib.hid (HBM8.out.trans (hbl.mono (by have := HBM8.out.size; have := HMM.out; omega)))
                      have HO9o := Lib.hid (HO4.out.below HBM9.out (by have := HMM.out; omega))
                      have Y0 := Lib.hid y0
                      have Y1 := Lib.hid y1
                      have Y2 := Lib.hid y2
                      clear hbl
                      go_wp2_with fail
                      with_reducible refine (where_any _ old tt sr (tt : Int) rfl r0 k1 HR0.out _ HO9o.out.lie (by omega)).mono ?_
                      rintro e w10 ⟨hw, hb⟩
                      have HB10 := Lib.hid hb
                      have HBM10 := Lib.hid (HBM9.out.trans (hb.mono (by have := HBM9.out.size; have := HMM.out; omega)))
                      have HO10 := Lib.hid (HO9.out.keep hb)
                      have z0 := below_cellU Y0.out hb (Nat.le_refl _)
                      have z1 := below_cellU Y1.out hb (Nat.le_refl _)
                      have z2 := below_cellU Y2.out hb (Nat.le_refl _)
                      have Z0 := Lib.hid z0
                      have Z1 := Lib.hid z1
                      have Z2 := Lib.hid z2
                      clear hb y0 y1 y2
                      rcases hw with ⟨hno, rfl⟩ | ⟨ii, kk, hik, _, hlk, rfl⟩
                      · have HCJ := Eqq.mk (show Au.insAll R (Au.cands (rulesL xs) l (old.map (·.1)) (x1, x2) kx (cs.take (j + 1))) = Au.ins R2 (tt, sr) (kx ++ [c]) by rw [HCT.out, one_new HSY.out hno, HRE2.out, Au.insAll_app]; rfl)
                        clear hno
                        go_wp2_with fail
                        with_reducible refine (where_any _ R2 tt sr (tt : Int) rfl r0 k1 HR0.out _ HO10.out.lie (by omega)).mono ?_
                        rintro e w11 ⟨hw, hb⟩
                        have HBM11 := Lib.hid (HBM10.out.trans (hb.mono (by have := HBM10.out.size; have := HMM.out; omega)))
                        have HO11 := Lib.hid (HO10.out.keep hb)
                        have q0' := below_cellU Z0.out hb (Nat.le_refl _)
                        have q1' := below_cellU Z1.out hb (Nat.le_refl _)
                        have q2' := below_cellU Z2.out hb (Nat.le_refl _)
                        clear hb z0 z1 z2
                        rcases hw with ⟨hno, rfl⟩ | ⟨ii, kk, hik, hfi, hlk, rfl⟩
                        · have HRR := Eqq.mk (show Au.ins R2 (tt, sr) (kx ++ [c]) = R2 ++ [((tt, sr), kx ++ [c])] from Au.ins_absent hno)
                          clear hno
                          have HO12 := Lib.hid (HO11.out.alloc (.cells #[.int .i64 (tt : Int), .string r0, .string k1] 80))
                          go_wp2_with (at_builtin; refine wpList_append_g enApp _ rfl _ _ rfl M _ R2 rfl HO12.out _ [((tt, sr), kx ++ [c])] rfl (SrcG.one (fun jj u hu => by
                            have hu' : ([.int .i64 (tt : Int), .string (ba sr), .string (ba (kx ++ [c]))] : List Value)[jj]? = some u := hu
                            rw [HRE0.out, HKK.out] at hu'
                            exact new_cells w11 _ _ jj u hu')) (by unfold maxLen; simp only [List.length_singleton]; omega) (by show (R2.length + 1) * 40 ≤ _; omega) (by have := HBM11.out.size; have := HMM.out; simp only [World.size_alloc]; omega) ?_)
                          intro v' w' ho' hg'
                          have HO13 := Lib.hid ho'
                          have HBM13 := Lib.hid ((HBM11.out.alloc (by have := HBM11.out.size; have := HMM.out; omega) (.cells #[.int .i64 (tt : Int), .string r0, .string k1] 80)).grown hg' (by have := HBM11.out.size; have := HMM.out; simp only [World.size_alloc]; omega) (fun b hb => (HO12.out.block_lt b hb).1))
                          obtain ⟨ao9, cap9, hv9⟩ := ho'.frame
                          rw [List.length_append, List.length_singleton] at hv9
                          subst hv9
                          clear ho' hg'
                          go_wp2_with fail
                          go_roundw
                          case rel => exact ⟨j + 1, _, by omega, by go_num, HCJ.out.symm, by rw [HRR.out, List.length_append, List.length_singleton]; omega, by rw [HRR.out]; exact HO13.out, HBM13.out⟩
                          case measure => simp [intOf]; omega
                        · obtain ⟨gn, hv, hgn⟩ := own_at HO11.out hik
                          subst hv
                          have HE3 := Lib.hid (hgn)
                          have hlt := lt_bytes (kx ++ [c]) kk
                          rw [HKK.out] at hlt
                          have e0 := (hgn 0 _ rfl).1
                          rw [Nat.add_zero] at e0
                          have e1 := (hgn 1 _ rfl).1
                          have e2 := (hgn 2 _ rfl).1
                          have f0 := (hgn 0 _ rfl).2
                          rw [Nat.add_zero] at f0
                          have f1 := (hgn 1 _ rfl).2
                          have f2 := (hgn 2 _ rfl).2
                          have hiR : ii < R2.length := by
                            rcases Nat.lt_or_ge ii R2.length with h' | h'
                            · exact h'
                            · rw [List.getElem?_eq_none h'] at hik; cases hik
                          have g7 : (0 : Int) ≤ (ii : Int) := by omega
                          have g8 : (ii : Int) < (R2.length : Int) := by omega
                          have HIK := Lib.hid hik
                          have HFI := Lib.hid hfi
                          clear hgn hik hfi
                          obtain ⟨D, hD⟩ : ∃ D, decide (kx ++ [c] < kk) = D := ⟨_, rfl⟩
                          rw [hD] at hlt
                          obtain ⟨m0, hm0⟩ : ∃ m0, ba kk = m0 := ⟨_, rfl⟩
                          rw [hm0] at hlt e2
                          clear hm0
                          cases D with
                          | false =>
                            have HCJ2 := Eqq.mk (show Au.insAll R (Au.cands (rulesL xs) l (old.map (·.1)) (x1, x2) kx (cs.take (j + 1))) = R2 by
                              rw [HCJ.out, Au.ins_kept hlk (by rw [decide_eq_false_iff_not] at hD; exact hD)])
                            clear hlk hD
                            go_wp2_with fail
                            go_quiet (fail)
                            go_wp2_with fail
                            go_roundw
                            case rel => exact ⟨j + 1, R2, by omega, by go_num, HCJ2.out.symm, by omega, HO11.out, bel_dn HBM11.out _⟩
                            case measure => simp [intOf]; omega
                          | true =>
                            have HCJ2 := Eqq.mk (show Au.insAll R (Au.cands (rulesL xs) l (old.map (·.1)) (x1, x2) kx (cs.take (j + 1))) = R2.set ii ((tt, sr), kx ++ [c]) by
                              rw [HCJ.out, Au.ins_set HIK.out HFI.out (by rw [decide_eq_true_iff] at hD; exact hD)])
                            clear hlk hD
                            go_wp2_with fail
                            go_quiet (fail)
                            go_wp2_with fail
                            have hput := enE_put (HO11.out.drewN nq) ii hiR ((tt, sr), kx ++ [c])
                            dsimp only at hput
                            rw [HRE0.out, HKK.out] at hput
                            have hgM := (HO11.out.block_lt gn rfl).1
                            have HPUT := Lib.hid hput
                            have HBP := Lib.hid ((((bel_dn HBM11.out nq).setCell (p := ⟨gn, ii * 3, none⟩) hgM (.int .i64 (tt : Int))).setCell (p := ⟨gn, ii * 3 + 1, none⟩) hgM (.string r0)).setCell (p := ⟨gn, ii * 3 + 2, none⟩) hgM (.string k1))
                            clear hput
                            go_roundw
                            case rel => exact ⟨j + 1, _, by omega, by go_num, HCJ2.out.symm, by rw [List.length_set]; omega, HPUT.out, HBP.out⟩
                            case measure => simp [intOf]; omega
                      · have HCJ := Eqq.mk (show Au.insAll R (Au.cands (rulesL xs) l (old.map (·.1)) (x1, x2) kx (cs.take (j + 1))) = R2 by rw [HCT.out, one_old HSY.out hlk, HRE2.out]; dsimp only; rw [List.append_nil])
                        clear hik hlk
                        go_wp2_with fail
                        go_roundw
                        case rel => exact ⟨j + 1, R2, by omega, by go_num, HCJ.out.symm, by omega, HO10.out, HBM10.out⟩
                        case measure => simp [intOf]; omega
                  · have hno : Au.succ (rulesL xs) l (x1, x2) c = none := by rw [HCJ0.out, if_neg hpf]
                    have HCJ := Eqq.mk (show Au.insAll R (Au.cands (rulesL xs) l (old.map (·.1)) (x1, x2) kx (cs.take (j + 1))) = R2 by rw [HCT.out, one_none hno, HRE2.out]; dsimp only; rw [List.append_nil])
                    have htq : ¬ t.toList = q0.toList := by
                      rw [HTL.out.list, HQ.out.list]
                      exact fun h => hpf (cut_pre h)
                    have htq2 : (t.toList == q0.toList) = false := by rw [beq_eq_false_iff_ne]; exact htq
                    clear hno hpf hto
                    have htz := HTZ.out
                    go_wp2_with fail
                    clear htz
                    go_roundw
                    case rel => exact ⟨j + 1, R2, by omega, by go_num, HCJ.out.symm, by omega, HO8.out, HBM8.out⟩
                    case measure => simp [intOf]; omega
              · obtain rfl : j = cs.length := by omega
                have HRF := Eqq.mk (show R2 = Au.insAll [] (Au.roundC (rulesL xs) l (fun _ => cs) (old.map (·.1)) (last.take (i + 1))) by rw [HRT2.out, HRE2.out, List.take_length])
                go_wp2_with fail
                go_roundw
                case rel => exact ⟨i + 1, R2, by omega, by go_num, HRF.out, by omega, HO2.out, HBo.out⟩
                case measure => simp [intOf]; omega
          · obtain rfl : i = last.length := by omega
            have HRE3 := Eqq.mk (show R = Au.insAll [] (Au.roundC (rulesL xs) l (fun _ => cs) (old.map (·.1)) last) by rw [HRE.out, List.take_length])
            have HNH := Lib.hid (HH.out.next HTR.out HNO.out HHZ.out HRE3.out)
            have HO5 := Lib.hid (HO4.out.below HBR.out (by have := HMM.out; omega))
            have HSR := Lib.hid (HRO.out.lie.src)
            have hbd := (HNH.out.bound HOK.out hll).1
            rw [List.length_append] at hbd
            have hwr : G ≤ wr.heap.size := by have := HBR.out.size; have := HMM.out; omega
            go_wp2_with (at_builtin; refine wpList_append_g enApp _ rfl _ _ rfl G _ old rfl HO5.out _ R rfl HSR.out (by unfold maxLen; omega) (by show (old.length + R.length) * 40 ≤ _; omega) hwr ?_)
            intro v' w' ho' hg'
            have HO6 := Lib.hid ho'
            have HL6 := Lib.hid ((HRO.out.grown hg' (fun b hb e => by have h1 := (HRO.out.block_lt b hb).1; have h2 := (HO4.out.block_lt b e.symm).2; have h3 := HMM.out; omega)).lie)
            have HB6 := Lib.hid ((HB4.out.trans (HBR.out.mono (by omega))).grown hg' hwr (fun b hb => (HO5.out.block_lt b hb).1))
            obtain ⟨ao6, cap6, hv6⟩ := ho'.frame
            rw [List.length_append] at hv6
            subst hv6
            clear ho' hg'
            go_wp2_with fail
            go_roundg (2 * (900000 - (old ++ R).length) + (if R = [] then 0 else 1))
            case rel => exact ⟨n + 1, _, _, HNH.out, HO6.out, HL6.out, HB6.out, Nat.le_refl _⟩
            case measure =>
              rw [List.length_append]
              by_cases hR : R = []
              · rw [if_pos hR, hR]; simp; omega
              · rw [if_neg hR]
                have := List.length_pos_iff.2 hR
                omega
      · have HE := Lib.hid (HANS.out (some k) (HH.out.found (by rw [← HH.out.last_goal]; exact hlk)))
        have hil : i < last.length := by
          rcases Nat.lt_or_ge i last.length with h' | h'
          · exact h'
          · rw [List.getElem?_eq_none h'] at hik; cases hik
        obtain ⟨g4, o4, rfl, hc⟩ := HLX.out i _ hik
        have c2 : w4.cell? ⟨g4, o4 + i * 3 + 2, none⟩ = some (.string (ba k)) := below_cellU (by have h := hc 2 _ rfl; exact h) HLX4.out (Nat.le_refl _)
        have g1 : (i : Int) < (last.length : Int) := by omega
        have g2 : (0 : Int) ≤ (i : Int) := by omega
        clear hik hlk hc
        go_wp2_with fail
        go_ret2
        exact ⟨HE.out, HB2.out.trans (HB4.out.mono (by have := HB2.out.size; have := HGG.out; omega))⟩
end Go.Proofs.YtdcpiabmgjajlaaDoor
