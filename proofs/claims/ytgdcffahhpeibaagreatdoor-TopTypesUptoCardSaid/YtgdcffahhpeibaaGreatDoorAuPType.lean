/-
  (*auto.Auto).Type by its contract: the least keys. The rules are allowed.
-/
import Derived.Test.YtgdcffahhpeibaaGreatDoorAuMap
import Derived.WalkArith
import Derived.Maps.OwnOps
import Derived.Maps.AppendAt
namespace Go.Proofs.YtgdcffahhpeibaaGreatDoor
open Go.RowKit
set_option maxRecDepth 100000 in
theorem keyOf_st (x : Au.St) (h1 : x.1 ≤ 1000000000) (h2 : x.2.length ≤ 1000000000) : ∃ kl, keyOf Tryz.prog 96 (stV x) = some kl := by
  have hkt : Tryz.prog.keyType 96 = true := by kernel_rfl
  have hu := Tryz.underlying96
  have hco : Tryz.prog.cellsOf 96 = 2 := by kernel_rfl
  have hc3 : Tryz.prog.cellsOf 3 = 1 := by kernel_rfl
  have hc9 : Tryz.prog.cellsOf 9 = 1 := by kernel_rfl
  have hu3 := Tryz.underlying3
  have hu9 := Tryz.underlying9
  have hz : (ba x.2).size ≤ maxLen := by rw [ba_size]; unfold maxLen; omega
  have hwf : (Lit.int .i64 (x.1 : Int)).wf = true := WalkArith.wf_i64 ⟨by omega, by omega⟩
  have hsz : ∃ m, Tryz.prog.types.size = m + 1 := ⟨Tryz.prog.types.size - 1, by kernel_rfl⟩
  obtain ⟨m, hm⟩ := hsz
  refine ⟨.string (keyBytes [.int .i64 (x.1 : Int), .string (ba x.2).data.toList]), ?_⟩
  unfold keyOf stV
  simp only [hu]
  rw [if_pos (by simp [hkt, Value.formed, hu, hco]), hm]
  unfold Program.keyLits
  simp only [hu, Value.cells]
  rw [if_pos (by rw [hco]; exact ⟨rfl, by kernel_rfl⟩)]
  simp [List.mapM_cons, List.mapM_nil, hc3, hc9, Program.keyLits, hu3, hu9, hwf, hz]
/-- the entries found in a round are of no old state -/
theorem Au.round_new {l : List Ro.Rule} {s : List UInt8} {ch : Au.St → List UInt8} {old last R : List Au.Ent} (hR : R = Au.insAll [] (Au.roundC l s ch (old.map (·.1)) last)) : ∀ x k, Au.lookS R x = some k → Au.lookS old x = none := by
  intro x k h
  have hm := Au.lookS_mem h
  have hg := Au.gath_all (Au.roundC l s ch (old.map (·.1)) last) [] [] Au.Gath.nil
  rw [List.nil_append, ← hR] at hg
  have := hg.2.1 x k hm
  unfold Au.roundC at this
  rw [List.mem_flatMap] at this
  obtain ⟨⟨z, kz⟩, _, hc⟩ := this
  obtain ⟨c, _, _, hn, _⟩ := Au.cands_mem.1 hc
  exact Au.lookS_none.2 hn
theorem look_st_ok {b m : Nat} {R : List Au.Ent} {W : World} (h : MapIs Tryz.prog 96 b m (stF R) W) (x : Au.St) (hx1 : x.1 ≤ 1000000000) (hx2 : x.2.length ≤ 1000000000) : (Instr.lookup 97 (.map (some b)) (stV x) true).run Tryz.prog W = .ok (.tuple #[.string (ba ((Au.lookS R x).getD [])), .bool (Au.lookS R x).isSome]) W := by
  obtain ⟨kl, hkl⟩ := keyOf_st x hx1 hx2
  have hh := h.look_ok keyState Tryz.underlying97 (zeroStr W) hkl
  rw [stF_get] at hh
  cases hl : Au.lookS R x with
  | none => rw [hl] at hh; exact hh
  | some k => rw [hl] at hh; exact hh
theorem look_st {b m : Nat} {R : List Au.Ent} {W : World} (h : MapIs Tryz.prog 96 b m (stF R) W) (x : Au.St) (hx1 : x.1 ≤ 1000000000) (hx2 : x.2.length ≤ 1000000000) : (Instr.lookup 97 (.map (some b)) (stV x) false).run Tryz.prog W = .ok (.string (ba ((Au.lookS R x).getD []))) W := by
  obtain ⟨kl, hkl⟩ := keyOf_st x hx1 hx2
  have hh := h.look keyState Tryz.underlying97 (zeroStr W) hkl
  rw [stF_get] at hh
  cases hl : Au.lookS R x with
  | none => rw [hl] at hh; exact hh
  | some k => rw [hl] at hh; exact hh
theorem le_bytes (m k : List UInt8) : (Op.bytesLess (ba m).toList (ba k).toList || (ba m).toList == (ba k).toList) = decide (m ≤ k) := by
  rw [bytesLess_eq, (is_ba m).list, (is_ba k).list, Bool.eq_iff_iff, Bool.or_eq_true, decide_eq_true_iff, decide_eq_true_iff, beq_iff_eq]
  constructor
  · rintro (h | h)
    · exact List.le_of_lt h
    · rw [h]; exact List.le_refl _
  · intro h
    by_cases e : m = k
    · exact .inr e
    · left
      rcases List.le_iff_lt_or_eq.1 h with h | h
      · exact h
      · exact absurd h e
theorem ba_app (a b : List UInt8) : ba a ++ ba b = ba (a ++ b) := by
  exact ((is_ba a).append (is_ba b)).ba
theorem OwnG.ne_type {α β : Type} {E : Enc α} {E' : Enc β} {T T' : TypeId} {B B' : Nat} {v v' : Value} {xs : List α} {ys : List β} {w : World} (h : OwnG E T B v xs w) (h' : OwnG E' T' B' v' ys w) (hT : T ≠ T') : ∀ b, v.ownBlock = some b → v'.ownBlock ≠ some b := by
  intro b hb hb'
  obtain ⟨_, ⟨rfl, _⟩ | ⟨g, cap, cur, rfl, _, hg, _⟩⟩ := h
  · cases hb
  · obtain ⟨_, ⟨rfl, _⟩ | ⟨g', cap', cur', rfl, _, hg', _⟩⟩ := h'
    · cases hb'
    · injection hb with hb
      injection hb' with hb'
      subst hb
      have e : g' = g := hb'
      subst e
      rw [hg] at hg'
      injection hg' with hg'
      injection hg' with _ e2
      exact hT e2
theorem MapIs.not_row {α : Type} {E : Enc α} {T : TypeId} {B : Nat} {v : Value} {xs : List α} {P : Program} {k b n : Nat} {f : Value → Option Value} {w : World} (hm : MapIs P k b n f w) (h : OwnG E T B v xs w) : ∀ c, v.ownBlock = some c → c ≠ b := by
  intro c hc e
  subst e
  obtain ⟨D, ⟨es, clock, hb, _⟩, _⟩ := hm
  obtain ⟨_, ⟨rfl, _⟩ | ⟨g, cap, cur, rfl, _, hg, _⟩⟩ := h
  · cases hc
  · injection hc with hc
    subst hc
    have hg' : w.heap[g]? = some (.cells cur T (0, 0)) := hg
    rw [show (⟨g, 0, none⟩ : Addr).block = g from rfl] at hb
    rw [hb] at hg'
    cases hg'
theorem MapIs.not_cell {P : Program} {k b n c o : Nat} {f : Value → Option Value} {w : World} {u : Value} (hm : MapIs P k b n f w) (h : w.cell? ⟨c, o, none⟩ = some u) : c ≠ b := by
  intro e
  subst e
  obtain ⟨D, ⟨es, clock, hb, _⟩, _⟩ := hm
  unfold World.cell? at h
  dsimp only at h
  rw [hb] at h
  cases h
theorem succ_bounds {l : List Ro.Rule} (h : Ro.check l = 0) {s : List UInt8} {x y : Au.St} {c : UInt8} (hx : x.1 ≤ s.length) (hs : Au.succ l s x c = some y) : y.1 ≤ s.length ∧ y.2.length ≤ x.2.length + 1 := by
  unfold Au.succ at hs
  split at hs
  · rename_i hp
    injection hs with hs
    subst hs
    have h1 := (List.isPrefixOf_iff_prefix.1 hp).length_le
    rw [List.length_drop] at h1
    refine ⟨by dsimp only; omega, ?_⟩
    dsimp only
    unfold Au.step
    have h2 := Au.feed_len (Au.short_of h) (Au.keysOf x.2) (Au.keysOf [c])
    have h3 := Au.keysOf_len x.2
    have h4 := Au.keysOf_len [c]
    rw [List.length_singleton] at h4
    omega
  · cases hs
theorem look0 {b m : Nat} {R : List Au.Ent} {W : World} (h : MapIs Tryz.prog 96 b m (stF R) W) : ∃ v b0, (Instr.lookup 97 (.map (some b)) (.agg #[.int .i64 0, .string ⟨#[]⟩]) true).run Tryz.prog W = .ok (.tuple #[.string v, .bool b0]) W :=
  ⟨_, _, look_st_ok h (0, []) (by simp) (by simp)⟩
theorem one_none {l : List Ro.Rule} {s : List UInt8} {old : List Au.Ent} {x : Au.St} {c : UInt8} (h : Au.succ l s x c = none) : Au.oneC l s old x c = none := by unfold Au.oneC; rw [h]
theorem one_old {l : List Ro.Rule} {s : List UInt8} {old : List Au.Ent} {x y : Au.St} {c : UInt8} {k : List UInt8} (h : Au.succ l s x c = some y) (ho : Au.lookS old y = some k) : Au.oneC l s old x c = none := by unfold Au.oneC; rw [h]; dsimp only; rw [ho]
theorem one_new {l : List Ro.Rule} {s : List UInt8} {old : List Au.Ent} {x y : Au.St} {c : UInt8} (h : Au.succ l s x c = some y) (ho : Au.lookS old y = none) : Au.oneC l s old x c = some y := by unfold Au.oneC; rw [h]; dsimp only; rw [ho]
/-- the block of a list is another one behind an append -/
theorem append_at {E : Enc Au.St} {S T : TypeId} (H : AppT Tryz.prog E S T) {ops : Array Oper} {rest : List Oper} {o : Oper} {a : Act} {Q : Exit → Act → World → Prop} (w : World) (hgd : o.guard = none) (s x : Operand)
    (ho : o.op = .call { callee := .builtin .append, args := #[s, x], argTypes := #[S, S] }) (B : Nat) (v : Value) (xs : List Au.St) (hs : a.eval s = v) (hown : OwnG E T B v xs w)
    (b : Nat) (y : Au.St) (hx : a.eval x = .slice (some ⟨b, 0, none⟩) 1 1) (hy : ∀ (j : Nat) u, (E.enc y)[j]? = some u → w.cell? ⟨b, j, none⟩ = some u) (hbd : xs.length ≤ 1000000000) (hby : (xs.length + 1) * H.bytes ≤ 140737488355328) (hB : B ≤ w.heap.size)
    (h : ∀ v' w', OwnG E T B v' (xs ++ [y]) w' → w.grownBy w' v.ownBlock → (v'.ownBlock = v.ownBlock ∨ v'.ownBlock = some w.heap.size) → wpList Tryz.prog ops Q rest (a.put o.dst v') w') : wpList Tryz.prog ops Q (o :: rest) a w := by
  obtain ⟨i0, hi, hz0, hz1, hz2⟩ := info_parts H.info
  refine wpList_append_own_at w hgd s x S ho B T i0 H.z E.k H.bytes H.under hi hz0 hz1 hz2 H.zsz E.pos v xs.length (E.cells xs) hs hown ⟨b, 0, none⟩ 1 1 (E.enc y) hx (by rw [E.len, Nat.one_mul]) (fun j u hu => by rw [addr_add, Nat.zero_add]; exact hy j u hu) (E.one y) (by unfold maxLen; omega) hby hB ?_
  intro v' w' h1 h2 _ h4
  refine h v' w' ?_ h2 h4
  rw [← E.cells_one y] at h1
  exact OwnG.app (ys := [y]) h1
theorem wpList_look_st_ok {ops : Array Oper} {rest : List Oper} {o : Oper} {a : Act} {Q : Exit → Act → World → Prop} (w : World) (hg : o.guard = none) (m x : Operand) (hop : o.op = Op.lookup 97 m x true) (b n : Nat) (R : List Au.Ent)
    (hm : a.eval m = .map (some b)) (hown : MapIs Tryz.prog 96 b n (stF R) w) (y : Au.St) (hy1 : y.1 ≤ 1000000000) (hy2 : y.2.length ≤ 1000000000) (v : Value) (hx : a.eval x = v) (hv : v = stV y) (v0 : ByteArray) (b0 : Bool) (h1 : ba ((Au.lookS R y).getD []) = v0) (h2 : (Au.lookS R y).isSome = b0)
    (hK : wpList Tryz.prog ops Q rest (a.put o.dst (.tuple #[.string v0, .bool b0])) w) : wpList Tryz.prog ops Q (o :: rest) a w := by
  refine wpList_plain hg fun K' hK' => ?_
  have hrun := look_st_ok hown y hy1 hy2
  rw [h1, h2] at hrun
  rw [hv] at hx
  unfold Oper.wp
  simp [execOp, hop, hm, hx, hrun, Result.andThen]
  exact hK' _ _ hK
theorem wpList_look_st {ops : Array Oper} {rest : List Oper} {o : Oper} {a : Act} {Q : Exit → Act → World → Prop} (w : World) (hg : o.guard = none) (m x : Operand) (hop : o.op = Op.lookup 97 m x false) (b n : Nat) (R : List Au.Ent)
    (hm : a.eval m = .map (some b)) (hown : MapIs Tryz.prog 96 b n (stF R) w) (y : Au.St) (hy1 : y.1 ≤ 1000000000) (hy2 : y.2.length ≤ 1000000000) (v : Value) (hx : a.eval x = v) (hv : v = stV y) (v0 : ByteArray) (h1 : ba ((Au.lookS R y).getD []) = v0)
    (hK : wpList Tryz.prog ops Q rest (a.put o.dst (.string v0)) w) : wpList Tryz.prog ops Q (o :: rest) a w := by
  refine wpList_plain hg fun K' hK' => ?_
  have hrun := look_st hown y hy1 hy2
  rw [h1] at hrun
  rw [hv] at hx
  unfold Oper.wp
  simp [execOp, hop, hm, hx, hrun, Result.andThen]
  exact hK' _ _ hK
def stE : Enc Au.St where
  k := 2
  enc := fun x => [.int .i64 (x.1 : Int), .string (ba x.2)]
  pos := by decide
  len := fun _ => rfl
  one := fun c u hu => by
    simp only [List.mem_cons, List.not_mem_nil, or_false] at hu
    rcases hu with rfl | rfl <;> rfl
theorem infoState : (Tryz.prog.info? 96).map (fun i => (i.zero, i.size, i.bytes)) = some (some (.agg #[.int .i64 0, .string ⟨#[]⟩]), 2, 24) := by kernel_rfl
def stApp : AppT Tryz.prog stE 98 96 where
  z := .agg #[.int .i64 0, .string ⟨#[]⟩]
  bytes := 24
  under := Tryz.underlying98
  info := infoState
  zsz := rfl
/-- what Type hands back -/
def TypeE (r : Option (List UInt8)) : Ending := match r with
  | some k => .returned (.tuple #[.string (ba k), .bool true])
  | none => .returned (.tuple #[.string ⟨#[]⟩, .bool false])
/-- Type's answer -/
def TypeA (xs : List RuleB) (l : List UInt8) (e : Ending) : Prop :=
  ((UT.countZ l < 0 ∨ 64 < UT.countZ l) → e = TypeE none) ∧ (0 ≤ UT.countZ l → UT.countZ l ≤ 64 → ∃ r, Au.TypeRes (rulesL xs) l r ∧ e = TypeE r)
theorem count_len {l : List UInt8} (h0 : 0 ≤ UT.countZ l) (h1 : UT.countZ l ≤ 64) : l.length ≤ 256 := by
  unfold UT.countZ at h0 h1
  by_cases hv : Lib.validD l = true
  · rw [if_pos hv] at h1
    have e := UT.enc_runes l.length l (Nat.le_refl _) hv
    have := UT.bk_len (UT.runes l)
    rw [e] at this
    omega
  · rw [if_neg hv] at h0; omega
set_option maxRecDepth 100000 in
set_option maxHeartbeats 8000000 in
theorem type_any (B a : Nat) (xs : List RuleB) (s : ByteArray) (l : List UInt8) (w : World) (ha : AutoIs B xs a w) (hBw : B ≤ w.heap.size) (hs : Is s l) (hsz : s.size < 9223372036854775807) (ht : Tabs w) :
    Calls Tryz.prog 15 #[.pointer (some ⟨a, 0, none⟩), .string s] w fun e w' => TypeA xs l e ∧ Below w.heap.size w w' := by
  have HS := Lib.hid hs
  have HT := Lib.hid ht
  have HA0 := Lib.hid ha
  obtain ⟨z, hzz⟩ : ∃ z, UT.countZ l = z := ⟨_, rfl⟩
  have HZZ := Eqq.mk hzz
  by_cases h0 : z < 0
  · have hE := Lib.hid (show TypeA xs l (TypeE none) from ⟨fun _ => rfl, fun h => by rw [hzz] at h; omega⟩)
    clear hs ht ha hzz
    go_enter Tryz.func15, Tryz.ntmps15
    go_wp2_with fail
    with_reducible refine (pcount_any s l _ HS.out hsz HT.out).mono ?_
    rw [HZZ.out]
    rintro e w1 ⟨rfl, hb⟩
    have HB := Lib.hid hb
    clear hb
    go_wp2_with fail
    go_ret2
    exact ⟨hE.out, HB.out⟩
  by_cases h64 : 64 < z
  · have hE := Lib.hid (show TypeA xs l (TypeE none) from ⟨fun _ => rfl, fun _ h => by rw [hzz] at h; omega⟩)
    have h0' : ¬ (z < 0) := h0
    clear hs ht ha hzz
    go_enter Tryz.func15, Tryz.ntmps15
    go_wp2_with fail
    with_reducible refine (pcount_any s l _ HS.out hsz HT.out).mono ?_
    rw [HZZ.out]
    rintro e w1 ⟨rfl, hb⟩
    have HB := Lib.hid hb
    clear hb
    go_wp2_with fail
    go_ret2
    exact ⟨hE.out, HB.out⟩
  have hlen : l.length ≤ 256 := count_len (by rw [hzz]; omega) (by rw [hzz]; omega)
  have hsz2 : s.size ≤ 256 := by rw [hs.size]; exact hlen
  have HLN := Eqq.mk (show l.length = s.size by rw [hs.size])
  have HOK := Eqq.mk ha.ok
  have HANS := Lib.hid (show ∀ r, Au.TypeRes (rulesL xs) l r → TypeA xs l (TypeE r) from fun r hr => ⟨fun h => by rw [hzz] at h; omega, fun _ _ => ⟨r, hr, rfl⟩⟩)
  obtain ⟨la, _, mr, mp, kv, ks, h1, h2, c0, c1, c2, m1, m2, k1, k2, k3⟩ := ha
  have HKV := Lib.hid c2
  have HKO := Lib.hid k2
  have hkl := k1.1
  have HTR := Lib.hid (Au.choices_tries HOK.out k1.2 l)
  have HKB := Lib.hid k3
  clear hs ht hzz c0 c1 c2 m1 m2 k1 k2 k3 h1 h2 hsz
  have hmm := @run_makeMap Tryz.prog
  go_enter Tryz.func15, Tryz.ntmps15
  go_wp2_with fail
  with_reducible refine (pcount_any s l _ HS.out (by omega) HT.out).mono ?_
  rw [HZZ.out]
  rintro e w1 ⟨rfl, hb⟩
  have HB1 := Lib.hid hb
  clear hb
  obtain ⟨G, hG⟩ : ∃ G, w1.heap.size = G := ⟨_, rfl⟩
  have HGG := Eqq.mk hG
  have HM0 := Lib.hid (show MapIs Tryz.prog 96 (G + 1) 0 (stF []) ((w1.alloc (.cells #[.int .i64 (s.size : Int), .string ⟨#[]⟩] 96)).alloc (.map #[] 0)) by
    have h := MapIs.made Tryz.prog 96 (w1.alloc (.cells #[.int .i64 (s.size : Int), .string ⟨#[]⟩] 96))
    rw [World.size_alloc, hG] at h
    exact h.congr (fun key _ _ => by rw [stF_nil]))
  obtain ⟨kl0, hkl0⟩ := keyOf_st (0, []) (by simp) (by simp)
  have HST := Lib.hid (stF_new (R := []) (y := (0, [])) (k := []) rfl)
  have hmx : (0 : Nat) < maxLen := by unfold maxLen; omega
  have HQ0 := Lib.hid (show ((w1.alloc (.cells #[.int .i64 (s.size : Int), .string ⟨#[]⟩] 96)).alloc (.map #[] 0)).cell? ⟨G, 0, none⟩ = some (.int .i64 (s.size : Int)) ∧ ((w1.alloc (.cells #[.int .i64 (s.size : Int), .string ⟨#[]⟩] 96)).alloc (.map #[] 0)).cell? ⟨G, 1, none⟩ = some (.string ⟨#[]⟩) from
    ⟨by rw [World.cell?_alloc_past _ _ _ (by simp; omega), ← hG]; exact box2_0 _ _ _ _, by rw [World.cell?_alloc_past _ _ _ (by simp; omega), ← hG]; exact box2_1 _ _ _ _⟩)
  have HB2 := Lib.hid (show Below G w1 ((w1.alloc (.cells #[.int .i64 (s.size : Int), .string ⟨#[]⟩] 96)).alloc (.map #[] 0)) from
    ((Below.refl G w1).alloc (by omega) _).alloc (by simp; omega) _)
  have HSZ2 := Lib.hid (show ((w1.alloc (.cells #[.int .i64 (s.size : Int), .string ⟨#[]⟩] 96)).alloc (.map #[] 0)).heap.size = G + 1 + 1 by simp; omega)
  go_wp2_with (refine upon_put (g := stF (Au.ins [] (0, []) [])) HM0.out keyState Tryz.underlying97 hmx hkl0 HST.out.1 HST.out.2 ?_)
  intro w2 hm2 hg2
  have HM2 := Lib.hid hm2
  have HB3 := Lib.hid (grown_below HB2.out hg2 (by have := HSZ2.out; omega) (by omega))
  have hw2 : G + 1 + 1 ≤ w2.heap.size := by have := hg2.size; have := HSZ2.out; omega
  have HQ2 := Lib.hid (show w2.cell? ⟨G, 0, none⟩ = some (.int .i64 (s.size : Int)) ∧ w2.cell? ⟨G, 1, none⟩ = some (.string ⟨#[]⟩) from ⟨cell_grownx hg2 HQ0.out.1 (by simp), cell_grownx hg2 HQ0.out.2 (by simp)⟩)
  clear hm2 hg2 hmm hkl0
  have HLS := Lib.hid (show LieG stE (.slice (some ⟨w2.heap.size, 0, none⟩) 1 1) [((0, []) : Au.St)] (w2.alloc (.cells #[.int .i64 0, .string ⟨#[]⟩] 96)) from
    ⟨_, _, rfl, Nat.le_refl _, fun h => (by cases h), fun ad h => (by injection h with h; exact ⟨_, _, h.symm⟩), fun i x hi => by
      cases i with
      | zero =>
        injection hi with hi
        subst hi
        exact ⟨_, _, rfl, fun j u hu => by rw [show 0 + 0 * stE.k + j = j by rw [Nat.zero_mul]; omega]; exact new_cells w2 [.int .i64 0, .string ⟨#[]⟩] 96 j u hu⟩
      | succ i => cases hi⟩)
  have HAG := Lib.hid (fun (W : World) (hW : Below G w1 W) => (show AutoIs G xs a W from (((HA0.out.mono hBw).below HB1.out).mono (by have := HB1.out.size; omega)).below hW))
  have HGW := Lib.hid (fun (W : World) (hW : Below G w1 W) => (show Below w.heap.size w W from HB1.out.trans (hW.mono (by have := HB1.out.size; omega))))
  have HKW := Lib.hid (fun (W : World) (hW : Below w.heap.size w W) => (show W.cell? ⟨a, 2, none⟩ = some kv ∧ ∃ b0, OwnG byteE 5 b0 kv ks W from ⟨below_cellU HKV.out hW (Nat.le_refl _), let ⟨b0, h⟩ := HKO.out; ⟨b0, h.below hW (Nat.le_refl _)⟩⟩))
  have hll : l.length ≤ 400 := by omega
  have HGOAL := Eqq.mk (show stV (Au.goal l) = .agg #[.int .i64 (s.size : Int), .string ⟨#[]⟩] by unfold stV Au.goal; rw [HLN.out]; rfl)
  have HB4 := Lib.hid (HB3.out.alloc (by omega) (.cells #[.int .i64 0, .string ⟨#[]⟩] 96))
  have HM4 := Lib.hid ((show MapIs Tryz.prog 96 (G + 1) 1 (stF [((0, []), [])]) w2 from HM2.out).alloc (.cells #[.int .i64 0, .string ⟨#[]⟩] 96))
  have HQ4 := Lib.hid (show (w2.alloc (.cells #[.int .i64 0, .string ⟨#[]⟩] 96)).cell? ⟨G, 0, none⟩ = some (.int .i64 (s.size : Int)) ∧ (w2.alloc (.cells #[.int .i64 0, .string ⟨#[]⟩] 96)).cell? ⟨G, 1, none⟩ = some (.string ⟨#[]⟩) from ⟨by rw [World.cell?_alloc_past _ _ _ (by omega)]; exact HQ2.out.1, by rw [World.cell?_alloc_past _ _ _ (by omega)]; exact HQ2.out.2⟩)
  clear HM2 HQ2 HM0 HST HQ0 HB2 HSZ2 HB3
  go_wp2_with fail
  try rw [hG]
  clear hG
  go_loopg [9] 1900000 (fun g lv wr => ∃ (n : Nat) (old last : List Au.Ent), Au.Head (rulesL xs) l n old last ∧ LieG stE lv (last.map (·.1)) wr ∧ MapIs Tryz.prog 96 (G + 1) (n * 500000000 + 1) (stF old) wr ∧ (wr.cell? ⟨G, 0, none⟩ = some (.int .i64 (s.size : Int)) ∧ wr.cell? ⟨G, 1, none⟩ = some (.string ⟨#[]⟩)) ∧ Below G w1 wr ∧ 2 * (900000 - old.length) + (if last = [] then 0 else 1) ≤ g)
  case atStart => exact ⟨0, _, _, Au.Head.start _ _, HLS.out, HM4.out, HQ4.out, HB4.out, by decide⟩
  case round =>
    obtain ⟨n, old, last, hh, hl, hm, ⟨q0, q1⟩, hb, hg⟩ := hrel
    have HH := Lib.hid hh
    have HL := Lib.hid hl
    have HM := Lib.hid hm
    have HB := Lib.hid hb
    have HQ := Lib.hid (And.intro q0 q1)
    obtain ⟨bd1, bd2, bd3⟩ := hh.bound HOK.out hll
    obtain ⟨aol, capl, rfl, hcl, _, _, hlx⟩ := hl
    have HLX := Lib.hid hlx
    rw [List.length_map] at hcl ⊢
    clear hh hm hb hlx
    by_cases hz : last = []
    · subst hz
      have HE := Lib.hid (HANS.out none HH.out.empty)
      clear q0 q1
      go_wp2_with fail
      go_ret2
      exact ⟨HE.out, HGW.out _ HB.out⟩
    · have hlen0 : 0 < last.length := List.length_pos_iff.2 hz
      have hl0 : (0 : Int) < (last.length : Int) := by omega
      rw [if_neg hz] at hg
      have HHZ := Lib.hid hz
      clear hz
      obtain ⟨gr, hgr⟩ : ∃ gr, Au.lookS old (Au.goal l) = gr := ⟨_, rfl⟩
      cases gr with
      | some k =>
        have HE := Lib.hid (HANS.out (some k) (HH.out.found hgr))
        have HG1 := Lib.hid (show ba ((Au.lookS old (Au.goal l)).getD []) = ba k ∧ (Au.lookS old (Au.goal l)).isSome = true by rw [hgr]; exact ⟨rfl, rfl⟩)
        clear hgr
        go_wp2_with (at_lookup; refine wpList_look_st_ok _ rfl _ _ rfl (G + 1) _ _ rfl HM.out (Au.goal l) (by show l.length ≤ _; omega) (by show 0 ≤ _; omega) _ rfl HGOAL.out.symm _ _ HG1.out.1 HG1.out.2 ?_)
        go_ret2
        exact ⟨HE.out, HGW.out _ HB.out⟩
      | none =>
        have HGR := Eqq.mk hgr
        have HG1 := Lib.hid (show ba ((Au.lookS old (Au.goal l)).getD []) = ⟨#[]⟩ ∧ (Au.lookS old (Au.goal l)).isSome = false by rw [hgr]; exact ⟨rfl, rfl⟩)
        have hmm := @run_makeMap Tryz.prog
        have HR0 := Lib.hid (show MapIs Tryz.prog 96 wr.heap.size (0 * 512) (stF []) (wr.alloc (.map #[] 0)) from (MapIs.made _ _ wr).congr (fun key _ _ => by rw [stF_nil]))
        have HBA := Lib.hid ((Below.refl wr.heap.size wr).alloc (Nat.le_refl _) (.map #[] 0))
        clear hgr
        go_wp2_with (at_lookup; refine wpList_look_st_ok _ rfl _ _ rfl (G + 1) _ _ rfl HM.out (Au.goal l) (by show l.length ≤ _; omega) (by show 0 ≤ _; omega) _ rfl HGOAL.out.symm _ _ HG1.out.1 HG1.out.2 ?_)
        clear hmm q0 q1
        obtain ⟨M, hM⟩ : ∃ M, wr.heap.size = M := ⟨_, rfl⟩
        have hMG : G + 1 < M := by have := HM.out.lt; omega
        rw [hM] at HR0 HBA
        try rw [hM]
        have HHM := Eqq.mk hM
        have HWO := Lib.hid (fun (W : World) (hW : Below M wr W) => (show Below G w1 W from HB.out.trans (hW.mono (by omega))))
        obtain ⟨wo, hwo⟩ : ∃ W, wr = W := ⟨_, rfl⟩
        rw [hwo] at HR0 HBA HWO HL HM HB HQ HLX HHM
        try rw [hwo]
        clear hM hwo
        have hM : wo.heap.size = M := HHM.out
        have HMo := Lib.hid (fun (W : World) (hW : Below M wo W) => (show MapIs Tryz.prog 96 (G + 1) (n * 500000000 + 1) (stF old) W ∧ W.cell? ⟨G, 0, none⟩ = some (.int .i64 (s.size : Int)) ∧ W.cell? ⟨G, 1, none⟩ = some (.string ⟨#[]⟩) from
          ⟨HM.out.below hW hMG, (hW.cell (p := ⟨G, 0, none⟩) (by show G < M; omega)).trans HQ.out.1, (hW.cell (p := ⟨G, 1, none⟩) (by show G < M; omega)).trans HQ.out.2⟩))
        clear hM
        go_loopw [13, 61] (fun nv iv wr => ∃ (i : Nat) (R : List Au.Ent), i ≤ last.length ∧ iv = .int .i64 i ∧ R = Au.insAll [] (Au.roundC (rulesL xs) l (fun x => Au.choicesF ks (l.drop x.1)) (old.map (·.1)) (last.take i)) ∧ R.length ≤ i * 512 ∧ OwnG stE 96 M nv (R.map (·.1)) wr ∧ MapIs Tryz.prog 96 M (i * 512) (stF R) wr ∧ Below M wo wr) (fun _ iv _ => last.length - (intOf iv).toNat)
        case atStart => exact ⟨0, [], Nat.zero_le _, rfl, rfl, Nat.le_refl _, OwnG.nil _ _ _, HR0.out, HBA.out⟩
        case round =>
          obtain ⟨i, R, hi, rfl, hR, hRl, ho, hm, hb⟩ := hrel
          have HRE := Eqq.mk hR
          have HO := Lib.hid ho
          have HR := Lib.hid hm
          have HBo := Lib.hid hb
          have hwM : M < wr.heap.size := hm.lt
          clear hR ho hm hb
          by_cases hil : i < last.length
          · obtain ⟨⟨⟨x1, x2⟩, kx⟩, hx⟩ : ∃ e, last[i]? = some e := ⟨_, List.getElem?_eq_getElem hil⟩
            obtain ⟨f1, f2, f3, f4, f5⟩ := HH.out.ent HOK.out (List.mem_of_getElem? hx)
            dsimp only at f1 f2 f3 f4 f5
            obtain ⟨gl, ol, rfl, hcell⟩ := HLX.out i (x1, x2) (by rw [List.getElem?_map, hx]; rfl)
            have d0 : wr.cell? ⟨gl, ol + i * 2, none⟩ = some (.int .i64 (x1 : Int)) := below_cellU (by have h := hcell 0 _ rfl; exact h) HBo.out (by have := HHM.out; omega)
            have d1 : wr.cell? ⟨gl, ol + i * 2 + 1, none⟩ = some (.string (ba x2)) := below_cellU (by have h := hcell 1 _ rfl; exact h) HBo.out (by have := HHM.out; omega)
            have HRT := Eqq.mk (Au.roundC_take (rulesL xs) l (fun x => Au.choicesF ks (l.drop x.1)) (old.map (·.1)) last i (x1, x2) kx hx)
            have HKX := Eqq.mk f5
            have hkx : kx.length ≤ 802401 := by omega
            clear hx hcell f5 f3
            have hx1 : (0 : Int) ≤ (x1 : Int) := by omega
            have hx2 : (x1 : Int) ≤ (s.size : Int) := by have := HLN.out; omega
            have HFR := Lib.hid (HS.out.from x1)
            obtain ⟨y, hy⟩ : ∃ y, s.extract x1 s.size = y := ⟨_, rfl⟩
            rw [hy] at HFR
            have hyz : y.size ≤ 1000 := by rw [← hy]; simp; omega
            have HP2 := Lib.hid (is_ba x2)
            obtain ⟨p0, hp0⟩ : ∃ p, ba x2 = p := ⟨_, rfl⟩
            rw [hp0] at d1 HP2
            have HPE := Eqq.mk hp0
            have HB5 := Lib.hid (HBo.out.alloc (by omega) (.cells #[.int .i64 (x1 : Int), .string p0] 96))
            have HR5 := Lib.hid (HR.out.alloc (.cells #[.int .i64 (x1 : Int), .string p0] 96))
            have HO5 := Lib.hid (HO.out.alloc (.cells #[.int .i64 (x1 : Int), .string p0] 96))
            have hX0 := box2_0 wr (.int .i64 (x1 : Int)) (.string p0) 96
            have hX1 := box2_1 wr (.int .i64 (x1 : Int)) (.string p0) 96
            obtain ⟨hkv, hko⟩ := HKW.out _ (HGW.out _ (HWO.out _ HB5.out))
            have HKV5 := Lib.hid hkv
            have HKO5 := Lib.hid hko
            clear hkv hko
            go_wp2_with fail
            with_reducible refine (choices_any a y _ _ HFR.out hyz ks kv HKV5.out HKO5.out hkl).mono ?_
            rintro e w6 ⟨⟨v, b1, rfl, ho⟩, hb⟩
            have HCS := Lib.hid ho
            obtain ⟨aov, capv, rfl⟩ := ho.frame
            have HB6 := Lib.hid (HB5.out.trans (hb.mono (by have := HB5.out.size; have := HHM.out; omega)))
            have HR6 := Lib.hid (HR5.out.keep hb)
            have HO6 := Lib.hid (HO5.out.keep hb)
            have X0 := Lib.hid (below_cellU hX0 hb (Nat.le_refl _))
            have X1 := Lib.hid (below_cellU hX1 hb (Nat.le_refl _))
            obtain ⟨X, hXX⟩ : ∃ X, wr.heap.size = X := ⟨_, rfl⟩
            rw [hXX] at X0 X1
            have HNX := Lib.hid (show ∀ b, (Value.ownBlock _) = some b → b ≠ X from fun b hb' => by have := (HO.out.block_lt b hb').2; omega)
            obtain ⟨cs, hcs⟩ : ∃ cs, Au.choicesF ks (l.drop x1) = cs := ⟨_, rfl⟩
            have hcl : cs.length ≤ 512 := by
              rw [← hcs]
              unfold Au.choicesF
              rw [List.length_append]
              have := Au.moreF_len ks _ (l.drop x1) rfl
              rw [List.length_drop] at this
              omega
            rw [hcs] at HCS ⊢
            have HCSS := Eqq.mk hcs
            have HRT2 := Eqq.mk (show Au.insAll [] (Au.roundC (rulesL xs) l (fun x => Au.choicesF ks (l.drop x.1)) (old.map (·.1)) (last.take (i + 1))) = Au.insAll R (Au.cands (rulesL xs) l (old.map (·.1)) (x1, x2) kx cs) by
              rw [HRT.out, Au.insAll_app, ← HRE.out, hcs])
            clear hX0 hX1 hb hcs ho d0 d1
            go_wp2_with fail
            try rw [hXX]
            clear hXX
            go_loopw [13, 72] (fun nv iv wr => ∃ (j : Nat) (R2 : List Au.Ent), j ≤ cs.length ∧ iv = .int .i64 j ∧ R2 = Au.insAll R (Au.cands (rulesL xs) l (old.map (·.1)) (x1, x2) kx (cs.take j)) ∧ R2.length ≤ i * 512 + j ∧ OwnG stE 96 M nv (R2.map (·.1)) wr ∧ MapIs Tryz.prog 96 M (i * 512 + j) (stF R2) wr ∧ (wr.cell? ⟨X, 0, none⟩ = some (.int .i64 (x1 : Int)) ∧ wr.cell? ⟨X, 1, none⟩ = some (.string p0)) ∧ OwnG byteE 5 b1 (.slice aov cs.length capv) cs wr ∧ (∀ b, nv.ownBlock = some b → b ≠ X) ∧ Below M wo wr) (fun _ iv _ => cs.length - (intOf iv).toNat)
            case atStart => exact ⟨0, R, Nat.zero_le _, rfl, rfl, hRl, HO6.out, HR6.out, ⟨X0.out, X1.out⟩, HCS.out, HNX.out, HB6.out⟩
            case round =>
              obtain ⟨j, R2, hj, rfl, hR2, hRl2, ho, hm, ⟨t0, t1⟩, hcs, hnx, hb⟩ := hrel
              have HRE2 := Eqq.mk hR2
              have HO := Lib.hid ho
              have HR := Lib.hid hm
              have HBo := Lib.hid hb
              have HCS := Lib.hid hcs
              have HNX := Lib.hid hnx
              have HT0 := Lib.hid t0
              have HT1 := Lib.hid t1
              have hXl := World.block_lt_of_cell? _ _ t0
              have hXM := hm.not_cell t0
              have hwM : M < wr.heap.size := hm.lt
              clear hR2 ho hm hcs hnx hb
              by_cases hjl : j < cs.length
              · obtain ⟨c, hc⟩ : ∃ c, cs[j]? = some c := ⟨_, List.getElem?_eq_getElem hjl⟩
                obtain ⟨_, _, hv, _, _, _, hcx⟩ := HCS.out.lie
                obtain ⟨gc, oc, ha0, hcc⟩ := hcx j c hc
                injection hv with hv hv2 hv3
                clear hv2 hv3
                rw [← hv] at ha0
                subst ha0
                have e0 : wr.cell? ⟨gc, oc + j, none⟩ = some (.int .u8 (c.toNat : Int)) := by
                  have h := hcc 0 _ rfl
                  rw [show oc + j * byteE.k + 0 = oc + j by show oc + j * 1 + 0 = _; omega] at h
                  exact h
                have HCT := Eqq.mk (Au.cands_take (rulesL xs) l old (x1, x2) kx cs j c hc)
                have hck : Au.isKey c = true := (HTR.out (x1, x2)).1 c (by
                  have := List.mem_of_getElem? hc
                  rw [← HCSS.out] at this
                  exact this)
                have hc128 : c.toNat < 128 := by
                  unfold Au.isKey at hck
                  rw [Bool.and_eq_true, decide_eq_true_iff, decide_eq_true_iff] at hck
                  omega
                have hen := encode_one c hc128
                have hwc : IntKind.i32.wrap (c.toNat : Int) = (c.toNat : Int) := by
                  simp [IntKind.wrap, IntKind.bits, IntKind.signed]; omega
                obtain ⟨sy, hsy⟩ : ∃ sy, Au.succ (rulesL xs) l (x1, x2) c = sy := ⟨_, rfl⟩
                have HSY := Eqq.mk hsy
                clear hc hv hcx hcc hck hc128
                go_wp2_with fail
                with_reducible refine (after_any G a xs s p0 l (x1, x2) (x1 : Int) rfl c (c.toNat : Int) rfl _ (HAG.out _ (HWO.out _ HBo.out)) (by have := (HWO.out _ HBo.out).size; have := HGG.out; omega) HS.out HP2.out f2 (by show x2.length ≤ 1000; omega) (by omega)).mono ?_
                rw [HSY.out]
                rintro e w7 ⟨he, hb⟩
                unfold AfterV at he
                cases sy with
                | none =>
                  have he : e = .returned (.tuple #[.agg #[.int .i64 0, .string ⟨#[]⟩], .bool false]) := he
                  subst he
                  have HB7 := Lib.hid (HBo.out.trans (hb.mono (by have := HBo.out.size; have := HHM.out; omega)))
                  have HBW := Lib.hid (hb.alloc hb.size (.cells #[.int .i64 0, .string ⟨#[]⟩] 96))
                  have HB8 := Lib.hid (HB7.out.alloc (by have := HB7.out.size; have := HHM.out; omega) (.cells #[.int .i64 0, .string ⟨#[]⟩] 96))
                  have HM8 := Lib.hid (HMo.out _ HB8.out).1
                  obtain ⟨v0, hv0⟩ : ∃ v0, ba ((Au.lookS old (0, [])).getD []) = v0 := ⟨_, rfl⟩
                  obtain ⟨b0, hb0⟩ : ∃ b0, (Au.lookS old (0, [])).isSome = b0 := ⟨_, rfl⟩
                  have HV0 := Lib.hid (And.intro hv0 hb0)
                  clear hv0 hb0
                  have HR8 := Lib.hid (HR.out.keep HBW.out)
                  have HO8 := Lib.hid (HO.out.keep HBW.out)
                  have HCS8 := Lib.hid (HCS.out.keep HBW.out)
                  have u0 := Lib.hid (below_cellU HT0.out HBW.out (Nat.le_refl _))
                  have u1 := Lib.hid (below_cellU HT1.out HBW.out (Nat.le_refl _))
                  have HCJ := Eqq.mk (show Au.insAll R (Au.cands (rulesL xs) l (old.map (·.1)) (x1, x2) kx (cs.take (j + 1))) = R2 by rw [HCT.out, one_none HSY.out, HRE2.out]; dsimp only; rw [List.append_nil])
                  clear hb hsy hen hwc e0
                  go_wp2_with (at_lookup; refine wpList_look_st_ok _ rfl _ _ rfl (G + 1) _ _ rfl HM8.out (0, []) (by simp) (by simp) _ rfl (show _ = stV (0, []) from rfl) _ _ HV0.out.1 HV0.out.2 ?_)
                  go_roundw
                  case rel => exact ⟨j + 1, R2, by omega, by go_num, HCJ.out.symm, by omega, HO8.out, HR8.out.mono (by omega), ⟨u0.out, u1.out⟩, HCS8.out, HNX.out, HB8.out⟩
                  case measure => simp [intOf]; omega
                | some y =>
                  obtain ⟨y1, y2⟩ := y
                  dsimp only [stV] at he
                  obtain ⟨hy1, hy2⟩ := succ_bounds HOK.out f2 hsy
                  dsimp only at hy1 hy2
                  have HQ0 := Lib.hid (is_ba y2)
                  obtain ⟨q0, hq0⟩ : ∃ q, ba y2 = q := ⟨_, rfl⟩
                  rw [hq0] at he HQ0
                  subst he
                  have HB7 := Lib.hid (HBo.out.trans (hb.mono (by have := HBo.out.size; have := HHM.out; omega)))
                  have HBW := Lib.hid (hb.alloc hb.size (.cells #[.int .i64 (y1 : Int), .string q0] 96))
                  have HB8 := Lib.hid (HB7.out.alloc (by have := HB7.out.size; have := HHM.out; omega) (.cells #[.int .i64 (y1 : Int), .string q0] 96))
                  have hsz7 := hb.size
                  have HR8 := Lib.hid (HR.out.keep HBW.out)
                  have HO8 := Lib.hid (HO.out.keep HBW.out)
                  have HCS8 := Lib.hid (HCS.out.keep HBW.out)
                  have U0 := Lib.hid (below_cellU HT0.out HBW.out (Nat.le_refl _))
                  have U1 := Lib.hid (below_cellU HT1.out HBW.out (Nat.le_refl _))
                  have HM8 := Lib.hid (HMo.out _ HB8.out).1
                  have hY0 := box2_0 w7 (.int .i64 (y1 : Int)) (.string q0) 96
                  have hY1 := box2_1 w7 (.int .i64 (y1 : Int)) (.string q0) 96
                  have HY0 := Lib.hid hY0
                  have HY1 := Lib.hid hY1
                  have hsv : stV (y1, y2) = .agg #[.int .i64 (y1 : Int), .string q0] := by unfold stV; rw [hq0]
                  have HSV := Eqq.mk hsv
                  obtain ⟨lo, hlo⟩ : ∃ lo, Au.lookS old (y1, y2) = lo := ⟨_, rfl⟩
                  clear hb hsv hq0
                  cases lo with
                  | some ko =>
                    have HCJ := Eqq.mk (show Au.insAll R (Au.cands (rulesL xs) l (old.map (·.1)) (x1, x2) kx (cs.take (j + 1))) = R2 by rw [HCT.out, one_old HSY.out hlo, HRE2.out]; dsimp only; rw [List.append_nil])
                    have HG2 := Lib.hid (show ba ((Au.lookS old (y1, y2)).getD []) = ba ko ∧ (Au.lookS old (y1, y2)).isSome = true by rw [hlo]; exact ⟨rfl, rfl⟩)
                    clear hlo hsy hY0 hY1 hen hwc e0
                    go_wp2_with (at_lookup; refine wpList_look_st_ok _ rfl _ _ rfl (G + 1) _ _ rfl HM8.out (y1, y2) (by show y1 ≤ _; omega) (by show y2.length ≤ _; omega) _ rfl HSV.out.symm _ _ HG2.out.1 HG2.out.2 ?_)
                    go_roundw
                    case rel => exact ⟨j + 1, R2, by omega, by go_num, HCJ.out.symm, by omega, HO8.out, HR8.out.mono (by omega), ⟨U0.out, U1.out⟩, HCS8.out, HNX.out, HB8.out⟩
                    case measure => simp [intOf]; omega
                  | none =>
                    have HCJ := Eqq.mk (show Au.insAll R (Au.cands (rulesL xs) l (old.map (·.1)) (x1, x2) kx (cs.take (j + 1))) = Au.ins R2 (y1, y2) (kx ++ [c]) by rw [HCT.out, one_new HSY.out hlo, HRE2.out, Au.insAll_app]; rfl)
                    have HG2 := Lib.hid (show ba ((Au.lookS old (y1, y2)).getD []) = ⟨#[]⟩ ∧ (Au.lookS old (y1, y2)).isSome = false by rw [hlo]; exact ⟨rfl, rfl⟩)
                    have HSX := Eqq.mk (show stV (x1, x2) = .agg #[.int .i64 (x1 : Int), .string p0] by unfold stV; rw [HPE.out])
                    have HG3 := Lib.hid (show ba ((Au.lookS old (x1, x2)).getD []) = ba kx by rw [HKX.out]; rfl)
                    obtain ⟨kly, hkly⟩ := keyOf_st (y1, y2) (by show y1 ≤ _; omega) (by show y2.length ≤ _; omega)
                    rw [HSV.out] at hkly
                    have HKLY := Eqq.mk hkly
                    obtain ⟨lr, hlr⟩ : ∃ lr, Au.lookS R2 (y1, y2) = lr := ⟨_, rfl⟩
                    have hkz := ba_size kx
                    have hK1 : ba kx ++ (⟨#[c]⟩ : ByteArray) = ba (kx ++ [c]) := ba_app kx [c]
                    obtain ⟨k0, hk0⟩ : ∃ k0, ba kx = k0 := ⟨_, rfl⟩
                    obtain ⟨k1, hk1⟩ : ∃ k1, ba (kx ++ [c]) = k1 := ⟨_, rfl⟩
                    rw [hk0] at hkz hK1 HG3
                    rw [hk1] at hK1
                    have HKK := Eqq.mk hk1
                    have hkz2 : k0.size + 1 ≤ 9223372036854775807 := by omega
                    have hkz3 : k0.size + (#[c] : Array UInt8).size ≤ 9223372036854775807 := by show k0.size + 1 ≤ _; omega
                    have v0 := U0.out
                    have v1 := U1.out
                    have hne7 : w7.heap.size ≠ X := by omega
                    clear hlo hsy e0 hk0 hkly hk1
                    have hmb : i * 512 + j < maxLen := by
                      have : i * 512 ≤ 802401 * 512 := Nat.mul_le_mul_right _ (by omega)
                      unfold maxLen; omega
                    cases lr with
                    | none =>
                      have HNEW := Lib.hid (stF_new (R := R2) (y := (y1, y2)) (k := kx ++ [c]) hlr)
                      have HRR := Eqq.mk (show Au.ins R2 (y1, y2) (kx ++ [c]) = R2 ++ [((y1, y2), kx ++ [c])] from Au.ins_absent hlr)
                      rw [HSV.out, HKK.out] at HNEW
                      have HG4 := Lib.hid (show ba ((Au.lookS R2 (y1, y2)).getD []) = ⟨#[]⟩ ∧ (Au.lookS R2 (y1, y2)).isSome = false by rw [hlr]; exact ⟨rfl, rfl⟩)
                      clear hlr
                      have HO9 := Lib.hid (HO8.out.alloc (.cells #[.int .i64 (y1 : Int), .string q0] 96))
                      have hmb2 : R2.length ≤ 802401 * 512 + 512 := by
                        have : i * 512 ≤ 802401 * 512 := Nat.mul_le_mul_right _ (by omega)
                        omega
                      have HYE := Eqq.mk (show ba y2 = q0 from (HQ0.out.ba).symm)
                      go_wp2_with (first
                        | (at_lookup; refine wpList_look_st_ok _ rfl _ _ rfl (G + 1) _ _ rfl HM8.out (y1, y2) (by show y1 ≤ _; omega) (by show y2.length ≤ _; omega) _ rfl HSV.out.symm _ _ HG2.out.1 HG2.out.2 ?_)
                        | (at_lookup; refine wpList_look_st _ rfl _ _ rfl (G + 1) _ _ rfl HM8.out (x1, x2) (by show x1 ≤ _; omega) (by show x2.length ≤ _; omega) _ rfl HSX.out.symm _ HG3.out ?_)
                        | (at_lookup; refine wpList_look_st_ok _ rfl _ _ rfl M _ _ rfl HR8.out (y1, y2) (by show y1 ≤ _; omega) (by show y2.length ≤ _; omega) _ rfl HSV.out.symm _ _ HG4.out.1 HG4.out.2 ?_)
                        | (at_builtin; refine append_at stApp _ rfl _ _ rfl M _ _ rfl HO9.out _ (y1, y2) rfl (fun jj u hu => by
                        have hu' : ([.int .i64 (y1 : Int), .string (ba y2)] : List Value)[jj]? = some u := hu
                        rw [HYE.out] at hu'
                        have h := new_cells (w7.alloc (.cells #[.int .i64 (y1 : Int), .string q0] 96)) [.int .i64 (y1 : Int), .string q0] 96 jj u hu'
                        rw [World.size_alloc] at h
                        exact h) (by rw [List.length_map]; omega) (by rw [List.length_map]; show (_ + 1) * 24 ≤ _; omega) (by have := HB8.out.size; have := HHM.out; simp at this ⊢; omega) ?_))
                      intro v' w' ho' hg' hloc
                      have hnvb : ∀ b, u13.ownBlock = some b → M ≤ b ∧ b < wr.heap.size ∧ b ≠ M ∧ b ≠ X := fun b hb => ⟨(HO.out.block_lt b hb).1, (HO.out.block_lt b hb).2, HR.out.not_row HO.out b hb, HNX.out b hb⟩
                      have hne : ∀ b, (b < M ∨ wr.heap.size ≤ b ∨ b = M ∨ b = X) → some b ≠ u13.ownBlock := fun b hb e => by
                        have := hnvb b e.symm
                        omega
                      have hw79 : wr.heap.size ≤ w7.heap.size := hsz7
                      have HO10 := Lib.hid ho'
                      have HR10 := Lib.hid ((HR8.out.alloc (.cells #[.int .i64 (y1 : Int), .string q0] 96)).grown hg' (hne M (.inr (.inr (.inl rfl)))))
                      have HB10 := Lib.hid ((HB8.out.alloc (by have := HB8.out.size; have := HHM.out; omega) (.cells #[.int .i64 (y1 : Int), .string q0] 96)).grown hg' (by have := HB8.out.size; have := HHM.out; simp at this ⊢; omega) (fun b hb => (hnvb b hb).1))
                      have HCS10 := Lib.hid ((HCS8.out.alloc (.cells #[.int .i64 (y1 : Int), .string q0] 96)).grown hg' (fun b hb e => (HCS.out.ne_type HO.out (by decide) b hb) e.symm))
                      have U010 := Lib.hid (cell_grownx hg' (show ((w7.alloc (.cells #[.int .i64 (y1 : Int), .string q0] 96)).alloc (.cells #[.int .i64 (y1 : Int), .string q0] 96)).cell? ⟨X, 0, none⟩ = some (.int .i64 (x1 : Int)) from by rw [World.cell?_alloc_past _ _ _ (by simp; omega)]; exact U0.out) (hne X (.inr (.inr (.inr rfl)))))
                      have U110 := Lib.hid (cell_grownx hg' (show ((w7.alloc (.cells #[.int .i64 (y1 : Int), .string q0] 96)).alloc (.cells #[.int .i64 (y1 : Int), .string q0] 96)).cell? ⟨X, 1, none⟩ = some (.string p0) from by rw [World.cell?_alloc_past _ _ _ (by simp; omega)]; exact U1.out) (hne X (.inr (.inr (.inr rfl)))))
                      have y010 := cell_grownx hg' (show ((w7.alloc (.cells #[.int .i64 (y1 : Int), .string q0] 96)).alloc (.cells #[.int .i64 (y1 : Int), .string q0] 96)).cell? ⟨w7.heap.size, 0, none⟩ = some (.int .i64 (y1 : Int)) from by rw [World.cell?_alloc_past _ _ _ (by simp)]; exact HY0.out) (hne w7.heap.size (.inr (.inl hw79)))
                      have y110 := cell_grownx hg' (show ((w7.alloc (.cells #[.int .i64 (y1 : Int), .string q0] 96)).alloc (.cells #[.int .i64 (y1 : Int), .string q0] 96)).cell? ⟨w7.heap.size, 1, none⟩ = some (.string q0) from by rw [World.cell?_alloc_past _ _ _ (by simp)]; exact HY1.out) (hne w7.heap.size (.inr (.inl hw79)))
                      have HNX10 := Lib.hid (show ∀ b, v'.ownBlock = some b → b ≠ X from fun b hb => by
                        rcases hloc with h | h
                        · rw [h] at hb; exact HNX.out b hb
                        · rw [h] at hb
                          injection hb with hb
                          omega)
                      have HNM10 := Lib.hid (HR10.out.not_row HO10.out)
                      obtain ⟨ao9, cap9, hv9⟩ := ho'.frame
                      rw [List.length_append, List.length_map, List.length_singleton] at hv9
                      subst hv9
                      clear ho' hg' hloc hnvb hne v0 v1 hY0 hY1 hen hwc
                      go_wp2_with (refine upon_put (g := stF (Au.ins R2 (y1, y2) (kx ++ [c]))) HR10.out keyState Tryz.underlying97 hmb HKLY.out HNEW.out.1 HNEW.out.2 ?_)
                      intro w11 hm11 hg11
                      have HR11 := Lib.hid hm11
                      have HO11 := Lib.hid (HO10.out.grown hg11 (fun b hb e => HNM10.out b hb (Option.some.inj e)))
                      have HB11 := Lib.hid (grown_below HB10.out hg11 (by have := HB10.out.size; have := HHM.out; omega) (Nat.le_refl _))
                      have HCS11 := Lib.hid (HCS10.out.grown hg11 (fun b hb e => HR10.out.not_row HCS10.out b hb (Option.some.inj e)))
                      have U011 := Lib.hid (cell_grownx hg11 U010.out (by simp; omega))
                      have U111 := Lib.hid (cell_grownx hg11 U110.out (by simp; omega))
                      clear hm11 hg11 y010 y110
                      go_wp2_with fail
                      go_roundw
                      case rel => exact ⟨j + 1, _, by omega, by go_num, HCJ.out.symm, by rw [HRR.out, List.length_append, List.length_singleton]; omega, by rw [HRR.out, List.map_append]; exact HO11.out, HR11.out, ⟨U011.out, U111.out⟩, HCS11.out, HNX10.out, HB11.out⟩
                      case measure => simp [intOf]; omega
                    | some m =>
                      have HG4 := Lib.hid (show ba ((Au.lookS R2 (y1, y2)).getD []) = ba m ∧ (Au.lookS R2 (y1, y2)).isSome = true by rw [hlr]; exact ⟨rfl, rfl⟩)
                      have HLE := Eqq.mk (le_bytes m (kx ++ [c]))
                      obtain ⟨m0, hm0⟩ : ∃ m0, ba m = m0 := ⟨_, rfl⟩
                      rw [hm0] at HG4 HLE
                      rw [HKK.out] at HLE
                      obtain ⟨D, hD⟩ : ∃ D, decide (m ≤ kx ++ [c]) = D := ⟨_, rfl⟩
                      rw [hD] at HLE
                      have hle := HLE.out
                      cases D with
                      | true =>
                        have HCJ2 := Eqq.mk (show Au.insAll R (Au.cands (rulesL xs) l (old.map (·.1)) (x1, x2) kx (cs.take (j + 1))) = R2 by
                          rw [HCJ.out, Au.ins_kept hlr (fun h => by rw [decide_eq_true_iff] at hD; exact List.not_lt.2 hD h)])
                        clear hlr hD hm0
                        go_wp2_with (first
                          | (at_lookup; refine wpList_look_st_ok _ rfl _ _ rfl (G + 1) _ _ rfl HM8.out (y1, y2) (by show y1 ≤ _; omega) (by show y2.length ≤ _; omega) _ rfl HSV.out.symm _ _ HG2.out.1 HG2.out.2 ?_)
                          | (at_lookup; refine wpList_look_st _ rfl _ _ rfl (G + 1) _ _ rfl HM8.out (x1, x2) (by show x1 ≤ _; omega) (by show x2.length ≤ _; omega) _ rfl HSX.out.symm _ HG3.out ?_)
                          | (at_lookup; refine wpList_look_st_ok _ rfl _ _ rfl M _ _ rfl HR8.out (y1, y2) (by show y1 ≤ _; omega) (by show y2.length ≤ _; omega) _ rfl HSV.out.symm _ _ HG4.out.1 HG4.out.2 ?_))
                        go_roundw
                        case rel => exact ⟨j + 1, R2, by omega, by go_num, HCJ2.out.symm, by omega, HO8.out, HR8.out.mono (by omega), ⟨U0.out, U1.out⟩, HCS8.out, HNX.out, HB8.out⟩
                        case measure => simp [intOf]; omega
                      | false =>
                        have hlt : kx ++ [c] < m := by rw [decide_eq_false_iff_not] at hD; exact List.not_le.1 hD
                        have HNEW := Lib.hid (stF_less (R := R2) (y := (y1, y2)) (k := kx ++ [c]) hlr hlt)
                        rw [HSV.out, HKK.out] at HNEW
                        have HFS := Eqq.mk (show (Au.ins R2 (y1, y2) (kx ++ [c])).map (·.1) = R2.map (·.1) from Au.ins_fst_old hlr)
                        have HLL := Eqq.mk (show (Au.ins R2 (y1, y2) (kx ++ [c])).length = R2.length by
                          have := congrArg List.length HFS.out
                          rwa [List.length_map, List.length_map] at this)
                        clear hlr hD hm0 hlt
                        go_wp2_with (first
                          | (at_lookup; refine wpList_look_st_ok _ rfl _ _ rfl (G + 1) _ _ rfl HM8.out (y1, y2) (by show y1 ≤ _; omega) (by show y2.length ≤ _; omega) _ rfl HSV.out.symm _ _ HG2.out.1 HG2.out.2 ?_)
                          | (at_lookup; refine wpList_look_st _ rfl _ _ rfl (G + 1) _ _ rfl HM8.out (x1, x2) (by show x1 ≤ _; omega) (by show x2.length ≤ _; omega) _ rfl HSX.out.symm _ HG3.out ?_)
                          | (at_lookup; refine wpList_look_st_ok _ rfl _ _ rfl M _ _ rfl HR8.out (y1, y2) (by show y1 ≤ _; omega) (by show y2.length ≤ _; omega) _ rfl HSV.out.symm _ _ HG4.out.1 HG4.out.2 ?_)
                          | (refine upon_put (g := stF (Au.ins R2 (y1, y2) (kx ++ [c]))) HR8.out keyState Tryz.underlying97 hmb HKLY.out HNEW.out.1 HNEW.out.2 ?_))
                        intro w11 hm11 hg11
                        have HR11 := Lib.hid hm11
                        have HO11 := Lib.hid (HO8.out.grown hg11 (fun b hb e => HR8.out.not_row HO8.out b hb (Option.some.inj e)))
                        have HB11 := Lib.hid (grown_below HB8.out hg11 (by have := HB8.out.size; have := HHM.out; omega) (Nat.le_refl _))
                        have HCS11 := Lib.hid (HCS8.out.grown hg11 (fun b hb e => HR8.out.not_row HCS8.out b hb (Option.some.inj e)))
                        have U011 := Lib.hid (cell_grownx hg11 U0.out (by simp; omega))
                        have U111 := Lib.hid (cell_grownx hg11 U1.out (by simp; omega))
                        clear hm11 hg11 v0 v1 hY0 hY1 hen hwc
                        go_wp2_with fail
                        go_roundw
                        case rel => exact ⟨j + 1, _, by omega, by go_num, HCJ.out.symm, by rw [HLL.out]; omega, by rw [HFS.out]; exact HO11.out, HR11.out, ⟨U011.out, U111.out⟩, HCS11.out, HNX.out, HB11.out⟩
                        case measure => simp [intOf]; omega
              · obtain rfl : j = cs.length := by omega
                have HRF := Eqq.mk (show R2 = Au.insAll [] (Au.roundC (rulesL xs) l (fun x => Au.choicesF ks (l.drop x.1)) (old.map (·.1)) (last.take (i + 1))) by
                  rw [HRT2.out, HRE2.out, List.take_length])
                go_wp2_with fail
                go_roundw
                case rel => exact ⟨i + 1, R2, by omega, by go_num, HRF.out, by omega, HO.out, HR.out.mono (by omega), HBo.out⟩
                case measure => simp [intOf]; omega
          · obtain rfl : i = last.length := by omega
            have HRF := Eqq.mk (show R = Au.insAll [] (Au.roundC (rulesL xs) l (fun x => Au.choicesF ks (l.drop x.1)) (old.map (·.1)) last) by
              rw [HRE.out, List.take_length])
            have HDJ := Lib.hid (Au.round_new HRF.out)
            have HNH := Lib.hid (HH.out.next HTR.out HGR.out HHZ.out HRF.out)
            obtain ⟨hM0, hQ0, hQ1⟩ := HMo.out _ HBo.out
            have HM0 := Lib.hid hM0
            have HQ := Lib.hid (And.intro hQ0 hQ1)
            have HBG := Lib.hid (HWO.out _ HBo.out)
            have HNM := Lib.hid (HR.out.not_row HO.out)
            have HNL := Lib.hid (HM0.out.not_row HO.out)
            have hcn0 : last.length * 512 ≤ 802401 * 512 := Nat.mul_le_mul_right _ (by omega)
            clear hM0 hQ0 hQ1
            go_wp2_with (at_range; refine wpList_range_is _ rfl _ 97 rfl 96 9 keyState Tryz.underlying97 M (last.length * 512) (stF R) rfl HR.out ?_)
            intro w9 left cnt hrg hcp hcn hg9 hs9
            have HM9 := Lib.hid ((HM0.out.grown hg9 (by simp)).congr (hcp (stF old)))
            have HQ9 := Lib.hid (And.intro (cell_grownx hg9 HQ.out.1 (by simp)) (cell_grownx hg9 HQ.out.2 (by simp)))
            have HO9 := Lib.hid (HO.out.grown hg9 (fun b _ => by simp))
            have HB9 := Lib.hid (show Below G w1 w9 from HBG.out.grown hg9 (by have := HBG.out.size; have := HGG.out; omega) (fun b hb => by cases hb))
            obtain ⟨IT, hIT⟩ : ∃ IT, wr.heap.size = IT := ⟨_, rfl⟩
            have HOLT := Lib.hid (show ∀ b, u13.ownBlock = some b → b < IT from fun b hb => by have := (HO.out.block_lt b hb).2; omega)
            have hITM : M < IT := by omega
            rw [hIT] at hrg
            have HRG := Lib.hid hrg
            clear hrg hcp hg9 hs9
            (try go_wp2_with fail)
            (try go_frame)
            try rw [hIT]
            clear hIT
            go_loopg [26] cnt (fun g _ wr => ∃ (left : Lit → Bool) (c2 : Nat), c2 ≤ g ∧ c2 ≤ cnt ∧ RangeIs Tryz.prog 96 M IT (last.length * 512) (stF R) left c2 wr ∧ MapIs Tryz.prog 96 (G + 1) (n * 500000000 + 1 + (cnt - c2)) (copyF Tryz.prog 96 (stF R) (stF old) left) wr ∧ (wr.cell? ⟨G, 0, none⟩ = some (.int .i64 (s.size : Int)) ∧ wr.cell? ⟨G, 1, none⟩ = some (.string ⟨#[]⟩)) ∧ OwnG stE 96 M u13 (R.map (·.1)) wr ∧ Below G w1 wr)
            case atStart => exact ⟨_, cnt, Nat.le_refl _, Nat.le_refl _, HRG.out, by rw [Nat.sub_self]; exact HM9.out, HQ9.out, HO9.out, HB9.out⟩
            case round =>
              obtain ⟨left2, c2, hc2, hc2c, hrg, hm, ⟨q0, q1⟩, ho, hb⟩ := hrel
              have HRG2 := Lib.hid hrg
              have HMM := Lib.hid hm
              have HOO := Lib.hid ho
              have HBB := Lib.hid hb
              have HQQ := Lib.hid (And.intro q0 q1)
              have hne := hrg.ne
              have hGI : G + 1 < wr.heap.size := hm.lt
              clear hrg hm q0 q1 ho hb
              go_wp2_with (at_next; refine wpList_next_is _ rfl _ rfl 96 keyState M IT (last.length * 512) (stF R) _ _ rfl HRG2.out ?_ ?_)
              · intro hcp2
                have HM5 := Lib.hid (show MapIs Tryz.prog 96 (G + 1) ((n + 1) * 500000000 + 1) (stF (old ++ R)) wr from
                  (HMM.out.mono (by omega)).congr (fun key kl hk => by
                    rw [hcp2, hk, stF_app _ _ _ HDJ.out]))
                have HLL := Lib.hid HOO.out.lie
                have hbd := (HNH.out.bound HOK.out hll).1
                rw [List.length_append] at hbd
                clear hcp2
                go_wp2_with fail
                go_roundg (2 * (900000 - (old ++ R).length) + (if R = [] then 0 else 1))
                case rel => exact ⟨n + 1, _, _, HNH.out, HLL.out, HM5.out, HQQ.out, HBB.out, Nat.le_refl _⟩
                case measure =>
                  rw [List.length_append]
                  by_cases hR : R = []
                  · rw [if_pos hR, hR]; simp; omega
                  · rw [if_neg hR]
                    have := List.length_pos_iff.2 hR
                    omega
              · intro key u kl w10 cnt2 hkey hfu hrg2 hlt hg10 hs10 hen
                obtain ⟨⟨y1, y2⟩, k, rfl, hl, rfl⟩ := stF_some hfu
                have HKEY := Lib.hid hkey
                have HCP := Lib.hid (copyF_put (fO := stF old) (left := left2) keyState hkey hfu)
                have HM10 := Lib.hid (HMM.out.grown hg10 (by simp; omega))
                have HQ10 := Lib.hid (And.intro (cell_grownx hg10 HQQ.out.1 (by simp; omega)) (cell_grownx hg10 HQQ.out.2 (by simp; omega)))
                have HO10 := Lib.hid (HOO.out.grown hg10 (fun b hb e => by have := HOLT.out b hb; injection e with e; omega))
                have HB10 := Lib.hid (grown_below HBB.out hg10 (by have := HBB.out.size; have := HGG.out; omega) (by omega))
                have HRG10 := Lib.hid hrg2
                obtain ⟨q0, hq0⟩ : ∃ q, ba y2 = q := ⟨_, rfl⟩
                obtain ⟨k0, hk0⟩ : ∃ q, ba k = q := ⟨_, rfl⟩
                have hst : stV (y1, y2) = .agg #[.int .i64 (y1 : Int), .string q0] := by unfold stV; rw [hq0]
                rw [hst] at hen HKEY HCP
                rw [hk0] at hen HCP
                try rw [hst]
                try rw [hk0]
                have hml : n * 500000000 + 1 + (cnt - c2) < maxLen := by
                  have : n * 500000000 ≤ 802401 * 500000000 := Nat.mul_le_mul_right _ (by omega)
                  unfold maxLen; omega
                have hw10 : wr.heap.size ≤ w10.heap.size := by omega
                clear hkey hfu hrg2 hg10 hs10 hq0 hk0 hst hl
                go_wp2_with (refine upon_put (g := copyF Tryz.prog 96 (stF R) (stF old) (fun z => left2 z && !z.sameKey kl)) (HM10.out.alloc (.cells #[.int .i64 (y1 : Int), .string q0] 96)) keyState Tryz.underlying97 hml HKEY.out HCP.out.1 HCP.out.2 ?_)
                intro w11 hm11 hg11
                have HM11 := Lib.hid (hm11.mono (show n * 500000000 + 1 + (cnt - c2) + 1 ≤ n * 500000000 + 1 + (cnt - cnt2) by omega))
                have HRG11 := Lib.hid ((HRG10.out.alloc (.cells #[.int .i64 (y1 : Int), .string q0] 96)).kept hg11 (by simp; omega) (by simp; omega))
                have HO11 := Lib.hid ((HO10.out.alloc (.cells #[.int .i64 (y1 : Int), .string q0] 96)).grown hg11 (fun b hb e => by have := (HO10.out.block_lt b hb).1; injection e with e; omega))
                have HQ11 := Lib.hid (And.intro (cell_grownx hg11 (show (w10.alloc (.cells #[.int .i64 (y1 : Int), .string q0] 96)).cell? ⟨G, 0, none⟩ = some (.int .i64 (s.size : Int)) by rw [World.cell?_alloc_past _ _ _ (by omega)]; exact HQ10.out.1) (by simp)) (cell_grownx hg11 (show (w10.alloc (.cells #[.int .i64 (y1 : Int), .string q0] 96)).cell? ⟨G, 1, none⟩ = some (.string ⟨#[]⟩) by rw [World.cell?_alloc_past _ _ _ (by omega)]; exact HQ10.out.2) (by simp)))
                have HB11 := Lib.hid (grown_below (HB10.out.alloc (by have := HB10.out.size; have := HGG.out; omega) (.cells #[.int .i64 (y1 : Int), .string q0] 96)) hg11 (by have := HB10.out.size; have := HGG.out; simp; omega) (by omega))
                clear hm11 hg11 hen
                go_wp2_with fail
                go_roundg cnt2
                case rel => exact ⟨_, cnt2, Nat.le_refl _, by omega, HRG11.out, HM11.out, HQ11.out, HO11.out, HB11.out⟩
                case measure => omega
end Go.Proofs.YtgdcffahhpeibaaGreatDoor
