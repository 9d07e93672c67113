/-
  cmp.Compare of strings, roman.Default$2, and slices.SortFunc of the rules of the document: they end in order. No condition.
-/
import Derived.Test.YtgdcffahhpeibaaGreatDoorDefBase
import Derived.Test.YtgdcffahhpeibaaGreatDoorShelf3
import Derived.Sort.Walk0
namespace Go.Proofs.YtgdcffahhpeibaaGreatDoor
open Go.RowKit Go.Sort Go.Lib
/-- how two strings compare -/
def cmpB (a b : ByteArray) : Int := if a.data.toList < b.data.toList then -1 else if b.data.toList < a.data.toList then 1 else 0
def cfR (x y : RuleB) : Int := cmpB x.1 y.1
theorem ltR (x y : RuleB) : ltOf cfR x y = decide (x.1.data.toList < y.1.data.toList) := by
  unfold ltOf cfR cmpB
  by_cases h1 : x.1.data.toList < y.1.data.toList
  · simp [h1]
  · by_cases h2 : y.1.data.toList < x.1.data.toList <;> simp [h1, h2]
theorem swoR : SWO (ltOf cfR) where
  irrefl x := by rw [ltR]; simp [List.lt_irrefl]
  trans x y z h1 h2 := by rw [ltR] at *; simp at *; exact List.lt_trans h1 h2
  ntrans x y z h1 h2 := by
    rw [ltR] at *
    simp only [decide_eq_false_iff_not, List.not_lt] at *
    exact List.le_trans h2 h1
set_option maxRecDepth 100000 in
theorem nan_any (a : ByteArray) (w : World) : Calls Tryz.prog 79 #[.string a] w fun e w' => e = .returned (.bool false) ∧ w' = w := by
  go_enter Tryz.func79, Tryz.ntmps79
  go_wp2_with fail
  go_ret
  exact ⟨rfl, rfl⟩
set_option maxRecDepth 100000 in
theorem cmp_any (a b : ByteArray) (w : World) : Calls Tryz.prog 48 #[.string a, .string b] w fun e w' => e = .returned (.int .i64 (cmpB a b)) ∧ w' = w := by
  have h1 := bytesLess_eq a.toList b.toList
  have h2 := bytesLess_eq b.toList a.toList
  rw [Lib.toList_data, Lib.toList_data] at h1 h2
  obtain ⟨z, hz⟩ : ∃ z, cmpB a b = z := ⟨_, rfl⟩
  have HZ := Eqq.mk hz
  unfold cmpB at hz
  by_cases d1 : a.data.toList < b.data.toList
  · rw [if_pos d1] at hz
    subst hz
    have e1 : Op.bytesLess a.toList b.toList = true := by rw [Lib.toList_data, Lib.toList_data, h1]; exact decide_eq_true d1
    clear h1 h2 d1
    go_enter Tryz.func48, Tryz.ntmps48
    go_wp2_with (first | (go_at_call 79; refine (nan_any a _).mono ?_; rintro e w' ⟨rfl, rfl⟩) | (go_at_call 79; refine (nan_any b _).mono ?_; rintro e w' ⟨rfl, rfl⟩))
    go_ret
    exact ⟨by rw [HZ.out]; rfl, rfl⟩
  · have e1 : Op.bytesLess a.toList b.toList = false := by rw [Lib.toList_data, Lib.toList_data, h1]; exact decide_eq_false d1
    rw [if_neg d1] at hz
    by_cases d2 : b.data.toList < a.data.toList
    · rw [if_pos d2] at hz
      subst hz
      have e3 : (a.toList == b.toList) = false := by rw [beq_eq_false_iff_ne, Lib.toList_data, Lib.toList_data]; intro e; rw [e] at d2; exact List.lt_irrefl _ d2
      clear h1 h2 d1 d2
      go_enter Tryz.func48, Tryz.ntmps48
      go_wp2_with (first | (go_at_call 79; refine (nan_any a _).mono ?_; rintro e w' ⟨rfl, rfl⟩) | (go_at_call 79; refine (nan_any b _).mono ?_; rintro e w' ⟨rfl, rfl⟩))
      go_ret
      exact ⟨by rw [HZ.out]; rfl, rfl⟩
    · rw [if_neg d2] at hz
      subst hz
      have e3 : (a.toList == b.toList) = true := by rw [beq_iff_eq, Lib.toList_data, Lib.toList_data]; exact List.le_antisymm (List.not_lt.1 d2) (List.not_lt.1 d1)
      clear h1 h2 d1 d2
      go_enter Tryz.func48, Tryz.ntmps48
      go_wp2_with (first | (go_at_call 79; refine (nan_any a _).mono ?_; rintro e w' ⟨rfl, rfl⟩) | (go_at_call 79; refine (nan_any b _).mono ?_; rintro e w' ⟨rfl, rfl⟩))
      go_ret
      exact ⟨by rw [HZ.out]; rfl, rfl⟩
set_option maxRecDepth 100000 in
theorem clos_any (x y : RuleB) (W : World) : Calls Tryz.prog 47 #[ruleV x, ruleV y] W fun e w' => e = .returned (.int .i64 (cfR x y)) ∧ ∃ q os', w' = grow (W.drewN q) os' := by
  obtain ⟨x1, x2, x3⟩ := x
  obtain ⟨y1, y2, y3⟩ := y
  have hc := fun W' => cmp_any x1 y1 W'
  obtain ⟨z, hz⟩ : ∃ z, cmpB x1 y1 = z := ⟨_, rfl⟩
  have HZ := Eqq.mk (show cfR (x1, x2, x3) (y1, y2, y3) = z from hz)
  rw [hz] at hc
  clear hz
  go_enter Tryz.func47, Tryz.ntmps47
  go_wp2_with (go_at_call 48; refine (hc _).mono ?_; rintro e w' ⟨rfl, rfl⟩)
  go_ret
  exact ⟨by rw [HZ.out]; rfl, 0, _, by rw [alloc_eq_grow, alloc_eq_grow, grow_grow]; rfl⟩
theorem cmpLays (blk off size : Nat) (w : World) : CmpLays Tryz.prog 47 #[] ruleC 3 cfR blk off size w :=
  fun _ _ _ _ x y => clos_any x y _
/-- the rules in order, whatever order they came in -/
theorem def_of_perm {l : List Ro.Rule} (hp : l.Perm Ro.defL) (hs : l.Pairwise (fun a b => ¬ b.1 < a.1)) : l = Ro.defL := by
  have hd : Ro.defL.Pairwise (fun a b => ¬ b.1 < a.1) := by decide +kernel
  have hk : ∀ a ∈ Ro.defL, ∀ b ∈ Ro.defL, a.1 = b.1 → a = b := by decide +kernel
  refine hp.eq_of_pairwise (le := fun a b => ¬ b.1 < a.1) (fun a b ha hb h1 h2 => ?_) hs hd
  exact hk a (hp.mem_iff.1 ha) b hb (List.le_antisymm (List.not_lt.1 h1) (List.not_lt.1 h2))
theorem heap_sorted (w : World) (blk off n : Nat) (d : Array RuleB) (os : Array Obj) (c : Nat) (hc : c < w.heap.size) (hne : c ≠ blk) : (sortWorldK ruleC 3 w blk off n d os).heap[c]? = w.heap[c]? := by
  unfold sortWorldK grow putRowK putRow mapBlock Sort.ahead
  dsimp only
  rw [Array.getElem?_append_left (by simpa using hc), Array.getElem?_modify, if_neg (Ne.symm hne)]
theorem size_sorted (w : World) (blk off n : Nat) (d : Array RuleB) (os : Array Obj) : w.heap.size ≤ (sortWorldK ruleC 3 w blk off n d os).heap.size := size_sortWorldK_c ruleC 3 w blk off n d os
theorem below_sorted (w : World) (B blk off n : Nat) (d : Array RuleB) (os : Array Obj) (hB : B ≤ w.heap.size) (hb : B ≤ blk) : Below B w (sortWorldK ruleC 3 w blk off n d os) :=
  ⟨rfl, rfl, rfl, size_sorted w blk off n d os, fun c hc => heap_sorted w blk off n d os c (by omega) (by omega)⟩
theorem own_holds {T : TypeId} {B g cap : Nat} {xs : List RuleB} {w : World} (h : OwnR T B (.slice (some ⟨g, 0, none⟩) xs.length cap) xs w) : HoldsK ruleC 3 w g 0 xs.toArray ∧ g < w.heap.size ∧ B ≤ g := by
  obtain ⟨h1, ⟨hv, _⟩ | ⟨g', cap', cur, hv, hB, hg, hc, hm, hs, ht⟩⟩ := h
  · cases hv
  · injection hv with hv
    injection hv with hv
    injection hv with hv
    subst hv
    refine ⟨fun j hj => ?_, heap_lt hg, hB⟩
    rw [size_flatK] at hj
    have hj3 : j < xs.length * 3 := by simpa using hj
    rw [get_flatK _ _ _ _ hj, Nat.zero_add]
    refine ⟨?_, Lib.frozen_of_heap hg _⟩
    obtain ⟨r, hr⟩ : ∃ r, xs[j / 3]? = some r := ⟨_, List.getElem?_eq_getElem (by omega)⟩
    have hr2 : xs.toArray[j / 3]! = r := by
      rw [getElem!_pos _ _ (by simp; omega)]
      have := List.getElem?_eq_getElem (l := xs) (i := j / 3) (by omega)
      rw [hr] at this
      injection this with this
      simp [this]
    rw [hr2, Lib.cell_of_heap hg]
    have ha := ruleE.cells_at xs (j / 3) r (j % 3) hr (Nat.mod_lt _ (by decide))
    have hd : j / 3 * 3 + j % 3 = j := by omega
    change (cellsR xs)[j / 3 * 3 + j % 3]? = (ruleC r)[j % 3]? at ha
    rw [hd, ← ht, List.getElem?_take, if_pos hj3, Array.getElem?_toList] at ha
    rw [ha]
    have h3 : j % 3 < 3 := Nat.mod_lt _ (by decide)
    rw [getElem!_pos (ruleC r) (j % 3) (by exact h3)]
    exact List.getElem?_eq_getElem _
theorem holds_lie {g cap : Nat} {d : Array RuleB} {w : World} (h : HoldsK ruleC 3 w g 0 d) (hc : d.size ≤ cap) : LieR (.slice (some ⟨g, 0, none⟩) d.size cap) d.toList w := by
  refine ⟨_, cap, by rw [Array.length_toList], by rw [Array.length_toList]; exact hc, fun k r hk => ⟨g, 0, rfl, ?_⟩⟩
  have hkl : k < d.size := by
    rcases Nat.lt_or_ge k d.size with h' | h'
    · exact h'
    · rw [Array.getElem?_toList, Array.getElem?_eq_none h'] at hk; cases hk
  have e : ∀ j, j < 3 → w.cell? ⟨g, 0 + k * 3 + j, none⟩ = some (ruleC r)[j]! := fun j hj => by
    have := (h (k * 3 + j) (by rw [size_flatK]; omega)).1
    rw [get_flatK _ _ _ _ (by omega), show (k * 3 + j) / 3 = k by omega, show (k * 3 + j) % 3 = j by omega, Nat.zero_add] at this
    rw [Nat.zero_add, this]
    rw [Array.getElem?_toList, Array.getElem?_eq_getElem hkl] at hk
    injection hk with hk
    rw [getElem!_pos d k hkl, hk]
    rfl
  exact ⟨e 0 (by omega), e 1 (by omega), e 2 (by omega)⟩
set_option maxRecDepth 100000 in
set_option maxHeartbeats 4000000 in
theorem sort_own (B g cap : Nat) (xs : List RuleB) (w : World) (ho : OwnR 87 B (.slice (some ⟨g, 0, none⟩) xs.length cap) xs w) (hcap : xs.length ≤ cap) (hB : B ≤ w.heap.size) (hp : (rulesL xs).Perm Ro.defL) :
    Calls Tryz.prog 46 #[.slice (some ⟨g, 0, none⟩) xs.length cap, .func (.func 47) #[] #[]] w fun e w' =>
      e = .returned (.tuple #[]) ∧ (∃ ys, rulesL ys = Ro.defL ∧ ys.length = xs.length ∧ LieR (.slice (some ⟨g, 0, none⟩) xs.length cap) ys w') ∧ Below B w w' ∧ (∀ c, c < w.heap.size → c ≠ g → w'.heap[c]? = w.heap[c]?) ∧ B ≤ g ∧ (∀ j, j < xs.length * 3 → w'.frozen? ⟨g, j, none⟩ = false) := by
  obtain ⟨hH, hblk, hBg⟩ := own_holds ho
  have eg : ∀ args w, (callFunc 47 args).run Tryz.prog w = .ok (.enter 47 args) w := enters_of Tryz.func47 (by kernel_rfl) rfl
  have hcon := AnyQ.slices_SortFunc Tryz.sortRule 3 Tryz.isAgg87 Tryz.sizeOf87 ruleC (fun _ => rfl) (fun x v hv => ruleE.one x v hv) cfR swoR 47 #[] g 0 cap xs.toArray w eg (cmpLays g 0 xs.toArray.size w) hH hblk (by have := hp.length_eq; unfold rulesL at this; rw [List.length_map, Ro.def_len] at this; simp; omega)
  change Calls Tryz.prog 46 _ _ _ at hcon
  simp only [List.size_toArray] at hcon
  refine hcon.mono ?_
  rintro e w' ⟨he, d', n, os, hpm, hst, rfl⟩
  obtain ⟨hsz, _, hperm⟩ := hpm
  simp only [List.size_toArray] at hsz
  have hx1 : (xs.toArray.extract 0 xs.length).toList = xs := by simp
  have hx2 : (d'.extract 0 xs.length).toList = d'.toList := by rw [← hsz]; simp
  rw [hx1, hx2] at hperm
  have hpl : (rulesL d'.toList).Perm Ro.defL := (hperm.map ruleL).trans hp
  have hsl : (rulesL d'.toList).Pairwise (fun a b => ¬ b.1 < a.1) := by
    unfold rulesL
    rw [List.pairwise_map, List.pairwise_iff_getElem]
    intro i j hi hj hij
    rw [Array.length_toList] at hi hj
    have := hst i j (Nat.zero_le _) hij (by omega)
    rw [ltR, getElem!_pos d' j hj, getElem!_pos d' i hi, decide_eq_false_iff_not] at this
    rw [Array.getElem_toList, Array.getElem_toList]
    exact this
  have hH2 := holdsK_sortWorldK_c ruleC 3 w g 0 xs.toArray d' n os hH hblk (by simpa using hsz)
  refine ⟨he, ⟨d'.toList, def_of_perm hpl hsl, by rw [Array.length_toList]; exact hsz, ?_⟩, below_sorted w B g 0 n d' os hB hBg, fun c hc hne => heap_sorted w g 0 n d' os c hc hne, hBg, fun j hj => ?_⟩
  · have := holds_lie (cap := cap) hH2 (by omega)
    rwa [hsz] at this
  · have := (hH2 j (by rw [size_flatK, hsz]; exact hj)).2
    rwa [Nat.zero_add] at this
theorem sort_any (B g cap : Nat) (xs : List RuleB) (w : World) (ho : OwnR 87 B (.slice (some ⟨g, 0, none⟩) xs.length cap) xs w) (hcap : xs.length ≤ cap) (hB : B ≤ w.heap.size) (hp : (rulesL xs).Perm Ro.defL) :
    Calls Tryz.prog 46 #[.slice (some ⟨g, 0, none⟩) xs.length cap, .func (.func 47) #[] #[]] w fun e w' =>
      e = .returned (.tuple #[]) ∧ (∃ ys, rulesL ys = Ro.defL ∧ ys.length = xs.length ∧ LieR (.slice (some ⟨g, 0, none⟩) xs.length cap) ys w') ∧ Below B w w' ∧ (∀ c, c < w.heap.size → c ≠ g → w'.heap[c]? = w.heap[c]?) :=
  (sort_own B g cap xs w ho hcap hB hp).mono fun _ _ ⟨h1, h2, h3, h4, _⟩ => ⟨h1, h2, h3, h4⟩
end Go.Proofs.YtgdcffahhpeibaaGreatDoor
