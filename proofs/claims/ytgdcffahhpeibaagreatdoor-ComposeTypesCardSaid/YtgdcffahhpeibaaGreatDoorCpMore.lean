/-
  Bytes as numbers; sizes of edited buffers; the keys of a text. No condition.
-/
import Derived.Test.YtgdcffahhpeibaaGreatDoorCpE
namespace Go.Proofs.YtgdcffahhpeibaaGreatDoor
open Go.RowKit
set_option linter.unusedVariables false
theorem u8_of {a : Int} (h : (Lit.int .u8 a).wf = true) : ∃ c : UInt8, a = (c.toNat : Int) := by
  have hx : 0 ≤ a ∧ a ≤ 255 := by simpa [Lit.wf, IntKind.min, IntKind.max, IntKind.signed, IntKind.bits] using h
  refine ⟨UInt8.ofNat a.toNat, ?_⟩
  simp only [UInt8.toNat_ofNat']
  omega
theorem byte_ch (c : UInt8) : UT.isCh c.toNat = true := by
  have := c.toNat_lt
  unfold UT.isCh
  exact decide_eq_true ⟨by omega, by omega⟩
theorem ins_fits {b : Cp.Buf} {new : List Cp.Item} {p : List UInt8} (h : Fits b.items b.pend) (hn : b.items.length + new.length ≤ 2000000) (hx : ∀ x ∈ new, x.1.length ≤ 2000000 ∧ x.2.length ≤ 2000000) (hp : p.length ≤ 2000000) : Fits (Cp.ins b new).items p := by
  refine ⟨?_, hp, fun x hxm => ?_⟩
  · show (b.items.take b.caret.toNat ++ new ++ b.items.drop b.caret.toNat).length ≤ _
    rw [List.length_append, List.length_append, List.length_take, List.length_drop]; omega
  · rcases List.mem_append.1 hxm with hxm | hxm
    · rcases List.mem_append.1 hxm with hxm | hxm
      · exact h.x x (List.mem_of_mem_take hxm)
      · exact hx x hxm
    · exact h.x x (List.mem_of_mem_drop hxm)
theorem mk_fits {raw : List UInt8} {cs : List Nat} (hr : raw.length ≤ 2000000) : ∀ x ∈ Cp.mkItems raw cs, x.1.length ≤ 2000000 ∧ x.2.length ≤ 2000000 := by
  intro x hx
  obtain ⟨h1, c, _, h2⟩ := Cp.mk_mem x hx
  refine ⟨?_, by rw [h2]; have := (UT.encodeRune_len c).2; omega⟩
  rcases h1 with h1 | h1 <;> rw [h1]
  · exact hr
  · simp
theorem put_fits {b b' : Cp.Buf} {raw out : List UInt8} (h : Cp.put b raw out = (b', 0)) (hf : Fits b.items b.pend) (hr : raw.length ≤ 2000000) : Fits b'.items b'.pend := by
  obtain ⟨h1, h2, h3, h4, h5, rfl⟩ := Cp.put_ok h
  exact ins_fits hf (by rw [mk_len]; omega) (mk_fits hr) hf.p
theorem key_fits {l : List Ro.Rule} {b b' : Cp.Buf} {c : UInt8} (h : Cp.key l b c = (b', 0)) (hf : Fits b.items b.pend) : Fits b'.items b'.pend := by
  obtain ⟨h1, h2, h3, h4, rfl⟩ := Cp.key_ok h
  have hp := Cp.pend_key h1 h2
  have he := Cp.ends_ok (t := (Au.step l b.pend c).2) hp.1
  exact ins_fits hf (by rw [mk_len]; omega) (mk_fits (by have h9 := hp.2; have h10 := he.2; omega)) (show (Au.step l b.pend c).2.length ≤ 2000000 by omega)
theorem rules9_any (v : Value) (xs : List RuleB) (w : World) (h : LieR v xs w) (hn : xs.length ≤ 1000000) :
    Calls Tryz.prog 28 #[v] w fun e w' => (∃ v', e = .returned v' ∧ LieR v' xs w') ∧ Below w.heap.size w w' :=
  (rules8_any v xs w h hn).mono fun e w' ⟨v', he, ho, hb⟩ => ⟨⟨v', he, ho.lie⟩, hb⟩
theorem Cp.key_zero {l : List Ro.Rule} {b : Cp.Buf} {c : UInt8} (h : (Cp.key l b c).2 ≠ 0) : (Cp.key l b c).1 = Cp.zero := by
  unfold Cp.key at h ⊢
  split
  · rename_i h1
    rw [if_pos h1] at h
    split
    · rename_i h2
      rw [if_pos h2] at h
      split
      · rename_i h3
        rw [if_pos h3] at h
        exact absurd rfl h
      · rfl
    · rfl
  · rfl
theorem Cp.put_zero {b : Cp.Buf} {r o : List UInt8} (h : (Cp.put b r o).2 ≠ 0) : (Cp.put b r o).1 = Cp.zero := by
  unfold Cp.put at h ⊢
  split
  · rename_i h1
    rw [if_pos h1] at h
    split
    · rename_i h2
      rw [if_pos h2] at h
      split
      · rename_i h3
        rw [if_pos h3] at h
        exact absurd rfl h
      · rfl
    · rfl
  · rfl
theorem move_back {xs : List Cp.Item} {k : Nat} (hv : Cp.valid ⟨xs, (k : Int), []⟩ = true) : Fits xs [] → Fits (Cp.move ⟨xs, (k : Int), []⟩ (-1)).items (Cp.move ⟨xs, (k : Int), []⟩ (-1)).pend := by
  intro h
  unfold Cp.move
  split
  · exact h
  · exact h
theorem without_fits {b : Cp.Buf} (h : Fits b.items b.pend) (i : Nat) (c : Int) : Fits (Cp.without b i c).items (Cp.without b i c).pend := by
  refine ⟨?_, h.p, fun x hx => ?_⟩
  · show (b.items.take i ++ b.items.drop (i + 1)).length ≤ _
    have := h.n
    rw [List.length_append, List.length_take, List.length_drop]; omega
  · rcases List.mem_append.1 hx with hx | hx
    · exact h.x x (List.mem_of_mem_take hx)
    · exact h.x x (List.mem_of_mem_drop hx)
theorem del_fits {b : Cp.Buf} (h : Fits b.items b.pend) : Fits (Cp.del b).items (Cp.del b).pend := by
  unfold Cp.del
  split
  · exact without_fits h _ _
  · exact h
theorem move_fits {b : Cp.Buf} {z : Int} (h : Fits b.items b.pend) : Fits (Cp.move b z).items (Cp.move b z).pend := by
  unfold Cp.move
  split
  · exact h
  · exact h
theorem flush_fits {l : List Ro.Rule} {b : Cp.Buf} (h : Fits b.items b.pend) : Fits (Cp.flush l b).items (Cp.flush l b).pend := by
  unfold Cp.flush
  split
  · rename_i hv
    have := (Cp.valid_iff.1 hv.1).1
    exact ins_fits (b := { b with pend := [] }) (p := []) ⟨h.n, Nat.zero_le _, h.x⟩ (by rw [mk_len, List.length_take]; show b.items.length + _ ≤ _; omega) (mk_fits h.p) (Nat.zero_le _)
  · exact h
theorem back_fits {b : Cp.Buf} (h : Fits b.items b.pend) : Fits (Cp.back b).items (Cp.back b).pend := by
  have hw : ∀ i c, Fits (Cp.without b i c).items (Cp.without b i c).pend := fun i c => by
    refine ⟨?_, h.p, fun x hx => ?_⟩
    · show (b.items.take i ++ b.items.drop (i + 1)).length ≤ _
      have := h.n
      rw [List.length_append, List.length_take, List.length_drop]; omega
    · rcases List.mem_append.1 hx with hx | hx
      · exact h.x x (List.mem_of_mem_take hx)
      · exact h.x x (List.mem_of_mem_drop hx)
  unfold Cp.back
  split
  · split
    · split
      · exact hw _ _
      · exact h
    · exact ⟨h.n, by show (b.pend.take _).length ≤ _; rw [List.length_take]; have := h.p; omega, h.x⟩
  · exact h
end Go.Proofs.YtgdcffahhpeibaaGreatDoor
