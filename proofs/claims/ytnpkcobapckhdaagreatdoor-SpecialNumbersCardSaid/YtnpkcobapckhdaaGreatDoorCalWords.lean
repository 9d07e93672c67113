/-
  Eras as plain lists beside the walks' own; what the Forms walks give back. No condition.
-/
import Derived.Test.YtnpkcobapckhdaaGreatDoorCalNum
import Derived.Test.YtnpkcobapckhdaaGreatDoorCalAdd
import Derived.Test.YtnpkcobapckhdaaGreatDoorCalEra2
namespace Go.Proofs.YtnpkcobapckhdaaGreatDoor
open Go.RowKit
/-- a list of strings of the call's own -/
def GivesC (L : List (List UInt8)) (w : World) (e : Ending) (w' : World) : Prop :=
  ∃ (v : Value) (xs : List ByteArray), xs.map (·.data.toList) = L ∧ Strs w.heap.size v xs w' ∧ e = .returned v ∧ Below w.heap.size w w'
theorem year_ge (y m d Y : Nat) (hok : Cal.ok y m d = true) (hY : Cal.ok Y 1 1 = true) (h : Cal.num Y 1 1 ≤ Cal.num y m d) : Y ≤ y := by
  rcases Nat.lt_or_ge y Y with h' | h'
  · have := num_lex y m d Y 1 1 hok hY (.inl (by omega))
    omega
  · exact h'
theorem first_days : Cal.num 2019 1 1 = 737060 ∧ Cal.num 1989 1 1 = 726103 ∧ Cal.num 1926 1 1 = 703092 ∧ Cal.num 1912 1 1 = 697978 ∧ Cal.num 1868 1 1 = 681908 := by decide
theorem first_ok : Cal.ok 2019 1 1 = true ∧ Cal.ok 1989 1 1 = true ∧ Cal.ok 1926 1 1 = true ∧ Cal.ok 1912 1 1 = true ∧ Cal.ok 1868 1 1 = true := by decide
/-- the era of a day, in words of the lists -/
theorem era_form (n y m d : Nat) (hok : Cal.ok y m d = true) (hnum : Cal.num y m d = n) (h : 681932 ≤ n) :
    ∃ (s : ByteArray) (e : List UInt8) (b k : Nat), CF.era n = some (e, b) ∧ y = b + k ∧ 1 ≤ k ∧ Is s e ∧ s.size = 6 ∧ eraRes n y = .tuple #[.string s, .int .i64 k, .bool true] := by
  obtain ⟨f1, f2, f3, f4, f5⟩ := first_days
  obtain ⟨o1, o2, o3, o4, o5⟩ := first_ok
  unfold CF.era eraRes
  by_cases c1 : 737180 ≤ n
  · have := year_ge y m d 2019 hok o1 (by show Cal.num 2019 1 1 ≤ _; omega)
    rw [if_pos c1, if_pos (by omega)]
    exact ⟨_, _, _, y - 2018, rfl, by omega, by omega, Is.mk _, rfl, by rw [show ((y - 2018 : Nat) : Int) = (y : Int) - 2019 + 1 by omega]; rfl⟩
  rw [if_neg c1, if_neg (show ¬ (737180 : Int) ≤ n by omega)]
  by_cases c2 : 726110 ≤ n
  · have := year_ge y m d 1989 hok o2 (by show Cal.num 1989 1 1 ≤ _; omega)
    rw [if_pos c2, if_pos (by omega)]
    exact ⟨_, _, _, y - 1988, rfl, by omega, by omega, Is.mk _, rfl, by rw [show ((y - 1988 : Nat) : Int) = (y : Int) - 1989 + 1 by omega]; rfl⟩
  rw [if_neg c2, if_neg (show ¬ (726110 : Int) ≤ n by omega)]
  by_cases c3 : 703450 ≤ n
  · have := year_ge y m d 1926 hok o3 (by show Cal.num 1926 1 1 ≤ _; omega)
    rw [if_pos c3, if_pos (by omega)]
    exact ⟨_, _, _, y - 1925, rfl, by omega, by omega, Is.mk _, rfl, by rw [show ((y - 1925 : Nat) : Int) = (y : Int) - 1926 + 1 by omega]; rfl⟩
  rw [if_neg c3, if_neg (show ¬ (703450 : Int) ≤ n by omega)]
  by_cases c4 : 698189 ≤ n
  · have := year_ge y m d 1912 hok o4 (by show Cal.num 1912 1 1 ≤ _; omega)
    rw [if_pos c4, if_pos (by omega)]
    exact ⟨_, _, _, y - 1911, rfl, by omega, by omega, Is.mk _, rfl, by rw [show ((y - 1911 : Nat) : Int) = (y : Int) - 1912 + 1 by omega]; rfl⟩
  rw [if_neg c4, if_neg (show ¬ (698189 : Int) ≤ n by omega)]
  · have := year_ge y m d 1868 hok o5 (by show Cal.num 1868 1 1 ≤ _; omega)
    rw [if_pos h, if_pos (by omega)]
    exact ⟨_, _, _, y - 1867, rfl, by omega, by omega, Is.mk _, rfl, by rw [show ((y - 1867 : Nat) : Int) = (y : Int) - 1868 + 1 by omega]; rfl⟩
theorem era_none (n : Nat) (h : n < 681932) : CF.era n = none := by
  unfold CF.era
  repeat rw [if_neg (by omega)]
theorem eraN (n y m d : Nat) (hok : Cal.ok y m d = true) (hnum : Cal.num y m d = n) {w w' : World} {e : Ending} (h : EraOf n w e w') :
    (CF.era n = none ∧ e = .returned (.tuple #[.string ⟨#[]⟩, .int .i64 0, .bool false]) ∧ Below w.heap.size w w') ∨
    ∃ (s : ByteArray) (t : List UInt8) (b k : Nat), CF.era n = some (t, b) ∧ y = b + k ∧ 1 ≤ k ∧ Is s t ∧ s.size = 6 ∧ e = .returned (.tuple #[.string s, .int .i64 k, .bool true]) ∧ Below w.heap.size w w' := by
  rcases h with ⟨h1, h2, h3⟩ | ⟨h1, y', m', d', ho', hn', h2, h3⟩
  · exact .inl ⟨era_none n (by omega), h2, h3⟩
  · obtain ⟨rfl, -, -⟩ := Cal.num_inj y' m' d' y m d ho' hok (hn'.trans hnum.symm)
    obtain ⟨s, t, b, k, a1, a2, a3, a4, a5, a6⟩ := era_form n y m d hok hnum (by omega)
    exact .inr ⟨s, t, b, k, a1, a2, a3, a4, a5, by rw [h2, a6], h3⟩
/-- a day's date in natural numbers -/
theorem dateN {n : Nat} {w w' : World} {e : Ending} (h : DateOf n w e w') :
    ∃ y m d : Nat, Cal.ok y m d = true ∧ Cal.num y m d = n ∧ 1 ≤ y ∧ y ≤ 9999 ∧ 1 ≤ m ∧ m ≤ 12 ∧ 1 ≤ d ∧ d ≤ 31 ∧ e = .returned (.tuple #[.int .i64 y, .int .i64 m, .int .i64 d, .bool true]) ∧ w' = w := by
  obtain ⟨y, m, d, h1, h2, h3, h4⟩ := h
  have h5 := (Cal.ok_iff y m d).1 h1
  have h6 := Cal.mlen_bd y m
  obtain ⟨Y, rfl⟩ : ∃ Y : Nat, y = Y := ⟨y.toNat, by omega⟩
  obtain ⟨M, rfl⟩ : ∃ M : Nat, m = M := ⟨m.toNat, by omega⟩
  obtain ⟨D, rfl⟩ : ∃ D : Nat, d = D := ⟨d.toNat, by omega⟩
  exact ⟨Y, M, D, h1, h2, by omega, by omega, by omega, by omega, by omega, by omega, h3, h4.symm⟩
theorem wd_is (n : Nat) : Is (wdName ((n : Int) % 7)) (CF.wd (n % 7)) := by
  have h : n % 7 = 0 ∨ n % 7 = 1 ∨ n % 7 = 2 ∨ n % 7 = 3 ∨ n % 7 = 4 ∨ n % 7 = 5 ∨ n % 7 = 6 := by omega
  rcases h with e | e | e | e | e | e | e <;> rw [show (n : Int) % 7 = ((n % 7 : Nat) : Int) by omega, e] <;> exact Is.mk _
theorem rnum1_any (n : Nat) (w : World) (h1 : 1 ≤ n) (hn : n < 10000) :
    Calls Tryz.prog 87 #[.int .i64 n, .int .i64 1] w (GivesS (Num.digs n) w) := by
  have h := rnumber_any n 1 w h1 hn (by decide)
  have e : CF.pad 1 n = Num.digs n := by unfold CF.pad; rw [show 1 - (Num.digs n).length = 0 by have := (Num.digs_len n).1; omega]; rfl
  rw [e] at h
  exact h
namespace CF
theorem form1_len (y m d : Nat) : (form1 y m d).length ≤ 100 := by
  have a := (Num.digs_len y).2
  have b := short_len m d
  unfold form1
  simp only [List.length_append]
  have : nen.length = 3 := rfl
  omega
theorem form2_len (n y m d : Nat) : (form2 n y m d).length ≤ 100 := by
  have a := (Num.digs_len y).2
  have b := short_len m d
  have c := wd_len (n % 7)
  unfold form2
  simp only [List.length_append, List.length_cons, List.length_nil]
  have : nen.length = 3 := rfl
  omega
theorem form3_len (y m d : Nat) : (form3 y m d).length ≤ 100 := by
  have a := pad_len 4 y
  have b := pad_len 2 m
  have c := pad_len 2 d
  unfold form3
  simp only [List.length_append, List.length_cons, List.length_nil]
  omega
theorem form4_len (y m d : Nat) : (form4 y m d).length ≤ 100 := by
  have a := pad_len 4 y
  have b := pad_len 2 m
  have c := pad_len 2 d
  unfold form4
  simp only [List.length_append, List.length_cons, List.length_nil]
  omega
theorem era_name_len {n b : Nat} {e : List UInt8} (h : era n = some (e, b)) : e.length = 6 := by
  unfold era at h
  repeat' split at h
  all_goals first | (cases h; rfl) | cases h
theorem yearA_len (k : Nat) : (yearA k).length ≤ 4 := by
  unfold yearA
  split
  · decide
  · exact (Num.digs_len k).2
theorem yearB_len (k : Nat) : (yearB k).length ≤ 40 := by
  unfold yearB
  split
  · decide
  · exact kan_len k
theorem form5_len {n b : Nat} {e : List UInt8} (h : era n = some (e, b)) (k m d : Nat) : (form5 e k m d).length ≤ 100 := by
  have a := era_name_len h
  have b := short_len m d
  have c := yearA_len k
  unfold form5
  simp only [List.length_append]
  have : nen.length = 3 := rfl
  omega
theorem form6_len {n b : Nat} {e : List UInt8} (h : era n = some (e, b)) (k m d : Nat) : (form6 e k m d).length ≤ 200 := by
  have a := era_name_len h
  have b := yearB_len k
  have c := kan_len m
  have c' := kan_len d
  unfold form6
  simp only [List.length_append]
  have : nen.length = 3 := rfl
  have : gatsu.length = 3 := rfl
  have : nichi.length = 3 := rfl
  omega
end CF
/-- behind a call that keeps what was there, a row stands -/
theorem ownsRow_below {B : Nat} {e : TypeId} {k : Nat} {v : Value} {n : Nat} {xs : List Value} {w w' : World} (h : w.ownsRow B e k v n xs) (hb : Below w.heap.size w w') : w'.ownsRow B e k v n xs := by
  obtain ⟨h1, h2 | ⟨g, cap, cur, hv, hB, hg, r⟩⟩ := h
  · exact ⟨h1, .inl h2⟩
  · exact ⟨h1, .inr ⟨g, cap, cur, hv, hB, by rw [hb.block g (heap_lt hg)]; exact hg, r⟩⟩
theorem two_new (w : World) (s t : ByteArray) : ∀ (j : Nat) (u : Value), [Value.string s, .string t][j]? = some u → (w.alloc (.cells #[.string s, .string t] 9)).cell? ((⟨w.heap.size, 0, none⟩ : Addr).add j) = some u :=
  World.news_of_block (MapKept.heap_alloc w (.cells #[.string s, .string t] 9)).1
theorem is_nen : Is ⟨#[229, 185, 180]⟩ CF.nen := Is.mk _
theorem is_ga : Is ⟨#[230, 156, 136]⟩ CF.gatsu := Is.mk _
theorem is_ni : Is ⟨#[230, 151, 165]⟩ CF.nichi := Is.mk _
namespace CF
theorem flat3_form1 {y m d : Nat} : [Num.digs y, nen, short m d].flatten = form1 y m d := by simp [form1]
theorem flat6_form2 {n y m d : Nat} : [Num.digs y, nen, short m d, [40], wd (n % 7), [41]].flatten = form2 n y m d := by simp [form2]
theorem flat5_form3 {y m d : Nat} : [pad 4 y, [47], pad 2 m, [47], pad 2 d].flatten = form3 y m d := by simp [form3]
theorem flat5_form4 {y m d : Nat} : [pad 4 y, [45], pad 2 m, [45], pad 2 d].flatten = form4 y m d := by simp [form4]
theorem flat4_form5 {e : List UInt8} {k m d : Nat} : [e, yearA k, nen, short m d].flatten = form5 e k m d := by simp [form5]
theorem flat7_form6 {e : List UInt8} {k m d : Nat} : [e, yearB k, nen, kan m, gatsu, kan d, nichi].flatten = form6 e k m d := by simp [form6]
theorem flat1_short {m d : Nat} : [short m d].flatten = short m d := by simp
def slash (m d : Nat) : List UInt8 := Num.digs m ++ [47] ++ Num.digs d
theorem slash_len (m d : Nat) : (slash m d).length ≤ 100 := by
  have a := (Num.digs_len m).2
  have b := (Num.digs_len d).2
  unfold slash
  simp only [List.length_append, List.length_cons, List.length_nil]
  omega
theorem flat3_slash {m d : Nat} : [Num.digs m, [47], Num.digs d].flatten = slash m d := by simp [slash]
end CF
end Go.Proofs.YtnpkcobapckhdaaGreatDoor
