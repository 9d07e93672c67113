/-
  caldate.Weekday, henkanref04.Weekday, caldate.Era, henkanref04.Era and the law's own works, by their contracts. No condition.
-/
import Derived.Test.YtnpkcobapckhdaaGreatDoorCalDate
import Derived.Below
namespace Go.Proofs.YtnpkcobapckhdaaGreatDoor
open Go.RowKit
def wdName (r : Int) : ByteArray := if r = 0 then ⟨#[230, 151, 165]⟩ else if r = 1 then ⟨#[230, 156, 136]⟩ else if r = 2 then ⟨#[231, 129, 171]⟩ else if r = 3 then ⟨#[230, 176, 180]⟩ else if r = 4 then ⟨#[230, 156, 168]⟩ else if r = 5 then ⟨#[233, 135, 145]⟩ else ⟨#[229, 156, 159]⟩
set_option maxHeartbeats 400000 in
theorem wd_yes (n : Int) (w : World) (h1 : 1 ≤ n) (h2 : n ≤ 3652059) :
    Calls Tryz.prog 54 #[.int .i64 n] w fun e w' => e = .returned (.tuple #[.string (wdName (n % 7)), .bool true]) ∧ Below w.heap.size w w' := by
  have hm : n % 7 = 0 ∨ n % 7 = 1 ∨ n % 7 = 2 ∨ n % 7 = 3 ∨ n % 7 = 4 ∨ n % 7 = 5 ∨ n % 7 = 6 := by omega
  rcases hm with e | e | e | e | e | e | e
  all_goals
    go_enter Tryz.func54, Tryz.ntmps54
    go_wp2_with fail
    go_ret2
    exact ⟨by rw [e]; rfl, (Below.refl _ _).alloc (Nat.le_refl _) _⟩
set_option maxHeartbeats 400000 in
theorem rwd_yes (n : Int) (w : World) (h1 : 1 ≤ n) (h2 : n ≤ 3652059) :
    Calls Tryz.prog 86 #[.int .i64 n] w fun e w' => e = .returned (.tuple #[.string (wdName (n % 7)), .bool true]) ∧ Below w.heap.size w w' := by
  have hm : n % 7 = 0 ∨ n % 7 = 1 ∨ n % 7 = 2 ∨ n % 7 = 3 ∨ n % 7 = 4 ∨ n % 7 = 5 ∨ n % 7 = 6 := by omega
  rcases hm with e | e | e | e | e | e | e
  all_goals
    go_enter Tryz.func86, Tryz.ntmps86
    go_wp2_with fail
    go_ret2
    exact ⟨by rw [e]; rfl, (Below.refl _ _).alloc (Nat.le_refl _) _⟩
set_option maxHeartbeats 400000 in
theorem wd_no (n : Int) (w : World) (h : n < 1 ∨ 3652059 < n) :
    Calls Tryz.prog 54 #[.int .i64 n] w fun e w' => e = .returned (.tuple #[.string ⟨#[]⟩, .bool false]) ∧ w = w' := by
  by_cases c : n < 1
  · clear h
    go_enter Tryz.func54, Tryz.ntmps54
    go_wp2_with fail
    go_ret2
    exact ⟨rfl, rfl⟩
  · have c' : 3652059 < n := by omega
    clear h
    go_enter Tryz.func54, Tryz.ntmps54
    go_wp2_with fail
    go_ret2
    exact ⟨rfl, rfl⟩
set_option maxHeartbeats 400000 in
theorem rwd_no (n : Int) (w : World) (h : n < 1 ∨ 3652059 < n) :
    Calls Tryz.prog 86 #[.int .i64 n] w fun e w' => e = .returned (.tuple #[.string ⟨#[]⟩, .bool false]) ∧ w = w' := by
  by_cases c : n < 1
  · clear h
    go_enter Tryz.func86, Tryz.ntmps86
    go_wp2_with fail
    go_ret2
    exact ⟨rfl, rfl⟩
  · have c' : 3652059 < n := by omega
    clear h
    go_enter Tryz.func86, Tryz.ntmps86
    go_wp2_with fail
    go_ret2
    exact ⟨rfl, rfl⟩

theorem bcell {W w1 : World} (hb : Below W.heap.size W w1) : (∀ b o, b < W.heap.size → w1.cell? ⟨b, o, none⟩ = W.cell? ⟨b, o, none⟩) ∧ (∀ b o, b < W.heap.size → w1.frozen? ⟨b, o, none⟩ = W.frozen? ⟨b, o, none⟩) :=
  ⟨fun b o h => hb.cell (p := ⟨b, o, none⟩) h, fun b o h => hb.frozen (p := ⟨b, o, none⟩) h⟩

theorem ok_works : Cal.ok 2026 11 16 = true ∧ Cal.num 2026 11 16 = 739936 := by decide

set_option maxHeartbeats 400000 in
theorem works_any (w : World) :
    Calls Tryz.prog 24 #[] w fun e w' => e = .returned (.bool true) ∧ Below w.heap.size w w' := by
  have H1 := Lib.hid ok_works
  have e1 := H1.out.2
  go_enter Tryz.func24, Tryz.ntmps24
  go_wp2_with fail
  refine (day_yes _ _ _ _ H1.out.1).mono ?_
  rintro e w' ⟨rfl, rfl⟩
  go_wp2_with fail
  refine (date_yes _ _ (by omega) (by omega)).mono ?_
  rintro e w' ⟨y, m, d, hok, hnum, rfl, rfl⟩
  obtain ⟨rfl, rfl, rfl⟩ := Cal.num_inj y m d 2026 11 16 hok H1.out.1 (hnum.trans H1.out.2.symm)
  clear hok hnum
  go_wp2_with fail
  refine (wd_yes _ _ (by omega) (by omega)).mono ?_
  rintro e w' ⟨rfl, hb⟩
  have e2 : wdName (739936 % 7) = ⟨#[230, 156, 136]⟩ := by decide
  rw [e2]
  clear e2
  go_wp2_with fail
  go_ret
  exact ⟨rfl, hb⟩
end Go.Proofs.YtnpkcobapckhdaaGreatDoor
