/- How many copies are sent up to a time: the program's loop and the reference's list. -/
import Derived.Test.YtdllehgiambkcaaSvSame
namespace Go.Proofs.Ytdllehgiambkcaa.Sv
open Go.RowKit

def copies (u : Int) : Int :=
  if u < 0 then 0 else if u < 500 then 1 else if u < 1500 then 2 else if u < 3500 then 3 else if u < 7500 then 4 else if u < 11500 then 5 else if u < 15500 then 6
  else if u < 19500 then 7 else if u < 23500 then 8 else if u < 27500 then 9 else if u < 31500 then 10 else 11

def AT (j : Nat) : Int := if j = 0 then 0 else if j = 1 then 500 else if j = 2 then 1500 else 4000 * j - 8500
def WT (j : Nat) : Int := if j = 0 then 500 else if j = 1 then 1000 else if j = 2 then 2000 else 4000

theorem at_next (j : Nat) : AT j + WT j = AT (j + 1) := by
  unfold AT WT; repeat' split
  all_goals omega
theorem wt_next (j : Nat) : (if 4000 < 2 * WT j then 4000 else 2 * WT j) = WT (j + 1) := by
  unfold WT; repeat' split
  all_goals omega
theorem at_bd (j : Nat) (h : j ≤ 11) : 0 ≤ AT j ∧ AT j ≤ 35500 ∧ 0 ≤ WT j ∧ WT j ≤ 4000 ∧ (AT j < 32000 ↔ j < 11) := by
  unfold AT WT; repeat' split
  all_goals omega
theorem copies_lo (u : Int) (h : u < 3500) : copies u = if u < 0 then 0 else if u < 500 then 1 else if u < 1500 then 2 else 3 := by
  unfold copies
  rw [if_pos h]
theorem copies_hi (u : Int) (h : 3500 ≤ u) : copies u = min ((u + 8500) / 4000 + 1) 11 := by
  unfold copies
  rw [if_neg (by omega), if_neg (by omega), if_neg (by omega), if_neg (by omega)]
  repeat' split
  all_goals omega
theorem copies_at (u : Int) (j : Nat) (h : j < 11) : AT j ≤ u ↔ (j : Int) < copies u := by
  by_cases hu : u < 3500
  · rw [copies_lo u hu]; unfold AT; repeat' split
    all_goals omega
  · rw [copies_hi u (by omega)]; unfold AT; repeat' split
    all_goals omega
theorem copies_bd (u : Int) : 0 ≤ copies u ∧ copies u ≤ 11 := by
  unfold copies; repeat' split
  all_goals omega

set_option maxHeartbeats 1000000 in
theorem copies_any (u : Int) (w : World) : Calls Try.prog 37 #[.int .i64 u] w fun e w' => e = .returned (.int .i64 (copies u)) ∧ w' = w := by
  have HB := hide (copies_bd u)
  go_enter Try.func37, Try.ntmps37
  go_wp2
  go_loop [3, 4, 5] (fun n a b => ∃ j : Nat, j ≤ 11 ∧ n = .int .i64 j ∧ a = .int .i64 (AT j) ∧ b = .int .i64 (WT j) ∧ (j : Int) ≤ copies u) (fun n _ _ => 11 - (intOf n).toNat)
  case atStart => exact ⟨0, by omega, rfl, rfl, rfl, (copies_bd u).1⟩
  case round =>
    obtain ⟨j, hj, rfl, rfl, rfl, hc⟩ := hrel
    have HC := hide hc; clear hc
    obtain ⟨b1, b2, b3, b4, b5⟩ := at_bd j hj
    by_cases hlt : j < 11
    · have b6 := b5.2 hlt
      by_cases hu : AT j ≤ u
      · have HU := hide ((copies_at u j hlt).1 hu)
        clear b5
        have HA := hide (at_next j); have HW := hide (wt_next j)
        go_wp2
        go_round
        case rel => exact ⟨j + 1, by omega, by go_num, by rw [HA.out], by rw [HW.out], by have := HU.out; omega⟩
        case measure => simp [intOf]; omega
      · have HU := hide (Int.not_lt.1 (fun h => hu ((copies_at u j hlt).2 h)))
        clear b5
        go_wp2
        go_ret
        exact ⟨ret_int (by have := HC.out; have := HU.out; omega), rfl⟩
    · have b6 : ¬ AT j < 32000 := fun h => hlt (b5.1 h)
      have HL := hide hlt
      clear b5 hlt
      by_cases hu : AT j ≤ u
      all_goals
        go_wp2
        go_ret
        exact ⟨ret_int (by have := HC.out; have := HB.out; have := HL.out; omega), rfl⟩

def ATs : Array Value := #[.int .i64 0, .int .i64 500, .int .i64 1500, .int .i64 3500, .int .i64 7500, .int .i64 11500, .int .i64 15500, .int .i64 19500, .int .i64 23500, .int .i64 27500, .int .i64 31500]
theorem ats_get (j : Nat) (h : j < 11) : (#[.int .i64 0, .int .i64 500, .int .i64 1500, .int .i64 3500, .int .i64 7500, .int .i64 11500, .int .i64 15500, .int .i64 19500, .int .i64 23500, .int .i64 27500, .int .i64 31500] : Array Value)[j]? = some (.int .i64 (AT j)) := by
  match j, h with
  | 0, _ | 1, _ | 2, _ | 3, _ | 4, _ | 5, _ | 6, _ | 7, _ | 8, _ | 9, _ | 10, _ => rfl

set_option maxHeartbeats 1000000 in
theorem rcopies13 (u : Int) (w : World) : Calls Try.prog 67 #[.int .i64 u] w fun e w' => e = .returned (.int .i64 (copies u)) ∧ ∃ cs, w' = w.alloc (.cells cs 3) := by
  have HB := hide (copies_bd u)
  have hcell := fun j h => (World.cell?_alloc_at (w := w) #[.int .i64 0, .int .i64 500, .int .i64 1500, .int .i64 3500, .int .i64 7500, .int .i64 11500, .int .i64 15500, .int .i64 19500, .int .i64 23500, .int .i64 27500, .int .i64 31500] 3 w.heap.size j rfl).trans (ats_get j h)
  have HCL := hide hcell; clear hcell
  go_enter Try.func67, Try.ntmps67
  go_wp2
  go_loop [3, 5] (fun n i => ∃ j : Nat, j ≤ 11 ∧ i = .int .i64 j ∧ n = .int .i64 (min (j : Int) (copies u))) (fun _ i => 11 - (intOf i).toNat)
  case atStart => exact ⟨0, by omega, rfl, by have := copies_bd u; simp; omega⟩
  case round =>
    obtain ⟨j, hj, rfl, rfl⟩ := hrel
    have bd1 : 0 ≤ min (j : Int) (copies u) := by have := HB.out; omega
    have bd2 : min (j : Int) (copies u) ≤ 11 := by have := HB.out; omega
    by_cases hlt : j < 11
    · have hc := HCL.out j hlt
      have HM : ∀ m, m = min (j : Int) (copies u) → (AT j ≤ u → m + 1 = min ((j + 1 : Nat) : Int) (copies u)) ∧ (¬ AT j ≤ u → m = min ((j + 1 : Nat) : Int) (copies u)) := by
        intro m hm; have := copies_at u j hlt; omega
      have HM' := hide (HM _ rfl); clear HM
      generalize min (j : Int) (copies u) = m at *
      by_cases hu : AT j ≤ u
      all_goals
        go_wp2
        go_round
        case rel => first | exact ⟨j + 1, by omega, by go_num, by rw [← HM'.out.1 hu]⟩ | exact ⟨j + 1, by omega, by go_num, by rw [← HM'.out.2 hu]⟩
        case measure => simp [intOf]; omega
    · go_wp2
      go_ret
      exact ⟨ret_int (by have := HB.out; omega), _, rfl⟩

theorem rcopies_any (u : Int) (w : World) : Calls Try.prog 38 #[.int .i64 u] w fun e w' => e = .returned (.int .i64 (copies u)) ∧ ∃ cs, w' = w.alloc (.cells cs 3) := by
  go_enter Try.func38, Try.ntmps38
  go_wp2_with (go_at_call 67; refine (rcopies13 _ _).mono ?_; rintro e w' ⟨rfl, cs, rfl⟩)
  go_ret
  exact ⟨rfl, _, rfl⟩
end Go.Proofs.Ytdllehgiambkcaa.Sv
