/- Walks over the small functions of package provisional and their references. -/
import Derived.Test.YtdllehgiambkcaaPvSpec
import Derived.Test.YtdllehgiambkcaaProg
namespace Go.Proofs.Ytdllehgiambkcaa.Pv
open Go.RowKit

theorem within_any (n a b : Int) (w : World) :
    Calls Try.prog 49 #[.int .i64 n, .int .i64 a, .int .i64 b] w fun e w' => e = .returned (.bool (inB n a b)) ∧ w' = w := by
  by_cases h1 : a ≤ n <;> by_cases h2 : n ≤ b
  all_goals
    have e : inB n a b = (decide (a ≤ n) && decide (n ≤ b)) := rfl
    simp only [h1, h2, decide_true, decide_false, Bool.and_true, Bool.and_false] at e
    rw [e]; clear e
    go_enter Try.func49, Try.ntmps49
    go_wp2
    go_ret
    exact ⟨ret_bool (by simp [*]), rfl⟩

theorem from_any (n a b : Int) (w : World) :
    Calls Try.prog 72 #[.int .i64 n, .int .i64 a, .int .i64 b] w fun e w' => e = .returned (.bool (inB n a b)) ∧ w' = w := by
  by_cases h1 : a ≤ n <;> by_cases h2 : n ≤ b
  all_goals
    have e : inB n a b = (decide (a ≤ n) && decide (n ≤ b)) := rfl
    simp only [h1, h2, decide_true, decide_false, Bool.and_true, Bool.and_false] at e
    rw [e]; clear e
    go_enter Try.func72, Try.ntmps72
    go_wp2
    go_ret
    exact ⟨ret_bool (by simp [*]), rfl⟩

theorem early_any (n : Int) (w : World) :
    Calls Try.prog 54 #[.int .i64 n] w fun e w' => e = .returned (.bool (inB n 101 199)) ∧ w' = w := by
  go_enter Try.func54, Try.ntmps54
  go_wp2_with (go_at_call 49; refine (within_any _ _ _ _).mono ?_; rintro e w' ⟨rfl, rfl⟩)
  go_ret
  exact ⟨rfl, rfl⟩

theorem accepting_any (n : Int) (w : World) :
    Calls Try.prog 62 #[.int .i64 n] w fun e w' => e = .returned (.bool (inB n 200 299)) ∧ w' = w := by
  go_enter Try.func62, Try.ntmps62
  go_wp2_with (go_at_call 49; refine (within_any _ _ _ _).mono ?_; rintro e w' ⟨rfl, rfl⟩)
  go_ret
  exact ⟨rfl, rfl⟩

def wv : Nat → Int
  | 0 => 500
  | 1 => 1000
  | 2 => 2000
  | 3 => 4000
  | 4 => 8000
  | 5 => 16000
  | 6 => 32000
  | _ => 64000
def none_ (n : Int) : Nat → Bool
  | 0 => true
  | k + 1 => none_ n k && (n != wv k)

set_option maxHeartbeats 1000000 in
theorem wait_any (n : Int) (w : World) :
    Calls Try.prog 73 #[.int .i64 n] w fun e w' => e = .returned (.bool (pow n)) ∧ w' = w := by
  go_enter Try.func73, Try.ntmps73
  go_wp2
  go_loop [3] (fun x => ∃ k : Nat, k ≤ 7 ∧ x = .int .i64 (wv k) ∧ none_ n k = true) (fun x => (100000 - intOf x).toNat)
  case atStart => exact ⟨0, by omega, rfl, rfl⟩
  case round =>
    obtain ⟨k, hk, rfl, hj⟩ := hrel
    have HJ := hide hj
    clear hj
    rcases (show k = 0 ∨ k = 1 ∨ k = 2 ∨ k = 3 ∨ k = 4 ∨ k = 5 ∨ k = 6 ∨ k = 7 by omega) with rfl | rfl | rfl | rfl | rfl | rfl | rfl | rfl
    all_goals simp only [wv]
    all_goals go_wp2
    all_goals first
      | (go_ret; exact ⟨ret_bool (by have := HJ.out; simp_all [pow, none_, wv]), rfl⟩)
      | skip
    all_goals go_round
    case rel => exact ⟨1, by omega, rfl, by have := HJ.out; simp_all [none_, wv]⟩
    case measure => simp [intOf]
    case rel => exact ⟨2, by omega, rfl, by have := HJ.out; simp_all [none_, wv]⟩
    case measure => simp [intOf]
    case rel => exact ⟨3, by omega, rfl, by have := HJ.out; simp_all [none_, wv]⟩
    case measure => simp [intOf]
    case rel => exact ⟨4, by omega, rfl, by have := HJ.out; simp_all [none_, wv]⟩
    case measure => simp [intOf]
    case rel => exact ⟨5, by omega, rfl, by have := HJ.out; simp_all [none_, wv]⟩
    case measure => simp [intOf]
    case rel => exact ⟨6, by omega, rfl, by have := HJ.out; simp_all [none_, wv]⟩
    case measure => simp [intOf]
    case rel => exact ⟨7, by omega, rfl, by have := HJ.out; simp_all [none_, wv]⟩
    case measure => simp [intOf]

theorem tup2 {a b : Int} {c d : Bool} (h : (a, c) = (b, d)) : Ending.returned (.tuple #[.int .i64 a, .bool c]) = .returned (.tuple #[.int .i64 b, .bool d]) := by
  injection h with h1 h2; rw [h1, h2]

theorem accept_any (last seq : Int) (w : World) :
    Calls Try.prog 14 #[.int .i64 last, .int .i64 seq] w fun e w' => e = .returned (.tuple #[.int .i64 (accept last seq).1, .bool (accept last seq).2]) ∧ w' = w := by
  by_cases h1 : 1 ≤ seq ∧ seq ≤ 2147483647
  · obtain ⟨h1, h2⟩ := h1
    have d : inB seq 1 2147483647 = true := by simp [inB, h1, h2]
    go_enter Try.func14, Try.ntmps14
    go_wp2_with (go_at_call 49; refine (within_any _ _ _ _).mono ?_; rintro e w' ⟨rfl, rfl⟩)
    all_goals go_ret2
    all_goals refine ⟨tup2 ?_, rfl⟩
    all_goals unfold accept
    all_goals simp at *
    · rw [if_neg (by omega)]; exact ⟨rfl, rfl⟩
    · rw [if_pos (by omega)]; exact ⟨rfl, rfl⟩
    · rw [if_pos (by omega)]; exact ⟨rfl, rfl⟩
  · have d : inB seq 1 2147483647 = false := by simp [inB]; omega
    have h := hide h1
    clear h1
    go_enter Try.func14, Try.ntmps14
    go_wp2_with (go_at_call 49; refine (within_any _ _ _ _).mono ?_; rintro e w' ⟨rfl, rfl⟩)
    go_ret2
    exact ⟨tup2 (by unfold accept; rw [if_neg (fun e => h.out ⟨e.1, e.2.1⟩)]), rfl⟩

theorem raccept_any (last seq : Int) (w : World) :
    Calls Try.prog 15 #[.int .i64 last, .int .i64 seq] w fun e w' => e = .returned (.tuple #[.int .i64 (accept last seq).1, .bool (accept last seq).2]) ∧ w' = w := by
  by_cases h1 : 1 ≤ seq
  · by_cases h2 : seq ≤ 2147483647
    · go_enter Try.func15, Try.ntmps15
      go_wp2
      all_goals go_ret2
      all_goals refine ⟨tup2 ?_, rfl⟩
      all_goals unfold accept
      all_goals simp at *
      all_goals (first | rw [if_pos (by omega)] | rw [if_neg (by omega)])
      all_goals exact ⟨rfl, rfl⟩
    · go_enter Try.func15, Try.ntmps15
      go_wp2
      go_ret2
      exact ⟨tup2 (by unfold accept; rw [if_neg (by omega)]), rfl⟩
  · go_enter Try.func15, Try.ntmps15
    go_wp2
    go_ret2
    exact ⟨tup2 (by unfold accept; rw [if_neg (by omega)]), rfl⟩
end Go.Proofs.Ytdllehgiambkcaa.Pv
