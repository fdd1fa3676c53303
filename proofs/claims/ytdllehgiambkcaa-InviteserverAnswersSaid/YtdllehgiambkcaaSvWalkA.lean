/- Walks over the small functions of package inviteserver. -/
import Derived.Test.YtdllehgiambkcaaSvSpec
import Derived.Test.YtdllehgiambkcaaRows
namespace Go.Proofs.Ytdllehgiambkcaa.Sv
open Go.RowKit

set_option maxHeartbeats 400000 in
theorem class_any (n : Int) (w : World) :
    Calls Try.prog 53 #[.int .i64 n] w fun e w' => e = .returned (.int .i64 (cls n)) ∧ w' = w := by
  go_enter Try.func53, Try.ntmps53
  go_wp2
  all_goals go_ret
  all_goals (refine ⟨ret_int ?_, rfl⟩)
  all_goals (unfold cls; (repeat' split) <;> omega)

theorem send_any (n : Int) (w : World) :
    Calls Try.prog 64 #[.int .i64 n] w fun e w' => e = .returned (.agg #[.int .u8 1, .int .i64 n, .int .u8 0, .int .i64 0]) ∧ ∃ cs, w' = w.alloc (.cells cs 52) := by
  go_enter Try.func64, Try.ntmps64
  go_wp2
  exact bodyPost_ret (v := .agg #[.int .u8 1, .int .i64 n, .int .u8 0, .int .i64 0]) (by simp [results, Try.results64, go_sem]) rfl ⟨rfl, _, rfl⟩

theorem timer_any (t n : Int) (w : World) :
    Calls Try.prog 71 #[.int .u8 t, .int .i64 n] w fun e w' => e = .returned (.agg #[.int .u8 4, .int .i64 0, .int .u8 t, .int .i64 n]) ∧ ∃ cs, w' = w.alloc (.cells cs 52) := by
  go_enter Try.func71, Try.ntmps71
  go_wp2
  exact bodyPost_ret (v := .agg #[.int .u8 4, .int .i64 0, .int .u8 t, .int .i64 n]) (by simp [results, Try.results71, go_sem]) rfl ⟨rfl, _, rfl⟩

theorem become_any (a b c : Int) (A : Option Addr) (n d : Nat) (w : World) :
    Calls Try.prog 63 #[.int .u8 a, .int .i64 b, .int .i64 c, .slice A n d] w fun e w' =>
      e = .returned (.tuple #[.agg #[.int .u8 a, .int .i64 b, .int .i64 c], .slice A n d]) ∧ ∃ cs, w' = w.alloc (.cells cs 32) := by
  go_enter Try.func63, Try.ntmps63
  go_wp2
  exact bodyPost_ret (v := .tuple #[.agg #[.int .u8 a, .int .i64 b, .int .i64 c], .slice A n d]) (by simp [results, Try.results63, go_sem]) rfl ⟨rfl, _, rfl⟩

set_option maxHeartbeats 400000 in
theorem may_any (s x c : Int) (w : World) :
    Calls Try.prog 22 #[.agg #[.int .u8 s, .int .i64 x, .int .i64 c]] w fun e w' => e = .returned (.bool (may ⟨s, x, c⟩)) ∧ ∃ cs, w' = w.alloc (.cells cs 32) := by
  go_enter Try.func22, Try.ntmps22
  go_wp2_with (go_at_call 53; refine (class_any _ _).mono ?_; rintro e w' ⟨rfl, rfl⟩)
  all_goals go_ret
  all_goals (refine ⟨ret_bool ?_, _, rfl⟩)
  all_goals (simp_all [may, short])
end Go.Proofs.Ytdllehgiambkcaa.Sv
