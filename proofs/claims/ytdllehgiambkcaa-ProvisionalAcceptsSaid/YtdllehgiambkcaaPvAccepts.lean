/- The walk of ProvisionalAccepts. -/
import Derived.Test.YtdllehgiambkcaaPvWorks
namespace Go.Proofs.Ytdllehgiambkcaa.Pv
open Go.RowKit

theorem four0 (a b c d : Value) (w : World) : (Instr.index 22 (.agg #[a, b, c, d]) (.int .i64 0)).run Try.prog w = .ok a w := by kernel_rfl
theorem four1 (a b c d : Value) (w : World) : (Instr.index 22 (.agg #[a, b, c, d]) (.int .i64 1)).run Try.prog w = .ok b w := by kernel_rfl
theorem four2 (a b c d : Value) (w : World) : (Instr.index 22 (.agg #[a, b, c, d]) (.int .i64 2)).run Try.prog w = .ok c w := by kernel_rfl
theorem four3 (a b c d : Value) (w : World) : (Instr.index 22 (.agg #[a, b, c, d]) (.int .i64 3)).run Try.prog w = .ok d w := by kernel_rfl

set_option maxRecDepth 10000 in
set_option maxHeartbeats 8000000 in
theorem accepts_any (last seq : Int) (w : World) :
    Calls Try.prog 3 #[.int .i64 last, .int .i64 seq] w fun e w' => e = .returned (.bool true) ∧ Below w.heap.size w w' := by
  have i0 := four0
  have i1 := four1
  have i2 := four2
  have i3 := four3
  go_enter Try.func3, Try.ntmps3
  go_wp2_with fail
  go_loopw [14] (fun i wr => ∃ k : Nat, k ≤ 4 ∧ i = .int .i64 k ∧ w = wr) (fun i _ => 4 - (intOf i).toNat)
  case atStart => exact ⟨0, by omega, rfl, rfl⟩
  case round =>
    obtain ⟨k, hk, rfl, rfl⟩ := hrel
    rcases (show k = 0 ∨ k = 1 ∨ k = 2 ∨ k = 3 ∨ k = 4 by omega) with rfl | rfl | rfl | rfl | rfl
    rotate_right
    · go_wp2_with fail
      refine (works_any _).mono ?_; rintro e w8 ⟨rfl, hb8⟩
      go_wp2_with fail
      go_ret
      exact ⟨rfl, hb8⟩
    all_goals
      go_upto_if 20 with fail
      go_cut [7] from 15 to 48 (fun a wx => ∃ kk : Int, a = .int .i64 kk ∧ w = wx)
      case first =>
        go_wp2_with fail
        all_goals (go_meet; exact ⟨_, rfl, rfl⟩)
      case rest =>
        obtain ⟨kk, rfl, rfl⟩ := hcut
        have ha := fun W => accept_any last kk W
        have hb := fun W => raccept_any last kk W
        generalize accept last kk = p at *
        obtain ⟨x, y⟩ := p
        simp only at ha hb
        go_wp2_with fail
        refine (ha _).mono ?_; rintro e w' ⟨rfl, rfl⟩
        go_wp2_with fail
        refine (hb _).mono ?_; rintro e w' ⟨rfl, rfl⟩
        go_wp2_with fail
        go_roundw
        case rel => first | exact ⟨1, by omega, rfl, trivial⟩ | exact ⟨2, by omega, rfl, trivial⟩ | exact ⟨3, by omega, rfl, trivial⟩ | exact ⟨4, by omega, rfl, trivial⟩
        case measure => simp [intOf]
end Go.Proofs.Ytdllehgiambkcaa.Pv
