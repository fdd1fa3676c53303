/- The walks of the reference of chapter 14. Printed by mk_ref14.py. -/
import Derived.Test.YtdllehgiambkcaaSvStep
namespace Go.Proofs.Ytdllehgiambkcaa.Sv
open Go.RowKit

def frm (n a b : Int) : Bool := decide (a ≤ n) && decide (n ≤ b)

theorem from_any (n a b : Int) (w : World) :
    Calls Try.prog 72 #[.int .i64 n, .int .i64 a, .int .i64 b] w fun e w' => e = .returned (.bool (frm n a b)) ∧ w' = w := by
  by_cases h1 : a ≤ n <;> by_cases h2 : n ≤ b
  all_goals
    have e : frm n a b = (decide (a ≤ n) && decide (n ≤ b)) := rfl
    simp only [h1, h2, decide_true, decide_false, Bool.and_true, Bool.and_false] at e
    rw [e]; clear e
    go_enter Try.func72, Try.ntmps72
    go_wp2
    go_ret
    exact ⟨ret_bool (by simp [*]), rfl⟩

theorem short_any (s x c : Int) (w : World) :
    Calls Try.prog 80 #[.agg #[.int .u8 s, .int .i64 x, .int .i64 c]] w fun e w' => e = .returned (.bool (short x)) ∧ ∃ cs, w' = w.alloc (.cells cs 32) := by
  go_enter Try.func80, Try.ntmps80
  go_wp2
  all_goals go_ret
  all_goals exact ⟨ret_bool (by simp_all [short]), _, rfl⟩

theorem cls1 (n : Int) : (cls n = 0 → frm n 100 199 = false ∧ frm n 101 199 = false ∧ frm n 200 299 = false ∧ frm n 300 699 = false ∧ frm n 100 699 = false) ∧
    (cls n = 1 → frm n 100 199 = true ∧ frm n 200 299 = false ∧ frm n 300 699 = false ∧ frm n 100 699 = true ∧ (frm n 101 199 = (n != 100))) ∧
    (cls n = 2 → frm n 100 199 = false ∧ frm n 101 199 = false ∧ frm n 200 299 = true ∧ frm n 300 699 = false ∧ frm n 100 699 = true) ∧
    (cls n = 3 → frm n 100 199 = false ∧ frm n 101 199 = false ∧ frm n 200 299 = false ∧ frm n 300 699 = true ∧ frm n 100 699 = true) ∧ (cls n = 0 ∨ cls n = 1 ∨ cls n = 2 ∨ cls n = 3) := by
  unfold cls frm
  refine ⟨?_, ?_, ?_, ?_, ?_⟩
  · intro h; repeat' split at h
    all_goals (simp; omega)
  · intro h
    have : 100 ≤ n ∧ n ≤ 199 := by repeat' split at h
                                   all_goals omega
    obtain ⟨h1, h2⟩ := this
    have e : (decide (101 ≤ n) && decide (n ≤ 199)) = (n != 100) := by rw [Bool.eq_iff_iff]; simp; omega
    rw [e]
    refine ⟨by simp; omega, by simp; omega, by simp; omega, by simp; omega, rfl⟩
  · intro h; repeat' split at h
    all_goals (simp; omega)
  · intro h; repeat' split at h
    all_goals (simp; omega)
  · repeat' split
    all_goals omega

set_option maxHeartbeats 2000000 in
theorem rmay_any (s x c : Int) (w : World) :
    Calls Try.prog 66 #[.agg #[.int .u8 s, .int .i64 x, .int .i64 c]] w fun e w' => e = .returned (.bool (may ⟨s, x, c⟩)) ∧ Below w.heap.size w w' := by
  obtain ⟨c0, c1, c2, c3, cc⟩ := cls1 c
  have key : ∀ b1 b2 b3 b4 : Bool, frm c 100 199 = b1 → frm c 200 299 = b2 → frm c 300 699 = b3 → frm c 100 699 = b4 → (cls c == 1) = b1 → (cls c == 2) = b2 → (cls c == 3) = b3 → (cls c != 0) = b4 →
      Calls Try.prog 66 #[.agg #[.int .u8 s, .int .i64 x, .int .i64 c]] w fun e w' => e = .returned (.bool (may ⟨s, x, c⟩)) ∧ Below w.heap.size w w' := by
    intro b1 b2 b3 b4 f1 f2 f3 f4 e1 e2 e3 e4
    have hcl := hide (And.intro e1 (And.intro e2 (And.intro e3 e4)))
    clear e1 e2 e3 e4 c0 c1 c2 c3 cc
    go_enter Try.func66, Try.ntmps66
    go_wp2_with (first
      | (go_at_call 72; refine (from_any _ _ _ _).mono ?_; rintro e w' ⟨rfl, rfl⟩)
      | (go_at_call 80; refine (short_any _ _ _ _).mono ?_; rintro e w' ⟨rfl, cs, rfl⟩))
    all_goals go_ret
    all_goals (refine ⟨ret_bool ?_, by repeat (first | exact Below.refl _ _ | refine Below.alloc ?_ (by simp; try omega) _)⟩)
    all_goals (obtain ⟨e1, e2, e3, e4⟩ := hcl.out; clear hcl; simp_all [may])
  rcases cc with h | h | h | h
  · obtain ⟨f1, _, f3, f4, f5⟩ := c0 h; exact key _ _ _ _ f1 f3 f4 f5 (by rw [h]; rfl) (by rw [h]; rfl) (by rw [h]; rfl) (by rw [h]; rfl)
  · obtain ⟨f1, f3, f4, f5, _⟩ := c1 h; exact key _ _ _ _ f1 f3 f4 f5 (by rw [h]; rfl) (by rw [h]; rfl) (by rw [h]; rfl) (by rw [h]; rfl)
  · obtain ⟨f1, _, f3, f4, f5⟩ := c2 h; exact key _ _ _ _ f1 f3 f4 f5 (by rw [h]; rfl) (by rw [h]; rfl) (by rw [h]; rfl) (by rw [h]; rfl)
  · obtain ⟨f1, _, f3, f4, f5⟩ := c3 h; exact key _ _ _ _ f1 f3 f4 f5 (by rw [h]; rfl) (by rw [h]; rfl) (by rw [h]; rfl) (by rw [h]; rfl)
end Go.Proofs.Ytdllehgiambkcaa.Sv
