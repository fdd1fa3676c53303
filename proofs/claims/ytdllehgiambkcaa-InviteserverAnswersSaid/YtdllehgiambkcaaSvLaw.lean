/- The laws of chapter 14 without a simulation: step, inputs, works, InviteserverTable, InviteserverSteps. -/
import Derived.Test.YtdllehgiambkcaaSvCopies
import Derived.Test.YtdllehgiambkcaaKit2
namespace Go.Proofs.Ytdllehgiambkcaa.Sv
open Go.RowKit

theorem stM : Try.prog.underlying 32 = some (.struct (Try.prog.fieldsOf 32)) := by kernel_rfl
theorem shM : Try.prog.stoodInHeld 32 = false := by kernel_rfl
theorem egM : Try.prog.eqGuardType Try.prog.depth 32 = false := by kernel_rfl
theorem flM : Try.prog.fieldsOf 32 = #[⟨ "State", 30, 0, false, "", "", 0⟩, ⟨ "Wait", 3, 1, false, "", "", 8⟩, ⟨ "Code", 3, 2, false, "", "", 16⟩] := by kernel_rfl

theorem eqM (a b c a' b' c' : Int) (w : World) : (binOp .eql 32 (.agg #[.int .u8 a, .int .i64 b, .int .i64 c]) (.agg #[.int .u8 a', .int .i64 b', .int .i64 c'])).run Try.prog w = .ok (.bool (decide (a = a' ∧ b = b' ∧ c = c'))) w := by
  have i3 := Try.underlying3
  have i5 := Try.underlying30
  rw [run_eql_struct]
  rw [run_equalIn_agg _ _ _ _ _ stM shM, flM]
  by_cases h1 : a = a' <;> by_cases h2 : b = b' <;> by_cases h3 : c = c' <;> simp [Op.eqFields, go_sem, i3, i5, h1, h2, h3]
theorem eqM_same (a b c : Int) (w : World) : (binOp .eql 32 (.agg #[.int .u8 a, .int .i64 b, .int .i64 c]) (.agg #[.int .u8 a, .int .i64 b, .int .i64 c])).run Try.prog w = .ok (.bool true) w := by
  rw [eqM]; simp

theorem len_step (m : M) (k n t : Int) : (step m k n t).2.length ≤ 3 := by
  unfold step answer fired over
  repeat' split
  all_goals simp

set_option maxHeartbeats 4000000 in
theorem lstep_any (s x c k n t : Int) (w : World) :
    Calls Try.prog 36 #[.agg #[.int .u8 s, .int .i64 x, .int .i64 c], .agg #[.int .u8 k, .int .i64 n, .int .u8 t]] w fun e w' => e = .returned (.bool true) ∧ Below w.heap.size w w' := by
  have hlen := len_step ⟨s, x, c⟩ k n t
  obtain ⟨r, hr⟩ : ∃ r, step ⟨s, x, c⟩ k n t = r := ⟨_, rfl⟩
  have HR := hide hr
  rw [hr] at hlen
  clear hr
  obtain ⟨⟨a, b, d⟩, l⟩ := r
  have heq := eqM_same a b d
  have hself : (l == l) = true := by simp
  go_enter Try.func36, Try.ntmps36
  go_wp2_with fail
  refine (step_any _ _ _ _ _ _ _).mono ?_; rw [HR.out]; rintro e w1 ⟨v1, rfl, hown1, hb1⟩
  obtain ⟨hc1, hf1⟩ := bcell hb1
  have hz1 : w.heap.size + 1 < w1.heap.size := blt hb1 (by simp)
  have hz0 : w.heap.size < w1.heap.size := by omega
  go_wp2_with fail
  refine (rstep_any _ _ _ _ _ _ _).mono ?_; rw [HR.out]; rintro e w2 ⟨v2, rfl, hown2, hb2⟩
  obtain ⟨hc2, hf2⟩ := bcell hb2
  have hy1 : w1.heap.size < w2.heap.size := blt hb2 (by simp)
  have hy0 : w.heap.size < w2.heap.size := by omega
  obtain ⟨A1, e1, rfl, _, hR1⟩ := own_slice hown1
  obtain ⟨A2, e2, rfl, _, hR2⟩ := own_slice hown2
  have hR1' := (hR1.alloc (Nat.le_refl _) (.cells #[.int .u8 a, .int .i64 b, .int .i64 d] 32)).more (B' := w1.heap.size + 1) (by omega) |>.below (hb2.mono (by simp)) |>.more (B' := w2.heap.size) (by omega)
  clear hown1 hown2 hR1
  go_wp2_with fail
  go_region_held3 (fun w' => w'.cell? ⟨w.heap.size, 0, none⟩ = some (.int .u8 s) ∧ w'.cell? ⟨w.heap.size, 1, none⟩ = some (.int .i64 x) ∧ w'.cell? ⟨w.heap.size, 2, none⟩ = some (.int .i64 c) ∧
      w'.cell? ⟨w1.heap.size, 0, none⟩ = some (.int .u8 a) ∧ w'.cell? ⟨w1.heap.size, 1, none⟩ = some (.int .i64 b) ∧ w'.cell? ⟨w1.heap.size, 2, none⟩ = some (.int .i64 d) ∧
      w'.cell? ⟨w2.heap.size, 0, none⟩ = some (.int .u8 a) ∧ w'.cell? ⟨w2.heap.size, 1, none⟩ = some (.int .i64 b) ∧ w'.cell? ⟨w2.heap.size, 2, none⟩ = some (.int .i64 d)) (go_simp)
    (first
    | (go_at_call 35; refine (same_any _ _ _ _ w2.heap.size l l _ ((hR1'.alloc (Nat.le_refl _) _).drew) ((hR2.alloc (Nat.le_refl _) _).drew) (by omega)).mono ?_; rw [hself]; rintro e w' ⟨rfl, kk, rfl⟩)
    | (go_at_call 22; refine (may_any _ _ _ _).mono ?_; rintro e w' ⟨rfl, cm, rfl⟩)
    | (go_at_call 66; refine (rmay_any _ _ _ _).mono ?_; rintro e w3 ⟨rfl, hb3⟩; have k0 := bat hb3 (b := w.heap.size) (by simp; omega); have k1 := bat hb3 (b := w1.heap.size) (by simp; omega); have k2 := bat hb3 (b := w2.heap.size) (by simp; omega)))
  go_wp2
  go_ret
  have b1 : Below w.heap.size w w1 := (((Below.refl _ _).alloc (Nat.le_refl _) _).alloc (by simp) _).trans (hb1.mono (by simp; omega))
  have b2 : Below w.heap.size w w2 := (b1.alloc (by omega) _).trans (hb2.mono (by simp; omega))
  exact ⟨rfl, (((below_drewN' (b2.alloc (by omega) _) (1 + kk)).alloc (B := w.heap.size) (by simp; omega) _).trans (hb3.mono (B' := w.heap.size) (by simp; omega)))⟩
end Go.Proofs.Ytdllehgiambkcaa.Sv
