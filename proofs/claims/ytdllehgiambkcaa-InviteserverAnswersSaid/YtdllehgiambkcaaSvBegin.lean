/- The walk of start of the simulation. -/
import Derived.Test.YtdllehgiambkcaaSvGive
namespace Go.Proofs.Ytdllehgiambkcaa.Sv
open Go.RowKit

def initDue : Nat → List Int
  | 0 => List.replicate 14 0
  | k + 1 => (initDue k).set k (-1)
theorem initDue_14 : initDue 14 = List.replicate 14 (-1) := by decide
theorem initDue_len : ∀ k, (initDue k).length = 14
  | 0 => by simp [initDue]
  | k + 1 => by simp [initDue, initDue_len k]
def simZero (k : Nat) : Sim := ⟨⟨0, 0, 0⟩, initDue k, 0, []⟩
def simStart : Sim := take (simZero 14) start.1 start.2

instance : DecidablePred O.ok := fun o => inferInstanceAs (Decidable (0 ≤ o.timer ∧ o.timer < 256 ∧ 0 ≤ o.after ∧ o.after ≤ 32000))

theorem simZero_at (w : World) (base : Nat) (hb : base ≤ w.heap.size) : SimAt (w.alloc (.cells #[.int .u8 0, .int .i64 0, .int .i64 0, .int .i64 0, .int .i64 0, .int .i64 0, .int .i64 0, .int .i64 0, .int .i64 0, .int .i64 0, .int .i64 0, .int .i64 0, .int .i64 0, .int .i64 0, .int .i64 0, .int .i64 0, .int .i64 0, .int .i64 0, .slice none 0 0] 40)) w.heap.size base (simZero 0) (.slice none 0 0) := by
  have B := Box.new w #[.int .u8 0, .int .i64 0, .int .i64 0, .int .i64 0, .int .i64 0, .int .i64 0, .int .i64 0, .int .i64 0, .int .i64 0, .int .i64 0, .int .i64 0, .int .i64 0, .int .i64 0, .int .i64 0, .int .i64 0, .int .i64 0, .int .i64 0, .int .i64 0, .slice none 0 0] 40
  refine ⟨B.lt, hb, B.cell 0, B.cell 1, B.cell 2, rfl, fun i hi => ?_, B.cell 17, B.cell 18, B.free, World.ownsRow_nil _ base _ _, by simp [Value.ownBlock]⟩
  rw [B.cell]
  have : i = 0 ∨ i = 1 ∨ i = 2 ∨ i = 3 ∨ i = 4 ∨ i = 5 ∨ i = 6 ∨ i = 7 ∨ i = 8 ∨ i = 9 ∨ i = 10 ∨ i = 11 ∨ i = 12 ∨ i = 13 := by omega
  rcases this with rfl | rfl | rfl | rfl | rfl | rfl | rfl | rfl | rfl | rfl | rfl | rfl | rfl | rfl <;> rfl

set_option maxRecDepth 10000 in
set_option maxHeartbeats 4000000 in
theorem sstart_any (w : World) : Calls Try.prog 19 #[] w fun e w' => ∃ g v, e = .returned (.pointer (some ⟨g, 0, none⟩)) ∧ Below w.heap.size w w' ∧ SimAt w' g w.heap.size simStart v := by
  go_enter Try.func19, Try.ntmps19
  have h0 := simZero_at w w.heap.size (Nat.le_refl _)
  go_wp2_with fail
  go_loopw [2] (fun i wr => ∃ (k : Nat), k ≤ 14 ∧ i = .int .i64 k ∧ SimAt wr w.heap.size w.heap.size (simZero k) (.slice none 0 0) ∧ Below w.heap.size w wr) (fun i _ => 14 - (intOf i).toNat)
  case atStart => exact ⟨0, by omega, rfl, h0, (Below.refl _ _).alloc (Nat.le_refl _) _⟩
  case round =>
    obtain ⟨k, hk, rfl, hS, hB⟩ := hrel
    obtain ⟨y1, y2, -, -, -, y3, y4, y5, y6, y7, y8, y9⟩ := id hS
    by_cases hlt : k < 14
    · have hz := y4 k hlt
      have hzf := y7 (3 + k)
      go_wp2_with fail
      go_roundw
      case rel => exact ⟨k + 1, by omega, by simp, hS.set_due k hlt (-1), hB.setCell (p := ⟨w.heap.size, 3 + k, none⟩) (Nat.le_refl _) _⟩
      case measure => simp [intOf]; omega
    · have hk' : k = 14 := by omega
      subst hk'
      go_wp2_with fail
      refine (start_any _).mono ?_; rintro e w1 ⟨v1, rfl, hown1, hb1⟩
      obtain ⟨kb, A, cp, hp, rfl, r0, r1, r2, hS2, -, hB2, hR, hs⟩ := ready_new (w := wr) (a := start.1.st) (b := start.1.wait) (d := start.1.code) hb1 hown1 hS (Keep.refl _ _ _) (Below.refl _ _)
      replace hB2 := hB.trans hB2
      go_wp2_with fail
      refine (take_any w.heap.size w.heap.size (simZero 14) _ _ hS2 start.1 A cp start.2 hR (by decide) (by decide) (by decide) (by decide) hs).mono ?_; rintro e w2 ⟨rfl, hb2, v2, hS3⟩
      go_wp2_with fail
      refine ⟨rfl, .pointer (some ⟨w.heap.size, 0, none⟩), ?_, _, v2, rfl, hB2.trans hb2, hS3⟩
      simp only [results]; go_simp
end Go.Proofs.Ytdllehgiambkcaa.Sv
