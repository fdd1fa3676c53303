/- The walk of inviteserver.over: an append next to a call. -/
import Derived.Test.YtdllehgiambkcaaSvWalkA
namespace Go.Proofs.Ytdllehgiambkcaa.Sv
open Go.RowKit

theorem elO : ElemOf Try.prog 79 52 4 32 := elemOf Try.underlying79 (z := .agg #[.int .u8 0, .int .i64 0, .int .u8 0, .int .i64 0]) (by kernel_rfl) rfl (by omega)

/-- The machine m and the outputs l, in new memory from block 'base' on; what lay below is as it was. -/
def Outs (m : M) (l : List O) (base : Nat) (w : World) : Ending → World → Prop := fun e w' =>
  ∃ v, e = .returned (.tuple #[.agg #[.int .u8 m.st, .int .i64 m.wait, .int .i64 m.code], v]) ∧ w'.ownsRow base 52 4 v l.length (l.flatMap O.cs) ∧ Below base w w'

set_option maxRecDepth 10000 in
set_option maxHeartbeats 1000000 in
theorem over_any (m : M) (v : Value) (l : List O) (base : Nat) (w : World) (hown : w.ownsRow base 52 4 v l.length (l.flatMap O.cs)) (hb : base ≤ w.heap.size) (hl : l.length ≤ 1000) :
    Calls Try.prog 70 #[m.v, v] w (Outs (over m l).1 (over m l).2 base w) := by
  obtain ⟨s, x, c⟩ := m
  have hv := own_ne' hown
  unfold M.v
  go_enter Try.func70, Try.ntmps70
  go_wp2_with fail
  go_region_held3 (fun w' => w'.cell? ⟨w.heap.size, 2, none⟩ = some (.int .i64 c)) (go_simp)
    (first
      | (go_at_call 63; refine (become_any _ _ _ _ _ _ _).mono ?_; rintro e w' ⟨rfl, cs, rfl⟩)
      | ((refine step_push elO (by rfl) _ _ (by rfl) base v l.length (l.flatMap O.cs) (by rfl) (((hown.alloc _).alloc _).alloc _).drew (w.heap.size + 2) 1 1 #[.int .u8 7, .int .i64 0, .int .u8 0, .int .i64 0] (by rfl) (by rw [hget_drew, hget, if_pos (by simp)]) rfl (by simp [Value.oneCell']) (by omega) (by simp only [maxLen]; omega) (by simp; omega) ?_; intro g cap w1 hown1 hp1; have hz0 : w.heap.size < w1.heap.size := hp1.size _ (by simp; omega); have hz1 : w.heap.size + 1 < w1.heap.size := hp1.size _ (by simp); have hc := fun b o (h1 : w.heap.size ≤ b) h2 => hp1.cell b o h2 (hv b h1); have hf := fun b o (h1 : w.heap.size ≤ b) h2 => hp1.frozen b o h2 (hv b h1))))
  go_wp2
  refine bodyPost_ret (v := .tuple #[.agg #[.int .u8 7, .int .i64 0, .int .i64 c], .slice (some ⟨g, 0, none⟩) (l.length + 1) cap]) (by simp only [results, Try.results70]; go_simp) rfl ⟨_, rfl, ?_, ?_⟩
  · have hg : (Value.slice (some ⟨g, 0, none⟩) (l.length + 1) cap).ownBlock ≠ some (w.heap.size + 1) := by
      rcases hp1.at_ with e | e
      · intro h; exact hv (w.heap.size + 1) (by omega) (by rw [e]; simpa [Value.ownBlock] using h)
      · simp [Value.ownBlock, e]; omega
    simpa [over, endO, O.cs] using (own_set (own_set (own_set hown1 (p := ⟨w.heap.size + 1, 0, none⟩) hg _) (p := ⟨w.heap.size + 1, 1, none⟩) hg _) (p := ⟨w.heap.size + 1, 2, none⟩) hg _).alloc _
  · exact ((((((((Below.refl base w).alloc hb _).alloc (by simp; omega) _).alloc (by simp; omega) _).drew.trans hp1.below).setCell (by simp; omega) _).setCell (by simp; omega) _).setCell (by simp; omega) _).alloc (by simp; omega) _
end Go.Proofs.Ytdllehgiambkcaa.Sv
