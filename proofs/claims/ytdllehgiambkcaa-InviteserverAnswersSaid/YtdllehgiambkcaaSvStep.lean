/- The walk of inviteserver.Step and Start. -/
import Derived.Test.YtdllehgiambkcaaSvFired
namespace Go.Proofs.Ytdllehgiambkcaa.Sv
open Go.RowKit

/-- The machine and outputs of a call, stored into the result's own box, one below 'base'. -/
theorem outs_stored {m : M} {l : List O} {base base' : Nat} {w w1 W : World} {v : Value} {r : M × List O} {k : Nat} (hr : r = (m, l)) (hown : w1.ownsRow base' 52 4 v l.length (l.flatMap O.cs)) (hb : Below base' W w1) (hk : k < base') (hbk : base ≤ k) (hW : Below base w W) (a b c : Value) :
    Outs r.1 r.2 base w (.returned (.tuple #[.agg #[.int .u8 m.st, .int .i64 m.wait, .int .i64 m.code], v])) (((w1.setCell ⟨k, 0, none⟩ a).setCell ⟨k, 1, none⟩ b).setCell ⟨k, 2, none⟩ c) := by
  subst hr
  exact ⟨v, rfl, own_lower (ownsRow_setCell_below (ownsRow_setCell_below (ownsRow_setCell_below hown hk _) hk _) hk _) (by omega), (((hW.trans (hb.mono (by omega))).setCell hbk _).setCell hbk _).setCell hbk _⟩

set_option maxHeartbeats 2000000 in
theorem step_answer (s x c n t : Int) (w : World) (hm : may ⟨s, x, c⟩ = true) :
    Calls Try.prog 40 #[.agg #[.int .u8 s, .int .i64 x, .int .i64 c], .agg #[.int .u8 4, .int .i64 n, .int .u8 t]] w (Outs (answer ⟨s, x, c⟩ n).1 (answer ⟨s, x, c⟩ n).2 w.heap.size w) := by
  go_enter Try.func40, Try.ntmps40
  go_wp2_with (first
    | (go_at_call 22; refine (may_any _ _ _ _).mono ?_; rintro e w' ⟨rfl, cm, rfl⟩)
    | (go_at_call 68; refine (answer_any _ _ _ _ _).mono ?_; rintro e w1 ⟨v, rfl, hown, hb⟩; obtain ⟨hc, hf⟩ := bcellB hb; have hz0 : w.heap.size + 2 < w1.heap.size := blt hb (by simp)))
  all_goals (refine bodyPost_ret (v := ?_) ?_ rfl ?_ <;> (first | (simp only [results, Try.results40]; go_simp; exact rfl) | skip))
  all_goals refine outs_stored rfl hown hb ?_ ?_ ?_ _ _ _
  all_goals first | omega | (simp; done) | (repeat (first | exact Below.refl _ _ | refine Below.alloc ?_ (by simp; try omega) _))

set_option maxHeartbeats 2000000 in
theorem step_timer (s x c n t : Int) (w : World) (hm : may ⟨s, x, c⟩ = true) :
    Calls Try.prog 40 #[.agg #[.int .u8 s, .int .i64 x, .int .i64 c], .agg #[.int .u8 5, .int .i64 n, .int .u8 t]] w (Outs (fired ⟨s, x, c⟩ t).1 (fired ⟨s, x, c⟩ t).2 w.heap.size w) := by
  have HM := hide hm
  go_enter Try.func40, Try.ntmps40
  go_wp2_with (first
    | (go_at_call 22; refine (may_any _ _ _ _).mono ?_; rintro e w' ⟨rfl, cm, rfl⟩)
    | (go_at_call 69; refine (fired_any _ _ _ _ _ HM.out).mono ?_; rintro e w1 ⟨v, rfl, hown, hb⟩; obtain ⟨hc, hf⟩ := bcellB hb; have hz0 : w.heap.size + 2 < w1.heap.size := blt hb (by simp)))
  all_goals (refine bodyPost_ret (v := ?_) ?_ rfl ?_ <;> (first | (simp only [results, Try.results40]; go_simp; exact rfl) | skip))
  all_goals refine outs_stored rfl hown hb ?_ ?_ ?_ _ _ _
  all_goals first | omega | (simp; done) | (repeat (first | exact Below.refl _ _ | refine Below.alloc ?_ (by simp; try omega) _))

set_option maxHeartbeats 2000000 in
theorem step_not (s x c k n t : Int) (w : World) (hm : may ⟨s, x, c⟩ = false) :
    Calls Try.prog 40 #[.agg #[.int .u8 s, .int .i64 x, .int .i64 c], .agg #[.int .u8 k, .int .i64 n, .int .u8 t]] w (Outs ⟨0, 0, 0⟩ [] w.heap.size w) := by
  go_enter Try.func40, Try.ntmps40
  go_wp2_with (go_at_call 22; refine (may_any _ _ _ _).mono ?_; rintro e w' ⟨rfl, cm, rfl⟩)
  all_goals (refine bodyPost_ret (v := ?_) ?_ rfl ?_ <;> (first | (simp only [results, Try.results40]; go_simp; exact rfl) | skip))
  exact ⟨_, rfl, outs_nil _ _, by repeat (first | exact Below.refl _ _ | refine Below.alloc ?_ (by simp; try omega) _)⟩

set_option maxHeartbeats 2000000 in
theorem step_open (s x c k n t : Int) (w : World) (hm : may ⟨s, x, c⟩ = true) (ho : s = 3 ∨ s = 5) (hk : k = 1 ∨ k = 6 ∨ k = 3 ∧ s = 5) :
    Calls Try.prog 40 #[.agg #[.int .u8 s, .int .i64 x, .int .i64 c], .agg #[.int .u8 k, .int .i64 n, .int .u8 t]] w (Outs (step ⟨s, x, c⟩ k n t).1 (step ⟨s, x, c⟩ k n t).2 w.heap.size w) := by
  have HM := hide hm
  rcases hk with rfl | rfl | ⟨rfl, rfl⟩
  · have e : step ⟨s, x, c⟩ 1 n t = (⟨s, x, c⟩, [sendO c]) := by simp [step, hm, ho]
    rw [e]; have E := hide e; clear e
    rcases ho with rfl | rfl
    all_goals
      go_enter Try.func40, Try.ntmps40
      go_wp2_with (go_at_call 22; refine (may_any _ _ _ _).mono ?_; rintro e w' ⟨rfl, cm, rfl⟩)
    · go_region_held3 (fun w' => w'.cell? ⟨w.heap.size, 0, none⟩ = some (.int .u8 3) ∧ w'.cell? ⟨w.heap.size, 1, none⟩ = some (.int .i64 x) ∧ w'.cell? ⟨w.heap.size, 2, none⟩ = some (.int .i64 c)) (go_simp)
        (first | (go_at_call 64; refine (send_any _ _).mono ?_; rintro e w' ⟨rfl, cs, rfl⟩))
      all_goals go_wp2
      all_goals (refine bodyPost_ret (v := ?_) ?_ rfl ?_ <;> (first | (simp only [results, Try.results40]; go_simp; exact rfl) | skip))
      all_goals exact outs_mk (m := ⟨3, x, c⟩) (l := [sendO c]) rfl rfl (own_outs (by repeat (first | exact hhere _ _ _ (by simp) | rw [hget_drew] | rw [hpeel _ _ _ (by simp; try omega)])) (by omega) rfl rfl (by simp)) (by repeat (first | exact Below.refl _ _ | refine Below.drew ?_ | refine Below.alloc ?_ (by simp; try omega) _))
    · go_region_held3 (fun w' => w'.cell? ⟨w.heap.size, 0, none⟩ = some (.int .u8 5) ∧ w'.cell? ⟨w.heap.size, 1, none⟩ = some (.int .i64 x) ∧ w'.cell? ⟨w.heap.size, 2, none⟩ = some (.int .i64 c)) (go_simp)
        (first | (go_at_call 64; refine (send_any _ _).mono ?_; rintro e w' ⟨rfl, cs, rfl⟩))
      all_goals go_wp2
      all_goals (refine bodyPost_ret (v := ?_) ?_ rfl ?_ <;> (first | (simp only [results, Try.results40]; go_simp; exact rfl) | skip))
      all_goals exact outs_mk (m := ⟨5, x, c⟩) (l := [sendO c]) rfl rfl (own_outs (by repeat (first | exact hhere _ _ _ (by simp) | rw [hget_drew] | rw [hpeel _ _ _ (by simp; try omega)])) (by omega) rfl rfl (by simp)) (by repeat (first | exact Below.refl _ _ | refine Below.drew ?_ | refine Below.alloc ?_ (by simp; try omega) _))
  · have e : step ⟨s, x, c⟩ 6 n t = over ⟨s, x, c⟩ [⟨6, 0, 0, 0⟩] := by simp [step, hm, ho]
    rw [e]; have E := hide e; clear e
    rcases ho with rfl | rfl
    all_goals
      go_enter Try.func40, Try.ntmps40
      go_wp2_with (first
        | (go_at_call 22; refine (may_any _ _ _ _).mono ?_; rintro e w' ⟨rfl, cm, rfl⟩)
        | (go_at_call 70; refine (over_any ⟨_, _, _⟩ _ [⟨6, 0, 0, 0⟩] (w.heap.size + 4) _ (own_outs (by repeat (first | exact hhere _ _ _ (by simp) | rw [hget_drew] | rw [hpeel _ _ _ (by simp; try omega)])) (by simp) rfl rfl (by simp)) (by simp) (by simp)).mono ?_; rintro e w1 ⟨v, rfl, hown, hb⟩; obtain ⟨hc, hf⟩ := bcellB hb; have hz0 : w.heap.size + 2 < w1.heap.size := blt hb (by simp; try omega)))
    all_goals (refine bodyPost_ret (v := ?_) ?_ rfl ?_ <;> (first | (simp only [results, Try.results40]; go_simp; exact rfl) | skip))
    all_goals refine outs_stored rfl hown hb ?_ ?_ ?_ _ _ _
    all_goals first | omega | (simp; done) | (repeat (first | exact Below.refl _ _ | refine Below.drew ?_ | refine Below.alloc ?_ (by simp; try omega) _))
  · have e : step ⟨5, x, c⟩ 3 n t = (⟨6, 0, c⟩, [timerO 9 5000]) := by simp [step, hm]
    rw [e]; have E := hide e; clear e
    go_enter Try.func40, Try.ntmps40
    go_wp2_with (go_at_call 22; refine (may_any _ _ _ _).mono ?_; rintro e w' ⟨rfl, cm, rfl⟩)
    go_region_held3 (fun w' => w'.cell? ⟨w.heap.size, 2, none⟩ = some (.int .i64 c)) (go_simp)
      (first
      | (go_at_call 71; refine (timer_any _ _ _).mono ?_; rintro e w' ⟨rfl, ct, rfl⟩)
      | (go_at_call 63; refine (become_any _ _ _ _ _ _ _).mono ?_; rintro e w' ⟨rfl, cb, rfl⟩))
    all_goals go_wp2
    all_goals (refine bodyPost_ret (v := ?_) ?_ rfl ?_ <;> (first | (simp only [results, Try.results40]; go_simp; exact rfl) | skip))
    all_goals exact outs_mk (m := ⟨6, 0, c⟩) (l := [timerO 9 5000]) rfl rfl (own_outs (by repeat (first | exact hhere _ _ _ (by simp) | rw [hget_drew] | rw [hpeel _ _ _ (by simp; try omega)])) (by omega) rfl rfl (by simp)) (by repeat (first | exact Below.refl _ _ | refine Below.drew ?_ | refine Below.alloc ?_ (by simp; try omega) _))

set_option maxHeartbeats 4000000 in
theorem step_none (s x c k n t : Int) (w : World) (hm : may ⟨s, x, c⟩ = true) (k4 : k ≠ 4) (k5 : k ≠ 5) (h : ¬((s = 3 ∨ s = 5) ∧ (k = 1 ∨ k = 6 ∨ k = 3 ∧ s = 5))) :
    Calls Try.prog 40 #[.agg #[.int .u8 s, .int .i64 x, .int .i64 c], .agg #[.int .u8 k, .int .i64 n, .int .u8 t]] w (Outs ⟨s, x, c⟩ [] w.heap.size w) := by
  have fin : ∀ w', Below w.heap.size w w' → Outs ⟨s, x, c⟩ [] w.heap.size w (.returned (.tuple #[.agg #[.int .u8 s, .int .i64 x, .int .i64 c], .slice none 0 0])) w' := fun w' hb => ⟨_, rfl, outs_nil _ _, hb⟩
  have F := hide fin; clear fin
  have K4 : (k == 4) = false := beq_eq_false_iff_ne.2 k4
  have K5 : (k == 5) = false := beq_eq_false_iff_ne.2 k5
  have HH := hide h; clear h k4 k5
  by_cases k1 : k = 1
  · have s3 : (s == 3) = false := beq_eq_false_iff_ne.2 (fun e => HH.out ⟨.inl e, .inl k1⟩)
    have s5 : (s == 5) = false := beq_eq_false_iff_ne.2 (fun e => HH.out ⟨.inr e, .inl k1⟩)
    subst k1
    go_enter Try.func40, Try.ntmps40
    go_wp2_with (go_at_call 22; refine (may_any _ _ _ _).mono ?_; rintro e w' ⟨rfl, cm, rfl⟩)
    all_goals (refine bodyPost_ret (v := ?_) ?_ rfl ?_ <;> (first | (simp only [results, Try.results40]; go_simp; exact rfl) | skip))
    all_goals exact F.out _ (by repeat (first | exact Below.refl _ _ | refine Below.drew ?_ | refine Below.alloc ?_ (by simp; try omega) _))
  have K1 : (k == 1) = false := beq_eq_false_iff_ne.2 k1
  by_cases k6 : k = 6
  · have s3 : (s == 3) = false := beq_eq_false_iff_ne.2 (fun e => HH.out ⟨.inl e, .inr (.inl k6)⟩)
    have s5 : (s == 5) = false := beq_eq_false_iff_ne.2 (fun e => HH.out ⟨.inr e, .inr (.inl k6)⟩)
    subst k6
    go_enter Try.func40, Try.ntmps40
    go_wp2_with (go_at_call 22; refine (may_any _ _ _ _).mono ?_; rintro e w' ⟨rfl, cm, rfl⟩)
    all_goals (refine bodyPost_ret (v := ?_) ?_ rfl ?_ <;> (first | (simp only [results, Try.results40]; go_simp; exact rfl) | skip))
    all_goals exact F.out _ (by repeat (first | exact Below.refl _ _ | refine Below.drew ?_ | refine Below.alloc ?_ (by simp; try omega) _))
  have K6 : (k == 6) = false := beq_eq_false_iff_ne.2 k6
  by_cases k3 : k = 3
  · have s5 : (s == 5) = false := beq_eq_false_iff_ne.2 (fun e => HH.out ⟨.inr e, .inr (.inr ⟨k3, e⟩)⟩)
    subst k3
    go_enter Try.func40, Try.ntmps40
    go_wp2_with (go_at_call 22; refine (may_any _ _ _ _).mono ?_; rintro e w' ⟨rfl, cm, rfl⟩)
    all_goals (refine bodyPost_ret (v := ?_) ?_ rfl ?_ <;> (first | (simp only [results, Try.results40]; go_simp; exact rfl) | skip))
    all_goals exact F.out _ (by repeat (first | exact Below.refl _ _ | refine Below.drew ?_ | refine Below.alloc ?_ (by simp; try omega) _))
  have K3 : (k == 3) = false := beq_eq_false_iff_ne.2 k3
  clear k1 k6 k3
  go_enter Try.func40, Try.ntmps40
  go_wp2_with (go_at_call 22; refine (may_any _ _ _ _).mono ?_; rintro e w' ⟨rfl, cm, rfl⟩)
  all_goals (refine bodyPost_ret (v := ?_) ?_ rfl ?_ <;> (first | (simp only [results, Try.results40]; go_simp; exact rfl) | skip))
  all_goals exact F.out _ (by repeat (first | exact Below.refl _ _ | refine Below.drew ?_ | refine Below.alloc ?_ (by simp; try omega) _))

theorem step_any (s x c k n t : Int) (w : World) :
    Calls Try.prog 40 #[.agg #[.int .u8 s, .int .i64 x, .int .i64 c], .agg #[.int .u8 k, .int .i64 n, .int .u8 t]] w (Outs (step ⟨s, x, c⟩ k n t).1 (step ⟨s, x, c⟩ k n t).2 w.heap.size w) := by
  cases hm : may ⟨s, x, c⟩
  · have e : step ⟨s, x, c⟩ k n t = (⟨0, 0, 0⟩, []) := by simp [step, hm]
    rw [e]; exact step_not s x c k n t w hm
  by_cases k4 : k = 4
  · subst k4
    have e : step ⟨s, x, c⟩ 4 n t = answer ⟨s, x, c⟩ n := by simp [step, hm]
    rw [e]; exact step_answer s x c n t w hm
  by_cases k5 : k = 5
  · subst k5
    have e : step ⟨s, x, c⟩ 5 n t = fired ⟨s, x, c⟩ t := by simp [step, hm]
    rw [e]; exact step_timer s x c n t w hm
  by_cases h : (s = 3 ∨ s = 5) ∧ (k = 1 ∨ k = 6 ∨ k = 3 ∧ s = 5)
  · exact step_open s x c k n t w hm h.1 h.2
  · have e : step ⟨s, x, c⟩ k n t = (⟨s, x, c⟩, []) := by
      unfold step
      rw [if_neg (by simp [hm]), if_neg k4, if_neg k5, if_neg (by show ¬(k = 1 ∧ (s = 3 ∨ s = 5)); omega), if_neg (by show ¬(k = 6 ∧ (s = 3 ∨ s = 5)); omega), if_neg (by show ¬(k = 3 ∧ s = 5); omega)]
    rw [e]; exact step_none s x c k n t w hm k4 k5 h

theorem start_any (w : World) : Calls Try.prog 33 #[] w (Outs start.1 start.2 w.heap.size w) := by
  go_enter Try.func33, Try.ntmps33
  go_wp2_with (first
    | (go_at_call 64; refine (send_any _ _).mono ?_; rintro e w' ⟨rfl, cs, rfl⟩)
    | (go_at_call 63; refine (become_any _ _ _ _ _ _ _).mono ?_; rintro e w' ⟨rfl, cb, rfl⟩))
  all_goals (refine bodyPost_ret (v := ?_) ?_ rfl ?_ <;> (first | (simp only [results, Try.results33]; go_simp; exact rfl) | skip))
  exact outs_mk (m := ⟨3, 0, 100⟩) (l := [⟨3, 0, 0, 0⟩, sendO 100]) rfl rfl (own_outs (by repeat (first | exact hhere _ _ _ (by simp) | rw [hpeel _ _ _ (by simp; try omega)])) (by omega) rfl rfl (by simp)) (by repeat (first | exact Below.refl _ _ | refine Below.drew ?_ | refine Below.alloc ?_ (by simp; try omega) _))
end Go.Proofs.Ytdllehgiambkcaa.Sv
