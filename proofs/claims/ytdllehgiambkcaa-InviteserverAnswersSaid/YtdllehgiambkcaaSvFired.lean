/- The walk of inviteserver.fired. -/
import Derived.Test.YtdllehgiambkcaaSvAnswer
namespace Go.Proofs.Ytdllehgiambkcaa.Sv
open Go.RowKit

set_option maxHeartbeats 1000000 in
theorem fired_over (s x c t : Int) (w : World) (h : s = 4 ∧ t = 12 ∨ s = 6 ∧ t = 9) :
    Calls Try.prog 69 #[.agg #[.int .u8 s, .int .i64 x, .int .i64 c], .int .u8 t] w (Outs (fired ⟨s, x, c⟩ t).1 (fired ⟨s, x, c⟩ t).2 w.heap.size w) := by
  rcases h with ⟨rfl, rfl⟩ | ⟨rfl, rfl⟩
  all_goals
    go_enter Try.func69, Try.ntmps69
    go_wp2_with (go_at_call 70; refine (over_any ⟨_, _, _⟩ _ [] (w.heap.size + 2) _ (outs_nil _ _) (by simp) (by simp)).mono ?_; rintro e w1 ⟨v, rfl, hown, hb⟩; obtain ⟨hc, hf⟩ := bcellB hb; have hz0 : w.heap.size < w1.heap.size := blt hb (by simp; try omega); have hz1 : w.heap.size + 1 < w1.heap.size := blt hb (by simp))


    refine bodyPost_ret (v := ?_) ?_ rfl ?_; rotate_left; (simp only [results, Try.results69]; go_simp; exact rfl)
    refine outs_mk (m := ⟨7, 0, c⟩) (l := [endO]) (by simp [fired, over]) rfl ?_ ?_
    · exact own_lower (ownsRow_setCell_below (ownsRow_setCell_below (ownsRow_setCell_below hown (by simp) _) (by simp) _) (by simp) _) (by omega)
    · exact ((((((Below.refl _ _).alloc (Nat.le_refl _) _).alloc (by simp) _).trans (hb.mono (by omega))).setCell (by simp) _).setCell (by simp) _).setCell (by simp) _

set_option maxHeartbeats 1000000 in
theorem fired_h (x c : Int) (w : World) :
    Calls Try.prog 69 #[.agg #[.int .u8 5, .int .i64 x, .int .i64 c], .int .u8 8] w (Outs (fired ⟨5, x, c⟩ 8).1 (fired ⟨5, x, c⟩ 8).2 w.heap.size w) := by
  go_enter Try.func69, Try.ntmps69
  go_wp2_with (go_at_call 70; (refine (over_any ⟨_, _, _⟩ _ [⟨5, 0, 0, 0⟩] (w.heap.size + 2) _ (own_outs (by repeat (first | exact hhere _ _ _ (by simp) | rw [hpeel _ _ _ (by simp; try omega)])) (by simp) rfl rfl (by simp)) (by simp) (by simp)).mono ?_); rintro e w1 ⟨v, rfl, hown, hb⟩; obtain ⟨hc, hf⟩ := bcellB hb; have hz0 : w.heap.size < w1.heap.size := blt hb (by simp; try omega); have hz1 : w.heap.size + 1 < w1.heap.size := blt hb (by simp; try omega))
  refine bodyPost_ret (v := ?_) ?_ rfl ?_; rotate_left; (simp only [results, Try.results69]; go_simp; exact rfl)
  refine outs_mk (m := ⟨7, 0, c⟩) (l := [⟨5, 0, 0, 0⟩, endO]) (by simp [fired, over]) rfl ?_ ?_
  · exact own_lower (ownsRow_setCell_below (ownsRow_setCell_below (ownsRow_setCell_below hown (by simp) _) (by simp) _) (by simp) _) (by omega)
  · exact (((((((Below.refl _ _).alloc (Nat.le_refl _) _).alloc (by simp) _).alloc (by simp; try omega) _).trans (hb.mono (by omega))).setCell (by simp) _).setCell (by simp) _).setCell (by simp) _

set_option maxHeartbeats 1000000 in
theorem fired_g (x c : Int) (w : World) (h0 : 0 ≤ x) (h1 : x ≤ 4000) :
    Calls Try.prog 69 #[.agg #[.int .u8 5, .int .i64 x, .int .i64 c], .int .u8 7] w (Outs (fired ⟨5, x, c⟩ 7).1 (fired ⟨5, x, c⟩ 7).2 w.heap.size w) := by
  by_cases h : 4000 < 2 * x
  · have e : fired ⟨5, x, c⟩ 7 = (⟨5, 4000, c⟩, [sendO c, timerO 7 4000]) := by simp [fired, show min (2 * x) 4000 = 4000 by omega]
    rw [e]; have E := hide e; clear e
    go_enter Try.func69, Try.ntmps69
    go_wp2_with fail
    go_region_held3 (fun w' => w'.cell? ⟨w.heap.size, 0, none⟩ = some (.int .u8 5) ∧ w'.cell? ⟨w.heap.size, 1, none⟩ = some (.int .i64 4000) ∧ w'.cell? ⟨w.heap.size, 2, none⟩ = some (.int .i64 c)) (go_simp)
      (first
      | (go_at_call 64; refine (send_any _ _).mono ?_; rintro e w' ⟨rfl, cs, rfl⟩)
      | (go_at_call 71; refine (timer_any _ _ _).mono ?_; rintro e w' ⟨rfl, ct, rfl⟩))
    all_goals go_wp2
    all_goals (refine bodyPost_ret (v := ?_) ?_ rfl ?_; rotate_left; (simp only [results, Try.results69]; go_simp; exact rfl))
    all_goals exact outs_mk (m := ⟨5, 4000, c⟩) (l := [sendO c, timerO 7 (4000)]) rfl rfl (own_outs (by repeat (first | exact hhere _ _ _ (by simp) | rw [hpeel _ _ _ (by simp; try omega)])) (by omega) rfl rfl (by simp)) (by repeat (first | exact Below.refl _ _ | refine Below.drew ?_ | refine Below.alloc ?_ (by simp; try omega) _))
  · have e : fired ⟨5, x, c⟩ 7 = (⟨5, 2 * x, c⟩, [sendO c, timerO 7 (2 * x)]) := by simp [fired, show min (2 * x) 4000 = 2 * x by omega]
    rw [e]; have E := hide e; clear e
    go_enter Try.func69, Try.ntmps69
    go_wp2_with fail
    go_region_held3 (fun w' => w'.cell? ⟨w.heap.size, 0, none⟩ = some (.int .u8 5) ∧ w'.cell? ⟨w.heap.size, 1, none⟩ = some (.int .i64 (2 * x)) ∧ w'.cell? ⟨w.heap.size, 2, none⟩ = some (.int .i64 c)) (go_simp)
      (first
      | (go_at_call 64; refine (send_any _ _).mono ?_; rintro e w' ⟨rfl, cs, rfl⟩)
      | (go_at_call 71; refine (timer_any _ _ _).mono ?_; rintro e w' ⟨rfl, ct, rfl⟩))
    all_goals go_wp2
    all_goals (refine bodyPost_ret (v := ?_) ?_ rfl ?_; rotate_left; (simp only [results, Try.results69]; go_simp; exact rfl))
    all_goals exact outs_mk (m := ⟨5, 2 * x, c⟩) (l := [sendO c, timerO 7 (2 * x)]) rfl rfl (own_outs (by repeat (first | exact hhere _ _ _ (by simp) | rw [hpeel _ _ _ (by simp; try omega)])) (by omega) rfl rfl (by simp)) (by repeat (first | exact Below.refl _ _ | refine Below.drew ?_ | refine Below.alloc ?_ (by simp; try omega) _))

set_option maxHeartbeats 1000000 in
theorem fired_none (s x c t : Int) (w : World) (h4 : ¬(s = 4 ∧ t = 12)) (h6 : ¬(s = 6 ∧ t = 9)) (h5 : ¬(s = 5 ∧ t = 7)) (h5' : ¬(s = 5 ∧ t = 8)) :
    Calls Try.prog 69 #[.agg #[.int .u8 s, .int .i64 x, .int .i64 c], .int .u8 t] w (Outs (fired ⟨s, x, c⟩ t).1 (fired ⟨s, x, c⟩ t).2 w.heap.size w) := by
  have e : fired ⟨s, x, c⟩ t = (⟨s, x, c⟩, []) := by simp only [fired]; rw [if_neg h4, if_neg h6, if_neg h5, if_neg h5']
  rw [e]; have E := hide e; clear e
  have fin : ∀ w', Below w.heap.size w w' → Outs ⟨s, x, c⟩ [] w.heap.size w (.returned (.tuple #[.agg #[.int .u8 s, .int .i64 x, .int .i64 c], .slice none 0 0])) w' := fun w' hb => ⟨_, rfl, outs_nil _ _, hb⟩
  have F := hide fin; clear fin
  have H4 := hide h4; have H6 := hide h6; have H5 := hide h5; have H5' := hide h5'; clear h4 h6 h5 h5'
  by_cases s4 : s = 4
  · have t1 : (t == 12) = false := beq_eq_false_iff_ne.2 (fun h => H4.out ⟨s4, h⟩)
    subst s4
    go_enter Try.func69, Try.ntmps69
    go_wp2_with fail
    refine bodyPost_ret (v := ?_) ?_ rfl ?_; rotate_left; (simp only [results, Try.results69]; go_simp; exact rfl)
    exact F.out _ (by repeat (first | exact Below.refl _ _ | refine Below.alloc ?_ (by simp; try omega) _))
  by_cases s6 : s = 6
  · have t1 : (t == 9) = false := beq_eq_false_iff_ne.2 (fun h => H6.out ⟨s6, h⟩)
    subst s6
    go_enter Try.func69, Try.ntmps69
    go_wp2_with fail
    refine bodyPost_ret (v := ?_) ?_ rfl ?_; rotate_left; (simp only [results, Try.results69]; go_simp; exact rfl)
    exact F.out _ (by repeat (first | exact Below.refl _ _ | refine Below.alloc ?_ (by simp; try omega) _))
  by_cases s5 : s = 5
  · have t1 : (t == 7) = false := beq_eq_false_iff_ne.2 (fun h => H5.out ⟨s5, h⟩)
    have t2 : (t == 8) = false := beq_eq_false_iff_ne.2 (fun h => H5'.out ⟨s5, h⟩)
    subst s5
    go_enter Try.func69, Try.ntmps69
    go_wp2_with fail
    refine bodyPost_ret (v := ?_) ?_ rfl ?_; rotate_left; (simp only [results, Try.results69]; go_simp; exact rfl)
    exact F.out _ (by repeat (first | exact Below.refl _ _ | refine Below.alloc ?_ (by simp; try omega) _))
  have t4 : (s == 4) = false := beq_eq_false_iff_ne.2 s4
  have t5 : (s == 5) = false := beq_eq_false_iff_ne.2 s5
  have t6 : (s == 6) = false := beq_eq_false_iff_ne.2 s6
  go_enter Try.func69, Try.ntmps69
  go_wp2_with fail
  refine bodyPost_ret (v := ?_) ?_ rfl ?_; rotate_left; (simp only [results, Try.results69]; go_simp; exact rfl)
  exact F.out _ (by repeat (first | exact Below.refl _ _ | refine Below.alloc ?_ (by simp; try omega) _))

theorem fired_any (s x c t : Int) (w : World) (hx : may ⟨s, x, c⟩ = true) :
    Calls Try.prog 69 #[.agg #[.int .u8 s, .int .i64 x, .int .i64 c], .int .u8 t] w (Outs (fired ⟨s, x, c⟩ t).1 (fired ⟨s, x, c⟩ t).2 w.heap.size w) := by
  have hx1 : s = 5 → 0 ≤ x ∧ x ≤ 4000 := by intro h; simp [may, h, short] at hx; omega
  by_cases h4 : s = 4 ∧ t = 12
  · exact fired_over _ _ _ _ _ (.inl h4)
  by_cases h6 : s = 6 ∧ t = 9
  · exact fired_over _ _ _ _ _ (.inr h6)
  by_cases h5 : s = 5 ∧ t = 7
  · obtain ⟨rfl, rfl⟩ := h5
    exact fired_g x c w (hx1 rfl).1 (hx1 rfl).2
  by_cases h5' : s = 5 ∧ t = 8
  · obtain ⟨rfl, rfl⟩ := h5'
    exact fired_h x c w
  exact fired_none s x c t w h4 h6 h5 h5'
end Go.Proofs.Ytdllehgiambkcaa.Sv
