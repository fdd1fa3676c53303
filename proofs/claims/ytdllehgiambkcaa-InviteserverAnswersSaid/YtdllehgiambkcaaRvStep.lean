/- The walks of the reference of chapter 14: Step, Start. Printed by mk_ref14c.py. -/
import Derived.Test.YtdllehgiambkcaaRvPro
namespace Go.Proofs.Ytdllehgiambkcaa.Sv
open Go.RowKit

theorem pro_any (x c k n t : Int) (w : World) (hm : may ⟨3, x, c⟩ = true) (k6 : k ≠ 6) :
    Calls Try.prog 78 #[.agg #[.int .u8 3, .int .i64 x, .int .i64 c], .agg #[.int .u8 k, .int .i64 n, .int .u8 t]] w (Outs (step ⟨3, x, c⟩ k n t).1 (step ⟨3, x, c⟩ k n t).2 w.heap.size w) := by
  by_cases k1 : k = 1
  · subst k1
    rw [show step ⟨3, x, c⟩ 1 n t = (⟨3, x, c⟩, [sendO c]) by simp [step, hm]]
    exact pro_req x c n t w
  by_cases k4 : k = 4
  · subst k4
    obtain ⟨c0, c1, c2, c3, cc⟩ := cls1 n
    rcases cc with h | h | h | h
    · obtain ⟨_, f2, f3, f4, _⟩ := c0 h
      rw [show step ⟨3, x, c⟩ 4 n t = (⟨3, x, c⟩, []) by simp [step, hm, answer, h]]
      exact pro_4 x c n t w f2 f3 f4
    · obtain ⟨_, f3, f4, _, f2⟩ := c1 h
      by_cases e : n = 100
      · rw [show step ⟨3, x, c⟩ 4 n t = (⟨3, x, c⟩, []) by simp [step, hm, answer, e]]
        exact pro_4 x c n t w (by rw [f2, e]; rfl) f3 f4
      · rw [show step ⟨3, x, c⟩ 4 n t = (⟨3, 0, n⟩, [sendO n]) by simp [step, hm, answer, h, e]]
        exact pro_1 x c n t w (by rw [f2]; simpa using e)
    · obtain ⟨_, f2, f3, f4, _⟩ := c2 h
      have e : n ≠ 100 := by rintro rfl; simp [cls] at h
      rw [show step ⟨3, x, c⟩ 4 n t = (⟨4, 0, n⟩, [sendO n, timerO 12 32000]) by simp [step, hm, answer, h, e]]
      exact pro_2 x c n t w f2 f3
    · obtain ⟨_, f2, f3, f4, _⟩ := c3 h
      have e : n ≠ 100 := by rintro rfl; simp [cls] at h
      rw [show step ⟨3, x, c⟩ 4 n t = (⟨5, 500, n⟩, [sendO n, timerO 7 500, timerO 8 32000]) by simp [step, hm, answer, h, e]]
      exact pro_3 x c n t w f2 f3 f4
  have e : step ⟨3, x, c⟩ k n t = (⟨3, x, c⟩, []) := by
    by_cases k5 : k = 5
    · simp [step, hm, k5, fired]
    · simp [step, hm, k5, k1, k4, k6]
  rw [e]
  exact pro_5 x c k n t w (by simpa using k1) (by simpa using k4)

theorem com_any (x c k n t : Int) (w : World) (hm : may ⟨5, x, c⟩ = true) (k6 : k ≠ 6) :
    Calls Try.prog 79 #[.agg #[.int .u8 5, .int .i64 x, .int .i64 c], .agg #[.int .u8 k, .int .i64 n, .int .u8 t]] w (Outs (step ⟨5, x, c⟩ k n t).1 (step ⟨5, x, c⟩ k n t).2 w.heap.size w) := by
  have hx : 0 ≤ x ∧ x ≤ 4000 := by simp [may, short] at hm; omega
  by_cases k1 : k = 1
  · subst k1
    rw [show step ⟨5, x, c⟩ 1 n t = (⟨5, x, c⟩, [sendO c]) by simp [step, hm]]
    exact com_req x c n t w
  by_cases k3 : k = 3
  · subst k3
    rw [show step ⟨5, x, c⟩ 3 n t = (⟨6, 0, c⟩, [timerO 9 5000]) by simp [step, hm]]
    exact com_ack x c n t w
  by_cases k5 : k = 5
  · subst k5
    by_cases t7 : t = 7
    · subst t7
      by_cases h : 4000 < 2 * x
      · rw [show step ⟨5, x, c⟩ 5 n 7 = (⟨5, 4000, c⟩, [sendO c, timerO 7 4000]) by simp [step, hm, fired, show min (2 * x) 4000 = 4000 by omega]]
        exact com_g1 x c n w hx.1 hx.2 h
      · rw [show step ⟨5, x, c⟩ 5 n 7 = (⟨5, 2 * x, c⟩, [sendO c, timerO 7 (2 * x)]) by simp [step, hm, fired, show min (2 * x) 4000 = 2 * x by omega]]
        exact com_g2 x c n w hx.1 hx.2 (by omega)
    by_cases t8 : t = 8
    · subst t8
      rw [show step ⟨5, x, c⟩ 5 n 8 = (⟨7, 0, c⟩, [⟨5, 0, 0, 0⟩, endO]) by simp [step, hm, fired, over]]
      exact com_h x c n w
    rw [show step ⟨5, x, c⟩ 5 n t = (⟨5, x, c⟩, []) by simp [step, hm, fired, t7, t8]]
    exact com_5 x c n t w (by simpa using t7) (by simpa using t8)
  have e : step ⟨5, x, c⟩ k n t = (⟨5, x, c⟩, []) := by
    by_cases k4 : k = 4
    · simp [step, hm, k4, answer]
    · simp [step, hm, k5, k1, k4, k3, k6]
  rw [e]
  exact com_n x c k n t w (by simpa using k1) (by simpa using k3) (by simpa using k5)

set_option maxHeartbeats 2000000 in
theorem rst_not (s x c k n t : Int) (w : World) (hm : may ⟨s, x, c⟩ = false) :
    Calls Try.prog 65 #[.agg #[.int .u8 s, .int .i64 x, .int .i64 c], .agg #[.int .u8 k, .int .i64 n, .int .u8 t]] w (Outs ⟨0, 0, 0⟩ [] w.heap.size w) := by
  go_enter Try.func65, Try.ntmps65
  go_wp2_with (first | (go_at_call 72; refine (from_any _ _ _ _).mono ?_; rintro e w' ⟨rfl, rfl⟩) | (go_at_call 66; refine (rmay_any _ _ _ _).mono ?_; rintro e w1 ⟨rfl, hb⟩; obtain ⟨hc, hf⟩ := bcell hb; have hz0 : w.heap.size < w1.heap.size := blt hb (by simp; try omega); have hz1 : w.heap.size + 1 < w1.heap.size := blt hb (by simp; try omega); have hz2 : w.heap.size + 2 < w1.heap.size := blt hb (by simp; try omega); have hz3 : w.heap.size + 3 < w1.heap.size := blt hb (by simp; try omega); have hB : Below w.heap.size w w1 := ((((((Below.refl _ _).alloc (Nat.le_refl _) _).alloc (by simp) _).alloc (by simp; try omega) _).alloc (by simp; try omega) _).trans (hb.mono (by simp; try omega)))))
  all_goals (refine bodyPost_ret (v := ?_) ?_ rfl ?_ <;> (first | (simp only [results, Try.results65]; go_simp; exact rfl) | skip))
  all_goals exact ⟨_, rfl, outs_nil _ _, (by repeat (first | exact hB | refine Below.drew ?_ | refine Below.alloc ?_ (by simp; try omega) _ | refine Below.setCell ?_ (by simp; try omega) _))⟩

set_option maxHeartbeats 2000000 in
theorem rst_f3 (x c n t : Int) (w : World) (hm : may ⟨3, x, c⟩ = true) :
    Calls Try.prog 65 #[.agg #[.int .u8 3, .int .i64 x, .int .i64 c], .agg #[.int .u8 6, .int .i64 n, .int .u8 t]] w (Outs ⟨7, 0, c⟩ [⟨6, 0, 0, 0⟩, endO] w.heap.size w) := by
  go_enter Try.func65, Try.ntmps65
  go_wp2_with (first | (go_at_call 72; refine (from_any _ _ _ _).mono ?_; rintro e w' ⟨rfl, rfl⟩) | (go_at_call 66; refine (rmay_any _ _ _ _).mono ?_; rintro e w1 ⟨rfl, hb⟩; obtain ⟨hc, hf⟩ := bcell hb; have hz0 : w.heap.size < w1.heap.size := blt hb (by simp; try omega); have hz1 : w.heap.size + 1 < w1.heap.size := blt hb (by simp; try omega); have hz2 : w.heap.size + 2 < w1.heap.size := blt hb (by simp; try omega); have hz3 : w.heap.size + 3 < w1.heap.size := blt hb (by simp; try omega); have hB : Below w.heap.size w w1 := ((((((Below.refl _ _).alloc (Nat.le_refl _) _).alloc (by simp) _).alloc (by simp; try omega) _).alloc (by simp; try omega) _).trans (hb.mono (by simp; try omega)))))
  all_goals (refine bodyPost_ret (v := ?_) ?_ rfl ?_ <;> (first | (simp only [results, Try.results65]; go_simp; exact rfl) | skip))
  all_goals exact outs_mk (m := ⟨7, 0, c⟩) (l := [⟨6, 0, 0, 0⟩, endO]) rfl rfl (own_outs (by repeat (first | exact hhere _ _ _ (by simp) | rw [hget_drew] | rw [hpeel _ _ _ (by simp; try omega)])) (by first | omega | (simp; omega)) rfl rfl (by simp)) (by repeat (first | exact hB | refine Below.drew ?_ | refine Below.alloc ?_ (by simp; try omega) _ | refine Below.setCell ?_ (by simp; try omega) _))

set_option maxHeartbeats 2000000 in
theorem rst_f5 (x c n t : Int) (w : World) (hm : may ⟨5, x, c⟩ = true) :
    Calls Try.prog 65 #[.agg #[.int .u8 5, .int .i64 x, .int .i64 c], .agg #[.int .u8 6, .int .i64 n, .int .u8 t]] w (Outs ⟨7, 0, c⟩ [⟨6, 0, 0, 0⟩, endO] w.heap.size w) := by
  go_enter Try.func65, Try.ntmps65
  go_wp2_with (first | (go_at_call 72; refine (from_any _ _ _ _).mono ?_; rintro e w' ⟨rfl, rfl⟩) | (go_at_call 66; refine (rmay_any _ _ _ _).mono ?_; rintro e w1 ⟨rfl, hb⟩; obtain ⟨hc, hf⟩ := bcell hb; have hz0 : w.heap.size < w1.heap.size := blt hb (by simp; try omega); have hz1 : w.heap.size + 1 < w1.heap.size := blt hb (by simp; try omega); have hz2 : w.heap.size + 2 < w1.heap.size := blt hb (by simp; try omega); have hz3 : w.heap.size + 3 < w1.heap.size := blt hb (by simp; try omega); have hB : Below w.heap.size w w1 := ((((((Below.refl _ _).alloc (Nat.le_refl _) _).alloc (by simp) _).alloc (by simp; try omega) _).alloc (by simp; try omega) _).trans (hb.mono (by simp; try omega)))))
  all_goals (refine bodyPost_ret (v := ?_) ?_ rfl ?_ <;> (first | (simp only [results, Try.results65]; go_simp; exact rfl) | skip))
  all_goals exact outs_mk (m := ⟨7, 0, c⟩) (l := [⟨6, 0, 0, 0⟩, endO]) rfl rfl (own_outs (by repeat (first | exact hhere _ _ _ (by simp) | rw [hget_drew] | rw [hpeel _ _ _ (by simp; try omega)])) (by first | omega | (simp; omega)) rfl rfl (by simp)) (by repeat (first | exact hB | refine Below.drew ?_ | refine Below.alloc ?_ (by simp; try omega) _ | refine Below.setCell ?_ (by simp; try omega) _))

set_option maxHeartbeats 2000000 in
theorem rst_4a (x c n t : Int) (w : World) (hm : may ⟨4, x, c⟩ = true) (f : frm n 200 299 = true) :
    Calls Try.prog 65 #[.agg #[.int .u8 4, .int .i64 x, .int .i64 c], .agg #[.int .u8 4, .int .i64 n, .int .u8 t]] w (Outs ⟨4, 0, n⟩ [sendO n] w.heap.size w) := by
  go_enter Try.func65, Try.ntmps65
  go_wp2_with (first | (go_at_call 72; refine (from_any _ _ _ _).mono ?_; rintro e w' ⟨rfl, rfl⟩) | (go_at_call 66; refine (rmay_any _ _ _ _).mono ?_; rintro e w1 ⟨rfl, hb⟩; obtain ⟨hc, hf⟩ := bcell hb; have hz0 : w.heap.size < w1.heap.size := blt hb (by simp; try omega); have hz1 : w.heap.size + 1 < w1.heap.size := blt hb (by simp; try omega); have hz2 : w.heap.size + 2 < w1.heap.size := blt hb (by simp; try omega); have hz3 : w.heap.size + 3 < w1.heap.size := blt hb (by simp; try omega); have hB : Below w.heap.size w w1 := ((((((Below.refl _ _).alloc (Nat.le_refl _) _).alloc (by simp) _).alloc (by simp; try omega) _).alloc (by simp; try omega) _).trans (hb.mono (by simp; try omega)))))
  go_region_held3 (fun w' => w'.cell? ⟨w.heap.size + 1, 1, none⟩ = some (.int .i64 n)) (go_simp) (fail)
  all_goals go_wp2
  all_goals (refine bodyPost_ret (v := ?_) ?_ rfl ?_ <;> (first | (simp only [results, Try.results65]; go_simp; exact rfl) | skip))
  all_goals exact outs_mk (m := ⟨4, 0, n⟩) (l := [sendO n]) rfl rfl (own_outs (by repeat (first | exact hhere _ _ _ (by simp) | rw [hget_drew] | rw [hpeel _ _ _ (by simp; try omega)])) (by first | omega | (simp; omega)) rfl rfl (by simp)) (by repeat (first | exact hB | refine Below.drew ?_ | refine Below.alloc ?_ (by simp; try omega) _ | refine Below.setCell ?_ (by simp; try omega) _))

set_option maxHeartbeats 2000000 in
theorem rst_4n (x c n t : Int) (w : World) (hm : may ⟨4, x, c⟩ = true) (f : frm n 200 299 = false) :
    Calls Try.prog 65 #[.agg #[.int .u8 4, .int .i64 x, .int .i64 c], .agg #[.int .u8 4, .int .i64 n, .int .u8 t]] w (Outs ⟨4, x, c⟩ [] w.heap.size w) := by
  go_enter Try.func65, Try.ntmps65
  go_wp2_with (first | (go_at_call 72; refine (from_any _ _ _ _).mono ?_; rintro e w' ⟨rfl, rfl⟩) | (go_at_call 66; refine (rmay_any _ _ _ _).mono ?_; rintro e w1 ⟨rfl, hb⟩; obtain ⟨hc, hf⟩ := bcell hb; have hz0 : w.heap.size < w1.heap.size := blt hb (by simp; try omega); have hz1 : w.heap.size + 1 < w1.heap.size := blt hb (by simp; try omega); have hz2 : w.heap.size + 2 < w1.heap.size := blt hb (by simp; try omega); have hz3 : w.heap.size + 3 < w1.heap.size := blt hb (by simp; try omega); have hB : Below w.heap.size w w1 := ((((((Below.refl _ _).alloc (Nat.le_refl _) _).alloc (by simp) _).alloc (by simp; try omega) _).alloc (by simp; try omega) _).trans (hb.mono (by simp; try omega)))))
  all_goals (refine bodyPost_ret (v := ?_) ?_ rfl ?_ <;> (first | (simp only [results, Try.results65]; go_simp; exact rfl) | skip))
  all_goals exact ⟨_, rfl, outs_nil _ _, (by repeat (first | exact hB | refine Below.drew ?_ | refine Below.alloc ?_ (by simp; try omega) _ | refine Below.setCell ?_ (by simp; try omega) _))⟩

set_option maxHeartbeats 2000000 in
theorem rst_4l (x c n : Int) (w : World) (hm : may ⟨4, x, c⟩ = true) :
    Calls Try.prog 65 #[.agg #[.int .u8 4, .int .i64 x, .int .i64 c], .agg #[.int .u8 5, .int .i64 n, .int .u8 12]] w (Outs ⟨7, 0, c⟩ [endO] w.heap.size w) := by
  go_enter Try.func65, Try.ntmps65
  go_wp2_with (first | (go_at_call 72; refine (from_any _ _ _ _).mono ?_; rintro e w' ⟨rfl, rfl⟩) | (go_at_call 66; refine (rmay_any _ _ _ _).mono ?_; rintro e w1 ⟨rfl, hb⟩; obtain ⟨hc, hf⟩ := bcell hb; have hz0 : w.heap.size < w1.heap.size := blt hb (by simp; try omega); have hz1 : w.heap.size + 1 < w1.heap.size := blt hb (by simp; try omega); have hz2 : w.heap.size + 2 < w1.heap.size := blt hb (by simp; try omega); have hz3 : w.heap.size + 3 < w1.heap.size := blt hb (by simp; try omega); have hB : Below w.heap.size w w1 := ((((((Below.refl _ _).alloc (Nat.le_refl _) _).alloc (by simp) _).alloc (by simp; try omega) _).alloc (by simp; try omega) _).trans (hb.mono (by simp; try omega)))))
  all_goals (refine bodyPost_ret (v := ?_) ?_ rfl ?_ <;> (first | (simp only [results, Try.results65]; go_simp; exact rfl) | skip))
  all_goals exact outs_mk (m := ⟨7, 0, c⟩) (l := [endO]) rfl rfl (own_outs (by repeat (first | exact hhere _ _ _ (by simp) | rw [hget_drew] | rw [hpeel _ _ _ (by simp; try omega)])) (by first | omega | (simp; omega)) rfl rfl (by simp)) (by repeat (first | exact hB | refine Below.drew ?_ | refine Below.alloc ?_ (by simp; try omega) _ | refine Below.setCell ?_ (by simp; try omega) _))

set_option maxHeartbeats 2000000 in
theorem rst_4t (x c n t : Int) (w : World) (hm : may ⟨4, x, c⟩ = true) (h : (t == 12) = false) :
    Calls Try.prog 65 #[.agg #[.int .u8 4, .int .i64 x, .int .i64 c], .agg #[.int .u8 5, .int .i64 n, .int .u8 t]] w (Outs ⟨4, x, c⟩ [] w.heap.size w) := by
  go_enter Try.func65, Try.ntmps65
  go_wp2_with (first | (go_at_call 72; refine (from_any _ _ _ _).mono ?_; rintro e w' ⟨rfl, rfl⟩) | (go_at_call 66; refine (rmay_any _ _ _ _).mono ?_; rintro e w1 ⟨rfl, hb⟩; obtain ⟨hc, hf⟩ := bcell hb; have hz0 : w.heap.size < w1.heap.size := blt hb (by simp; try omega); have hz1 : w.heap.size + 1 < w1.heap.size := blt hb (by simp; try omega); have hz2 : w.heap.size + 2 < w1.heap.size := blt hb (by simp; try omega); have hz3 : w.heap.size + 3 < w1.heap.size := blt hb (by simp; try omega); have hB : Below w.heap.size w w1 := ((((((Below.refl _ _).alloc (Nat.le_refl _) _).alloc (by simp) _).alloc (by simp; try omega) _).alloc (by simp; try omega) _).trans (hb.mono (by simp; try omega)))))
  all_goals (refine bodyPost_ret (v := ?_) ?_ rfl ?_ <;> (first | (simp only [results, Try.results65]; go_simp; exact rfl) | skip))
  all_goals exact ⟨_, rfl, outs_nil _ _, (by repeat (first | exact hB | refine Below.drew ?_ | refine Below.alloc ?_ (by simp; try omega) _ | refine Below.setCell ?_ (by simp; try omega) _))⟩

set_option maxHeartbeats 2000000 in
theorem rst_4k (x c k n t : Int) (w : World) (hm : may ⟨4, x, c⟩ = true) (h4 : (k == 4) = false) (h5 : (k == 5) = false) (h6 : (k == 6) = false) :
    Calls Try.prog 65 #[.agg #[.int .u8 4, .int .i64 x, .int .i64 c], .agg #[.int .u8 k, .int .i64 n, .int .u8 t]] w (Outs ⟨4, x, c⟩ [] w.heap.size w) := by
  go_enter Try.func65, Try.ntmps65
  go_wp2_with (first | (go_at_call 72; refine (from_any _ _ _ _).mono ?_; rintro e w' ⟨rfl, rfl⟩) | (go_at_call 66; refine (rmay_any _ _ _ _).mono ?_; rintro e w1 ⟨rfl, hb⟩; obtain ⟨hc, hf⟩ := bcell hb; have hz0 : w.heap.size < w1.heap.size := blt hb (by simp; try omega); have hz1 : w.heap.size + 1 < w1.heap.size := blt hb (by simp; try omega); have hz2 : w.heap.size + 2 < w1.heap.size := blt hb (by simp; try omega); have hz3 : w.heap.size + 3 < w1.heap.size := blt hb (by simp; try omega); have hB : Below w.heap.size w w1 := ((((((Below.refl _ _).alloc (Nat.le_refl _) _).alloc (by simp) _).alloc (by simp; try omega) _).alloc (by simp; try omega) _).trans (hb.mono (by simp; try omega)))))
  all_goals (refine bodyPost_ret (v := ?_) ?_ rfl ?_ <;> (first | (simp only [results, Try.results65]; go_simp; exact rfl) | skip))
  all_goals exact ⟨_, rfl, outs_nil _ _, (by repeat (first | exact hB | refine Below.drew ?_ | refine Below.alloc ?_ (by simp; try omega) _ | refine Below.setCell ?_ (by simp; try omega) _))⟩

set_option maxHeartbeats 2000000 in
theorem rst_46 (x c n t : Int) (w : World) (hm : may ⟨4, x, c⟩ = true) :
    Calls Try.prog 65 #[.agg #[.int .u8 4, .int .i64 x, .int .i64 c], .agg #[.int .u8 6, .int .i64 n, .int .u8 t]] w (Outs ⟨4, x, c⟩ [] w.heap.size w) := by
  go_enter Try.func65, Try.ntmps65
  go_wp2_with (first | (go_at_call 72; refine (from_any _ _ _ _).mono ?_; rintro e w' ⟨rfl, rfl⟩) | (go_at_call 66; refine (rmay_any _ _ _ _).mono ?_; rintro e w1 ⟨rfl, hb⟩; obtain ⟨hc, hf⟩ := bcell hb; have hz0 : w.heap.size < w1.heap.size := blt hb (by simp; try omega); have hz1 : w.heap.size + 1 < w1.heap.size := blt hb (by simp; try omega); have hz2 : w.heap.size + 2 < w1.heap.size := blt hb (by simp; try omega); have hz3 : w.heap.size + 3 < w1.heap.size := blt hb (by simp; try omega); have hB : Below w.heap.size w w1 := ((((((Below.refl _ _).alloc (Nat.le_refl _) _).alloc (by simp) _).alloc (by simp; try omega) _).alloc (by simp; try omega) _).trans (hb.mono (by simp; try omega)))))
  all_goals (refine bodyPost_ret (v := ?_) ?_ rfl ?_ <;> (first | (simp only [results, Try.results65]; go_simp; exact rfl) | skip))
  all_goals exact ⟨_, rfl, outs_nil _ _, (by repeat (first | exact hB | refine Below.drew ?_ | refine Below.alloc ?_ (by simp; try omega) _ | refine Below.setCell ?_ (by simp; try omega) _))⟩

set_option maxHeartbeats 2000000 in
theorem rst_6l (x c n : Int) (w : World) (hm : may ⟨6, x, c⟩ = true) :
    Calls Try.prog 65 #[.agg #[.int .u8 6, .int .i64 x, .int .i64 c], .agg #[.int .u8 5, .int .i64 n, .int .u8 9]] w (Outs ⟨7, 0, c⟩ [endO] w.heap.size w) := by
  go_enter Try.func65, Try.ntmps65
  go_wp2_with (first | (go_at_call 72; refine (from_any _ _ _ _).mono ?_; rintro e w' ⟨rfl, rfl⟩) | (go_at_call 66; refine (rmay_any _ _ _ _).mono ?_; rintro e w1 ⟨rfl, hb⟩; obtain ⟨hc, hf⟩ := bcell hb; have hz0 : w.heap.size < w1.heap.size := blt hb (by simp; try omega); have hz1 : w.heap.size + 1 < w1.heap.size := blt hb (by simp; try omega); have hz2 : w.heap.size + 2 < w1.heap.size := blt hb (by simp; try omega); have hz3 : w.heap.size + 3 < w1.heap.size := blt hb (by simp; try omega); have hB : Below w.heap.size w w1 := ((((((Below.refl _ _).alloc (Nat.le_refl _) _).alloc (by simp) _).alloc (by simp; try omega) _).alloc (by simp; try omega) _).trans (hb.mono (by simp; try omega)))))
  all_goals (refine bodyPost_ret (v := ?_) ?_ rfl ?_ <;> (first | (simp only [results, Try.results65]; go_simp; exact rfl) | skip))
  all_goals exact outs_mk (m := ⟨7, 0, c⟩) (l := [endO]) rfl rfl (own_outs (by repeat (first | exact hhere _ _ _ (by simp) | rw [hget_drew] | rw [hpeel _ _ _ (by simp; try omega)])) (by first | omega | (simp; omega)) rfl rfl (by simp)) (by repeat (first | exact hB | refine Below.drew ?_ | refine Below.alloc ?_ (by simp; try omega) _ | refine Below.setCell ?_ (by simp; try omega) _))

set_option maxHeartbeats 2000000 in
theorem rst_6t (x c n t : Int) (w : World) (hm : may ⟨6, x, c⟩ = true) (h : (t == 9) = false) :
    Calls Try.prog 65 #[.agg #[.int .u8 6, .int .i64 x, .int .i64 c], .agg #[.int .u8 5, .int .i64 n, .int .u8 t]] w (Outs ⟨6, x, c⟩ [] w.heap.size w) := by
  go_enter Try.func65, Try.ntmps65
  go_wp2_with (first | (go_at_call 72; refine (from_any _ _ _ _).mono ?_; rintro e w' ⟨rfl, rfl⟩) | (go_at_call 66; refine (rmay_any _ _ _ _).mono ?_; rintro e w1 ⟨rfl, hb⟩; obtain ⟨hc, hf⟩ := bcell hb; have hz0 : w.heap.size < w1.heap.size := blt hb (by simp; try omega); have hz1 : w.heap.size + 1 < w1.heap.size := blt hb (by simp; try omega); have hz2 : w.heap.size + 2 < w1.heap.size := blt hb (by simp; try omega); have hz3 : w.heap.size + 3 < w1.heap.size := blt hb (by simp; try omega); have hB : Below w.heap.size w w1 := ((((((Below.refl _ _).alloc (Nat.le_refl _) _).alloc (by simp) _).alloc (by simp; try omega) _).alloc (by simp; try omega) _).trans (hb.mono (by simp; try omega)))))
  all_goals (refine bodyPost_ret (v := ?_) ?_ rfl ?_ <;> (first | (simp only [results, Try.results65]; go_simp; exact rfl) | skip))
  all_goals exact ⟨_, rfl, outs_nil _ _, (by repeat (first | exact hB | refine Below.drew ?_ | refine Below.alloc ?_ (by simp; try omega) _ | refine Below.setCell ?_ (by simp; try omega) _))⟩

set_option maxHeartbeats 2000000 in
theorem rst_6k (x c k n t : Int) (w : World) (hm : may ⟨6, x, c⟩ = true) (h5 : (k == 5) = false) (h6 : (k == 6) = false) :
    Calls Try.prog 65 #[.agg #[.int .u8 6, .int .i64 x, .int .i64 c], .agg #[.int .u8 k, .int .i64 n, .int .u8 t]] w (Outs ⟨6, x, c⟩ [] w.heap.size w) := by
  go_enter Try.func65, Try.ntmps65
  go_wp2_with (first | (go_at_call 72; refine (from_any _ _ _ _).mono ?_; rintro e w' ⟨rfl, rfl⟩) | (go_at_call 66; refine (rmay_any _ _ _ _).mono ?_; rintro e w1 ⟨rfl, hb⟩; obtain ⟨hc, hf⟩ := bcell hb; have hz0 : w.heap.size < w1.heap.size := blt hb (by simp; try omega); have hz1 : w.heap.size + 1 < w1.heap.size := blt hb (by simp; try omega); have hz2 : w.heap.size + 2 < w1.heap.size := blt hb (by simp; try omega); have hz3 : w.heap.size + 3 < w1.heap.size := blt hb (by simp; try omega); have hB : Below w.heap.size w w1 := ((((((Below.refl _ _).alloc (Nat.le_refl _) _).alloc (by simp) _).alloc (by simp; try omega) _).alloc (by simp; try omega) _).trans (hb.mono (by simp; try omega)))))
  all_goals (refine bodyPost_ret (v := ?_) ?_ rfl ?_ <;> (first | (simp only [results, Try.results65]; go_simp; exact rfl) | skip))
  all_goals exact ⟨_, rfl, outs_nil _ _, (by repeat (first | exact hB | refine Below.drew ?_ | refine Below.alloc ?_ (by simp; try omega) _ | refine Below.setCell ?_ (by simp; try omega) _))⟩

set_option maxHeartbeats 2000000 in
theorem rst_66 (x c n t : Int) (w : World) (hm : may ⟨6, x, c⟩ = true) :
    Calls Try.prog 65 #[.agg #[.int .u8 6, .int .i64 x, .int .i64 c], .agg #[.int .u8 6, .int .i64 n, .int .u8 t]] w (Outs ⟨6, x, c⟩ [] w.heap.size w) := by
  go_enter Try.func65, Try.ntmps65
  go_wp2_with (first | (go_at_call 72; refine (from_any _ _ _ _).mono ?_; rintro e w' ⟨rfl, rfl⟩) | (go_at_call 66; refine (rmay_any _ _ _ _).mono ?_; rintro e w1 ⟨rfl, hb⟩; obtain ⟨hc, hf⟩ := bcell hb; have hz0 : w.heap.size < w1.heap.size := blt hb (by simp; try omega); have hz1 : w.heap.size + 1 < w1.heap.size := blt hb (by simp; try omega); have hz2 : w.heap.size + 2 < w1.heap.size := blt hb (by simp; try omega); have hz3 : w.heap.size + 3 < w1.heap.size := blt hb (by simp; try omega); have hB : Below w.heap.size w w1 := ((((((Below.refl _ _).alloc (Nat.le_refl _) _).alloc (by simp) _).alloc (by simp; try omega) _).alloc (by simp; try omega) _).trans (hb.mono (by simp; try omega)))))
  all_goals (refine bodyPost_ret (v := ?_) ?_ rfl ?_ <;> (first | (simp only [results, Try.results65]; go_simp; exact rfl) | skip))
  all_goals exact ⟨_, rfl, outs_nil _ _, (by repeat (first | exact hB | refine Below.drew ?_ | refine Below.alloc ?_ (by simp; try omega) _ | refine Below.setCell ?_ (by simp; try omega) _))⟩

set_option maxHeartbeats 2000000 in
theorem rst_s6 (s x c n t : Int) (w : World) (hm : may ⟨s, x, c⟩ = true) (s3 : (s == 3) = false) (s4 : (s == 4) = false) (s5 : (s == 5) = false) (s6 : (s == 6) = false) :
    Calls Try.prog 65 #[.agg #[.int .u8 s, .int .i64 x, .int .i64 c], .agg #[.int .u8 6, .int .i64 n, .int .u8 t]] w (Outs ⟨s, x, c⟩ [] w.heap.size w) := by
  go_enter Try.func65, Try.ntmps65
  go_wp2_with (first | (go_at_call 72; refine (from_any _ _ _ _).mono ?_; rintro e w' ⟨rfl, rfl⟩) | (go_at_call 66; refine (rmay_any _ _ _ _).mono ?_; rintro e w1 ⟨rfl, hb⟩; obtain ⟨hc, hf⟩ := bcell hb; have hz0 : w.heap.size < w1.heap.size := blt hb (by simp; try omega); have hz1 : w.heap.size + 1 < w1.heap.size := blt hb (by simp; try omega); have hz2 : w.heap.size + 2 < w1.heap.size := blt hb (by simp; try omega); have hz3 : w.heap.size + 3 < w1.heap.size := blt hb (by simp; try omega); have hB : Below w.heap.size w w1 := ((((((Below.refl _ _).alloc (Nat.le_refl _) _).alloc (by simp) _).alloc (by simp; try omega) _).alloc (by simp; try omega) _).trans (hb.mono (by simp; try omega)))))
  all_goals (refine bodyPost_ret (v := ?_) ?_ rfl ?_ <;> (first | (simp only [results, Try.results65]; go_simp; exact rfl) | skip))
  all_goals exact ⟨_, rfl, outs_nil _ _, (by repeat (first | exact hB | refine Below.drew ?_ | refine Below.alloc ?_ (by simp; try omega) _ | refine Below.setCell ?_ (by simp; try omega) _))⟩

set_option maxHeartbeats 2000000 in
theorem rst_sk (s x c k n t : Int) (w : World) (hm : may ⟨s, x, c⟩ = true) (s3 : (s == 3) = false) (s4 : (s == 4) = false) (s5 : (s == 5) = false) (s6 : (s == 6) = false) (h6 : (k == 6) = false) :
    Calls Try.prog 65 #[.agg #[.int .u8 s, .int .i64 x, .int .i64 c], .agg #[.int .u8 k, .int .i64 n, .int .u8 t]] w (Outs ⟨s, x, c⟩ [] w.heap.size w) := by
  go_enter Try.func65, Try.ntmps65
  go_wp2_with (first | (go_at_call 72; refine (from_any _ _ _ _).mono ?_; rintro e w' ⟨rfl, rfl⟩) | (go_at_call 66; refine (rmay_any _ _ _ _).mono ?_; rintro e w1 ⟨rfl, hb⟩; obtain ⟨hc, hf⟩ := bcell hb; have hz0 : w.heap.size < w1.heap.size := blt hb (by simp; try omega); have hz1 : w.heap.size + 1 < w1.heap.size := blt hb (by simp; try omega); have hz2 : w.heap.size + 2 < w1.heap.size := blt hb (by simp; try omega); have hz3 : w.heap.size + 3 < w1.heap.size := blt hb (by simp; try omega); have hB : Below w.heap.size w w1 := ((((((Below.refl _ _).alloc (Nat.le_refl _) _).alloc (by simp) _).alloc (by simp; try omega) _).alloc (by simp; try omega) _).trans (hb.mono (by simp; try omega)))))
  all_goals (refine bodyPost_ret (v := ?_) ?_ rfl ?_ <;> (first | (simp only [results, Try.results65]; go_simp; exact rfl) | skip))
  all_goals exact ⟨_, rfl, outs_nil _ _, (by repeat (first | exact hB | refine Below.drew ?_ | refine Below.alloc ?_ (by simp; try omega) _ | refine Below.setCell ?_ (by simp; try omega) _))⟩

set_option maxHeartbeats 2000000 in
theorem rst_3 (x c k n t : Int) (w : World) (hm : may ⟨3, x, c⟩ = true) (k6 : (k == 6) = false) :
    Calls Try.prog 65 #[.agg #[.int .u8 3, .int .i64 x, .int .i64 c], .agg #[.int .u8 k, .int .i64 n, .int .u8 t]] w (Outs (step ⟨3, x, c⟩ k n t).1 (step ⟨3, x, c⟩ k n t).2 w.heap.size w) := by
  have H := hide hm
  have H6 := hide (beq_eq_false_iff_ne.1 k6)
  go_enter Try.func65, Try.ntmps65
  go_wp2_with (first | (go_at_call 66; refine (rmay_any _ _ _ _).mono ?_; rintro e w1 ⟨rfl, hb⟩; obtain ⟨hc, hf⟩ := bcell hb; have hz0 : w.heap.size < w1.heap.size := blt hb (by simp; try omega); have hz1 : w.heap.size + 1 < w1.heap.size := blt hb (by simp; try omega); have hz2 : w.heap.size + 2 < w1.heap.size := blt hb (by simp; try omega); have hz3 : w.heap.size + 3 < w1.heap.size := blt hb (by simp; try omega); have hB : Below w.heap.size w w1 := ((((((Below.refl _ _).alloc (Nat.le_refl _) _).alloc (by simp) _).alloc (by simp; try omega) _).alloc (by simp; try omega) _).trans (hb.mono (by simp; try omega)))) | (go_at_call 78; refine (pro_any _ _ _ _ _ _ H.out H6.out).mono ?_; rintro e w2 ⟨v, rfl, hown, hb2⟩; obtain ⟨hc2, hf2⟩ := bcellB hb2; have hy2 : w.heap.size + 2 < w2.heap.size := blt hb2 hz2))
  all_goals (refine bodyPost_ret (v := ?_) ?_ rfl ?_ <;> (first | (simp only [results, Try.results65]; go_simp; exact rfl) | skip))
  all_goals refine outs_stored rfl hown hb2 ?_ ?_ ?_ _ _ _
  all_goals first | omega | (simp; done) | exact hB

set_option maxHeartbeats 2000000 in
theorem rst_5 (x c k n t : Int) (w : World) (hm : may ⟨5, x, c⟩ = true) (k6 : (k == 6) = false) :
    Calls Try.prog 65 #[.agg #[.int .u8 5, .int .i64 x, .int .i64 c], .agg #[.int .u8 k, .int .i64 n, .int .u8 t]] w (Outs (step ⟨5, x, c⟩ k n t).1 (step ⟨5, x, c⟩ k n t).2 w.heap.size w) := by
  have H := hide hm
  have H6 := hide (beq_eq_false_iff_ne.1 k6)
  go_enter Try.func65, Try.ntmps65
  go_wp2_with (first | (go_at_call 66; refine (rmay_any _ _ _ _).mono ?_; rintro e w1 ⟨rfl, hb⟩; obtain ⟨hc, hf⟩ := bcell hb; have hz0 : w.heap.size < w1.heap.size := blt hb (by simp; try omega); have hz1 : w.heap.size + 1 < w1.heap.size := blt hb (by simp; try omega); have hz2 : w.heap.size + 2 < w1.heap.size := blt hb (by simp; try omega); have hz3 : w.heap.size + 3 < w1.heap.size := blt hb (by simp; try omega); have hB : Below w.heap.size w w1 := ((((((Below.refl _ _).alloc (Nat.le_refl _) _).alloc (by simp) _).alloc (by simp; try omega) _).alloc (by simp; try omega) _).trans (hb.mono (by simp; try omega)))) | (go_at_call 79; refine (com_any _ _ _ _ _ _ H.out H6.out).mono ?_; rintro e w2 ⟨v, rfl, hown, hb2⟩; obtain ⟨hc2, hf2⟩ := bcellB hb2; have hy2 : w.heap.size + 2 < w2.heap.size := blt hb2 hz2))
  all_goals (refine bodyPost_ret (v := ?_) ?_ rfl ?_ <;> (first | (simp only [results, Try.results65]; go_simp; exact rfl) | skip))
  all_goals refine outs_stored rfl hown hb2 ?_ ?_ ?_ _ _ _
  all_goals first | omega | (simp; done) | exact hB


theorem rstep_any (s x c k n t : Int) (w : World) :
    Calls Try.prog 65 #[.agg #[.int .u8 s, .int .i64 x, .int .i64 c], .agg #[.int .u8 k, .int .i64 n, .int .u8 t]] w (Outs (step ⟨s, x, c⟩ k n t).1 (step ⟨s, x, c⟩ k n t).2 w.heap.size w) := by
  cases hm : may ⟨s, x, c⟩
  · rw [show step ⟨s, x, c⟩ k n t = (⟨0, 0, 0⟩, []) by simp [step, hm]]; exact rst_not s x c k n t w hm
  by_cases s3 : s = 3
  · subst s3
    by_cases k6 : k = 6
    · subst k6; rw [show step ⟨3, x, c⟩ 6 n t = (⟨7, 0, c⟩, [⟨6, 0, 0, 0⟩, endO]) by simp [step, hm, over]]; exact rst_f3 x c n t w hm
    · exact rst_3 x c k n t w hm (by simpa using k6)
  by_cases s5 : s = 5
  · subst s5
    by_cases k6 : k = 6
    · subst k6; rw [show step ⟨5, x, c⟩ 6 n t = (⟨7, 0, c⟩, [⟨6, 0, 0, 0⟩, endO]) by simp [step, hm, over]]; exact rst_f5 x c n t w hm
    · exact rst_5 x c k n t w hm (by simpa using k6)
  by_cases s4 : s = 4
  · subst s4
    by_cases k4 : k = 4
    · subst k4
      obtain ⟨c0, c1, c2, c3, cc⟩ := cls1 n
      rcases cc with h | h | h | h
      · rw [show step ⟨4, x, c⟩ 4 n t = (⟨4, x, c⟩, []) by simp [step, hm, answer, h]]; exact rst_4n x c n t w hm (c0 h).2.2.1
      · rw [show step ⟨4, x, c⟩ 4 n t = (⟨4, x, c⟩, []) by simp [step, hm, answer, h]]; exact rst_4n x c n t w hm (c1 h).2.1
      · rw [show step ⟨4, x, c⟩ 4 n t = (⟨4, 0, n⟩, [sendO n]) by simp [step, hm, answer, h]]; exact rst_4a x c n t w hm (c2 h).2.2.1
      · rw [show step ⟨4, x, c⟩ 4 n t = (⟨4, x, c⟩, []) by simp [step, hm, answer, h]]; exact rst_4n x c n t w hm (c3 h).2.2.1
    by_cases k5 : k = 5
    · subst k5
      by_cases t1 : t = 12
      · subst t1; rw [show step ⟨4, x, c⟩ 5 n 12 = (⟨7, 0, c⟩, [endO]) by simp [step, hm, fired, over]]; exact rst_4l x c n w hm
      · rw [show step ⟨4, x, c⟩ 5 n t = (⟨4, x, c⟩, []) by simp [step, hm, fired, t1]]; exact rst_4t x c n t w hm (by simpa using t1)
    rw [show step ⟨4, x, c⟩ k n t = (⟨4, x, c⟩, []) by simp [step, hm, k4, k5]]
    by_cases k6 : k = 6
    · subst k6; exact rst_46 x c n t w hm
    · exact rst_4k x c k n t w hm (by simpa using k4) (by simpa using k5) (by simpa using k6)
  by_cases s6 : s = 6
  · subst s6
    by_cases k5 : k = 5
    · subst k5
      by_cases t1 : t = 9
      · subst t1; rw [show step ⟨6, x, c⟩ 5 n 9 = (⟨7, 0, c⟩, [endO]) by simp [step, hm, fired, over]]; exact rst_6l x c n w hm
      · rw [show step ⟨6, x, c⟩ 5 n t = (⟨6, x, c⟩, []) by simp [step, hm, fired, t1]]; exact rst_6t x c n t w hm (by simpa using t1)
    have e : step ⟨6, x, c⟩ k n t = (⟨6, x, c⟩, []) := by
      by_cases k4 : k = 4
      · simp [step, hm, k4, answer]
      · simp [step, hm, k4, k5]
    rw [e]
    by_cases k6 : k = 6
    · subst k6; exact rst_66 x c n t w hm
    · exact rst_6k x c k n t w hm (by simpa using k5) (by simpa using k6)
  have e : step ⟨s, x, c⟩ k n t = (⟨s, x, c⟩, []) := by
    by_cases k4 : k = 4
    · simp [step, hm, k4, answer, s3, s4]
    by_cases k5 : k = 5
    · simp [step, hm, k5, fired, s4, s5, s6]
    · simp [step, hm, k4, k5, s3, s5]
  rw [e]
  by_cases k6 : k = 6
  · subst k6; exact rst_s6 s x c n t w hm (by simpa using s3) (by simpa using s4) (by simpa using s5) (by simpa using s6)
  · exact rst_sk s x c k n t w hm (by simpa using s3) (by simpa using s4) (by simpa using s5) (by simpa using s6) (by simpa using k6)

theorem rstart_any (w : World) : Calls Try.prog 34 #[] w (Outs start.1 start.2 w.heap.size w) := by
  go_enter Try.func34, Try.ntmps34
  go_wp2
  all_goals (refine bodyPost_ret (v := ?_) ?_ rfl ?_ <;> (first | (simp only [results, Try.results34]; go_simp; exact rfl) | skip))
  exact outs_mk (m := ⟨3, 0, 100⟩) (l := [⟨3, 0, 0, 0⟩, sendO 100]) rfl rfl (own_outs (by repeat (first | exact hhere _ _ _ (by simp) | rw [hget_drew] | rw [hpeel _ _ _ (by simp; try omega)])) (by omega) rfl rfl (by simp)) (by repeat (first | exact Below.refl _ _ | refine Below.drew ?_ | refine Below.alloc ?_ (by simp; try omega) _))
end Go.Proofs.Ytdllehgiambkcaa.Sv
