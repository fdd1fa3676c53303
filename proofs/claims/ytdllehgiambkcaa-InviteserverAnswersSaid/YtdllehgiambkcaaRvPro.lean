/- The walks of the reference of chapter 14: proceeding, completed, Step, Start. Printed by mk_ref14b.py. -/
import Derived.Test.YtdllehgiambkcaaRvMay
namespace Go.Proofs.Ytdllehgiambkcaa.Sv
open Go.RowKit

set_option maxHeartbeats 2000000 in
theorem pro_req (x c n t : Int) (w : World) :
    Calls Try.prog 78 #[.agg #[.int .u8 3, .int .i64 x, .int .i64 c], .agg #[.int .u8 1, .int .i64 n, .int .u8 t]] w (Outs ⟨3, x, c⟩ [sendO c] w.heap.size w) := by
  go_enter Try.func78, Try.ntmps78
  go_wp2_with (go_at_call 72; refine (from_any _ _ _ _).mono ?_; rintro e w' ⟨rfl, rfl⟩)
  go_region_held3 (fun w' => w'.cell? ⟨w.heap.size, 0, none⟩ = some (.int .u8 3) ∧ w'.cell? ⟨w.heap.size, 1, none⟩ = some (.int .i64 x) ∧ w'.cell? ⟨w.heap.size, 2, none⟩ = some (.int .i64 c)) (go_simp) (fail)
  all_goals go_wp2
  all_goals (refine bodyPost_ret (v := ?_) ?_ rfl ?_ <;> (first | (simp only [results, Try.results78]; go_simp; exact rfl) | skip))
  all_goals exact outs_mk (m := ⟨3, x, c⟩) (l := [sendO c]) rfl rfl (own_outs (by repeat (first | exact hhere _ _ _ (by simp) | rw [hget_drew] | rw [hpeel _ _ _ (by simp; try omega)])) (by omega) rfl rfl (by simp)) (by repeat (first | exact Below.refl _ _ | refine Below.drew ?_ | refine Below.alloc ?_ (by simp; try omega) _))

set_option maxHeartbeats 2000000 in
theorem pro_1 (x c n t : Int) (w : World) (f : frm n 101 199 = true) :
    Calls Try.prog 78 #[.agg #[.int .u8 3, .int .i64 x, .int .i64 c], .agg #[.int .u8 4, .int .i64 n, .int .u8 t]] w (Outs ⟨3, 0, n⟩ [sendO n] w.heap.size w) := by
  go_enter Try.func78, Try.ntmps78
  go_wp2_with (go_at_call 72; refine (from_any _ _ _ _).mono ?_; rintro e w' ⟨rfl, rfl⟩)
  go_region_held3 (fun w' => w'.cell? ⟨w.heap.size + 1, 1, none⟩ = some (.int .i64 n) ∧ w'.cell? ⟨w.heap.size + 3, 0, none⟩ = some (.int .u8 1) ∧ w'.cell? ⟨w.heap.size + 3, 1, none⟩ = some (.int .i64 n) ∧ w'.cell? ⟨w.heap.size + 3, 2, none⟩ = some (.int .u8 0) ∧ w'.cell? ⟨w.heap.size + 3, 3, none⟩ = some (.int .i64 0)) (go_simp) (fail)
  all_goals go_wp2
  all_goals (refine bodyPost_ret (v := ?_) ?_ rfl ?_ <;> (first | (simp only [results, Try.results78]; go_simp; exact rfl) | skip))
  all_goals exact outs_mk (m := ⟨3, 0, n⟩) (l := [sendO n]) rfl rfl (own_outs (by repeat (first | exact hhere _ _ _ (by simp) | rw [hget_drew] | rw [hpeel _ _ _ (by simp; try omega)])) (by omega) rfl rfl (by simp)) (by repeat (first | exact Below.refl _ _ | refine Below.drew ?_ | refine Below.alloc ?_ (by simp; try omega) _))

set_option maxHeartbeats 2000000 in
theorem pro_2 (x c n t : Int) (w : World) (f : frm n 101 199 = false) (g : frm n 200 299 = true) :
    Calls Try.prog 78 #[.agg #[.int .u8 3, .int .i64 x, .int .i64 c], .agg #[.int .u8 4, .int .i64 n, .int .u8 t]] w (Outs ⟨4, 0, n⟩ [sendO n, timerO 12 32000] w.heap.size w) := by
  go_enter Try.func78, Try.ntmps78
  go_wp2_with (go_at_call 72; refine (from_any _ _ _ _).mono ?_; rintro e w' ⟨rfl, rfl⟩)
  go_region_held3 (fun w' => w'.cell? ⟨w.heap.size + 1, 1, none⟩ = some (.int .i64 n) ∧ w'.cell? ⟨w.heap.size + 3, 0, none⟩ = some (.int .u8 1) ∧ w'.cell? ⟨w.heap.size + 3, 1, none⟩ = some (.int .i64 n) ∧ w'.cell? ⟨w.heap.size + 3, 2, none⟩ = some (.int .u8 0) ∧ w'.cell? ⟨w.heap.size + 3, 3, none⟩ = some (.int .i64 0)) (go_simp) (fail)
  all_goals go_wp2
  all_goals (refine bodyPost_ret (v := ?_) ?_ rfl ?_ <;> (first | (simp only [results, Try.results78]; go_simp; exact rfl) | skip))
  all_goals exact outs_mk (m := ⟨4, 0, n⟩) (l := [sendO n, timerO 12 32000]) rfl rfl (own_outs (by repeat (first | exact hhere _ _ _ (by simp) | rw [hget_drew] | rw [hpeel _ _ _ (by simp; try omega)])) (by omega) rfl rfl (by simp)) (by repeat (first | exact Below.refl _ _ | refine Below.drew ?_ | refine Below.alloc ?_ (by simp; try omega) _))

set_option maxHeartbeats 2000000 in
theorem pro_3 (x c n t : Int) (w : World) (f : frm n 101 199 = false) (g : frm n 200 299 = false) (h : frm n 300 699 = true) :
    Calls Try.prog 78 #[.agg #[.int .u8 3, .int .i64 x, .int .i64 c], .agg #[.int .u8 4, .int .i64 n, .int .u8 t]] w (Outs ⟨5, 500, n⟩ [sendO n, timerO 7 500, timerO 8 32000] w.heap.size w) := by
  go_enter Try.func78, Try.ntmps78
  go_wp2_with (go_at_call 72; refine (from_any _ _ _ _).mono ?_; rintro e w' ⟨rfl, rfl⟩)
  go_region_held3 (fun w' => w'.cell? ⟨w.heap.size + 1, 1, none⟩ = some (.int .i64 n) ∧ w'.cell? ⟨w.heap.size + 3, 0, none⟩ = some (.int .u8 1) ∧ w'.cell? ⟨w.heap.size + 3, 1, none⟩ = some (.int .i64 n) ∧ w'.cell? ⟨w.heap.size + 3, 2, none⟩ = some (.int .u8 0) ∧ w'.cell? ⟨w.heap.size + 3, 3, none⟩ = some (.int .i64 0)) (go_simp) (fail)
  all_goals go_wp2
  all_goals (refine bodyPost_ret (v := ?_) ?_ rfl ?_ <;> (first | (simp only [results, Try.results78]; go_simp; exact rfl) | skip))
  all_goals exact outs_mk (m := ⟨5, 500, n⟩) (l := [sendO n, timerO 7 500, timerO 8 32000]) rfl rfl (own_outs (by repeat (first | exact hhere _ _ _ (by simp) | rw [hget_drew] | rw [hpeel _ _ _ (by simp; try omega)])) (by omega) rfl rfl (by simp)) (by repeat (first | exact Below.refl _ _ | refine Below.drew ?_ | refine Below.alloc ?_ (by simp; try omega) _))

set_option maxHeartbeats 2000000 in
theorem pro_4 (x c n t : Int) (w : World) (f : frm n 101 199 = false) (g : frm n 200 299 = false) (h : frm n 300 699 = false) :
    Calls Try.prog 78 #[.agg #[.int .u8 3, .int .i64 x, .int .i64 c], .agg #[.int .u8 4, .int .i64 n, .int .u8 t]] w (Outs ⟨3, x, c⟩ [] w.heap.size w) := by
  go_enter Try.func78, Try.ntmps78
  go_wp2_with (go_at_call 72; refine (from_any _ _ _ _).mono ?_; rintro e w' ⟨rfl, rfl⟩)
  all_goals (refine bodyPost_ret (v := ?_) ?_ rfl ?_ <;> (first | (simp only [results, Try.results78]; go_simp; exact rfl) | skip))
  all_goals exact ⟨_, rfl, outs_nil _ _, (by repeat (first | exact Below.refl _ _ | refine Below.drew ?_ | refine Below.alloc ?_ (by simp; try omega) _))⟩

set_option maxHeartbeats 2000000 in
theorem pro_5 (x c k n t : Int) (w : World) (k1 : (k == 1) = false) (k4 : (k == 4) = false) :
    Calls Try.prog 78 #[.agg #[.int .u8 3, .int .i64 x, .int .i64 c], .agg #[.int .u8 k, .int .i64 n, .int .u8 t]] w (Outs ⟨3, x, c⟩ [] w.heap.size w) := by
  go_enter Try.func78, Try.ntmps78
  go_wp2_with (go_at_call 72; refine (from_any _ _ _ _).mono ?_; rintro e w' ⟨rfl, rfl⟩)
  all_goals (refine bodyPost_ret (v := ?_) ?_ rfl ?_ <;> (first | (simp only [results, Try.results78]; go_simp; exact rfl) | skip))
  all_goals exact ⟨_, rfl, outs_nil _ _, (by repeat (first | exact Below.refl _ _ | refine Below.drew ?_ | refine Below.alloc ?_ (by simp; try omega) _))⟩

set_option maxHeartbeats 2000000 in
theorem com_req (x c n t : Int) (w : World) :
    Calls Try.prog 79 #[.agg #[.int .u8 5, .int .i64 x, .int .i64 c], .agg #[.int .u8 1, .int .i64 n, .int .u8 t]] w (Outs ⟨5, x, c⟩ [sendO c] w.heap.size w) := by
  go_enter Try.func79, Try.ntmps79
  go_wp2_with (go_at_call 72; refine (from_any _ _ _ _).mono ?_; rintro e w' ⟨rfl, rfl⟩)
  go_region_held3 (fun w' => w'.cell? ⟨w.heap.size, 0, none⟩ = some (.int .u8 5) ∧ w'.cell? ⟨w.heap.size, 1, none⟩ = some (.int .i64 x) ∧ w'.cell? ⟨w.heap.size, 2, none⟩ = some (.int .i64 c) ∧ w'.cell? ⟨w.heap.size + 3, 0, none⟩ = some (.int .u8 1) ∧ w'.cell? ⟨w.heap.size + 3, 1, none⟩ = some (.int .i64 c) ∧ w'.cell? ⟨w.heap.size + 3, 2, none⟩ = some (.int .u8 0) ∧ w'.cell? ⟨w.heap.size + 3, 3, none⟩ = some (.int .i64 0)) (go_simp) (fail)
  all_goals go_wp2
  all_goals (refine bodyPost_ret (v := ?_) ?_ rfl ?_ <;> (first | (simp only [results, Try.results79]; go_simp; exact rfl) | skip))
  all_goals exact outs_mk (m := ⟨5, x, c⟩) (l := [sendO c]) rfl rfl (own_outs (by repeat (first | exact hhere _ _ _ (by simp) | rw [hget_drew] | rw [hpeel _ _ _ (by simp; try omega)])) (by omega) rfl rfl (by simp)) (by repeat (first | exact Below.refl _ _ | refine Below.drew ?_ | refine Below.alloc ?_ (by simp; try omega) _))

set_option maxHeartbeats 2000000 in
theorem com_ack (x c n t : Int) (w : World) :
    Calls Try.prog 79 #[.agg #[.int .u8 5, .int .i64 x, .int .i64 c], .agg #[.int .u8 3, .int .i64 n, .int .u8 t]] w (Outs ⟨6, 0, c⟩ [timerO 9 5000] w.heap.size w) := by
  go_enter Try.func79, Try.ntmps79
  go_wp2_with (go_at_call 72; refine (from_any _ _ _ _).mono ?_; rintro e w' ⟨rfl, rfl⟩)
  all_goals (refine bodyPost_ret (v := ?_) ?_ rfl ?_ <;> (first | (simp only [results, Try.results79]; go_simp; exact rfl) | skip))
  all_goals exact outs_mk (m := ⟨6, 0, c⟩) (l := [timerO 9 5000]) rfl rfl (own_outs (by repeat (first | exact hhere _ _ _ (by simp) | rw [hget_drew] | rw [hpeel _ _ _ (by simp; try omega)])) (by omega) rfl rfl (by simp)) (by repeat (first | exact Below.refl _ _ | refine Below.drew ?_ | refine Below.alloc ?_ (by simp; try omega) _))

set_option maxHeartbeats 2000000 in
theorem com_g1 (x c n : Int) (w : World) (h0 : 0 ≤ x) (h1 : x ≤ 4000) (h : 4000 < 2 * x) :
    Calls Try.prog 79 #[.agg #[.int .u8 5, .int .i64 x, .int .i64 c], .agg #[.int .u8 5, .int .i64 n, .int .u8 7]] w (Outs ⟨5, 4000, c⟩ [sendO c, timerO 7 4000] w.heap.size w) := by
  go_enter Try.func79, Try.ntmps79
  go_wp2_with (go_at_call 72; refine (from_any _ _ _ _).mono ?_; rintro e w' ⟨rfl, rfl⟩)
  go_region_held3 (fun w' => w'.cell? ⟨w.heap.size, 0, none⟩ = some (.int .u8 5) ∧ w'.cell? ⟨w.heap.size, 1, none⟩ = some (.int .i64 4000) ∧ w'.cell? ⟨w.heap.size, 2, none⟩ = some (.int .i64 c) ∧ w'.cell? ⟨w.heap.size + 3, 0, none⟩ = some (.int .u8 1) ∧ w'.cell? ⟨w.heap.size + 3, 1, none⟩ = some (.int .i64 c) ∧ w'.cell? ⟨w.heap.size + 3, 2, none⟩ = some (.int .u8 0) ∧ w'.cell? ⟨w.heap.size + 3, 3, none⟩ = some (.int .i64 0)) (go_simp) (fail)
  all_goals go_wp2
  all_goals (refine bodyPost_ret (v := ?_) ?_ rfl ?_ <;> (first | (simp only [results, Try.results79]; go_simp; exact rfl) | skip))
  all_goals exact outs_mk (m := ⟨5, 4000, c⟩) (l := [sendO c, timerO 7 4000]) rfl rfl (own_outs (by repeat (first | exact hhere _ _ _ (by simp) | rw [hget_drew] | rw [hpeel _ _ _ (by simp; try omega)])) (by omega) rfl rfl (by simp)) (by repeat (first | exact Below.refl _ _ | refine Below.drew ?_ | refine Below.alloc ?_ (by simp; try omega) _))

set_option maxHeartbeats 2000000 in
theorem com_g2 (x c n : Int) (w : World) (h0 : 0 ≤ x) (h1 : x ≤ 4000) (h : 2 * x ≤ 4000) :
    Calls Try.prog 79 #[.agg #[.int .u8 5, .int .i64 x, .int .i64 c], .agg #[.int .u8 5, .int .i64 n, .int .u8 7]] w (Outs ⟨5, 2 * x, c⟩ [sendO c, timerO 7 (2 * x)] w.heap.size w) := by
  go_enter Try.func79, Try.ntmps79
  go_wp2_with (go_at_call 72; refine (from_any _ _ _ _).mono ?_; rintro e w' ⟨rfl, rfl⟩)
  go_region_held3 (fun w' => w'.cell? ⟨w.heap.size, 0, none⟩ = some (.int .u8 5) ∧ w'.cell? ⟨w.heap.size, 1, none⟩ = some (.int .i64 (2 * x)) ∧ w'.cell? ⟨w.heap.size, 2, none⟩ = some (.int .i64 c) ∧ w'.cell? ⟨w.heap.size + 3, 0, none⟩ = some (.int .u8 1) ∧ w'.cell? ⟨w.heap.size + 3, 1, none⟩ = some (.int .i64 c) ∧ w'.cell? ⟨w.heap.size + 3, 2, none⟩ = some (.int .u8 0) ∧ w'.cell? ⟨w.heap.size + 3, 3, none⟩ = some (.int .i64 0)) (go_simp) (fail)
  all_goals go_wp2
  all_goals (refine bodyPost_ret (v := ?_) ?_ rfl ?_ <;> (first | (simp only [results, Try.results79]; go_simp; exact rfl) | skip))
  all_goals exact outs_mk (m := ⟨5, 2 * x, c⟩) (l := [sendO c, timerO 7 (2 * x)]) rfl rfl (own_outs (by repeat (first | exact hhere _ _ _ (by simp) | rw [hget_drew] | rw [hpeel _ _ _ (by simp; try omega)])) (by omega) rfl rfl (by simp)) (by repeat (first | exact Below.refl _ _ | refine Below.drew ?_ | refine Below.alloc ?_ (by simp; try omega) _))

set_option maxHeartbeats 2000000 in
theorem com_h (x c n : Int) (w : World) :
    Calls Try.prog 79 #[.agg #[.int .u8 5, .int .i64 x, .int .i64 c], .agg #[.int .u8 5, .int .i64 n, .int .u8 8]] w (Outs ⟨7, 0, c⟩ [⟨5, 0, 0, 0⟩, endO] w.heap.size w) := by
  go_enter Try.func79, Try.ntmps79
  go_wp2_with (go_at_call 72; refine (from_any _ _ _ _).mono ?_; rintro e w' ⟨rfl, rfl⟩)
  all_goals (refine bodyPost_ret (v := ?_) ?_ rfl ?_ <;> (first | (simp only [results, Try.results79]; go_simp; exact rfl) | skip))
  all_goals exact outs_mk (m := ⟨7, 0, c⟩) (l := [⟨5, 0, 0, 0⟩, endO]) rfl rfl (own_outs (by repeat (first | exact hhere _ _ _ (by simp) | rw [hget_drew] | rw [hpeel _ _ _ (by simp; try omega)])) (by omega) rfl rfl (by simp)) (by repeat (first | exact Below.refl _ _ | refine Below.drew ?_ | refine Below.alloc ?_ (by simp; try omega) _))

set_option maxHeartbeats 2000000 in
theorem com_5 (x c n t : Int) (w : World) (t7 : (t == 7) = false) (t8 : (t == 8) = false) :
    Calls Try.prog 79 #[.agg #[.int .u8 5, .int .i64 x, .int .i64 c], .agg #[.int .u8 5, .int .i64 n, .int .u8 t]] w (Outs ⟨5, x, c⟩ [] w.heap.size w) := by
  go_enter Try.func79, Try.ntmps79
  go_wp2_with (go_at_call 72; refine (from_any _ _ _ _).mono ?_; rintro e w' ⟨rfl, rfl⟩)
  all_goals (refine bodyPost_ret (v := ?_) ?_ rfl ?_ <;> (first | (simp only [results, Try.results79]; go_simp; exact rfl) | skip))
  all_goals exact ⟨_, rfl, outs_nil _ _, (by repeat (first | exact Below.refl _ _ | refine Below.drew ?_ | refine Below.alloc ?_ (by simp; try omega) _))⟩

set_option maxHeartbeats 2000000 in
theorem com_n (x c k n t : Int) (w : World) (k1 : (k == 1) = false) (k3 : (k == 3) = false) (k5 : (k == 5) = false) :
    Calls Try.prog 79 #[.agg #[.int .u8 5, .int .i64 x, .int .i64 c], .agg #[.int .u8 k, .int .i64 n, .int .u8 t]] w (Outs ⟨5, x, c⟩ [] w.heap.size w) := by
  go_enter Try.func79, Try.ntmps79
  go_wp2_with (go_at_call 72; refine (from_any _ _ _ _).mono ?_; rintro e w' ⟨rfl, rfl⟩)
  all_goals (refine bodyPost_ret (v := ?_) ?_ rfl ?_ <;> (first | (simp only [results, Try.results79]; go_simp; exact rfl) | skip))
  all_goals exact ⟨_, rfl, outs_nil _ _, (by repeat (first | exact Below.refl _ _ | refine Below.drew ?_ | refine Below.alloc ?_ (by simp; try omega) _))⟩

end Go.Proofs.Ytdllehgiambkcaa.Sv
