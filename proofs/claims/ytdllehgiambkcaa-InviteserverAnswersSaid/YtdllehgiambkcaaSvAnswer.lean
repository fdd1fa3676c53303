/- The walks of inviteserver.answer, fired and Step. -/
import Derived.Test.YtdllehgiambkcaaSvOver
namespace Go.Proofs.Ytdllehgiambkcaa.Sv
open Go.RowKit

theorem outs_nil (w : World) (base : Nat) : w.ownsRow base 52 4 (.slice none 0 0) ([] : List O).length (([] : List O).flatMap O.cs) := World.ownsRow_nil w base _ _

theorem outs_mk {m : M} {l : List O} {base : Nat} {w w' : World} {X v : Value} {r : M × List O} (hr : r = (m, l)) (h1 : X = m.v) (h2 : w'.ownsRow base 52 4 v l.length (l.flatMap O.cs)) (h3 : Below base w w') : Outs r.1 r.2 base w (.returned (.tuple #[X, v])) w' := by
  subst hr; subst h1; exact ⟨v, rfl, h2, h3⟩

theorem own_outs {w : World} {base k n : Nat} {cs : Array Value} {l : List O} (hk : w.heap[k]? = some (.cells cs 52 (0, 0))) (hb : base ≤ k) (hl : cs.toList = l.flatMap O.cs) (hn : n = l.length) (hm : n ≤ 1000) : w.ownsRow base 52 4 (.slice (some ⟨k, 0, none⟩) n n) l.length (l.flatMap O.cs) := by
  subst hn
  rw [← hl]
  exact own_lit hk hb (by rw [← Array.length_toList, hl, flat_len O.cs 4 O.cs_len]) (by unfold maxLen; omega)

set_option maxHeartbeats 1000000 in
theorem answer_any (s x c n : Int) (w : World) :
    Calls Try.prog 68 #[.agg #[.int .u8 s, .int .i64 x, .int .i64 c], .int .i64 n] w (Outs (answer ⟨s, x, c⟩ n).1 (answer ⟨s, x, c⟩ n).2 w.heap.size w) := by
  go_enter Try.func68, Try.ntmps68
  go_wp2_with (first
    | (go_at_call 53; refine (class_any _ _).mono ?_; rintro e w' ⟨rfl, rfl⟩)
    | (go_at_call 64; refine (send_any _ _).mono ?_; rintro e w' ⟨rfl, cs, rfl⟩)
    | (go_at_call 71; refine (timer_any _ _ _).mono ?_; rintro e w' ⟨rfl, ct, rfl⟩)
    | (go_at_call 63; refine (become_any _ _ _ _ _ _ _).mono ?_; rintro e w' ⟨rfl, cb, rfl⟩))
  all_goals (refine bodyPost_ret (v := ?_) ?_ rfl ?_; rotate_left; (simp only [results, Try.results68]; go_simp; exact rfl))
  · exact outs_mk (m := ⟨4, 0, n⟩) (l := [sendO n]) (by simp_all [answer]) rfl (own_outs (by repeat (first | exact hhere _ _ _ (by simp) | rw [hpeel _ _ _ (by simp; try omega)])) (by omega) rfl rfl (by omega)) (by repeat (first | exact Below.refl _ _ | refine Below.alloc ?_ (by simp; try omega) _))
  · exact outs_mk (m := ⟨4, x, c⟩) (l := []) (by simp_all [answer]) rfl (outs_nil _ _) (by repeat (first | exact Below.refl _ _ | refine Below.alloc ?_ (by simp; try omega) _))
  · exact outs_mk (m := ⟨3, x, c⟩) (l := []) (by simp_all [answer]) rfl (outs_nil _ _) (by repeat (first | exact Below.refl _ _ | refine Below.alloc ?_ (by simp; try omega) _))
  · exact outs_mk (m := ⟨3, 0, n⟩) (l := [sendO n]) (by simp_all [answer]) rfl (own_outs (by repeat (first | exact hhere _ _ _ (by simp) | rw [hpeel _ _ _ (by simp; try omega)])) (by omega) rfl rfl (by omega)) (by repeat (first | exact Below.refl _ _ | refine Below.alloc ?_ (by simp; try omega) _))
  · exact outs_mk (m := ⟨4, 0, n⟩) (l := [sendO n, timerO 12 32000]) (by simp_all [answer]) rfl (own_outs (by repeat (first | exact hhere _ _ _ (by simp) | rw [hpeel _ _ _ (by simp; try omega)])) (by omega) rfl rfl (by omega)) (by repeat (first | exact Below.refl _ _ | refine Below.alloc ?_ (by simp; try omega) _))
  · exact outs_mk (m := ⟨5, 500, n⟩) (l := [sendO n, timerO 7 500, timerO 8 32000]) (by simp_all [answer]) rfl (own_outs (by repeat (first | exact hhere _ _ _ (by simp) | rw [hpeel _ _ _ (by simp; try omega)])) (by omega) rfl rfl (by omega)) (by repeat (first | exact Below.refl _ _ | refine Below.alloc ?_ (by simp; try omega) _))
  · exact outs_mk (m := ⟨3, x, c⟩) (l := []) (by simp_all [answer]) rfl (outs_nil _ _) (by repeat (first | exact Below.refl _ _ | refine Below.alloc ?_ (by simp; try omega) _))
  · exact outs_mk (m := ⟨s, x, c⟩) (l := []) (by simp_all [answer]) rfl (outs_nil _ _) (by repeat (first | exact Below.refl _ _ | refine Below.alloc ?_ (by simp; try omega) _))
end Go.Proofs.Ytdllehgiambkcaa.Sv
