/- The walk of InviteserverKnown. -/
import Derived.Test.YtdllehgiambkcaaSvCount
namespace Go.Proofs.Ytdllehgiambkcaa.Sv
open Go.RowKit

def K1 := give simStart 4 100 0
def K2 := give K1 4 99 0
def K3 := give K2 4 200 0
def K4 := give K3 1 0 0
def K5 := give K4 4 202 0
def K6 := give K5 4 486 0
def K7 := give K6 6 0 0
def K8 := untilT K7 32000
def F1 := give simStart 4 404 0
def F2 := give F1 6 0 0
def okS (S : Sim) : Bool := decide (S.log.length ≤ 900000) && decide (0 ≤ S.now) && decide (S.now ≤ 1000000000)
theorem okS_out {S : Sim} (h : okS S = true) : S.log.length ≤ 900000 ∧ S.log.length ≤ 1000000 ∧ 0 ≤ S.now ∧ S.now ≤ 1000000000 := by
  simp [okS] at h; omega
theorem ok_K : okS simStart = true ∧ okS K1 = true ∧ okS K2 = true ∧ okS K3 = true ∧ okS K4 = true ∧ okS K5 = true ∧ okS K6 = true ∧ okS K7 = true ∧ okS K8 = true ∧ okS F1 = true ∧ okS F2 = true := by decide +kernel
theorem k_facts : K2.log.length = 2 ∧ (K7.m.st = 4 ∧ K7.m.wait = 0 ∧ K7.m.code = 202) ∧ cnt K7.log 1 K7.now 200 200 = 1 ∧ cnt K7.log 1 K7.now 202 202 = 1 ∧ cnt K7.log 1 K7.now 300 699 = 0
    ∧ (K8.m.st = 7 ∧ K8.m.wait = 0 ∧ K8.m.code = 202) ∧ closedS K8 = true ∧ cnt K8.log 5 K8.now 0 1000 = 0
    ∧ (F2.m.st = 7 ∧ F2.m.wait = 0 ∧ F2.m.code = 404) ∧ cnt F2.log 6 F2.now 0 1000 = 1 ∧ closedS F2 = true := by decide +kernel
/-! walk -/

set_option maxRecDepth 10000 in
set_option maxHeartbeats 4000000 in
theorem known_abs (K0 K1 K2 K3 K4 K5 K6 K7 K8 F1 F2 : Sim) (d0 : Hid (simStart = K0)) (d1 : Hid (give K0 4 100 0 = K1)) (d2 : Hid (give K1 4 99 0 = K2)) (d3 : Hid (give K2 4 200 0 = K3)) (d4 : Hid (give K3 1 0 0 = K4)) (d5 : Hid (give K4 4 202 0 = K5)) (d6 : Hid (give K5 4 486 0 = K6)) (d7 : Hid (give K6 6 0 0 = K7)) (d8 : Hid (untilT K7 32000 = K8)) (d11 : Hid (give K0 4 404 0 = F1)) (d12 : Hid (give F1 6 0 0 = F2))
    (OK : Hid (okS K0 = true ∧ okS K1 = true ∧ okS K2 = true ∧ okS K3 = true ∧ okS K4 = true ∧ okS K5 = true ∧ okS K6 = true ∧ okS K7 = true ∧ okS K8 = true ∧ okS F1 = true ∧ okS F2 = true))
    (q2 : K2.log.length = 2) (q7 : K7.m.st = 4 ∧ K7.m.wait = 0 ∧ K7.m.code = 202) (r1 : cnt K7.log 1 K7.now 200 200 = 1) (r2 : cnt K7.log 1 K7.now 202 202 = 1) (r3 : cnt K7.log 1 K7.now 300 699 = 0)
    (q8 : K8.m.st = 7 ∧ K8.m.wait = 0 ∧ K8.m.code = 202) (cl8 : closedS K8 = true) (r4 : cnt K8.log 5 K8.now 0 1000 = 0)
    (qf : F2.m.st = 7 ∧ F2.m.wait = 0 ∧ F2.m.code = 404) (r5 : cnt F2.log 6 F2.now 0 1000 = 1) (clf : closedS F2 = true)
    (w : World) : Calls Try.prog 12 #[] w fun e w' => e = .returned (.bool true) ∧ Below w.heap.size w w' := by
  obtain ⟨n0, n1, n2, n3, n4, n5, n6, n7, n8, m1, m2⟩ := OK.out
  obtain ⟨q7a, q7b, q7c⟩ := q7
  obtain ⟨q8a, q8b, q8c⟩ := q8
  obtain ⟨qfa, qfb, qfc⟩ := qf
  have hne := fun a b c W => neqM_same a b c W
  have heq := fun a b c W => eqM_same a b c W
  go_enter Try.func12, Try.ntmps12
  go_wp2_with fail
  refine (sstart_any _).mono ?_; rintro e w1 ⟨gk, v1, rfl, hb1, h1⟩
  rw [d0.out] at h1
  go_wp2_with fail
  refine (sanswer_any gk _ K0 _ _ h1 100 (okS_out n0).2.1 (okS_out n0).2.2).mono ?_; rintro e w2 ⟨rfl, hb2, v2, h2⟩
  rw [d1.out] at h2
  go_wp2_with fail
  refine (sanswer_any gk _ K1 _ _ h2 99 (okS_out n1).2.1 (okS_out n1).2.2).mono ?_; rintro e w3 ⟨rfl, hb3, v3, h3⟩
  rw [d2.out] at h3
  obtain ⟨y3, -, x3a, x3b, x3c, -, -, x3n, x3l, -, o3, -⟩ := id h3
  obtain ⟨A3, cp3, rfl, -, -⟩ := own_slice o3
  rw [q2] at x3l
  go_wp2_with fail
  refine (sanswer_any gk _ K2 _ _ h3 200 (okS_out n2).2.1 (okS_out n2).2.2).mono ?_; rintro e w4 ⟨rfl, hb4, v4, h4⟩
  rw [d3.out] at h4
  go_wp2_with fail
  refine (give_any gk _ K3 _ _ h4 1 0 0 (okS_out n3).2.1 (okS_out n3).2.2).mono ?_; rintro e w5 ⟨rfl, hb5, v5, h5⟩
  rw [d4.out] at h5
  go_wp2_with fail
  refine (sanswer_any gk _ K4 _ _ h5 202 (okS_out n4).2.1 (okS_out n4).2.2).mono ?_; rintro e w6 ⟨rfl, hb6, v6, h6⟩
  rw [d5.out] at h6
  go_wp2_with fail
  refine (sanswer_any gk _ K5 _ _ h6 486 (okS_out n5).2.1 (okS_out n5).2.2).mono ?_; rintro e w7 ⟨rfl, hb7, v7, h7⟩
  rw [d6.out] at h7
  go_wp2_with fail
  refine (give_any gk _ K6 _ _ h7 6 0 0 (okS_out n6).2.1 (okS_out n6).2.2).mono ?_; rintro e w8 ⟨rfl, hb8, v8, h8⟩
  rw [d7.out] at h8
  obtain ⟨y8, -, x8a, x8b, x8c, -, -, x8n, x8l, -, o8, -⟩ := id h8
  rw [q7a] at x8a; rw [q7b] at x8b; rw [q7c] at x8c
  have cr1 := count_any gk _ K7 _ _ h8 1 K7.now 200 200 (okS_out n7).2.1; rw [r1] at cr1
  have cr2 := count_any gk _ K7 _ _ h8 1 K7.now 202 202 (okS_out n7).2.1; rw [r2] at cr2
  have cr3 := count_any gk _ K7 _ _ h8 1 K7.now 300 699 (okS_out n7).2.1; rw [r3] at cr3
  clear n0 n1 n2 n3 n4 n5 n6 h1 h2 h3 h4 h5 h6 h7 r1 r2 r3
  go_wp2_with fail
  refine cr1.mono ?_; rintro e w' ⟨rfl, rfl⟩; clear cr1
  go_wp2_with fail
  refine cr2.mono ?_; rintro e w' ⟨rfl, rfl⟩; clear cr2
  go_wp2_with fail
  refine cr3.mono ?_; rintro e w' ⟨rfl, rfl⟩; clear cr3
  go_wp2_with fail
  refine (until_any gk _ K7 _ _ h8 32000 (okS_out n7).1 (okS_out n7).2.2 (by omega)).mono ?_; rintro e w9 ⟨rfl, hb9, v9, h9⟩
  rw [d8.out] at h9
  obtain ⟨y9, -, x9a, x9b, x9c, -, -, x9n, x9l, -, o9, -⟩ := id h9
  rw [q8a] at x9a; rw [q8b] at x9b; rw [q8c] at x9c
  have cl := closed_any gk _ K8 _ _ h9 (okS_out n8).2.1; rw [cl8] at cl
  go_wp2_with fail
  refine cl.mono ?_; rintro e w' ⟨rfl, nn, rfl⟩; clear cl
  replace h9 := h9.drewN nn
  obtain ⟨y9, -, x9a, x9b, x9c, -, -, x9n, x9l, -, o9, -⟩ := id h9
  rw [q8a] at x9a; rw [q8b] at x9b; rw [q8c] at x9c
  have cr4 := count_any gk _ K8 _ _ h9 5 K8.now 0 1000 (okS_out n8).2.1; rw [r4] at cr4
  go_wp2_with fail
  refine cr4.mono ?_; rintro e w' ⟨rfl, rfl⟩; clear cr4
  clear h8 h9 n7 n8
  go_wp2_with fail
  refine (sstart_any _).mono ?_; rintro e w10 ⟨gf, v10, rfl, hb10, h10⟩
  rw [d0.out] at h10
  go_wp2_with fail
  refine (sanswer_any gf _ K0 _ _ h10 404 (okS_out OK.out.1).2.1 (okS_out OK.out.1).2.2).mono ?_; rintro e w11 ⟨rfl, hb11, v11, h11⟩
  rw [d11.out] at h11
  go_wp2_with fail
  refine (give_any gf _ F1 _ _ h11 6 0 0 (okS_out m1).2.1 (okS_out m1).2.2).mono ?_; rintro e w12 ⟨rfl, hb12, v12, h12⟩
  rw [d12.out] at h12
  obtain ⟨y12, -, x12a, x12b, x12c, -, -, x12n, x12l, -, o12, -⟩ := id h12
  rw [qfa] at x12a; rw [qfb] at x12b; rw [qfc] at x12c
  have cr5 := count_any gf _ F2 _ _ h12 6 F2.now 0 1000 (okS_out m2).2.1; rw [r5] at cr5
  go_wp2_with fail
  refine cr5.mono ?_; rintro e w' ⟨rfl, rfl⟩; clear cr5
  have cl := closed_any gf _ F2 _ _ h12 (okS_out m2).2.1; rw [clf] at cl
  go_wp2_with fail
  refine cl.mono ?_; rintro e w' ⟨rfl, nf, rfl⟩; clear cl
  have B9 := below_drewN' (((((((((hb1.trans hb2).trans hb3).trans hb4).trans hb5).trans hb6).trans hb7).trans hb8).trans hb9)) nn
  have B12 := below_drewN' (((B9.trans (hb10.mono B9.size)).trans (hb11.mono B9.size)).trans (hb12.mono B9.size)) nf
  go_wp2_with fail
  refine (step_any _ _ _ _ _ _ _).mono ?_; rintro e w13 ⟨v13, rfl, ho13, hb13⟩
  obtain ⟨A13, cp13, rfl, -, -⟩ := own_slice ho13
  go_wp2_with (first | (go_at_call 37; refine (copies_any _ _).mono ?_; rintro e w' ⟨rfl, rfl⟩) | (go_at_call 22; refine (may_any _ _ _ _).mono ?_; rintro e w' ⟨rfl, cm, rfl⟩) | (go_at_call 18; refine (works_any _).mono ?_; rintro e w14 ⟨rfl, hb14⟩))
  go_ret
  have z12 := B12.size
  have z13 := hb13.size
  have B13 := B12.trans (hb13.mono B12.size)
  have z14 := B13.size
  refine ⟨rfl, Below.trans ?_ (hb14.mono ?_)⟩
  · repeat (first | exact B13 | refine Below.alloc ?_ (by first | omega | (simp; omega)) _ | refine Below.drew ?_)
  · first | omega | (simp; omega)

theorem known_any (w : World) : Calls Try.prog 12 #[] w fun e w' => e = .returned (.bool true) ∧ Below w.heap.size w w' :=
  known_abs simStart K1 K2 K3 K4 K5 K6 K7 K8 F1 F2 (hide rfl) (hide rfl) (hide rfl) (hide rfl) (hide rfl) (hide rfl) (hide rfl) (hide rfl) (hide rfl) (hide rfl) (hide rfl) (hide ok_K)
    k_facts.1 k_facts.2.1 k_facts.2.2.1 k_facts.2.2.2.1 k_facts.2.2.2.2.1 k_facts.2.2.2.2.2.1 k_facts.2.2.2.2.2.2.1 k_facts.2.2.2.2.2.2.2.1 k_facts.2.2.2.2.2.2.2.2.1 k_facts.2.2.2.2.2.2.2.2.2.1 k_facts.2.2.2.2.2.2.2.2.2.2 w
end Go.Proofs.Ytdllehgiambkcaa.Sv
