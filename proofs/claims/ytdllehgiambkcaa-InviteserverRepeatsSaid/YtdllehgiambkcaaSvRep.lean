/- The walk of InviteserverRepeats. -/
import Derived.Test.YtdllehgiambkcaaSvRepLaw
import Derived.Test.YtdllehgiambkcaaSvKnown
namespace Go.Proofs.Ytdllehgiambkcaa.Sv
open Go.RowKit

theorem ok_rep : okS simStart = true ∧ okS s700 = true := by decide +kernel

set_option maxRecDepth 10000 in
set_option maxHeartbeats 8000000 in
theorem rep_abs (K0 K1 : Sim) (d0 : Hid (simStart = K0)) (d1 : Hid (untilT K0 700 = K1)) (n0 : okS K0 = true) (n1 : okS K1 = true) (code ack : Int) (hm : 0 ≤ code ∧ code < 65536) (ha : 0 ≤ ack ∧ ack < 65536)
    (K2 : Sim) (d2 : Hid (give K1 4 (300 + code % 400) 0 = K2)) (hk2 : K2.log.length = 5 ∧ K2.now = 700)
    (HA : Hid (∀ t : Int, 0 ≤ t → t < 32000 → ∃ j, GS (300 + code % 400) j (untilT K2 (700 + t)) ∧ Acked (300 + code % 400) t (untilT K2 (700 + t))))
    (HL : Hid (Lated (300 + code % 400) (untilT K2 32700)))
    (w : World) : Calls Try.prog 11 #[.int .u16 code, .int .u16 ack] w fun e w' => e = .returned (.bool true) ∧ Below w.heap.size w w' := by
  obtain ⟨hm1, hm2⟩ := hm
  obtain ⟨ha1, ha2⟩ := ha
  have hne := fun a b c W => neqM_same a b c W
  have heq := fun a b c W => eqM_same a b c W
  by_cases hlt : ack < 32000
  · obtain ⟨j, hG, hAk⟩ := HA.out ack ha1 hlt
    clear HA HL
    go_enter Try.func11, Try.ntmps11
    have hc : 300 ≤ 300 + code % 400 ∧ 300 + code % 400 ≤ 699 := by omega
    obtain ⟨e1, e2, e3⟩ := closing hc ⟨ha1, hlt⟩ hG hAk
    go_wp2_with fail
    refine (sstart_any _).mono ?_; rintro e w1 ⟨g, v1, rfl, hb1, h1⟩
    rw [d0.out] at h1
    go_wp2_with fail
    refine (until_any g _ K0 _ _ h1 700 (okS_out n0).1 (okS_out n0).2.2 (by omega)).mono ?_; rintro e w2 ⟨rfl, hb2, v2, h2⟩
    rw [d1.out] at h2
    clear h1
    go_wp2_with fail
    refine (sanswer_any g _ K1 _ _ h2 (300 + code % 400) (okS_out n1).2.1 (okS_out n1).2.2).mono ?_; rintro e w3 ⟨rfl, hb3, v3, h3⟩
    rw [d2.out] at h3
    clear h2
    obtain ⟨k2l, k2n⟩ := hk2
    have l3 := until_len K2 (700 + ack)
    have nn := hAk.now1
    have nst := hAk.st
    have hcn := hAk.cnt
    have hlen := hAk.len
    go_wp2_with fail
    refine (until_any g _ K2 _ _ h3 (700 + ack) (by omega) (by omega) (by omega)).mono ?_; rintro e w4 ⟨rfl, hb4, v4, h4⟩
    clear h3 l3 hAk hG
    generalize untilT K2 (700 + ack) = K3 at *
    obtain ⟨c1, c2, c3, c4, c5, c6, c7, c8, c9, c10⟩ := e3
    have cc := count_any g _ K3 _ _ h4 1 K3.now (300 + code % 400) (300 + code % 400) (by omega)
    rw [hcn] at cc
    obtain ⟨y3, -, x3a, x3b, x3c, -, -, x3n, x3l, -, o3, -⟩ := id h4
    rw [nst] at x3a
    rw [nn] at x3n cc
    have hcp := fun W => copies_any ack W
    generalize copies ack = cpa at *
    clear hcn nst d0 d1 d2 n0 n1
    go_wp2_with fail
    refine cc.mono ?_; rintro e w' ⟨rfl, rfl⟩; clear cc
    go_wp2_with fail
    refine (hcp _).mono ?_; rintro e w' ⟨rfl, rfl⟩
    go_wp2_with fail
    refine (give_any g _ K3 _ _ h4 3 0 0 (by omega) (by omega)).mono ?_; rintro e w5 ⟨rfl, hb5, v5, h5⟩
    clear x3a x3b x3c x3n x3l o3 y3
    have l4 := until_len (give K3 3 0 0) (700 + ack + 4999)
    generalize give K3 3 0 0 = K4 at *
    obtain ⟨y5, -, x5a, x5b, x5c, -, -, x5n, x5l, -, o5, -⟩ := id h5
    rw [e1] at x5n
    go_wp2_with fail
    refine (until_any g _ K4 _ _ h5 (700 + ack + 4999) (by omega) (by omega) (by omega)).mono ?_; rintro e w6 ⟨rfl, hb6, v6, h6⟩
    clear x5a x5b x5c x5n x5l o5 y5 h5 l4
    generalize untilT K4 (700 + ack + 4999) = K5 at *
    obtain ⟨y6, -, x6a, x6b, x6c, -, -, x6n, x6l, -, o6, -⟩ := id h6
    rw [c1] at x6a x6b x6c
    rw [c2] at x6n
    simp only at x6a x6b x6c
    go_wp2_with fail
    refine (until_any g _ K5 _ _ h6 (700 + ack + 4999 + 1) (by omega) (by omega) (by omega)).mono ?_; rintro e w7 ⟨rfl, hb7, v7, h7⟩
    clear x6a x6b x6c x6n x6l o6 y6 h6
    generalize untilT K5 (700 + ack + 4999 + 1) = K6 at *
    obtain ⟨y7, -, x7a, x7b, x7c, -, -, x7n, x7l, -, o7, -⟩ := id h7
    have cc := count_any g _ K6 _ _ h7 5 K6.now 0 1000 (by omega)
    have cd := count_any g _ K6 _ _ h7 1 K6.now (300 + code % 400) (300 + code % 400) (by omega)
    have cl := closed_any g _ K6 _ _ h7 (by omega)
    rw [c9] at cc
    rw [c10] at cd
    rw [closed_j c7] at cl
    rw [c5] at x7a
    clear c1 c2 c3 c4 c5 c6 c8 c9 c10 hlen nn e1 e2
    go_wp2_with fail
    refine cc.mono ?_; rintro e w' ⟨rfl, rfl⟩; clear cc
    go_wp2_with fail
    refine cd.mono ?_; rintro e w' ⟨rfl, rfl⟩; clear cd
    go_wp2_with fail
    refine (hcp _).mono ?_; rintro e w' ⟨rfl, rfl⟩
    go_wp2_with fail
    refine cl.mono ?_; rintro e w' ⟨rfl, nd, rfl⟩; clear cl
    go_wp2_with fail
    refine (works_any _).mono ?_; rintro e w8 ⟨rfl, hb8⟩
    go_wp2_with fail
    go_ret
    have B := below_drewN' ((((((hb1.trans hb2).trans hb3).trans hb4).trans hb5).trans hb6).trans hb7) nd
    exact ⟨rfl, B.trans (hb8.mono B.size)⟩
  · have hL := HL.out
    clear HA HL
    rcases (show ack = 32000 ∨ 32000 < ack by omega) with rfl | hgt
    all_goals
      go_enter Try.func11, Try.ntmps11
      go_wp2_with fail
      refine (sstart_any _).mono ?_; rintro e w1 ⟨g, v1, rfl, hb1, h1⟩
      rw [d0.out] at h1
      go_wp2_with fail
      refine (until_any g _ K0 _ _ h1 700 (okS_out n0).1 (okS_out n0).2.2 (by omega)).mono ?_; rintro e w2 ⟨rfl, hb2, v2, h2⟩
      rw [d1.out] at h2
      clear h1
      go_wp2_with fail
      refine (sanswer_any g _ K1 _ _ h2 (300 + code % 400) (okS_out n1).2.1 (okS_out n1).2.2).mono ?_; rintro e w3 ⟨rfl, hb3, v3, h3⟩
      rw [d2.out] at h3
      clear h2
      obtain ⟨k2l, k2n⟩ := hk2
      clear d0 d1 d2 n0 n1
      go_wp2_with fail
      refine (until_any g _ K2 _ _ h3 32700 (by omega) (by omega) (by omega)).mono ?_; rintro e w4 ⟨rfl, hb4, v4, h4⟩
      clear h3
      generalize untilT K2 32700 = K3 at *
      obtain ⟨t1, t2, t3, t4, t5, t6, t7⟩ := hL
      obtain ⟨y3, -, x3a, x3b, x3c, -, -, x3n, x3l, -, o3, -⟩ := id h4
      have cc := count_any g _ K3 _ _ h4 5 32699 0 1000 (by omega)
      have cd := count_any g _ K3 _ _ h4 5 32700 0 1000 (by omega)
      have ce := count_any g _ K3 _ _ h4 1 K3.now (300 + code % 400) (300 + code % 400) (by omega)
      have cl := closed_any g _ K3 _ _ h4 (by omega)
      rw [t5] at cc
      rw [t6] at cd
      rw [t7, t3] at ce
      rw [closed_j t2] at cl
      rw [t1] at x3a x3b x3c
      rw [t3] at x3n
      simp only at x3a x3b x3c
      go_wp2_with fail
      refine cc.mono ?_; rintro e w' ⟨rfl, rfl⟩; clear cc
      go_wp2_with fail
      refine cd.mono ?_; rintro e w' ⟨rfl, rfl⟩; clear cd
      go_wp2_with fail
      refine ce.mono ?_; rintro e w' ⟨rfl, rfl⟩; clear ce
      go_wp2_with fail
      refine cl.mono ?_; rintro e w' ⟨rfl, nd, rfl⟩; clear cl
      go_wp2_with fail
      refine (works_any _).mono ?_; rintro e w8 ⟨rfl, hb8⟩
      go_wp2_with fail
      go_ret
      have B := below_drewN' (((hb1.trans hb2).trans hb3).trans hb4) nd
      exact ⟨rfl, B.trans (hb8.mono B.size)⟩

theorem s700_def : untilT simStart 700 = s700 := by rw [s700]
theorem sRej_def (c : Int) : give s700 4 c 0 = sRej c := by rw [sRej]

theorem rep_any (code ack : Int) (hc : 0 ≤ code ∧ code < 65536) (ha : 0 ≤ ack ∧ ack < 65536) (w : World) :
    Calls Try.prog 11 #[.int .u16 code, .int .u16 ack] w fun e w' => e = .returned (.bool true) ∧ Below w.heap.size w w' := by
  have h1 : 300 ≤ 300 + code % 400 ∧ 300 + code % 400 ≤ 699 := by omega
  obtain ⟨hg, hn, hl⟩ := rej_gs h1
  exact rep_abs simStart s700 (hide rfl) (hide s700_def) ok_rep.1 ok_rep.2 code ack hc ha (sRej (300 + code % 400)) (hide (sRej_def _)) ⟨hl, hn⟩ (hide fun t h0 ht => acked h1 ⟨h0, ht⟩) (hide (lated h1)) w
end Go.Proofs.Ytdllehgiambkcaa.Sv
