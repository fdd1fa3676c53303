/- The walk of the law's works of chapter 18. -/
import Derived.Test.YtdllehgiambkcaaPvOuts
namespace Go.Proofs.Ytdllehgiambkcaa.Pv
open Go.RowKit

instance : DecidableEq Res := fun a b => decidable_of_iff (a.r = b.r ∧ a.l = b.l ∧ a.e = b.e) (by cases a; cases b; simp)

theorem wk1 : offer ⟨0, 0, 0, [], false, false⟩ 180 = ⟨⟨1, 180, 500, [], false, false⟩, [sendO 180 1, timerO 1 500, timerO 2 32000], 0⟩ := by decide +kernel
theorem wk2 : offer ⟨1, 180, 500, [], false, false⟩ 183 = ⟨⟨1, 180, 500, [183], false, false⟩, [], 0⟩ := by decide +kernel
theorem wk3 : offer ⟨1, 180, 500, [183], false, false⟩ 200 = ⟨⟨1, 180, 500, [183, 200], true, false⟩, [], 0⟩ := by decide +kernel
theorem wk4 : offer ⟨1, 180, 500, [183, 200], true, false⟩ 181 = ⟨⟨0, 0, 0, [], false, false⟩, [], 9⟩ := by decide +kernel
theorem wk5 : ack ⟨1, 180, 500, [183, 200], true, false⟩ 1 = ⟨⟨2, 183, 500, [200], true, false⟩, [sendO 183 2, timerO 1 500, timerO 2 32000], 0⟩ := by decide +kernel
theorem wk6 : ack ⟨2, 183, 500, [200], true, false⟩ 2 = ⟨⟨2, 0, 0, [], true, false⟩, [finalO 200], 0⟩ := by decide +kernel

set_option maxRecDepth 10000 in
set_option maxHeartbeats 8000000 in
theorem works_any (w : World) : Calls Try.prog 16 #[] w fun e w' => e = .returned (.bool true) ∧ Below w.heap.size w w' := by
  go_enter Try.func16, Try.ntmps16
  go_wp2_with fail
  refine (offer_any ⟨0, 0, 0, [], false, false⟩ none 0 _ 180 (Rd.nil _ _ _ _) (by simp) (by simp) (by simp)).mono ?_
  rw [wk1]; rintro e w1 ⟨A1, c1, v1, rfl, hb1, hR1, hc1, ho1, -⟩
  simp only [List.length_nil, List.length_cons] at hR1 hc1 ho1 ⊢
  obtain ⟨V1, k1, rfl, -, hS1⟩ := own_slice ho1
  go_wp2_with fail
  refine (offer_any ⟨1, 180, 500, [], false, false⟩ A1 c1 _ 183 ((hR1.alloc (Nat.le_refl _) _).more (by simp)) (by simp) (by simp) (by simp)).mono ?_
  rw [wk2]; rintro e w2 ⟨A2, c2, v2, rfl, hb2, hR2, hc2, ho2, -⟩
  simp only [List.length_nil, List.length_cons] at hR2 hc2 ho2 ⊢
  obtain ⟨hx2, hf2⟩ := bcell hb2
  obtain ⟨V2, k2, rfl, -, -⟩ := own_slice ho2
  have z12 : w1.heap.size < w2.heap.size := blt hb2 (by simp)
  replace hS1 := hS1.thru hb2
  go_wp2_with fail
  refine (offer_any ⟨1, 180, 500, [183], false, false⟩ A2 c2 _ 200 ((hR2.alloc (Nat.le_refl _) _).more (by simp)) (by simp) (by simpa using hc2) (by simp)).mono ?_
  rw [wk3]; rintro e w3 ⟨A3, c3, v3, rfl, hb3, hR3, hc3, ho3, -⟩
  simp only [List.length_nil, List.length_cons] at hR3 hc3 ho3 ⊢
  obtain ⟨hx3, hf3⟩ := bcell hb3
  obtain ⟨V3, k3, rfl, -, -⟩ := own_slice ho3
  have z23 : w2.heap.size < w3.heap.size := blt hb3 (by simp)
  have z13 : w1.heap.size < w3.heap.size := by omega
  replace hS1 := hS1.thru hb3
  go_wp2_with fail
  refine (offer_any ⟨1, 180, 500, [183, 200], true, false⟩ A3 c3 _ 181 ((hR3.alloc (Nat.le_refl _) _).more (by simp)) (by simp) (by simpa using hc3) (by simp)).mono ?_
  rw [wk4]; rintro e w4 ⟨A4, c4, v4, rfl, hb4, hR4, hc4, ho4, -⟩
  simp only [List.length_nil] at hR4 hc4 ho4 ⊢
  obtain ⟨hx4, hf4⟩ := bcell hb4
  have z34 : w3.heap.size < w4.heap.size := blt hb4 (by simp)
  have z24 : w2.heap.size < w4.heap.size := by omega
  have z14 : w1.heap.size < w4.heap.size := by omega
  replace hS1 := hS1.thru hb4
  have hR3' := hR3.thru hb4
  go_wp2_with fail
  refine (ack_any ⟨1, 180, 500, [183, 200], true, false⟩ A3 c3 _ 1 ((hR3'.alloc (Nat.le_refl _) _).more (by simp)) (by simp) (by simpa using hc3) (by simp)).mono ?_
  rw [wk5]; rintro e w5 ⟨A5, c5, v5, rfl, hb5, hR5, hc5, ho5, -⟩
  simp only [List.length_nil, List.length_cons] at hR5 hc5 ho5 ⊢
  obtain ⟨V5, k5, rfl, -, hS5⟩ := own_slice ho5
  obtain ⟨hx5, hf5⟩ := bcell hb5
  have z45 : w4.heap.size < w5.heap.size := blt hb5 (by simp)
  have z35 : w3.heap.size < w5.heap.size := by omega
  have z25 : w2.heap.size < w5.heap.size := by omega
  have z15 : w1.heap.size < w5.heap.size := by omega
  replace hS1 := hS1.thru hb5
  go_wp2_with fail
  refine (ack_any ⟨2, 183, 500, [200], true, false⟩ A5 c5 _ 2 ((hR5.alloc (Nat.le_refl _) _).more (by simp)) (by simp) (by simpa using hc5) (by simp)).mono ?_
  rw [wk6]; rintro e w6 ⟨A6, c6, v6, rfl, hb6, hR6, hc6, ho6, -⟩
  simp only [List.length_nil, List.length_cons] at hR6 hc6 ho6 ⊢
  obtain ⟨V6, k6, rfl, -, hS6⟩ := own_slice ho6
  obtain ⟨hx6, hf6⟩ := bcell hb6
  have z56 : w5.heap.size < w6.heap.size := blt hb6 (by simp)
  have z46 : w4.heap.size < w6.heap.size := by omega
  have z36 : w3.heap.size < w6.heap.size := by omega
  have z26 : w2.heap.size < w6.heap.size := by omega
  have z16 : w1.heap.size < w6.heap.size := by omega
  replace hS1 := hS1.thru hb6
  replace hS5 := hS5.thru hb6
  have T6 : Below w.heap.size w w6 := by
    have s1 := hb1.size
    have t2 := ((hb1.alloc s1 _).trans (hb2.mono (by simp; omega)))
    have t3 := ((t2.alloc t2.size _).trans (hb3.mono (by simp; omega)))
    have t4 := ((t3.alloc t3.size _).trans (hb4.mono (by simp; omega)))
    have t5 := ((t4.alloc t4.size _).trans (hb5.mono (by simp; omega)))
    exact ((t5.alloc t5.size _).trans (hb6.mono (by simp; omega)))
  clear ho1 ho2 ho3 ho4 ho5 ho6 hR1 hR2 hR3 hR4 hR5 hR6 hb1 hb2 hb3 hb4 hb5 hb6
  go_wp2_with fail
  refine (sends_any _ _ _).mono ?_; rintro e w7 ⟨v7, rfl, hb7, ho7⟩
  obtain ⟨V7, k7, rfl, -, hS7⟩ := own_slice ho7
  obtain ⟨hx7, hf7⟩ := bcell hb7
  have z67 : w6.heap.size < w7.heap.size := blt hb7 (by simp)
  have z57 : w5.heap.size < w7.heap.size := by omega
  have z47 : w4.heap.size < w7.heap.size := by omega
  have z37 : w3.heap.size < w7.heap.size := by omega
  have z27 : w2.heap.size < w7.heap.size := by omega
  have z17 : w1.heap.size < w7.heap.size := by omega
  replace hS1 := hS1.thru hb7
  replace hS5 := hS5.thru hb7
  replace hS6 := hS6.thru hb7
  have T7 := (T6.alloc T6.size _).trans (hb7.mono (by have := T6.size; simp; omega))
  clear ho7 hb7 T6
  have eq1 : ([sendO 180 1, timerO 1 500, timerO 2 32000] == [sendO 180 1, timerO 1 500, timerO 2 32000]) = true := by decide
  go_wp2_with fail
  refine (outs_any V1 V7 k1 k7 _ _ _ _ hS1 hS7 (by simp)).mono ?_; rw [eq1]; rintro e w' ⟨rfl, n8, rfl⟩
  go_wp2_with fail
  refine (sends_any _ _ _).mono ?_; rintro e w9 ⟨v9, rfl, hb9, ho9⟩
  obtain ⟨V9, k9, rfl, -, hS9⟩ := own_slice ho9
  obtain ⟨hx9, hf9⟩ := bcell hb9
  replace hS5 := (hS5.drewN n8).past hb9
  replace hS6 := (hS6.drewN n8).past hb9
  have T9 := (below_drewN' T7 n8).trans (hb9.mono (below_drewN' T7 n8).size)
  clear ho9 hb9 T7 hS1 hS7
  have eq2 : ([sendO 183 2, timerO 1 500, timerO 2 32000] == [sendO 183 2, timerO 1 500, timerO 2 32000]) = true := by decide
  go_wp2_with fail
  refine (outs_any V5 V9 k5 k9 _ _ _ _ hS5 hS9 (by simp)).mono ?_; rw [eq2]; rintro e w' ⟨rfl, n10, rfl⟩
  replace hS6 := hS6.drewN n10
  have T10 := below_drewN' T9 n10
  clear hS5 hS9 T9
  have eq3 : ([finalO 200] == [finalO 200]) = true := by decide
  go_wp2_with fail
  refine (outs_any V6 (some ⟨_, 0, none⟩) k6 1 _ [finalO 200] [finalO 200] _ ((hS6.alloc (Nat.le_refl _) _).more (by simp)) (Rd.of_own (own_lit (base := 0) (e := 70) (n := 1) (size := 5) (cs := #[.int .u8 2, .int .i64 200, .int .i64 0, .int .i64 0, .int .i64 0]) (hhere _ _ _ rfl) (Nat.zero_le _) rfl (by simp [maxLen]))) (by simp)).mono ?_; rw [eq3]; rintro e w' ⟨rfl, n11, rfl⟩
  go_wp2_with fail
  go_ret
  exact ⟨rfl, below_drewN' (T10.alloc T10.size _) n11⟩
end Go.Proofs.Ytdllehgiambkcaa.Pv
