/- The walk of ProvisionalKnown. Printed by mk_known18.py. -/
import Derived.Test.YtdllehgiambkcaaPvWorks
namespace Go.Proofs.Ytdllehgiambkcaa.Pv
open Go.RowKit

theorem kn1 : offer ⟨0, 0, 0, [], false, false⟩ 180 = ⟨⟨1, 180, 500, [], false, false⟩, [sendO 180 1, timerO 1 500, timerO 2 32000], 0⟩ := by decide +kernel
theorem kn2 : ack ⟨1, 180, 500, [], false, false⟩ 2 = ⟨⟨0, 0, 0, [], false, false⟩, [], 8⟩ := by decide +kernel
theorem kn3 : offer ⟨1, 180, 500, [], false, false⟩ 486 = ⟨⟨1, 0, 0, [], true, false⟩, [finalO 486], 0⟩ := by decide +kernel
theorem kn4 : fire ⟨1, 180, 500, [], false, false⟩ 1 = ⟨⟨1, 180, 1000, [], false, false⟩, [sendO 180 1, timerO 1 1000], 0⟩ := by decide +kernel
theorem kn5 : fire ⟨1, 180, 1000, [], false, false⟩ 2 = ⟨⟨1, 0, 0, [], true, true⟩, [failO], 0⟩ := by decide +kernel
theorem kn6 : fire ⟨1, 0, 0, [], true, true⟩ 2 = ⟨⟨1, 0, 0, [], true, true⟩, [], 0⟩ := by decide +kernel
theorem kn7 : offer ⟨0, 0, 0, [], false, false⟩ 100 = ⟨⟨0, 0, 0, [], false, false⟩, [], 2⟩ := by decide +kernel
theorem kn8 : offer ⟨0, 0, 0, [], false, false⟩ 700 = ⟨⟨0, 0, 0, [], false, false⟩, [], 2⟩ := by decide +kernel
theorem kn9 : fire ⟨1, 180, 500, [], false, false⟩ 3 = ⟨⟨0, 0, 0, [], false, false⟩, [], 2⟩ := by decide +kernel
theorem kn10 : offer ⟨1, 180, 500, [181, 182, 183, 184, 185, 186, 187, 188, 189, 190, 191, 192, 193, 194, 195, 196], false, false⟩ 180 = ⟨⟨0, 0, 0, [], false, false⟩, [], 10⟩ := by decide +kernel
theorem knA : accept 0 5 = (5, true) ∧ accept 5 5 = (5, false) ∧ accept 5 6 = (6, true) ∧ accept 5 7 = (5, false) := by decide +kernel
theorem knM : may ⟨0, 0, 0, [], false, false⟩ = true ∧ may ⟨1, 200, 500, [], false, false⟩ = false ∧ may ⟨0, 0, 0, [180], false, false⟩ = false := by decide +kernel

theorem outs_here (A B : Option Addr) (c d : Nat) (l l' : List O) (w : World) (hA : Rd w w.heap.size 5 A l.length (l.flatMap O.cs)) (hB : Rd w w.heap.size 5 B l'.length (l'.flatMap O.cs)) (hn : l.length ≤ 1000000000) :
    Calls Try.prog 32 #[.slice A l.length c, .slice B l'.length d] w fun e w' => e = .returned (.bool (l == l')) ∧ ∃ k, w' = w.drewN k := outs_any A B c d _ l l' w hA hB hn
theorem rdA {w : World} {size n : Nat} {V : Option Addr} {xs : List Value} (h : Rd w w.heap.size size V n xs) (o : Obj) : Rd (w.alloc o) (w.alloc o).heap.size size V n xs := (h.alloc (Nat.le_refl _) o).more (by simp)
theorem rdD {w : World} {size n : Nat} {V : Option Addr} {xs : List Value} (h : Rd w w.heap.size size V n xs) (k : Nat) : Rd (w.drewN k) (w.drewN k).heap.size size V n xs := h

set_option maxRecDepth 100000 in
set_option maxHeartbeats 16000000 in
theorem known_any (w : World) : Calls Try.prog 9 #[] w fun e w' => e = .returned (.bool true) ∧ Below w.heap.size w w' := by
  go_enter Try.func9, Try.ntmps9
  go_wp2_with fail
  refine (offer_any ⟨0, 0, 0, [], false, false⟩ none 0 _ 180 (Rd.nil _ _ _ _) (by simp) (by simp) (by simp)).mono ?_
  rw [kn1]; rintro e w1 ⟨A1, c1, v1, rfl, hb1, -, hc1, ho1, -⟩
  simp only [List.length_nil, List.length_cons] at hc1 ho1 ⊢
  obtain ⟨V1, k1, rfl, -, hS1⟩ := own_slice ho1
  clear ho1 hc1 hS1
  have T1 := hb1
  clear hb1
  go_wp2_with fail
  refine (ack_any ⟨1, 180, 500, [], false, false⟩ A1 c1 _ 2 (Rd.nil _ _ _ _) (by simp) (by simp) (by simp)).mono ?_
  rw [kn2]; rintro e w2 ⟨A2, c2, v2, rfl, hb2, -, hc2, ho2, -⟩
  simp only [List.length_nil] at hc2 ho2 ⊢
  obtain ⟨V2, k2, rfl, -, hS2⟩ := own_slice ho2
  obtain ⟨hx2, hf2⟩ := bcell hb2
  have z1_2 : w1.heap.size < w2.heap.size := blt hb2 (by first | (simp; done) | (simp; omega))
  clear ho2 hc2 hS2
  have T2 := (T1.alloc T1.size _).trans (hb2.mono (by have := T1.size; simp; omega))
  clear hb2 T1
  go_wp2_with fail
  refine (offer_any ⟨1, 180, 500, [], false, false⟩ A1 c1 _ 486 (Rd.nil _ _ _ _) (by simp) (by simp) (by simp)).mono ?_
  rw [kn3]; rintro e w3 ⟨A3, c3, v3, rfl, hb3, -, hc3, ho3, -⟩
  simp only [List.length_nil, List.length_cons] at hc3 ho3 ⊢
  obtain ⟨V3, k3, rfl, -, hS3⟩ := own_slice ho3
  obtain ⟨hx3, hf3⟩ := bcell hb3
  have z2_3 : w2.heap.size < w3.heap.size := blt hb3 (by first | (simp; done) | (simp; omega))
  have z1_3 : w1.heap.size < w3.heap.size := by omega
  clear ho3 hc3
  have T3 := (T2.alloc T2.size _).trans (hb3.mono (by have := T2.size; simp; omega))
  clear hb3 T2
  go_wp2_with fail
  refine (fire_any ⟨1, 180, 500, [], false, false⟩ A1 c1 _ 1 (Rd.nil _ _ _ _) (by simp) (by simp) (by simp)).mono ?_
  rw [kn4]; rintro e w4 ⟨A4, c4, v4, rfl, hb4, -, hc4, ho4, -⟩
  simp only [List.length_nil, List.length_cons] at hc4 ho4 ⊢
  obtain ⟨V4, k4, rfl, -, hS4⟩ := own_slice ho4
  obtain ⟨hx4, hf4⟩ := bcell hb4
  have z3_4 : w3.heap.size < w4.heap.size := blt hb4 (by first | (simp; done) | (simp; omega))
  have z1_4 : w1.heap.size < w4.heap.size := by omega
  have z2_4 : w2.heap.size < w4.heap.size := by omega
  replace hS3 := hS3.thru hb4
  clear ho4 hc4
  have T4 := (T3.alloc T3.size _).trans (hb4.mono (by have := T3.size; simp; omega))
  clear hb4 T3
  go_wp2_with fail
  refine (fire_any ⟨1, 180, 1000, [], false, false⟩ A4 c4 _ 2 (Rd.nil _ _ _ _) (by simp) (by simp) (by simp)).mono ?_
  rw [kn5]; rintro e w5 ⟨A5, c5, v5, rfl, hb5, -, hc5, ho5, -⟩
  simp only [List.length_nil, List.length_cons] at hc5 ho5 ⊢
  obtain ⟨V5, k5, rfl, -, hS5⟩ := own_slice ho5
  obtain ⟨hx5, hf5⟩ := bcell hb5
  have z4_5 : w4.heap.size < w5.heap.size := blt hb5 (by first | (simp; done) | (simp; omega))
  have z1_5 : w1.heap.size < w5.heap.size := by omega
  have z2_5 : w2.heap.size < w5.heap.size := by omega
  have z3_5 : w3.heap.size < w5.heap.size := by omega
  replace hS3 := hS3.thru hb5
  replace hS4 := hS4.thru hb5
  clear ho5 hc5
  have T5 := (T4.alloc T4.size _).trans (hb5.mono (by have := T4.size; simp; omega))
  clear hb5 T4
  go_wp2_with fail
  refine (fire_any ⟨1, 0, 0, [], true, true⟩ A5 c5 _ 2 (Rd.nil _ _ _ _) (by simp) (by simp) (by simp)).mono ?_
  rw [kn6]; rintro e w6 ⟨A6, c6, v6, rfl, hb6, -, hc6, ho6, -⟩
  simp only [List.length_nil] at hc6 ho6 ⊢
  obtain ⟨V6, k6, rfl, -, hS6⟩ := own_slice ho6
  obtain ⟨hx6, hf6⟩ := bcell hb6
  have z5_6 : w5.heap.size < w6.heap.size := blt hb6 (by first | (simp; done) | (simp; omega))
  have z1_6 : w1.heap.size < w6.heap.size := by omega
  have z2_6 : w2.heap.size < w6.heap.size := by omega
  have z3_6 : w3.heap.size < w6.heap.size := by omega
  have z4_6 : w4.heap.size < w6.heap.size := by omega
  replace hS3 := hS3.thru hb6
  replace hS4 := hS4.thru hb6
  replace hS5 := hS5.thru hb6
  clear ho6 hc6
  have T6 := (T5.alloc T5.size _).trans (hb6.mono (by have := T5.size; simp; omega))
  clear hb6 T5
  clear hS6
  have y1_1 : w1.heap.size < w6.heap.size + 1 := by omega
  have y1_2 : w1.heap.size < w6.heap.size + 1 + 1 := by omega
  have y1_3 : w1.heap.size < w6.heap.size + 1 + 1 + 1 := by omega
  have y1_4 : w1.heap.size < w6.heap.size + 1 + 1 + 1 + 1 := by omega
  have y5_1 : w5.heap.size < w6.heap.size + 1 := by omega
  have y5_2 : w5.heap.size < w6.heap.size + 1 + 1 := by omega
  have y5_3 : w5.heap.size < w6.heap.size + 1 + 1 + 1 := by omega
  have y5_4 : w5.heap.size < w6.heap.size + 1 + 1 + 1 + 1 := by omega
  have eq3 : ([finalO 486] == [finalO 486]) = true := by decide
  go_wp2_with fail
  refine (outs_here V3 (some ⟨_, 0, none⟩) k3 1 [finalO 486] [finalO 486] _ ?_ ?_ (by simp)).mono ?_
  · repeat (first | exact hS3 | refine rdA ?_ _ | refine rdD ?_ _)
  · repeat (first | refine rdD ?_ _ | exact Rd.of_own (own_lit (base := 0) (e := 70) (n := 1) (size := 5) (cs := #[.int .u8 2, .int .i64 486, .int .i64 0, .int .i64 0, .int .i64 0]) (hhere _ _ _ (by simp)) (Nat.zero_le _) rfl (by simp [maxLen])))
  rw [eq3]; rintro e w' ⟨rfl, n3, rfl⟩
  clear eq3 hS3
  have eq4 : ([sendO 180 1, timerO 1 1000] == [sendO 180 1, timerO 1 1000]) = true := by decide
  go_wp2_with fail
  refine (outs_here V4 (some ⟨_, 0, none⟩) k4 2 [sendO 180 1, timerO 1 1000] [sendO 180 1, timerO 1 1000] _ ?_ ?_ (by simp)).mono ?_
  · repeat (first | exact hS4 | refine rdA ?_ _ | refine rdD ?_ _)
  · repeat (first | refine rdD ?_ _ | exact Rd.of_own (own_lit (base := 0) (e := 70) (n := 2) (size := 5) (cs := #[.int .u8 1, .int .i64 180, .int .i64 1, .int .i64 0, .int .i64 0, .int .u8 3, .int .i64 0, .int .i64 0, .int .i64 1, .int .i64 1000]) (hhere _ _ _ (by simp)) (Nat.zero_le _) rfl (by simp [maxLen])))
  rw [eq4]; rintro e w' ⟨rfl, n4, rfl⟩
  clear eq4 hS4
  have eq5 : ([failO] == [failO]) = true := by decide
  go_wp2_with fail
  refine (outs_here V5 (some ⟨_, 0, none⟩) k5 1 [failO] [failO] _ ?_ ?_ (by simp)).mono ?_
  · repeat (first | exact hS5 | refine rdA ?_ _ | refine rdD ?_ _)
  · repeat (first | refine rdD ?_ _ | exact Rd.of_own (own_lit (base := 0) (e := 70) (n := 1) (size := 5) (cs := #[.int .u8 4, .int .i64 0, .int .i64 0, .int .i64 0, .int .i64 0]) (hhere _ _ _ (by simp)) (Nat.zero_le _) rfl (by simp [maxLen])))
  rw [eq5]; rintro e w' ⟨rfl, n5, rfl⟩
  clear eq5 hS5
  go_wp2_with fail
  refine (offer_any ⟨0, 0, 0, [], false, false⟩ none 0 _ 100 ?_ (by simp) (by simp) (by simp)).mono ?_
  · exact (Rd.nil _ _ _ _)
  rw [kn7]; rintro e w7 ⟨A7, c7, v7, rfl, hb7, -, -, -, -⟩
  simp only [List.length_nil]
  obtain ⟨hx7, hf7⟩ := bcell hb7
  have z6_7 : w6.heap.size < w7.heap.size := blt hb7 (by first | (simp; done) | (simp; omega))
  have z1_7 : w1.heap.size < w7.heap.size := by omega
  have z2_7 : w2.heap.size < w7.heap.size := by omega
  have z3_7 : w3.heap.size < w7.heap.size := by omega
  have z4_7 : w4.heap.size < w7.heap.size := by omega
  have z5_7 : w5.heap.size < w7.heap.size := by omega
  have T7 : Below w.heap.size w w7 := by
    refine Below.trans ?_ (hb7.mono (by have := T6.size; first | omega | (simp; omega)))
    repeat (first | exact T6 | refine below_drewN' ?_ _ | refine Below.alloc ?_ (by have := T6.size; first | omega | (simp; omega)) _)
  clear hb7 T6
  go_wp2_with fail
  refine (offer_any ⟨0, 0, 0, [], false, false⟩ none 0 _ 700 ?_ (by simp) (by simp) (by simp)).mono ?_
  · exact (Rd.nil _ _ _ _)
  rw [kn8]; rintro e w8 ⟨A8, c8, v8, rfl, hb8, -, -, -, -⟩
  simp only [List.length_nil]
  obtain ⟨hx8, hf8⟩ := bcell hb8
  have z7_8 : w7.heap.size < w8.heap.size := blt hb8 (by first | (simp; done) | (simp; omega))
  have z1_8 : w1.heap.size < w8.heap.size := by omega
  have z2_8 : w2.heap.size < w8.heap.size := by omega
  have z3_8 : w3.heap.size < w8.heap.size := by omega
  have z4_8 : w4.heap.size < w8.heap.size := by omega
  have z5_8 : w5.heap.size < w8.heap.size := by omega
  have z6_8 : w6.heap.size < w8.heap.size := by omega
  have T8 : Below w.heap.size w w8 := by
    refine Below.trans ?_ (hb8.mono (by have := T7.size; first | omega | (simp; omega)))
    repeat (first | exact T7 | refine below_drewN' ?_ _ | refine Below.alloc ?_ (by have := T7.size; first | omega | (simp; omega)) _)
  clear hb8 T7
  go_wp2_with fail
  refine (fire_any ⟨1, 180, 500, [], false, false⟩ A1 c1 _ 3 ?_ (by simp) (by simp) (by simp)).mono ?_
  · exact (Rd.nil _ _ _ _)
  rw [kn9]; rintro e w9 ⟨A9, c9, v9, rfl, hb9, -, -, -, -⟩
  simp only [List.length_nil]
  obtain ⟨hx9, hf9⟩ := bcell hb9
  have z8_9 : w8.heap.size < w9.heap.size := blt hb9 (by first | (simp; done) | (simp; omega))
  have z1_9 : w1.heap.size < w9.heap.size := by omega
  have z2_9 : w2.heap.size < w9.heap.size := by omega
  have z3_9 : w3.heap.size < w9.heap.size := by omega
  have z4_9 : w4.heap.size < w9.heap.size := by omega
  have z5_9 : w5.heap.size < w9.heap.size := by omega
  have z6_9 : w6.heap.size < w9.heap.size := by omega
  have z7_9 : w7.heap.size < w9.heap.size := by omega
  have T9 : Below w.heap.size w w9 := by
    refine Below.trans ?_ (hb9.mono (by have := T8.size; first | omega | (simp; omega)))
    repeat (first | exact T8 | refine below_drewN' ?_ _ | refine Below.alloc ?_ (by have := T8.size; first | omega | (simp; omega)) _)
  clear hb9 T8
  go_wp2_with fail
  refine (offer_any ⟨1, 180, 500, [181, 182, 183, 184, 185, 186, 187, 188, 189, 190, 191, 192, 193, 194, 195, 196], false, false⟩ (some ⟨_, 0, none⟩) 16 _ 180 ?_ (by simp) (by simp) (by simp)).mono ?_
  · exact Rd.of_own (own_lit (base := 0) (e := 3) (n := 16) (size := 1) (cs := #[.int .i64 181, .int .i64 182, .int .i64 183, .int .i64 184, .int .i64 185, .int .i64 186, .int .i64 187, .int .i64 188, .int .i64 189, .int .i64 190, .int .i64 191, .int .i64 192, .int .i64 193, .int .i64 194, .int .i64 195, .int .i64 196]) (hhere _ _ _ (by simp)) (Nat.zero_le _) rfl (by simp [maxLen]))
  rw [kn10]; rintro e w10 ⟨A10, c10, v10, rfl, hb10, -, -, -, -⟩
  simp only [List.length_nil]
  obtain ⟨hx10, hf10⟩ := bcell hb10
  have z9_10 : w9.heap.size < w10.heap.size := blt hb10 (by first | (simp; done) | (simp; omega))
  have z1_10 : w1.heap.size < w10.heap.size := by omega
  have z2_10 : w2.heap.size < w10.heap.size := by omega
  have z3_10 : w3.heap.size < w10.heap.size := by omega
  have z4_10 : w4.heap.size < w10.heap.size := by omega
  have z5_10 : w5.heap.size < w10.heap.size := by omega
  have z6_10 : w6.heap.size < w10.heap.size := by omega
  have z7_10 : w7.heap.size < w10.heap.size := by omega
  have z8_10 : w8.heap.size < w10.heap.size := by omega
  have T10 : Below w.heap.size w w10 := by
    refine Below.trans ?_ (hb10.mono (by have := T9.size; first | omega | (simp; omega)))
    repeat (first | exact T9 | refine below_drewN' ?_ _ | refine Below.alloc ?_ (by have := T9.size; first | omega | (simp; omega)) _)
  clear hb10 T9
  obtain ⟨a1, a2, a3, a4⟩ := knA
  obtain ⟨m1, m2, m3⟩ := knM
  go_wp2_with fail
  refine (accept_any _ _ _).mono ?_; rw [a1]; rintro e w' ⟨rfl, rfl⟩
  go_wp2_with fail
  refine (accept_any _ _ _).mono ?_; rw [a2]; rintro e w' ⟨rfl, rfl⟩
  go_wp2_with fail
  refine (accept_any _ _ _).mono ?_; rw [a3]; rintro e w' ⟨rfl, rfl⟩
  go_wp2_with fail
  refine (accept_any _ _ _).mono ?_; rw [a4]; rintro e w' ⟨rfl, rfl⟩
  go_wp2_with fail
  refine (may_any ⟨0, 0, 0, [], false, false⟩ none 0 _ (Rd.nil _ _ _ _) (by simp) (by simp) (by simp)).mono ?_
  rw [m1]; rintro e w' ⟨rfl, cm1, rfl⟩
  go_wp2_with fail
  refine (may_any ⟨1, 200, 500, [], false, false⟩ none 0 _ (Rd.nil _ _ _ _) (by simp) (by simp) (by simp)).mono ?_
  rw [m2]; rintro e w' ⟨rfl, cm2, rfl⟩
  go_wp2_with fail
  refine (may_any ⟨0, 0, 0, [180], false, false⟩ (some ⟨_, 0, none⟩) 1 _ ?_ (by simp) (by simp) (by simp)).mono ?_
  · exact Rd.of_own (own_lit (base := 0) (e := 3) (n := 1) (size := 1) (cs := #[.int .i64 180]) (hhere _ _ _ (by simp)) (Nat.zero_le _) rfl (by simp [maxLen]))
  rw [m3]; rintro e w' ⟨rfl, cm3, rfl⟩
  go_wp2_with fail
  refine (works_any _).mono ?_; rintro e w20 ⟨rfl, hb20⟩
  go_wp2_with fail
  go_ret
  refine ⟨rfl, Below.trans ?_ (hb20.mono (by have := T10.size; first | omega | (simp; omega)))⟩
  repeat (first | exact T10 | refine below_drewN' ?_ _ | refine Below.alloc ?_ (by have := T10.size; first | omega | (simp; omega)) _)
end Go.Proofs.Ytdllehgiambkcaa.Pv
