/- The walk of dialtonelaw14.works: five calls one behind the other, then the results are compared. Printed by mk_works14.py. -/
import Derived.Test.YtdllehgiambkcaaSvLaw
namespace Go.Proofs.Ytdllehgiambkcaa.Sv
open Go.RowKit

theorem neqM (a b c a' b' c' : Int) (w : World) : (binOp .neq 32 (.agg #[.int .u8 a, .int .i64 b, .int .i64 c]) (.agg #[.int .u8 a', .int .i64 b', .int .i64 c'])).run Try.prog w = .ok (.bool (!decide (a = a' ∧ b = b' ∧ c = c'))) w := by
  have i3 := Try.underlying3
  have i5 := Try.underlying30
  rw [run_neq_struct]
  rw [run_equalIn_agg _ _ _ _ _ stM shM, flM]
  by_cases h1 : a = a' <;> by_cases h2 : b = b' <;> by_cases h3 : c = c' <;> simp [Op.eqFields, go_sem, i3, i5, h1, h2, h3]
theorem neqM_same (a b c : Int) (w : World) : (binOp .neq 32 (.agg #[.int .u8 a, .int .i64 b, .int .i64 c]) (.agg #[.int .u8 a, .int .i64 b, .int .i64 c])).run Try.prog w = .ok (.bool false) w := by
  rw [neqM]; simp

theorem rd_lit {w : World} {k n : Nat} {cs : Array Value} {l : List O} (hk : w.heap[k]? = some (.cells cs 52 (0, 0))) (hl : cs.toList = l.flatMap O.cs) (hn : n = l.length) (hm : n ≤ 1000) : Rd w w.heap.size 4 (some ⟨k, 0, none⟩) l.length (l.flatMap O.cs) := by
  have h := own_outs (w := w) (base := 0) hk (Nat.zero_le _) hl hn hm
  rw [hn] at h
  exact Rd.of_own h

/-- The comparison of two lists that are the same; the world behind it as a letter. -/
theorem outs_same (A B : Option Addr) (c d H : Nat) (l : List O) (w : World) (hA : Rd w H 4 A l.length (l.flatMap O.cs)) (hB : Rd w w.heap.size 4 B l.length (l.flatMap O.cs)) (hH : H ≤ w.heap.size) (hn : l.length ≤ 1000) :
    Calls Try.prog 51 #[.slice A l.length c, .slice B l.length d] w fun e w' => e = .returned (.bool true) ∧ Below w.heap.size w w' :=
  (outs_any A B c d w.heap.size l l w (hA.more hH) hB (by omega)).mono fun e w' ⟨he, k, hw⟩ => ⟨by rw [he]; simp, by rw [hw]; exact below_drewN' (Below.refl _ _) k⟩

theorem w14_0 (w : World) : Calls Try.prog 33 #[] w (Outs ⟨3, 0, 100⟩ [⟨3, 0, 0, 0⟩, ⟨1, 100, 0, 0⟩] w.heap.size w) := start_any w
theorem w14_1 (w : World) : Calls Try.prog 40 #[.agg #[.int .u8 3, .int .i64 0, .int .i64 100], .agg #[.int .u8 4, .int .i64 180, .int .u8 0]] w (Outs ⟨3, 0, 180⟩ [⟨1, 180, 0, 0⟩] w.heap.size w) := by
  have h := step_any 3 0 100 4 180 0 w
  rw [show step ⟨3, 0, 100⟩ 4 180 0 = (⟨3, 0, 180⟩, [⟨1, 180, 0, 0⟩]) from rfl] at h
  exact h
theorem w14_2 (w : World) : Calls Try.prog 40 #[.agg #[.int .u8 3, .int .i64 0, .int .i64 180], .agg #[.int .u8 4, .int .i64 486, .int .u8 0]] w (Outs ⟨5, 500, 486⟩ [⟨1, 486, 0, 0⟩, ⟨4, 0, 7, 500⟩, ⟨4, 0, 8, 32000⟩] w.heap.size w) := by
  have h := step_any 3 0 180 4 486 0 w
  rw [show step ⟨3, 0, 180⟩ 4 486 0 = (⟨5, 500, 486⟩, [⟨1, 486, 0, 0⟩, ⟨4, 0, 7, 500⟩, ⟨4, 0, 8, 32000⟩]) from rfl] at h
  exact h
theorem w14_3 (w : World) : Calls Try.prog 40 #[.agg #[.int .u8 5, .int .i64 500, .int .i64 486], .agg #[.int .u8 5, .int .i64 0, .int .u8 7]] w (Outs ⟨5, 1000, 486⟩ [⟨1, 486, 0, 0⟩, ⟨4, 0, 7, 1000⟩] w.heap.size w) := by
  have h := step_any 5 500 486 5 0 7 w
  rw [show step ⟨5, 500, 486⟩ 5 0 7 = (⟨5, 1000, 486⟩, [⟨1, 486, 0, 0⟩, ⟨4, 0, 7, 1000⟩]) from rfl] at h
  exact h
theorem w14_4 (w : World) : Calls Try.prog 40 #[.agg #[.int .u8 5, .int .i64 1000, .int .i64 486], .agg #[.int .u8 3, .int .i64 0, .int .u8 0]] w (Outs ⟨6, 0, 486⟩ [⟨4, 0, 9, 5000⟩] w.heap.size w) := by
  have h := step_any 5 1000 486 3 0 0 w
  rw [show step ⟨5, 1000, 486⟩ 3 0 0 = (⟨6, 0, 486⟩, [⟨4, 0, 9, 5000⟩]) from rfl] at h
  exact h

set_option maxHeartbeats 8000000 in
theorem works_any (w : World) : Calls Try.prog 18 #[] w fun e w' => e = .returned (.bool true) ∧ Below w.heap.size w w' := by
  have hne := fun a b c W => neqM_same a b c W
  have heq := fun a b c W => eqM_same a b c W
  go_enter Try.func18, Try.ntmps18
  go_wp2_with fail
  refine (w14_0 _).mono ?_; rintro e w1 ⟨v1, rfl, ho1, hb⟩
  obtain ⟨A1, c1, rfl, _, hR1⟩ := own_slice ho1; clear ho1
  have hB : Below w.heap.size w w1 := hb
  clear hb
  go_wp2_with fail
  refine (w14_1 _).mono ?_; rintro e w2 ⟨v2, rfl, ho2, hb⟩
  obtain ⟨A2, c2, rfl, _, hR2⟩ := own_slice ho2; clear ho2
  replace hB : Below w.heap.size w w2 := (hB.alloc hB.size _).trans (hb.mono (B' := w.heap.size) (by have := hB.size; simp; omega))
  replace hR1 : Rd w2 w2.heap.size 4 A1 _ _ := (by first | exact hR1.past hb | exact hR1.thru hb | exact ((hR1.alloc (Nat.le_refl _) _).more (by simp)).thru hb)
  have B1 := (Box.new w1 #[.int .u8 3, .int .i64 0, .int .i64 100] 32).past hb
  obtain ⟨la1, lb1, lc1, r1⟩ := B1.rules
  clear hb
  go_wp2_with fail
  refine (w14_2 _).mono ?_; rintro e w3 ⟨v3, rfl, ho3, hb⟩
  obtain ⟨A3, c3, rfl, _, hR3⟩ := own_slice ho3; clear ho3
  replace hB : Below w.heap.size w w3 := (hB.alloc hB.size _).trans (hb.mono (B' := w.heap.size) (by have := hB.size; simp; omega))
  replace hR1 : Rd w3 w3.heap.size 4 A1 _ _ := (by first | exact hR1.past hb | exact hR1.thru hb | exact ((hR1.alloc (Nat.le_refl _) _).more (by simp)).thru hb)
  replace hR2 : Rd w3 w3.heap.size 4 A2 _ _ := (by first | exact hR2.past hb | exact hR2.thru hb | exact ((hR2.alloc (Nat.le_refl _) _).more (by simp)).thru hb)
  clear la1 lb1 lc1 r1
  replace B1 : Box w3 _ _ := (by first | exact B1.past hb | exact (B1.alloc _).past hb | exact ((B1.alloc _).alloc _).past hb)
  have B2 := (Box.new w2 #[.int .u8 3, .int .i64 0, .int .i64 180] 32).past hb
  obtain ⟨la1, lb1, lc1, r1⟩ := B1.rules
  obtain ⟨la2, lb2, lc2, r2⟩ := B2.rules
  clear hb
  go_wp2_with fail
  refine (w14_3 _).mono ?_; rintro e w4 ⟨v4, rfl, ho4, hb⟩
  obtain ⟨A4, c4, rfl, _, hR4⟩ := own_slice ho4; clear ho4
  replace hB : Below w.heap.size w w4 := (hB.alloc hB.size _).trans (hb.mono (B' := w.heap.size) (by have := hB.size; simp; omega))
  replace hR1 : Rd w4 w4.heap.size 4 A1 _ _ := (by first | exact hR1.past hb | exact hR1.thru hb | exact ((hR1.alloc (Nat.le_refl _) _).more (by simp)).thru hb)
  replace hR2 : Rd w4 w4.heap.size 4 A2 _ _ := (by first | exact hR2.past hb | exact hR2.thru hb | exact ((hR2.alloc (Nat.le_refl _) _).more (by simp)).thru hb)
  replace hR3 : Rd w4 w4.heap.size 4 A3 _ _ := (by first | exact hR3.past hb | exact hR3.thru hb | exact ((hR3.alloc (Nat.le_refl _) _).more (by simp)).thru hb)
  clear la1 lb1 lc1 r1 la2 lb2 lc2 r2
  replace B1 : Box w4 _ _ := (by first | exact B1.past hb | exact (B1.alloc _).past hb | exact ((B1.alloc _).alloc _).past hb)
  replace B2 : Box w4 _ _ := (by first | exact B2.past hb | exact (B2.alloc _).past hb | exact ((B2.alloc _).alloc _).past hb)
  have B3 := (Box.new w3 #[.int .u8 5, .int .i64 500, .int .i64 486] 32).past hb
  obtain ⟨la1, lb1, lc1, r1⟩ := B1.rules
  obtain ⟨la2, lb2, lc2, r2⟩ := B2.rules
  obtain ⟨la3, lb3, lc3, r3⟩ := B3.rules
  clear hb
  go_wp2_with fail
  refine (w14_4 _).mono ?_; rintro e w5 ⟨v5, rfl, ho5, hb⟩
  obtain ⟨A5, c5, rfl, _, hR5⟩ := own_slice ho5; clear ho5
  replace hB : Below w.heap.size w w5 := (hB.alloc hB.size _).trans (hb.mono (B' := w.heap.size) (by have := hB.size; simp; omega))
  replace hR1 : Rd w5 w5.heap.size 4 A1 _ _ := (by first | exact hR1.past hb | exact hR1.thru hb | exact ((hR1.alloc (Nat.le_refl _) _).more (by simp)).thru hb)
  replace hR2 : Rd w5 w5.heap.size 4 A2 _ _ := (by first | exact hR2.past hb | exact hR2.thru hb | exact ((hR2.alloc (Nat.le_refl _) _).more (by simp)).thru hb)
  replace hR3 : Rd w5 w5.heap.size 4 A3 _ _ := (by first | exact hR3.past hb | exact hR3.thru hb | exact ((hR3.alloc (Nat.le_refl _) _).more (by simp)).thru hb)
  replace hR4 : Rd w5 w5.heap.size 4 A4 _ _ := (by first | exact hR4.past hb | exact hR4.thru hb | exact ((hR4.alloc (Nat.le_refl _) _).more (by simp)).thru hb)
  clear la1 lb1 lc1 r1 la2 lb2 lc2 r2 la3 lb3 lc3 r3
  replace B1 : Box w5 _ _ := (by first | exact B1.past hb | exact (B1.alloc _).past hb | exact ((B1.alloc _).alloc _).past hb)
  replace B2 : Box w5 _ _ := (by first | exact B2.past hb | exact (B2.alloc _).past hb | exact ((B2.alloc _).alloc _).past hb)
  replace B3 : Box w5 _ _ := (by first | exact B3.past hb | exact (B3.alloc _).past hb | exact ((B3.alloc _).alloc _).past hb)
  have B4 := (Box.new w4 #[.int .u8 5, .int .i64 1000, .int .i64 486] 32).past hb
  obtain ⟨la1, lb1, lc1, r1⟩ := B1.rules
  obtain ⟨la2, lb2, lc2, r2⟩ := B2.rules
  obtain ⟨la3, lb3, lc3, r3⟩ := B3.rules
  obtain ⟨la4, lb4, lc4, r4⟩ := B4.rules
  clear hb
  go_wp2_with fail
  refine (outs_same _ _ _ _ w5.heap.size [⟨3, 0, 0, 0⟩, ⟨1, 100, 0, 0⟩] _ ?_ (rd_lit (by repeat (first | exact hhere _ _ _ (by simp) | rw [hget_drew] | rw [hpeel _ _ _ (by simp; try omega)])) rfl rfl (by decide)) (by simp; try omega) (by decide)).mono ?_
  · repeat (first | exact hR1 | refine Rd.alloc ?_ (by simp; try omega) _)
  rintro e w6 ⟨rfl, hb⟩
  replace hB : Below w.heap.size w w6 := ((hB.alloc hB.size _).alloc (by have := hB.size; simp; omega) _).trans (hb.mono (B' := w.heap.size) (by have := hB.size; simp; omega))
  replace hR1 : Rd w6 w6.heap.size 4 A1 _ _ := ((hR1.alloc (Nat.le_refl _) _).more (B' := w5.heap.size + 1) (by simp) |>.alloc (by simp) _ |>.more (by simp)).past hb
  replace hR2 : Rd w6 w6.heap.size 4 A2 _ _ := ((hR2.alloc (Nat.le_refl _) _).more (B' := w5.heap.size + 1) (by simp) |>.alloc (by simp) _ |>.more (by simp)).past hb
  replace hR3 : Rd w6 w6.heap.size 4 A3 _ _ := ((hR3.alloc (Nat.le_refl _) _).more (B' := w5.heap.size + 1) (by simp) |>.alloc (by simp) _ |>.more (by simp)).past hb
  replace hR4 : Rd w6 w6.heap.size 4 A4 _ _ := ((hR4.alloc (Nat.le_refl _) _).more (B' := w5.heap.size + 1) (by simp) |>.alloc (by simp) _ |>.more (by simp)).past hb
  replace hR5 : Rd w6 w6.heap.size 4 A5 _ _ := ((hR5.alloc (Nat.le_refl _) _).more (B' := w5.heap.size + 1) (by simp) |>.alloc (by simp) _ |>.more (by simp)).past hb
  clear la1 lb1 lc1 r1 la2 lb2 lc2 r2 la3 lb3 lc3 r3 la4 lb4 lc4 r4
  replace B1 : Box w6 _ _ := ((B1.alloc _).alloc _).past hb
  replace B2 : Box w6 _ _ := ((B2.alloc _).alloc _).past hb
  replace B3 : Box w6 _ _ := ((B3.alloc _).alloc _).past hb
  replace B4 : Box w6 _ _ := ((B4.alloc _).alloc _).past hb
  have B5 := ((Box.new w5 #[.int .u8 6, .int .i64 0, .int .i64 486] 32).alloc _).past hb
  obtain ⟨la1, lb1, lc1, r1⟩ := B1.rules
  obtain ⟨la2, lb2, lc2, r2⟩ := B2.rules
  obtain ⟨la3, lb3, lc3, r3⟩ := B3.rules
  obtain ⟨la4, lb4, lc4, r4⟩ := B4.rules
  obtain ⟨la5, lb5, lc5, r5⟩ := B5.rules
  clear hb
  go_wp2_with fail
  refine (outs_same _ _ _ _ w6.heap.size [⟨1, 180, 0, 0⟩] _ ?_ (rd_lit (by repeat (first | exact hhere _ _ _ (by simp) | rw [hget_drew] | rw [hpeel _ _ _ (by simp; try omega)])) rfl rfl (by decide)) (by simp; try omega) (by decide)).mono ?_
  · repeat (first | exact hR2 | refine Rd.alloc ?_ (by simp; try omega) _)
  rintro e w7 ⟨rfl, hb⟩
  replace hB : Below w.heap.size w w7 := (hB.alloc hB.size _).trans (hb.mono (B' := w.heap.size) (by have := hB.size; simp; omega))
  replace hR1 : Rd w7 w7.heap.size 4 A1 _ _ := (by first | exact hR1.past hb | exact hR1.thru hb | exact ((hR1.alloc (Nat.le_refl _) _).more (by simp)).thru hb)
  replace hR2 : Rd w7 w7.heap.size 4 A2 _ _ := (by first | exact hR2.past hb | exact hR2.thru hb | exact ((hR2.alloc (Nat.le_refl _) _).more (by simp)).thru hb)
  replace hR3 : Rd w7 w7.heap.size 4 A3 _ _ := (by first | exact hR3.past hb | exact hR3.thru hb | exact ((hR3.alloc (Nat.le_refl _) _).more (by simp)).thru hb)
  replace hR4 : Rd w7 w7.heap.size 4 A4 _ _ := (by first | exact hR4.past hb | exact hR4.thru hb | exact ((hR4.alloc (Nat.le_refl _) _).more (by simp)).thru hb)
  replace hR5 : Rd w7 w7.heap.size 4 A5 _ _ := (by first | exact hR5.past hb | exact hR5.thru hb | exact ((hR5.alloc (Nat.le_refl _) _).more (by simp)).thru hb)
  clear la1 lb1 lc1 r1 la2 lb2 lc2 r2 la3 lb3 lc3 r3 la4 lb4 lc4 r4 la5 lb5 lc5 r5
  replace B1 : Box w7 _ _ := (by first | exact B1.past hb | exact (B1.alloc _).past hb | exact ((B1.alloc _).alloc _).past hb)
  replace B2 : Box w7 _ _ := (by first | exact B2.past hb | exact (B2.alloc _).past hb | exact ((B2.alloc _).alloc _).past hb)
  replace B3 : Box w7 _ _ := (by first | exact B3.past hb | exact (B3.alloc _).past hb | exact ((B3.alloc _).alloc _).past hb)
  replace B4 : Box w7 _ _ := (by first | exact B4.past hb | exact (B4.alloc _).past hb | exact ((B4.alloc _).alloc _).past hb)
  replace B5 : Box w7 _ _ := (by first | exact B5.past hb | exact (B5.alloc _).past hb | exact ((B5.alloc _).alloc _).past hb)
  obtain ⟨la1, lb1, lc1, r1⟩ := B1.rules
  obtain ⟨la2, lb2, lc2, r2⟩ := B2.rules
  obtain ⟨la3, lb3, lc3, r3⟩ := B3.rules
  obtain ⟨la4, lb4, lc4, r4⟩ := B4.rules
  obtain ⟨la5, lb5, lc5, r5⟩ := B5.rules
  clear hb
  go_wp2_with fail
  refine (outs_same _ _ _ _ w7.heap.size [⟨1, 486, 0, 0⟩, ⟨4, 0, 7, 500⟩, ⟨4, 0, 8, 32000⟩] _ ?_ (rd_lit (by repeat (first | exact hhere _ _ _ (by simp) | rw [hget_drew] | rw [hpeel _ _ _ (by simp; try omega)])) rfl rfl (by decide)) (by simp; try omega) (by decide)).mono ?_
  · repeat (first | exact hR3 | refine Rd.alloc ?_ (by simp; try omega) _)
  rintro e w8 ⟨rfl, hb⟩
  replace hB : Below w.heap.size w w8 := (hB.alloc hB.size _).trans (hb.mono (B' := w.heap.size) (by have := hB.size; simp; omega))
  replace hR1 : Rd w8 w8.heap.size 4 A1 _ _ := (by first | exact hR1.past hb | exact hR1.thru hb | exact ((hR1.alloc (Nat.le_refl _) _).more (by simp)).thru hb)
  replace hR2 : Rd w8 w8.heap.size 4 A2 _ _ := (by first | exact hR2.past hb | exact hR2.thru hb | exact ((hR2.alloc (Nat.le_refl _) _).more (by simp)).thru hb)
  replace hR3 : Rd w8 w8.heap.size 4 A3 _ _ := (by first | exact hR3.past hb | exact hR3.thru hb | exact ((hR3.alloc (Nat.le_refl _) _).more (by simp)).thru hb)
  replace hR4 : Rd w8 w8.heap.size 4 A4 _ _ := (by first | exact hR4.past hb | exact hR4.thru hb | exact ((hR4.alloc (Nat.le_refl _) _).more (by simp)).thru hb)
  replace hR5 : Rd w8 w8.heap.size 4 A5 _ _ := (by first | exact hR5.past hb | exact hR5.thru hb | exact ((hR5.alloc (Nat.le_refl _) _).more (by simp)).thru hb)
  clear la1 lb1 lc1 r1 la2 lb2 lc2 r2 la3 lb3 lc3 r3 la4 lb4 lc4 r4 la5 lb5 lc5 r5
  replace B1 : Box w8 _ _ := (by first | exact B1.past hb | exact (B1.alloc _).past hb | exact ((B1.alloc _).alloc _).past hb)
  replace B2 : Box w8 _ _ := (by first | exact B2.past hb | exact (B2.alloc _).past hb | exact ((B2.alloc _).alloc _).past hb)
  replace B3 : Box w8 _ _ := (by first | exact B3.past hb | exact (B3.alloc _).past hb | exact ((B3.alloc _).alloc _).past hb)
  replace B4 : Box w8 _ _ := (by first | exact B4.past hb | exact (B4.alloc _).past hb | exact ((B4.alloc _).alloc _).past hb)
  replace B5 : Box w8 _ _ := (by first | exact B5.past hb | exact (B5.alloc _).past hb | exact ((B5.alloc _).alloc _).past hb)
  obtain ⟨la1, lb1, lc1, r1⟩ := B1.rules
  obtain ⟨la2, lb2, lc2, r2⟩ := B2.rules
  obtain ⟨la3, lb3, lc3, r3⟩ := B3.rules
  obtain ⟨la4, lb4, lc4, r4⟩ := B4.rules
  obtain ⟨la5, lb5, lc5, r5⟩ := B5.rules
  clear hb
  go_wp2_with fail
  refine (outs_same _ _ _ _ w8.heap.size [⟨1, 486, 0, 0⟩, ⟨4, 0, 7, 1000⟩] _ ?_ (rd_lit (by repeat (first | exact hhere _ _ _ (by simp) | rw [hget_drew] | rw [hpeel _ _ _ (by simp; try omega)])) rfl rfl (by decide)) (by simp; try omega) (by decide)).mono ?_
  · repeat (first | exact hR4 | refine Rd.alloc ?_ (by simp; try omega) _)
  rintro e w9 ⟨rfl, hb⟩
  replace hB : Below w.heap.size w w9 := (hB.alloc hB.size _).trans (hb.mono (B' := w.heap.size) (by have := hB.size; simp; omega))
  replace hR1 : Rd w9 w9.heap.size 4 A1 _ _ := (by first | exact hR1.past hb | exact hR1.thru hb | exact ((hR1.alloc (Nat.le_refl _) _).more (by simp)).thru hb)
  replace hR2 : Rd w9 w9.heap.size 4 A2 _ _ := (by first | exact hR2.past hb | exact hR2.thru hb | exact ((hR2.alloc (Nat.le_refl _) _).more (by simp)).thru hb)
  replace hR3 : Rd w9 w9.heap.size 4 A3 _ _ := (by first | exact hR3.past hb | exact hR3.thru hb | exact ((hR3.alloc (Nat.le_refl _) _).more (by simp)).thru hb)
  replace hR4 : Rd w9 w9.heap.size 4 A4 _ _ := (by first | exact hR4.past hb | exact hR4.thru hb | exact ((hR4.alloc (Nat.le_refl _) _).more (by simp)).thru hb)
  replace hR5 : Rd w9 w9.heap.size 4 A5 _ _ := (by first | exact hR5.past hb | exact hR5.thru hb | exact ((hR5.alloc (Nat.le_refl _) _).more (by simp)).thru hb)
  clear la1 lb1 lc1 r1 la2 lb2 lc2 r2 la3 lb3 lc3 r3 la4 lb4 lc4 r4 la5 lb5 lc5 r5
  replace B1 : Box w9 _ _ := (by first | exact B1.past hb | exact (B1.alloc _).past hb | exact ((B1.alloc _).alloc _).past hb)
  replace B2 : Box w9 _ _ := (by first | exact B2.past hb | exact (B2.alloc _).past hb | exact ((B2.alloc _).alloc _).past hb)
  replace B3 : Box w9 _ _ := (by first | exact B3.past hb | exact (B3.alloc _).past hb | exact ((B3.alloc _).alloc _).past hb)
  replace B4 : Box w9 _ _ := (by first | exact B4.past hb | exact (B4.alloc _).past hb | exact ((B4.alloc _).alloc _).past hb)
  replace B5 : Box w9 _ _ := (by first | exact B5.past hb | exact (B5.alloc _).past hb | exact ((B5.alloc _).alloc _).past hb)
  obtain ⟨la1, lb1, lc1, r1⟩ := B1.rules
  obtain ⟨la2, lb2, lc2, r2⟩ := B2.rules
  obtain ⟨la3, lb3, lc3, r3⟩ := B3.rules
  obtain ⟨la4, lb4, lc4, r4⟩ := B4.rules
  obtain ⟨la5, lb5, lc5, r5⟩ := B5.rules
  clear hb
  go_wp2_with fail
  refine (outs_same _ _ _ _ w9.heap.size [⟨4, 0, 9, 5000⟩] _ ?_ (rd_lit (by repeat (first | exact hhere _ _ _ (by simp) | rw [hget_drew] | rw [hpeel _ _ _ (by simp; try omega)])) rfl rfl (by decide)) (by simp; try omega) (by decide)).mono ?_
  · repeat (first | exact hR5 | refine Rd.alloc ?_ (by simp; try omega) _)
  rintro e w10 ⟨rfl, hb⟩
  replace hB : Below w.heap.size w w10 := (hB.alloc hB.size _).trans (hb.mono (B' := w.heap.size) (by have := hB.size; simp; omega))
  replace hR1 : Rd w10 w10.heap.size 4 A1 _ _ := (by first | exact hR1.past hb | exact hR1.thru hb | exact ((hR1.alloc (Nat.le_refl _) _).more (by simp)).thru hb)
  replace hR2 : Rd w10 w10.heap.size 4 A2 _ _ := (by first | exact hR2.past hb | exact hR2.thru hb | exact ((hR2.alloc (Nat.le_refl _) _).more (by simp)).thru hb)
  replace hR3 : Rd w10 w10.heap.size 4 A3 _ _ := (by first | exact hR3.past hb | exact hR3.thru hb | exact ((hR3.alloc (Nat.le_refl _) _).more (by simp)).thru hb)
  replace hR4 : Rd w10 w10.heap.size 4 A4 _ _ := (by first | exact hR4.past hb | exact hR4.thru hb | exact ((hR4.alloc (Nat.le_refl _) _).more (by simp)).thru hb)
  replace hR5 : Rd w10 w10.heap.size 4 A5 _ _ := (by first | exact hR5.past hb | exact hR5.thru hb | exact ((hR5.alloc (Nat.le_refl _) _).more (by simp)).thru hb)
  clear la1 lb1 lc1 r1 la2 lb2 lc2 r2 la3 lb3 lc3 r3 la4 lb4 lc4 r4 la5 lb5 lc5 r5
  replace B1 : Box w10 _ _ := (by first | exact B1.past hb | exact (B1.alloc _).past hb | exact ((B1.alloc _).alloc _).past hb)
  replace B2 : Box w10 _ _ := (by first | exact B2.past hb | exact (B2.alloc _).past hb | exact ((B2.alloc _).alloc _).past hb)
  replace B3 : Box w10 _ _ := (by first | exact B3.past hb | exact (B3.alloc _).past hb | exact ((B3.alloc _).alloc _).past hb)
  replace B4 : Box w10 _ _ := (by first | exact B4.past hb | exact (B4.alloc _).past hb | exact ((B4.alloc _).alloc _).past hb)
  replace B5 : Box w10 _ _ := (by first | exact B5.past hb | exact (B5.alloc _).past hb | exact ((B5.alloc _).alloc _).past hb)
  obtain ⟨la1, lb1, lc1, r1⟩ := B1.rules
  obtain ⟨la2, lb2, lc2, r2⟩ := B2.rules
  obtain ⟨la3, lb3, lc3, r3⟩ := B3.rules
  obtain ⟨la4, lb4, lc4, r4⟩ := B4.rules
  obtain ⟨la5, lb5, lc5, r5⟩ := B5.rules
  clear hb
  go_wp2_with fail
  go_ret
  exact ⟨rfl, hB⟩
end Go.Proofs.Ytdllehgiambkcaa.Sv
