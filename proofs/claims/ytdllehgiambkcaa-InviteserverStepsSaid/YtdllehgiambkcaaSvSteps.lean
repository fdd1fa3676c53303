/- The walk of InviteserverSteps. -/
import Derived.Test.YtdllehgiambkcaaSvWorks
namespace Go.Proofs.Ytdllehgiambkcaa.Sv
open Go.RowKit

theorem same_same (A B : Option Addr) (c d H : Nat) (l : List O) (w : World) (hA : Rd w H 4 A l.length (l.flatMap O.cs)) (hB : Rd w w.heap.size 4 B l.length (l.flatMap O.cs)) (hH : H ≤ w.heap.size) (hn : l.length ≤ 1000) :
    Calls Try.prog 35 #[.slice A l.length c, .slice B l.length d] w fun e w' => e = .returned (.bool true) ∧ Below w.heap.size w w' :=
  (same_any A B c d w.heap.size l l w (hA.more hH) hB (by omega)).mono fun e w' ⟨he, k, hw⟩ => ⟨by rw [he]; simp, by rw [hw]; exact below_drewN' (Below.refl _ _) k⟩

theorem copies_b (u : Int) (w : World) : Calls Try.prog 37 #[.int .i64 u] w fun e w' => e = .returned (.int .i64 (copies u)) ∧ w = w' := (copies_any u w).mono fun _ _ ⟨h, k⟩ => ⟨h, k.symm⟩
theorem rcopies_b (u : Int) (w : World) : Calls Try.prog 38 #[.int .i64 u] w fun e w' => e = .returned (.int .i64 (copies u)) ∧ Below w.heap.size w w' := (rcopies_any u w).mono fun _ _ ⟨h, cs, k⟩ => ⟨h, by rw [k]; exact (Below.refl _ _).alloc (Nat.le_refl _) _⟩

theorem w14_r0 (w : World) : Calls Try.prog 34 #[] w (Outs ⟨3, 0, 100⟩ [⟨3, 0, 0, 0⟩, ⟨1, 100, 0, 0⟩] w.heap.size w) := rstart_any w

set_option maxHeartbeats 4000000 in
theorem steps_any (a b c k n t u : Int) (w : World) :
    Calls Try.prog 10 #[.agg #[.int .u8 a, .int .i64 b, .int .i64 c], .agg #[.int .u8 k, .int .i64 n, .int .u8 t], .int .i64 u] w fun e w' => e = .returned (.bool true) ∧ Below w.heap.size w w' := by
  have hne := fun a b c W => neqM_same a b c W
  go_enter Try.func10, Try.ntmps10
  go_wp2_with fail
  refine (w14_0 _).mono ?_; rintro e w1 ⟨v1, rfl, ho1, hb⟩
  obtain ⟨A1, c1, rfl, _, hR1⟩ := own_slice ho1; clear ho1
  have hB : Below w.heap.size w w1 := (((Below.refl _ _).alloc (Nat.le_refl _) _).alloc (by simp) _).trans (hb.mono (by simp; omega))
  have Bm := ((Box.new w #[.int .u8 a, .int .i64 b, .int .i64 c] 32).alloc (.cells #[.int .u8 k, .int .i64 n, .int .u8 t] 49)).past hb
  have Bi := (Box.new (w.alloc (.cells #[.int .u8 a, .int .i64 b, .int .i64 c] 32)) #[.int .u8 k, .int .i64 n, .int .u8 t] 49).past hb
  rw [show (w.alloc (.cells #[.int .u8 a, .int .i64 b, .int .i64 c] 32)).heap.size = w.heap.size + 1 by simp] at Bi
  clear hb
  go_wp2_with fail
  refine (w14_r0 _).mono ?_; rintro e w2 ⟨v2, rfl, ho2, hb⟩
  obtain ⟨A2, c2, rfl, _, hR2⟩ := own_slice ho2; clear ho2
  replace hB : Below w.heap.size w w2 := (hB.alloc hB.size _).trans (hb.mono (B' := w.heap.size) (by have := hB.size; simp; omega))
  replace hR1 := hR1.thru hb
  have Bs := (Box.new w1 #[.int .u8 3, .int .i64 0, .int .i64 100] 32).past hb
  replace Bm := (Bm.alloc (.cells #[.int .u8 3, .int .i64 0, .int .i64 100] 32)).past hb
  replace Bi := (Bi.alloc (.cells #[.int .u8 3, .int .i64 0, .int .i64 100] 32)).past hb
  clear hb
  obtain ⟨l1, l2, l3, r⟩ := Bs.rules
  go_wp2_with fail
  refine (same_same _ _ _ _ w2.heap.size [⟨3, 0, 0, 0⟩, ⟨1, 100, 0, 0⟩] _ (hR1.alloc (Nat.le_refl _) _) ((hR2.alloc (Nat.le_refl _) _).more (by simp)) (by simp) (by decide)).mono ?_; rintro e w3 ⟨rfl, hb⟩
  replace hB : Below w.heap.size w w3 := (hB.alloc hB.size _).trans (hb.mono (B' := w.heap.size) (by have := hB.size; simp; omega))
  clear l1 l2 l3 r hR1 hR2
  replace Bm := (Bm.alloc (.cells #[.int .u8 3, .int .i64 0, .int .i64 100] 32)).past hb
  replace Bi := (Bi.alloc (.cells #[.int .u8 3, .int .i64 0, .int .i64 100] 32)).past hb
  clear hb
  have r1 := Bm.cell
  have r2 := Bi.cell
  go_wp2_with fail
  refine (lstep_any _ _ _ _ _ _ _).mono ?_; rintro e w4 ⟨rfl, hb⟩
  replace hB : Below w.heap.size w w4 := hB.trans (hb.mono hB.size)
  replace Bm := Bm.past hb
  replace Bi := Bi.past hb
  clear r1 r2 hb
  have r1 := Bm.cell
  have r2 := Bi.cell
  have f2 := Bi.free
  go_wp2_with fail
  refine (lstep_any _ _ _ _ _ _ _).mono ?_; rintro e w5 ⟨rfl, hb⟩
  replace hB : Below w.heap.size w w5 := ((hB.setCell (by simp) _).setCell (by simp) _).trans (hb.mono (B' := w.heap.size) (by have := hB.size; simp [World.setCell]; omega))
  clear r1 r2 hb f2 Bm Bi
  go_wp2_with fail
  refine (copies_b _ _).mono ?_; rintro e w' ⟨rfl, rfl⟩
  go_wp2_with fail
  refine (rcopies_b _ _).mono ?_; rintro e w6 ⟨rfl, hb⟩
  replace hB : Below w.heap.size w w6 := hB.trans (hb.mono hB.size)
  clear hb
  go_wp2_with fail
  refine (copies_b _ _).mono ?_; rintro e w' ⟨rfl, rfl⟩
  go_wp2_with fail
  refine (rcopies_b _ _).mono ?_; rintro e w7 ⟨rfl, hb⟩
  replace hB : Below w.heap.size w w7 := hB.trans (hb.mono hB.size)
  clear hb
  go_wp2_with fail
  refine (works_any _).mono ?_; rintro e w8 ⟨rfl, hb⟩
  replace hB : Below w.heap.size w w8 := hB.trans (hb.mono hB.size)
  clear hb
  go_wp2_with fail
  go_ret
  exact ⟨rfl, hB⟩
end Go.Proofs.Ytdllehgiambkcaa.Sv
