/- dialtonelaw14.inputs and InviteserverTable. -/
import Derived.Test.YtdllehgiambkcaaSvWorks
namespace Go.Proofs.Ytdllehgiambkcaa.Sv
open Go.RowKit

set_option maxHeartbeats 4000000 in
theorem inputs_any (a b c : Int) (A : Option Addr) (cap : Nat) (zs : List Int) (w : World) (hA : Rd w w.heap.size 1 A zs.length (zs.map (Value.int .i64))) (hn : zs.length ≤ 1000) :
    Calls Try.prog 17 #[.agg #[.int .u8 a, .int .i64 b, .int .i64 c], .slice A zs.length cap] w fun e w' => e = .returned (.bool true) ∧ Below w.heap.size w w' := by
  have hA1 : Rd (w.alloc (.cells #[.int .u8 a, .int .i64 b, .int .i64 c] 32)) w.heap.size 1 A zs.length (zs.map (Value.int .i64)) := hA.alloc (Nat.le_refl _) _
  have hBx := Box.new w #[.int .u8 a, .int .i64 b, .int .i64 c] 32
  go_enter Try.func17, Try.ntmps17
  go_wp2_with fail
  go_loopw [5] (fun i wr => ∃ k : Nat, k ≤ 8 ∧ i = .int .i64 k ∧ Box wr w.heap.size #[.int .u8 a, .int .i64 b, .int .i64 c] ∧ Rd wr w.heap.size 1 A zs.length (zs.map (Value.int .i64)) ∧ Below w.heap.size w wr) (fun i _ => 8 - (intOf i).toNat)
  case atStart => exact ⟨0, by omega, rfl, hBx, hA1, (Below.refl _ _).alloc (Nat.le_refl _) _⟩
  case round =>
    obtain ⟨k, hk, rfl, hB, hR, hb⟩ := hrel
    by_cases hlt : k < 8
    · have hd8 : decide ((k : Int) < 8) = true := decide_eq_true (by omega)
      go_wp2_with fail
      obtain ⟨wo, rfl⟩ : ∃ wo : World, wo = wr := ⟨_, rfl⟩
      go_loopw [6] (fun i wr => ∃ j : Nat, j ≤ zs.length ∧ i = .int .i64 j ∧ Box wr w.heap.size #[.int .u8 a, .int .i64 b, .int .i64 c] ∧ Rd wr w.heap.size 1 A zs.length (zs.map (Value.int .i64)) ∧ Below w.heap.size w wr) (fun i _ => zs.length - (intOf i).toNat)
      case atStart => exact ⟨0, by omega, rfl, hB, hR, hb⟩
      case round =>
        obtain ⟨j, hj, rfl, hB', hR', hb'⟩ := hrel
        by_cases hjt : j < zs.length
        · obtain ⟨bb, oo, rfl, hlb, hc⟩ := hR'.int hjt
          have r := hB'.cell
          have hbw := hb'.size
          go_wp2_with fail
          go_region_held3 (fun w' => w'.cell? ⟨w.heap.size, 0, none⟩ = some (.int .u8 a) ∧ w'.cell? ⟨w.heap.size, 1, none⟩ = some (.int .i64 b) ∧ w'.cell? ⟨w.heap.size, 2, none⟩ = some (.int .i64 c) ∧ w'.cell? ⟨bb, oo + j, none⟩ = some (.int .i64 zs[j])) (go_simp)
            (first | (go_at_call 36; refine (lstep_any _ _ _ _ _ _ _).mono ?_; rintro e w3 ⟨rfl, hb3⟩; have k0 := bat hb3 (b := w.heap.size) hB'.lt; have k1 := bat hb3 (b := bb) (Nat.lt_of_lt_of_le hlb hbw)))
          go_wp2_with fail
          go_roundw
          case rel => exact ⟨j + 1, by omega, by go_num, hB'.drew.past hb3, hR'.drew.below (hb3.mono hbw), hb'.drew.trans (hb3.mono hbw)⟩
          case measure => simp [intOf]; omega
        · go_wp2_with fail
          go_roundw
          case rel => exact ⟨k + 1, by omega, by go_num, hB', hR', hb'⟩
          case measure => simp [intOf]; omega
    · go_wp2_with fail
      go_loopw [7] (fun i wr => ∃ k : Nat, k ≤ 15 ∧ i = .int .i64 k ∧ Box wr w.heap.size #[.int .u8 a, .int .i64 b, .int .i64 c] ∧ Below w.heap.size w wr) (fun i _ => 15 - (intOf i).toNat)
      case atStart => exact ⟨0, by omega, rfl, hB, hb⟩
      case round =>
        obtain ⟨j, hj, rfl, hB', hb'⟩ := hrel
        by_cases hjt : j < 15
        · have r := hB'.cell
          have hbw := hb'.size
          go_wp2_with (go_at_call 36; refine (lstep_any _ _ _ _ _ _ _).mono ?_; rintro e w3 ⟨rfl, hb3⟩)
          go_roundw
          case rel => exact ⟨j + 1, by omega, by go_num, hB'.past hb3, hb'.trans (hb3.mono hbw)⟩
          case measure => simp [intOf]; omega
        · go_wp2_with fail
          go_ret
          exact ⟨rfl, hb'⟩

def codesL : List Int := [-1, 0, 1, 99, 100, 101, 180, 199, 200, 201, 299, 300, 302, 486, 699, 700]
def waitsL : List Int := [0, 1, 500, 1000, 2000, 4000, 8000, 16000, 32000, 64000]

set_option maxHeartbeats 4000000 in
theorem table_any (w : World) : Calls Try.prog 4 #[] w fun e w' => e = .returned (.bool true) ∧ Below w.heap.size w w' := by
  have lc : codesL.length = 16 := rfl
  have lw : waitsL.length = 10 := rfl
  go_enter Try.func4, Try.ntmps4
  go_wp2_with fail
  obtain ⟨W, hW⟩ : ∃ W, W = (w.alloc (.cells (codesL.map (Value.int .i64)).toArray 3)).alloc (.cells (waitsL.map (Value.int .i64)).toArray 3) := ⟨_, rfl⟩
  have hR1 : Rd W W.heap.size 1 (some ⟨w.heap.size, 0, none⟩) codesL.length (codesL.map (Value.int .i64)) := by
    subst hW; exact Rd.of_own (base := 0) (c := 16) (e := 3) (own_lit (cs := (codesL.map (Value.int .i64)).toArray) (by rw [hpeel _ _ _ (by simp), hhere _ _ _ rfl]) (Nat.zero_le _) rfl (by decide))
  have hR2 : Rd W W.heap.size 1 (some ⟨w.heap.size + 1, 0, none⟩) waitsL.length (waitsL.map (Value.int .i64)) := by
    subst hW; exact Rd.of_own (base := 0) (c := 10) (e := 3) (own_lit (cs := (waitsL.map (Value.int .i64)).toArray) (by rw [hhere _ _ _ (by simp)]) (Nat.zero_le _) rfl (by decide))
  have hb0 : Below w.heap.size w W := by subst hW; exact ((Below.refl _ _).alloc (Nat.le_refl _) _).alloc (by simp) _
  rw [show (w.alloc (.cells #[.int .i64 (-1), .int .i64 0, .int .i64 1, .int .i64 99, .int .i64 100, .int .i64 101, .int .i64 180, .int .i64 199, .int .i64 200, .int .i64 201, .int .i64 299, .int .i64 300, .int .i64 302, .int .i64 486, .int .i64 699, .int .i64 700] 3)).alloc (.cells #[.int .i64 0, .int .i64 1, .int .i64 500, .int .i64 1000, .int .i64 2000, .int .i64 4000, .int .i64 8000, .int .i64 16000, .int .i64 32000, .int .i64 64000] 3) = W from hW.symm]
  have hs : w.heap.size + 2 = W.heap.size := by rw [hW]; simp
  have HS := hide hs
  clear hW hs
  go_loopw [3] (fun i wr => ∃ k : Nat, k ≤ 9 ∧ i = .int .i64 k ∧ Rd wr W.heap.size 1 (some ⟨w.heap.size, 0, none⟩) codesL.length (codesL.map (Value.int .i64)) ∧ Rd wr W.heap.size 1 (some ⟨w.heap.size + 1, 0, none⟩) waitsL.length (waitsL.map (Value.int .i64)) ∧ Below w.heap.size w wr ∧ W.heap.size ≤ wr.heap.size) (fun i _ => 9 - (intOf i).toNat)
  case atStart => exact ⟨0, by omega, rfl, hR1, hR2, hb0, Nat.le_refl _⟩
  case round =>
    obtain ⟨k, hk, rfl, r1, r2, hb, hsz⟩ := hrel
    by_cases hlt : k < 9
    · have hd1 : decide ((k : Int) < 9) = true := decide_eq_true (by omega)
      go_wp2_with fail
      obtain ⟨wo, rfl⟩ : ∃ wo : World, wo = wr := ⟨_, rfl⟩
      go_loopw [4] (fun i wr => ∃ k : Nat, k ≤ 10 ∧ i = .int .i64 k ∧ Rd wr W.heap.size 1 (some ⟨w.heap.size, 0, none⟩) codesL.length (codesL.map (Value.int .i64)) ∧ Rd wr W.heap.size 1 (some ⟨w.heap.size + 1, 0, none⟩) waitsL.length (waitsL.map (Value.int .i64)) ∧ Below w.heap.size w wr ∧ W.heap.size ≤ wr.heap.size) (fun i _ => 10 - (intOf i).toNat)
      case atStart => exact ⟨0, by omega, rfl, r1, r2, hb, hsz⟩
      case round =>
        obtain ⟨j, hj, rfl, r1, r2, hb, hsz⟩ := hrel
        by_cases hjt : j < 10
        · have hd2 : decide ((j : Int) < 10) = true := decide_eq_true (by omega)
          go_wp2_with fail
          obtain ⟨wo', rfl⟩ : ∃ wo : World, wo = wr := ⟨_, rfl⟩
          go_loopw [5] (fun i wr => ∃ k : Nat, k ≤ 16 ∧ i = .int .i64 k ∧ Rd wr W.heap.size 1 (some ⟨w.heap.size, 0, none⟩) codesL.length (codesL.map (Value.int .i64)) ∧ Rd wr W.heap.size 1 (some ⟨w.heap.size + 1, 0, none⟩) waitsL.length (waitsL.map (Value.int .i64)) ∧ Below w.heap.size w wr ∧ W.heap.size ≤ wr.heap.size) (fun i _ => 16 - (intOf i).toNat)
          case atStart => exact ⟨0, by omega, rfl, r1, r2, hb, hsz⟩
          case round =>
            obtain ⟨i, hi, rfl, r1, r2, hb, hsz⟩ := hrel
            by_cases hit : i < 16
            · have i0 : (0 : Int) ≤ (i : Int) := by omega
              have i1 : (i : Int) < 16 := by omega
              have j0 : (0 : Int) ≤ (j : Int) := by omega
              have j1 : (j : Int) < 10 := by omega
              obtain ⟨b1, o1, e1, hl1, c1⟩ := r1.int (k := i) (by omega)
              obtain ⟨b2, o2, e2, hl2, c2⟩ := r2.int (k := j) (by omega)
              simp only [Option.some.injEq, Addr.mk.injEq, and_true] at e1 e2
              obtain ⟨rfl, rfl⟩ := e1
              obtain ⟨rfl, rfl⟩ := e2
              simp only [Nat.zero_add] at c1 c2
              generalize codesL[i] = z1 at c1
              generalize waitsL[j] = z2 at c2
              go_wp2_with fail
              go_region_held3 (fun w' => w'.cell? ⟨w.heap.size, i, none⟩ = some (.int .i64 z1) ∧ w'.cell? ⟨w.heap.size + 1, j, none⟩ = some (.int .i64 z2)) (go_simp)
                (first | (go_at_call 17; refine (inputs_any _ _ _ _ _ codesL _ ((r1.drew).more hsz) (by decide)).mono ?_; rintro e w3 ⟨rfl, hb3⟩; have k1 := bat hb3 (b := w.heap.size) (Nat.lt_of_lt_of_le hl1 hsz); have k2 := bat hb3 (b := w.heap.size + 1) (Nat.lt_of_lt_of_le hl2 hsz)))
              go_wp2_with fail
              go_roundw
              case rel => exact ⟨i + 1, by omega, by go_num, r1.drew.below (hb3.mono hsz), r2.drew.below (hb3.mono hsz), hb.drew.trans (hb3.mono hb.size), Nat.le_trans hsz hb3.size⟩
              case measure => simp [intOf]; omega
            · go_wp2_with fail
              go_roundw
              case rel => exact ⟨j + 1, by omega, by go_num, r1, r2, hb, hsz⟩
              case measure => simp [intOf]; omega
        · go_wp2_with fail
          go_roundw
          case rel => exact ⟨k + 1, by omega, by go_num, r1, r2, hb, hsz⟩
          case measure => simp [intOf]; omega
    · go_wp2_with (go_at_call 18; refine (works_any _).mono ?_; rintro e w3 ⟨rfl, hb3⟩)
      go_ret
      exact ⟨rfl, hb.trans (hb3.mono hb.size)⟩
end Go.Proofs.Ytdllehgiambkcaa.Sv
