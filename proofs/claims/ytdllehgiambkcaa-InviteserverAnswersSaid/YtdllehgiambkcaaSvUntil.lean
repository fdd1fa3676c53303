/- The walk of (*sim).until. -/
import Derived.Test.YtdllehgiambkcaaSvBegin
namespace Go.Proofs.Ytdllehgiambkcaa.Sv
open Go.RowKit

theorem pickTo_succ (due : List Int) (t : Int) (n : Nat) : pickTo due t (n + 1) = pickStep due t (pickTo due t n) n := by
  unfold pickTo; rw [List.range_succ, List.foldl_append]; rfl
theorem pickTo_bound (due : List Int) (t : Int) : ∀ n, -1 ≤ pickTo due t n ∧ pickTo due t n < n ∧ (0 ≤ pickTo due t n → 0 ≤ due.getD (pickTo due t n).toNat 0 ∧ due.getD (pickTo due t n).toNat 0 ≤ t)
  | 0 => by simp [pickTo]
  | n + 1 => by
    have ih := pickTo_bound due t n
    rw [pickTo_succ]
    unfold pickStep
    split
    · rename_i h
      refine ⟨by omega, by omega, fun _ => ?_⟩
      simpa using ⟨h.1, h.2.1⟩
    · exact ⟨ih.1, by omega, ih.2.2⟩

theorem SimAt.drewN {w : World} {g base : Nat} {S : Sim} {v : Value} (h : SimAt w g base S v) (n : Nat) : SimAt (w.drewN n) g base S v :=
  ⟨h.lt, h.hbase, h.c0, h.c1, h.c2, h.len, h.cd, h.c17, h.c18, h.free, h.own, h.vne⟩
theorem until_fin {w : World} {g base : Nat} {S T : Sim} {v : Value} {t x : Int} (h : SimAt w g base T v) (hT : untilGo 200 S t = T) (hx : x = max T.now t) : SimAt (w.setCell ⟨g, 17, none⟩ (.int .i64 x)) g base (untilT S t) v := by
  unfold untilT
  rw [hT, hx]
  exact h.set_now _

set_option maxRecDepth 10000 in
set_option maxHeartbeats 8000000 in
theorem until_any (g base : Nat) (S : Sim) (v : Value) (w : World) (h : SimAt w g base S v) (t : Int) (hlog : S.log.length ≤ 900000) (hnow : 0 ≤ S.now ∧ S.now ≤ 1000000000) (ht : t ≤ 1000000000) :
    Calls Try.prog 20 #[.pointer (some ⟨g, 0, none⟩), .int .i64 t] w fun e w' => e = .returned (.tuple #[]) ∧ Below base w w' ∧ ∃ v', SimAt w' g base (untilT S t) v' := by
  go_enter Try.func20, Try.ntmps20
  go_wp2_with fail
  go_loopw [4] (fun i wr => ∃ (k : Nat) (T : Sim) (v' : Value), k ≤ 200 ∧ i = .int .i64 k ∧ untilGo (200 - k) T t = untilGo 200 S t ∧ T.log.length ≤ S.log.length + 3 * k ∧ 0 ≤ T.now ∧ T.now ≤ 1000000000 ∧ SimAt wr g base T v' ∧ Below base w wr) (fun i _ => 200 - (intOf i).toNat)
  case atStart => exact ⟨0, S, v, by omega, rfl, rfl, by omega, hnow.1, hnow.2, h, Below.refl _ _⟩
  case round =>
    obtain ⟨k, T, v', hk, rfl, hgo, hlen, hn0, hn1, hS, hB⟩ := hrel
    by_cases hlt : k < 200
    · have hdk : decide ((k : Int) < 200) = true := by simp; omega
      obtain ⟨wo, rfl⟩ : ∃ wo : World, wo = wr := ⟨_, rfl⟩
      go_wp2_with fail
      go_loopw [5, 6] (fun f i wr => ∃ (j : Nat), j ≤ 14 ∧ i = .int .i64 j ∧ f = .int .i64 (pickTo T.due t j) ∧ SimAt wr g base T v' ∧ Below base w wr) (fun _ i _ => 14 - (intOf i).toNat)
      case atStart => exact ⟨0, by omega, rfl, rfl, hS, hB⟩
      case round =>
        obtain ⟨j, hj, rfl, rfl, hS1, hB1⟩ := hrel
        clear hS hB
        obtain ⟨y1, y2, -, -, -, y3, y4, y5, y6, y7, y8, y9⟩ := id hS1
        obtain ⟨p1, p2, p3⟩ := pickTo_bound T.due t j
        have hps := pickTo_succ T.due t j
        unfold pickStep at hps
        obtain ⟨f, hf⟩ : ∃ f, pickTo T.due t j = f := ⟨_, rfl⟩
        rw [hf] at p1 p2 p3 hps
        simp only [hf]
        by_cases hj14 : j < 14
        · have hz := y4 j hj14
          have i1 : (0 : Int) ≤ (j : Int) := by omega
          have i2 : (j : Int) < 14 := by omega
          by_cases f0 : f < 0
          · have d3 : decide (f < 0) = true := by simp [f0]
            obtain ⟨x, hx⟩ : ∃ x, T.due.getD j 0 = x := ⟨_, rfl⟩
            rw [hx] at hz
            have hxy : pickTo T.due t (j + 1) = if 0 ≤ x ∧ x ≤ t ∧ (f < 0 ∨ x < T.due.getD f.toNat 0) then (j : Int) else f := by rw [hps]; simp only [hx]
            clear hx p3 y4 hps
            have hps := hxy
            clear hxy
            by_cases a1 : 0 ≤ x
            · have d1 : decide (0 ≤ x) = true := by simp [a1]
              by_cases a2 : x ≤ t
              · have d2 : decide (x ≤ t) = true := by simp [a2]
                rw [if_pos ⟨a1, a2, Or.inl f0⟩] at hps
                go_wp2_with fail
                go_quiet (fail)
                go_wp2_with fail
                go_roundw
                case rel => exact ⟨j + 1, by omega, by simp, by rw [hps], hS1.drewN _, below_drewN' hB1 _⟩
                case measure => simp [intOf]; omega
              · have d2 : decide (x ≤ t) = false := by simp; omega
                rw [if_neg (fun e => a2 e.2.1)] at hps
                go_wp2_with fail
                go_quiet (fail)
                go_wp2_with fail
                go_roundw
                case rel => exact ⟨j + 1, by omega, by simp, by rw [hps], hS1.drewN _, below_drewN' hB1 _⟩
                case measure => simp [intOf]; omega
            · have d1 : decide (0 ≤ x) = false := by simp; omega
              rw [if_neg (fun e => a1 e.1)] at hps
              go_wp2_with fail
              go_quiet (fail)
              go_wp2_with fail
              go_roundw
              case rel => exact ⟨j + 1, by omega, by simp, by rw [hps], hS1.drewN _, below_drewN' hB1 _⟩
              case measure => simp [intOf]; omega
          · have d3 : decide (f < 0) = false := by simp; omega
            obtain ⟨fn, rfl⟩ : ∃ fn : Nat, f = fn := ⟨f.toNat, by omega⟩
            have hf14 : fn < 14 := by omega
            have i3 : (0 : Int) ≤ (fn : Int) := by omega
            have i4 : (fn : Int) < 14 := by omega
            have hzf := y4 fn hf14
            obtain ⟨x, hx⟩ : ∃ x, T.due.getD j 0 = x := ⟨_, rfl⟩
            obtain ⟨y, hy⟩ : ∃ y, T.due.getD fn 0 = y := ⟨_, rfl⟩
            rw [hx] at hz
            rw [hy] at hzf
            have hxy : pickTo T.due t (j + 1) = if 0 ≤ x ∧ x ≤ t ∧ ((fn : Int) < 0 ∨ x < y) then (j : Int) else fn := by rw [hps]; simp only [Int.toNat_natCast, hx, hy]
            clear hx hy p3 hps
            have hps := hxy
            clear hxy
            clear y4
            by_cases a1 : 0 ≤ x
            · have d1 : decide (0 ≤ x) = true := by simp [a1]
              by_cases a2 : x ≤ t
              · have d2 : decide (x ≤ t) = true := by simp [a2]
                by_cases a3 : x < y
                · have d4 : decide (x < y) = true := by simp [a3]
                  rw [if_pos ⟨a1, a2, Or.inr a3⟩] at hps
                  go_wp2_with fail
                  go_quiet (fail)
                  go_wp2_with fail
                  go_roundw
                  case rel => exact ⟨j + 1, by omega, by simp, by rw [hps], hS1.drewN _, below_drewN' hB1 _⟩
                  case measure => simp [intOf]; omega
                · have d4 : decide (x < y) = false := by simp; omega
                  rw [if_neg (fun e => e.2.2.elim (fun q => f0 q) (fun q => a3 q))] at hps
                  go_wp2_with fail
                  go_quiet (fail)
                  go_wp2_with fail
                  go_roundw
                  case rel => exact ⟨j + 1, by omega, by simp, by rw [hps], hS1.drewN _, below_drewN' hB1 _⟩
                  case measure => simp [intOf]; omega
              · have d2 : decide (x ≤ t) = false := by simp; omega
                rw [if_neg (fun e => a2 e.2.1)] at hps
                go_wp2_with fail
                go_quiet (fail)
                go_wp2_with fail
                go_roundw
                case rel => exact ⟨j + 1, by omega, by simp, by rw [hps], hS1.drewN _, below_drewN' hB1 _⟩
                case measure => simp [intOf]; omega
            · have d1 : decide (0 ≤ x) = false := by simp; omega
              rw [if_neg (fun e => a1 e.1)] at hps
              go_wp2_with fail
              go_quiet (fail)
              go_wp2_with fail
              go_roundw
              case rel => exact ⟨j + 1, by omega, by simp, by rw [hps], hS1.drewN _, below_drewN' hB1 _⟩
              case measure => simp [intOf]; omega
        · have hj' : j = 14 := by omega
          subst hj'
          clear hps
          by_cases f0 : f < 0
          · have hT : untilGo 200 S t = T := by
              rw [← hgo, show 200 - k = (199 - k) + 1 by omega]
              unfold untilGo
              rw [if_pos (by rw [hf]; exact f0)]
            by_cases hm : T.now < t
            · go_wp2_with fail
              refine ⟨rfl, .tuple #[], ?_, rfl, hB1.setCell (p := ⟨g, 17, none⟩) y2 _, v', until_fin hS1 hT (by omega)⟩
              simp only [results]; go_simp
            · go_wp2_with fail
              refine ⟨rfl, .tuple #[], ?_, rfl, hB1.setCell (p := ⟨g, 17, none⟩) y2 _, v', until_fin hS1 hT (by omega)⟩
              simp only [results]; go_simp
          · obtain ⟨fn, rfl⟩ : ∃ fn : Nat, f = fn := ⟨f.toNat, by omega⟩
            have hf14 : fn < 14 := by omega
            have i3 : (0 : Int) ≤ (fn : Int) := by omega
            have i4 : (fn : Int) < 14 := by omega
            have hzf := y4 fn hf14
            have hff := y7 (3 + fn)
            have q1 := p3 i3
            rw [Int.toNat_natCast] at q1
            have HG : Hid (untilGo (200 - (k + 1)) (fire T fn) t = untilGo 200 S t) := by
              refine hide ?_
              rw [← hgo, show 200 - k = (200 - (k + 1)) + 1 by omega]
              rw [show untilGo (200 - (k + 1) + 1) T t = if pickTo T.due t 14 < 0 then T else untilGo (200 - (k + 1)) (fire T (pickTo T.due t 14).toNat) t from rfl, hf, if_neg f0, Int.toNat_natCast]
            obtain ⟨y, hy⟩ : ∃ y, T.due.getD fn 0 = y := ⟨_, rfl⟩
            have hfire : Hid (fire T fn = give { T with now := y, due := T.due.set fn (-1) } 5 0 fn) := hide (by unfold fire; rw [hy])
            have s1 := (hS1.set_now y).set_due fn hf14 (-1)
            rw [hy] at hzf q1
            clear p3 y4 hgo hy hf
            go_wp2_with fail
            refine (give_any g base _ v' _ s1 5 0 fn (by show T.log.length ≤ _; omega) (by show 0 ≤ y ∧ y ≤ _; omega)).mono ?_; rintro e w2 ⟨rfl, hb2, v2, hS2⟩
            go_wp2_with fail
            go_roundw
            case rel =>
              have hlen2 : (fire T fn).log.length ≤ T.log.length + 3 := by
                rw [hfire.out]
                unfold give take
                rw [takeAll_log]
                have := (step_ok T.m 5 0 fn).1
                simp only
                omega
              have hnow2 : (fire T fn).now = y := by
                rw [hfire.out]
                unfold give take
                rw [takeAll_now]
              rw [← hfire.out] at hS2
              exact ⟨k + 1, fire T fn, v2, by omega, by simp, HG.out, by omega, by omega, by omega, hS2, ((hB1.setCell (p := ⟨g, 17, none⟩) y2 _).setCell (p := ⟨g, 3 + fn, none⟩) y2 _).trans hb2⟩
            case measure => simp [intOf]; omega
    · have hk' : k = 200 := by omega
      subst hk'
      obtain ⟨y1, y2, -, -, -, y3, y4, y5, y6, y7, y8, y9⟩ := id hS
      have hgo' := hide (hgo : T = untilGo 200 S t)
      clear hgo
      by_cases hm : T.now < t
      · go_wp2_with fail
        refine ⟨rfl, .tuple #[], ?_, rfl, hB.setCell (p := ⟨g, 17, none⟩) y2 _, v', until_fin hS hgo'.out.symm (by omega)⟩
        simp only [results]; go_simp
      · go_wp2_with fail
        refine ⟨rfl, .tuple #[], ?_, rfl, hB.setCell (p := ⟨g, 17, none⟩) y2 _, v', until_fin hS hgo'.out.symm (by omega)⟩
        simp only [results]; go_simp
end Go.Proofs.Ytdllehgiambkcaa.Sv
