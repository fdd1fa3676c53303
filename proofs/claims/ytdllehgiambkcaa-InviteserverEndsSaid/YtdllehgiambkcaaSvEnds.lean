/- The walk of InviteserverEnds. -/
import Derived.Test.YtdllehgiambkcaaSvEndsLaw
namespace Go.Proofs.Ytdllehgiambkcaa.Sv
open Go.RowKit

set_option maxRecDepth 10000 in
set_option maxHeartbeats 8000000 in
theorem ends_any (A : Option Addr) (cap : Nat) (l : List Ev) (w : World) (hA : Rd w w.heap.size 3 A l.length (l.flatMap Ev.cs)) (hok : ∀ e ∈ l, e.ok) :
    Calls Try.prog 6 #[.slice A l.length cap] w fun e w' => e = .returned (.bool true) ∧ Below w.heap.size w w' := by
  go_enter Try.func6, Try.ntmps6
  go_wp2_with fail
  refine (play_any A cap l w hA hok).mono ?_; rintro e w1 ⟨g, v1, rfl, hb1, hS, hP⟩
  generalize playT (l.take 40) = S at *
  obtain ⟨hD, hst⟩ := ends_facts hP
  have hl2 := until_len S (S.now + 40000)
  have hPn := hP.now
  have hPl := hP.len
  have hPj := hP.j.now
  obtain ⟨y1, y2, -, -, -, y3, y4, y5, y6, y7, y8, y9⟩ := id hS
  go_wp2_with fail
  refine (until_any g _ S v1 _ hS (S.now + 40000) (by omega) (by omega) (by omega)).mono ?_; rintro e w2 ⟨rfl, hb2, v2, hS2⟩
  generalize untilT S (S.now + 40000) = U at *
  clear hS y3 y4 y5 y6 y7 y8 y9 y1 y2
  have hJ := hD.j
  clear hD
  have hU : U.log.length ≤ 1000000 := by omega
  have hcl := closed_any g _ U v2 w2 hS2 hU
  rw [closed_j hJ] at hcl
  obtain ⟨y1, y2, x0, -, -, y3, y4, y5, y6, y7, y8, y9⟩ := id hS2
  have hB2 := hb1.trans hb2
  rcases hst with h3 | h7
  · have c1 := count_any g _ U v2 w2 hS2 1 U.now 200 699 hU
    rw [ends_law3 hJ h3] at c1
    rw [h3] at x0
    clear y4 y8
    go_wp2_with fail
    refine c1.mono ?_; rintro e w' ⟨rfl, rfl⟩
    go_wp2_with fail
    refine hcl.mono ?_; rintro e w' ⟨rfl, nn, rfl⟩
    go_wp2_with fail
    refine (works_any _).mono ?_; rintro e w3 ⟨rfl, hb3⟩
    go_wp2_with fail
    go_ret
    exact ⟨rfl, (below_drewN' hB2 nn).trans (hb3.mono (below_drewN' hB2 nn).size)⟩
  · obtain ⟨hT, hT1⟩ := ends_law hJ h7
    have c1 := count_any g _ U v2 w2 hS2 1 U.now 300 699 hU
    have c2 := count_any g _ U v2 w2 hS2 6 U.now 0 1000 hU
    have c3 := count_any g _ U v2 w2 hS2 5 U.now 0 1000 hU
    generalize cnt U.log 1 U.now 300 699 = R at *
    generalize cnt U.log 6 U.now 0 1000 = F at *
    generalize cnt U.log 5 U.now 0 1000 = T at *
    rw [h7] at x0
    obtain ⟨A2, cp2, rfl, -, hR⟩ := own_slice y8
    clear y4 y8 hP hPn hPl hPj hl2
    go_wp2_with fail
    refine c1.mono ?_; rintro e wo ⟨rfl, rfl⟩
    go_wp2_with fail
    go_loopw [5, 6] (fun c i wr => ∃ (j : Nat), j ≤ U.log.length ∧ i = .int .i64 j ∧ c = .bool (anyI (U.log.take j)) ∧ wr = wo) (fun _ i _ => U.log.length - (intOf i).toNat)
    case atStart => exact ⟨0, by omega, rfl, rfl, rfl⟩
    case round =>
      obtain ⟨j, hj, rfl, rfl, rfl⟩ := hrel
      by_cases hlt : j < U.log.length
      · have d0 : decide ((j : Int) < (U.log.length : Int)) = true := by simp; omega
        obtain ⟨b, o, rfl, hb, k0, k1, k2, k3, k4⟩ := cellsE hR hlt
        have hsn := hide (anyI_snoc U.log j hlt)
        clear c1 c2 c3 hcl
        generalize anyI (U.log.take j) = C at *
        generalize U.log[j].out.kind = ek at *
        generalize U.log[j].out.timer = et at *
        rcases C with _ | _
        · by_cases a1 : ek = 4
          · have d1 : (ek == 4) = true := by simp [a1]
            by_cases a2 : et = 9
            · have d2 : (et == 9) = true := by simp [a2]
              go_wp2_with fail
              go_roundw
              case rel => exact ⟨j + 1, by omega, by simp, by rw [hsn.out]; simp [a1, a2], trivial⟩
              case measure => simp [intOf]; omega
            · have d2 : (et == 9) = false := by simp [a2]
              go_wp2_with fail
              go_roundw
              case rel => exact ⟨j + 1, by omega, by simp, by rw [hsn.out]; simp [a1, a2], trivial⟩
              case measure => simp [intOf]; omega
          · have d1 : (ek == 4) = false := by simp [a1]
            go_wp2_with fail
            go_roundw
            case rel => exact ⟨j + 1, by omega, by simp, by rw [hsn.out]; simp [a1], trivial⟩
            case measure => simp [intOf]; omega
        · go_wp2_with fail
          go_roundw
          case rel => exact ⟨j + 1, by omega, by simp, by rw [hsn.out]; simp, trivial⟩
          case measure => simp [intOf]; omega
      · have hj' : j = U.log.length := by omega
        subst hj'
        have d0 : decide ((U.log.length : Int) < (U.log.length : Int)) = false := by simp
        rw [List.take_length]
        generalize anyI U.log = C at *
        go_wp2_with fail
        refine c2.mono ?_; rintro e wp ⟨rfl, rfl⟩
        go_wp2_with fail
        refine c3.mono ?_; rintro e wq ⟨rfl, rfl⟩
        have g1 : decide ((0 : Int) < (R : Int)) = decide (0 < R) := by simp
        have g2 : decide ((0 : Int) < (F : Int)) = decide (0 < F) := by simp
        have g3 : decide ((T : Int) ≤ 1) = true := by simp; omega
        have h01 : T = 0 ∨ T = 1 := by omega
        by_cases r1 : 0 < R
        · have d1 : decide (0 < R) = true := by simp [r1]
          rcases C with _ | _
          · by_cases f1 : 0 < F
            · have d2 : decide (0 < F) = true := by simp [f1]
              have e0 : T = 0 := h01.resolve_right fun e => (hT.mp e).2.2 f1
              subst e0
              clear hT h01 hT1
              go_wp2_with fail
              refine hcl.mono ?_; rintro e w' ⟨rfl, nn, rfl⟩
              go_wp2_with fail
              refine (works_any _).mono ?_; rintro e w3 ⟨rfl, hb3⟩
              go_wp2_with fail
              go_ret
              exact ⟨rfl, (below_drewN' hB2 nn).trans (hb3.mono (below_drewN' hB2 nn).size)⟩
            · have d2 : decide (0 < F) = false := by simp; omega
              have e0 : T = 1 := hT.mpr ⟨r1, rfl, f1⟩
              subst e0
              clear hT h01 hT1
              go_wp2_with fail
              refine hcl.mono ?_; rintro e w' ⟨rfl, nn, rfl⟩
              go_wp2_with fail
              refine (works_any _).mono ?_; rintro e w3 ⟨rfl, hb3⟩
              go_wp2_with fail
              go_ret
              exact ⟨rfl, (below_drewN' hB2 nn).trans (hb3.mono (below_drewN' hB2 nn).size)⟩
          · have e1 := h01.resolve_right fun e => Bool.noConfusion (hT.mp e).2.1
            by_cases f1 : 0 < F
            · have d2 : decide (0 < F) = true := by simp [f1]
              have e0 : T = 0 := e1
              subst e0
              clear hT h01 hT1
              go_wp2_with fail
              refine hcl.mono ?_; rintro e w' ⟨rfl, nn, rfl⟩
              go_wp2_with fail
              refine (works_any _).mono ?_; rintro e w3 ⟨rfl, hb3⟩
              go_wp2_with fail
              go_ret
              exact ⟨rfl, (below_drewN' hB2 nn).trans (hb3.mono (below_drewN' hB2 nn).size)⟩
            · have d2 : decide (0 < F) = false := by simp; omega
              have e0 : T = 0 := e1
              subst e0
              clear hT h01 hT1
              go_wp2_with fail
              refine hcl.mono ?_; rintro e w' ⟨rfl, nn, rfl⟩
              go_wp2_with fail
              refine (works_any _).mono ?_; rintro e w3 ⟨rfl, hb3⟩
              go_wp2_with fail
              go_ret
              exact ⟨rfl, (below_drewN' hB2 nn).trans (hb3.mono (below_drewN' hB2 nn).size)⟩
        · have d1 : decide (0 < R) = false := by simp; omega
          have e1 := h01.resolve_right fun e => r1 (hT.mp e).1
          rcases C with _ | _
          · by_cases f1 : 0 < F
            · have d2 : decide (0 < F) = true := by simp [f1]
              have e0 : T = 0 := e1
              subst e0
              clear hT h01 hT1
              go_wp2_with fail
              refine hcl.mono ?_; rintro e w' ⟨rfl, nn, rfl⟩
              go_wp2_with fail
              refine (works_any _).mono ?_; rintro e w3 ⟨rfl, hb3⟩
              go_wp2_with fail
              go_ret
              exact ⟨rfl, (below_drewN' hB2 nn).trans (hb3.mono (below_drewN' hB2 nn).size)⟩
            · have d2 : decide (0 < F) = false := by simp; omega
              have e0 : T = 0 := e1
              subst e0
              clear hT h01 hT1
              go_wp2_with fail
              refine hcl.mono ?_; rintro e w' ⟨rfl, nn, rfl⟩
              go_wp2_with fail
              refine (works_any _).mono ?_; rintro e w3 ⟨rfl, hb3⟩
              go_wp2_with fail
              go_ret
              exact ⟨rfl, (below_drewN' hB2 nn).trans (hb3.mono (below_drewN' hB2 nn).size)⟩
          · by_cases f1 : 0 < F
            · have d2 : decide (0 < F) = true := by simp [f1]
              have e0 : T = 0 := e1
              subst e0
              clear hT h01 hT1
              go_wp2_with fail
              refine hcl.mono ?_; rintro e w' ⟨rfl, nn, rfl⟩
              go_wp2_with fail
              refine (works_any _).mono ?_; rintro e w3 ⟨rfl, hb3⟩
              go_wp2_with fail
              go_ret
              exact ⟨rfl, (below_drewN' hB2 nn).trans (hb3.mono (below_drewN' hB2 nn).size)⟩
            · have d2 : decide (0 < F) = false := by simp; omega
              have e0 : T = 0 := e1
              subst e0
              clear hT h01 hT1
              go_wp2_with fail
              refine hcl.mono ?_; rintro e w' ⟨rfl, nn, rfl⟩
              go_wp2_with fail
              refine (works_any _).mono ?_; rintro e w3 ⟨rfl, hb3⟩
              go_wp2_with fail
              go_ret
              exact ⟨rfl, (below_drewN' hB2 nn).trans (hb3.mono (below_drewN' hB2 nn).size)⟩
end Go.Proofs.Ytdllehgiambkcaa.Sv
