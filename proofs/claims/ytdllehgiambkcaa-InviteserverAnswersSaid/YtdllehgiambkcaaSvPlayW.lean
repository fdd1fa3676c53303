/- The walk of play. -/
import Derived.Test.YtdllehgiambkcaaSvPlay
import Derived.StillTailTactics
namespace Go.Proofs.Ytdllehgiambkcaa.Sv
open Go.RowKit

set_option maxRecDepth 10000 in
set_option maxHeartbeats 4000000 in
theorem play_any (A : Option Addr) (cap : Nat) (l : List Ev) (w : World) (hA : Rd w w.heap.size 3 A l.length (l.flatMap Ev.cs)) (hok : ∀ e ∈ l, e.ok) :
    Calls Try.prog 25 #[.slice A l.length cap] w fun e w' => ∃ g v, e = .returned (.pointer (some ⟨g, 0, none⟩)) ∧ Below w.heap.size w w' ∧ SimAt w' g w.heap.size (playT (l.take 40)) v ∧ PK (playT (l.take 40)) 40 := by
  go_enter Try.func25, Try.ntmps25
  go_wp2_with fail
  refine (sstart_any _).mono ?_; rintro e w1 ⟨g, v1, rfl, hb1, h1⟩
  go_wp2_with fail
  go_loopw [4] (fun i wr => ∃ (k : Nat) (v : Value), k ≤ l.length ∧ k ≤ 40 ∧ i = .int .i64 k ∧ SimAt wr g w.heap.size (playT (l.take k)) v ∧ Below w.heap.size w wr ∧ PK (playT (l.take k)) k) (fun i _ => l.length - (intOf i).toNat)
  case atStart => exact ⟨0, v1, by omega, by omega, rfl, h1, hb1, pk_start⟩
  case round =>
    obtain ⟨k, v, hk, hk40, rfl, hS, hB, hP⟩ := hrel
    by_cases hlt : k < l.length
    · by_cases h40 : k < 40
      · have hR := hA.below hB
        obtain ⟨b, o, rfl, hb, c0, c1, c2⟩ := cellsEv hR hlt
        have heok := hok l[k] (List.getElem_mem hlt)
        have hsn := playT_snoc l k hlt
        have hpk := play_pk hP heok
        rw [← hsn] at hpk
        have hsn' := hide hsn
        clear hsn
        obtain ⟨T', hT'⟩ : ∃ T', playT (l.take (k + 1)) = T' := ⟨_, rfl⟩
        rw [hT'] at hpk hsn'
        replace hT' := hide hT'
        unfold playStep at hsn'
        have hup := until_pk hP heok
        have hul := until_len (playT (l.take k)) ((playT (l.take k)).now + l[k].wait)
        have hPn := hP.now
        have hPl := hP.len
        have hPj := hP.j.now
        generalize playT (l.take k) = T at *
        obtain ⟨y1, y2, -, -, -, y3, y4, y5, y6, y7, y8, y9⟩ := id hS
        have d1 : decide ((k : Int) < (l.length : Int)) = true := by simp; omega
        have d2 : decide ((k : Int) < 40) = true := by simp; omega
        obtain ⟨e1, e2⟩ := heok
        generalize l[k].wait = ew at *
        generalize l[k].kind = ek at *
        generalize l[k].code = ec at *
        go_upto_region 5 with fail
        go_still_tail 12, (by kernel_rfl)
        change wpList _ _ _ _ _ (World.drew _)
        go_wp2_with fail
        refine (until_any g _ T v _ hS.drew (T.now + ew) (by omega) (by omega) (by omega)).mono ?_; rintro e w2 ⟨rfl, hb2, v2, hS2⟩
        obtain ⟨hup1, hup2, -⟩ := hup
        have hj2 := hup1.j.now
        generalize untilT T (T.now + ew) = U at *
        have hcb := bat hb2 (b := b) hb
        have c0' := (hcb _).trans c0
        have c1' := (hcb _).trans c1
        have c2' := (hcb _).trans c2
        clear hcb c0 c1 c2 hS y3 y4 y5 y6 y7 y8 y9 h1
        go_upto_region 6 with fail
        go_still_tail 12, (by kernel_rfl)
        change wpList _ _ _ _ _ (World.drew _)
        go_wp2_with fail
        refine (give_any g _ U v2 _ hS2.drew ek ec 0 (by omega) (by omega)).mono ?_; rintro e w3 ⟨rfl, hb3, v3, hS3⟩
        rw [← hsn'.out] at hS3
        go_wp2_with fail
        go_roundw
        case rel => exact ⟨k + 1, v3, by omega, by omega, by simp, by rw [hT'.out]; exact hS3, (hB.drew.trans hb2).drew.trans hb3, by rw [hT'.out]; exact hpk⟩
        case measure => simp [intOf]; omega
      · have hk' : k = 40 := by omega
        subst hk'
        have d1 : decide (((40 : Nat) : Int) < (l.length : Int)) = true := by simp; omega
        go_wp2_with fail
        go_ret
        exact ⟨g, v, rfl, hB, hS, hP⟩
    · have hk' : k = l.length := by omega
      subst hk'
      have d1 : decide ((l.length : Int) < (l.length : Int)) = false := by simp
      have et : l.take 40 = l := List.take_of_length_le hk40
      rw [List.take_length] at hS hP
      go_wp2_with fail
      go_ret
      rw [et]
      exact ⟨g, v, rfl, hB, hS, ⟨hP.j, hP.pend, by have := hP.now; omega, by have := hP.len; omega⟩⟩
end Go.Proofs.Ytdllehgiambkcaa.Sv
