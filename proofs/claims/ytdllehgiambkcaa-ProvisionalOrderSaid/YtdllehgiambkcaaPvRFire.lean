/- The walk of the reference's Fire of chapter 18. Printed by mk_racts18.py. -/
import Derived.Test.YtdllehgiambkcaaPvRAck
namespace Go.Proofs.Ytdllehgiambkcaa.Pv
open Go.RowKit

set_option maxRecDepth 10000 in
set_option maxHeartbeats 4000000 in
theorem rfire_any (r : R) (A : Option Addr) (cap : Nat) (w : World) (arg : Int) (hR : Rd w w.heap.size 1 A r.q.length (ints r.q)) (hl : r.q.length ≤ 900) (hcap : r.q.length ≤ cap) :
    Calls Try.prog 48 #[.agg #[.int .i64 r.seq, .int .i64 r.code, .int .i64 r.wait, .slice A r.q.length cap, .bool r.fin, .bool r.failed], .int .i64 arg] w (RAns w r.q.length A (fire r arg)) := by
  have HR1 : ∀ W : World, Below w.heap.size w W → Rd W W.heap.size 1 A r.q.length (ints r.q) := fun W hb => (hR.below hb).more hb.size
  have hold : 0 < r.q.length → ∀ b o, A = some ⟨b, o, none⟩ → b < w.heap.size := by
    intro h0 b o e
    obtain ⟨b', o', e', hb', -⟩ := hR.2 h0
    rw [e] at e'
    injection e' with e'
    injection e' with e'
    omega
  have hgd := fun h => may_good (r := r) h
  obtain ⟨X, HX⟩ : ∃ X, X = fire r arg := ⟨_, rfl⟩
  rw [← HX]
  obtain ⟨sq, code, wait, q, fin, failed⟩ := r
  simp only at *
  cases hm : may ⟨sq, code, wait, q, fin, failed⟩
  · obtain rfl : X = ⟨.zero, [], 2⟩ := by rw [HX]; unfold fire; rw [if_pos (Or.inl hm)]
    clear HX hgd
    go_enter Try.func48, Try.ntmps48
    go_wp2_with fail
    refine (rmay_any ⟨sq, code, wait, q, fin, failed⟩ A cap _ (HR1 _ ?_) (by simp only; omega) hcap).mono ?_
    · repeat (first | exact Below.refl _ _ | refine Below.setCell ?_ (by simp) _ | refine Below.drew ?_ | refine Below.alloc ?_ (by first | (simp; done) | (simp; omega)) _)
    rw [hm]; rintro e w1 ⟨rfl, cs, rfl⟩
    go_wp2_with fail
    refine bodyPost_ret (v := .tuple #[.agg #[.int .i64 0, .int .i64 0, .int .i64 0, .slice none 0 0, .bool false, .bool false], .slice none 0 0, .int .u8 2]) ?_ rfl ?_
    · simp only [results, Try.results48]; go_simp
    · refine ⟨none, 0, none, 0, rfl, ?_, Rd.nil _ _ _ _, Nat.le_refl _, Rd.nil _ _ _ _, fun h0 => absurd h0 (by simp [R.zero]), fun b o e => by cases e⟩
      repeat (first | exact Below.refl _ _ | refine Below.setCell ?_ (by simp) _ | refine Below.drew ?_ | refine Below.alloc ?_ (by first | (simp; done) | (simp; omega)) _)
  · obtain ⟨p, hg⟩ := hgd hm
    clear hgd
    have hz4 := hg.zero
    have hs5 := fun h => (hg.some_ h).2.2.2
    simp only at hz4 hs5
    clear hg
    by_cases ht : arg ≠ 1 ∧ arg ≠ 2
    · obtain rfl : X = ⟨.zero, [], 2⟩ := by rw [HX]; unfold fire; rw [if_pos (Or.inr ht)]
      have d1 : (arg != 1) = true := by simpa using ht.1
      have d2 : (arg != 2) = true := by simpa using ht.2
      clear HX ht hz4 hs5
      go_enter Try.func48, Try.ntmps48
      go_wp2_with fail
      refine (rmay_any ⟨sq, code, wait, q, fin, failed⟩ A cap _ (HR1 _ ?_) (by simp only; omega) hcap).mono ?_
      · repeat (first | exact Below.refl _ _ | refine Below.setCell ?_ (by simp) _ | refine Below.drew ?_ | refine Below.alloc ?_ (by first | (simp; done) | (simp; omega)) _)
      rw [hm]; rintro e w1 ⟨rfl, cs, rfl⟩
      go_wp2_with fail
      refine bodyPost_ret (v := .tuple #[.agg #[.int .i64 0, .int .i64 0, .int .i64 0, .slice none 0 0, .bool false, .bool false], .slice none 0 0, .int .u8 2]) ?_ rfl ?_
      · simp only [results, Try.results48]; go_simp
      · refine ⟨none, 0, none, 0, rfl, ?_, Rd.nil _ _ _ _, Nat.le_refl _, Rd.nil _ _ _ _, fun h0 => absurd h0 (by simp [R.zero]), fun b o e => by cases e⟩
        repeat (first | exact Below.refl _ _ | refine Below.setCell ?_ (by simp) _ | refine Below.drew ?_ | refine Below.alloc ?_ (by first | (simp; done) | (simp; omega)) _)
    · have ht' : arg = 1 ∨ arg = 2 := by omega
      by_cases hc : code = 0
      · obtain ⟨e1, e2⟩ := hz4 hc
        subst hc e1 e2
        obtain rfl : X = ⟨⟨sq, 0, 0, [], fin, failed⟩, [], 0⟩ := by rw [HX]; unfold fire; rw [if_neg (by rw [hm]; simp; omega), if_pos rfl]
        clear HX hz4 hs5 ht
        simp only [List.length_nil] at HR1 hcap ⊢
        rcases ht' with rfl | rfl
        all_goals
          go_enter Try.func48, Try.ntmps48
          go_wp2_with fail
          refine (rmay_any ⟨sq, 0, 0, [], fin, failed⟩ A cap _ (HR1 _ ?_) (by simp only; omega) hcap).mono ?_
          · repeat (first | exact Below.refl _ _ | refine Below.setCell ?_ (by simp) _ | refine Below.drew ?_ | refine Below.alloc ?_ (by first | (simp; done) | (simp; omega)) _)
          rw [hm]; rintro e w1 ⟨rfl, cs, rfl⟩
          go_wp2_with fail
          refine bodyPost_ret (v := .tuple #[.agg #[.int .i64 sq, .int .i64 0, .int .i64 0, .slice A 0 cap, .bool fin, .bool failed], .slice none 0 0, .int .u8 0]) ?_ rfl ?_
          · simp only [results, Try.results48]; go_simp
          · refine ⟨A, cap, none, 0, rfl, ?_, Rd.nil _ _ _ _, hcap, Rd.nil _ _ _ _, fun h0 => absurd h0 (by simp), fun b o e => by cases e⟩
            repeat (first | exact Below.refl _ _ | refine Below.setCell ?_ (by simp) _ | refine Below.drew ?_ | refine Below.alloc ?_ (by first | (simp; done) | (simp; omega)) _)
      · have d1 : (code == 0) = false := by simp [hc]
        have hp := pow_in (hs5 hc)
        have hp1 : 0 ≤ wait := by omega
        have hp2 : wait ≤ 32000 := by omega
        have HW := hide hp
        clear hp hz4 hs5 ht
        rcases ht' with rfl | rfl
        · obtain ⟨mm, hmm⟩ : ∃ mm, min (2 * wait) 32000 = mm := ⟨_, rfl⟩
          obtain rfl : X = ⟨⟨sq, code, mm, q, fin, failed⟩, [sendO code sq, timerO 1 mm], 0⟩ := by rw [HX, ← hmm]; unfold fire; rw [if_neg (by rw [hm]; simp), if_neg hc, if_pos rfl]
          have HMM : Hid ((if 2 * wait ≤ 32000 then 2 * wait else 32000) = mm) := hide (by rw [← hmm]; rfl)
          have HL := hide hold
          clear HX hc hmm hold
          rcases (show 2 * wait ≤ 32000 ∨ ¬ 2 * wait ≤ 32000 by omega) with hle | hle
          · obtain rfl : mm = (2 * wait) := by rw [← HMM.out, if_pos hle]
            go_enter Try.func48, Try.ntmps48
            go_wp2_with fail
            refine (rmay_any ⟨sq, code, wait, q, fin, failed⟩ A cap _ (HR1 _ ?_) (by simp only; omega) hcap).mono ?_
            · repeat (first | exact Below.refl _ _ | refine Below.setCell ?_ (by simp) _ | refine Below.drew ?_ | refine Below.alloc ?_ (by first | (simp; done) | (simp; omega)) _)
            rw [hm]; rintro e w1 ⟨rfl, cs, rfl⟩
            go_wp2_with fail
            go_region_held3 (fun w' => w'.cell? ⟨w.heap.size, 0, none⟩ = some (.int .i64 sq) ∧ w'.cell? ⟨w.heap.size, 1, none⟩ = some (.int .i64 code) ∧ w'.cell? ⟨w.heap.size, 2, none⟩ = some (.int .i64 (2 * wait)) ∧ w'.cell? ⟨w.heap.size, 3, none⟩ = some (.slice A q.length cap) ∧ w'.cell? ⟨w.heap.size, 4, none⟩ = some (.bool fin) ∧ w'.cell? ⟨w.heap.size, 5, none⟩ = some (.bool failed)) (go_simp) (fail)
            all_goals go_wp2_with fail
            all_goals
              refine bodyPost_ret (v := ?_) ?_ rfl ?_
              rotate_left
              · simp only [results, Try.results48]; go_simp; exact rfl
              · refine ⟨A, cap, some ⟨w.heap.size + 1 + 1 + 1, 0, none⟩, 2, rfl, ?_, HR1 _ ?_, hcap, ?_, fun h0 b o e => Or.inr ⟨e, h0⟩, fun b o e => by injection e with e; injection e with e; omega⟩
                · repeat (first | with_reducible exact Below.refl _ _ | with_reducible refine Below.setCell ?_ (by simp) _ | with_reducible refine Below.drew ?_ | with_reducible refine Below.alloc ?_ (by first | (simp; done) | (simp; omega)) _)
                · repeat (first | with_reducible exact Below.refl _ _ | with_reducible refine Below.setCell ?_ (by simp) _ | with_reducible refine Below.drew ?_ | with_reducible refine Below.alloc ?_ (by first | (simp; done) | (simp; omega)) _)
                · repeat (first | ((with_reducible refine rd_lit _ ?_ ?_ ?_); exact rfl; exact rfl; simp) | with_reducible refine rd_drew ?_)
          · obtain rfl : mm = 32000 := by rw [← HMM.out, if_neg hle]
            go_enter Try.func48, Try.ntmps48
            go_wp2_with fail
            refine (rmay_any ⟨sq, code, wait, q, fin, failed⟩ A cap _ (HR1 _ ?_) (by simp only; omega) hcap).mono ?_
            · repeat (first | exact Below.refl _ _ | refine Below.setCell ?_ (by simp) _ | refine Below.drew ?_ | refine Below.alloc ?_ (by first | (simp; done) | (simp; omega)) _)
            rw [hm]; rintro e w1 ⟨rfl, cs, rfl⟩
            go_wp2_with fail
            go_region_held3 (fun w' => w'.cell? ⟨w.heap.size, 0, none⟩ = some (.int .i64 sq) ∧ w'.cell? ⟨w.heap.size, 1, none⟩ = some (.int .i64 code) ∧ w'.cell? ⟨w.heap.size, 2, none⟩ = some (.int .i64 32000) ∧ w'.cell? ⟨w.heap.size, 3, none⟩ = some (.slice A q.length cap) ∧ w'.cell? ⟨w.heap.size, 4, none⟩ = some (.bool fin) ∧ w'.cell? ⟨w.heap.size, 5, none⟩ = some (.bool failed)) (go_simp) (fail)
            all_goals go_wp2_with fail
            all_goals
              refine bodyPost_ret (v := ?_) ?_ rfl ?_
              rotate_left
              · simp only [results, Try.results48]; go_simp; exact rfl
              · refine ⟨A, cap, some ⟨w.heap.size + 1 + 1 + 1, 0, none⟩, 2, rfl, ?_, HR1 _ ?_, hcap, ?_, fun h0 b o e => Or.inr ⟨e, h0⟩, fun b o e => by injection e with e; injection e with e; omega⟩
                · repeat (first | with_reducible exact Below.refl _ _ | with_reducible refine Below.setCell ?_ (by simp) _ | with_reducible refine Below.drew ?_ | with_reducible refine Below.alloc ?_ (by first | (simp; done) | (simp; omega)) _)
                · repeat (first | with_reducible exact Below.refl _ _ | with_reducible refine Below.setCell ?_ (by simp) _ | with_reducible refine Below.drew ?_ | with_reducible refine Below.alloc ?_ (by first | (simp; done) | (simp; omega)) _)
                · repeat (first | ((with_reducible refine rd_lit _ ?_ ?_ ?_); exact rfl; exact rfl; simp) | with_reducible refine rd_drew ?_)
        · obtain rfl : X = ⟨⟨sq, 0, 0, [], true, true⟩, [failO], 0⟩ := by rw [HX]; unfold fire; rw [if_neg (by rw [hm]; simp), if_neg hc, if_neg (by omega)]
          clear HX hc
          go_enter Try.func48, Try.ntmps48
          go_wp2_with fail
          refine (rmay_any ⟨sq, code, wait, q, fin, failed⟩ A cap _ (HR1 _ ?_) (by simp only; omega) hcap).mono ?_
          · repeat (first | exact Below.refl _ _ | refine Below.setCell ?_ (by simp) _ | refine Below.drew ?_ | refine Below.alloc ?_ (by first | (simp; done) | (simp; omega)) _)
          rw [hm]; rintro e w1 ⟨rfl, cs, rfl⟩
          go_wp2_with fail
          all_goals
            refine bodyPost_ret (v := ?_) ?_ rfl ?_
            rotate_left
            · simp only [results, Try.results48]; go_simp; exact rfl
            · refine ⟨none, _, some ⟨w.heap.size + 1 + 1 + 1, 0, none⟩, 1, rfl, ?_, Rd.nil _ _ _ _, Nat.le_refl _, ?_, fun h0 => absurd h0 (by simp), fun b o e => by injection e with e; injection e with e; omega⟩
              · repeat (first | with_reducible exact Below.refl _ _ | with_reducible refine Below.setCell ?_ (by simp) _ | with_reducible refine Below.drew ?_ | with_reducible refine Below.alloc ?_ (by first | (simp; done) | (simp; omega)) _)
              · repeat (first | ((with_reducible refine rd_lit _ ?_ ?_ ?_); exact rfl; exact rfl; simp) | with_reducible refine rd_drew ?_)
end Go.Proofs.Ytdllehgiambkcaa.Pv
