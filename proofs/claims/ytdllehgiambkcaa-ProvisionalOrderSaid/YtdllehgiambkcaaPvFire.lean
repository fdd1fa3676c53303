/- The walk of provisional.Fire. Printed by mk_acts18.py. -/
import Derived.Test.YtdllehgiambkcaaPvAck
namespace Go.Proofs.Ytdllehgiambkcaa.Pv
open Go.RowKit

set_option maxRecDepth 10000 in
set_option maxHeartbeats 8000000 in
theorem fire_any (r : R) (A : Option Addr) (cap : Nat) (w : World) (arg : Int) (hR : Rd w w.heap.size 1 A r.q.length (ints r.q)) (hl : r.q.length ≤ 900) (hcap : r.q.length ≤ cap) (hw : -9223372036854775808 ≤ r.wait ∧ r.wait ≤ 9223372036854775807) :
    Calls Try.prog 28 #[.agg #[.int .i64 r.seq, .int .i64 r.code, .int .i64 r.wait, .slice A r.q.length cap, .bool r.fin, .bool r.failed], .int .i64 arg] w (Ans w (fire r arg)) := by
  have HR1 : ∀ W : World, Below w.heap.size w W → Rd W W.heap.size 1 A r.q.length (ints r.q) := fun W hb => (hR.below hb).more hb.size
  have hbd := fun h => may_bounds (r := r) h
  obtain ⟨X, HX⟩ : ∃ X, X = fire r arg := ⟨_, rfl⟩
  rw [← HX]
  obtain ⟨sq, code, wait, q, fin, failed⟩ := r
  simp only at *
  cases hm : may ⟨sq, code, wait, q, fin, failed⟩
  · obtain rfl : X = ⟨.zero, [], 2⟩ := by rw [HX]; unfold fire; rw [if_pos (Or.inl hm)]
    clear HX hbd
    go_enter Try.func28, Try.ntmps28
    go_wp2_with fail
    refine (may_any ⟨sq, code, wait, q, fin, failed⟩ A cap _ (HR1 _ ?_) (by simp only; omega) hcap hw).mono ?_
    · repeat (first | exact Below.refl _ _ | refine Below.setCell ?_ (by simp) _ | refine Below.drew ?_ | refine Below.alloc ?_ (by first | (simp; done) | (simp; omega)) _)
    rw [hm]; rintro e w1 ⟨rfl, cs, rfl⟩
    go_wp2_with fail
    refine bodyPost_ret (v := .tuple #[.agg #[.int .i64 0, .int .i64 0, .int .i64 0, .slice none 0 0, .bool false, .bool false], .slice none 0 0, .int .u8 2]) ?_ rfl ?_
    · simp only [results, Try.results28]; go_simp
    · refine ⟨none, 0, .slice none 0 0, rfl, ?_, Rd.nil _ _ _ _, Nat.le_refl _, World.ownsRow_nil _ _ _ _, fun h0 => absurd h0 (by simp [R.zero])⟩
      repeat (first | exact Below.refl _ _ | refine Below.setCell ?_ (by simp) _ | refine Below.drew ?_ | refine Below.alloc ?_ (by first | (simp; done) | (simp; omega)) _)
  · obtain ⟨b1, b2, b3, b4, b5⟩ := hbd hm
    clear hbd
    by_cases ht1 : arg = 1
    · subst ht1
      by_cases hc : code = 0
      · obtain ⟨e1, e2⟩ := b4 hc
        subst hc e1 e2
        obtain rfl : X = ⟨⟨sq, 0, 0, [], fin, failed⟩, [], 0⟩ := by rw [HX]; unfold fire; rw [if_neg (by rw [hm]; simp), if_pos rfl]
        clear HX b4 b5
        simp only [List.length_nil] at HR1 hcap ⊢
        go_enter Try.func28, Try.ntmps28
        go_wp2_with fail
        refine (may_any ⟨sq, 0, 0, [], fin, failed⟩ A cap _ (HR1 _ ?_) (by simp only; omega) hcap hw).mono ?_
        · repeat (first | exact Below.refl _ _ | refine Below.setCell ?_ (by simp) _ | refine Below.drew ?_ | refine Below.alloc ?_ (by first | (simp; done) | (simp; omega)) _)
        rw [hm]; rintro e w1 ⟨rfl, cs, rfl⟩
        go_wp2_with fail
        refine (begin_any ⟨sq, 0, 0, [], fin, failed⟩ A cap _ (HR1 _ ?_) (by simp only; omega)).mono ?_
        · repeat (first | exact Below.refl _ _ | refine Below.setCell ?_ (by simp) _ | refine Below.drew ?_ | refine Below.alloc ?_ (by first | (simp; done) | (simp; omega)) _)
        rintro e w2 ⟨g, A2, cap2, rfl, hb2, h2, hoq, hnq⟩
        obtain ⟨hcc, hff⟩ := bcell hb2
        have hz2 : w.heap.size + 1 < w2.heap.size := blt hb2 (by simp)
        obtain ⟨y1, y2, x0, x1, x2, x3, x4, x5, x6, yf, -, -, -, -, -⟩ := id h2
        have hgz : w.heap.size + 1 < g := by simp at y2; omega
        have hgz' : w.heap.size + 1 ≠ g := by omega
        have hB2 : Below w.heap.size w w2 := by
          refine Below.trans ?_ (hb2.mono (by first | omega | (simp; done) | (simp; omega)))
          repeat (first | exact Below.refl _ _ | refine Below.setCell ?_ (by simp) _ | refine Below.drew ?_ | refine Below.alloc ?_ (by first | (simp; done) | (simp; omega)) _)
        clear x0 x2 x3 x4 x5 x6
        go_wp2_with fail
        refine (wdone_any g _ cap2 _ A2 _ _ _ h2).mono ?_
        rintro e w9 ⟨rfl, hb9, h9⟩
        obtain ⟨hcc9, hff9⟩ := bcell hb9
        have hz9 : w.heap.size + 1 < w9.heap.size := Nat.lt_of_lt_of_le (by first | exact hz2 | simpa using hz2) hb9.size
        go_wp2_with fail
        refine bodyPost_ret (v := ?_) ?_ rfl ?_
        rotate_left
        · simp only [results, Try.results28]; go_simp; exact rfl
        · refine ans_of h9 ?_ (w.heap.size + 1) (by omega) (by simp) _ _ _ _ _ _ rfl
          refine Below.trans ?_ (hb9.mono (by first | omega | (simp; done) | (simp; omega)))
          repeat (first | exact hB2 | refine Below.setCell ?_ (by first | (simp; done) | (simp; omega)) _ | refine Below.drew ?_ | refine Below.alloc ?_ (by first | (simp; done) | (simp; omega)) _)
      · have d1 : (code == 0) = false := by simp [hc]
        have hp := pow_in (b5 hc)
        have hp1 : 0 ≤ wait := by omega
        have hp2 : wait ≤ 32000 := by omega
        have HW := hide hp
        clear hp b4 b5
        obtain ⟨mm, hmm⟩ : ∃ mm, min (2 * wait) 32000 = mm := ⟨_, rfl⟩
        obtain rfl : X = ⟨⟨sq, code, mm, q, fin, failed⟩, [sendO code sq, timerO 1 mm], 0⟩ := by rw [HX, ← hmm]; unfold fire; rw [if_neg (by rw [hm]; simp), if_neg hc, if_pos rfl]
        have HMM : Hid ((if 2 * wait ≤ 32000 then 2 * wait else 32000) = mm) := hide (by rw [← hmm]; rfl)
        clear HX hc hmm
        rcases (show 2 * wait ≤ 32000 ∨ ¬ 2 * wait ≤ 32000 by omega) with hle | hle
        all_goals
          have hmv := HMM.out
          first | rw [if_pos hle] at hmv | rw [if_neg hle] at hmv
          subst hmv
          go_enter Try.func28, Try.ntmps28
          go_wp2_with fail
          refine (may_any ⟨sq, code, wait, q, fin, failed⟩ A cap _ (HR1 _ ?_) (by simp only; omega) hcap hw).mono ?_
          · repeat (first | exact Below.refl _ _ | refine Below.setCell ?_ (by simp) _ | refine Below.drew ?_ | refine Below.alloc ?_ (by first | (simp; done) | (simp; omega)) _)
          rw [hm]; rintro e w1 ⟨rfl, cs, rfl⟩
          go_wp2_with fail
          refine (begin_any ⟨sq, code, wait, q, fin, failed⟩ A cap _ (HR1 _ ?_) (by simp only; omega)).mono ?_
          · repeat (first | exact Below.refl _ _ | refine Below.setCell ?_ (by simp) _ | refine Below.drew ?_ | refine Below.alloc ?_ (by first | (simp; done) | (simp; omega)) _)
          rintro e w2 ⟨g, A2, cap2, rfl, hb2, h2, hoq, hnq⟩
          obtain ⟨hcc, hff⟩ := bcell hb2
          have hz2 : w.heap.size + 1 < w2.heap.size := blt hb2 (by simp)
          obtain ⟨y1, y2, x0, x1, x2, x3, x4, x5, x6, yf, -, -, -, -, -⟩ := id h2
          have hgz : w.heap.size + 1 < g := by simp at y2; omega
          have hgz' : w.heap.size + 1 ≠ g := by omega
          have hB2 : Below w.heap.size w w2 := by
            refine Below.trans ?_ (hb2.mono (by first | omega | (simp; done) | (simp; omega)))
            repeat (first | exact Below.refl _ _ | refine Below.setCell ?_ (by simp) _ | refine Below.drew ?_ | refine Below.alloc ?_ (by first | (simp; done) | (simp; omega)) _)
          clear x0 x3 x4 x5 x6
          go_wp2_with fail
          refine (wsend_any g _ cap2 ⟨sq, code, wait, q, fin, failed⟩ A2 [] _ _ h2 _ (by simp)).mono ?_
          rintro e w3 ⟨rfl, hb3, v3, h3⟩
          obtain ⟨hcc3, hff3⟩ := bcellB hb3
          have hz3 : w.heap.size + 1 < w3.heap.size := Nat.lt_of_lt_of_le (by first | exact hz2 | simpa using hz2) hb3.size
          have hB3 : Below w.heap.size w w3 := by
            refine Below.trans ?_ (hb3.mono (by first | omega | (simp; done) | (simp; omega)))
            repeat (first | exact hB2 | refine Below.setCell ?_ (by first | (simp; done) | (simp; omega)) _ | refine Below.drew ?_ | refine Below.alloc ?_ (by first | (simp; done) | (simp; omega)) _)
          clear x1 x2 yf
          go_wp2_with fail
          refine (wdone_any g _ cap2 _ A2 _ v3 _ h3).mono ?_
          rintro e w9 ⟨rfl, hb9, h9⟩
          obtain ⟨hcc9, hff9⟩ := bcell hb9
          have hz9 : w.heap.size + 1 < w9.heap.size := Nat.lt_of_lt_of_le (by first | exact hz3 | simpa using hz3) hb9.size
          go_wp2_with fail
          refine bodyPost_ret (v := ?_) ?_ rfl ?_
          rotate_left
          · simp only [results, Try.results28]; go_simp; exact rfl
          · refine ans_of h9 ?_ (w.heap.size + 1) (by omega) (by simp) _ _ _ _ _ _ rfl
            refine Below.trans ?_ (hb9.mono (by first | omega | (simp; done) | (simp; omega)))
            repeat (first | exact hB3 | refine Below.setCell ?_ (by first | (simp; done) | (simp; omega)) _ | refine Below.drew ?_ | refine Below.alloc ?_ (by first | (simp; done) | (simp; omega)) _)
    · by_cases ht2 : arg = 2
      · subst ht2
        have dt : ((2 : Int) == 1) = false := rfl
        by_cases hc : code = 0
        · obtain ⟨e1, e2⟩ := b4 hc
          subst hc e1 e2
          obtain rfl : X = ⟨⟨sq, 0, 0, [], fin, failed⟩, [], 0⟩ := by rw [HX]; unfold fire; rw [if_neg (by rw [hm]; simp), if_pos rfl]
          clear HX b4 b5
          simp only [List.length_nil] at HR1 hcap ⊢
          go_enter Try.func28, Try.ntmps28
          go_wp2_with fail
          refine (may_any ⟨sq, 0, 0, [], fin, failed⟩ A cap _ (HR1 _ ?_) (by simp only; omega) hcap hw).mono ?_
          · repeat (first | exact Below.refl _ _ | refine Below.setCell ?_ (by simp) _ | refine Below.drew ?_ | refine Below.alloc ?_ (by first | (simp; done) | (simp; omega)) _)
          rw [hm]; rintro e w1 ⟨rfl, cs, rfl⟩
          go_wp2_with fail
          refine (begin_any ⟨sq, 0, 0, [], fin, failed⟩ A cap _ (HR1 _ ?_) (by simp only; omega)).mono ?_
          · repeat (first | exact Below.refl _ _ | refine Below.setCell ?_ (by simp) _ | refine Below.drew ?_ | refine Below.alloc ?_ (by first | (simp; done) | (simp; omega)) _)
          rintro e w2 ⟨g, A2, cap2, rfl, hb2, h2, hoq, hnq⟩
          obtain ⟨hcc, hff⟩ := bcell hb2
          have hz2 : w.heap.size + 1 < w2.heap.size := blt hb2 (by simp)
          obtain ⟨y1, y2, x0, x1, x2, x3, x4, x5, x6, yf, -, -, -, -, -⟩ := id h2
          have hgz : w.heap.size + 1 < g := by simp at y2; omega
          have hgz' : w.heap.size + 1 ≠ g := by omega
          have hB2 : Below w.heap.size w w2 := by
            refine Below.trans ?_ (hb2.mono (by first | omega | (simp; done) | (simp; omega)))
            repeat (first | exact Below.refl _ _ | refine Below.setCell ?_ (by simp) _ | refine Below.drew ?_ | refine Below.alloc ?_ (by first | (simp; done) | (simp; omega)) _)
          clear x0 x2 x3 x4 x5 x6
          go_wp2_with fail
          refine (wdone_any g _ cap2 _ A2 _ _ _ h2).mono ?_
          rintro e w9 ⟨rfl, hb9, h9⟩
          obtain ⟨hcc9, hff9⟩ := bcell hb9
          have hz9 : w.heap.size + 1 < w9.heap.size := Nat.lt_of_lt_of_le (by first | exact hz2 | simpa using hz2) hb9.size
          go_wp2_with fail
          refine bodyPost_ret (v := ?_) ?_ rfl ?_
          rotate_left
          · simp only [results, Try.results28]; go_simp; exact rfl
          · refine ans_of h9 ?_ (w.heap.size + 1) (by omega) (by simp) _ _ _ _ _ _ rfl
            refine Below.trans ?_ (hb9.mono (by first | omega | (simp; done) | (simp; omega)))
            repeat (first | exact hB2 | refine Below.setCell ?_ (by first | (simp; done) | (simp; omega)) _ | refine Below.drew ?_ | refine Below.alloc ?_ (by first | (simp; done) | (simp; omega)) _)
        · have d1 : (code == 0) = false := by simp [hc]
          obtain rfl : X = ⟨⟨sq, 0, 0, [], true, true⟩, [failO], 0⟩ := by rw [HX]; unfold fire; rw [if_neg (by rw [hm]; simp), if_neg hc, if_neg (by decide)]
          clear HX hc b4 b5
          go_enter Try.func28, Try.ntmps28
          go_wp2_with fail
          refine (may_any ⟨sq, code, wait, q, fin, failed⟩ A cap _ (HR1 _ ?_) (by simp only; omega) hcap hw).mono ?_
          · repeat (first | exact Below.refl _ _ | refine Below.setCell ?_ (by simp) _ | refine Below.drew ?_ | refine Below.alloc ?_ (by first | (simp; done) | (simp; omega)) _)
          rw [hm]; rintro e w1 ⟨rfl, cs, rfl⟩
          go_wp2_with fail
          refine (begin_any ⟨sq, code, wait, q, fin, failed⟩ A cap _ (HR1 _ ?_) (by simp only; omega)).mono ?_
          · repeat (first | exact Below.refl _ _ | refine Below.setCell ?_ (by simp) _ | refine Below.drew ?_ | refine Below.alloc ?_ (by first | (simp; done) | (simp; omega)) _)
          rintro e w2 ⟨g, A2, cap2, rfl, hb2, h2, hoq, hnq⟩
          obtain ⟨hcc, hff⟩ := bcell hb2
          have hz2 : w.heap.size + 1 < w2.heap.size := blt hb2 (by simp)
          obtain ⟨y1, y2, x0, x1, x2, x3, x4, x5, x6, yf, -, -, -, -, -⟩ := id h2
          have hgz : w.heap.size + 1 < g := by simp at y2; omega
          have hgz' : w.heap.size + 1 ≠ g := by omega
          have hB2 : Below w.heap.size w w2 := by
            refine Below.trans ?_ (hb2.mono (by first | omega | (simp; done) | (simp; omega)))
            repeat (first | exact Below.refl _ _ | refine Below.setCell ?_ (by simp) _ | refine Below.drew ?_ | refine Below.alloc ?_ (by first | (simp; done) | (simp; omega)) _)
          clear x0 x2 x3 x4 x5 x6
          go_wp2_with fail
          refine (wstop_any g _ cap2 ⟨sq, code, wait, q, fin, failed⟩ A2 [] _ _ h2).mono ?_
          rintro e w3 ⟨rfl, hb3, h3⟩
          obtain ⟨hcc3, hff3⟩ := bcellB hb3
          have hz3 : w.heap.size + 1 < w3.heap.size := Nat.lt_of_lt_of_le hz2 hb3.size
          have hB3 : Below w.heap.size w w3 := hB2.trans (hb3.mono (by first | omega | (simp; done) | (simp; omega)))
          clear x1 yf
          obtain ⟨-, -, -, -, -, -, x4, x5, -, yf, -, -, -, -, -⟩ := id h3
          go_wp2_with fail
          refine (put_any g _ 0 ⟨sq, 0, 0, [], true, true⟩ none [] _ _ ((h3.set_failed true).set_fin true) failO (by simp)).mono ?_
          rintro e w4 ⟨rfl, hb4, v4, h4⟩
          obtain ⟨hcc4, hff4⟩ := bcellB hb4
          have hz4 : w.heap.size + 1 < w4.heap.size := Nat.lt_of_lt_of_le (by first | exact hz3 | simpa using hz3) hb4.size
          have hB4 : Below w.heap.size w w4 := by
            refine Below.trans ?_ (hb4.mono (by first | omega | (simp; done) | (simp; omega)))
            repeat (first | exact hB3 | refine Below.setCell ?_ (by first | (simp; done) | (simp; omega)) _ | refine Below.drew ?_ | refine Below.alloc ?_ (by first | (simp; done) | (simp; omega)) _)
          clear x4 x5 yf
          go_wp2_with fail
          refine (wdone_any g _ 0 _ none _ v4 _ h4).mono ?_
          rintro e w9 ⟨rfl, hb9, h9⟩
          obtain ⟨hcc9, hff9⟩ := bcell hb9
          have hz9 : w.heap.size + 1 < w9.heap.size := Nat.lt_of_lt_of_le (by first | exact hz4 | simpa using hz4) hb9.size
          go_wp2_with fail
          refine bodyPost_ret (v := ?_) ?_ rfl ?_
          rotate_left
          · simp only [results, Try.results28]; go_simp; exact rfl
          · refine ans_of h9 ?_ (w.heap.size + 1) (by omega) (by simp) _ _ _ _ _ _ rfl
            refine Below.trans ?_ (hb9.mono (by first | omega | (simp; done) | (simp; omega)))
            repeat (first | exact hB4 | refine Below.setCell ?_ (by first | (simp; done) | (simp; omega)) _ | refine Below.drew ?_ | refine Below.alloc ?_ (by first | (simp; done) | (simp; omega)) _)
      · obtain rfl : X = ⟨.zero, [], 2⟩ := by rw [HX]; unfold fire; rw [if_pos (Or.inr ⟨ht1, ht2⟩)]
        have d1 : (arg != 1) = true := by simp [ht1]
        have d2 : (arg != 2) = true := by simp [ht2]
        clear HX ht1 ht2 b4 b5
        go_enter Try.func28, Try.ntmps28
        go_wp2_with fail
        refine (may_any ⟨sq, code, wait, q, fin, failed⟩ A cap _ (HR1 _ ?_) (by simp only; omega) hcap hw).mono ?_
        · repeat (first | exact Below.refl _ _ | refine Below.setCell ?_ (by simp) _ | refine Below.drew ?_ | refine Below.alloc ?_ (by first | (simp; done) | (simp; omega)) _)
        rw [hm]; rintro e w1 ⟨rfl, cs, rfl⟩
        go_wp2_with fail
        refine bodyPost_ret (v := .tuple #[.agg #[.int .i64 0, .int .i64 0, .int .i64 0, .slice none 0 0, .bool false, .bool false], .slice none 0 0, .int .u8 2]) ?_ rfl ?_
        · simp only [results, Try.results28]; go_simp
        · refine ⟨none, 0, .slice none 0 0, rfl, ?_, Rd.nil _ _ _ _, Nat.le_refl _, World.ownsRow_nil _ _ _ _, fun h0 => absurd h0 (by simp [R.zero])⟩
          repeat (first | exact Below.refl _ _ | refine Below.setCell ?_ (by simp) _ | refine Below.drew ?_ | refine Below.alloc ?_ (by first | (simp; done) | (simp; omega)) _)
end Go.Proofs.Ytdllehgiambkcaa.Pv
