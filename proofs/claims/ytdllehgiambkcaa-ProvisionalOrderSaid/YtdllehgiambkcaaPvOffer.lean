/- The walk of provisional.Offer. Printed by mk_acts18.py. -/
import Derived.Test.YtdllehgiambkcaaPvFire
namespace Go.Proofs.Ytdllehgiambkcaa.Pv
open Go.RowKit

set_option maxRecDepth 10000 in
set_option maxHeartbeats 8000000 in
theorem offer_any (r : R) (A : Option Addr) (cap : Nat) (w : World) (arg : Int) (hR : Rd w w.heap.size 1 A r.q.length (ints r.q)) (hl : r.q.length ≤ 900) (hcap : r.q.length ≤ cap) (hw : -9223372036854775808 ≤ r.wait ∧ r.wait ≤ 9223372036854775807) :
    Calls Try.prog 26 #[.agg #[.int .i64 r.seq, .int .i64 r.code, .int .i64 r.wait, .slice A r.q.length cap, .bool r.fin, .bool r.failed], .int .i64 arg] w (Ans w (offer r arg)) := by
  have HR1 : ∀ W : World, Below w.heap.size w W → Rd W W.heap.size 1 A r.q.length (ints r.q) := fun W hb => (hR.below hb).more hb.size
  have hbd := fun h => may_bounds (r := r) h
  obtain ⟨X, HX⟩ : ∃ X, X = offer r arg := ⟨_, rfl⟩
  rw [← HX]
  obtain ⟨sq, code, wait, q, fin, failed⟩ := r
  simp only at *
  cases hm : may ⟨sq, code, wait, q, fin, failed⟩
  · obtain rfl : X = ⟨.zero, [], 2⟩ := by rw [HX]; unfold offer; rw [if_pos (Or.inl hm)]
    clear HX hbd
    go_enter Try.func26, Try.ntmps26
    go_wp2_with fail
    refine (may_any ⟨sq, code, wait, q, fin, failed⟩ A cap _ (HR1 _ ?_) (by simp only; omega) hcap hw).mono ?_
    · repeat (first | exact Below.refl _ _ | refine Below.setCell ?_ (by simp) _ | refine Below.drew ?_ | refine Below.alloc ?_ (by first | (simp; done) | (simp; omega)) _)
    rw [hm]; rintro e w1 ⟨rfl, cs, rfl⟩
    go_wp2_with fail
    refine bodyPost_ret (v := .tuple #[.agg #[.int .i64 0, .int .i64 0, .int .i64 0, .slice none 0 0, .bool false, .bool false], .slice none 0 0, .int .u8 2]) ?_ rfl ?_
    · simp only [results, Try.results26]; go_simp
    · refine ⟨none, 0, .slice none 0 0, rfl, ?_, Rd.nil _ _ _ _, Nat.le_refl _, World.ownsRow_nil _ _ _ _, fun h0 => absurd h0 (by simp [R.zero])⟩
      repeat (first | exact Below.refl _ _ | refine Below.setCell ?_ (by simp) _ | refine Below.drew ?_ | refine Below.alloc ?_ (by first | (simp; done) | (simp; omega)) _)
  · obtain ⟨b1, b2, b3, -, -⟩ := hbd hm
    clear hbd
    have b3' : (q.length : Int) ≤ 16 := by omega
    cases hi : inB arg 101 699
    · obtain rfl : X = ⟨.zero, [], 2⟩ := by rw [HX]; unfold offer; rw [if_pos (Or.inr hi)]
      clear HX
      go_enter Try.func26, Try.ntmps26
      go_wp2_with fail
      refine (may_any ⟨sq, code, wait, q, fin, failed⟩ A cap _ (HR1 _ ?_) (by simp only; omega) hcap hw).mono ?_
      · repeat (first | exact Below.refl _ _ | refine Below.setCell ?_ (by simp) _ | refine Below.drew ?_ | refine Below.alloc ?_ (by first | (simp; done) | (simp; omega)) _)
      rw [hm]; rintro e w1 ⟨rfl, cs, rfl⟩
      go_wp2_with (first | (go_at_call 49; refine (within_any _ _ _ _).mono ?_; rintro e w' ⟨rfl, rfl⟩) | (go_at_call 54; refine (early_any _ _).mono ?_; rintro e w' ⟨rfl, rfl⟩))
      refine bodyPost_ret (v := .tuple #[.agg #[.int .i64 0, .int .i64 0, .int .i64 0, .slice none 0 0, .bool false, .bool false], .slice none 0 0, .int .u8 2]) ?_ rfl ?_
      · simp only [results, Try.results26]; go_simp
      · refine ⟨none, 0, .slice none 0 0, rfl, ?_, Rd.nil _ _ _ _, Nat.le_refl _, World.ownsRow_nil _ _ _ _, fun h0 => absurd h0 (by simp [R.zero])⟩
        repeat (first | exact Below.refl _ _ | refine Below.setCell ?_ (by simp) _ | refine Below.drew ?_ | refine Below.alloc ?_ (by first | (simp; done) | (simp; omega)) _)
    · have hN1 : ¬ (may ⟨sq, code, wait, q, fin, failed⟩ = false ∨ inB arg 101 699 = false) := by rw [hm, hi]; simp
      rcases fin with _ | _
      rotate_left
      · obtain rfl : X = ⟨.zero, [], 9⟩ := by rw [HX]; unfold offer; rw [if_neg hN1, if_pos rfl]
        clear HX hN1
        go_enter Try.func26, Try.ntmps26
        go_wp2_with fail
        refine (may_any ⟨sq, code, wait, q, true, failed⟩ A cap _ (HR1 _ ?_) (by simp only; omega) hcap hw).mono ?_
        · repeat (first | exact Below.refl _ _ | refine Below.setCell ?_ (by simp) _ | refine Below.drew ?_ | refine Below.alloc ?_ (by first | (simp; done) | (simp; omega)) _)
        rw [hm]; rintro e w1 ⟨rfl, cs, rfl⟩
        go_wp2_with (first | (go_at_call 49; refine (within_any _ _ _ _).mono ?_; rintro e w' ⟨rfl, rfl⟩) | (go_at_call 54; refine (early_any _ _).mono ?_; rintro e w' ⟨rfl, rfl⟩))
        refine bodyPost_ret (v := .tuple #[.agg #[.int .i64 0, .int .i64 0, .int .i64 0, .slice none 0 0, .bool false, .bool false], .slice none 0 0, .int .u8 9]) ?_ rfl ?_
        · simp only [results, Try.results26]; go_simp
        · refine ⟨none, 0, .slice none 0 0, rfl, ?_, Rd.nil _ _ _ _, Nat.le_refl _, World.ownsRow_nil _ _ _ _, fun h0 => absurd h0 (by simp [R.zero])⟩
          repeat (first | exact Below.refl _ _ | refine Below.setCell ?_ (by simp) _ | refine Below.drew ?_ | refine Below.alloc ?_ (by first | (simp; done) | (simp; omega)) _)
      · have HX2 : X = (if arg < 300 ∧ (q.length = 16 ∨ inB arg 101 199 = true ∧ 2147483647 ≤ sq + (q.length : Int)) then ⟨.zero, [], 10⟩ else if 300 ≤ arg then ⟨⟨sq, 0, 0, [], true, failed⟩, [finalO arg], 0⟩ else ⟨(next ⟨sq, code, wait, q ++ [arg], decide (200 ≤ arg), failed⟩).1, (next ⟨sq, code, wait, q ++ [arg], decide (200 ≤ arg), failed⟩).2, 0⟩) := by rw [HX]; unfold offer; rw [if_neg hN1, if_neg (by simp)]
        clear HX hN1
        by_cases h3 : 300 ≤ arg
        · obtain rfl : X = ⟨⟨sq, 0, 0, [], true, failed⟩, [finalO arg], 0⟩ := by rw [HX2, if_neg (by omega), if_pos h3]
          have d3 : decide (arg < 300) = false := by simp; omega
          have d4 : decide (300 ≤ arg) = true := by simp; omega
          have d5 : decide (200 ≤ arg) = true := by simp; omega
          clear HX2
          go_enter Try.func26, Try.ntmps26
          go_wp2_with fail
          refine (may_any ⟨sq, code, wait, q, false, failed⟩ A cap _ (HR1 _ ?_) (by simp only; omega) hcap hw).mono ?_
          · repeat (first | exact Below.refl _ _ | refine Below.setCell ?_ (by simp) _ | refine Below.drew ?_ | refine Below.alloc ?_ (by first | (simp; done) | (simp; omega)) _)
          rw [hm]; rintro e w1 ⟨rfl, cs, rfl⟩
          go_wp2_with (first | (go_at_call 49; refine (within_any _ _ _ _).mono ?_; rintro e w' ⟨rfl, rfl⟩) | (go_at_call 54; refine (early_any _ _).mono ?_; rintro e w' ⟨rfl, rfl⟩))
          refine (begin_any ⟨sq, code, wait, q, false, failed⟩ A cap _ (HR1 _ ?_) (by simp only; omega)).mono ?_
          · repeat (first | exact Below.refl _ _ | refine Below.setCell ?_ (by simp) _ | refine Below.drew ?_ | refine Below.alloc ?_ (by first | (simp; done) | (simp; omega)) _)
          rintro e w2 ⟨g, A2, cap2, rfl, hb2, h2, hoq, hnq⟩
          obtain ⟨hcc, hff⟩ := bcell hb2
          have hz2 : w.heap.size + 1 < w2.heap.size := blt hb2 (by simp)
          obtain ⟨y1, y2, x0, x1, x2, x3, x4, x5, x6, yf, -, -, -, -, -⟩ := id h2
          have hgz : w.heap.size + 1 < g := by simp at y2; omega
          have hgz' : w.heap.size + 1 ≠ g := by omega
          have hB2 : Below w.heap.size w w2 := by
            refine Below.trans ?_ (hb2.mono (by first | omega | (simp; done) | (simp; omega)))
            repeat (first | exact Below.refl _ _ | refine Below.setCell ?_ (by simp) _ | refine Below.drew ?_ | refine Below.alloc ?_ (by first | (simp; done) | (simp; omega)) _)
          clear x0 x1 x2 x3 x5 x6
          go_wp2_with fail
          refine (wstop_any g _ cap2 ⟨sq, code, wait, q, true, failed⟩ A2 [] _ _ (h2.set_fin true)).mono ?_
          rintro e w3 ⟨rfl, hb3, h3⟩
          obtain ⟨hcc3, hff3⟩ := bcellB hb3
          have hz3 : w.heap.size + 1 < w3.heap.size := Nat.lt_of_lt_of_le (by first | exact hz2 | simpa using hz2) hb3.size
          have hB3 : Below w.heap.size w w3 := by
            refine Below.trans ?_ (hb3.mono (by first | omega | (simp; done) | (simp; omega)))
            repeat (first | exact hB2 | refine Below.setCell ?_ (by first | (simp; done) | (simp; omega)) _)
          go_wp2_with fail
          refine (wfinal_any g _ 0 ⟨sq, 0, 0, [], true, failed⟩ none [] _ _ h3 arg (by simp)).mono ?_
          rintro e w4 ⟨rfl, hb4, v4, h4⟩
          obtain ⟨hcc4, hff4⟩ := bcellB hb4
          have hz4 : w.heap.size + 1 < w4.heap.size := Nat.lt_of_lt_of_le (by first | exact hz3 | simpa using hz3) hb4.size
          have hB4 : Below w.heap.size w w4 := by
            refine Below.trans ?_ (hb4.mono (by first | omega | (simp; done) | (simp; omega)))
            repeat (first | exact hB3 | refine Below.setCell ?_ (by first | (simp; done) | (simp; omega)) _ | refine Below.drew ?_ | refine Below.alloc ?_ (by first | (simp; done) | (simp; omega)) _)
          clear x4 yf
          go_wp2_with fail
          refine (wdone_any g _ 0 _ none _ v4 _ h4).mono ?_
          rintro e w9 ⟨rfl, hb9, h9⟩
          obtain ⟨hcc9, hff9⟩ := bcell hb9
          have hz9 : w.heap.size + 1 < w9.heap.size := Nat.lt_of_lt_of_le (by first | exact hz4 | simpa using hz4) hb9.size
          go_wp2_with fail
          refine bodyPost_ret (v := ?_) ?_ rfl ?_
          rotate_left
          · simp only [results, Try.results26]; go_simp; exact rfl
          · refine ans_of h9 ?_ (w.heap.size + 1) (by omega) (by simp) _ _ _ _ _ _ rfl
            refine Below.trans ?_ (hb9.mono (by first | omega | (simp; done) | (simp; omega)))
            repeat (first | exact hB4 | refine Below.setCell ?_ (by first | (simp; done) | (simp; omega)) _ | refine Below.drew ?_ | refine Below.alloc ?_ (by first | (simp; done) | (simp; omega)) _)
        · have d3 : decide (arg < 300) = true := by simp; omega
          have d4 : decide (300 ≤ arg) = false := by simp; omega
          by_cases h16 : q.length = 16
          · obtain rfl : X = ⟨.zero, [], 10⟩ := by rw [HX2, if_pos ⟨by omega, Or.inl h16⟩]
            have dn : ((q.length : Int) == 16) = true := by simp; omega
            clear HX2 h16
            go_enter Try.func26, Try.ntmps26
            go_wp2_with fail
            refine (may_any ⟨sq, code, wait, q, false, failed⟩ A cap _ (HR1 _ ?_) (by simp only; omega) hcap hw).mono ?_
            · repeat (first | exact Below.refl _ _ | refine Below.setCell ?_ (by simp) _ | refine Below.drew ?_ | refine Below.alloc ?_ (by first | (simp; done) | (simp; omega)) _)
            rw [hm]; rintro e w1 ⟨rfl, cs, rfl⟩
            go_wp2_with (first | (go_at_call 49; refine (within_any _ _ _ _).mono ?_; rintro e w' ⟨rfl, rfl⟩) | (go_at_call 54; refine (early_any _ _).mono ?_; rintro e w' ⟨rfl, rfl⟩))
            refine bodyPost_ret (v := .tuple #[.agg #[.int .i64 0, .int .i64 0, .int .i64 0, .slice none 0 0, .bool false, .bool false], .slice none 0 0, .int .u8 10]) ?_ rfl ?_
            · simp only [results, Try.results26]; go_simp
            · refine ⟨none, 0, .slice none 0 0, rfl, ?_, Rd.nil _ _ _ _, Nat.le_refl _, World.ownsRow_nil _ _ _ _, fun h0 => absurd h0 (by simp [R.zero])⟩
              repeat (first | exact Below.refl _ _ | refine Below.setCell ?_ (by simp) _ | refine Below.drew ?_ | refine Below.alloc ?_ (by first | (simp; done) | (simp; omega)) _)
          · have dn : ((q.length : Int) == 16) = false := by simp; omega
            have hgo : ¬ (inB arg 101 199 = true ∧ 2147483647 ≤ sq + (q.length : Int)) ∨ (inB arg 101 199 = true ∧ 2147483647 ≤ sq + (q.length : Int)) := (Decidable.em _).symm
            rcases hgo with hgo | hgo
            rotate_left
            · obtain rfl : X = ⟨.zero, [], 10⟩ := by rw [HX2, if_pos ⟨by omega, Or.inr hgo⟩]
              obtain ⟨he, hs⟩ := hgo
              have ds : decide (2147483647 ≤ sq + (q.length : Int)) = true := by simp; omega
              clear HX2 h16
              go_enter Try.func26, Try.ntmps26
              go_wp2_with fail
              refine (may_any ⟨sq, code, wait, q, false, failed⟩ A cap _ (HR1 _ ?_) (by simp only; omega) hcap hw).mono ?_
              · repeat (first | exact Below.refl _ _ | refine Below.setCell ?_ (by simp) _ | refine Below.drew ?_ | refine Below.alloc ?_ (by first | (simp; done) | (simp; omega)) _)
              rw [hm]; rintro e w1 ⟨rfl, cs, rfl⟩
              go_wp2_with (first | (go_at_call 49; refine (within_any _ _ _ _).mono ?_; rintro e w' ⟨rfl, rfl⟩) | (go_at_call 54; refine (early_any _ _).mono ?_; rintro e w' ⟨rfl, rfl⟩))
              refine bodyPost_ret (v := .tuple #[.agg #[.int .i64 0, .int .i64 0, .int .i64 0, .slice none 0 0, .bool false, .bool false], .slice none 0 0, .int .u8 10]) ?_ rfl ?_
              · simp only [results, Try.results26]; go_simp
              · refine ⟨none, 0, .slice none 0 0, rfl, ?_, Rd.nil _ _ _ _, Nat.le_refl _, World.ownsRow_nil _ _ _ _, fun h0 => absurd h0 (by simp [R.zero])⟩
                repeat (first | exact Below.refl _ _ | refine Below.setCell ?_ (by simp) _ | refine Below.drew ?_ | refine Below.alloc ?_ (by first | (simp; done) | (simp; omega)) _)
            · obtain rfl : X = ⟨(next ⟨sq, code, wait, q ++ [arg], decide (200 ≤ arg), failed⟩).1, (next ⟨sq, code, wait, q ++ [arg], decide (200 ≤ arg), failed⟩).2, 0⟩ := by rw [HX2, if_neg (fun e => e.2.elim h16 hgo), if_neg h3]
              clear HX2 h16
              have hcs : inB arg 101 199 = false ∨ inB arg 101 199 = true ∧ decide (2147483647 ≤ sq + (q.length : Int)) = false := by
                cases he : inB arg 101 199
                · exact Or.inl rfl
                · exact Or.inr ⟨rfl, by simp; have : ¬ 2147483647 ≤ sq + (q.length : Int) := fun h => hgo ⟨he, h⟩; omega⟩
              clear hgo
              rcases hcs with he | ⟨he, hs⟩
              all_goals
              go_enter Try.func26, Try.ntmps26
              go_wp2_with fail
              refine (may_any ⟨sq, code, wait, q, false, failed⟩ A cap _ (HR1 _ ?_) (by simp only; omega) hcap hw).mono ?_
              · repeat (first | exact Below.refl _ _ | refine Below.setCell ?_ (by simp) _ | refine Below.drew ?_ | refine Below.alloc ?_ (by first | (simp; done) | (simp; omega)) _)
              rw [hm]; rintro e w1 ⟨rfl, cs, rfl⟩
              go_wp2_with (first | (go_at_call 49; refine (within_any _ _ _ _).mono ?_; rintro e w' ⟨rfl, rfl⟩) | (go_at_call 54; refine (early_any _ _).mono ?_; rintro e w' ⟨rfl, rfl⟩))
              refine (begin_any ⟨sq, code, wait, q, false, failed⟩ A cap _ (HR1 _ ?_) (by simp only; omega)).mono ?_
              · repeat (first | exact Below.refl _ _ | refine Below.setCell ?_ (by simp) _ | refine Below.drew ?_ | refine Below.alloc ?_ (by first | (simp; done) | (simp; omega)) _)
              rintro e w2 ⟨g, A2, cap2, rfl, hb2, h2, hoq, hnq⟩
              obtain ⟨hcc, hff⟩ := bcell hb2
              have hz2 : w.heap.size + 1 < w2.heap.size := blt hb2 (by simp)
              obtain ⟨y1, y2, x0, x1, x2, x3, x4, x5, x6, yf, -, -, -, -, -⟩ := id h2
              have hgz : w.heap.size + 1 < g := by simp at y2; omega
              have hgz' : w.heap.size + 1 ≠ g := by omega
              have hB2 : Below w.heap.size w w2 := by
                refine Below.trans ?_ (hb2.mono (by first | omega | (simp; done) | (simp; omega)))
                repeat (first | exact Below.refl _ _ | refine Below.setCell ?_ (by simp) _ | refine Below.drew ?_ | refine Below.alloc ?_ (by first | (simp; done) | (simp; omega)) _)
              have hof := own_set hoq (p := ⟨g, 4, none⟩) hnq (.bool (decide (200 ≤ arg)))
              have hnR : (Value.slice A2 q.length cap2).ownBlock ≠ some (w.heap.size + 1) := fun e => by have := (hoq.lt _ e).1; first | (simp at this; done) | (simp at this; omega)
              have hlq : q.length ≤ 16 := b3
              have HK := hide h2
              clear x0 x1 x2 x5 x6 hcap hl
              go_wp2_with (at_builtin; refine wpList_push elI (by rfl) _ _ (by rfl) _ (.slice A2 q.length cap2) q.length (ints q) (by rfl) (hof.alloc _) w2.heap.size 1 1 #[.int .i64 arg] (by rfl) (hhere _ _ _ (by simp)) rfl (by simp [Value.oneCell']) (by omega) ⟨by simp only [maxLen]; omega, by omega⟩ (by first | (simp; done) | (simp at y2 ⊢; omega)) ?_; intro gg cp3 w3 hown3 hp3; have hr3 := fun o => hp3.cell g o (by simp; omega) hnq; have hf3 := fun o => hp3.frozen g o (by simp; omega) hnq; have hR3 := fun o => hp3.cell (w.heap.size + 1) o (by simp; omega) hnR; have hRf3 := fun o => hp3.frozen (w.heap.size + 1) o (by simp; omega) hnR; have hz3 : w.heap.size + 1 < w3.heap.size := hp3.size _ (by simp; omega))
              have hq3 := WkAt.set_qpush ((HK.out.set_fin (decide (200 ≤ arg))).alloc _) hnq hp3 hown3
              clear hoq hof hown3
              have hB3 : Below w.heap.size w w3 := by
                refine Below.trans ?_ (hp3.below.mono (by first | omega | (simp; done) | (simp; omega)))
                repeat (first | exact hB2 | refine Below.setCell ?_ (by first | (simp; done) | (simp; omega)) _ | refine Below.alloc ?_ (by first | (simp; done) | (simp; omega)) _)
              refine (next_any g _ cp3 ⟨sq, code, wait, q ++ [arg], decide (200 ≤ arg), failed⟩ _ [] _ _ hq3 (by simp) ⟨b1, b2⟩ (by simp; omega)).mono ?_
              rintro e w4 ⟨rfl, hb4, A4, cap4, v4, h4⟩
              obtain ⟨hcc4, hff4⟩ := bcellB hb4
              have hz4 : w.heap.size + 1 < w4.heap.size := Nat.lt_of_lt_of_le (by first | exact hz3 | simpa using hz3) hb4.size
              have hB4 : Below w.heap.size w w4 := by
                refine Below.trans ?_ (hb4.mono (by first | omega | (simp; done) | (simp; omega)))
                repeat (first | exact hB3 | refine Below.setCell ?_ (by first | (simp; done) | (simp; omega)) _ | refine Below.drew ?_ | refine Below.alloc ?_ (by first | (simp; done) | (simp; omega)) _)
              clear yf
              go_wp2_with fail
              refine (wdone_any g _ cap4 _ A4 _ v4 _ h4).mono ?_
              rintro e w9 ⟨rfl, hb9, h9⟩
              obtain ⟨hcc9, hff9⟩ := bcell hb9
              have hz9 : w.heap.size + 1 < w9.heap.size := Nat.lt_of_lt_of_le (by first | exact hz4 | simpa using hz4) hb9.size
              go_wp2_with fail
              refine bodyPost_ret (v := ?_) ?_ rfl ?_
              rotate_left
              · simp only [results, Try.results26]; go_simp; exact rfl
              · refine ans_of h9 ?_ (w.heap.size + 1) (by omega) (by simp) _ _ _ _ _ _ rfl
                refine Below.trans ?_ (hb9.mono (by first | omega | (simp; done) | (simp; omega)))
                repeat (first | exact hB4 | refine Below.setCell ?_ (by first | (simp; done) | (simp; omega)) _ | refine Below.drew ?_ | refine Below.alloc ?_ (by first | (simp; done) | (simp; omega)) _)
end Go.Proofs.Ytdllehgiambkcaa.Pv
