/- The walk of the reference's Same, and of the law's copied. -/
import Derived.Test.YtdllehgiambkcaaPvSame
import Derived.Test.YtdllehgiambkcaaPvWk
namespace Go.Proofs.Ytdllehgiambkcaa.Pv
open Go.RowKit

set_option maxRecDepth 10000 in
set_option maxHeartbeats 4000000 in
theorem rsame_any (r s : R) (A B : Option Addr) (c d : Nat) (w : World) (hA : Rd w w.heap.size 1 A r.q.length (ints r.q)) (hB : Rd w w.heap.size 1 B s.q.length (ints s.q)) (hn : r.q.length ≤ 1000) :
    Calls Try.prog 44 #[.agg #[.int .i64 r.seq, .int .i64 r.code, .int .i64 r.wait, .slice A r.q.length c, .bool r.fin, .bool r.failed], .agg #[.int .i64 s.seq, .int .i64 s.code, .int .i64 s.wait, .slice B s.q.length d, .bool s.fin, .bool s.failed]] w fun e w' => e = .returned (.bool (sameR r s)) ∧ Below w.heap.size w w' := by
  obtain ⟨X, HX⟩ : ∃ X, sameR r s = X := ⟨_, rfl⟩
  rw [HX]
  obtain ⟨x0, x1, x2, q, x4, x5⟩ := r
  obtain ⟨y0, y1, y2, q', y4, y5⟩ := s
  simp only [sameR] at *
  have HXX := hide HX
  clear HX
  have hbw : ∀ k, Below w.heap.size w (((w.alloc (.cells #[.int .i64 x0, .int .i64 x1, .int .i64 x2, .slice A q.length c, .bool x4, .bool x5] 61)).alloc (.cells #[.int .i64 y0, .int .i64 y1, .int .i64 y2, .slice B q'.length d, .bool y4, .bool y5] 61)).drewN k) :=
    fun k => below_drewN' (((Below.refl _ _).alloc (Nat.le_refl _) _).alloc (by simp) _) k
  by_cases hl : q.length = q'.length
  rotate_left
  · have hb : ((q.length : Int) != (q'.length : Int)) = true := by simpa using fun h => hl (by omega)
    have e : (q == q') = false := by rw [beq_eq_false_iff_ne]; rintro rfl; exact hl rfl
    have E := hide e; have HL := hide hl; clear e hl
    have hf : Ending.returned (.bool false) = Ending.returned (.bool X) := ret_bool (by rw [← HXX.out, E.out]; simp)
    have HF := hide hf
    clear hf
    cases h0 : (x0 != y0)
    · cases h1 : (x1 != y1)
      · cases h2 : (x2 != y2)
        · by_cases h4 : x4 = y4
          · subst h4
            by_cases h5 : x5 = y5
            · subst h5
              go_enter Try.func44, Try.ntmps44
              go_wp2_with fail
              go_ret
              exact ⟨HF.out, by repeat (first | exact Below.refl _ _ | refine Below.drew ?_ | refine Below.alloc ?_ (by first | (simp; done) | (simp; omega)) _)⟩
            · obtain rfl : x5 = !y5 := by cases x5 <;> cases y5 <;> simp_all
              clear h5
              go_enter Try.func44, Try.ntmps44
              go_wp2_with fail
              go_ret
              exact ⟨HF.out, by repeat (first | exact Below.refl _ _ | refine Below.drew ?_ | refine Below.alloc ?_ (by first | (simp; done) | (simp; omega)) _)⟩
          · obtain rfl : x4 = !y4 := by cases x4 <;> cases y4 <;> simp_all
            clear h4
            go_enter Try.func44, Try.ntmps44
            go_wp2_with fail
            go_ret
            exact ⟨HF.out, by repeat (first | exact Below.refl _ _ | refine Below.drew ?_ | refine Below.alloc ?_ (by first | (simp; done) | (simp; omega)) _)⟩
        · go_enter Try.func44, Try.ntmps44
          go_wp2_with fail
          go_ret
          exact ⟨HF.out, by repeat (first | exact Below.refl _ _ | refine Below.drew ?_ | refine Below.alloc ?_ (by first | (simp; done) | (simp; omega)) _)⟩
      · go_enter Try.func44, Try.ntmps44
        go_wp2_with fail
        go_ret
        exact ⟨HF.out, by repeat (first | exact Below.refl _ _ | refine Below.drew ?_ | refine Below.alloc ?_ (by first | (simp; done) | (simp; omega)) _)⟩
    · go_enter Try.func44, Try.ntmps44
      go_wp2_with fail
      go_ret
      exact ⟨HF.out, by repeat (first | exact Below.refl _ _ | refine Below.drew ?_ | refine Below.alloc ?_ (by first | (simp; done) | (simp; omega)) _)⟩
  have hb : ((q.length : Int) != (q'.length : Int)) = false := by simp [hl]
  have HL := hide hl; clear hl
  have hlt' : ∀ k, k < q.length → k < q'.length := fun k h => by have := HL.out; omega
  have HT := hide hlt'; clear hlt'
  have hn' : (q.length : Int) ≤ 1000 := by omega
  by_cases hall : x0 = y0 ∧ x1 = y1 ∧ x2 = y2 ∧ x4 = y4 ∧ x5 = y5
  rotate_left
  · have hf : Ending.returned (.bool false) = Ending.returned (.bool X) := ret_bool (by
      rw [← HXX.out]
      cases e : (q == q' && x0 == y0 && x1 == y1 && x2 == y2 && x4 == y4 && x5 == y5)
      · rfl
      · simp at e; exact absurd ⟨e.1.1.1.1.2, e.1.1.1.2, e.1.1.2, e.1.2, e.2⟩ hall)
    have HF := hide hf
    clear hf
    cases h0 : (x0 != y0)
    · cases h1 : (x1 != y1)
      · cases h2 : (x2 != y2)
        · by_cases h4 : x4 = y4
          · subst h4
            by_cases h5 : x5 = y5
            · exfalso
              simp at h0 h1 h2
              exact hall ⟨h0, h1, h2, rfl, h5⟩
            · obtain rfl : x5 = !y5 := by cases x5 <;> cases y5 <;> simp_all
              clear h5 hall
              go_enter Try.func44, Try.ntmps44
              go_wp2_with fail
              go_ret
              exact ⟨HF.out, by repeat (first | exact Below.refl _ _ | refine Below.drew ?_ | refine Below.alloc ?_ (by first | (simp; done) | (simp; omega)) _)⟩
          · obtain rfl : x4 = !y4 := by cases x4 <;> cases y4 <;> simp_all
            clear h4 hall
            go_enter Try.func44, Try.ntmps44
            go_wp2_with fail
            go_ret
            exact ⟨HF.out, by repeat (first | exact Below.refl _ _ | refine Below.drew ?_ | refine Below.alloc ?_ (by first | (simp; done) | (simp; omega)) _)⟩
        · clear hall
          go_enter Try.func44, Try.ntmps44
          go_wp2_with fail
          go_ret
          exact ⟨HF.out, by repeat (first | exact Below.refl _ _ | refine Below.drew ?_ | refine Below.alloc ?_ (by first | (simp; done) | (simp; omega)) _)⟩
      · clear hall
        go_enter Try.func44, Try.ntmps44
        go_wp2_with fail
        go_ret
        exact ⟨HF.out, by repeat (first | exact Below.refl _ _ | refine Below.drew ?_ | refine Below.alloc ?_ (by first | (simp; done) | (simp; omega)) _)⟩
    · clear hall
      go_enter Try.func44, Try.ntmps44
      go_wp2_with fail
      go_ret
      exact ⟨HF.out, by repeat (first | exact Below.refl _ _ | refine Below.drew ?_ | refine Below.alloc ?_ (by first | (simp; done) | (simp; omega)) _)⟩
  obtain ⟨rfl, rfl, rfl, rfl, rfl⟩ := hall
  have HE0 : Hid (X = (q == q')) := hide (by rw [← HXX.out]; simp)
  clear HXX
  have d0 : (x0 != x0) = false := by simp
  have d1 : (x1 != x1) = false := by simp
  have d2 : (x2 != x2) = false := by simp
  go_enter Try.func44, Try.ntmps44
  go_wp2_with fail
  have hA1 := ((hA.alloc (Nat.le_refl _) (.cells #[.int .i64 x0, .int .i64 x1, .int .i64 x2, .slice A q.length c, .bool x4, .bool x5] 61)).alloc (by simp) (.cells #[.int .i64 x0, .int .i64 x1, .int .i64 x2, .slice B q'.length d, .bool x4, .bool x5] 61))
  have hB1 := ((hB.alloc (Nat.le_refl _) (.cells #[.int .i64 x0, .int .i64 x1, .int .i64 x2, .slice A q.length c, .bool x4, .bool x5] 61)).alloc (by simp) (.cells #[.int .i64 x0, .int .i64 x1, .int .i64 x2, .slice B q'.length d, .bool x4, .bool x5] 61))
  go_loopw [5] (fun i wr => ∃ k : Nat, k ≤ q.length ∧ i = .int .i64 k ∧ (q == q') = (q.drop k == q'.drop k) ∧ ∃ m, wr = ((w.alloc (.cells #[.int .i64 x0, .int .i64 x1, .int .i64 x2, .slice A q.length c, .bool x4, .bool x5] 61)).alloc (.cells #[.int .i64 x0, .int .i64 x1, .int .i64 x2, .slice B q'.length d, .bool x4, .bool x5] 61)).drewN m) (fun i _ => q.length - (intOf i).toNat)
  case atStart => exact ⟨0, by omega, rfl, rfl, 0, rfl⟩
  case round =>
    obtain ⟨k, hk, rfl, he, m, rfl⟩ := hrel
    have HE := hide he; clear he
    by_cases hlt : k < q.length
    · have hlt' := HT.out k hlt
      have HD := hide (idrop_eq hlt hlt')
      obtain ⟨b, o, rfl, hb1, e0⟩ := Rd.intAt hA hlt
      obtain ⟨b', o', rfl, hb2, e0'⟩ := Rd.intAt hB hlt'
      have hb1' : b < w.heap.size + 1 := by omega
      have hb2' : b' < w.heap.size + 1 := by omega
      by_cases hq : q[k] = q'[k]
      · have HQ := hide hq
        rw [← hq] at e0'
        clear hq
        go_wp2
        go_quiet (fail)
        go_wp2
        go_roundw
        case rel => exact ⟨k + 1, by omega, by go_num, by rw [HE.out, HD.out, decide_eq_true HQ.out, Bool.true_and], _, rfl⟩
        case measure => simp [intOf]; omega
      · have hq' : (q[k] != q'[k]) = true := by simpa using hq
        have HQ := hide hq; clear hq
        go_wp2
        go_quiet (fail)
        go_wp2
        go_ret
        refine ⟨ret_bool (by rw [HE0.out, HE.out, HD.out, decide_eq_false HQ.out, Bool.false_and]), ?_⟩
        rw [World.drewN_drewN]
        exact hbw _
    · go_wp2
      go_ret
      refine ⟨ret_bool ?_, hbw _⟩
      have := HL.out
      rw [HE0.out, HE.out, List.drop_of_length_le (by omega), List.drop_of_length_le (by omega)]
      rfl

set_option maxRecDepth 10000 in
set_option maxHeartbeats 4000000 in
theorem copied_any (r : R) (q' : List Int) (A : Option Addr) (cap : Nat) (w : World) (hR : Rd w w.heap.size 1 A r.q.length (ints r.q)) (hcap : r.q.length ≤ cap) (hq : q' = r.q.take 40) :
    Calls Try.prog 41 #[.agg #[.int .i64 r.seq, .int .i64 r.code, .int .i64 r.wait, .slice A r.q.length cap, .bool r.fin, .bool r.failed]] w fun e w' =>
      ∃ A' cap', e = .returned (.agg #[.int .i64 r.seq, .int .i64 r.code, .int .i64 r.wait, .slice A' q'.length cap', .bool r.fin, .bool r.failed]) ∧ Below w.heap.size w w' ∧ Rd w' w'.heap.size 1 A' q'.length (ints q') ∧ q'.length ≤ cap' ∧ (0 < q'.length → ∀ b o, A' = some ⟨b, o, none⟩ → w.heap.size ≤ b) := by
  obtain ⟨x0, x1, x2, q, x4, x5⟩ := r
  simp only at *
  have hbel : Below w.heap.size w ((w.alloc (.cells #[.int .i64 x0, .int .i64 x1, .int .i64 x2, .slice A q.length cap, .bool x4, .bool x5] 61)).alloc (.cells #[.int .i64 0, .int .i64 0, .int .i64 0, .slice none 0 0, .bool false, .bool false] 61)) :=
    ((Below.refl _ _).alloc (Nat.le_refl _) _).alloc (by simp) _
  rcases A with _ | ⟨b, o, sp⟩
  · have h0 : q.length = 0 := by
      rcases Nat.eq_zero_or_pos q.length with h | h
      · exact h
      · obtain ⟨b, o, e, -⟩ := hR.2 h; cases e
    obtain rfl : q = [] := List.eq_nil_of_length_eq_zero h0
    obtain rfl : q' = [] := by rw [hq]; rfl
    clear hq h0
    go_enter Try.func41, Try.ntmps41
    go_wp2_with fail
    refine bodyPost_ret (v := .agg #[.int .i64 x0, .int .i64 x1, .int .i64 x2, .slice none 0 0, .bool x4, .bool x5]) ?_ rfl ?_
    · simp only [results, Try.results41]; go_simp
    · refine ⟨none, 0, rfl, ?_, Rd.nil _ _ _ _, Nat.le_refl _, fun h0 => absurd h0 (by simp)⟩
      repeat (first | exact hbel | exact Below.refl _ _ | refine Below.setCell ?_ (by simp) _ | refine Below.drew ?_ | refine Below.alloc ?_ (by first | (simp; done) | (simp; omega)) _)
  · by_cases h0 : q.length = 0
    · obtain rfl : q = [] := List.eq_nil_of_length_eq_zero h0
      obtain rfl : q' = [] := by rw [hq]; rfl
      clear hq h0
      have hc0 : (0 : Int) ≤ (cap : Int) := by omega
      go_enter Try.func41, Try.ntmps41
      go_wp2_with fail
      refine bodyPost_ret (v := .agg #[.int .i64 x0, .int .i64 x1, .int .i64 x2, .slice none 0 0, .bool x4, .bool x5]) ?_ rfl ?_
      · simp only [results, Try.results41]; go_simp
      · refine ⟨none, 0, rfl, ?_, Rd.nil _ _ _ _, Nat.le_refl _, fun h0 => absurd h0 (by simp)⟩
        repeat (first | exact hbel | exact Below.refl _ _ | refine Below.setCell ?_ (by simp) _ | refine Below.drew ?_ | refine Below.alloc ?_ (by first | (simp; done) | (simp; omega)) _)
    · obtain ⟨b', o', e, hb, hc⟩ := hR.2 (by omega)
      injection e with e
      injection e with e1 e2 e3
      subst e1 e2 e3
      rcases (show q.length ≤ 40 ∨ ¬ q.length ≤ 40 by omega) with h40 | h40
      · have hm : q'.length = q.length := by rw [hq, List.length_take]; omega
        have hread : ∀ j u, (ints q')[j]? = some u → w.cell? ⟨b, o + j, none⟩ = some u := by
          intro j u hu
          refine hc j u ?_
          rw [hq] at hu
          simp only [ints, List.map_take] at hu ⊢
          rw [List.getElem?_take] at hu
          split at hu
          · exact hu
          · cases hu
        have hil : (ints q').length = q.length * 1 := by rw [ints_len, hm]; omega
        have k1 : 0 < q.length := by omega
        have k2 : (0 : Int) < (q.length : Int) := by omega
        have k3 : (q.length : Int) ≤ (cap : Int) := by omega
        have k4 : (q.length : Int) ≤ 40 := by omega
        have HM := hide hm
        have HI := hide hil
        have HR := hide hread
        clear hm hq hil hread hc hR
        go_enter Try.func41, Try.ntmps41
        go_wp2_with (at_builtin; refine wpList_pushRd elI (by rfl) _ _ (by rfl) (w.heap.size + 2) (.slice none 0 0) 0 [] (by rfl) (World.ownsRow_nil _ _ _ _) b o q.length cap (ints q') (by rfl) (HI.out) (fun j u hu => (World.cell?_alloc_past (w := w.alloc _) _ b _ (by simp; omega)).trans ((World.cell?_alloc_past (w := w) _ b _ hb).trans (HR.out j u hu))) (ints_one q') (by omega) ⟨by simp only [maxLen]; omega, by omega⟩ (by simp) ?_; intro gg cap2 w1 hown1 hp1; simp only [Nat.zero_add, List.nil_append] at hown1 ⊢; have hz : w.heap.size + 1 < w1.heap.size := hp1.size _ (by simp); have hz' : w.heap.size < w1.heap.size := hp1.size _ (by simp; omega); have hcc := fun o => hp1.cell w.heap.size o (by simp; omega) (by simp [Value.ownBlock]); have hff := fun o => hp1.frozen w.heap.size o (by simp; omega) (by simp [Value.ownBlock]); have hcc' := fun o => hp1.cell (w.heap.size + 1) o (by simp) (by simp [Value.ownBlock]); have hff' := fun o => hp1.frozen (w.heap.size + 1) o (by simp) (by simp [Value.ownBlock]))
        obtain ⟨A1, c1, e1, hle1, hR1⟩ := own_slice hown1
        injection e1 with e1 e2 e3
        subst e1 e3
        have hb1 := hp1.below
        have hgg := (hown1.lt gg (by simp [Value.ownBlock])).1
        refine bodyPost_ret (v := .agg #[.int .i64 x0, .int .i64 x1, .int .i64 x2, .slice (some ⟨gg, 0, none⟩) q.length cap2, .bool x4, .bool x5]) ?_ rfl ?_
        · simp only [results, Try.results41]; go_simp
        · rw [HM.out]
          refine ⟨_, _, rfl, ?_, ?_, hle1, fun h0 b o e => ?_⟩
          · have hB := hbel.trans (hb1.mono (by simp))
            repeat (first | with_reducible exact hB | with_reducible refine Below.setCell ?_ (by first | (simp; done) | (simp; omega)) _ | refine Below.drew ?_)
          · simp only [World.size_setCell]
            have hne : ∀ (n g : Nat), g < gg → 0 < n → ∀ b o : Nat, (some ⟨gg, 0, none⟩ : Option Addr) = some ⟨b, o, none⟩ → b ≠ g := by
              intro n g hg _ b o e; injection e with e; injection e with e; omega
            refine rd_set (rd_set (rd_set (rd_set (rd_set (rd_set (rd_set hR1 (hne _ _ (by omega)) _) (hne _ _ (by omega)) _) (hne _ _ (by omega)) _) (hne _ _ (by omega)) _) (hne _ _ (by omega)) _) (hne _ _ (by omega)) _) (hne _ _ (by omega)) _
          · injection e with e; injection e with e; omega
      · have hm : q'.length = 40 := by rw [hq, List.length_take]; omega
        have hread : ∀ j u, (ints q')[j]? = some u → w.cell? ⟨b, o + j, none⟩ = some u := by
          intro j u hu
          refine hc j u ?_
          rw [hq] at hu
          simp only [ints, List.map_take] at hu ⊢
          rw [List.getElem?_take] at hu
          split at hu
          · exact hu
          · cases hu
        have hil : (ints q').length = 40 * 1 := by rw [ints_len, hm]
        have k1 : 0 < q.length := by omega
        have k2 : (0 : Int) < (q.length : Int) := by omega
        have k3 : (q.length : Int) ≤ (cap : Int) := by omega
        have k4 : (40 : Int) < (q.length : Int) := by omega
        have k5 : (40 : Int) ≤ (cap : Int) := by omega
        have k6 : 40 ≤ cap := by omega
        have HM := hide hm
        have HI := hide hil
        have HR := hide hread
        clear hm hq hil hread hc hR
        go_enter Try.func41, Try.ntmps41
        go_wp2_with (at_builtin; refine wpList_pushRd elI (by rfl) _ _ (by rfl) (w.heap.size + 2) (.slice none 0 0) 0 [] (by rfl) (World.ownsRow_nil _ _ _ _) b o 40 cap (ints q') (by rfl) (HI.out) (fun j u hu => (World.cell?_alloc_past (w := w.alloc _) _ b _ (by simp; omega)).trans ((World.cell?_alloc_past (w := w) _ b _ hb).trans (HR.out j u hu))) (ints_one q') (by omega) ⟨by simp only [maxLen]; omega, by omega⟩ (by simp) ?_; intro gg cap2 w1 hown1 hp1; simp only [Nat.zero_add, List.nil_append] at hown1 ⊢; have hz : w.heap.size + 1 < w1.heap.size := hp1.size _ (by simp); have hz' : w.heap.size < w1.heap.size := hp1.size _ (by simp; omega); have hcc := fun o => hp1.cell w.heap.size o (by simp; omega) (by simp [Value.ownBlock]); have hff := fun o => hp1.frozen w.heap.size o (by simp; omega) (by simp [Value.ownBlock]); have hcc' := fun o => hp1.cell (w.heap.size + 1) o (by simp) (by simp [Value.ownBlock]); have hff' := fun o => hp1.frozen (w.heap.size + 1) o (by simp) (by simp [Value.ownBlock]))
        obtain ⟨A1, c1, e1, hle1, hR1⟩ := own_slice hown1
        injection e1 with e1 e2 e3
        subst e1 e3
        have hb1 := hp1.below
        have hgg := (hown1.lt gg (by simp [Value.ownBlock])).1
        refine bodyPost_ret (v := .agg #[.int .i64 x0, .int .i64 x1, .int .i64 x2, .slice (some ⟨gg, 0, none⟩) 40 cap2, .bool x4, .bool x5]) ?_ rfl ?_
        · simp only [results, Try.results41]; go_simp
        · rw [HM.out]
          refine ⟨_, _, rfl, ?_, ?_, hle1, fun h0 b o e => ?_⟩
          · have hB := hbel.trans (hb1.mono (by simp))
            repeat (first | with_reducible exact hB | with_reducible refine Below.setCell ?_ (by first | (simp; done) | (simp; omega)) _ | refine Below.drew ?_)
          · simp only [World.size_setCell]
            have hne : ∀ (n g : Nat), g < gg → 0 < n → ∀ b o : Nat, (some ⟨gg, 0, none⟩ : Option Addr) = some ⟨b, o, none⟩ → b ≠ g := by
              intro n g hg _ b o e; injection e with e; injection e with e; omega
            refine rd_set (rd_set (rd_set (rd_set (rd_set (rd_set (rd_set hR1 (hne _ _ (by omega)) _) (hne _ _ (by omega)) _) (hne _ _ (by omega)) _) (hne _ _ (by omega)) _) (hne _ _ (by omega)) _) (hne _ _ (by omega)) _) (hne _ _ (by omega)) _
          · injection e with e; injection e with e; omega
end Go.Proofs.Ytdllehgiambkcaa.Pv
