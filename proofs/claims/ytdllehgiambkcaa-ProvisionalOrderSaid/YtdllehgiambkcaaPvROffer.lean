/- The walk of the reference's Offer of chapter 18. Printed by mk_racts18.py. -/
import Derived.Test.YtdllehgiambkcaaPvRFire
namespace Go.Proofs.Ytdllehgiambkcaa.Pv
open Go.RowKit

theorem box_pushed {w w' : World} {base b g : Nat} {v : Value} {cs : Array Value} (h : Box w b cs) (hp : Pushed base v w w' g) (hne : v.ownBlock ≠ some b) : Box w' b cs :=
  ⟨hp.size _ h.lt, fun o => (hp.cell b o h.lt hne).trans (h.cell o), fun o => (hp.frozen b o h.lt hne).trans (h.free o)⟩
theorem box_set {w : World} {b : Nat} {cs : Array Value} (h : Box w b cs) (i : Nat) (hi : i < cs.size) (u : Value) : Box (w.setCell ⟨b, i, none⟩ u) b (cs.setIfInBounds i u) := by
  refine ⟨by simp only [World.size_setCell]; exact h.lt, fun o => ?_, fun o => by rw [World.frozen?_setCell]; exact h.free o⟩
  by_cases e : i = o
  · subst e
    rw [cset_eq w b i u cs[i] (by rw [h.cell]; exact Array.getElem?_eq_getElem hi), Array.getElem?_setIfInBounds_self_of_lt hi]
  · rw [cset_ne w b i o u e, h.cell, Array.getElem?_setIfInBounds_ne e]
theorem box_far {w : World} {b g i : Nat} {cs : Array Value} (h : Box w b cs) (hg : g ≠ b) (u : Value) : Box (w.setCell ⟨g, i, none⟩ u) b cs :=
  ⟨by simp only [World.size_setCell]; exact h.lt, fun o => (World.cell?_setCell_far _ ⟨g, i, none⟩ ⟨b, o, none⟩ _ hg).trans (h.cell o), fun o => by rw [World.frozen?_setCell]; exact h.free o⟩

set_option maxRecDepth 10000 in
set_option maxHeartbeats 4000000 in
theorem roffer_any (r : R) (A : Option Addr) (cap : Nat) (w : World) (arg : Int) (hR : Rd w w.heap.size 1 A r.q.length (ints r.q)) (hl : r.q.length ≤ 900) (hcap : r.q.length ≤ cap) :
    Calls Try.prog 45 #[.agg #[.int .i64 r.seq, .int .i64 r.code, .int .i64 r.wait, .slice A r.q.length cap, .bool r.fin, .bool r.failed], .int .i64 arg] w (RAns w r.q.length A (offer r arg)) := by
  have HR1 : ∀ W : World, Below w.heap.size w W → Rd W W.heap.size 1 A r.q.length (ints r.q) := fun W hb => (hR.below hb).more hb.size
  have hold : 0 < r.q.length → ∀ b o, A = some ⟨b, o, none⟩ → b < w.heap.size := by
    intro h0 b o e
    obtain ⟨b', o', e', hb', -⟩ := hR.2 h0
    rw [e] at e'
    injection e' with e'
    injection e' with e'
    omega
  have hgd := fun h => may_good (r := r) h
  obtain ⟨X, HX⟩ : ∃ X, X = offer r arg := ⟨_, rfl⟩
  rw [← HX]
  obtain ⟨sq, code, wait, q, fin, failed⟩ := r
  simp only at *
  cases hm : may ⟨sq, code, wait, q, fin, failed⟩
  · obtain rfl : X = ⟨.zero, [], 2⟩ := by rw [HX]; unfold offer; rw [if_pos (Or.inl hm)]
    clear HX hgd
    go_enter Try.func45, Try.ntmps45
    go_wp2_with fail
    refine (rmay_any ⟨sq, code, wait, q, fin, failed⟩ A cap _ (HR1 _ ?_) (by simp only; omega) hcap).mono ?_
    · repeat (first | exact Below.refl _ _ | refine Below.setCell ?_ (by simp) _ | refine Below.drew ?_ | refine Below.alloc ?_ (by first | (simp; done) | (simp; omega)) _)
    rw [hm]; rintro e w1 ⟨rfl, cs, rfl⟩
    go_wp2_with (go_at_call 72; refine (from_any _ _ _ _).mono ?_; rintro e w' ⟨rfl, rfl⟩)
    refine bodyPost_ret (v := .tuple #[.agg #[.int .i64 0, .int .i64 0, .int .i64 0, .slice none 0 0, .bool false, .bool false], .slice none 0 0, .int .u8 2]) ?_ rfl ?_
    · simp only [results, Try.results45]; go_simp
    · refine ⟨none, 0, none, 0, rfl, ?_, Rd.nil _ _ _ _, Nat.le_refl _, Rd.nil _ _ _ _, fun h0 => absurd h0 (by simp [R.zero]), fun b o e => by cases e⟩
      repeat (first | exact Below.refl _ _ | refine Below.setCell ?_ (by simp) _ | refine Below.drew ?_ | refine Below.alloc ?_ (by first | (simp; done) | (simp; omega)) _)
  · obtain ⟨p, hg⟩ := hgd hm
    clear hgd
    have hlo := hg.lo
    have hhi : sq ≤ 2147483647 := by have := hg.hi; simp only at this; omega
    have hlen := hg.len
    simp only at hlo hlen
    cases hi : inB arg 101 699
    · obtain rfl : X = ⟨.zero, [], 2⟩ := by rw [HX]; unfold offer; rw [if_pos (Or.inr hi)]
      clear HX hg
      go_enter Try.func45, Try.ntmps45
      go_wp2_with fail
      refine (rmay_any ⟨sq, code, wait, q, fin, failed⟩ A cap _ (HR1 _ ?_) (by simp only; omega) hcap).mono ?_
      · repeat (first | exact Below.refl _ _ | refine Below.setCell ?_ (by simp) _ | refine Below.drew ?_ | refine Below.alloc ?_ (by first | (simp; done) | (simp; omega)) _)
      rw [hm]; rintro e w1 ⟨rfl, cs, rfl⟩
      go_wp2_with (go_at_call 72; refine (from_any _ _ _ _).mono ?_; rintro e w' ⟨rfl, rfl⟩)
      refine bodyPost_ret (v := .tuple #[.agg #[.int .i64 0, .int .i64 0, .int .i64 0, .slice none 0 0, .bool false, .bool false], .slice none 0 0, .int .u8 2]) ?_ rfl ?_
      · simp only [results, Try.results45]; go_simp
      · refine ⟨none, 0, none, 0, rfl, ?_, Rd.nil _ _ _ _, Nat.le_refl _, Rd.nil _ _ _ _, fun h0 => absurd h0 (by simp [R.zero]), fun b o e => by cases e⟩
        repeat (first | exact Below.refl _ _ | refine Below.setCell ?_ (by simp) _ | refine Below.drew ?_ | refine Below.alloc ?_ (by first | (simp; done) | (simp; omega)) _)
    · have hi1 : 101 ≤ arg ∧ arg ≤ 699 := inB_iff.mp hi
      obtain ⟨hi2, hi3⟩ := hi1
      have hno : ¬ (may ⟨sq, code, wait, q, fin, failed⟩ = false ∨ inB arg 101 699 = false) := by rw [hm, hi]; simp
      cases fin
      rotate_left
      · obtain rfl : X = ⟨.zero, [], 9⟩ := by rw [HX]; unfold offer; rw [if_neg hno, if_pos rfl]
        clear HX hg hno
        go_enter Try.func45, Try.ntmps45
        go_wp2_with fail
        refine (rmay_any ⟨sq, code, wait, q, true, failed⟩ A cap _ (HR1 _ ?_) (by simp only; omega) hcap).mono ?_
        · repeat (first | exact Below.refl _ _ | refine Below.setCell ?_ (by simp) _ | refine Below.drew ?_ | refine Below.alloc ?_ (by first | (simp; done) | (simp; omega)) _)
        rw [hm]; rintro e w1 ⟨rfl, cs, rfl⟩
        go_wp2_with (go_at_call 72; refine (from_any _ _ _ _).mono ?_; rintro e w' ⟨rfl, rfl⟩)
        refine bodyPost_ret (v := .tuple #[.agg #[.int .i64 0, .int .i64 0, .int .i64 0, .slice none 0 0, .bool false, .bool false], .slice none 0 0, .int .u8 9]) ?_ rfl ?_
        · simp only [results, Try.results45]; go_simp
        · refine ⟨none, 0, none, 0, rfl, ?_, Rd.nil _ _ _ _, Nat.le_refl _, Rd.nil _ _ _ _, fun h0 => absurd h0 (by simp [R.zero]), fun b o e => by cases e⟩
          repeat (first | exact Below.refl _ _ | refine Below.setCell ?_ (by simp) _ | refine Below.drew ?_ | refine Below.alloc ?_ (by first | (simp; done) | (simp; omega)) _)
      have hqp : q = p := by
        rcases hg.que.2 with ⟨e, -⟩ | ⟨e, -⟩
        · exact e
        · cases e
      have hfa : failed = false := by
        cases e : failed
        · rfl
        · subst e; have := (hg.fail rfl).2; cases this
      subst hfa
      have HQP := hide hqp
      clear hqp
      by_cases h300 : 300 ≤ arg
      · obtain rfl : X = ⟨⟨sq, 0, 0, [], true, false⟩, [finalO arg], 0⟩ := by rw [HX]; unfold offer; rw [if_neg hno, if_neg (by simp), if_neg (by simp only; omega), if_pos h300]
        clear HX hg hno
        go_enter Try.func45, Try.ntmps45
        go_wp2_with fail
        refine (rmay_any ⟨sq, code, wait, q, false, false⟩ A cap _ (HR1 _ ?_) (by simp only; omega) hcap).mono ?_
        · repeat (first | exact Below.refl _ _ | refine Below.setCell ?_ (by simp) _ | refine Below.drew ?_ | refine Below.alloc ?_ (by first | (simp; done) | (simp; omega)) _)
        rw [hm]; rintro e w1 ⟨rfl, cs, rfl⟩
        go_wp2_with (go_at_call 72; refine (from_any _ _ _ _).mono ?_; rintro e w' ⟨rfl, rfl⟩)
        all_goals
          refine bodyPost_ret (v := ?_) ?_ rfl ?_
          rotate_left
          · simp only [results, Try.results45]; go_simp; exact rfl
          · refine ⟨none, _, some ⟨w.heap.size + 1 + 1 + 1, 0, none⟩, 1, rfl, ?_, Rd.nil _ _ _ _, Nat.le_refl _, ?_, fun h0 => absurd h0 (by simp), fun b o e => by injection e with e; injection e with e; omega⟩
            · repeat (first | with_reducible exact Below.refl _ _ | with_reducible refine Below.setCell ?_ (by simp) _ | with_reducible refine Below.drew ?_ | with_reducible refine Below.alloc ?_ (by first | (simp; done) | (simp; omega)) _)
            · repeat (first | ((with_reducible refine rd_lit _ ?_ ?_ ?_); exact rfl; exact rfl; simp) | with_reducible refine rd_drew ?_)
      have hI : inB arg 101 199 = decide (arg < 200) := by
        rw [Bool.eq_iff_iff]; simp [inB]; omega
      by_cases h16 : q.length = 16
      · obtain rfl : X = ⟨.zero, [], 10⟩ := by rw [HX]; unfold offer; rw [if_neg hno, if_neg (by simp), if_pos ⟨by omega, Or.inl h16⟩]
        have h16' : (16 : Int) ≤ (q.length : Int) := by omega
        have H16 := hide h16
        clear HX hg hno h16
        go_enter Try.func45, Try.ntmps45
        go_wp2_with fail
        refine (rmay_any ⟨sq, code, wait, q, false, false⟩ A cap _ (HR1 _ ?_) (by simp only; omega) hcap).mono ?_
        · repeat (first | exact Below.refl _ _ | refine Below.setCell ?_ (by simp) _ | refine Below.drew ?_ | refine Below.alloc ?_ (by first | (simp; done) | (simp; omega)) _)
        rw [hm]; rintro e w1 ⟨rfl, cs, rfl⟩
        go_wp2_with (go_at_call 72; refine (from_any _ _ _ _).mono ?_; rintro e w' ⟨rfl, rfl⟩)
        refine bodyPost_ret (v := .tuple #[.agg #[.int .i64 0, .int .i64 0, .int .i64 0, .slice none 0 0, .bool false, .bool false], .slice none 0 0, .int .u8 10]) ?_ rfl ?_
        · simp only [results, Try.results45]; go_simp
        · refine ⟨none, 0, none, 0, rfl, ?_, Rd.nil _ _ _ _, Nat.le_refl _, Rd.nil _ _ _ _, fun h0 => absurd h0 (by simp [R.zero]), fun b o e => by cases e⟩
          repeat (first | exact Below.refl _ _ | refine Below.setCell ?_ (by simp) _ | refine Below.drew ?_ | refine Below.alloc ?_ (by first | (simp; done) | (simp; omega)) _)
      have h15 : (q.length : Int) < 16 := by omega
      by_cases hful : arg < 200 ∧ 2147483647 ≤ sq + q.length
      · obtain rfl : X = ⟨.zero, [], 10⟩ := by rw [HX]; unfold offer; rw [if_neg hno, if_neg (by simp), if_pos ⟨by omega, Or.inr ⟨by rw [hI]; simp; omega, hful.2⟩⟩]
        obtain ⟨f1, f2⟩ := hful
        clear HX hg hno h16 hI
        go_enter Try.func45, Try.ntmps45
        go_wp2_with fail
        refine (rmay_any ⟨sq, code, wait, q, false, false⟩ A cap _ (HR1 _ ?_) (by simp only; omega) hcap).mono ?_
        · repeat (first | exact Below.refl _ _ | refine Below.setCell ?_ (by simp) _ | refine Below.drew ?_ | refine Below.alloc ?_ (by first | (simp; done) | (simp; omega)) _)
        rw [hm]; rintro e w1 ⟨rfl, cs, rfl⟩
        go_wp2_with (go_at_call 72; refine (from_any _ _ _ _).mono ?_; rintro e w' ⟨rfl, rfl⟩)
        refine bodyPost_ret (v := .tuple #[.agg #[.int .i64 0, .int .i64 0, .int .i64 0, .slice none 0 0, .bool false, .bool false], .slice none 0 0, .int .u8 10]) ?_ rfl ?_
        · simp only [results, Try.results45]; go_simp
        · refine ⟨none, 0, none, 0, rfl, ?_, Rd.nil _ _ _ _, Nat.le_refl _, Rd.nil _ _ _ _, fun h0 => absurd h0 (by simp [R.zero]), fun b o e => by cases e⟩
          repeat (first | exact Below.refl _ _ | refine Below.setCell ?_ (by simp) _ | refine Below.drew ?_ | refine Below.alloc ?_ (by first | (simp; done) | (simp; omega)) _)
      obtain rfl : X = ⟨(next ⟨sq, code, wait, q ++ [arg], decide (200 ≤ arg), false⟩).1, (next ⟨sq, code, wait, q ++ [arg], decide (200 ≤ arg), false⟩).2, 0⟩ := by
        rw [HX]; unfold offer
        rw [if_neg hno, if_neg (by simp), if_neg, if_neg h300]
        rintro ⟨-, e | ⟨e1, e2⟩⟩
        · exact h16 e
        · rw [hI] at e1; exact hful ⟨by simpa using e1, e2⟩
      have hhead : ∀ c q', q ++ [arg] = c :: q' → (inB c 101 199 = true ∧ c < 200) ∨ (inB c 101 199 = false ∧ 200 ≤ c) := by
        intro c q' e
        have hc : (101 ≤ c ∧ c ≤ 199) ∨ 200 ≤ c := by
          rcases q with _ | ⟨c', q⟩
          · simp at e; omega
          · simp at e
            have := hg.que.1 c' (by rw [← HQP.out]; simp)
            omega
        rcases hc with hc | hc
        · exact Or.inl ⟨by simp [inB]; omega, by omega⟩
        · exact Or.inr ⟨by simp [inB]; omega, by omega⟩
      have hgu : arg < 200 → sq + q.length < 2147483647 := fun h => by
        by_cases h2 : sq + q.length < 2147483647
        · exact h2
        · exact absurd ⟨h, by omega⟩ hful
      have HH := hide hhead
      clear HX hg hno h16 hI hful hhead
      have h299 : arg < 300 := by omega
      clear h300
      generalize hdd : decide (200 ≤ arg) = dd at *
      have h2cases : (arg < 200 ∧ sq + (q.length : Int) < 2147483647 ∧ dd = false) ∨ (200 ≤ arg ∧ dd = true) := by
        by_cases h : arg < 200
        · exact Or.inl ⟨h, hgu h, by rw [← hdd]; simp; omega⟩
        · exact Or.inr ⟨by omega, by rw [← hdd]; simp; omega⟩
      clear hdd hgu
      have hlen' : (q.length : Int) ≤ 15 := by omega
      rcases h2cases with ⟨g1, g2, rfl⟩ | ⟨g1, rfl⟩
      · have h200 : decide (200 ≤ arg) = false := by simp; omega
        go_enter Try.func45, Try.ntmps45
        go_wp2_with fail
        refine (rmay_any ⟨sq, code, wait, q, false, false⟩ A cap _ (HR1 _ ?_) (by simp only; omega) hcap).mono ?_
        · repeat (first | exact Below.refl _ _ | refine Below.setCell ?_ (by simp) _ | refine Below.drew ?_ | refine Below.alloc ?_ (by first | (simp; done) | (simp; omega)) _)
        rw [hm]; rintro e w1 ⟨rfl, cs, rfl⟩
        go_upto_region 10 with (go_at_call 72; refine (from_any _ _ _ _).mono ?_; rintro e w' ⟨rfl, rfl⟩)
        have Bx0 : Box (((w.alloc (.cells #[.int .i64 sq, .int .i64 code, .int .i64 wait, .slice A q.length cap, .bool false, .bool false] 61)).alloc (.cells #[.int .i64 0, .int .i64 0, .int .i64 0, .slice none 0 0, .bool false, .bool false] 61)).alloc (.cells cs 61)) w.heap.size #[.int .i64 sq, .int .i64 code, .int .i64 wait, .slice A q.length cap, .bool false, .bool false] := (((Box.new w _ 61).alloc _).alloc _)
        have Bx1 : Box (((w.alloc (.cells #[.int .i64 sq, .int .i64 code, .int .i64 wait, .slice A q.length cap, .bool false, .bool false] 61)).alloc (.cells #[.int .i64 0, .int .i64 0, .int .i64 0, .slice none 0 0, .bool false, .bool false] 61)).alloc (.cells cs 61)) (w.heap.size + 1) #[.int .i64 0, .int .i64 0, .int .i64 0, .slice none 0 0, .bool false, .bool false] := ((by have := Box.new (w.alloc (.cells #[.int .i64 sq, .int .i64 code, .int .i64 wait, .slice A q.length cap, .bool false, .bool false] 61)) #[.int .i64 0, .int .i64 0, .int .i64 0, .slice none 0 0, .bool false, .bool false] 61; simpa using this : Box _ (w.heap.size + 1) _).alloc _)
        have BW : Below w.heap.size w (((w.alloc (.cells #[.int .i64 sq, .int .i64 code, .int .i64 wait, .slice A q.length cap, .bool false, .bool false] 61)).alloc (.cells #[.int .i64 0, .int .i64 0, .int .i64 0, .slice none 0 0, .bool false, .bool false] 61)).alloc (.cells cs 61)) := (((Below.refl _ _).alloc (Nat.le_refl _) _).alloc (by simp) _).alloc (by simp; omega) _
        have BX0 := hide Bx0
        have BX1 := hide Bx1
        have HBW := hide BW
        have HR2 := hide HR1
        have HOLD := hide hold
        clear Bx0 Bx1 BW HR1 hold hm
        go_cut [7] from 47 to 50 (fun v wx => ∃ Ax cx, v = .slice Ax q.length cx ∧ wx.ownsRow (w.heap.size + 1 + 1 + 1) 3 1 (.slice Ax q.length cx) q.length (ints q) ∧ Below w.heap.size w wx ∧ Box wx w.heap.size #[.int .i64 sq, .int .i64 code, .int .i64 wait, .slice A q.length cap, .bool false, .bool false] ∧ Box wx (w.heap.size + 1) #[.int .i64 0, .int .i64 0, .int .i64 0, .slice none 0 0, .bool false, .bool false] ∧ w.heap.size + 1 + 1 + 1 ≤ wx.heap.size)
        case first =>
          by_cases h0 : q.length = 0
          · obtain rfl : q = [] := List.eq_nil_of_length_eq_zero h0
            clear h0
            simp only [List.length_nil] at *
            rcases A with _ | ⟨b, o, sp⟩
            all_goals
              go_wp2_with fail
              go_meet
              exact ⟨none, 0, rfl, World.ownsRow_nil _ _ _ _, HBW.out, BX0.out, BX1.out, by simp⟩
          · obtain ⟨b, o, rfl, hb, hc⟩ := hR.2 (by omega)
            have k1 : 0 < q.length := by omega
            have k2 : (0 : Int) < (q.length : Int) := by omega
            have HC := hide hc
            have HI : Hid ((ints q).length = q.length * 1) := hide (by rw [ints_len]; omega)
            clear hc h0 hR
            go_wp2_with (at_builtin; refine wpList_pushRd elI (by rfl) _ _ (by rfl) (w.heap.size + 1 + 1 + 1) (.slice none 0 0) 0 [] (by rfl) (World.ownsRow_nil _ _ _ _) b o q.length cap (ints q) (by rfl) (HI.out) (fun j u hu => (HBW.out.cell (p := ⟨b, o + j, none⟩) hb).trans (HC.out j u hu)) (ints_one q) (by omega) ⟨by simp only [maxLen]; omega, by omega⟩ (by simp) ?_; intro gg cap2 w1 hown1 hp1; simp only [Nat.zero_add, List.nil_append] at hown1 ⊢)
            go_meet
            have hpb := hp1.below.mono (Nat.le_refl _)
            refine ⟨_, _, rfl, hown1, HBW.out.trans (hp1.below.mono (by omega)), BX0.out.below hp1.below (by omega), BX1.out.below hp1.below (by omega), ?_⟩
            have := hp1.size (w.heap.size + 1 + 1) (by simp)
            omega
        case rest =>
          obtain ⟨Ax, cx, rfl, hown, hBx, Bx0, Bx1, hzx⟩ := hcut
          have bc0 := Bx0.cell
          have bf0 := Bx0.free
          have bc1 := Bx1.cell
          have bf1 := Bx1.free
          have hnb : ∀ k, k < w.heap.size + 1 + 1 + 1 → (Value.slice Ax q.length cx).ownBlock ≠ some k := fun k hk e => by have := (hown.lt k e).1; omega
          have HNB := hide hnb
          have HBX := hide hBx
          clear hnb hBx hR
          go_wp2_with (at_builtin; refine wpList_push elI (by rfl) _ _ (by rfl) (w.heap.size + 1 + 1 + 1) (.slice Ax q.length cx) q.length (ints q) (by rfl) (hown.alloc _) wc.heap.size 1 1 #[.int .i64 arg] (by rfl) (hhere _ _ _ rfl) rfl (by simp [Value.oneCell']) (by omega) ⟨by simp only [maxLen]; omega, by omega⟩ (by first | (simp; done) | (simp; omega)) ?_; intro gg cp3 w3 hown3 hp3; have Z0 := box_pushed (Bx0.alloc _) hp3 (HNB.out _ (by omega)); have Z1 := box_pushed (Bx1.alloc _) hp3 (HNB.out _ (by omega)); have zc0 := Z0.cell; have zf0 := Z0.free; have zc1 := Z1.cell; have zf1 := Z1.free; have zl0 := Z0.lt; have zl1 := Z1.lt)
          obtain ⟨A1, c1, e1, hle1, hR1⟩ := own_slice hown3
          injection e1 with e1 e2 e3
          subst e1 e3
          clear e2
          have hgg := (hown3.lt gg (by simp [Value.ownBlock])).1
          have hLL : q.length + 1 = (q ++ [arg]).length := by simp
          have hII : ints (q ++ [arg]) = ints q ++ [.int .i64 arg] := by simp [ints]
          have hR4 : Rd w3 w3.heap.size 1 (some ⟨gg, 0, none⟩) (q ++ [arg]).length (ints (q ++ [arg])) := by rw [hII, ← hLL]; exact hR1
          have hne4 : ∀ (m g : Nat), g < gg → 0 < m → ∀ b o : Nat, (some ⟨gg, 0, none⟩ : Option Addr) = some ⟨b, o, none⟩ → b ≠ g := by
            intro m g hg _ b o e; injection e with e; injection e with e; omega
          have hR5 := rd_sets (rd_sets hR4 (hne4 _ w.heap.size (by omega)) (i := 3) (.slice (some ⟨gg, 0, none⟩) (q ++ [arg]).length cp3)) (hne4 _ w.heap.size (by omega)) (i := 4) (.bool false)
          have hcc4 : (q ++ [arg]).length ≤ cp3 := by rw [← hLL]; exact hle1
          have HB3 : Hid (Below w.heap.size w w3) := hide ((HBX.out.alloc (by omega) _).trans (hp3.below.mono (by omega)))
          rw [hLL]
          clear hR1 hII hLL
          refine (rnext_any ⟨sq, code, wait, q ++ [arg], false, false⟩ (some ⟨gg, 0, none⟩) cp3 _ hR5 (by simp only [List.length_append, List.length_cons, List.length_nil]; omega) hcc4 ⟨hlo, hhi⟩ HH.out).mono ?_
          obtain ⟨y, hy⟩ : ∃ y, next ⟨sq, code, wait, q ++ [arg], false, false⟩ = y := ⟨_, rfl⟩
          rw [hy]
          have HY := hide hy
          clear hy
          obtain ⟨y, l⟩ := y
          rintro e w2 ⟨A', cap', V, k, rfl, hb2, hR2, hc2, hO2, hf2, hV2⟩
          have B0 : Box w2 w.heap.size #[.int .i64 sq, .int .i64 code, .int .i64 wait, .slice (some ⟨gg, 0, none⟩) (q ++ [arg]).length cp3, .bool false, .bool false] := (box_set (box_set Z0 3 (by simp) _) 4 (by simp) _).past hb2
          have B1 : Box w2 (w.heap.size + 1) #[.int .i64 0, .int .i64 0, .int .i64 0, .slice none 0 0, .bool false, .bool false] := (box_far (box_far Z1 (by omega) _) (by omega) _).past hb2
          have dc0 := B0.cell
          have df0 := B0.free
          have dc1 := B1.cell
          have df1 := B1.free
          have hz : w.heap.size < w2.heap.size := B0.lt
          have hz2 : w.heap.size + 1 < w2.heap.size := B1.lt
          have HF := hide hf2
          have HV := hide hV2
          have HB := hide hb2
          have HO2 := hide hO2
          have HR3 := hide hR2
          have HZ : Hid (w.heap.size + 1 < w3.heap.size) := hide Z1.lt
          have HNE := hide hne4
          clear B0 B1 hf2 hV2 hb2 hO2 hR2 Z0 Z1 zc0 zf0 zc1 zf1 bc0 bf0 bc1 bf1 Bx0 Bx1 hR4 hR5 hne4
          go_wp2_with fail
          refine bodyPost_ret (v := ?_) ?_ rfl ?_
          rotate_left
          · simp only [results, Try.results45]; go_simp; exact rfl
          · rw [HY.out]
            refine rans_of (W := _) (A1 := some ⟨gg, 0, none⟩) (n1 := (q ++ [arg]).length) (Nat.le_refl _) ?_ ?_ HR3.out hc2 HO2.out HF.out HV.out ?_ _ _ _ _ _ _ _ _ _ _ _ _
            · simp only [World.size_setCell]; exact HZ.out
            · refine Below.trans ?_ (HB.out.mono (by simp only [World.size_setCell]; have := HZ.out; omega))
              exact (HB3.out.setCell (p := ⟨w.heap.size, 3, none⟩) (Nat.le_refl _) _).setCell (p := ⟨w.heap.size, 4, none⟩) (Nat.le_refl _) _
            · intro h0 b o e
              injection e with e; injection e with e
              exact ⟨by omega, Or.inl (by omega)⟩
      · have h200 : decide (200 ≤ arg) = true := by simp; omega
        go_enter Try.func45, Try.ntmps45
        go_wp2_with fail
        refine (rmay_any ⟨sq, code, wait, q, false, false⟩ A cap _ (HR1 _ ?_) (by simp only; omega) hcap).mono ?_
        · repeat (first | exact Below.refl _ _ | refine Below.setCell ?_ (by simp) _ | refine Below.drew ?_ | refine Below.alloc ?_ (by first | (simp; done) | (simp; omega)) _)
        rw [hm]; rintro e w1 ⟨rfl, cs, rfl⟩
        go_upto_region 10 with (go_at_call 72; refine (from_any _ _ _ _).mono ?_; rintro e w' ⟨rfl, rfl⟩)
        have Bx0 : Box (((w.alloc (.cells #[.int .i64 sq, .int .i64 code, .int .i64 wait, .slice A q.length cap, .bool false, .bool false] 61)).alloc (.cells #[.int .i64 0, .int .i64 0, .int .i64 0, .slice none 0 0, .bool false, .bool false] 61)).alloc (.cells cs 61)) w.heap.size #[.int .i64 sq, .int .i64 code, .int .i64 wait, .slice A q.length cap, .bool false, .bool false] := (((Box.new w _ 61).alloc _).alloc _)
        have Bx1 : Box (((w.alloc (.cells #[.int .i64 sq, .int .i64 code, .int .i64 wait, .slice A q.length cap, .bool false, .bool false] 61)).alloc (.cells #[.int .i64 0, .int .i64 0, .int .i64 0, .slice none 0 0, .bool false, .bool false] 61)).alloc (.cells cs 61)) (w.heap.size + 1) #[.int .i64 0, .int .i64 0, .int .i64 0, .slice none 0 0, .bool false, .bool false] := ((by have := Box.new (w.alloc (.cells #[.int .i64 sq, .int .i64 code, .int .i64 wait, .slice A q.length cap, .bool false, .bool false] 61)) #[.int .i64 0, .int .i64 0, .int .i64 0, .slice none 0 0, .bool false, .bool false] 61; simpa using this : Box _ (w.heap.size + 1) _).alloc _)
        have BW : Below w.heap.size w (((w.alloc (.cells #[.int .i64 sq, .int .i64 code, .int .i64 wait, .slice A q.length cap, .bool false, .bool false] 61)).alloc (.cells #[.int .i64 0, .int .i64 0, .int .i64 0, .slice none 0 0, .bool false, .bool false] 61)).alloc (.cells cs 61)) := (((Below.refl _ _).alloc (Nat.le_refl _) _).alloc (by simp) _).alloc (by simp; omega) _
        have BX0 := hide Bx0
        have BX1 := hide Bx1
        have HBW := hide BW
        have HR2 := hide HR1
        have HOLD := hide hold
        clear Bx0 Bx1 BW HR1 hold hm
        go_cut [7] from 47 to 50 (fun v wx => ∃ Ax cx, v = .slice Ax q.length cx ∧ wx.ownsRow (w.heap.size + 1 + 1 + 1) 3 1 (.slice Ax q.length cx) q.length (ints q) ∧ Below w.heap.size w wx ∧ Box wx w.heap.size #[.int .i64 sq, .int .i64 code, .int .i64 wait, .slice A q.length cap, .bool false, .bool false] ∧ Box wx (w.heap.size + 1) #[.int .i64 0, .int .i64 0, .int .i64 0, .slice none 0 0, .bool false, .bool false] ∧ w.heap.size + 1 + 1 + 1 ≤ wx.heap.size)
        case first =>
          by_cases h0 : q.length = 0
          · obtain rfl : q = [] := List.eq_nil_of_length_eq_zero h0
            clear h0
            simp only [List.length_nil] at *
            rcases A with _ | ⟨b, o, sp⟩
            all_goals
              go_wp2_with fail
              go_meet
              exact ⟨none, 0, rfl, World.ownsRow_nil _ _ _ _, HBW.out, BX0.out, BX1.out, by simp⟩
          · obtain ⟨b, o, rfl, hb, hc⟩ := hR.2 (by omega)
            have k1 : 0 < q.length := by omega
            have k2 : (0 : Int) < (q.length : Int) := by omega
            have HC := hide hc
            have HI : Hid ((ints q).length = q.length * 1) := hide (by rw [ints_len]; omega)
            clear hc h0 hR
            go_wp2_with (at_builtin; refine wpList_pushRd elI (by rfl) _ _ (by rfl) (w.heap.size + 1 + 1 + 1) (.slice none 0 0) 0 [] (by rfl) (World.ownsRow_nil _ _ _ _) b o q.length cap (ints q) (by rfl) (HI.out) (fun j u hu => (HBW.out.cell (p := ⟨b, o + j, none⟩) hb).trans (HC.out j u hu)) (ints_one q) (by omega) ⟨by simp only [maxLen]; omega, by omega⟩ (by simp) ?_; intro gg cap2 w1 hown1 hp1; simp only [Nat.zero_add, List.nil_append] at hown1 ⊢)
            go_meet
            have hpb := hp1.below.mono (Nat.le_refl _)
            refine ⟨_, _, rfl, hown1, HBW.out.trans (hp1.below.mono (by omega)), BX0.out.below hp1.below (by omega), BX1.out.below hp1.below (by omega), ?_⟩
            have := hp1.size (w.heap.size + 1 + 1) (by simp)
            omega
        case rest =>
          obtain ⟨Ax, cx, rfl, hown, hBx, Bx0, Bx1, hzx⟩ := hcut
          have bc0 := Bx0.cell
          have bf0 := Bx0.free
          have bc1 := Bx1.cell
          have bf1 := Bx1.free
          have hnb : ∀ k, k < w.heap.size + 1 + 1 + 1 → (Value.slice Ax q.length cx).ownBlock ≠ some k := fun k hk e => by have := (hown.lt k e).1; omega
          have HNB := hide hnb
          have HBX := hide hBx
          clear hnb hBx hR
          go_wp2_with (at_builtin; refine wpList_push elI (by rfl) _ _ (by rfl) (w.heap.size + 1 + 1 + 1) (.slice Ax q.length cx) q.length (ints q) (by rfl) (hown.alloc _) wc.heap.size 1 1 #[.int .i64 arg] (by rfl) (hhere _ _ _ rfl) rfl (by simp [Value.oneCell']) (by omega) ⟨by simp only [maxLen]; omega, by omega⟩ (by first | (simp; done) | (simp; omega)) ?_; intro gg cp3 w3 hown3 hp3; have Z0 := box_pushed (Bx0.alloc _) hp3 (HNB.out _ (by omega)); have Z1 := box_pushed (Bx1.alloc _) hp3 (HNB.out _ (by omega)); have zc0 := Z0.cell; have zf0 := Z0.free; have zc1 := Z1.cell; have zf1 := Z1.free; have zl0 := Z0.lt; have zl1 := Z1.lt)
          obtain ⟨A1, c1, e1, hle1, hR1⟩ := own_slice hown3
          injection e1 with e1 e2 e3
          subst e1 e3
          clear e2
          have hgg := (hown3.lt gg (by simp [Value.ownBlock])).1
          have hLL : q.length + 1 = (q ++ [arg]).length := by simp
          have hII : ints (q ++ [arg]) = ints q ++ [.int .i64 arg] := by simp [ints]
          have hR4 : Rd w3 w3.heap.size 1 (some ⟨gg, 0, none⟩) (q ++ [arg]).length (ints (q ++ [arg])) := by rw [hII, ← hLL]; exact hR1
          have hne4 : ∀ (m g : Nat), g < gg → 0 < m → ∀ b o : Nat, (some ⟨gg, 0, none⟩ : Option Addr) = some ⟨b, o, none⟩ → b ≠ g := by
            intro m g hg _ b o e; injection e with e; injection e with e; omega
          have hR5 := rd_sets (rd_sets hR4 (hne4 _ w.heap.size (by omega)) (i := 3) (.slice (some ⟨gg, 0, none⟩) (q ++ [arg]).length cp3)) (hne4 _ w.heap.size (by omega)) (i := 4) (.bool true)
          have hcc4 : (q ++ [arg]).length ≤ cp3 := by rw [← hLL]; exact hle1
          have HB3 : Hid (Below w.heap.size w w3) := hide ((HBX.out.alloc (by omega) _).trans (hp3.below.mono (by omega)))
          rw [hLL]
          clear hR1 hII hLL
          refine (rnext_any ⟨sq, code, wait, q ++ [arg], true, false⟩ (some ⟨gg, 0, none⟩) cp3 _ hR5 (by simp only [List.length_append, List.length_cons, List.length_nil]; omega) hcc4 ⟨hlo, hhi⟩ HH.out).mono ?_
          obtain ⟨y, hy⟩ : ∃ y, next ⟨sq, code, wait, q ++ [arg], true, false⟩ = y := ⟨_, rfl⟩
          rw [hy]
          have HY := hide hy
          clear hy
          obtain ⟨y, l⟩ := y
          rintro e w2 ⟨A', cap', V, k, rfl, hb2, hR2, hc2, hO2, hf2, hV2⟩
          have B0 : Box w2 w.heap.size #[.int .i64 sq, .int .i64 code, .int .i64 wait, .slice (some ⟨gg, 0, none⟩) (q ++ [arg]).length cp3, .bool true, .bool false] := (box_set (box_set Z0 3 (by simp) _) 4 (by simp) _).past hb2
          have B1 : Box w2 (w.heap.size + 1) #[.int .i64 0, .int .i64 0, .int .i64 0, .slice none 0 0, .bool false, .bool false] := (box_far (box_far Z1 (by omega) _) (by omega) _).past hb2
          have dc0 := B0.cell
          have df0 := B0.free
          have dc1 := B1.cell
          have df1 := B1.free
          have hz : w.heap.size < w2.heap.size := B0.lt
          have hz2 : w.heap.size + 1 < w2.heap.size := B1.lt
          have HF := hide hf2
          have HV := hide hV2
          have HB := hide hb2
          have HO2 := hide hO2
          have HR3 := hide hR2
          have HZ : Hid (w.heap.size + 1 < w3.heap.size) := hide Z1.lt
          have HNE := hide hne4
          clear B0 B1 hf2 hV2 hb2 hO2 hR2 Z0 Z1 zc0 zf0 zc1 zf1 bc0 bf0 bc1 bf1 Bx0 Bx1 hR4 hR5 hne4
          go_wp2_with fail
          refine bodyPost_ret (v := ?_) ?_ rfl ?_
          rotate_left
          · simp only [results, Try.results45]; go_simp; exact rfl
          · rw [HY.out]
            refine rans_of (W := _) (A1 := some ⟨gg, 0, none⟩) (n1 := (q ++ [arg]).length) (Nat.le_refl _) ?_ ?_ HR3.out hc2 HO2.out HF.out HV.out ?_ _ _ _ _ _ _ _ _ _ _ _ _
            · simp only [World.size_setCell]; exact HZ.out
            · refine Below.trans ?_ (HB.out.mono (by simp only [World.size_setCell]; have := HZ.out; omega))
              exact (HB3.out.setCell (p := ⟨w.heap.size, 3, none⟩) (Nat.le_refl _) _).setCell (p := ⟨w.heap.size, 4, none⟩) (Nat.le_refl _) _
            · intro h0 b o e
              injection e with e; injection e with e
              exact ⟨by omega, Or.inl (by omega)⟩
end Go.Proofs.Ytdllehgiambkcaa.Pv
