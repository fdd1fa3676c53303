/- The walk of provisional.Ack. Printed by mk_acts18.py. -/
import Derived.Test.YtdllehgiambkcaaPvNext
namespace Go.Proofs.Ytdllehgiambkcaa.Pv
open Go.RowKit

theorem may_bounds {r : R} (h : may r = true) : 0 ≤ r.seq ∧ r.seq ≤ 2147483647 ∧ r.q.length ≤ 16 ∧ (r.code = 0 → r.wait = 0 ∧ r.q = []) ∧ (r.code ≠ 0 → pow r.wait = true) := by
  rw [may_ref] at h
  unfold mayRef at h
  simp only [Bool.and_eq_true, decide_eq_true_eq] at h
  obtain ⟨⟨⟨⟨⟨⟨h1, h2⟩, h3⟩, h4⟩, -⟩, -⟩, -⟩ := h
  refine ⟨h1, h2, h3, fun e => ?_, fun e => ?_⟩
  · rw [if_pos e] at h4
    simp at h4
    exact ⟨h4.1, h4.2⟩
  · rw [if_neg e] at h4
    simp at h4
    exact h4.2

/-- What an act returns: the sender, its outputs, an error; new memory alone is written. -/
def Ans (w : World) (x : Res) (e : Ending) (w' : World) : Prop :=
  ∃ A' cap' v, e = .returned (.tuple #[.agg #[.int .i64 x.r.seq, .int .i64 x.r.code, .int .i64 x.r.wait, .slice A' x.r.q.length cap', .bool x.r.fin, .bool x.r.failed], v, .int .u8 x.e]) ∧ Below w.heap.size w w' ∧ Rd w' w'.heap.size 1 A' x.r.q.length (ints x.r.q) ∧ x.r.q.length ≤ cap' ∧ w'.ownsRow w.heap.size 70 5 v x.l.length (x.l.flatMap O.cs) ∧ (0 < x.r.q.length → ∀ b o, A' = some ⟨b, o, none⟩ → w.heap.size ≤ b)

/-- The result's cells are written behind done. -/
theorem ans_of {w W : World} {g base cap : Nat} {r : R} {A : Option Addr} {l : List O} {v : Value} {e : Ending} (h : WkAt W g base r A cap l v) (hB : Below w.heap.size w W) (q : Nat) (hq1 : w.heap.size ≤ q) (hq2 : q < base) (u0 u1 u2 u3 u4 u5 : Value)
    (he : e = .returned (.tuple #[.agg #[.int .i64 r.seq, .int .i64 r.code, .int .i64 r.wait, .slice A r.q.length cap, .bool r.fin, .bool r.failed], v, .int .u8 0])) :
    Ans w ⟨r, l, 0⟩ e ((((((W.setCell ⟨q, 0, none⟩ u0).setCell ⟨q, 1, none⟩ u1).setCell ⟨q, 2, none⟩ u2).setCell ⟨q, 3, none⟩ u3).setCell ⟨q, 4, none⟩ u4).setCell ⟨q, 5, none⟩ u5) := by
  have hv : v.ownBlock ≠ some q := fun e => by have := (h.own.lt q e).1; omega
  have hA : ∀ (h0 : 0 < r.q.length) b o, A = some ⟨b, o, none⟩ → b ≠ q := fun h0 b o e => by have := (h.qne h0 b o e).2.2; omega
  refine ⟨A, cap, v, he, ?_, ?_, h.qcap, ?_, fun h0 b o e => by have := (h.qne h0 b o e).2.2; omega⟩
  · exact ((((((hB.setCell (p := ⟨q, 0, none⟩) hq1 _).setCell (p := ⟨q, 1, none⟩) hq1 _).setCell (p := ⟨q, 2, none⟩) hq1 _).setCell (p := ⟨q, 3, none⟩) hq1 _).setCell (p := ⟨q, 4, none⟩) hq1 _).setCell (p := ⟨q, 5, none⟩) hq1 _)
  · simp only [World.size_setCell]
    exact rd_set (rd_set (rd_set (rd_set (rd_set (rd_set h.q hA _) hA _) hA _) hA _) hA _) hA _
  · refine own_lower (own_set (own_set (own_set (own_set (own_set (own_set h.own hv _) hv _) hv _) hv _) hv _) hv _) (by omega)

set_option maxRecDepth 10000 in
set_option maxHeartbeats 8000000 in
theorem ack_any (r : R) (A : Option Addr) (cap : Nat) (w : World) (arg : Int) (hR : Rd w w.heap.size 1 A r.q.length (ints r.q)) (hl : r.q.length ≤ 900) (hcap : r.q.length ≤ cap) (hw : -9223372036854775808 ≤ r.wait ∧ r.wait ≤ 9223372036854775807) :
    Calls Try.prog 27 #[.agg #[.int .i64 r.seq, .int .i64 r.code, .int .i64 r.wait, .slice A r.q.length cap, .bool r.fin, .bool r.failed], .int .i64 arg] w (Ans w (ack r arg)) := by
  have HR1 : ∀ W : World, Below w.heap.size w W → Rd W W.heap.size 1 A r.q.length (ints r.q) := fun W hb => (hR.below hb).more hb.size
  have hbd := fun h => may_bounds (r := r) h
  obtain ⟨X, HX⟩ : ∃ X, X = ack r arg := ⟨_, rfl⟩
  rw [← HX]
  obtain ⟨sq, code, wait, q, fin, failed⟩ := r
  simp only at *
  cases hm : may ⟨sq, code, wait, q, fin, failed⟩
  · obtain rfl : X = ⟨.zero, [], 2⟩ := by rw [HX]; unfold ack; rw [if_pos hm]
    clear HX hbd
    go_enter Try.func27, Try.ntmps27
    go_wp2_with fail
    refine (may_any ⟨sq, code, wait, q, fin, failed⟩ A cap _ (HR1 _ ?_) (by simp only; omega) hcap hw).mono ?_
    · repeat (first | exact Below.refl _ _ | refine Below.setCell ?_ (by simp) _ | refine Below.drew ?_ | refine Below.alloc ?_ (by first | (simp; done) | (simp; omega)) _)
    rw [hm]; rintro e w1 ⟨rfl, cs, rfl⟩
    go_wp2_with fail
    refine bodyPost_ret (v := .tuple #[.agg #[.int .i64 0, .int .i64 0, .int .i64 0, .slice none 0 0, .bool false, .bool false], .slice none 0 0, .int .u8 2]) ?_ rfl ?_
    · simp only [results, Try.results27]; go_simp
    · refine ⟨none, 0, .slice none 0 0, rfl, ?_, Rd.nil _ _ _ _, Nat.le_refl _, World.ownsRow_nil _ _ _ _, fun h0 => absurd h0 (by simp [R.zero])⟩
      repeat (first | exact Below.refl _ _ | refine Below.setCell ?_ (by simp) _ | refine Below.drew ?_ | refine Below.alloc ?_ (by first | (simp; done) | (simp; omega)) _)
  · obtain ⟨b1, b2, b3, -, -⟩ := hbd hm
    clear hbd
    by_cases hc : code = 0
    · obtain rfl : X = ⟨.zero, [], 8⟩ := by rw [HX]; unfold ack; rw [if_neg (by rw [hm]; simp), if_pos (Or.inl hc)]
      have d1 : (code == 0) = true := by simp [hc]
      clear HX hc
      go_enter Try.func27, Try.ntmps27
      go_wp2_with fail
      refine (may_any ⟨sq, code, wait, q, fin, failed⟩ A cap _ (HR1 _ ?_) (by simp only; omega) hcap hw).mono ?_
      · repeat (first | exact Below.refl _ _ | refine Below.setCell ?_ (by simp) _ | refine Below.drew ?_ | refine Below.alloc ?_ (by first | (simp; done) | (simp; omega)) _)
      rw [hm]; rintro e w1 ⟨rfl, cs, rfl⟩
      go_wp2_with fail
      refine bodyPost_ret (v := .tuple #[.agg #[.int .i64 0, .int .i64 0, .int .i64 0, .slice none 0 0, .bool false, .bool false], .slice none 0 0, .int .u8 8]) ?_ rfl ?_
      · simp only [results, Try.results27]; go_simp
      · refine ⟨none, 0, .slice none 0 0, rfl, ?_, Rd.nil _ _ _ _, Nat.le_refl _, World.ownsRow_nil _ _ _ _, fun h0 => absurd h0 (by simp [R.zero])⟩
        repeat (first | exact Below.refl _ _ | refine Below.setCell ?_ (by simp) _ | refine Below.drew ?_ | refine Below.alloc ?_ (by first | (simp; done) | (simp; omega)) _)
    · have d1 : (code == 0) = false := by simp [hc]
      by_cases hq : arg = sq
      · obtain rfl : X = ⟨(next ⟨sq, 0, 0, q, fin, failed⟩).1, (next ⟨sq, 0, 0, q, fin, failed⟩).2, 0⟩ := by rw [HX]; unfold ack; rw [if_neg (by rw [hm]; simp), if_neg (fun e => e.elim hc (fun h => h hq))]
        clear HX hc
        subst hq
        go_enter Try.func27, Try.ntmps27
        go_wp2_with fail
        refine (may_any ⟨arg, code, wait, q, fin, failed⟩ A cap _ (HR1 _ ?_) (by simp only; omega) hcap hw).mono ?_
        · repeat (first | exact Below.refl _ _ | refine Below.setCell ?_ (by simp) _ | refine Below.drew ?_ | refine Below.alloc ?_ (by first | (simp; done) | (simp; omega)) _)
        rw [hm]; rintro e w1 ⟨rfl, cs, rfl⟩
        go_wp2_with fail
        refine (begin_any ⟨arg, code, wait, q, fin, failed⟩ A cap _ (HR1 _ ?_) (by simp only; omega)).mono ?_
        · repeat (first | exact Below.refl _ _ | refine Below.setCell ?_ (by simp) _ | refine Below.drew ?_ | refine Below.alloc ?_ (by first | (simp; done) | (simp; omega)) _)
        rintro e w2 ⟨g, A2, cap2, rfl, hb2, h2, hoq, hnq⟩
        obtain ⟨hcc, hff⟩ := bcell hb2
        have hz2 : w.heap.size + 1 < w2.heap.size := blt hb2 (by simp)
        obtain ⟨y1, y2, x0, x1, x2, x3, x4, x5, x6, yf, -, -, -, -, -⟩ := id h2
        have hgz : w.heap.size + 1 < g := by simp at y2; omega
        have hgz' : w.heap.size + 1 ≠ g := by omega
        have hB2 : Below w.heap.size w w2 := by
          refine Below.trans ?_ (hb2.mono (by first | omega | (simp; done) | (simp; omega)))
          repeat (first | exact Below.refl _ _ | refine Below.setCell ?_ (by simp) _ | refine Below.drew ?_ | refine Below.alloc ?_ (by first | (simp; done) | (simp; omega)) _)
        go_wp2_with fail
        refine (next_any g _ cap2 ⟨arg, 0, 0, q, fin, failed⟩ A2 [] _ _ ((h2.set_code 0).set_wait 0) (by simp) ⟨b1, b2⟩ (by simp only; omega)).mono ?_
        rintro e w3 ⟨rfl, hb3, A3, cap3, v3, h3⟩
        obtain ⟨hcc3, hff3⟩ := bcellB hb3
        have hz3 : w.heap.size + 1 < w3.heap.size := Nat.lt_of_lt_of_le (by first | exact hz2 | simpa using hz2) hb3.size
        have hB3 : Below w.heap.size w w3 := by
          refine Below.trans ?_ (hb3.mono (by first | omega | (simp; done) | (simp; omega)))
          repeat (first | exact hB2 | refine Below.setCell ?_ (by first | (simp; done) | (simp; omega)) _ | refine Below.drew ?_ | refine Below.alloc ?_ (by first | (simp; done) | (simp; omega)) _)
        clear x0 x1 x2 x3 x4 x5 x6 yf
        go_wp2_with fail
        refine (wdone_any g _ cap3 _ A3 _ v3 _ h3).mono ?_
        rintro e w9 ⟨rfl, hb9, h9⟩
        obtain ⟨hcc9, hff9⟩ := bcell hb9
        have hz9 : w.heap.size + 1 < w9.heap.size := Nat.lt_of_lt_of_le (by first | exact hz3 | simpa using hz3) hb9.size
        go_wp2_with fail
        refine bodyPost_ret (v := ?_) ?_ rfl ?_
        rotate_left
        · simp only [results, Try.results27]; go_simp; exact rfl
        · refine ans_of h9 ?_ (w.heap.size + 1) (by omega) (by simp) _ _ _ _ _ _ rfl
          refine Below.trans ?_ (hb9.mono (by first | omega | (simp; done) | (simp; omega)))
          repeat (first | exact hB3 | refine Below.setCell ?_ (by first | (simp; done) | (simp; omega)) _ | refine Below.drew ?_ | refine Below.alloc ?_ (by first | (simp; done) | (simp; omega)) _)
      · obtain rfl : X = ⟨.zero, [], 8⟩ := by rw [HX]; unfold ack; rw [if_neg (by rw [hm]; simp), if_pos (Or.inr hq)]
        have d2 : (arg == sq) = false := by simp [hq]
        have d3 : (arg != sq) = true := by simp [hq]
        clear HX hc hq
        go_enter Try.func27, Try.ntmps27
        go_wp2_with fail
        refine (may_any ⟨sq, code, wait, q, fin, failed⟩ A cap _ (HR1 _ ?_) (by simp only; omega) hcap hw).mono ?_
        · repeat (first | exact Below.refl _ _ | refine Below.setCell ?_ (by simp) _ | refine Below.drew ?_ | refine Below.alloc ?_ (by first | (simp; done) | (simp; omega)) _)
        rw [hm]; rintro e w1 ⟨rfl, cs, rfl⟩
        go_wp2_with fail
        refine bodyPost_ret (v := .tuple #[.agg #[.int .i64 0, .int .i64 0, .int .i64 0, .slice none 0 0, .bool false, .bool false], .slice none 0 0, .int .u8 8]) ?_ rfl ?_
        · simp only [results, Try.results27]; go_simp
        · refine ⟨none, 0, .slice none 0 0, rfl, ?_, Rd.nil _ _ _ _, Nat.le_refl _, World.ownsRow_nil _ _ _ _, fun h0 => absurd h0 (by simp [R.zero])⟩
          repeat (first | exact Below.refl _ _ | refine Below.setCell ?_ (by simp) _ | refine Below.drew ?_ | refine Below.alloc ?_ (by first | (simp; done) | (simp; omega)) _)
end Go.Proofs.Ytdllehgiambkcaa.Pv
