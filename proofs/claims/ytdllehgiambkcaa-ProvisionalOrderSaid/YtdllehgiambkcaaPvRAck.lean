/- The walk of the reference's Ack of chapter 18. -/
import Derived.Test.YtdllehgiambkcaaPvRNext
namespace Go.Proofs.Ytdllehgiambkcaa.Pv
open Go.RowKit

theorem good_head {r : R} {p : List Int} (h : Good r p) : ∀ c q', r.q = c :: q' → (inB c 101 199 = true ∧ c < 200) ∨ (inB c 101 199 = false ∧ 200 ≤ c) := by
  intro c q' e
  obtain ⟨h1, h2⟩ := h.que
  have hc : (101 ≤ c ∧ c ≤ 199) ∨ (200 ≤ c ∧ c ≤ 299) := by
    rcases h2 with ⟨e2, -⟩ | ⟨-, x, e2, hx⟩
    · exact Or.inl (h1 c (by rw [← e2, e]; simp))
    · rw [e] at e2
      rcases p with _ | ⟨c', p⟩
      · simp at e2; rw [e2.1]; exact Or.inr hx
      · simp at e2; rw [e2.1]; exact Or.inl (h1 c' (by simp))
  rcases hc with hc | hc
  · exact Or.inl ⟨by simp [inB]; omega, by omega⟩
  · exact Or.inr ⟨by simp [inB]; omega, by omega⟩

/-- Six stores into the variable behind a call, and six into the result: what lies elsewhere is kept. -/
theorem rd_lay {w : World} {size n g : Nat} {A : Option Addr} {xs : List Value} (h : Rd w w.heap.size size A n xs) (hne : 0 < n → ∀ b o, A = some ⟨b, o, none⟩ → b ≠ g) (u0 u1 u2 u3 u4 u5 : Value) :
    Rd ((((((w.setCell ⟨g, 0, none⟩ u0).setCell ⟨g, 1, none⟩ u1).setCell ⟨g, 2, none⟩ u2).setCell ⟨g, 3, none⟩ u3).setCell ⟨g, 4, none⟩ u4).setCell ⟨g, 5, none⟩ u5) ((((((w.setCell ⟨g, 0, none⟩ u0).setCell ⟨g, 1, none⟩ u1).setCell ⟨g, 2, none⟩ u2).setCell ⟨g, 3, none⟩ u3).setCell ⟨g, 4, none⟩ u4).setCell ⟨g, 5, none⟩ u5).heap.size size A n xs :=
  rd_sets (rd_sets (rd_sets (rd_sets (rd_sets (rd_sets h hne _) hne _) hne _) hne _) hne _) hne _

/-- From what next answers to what the act answers: the stores into the act's own variable (block q) and into its result (block q + 1). -/
theorem rans_of {w W w2 : World} {r : R} {l : List O} {n0 q cap' k : Nat} {A0 A1 A' V : Option Addr} {n1 : Nat} (hq : w.heap.size ≤ q) (hqW : q + 1 < W.heap.size) (hB : Below w.heap.size w w2)
    (hR : Rd w2 w2.heap.size 1 A' r.q.length (ints r.q)) (hc : r.q.length ≤ cap') (hO : Rd w2 w2.heap.size 5 V l.length (l.flatMap O.cs)) (hf : 0 < r.q.length → ∀ b o, A' = some ⟨b, o, none⟩ → W.heap.size ≤ b ∨ (A1 = some ⟨b, o, none⟩ ∧ 0 < n1)) (hV : ∀ b o, V = some ⟨b, o, none⟩ → W.heap.size ≤ b)
    (h1 : 0 < n1 → ∀ b o, A1 = some ⟨b, o, none⟩ → (b ≠ q ∧ b ≠ q + 1) ∧ (w.heap.size ≤ b ∨ (A0 = some ⟨b, o, none⟩ ∧ 0 < n0))) (u0 u1 u2 u3 u4 u5 v0 v1 v2 v3 v4 v5 : Value) :
    RAns w n0 A0 ⟨r, l, 0⟩ (.returned (.tuple #[.agg #[.int .i64 r.seq, .int .i64 r.code, .int .i64 r.wait, .slice A' r.q.length cap', .bool r.fin, .bool r.failed], .slice V l.length k, .int .u8 0]))
      ((((((((((((w2.setCell ⟨q, 0, none⟩ u0).setCell ⟨q, 1, none⟩ u1).setCell ⟨q, 2, none⟩ u2).setCell ⟨q, 3, none⟩ u3).setCell ⟨q, 4, none⟩ u4).setCell ⟨q, 5, none⟩ u5).setCell ⟨q + 1, 0, none⟩ v0).setCell ⟨q + 1, 1, none⟩ v1).setCell ⟨q + 1, 2, none⟩ v2).setCell ⟨q + 1, 3, none⟩ v3).setCell ⟨q + 1, 4, none⟩ v4).setCell ⟨q + 1, 5, none⟩ v5) := by
  have hne : 0 < r.q.length → ∀ b o, A' = some ⟨b, o, none⟩ → b ≠ q ∧ b ≠ q + 1 := by
    intro h0 b o e
    rcases hf h0 b o e with h | ⟨h, h'⟩
    · omega
    · exact (h1 h' b o h).1
  refine ⟨A', cap', V, k, rfl, ?_, rd_lay (rd_lay hR (fun h0 b o e => (hne h0 b o e).1) _ _ _ _ _ _) (fun h0 b o e => (hne h0 b o e).2) _ _ _ _ _ _, hc, rd_lay (rd_lay hO (fun _ b o e => by have := hV b o e; omega) _ _ _ _ _ _) (fun _ b o e => by have := hV b o e; omega) _ _ _ _ _ _, ?_, ?_⟩
  · exact ((((((((((((hB.setCell (p := ⟨q, 0, none⟩) hq _).setCell (p := ⟨q, 1, none⟩) hq _).setCell (p := ⟨q, 2, none⟩) hq _).setCell (p := ⟨q, 3, none⟩) hq _).setCell (p := ⟨q, 4, none⟩) hq _).setCell (p := ⟨q, 5, none⟩) hq _).setCell (p := ⟨q + 1, 0, none⟩) (Nat.le_succ_of_le hq) _).setCell (p := ⟨q + 1, 1, none⟩) (Nat.le_succ_of_le hq) _).setCell (p := ⟨q + 1, 2, none⟩) (Nat.le_succ_of_le hq) _).setCell (p := ⟨q + 1, 3, none⟩) (Nat.le_succ_of_le hq) _).setCell (p := ⟨q + 1, 4, none⟩) (Nat.le_succ_of_le hq) _).setCell (p := ⟨q + 1, 5, none⟩) (Nat.le_succ_of_le hq) _)
  · intro h0 b o e
    rcases hf h0 b o e with h | ⟨h, h'⟩
    · exact Or.inl (by omega)
    · exact (h1 h' b o h).2
  · intro b o e; have := hV b o e; omega

set_option maxRecDepth 10000 in
set_option maxHeartbeats 4000000 in
theorem rack_any (r : R) (A : Option Addr) (cap : Nat) (w : World) (arg : Int) (hR : Rd w w.heap.size 1 A r.q.length (ints r.q)) (hl : r.q.length ≤ 900) (hcap : r.q.length ≤ cap) :
    Calls Try.prog 47 #[.agg #[.int .i64 r.seq, .int .i64 r.code, .int .i64 r.wait, .slice A r.q.length cap, .bool r.fin, .bool r.failed], .int .i64 arg] w (RAns w r.q.length A (ack r arg)) := by
  have HR1 : ∀ W : World, Below w.heap.size w W → Rd W W.heap.size 1 A r.q.length (ints r.q) := fun W hb => (hR.below hb).more hb.size
  have hold : 0 < r.q.length → ∀ b o, A = some ⟨b, o, none⟩ → b < w.heap.size := by
    intro h0 b o e
    obtain ⟨b', o', e', hb', -⟩ := hR.2 h0
    rw [e] at e'
    injection e' with e'
    injection e' with e'
    omega
  have hgd := fun h => may_good (r := r) h
  obtain ⟨X, HX⟩ : ∃ X, X = ack r arg := ⟨_, rfl⟩
  rw [← HX]
  obtain ⟨sq, code, wait, q, fin, failed⟩ := r
  simp only at *
  cases hm : may ⟨sq, code, wait, q, fin, failed⟩
  · obtain rfl : X = ⟨.zero, [], 2⟩ := by rw [HX]; unfold ack; rw [if_pos hm]
    clear HX hgd
    go_enter Try.func47, Try.ntmps47
    go_wp2_with fail
    refine (rmay_any ⟨sq, code, wait, q, fin, failed⟩ A cap _ (HR1 _ ?_) (by simp only; omega) hcap).mono ?_
    · repeat (first | exact Below.refl _ _ | refine Below.setCell ?_ (by simp) _ | refine Below.drew ?_ | refine Below.alloc ?_ (by first | (simp; done) | (simp; omega)) _)
    rw [hm]; rintro e w1 ⟨rfl, cs, rfl⟩
    go_wp2_with fail
    refine bodyPost_ret (v := .tuple #[.agg #[.int .i64 0, .int .i64 0, .int .i64 0, .slice none 0 0, .bool false, .bool false], .slice none 0 0, .int .u8 2]) ?_ rfl ?_
    · simp only [results, Try.results47]; go_simp
    · refine ⟨none, 0, none, 0, rfl, ?_, Rd.nil _ _ _ _, Nat.le_refl _, Rd.nil _ _ _ _, fun h0 => absurd h0 (by simp [R.zero]), fun b o e => by cases e⟩
      repeat (first | exact Below.refl _ _ | refine Below.setCell ?_ (by simp) _ | refine Below.drew ?_ | refine Below.alloc ?_ (by first | (simp; done) | (simp; omega)) _)
  · obtain ⟨p, hg⟩ := hgd hm
    clear hgd
    have hhead := good_head hg
    have hlo := hg.lo
    have hhi : sq ≤ 2147483647 := by have := hg.hi; simp only at this; omega
    simp only at hlo hhead
    clear hg
    by_cases hc : code = 0 ∨ arg ≠ sq
    · obtain rfl : X = ⟨.zero, [], 8⟩ := by rw [HX]; unfold ack; rw [if_neg (by rw [hm]; simp), if_pos hc]
      clear HX
      by_cases hc0 : code = 0
      · subst hc0
        clear hc hhead
        go_enter Try.func47, Try.ntmps47
        go_wp2_with fail
        refine (rmay_any ⟨sq, 0, wait, q, fin, failed⟩ A cap _ (HR1 _ ?_) (by simp only; omega) hcap).mono ?_
        · repeat (first | exact Below.refl _ _ | refine Below.setCell ?_ (by simp) _ | refine Below.drew ?_ | refine Below.alloc ?_ (by first | (simp; done) | (simp; omega)) _)
        rw [hm]; rintro e w1 ⟨rfl, cs, rfl⟩
        go_wp2_with fail
        refine bodyPost_ret (v := .tuple #[.agg #[.int .i64 0, .int .i64 0, .int .i64 0, .slice none 0 0, .bool false, .bool false], .slice none 0 0, .int .u8 8]) ?_ rfl ?_
        · simp only [results, Try.results47]; go_simp
        · refine ⟨none, 0, none, 0, rfl, ?_, Rd.nil _ _ _ _, Nat.le_refl _, Rd.nil _ _ _ _, fun h0 => absurd h0 (by simp [R.zero]), fun b o e => by cases e⟩
          repeat (first | exact Below.refl _ _ | refine Below.setCell ?_ (by simp) _ | refine Below.drew ?_ | refine Below.alloc ?_ (by first | (simp; done) | (simp; omega)) _)
      · have hne : arg ≠ sq := hc.resolve_left hc0
        have d1 : (code == 0) = false := by simp [hc0]
        have d2 : (arg != sq) = true := by simp [hne]
        clear hc hc0 hne hhead
        go_enter Try.func47, Try.ntmps47
        go_wp2_with fail
        refine (rmay_any ⟨sq, code, wait, q, fin, failed⟩ A cap _ (HR1 _ ?_) (by simp only; omega) hcap).mono ?_
        · repeat (first | exact Below.refl _ _ | refine Below.setCell ?_ (by simp) _ | refine Below.drew ?_ | refine Below.alloc ?_ (by first | (simp; done) | (simp; omega)) _)
        rw [hm]; rintro e w1 ⟨rfl, cs, rfl⟩
        go_wp2_with fail
        refine bodyPost_ret (v := .tuple #[.agg #[.int .i64 0, .int .i64 0, .int .i64 0, .slice none 0 0, .bool false, .bool false], .slice none 0 0, .int .u8 8]) ?_ rfl ?_
        · simp only [results, Try.results47]; go_simp
        · refine ⟨none, 0, none, 0, rfl, ?_, Rd.nil _ _ _ _, Nat.le_refl _, Rd.nil _ _ _ _, fun h0 => absurd h0 (by simp [R.zero]), fun b o e => by cases e⟩
          repeat (first | exact Below.refl _ _ | refine Below.setCell ?_ (by simp) _ | refine Below.drew ?_ | refine Below.alloc ?_ (by first | (simp; done) | (simp; omega)) _)
    · have hc0 : code ≠ 0 := fun e => hc (Or.inl e)
      obtain rfl : arg = sq := by
        rcases Int.lt_trichotomy arg sq with h | h | h
        · exact absurd (Or.inr (by omega)) hc
        · exact h
        · exact absurd (Or.inr (by omega)) hc
      obtain rfl : X = ⟨(next ⟨arg, 0, 0, q, fin, failed⟩).1, (next ⟨arg, 0, 0, q, fin, failed⟩).2, 0⟩ := by rw [HX]; unfold ack; rw [if_neg (by rw [hm]; simp), if_neg hc]
      have d1 : (code == 0) = false := by simp [hc0]
      have HC := hide hc0
      have HH := hide hhead
      clear HX hc hc0 hhead
      go_enter Try.func47, Try.ntmps47
      go_wp2_with fail
      refine (rmay_any ⟨arg, code, wait, q, fin, failed⟩ A cap _ (HR1 _ ?_) (by simp only; omega) hcap).mono ?_
      · repeat (first | exact Below.refl _ _ | refine Below.setCell ?_ (by simp) _ | refine Below.drew ?_ | refine Below.alloc ?_ (by first | (simp; done) | (simp; omega)) _)
      rw [hm]; rintro e w1 ⟨rfl, cs, rfl⟩
      go_wp2_with fail
      refine (rnext_any ⟨arg, 0, 0, q, fin, failed⟩ A cap _ (HR1 _ ?_) (by simp only; omega) hcap ⟨hlo, hhi⟩ HH.out).mono ?_
      · repeat (first | exact Below.refl _ _ | refine Below.setCell ?_ (by simp) _ | refine Below.drew ?_ | refine Below.alloc ?_ (by first | (simp; done) | (simp; omega)) _)
      obtain ⟨y, hy⟩ : ∃ y, next ⟨arg, 0, 0, q, fin, failed⟩ = y := ⟨_, rfl⟩
      rw [hy]
      have HY := hide hy
      clear hy
      obtain ⟨y, l⟩ := y
      rintro e w2 ⟨A', cap', V, k, rfl, hb2, hR2, hc2, hO2, hf2, hV2⟩
      have B0 : Box w2 w.heap.size #[.int .i64 arg, .int .i64 0, .int .i64 0, .slice A q.length cap, .bool fin, .bool failed] := (((Box.new w _ 61).alloc _).alloc _).past hb2
      have B1 : Box w2 (w.heap.size + 1) #[.int .i64 0, .int .i64 0, .int .i64 0, .slice none 0 0, .bool false, .bool false] := ((by have := Box.new (w.alloc (.cells #[.int .i64 arg, .int .i64 0, .int .i64 0, .slice A q.length cap, .bool fin, .bool failed] 61)) #[.int .i64 0, .int .i64 0, .int .i64 0, .slice none 0 0, .bool false, .bool false] 61; simpa using this : Box _ (w.heap.size + 1) _).alloc _).past hb2
      have bc0 := B0.cell
      have bf0 := B0.free
      have bc1 := B1.cell
      have bf1 := B1.free
      clear B0 B1
      have hz : w.heap.size < w2.heap.size := blt hb2 (by simp; omega)
      have hz2 : w.heap.size + 1 < w2.heap.size := blt hb2 (by simp)
      have HF := hide hf2
      have HV := hide hV2
      have HO := hide hold
      have HB := hide hb2
      have HRR := hide HR1
      have HO2 := hide hO2
      have HR2 := hide hR2
      clear hf2 hV2 hold hb2 HR1 hR hO2 hR2
      go_wp2_with fail
      refine bodyPost_ret (v := ?_) ?_ rfl ?_
      rotate_left
      · simp only [results, Try.results47]; go_simp; exact rfl
      · rw [HY.out]
        refine rans_of (W := _) (A1 := A) (n1 := q.length) (Nat.le_refl _) ?_ ?_ HR2.out hc2 HO2.out HF.out HV.out ?_ _ _ _ _ _ _ _ _ _ _ _ _
        · simp
        · refine Below.trans ?_ (HB.out.mono (by simp; omega))
          repeat (first | exact Below.refl _ _ | refine Below.setCell ?_ (by simp) _ | refine Below.drew ?_ | refine Below.alloc ?_ (by first | (simp; done) | (simp; omega)) _)
        · intro h0 b o e
          have := HO.out h0 b o e
          exact ⟨by omega, Or.inr ⟨e, h0⟩⟩
end Go.Proofs.Ytdllehgiambkcaa.Pv
