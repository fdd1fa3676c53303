/- The walks of slices.Equal at lists of numbers, of Same (program and reference) and of the law's copied. -/
import Derived.Test.YtdllehgiambkcaaPvClone
namespace Go.Proofs.Ytdllehgiambkcaa.Pv
open Go.RowKit

theorem idrop_eq {l l' : List Int} {k : Nat} (h : k < l.length) (h' : k < l'.length) : (l.drop k == l'.drop k) = (decide (l[k] = l'[k]) && (l.drop (k + 1) == l'.drop (k + 1))) := by
  rw [List.drop_eq_getElem_cons h, List.drop_eq_getElem_cons h', List.cons_beq_cons]
  rfl

set_option maxHeartbeats 1000000 in
theorem equal_any (A B : Option Addr) (c d H : Nat) (l l' : List Int) (w : World) (hA : Rd w H 1 A l.length (ints l)) (hB : Rd w H 1 B l'.length (ints l')) (hn : l.length ≤ 1000000000) :
    Calls Try.prog 74 #[.slice A l.length c, .slice B l'.length d] w fun e w' => e = .returned (.bool (l == l')) ∧ ∃ k, w' = w.drewN k := by
  by_cases hl : l.length = l'.length
  · have hb : ((l.length : Int) != (l'.length : Int)) = false := by simp [hl]
    have HL := hide hl; clear hl
    have hlt' : ∀ k, k < l.length → k < l'.length := fun k h => by have := HL.out; omega
    have HT := hide hlt'; clear hlt'
    go_enter Try.func74, Try.ntmps74
    go_wp2
    go_loopw [13] (fun i wr => ∃ k : Nat, k ≤ l.length ∧ i = .int .i64 k ∧ (l == l') = (l.drop k == l'.drop k) ∧ ∃ m, wr = w.drewN m) (fun i _ => l.length - (intOf i).toNat)
    case atStart => exact ⟨0, by omega, rfl, rfl, 0, rfl⟩
    case round =>
      obtain ⟨k, hk, rfl, he, m, rfl⟩ := hrel
      have HE := hide he; clear he
      by_cases hlt : k < l.length
      · have hlt' := HT.out k hlt
        have HD := hide (idrop_eq hlt hlt')
        obtain ⟨b, o, rfl, _, e0⟩ := Rd.intAt hA hlt
        obtain ⟨b', o', rfl, _, e0'⟩ := Rd.intAt hB hlt'
        by_cases hq : l[k] = l'[k]
        · have HQ := hide hq
          rw [← hq] at e0'
          clear hq
          go_wp2
          go_quiet (fail)
          go_wp2
          go_roundw
          case rel => exact ⟨k + 1, by omega, by go_num, by rw [HE.out, HD.out, decide_eq_true HQ.out, Bool.true_and], _, rfl⟩
          case measure => simp [intOf]; omega
        · have hq' : (l[k] != l'[k]) = true := by simpa using hq
          have HQ := hide hq; clear hq
          go_wp2
          go_quiet (fail)
          go_wp2
          go_ret
          exact ⟨ret_bool (by rw [HE.out, HD.out, decide_eq_false HQ.out, Bool.false_and]), _, World.drewN_drewN _ _ _⟩
      · go_wp2
        go_ret
        refine ⟨ret_bool ?_, _, rfl⟩
        have := HL.out
        rw [HE.out, List.drop_of_length_le (by omega), List.drop_of_length_le (by omega)]
        rfl
  · have hb : ((l.length : Int) != (l'.length : Int)) = true := by simpa using fun h => hl (by omega)
    have e : (l == l') = false := by rw [beq_eq_false_iff_ne]; rintro rfl; exact hl rfl
    have E := hide e; have HL := hide hl; clear e hl
    go_enter Try.func74, Try.ntmps74
    go_wp2
    go_ret
    exact ⟨ret_bool E.out.symm, 0, rfl⟩

def sameR (r s : R) : Bool := r.q == s.q && r.seq == s.seq && r.code == s.code && r.wait == s.wait && r.fin == s.fin && r.failed == s.failed
theorem sameR_self (r : R) : sameR r r = true := by simp [sameR]

set_option maxRecDepth 10000 in
set_option maxHeartbeats 4000000 in
theorem same_any (r s : R) (A B : Option Addr) (c d : Nat) (w : World) (hA : Rd w w.heap.size 1 A r.q.length (ints r.q)) (hB : Rd w w.heap.size 1 B s.q.length (ints s.q)) (hn : r.q.length ≤ 1000) :
    Calls Try.prog 43 #[.agg #[.int .i64 r.seq, .int .i64 r.code, .int .i64 r.wait, .slice A r.q.length c, .bool r.fin, .bool r.failed], .agg #[.int .i64 s.seq, .int .i64 s.code, .int .i64 s.wait, .slice B s.q.length d, .bool s.fin, .bool s.failed]] w fun e w' => e = .returned (.bool (sameR r s)) ∧ Below w.heap.size w w' := by
  obtain ⟨X, HX⟩ : ∃ X, sameR r s = X := ⟨_, rfl⟩
  rw [HX]
  obtain ⟨x0, x1, x2, q, x4, x5⟩ := r
  obtain ⟨y0, y1, y2, q', y4, y5⟩ := s
  simp only [sameR] at *
  have HXX := hide HX
  clear HX
  have hA1 : ∀ W : World, Below w.heap.size w W → Rd W W.heap.size 1 A q.length (ints q) := fun W hb => (hA.below hb).more hb.size
  have hB1 : ∀ W : World, Below w.heap.size w W → Rd W W.heap.size 1 B q'.length (ints q') := fun W hb => (hB.below hb).more hb.size
  have hs : ∀ W : World, Below w.heap.size w W → ∀ n, Below w.heap.size w (W.drewN n) := fun W h n => below_drewN' h n
  go_enter Try.func43, Try.ntmps43
  go_wp2_with fail
  refine (equal_any A B c d _ q q' _ (hA1 _ ?_) (hB1 _ ?_) (by omega)).mono ?_
  · repeat (first | exact Below.refl _ _ | refine Below.setCell ?_ (by simp) _ | refine Below.drew ?_ | refine Below.alloc ?_ (by first | (simp; done) | (simp; omega)) _)
  · repeat (first | exact Below.refl _ _ | refine Below.setCell ?_ (by simp) _ | refine Below.drew ?_ | refine Below.alloc ?_ (by first | (simp; done) | (simp; omega)) _)
  rintro e w1 ⟨rfl, k, rfl⟩
  have hbw : Below w.heap.size w (((w.alloc (.cells #[.int .i64 x0, .int .i64 x1, .int .i64 x2, .slice A q.length c, .bool x4, .bool x5] 61)).alloc (.cells #[.int .i64 y0, .int .i64 y1, .int .i64 y2, .slice B q'.length d, .bool y4, .bool y5] 61)).drewN k) :=
    below_drewN' (((Below.refl _ _).alloc (Nat.le_refl _) _).alloc (by simp) _) k
  cases h0 : (q == q')
  · go_wp2_with fail
    go_ret
    exact ⟨ret_bool (by rw [← HXX.out, h0]; simp), hbw⟩
  · cases h1 : (x0 == y0)
    · go_wp2_with fail
      go_ret
      exact ⟨ret_bool (by rw [← HXX.out, h0, h1]; simp), hbw⟩
    · cases h2 : (x1 == y1)
      · go_wp2_with fail
        go_ret
        exact ⟨ret_bool (by rw [← HXX.out, h0, h1, h2]; simp), hbw⟩
      · cases h3 : (x2 == y2)
        · go_wp2_with fail
          go_ret
          exact ⟨ret_bool (by rw [← HXX.out, h0, h1, h2, h3]; simp), hbw⟩
        · cases h4 : (x4 == y4)
          · go_wp2_with fail
            go_ret
            exact ⟨ret_bool (by rw [← HXX.out, h0, h1, h2, h3, h4]; simp), hbw⟩
          · go_wp2_with fail
            go_ret
            exact ⟨ret_bool (by rw [← HXX.out, h0, h1, h2, h3, h4]; simp), hbw⟩
end Go.Proofs.Ytdllehgiambkcaa.Pv
