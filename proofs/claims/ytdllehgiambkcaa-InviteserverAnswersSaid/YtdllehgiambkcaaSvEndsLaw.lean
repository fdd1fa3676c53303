/- The plain law of InviteserverEnds. -/
import Derived.Test.YtdllehgiambkcaaSvPlayW
namespace Go.Proofs.Ytdllehgiambkcaa.Sv
open Go.RowKit

theorem cnt_kc {S : Sim} (h : J S) (k : Int) : cnt S.log k S.now 0 1000 = kc k S.log := by
  unfold cnt kc
  refine List.countP_congr fun e he => ?_
  have := h.log e he
  simp [E.hit]
  omega
theorem cnt_rej {S : Sim} (h : J S) : cnt S.log 1 S.now 300 699 = rejC S.log := by
  unfold cnt rejC
  refine List.countP_congr fun e he => ?_
  have := h.log e he
  simp [E.hit]
  omega
theorem cnt_fin {S : Sim} (h : J S) : cnt S.log 1 S.now 200 699 = finC S.log := by
  unfold cnt finC
  refine List.countP_congr fun e he => ?_
  have := h.log e he
  simp [E.hit]
  omega

theorem st_of {S : Sim} (h : J S) : S.m.st = 3 ∨ S.m.st = 4 ∨ S.m.st = 5 ∨ S.m.st = 6 ∨ S.m.st = 7 := by
  have := may_cls (s := S.m.st) (x := S.m.wait) (c := S.m.code) h.may
  omega

theorem closed_j {S : Sim} (h : J S) : closedS S = true := by
  unfold closedS
  rw [cnt_kc h 7]
  have hs := h.sum
  unfold Sum at hs
  rcases st_of h with e | e | e | e | e <;> rw [e] at hs ⊢ <;> simp at hs ⊢
  · simp [hs]
  · simp [hs]
  · simp [hs]
  · simp [hs]
  · obtain ⟨_, h7, ⟨l', a, hl, ha⟩, _⟩ := hs
    rw [h7, hl]
    simp [ha]

/-- What Ends looks at. -/
theorem ends_facts {S : Sim} {k : Nat} (h : PK S k) : Done S (untilT S (S.now + 40000)) (S.now + 40000) ∧ ((untilT S (S.now + 40000)).m.st = 3 ∨ (untilT S (S.now + 40000)).m.st = 7) := by
  obtain ⟨d, -⟩ := until_done (T := S.now + 40000) h.j (by omega)
  refine ⟨d, ?_⟩
  have hp := d.pend _ h.pend
  have h0 := h.j.now
  rcases st_of d.j with e | e | e | e | e
  · exact Or.inl e
  · have a := hp.acc e
    rcases d.over 12 (by omega) with b | b <;> omega
  · have a := hp.rej e
    rcases d.over 8 (by omega) with b | b <;> omega
  · have a := hp.con e
    rcases d.over 9 (by omega) with b | b <;> omega
  · exact Or.inr e

/-- Whether timer I was started. -/
def anyI (l : List E) : Bool := l.any fun e => decide (e.out.kind = 4) && decide (e.out.timer = 9)
theorem anyI_iff (l : List E) : anyI l = decide (0 < iC l) := by
  unfold anyI iC
  rw [eq_comm]
  by_cases h : 0 < l.countP fun e => decide (e.out.kind = 4) && decide (e.out.timer = 9)
  · rw [decide_eq_true h]
    obtain ⟨a, ha, hp⟩ := List.countP_pos_iff.mp h
    exact (List.any_eq_true.mpr ⟨a, ha, hp⟩).symm
  · rw [decide_eq_false h]
    have h0 : (l.countP fun e => decide (e.out.kind = 4) && decide (e.out.timer = 9)) = 0 := by omega
    rw [List.countP_eq_zero] at h0
    rw [eq_comm, List.any_eq_false]
    exact h0
theorem anyI_snoc (l : List E) (j : Nat) (hj : j < l.length) : anyI (l.take (j + 1)) = (anyI (l.take j) || decide (l[j].out.kind = 4) && decide (l[j].out.timer = 9)) := by
  unfold anyI
  rw [List.take_succ_eq_append_getElem hj, List.any_append]
  simp

theorem ends_law {S : Sim} (h : J S) (h7 : S.m.st = 7) : ((cnt S.log 5 S.now 0 1000 = 1) ↔ (0 < cnt S.log 1 S.now 300 699 ∧ anyI S.log = false ∧ ¬ 0 < cnt S.log 6 S.now 0 1000)) ∧ cnt S.log 5 S.now 0 1000 ≤ 1 := by
  rw [cnt_kc h 5, cnt_kc h 6, cnt_rej h, anyI_iff]
  have hs := h.sum
  unfold Sum at hs
  rw [h7] at hs
  simp at hs ⊢
  obtain ⟨_, _, _, h5, hi⟩ := hs
  exact ⟨by rw [hi], h5⟩
theorem ends_law3 {S : Sim} (h : J S) (h3 : S.m.st = 3) : cnt S.log 1 S.now 200 699 = 0 := by
  rw [cnt_fin h]
  have hs := h.sum
  unfold Sum at hs
  rw [h3] at hs
  simp at hs
  exact hs.2.1
end Go.Proofs.Ytdllehgiambkcaa.Sv
