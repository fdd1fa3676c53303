/- The plain law of InviteserverAnswers. -/
import Derived.Test.YtdllehgiambkcaaSvEndsLaw
namespace Go.Proofs.Ytdllehgiambkcaa.Sv
open Go.RowKit

def Ev.ok2 (e : Ev) : Prop := 0 ≤ e.kind ∧ e.kind < 256

theorem did_ans {s x d k c t : Int} {m : M} {o : List O} (hd : Did s x d k c t m o) :
    (k = 1 → (s = 3 ∨ s = 5) → o = [sendO d]) ∧ (k = 1 → ¬ (s = 3 ∨ s = 5) → o = []) ∧ (k = 4 → 0 < o.length → m.code = c) ∧ (k = 4 → o = [] → m.code = d) ∧ (k ≠ 4 → m.code = d) ∧ (m.code = d ∨ m.code = c) := by
  cases hd <;> simp <;> omega

/-- One round: what is put out, and the code of the machine. -/
theorem ans_step {U : Sim} (h : J U) (k c : Int) :
    ∃ o : List O, o.length ≤ 3 ∧ (give U k c 0).log = U.log ++ logged U.now o ∧ J (give U k c 0) ∧ (give U k c 0).now = U.now
      ∧ (k = 1 → (U.m.st = 3 ∨ U.m.st = 5) → o = [sendO U.m.code]) ∧ (k = 1 → ¬ (U.m.st = 3 ∨ U.m.st = 5) → o = []) ∧ (give U k c 0).m.code = (if k = 4 ∧ 0 < o.length then c else U.m.code) := by
  have hd := did (s := U.m.st) (x := U.m.wait) (d := U.m.code) h.may k c 0
  obtain ⟨h1, h2, h3, h4, h5, -⟩ := did_ans hd
  refine ⟨(step U.m k c 0).2, (step_ok _ _ _ _).1, give_log _ _ _ _, give_j h _ _ _, give_now _ _ _ _, h1, h2, ?_⟩
  rw [give_m]
  by_cases k4 : k = 4
  · by_cases ho : 0 < (step U.m k c 0).2.length
    · rw [if_pos ⟨k4, ho⟩]; exact h3 k4 ho
    · rw [if_neg (fun e => ho e.2)]; exact h4 k4 (List.eq_nil_of_length_eq_zero (Nat.le_zero.mp (Nat.not_lt.mp ho)))
  · rw [if_neg (fun e => k4 e.1)]; exact h5 k4

theorem give_ge (S : Sim) (k c t : Int) : S.log.length ≤ (give S k c t).log.length := by rw [give_log, List.length_append]; omega
theorem go_ge (T : Int) : ∀ (n : Nat) (S : Sim), S.log.length ≤ (untilGo n S T).log.length
  | 0, S => by simp [untilGo]
  | n + 1, S => by
    unfold untilGo
    split
    · omega
    · have h1 := go_ge T n (fire S (pickTo S.due T 14).toNat)
      have h2 : S.log.length ≤ (fire S (pickTo S.due T 14).toNat).log.length := by unfold fire; rw [give_log]; simp
      omega
theorem until_ge (S : Sim) (T : Int) : S.log.length ≤ (untilT S T).log.length := go_ge T 200 S

theorem ans_end {S : Sim} (h : J S) : cnt S.log 3 S.now 0 1000 = 1 ∧ closedS S = true := by
  rw [cnt_kc h 3]
  exact ⟨h.sum.1, closed_j h⟩
end Go.Proofs.Ytdllehgiambkcaa.Sv
