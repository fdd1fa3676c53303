/- The plain law of until: all timers that are due fire, and what then holds. No program in sight. -/
import Derived.Test.YtdllehgiambkcaaSvTime
namespace Go.Proofs.Ytdllehgiambkcaa.Sv
open Go.RowKit

def dueB (T x : Int) : Bool := decide (0 ≤ x) && decide (x ≤ T)
def cp (l : List Int) (T : Int) : Nat := l.countP (dueB T)

theorem cp_le (l : List Int) (T : Int) : cp l T ≤ l.length := List.countP_le_length
theorem cp_set {l : List Int} {T x : Int} {i : Nat} (hi : i < l.length) : cp (l.set i x) T + (if dueB T (l.getD i 0) then 1 else 0) = cp l T + (if dueB T x then 1 else 0) := by
  unfold cp
  have e : l.getD i 0 = l[i] := by simp [List.getD_eq_getElem?_getD, hi]
  rw [e]
  have h1 := List.countP_set (p := dueB T) (l := l) (i := i) (a := x) hi
  have h2 : dueB T l[i] = true → 0 < l.countP (dueB T) := fun h => List.countP_pos_iff.mpr ⟨_, List.getElem_mem hi, h⟩
  rw [h1]
  by_cases a : dueB T l[i] = true
  · have := h2 a
    simp only [a, if_true]
    omega
  · simp only [a]; simp

def Phi (S : Sim) (T : Int) : Nat := cp S.due T + (if dueB T (S.due.getD 7 0) then ((T - S.due.getD 7 0) / 1000).toNat else 0)

theorem phi_fire {S : Sim} {T : Int} (h : J S) (i : Nat) (hi : i < 14) (h0 : 0 ≤ S.due.getD i 0) (hT : S.due.getD i 0 ≤ T) : Phi (fire S i) T < Phi S T := by
  have hd := did (s := S.m.st) (x := S.m.wait) (d := S.m.code) h.may 5 0 i
  have hdue := due_did hd { S with now := S.due.getD i 0, due := S.due.set i (-1), m := (step S.m 5 0 i).1 }
  have e : (fire S i).due = (takeAll { S with now := S.due.getD i 0, due := S.due.set i (-1), m := (step S.m 5 0 i).1 } (step S.m 5 0 i).2).due := rfl
  have hl := h.len
  have b1 : dueB T (S.due.getD i 0) = true := by unfold dueB; rw [decide_eq_true h0, decide_eq_true hT]; rfl
  have b2 : dueB T (-1) = false := by simp [dueB]
  have c1 := cp_set (l := S.due) (T := T) (x := -1) (i := i) (by omega)
  rw [b1, b2] at c1
  simp at c1
  unfold Phi
  rcases hdue with ⟨q, -⟩ | ⟨k4, -⟩ | ⟨k4, -⟩ | ⟨-, -, i7, st, y, y1, y2, q⟩ | ⟨k3, -⟩
  · rw [← e] at q
    rw [q]
    simp only
    rw [getD_set (by omega)]
    by_cases h7 : i = 7
    · rw [if_pos h7, b2]; simp; omega
    · rw [if_neg h7]; omega
  · omega
  · omega
  · rw [← e] at q
    have i7' : i = 7 := by omega
    subst i7'
    rw [q]
    simp only
    have c2 := cp_set (l := S.due.set 7 (-1)) (T := T) (x := S.due.getD 7 0 + y) (i := 7) (by simp [hl])
    rw [getD_set (by omega), if_pos rfl, b2] at c2
    rw [getD_set (by simp [hl]), if_pos rfl, b1]
    by_cases b3 : dueB T (S.due.getD 7 0 + y) = true
    · rw [b3] at c2 ⊢
      simp [dueB] at b3
      simp at c2 ⊢
      omega
    · have b3' : dueB T (S.due.getD 7 0 + y) = false := by simpa using b3
      rw [b3'] at c2 ⊢
      simp at c2 ⊢
      omega
  · omega

theorem phi_bound {S : Sim} {T : Int} (h : J S) (hT : T ≤ S.now + 100000) : Phi S T ≤ 200 := by
  unfold Phi
  have h1 := cp_le S.due T
  have hl := h.len
  have h7 := h.due 7 (by omega)
  split
  · rename_i hb
    simp only [dueB, Bool.and_eq_true, decide_eq_true_eq] at hb
    omega
  · omega

/-- What until leaves. -/
structure Done (S R : Sim) (T : Int) : Prop where
  j : J R
  pend : ∀ Ev, Pend S Ev → Pend R Ev
  over : ∀ i, i < 14 → R.due.getD i 0 < 0 ∨ T < R.due.getD i 0
  code : R.m.code = S.m.code
  now : R.now ≤ max S.now T
  le : S.now ≤ R.now

theorem go_done (T : Int) : ∀ (n : Nat) (S : Sim), J S → Phi S T ≤ n → Done S (untilGo n S T) T
  | 0, S, h, hp => by
    refine ⟨h, fun _ p => p, fun i hi => ?_, rfl, by show S.now ≤ _; omega, Int.le_refl _⟩
    have hl := h.len
    have : cp S.due T = 0 := by unfold Phi at hp; omega
    unfold cp at this
    rw [List.countP_eq_zero] at this
    have e : S.due.getD i 0 = S.due[i] := by simp [List.getD_eq_getElem?_getD, hl, hi]
    have := this S.due[i] (List.getElem_mem (by omega))
    show S.due.getD i 0 < 0 ∨ T < S.due.getD i 0
    rw [e]
    simp [dueB] at this
    omega
  | n + 1, S, h, hp => by
    unfold untilGo
    obtain ⟨m1, m2⟩ := pick_min S.due T 14
    obtain ⟨b1, b2, b3⟩ := pickTo_bound S.due T 14
    by_cases hf : pickTo S.due T 14 < 0
    · rw [if_pos hf]
      exact ⟨h, fun _ p => p, fun i hi => m1 hf i hi, rfl, by show S.now ≤ _; omega, Int.le_refl _⟩
    · rw [if_neg hf]
      have hf' : 0 ≤ pickTo S.due T 14 := by omega
      have b3' := b3 hf'
      have m2' := m2 hf'
      obtain ⟨i, hi⟩ : ∃ i : Nat, (pickTo S.due T 14).toNat = i := ⟨_, rfl⟩
      rw [hi] at b3' m2' ⊢
      have hi14 : i < 14 := by omega
      have hj := fire_j h i hi14 b3'.1 (fun j hj => by rcases m2' j hj with a | a | a <;> omega)
      have hph := phi_fire h i hi14 b3'.1 b3'.2
      have ih := go_done T n (fire S i) hj (by omega)
      have hn := fire_now S i
      have hle : S.now ≤ S.due.getD i 0 := by rcases h.due i hi14 with a | a <;> omega
      refine ⟨ih.j, fun Ev p => ih.pend Ev (fire_pend h p i hi14), ih.over, ?_, ?_, ?_⟩
      · rw [ih.code, fire_m]
        exact (did_st5 (did (s := S.m.st) (x := S.m.wait) (d := S.m.code) h.may 5 0 i)).2.2.2.2.2.2
      · have := ih.now; rw [hn] at this; omega
      · have := ih.le; omega

/-- until, when the time is not far. -/
theorem until_done {S : Sim} {T : Int} (h : J S) (hT : T ≤ S.now + 100000) : Done S (untilT S T) T ∧ (untilT S T).now = max S.now T := by
  have hd := go_done T 200 S h (phi_bound h hT)
  have e : (untilT S T).now = max (untilGo 200 S T).now T := rfl
  have h1 := hd.now
  have h2 := hd.le
  have en : (untilT S T).now = max S.now T := by rw [e]; omega
  refine ⟨⟨⟨hd.j.len, hd.j.may, fun a ha => ?_, fun i hi => ?_, hd.j.sum, by rw [en]; have := h.now; omega⟩, fun Ev p => ⟨(hd.pend Ev p).acc, (hd.pend Ev p).rej, (hd.pend Ev p).con⟩, hd.over, hd.code, by omega, by omega⟩, en⟩
  · have := hd.j.log a ha
    rw [e]
    omega
  · have a1 := hd.over i hi
    have a2 := hd.j.due i hi
    have a1' : (untilT S T).due.getD i 0 < 0 ∨ T < (untilT S T).due.getD i 0 := a1
    have a2' : (untilT S T).due.getD i 0 < 0 ∨ (untilGo 200 S T).now ≤ (untilT S T).due.getD i 0 := a2
    rw [e]
    omega
end Go.Proofs.Ytdllehgiambkcaa.Sv
