/- The plain law of chapter 14's simulation: what holds of the log and of the machine, whatever comes. No program in sight. -/
import Derived.Test.YtdllehgiambkcaaSvCount
namespace Go.Proofs.Ytdllehgiambkcaa.Sv
open Go.RowKit

theorem clsI1 {n : Int} : cls n = 1 ↔ 100 ≤ n ∧ n < 200 := by unfold cls; repeat' split <;> omega
theorem clsI2 {n : Int} : cls n = 2 ↔ 200 ≤ n ∧ n < 300 := by unfold cls; repeat' split <;> omega
theorem clsI3 {n : Int} : cls n = 3 ↔ 300 ≤ n ∧ n ≤ 699 := by unfold cls; repeat' split <;> omega
theorem clsI0 {n : Int} : cls n ≠ 0 ↔ 100 ≤ n ∧ n ≤ 699 := by unfold cls; repeat' split <;> omega

/-- How many outputs of a kind; rejecting and final answers sent; starts of timer I. -/
def kc (k : Int) (l : List E) : Nat := l.countP fun e => decide (e.out.kind = k)
def rejC (l : List E) : Nat := l.countP fun e => decide (e.out.kind = 1) && decide (300 ≤ e.out.code) && decide (e.out.code ≤ 699)
def finC (l : List E) : Nat := l.countP fun e => decide (e.out.kind = 1) && decide (200 ≤ e.out.code) && decide (e.out.code ≤ 699)
def iC (l : List E) : Nat := l.countP fun e => decide (e.out.kind = 4) && decide (e.out.timer = 9)

def Sum (st : Int) (l : List E) : Prop :=
  kc 3 l = 1 ∧
  if st = 3 then finC l = 0 ∧ rejC l = 0 ∧ iC l = 0 ∧ kc 5 l = 0 ∧ kc 6 l = 0 ∧ kc 7 l = 0
  else if st = 4 then rejC l = 0 ∧ iC l = 0 ∧ kc 5 l = 0 ∧ kc 6 l = 0 ∧ kc 7 l = 0
  else if st = 5 then 0 < rejC l ∧ iC l = 0 ∧ kc 5 l = 0 ∧ kc 6 l = 0 ∧ kc 7 l = 0
  else if st = 6 then 0 < rejC l ∧ 0 < iC l ∧ kc 5 l = 0 ∧ kc 6 l = 0 ∧ kc 7 l = 0
  else st = 7 ∧ kc 7 l = 1 ∧ (∃ l' e, l = l' ++ [e] ∧ e.out.kind = 7) ∧ kc 5 l ≤ 1 ∧ (kc 5 l = 1 ↔ 0 < rejC l ∧ iC l = 0 ∧ kc 6 l = 0)

theorem may_cls {s x c : Int} (h : may ⟨s, x, c⟩ = true) : (s = 3 ∧ x = 0 ∧ 100 ≤ c ∧ c < 200) ∨ (s = 4 ∧ x = 0 ∧ 200 ≤ c ∧ c < 300) ∨ (s = 5 ∧ (x = 500 ∨ x = 1000 ∨ x = 2000 ∨ x = 4000) ∧ 300 ≤ c ∧ c ≤ 699) ∨ (s = 6 ∧ x = 0 ∧ 300 ≤ c ∧ c ≤ 699) ∨ (s = 7 ∧ x = 0 ∧ 100 ≤ c ∧ c ≤ 699) := by
  unfold may short at h
  simp only at h
  by_cases h5 : s = 5
  · simp [h5] at h; rw [clsI3] at h; omega
  · rw [if_neg h5] at h
    by_cases h3 : s = 3
    · simp [h3] at h; rw [clsI1] at h; omega
    · by_cases h4 : s = 4
      · simp [h4] at h; rw [clsI2] at h; omega
      · by_cases h6 : s = 6
        · simp [h6] at h; rw [clsI3] at h; omega
        · by_cases h7 : s = 7
          · simp [h7] at h; have := clsI0.mp h.2; omega
          · simp [h3, h4, h6, h7] at h
theorem cls_may {s x c : Int} (h : (s = 3 ∧ x = 0 ∧ 100 ≤ c ∧ c < 200) ∨ (s = 4 ∧ x = 0 ∧ 200 ≤ c ∧ c < 300) ∨ (s = 5 ∧ (x = 500 ∨ x = 1000 ∨ x = 2000 ∨ x = 4000) ∧ 300 ≤ c ∧ c ≤ 699) ∨ (s = 6 ∧ x = 0 ∧ 300 ≤ c ∧ c ≤ 699) ∨ (s = 7 ∧ x = 0 ∧ 100 ≤ c ∧ c ≤ 699)) : may ⟨s, x, c⟩ = true := by
  rcases h with ⟨rfl, rfl, h1, h2⟩ | ⟨rfl, rfl, h1, h2⟩ | ⟨rfl, hx, h1, h2⟩ | ⟨rfl, rfl, h1, h2⟩ | ⟨rfl, rfl, h1, h2⟩
  · simp [may, clsI1]; omega
  · simp [may, clsI2]; omega
  · have := clsI3.mpr ⟨h1, h2⟩
    rcases hx with rfl | rfl | rfl | rfl <;> simp [may, short, this]
  · simp [may, clsI3]; omega
  · have := clsI0.mpr ⟨h1, h2⟩
    simp [may, this]

def logged (n : Int) (l : List O) : List E := l.map fun o => ⟨n, o⟩
theorem takeAll_logeq (S : Sim) (l : List O) : (takeAll S l).log = S.log ++ logged S.now l := by
  induction l generalizing S with
  | nil => simp [takeAll, logged]
  | cons o l ih => exact (ih _).trans (by simp [take1, logged])
theorem give_log (S : Sim) (k c t : Int) : (give S k c t).log = S.log ++ logged S.now (step S.m k c t).2 := takeAll_logeq _ _
theorem give_now (S : Sim) (k c t : Int) : (give S k c t).now = S.now := takeAll_now _ _
theorem give_m (S : Sim) (k c t : Int) : (give S k c t).m = (step S.m k c t).1 := takeAll_m _ _

theorem kc_app (k : Int) (l l' : List E) : kc k (l ++ l') = kc k l + kc k l' := List.countP_append
theorem rejC_app (l l' : List E) : rejC (l ++ l') = rejC l + rejC l' := List.countP_append
theorem finC_app (l l' : List E) : finC (l ++ l') = finC l + finC l' := List.countP_append
theorem iC_app (l l' : List E) : iC (l ++ l') = iC l + iC l' := List.countP_append

theorem kc0 (k n : Int) : kc k (logged n []) = 0 := rfl
theorem rejC0 (n : Int) : rejC (logged n []) = 0 := rfl
theorem finC0 (n : Int) : finC (logged n []) = 0 := rfl
theorem iC0 (n : Int) : iC (logged n []) = 0 := rfl
theorem kc_cons (k n : Int) (o : O) (l : List O) : kc k (logged n (o :: l)) = kc k (logged n l) + if o.kind = k then 1 else 0 := by simp [kc, logged, List.countP_cons]
theorem rejC_cons (n : Int) (o : O) (l : List O) : rejC (logged n (o :: l)) = rejC (logged n l) + if o.kind = 1 ∧ 300 ≤ o.code ∧ o.code ≤ 699 then 1 else 0 := by simp [rejC, logged, List.countP_cons, and_assoc]
theorem finC_cons (n : Int) (o : O) (l : List O) : finC (logged n (o :: l)) = finC (logged n l) + if o.kind = 1 ∧ 200 ≤ o.code ∧ o.code ≤ 699 then 1 else 0 := by simp [finC, logged, List.countP_cons, and_assoc]
theorem iC_cons (n : Int) (o : O) (l : List O) : iC (logged n (o :: l)) = iC (logged n l) + if o.kind = 4 ∧ o.timer = 9 then 1 else 0 := by simp [iC, logged, List.countP_cons]

/-- What a step of a machine that may be did. -/
inductive Did (s x d k c t : Int) : M → List O → Prop
  | idle : ¬ (k = 5 ∧ (s = 4 ∧ t = 12 ∨ s = 6 ∧ t = 9 ∨ s = 5 ∧ (t = 7 ∨ t = 8))) → ¬ (k = 1 ∧ (s = 3 ∨ s = 5)) → ¬ (k = 6 ∧ (s = 3 ∨ s = 5)) → ¬ (k = 3 ∧ s = 5) → Did s x d k c t ⟨s, x, d⟩ []
  | again : k = 4 → s = 4 → 200 ≤ c → c < 300 → Did s x d k c t ⟨4, 0, c⟩ [sendO c]
  | prov : k = 4 → s = 3 → 100 ≤ c → c < 200 → Did s x d k c t ⟨3, 0, c⟩ [sendO c]
  | acc : k = 4 → s = 3 → 200 ≤ c → c < 300 → Did s x d k c t ⟨4, 0, c⟩ [sendO c, timerO 12 32000]
  | rej : k = 4 → s = 3 → 300 ≤ c → c ≤ 699 → Did s x d k c t ⟨5, 500, c⟩ [sendO c, timerO 7 500, timerO 8 32000]
  | quit : k = 5 → (s = 4 ∧ t = 12 ∨ s = 6 ∧ t = 9) → Did s x d k c t ⟨7, 0, d⟩ [endO]
  | resend (y : Int) : k = 5 → s = 5 → t = 7 → 1000 ≤ y → y ≤ 4000 → (y = 1000 ∨ y = 2000 ∨ y = 4000) → y = min (2 * x) 4000 → Did s x d k c t ⟨5, y, d⟩ [sendO d, timerO 7 y]
  | late : k = 5 → s = 5 → t = 8 → Did s x d k c t ⟨7, 0, d⟩ [⟨5, 0, 0, 0⟩, endO]
  | repeated : k = 1 → (s = 3 ∨ s = 5) → Did s x d k c t ⟨s, x, d⟩ [sendO d]
  | fail_ : k = 6 → (s = 3 ∨ s = 5) → Did s x d k c t ⟨7, 0, d⟩ [⟨6, 0, 0, 0⟩, endO]
  | ack : k = 3 → s = 5 → Did s x d k c t ⟨6, 0, d⟩ [timerO 9 5000]

theorem did {s x d : Int} (hm : may ⟨s, x, d⟩ = true) (k c t : Int) : Did s x d k c t (step ⟨s, x, d⟩ k c t).1 (step ⟨s, x, d⟩ k c t).2 := by
  have hc := may_cls hm
  unfold step
  rw [if_neg (by simp [hm])]
  by_cases k4 : k = 4
  · rw [if_pos k4]
    unfold answer
    simp only
    by_cases a1 : s = 4 ∧ cls c = 2
    · rw [if_pos a1]; have := clsI2.mp a1.2; exact .again k4 a1.1 this.1 this.2
    · rw [if_neg a1]
      by_cases a2 : s ≠ 3 ∨ c = 100
      · rw [if_pos a2]; exact .idle (by omega) (by omega) (by omega) (by omega)
      · rw [if_neg a2]
        have h3 : s = 3 := by omega
        by_cases c1 : cls c = 1
        · rw [if_pos c1]; have := clsI1.mp c1; exact .prov k4 h3 this.1 this.2
        · rw [if_neg c1]
          by_cases c2 : cls c = 2
          · rw [if_pos c2]; have := clsI2.mp c2; exact .acc k4 h3 this.1 this.2
          · rw [if_neg c2]
            by_cases c3 : cls c = 3
            · rw [if_pos c3]; have := clsI3.mp c3; exact .rej k4 h3 this.1 this.2
            · rw [if_neg c3]; exact .idle (by omega) (by omega) (by omega) (by omega)
  · rw [if_neg k4]
    by_cases k5 : k = 5
    · rw [if_pos k5]
      unfold fired
      simp only
      by_cases a1 : s = 4 ∧ t = 12
      · rw [if_pos a1]; exact .quit k5 (Or.inl a1)
      · rw [if_neg a1]
        by_cases a2 : s = 6 ∧ t = 9
        · rw [if_pos a2]; exact .quit k5 (Or.inr a2)
        · rw [if_neg a2]
          by_cases a3 : s = 5 ∧ t = 7
          · rw [if_pos a3]; exact .resend _ k5 a3.1 a3.2 (by omega) (by omega) (by omega) rfl
          · rw [if_neg a3]
            by_cases a4 : s = 5 ∧ t = 8
            · rw [if_pos a4]; exact .late k5 a4.1 a4.2
            · rw [if_neg a4]; exact .idle (by omega) (by omega) (by omega) (by omega)
    · rw [if_neg k5]
      by_cases a1 : k = 1 ∧ (s = 3 ∨ s = 5)
      · rw [if_pos a1]; exact .repeated a1.1 a1.2
      · rw [if_neg a1]
        by_cases a2 : k = 6 ∧ (s = 3 ∨ s = 5)
        · rw [if_pos a2]; exact .fail_ a2.1 a2.2
        · rw [if_neg a2]
          by_cases a3 : k = 3 ∧ s = 5
          · rw [if_pos a3]; exact .ack a3.1 a3.2
          · rw [if_neg a3]; exact .idle (by omega) (by omega) (by omega) (by omega)

theorem did_may {s x d k c t : Int} {m : M} {o : List O} (h : Did s x d k c t m o) (hm : may ⟨s, x, d⟩ = true) : may m = true := by
  have hc := may_cls hm
  cases h
  case idle => exact hm
  case repeated => exact hm
  all_goals exact cls_may (by omega)

theorem sum_did {s x d k c t n : Int} {l : List E} {m : M} {o : List O} (hd : Did s x d k c t m o) (hm : may ⟨s, x, d⟩ = true) (h : Sum s l) : Sum m.st (l ++ logged n o) := by
  have hc := may_cls hm
  have last : ∀ (a : O), (∃ l' e, l ++ logged n [a, endO] = l' ++ [e] ∧ e.out.kind = 7) := fun a => ⟨l ++ [⟨n, a⟩], ⟨n, endO⟩, by simp [logged], rfl⟩
  have last1 : (∃ l' e, l ++ logged n [endO] = l' ++ [e] ∧ e.out.kind = 7) := ⟨l, ⟨n, endO⟩, by simp [logged], rfl⟩
  cases hd
  case idle => simpa [logged] using h
  all_goals (unfold Sum at h ⊢; simp only [kc_app, rejC_app, finC_app, iC_app, kc_cons, rejC_cons, finC_cons, iC_cons, kc0, rejC0, finC0, iC0, sendO, timerO, endO] at *)
  case again k4 s4 c1 c2 =>
    subst s4
    simp [show ¬ 300 ≤ c by omega] at h ⊢
    omega
  case prov k4 s3 c1 c2 =>
    subst s3
    simp [show ¬ 300 ≤ c by omega, show ¬ 200 ≤ c by omega] at h ⊢
    omega
  case acc k4 s3 c1 c2 =>
    subst s3
    simp [show ¬ 300 ≤ c by omega] at h ⊢
    omega
  case rej k4 s3 c1 c2 =>
    subst s3
    simp [c1, c2] at h ⊢
    omega
  case quit k5 q =>
    rcases q with ⟨s4, _⟩ | ⟨s6, _⟩
    · subst s4
      simp at h ⊢
      refine ⟨by omega, by omega, last1, by omega, ?_⟩
      omega
    · subst s6
      simp at h ⊢
      refine ⟨by omega, by omega, last1, by omega, ?_⟩
      omega
  case resend y k5 s5 t7 _ _ _ _ =>
    subst s5
    simp [show 300 ≤ d by omega, show d ≤ 699 by omega] at h ⊢
    omega
  case late k5 s5 t8 =>
    subst s5
    simp at h ⊢
    refine ⟨by omega, by omega, last _, by omega, ?_⟩
    omega
  case repeated k1 q =>
    rcases q with s3 | s5
    · subst s3
      simp [show ¬ 300 ≤ d by omega, show ¬ 200 ≤ d by omega] at h ⊢
      omega
    · subst s5
      simp [show 300 ≤ d by omega, show d ≤ 699 by omega] at h ⊢
      omega
  case fail_ k6 q =>
    rcases q with s3 | s5
    · subst s3
      simp at h ⊢
      refine ⟨by omega, by omega, last _, by omega, ?_⟩
      omega
    · subst s5
      simp at h ⊢
      refine ⟨by omega, by omega, last _, by omega, ?_⟩
      omega
  case ack k3 s5 =>
    subst s5
    simp at h ⊢
    omega
end Go.Proofs.Ytdllehgiambkcaa.Sv
