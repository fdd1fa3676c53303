/- The plain law of chapter 14's simulation, with time: what until does. No program in sight. -/
import Derived.Test.YtdllehgiambkcaaSvPlain
namespace Go.Proofs.Ytdllehgiambkcaa.Sv
open Go.RowKit

structure J (S : Sim) : Prop where
  len : S.due.length = 14
  may : may S.m = true
  log : ∀ e ∈ S.log, e.at_ ≤ S.now ∧ 0 ≤ e.out.code ∧ e.out.code ≤ 699
  due : ∀ i, i < 14 → S.due.getD i 0 < 0 ∨ S.now ≤ S.due.getD i 0
  sum : Sum S.m.st S.log
  now : 0 ≤ S.now

/-- The timer that ends the state is running, and fires at most 32000 (5000) after Ev. -/
structure Pend (S : Sim) (Ev : Int) : Prop where
  acc : S.m.st = 4 → 0 ≤ S.due.getD 12 0 ∧ S.due.getD 12 0 ≤ Ev + 32000
  rej : S.m.st = 5 → 0 ≤ S.due.getD 8 0 ∧ S.due.getD 8 0 ≤ Ev + 32000
  con : S.m.st = 6 → 0 ≤ S.due.getD 9 0 ∧ S.due.getD 9 0 ≤ Ev + 5000

theorem getD_set {l : List Int} {i j : Nat} {x : Int} (hi : i < l.length) : (l.set i x).getD j 0 = if i = j then x else l.getD j 0 := by
  simp only [List.getD_eq_getElem?_getD, List.getElem?_set]
  by_cases h : i = j
  · subst h; simp [hi]
  · simp [h]

/-- What the outputs of a step do to the timers. -/
theorem due_did {s x d k c t : Int} {m : M} {o : List O} (hd : Did s x d k c t m o) (S : Sim) :
    ((takeAll S o).due = S.due ∧ (m.st = 4 → s = 4) ∧ (m.st = 5 → s = 5) ∧ (m.st = 6 → s = 6)) ∨ (k = 4 ∧ m.st = 4 ∧ (takeAll S o).due = S.due.set 12 (S.now + 32000)) ∨ (k = 4 ∧ m.st = 5 ∧ (takeAll S o).due = (S.due.set 7 (S.now + 500)).set 8 (S.now + 32000))
      ∨ (k = 5 ∧ s = 5 ∧ t = 7 ∧ m.st = 5 ∧ ∃ y, 1000 ≤ y ∧ y ≤ 4000 ∧ (takeAll S o).due = S.due.set 7 (S.now + y)) ∨ (k = 3 ∧ m.st = 6 ∧ (takeAll S o).due = S.due.set 9 (S.now + 5000)) := by
  cases hd
  case acc k4 s3 c1 c2 => right; left; exact ⟨k4, rfl, by simp [takeAll, take1, sendO, timerO]; rfl⟩
  case rej k4 s3 c1 c2 => right; right; left; exact ⟨k4, rfl, by simp [takeAll, take1, sendO, timerO]; rfl⟩
  case resend y k5 s5 t7 y1 y2 _ _ =>
    right; right; right; left
    refine ⟨k5, s5, t7, rfl, y, y1, y2, ?_⟩
    simp [takeAll, take1, sendO, timerO, show max 1 y = y by omega]
  case ack k3 s5 => right; right; right; right; exact ⟨k3, rfl, by simp [takeAll, take1, timerO]; rfl⟩
  all_goals (left; refine ⟨by simp [takeAll, take1, sendO, endO], ?_⟩; simp <;> omega)

theorem did_st {s x d k c t : Int} {m : M} {o : List O} (hd : Did s x d k c t m o) :
    (m.st = 4 → s = 4 ∨ k = 4) ∧ (m.st = 5 → s = 5 ∨ k = 4) ∧ (m.st = 6 → s = 6 ∨ k = 3) ∧ (k ≠ 4 → m.code = d) := by
  cases hd <;> simp <;> omega
theorem did_st5 {s x d c t : Int} {m : M} {o : List O} (hd : Did s x d 5 c t m o) :
    (s = 4 → t = 12 → m.st = 7) ∧ (s = 6 → t = 9 → m.st = 7) ∧ (s = 5 → t = 8 → m.st = 7) ∧ (m.st = 4 → s = 4) ∧ (m.st = 5 → s = 5) ∧ (m.st = 6 → s = 6) ∧ m.code = d := by
  cases hd <;> simp_all <;> omega
theorem did_7 {s x d k c t : Int} {m : M} {o : List O} (hd : Did s x d k c t m o) (hs : s = 7) : m = ⟨s, x, d⟩ ∧ o = [] := by
  cases hd <;> first | exact ⟨rfl, rfl⟩ | (exfalso; omega)

/-- The outputs' codes. -/
theorem did_codes {s x d k c t : Int} {m : M} {o : List O} (hd : Did s x d k c t m o) (hm : may ⟨s, x, d⟩ = true) : ∀ e ∈ o, 0 ≤ e.code ∧ e.code ≤ 699 := by
  have hc := may_cls hm
  cases hd <;> simp [sendO, timerO, endO] <;> omega

theorem give_j {S : Sim} (h : J S) (k c t : Int) : J (give S k c t) := by
  have hd := did (s := S.m.st) (x := S.m.wait) (d := S.m.code) h.may k c t
  have hn := give_now S k c t
  have hdue := due_did hd { S with m := (step S.m k c t).1 }
  have e : give S k c t = takeAll { S with m := (step S.m k c t).1 } (step S.m k c t).2 := rfl
  have hst := did_may hd h.may
  have hsum := sum_did (n := S.now) hd h.may h.sum
  have hcod := did_codes hd h.may
  have hl := h.len
  refine ⟨?_, by rw [give_m]; exact hst, ?_, ?_, by rw [give_m, give_log]; exact hsum, by rw [hn]; exact h.now⟩
  · rw [e]
    rcases hdue with ⟨q, _⟩ | ⟨_, _, q⟩ | ⟨_, _, q⟩ | ⟨_, _, _, _, y, _, _, q⟩ | ⟨_, _, q⟩
    all_goals (rw [show (takeAll { S with m := (step S.m k c t).1 } (step S.m k c t).2).due = _ from q]; simp [hl])
  · rw [give_log, hn]
    intro a ha
    rcases List.mem_append.mp ha with ha | ha
    · exact h.log a ha
    · simp only [logged, List.mem_map] at ha
      obtain ⟨o, ho, rfl⟩ := ha
      exact ⟨Int.le_refl _, hcod o ho⟩
  · intro i hi
    rw [hn, e]
    have h0 := h.due i hi
    have hnow := h.now
    rcases hdue with ⟨q, _⟩ | ⟨_, _, q⟩ | ⟨_, _, q⟩ | ⟨_, _, _, _, y, _, _, q⟩ | ⟨_, _, q⟩
    all_goals (rw [show (takeAll { S with m := (step S.m k c t).1 } (step S.m k c t).2).due = _ from q])
    · exact h0
    · rw [getD_set (by simp [hl])]; split <;> simp only [] at * <;> omega
    · rw [getD_set (by simp [hl]), getD_set (by simp [hl])]; split <;> (try split) <;> simp only [] at * <;> omega
    · rw [getD_set (by simp [hl])]; split <;> simp only [] at * <;> omega
    · rw [getD_set (by simp [hl])]; split <;> simp only [] at * <;> omega

theorem give_pend {S : Sim} {Ev : Int} (h : J S) (hp : Pend S Ev) (hE : S.now ≤ Ev) (k c t : Int) (hk : k ≠ 5 ∨ t = 0) : Pend (give S k c t) Ev := by
  have hd := did (s := S.m.st) (x := S.m.wait) (d := S.m.code) h.may k c t
  have hdue := due_did hd { S with m := (step S.m k c t).1 }
  obtain ⟨q4, q5, q6, -⟩ := did_st hd
  have e : (give S k c t).due = (takeAll { S with m := (step S.m k c t).1 } (step S.m k c t).2).due := rfl
  have em := give_m S k c t
  have hl := h.len
  have hnow := h.now
  obtain ⟨p4, p5, p6⟩ := hp
  rcases hdue with ⟨q, r4, r5, r6⟩ | ⟨_, st, q⟩ | ⟨_, st, q⟩ | ⟨k5, _, t7, _⟩ | ⟨_, st, q⟩
  · rw [← e] at q
    exact ⟨fun h4 => by rw [q]; exact p4 (r4 (by rw [← em]; exact h4)), fun h5 => by rw [q]; exact p5 (r5 (by rw [← em]; exact h5)), fun h6 => by rw [q]; exact p6 (r6 (by rw [← em]; exact h6))⟩
  · rw [← e] at q
    refine ⟨fun _ => ?_, fun h5 => ?_, fun h6 => ?_⟩
    · rw [q, getD_set (by simp [hl])]; simp; omega
    · rw [em, st] at h5; omega
    · rw [em, st] at h6; omega
  · rw [← e] at q
    refine ⟨fun h4 => ?_, fun _ => ?_, fun h6 => ?_⟩
    · rw [em, st] at h4; omega
    · rw [q, getD_set (by simp [hl])]; simp; omega
    · rw [em, st] at h6; omega
  · omega
  · rw [← e] at q
    refine ⟨fun h4 => ?_, fun h5 => ?_, fun _ => ?_⟩
    · rw [em, st] at h4; omega
    · rw [em, st] at h5; omega
    · rw [q, getD_set (by simp [hl])]; simp; omega

theorem pick_min (due : List Int) (t : Int) : ∀ n, (pickTo due t n < 0 → ∀ j, j < n → due.getD j 0 < 0 ∨ t < due.getD j 0) ∧ (0 ≤ pickTo due t n → ∀ j, j < n → due.getD j 0 < 0 ∨ t < due.getD j 0 ∨ due.getD (pickTo due t n).toNat 0 ≤ due.getD j 0)
  | 0 => ⟨fun _ j h => absurd h (by omega), fun _ j h => absurd h (by omega)⟩
  | n + 1 => by
    obtain ⟨ih1, ih2⟩ := pick_min due t n
    obtain ⟨b1, b2, b3⟩ := pickTo_bound due t n
    rw [pickTo_succ]
    unfold pickStep
    split
    · rename_i h
      refine ⟨fun hn => absurd hn (by omega), fun _ j hj => ?_⟩
      simp only [Int.toNat_natCast]
      rcases Nat.lt_or_ge j n with hjn | hjn
      · rcases h.2.2 with hf | hf
        · rcases ih1 hf j hjn with a | a <;> omega
        · by_cases hp : pickTo due t n < 0
          · rcases ih1 hp j hjn with a | a <;> omega
          · rcases ih2 (by omega) j hjn with a | a | a <;> omega
      · have : j = n := by omega
        subst this
        omega
    · rename_i h
      refine ⟨fun hn j hj => ?_, fun hn j hj => ?_⟩
      · rcases Nat.lt_or_ge j n with hjn | hjn
        · exact ih1 hn j hjn
        · have : j = n := by omega
          subst this
          omega
      · rcases Nat.lt_or_ge j n with hjn | hjn
        · exact ih2 hn j hjn
        · have : j = n := by omega
          subst this
          omega

theorem fire_m (S : Sim) (i : Nat) : (fire S i).m = (step S.m 5 0 i).1 := give_m _ _ _ _
theorem fire_now (S : Sim) (i : Nat) : (fire S i).now = S.due.getD i 0 := give_now _ _ _ _

theorem fire_j {S : Sim} (h : J S) (i : Nat) (hi : i < 14) (h0 : 0 ≤ S.due.getD i 0) (hmin : ∀ j, j < 14 → S.due.getD j 0 < 0 ∨ S.due.getD i 0 ≤ S.due.getD j 0) : J (fire S i) := by
  have hl := h.len
  have hn : S.now ≤ S.due.getD i 0 := by rcases h.due i hi with a | a <;> omega
  refine give_j (S := { S with now := S.due.getD i 0, due := S.due.set i (-1) }) ⟨by simp [hl], h.may, fun e he => ?_, fun j hj => ?_, h.sum, h0⟩ 5 0 i
  · have := h.log e he
    simp only
    omega
  · simp only
    rw [getD_set (by omega)]
    split
    · left; omega
    · exact hmin j hj

theorem fire_pend {S : Sim} {Ev : Int} (h : J S) (hp : Pend S Ev) (i : Nat) (hi : i < 14) : Pend (fire S i) Ev := by
  have hd := did (s := S.m.st) (x := S.m.wait) (d := S.m.code) h.may 5 0 i
  have hdue := due_did hd { S with now := S.due.getD i 0, due := S.due.set i (-1), m := (step S.m 5 0 i).1 }
  obtain ⟨t4, t6, t5, q4, q5, q6, -⟩ := did_st5 hd
  have e : (fire S i).due = (takeAll { S with now := S.due.getD i 0, due := S.due.set i (-1), m := (step S.m 5 0 i).1 } (step S.m 5 0 i).2).due := rfl
  have em := fire_m S i
  have hl := h.len
  obtain ⟨p4, p5, p6⟩ := hp
  have n4 : (fire S i).m.st = 4 → i ≠ 12 := fun a b => by
    rw [em] at a
    have := t4 (q4 a) (by omega)
    have a' : (step S.m 5 0 i).1.st = 4 := a
    have b' : (step S.m 5 0 i).1.st = 7 := this
    omega
  have n5 : (fire S i).m.st = 5 → i ≠ 8 := fun a b => by
    rw [em] at a
    have := t5 (q5 a) (by omega)
    have a' : (step S.m 5 0 i).1.st = 5 := a
    have b' : (step S.m 5 0 i).1.st = 7 := this
    omega
  have n6 : (fire S i).m.st = 6 → i ≠ 9 := fun a b => by
    rw [em] at a
    have := t6 (q6 a) (by omega)
    have a' : (step S.m 5 0 i).1.st = 6 := a
    have b' : (step S.m 5 0 i).1.st = 7 := this
    omega
  rcases hdue with ⟨q, -⟩ | ⟨k4, -⟩ | ⟨k4, -⟩ | ⟨-, -, i7, st, y, -, -, q⟩ | ⟨k3, -⟩
  · rw [← e] at q
    refine ⟨fun a => ?_, fun a => ?_, fun a => ?_⟩
    · rw [q]; simp only; rw [getD_set (by omega), if_neg (n4 a)]; exact p4 (q4 (by rw [← em]; exact a))
    · rw [q]; simp only; rw [getD_set (by omega), if_neg (n5 a)]; exact p5 (q5 (by rw [← em]; exact a))
    · rw [q]; simp only; rw [getD_set (by omega), if_neg (n6 a)]; exact p6 (q6 (by rw [← em]; exact a))
  · omega
  · omega
  · rw [← e] at q
    refine ⟨fun a => ?_, fun a => ?_, fun a => ?_⟩
    · rw [em, st] at a; omega
    · rw [q]; simp only; rw [getD_set (by simp [hl]), if_neg (by omega), getD_set (by omega), if_neg (n5 a)]; exact p5 (q5 (by rw [← em]; exact a))
    · rw [em, st] at a; omega
  · omega
end Go.Proofs.Ytdllehgiambkcaa.Sv
