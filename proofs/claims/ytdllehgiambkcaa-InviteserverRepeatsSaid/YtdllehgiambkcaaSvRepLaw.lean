/- The plain law of InviteserverRepeats. No program in sight. -/
import Derived.Test.YtdllehgiambkcaaSvAnsLaw
namespace Go.Proofs.Ytdllehgiambkcaa.Sv
open Go.RowKit

/-- How many sends of the answer c. -/
def sc (c : Int) (l : List E) : Nat := l.countP fun e => decide (e.out.kind = 1) && decide (e.out.code = c)
theorem sc_app (c : Int) (l l' : List E) : sc c (l ++ l') = sc c l + sc c l' := List.countP_append
theorem sc0 (c n : Int) : sc c (logged n []) = 0 := rfl
theorem sc_cons (c n : Int) (o : O) (l : List O) : sc c (logged n (o :: l)) = sc c (logged n l) + if o.kind = 1 ∧ o.code = c then 1 else 0 := by simp [sc, logged, List.countP_cons]

def gdue (x : Int) : List Int := [-1, -1, -1, -1, -1, -1, -1, x, 32700, -1, -1, -1, -1, -1]
theorem gdue_get (x : Int) (i : Nat) (hi : i < 14) : (gdue x).getD i 0 = if i = 7 then x else if i = 8 then 32700 else -1 := by
  have : i = 0 ∨ i = 1 ∨ i = 2 ∨ i = 3 ∨ i = 4 ∨ i = 5 ∨ i = 6 ∨ i = 7 ∨ i = 8 ∨ i = 9 ∨ i = 10 ∨ i = 11 ∨ i = 12 ∨ i = 13 := by omega
  rcases this with rfl | rfl | rfl | rfl | rfl | rfl | rfl | rfl | rfl | rfl | rfl | rfl | rfl | rfl <;> simp [gdue]

/-- j copies beyond the first one were sent; the next is due. -/
structure GS (c : Int) (j : Nat) (S : Sim) : Prop where
  m : S.m = ⟨5, WT j, c⟩
  due : S.due = gdue (700 + AT (j + 1))
  sc : sc c S.log = j + 1
  j : J S

theorem wt_min (j : Nat) : min (2 * WT j) 4000 = WT (j + 1) := by
  unfold WT; repeat' split
  all_goals omega

theorem step_g {c : Int} {j : Nat} (hm : may ⟨5, WT j, c⟩ = true) : step ⟨5, WT j, c⟩ 5 0 7 = (⟨5, WT (j + 1), c⟩, [sendO c, timerO 7 (WT (j + 1))]) := by
  have := wt_min j
  simp [step, hm, fired, this]
theorem step_h {c : Int} {j : Nat} (hm : may ⟨5, WT j, c⟩ = true) : step ⟨5, WT j, c⟩ 5 0 8 = (⟨7, 0, c⟩, [⟨5, 0, 0, 0⟩, endO]) := by
  simp [step, hm, fired, over]

theorem gs_min {c : Int} {j : Nat} {S : Sim} (h : GS c j S) (hj : j ≤ 9) : ∀ i, i < 14 → S.due.getD i 0 < 0 ∨ S.due.getD 7 0 ≤ S.due.getD i 0 := by
  intro i hi
  rw [h.due, gdue_get _ _ hi, gdue_get _ 7 (by omega)]
  have := at_bd (j + 1) (by omega)
  have : AT (j + 1) ≤ 32000 := by unfold AT; repeat' split
                                  all_goals omega
  repeat' split
  all_goals omega

theorem gs_fire {c : Int} {j : Nat} {S : Sim} (h : GS c j S) (hj : j ≤ 9) : GS c (j + 1) (fire S 7) := by
  have hm : may ⟨5, WT j, c⟩ = true := by rw [← h.m]; exact h.j.may
  have hs := step_g hm
  have ha := at_bd (j + 1) (by omega)
  have hw := at_bd (j + 1) (by omega)
  have hn := at_next (j + 1)
  have h7 : S.due.getD 7 0 = 700 + AT (j + 1) := by rw [h.due, gdue_get _ 7 (by omega)]; simp
  have hl := h.j.len
  refine ⟨?_, ?_, ?_, fire_j h.j 7 (by omega) (by omega) (gs_min h hj)⟩
  · rw [fire_m, h.m]
    exact congrArg Prod.fst hs
  · have e : (fire S 7).due = (takeAll { S with now := S.due.getD 7 0, due := S.due.set 7 (-1), m := (step S.m 5 0 (7 : Nat)).1 } (step S.m 5 0 (7 : Nat)).2).due := rfl
    rw [e, h.m, show ((7 : Nat) : Int) = 7 from rfl, hs, h7, h.due]
    have hx : 1 ≤ WT (j + 1) := by unfold WT; repeat' split
                                   all_goals omega
    simp [takeAll, take1, sendO, timerO, gdue, show max 1 (WT (j + 1)) = WT (j + 1) by omega]
    omega
  · have e : (fire S 7).log = S.log ++ logged (S.due.getD 7 0) (step S.m 5 0 (7 : Nat)).2 := give_log _ _ _ _
    rw [e, h.m, show ((7 : Nat) : Int) = 7 from rfl, hs, sc_app, h.sc, sc_cons, sc_cons, sc0]
    simp [sendO, timerO]

/-- Which timer is next. -/
theorem gs_pick {c : Int} {j : Nat} {S : Sim} (h : GS c j S) (T : Int) (hT : T < 32700 ∨ j ≤ 9) : (700 + AT (j + 1) ≤ T → pickTo S.due T 14 = 7) ∧ (T < 700 + AT (j + 1) → T < 32700 → pickTo S.due T 14 < 0) := by
  obtain ⟨m1, m2⟩ := pick_min S.due T 14
  obtain ⟨b1, b2, b3⟩ := pickTo_bound S.due T 14
  have hA : 0 ≤ AT (j + 1) := by
    unfold AT; repeat' split
    all_goals omega
  have hA' : j ≤ 9 → AT (j + 1) < 32000 := by
    intro h9
    unfold AT; repeat' split
    all_goals omega
  rw [h.due] at *
  constructor
  · intro hx
    by_cases hp : pickTo (gdue (700 + AT (j + 1))) T 14 < 0
    · have := m1 hp 7 (by omega)
      rw [gdue_get _ 7 (by omega)] at this
      simp at this
      omega
    · have hp' : 0 ≤ pickTo (gdue (700 + AT (j + 1))) T 14 := by omega
      obtain ⟨q1, q2⟩ := b3 hp'
      have q3 := m2 hp' 7 (by omega)
      rw [gdue_get _ 7 (by omega)] at q3
      rw [gdue_get _ (pickTo (gdue (700 + AT (j + 1))) T 14).toNat (by omega)] at q1 q2 q3
      simp only [if_true] at q3
      generalize pickTo (gdue (700 + AT (j + 1))) T 14 = p at *
      by_cases e7 : p.toNat = 7
      · omega
      · rw [if_neg e7] at q1 q2 q3
        by_cases e8 : p.toNat = 8
        · rw [if_pos e8] at q1 q2 q3
          rcases hT with hT | hT
          · omega
          · have := hA' hT; omega
        · rw [if_neg e8] at q1; omega
  · intro hx hx'
    by_cases hp : pickTo (gdue (700 + AT (j + 1))) T 14 < 0
    · exact hp
    · have hp' : 0 ≤ pickTo (gdue (700 + AT (j + 1))) T 14 := by omega
      obtain ⟨q1, q2⟩ := b3 hp'
      rw [gdue_get _ (pickTo (gdue (700 + AT (j + 1))) T 14).toNat (by omega)] at q1 q2
      split at q1
      · omega
      · split at q1 <;> omega

theorem go_stop {n : Nat} {S : Sim} {T : Int} (h : pickTo S.due T 14 < 0) : untilGo n S T = S := by
  cases n with
  | zero => rfl
  | succ n => unfold untilGo; rw [if_pos h]
theorem go_fire {n : Nat} {S : Sim} {T : Int} {i : Nat} (h : pickTo S.due T 14 = i) : untilGo (n + 1) S T = untilGo n (fire S i) T := by
  unfold untilGo; rw [if_neg (by omega), h, Int.toNat_natCast]; cases n <;> rfl

/-- Up to a time before H. -/
theorem gs_run {c t : Int} (ht : t < 32000) : ∀ (n j : Nat) (S : Sim), GS c j S → j ≤ 10 → AT j ≤ t → 11 ≤ n + j → ∃ j', j' ≤ 10 ∧ GS c j' (untilGo n S (700 + t)) ∧ AT j' ≤ t ∧ t < AT (j' + 1)
  | 0, j, S, _, hj, _, hn => absurd hn (by omega)
  | n + 1, j, S, h, hj, ha, hn => by
    obtain ⟨p1, p2⟩ := gs_pick h (700 + t) (by omega)
    by_cases hx : AT (j + 1) ≤ t
    · have hj9 : j ≤ 9 := by
        have : j = 10 → AT (j + 1) = 35500 := fun e => by subst e; rfl
        omega
      rw [go_fire (i := 7) (p1 (by omega))]
      exact gs_run ht n (j + 1) (fire S 7) (gs_fire h hj9) (by omega) hx (by omega)
    · rw [go_stop (p2 (by omega) (by omega))]
      exact ⟨j, hj, h, ha, by omega⟩

theorem gs_copies {t : Int} {j : Nat} (hj : j ≤ 10) (h1 : AT j ≤ t) (h2 : t < AT (j + 1)) : copies t = j + 1 := by
  have a := (copies_at t j (by omega)).1 h1
  have b := copies_bd t
  by_cases e : j = 10
  · omega
  · have := copies_at t (j + 1) (by omega)
    omega

/-- Up to 32700: the timeout. -/
theorem gs_late {c : Int} : ∀ (n j : Nat) (S : Sim), GS c j S → j ≤ 10 → 13 ≤ n + j → ∃ L : List E, kc 5 L = 0 ∧ sc c L = 11 ∧ (untilGo n S 32700).m = ⟨7, 0, c⟩ ∧ (untilGo n S 32700).log = L ++ logged 32700 [⟨5, 0, 0, 0⟩, endO]
  | 0, j, S, _, hj, hn => absurd hn (by omega)
  | n + 1, j, S, h, hj, hn => by
    by_cases hj9 : j ≤ 9
    · obtain ⟨p1, -⟩ := gs_pick h 32700 (Or.inr hj9)
      have : AT (j + 1) < 32000 := by unfold AT; repeat' split
                                      all_goals omega
      rw [go_fire (i := 7) (p1 (by omega))]
      exact gs_late n (j + 1) (fire S 7) (gs_fire h hj9) (by omega) (by omega)
    · have hj10 : j = 10 := by omega
      subst hj10
      have hp : pickTo S.due 32700 14 = (8 : Nat) := by rw [h.due]; decide +kernel
      rw [go_fire hp]
      have hm : may ⟨5, WT 10, c⟩ = true := by rw [← h.m]; exact h.j.may
      have hs := step_h hm
      have h8 : S.due.getD 8 0 = 32700 := by rw [h.due, gdue_get _ 8 (by omega)]; simp
      have hd : (fire S 8).due = (gdue 36200).set 8 (-1) := by
        have e : (fire S 8).due = (takeAll { S with now := S.due.getD 8 0, due := S.due.set 8 (-1), m := (step S.m 5 0 (8 : Nat)).1 } (step S.m 5 0 (8 : Nat)).2).due := rfl
        rw [e, h.m, show ((8 : Nat) : Int) = 8 from rfl, hs, h.due]
        rfl
      have hq : pickTo (fire S 8).due 32700 14 < 0 := by rw [hd]; decide +kernel
      rw [go_stop hq]
      refine ⟨S.log, ?_, h.sc, ?_, ?_⟩
      · have := h.j.sum
        rw [h.m] at this
        simp [Sum] at this
        omega
      · rw [fire_m, h.m]; exact congrArg Prod.fst hs
      · have e : (fire S 8).log = S.log ++ logged (S.due.getD 8 0) (step S.m 5 0 (8 : Nat)).2 := give_log _ _ _ _
        rw [e, h.m, show ((8 : Nat) : Int) = 8 from rfl, hs, h8]

/-- After the ACK: nothing but timer I matters. -/
theorem step_idle {c : Int} (hc : 300 ≤ c ∧ c ≤ 699) (i : Int) (hi : i ≠ 9) : step ⟨6, 0, c⟩ 5 0 i = (⟨6, 0, c⟩, []) := by
  have hm : may ⟨6, 0, c⟩ = true := cls_may (by omega)
  simp [step, hm, fired, hi]
theorem step_quit {c : Int} (hc : 300 ≤ c ∧ c ≤ 699) : step ⟨6, 0, c⟩ 5 0 9 = (⟨7, 0, c⟩, [endO]) := by
  have hm : may ⟨6, 0, c⟩ = true := cls_may (by omega)
  simp [step, hm, fired, over]
theorem step_over {c : Int} (hc : 300 ≤ c ∧ c ≤ 699) (i : Int) : step ⟨7, 0, c⟩ 5 0 i = (⟨7, 0, c⟩, []) := by
  have hm : may ⟨7, 0, c⟩ = true := cls_may (by omega)
  simp [step, hm, fired]
theorem step_ack {c : Int} {j : Nat} (hm : may ⟨5, WT j, c⟩ = true) : step ⟨5, WT j, c⟩ 3 0 0 = (⟨6, 0, c⟩, [timerO 9 5000]) := by
  simp [step, hm]

theorem idle_run {c D T : Int} (hc : 300 ≤ c ∧ c ≤ 699) (hT : T < D) : ∀ (n : Nat) (S : Sim), S.m = ⟨6, 0, c⟩ → S.due.getD 9 0 = D → (untilGo n S T).m = ⟨6, 0, c⟩ ∧ (untilGo n S T).log = S.log ∧ (untilGo n S T).due.getD 9 0 = D
  | 0, S, hm, hd => ⟨hm, rfl, hd⟩
  | n + 1, S, hm, hd => by
    unfold untilGo
    split
    · exact ⟨hm, rfl, hd⟩
    · rename_i hf
      obtain ⟨b1, b2, b3⟩ := pickTo_bound S.due T 14
      obtain ⟨q1, q2⟩ := b3 (by omega)
      obtain ⟨i, hi⟩ : ∃ i : Nat, (pickTo S.due T 14).toNat = i := ⟨_, rfl⟩
      rw [hi] at q1 q2 ⊢
      have hne : i ≠ 9 := by rintro rfl; omega
      have hs := step_idle hc i (by omega)
      have e1 : (fire S i).m = ⟨6, 0, c⟩ := by rw [fire_m, hm, hs]
      have e2 : (fire S i).log = S.log := by
        have e : (fire S i).log = S.log ++ logged (S.due.getD i 0) (step S.m 5 0 i).2 := give_log _ _ _ _
        rw [e, hm, hs]; simp [logged]
      have e3 : (fire S i).due = S.due.set i (-1) := by
        have e : (fire S i).due = (takeAll { S with now := S.due.getD i 0, due := S.due.set i (-1), m := (step S.m 5 0 i).1 } (step S.m 5 0 i).2).due := rfl
        rw [e, hm, hs]; rfl
      have ih := idle_run hc hT n (fire S i) e1 (by rw [e3, List.getD_eq_getElem?_getD, List.getElem?_set_ne hne, ← List.getD_eq_getElem?_getD]; exact hd)
      rw [e2] at ih
      exact ih

theorem quit_run {c T : Int} (hc : 300 ≤ c ∧ c ≤ 699) (L : List E) : ∀ (n : Nat) (S : Sim), (S.m = ⟨6, 0, c⟩ ∧ S.log = L ∨ S.m = ⟨7, 0, c⟩ ∧ ∃ a, S.log = L ++ logged a [endO]) → ((untilGo n S T).m = ⟨6, 0, c⟩ ∧ (untilGo n S T).log = L ∨ (untilGo n S T).m = ⟨7, 0, c⟩ ∧ ∃ a, (untilGo n S T).log = L ++ logged a [endO])
  | 0, S, h => h
  | n + 1, S, h => by
    unfold untilGo
    split
    · exact h
    · obtain ⟨i, hi⟩ : ∃ i : Nat, (pickTo S.due T 14).toNat = i := ⟨_, rfl⟩
      rw [hi]
      have e : (fire S i).log = S.log ++ logged (S.due.getD i 0) (step S.m 5 0 i).2 := give_log _ _ _ _
      refine quit_run hc L n (fire S i) ?_
      rw [fire_m, e]
      rcases h with ⟨hm, hl⟩ | ⟨hm, a, hl⟩
      · rw [hm, hl]
        by_cases hi9 : i = 9
        · subst hi9
          right
          rw [show ((9 : Nat) : Int) = 9 from rfl, step_quit hc]
          exact ⟨rfl, _, rfl⟩
        · left
          rw [step_idle hc i (by omega)]
          exact ⟨rfl, by simp [logged]⟩
      · right
        rw [hm, hl, step_over hc]
        exact ⟨rfl, a, by simp [logged]⟩

theorem cnt_sc {S : Sim} (h : J S) (c : Int) : cnt S.log 1 S.now c c = sc c S.log := by
  unfold cnt sc
  refine List.countP_congr fun e he => ?_
  have := h.log e he
  simp [E.hit]
  omega

/-- The simulation up to the answer. -/
def s700 : Sim := untilT simStart 700
def sRej (c : Int) : Sim := give s700 4 c 0
theorem s700_eq : s700.m.st = 3 ∧ s700.m.wait = 0 ∧ s700.m.code = 100 ∧ s700.due = List.replicate 14 (-1) ∧ s700.now = 700 ∧ s700.log = [⟨0, ⟨3, 0, 0, 0⟩⟩, ⟨0, ⟨1, 100, 0, 0⟩⟩] := by decide +kernel
theorem s700_j : J s700 := by
  have := (until_done (S := simStart) (T := 700) pk_start.j (by have e : simStart.now = 0 := (by decide +kernel); rw [e]; decide)).1.j
  exact this

theorem rej_gs {c : Int} (hc : 300 ≤ c ∧ c ≤ 699) : GS c 0 (sRej c) ∧ (sRej c).now = 700 ∧ (sRej c).log.length = 5 := by
  obtain ⟨e1, e2, e3, e4, e5, e6⟩ := s700_eq
  have hs : step s700.m 4 c 0 = (⟨5, 500, c⟩, [sendO c, timerO 7 500, timerO 8 32000]) := by
    have hm : s700.m = ⟨3, 0, 100⟩ := by
      rw [← e1, ← e2, ← e3]
    have hmay : may ⟨3, 0, 100⟩ = true := cls_may (by omega)
    rw [hm]
    simp [step, hmay, answer, clsI3.mpr hc, show c ≠ 100 by omega]
  have hj : J (sRej c) := give_j s700_j _ _ _
  have hl : (sRej c).log = s700.log ++ logged 700 [sendO c, timerO 7 500, timerO 8 32000] := by
    unfold sRej; rw [give_log, hs, e5]
  refine ⟨⟨?_, ?_, ?_, hj⟩, ?_, ?_⟩
  · unfold sRej; rw [give_m, hs]; rfl
  · have e : (sRej c).due = (takeAll { s700 with m := (step s700.m 4 c 0).1 } (step s700.m 4 c 0).2).due := rfl
    rw [e, hs]
    simp [takeAll, take1, sendO, timerO, e4, e5, gdue, AT, List.replicate]
    omega
  · rw [hl, sc_app, e6, sc_cons, sc_cons, sc_cons, sc0]
    simp [sc, sendO, timerO]
    omega
  · unfold sRej; rw [give_now, e5]
  · rw [hl, e6]; simp [logged]

/-- All that the law looks at, when the ACK comes in time. -/
structure Acked (c t : Int) (S : Sim) : Prop where
  j1 : J S
  now1 : S.now = 700 + t
  st : S.m.st = 5
  cnt : cnt S.log 1 S.now c c = copies t
  len : S.log.length ≤ 605

theorem acked {c t : Int} (hc : 300 ≤ c ∧ c ≤ 699) (ht : 0 ≤ t ∧ t < 32000) : ∃ j, GS c j (untilT (sRej c) (700 + t)) ∧ Acked c t (untilT (sRej c) (700 + t)) := by
  obtain ⟨hg, hn, hl⟩ := rej_gs hc
  obtain ⟨d, e⟩ := until_done (T := 700 + t) hg.j (by omega)
  obtain ⟨j, hj, h, h1, h2⟩ := gs_run ht.2 200 0 _ hg (by omega) ht.1 (by omega)
  have hlen := until_len (sRej c) (700 + t)
  refine ⟨j, ⟨h.m, h.due, h.sc, d.j⟩, d.j, by rw [e]; omega, ?_, ?_, by omega⟩
  · show (untilGo 200 (sRej c) (700 + t)).m.st = 5
    rw [h.m]
  · rw [cnt_sc d.j, gs_copies hj h1 h2]
    have : sc c (untilT (sRej c) (700 + t)).log = j + 1 := h.sc
    omega

structure Closing (c t : Int) (S S2 S3 : Sim) : Prop where
  m2 : S2.m = ⟨6, 0, c⟩
  now2 : S2.now = 700 + t + 4999
  j2 : J S2
  len2 : S2.log.length ≤ 1300
  st3 : S3.m.st = 7
  now3 : S3.now = 700 + t + 5000
  j3 : J S3
  len3 : S3.log.length ≤ 2000
  tm : cnt S3.log 5 S3.now 0 1000 = 0
  snd : cnt S3.log 1 S3.now c c = copies t

theorem closing {c t : Int} (hc : 300 ≤ c ∧ c ≤ 699) (ht : 0 ≤ t ∧ t < 32000) {j : Nat} {S : Sim} (hg : GS c j S) (ha : Acked c t S) :
    (give S 3 0 0).now = 700 + t ∧ (give S 3 0 0).log.length ≤ 608 ∧ Closing c t S (untilT (give S 3 0 0) (700 + t + 4999)) (untilT (untilT (give S 3 0 0) (700 + t + 4999)) (700 + t + 4999 + 1)) := by
  have hm : may ⟨5, WT j, c⟩ = true := by rw [← hg.m]; exact ha.j1.may
  have hs := step_ack hm
  have en : (give S 3 0 0).now = 700 + t := by rw [give_now]; exact ha.now1
  have el : (give S 3 0 0).log = S.log ++ logged (700 + t) [timerO 9 5000] := by rw [give_log, hg.m, hs, ha.now1]
  have em : (give S 3 0 0).m = ⟨6, 0, c⟩ := by rw [give_m, hg.m, hs]
  have ej : J (give S 3 0 0) := give_j ha.j1 _ _ _
  have ed : (give S 3 0 0).due.getD 9 0 = 700 + t + 5000 := by
    have e : (give S 3 0 0).due = (takeAll { S with m := (step S.m 3 0 0).1 } (step S.m 3 0 0).2).due := rfl
    rw [e, hg.m, hs, hg.due]
    simp [takeAll, take1, timerO, gdue, ha.now1]
    omega
  have hlen : (give S 3 0 0).log.length ≤ 608 := by rw [el]; have := ha.len; simp [logged]; omega
  refine ⟨en, hlen, ?_⟩
  have k5 : kc 5 S.log = 0 := by
    have := ha.j1.sum
    rw [hg.m] at this
    simp [Sum] at this
    omega
  generalize give S 3 0 0 = R at *
  obtain ⟨d2, e2⟩ := until_done (T := 700 + t + 4999) ej (by omega)
  obtain ⟨i1, i2, i3⟩ := idle_run hc (show (700 + t + 4999 : Int) < 700 + t + 5000 by omega) 200 R em ed
  have l2 := until_len R (700 + t + 4999)
  have u1 : (untilT R (700 + t + 4999)).m = ⟨6, 0, c⟩ := i1
  have u2 : (untilT R (700 + t + 4999)).log = R.log := i2
  have u3 : (untilT R (700 + t + 4999)).due.getD 9 0 = 700 + t + 5000 := i3
  clear i1 i2 i3
  generalize untilT R (700 + t + 4999) = U at *
  have hUn : U.now = 700 + t + 4999 := by omega
  obtain ⟨d3, e3⟩ := until_done (T := 700 + t + 4999 + 1) d2.j (by omega)
  have l3 := until_len U (700 + t + 4999 + 1)
  have q := quit_run (T := 700 + t + 4999 + 1) hc U.log 200 U (Or.inl ⟨u1, rfl⟩)
  have hp : Pend U (700 + t) := by
    refine ⟨fun h => ?_, fun h => ?_, fun _ => by omega⟩
    · rw [u1] at h; simp at h
    · rw [u1] at h; simp at h
  have q' : (untilT U (700 + t + 4999 + 1)).m = ⟨7, 0, c⟩ ∧ ∃ a, (untilT U (700 + t + 4999 + 1)).log = U.log ++ logged a [endO] := by
    rcases q with ⟨q1, q2⟩ | q
    · exfalso
      have q1' : (untilT U (700 + t + 4999 + 1)).m = ⟨6, 0, c⟩ := q1
      have := (d3.pend _ hp).con (by rw [q1'])
      have := d3.over 9 (by omega)
      omega
    · exact q
  obtain ⟨v1, a, v2⟩ := q'
  refine ⟨u1, hUn, d2.j, by omega, by rw [v1], by omega, d3.j, by omega, ?_, ?_⟩
  · rw [cnt_kc d3.j, v2, u2, el, kc_app, kc_app, kc_cons, kc_cons, kc0, kc0, k5]
    simp [endO, timerO]
  · rw [cnt_sc d3.j, v2, u2, el, sc_app, sc_app, sc_cons, sc_cons, sc0, sc0]
    have := ha.cnt
    rw [cnt_sc ha.j1] at this
    simp [endO, timerO]
    omega

/-- All that the law looks at, when no ACK comes. -/
structure Lated (c : Int) (S : Sim) : Prop where
  m : S.m = ⟨7, 0, c⟩
  j : J S
  now : S.now = 32700
  len : S.log.length ≤ 605
  before : cnt S.log 5 32699 0 1000 = 0
  at_ : cnt S.log 5 32700 0 1000 = 1
  snd : cnt S.log 1 S.now c c = 11

theorem lated {c : Int} (hc : 300 ≤ c ∧ c ≤ 699) : Lated c (untilT (sRej c) 32700) := by
  obtain ⟨hg, hn, hl⟩ := rej_gs hc
  obtain ⟨d, e⟩ := until_done (T := 32700) hg.j (by omega)
  obtain ⟨L, k5, hsc, h1, h2⟩ := gs_late 200 0 _ hg (by omega) (by omega)
  have hlen := until_len (sRej c) 32700
  have h1' : (untilT (sRej c) 32700).m = ⟨7, 0, c⟩ := h1
  have h2' : (untilT (sRej c) 32700).log = L ++ logged 32700 [⟨5, 0, 0, 0⟩, endO] := h2
  have hn' : (untilT (sRej c) 32700).now = 32700 := by omega
  refine ⟨h1', d.j, hn', by omega, ?_, ?_, ?_⟩
  · rw [h2']
    unfold cnt
    rw [List.countP_append]
    have z : L.countP (E.hit 5 32699 0 1000) ≤ kc 5 L := by
      unfold kc
      refine List.countP_mono_left fun a _ h => ?_
      simp [E.hit] at h
      simp [h]
    have y : (logged 32700 [⟨5, 0, 0, 0⟩, endO]).countP (E.hit 5 32699 0 1000) = 0 := by decide +kernel
    omega
  · have := cnt_kc d.j 5
    rw [hn'] at this
    rw [this, h2', kc_app, k5, kc_cons, kc_cons, kc0]
    simp [endO]
  · rw [cnt_sc d.j, h2', sc_app, hsc, sc_cons, sc_cons, sc0]
    simp [endO]
end Go.Proofs.Ytdllehgiambkcaa.Sv
