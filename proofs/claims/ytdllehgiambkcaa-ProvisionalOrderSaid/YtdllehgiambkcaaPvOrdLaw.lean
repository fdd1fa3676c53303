/- The plain law of ProvisionalOrder: a sender and a receiver, what is sent may be lost. No program in sight. -/
import Derived.Test.YtdllehgiambkcaaPvLaw
namespace Go.Proofs.Ytdllehgiambkcaa.Pv
open Go.RowKit

structure L where
  r : R
  last : Int
  acc : List Int
  fin : Int
  early : Bool
  fails : Bool

def L.one (lost : Bool) (x : L) (o : O) : L :=
  if o.kind = 1 then (if lost = true then x else if (accept x.last o.seq).2 = true then { x with acc := x.acc ++ [o.code], last := (accept x.last o.seq).1 } else x)
  else if o.kind = 2 then { x with fin := o.code }
  else if o.kind = 4 then { x with fails := true }
  else x
def L.dlv (lost : Bool) (x : L) (l : List O) : L := l.foldl (L.one lost) x

theorem one_timer (b : Bool) (x : L) (n a : Int) : L.one b x (timerO n a) = x := by simp [L.one, timerO]
theorem one_final (b : Bool) (x : L) (c : Int) : L.one b x (finalO c) = { x with fin := c } := by simp [L.one, finalO]
theorem one_lost (x : L) (c s : Int) : L.one true x (sendO c s) = x := by simp [L.one, sendO]
theorem one_new (x : L) (c s : Int) (h : accept x.last s = (s, true)) : L.one false x (sendO c s) = { x with acc := x.acc ++ [c], last := s } := by simp [L.one, sendO, h]
theorem one_old (x : L) (c s y : Int) (h : accept x.last s = (y, false)) : L.one false x (sendO c s) = x := by simp [L.one, sendO, h]

/-- The codes that were offered. -/
def Codes (want : List Int) : Prop := want.length ≤ 14 ∧ ∀ c ∈ want, 101 ≤ c ∧ c ≤ 199

def first1 : List Int → R
  | [] => ⟨0, 0, 0, [], false, false⟩
  | c :: q => ⟨1, c, 500, q, false, false⟩

/-- While the codes are offered. -/
structure S1 (x : L) (want : List Int) : Prop where
  r : x.r = first1 want
  fin : x.fin = 0
  early : x.early = false
  fails : x.fails = false
  got : (x.last = 0 ∧ x.acc = []) ∨ (∃ c q, want = c :: q ∧ x.last = 1 ∧ x.acc = [c])

theorem may_first1 {want : List Int} (h : Codes want) : may (first1 want) = true := by
  rcases want with _ | ⟨c, q⟩
  · rfl
  · obtain ⟨h1, h2⟩ := h
    have hc := h2 c (by simp)
    simp at h1
    refine good_may (p := q) ⟨⟨fun a ha => h2 a (by simp [ha]), Or.inl ⟨rfl, Or.inl rfl⟩⟩, by simp [first1], by simp [first1]; omega, by simp [first1]; omega, by simp [first1], ?_, ?_⟩
    · intro e; exfalso; have : c = 0 := e; omega
    · intro _; exact ⟨hc.1, hc.2, by simp [first1], rfl⟩

theorem s1_start : S1 ⟨⟨0, 0, 0, [], false, false⟩, 0, [], 0, false, false⟩ [] := ⟨rfl, rfl, rfl, rfl, Or.inl ⟨rfl, rfl⟩⟩

theorem accept_first : accept 0 1 = (1, true) := by decide

theorem s1_offer {x : L} {want : List Int} {c : Int} (h : S1 x want) (hw : Codes want) (hl : want.length < 14) (hc : 101 ≤ c ∧ c ≤ 199) :
    (offer x.r c).e = 0 ∧ ∀ b, S1 (L.dlv b { x with r := (offer x.r c).r } (offer x.r c).l) (want ++ [c]) := by
  obtain ⟨r, last, acc, fin, early, fails⟩ := x
  obtain ⟨h1, h2, h3, h4, h5⟩ := h
  simp only at h1 h2 h3 h4 h5
  subst h1 h2 h3 h4
  have hm := may_first1 hw
  have hi : inB c 101 699 = true := by simp [inB]; omega
  have hi2 : inB c 101 199 = true := by simp [inB]; omega
  have hd : decide (200 ≤ c) = false := by simp; omega
  rcases want with _ | ⟨d, q⟩
  · have ho : offer (first1 []) c = ⟨⟨1, c, 500, [], false, false⟩, [sendO c 1, timerO 1 500, timerO 2 32000], 0⟩ := by
      unfold offer
      rw [if_neg (by rw [hm, hi]; simp), if_neg (by simp [first1]), if_neg (by simp [first1]), if_neg (by omega)]
      simp [first1, next, hi2, hd]
    simp only [ho]
    refine ⟨trivial, fun b => ?_⟩
    have h50 : last = 0 ∧ acc = [] := by
      rcases h5 with h | ⟨c, q, e, _⟩
      · exact h
      · cases e
    obtain ⟨rfl, rfl⟩ := h50
    cases b
    · have hd2 : L.dlv false ⟨⟨1, c, 500, [], false, false⟩, 0, [], 0, false, false⟩ [sendO c 1, timerO 1 500, timerO 2 32000] = ⟨⟨1, c, 500, [], false, false⟩, 1, [c], 0, false, false⟩ := by
        simp only [L.dlv, List.foldl_cons, List.foldl_nil, one_timer]
        rw [one_new _ _ _ accept_first]
        rfl
      rw [hd2]
      exact ⟨rfl, rfl, rfl, rfl, Or.inr ⟨c, [], rfl, rfl, rfl⟩⟩
    · have hd2 : L.dlv true ⟨⟨1, c, 500, [], false, false⟩, 0, [], 0, false, false⟩ [sendO c 1, timerO 1 500, timerO 2 32000] = ⟨⟨1, c, 500, [], false, false⟩, 0, [], 0, false, false⟩ := by
        simp only [L.dlv, List.foldl_cons, List.foldl_nil, one_timer, one_lost]
      rw [hd2]
      exact ⟨rfl, rfl, rfl, rfl, Or.inl ⟨rfl, rfl⟩⟩
  · have hdc := hw.2 d (by simp)
    simp at hl
    have ho : offer (first1 (d :: q)) c = ⟨⟨1, d, 500, q ++ [c], false, false⟩, [], 0⟩ := by
      unfold offer
      rw [if_neg (by rw [hm, hi]; simp), if_neg (by simp [first1]), if_neg (by simp [first1]; omega), if_neg (by omega)]
      have : d ≠ 0 := by omega
      simp [first1, next, this, hd]
    simp only [ho]
    refine ⟨trivial, fun b => ?_⟩
    refine ⟨rfl, rfl, rfl, rfl, ?_⟩
    rcases h5 with h | ⟨c', q', e, e1, e2⟩
    · exact Or.inl h
    · injection e with e3 e4
      subst e3 e4
      exact Or.inr ⟨d, q ++ [c], rfl, e1, e2⟩

/-- Answer k is in flight. -/
structure Fly (x : L) (want : List Int) (k : Nat) : Prop where
  k1 : 1 ≤ k
  k2 : k ≤ want.length
  r : ∃ wt c, want[k - 1]? = some c ∧ pow wt = true ∧ x.r = ⟨k, c, wt, want.drop k ++ [200], true, false⟩
  fin : x.fin = 0
  early : x.early = false
  fails : x.fails = false
  got : (x.last = (k : Int) - 1 ∧ x.acc = want.take (k - 1)) ∨ (x.last = k ∧ x.acc = want.take k)

structure Done (x : L) (want : List Int) : Prop where
  fin : x.fin = 200
  early : x.early = false
  fails : x.fails = false
  acc : x.acc = want
  r : x.r = ⟨want.length, 0, 0, [], true, false⟩

theorem s1_final {x : L} {want : List Int} (h : S1 x want) (hw : Codes want) :
    (offer x.r 200).e = 0 ∧ (want = [] → Done (L.dlv false { x with r := (offer x.r 200).r } (offer x.r 200).l) want) ∧ (want ≠ [] → Fly (L.dlv false { x with r := (offer x.r 200).r } (offer x.r 200).l) want 1) := by
  obtain ⟨r, last, acc, fin, early, fails⟩ := x
  obtain ⟨h1, h2, h3, h4, h5⟩ := h
  simp only at h1 h2 h3 h4 h5
  subst h1 h2 h3 h4
  have hm := may_first1 hw
  rcases want with _ | ⟨d, q⟩
  · have ho : offer (first1 []) 200 = ⟨⟨0, 0, 0, [], true, false⟩, [finalO 200], 0⟩ := by
      unfold offer
      rw [if_neg (by rw [hm]; simp [inB]), if_neg (by simp [first1]), if_neg (by simp [first1, inB]), if_neg (by omega)]
      simp [first1, next, inB]
    simp only [ho]
    have h50 : last = 0 ∧ acc = [] := by
      rcases h5 with h | ⟨c, q, e, _⟩
      · exact h
      · cases e
    obtain ⟨rfl, rfl⟩ := h50
    refine ⟨trivial, fun _ => ?_, fun e => absurd rfl e⟩
    simp only [L.dlv, List.foldl_cons, List.foldl_nil, one_final]
    exact ⟨rfl, rfl, rfl, rfl, rfl⟩
  · have hdc := hw.2 d (by simp)
    have hl := hw.1
    simp at hl
    have ho : offer (first1 (d :: q)) 200 = ⟨⟨1, d, 500, q ++ [200], true, false⟩, [], 0⟩ := by
      unfold offer
      rw [if_neg (by rw [hm]; simp [inB]), if_neg (by simp [first1]), if_neg (by simp [first1, inB]; omega), if_neg (by omega)]
      have : d ≠ 0 := by omega
      simp [first1, next, this]
    simp only [ho]
    refine ⟨trivial, fun e => (by cases e), fun _ => ?_⟩
    refine ⟨by omega, by simp, ⟨500, d, rfl, rfl, rfl⟩, rfl, rfl, rfl, ?_⟩
    rcases h5 with ⟨e1, e2⟩ | ⟨c', q', e, e1, e2⟩
    · exact Or.inl ⟨by simp only [L.dlv, List.foldl_nil]; omega, by simp only [L.dlv, List.foldl_nil]; rw [e2]; rfl⟩
    · injection e with e3 e4
      subst e3 e4
      exact Or.inr ⟨by simp only [L.dlv, List.foldl_nil]; omega, by simp only [L.dlv, List.foldl_nil]; rw [e2]; rfl⟩

theorem take_snoc' {l : List Int} {k : Nat} {c : Int} (hk : 1 ≤ k) (h : l[k - 1]? = some c) : l.take k = l.take (k - 1) ++ [c] := by
  obtain ⟨j, rfl⟩ : ∃ j, k = j + 1 := ⟨k - 1, by omega⟩
  simp only [Nat.add_sub_cancel] at h ⊢
  obtain ⟨hj, e⟩ := List.getElem?_eq_some_iff.mp h
  rw [List.take_succ_eq_append_getElem hj, e]
theorem accept_next {k : Nat} (h1 : 1 ≤ k) (h2 : k ≤ 14) : accept ((k : Int) - 1) k = ((k : Int), true) := by
  unfold accept
  rw [if_pos ⟨by omega, by omega, by omega⟩]
theorem accept_same {k : Nat} (h1 : 1 ≤ k) : ∃ y, accept (k : Int) k = (y, false) := by
  unfold accept
  rw [if_neg (by omega)]
  exact ⟨_, rfl⟩

theorem may_fly {x : L} {want : List Int} {k : Nat} (h : Fly x want k) (hw : Codes want) : may x.r = true := by
  obtain ⟨wt, c, hc, hp, e⟩ := h.r
  obtain ⟨hj, e2⟩ := List.getElem?_eq_some_iff.mp hc
  have hcc := hw.2 c (by rw [← e2]; exact List.getElem_mem hj)
  have h1 := h.k1
  have h2 := h.k2
  have hw1 := hw.1
  rw [e]
  refine good_may (p := want.drop k) ⟨⟨fun a ha => hw.2 a (List.mem_of_mem_drop ha), Or.inr ⟨rfl, 200, rfl, by omega, by omega⟩⟩, ?_, ?_, ?_, by simp, ?_, ?_⟩
  · show (0 : Int) ≤ k; omega
  · show (k : Int) + ((want.drop k).length : Int) ≤ 2147483647; rw [List.length_drop]; omega
  · show (want.drop k ++ [200]).length ≤ 16; simp; omega
  · intro e; exfalso; have : c = 0 := e; omega
  · intro _; exact ⟨hcc.1, hcc.2, by show (0 : Int) < k; omega, hp⟩

/-- Timer 1 while an answer is in flight. -/
theorem fly_fire {x : L} {want : List Int} {k : Nat} (h : Fly x want k) (hw : Codes want) :
    (fire x.r 1).e = 0 ∧ may (fire x.r 1).r = true ∧ ∀ b, Fly (L.dlv b { x with r := (fire x.r 1).r } (fire x.r 1).l) want k ∧ (b = false → (L.dlv b { x with r := (fire x.r 1).r } (fire x.r 1).l).last = k) ∧ (x.last = k → (L.dlv b { x with r := (fire x.r 1).r } (fire x.r 1).l).last = k) := by
  have hm := may_fly h hw
  have hmf := (fire_acted hm (t := 1) (Or.inl rfl)).may
  obtain ⟨wt, c, hc, hp, e⟩ := h.r
  obtain ⟨hj, e2⟩ := List.getElem?_eq_some_iff.mp hc
  have hcc := hw.2 c (by rw [← e2]; exact List.getElem_mem hj)
  have h1 := h.k1
  have h2 := h.k2
  have hw1 := hw.1
  have ho : fire x.r 1 = ⟨⟨k, c, min (2 * wt) 32000, want.drop k ++ [200], true, false⟩, [sendO c k, timerO 1 (min (2 * wt) 32000)], 0⟩ := by
    unfold fire
    rw [if_neg (by rw [hm]; simp), e, if_neg (by simp only; omega), if_pos rfl]
  have hp2 : pow (min (2 * wt) 32000) = true := by
    rcases pow_in hp with e | e | e | e | e | e | e <;> rw [e] <;> decide
  rw [ho] at hmf
  simp only [ho]
  refine ⟨trivial, hmf rfl, fun b => ?_⟩
  obtain ⟨r, last, acc, fin, early, fails⟩ := x
  obtain ⟨-, -, -, f1, f2, f3, got⟩ := h
  simp only at f1 f2 f3 got e
  subst f1 f2 f3
  clear hm ho e hmf
  cases b
  · rcases got with ⟨g1, g2⟩ | ⟨g1, g2⟩
    · have hd : L.dlv false ⟨⟨k, c, min (2 * wt) 32000, want.drop k ++ [200], true, false⟩, last, acc, 0, false, false⟩ [sendO c k, timerO 1 (min (2 * wt) 32000)] = ⟨⟨k, c, min (2 * wt) 32000, want.drop k ++ [200], true, false⟩, k, want.take k, 0, false, false⟩ := by
        simp only [L.dlv, List.foldl_cons, List.foldl_nil, one_timer]
        rw [one_new _ _ _ (by rw [g1]; exact accept_next h1 (by omega)), take_snoc' h1 hc, g2]
      rw [hd]
      exact ⟨⟨h1, h2, ⟨_, c, hc, hp2, rfl⟩, rfl, rfl, rfl, Or.inr ⟨rfl, rfl⟩⟩, fun _ => rfl, fun _ => rfl⟩
    · have hd : L.dlv false ⟨⟨k, c, min (2 * wt) 32000, want.drop k ++ [200], true, false⟩, last, acc, 0, false, false⟩ [sendO c k, timerO 1 (min (2 * wt) 32000)] = ⟨⟨k, c, min (2 * wt) 32000, want.drop k ++ [200], true, false⟩, last, acc, 0, false, false⟩ := by
        simp only [L.dlv, List.foldl_cons, List.foldl_nil, one_timer]
        obtain ⟨y, hy⟩ := accept_same h1
        rw [one_old _ _ _ y (by rw [g1]; exact hy)]
      rw [hd]
      exact ⟨⟨h1, h2, ⟨_, c, hc, hp2, rfl⟩, rfl, rfl, rfl, Or.inr ⟨g1, g2⟩⟩, fun _ => g1, fun _ => g1⟩
  · have hd : L.dlv true ⟨⟨k, c, min (2 * wt) 32000, want.drop k ++ [200], true, false⟩, last, acc, 0, false, false⟩ [sendO c k, timerO 1 (min (2 * wt) 32000)] = ⟨⟨k, c, min (2 * wt) 32000, want.drop k ++ [200], true, false⟩, last, acc, 0, false, false⟩ := by
      simp only [L.dlv, List.foldl_cons, List.foldl_nil, one_timer, one_lost]
    rw [hd]
    exact ⟨⟨h1, h2, ⟨_, c, hc, hp2, rfl⟩, rfl, rfl, rfl, got⟩, fun e => (by cases e), fun e => e⟩

theorem next_in {s w c : Int} {q : List Int} {f g : Bool} (h : inB c 101 199 = true) : next ⟨s, 0, w, c :: q, f, g⟩ = (⟨s + 1, c, 500, q, f, g⟩, [sendO c (s + 1), timerO 1 500, timerO 2 32000]) := by simp [next, h]

/-- The acknowledgement of the answer in flight. -/
theorem fly_ack {x : L} {want : List Int} {k : Nat} (h : Fly x want k) (hw : Codes want) (hk : x.last = k) :
    (ack x.r x.last).e = 0 ∧ may (ack x.r x.last).r = true ∧ ∀ b, (k < want.length → Fly (L.dlv b { x with r := (ack x.r x.last).r } (ack x.r x.last).l) want (k + 1) ∧ (b = false → (L.dlv b { x with r := (ack x.r x.last).r } (ack x.r x.last).l).last = (k : Int) + 1)) ∧ (k = want.length → Done (L.dlv b { x with r := (ack x.r x.last).r } (ack x.r x.last).l) want) := by
  have hm := may_fly h hw
  have hma := (ack_acted hm x.last).may
  obtain ⟨wt, c, hc, hp, e⟩ := h.r
  obtain ⟨hj, e2⟩ := List.getElem?_eq_some_iff.mp hc
  have hcc := hw.2 c (by rw [← e2]; exact List.getElem_mem hj)
  have h1 := h.k1
  have h2 := h.k2
  have hw1 := hw.1
  have ho : ack x.r x.last = ⟨(next ⟨k, 0, 0, want.drop k ++ [200], true, false⟩).1, (next ⟨k, 0, 0, want.drop k ++ [200], true, false⟩).2, 0⟩ := by
    unfold ack
    rw [if_neg (by rw [hm]; simp), hk, e, if_neg (by simp only; omega)]
  have hacc : x.acc = want.take k := by
    rcases h.got with ⟨g1, -⟩ | ⟨-, g2⟩
    · omega
    · exact g2
  rw [ho] at hma
  simp only [ho]
  refine ⟨trivial, hma rfl, fun b => ?_⟩
  obtain ⟨r, last, acc, fin, early, fails⟩ := x
  obtain ⟨-, -, -, f1, f2, f3, -⟩ := h
  simp only at f1 f2 f3 e hk hacc
  subst f1 f2 f3 hk hacc
  clear hm ho e hma
  refine ⟨fun hlt => ?_, fun hlt => ?_⟩
  · have hdr : want.drop k = want[k] :: want.drop (k + 1) := List.drop_eq_getElem_cons hlt
    have hd2 := hw.2 want[k] (List.getElem_mem hlt)
    have hn : next ⟨k, 0, 0, want.drop k ++ [200], true, false⟩ = (⟨(k : Int) + 1, want[k], 500, want.drop (k + 1) ++ [200], true, false⟩, [sendO want[k] ((k : Int) + 1), timerO 1 500, timerO 2 32000]) := by
      have : inB want[k] 101 199 = true := by simp [inB]; omega
      rw [hdr, List.cons_append, next_in this]
    rw [hn]
    have hk1 : want[k + 1 - 1]? = some want[k] := by simp [hlt]
    have hc1 : ((k + 1 : Nat) : Int) = (k : Int) + 1 := by omega
    cases b
    · have hd : L.dlv false ⟨⟨(k : Int) + 1, want[k], 500, want.drop (k + 1) ++ [200], true, false⟩, (k : Int), want.take k, 0, false, false⟩ [sendO want[k] ((k : Int) + 1), timerO 1 500, timerO 2 32000] = ⟨⟨(k : Int) + 1, want[k], 500, want.drop (k + 1) ++ [200], true, false⟩, (k : Int) + 1, want.take (k + 1), 0, false, false⟩ := by
        simp only [L.dlv, List.foldl_cons, List.foldl_nil, one_timer]
        have ha := accept_next (k := k + 1) (by omega) (by omega)
        rw [hc1, show (k : Int) + 1 - 1 = k by omega] at ha
        rw [one_new _ _ _ ha, take_snoc' (k := k + 1) (by omega) hk1]
        rfl
      rw [hd]
      exact ⟨⟨by omega, by omega, ⟨500, _, hk1, rfl, by rw [hc1]⟩, rfl, rfl, rfl, Or.inr ⟨by rw [hc1], rfl⟩⟩, fun _ => rfl⟩
    · have hd : L.dlv true ⟨⟨(k : Int) + 1, want[k], 500, want.drop (k + 1) ++ [200], true, false⟩, (k : Int), want.take k, 0, false, false⟩ [sendO want[k] ((k : Int) + 1), timerO 1 500, timerO 2 32000] = ⟨⟨(k : Int) + 1, want[k], 500, want.drop (k + 1) ++ [200], true, false⟩, (k : Int), want.take k, 0, false, false⟩ := by
        simp only [L.dlv, List.foldl_cons, List.foldl_nil, one_timer, one_lost]
      rw [hd]
      exact ⟨⟨by omega, by omega, ⟨500, _, hk1, rfl, by rw [hc1]⟩, rfl, rfl, rfl, Or.inl ⟨by rw [hc1]; simp only; omega, rfl⟩⟩, fun e => (by cases e)⟩
  · subst hlt
    have hn : next ⟨(want.length : Int), 0, 0, want.drop want.length ++ [200], true, false⟩ = (⟨want.length, 0, 0, [], true, false⟩, [finalO 200]) := by
      simp [next, inB]
    rw [hn]
    simp only [L.dlv, List.foldl_cons, List.foldl_nil, one_final]
    exact ⟨rfl, rfl, rfl, by simp, rfl⟩

/-- How far the protocol is from its end. -/
def pot (x : L) (want : List Int) (k : Nat) : Nat := 2 * (want.length - k) + (if x.last = k then 1 else 2)
/-- What holds at the head of the second loop. -/
def Inv2 (n : Nat) (x : L) (want : List Int) : Prop := Done x want ∨ ∃ k, Fly x want k ∧ (n ≤ 100 ∨ n + pot x want k ≤ 128)

theorem inv2_start {x : L} {want : List Int} (h : (want = [] → Done x want) ∧ (want ≠ [] → Fly x want 1)) : Inv2 0 x want := by
  by_cases e : want = []
  · exact Or.inl (h.1 e)
  · exact Or.inr ⟨1, h.2 e, Or.inl (by omega)⟩
theorem inv2_end {x : L} {want : List Int} {n : Nat} (h : Inv2 n x want) (hn : n = 200 ∨ x.fin ≠ 0) : Done x want := by
  rcases h with h | ⟨k, hf, hp⟩
  · exact h
  · exfalso
    rcases hn with rfl | hn
    · rcases hp with hp | hp <;> omega
    · exact hn hf.fin
theorem inv2_fire {x : L} {want : List Int} {n : Nat} (h : Inv2 n x want) (hw : Codes want) (hfin : x.fin = 0) (hn : n < 200) (b1 : Bool) (hb1 : 100 ≤ n → b1 = false) (hcond : b1 = true ∨ x.last ≠ x.r.seq) :
    (fire x.r 1).e = 0 ∧ may (fire x.r 1).r = true ∧ ∀ b2, (100 ≤ n → b2 = false) → Inv2 (n + 1) (L.dlv b2 { x with r := (fire x.r 1).r } (fire x.r 1).l) want := by
  rcases h with h | ⟨k, hf, hp⟩
  · exact absurd hfin (by rw [h.fin]; decide)
  · obtain ⟨a1, a2, a3⟩ := fly_fire hf hw
    refine ⟨a1, a2, fun b2 hb2 => ?_⟩
    obtain ⟨y1, y2, y3⟩ := a3 b2
    refine Or.inr ⟨k, y1, ?_⟩
    by_cases h100 : n < 100
    · left; omega
    · right
      have e1 := hb1 (by omega)
      have e2 := hb2 (by omega)
      obtain ⟨wt, c, -, -, e⟩ := hf.r
      have hl : x.last ≠ k := by
        rcases hcond with h | h
        · rw [e1] at h; cases h
        · rw [e] at h; exact h
      have hk1 := hf.k1
      have hk2 := hf.k2
      have hw1 := hw.1
      have p1 : pot x want k = 2 * (want.length - k) + 2 := by unfold pot; rw [if_neg hl]
      have p2 : pot (L.dlv b2 { x with r := (fire x.r 1).r } (fire x.r 1).l) want k = 2 * (want.length - k) + 1 := by unfold pot; rw [if_pos (y2 e2)]
      omega
theorem inv2_ack {x : L} {want : List Int} {n : Nat} (h : Inv2 n x want) (hw : Codes want) (hfin : x.fin = 0) (hn : n < 200) (hcond : x.last = x.r.seq) :
    (ack x.r x.last).e = 0 ∧ may (ack x.r x.last).r = true ∧ ∀ b2, (100 ≤ n → b2 = false) → Inv2 (n + 1) (L.dlv b2 { x with r := (ack x.r x.last).r } (ack x.r x.last).l) want := by
  rcases h with h | ⟨k, hf, hp⟩
  · exact absurd hfin (by rw [h.fin]; decide)
  · obtain ⟨wt, c, -, -, e⟩ := hf.r
    have hl : x.last = k := by rw [hcond, e]
    obtain ⟨a1, a2, a3⟩ := fly_ack hf hw hl
    refine ⟨a1, a2, fun b2 hb2 => ?_⟩
    obtain ⟨y1, y2⟩ := a3 b2
    have hk1 := hf.k1
    have hk2 := hf.k2
    have hw1 := hw.1
    rcases Nat.lt_or_ge k want.length with hlt | hge
    · obtain ⟨z1, z2⟩ := y1 hlt
      refine Or.inr ⟨k + 1, z1, ?_⟩
      by_cases h100 : n < 100
      · left; omega
      · right
        have e2 := hb2 (by omega)
        have p1 : pot x want k = 2 * (want.length - k) + 1 := by unfold pot; rw [if_pos hl]
        have p2 : pot (L.dlv b2 { x with r := (ack x.r x.last).r } (ack x.r x.last).l) want (k + 1) = 2 * (want.length - (k + 1)) + 1 := by unfold pot; rw [if_pos (by rw [z2 e2]; omega)]
        omega
    · exact Or.inl (y2 (by omega))
theorem inv2_early {x : L} {want : List Int} {n : Nat} (h : Inv2 n x want) : x.early = false ∧ (x.fin ≠ 0 → x.acc.length = want.length) := by
  rcases h with h | ⟨k, hf, -⟩
  · exact ⟨h.early, fun _ => by rw [h.acc]⟩
  · exact ⟨hf.early, fun e => absurd hf.fin e⟩
end Go.Proofs.Ytdllehgiambkcaa.Pv
