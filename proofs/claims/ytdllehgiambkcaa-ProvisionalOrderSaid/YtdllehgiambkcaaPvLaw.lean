/- The plain law of chapter 18: what holds of the sender behind every act. No program in sight. -/
import Derived.Test.YtdllehgiambkcaaPvRMay
namespace Go.Proofs.Ytdllehgiambkcaa.Pv
open Go.RowKit

theorem inB_iff {n a b : Int} : inB n a b = true ↔ a ≤ n ∧ n ≤ b := by simp [inB]

/-- The queue of a sender: provisional codes, behind them perhaps an accepting one. -/
def Que (fin : Bool) (q p : List Int) : Prop := (∀ c ∈ p, 101 ≤ c ∧ c ≤ 199) ∧ (q = p ∧ (fin = false ∨ p = []) ∨ fin = true ∧ ∃ x, q = p ++ [x] ∧ 200 ≤ x ∧ x ≤ 299)

structure Good (r : R) (p : List Int) : Prop where
  que : Que r.fin r.q p
  lo : 0 ≤ r.seq
  hi : r.seq + p.length ≤ 2147483647
  len : r.q.length ≤ 16
  fail : r.failed = true → r.code = 0 ∧ r.fin = true
  zero : r.code = 0 → r.wait = 0 ∧ r.q = []
  some_ : r.code ≠ 0 → 101 ≤ r.code ∧ r.code ≤ 199 ∧ 0 < r.seq ∧ pow r.wait = true

theorem tail_of {r : R} {p : List Int} (h1 : ∀ c ∈ p, 101 ≤ c ∧ c ≤ 199) (h2 : 0 ≤ r.seq) (h3 : r.seq + p.length ≤ 2147483647) (h4 : r.q.length ≤ 16) (h5 : r.failed = true → r.code = 0 ∧ r.fin = true) (h6 : r.code = 0 → r.wait = 0 ∧ r.q = [])
    (h7 : r.code ≠ 0 → 101 ≤ r.code ∧ r.code ≤ 199 ∧ 0 < r.seq ∧ pow r.wait = true) : mayTail r p = true := by
  unfold mayTail
  simp only [Bool.and_eq_true, decide_eq_true_eq, List.all_eq_true, inB_iff, Bool.or_eq_true, Bool.not_eq_true']
  refine ⟨⟨⟨⟨h1, h2, by omega⟩, h4⟩, ?_⟩, ?_⟩
  · cases hf : r.failed
    · exact Or.inl rfl
    · obtain ⟨a, b⟩ := h5 hf
      exact Or.inr (by simp [a, b])
  · by_cases hc : r.code = 0
    · rw [if_pos hc]
      obtain ⟨a, b⟩ := h6 hc
      simp [a, b]
    · rw [if_neg hc]
      obtain ⟨a, b, c, d⟩ := h7 hc
      simp [inB, a, b, c, d]
theorem of_tail {r : R} {p : List Int} (h : mayTail r p = true) : (∀ c ∈ p, 101 ≤ c ∧ c ≤ 199) ∧ 0 ≤ r.seq ∧ r.seq + p.length ≤ 2147483647 ∧ r.q.length ≤ 16 ∧ (r.failed = true → r.code = 0 ∧ r.fin = true) ∧ (r.code = 0 → r.wait = 0 ∧ r.q = []) ∧ (r.code ≠ 0 → 101 ≤ r.code ∧ r.code ≤ 199 ∧ 0 < r.seq ∧ pow r.wait = true) := by
  unfold mayTail at h
  simp only [Bool.and_eq_true, decide_eq_true_eq, List.all_eq_true, inB_iff, Bool.or_eq_true, Bool.not_eq_true'] at h
  obtain ⟨⟨⟨⟨h1, h2, h3⟩, h4⟩, h5⟩, h6⟩ := h
  refine ⟨h1, h2, by omega, h4, fun hf => ?_, fun hc => ?_, fun hc => ?_⟩
  · rcases h5 with a | ⟨a, b⟩
    · rw [a] at hf; cases hf
    · exact ⟨by simpa using a, b⟩
  · rw [if_pos hc] at h6
    simpa using h6
  · rw [if_neg hc] at h6
    simp [inB] at h6
    exact ⟨h6.1.1.1, h6.1.1.2, h6.1.2, h6.2⟩

theorem may_good {r : R} (h : may r = true) : ∃ p, Good r p := by
  unfold may at h
  split at h
  · rename_i hc
    simp only [Bool.and_eq_true, inB_iff] at h
    obtain ⟨hx, ht⟩ := h
    obtain ⟨a1, a2, a3, a4, a5, a6, a7⟩ := of_tail ht
    refine ⟨r.q.dropLast, ⟨a1, Or.inr ⟨hc.1, r.q.getLastD 0, ?_, hx⟩⟩, a2, a3, a4, a5, a6, a7⟩
    have hne : r.q ≠ [] := fun e => hc.2 (by rw [e]; rfl)
    rw [List.getLastD_eq_getLast?, List.getLast?_eq_some_getLast hne]
    exact (List.dropLast_concat_getLast hne).symm
  · rename_i hc
    obtain ⟨a1, a2, a3, a4, a5, a6, a7⟩ := of_tail h
    refine ⟨r.q, ⟨a1, Or.inl ⟨rfl, ?_⟩⟩, a2, a3, a4, a5, a6, a7⟩
    cases hf : r.fin
    · exact Or.inl rfl
    · right
      have : ¬ r.q.length ≠ 0 := fun e => hc ⟨hf, e⟩
      exact List.eq_nil_of_length_eq_zero (by omega)
theorem good_may {r : R} {p : List Int} (h : Good r p) : may r = true := by
  obtain ⟨⟨h1, hq⟩, a2, a3, a4, a5, a6, a7⟩ := h
  have ht := tail_of (r := r) h1 a2 a3 a4 a5 a6 a7
  unfold may
  rcases hq with ⟨e, hf⟩ | ⟨hf, x, e, hx⟩
  · rw [if_neg, e]
    · exact ht
    · rintro ⟨a, b⟩
      rcases hf with f | f
      · rw [f] at a; cases a
      · rw [e, f] at b; exact b rfl
  · rw [if_pos ⟨hf, by rw [e]; simp⟩, e]
    simp [List.getLastD_eq_getLast?, ht, inB, hx.1, hx.2]

/-- What an act puts out, and what it does to the number and the code. -/
inductive Shape (r : R) : Bool → R → List O → Prop
  | quiet (b : Bool) (x : R) : x.seq = r.seq → (x.code = r.code ∨ x.code = 0) → Shape r b x []
  | sent (x : R) (c : Int) : x.seq = r.seq + 1 → x.code = c → Shape r true x [sendO c (r.seq + 1), timerO 1 500, timerO 2 32000]
  | last (x : R) (c : Int) : x.seq = r.seq → x.code = 0 → Shape r true x [finalO c]
  | again (x : R) (y : Int) : x.seq = r.seq → x.code = r.code → r.code ≠ 0 → Shape r false x [sendO r.code r.seq, timerO 1 y]
  | gone (x : R) : x.seq = r.seq → x.code = 0 → Shape r false x [failO]

/-- next of a sender that has nothing in flight. -/
theorem next_good {r : R} {p : List Int} (hc : r.code = 0) (hw : r.wait = 0) (hq : Que r.fin r.q p) (lo : 0 ≤ r.seq) (hi : r.seq + p.length ≤ 2147483647) (len : r.q.length ≤ 16) (hf : r.failed = false) :
    (∃ p', Good (next r).1 p') ∧ Shape r true (next r).1 (next r).2 := by
  obtain ⟨seq, code, wait, q, fin, failed⟩ := r
  simp only at hc hw hq lo hi len hf
  subst hc hw hf
  obtain ⟨h1, hq⟩ := hq
  rcases q with _ | ⟨c, q⟩
  · refine ⟨⟨[], ⟨by simp, Or.inl ⟨rfl, Or.inr rfl⟩⟩, lo, ?_, by simp [next], by simp [next], by simp [next], by simp [next]⟩, ?_⟩
    · simp [next]; omega
    · exact .quiet _ _ rfl (Or.inl rfl)
  · rcases p with _ | ⟨c', p⟩
    · obtain ⟨hf, x, e, hx⟩ : fin = true ∧ ∃ x, c :: q = [] ++ [x] ∧ 200 ≤ x ∧ x ≤ 299 := by
        rcases hq with ⟨e, _⟩ | h
        · cases e
        · exact h
      simp at e
      obtain ⟨rfl, rfl⟩ := e
      have hn : next ⟨seq, 0, 0, [c], fin, false⟩ = (⟨seq, 0, 0, [], fin, false⟩, [finalO c]) := by
        have : inB c 101 199 = false := by simp [inB]; omega
        simp [next, this]
      rw [hn]
      exact ⟨⟨[], ⟨by simp, Or.inl ⟨rfl, Or.inr rfl⟩⟩, lo, by simp at hi ⊢; omega, by simp, by simp, by simp, by simp⟩, .last _ _ rfl rfl⟩
    · have hcc : c' = c ∧ (q = p ∧ fin = false ∨ fin = true ∧ ∃ x, q = p ++ [x] ∧ 200 ≤ x ∧ x ≤ 299) := by
        rcases hq with ⟨e, hf⟩ | ⟨hf, x, e, hx⟩
        · injection e with e1 e2
          exact ⟨e1.symm, Or.inl ⟨e2, hf.elim id (fun e => by cases e)⟩⟩
        · injection e with e1 e2
          exact ⟨e1.symm, Or.inr ⟨hf, x, e2, hx⟩⟩
      obtain ⟨rfl, hq'⟩ := hcc
      have hce := h1 c' (by simp)
      have hn : next ⟨seq, 0, 0, c' :: q, fin, false⟩ = (⟨seq + 1, c', 500, q, fin, false⟩, [sendO c' (seq + 1), timerO 1 500, timerO 2 32000]) := by
        have : inB c' 101 199 = true := by simp [inB]; omega
        simp [next, this]
      rw [hn]
      simp at hi len
      refine ⟨⟨p, ⟨fun c hc => h1 c (by simp [hc]), ?_⟩, ?_, ?_, ?_, by simp, ?_, ?_⟩, .sent _ _ rfl rfl⟩
      · rcases hq' with ⟨e, hf⟩ | h
        · exact Or.inl ⟨e, Or.inl hf⟩
        · exact Or.inr h
      · show 0 ≤ seq + 1; omega
      · show seq + 1 + (p.length : Int) ≤ 2147483647; omega
      · show q.length ≤ 16; omega
      · intro e; exfalso; have e' : c' = 0 := e; omega
      · intro _; exact ⟨hce.1, hce.2, by show 0 < seq + 1; omega, rfl⟩

/-- What an act answers. -/
structure Acted (r : R) (b : Bool) (x : Res) : Prop where
  err : x.e = 0 ∨ x.e = 8 ∨ x.e = 9 ∨ x.e = 10
  bad : x.e ≠ 0 → x.l = []
  may : x.e = 0 → may x.r = true
  fail : x.e = 0 → r.failed = true → x.l = []
  shape : x.e = 0 → Shape r b x.r x.l

theorem bad_acted {r : R} {b : Bool} {e : Int} (h : e = 8 ∨ e = 9 ∨ e = 10) : Acted r b ⟨.zero, [], e⟩ :=
  ⟨by simp only; omega, fun _ => rfl, fun h0 => by simp only at h0; omega, fun _ _ => rfl, fun h0 => by simp only at h0; omega⟩

theorem offer_acted {r : R} (h : may r = true) {c : Int} (hc : 101 ≤ c ∧ c ≤ 699) : Acted r true (offer r c) := by
  obtain ⟨p, hg⟩ := may_good h
  have hi : inB c 101 699 = true := by simp [inB]; omega
  unfold offer
  rw [if_neg (by rw [h, hi]; simp)]
  by_cases hf : r.fin = true
  · rw [if_pos hf]; exact bad_acted (by omega)
  · rw [if_neg hf]
    have hff : r.fin = false := by simpa using hf
    have hfa : r.failed = false := by
      cases e : r.failed
      · rfl
      · rw [(hg.fail e).2] at hff; cases hff
    split
    · exact bad_acted (by omega)
    · rename_i hful
      have hqp : r.q = p := by
        rcases hg.que.2 with ⟨e, -⟩ | ⟨e, -⟩
        · exact e
        · rw [e] at hff; cases hff
      split
      · rename_i h3
        refine ⟨Or.inl rfl, fun h0 => absurd rfl h0, fun _ => ?_, fun _ hh => (by rw [hfa] at hh; cases hh), fun _ => .last _ _ rfl rfl⟩
        refine good_may (p := []) ⟨⟨by simp, Or.inl ⟨rfl, Or.inr rfl⟩⟩, hg.lo, by have := hg.hi; simp; omega, by simp, by simp [hfa], by simp, by simp⟩
      · rename_i h3
        have hlen : r.q.length ≤ 15 := by have := hg.len; omega
        have key : (∃ p', Good (next { r with fin := decide (200 ≤ c), q := r.q ++ [c] }).1 p') ∧ Shape r true (next { r with fin := decide (200 ≤ c), q := r.q ++ [c] }).1 (next { r with fin := decide (200 ≤ c), q := r.q ++ [c] }).2 := by
          obtain ⟨p2, hq2, hi2⟩ : ∃ p2, Que (decide (200 ≤ c)) (r.q ++ [c]) p2 ∧ r.seq + p2.length ≤ 2147483647 := by
            by_cases h2 : 200 ≤ c
            · exact ⟨p, ⟨hg.que.1, Or.inr ⟨by simpa using h2, c, by rw [hqp], h2, by omega⟩⟩, hg.hi⟩
            · refine ⟨p ++ [c], ⟨fun a ha => ?_, Or.inl ⟨by rw [hqp], Or.inl (by simpa using h2)⟩⟩, ?_⟩
              · rcases List.mem_append.mp ha with ha | ha
                · exact hg.que.1 a ha
                · simp at ha; omega
              · have : ¬ (inB c 101 199 = true ∧ 2147483647 ≤ r.seq + r.q.length) := fun e => hful ⟨by omega, Or.inr e⟩
                have hin : inB c 101 199 = true := by simp [inB]; omega
                have : ¬ 2147483647 ≤ r.seq + (r.q.length : Int) := fun e => this ⟨hin, e⟩
                rw [← hqp]; simp; omega
          by_cases h0 : r.code = 0
          · exact next_good (r := { r with fin := decide (200 ≤ c), q := r.q ++ [c] }) h0 (hg.zero h0).1 hq2 hg.lo hi2 (by simp; omega) hfa |>.imp id (fun s => by
              generalize next _ = y at s
              obtain ⟨y1, y2⟩ := y
              cases s
              case quiet a b => exact .quiet _ _ a b
              case sent c' a b => exact .sent _ _ a b
              case last c' a b => exact .last _ _ a b)
          · have hn : next { r with fin := decide (200 ≤ c), q := r.q ++ [c] } = ({ r with fin := decide (200 ≤ c), q := r.q ++ [c] }, []) := by simp [next, h0]
            rw [hn]
            exact ⟨⟨p2, hq2, hg.lo, hi2, by simp; omega, by simp [hfa], fun e => absurd e h0, hg.some_⟩, .quiet _ _ rfl (Or.inl rfl)⟩
        obtain ⟨⟨p', hg'⟩, hs⟩ := key
        exact ⟨Or.inl rfl, fun h0 => absurd rfl h0, fun _ => good_may hg', fun _ hh => (by rw [hfa] at hh; cases hh), fun _ => hs⟩

theorem ack_acted {r : R} (h : may r = true) (n : Int) : Acted r true (ack r n) := by
  obtain ⟨p, hg⟩ := may_good h
  unfold ack
  rw [if_neg (by rw [h]; simp)]
  split
  · exact bad_acted (by omega)
  · rename_i hc
    have hc0 : r.code ≠ 0 := fun e => hc (Or.inl e)
    have hfa : r.failed = false := by
      cases e : r.failed
      · rfl
      · exact absurd (hg.fail e).1 hc0
    obtain ⟨⟨p', hg'⟩, hs⟩ := next_good (r := { r with code := 0, wait := 0 }) rfl rfl hg.que hg.lo hg.hi hg.len hfa
    refine ⟨Or.inl rfl, fun h0 => absurd rfl h0, fun _ => good_may hg', fun _ hh => (by rw [hfa] at hh; cases hh), fun _ => ?_⟩
    generalize next _ = y at hs hg'
    obtain ⟨y1, y2⟩ := y
    cases hs
    case quiet a b => exact .quiet _ _ a (Or.inr (b.elim id id))
    case sent c' a b => exact .sent _ _ a b
    case last c' a b => exact .last _ _ a b

theorem fire_acted {r : R} (h : may r = true) {t : Int} (ht : t = 1 ∨ t = 2) : Acted r false (fire r t) := by
  obtain ⟨p, hg⟩ := may_good h
  unfold fire
  rw [if_neg (by rw [h]; simp; omega)]
  by_cases hc : r.code = 0
  · rw [if_pos hc]
    exact ⟨Or.inl rfl, fun h0 => absurd rfl h0, fun _ => h, fun _ _ => rfl, fun _ => .quiet _ _ rfl (Or.inl rfl)⟩
  · rw [if_neg hc]
    have hfa : r.failed = false := by
      cases e : r.failed
      · rfl
      · exact absurd (hg.fail e).1 hc
    split
    · refine ⟨Or.inl rfl, fun h0 => absurd rfl h0, fun _ => good_may (p := p) ⟨hg.que, hg.lo, hg.hi, hg.len, by simp [hfa], fun e => absurd e hc, fun _ => ?_⟩, fun _ hh => (by rw [hfa] at hh; cases hh), fun _ => .again _ _ rfl rfl hc⟩
      obtain ⟨a, b, c, d⟩ := hg.some_ hc
      refine ⟨a, b, c, ?_⟩
      show pow (min (2 * r.wait) 32000) = true
      rcases pow_in d with e | e | e | e | e | e | e <;> rw [e] <;> decide
    · refine ⟨Or.inl rfl, fun h0 => absurd rfl h0, fun _ => good_may (p := []) ⟨⟨by simp, Or.inl ⟨rfl, Or.inr rfl⟩⟩, hg.lo, by have := hg.hi; simp; omega, by simp, by simp, by simp, by simp⟩, fun _ hh => (by rw [hfa] at hh; cases hh), fun _ => .gone _ rfl rfl⟩

theorem shape_len {r x : R} {b : Bool} {l : List O} (h : Shape r b x l) : l.length ≤ 3 := by
  cases h <;> simp

/-- One output, seen by who counts: the number and the code of the last answer before and behind it. -/
def Ev (b : Bool) (s c : Int) (o : O) (s' c' : Int) : Prop :=
  (o.kind ≠ 1 ∧ s' = s ∧ c' = c) ∨ (o.kind = 1 ∧ o.seq = s + 1 ∧ b = true ∧ s' = s + 1 ∧ c' = o.code) ∨ (o.kind = 1 ∧ o.seq = s ∧ o.code = c ∧ b = false ∧ s' = s ∧ c' = c)

theorem shape_chain {r x : R} {b : Bool} {l : List O} (h : Shape r b x l) {cd : Int} (hcd : r.code ≠ 0 → cd = r.code) :
    ∃ S C : Nat → Int, S 0 = r.seq ∧ C 0 = cd ∧ S l.length = x.seq ∧ (x.code ≠ 0 → C l.length = x.code) ∧ (∀ j, S j = r.seq ∨ S j = x.seq) ∧ ∀ j (hj : j < l.length), Ev b (S j) (C j) l[j] (S (j + 1)) (C (j + 1)) := by
  cases h
  case quiet e1 e2 => exact ⟨fun _ => r.seq, fun _ => cd, rfl, rfl, e1.symm, fun h0 => (hcd (by omega)).trans (by omega), fun _ => Or.inl rfl, fun j hj => absurd hj (by simp)⟩
  case sent c e1 e2 =>
    refine ⟨fun j => if j = 0 then r.seq else r.seq + 1, fun j => if j = 0 then cd else c, rfl, rfl, e1.symm, fun _ => e2.symm, fun j => ?_, fun j hj => ?_⟩
    · by_cases h0 : j = 0
      · left; simp [h0]
      · right; simp [h0, e1]
    · rcases j with _ | _ | _ | j
      · exact Or.inr (Or.inl ⟨rfl, rfl, rfl, rfl, rfl⟩)
      · exact Or.inl ⟨by simp [timerO], rfl, rfl⟩
      · exact Or.inl ⟨by simp [timerO], rfl, rfl⟩
      · simp at hj; omega
  case last c e1 e2 =>
    refine ⟨fun _ => r.seq, fun _ => cd, rfl, rfl, e1.symm, fun h0 => absurd e2 h0, fun _ => Or.inl rfl, fun j hj => ?_⟩
    rcases j with _ | j
    · exact Or.inl ⟨by simp [finalO], rfl, rfl⟩
    · simp at hj
  case again y e3 e1 e2 =>
    have hc := hcd e3
    refine ⟨fun _ => r.seq, fun _ => cd, rfl, rfl, e1.symm, fun _ => hc.trans e2.symm, fun _ => Or.inl rfl, fun j hj => ?_⟩
    rcases j with _ | _ | j
    · exact Or.inr (Or.inr ⟨rfl, rfl, hc.symm, rfl, rfl, rfl⟩)
    · exact Or.inl ⟨by simp [timerO], rfl, rfl⟩
    · simp at hj; omega
  case gone e1 e2 =>
    refine ⟨fun _ => r.seq, fun _ => cd, rfl, rfl, e1.symm, fun h0 => absurd e2 h0, fun _ => Or.inl rfl, fun j hj => ?_⟩
    rcases j with _ | j
    · exact Or.inl ⟨by simp [failO], rfl, rfl⟩
    · simp at hj
end Go.Proofs.Ytdllehgiambkcaa.Pv
