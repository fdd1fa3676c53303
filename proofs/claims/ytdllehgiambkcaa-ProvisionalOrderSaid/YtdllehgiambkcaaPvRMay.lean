/- The walk of the reference's May of chapter 18. -/
import Derived.Test.YtdllehgiambkcaaPvMay
namespace Go.Proofs.Ytdllehgiambkcaa.Pv
open Go.RowKit

/-- Whether the code at place k of n may stand there. -/
def okAt (fin : Bool) (n k : Nat) (c : Int) : Bool := if fin = true ∧ k + 1 = n then inB c 200 299 else inB c 101 199
def okTo (fin : Bool) (q : List Int) : Nat → Bool
  | 0 => true
  | k + 1 => okTo fin q k && okAt fin q.length k (q.getD k 0)
def manyTo (fin : Bool) (n k : Nat) : Nat := if fin = true ∧ k = n then n - 1 else k
def mayRef (r : R) : Bool :=
  decide (0 ≤ r.seq) && decide (r.seq ≤ 2147483647) && decide (r.q.length ≤ 16) && (if r.code = 0 then r.wait == 0 && decide (r.q.length = 0) else inB r.code 101 199 && decide (1 ≤ r.seq) && pow r.wait)
    && okTo r.fin r.q r.q.length && decide (r.seq + manyTo r.fin r.q.length r.q.length ≤ 2147483647) && (!r.failed || (r.code == 0 && r.fin))

theorem okTo_plain (fin : Bool) (p s : List Int) (h : fin = false ∨ s ≠ []) : ∀ k, k ≤ p.length → okTo fin (p ++ s) k = (p.take k).all (fun c => inB c 101 199)
  | 0, _ => by simp [okTo]
  | k + 1, hk => by
    have ih := okTo_plain fin p s h k (by omega)
    have hkp : k < p.length := by omega
    have e : (p ++ s).getD k 0 = p[k] := by rw [List.getD_eq_getElem?_getD, List.getElem?_append_left hkp, List.getElem?_eq_getElem hkp]; rfl
    have hn : ¬ (fin = true ∧ k + 1 = (p ++ s).length) := by
      rintro ⟨a, b⟩
      rcases h with h | h
      · rw [a] at h; cases h
      · have : 0 < s.length := List.length_pos_iff.mpr h
        rw [List.length_append] at b; omega
    rw [okTo, ih, e, okAt, if_neg hn, List.take_succ_eq_append_getElem hkp, List.all_append]
    simp

theorem may_ref (r : R) : may r = mayRef r := by
  obtain ⟨seq, code, wait, q, fin, failed⟩ := r
  have hcs : (fin = true ∧ ∃ p x, q = p ++ [x]) ∨ fin = false ∨ (fin = true ∧ q = []) := by
    cases fin
    · exact Or.inr (Or.inl rfl)
    · rcases List.eq_nil_or_concat q with e | ⟨p, x, e⟩
      · exact Or.inr (Or.inr ⟨rfl, e⟩)
      · exact Or.inl ⟨rfl, p, x, by rw [e, List.concat_eq_append]⟩
  have key : ∀ (n : Nat) (A C F : Bool), (A && (decide (0 ≤ seq) && decide (seq ≤ 2147483647 - (n : Int))) && C && F) = (decide (0 ≤ seq) && decide (seq ≤ 2147483647) && A && C && decide (seq + (n : Int) ≤ 2147483647) && F) := by
    intro n A C F
    by_cases h1 : 0 ≤ seq
    · by_cases h2 : seq + (n : Int) ≤ 2147483647
      · have h3 : seq ≤ 2147483647 - (n : Int) := by omega
        have h4 : seq ≤ 2147483647 := by omega
        simp [h1, h2, h3, h4]
      · have h3 : ¬ seq ≤ 2147483647 - (n : Int) := by omega
        simp [h2, h3]
    · simp [h1]
  rcases hcs with ⟨rfl, p, x, rfl⟩ | rfl | ⟨rfl, rfl⟩
  · have e1 : okTo true (p ++ [x]) (p ++ [x]).length = (p.all (fun c => inB c 101 199) && inB x 200 299) := by
      rw [show (p ++ [x]).length = p.length + 1 by simp, okTo, okTo_plain true p [x] (Or.inr (by simp)) p.length (Nat.le_refl _), List.take_length]
      simp [okAt, List.getD_eq_getElem?_getD]
    have e2 : manyTo true (p ++ [x]).length (p ++ [x]).length = p.length := by simp [manyTo]
    unfold may mayRef mayTail
    simp only
    rw [if_pos ⟨trivial, by simp⟩, e1, e2]
    have k := key p.length (p.all (fun c => inB c 101 199))
    unfold inB at *
    simp only [List.getLastD_concat, List.dropLast_concat]
    have hl : (p ++ [x]).length = p.length + 1 := by simp
    rw [hl]
    generalize decide (0 ≤ seq) = b1 at *
    generalize hd : decide (0 < seq) = b2
    rw [show decide (1 ≤ seq) = b2 by rw [← hd]; rfl]
    have k' := k true true
    simp only [Bool.and_true] at k'
    generalize p.all (fun c => decide (101 ≤ c) && decide (c ≤ 199)) = A at *
    generalize decide (seq ≤ 2147483647) = b3 at *
    generalize decide (seq + (p.length : Int) ≤ 2147483647) = b4 at *
    generalize decide (seq ≤ 2147483647 - (p.length : Int)) = b5 at *
    generalize (decide (200 ≤ x) && decide (x ≤ 299)) = X
    generalize (if code = 0 then _ else _ : Bool) = C
    generalize decide (p.length + 1 ≤ 16) = L
    generalize (!failed || _) = F
    cases X <;> cases A <;> cases C <;> cases L <;> cases F <;> simp_all
  · have e1 : okTo false q q.length = q.all (fun c => inB c 101 199) := by
      have := okTo_plain false q [] (Or.inl rfl) q.length (Nat.le_refl _)
      rwa [List.append_nil, List.take_length] at this
    have e2 : manyTo false q.length q.length = q.length := by simp [manyTo]
    unfold may mayRef mayTail
    simp only
    rw [if_neg (by simp), e1, e2]
    have k := key q.length (q.all (fun c => inB c 101 199))
    unfold inB at *
    generalize decide (0 ≤ seq) = b1 at *
    generalize hd : decide (0 < seq) = b2
    rw [show decide (1 ≤ seq) = b2 by rw [← hd]; rfl]
    have k' := k true true
    simp only [Bool.and_true] at k'
    generalize q.all (fun c => decide (101 ≤ c) && decide (c ≤ 199)) = A at *
    generalize decide (seq ≤ 2147483647) = b3 at *
    generalize decide (seq + (q.length : Int) ≤ 2147483647) = b4 at *
    generalize decide (seq ≤ 2147483647 - (q.length : Int)) = b5 at *
    generalize (if code = 0 then _ else _ : Bool) = C
    generalize decide (q.length ≤ 16) = L
    generalize (!failed || _) = F
    cases A <;> cases C <;> cases L <;> cases F <;> simp_all
  · obtain ⟨q, hq⟩ : ∃ q : List Int, q = [] := ⟨_, rfl⟩
    rw [← hq]
    have e1 : okTo true q q.length = q.all (fun c => inB c 101 199) := by subst hq; rfl
    have e2 : manyTo true q.length q.length = q.length := by subst hq; rfl
    unfold may mayRef mayTail
    simp only
    rw [if_neg (by simp [hq]), e1, e2]
    have k := key q.length (q.all (fun c => inB c 101 199))
    unfold inB at *
    generalize decide (0 ≤ seq) = b1 at *
    generalize hd : decide (0 < seq) = b2
    rw [show decide (1 ≤ seq) = b2 by rw [← hd]; rfl]
    have k' := k true true
    simp only [Bool.and_true] at k'
    generalize q.all (fun c => decide (101 ≤ c) && decide (c ≤ 199)) = A at *
    generalize decide (seq ≤ 2147483647) = b3 at *
    generalize decide (seq + (q.length : Int) ≤ 2147483647) = b4 at *
    generalize decide (seq ≤ 2147483647 - (q.length : Int)) = b5 at *
    generalize (if code = 0 then _ else _ : Bool) = C
    generalize decide (q.length ≤ 16) = L
    generalize (!failed || _) = F
    cases A <;> cases C <;> cases L <;> cases F <;> simp_all

theorem okTo_succ (fin : Bool) (q : List Int) (k : Nat) (h : k < q.length) (ho : okTo fin q k = true) : okTo fin q (k + 1) = okAt fin q.length k q[k] := by
  rw [okTo, ho, List.getD_eq_getElem?_getD, List.getElem?_eq_getElem h]; simp
theorem okTo_mono (fin : Bool) (q : List Int) (k n : Nat) (h : okTo fin q k = false) (hn : k ≤ n) : okTo fin q n = false := by
  induction n with
  | zero => have : k = 0 := by omega
            subst this; exact h
  | succ n ih =>
    by_cases e : k = n + 1
    · subst e; exact h
    · rw [okTo, ih (by omega)]; rfl
theorem okTo_bad (fin : Bool) (q : List Int) (k : Nat) (h : k < q.length) (ho : okAt fin q.length k q[k] = false) : okTo fin q q.length = false := by
  refine okTo_mono fin q (k + 1) q.length ?_ (by omega)
  rw [okTo, List.getD_eq_getElem?_getD, List.getElem?_eq_getElem h]
  simp [ho]

set_option maxRecDepth 100000 in
set_option maxHeartbeats 8000000 in
theorem rmay_any (r : R) (A : Option Addr) (cap : Nat) (w : World) (hR : Rd w w.heap.size 1 A r.q.length (ints r.q)) (hl : r.q.length ≤ 1000) (hcap : r.q.length ≤ cap) :
    Calls Try.prog 42 #[.agg #[.int .i64 r.seq, .int .i64 r.code, .int .i64 r.wait, .slice A r.q.length cap, .bool r.fin, .bool r.failed]] w fun e w' => e = .returned (.bool (may r)) ∧ ∃ cs, w' = w.alloc (.cells cs 61) := by
  have HM := hide (may_ref r)
  obtain ⟨seq, code, wait, q, fin, failed⟩ := r
  simp only at *
  obtain ⟨n, hn⟩ : ∃ n, q.length = n := ⟨_, rfl⟩
  have HN := hide hn
  rw [hn] at hR hl hcap ⊢
  clear hn
  have close : ∀ b : Bool, b = mayRef ⟨seq, code, wait, q, fin, failed⟩ → Ending.returned (.bool b) = .returned (.bool (may ⟨seq, code, wait, q, fin, failed⟩)) := fun b h => by rw [HM.out, ← h]
  by_cases a1 : 0 ≤ seq
  rotate_left
  · go_enter Try.func42, Try.ntmps42
    go_wp2_with (first | (go_at_call 72; refine (from_any _ _ _ _).mono ?_; rintro e w' ⟨rfl, rfl⟩) | (go_at_call 73; refine (wait_any _ _).mono ?_; rintro e w' ⟨rfl, rfl⟩))
    go_ret
    exact ⟨close _ (by simp [mayRef]; intro h; omega), _, rfl⟩
  by_cases a2 : seq ≤ 2147483647
  rotate_left
  · go_enter Try.func42, Try.ntmps42
    go_wp2_with (first | (go_at_call 72; refine (from_any _ _ _ _).mono ?_; rintro e w' ⟨rfl, rfl⟩) | (go_at_call 73; refine (wait_any _ _).mono ?_; rintro e w' ⟨rfl, rfl⟩))
    go_ret
    exact ⟨close _ (by simp [mayRef]; intro _ h; omega), _, rfl⟩
  by_cases a3 : n ≤ 16
  rotate_left
  · go_enter Try.func42, Try.ntmps42
    go_wp2_with (first | (go_at_call 72; refine (from_any _ _ _ _).mono ?_; rintro e w' ⟨rfl, rfl⟩) | (go_at_call 73; refine (wait_any _ _).mono ?_; rintro e w' ⟨rfl, rfl⟩))
    go_ret
    exact ⟨close _ (by have hn := HN.out; simp [mayRef]; intro _ _ h; omega), _, rfl⟩
  by_cases c0 : code = 0
  · subst c0
    by_cases w0 : wait = 0
    rotate_left
    · have dw : (wait == 0) = false := by simp [w0]
      have dv : (wait != 0) = true := by simp [w0]
      go_enter Try.func42, Try.ntmps42
      go_wp2_with (first | (go_at_call 72; refine (from_any _ _ _ _).mono ?_; rintro e w' ⟨rfl, rfl⟩) | (go_at_call 73; refine (wait_any _ _).mono ?_; rintro e w' ⟨rfl, rfl⟩))
      go_ret
      exact ⟨close _ (by have hn := HN.out; simp [mayRef, w0]; try omega), _, rfl⟩
    subst w0
    by_cases n0 : n = 0
    rotate_left
    · have n1 : 0 < n := by omega
      go_enter Try.func42, Try.ntmps42
      go_wp2_with (first | (go_at_call 72; refine (from_any _ _ _ _).mono ?_; rintro e w' ⟨rfl, rfl⟩) | (go_at_call 73; refine (wait_any _ _).mono ?_; rintro e w' ⟨rfl, rfl⟩))
      go_ret
      exact ⟨close _ (by have hn := HN.out; simp [mayRef, hn, n0]; try omega), _, rfl⟩
    have d0 : decide (0 < n) = false := by simp; omega
    have HN0 := hide n0
    clear n0
    cases fin
    · have close := close
      go_enter Try.func42, Try.ntmps42
      go_wp2_with (first | (go_at_call 72; refine (from_any _ _ _ _).mono ?_; rintro e w' ⟨rfl, rfl⟩) | (go_at_call 73; refine (wait_any _ _).mono ?_; rintro e w' ⟨rfl, rfl⟩))
      go_loop [3, 4] (fun m i => ∃ k : Nat, k ≤ n ∧ i = .int .i64 k ∧ m = .int .i64 (manyTo false n k) ∧ Hid (okTo false q k = true)) (fun _ i => n - (intOf i).toNat)
      case atStart => exact ⟨0, by omega, rfl, by rw [show manyTo false n 0 = 0 by unfold manyTo; split <;> omega]; rfl, hide rfl⟩
      case round =>
        obtain ⟨k, hk, rfl, rfl, hto⟩ := hrel
        by_cases hlt : k < n
        · have hkq : k < q.length := by rw [HN.out]; exact hlt
          obtain ⟨b, o, rfl, hb, hc⟩ := Rd.intAt hR hkq
          have HS := hide (okTo_succ false q k hkq hto.out)
          have HB := hide (okTo_bad false q k hkq)
          rw [HN.out] at HS HB
          have hk0 : manyTo false n k = k := by unfold manyTo; rw [if_neg (by omega)]
          rw [hk0]
          clear hk0
          have HM1 : Hid (manyTo false n (k + 1) = k + 1) := hide (by simp [manyTo])
          have HO : Hid (okAt false n k q[k] = inB q[k] 101 199) := hide (by simp [okAt])
          cases he : inB q[k] 101 199
          · go_wp2_with (first | (go_at_call 72; refine (from_any _ _ _ _).mono ?_; rintro e w' ⟨rfl, rfl⟩) | (go_at_call 73; refine (wait_any _ _).mono ?_; rintro e w' ⟨rfl, rfl⟩))
            go_ret
            have hbad : okTo false q q.length = false := by rw [HN.out]; exact HB.out (by rw [HO.out]; exact he)
            exact ⟨close _ (by simp [mayRef, hbad]), _, rfl⟩
          · go_wp2_with (first | (go_at_call 72; refine (from_any _ _ _ _).mono ?_; rintro e w' ⟨rfl, rfl⟩) | (go_at_call 73; refine (wait_any _ _).mono ?_; rintro e w' ⟨rfl, rfl⟩))
            go_round
            case rel => exact ⟨k + 1, by omega, by go_num, by rw [HM1.out]; first | rfl | go_num, hide (by rw [HS.out, HO.out]; exact he)⟩
            case measure => simp [intOf]; omega
        · obtain rfl : n = k := by omega
          have HT := hide hto.out
          clear hto hlt hk
          obtain ⟨mm, hmm⟩ : ∃ mm : Nat, manyTo false n n = mm := ⟨_, rfl⟩
          have hmb : mm ≤ 1000 := by rw [← hmm]; unfold manyTo; split <;> omega
          rw [hmm]
          have HMM := hide hmm
          clear hmm hl hcap hR
          have hmI : (mm : Int) ≤ 1000 := by omega
          have hmJ : (0 : Int) ≤ mm := by omega
          clear hmb
          by_cases hs : seq + (mm : Int) ≤ 2147483647
          all_goals rcases failed with _ | _
          all_goals go_wp2_with (first | (go_at_call 72; refine (from_any _ _ _ _).mono ?_; rintro e w' ⟨rfl, rfl⟩) | (go_at_call 73; refine (wait_any _ _).mono ?_; rintro e w' ⟨rfl, rfl⟩))
          all_goals go_ret
          all_goals exact ⟨close _ (by unfold mayRef; simp only [HN.out, HT.out, HMM.out]; (try have n0 := HN0.out); (try have c0 := C0.out); simp [*]; try omega), _, rfl⟩
    · have close := close
      go_enter Try.func42, Try.ntmps42
      go_wp2_with (first | (go_at_call 72; refine (from_any _ _ _ _).mono ?_; rintro e w' ⟨rfl, rfl⟩) | (go_at_call 73; refine (wait_any _ _).mono ?_; rintro e w' ⟨rfl, rfl⟩))
      go_loop [3, 4] (fun m i => ∃ k : Nat, k ≤ n ∧ i = .int .i64 k ∧ m = .int .i64 (manyTo true n k) ∧ Hid (okTo true q k = true)) (fun _ i => n - (intOf i).toNat)
      case atStart => exact ⟨0, by omega, rfl, by rw [show manyTo true n 0 = 0 by unfold manyTo; split <;> omega]; rfl, hide rfl⟩
      case round =>
        obtain ⟨k, hk, rfl, rfl, hto⟩ := hrel
        by_cases hlt : k < n
        · have hkq : k < q.length := by rw [HN.out]; exact hlt
          obtain ⟨b, o, rfl, hb, hc⟩ := Rd.intAt hR hkq
          have HS := hide (okTo_succ true q k hkq hto.out)
          have HB := hide (okTo_bad true q k hkq)
          rw [HN.out] at HS HB
          have hk0 : manyTo true n k = k := by unfold manyTo; rw [if_neg (by omega)]
          rw [hk0]
          clear hk0
          by_cases hlast : k + 1 = n
          · have d1 : ((k : Int) == (n : Int) - 1) = true := by simp; omega
            have hm1 : manyTo true n (k + 1) = k := by unfold manyTo; rw [if_pos ⟨rfl, hlast⟩]; omega
            have HM1 := hide hm1
            have HO : Hid (okAt true n k q[k] = inB q[k] 200 299) := hide (by unfold okAt; rw [if_pos ⟨rfl, hlast⟩])
            clear hm1
            cases he : inB q[k] 200 299
            · go_wp2_with (first | (go_at_call 72; refine (from_any _ _ _ _).mono ?_; rintro e w' ⟨rfl, rfl⟩) | (go_at_call 73; refine (wait_any _ _).mono ?_; rintro e w' ⟨rfl, rfl⟩))
              go_ret
              have hbad : okTo true q q.length = false := by rw [HN.out]; exact HB.out (by rw [HO.out]; exact he)
              exact ⟨close _ (by simp [mayRef, hbad]), _, rfl⟩
            · go_wp2_with (first | (go_at_call 72; refine (from_any _ _ _ _).mono ?_; rintro e w' ⟨rfl, rfl⟩) | (go_at_call 73; refine (wait_any _ _).mono ?_; rintro e w' ⟨rfl, rfl⟩))
              go_round
              case rel => exact ⟨k + 1, by omega, by go_num, by rw [HM1.out]; try rfl, hide (by rw [HS.out, HO.out]; exact he)⟩
              case measure => simp [intOf]; omega
          · have d1 : ((k : Int) == (n : Int) - 1) = false := by simp; omega
            have hm1 : manyTo true n (k + 1) = k + 1 := by unfold manyTo; rw [if_neg (fun e => hlast e.2)]
            have HM1 := hide hm1
            have HO : Hid (okAt true n k q[k] = inB q[k] 101 199) := hide (by unfold okAt; rw [if_neg (fun e => hlast e.2)])
            clear hm1
            cases he : inB q[k] 101 199
            · go_wp2_with (first | (go_at_call 72; refine (from_any _ _ _ _).mono ?_; rintro e w' ⟨rfl, rfl⟩) | (go_at_call 73; refine (wait_any _ _).mono ?_; rintro e w' ⟨rfl, rfl⟩))
              go_ret
              have hbad : okTo true q q.length = false := by rw [HN.out]; exact HB.out (by rw [HO.out]; exact he)
              exact ⟨close _ (by simp [mayRef, hbad]), _, rfl⟩
            · go_wp2_with (first | (go_at_call 72; refine (from_any _ _ _ _).mono ?_; rintro e w' ⟨rfl, rfl⟩) | (go_at_call 73; refine (wait_any _ _).mono ?_; rintro e w' ⟨rfl, rfl⟩))
              go_round
              case rel => exact ⟨k + 1, by omega, by go_num, by rw [HM1.out]; first | rfl | go_num, hide (by rw [HS.out, HO.out]; exact he)⟩
              case measure => simp [intOf]; omega
        · obtain rfl : n = k := by omega
          have HT := hide hto.out
          clear hto hlt hk
          obtain ⟨mm, hmm⟩ : ∃ mm : Nat, manyTo true n n = mm := ⟨_, rfl⟩
          have hmb : mm ≤ 1000 := by rw [← hmm]; unfold manyTo; split <;> omega
          rw [hmm]
          have HMM := hide hmm
          clear hmm hl hcap hR
          have hmI : (mm : Int) ≤ 1000 := by omega
          have hmJ : (0 : Int) ≤ mm := by omega
          clear hmb
          by_cases hs : seq + (mm : Int) ≤ 2147483647
          all_goals rcases failed with _ | _
          all_goals go_wp2_with (first | (go_at_call 72; refine (from_any _ _ _ _).mono ?_; rintro e w' ⟨rfl, rfl⟩) | (go_at_call 73; refine (wait_any _ _).mono ?_; rintro e w' ⟨rfl, rfl⟩))
          all_goals go_ret
          all_goals exact ⟨close _ (by unfold mayRef; simp only [HN.out, HT.out, HMM.out]; (try have n0 := HN0.out); (try have c0 := C0.out); simp [*]; try omega), _, rfl⟩
  · have d0 : (code == 0) = false := by simp [c0]
    have d00 : (code != 0) = true := by simp [c0]
    have C0 := hide c0
    clear c0
    have dead0 : (inB code 101 199 && decide (1 ≤ seq) && pow wait) = false → mayRef ⟨seq, code, wait, q, fin, failed⟩ = false := fun h => by have c0 := C0.out; simp only [mayRef, if_neg c0, h]; simp
    cases he : inB code 101 199
    · have D := hide (dead0 (by simp [he]))
      clear dead0
      go_enter Try.func42, Try.ntmps42
      go_wp2_with (first | (go_at_call 72; refine (from_any _ _ _ _).mono ?_; rintro e w' ⟨rfl, rfl⟩) | (go_at_call 73; refine (wait_any _ _).mono ?_; rintro e w' ⟨rfl, rfl⟩))
      go_ret
      exact ⟨close _ D.out.symm, _, rfl⟩
    by_cases hs1 : 1 ≤ seq
    rotate_left
    · have D := hide (dead0 (by simp; intro _ h; omega))
      clear dead0
      go_enter Try.func42, Try.ntmps42
      go_wp2_with (first | (go_at_call 72; refine (from_any _ _ _ _).mono ?_; rintro e w' ⟨rfl, rfl⟩) | (go_at_call 73; refine (wait_any _ _).mono ?_; rintro e w' ⟨rfl, rfl⟩))
      go_ret
      exact ⟨close _ D.out.symm, _, rfl⟩
    cases hp : pow wait
    · have D := hide (dead0 (by simp [hp]))
      clear dead0
      go_enter Try.func42, Try.ntmps42
      go_wp2_with (first | (go_at_call 72; refine (from_any _ _ _ _).mono ?_; rintro e w' ⟨rfl, rfl⟩) | (go_at_call 73; refine (wait_any _ _).mono ?_; rintro e w' ⟨rfl, rfl⟩))
      go_ret
      exact ⟨close _ D.out.symm, _, rfl⟩
    clear dead0
    cases fin
    · have close := close
      go_enter Try.func42, Try.ntmps42
      go_wp2_with (first | (go_at_call 72; refine (from_any _ _ _ _).mono ?_; rintro e w' ⟨rfl, rfl⟩) | (go_at_call 73; refine (wait_any _ _).mono ?_; rintro e w' ⟨rfl, rfl⟩))
      go_loop [3, 4] (fun m i => ∃ k : Nat, k ≤ n ∧ i = .int .i64 k ∧ m = .int .i64 (manyTo false n k) ∧ Hid (okTo false q k = true)) (fun _ i => n - (intOf i).toNat)
      case atStart => exact ⟨0, by omega, rfl, by rw [show manyTo false n 0 = 0 by unfold manyTo; split <;> omega]; rfl, hide rfl⟩
      case round =>
        obtain ⟨k, hk, rfl, rfl, hto⟩ := hrel
        by_cases hlt : k < n
        · have hkq : k < q.length := by rw [HN.out]; exact hlt
          obtain ⟨b, o, rfl, hb, hc⟩ := Rd.intAt hR hkq
          have HS := hide (okTo_succ false q k hkq hto.out)
          have HB := hide (okTo_bad false q k hkq)
          rw [HN.out] at HS HB
          have hk0 : manyTo false n k = k := by unfold manyTo; rw [if_neg (by omega)]
          rw [hk0]
          clear hk0
          have HM1 : Hid (manyTo false n (k + 1) = k + 1) := hide (by simp [manyTo])
          have HO : Hid (okAt false n k q[k] = inB q[k] 101 199) := hide (by simp [okAt])
          cases he : inB q[k] 101 199
          · go_wp2_with (first | (go_at_call 72; refine (from_any _ _ _ _).mono ?_; rintro e w' ⟨rfl, rfl⟩) | (go_at_call 73; refine (wait_any _ _).mono ?_; rintro e w' ⟨rfl, rfl⟩))
            go_ret
            have hbad : okTo false q q.length = false := by rw [HN.out]; exact HB.out (by rw [HO.out]; exact he)
            exact ⟨close _ (by simp [mayRef, hbad]), _, rfl⟩
          · go_wp2_with (first | (go_at_call 72; refine (from_any _ _ _ _).mono ?_; rintro e w' ⟨rfl, rfl⟩) | (go_at_call 73; refine (wait_any _ _).mono ?_; rintro e w' ⟨rfl, rfl⟩))
            go_round
            case rel => exact ⟨k + 1, by omega, by go_num, by rw [HM1.out]; first | rfl | go_num, hide (by rw [HS.out, HO.out]; exact he)⟩
            case measure => simp [intOf]; omega
        · obtain rfl : n = k := by omega
          have HT := hide hto.out
          clear hto hlt hk
          obtain ⟨mm, hmm⟩ : ∃ mm : Nat, manyTo false n n = mm := ⟨_, rfl⟩
          have hmb : mm ≤ 1000 := by rw [← hmm]; unfold manyTo; split <;> omega
          rw [hmm]
          have HMM := hide hmm
          clear hmm hl hcap hR
          have hmI : (mm : Int) ≤ 1000 := by omega
          have hmJ : (0 : Int) ≤ mm := by omega
          clear hmb
          by_cases hs : seq + (mm : Int) ≤ 2147483647
          all_goals rcases failed with _ | _
          all_goals go_wp2_with (first | (go_at_call 72; refine (from_any _ _ _ _).mono ?_; rintro e w' ⟨rfl, rfl⟩) | (go_at_call 73; refine (wait_any _ _).mono ?_; rintro e w' ⟨rfl, rfl⟩))
          all_goals go_ret
          all_goals exact ⟨close _ (by unfold mayRef; simp only [HN.out, HT.out, HMM.out]; (try have n0 := HN0.out); (try have c0 := C0.out); simp [*]; try omega), _, rfl⟩
    · have close := close
      go_enter Try.func42, Try.ntmps42
      go_wp2_with (first | (go_at_call 72; refine (from_any _ _ _ _).mono ?_; rintro e w' ⟨rfl, rfl⟩) | (go_at_call 73; refine (wait_any _ _).mono ?_; rintro e w' ⟨rfl, rfl⟩))
      go_loop [3, 4] (fun m i => ∃ k : Nat, k ≤ n ∧ i = .int .i64 k ∧ m = .int .i64 (manyTo true n k) ∧ Hid (okTo true q k = true)) (fun _ i => n - (intOf i).toNat)
      case atStart => exact ⟨0, by omega, rfl, by rw [show manyTo true n 0 = 0 by unfold manyTo; split <;> omega]; rfl, hide rfl⟩
      case round =>
        obtain ⟨k, hk, rfl, rfl, hto⟩ := hrel
        by_cases hlt : k < n
        · have hkq : k < q.length := by rw [HN.out]; exact hlt
          obtain ⟨b, o, rfl, hb, hc⟩ := Rd.intAt hR hkq
          have HS := hide (okTo_succ true q k hkq hto.out)
          have HB := hide (okTo_bad true q k hkq)
          rw [HN.out] at HS HB
          have hk0 : manyTo true n k = k := by unfold manyTo; rw [if_neg (by omega)]
          rw [hk0]
          clear hk0
          by_cases hlast : k + 1 = n
          · have d1 : ((k : Int) == (n : Int) - 1) = true := by simp; omega
            have hm1 : manyTo true n (k + 1) = k := by unfold manyTo; rw [if_pos ⟨rfl, hlast⟩]; omega
            have HM1 := hide hm1
            have HO : Hid (okAt true n k q[k] = inB q[k] 200 299) := hide (by unfold okAt; rw [if_pos ⟨rfl, hlast⟩])
            clear hm1
            cases he : inB q[k] 200 299
            · go_wp2_with (first | (go_at_call 72; refine (from_any _ _ _ _).mono ?_; rintro e w' ⟨rfl, rfl⟩) | (go_at_call 73; refine (wait_any _ _).mono ?_; rintro e w' ⟨rfl, rfl⟩))
              go_ret
              have hbad : okTo true q q.length = false := by rw [HN.out]; exact HB.out (by rw [HO.out]; exact he)
              exact ⟨close _ (by simp [mayRef, hbad]), _, rfl⟩
            · go_wp2_with (first | (go_at_call 72; refine (from_any _ _ _ _).mono ?_; rintro e w' ⟨rfl, rfl⟩) | (go_at_call 73; refine (wait_any _ _).mono ?_; rintro e w' ⟨rfl, rfl⟩))
              go_round
              case rel => exact ⟨k + 1, by omega, by go_num, by rw [HM1.out]; try rfl, hide (by rw [HS.out, HO.out]; exact he)⟩
              case measure => simp [intOf]; omega
          · have d1 : ((k : Int) == (n : Int) - 1) = false := by simp; omega
            have hm1 : manyTo true n (k + 1) = k + 1 := by unfold manyTo; rw [if_neg (fun e => hlast e.2)]
            have HM1 := hide hm1
            have HO : Hid (okAt true n k q[k] = inB q[k] 101 199) := hide (by unfold okAt; rw [if_neg (fun e => hlast e.2)])
            clear hm1
            cases he : inB q[k] 101 199
            · go_wp2_with (first | (go_at_call 72; refine (from_any _ _ _ _).mono ?_; rintro e w' ⟨rfl, rfl⟩) | (go_at_call 73; refine (wait_any _ _).mono ?_; rintro e w' ⟨rfl, rfl⟩))
              go_ret
              have hbad : okTo true q q.length = false := by rw [HN.out]; exact HB.out (by rw [HO.out]; exact he)
              exact ⟨close _ (by simp [mayRef, hbad]), _, rfl⟩
            · go_wp2_with (first | (go_at_call 72; refine (from_any _ _ _ _).mono ?_; rintro e w' ⟨rfl, rfl⟩) | (go_at_call 73; refine (wait_any _ _).mono ?_; rintro e w' ⟨rfl, rfl⟩))
              go_round
              case rel => exact ⟨k + 1, by omega, by go_num, by rw [HM1.out]; first | rfl | go_num, hide (by rw [HS.out, HO.out]; exact he)⟩
              case measure => simp [intOf]; omega
        · obtain rfl : n = k := by omega
          have HT := hide hto.out
          clear hto hlt hk
          obtain ⟨mm, hmm⟩ : ∃ mm : Nat, manyTo true n n = mm := ⟨_, rfl⟩
          have hmb : mm ≤ 1000 := by rw [← hmm]; unfold manyTo; split <;> omega
          rw [hmm]
          have HMM := hide hmm
          clear hmm hl hcap hR
          have hmI : (mm : Int) ≤ 1000 := by omega
          have hmJ : (0 : Int) ≤ mm := by omega
          clear hmb
          by_cases hs : seq + (mm : Int) ≤ 2147483647
          all_goals rcases failed with _ | _
          all_goals go_wp2_with (first | (go_at_call 72; refine (from_any _ _ _ _).mono ?_; rintro e w' ⟨rfl, rfl⟩) | (go_at_call 73; refine (wait_any _ _).mono ?_; rintro e w' ⟨rfl, rfl⟩))
          all_goals go_ret
          all_goals exact ⟨close _ (by unfold mayRef; simp only [HN.out, HT.out, HMM.out]; (try have n0 := HN0.out); (try have c0 := C0.out); simp [*]; try omega), _, rfl⟩
end Go.Proofs.Ytdllehgiambkcaa.Pv
