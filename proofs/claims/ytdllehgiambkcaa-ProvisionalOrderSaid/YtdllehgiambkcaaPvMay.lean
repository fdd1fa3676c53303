/- The walk of provisional.May. Printed by mk_may18.py. -/
import Derived.Test.YtdllehgiambkcaaPvA
namespace Go.Proofs.Ytdllehgiambkcaa.Pv
open Go.RowKit

theorem Rd.intAt {w : World} {B n : Nat} {A : Option Addr} {q : List Int} (h : Rd w B 1 A n (ints q)) {k : Nat} (hk : k < q.length) : ∃ b o, A = some ⟨b, o, none⟩ ∧ b < B ∧ w.cell? ⟨b, o + k, none⟩ = some (.int .i64 q[k]) := by
  have hl : (ints q).length = n * 1 := h.1
  have hl' : (ints q).length = q.length := List.length_map ..
  obtain ⟨b, o, e, hb, hc⟩ := h.one (k := k) (by omega)
  exact ⟨b, o, e, hb, by rw [hc]; simp [ints, hk]⟩

theorem Rd.intApp {w : World} {B n : Nat} {A : Option Addr} {p s : List Int} (h : Rd w B 1 A n (ints (p ++ s))) {k : Nat} (hk : k < p.length) : ∃ b o, A = some ⟨b, o, none⟩ ∧ b < B ∧ w.cell? ⟨b, o + k, none⟩ = some (.int .i64 p[k]) := by
  obtain ⟨b, o, e, hb, hc⟩ := Rd.intAt h (k := k) (by simp; omega)
  exact ⟨b, o, e, hb, by rw [hc, List.getElem_append_left hk]⟩

theorem allTake (p : List Int) (k : Nat) (hk : k < p.length) (h : (p.take k).all (fun c => inB c 101 199) = true) : (p.take (k + 1)).all (fun c => inB c 101 199) = inB p[k] 101 199 := by
  rw [List.take_succ_eq_append_getElem hk, List.all_append, h]; simp
theorem allNot (p : List Int) (k : Nat) (hk : k < p.length) (h : inB p[k] 101 199 = false) : p.all (fun c => inB c 101 199) = false := by
  rw [List.all_eq_false]
  exact ⟨p[k], List.getElem_mem hk, by simp [h]⟩

theorem pow_in {x : Int} (h : pow x = true) : x = 500 ∨ x = 1000 ∨ x = 2000 ∨ x = 4000 ∨ x = 8000 ∨ x = 16000 ∨ x = 32000 := by
  simp [pow] at h; omega
theorem pow_no {x m y : Int} (_ : -9223372036854775808 ≤ x ∧ x ≤ 9223372036854775807) (hm : wrap64 (x.tdiv 500) = m) (hy : wrap64 (m * 500) = y) (h : x ≠ y ∨ inB m 1 64 = false) : pow x = false := by
  cases hp : pow x
  · rfl
  · exfalso
    rcases pow_in hp with e | e | e | e | e | e | e <;> subst e <;> simp [wrap64] at hm <;> subst hm <;> simp [wrap64] at hy <;> subst hy <;> simp [inB] at h
theorem wait_of {x m y : Int} (hy : wrap64 (m * 500) = y) (h : x = y) (hi : inB m 1 64 = true) : 1 ≤ m ∧ m ≤ 64 ∧ x = 500 * m := by
  simp [inB] at hi
  refine ⟨hi.1, hi.2, ?_⟩
  rw [h, ← hy]
  unfold wrap64
  omega
theorem pow_and {m : Int} (h1 : 1 ≤ m) (h2 : m ≤ 64) : (bits BinOp.and IntKind.i64 m (m - 1) == 0) = pow (500 * m) := by
  have key : ∀ k : Nat, k < 64 → (bits BinOp.and IntKind.i64 ((k : Int) + 1) ((k : Int) + 1 - 1) == 0) = pow (500 * ((k : Int) + 1)) := by decide +kernel
  have := key (m - 1).toNat (by omega)
  rwa [show (((m - 1).toNat : Int) + 1) = m by omega] at this

set_option maxRecDepth 100000 in
set_option maxHeartbeats 8000000 in
theorem may_any (r : R) (A : Option Addr) (cap : Nat) (w : World) (hR : Rd w w.heap.size 1 A r.q.length (ints r.q)) (hl : r.q.length ≤ 1000) (hcap : r.q.length ≤ cap)
    (hw : -9223372036854775808 ≤ r.wait ∧ r.wait ≤ 9223372036854775807) :
    Calls Try.prog 29 #[.agg #[.int .i64 r.seq, .int .i64 r.code, .int .i64 r.wait, .slice A r.q.length cap, .bool r.fin, .bool r.failed]] w fun e w' => e = .returned (.bool (may r)) ∧ ∃ cs, w' = w.alloc (.cells cs 61) := by
  obtain ⟨seq, code, wait, q, fin, failed⟩ := r
  simp only at *
  have HW := hide hw; clear hw
  have hcs : (fin = true ∧ ∃ p x, q = p ++ [x]) ∨ fin = false ∨ (fin = true ∧ q = []) := by
    cases fin
    · exact Or.inr (Or.inl rfl)
    · rcases List.eq_nil_or_concat q with e | ⟨p, x, e⟩
      · exact Or.inr (Or.inr ⟨rfl, e⟩)
      · exact Or.inl ⟨rfl, p, x, by rw [e, List.concat_eq_append]⟩
  rcases hcs with ⟨rfl, p, x, rfl⟩ | rfl | ⟨rfl, h0⟩
  · have HM : Hid (may ⟨seq, code, wait, p ++ [x], true, failed⟩ = (inB x 200 299 && mayTail ⟨seq, code, wait, p ++ [x], true, failed⟩ p)) := hide (by simp [may, List.getLastD_eq_getLast?])
    have hla : (p ++ [x]).length = p.length + 1 := by simp
    obtain ⟨b, o, rfl, hb, hc⟩ := Rd.intAt hR (k := p.length) (by simp)
    rw [List.getElem_append_right (Nat.le_refl _)] at hc
    simp only [Nat.sub_self, List.getElem_cons_zero] at hc
    rw [hla] at hR hl hcap ⊢
    obtain ⟨n, hn⟩ : ∃ n, p.length = n := ⟨_, rfl⟩
    have hq := hide hn
    rw [hn] at hR hl hcap hc hla ⊢
    have HN := hide hla
    clear hla hn
    cases ha0 : inB x 200 299
    · go_enter Try.func29, Try.ntmps29
      go_wp2_with (go_at_call 62; refine (accepting_any _ _).mono ?_; rintro e w' ⟨rfl, rfl⟩)
      go_ret
      exact ⟨ret_bool (by rw [HM.out, ha0]; rfl), _, rfl⟩
    · rw [ha0, Bool.true_and] at HM
      go_enter Try.func29, Try.ntmps29
      go_wp2_with (go_at_call 62; refine (accepting_any _ _).mono ?_; rintro e w' ⟨rfl, rfl⟩)
      clear ha0 hc hb
      go_loop [31] (fun i => ∃ k : Nat, k ≤ n ∧ i = .int .i64 k ∧ Hid ((p.take k).all (fun c => inB c 101 199) = true)) (fun i => n - (intOf i).toNat)
      case atStart => exact ⟨0, by omega, rfl, hide (by simp)⟩
      case round =>
        obtain ⟨k, hk, rfl, ha⟩ := hrel
        by_cases hlt : k < n
        · have hkp : k < p.length := by rw [hq.out]; exact hlt
          obtain ⟨b', o', hA, hb', hc'⟩ := Rd.intApp hR hkp
          injection hA with hA; injection hA with e1 e2; subst e1 e2
          cases he : inB p[k] 101 199
          · go_wp2_with (first | (go_at_call 54; refine (early_any _ _).mono ?_; rintro e w' ⟨rfl, rfl⟩) | (go_at_call 49; refine (within_any _ _ _ _).mono ?_; rintro e w' ⟨rfl, rfl⟩))
            go_ret
            exact ⟨ret_bool (by rw [HM.out]; simp [mayTail, allNot p k hkp he]), _, rfl⟩
          · go_wp2_with (first | (go_at_call 54; refine (early_any _ _).mono ?_; rintro e w' ⟨rfl, rfl⟩) | (go_at_call 49; refine (within_any _ _ _ _).mono ?_; rintro e w' ⟨rfl, rfl⟩))
            go_round
            case rel => exact ⟨k + 1, by omega, by go_num, hide (by rw [allTake p k hkp ha.out]; exact he)⟩
            case measure => simp [intOf]; omega
        · obtain rfl : n = k := by omega
          have ha' := hide (Eq.trans (by rw [List.take_of_length_le (by rw [hq.out]; exact Nat.le_refl _)]) ha.out : p.all (fun c => inB c 101 199) = true)
          clear ha hk hlt
          have ha := ha'
          clear ha'
          have i1 : (n : Int) ≤ 1001 := by omega
          have i2 : (0 : Int) ≤ n := by omega
          clear hl hcap hR
          cases hb : inB seq 0 (2147483647 - (n : Int))
          · go_wp2_with (first | (go_at_call 54; refine (early_any _ _).mono ?_; rintro e w' ⟨rfl, rfl⟩) | (go_at_call 49; refine (within_any _ _ _ _).mono ?_; rintro e w' ⟨rfl, rfl⟩))
            go_ret
            exact ⟨ret_bool (by rw [HM.out]; simp [mayTail, ha.out, hq.out, HN.out, *]; try omega), _, rfl⟩
          by_cases h16 : n + 1 ≤ 16
          rotate_left
          · go_wp2_with (first | (go_at_call 54; refine (early_any _ _).mono ?_; rintro e w' ⟨rfl, rfl⟩) | (go_at_call 49; refine (within_any _ _ _ _).mono ?_; rintro e w' ⟨rfl, rfl⟩))
            go_ret
            exact ⟨ret_bool (by rw [HM.out]; simp [mayTail, ha.out, hq.out, HN.out, *]; try omega), _, rfl⟩
          rcases failed with _ | _
          all_goals by_cases hc0 : code = 0
          · subst hc0
            by_cases hw0 : wait = 0
            · subst hw0
              · have dn : ((n : Int) + 1 == 0) = false := by simp; omega
                go_wp2_with (first | (go_at_call 54; refine (early_any _ _).mono ?_; rintro e w' ⟨rfl, rfl⟩) | (go_at_call 49; refine (within_any _ _ _ _).mono ?_; rintro e w' ⟨rfl, rfl⟩))
                go_ret
                exact ⟨ret_bool (by rw [HM.out]; simp [mayTail, ha.out, hq.out, HN.out, *]; try omega), _, rfl⟩
            · have dw : (wait == 0) = false := by simp [hw0]
              go_wp2_with (first | (go_at_call 54; refine (early_any _ _).mono ?_; rintro e w' ⟨rfl, rfl⟩) | (go_at_call 49; refine (within_any _ _ _ _).mono ?_; rintro e w' ⟨rfl, rfl⟩))
              go_ret
              exact ⟨ret_bool (by rw [HM.out]; simp [mayTail, ha.out, hq.out, HN.out, *]; try omega), _, rfl⟩
          · have d1 : (code == 0) = false := by simp [hc0]
            have HC0 := hide hc0
            clear hc0
            cases he : inB code 101 199
            · go_wp2_with (first | (go_at_call 54; refine (early_any _ _).mono ?_; rintro e w' ⟨rfl, rfl⟩) | (go_at_call 49; refine (within_any _ _ _ _).mono ?_; rintro e w' ⟨rfl, rfl⟩))
              go_ret
              exact ⟨ret_bool (by rw [HM.out]; have hc0 := HC0.out; simp [mayTail, ha.out, hq.out, HN.out, *]; try omega), _, rfl⟩
            by_cases hs : 0 < seq
            rotate_left
            · go_wp2_with (first | (go_at_call 54; refine (early_any _ _).mono ?_; rintro e w' ⟨rfl, rfl⟩) | (go_at_call 49; refine (within_any _ _ _ _).mono ?_; rintro e w' ⟨rfl, rfl⟩))
              go_ret
              exact ⟨ret_bool (by rw [HM.out]; have hc0 := HC0.out; simp [mayTail, ha.out, hq.out, HN.out, *]; try omega), _, rfl⟩
            obtain ⟨m, hm⟩ : ∃ m, wrap64 (wait.tdiv 500) = m := ⟨_, rfl⟩
            obtain ⟨y, hy⟩ : ∃ y, wrap64 (m * 500) = y := ⟨_, rfl⟩
            have HY := hide (And.intro hm hy)
            cases hz : (wait == y)
            · go_wp2_with (first | (go_at_call 54; refine (early_any _ _).mono ?_; rintro e w' ⟨rfl, rfl⟩) | (go_at_call 49; refine (within_any _ _ _ _).mono ?_; rintro e w' ⟨rfl, rfl⟩))
              go_ret
              have hp := pow_no HW.out HY.out.1 HY.out.2 (Or.inl (by simpa using hz))
              exact ⟨ret_bool (by rw [HM.out]; have hc0 := HC0.out; simp [mayTail, ha.out, hq.out, HN.out, *]; try omega), _, rfl⟩
            cases hi : inB m 1 64
            · go_wp2_with (first | (go_at_call 54; refine (early_any _ _).mono ?_; rintro e w' ⟨rfl, rfl⟩) | (go_at_call 49; refine (within_any _ _ _ _).mono ?_; rintro e w' ⟨rfl, rfl⟩))
              go_ret
              have hp := pow_no HW.out HY.out.1 HY.out.2 (Or.inr hi)
              exact ⟨ret_bool (by rw [HM.out]; have hc0 := HC0.out; simp [mayTail, ha.out, hq.out, HN.out, *]; try omega), _, rfl⟩
            obtain ⟨hm1, hm2, rfl⟩ : 1 ≤ m ∧ m ≤ 64 ∧ wait = 500 * m := wait_of HY.out.2 (by simpa using hz) hi
            clear hm hy hz HY HW
            have z : (500 * m == m * 500) = true := by simp; omega
            go_wp2_with (first | (go_at_call 54; refine (early_any _ _).mono ?_; rintro e w' ⟨rfl, rfl⟩) | (go_at_call 49; refine (within_any _ _ _ _).mono ?_; rintro e w' ⟨rfl, rfl⟩))
            go_ret
            have hp := pow_and hm1 hm2
            exact ⟨ret_bool (by rw [HM.out]; have hc0 := HC0.out; simp [mayTail, ha.out, hq.out, HN.out, *]; try omega), _, rfl⟩
          · subst hc0
            by_cases hw0 : wait = 0
            · subst hw0
              · have dn : ((n : Int) + 1 == 0) = false := by simp; omega
                go_wp2_with (first | (go_at_call 54; refine (early_any _ _).mono ?_; rintro e w' ⟨rfl, rfl⟩) | (go_at_call 49; refine (within_any _ _ _ _).mono ?_; rintro e w' ⟨rfl, rfl⟩))
                go_ret
                exact ⟨ret_bool (by rw [HM.out]; simp [mayTail, ha.out, hq.out, HN.out, *]; try omega), _, rfl⟩
            · have dw : (wait == 0) = false := by simp [hw0]
              go_wp2_with (first | (go_at_call 54; refine (early_any _ _).mono ?_; rintro e w' ⟨rfl, rfl⟩) | (go_at_call 49; refine (within_any _ _ _ _).mono ?_; rintro e w' ⟨rfl, rfl⟩))
              go_ret
              exact ⟨ret_bool (by rw [HM.out]; simp [mayTail, ha.out, hq.out, HN.out, *]; try omega), _, rfl⟩
          · have d1 : (code == 0) = false := by simp [hc0]
            go_wp2_with (first | (go_at_call 54; refine (early_any _ _).mono ?_; rintro e w' ⟨rfl, rfl⟩) | (go_at_call 49; refine (within_any _ _ _ _).mono ?_; rintro e w' ⟨rfl, rfl⟩))
            go_ret
            exact ⟨ret_bool (by rw [HM.out]; simp [mayTail, ha.out, hq.out, HN.out, *]; try omega), _, rfl⟩
  · have HM : Hid (may ⟨seq, code, wait, q, false, failed⟩ = mayTail ⟨seq, code, wait, q, false, failed⟩ q) := hide (by simp [may])
    obtain ⟨n, hn⟩ : ∃ n, q.length = n := ⟨_, rfl⟩
    have HN := hide hn
    have hq := hide hn
    rw [hn] at hR hl hcap ⊢
    clear hn
    go_enter Try.func29, Try.ntmps29
    go_wp2
    go_loop [31] (fun i => ∃ k : Nat, k ≤ n ∧ i = .int .i64 k ∧ Hid ((q.take k).all (fun c => inB c 101 199) = true)) (fun i => n - (intOf i).toNat)
    case atStart => exact ⟨0, by omega, rfl, hide (by simp)⟩
    case round =>
      obtain ⟨k, hk, rfl, ha⟩ := hrel
      by_cases hlt : k < n
      · have hkp : k < q.length := by rw [hq.out]; exact hlt
        obtain ⟨b', o', hA, hb', hc'⟩ := Rd.intAt hR hkp
        subst hA
        cases he : inB q[k] 101 199
        · go_wp2_with (first | (go_at_call 54; refine (early_any _ _).mono ?_; rintro e w' ⟨rfl, rfl⟩) | (go_at_call 49; refine (within_any _ _ _ _).mono ?_; rintro e w' ⟨rfl, rfl⟩))
          go_ret
          exact ⟨ret_bool (by rw [HM.out]; simp [mayTail, allNot q k hkp he]), _, rfl⟩
        · go_wp2_with (first | (go_at_call 54; refine (early_any _ _).mono ?_; rintro e w' ⟨rfl, rfl⟩) | (go_at_call 49; refine (within_any _ _ _ _).mono ?_; rintro e w' ⟨rfl, rfl⟩))
          go_round
          case rel => exact ⟨k + 1, by omega, by go_num, hide (by rw [allTake q k hkp ha.out]; exact he)⟩
          case measure => simp [intOf]; omega
      · obtain rfl : n = k := by omega
        have ha' := hide (Eq.trans (by rw [List.take_of_length_le (by rw [hq.out]; exact Nat.le_refl _)]) ha.out : q.all (fun c => inB c 101 199) = true)
        clear ha hk hlt
        have ha := ha'
        clear ha'
        have i1 : (n : Int) ≤ 1001 := by omega
        have i2 : (0 : Int) ≤ n := by omega
        clear hl hcap hR
        cases hb : inB seq 0 (2147483647 - (n : Int))
        · go_wp2_with (first | (go_at_call 54; refine (early_any _ _).mono ?_; rintro e w' ⟨rfl, rfl⟩) | (go_at_call 49; refine (within_any _ _ _ _).mono ?_; rintro e w' ⟨rfl, rfl⟩))
          go_ret
          exact ⟨ret_bool (by rw [HM.out]; simp [mayTail, ha.out, hq.out, *]; try omega), _, rfl⟩
        by_cases h16 : n ≤ 16
        rotate_left
        · go_wp2_with (first | (go_at_call 54; refine (early_any _ _).mono ?_; rintro e w' ⟨rfl, rfl⟩) | (go_at_call 49; refine (within_any _ _ _ _).mono ?_; rintro e w' ⟨rfl, rfl⟩))
          go_ret
          exact ⟨ret_bool (by rw [HM.out]; simp [mayTail, ha.out, hq.out, *]; try omega), _, rfl⟩
        rcases failed with _ | _
        all_goals by_cases hc0 : code = 0
        · subst hc0
          by_cases hw0 : wait = 0
          · subst hw0
            by_cases hn0 : n = 0
            · subst hn0
              go_wp2_with (first | (go_at_call 54; refine (early_any _ _).mono ?_; rintro e w' ⟨rfl, rfl⟩) | (go_at_call 49; refine (within_any _ _ _ _).mono ?_; rintro e w' ⟨rfl, rfl⟩))
              go_ret
              exact ⟨ret_bool (by rw [HM.out]; simp [mayTail, ha.out, hq.out, *]; try omega), _, rfl⟩
            · have dn : ((n : Int) == 0) = false := by simp; omega
              go_wp2_with (first | (go_at_call 54; refine (early_any _ _).mono ?_; rintro e w' ⟨rfl, rfl⟩) | (go_at_call 49; refine (within_any _ _ _ _).mono ?_; rintro e w' ⟨rfl, rfl⟩))
              go_ret
              exact ⟨ret_bool (by rw [HM.out]; simp [mayTail, ha.out, hq.out, *]; try omega), _, rfl⟩
          · have dw : (wait == 0) = false := by simp [hw0]
            go_wp2_with (first | (go_at_call 54; refine (early_any _ _).mono ?_; rintro e w' ⟨rfl, rfl⟩) | (go_at_call 49; refine (within_any _ _ _ _).mono ?_; rintro e w' ⟨rfl, rfl⟩))
            go_ret
            exact ⟨ret_bool (by rw [HM.out]; simp [mayTail, ha.out, hq.out, *]; try omega), _, rfl⟩
        · have d1 : (code == 0) = false := by simp [hc0]
          have HC0 := hide hc0
          clear hc0
          cases he : inB code 101 199
          · go_wp2_with (first | (go_at_call 54; refine (early_any _ _).mono ?_; rintro e w' ⟨rfl, rfl⟩) | (go_at_call 49; refine (within_any _ _ _ _).mono ?_; rintro e w' ⟨rfl, rfl⟩))
            go_ret
            exact ⟨ret_bool (by rw [HM.out]; have hc0 := HC0.out; simp [mayTail, ha.out, hq.out, *]; try omega), _, rfl⟩
          by_cases hs : 0 < seq
          rotate_left
          · go_wp2_with (first | (go_at_call 54; refine (early_any _ _).mono ?_; rintro e w' ⟨rfl, rfl⟩) | (go_at_call 49; refine (within_any _ _ _ _).mono ?_; rintro e w' ⟨rfl, rfl⟩))
            go_ret
            exact ⟨ret_bool (by rw [HM.out]; have hc0 := HC0.out; simp [mayTail, ha.out, hq.out, *]; try omega), _, rfl⟩
          obtain ⟨m, hm⟩ : ∃ m, wrap64 (wait.tdiv 500) = m := ⟨_, rfl⟩
          obtain ⟨y, hy⟩ : ∃ y, wrap64 (m * 500) = y := ⟨_, rfl⟩
          have HY := hide (And.intro hm hy)
          cases hz : (wait == y)
          · go_wp2_with (first | (go_at_call 54; refine (early_any _ _).mono ?_; rintro e w' ⟨rfl, rfl⟩) | (go_at_call 49; refine (within_any _ _ _ _).mono ?_; rintro e w' ⟨rfl, rfl⟩))
            go_ret
            have hp := pow_no HW.out HY.out.1 HY.out.2 (Or.inl (by simpa using hz))
            exact ⟨ret_bool (by rw [HM.out]; have hc0 := HC0.out; simp [mayTail, ha.out, hq.out, *]; try omega), _, rfl⟩
          cases hi : inB m 1 64
          · go_wp2_with (first | (go_at_call 54; refine (early_any _ _).mono ?_; rintro e w' ⟨rfl, rfl⟩) | (go_at_call 49; refine (within_any _ _ _ _).mono ?_; rintro e w' ⟨rfl, rfl⟩))
            go_ret
            have hp := pow_no HW.out HY.out.1 HY.out.2 (Or.inr hi)
            exact ⟨ret_bool (by rw [HM.out]; have hc0 := HC0.out; simp [mayTail, ha.out, hq.out, *]; try omega), _, rfl⟩
          obtain ⟨hm1, hm2, rfl⟩ : 1 ≤ m ∧ m ≤ 64 ∧ wait = 500 * m := wait_of HY.out.2 (by simpa using hz) hi
          clear hm hy hz HY HW
          have z : (500 * m == m * 500) = true := by simp; omega
          go_wp2_with (first | (go_at_call 54; refine (early_any _ _).mono ?_; rintro e w' ⟨rfl, rfl⟩) | (go_at_call 49; refine (within_any _ _ _ _).mono ?_; rintro e w' ⟨rfl, rfl⟩))
          go_ret
          have hp := pow_and hm1 hm2
          exact ⟨ret_bool (by rw [HM.out]; have hc0 := HC0.out; simp [mayTail, ha.out, hq.out, *]; try omega), _, rfl⟩
        · subst hc0
          go_wp2_with (first | (go_at_call 54; refine (early_any _ _).mono ?_; rintro e w' ⟨rfl, rfl⟩) | (go_at_call 49; refine (within_any _ _ _ _).mono ?_; rintro e w' ⟨rfl, rfl⟩))
          go_ret
          exact ⟨ret_bool (by rw [HM.out]; simp [mayTail, ha.out, hq.out, *]; try omega), _, rfl⟩
        · have d1 : (code == 0) = false := by simp [hc0]
          go_wp2_with (first | (go_at_call 54; refine (early_any _ _).mono ?_; rintro e w' ⟨rfl, rfl⟩) | (go_at_call 49; refine (within_any _ _ _ _).mono ?_; rintro e w' ⟨rfl, rfl⟩))
          go_ret
          exact ⟨ret_bool (by rw [HM.out]; simp [mayTail, ha.out, hq.out, *]; try omega), _, rfl⟩
  · have HM : Hid (may ⟨seq, code, wait, q, true, failed⟩ = mayTail ⟨seq, code, wait, q, true, failed⟩ q) := hide (by simp [may, h0])
    obtain ⟨n, hn⟩ : ∃ n, q.length = n := ⟨_, rfl⟩
    have HN := hide hn
    have hq := hide hn
    have dq : decide (0 < n) = false := by rw [← hn, h0]; rfl
    rw [hn] at hR hl hcap ⊢
    clear hn h0
    go_enter Try.func29, Try.ntmps29
    go_wp2
    clear dq
    go_loop [31] (fun i => ∃ k : Nat, k ≤ n ∧ i = .int .i64 k ∧ Hid ((q.take k).all (fun c => inB c 101 199) = true)) (fun i => n - (intOf i).toNat)
    case atStart => exact ⟨0, by omega, rfl, hide (by simp)⟩
    case round =>
      obtain ⟨k, hk, rfl, ha⟩ := hrel
      by_cases hlt : k < n
      · have hkp : k < q.length := by rw [hq.out]; exact hlt
        obtain ⟨b', o', hA, hb', hc'⟩ := Rd.intAt hR hkp
        subst hA
        cases he : inB q[k] 101 199
        · go_wp2_with (first | (go_at_call 54; refine (early_any _ _).mono ?_; rintro e w' ⟨rfl, rfl⟩) | (go_at_call 49; refine (within_any _ _ _ _).mono ?_; rintro e w' ⟨rfl, rfl⟩))
          go_ret
          exact ⟨ret_bool (by rw [HM.out]; simp [mayTail, allNot q k hkp he]), _, rfl⟩
        · go_wp2_with (first | (go_at_call 54; refine (early_any _ _).mono ?_; rintro e w' ⟨rfl, rfl⟩) | (go_at_call 49; refine (within_any _ _ _ _).mono ?_; rintro e w' ⟨rfl, rfl⟩))
          go_round
          case rel => exact ⟨k + 1, by omega, by go_num, hide (by rw [allTake q k hkp ha.out]; exact he)⟩
          case measure => simp [intOf]; omega
      · obtain rfl : n = k := by omega
        have ha' := hide (Eq.trans (by rw [List.take_of_length_le (by rw [hq.out]; exact Nat.le_refl _)]) ha.out : q.all (fun c => inB c 101 199) = true)
        clear ha hk hlt
        have ha := ha'
        clear ha'
        have i1 : (n : Int) ≤ 1001 := by omega
        have i2 : (0 : Int) ≤ n := by omega
        clear hl hcap hR
        cases hb : inB seq 0 (2147483647 - (n : Int))
        · go_wp2_with (first | (go_at_call 54; refine (early_any _ _).mono ?_; rintro e w' ⟨rfl, rfl⟩) | (go_at_call 49; refine (within_any _ _ _ _).mono ?_; rintro e w' ⟨rfl, rfl⟩))
          go_ret
          exact ⟨ret_bool (by rw [HM.out]; simp [mayTail, ha.out, hq.out, *]; try omega), _, rfl⟩
        by_cases h16 : n ≤ 16
        rotate_left
        · go_wp2_with (first | (go_at_call 54; refine (early_any _ _).mono ?_; rintro e w' ⟨rfl, rfl⟩) | (go_at_call 49; refine (within_any _ _ _ _).mono ?_; rintro e w' ⟨rfl, rfl⟩))
          go_ret
          exact ⟨ret_bool (by rw [HM.out]; simp [mayTail, ha.out, hq.out, *]; try omega), _, rfl⟩
        rcases failed with _ | _
        all_goals by_cases hc0 : code = 0
        · subst hc0
          by_cases hw0 : wait = 0
          · subst hw0
            by_cases hn0 : n = 0
            · subst hn0
              go_wp2_with (first | (go_at_call 54; refine (early_any _ _).mono ?_; rintro e w' ⟨rfl, rfl⟩) | (go_at_call 49; refine (within_any _ _ _ _).mono ?_; rintro e w' ⟨rfl, rfl⟩))
              go_ret
              exact ⟨ret_bool (by rw [HM.out]; simp [mayTail, ha.out, hq.out, *]; try omega), _, rfl⟩
            · have dn : ((n : Int) == 0) = false := by simp; omega
              go_wp2_with (first | (go_at_call 54; refine (early_any _ _).mono ?_; rintro e w' ⟨rfl, rfl⟩) | (go_at_call 49; refine (within_any _ _ _ _).mono ?_; rintro e w' ⟨rfl, rfl⟩))
              go_ret
              exact ⟨ret_bool (by rw [HM.out]; simp [mayTail, ha.out, hq.out, *]; try omega), _, rfl⟩
          · have dw : (wait == 0) = false := by simp [hw0]
            go_wp2_with (first | (go_at_call 54; refine (early_any _ _).mono ?_; rintro e w' ⟨rfl, rfl⟩) | (go_at_call 49; refine (within_any _ _ _ _).mono ?_; rintro e w' ⟨rfl, rfl⟩))
            go_ret
            exact ⟨ret_bool (by rw [HM.out]; simp [mayTail, ha.out, hq.out, *]; try omega), _, rfl⟩
        · have d1 : (code == 0) = false := by simp [hc0]
          have HC0 := hide hc0
          clear hc0
          cases he : inB code 101 199
          · go_wp2_with (first | (go_at_call 54; refine (early_any _ _).mono ?_; rintro e w' ⟨rfl, rfl⟩) | (go_at_call 49; refine (within_any _ _ _ _).mono ?_; rintro e w' ⟨rfl, rfl⟩))
            go_ret
            exact ⟨ret_bool (by rw [HM.out]; have hc0 := HC0.out; simp [mayTail, ha.out, hq.out, *]; try omega), _, rfl⟩
          by_cases hs : 0 < seq
          rotate_left
          · go_wp2_with (first | (go_at_call 54; refine (early_any _ _).mono ?_; rintro e w' ⟨rfl, rfl⟩) | (go_at_call 49; refine (within_any _ _ _ _).mono ?_; rintro e w' ⟨rfl, rfl⟩))
            go_ret
            exact ⟨ret_bool (by rw [HM.out]; have hc0 := HC0.out; simp [mayTail, ha.out, hq.out, *]; try omega), _, rfl⟩
          obtain ⟨m, hm⟩ : ∃ m, wrap64 (wait.tdiv 500) = m := ⟨_, rfl⟩
          obtain ⟨y, hy⟩ : ∃ y, wrap64 (m * 500) = y := ⟨_, rfl⟩
          have HY := hide (And.intro hm hy)
          cases hz : (wait == y)
          · go_wp2_with (first | (go_at_call 54; refine (early_any _ _).mono ?_; rintro e w' ⟨rfl, rfl⟩) | (go_at_call 49; refine (within_any _ _ _ _).mono ?_; rintro e w' ⟨rfl, rfl⟩))
            go_ret
            have hp := pow_no HW.out HY.out.1 HY.out.2 (Or.inl (by simpa using hz))
            exact ⟨ret_bool (by rw [HM.out]; have hc0 := HC0.out; simp [mayTail, ha.out, hq.out, *]; try omega), _, rfl⟩
          cases hi : inB m 1 64
          · go_wp2_with (first | (go_at_call 54; refine (early_any _ _).mono ?_; rintro e w' ⟨rfl, rfl⟩) | (go_at_call 49; refine (within_any _ _ _ _).mono ?_; rintro e w' ⟨rfl, rfl⟩))
            go_ret
            have hp := pow_no HW.out HY.out.1 HY.out.2 (Or.inr hi)
            exact ⟨ret_bool (by rw [HM.out]; have hc0 := HC0.out; simp [mayTail, ha.out, hq.out, *]; try omega), _, rfl⟩
          obtain ⟨hm1, hm2, rfl⟩ : 1 ≤ m ∧ m ≤ 64 ∧ wait = 500 * m := wait_of HY.out.2 (by simpa using hz) hi
          clear hm hy hz HY HW
          have z : (500 * m == m * 500) = true := by simp; omega
          go_wp2_with (first | (go_at_call 54; refine (early_any _ _).mono ?_; rintro e w' ⟨rfl, rfl⟩) | (go_at_call 49; refine (within_any _ _ _ _).mono ?_; rintro e w' ⟨rfl, rfl⟩))
          go_ret
          have hp := pow_and hm1 hm2
          exact ⟨ret_bool (by rw [HM.out]; have hc0 := HC0.out; simp [mayTail, ha.out, hq.out, *]; try omega), _, rfl⟩
        · subst hc0
          by_cases hw0 : wait = 0
          · subst hw0
            by_cases hn0 : n = 0
            · subst hn0
              go_wp2_with (first | (go_at_call 54; refine (early_any _ _).mono ?_; rintro e w' ⟨rfl, rfl⟩) | (go_at_call 49; refine (within_any _ _ _ _).mono ?_; rintro e w' ⟨rfl, rfl⟩))
              go_ret
              exact ⟨ret_bool (by rw [HM.out]; simp [mayTail, ha.out, hq.out, *]; try omega), _, rfl⟩
            · have dn : ((n : Int) == 0) = false := by simp; omega
              go_wp2_with (first | (go_at_call 54; refine (early_any _ _).mono ?_; rintro e w' ⟨rfl, rfl⟩) | (go_at_call 49; refine (within_any _ _ _ _).mono ?_; rintro e w' ⟨rfl, rfl⟩))
              go_ret
              exact ⟨ret_bool (by rw [HM.out]; simp [mayTail, ha.out, hq.out, *]; try omega), _, rfl⟩
          · have dw : (wait == 0) = false := by simp [hw0]
            go_wp2_with (first | (go_at_call 54; refine (early_any _ _).mono ?_; rintro e w' ⟨rfl, rfl⟩) | (go_at_call 49; refine (within_any _ _ _ _).mono ?_; rintro e w' ⟨rfl, rfl⟩))
            go_ret
            exact ⟨ret_bool (by rw [HM.out]; simp [mayTail, ha.out, hq.out, *]; try omega), _, rfl⟩
        · have d1 : (code == 0) = false := by simp [hc0]
          go_wp2_with (first | (go_at_call 54; refine (early_any _ _).mono ?_; rintro e w' ⟨rfl, rfl⟩) | (go_at_call 49; refine (within_any _ _ _ _).mono ?_; rintro e w' ⟨rfl, rfl⟩))
          go_ret
          exact ⟨ret_bool (by rw [HM.out]; simp [mayTail, ha.out, hq.out, *]; try omega), _, rfl⟩
end Go.Proofs.Ytdllehgiambkcaa.Pv
