/- The walks of (*sim).count and (*sim).closed. -/
import Derived.Test.YtdllehgiambkcaaSvUntil
namespace Go.Proofs.Ytdllehgiambkcaa.Sv
open Go.RowKit

theorem cellsE {w : World} {B : Nat} {A : Option Addr} {l : List E} (h : Rd w B 5 A l.length (l.flatMap E.cs)) {k : Nat} (hk : k < l.length) :
    ∃ b o, A = some ⟨b, o, none⟩ ∧ b < B ∧ w.cell? ⟨b, o + k * 5, none⟩ = some (.int .i64 l[k].at_) ∧ w.cell? ⟨b, o + k * 5 + 1, none⟩ = some (.int .u8 l[k].out.kind) ∧ w.cell? ⟨b, o + k * 5 + 2, none⟩ = some (.int .i64 l[k].out.code) ∧ w.cell? ⟨b, o + k * 5 + 3, none⟩ = some (.int .u8 l[k].out.timer) ∧ w.cell? ⟨b, o + k * 5 + 4, none⟩ = some (.int .i64 l[k].out.after) := by
  obtain ⟨b, o, e, hb, hc⟩ := h.at hk
  have hf := fun j hj => flat_get E.cs 5 E.cs_len l k j hk hj
  exact ⟨b, o, e, hb, hc 0 _ (by rw [hf 0 (by omega)]; rfl), hc 1 _ (by rw [hf 1 (by omega)]; rfl), hc 2 _ (by rw [hf 2 (by omega)]; rfl), hc 3 _ (by rw [hf 3 (by omega)]; rfl), hc 4 _ (by rw [hf 4 (by omega)]; rfl)⟩

/-- An output counts: its kind, its time, its code. -/
def E.hit (k u lo hi : Int) (e : E) : Bool := decide (e.out.kind = k) && decide (e.at_ ≤ u) && decide (lo ≤ e.out.code) && decide (e.out.code ≤ hi)
def cnt (l : List E) (k u lo hi : Int) : Nat := l.countP (E.hit k u lo hi)
theorem cnt_snoc (l : List E) (k u lo hi : Int) (j : Nat) (hj : j < l.length) : cnt (l.take (j + 1)) k u lo hi = cnt (l.take j) k u lo hi + if l[j].hit k u lo hi then 1 else 0 := by
  unfold cnt
  rw [List.take_succ_eq_append_getElem hj, List.countP_append]
  simp [List.countP_cons]
theorem cnt_le (l : List E) (k u lo hi : Int) : cnt l k u lo hi ≤ l.length := List.countP_le_length

set_option maxRecDepth 10000 in
set_option maxHeartbeats 4000000 in
theorem count_any (g base : Nat) (S : Sim) (v : Value) (w : World) (h : SimAt w g base S v) (k u lo hi : Int) (hlog : S.log.length ≤ 1000000) :
    Calls Try.prog 23 #[.pointer (some ⟨g, 0, none⟩), .int .u8 k, .int .i64 u, .int .i64 lo, .int .i64 hi] w fun e w' => e = .returned (.int .i64 (cnt S.log k u lo hi)) ∧ w' = w := by
  obtain ⟨y1, y2, -, -, -, y3, y4, y5, y6, y7, y8, y9⟩ := id h
  obtain ⟨A, cp, rfl, -, hR⟩ := own_slice y8
  go_enter Try.func23, Try.ntmps23
  go_wp2_with fail
  go_loopw [11, 12] (fun n i wr => ∃ (j : Nat), j ≤ S.log.length ∧ i = .int .i64 j ∧ n = .int .i64 (cnt (S.log.take j) k u lo hi) ∧ wr = w) (fun _ i _ => S.log.length - (intOf i).toNat)
  case atStart => exact ⟨0, by omega, rfl, rfl, rfl⟩
  case round =>
    obtain ⟨j, hj, rfl, rfl, rfl⟩ := hrel
    have hcl := cnt_le (S.log.take j) k u lo hi
    have hcl2 : (S.log.take j).length ≤ 1000000 := by simp; omega
    by_cases hlt : j < S.log.length
    · obtain ⟨b, o, rfl, hb, c0, c1, c2, c3, c4⟩ := cellsE hR hlt
      have hsn := cnt_snoc S.log k u lo hi j hlt
      unfold E.hit at hsn
      generalize cnt (S.log.take j) k u lo hi = q at *
      generalize hn' : cnt (S.log.take (j + 1)) k u lo hi = q' at *
      generalize S.log[j].out.kind = e1 at *
      generalize S.log[j].at_ = e0 at *
      generalize S.log[j].out.code = e2 at *
      by_cases a1 : e1 = k
      · have d1 : (e1 == k) = true := by simp [a1]
        by_cases a2 : e0 ≤ u
        · have d2 : decide (e0 ≤ u) = true := by simp [a2]
          by_cases a3 : lo ≤ e2
          · have d3 : decide (lo ≤ e2) = true := by simp [a3]
            by_cases a4 : e2 ≤ hi
            · have d4 : decide (e2 ≤ hi) = true := by simp [a4]
              go_wp2_with fail
              go_roundw
              case rel => exact ⟨j + 1, by omega, by simp, by rw [hn', hsn]; simp [a1, a2, a3, a4], trivial⟩
              case measure => simp [intOf]; omega
            · have d4 : decide (e2 ≤ hi) = false := by simp; omega
              go_wp2_with fail
              go_roundw
              case rel => exact ⟨j + 1, by omega, by simp, by rw [hn', hsn]; simp [a1, a2, a3, a4], trivial⟩
              case measure => simp [intOf]; omega
          · have d3 : decide (lo ≤ e2) = false := by simp; omega
            go_wp2_with fail
            go_roundw
            case rel => exact ⟨j + 1, by omega, by simp, by rw [hn', hsn]; simp [a1, a2, a3], trivial⟩
            case measure => simp [intOf]; omega
        · have d2 : decide (e0 ≤ u) = false := by simp; omega
          go_wp2_with fail
          go_roundw
          case rel => exact ⟨j + 1, by omega, by simp, by rw [hn', hsn]; simp [a1, a2], trivial⟩
          case measure => simp [intOf]; omega
      · have d1 : (e1 == k) = false := by simp [a1]
        go_wp2_with fail
        go_roundw
        case rel => exact ⟨j + 1, by omega, by simp, by rw [hn', hsn]; simp [a1], trivial⟩
        case measure => simp [intOf]; omega
    · have hj' : j = S.log.length := by omega
      subst hj'
      rw [List.take_length]
      go_wp2_with fail
      go_ret
      exact ⟨rfl, rfl⟩

theorem cnt_pos {l : List E} {k u lo hi : Int} (h : 0 < cnt l k u lo hi) : 0 < l.length := Nat.lt_of_lt_of_le h (cnt_le l k u lo hi)

/-- What closed answers. -/
def closedS (S : Sim) : Bool :=
  if 1 < cnt S.log 7 S.now 0 1000 ∨ ¬ (cnt S.log 7 S.now 0 1000 = 1 ↔ S.m.st = 7) then false
  else decide (cnt S.log 7 S.now 0 1000 = 0) || decide (0 < S.log.length) && decide ((S.log.getD (S.log.length - 1) ⟨0, ⟨0, 0, 0, 0⟩⟩).out.kind = 7)

set_option maxRecDepth 10000 in
set_option maxHeartbeats 4000000 in
theorem closed_any (g base : Nat) (S : Sim) (v : Value) (w : World) (h : SimAt w g base S v) (hlog : S.log.length ≤ 1000000) :
    Calls Try.prog 24 #[.pointer (some ⟨g, 0, none⟩)] w fun e w' => e = .returned (.bool (closedS S)) ∧ ∃ n, w' = w.drewN n := by
  obtain ⟨y1, y2, x0, -, -, y3, y4, y5, y6, y7, y8, y9⟩ := id h
  obtain ⟨A, cp, rfl, -, hR⟩ := own_slice y8
  have HC : Hid (closedS S = if 1 < cnt S.log 7 S.now 0 1000 ∨ ¬ (cnt S.log 7 S.now 0 1000 = 1 ↔ S.m.st = 7) then false
    else decide (cnt S.log 7 S.now 0 1000 = 0) || decide (0 < S.log.length) && decide ((S.log.getD (S.log.length - 1) ⟨0, ⟨0, 0, 0, 0⟩⟩).out.kind = 7)) := hide rfl
  have hpos := @cnt_pos S.log 7 S.now 0 1000
  have hcl := cnt_le S.log 7 S.now 0 1000
  obtain ⟨n, hn⟩ : ∃ n, cnt S.log 7 S.now 0 1000 = n := ⟨_, rfl⟩
  rw [hn] at HC hpos hcl
  have hc := count_any g base S _ w h 7 S.now 0 1000 hlog
  rw [hn] at hc
  clear hn h y8 y4
  go_enter Try.func24, Try.ntmps24
  by_cases n2 : 1 < n
  · have d1 : decide ((1 : Int) < (n : Int)) = true := by simp; omega
    go_wp2_with (go_at_call 23; refine hc.mono ?_; rintro e w' ⟨rfl, rfl⟩)
    go_ret
    exact ⟨by rw [HC.out, if_pos (Or.inl n2)]; rfl, 0, rfl⟩
  · have d1 : decide ((1 : Int) < (n : Int)) = false := by simp; omega
    by_cases s7 : S.m.st = 7
    · have d2 : (S.m.st == 7) = true := by simp [s7]
      rcases (show n = 0 ∨ n = 1 by omega) with rfl | rfl
      · go_wp2_with (go_at_call 23; refine hc.mono ?_; rintro e w' ⟨rfl, rfl⟩)
        go_ret
        exact ⟨by rw [HC.out]; simp [s7], 0, rfl⟩
      · have hp := hpos (by omega)
        obtain ⟨m, hm⟩ : ∃ m, S.log.length = m + 1 := ⟨S.log.length - 1, by omega⟩
        obtain ⟨b, o, rfl, hb, c0, c1, c2, c3, c4⟩ := cellsE hR (k := m) (by omega)
        have hgd : S.log.getD (S.log.length - 1) ⟨0, ⟨0, 0, 0, 0⟩⟩ = S.log[m]'(by omega) := by rw [List.getD_eq_getElem?_getD, show S.log.length - 1 = m by omega, List.getElem?_eq_getElem (by omega)]; rfl
        rw [hgd] at HC
        clear hgd
        generalize S.log[m].out.kind = e1 at *
        rw [hm] at y6 hlog HC
        have i0 : (0 : Int) ≤ (m : Int) := by omega
        have i1 : (m : Int) < (m : Int) + 1 := by omega
        by_cases k7 : e1 = 7
        · have d3 : (e1 == 7) = true := by simp [k7]
          go_wp2_with (go_at_call 23; refine hc.mono ?_; rintro e w' ⟨rfl, rfl⟩)
          go_quiet (fail)
          go_wp2_with fail
          go_ret
          exact ⟨by rw [HC.out]; simp [s7, k7], _, rfl⟩
        · have d3 : (e1 == 7) = false := by simp [k7]
          go_wp2_with (go_at_call 23; refine hc.mono ?_; rintro e w' ⟨rfl, rfl⟩)
          go_quiet (fail)
          go_wp2_with fail
          go_ret
          exact ⟨by rw [HC.out]; simp [s7, k7], _, rfl⟩
    · have d2 : (S.m.st == 7) = false := by simp [s7]
      rcases (show n = 0 ∨ n = 1 by omega) with rfl | rfl
      · go_wp2_with (go_at_call 23; refine hc.mono ?_; rintro e w' ⟨rfl, rfl⟩)
        go_quiet (fail)
        go_wp2_with fail
        go_ret
        exact ⟨by rw [HC.out]; simp [s7], _, rfl⟩
      · go_wp2_with (go_at_call 23; refine hc.mono ?_; rintro e w' ⟨rfl, rfl⟩)
        go_ret
        exact ⟨by rw [HC.out]; simp [s7], 0, rfl⟩
end Go.Proofs.Ytdllehgiambkcaa.Sv
