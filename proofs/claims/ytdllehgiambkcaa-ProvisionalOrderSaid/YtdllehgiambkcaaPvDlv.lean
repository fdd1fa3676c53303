/- The walk of link.deliver of ProvisionalOrder. -/
import Derived.Test.YtdllehgiambkcaaPvLnk
namespace Go.Proofs.Ytdllehgiambkcaa.Pv
open Go.RowKit

theorem dlv_snoc (b : Bool) (x : L) (l : List O) {k : Nat} (hk : k < l.length) : L.dlv b x (l.take (k + 1)) = L.one b (L.dlv b x (l.take k)) l[k] := by
  unfold L.dlv
  rw [List.take_succ_eq_append_getElem hk, List.foldl_append]
  rfl

/-- What deliver leaves. -/
def Dlv (w : World) (g base : Nat) (y : L) (A : Option Addr) (cap : Nat) (v : Value) (w' : World) : Prop := ∃ v', LinkAt w' g base y A cap v' ∧ Near w w' g base v v'

theorem one_acc (b : Bool) (x : L) (o : O) : (L.one b x o).acc.length ≤ x.acc.length + 1 ∧ (L.one b x o).r = x.r := by
  unfold L.one
  split
  · split
    · exact ⟨by omega, rfl⟩
    · split
      · exact ⟨by simp, rfl⟩
      · exact ⟨by omega, rfl⟩
  · split
    · exact ⟨by simp, rfl⟩
    · split
      · exact ⟨by simp, rfl⟩
      · exact ⟨by omega, rfl⟩
theorem dlv_acc (b : Bool) : ∀ (l : List O) (x : L), (L.dlv b x l).acc.length ≤ x.acc.length + l.length ∧ (L.dlv b x l).r = x.r
  | [], _ => ⟨by simp [L.dlv], rfl⟩
  | o :: l, x => by
    have h1 := one_acc b x o
    have h2 := dlv_acc b l (L.one b x o)
    have e : L.dlv b x (o :: l) = L.dlv b (L.one b x o) l := rfl
    rw [e]
    exact ⟨by simp; omega, h2.2.trans h1.2⟩

set_option maxRecDepth 100000 in
set_option maxHeartbeats 8000000 in
theorem deliver_any (g base cap n : Nat) (x : L) (A V : Option Addr) (v : Value) (l : List O) (lost : Bool) (w : World) (h : LinkAt w g base x A cap v) (hV : Rd w w.heap.size 5 V l.length (l.flatMap O.cs)) (hVne : 0 < l.length → ∀ b o, V = some ⟨b, o, none⟩ → b ≠ g ∧ v.ownBlock ≠ some b)
    (hl : x.acc.length ≤ 700 ∧ l.length ≤ 3) (hbase : base ≤ w.heap.size) (hg : base ≤ g) :
    Calls Try.prog 31 #[.pointer (some ⟨g, 0, none⟩), .slice V l.length n, .bool lost] w fun e w' => e = .returned (.tuple #[]) ∧ Dlv w g base (L.dlv lost x l) A cap v w' := by
  have hl3 : (l.length : Int) ≤ 3 := by omega
  have hgl := h.box.lt
  go_enter Try.func31, Try.ntmps31
  go_wp2_with fail
  go_loopw [6] (fun i wr => ∃ k : Nat, k ≤ l.length ∧ i = .int .i64 k ∧ Dlv w g base (L.dlv lost x (l.take k)) A cap v wr) (fun i _ => l.length - (intOf i).toNat)
  case atStart => exact ⟨0, by omega, rfl, v, h, Near.refl _ _ _ _⟩
  case round =>
    obtain ⟨k, hk, rfl, v1, h1, N1⟩ := hrel
    have hk3 : (k : Int) ≤ 3 := by omega
    have hRV := N1.rd hV hVne
    have hbr : base ≤ wr.heap.size := Nat.le_trans hbase N1.size
    have hglr := h1.box.lt
    by_cases hlt : k < l.length
    · obtain ⟨bb, oo, rfl, hlb, d0, d1, d2, d3, d4⟩ := cells_at hRV hlt
      have hsn := dlv_snoc lost x l hlt
      have hacc := (dlv_acc lost (l.take k) x).1
      rw [List.length_take] at hacc
      have HSN := hide hsn
      have hVb := hVne (by omega) bb oo rfl
      have hbw : bb < w.heap.size := by
        obtain ⟨b', o', e', hb', -⟩ := hV.2 (by omega)
        injection e' with e'
        injection e' with e'
        omega
      have hvb : v1.ownBlock ≠ some bb := N1.own bb hbw hVb.2
      have hgb : bb ≠ g := hVb.1
      have hgb' : g ≠ bb := Ne.symm hVb.1
      clear hsn
      generalize L.dlv lost x (l.take k) = y at *
      have ho := HSN.out
      generalize l[k] = o at *
      obtain ⟨ok, oc, os, ot, oa⟩ := o
      simp only at d0 d1 d2 d3 d4
      clear HSN hVne hV
      have t1 := h1.box.cell
      have t2 := h1.box.free
      simp only [L.arr] at t1
      have HD := hide ho
      clear ho
      have hacc' : y.acc.length ≤ 750 := by omega
      by_cases hk1 : ok = 1
      · subst hk1
        cases lost
        · obtain ⟨⟨nl, okk⟩, hal⟩ : ∃ y', accept y.last os = y' := ⟨_, rfl⟩
          have hA := fun W => accept_any y.last os W
          rw [hal] at hA
          simp only at hA
          have HA := hide hA
          have HAL := hide hal
          clear hA hal
          go_upto_region 6 with fail
          go_quiet ((go_at_call 14; exact Calls.quiet_of_same (HA.out _)))
          cases okk
          · have HY : Hid (L.one false y ⟨1, oc, os, ot, oa⟩ = y) := hide (by simp [L.one, HAL.out])
            go_wp2_with fail
            go_roundw
            case rel => exact ⟨k + 1, by omega, by go_num, v1, by rw [HD.out, HY.out]; first | exact h1.drewN _ | exact h1.drew, by first | exact N1.drewN _ | exact N1.drew⟩
            case measure => simp [intOf]; omega
          · have HY : Hid (L.one false y ⟨1, oc, os, ot, oa⟩ = { y with acc := y.acc ++ [oc], last := nl }) := hide (by simp [L.one, HAL.out])
            go_wp2_with fail
            replace h1 := h1.drewN nq
            replace N1 := N1.drewN nq
            have e0 : (wr.drewN nq).cell? ⟨bb, oo + k * 5 + 1, none⟩ = some (.int .i64 oc) := d1
            have hbr' : base ≤ (wr.drewN nq).heap.size := hbr
            have hlb' : bb < (wr.drewN nq).heap.size := hlb
            clear d0 d1 d2 d3 d4 t1 t2 hbr hglr hlb hRV
            generalize wr.drewN nq = wz at *
            have t1 := h1.box.cell
            have t2 := h1.box.free
            have t3 := h1.box.lt
            simp only [L.arr] at t1
            have y9 := h1.vne
            go_cut [] from 37 to 50 (fun wx => ∃ v2, LinkAt wx g base { y with acc := y.acc ++ [oc] } A cap v2 ∧ Near w wx g base v v2)
            case first =>
              go_region_law ((refine step_push elI (by rfl) _ _ (by rfl) base v1 y.acc.length (ints y.acc) (by rfl) (by first | exact (h1.own.alloc _).drew | exact h1.own.alloc _ | exact h1.drew.own.alloc _) wz.heap.size 1 1 #[.int .i64 oc] (by rfl) (by repeat (first | exact hhere _ _ _ (by simp) | rw [hget_drew] | rw [hpeel _ _ _ (by simp; try omega)])) rfl (by simp [Value.oneCell']) (by omega) ⟨by simp only [maxLen]; omega, by omega⟩ (by simp; omega) ?_; go_must (intro gg cap2 w1 hown1 hp1; have Z := box_pushed (by first | exact h1.box.alloc _ | exact h1.box.drew.alloc _ | exact (h1.box.alloc _).drew) hp1 y9; have hr1 := Z.cell; simp only [L.arr] at hr1; have hf1 := Z.free; have hz1 := Z.lt; clear Z)))
              all_goals (go_wp2_with fail; go_meet)
              all_goals first
                | exact ⟨_, (link_pushed h1 hg hp1 hbr' hown1).1, N1.trans (link_pushed h1 hg hp1 hbr' hown1).2⟩
                | exact ⟨_, (link_pushed h1.drew hg hp1 hbr' hown1).1, N1.drew.trans (link_pushed h1.drew hg hp1 hbr' hown1).2⟩
            case rest =>
              obtain ⟨v2, h2, N2⟩ := hcut
              have t3 := h2.box.cell
              have t4 := h2.box.free
              simp only [L.arr] at t3
              have HL := hide (h2.set 6 (.int .i64 nl) { y with acc := y.acc ++ [oc], last := nl } (by omega) rfl rfl rfl)
              have HN := hide (N2.set hg 6 (.int .i64 nl))
              clear h1 N1 t1 t2
              go_wp2_with fail
              go_roundw
              case rel => exact ⟨k + 1, by omega, by go_num, v2, by rw [HD.out, HY.out]; exact HL.out, HN.out⟩
              case measure => simp [intOf]; omega
        · have HY : Hid (L.one true y ⟨1, oc, os, ot, oa⟩ = y) := hide (by simp [L.one])
          go_wp2_with fail
          go_roundw
          case rel => exact ⟨k + 1, by omega, by go_num, v1, by rw [HD.out, HY.out]; exact h1, N1⟩
          case measure => simp [intOf]; omega
      · by_cases hk2 : ok = 2
        · subst hk2
          have HY : Hid (L.one lost y ⟨2, oc, os, ot, oa⟩ = { y with fin := oc }) := hide (by simp [L.one])
          have HL := hide (h1.set 8 (.int .i64 oc) { y with fin := oc } (by omega) rfl rfl rfl)
          have HN := hide (N1.set hg 8 (.int .i64 oc))
          clear hk1
          go_wp2_with fail
          go_roundw
          case rel => exact ⟨k + 1, by omega, by go_num, v1, by rw [HD.out, HY.out]; exact HL.out, HN.out⟩
          case measure => simp [intOf]; omega
        · by_cases hk4 : ok = 4
          · subst hk4
            have HY : Hid (L.one lost y ⟨4, oc, os, ot, oa⟩ = { y with fails := true }) := hide (by simp [L.one])
            have HL := hide (h1.set 10 (.bool true) { y with fails := true } (by omega) rfl rfl rfl)
            have HN := hide (N1.set hg 10 (.bool true))
            clear hk1 hk2
            go_wp2_with fail
            go_roundw
            case rel => exact ⟨k + 1, by omega, by go_num, v1, by rw [HD.out, HY.out]; exact HL.out, HN.out⟩
            case measure => simp [intOf]; omega
          · have HY : Hid (L.one lost y ⟨ok, oc, os, ot, oa⟩ = y) := hide (by simp [L.one, hk1, hk2, hk4])
            have q1 : (ok == 1) = false := by simpa using hk1
            have q2 : (ok == 2) = false := by simpa using hk2
            have q4 : (ok == 4) = false := by simpa using hk4
            clear hk1 hk2 hk4
            go_wp2_with fail
            go_roundw
            case rel => exact ⟨k + 1, by omega, by go_num, v1, by rw [HD.out, HY.out]; exact h1, N1⟩
            case measure => simp [intOf]; omega
    · obtain rfl : k = l.length := by omega
      rw [List.take_length] at h1
      have HL := hide h1
      clear h1
      go_wp2_with fail
      refine ⟨rfl, .tuple #[], ?_, rfl, v1, HL.out, N1⟩
      simp only [results]; go_simp
end Go.Proofs.Ytdllehgiambkcaa.Pv
