/- The walk of ProvisionalNumbers. -/
import Derived.Test.YtdllehgiambkcaaPvRel
import Derived.StillTailTactics
import Derived.Deep.CutBlock
import Derived.IntWalk
namespace Go.Proofs.Ytdllehgiambkcaa.Pv
open Go.RowKit

def bytes (l : List Int) : List Value := l.map (Value.int .u8)
theorem Rd.byteAt {w : World} {B n : Nat} {A : Option Addr} {q : List Int} (h : Rd w B 1 A n (bytes q)) {k : Nat} (hk : k < q.length) : ∃ b o, A = some ⟨b, o, none⟩ ∧ b < B ∧ w.cell? ⟨b, o + k, none⟩ = some (.int .u8 q[k]) := by
  have hl : (bytes q).length = n * 1 := h.1
  have hl' : (bytes q).length = q.length := List.length_map ..
  obtain ⟨b, o, e, hb, hc⟩ := h.one (k := k) (by omega)
  exact ⟨b, o, e, hb, by rw [hc]; simp [bytes, hk]⟩

/-- What stands behind an act: the sender r is as before, x is the answer. -/
structure Behind (w0 : World) (g g7 : Nat) (r : R) (A : Option Addr) (cap : Nat) (x : Res) (A2 : Option Addr) (c2 : Nat) (V : Option Addr) (wx : World) : Prop where
  old : RelAt wx g r A cap
  new : RelAt wx g7 x.r A2 c2
  outs : Rd wx wx.heap.size 5 V x.l.length (x.l.flatMap O.cs)
  bel : Below w0.heap.size w0 wx

theorem behind_of {w0 W w2 : World} {g g7 : Nat} {r : R} {A : Option Addr} {cap : Nat} {x : Res} {A2 : Option Addr} {c2 : Nat} {V : Option Addr} {k2 : Nat} {r7 : R} {A7 : Option Addr} {c7 : Nat}
    (h : RelAt W g r A cap) (h7 : RelAt W g7 r7 A7 c7) (hg : g < g7) (hg0 : w0.heap.size ≤ g) (hB : Below w0.heap.size w0 W) (hb : Below W.heap.size W w2) (hq : Rd w2 w2.heap.size 1 A2 x.r.q.length (ints x.r.q)) (hc : x.r.q.length ≤ c2)
    (ho : w2.ownsRow W.heap.size 70 5 (.slice V x.l.length k2) x.l.length (x.l.flatMap O.cs)) (hn : 0 < x.r.q.length → ∀ b o, A2 = some ⟨b, o, none⟩ → W.heap.size ≤ b) (hA : 0 < r.q.length → ∀ b o, A = some ⟨b, o, none⟩ → b ≠ g7) :
    Behind w0 g g7 r A cap x A2 c2 V (lay6 w2 g7 x.r A2 c2) := by
  have hs := h.lt
  have hs7 := h7.lt
  have hn7 : 0 < x.r.q.length → ∀ b o, A2 = some ⟨b, o, none⟩ → g7 < b := fun h0 b o e => by have := hn h0 b o e; omega
  obtain ⟨V', k', e, hle, hR⟩ := own_slice ho
  injection e with e1 e2 e3
  subst e1 e3
  refine ⟨(h.past hb).beside g7 _ _ _ (by omega) (fun h0 b o e => Ne.symm (hA h0 b o e)), (h7.past hb).lay hq hc hn7, lay6_rd hR _ _ _ _ (fun h0 b o e => ?_), lay6_below (hB.trans (hb.mono (by have := hB.size; omega))) (by omega)⟩
  subst e
  have := (ho.lt b (by simp [Value.ownBlock])).1
  omega

theorem two0 (a b : Value) (w : World) : (Instr.index 66 (.agg #[a, b]) (.int .u8 0)).run Try.prog w = .ok a w := by kernel_rfl
theorem two1 (a b : Value) (w : World) : (Instr.index 66 (.agg #[a, b]) (.int .u8 1)).run Try.prog w = .ok b w := by kernel_rfl

set_option maxRecDepth 100000 in
set_option maxHeartbeats 16000000 in
theorem numbers_any (A0 : Option Addr) (cap0 : Nat) (l : List Int) (w : World) (hA : Rd w w.heap.size 1 A0 l.length (bytes l)) (hok : ∀ a ∈ l, 0 ≤ a ∧ a < 256) :
    Calls Try.prog 7 #[.slice A0 l.length cap0] w fun e w' => e = .returned (.bool true) ∧ Below w.heap.size w w' := by
  go_enter Try.func7, Try.ntmps7
  have hS0 := RelAt.new w
  go_wp2_with fail
  go_loopw [4, 5, 6] (fun s c i wr => ∃ (k : Nat) (r : R) (A : Option Addr) (cap : Nat) (cd : Int), k ≤ l.length ∧ k ≤ 100 ∧ i = .int .i64 k ∧ s = .int .i64 r.seq ∧ c = .int .i64 cd ∧ (r.code ≠ 0 → cd = r.code) ∧ may r = true ∧ RelAt wr w.heap.size r A cap ∧ Below w.heap.size w wr) (fun _ _ i _ => l.length - (intOf i).toNat)
  case atStart => exact ⟨0, ⟨0, 0, 0, [], false, false⟩, none, 0, 0, by omega, by omega, rfl, rfl, rfl, fun h => absurd rfl h, by decide +kernel, hS0, (Below.refl _ _).alloc (Nat.le_refl _) _⟩
  case round =>
    obtain ⟨k, r, A, cap, cd, hk, hk100, rfl, rfl, rfl, hcd, hmay, hS, hB⟩ := hrel
    by_cases hlt : k < l.length
    · by_cases h100 : k < 100
      · obtain ⟨b, o, rfl, hb, hcell⟩ := Rd.byteAt (hA.below hB) hlt
        obtain ⟨a1, a2⟩ := hok l[k] (List.getElem_mem hlt)
        generalize l[k] = a at *
        have d1 : decide ((k : Int) < (l.length : Int)) = true := by simp; omega
        have d2 : decide ((k : Int) < 100) = true := by simp; omega
        obtain ⟨p, hgood⟩ := may_good hmay
        have hlen := hgood.len
        have hwt : -9223372036854775808 ≤ r.wait ∧ r.wait ≤ 9223372036854775807 := by
          by_cases e : r.code = 0
          · rw [(hgood.zero e).1]; omega
          · rcases pow_in (hgood.some_ e).2.2.2 with h | h | h | h | h | h | h <;> rw [h] <;> omega
        have hw0 := hS.lt
        have hwz : wr.heap.size ≠ w.heap.size := by omega
        have hbr : b < wr.heap.size := by omega
        have hbr1 : b < wr.heap.size + 1 := by omega
        have hwr1 : w.heap.size < wr.heap.size + 1 := by omega
        have hbg : b ≠ w.heap.size := by omega
        have hbg7 : b ≠ wr.heap.size := by omega
        have hS1 := hS.alloc (.cells #[.int .i64 0, .int .i64 0, .int .i64 0, .slice none 0 0, .bool false, .bool false] 61)
        have hS7 := RelAt.new wr
        have hB1 := hB.alloc (by have := hB.size; exact this) (.cells #[.int .i64 0, .int .i64 0, .int .i64 0, .slice none 0 0, .bool false, .bool false] 61)
        have hqA : 0 < r.q.length → ∀ b o, A = some ⟨b, o, none⟩ → b ≠ wr.heap.size := by
          intro h0 b2 o2 e
          obtain ⟨b', o', e', hb', -⟩ := hS.q.2 h0
          rw [e] at e'
          injection e' with e'
          injection e' with e'
          omega
        have hfin := fun (x : Res) (A2 : Option Addr) (c2 : Nat) (V : Option Addr) (k2 : Nat) (W w2 : World) (h : RelAt W w.heap.size r A cap) (h7 : RelAt W wr.heap.size ⟨0, 0, 0, [], false, false⟩ none 0) (hBW : Below w.heap.size w W) hb hq hc ho hn => behind_of (w0 := w) (x := x) (A2 := A2) (c2 := c2) (V := V) (k2 := k2) (w2 := w2) h h7 (by omega) (Nat.le_refl _) hBW hb hq hc ho hn hqA
        have HF := hide hfin
        clear hfin
        go_upto_block 2 with fail
        go_cut [8, 9] from 21 to 90 (fun v e wx => ∃ (x : Res) (A2 V : Option Addr) (c2 k2 : Nat), v = .slice V x.l.length k2 ∧ e = .int .u8 x.e ∧ Acted r (decide (a < 192)) x ∧ Behind w w.heap.size wr.heap.size r A cap x A2 c2 V wx)
        case first =>
          by_cases h120 : a < 120
          · have e1 : decide (a < 120) = true := by simp [h120]
            have hdec : decide (a < 192) = true := by simp; omega
            have HA := hide (hdec ▸ offer_acted hmay (c := 101 + a % 99) (by omega))
            have harg : IntKind.i64.wrap (101 + IntKind.i64.wrap (a.tmod 99)) = 101 + a % 99 := by
              have h1 : a.tmod 99 = a % 99 := Int.tmod_eq_emod_of_nonneg a1
              have h2 : IntKind.i64.wrap (a % 99) = a % 99 := IntWalk.i64_in _ (by omega)
              rw [h1, h2]
              exact IntWalk.i64_in _ (by omega)
            have HARG := hide harg
            clear harg
            obtain ⟨z0, z1, z2, z3, z4, z5, z6, z7, -, -, -⟩ := id hS1
            go_upto_region 11 with fail
            go_region_law ((go_simp; go_at_call 26; refine (offer_any r A cap _ _ ((by first | exact hS1.drew.q | exact hS1.q)) (by omega) hS1.qcap hwt).mono ?_; rw [HARG.out]; rintro e w2 ⟨A2, c2, v2, rfl, hb2, hR2, hc2, ho2, hn2⟩; obtain ⟨hx2, hf2⟩ := bcell hb2; obtain ⟨V2, k2, rfl, -, -⟩ := own_slice ho2))
            all_goals (go_wp2_with fail; go_meet)
            all_goals first
              | exact ⟨_, A2, V2, c2, k2, rfl, rfl, HA.out, HF.out _ A2 c2 V2 k2 _ w2 hS1.drew hS7.drew hB1.drew hb2 hR2 hc2 ho2 hn2⟩
              | exact ⟨_, A2, V2, c2, k2, rfl, rfl, HA.out, HF.out _ A2 c2 V2 k2 _ w2 hS1 hS7 hB1 hb2 hR2 hc2 ho2 hn2⟩
          · have e1 : decide (a < 120) = false := by simp; omega
            by_cases h128 : a < 128
            · obtain ⟨cv, hcv, hix⟩ : ∃ c : Int, (101 ≤ c ∧ c ≤ 699) ∧ ∀ W, (Instr.index 66 (.agg #[.int .i64 202, .int .i64 404]) (.int .u8 (a.tmod 2))).run Try.prog W = .ok (.int .i64 c) W := by
                have hm : a.tmod 2 = 0 ∨ a.tmod 2 = 1 := by rw [Int.tmod_eq_emod_of_nonneg a1]; omega
                rcases hm with hm | hm
                · exact ⟨202, by omega, fun W => by rw [hm]; exact two0 _ _ W⟩
                · exact ⟨404, by omega, fun W => by rw [hm]; exact two1 _ _ W⟩
              have e2 : decide (a < 128) = true := by simp [h128]
              have hdec : decide (a < 192) = true := by simp; omega
              have HA := hide (hdec ▸ offer_acted hmay (c := cv) hcv)
              clear hcv
              obtain ⟨z0, z1, z2, z3, z4, z5, z6, z7, -, -, -⟩ := id hS1
              go_upto_region 13 with fail
              go_region_law ((go_simp; go_at_call 26; refine (offer_any r A cap _ _ ((by first | exact hS1.drew.q | exact hS1.q)) (by omega) hS1.qcap hwt).mono ?_; rintro e w2 ⟨A2, c2, v2, rfl, hb2, hR2, hc2, ho2, hn2⟩; obtain ⟨hx2, hf2⟩ := bcell hb2; obtain ⟨V2, k2, rfl, -, -⟩ := own_slice ho2))
              all_goals (go_wp2_with fail; go_meet)
              all_goals first
                | exact ⟨_, A2, V2, c2, k2, rfl, rfl, HA.out, HF.out _ A2 c2 V2 k2 _ w2 hS1.drew hS7.drew hB1.drew hb2 hR2 hc2 ho2 hn2⟩
                | exact ⟨_, A2, V2, c2, k2, rfl, rfl, HA.out, HF.out _ A2 c2 V2 k2 _ w2 hS1 hS7 hB1 hb2 hR2 hc2 ho2 hn2⟩
            · have e2 : decide (a < 128) = false := by simp; omega
              by_cases h192 : a < 192
              · have e3 : decide (a < 192) = true := by simp [h192]
                have HA := hide (e3 ▸ ack_acted hmay r.seq)
                obtain ⟨z0, z1, z2, z3, z4, z5, z6, z7, zq, -, -⟩ := id hS1
                go_wp2_with fail
                refine (ack_any r A cap _ r.seq zq (by omega) hS1.qcap hwt).mono ?_; rintro e w2 ⟨A2, c2, v2, rfl, hb2, hR2, hc2, ho2, hn2⟩; obtain ⟨hx2, hf2⟩ := bcell hb2; obtain ⟨V2, k2, rfl, -, -⟩ := own_slice ho2
                go_wp2_with fail
                go_meet
                exact ⟨_, A2, V2, c2, k2, rfl, rfl, HA.out, HF.out _ A2 c2 V2 k2 _ w2 hS1 hS7 hB1 hb2 hR2 hc2 ho2 hn2⟩
              · have e3 : decide (a < 192) = false := by simp; omega
                by_cases h250 : a < 250
                · have e4 : decide (a < 250) = true := by simp [h250]
                  have HA := hide (e3 ▸ fire_acted hmay (t := 1) (Or.inl rfl))
                  obtain ⟨z0, z1, z2, z3, z4, z5, z6, z7, zq, -, -⟩ := id hS1
                  go_wp2_with fail
                  refine (fire_any r A cap _ 1 zq (by omega) hS1.qcap hwt).mono ?_; rintro e w2 ⟨A2, c2, v2, rfl, hb2, hR2, hc2, ho2, hn2⟩; obtain ⟨hx2, hf2⟩ := bcell hb2; obtain ⟨V2, k2, rfl, -, -⟩ := own_slice ho2
                  go_wp2_with fail
                  go_meet
                  exact ⟨_, A2, V2, c2, k2, rfl, rfl, HA.out, HF.out _ A2 c2 V2 k2 _ w2 hS1 hS7 hB1 hb2 hR2 hc2 ho2 hn2⟩
                · have e4 : decide (a < 250) = false := by simp; omega
                  have HA := hide (e3 ▸ fire_acted hmay (t := 2) (Or.inr rfl))
                  obtain ⟨z0, z1, z2, z3, z4, z5, z6, z7, zq, -, -⟩ := id hS1
                  go_wp2_with fail
                  refine (fire_any r A cap _ 2 zq (by omega) hS1.qcap hwt).mono ?_; rintro e w2 ⟨A2, c2, v2, rfl, hb2, hR2, hc2, ho2, hn2⟩; obtain ⟨hx2, hf2⟩ := bcell hb2; obtain ⟨V2, k2, rfl, -, -⟩ := own_slice ho2
                  go_wp2_with fail
                  go_meet
                  exact ⟨_, A2, V2, c2, k2, rfl, rfl, HA.out, HF.out _ A2 c2 V2 k2 _ w2 hS1 hS7 hB1 hb2 hR2 hc2 ho2 hn2⟩
        case rest =>
          obtain ⟨x, A2, V, c2, k2, rfl, rfl, hact, hbeh⟩ := hcut
          by_cases he : x.e = 0
          · have hmx := hact.may he
            have hsh := hact.shape he
            have hfl := hact.fail he
            obtain ⟨xr, xl, xe⟩ := x
            simp only at he hmx hsh hfl
            subst he
            obtain ⟨p2, hgood2⟩ := may_good hmx
            have hlen2 := hgood2.len
            have hwt2 : -9223372036854775808 ≤ xr.wait ∧ xr.wait ≤ 9223372036854775807 := by
              by_cases e : xr.code = 0
              · rw [(hgood2.zero e).1]; omega
              · rcases pow_in (hgood2.some_ e).2.2.2 with h | h | h | h | h | h | h <;> rw [h] <;> omega
            have hold := hbeh.old
            have hnew := hbeh.new
            have hbel := hbeh.bel
            have houts := hbeh.outs
            simp only at hold hnew hbel houts
            clear hbeh hact
            obtain ⟨v0, v1, v2, v3, v4, v5, v6, v7, v8, -, -⟩ := id hnew
            obtain ⟨u0, u1, u2, u3, u4, u5, u6, u7, -, -, -⟩ := id hold
            go_wp2_with fail
            refine (may_any xr A2 c2 _ v8 (by omega) hnew.qcap hwt2).mono ?_; rw [hmx]; rintro e w3 ⟨rfl, cs, rfl⟩
            obtain ⟨S, C, hS0', hC0, hSn, hCn, hSr, hev⟩ := shape_chain hsh (cd := cd) hcd
            have hr1 : 0 ≤ r.seq ∧ r.seq ≤ 2147483647 := ⟨hgood.lo, by have := hgood.hi; omega⟩
            have hr2 : 0 ≤ xr.seq ∧ xr.seq ≤ 2147483647 := ⟨hgood2.lo, by have := hgood2.hi; omega⟩
            have hSb : ∀ j, 0 ≤ S j ∧ S j ≤ 2147483647 := fun j => by rcases hSr j with h | h <;> rw [h] <;> omega
            have hcw : wc.cell? ⟨b, o + k, none⟩ = some (.int .u8 a) := (hbel.cell (p := ⟨b, o + k, none⟩) hb).trans ((hB.cell (p := ⟨b, o + k, none⟩) hb).symm.trans hcell)
            have hbc : b < wc.heap.size := by omega
            have houts3 : Rd (wc.alloc (.cells cs 61)) (wc.alloc (.cells cs 61)).heap.size 5 V xl.length (xl.flatMap O.cs) := (houts.alloc (Nat.le_refl _) _).more (by simp)
            have hcw3 : (wc.alloc (.cells cs 61)).cell? ⟨b, o + k, none⟩ = some (.int .u8 a) := (World.cell?_alloc_past (w := wc) _ b _ hbc).trans hcw
            have hn3 : xl.length ≤ 3 := shape_len hsh
            have hold3 := hold.alloc (.cells cs 61)
            have hnew3 := hnew.alloc (.cells cs 61)
            have hbel3 := hbel.alloc (by have := hbel.size; exact this) (.cells cs 61)
            obtain ⟨W3, hW3⟩ : ∃ W3, wc.alloc (.cells cs 61) = W3 := ⟨_, rfl⟩
            rw [hW3] at houts3 hcw3 hold3 hnew3 hbel3
            have HW3 := hide hW3
            clear hW3
            have HSR := hide (And.intro hS0' hC0)
            have HSN := hide (And.intro hSn hCn)
            have HEV := hide hev
            have HFL := hide hfl
            have HSH := hide hsh
            clear hS0' hC0 hSn hCn hSr hev hfl hsh houts hcell hcw v1 v2 v3 v4 v5 v6 v7 v8 u1 u2 u3 u4 u5 u7
            cases hrf : r.failed
            all_goals
              have hz : ((xl.length : Int) != 0 && r.failed) = false := by
                rw [hrf]
                first | (rw [HFL.out hrf]; rfl) | simp
              try (have hz0 : ((xl.length : Int) != 0) = false := by rw [HFL.out hrf]; rfl)
              clear hz
              go_wp2_with fail
              clear u6 hrf
              rw [← HSR.out.1, ← HSR.out.2]
              go_loopw [4, 5, 10] (fun s c i wx => ∃ j : Nat, j ≤ xl.length ∧ i = .int .i64 j ∧ s = .int .i64 (S j) ∧ c = .int .i64 (C j) ∧ ∃ m, wx = W3.drewN m) (fun _ _ i _ => xl.length - (intOf i).toNat)
              case atStart => exact ⟨0, by omega, rfl, rfl, rfl, 0, by rw [← HW3.out]; rfl⟩
              case round =>
                obtain ⟨j, hj, rfl, rfl, rfl, m, rfl⟩ := hrel
                have hj3 : (j : Int) ≤ 3 := by omega
                by_cases hjl : j < xl.length
                · obtain ⟨bo, oo, rfl, hbo, e0, e1, e2, e3, e4⟩ := cells_at houts3 hjl
                  have hE := HEV.out j hjl
                  obtain ⟨sb1, sb2⟩ := hSb j
                  obtain ⟨sb3, sb4⟩ := hSb (j + 1)
                  clear hSb
                  generalize xl[j] = y at *
                  obtain ⟨ok, oc, os, ot, oa⟩ := y
                  simp only at e0 e1 e2 e3 e4 hE
                  generalize hs1 : S j = s1 at *
                  generalize hs2 : S (j + 1) = s2 at *
                  generalize hc1 : C j = cc1 at *
                  generalize hc2 : C (j + 1) = cc2 at *
                  have HS2 := hide hs2
                  have HC2 := hide hc2
                  clear hs1 hs2 hc1 hc2
                  rcases hE with ⟨g1, g2, g3⟩ | ⟨g1, g2, g3, g4, g5⟩ | ⟨g1, g2, g3, g4, g5, g6⟩
                  · have q1 : (ok != 1) = true := by simpa using g1
                    subst g2 g3
                    clear g1
                    go_wp2_with fail
                    go_roundw
                    case rel => exact ⟨j + 1, by omega, by go_num, by rw [HS2.out], by rw [HC2.out], m, rfl⟩
                    case measure => simp [intOf]; omega
                  · subst g1 g2 g4 g5
                    go_wp2_with fail
                    go_quiet (fail)
                    go_wp2_with fail
                    go_roundw
                    case rel => exact ⟨j + 1, by omega, by go_num, by rw [HS2.out], by rw [HC2.out], _, rfl⟩
                    case measure => simp [intOf]; omega
                  · have q2 : (os == s1 + 1) = false := by have h : os = s1 := g2; rw [h]; simp; omega
                    have q3 : (os == os + 1) = false := by simp; omega
                    subst g1 g2 g3 g5 g6
                    go_wp2_with fail
                    go_roundw
                    case rel => exact ⟨j + 1, by omega, by go_num, by rw [HS2.out], by rw [HC2.out], m, rfl⟩
                    case measure => simp [intOf]; omega
                · obtain rfl : j = xl.length := by omega
                  have hold4 := hold3.drewN m
                  have hnew4 := hnew3.drewN m
                  have hbel4 := below_drewN' hbel3 m
                  rw [HSN.out.1]
                  clear hSb houts3 hcw3 hnew hold
                  obtain ⟨v0, v1, v2, v3, v4, v5, v6, v7, v8, -, -⟩ := id hnew3
                  obtain ⟨u0, u1, u2, u3, u4, u5, u6, u7, -, -, -⟩ := id hold3
                  have HF2 := hide (And.intro (hold4.lay hnew4.q hnew4.qcap (fun h0 b o e => by have := hnew4.qne h0 b o e; omega)) (lay6_below (g := w.heap.size) (r := xr) (A := A2) (cap := c2) hbel4 (Nat.le_refl _)))
                  go_wp2_with fail
                  go_roundw
                  case rel => exact ⟨k + 1, xr, A2, c2, C xl.length, by omega, by omega, by go_num, rfl, rfl, HSN.out.2, hmx, HF2.out.1, HF2.out.2⟩
                  case measure => simp [intOf]; omega
          · have he2 := hact.err
            have hbad := hact.bad he
            obtain ⟨xr, xl, xe⟩ := x
            simp only at he he2 hbad
            subst hbad
            rcases he2 with h | h | h | h
            · exact absurd h he
            all_goals
              subst h
              clear he
              go_wp2_with fail
              go_roundw
              case rel => exact ⟨k + 1, r, A, cap, cd, by omega, by omega, by go_num, rfl, rfl, hcd, hmay, hbeh.old, hbeh.bel⟩
              case measure => simp [intOf]; omega
      · obtain rfl : k = 100 := by omega
        have d1 : decide ((100 : Int) < (l.length : Int)) = true := by simp; omega
        obtain ⟨u0, u1, u2, u3, u4, u5, u6, u7, -, -, -⟩ := id hS
        go_wp2_with fail
        refine (works_any _).mono ?_; rintro e w4 ⟨rfl, hb4⟩
        go_wp2_with fail
        go_ret
        exact ⟨rfl, hB.trans (hb4.mono (by have := hB.size; omega))⟩
    · have d1 : decide ((k : Int) < (l.length : Int)) = false := by simp; omega
      obtain ⟨u0, u1, u2, u3, u4, u5, u6, u7, -, -, -⟩ := id hS
      go_wp2_with fail
      refine (works_any _).mono ?_; rintro e w4 ⟨rfl, hb4⟩
      go_wp2_with fail
      go_ret
      exact ⟨rfl, hB.trans (hb4.mono (by have := hB.size; omega))⟩
end Go.Proofs.Ytdllehgiambkcaa.Pv
