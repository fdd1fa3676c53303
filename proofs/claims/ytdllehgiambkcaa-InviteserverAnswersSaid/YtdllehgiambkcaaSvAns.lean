/- The walk of InviteserverAnswers. -/
import Derived.Test.YtdllehgiambkcaaSvAnsLaw
import Derived.StillTailTactics
namespace Go.Proofs.Ytdllehgiambkcaa.Sv
open Go.RowKit

theorem kinds0 (w : World) : (Instr.index 45 (.agg #[.int .u8 1, .int .u8 4, .int .u8 3, .int .u8 4]) (.int .u8 0)).run Try.prog w = .ok (.int .u8 1) w := by kernel_rfl
theorem kinds1 (w : World) : (Instr.index 45 (.agg #[.int .u8 1, .int .u8 4, .int .u8 3, .int .u8 4]) (.int .u8 1)).run Try.prog w = .ok (.int .u8 4) w := by kernel_rfl
theorem kinds2 (w : World) : (Instr.index 45 (.agg #[.int .u8 1, .int .u8 4, .int .u8 3, .int .u8 4]) (.int .u8 2)).run Try.prog w = .ok (.int .u8 3) w := by kernel_rfl
theorem kinds3 (w : World) : (Instr.index 45 (.agg #[.int .u8 1, .int .u8 4, .int .u8 3, .int .u8 4]) (.int .u8 3)).run Try.prog w = .ok (.int .u8 4) w := by kernel_rfl

def silB (s : Int) : Bool := s == 4 || s == 6 || s == 7
theorem neqO_same (a b c d : Int) (w : World) : (binOp .neq 52 (.agg #[.int .u8 a, .int .i64 b, .int .u8 c, .int .i64 d]) (.agg #[.int .u8 a, .int .i64 b, .int .u8 c, .int .i64 d])).run Try.prog w = .ok (.bool false) w := by
  rw [neqO]; simp

set_option maxRecDepth 10000 in
set_option maxHeartbeats 8000000 in
theorem ans_any (A : Option Addr) (cap : Nat) (l : List Ev) (w : World) (hA : Rd w w.heap.size 3 A l.length (l.flatMap Ev.cs)) (hok : ∀ e ∈ l, e.ok) (hok2 : ∀ e ∈ l, e.ok2) :
    Calls Try.prog 5 #[.slice A l.length cap] w fun e w' => e = .returned (.bool true) ∧ Below w.heap.size w w' := by
  go_enter Try.func5, Try.ntmps5
  go_wp2_with fail
  refine (sstart_any _).mono ?_; rintro e w1 ⟨g, v1, rfl, hb1, h1⟩
  go_wp2_with fail
  go_loopw [4, 5] (fun lc i wr => ∃ (k : Nat) (S : Sim) (v : Value), k ≤ l.length ∧ k ≤ 40 ∧ i = .int .i64 k ∧ lc = .int .i64 S.m.code ∧ SimAt wr g w.heap.size S v ∧ Below w.heap.size w wr ∧ J S ∧ S.now ≤ 65536 * k ∧ S.log.length ≤ 2 + 603 * k ∧ 2 ≤ S.log.length) (fun _ i _ => l.length - (intOf i).toNat)
  case atStart =>
    have h0 : simStart.m.code = 100 ∧ simStart.now = 0 ∧ simStart.log.length = 2 := by decide +kernel
    obtain ⟨z1, z2, z3⟩ := h0
    exact ⟨0, simStart, v1, by omega, by omega, rfl, by rw [z1], h1, hb1, pk_start.j, by omega, by omega, by omega⟩
  case round =>
    obtain ⟨k, S, v, hk, hk40, rfl, rfl, hS, hB, hJ, hn, hl, hl2⟩ := hrel
    by_cases hlt : k < l.length
    · by_cases h40 : k < 40
      · have hR := hA.below hB
        obtain ⟨b, o, rfl, hb, c0, c1, c2⟩ := cellsEv hR hlt
        obtain ⟨e1, e2⟩ := hok l[k] (List.getElem_mem hlt)
        obtain ⟨e3, e4⟩ := hok2 l[k] (List.getElem_mem hlt)
        have hn0 := hJ.now
        generalize l[k].wait = ew at *
        generalize l[k].kind = ek at *
        generalize l[k].code = ec at *
        obtain ⟨hD, hUn⟩ := until_done (T := S.now + ew) hJ (by omega)
        have hUl := until_len S (S.now + ew)
        have hUg := until_ge S (S.now + ew)
        have hDc := hD.code
        have hUj := hD.j
        obtain ⟨y1, y2, -, -, -, y3, y4, y5, y6, y7, y8, y9⟩ := id hS
        have d1 : decide ((k : Int) < (l.length : Int)) = true := by simp; omega
        have d2 : decide ((k : Int) < 40) = true := by simp; omega
        go_upto_region 6 with fail
        go_still_tail 12, (by kernel_rfl)
        change wpList _ _ _ _ _ (World.drew _)
        go_wp2_with fail
        refine (until_any g _ S v _ hS.drew (S.now + ew) (by omega) (by omega) (by omega)).mono ?_; rintro e w2 ⟨rfl, hb2, v2, hS2⟩
        have hcb := bat hb2 (b := b) hb
        have c0' := (hcb _).trans c0
        have c1' := (hcb _).trans c1
        have c2' := (hcb _).trans c2
        have hBw := hB.drew.trans hb2
        clear hcb c0 c1 c2 hS y1 y2 y3 y4 y5 y6 y7 y8 y9 h1 hD hR hb2
        generalize untilT S (S.now + ew) = U at *
        obtain ⟨ek4, hek⟩ : ∃ q : Int, ek % 4 = q := ⟨_, rfl⟩
        obtain ⟨y1, y2, x0, x1, x2, y3, y4, y5, y6, y7, y8, y9⟩ := id hS2
        have hcs : ek4 = 0 ∨ ek4 = 1 ∨ ek4 = 2 ∨ ek4 = 3 := by omega
        obtain ⟨em, hem⟩ : ∃ em : Int, ek = 4 * em + ek4 := ⟨ek / 4, by omega⟩
        subst hem
        clear hek
        have i0 := kinds0
        have i1 := kinds1
        have i2 := kinds2
        have i3 := kinds3
        go_upto_region 7 with fail
        go_cut [6] from 13 to 146 (fun a wx => ∃ kk : Int, a = .int .u8 kk ∧ (kk = 1 ∨ kk = 3 ∨ kk = 4) ∧ wx = w2)
        case first =>
          rcases hcs with rfl | rfl | rfl | rfl
          all_goals (go_wp2_with fail; go_meet)
          · exact ⟨1, rfl, by omega, rfl⟩
          · exact ⟨4, rfl, by omega, rfl⟩
          · exact ⟨3, rfl, by omega, rfl⟩
          · exact ⟨4, rfl, by omega, rfl⟩
        case rest =>
          obtain ⟨kk, rfl, hkk, rfl⟩ := hcut
          clear i0 i1 i2 i3 hcs
          go_upto_region 8 with fail
          go_cut [7] from 13 to 146 (fun a wx => ∃ cc : Int, a = .int .i64 cc ∧ wx = wc)
          case first =>
            go_wp2_with fail
            go_meet
            exact ⟨_, rfl, rfl⟩
          case rest =>
            obtain ⟨cc, rfl, rfl⟩ := hcut
            clear c0' c1' c2'
            obtain ⟨A2, cp2, rfl, hcp2, -⟩ := own_slice y8
            go_upto_region 9 with fail
            go_cut [8, 9] from 13 to 146 (fun a p wx => a = .int .i64 U.log.length ∧ ∃ kb, p = .pointer (some ⟨kb, 0, none⟩) ∧ wx.cell? ⟨kb, 0, none⟩ = some (.int .u8 U.m.st) ∧ kb < wx.heap.size ∧ kb ≠ g ∧ (Value.slice A2 U.log.length cp2).ownBlock ≠ some kb ∧ SimAt wx g w.heap.size U (.slice A2 U.log.length cp2) ∧ Below w.heap.size w wx)
            case first =>
              go_region_held3 (fun w' => w'.cell? ⟨g, 0, none⟩ = some (.int .u8 U.m.st) ∧ w'.cell? ⟨g, 1, none⟩ = some (.int .i64 U.m.wait) ∧ w'.cell? ⟨g, 2, none⟩ = some (.int .i64 U.m.code) ∧ w'.cell? ⟨g, 18, none⟩ = some (.slice A2 U.log.length cp2)) (go_simp) (fail)
              go_wp2_with fail
              go_meet
              have hgw := hS2.lt
              refine ⟨rfl, wc.heap.size, rfl, by go_simp, by simp, by omega, own_ne' hS2.own _ (Nat.le_refl _), (hS2.alloc _).drew, ((hBw.alloc hBw.size _).drew)⟩
            case rest =>
              obtain ⟨rfl, kb, rfl, kc0, kclt, kcg, kcv, hS3, hB3⟩ := hcut
              obtain ⟨o', ho1, ho2, ho3, ho4, ho5, ho6, ho7⟩ := ans_step hUj kk cc
              clear hS2 hBw y1 y2 x0 x1 x2 y3 y4 y5 y6 y7 y8 y9
              obtain ⟨G, hG⟩ : ∃ G, give U kk cc 0 = G := ⟨_, rfl⟩
              rw [hG] at ho2 ho3 ho4 ho7
              have HG := hide hG
              have hGl : G.log.length = U.log.length + o'.length := by rw [ho2]; simp [logged]
              have HL := hide ho2
              have HC := hide ho7
              have HN := hide ho4
              have H5 := hide ho5
              have H6 := hide ho6
              have HU := hide hUn
              have HDc := hide hDc
              have HGl := hide hGl
              clear hG ho2 ho7 ho4 ho5 ho6 hUn hDc hGl
              have hmayG : Hid (may ⟨G.m.st, G.m.wait, G.m.code⟩ = true) := hide ho3.may
              go_wp2_with fail
              refine (give_keep g _ U _ _ hS3 kk cc 0 (by omega) (by have := HU.out; omega)).mono ?_; rintro e w3 ⟨rfl, hb3, v3, hS4, hK4⟩
              rw [HG.out] at hS4
              obtain ⟨-, kclt4, kc4⟩ := hK4 kb kclt kcg kcv
              have kc0' := (kc4 0).trans kc0
              have hB4 := hB3.trans hb3
              clear kc4 kc0 hS3 hB3 hb3 hK4 kcv HG
              obtain ⟨y1, y2, x0, x1, x2, y3, y4, y5, y6, y7, y8, y9⟩ := id hS4
              have hGl := HGl.out
              obtain ⟨g4, cp4, rfl, hg4, hg4'⟩ := y8.form (by omega)
              clear y4
              obtain ⟨LU, hLU⟩ : ∃ n : Nat, U.log.length = n := ⟨_, rfl⟩
              obtain ⟨LG, hLG⟩ : ∃ n : Nat, G.log.length = n := ⟨_, rfl⟩
              have hRd := Rd.of_own y8
              have hcp4 : LG ≤ cp4 := by
                obtain ⟨A', c', e, hle, -⟩ := own_slice y8
                injection e with e1 e2 e3
                omega
              have HLU := hide hLU
              have HLG := hide hLG
              have HLN : Hid (LG ≤ 2 + 603 * (k + 1) ∧ 2 ≤ LG) := hide (by omega)
              simp only [hLG] at y8 hRd hcp4 hGl y6 y9
              simp only [hLU] at hGl
              rw [hLU]
              have HO := hide hGl
              clear hGl hLU hLG hUl hUg hl hl2
              have hLGI : (LU : Int) ≤ (LG : Int) := by have := HO.out; omega
              have z3 : decide (LG < LU) = false := by have := HO.out; simp; omega
              have z4 : decide ((LG : Int) < (LU : Int)) = false := by have := HO.out; simp; omega
              have hput : ∀ (W : World) (A' : Option Addr), W.heap.size = w3.heap.size → (∀ b o, W.cell? ⟨b, o, none⟩ = w3.cell? ⟨b, o, none⟩) → (0 < o'.length → A' = some ⟨g4, LU * 5, none⟩) → Rd W W.heap.size 5 A' o'.length ((logged U.now o').flatMap E.cs) := by
                intro W A' hsz hcl hA
                refine ⟨by rw [flat_len E.cs 5 E.cs_len]; simp [logged], fun h0 => ?_⟩
                obtain ⟨b', o2, e, hb', hcc⟩ := hRd.2 (by have := HO.out; omega)
                injection e with e
                injection e with e1 e2
                subst e1 e2
                refine ⟨g4, LU * 5, hA h0, by omega, fun j u hu => ?_⟩
                have h1 : (G.log.flatMap E.cs)[LU * 5 + j]? = some u := by
                  rw [HL.out, List.flatMap_append, List.getElem?_append_right (by rw [flat_len E.cs 5 E.cs_len, HLU.out]; omega), flat_len E.cs 5 E.cs_len, HLU.out]
                  rw [← hu]
                  congr 1
                  omega
                have := hcc _ u h1
                rw [hcl]
                rwa [Nat.zero_add] at this
              have HP := hide hput
              clear hput hRd
              have HR := hide hB4
              go_upto_region 11 with fail
              go_cut [10] from 13 to 146 (fun q wx => ∃ A' c', q = .slice A' o'.length c' ∧ Rd wx wx.heap.size 5 A' o'.length ((logged U.now o').flatMap E.cs) ∧ SimAt wx g w.heap.size G (.slice (some ⟨g4, 0, none⟩) G.log.length cp4) ∧ wx.cell? ⟨kb, 0, none⟩ = some (.int .u8 U.m.st) ∧ kb < wx.heap.size ∧ Below w.heap.size w wx)
              case first =>
                by_cases hcap : cp4 = LU
                · have ho0 : o'.length = 0 := by have := HO.out; omega
                  subst hcap
                  have hLGU : LG = cp4 := by have := HO.out; omega
                  subst hLGU
                  go_quiet (fail)
                  go_wp2_with fail
                  go_meet
                  exact ⟨some ⟨g4, 0, none⟩, 0, by rw [ho0], HP.out _ _ rfl (fun _ _ => rfl) (fun h0 => absurd h0 (by omega)), hS4.drewN _, kc0', kclt4, below_drewN' hB4 _⟩
                · have q1 : ((cp4 : Int) == (LU : Int)) = false := by simp; omega
                  have q2 : (cp4 == LU) = false := by simp; omega
                  have q3 : (LG : Int) ≤ (cp4 : Int) := by omega
                  go_quiet (fail)
                  go_wp2_with fail
                  go_meet
                  have hd : LG - LU = o'.length := by have := HO.out; omega
                  rw [hd]
                  exact ⟨_, _, rfl, HP.out _ _ rfl (fun _ _ => rfl) (fun _ => by simp), hS4.drewN _, kc0', kclt4, below_drewN' hB4 _⟩
              case rest =>
                obtain ⟨A', c', rfl, hRp, hS5, kc5, kb5, hB5⟩ := hcut
                clear y1 y2 x0 x1 x2 y3 y5 y6 y7 y8 y9 z3 z4 hS4 kc0' kclt4 hB4 hcp4 HP HR hg4 hg4' hLGI HO
                go_upto_region 12 with fail
                go_cut [11] from 13 to 146 (fun q wx => q = .bool (silB U.m.st) ∧ wx = wc)
                case first =>
                  have hst := st_of hUj
                  rcases hst with e | e | e | e | e
                  all_goals (rw [e] at kc5; have HE := hide e; clear e; go_wp2_with fail; go_meet; rw [HE.out]; exact ⟨rfl, rfl⟩)
                case rest =>
                  obtain ⟨rfl, rfl⟩ := hcut
                  clear kc5 kb5
                  have hcc := HC.out
                  have hdd := HDc.out
                  obtain ⟨y1, y2, x0, x1, x2, y3, -, y5, y6, y7, y8, y9⟩ := id hS5
                  rcases hkk with rfl | rfl | rfl
                  · have hGm : G.m.code = S.m.code := by rw [hcc, if_neg (by omega), hdd]
                    have HGm := hide hGm
                    rw [hGm] at x2 hmayG
                    by_cases hs3 : U.m.st = 3 ∨ U.m.st = 5
                    · obtain rfl := H5.out rfl hs3
                      have hsf : silB U.m.st = false := by rcases hs3 with e | e <;> rw [e] <;> rfl
                      rw [hsf]
                      obtain ⟨b3, o3, rfl, hb3, k0, k1, k2, k3, k4⟩ := cellsE (l := logged U.now [sendO U.m.code]) hRp (k := 0) (by simp [logged])
                      simp only [logged, List.map_cons, List.map_nil, List.getElem_cons_zero, sendO, Nat.zero_mul, Nat.add_zero] at k1 k2 k3 k4
                      rw [hdd] at k2
                      have hno := fun W => neqO_same 1 S.m.code 0 0 W
                      clear hcc hdd hsf hs3 hGm k0
                      simp only [List.length_cons, List.length_nil]
                      go_wp2_with (go_at_call 22; refine (may_any _ _ _ _).mono ?_; rw [hmayG.out]; rintro e w6 ⟨rfl, cm, rfl⟩)
                      have hn2 := HN.out
                      have hu2 := HU.out
                      have hl2 := HLN.out
                      have hg2 := HLG.out
                      go_roundw
                      case rel => exact ⟨k + 1, G, _, by omega, by omega, by simp, by rw [HGm.out], hS5.alloc _, hB5.alloc hB5.size _, ho3, by omega, by omega, by omega⟩
                      case measure => simp [intOf]; omega
                    · obtain rfl := H6.out rfl hs3
                      have hst := st_of hUj
                      have hsf : silB U.m.st = true := by rcases hst with e | e | e | e | e <;> first | (exfalso; omega) | (rw [e]; rfl)
                      rw [hsf]
                      clear hcc hdd hsf hs3 hGm hst
                      simp only [List.length_nil]
                      go_wp2_with (go_at_call 22; refine (may_any _ _ _ _).mono ?_; rw [hmayG.out]; rintro e w6 ⟨rfl, cm, rfl⟩)
                      have hn2 := HN.out
                      have hu2 := HU.out
                      have hl2 := HLN.out
                      have hg2 := HLG.out
                      go_roundw
                      case rel => exact ⟨k + 1, G, _, by omega, by omega, by simp, by rw [HGm.out], hS5.alloc _, hB5.alloc hB5.size _, ho3, by omega, by omega, by omega⟩
                      case measure => simp [intOf]; omega
                  · have hGm : G.m.code = S.m.code := by rw [hcc, if_neg (by omega), hdd]
                    have HGm := hide hGm
                    rw [hGm] at x2 hmayG
                    clear hcc hdd hGm
                    generalize silB U.m.st = sil at *
                    go_wp2_with (go_at_call 22; refine (may_any _ _ _ _).mono ?_; rw [hmayG.out]; rintro e w6 ⟨rfl, cm, rfl⟩)
                    have hn2 := HN.out
                    have hu2 := HU.out
                    have hl2 := HLN.out
                    have hg2 := HLG.out
                    go_roundw
                    case rel => exact ⟨k + 1, G, _, by omega, by omega, by simp, by rw [HGm.out], hS5.alloc _, hB5.alloc hB5.size _, ho3, by omega, by omega, by omega⟩
                    case measure => simp [intOf]; omega
                  · by_cases ho0 : 0 < o'.length
                    · have hGm : G.m.code = cc := by rw [hcc, if_pos ⟨rfl, ho0⟩]
                      have HGm := hide hGm
                      rw [hGm] at x2 hmayG
                      have d9 : decide ((0 : Int) < (o'.length : Int)) = true := by simp; omega
                      have d8 : decide (0 < o'.length) = true := by simp; omega
                      clear hcc hdd hGm
                      generalize silB U.m.st = sil at *
                      go_wp2_with (go_at_call 22; refine (may_any _ _ _ _).mono ?_; rw [hmayG.out]; rintro e w6 ⟨rfl, cm, rfl⟩)
                      have hn2 := HN.out
                      have hu2 := HU.out
                      have hl2 := HLN.out
                      have hg2 := HLG.out
                      go_roundw
                      case rel => exact ⟨k + 1, G, _, by omega, by omega, by simp, by rw [HGm.out], hS5.alloc _, hB5.alloc hB5.size _, ho3, by omega, by omega, by omega⟩
                      case measure => simp [intOf]; omega
                    · obtain rfl : o' = [] := List.eq_nil_of_length_eq_zero (by omega)
                      have hGm : G.m.code = S.m.code := by rw [hcc, if_neg (fun e => ho0 e.2), hdd]
                      have HGm := hide hGm
                      rw [hGm] at x2 hmayG
                      clear hcc hdd hGm
                      simp only [List.length_nil]
                      generalize silB U.m.st = sil at *
                      go_wp2_with (go_at_call 22; refine (may_any _ _ _ _).mono ?_; rw [hmayG.out]; rintro e w6 ⟨rfl, cm, rfl⟩)
                      have hn2 := HN.out
                      have hu2 := HU.out
                      have hl2 := HLN.out
                      have hg2 := HLG.out
                      go_roundw
                      case rel => exact ⟨k + 1, G, _, by omega, by omega, by simp, by rw [HGm.out], hS5.alloc _, hB5.alloc hB5.size _, ho3, by omega, by omega, by omega⟩
                      case measure => simp [intOf]; omega
      · have hk' : k = 40 := by omega
        subst hk'
        have d1 : decide (((40 : Nat) : Int) < (l.length : Int)) = true := by simp; omega
        obtain ⟨E1, E2⟩ := ans_end hJ
        have HE1 := hide E1
        have HE2 := hide E2
        clear E1 E2
        obtain ⟨y1, y2, x0, x1, x2, y3, -, y5, y6, y7, y8, y9⟩ := id hS
        go_wp2_with fail
        refine (count_any g _ S v _ hS 3 S.now 0 1000 (by omega)).mono ?_; rw [HE1.out]; rintro e w' ⟨rfl, rfl⟩
        go_wp2_with fail
        refine (closed_any g _ S v _ hS (by omega)).mono ?_; rw [HE2.out]; rintro e w' ⟨rfl, nn, rfl⟩
        go_wp2_with fail
        refine (works_any _).mono ?_; rintro e w8 ⟨rfl, hb8⟩
        go_wp2_with fail
        go_ret
        exact ⟨rfl, (below_drewN' hB nn).trans (hb8.mono (below_drewN' hB nn).size)⟩
    · have hk' : k = l.length := by omega
      subst hk'
      have d1 : decide ((l.length : Int) < (l.length : Int)) = false := by simp
      obtain ⟨E1, E2⟩ := ans_end hJ
      have HE1 := hide E1
      have HE2 := hide E2
      clear E1 E2
      obtain ⟨y1, y2, x0, x1, x2, y3, -, y5, y6, y7, y8, y9⟩ := id hS
      go_wp2_with fail
      refine (count_any g _ S v _ hS 3 S.now 0 1000 (by omega)).mono ?_; rw [HE1.out]; rintro e w' ⟨rfl, rfl⟩
      go_wp2_with fail
      refine (closed_any g _ S v _ hS (by omega)).mono ?_; rw [HE2.out]; rintro e w' ⟨rfl, nn, rfl⟩
      go_wp2_with fail
      refine (works_any _).mono ?_; rintro e w8 ⟨rfl, hb8⟩
      go_wp2_with fail
      go_ret
      exact ⟨rfl, (below_drewN' hB nn).trans (hb8.mono (below_drewN' hB nn).size)⟩
end Go.Proofs.Ytdllehgiambkcaa.Sv
