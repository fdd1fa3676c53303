/- Lists of outputs of chapter 18 that are compared: dialtoneref18.Outs and the law's own outs. Printed by mk_outs18.py. -/
import Derived.Test.YtdllehgiambkcaaPvOffer
namespace Go.Proofs.Ytdllehgiambkcaa.Pv
open Go.RowKit

theorem stO : Try.prog.underlying 70 = some (.struct (Try.prog.fieldsOf 70)) := by kernel_rfl
theorem shO : Try.prog.stoodInHeld 70 = false := by kernel_rfl
theorem egO : Try.prog.eqGuardType Try.prog.depth 70 = false := by kernel_rfl
theorem flO : Try.prog.fieldsOf 70 = #[⟨ "Kind", 68, 0, false, "", "", 0⟩, ⟨ "Code", 3, 1, false, "", "", 8⟩, ⟨ "Seq", 3, 2, false, "", "", 16⟩, ⟨ "Timer", 3, 3, false, "", "", 24⟩, ⟨ "After", 3, 4, false, "", "", 32⟩] := by kernel_rfl

theorem neqO (a b c d f a' b' c' d' f' : Int) (w : World) : (binOp .neq 70 (.agg #[.int .u8 a, .int .i64 b, .int .i64 c, .int .i64 d, .int .i64 f]) (.agg #[.int .u8 a', .int .i64 b', .int .i64 c', .int .i64 d', .int .i64 f'])).run Try.prog w = .ok (.bool (!decide ((⟨a, b, c, d, f⟩ : O) = ⟨a', b', c', d', f'⟩))) w := by
  have i3 := Try.underlying3
  have i5 := Try.underlying68
  rw [run_neq_struct]
  rw [run_equalIn_agg _ _ _ _ _ stO shO, flO]
  simp only [O.mk.injEq]
  by_cases h1 : a = a' <;> by_cases h2 : b = b' <;> by_cases h3 : c = c' <;> by_cases h4 : d = d' <;> by_cases h5 : f = f' <;> simp [Op.eqFields, go_sem, i3, i5, h1, h2, h3, h4, h5]

theorem drop_eq {l l' : List O} {k : Nat} (h : k < l.length) (h' : k < l'.length) : (l.drop k == l'.drop k) = (decide (l[k] = l'[k]) && (l.drop (k + 1) == l'.drop (k + 1))) := by
  rw [List.drop_eq_getElem_cons h, List.drop_eq_getElem_cons h', List.cons_beq_cons]
  rfl

/-- The cells of element k. -/
theorem cells_at {w : World} {B : Nat} {A : Option Addr} {l : List O} (h : Rd w B 5 A l.length (l.flatMap O.cs)) {k : Nat} (hk : k < l.length) :
    ∃ b o, A = some ⟨b, o, none⟩ ∧ b < B ∧ w.cell? ⟨b, o + k * 5, none⟩ = some (.int .u8 l[k].kind) ∧ w.cell? ⟨b, o + k * 5 + 1, none⟩ = some (.int .i64 l[k].code) ∧
      w.cell? ⟨b, o + k * 5 + 2, none⟩ = some (.int .i64 l[k].seq) ∧ w.cell? ⟨b, o + k * 5 + 3, none⟩ = some (.int .i64 l[k].timer) ∧ w.cell? ⟨b, o + k * 5 + 4, none⟩ = some (.int .i64 l[k].after) := by
  obtain ⟨b, o, e, hb, hc⟩ := h.at hk
  refine ⟨b, o, e, hb, ?_, hc 1 _ ?_, hc 2 _ ?_, hc 3 _ ?_, hc 4 _ ?_⟩
  · have := hc 0 _ ((flat_get O.cs 5 O.cs_len l k 0 hk (by omega)).trans rfl)
    simpa using this
  all_goals exact (flat_get O.cs 5 O.cs_len l k _ hk (by omega)).trans rfl

set_option maxHeartbeats 1000000 in
theorem routs_any (A B : Option Addr) (c d H : Nat) (l l' : List O) (w : World) (hA : Rd w H 5 A l.length (l.flatMap O.cs)) (hB : Rd w H 5 B l'.length (l'.flatMap O.cs)) (hn : l.length ≤ 1000000000) :
    Calls Try.prog 46 #[.slice A l.length c, .slice B l'.length d] w fun e w' => e = .returned (.bool (l == l')) ∧ ∃ k, w' = w.drewN k := by
  by_cases hl : l.length = l'.length
  · have hb : ((l.length : Int) != (l'.length : Int)) = false := by simp [hl]
    have HL := hide hl; clear hl
    have fin : ∀ k, Ending.returned (.bool (l == l')) = .returned (.bool (l == l')) ∧ ∃ k', w.drewN k = w.drewN k' := fun k => ⟨rfl, k, rfl⟩
    have hlt' : ∀ k, k < l.length → k < l'.length := fun k h => by have := HL.out; omega
    have HT := hide hlt'; clear hlt' fin
    go_enter Try.func46, Try.ntmps46
    go_wp2
    go_loopw [5] (fun i wr => ∃ k : Nat, k ≤ l.length ∧ i = .int .i64 k ∧ (l == l') = (l.drop k == l'.drop k) ∧ ∃ m, wr = w.drewN m) (fun i _ => l.length - (intOf i).toNat)
    case atStart => exact ⟨0, by omega, rfl, rfl, 0, rfl⟩
    case round =>
      obtain ⟨k, hk, rfl, he, m, rfl⟩ := hrel
      have HE := hide he; clear he
      by_cases hlt : k < l.length
      · have hlt' := HT.out k hlt
        have HD := hide (drop_eq hlt hlt')
        obtain ⟨b, o, rfl, _, e0, e1, e2, e3, e4⟩ := cells_at hA hlt
        obtain ⟨b', o', rfl, _, e0', e1', e2', e3', e4'⟩ := cells_at hB hlt'
        have hne := fun W => neqO l[k].kind l[k].code l[k].seq l[k].timer l[k].after l'[k].kind l'[k].code l'[k].seq l'[k].timer l'[k].after W
        by_cases hq : l[k] = l'[k]
        · have hq' : decide ((⟨l[k].kind, l[k].code, l[k].seq, l[k].timer, l[k].after⟩ : O) = ⟨l'[k].kind, l'[k].code, l'[k].seq, l'[k].timer, l'[k].after⟩) = true := decide_eq_true hq
          simp only [hq', Bool.not_true] at hne
          have HQ := hide hq; clear hq hq'
          go_wp2
          go_quiet (fail)
          go_wp2
          go_roundw
          case rel => exact ⟨k + 1, by omega, by go_num, by rw [HE.out, HD.out, decide_eq_true HQ.out, Bool.true_and], _, rfl⟩
          case measure => simp [intOf]; omega
        · have hq' : decide ((⟨l[k].kind, l[k].code, l[k].seq, l[k].timer, l[k].after⟩ : O) = ⟨l'[k].kind, l'[k].code, l'[k].seq, l'[k].timer, l'[k].after⟩) = false := decide_eq_false hq
          simp only [hq', Bool.not_false] at hne
          have HQ := hide hq; clear hq hq'
          go_wp2
          go_quiet (fail)
          go_wp2
          go_ret
          exact ⟨ret_bool (by rw [HE.out, HD.out, decide_eq_false HQ.out, Bool.false_and]), _, World.drewN_drewN _ _ _⟩
      · go_wp2
        go_ret
        refine ⟨ret_bool ?_, _, rfl⟩
        have := HL.out
        rw [HE.out, List.drop_of_length_le (by omega), List.drop_of_length_le (by omega)]
        rfl
  · have hb : ((l.length : Int) != (l'.length : Int)) = true := by simpa using fun h => hl (by omega)
    have e : (l == l') = false := by rw [beq_eq_false_iff_ne]; rintro rfl; exact hl rfl
    have E := hide e; have HL := hide hl; clear e hl
    go_enter Try.func46, Try.ntmps46
    go_wp2
    go_ret
    exact ⟨ret_bool E.out.symm, 0, rfl⟩

set_option maxHeartbeats 1000000 in
theorem outs_any (A B : Option Addr) (c d H : Nat) (l l' : List O) (w : World) (hA : Rd w H 5 A l.length (l.flatMap O.cs)) (hB : Rd w H 5 B l'.length (l'.flatMap O.cs)) (hn : l.length ≤ 1000000000) :
    Calls Try.prog 32 #[.slice A l.length c, .slice B l'.length d] w fun e w' => e = .returned (.bool (l == l')) ∧ ∃ k, w' = w.drewN k := by
  by_cases hl : l.length = l'.length
  · have hb : ((l.length : Int) != (l'.length : Int)) = false := by simp [hl]
    have HL := hide hl; clear hl
    have fin : ∀ k, Ending.returned (.bool (l == l')) = .returned (.bool (l == l')) ∧ ∃ k', w.drewN k = w.drewN k' := fun k => ⟨rfl, k, rfl⟩
    have hlt' : ∀ k, k < l.length → k < l'.length := fun k h => by have := HL.out; omega
    have HT := hide hlt'; clear hlt' fin
    go_enter Try.func32, Try.ntmps32
    go_wp2
    go_loopw [5] (fun i wr => ∃ k : Nat, k ≤ l.length ∧ i = .int .i64 k ∧ (l == l') = (l.drop k == l'.drop k) ∧ ∃ m, wr = w.drewN m) (fun i _ => l.length - (intOf i).toNat)
    case atStart => exact ⟨0, by omega, rfl, rfl, 0, rfl⟩
    case round =>
      obtain ⟨k, hk, rfl, he, m, rfl⟩ := hrel
      have HE := hide he; clear he
      by_cases hlt : k < l.length
      · have hlt' := HT.out k hlt
        have HD := hide (drop_eq hlt hlt')
        obtain ⟨b, o, rfl, _, e0, e1, e2, e3, e4⟩ := cells_at hA hlt
        obtain ⟨b', o', rfl, _, e0', e1', e2', e3', e4'⟩ := cells_at hB hlt'
        have hne := fun W => neqO l[k].kind l[k].code l[k].seq l[k].timer l[k].after l'[k].kind l'[k].code l'[k].seq l'[k].timer l'[k].after W
        by_cases hq : l[k] = l'[k]
        · have hq' : decide ((⟨l[k].kind, l[k].code, l[k].seq, l[k].timer, l[k].after⟩ : O) = ⟨l'[k].kind, l'[k].code, l'[k].seq, l'[k].timer, l'[k].after⟩) = true := decide_eq_true hq
          simp only [hq', Bool.not_true] at hne
          have HQ := hide hq; clear hq hq'
          go_wp2
          go_quiet (fail)
          go_wp2
          go_roundw
          case rel => exact ⟨k + 1, by omega, by go_num, by rw [HE.out, HD.out, decide_eq_true HQ.out, Bool.true_and], _, rfl⟩
          case measure => simp [intOf]; omega
        · have hq' : decide ((⟨l[k].kind, l[k].code, l[k].seq, l[k].timer, l[k].after⟩ : O) = ⟨l'[k].kind, l'[k].code, l'[k].seq, l'[k].timer, l'[k].after⟩) = false := decide_eq_false hq
          simp only [hq', Bool.not_false] at hne
          have HQ := hide hq; clear hq hq'
          go_wp2
          go_quiet (fail)
          go_wp2
          go_ret
          exact ⟨ret_bool (by rw [HE.out, HD.out, decide_eq_false HQ.out, Bool.false_and]), _, World.drewN_drewN _ _ _⟩
      · go_wp2
        go_ret
        refine ⟨ret_bool ?_, _, rfl⟩
        have := HL.out
        rw [HE.out, List.drop_of_length_le (by omega), List.drop_of_length_le (by omega)]
        rfl
  · have hb : ((l.length : Int) != (l'.length : Int)) = true := by simpa using fun h => hl (by omega)
    have e : (l == l') = false := by rw [beq_eq_false_iff_ne]; rintro rfl; exact hl rfl
    have E := hide e; have HL := hide hl; clear e hl
    go_enter Try.func32, Try.ntmps32
    go_wp2
    go_ret
    exact ⟨ret_bool E.out.symm, 0, rfl⟩

theorem sends_any (c s : Int) (w : World) :
    Calls Try.prog 50 #[.int .i64 c, .int .i64 s] w fun e w' => ∃ v, e = .returned v ∧ Below w.heap.size w w' ∧ w'.ownsRow w.heap.size 70 5 v 3 ([sendO c s, timerO 1 500, timerO 2 32000].flatMap O.cs) := by
  go_enter Try.func50, Try.ntmps50
  go_wp2
  go_ret
  refine ⟨_, rfl, (Below.refl _ _).alloc (Nat.le_refl _) _, own_lit (k := w.heap.size) (n := 3) (cs := #[.int .u8 1, .int .i64 c, .int .i64 s, .int .i64 0, .int .i64 0, .int .u8 3, .int .i64 0, .int .i64 0, .int .i64 1, .int .i64 500, .int .u8 3, .int .i64 0, .int .i64 0, .int .i64 2, .int .i64 32000]) (hhere _ _ _ rfl) (Nat.le_refl _) rfl (by simp [maxLen])⟩
end Go.Proofs.Ytdllehgiambkcaa.Pv
