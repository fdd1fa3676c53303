/- The walk of ProvisionalSteps. -/
import Derived.Test.YtdllehgiambkcaaPvSen
import Derived.Deep.CutBlock
import Derived.IntWalk
namespace Go.Proofs.Ytdllehgiambkcaa.Pv
open Go.RowKit

theorem below_new {w w1 : World} {cs : Array Value} {t : TypeId} (h : w1 = w.alloc (.cells cs t)) : Below w.heap.size w w1 := by
  rw [h]; exact (Below.refl _ _).alloc (Nat.le_refl _) _

def R.cut (r : R) : R := { r with q := r.q.take 40 }
theorem R.cut_len (r : R) : r.cut.q.length ≤ 40 := by simp [R.cut, List.length_take]; omega

theorem ix0 (a b c : Value) (w : World) : (Instr.index 90 (.agg #[a, b, c]) (.int .i64 0)).run Try.prog w = .ok a w := by kernel_rfl
theorem ix1 (a b c : Value) (w : World) : (Instr.index 90 (.agg #[a, b, c]) (.int .i64 1)).run Try.prog w = .ok b w := by kernel_rfl
theorem ix2 (a b c : Value) (w : World) : (Instr.index 90 (.agg #[a, b, c]) (.int .i64 2)).run Try.prog w = .ok c w := by kernel_rfl
theorem idx3 (a b c : Int) {j : Nat} (h : j < 3) : ∃ kv : Int, ∀ w, (Instr.index 90 (.agg #[.int .i64 a, .int .i64 b, .int .i64 c]) (.int .i64 (j : Int))).run Try.prog w = .ok (.int .i64 kv) w := by
  rcases (show j = 0 ∨ j = 1 ∨ j = 2 by omega) with rfl | rfl | rfl
  · exact ⟨a, ix0 _ _ _⟩
  · exact ⟨b, ix1 _ _ _⟩
  · exact ⟨c, ix2 _ _ _⟩

set_option maxRecDepth 100000 in
set_option maxHeartbeats 16000000 in
theorem steps_any (r s : R) (A B : Option Addr) (c d : Nat) (n : Int) (w : World) (hA : Rd w w.heap.size 1 A r.q.length (ints r.q)) (hB : Rd w w.heap.size 1 B s.q.length (ints s.q)) (hc : r.q.length ≤ c) (hd : s.q.length ≤ d) (hw : -9223372036854775808 ≤ r.wait ∧ r.wait ≤ 9223372036854775807) :
    Calls Try.prog 13 #[.agg #[.int .i64 r.seq, .int .i64 r.code, .int .i64 r.wait, .slice A r.q.length c, .bool r.fin, .bool r.failed], .agg #[.int .i64 s.seq, .int .i64 s.code, .int .i64 s.wait, .slice B s.q.length d, .bool s.fin, .bool s.failed], .int .i64 n] w fun e w' => e = .returned (.bool true) ∧ Below w.heap.size w w' := by
  have HA1 : ∀ W : World, Below w.heap.size w W → Rd W W.heap.size 1 A r.q.length (ints r.q) := fun W hb => (hA.below hb).more hb.size
  have HB1 : ∀ W : World, Below w.heap.size w W → Rd W W.heap.size 1 B s.q.length (ints s.q) := fun W hb => (hB.below hb).more hb.size
  have HRA := hide HA1
  have HRB := hide HB1
  clear HA1 HB1 hA hB
  go_enter Try.func13, Try.ntmps13
  go_upto_region 1 with fail
  go_cut [6] from 16 to 19 (fun v wx => v = .bool false ∧ ∃ A3 c3 A4 c4, SenAt wx w.heap.size r.cut A3 c3 ∧ SenAt wx (w.heap.size + 1) s.cut A4 c4 ∧ Below w.heap.size w wx ∧ (0 < r.cut.q.length → ∀ b o, A3 = some ⟨b, o, none⟩ → w.heap.size + 2 ≤ b))
  case first =>
    have Z0 : Box ((w.alloc (.cells #[.int .i64 r.seq, .int .i64 r.code, .int .i64 r.wait, .slice A r.q.length c, .bool r.fin, .bool r.failed] 61)).alloc (.cells #[.int .i64 s.seq, .int .i64 s.code, .int .i64 s.wait, .slice B s.q.length d, .bool s.fin, .bool s.failed] 61)) w.heap.size #[.int .i64 r.seq, .int .i64 r.code, .int .i64 r.wait, .slice A r.q.length c, .bool r.fin, .bool r.failed] := (Box.new w _ 61).alloc _
    have Z1 : Box ((w.alloc (.cells #[.int .i64 r.seq, .int .i64 r.code, .int .i64 r.wait, .slice A r.q.length c, .bool r.fin, .bool r.failed] 61)).alloc (.cells #[.int .i64 s.seq, .int .i64 s.code, .int .i64 s.wait, .slice B s.q.length d, .bool s.fin, .bool s.failed] 61)) (w.heap.size + 1) #[.int .i64 s.seq, .int .i64 s.code, .int .i64 s.wait, .slice B s.q.length d, .bool s.fin, .bool s.failed] := by
      have := Box.new (w.alloc (.cells #[.int .i64 r.seq, .int .i64 r.code, .int .i64 r.wait, .slice A r.q.length c, .bool r.fin, .bool r.failed] 61)) #[.int .i64 s.seq, .int .i64 s.code, .int .i64 s.wait, .slice B s.q.length d, .bool s.fin, .bool s.failed] 61
      simpa using this
    have ZB : Below w.heap.size w ((w.alloc (.cells #[.int .i64 r.seq, .int .i64 r.code, .int .i64 r.wait, .slice A r.q.length c, .bool r.fin, .bool r.failed] 61)).alloc (.cells #[.int .i64 s.seq, .int .i64 s.code, .int .i64 s.wait, .slice B s.q.length d, .bool s.fin, .bool s.failed] 61)) := ((Below.refl _ _).alloc (Nat.le_refl _) _).alloc (by simp) _
    have ZS : w.heap.size + 2 ≤ ((w.alloc (.cells #[.int .i64 r.seq, .int .i64 r.code, .int .i64 r.wait, .slice A r.q.length c, .bool r.fin, .bool r.failed] 61)).alloc (.cells #[.int .i64 s.seq, .int .i64 s.code, .int .i64 s.wait, .slice B s.q.length d, .bool s.fin, .bool s.failed] 61)).heap.size := by simp
    have HCr := hide hc
    have HCs := hide hd
    have z0 := Z0.cell
    have z1 := Z1.cell
    go_region_law ((go_simp; (first
      | (go_at_call_of 41 (Value.int .i64 r.seq); go_must (refine (copied_any r r.cut.q A c _ ?_ HCr.out rfl).mono ?_; (first | exact HRA.out _ ZB | exact HRA.out _ ZB.drew); rintro e w1 ⟨A3, c3, rfl, hb1, QR, Kr, F1⟩; have ZS1 : w.heap.size + 2 ≤ w1.heap.size := Nat.le_trans ZS hb1.size; have FR : 0 < r.cut.q.length → ∀ b o, A3 = some ⟨b, o, none⟩ → w.heap.size + 2 ≤ b := fun h0 b o e => Nat.le_trans ZS (F1 h0 b o e); replace ZB : Below w.heap.size w w1 := (by first | exact ZB.trans (hb1.mono (Nat.le_trans (Nat.le_add_right _ 2) ZS)) | exact ZB.drew.trans (hb1.mono (Nat.le_trans (Nat.le_add_right _ 2) ZS))); replace Z0 : Box w1 w.heap.size #[.int .i64 r.seq, .int .i64 r.code, .int .i64 r.wait, .slice A r.q.length c, .bool r.fin, .bool r.failed] := (by first | exact Z0.past hb1 | exact Z0.drew.past hb1); replace Z1 : Box w1 (w.heap.size + 1) #[.int .i64 s.seq, .int .i64 s.code, .int .i64 s.wait, .slice B s.q.length d, .bool s.fin, .bool s.failed] := (by first | exact Z1.past hb1 | exact Z1.drew.past hb1); (try (replace QS := QS.past hb1)); clear F1 hb1 ZS; have ZS := ZS1; clear ZS1; have z0 := Z0.cell; have z1 := Z1.cell; have zf0 := Z0.free; have zf1 := Z1.free; have zl0 := Z0.lt; have zl1 := Z1.lt))
      | (go_at_call_of 41 (Value.int .i64 s.seq); go_must (refine (copied_any s s.cut.q B d _ ?_ HCs.out rfl).mono ?_; (first | exact HRB.out _ ZB | exact HRB.out _ ZB.drew); rintro e w1 ⟨A4, c4, rfl, hb1, QS, Ks, F1⟩; have ZS1 : w.heap.size + 2 ≤ w1.heap.size := Nat.le_trans ZS hb1.size; have FS : 0 < s.cut.q.length → ∀ b o, A4 = some ⟨b, o, none⟩ → w.heap.size + 2 ≤ b := fun h0 b o e => Nat.le_trans ZS (F1 h0 b o e); replace ZB : Below w.heap.size w w1 := (by first | exact ZB.trans (hb1.mono (Nat.le_trans (Nat.le_add_right _ 2) ZS)) | exact ZB.drew.trans (hb1.mono (Nat.le_trans (Nat.le_add_right _ 2) ZS))); replace Z0 : Box w1 w.heap.size #[.int .i64 r.seq, .int .i64 r.code, .int .i64 r.wait, .slice A r.q.length c, .bool r.fin, .bool r.failed] := (by first | exact Z0.past hb1 | exact Z0.drew.past hb1); replace Z1 : Box w1 (w.heap.size + 1) #[.int .i64 s.seq, .int .i64 s.code, .int .i64 s.wait, .slice B s.q.length d, .bool s.fin, .bool s.failed] := (by first | exact Z1.past hb1 | exact Z1.drew.past hb1); (try (replace QR := QR.past hb1)); clear F1 hb1 ZS; have ZS := ZS1; clear ZS1; have z0 := Z0.cell; have z1 := Z1.cell; have zf0 := Z0.free; have zf1 := Z1.free; have zl0 := Z0.lt; have zl1 := Z1.lt)))))
    all_goals (go_wp2_with fail; go_meet)
    all_goals
      have FR' : 0 < r.cut.q.length → ∀ b o, A3 = some ⟨b, o, none⟩ → b ≠ w.heap.size ∧ b ≠ w.heap.size + 1 := fun h0 b o e => by have := FR h0 b o e; omega
      have FS' : 0 < s.cut.q.length → ∀ b o, A4 = some ⟨b, o, none⟩ → b ≠ w.heap.size ∧ b ≠ w.heap.size + 1 := fun h0 b o e => by have := FS h0 b o e; omega
      refine ⟨rfl, A3, c3, A4, c4, ⟨box_far6 (g := w.heap.size + 1) (box_set6 Z0 rfl _ _ _ _ _ _) (by omega) _ _ _ _ _ _, rd_lay (rd_lay QR (fun h0 b o e => (FR' h0 b o e).1) _ _ _ _ _ _) (fun h0 b o e => (FR' h0 b o e).2) _ _ _ _ _ _, Kr⟩, ⟨box_set6 (box_far6 (g := w.heap.size) Z1 (by omega) _ _ _ _ _ _) rfl _ _ _ _ _ _, rd_lay (rd_lay QS (fun h0 b o e => (FS' h0 b o e).1) _ _ _ _ _ _) (fun h0 b o e => (FS' h0 b o e).2) _ _ _ _ _ _, Ks⟩, ?_, FR⟩
      exact below_set6 (below_set6 ZB (Nat.le_refl _) _ _ _ _ _ _) (Nat.le_succ _) _ _ _ _ _ _
  case rest =>
    obtain ⟨rfl, A3, c3, A4, c4, S3, S4, hB, hf3⟩ := hcut
    have hz2 : w.heap.size + 2 ≤ wc.heap.size := by have := S4.box.lt; omega
    have HF3 := hide hf3
    clear hf3
    have l40 := r.cut_len
    have l40' := s.cut_len
    have hwc : -9223372036854775808 ≤ r.cut.wait ∧ r.cut.wait ≤ 9223372036854775807 := hw
    generalize r.cut = r at *
    generalize s.cut = s at *
    obtain ⟨t1, t2, t3⟩ := S3.rules
    obtain ⟨t4, t5, t6⟩ := S4.rules
    go_wp2_with fail
    refine (copied_any r r.q A3 c3 _ S3.q S3.qcap (List.take_of_length_le l40).symm).mono ?_
    rintro e w1 ⟨A7, c7, rfl, hb1, hR7, hc7, hf7⟩
    replace S3 := S3.past hb1
    replace S4 := S4.past hb1
    replace hB := hB.trans (hb1.mono hB.size)
    clear t1 t2 t3 t4 t5 t6
    have HF7 : Hid (0 < r.q.length → ∀ b o, A7 = some ⟨b, o, none⟩ → w.heap.size + 2 ≤ b) := hide (fun h0 b o e => by have := hf7 h0 b o e; have := hz2; omega)
    clear hf7 hb1
    obtain ⟨t1, t2, t3⟩ := S3.rules
    obtain ⟨t4, t5, t6⟩ := S4.rules
    have l40b : r.q.length ≤ 1000 := by omega
    have hself : sameR r r = true := sameR_self r
    go_upto_region 3 with fail
    have S7 : SenAt (w1.alloc (.cells #[.int .i64 r.seq, .int .i64 r.code, .int .i64 r.wait, .slice A7 r.q.length c7, .bool r.fin, .bool r.failed] 61)) w1.heap.size r A7 c7 := ⟨Box.new _ _ _, rd_allocs hR7 _, hc7⟩
    replace S3 := S3.alloc (.cells #[.int .i64 r.seq, .int .i64 r.code, .int .i64 r.wait, .slice A7 r.q.length c7, .bool r.fin, .bool r.failed] 61)
    replace S4 := S4.alloc (.cells #[.int .i64 r.seq, .int .i64 r.code, .int .i64 r.wait, .slice A7 r.q.length c7, .bool r.fin, .bool r.failed] 61)
    replace hB := hB.alloc hB.size (.cells #[.int .i64 r.seq, .int .i64 r.code, .int .i64 r.wait, .slice A7 r.q.length c7, .bool r.fin, .bool r.failed] 61)
    have hg7 : w.heap.size + 2 ≤ w1.heap.size := by have := t4; omega
    have HQ3 := hide S3.qcap
    have HQ7 := hide S7.qcap
    clear t1 t2 t3 t4 t5 t6 hR7 hc7
    generalize w1.heap.size = g7 at *
    generalize w1.alloc (.cells #[.int .i64 r.seq, .int .i64 r.code, .int .i64 r.wait, .slice A7 r.q.length c7, .bool r.fin, .bool r.failed] 61) = wy at *
    go_cut [41] from 22 to 41 (fun v wx => v = .bool false ∧ SenAt wx w.heap.size r A3 c3 ∧ SenAt wx g7 r A7 c7 ∧ Below w.heap.size w wx)
    case first =>
      obtain ⟨t1, t2, t3⟩ := S3.rules
      obtain ⟨t4, t5, t6⟩ := S4.rules
      obtain ⟨t7, t8, t9⟩ := S7.rules
      go_region_held3 (fun w' => w'.cell? ⟨w.heap.size, 0, none⟩ = some (.int .i64 r.seq) ∧ w'.cell? ⟨w.heap.size, 1, none⟩ = some (.int .i64 r.code) ∧ w'.cell? ⟨w.heap.size, 2, none⟩ = some (.int .i64 r.wait) ∧ w'.cell? ⟨w.heap.size, 3, none⟩ = some (.slice A3 r.q.length c3) ∧ w'.cell? ⟨w.heap.size, 4, none⟩ = some (.bool r.fin) ∧ w'.cell? ⟨w.heap.size, 5, none⟩ = some (.bool r.failed) ∧ w'.cell? ⟨w.heap.size + 1, 0, none⟩ = some (.int .i64 s.seq) ∧ w'.cell? ⟨w.heap.size + 1, 1, none⟩ = some (.int .i64 s.code) ∧ w'.cell? ⟨w.heap.size + 1, 2, none⟩ = some (.int .i64 s.wait) ∧ w'.cell? ⟨w.heap.size + 1, 3, none⟩ = some (.slice A4 s.q.length c4) ∧ w'.cell? ⟨w.heap.size + 1, 4, none⟩ = some (.bool s.fin) ∧ w'.cell? ⟨w.heap.size + 1, 5, none⟩ = some (.bool s.failed) ∧ w'.cell? ⟨g7, 0, none⟩ = some (.int .i64 r.seq) ∧ w'.cell? ⟨g7, 1, none⟩ = some (.int .i64 r.code) ∧ w'.cell? ⟨g7, 2, none⟩ = some (.int .i64 r.wait) ∧ w'.cell? ⟨g7, 3, none⟩ = some (.slice A7 r.q.length c7) ∧ w'.cell? ⟨g7, 4, none⟩ = some (.bool r.fin) ∧ w'.cell? ⟨g7, 5, none⟩ = some (.bool r.failed)) ((exact ⟨S3.box.cell 0, S3.box.cell 1, S3.box.cell 2, S3.box.cell 3, S3.box.cell 4, S3.box.cell 5, S4.box.cell 0, S4.box.cell 1, S4.box.cell 2, S4.box.cell 3, S4.box.cell 4, S4.box.cell 5, S7.box.cell 0, S7.box.cell 1, S7.box.cell 2, S7.box.cell 3, S7.box.cell 4, S7.box.cell 5⟩)) (first
      | (go_at_call 29; go_must (refine (may_any r A3 c3 _ ?_ l40b HQ3.out hwc).mono ?_; (first | exact S3.q | exact S3.drew.q); rintro e w1 ⟨rfl, cs, hw1⟩; have hb1 := below_new hw1; clear hw1; replace S3 : SenAt w1 w.heap.size r A3 c3 := (by first | exact S3.past hb1 | exact S3.drew.past hb1); replace S4 : SenAt w1 (w.heap.size + 1) s A4 c4 := (by first | exact S4.past hb1 | exact S4.drew.past hb1); replace S7 : SenAt w1 g7 r A7 c7 := (by first | exact S7.past hb1 | exact S7.drew.past hb1); replace hB : Below w.heap.size w w1 := (by first | exact hB.trans (hb1.mono hB.size) | exact hB.drew.trans (hb1.mono hB.size)); clear hb1))
      | (go_at_call 42; go_must (refine (rmay_any r A7 c7 _ ?_ l40b HQ7.out).mono ?_; (first | exact S7.q | exact S7.drew.q); rintro e w1 ⟨rfl, cs, hw1⟩; have hb1 := below_new hw1; clear hw1; replace S3 : SenAt w1 w.heap.size r A3 c3 := (by first | exact S3.past hb1 | exact S3.drew.past hb1); replace S4 : SenAt w1 (w.heap.size + 1) s A4 c4 := (by first | exact S4.past hb1 | exact S4.drew.past hb1); replace S7 : SenAt w1 g7 r A7 c7 := (by first | exact S7.past hb1 | exact S7.drew.past hb1); replace hB : Below w.heap.size w w1 := (by first | exact hB.trans (hb1.mono hB.size) | exact hB.drew.trans (hb1.mono hB.size)); clear hb1))
      | (go_at_call_of 43 (Value.slice A4 s.q.length c4); go_must (refine (same_any r s A3 A4 c3 c4 _ ?_ ?_ l40b).mono ?_; (first | exact S3.q | exact S3.drew.q); (first | exact S4.q | exact S4.drew.q); rintro e w1 ⟨rfl, hb1⟩; replace S3 : SenAt w1 w.heap.size r A3 c3 := (by first | exact S3.past hb1 | exact S3.drew.past hb1); replace S4 : SenAt w1 (w.heap.size + 1) s A4 c4 := (by first | exact S4.past hb1 | exact S4.drew.past hb1); replace S7 : SenAt w1 g7 r A7 c7 := (by first | exact S7.past hb1 | exact S7.drew.past hb1); replace hB : Below w.heap.size w w1 := (by first | exact hB.trans (hb1.mono hB.size) | exact hB.drew.trans (hb1.mono hB.size)); clear hb1))
      | (go_at_call_of 43 (Value.slice A7 r.q.length c7); go_must (refine (same_any r r A3 A7 c3 c7 _ ?_ ?_ l40b).mono ?_; (first | exact S3.q | exact S3.drew.q); (first | exact S7.q | exact S7.drew.q); rintro e w1 ⟨rfl, hb1⟩; replace S3 : SenAt w1 w.heap.size r A3 c3 := (by first | exact S3.past hb1 | exact S3.drew.past hb1); replace S4 : SenAt w1 (w.heap.size + 1) s A4 c4 := (by first | exact S4.past hb1 | exact S4.drew.past hb1); replace S7 : SenAt w1 g7 r A7 c7 := (by first | exact S7.past hb1 | exact S7.drew.past hb1); replace hB : Below w.heap.size w w1 := (by first | exact hB.trans (hb1.mono hB.size) | exact hB.drew.trans (hb1.mono hB.size)); clear hb1))
      | (go_at_call 44; go_must (refine (rsame_any r s A7 A4 c7 c4 _ ?_ ?_ l40b).mono ?_; (first | exact S7.q | exact S7.drew.q); (first | exact S4.q | exact S4.drew.q); rintro e w1 ⟨rfl, hb1⟩; replace S3 : SenAt w1 w.heap.size r A3 c3 := (by first | exact S3.past hb1 | exact S3.drew.past hb1); replace S4 : SenAt w1 (w.heap.size + 1) s A4 c4 := (by first | exact S4.past hb1 | exact S4.drew.past hb1); replace S7 : SenAt w1 g7 r A7 c7 := (by first | exact S7.past hb1 | exact S7.drew.past hb1); replace hB : Below w.heap.size w w1 := (by first | exact hB.trans (hb1.mono hB.size) | exact hB.drew.trans (hb1.mono hB.size)); clear hb1)))
      go_wp2_with fail
      go_meet
      first
        | exact ⟨rfl, S3, S7, hB⟩
        | exact ⟨rfl, S3.drew, S7.drew, hB.drew⟩
    case rest =>
      obtain ⟨rfl, S3, S7, hB⟩ := hcut
      clear S4
      obtain ⟨t1, t2, t3⟩ := S3.rules
      go_wp2_with fail
      generalize wrap64 ((IntKind.u64.wrap n).tmod 700) = nn at *
      have l40c : r.q.length ≤ 900 := by omega
      go_loopw [50] (fun i wr => ∃ j : Nat, j ≤ 3 ∧ i = .int .i64 j ∧ SenAt wr w.heap.size r A3 c3 ∧ SenAt wr g7 r A7 c7 ∧ Below w.heap.size w wr) (fun i _ => 3 - (intOf i).toNat)
      case atStart => exact ⟨0, by omega, rfl, S3, S7, hB⟩
      case round =>
        clear S3 S7 hB t1 t2 t3
        obtain ⟨j, hj, rfl, S3, S7, hB⟩ := hrel
        have hj3 : (j : Int) ≤ 3 := by omega
        obtain ⟨t1, t2, t3⟩ := S3.rules
        by_cases hlt : j < 3
        · obtain ⟨kv, hkv⟩ := idx3 n nn r.seq hlt
          have hlt' : (j : Int) < 3 := by omega
          go_wp2_with fail
          obtain ⟨X, hX, hXl, hXo⟩ : ∃ X, offer r kv = X ∧ X.r.q.length ≤ 1000 ∧ X.l.length ≤ 1000000000 := ⟨_, rfl, by have := (offer_len r kv).1; omega, by have := (offer_len r kv).2; omega⟩
          have HX := hide hX
          clear hX
          have hX1 : sameR X.r X.r = true := sameR_self _
          have hX2 : (X.l == X.l) = true := by simp
          refine (offer_any r A3 c3 _ kv S3.q (by omega) S3.qcap hwc).mono ?_
          rw [HX.out]
          rintro e w1 ⟨A2, c2, v2, rfl, hb1, hR2, hc2, ho2, hn2⟩
          obtain ⟨V2, k2, rfl, -, hO2⟩ := own_slice ho2
          replace S3 := S3.past hb1
          replace S7 := S7.past hb1
          replace hB := hB.trans (hb1.mono hB.size)
          clear hb1 hn2 ho2 t1 t2 t3
          obtain ⟨t1, t2, t3⟩ := S3.rules
          obtain ⟨t4, t5, t6⟩ := S7.rules
          go_wp2_with fail
          have B10 := Box.new w1 #[.int .i64 X.r.seq, .int .i64 X.r.code, .int .i64 X.r.wait, .slice A2 X.r.q.length c2, .bool X.r.fin, .bool X.r.failed] 61
          replace hB := hB.alloc hB.size (.cells #[.int .i64 X.r.seq, .int .i64 X.r.code, .int .i64 X.r.wait, .slice A2 X.r.q.length c2, .bool X.r.fin, .bool X.r.failed] 61)
          have g10a : w.heap.size < w1.heap.size := t1
          have g10b : g7 < w1.heap.size := t4
          have n3 := S3.qlt
          have n7 := S7.qlt
          have N3 := hide n3
          have N7 := hide n7
          clear n3 n7
          replace S3 := S3.alloc (.cells #[.int .i64 X.r.seq, .int .i64 X.r.code, .int .i64 X.r.wait, .slice A2 X.r.q.length c2, .bool X.r.fin, .bool X.r.failed] 61)
          replace S7 := S7.alloc (.cells #[.int .i64 X.r.seq, .int .i64 X.r.code, .int .i64 X.r.wait, .slice A2 X.r.q.length c2, .bool X.r.fin, .bool X.r.failed] 61)
          refine (roffer_any r A7 c7 _ kv S7.q (by omega) S7.qcap).mono ?_
          rw [HX.out]
          rintro e w2 ⟨A2', c2', V2', k2', rfl, hb2, hR2', hc2', hO2', -, -⟩
          replace S3 := S3.past hb2
          replace S7 := S7.past hb2
          replace B10 := B10.past hb2
          have QA := (rd_allocs hR2 (.cells #[.int .i64 X.r.seq, .int .i64 X.r.code, .int .i64 X.r.wait, .slice A2 X.r.q.length c2, .bool X.r.fin, .bool X.r.failed] 61)).past hb2
          have QO := (rd_allocs hO2 (.cells #[.int .i64 X.r.seq, .int .i64 X.r.code, .int .i64 X.r.wait, .slice A2 X.r.q.length c2, .bool X.r.fin, .bool X.r.failed] 61)).past hb2
          replace hB := hB.trans (hb2.mono hB.size)
          have g13c : w1.heap.size < w2.heap.size := B10.lt
          clear hb2 hR2 hO2 t1 t2 t3 t4 t5 t6
          obtain ⟨t1, t2, t3⟩ := S3.rules
          obtain ⟨t4, t5, t6⟩ := S7.rules
          have t7 := B10.cell
          have t8 := B10.free
          go_wp2_with fail
          have HR : Rnd w (w2.alloc (.cells #[.int .i64 X.r.seq, .int .i64 X.r.code, .int .i64 X.r.wait, .slice A2' X.r.q.length c2', .bool X.r.fin, .bool X.r.failed] 61)) w.heap.size g7 w1.heap.size w2.heap.size r A3 c3 A7 c7 :=
            ⟨S3.alloc _, S7.alloc _, ⟨_, rfl, B10.alloc _⟩, ⟨_, rfl, Box.new _ _ _⟩, ⟨by omega, by omega, by omega, by omega, by omega⟩, fun h0 b o e => by have := N3.out h0 b o e; omega, fun h0 b o e => by have := N7.out h0 b o e; omega, hB.alloc hB.size _, ⟨by omega, hB.size⟩⟩
          replace QA := rd_allocs QA (.cells #[.int .i64 X.r.seq, .int .i64 X.r.code, .int .i64 X.r.wait, .slice A2' X.r.q.length c2', .bool X.r.fin, .bool X.r.failed] 61)
          replace QO := rd_allocs QO (.cells #[.int .i64 X.r.seq, .int .i64 X.r.code, .int .i64 X.r.wait, .slice A2' X.r.q.length c2', .bool X.r.fin, .bool X.r.failed] 61)
          have QA' := rd_allocs hR2' (.cells #[.int .i64 X.r.seq, .int .i64 X.r.code, .int .i64 X.r.wait, .slice A2' X.r.q.length c2', .bool X.r.fin, .bool X.r.failed] 61)
          have QO' := rd_allocs hO2' (.cells #[.int .i64 X.r.seq, .int .i64 X.r.code, .int .i64 X.r.wait, .slice A2' X.r.q.length c2', .bool X.r.fin, .bool X.r.failed] 61)
          clear t1 t2 t3 t4 t5 t6 t7 t8 B10 S3 S7 hB hR2' hO2' N3 N7
          generalize hg10 : w1.heap.size = g10 at *
          generalize hg13 : w2.heap.size = g13 at *
          clear hg10 hg13
          refine (rsame_any X.r X.r A2 A2' c2 c2' _ QA QA' hXl).mono ?_
          rintro e w3 ⟨rfl, hb3⟩
          replace HR := HR.past hb3
          replace QO := QO.past hb3
          replace QO' := QO'.past hb3
          clear hb3 QA QA'
          go_wp2_with fail
          refine (routs_any V2 V2' k2 k2' _ X.l X.l _ QO QO' hXo).mono ?_
          rintro e w4 ⟨rfl, kk, rfl⟩
          replace HR := HR.past (below_drewN' (Below.refl _ _) kk)
          clear QO QO'
          generalize w3.drewN kk = w4 at *
          clear hX1 hX2 hXl hXo HX hc2 hc2'
          obtain ⟨t1, t2, t3⟩ := HR.s3.rules
          go_wp2_with fail
          obtain ⟨X, hX, hXl, hXo⟩ : ∃ X, ack r kv = X ∧ X.r.q.length ≤ 1000 ∧ X.l.length ≤ 1000000000 := ⟨_, rfl, by have := (ack_len r kv).1; omega, by have := (ack_len r kv).2; omega⟩
          have HX := hide hX
          clear hX
          have hX1 : sameR X.r X.r = true := sameR_self _
          have hX2 : (X.l == X.l) = true := by simp
          refine (ack_any r A3 c3 _ kv HR.s3.q (by omega) HR.s3.qcap hwc).mono ?_
          rw [HX.out]
          rintro e w1 ⟨A2, c2, v2, rfl, hb1, hR2, hc2, ho2, hn2⟩
          obtain ⟨V2, k2, rfl, -, hO2⟩ := own_slice ho2
          obtain ⟨u0, u1, u2, u3, u4, u5, B0⟩ := HR.open10
          obtain ⟨x0, x1, x2, x3, x4, x5, B1⟩ := HR.open13
          have NV : ∀ b o, V2 = some ⟨b, o, none⟩ → b ≠ g10 ∧ b ≠ g13 := fun b o e => by have h1 := own_lo ho2 b o e; have h2 := B0.lt; have h3 := B1.lt; omega
          have NA : 0 < X.r.q.length → ∀ b o, A2 = some ⟨b, o, none⟩ → b ≠ g10 ∧ b ≠ g13 := fun h0 b o e => by have h1 := hn2 h0 b o e; have h2 := B0.lt; have h3 := B1.lt; omega
          have HNV := hide NV
          have HNA := hide NA
          clear hn2 ho2 NV NA
          replace HR := HR.past hb1
          replace B0 := B0.past hb1
          clear hb1 B1 t1 t2 t3
          obtain ⟨t1, t2, t3⟩ := HR.s3.rules
          obtain ⟨t4, t5, t6⟩ := HR.s7.rules
          have t7 := B0.cell
          have t8 := B0.free
          have t9 := HR.n1
          obtain ⟨m1, m2, m3, m4, m5⟩ := t9
          go_wp2_with fail
          replace HR := HR.lay10 (.int .i64 X.r.seq) (.int .i64 X.r.code) (.int .i64 X.r.wait) (.slice A2 X.r.q.length c2) (.bool X.r.fin) (.bool X.r.failed)
          have B10 := box_set6 B0 rfl (.int .i64 X.r.seq) (.int .i64 X.r.code) (.int .i64 X.r.wait) (.slice A2 X.r.q.length c2) (.bool X.r.fin) (.bool X.r.failed)
          have QA := rd_lay (g := g10) hR2 (fun h0 b o e => (HNA.out h0 b o e).1) (.int .i64 X.r.seq) (.int .i64 X.r.code) (.int .i64 X.r.wait) (.slice A2 X.r.q.length c2) (.bool X.r.fin) (.bool X.r.failed)
          have QO := rd_lay (g := g10) hO2 (fun _ b o e => (HNV.out b o e).1) (.int .i64 X.r.seq) (.int .i64 X.r.code) (.int .i64 X.r.wait) (.slice A2 X.r.q.length c2) (.bool X.r.fin) (.bool X.r.failed)
          refine (rack_any r A7 c7 _ kv HR.s7.q (by omega) HR.s7.qcap).mono ?_
          rw [HX.out]
          rintro e w2 ⟨A2', c2', V2', k2', rfl, hb2, hR2', hc2', hO2', hf2', hV2'⟩
          obtain ⟨x0, x1, x2, x3, x4, x5, B1⟩ := HR.open13
          have NV' : ∀ b o, V2' = some ⟨b, o, none⟩ → b ≠ g13 := fun b o e => by have h1 := hV2' b o e; have h3 := B1.lt; intro he; subst he; exact absurd h3 (Nat.not_lt.mpr h1)
          have NA' : 0 < X.r.q.length → ∀ b o, A2' = some ⟨b, o, none⟩ → b ≠ g13 := fun h0 b o e => by
            rcases hf2' h0 b o e with h1 | ⟨h1, h2⟩
            · have h3 := B1.lt
              intro he; subst he; exact absurd h3 (Nat.not_lt.mpr h1)
            · exact (HR.q7 h2 b o h1).2
          have HNV' := hide NV'
          have HNA' := hide NA'
          clear hf2' hV2' NV' NA'
          replace HR := HR.past hb2
          replace B10 := B10.past hb2
          replace B1 := B1.past hb2
          replace QA := QA.past hb2
          replace QO := QO.past hb2
          clear hb2 t1 t2 t3 t4 t5 t6 t7 t8 hR2 hO2 B0
          have t1 := B10.cell
          have t2 := B10.free
          have t3 := B10.lt
          have t4 := B1.cell
          have t5 := B1.free
          have t6 := B1.lt
          go_wp2_with fail
          replace HR := HR.lay13 (.int .i64 X.r.seq) (.int .i64 X.r.code) (.int .i64 X.r.wait) (.slice A2' X.r.q.length c2') (.bool X.r.fin) (.bool X.r.failed)
          replace QA := rd_lay (g := g13) QA (fun h0 b o e => (HNA.out h0 b o e).2) (.int .i64 X.r.seq) (.int .i64 X.r.code) (.int .i64 X.r.wait) (.slice A2' X.r.q.length c2') (.bool X.r.fin) (.bool X.r.failed)
          replace QO := rd_lay (g := g13) QO (fun _ b o e => (HNV.out b o e).2) (.int .i64 X.r.seq) (.int .i64 X.r.code) (.int .i64 X.r.wait) (.slice A2' X.r.q.length c2') (.bool X.r.fin) (.bool X.r.failed)
          have QA' := rd_lay (g := g13) hR2' (fun h0 b o e => HNA'.out h0 b o e) (.int .i64 X.r.seq) (.int .i64 X.r.code) (.int .i64 X.r.wait) (.slice A2' X.r.q.length c2') (.bool X.r.fin) (.bool X.r.failed)
          have QO' := rd_lay (g := g13) hO2' (fun _ b o e => HNV'.out b o e) (.int .i64 X.r.seq) (.int .i64 X.r.code) (.int .i64 X.r.wait) (.slice A2' X.r.q.length c2') (.bool X.r.fin) (.bool X.r.failed)
          clear t1 t2 t3 t4 t5 t6 B10 B1 hR2' hO2' m1 m2 m3 m4 m5
          refine (rsame_any X.r X.r A2 A2' c2 c2' _ QA QA' hXl).mono ?_
          rintro e w3 ⟨rfl, hb3⟩
          replace HR := HR.past hb3
          replace QO := QO.past hb3
          replace QO' := QO'.past hb3
          clear hb3 QA QA'
          go_wp2_with fail
          refine (routs_any V2 V2' k2 k2' _ X.l X.l _ QO QO' hXo).mono ?_
          rintro e w4 ⟨rfl, kk, rfl⟩
          replace HR := HR.past (below_drewN' (Below.refl _ _) kk)
          clear QO QO'
          generalize w3.drewN kk = w4 at *
          clear hX1 hX2 hXl hXo HX hc2 hc2'
          obtain ⟨t1, t2, t3⟩ := HR.s3.rules
          go_wp2_with fail
          obtain ⟨X, hX, hXl, hXo⟩ : ∃ X, fire r (kv.tmod 4) = X ∧ X.r.q.length ≤ 1000 ∧ X.l.length ≤ 1000000000 := ⟨_, rfl, by have := (fire_len r (kv.tmod 4)).1; omega, by have := (fire_len r (kv.tmod 4)).2; omega⟩
          have HX := hide hX
          clear hX
          have hX1 : sameR X.r X.r = true := sameR_self _
          have hX2 : (X.l == X.l) = true := by simp
          refine (fire_any r A3 c3 _ (kv.tmod 4) HR.s3.q (by omega) HR.s3.qcap hwc).mono ?_
          rw [HX.out]
          rintro e w1 ⟨A2, c2, v2, rfl, hb1, hR2, hc2, ho2, hn2⟩
          obtain ⟨V2, k2, rfl, -, hO2⟩ := own_slice ho2
          obtain ⟨u0, u1, u2, u3, u4, u5, B0⟩ := HR.open10
          obtain ⟨x0, x1, x2, x3, x4, x5, B1⟩ := HR.open13
          have NV : ∀ b o, V2 = some ⟨b, o, none⟩ → b ≠ g10 ∧ b ≠ g13 := fun b o e => by have h1 := own_lo ho2 b o e; have h2 := B0.lt; have h3 := B1.lt; omega
          have NA : 0 < X.r.q.length → ∀ b o, A2 = some ⟨b, o, none⟩ → b ≠ g10 ∧ b ≠ g13 := fun h0 b o e => by have h1 := hn2 h0 b o e; have h2 := B0.lt; have h3 := B1.lt; omega
          have HNV := hide NV
          have HNA := hide NA
          clear hn2 ho2 NV NA
          replace HR := HR.past hb1
          replace B0 := B0.past hb1
          clear hb1 B1 t1 t2 t3
          obtain ⟨t1, t2, t3⟩ := HR.s3.rules
          obtain ⟨t4, t5, t6⟩ := HR.s7.rules
          have t7 := B0.cell
          have t8 := B0.free
          have t9 := HR.n1
          obtain ⟨m1, m2, m3, m4, m5⟩ := t9
          go_wp2_with fail
          replace HR := HR.lay10 (.int .i64 X.r.seq) (.int .i64 X.r.code) (.int .i64 X.r.wait) (.slice A2 X.r.q.length c2) (.bool X.r.fin) (.bool X.r.failed)
          have B10 := box_set6 B0 rfl (.int .i64 X.r.seq) (.int .i64 X.r.code) (.int .i64 X.r.wait) (.slice A2 X.r.q.length c2) (.bool X.r.fin) (.bool X.r.failed)
          have QA := rd_lay (g := g10) hR2 (fun h0 b o e => (HNA.out h0 b o e).1) (.int .i64 X.r.seq) (.int .i64 X.r.code) (.int .i64 X.r.wait) (.slice A2 X.r.q.length c2) (.bool X.r.fin) (.bool X.r.failed)
          have QO := rd_lay (g := g10) hO2 (fun _ b o e => (HNV.out b o e).1) (.int .i64 X.r.seq) (.int .i64 X.r.code) (.int .i64 X.r.wait) (.slice A2 X.r.q.length c2) (.bool X.r.fin) (.bool X.r.failed)
          refine (rfire_any r A7 c7 _ (kv.tmod 4) HR.s7.q (by omega) HR.s7.qcap).mono ?_
          rw [HX.out]
          rintro e w2 ⟨A2', c2', V2', k2', rfl, hb2, hR2', hc2', hO2', hf2', hV2'⟩
          obtain ⟨x0, x1, x2, x3, x4, x5, B1⟩ := HR.open13
          have NV' : ∀ b o, V2' = some ⟨b, o, none⟩ → b ≠ g13 := fun b o e => by have h1 := hV2' b o e; have h3 := B1.lt; intro he; subst he; exact absurd h3 (Nat.not_lt.mpr h1)
          have NA' : 0 < X.r.q.length → ∀ b o, A2' = some ⟨b, o, none⟩ → b ≠ g13 := fun h0 b o e => by
            rcases hf2' h0 b o e with h1 | ⟨h1, h2⟩
            · have h3 := B1.lt
              intro he; subst he; exact absurd h3 (Nat.not_lt.mpr h1)
            · exact (HR.q7 h2 b o h1).2
          have HNV' := hide NV'
          have HNA' := hide NA'
          clear hf2' hV2' NV' NA'
          replace HR := HR.past hb2
          replace B10 := B10.past hb2
          replace B1 := B1.past hb2
          replace QA := QA.past hb2
          replace QO := QO.past hb2
          clear hb2 t1 t2 t3 t4 t5 t6 t7 t8 hR2 hO2 B0
          have t1 := B10.cell
          have t2 := B10.free
          have t3 := B10.lt
          have t4 := B1.cell
          have t5 := B1.free
          have t6 := B1.lt
          go_wp2_with fail
          replace HR := HR.lay13 (.int .i64 X.r.seq) (.int .i64 X.r.code) (.int .i64 X.r.wait) (.slice A2' X.r.q.length c2') (.bool X.r.fin) (.bool X.r.failed)
          replace QA := rd_lay (g := g13) QA (fun h0 b o e => (HNA.out h0 b o e).2) (.int .i64 X.r.seq) (.int .i64 X.r.code) (.int .i64 X.r.wait) (.slice A2' X.r.q.length c2') (.bool X.r.fin) (.bool X.r.failed)
          replace QO := rd_lay (g := g13) QO (fun _ b o e => (HNV.out b o e).2) (.int .i64 X.r.seq) (.int .i64 X.r.code) (.int .i64 X.r.wait) (.slice A2' X.r.q.length c2') (.bool X.r.fin) (.bool X.r.failed)
          have QA' := rd_lay (g := g13) hR2' (fun h0 b o e => HNA'.out h0 b o e) (.int .i64 X.r.seq) (.int .i64 X.r.code) (.int .i64 X.r.wait) (.slice A2' X.r.q.length c2') (.bool X.r.fin) (.bool X.r.failed)
          have QO' := rd_lay (g := g13) hO2' (fun _ b o e => HNV'.out b o e) (.int .i64 X.r.seq) (.int .i64 X.r.code) (.int .i64 X.r.wait) (.slice A2' X.r.q.length c2') (.bool X.r.fin) (.bool X.r.failed)
          clear t1 t2 t3 t4 t5 t6 B10 B1 hR2' hO2' m1 m2 m3 m4 m5
          refine (rsame_any X.r X.r A2 A2' c2 c2' _ QA QA' hXl).mono ?_
          rintro e w3 ⟨rfl, hb3⟩
          replace HR := HR.past hb3
          replace QO := QO.past hb3
          replace QO' := QO'.past hb3
          clear hb3 QA QA'
          go_wp2_with fail
          refine (routs_any V2 V2' k2 k2' _ X.l X.l _ QO QO' hXo).mono ?_
          rintro e w4 ⟨rfl, kk, rfl⟩
          replace HR := HR.past (below_drewN' (Below.refl _ _) kk)
          clear QO QO'
          generalize w3.drewN kk = w4 at *
          clear hX1 hX2 hXl hXo HX hc2 hc2'
          go_wp2_with fail
          go_roundw
          case rel => exact ⟨j + 1, by omega, by go_num, HR.s3, HR.s7, HR.bel⟩
          case measure => simp [intOf]; omega
        · obtain rfl : j = 3 := by omega
          obtain ⟨t4, t5, t6⟩ := S7.rules
          have hself : sameR r r = true := sameR_self r
          go_wp2_with fail
          refine (rsame_any r r A3 A7 c3 c7 _ S3.q S7.q l40b).mono ?_
          rintro e w1 ⟨rfl, hb1⟩
          replace hB := hB.trans (hb1.mono hB.size)
          go_wp2_with fail
          refine (works_any _).mono ?_
          rintro e w2 ⟨rfl, hb2⟩
          replace hB := hB.trans (hb2.mono hB.size)
          go_wp2_with fail
          go_ret
          exact ⟨rfl, hB⟩
end Go.Proofs.Ytdllehgiambkcaa.Pv
