/- The walks of (*sim).give and (*sim).answer. -/
import Derived.Test.YtdllehgiambkcaaSvTake
namespace Go.Proofs.Ytdllehgiambkcaa.Sv
open Go.RowKit

theorem step_ok (m : M) (k c t : Int) : (step m k c t).2.length ≤ 3 ∧ ∀ o ∈ (step m k c t).2, o.ok := by
  obtain ⟨s, x, d⟩ := m
  cases hm : may ⟨s, x, d⟩
  · simp [step, hm]
  · have hw : s = 5 → x = 500 ∨ x = 1000 ∨ x = 2000 ∨ x = 4000 := by
      intro h5; subst h5
      simp [may, short] at hm
      omega
    unfold step answer fired over sendO timerO endO
    simp only [hm]
    repeat (any_goals split)
    all_goals (first | (simp [O.ok]; done) | (simp_all [O.ok]; done) | (rcases hw (by simp_all) with rfl | rfl | rfl | rfl <;> simp [O.ok] <;> omega; done) | (rcases hw (by simp_all) with e | e | e | e <;> simp only [e] <;> (refine ⟨by simp, ?_⟩; simp [O.ok] <;> omega); done))

theorem own_far {w : World} {base size n c : Nat} {e : TypeId} {A : Option Addr} {xs : List Value} (h : w.ownsRow base e size (.slice A n c) n xs) (b o : Nat) (hA : A = some ⟨b, o, none⟩) : base ≤ b := by
  subst hA
  exact (h.lt b (by simp [Value.ownBlock])).1

theorem SimAt.far {w : World} {g base : Nat} {S : Sim} {v : Value} (h : SimAt w g base S v) (n i : Nat) (u : Value) (hn : g ≠ n) (hv : v.ownBlock ≠ some n) : SimAt (w.setCell ⟨n, i, none⟩ u) g base S v := by
  have hc := fun o => World.cell?_setCell_far w ⟨n, i, none⟩ ⟨g, o, none⟩ u (Ne.symm hn)
  exact ⟨by rw [World.size_setCell]; exact h.lt, h.hbase, (hc _).trans h.c0, (hc _).trans h.c1, (hc _).trans h.c2, h.len, fun i hi => (hc _).trans (h.cd i hi), (hc _).trans h.c17, (hc _).trans h.c18, fun o => by rw [World.frozen?_setCell]; exact h.free o, own_set h.own hv _, h.vne⟩

/-- What take wants of its arguments: a machine in block kb, outputs. -/
def Ready (g base : Nat) (S : Sim) (v : Value) (w : World) (a b d : Int) (l : List O) (p q : Value) (wx : World) : Prop :=
  ∃ kb A cp, p = .pointer (some ⟨kb, 0, none⟩) ∧ q = .slice A l.length cp ∧ wx.cell? ⟨kb, 0, none⟩ = some (.int .u8 a) ∧ wx.cell? ⟨kb, 1, none⟩ = some (.int .i64 b) ∧ wx.cell? ⟨kb, 2, none⟩ = some (.int .i64 d) ∧ SimAt wx g base S v ∧ Keep w g v wx v ∧ Below base w wx ∧ Rd wx wx.heap.size 4 A l.length (l.flatMap O.cs) ∧ (∀ b o, A = some ⟨b, o, none⟩ → b ≠ g ∧ v.ownBlock ≠ some b)

section
variable {w Wc w1 : World} {g base : Nat} {S : Sim} {v v1 : Value} {l : List O} {a b d : Int}
theorem ready_new (hb1 : Below Wc.heap.size Wc w1) (hown1 : w1.ownsRow Wc.heap.size 52 4 v1 l.length (l.flatMap O.cs)) (hS : SimAt Wc g base S v) (hK : Keep w g v Wc v) (hB : Below base w Wc) :
    Ready g base S v w a b d l (.pointer (some ⟨w1.heap.size, 0, none⟩)) v1 (w1.alloc (.cells #[.int .u8 a, .int .i64 b, .int .i64 d] 32)) := by
  obtain ⟨A, cp, rfl, -, hR⟩ := own_slice hown1
  have hbs : base ≤ w1.heap.size := by have := hS.hbase; have := hS.lt; have := hb1.size; omega
  refine ⟨_, A, cp, rfl, rfl, by go_simp, by go_simp, by go_simp, (hS.past hb1).alloc _, (hK.trans (Keep.past g v hb1)).trans (Keep.alloc _ _ _ _), ((hB.trans (hb1.mono (by have := hS.hbase; have := hS.lt; omega))).alloc hbs _), (hR.alloc (Nat.le_refl _) _).more (by simp), fun x o e => ?_⟩
  have hx := own_far hown1 x o e
  exact ⟨by have := hS.lt; omega, own_ne' hS.own x hx⟩

theorem ready_old (n : Nat) (hn : n < Wc.heap.size) (h1 : w.heap.size ≤ n) (hb1 : Below Wc.heap.size Wc w1) (hown1 : w1.ownsRow Wc.heap.size 52 4 v1 l.length (l.flatMap O.cs)) (hS : SimAt Wc g base S v) (hw : SimAt w g base S v) (hK : Keep w g v Wc v) (hB : Below base w Wc)
    {u0 u1 u2 : Value} (c0 : w1.cell? ⟨n, 0, none⟩ = some u0) (c1 : w1.cell? ⟨n, 1, none⟩ = some u1) (c2 : w1.cell? ⟨n, 2, none⟩ = some u2) :
    Ready g base S v w a b d l (.pointer (some ⟨n, 0, none⟩)) v1 (((w1.setCell ⟨n, 0, none⟩ (.int .u8 a)).setCell ⟨n, 1, none⟩ (.int .i64 b)).setCell ⟨n, 2, none⟩ (.int .i64 d)) := by
  obtain ⟨A, cp, rfl, -, hR⟩ := own_slice hown1
  have hgn : g ≠ n := by have := hw.lt; omega
  have hvn : v.ownBlock ≠ some n := own_ne' hw.own n h1
  have hbn : base ≤ n := by have := hw.hbase; have := hw.lt; omega
  refine ⟨_, A, cp, rfl, rfl, ?_, ?_, ?_, (((hS.past hb1).far n 0 _ hgn hvn).far n 1 _ hgn hvn).far n 2 _ hgn hvn, fun k h1' h2' h3' => ?_, (((hB.trans (hb1.mono (by have := hS.hbase; have := hS.lt; omega))).setCell (p := ⟨n, 0, none⟩) hbn _).setCell (p := ⟨n, 1, none⟩) hbn _).setCell (p := ⟨n, 2, none⟩) hbn _, ?_, fun x o e => ?_⟩
  rotate_left 3
  · obtain ⟨q1, q2, q3⟩ := (hK.trans (Keep.past g v hb1)) k h1' h2' h3'
    have hne : n ≠ k := by omega
    exact ⟨q1, by simp only [World.size_setCell]; exact q2, fun o => (World.cell?_setCell_far _ _ _ _ hne).trans ((World.cell?_setCell_far _ _ _ _ hne).trans ((World.cell?_setCell_far _ _ _ _ hne).trans (q3 o)))⟩
  rotate_right 3
  · rw [cset_ne _ _ _ _ _ (by omega), cset_ne _ _ _ _ _ (by omega), cset_eq _ _ _ _ _ c0]
  · rw [cset_ne _ _ _ _ _ (by omega), cset_eq _ _ _ _ u1 (by rw [cset_ne _ _ _ _ _ (by omega)]; exact c1)]
  · rw [cset_eq _ _ _ _ u2 (by rw [cset_ne _ _ _ _ _ (by omega), cset_ne _ _ _ _ _ (by omega)]; exact c2)]
  · refine ⟨hR.1, fun hp => ?_⟩
    obtain ⟨x, o, e, hx, hc⟩ := hR.2 hp
    have hy := own_far hown1 x o e
    have hne : n ≠ x := by omega
    exact ⟨x, o, e, by simp only [World.size_setCell]; exact hx, fun j u hu => (World.cell?_setCell_far _ _ _ _ hne).trans ((World.cell?_setCell_far _ _ _ _ hne).trans ((World.cell?_setCell_far _ _ _ _ hne).trans (hc j u hu)))⟩
  · have hx := own_far hown1 x o e
    exact ⟨by have := hS.lt; omega, own_ne' hS.own x hx⟩
end

set_option maxRecDepth 10000 in
set_option maxHeartbeats 4000000 in
theorem give_keep (g base : Nat) (S : Sim) (v : Value) (w : World) (h : SimAt w g base S v) (k c t : Int) (hlog : S.log.length ≤ 1000000) (hnow : 0 ≤ S.now ∧ S.now ≤ 1000000000) :
    Calls Try.prog 21 #[.pointer (some ⟨g, 0, none⟩), .agg #[.int .u8 k, .int .i64 c, .int .u8 t]] w fun e w' => e = .returned (.tuple #[]) ∧ Below base w w' ∧ ∃ v', SimAt w' g base (give S k c t) v' ∧ Keep w g v w' v' := by
  obtain ⟨hst1, hst2⟩ := step_ok S.m k c t
  unfold give
  have hbw : base ≤ w.heap.size := by have := h.hbase; have := h.lt; omega
  obtain ⟨r, hr⟩ : ∃ r, step S.m k c t = r := ⟨_, rfl⟩
  have HR : Hid (step ⟨S.m.st, S.m.wait, S.m.code⟩ k c t = r) := hide hr
  rw [hr] at hst1 hst2 ⊢
  clear hr
  obtain ⟨⟨a, b, d⟩, l⟩ := r
  obtain ⟨y1, y2, x0, x1, x2, -, -, -, -, xf, -, xv⟩ := id h
  go_enter Try.func21, Try.ntmps21
  go_wp2_with fail
  go_cut [4, 5] (fun p q wx => Ready g base S v w a b d l p q wx)
  case first =>
    go_region_law ((go_simp; go_at_call 40; refine (step_any _ _ _ _ _ _ _).mono ?_; rw [HR.out]; rintro e w1 ⟨v1, rfl, hown1, hb1⟩; obtain ⟨hc1, hf1⟩ := bcell hb1))
    all_goals (go_wp2_with fail; go_meet)
    all_goals (first
      | (refine ready_new hb1 hown1 (by repeat (first | exact h | refine SimAt.drew ?_ | refine SimAt.alloc ?_ _)) (by repeat (first | exact Keep.refl _ _ _ | refine Keep.trans ?_ (Keep.drew _ _ _) | refine Keep.trans ?_ (Keep.alloc _ _ _ _))) ?_; repeat (first | exact Below.refl _ _ | refine Below.drew ?_ | refine Below.alloc ?_ (by first | omega | (simp; omega)) _))
      | (refine ready_old _ ?_ ?_ hb1 hown1 (by repeat (first | exact h | refine SimAt.drew ?_ | refine SimAt.alloc ?_ _)) h (by repeat (first | exact Keep.refl _ _ _ | refine Keep.trans ?_ (Keep.drew _ _ _) | refine Keep.trans ?_ (Keep.alloc _ _ _ _))) ?_ (by go_simp; exact rfl) (by go_simp; exact rfl) (by go_simp; exact rfl) <;> first | (simp; done) | (repeat (first | exact Below.refl _ _ | refine Below.drew ?_ | refine Below.alloc ?_ (by first | omega | (simp; omega)) _))))
  case rest =>
    obtain ⟨kb, A, cp, rfl, rfl, r0, r1, r2, hS, hK, hB, hR, hs⟩ := hcut
    go_wp2_with (go_at_call 52; refine (take_keep g base S v _ hS ⟨a, b, d⟩ A cp l hR hst1 hst2 hlog hnow hs).mono ?_; rintro e w2 ⟨rfl, hb2, v2, hS2, hK2⟩)
    refine ⟨rfl, .tuple #[], ?_, rfl, hB.trans hb2, v2, hS2, hK.trans hK2⟩
    simp only [results]; go_simp

theorem give_any (g base : Nat) (S : Sim) (v : Value) (w : World) (h : SimAt w g base S v) (k c t : Int) (hlog : S.log.length ≤ 1000000) (hnow : 0 ≤ S.now ∧ S.now ≤ 1000000000) :
    Calls Try.prog 21 #[.pointer (some ⟨g, 0, none⟩), .agg #[.int .u8 k, .int .i64 c, .int .u8 t]] w fun e w' => e = .returned (.tuple #[]) ∧ Below base w w' ∧ ∃ v', SimAt w' g base (give S k c t) v' :=
  (give_keep g base S v w h k c t hlog hnow).mono fun _ _ ⟨a, b, c, d, _⟩ => ⟨a, b, c, d⟩

theorem sanswer_any (g base : Nat) (S : Sim) (v : Value) (w : World) (h : SimAt w g base S v) (c : Int) (hlog : S.log.length ≤ 1000000) (hnow : 0 ≤ S.now ∧ S.now ≤ 1000000000) :
    Calls Try.prog 39 #[.pointer (some ⟨g, 0, none⟩), .int .i64 c] w fun e w' => e = .returned (.tuple #[]) ∧ Below base w w' ∧ ∃ v', SimAt w' g base (give S 4 c 0) v' := by
  go_enter Try.func39, Try.ntmps39
  go_wp2_with (go_at_call 21; refine (give_any g base S v _ h 4 c 0 hlog hnow).mono ?_; rintro e w2 ⟨rfl, hb2, v2, hS2⟩)
  refine ⟨rfl, .tuple #[], ?_, rfl, hb2, v2, hS2⟩
  simp only [results]; go_simp
end Go.Proofs.Ytdllehgiambkcaa.Sv
