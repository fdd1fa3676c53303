/- The walk of (*sim).take. -/
import Derived.Test.YtdllehgiambkcaaSvSim
import Derived.Test.YtdllehgiambkcaaSvWorks
import Derived.StillTailTactics
namespace Go.Proofs.Ytdllehgiambkcaa.Sv
open Go.RowKit

theorem elE : ElemOf Try.prog 38 54 5 40 := elemOf Try.underlying38 (z := .agg #[.int .i64 0, .int .u8 0, .int .i64 0, .int .u8 0, .int .i64 0]) (by kernel_rfl) rfl (by omega)

/-- The simulation S lies in block g; its log is the slice v, a row of the call's own. -/
structure SimAt (w : World) (g base : Nat) (S : Sim) (v : Value) : Prop where
  lt : g < w.heap.size
  hbase : base ≤ g
  c0 : w.cell? ⟨g, 0, none⟩ = some (.int .u8 S.m.st)
  c1 : w.cell? ⟨g, 1, none⟩ = some (.int .i64 S.m.wait)
  c2 : w.cell? ⟨g, 2, none⟩ = some (.int .i64 S.m.code)
  len : S.due.length = 14
  cd : ∀ i, i < 14 → w.cell? ⟨g, 3 + i, none⟩ = some (.int .i64 (S.due.getD i 0))
  c17 : w.cell? ⟨g, 17, none⟩ = some (.int .i64 S.now)
  c18 : w.cell? ⟨g, 18, none⟩ = some v
  free : ∀ o, w.frozen? ⟨g, o, none⟩ = false
  own : w.ownsRow base 54 5 v S.log.length (S.log.flatMap E.cs)
  vne : v.ownBlock ≠ some g


theorem SimAt.alloc {w : World} {g base : Nat} {S : Sim} {v : Value} (h : SimAt w g base S v) (o : Obj) : SimAt (w.alloc o) g base S v := by
  have hc := fun i => World.cell?_alloc_past (w := w) o g i h.lt
  have hf := fun i => World.frozen?_alloc_past (w := w) o g i h.lt
  exact ⟨by have := h.lt; simp; omega, h.hbase, (hc _).trans h.c0, (hc _).trans h.c1, (hc _).trans h.c2, h.len, fun i hi => (hc _).trans (h.cd i hi), (hc _).trans h.c17, (hc _).trans h.c18, fun o => (hf o).trans (h.free o), h.own.alloc _, h.vne⟩
theorem SimAt.drew {w : World} {g base : Nat} {S : Sim} {v : Value} (h : SimAt w g base S v) : SimAt w.drew g base S v :=
  ⟨h.lt, h.hbase, h.c0, h.c1, h.c2, h.len, h.cd, h.c17, h.c18, h.free, h.own.drew, h.vne⟩
theorem SimAt.past {w w' : World} {g base : Nat} {S : Sim} {v : Value} (h : SimAt w g base S v) (hb : Below w.heap.size w w') : SimAt w' g base S v := by
  have hc := bat hb h.lt
  have hf := fat hb h.lt
  exact ⟨Nat.lt_of_lt_of_le h.lt hb.size, h.hbase, (hc _).trans h.c0, (hc _).trans h.c1, (hc _).trans h.c2, h.len, fun i hi => (hc _).trans (h.cd i hi), (hc _).trans h.c17, (hc _).trans h.c18, fun o => (hf o).trans (h.free o), own_past h.own hb, h.vne⟩


theorem cset_ne (w : World) (g i j : Nat) (u : Value) (h : i ≠ j) : (w.setCell ⟨g, i, none⟩ u).cell? ⟨g, j, none⟩ = w.cell? ⟨g, j, none⟩ := by rw [World.cell?_setCell_other]; intro e; exact h (by injection e)
theorem cset_eq (w : World) (g i : Nat) (u x : Value) (h : w.cell? ⟨g, i, none⟩ = some x) : (w.setCell ⟨g, i, none⟩ u).cell? ⟨g, i, none⟩ = some u := by rw [World.cell?_setCell_same _ _ _ h]

/-- The machine is replaced. -/
theorem SimAt.set_m {w : World} {g base : Nat} {S : Sim} {v : Value} (h : SimAt w g base S v) (m : M) :
    SimAt (((w.setCell ⟨g, 0, none⟩ (.int .u8 m.st)).setCell ⟨g, 1, none⟩ (.int .i64 m.wait)).setCell ⟨g, 2, none⟩ (.int .i64 m.code)) g base { S with m := m } v := by
  refine ⟨by simp only [World.size_setCell]; exact h.lt, h.hbase, ?_, ?_, ?_, h.len, fun i hi => ?_, ?_, ?_, fun o => ?_, own_set (own_set (own_set h.own h.vne _) h.vne _) h.vne _, h.vne⟩
  · rw [cset_ne _ _ _ _ _ (by omega), cset_ne _ _ _ _ _ (by omega), cset_eq _ _ _ _ _ h.c0]
  · rw [cset_ne _ _ _ _ _ (by omega), cset_eq _ _ _ _ (.int .i64 S.m.wait) (by rw [cset_ne _ _ _ _ _ (by omega)]; exact h.c1)]
  · rw [cset_eq _ _ _ _ (.int .i64 S.m.code) (by rw [cset_ne _ _ _ _ _ (by omega), cset_ne _ _ _ _ _ (by omega)]; exact h.c2)]
  · rw [cset_ne _ _ _ _ _ (by omega), cset_ne _ _ _ _ _ (by omega), cset_ne _ _ _ _ _ (by omega)]; exact h.cd i hi
  · rw [cset_ne _ _ _ _ _ (by omega), cset_ne _ _ _ _ _ (by omega), cset_ne _ _ _ _ _ (by omega)]; exact h.c17
  · rw [cset_ne _ _ _ _ _ (by omega), cset_ne _ _ _ _ _ (by omega), cset_ne _ _ _ _ _ (by omega)]; exact h.c18
  · simp only [World.frozen?_setCell]; exact h.free o

/-- The time is set. -/
theorem SimAt.set_now {w : World} {g base : Nat} {S : Sim} {v : Value} (h : SimAt w g base S v) (x : Int) : SimAt (w.setCell ⟨g, 17, none⟩ (.int .i64 x)) g base { S with now := x } v := by
  refine ⟨by simp only [World.size_setCell]; exact h.lt, h.hbase, ?_, ?_, ?_, h.len, fun i hi => ?_, cset_eq _ _ _ _ _ h.c17, ?_, fun o => ?_, own_set h.own h.vne _, h.vne⟩
  · rw [cset_ne _ _ _ _ _ (by omega)]; exact h.c0
  · rw [cset_ne _ _ _ _ _ (by omega)]; exact h.c1
  · rw [cset_ne _ _ _ _ _ (by omega)]; exact h.c2
  · rw [cset_ne _ _ _ _ _ (by omega)]; exact h.cd i hi
  · rw [cset_ne _ _ _ _ _ (by omega)]; exact h.c18
  · simp only [World.frozen?_setCell]; exact h.free o

/-- A timer is set. -/
theorem SimAt.set_due {w : World} {g base : Nat} {S : Sim} {v : Value} (h : SimAt w g base S v) (t : Nat) (ht : t < 14) (x : Int) : SimAt (w.setCell ⟨g, 3 + t, none⟩ (.int .i64 x)) g base { S with due := S.due.set t x } v := by
  have hl := h.len
  refine ⟨by simp only [World.size_setCell]; exact h.lt, h.hbase, ?_, ?_, ?_, by simpa using h.len, fun i hi => ?_, ?_, ?_, fun o => ?_, own_set h.own h.vne _, h.vne⟩
  · rw [cset_ne _ _ _ _ _ (by omega)]; exact h.c0
  · rw [cset_ne _ _ _ _ _ (by omega)]; exact h.c1
  · rw [cset_ne _ _ _ _ _ (by omega)]; exact h.c2
  · by_cases e : t = i
    · subst e; rw [cset_eq _ _ _ _ _ (h.cd t ht)]; simp [List.getD_eq_getElem?_getD, hl, ht]
    · rw [cset_ne _ _ _ _ _ (by omega), h.cd i hi]; simp [List.getD_eq_getElem?_getD, e]
  · rw [cset_ne _ _ _ _ _ (by omega)]; exact h.c17
  · rw [cset_ne _ _ _ _ _ (by omega)]; exact h.c18
  · simp only [World.frozen?_setCell]; exact h.free o

/-- The log has grown by an append, and is laid back. -/
theorem SimAt.set_log {w w1 : World} {g base g' cap : Nat} {S : Sim} {v : Value} (h : SimAt w g base S v) (hp : Pushed base v w w1 g') (e : E)
    (ho : w1.ownsRow base 54 5 (.slice (some ⟨g', 0, none⟩) (S.log.length + 1) cap) (S.log.length + 1) (S.log.flatMap E.cs ++ e.cs)) :
    SimAt (w1.setCell ⟨g, 18, none⟩ (.slice (some ⟨g', 0, none⟩) (S.log.length + 1) cap)) g base { S with log := S.log ++ [e] } (.slice (some ⟨g', 0, none⟩) (S.log.length + 1) cap) := by
  have hc := fun o => hp.cell g o h.lt h.vne
  have hf := fun o => hp.frozen g o h.lt h.vne
  have hn : (Value.slice (some ⟨g', 0, none⟩) (S.log.length + 1) cap).ownBlock ≠ some g := by
    rcases hp.at_ with h1 | h1
    · intro e; apply h.vne; rw [h1]; simpa [Value.ownBlock] using e
    · have := h.lt; intro e; simp [Value.ownBlock] at e; omega
  refine ⟨by simp only [World.size_setCell]; exact hp.size _ h.lt, h.hbase, ?_, ?_, ?_, h.len, fun i hi => ?_, ?_, cset_eq _ _ _ _ v ((hc _).trans h.c18), fun o => ?_, own_set ?_ hn _, hn⟩
  · rw [cset_ne _ _ _ _ _ (by omega)]; exact (hc _).trans h.c0
  · rw [cset_ne _ _ _ _ _ (by omega)]; exact (hc _).trans h.c1
  · rw [cset_ne _ _ _ _ _ (by omega)]; exact (hc _).trans h.c2
  · rw [cset_ne _ _ _ _ _ (by omega)]; exact (hc _).trans (h.cd i hi)
  · rw [cset_ne _ _ _ _ _ (by omega)]; exact (hc _).trans h.c17
  · simp only [World.frozen?_setCell]; exact (hf o).trans (h.free o)
  · simpa using ho

/-- Bounds of an output: what take needs. -/
def O.ok (o : O) : Prop := 0 ≤ o.timer ∧ o.timer < 256 ∧ 0 ≤ o.after ∧ o.after ≤ 32000

theorem takeAll_snoc (S : Sim) (l : List O) (k : Nat) (hk : k < l.length) : takeAll S (l.take (k + 1)) = take1 (takeAll S (l.take k)) l[k] := by
  unfold takeAll
  rw [List.take_succ_eq_append_getElem hk, List.foldl_append]
  rfl
theorem takeAll_now (S : Sim) (l : List O) : (takeAll S l).now = S.now := by
  induction l generalizing S with
  | nil => rfl
  | cons o l ih => exact (ih _).trans rfl
theorem takeAll_log (S : Sim) (l : List O) : (takeAll S l).log.length = S.log.length + l.length := by
  induction l generalizing S with
  | nil => rfl
  | cons o l ih => exact (ih _).trans (by simp [take1]; omega)
theorem takeAll_m (S : Sim) (l : List O) : (takeAll S l).m = S.m := by
  induction l generalizing S with
  | nil => rfl
  | cons o l ih => exact (ih _).trans rfl

/-- All old blocks but g and the log's own are as they were. -/
def Keep (w : World) (g : Nat) (v : Value) (wx : World) (v2 : Value) : Prop :=
  ∀ k, k < w.heap.size → k ≠ g → v.ownBlock ≠ some k → v2.ownBlock ≠ some k ∧ k < wx.heap.size ∧ ∀ o, wx.cell? ⟨k, o, none⟩ = w.cell? ⟨k, o, none⟩
theorem Keep.refl (w : World) (g : Nat) (v : Value) : Keep w g v w v := fun _ h1 _ h3 => ⟨h3, h1, fun _ => rfl⟩
theorem Keep.trans {a b c : World} {g : Nat} {v v2 v3 : Value} (h : Keep a g v b v2) (h' : Keep b g v2 c v3) : Keep a g v c v3 := fun k h1 h2 h3 => by
  obtain ⟨p1, p2, p3⟩ := h k h1 h2 h3
  obtain ⟨q1, q2, q3⟩ := h' k p2 h2 p1
  exact ⟨q1, q2, fun o => (q3 o).trans (p3 o)⟩
theorem Keep.alloc (w : World) (g : Nat) (v : Value) (o : Obj) : Keep w g v (w.alloc o) v := fun k h1 _ h3 => ⟨h3, by simp; omega, fun i => World.cell?_alloc_past (w := w) o k i h1⟩
theorem Keep.drew (w : World) (g : Nat) (v : Value) : Keep w g v w.drew v := fun _ h1 _ h3 => ⟨h3, h1, fun _ => rfl⟩
theorem Keep.set_ (w : World) (g i : Nat) (v u : Value) : Keep w g v (w.setCell ⟨g, i, none⟩ u) v := fun _ h1 h2 h3 => ⟨h3, by rw [World.size_setCell]; exact h1, fun o => World.cell?_setCell_far _ _ _ _ (Ne.symm h2)⟩
theorem Keep.past {w w' : World} (g : Nat) (v : Value) (hb : Below w.heap.size w w') : Keep w g v w' v := fun _ h1 _ h3 => ⟨h3, Nat.lt_of_lt_of_le h1 hb.size, fun o => bat hb h1 o⟩
theorem Keep.pushed {w w1 : World} {g base gg n cp : Nat} {v : Value} (hp : Pushed base v w w1 gg) : Keep w g v w1 (.slice (some ⟨gg, 0, none⟩) n cp) := fun k h1 _ h3 => by
  refine ⟨fun e => ?_, hp.size k h1, fun o => hp.cell k o h1 h3⟩
  have e' : gg = k := by simpa [Value.ownBlock] using e
  rcases hp.at_ with a | a
  · exact h3 (by rw [a, e'])
  · omega

/-- A slice that came in, when its one block has not changed. -/
theorem rd_blk {w w' : World} {B B' size n : Nat} {bb oo : Nat} {xs : List Value} (h : Rd w B size (some ⟨bb, oo, none⟩) n xs) (hk : ∀ o, w'.cell? ⟨bb, o, none⟩ = w.cell? ⟨bb, o, none⟩) (hB : bb < B') : Rd w' B' size (some ⟨bb, oo, none⟩) n xs :=
  ⟨h.1, fun hn => by
    obtain ⟨b, o, e, hb, hc⟩ := h.2 hn
    injection e with e
    injection e with e1 e2
    subst e1 e2
    exact ⟨bb, oo, rfl, hB, fun j u hu => (hk _).trans (hc j u hu)⟩⟩

/-- What stands behind the append to the log. -/
theorem pushed_fin {w wr w1 : World} {g base n gg cap2 bb oo : Nat} {T : Sim} {v' : Value} {xs : List Value} {o : O} {ob : Obj} (hS : SimAt wr g base T v') (hB : Below base w wr) (hR : Rd wr wr.heap.size 4 (some ⟨bb, oo, none⟩) n xs) (hlb : bb < wr.heap.size)
    (hp1 : Pushed base v' (wr.alloc ob).drew w1 gg) (hown1 : w1.ownsRow base 54 5 (.slice (some ⟨gg, 0, none⟩) (T.log.length + 1) cap2) (T.log.length + 1) (T.log.flatMap E.cs ++ [.int .i64 T.now, .int .u8 o.kind, .int .i64 o.code, .int .u8 o.timer, .int .i64 o.after]))
    (h1 : bb ≠ g) (h2 : v'.ownBlock ≠ some bb) :
    ∃ v2, Keep wr g v' (w1.setCell ⟨g, 18, none⟩ (.slice (some ⟨gg, 0, none⟩) (T.log.length + 1) cap2)) v2 ∧ SimAt (w1.setCell ⟨g, 18, none⟩ (.slice (some ⟨gg, 0, none⟩) (T.log.length + 1) cap2)) g base { T with log := T.log ++ [⟨T.now, o⟩] } v2 ∧ Below base w (w1.setCell ⟨g, 18, none⟩ (.slice (some ⟨gg, 0, none⟩) (T.log.length + 1) cap2)) ∧ Rd (w1.setCell ⟨g, 18, none⟩ (.slice (some ⟨gg, 0, none⟩) (T.log.length + 1) cap2)) (w1.setCell ⟨g, 18, none⟩ (.slice (some ⟨gg, 0, none⟩) (T.log.length + 1) cap2)).heap.size 4 (some ⟨bb, oo, none⟩) n xs ∧ v2.ownBlock ≠ some bb := by
  have hb0 : base ≤ wr.heap.size := by have := hS.hbase; have := hS.lt; omega
  refine ⟨_, (((Keep.alloc wr g v' ob).trans (Keep.drew _ g v')).trans (Keep.pushed hp1)).trans (Keep.set_ _ _ _ _ _), ((hS.alloc ob).drew).set_log hp1 ⟨T.now, o⟩ hown1, ?_, ?_, ?_⟩
  · exact ((((hB.alloc hb0 ob).drew).trans hp1.below).setCell (p := ⟨g, 18, none⟩) hS.hbase _)
  · refine rd_blk hR (fun i => ?_) ?_
    · rw [World.cell?_setCell_far _ _ _ _ (Ne.symm h1)]
      exact (hp1.cell bb i (by show bb < (wr.alloc ob).heap.size; simp; omega) h2).trans (World.cell?_alloc_past (w := wr) ob bb i hlb)
    · rw [World.size_setCell]; exact hp1.size _ (by show bb < (wr.alloc ob).heap.size; simp; omega)
  · rcases hp1.at_ with e | e
    · intro x; apply h2; rw [e]; simpa [Value.ownBlock] using x
    · intro x
      have : gg = bb := by simpa [Value.ownBlock] using x
      have e' : gg = (wr.alloc ob).heap.size := e
      simp at e'
      omega

set_option maxRecDepth 10000 in
set_option maxHeartbeats 4000000 in
theorem take_keep (g base : Nat) (S : Sim) (v : Value) (w : World) (h : SimAt w g base S v) (m : M) (A : Option Addr) (cap : Nat) (l : List O) (hA : Rd w w.heap.size 4 A l.length (l.flatMap O.cs)) (hl : l.length ≤ 3) (hok : ∀ o ∈ l, o.ok) (hlog : S.log.length ≤ 1000000) (hnow : 0 ≤ S.now ∧ S.now ≤ 1000000000)
    (hsep : ∀ b o, A = some ⟨b, o, none⟩ → b ≠ g ∧ v.ownBlock ≠ some b) :
    Calls Try.prog 52 #[.pointer (some ⟨g, 0, none⟩), m.v, .slice A l.length cap] w fun e w' => e = .returned (.tuple #[]) ∧ Below base w w' ∧ ∃ v', SimAt w' g base (take S m l) v' ∧ Keep w g v w' v' := by
  simp only [M.v]
  go_enter Try.func52, Try.ntmps52
  have h0 := h.alloc (.cells #[.int .u8 m.st, .int .i64 m.wait, .int .i64 m.code] 32)
  have hB0 : Below base w (w.alloc (.cells #[.int .u8 m.st, .int .i64 m.wait, .int .i64 m.code] 32)) := (Below.refl _ _).alloc (by have := h.lt; have := h.hbase; omega) _
  have hA0 := (hA.alloc (Nat.le_refl _) (.cells #[.int .u8 m.st, .int .i64 m.wait, .int .i64 m.code] 32)).more (B' := (w.alloc (.cells #[.int .u8 m.st, .int .i64 m.wait, .int .i64 m.code] 32)).heap.size) (by simp)
  obtain ⟨_, _, x0, x1, x2, -, -, -, -, xf, -, -⟩ := id h0
  go_wp2_with fail
  go_loopw [6] (fun i wr => ∃ (k : Nat) (v' : Value), k ≤ l.length ∧ i = .int .i64 k ∧ Keep w g v wr v' ∧ SimAt wr g base (takeAll { S with m := m } (l.take k)) v' ∧ Below base w wr ∧ Rd wr wr.heap.size 4 A l.length (l.flatMap O.cs) ∧ (∀ b o, A = some ⟨b, o, none⟩ → b ≠ g ∧ v'.ownBlock ≠ some b)) (fun i _ => l.length - (intOf i).toNat)
  case atStart =>
    refine ⟨0, v, by omega, rfl, (((Keep.alloc w g v _).trans (Keep.set_ _ _ _ _ _)).trans (Keep.set_ _ _ _ _ _)).trans (Keep.set_ _ _ _ _ _), ?_, ?_, ?_, fun b o e => ?_⟩
    · exact h0.set_m m
    · have := h.hbase; exact ((hB0.setCell (p := ⟨g, 0, none⟩) this _).setCell (p := ⟨g, 1, none⟩) this _).setCell (p := ⟨g, 2, none⟩) this _
    · rcases A with _ | ⟨ab, ao, asp⟩
      · rcases Nat.eq_zero_or_pos l.length with h0 | h0
        · exact ⟨hA.1, fun hn => absurd hn (by omega)⟩
        · obtain ⟨b, o, e, _⟩ := hA.2 h0; cases e
      · rcases Nat.eq_zero_or_pos l.length with h0 | h0
        · exact ⟨hA.1, fun hn => absurd hn (by omega)⟩
        · obtain ⟨b, o, e, hb, -⟩ := hA.2 h0
          injection e with e
          injection e with e1 e2 e3
          subst e1 e2 e3
          have hne := (hsep ab ao rfl).1
          exact rd_blk hA0 (fun i => (World.cell?_setCell_far _ _ _ _ (Ne.symm hne)).trans ((World.cell?_setCell_far _ _ _ _ (Ne.symm hne)).trans (World.cell?_setCell_far _ _ _ _ (Ne.symm hne)))) (by simp; omega)
    · exact hsep b o e
  case round =>
    obtain ⟨k, v', hk, rfl, hK, hS, hB, hR, hs⟩ := hrel
    by_cases hlt : k < l.length
    · obtain ⟨bb, oo, hAe, hlb, d0, d1, d2, d3⟩ := cells_at hR hlt
      have hlog' : (takeAll { S with m := m } (l.take k)).log.length ≤ 1000003 := by rw [takeAll_log]; simp; omega
      have hnow' : 0 ≤ (takeAll { S with m := m } (l.take k)).now ∧ (takeAll { S with m := m } (l.take k)).now ≤ 1000000000 := by rw [takeAll_now]; exact hnow
      have ho := hok l[k] (List.getElem_mem hlt)
      have hsn := takeAll_snoc { S with m := m } l k hlt
      generalize takeAll { S with m := m } (l.take k) = T at *
      subst hAe
      have hsb := hs bb oo rfl
      obtain ⟨y1, y2, -, -, -, y3, y4, y5, y6, y7, y8, y9⟩ := id hS
      go_upto_region 5 with fail
      go_cut [] from 11 to 68 (fun wx => ∃ v2, Keep wr g v' wx v2 ∧ SimAt wx g base { T with log := T.log ++ [⟨T.now, l[k]⟩] } v2 ∧ Below base w wx ∧ Rd wx wx.heap.size 4 (some ⟨bb, oo, none⟩) l.length (l.flatMap O.cs) ∧ v2.ownBlock ≠ some bb)
      case first =>
        go_region_law ((refine step_push elE (by rfl) _ _ (by rfl) base v' T.log.length (T.log.flatMap E.cs) (by rfl) (by first | exact (hS.own.alloc _).drew | exact hS.own.alloc _) wr.heap.size 1 1 #[.int .i64 T.now, .int .u8 l[k].kind, .int .i64 l[k].code, .int .u8 l[k].timer, .int .i64 l[k].after] (by rfl) (by repeat (first | exact hhere _ _ _ (by simp) | rw [hget_drew] | rw [hpeel _ _ _ (by simp; try omega)])) rfl (by simp [Value.oneCell']) (by omega) (by simp only [maxLen]; omega) (by simp; omega) ?_; intro gg cap2 w1 hown1 hp1; have hr1 := fun o => hp1.cell g o (by simp; omega) y9; have hf1 := fun o => hp1.frozen g o (by simp; omega) y9))
        all_goals (go_wp2_with fail; go_meet)
        all_goals exact pushed_fin hS hB hR hlb hp1 hown1 hsb.1 hsb.2
      case rest =>
        obtain ⟨v2, hK2, hS2, hB2, hR2, hs2⟩ := hcut
        obtain ⟨bb', oo', hAe', hlb2, e0, e1, e2, e3⟩ := cells_at hR2 hlt
        injection hAe' with hAe'
        injection hAe' with q1 q2
        subst q1 q2
        obtain ⟨z1, z2, -, -, -, z3, z4, z5, z6, z7, z8, z9⟩ := id hS2
        by_cases hk4 : l[k].kind = 4
        · by_cases ht14 : l[k].timer < 14
          · obtain ⟨t1, t2, t3, t4⟩ := ho
            obtain ⟨t, ht⟩ : ∃ t : Nat, l[k].timer = t := ⟨l[k].timer.toNat, by omega⟩
            have ht' : t < 14 := by omega
            rw [ht] at e2
            have hz := z4 t ht'
            have hiv : T.now + (if 1 < l[k].after then l[k].after else 1) = T.now + max 1 l[k].after := by rw [Int.max_def]; split <;> split <;> omega
            have hzf := z7 (3 + t)
            go_upto_region 7 with fail
            go_still_tail 20, (by kernel_rfl)
            change wpList _ _ _ _ _ (World.drew _)
            go_wp2_with fail
            go_roundw
            case rel =>
              refine ⟨k + 1, v2, by omega, by simp, ((hK.trans hK2).trans (Keep.set_ _ _ _ _ _)).trans (Keep.drew _ _ _), ?_, (hB2.setCell (p := ⟨g, 3 + t, none⟩) z2 _).drew, ?_, fun b o e => by injection e with e; injection e with e _; subst e; exact ⟨hsb.1, hs2⟩⟩
              · rw [hsn]
                have hq := (hS2.set_due t ht' (T.now + max 1 l[k].after)).drew
                have ht3 : ((t : Nat) : Int) < 14 := by omega
                simpa [take1, hk4, ht, ht3] using hq
              · exact rd_blk hR2 (fun i => World.cell?_setCell_far _ _ _ _ (Ne.symm hsb.1)) (by show bb < (World.setCell _ _ _).heap.size; rw [World.size_setCell]; exact hlb2)
            case measure => simp [intOf]; omega
          · go_wp2_with fail
            go_roundw
            case rel => exact ⟨k + 1, v2, by omega, by simp, hK.trans hK2, by rw [hsn]; simpa [take1, ht14] using hS2, hB2, hR2, fun b o e => by injection e with e; injection e with e _; subst e; exact ⟨hsb.1, hs2⟩⟩
            case measure => simp [intOf]; omega
        · go_wp2_with fail
          go_roundw
          case rel => exact ⟨k + 1, v2, by omega, by simp, hK.trans hK2, by rw [hsn]; simpa [take1, hk4] using hS2, hB2, hR2, fun b o e => by injection e with e; injection e with e _; subst e; exact ⟨hsb.1, hs2⟩⟩
          case measure => simp [intOf]; omega
    · have hk' : k = l.length := by omega
      subst hk'
      rw [List.take_length] at hS
      go_wp2_with fail
      refine ⟨rfl, .tuple #[], ?_, rfl, hB, v', hS, hK⟩
      simp only [results]; go_simp

theorem take_any (g base : Nat) (S : Sim) (v : Value) (w : World) (h : SimAt w g base S v) (m : M) (A : Option Addr) (cap : Nat) (l : List O) (hA : Rd w w.heap.size 4 A l.length (l.flatMap O.cs)) (hl : l.length ≤ 3) (hok : ∀ o ∈ l, o.ok) (hlog : S.log.length ≤ 1000000) (hnow : 0 ≤ S.now ∧ S.now ≤ 1000000000)
    (hsep : ∀ b o, A = some ⟨b, o, none⟩ → b ≠ g ∧ v.ownBlock ≠ some b) :
    Calls Try.prog 52 #[.pointer (some ⟨g, 0, none⟩), m.v, .slice A l.length cap] w fun e w' => e = .returned (.tuple #[]) ∧ Below base w w' ∧ ∃ v', SimAt w' g base (take S m l) v' :=
  (take_keep g base S v w h m A cap l hA hl hok hlog hnow hsep).mono fun _ _ ⟨a, b, c, d, _⟩ => ⟨a, b, c, d⟩
end Go.Proofs.Ytdllehgiambkcaa.Sv
