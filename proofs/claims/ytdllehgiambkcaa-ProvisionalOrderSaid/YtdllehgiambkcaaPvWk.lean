/- The sender in hand (provisional.work): where it lies, and the walks of its methods. -/
import Derived.Test.YtdllehgiambkcaaPvClone
import Derived.StillTailTactics
namespace Go.Proofs.Ytdllehgiambkcaa.Pv
open Go.RowKit

theorem elO : ElemOf Try.prog 62 70 5 40 := elemOf Try.underlying62 (z := .agg #[.int .u8 0, .int .i64 0, .int .i64 0, .int .i64 0, .int .i64 0]) (by kernel_rfl) rfl (by omega)

/-- The sender r lies in block g, its queue is the slice (A, cap); what it has put out is the slice v, a row of the call's own. -/
structure WkAt (w : World) (g base : Nat) (r : R) (A : Option Addr) (cap : Nat) (l : List O) (v : Value) : Prop where
  lt : g < w.heap.size
  hbase : base ≤ g
  c0 : w.cell? ⟨g, 0, none⟩ = some (.int .i64 r.seq)
  c1 : w.cell? ⟨g, 1, none⟩ = some (.int .i64 r.code)
  c2 : w.cell? ⟨g, 2, none⟩ = some (.int .i64 r.wait)
  c3 : w.cell? ⟨g, 3, none⟩ = some (.slice A r.q.length cap)
  c4 : w.cell? ⟨g, 4, none⟩ = some (.bool r.fin)
  c5 : w.cell? ⟨g, 5, none⟩ = some (.bool r.failed)
  c6 : w.cell? ⟨g, 6, none⟩ = some v
  free : ∀ o, w.frozen? ⟨g, o, none⟩ = false
  q : Rd w w.heap.size 1 A r.q.length (ints r.q)
  qcap : r.q.length ≤ cap
  qne : 0 < r.q.length → ∀ b o, A = some ⟨b, o, none⟩ → b ≠ g ∧ v.ownBlock ≠ some b ∧ base ≤ b
  own : w.ownsRow base 70 5 v l.length (l.flatMap O.cs)
  vne : v.ownBlock ≠ some g

section
variable {w w' : World} {g base cap : Nat} {r : R} {A : Option Addr} {l : List O} {v : Value}
theorem WkAt.alloc (h : WkAt w g base r A cap l v) (o : Obj) : WkAt (w.alloc o) g base r A cap l v := by
  have hc := fun i => World.cell?_alloc_past (w := w) o g i h.lt
  have hf := fun i => World.frozen?_alloc_past (w := w) o g i h.lt
  exact ⟨by have := h.lt; simp; omega, h.hbase, (hc _).trans h.c0, (hc _).trans h.c1, (hc _).trans h.c2, (hc _).trans h.c3, (hc _).trans h.c4, (hc _).trans h.c5, (hc _).trans h.c6, fun o => (hf o).trans (h.free o), (h.q.alloc (Nat.le_refl _) o).more (by simp), h.qcap, h.qne, h.own.alloc _, h.vne⟩
theorem WkAt.drewN (h : WkAt w g base r A cap l v) (n : Nat) : WkAt (w.drewN n) g base r A cap l v :=
  ⟨h.lt, h.hbase, h.c0, h.c1, h.c2, h.c3, h.c4, h.c5, h.c6, h.free, h.q, h.qcap, h.qne, h.own, h.vne⟩
theorem WkAt.drew (h : WkAt w g base r A cap l v) : WkAt w.drew g base r A cap l v :=
  ⟨h.lt, h.hbase, h.c0, h.c1, h.c2, h.c3, h.c4, h.c5, h.c6, h.free, h.q, h.qcap, h.qne, h.own.drew, h.vne⟩

theorem cset_ne (w : World) (g i j : Nat) (u : Value) (h : i ≠ j) : (w.setCell ⟨g, i, none⟩ u).cell? ⟨g, j, none⟩ = w.cell? ⟨g, j, none⟩ := by rw [World.cell?_setCell_other]; intro e; exact h (by injection e)
theorem cset_eq (w : World) (g i : Nat) (u x : Value) (h : w.cell? ⟨g, i, none⟩ = some x) : (w.setCell ⟨g, i, none⟩ u).cell? ⟨g, i, none⟩ = some u := by rw [World.cell?_setCell_same _ _ _ h]

/-- A slice that came in, behind a store into another block. -/
theorem rd_set {w : World} {B size n g i : Nat} {A : Option Addr} {xs : List Value} (h : Rd w B size A n xs) (hne : 0 < n → ∀ b o, A = some ⟨b, o, none⟩ → b ≠ g) (u : Value) : Rd (w.setCell ⟨g, i, none⟩ u) B size A n xs :=
  ⟨h.1, fun hn => by
    obtain ⟨b, o, e, hb, hc⟩ := h.2 hn
    exact ⟨b, o, e, hb, fun j x hx => (World.cell?_setCell_far _ _ _ _ (Ne.symm (hne hn b o e))).trans (hc j x hx)⟩⟩

theorem WkAt.set_seq (h : WkAt w g base r A cap l v) (x : Int) : WkAt (w.setCell ⟨g, 0, none⟩ (.int .i64 x)) g base { r with seq := x } A cap l v := by
  have hn := fun j (hj : 0 ≠ j) => cset_ne w g 0 j (.int .i64 x) hj
  exact ⟨by simp only [World.size_setCell]; exact h.lt, h.hbase, cset_eq _ _ _ _ _ h.c0, (hn _ (by omega)).trans h.c1, (hn _ (by omega)).trans h.c2, (hn _ (by omega)).trans h.c3, (hn _ (by omega)).trans h.c4, (hn _ (by omega)).trans h.c5, (hn _ (by omega)).trans h.c6,
    fun o => by rw [World.frozen?_setCell]; exact h.free o, by simp only [World.size_setCell]; exact rd_set h.q (fun h0 b o e => (h.qne h0 b o e).1) _, h.qcap, h.qne, own_set h.own h.vne _, h.vne⟩
theorem WkAt.set_code (h : WkAt w g base r A cap l v) (x : Int) : WkAt (w.setCell ⟨g, 1, none⟩ (.int .i64 x)) g base { r with code := x } A cap l v := by
  have hn := fun j (hj : 1 ≠ j) => cset_ne w g 1 j (.int .i64 x) hj
  exact ⟨by simp only [World.size_setCell]; exact h.lt, h.hbase, (hn _ (by omega)).trans h.c0, cset_eq _ _ _ _ _ h.c1, (hn _ (by omega)).trans h.c2, (hn _ (by omega)).trans h.c3, (hn _ (by omega)).trans h.c4, (hn _ (by omega)).trans h.c5, (hn _ (by omega)).trans h.c6,
    fun o => by rw [World.frozen?_setCell]; exact h.free o, by simp only [World.size_setCell]; exact rd_set h.q (fun h0 b o e => (h.qne h0 b o e).1) _, h.qcap, h.qne, own_set h.own h.vne _, h.vne⟩
theorem WkAt.set_wait (h : WkAt w g base r A cap l v) (x : Int) : WkAt (w.setCell ⟨g, 2, none⟩ (.int .i64 x)) g base { r with wait := x } A cap l v := by
  have hn := fun j (hj : 2 ≠ j) => cset_ne w g 2 j (.int .i64 x) hj
  exact ⟨by simp only [World.size_setCell]; exact h.lt, h.hbase, (hn _ (by omega)).trans h.c0, (hn _ (by omega)).trans h.c1, cset_eq _ _ _ _ _ h.c2, (hn _ (by omega)).trans h.c3, (hn _ (by omega)).trans h.c4, (hn _ (by omega)).trans h.c5, (hn _ (by omega)).trans h.c6,
    fun o => by rw [World.frozen?_setCell]; exact h.free o, by simp only [World.size_setCell]; exact rd_set h.q (fun h0 b o e => (h.qne h0 b o e).1) _, h.qcap, h.qne, own_set h.own h.vne _, h.vne⟩
theorem WkAt.set_fin (h : WkAt w g base r A cap l v) (x : Bool) : WkAt (w.setCell ⟨g, 4, none⟩ (.bool x)) g base { r with fin := x } A cap l v := by
  have hn := fun j (hj : 4 ≠ j) => cset_ne w g 4 j (.bool x) hj
  exact ⟨by simp only [World.size_setCell]; exact h.lt, h.hbase, (hn _ (by omega)).trans h.c0, (hn _ (by omega)).trans h.c1, (hn _ (by omega)).trans h.c2, (hn _ (by omega)).trans h.c3, cset_eq _ _ _ _ _ h.c4, (hn _ (by omega)).trans h.c5, (hn _ (by omega)).trans h.c6,
    fun o => by rw [World.frozen?_setCell]; exact h.free o, by simp only [World.size_setCell]; exact rd_set h.q (fun h0 b o e => (h.qne h0 b o e).1) _, h.qcap, h.qne, own_set h.own h.vne _, h.vne⟩
theorem WkAt.set_failed (h : WkAt w g base r A cap l v) (x : Bool) : WkAt (w.setCell ⟨g, 5, none⟩ (.bool x)) g base { r with failed := x } A cap l v := by
  have hn := fun j (hj : 5 ≠ j) => cset_ne w g 5 j (.bool x) hj
  exact ⟨by simp only [World.size_setCell]; exact h.lt, h.hbase, (hn _ (by omega)).trans h.c0, (hn _ (by omega)).trans h.c1, (hn _ (by omega)).trans h.c2, (hn _ (by omega)).trans h.c3, (hn _ (by omega)).trans h.c4, cset_eq _ _ _ _ _ h.c5, (hn _ (by omega)).trans h.c6,
    fun o => by rw [World.frozen?_setCell]; exact h.free o, by simp only [World.size_setCell]; exact rd_set h.q (fun h0 b o e => (h.qne h0 b o e).1) _, h.qcap, h.qne, own_set h.own h.vne _, h.vne⟩
/-- Another queue is laid. -/
theorem WkAt.set_q (h : WkAt w g base r A cap l v) {A' : Option Addr} {cap' : Nat} {q' : List Int} (hq : Rd w w.heap.size 1 A' q'.length (ints q')) (hc : q'.length ≤ cap') (hne : 0 < q'.length → ∀ b o, A' = some ⟨b, o, none⟩ → b ≠ g ∧ v.ownBlock ≠ some b ∧ base ≤ b) :
    WkAt (w.setCell ⟨g, 3, none⟩ (.slice A' q'.length cap')) g base { r with q := q' } A' cap' l v := by
  have hn := fun j (hj : 3 ≠ j) => cset_ne w g 3 j (.slice A' q'.length cap') hj
  exact ⟨by simp only [World.size_setCell]; exact h.lt, h.hbase, (hn _ (by omega)).trans h.c0, (hn _ (by omega)).trans h.c1, (hn _ (by omega)).trans h.c2, cset_eq _ _ _ _ _ h.c3, (hn _ (by omega)).trans h.c4, (hn _ (by omega)).trans h.c5, (hn _ (by omega)).trans h.c6,
    fun o => by rw [World.frozen?_setCell]; exact h.free o, by simp only [World.size_setCell]; exact rd_set hq (fun h0 b o e => (hne h0 b o e).1) _, hc, hne, own_set h.own h.vne _, h.vne⟩

/-- The outputs have grown by an append, and are laid back. -/
theorem WkAt.set_outs {w1 : World} {g' cap2 : Nat} (h : WkAt w g base r A cap l v) (hp : Pushed base v w w1 g') (e : O) (ho : w1.ownsRow base 70 5 (.slice (some ⟨g', 0, none⟩) (l.length + 1) cap2) (l.length + 1) (l.flatMap O.cs ++ e.cs)) :
    WkAt (w1.setCell ⟨g, 6, none⟩ (.slice (some ⟨g', 0, none⟩) (l.length + 1) cap2)) g base r A cap (l ++ [e]) (.slice (some ⟨g', 0, none⟩) (l.length + 1) cap2) := by
  have hc := fun o => hp.cell g o h.lt h.vne
  have hf := fun o => hp.frozen g o h.lt h.vne
  have hn := fun j (hj : 6 ≠ j) => cset_ne w1 g 6 j (.slice (some ⟨g', 0, none⟩) (l.length + 1) cap2) hj
  have hvn : (Value.slice (some ⟨g', 0, none⟩) (l.length + 1) cap2).ownBlock ≠ some g := by
    rcases hp.at_ with h1 | h1
    · intro e; apply h.vne; rw [h1]; simpa [Value.ownBlock] using e
    · have := h.lt; intro e; simp [Value.ownBlock] at e; omega
  refine ⟨by simp only [World.size_setCell]; exact hp.size _ h.lt, h.hbase, (hn _ (by omega)).trans ((hc _).trans h.c0), (hn _ (by omega)).trans ((hc _).trans h.c1), (hn _ (by omega)).trans ((hc _).trans h.c2), (hn _ (by omega)).trans ((hc _).trans h.c3), (hn _ (by omega)).trans ((hc _).trans h.c4), (hn _ (by omega)).trans ((hc _).trans h.c5),
    cset_eq _ _ _ _ v ((hc _).trans h.c6), fun o => by rw [World.frozen?_setCell]; exact (hf o).trans (h.free o), ?_, h.qcap, fun h0 b o e => ⟨(h.qne h0 b o e).1, ?_, (h.qne h0 b o e).2.2⟩, own_set (by simpa using ho) hvn _, hvn⟩
  · simp only [World.size_setCell]
    refine rd_set ?_ (fun h0 b o e => (h.qne h0 b o e).1) _
    refine ⟨h.q.1, fun hp0 => ?_⟩
    obtain ⟨b, o, e, hb, hcc⟩ := h.q.2 hp0
    exact ⟨b, o, e, hp.size _ hb, fun j u hu => (hp.cell b (o + j) hb (h.qne hp0 b o e).2.1).trans (hcc j u hu)⟩
  · intro e2
    have hg : g' = b := by simpa [Value.ownBlock] using e2
    rcases hp.at_ with h1 | h1
    · exact (h.qne h0 b o e).2.1 (by rw [h1, hg])
    · obtain ⟨b', o', e', hb, -⟩ := h.q.2 h0
      rw [e] at e'
      injection e' with e'
      injection e' with e'
      omega
end

set_option maxRecDepth 10000 in
set_option maxHeartbeats 2000000 in
theorem put_any (g base cap : Nat) (r : R) (A : Option Addr) (l : List O) (v : Value) (w : World) (h : WkAt w g base r A cap l v) (o : O) (hl : l.length ≤ 1000) :
    Calls Try.prog 61 #[.pointer (some ⟨g, 0, none⟩), .agg #[.int .u8 o.kind, .int .i64 o.code, .int .i64 o.seq, .int .i64 o.timer, .int .i64 o.after]] w fun e w' => e = .returned (.tuple #[]) ∧ Below base w w' ∧ ∃ v', WkAt w' g base r A cap (l ++ [o]) v' := by
  have hB0 : base ≤ w.heap.size := by have := h.lt; have := h.hbase; omega
  obtain ⟨ok, oc, os, ot, oa⟩ := o
  simp only
  go_enter Try.func61, Try.ntmps61
  obtain ⟨y1, y2, -, -, -, -, -, -, y6, yf, -, -, -, -, yv⟩ := id h
  go_wp2_with fail
  go_region_law ((refine step_push elO (by rfl) _ _ (by rfl) base v l.length (l.flatMap O.cs) (by rfl) (by first | exact ((h.alloc _).alloc _).drew.own | exact ((h.alloc _).alloc _).own) (w.heap.size + 1) 1 1 #[.int .u8 ok, .int .i64 oc, .int .i64 os, .int .i64 ot, .int .i64 oa] (by rfl) (by repeat (first | exact hhere _ _ _ (by simp) | rw [hget_drew] | rw [hpeel _ _ _ (by simp; try omega)])) rfl (by simp [Value.oneCell']) (by omega) (by simp only [maxLen]; omega) (by simp; omega) ?_; intro gg cap2 w1 hown1 hp1; have hr1 := fun o => hp1.cell g o (by simp; omega) yv; have hf1 := fun o => hp1.frozen g o (by simp; omega) yv))
  all_goals go_wp2_with fail
  all_goals refine ⟨rfl, .tuple #[], ?_, rfl, ?_, _, (by first | exact (((h.alloc _).alloc _).drew).set_outs hp1 ⟨ok, oc, os, ot, oa⟩ hown1 | exact (((h.alloc _).alloc _)).set_outs hp1 ⟨ok, oc, os, ot, oa⟩ hown1)⟩
  all_goals first
    | (simp only [results]; go_simp; done)
    | exact ((((Below.refl _ _).alloc hB0 _).alloc (by simp; omega) _).drew.trans hp1.below).setCell (p := ⟨g, 6, none⟩) y2 _
    | exact ((((Below.refl _ _).alloc hB0 _).alloc (by simp; omega) _).trans hp1.below).setCell (p := ⟨g, 6, none⟩) y2 _

set_option maxRecDepth 10000 in
set_option maxHeartbeats 2000000 in
theorem wtimer_any (g base cap : Nat) (r : R) (A : Option Addr) (l : List O) (v : Value) (w : World) (h : WkAt w g base r A cap l v) (n a : Int) (hl : l.length ≤ 1000) :
    Calls Try.prog 77 #[.pointer (some ⟨g, 0, none⟩), .int .i64 n, .int .i64 a] w fun e w' => e = .returned (.tuple #[]) ∧ Below base w w' ∧ ∃ v', WkAt w' g base r A cap (l ++ [timerO n a]) v' := by
  go_enter Try.func77, Try.ntmps77
  go_wp2_with fail
  refine (put_any g base cap r A l v _ h (timerO n a) hl).mono ?_; rintro e w2 ⟨rfl, hb2, v2, h2⟩
  go_wp2_with fail
  refine ⟨rfl, .tuple #[], ?_, rfl, hb2, v2, h2⟩
  simp only [results]; go_simp

set_option maxRecDepth 10000 in
set_option maxHeartbeats 2000000 in
theorem wfinal_any (g base cap : Nat) (r : R) (A : Option Addr) (l : List O) (v : Value) (w : World) (h : WkAt w g base r A cap l v) (c : Int) (hl : l.length ≤ 1000) :
    Calls Try.prog 57 #[.pointer (some ⟨g, 0, none⟩), .int .i64 c] w fun e w' => e = .returned (.tuple #[]) ∧ Below base w w' ∧ ∃ v', WkAt w' g base r A cap (l ++ [finalO c]) v' := by
  go_enter Try.func57, Try.ntmps57
  go_wp2_with fail
  refine (put_any g base cap r A l v _ h (finalO c) hl).mono ?_; rintro e w2 ⟨rfl, hb2, v2, h2⟩
  go_wp2_with fail
  refine ⟨rfl, .tuple #[], ?_, rfl, hb2, v2, h2⟩
  simp only [results]; go_simp

set_option maxRecDepth 10000 in
set_option maxHeartbeats 2000000 in
theorem wsend_any (g base cap : Nat) (r : R) (A : Option Addr) (l : List O) (v : Value) (w : World) (h : WkAt w g base r A cap l v) (x : Int) (hl : l.length ≤ 900) :
    Calls Try.prog 60 #[.pointer (some ⟨g, 0, none⟩), .int .i64 x] w fun e w' => e = .returned (.tuple #[]) ∧ Below base w w' ∧ ∃ v', WkAt w' g base { r with wait := x } A cap (l ++ [sendO r.code r.seq, timerO 1 x]) v' := by
  have hx := h.set_wait x
  obtain ⟨y1, y2, x0, x1, x2, -, -, -, y6, yf, -, -, -, -, yv⟩ := id h
  go_enter Try.func60, Try.ntmps60
  go_wp2_with fail
  go_cut [] from 4 to 24 (fun wx => Below base w wx ∧ ∃ v', WkAt wx g base { r with wait := x } A cap (l ++ [sendO r.code r.seq]) v')
  case first =>
    go_region_law ((go_simp; go_at_call 61; refine (put_any g base cap _ A l v _ (by first | exact hx.drew | exact hx) (sendO r.code r.seq) (by omega)).mono ?_; rintro e w2 ⟨rfl, hb2, v2, h2⟩))
    all_goals (go_wp2_with fail; go_meet)
    all_goals first | exact ⟨((Below.refl _ _).setCell (p := ⟨g, 2, none⟩) y2 _).drew.trans hb2, v2, h2⟩ | exact ⟨((Below.refl _ _).setCell (p := ⟨g, 2, none⟩) y2 _).trans hb2, v2, h2⟩
  case rest =>
  obtain ⟨hb2, v2, h2⟩ := hcut
  go_wp2_with fail
  refine (wtimer_any g base cap _ A _ v2 _ h2 1 x (by simp; omega)).mono ?_; rintro e w3 ⟨rfl, hb3, v3, h3⟩
  go_wp2_with fail
  rw [List.append_assoc] at h3
  refine ⟨rfl, .tuple #[], ?_, rfl, hb2.trans hb3, v3, h3⟩
  simp only [results]; go_simp

set_option maxRecDepth 10000 in
set_option maxHeartbeats 2000000 in
theorem wstop_any (g base cap : Nat) (r : R) (A : Option Addr) (l : List O) (v : Value) (w : World) (h : WkAt w g base r A cap l v) :
    Calls Try.prog 56 #[.pointer (some ⟨g, 0, none⟩)] w fun e w' => e = .returned (.tuple #[]) ∧ Below base w w' ∧ WkAt w' g base ⟨r.seq, 0, 0, [], r.fin, r.failed⟩ none 0 l v := by
  obtain ⟨y1, y2, x0, x1, x2, x3, -, -, y6, yf, -, -, -, -, yv⟩ := id h
  go_enter Try.func56, Try.ntmps56
  go_wp2_with fail
  refine ⟨rfl, .tuple #[], ?_, rfl, ((((Below.refl _ _).setCell (p := ⟨g, 1, none⟩) y2 _).setCell (p := ⟨g, 2, none⟩) y2 _).setCell (p := ⟨g, 3, none⟩) y2 _), ((h.set_code 0).set_wait 0).set_q (q' := []) (Rd.nil _ _ _ _) (by simp) (fun h0 => absurd h0 (by simp))⟩
  simp only [results]; go_simp

set_option maxRecDepth 10000 in
set_option maxHeartbeats 2000000 in
theorem wdone_any (g base cap : Nat) (r : R) (A : Option Addr) (l : List O) (v : Value) (w : World) (h : WkAt w g base r A cap l v) :
    Calls Try.prog 58 #[.pointer (some ⟨g, 0, none⟩)] w fun e w' => e = .returned (.tuple #[.agg #[.int .i64 r.seq, .int .i64 r.code, .int .i64 r.wait, .slice A r.q.length cap, .bool r.fin, .bool r.failed], v, .int .u8 0]) ∧ Below w.heap.size w w' ∧ WkAt w' g base r A cap l v := by
  obtain ⟨y1, y2, x0, x1, x2, x3, x4, x5, y6, yf, -, -, -, -, yv⟩ := id h
  go_enter Try.func58, Try.ntmps58
  go_wp2_with fail
  have W1 := ((h.alloc (.cells #[.int .i64 0, .int .i64 0, .int .i64 0, .slice none 0 0, .bool false, .bool false] 61)))
  go_region_held3 (fun w' => w'.cell? ⟨g, 0, none⟩ = some (.int .i64 r.seq) ∧ w'.cell? ⟨g, 1, none⟩ = some (.int .i64 r.code) ∧ w'.cell? ⟨g, 2, none⟩ = some (.int .i64 r.wait) ∧ w'.cell? ⟨g, 3, none⟩ = some (.slice A r.q.length cap) ∧ w'.cell? ⟨g, 4, none⟩ = some (.bool r.fin) ∧ w'.cell? ⟨g, 5, none⟩ = some (.bool r.failed) ∧ w'.cell? ⟨g, 6, none⟩ = some v) (go_simp) (fail)
  go_wp2_with fail
  refine bodyPost_ret (v := .tuple #[.agg #[.int .i64 r.seq, .int .i64 r.code, .int .i64 r.wait, .slice A r.q.length cap, .bool r.fin, .bool r.failed], v, .int .u8 0]) ?_ rfl ⟨rfl, ?_, ?_⟩
  · simp only [results, Try.results58]; go_simp
  · exact ((Below.refl _ _).alloc (Nat.le_refl _) _).drew
  · exact (h.alloc _).drew
end Go.Proofs.Ytdllehgiambkcaa.Pv
