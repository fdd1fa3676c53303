/- A sender in a variable of the law, beside other variables; one round of ProvisionalSteps. -/
import Derived.Test.YtdllehgiambkcaaPvROffer
import Derived.Test.YtdllehgiambkcaaPvRSame
import Derived.Test.YtdllehgiambkcaaPvRel
namespace Go.Proofs.Ytdllehgiambkcaa.Pv
open Go.RowKit

def R.arr (r : R) (A : Option Addr) (cap : Nat) : Array Value := #[.int .i64 r.seq, .int .i64 r.code, .int .i64 r.wait, .slice A r.q.length cap, .bool r.fin, .bool r.failed]

structure SenAt (w : World) (g : Nat) (r : R) (A : Option Addr) (cap : Nat) : Prop where
  box : Box w g (r.arr A cap)
  q : Rd w w.heap.size 1 A r.q.length (ints r.q)
  qcap : r.q.length ≤ cap

/-- The six stores into a variable. -/
def set6 (w : World) (g : Nat) (u0 u1 u2 u3 u4 u5 : Value) : World :=
  (((((w.setCell ⟨g, 0, none⟩ u0).setCell ⟨g, 1, none⟩ u1).setCell ⟨g, 2, none⟩ u2).setCell ⟨g, 3, none⟩ u3).setCell ⟨g, 4, none⟩ u4).setCell ⟨g, 5, none⟩ u5

section
variable {w w' : World} {g cap : Nat} {r : R} {A : Option Addr}
theorem SenAt.alloc (h : SenAt w g r A cap) (o : Obj) : SenAt (w.alloc o) g r A cap := ⟨h.box.alloc o, rd_allocs h.q o, h.qcap⟩
theorem SenAt.drew (h : SenAt w g r A cap) : SenAt w.drew g r A cap := ⟨h.box.drew, h.q, h.qcap⟩
theorem SenAt.drewN (h : SenAt w g r A cap) (n : Nat) : SenAt (w.drewN n) g r A cap := ⟨h.box.drewN n, h.q, h.qcap⟩
theorem SenAt.past (h : SenAt w g r A cap) (hb : Below w.heap.size w w') : SenAt w' g r A cap := ⟨h.box.past hb, h.q.past hb, h.qcap⟩
theorem SenAt.rules (h : SenAt w g r A cap) : g < w.heap.size ∧ (∀ o, w.cell? ⟨g, o, none⟩ = (#[.int .i64 r.seq, .int .i64 r.code, .int .i64 r.wait, .slice A r.q.length cap, .bool r.fin, .bool r.failed] : Array Value)[o]?) ∧ ∀ o, w.frozen? ⟨g, o, none⟩ = false := ⟨h.box.lt, h.box.cell, h.box.free⟩

theorem box_set6 {cs : Array Value} (h : Box w g cs) (hc : cs.size = 6) (u0 u1 u2 u3 u4 u5 : Value) : Box (set6 w g u0 u1 u2 u3 u4 u5) g #[u0, u1, u2, u3, u4, u5] := by
  obtain ⟨l⟩ := cs
  match l, hc with
  | [x0, x1, x2, x3, x4, x5], _ => exact (box_set (box_set (box_set (box_set (box_set (box_set h 0 (by simp) u0) 1 (by simp) u1) 2 (by simp) u2) 3 (by simp) u3) 4 (by simp) u4) 5 (by simp) u5)
theorem box_far6 {cs : Array Value} {b : Nat} (h : Box w b cs) (hg : g ≠ b) (u0 u1 u2 u3 u4 u5 : Value) : Box (set6 w g u0 u1 u2 u3 u4 u5) b cs :=
  box_far (box_far (box_far (box_far (box_far (box_far h hg _) hg _) hg _) hg _) hg _) hg _
theorem SenAt.far6 {b : Nat} (h : SenAt w b r A cap) (hg : g ≠ b) (hq : 0 < r.q.length → ∀ b o, A = some ⟨b, o, none⟩ → b ≠ g) (u0 u1 u2 u3 u4 u5 : Value) : SenAt (set6 w g u0 u1 u2 u3 u4 u5) b r A cap :=
  ⟨box_far6 h.box hg _ _ _ _ _ _, rd_lay h.q hq _ _ _ _ _ _, h.qcap⟩
theorem below_set6 {B : Nat} {w0 : World} (h : Below B w0 w) (hg : B ≤ g) (u0 u1 u2 u3 u4 u5 : Value) : Below B w0 (set6 w g u0 u1 u2 u3 u4 u5) :=
  (((((h.setCell (p := ⟨g, 0, none⟩) hg _).setCell (p := ⟨g, 1, none⟩) hg _).setCell (p := ⟨g, 2, none⟩) hg _).setCell (p := ⟨g, 3, none⟩) hg _).setCell (p := ⟨g, 4, none⟩) hg _).setCell (p := ⟨g, 5, none⟩) hg _
theorem set6_size (u0 u1 u2 u3 u4 u5 : Value) : (set6 w g u0 u1 u2 u3 u4 u5).heap.size = w.heap.size := by simp [set6]
end

/-- The state of a round: the two equal senders, the two variables that take the answers. -/
structure Rnd (w0 wx : World) (g3 g7 g10 g13 : Nat) (r : R) (A3 : Option Addr) (c3 : Nat) (A7 : Option Addr) (c7 : Nat) : Prop where
  s3 : SenAt wx g3 r A3 c3
  s7 : SenAt wx g7 r A7 c7
  b10 : ∃ cs, cs.size = 6 ∧ Box wx g10 cs
  b13 : ∃ cs, cs.size = 6 ∧ Box wx g13 cs
  n1 : g10 ≠ g3 ∧ g10 ≠ g7 ∧ g13 ≠ g3 ∧ g13 ≠ g7 ∧ g10 ≠ g13
  q3 : 0 < r.q.length → ∀ b o, A3 = some ⟨b, o, none⟩ → b ≠ g10 ∧ b ≠ g13
  q7 : 0 < r.q.length → ∀ b o, A7 = some ⟨b, o, none⟩ → b ≠ g10 ∧ b ≠ g13
  bel : Below w0.heap.size w0 wx
  lo : w0.heap.size ≤ g10 ∧ w0.heap.size ≤ g13

section
variable {w0 w w' : World} {g3 g7 g10 g13 c3 c7 : Nat} {r : R} {A3 A7 : Option Addr}
theorem Rnd.past (h : Rnd w0 w g3 g7 g10 g13 r A3 c3 A7 c7) (hb : Below w.heap.size w w') : Rnd w0 w' g3 g7 g10 g13 r A3 c3 A7 c7 := by
  obtain ⟨cs, hcs, hB⟩ := h.b10
  obtain ⟨cs', hcs', hB'⟩ := h.b13
  exact ⟨h.s3.past hb, h.s7.past hb, ⟨cs, hcs, hB.past hb⟩, ⟨cs', hcs', hB'.past hb⟩, h.n1, h.q3, h.q7, h.bel.trans (hb.mono h.bel.size), h.lo⟩
theorem Rnd.lay10 (h : Rnd w0 w g3 g7 g10 g13 r A3 c3 A7 c7) (u0 u1 u2 u3 u4 u5 : Value) : Rnd w0 (set6 w g10 u0 u1 u2 u3 u4 u5) g3 g7 g10 g13 r A3 c3 A7 c7 := by
  obtain ⟨cs, hcs, hB⟩ := h.b10
  obtain ⟨cs', hcs', hB'⟩ := h.b13
  obtain ⟨n1, n2, n3, n4, n5⟩ := h.n1
  exact ⟨h.s3.far6 n1 (fun h0 b o e => (h.q3 h0 b o e).1) _ _ _ _ _ _, h.s7.far6 n2 (fun h0 b o e => (h.q7 h0 b o e).1) _ _ _ _ _ _, ⟨_, rfl, box_set6 hB hcs _ _ _ _ _ _⟩, ⟨cs', hcs', box_far6 hB' n5 _ _ _ _ _ _⟩, h.n1, h.q3, h.q7, below_set6 h.bel h.lo.1 _ _ _ _ _ _, h.lo⟩
theorem Rnd.lay13 (h : Rnd w0 w g3 g7 g10 g13 r A3 c3 A7 c7) (u0 u1 u2 u3 u4 u5 : Value) : Rnd w0 (set6 w g13 u0 u1 u2 u3 u4 u5) g3 g7 g10 g13 r A3 c3 A7 c7 := by
  obtain ⟨cs, hcs, hB⟩ := h.b10
  obtain ⟨cs', hcs', hB'⟩ := h.b13
  obtain ⟨n1, n2, n3, n4, n5⟩ := h.n1
  exact ⟨h.s3.far6 n3 (fun h0 b o e => (h.q3 h0 b o e).2) _ _ _ _ _ _, h.s7.far6 n4 (fun h0 b o e => (h.q7 h0 b o e).2) _ _ _ _ _ _, ⟨cs, hcs, box_far6 hB (Ne.symm n5) _ _ _ _ _ _⟩, ⟨_, rfl, box_set6 hB' hcs' _ _ _ _ _ _⟩, h.n1, h.q3, h.q7, below_set6 h.bel h.lo.2 _ _ _ _ _ _, h.lo⟩
end
theorem Rnd.open10 {w0 w : World} {g3 g7 g10 g13 c3 c7 : Nat} {r : R} {A3 A7 : Option Addr} (h : Rnd w0 w g3 g7 g10 g13 r A3 c3 A7 c7) : ∃ u0 u1 u2 u3 u4 u5, Box w g10 #[u0, u1, u2, u3, u4, u5] := by
  obtain ⟨⟨l⟩, hcs, hB⟩ := h.b10
  match l, hcs, hB with
  | [x0, x1, x2, x3, x4, x5], _, hB => exact ⟨_, _, _, _, _, _, hB⟩
theorem Rnd.open13 {w0 w : World} {g3 g7 g10 g13 c3 c7 : Nat} {r : R} {A3 A7 : Option Addr} (h : Rnd w0 w g3 g7 g10 g13 r A3 c3 A7 c7) : ∃ u0 u1 u2 u3 u4 u5, Box w g13 #[u0, u1, u2, u3, u4, u5] := by
  obtain ⟨⟨l⟩, hcs, hB⟩ := h.b13
  match l, hcs, hB with
  | [x0, x1, x2, x3, x4, x5], _, hB => exact ⟨_, _, _, _, _, _, hB⟩

theorem next_len (r : R) : (next r).1.q.length ≤ r.q.length ∧ (next r).2.length ≤ 3 := by
  unfold next
  split
  · simp
  · split
    · simp
    · rename_i c q e
      split <;> simp [e]
theorem offer_len (r : R) (c : Int) : (offer r c).r.q.length ≤ r.q.length + 1 ∧ (offer r c).l.length ≤ 3 := by
  unfold offer
  split
  · simp [R.zero]
  · split
    · simp [R.zero]
    · split
      · simp [R.zero]
      · split
        · simp
        · have := next_len { r with fin := decide (200 ≤ c), q := r.q ++ [c] }
          simp at this ⊢
          omega
theorem ack_len (r : R) (c : Int) : (ack r c).r.q.length ≤ r.q.length + 1 ∧ (ack r c).l.length ≤ 3 := by
  unfold ack
  split
  · simp [R.zero]
  · split
    · simp [R.zero]
    · have := next_len { r with code := 0, wait := 0 }
      simp at this ⊢
      omega
theorem fire_len (r : R) (c : Int) : (fire r c).r.q.length ≤ r.q.length + 1 ∧ (fire r c).l.length ≤ 3 := by
  unfold fire
  split
  · simp [R.zero]
  · split
    · simp
    · split <;> simp
theorem SenAt.qlt {w : World} {g cap : Nat} {r : R} {A : Option Addr} (h : SenAt w g r A cap) : 0 < r.q.length → ∀ b o, A = some ⟨b, o, none⟩ → b < w.heap.size := by
  intro h0 b o e
  obtain ⟨b', o', e', hb', -⟩ := h.q.2 h0
  rw [e] at e'
  injection e' with e'
  injection e' with e'
  omega
theorem own_lo {w : World} {base n c : Nat} {A : Option Addr} {xs : List Value} (h : w.ownsRow base 70 5 (.slice A n c) n xs) : ∀ b o, A = some ⟨b, o, none⟩ → base ≤ b := by
  intro b o e
  subst e
  exact (h.lt b (by simp [Value.ownBlock])).1
end Go.Proofs.Ytdllehgiambkcaa.Pv
