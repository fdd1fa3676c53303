/- The memory of the second loop of ProvisionalOrder: one variable more. -/
import Derived.Test.YtdllehgiambkcaaPvOrdAt
namespace Go.Proofs.Ytdllehgiambkcaa.Pv
open Go.RowKit

structure Two (H g14 : Nat) (w0 wr : World) (x : L) (A : Option Addr) (cap : Nat) (v : Value) (want : List Int) (wv : Value) (a : Nat) (AL : Option Addr) (capL : Nat) (bs : List Bool) : Prop where
  ord : OrdAt H w0 wr x A cap v want wv a AL capL bs
  b14 : ∃ u0 u1 u2 u3 u4 u5, Box wr g14 #[u0, u1, u2, u3, u4, u5]
  lo : H + 3 ≤ g14
  sv : v.ownBlock ≠ some g14
  sw : wv.ownBlock ≠ some g14
  sq : 0 < x.r.q.length → ∀ b o, A = some ⟨b, o, none⟩ → b ≠ g14

section
variable {H g14 : Nat} {w0 wr w1 : World} {x : L} {A : Option Addr} {cap : Nat} {v : Value} {want : List Int} {wv : Value} {a : Nat} {AL : Option Addr} {capL : Nat} {bs : List Bool}

theorem Two.past (h : Two H g14 w0 wr x A cap v want wv a AL capL bs) (hb : Below wr.heap.size wr w1) : Two H g14 w0 w1 x A cap v want wv a AL capL bs := by
  obtain ⟨u0, u1, u2, u3, u4, u5, B⟩ := h.b14
  exact ⟨h.ord.past hb, ⟨_, _, _, _, _, _, B.past hb⟩, h.lo, h.sv, h.sw, h.sq⟩
theorem Two.alloc (h : Two H g14 w0 wr x A cap v want wv a AL capL bs) (o : Obj) : Two H g14 w0 (wr.alloc o) x A cap v want wv a AL capL bs := h.past ((Below.refl _ _).alloc (Nat.le_refl _) o)
theorem Two.drewN (h : Two H g14 w0 wr x A cap v want wv a AL capL bs) (n : Nat) : Two H g14 w0 (wr.drewN n) x A cap v want wv a AL capL bs := h.past (below_drewN' (Below.refl _ _) n)
theorem Two.drew (h : Two H g14 w0 wr x A cap v want wv a AL capL bs) : Two H g14 w0 wr.drew x A cap v want wv a AL capL bs := h.past (Below.refl _ _).drew
theorem Two.near {y : L} {v' : Value} (h : Two H g14 w0 wr x A cap v want wv a AL capL bs) (hL : LinkAt w1 (H + 1) H y A cap v') (hN : Near wr w1 (H + 1) H v v') (hr : y.r = x.r) : Two H g14 w0 w1 y A cap v' want wv a AL capL bs := by
  obtain ⟨u0, u1, u2, u3, u4, u5, B⟩ := h.b14
  have hlo := h.lo
  exact ⟨h.ord.near hL hN hr, ⟨_, _, _, _, _, _, hN.box B (by omega) h.sv⟩, h.lo, hN.own g14 B.lt h.sv, h.sw, by rw [hr]; exact h.sq⟩
theorem Two.count (h : Two H g14 w0 wr x A cap v want wv a AL capL bs) : Two H g14 w0 (wr.setCell ⟨H + 1 + 1, 0, none⟩ (.int .i64 ((a : Int) + 1))) x A cap v want wv (a + 1) AL capL bs := by
  obtain ⟨u0, u1, u2, u3, u4, u5, B⟩ := h.b14
  have hlo := h.lo
  exact ⟨h.ord.count, ⟨_, _, _, _, _, _, box_far B (by omega) _⟩, h.lo, h.sv, h.sw, h.sq⟩
theorem Two.setr (h : Two H g14 w0 wr x A cap v want wv a AL capL bs) {r : R} {A2 : Option Addr} {c2 : Nat} (hR : Rd wr wr.heap.size 1 A2 r.q.length (ints r.q)) (hc : r.q.length ≤ c2) (hn : 0 < r.q.length → ∀ b o, A2 = some ⟨b, o, none⟩ → H + 3 ≤ b ∧ v.ownBlock ≠ some b ∧ wv.ownBlock ≠ some b ∧ b ≠ g14) :
    Two H g14 w0 (set6 wr (H + 1) (.int .i64 r.seq) (.int .i64 r.code) (.int .i64 r.wait) (.slice A2 r.q.length c2) (.bool r.fin) (.bool r.failed)) { x with r := r } A2 c2 v want wv a AL capL bs := by
  obtain ⟨u0, u1, u2, u3, u4, u5, B⟩ := h.b14
  have hlo := h.lo
  exact ⟨h.ord.setr hR hc (fun h0 b o e => by obtain ⟨a1, a2, a3, a4⟩ := hn h0 b o e; exact ⟨a1, a2, a3⟩), ⟨_, _, _, _, _, _, box_far6 B (by omega) _ _ _ _ _ _⟩, h.lo, h.sv, h.sw, fun h0 b o e => (hn h0 b o e).2.2.2⟩
theorem Two.setf (h : Two H g14 w0 wr x A cap v want wv a AL capL bs) (i : Nat) (u : Value) (y : L) (hi : i < 11) (hy : (x.arr A cap v).setIfInBounds i u = y.arr A cap v) (hr : y.r = x.r) (ha : y.acc = x.acc) : Two H g14 w0 (wr.setCell ⟨H + 1, i, none⟩ u) y A cap v want wv a AL capL bs := by
  obtain ⟨u0, u1, u2, u3, u4, u5, B⟩ := h.b14
  have hlo := h.lo
  exact ⟨h.ord.setf i u y hi hy hr ha, ⟨_, _, _, _, _, _, box_far B (by omega) _⟩, h.lo, h.sv, h.sw, by rw [hr]; exact h.sq⟩
/-- Behind the stores into the variable. -/
theorem Two.lay14 (h : Two H g14 w0 wr x A cap v want wv a AL capL bs) (u0 u1 u2 u3 u4 u5 : Value) : Two H g14 w0 (set6 wr g14 u0 u1 u2 u3 u4 u5) x A cap v want wv a AL capL bs ∧ Box (set6 wr g14 u0 u1 u2 u3 u4 u5) g14 #[u0, u1, u2, u3, u4, u5] := by
  obtain ⟨y0, y1, y2, y3, y4, y5, B⟩ := h.b14
  have hlo := h.lo
  have ho := h.ord
  have hs := ho.lo
  have B' := box_set6 B rfl u0 u1 u2 u3 u4 u5
  have hw : ∀ {n : Nat} {u : Value} {xs : List Value}, wr.ownsRow (H + 3) 3 1 u n xs → u.ownBlock ≠ some g14 → (set6 wr g14 u0 u1 u2 u3 u4 u5).ownsRow (H + 3) 3 1 u n xs := fun h1 hne => own_set (own_set (own_set (own_set (own_set (own_set h1 hne _) hne _) hne _) hne _) hne _) hne _
  exact ⟨⟨⟨⟨box_far6 ho.link.box (by omega) _ _ _ _ _ _, hw ho.link.own h.sv, ho.link.vne, rd_lay ho.link.q h.sq _ _ _ _ _ _, ho.link.qcap, ho.link.qne⟩, hw ho.want h.sw, ho.sep, ho.sepq, box_far6 ho.los (by omega) _ _ _ _ _ _, box_far6 ho.at_ (by omega) _ _ _ _ _ _, below_set6 ho.bel (by omega) _ _ _ _ _ _, by rw [set6_size]; exact hs⟩, ⟨_, _, _, _, _, _, B'⟩, h.lo, h.sv, h.sw, h.sq⟩, B'⟩
end

/-- What the receiver has accepted is never more than what was offered. -/
theorem inv2_acc {x : L} {want : List Int} {n : Nat} (h : Inv2 n x want) (hw : Codes want) : x.acc.length ≤ 14 ∧ may x.r = true := by
  have hw1 := hw.1
  rcases h with h | ⟨k, hf, -⟩
  · refine ⟨by rw [h.acc]; exact hw1, ?_⟩
    rw [h.r]
    exact good_may (p := []) ⟨⟨by simp, Or.inl ⟨rfl, Or.inr rfl⟩⟩, by simp, by simp; omega, by simp, by simp, by simp, by simp⟩
  · refine ⟨?_, may_fly hf hw⟩
    rcases hf.got with ⟨-, e⟩ | ⟨-, e⟩ <;> rw [e, List.length_take] <;> omega

/-- Behind an act of the second loop: the link is as before, the answer X lies in the variable. -/
structure Got (H g14 : Nat) (w0 wx : World) (y : L) (A : Option Addr) (cap : Nat) (v : Value) (want : List Int) (wv : Value) (a : Nat) (AL : Option Addr) (capL : Nat) (bs : List Bool) (n : Nat) (X : Res) (A2 V2 : Option Addr) (c2 : Nat) : Prop where
  e0 : X.e = 0
  may : may X.r = true
  inv : ∀ b2, (100 ≤ n → b2 = false) → Inv2 (n + 1) (L.dlv b2 { y with r := X.r } X.l) want
  len : X.l.length ≤ 3
  two : Two H g14 w0 wx y A cap v want wv a AL capL bs
  box : Box wx g14 #[.int .i64 X.r.seq, .int .i64 X.r.code, .int .i64 X.r.wait, .slice A2 X.r.q.length c2, .bool X.r.fin, .bool X.r.failed]
  q : Rd wx wx.heap.size 1 A2 X.r.q.length (ints X.r.q)
  qcap : X.r.q.length ≤ c2
  qfar : 0 < X.r.q.length → ∀ b o, A2 = some ⟨b, o, none⟩ → H + 3 ≤ b ∧ v.ownBlock ≠ some b ∧ wv.ownBlock ≠ some b ∧ b ≠ g14
  outs : Rd wx wx.heap.size 5 V2 X.l.length (X.l.flatMap O.cs)
  ofar : ∀ b o, V2 = some ⟨b, o, none⟩ → H + 3 ≤ b ∧ v.ownBlock ≠ some b ∧ wv.ownBlock ≠ some b ∧ b ≠ g14

/-- From what an act answers to what stands behind the stores into the variable. -/
theorem got_of {H g14 : Nat} {w0 wr w1 : World} {y : L} {A : Option Addr} {cap : Nat} {v : Value} {want : List Int} {wv : Value} {a : Nat} {AL : Option Addr} {capL : Nat} {bs : List Bool} {n : Nat} {X : Res} {A2 V2 : Option Addr} {c2 k2 : Nat} (hT : Two H g14 w0 wr y A cap v want wv a AL capL bs)
    (e0 : X.e = 0) (hm : may X.r = true) (hi : ∀ b2, (100 ≤ n → b2 = false) → Inv2 (n + 1) (L.dlv b2 { y with r := X.r } X.l) want) (hl : X.l.length ≤ 3) (hb : Below wr.heap.size wr w1) (hR : Rd w1 w1.heap.size 1 A2 X.r.q.length (ints X.r.q)) (hc : X.r.q.length ≤ c2)
    (ho : w1.ownsRow wr.heap.size 70 5 (.slice V2 X.l.length k2) X.l.length (X.l.flatMap O.cs)) (hn : 0 < X.r.q.length → ∀ b o, A2 = some ⟨b, o, none⟩ → wr.heap.size ≤ b) :
    Got H g14 w0 (set6 w1 g14 (.int .i64 X.r.seq) (.int .i64 X.r.code) (.int .i64 X.r.wait) (.slice A2 X.r.q.length c2) (.bool X.r.fin) (.bool X.r.failed)) y A cap v want wv a AL capL bs n X A2 V2 c2 := by
  obtain ⟨u0, u1, u2, u3, u4, u5, B⟩ := hT.b14
  have hg := B.lt
  have far : ∀ b, wr.heap.size ≤ b → H + 3 ≤ b ∧ v.ownBlock ≠ some b ∧ wv.ownBlock ≠ some b ∧ b ≠ g14 := fun b hb => ⟨Nat.le_trans hT.ord.lo hb, fun e => by have := (hT.ord.link.own.lt b e).2; omega, fun e => by have := (hT.ord.want.lt b e).2; omega, by omega⟩
  obtain ⟨V', k', e, -, hO⟩ := own_slice ho
  injection e with e1 e2 e3
  subst e1
  have hL := (hT.past hb).lay14 (.int .i64 X.r.seq) (.int .i64 X.r.code) (.int .i64 X.r.wait) (.slice A2 X.r.q.length c2) (.bool X.r.fin) (.bool X.r.failed)
  exact ⟨e0, hm, hi, hl, hL.1, hL.2, rd_lay hR (fun h0 b o e => (far b (hn h0 b o e)).2.2.2) _ _ _ _ _ _, hc, fun h0 b o e => far b (hn h0 b o e), rd_lay hO (fun _ b o e => (far b (own_lo ho b o e)).2.2.2) _ _ _ _ _ _, fun b o e => far b (own_lo ho b o e)⟩
end Go.Proofs.Ytdllehgiambkcaa.Pv
