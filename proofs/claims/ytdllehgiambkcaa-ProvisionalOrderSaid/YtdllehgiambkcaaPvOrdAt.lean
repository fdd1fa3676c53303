/- The memory of ProvisionalOrder: the losses, the link, the counter, what was offered. -/
import Derived.Test.YtdllehgiambkcaaPvDlv
namespace Go.Proofs.Ytdllehgiambkcaa.Pv
open Go.RowKit

structure OrdAt (H : Nat) (w0 wr : World) (x : L) (A : Option Addr) (cap : Nat) (v : Value) (want : List Int) (wv : Value) (a : Nat) (AL : Option Addr) (capL : Nat) (bs : List Bool) : Prop where
  link : LinkAt wr (H + 1) (H + 3) x A cap v
  want : wr.ownsRow (H + 3) 3 1 wv want.length (ints want)
  sep : ∀ b, wv.ownBlock = some b → v.ownBlock ≠ some b
  sepq : 0 < x.r.q.length → ∀ b o, A = some ⟨b, o, none⟩ → wv.ownBlock ≠ some b ∧ b ≠ H + 1 + 1
  los : Box wr H #[.slice AL bs.length capL]
  at_ : Box wr (H + 1 + 1) #[.int .i64 (a : Int)]
  bel : Below H w0 wr
  lo : H + 3 ≤ wr.heap.size

section
variable {H : Nat} {w0 wr w1 : World} {x : L} {A : Option Addr} {cap : Nat} {v : Value} {want : List Int} {wv : Value} {a : Nat} {AL : Option Addr} {capL : Nat} {bs : List Bool}

theorem OrdAt.vfar (h : OrdAt H w0 wr x A cap v want wv a AL capL bs) {b : Nat} (hb : b < H + 3) : v.ownBlock ≠ some b := fun e => by have := (h.link.own.lt b e).1; omega
theorem OrdAt.wfar (h : OrdAt H w0 wr x A cap v want wv a AL capL bs) {b : Nat} (hb : b < H + 3) : wv.ownBlock ≠ some b := fun e => by have := (h.want.lt b e).1; omega

theorem OrdAt.past (h : OrdAt H w0 wr x A cap v want wv a AL capL bs) (hb : Below wr.heap.size wr w1) : OrdAt H w0 w1 x A cap v want wv a AL capL bs :=
  ⟨h.link.past hb, own_past h.want hb, h.sep, h.sepq, h.los.past hb, h.at_.past hb, h.bel.trans (hb.mono (by have := h.lo; omega)), Nat.le_trans h.lo hb.size⟩
theorem OrdAt.alloc (h : OrdAt H w0 wr x A cap v want wv a AL capL bs) (o : Obj) : OrdAt H w0 (wr.alloc o) x A cap v want wv a AL capL bs := h.past ((Below.refl _ _).alloc (Nat.le_refl _) o)
theorem OrdAt.drew (h : OrdAt H w0 wr x A cap v want wv a AL capL bs) : OrdAt H w0 wr.drew x A cap v want wv a AL capL bs := h.past (Below.refl _ _).drew
theorem OrdAt.drewN (h : OrdAt H w0 wr x A cap v want wv a AL capL bs) (n : Nat) : OrdAt H w0 (wr.drewN n) x A cap v want wv a AL capL bs := h.past (below_drewN' (Below.refl _ _) n)

theorem own_raise {w : World} {base base' n : Nat} {u : Value} {xs : List Value} (h : w.ownsRow base 3 1 u n xs) (hb : ∀ b, u.ownBlock = some b → base' ≤ b) : w.ownsRow base' 3 1 u n xs := by
  refine ⟨h.1, ?_⟩
  rcases h.2 with h2 | ⟨g, c, cur, h1, h2, h3, h4⟩
  · exact .inl h2
  · exact .inr ⟨g, c, cur, h1, hb g (by rw [h1]; rfl), h3, h4⟩
theorem LinkAt.lower {w : World} {g base base' cap : Nat} {x : L} {A : Option Addr} {v : Value} (h : LinkAt w g base x A cap v) (hb : base' ≤ base) : LinkAt w g base' x A cap v := ⟨h.box, own_lower h.own hb, h.vne, h.q, h.qcap, h.qne⟩
theorem LinkAt.raise {w : World} {g base base' cap : Nat} {x : L} {A : Option Addr} {v : Value} (h : LinkAt w g base x A cap v) (hb : ∀ b, v.ownBlock = some b → base' ≤ b) : LinkAt w g base' x A cap v := ⟨h.box, own_raise h.own hb, h.vne, h.q, h.qcap, h.qne⟩

/-- Behind deliver. -/
theorem OrdAt.near {y : L} {v' : Value} (h : OrdAt H w0 wr x A cap v want wv a AL capL bs) (hL0 : LinkAt w1 (H + 1) H y A cap v') (hN : Near wr w1 (H + 1) H v v') (hr : y.r = x.r) : OrdAt H w0 w1 y A cap v' want wv a AL capL bs := by
  have hlo := h.lo
  have hlt : ∀ b, wv.ownBlock = some b → b < wr.heap.size := fun b e => (h.want.lt b e).2
  have hL := hL0.raise (base' := H + 3) (fun b e => by
    rcases Nat.lt_or_ge b wr.heap.size with h1 | h1
    · by_cases h2 : v.ownBlock = some b
      · exact (h.link.own.lt b h2).1
      · exact absurd e (hN.own b h1 h2)
    · omega)
  refine ⟨hL, ?_, fun b e => hN.own b (hlt b e) (h.sep b e), by rw [hr]; exact h.sepq, hN.box h.los (by omega) (h.vfar (by omega)), hN.box h.at_ (by omega) (h.vfar (by omega)), h.bel.trans (hN.below.mono (Nat.le_refl _)), Nat.le_trans hlo hN.size⟩
  refine ⟨h.want.1, ?_⟩
  rcases h.want.2 with h2 | ⟨g, c, cur, h1, h2, h3, h4⟩
  · exact .inl h2
  · have hob : wv.ownBlock = some g := by rw [h1]; rfl
    have hg : g ≠ H + 1 := by omega
    exact .inr ⟨g, c, cur, h1, h2, (hN.heap g (hlt g hob) hg (h.sep g hob)).trans h3, h4⟩

/-- Behind lost. -/
theorem OrdAt.count (h : OrdAt H w0 wr x A cap v want wv a AL capL bs) : OrdAt H w0 (wr.setCell ⟨H + 1 + 1, 0, none⟩ (.int .i64 ((a : Int) + 1))) x A cap v want wv (a + 1) AL capL bs := by
  have hb := box_set h.at_ 0 (by simp) (.int .i64 ((a : Int) + 1))
  have hlo := h.lo
  refine ⟨⟨box_far h.link.box (by omega) _, own_set h.link.own (h.vfar (b := H + 1 + 1) (by omega)) _, h.link.vne, rd_sets h.link.q (fun h0 b o e => (h.sepq h0 b o e).2) _, h.link.qcap, h.link.qne⟩, own_set h.want (h.wfar (b := H + 1 + 1) (by omega)) _, h.sep, h.sepq, box_far h.los (by omega) _, ?_, h.bel.setCell (p := ⟨H + 1 + 1, 0, none⟩) (by show H ≤ H + 1 + 1; omega) _, by simp only [World.size_setCell]; exact hlo⟩
  exact hb

/-- Behind the store of the sender: its queue is new. -/
theorem OrdAt.setr (h : OrdAt H w0 wr x A cap v want wv a AL capL bs) {r : R} {A2 : Option Addr} {c2 : Nat} (hR : Rd wr wr.heap.size 1 A2 r.q.length (ints r.q)) (hc : r.q.length ≤ c2) (hn : 0 < r.q.length → ∀ b o, A2 = some ⟨b, o, none⟩ → H + 3 ≤ b ∧ v.ownBlock ≠ some b ∧ wv.ownBlock ≠ some b) :
    OrdAt H w0 (set6 wr (H + 1) (.int .i64 r.seq) (.int .i64 r.code) (.int .i64 r.wait) (.slice A2 r.q.length c2) (.bool r.fin) (.bool r.failed)) { x with r := r } A2 c2 v want wv a AL capL bs := by
  have hlo := h.lo
  have hb : Box (set6 wr (H + 1) (.int .i64 r.seq) (.int .i64 r.code) (.int .i64 r.wait) (.slice A2 r.q.length c2) (.bool r.fin) (.bool r.failed)) (H + 1) (L.arr { x with r := r } A2 c2 v) :=
    box_set (box_set (box_set (box_set (box_set (box_set h.link.box 0 (by simp [L.arr]) _) 1 (by simp [L.arr]) _) 2 (by simp [L.arr]) _) 3 (by simp [L.arr]) _) 4 (by simp [L.arr]) _) 5 (by simp [L.arr]) _
  have ho : ∀ {n : Nat} {u : Value} {xs : List Value}, wr.ownsRow (H + 3) 3 1 u n xs → (set6 wr (H + 1) (.int .i64 r.seq) (.int .i64 r.code) (.int .i64 r.wait) (.slice A2 r.q.length c2) (.bool r.fin) (.bool r.failed)).ownsRow (H + 3) 3 1 u n xs := by
    intro n u xs h1
    have hne : u.ownBlock ≠ some (H + 1) := fun e => by have := (h1.lt _ e).1; omega
    exact own_set (own_set (own_set (own_set (own_set (own_set h1 hne _) hne _) hne _) hne _) hne _) hne _
  refine ⟨⟨hb, ho h.link.own, h.link.vne, rd_lay hR (fun h0 b o e => by have := (hn h0 b o e).1; omega) _ _ _ _ _ _, hc, fun h0 b o e => ⟨by have := (hn h0 b o e).1; omega, (hn h0 b o e).2.1⟩⟩, ho h.want, h.sep, fun h0 b o e => ⟨(hn h0 b o e).2.2, by have := (hn h0 b o e).1; omega⟩, box_far6 h.los (by omega) _ _ _ _ _ _, box_far6 h.at_ (by omega) _ _ _ _ _ _, below_set6 h.bel (by omega) _ _ _ _ _ _, by rw [set6_size]; exact hlo⟩

/-- Behind a store into a plain field of the link. -/
theorem OrdAt.setf (h : OrdAt H w0 wr x A cap v want wv a AL capL bs) (i : Nat) (u : Value) (y : L) (hi : i < 11) (hy : (x.arr A cap v).setIfInBounds i u = y.arr A cap v) (hr : y.r = x.r) (ha : y.acc = x.acc) : OrdAt H w0 (wr.setCell ⟨H + 1, i, none⟩ u) y A cap v want wv a AL capL bs := by
  have hlo := h.lo
  exact ⟨h.link.set i u y hi hy (by rw [hr]) ha, own_set h.want (h.wfar (b := H + 1) (by omega)) _, h.sep, by rw [hr]; exact h.sepq, box_far h.los (by omega) _, box_far h.at_ (by omega) _, h.bel.setCell (p := ⟨H + 1, i, none⟩) (by show H ≤ H + 1; omega) _, by simp only [World.size_setCell]; exact hlo⟩

/-- Behind the append of a code. -/
theorem OrdAt.push {o : Obj} {gg cap2 : Nat} {c : Int} (h : OrdAt H w0 wr x A cap v want wv a AL capL bs) (hp : Pushed (H + 3) wv (wr.alloc o) w1 gg)
    (ho : w1.ownsRow (H + 3) 3 1 (.slice (some ⟨gg, 0, none⟩) (want.length + 1) cap2) (want.length + 1) (ints want ++ [.int .i64 c])) :
    OrdAt H w0 w1 x A cap v (want ++ [c]) (.slice (some ⟨gg, 0, none⟩) (want.length + 1) cap2) a AL capL bs := by
  have hlo := h.lo
  have ha := h.alloc o
  have hi : ints (want ++ [c]) = ints want ++ [.int .i64 c] := by simp [ints]
  have hlen : (want ++ [c]).length = want.length + 1 := by simp
  have hgg : ∀ b, b < (wr.alloc o).heap.size → wv.ownBlock ≠ some b → gg ≠ b := by
    intro b hb hv
    rcases hp.at_ with e | e
    · intro e2; exact hv (by rw [e, e2])
    · omega
  have hob : (Value.slice (some ⟨gg, 0, none⟩) (want.length + 1) cap2).ownBlock = some gg := rfl
  have hvb : ∀ b, v.ownBlock = some b → wv.ownBlock ≠ some b := fun b e e2 => h.sep b e2 e
  have hown : w1.ownsRow (H + 3) 3 1 v x.acc.length (ints x.acc) := by
    refine ⟨ha.link.own.1, ?_⟩
    rcases ha.link.own.2 with h2 | ⟨g, c, cur, h1, h2, h3, h4⟩
    · exact .inl h2
    · have hob2 : v.ownBlock = some g := by rw [h1]; rfl
      exact .inr ⟨g, c, cur, h1, h2, (hp.grown.block g (ha.link.own.lt g hob2).2 (Ne.symm (hvb g hob2))).trans h3, h4⟩
  have hq : Rd w1 w1.heap.size 1 A x.r.q.length (ints x.r.q) := by
    refine ⟨ha.link.q.1, fun hn => ?_⟩
    obtain ⟨b, o, e, hb, hc⟩ := ha.link.q.2 hn
    exact ⟨b, o, e, hp.size _ hb, fun j u hu => (hp.cell b _ hb (h.sepq hn b o e).1).trans (hc j u hu)⟩
  refine ⟨⟨box_pushed ha.link.box hp (h.wfar (by omega)), hown, h.link.vne, hq, h.link.qcap, h.link.qne⟩, by rw [hlen, hi]; exact ho, fun b e e2 => ?_, fun h0 b o e => ⟨?_, (h.sepq h0 b o e).2⟩, box_pushed ha.los hp (h.wfar (by omega)), box_pushed ha.at_ hp (h.wfar (by omega)), ha.bel.trans (hp.below.mono (by omega)), ?_⟩
  · rw [hob] at e; injection e with e; subst e
    exact hgg gg (ha.link.own.lt gg e2).2 (hvb gg e2) rfl
  · rw [hob]; intro e2; injection e2 with e2
    obtain ⟨b', o', e', hb', -⟩ := ha.link.q.2 h0
    rw [e] at e'
    injection e' with e'
    injection e' with e'
    exact hgg b (by omega) (h.sepq h0 b o e).1 e2
  · have := hp.below.size; simp at this; omega
end
end Go.Proofs.Ytdllehgiambkcaa.Pv
