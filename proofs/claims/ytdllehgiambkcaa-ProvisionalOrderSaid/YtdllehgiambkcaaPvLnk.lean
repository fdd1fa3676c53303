/- The link of ProvisionalOrder: where it lies, and the walk of deliver. -/
import Derived.Test.YtdllehgiambkcaaPvLost
namespace Go.Proofs.Ytdllehgiambkcaa.Pv
open Go.RowKit

def L.arr (x : L) (A : Option Addr) (cap : Nat) (v : Value) : Array Value :=
  #[.int .i64 x.r.seq, .int .i64 x.r.code, .int .i64 x.r.wait, .slice A x.r.q.length cap, .bool x.r.fin, .bool x.r.failed, .int .i64 x.last, v, .int .i64 x.fin, .bool x.early, .bool x.fails]

structure LinkAt (w : World) (g base : Nat) (x : L) (A : Option Addr) (cap : Nat) (v : Value) : Prop where
  box : Box w g (x.arr A cap v)
  own : w.ownsRow base 3 1 v x.acc.length (ints x.acc)
  vne : v.ownBlock ≠ some g
  q : Rd w w.heap.size 1 A x.r.q.length (ints x.r.q)
  qcap : x.r.q.length ≤ cap
  qne : 0 < x.r.q.length → ∀ b o, A = some ⟨b, o, none⟩ → b ≠ g ∧ v.ownBlock ≠ some b

/-- What a walk over the link leaves alone: all but the link's block and the row of what was accepted. -/
structure Near (w w' : World) (g base : Nat) (v v' : Value) : Prop where
  cell : ∀ b o, b < w.heap.size → b ≠ g → v.ownBlock ≠ some b → w'.cell? ⟨b, o, none⟩ = w.cell? ⟨b, o, none⟩
  frozen : ∀ b o, b < w.heap.size → b ≠ g → v.ownBlock ≠ some b → w'.frozen? ⟨b, o, none⟩ = w.frozen? ⟨b, o, none⟩
  heap : ∀ b, b < w.heap.size → b ≠ g → v.ownBlock ≠ some b → w'.heap[b]? = w.heap[b]?
  size : w.heap.size ≤ w'.heap.size
  below : Below base w w'
  own : ∀ b, b < w.heap.size → v.ownBlock ≠ some b → v'.ownBlock ≠ some b

section
variable {w w1 w2 : World} {g base : Nat} {v v1 v2 : Value}
theorem Near.refl (w : World) (g base : Nat) (v : Value) : Near w w g base v v := ⟨fun _ _ _ _ _ => rfl, fun _ _ _ _ _ => rfl, fun _ _ _ _ => rfl, Nat.le_refl _, Below.refl _ _, fun _ _ h => h⟩
theorem Near.trans (h : Near w w1 g base v v1) (h' : Near w1 w2 g base v1 v2) : Near w w2 g base v v2 :=
  ⟨fun b o a c d => (h'.cell b o (Nat.lt_of_lt_of_le a h.size) c (h.own b a d)).trans (h.cell b o a c d), fun b o a c d => (h'.frozen b o (Nat.lt_of_lt_of_le a h.size) c (h.own b a d)).trans (h.frozen b o a c d),
    fun b a c d => (h'.heap b (Nat.lt_of_lt_of_le a h.size) c (h.own b a d)).trans (h.heap b a c d), Nat.le_trans h.size h'.size, h.below.trans h'.below, fun b a d => h'.own b (Nat.lt_of_lt_of_le a h.size) (h.own b a d)⟩
theorem Near.drew (h : Near w w1 g base v v1) : Near w w1.drew g base v v1 := ⟨h.cell, h.frozen, h.heap, h.size, h.below.drew, h.own⟩
theorem Near.drewN (h : Near w w1 g base v v1) (n : Nat) : Near w (w1.drewN n) g base v v1 := ⟨h.cell, h.frozen, h.heap, h.size, below_drewN' h.below n, h.own⟩
theorem Near.set (h : Near w w1 g base v v1) (hg : base ≤ g) (i : Nat) (u : Value) : Near w (w1.setCell ⟨g, i, none⟩ u) g base v v1 :=
  ⟨fun b o a c d => (World.cell?_setCell_far _ ⟨g, i, none⟩ ⟨b, o, none⟩ _ (Ne.symm c)).trans (h.cell b o a c d), fun b o a c d => by rw [World.frozen?_setCell]; exact h.frozen b o a c d,
    fun b a c d => (hset _ ⟨g, i, none⟩ _ _ c).trans (h.heap b a c d), by simp only [World.size_setCell]; exact h.size, h.below.setCell (p := ⟨g, i, none⟩) hg _, h.own⟩
theorem Near.rd {size n : Nat} {A : Option Addr} {xs : List Value} (h : Near w w1 g base v v1) (hR : Rd w w.heap.size size A n xs) (hne : 0 < n → ∀ b o, A = some ⟨b, o, none⟩ → b ≠ g ∧ v.ownBlock ≠ some b) : Rd w1 w1.heap.size size A n xs := by
  refine ⟨hR.1, fun hn => ?_⟩
  obtain ⟨b, o, e, hb, hc⟩ := hR.2 hn
  obtain ⟨n1, n2⟩ := hne hn b o e
  exact ⟨b, o, e, Nat.lt_of_lt_of_le hb h.size, fun j u hu => (h.cell b _ hb n1 n2).trans (hc j u hu)⟩
theorem Near.box {b : Nat} {cs : Array Value} (h : Near w w1 g base v v1) (hB : Box w b cs) (h1 : b ≠ g) (h2 : v.ownBlock ≠ some b) : Box w1 b cs :=
  ⟨Nat.lt_of_lt_of_le hB.lt h.size, fun o => (h.cell b o hB.lt h1 h2).trans (hB.cell o), fun o => (h.frozen b o hB.lt h1 h2).trans (hB.free o)⟩

variable {x : L} {A : Option Addr} {cap : Nat}
theorem LinkAt.drew (h : LinkAt w g base x A cap v) : LinkAt w.drew g base x A cap v := ⟨h.box.drew, h.own.drew, h.vne, h.q, h.qcap, h.qne⟩
theorem LinkAt.drewN (h : LinkAt w g base x A cap v) (n : Nat) : LinkAt (w.drewN n) g base x A cap v := ⟨h.box.drewN n, h.own.kept (row := none) ⟨rfl, rfl, rfl, Nat.le_refl _, fun _ _ _ => rfl⟩ (by cases v.ownBlock <;> simp), h.vne, h.q, h.qcap, h.qne⟩
theorem LinkAt.alloc (h : LinkAt w g base x A cap v) (o : Obj) : LinkAt (w.alloc o) g base x A cap v := ⟨h.box.alloc o, h.own.alloc o, h.vne, rd_allocs h.q o, h.qcap, h.qne⟩
theorem LinkAt.past (h : LinkAt w g base x A cap v) (hb : Below w.heap.size w w1) : LinkAt w1 g base x A cap v := ⟨h.box.past hb, own_past h.own hb, h.vne, h.q.past hb, h.qcap, h.qne⟩

/-- A store into one of the link's plain fields. -/
theorem LinkAt.set (h : LinkAt w g base x A cap v) (i : Nat) (u : Value) (y : L) (hi : i < 11) (hy : (x.arr A cap v).setIfInBounds i u = y.arr A cap v) (hr : y.r.q = x.r.q) (ha : y.acc = x.acc) : LinkAt (w.setCell ⟨g, i, none⟩ u) g base y A cap v := by
  refine ⟨by rw [← hy]; exact box_set h.box i (by simp [L.arr]; omega) u, ?_, h.vne, ?_, by rw [hr]; exact h.qcap, by rw [hr]; exact h.qne⟩
  · rw [ha]; exact own_set h.own h.vne u
  · rw [hr]; exact rd_sets h.q (fun h0 b o e => (h.qne h0 b o e).1) u

theorem link_pushed {o : Obj} {gg cap2 : Nat} {c : Int} (h : LinkAt w g base x A cap v) (hg : base ≤ g) (hp : Pushed base v (w.alloc o) w1 gg) (hb : base ≤ w.heap.size)
    (ho : w1.ownsRow base 3 1 (.slice (some ⟨gg, 0, none⟩) (x.acc.length + 1) cap2) (x.acc.length + 1) (ints x.acc ++ [.int .i64 c])) :
    LinkAt (w1.setCell ⟨g, 7, none⟩ (.slice (some ⟨gg, 0, none⟩) (x.acc.length + 1) cap2)) g base { x with acc := x.acc ++ [c] } A cap (.slice (some ⟨gg, 0, none⟩) (x.acc.length + 1) cap2) ∧ Near w (w1.setCell ⟨g, 7, none⟩ (.slice (some ⟨gg, 0, none⟩) (x.acc.length + 1) cap2)) g base v (.slice (some ⟨gg, 0, none⟩) (x.acc.length + 1) cap2) := by
  have hB := box_pushed (h.box.alloc o) hp h.vne
  have hgl := h.box.lt
  have hgg : ∀ b, b < w.heap.size → v.ownBlock ≠ some b → gg ≠ b := by
    intro b hb hv
    rcases hp.at_ with a | a
    · intro e; exact hv (by rw [a, e])
    · simp at a; omega
  have hggg := hgg g hgl h.vne
  have hi : ints (x.acc ++ [c]) = ints x.acc ++ [.int .i64 c] := by simp [ints]
  have hlen : (x.acc ++ [c]).length = x.acc.length + 1 := by simp
  have hob : (Value.slice (some ⟨gg, 0, none⟩) (x.acc.length + 1) cap2).ownBlock = some gg := rfl
  have hN : Near w w1 g base v (.slice (some ⟨gg, 0, none⟩) (x.acc.length + 1) cap2) := by
    have hsz := hp.below.size
    simp only [World.size_alloc] at hsz
    have hlt : ∀ b, b < w.heap.size → b < (w.alloc o).heap.size := fun b h => by simp; omega
    refine ⟨fun b i hb1 _ hv => ?_, fun b i hb1 _ hv => ?_, fun b hb1 _ hv => ?_, by omega, ((Below.refl _ _).alloc hb o).trans hp.below, fun b hb1 hv => ?_⟩
    · exact (hp.cell b i (hlt b hb1) hv).trans (World.cell?_alloc_past o b i hb1)
    · exact (hp.frozen b i (hlt b hb1) hv).trans (World.frozen?_alloc_past o b i hb1)
    · exact (hp.grown.block b (hlt b hb1) (Ne.symm hv)).trans (hpeel _ _ _ hb1)
    · rw [hob]; intro e; injection e with e; exact hgg b hb1 hv e
  refine ⟨⟨?_, ?_, ?_, ?_, h.qcap, fun h0 b o e => ?_⟩, hN.set hg 7 _⟩
  · have hb7 := box_set hB 7 (by simp [L.arr]) (.slice (some ⟨gg, 0, none⟩) (x.acc.length + 1) cap2)
    exact hb7
  · simp only [hlen, hi]
    exact own_set ho (by rw [hob]; intro e; injection e with e; exact hggg e) _
  · rw [hob]; intro e; injection e with e; exact hggg e
  · exact rd_sets (hN.rd h.q h.qne) (fun h0 b o e => (h.qne h0 b o e).1) _
  · obtain ⟨n1, n2⟩ := h.qne h0 b o e
    obtain ⟨b', o', e', hb', -⟩ := h.q.2 h0
    rw [e] at e'
    injection e' with e'
    injection e' with e'
    exact ⟨n1, by rw [hob]; intro e2; injection e2 with e2; exact hgg b (by omega) n2 e2⟩
end
end Go.Proofs.Ytdllehgiambkcaa.Pv
