/- A sender in a variable of the law: where it lies. -/
import Derived.Test.YtdllehgiambkcaaPvWorks
import Derived.Test.YtdllehgiambkcaaPvLaw
namespace Go.Proofs.Ytdllehgiambkcaa.Pv
open Go.RowKit

structure RelAt (w : World) (g : Nat) (r : R) (A : Option Addr) (cap : Nat) : Prop where
  lt : g < w.heap.size
  c0 : w.cell? ⟨g, 0, none⟩ = some (.int .i64 r.seq)
  c1 : w.cell? ⟨g, 1, none⟩ = some (.int .i64 r.code)
  c2 : w.cell? ⟨g, 2, none⟩ = some (.int .i64 r.wait)
  c3 : w.cell? ⟨g, 3, none⟩ = some (.slice A r.q.length cap)
  c4 : w.cell? ⟨g, 4, none⟩ = some (.bool r.fin)
  c5 : w.cell? ⟨g, 5, none⟩ = some (.bool r.failed)
  free : ∀ o, w.frozen? ⟨g, o, none⟩ = false
  q : Rd w w.heap.size 1 A r.q.length (ints r.q)
  qcap : r.q.length ≤ cap
  qne : 0 < r.q.length → ∀ b o, A = some ⟨b, o, none⟩ → g < b

section
variable {w w' : World} {g cap : Nat} {r : R} {A : Option Addr}
theorem RelAt.alloc (h : RelAt w g r A cap) (o : Obj) : RelAt (w.alloc o) g r A cap := by
  have hc := fun i => World.cell?_alloc_past (w := w) o g i h.lt
  have hf := fun i => World.frozen?_alloc_past (w := w) o g i h.lt
  exact ⟨by have := h.lt; simp; omega, (hc _).trans h.c0, (hc _).trans h.c1, (hc _).trans h.c2, (hc _).trans h.c3, (hc _).trans h.c4, (hc _).trans h.c5, fun o => (hf o).trans (h.free o), (h.q.alloc (Nat.le_refl _) o).more (by simp), h.qcap, h.qne⟩
theorem RelAt.drewN (h : RelAt w g r A cap) (n : Nat) : RelAt (w.drewN n) g r A cap := ⟨h.lt, h.c0, h.c1, h.c2, h.c3, h.c4, h.c5, h.free, h.q, h.qcap, h.qne⟩
theorem RelAt.drew (h : RelAt w g r A cap) : RelAt w.drew g r A cap := ⟨h.lt, h.c0, h.c1, h.c2, h.c3, h.c4, h.c5, h.free, h.q, h.qcap, h.qne⟩
theorem RelAt.past (h : RelAt w g r A cap) (hb : Below w.heap.size w w') : RelAt w' g r A cap := by
  have hc := bat hb h.lt
  have hf := fat hb h.lt
  exact ⟨Nat.lt_of_lt_of_le h.lt hb.size, (hc _).trans h.c0, (hc _).trans h.c1, (hc _).trans h.c2, (hc _).trans h.c3, (hc _).trans h.c4, (hc _).trans h.c5, fun o => (hf o).trans (h.free o), h.q.past hb, h.qcap, h.qne⟩
theorem RelAt.new (w : World) : RelAt (w.alloc (.cells #[.int .i64 0, .int .i64 0, .int .i64 0, .slice none 0 0, .bool false, .bool false] 61)) w.heap.size ⟨0, 0, 0, [], false, false⟩ none 0 := by
  have B := Box.new w #[.int .i64 0, .int .i64 0, .int .i64 0, .slice none 0 0, .bool false, .bool false] 61
  exact ⟨B.lt, B.cell 0, B.cell 1, B.cell 2, B.cell 3, B.cell 4, B.cell 5, B.free, Rd.nil _ _ _ _, by simp, fun h => absurd h (by simp)⟩

/-- The six stores that lay a sender into its variable. -/
def lay6 (w : World) (g : Nat) (r : R) (A : Option Addr) (cap : Nat) : World :=
  ((((((w.setCell ⟨g, 0, none⟩ (.int .i64 r.seq)).setCell ⟨g, 1, none⟩ (.int .i64 r.code)).setCell ⟨g, 2, none⟩ (.int .i64 r.wait)).setCell ⟨g, 3, none⟩ (.slice A r.q.length cap)).setCell ⟨g, 4, none⟩ (.bool r.fin)).setCell ⟨g, 5, none⟩ (.bool r.failed))
theorem lay6_size (w : World) (g : Nat) (r : R) (A : Option Addr) (cap : Nat) : (lay6 w g r A cap).heap.size = w.heap.size := by simp [lay6]
theorem lay6_far (w : World) (g : Nat) (r : R) (A : Option Addr) (cap : Nat) (b o : Nat) (h : g ≠ b) : (lay6 w g r A cap).cell? ⟨b, o, none⟩ = w.cell? ⟨b, o, none⟩ := by
  unfold lay6
  have hf := fun (W : World) i u => World.cell?_setCell_far W ⟨g, i, none⟩ ⟨b, o, none⟩ u h
  rw [hf, hf, hf, hf, hf, hf]
theorem lay6_free (w : World) (g : Nat) (r : R) (A : Option Addr) (cap : Nat) (a : Addr) : (lay6 w g r A cap).frozen? a = w.frozen? a := by simp [lay6]
theorem lay6_rd {size n : Nat} {V : Option Addr} {xs : List Value} (h : Rd w w.heap.size size V n xs) (g : Nat) (r : R) (A : Option Addr) (cap : Nat) (hne : 0 < n → ∀ b o, V = some ⟨b, o, none⟩ → g ≠ b) : Rd (lay6 w g r A cap) (lay6 w g r A cap).heap.size size V n xs := by
  rw [lay6_size]
  refine ⟨h.1, fun hn => ?_⟩
  obtain ⟨b, o, e, hb, hc⟩ := h.2 hn
  exact ⟨b, o, e, hb, fun j u hu => (lay6_far _ _ _ _ _ _ _ (hne hn b o e)).trans (hc j u hu)⟩
theorem lay6_below {B : Nat} {w0 : World} (h : Below B w0 w) (hg : B ≤ g) : Below B w0 (lay6 w g r A cap) :=
  ((((((h.setCell (p := ⟨g, 0, none⟩) hg _).setCell (p := ⟨g, 1, none⟩) hg _).setCell (p := ⟨g, 2, none⟩) hg _).setCell (p := ⟨g, 3, none⟩) hg _).setCell (p := ⟨g, 4, none⟩) hg _).setCell (p := ⟨g, 5, none⟩) hg _)

theorem RelAt.lay {r0 : R} {A0 : Option Addr} {cap0 : Nat} (h : RelAt w g r0 A0 cap0) {r : R} {A : Option Addr} {cap : Nat} (hq : Rd w w.heap.size 1 A r.q.length (ints r.q)) (hc : r.q.length ≤ cap) (hne : 0 < r.q.length → ∀ b o, A = some ⟨b, o, none⟩ → g < b) : RelAt (lay6 w g r A cap) g r A cap := by
  have ne := fun (W : World) i j u (hj : i ≠ j) => cset_ne W g i j u hj
  have eq := fun (W : World) i u x hx => cset_eq W g i u x hx
  refine ⟨by rw [lay6_size]; exact h.lt, ?_, ?_, ?_, ?_, ?_, ?_, fun o => by rw [lay6_free]; exact h.free o, lay6_rd hq _ _ _ _ (fun h0 b o e => by have := hne h0 b o e; omega), hc, hne⟩
  · unfold lay6; rw [ne _ _ _ _ (by omega), ne _ _ _ _ (by omega), ne _ _ _ _ (by omega), ne _ _ _ _ (by omega), ne _ _ _ _ (by omega), eq _ _ _ _ h.c0]
  · unfold lay6; rw [ne _ _ _ _ (by omega), ne _ _ _ _ (by omega), ne _ _ _ _ (by omega), ne _ _ _ _ (by omega), eq _ _ _ _ ((ne _ _ _ _ (by omega)).trans h.c1)]
  · unfold lay6; rw [ne _ _ _ _ (by omega), ne _ _ _ _ (by omega), ne _ _ _ _ (by omega), eq _ _ _ _ ((ne _ _ _ _ (by omega)).trans ((ne _ _ _ _ (by omega)).trans h.c2))]
  · unfold lay6; rw [ne _ _ _ _ (by omega), ne _ _ _ _ (by omega), eq _ _ _ _ ((ne _ _ _ _ (by omega)).trans ((ne _ _ _ _ (by omega)).trans ((ne _ _ _ _ (by omega)).trans h.c3)))]
  · unfold lay6; rw [ne _ _ _ _ (by omega), eq _ _ _ _ ((ne _ _ _ _ (by omega)).trans ((ne _ _ _ _ (by omega)).trans ((ne _ _ _ _ (by omega)).trans ((ne _ _ _ _ (by omega)).trans h.c4))))]
  · unfold lay6; rw [eq _ _ _ _ ((ne _ _ _ _ (by omega)).trans ((ne _ _ _ _ (by omega)).trans ((ne _ _ _ _ (by omega)).trans ((ne _ _ _ _ (by omega)).trans ((ne _ _ _ _ (by omega)).trans h.c5)))))]
theorem RelAt.beside (h : RelAt w g r A cap) (g' : Nat) (r' : R) (A' : Option Addr) (cap' : Nat) (hg : g' ≠ g) (hne : 0 < r.q.length → ∀ b o, A = some ⟨b, o, none⟩ → g' ≠ b) : RelAt (lay6 w g' r' A' cap') g r A cap :=
  ⟨by rw [lay6_size]; exact h.lt, (lay6_far _ _ _ _ _ _ _ hg).trans h.c0, (lay6_far _ _ _ _ _ _ _ hg).trans h.c1, (lay6_far _ _ _ _ _ _ _ hg).trans h.c2, (lay6_far _ _ _ _ _ _ _ hg).trans h.c3, (lay6_far _ _ _ _ _ _ _ hg).trans h.c4, (lay6_far _ _ _ _ _ _ _ hg).trans h.c5, fun o => by rw [lay6_free]; exact h.free o, lay6_rd h.q _ _ _ _ hne, h.qcap, h.qne⟩
end
end Go.Proofs.Ytdllehgiambkcaa.Pv
