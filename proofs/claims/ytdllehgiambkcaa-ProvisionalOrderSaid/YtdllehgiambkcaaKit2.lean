/- More general lemmas about memory in walks. No program in sight. -/
import Derived.Test.YtdllehgiambkcaaKit
namespace Go.Proofs.Ytdllehgiambkcaa
open Go.RowKit

/-- One old block behind a call: its cells, its marks. -/
theorem bat {B : Nat} {W w1 : World} (hb : Below B W w1) {b : Nat} (h : b < B) : ∀ o, w1.cell? ⟨b, o, none⟩ = W.cell? ⟨b, o, none⟩ := fun o => hb.cell (p := ⟨b, o, none⟩) h
theorem fat {B : Nat} {W w1 : World} (hb : Below B W w1) {b : Nat} (h : b < B) : ∀ o, w1.frozen? ⟨b, o, none⟩ = W.frozen? ⟨b, o, none⟩ := fun o => hb.frozen (p := ⟨b, o, none⟩) h

/-- A slice that lay before a new block was made and a call came that left all old memory alone. -/
theorem Rd.thru {w w' : World} {size n : Nat} {A : Option Addr} {xs : List Value} (h : Rd w w.heap.size size A n xs) {o : Obj} (hb : Below (w.alloc o).heap.size (w.alloc o) w') : Rd w' w'.heap.size size A n xs :=
  ((h.alloc (Nat.le_refl _) o).more (B' := (w.alloc o).heap.size) (by simp)).past hb

/-- A variable of the call's own: its block, its cells, none of them frozen. -/
structure Box (w : World) (b : Nat) (cs : Array Value) : Prop where
  lt : b < w.heap.size
  cell : ∀ o, w.cell? ⟨b, o, none⟩ = cs[o]?
  free : ∀ o, w.frozen? ⟨b, o, none⟩ = false

section
variable {w w' : World} {b : Nat} {cs : Array Value}
theorem Box.new (w : World) (cs : Array Value) (t : TypeId) : Box (w.alloc (.cells cs t)) w.heap.size cs :=
  ⟨by simp, fun o => World.cell?_alloc_at cs t _ o rfl, fun o => World.frozen?_alloc_at cs t _ o rfl⟩
theorem Box.alloc (h : Box w b cs) (o : Obj) : Box (w.alloc o) b cs :=
  ⟨by have := h.lt; simp; omega, fun i => (World.cell?_alloc_past o b i h.lt).trans (h.cell i), fun i => (World.frozen?_alloc_past o b i h.lt).trans (h.free i)⟩
theorem Box.drewN (h : Box w b cs) (n : Nat) : Box (w.drewN n) b cs := ⟨h.lt, h.cell, h.free⟩
theorem Box.drew (h : Box w b cs) : Box w.drew b cs := ⟨h.lt, h.cell, h.free⟩
theorem Box.below {B : Nat} (h : Box w b cs) (hb : Below B w w') (hB : b < B) : Box w' b cs :=
  ⟨Nat.lt_of_lt_of_le h.lt hb.size, fun o => (bat hb hB o).trans (h.cell o), fun o => (fat hb hB o).trans (h.free o)⟩
theorem Box.past (h : Box w b cs) (hb : Below w.heap.size w w') : Box w' b cs := h.below hb h.lt
/-- The rules that a walk wants: the block is old also behind one or two new ones; its cells. -/
theorem Box.rules (h : Box w b cs) : b < w.heap.size ∧ b < w.heap.size + 1 ∧ b < w.heap.size + 1 + 1 ∧ (∀ o, w.cell? ⟨b, o, none⟩ = cs[o]?) :=
  ⟨h.lt, by have := h.lt; omega, by have := h.lt; omega, h.cell⟩
end

/-- Element k of a slice of one-cell elements. -/
theorem Rd.one {w : World} {B n : Nat} {A : Option Addr} {xs : List Value} (h : Rd w B 1 A n xs) {k : Nat} (hk : k < n) : ∃ b o, A = some ⟨b, o, none⟩ ∧ b < B ∧ w.cell? ⟨b, o + k, none⟩ = xs[k]? := by
  obtain ⟨b, o, e, hb, hc⟩ := h.2 (by omega)
  have hl : k < xs.length := by have := h.1; omega
  exact ⟨b, o, e, hb, by rw [List.getElem?_eq_getElem hl]; exact hc k _ (List.getElem?_eq_getElem hl)⟩
theorem Rd.int {w : World} {B : Nat} {A : Option Addr} {K : IntKind} {zs : List Int} (h : Rd w B 1 A zs.length (zs.map (Value.int K))) {k : Nat} (hk : k < zs.length) : ∃ b o, A = some ⟨b, o, none⟩ ∧ b < B ∧ w.cell? ⟨b, o + k, none⟩ = some (.int K zs[k]) := by
  obtain ⟨b, o, e, hb, hc⟩ := h.one hk
  exact ⟨b, o, e, hb, by rw [hc]; simp [hk]⟩
end Go.Proofs.Ytdllehgiambkcaa
