/- A list of bools among a law's arguments. -/
import Derived.Test.YtdllehgiambkcaaPvOrder
import Derived.Test.YtdllehgiambkcaaPvBytes
import Derived.Test.YtdllehgiambkcaaKit4
import Derived.Deep.Grids
namespace Go.Proofs.Ytdllehgiambkcaa.Pv
open Go.RowKit Go.ChangeShapes Go.WideShapes Go.Deep

set_option maxRecDepth 100000 in
theorem open_bls {H : Type} {enc : TypeId × Value → H} {W : World} {r : Reach} {b0 base : Nat} {held : Bool} {v : Value} {d : DataW H} {p : List MemPlace} (hv : Value.okWide Try.prog W r b0 72 v) (h : DataW.Trod enc Try.prog W base (fun _ => true) held 72 v d p) :
    ∃ (A : Option Addr) (cap : Nat) (l : List Bool), v = .slice A l.length cap ∧ Rd W W.heap.size 1 A l.length (bools l) := by
  obtain ⟨a, len, cap, rfl⟩ := okWide_slice Try.underlying72 hv
  obtain ⟨fuel, hf⟩ := h
  rcases open_bools Try.underlying72 Try.underlying4 (by kernel_rfl) hf with ⟨hcs, _⟩ | ⟨x, len', cap', B, hcs, hb, hl, hm, -, hi⟩
  · simp [Value.cells] at hcs
    obtain ⟨rfl, rfl, rfl⟩ := hcs
    exact ⟨none, 0, [], rfl, Rd.nil _ _ _ _⟩
  · simp [Value.cells] at hcs
    obtain ⟨rfl, rfl, rfl⟩ := hcs
    refine ⟨some x, cap, (List.range len).map B, by simp, ?_⟩
    refine ⟨by simp [bools], fun hn => ?_⟩
    simp only [List.length_map, List.length_range] at hn
    have h0 := hi 0 (by omega)
    have hs : x.spot = none := by
      have := World.cell?_spot h0
      rw [Addr.add] at this
      split at this <;> simp_all
    obtain ⟨b, o, sp⟩ := x
    simp only at hs
    subst hs
    have ea : ∀ k, (⟨b, o, none⟩ : Addr).add k = ⟨b, o + k, none⟩ := fun k => by unfold Addr.add; split <;> simp_all
    simp only [ea] at hi h0
    refine ⟨b, o, rfl, cell_lt h0, fun j u hu => ?_⟩
    have hj : j < (bools ((List.range len).map B)).length := (List.getElem?_eq_some_iff.mp hu).1
    simp only [bools, List.length_map, List.length_range] at hj
    rw [hi j (by omega)]
    simpa [bools, hj] using hu
end Go.Proofs.Ytdllehgiambkcaa.Pv
