/- A list of bytes among a law's arguments. -/
import Derived.Test.YtdllehgiambkcaaPvNumbers
import Derived.Test.YtdllehgiambkcaaKit4
namespace Go.Proofs.Ytdllehgiambkcaa.Pv
open Go.RowKit Go.ChangeShapes Go.WideShapes Go.Deep

set_option maxRecDepth 100000 in
theorem open_bytes {H : Type} {enc : TypeId × Value → H} {W : World} {r : Reach} {b0 base : Nat} {spare : Nat → Bool} {held : Bool} {v : Value} {d : DataW H} {p : List MemPlace} (hv : Value.okWide Try.prog W r b0 59 v) (h : DataW.Trod enc Try.prog W base spare held 59 v d p) :
    ∃ (A : Option Addr) (cap : Nat) (l : List Int), v = .slice A l.length cap ∧ Rd W W.heap.size 1 A l.length (bytes l) ∧ ∀ a ∈ l, 0 ≤ a ∧ a < 256 := by
  obtain ⟨a, len, cap, rfl⟩ := okWide_slice Try.underlying59 hv
  obtain ⟨fuel, hf⟩ := h
  rcases open_ints Try.underlying59 Try.underlying5 (by kernel_rfl) hf with ⟨hcs, _⟩ | ⟨x, len', cap', zs, hcs, hb, hl, hm, hz, -, hi, hw⟩
  · simp [Value.cells] at hcs
    obtain ⟨rfl, rfl, rfl⟩ := hcs
    exact ⟨none, 0, [], rfl, Rd.nil _ _ _ _, by simp⟩
  · simp [Value.cells] at hcs
    obtain ⟨rfl, rfl, rfl⟩ := hcs
    have hle : len ≤ zs.length := by rw [hz]; split <;> omega
    have hlen : (zs.take len).length = len := by rw [List.length_take]; omega
    refine ⟨some x, cap, zs.take len, by rw [hlen], ?_, fun a ha => ?_⟩
    · refine ⟨by simp [bytes], fun hn => ?_⟩
      rw [hlen] at hn
      have h0 := hi 0 (by omega)
      have hs : x.spot = none := by
        have := World.cell?_spot h0
        rw [Addr.add] at this
        split at this <;> simp_all
      obtain ⟨b, o, sp⟩ := x
      simp only at hs
      subst hs
      have ea : ∀ k, (⟨b, o, none⟩ : Addr).add k = ⟨b, o + k, none⟩ := fun k => by unfold Addr.add; split <;> simp_all
      simp only [ea] at hi h0
      refine ⟨b, o, rfl, cell_lt h0, fun j u hu => ?_⟩
      have hj : j < (bytes (zs.take len)).length := (List.getElem?_eq_some_iff.mp hu).1
      simp only [bytes, List.length_map, hlen] at hj
      rw [hi j (by omega)]
      simp only [bytes, List.map_take] at hu
      rw [List.getElem?_take, if_pos hj, List.getElem?_map] at hu
      rw [List.getElem?_eq_getElem (by omega)] at hu
      rw [List.getD_eq_getElem?_getD, List.getElem?_eq_getElem (by omega)]
      simpa using hu
    · have := hw a (List.mem_of_mem_take ha)
      simp [Lit.wf, IntKind.min, IntKind.max, IntKind.bits, IntKind.signed] at this
      omega
end Go.Proofs.Ytdllehgiambkcaa.Pv
