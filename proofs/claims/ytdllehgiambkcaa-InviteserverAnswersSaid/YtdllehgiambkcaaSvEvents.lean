/- The events among a law's arguments. -/
import Derived.Test.YtdllehgiambkcaaSvPlay
import Derived.Test.YtdllehgiambkcaaKit4
namespace Go.Proofs.Ytdllehgiambkcaa.Sv
open Go.RowKit Go.ChangeShapes Go.WideShapes Go.Deep

theorem flEv : Try.prog.underlying 44 = some (.struct (Try.prog.fieldsOf 44)) := by kernel_rfl
theorem fsEv : Try.prog.fieldsOf 44 = #[⟨ "Wait", 41, 0, false, "", "", 0⟩, ⟨ "Kind", 42, 1, false, "", "", 2⟩, ⟨ "Code", 3, 2, false, "", "", 8⟩] := by kernel_rfl

set_option maxRecDepth 100000 in
theorem open_events {H : Type} {enc : TypeId × Value → H} {W : World} {r : Reach} {b0 base : Nat} {spare : Nat → Bool} {held : Bool} {v : Value} {d : DataW H} {p : List MemPlace} (hv : Value.okWide Try.prog W r b0 33 v) (h : DataW.Trod enc Try.prog W base spare held 33 v d p) :
    ∃ (A : Option Addr) (cap : Nat) (l : List Ev), v = .slice A l.length cap ∧ Rd W W.heap.size 3 A l.length (l.flatMap Ev.cs) ∧ ∀ e ∈ l, e.ok := by
  obtain ⟨a, len, cap, rfl⟩ := okWide_slice Try.underlying33 hv
  obtain ⟨fuel, hf⟩ := h
  rcases open_slice_fields Try.underlying33 flEv (by kernel_rfl) (by kernel_rfl) hf with ⟨hcs, _⟩ | ⟨x, len', cap', m, hcs, hl, hm, hlm, hi⟩
  · simp [Value.cells] at hcs
    obtain ⟨rfl, rfl, rfl⟩ := hcs
    exact ⟨none, 0, [], rfl, Rd.nil _ _ _ _, by simp⟩
  · simp [Value.cells] at hcs
    obtain ⟨rfl, rfl, rfl⟩ := hcs
    rw [fsEv] at hi
    have hel : ∀ i, i < len → ∃ e : Ev, e.ok ∧ W.cell? (x.add (i * 3 + 0)) = some (.int .u16 e.wait) ∧ W.cell? (x.add (i * 3 + 1)) = some (.int .u8 e.kind) ∧ W.cell? (x.add (i * 3 + 2)) = some (.int .i64 e.code) := by
      intro i him
      obtain ⟨n, hn⟩ := hi i (by omega)
      obtain ⟨v0, y0, c0, t0⟩ := hn 0 _ rfl
      obtain ⟨v1, y1, c1, t1⟩ := hn 1 _ rfl
      obtain ⟨v2, y2, c2, t2⟩ := hn 2 _ rfl
      obtain ⟨z0, e0, -, w0⟩ := DataW.trod_int Try.underlying41 t0
      obtain ⟨z1, e1, -, w1⟩ := DataW.trod_int Try.underlying42 t1
      obtain ⟨z2, e2, -, w2⟩ := DataW.trod_int Try.underlying3 t2
      simp at e0 e1 e2
      subst e0 e1 e2
      refine ⟨⟨z0, z1, z2⟩, ?_, c0, c1, c2⟩
      simp [Lit.wf, IntKind.min, IntKind.max, IntKind.bits, IntKind.signed] at w0
      unfold Ev.ok
      simp only
      omega
    obtain ⟨l, hl', hp⟩ := exists_list len hel
    subst hl'
    refine ⟨some x, cap, l, rfl, ?_, fun e he => by obtain ⟨i, hi, rfl⟩ := List.getElem_of_mem he; exact (hp i hi).1⟩
    rcases Nat.eq_zero_or_pos l.length with h0 | h0
    · have : l = [] := List.eq_nil_of_length_eq_zero h0
      subst this
      exact Rd.nil _ _ _ _
    · have hs : x.spot = none := by
        have := World.cell?_spot (hp 0 h0).2.1
        rw [Addr.add] at this
        split at this <;> simp_all
      obtain ⟨b, o, sp⟩ := x
      simp only at hs
      subst hs
      have ea : ∀ k, (⟨b, o, none⟩ : Addr).add k = ⟨b, o + k, none⟩ := fun k => by unfold Addr.add; split <;> simp_all
      simp only [ea] at hp
      refine Rd.of_elems Ev.cs 3 (fun _ => rfl) (by omega) ?_ fun k hk j u hu => ?_
      · exact cell_lt (hp 0 h0).2.1
      · have hj : j < 3 := (List.getElem?_eq_some_iff.mp hu).1
        obtain ⟨-, q0, q1, q2⟩ := hp k hk
        rcases (show j = 0 ∨ j = 1 ∨ j = 2 by omega) with rfl | rfl | rfl
        · rw [q0]; exact hu
        · rw [q1]; exact hu
        · rw [q2]; exact hu
end Go.Proofs.Ytdllehgiambkcaa.Sv
