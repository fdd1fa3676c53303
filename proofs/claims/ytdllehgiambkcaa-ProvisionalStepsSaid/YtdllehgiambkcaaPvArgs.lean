/- The senders among a law's arguments. -/
import Derived.Test.YtdllehgiambkcaaPvSteps
import Derived.Test.YtdllehgiambkcaaKit4
namespace Go.Proofs.Ytdllehgiambkcaa.Pv
open Go.RowKit Go.ChangeShapes Go.WideShapes Go.Deep

section
variable {H : Type} {enc : TypeId × Value → H} {W : World} {base : Nat} {spare : Nat → Bool} {held : Bool}

theorem flRel : Try.prog.underlying 61 = some (.struct (Try.prog.fieldsOf 61)) := by kernel_rfl
theorem fsRel : Try.prog.fieldsOf 61 = #[⟨ "Seq", 3, 0, false, "", "", 0⟩, ⟨ "Code", 3, 1, false, "", "", 8⟩, ⟨ "Wait", 3, 2, false, "", "", 16⟩, ⟨ "Queue", 28, 3, false, "", "", 24⟩, ⟨ "Final", 4, 4, false, "", "", 48⟩, ⟨ "Failed", 4, 5, false, "", "", 49⟩] := by kernel_rfl
theorem oneRel : oneCellFields Try.prog (Try.prog.fieldsOf 61) = true := by kernel_rfl
theorem szRel : Try.prog.cellsOf 61 = 6 := by kernel_rfl

/-- A list of numbers in a field. -/
theorem open_q {n : Nat} {v : Value} {y : DataW H × List MemPlace} (h : DataW.trod enc Try.prog W base spare held n 28 [v] = some y) :
    ∃ (A : Option Addr) (cap : Nat) (q : List Int), v = .slice A q.length cap ∧ Rd W W.heap.size 1 A q.length (ints q) ∧ q.length ≤ cap := by
  rcases open_ints Try.underlying28 Try.underlying3 (by kernel_rfl) h with ⟨hcs, _⟩ | ⟨x, len, cap, zs, hcs, hb, hl, hm, hz, -, hi, -⟩
  · simp at hcs
    exact ⟨none, 0, [], hcs, Rd.nil _ _ _ _, Nat.le_refl _⟩
  · simp at hcs
    have hle : len ≤ zs.length := by rw [hz]; split <;> omega
    have hlen : (zs.take len).length = len := by rw [List.length_take]; omega
    refine ⟨some x, cap, zs.take len, by rw [hlen]; exact hcs, ?_, by rw [hlen]; exact hl⟩
    refine ⟨by simp [ints], fun hn => ?_⟩
    rw [hlen] at hn
    have h0 := hi 0 (by omega)
    have hs : x.spot = none := by
      have := World.cell?_spot h0
      rw [Addr.add] at this
      split at this <;> simp_all
    obtain ⟨b, o, sp⟩ := x
    simp only at hs
    subst hs
    have ea : ∀ k, (⟨b, o, none⟩ : Addr).add k = ⟨b, o + k, none⟩ := fun k => by unfold Addr.add; split <;> simp_all
    simp only [ea] at hi h0
    refine ⟨b, o, rfl, cell_lt h0, fun j u hu => ?_⟩
    have hj : j < (ints (zs.take len)).length := (List.getElem?_eq_some_iff.mp hu).1
    simp only [ints, List.length_map, hlen] at hj
    rw [hi j (by omega)]
    simp only [ints, List.map_take] at hu
    rw [List.getElem?_take, if_pos hj, List.getElem?_map] at hu
    rw [List.getElem?_eq_getElem (by omega)] at hu
    rw [List.getD_eq_getElem?_getD, List.getElem?_eq_getElem (by omega)]
    simpa using hu

set_option maxRecDepth 100000 in
theorem open_rel {r : Reach} {b0 : Nat} {v : Value} {d : DataW H} {p : List MemPlace} (hv : Value.okWide Try.prog W r b0 61 v) (h : DataW.Trod enc Try.prog W base spare held 61 v d p) :
    ∃ (x : R) (A : Option Addr) (cap : Nat), v = .agg #[.int .i64 x.seq, .int .i64 x.code, .int .i64 x.wait, .slice A x.q.length cap, .bool x.fin, .bool x.failed] ∧ Rd W W.heap.size 1 A x.q.length (ints x.q) ∧ x.q.length ≤ cap ∧ -9223372036854775808 ≤ x.wait ∧ x.wait ≤ 9223372036854775807 := by
  obtain ⟨cs, rfl, hsz⟩ := okWide_struct flRel hv
  obtain ⟨fuel, hf⟩ := h
  obtain ⟨xs, n, -, -, -, hlen, hg⟩ := DataW.trod_struct flRel hf
  have hc6 := hsz.trans szRel
  have one := oneRel
  rw [fsRel] at hlen hg one
  obtain ⟨l⟩ := cs
  match l, hc6, xs, hlen with
  | [c0, c1, c2, c3, c4, c5], _, [y0, y1, y2, y3, y4, y5], _ =>
    obtain ⟨o0, k0⟩ := hone_of one 0 ⟨ "Seq", 3, 0, false, "", "", 0⟩ rfl
    obtain ⟨o1, k1⟩ := hone_of one 1 ⟨ "Code", 3, 1, false, "", "", 8⟩ rfl
    obtain ⟨o2, k2⟩ := hone_of one 2 ⟨ "Wait", 3, 2, false, "", "", 16⟩ rfl
    obtain ⟨o3, k3⟩ := hone_of one 3 ⟨ "Queue", 28, 3, false, "", "", 24⟩ rfl
    obtain ⟨o4, k4⟩ := hone_of one 4 ⟨ "Final", 4, 4, false, "", "", 48⟩ rfl
    obtain ⟨o5, k5⟩ := hone_of one 5 ⟨ "Failed", 4, 5, false, "", "", 49⟩ rfl
    have t0 : DataW.trod enc Try.prog W base spare held n 3 [c0] = some y0 := by simpa [Value.cells, o0, k0] using hg 0 ⟨ "Seq", 3, 0, false, "", "", 0⟩ rfl
    have t1 : DataW.trod enc Try.prog W base spare held n 3 [c1] = some y1 := by simpa [Value.cells, o1, k1] using hg 1 ⟨ "Code", 3, 1, false, "", "", 8⟩ rfl
    have t2 : DataW.trod enc Try.prog W base spare held n 3 [c2] = some y2 := by simpa [Value.cells, o2, k2] using hg 2 ⟨ "Wait", 3, 2, false, "", "", 16⟩ rfl
    have t3 : DataW.trod enc Try.prog W base spare held n 28 [c3] = some y3 := by simpa [Value.cells, o3, k3] using hg 3 ⟨ "Queue", 28, 3, false, "", "", 24⟩ rfl
    have t4 : DataW.trod enc Try.prog W base spare held n 4 [c4] = some y4 := by simpa [Value.cells, o4, k4] using hg 4 ⟨ "Final", 4, 4, false, "", "", 48⟩ rfl
    have t5 : DataW.trod enc Try.prog W base spare held n 4 [c5] = some y5 := by simpa [Value.cells, o5, k5] using hg 5 ⟨ "Failed", 4, 5, false, "", "", 49⟩ rfl
    obtain ⟨z0, e0, -, w0⟩ := DataW.trod_int Try.underlying3 t0
    obtain ⟨z1, e1, -, w1⟩ := DataW.trod_int Try.underlying3 t1
    obtain ⟨z2, e2, -, w2⟩ := DataW.trod_int Try.underlying3 t2
    obtain ⟨A, cap, q, e3, hR, hcap⟩ := open_q t3
    obtain ⟨z4, e4, -⟩ := DataW.trod_bool Try.underlying4 t4
    obtain ⟨z5, e5, -⟩ := DataW.trod_bool Try.underlying4 t5
    simp at e0 e1 e2 e4 e5
    subst e0 e1 e2 e3 e4 e5
    refine ⟨⟨z0, z1, z2, q, z4, z5⟩, A, cap, rfl, hR, hcap, ?_⟩
    simp [Lit.wf, IntKind.min, IntKind.max, IntKind.bits, IntKind.signed] at w2
    omega
end
end Go.Proofs.Ytdllehgiambkcaa.Pv
