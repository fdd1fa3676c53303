/- The walk of slices.Clone at a list of numbers, and the append of a slice that came in. -/
import Derived.Test.YtdllehgiambkcaaPvRMay
namespace Go.Proofs.Ytdllehgiambkcaa.Pv
open Go.RowKit

theorem elI : ElemOf Try.prog 28 3 1 8 := elemOf Try.underlying28 (z := .int .i64 0) (by kernel_rfl) rfl (by omega)
theorem ints_one (q : List Int) : ∀ u ∈ ints q, u.oneCell' = true := by
  intro u hu
  obtain ⟨z, -, rfl⟩ := List.mem_map.mp hu
  rfl
theorem ints_len (q : List Int) : (ints q).length = q.length := List.length_map ..

theorem wpList_pushRd {P : Program} {w : World} {t e : TypeId} {size bytes : Nat} (E : ElemOf P t e size bytes) {ops : Array Oper} {rest : List Oper} {o : Oper} {a : Act} {Q : Exit → Act → World → Prop} (hgd : o.guard = none) (s x : Operand)
    (ho : o.op = .call { callee := .builtin .append, args := #[s, x], argTypes := #[t, t] })
    (base : Nat) (v : Value) (n : Nat) (xs : List Value) (hs : a.eval s = v) (hown : w.ownsRow base e size v n xs)
    (b oo m c : Nat) (ys : List Value) (hx : a.eval x = .slice (some ⟨b, oo, none⟩) m c) (hl : ys.length = m * size) (hr : ∀ j u, ys[j]? = some u → w.cell? ⟨b, oo + j, none⟩ = some u) (h1 : ∀ u ∈ ys, u.oneCell' = true)
    (hm : 0 < m) (hn : n + m ≤ maxLen ∧ (n + m) * bytes ≤ 140737488355328) (hbase : base ≤ w.heap.size)
    (h : ∀ g cap w', w'.ownsRow base e size (.slice (some ⟨g, 0, none⟩) (n + m) cap) (n + m) (xs ++ ys) → Pushed base v w w' g → wpList P ops Q rest (a.put o.dst (.slice (some ⟨g, 0, none⟩) (n + m) cap)) w') : wpList P ops Q (o :: rest) a w := by
  obtain ⟨i, z, hi, hz, hs1, hb1, hz1⟩ := E.ex
  exact wpList_append_lies w hgd s x t ho base e i z size bytes E.ht hi hz hs1 hb1 hz1 E.pos v n xs hs hown ⟨b, oo, none⟩ m c ys hx hl (fun j u hu => by rw [show (⟨b, oo, none⟩ : Addr).add j = ⟨b, oo + j, none⟩ from by unfold Addr.add; split <;> simp_all]; exact hr j u hu) h1 hm hn.1 hn.2 hbase w.heap.size rfl
    fun g cap w' h2 h3 h4 h5 => h g cap w' h2 (Pushed.of hown hbase h3 h4 h5)

theorem run_eql_slice_nil_any {P : Program} (w : World) (t e : TypeId) (a : Option Addr) (n c n' c' : Nat) (h : P.underlying t = some (.slice e)) :
    (binOp .eql t (.slice a n c) (.slice none n' c')).run P w = .ok (.bool a.isNone) w := by
  simp only [binOp]
  simp [Op.equal, Op.maxDepth, Lib.run_equalIn_slice_nil w 9999 t e a n c n' c' h]

set_option maxRecDepth 10000 in
set_option maxHeartbeats 2000000 in
theorem clone_any (q : List Int) (A : Option Addr) (cap : Nat) (w : World) (hR : Rd w w.heap.size 1 A q.length (ints q)) (hl : q.length ≤ 1000) :
    Calls Try.prog 76 #[.slice A q.length cap] w fun e w' => ∃ v, e = .returned v ∧ Below w.heap.size w w' ∧ w'.ownsRow w.heap.size 3 1 v q.length (ints q) := by
  have hn := fun (W : World) (a : Option Addr) (n c : Nat) => run_eql_slice_nil_any (P := Try.prog) W 28 3 a n c 0 0 Try.underlying28
  go_enter Try.func76, Try.ntmps76
  rcases A with _ | ⟨b, o, sp⟩
  · have h0 : q.length = 0 := by
      rcases Nat.eq_zero_or_pos q.length with h | h
      · exact h
      · obtain ⟨b, o, e, -⟩ := hR.2 h; cases e
    have hq : q = [] := List.eq_nil_of_length_eq_zero h0
    subst hq
    go_wp2
    go_ret
    exact ⟨_, rfl, Below.refl _ _, World.ownsRow_nil _ _ _ _⟩
  · by_cases h0 : q.length = 0
    · have hq : q = [] := List.eq_nil_of_length_eq_zero h0
      subst hq
      go_wp2
      go_ret
      refine ⟨_, rfl, ?_, ?_⟩
      · repeat (first | exact Below.refl _ _ | refine Below.drew ?_ | refine Below.alloc ?_ (by simp) _)
      · exact own_lit (k := w.heap.size) (n := 0) (cs := #[]) (by repeat (first | exact hhere _ _ _ (by simp) | rw [hget_drew])) (Nat.le_refl _) rfl (by simp [maxLen])
    · obtain ⟨b', o', e, hb, hc⟩ := hR.2 (by omega)
      injection e with e
      injection e with e1 e2 e3
      subst e1 e2 e3
      have hl' := hide hl
      clear hl
      go_wp2_with (at_builtin; refine wpList_pushRd elI (by rfl) _ _ (by rfl) w.heap.size (.slice (some ⟨w.heap.size, 0, none⟩) 0 0) 0 [] (by rfl) (by first | exact own_lit (k := w.heap.size) (n := 0) (cs := #[]) (hhere _ _ _ rfl) (Nat.le_refl _) rfl (by simp [maxLen])) b o q.length cap (ints q) (by rfl) (by rw [ints_len]; omega) (fun j u hu => (World.cell?_alloc_past (w := w) _ b _ hb).trans (hc j u hu)) (ints_one q) (by omega) ⟨by have := hl'.out; simp only [maxLen]; omega, by have := hl'.out; omega⟩ (by simp) ?_; intro gg cap2 w1 hown1 hp1)
      go_ret
      simp only [Nat.zero_add, List.nil_append] at hown1 ⊢
      exact ⟨_, rfl, ((Below.refl _ _).alloc (Nat.le_refl _) _).trans hp1.below, hown1⟩
end Go.Proofs.Ytdllehgiambkcaa.Pv
