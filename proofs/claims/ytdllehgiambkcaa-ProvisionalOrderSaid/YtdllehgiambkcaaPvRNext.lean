/- The walk of the reference's next of chapter 18. -/
import Derived.Test.YtdllehgiambkcaaPvOuts
import Derived.Test.YtdllehgiambkcaaPvLaw
namespace Go.Proofs.Ytdllehgiambkcaa.Pv
open Go.RowKit

/-- What a reference's act returns: the sender, its outputs, an error. -/
def RAns (w : World) (n0 : Nat) (A0 : Option Addr) (x : Res) (e : Ending) (w' : World) : Prop :=
  ∃ A' cap' V k, e = .returned (.tuple #[.agg #[.int .i64 x.r.seq, .int .i64 x.r.code, .int .i64 x.r.wait, .slice A' x.r.q.length cap', .bool x.r.fin, .bool x.r.failed], .slice V x.l.length k, .int .u8 x.e]) ∧ Below w.heap.size w w' ∧ Rd w' w'.heap.size 1 A' x.r.q.length (ints x.r.q) ∧ x.r.q.length ≤ cap' ∧ Rd w' w'.heap.size 5 V x.l.length (x.l.flatMap O.cs) ∧
    (0 < x.r.q.length → ∀ b o, A' = some ⟨b, o, none⟩ → w.heap.size ≤ b ∨ (A0 = some ⟨b, o, none⟩ ∧ 0 < n0)) ∧ (∀ b o, V = some ⟨b, o, none⟩ → w.heap.size ≤ b)
def NAns (w : World) (n0 : Nat) (A0 : Option Addr) (r : R) (l : List O) (e : Ending) (w' : World) : Prop :=
  ∃ A' cap' V k, e = .returned (.tuple #[.agg #[.int .i64 r.seq, .int .i64 r.code, .int .i64 r.wait, .slice A' r.q.length cap', .bool r.fin, .bool r.failed], .slice V l.length k]) ∧ Below w.heap.size w w' ∧ Rd w' w'.heap.size 1 A' r.q.length (ints r.q) ∧ r.q.length ≤ cap' ∧ Rd w' w'.heap.size 5 V l.length (l.flatMap O.cs) ∧
    (0 < r.q.length → ∀ b o, A' = some ⟨b, o, none⟩ → w.heap.size ≤ b ∨ (A0 = some ⟨b, o, none⟩ ∧ 0 < n0)) ∧ (∀ b o, V = some ⟨b, o, none⟩ → w.heap.size ≤ b)

/-- A slice that came in, behind a store into another block; the heap's size is kept. -/
theorem rd_sets {w : World} {size n g i : Nat} {A : Option Addr} {xs : List Value} (h : Rd w w.heap.size size A n xs) (hne : 0 < n → ∀ b o, A = some ⟨b, o, none⟩ → b ≠ g) (u : Value) : Rd (w.setCell ⟨g, i, none⟩ u) (w.setCell ⟨g, i, none⟩ u).heap.size size A n xs := by
  simp only [World.size_setCell]
  exact rd_set h hne u

/-- A list of outputs that was just built. -/
theorem rd_lit {w : World} {n g : Nat} {l : List O} (cs : Array Value) (hc : cs.toList = l.flatMap O.cs) (hn : l.length = n) (hg : g = w.heap.size) : Rd (w.alloc (.cells cs 70)) (w.alloc (.cells cs 70)).heap.size 5 (some ⟨g, 0, none⟩) n (l.flatMap O.cs) := by
  subst hg
  have B := Box.new w cs 70
  refine ⟨by rw [flat_len O.cs 5 O.cs_len, hn], fun _ => ⟨w.heap.size, 0, rfl, B.lt, fun j u hu => ?_⟩⟩
  rw [B.cell, ← hc] at *
  simpa using hu

theorem rd_drew {w : World} {size n : Nat} {A : Option Addr} {xs : List Value} (h : Rd w w.heap.size size A n xs) : Rd w.drew w.drew.heap.size size A n xs := h
theorem rd_allocs {w : World} {size n : Nat} {A : Option Addr} {xs : List Value} (h : Rd w w.heap.size size A n xs) (o : Obj) : Rd (w.alloc o) (w.alloc o).heap.size size A n xs := (h.alloc (Nat.le_refl _) o).more (by simp)

set_option maxRecDepth 10000 in
set_option maxHeartbeats 4000000 in
theorem rnext_any (r : R) (A : Option Addr) (cap : Nat) (w : World) (hR : Rd w w.heap.size 1 A r.q.length (ints r.q)) (hl : r.q.length ≤ 900) (hcap : r.q.length ≤ cap) (hs : 0 ≤ r.seq ∧ r.seq ≤ 2147483647)
    (hq : ∀ c q', r.q = c :: q' → (inB c 101 199 = true ∧ c < 200) ∨ (inB c 101 199 = false ∧ 200 ≤ c)) :
    Calls Try.prog 75 #[.agg #[.int .i64 r.seq, .int .i64 r.code, .int .i64 r.wait, .slice A r.q.length cap, .bool r.fin, .bool r.failed]] w (NAns w r.q.length A (next r).1 (next r).2) := by
  have HR1 : ∀ W : World, Below w.heap.size w W → Rd W W.heap.size 1 A r.q.length (ints r.q) := fun W hb => (hR.below hb).more hb.size
  obtain ⟨seq, code, wait, q, fin, failed⟩ := r
  simp only at *
  by_cases hc : code = 0
  · subst hc
    rcases q with _ | ⟨c, q⟩
    · have hn : next ⟨seq, 0, wait, [], fin, failed⟩ = (⟨seq, 0, wait, [], fin, failed⟩, []) := by simp [next]
      rw [hn]
      clear hn hq
      simp only [List.length_nil] at *
      go_enter Try.func75, Try.ntmps75
      go_wp2_with fail
      refine bodyPost_ret (v := .tuple #[.agg #[.int .i64 seq, .int .i64 0, .int .i64 wait, .slice A 0 cap, .bool fin, .bool failed], .slice none 0 0]) ?_ rfl ?_
      · simp only [results, Try.results75]; go_simp
      · refine ⟨A, cap, none, 0, rfl, ?_, HR1 _ ?_, hcap, Rd.nil _ _ _ _, fun h0 b o e => Or.inr ⟨e, h0⟩, fun b o e => by cases e⟩
        all_goals repeat (first | with_reducible exact Below.refl _ _ | with_reducible refine Below.setCell ?_ (by simp) _ | with_reducible refine Below.drew ?_ | with_reducible refine Below.alloc ?_ (by first | (simp; done) | (simp; omega)) _)
    · obtain ⟨b, o, rfl, hb, hcell⟩ := Rd.intAt hR (k := 0) (by simp)
      simp only [List.getElem_cons_zero, Nat.add_zero] at hcell
      obtain ⟨s1, s2⟩ := hs
      rcases q with _ | ⟨c2, q2⟩
      · simp only [List.length_cons, List.length_nil, Nat.zero_add] at *
        have k1 : (1 : Int) ≤ (cap : Int) := by omega
        rcases hq c [] rfl with ⟨he, hc2⟩ | ⟨he, hc2⟩
        · have hn : next ⟨seq, 0, wait, [c], fin, failed⟩ = (⟨seq + 1, c, 500, [], fin, failed⟩, [sendO c (seq + 1), timerO 1 500, timerO 2 32000]) := by simp [next, he]
          rw [hn]
          clear hn hq he
          go_enter Try.func75, Try.ntmps75
          go_wp2_with fail
          all_goals go_region_law (fail)
          all_goals go_wp2_with fail
          all_goals
            refine bodyPost_ret (v := ?_) ?_ rfl ?_
            rotate_left
            · simp only [results, Try.results75]; go_simp; exact rfl
            · refine ⟨_, 0, some ⟨w.heap.size + 1 + 1, 0, none⟩, 3, rfl, ?_, Rd.nil _ _ _ _, Nat.le_refl _, ?_, fun h0 => absurd h0 (by simp), fun b o e => by injection e with e; injection e with e; omega⟩
              · repeat (first | with_reducible exact Below.refl _ _ | with_reducible refine Below.setCell ?_ (by simp) _ | with_reducible refine Below.drew ?_ | with_reducible refine Below.alloc ?_ (by first | (simp; done) | (simp; omega)) _)
              · repeat (first | ((with_reducible refine rd_lit _ ?_ ?_ ?_); exact rfl; exact rfl; simp) | with_reducible refine rd_drew ?_)
        · have hn : next ⟨seq, 0, wait, [c], fin, failed⟩ = (⟨seq, 0, wait, [], fin, failed⟩, [finalO c]) := by simp [next, he]
          rw [hn]
          clear hn hq he
          go_enter Try.func75, Try.ntmps75
          go_wp2_with fail
          all_goals
            refine bodyPost_ret (v := ?_) ?_ rfl ?_
            rotate_left
            · simp only [results, Try.results75]; go_simp; exact rfl
            · refine ⟨_, 0, some ⟨w.heap.size + 1 + 1, 0, none⟩, 1, rfl, ?_, Rd.nil _ _ _ _, Nat.le_refl _, ?_, fun h0 => absurd h0 (by simp), fun b o e => by injection e with e; injection e with e; omega⟩
              · repeat (first | with_reducible exact Below.refl _ _ | with_reducible refine Below.setCell ?_ (by simp) _ | with_reducible refine Below.drew ?_ | with_reducible refine Below.alloc ?_ (by first | (simp; done) | (simp; omega)) _)
              · repeat (first | ((with_reducible refine rd_lit _ ?_ ?_ ?_); exact rfl; exact rfl; simp) | with_reducible refine rd_drew ?_)
      · obtain ⟨n, hn⟩ : ∃ n, (c2 :: q2).length = n := ⟨_, rfl⟩
        have hn0 : 0 < n := by rw [← hn]; simp
        have hread : ∀ j u, (ints (c2 :: q2))[j]? = some u → w.cell? ⟨b, o + 1 + j, none⟩ = some u := by
          intro j u hu
          obtain ⟨b', o', e, hb', hcc⟩ := hR.2 (by simp)
          injection e with e
          injection e with e1 e2
          subst e1 e2
          have := hcc (j + 1) u (by simpa [ints] using hu)
          rwa [show o + 1 + j = o + (j + 1) by omega]
        have hil : (ints (c2 :: q2)).length = n * 1 := by rw [ints_len, hn]; omega
        generalize hq2 : c2 :: q2 = q at *
        clear hq2
        have hln : (c :: q).length = n + 1 := by simp [hn]
        simp only [hln] at *
        have hq' := hq c q rfl
        have k1 : (n : Int) + 1 ≤ (cap : Int) := by omega
        have k2 : (0 : Int) < (n : Int) := by omega
        have k3 : ¬ cap = 1 := by omega
        have k4 : n ≤ 899 := by omega
        have k5 : (1 : Int) ≤ (cap : Int) := by omega
        have HN := hide hn
        have HI := hide hil
        have HR := hide hread
        clear hn hil hread hq hln hR
        rcases hq' with ⟨he, hc2⟩ | ⟨he, hc2⟩
        · have hn : next ⟨seq, 0, wait, c :: q, fin, failed⟩ = (⟨seq + 1, c, 500, q, fin, failed⟩, [sendO c (seq + 1), timerO 1 500, timerO 2 32000]) := by simp [next, he]
          rw [hn]
          clear hn he
          go_enter Try.func75, Try.ntmps75
          go_wp2_with (at_builtin; refine wpList_pushRd elI (by rfl) _ _ (by rfl) (w.heap.size + 2) (.slice none 0 0) 0 [] (by rfl) (World.ownsRow_nil _ _ _ _) b (o + 1) n (cap - 1) (ints q) (by rfl) (HI.out) (fun j u hu => (World.cell?_alloc_past (w := w.alloc _) _ b _ (by simp; omega)).trans ((World.cell?_alloc_past (w := w) _ b _ hb).trans (HR.out j u hu))) (ints_one q) (by omega) ⟨by simp only [maxLen]; omega, by omega⟩ (by simp) ?_; intro gg cap2 w1 hown1 hp1; simp only [Nat.zero_add, List.nil_append] at hown1 ⊢; have hz : w.heap.size + 1 < w1.heap.size := hp1.size _ (by simp); have hz' : w.heap.size < w1.heap.size := hp1.size _ (by simp; omega); have hcc := fun o => hp1.cell w.heap.size o (by simp; omega) (by simp [Value.ownBlock]); have hff := fun o => hp1.frozen w.heap.size o (by simp; omega) (by simp [Value.ownBlock]); have hcc' := fun o => hp1.cell (w.heap.size + 1) o (by simp) (by simp [Value.ownBlock]); have hff' := fun o => hp1.frozen (w.heap.size + 1) o (by simp) (by simp [Value.ownBlock]))
          obtain ⟨A1, c1, e1, hle1, hR1⟩ := own_slice hown1
          injection e1 with e1 e2 e3
          subst e1 e3
          clear e2
          have hgg := (hown1.lt gg (by simp [Value.ownBlock])).1
          have HB : Hid (Below w.heap.size w w1) := hide ((((Below.refl _ _).alloc (Nat.le_refl _) _).alloc (by simp) _).trans (hp1.below.mono (by simp)))
          have hneq : ∀ (m g : Nat), g < gg → 0 < m → ∀ b o : Nat, (some ⟨gg, 0, none⟩ : Option Addr) = some ⟨b, o, none⟩ → b ≠ g := by
            intro m g hg _ b o e; injection e with e; injection e with e; omega
          have hneo : ∀ (m g : Nat), g < w1.heap.size → 0 < m → ∀ b o : Nat, (some ⟨w1.heap.size, 0, none⟩ : Option Addr) = some ⟨b, o, none⟩ → b ≠ g := by
            intro m g hg _ b o e; injection e with e; injection e with e; omega
          all_goals go_region_law (fail)
          all_goals go_wp2_with fail
          all_goals
            refine bodyPost_ret (v := ?_) ?_ rfl ?_
            rotate_left
            · simp only [results, Try.results75]; go_simp; exact rfl
            · unfold NAns; simp only [HN.out]
              refine ⟨_, _, some ⟨w1.heap.size, 0, none⟩, 3, rfl, ?_, ?_, hle1, ?_, fun _ b o e => Or.inl (by injection e with e; injection e with e; omega), fun b o e => by injection e with e; injection e with e; omega⟩
              · repeat (first | with_reducible exact HB.out | with_reducible refine Below.setCell ?_ (by first | (simp; done) | (simp; omega)) _ | with_reducible refine Below.drew ?_ | with_reducible refine Below.alloc ?_ (by first | (simp; done) | (simp; omega)) _)
              · repeat (first | with_reducible exact hR1 | with_reducible refine rd_sets ?_ (hneq _ _ (by omega)) _ | with_reducible refine rd_allocs ?_ _ | with_reducible refine rd_drew ?_)
              · repeat (first | ((with_reducible refine rd_lit _ ?_ ?_ ?_); exact rfl; exact rfl; simp) | with_reducible refine rd_sets ?_ (hneo _ _ (by omega)) _ | with_reducible refine rd_drew ?_)
        · have hn : next ⟨seq, 0, wait, c :: q, fin, failed⟩ = (⟨seq, 0, wait, q, fin, failed⟩, [finalO c]) := by simp [next, he]
          rw [hn]
          clear hn he
          go_enter Try.func75, Try.ntmps75
          go_wp2_with (at_builtin; refine wpList_pushRd elI (by rfl) _ _ (by rfl) (w.heap.size + 2) (.slice none 0 0) 0 [] (by rfl) (World.ownsRow_nil _ _ _ _) b (o + 1) n (cap - 1) (ints q) (by rfl) (HI.out) (fun j u hu => (World.cell?_alloc_past (w := w.alloc _) _ b _ (by simp; omega)).trans ((World.cell?_alloc_past (w := w) _ b _ hb).trans (HR.out j u hu))) (ints_one q) (by omega) ⟨by simp only [maxLen]; omega, by omega⟩ (by simp) ?_; intro gg cap2 w1 hown1 hp1; simp only [Nat.zero_add, List.nil_append] at hown1 ⊢; have hz : w.heap.size + 1 < w1.heap.size := hp1.size _ (by simp); have hz' : w.heap.size < w1.heap.size := hp1.size _ (by simp; omega); have hcc := fun o => hp1.cell w.heap.size o (by simp; omega) (by simp [Value.ownBlock]); have hff := fun o => hp1.frozen w.heap.size o (by simp; omega) (by simp [Value.ownBlock]); have hcc' := fun o => hp1.cell (w.heap.size + 1) o (by simp) (by simp [Value.ownBlock]); have hff' := fun o => hp1.frozen (w.heap.size + 1) o (by simp) (by simp [Value.ownBlock]))
          obtain ⟨A1, c1, e1, hle1, hR1⟩ := own_slice hown1
          injection e1 with e1 e2 e3
          subst e1 e3
          clear e2
          have hgg := (hown1.lt gg (by simp [Value.ownBlock])).1
          have HB : Hid (Below w.heap.size w w1) := hide ((((Below.refl _ _).alloc (Nat.le_refl _) _).alloc (by simp) _).trans (hp1.below.mono (by simp)))
          have hneq : ∀ (m g : Nat), g < gg → 0 < m → ∀ b o : Nat, (some ⟨gg, 0, none⟩ : Option Addr) = some ⟨b, o, none⟩ → b ≠ g := by
            intro m g hg _ b o e; injection e with e; injection e with e; omega
          have hneo : ∀ (m g : Nat), g < w1.heap.size → 0 < m → ∀ b o : Nat, (some ⟨w1.heap.size, 0, none⟩ : Option Addr) = some ⟨b, o, none⟩ → b ≠ g := by
            intro m g hg _ b o e; injection e with e; injection e with e; omega
          all_goals
            refine bodyPost_ret (v := ?_) ?_ rfl ?_
            rotate_left
            · simp only [results, Try.results75]; go_simp; exact rfl
            · unfold NAns; simp only [HN.out]
              refine ⟨_, _, some ⟨w1.heap.size, 0, none⟩, 1, rfl, ?_, ?_, hle1, ?_, fun _ b o e => Or.inl (by injection e with e; injection e with e; omega), fun b o e => by injection e with e; injection e with e; omega⟩
              · repeat (first | with_reducible exact HB.out | with_reducible refine Below.setCell ?_ (by first | (simp; done) | (simp; omega)) _ | with_reducible refine Below.drew ?_ | with_reducible refine Below.alloc ?_ (by first | (simp; done) | (simp; omega)) _)
              · repeat (first | with_reducible exact hR1 | with_reducible refine rd_sets ?_ (hneq _ _ (by omega)) _ | with_reducible refine rd_allocs ?_ _ | with_reducible refine rd_drew ?_)
              · repeat (first | ((with_reducible refine rd_lit _ ?_ ?_ ?_); exact rfl; exact rfl; simp) | with_reducible refine rd_sets ?_ (hneo _ _ (by omega)) _ | with_reducible refine rd_drew ?_)
  · have d1 : (code == 0) = false := by simp [hc]
    have d2 : (code != 0) = true := by simp [hc]
    have hn := hide (show next ⟨seq, code, wait, q, fin, failed⟩ = (⟨seq, code, wait, q, fin, failed⟩, []) by simp [next, hc])
    clear hc hq
    rw [hn.out]
    go_enter Try.func75, Try.ntmps75
    go_wp2_with fail
    refine bodyPost_ret (v := .tuple #[.agg #[.int .i64 seq, .int .i64 code, .int .i64 wait, .slice A q.length cap, .bool fin, .bool failed], .slice none 0 0]) ?_ rfl ?_
    · simp only [results, Try.results75]; go_simp
    · refine ⟨A, cap, none, 0, rfl, ?_, HR1 _ ?_, hcap, Rd.nil _ _ _ _, fun h0 b o e => Or.inr ⟨e, h0⟩, fun b o e => by cases e⟩
      all_goals repeat (first | with_reducible exact Below.refl _ _ | with_reducible refine Below.setCell ?_ (by simp) _ | with_reducible refine Below.drew ?_ | with_reducible refine Below.alloc ?_ (by first | (simp; done) | (simp; omega)) _)
end Go.Proofs.Ytdllehgiambkcaa.Pv
