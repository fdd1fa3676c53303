/- The walks of begin and next of package provisional. -/
import Derived.Test.YtdllehgiambkcaaPvWk
namespace Go.Proofs.Ytdllehgiambkcaa.Pv
open Go.RowKit

theorem own_far {w : World} {base size n c : Nat} {e : TypeId} {A : Option Addr} {xs : List Value} (h : w.ownsRow base e size (.slice A n c) n xs) (b o : Nat) (hA : A = some ⟨b, o, none⟩) : base ≤ b := by
  subst hA
  exact (h.lt b (by simp [Value.ownBlock])).1

theorem wk_new {W : World} {base cap : Nat} {seq code wait : Int} {q : List Int} {fin failed : Bool} {A : Option Addr} (hb : base ≤ W.heap.size) (hR : Rd W W.heap.size 1 A q.length (ints q)) (hc : q.length ≤ cap) (hbq : 0 < q.length → ∀ b o, A = some ⟨b, o, none⟩ → base ≤ b) :
    WkAt (W.alloc (.cells #[.int .i64 seq, .int .i64 code, .int .i64 wait, .slice A q.length cap, .bool fin, .bool failed, .slice none 0 0] 101)) W.heap.size base ⟨seq, code, wait, q, fin, failed⟩ A cap [] (.slice none 0 0) := by
  have B := Box.new W #[.int .i64 seq, .int .i64 code, .int .i64 wait, .slice A q.length cap, .bool fin, .bool failed, .slice none 0 0] 101
  refine ⟨B.lt, hb, B.cell 0, B.cell 1, B.cell 2, B.cell 3, B.cell 4, B.cell 5, B.cell 6, B.free, (hR.alloc (Nat.le_refl _) _).more (by simp), hc, fun h0 b o e => ⟨?_, by simp [Value.ownBlock], hbq h0 b o e⟩, World.ownsRow_nil _ base _ _, by simp [Value.ownBlock]⟩
  obtain ⟨b', o', e', hlt, -⟩ := hR.2 h0
  rw [e] at e'
  injection e' with e'
  injection e' with e'
  omega

set_option maxRecDepth 10000 in
set_option maxHeartbeats 2000000 in
theorem begin_any (r : R) (A : Option Addr) (cap : Nat) (w : World) (hR : Rd w w.heap.size 1 A r.q.length (ints r.q)) (hl : r.q.length ≤ 1000) :
    Calls Try.prog 55 #[.agg #[.int .i64 r.seq, .int .i64 r.code, .int .i64 r.wait, .slice A r.q.length cap, .bool r.fin, .bool r.failed]] w fun e w' =>
      ∃ g A' cap', e = .returned (.pointer (some ⟨g, 0, none⟩)) ∧ Below w.heap.size w w' ∧ WkAt w' g w.heap.size r A' cap' [] (.slice none 0 0) ∧ w'.ownsRow w.heap.size 3 1 (.slice A' r.q.length cap') r.q.length (ints r.q) ∧ (Value.slice A' r.q.length cap').ownBlock ≠ some g := by
  obtain ⟨seq, code, wait, q, fin, failed⟩ := r
  simp only at *
  go_enter Try.func55, Try.ntmps55
  have hR0 := (hR.alloc (Nat.le_refl _) (.cells #[.int .i64 seq, .int .i64 code, .int .i64 wait, .slice A q.length cap, .bool fin, .bool failed] 61)).more (B' := (w.alloc (.cells #[.int .i64 seq, .int .i64 code, .int .i64 wait, .slice A q.length cap, .bool fin, .bool failed] 61)).heap.size) (by simp)
  go_wp2_with fail
  refine (clone_any q A cap _ hR0 hl).mono ?_; rintro e w1 ⟨v, rfl, hb1, hown⟩
  obtain ⟨A1, cap1, rfl, hc1, hR1⟩ := own_slice hown
  obtain ⟨hcc, hff⟩ := bcell hb1
  have hz : w.heap.size < w1.heap.size := blt hb1 (by simp)
  go_wp2_with fail
  go_ret
  have hne : (Value.slice A1 q.length cap1).ownBlock ≠ some w.heap.size := by
    intro e; have := (hown.lt _ e).1; simp at this; omega
  have hown2 := own_set hown (p := ⟨w.heap.size, 3, none⟩) hne (.slice A1 q.length cap1)
  have hR2 : Rd (w1.setCell ⟨w.heap.size, 3, none⟩ (.slice A1 q.length cap1)) (w1.setCell ⟨w.heap.size, 3, none⟩ (.slice A1 q.length cap1)).heap.size 1 A1 q.length (ints q) := by
    simp only [World.size_setCell]
    refine rd_set hR1 (fun h0 b o e => ?_) _
    have := own_far hown b o e
    simp at this; omega
  have hs : (w1.setCell ⟨w.heap.size, 3, none⟩ (.slice A1 q.length cap1)).heap.size = w1.heap.size := by simp
  have hk := wk_new (base := w.heap.size) (seq := seq) (code := code) (wait := wait) (fin := fin) (failed := failed) (by rw [hs]; omega) hR2 hc1 (fun _ b o e => by have := own_far hown b o e; simp at this; omega)
  rw [hs] at hk
  refine ⟨_, A1, cap1, rfl, ?_, hk, own_lower (hown2.alloc _) (by simp), ?_⟩
  · exact (((((Below.refl _ _).alloc (Nat.le_refl _) _).trans (hb1.mono (by simp))).setCell (p := ⟨w.heap.size, 3, none⟩) (Nat.le_refl _) _).alloc (by rw [hs]; omega) _)
  · intro e; have := (hown.lt _ e).2; omega

theorem WkAt.set_qpush {w w1 : World} {g base cap gg cap2 : Nat} {r : R} {A : Option Addr} {c : Int} (h : WkAt w g base r A cap [] (.slice none 0 0)) (hne : (Value.slice A r.q.length cap).ownBlock ≠ some g) (hp : Pushed base (.slice A r.q.length cap) w w1 gg)
    (ho : w1.ownsRow base 3 1 (.slice (some ⟨gg, 0, none⟩) (r.q.length + 1) cap2) (r.q.length + 1) (ints r.q ++ [.int .i64 c])) :
    WkAt (w1.setCell ⟨g, 3, none⟩ (.slice (some ⟨gg, 0, none⟩) (r.q.length + 1) cap2)) g base { r with q := r.q ++ [c] } (some ⟨gg, 0, none⟩) cap2 [] (.slice none 0 0) := by
  have hc := fun o => hp.cell g o h.lt hne
  have hf := fun o => hp.frozen g o h.lt hne
  have hgg : gg ≠ g := by
    rcases hp.at_ with a | a
    · intro e; exact hne (by rw [a, e])
    · have := h.lt; omega
  have hl : (r.q ++ [c]).length = r.q.length + 1 := by simp
  have hn := fun j (hj : 3 ≠ j) => cset_ne w1 g 3 j (.slice (some ⟨gg, 0, none⟩) (r.q.length + 1) cap2) hj
  obtain ⟨A', c', e, hle, hR⟩ := own_slice ho
  injection e with e1 e2 e3
  subst e1 e3
  have hi : ints (r.q ++ [c]) = ints r.q ++ [.int .i64 c] := by simp [ints]
  refine ⟨by simp only [World.size_setCell]; exact hp.size _ h.lt, h.hbase, (hn _ (by omega)).trans ((hc _).trans h.c0), (hn _ (by omega)).trans ((hc _).trans h.c1), (hn _ (by omega)).trans ((hc _).trans h.c2), ?_, (hn _ (by omega)).trans ((hc _).trans h.c4), (hn _ (by omega)).trans ((hc _).trans h.c5), (hn _ (by omega)).trans ((hc _).trans h.c6),
    fun o => by rw [World.frozen?_setCell]; exact (hf o).trans (h.free o), ?_, ?_, fun _ b o e => ⟨?_, by simp [Value.ownBlock], ?_⟩, World.ownsRow_nil _ base _ _, by simp [Value.ownBlock]⟩
  · simp only [hl]; exact cset_eq _ _ _ _ _ ((hc _).trans h.c3)
  · simp only [World.size_setCell, hl, hi]
    refine rd_set hR (fun _ b o e => ?_) _
    injection e with e; injection e with e; omega
  · simp only [hl]; omega
  · injection e with e; injection e with e; omega
  · exact own_far ho b o e

set_option maxRecDepth 10000 in
set_option maxHeartbeats 4000000 in
theorem next_any (g base cap : Nat) (r : R) (A : Option Addr) (l : List O) (v : Value) (w : World) (h : WkAt w g base r A cap l v) (hl : l.length ≤ 800) (hs : 0 ≤ r.seq ∧ r.seq ≤ 2147483647) (hq : r.q.length ≤ 1000) :
    Calls Try.prog 59 #[.pointer (some ⟨g, 0, none⟩)] w fun e w' => e = .returned (.tuple #[]) ∧ Below base w w' ∧ ∃ A' cap' v', WkAt w' g base (next r).1 A' cap' (l ++ (next r).2) v' := by
  obtain ⟨seq, code, wait, q, fin, failed⟩ := r
  simp only at hs hq
  by_cases hc : code = 0
  · subst hc
    rcases q with _ | ⟨c, q⟩
    · obtain ⟨y1, y2, x0, x1, x2, x3, x4, x5, y6, yf, -, -, -, -, yv⟩ := id h
      simp only [List.length_nil] at x3
      go_enter Try.func59, Try.ntmps59
      go_wp2_with fail
      refine ⟨rfl, .tuple #[], ?_, rfl, Below.refl _ _, A, cap, v, by simpa [next] using h⟩
      simp only [results]; go_simp
    · obtain ⟨b, o, rfl, hb, hcell⟩ := Rd.intAt h.q (k := 0) (by simp)
      simp only [List.getElem_cons_zero, Nat.add_zero] at hcell
      obtain ⟨n, hn⟩ : ∃ n, q.length = n := ⟨_, rfl⟩
      have hln : (c :: q).length = n + 1 := by simp [hn]
      obtain ⟨y1, y2, x0, x1, x2, x3, x4, x5, y6, yf, yq, yqc, yqn, -, yv⟩ := id h
      simp only [hln] at x0 x1 x2 x3 x4 x5 yq yqc yqn hq
      have hrest : ∀ (W : World) (A' : Option Addr), Rd W W.heap.size 1 (some ⟨b, o, none⟩) (n + 1) (ints (c :: q)) → (n ≠ 0 → A' = some ⟨b, o + 1, none⟩) → Rd W W.heap.size 1 A' q.length (ints q) := by
        intro W A' hR hA
        refine ⟨by rw [ints_len]; omega, fun h0 => ?_⟩
        obtain ⟨b', o', e, hb', hcc⟩ := hR.2 (by omega)
        injection e with e
        injection e with e1 e2
        subst e1 e2
        refine ⟨b, o + 1, hA (by omega), hb', fun j u hu => ?_⟩
        have := hcc (j + 1) u (by simpa [ints] using hu)
        rwa [show o + 1 + j = o + (j + 1) by omega]
      have HN := hide hn
      have hset : ∀ A', (n ≠ 0 → A' = some ⟨b, o + 1, none⟩) → WkAt (w.setCell ⟨g, 3, none⟩ (.slice A' n n)) g base ⟨seq, 0, wait, q, fin, failed⟩ A' n l v := by
        intro A' hA
        have := h.set_q (A' := A') (cap' := n) (q' := q) (hrest w A' yq hA) (by omega) (fun h0 b2 o2 e => by
          have e' := hA (by omega)
          rw [e] at e'
          injection e' with e'
          injection e' with e1 e2
          subst e1
          exact yqn (by omega) _ _ rfl)
        rwa [hn] at this
      clear hn
      go_enter Try.func59, Try.ntmps59
      go_upto_region 2 with fail
      go_cut [2] from 3 to 70 (fun cc wx => cc = .int .i64 c ∧ ∃ A', WkAt wx g base ⟨seq, 0, wait, q, fin, failed⟩ A' n l v ∧ Below base w wx)
      case first =>
        have hfin : ∀ A', (n ≠ 0 → A' = some ⟨b, o + 1, none⟩) → ∃ A2, WkAt (w.setCell ⟨g, 3, none⟩ (.slice A' n n)).drew g base ⟨seq, 0, wait, q, fin, failed⟩ A2 n l v ∧ Below base w (w.setCell ⟨g, 3, none⟩ (.slice A' n n)).drew :=
          fun A' hA => ⟨A', (hset A' hA).drew, ((Below.refl _ _).setCell (p := ⟨g, 3, none⟩) y2 _).drew⟩
        have HF := hide hfin
        clear hfin hset hrest h yq yqn hcell
        rcases n with _ | n
        · have k1 : (1 : Int) ≤ (cap : Int) := by omega
          have k2 : 1 ≤ cap := by omega
          go_region_law (fail)
          all_goals (go_wp2_with fail; go_meet)
          all_goals exact ⟨rfl, HF.out _ (fun e => absurd rfl e)⟩
        · have k1 : (n : Int) + 1 + 1 ≤ (cap : Int) := by omega
          have k2 : n + 1 + 1 ≤ cap := by omega
          have k3 : (0 : Int) ≤ (n : Int) := by omega
          have k4 : (n : Int) ≤ 1000 := by omega
          have k5 : (0 : Int) ≤ (n : Int) + 1 + 1 := by omega
          have k6 : ((n : Int) + 1 + 1).toNat = n + 1 + 1 := by omega
          have k7 : max ((n : Int) + 1 + 1) 0 = (n : Int) + 1 + 1 := by omega
          have k8 : (1 : Int) ≤ (n : Int) + 1 + 1 := by omega
          go_region_law (fail)
          all_goals (go_wp2_with fail; go_meet)
          all_goals exact ⟨rfl, HF.out _ (fun _ => rfl)⟩
      case rest =>
        obtain ⟨rfl, A', h2, hB⟩ := hcut
        clear x0 x1 x2 x3 x4 x5 y6 yf yq yqc yqn hset hrest hcell h
        obtain ⟨z1, z2, x0, x1, x2, x3, x4, x5, z6, zf, zq, zqc, zqn, -, zv⟩ := id h2
        cases he : inB c 101 199
        · have HX : Hid (next ⟨seq, 0, wait, c :: q, fin, failed⟩ = (⟨seq, 0, wait, q, fin, failed⟩, [finalO c])) := hide (by simp [next, he])
          go_wp2_with (go_at_call 54; refine (early_any _ _).mono ?_; rintro e w' ⟨rfl, rfl⟩)
          refine (wfinal_any g base n _ A' l v _ h2 c (by omega)).mono ?_; rintro e w3 ⟨rfl, hb3, v3, h3⟩
          go_wp2_with fail
          refine ⟨rfl, .tuple #[], ?_, rfl, hB.trans hb3, A', n, v3, by rw [HX.out]; exact h3⟩
          simp only [results]; go_simp
        · have HX : Hid (next ⟨seq, 0, wait, c :: q, fin, failed⟩ = (⟨seq + 1, c, 500, q, fin, failed⟩, [sendO c (seq + 1), timerO 1 500, timerO 2 32000])) := hide (by simp [next, he])
          have hs1 := h2.set_seq (seq + 1)
          have hs2 := hs1.set_code c
          simp only at x0 x1
          obtain ⟨s1, s2⟩ := hs
          go_wp2_with (go_at_call 54; refine (early_any _ _).mono ?_; rintro e w' ⟨rfl, rfl⟩)
          refine (wsend_any g base n _ A' l v _ hs2 500 (by omega)).mono ?_; rintro e w3 ⟨rfl, hb3, v3, h3⟩
          go_wp2_with fail
          refine (wtimer_any g base n _ A' _ v3 _ h3 2 32000 (by simp; omega)).mono ?_; rintro e w4 ⟨rfl, hb4, v4, h4⟩
          go_wp2_with fail
          rw [List.append_assoc] at h4
          refine ⟨rfl, .tuple #[], ?_, rfl, ((((hB.setCell (p := ⟨g, 0, none⟩) y2 _).setCell (p := ⟨g, 1, none⟩) y2 _).trans hb3).trans hb4), A', n, v4, by rw [HX.out]; exact h4⟩
          simp only [results]; go_simp
  · obtain ⟨y1, y2, x0, x1, x2, x3, x4, x5, y6, yf, -, -, -, -, yv⟩ := id h
    simp only at x1 x3
    have d1 : (code == 0) = false := by simp [hc]
    have d2 : (code != 0) = true := by simp [hc]
    have hn := hide (show next ⟨seq, code, wait, q, fin, failed⟩ = (⟨seq, code, wait, q, fin, failed⟩, []) by simp [next, hc])
    clear hc
    go_enter Try.func59, Try.ntmps59
    go_wp2_with fail
    refine ⟨rfl, .tuple #[], ?_, rfl, Below.refl _ _, A, cap, v, by rw [hn.out]; simpa using h⟩
    simp only [results]; go_simp
end Go.Proofs.Ytdllehgiambkcaa.Pv
