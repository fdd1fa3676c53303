/- The walk of ProvisionalOrder. -/
import Derived.Test.YtdllehgiambkcaaPvTwo
import Derived.Test.YtdllehgiambkcaaPvBytes
namespace Go.Proofs.Ytdllehgiambkcaa.Pv
open Go.RowKit

def codeOf (a : Int) : Int := 101 + a % 99
def wantOf (l : List Int) (k : Nat) : List Int := (l.take k).map codeOf
theorem wantOf_succ (l : List Int) {k : Nat} (h : k < l.length) : wantOf l (k + 1) = wantOf l k ++ [codeOf l[k]] := by
  unfold wantOf
  rw [List.take_succ_eq_append_getElem h, List.map_append]
  rfl
theorem wantOf_codes (l : List Int) {k : Nat} (h : k ≤ 14) : Codes (wantOf l k) := by
  refine ⟨by simp [wantOf]; omega, fun c hc => ?_⟩
  obtain ⟨a, -, rfl⟩ := List.mem_map.mp hc
  unfold codeOf
  omega
theorem wantOf_len (l : List Int) {k : Nat} (h : k ≤ l.length) : (wantOf l k).length = k := by simp [wantOf]; omega

theorem wait_bd {r : R} (h : may r = true) : (-9223372036854775808 ≤ r.wait ∧ r.wait ≤ 9223372036854775807) ∧ r.q.length ≤ 16 := by
  obtain ⟨p, hg⟩ := may_good h
  refine ⟨?_, hg.len⟩
  by_cases e : r.code = 0
  · rw [(hg.zero e).1]; omega
  · rcases pow_in (hg.some_ e).2.2.2 with h | h | h | h | h | h | h <;> rw [h] <;> omega

theorem rd_pushed {w w' : World} {base g size n : Nat} {v : Value} {A : Option Addr} {xs : List Value} {o : Obj} (h : Rd w w.heap.size size A n xs) (hp : Pushed base v (w.alloc o) w' g) (hne : 0 < n → ∀ b o, A = some ⟨b, o, none⟩ → v.ownBlock ≠ some b) : Rd w' w'.heap.size size A n xs := by
  have ha := rd_allocs h o
  refine ⟨h.1, fun hn => ?_⟩
  obtain ⟨b, o', e, hb, hc⟩ := ha.2 hn
  exact ⟨b, o', e, hp.size _ hb, fun j u hu => (hp.cell b _ hb (hne hn b o' e)).trans (hc j u hu)⟩

/-- The closure in the law's own memory. -/
theorem lost_here {H a capL cap : Nat} {w0 wr : World} {x : L} {A AL : Option Addr} {v wv : Value} {want : List Int} {bs : List Bool} (h : OrdAt H w0 wr x A cap v want wv a AL capL bs) (hH : H = w0.heap.size) (hL : Rd w0 w0.heap.size 1 AL bs.length (bools bs)) (ha : a ≤ 100000) {b1 : Bool} (hb1 : lostB bs a = b1) :
    Calls Try.prog 30 #[.pointer (some ⟨H + 1 + 1, 0, none⟩), .pointer (some ⟨H, 0, none⟩)] wr (Lost wr (H + 1 + 1) a b1) := by
  subst hH hb1
  refine lost_any _ _ a capL AL bs wr h.at_ h.los ((hL.below h.bel).more h.bel.size) (by omega) (fun h0 b o e => ?_) ha
  obtain ⟨b', o', e', hb', -⟩ := hL.2 h0
  rw [e] at e'
  injection e' with e'
  injection e' with e'
  omega

set_option maxRecDepth 100000 in
set_option maxHeartbeats 16000000 in
theorem order_any (AC : Option Addr) (capC : Nat) (l : List Int) (AL : Option Addr) (capL : Nat) (bs : List Bool) (w : World) (hC : Rd w w.heap.size 1 AC l.length (bytes l)) (hok : ∀ a ∈ l, 0 ≤ a ∧ a < 256) (hL : Rd w w.heap.size 1 AL bs.length (bools bs)) :
    Calls Try.prog 8 #[.slice AC l.length capC, .slice AL bs.length capL] w fun e w' => e = .returned (.bool true) ∧ Below w.heap.size w w' := by
  go_enter Try.func8, Try.ntmps8
  go_upto_block 0 with fail
  go_cut [6] from 9 to 63 (fun wv wx => ∃ (want : List Int) (x : L) (A : Option Addr) (cap : Nat) (v : Value) (a : Nat), Codes want ∧ a ≤ 14 ∧ OrdAt w.heap.size w wx x A cap v want wv a AL capL bs ∧ S1 x want)
  case first =>
    go_wp2_with fail
    go_loopw [6, 9] (fun wv i wr => ∃ (k : Nat) (x : L) (A : Option Addr) (cap : Nat) (v : Value) (a : Nat), k ≤ l.length ∧ k ≤ 14 ∧ i = .int .i64 k ∧ a ≤ k ∧ OrdAt w.heap.size w wr x A cap v (wantOf l k) wv a AL capL bs ∧ S1 x (wantOf l k)) (fun _ i _ => 14 - (intOf i).toNat)
    case atStart =>
      refine ⟨0, _, none, 0, .slice none 0 0, 0, by omega, by omega, rfl, by omega, ?_, s1_start⟩
      have B1 := Box.new (w.alloc (.cells #[.slice AL bs.length capL] 72)) #[.int .i64 0, .int .i64 0, .int .i64 0, .slice none 0 0, .bool false, .bool false, .int .i64 0, .slice none 0 0, .int .i64 0, .bool false, .bool false] 75
      simp only [World.size_alloc] at B1
      have B2 := Box.new ((w.alloc (.cells #[.slice AL bs.length capL] 72)).alloc (.cells #[.int .i64 0, .int .i64 0, .int .i64 0, .slice none 0 0, .bool false, .bool false, .int .i64 0, .slice none 0 0, .int .i64 0, .bool false, .bool false] 75)) #[.int .i64 0] 3
      simp only [World.size_alloc] at B2
      exact ⟨⟨B1.alloc _, World.ownsRow_nil _ _ _ _, by simp [Value.ownBlock], Rd.nil _ _ _ _, Nat.le_refl _, fun h0 => absurd h0 (by simp)⟩, World.ownsRow_nil _ _ _ _, fun b e => by simp [Value.ownBlock] at e, fun h0 => absurd h0 (by simp), ((Box.new w _ _).alloc _).alloc _, B2, (((Below.refl _ _).alloc (Nat.le_refl _) _).alloc (by simp) _).alloc (by simp; omega) _, by simp⟩
    case round =>
      obtain ⟨k, x, A, cap, v, a, hk, hk14, rfl, hak, HO, hS⟩ := hrel
      have hk14' : (k : Int) ≤ 14 := by omega
      by_cases hlt : k < l.length ∧ k < 14
      · obtain ⟨hlt, hlt14⟩ := hlt
        obtain ⟨b, o, rfl, hb, hcell⟩ := Rd.byteAt (hC.below HO.bel) hlt
        obtain ⟨a1, a2⟩ := hok l[k] (List.getElem_mem hlt)
        have HW := hide (wantOf_succ l hlt)
        have hlen := wantOf_len l hk
        have HLEN := hide hlen
        clear hlen
        have hcd := wantOf_codes l hk14
        generalize wantOf l k = want at *
        unfold codeOf at HW
        generalize l[k] = ac at *
        have hc1 : 101 ≤ 101 + ac % 99 ∧ 101 + ac % 99 ≤ 199 := by omega
        obtain ⟨hoe, hos⟩ := s1_offer hS hcd (by rw [HLEN.out]; omega) hc1
        have t1 := HO.link.box.cell
        have t2 := HO.link.box.free
        have t3 := HO.link.box.lt
        simp only [L.arr] at t1
        have d1 : decide ((k : Int) < (l.length : Int)) = true := by simp; omega
        have d2 : decide ((k : Int) < 14) = true := by simp; omega
        have hmay : may x.r = true := by rw [hS.r]; exact may_first1 hcd
        obtain ⟨hwt, hq16⟩ := wait_bd hmay
        obtain ⟨X, hX⟩ : ∃ X, offer x.r (101 + ac % 99) = X := ⟨_, rfl⟩
        rw [hX] at hoe hos
        have hXl := (offer_len x.r (101 + ac % 99)).2
        rw [hX] at hXl
        have hacc : x.acc.length ≤ 20 := by
          rcases hS.got with ⟨-, e⟩ | ⟨c, q, -, -, e⟩ <;> rw [e] <;> simp
        have HX := hide hX
        have HS := hide hos
        clear hS hX hos hmay
        go_wp2_with fail
        refine (offer_any x.r A cap _ _ HO.link.q (by omega) HO.link.qcap hwt).mono ?_
        rw [HX.out]
        rintro e w1 ⟨A2, c2, v2, rfl, hb1, hR2, hc2, ho2, hn2⟩
        obtain ⟨V2, k2, rfl, -, hO2⟩ := own_slice ho2
        have f1 : ∀ b, wr.heap.size ≤ b → w.heap.size + 3 ≤ b ∧ v.ownBlock ≠ some b ∧ u6.ownBlock ≠ some b := fun b hb => ⟨Nat.le_trans HO.lo hb, fun e => by have := (HO.link.own.lt b e).2; omega, fun e => by have := (HO.want.lt b e).2; omega⟩
        have O2 := ((HO.past hb1).setr (r := X.r) (A2 := A2) (c2 := c2) hR2 hc2 (fun h0 b o e => f1 b (hn2 h0 b o e))).alloc (.cells #[.int .i64 X.r.seq, .int .i64 X.r.code, .int .i64 X.r.wait, .slice A2 X.r.q.length c2, .bool X.r.fin, .bool X.r.failed] 61)
        have QO := rd_allocs (rd_lay (g := w.heap.size + 1) hO2 (fun _ b o e => by have := own_lo ho2 b o e; have := HO.lo; omega) (.int .i64 X.r.seq) (.int .i64 X.r.code) (.int .i64 X.r.wait) (.slice A2 X.r.q.length c2) (.bool X.r.fin) (.bool X.r.failed)) (.cells #[.int .i64 X.r.seq, .int .i64 X.r.code, .int .i64 X.r.wait, .slice A2 X.r.q.length c2, .bool X.r.fin, .bool X.r.failed] 61)
        have f2 : ∀ b o, V2 = some ⟨b, o, none⟩ → w.heap.size + 3 ≤ b ∧ v.ownBlock ≠ some b ∧ u6.ownBlock ≠ some b := fun b o e => f1 b (own_lo ho2 b o e)
        have F2 := hide f2
        have O1 := HO.past hb1
        have u1 := O1.link.box.cell
        have u2 := O1.link.box.free
        have u3 := O1.link.box.lt
        simp only [L.arr] at u1
        have HQO := hide QO
        have HO2 := hide O2
        clear t1 t2 t3 hcell hn2 ho2 hO2 hR2 f1 f2 HO hb1 QO O2 O1
        go_upto_region 12 with fail
        go_cut [] from 51 to 54 (fun wx => OrdAt w.heap.size w wx { x with r := X.r } A2 c2 v want u6 a AL capL bs ∧ Rd wx wx.heap.size 5 V2 X.l.length (X.l.flatMap O.cs))
        case first =>
          go_wp2_with fail
          go_meet
          exact ⟨HO2.out, HQO.out⟩
        case rest =>
          obtain ⟨O3, Q3⟩ := hcut
          clear u1 u2 u3
          go_upto_region 13 with fail
          go_cut [6] from 55 to 58 (fun wv2 wx => OrdAt w.heap.size w wx { x with r := X.r } A2 c2 v (want ++ [101 + ac % 99]) wv2 a AL capL bs ∧ Rd wx wx.heap.size 5 V2 X.l.length (X.l.flatMap O.cs))
          case first =>
            have hlo := O3.lo
            have HQ3 := hide Q3
            have HO3 := hide O3
            have hlen16 : want.length ≤ 14 := hcd.1
            clear Q3 O3
            go_wp2_with (at_builtin; go_must (refine wpList_push elI (by rfl) _ _ (by rfl) (w.heap.size + 3) u6 want.length (ints want) (by rfl) (HO3.out.want.alloc _) wc.heap.size 1 1 #[.int .i64 (101 + ac % 99)] (by rfl) (hhere _ _ _ rfl) rfl (by simp [Value.oneCell']) (by omega) ⟨by simp only [maxLen]; omega, by omega⟩ (by simp; omega) ?_; intro gg cap2 w3 hown3 hp3))
            go_meet
            exact ⟨HO3.out.push hp3 hown3, rd_pushed HQ3.out hp3 (fun _ b o e => (F2.out b o e).2.2)⟩
          case rest =>
            obtain ⟨O4, Q4⟩ := hcut
            clear O3 Q3
            have hHQ := hide Q4
            go_wp2_with fail
            obtain ⟨b1, hb1⟩ : ∃ b1, lostB bs a = b1 := ⟨_, rfl⟩
            refine (lost_here O4 rfl hL (by omega) hb1).mono ?_
            clear hb1
            rintro e w5 ⟨rfl, rfl⟩
            have O5 := O4.count
            have Q5 := rd_sets (i := 0) Q4 (fun _ b o e => by have := (F2.out b o e).1; omega : 0 < X.l.length → ∀ b o, V2 = some ⟨b, o, none⟩ → b ≠ w.heap.size + 1 + 1) (.int .i64 ((a : Int) + 1))
            have HO5 := hide O5
            clear O4 Q4
            go_wp2_with fail
            refine (deliver_any (w.heap.size + 1) w.heap.size c2 k2 { x with r := X.r } A2 V2 v X.l b1 _ (HO5.out.link.lower (by omega)) Q5 (fun _ b o e => ⟨by have := (F2.out b o e).1; omega, (F2.out b o e).2.1⟩) ⟨by simp only; omega, hXl⟩ (by have := HO5.out.lo; omega) (by omega)).mono ?_
            rintro e w6 ⟨rfl, v', hL6, hN6⟩
            have O6 := O5.near hL6 hN6 (dlv_acc _ _ _).2
            have HO6 := hide O6
            clear O5 Q5 O6 hL6 hN6
            go_wp2_with fail
            go_roundw
            case rel => exact ⟨k + 1, L.dlv b1 { x with r := X.r } X.l, A2, c2, v', a + 1, by omega, by omega, by go_num, by omega, by rw [HW.out]; exact HO6.out, by rw [HW.out]; exact HS.out b1⟩
            case measure => simp [intOf]; omega
      · have hS' : S1 x (wantOf l k) := hS
        have hcd := wantOf_codes l hk14
        have HS := hide hS'
        have HOO := hide HO
        clear hS hS' HO
        rcases Nat.lt_or_ge k l.length with h1 | h1
        · obtain rfl : k = 14 := by omega
          have d1 : decide ((14 : Int) < (l.length : Int)) = true := by simp; omega
          go_wp2_with fail
          go_meet
          exact ⟨_, x, A, cap, v, a, hcd, hak, HOO.out, HS.out⟩
        · have d1 : decide ((k : Int) < (l.length : Int)) = false := by simp; omega
          go_wp2_with fail
          go_meet
          exact ⟨_, x, A, cap, v, a, hcd, by omega, HOO.out, HS.out⟩
  case rest =>
    obtain ⟨want, x, A, cap, v, a, hcd, ha, HO, hS⟩ := hcut
    obtain ⟨hoe, hd1, hd2⟩ := s1_final hS hcd
    have hmay : may x.r = true := by rw [hS.r]; exact may_first1 hcd
    obtain ⟨hwt, hq16⟩ := wait_bd hmay
    obtain ⟨X, hX⟩ : ∃ X, offer x.r 200 = X := ⟨_, rfl⟩
    rw [hX] at hoe hd1 hd2
    have hXl := (offer_len x.r 200).2
    rw [hX] at hXl
    have hacc : x.acc.length ≤ 20 := by
      rcases hS.got with ⟨-, e⟩ | ⟨c, q, -, -, e⟩ <;> rw [e] <;> simp
    have t1 := HO.link.box.cell
    have t2 := HO.link.box.free
    have t3 := HO.link.box.lt
    simp only [L.arr] at t1
    have HX := hide hX
    have HI := hide (inv2_start ⟨hd1, hd2⟩)
    clear hS hX hmay hd1 hd2
    go_wp2_with fail
    refine (offer_any x.r A cap _ _ HO.link.q (by omega) HO.link.qcap hwt).mono ?_
    rw [HX.out]
    rintro e w1 ⟨A2, c2, v2, rfl, hb1, hR2, hc2, ho2, hn2⟩
    obtain ⟨V2, k2, rfl, -, hO2⟩ := own_slice ho2
    have f1 : ∀ b, wc.heap.size ≤ b → w.heap.size + 3 ≤ b ∧ v.ownBlock ≠ some b ∧ u6.ownBlock ≠ some b := fun b hb => ⟨Nat.le_trans HO.lo hb, fun e => by have := (HO.link.own.lt b e).2; omega, fun e => by have := (HO.want.lt b e).2; omega⟩
    have O2 := ((HO.past hb1).setr (r := X.r) (A2 := A2) (c2 := c2) hR2 hc2 (fun h0 b o e => f1 b (hn2 h0 b o e))).alloc (.cells #[.int .i64 X.r.seq, .int .i64 X.r.code, .int .i64 X.r.wait, .slice A2 X.r.q.length c2, .bool X.r.fin, .bool X.r.failed] 61)
    have QO := rd_allocs (rd_lay (g := w.heap.size + 1) hO2 (fun _ b o e => by have := own_lo ho2 b o e; have := HO.lo; omega) (.int .i64 X.r.seq) (.int .i64 X.r.code) (.int .i64 X.r.wait) (.slice A2 X.r.q.length c2) (.bool X.r.fin) (.bool X.r.failed)) (.cells #[.int .i64 X.r.seq, .int .i64 X.r.code, .int .i64 X.r.wait, .slice A2 X.r.q.length c2, .bool X.r.fin, .bool X.r.failed] 61)
    have f2 : ∀ b o, V2 = some ⟨b, o, none⟩ → w.heap.size + 3 ≤ b ∧ v.ownBlock ≠ some b ∧ u6.ownBlock ≠ some b := fun b o e => f1 b (own_lo ho2 b o e)
    have F2 := hide f2
    have O1 := HO.past hb1
    have B14 := Box.new (set6 w1 (w.heap.size + 1) (.int .i64 X.r.seq) (.int .i64 X.r.code) (.int .i64 X.r.wait) (.slice A2 X.r.q.length c2) (.bool X.r.fin) (.bool X.r.failed)) #[.int .i64 X.r.seq, .int .i64 X.r.code, .int .i64 X.r.wait, .slice A2 X.r.q.length c2, .bool X.r.fin, .bool X.r.failed] 61
    rw [set6_size] at B14
    have hw14 : w.heap.size + 3 ≤ w1.heap.size := O1.lo
    have hb14 : v.ownBlock ≠ some w1.heap.size ∧ u6.ownBlock ≠ some w1.heap.size := ⟨fun e => by have := (O1.link.own.lt _ e).2; omega, fun e => by have := (O1.want.lt _ e).2; omega⟩
    have hq14 : 0 < X.r.q.length → ∀ b o, A2 = some ⟨b, o, none⟩ → b ≠ w1.heap.size := fun h0 b o e => by
      obtain ⟨b', o', e', hb', -⟩ := hR2.2 h0
      rw [e] at e'
      injection e' with e'
      injection e' with e'
      omega
    have u1 := O1.link.box.cell
    have u2 := O1.link.box.free
    have u3 := O1.link.box.lt
    simp only [L.arr] at u1
    have HQO := hide QO
    have HO2 := hide O2
    have HB14 := hide B14
    have HQ14 := hide hq14
    have HF14 := hide hb14
    clear t1 t2 t3 hn2 ho2 hO2 hR2 f1 f2 HO hb1 QO O2 O1 B14 hq14 hb14
    go_wp2_with fail
    refine (deliver_any (w.heap.size + 1) w.heap.size c2 k2 { x with r := X.r } A2 V2 v X.l false _ (HO2.out.link.lower (by omega)) HQO.out (fun _ b o e => ⟨by have := (F2.out b o e).1; omega, (F2.out b o e).2.1⟩) ⟨by simp only; omega, hXl⟩ (by have := HO2.out.lo; omega) (by omega)).mono ?_
    rintro e w6 ⟨rfl, v', hL6, hN6⟩
    have T0 : Two w.heap.size w1.heap.size w _ { x with r := X.r } A2 c2 v want u6 a AL capL bs := ⟨HO2.out, ⟨_, _, _, _, _, _, HB14.out⟩, hw14, HF14.out.1, HF14.out.2, HQ14.out⟩
    have T1 := T0.near hL6 hN6 (dlv_acc _ _ _).2
    have HI0 := HI.out
    clear T0 hL6 hN6 HO2 HQO HB14 HF14 HQ14 HX F2 HI hwt hq16 hXl hacc hoe hc2 u1 u2 u3
    have hg14 : w.heap.size + 3 ≤ w1.heap.size := hw14
    clear hw14
    generalize L.dlv false { x with r := X.r } X.l = y at *
    generalize w1.heap.size = g14 at *
    have HI1 := hide HI0
    have HT1 := hide T1
    clear HI0 T1
    go_wp2_with fail
    go_loopw [17] (fun i wr => ∃ (n : Nat) (y : L) (A : Option Addr) (cap : Nat) (v : Value) (a : Nat), n ≤ 200 ∧ i = .int .i64 n ∧ a ≤ 14 + 2 * n ∧ Two w.heap.size g14 w wr y A cap v want u6 a AL capL bs ∧ Inv2 n y want) (fun i _ => 200 - (intOf i).toNat)
    case atStart => exact ⟨0, y, A2, c2, v', a, by omega, rfl, by omega, HT1.out, HI1.out⟩
    case round =>
      clear HI1 HT1
      obtain ⟨n, y, A, cap, v, a, hn, rfl, han, HT, HI⟩ := hrel
      have hn' : (n : Int) ≤ 200 := by omega
      obtain ⟨hacc, hmay⟩ := inv2_acc HI hcd
      obtain ⟨hwt, hq16⟩ := wait_bd hmay
      have t1 := HT.ord.link.box.cell
      have t2 := HT.ord.link.box.free
      have t3 := HT.ord.link.box.lt
      simp only [L.arr] at t1
      by_cases hgo : n < 200 ∧ y.fin = 0
      · obtain ⟨hlt, hfin⟩ := hgo
        have d1 : decide ((n : Int) < 200) = true := by simp; omega
        have HFIN := hide hfin
        have d2 : (y.fin == 0) = true := by simp [hfin]
        have HII := hide HI
        clear hfin HI hmay
        go_upto_region 23 with fail
        go_cut [110] from 93 to 110 (fun cv wx => ∃ (c b1 : Bool) (a' : Nat), cv = .bool c ∧ a' ≤ a + 1 ∧ Two w.heap.size g14 w wx y A cap v want u6 a' AL capL bs ∧ (100 ≤ n → b1 = false) ∧ (c = true → b1 = true ∨ y.last ≠ y.r.seq) ∧ (c = false → y.last = y.r.seq))
        case first =>
          have HTT := hide HT
          by_cases h100 : n < 100
          · have d3 : decide ((n : Int) < 100) = true := by simp; omega
            clear HT
            cases hb1 : lostB bs a
            · have HB1 := hide hb1
              clear hb1
              go_region_held3 (fun w' => w'.cell? ⟨w.heap.size + 1, 6, none⟩ = some (.int .i64 y.last) ∧ w'.cell? ⟨w.heap.size + 1, 0, none⟩ = some (.int .i64 y.r.seq)) (go_simp) (first | (go_at_call 30; go_must (refine (lost_here (by first | exact HTT.out.ord | exact HTT.out.ord.drew) rfl hL (by omega) HB1.out).mono ?_; rintro e w5 ⟨rfl, rfl⟩)))
              go_wp2_with fail
              go_meet
              first
                | exact ⟨(y.last != y.r.seq), false, a + 1, rfl, by omega, HTT.out.count, fun _ => rfl, fun h => Or.inr (by simpa using h), fun h => by simpa using h⟩
                | exact ⟨(y.last != y.r.seq), false, a + 1, rfl, by omega, HTT.out.drew.count, fun _ => rfl, fun h => Or.inr (by simpa using h), fun h => by simpa using h⟩
                | exact ⟨(y.last != y.r.seq), false, a + 1, rfl, by omega, HTT.out.count.drew, fun _ => rfl, fun h => Or.inr (by simpa using h), fun h => by simpa using h⟩
            · have HB1 := hide hb1
              clear hb1
              refine wp_region_held_drew (S := fun _ => True) (by kernel_rfl) trivial (fun _ => ?_)
              refine wpAnyH_take (i := 0) (oi := { dst := some 93, op := _, type := _, pos := _, after := _, guard := none }) (v := ?_) rfl (by kernel_rfl) (by kernel_rfl) (by kernel_rfl) (fun _ _ _ h => h) (Or.inl ⟨by rfl, ?_⟩) trivial ?_
              rotate_left
              · intro w' _; go_simp; (try with_reducible rfl)
              (try simp only [Act.put, List.setIfInBounds_toArray, List.set_cons_zero, List.set_cons_succ])
              refine wpAnyH_take (i := 1) (oi := { dst := some 94, op := _, type := _, pos := _, after := _, guard := none }) (v := ?_) rfl (by kernel_rfl) (by kernel_rfl) (by kernel_rfl) (fun _ _ _ h => h) (Or.inl ⟨by rfl, ?_⟩) trivial ?_
              rotate_left
              · intro w' _; go_simp; (try with_reducible rfl)
              (try simp only [Act.put, List.setIfInBounds_toArray, List.set_cons_zero, List.set_cons_succ])
              refine wpAnyH_take (i := 2) (oi := { dst := some 95, op := _, type := _, pos := _, after := _, guard := none }) (v := ?_) rfl (by kernel_rfl) (by kernel_rfl) (by kernel_rfl) (fun _ _ _ h => h) (Or.inl ⟨by rfl, ?_⟩) trivial ?_
              rotate_left
              · intro w' _; go_simp; (try with_reducible rfl)
              (try simp only [Act.put, List.setIfInBounds_toArray, List.set_cons_zero, List.set_cons_succ])
              refine wpAnyH_take (i := 3) (oi := { dst := some 96, op := _, type := _, pos := _, after := _, guard := some (2, true) }) (v := ?_) rfl (by kernel_rfl) (by kernel_rfl) (by kernel_rfl) (fun _ _ _ h => h) (Or.inl ⟨by rfl, ?_⟩) trivial ?_
              rotate_left
              · intro w' _; go_simp; (try with_reducible rfl)
              (try simp only [Act.put, List.setIfInBounds_toArray, List.set_cons_zero, List.set_cons_succ])
              refine wpAnyH_ready (rs := [4]) (by kernel_rfl) (by simp) ?_
              refine AllReadyH.cons (o := { dst := some 97, op := .call { callee := .value (.tmp 96), args := #[], argTypes := #[] }, type := _, pos := _, after := _, guard := some (2, true) }) rfl (fun K hK => ?_) AllReadyH.nil
              go_simp
              go_at_call 30
              refine (lost_here HTT.out.ord.drew rfl hL (by omega) HB1.out).mono ?_
              rintro e w5 ⟨rfl, rfl⟩
              (try go_simp)
              refine hK.out _ _ trivial (fun _ => ?_)
              clear hK K
              (try simp only [Act.put, List.setIfInBounds_toArray, List.set_cons_zero, List.set_cons_succ])
              refine wpAnyH_take (i := 5) (oi := { dst := some 98, op := _, type := _, pos := _, after := _, guard := none }) (v := ?_) rfl (by kernel_rfl) (by kernel_rfl) (by kernel_rfl) (fun _ _ _ h => h) (Or.inl ⟨by rfl, ?_⟩) trivial ?_
              rotate_left
              · intro w' _; go_simp; (try with_reducible rfl)
              (try simp only [Act.put, List.setIfInBounds_toArray, List.set_cons_zero, List.set_cons_succ])
              refine wpAnyH_take (i := 6) (oi := { dst := some 99, op := _, type := _, pos := _, after := _, guard := none }) (v := ?_) rfl (by kernel_rfl) (by kernel_rfl) (by kernel_rfl) (fun _ _ _ h => h) (Or.inl ⟨by rfl, ?_⟩) trivial ?_
              rotate_left
              · intro w' _; go_simp; (try with_reducible rfl)
              (try simp only [Act.put, List.setIfInBounds_toArray, List.set_cons_zero, List.set_cons_succ])
              refine wpAnyH_take (i := 7) (oi := { dst := some 100, op := _, type := _, pos := _, after := _, guard := some (6, false) }) (v := undef) rfl (by kernel_rfl) (by kernel_rfl) (by kernel_rfl) (fun _ _ _ h => h) (Or.inr ⟨by kernel_rfl, rfl⟩) trivial ?_
              (try simp only [Act.put, List.setIfInBounds_toArray, List.set_cons_zero, List.set_cons_succ])
              refine wpAnyH_take (i := 8) (oi := { dst := some 101, op := _, type := _, pos := _, after := _, guard := some (6, false) }) (v := undef) rfl (by kernel_rfl) (by kernel_rfl) (by kernel_rfl) (fun _ _ _ h => h) (Or.inr ⟨by kernel_rfl, rfl⟩) trivial ?_
              (try simp only [Act.put, List.setIfInBounds_toArray, List.set_cons_zero, List.set_cons_succ])
              refine wpAnyH_take (i := 9) (oi := { dst := some 102, op := _, type := _, pos := _, after := _, guard := some (6, false) }) (v := undef) rfl (by kernel_rfl) (by kernel_rfl) (by kernel_rfl) (fun _ _ _ h => h) (Or.inr ⟨by kernel_rfl, rfl⟩) trivial ?_
              (try simp only [Act.put, List.setIfInBounds_toArray, List.set_cons_zero, List.set_cons_succ])
              refine wpAnyH_take (i := 10) (oi := { dst := some 103, op := _, type := _, pos := _, after := _, guard := some (6, false) }) (v := undef) rfl (by kernel_rfl) (by kernel_rfl) (by kernel_rfl) (fun _ _ _ h => h) (Or.inr ⟨by kernel_rfl, rfl⟩) trivial ?_
              (try simp only [Act.put, List.setIfInBounds_toArray, List.set_cons_zero, List.set_cons_succ])
              refine wpAnyH_take (i := 11) (oi := { dst := some 104, op := _, type := _, pos := _, after := _, guard := some (6, false) }) (v := undef) rfl (by kernel_rfl) (by kernel_rfl) (by kernel_rfl) (fun _ _ _ h => h) (Or.inr ⟨by kernel_rfl, rfl⟩) trivial ?_
              (try simp only [Act.put, List.setIfInBounds_toArray, List.set_cons_zero, List.set_cons_succ])
              refine wpAnyH_take (i := 12) (oi := { dst := some 105, op := _, type := _, pos := _, after := _, guard := some (6, false) }) (v := undef) rfl (by kernel_rfl) (by kernel_rfl) (by kernel_rfl) (fun _ _ _ h => h) (Or.inr ⟨by kernel_rfl, rfl⟩) trivial ?_
              (try simp only [Act.put, List.setIfInBounds_toArray, List.set_cons_zero, List.set_cons_succ])
              refine wpAnyH_take (i := 13) (oi := { dst := some 106, op := _, type := _, pos := _, after := _, guard := some (6, false) }) (v := undef) rfl (by kernel_rfl) (by kernel_rfl) (by kernel_rfl) (fun _ _ _ h => h) (Or.inr ⟨by kernel_rfl, rfl⟩) trivial ?_
              (try simp only [Act.put, List.setIfInBounds_toArray, List.set_cons_zero, List.set_cons_succ])
              refine wpAnyH_take (i := 14) (oi := { dst := some 107, op := _, type := _, pos := _, after := _, guard := some (6, false) }) (v := undef) rfl (by kernel_rfl) (by kernel_rfl) (by kernel_rfl) (fun _ _ _ h => h) (Or.inr ⟨by kernel_rfl, rfl⟩) trivial ?_
              (try simp only [Act.put, List.setIfInBounds_toArray, List.set_cons_zero, List.set_cons_succ])
              refine wpAnyH_take (i := 15) (oi := { dst := some 108, op := _, type := _, pos := _, after := _, guard := some (6, false) }) (v := undef) rfl (by kernel_rfl) (by kernel_rfl) (by kernel_rfl) (fun _ _ _ h => h) (Or.inr ⟨by kernel_rfl, rfl⟩) trivial ?_
              (try simp only [Act.put, List.setIfInBounds_toArray, List.set_cons_zero, List.set_cons_succ])
              refine wpAnyH_take (i := 16) (oi := { dst := some 109, op := _, type := _, pos := _, after := _, guard := some (6, false) }) (v := undef) rfl (by kernel_rfl) (by kernel_rfl) (by kernel_rfl) (fun _ _ _ h => h) (Or.inr ⟨by kernel_rfl, rfl⟩) trivial ?_
              (try simp only [Act.put, List.setIfInBounds_toArray, List.set_cons_zero, List.set_cons_succ])
              refine wpAnyH_take (i := 17) (oi := { dst := some 110, op := _, type := _, pos := _, after := _, guard := none }) (v := ?_) rfl (by kernel_rfl) (by kernel_rfl) (by kernel_rfl) (fun _ _ _ h => h) (Or.inl ⟨by rfl, ?_⟩) trivial ?_
              rotate_left
              · intro w' _; go_simp; (try with_reducible rfl)
              (try simp only [Act.put, List.setIfInBounds_toArray, List.set_cons_zero, List.set_cons_succ])
              refine wpAnyH_done (by kernel_rfl) ?_ _
              all_goals go_wp2_with fail
              all_goals go_meet
              all_goals first
                | exact ⟨true, true, a + 1, rfl, by omega, HTT.out.count, fun h => absurd h (by omega), fun _ => Or.inl rfl, fun h => by cases h⟩
                | exact ⟨true, true, a + 1, rfl, by omega, HTT.out.drew.count, fun h => absurd h (by omega), fun _ => Or.inl rfl, fun h => by cases h⟩
                | exact ⟨true, true, a + 1, rfl, by omega, HTT.out.count.drew, fun h => absurd h (by omega), fun _ => Or.inl rfl, fun h => by cases h⟩
          · have d3 : decide ((n : Int) < 100) = false := by simp; omega
            clear HT
            go_quiet (fail)
            go_wp2_with fail
            go_meet
            exact ⟨(y.last != y.r.seq), false, a, rfl, by omega, HTT.out.drewN _, fun _ => rfl, fun h => Or.inr (by simpa using h), fun h => by simpa using h⟩
        case rest =>
          clear t1 t2 t3 HT
          obtain ⟨c, b1, a', rfl, ha', HT, hb1, hcc1, hcc2⟩ := hcut
          obtain ⟨q0, q1, q2, q3, q4, q5, hb14⟩ := HT.b14
          have t1 := HT.ord.link.box.cell
          have t2 := HT.ord.link.box.free
          have t3 := HT.ord.link.box.lt
          simp only [L.arr] at t1
          have HB1 := hide hb1
          have HC1 := hide hcc1
          have HC2 := hide hcc2
          have hg14' := HT.lo
          clear hb1 hcc1 hcc2
          go_upto_if 110 with fail
          go_cut [15, 16] from 111 to 132 (fun lv ev wx => ∃ (X : Res) (A2 V2 : Option Addr) (c2 k2 : Nat), lv = .slice V2 X.l.length k2 ∧ ev = .int .u8 X.e ∧ Got w.heap.size g14 w wx y A cap v want u6 a' AL capL bs n X A2 V2 c2)
          case first =>
            cases c
            · obtain ⟨X, hX⟩ : ∃ X, ack y.r y.last = X := ⟨_, rfl⟩
              obtain ⟨i1, i2, i3⟩ := inv2_ack HII.out hcd HFIN.out hlt (HC2.out rfl)
              have hXl := (ack_len y.r y.last).2
              rw [hX] at i1 i2 i3 hXl
              have HX := hide hX
              have HI3 := hide i3
              have HTT := hide HT
              clear hX i3
              go_upto_region 25 with fail
              go_region_law ((go_simp; go_at_call 27; go_must (refine (ack_any y.r A cap _ _ (by first | exact HTT.out.ord.link.q | exact HTT.out.ord.drew.link.q) (by omega) HTT.out.ord.link.qcap hwt).mono ?_; rw [HX.out]; rintro e w1 ⟨A2, c2, v2, rfl, hbb, hR2, hc2, ho2, hn2⟩; obtain ⟨V2, k2, rfl, -, -⟩ := own_slice ho2; have HG := hide (by first | exact got_of HTT.out i1 i2 HI3.out hXl hbb hR2 hc2 ho2 hn2 | exact got_of HTT.out.drew i1 i2 HI3.out hXl hbb hR2 hc2 ho2 hn2 : Got _ _ _ _ _ _ _ _ _ _ _ _ _ _ _ _ _ _ _); have B1 : Box w1 g14 #[q0, q1, q2, q3, q4, q5] := (by first | exact hb14.past hbb | exact hb14.drew.past hbb); have s1 := B1.cell; have s2 := B1.free; have s3 := B1.lt; clear hn2 ho2 hR2 hbb B1)))
              all_goals (go_wp2_with fail; go_meet)
              all_goals exact ⟨X, A2, V2, c2, k2, rfl, by rw [i1], HG.out⟩
            · obtain ⟨X, hX⟩ : ∃ X, fire y.r 1 = X := ⟨_, rfl⟩
              obtain ⟨i1, i2, i3⟩ := inv2_fire HII.out hcd HFIN.out hlt b1 HB1.out (HC1.out rfl)
              have hXl := (fire_len y.r 1).2
              rw [hX] at i1 i2 i3 hXl
              have HX := hide hX
              have HI3 := hide i3
              clear hX i3
              go_wp2_with fail
              refine (fire_any y.r A cap _ _ HT.ord.link.q (by omega) HT.ord.link.qcap hwt).mono ?_
              rw [HX.out]
              rintro e w1 ⟨A2, c2, v2, rfl, hbb, hR2, hc2, ho2, hn2⟩
              obtain ⟨V2, k2, rfl, -, -⟩ := own_slice ho2
              have HG := hide (got_of HT i1 i2 HI3.out hXl hbb hR2 hc2 ho2 hn2)
              have B1 := hb14.past hbb
              have s1 := B1.cell
              have s2 := B1.free
              have s3 := B1.lt
              clear t1 t2 t3 hn2 ho2 hR2 hbb B1 HT hb14
              go_wp2_with fail
              go_meet
              exact ⟨X, A2, V2, c2, k2, rfl, by rw [i1], HG.out⟩
          case rest =>
            obtain ⟨X, A2, V2, c2, k2, rfl, rfl, G⟩ := hcut
            clear t1 t2 t3 HT hb14
            have hxe := G.e0
            have hxm := G.may
            obtain ⟨hwx, hqx⟩ := wait_bd hxm
            have s1 := G.box.cell
            have s2 := G.box.free
            have s3 := G.box.lt
            go_wp2_with fail
            refine (may_any X.r A2 c2 _ G.q (by omega) G.qcap hwx).mono ?_
            rw [hxm]
            rintro e w3 ⟨rfl, cs, rfl⟩
            have t1 := G.two.ord.link.box.cell
            have t2 := G.two.ord.link.box.free
            have t3 := G.two.ord.link.box.lt
            simp only [L.arr] at t1
            go_upto_region 28 with fail
            go_cut [] from 140 to 143 (fun wx => Two w.heap.size g14 w wx { y with r := X.r } A2 c2 v want u6 a' AL capL bs ∧ Rd wx wx.heap.size 5 V2 X.l.length (X.l.flatMap O.cs))
            case first =>
              have HG := hide (And.intro ((G.two.setr G.q G.qcap G.qfar).alloc (.cells cs 61)) (rd_allocs (rd_lay (g := w.heap.size + 1) G.outs (fun _ b o e => by have := (G.ofar b o e).1; omega) (.int .i64 X.r.seq) (.int .i64 X.r.code) (.int .i64 X.r.wait) (.slice A2 X.r.q.length c2) (.bool X.r.fin) (.bool X.r.failed)) (.cells cs 61)))
              clear G
              go_wp2_with fail
              go_meet
              exact HG.out
            case rest =>
              obtain ⟨T4, Q4⟩ := hcut
              have GI := hide G.inv
              have GF := hide G.ofar
              have hlen := G.len
              have hgl := T4.lo
              clear G t1 t2 t3 s1 s2 s3 hxe hxm hwx hqx
              go_upto_region 29 with fail
              go_cut [] from 144 to 152 (fun wx => ∃ (b2 : Bool) (a2 : Nat) (v3 : Value), a2 ≤ a' + 1 ∧ (100 ≤ n → b2 = false) ∧ Two w.heap.size g14 w wx (L.dlv b2 { y with r := X.r } X.l) A2 c2 v3 want u6 a2 AL capL bs)
              case first =>
                by_cases h100 : n < 100
                · have d3 : decide ((n : Int) < 100) = true := by simp; omega
                  have HQ4 := hide Q4
                  have HT4 := hide T4
                  clear Q4 T4
                  go_wp2_with fail
                  obtain ⟨b2, hb2⟩ : ∃ b2, lostB bs a' = b2 := ⟨_, rfl⟩
                  refine (lost_here HT4.out.ord rfl hL (by omega) hb2).mono ?_
                  clear hb2
                  rintro e w5 ⟨rfl, rfl⟩
                  have T5 := hide HT4.out.count
                  have Q5 := rd_sets (i := 0) HQ4.out (fun _ b o e => by have := (GF.out b o e).1; omega : 0 < X.l.length → ∀ b o, V2 = some ⟨b, o, none⟩ → b ≠ w.heap.size + 1 + 1) (.int .i64 ((a' : Int) + 1))
                  go_wp2_with fail
                  refine (deliver_any (w.heap.size + 1) w.heap.size c2 k2 { y with r := X.r } A2 V2 v X.l b2 _ (T5.out.ord.link.lower (by omega)) Q5 (fun _ b o e => ⟨by have := (GF.out b o e).1; omega, (GF.out b o e).2.1⟩) ⟨by simp only; omega, hlen⟩ (by have := T5.out.ord.lo; omega) (by omega)).mono ?_
                  rintro e w6 ⟨rfl, v3, hL6, hN6⟩
                  have T6 := hide (T5.out.near hL6 hN6 (dlv_acc _ _ _).2)
                  clear hL6 hN6 Q5
                  go_wp2_with fail
                  go_meet
                  exact ⟨b2, a' + 1, v3, by omega, fun h => absurd h (by omega), T6.out⟩
                · have d3 : decide ((n : Int) < 100) = false := by simp; omega
                  have HT4 := hide T4
                  clear T4
                  go_wp2_with fail
                  refine (deliver_any (w.heap.size + 1) w.heap.size c2 k2 { y with r := X.r } A2 V2 v X.l false _ (HT4.out.ord.link.lower (by omega)) Q4 (fun _ b o e => ⟨by have := (GF.out b o e).1; omega, (GF.out b o e).2.1⟩) ⟨by simp only; omega, hlen⟩ (by have := HT4.out.ord.lo; omega) (by omega)).mono ?_
                  rintro e w6 ⟨rfl, v3, hL6, hN6⟩
                  have T6 := hide (HT4.out.near hL6 hN6 (dlv_acc _ _ _).2)
                  clear hL6 hN6 Q4
                  go_wp2_with fail
                  go_meet
                  exact ⟨false, a', v3, by omega, fun _ => rfl, T6.out⟩
              case rest =>
                obtain ⟨b2, a2, v3, ha2, hb2, T⟩ := hcut
                have HI2 := GI.out b2 hb2
                clear GI GF hlen hb2 HII HFIN
                generalize L.dlv b2 { y with r := X.r } X.l = z at *
                obtain ⟨he, hf⟩ := inv2_early HI2
                have T7 := hide (T.setf 9 (.bool false) z (by omega) (by simp [L.arr, he]) rfl rfl)
                have HI3 := hide HI2
                have HE := he
                have t1 := T.ord.link.box.cell
                have t2 := T.ord.link.box.free
                have t3 := T.ord.link.box.lt
                simp only [L.arr] at t1
                obtain ⟨Aw, cw, hw6, -, -⟩ := own_slice T.ord.want
                obtain ⟨Av, cv, hv3, -, -⟩ := own_slice T.ord.link.own
                have HW6 := hide hw6
                have HV3 := hide hv3
                rw [hv3] at t1
                clear hw6 hv3 T HI2
                by_cases hz : z.fin = 0
                · have d5 : (z.fin != 0) = false := by simp [hz]
                  have HZ := hide hz
                  clear hz hf
                  go_wp2_with fail
                  go_roundw
                  case rel => exact ⟨n + 1, z, A2, c2, v3, a2, by omega, by go_num, by omega, T7.out, HI3.out⟩
                  case measure => simp [intOf]; omega
                · have d5 : (z.fin != 0) = true := by simp [hz]
                  have d6 : decide ((z.acc.length : Int) < (want.length : Int)) = false := by rw [hf hz]; simp
                  have d7 : decide (z.acc.length < want.length) = false := by rw [hf hz]; simp
                  clear hz hf
                  rw [HW6.out]
                  go_wp2_with fail
                  rw [← HW6.out]
                  go_roundw
                  case rel => exact ⟨n + 1, z, A2, c2, v3, a2, by omega, by go_num, by omega, T7.out, HI3.out⟩
                  case measure => simp [intOf]; omega
      · have hD := inv2_end HI (by
          by_cases h : y.fin = 0
          · left
            have : ¬ n < 200 := fun e => hgo ⟨e, h⟩
            omega
          · exact Or.inr h)
        obtain ⟨e1, e2, e3, e4, -⟩ := hD
        obtain ⟨Aw, cw, hw6, -, hRw⟩ := own_slice HT.ord.want
        obtain ⟨Av, cv, hv3, -, hRv⟩ := own_slice HT.ord.link.own
        rw [hv3] at t1
        rw [e4] at hRv t1
        have hbel := HT.ord.bel
        have hwl : want.length ≤ 14 := hcd.1
        have hwl' : (want.length : Int) ≤ 14 := by omega
        clear HI HT hgo hacc hmay hwt hq16 hv3
        rw [hw6]
        have HW6 := hide hw6
        clear hw6
        have d0 : (y.fin == 0) = false := by rw [e1]; rfl
        rcases Nat.lt_or_ge n 200 with h200 | h200
        · have d1 : decide ((n : Int) < 200) = true := by simp; omega
          go_wp2_with fail
          go_loopw [18] (fun i wx => ∃ j : Nat, j ≤ want.length ∧ i = .int .i64 j ∧ ∃ m, wx = wr.drewN m) (fun i _ => want.length - (intOf i).toNat)
          case atStart => exact ⟨0, by omega, rfl, 0, rfl⟩
          case round =>
            obtain ⟨j, hj, rfl, m, rfl⟩ := hrel
            have hj' : (j : Int) ≤ 14 := by omega
            by_cases hjl : j < want.length
            · obtain ⟨b1, o1, rfl, hb1, c1⟩ := Rd.intAt hRw hjl
              obtain ⟨b2, o2, rfl, hb2, c2⟩ := Rd.intAt hRv hjl
              go_wp2_with fail
              go_quiet (fail)
              go_wp2_with fail
              go_roundw
              case rel => exact ⟨j + 1, by omega, by go_num, _, rfl⟩
              case measure => simp [intOf]; omega
            · go_wp2_with fail
              refine (works_any _).mono ?_
              rintro e w4 ⟨rfl, hb4⟩
              go_wp2_with fail
              go_ret
              exact ⟨rfl, (below_drewN' hbel m).trans (hb4.mono hbel.size)⟩
        · have d1 : decide ((n : Int) < 200) = false := by simp; omega
          go_wp2_with fail
          go_loopw [18] (fun i wx => ∃ j : Nat, j ≤ want.length ∧ i = .int .i64 j ∧ ∃ m, wx = wr.drewN m) (fun i _ => want.length - (intOf i).toNat)
          case atStart => exact ⟨0, by omega, rfl, 0, rfl⟩
          case round =>
            obtain ⟨j, hj, rfl, m, rfl⟩ := hrel
            have hj' : (j : Int) ≤ 14 := by omega
            by_cases hjl : j < want.length
            · obtain ⟨b1, o1, rfl, hb1, c1⟩ := Rd.intAt hRw hjl
              obtain ⟨b2, o2, rfl, hb2, c2⟩ := Rd.intAt hRv hjl
              go_wp2_with fail
              go_quiet (fail)
              go_wp2_with fail
              go_roundw
              case rel => exact ⟨j + 1, by omega, by go_num, _, rfl⟩
              case measure => simp [intOf]; omega
            · go_wp2_with fail
              refine (works_any _).mono ?_
              rintro e w4 ⟨rfl, hb4⟩
              go_wp2_with fail
              go_ret
              exact ⟨rfl, (below_drewN' hbel m).trans (hb4.mono hbel.size)⟩
end Go.Proofs.Ytdllehgiambkcaa.Pv
