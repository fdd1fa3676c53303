/- The law's closure 'lost' of ProvisionalOrder. -/
import Derived.Test.YtdllehgiambkcaaPvSen
import Derived.Test.YtdllehgiambkcaaPvOrdLaw
namespace Go.Proofs.Ytdllehgiambkcaa.Pv
open Go.RowKit

def bools (l : List Bool) : List Value := l.map Value.bool
theorem Rd_boolAt {w : World} {B n : Nat} {A : Option Addr} {q : List Bool} (h : Rd w B 1 A n (bools q)) {k : Nat} (hk : k < q.length) : ∃ b o, A = some ⟨b, o, none⟩ ∧ b < B ∧ w.cell? ⟨b, o + k, none⟩ = some (.bool q[k]) := by
  have hl : (bools q).length = n * 1 := h.1
  have hl' : (bools q).length = q.length := List.length_map ..
  obtain ⟨b, o, e, hb, hc⟩ := h.one (k := k) (by omega)
  exact ⟨b, o, e, hb, by rw [hc]; simp [bools, hk]⟩

/-- What the closure answers. -/
def lostB (bs : List Bool) (a : Nat) : Bool := bs[a]?.getD false
def Lost (w : World) (gA : Nat) (a : Nat) (b : Bool) (e : Ending) (w' : World) : Prop := e = .returned (.bool b) ∧ w' = w.setCell ⟨gA, 0, none⟩ (.int .i64 ((a : Int) + 1))

set_option maxRecDepth 10000 in
set_option maxHeartbeats 2000000 in
theorem lost_any (gA gL a cap : Nat) (A : Option Addr) (bs : List Bool) (w : World) (hA : Box w gA #[.int .i64 (a : Int)]) (hL : Box w gL #[.slice A bs.length cap]) (hR : Rd w w.heap.size 1 A bs.length (bools bs)) (hne : gA ≠ gL) (hq : 0 < bs.length → ∀ b o, A = some ⟨b, o, none⟩ → gA ≠ b) (ha : a ≤ 100000) :
    Calls Try.prog 30 #[.pointer (some ⟨gA, 0, none⟩), .pointer (some ⟨gL, 0, none⟩)] w (Lost w gA a (lostB bs a)) := by
  have t1 := hA.cell 0
  have t2 := hA.free
  have t3 := hL.cell 0
  have t4 := hA.lt
  simp at t1 t3
  have n1 : gL ≠ gA := Ne.symm hne
  have ha' : (a : Int) ≤ 100000 := by omega
  by_cases hlt : a < bs.length
  · obtain ⟨b, o, rfl, hb, hcell⟩ := Rd_boolAt hR hlt
    have n2 := hq (by omega) b o rfl
    have HB : Hid (lostB bs a = bs[a]) := hide (by simp [lostB, hlt])
    have n3 : b ≠ gA := Ne.symm n2
    have d1 : decide ((a : Int) + 1 ≤ (bs.length : Int)) = true := by simp; omega
    have hi : (a : Int) < (bs.length : Int) := by omega
    go_enter Try.func30, Try.ntmps30
    go_wp2_with fail
    go_ret
    exact ⟨ret_bool HB.out.symm, rfl⟩
  · have d1 : decide ((a : Int) + 1 ≤ (bs.length : Int)) = false := by simp; omega
    have HB : Hid (lostB bs a = false) := hide (by simp [lostB, List.getElem?_eq_none (show bs.length ≤ a by omega)])
    go_enter Try.func30, Try.ntmps30
    go_wp2_with fail
    go_ret
    exact ⟨ret_bool HB.out.symm, rfl⟩
end Go.Proofs.Ytdllehgiambkcaa.Pv
