/- The walk of play, and what is known of the simulation behind it. -/
import Derived.Test.YtdllehgiambkcaaSvUntilLaw
namespace Go.Proofs.Ytdllehgiambkcaa.Sv
open Go.RowKit

structure Ev where
  wait : Int
  kind : Int
  code : Int
def Ev.cs (e : Ev) : List Value := [.int .u16 e.wait, .int .u8 e.kind, .int .i64 e.code]
def Ev.ok (e : Ev) : Prop := 0 ≤ e.wait ∧ e.wait < 65536

def playStep (S : Sim) (e : Ev) : Sim := give (untilT S (S.now + e.wait)) e.kind e.code 0
def playT (l : List Ev) : Sim := l.foldl playStep simStart

theorem cellsEv {w : World} {B : Nat} {A : Option Addr} {l : List Ev} (h : Rd w B 3 A l.length (l.flatMap Ev.cs)) {k : Nat} (hk : k < l.length) :
    ∃ b o, A = some ⟨b, o, none⟩ ∧ b < B ∧ w.cell? ⟨b, o + k * 3, none⟩ = some (.int .u16 l[k].wait) ∧ w.cell? ⟨b, o + k * 3 + 1, none⟩ = some (.int .u8 l[k].kind) ∧ w.cell? ⟨b, o + k * 3 + 2, none⟩ = some (.int .i64 l[k].code) := by
  obtain ⟨b, o, e, hb, hc⟩ := h.at hk
  have hf := fun j hj => flat_get Ev.cs 3 (fun _ => rfl) l k j hk hj
  exact ⟨b, o, e, hb, hc 0 _ (by rw [hf 0 (by omega)]; rfl), hc 1 _ (by rw [hf 1 (by omega)]; rfl), hc 2 _ (by rw [hf 2 (by omega)]; rfl)⟩

theorem Pend.mono {S : Sim} {a b : Int} (h : Pend S a) (hab : a ≤ b) : Pend S b :=
  ⟨fun e => by have := h.acc e; omega, fun e => by have := h.rej e; omega, fun e => by have := h.con e; omega⟩

theorem give_len (S : Sim) (k c t : Int) : (give S k c t).log.length ≤ S.log.length + 3 := by
  rw [give_log, List.length_append]
  have := (step_ok S.m k c t).1
  simp [logged]
  omega
theorem go_len (T : Int) : ∀ (n : Nat) (S : Sim), (untilGo n S T).log.length ≤ S.log.length + 3 * n
  | 0, S => by simp [untilGo]
  | n + 1, S => by
    unfold untilGo
    split
    · omega
    · have h1 := go_len T n (fire S (pickTo S.due T 14).toNat)
      have h2 : (fire S (pickTo S.due T 14).toNat).log.length ≤ S.log.length + 3 := give_len _ _ _ _
      omega
theorem until_len (S : Sim) (T : Int) : (untilT S T).log.length ≤ S.log.length + 600 := go_len T 200 S

/-- What is known after k events. -/
structure PK (S : Sim) (k : Nat) : Prop where
  j : J S
  pend : Pend S S.now
  now : S.now ≤ 65536 * k
  len : S.log.length ≤ 2 + 603 * k

theorem pk_start : PK simStart 0 := by
  have h1 : simStart.m.st = 3 ∧ simStart.m.wait = 0 ∧ simStart.m.code = 100 := by decide +kernel
  have hl : simStart.log = [⟨0, ⟨3, 0, 0, 0⟩⟩, ⟨0, ⟨1, 100, 0, 0⟩⟩] := by decide +kernel
  have hd : simStart.due = List.replicate 14 (-1) := by decide +kernel
  have hn : simStart.now = 0 := by decide +kernel
  obtain ⟨a, b, c⟩ := h1
  refine ⟨⟨by rw [hd]; rfl, ?_, ?_, ?_, ?_, by omega⟩, ⟨fun e => by omega, fun e => by omega, fun e => by omega⟩, by omega, by rw [hl]; simp⟩
  · exact cls_may (s := simStart.m.st) (x := simStart.m.wait) (c := simStart.m.code) (by omega)
  · rw [hl, hn]; simp
  · intro i hi
    rw [hd]
    left
    rw [List.getD_eq_getElem?_getD, List.getElem?_replicate, if_pos hi]
    decide
  · rw [a, hl]
    unfold Sum kc rejC finC iC
    simp

theorem until_pk {S : Sim} {k : Nat} (h : PK S k) {x : Int} (hx : 0 ≤ x ∧ x < 65536) : Done S (untilT S (S.now + x)) (S.now + x) ∧ (untilT S (S.now + x)).now = S.now + x ∧ Pend (untilT S (S.now + x)) (S.now + x) := by
  obtain ⟨d, e⟩ := until_done (T := S.now + x) h.j (by omega)
  exact ⟨d, by omega, (d.pend _ (h.pend.mono (by omega)))⟩

theorem play_pk {S : Sim} {k : Nat} (h : PK S k) {e : Ev} (he : e.ok) : PK (playStep S e) (k + 1) := by
  obtain ⟨d, hn, hp⟩ := until_pk h he
  have hnow := h.now
  obtain ⟨e1, e2⟩ := he
  have hg : (playStep S e).now = S.now + e.wait := by unfold playStep; rw [give_now, hn]
  have hlen := h.len
  have hl1 : (playStep S e).log.length ≤ _ := give_len (untilT S (S.now + e.wait)) e.kind e.code 0
  have hl2 := until_len S (S.now + e.wait)
  refine ⟨give_j d.j _ _ _, ?_, by rw [hg]; omega, by omega⟩
  rw [hg]
  exact give_pend d.j hp (by omega) _ _ _ (Or.inr rfl)

theorem playT_snoc (l : List Ev) (k : Nat) (hk : k < l.length) : playT (l.take (k + 1)) = playStep (playT (l.take k)) l[k] := by
  unfold playT
  rw [List.take_succ_eq_append_getElem hk, List.foldl_append]
  rfl
end Go.Proofs.Ytdllehgiambkcaa.Sv
