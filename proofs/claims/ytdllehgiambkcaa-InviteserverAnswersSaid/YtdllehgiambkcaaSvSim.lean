/- The simulation of chapter 14 as plain functions. No program in sight. -/
import Derived.Test.YtdllehgiambkcaaSvSpec
import Derived.Test.YtdllehgiambkcaaKit2
namespace Go.Proofs.Ytdllehgiambkcaa.Sv
open Go.RowKit

/-- An output with its time. -/
structure E where
  at_ : Int
  out : O
  deriving DecidableEq
def E.cs (e : E) : List Value := .int .i64 e.at_ :: e.out.cs
theorem E.cs_len (e : E) : e.cs.length = 5 := rfl

structure Sim where
  m : M
  due : List Int
  now : Int
  log : List E

/-- One output is taken over. -/
def take1 (S : Sim) (o : O) : Sim :=
  { S with log := S.log ++ [⟨S.now, o⟩], due := if o.kind = 4 ∧ o.timer < 14 then S.due.set o.timer.toNat (S.now + max 1 o.after) else S.due }
def takeAll (S : Sim) (l : List O) : Sim := l.foldl take1 S
def take (S : Sim) (m : M) (l : List O) : Sim := takeAll { S with m := m } l
def give (S : Sim) (k c t : Int) : Sim := take S (step S.m k c t).1 (step S.m k c t).2

/-- The first of the timers that are due earliest, up to t. -/
def pickStep (due : List Int) (t : Int) (first : Int) (i : Nat) : Int :=
  if 0 ≤ due.getD i 0 ∧ due.getD i 0 ≤ t ∧ (first < 0 ∨ due.getD i 0 < due.getD first.toNat 0) then i else first
def pickTo (due : List Int) (t : Int) (n : Nat) : Int := (List.range n).foldl (pickStep due t) (-1)
def fire (S : Sim) (i : Nat) : Sim := give { S with now := S.due.getD i 0, due := S.due.set i (-1) } 5 0 i
def untilGo : Nat → Sim → Int → Sim
  | 0, S, _ => S
  | n + 1, S, t => if pickTo S.due t 14 < 0 then S else untilGo n (fire S (pickTo S.due t 14).toNat) t
def untilT (S : Sim) (t : Int) : Sim := { untilGo 200 S t with now := max (untilGo 200 S t).now t }
end Go.Proofs.Ytdllehgiambkcaa.Sv
