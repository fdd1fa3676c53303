/- What the transaction machine of chapter 14 does, as plain functions. No program in sight. -/
import Derived.Test.YtdllehgiambkcaaKit
namespace Go.Proofs.Ytdllehgiambkcaa.Sv
open Go.RowKit

structure M where
  st : Int
  wait : Int
  code : Int
structure O where
  kind : Int
  code : Int
  timer : Int
  after : Int
  deriving DecidableEq

def M.v (m : M) : Value := .agg #[.int .u8 m.st, .int .i64 m.wait, .int .i64 m.code]
def M.cs (m : M) : Array Value := #[.int .u8 m.st, .int .i64 m.wait, .int .i64 m.code]
def O.cs (o : O) : List Value := [.int .u8 o.kind, .int .i64 o.code, .int .u8 o.timer, .int .i64 o.after]
theorem O.cs_len (o : O) : o.cs.length = 4 := rfl

def cls (n : Int) : Int := if n < 100 ∨ 699 < n then 0 else if n < 200 then 1 else if n < 300 then 2 else 3

def short (x : Int) : Bool := x == 500 || x == 1000 || x == 2000 || x == 4000
def may (m : M) : Bool :=
  if m.st = 5 then short m.wait && cls m.code == 3
  else m.wait == 0 && (if m.st = 3 then cls m.code == 1 else if m.st = 4 then cls m.code == 2 else if m.st = 6 then cls m.code == 3 else if m.st = 7 then cls m.code != 0 else false)

def sendO (c : Int) : O := ⟨1, c, 0, 0⟩
def timerO (t a : Int) : O := ⟨4, 0, t, a⟩
def endO : O := ⟨7, 0, 0, 0⟩

def answer (m : M) (code : Int) : M × List O :=
  if m.st = 4 ∧ cls code = 2 then (⟨4, 0, code⟩, [sendO code])
  else if m.st ≠ 3 ∨ code = 100 then (m, [])
  else if cls code = 1 then (⟨3, 0, code⟩, [sendO code])
  else if cls code = 2 then (⟨4, 0, code⟩, [sendO code, timerO 12 32000])
  else if cls code = 3 then (⟨5, 500, code⟩, [sendO code, timerO 7 500, timerO 8 32000])
  else (m, [])

def over (m : M) (l : List O) : M × List O := (⟨7, 0, m.code⟩, l ++ [endO])

def fired (m : M) (t : Int) : M × List O :=
  if m.st = 4 ∧ t = 12 then over m []
  else if m.st = 6 ∧ t = 9 then over m []
  else if m.st = 5 ∧ t = 7 then (⟨5, min (2 * m.wait) 4000, m.code⟩, [sendO m.code, timerO 7 (min (2 * m.wait) 4000)])
  else if m.st = 5 ∧ t = 8 then over m [⟨5, 0, 0, 0⟩]
  else (m, [])

def step (m : M) (kind code t : Int) : M × List O :=
  if may m = false then (⟨0, 0, 0⟩, [])
  else if kind = 4 then answer m code
  else if kind = 5 then fired m t
  else if kind = 1 ∧ (m.st = 3 ∨ m.st = 5) then (m, [sendO m.code])
  else if kind = 6 ∧ (m.st = 3 ∨ m.st = 5) then over m [⟨6, 0, 0, 0⟩]
  else if kind = 3 ∧ m.st = 5 then (⟨6, 0, m.code⟩, [timerO 9 5000])
  else (m, [])

def start : M × List O := (⟨3, 0, 100⟩, [⟨3, 0, 0, 0⟩, sendO 100])
end Go.Proofs.Ytdllehgiambkcaa.Sv
