/- What the sender of chapter 18 does, as plain functions. No program in sight. -/
import Derived.Test.YtdllehgiambkcaaKit2
namespace Go.Proofs.Ytdllehgiambkcaa.Pv
open Go.RowKit

structure R where
  seq : Int
  code : Int
  wait : Int
  q : List Int
  fin : Bool
  failed : Bool
  deriving DecidableEq
structure O where
  kind : Int
  code : Int
  seq : Int
  timer : Int
  after : Int
  deriving DecidableEq
def O.cs (o : O) : List Value := [.int .u8 o.kind, .int .i64 o.code, .int .i64 o.seq, .int .i64 o.timer, .int .i64 o.after]
theorem O.cs_len (o : O) : o.cs.length = 5 := rfl
def ints (q : List Int) : List Value := q.map (Value.int .i64)
def R.zero : R := ⟨0, 0, 0, [], false, false⟩

def inB (n lo hi : Int) : Bool := decide (lo ≤ n) && decide (n ≤ hi)
def pow (x : Int) : Bool := x == 500 || x == 1000 || x == 2000 || x == 4000 || x == 8000 || x == 16000 || x == 32000

/-- The rest of May, for the codes p that must be provisional. -/
def mayTail (r : R) (p : List Int) : Bool :=
  p.all (fun c => inB c 101 199) && inB r.seq 0 (2147483647 - p.length) && decide (r.q.length ≤ 16) && (!r.failed || (r.code == 0 && r.fin))
    && (if r.code = 0 then r.wait == 0 && decide (r.q.length = 0) else inB r.code 101 199 && decide (0 < r.seq) && pow r.wait)
def may (r : R) : Bool :=
  if r.fin = true ∧ r.q.length ≠ 0 then inB (r.q.getLastD 0) 200 299 && mayTail r r.q.dropLast else mayTail r r.q

def sendO (c s : Int) : O := ⟨1, c, s, 0, 0⟩
def finalO (c : Int) : O := ⟨2, c, 0, 0, 0⟩
def timerO (n a : Int) : O := ⟨3, 0, 0, n, a⟩
def failO : O := ⟨4, 0, 0, 0, 0⟩

def next (r : R) : R × List O :=
  if r.code ≠ 0 then (r, []) else
  match r.q with
  | [] => (r, [])
  | c :: q => if inB c 101 199 = true then (⟨r.seq + 1, c, 500, q, r.fin, r.failed⟩, [sendO c (r.seq + 1), timerO 1 500, timerO 2 32000]) else ({ r with q := q }, [finalO c])

structure Res where
  r : R
  l : List O
  e : Int

def offer (r : R) (code : Int) : Res :=
  if may r = false ∨ inB code 101 699 = false then ⟨.zero, [], 2⟩
  else if r.fin = true then ⟨.zero, [], 9⟩
  else if code < 300 ∧ (r.q.length = 16 ∨ inB code 101 199 = true ∧ 2147483647 ≤ r.seq + r.q.length) then ⟨.zero, [], 10⟩
  else if 300 ≤ code then ⟨⟨r.seq, 0, 0, [], true, r.failed⟩, [finalO code], 0⟩
  else ⟨(next { r with fin := decide (200 ≤ code), q := r.q ++ [code] }).1, (next { r with fin := decide (200 ≤ code), q := r.q ++ [code] }).2, 0⟩

def ack (r : R) (seq : Int) : Res :=
  if may r = false then ⟨.zero, [], 2⟩
  else if r.code = 0 ∨ seq ≠ r.seq then ⟨.zero, [], 8⟩
  else ⟨(next { r with code := 0, wait := 0 }).1, (next { r with code := 0, wait := 0 }).2, 0⟩

def fire (r : R) (t : Int) : Res :=
  if may r = false ∨ (t ≠ 1 ∧ t ≠ 2) then ⟨.zero, [], 2⟩
  else if r.code = 0 then ⟨r, [], 0⟩
  else if t = 1 then ⟨{ r with wait := min (2 * r.wait) 32000 }, [sendO r.code r.seq, timerO 1 (min (2 * r.wait) 32000)], 0⟩
  else ⟨⟨r.seq, 0, 0, [], true, true⟩, [failO], 0⟩

def accept (last seq : Int) : Int × Bool :=
  if 1 ≤ seq ∧ seq ≤ 2147483647 ∧ (last ≤ 0 ∨ seq - 1 = last) then (seq, true) else (last, false)
end Go.Proofs.Ytdllehgiambkcaa.Pv
