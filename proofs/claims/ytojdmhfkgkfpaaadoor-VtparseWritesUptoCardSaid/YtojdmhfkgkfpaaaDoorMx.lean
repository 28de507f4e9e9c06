/- Layer 05: the state machine of both sides, in plain words. -/
import Derived.Test.YtojdmhfkgkfpaaaDoorLo
set_option linter.unusedVariables false
set_option linter.unusedSimpArgs false
set_option maxRecDepth 100000
namespace Go.Proofs.YtojdmhfkgkfpaaaDoor
open Go.AM Go.LTxt Go.LMem Go.RowKit
def limB : Nat := 100000000
def e0 : ByteArray := ⟨#[]⟩
def putT (t : ByteArray) (b : Int) : ByteArray := if (t.size : Int) < 1024 then t ++ strD [.int b] else t
def gat (t : ByteArray) (b : Int) : ByteArray := if (t.size : Int) < 2 then t ++ Utf8.encode b else t
def nxP (ps : List Dat) (m : Int) : List Dat := if m = 0 then [.int (-1), .int (-1)] else if m + 1 ≤ 16 then ps ++ [.int (-1)] else ps
def nxM (m : Int) : Int := if m = 0 then 2 else if m ≤ 16 then m + 1 else m
def capV (n : Int) : Int := min n 65535
def dg (n b : Int) : Dat := .int (capV (max n 0 * 10 + (b - 48)))
def dgP (ps : List Dat) (m b : Int) : List Dat := if m = 0 then [dg (-1) b] else if m ≤ 16 then ps.set (m - 1).toNat (dg (ps.getD (m - 1).toNat default).toInt b) else ps
def dgM (m : Int) : Int := if m = 0 then 1 else m
structure X where
  st : Int
  held : List UInt8
  priv : Int
  params : List Dat
  many : Int
  inter : ByteArray
  text : ByteArray
  fin : Int
def X0 : X := ⟨0, [], 0, [], 0, e0, e0, 0⟩
def exec (b : Int) : Dat := act 2 0 b 0 [] e0 e0
def step (x : X) (b : Int) : X × List Dat :=
  if x.st = 0 then
    if 128 ≤ b then ({ X0 with held := (putD (x.held ++ [UInt8.ofNat b.toNat])).2 }, prD (iD (putD (x.held ++ [UInt8.ofNat b.toNat])).1))
    else if b = 24 then (X0, prD (rD x.held) ++ [exec b])
    else if b = 26 then (X0, prD (rD x.held) ++ [exec b])
    else if b = 27 then ({ X0 with st := 1 }, prD (rD x.held))
    else if b < 32 then (X0, prD (rD x.held) ++ [exec b])
    else if b = 127 then (X0, prD (rD x.held)) else (X0, prD (rD x.held) ++ [act 1 b 0 0 [] e0 e0])
  else if b = 24 then (X0, [exec b])
  else if b = 26 then (X0, [exec b])
  else if b = 27 then ({ X0 with st := 1 }, if x.st = 12 then [act 5 0 0 0 [] e0 x.text] else if x.st = 11 then [act 6 0 x.fin x.priv x.params x.inter x.text] else [])
  else if x.st = 12 then
    if b = 7 then (X0, [act 5 0 0 0 [] e0 x.text]) else if 32 ≤ b then ({ x with text := putT x.text b }, []) else (x, [])
  else if x.st = 11 then if b = 127 then (x, []) else ({ x with text := putT x.text b }, [])
  else if x.st = 13 then (x, [])
  else if 128 ≤ b then (x, [])
  else if b < 32 then (x, if 7 ≤ x.st then [] else [exec b])
  else if b = 127 then (x, [])
  else if x.st = 1 then
    if b < 48 then ({ x with inter := gat x.inter b, st := 2 }, [])
    else if b = 91 then ({ x with st := 3 }, [])
    else if b = 93 then ({ x with st := 12 }, [])
    else if b = 80 then ({ x with st := 7 }, [])
    else if b = 88 then ({ X0 with st := 13 }, [])
    else if b = 94 then ({ X0 with st := 13 }, [])
    else if b = 95 then ({ X0 with st := 13 }, [])
    else if b = 92 then (X0, [])
    else (X0, [act 3 0 b 0 [] e0 e0])
  else if x.st = 2 then if b < 48 then ({ x with inter := gat x.inter b }, []) else (X0, [act 3 0 b 0 [] x.inter e0])
  else if 64 ≤ b then
    if x.st = 10 then ({ X0 with st := 13 }, [])
    else if 7 ≤ x.st then ({ x with fin := b, st := 11 }, [])
    else if x.st = 6 then (X0, [])
    else (X0, [act 4 0 b x.priv x.params x.inter e0])
  else if x.st = 6 then (x, [])
  else if x.st = 10 then (x, [])
  else
    if b < 48 then ({ x with inter := gat x.inter b, st := if 7 ≤ x.st then 9 else 5 }, [])
    else if x.st = 5 then ({ x with st := 6 }, [])
    else if x.st = 9 then ({ x with st := 10 }, [])
    else if b = 58 then ({ x with st := if 7 ≤ x.st then 10 else 6 }, [])
    else if 60 ≤ b then
      if x.st = 4 then ({ x with st := 6 }, [])
      else if x.st = 8 then ({ x with st := 10 }, [])
      else ({ x with priv := b, st := if 7 ≤ x.st then 8 else 4 }, [])
    else if b = 59 then ({ x with params := nxP x.params x.many, many := nxM x.many, st := if 7 ≤ x.st then 8 else 4 }, [])
    else ({ x with params := dgP x.params x.many b, many := dgM x.many, st := if 7 ≤ x.st then 8 else 4 }, [])
/-- what holds of the machine's states -/
structure Inv (x : X) : Prop where
  s0 : 0 ≤ x.st
  s1 : x.st ≤ 13
  m0 : 0 ≤ x.many
  m1 : x.many ≤ 17
  pl : (x.params.length : Int) = min x.many 16
  pr : ∀ d ∈ x.params, -1 ≤ d.toInt ∧ d.toInt ≤ 65535
  z1 : x.st = 1 ∨ x.st = 2 ∨ x.st = 12 → x.priv = 0 ∧ x.params = [] ∧ x.many = 0
  z2 : x.st = 1 ∨ x.st = 12 → x.inter = e0
  z3 : x.st ≠ 11 → x.st ≠ 12 → x.text = e0
  z4 : x.st ≠ 11 → x.fin = 0
  it : x.inter.size ≤ 2
  tx : x.text.size ≤ 1024
  hz : x.st ≠ 0 → x.held = []
end Go.Proofs.YtojdmhfkgkfpaaaDoor
