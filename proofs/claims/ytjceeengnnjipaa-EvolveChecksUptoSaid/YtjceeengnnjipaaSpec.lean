/- THE PLAIN LAW's WORDS: what the functions answer, in plain Lean. -/
import Derived.Test.YtjceeengnnjipaaTy
import Derived.Test.YtjceeengnnjipaaL13c
namespace Go.Proofs.Ytjceeengnnjipaa.PAll
open Go.RowKit Go.Proofs.Ytjceeengnnjipaa.Kit Go.Proofs.Ytjceeengnnjipaa.L13 Go.Proofs.YtjceeengnnjipaaW.PrintWords
set_option linter.unusedVariables false
abbrev Cl := S29
abbrev Fg := S62
abbrev Ex := S70
abbrev Vl := S31
/-- The index of the first column with a name, or -1. -/
def findFrom (nm : ByteArray) : Nat → List Cl → Int
  | _, [] => -1
  | i, c :: cs => if c.f0.toList = nm.toList then i else findFrom nm (i + 1) cs
def findIx (cols : List Cl) (nm : ByteArray) : Int := findFrom nm 0 cols
/-- The error of the columns: each in order, against those before it. -/
def kindOk (k : Int) : Bool := decide (1 ≤ k) && decide (k ≤ 3)
def colsFrom (all : List Cl) : Nat → List Cl → Int
  | _, [] => 0
  | i, c :: cs => if nameOk c.f0 = false then 1 else if kindOk c.f1 = false then 7 else if (all.take i).any (fun x => x.f0.toList == c.f0.toList) then 10 else colsFrom all (i + 1) cs
def colsErr (cols : List Cl) : Int := if cols.length < 1 ∨ 12 < cols.length then 13 else colsFrom cols 0 cols
/-- The error of one foreign key's columns. -/
def fcolsFrom (n : Nat) (all : List Int) : Nat → List Int → Int
  | _, [] => 0
  | i, c :: cs => if (decide (0 ≤ c) && decide (c < n)) = false ∨ c ∈ all.take i then 25 else fcolsFrom n all (i + 1) cs
def foreignErr (n : Nat) (f : Fg) : Int := if nameOk f.f1 = false then 1 else if f.f0.length = 0 then 25 else fcolsFrom n f.f0 0 f.f0
def foreignsFrom (n : Nat) : List Fg → Int
  | [] => 0
  | f :: fs => if foreignErr n f = 0 then foreignsFrom n fs else foreignErr n f
def foreignsErr (n : Nat) (l : List Fg) : Int := if 4 < l.length then 5 else foreignsFrom n l
end Go.Proofs.Ytjceeengnnjipaa.PAll
