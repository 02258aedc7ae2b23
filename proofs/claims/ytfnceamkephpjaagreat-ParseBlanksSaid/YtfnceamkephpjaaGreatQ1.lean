/- Plain: the program's parser of statements. Printed by genq1.py. -/
import Derived.Test.YtfnceamkephpjaaGreatMP18
namespace Go.Proofs.YtfnceamkephpjaaGreat.pg
open Go.Proofs.YtfnceamkephpjaaGreat.lx
set_option linter.unusedVariables false

/-- a statement -/
structure St where
  kind : Int
  sn : List UInt8
  cols : List Cl
  key : Int
  only : Bool
  table : List UInt8
  join : List UInt8
  on : List Nd
  names : List (List UInt8)
  exprs : List (List Nd)
  items : List (Int × List Nd)
  wh : List Nd
  group : List UInt8
  order : List UInt8
  desc : Bool
  limit : Int
  name : List UInt8
def St0 : St := ⟨0, [], [], 0, false, [], [], [], [], [], [], [], [], [], false, 0, []⟩
/-- a column of a table -/
def kindP (W : List Wd) (p : Pp) : Int × Pp :=
  if okIs W [98, 111, 111, 108] p = true then (1, stepP p) else if okIs W [105, 110, 116] p = true then (2, stepP p) else if okIs W [116, 101, 120, 116] p = true then (3, stepP p) else (0, failP 6 p)
def cdefP (W : List Wd) (p : Pp) : Cl × Pp := match nameP W p with
  | (s, p1) => match kindP W p1 with
    | (k, p2) => (⟨s, k, okIs W [110, 117, 108, 108] p2⟩, isP W [110, 117, 108, 108] p2)
def colsP (W : List Wd) : Nat → List Cl → Pp → List Cl × Pp
  | 0, cs, p => (cs, p)
  | f + 1, cs, p => if p.err = 0 then (if okIs W [112, 114, 105, 109, 97, 114, 121] p = true then (cs, stepP p) else if 6 ≤ cs.length then (cs, failP 4 p)
    else match cdefP W p with | (c, q) => colsP W f (cs ++ [c]) (mustP W [44] q)) else (cs, p)
def keyOf (cs : List Cl) (k : List UInt8) : Int := if (findC cs k).2 = true then (findC cs k).1 else -1
def createP (W : List Wd) (p : Pp) : St × Pp := match nameP W (mustP W [116, 97, 98, 108, 101] (isP W [111, 110, 108, 121] p)) with
  | (sn, p3) => match cdefP W (mustP W [40] p3) with
    | (c, p5) => match colsP W 7 [c] (mustP W [44] p5) with
      | (cs, p7) => match nameP W (mustL W [[107, 101, 121], [40]] p7) with
        | (k, p9) => ({ St0 with kind := 1, sn := sn, cols := cs, key := keyOf cs k, only := okIs W [111, 110, 108, 121] p }, mustL W [[41], [41]] p9)
def dropP (W : List Wd) (p : Pp) : St × Pp := match nameP W (mustP W [116, 97, 98, 108, 101] p) with
  | (t, q) => ({ St0 with kind := 2, table := t }, q)
/-- something done for each of a row -/
def rowP {σ : Type} (W : List Wd) (do_ : σ → Pp → σ × Pp) : Nat → Nat → σ → Pp → σ × Pp
  | 0, _, s, p => (s, p)
  | f + 1, n, s, p => if okIs W [44] p = true then (if 6 ≤ n then (s, failP 4 (stepP p)) else match do_ s (stepP p) with | (s', q) => rowP W do_ f (n + 1) s' q) else (s, p)
def rowAll {σ : Type} (W : List Wd) (do_ : σ → Pp → σ × Pp) (s : σ) (p : Pp) : σ × Pp := match do_ s p with
  | (s', q) => rowP W do_ 6 1 s' q
def insDo (W : List Wd) (s : List (List Nd)) (p : Pp) : List (List Nd) × Pp := match exprP W p with | (e, q) => (s ++ [e], q)
def insertP (W : List Wd) (p : Pp) : St × Pp := match nameP W (mustP W [105, 110, 116, 111] p) with
  | (t, p2) => match rowAll W (insDo W) [] (mustL W [[118, 97, 108, 117, 101, 115], [40]] p2) with
    | (es, p4) => ({ St0 with kind := 3, table := t, exprs := es }, mustP W [41] p4)
def whereP (W : List Wd) (p : Pp) : List Nd × Pp := if okIs W [119, 104, 101, 114, 101] p = true then exprP W (stepP p) else ([], p)
def updDo (W : List Wd) (s : List (List UInt8) × List (List Nd)) (p : Pp) : (List (List UInt8) × List (List Nd)) × Pp := match nameP W p with
  | (n, q) => match exprP W (mustP W [61] q) with
    | (e, r) => ((s.1 ++ [n], s.2 ++ [e]), r)
def updateP (W : List Wd) (p : Pp) : St × Pp := match nameP W p with
  | (t, p1) => match rowAll W (updDo W) ([], []) (mustP W [115, 101, 116] p1) with
    | (s, p3) => match whereP W p3 with
      | (e, p4) => ({ St0 with kind := 4, table := t, names := s.1, exprs := s.2, wh := e }, p4)
def delP (W : List Wd) (p : Pp) : St × Pp := match nameP W (mustP W [102, 114, 111, 109] p) with
  | (t, p2) => match whereP W p2 with
    | (e, p3) => ({ St0 with kind := 5, table := t, wh := e }, p3)
def rollP (W : List Wd) (p : Pp) : St × Pp := if okIs W [116, 111] p = true then (match nameP W (stepP p) with | (n, q) => ({ St0 with kind := 11, name := n }, q)) else ({ St0 with kind := 9 }, p)
def saveP (W : List Wd) (p : Pp) : St × Pp := match nameP W p with
  | (n, q) => ({ St0 with kind := 10, name := n }, q)
def bareP (k : Int) (p : Pp) : St × Pp := ({ St0 with kind := k }, p)
def aggP (W : List Wd) (fn : Int) (p : Pp) : (Int × List Nd) × Pp := match colP W (mustP W [40] (stepP p)) with
  | (c, q) => ((fn, [ndC c]), mustP W [41] q)
def itemP (W : List Wd) (p : Pp) : (Int × List Nd) × Pp :=
  if okIs W [99, 111, 117, 110, 116] p = true then ((1, []), mustL W [[40], [42], [41]] (stepP p))
  else if okIs W [115, 117, 109] p = true then aggP W 2 p else if okIs W [109, 105, 110] p = true then aggP W 3 p else if okIs W [109, 97, 120] p = true then aggP W 4 p
  else match exprP W p with | (e, q) => ((0, e), q)
def itemDo (W : List Wd) (s : List (Int × List Nd)) (p : Pp) : List (Int × List Nd) × Pp := match itemP W p with | (x, q) => (s ++ [x], q)
def itemsP (W : List Wd) (p : Pp) : List (Int × List Nd) × Pp := if okIs W [42] p = true then ([], stepP p) else rowAll W (itemDo W) [] p
def joinP (W : List Wd) (p : Pp) : (List UInt8 × List Nd) × Pp := if okIs W [106, 111, 105, 110] p = true then (match nameP W (stepP p) with
  | (j, q) => match exprP W (mustP W [111, 110] q) with | (e, r) => ((j, e), r)) else (([], []), p)
def groupP (W : List Wd) (p : Pp) : List UInt8 × Pp := if okIs W [103, 114, 111, 117, 112] p = true then colP W (mustP W [98, 121] (stepP p)) else ([], p)
def orderP (W : List Wd) (p : Pp) : (List UInt8 × Bool) × Pp := if okIs W [111, 114, 100, 101, 114] p = true then (match colP W (mustP W [98, 121] (stepP p)) with
  | (o, q) => ((o, okIs W [100, 101, 115, 99] q), isP W [100, 101, 115, 99] q)) else (([], false), p)
def numP (W : List Wd) (p : Pp) : Pp := if (cur W p).k = 2 then p else failP 6 p
def limitP (W : List Wd) (p : Pp) : Int × Pp := if okIs W [108, 105, 109, 105, 116] p = true then (match numP W (stepP p) with | q => ((cur W q).n, nextP W q)) else (-1, p)
def selP (W : List Wd) (p : Pp) : St × Pp := match itemsP W p with
  | (is, p1) => match nameP W (mustP W [102, 114, 111, 109] p1) with
    | (t, p2) => match joinP W p2 with
      | (j, p3) => match whereP W p3 with
        | (e, p4) => match groupP W p4 with
          | (g, p5) => match orderP W p5 with
            | (o, p6) => match limitP W p6 with
              | (l, p7) => ({ St0 with kind := 6, items := is, table := t, join := j.1, on := j.2, wh := e, group := g, order := o.1, desc := o.2, limit := l }, p7)
/-- what begins with which word -/
def doP (W : List Wd) (s : List UInt8) : Option (Pp → St × Pp) :=
  if s = [99, 114, 101, 97, 116, 101] then some (createP W) else if s = [100, 114, 111, 112] then some (dropP W) else if s = [105, 110, 115, 101, 114, 116] then some (insertP W) else if s = [117, 112, 100, 97, 116, 101] then some (updateP W)
  else if s = [100, 101, 108, 101, 116, 101] then some (delP W) else if s = [115, 101, 108, 101, 99, 116] then some (selP W) else if s = [98, 101, 103, 105, 110] then some (bareP 7) else if s = [99, 111, 109, 109, 105, 116] then some (bareP 8)
  else if s = [114, 111, 108, 108, 98, 97, 99, 107] then some (rollP W) else if s = [115, 97, 118, 101, 112, 111, 105, 110, 116] then some (saveP W) else none
/-- a statement's last checks -/
def lastP (W : List Wd) (x : St × Pp) : Pp := if x.1.kind = 1 ∧ x.1.key < 0 then failP 2 (endP W x.2) else endP W x.2
def finP (W : List Wd) (x : St × Pp) : Int × St := match lastP W x with
  | q => if q.err = 0 then (0, x.1) else (q.err, St0)
def stmtW (W : List Wd) : Int × St := match doP W (cur W ⟨0, 0⟩).s with
  | some f => if (cur W ⟨0, 0⟩).k = 1 then finP W (f (nextP W ⟨0, 0⟩)) else (6, St0)
  | none => (6, St0)
/-- a text read as a statement -/
def stmtL (l : List UInt8) : Int × St := match wordsL l with
  | (x, W) => if x = 0 then stmtW W else (x, St0)
end Go.Proofs.YtfnceamkephpjaaGreat.pg
