/- What layer 7 (level) tells, as plain functions that go as the code goes. No program is in sight. -/
import Derived.Test.YtbhhebheclfdlaaSpec08
namespace Go.Proofs.Ytbhhebheclfdlaa

def leftB (d : Int) : Bool := decide (d = 9) || (decide (14 ≤ d) && decide (d ≤ 18))
def opensB (d : Int) : Bool := decide (19 ≤ d) && decide (d ≤ 21)
/-- the first strong one from place i on, m places being looked at, so deep in isolates -/
def firstF (ds : List Int) : Nat → Nat → Nat → Int
  | 0, _, _ => 13
  | m + 1, i, deep =>
    if opensB (lkn (ith ds i)) = true then firstF ds m (i + 1) (deep + 1)
    else if lkn (ith ds i) = 22 ∧ 0 < deep then firstF ds m (i + 1) (deep - 1)
    else if lkn (ith ds i) = 22 ∨ lkn (ith ds i) = 10 then 13
    else if deep = 0 ∧ (lkn (ith ds i) = 0 ∨ lkn (ith ds i) = 1 ∨ lkn (ith ds i) = 2) then lkn (ith ds i)
    else firstF ds m (i + 1) deep
def firstI (ds : List Int) : Int := firstF ds ds.length 0 0
/-- the place behind the first PDI that ends nothing; -1: none -/
def afterF (ds : List Int) : Nat → Nat → Nat → Int
  | 0, _, _ => -1
  | m + 1, i, deep =>
    if opensB (lkn (ith ds i)) = true then afterF ds m (i + 1) (deep + 1)
    else if lkn (ith ds i) = 22 ∧ deep = 0 then (i : Int) + 1
    else if lkn (ith ds i) = 22 then afterF ds m (i + 1) (deep - 1)
    else if lkn (ith ds i) = 10 then -1
    else afterF ds m (i + 1) deep
/-- the first place from i on that is no PDI -/
def skipF (ds : List Int) : Nat → Nat → Nat
  | 0, i => i
  | m + 1, i => if lkn (ith ds i) = 22 then skipF ds m (i + 1) else i
/-- a line's base -/
def baseF (want : Int) : Nat → List Int → Int
  | 0, _ => 0
  | f + 1, ds =>
    if want = 1 then 0 else if want = 2 then 1
    else if skipF ds ds.length 0 = ds.length then 0
    else if lkn (ith ds (skipF ds ds.length 0)) = 10 then 0
    else if firstI (ds.drop (skipF ds ds.length 0)) = 13 then
      (if ((skipF ds ds.length 0 : Nat) : Int) < afterF ds (ds.length - skipF ds ds.length 0) (skipF ds ds.length 0) 0 then
        baseF want f (ds.drop (afterF ds (ds.length - skipF ds ds.length 0) (skipF ds ds.length 0) 0).toNat) else 0)
    else if firstI (ds.drop (skipF ds ds.length 0)) ≠ 0 then 1 else 0
def baseI (ds : List Int) (want : Int) : Int := baseF want (ds.length + 1) ds
/-- which sign goes with which PDI -/
def pairsF (ds : List Int) : Nat → Nat → List Nat → List Int → List Int
  | 0, _, _, out => out
  | m + 1, i, opn, out =>
    if opensB (lkn (ith ds i)) = true then pairsF ds m (i + 1) (opn ++ [i]) (out.set i (-1))
    else if lkn (ith ds i) = 10 then pairsF ds m (i + 1) [] (out.set i (-1))
    else if lkn (ith ds i) = 22 ∧ 0 < opn.length then pairsF ds m (i + 1) (opn.take (opn.length - 1)) (((out.set i (-1)).set i (opn.getD (opn.length - 1) 0)).set (opn.getD (opn.length - 1) 0) i)
    else pairsF ds m (i + 1) opn (out.set i (-1))
def pairsI (ds : List Int) : List Int := pairsF ds ds.length 0 [] (List.replicate ds.length 0)
/-- a state on the pile -/
structure LSt where
  level : Nat
  over : Int
  iso : Bool
structure LPile where
  states : List LSt
  opn : Nat
  deep : Nat
  emb : Nat
def LPile.top (p : LPile) : LSt := p.states.getLastD ⟨0, -1, false⟩
def LPile.said (p : LPile) (d : Int) : Int := if p.top.over ≠ -1 then p.top.over else d
def LPile.next (p : LPile) (odd : Bool) : Nat := if odd then (p.top.level + 1) / 2 * 2 + 1 else (p.top.level + 2) / 2 * 2
def LPile.room (p : LPile) (odd : Bool) : Bool := decide (p.next odd ≤ 125) && decide (p.deep = 0) && decide (p.emb = 0)
def LPile.lay (p : LPile) (odd : Bool) (over : Int) (iso : Bool) : LPile := if p.room odd = true then { p with states := p.states ++ [⟨p.next odd, over, iso⟩] } else p
def LPile.pop (p : LPile) : LPile := { p with states := p.states.take (p.states.length - 1) }
/-- pops until the top is an isolate, n times at most -/
def LPile.popTo : Nat → LPile → LPile
  | 0, p => p
  | n + 1, p => if p.top.iso = true then p else popTo n p.pop
def LPile.close (p : LPile) : LPile :=
  if 0 < p.deep then { p with deep := p.deep - 1 }
  else if 0 < p.opn then { ((LPile.popTo p.states.length { p with emb := 0 }).pop) with opn := p.opn - 1 }
  else p
def LPile.fin (p : LPile) : LPile :=
  if 0 < p.deep then p
  else if 0 < p.emb then { p with emb := p.emb - 1 }
  else if 1 < p.states.length ∧ p.top.iso = false then p.pop
  else p
def LPile.embed (p : LPile) (d : Int) : LPile :=
  let odd := decide (d = 15) || decide (d = 17)
  let over : Int := if d = 16 then 0 else if d = 17 then 1 else -1
  if p.room odd = true then p.lay odd over false else if p.deep = 0 then { p with emb := p.emb + 1 } else p
/-- one place: the pile behind it, its level, its class -/
def LPile.step (p : LPile) (base : Nat) (ds : List Int) (i : Nat) : LPile × Nat × Int :=
  let d := lkn (ith ds i)
  if 14 ≤ d ∧ d ≤ 17 then (p.embed d, p.top.level, 9)
  else if 19 ≤ d ∧ d ≤ 21 then
    let odd := if d = 21 then decide (firstI (ds.drop (i + 1)) = 1) || decide (firstI (ds.drop (i + 1)) = 2) else decide (d = 20)
    (if p.room odd = true then { p.lay odd (-1) true with opn := p.opn + 1 } else { p with deep := p.deep + 1 }, p.top.level, p.said d)
  else if d = 22 then (p.close, p.close.top.level, p.close.said d)
  else if d = 18 then (p.fin, p.fin.top.level, 9)
  else if d = 9 then (p, p.top.level, 9)
  else if d = 10 then (⟨[⟨base, -1, false⟩], 0, 0, 0⟩, base, 10)
  else (p, p.top.level, p.said d)
def levF (base : Nat) (ds : List Int) : Nat → Nat → LPile → List Nat → List Int → List Nat × List Int
  | 0, _, _, ls, ks => (ls, ks)
  | m + 1, i, p, ls, ks => levF base ds m (i + 1) (p.step base ds i).1 (ls ++ [(p.step base ds i).2.1]) (ks ++ [(p.step base ds i).2.2])
def levI (ds : List Int) (base : Nat) : List Nat × List Int := levF (min base 125) ds ds.length 0 ⟨[⟨min base 125, -1, false⟩], 0, 0, 0⟩ [] []
/-- which places hang together: the runs so far, which run a PDI goes on, the run at hand, the last place -/
structure RSt where
  out : List (List Nat)
  goes : List (Nat × Nat)
  now : Int
  last : Int
def RSt.find (s : RSt) (i : Nat) : Option Nat := (s.goes.find? (fun x => x.1 == i)).map (·.2)
def RSt.at (s : RSt) (ps : List Int) (i : Nat) : Option Nat :=
  match s.find i with
  | none => none
  | some k => if (((s.out.getD k []).getLastD 0 : Nat) : Int) ≠ ith ps i then none else some k
def RSt.step (s : RSt) (ds ls ps : List Int) (i : Nat) : RSt :=
  let d := lkn (ith ds i)
  if leftB d = true then s
  else
    let fresh : Bool := decide (s.now < 0) || decide (s.last < 0) || decide (ith ls s.last.toNat ≠ ith ls i)
    let k : Nat := if fresh = true then (s.at ps i).getD s.out.length else s.now.toNat
    let out1 : List (List Nat) := if fresh = true ∧ (s.at ps i).isNone = true then s.out ++ [[]] else s.out
    { out := out1.set k (out1.getD k [] ++ [i]),
      goes := if opensB d = true ∧ 0 ≤ ith ps i then ((ith ps i).toNat, k) :: s.goes else s.goes,
      now := k,
      last := if d = 10 then -1 else i }
def runsF (ds ls ps : List Int) : Nat → Nat → RSt → RSt
  | 0, _, s => s
  | m + 1, i, s => runsF ds ls ps m (i + 1) (s.step ds ls ps i)
def runsI (ds ls : List Int) : List (List Nat) :=
  let n := min ds.length ls.length
  (runsF (ds.take n) ls (pairsI (ds.take n)) n 0 ⟨[], [], -1, -1⟩).out
end Go.Proofs.Ytbhhebheclfdlaa
