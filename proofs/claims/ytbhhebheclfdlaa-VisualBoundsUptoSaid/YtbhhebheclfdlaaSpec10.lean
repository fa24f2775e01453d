/- What layer 10 (visual) tells, as plain functions that go as the code goes. No program is in sight. -/
import Derived.Test.YtbhhebheclfdlaaSpec07
import Derived.Test.YtbhhebheclfdlaaSpec09
namespace Go.Proofs.Ytbhhebheclfdlaa

/-- the direction ahead of a run: the nearest place ahead that is not left out, in its paragraph -/
def aheadL (ds : List Int) (ls : List Nat) (base : Nat) : Nat → Nat
  | 0 => base
  | i + 1 => if lkn (ith ds i) = 10 then base else if leftB (lkn (ith ds i)) = true then aheadL ds ls base i else ls.getD i 0
def behindL (ds : List Int) (ls : List Nat) (base : Nat) : Nat → Nat → Nat
  | 0, _ => base
  | m + 1, i => if leftB (lkn (ith ds i)) = true then behindL ds ls base m (i + 1) else ls.getD i 0
def sidesI (ds : List Int) (ls : List Nat) (base : Nat) (run : List Nat) : Int × Int :=
  let n := min ds.length ls.length
  let ps := run.filter (fun p => decide (p < n))
  if ps = [] then (((base % 2 : Nat) : Int), ((base % 2 : Nat) : Int))
  else
    let a := ps.getD 0 0
    let b := ps.getLastD 0
    let behind := if (opensB (lkn (ith ds b)) = false ∨ 0 ≤ ith (pairsI (ds.take n)) b) ∧ lkn (ith ds b) ≠ 10 then behindL ds ls base (n - (b + 1)) (b + 1) else base
    (((max (ls.getD a 0) (aheadL ds ls base a) % 2 : Nat) : Int), ((max (ls.getD b 0) behind % 2 : Nat) : Int))
/-- the pairs by rising places -/
def insP (p : Nat × Nat) : List (Nat × Nat) → List (Nat × Nat)
  | [] => [p]
  | q :: t => if p.1 < q.1 then p :: q :: t else q :: insP p t
def sortP (l : List (Nat × Nat)) : List (Nat × Nat) := l.foldl (fun s p => insP p s) []
/-- what pair.Resolve answers -/
def resI (rs ks : List Int) (level sos eos : Int) : List Int :=
  let n := min rs.length ks.length
  resolveF rs ks level sos eos (sortP (brkF (rs.take n) (alF n 0 (ks.take n)) n 0 [] []))
def upI (x : Nat) (k : Int) : Nat := if k = 3 ∨ k = 6 then 2 - x % 2 else if (k = 1 ∧ x % 2 = 0) ∨ (k = 0 ∧ x % 2 = 1) then 1 else 0
/-- a run's places get their levels -/
def layRun (x : Nat) (own : List Int) : List Nat → Nat → List Nat → List Nat
  | [], _, out => out
  | p :: ps, i, out => layRun x own ps (i + 1) (out.set p (x + upI x (ith own i)))
def runOut (cs ds : List Int) (ls : List Nat) (ks : List Int) (base : Nat) (run : List Nat) (out : List Nat) : List Nat :=
  let x := ls.getD (run.getD 0 0) 0
  let s := sidesI ds ls base run
  layRun x (resI (run.map (ith cs)) (weakF (run.map (ith ks)) s.1) x s.1 s.2) run 0 out
/-- what is left out goes with what stands ahead; a paragraph's end has the base -/
def tidyF (ds : List Int) (base : Nat) : Nat → Nat → Nat → List Nat → List Nat
  | 0, _, _, out => out
  | m + 1, i, ahead, out =>
    if leftB (ith ds i) = true then tidyF ds base m (i + 1) ahead (out.set i ahead)
    else if ith ds i = 10 then tidyF ds base m (i + 1) base (out.set i base)
    else tidyF ds base m (i + 1) (out.getD i 0) out
def paraI (cs ds : List Int) (base : Nat) : List Nat :=
  let lk := levI ds base
  tidyF ds base ds.length 0 base ((runsI ds (lk.1.map Int.ofNat)).foldl (fun out run => runOut cs ds lk.1 lk.2 base run out) (List.replicate cs.length 0))
/-- a paragraph's length: up to and with its end -/
def paraLen (ds : List Int) : Nat := match ds.findIdx? (fun d => d == 10) with
  | none => ds.length
  | some i => i + 1
def linesF (base : Nat) : Nat → List Int → List Nat → List Nat
  | 0, _, out => out
  | f + 1, cs, out =>
    if cs = [] then out
    else linesF base f (cs.drop (paraLen (cs.map dirI))) (out ++ paraI (cs.take (paraLen (cs.map dirI))) ((cs.take (paraLen (cs.map dirI))).map dirI) base)
/-- what visual.Levels answers: the levels, the base -/
def visualI (cs : List Int) (want : Int) : List Nat × Int :=
  (linesF (baseI (cs.map dirI) want).toNat cs.length cs [], baseI (cs.map dirI) want)
end Go.Proofs.Ytbhhebheclfdlaa
