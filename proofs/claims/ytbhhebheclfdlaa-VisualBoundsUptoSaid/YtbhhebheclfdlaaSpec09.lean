/- What layer 9 (pair) tells, as plain functions that go as the code goes. No program is in sight. -/
import Derived.Test.YtbhhebheclfdlaaSpec02
namespace Go.Proofs.Ytbhhebheclfdlaa

/-- the direction of a kind (0: left, 1: right), or -1 -/
def wayI (k : Int) : Int := if k = 0 then 0 else if k = 1 ∨ k = 2 ∨ k = 3 ∨ k = 6 then 1 else -1
def sideI (k : Int) : Int := if k = 1 then 1 else 0
def neutralB (k : Int) : Bool := decide (wayI k < 0)

/-- from place i on, m kinds: e, if one has the direction e; ahead, if one has the other; else what has been found so far -/
def decF (xs : List Int) (e ahead : Int) : Nat → Nat → Int → Int
  | 0, _, acc => acc
  | m + 1, i, acc => if wayI (ith xs i) = e then e else if wayI (ith xs i) = -1 then decF xs e ahead m (i + 1) acc else decF xs e ahead m (i + 1) ahead
def decI (xs : List Int) (p0 p1 : Nat) (e ahead : Int) : Int := decF xs e ahead (p1 - (p0 + 1)) (p0 + 1) (-1)


/-- the one opened last, among the k lowest, whose other one is r -/
def findTop (st : List (Nat × Int)) (r : Int) : Nat → Option Nat
  | 0 => none
  | k + 1 => if (st.getD k (0, 0)).2 = r then some k else findTop st r k
/-- the pairs in the order in which they are closed: m characters from place i on -/
def brkF (rs ks : List Int) : Nat → Nat → List (Nat × Int) → List (Nat × Nat) → List (Nat × Nat)
  | 0, _, _, out => out
  | m + 1, i, st, out =>
    if (pairI (ith rs i)).2.2 = false ∨ ith ks i ≠ 13 then brkF rs ks m (i + 1) st out
    else if (pairI (ith rs i)).2.1 = true then (if st.length = 63 then out else brkF rs ks m (i + 1) (st ++ [(i, (pairI (ith rs i)).1)]) out)
    else match findTop st (ith rs i) st.length with
      | none => brkF rs ks m (i + 1) st out
      | some k => brkF rs ks m (i + 1) (st.take k) (out ++ [((st.getD k (0, 0)).1, i)])


/-- DirAL counts as DirR -/
def alI (k : Int) : Int := if k = 2 then 1 else k
def alF : Nat → Nat → List Int → List Int
  | 0, _, out => out
  | m + 1, i, out => if ith out i = 2 then alF m (i + 1) (out.set i 1) else alF m (i + 1) out
/-- the direction of the last that has one, m from place i on; else what stood ahead -/
def aheadF (out : List Int) : Nat → Nat → Int → Int
  | 0, _, a => a
  | m + 1, i, a => if 0 ≤ wayI (ith out i) then aheadF out m (i + 1) (wayI (ith out i)) else aheadF out m (i + 1) a
/-- the marks behind a bracket become what it became -/
def spreadF (rs : List Int) (k : Int) : Nat → Nat → List Int → List Int
  | 0, _, out => out
  | m + 1, i, out => if wayI (ith out i) < 0 ∧ dirI (ith rs i) = 8 then spreadF rs k m (i + 1) (out.set i k) else out
def markF (rs : List Int) (n : Nat) (k : Int) (b : Nat) (out : List Int) : List Int := spreadF rs k (n - (b + 1)) (b + 1) (out.set b k)
/-- the pairs, one behind the other -/
def resF (rs : List Int) (n : Nat) (e : Int) : List (Nat × Nat) → Nat → Int → List Int → List Int
  | [], _, _, out => out
  | p :: ps, at', ahead, out =>
    if decI out p.1 p.2 e (aheadF out (p.1 - at') at' ahead) < 0 then resF rs n e ps (at' + (p.1 - at')) (aheadF out (p.1 - at') at' ahead) out
    else resF rs n e ps (at' + (p.1 - at')) (aheadF out (p.1 - at') at' ahead)
      (markF rs n (decI out p.1 p.2 e (aheadF out (p.1 - at') at' ahead)) p.2 (markF rs n (decI out p.1 p.2 e (aheadF out (p.1 - at') at' ahead)) p.1 out))
/-- where a stretch of neutral ones ends, m from place j on -/
def runF (out : List Int) : Nat → Nat → Nat
  | 0, j => j
  | m + 1, j => if wayI (ith out j) < 0 then runF out m (j + 1) else j
def fillF (k : Int) : Nat → Nat → List Int → List Int
  | 0, _, out => out
  | m + 1, i, out => fillF k m (i + 1) (out.set i k)
/-- what a stretch from i to j becomes -/
def fillI (n : Nat) (e sos eos : Int) (i j : Nat) (out : List Int) : Int :=
  if (if 0 < i then wayI (ith out (i - 1)) else sos) = (if j < n then wayI (ith out j) else eos) then (if 0 < i then wayI (ith out (i - 1)) else sos) else e
def restF (n : Nat) (e sos eos : Int) : Nat → Nat → List Int → List Int
  | 0, _, out => out
  | f + 1, i, out =>
    if i < n then
      if 0 ≤ wayI (ith out i) then restF n e sos eos f (i + 1) out
      else restF n e sos eos f (runF out (n - i) i) (fillF (fillI n e sos eos i (runF out (n - i) i) out) (runF out (n - i) i - i) i out)
    else out
/-- what pair.Resolve answers, l being the pairs -/
def resolveF (rs ks : List Int) (level sos eos : Int) (l : List (Nat × Nat)) : List Int :=
  restF (min rs.length ks.length) (level % 2) (sideI sos) (sideI eos) (min rs.length ks.length + 1) 0
    (resF rs (min rs.length ks.length) (level % 2) l 0 (sideI sos) (alF (min rs.length ks.length) 0 (ks.take (min rs.length ks.length))))

end Go.Proofs.Ytbhhebheclfdlaa
