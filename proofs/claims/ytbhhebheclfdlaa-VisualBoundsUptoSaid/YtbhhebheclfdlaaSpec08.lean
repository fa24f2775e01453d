/- What layer 8 (weak) does, as plain functions that go as the code goes. No program is in sight. -/
import Derived.Test.YtbhhebheclfdlaaSpec02
namespace Go.Proofs.Ytbhhebheclfdlaa

/-- a number as a class -/
def lkn (d : Int) : Int := if d < 0 ∨ 22 < d then 13 else d
theorem lkn_bd (d : Int) : 0 ≤ lkn d ∧ lkn d ≤ 22 := by unfold lkn; split <;> omega
/-- marks: what a mark stands on it is itself -/
def marksF : Nat → Nat → Int → List Int → List Int
  | 0, _, _, l => l
  | m + 1, i, sos, l =>
    if ith l i = 8 then marksF m (i + 1) (if 19 ≤ sos ∧ sos ≤ 22 then 13 else sos) (l.set i sos)
    else marksF m (i + 1) (if 19 ≤ ith l i ∧ ith l i ≤ 22 then 13 else ith l i) l
/-- digits behind Arabic letters -/
def arabicF : Nat → Nat → Int → List Int → List Int
  | 0, _, _, l => l
  | m + 1, i, sos, l =>
    if ith l i = 0 ∨ ith l i = 1 ∨ ith l i = 2 then arabicF m (i + 1) (ith l i) l
    else if ith l i = 3 ∧ sos = 2 then arabicF m (i + 1) sos (l.set i 6)
    else arabicF m (i + 1) sos l
def lettersF : Nat → Nat → List Int → List Int
  | 0, _, l => l
  | m + 1, i, l => if ith l i = 2 then lettersF m (i + 1) (l.set i 1) else lettersF m (i + 1) l
/-- a single separator between two digits: m places from i on, each with one on both sides -/
def sepF : Nat → Nat → List Int → List Int
  | 0, _, l => l
  | m + 1, i, l =>
    if ith l (i - 1) = ith l (i + 1) ∧ (ith l (i - 1) = 3 ∨ ith l (i - 1) = 6) ∧ (ith l i = 7 ∨ (ith l i = 4 ∧ ith l (i - 1) = 3)) then sepF m (i + 1) (l.set i (ith l (i - 1)))
    else sepF m (i + 1) l
/-- the first place from i on that is (b) or is not a terminator, m places being looked at -/
def seekF (b : Bool) (l : List Int) : Nat → Nat → Nat
  | 0, i => i
  | m + 1, i => if decide (ith l i = 5) = b then i else seekF b l m (i + 1)
def fillW (k : Int) : Nat → Nat → List Int → List Int
  | 0, _, l => l
  | m + 1, i, l => fillW k m (i + 1) (l.set i k)
/-- rows of terminators beside digits -/
def termF : Nat → Nat → List Int → List Int
  | 0, _, l => l
  | f + 1, i, l =>
    let a := seekF true l (l.length - i) i
    if a = l.length then l
    else
      let b := seekF false l (l.length - a) a
      if (0 < a ∧ ith l (a - 1) = 3) ∨ (b < l.length ∧ ith l b = 3) then termF f b (fillW 3 (b - a) a l) else termF f b l
def othersF : Nat → Nat → List Int → List Int
  | 0, _, l => l
  | m + 1, i, l => if ith l i = 4 ∨ ith l i = 5 ∨ ith l i = 7 then othersF m (i + 1) (l.set i 13) else othersF m (i + 1) l
/-- digits behind letters from left to right -/
def digitsF : Nat → Nat → Int → List Int → List Int
  | 0, _, _, l => l
  | m + 1, i, sos, l =>
    if ith l i = 0 ∨ ith l i = 1 then digitsF m (i + 1) (ith l i) l
    else if ith l i = 3 ∧ sos = 0 then digitsF m (i + 1) sos (l.set i 0)
    else digitsF m (i + 1) sos l
/-- what weak.Resolve answers -/
def weakF (ks : List Int) (sos : Int) : List Int :=
  let n := ks.length
  let s := if sos = 1 then (1 : Int) else 0
  digitsF n 0 s (othersF n 0 (termF (n + 1) 0 (sepF (n - 2) 1 (lettersF n 0 (arabicF n 0 s (marksF n 0 s (ks.map lkn)))))))
end Go.Proofs.Ytbhhebheclfdlaa
