/- What the rest of layer 10 tells: mirrors, rows, the order turned. No program is in sight. -/
import Derived.Test.YtbhhebheclfdlaaSpec10
namespace Go.Proofs.Ytbhhebheclfdlaa

def mirrorI (r : Int) : Int :=
  if (pairI r).2.2 = true then (pairI r).1
  else if r = 60 ∨ r = 65308 then r + 2 else if r = 62 ∨ r = 65310 then r - 2
  else if r = 171 then 187 else if r = 187 then 171
  else if r = 8249 ∨ r = 8250 then 16499 - r else if r = 8804 ∨ r = 8805 then 17609 - r else r
def mirroredI (r : Int) (x : Nat) : Int := if x % 2 = 1 then mirrorI r else r
/-- where each place is seen, one more; none: the numbers are no order -/
def turnF (os : List Int) (n : Nat) : Nat → Nat → List Int → Option (List Int)
  | 0, _, out => some out
  | m + 1, i, out => if ith os i < 0 ∨ (n : Int) ≤ ith os i then none else if ith out (ith os i).toNat ≠ 0 then none else turnF os n m (i + 1) (out.set (ith os i).toNat ((i : Int) + 1))
def turnedI (os : List Int) : Option (List Int) := (turnF os os.length os.length 0 (List.replicate os.length 0)).map (fun l => l.map (fun x => x - 1))
/-- a row's levels: from its end on, what hangs has the base -/
def hangsF (d : Int) (h : Bool) : Bool := if d = 11 ∨ d = 10 then true else if d ≠ 12 ∧ leftB d = false ∧ (d < 19 ∨ 22 < d) then false else h
def hangF (cs : List Int) (base fr : Nat) : Nat → Bool → List Nat → List Nat
  | 0, _, out => out
  | i + 1, h, out =>
    hangF cs base fr i (hangsF (dirI (ith cs (fr + i))) h) (if hangsF (dirI (ith cs (fr + i))) h = true then (out.set i (min (out.getD i 0) 126)).set i base else out.set i (min (out.getD i 0) 126))
def clampN (n : Nat) (x : Int) : Nat := min x.toNat n
def rowI (cs : List Int) (ls : List Nat) (base : Nat) (fr to : Int) : Option (List Nat) :=
  let n := min cs.length ls.length
  if clampN n to < clampN n fr then none
  else some (hangF cs (min base 126) (clampN n fr) (clampN n to - clampN n fr) true ((ls.drop (clampN n fr)).take (clampN n to - clampN n fr)))
end Go.Proofs.Ytbhhebheclfdlaa
