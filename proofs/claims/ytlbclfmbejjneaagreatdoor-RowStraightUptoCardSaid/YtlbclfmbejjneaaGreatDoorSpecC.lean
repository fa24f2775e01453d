/- What the layers 3 (cluster) and 13 (breaks) tell, as plain functions that go as the code goes. No program is in sight. -/
import Derived.Test.YtlbclfmbejjneaaGreatDoorTables
import Derived.Shelf.Unicode.DecodeSlow
namespace Go.Proofs.YtlbclfmbejjneaaGreatDoor

def decR (s : ByteArray) : Int := ((Lib.decodeGo s).1 : Int)
def decN (s : ByteArray) : Nat := (Lib.decodeGo s).2
def regionalB (r : Int) : Bool := decide (127462 ≤ r) && decide (r ≤ 127487)
def joinerB (r : Int) : Bool := decide (r = 8204) || decide (r = 8205)
def pictureB (r : Int) : Bool := decide (kindI r = 7) && decide (wideI r false = 2)
def aloneB (r : Int) : Bool := if kindI r = 0 then true else if kindI r = 1 then !joinerB r else decide (r = 8232) || decide (r = 8233)
def partI (r : Int) : Nat :=
  if r < 4352 ∨ 55203 < r then 0 else if r ≤ 4447 then 1 else if r ≤ 4519 then 2 else if r ≤ 4607 then 4 else if r < 44032 then 0 else if (r - 44032) % 28 = 0 then 8 else 16
def nextP (a : Nat) : Nat := if a = 1 then 27 else if a = 2 ∨ a = 8 then 6 else if a = 4 ∨ a = 16 then 4 else 0
def goesB (a b : Int) : Bool := decide (nextP (partI a) &&& partI b ≠ 0)
/-- does y go on a cluster of n characters that began with x, z being the last? -/
def goesOn (x z y : Int) (n : Nat) : Bool :=
  decide (kindI y = 2) || joinerB y || (decide (n = 1) && regionalB x && regionalB y) || (decide (z = 8205) && pictureB x && pictureB y) || goesB z y
def moreF (x : Int) (s : ByteArray) : Nat → Nat → Int → Nat → Nat
  | 0, _, _, at' => at'
  | f + 1, n, z, at' =>
    if at' = s.size ∨ (decR (s.extract at' s.size) = 65533 ∧ decN (s.extract at' s.size) = 1) then at'
    else if goesOn x z (decR (s.extract at' s.size)) n = true then moreF x s f (n + 1) (decR (s.extract at' s.size)) (at' + decN (s.extract at' s.size)) else at'
/-- the length of a text's first cluster -/
def nextI (s : ByteArray) : Nat :=
  if s.size = 0 then 0
  else if (decR s = 65533 ∧ decN s = 1) ∨ aloneB (decR s) = true then (if decR s = 13 ∧ 1 < s.size ∧ s.get! 1 = 10 then 2 else decN s)
  else moreF (decR s) s 31 1 (decR s) (decN s)
/-- a text's clusters: their places and bytes -/
def piecesF (s : ByteArray) : Nat → Nat → List (Nat × ByteArray)
  | 0, _ => []
  | f + 1, at' => if at' < s.size then (at', s.extract at' (at' + nextI (s.extract at' s.size))) :: piecesF s f (at' + nextI (s.extract at' s.size)) else []
def piecesI (s : ByteArray) : List (Nat × ByteArray) := piecesF s s.size 0
/-- a cluster's class for breaking lines -/
def bkindI (c : ByteArray) : Int := if breakI (decR c) = 8 ∨ (decR c = 65533 ∧ decN c = 1) then 0 else breakI (decR c)
/-- what may be done between two clusters -/
def ruleI (a b solid : Int) : Int :=
  if a = 2 then 2
  else if b = 2 ∨ b = 1 ∨ b = 9 then 0
  else if solid = 9 then 1
  else if a = 12 ∨ b = 12 ∨ a = 5 then 0
  else if b = 5 ∧ a ≠ 1 ∧ a ≠ 6 then 0
  else if b = 4 ∨ solid = 3 then 0
  else if b = 11 ∧ a ≠ 1 then 0
  else if a = 1 then 1
  else if b = 6 then 0
  else if a = 6 ∧ b = 10 then 0
  else if a = 6 then 1
  else if a = 7 ∨ b = 7 then 1
  else 0
def whereF : List Int → Int → Int → List Int
  | [], a, _ => [if a = 2 then 2 else 0]
  | b :: t, a, solid => ruleI a b solid :: whereF t b (if b = 1 then solid else b)
def whereI (s : ByteArray) : List Int := match (piecesI s).map (fun p => bkindI p.2) with
  | [] => []
  | k :: t => whereF t k (if k = 1 then -1 else k)
end Go.Proofs.YtlbclfmbejjneaaGreatDoor
