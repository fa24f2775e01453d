/- What the layers 6 (show) and 14 (wrap) tell, as plain functions that go as the code goes, and plain facts on rows. No program is in sight. -/
import Derived.Test.YtlbclfmbejjneaaGreatDoorShow
import Derived.Test.YtlbclfmbejjneaaGreatDoorCut
namespace Go.Proofs.YtlbclfmbejjneaaGreatDoor
set_option linter.unusedVariables false
set_option linter.unusedSimpArgs false

/-- a text's numbers -/
def runesF (s : ByteArray) : Nat → Nat → List Int
  | 0, _ => []
  | f + 1, i => if i < s.size then ((Utf8.decode s i).1 : Int) :: runesF s f (i + (Utf8.decode s i).2) else []
def runesI (s : ByteArray) : List Int := runesF s s.size 0
/-- what is shown of one cluster -/
def textD (d : ByteArray) (col tab : Int) (wide raw : Bool) : ByteArray × Int :=
  if d.size = 0 then (⟨#[]⟩, 0)
  else if decR d = 65533 ∧ decN d = 1 then (⟨#[60]⟩ ++ strOfNums [digI ((d.get! 0).toNat / 16), digI ((d.get! 0).toNat % 16)] ++ ⟨#[62]⟩, 4)
  else oneI d (runesI d) col tab wide raw
/-- show.Text -/
def textI (c : ByteArray) (col tab : Int) (wide raw : Bool) : ByteArray × Int := textD (c.extract 0 (nextI c)) col tab wide raw
theorem tab_mem : ∀ (T : List (Int × Int)) (r : Int), T ≠ [] → ∃ x ∈ T, tabLook T r = x.2
  | [], _, h => absurd rfl h
  | [x], _, _ => ⟨x, by simp, rfl⟩
  | x :: y :: rest, r, _ => by
    rw [tabLook]
    split
    · exact ⟨x, by simp, rfl⟩
    · obtain ⟨z, hz, e⟩ := tab_mem (y :: rest) r (by simp)
      exact ⟨z, List.mem_cons_of_mem _ hz, e⟩
theorem widths_nn : widthsT.all (fun x => decide (0 ≤ x.2)) = true := by decide +kernel
theorem wideI_bd (r : Int) (b : Bool) : 0 ≤ wideI r b ∧ wideI r b ≤ 2 := by
  obtain ⟨x, hx, e⟩ := tab_mem widthsT (known r) (by decide)
  have := List.all_eq_true.1 widths_nn x hx
  simp at this
  unfold wideI
  rw [e]
  split
  · omega
  · split <;> omega
theorem padF_size : ∀ (f : Nat) (s : ByteArray), s.size ≤ 17 → (padF f s).size ≤ 17
  | 0, s, h => h
  | f + 1, s, h => by
    rw [padF]
    split
    · refine padF_size f _ ?_
      rw [ByteArray.size_append]
      show 1 + s.size ≤ 17
      omega
    · exact h
theorem namedS_size (x : Nat) : (namedS x).size ≤ 19 := by
  have h1 : (strOfNums (hexI x)).size ≤ 17 := by
    rw [strOfNums_size]
    have := hexF_len 16 x []
    simpa [hexI] using this
  have := padF_size 4 _ h1
  unfold namedS
  rw [ByteArray.size_append, ByteArray.size_append]
  show 1 + (padF 4 (strOfNums (hexI x))).size + 1 ≤ 19
  omega
theorem oneI_bd (c : ByteArray) (rs : List Int) (col tab : Int) (wide raw : Bool) : 0 ≤ (oneI c rs col tab wide raw).2 ∧ (oneI c rs col tab wide raw).2 ≤ 19 := by
  have h1 := stopI_bd col tab
  have h2 := wideI_bd (ith rs 0) wide
  have h3 := namedS_size (ith rs 0).toNat
  unfold oneI
  repeat' split
  all_goals (dsimp only; omega)
theorem textI_bd (c : ByteArray) (col tab : Int) (wide raw : Bool) : 0 ≤ (textI c col tab wide raw).2 ∧ (textI c col tab wide raw).2 ≤ 19 := by
  unfold textI textD
  split
  · exact ⟨Int.le_refl _, by show (0 : Int) ≤ 19; omega⟩
  split
  · exact ⟨by show (0 : Int) ≤ 4; omega, by show (4 : Int) ≤ 19; omega⟩
  · exact oneI_bd _ _ _ _ _ _
def blankC (c : ByteArray) : Bool := (!decide (decR c = 65533) || decide (1 < decN c)) && decide (breakI (decR c) = 1)
/-- where a line ends, if it has an end -/
def countF : List (Nat × ByteArray) → List Int → Option Nat
  | p :: t, k :: ks => if k = 2 then some p.1 else countF t ks
  | _, _ => none
def countI (s : ByteArray) : Option Nat := countF (piecesI s) (whereI s)
/-- a line as far as it counts -/
def textOf (s : ByteArray) : ByteArray := match countI s with
  | some e => s.extract 0 e
  | none => s
/-- a row that is being filled: where it is now, where it may end, whether a blank hangs, the last cluster's columns -/
structure Fl where
  a : Nat
  n : Nat
  wide : Int
  ma : Nat
  mn : Nat
  mw : Int
  hangs : Bool
  c : Int
/-- how rows are filled -/
structure Rul where
  wh : List Int
  w : Int
  tab : Int
  wideA : Bool
  raw : Bool
def adv (wh : List Int) (x : Nat) (s : Fl) : Fl :=
  ⟨s.a + x, s.n + 1, s.wide + s.c, if ith wh s.n = 1 then s.a + x else s.ma, if ith wh s.n = 1 then s.n + 1 else s.mn, if ith wh s.n = 1 then s.wide + s.c else s.mw, s.hangs, s.c⟩
def stepF (r : Rul) (s : Fl) (x : ByteArray) : Fl × Bool :=
  if blankC x = true ∧ (s.hangs = true ∨ r.w < s.wide + (textI x s.wide r.tab r.wideA r.raw).2) then (adv r.wh x.size { s with hangs := true, c := 0 }, false)
  else if s.hangs = true ∨ r.w < s.wide + (textI x s.wide r.tab r.wideA r.raw).2 then ({ s with c := (textI x s.wide r.tab r.wideA r.raw).2 }, true)
  else (adv r.wh x.size { s with c := (textI x s.wide r.tab r.wideA r.raw).2 }, false)
def fillRow (r : Rul) : List ByteArray → Fl → Fl × Bool
  | [], s => (s, false)
  | x :: t, s => if (stepF r s x).2 = true then ((stepF r s x).1, true) else fillRow r t (stepF r s x).1
def lastEnd (e : Bool) : Int := if e = true then 1 else 0
def fl0 (a n : Nat) : Fl := ⟨a, n, 0, a, n, 0, false, 0⟩
/-- a row from a place on: where it ends, its columns, how it ends -/
def rowAt1 (r : Rul) (text : ByteArray) (e : Bool) (a n : Nat) : Nat × Nat × Int × Int :=
  match fillRow r ((piecesI (text.extract a text.size)).map (·.2)) (fl0 a n) with
  | (s, false) => (s.a, s.n, s.wide, lastEnd e)
  | (s, true) =>
    if a < s.ma then (s.ma, s.mn, s.mw, 2)
    else if a < s.a then (s.a, s.n, s.wide, 3)
    else (s.a + nextI (text.extract s.a text.size), s.n + 1, s.c, if s.a + nextI (text.extract s.a text.size) = text.size then lastEnd e else 3)
/-- a row: its place, its length, its columns, how it ends -/
def rowsFrom (r : Rul) (text : ByteArray) (e : Bool) : Nat → Nat → Nat → List (Nat × Nat × Int × Int)
  | 0, _, _ => []
  | f + 1, a, n =>
    (a, (rowAt1 r text e a n).1 - a, (rowAt1 r text e a n).2.2.1, (rowAt1 r text e a n).2.2.2) ::
      if (rowAt1 r text e a n).2.2.2 = 2 ∨ (rowAt1 r text e a n).2.2.2 = 3 then rowsFrom r text e f (rowAt1 r text e a n).1 (rowAt1 r text e a n).2.1 else []
theorem piecesF_map (T : ByteArray) (a : Nat) (ha : a ≤ T.size) : (piecesI (T.extract a T.size)).map (·.2) = (piecesF T T.size a).map (·.2) := by
  rw [pieces_tail T a ha, List.map_map]
  rfl
/-- what a row's filling keeps -/
theorem fill_bord (r : Rul) (T : ByteArray) (a : Nat) : ∀ (L : List ByteArray) (s : Fl), (piecesF T T.size s.a).map (·.2) = L → Bord T s.a s.n → Bord T s.ma s.mn → a ≤ s.a → a ≤ s.ma → s.ma ≤ s.a →
    ∃ st full, fillRow r L s = (st, full) ∧ Bord T st.a st.n ∧ Bord T st.ma st.mn ∧ a ≤ st.a ∧ a ≤ st.ma ∧ st.ma ≤ st.a ∧ (full = true → st.a < T.size) ∧ (full = false → st.a = T.size)
  | [], s, h, h1, h2, h3, h4, h5 => by
    refine ⟨s, false, rfl, h1, h2, h3, h4, h5, (fun h => by cases h), (fun _ => ?_)⟩
    have := h1.1
    by_cases e : s.a < T.size
    · rw [piecesF_cons T s.a e] at h; cases h
    · omega
  | x :: t, s, h, h1, h2, h3, h4, h5 => by
    have hlt : s.a < T.size := by
      have := h1.1
      by_cases e : s.a < T.size
      · exact e
      · have : s.a = T.size := by omega
        rw [this, piecesF_nil] at h; cases h
    rw [piecesF_cons T s.a hlt, List.map_cons] at h
    obtain ⟨hx, ht⟩ := List.cons.inj h
    have hn := nextI_bd (T.extract s.a T.size) (by rw [ext_size T s.a (by omega)]; omega)
    rw [ext_size T s.a (by omega)] at hn
    have hxz : x.size = nextI (T.extract s.a T.size) := by rw [← hx]; simp [ByteArray.size_extract]; omega
    have hb := h1.next hlt
    have key : ∀ s' : Fl, s'.a = s.a → s'.n = s.n → s'.ma = s.ma → s'.mn = s.mn → ∃ st full, fillRow r t (adv r.wh x.size s') = (st, full) ∧ Bord T st.a st.n ∧ Bord T st.ma st.mn ∧ a ≤ st.a ∧ a ≤ st.ma ∧ st.ma ≤ st.a ∧ (full = true → st.a < T.size) ∧ (full = false → st.a = T.size) := by
      intro s' e1 e2 e3 e4
      refine fill_bord r T a t _ ?_ ?_ ?_ ?_ ?_ ?_
      · show (piecesF T T.size (s'.a + x.size)).map (·.2) = t
        rw [e1, hxz]; exact ht
      · show Bord T (s'.a + x.size) (s'.n + 1)
        rw [e1, e2, hxz]; exact hb
      · show Bord T (if ith r.wh s'.n = 1 then s'.a + x.size else s'.ma) (if ith r.wh s'.n = 1 then s'.n + 1 else s'.mn)
        split
        · rw [e1, e2, hxz]; exact hb
        · rw [e3, e4]; exact h2
      · show a ≤ s'.a + x.size
        omega
      · show a ≤ (if ith r.wh s'.n = 1 then s'.a + x.size else s'.ma)
        split <;> omega
      · show (if ith r.wh s'.n = 1 then s'.a + x.size else s'.ma) ≤ s'.a + x.size
        split <;> omega
    rw [fillRow]
    unfold stepF
    by_cases c1 : blankC x = true ∧ (s.hangs = true ∨ r.w < s.wide + (textI x s.wide r.tab r.wideA r.raw).2)
    · rw [if_pos c1, if_neg (by simp)]
      exact key _ rfl rfl rfl rfl
    · rw [if_neg c1]
      by_cases c2 : s.hangs = true ∨ r.w < s.wide + (textI x s.wide r.tab r.wideA r.raw).2
      · rw [if_pos c2, if_pos rfl]
        exact ⟨_, true, rfl, h1, h2, h3, h4, h5, fun _ => hlt, fun h => by cases h⟩
      · rw [if_neg c2, if_neg (by simp)]
        exact key _ rfl rfl rfl rfl
/-- a row ends at a border; it goes on behind it just if it was cut -/
theorem rowI_bord (r : Rul) (T : ByteArray) (e : Bool) (a n : Nat) (h : Bord T a n) :
    Bord T (rowAt1 r T e a n).1 (rowAt1 r T e a n).2.1 ∧ a ≤ (rowAt1 r T e a n).1 ∧
    (((rowAt1 r T e a n).2.2.2 = 2 ∨ (rowAt1 r T e a n).2.2.2 = 3) → a < (rowAt1 r T e a n).1 ∧ (rowAt1 r T e a n).1 < T.size) ∧
    (¬ ((rowAt1 r T e a n).2.2.2 = 2 ∨ (rowAt1 r T e a n).2.2.2 = 3) → (rowAt1 r T e a n).1 = T.size ∧ (rowAt1 r T e a n).2.2.2 = lastEnd e) := by
  have hl : lastEnd e ≠ 2 ∧ lastEnd e ≠ 3 := by unfold lastEnd; split <;> constructor <;> decide
  obtain ⟨st, full, hf, b1, b2, h3, h4, h5, h6, h7⟩ := fill_bord r T a _ (fl0 a n) rfl h h (Nat.le_refl _) (Nat.le_refl _) (Nat.le_refl _)
  rw [show (fl0 a n).a = a from rfl, ← piecesF_map T a h.1] at hf
  unfold rowAt1
  rw [hf]
  cases full with
  | false =>
    refine ⟨b1, h3, fun h => ?_, fun _ => ⟨h7 rfl, rfl⟩⟩
    rcases h with h | h
    · exact absurd h hl.1
    · exact absurd h hl.2
  | true =>
    have h6 := h6 rfl
    dsimp only
    by_cases c1 : a < st.ma
    · rw [if_pos c1]
      exact ⟨b2, h4, fun _ => ⟨c1, by show st.ma < T.size; omega⟩, fun h => absurd (.inl rfl) h⟩
    · rw [if_neg c1]
      by_cases c2 : a < st.a
      · rw [if_pos c2]
        exact ⟨b1, h3, fun _ => ⟨c2, h6⟩, fun h => absurd (.inr rfl) h⟩
      · rw [if_neg c2]
        have hn := nextI_bd (T.extract st.a T.size) (by rw [ext_size T st.a (by omega)]; omega)
        rw [ext_size T st.a (by omega)] at hn
        refine ⟨b1.next h6, by show a ≤ st.a + _; omega, fun h => ?_, fun h => ?_⟩
        · by_cases c3 : st.a + nextI (T.extract st.a T.size) = T.size
          · dsimp only at h
            rw [if_pos c3] at h
            rcases h with h | h
            · exact absurd h hl.1
            · exact absurd h hl.2
          · exact ⟨by show a < st.a + _; omega, by show st.a + _ < T.size; omega⟩
        · by_cases c3 : st.a + nextI (T.extract st.a T.size) = T.size
          · exact ⟨c3, by show (if _ then _ else _) = _; rw [if_pos c3]⟩
          · dsimp only at h
            rw [if_neg c3] at h
            exact absurd (.inr rfl) h
/-- rows rise from a place on -/
theorem rowsF_up (r : Rul) (T : ByteArray) (e : Bool) : ∀ (f a n : Nat), Bord T a n → 0 < f → (rowsFrom r T e f a n).map (fun x => x.1) ≠ [] ∧ ((rowsFrom r T e f a n).map (fun x => x.1)).head? = some a ∧ ((rowsFrom r T e f a n).map (fun x => x.1)).Pairwise (· < ·)
  | 0, a, n, h, hf => by omega
  | f + 1, a, n, h, hf => by
    obtain ⟨b, _, h1, _⟩ := rowI_bord r T e a n h
    rw [rowsFrom]
    refine ⟨by simp, by simp, ?_⟩
    rw [List.map_cons]
    split
    · rename_i hc
      have h1 := h1 hc
      by_cases hf0 : 0 < f
      · obtain ⟨hne, hh, hp⟩ := rowsF_up r T e f _ _ b hf0
        refine List.pairwise_cons.2 ⟨fun y hy => ?_, hp⟩
        cases hl : (rowsFrom r T e f (rowAt1 r T e a n).1 (rowAt1 r T e a n).2.1).map (fun x => x.1) with
        | nil => exact absurd hl hne
        | cons z t =>
          rw [hl] at hh hp hy
          simp at hh
          rcases List.mem_cons.1 hy with rfl | hy
          · omega
          · have := (List.pairwise_cons.1 hp).1 y hy; omega
      · obtain rfl : f = 0 := by omega
        simp [rowsFrom]
    · simp
/-- fuel enough is fuel enough -/
theorem rowsF_fuel (r : Rul) (T : ByteArray) (e : Bool) : ∀ (f g a n : Nat), Bord T a n → T.size < a + f → T.size < a + g → rowsFrom r T e f a n = rowsFrom r T e g a n
  | 0, g, a, n, h, hf, hg => by have := h.1; omega
  | f + 1, g, a, n, h, hf, hg => by
    obtain ⟨b, _, h1, _⟩ := rowI_bord r T e a n h
    cases g with
    | zero => have := h.1; omega
    | succ g =>
      rw [rowsFrom, rowsFrom]
      split
      · rename_i hc
        have := h1 hc
        rw [rowsF_fuel r T e f g _ _ b (by omega) (by omega)]
      · rfl
theorem piecesF_mid (s : ByteArray) : ∀ (pre : List (Nat × ByteArray)) (a : Nat) (p : Nat × ByteArray) (post : List (Nat × ByteArray)), a ≤ s.size → piecesF s s.size a = pre ++ p :: post → piecesF s s.size p.1 = p :: post ∧ a ≤ p.1 ∧ p.1 < s.size ∧ ∀ q ∈ pre, q.1 < p.1
  | [], a, p, post, ha, h => by
    have hlt : a < s.size := by
      by_cases e : a < s.size
      · exact e
      · have : a = s.size := by omega
        rw [this, piecesF_nil] at h; cases h
    have h0 := h
    rw [piecesF_cons s a hlt] at h
    obtain ⟨hq, _⟩ := List.cons.inj h
    subst hq
    exact ⟨h0, Nat.le_refl _, hlt, fun q hq => by cases hq⟩
  | q :: pre, a, p, post, ha, h => by
    have hlt : a < s.size := by
      by_cases e : a < s.size
      · exact e
      · have : a = s.size := by omega
        rw [this, piecesF_nil] at h; cases h
    rw [piecesF_cons s a hlt, List.cons_append] at h
    obtain ⟨hq, h2⟩ := List.cons.inj h
    have hn := nextI_bd (s.extract a s.size) (by rw [ext_size s a (by omega)]; omega)
    rw [ext_size s a (by omega)] at hn
    obtain ⟨g1, g2, g3, g4⟩ := piecesF_mid s pre _ p post (by omega) h2
    refine ⟨g1, by omega, g3, fun x hx => ?_⟩
    rcases List.mem_cons.1 hx with rfl | hx
    · rw [← hq]; show a < p.1; omega
    · exact g4 x hx
theorem countF_some : ∀ (L : List (Nat × ByteArray)) (ks : List Int) (e : Nat), countF L ks = some e → ∃ pre p post, L = pre ++ p :: post ∧ p.1 = e ∧ ith ks pre.length = 2
  | [], ks, e, h => by cases ks <;> simp [countF] at h
  | p :: t, [], e, h => by simp [countF] at h
  | p :: t, k :: ks, e, h => by
    rw [countF] at h
    by_cases hk : k = 2
    · rw [if_pos hk] at h
      exact ⟨[], p, t, rfl, by simpa using h, hk⟩
    · rw [if_neg hk] at h
      obtain ⟨pre, q, post, h1, h2, h3⟩ := countF_some t ks e h
      exact ⟨p :: pre, q, post, by rw [h1]; rfl, h2, h3⟩
/-- a line as far as it counts has the line's first clusters -/
theorem textOf_pieces (s : ByteArray) : (textOf s).size ≤ s.size ∧ ∃ post, piecesI s = piecesI (textOf s) ++ post := by
  unfold textOf
  cases h : countI s with
  | none => exact ⟨Nat.le_refl _, [], by simp⟩
  | some e =>
    dsimp only
    obtain ⟨pre, p, post, h1, h2, _⟩ := countF_some _ _ _ h
    obtain ⟨g1, _, g3, g4⟩ := piecesF_mid s pre 0 p post (Nat.zero_le _) h1
    rw [h2] at g1 g3 g4
    have hz : (s.extract 0 e).size = e := by simp [ByteArray.size_extract]; omega
    refine ⟨by omega, p :: post, ?_⟩
    rw [h1]
    congr 1
    unfold piecesI
    rw [hz]
    exact (piecesF_cut s e (by omega) e 0 pre (Nat.zero_le _) (by omega) (by rw [g1]; exact h1) g4).symm
/-- the last row that begins at c or ahead of it -/
def atG (c : Int) : List Int → Nat → Int → Int
  | [], _, k => k
  | r :: t, i, k => atG c t (i + 1) (if r ≤ c ∨ i = 0 then (i : Int) else k)
/-- the row of a caret -/
def atI (ats : List Int) (c : Int) (back : Bool) : Int :=
  if back = true ∧ 0 < atG c ats 0 (-1) ∧ ith ats (atG c ats 0 (-1)).toNat = c then atG c ats 0 (-1) - 1 else atG c ats 0 (-1)
theorem atG_spec (c : Int) (ats : List Int) : ∀ (L : List Int) (i : Nat) (k : Int), ats.drop i = L →
    k < (i : Int) → ((atG c L i k = k ∧ (0 < i ∨ L = [])) ∨ ∃ K : Nat, atG c L i k = K ∧ i ≤ K ∧ K < ats.length ∧ (K = 0 ∨ ith ats K ≤ c)) ∧ ∀ j : Nat, i ≤ j → atG c L i k < j → j < ats.length → c < ith ats j
  | [], i, k, h, hk => by
    have := congrArg List.length h
    rw [List.length_drop, List.length_nil] at this
    exact ⟨.inl ⟨rfl, .inr rfl⟩, fun j h1 _ h3 => by omega⟩
  | r :: t, i, k, h, hk => by
    have hl := congrArg List.length h
    rw [List.length_drop, List.length_cons] at hl
    have hr : ith ats i = r := by
      have := congrArg (·[0]?) h
      rw [List.getElem?_drop] at this
      simp at this
      unfold ith
      rw [List.getD_eq_getElem?_getD, this]
      rfl
    have ht : ats.drop (i + 1) = t := by
      have := congrArg List.tail h
      rwa [List.tail_drop] at this
    rw [atG]
    by_cases hc : r ≤ c ∨ i = 0
    · rw [if_pos hc]
      obtain ⟨h1, h2⟩ := atG_spec c ats t (i + 1) (i : Int) ht (by omega)
      refine ⟨.inr ?_, fun j j1 j2 j3 => ?_⟩
      · rcases h1 with ⟨e, _⟩ | ⟨K, e, a, b, d⟩
        · exact ⟨i, e, Nat.le_refl _, by omega, by rw [hr]; omega⟩
        · exact ⟨K, e, by omega, b, d⟩
      · by_cases e : j = i
        · exfalso
          rcases h1 with ⟨e2, _⟩ | ⟨K, e2, a, _⟩ <;> omega
        · exact h2 j (by omega) j2 j3
    · rw [if_neg hc]
      obtain ⟨h1, h2⟩ := atG_spec c ats t (i + 1) k ht (by omega)
      refine ⟨?_, fun j j1 j2 j3 => ?_⟩
      · rcases h1 with ⟨e, _⟩ | ⟨K, e, a, b, d⟩
        · exact .inl ⟨e, .inl (by omega)⟩
        · exact .inr ⟨K, e, by omega, b, d⟩
      · by_cases e : j = i
        · rw [e, hr]; omega
        · exact h2 j (by omega) j2 j3
/-- of a list that is not empty: the row told begins at c or ahead of it, if it is not the first; the later ones begin behind c -/
theorem atG_ne (c : Int) (ats : List Int) (h : ats ≠ []) : ∃ K : Nat, atG c ats 0 (-1) = K ∧ K < ats.length ∧ (K = 0 ∨ ith ats K ≤ c) ∧ ∀ j : Nat, K < j → j < ats.length → c < ith ats j := by
  obtain ⟨h1, h2⟩ := atG_spec c ats ats 0 (-1) rfl (by omega)
  rcases h1 with ⟨_, e⟩ | ⟨K, e, _, b, d⟩
  · rcases e with e | e
    · omega
    · exact absurd e h
  · exact ⟨K, e, b, d, fun j j1 j2 => h2 j (Nat.zero_le _) (by omega) j2⟩
/-- rows that rise from 0: what WrapFinds asks of the row told -/
theorem finds_plain (ats : List Int) (c : Int) (back : Bool) (hne : ats ≠ []) (h0 : ith ats 0 = 0) (hup : ∀ i j : Nat, i < j → j < ats.length → ith ats i < ith ats j) :
    ∃ k : Nat, atI ats c back = k ∧ k < ats.length ∧ (c < 0 → k = 0) ∧ (0 ≤ c → ith ats k ≤ c ∧ (k + 1 < ats.length → c ≤ ith ats (k + 1) ∧ (ith ats (k + 1) = c → back = true))) := by
  obtain ⟨K, e, hK, h1, h2⟩ := atG_ne c ats hne
  unfold atI
  rw [e, Int.toNat_natCast]
  by_cases hb : back = true ∧ 0 < (K : Int) ∧ ith ats K = c
  · rw [if_pos hb]
    obtain ⟨k, rfl⟩ : ∃ k, K = k + 1 := ⟨K - 1, by omega⟩
    have hu := hup k (k + 1) (by omega) hK
    have hu0 : 0 ≤ ith ats k := by
      cases k with
      | zero => omega
      | succ k => have := hup 0 (k + 1) (by omega) (by omega); omega
    exact ⟨k, by omega, by omega, fun h => by omega, fun h => ⟨by omega, fun _ => ⟨by omega, fun _ => hb.1⟩⟩⟩
  · rw [if_neg hb]
    refine ⟨K, rfl, hK, fun h => ?_, fun h => ⟨?_, fun h3 => ?_⟩⟩
    · cases K with
      | zero => rfl
      | succ K => have := hup 0 (K + 1) (by omega) hK; omega
    · rcases h1 with rfl | h1
      · omega
      · exact h1
    · have := h2 (K + 1) (by omega) h3
      exact ⟨by omega, fun h => by omega⟩
theorem whereI_len (s : ByteArray) : (whereI s).length = (piecesI s).length := by
  rw [whereI_K]
  cases h : piecesI s with
  | nil => rfl
  | cons p t => rw [List.map_cons, whereK, whereF_len, List.length_map, List.length_cons]
/-- clusters ahead and clusters left are all the clusters -/
theorem Bord.len {s : ByteArray} {b k : Nat} (h : Bord s b k) : k + (piecesI (s.extract b s.size)).length = (piecesI s).length := by
  obtain ⟨hb, pre, hp, hl⟩ := h
  have := congrArg List.length (piecesF_map s b hb)
  rw [List.length_map, List.length_map] at this
  rw [hp, List.length_append, this]
  omega
theorem textOf_len (s : ByteArray) : (piecesI (textOf s)).length ≤ (whereI s).length := by
  obtain ⟨_, post, h⟩ := textOf_pieces s
  rw [whereI_len, h, List.length_append]
  omega
end Go.Proofs.YtlbclfmbejjneaaGreatDoor
