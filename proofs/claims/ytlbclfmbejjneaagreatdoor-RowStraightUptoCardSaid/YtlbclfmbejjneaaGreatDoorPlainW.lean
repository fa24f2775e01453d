/- Plain facts on the rows of a line: what stands in them, how wide they are, where they end. No program is in sight. -/
import Derived.Test.YtlbclfmbejjneaaGreatDoorWrapP
namespace Go.Proofs.YtlbclfmbejjneaaGreatDoor
set_option linter.unusedVariables false
set_option linter.unusedSimpArgs false

/-- the column behind clusters that are shown one behind the other from a column on -/
def wideF (tab : Int) (wd raw : Bool) : List ByteArray → Int → Int
  | [], x => x
  | c :: t, x => wideF tab wd raw t (x + (textI c x tab wd raw).2)
theorem wideF_app (tab : Int) (wd raw : Bool) : ∀ (l m : List ByteArray) (x : Int), wideF tab wd raw (l ++ m) x = wideF tab wd raw m (wideF tab wd raw l x)
  | [], _, _ => rfl
  | c :: t, m, x => by rw [List.cons_append, wideF, wideF, wideF_app tab wd raw t]
theorem wideF_le (tab : Int) (wd raw : Bool) : ∀ (l : List ByteArray) (x : Int), x ≤ wideF tab wd raw l x
  | [], _ => Int.le_refl _
  | c :: t, x => by
    have h1 := wideF_le tab wd raw t (x + (textI c x tab wd raw).2)
    have h2 := (textI_bd c x tab wd raw).1
    rw [wideF]
    omega
theorem wideF_up (tab : Int) (wd raw : Bool) : ∀ (l : List ByteArray) (x : Int), wideF tab wd raw l x ≤ x + 19 * l.length
  | [], x => by simp [wideF]
  | c :: t, x => by
    have h1 := wideF_up tab wd raw t (x + (textI c x tab wd raw).2)
    have h2 := (textI_bd c x tab wd raw).2
    rw [wideF, List.length_cons]
    omega
/-- the columns of clusters from column 0 on, in a row's look -/
def wOf (r : Rul) (P : List ByteArray) : Int := wideF r.tab r.wideA r.raw P 0
theorem wOf_nil (r : Rul) : wOf r [] = 0 := rfl
theorem wOf_snoc (r : Rul) (P : List ByteArray) (x : ByteArray) : wOf r (P ++ [x]) = wOf r P + (textI x (wOf r P) r.tab r.wideA r.raw).2 := by
  unfold wOf
  rw [wideF_app]
  rfl
theorem wOf_pre (r : Rul) (P Q : List ByteArray) : wOf r P ≤ wOf r (P ++ Q) := by
  unfold wOf
  rw [wideF_app]
  exact wideF_le _ _ _ _ _
/-- columns told of clusters: all of them, or fewer where they are too many -/
def Fits (r : Rul) (P : List ByteArray) (x : Int) : Prop := x = wOf r P ∨ (x ≤ wOf r P ∧ r.w < wOf r P)
/-- bytes of clusters -/
def szs : List ByteArray → Nat
  | [] => 0
  | c :: t => c.size + szs t
theorem szs_app : ∀ (l m : List ByteArray), szs (l ++ m) = szs l + szs m
  | [], m => by simp [szs]
  | c :: t, m => by rw [List.cons_append, szs, szs, szs_app t]; omega
/-- a row that is being filled: P stands in it, M up to where it may end -/
def FlP (r : Rul) (a n : Nat) (P M : List ByteArray) (s : Fl) : Prop :=
  s.a = a + szs P ∧ s.n = n + P.length ∧ s.ma = a + szs M ∧ s.mn = n + M.length ∧ (s.hangs = false → s.wide = wOf r P) ∧ (s.hangs = true → s.wide ≤ wOf r P ∧ r.w < wOf r P) ∧ 0 ≤ s.wide ∧ s.wide ≤ r.w ∧
  Fits r M s.mw ∧ 0 ≤ s.mw ∧ s.mw ≤ r.w ∧ M <+: P ∧ (M = [] ∨ ith r.wh (n + M.length - 1) = 1)
theorem FlP.start (r : Rul) (hw : 0 ≤ r.w) (a n : Nat) : FlP r a n [] [] (fl0 a n) :=
  ⟨rfl, rfl, rfl, rfl, fun _ => rfl, (fun h => by cases h), Int.le_refl _, hw, .inl rfl, Int.le_refl _, hw, List.prefix_refl _, .inl rfl⟩
theorem FlP.fits {r : Rul} {a n : Nat} {P M : List ByteArray} {s : Fl} (h : FlP r a n P M s) : Fits r P s.wide := by
  obtain ⟨_, _, _, _, h1, h2, _⟩ := h
  cases hh : s.hangs with
  | false => exact .inl (h1 hh)
  | true => exact .inr (h2 hh)
/-- one cluster more -/
theorem FlP.adv {r : Rul} {a n : Nat} {P M : List ByteArray} {s : Fl} (h : FlP r a n P M s) (x : ByteArray) (hg : Bool) (c : Int) (hc0 : 0 ≤ c) (hcw : s.wide + c ≤ r.w)
    (hf : hg = false → s.wide + c = wOf r (P ++ [x])) (ht : hg = true → s.wide + c ≤ wOf r (P ++ [x]) ∧ r.w < wOf r (P ++ [x])) :
    ∃ M', FlP r a n (P ++ [x]) M' (adv r.wh x.size { s with hangs := hg, c := c }) := by
  obtain ⟨h1, h2, h3, h4, h5, h6, h7, h8, h9, h10, h11, h12, h13⟩ := h
  have hsz : s.a + x.size = a + szs (P ++ [x]) := by rw [szs_app, szs, szs, h1]; omega
  have hle : s.n + 1 = n + (P ++ [x]).length := by rw [List.length_append, h2]; simp; omega
  by_cases hm : ith r.wh s.n = 1
  · refine ⟨P ++ [x], hsz, hle, ?_, ?_, hf, ht, ?_, hcw, ?_, ?_, ?_, List.prefix_refl _, .inr ?_⟩
    · show (if ith r.wh s.n = 1 then s.a + x.size else s.ma) = _
      rw [if_pos hm, hsz]
    · show (if ith r.wh s.n = 1 then s.n + 1 else s.mn) = _
      rw [if_pos hm, hle]
    · show 0 ≤ s.wide + c
      omega
    · show Fits r _ (if ith r.wh s.n = 1 then s.wide + c else s.mw)
      rw [if_pos hm]
      cases hg with
      | false => exact .inl (hf rfl)
      | true => exact .inr (ht rfl)
    · show 0 ≤ (if ith r.wh s.n = 1 then s.wide + c else s.mw)
      rw [if_pos hm]; omega
    · show (if ith r.wh s.n = 1 then s.wide + c else s.mw) ≤ _
      rw [if_pos hm]; omega
    · rw [← hle, Nat.add_sub_cancel]; exact hm
  · refine ⟨M, hsz, hle, ?_, ?_, hf, ht, ?_, hcw, ?_, ?_, ?_, h12.trans (List.prefix_append _ _), h13⟩
    · show (if ith r.wh s.n = 1 then s.a + x.size else s.ma) = _
      rw [if_neg hm, h3]
    · show (if ith r.wh s.n = 1 then s.n + 1 else s.mn) = _
      rw [if_neg hm, h4]
    · show 0 ≤ s.wide + c
      omega
    · show Fits r _ (if ith r.wh s.n = 1 then s.wide + c else s.mw)
      rw [if_neg hm]; exact h9
    · show 0 ≤ (if ith r.wh s.n = 1 then s.wide + c else s.mw)
      rw [if_neg hm]; exact h10
    · show (if ith r.wh s.n = 1 then s.wide + c else s.mw) ≤ _
      rw [if_neg hm]; exact h11
/-- what is known of a row that is filled -/
theorem fill_law (r : Rul) (hw : 0 ≤ r.w) (a n : Nat) : ∀ (L P M : List ByteArray) (s : Fl), FlP r a n P M s →
    ∃ st full Q R M', fillRow r L s = (st, full) ∧ L = Q ++ R ∧ FlP r a n (P ++ Q) M' { st with c := 0 } ∧ (full = false → R = []) ∧
      (full = true → ∃ x R', R = x :: R' ∧ r.w < wOf r (P ++ Q ++ [x]) ∧ st.c = (textI x st.wide r.tab r.wideA r.raw).2)
  | [], P, M, s, h => ⟨s, false, [], [], M, rfl, rfl, by rw [List.append_nil]; exact h, fun _ => rfl, fun h => by cases h⟩
  | x :: t, P, M, s, h => by
    have hh := h
    obtain ⟨h1, h2, h3, h4, h5, h6, h7, h8, h9, h10, h11, h12, h13⟩ := h
    have htb := textI_bd x s.wide r.tab r.wideA r.raw
    have hsn := wOf_snoc r P x
    have hup := wOf_pre r P [x]
    have key : ∀ s' : Fl, (∃ M', FlP r a n (P ++ [x]) M' s') → ∃ st full Q R M', fillRow r t s' = (st, full) ∧ x :: t = Q ++ R ∧ FlP r a n (P ++ Q) M' { st with c := 0 } ∧ (full = false → R = []) ∧
        (full = true → ∃ x R', R = x :: R' ∧ r.w < wOf r (P ++ Q ++ [x]) ∧ st.c = (textI x st.wide r.tab r.wideA r.raw).2) := by
      rintro s' ⟨M', hM⟩
      obtain ⟨st, full, Q, R, M'', e1, e2, e3, e4, e5⟩ := fill_law r hw a n t (P ++ [x]) M' s' hM
      refine ⟨st, full, x :: Q, R, M'', e1, by rw [e2]; rfl, ?_, e4, ?_⟩
      · rw [show P ++ x :: Q = P ++ [x] ++ Q by simp]; exact e3
      · rw [show P ++ x :: Q = P ++ [x] ++ Q by simp]; exact e5
    rw [fillRow]
    unfold stepF
    by_cases c1 : blankC x = true ∧ (s.hangs = true ∨ r.w < s.wide + (textI x s.wide r.tab r.wideA r.raw).2)
    · rw [if_pos c1, if_neg (by simp)]
      refine key _ (hh.adv x true 0 (Int.le_refl _) (by omega) (fun h => by cases h) (fun _ => ?_))
      cases hg : s.hangs with
      | true =>
        have := h6 hg
        omega
      | false =>
        have e := h5 hg
        rcases c1.2 with c | c
        · rw [hg] at c; cases c
        · rw [e] at c htb
          omega
    · rw [if_neg c1]
      by_cases c2 : s.hangs = true ∨ r.w < s.wide + (textI x s.wide r.tab r.wideA r.raw).2
      · rw [if_pos c2, if_pos rfl]
        refine ⟨_, true, [], x :: t, M, rfl, rfl, by rw [List.append_nil]; exact hh, (fun h => by cases h), fun _ => ⟨x, t, rfl, ?_, rfl⟩⟩
        rw [List.append_nil]
        cases hg : s.hangs with
        | true => have := h6 hg; omega
        | false =>
          have e := h5 hg
          rcases c2 with c | c
          · rw [hg] at c; cases c
          · rw [e] at c; omega
      · rw [if_neg c2, if_neg (by simp)]
        have hg : s.hangs = false := by
          cases hg : s.hangs with
          | false => rfl
          | true => exact absurd (.inl hg) c2
        have e := h5 hg
        have hle : s.wide + (textI x s.wide r.tab r.wideA r.raw).2 ≤ r.w := by
          by_cases hc : r.w < s.wide + (textI x s.wide r.tab r.wideA r.raw).2
          · exact absurd (.inr hc) c2
          · omega
        refine key _ ?_
        have := hh.adv x s.hangs (textI x s.wide r.tab r.wideA r.raw).2 htb.1 hle (fun _ => by rw [hsn, e]) (fun h => by rw [hg] at h; cases h)
        exact this
theorem szs_zero {T : ByteArray} : ∀ {P R : List ByteArray} {a f : Nat}, (piecesF T f a).map (·.2) = P ++ R → szs P = 0 → P = []
  | [], _, _, _, _, _ => rfl
  | c :: P, R, a, f, h, hz => by
    exfalso
    cases f with
    | zero => rw [piecesF] at h; cases h
    | succ f =>
      rw [piecesF] at h
      by_cases hl : a < T.size
      · rw [if_pos hl, List.map_cons, List.cons_append] at h
        obtain ⟨hc, _⟩ := List.cons.inj h
        have hn := nextI_bd (T.extract a T.size) (by rw [ext_size T a (by omega)]; omega)
        rw [ext_size T a (by omega)] at hn
        have : c.size = nextI (T.extract a T.size) := by rw [← hc]; simp [ByteArray.size_extract]; omega
        rw [szs] at hz
        omega
      · rw [if_neg hl] at h; cases h
/-- a row: what stands in it -/
theorem row_law (r : Rul) (hw : 1 ≤ r.w) (T : ByteArray) (e : Bool) (a n : Nat) (h : Bord T a n) :
    ∃ P R, (piecesF T T.size a).map (·.2) = P ++ R ∧ (rowAt1 r T e a n).1 = a + szs P ∧ (rowAt1 r T e a n).2.1 = n + P.length ∧ Fits r P (rowAt1 r T e a n).2.2.1 ∧ 0 ≤ (rowAt1 r T e a n).2.2.1 ∧
      ((rowAt1 r T e a n).2.2.2 = 2 → P ≠ [] ∧ ith r.wh (n + P.length - 1) = 1) ∧
      ((rowAt1 r T e a n).2.2.2 = 3 → P ≠ [] ∧ ∀ x R', R = x :: R' → r.w < wOf r (P ++ [x])) ∧
      (r.w < (rowAt1 r T e a n).2.2.1 → P.length = 1) ∧ (wOf r (P ++ R) ≤ r.w → R = []) := by
  have hl : lastEnd e ≠ 2 ∧ lastEnd e ≠ 3 := by unfold lastEnd; split <;> constructor <;> decide
  obtain ⟨st, full, Q, R, M, hf, hL, hF, h6, h7⟩ := fill_law r (by omega) a n _ [] [] _ (FlP.start r (by omega) a n)
  rw [List.nil_append] at hF h7
  have hf2 : fillRow r ((piecesI (T.extract a T.size)).map (·.2)) (fl0 a n) = (st, full) := hf
  rw [piecesF_map T a h.1] at hL
  have hfit := hF.fits
  obtain ⟨f1, f2, f3, f4, f5, f6, f7, f8, f9, f10, f11, f12, f13⟩ := hF
  dsimp only at f1 f2 f3 f4 f5 f6 f7 f8 f9 f10 f11 hfit
  have h0 := hL
  unfold rowAt1
  rw [hf2]
  cases full with
  | false =>
    have hR := h6 rfl
    subst hR
    exact ⟨Q, [], h0, f1, f2, hfit, f7, fun h => absurd h hl.1, fun h => absurd h hl.2, fun h => by dsimp only at h; omega, fun _ => rfl⟩
  | true =>
    obtain ⟨x, R', rfl, hx, hc⟩ := h7 rfl
    have hbig : ∀ P R0, P ++ R0 = Q ++ x :: R' → ¬ wOf r (P ++ R0) ≤ r.w := by
      intro P R0 he
      rw [he, show Q ++ x :: R' = (Q ++ [x]) ++ R' by simp]
      have := wOf_pre r (Q ++ [x]) R'
      omega
    dsimp only
    by_cases c1 : a < st.ma
    · rw [if_pos c1]
      obtain ⟨S, hS⟩ := f12
      have hM : M ≠ [] := by rintro rfl; rw [szs] at f3; omega
      refine ⟨M, S ++ x :: R', by rw [h0, ← hS, List.append_assoc], f3, f4, f9, f10, fun _ => ⟨hM, f13.resolve_left hM⟩, (fun h => by dsimp only at h; omega), (fun h => by dsimp only at h; omega), fun hh => absurd hh (hbig _ _ (by rw [← hS, List.append_assoc]))⟩
    · rw [if_neg c1]
      by_cases c2 : a < st.a
      · rw [if_pos c2]
        have hQ : Q ≠ [] := by rintro rfl; rw [szs] at f1; omega
        exact ⟨Q, x :: R', h0, f1, f2, hfit, f7, (fun h => by dsimp only at h; omega), fun _ => ⟨hQ, fun y S he => by cases he; exact hx⟩, (fun h => by dsimp only at h; omega), fun hh => absurd hh (hbig _ _ rfl)⟩
      · rw [if_neg c2]
        have hQ : Q = [] := szs_zero h0 (by omega)
        subst hQ
        rw [List.nil_append] at hx h0
        rw [szs] at f1
        have hxa : st.a = a := by omega
        have hlt : a < T.size := by
          by_cases e : a < T.size
          · exact e
          · have : a = T.size := by have := h.1; omega
            rw [this, piecesF_nil] at h0; cases h0
        have hxs : x = T.extract a (a + nextI (T.extract a T.size)) := by
          rw [piecesF_cons T a hlt, List.map_cons] at h0
          exact (List.cons.inj h0).1.symm
        have hn := nextI_bd (T.extract a T.size) (by rw [ext_size T a (by omega)]; omega)
        rw [ext_size T a (by omega)] at hn
        have hxz : x.size = nextI (T.extract a T.size) := by rw [hxs]; simp [ByteArray.size_extract]; omega
        have hh0 : st.hangs = false := by
          cases hg : st.hangs with
          | false => rfl
          | true => have := f6 hg; rw [wOf_nil] at this; omega
        have hw0 : st.wide = 0 := f5 hh0
        have hc0 : st.c = wOf r [x] := by
          have := wOf_snoc r [] x
          rw [wOf_nil, List.nil_append] at this
          rw [this, hc, hw0]; omega
        have hcb := (textI_bd x st.wide r.tab r.wideA r.raw).1
        refine ⟨[x], R', h0, ?_, ?_, .inl hc0, ?_, fun hh => ?_, fun hh => ⟨by simp, fun y S he => ?_⟩, fun _ => rfl, fun hh => absurd hh (hbig _ _ rfl)⟩
        · show st.a + nextI (T.extract st.a T.size) = a + szs [x]
          rw [hxa, szs, szs, hxz]; omega
        · show st.n + 1 = _
          rw [f2]; simp
        · show 0 ≤ st.c
          omega
        · exfalso
          dsimp only at hh
          split at hh
          · exact hl.1 hh
          · omega
        · have := wOf_pre r [x] [y]
          omega
theorem ext_eq {t : ByteArray} {a b c d : Nat} (h1 : a = c) (h2 : b = d) : t.extract a b = t.extract c d := by rw [h1, h2]
/-- the clusters of what stands between two borders -/
theorem cut_pieces (T : ByteArray) (a n : Nat) (h : Bord T a n) (P R : List ByteArray) (hP : (piecesF T T.size a).map (·.2) = P ++ R) :
    a + szs P ≤ T.size ∧ Bord T (a + szs P) (n + P.length) ∧ (piecesI (T.extract a (a + szs P))).map (·.2) = P ∧ (piecesF T T.size (a + szs P)).map (·.2) = R := by
  induction P generalizing a n with
  | nil =>
    have hz : (T.extract a (a + szs [])).size = 0 := by rw [szs]; simp [ByteArray.size_extract]
    rw [szs, Nat.add_zero]
    refine ⟨h.1, h, ?_, by rw [hP]; rfl⟩
    unfold piecesI
    rw [szs, Nat.add_zero] at hz
    rw [hz]; rfl
  | cons x t ih =>
    have hlt : a < T.size := by
      by_cases e : a < T.size
      · exact e
      · have : a = T.size := by have := h.1; omega
        rw [this, piecesF_nil] at hP; cases hP
    have hP0 := hP
    rw [piecesF_cons T a hlt, List.map_cons, List.cons_append] at hP
    obtain ⟨hx, ht⟩ := List.cons.inj hP
    have hn := nextI_bd (T.extract a T.size) (by rw [ext_size T a (by omega)]; omega)
    rw [ext_size T a (by omega)] at hn
    have hxz : x.size = nextI (T.extract a T.size) := by rw [← hx]; simp [ByteArray.size_extract]; omega
    obtain ⟨i1, i2, i3, i4⟩ := ih (a + nextI (T.extract a T.size)) (n + 1) (h.next hlt) ht
    have hs : a + szs (x :: t) = a + nextI (T.extract a T.size) + szs t := by rw [szs, hxz]; omega
    rw [hs]
    refine ⟨i1, by rw [List.length_cons, show n + (t.length + 1) = n + 1 + t.length by omega]; exact i2, ?_, i4⟩
    -- the first cluster of the cut text
    obtain ⟨e, he⟩ : ∃ e, a + nextI (T.extract a T.size) + szs t = e := ⟨_, rfl⟩
    rw [he] at i1 i3 ⊢
    obtain ⟨u, hu⟩ : ∃ u, T.extract a T.size = u := ⟨_, rfl⟩
    have huz : u.size = T.size - a := by rw [← hu]; exact ext_size T a (by omega)
    have hcut : T.extract a e = u.extract 0 (e - a) := by
      rw [← hu, ext_ext]
      exact ext_eq (by omega) (by omega)
    rw [hu] at hn hxz hx he i3
    have hnc := next_cut u (e - a) (by omega) (by omega)
    rw [hcut]
    have hz : (u.extract 0 (e - a)).size = e - a := by simp [ByteArray.size_extract]; omega
    unfold piecesI
    rw [hz]
    have hc := piecesF_cons (u.extract 0 (e - a)) 0 (by rw [hz]; omega)
    rw [hz, show (u.extract 0 (e - a)).extract 0 (e - a) = u.extract 0 (e - a) by rw [ext_ext]; exact ext_eq (by omega) (by omega), hnc, Nat.zero_add] at hc
    have hq0 : u.extract 0 (nextI u) = x := by
      rw [← hx]
      generalize nextI u = m at hn hxz he
      rw [← hu, ext_ext]
      exact ext_eq (by omega) (by omega)
    have hq : (u.extract 0 (e - a)).extract (nextI u) (e - a) = T.extract (a + nextI u) e := by
      generalize nextI u = m at hn hxz he
      rw [← hu, ext_ext, ext_ext]
      exact ext_eq (by omega) (by omega)
    have hq1 : (u.extract 0 (e - a)).extract 0 (nextI u) = x := by
      rw [← hq0, ext_ext]
      exact ext_eq (by omega) (by omega)
    rw [hc, List.map_cons, hq1]
    refine congrArg (x :: ·) ?_
    have hp := pieces_tail (u.extract 0 (e - a)) (nextI u) (by rw [hz]; omega)
    rw [hz, hq] at hp
    rw [hp, List.map_map, ← i3]
    rfl
end Go.Proofs.YtlbclfmbejjneaaGreatDoor
