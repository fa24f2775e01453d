/- Laws for a function that asks a number against many ranges, arm after arm (a great switch), built from a list of the ranges: of whatever program. No conditions. -/
import Derived.Test.YtbhhebheclfdlaaTab
namespace Go.Proofs.Ytbhhebheclfdlaa
set_option linter.unusedVariables false
set_option linter.unusedSimpArgs false
open Go.RowKit Go.Great

/-- one test of an arm -/
inductive Rg where
  | rng (lo hi : Int)
  | eq (c : Int)
  | le (c : Int)
def Rg.w : Rg → Nat
  | .rng _ _ => 6
  | .eq _ => 2
  | .le _ => 2
def Rg.has (r : Int) : Rg → Bool
  | .rng lo hi => decide (r ≥ lo) && decide (r ≤ hi)
  | .eq c => r == c
  | .le c => decide (r ≤ c)
def rgOps (T B : TypeId) (pos : String) (n s : Nat) : Rg → List Oper
  | .rng lo hi => [
    { dst := some n, op := .move (.tmp 0), type := T, pos := pos, after := #[], guard := none },
    { dst := some (n + 1), op := .binOp .geq T (.tmp n) (.const (.int .i32 lo)) T, type := B, pos := pos, after := #[{ on := 0, ground := .data }], guard := none },
    { dst := some (n + 2), op := .move (.tmp (n + 1)), type := B, pos := pos, after := #[{ on := 1, ground := .data }], guard := none },
    { dst := some (n + 3), op := .move (.tmp 0), type := T, pos := pos, after := #[{ on := 2, ground := .guard }], guard := some (2, true) },
    { dst := some (n + 4), op := .binOp .leq T (.tmp (n + 3)) (.const (.int .i32 hi)) T, type := B, pos := pos, after := #[{ on := 3, ground := .data }, { on := 2, ground := .guard }], guard := some (2, true) },
    { dst := some (n + 5), op := .pick (.tmp (n + 2)) (.tmp (n + 4)) (.const (.bool false)), type := B, pos := pos, after := #[{ on := 2, ground := .data }, { on := 4, ground := .data }], guard := none },
    { dst := some s, op := .assign (.tmp (n + 5)), type := B, pos := pos, after := #[{ on := 5, ground := .data }, { on := 2, ground := .chain }], guard := none }]
  | .eq c => [
    { dst := some n, op := .move (.tmp 0), type := T, pos := pos, after := #[], guard := none },
    { dst := some (n + 1), op := .binOp .eql T (.tmp n) (.const (.int .i32 c)) T, type := B, pos := pos, after := #[{ on := 0, ground := .data }], guard := none },
    { dst := some s, op := .assign (.tmp (n + 1)), type := B, pos := pos, after := #[{ on := 1, ground := .data }], guard := none }]
  | .le c => [
    { dst := some n, op := .move (.tmp 0), type := T, pos := pos, after := #[], guard := none },
    { dst := some (n + 1), op := .binOp .leq T (.tmp n) (.const (.int .i32 c)) T, type := B, pos := pos, after := #[{ on := 0, ground := .data }], guard := none },
    { dst := some s, op := .assign (.tmp (n + 1)), type := B, pos := pos, after := #[{ on := 1, ground := .data }], guard := none }]
def gsW : List Rg → Nat
  | [] => 0
  | g :: gs => g.w + gsW gs
def stepsC (T B : TypeId) (pos : String) (s : Nat) : List Rg → Nat → Nat → Code
  | [], _, _ => .skip
  | [g], id, n => .region id (rgOps T B pos n s g).toArray false
  | g :: g2 :: gs, id, n => .seq (.region id (rgOps T B pos n s g).toArray false) (.cond (.tmp s) .skip (stepsC T B pos s (g2 :: gs) (id + 1) (n + g.w)))
/-- an arm: its tests, what it answers, where it stands -/
structure Arm where
  gs : List Rg
  v : Int
  pos : String
  pos2 : String
def casesC (T B R : TypeId) (k : IntKind) : List Arm → Nat → Nat → Code
  | [], _, _ => .skip
  | x :: rest, id, n => .seq (stepsC T B x.pos n x.gs id (n + 1)) (.cond (.tmp n) (.seq (.region (id + x.gs.length) #[{ dst := some 2, op := .assign (.const (.int k x.v)), type := R, pos := x.pos2, after := #[], guard := none }] false) .ret)
      (casesC T B R k rest (id + x.gs.length + 1) (n + 1 + gsW x.gs)))
def armsW : List Arm → Nat
  | [] => 0
  | x :: rest => 1 + gsW x.gs + armsW rest
def armsLook : List Arm → Int → Option Int
  | [], _ => none
  | x :: rest, r => if x.gs.any (Rg.has r) then some x.v else armsLook rest r

section
variable {P : Program} {ops : Array Oper} {rest : List Oper} {o : Oper} {a : Act} {w : World} {Q : Exit → Act → World → Prop}
theorem wpList_val (hw : Region.wanted o (yielded ops a.tmps) = true) (dst : Option Tmp) (hdst : o.dst = dst) (v : Value) (hrun : (execOp a.eval o).run P w = .ok (.value v) w)
    (h : wpList P ops Q rest (a.put dst v) w) : wpList P ops Q (o :: rest) a w := by
  subst hdst
  unfold wpList
  rw [if_pos hw]
  refine .inl ?_
  unfold Oper.wp
  rw [hrun, Oper.upon_value]
  exact h
theorem wpList_out (hw : Region.wanted o (yielded ops a.tmps) = false) (dst : Option Tmp) (hdst : o.dst = dst)
    (h : wpList P ops Q rest (a.put dst undef) w) : wpList P ops Q (o :: rest) a w := by
  subst hdst
  unfold wpList
  rw [if_neg (by rw [hw]; decide)]
  exact h
theorem yielded_of {j d : Nat} {b : Bool} (hd : (ops[j]?).bind (·.dst) = some d) (hv : a.eval (.tmp d) = .bool b) : yielded ops a.tmps j = some b := by
  unfold yielded
  rw [hd]
  show (match a.tmps[d]? with | some (.bool b) => some b | _ => none) = some b
  have h : a.tmps.getD d undef = .bool b := hv
  rw [Array.getD_eq_getD_getElem?] at h
  cases hx : a.tmps[d]? with
  | none => rw [hx] at h; exact absurd h (by simp [undef])
  | some v => rw [hx] at h; simp only [Option.getD_some] at h; subst h; rfl

theorem run_geq {ev : Operand → Value} {x y : Operand} {T T' : TypeId} {u v : Int} (ho : o.op = .binOp .geq T x y T') (hx : ev x = .int .i32 u) (hy : ev y = .int .i32 v) : (execOp ev o).run P w = .ok (.value (.bool (decide (u ≥ v)))) w := by
  simp [execOp, ho, hx, hy, binOp_geq, eqGuard]
theorem run_leq {ev : Operand → Value} {x y : Operand} {T T' : TypeId} {u v : Int} (ho : o.op = .binOp .leq T x y T') (hx : ev x = .int .i32 u) (hy : ev y = .int .i32 v) : (execOp ev o).run P w = .ok (.value (.bool (decide (u ≤ v)))) w := by
  simp [execOp, ho, hx, hy, binOp_leq, eqGuard]
theorem run_eql {ev : Operand → Value} {x y : Operand} {T T' : TypeId} {u v : Int} (hT : P.underlying T = some (.int .i32)) (ho : o.op = .binOp .eql T x y T') (hx : ev x = .int .i32 u) (hy : ev y = .int .i32 v) : (execOp ev o).run P w = .ok (.value (.bool (u == v))) w := by
  simp [execOp, ho, hx, hy, binOp_eql, eqGuard]
theorem run_pick {ev : Operand → Value} {c x y : Operand} {b : Bool} (ho : o.op = .pick c x y) (hc : ev c = .bool b) : (execOp ev o).run P w = .ok (.value (if b then ev x else ev y)) w := by
  simp [execOp, ho, hc, asBool]

theorem rg_wp {T B : TypeId} {id n s : Nat} {pos : String} (hT : P.underlying T = some (.int .i32)) (g : Rg) {r : Int} (h0 : a.eval (.tmp 0) = .int .i32 r) (hn : 0 < n) (hs : 0 < s) (hsn : s < n) (hsz : n + g.w ≤ a.tmps.size)
    (h : ∀ a' : Act, a'.tmps.size = a.tmps.size → a'.defers = a.defers → a'.eval (.tmp 0) = .int .i32 r → a'.eval (.tmp s) = .bool (g.has r) → Q .normal a' w) :
    (Code.region id (rgOps T B pos n s g).toArray false).wp P Q a w := by
  apply wp_region_lit
  have ne : ∀ (b : Act) (d j : Nat) (v : Value), d ≠ j → (b.put (some d) v).eval (.tmp j) = b.eval (.tmp j) := fun b d j v h => Act.eval_put_ne b d j v h
  have sm : ∀ (b : Act) (d : Nat) (v : Value), b.tmps.size = a.tmps.size → d < a.tmps.size → (b.put (some d) v).eval (.tmp d) = v := fun b d v hb h => Act.eval_put_same b d v (by omega)
  have sz : ∀ (b : Act) (d : Option Tmp) (v : Value), b.tmps.size = a.tmps.size → (b.put d v).tmps.size = a.tmps.size := fun b d v hb => by rw [Act.size_put, hb]
  have df : ∀ (b : Act) (d : Option Tmp) (v : Value), b.defers = a.defers → (b.put d v).defers = a.defers := fun b d v hb => by rw [Act.defers_put', hb]
  cases g with
  | rng lo hi =>
    simp only [Rg.w] at hsz
    refine wpList_mv rfl (some n) rfl (.tmp 0) (.inl rfl) ?_
    rw [h0]
    obtain ⟨a1, e1⟩ : ∃ a1, a1 = a.put (some n) (.int .i32 r) := ⟨_, rfl⟩
    have z1 : a1.tmps.size = a.tmps.size := by rw [e1]; exact sz _ _ _ rfl
    have d1 : a1.defers = a.defers := by rw [e1]; exact df _ _ _ rfl
    have k1 : a1.eval (.tmp 0) = .int .i32 r := by rw [e1, ne _ _ _ _ (by omega), h0]
    have v1 : a1.eval (.tmp n) = .int .i32 r := by rw [e1, sm _ _ _ rfl (by omega)]
    rw [← e1]
    clear e1
    refine wpList_val rfl (some (n + 1)) rfl _ (run_geq rfl v1 rfl) ?_
    obtain ⟨a2, e2⟩ : ∃ a2, a2 = a1.put (some (n + 1)) (.bool (decide (r ≥ lo))) := ⟨_, rfl⟩
    have z2 : a2.tmps.size = a.tmps.size := by rw [e2]; exact sz _ _ _ z1
    have d2 : a2.defers = a.defers := by rw [e2]; exact df _ _ _ d1
    have k2 : a2.eval (.tmp 0) = .int .i32 r := by rw [e2, ne _ _ _ _ (by omega), k1]
    have v2 : a2.eval (.tmp (n + 1)) = .bool (decide (r ≥ lo)) := by rw [e2, sm _ _ _ z1 (by omega)]
    rw [← e2]
    clear e2
    refine wpList_mv rfl (some (n + 2)) rfl (.tmp (n + 1)) (.inl rfl) ?_
    rw [v2]
    obtain ⟨a3, e3⟩ : ∃ a3, a3 = a2.put (some (n + 2)) (.bool (decide (r ≥ lo))) := ⟨_, rfl⟩
    have z3 : a3.tmps.size = a.tmps.size := by rw [e3]; exact sz _ _ _ z2
    have d3 : a3.defers = a.defers := by rw [e3]; exact df _ _ _ d2
    have k3 : a3.eval (.tmp 0) = .int .i32 r := by rw [e3, ne _ _ _ _ (by omega), k2]
    have v3 : a3.eval (.tmp (n + 2)) = .bool (decide (r ≥ lo)) := by rw [e3, sm _ _ _ z2 (by omega)]
    rw [← e3]
    clear e3
    have y3 := yielded_of (ops := (rgOps T B pos n s (.rng lo hi)).toArray) (j := 2) (d := n + 2) rfl v3
    cases hb : decide (r ≥ lo) with
    | true =>
      rw [hb] at y3 v3
      refine wpList_val (by unfold Region.wanted; simp only [y3]; rfl) (some (n + 3)) rfl (.int .i32 r) (by simp [execOp, k3]) ?_
      obtain ⟨a4, e4⟩ : ∃ a4, a4 = a3.put (some (n + 3)) (.int .i32 r) := ⟨_, rfl⟩
      have z4 : a4.tmps.size = a.tmps.size := by rw [e4]; exact sz _ _ _ z3
      have d4 : a4.defers = a.defers := by rw [e4]; exact df _ _ _ d3
      have k4 : a4.eval (.tmp 0) = .int .i32 r := by rw [e4, ne _ _ _ _ (by omega), k3]
      have v4 : a4.eval (.tmp (n + 3)) = .int .i32 r := by rw [e4, sm _ _ _ z3 (by omega)]
      have v4' : a4.eval (.tmp (n + 2)) = .bool true := by rw [e4, ne _ _ _ _ (by omega), v3]
      rw [← e4]
      clear e4
      have y4 := yielded_of (ops := (rgOps T B pos n s (.rng lo hi)).toArray) (j := 2) (d := n + 2) rfl v4'
      refine wpList_val (by unfold Region.wanted; simp only [y4]; rfl) (some (n + 4)) rfl _ (run_leq rfl v4 rfl) ?_
      obtain ⟨a5, e5⟩ : ∃ a5, a5 = a4.put (some (n + 4)) (.bool (decide (r ≤ hi))) := ⟨_, rfl⟩
      have z5 : a5.tmps.size = a.tmps.size := by rw [e5]; exact sz _ _ _ z4
      have d5 : a5.defers = a.defers := by rw [e5]; exact df _ _ _ d4
      have k5 : a5.eval (.tmp 0) = .int .i32 r := by rw [e5, ne _ _ _ _ (by omega), k4]
      have v5 : a5.eval (.tmp (n + 4)) = .bool (decide (r ≤ hi)) := by rw [e5, sm _ _ _ z4 (by omega)]
      have v5' : a5.eval (.tmp (n + 2)) = .bool true := by rw [e5, ne _ _ _ _ (by omega), v4']
      rw [← e5]
      clear e5
      refine wpList_val rfl (some (n + 5)) rfl _ (run_pick rfl v5') ?_
      rw [if_pos rfl, v5]
      refine wpList_mv rfl (some s) rfl (.tmp (n + 5)) (.inr rfl) ?_
      rw [sm _ _ _ z5 (by omega)]
      apply wpList_nil
      refine h _ (sz _ _ _ (sz _ _ _ z5)) (df _ _ _ (df _ _ _ d5)) ?_ ?_
      · rw [ne _ _ _ _ (by omega), ne _ _ _ _ (by omega), k5]
      · rw [sm _ _ _ (sz _ _ _ z5) (by omega)]
        simp only [Rg.has, hb, Bool.true_and]
    | false =>
      rw [hb] at y3 v3
      refine wpList_out (by unfold Region.wanted; simp only [y3]; rfl) (some (n + 3)) rfl ?_
      have v4' : (a3.put (some (n + 3)) undef).eval (.tmp (n + 2)) = .bool false := by rw [ne _ _ _ _ (by omega), v3]
      have y4 := yielded_of (ops := (rgOps T B pos n s (.rng lo hi)).toArray) (j := 2) (d := n + 2) rfl v4'
      refine wpList_out (by unfold Region.wanted; simp only [y4]; rfl) (some (n + 4)) rfl ?_
      have v5' : ((a3.put (some (n + 3)) undef).put (some (n + 4)) undef).eval (.tmp (n + 2)) = .bool false := by rw [ne _ _ _ _ (by omega), v4']
      refine wpList_val rfl (some (n + 5)) rfl _ (run_pick rfl v5') ?_
      refine wpList_mv rfl (some s) rfl (.tmp (n + 5)) (.inr rfl) ?_
      have z5 := sz _ (some (n + 4)) undef (sz _ (some (n + 3)) undef z3)
      have d5 := df _ (some (n + 4)) undef (df _ (some (n + 3)) undef d3)
      rw [sm _ _ _ z5 (by omega)]
      apply wpList_nil
      refine h _ (sz _ _ _ (sz _ _ _ z5)) (df _ _ _ (df _ _ _ d5)) ?_ ?_
      · rw [ne _ _ _ _ (by omega), ne _ _ _ _ (by omega), ne _ _ _ _ (by omega), ne _ _ _ _ (by omega), k3]
      · rw [sm _ _ _ (sz _ _ _ z5) (by omega)]
        simp only [Rg.has, hb, Bool.false_and]
        rfl
  | eq c =>
    simp only [Rg.w] at hsz
    refine wpList_mv rfl (some n) rfl (.tmp 0) (.inl rfl) ?_
    rw [h0]
    refine wpList_val rfl (some (n + 1)) rfl _ (run_eql hT rfl (sm _ _ _ rfl (by omega)) rfl) ?_
    refine wpList_mv rfl (some s) rfl (.tmp (n + 1)) (.inr rfl) ?_
    have z1 := sz a (some n) (.int .i32 r) rfl
    rw [sm _ _ _ z1 (by omega)]
    apply wpList_nil
    refine h _ (sz _ _ _ (sz _ _ _ z1)) (df _ _ _ (df _ _ _ (df _ _ _ rfl))) ?_ ?_
    · rw [ne _ _ _ _ (by omega), ne _ _ _ _ (by omega), ne _ _ _ _ (by omega), h0]
    · rw [sm _ _ _ (sz _ _ _ z1) (by omega)]
      rfl
  | le c =>
    simp only [Rg.w] at hsz
    refine wpList_mv rfl (some n) rfl (.tmp 0) (.inl rfl) ?_
    rw [h0]
    refine wpList_val rfl (some (n + 1)) rfl _ (run_leq rfl (sm _ _ _ rfl (by omega)) rfl) ?_
    refine wpList_mv rfl (some s) rfl (.tmp (n + 1)) (.inr rfl) ?_
    have z1 := sz a (some n) (.int .i32 r) rfl
    rw [sm _ _ _ z1 (by omega)]
    apply wpList_nil
    refine h _ (sz _ _ _ (sz _ _ _ z1)) (df _ _ _ (df _ _ _ (df _ _ _ rfl))) ?_ ?_
    · rw [ne _ _ _ _ (by omega), ne _ _ _ _ (by omega), ne _ _ _ _ (by omega), h0]
    · rw [sm _ _ _ (sz _ _ _ z1) (by omega)]
      rfl

theorem steps_wp {T B : TypeId} {pos : String} {s : Nat} {r : Int} (hT : P.underlying T = some (.int .i32)) (hs : 0 < s) : ∀ (gs : List Rg) (id n : Nat) (a : Act) (Q : Exit → Act → World → Prop), gs ≠ [] → a.eval (.tmp 0) = .int .i32 r → s < n → n + gsW gs ≤ a.tmps.size →
    (∀ a' : Act, a'.tmps.size = a.tmps.size → a'.defers = a.defers → a'.eval (.tmp 0) = .int .i32 r → a'.eval (.tmp s) = .bool (gs.any (Rg.has r)) → Q .normal a' w) → (stepsC T B pos s gs id n).wp P Q a w
  | [], _, _, _, _, hne, _, _, _, _ => absurd rfl hne
  | [g], id, n, a, Q, _, h0, hsn, hsz, h => by
    unfold stepsC
    refine rg_wp hT g h0 (by omega) hs hsn (by simpa [gsW] using hsz) fun a' z d k v => h a' z d k (by rw [v]; simp)
  | g :: g2 :: gs, id, n, a, Q, _, h0, hsn, hsz, h => by
    unfold stepsC
    apply wp_seq
    have hw : g.w + gsW (g2 :: gs) = gsW (g :: g2 :: gs) := rfl
    refine rg_wp hT g h0 (by omega) hs hsn (by omega) fun a' z d k v => ?_
    show Code.wp P _ Q a' w
    refine wp_cond_split v (fun ht => ?_) (fun hf => ?_)
    · apply wp_skip
      exact h a' z d k (by rw [v, ht]; simp [ht])
    · refine steps_wp hT hs (g2 :: gs) (id + 1) (n + g.w) a' Q (by simp) k (by omega) (by omega) fun a2 z2 d2 k2 v2 => ?_
      exact h a2 (z2.trans z) (d2.trans d) k2 (by rw [v2, List.any_cons (a := g), hf, Bool.false_or])

theorem cases_wp {T B R : TypeId} {k : IntKind} {r : Int} (hT : P.underlying T = some (.int .i32)) : ∀ (L : List Arm) (id n : Nat) (a : Act) (Q : Exit → Act → World → Prop), (∀ x ∈ L, x.gs ≠ []) → a.eval (.tmp 0) = .int .i32 r → 2 < n → n + armsW L ≤ a.tmps.size →
    (∀ (a' : Act) (v : Int), armsLook L r = some v → a'.tmps.size = a.tmps.size → a'.defers = a.defers → a'.eval (.tmp 2) = .int k v → Q .ret a' w) →
    (∀ a' : Act, armsLook L r = none → a'.tmps.size = a.tmps.size → a'.defers = a.defers → Q .normal a' w) → (casesC T B R k L id n).wp P Q a w
  | [], _, _, _, _, _, _, _, _, _, hn => by
    unfold casesC
    exact wp_skip (hn _ rfl rfl rfl)
  | x :: rest, id, n, a, Q, hne, h0, h2, hsz, hret, hn => by
    unfold casesC
    have hw : armsW (x :: rest) = 1 + gsW x.gs + armsW rest := rfl
    have hl : armsLook (x :: rest) r = if x.gs.any (Rg.has r) then some x.v else armsLook rest r := rfl
    apply wp_seq
    refine steps_wp hT (by omega) x.gs id (n + 1) a _ (hne x (by simp)) h0 (by omega) (by omega) fun a' z d k0 v => ?_
    show Code.wp P _ Q a' w
    refine wp_cond_split v (fun ht => ?_) (fun hf => ?_)
    · apply wp_seq
      apply wp_region_lit
      refine wpList_mv rfl (some 2) rfl _ (.inr rfl) ?_
      apply wpList_nil
      apply wp_ret
      refine hret _ x.v (by rw [hl, ht]; rfl) (by rw [Act.size_put, z]) (by rw [Act.defers_put', d]) ?_
      exact Act.eval_put_same _ _ _ (by omega)
    · rw [if_neg (by rw [hf]; decide)] at hl
      exact cases_wp hT rest _ _ a' Q (fun y hy => hne y (by simp [hy])) k0 (by omega) (by omega) (fun a2 v2 e z2 d2 => hret a2 v2 (hl.trans e) (z2.trans z) (d2.trans d)) (fun a2 e z2 d2 => hn a2 (hl.trans e) (z2.trans z) (d2.trans d))
/-- a call of a named function with one argument -/
theorem wpList_call1 (hg : o.guard = none) (dst : Option Tmp) (hdst : o.dst = dst) (f : FuncId) (x : Operand) (hexec : execOp a.eval o = callFunc f #[a.eval x])
    (hcall : ∀ (args : Array Value) (w : World), (callFunc f args).run P w = .ok (.enter f args) w) {R : Ending → World → Prop} (hc : Calls P f #[a.eval x] w R)
    (h : ∀ e w', R e w' → ∃ v, e = .returned v ∧ wpList P ops Q rest (a.put dst v) w') : wpList P ops Q (o :: rest) a w := by
  subst hdst
  refine wpList_plain hg fun K hK => ?_
  unfold Oper.wp
  rw [hexec, hcall, Oper.upon_enter]
  refine hc.mono fun e w' hR => ?_
  obtain ⟨v, rfl, hw⟩ := h e w' hR
  exact hK _ _ hw
end

/-! what the arms say and what a table of steps says, stretch by stretch -/
def Rg.const (lo hi : Int) : Rg → Bool
  | .rng l h => decide (hi < l) || decide (h < lo) || (decide (l ≤ lo) && decide (hi ≤ h))
  | .eq c => decide (hi < c) || decide (c < lo) || (decide (c ≤ lo) && decide (hi ≤ c))
  | .le c => decide (hi ≤ c) || decide (c < lo)
theorem Rg.const_has {lo hi x : Int} {g : Rg} (h : g.const lo hi = true) (h1 : lo ≤ x) (h2 : x ≤ hi) : g.has x = g.has lo := by
  cases g <;> simp only [Rg.const, Rg.has, Bool.or_eq_true, Bool.and_eq_true, decide_eq_true_eq] at h ⊢ <;> rw [Bool.eq_iff_iff] <;> simp only [Bool.and_eq_true, decide_eq_true_eq, beq_iff_eq] <;> omega
theorem any_const {lo hi x : Int} {gs : List Rg} (h : gs.all (Rg.const lo hi) = true) (h1 : lo ≤ x) (h2 : x ≤ hi) : gs.any (Rg.has x) = gs.any (Rg.has lo) := by
  induction gs with
  | nil => rfl
  | cons g gs ih =>
    simp only [List.all_cons, Bool.and_eq_true] at h
    rw [List.any_cons, List.any_cons, Rg.const_has h.1 h1 h2, ih h.2]
theorem arms_const {lo hi x : Int} {L : List Arm} (h : (L.all fun y => y.gs.all (Rg.const lo hi)) = true) (h1 : lo ≤ x) (h2 : x ≤ hi) : armsLook L x = armsLook L lo := by
  induction L with
  | nil => rfl
  | cons y L ih =>
    simp only [List.all_cons, Bool.and_eq_true] at h
    unfold armsLook
    rw [any_const (lo := lo) (by simpa using h.1) h1 h2, ih (by simpa using h.2)]
theorem tab_const {lo hi x : Int} : ∀ {T : List (Int × Int)}, (T.all fun t => decide (t.1 ≤ lo) || decide (hi < t.1)) = true → lo ≤ x → x ≤ hi → tabLook T x = tabLook T lo
  | [], _, _, _ => rfl
  | [_], _, _, _ => rfl
  | t :: u :: rest, h, h1, h2 => by
    simp only [List.all_cons, Bool.and_eq_true, Bool.or_eq_true, decide_eq_true_eq] at h
    have ih := tab_const (T := u :: rest) (by simp only [List.all_cons, Bool.and_eq_true, Bool.or_eq_true, decide_eq_true_eq]; exact h.2) h1 h2
    unfold tabLook
    rw [ih]
    rcases h.2.1 with h3 | h3
    · rw [if_neg (by omega), if_neg (by omega)]
    · rw [if_pos (by omega), if_pos (by omega)]
def segOk (L : List Arm) (T : List (Int × Int)) (d lo hi : Int) : Bool :=
  (L.all fun y => y.gs.all (Rg.const lo hi)) && (T.all fun t => decide (t.1 ≤ lo) || decide (hi < t.1)) && decide ((armsLook L lo).getD d = tabLook T lo)
def segsOk (L : List Arm) (T : List (Int × Int)) (d : Int) : List Int → Bool
  | a :: b :: rest => segOk L T d a (b - 1) && segsOk L T d (b :: rest)
  | _ => true
theorem segs_all {L : List Arm} {T : List (Int × Int)} {d : Int} : ∀ (a : Int) (S : List Int), segsOk L T d (a :: S) = true → ∀ x, a ≤ x → x < (a :: S).getLast (by simp) → (armsLook L x).getD d = tabLook T x
  | a, [], _, x, h1, h2 => by simp at h2; omega
  | a, b :: S, h, x, h1, h2 => by
    simp only [segsOk, Bool.and_eq_true] at h
    by_cases hx : x < b
    · have h3 := h.1
      simp only [segOk, Bool.and_eq_true, decide_eq_true_eq] at h3
      rw [arms_const h3.1.1 h1 (by omega), tab_const h3.1.2 h1 (by omega), h3.2]
    · exact segs_all b S h.2 x (by omega) (by rwa [List.getLast_cons (by simp)] at h2)
end Go.Proofs.Ytbhhebheclfdlaa
