/- Contracts of the table functions of package class that layer 9 reaches (dirs), and of Dir: of any number the class for directions; the table makes one new block. -/
import Derived.Test.YtbhhebheclfdlaaClass
import Derived.Test.YtbhhebheclfdlaaTab
namespace Go.Proofs.Ytbhhebheclfdlaa
set_option linter.unusedVariables false
set_option linter.unusedSimpArgs false
open Go.RowKit Go.Great

/-- what a search in a table answers -/
def TabPost (T : List (Int × Int)) (r : Int) (w : World) (e : Ending) (w' : World) : Prop :=
  ∃ low, low < T.length ∧ (low = 0 ∨ (T.getD low (0, 0)).1 ≤ r) ∧ (low + 1 = T.length ∨ r < (T.getD (low + 1) (0, 0)).1) ∧
    e = .returned (.tuple #[.int .u8 (T.getD low (0, 0)).2, .int .i32 (if low + 1 < T.length then wrap32 ((T.getD (low + 1) (0, 0)).1 - 1) else 1114111)]) ∧ Below w.heap.size w w'

theorem ith_map (T : List (Int × Int)) (f : Int × Int → Int) (i : Nat) (h : i < T.length) : ith (T.map f) i = f (T.getD i (0, 0)) := by
  simp [ith, h]

/-- The tail of a table function: the new block sliced, the search called, its two results handed on. -/
theorem tab_tail {fn : Func} (T : List (Int × Int)) (n nT sl al tarr tst : Nat) (r : Int) (w w1 : World) (a : Act) (id : Nat) (o1 o2 o3 o4 o5 o6 o7 : Oper)
    (hn : T.length = n) (hn1 : 1 ≤ n) (hn2 : n ≤ 100000) (hs : a.tmps.size = nT) (hd : a.defers = []) (hp : a.eval (.tmp al) = .pointer (some ⟨w.heap.size, 0, none⟩)) (hr : a.eval (.tmp 0) = .int .i32 r)
    (hsl : 3 < sl) (hnT : sl + 5 ≤ nT) (hu : Try.prog.underlying tarr = some (.array n tst)) (hi : (Try.prog.info? tst).isSome = true)
    (hh : w1.heap[w.heap.size]? = some (.cells (tcells T).toArray tarr (0, 0))) (hb : Below w.heap.size w w1) (hres : fn.results = #[.tmp 2, .tmp 3])
    (g1 : o1.guard = none) (d1 : o1.dst = some sl) (p1 : o1.op = .slice tarr (.tmp al) none none none)
    (g2 : o2.guard = none) (d2 : o2.dst = some (sl + 1)) (p2 : o2.op = .move (.tmp 0))
    (g3 : o3.guard = none) (d3 : o3.dst = some (sl + 2)) (p3 : ∀ b : Act, execOp b.eval o3 = callFunc 56 #[b.eval (.tmp sl), b.eval (.tmp (sl + 1))])
    (g4 : o4.guard = none) (d4 : o4.dst = some (sl + 3)) (p4 : o4.op = .extract (.tmp (sl + 2)) 0)
    (g5 : o5.guard = none) (d5 : o5.dst = some (sl + 4)) (p5 : o5.op = .extract (.tmp (sl + 2)) 1)
    (g6 : o6.guard = none) (d6 : o6.dst = some 2) (p6 : o6.op = .assign (.tmp (sl + 3)))
    (g7 : o7.guard = none) (d7 : o7.dst = some 3) (p7 : o7.op = .assign (.tmp (sl + 4))) :
    Code.wp Try.prog (.seq (.region id #[o1, o2, o3, o4, o5, o6, o7] false) .ret) (bodyPost Try.prog fn (TabPost T (known r) w)) a w1 := by
  apply wp_seq_k; intro K hK
  apply wp_region_lit
  refine wpList_sliceArr g1 _ d1 tarr tst n (.tmp al) p1 w.heap.size hu hi hp ?_
  refine wpList_mv g2 _ d2 _ (.inl p2) ?_
  rw [Act.eval_put_ne _ _ _ _ (by omega), hr]
  have s1 : ∀ (x : Option Tmp) (v : Value) (b : Act), b.tmps.size = nT → (b.put x v).tmps.size = nT := fun x v b hb => by rw [Act.size_put, hb]
  have hz1 := s1 (some sl) (.slice (some ⟨w.heap.size, 0, none⟩) n n) a hs
  have hz2 := s1 (some (sl + 1)) (.int .i32 r) _ hz1
  have ex := p3 ((a.put (some sl) (.slice (some ⟨w.heap.size, 0, none⟩) n n)).put (some (sl + 1)) (.int .i32 r))
  refine wpList_call2 g3 _ d3 56 (.tmp sl) (.tmp (sl + 1)) ex (fun args w => Try.call56 args w) (R := FindPost n (T.map (·.1)) (T.map (·.2)) (known r) w1) ?_ ?_
  · rw [Act.eval_put_same _ _ _ (by omega), Act.eval_put_ne _ _ _ _ (by omega), Act.eval_put_same _ _ _ (by omega)]
    refine find_any w.heap.size n n (T.map (·.1)) (T.map (·.2)) r w1 hn1 hn2 (fun i hi => ?_) (fun i hi => ?_)
    · rw [ith_map _ _ _ (by omega), World.cell?, hh]; simp; exact (tcells_get T i (by omega)).1
    · rw [ith_map _ _ _ (by omega), World.cell?, hh]; simp; exact (tcells_get T i (by omega)).2
  · rintro e w2 ⟨low, q1, q2, q3, rfl, q, rfl⟩
    refine ⟨_, rfl, ?_⟩
    generalize hv1 : (Value.int .u8 (ith (T.map (·.2)) low)) = v1
    generalize hv2 : (Value.int .i32 (if low + 1 < n then wrap32 (ith (T.map (·.1)) (low + 1) - 1) else 1114111)) = v2
    have hz3 := s1 (some (sl + 2)) (.tuple #[v1, v2]) _ hz2
    refine wpList_ext g4 _ d4 _ 0 p4 #[v1, v2] v1 (Act.eval_put_same _ _ _ (by omega)) rfl ?_
    have hz4 := s1 (some (sl + 3)) v1 _ hz3
    refine wpList_ext g5 _ d5 _ 1 p5 #[v1, v2] v2 (by rw [Act.eval_put_ne _ _ _ _ (by omega)]; exact Act.eval_put_same _ _ _ (by omega)) rfl ?_
    have hz5 := s1 (some (sl + 4)) v2 _ hz4
    refine wpList_mv g6 _ d6 _ (.inr p6) ?_
    refine wpList_mv g7 _ d7 _ (.inr p7) ?_
    apply wpList_nil
    refine hK _ _ ?_
    apply wp_ret
    refine bodyPost_ret (results_tmp2 hres _ _ _) (by simp only [Act.defers_put', hd]) ?_
    have e2 : ∀ (b : Act) (j : Nat), b.tmps.getD j undef = b.eval (.tmp j) := fun b j => rfl
    rw [e2, e2, Act.eval_put_same _ 3 _ (by rw [Act.size_put, hz5]; omega), Act.eval_put_ne _ 3 2 _ (by omega), Act.eval_put_same _ 2 _ (by rw [hz5]; omega), Act.eval_put_ne _ 2 _ _ (by omega),
      Act.eval_put_same _ (sl + 4) _ (by rw [hz4]; omega), Act.eval_put_ne _ (sl + 4) (sl + 3) _ (by omega), Act.eval_put_same _ (sl + 3) _ (by rw [hz3]; omega)]
    subst hv1 hv2 hn
    refine ⟨low, q1, ?_, ?_, ?_, bl_drewN hb _⟩
    · rcases q2 with h | h
      · exact .inl h
      · exact .inr (by rwa [ith_map _ _ _ q1] at h)
    · rcases q3 with h | h
      · exact .inl h
      · by_cases hl : low + 1 < T.length
        · exact .inr (by rwa [ith_map _ _ _ hl] at h)
        · exact .inl (by omega)
    · rw [ith_map _ _ _ q1]
      by_cases hl : low + 1 < T.length
      · rw [if_pos hl, if_pos hl, ith_map _ _ _ hl]
      · rw [if_neg hl, if_neg hl]

theorem tab_below (w : World) (o : Obj) (c : Array Value) : Below w.heap.size w ((w.alloc o).setRow w.heap.size c) := by
  refine ⟨rfl, rfl, rfl, by simp [World.setRow], fun k hk => ?_⟩
  simp only [World.setRow, Array.getElem?_modify]
  rw [if_neg (by omega)]
  exact Below.heap_alloc w o k hk

theorem dirsT_len : dirsT.length = 173 := by as_aux_lemma => kernel_rfl
set_option maxRecDepth 1000000 in
set_option maxHeartbeats 1000000 in
theorem dirs_any (r : Int) (w : World) :
    Calls Try.prog 40 #[.int .i32 r] w (TabPost dirsT (known r) w) := by
  refine calls_of_wp Try.func40 rfl ?_
  refine wp_frame0 184 (.int .i32 r) (by as_aux_lemma => kernel_rfl) rfl (by as_aux_lemma => kernel_rfl) fun a0 hs0 hd0 h0 => ?_
  apply wp_seq_k; intro K0 hK0
  apply wp_region_lit
  refine wpList_mv rfl (some 2) rfl _ (.inr rfl) ?_
  refine wpList_mv rfl (some 3) rfl _ (.inr rfl) ?_
  apply wpList_nil
  refine hK0 _ _ ?_
  refine wp_frame0 184 (.int .i32 r) (by simp only [Act.size_put, hs0]) (by simp only [Act.defers_put', hd0]) (by rw [Act.eval_put_ne _ _ _ _ (by decide), Act.eval_put_ne _ _ _ _ (by decide), h0]) fun a1 hs1 hd1 h1 => ?_
  clear hK0 K0 h0 hd0 hs0 a0
  apply wp_seq_k; intro K1 hK1
  apply wp_region_lit
  refine wpList_splitAt 173 (stOps 81 (posOf Try.f40) 5 dirsT) (by as_aux_lemma => kernel_rfl) ?_
  refine wpList_sts 81 (posOf Try.f40) (fun _ _ => by as_aux_lemma => kernel_rfl) dirsT 5 _ (by rw [dirsT_len, hs1]; decide) fun a2 hs2 hd2 hev hlow => ?_
  refine wpList_buildArr2 rfl 82 81 173 _ dirsT rfl 5 (some 178) rfl (by as_aux_lemma => kernel_rfl) (by as_aux_lemma => kernel_rfl) (by as_aux_lemma => kernel_rfl) (by as_aux_lemma => kernel_rfl) hev ?_
  refine wpList_allocZ rfl (some 4) rfl 82 rfl w.heap.size rfl (((Try.prog.info? 82).bind (·.zero)).getD undef) (by as_aux_lemma => kernel_rfl) ?_
  have hc2 : (tcells dirsT).toArray.size = 346 := by rw [List.size_toArray, tcells_length, dirsT_len]
  have hb : w.heap.size < (w.alloc (.cells (((Try.prog.info? 82).bind (·.zero)).getD undef).cells 82)).heap.size := by simp
  refine wpList_store_row rfl 82 (.tmp 4) (.tmp 178) rfl w.heap.size (tcells dirsT).toArray
    (Act.eval_put_same _ _ _ (by simp only [Act.size_put, hs2, hs1]; decide)) (by rw [Act.eval_put_ne _ _ _ _ (by decide), Act.eval_put_same _ _ _ (by simp only [hs2, hs1]; decide)])
    82 _ (heap_alloc_new w _) (by rw [hc2]; as_aux_lemma => kernel_rfl) (by rw [hc2]; as_aux_lemma => kernel_rfl) (tcells_one _) ?_
  apply wpList_nil
  refine hK1 _ _ ?_
  clear hK1 K1
  have hp : ((((a2.put (some 178) (.agg (tcells dirsT).toArray)).put (some 4) (.pointer (some ⟨w.heap.size, 0, none⟩)))).put none undef).eval (.tmp 4) = .pointer (some ⟨w.heap.size, 0, none⟩) :=
    Act.eval_put_same _ _ _ (by simp only [Act.size_put, hs2, hs1]; decide)
  have hr : ((((a2.put (some 178) (.agg (tcells dirsT).toArray)).put (some 4) (.pointer (some ⟨w.heap.size, 0, none⟩)))).put none undef).eval (.tmp 0) = .int .i32 r := by
    show ((a2.put (some 178) (.agg (tcells dirsT).toArray)).put (some 4) (.pointer (some ⟨w.heap.size, 0, none⟩))).eval (.tmp 0) = _
    rw [Act.eval_put_ne _ _ _ _ (by decide), Act.eval_put_ne _ _ _ _ (by decide), hlow 0 (by decide), h1]
  exact tab_tail dirsT 173 184 179 4 82 81 r w _ _ _ _ _ _ _ _ _ _ dirsT_len (by decide) (by decide) (by simp only [Act.size_put, hs2, hs1]) (by simp only [Act.defers_put', hd2, hd1]) hp hr (by decide) (by decide)
    (by as_aux_lemma => kernel_rfl) (by as_aux_lemma => kernel_rfl) (setRow_heap _ _ _ _ _ _ (heap_alloc_new w _)) (tab_below w _ _) rfl
    rfl rfl rfl rfl rfl rfl rfl rfl (fun x => by rw [execOp_call_go]; simp) rfl rfl rfl rfl rfl rfl rfl rfl rfl rfl rfl rfl


def DirsVal (r : Int) (w : World) (e : Ending) (w' : World) : Prop :=
  ∃ x y : Int, x = dirI r ∧ 0 ≤ x ∧ x ≤ 127 ∧ e = .returned (.tuple #[.int .u8 x, .int .i32 y]) ∧ Below w.heap.size w w'
theorem dirs_val (r : Int) (w : World) : Calls Try.prog 40 #[.int .i32 r] w (DirsVal r w) := by
  refine (dirs_any r w).mono fun e w1 h => ?_
  obtain ⟨low, h1, h2, h3, he, hb⟩ := h
  have hs : tabSmall dirsT = true := by as_aux_lemma => kernel_rfl
  have hr : risesB dirsT = true := by as_aux_lemma => kernel_rfl
  have hbd := tabSmall_bd hs low
  exact ⟨_, _, (tabLook_of dirsT low (known r) hr h1 h2 h3).symm, hbd.1, hbd.2, he, hb⟩

set_option maxHeartbeats 400000 in
theorem Dir_any (r : Int) (w : World) :
    Calls Try.prog 26 #[.int .i32 r] w fun e w' => e = .returned (.int .i8 (dirI r)) ∧ Below w.heap.size w w' := by
  go_enter Try.func26, Try.ntmps26
  go_wp2_with (go_at_call 40; refine (dirs_val r w).mono ?_; rintro e w1 ⟨x, y, rfl, h0, h1, rfl, hb⟩)
  go_ret
  exact ⟨ret_i rfl, hb⟩

end Go.Proofs.Ytbhhebheclfdlaa
