/- Contract of the document's answer for a character's class (shuttleref02.known, Dir): the same as class.Dir's table says. -/
import Derived.Test.YtbhhebheclfdlaaSwitch
import Derived.Test.YtbhhebheclfdlaaPairA
namespace Go.Proofs.Ytbhhebheclfdlaa
set_option linter.unusedVariables false
set_option linter.unusedSimpArgs false
open Go.RowKit Go.Great

def refDirA : List Arm := [
  ⟨[.rng 768 879, .rng 1155 1161, .rng 1425 1469, .eq 1471, .rng 1473 1474, .rng 1476 1477, .eq 1479, .rng 1552 1562, .rng 1611 1631, .eq 1648, .rng 1750 1756, .rng 1759 1764, .rng 1767 1768, .rng 1770 1773, .eq 3633, .rng 3636 3642, .rng 3655 3662, .rng 6832 6911, .rng 7616 7679, .rng 8400 8447, .rng 12330 12333, .rng 12441 12442, .rng 65024 65039, .rng 65056 65071], 8, "ref.go:44", "ref.go:45"⟩,
  ⟨[.eq 10, .eq 13, .rng 28 30, .eq 133, .eq 8233], 10, "ref.go:46", "ref.go:47"⟩,
  ⟨[.eq 9, .eq 11, .eq 31], 11, "ref.go:48", "ref.go:49"⟩,
  ⟨[.eq 12, .eq 32, .eq 5760, .rng 8192 8202, .eq 8232, .eq 8287, .eq 12288], 12, "ref.go:50", "ref.go:51"⟩,
  ⟨[.le 8, .rng 14 27, .rng 127 159, .eq 173, .rng 8203 8205, .rng 8288 8293, .eq 65279], 9, "ref.go:52", "ref.go:53"⟩,
  ⟨[.eq 8206], 0, "ref.go:54", "ref.go:55"⟩,
  ⟨[.eq 8207], 1, "ref.go:56", "ref.go:57"⟩,
  ⟨[.eq 1564], 2, "ref.go:58", "ref.go:59"⟩,
  ⟨[.eq 8234], 14, "ref.go:60", "ref.go:61"⟩,
  ⟨[.eq 8235], 15, "ref.go:62", "ref.go:63"⟩,
  ⟨[.eq 8236], 18, "ref.go:64", "ref.go:65"⟩,
  ⟨[.eq 8237], 16, "ref.go:66", "ref.go:67"⟩,
  ⟨[.eq 8238], 17, "ref.go:68", "ref.go:69"⟩,
  ⟨[.eq 8294], 19, "ref.go:70", "ref.go:71"⟩,
  ⟨[.eq 8295], 20, "ref.go:72", "ref.go:73"⟩,
  ⟨[.eq 8296], 21, "ref.go:74", "ref.go:75"⟩,
  ⟨[.eq 8297], 22, "ref.go:76", "ref.go:77"⟩,
  ⟨[.rng 48 57, .rng 178 179, .eq 185, .rng 1776 1785, .rng 8304 8313, .rng 8320 8329, .rng 65296 65305], 3, "ref.go:78", "ref.go:79"⟩,
  ⟨[.rng 1536 1541, .rng 1632 1641, .rng 1643 1644, .eq 1757], 6, "ref.go:80", "ref.go:81"⟩,
  ⟨[.eq 43, .eq 45, .eq 8722, .eq 65291, .eq 65293], 4, "ref.go:82", "ref.go:83"⟩,
  ⟨[.rng 35 37, .rng 162 165, .rng 176 177, .eq 1642, .rng 8240 8244, .rng 8352 8399, .rng 65283 65285], 5, "ref.go:84", "ref.go:85"⟩,
  ⟨[.eq 44, .rng 46 47, .eq 58, .eq 160, .eq 1548, .eq 8239, .eq 65292, .rng 65294 65295, .eq 65306], 7, "ref.go:86", "ref.go:87"⟩,
  ⟨[.rng 1544 1983, .rng 64336 65023, .rng 65136 65278], 2, "ref.go:88", "ref.go:89"⟩,
  ⟨[.rng 1424 1535, .rng 1984 2143, .rng 64285 64335, .rng 67584 69631], 1, "ref.go:90", "ref.go:91"⟩,
  ⟨[.rng 33 47, .rng 58 64, .rng 91 96, .rng 123 126, .rng 161 191, .eq 215, .eq 247, .rng 1542 1543, .rng 8208 8286, .rng 8592 9371, .rng 9472 11263, .rng 12289 12292, .rng 12296 12320, .eq 12336, .rng 65281 65312, .rng 65339 65344, .rng 65371 65381, .rng 65532 65533, .rng 127744 129791], 13, "ref.go:92", "ref.go:93"⟩]
def refDirAS : List Int := [9, 10, 11, 12, 13, 14, 28, 31, 32, 33, 35, 38, 43, 44, 45, 46, 48, 58, 59, 65, 91, 97, 123, 127, 133, 134, 160, 161, 162, 166, 173, 174, 176, 178, 180, 185, 186, 192, 215, 216, 247, 248, 768, 880, 1155, 1162, 1424, 1425, 1470, 1471, 1472, 1473, 1475, 1476, 1478, 1479, 1480, 1536, 1542, 1544, 1548, 1549, 1552, 1563, 1564, 1565, 1611, 1632, 1642, 1643, 1645, 1648, 1649, 1750, 1757, 1758, 1759, 1765, 1767, 1769, 1770, 1774, 1776, 1786, 1984, 2144, 3633, 3634, 3636, 3643, 3655, 3663, 5760, 5761, 6832, 6912, 7616, 7680, 8192, 8203, 8206, 8207, 8208, 8232, 8233, 8234, 8235, 8236, 8237, 8238, 8239, 8240, 8245, 8287, 8288, 8294, 8295, 8296, 8297, 8298, 8304, 8314, 8320, 8330, 8352, 8400, 8448, 8592, 8722, 8723, 9372, 9472, 11264, 12288, 12289, 12293, 12296, 12321, 12330, 12334, 12336, 12337, 12441, 12443, 64285, 64336, 65024, 65040, 65056, 65072, 65136, 65279, 65280, 65281, 65283, 65286, 65291, 65292, 65293, 65294, 65296, 65306, 65307, 65313, 65339, 65345, 65371, 65382, 65532, 65534, 67584, 69632, 127744, 129792, 1114112]

set_option maxHeartbeats 400000 in
theorem refKnown_any (r : Int) (w : World) :
    Calls Try.prog 57 #[.int .i32 r] w fun e w' => e = .returned (.int .i32 (known r)) ∧ w = w' := by
  go_enter Try.func57, Try.ntmps57
  go_wp2
  all_goals (go_ret; refine ⟨ret_i ?_, rfl⟩; unfold known; first | rw [if_pos (by omega)] | rw [if_neg (by omega)])

set_option maxRecDepth 1000000 in
theorem refDir_eq (x : Int) (h0 : 0 ≤ x) (h1 : x ≤ 1114111) : (armsLook refDirA x).getD 0 = tabLook dirsT x :=
  segs_all 0 refDirAS (by as_aux_lemma => decide +kernel) x h0 (by have h : ((0 : Int) :: refDirAS).getLast (by simp) = 1114112 := (by as_aux_lemma => decide +kernel); omega)

def refDirBody : Code :=
  .seq (.region 0 #[{ dst := some 2, op := .assign (.const (.int .i8 0)), type := 40, pos := "ref.go:41", after := #[], guard := none }] false)
    (.seq (.region 1 #[{ dst := some 3, op := .move (.tmp 0), type := 21, pos := "ref.go:42", after := #[], guard := none },
        { dst := some 4, op := .call { callee := .value (.func 57), args := #[.tmp 3], argTypes := #[21] }, type := 21, pos := "ref.go:42", after := #[{ on := 0, ground := .data }], guard := none },
        { dst := some 0, op := .assign (.tmp 4), type := 21, pos := "ref.go:42", after := #[{ on := 1, ground := .data }, { on := 1, ground := .chain }, { on := 0, ground := .phase }, { on := 1, ground := .phase }], guard := none }] false)
      (.seq (.block 0 (casesC 21 4 40 .i8 refDirA 2 5))
        (.seq (.region 143 #[{ dst := some 2, op := .assign (.const (.int .i8 0)), type := 40, pos := "ref.go:95", after := #[], guard := none }] false) .ret)))
set_option maxRecDepth 1000000 in
theorem refDir_body : Try.f43.body = some refDirBody := by as_aux_lemma => kernel_rfl

set_option maxRecDepth 1000000 in
set_option maxHeartbeats 1000000 in
theorem RefDir_any (r : Int) (w : World) :
    Calls Try.prog 43 #[.int .i32 r] w fun e w' => e = .returned (.int .i8 (dirI r)) ∧ w' = w := by
  refine calls_of_wp Try.func43 refDir_body ?_
  unfold refDirBody
  refine wp_frame0 526 (.int .i32 r) (by as_aux_lemma => kernel_rfl) rfl (by as_aux_lemma => kernel_rfl) fun a0 hs0 hd0 h0 => ?_
  apply wp_seq
  apply wp_region_lit
  refine wpList_mv rfl (some 2) rfl _ (.inr rfl) ?_
  apply wpList_nil
  show Code.wp _ _ _ _ _
  apply wp_seq
  apply wp_region_lit
  refine wpList_mv rfl (some 3) rfl _ (.inl rfl) ?_
  rw [Act.eval_put_ne _ _ _ _ (by decide), h0]
  refine wpList_call1 rfl (some 4) rfl 57 (.tmp 3) (by rw [execOp_call_go]; simp) (fun args w => Try.call57 args w)
    (by rw [Act.eval_put_same _ _ _ (by simp only [Act.size_put, hs0]; decide)]; exact refKnown_any r w) ?_
  rintro e w1 ⟨rfl, rfl⟩
  refine ⟨_, rfl, ?_⟩
  refine wpList_mv rfl (some 0) rfl _ (.inr rfl) ?_
  rw [Act.eval_put_same _ _ _ (by simp only [Act.size_put, hs0]; decide)]
  apply wpList_nil
  show Code.wp _ _ _ _ _
  refine wp_frame0 526 (.int .i32 (known r)) (by simp only [Act.size_put, hs0]) (by simp only [Act.defers_put', hd0]) (Act.eval_put_same _ _ _ (by simp only [Act.size_put, hs0]; decide)) fun a1 hs1 hd1 h1 => ?_
  clear h0 hd0 hs0 a0
  have hk := known_bd r
  have hval := refDir_eq (known r) hk.1 hk.2
  apply wp_seq
  apply wp_block
  refine cases_wp Try.underlying21 refDirA 2 5 a1 _ (by as_aux_lemma => decide +kernel) h1 (by decide) (by rw [hs1]; as_aux_lemma => decide +kernel) (fun a2 v hv hs2 hd2 h2 => ?_) (fun a2 hv hs2 hd2 => ?_)
  · simp only [Exit.inBlock, Exit.then]
    refine bodyPost_ret (results_tmp rfl _ _ _) (hd2.trans hd1) ?_
    rw [hv] at hval
    refine ⟨?_, rfl⟩
    have e2 : ∀ (b : Act) (j : Nat), b.tmps.getD j undef = b.eval (.tmp j) := fun b j => rfl
    rw [e2, h2]
    exact ret_i hval
  · simp only [Exit.inBlock, Exit.then]
    apply wp_seq
    apply wp_region_lit
    refine wpList_mv rfl (some 2) rfl _ (.inr rfl) ?_
    apply wpList_nil
    apply wp_ret
    refine bodyPost_ret (results_tmp rfl _ _ _) (by simp only [Act.defers_put', hd2, hd1]) ?_
    have e2 : ∀ (b : Act) (j : Nat), b.tmps.getD j undef = b.eval (.tmp j) := fun b j => rfl
    rw [e2, Act.eval_put_same _ _ _ (by rw [hs2, hs1]; decide)]
    rw [hv] at hval
    exact ⟨ret_i hval, rfl⟩
end Go.Proofs.Ytbhhebheclfdlaa
