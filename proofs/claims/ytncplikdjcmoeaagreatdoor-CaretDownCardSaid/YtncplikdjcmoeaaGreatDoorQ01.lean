/- Lemmas, part 1: no further condition than each states. -/
import Derived.WalkKit
import Derived.WalkSpells
import Derived.WalkLawsBesides
import Derived.Lib.Hide
import Derived.Test.YtncplikdjcmoeaaGreatDoorProg
import Derived.Deep.AppendLies
import Derived.Deep.OwnRows
import Derived.Maps.OwnSet
import Derived.Maps.OwnOps
import Derived.Maps.Views
import Derived.ArgAppend
import Derived.Deep.QuietTactic
import Derived.BigQuiet
import Derived.Deep.DeepCutAuto
import Derived.Deep.LoopGhost
import Derived.Great.Walk
import Derived.Great.Ranges
import Derived.IntWalk
import Derived.Deep.RegionHeld3
import Derived.Deep.RegionLaw
import Derived.Deep.CutBlock
import Derived.Shelf.Unicode.DecodeSlow
import Derived.Ground.NamesProg
import Derived.Shelf.Unicode.DecodeAny
import Derived.Shelf.Strings.Repeat
import Derived.Ground.GgsProg
import Derived.Shelf.SlSortFuncK.WholeK
import Derived.Shelf.Unicode.DecodeLastEight
import Derived.Lib.RuneCount
import Derived.ScopeJumps
import Derived.WalkMore
import Derived.RangeFuncNested
import Derived.RangeFuncBound
import Derived.RangeFuncCalls
import Derived.RangeFuncLeaves
import Derived.RangeFuncBox
import Derived.Shelf.Abstract
import Derived.Shelf.RegionOpen
import Derived.OwnWalkIn
import Derived.TacticsInMore
import Derived.LoopNIn
import Derived.LoopIn
import Derived.Maps.AppendAt
import Derived.Sort.CutIn
import Derived.Laws.EntriesVeiled
import Derived.Laws.Bits64b
import Derived.Laws.BytesArg
import Derived.Lib.BufferRead
import Derived.Laws.BytesString
import Derived.PinnedBridge
import Derived.Lib.LaidU8
import Derived.LaidMore
import Derived.Lay
import Derived.Stop.Joined
import Derived.OrdersHeld
import Derived.OrdersIn
import Derived.Laws.Cover4
import Derived.Laws.IdiomStrings
import Derived.Lib.DecodeN
import Derived.Laws.RangeAny
import Derived.Deep.CutRange
import Derived.Laws.StructEq
import Derived.Lib.SliceRun
import Derived.Shelf.GgSortFunc.Tiny
import Derived.Laws.BitsAllLaws
import Derived.RegionTactic
import Derived.Scope
import Derived.Lib.MapLaws
import Derived.Laws.ResultCell
import Derived.Lib.OthersKept
import Derived.Laws.Rows
import Derived.ProofKit
import Derived.Lib.SmallJoins
import Derived.OpenShut
import Derived.ShutString
import Derived.ChangeOld
import Derived.Below
import Derived.JoinedCond
import Derived.Deep.DeepHandedRow
namespace Go.Proofs.YtncplikdjcmoeaaGreatDoor
set_option linter.unusedVariables false
set_option linter.unusedSimpArgs false
set_option maxRecDepth 100000
set_option maxHeartbeats 4000000
section
open Go Go.RowKit Go.Proofs Go.Shelf
instance:Coe Int Value:=⟨fun x=>.int .i64 x⟩
instance:Coe Nat Value:=⟨fun x=>.int .i64 (x:Int)⟩
instance:Coe Bool Value:=⟨fun x=>.bool x⟩
instance:Coe ByteArray Value:=⟨fun x=>.string x⟩
instance:Coe World Nat:=⟨fun w=>w.heap.size⟩
theorem ce{w:World}{b i t:Nat}{c:Array Value}{s v}(h:w.heap[b]?=some (.cells c t s))(e:c[i]?=some v:=by rfl):w.cell? ⟨b,i,none⟩=some v:=by simp [World.cell?,h,e]
theorem fz{w:World}{b i t:Nat}{c:Array Value}(h:w.heap[b]?=some (.cells c t (0,0))):w.frozen? ⟨b,i,none⟩=false:=by simp [World.frozen?,h]
theorem nm{α:Sort _}(a:α):∃b,a=b:=⟨a,rfl⟩
theorem qc1{w:World}{b t:Nat}{v0:Value}{l:List Value}{s}(h:w.heap[b]?=some (.cells (v0::l).toArray t s)):w.cell? ⟨b,0,none⟩=some v0:=by
 simp [World.cell?,h]
theorem qc2{w:World}{b t:Nat}{v0 v1:Value}{l:List Value}{s}(h:w.heap[b]?=some (.cells (v0::v1::l).toArray t s)):w.cell? ⟨b,0,none⟩=some v0∧w.cell? ⟨b,1,none⟩=some v1:=by
 simp [World.cell?,h]
theorem qc3{w:World}{b t:Nat}{v0 v1 v2:Value}{l:List Value}{s}(h:w.heap[b]?=some (.cells (v0::v1::v2::l).toArray t s)):w.cell? ⟨b,0,none⟩=some v0∧w.cell? ⟨b,1,none⟩=some v1∧w.cell? ⟨b,2,none⟩=some v2:=by
 simp [World.cell?,h]
theorem qc4{w:World}{b t:Nat}{v0 v1 v2 v3:Value}{l:List Value}{s}(h:w.heap[b]?=some (.cells (v0::v1::v2::v3::l).toArray t s)):w.cell? ⟨b,0,none⟩=some v0∧w.cell? ⟨b,1,none⟩=some v1∧w.cell? ⟨b,2,none⟩=some v2∧w.cell? ⟨b,3,none⟩=some v3:=by
 simp [World.cell?,h]
theorem qc5{w:World}{b t:Nat}{v0 v1 v2 v3 v4:Value}{l:List Value}{s}(h:w.heap[b]?=some (.cells (v0::v1::v2::v3::v4::l).toArray t s)):w.cell? ⟨b,0,none⟩=some v0∧w.cell? ⟨b,1,none⟩=some v1∧w.cell? ⟨b,2,none⟩=some v2∧w.cell? ⟨b,3,none⟩=some v3∧w.cell? ⟨b,4,none⟩=some v4:=by
 simp [World.cell?,h]
theorem qc6{w:World}{b t:Nat}{v0 v1 v2 v3 v4 v5:Value}{l:List Value}{s}(h:w.heap[b]?=some (.cells (v0::v1::v2::v3::v4::v5::l).toArray t s)):w.cell? ⟨b,0,none⟩=some v0∧w.cell? ⟨b,1,none⟩=some v1∧w.cell? ⟨b,2,none⟩=some v2∧w.cell? ⟨b,3,none⟩=some v3∧w.cell? ⟨b,4,none⟩=some v4∧w.cell? ⟨b,5,none⟩=some v5:=by
 simp [World.cell?,h]
theorem qc7{w:World}{b t:Nat}{v0 v1 v2 v3 v4 v5 v6:Value}{l:List Value}{s}(h:w.heap[b]?=some (.cells (v0::v1::v2::v3::v4::v5::v6::l).toArray t s)):w.cell? ⟨b,0,none⟩=some v0∧w.cell? ⟨b,1,none⟩=some v1∧w.cell? ⟨b,2,none⟩=some v2∧w.cell? ⟨b,3,none⟩=some v3∧w.cell? ⟨b,4,none⟩=some v4∧w.cell? ⟨b,5,none⟩=some v5∧w.cell? ⟨b,6,none⟩=some v6:=by
 simp [World.cell?,h]
theorem qc8{w:World}{b t:Nat}{v0 v1 v2 v3 v4 v5 v6 v7:Value}{l:List Value}{s}(h:w.heap[b]?=some (.cells (v0::v1::v2::v3::v4::v5::v6::v7::l).toArray t s)):w.cell? ⟨b,0,none⟩=some v0∧w.cell? ⟨b,1,none⟩=some v1∧w.cell? ⟨b,2,none⟩=some v2∧w.cell? ⟨b,3,none⟩=some v3∧w.cell? ⟨b,4,none⟩=some v4∧w.cell? ⟨b,5,none⟩=some v5∧w.cell? ⟨b,6,none⟩=some v6∧w.cell? ⟨b,7,none⟩=some v7:=by
 simp [World.cell?,h]
theorem qc9{w:World}{b t:Nat}{v0 v1 v2 v3 v4 v5 v6 v7 v8:Value}{l:List Value}{s}(h:w.heap[b]?=some (.cells (v0::v1::v2::v3::v4::v5::v6::v7::v8::l).toArray t s)):w.cell? ⟨b,0,none⟩=some v0∧w.cell? ⟨b,1,none⟩=some v1∧w.cell? ⟨b,2,none⟩=some v2∧w.cell? ⟨b,3,none⟩=some v3∧w.cell? ⟨b,4,none⟩=some v4∧w.cell? ⟨b,5,none⟩=some v5∧w.cell? ⟨b,6,none⟩=some v6∧w.cell? ⟨b,7,none⟩=some v7∧w.cell? ⟨b,8,none⟩=some v8:=by
 simp [World.cell?,h]
theorem qc10{w:World}{b t:Nat}{v0 v1 v2 v3 v4 v5 v6 v7 v8 v9:Value}{l:List Value}{s}(h:w.heap[b]?=some (.cells (v0::v1::v2::v3::v4::v5::v6::v7::v8::v9::l).toArray t s)):w.cell? ⟨b,0,none⟩=some v0∧w.cell? ⟨b,1,none⟩=some v1∧w.cell? ⟨b,2,none⟩=some v2∧w.cell? ⟨b,3,none⟩=some v3∧w.cell? ⟨b,4,none⟩=some v4∧w.cell? ⟨b,5,none⟩=some v5∧w.cell? ⟨b,6,none⟩=some v6∧w.cell? ⟨b,7,none⟩=some v7∧w.cell? ⟨b,8,none⟩=some v8∧w.cell? ⟨b,9,none⟩=some v9:=by
 simp [World.cell?,h]
theorem qc11{w:World}{b t:Nat}{v0 v1 v2 v3 v4 v5 v6 v7 v8 v9 v10:Value}{l:List Value}{s}(h:w.heap[b]?=some (.cells (v0::v1::v2::v3::v4::v5::v6::v7::v8::v9::v10::l).toArray t s)):w.cell? ⟨b,0,none⟩=some v0∧w.cell? ⟨b,1,none⟩=some v1∧w.cell? ⟨b,2,none⟩=some v2∧w.cell? ⟨b,3,none⟩=some v3∧w.cell? ⟨b,4,none⟩=some v4∧w.cell? ⟨b,5,none⟩=some v5∧w.cell? ⟨b,6,none⟩=some v6∧w.cell? ⟨b,7,none⟩=some v7∧w.cell? ⟨b,8,none⟩=some v8∧w.cell? ⟨b,9,none⟩=some v9∧w.cell? ⟨b,10,none⟩=some v10:=by
 simp [World.cell?,h]
theorem qc12{w:World}{b t:Nat}{v0 v1 v2 v3 v4 v5 v6 v7 v8 v9 v10 v11:Value}{l:List Value}{s}(h:w.heap[b]?=some (.cells (v0::v1::v2::v3::v4::v5::v6::v7::v8::v9::v10::v11::l).toArray t s)):w.cell? ⟨b,0,none⟩=some v0∧w.cell? ⟨b,1,none⟩=some v1∧w.cell? ⟨b,2,none⟩=some v2∧w.cell? ⟨b,3,none⟩=some v3∧w.cell? ⟨b,4,none⟩=some v4∧w.cell? ⟨b,5,none⟩=some v5∧w.cell? ⟨b,6,none⟩=some v6∧w.cell? ⟨b,7,none⟩=some v7∧w.cell? ⟨b,8,none⟩=some v8∧w.cell? ⟨b,9,none⟩=some v9∧w.cell? ⟨b,10,none⟩=some v10∧w.cell? ⟨b,11,none⟩=some v11:=by
 simp [World.cell?,h]
theorem qal(w:World)(o:Obj):Below w.heap.size w (w.alloc o):=(Below.refl _ _).alloc (Nat.le_refl _) o
abbrev Rt(w:World)(v:Value):Ending→World→Prop:=fun e m=>e=.returned v∧Below w.heap.size w m
abbrev zA:=@List.getElem?_cons_succ
abbrev zB:=@List.getElem?_cons_zero
abbrev zC:=@List.getElem?_toArray
abbrev zD:=@List.filterMap_cons
abbrev zE:=@List.filterMap_nil
abbrev zF:=@List.getElem?_eq_getElem
abbrev zG:=@List.getElem?_eq_some_iff
abbrev zH:=@Array.getElem?_eq_some_iff
abbrev zI:=@List.getD_eq_getElem?_getD
abbrev zJ:=@List.length_append
abbrev zK:=@List.length_map
abbrev zL:=@World.alloc_heap_new
abbrev zM:=@World.size_alloc
abbrev zN:=@beq_eq_false_iff_ne
abbrev zO:=@List.mem_singleton
abbrev zP:=@decide_eq_false
abbrev zQ:=@decide_eq_true
abbrev zR:=@List.mem_cons_self
abbrev zS:=@List.mem_of_getElem?
abbrev zT:=@Nat.le_refl
abbrev zU:=@List.flatMap_append
abbrev zV:=@List.flatMap_singleton
abbrev zW:=@List.map_append
abbrev zX:=@List.mem_cons
abbrev zY:=@Nat.le_trans
abbrev zZ:=@List.append_assoc
abbrev za:=@List.length_take
abbrev zb:=@List.length_cons
abbrev zc:=@List.mem_cons_of_mem
abbrev zd:=@Nat.zero_le
abbrev ze:=@List.not_mem_nil
abbrev zg:=@List.setIfInBounds_toArray
abbrev zh:=@List.set_cons_succ
abbrev zi:=@List.set_cons_zero
abbrev zj:=@List.length_pos_iff
abbrev zk:=@beq_self_eq_true
abbrev zl:=@Nat.lt_of_lt_of_le
abbrev zm:=@List.getElem?_map
abbrev zn:=@List.length_nil
abbrev zo:=@List.cons_append
abbrev zp:=@List.nil_append
abbrev zq:=@List.append_nil
abbrev zr:=@List.getElem?_append_right
abbrev zt:=@List.getElem?_append_left
abbrev zu:=@Option.some.inj
abbrev zv:=@List.getElem?_take
abbrev zw:=@List.take_append_drop
abbrev zx:=@List.map_map
abbrev zy:=@List.length_drop
abbrev zz:=@List.drop_left'
abbrev ZA:=@List.map_singleton
abbrev ZC:=@Int.toNat_natCast
abbrev ZD:=@beq_iff_eq
abbrev ZE:=@List.length_eq_zero_iff
abbrev ZF:=@List.mem_append
abbrev ZG:=@List.mem_map
abbrev ZH:=@IntKind.wrap_i64
abbrev ZI:=@List.getElem?_drop
abbrev ZJ:=@List.getElem_mem
abbrev ZK:=@List.flatMap_cons
abbrev ZM:=@List.length_singleton
abbrev ZN:=@List.singleton_append
abbrev ZP:=@List.getElem?_set
abbrev ZQ:=@List.length_set
abbrev ZS:=@Nat.le_add_right
abbrev ZT:=@KeepsOthers.setCell
abbrev ZU:=@Bool.and_eq_true
abbrev ZV:=@ByteArray.size_extract
abbrev ZW:=@World.ownsRow.lt
abbrev ZX:=@decide_eq_true_eq
abbrev ZY:=@Bool.eq_iff_iff
abbrev ZZ:=@List.drop_zero
abbrev Za:=@Nat.zero_add
abbrev Zb:=@congrArg
abbrev Zc:=@Below.refl
abbrev Zd:=@List.map_cons
abbrev Ze:=@Nat.add_sub_cancel
abbrev Zf:=@if_neg
abbrev Zg:=@if_pos
abbrev Zh:=@Nat.lt_irrefl
abbrev Zi:=@List.drop_length
abbrev Zj:=@List.take_zero
abbrev Zk:=@Nat.sub_self
abbrev Zl:=@Nat.add_zero
abbrev Zm:=@List.take_succ_cons
abbrev Zn:=@Nat.lt_succ_self
abbrev Zo:=@Nat.not_lt_zero
abbrev Zp:=@List.take_length
abbrev Zq:=@Nat.le_of_lt
abbrev Zr:=@Int.le_refl
abbrev Zs:=@List.all_eq_true
abbrev Zt:=@wpQuiet_nil
abbrev Zu:=@grownBy_setCell'
abbrev Zv:=@run_takeDeferred
abbrev Zw:=@World.cell?_setCell_far
abbrev Zx:=@World.ownsRow_nil
abbrev Zy:=@wpList_append_own_at
abbrev Zz:=@wpListIn_append_own
abbrev qA:=@Below.heap_alloc
abbrev qB:=@World.putObj_heap_other
abbrev qC:=@bodyPost_ret
abbrev qD:=@List.getElem?_eq_none
abbrev qE:=@grownBy_putObj'
abbrev qF:=@absurd
abbrev qG:=@callsIn_wide
abbrev qH:=@World.ownsRow.stored
abbrev qI:=@callsIn_of_wp_marks
abbrev qJ:=@enters_of
abbrev qK:=@List.ext_getElem?
abbrev qL:=@List.eq_nil_of_length_eq_zero
abbrev qM:=@List.getLast?_cons_cons
abbrev qN:=@List.pairwise_cons
abbrev qO:=@List.pairwise_append
abbrev qP:=@World.ownsRow.alloc
abbrev qQ:=@KeepsOthers.of_grownBy
abbrev qR:=@Bool.not_eq_true'
abbrev qS:=@List.take_add_one
abbrev qT:=@List.drop_eq_getElem_cons
abbrev qU:=@List.take_of_length_le
abbrev qV:=@Oper.semAt_some
abbrev qW:=@List.size_toArray
abbrev qX:=@Array.replicate_succ
abbrev qY:=@Array.replicate_zero
abbrev qZ:=@List.push_toArray
abbrev qd:=@List.append_toArray
abbrev qg:=@Act.eval_put_ne
abbrev qh:=@Act.eval_put_same
abbrev qi:=@Act.size_put
abbrev qj:=@ByteArray.size_append
abbrev qk:=@List.mem_iff_getElem?
abbrev ql:=@List.drop_eq_nil_of_le
abbrev qm:=@List.set_append_right
abbrev qo:=@List.getElem?_concat_length
abbrev qp:=@List.drop_succ_cons
abbrev qq:=@ByteArray.ext
abbrev qr:=@Array.getElem?_modify
abbrev qs:=@Array.getElem?_eq_getElem
abbrev qt:=@List.pairwise_singleton
abbrev qu:=@ByteArray.data_extract
abbrev qv:=@Array.eq_empty_of_size_eq_zero
abbrev qx:=@List.getLast?_eq_getElem?
abbrev qy:=@Result.andThen_ok
abbrev qz:=@Nat.add_assoc
abbrev JA:=@Lib.decode_at
abbrev JB:=@Sem.run_pure
abbrev JC:=@World.ownsRow.kept
abbrev JD:=@Nat.add_mul
abbrev JE:=@List.mem_of_mem_take
abbrev JF:=@List.mem_append_left
abbrev JG:=@World.putObj_heap_same
abbrev JH:=@Nat.mod_two_eq_zero_or_one
abbrev JI:=@List.take_succ_eq_append_getElem
abbrev JJ:=@List.set_set
abbrev JK:=@Addr.add_lit
abbrev JL:=@World.cell?_of_block
abbrev JM:=@Nat.mul_le_mul_right
abbrev JN:=@List.replicate_succ
abbrev JO:=@List.getElem?_range
abbrev JP:=@Nat.lt_or_ge
abbrev JQ:=@World.rowIs_made
abbrev JR:=@List.getLastD_eq_getLast?
abbrev JS:=@heap_alloc_new
abbrev JT:=@results_cell_row
abbrev JU:=@run_underlying
abbrev JV:=@cell_one_new
abbrev JW:=@getElem!_pos
abbrev JX:=@wp_region_lit
abbrev JY:=@belowK_b
abbrev JZ:=@of_decide_eq_true
end
theorem lh {p : Prop} (h : p) : Go.RowKit.Hid p := h
section
open Go.RowKit
def yH (l:List Int) (i:Nat):Int:=l.getD i 0
theorem yK {k:IntKind} {a b:Int} (h:a=b):Ending.returned (.int k a)=.returned (.int k b):=by rw [h]
theorem yAk {a b:Bool} (h:a=b):Ending.returned (.bool a)=.returned (.bool b):=by rw [h]
theorem ret_ii {k e:IntKind} {a b c d:Int} (h:a=b) (f:c=d):Ending.returned (.tuple #[.int k a,.int e c])=.returned (.tuple #[.int k b,.int e d]):=by rw [h,f]
theorem ret_ibb {k:IntKind} {a b:Int} {c d x y:Bool} (h:a=b) (e:c=d) (f:x=y) :
 Ending.returned (.tuple #[.int k a,c,x])=.returned (.tuple #[.int k b,d,y]):=by rw [h,e,f]
theorem yI {B:Nat} {a w:World} (h:Below B a w) (n:Nat):Below B a (w.drewN n):=h.trans ⟨rfl,rfl,rfl,zT _,fun _ _=>rfl⟩
theorem yD {w:World} {b o:Nat} {v:Value} (h:w.cell? ⟨b,o,none⟩=some v):b<w.heap.size:=World.block_lt_of_cell? w ⟨b,o,none⟩ h
theorem yB {B:Nat} {w w':World} (h:Below B w w') {b o:Nat} {v:Value} (a:b<B) (c:w.cell? ⟨b,o,none⟩=some v):w'.cell? ⟨b,o,none⟩=some v :=
 (h.cell (p:=⟨b,o,none⟩) a).trans c
def Rd (k:IntKind) (w:World) (a:Option Addr) (xs:List Int):Prop :=
 xs=[]∨∃b off,a=some ⟨b,off,none⟩∧b<w.heap.size∧∀i,i<xs.length→w.cell? ⟨b,off+i,none⟩=some (.int k (yH xs i))
theorem Rd.below {k:IntKind} {w w':World} {a:Option Addr} {xs:List Int} (h:Rd k w a xs) (c:Below w w w'):Rd k w' a xs:=by
 rcases h with h | ⟨b,e,f,d,g⟩
 ·exact .inl h
 ·exact .inr ⟨b,e,f,zl d c.size,fun i j=>yB c d (g i j)⟩
theorem Rd.at {k:IntKind} {w wr:World} {a:Option Addr} {xs:List Int} (h:Rd k w a xs) (f:Below w w wr) (i:Nat) (d:i<xs.length) :
 ∃b c,a=some ⟨b,c,none⟩∧b<w.heap.size∧wr.cell? ⟨b,c+i,none⟩=some (.int k (yH xs i)):=by
 rcases h with h | ⟨b,c,g,e,j⟩
 ·subst h;simp at d
 ·exact⟨b,c,g,e,yB f e (j i d)⟩
theorem yP0 {w:World} {a:Addr} {v:Value} (h:w.cell? a=some v) (u:Value):(w.setCell a u).cell? a=some u:=World.cell?_setCell_same' w a u (by rw [h];rfl)
theorem frozen_set {w:World} {a:Addr} {b:Bool} (h:w.frozen? a=b) (u:Value):(w.setCell a u).frozen? a=b:=by rw [World.frozen?_setCell];exact h
end
section
def yAv (r:Int):Int:=if r<0∨1114111<r∨(55296≤r∧r≤57343) then 65533 else r
theorem known_bd (r:Int):0≤yAv r∧yAv r≤1114111:=by unfold yAv;split <;> omega
def yBh:List (Int × Int)→Int→Int
 | [],_=>0
 | [x],_=>x.2
 | x::y::rest,r=>if r<y.1 then x.2 else yBh (y::rest) r
def yF4:List (Int × Int)→Bool
 | x::y::rest=>decide (x.1<y.1)&&yF4 (y::rest)
 | _=>true
theorem rises_le:∀(T:List (Int × Int)) (i:Nat),yF4 T=true→i<T.length→(T.getD 0 (0,0)).1≤(T.getD i (0,0)).1
 | [],_,_,h=>by simp at h
 | [x],i,_,h=>by
   obtain rfl:i=0:=(by simpa using h);simp
 | x::y::rest,0,_,_=>by simp
 | x::y::rest,i+1,hs,h=>by
   simp only [yF4,ZU,ZX] at hs;have:=rises_le (y::rest) i hs.2 (by simpa using h);simp at this ⊢;omega
theorem yDy:∀(T:List (Int × Int)) (low:Nat) (r:Int),yF4 T=true→low<T.length→(low=0∨(T.getD low (0,0)).1≤r)→(low+1=T.length∨r<(T.getD (low+1) (0,0)).1) →
 yBh T r=(T.getD low (0,0)).2
 | [],low,_,_,h,_,_=>by simp at h
 | [x],low,r,_,h,_,_=>by
   obtain rfl:low=0:=(by simpa using h);simp [yBh]
 | x::y::rest,0,r,_,_,_,a=>by
   simp only [yBh];rcases a with a | a
   ·simp at a
   ·simp at a;rw [Zg a];simp
 | x::y::rest,low+1,r,hs,h,b,a=>by
   simp only [yF4,ZU,ZX] at hs;have c:=rises_le (y::rest) low hs.2 (by simpa using h);simp only [List.getD_cons_succ] at b a;have d:((y::rest).getD low (0,0)).1≤r:=by
    rcases b with b | b
    ·omega
    ·exact b
   simp only [yBh];rw [Zf (by rw [List.getD_cons_zero] at c;omega)];exact yDy (y::rest) low r hs.2 (by simpa using h) (.inr d) (by simpa using a)
def yGa (T:List (Int × Int)):Bool:=T.all fun x=>decide (0≤x.2)&&decide (x.2≤127)
theorem yEf {T:List (Int × Int)} (h:yGa T=true) (i:Nat):0≤(T.getD i (0,0)).2∧(T.getD i (0,0)).2≤127:=by
 rw [zI];cases hx:T[i]? with
 | none=>simp
 | some x =>
   have:=Zs.1 h x (zS hx);simpa using this
def yE8:List (Int × Int):=[(0,9),(9,11),(10,10),(11,11),(12,12),(13,10),(14,9),(28,10),(31,11),(32,12),(33,13),(35,5),(38,13),(43,4),(44,7),(45,4),(46,7),(48,3),(58,7),(59,13),(65,0),(91,13),(97,0),(123,13),(127,9),(133,10),(134,9),(160,7),(161,13),(162,5),(166,13),(173,9),(174,13),(176,5),(178,3),(180,13),(185,3),(186,13),(192,0),(215,13),(216,0),(247,13),(248,0),(768,8),(880,0),(1155,8),(1162,0),(1424,1),(1425,8),(1470,1),(1471,8),(1472,1),(1473,8),(1475,1),(1476,8),(1478,1),(1479,8),(1480,1),(1536,6),(1542,13),(1544,2),(1548,7),(1549,2),(1552,8),(1563,2),(1611,8),(1632,6),(1642,5),(1643,6),(1645,2),(1648,8),(1649,2),(1750,8),(1757,6),(1758,2),(1759,8),(1765,2),(1767,8),(1769,2),(1770,8),(1774,2),(1776,3),(1786,2),(1984,1),(2144,0),(3633,8),(3634,0),(3636,8),(3643,0),(3655,8),(3663,0),(5760,12),(5761,0),(6832,8),(6912,0),(7616,8),(7680,0),(8192,12),(8203,9),(8206,0),(8207,1),(8208,13),(8232,12),(8233,10),(8234,14),(8235,15),(8236,18),(8237,16),(8238,17),(8239,7),(8240,5),(8245,13),(8287,12),(8288,9),(8294,19),(8295,20),(8296,21),(8297,22),(8298,0),(8304,3),(8314,0),(8320,3),(8330,0),(8352,5),(8400,8),(8448,0),(8592,13),(8722,4),(8723,13),(9372,0),(9472,13),(11264,0),(12288,12),(12289,13),(12293,0),(12296,13),(12321,0),(12330,8),(12334,0),(12336,13),(12337,0),(12441,8),(12443,0),(64285,1),(64336,2),(65024,8),(65040,0),(65056,8),(65072,0),(65136,2),(65279,9),(65280,0),(65281,13),(65283,5),(65286,13),(65291,4),(65292,7),(65293,4),(65294,7),(65296,3),(65306,7),(65307,13),(65313,0),(65339,13),(65345,0),(65371,13),(65382,0),(65532,13),(65534,0),(67584,1),(69632,0),(127744,13),(129792,0)]
def yDa (r:Int):Int:=yBh yE8 (yAv r)
def brL:List Int:=[40,41,91,93,123,125,12296,12297,12298,12299,12300,12301,12302,12303,12304,12305,12308,12309,12310,12311,12312,12313,12314,12315,65288,65289,65339,65341,65371,65373]
def pairAt:List Int→Int→Int × Bool × Bool
 | o::c::rest,r=>if r=o then (c,true,true) else if r=c then (o,false,true) else pairAt rest r
 | _,_=>(0,false,false)
def yA2 (r:Int):Int × Bool × Bool:=pairAt brL r
def farI (k:Nat):Int:=if k % 2=0 then (if (1<k∧k<6)∨25<k then 2 else 1) else (if (1<k∧k<6)∨25<k then -2 else -1)
theorem pair_hit:∀k,k<30→40≤yH brL k∧yH brL k≤65373∧(65339≤yH brL k↔25<k)∧yA2 (yH brL k)=(yH brL k+farI k,decide (k % 2=0),true):=by decide +kernel
theorem pair_miss:∀(l:List Int) (r:Int),(∀x∈l,x≠r)→pairAt l r=(0,false,false)
 | [],_,_=>rfl
 | [_],_,_=>rfl
 | o::c::rest,r,h=>by
   unfold pairAt;rw [Zf (fun e=>h o (by simp) e.symm),Zf (fun e=>h c (by simp) e.symm)];exact pair_miss rest r (fun x a=>h x (by simp [a]))
theorem yQr (r:Int) (h:∀j,j<30→yH brL j≠r):yA2 r=(0,false,false):=by
 refine pair_miss brL r fun x a e=>?_;obtain⟨j,b,a⟩:=List.mem_iff_getElem.1 a;exact h j (by simpa [brL] using b) (by rw [yH,zI,zF b];simpa [a] using e)
end
section
def yCc (k:Int):Int:=if k=0 then 0 else if k=1∨k=2∨k=3∨k=6 then 1 else -1
def yC6 (k:Int):Int:=if k=1 then 1 else 0
def yOz (xs:List Int) (e ahead:Int):Nat→Nat→Int→Int
 | 0,_,acc=>acc
 | m+1,i,acc=>if yCc (yH xs i)=e then e else if yCc (yH xs i) = -1 then yOz xs e ahead m (i+1) acc else yOz xs e ahead m (i+1) ahead
def decI (xs:List Int) (p0 p1:Nat) (e ahead:Int):Int:=yOz xs e ahead (p1-(p0+1)) (p0+1) (-1)
def yDj (st:List (Nat × Int)) (r:Int):Nat→Option Nat
 | 0=>none
 | k+1=>if (st.getD k (0,0)).2=r then some k else yDj st r k
def brkF (rs ks:List Int):Nat→Nat→List (Nat × Int)→List (Nat × Nat)→List (Nat × Nat)
 | 0,_,_,out=>out
 | m+1,i,st,out =>
   if (yA2 (yH rs i)).2.2=false∨yH ks i≠13 then brkF rs ks m (i+1) st out
   else if (yA2 (yH rs i)).2.1=true then (if st.length=63 then out else brkF rs ks m (i+1) (st++[(i,(yA2 (yH rs i)).1)]) out)
   else match yDj st (yH rs i) st.length with
    | none=>brkF rs ks m (i+1) st out
    | some k=>brkF rs ks m (i+1) (st.take k) (out++[((st.getD k (0,0)).1,i)])
def alF:Nat→Nat→List Int→List Int
 | 0,_,out=>out
 | m+1,i,out=>if yH out i=2 then alF m (i+1) (out.set i 1) else alF m (i+1) out
def yDf (out:List Int):Nat→Nat→Int→Int
 | 0,_,a=>a
 | m+1,i,a=>if 0≤yCc (yH out i) then yDf out m (i+1) (yCc (yH out i)) else yDf out m (i+1) a
def yHj (rs:List Int) (k:Int):Nat→Nat→List Int→List Int
 | 0,_,out=>out
 | m+1,i,out=>if yCc (yH out i)<0∧yDa (yH rs i)=8 then yHj rs k m (i+1) (out.set i k) else out
def yHp (rs:List Int) (n:Nat) (k:Int) (b:Nat) (out:List Int):List Int:=yHj rs k (n-(b+1)) (b+1) (out.set b k)
def resF (rs:List Int) (n:Nat) (e:Int):List (Nat × Nat)→Nat→Int→List Int→List Int
 | [],_,_,out=>out
 | p::ps,at',ahead,out =>
   if decI out p.1 p.2 e (yDf out (p.1-at') at' ahead)<0 then resF rs n e ps (at'+(p.1-at')) (yDf out (p.1-at') at' ahead) out
   else resF rs n e ps (at'+(p.1-at')) (yDf out (p.1-at') at' ahead)
    (yHp rs n (decI out p.1 p.2 e (yDf out (p.1-at') at' ahead)) p.2 (yHp rs n (decI out p.1 p.2 e (yDf out (p.1-at') at' ahead)) p.1 out))
def yJq (out:List Int):Nat→Nat→Nat
 | 0,j=>j
 | m+1,j=>if yCc (yH out j)<0 then yJq out m (j+1) else j
def yO5 (k:Int):Nat→Nat→List Int→List Int
 | 0,_,out=>out
 | m+1,i,out=>yO5 k m (i+1) (out.set i k)
def fillI (n:Nat) (e sos eos:Int) (i j:Nat) (out:List Int):Int :=
 if (if 0<i then yCc (yH out (i-1)) else sos)=(if j<n then yCc (yH out j) else eos) then (if 0<i then yCc (yH out (i-1)) else sos) else e
def yGr (n:Nat) (e sos eos:Int):Nat→Nat→List Int→List Int
 | 0,_,out=>out
 | f+1,i,out =>
   if i<n then
    if 0≤yCc (yH out i) then yGr n e sos eos f (i+1) out
    else yGr n e sos eos f (yJq out (n-i) i) (yO5 (fillI n e sos eos i (yJq out (n-i) i) out) (yJq out (n-i) i-i) i out)
   else out
def yIf (rs ks:List Int) (level sos eos:Int) (l:List (Nat × Nat)):List Int :=
 yGr (min rs.length ks.length) (level % 2) (yC6 sos) (yC6 eos) (min rs.length ks.length+1) 0
  (resF rs (min rs.length ks.length) (level % 2) l 0 (yC6 sos) (alF (min rs.length ks.length) 0 (ks.take (min rs.length ks.length))))
end
section
def lkn (d:Int):Int:=if d<0∨22<d then 13 else d
theorem lkn_bd (d:Int):0≤lkn d∧lkn d≤22:=by unfold lkn;split <;> omega
def yEm:Nat→Nat→Int→List Int→List Int
 | 0,_,_,l=>l
 | m+1,i,sos,l =>
   if yH l i=8 then yEm m (i+1) (if 19≤sos∧sos≤22 then 13 else sos) (l.set i sos)
   else yEm m (i+1) (if 19≤yH l i∧yH l i≤22 then 13 else yH l i) l
def yCa:Nat→Nat→Int→List Int→List Int
 | 0,_,_,l=>l
 | m+1,i,sos,l =>
   if yH l i=0∨yH l i=1∨yH l i=2 then yCa m (i+1) (yH l i) l
   else if yH l i=3∧sos=2 then yCa m (i+1) sos (l.set i 6)
   else yCa m (i+1) sos l
def yB1:Nat→Nat→List Int→List Int
 | 0,_,l=>l
 | m+1,i,l=>if yH l i=2 then yB1 m (i+1) (l.set i 1) else yB1 m (i+1) l
def yOa:Nat→Nat→List Int→List Int
 | 0,_,l=>l
 | m+1,i,l =>
   if yH l (i-1)=yH l (i+1)∧(yH l (i-1)=3∨yH l (i-1)=6)∧(yH l i=7∨(yH l i=4∧yH l (i-1)=3)) then yOa m (i+1) (l.set i (yH l (i-1)))
   else yOa m (i+1) l
def yCf (b:Bool) (l:List Int):Nat→Nat→Nat
 | 0,i=>i
 | m+1,i=>if decide (yH l i=5)=b then i else yCf b l m (i+1)
def fillW (k:Int):Nat→Nat→List Int→List Int
 | 0,_,l=>l
 | m+1,i,l=>fillW k m (i+1) (l.set i k)
def yHv:Nat→Nat→List Int→List Int
 | 0,_,l=>l
 | f+1,i,l =>
   let a:=yCf true l (l.length-i) i
   if a=l.length then l
   else
    let b:=yCf false l (l.length-a) a
    if (0<a∧yH l (a-1)=3)∨(b<l.length∧yH l b=3) then yHv f b (fillW 3 (b-a) a l) else yHv f b l
def yC1:Nat→Nat→List Int→List Int
 | 0,_,l=>l
 | m+1,i,l=>if yH l i=4∨yH l i=5∨yH l i=7 then yC1 m (i+1) (l.set i 13) else yC1 m (i+1) l
def yB8:Nat→Nat→Int→List Int→List Int
 | 0,_,_,l=>l
 | m+1,i,sos,l =>
   if yH l i=0∨yH l i=1 then yB8 m (i+1) (yH l i) l
   else if yH l i=3∧sos=0 then yB8 m (i+1) sos (l.set i 0)
   else yB8 m (i+1) sos l
def weakF (ks:List Int) (sos:Int):List Int :=
 let n:=ks.length
 let s:=if sos=1 then (1:Int) else 0
 yB8 n 0 s (yC1 n 0 (yHv (n+1) 0 (yOa (n-2) 1 (yB1 n 0 (yCa n 0 s (yEm n 0 s (ks.map lkn)))))))
end
section
def yDp (d:Int):Bool:=decide (d=9)||(decide (14≤d)&&decide (d≤18))
def yBk (d:Int):Bool:=decide (19≤d)&&decide (d≤21)
def yD1 (ds:List Int):Nat→Nat→Nat→Int
 | 0,_,_=>13
 | m+1,i,deep =>
   if yBk (lkn (yH ds i))=true then yD1 ds m (i+1) (deep+1)
   else if lkn (yH ds i)=22∧0<deep then yD1 ds m (i+1) (deep-1)
   else if lkn (yH ds i)=22∨lkn (yH ds i)=10 then 13
   else if deep=0∧(lkn (yH ds i)=0∨lkn (yH ds i)=1∨lkn (yH ds i)=2) then lkn (yH ds i)
   else yD1 ds m (i+1) deep
def yEl (ds:List Int):Int:=yD1 ds ds.length 0 0
def yBu (ds:List Int):Nat→Nat→Nat→Int
 | 0,_,_ => -1
 | m+1,i,deep =>
   if yBk (lkn (yH ds i))=true then yBu ds m (i+1) (deep+1)
   else if lkn (yH ds i)=22∧deep=0 then (i:Int)+1
   else if lkn (yH ds i)=22 then yBu ds m (i+1) (deep-1)
   else if lkn (yH ds i)=10 then -1
   else yBu ds m (i+1) deep
def skipF (ds:List Int):Nat→Nat→Nat
 | 0,i=>i
 | m+1,i=>if lkn (yH ds i)=22 then skipF ds m (i+1) else i
def yNg (want:Int):Nat→List Int→Int
 | 0,_=>0
 | f+1,ds =>
   if want=1 then 0 else if want=2 then 1
   else if skipF ds ds.length 0=ds.length then 0
   else if lkn (yH ds (skipF ds ds.length 0))=10 then 0
   else if yEl (ds.drop (skipF ds ds.length 0))=13 then
    (if ((skipF ds ds.length 0:Nat):Int)<yBu ds (ds.length-skipF ds ds.length 0) (skipF ds ds.length 0) 0 then
      yNg want f (ds.drop (yBu ds (ds.length-skipF ds ds.length 0) (skipF ds ds.length 0) 0).toNat) else 0)
   else if yEl (ds.drop (skipF ds ds.length 0))≠0 then 1 else 0
def yIm (ds:List Int) (want:Int):Int:=yNg want (ds.length+1) ds
def pairsF (ds:List Int):Nat→Nat→List Nat→List Int→List Int
 | 0,_,_,out=>out
 | m+1,i,opn,out =>
   if yBk (lkn (yH ds i))=true then pairsF ds m (i+1) (opn++[i]) (out.set i (-1))
   else if lkn (yH ds i)=10 then pairsF ds m (i+1) [] (out.set i (-1))
   else if lkn (yH ds i)=22∧0<opn.length then pairsF ds m (i+1) (opn.take (opn.length-1)) (((out.set i (-1)).set i (opn.getD (opn.length-1) 0)).set (opn.getD (opn.length-1) 0) i)
   else pairsF ds m (i+1) opn (out.set i (-1))
def yDi (ds:List Int):List Int:=pairsF ds ds.length 0 [] (List.replicate ds.length 0)
structure LSt where
 level:Nat
 over:Int
 iso:Bool
structure LPile where
 states:List LSt
 opn:Nat
 deep:Nat
 emb:Nat
def LPile.top (p:LPile):LSt:=p.states.getLastD ⟨0,-1,false⟩
def LPile.said (p:LPile) (d:Int):Int:=if p.top.over ≠ -1 then p.top.over else d
def LPile.next (p:LPile) (odd:Bool):Nat:=if odd then (p.top.level+1) / 2*2+1 else (p.top.level+2) / 2*2
def LPile.room (p:LPile) (odd:Bool):Bool:=decide (p.next odd≤125)&&decide (p.deep=0)&&decide (p.emb=0)
def LPile.lay (p:LPile) (odd:Bool) (over:Int) (iso:Bool):LPile:=if p.room odd=true then { p with states:=p.states++[⟨p.next odd,over,iso⟩] } else p
def LPile.pop (p:LPile):LPile:={ p with states:=p.states.take (p.states.length-1) }
def LPile.popTo:Nat→LPile→LPile
 | 0,p=>p
 | n+1,p=>if p.top.iso=true then p else popTo n p.pop
def LPile.close (p:LPile):LPile :=
 if 0<p.deep then { p with deep:=p.deep-1 }
 else if 0<p.opn then { ((LPile.popTo p.states.length { p with emb:=0 }).pop) with opn:=p.opn-1 }
 else p
def LPile.fin (p:LPile):LPile :=
 if 0<p.deep then p
 else if 0<p.emb then { p with emb:=p.emb-1 }
 else if 1<p.states.length∧p.top.iso=false then p.pop
 else p
def LPile.embed (p:LPile) (d:Int):LPile :=
 let odd:=decide (d=15)||decide (d=17)
 let over:Int:=if d=16 then 0 else if d=17 then 1 else -1
 if p.room odd=true then p.lay odd over false else if p.deep=0 then { p with emb:=p.emb+1 } else p
def LPile.step (p:LPile) (base:Nat) (ds:List Int) (i:Nat):LPile × Nat × Int :=
 let d:=lkn (yH ds i)
 if 14≤d∧d≤17 then (p.embed d,p.top.level,9)
 else if 19≤d∧d≤21 then
  let odd:=if d=21 then decide (yEl (ds.drop (i+1))=1)||decide (yEl (ds.drop (i+1))=2) else decide (d=20)
  (if p.room odd=true then { p.lay odd (-1) true with opn:=p.opn+1 } else { p with deep:=p.deep+1 },p.top.level,p.said d)
 else if d=22 then (p.close,p.close.top.level,p.close.said d)
 else if d=18 then (p.fin,p.fin.top.level,9)
 else if d=9 then (p,p.top.level,9)
 else if d=10 then (⟨[⟨base,-1,false⟩],0,0,0⟩,base,10)
 else (p,p.top.level,p.said d)
def levF (base:Nat) (ds:List Int):Nat→Nat→LPile→List Nat→List Int→List Nat × List Int
 | 0,_,_,ls,ks=>(ls,ks)
 | m+1,i,p,ls,ks=>levF base ds m (i+1) (p.step base ds i).1 (ls++[(p.step base ds i).2.1]) (ks++[(p.step base ds i).2.2])
def levI (ds:List Int) (base:Nat):List Nat × List Int:=levF (min base 125) ds ds.length 0 ⟨[⟨min base 125,-1,false⟩],0,0,0⟩ [] []
structure RSt where
 out:List (List Nat)
 goes:List (Nat × Nat)
 now:Int
 last:Int
def RSt.find (s:RSt) (i:Nat):Option Nat:=(s.goes.find? (fun x=>x.1==i)).map (·.2)
def RSt.at (s:RSt) (ps:List Int) (i:Nat):Option Nat :=
 match s.find i with
 | none=>none
 | some k=>if (((s.out.getD k []).getLastD 0:Nat):Int)≠yH ps i then none else some k
def RSt.step (s:RSt) (ds ls ps:List Int) (i:Nat):RSt :=
 let d:=lkn (yH ds i)
 if yDp d=true then s
 else
  let fresh:Bool:=decide (s.now<0)||decide (s.last<0)||decide (yH ls s.last.toNat≠yH ls i)
  let k:Nat:=if fresh=true then (s.at ps i).getD s.out.length else s.now.toNat
  let out1:List (List Nat):=if fresh=true∧(s.at ps i).isNone=true then s.out++[[]] else s.out
  {out:=out1.set k (out1.getD k []++[i]),
   goes:=if yBk d=true∧0≤yH ps i then ((yH ps i).toNat,k)::s.goes else s.goes,
   now:=k,
   last:=if d=10 then -1 else i }
def yKt (ds ls ps:List Int):Nat→Nat→RSt→RSt
 | 0,_,s=>s
 | m+1,i,s=>yKt ds ls ps m (i+1) (s.step ds ls ps i)
def runsI (ds ls:List Int):List (List Nat) :=
 let n:=min ds.length ls.length
 (yKt (ds.take n) ls (yDi (ds.take n)) n 0 ⟨[],[],-1,-1⟩).out
end
section
def yGz (ds:List Int) (ls:List Nat) (base:Nat):Nat→Nat
 | 0=>base
 | i+1=>if lkn (yH ds i)=10 then base else if yDp (lkn (yH ds i))=true then yGz ds ls base i else ls.getD i 0
def yD9 (ds:List Int) (ls:List Nat) (base:Nat):Nat→Nat→Nat
 | 0,_=>base
 | m+1,i=>if yDp (lkn (yH ds i))=true then yD9 ds ls base m (i+1) else ls.getD i 0
def yKn (ds:List Int) (ls:List Nat) (base:Nat) (run:List Nat):Int × Int :=
 let n:=min ds.length ls.length
 let ps:=run.filter (fun p=>decide (p<n))
 if ps=[] then (((base % 2:Nat):Int),((base % 2:Nat):Int))
 else
  let a:=ps.getD 0 0
  let b:=ps.getLastD 0
  let behind:=if (yBk (lkn (yH ds b))=false∨0≤yH (yDi (ds.take n)) b)∧lkn (yH ds b)≠10 then yD9 ds ls base (n-(b+1)) (b+1) else base
  (((max (ls.getD a 0) (yGz ds ls base a) % 2:Nat):Int),((max (ls.getD b 0) behind % 2:Nat):Int))
def insP (p:Nat × Nat):List (Nat × Nat)→List (Nat × Nat)
 | []=>[p]
 | q::t=>if p.1<q.1 then p::q::t else q::insP p t
def sortP (l:List (Nat × Nat)):List (Nat × Nat):=l.foldl (fun s p=>insP p s) []
def resI (rs ks:List Int) (level sos eos:Int):List Int :=
 let n:=min rs.length ks.length
 yIf rs ks level sos eos (sortP (brkF (rs.take n) (alF n 0 (ks.take n)) n 0 [] []))
def upI (x:Nat) (k:Int):Nat:=if k=3∨k=6 then 2-x % 2 else if (k=1∧x % 2=0)∨(k=0∧x % 2=1) then 1 else 0
def yHh (x:Nat) (own:List Int):List Nat→Nat→List Nat→List Nat
 | [],_,out=>out
 | p::ps,i,out=>yHh x own ps (i+1) (out.set p (x+upI x (yH own i)))
def yMa (cs ds:List Int) (ls:List Nat) (ks:List Int) (base:Nat) (run:List Nat) (out:List Nat):List Nat :=
 let x:=ls.getD (run.getD 0 0) 0
 let s:=yKn ds ls base run
 yHh x (resI (run.map (yH cs)) (weakF (run.map (yH ks)) s.1) x s.1 s.2) run 0 out
def yLf (ds:List Int) (base:Nat):Nat→Nat→Nat→List Nat→List Nat
 | 0,_,_,out=>out
 | m+1,i,ahead,out =>
   if yDp (yH ds i)=true then yLf ds base m (i+1) ahead (out.set i ahead)
   else if yH ds i=10 then yLf ds base m (i+1) base (out.set i base)
   else yLf ds base m (i+1) (out.getD i 0) out
def paraI (cs ds:List Int) (base:Nat):List Nat :=
 let lk:=levI ds base
 yLf ds base ds.length 0 base ((runsI ds (lk.1.map Int.ofNat)).foldl (fun out run=>yMa cs ds lk.1 lk.2 base run out) (List.replicate cs.length 0))
def yJb (ds:List Int):Nat:=match ds.findIdx? (fun d=>d==10) with
 | none=>ds.length
 | some i=>i+1
def yKb (base:Nat):Nat→List Int→List Nat→List Nat
 | 0,_,out=>out
 | f+1,cs,out =>
   if cs=[] then out
   else yKb base f (cs.drop (yJb (cs.map yDa))) (out++paraI (cs.take (yJb (cs.map yDa))) ((cs.take (yJb (cs.map yDa))).map yDa) base)
def yAx (cs:List Int) (want:Int):List Nat × Int :=
 (yKb (yIm (cs.map yDa) want).toNat cs.length cs [],yIm (cs.map yDa) want)
end
section
def LPile.last (P:LPile) (i:Nat):LSt:=P.states.getD i ⟨0,-1,false⟩
structure LPile.Ok (P:LPile) (i:Nat):Prop where
 ne:0<P.states.length
 bot:(P.last 0).iso=false
 cnt:P.states.countP (·.iso)=P.opn
 lev:∀s∈P.states,s.level≤125 ∧ -1≤s.over∧s.over≤1
 deep:P.deep≤i
 emb:P.emb≤i
 len:P.states.length≤i+1
 opn:P.opn≤i
theorem LPile.top_at (P:LPile) (h:0<P.states.length):P.top=P.last (P.states.length-1):=by
 unfold LPile.top LPile.last;rw [JR,qx,zI]
theorem LPile.top_mem (P:LPile) (h:0<P.states.length):P.top∈P.states:=by
 rw [P.top_at h,LPile.last,zI,zF (by omega)];exact ZJ _
theorem LPile.Ok.top {P:LPile} {i:Nat} (h:P.Ok i):P.top.level≤125 ∧ -1≤P.top.over∧P.top.over≤1:=h.lev _ (P.top_mem h.ne)
theorem LPile.Ok.mono {P:LPile} {i j:Nat} (h:P.Ok i) (a:i≤j):P.Ok j:=⟨h.ne,h.bot,h.cnt,h.lev,by have:=h.deep;omega,by have:=h.emb;omega,by have:=h.len;omega,by have:=h.opn;omega⟩
theorem LPile.split (P:LPile) (h:0<P.states.length):P.states=P.states.take (P.states.length-1)++[P.top]:=by
 rw [P.top_at h,LPile.last,zI,zF (by omega)];have:=JI (l:=P.states) (i:=P.states.length-1) (by omega);rw [show P.states.length-1+1=P.states.length by omega,Zp] at this;exact this
theorem LPile.pop_len (P:LPile):P.pop.states.length=P.states.length-1:=by
 unfold LPile.pop;simp
theorem LPile.pop_cnt (P:LPile) (h:0<P.states.length):P.states.countP (·.iso)=P.pop.states.countP (·.iso)+(if P.top.iso=true then 1 else 0):=by
 conv=>lhs;rw [P.split h]
 rw [List.countP_append];unfold LPile.pop
 congr 1
 by_cases a:P.top.iso=true
 ·rw [Zg a];simp [List.countP_cons,a]
 ·rw [Zf a];simp [List.countP_cons,a]
theorem LPile.pop_last (P:LPile) (k:Nat) (h:k<P.states.length-1):P.pop.last k=P.last k:=by
 unfold LPile.pop LPile.last;rw [zI,zI,zv,Zg h]
theorem LPile.pop_mem (P:LPile) {s:LSt} (h:s∈P.pop.states):s∈P.states:=JE h
theorem LPile.two {P:LPile} (e:0<P.states.length) (a:(P.last 0).iso=false) (c:0<P.states.countP (·.iso)):1<P.states.length:=by
 rcases JP 1 P.states.length with h | h
 ·exact h
 ·have b:P.states.length=1:=(by omega);obtain⟨s,d⟩:=List.length_eq_one_iff.1 b;unfold LPile.last at a;rw [d] at a c;simp [List.countP_cons] at a c;rw [a] at c;cases c
theorem LPile.Ok.step_pop {P:LPile} {i:Nat} (h:P.Ok i) (c:1<P.states.length) (a:P.top.iso=false):P.pop.Ok i:=by
 have d:=P.pop_len;refine⟨by omega,by rw [P.pop_last 0 (by omega)];exact h.bot,?_,fun s b=>h.lev s (P.pop_mem b),h.deep,h.emb,by have:=h.len;omega,h.opn⟩;have:=P.pop_cnt h.ne;rw [a,Zf (by decide),h.cnt] at this;exact this.symm
theorem LPile.popTo_ok:∀(n:Nat) (P:LPile),P.states.length=n→0<n→(P.last 0).iso=false→0<P.states.countP (·.iso) →
 1<(LPile.popTo n P).states.length∧(LPile.popTo n P).top.iso=true∧((LPile.popTo n P).last 0).iso=false∧(LPile.popTo n P).states.countP (·.iso)=P.states.countP (·.iso) ∧
   (∀s∈(LPile.popTo n P).states,s∈P.states)∧(LPile.popTo n P).states.length≤n∧(LPile.popTo n P).opn=P.opn∧(LPile.popTo n P).deep=P.deep∧(LPile.popTo n P).emb=P.emb
 | 0,_,_,h,_,_=>qF h (by omega)
 | n+1,P,hn,_,bot,c=>by
   rw [LPile.popTo];by_cases i:P.top.iso=true
   ·rw [Zg i];exact⟨LPile.two (by omega) bot c,i,bot,rfl,fun _ h=>h,by omega,rfl,rfl,rfl⟩
   ·rw [Zf i];have m:=LPile.two (by omega) bot c;have o:=P.pop_len;have j:=P.pop_cnt (by omega);rw [Zf i,Zl] at j;obtain⟨a,b,d,e,f,g,k⟩:=LPile.popTo_ok n P.pop (by omega) (by omega) (by rw [P.pop_last 0 (by omega)];exact bot) (by omega);exact⟨a,b,d,by omega,fun s l=>P.pop_mem (f s l),by omega,k⟩
theorem LPile.Ok.close {P:LPile} {i:Nat} (h:P.Ok i):P.close.Ok (i+1):=by
 unfold LPile.close;by_cases c:0<P.deep
 ·rw [Zg c];exact⟨h.ne,h.bot,h.cnt,h.lev,by have:=h.deep;simp only;omega,by have:=h.emb;simp only;omega,by have:=h.len;simp only;omega,by have:=h.opn;simp only;omega⟩
 ·rw [Zf c];by_cases j:0<P.opn
  ·rw [Zg j];obtain⟨a,b,d,e,f,g,k,l,m⟩:=LPile.popTo_ok P.states.length { P with emb:=0 } rfl h.ne h.bot (by have:=h.cnt;simp only;omega);generalize LPile.popTo P.states.length { P with emb:=0 }=Q at a b d e f g k l m ⊢;have p:=Q.pop_len;have n:=Q.pop_cnt (by omega);rw [Zg b] at n;simp only at e k l m;have q:=h.cnt;refine⟨by simp only;omega,?_,by simp only;omega,fun s o=>h.lev s (f s (Q.pop_mem o)),?_,?_,?_,by have:=h.opn;simp only;omega⟩
   ·exact (Zb LSt.iso (Q.pop_last 0 (by omega))).trans d
   ·have:=h.deep;show Q.deep≤i+1;omega
   ·show Q.emb≤i+1;omega
   ·have:=h.len;show Q.pop.states.length≤i+1+1;omega
  ·rw [Zf j];exact h.mono (by omega)
theorem LPile.Ok.fin {P:LPile} {i:Nat} (h:P.Ok i):P.fin.Ok (i+1):=by
 unfold LPile.fin;by_cases b:0<P.deep
 ·rw [Zg b];exact h.mono (by omega)
 ·rw [Zf b];by_cases c:0<P.emb
  ·rw [Zg c];exact⟨h.ne,h.bot,h.cnt,h.lev,by have:=h.deep;simp only;omega,by have:=h.emb;simp only;omega,by have:=h.len;simp only;omega,by have:=h.opn;simp only;omega⟩
  ·rw [Zf c];by_cases a:1<P.states.length∧P.top.iso=false
   ·rw [Zg a];exact (h.step_pop a.1 a.2).mono (by omega)
   ·rw [Zf a];exact h.mono (by omega)
theorem LPile.Ok.laid {P:LPile} {i:Nat} (h:P.Ok i) (b:Bool) (c:Int) (d:Bool) (e:P.room b=true) (g : -1≤c) (j:c≤1) :
 ({states:=P.states++[⟨P.next b,c,d⟩],opn:=P.opn+(if d=true then 1 else 0),deep:=P.deep,emb:=P.emb }:LPile).Ok (i+1):=by
 have k:P.next b≤125:=by
  unfold LPile.room at e;simp only [ZU,ZX] at e;exact e.1.1
 refine⟨by simp,?_,?_,?_,by have:=h.deep;simp only;omega,by have:=h.emb;simp only;omega,by have:=h.len;simp only [zJ,ZM];omega,?_⟩
 ·have:=h.ne;have f:=h.bot;unfold LPile.last at f ⊢;rw [zI,zt this,←zI];exact f
 ·simp only [List.countP_append,h.cnt]
  congr 1
  cases d <;> rfl
 ·intro s a;rw [ZF,zO] at a;rcases a with a | rfl
  ·exact h.lev s a
  ·exact⟨k,g,j⟩
 ·have:=h.opn;simp only;split <;> omega
theorem LPile.Ok.lay0 {P:LPile} {i:Nat} (h:P.Ok i) (b:Bool) (a:Int) (d : -1≤a) (e:a≤1):(P.lay b a false).Ok (i+1):=by
 unfold LPile.lay;by_cases c:P.room b=true
 ·rw [Zg c];exact h.laid b a false c d e
 ·rw [Zf c];exact h.mono (by omega)
theorem LPile.Ok.embed {P:LPile} {i:Nat} (h:P.Ok i) (d:Int):(P.embed d).Ok (i+1):=by
 unfold LPile.embed;simp only;split
 ·refine h.lay0 _ _ ?_ ?_
  ·split
   ·omega
   ·split <;> omega
  ·split
   ·omega
   ·split <;> omega
 ·split
  ·exact⟨h.ne,h.bot,h.cnt,h.lev,by have:=h.deep;simp only;omega,by have:=h.emb;simp only;omega,by have:=h.len;simp only;omega,by have:=h.opn;simp only;omega⟩
  ·exact h.mono (by omega)
theorem LPile.Ok.isolate {P:LPile} {i:Nat} (h:P.Ok i) (a:Bool):(if P.room a=true then { P.lay a (-1) true with opn:=P.opn+1 } else { P with deep:=P.deep+1 }:LPile).Ok (i+1):=by
 by_cases b:P.room a=true
 ·rw [Zg b];have:=h.laid a (-1) true b (by omega) (by omega);unfold LPile.lay;rw [Zg b];exact this
 ·rw [Zf b];exact⟨h.ne,h.bot,h.cnt,h.lev,by have:=h.deep;simp only;omega,by have:=h.emb;simp only;omega,by have:=h.len;simp only;omega,by have:=h.opn;simp only;omega⟩
theorem LPile.begin_ok (base i:Nat) (b:base≤125):(⟨[⟨base,-1,false⟩],0,0,0⟩:LPile).Ok i :=
 ⟨by simp,rfl,rfl,fun s a=>by simp at a;subst a;exact⟨b,by simp,by simp⟩,zd _,zd _,by simp,zd _⟩
theorem LPile.Ok.step {P:LPile} {i:Nat} (h:P.Ok i) (base:Nat) (a:base≤125) (b:List Int) (j:Nat):(P.step base b j).1.Ok (i+1):=by
 unfold LPile.step;simp only;split
 ·exact h.embed _
 split
 ·exact h.isolate _
 split
 ·exact h.close
 split
 ·exact h.fin
 split
 ·exact h.mono (by omega)
 split
 ·exact LPile.begin_ok base _ a
 ·exact h.mono (by omega)
end
section
theorem LPile.Ok.said {P:LPile} {i:Nat} (h:P.Ok i) (d:Int) (h0:0≤d) (a:d≤22):0≤P.said d∧P.said d≤22:=by
 have:=h.top;unfold LPile.said;split <;> omega
theorem LPile.Ok.step_bd {P:LPile} {i:Nat} (h:P.Ok i) (base:Nat) (c:base≤125) (a:List Int) (j:Nat):(P.step base a j).2.1≤125∧0≤(P.step base a j).2.2∧(P.step base a j).2.2≤22:=by
 have b:=lkn_bd (yH a j);have t:=h.top.1;have s:=h.said (lkn (yH a j)) b.1 b.2;unfold LPile.step;simp only;split
 ·exact⟨t,by simp,by simp⟩
 split
 ·exact⟨t,s⟩
 split
 ·exact⟨h.close.top.1,h.close.said _ b.1 b.2⟩
 split
 ·exact⟨h.fin.top.1,by simp,by simp⟩
 split
 ·exact⟨t,by simp,by simp⟩
 split
 ·exact⟨c,by simp,by simp⟩
 ·exact⟨t,s⟩
theorem levF_ok (base:Nat) (e:base≤125) (b:List Int):∀(m i:Nat) (P:LPile) (a:List Nat) (ks:List Int),P.Ok i→a.length=i→ks.length=i→(∀l∈a,l≤125)→(∀k∈ks,0≤k∧k≤22) →
 (levF base b m i P a ks).1.length=i+m∧(levF base b m i P a ks).2.length=i+m∧(∀l∈(levF base b m i P a ks).1,l≤125)∧(∀k∈(levF base b m i P a ks).2,0≤k∧k≤22)
 | 0,i,P,a,ks,h,h1,h2,h3,h4=>⟨h1,h2,h3,h4⟩
 | m+1,i,P,a,ks,h,h1,h2,h3,h4=>by
   rw [levF,show i+(m+1)=(i+1)+m by omega];have f:=h.step_bd base e b i;refine levF_ok base e b m (i+1) _ _ _ (h.step base e b i) (by simp [h1]) (by simp [h2]) (fun l c=>?_) fun k d=>?_
   ·rw [ZF,zO] at c;rcases c with c | rfl
    ·exact h3 l c
    ·exact f.1
   ·rw [ZF,zO] at d;rcases d with d | rfl
    ·exact h4 k d
    ·exact f.2
theorem levI_ok (a:List Int) (base:Nat):(levI a base).1.length=a.length∧(levI a base).2.length=a.length∧(∀l∈(levI a base).1,l≤125)∧(∀k∈(levI a base).2,0≤k∧k≤22):=by
 have:=levF_ok (min base 125) (by omega) a a.length 0 ⟨[⟨min base 125,-1,false⟩],0,0,0⟩ [] [] (LPile.begin_ok _ 0 (by omega)) rfl rfl (fun l b=>by simp at b) (fun k c=>by simp at c);rw [Za] at this;exact this
end
section
structure RSt.Ok (s:RSt) (i:Nat):Prop where
 run:∀k,k<s.out.length→s.out.getD k []≠[]∧(∀p∈s.out.getD k [],p<i)∧(s.out.getD k []).length≤i
 now0 : -1≤s.now
 now1:s.now<s.out.length
 last0 : -1≤s.last
 last1:s.last<i
 goes:∀x∈s.goes,x.2<s.out.length
 len:s.out.length≤i
theorem RSt.start_ok:RSt.Ok ⟨[],[],-1,-1⟩ 0 :=
 ⟨fun k a=>qF a (by simp),by simp,by simp,by simp,by simp,fun x b=>by simp at b,by simp⟩
theorem RSt.Ok.find_lt {s:RSt} {i j k:Nat} (h:s.Ok i) (a:s.find j=some k):k<s.out.length:=by
 unfold RSt.find at a;cases hx:s.goes.find? (fun x=>x.1==j) with
 | none=>rw [hx] at a;cases a
 | some y =>
   rw [hx] at a;cases a;exact h.goes y (List.mem_of_find?_eq_some hx)
theorem RSt.Ok.at_lt {s:RSt} {i j k:Nat} {b:List Int} (h:s.Ok i) (a:s.at b j=some k):k<s.out.length:=by
 unfold RSt.at at a;cases hx:s.find j with
 | none=>rw [hx] at a;cases a
 | some y =>
   rw [hx] at a;simp only at a;split at a
   ·cases a
   ·cases a;exact h.find_lt hx
def RSt.put (s:RSt) (k:Nat) (i:Nat) (last:Int) (goes:List (Nat × Nat)):RSt :=
 {out:=if k<s.out.length then s.out.set k (s.out.getD k []++[i]) else s.out++[[i]],goes:=goes,now:=k,last:=last }
theorem RSt.Ok.put {s:RSt} {i:Nat} (h:s.Ok i) (k:Nat) (r:k≤s.out.length) (last:Int) (m : -1≤last) (t:last<(i:Int)+1) (g:List (Nat × Nat)) (n:∀x∈g,x∈s.goes∨x.2=k) :
 (s.put k i last g).Ok (i+1):=by
 unfold RSt.put;by_cases d:k<s.out.length
 ·rw [Zg d];have o:∀j,(s.out.set k (s.out.getD k []++[i])).getD j []=if k=j then s.out.getD k []++[i] else s.out.getD j []:=fun j=>by
   rw [zI,ZP,zI];by_cases e:k=j
   ·subst e;rw [Zg rfl,Zg d,Zg rfl];rfl
   ·rw [Zf e,Zf e,zI]
  refine⟨fun j f=>?_,by simp only;omega,by simp only [ZQ];omega,m,by simp only;omega,fun x b=>?_,by simp only [ZQ];have:=h.len;omega⟩
  ·simp only [ZQ] at f;simp only;rw [o j];by_cases e:k=j
   ·rw [Zg e];have c:=h.run k d;refine⟨by simp,fun p a=>?_,by rw [zJ,ZM];omega⟩;rw [ZF,zO] at a;rcases a with a | a
    ·have:=c.2.1 p a;omega
    ·omega
   ·rw [Zf e];have c:=h.run j f;exact⟨c.1,fun p a=>by have:=c.2.1 p a;omega,by omega⟩
  ·simp only [ZQ];rcases n x b with b | b
   ·exact h.goes x b
   ·omega
 ·rw [Zf d];have u:k=s.out.length:=(by omega);refine⟨fun j f=>?_,by simp only;omega,by simp only [zJ,ZM];omega,m,by simp only;omega,fun x b=>?_,by simp only [zJ,ZM];have:=h.len;omega⟩
  ·simp only [zJ,ZM] at f;simp only;rcases JP j s.out.length with l | l
   ·rw [zI,zt l,←zI];have c:=h.run j l;exact⟨c.1,fun p a=>by have:=c.2.1 p a;omega,by omega⟩
   ·have q:j=s.out.length:=(by omega);rw [zI,q,zr (zT _),Zk];exact⟨by simp,fun p a=>by simp at a;omega,by simp⟩
  ·simp only [zJ,ZM];rcases n x b with b | b
   ·have:=h.goes x b;omega
   ·omega
def RSt.pick (s:RSt) (ls ps:List Int) (i:Nat):Nat :=
 if s.now<0∨s.last<0∨yH ls s.last.toNat≠yH ls i then (s.at ps i).getD s.out.length else s.now.toNat
theorem RSt.Ok.pick_le {s:RSt} {i:Nat} (h:s.Ok i) (b a:List Int):s.pick b a i≤s.out.length:=by
 unfold RSt.pick;split
 ·cases hx:s.at a i with
  | none=>simp
  | some k=>have:=h.at_lt hx;simp;omega
 ·have:=h.now1;have:=h.now0;omega
def RSt.gone (s:RSt) (ds ps:List Int) (i k:Nat):List (Nat × Nat):=if yBk (lkn (yH ds i))=true∧0≤yH ps i then ((yH ps i).toNat,k)::s.goes else s.goes
theorem RSt.Ok.step_put {s:RSt} {i:Nat} (h:s.Ok i) (c a d:List Int) :
 s.step c a d i=if yDp (lkn (yH c i))=true then s else s.put (s.pick a d i) i (if lkn (yH c i)=10 then -1 else i) (s.gone c d i (s.pick a d i)):=by
 unfold RSt.step;simp only;by_cases g:yDp (lkn (yH c i))=true
 ·rw [Zg g,Zg g]
 ·rw [Zf g,Zf g];unfold RSt.put RSt.pick RSt.gone;by_cases f:s.now<0∨s.last<0∨yH a s.last.toNat≠yH a i
  ·have j:(decide (s.now<0)||decide (s.last<0)||decide (yH a s.last.toNat≠yH a i))=true:=by
    simp only [Bool.or_eq_true,ZX];rcases f with b | b | b
    ·exact .inl (.inl b)
    ·exact .inl (.inr b)
    ·exact .inr b
   rw [j,Zg f];simp only [if_true,true_and];cases hx:s.at d i with
   | none =>
     simp only [Option.isNone_none,Option.getD_none,if_true];rw [Zf (Zh _)]
     congr 1
     rw [zI,zr (zT _),Zk];rw [qm _ _ (zT _),Zk];rfl
   | some k =>
     have l:=h.at_lt hx;simp only [Option.isNone_some,Option.getD_some];rw [Zf (by decide),Zg l]
  ·have j:(decide (s.now<0)||decide (s.last<0)||decide (yH a s.last.toNat≠yH a i))=false:=by
    rw [Bool.eq_false_iff];intro e;simp only [Bool.or_eq_true,ZX] at e;exact f (by
     rcases e with (e | e) | e
     ·exact .inl e
     ·exact .inr (.inl e)
     ·exact .inr (.inr e))
   rw [j,Zf f];have b:=h.now1;have n:¬ s.now<0:=fun e=>f (.inl e);have m:s.now.toNat<s.out.length:=(by have:=h.now0;omega);simp only [Bool.false_eq_true,if_false,false_and];rw [Zg m]
theorem RSt.Ok.step {s:RSt} {i:Nat} (h:s.Ok i) (b c d:List Int):(s.step b c d i).Ok (i+1):=by
 rw [h.step_put b c d];by_cases e:yDp (lkn (yH b i))=true
 ·rw [Zg e];refine⟨fun k g=>?_,h.now0,h.now1,h.last0,by have:=h.last1;omega,h.goes,by have:=h.len;omega⟩;have f:=h.run k g;exact⟨f.1,fun p j=>by have:=f.2.1 p j;omega,by omega⟩
 ·rw [Zf e];refine h.put _ (h.pick_le c d) _ (by split <;> omega) (by split <;> omega) _ fun x a=>?_;unfold RSt.gone at a;split at a
  ·rw [zX] at a;rcases a with rfl | a
   ·exact .inr rfl
   ·exact .inl a
  ·exact .inl a
theorem runsF_ok (a b c:List Int):∀(m i:Nat) (s:RSt),s.Ok i→(yKt a b c m i s).Ok (i+m)
 | 0,i,s,h=>h
 | m+1,i,s,h=>by
   rw [yKt,show i+(m+1)=(i+1)+m by omega];exact runsF_ok a b c m (i+1) _ (h.step a b c)
theorem runsI_ok (a b:List Int):∀c∈runsI a b,c≠[]∧(∀p∈c,p<min a.length b.length)∧c.length≤min a.length b.length:=by
 intro c d;have h:=runsF_ok (a.take (min a.length b.length)) b (yDi (a.take (min a.length b.length))) (min a.length b.length) 0 ⟨[],[],-1,-1⟩ RSt.start_ok;rw [Za] at h;unfold runsI at d;obtain⟨k,e,f⟩:=List.getElem_of_mem d;have:=h.run k e;rw [zI,zF e] at this;simp only [Option.getD_some] at this;rw [f] at this;exact this
theorem yGp (c:List Int) (n:Nat):∀(m i:Nat) (b:List Nat) (d:List Int),i+m=n→(∀p∈b,p<i)→(∀x∈d,-1≤x∧x<n∨x=0)→∀x∈pairsF c m i b d,-1≤x∧x<n∨x=0
 | 0,i,b,d,him,ho,h=>h
 | m+1,i,b,d,him,ho,h=>by
   have f:∀(l:List Int) (j:Nat) (v:Int),(∀x∈l,-1≤x∧x<n∨x=0)→(-1≤v∧v<n)→∀x∈l.set j v,-1≤x∧x<n∨x=0:=fun l j v k o x g=>by
    rcases List.mem_or_eq_of_mem_set g with g | rfl
    ·exact k x g
    ·exact .inl o
   have e:=f d i (-1) h ⟨by omega,by omega⟩;rw [pairsF];split
   ·refine yGp c n m (i+1) _ _ (by omega) (fun p a=>?_) e;rw [ZF,zO] at a;rcases a with a | rfl
    ·have:=ho p a;omega
    ·omega
   ·split
    ·exact yGp c n m (i+1) [] _ (by omega) (fun p a=>by simp at a) e
    ·split
     ·next hc =>
      have q:b.getD (b.length-1) 0∈b:=by
       rw [zI,zF (by omega)];exact ZJ _
      have:=ho _ q;exact yGp c n m (i+1) _ _ (by omega) (fun p a=>by have:=ho p (JE a);omega) (f _ _ _ (f _ _ _ e ⟨by omega,by omega⟩) ⟨by omega,by omega⟩)
     ·exact yGp c n m (i+1) b _ (by omega) (fun p a=>by have:=ho p a;omega) e
theorem pairsI_bd (a:List Int) (j:Nat) : -1≤yH (yDi a) j∧yH (yDi a) j≤a.length:=by
 have h:=yGp a a.length a.length 0 [] (List.replicate a.length 0) (by omega) (fun p c=>by simp at c) (fun x b=>.inr (List.eq_of_mem_replicate b));unfold yH;rw [zI];cases b:(yDi a)[j]? with
 | none=>simp
 | some x =>
   have:=h x (zS b);simp only [Option.getD_some];omega
end
section
theorem yKj:∀(a:List (Nat × Int)) (r:Int) (n k:Nat),yDj a r n=some k→k<n∧(a.getD k (0,0)).2=r
 | a,r,0,k,h=>by simp [yDj] at h
 | a,r,n+1,k,h=>by
   unfold yDj at h;split at h
   ·rename_i b;cases h;exact⟨by omega,b⟩
   ·have:=yKj a r n k h;exact⟨by omega,this.2⟩
theorem yP7 {α:Type} (l:List α) (d:α) (i:Nat) (h:i<l.length):l.getD i d∈l:=by
 rw [zI,zF h];exact ZJ h
theorem yH1 (f ks:List Int):∀(m i:Nat) (c:List (Nat × Int)) (d:List (Nat × Nat)),(∀x∈c,x.1<i)→(∀p∈d,p.1<p.2∧p.2<i) →
 ∀p∈brkF f ks m i c d,p.1<p.2∧p.2<i+m
 | 0,i,c,d,_,ho,p,a=>by have:=ho p a;omega
 | m+1,i,c,d,hs,ho,p,a=>by
   have g:∀x∈c,x.1<i+1:=fun x b=>by have:=hs x b;omega
   have h:∀p∈d,p.1<p.2∧p.2<i+1:=fun p a=>by have:=ho p a;omega
   unfold brkF at a;split at a
   ·have:=yH1 f ks m (i+1) c d g h p a;omega
   ·split at a
    ·split at a
     ·have:=ho p a;omega
     ·have:=yH1 f ks m (i+1) _ d (fun x b=>by
       rw [ZF,zO] at b;rcases b with b | b
       ·exact g x b
       ·subst b;show i<i+1;omega) h p a
      omega
    ·split at a
     ·have:=yH1 f ks m (i+1) c d g h p a;omega
     ·rename_i k j;have l:=(yKj c _ _ k j).1;have:=yH1 f ks m (i+1) _ _ (fun x b=>g x (JE b)) (fun q e=>by
       rw [ZF,zO] at e;rcases e with e | e
       ·exact h q e
       ·subst e;have:=hs _ (yP7 c (0,0) k l);exact⟨this,by show i<i+1;omega⟩) p a
      omega
end
section
theorem pair_shut_all:∀k,k<30→(yA2 (yH brL k)).2.1=true→yA2 (yA2 (yH brL k)).1=(yH brL k,false,true):=by decide +kernel
theorem pair_ok_mem {x:Int} (h:(yA2 x).2.2=true):∃k,k<30∧yH brL k=x:=by
 apply Classical.byContradiction;intro a;have:=yQr x (fun j b e=>a ⟨j,b,e⟩);rw [this] at h;cases h
theorem pair_inv {x y:Int} (h:yA2 x=(y,true,true)):yA2 y=(x,false,true):=by
 obtain⟨k,a,rfl⟩:=pair_ok_mem (x:=x) (by rw [h]);have:=pair_shut_all k a (by rw [h]);rw [h] at this;exact this
def Cross (p q:Nat × Nat):Prop:=p.1<q.1∧q.1<p.2∧p.2<q.2
def Apart (p q:Nat × Nat):Prop:=p.1≠q.1∧p.1≠q.2∧p.2≠q.1∧p.2≠q.2∧¬ Cross p q∧¬ Cross q p
def yM5 (rs ks:List Int) (n:Nat) (p:Nat × Nat):Prop :=
 p.1<p.2∧p.2<n∧yH ks p.1=13∧yH ks p.2=13∧yA2 (yH rs p.1)=(yH rs p.2,true,true)∧yA2 (yH rs p.2)=(yH rs p.1,false,true)
structure BInv (rs ks:List Int) (i:Nat) (st:List (Nat × Int)) (out:List (Nat × Nat)):Prop where
 pos:st.Pairwise (fun x y=>x.1<y.1)
 lt:∀x∈st,x.1<i
 ok:∀x∈st,yH ks x.1=13∧yA2 (yH rs x.1)=(x.2,true,true)
 outOk:∀p∈out,yM5 rs ks i p
 apart:out.Pairwise Apart
 stApart:∀p∈out,∀x∈st,x.1≠p.1∧x.1≠p.2∧¬ (p.1<x.1∧x.1<p.2)
theorem yM5.up {a ks:List Int} {n m:Nat} {p:Nat × Nat} (h:yM5 a ks n p) (b:n≤m):yM5 a ks m p:=⟨h.1,by have:=h.2.1;omega,h.2.2⟩
theorem BInv.next {a ks:List Int} {i:Nat} {b:List (Nat × Int)} {c:List (Nat × Nat)} (h:BInv a ks i b c):BInv a ks (i+1) b c :=
 ⟨h.pos,fun x d=>by have:=h.lt x d;omega,h.ok,fun p e=>(h.outOk p e).up (by omega),h.apart,h.stApart⟩
theorem BInv.push {b ks:List Int} {i:Nat} {d:List (Nat × Int)} {e:List (Nat × Nat)} (h:BInv b ks i d e) (g:yH ks i=13) (o:Int) (j:yA2 (yH b i)=(o,true,true)):BInv b ks (i+1) (d++[(i,o)]) e:=by
 refine⟨?_,fun x a=>?_,fun x a=>?_,h.next.outOk,h.apart,fun p c x a=>?_⟩
 ·rw [qO];exact⟨h.pos,qt _ _,fun x a y f=>by rw [zO] at f;subst f;exact h.lt x a⟩
 ·rw [ZF,zO] at a;rcases a with a | rfl
  ·have:=h.lt x a;omega
  ·show i<i+1;omega
 ·rw [ZF,zO] at a;rcases a with a | rfl
  ·exact h.ok x a
  ·exact⟨g,j⟩
 ·rw [ZF,zO] at a;rcases a with a | rfl
  ·exact h.stApart p c x a
  ·have:=(h.outOk p c).1;have:=(h.outOk p c).2.1;exact⟨by show i≠p.1;omega,by show i≠p.2;omega,by show ¬ (p.1<i∧i<p.2);omega⟩
theorem BInv.close {d ks:List Int} {i k:Nat} {b:List (Nat × Int)} {s:List (Nat × Nat)} (h:BInv d ks i b s) (w:yH ks i=13) (l:k<b.length) (m:(b.getD k (0,0)).2=yH d i) :
 BInv d ks (i+1) (b.take k) (s++[((b.getD k (0,0)).1,i)]):=by
 have f:=yP7 b (0,0) k l;generalize hx:b.getD k (0,0)=x at f m;have z:=h.lt x f;have n:=h.ok x f;have A:∀y∈b.take k,y.1<x.1:=fun y c=>by
  obtain⟨j,B,t⟩:=List.mem_iff_getElem.1 c;rw [za] at B;rw [List.getElem_take] at t;have o:=(List.pairwise_iff_getElem.1 h.pos) j k (by omega) l (by omega);have u:b[k]=x:=(by rw [←hx,zI,zF l];rfl);rw [t,u] at o;exact o
 have C:yM5 d ks (i+1) (x.1,i):=by
  refine⟨z,by show i<i+1;omega,n.1,w,?_,?_⟩
  ·show yA2 (yH d x.1)=(yH d i,true,true);rw [n.2,m]
  ·have:=pair_inv n.2;rw [m] at this;exact this
 refine⟨h.pos.sublist (List.take_sublist _ _),fun y c=>by have:=h.lt y (JE c);omega,fun y c=>h.ok y (JE c),fun p a=>?_,?_,fun p a y c=>?_⟩
 ·rw [ZF,zO] at a;rcases a with a | rfl
  ·exact h.next.outOk p a
  ·exact C
 ·rw [qO];refine⟨h.apart,qt _ _,fun p a q v=>?_⟩;rw [zO] at v;subst v;have o:=(h.outOk p a).1;have u:=(h.outOk p a).2.1;have r:=h.stApart p a x f;exact⟨fun e=>r.1 e.symm,by show p.1≠i;omega,fun e=>r.2.1 e.symm,by show p.2≠i;omega,fun g=>r.2.2 ⟨g.1,g.2.1⟩,fun g=>by have:i<p.2:=g.2.2;omega⟩
 ·have D:=A y c;rw [ZF,zO] at a;rcases a with a | rfl
  ·exact h.stApart p a y (JE c)
  ·exact⟨by show y.1≠x.1;omega,by show y.1≠i;omega,by show ¬ (x.1<y.1∧y.1<i);omega⟩
structure Found (rs ks:List Int) (n:Nat) (out:List (Nat × Nat)):Prop where
 ok:∀p∈out,yM5 rs ks n p
 apart:out.Pairwise Apart
theorem Apart.symm {p q:Nat × Nat} (h:Apart p q):Apart q p:=⟨fun e=>h.1 e.symm,fun e=>h.2.2.1 e.symm,fun e=>h.2.1 e.symm,fun e=>h.2.2.2.1 e.symm,h.2.2.2.2.2,h.2.2.2.2.1⟩
theorem Found.perm {a ks:List Int} {n:Nat} {l b:List (Nat × Nat)} (h:Found a ks n b) (c:l.Perm b):Found a ks n l :=
 ⟨fun p d=>h.ok p (c.mem_iff.1 d),(c.pairwise_iff (fun h=>h.symm)).2 h.apart⟩
theorem yFb (d ks:List Int):∀(m i:Nat) (f:List (Nat × Int)) (g:List (Nat × Nat)),BInv d ks i f g→Found d ks (i+m) (brkF d ks m i f g)
 | 0,i,f,g,h=>⟨h.outOk,h.apart⟩
 | m+1,i,f,g,h=>by
   have e:i+1+m=i+(m+1):=(by omega);unfold brkF;split
   ·have:=yFb d ks m (i+1) f g h.next
    rwa [e] at this
   ·rename_i o;have q:yH ks i=13:=Classical.byContradiction fun s=>o (.inr s);have j:(yA2 (yH d i)).2.2=true:=by
     cases hb:(yA2 (yH d i)).2.2
     ·exact qF (.inl hb) o
     ·rfl
    split
    ·rename_i l;split
     ·exact⟨fun p n=>(h.outOk p n).up (by omega),h.apart⟩
     ·have n:yA2 (yH d i)=((yA2 (yH d i)).1,true,true):=by
       rcases hq:yA2 (yH d i) with ⟨a,b,c⟩;rw [hq] at l j;simp only at l j;rw [l,j]
      have:=yFb d ks m (i+1) _ g (h.push q _ n)
      rwa [e] at this
    ·split
     ·have:=yFb d ks m (i+1) f g h.next
      rwa [e] at this
     ·rename_i k t;have r:=yKj f _ _ k t;have:=yFb d ks m (i+1) _ _ (h.close q r.1 r.2)
      rwa [e] at this
theorem brkF_all (a ks:List Int) (n:Nat):Found a ks n (brkF a ks n 0 [] []):=by
 have:=yFb a ks n 0 [] [] ⟨.nil,by simp,by simp,by simp,.nil,by simp⟩
 rwa [Za] at this
end
section
open Go.RowKit
def yB0 (w:World) (R t N:Nat) (xs:List Value):Prop:=∃cur,w.heap[R]? = some (.cells cur t (0,0))∧cur.size=N∧cur.toList.take xs.length=xs∧xs.length≤N
theorem yB0.lt {w:World} {R t N:Nat} {xs:List Value} (h:yB0 w R t N xs):R<w.heap.size:=by
 obtain⟨b,a,_⟩:=h;exact (zH.1 a).1
theorem yB0.kept {w w':World} {R t N:Nat} {xs:List Value} (h:yB0 w R t N xs) (a:w'.heap[R]? = w.heap[R]?):yB0 w' R t N xs:=by
 obtain⟨b,c,r⟩:=h;exact⟨b,a.trans c,r⟩
theorem yB0.cell {w:World} {R t N:Nat} {xs:List Value} (h:yB0 w R t N xs) (i:Nat) (v:Value) (a:xs[i]? = some v):w.cell? ⟨R,i,none⟩=some v:=by
 obtain⟨b,c,e,d,_⟩:=h;have:b[i]? = some v:=by
  rw [←d,zv] at a;split at a
  ·simpa using a
  ·cases a
 simp [World.cell?,c,this]
theorem yB0.take {w:World} {R t N:Nat} {xs:List Value} (h:yB0 w R t N xs) (m:Nat):yB0 w R t N (xs.take m):=by
 obtain⟨c,d,e,a,f⟩:=h;refine⟨c,d,e,?_,by rw [za];omega⟩;rw [za];by_cases b:m≤xs.length
 ·rw [Nat.min_eq_left b,←a,List.take_take,Nat.min_eq_left b]
 ·rw [Nat.min_eq_right (by omega),a,qU (by omega)]
theorem yQ2 {P:Program} (w:World) (t ty e:TypeId) (i:TypeInfo) (b:Nat) (s:P.underlying t=some (.slice e)) (v:P.info? e=some i) (x:i.size=b)
 (R d N k cap:Nat) (xs:List Value) (y:yB0 w R d N xs) (g:xs.length=k*b)
 (a:Addr) (m c:Nat) (news:List Value) (h:news.length=m*b) (z:∀j u,news[j]? = some u→w.cell? (a.add j)=some u) (A:∀u∈news,u.oneCell'=true)
 (B:k+m≤cap) (l:(k+m)*b≤N) :
 ∃w',(Builtin.append_ #[t,t] ty #[.slice (some ⟨R,0,none⟩) k cap,.slice (some a) m c]).run P w=.ok (.slice (some ⟨R,0,none⟩) (k+m) cap) w' ∧
   yB0 w' R d N (xs++news)∧w.grownBy w' (some R):=by
 subst x;obtain⟨f,o,n,p,C⟩:=y;have D:=run_firstCells_some (P:=P) w i.size m a m c news h z;have E:k*i.size+news.length≤f.size:=by rw [n,h];rw [JD] at l;exact l
 have r:=run_storeCells_at P R (k*i.size) d news 0 f w o (by simpa using E) A;simp only [Zl] at r;refine⟨_,by simp [Builtin.append_,JU s,sizeOf,typeInfo,v,Builtin.lenOf,B,D,JK,r];rfl,?_,?_⟩
 ·have G:f.toList.length=N:=(by simpa using n);rw [g] at p;rw [g] at C;rw [JD,←h] at l;refine⟨_,setRow_heap w R f _ d (0,0) o,?_,?_,?_⟩
  ·simp [n];omega
  ·rw [p];rw [←zZ,List.take_left]
  ·simp [g];omega
 ·refine⟨rfl,rfl,rfl,by simp [World.setRow],fun q H F=>?_⟩;simp only [World.setRow,qr];rw [Zf (fun e=>F (by rw [e]))]
theorem yFq {P:Program} (w:World) {ops:Array Oper} {rest:List Oper} {o:Oper} {a:Act} {Q:Exit→Act→World→Prop}
 (g:o.guard=none) (s x:Operand) (t:TypeId) (h:o.op=Op.call { callee:=Callee.builtin Builtin.append,args:=#[s,x],argTypes:=#[t,t] })
 (e:TypeId) (i:TypeInfo) (b:Nat) (l:P.underlying t=some (.slice e)) (n:P.info? e=some i) (p:i.size=b)
 (R d N k cap:Nat) (xs:List Value) (q:a.eval s=.slice (some ⟨R,0,none⟩) k cap) (r:yB0 w R d N xs) (v:xs.length=k*b)
 (f:Addr) (m c:Nat) (news:List Value) (y:a.eval x=.slice (some f) m c) (z:news.length=m*b)
 (A:∀j u,news[j]? = some u→w.cell? (f.add j)=some u) (B:∀u∈news,u.oneCell'=true) (C:k+m≤cap) (D:(k+m)*b≤N)
 (E:∀w',yB0 w' R d N (xs++news)→w.grownBy w' (some R)→wpList P ops Q rest (a.put o.dst (.slice (some ⟨R,0,none⟩) (k+m) cap)) w') :
 wpList P ops Q (o::rest) a w:=by
 refine wpList_plain g fun K F=>?_;obtain⟨w',G,H,I⟩:=yQ2 (P:=P) w t o.type e i b l n p R d N k cap xs r v f m c news z A B C D;unfold Oper.wp;simp [execOp,h,resolve,invoke,builtin,q,y,G,Result.andThen];exact F _ _ (E w' H I)
theorem yMk {P:Program} {w:World} (base:Nat) (t ty e:TypeId) (i:TypeInfo) (j:Nat) (d:P.underlying t=some (.slice e)) (f:P.info? e=some i)
 (v:Value) (n:Nat) (xs:List Value) (k:w.ownsRow base e j v n xs) (b:Option Addr) (c:Nat) :
 (Builtin.append_ #[t,t] ty #[v,.slice b 0 c]).run P w=.ok v w:=by
 have h:(Builtin.firstCells i.size 0 (.slice b 0 c)).run P w=.ok #[] w:=by
  cases b with
  | none=>simp [Builtin.firstCells]
  | some a=>exact run_firstCells_some (P:=P) w i.size 0 a 0 c [] (by simp) (by simp)
 rcases k.2 with ⟨rfl,rfl⟩ | ⟨g,cap,m,rfl,_,_,l,_⟩
 ·simp [Builtin.append_,JU d,sizeOf,typeInfo,f,Builtin.lenOf,h]
 ·simp [Builtin.append_,JU d,sizeOf,typeInfo,f,Builtin.lenOf,h,l,storeCells]
theorem yDh {P:Program} (w:World) {ops:Array Oper} {rest:List Oper} {o:Oper} {a:Act} {Q:Exit→Act→World→Prop} (p:o.guard=none) (s x:Operand) (t:TypeId)
 (q:o.op=.call { callee:=.builtin .append,args:=#[s,x],argTypes:=#[t,t] })
 (base:Nat) (e:TypeId) (i:TypeInfo) (z:Value) (b g:Nat) (r:P.underlying t=some (.slice e)) (y:P.info? e=some i) (D:i.zero=some z)
 (E:i.size=b) (F:i.bytes=g) (G:z.cells.size=b) (H:0<b)
 (v:Value) (n:Nat) (xs:List Value) (A:a.eval s=v) (k:w.ownsRow base e b v n xs)
 (l:Option Addr) (m c:Nat) (news:List Value) (B:a.eval x=.slice l m c) (C:news.length=m*b) (I:m=0∨∃d,l=some d∧∀j u,news[j]? = some u→w.cell? (d.add j)=some u)
 (J:∀u∈news,u.oneCell'=true)
 (L:n+m≤maxLen) (M:(n+m)*g≤140737488355328) (N:base≤w.heap.size)
 (h:∀f w',w'.ownsRow base e b f (n+m) (xs++news)→w.grownBy w' v.ownBlock→wpList P ops Q rest (a.put o.dst f) w'):wpList P ops Q (o::rest) a w:=by
 rcases I with rfl | ⟨d,rfl,O⟩
 ·obtain rfl:news=[]:=(by simpa using C);refine wpList_plain p fun K R=>?_;have S:=yMk (P:=P) (w:=w) base t o.type e i b r y v n xs k l c;unfold Oper.wp;simp [execOp,q,resolve,invoke,builtin,A,B,S,Result.andThen];exact R _ _ (h v w (by simpa using k) (World.grownBy.refl _ _))
 ·exact wpList_append_own w p s x t q base e i z b g r y D E F G H v n xs A k d m c news B C O J L M N fun f w' T U _=>h f w' T U
def yG (k:IntKind) (e:Nat) (w:World) (base:Nat) (ao:Option Addr) (cap:Nat) (out:List Int):Prop :=
 w.ownsRow base e 1 (.slice ao out.length cap) out.length (out.map (Value.int k))
theorem yLa {l:List Int} {i:Nat} (h:i<l.length):l[i]? = some (yH l i):=by
 rw [yH,zI,zF h];rfl
theorem ith_set (l:List Int) (i j:Nat) (v:Int) (h:i<l.length):yH (l.set i v) j=if i=j then v else yH l j:=by
 unfold yH;rw [zI,ZP,zI];by_cases e:i=j
 ·subst e;simp [h]
 ·simp [e]
theorem yG.of {k:IntKind} {e base n:Nat} {w:World} {v:Value} {b:List Int} (h:w.ownsRow base e 1 v n (b.map (Value.int k))) (d:b.length=n) :
 ∃c cap,v=.slice c n cap∧yG k e w base c cap b:=by
 subst d;rcases h.2 with ⟨a,h0⟩ | ⟨g,cap,f,a,_⟩
 ·exact⟨none,0,by rw [a,h0],by unfold yG;rw [h0,←a];rw [h0] at h;exact h⟩
 ·exact⟨_,cap,a,by unfold yG;rw [←a];exact h⟩
theorem yG.at {k:IntKind} {e base cap:Nat} {w:World} {c:Option Addr} {a:List Int} (h:yG k e w base c cap a) (i:Nat) (j:i<a.length) :
 ∃G,c=some ⟨G,0,none⟩∧base≤G∧G<w.heap.size∧w.cell? ⟨G,i,none⟩=some (.int k (yH a i))∧w.frozen? ⟨G,i,none⟩=false∧a.length≤cap∧cap≤maxLen:=by
 obtain⟨_,l⟩:=h;rcases l with ⟨d,h0⟩ | ⟨g,r,f,d,m,b,n,o,s,p⟩
 ·omega
 ·cases d;have q:f[i]? = some (.int k (yH a i)):=by
   have:(f.toList.take (a.length*1))[i]? = (a.map (Value.int k))[i]?:=(by rw [p]);rw [zv,Zg (by omega),zm,yLa j] at this;simpa using this
  exact⟨g,rfl,m,(zH.1 b).1,by simp [World.cell?,b,q],by simp [World.frozen?,b],n,o⟩
theorem yG.set {k:IntKind} {e base cap G:Nat} {w:World} {a:List Int} (h:yG k e w base (some ⟨G,0,none⟩) cap a) (i:Nat) (v:Int) :
 yG k e (w.setCell ⟨G,i,none⟩ (.int k v)) base (some ⟨G,0,none⟩) cap (a.set i v):=by
 have:=(qH h i (.int k v)).1;unfold yG;rw [ZQ,List.map_set];exact this
theorem yG.keep {k:IntKind} {e base cap:Nat} {w w':World} {b:Option Addr} {c:List Int} (h:yG k e w base b cap c) (a:Below w w w'):yG k e w' base b cap c :=
 JC h (row:=none) ⟨a.os,a.tape,a.output,a.size,fun q d _=>a.block q d⟩ (by cases (Value.slice b c.length cap).ownBlock <;> simp)
theorem yG.rd {k:IntKind} {e base cap:Nat} {w:World} {b:Option Addr} {a:List Int} (h:yG k e w base b cap a):Rd k w b a:=by
 by_cases h0:a=[]
 ·exact .inl h0
 ·have f:0<a.length:=zj.2 h0;obtain⟨G,c,_,g,_⟩:=h.at 0 f;refine .inr ⟨G,0,c,g,fun i j=>?_⟩;obtain⟨m,d,_,_,l,_⟩:=h.at i j;rw [c] at d;cases d;rw [Za];exact l
theorem yG.lt {k:IntKind} {e base cap G:Nat} {w:World} {a:List Int} (h:yG k e w base (some ⟨G,0,none⟩) cap a):base≤G∧G<w.heap.size :=
 ZW h G rfl
end
section
open Go.RowKit
def yt (x:Nat × Nat):List Value:=[.int .i64 x.1,.int .i64 x.2]
theorem yIz {α:Type} (l:List α) (f:α→List Value) (a:∀x,(f x).length=2):(l.flatMap f).length=l.length*2:=by
 induction l with
 | nil=>rfl
 | cons x l ih=>rw [ZK,zJ,a,ih,zb];omega
theorem yJc {α:Type} (l:List α) (d:α) (f:α→List Value) (g h:α→Value) (b:∀x,f x=[g x,h x]) (i:Nat) (a:i<l.length) :
 (l.flatMap f)[i*2]? = some (g (l.getD i d))∧(l.flatMap f)[i*2+1]? = some (h (l.getD i d)):=by
 induction l generalizing i with
 | nil=>simp at a
 | cons x l ih =>
   rw [ZK,b x];cases i with
   | zero=>exact⟨rfl,rfl⟩
   | succ i =>
     have:=ih i (by simpa using a);rw [show (i+1)*2=i*2+1+1 by omega];exact this
def yJv (x:Nat × Int):List Value:=[.int .i64 x.1,.int .i32 x.2]
theorem yq {w:World} {base base' e f n:Nat} {v:Value} {xs:List Value} (h:w.ownsRow base e f v n xs) (i:base'≤base):w.ownsRow base' e f v n xs:=by
 obtain⟨j,d⟩:=h;refine⟨j,?_⟩;rcases d with d | ⟨g,cap,k,a,b,c⟩
 ·exact .inl d
 ·exact .inr ⟨g,cap,k,a,zY i b,c⟩
theorem Tryz.info_open:(Tryz.prog.info? 296).map (fun i=>(i.zero,i.size,i.bytes))=some (some (.agg #[.int .i64 0,.int .i32 0]),2,16):=by kernel_rfl
theorem Tryz.info_two:(Tryz.prog.info? 96).map (fun i=>(i.zero,i.size,i.bytes))=some (some (.agg #[.int .i64 0,.int .i64 0]),2,16):=by kernel_rfl
theorem yJz {w:World} {base e a n:Nat} {v:Value} {xs:List Value} (h:w.ownsRow base e a v n xs) (q:Nat):(w.drewN q).ownsRow base e a v n xs:=h
theorem flat_take2 {α:Type} (l:List α) (f:α→List Value) (a:∀x,(f x).length=2) (m:Nat):(l.take m).flatMap f=(l.flatMap f).take (m*2):=by
 induction l generalizing m with
 | nil=>simp
 | cons x l ih =>
   cases m with
   | zero=>simp
   | succ m =>
     have b:(f x).length=2:=a x;rw [Zm,ZK,ZK,ih,List.take_append,b,qU (l:=f x) (by omega),show (m+1)*2-2=m*2 by omega]
def yBe (w:World) (base:Nat) (pa:Option Addr) (cap:Nat) (l:List (Nat × Nat)):Prop:=w.ownsRow base 96 2 (.slice pa l.length cap) l.length (l.flatMap yt)
theorem yBe.of {base:Nat} {w:World} {v:Value} {l:List (Nat × Nat)} (h:w.ownsRow base 96 2 v l.length (l.flatMap yt)):∃b cap,v=.slice b l.length cap∧yBe w base b cap l:=by
 rcases h.2 with ⟨a,h0⟩ | ⟨g,cap,c,a,_⟩
 ·exact⟨none,0,by rw [a,h0],by unfold yBe;rw [h0,←a];rw [h0] at h;exact h⟩
 ·exact⟨_,cap,a,by unfold yBe;rw [←a];exact h⟩
theorem yBe.at {base cap:Nat} {w:World} {a:Option Addr} {l:List (Nat × Nat)} (h:yBe w base a cap l) (i:Nat) (e:i<l.length) :
 ∃G,a=some ⟨G,0,none⟩∧base≤G∧G<w.heap.size∧w.cell? ⟨G,i*2,none⟩=some (.int .i64 (l.getD i (0,0)).1)∧w.cell? ⟨G,i*2+1,none⟩=some (.int .i64 (l.getD i (0,0)).2):=by
 have b:=yJc l (0,0) yt _ _ (fun _=>rfl) i e;have c:=h;obtain⟨_,f⟩:=h;rcases f with ⟨d,h0⟩ | ⟨g,m,n,d,j,k,o,p,q,r⟩
 ·omega
 ·cases d;refine⟨g,rfl,j,(zH.1 k).1,?_,?_⟩
  ·rw [World.ownsRow.cellAt c (i*2) (by omega)];exact b.1
  ·rw [World.ownsRow.cellAt c (i*2+1) (by omega)];exact b.2
theorem yBe.keep {base cap:Nat} {w w':World} {b:Option Addr} {l:List (Nat × Nat)} (h:yBe w base b cap l) (a:Below w w w'):yBe w' base b cap l :=
 JC h (row:=none) ⟨a.os,a.tape,a.output,a.size,fun q c _=>a.block q c⟩ (by cases (Value.slice b l.length cap).ownBlock <;> simp)
theorem yBe.set {base cap:Nat} {w:World} {b:Option Addr} {l:List (Nat × Nat)} (h:yBe w base b cap l) {a:Addr} (c:a.block<base) (v:Value):yBe (w.setCell a v) base b cap l :=
 ownsRow_setCell_below h c v
theorem yCq {w w':World} {base e b n:Nat} {v:Value} {xs:List Value} (h:w.ownsRow base e b v n xs) (a:Below w w w'):w'.ownsRow base e b v n xs :=
 h.kept (row:=none) ⟨a.os,a.tape,a.output,a.size,fun q c _=>a.block q c⟩ (by cases v.ownBlock <;> simp)
theorem yP {w:World} {base e c n:Nat} {v:Value} {xs:List Value} (h:w.ownsRow base e c v n xs):∃a cap,v=.slice a n cap∧n≤cap∧cap≤maxLen:=by
 rcases h.2 with ⟨b,h0⟩ | ⟨g,cap,i,b,j,k,d,f,l,m⟩
 ·exact⟨none,0,by rw [b,h0],by omega,by unfold maxLen;omega⟩
 ·exact⟨_,cap,b,d,f⟩
theorem yB2 {w:World} {base e c n cap:Nat} {a:Option Addr} {xs:List Value} (h:w.ownsRow base e c (.slice a n cap) n xs) (l:0<n) :
 ∃G,a=some ⟨G,0,none⟩∧base≤G∧G<w.heap.size∧∀j,j<n*c→w.cell? ⟨G,j,none⟩=xs[j]?:=by
 have d:=h;rcases h.2 with ⟨b,h0⟩ | ⟨g,m,o,b,f,i,p,q,r,s⟩
 ·omega
 ·simp only [Value.slice.injEq] at b;obtain⟨rfl,_,rfl⟩:=b;exact⟨g,rfl,f,(zH.1 i).1,fun j k=>World.ownsRow.cellAt d j k⟩
theorem yCj {w:World} {base b t n:Nat} {k:IntKind} {xs:List Int} (h:w.rowIs b t n (fun i=>.int k (yH xs i))) (d:xs.length=n) (e:base≤b) (f:n≤maxLen):yG k t w base (some ⟨b,0,none⟩) n xs:=by
 obtain⟨c,g,l,j⟩:=h;subst d;refine⟨by simp,.inr ⟨b,xs.length,c,rfl,e,g,zT _,f,by omega,?_⟩⟩;apply qK;intro i;rw [zv,zm];by_cases a:i<xs.length
 ·rw [Zg (by omega),yLa a];simpa using j i a
 ·rw [Zf (by omega),qD (by omega)];rfl
theorem ownsRow_take {w:World} {base e b n cap k:Nat} {a:Option Addr} {xs:List Value} (h:w.ownsRow base e b (.slice a n cap) n xs) (d:k≤n) (q:0<n) (r:xs.length=n*b) :
 w.ownsRow base e b (.slice a k cap) k (xs.take (k*b)):=by
 have f:k*b≤n*b:=JM _ d;obtain⟨s,c⟩:=h;refine⟨by rw [za];omega,?_⟩;rcases c with ⟨c,h0⟩ | ⟨g,t,i,c,j,l,u,m,o,p⟩
 ·cases c;omega
 ·cases c;refine .inr ⟨g,cap,i,rfl,j,l,by omega,m,o,?_⟩;rw [←p,List.take_take,Nat.min_eq_left f]
end
section
open Go.RowKit
def yDc (l:List Nat):List Value:=l.map fun (p:Nat)=>Value.int .i64 (p:Int)
theorem nats_snoc (l:List Nat) (i:Nat):yDc (l++[i])=yDc l++[.int .i64 (i:Int)]:=by unfold yDc;rw [zW];rfl
theorem nats_len (l:List Nat):(yDc l).length=l.length:=by unfold yDc;simp
theorem nats_get (l:List Nat) (i:Nat) (h:i<l.length):(yDc l)[i]? = some (.int .i64 ((l.getD i 0:Nat):Int)):=by
 unfold yDc;rw [zm,zI,zF h];rfl
def yAw (w:World) (base ts ti:Nat) (v:Value) (out:List (List Nat)):Prop :=
 ∃ss:List Value,w.ownsRow base ts 1 v out.length ss ∧
   (∀k,k<out.length→w.ownsRow base ti 1 (ss.getD k undef) (out.getD k []).length (yDc (out.getD k []))) ∧
   (∀k g,k<out.length→(ss.getD k undef).ownBlock=some g→v.ownBlock≠some g∧∀j,j<out.length→j≠k→(ss.getD j undef).ownBlock≠some g)
theorem yAw.nil (w:World) (base b c:Nat):yAw w base b c (.slice none 0 0) [] :=
 ⟨[],Zx _ _ _ _,fun k a=>qF a (by simp),fun k g a=>qF a (by simp)⟩
theorem yAw.keep {w w':World} {base a b:Nat} {v:Value} {c:List (List Nat)} (h:yAw w base a b v c) (d:Below w w w'):yAw w' base a b v c:=by
 obtain⟨e,f,g,i⟩:=h;exact⟨e,yCq f d,fun k j=>yCq (g k j) d,i⟩
theorem yBx {w:World} {base e a n:Nat} {v:Value} {xs:List Value} (h:w.ownsRow base e a v n xs) {w':World} {row:Option Nat} (b:w.grownBy w' row) (c:∀g,v.ownBlock=some g→row≠some g):w'.ownsRow base e a v n xs:=by
 refine h.kept b ?_;cases hv:v.ownBlock with
 | none=>exact .inl rfl
 | some g=>exact .inr fun e=>c g hv e.symm
theorem yAw.far {w w':World} {base b c:Nat} {v:Value} {d:List (List Nat)} (h:yAw w base b c v d) {row:Option Nat} (f:w.grownBy w' row) (n:∀g,row=some g→g<base):yAw w' base b c v d:=by
 obtain⟨o,i,j,p⟩:=h;have l:∀g,base≤g→row≠some g:=fun g q e=>by have:=n g e;omega
 exact⟨o,yBx i f fun g a=>l g (i.lt g a).1,fun k m=>yBx (j k m) f fun g a=>l g ((j k m).lt g a).1,p⟩
theorem yAw.shape {w:World} {base c d:Nat} {v:Value} {b:List (List Nat)} (h:yAw w base c d v b):∃a cap,v=.slice a b.length cap∧b.length≤cap∧cap≤maxLen:=by
 obtain⟨f,e,_⟩:=h;exact yP e
theorem yAw.grown {w w1 w':World} {base p q:Nat} {v f:Value} {a:List (List Nat)} {b:List Value}
 (r:∀k,k<a.length→w.ownsRow base q 1 (b.getD k undef) (a.getD k []).length (yDc (a.getD k [])))
 (s:∀k g,k<a.length→(b.getD k undef).ownBlock=some g→v.ownBlock≠some g∧∀j,j<a.length→j≠k→(b.getD j undef).ownBlock≠some g)
 (t:b.length=a.length) (u:w.grownBy w' v.ownBlock) (x:w'.ownsRow base p 1 f (a.length+1) (b++[.slice none 0 0]))
 (l:f.ownBlock=v.ownBlock∨∃H,f.ownBlock=some H∧w.heap.size≤H):yAw w' base p q f (a++[[]]):=by
 have m:∀k,k<a.length→(b++[Value.slice none 0 0]).getD k undef=b.getD k undef:=fun k c=>by
  rw [zI,zt (by omega),←zI]
 have y:∀k,k<a.length→(a++[[]]).getD k []=a.getD k []:=fun k c=>by
  rw [zI,zt (by omega),←zI]
 have n:(b++[Value.slice none 0 0]).getD a.length undef=.slice none 0 0:=by
  rw [zI,←t,zr (zT _),Zk];rfl
 have z:(a++[[]]).getD a.length []=[]:=by
  rw [zI,zr (zT _),Zk];rfl
 have i:(a++[[]]).length=a.length+1:=by simp
 refine⟨b++[.slice none 0 0],by rw [i];exact x,fun k c=>?_,fun k g c d=>?_⟩
 ·rw [i] at c;rcases JP k a.length with h | h
  ·rw [m k h,y k h];exact yBx (r k h) u fun g A=>(s k g h A).1
  ·obtain rfl:k=a.length:=(by omega);rw [n,z];exact Zx _ _ _ _
 ·rw [i] at c;rcases JP k a.length with h | h
  ·rw [m k h] at d;obtain⟨B,C⟩:=s k g h d;have G:=((r k h).lt g d).2;refine⟨?_,fun j D E=>?_⟩
   ·rcases l with l | ⟨H,F,I⟩
    ·rw [l];exact B
    ·rw [F];intro e;cases e;omega
   ·rw [i] at D;rcases JP j a.length with o | o
    ·rw [m j o];exact C j o E
    ·obtain rfl:j=a.length:=(by omega);rw [n];simp [Value.ownBlock]
  ·obtain rfl:k=a.length:=(by omega);rw [n] at d;simp [Value.ownBlock] at d
theorem yAw.elem {w:World} {base C y:Nat} {v:Value} {c:List (List Nat)} (h:yAw w base C y v c) (k:Nat) (q:k<c.length) :
 ∃G cap s,v=.slice (some ⟨G,0,none⟩) c.length cap∧base≤G∧G<w.heap.size∧w.cell? ⟨G,k,none⟩=some s∧w.frozen? ⟨G,k,none⟩=false∧cap≤maxLen ∧
   w.ownsRow base y 1 s (c.getD k []).length (yDc (c.getD k []))∧s.ownBlock≠some G ∧
   ∀w' f r,w'.ownsRow base y 1 f r.length (yDc r)→w.grownBy w' s.ownBlock→(f.ownBlock=s.ownBlock∨∃H,f.ownBlock=some H∧w.heap.size≤H) →
     yAw (w'.setCell ⟨G,k,none⟩ f) base C y v (c.set k r):=by
 obtain⟨l,t,z,u⟩:=h;obtain⟨a,cap,rfl,X,N⟩:=yP t;obtain⟨G,rfl,O,P,Q⟩:=yB2 t (by omega);have Y:l.length=c.length:=by have:=t.1;omega
 have K:=Q k (by omega);have R:l[k]? = some (l.getD k undef):=by rw [zI,zF (by omega)];rfl
 rw [R] at K;have S:w.frozen? ⟨G,k,none⟩=false:=by
  rcases t.2 with ⟨D,_⟩ | ⟨g,Z,a0,D,_,A,_⟩
  ·cases D
  ·cases D;simp [World.frozen?,A]
 have E:(l.getD k undef).ownBlock≠some G:=fun e=>(u k G q e).1 rfl;refine⟨G,cap,l.getD k undef,rfl,O,P,K,S,N,z k q,E,fun w' f r T A F=>?_⟩;have U:w'.ownsRow base C 1 (.slice (some ⟨G,0,none⟩) c.length cap) c.length l:=yBx t A fun g n=>by
  simp only [Value.ownBlock,Option.some.injEq] at n;subst n;exact E
 have I:=qH U k f;have B:∀j,j<c.length→(l.set k f).getD j undef=if k=j then f else l.getD j undef:=fun j d=>by
  rw [zI,ZP,zI];by_cases e:k=j
  ·subst e;rw [Zg rfl,Zg (by omega),Zg rfl];rfl
  ·rw [Zf e,Zf e]
 have V:∀j,j<c.length→(c.set k r).getD j []=if k=j then r else c.getD j []:=fun j d=>by
  rw [zI,ZP,zI];by_cases e:k=j
  ·subst e;rw [Zg rfl,Zg (by omega),Zg rfl];rfl
  ·rw [Zf e,Zf e]
 have L:f.ownBlock≠some G:=by
  rcases F with e | ⟨H,e,M⟩
  ·rw [e];exact E
  ·rw [e];intro b;cases b;omega
 refine⟨l.set k f,by rw [ZQ];exact I.1,fun j d=>?_,fun j g d m=>?_⟩
 ·rw [ZQ] at d;rw [B j d,V j d];by_cases e:k=j
  ·rw [Zg e,Zg e];exact yBx T I.2 fun g n b=>L (n.trans b.symm)
  ·rw [Zf e,Zf e];refine yBx (yBx (z j d) A fun g n b=>?_) I.2 fun g n b=>(u j g d n).1 b;exact (u k g q b).2 j d (fun p=>e p.symm) n
 ·rw [ZQ] at d;rw [B j d] at m;by_cases e:k=j
  ·subst e;rw [Zg rfl] at m;refine⟨fun b=>L (m.trans b.symm),fun i o x=>?_⟩;rw [ZQ] at o;rw [B i o,Zf (fun e=>x e.symm)];rcases F with b | ⟨H,b,M⟩
   ·exact (u k g q (b.symm.trans m)).2 i o x
   ·rw [b] at m;cases m;intro p;have:=((z i o).lt g p).2;omega
  ·rw [Zf e] at m;have J:=u j g d m;refine⟨J.1,fun i o x=>?_⟩;rw [ZQ] at o;rw [B i o];by_cases b:k=i
   ·rw [Zg b];subst b;rcases F with p | ⟨H,p,M⟩
    ·rw [p];exact J.2 k q x
    ·rw [p];intro W;cases W;have:=((z j d).lt g m).2;omega
   ·rw [Zf b];exact J.2 i o x
end
section
open Go.RowKit Go.Maps
def yNj (goes:List (Nat × Nat)) (j:Nat):Option Nat:=(goes.find? (fun x=>x.1==j)).map (·.2)
structure MapIs (D:DataW Unit) (goes:List (Nat × Nat)):Prop where
 isMap:IsMap D
 none_:∀j:Nat,yNj goes j=none→Maps.has D (.int .i64 j)=false
 some_:∀j k:Nat,yNj goes j=some k→Maps.has D (.int .i64 j)=true∧D.atKey (.int .i64 j) (.lit (.int .i64 0))=.lit (.int .i64 k)
theorem MapIs.nil:MapIs (.map []) []:=⟨isMap_empty,fun j h=>rfl,fun j k h=>by cases h⟩
theorem yQb (a:List (Nat × Nat)) (j k i:Nat):yNj ((j,k)::a) i=if j=i then some k else yNj a i:=by
 unfold yNj;rw [List.find?_cons];by_cases h:j=i
 ·have:(j==i)=true:=(by simpa using h);simp only [this,Zg h,Option.map_some]
 ·have:(j==i)=false:=(by simpa using h);simp only [this,Zf h]
theorem MapIs.put {D:DataW Unit} {c:List (Nat × Nat)} (h:MapIs D c) (j k:Nat):MapIs (D.put (.int .i64 j) (.lit (.int .i64 k))) ((j,k)::c):=by
 have d:WideAt.IsKeyLit (.int .i64 (j:Int)):=trivial;refine⟨h.isMap.put _ _,fun i a=>?_,fun i q a=>?_⟩
 ·rw [yQb] at a;by_cases e:j=i
  ·rw [Zg e] at a;cases a
  ·rw [Zf e] at a;rw [has_put_other (fun b=>e (by cases b;rfl))];exact h.none_ i a
 ·rw [yQb] at a;by_cases e:j=i
  ·rw [Zg e] at a;cases a;subst e;exact⟨has_put_same h.isMap d _,atKey_put_same h.isMap d _ _⟩
  ·rw [Zf e] at a;have f:(Lit.int .i64 (i:Int))≠.int .i64 (j:Int):=fun b=>by
    injection b with _ b;omega
   rw [has_put_other f,atKey_put_other f];exact h.some_ i q a
end
section
open Go.RowKit
theorem flat_len {α:Type} (l:List α) (f:α→List Value) (k:Nat) (a:∀x,(f x).length=k):(l.flatMap f).length=l.length*k:=by
 induction l with
 | nil=>simp
 | cons x l ih=>rw [ZK,zJ,a,ih,zb,JD];omega
theorem flat_get {α:Type} (l:List α) (d:α) (f:α→List Value) (k:Nat) (a:∀x,(f x).length=k) (i j:Nat) (b:i<l.length) (c:j<k):(l.flatMap f)[i*k+j]? = (f (l.getD i d))[j]?:=by
 induction l generalizing i with
 | nil=>simp at b
 | cons x l ih =>
   rw [ZK];cases i with
   | zero=>rw [Nat.zero_mul,Za,zt (by rw [a];exact c)];rfl
   | succ i =>
     have:=ih i (by simpa using b);rw [zr (by rw [a,JD];omega),a,show (i+1)*k+j-k=i*k+j by rw [JD];omega];exact this
theorem flat_take {α:Type} (l:List α) (f:α→List Value) (k:Nat) (b:∀x,(f x).length=k) (m:Nat):(l.take m).flatMap f=(l.flatMap f).take (m*k):=by
 induction l generalizing m with
 | nil=>simp
 | cons x l ih =>
   cases m with
   | zero=>simp
   | succ m =>
     have a:(f x).length=k:=b x;rw [Zm,ZK,ZK,ih,List.take_append,a,qU (l:=f x) (by rw [a,JD];omega),show (m+1)*k-k=m*k by rw [JD];omega]
structure Keep2 (p R:Nat) (w w':World):Prop where
 os:w'.os=w.os
 tape:w'.tape=w.tape
 output:w'.output=w.output
 size:w.heap.size≤w'.heap.size
 block:∀k,k<w.heap.size→k≠p→k≠R→w'.heap[k]? = w.heap[k]?
theorem Keep2.refl (p R:Nat) (w:World):Keep2 p R w w:=⟨rfl,rfl,rfl,zT _,fun _ _ _ _=>rfl⟩
theorem Keep2.trans {p R a:Nat} {w w' b:World} (h:Keep2 p R w w') (k:Keep2 p a w' b) (d:a=R∨w.heap.size≤a):Keep2 p R w b:=by
 refine⟨k.os.trans h.os,k.tape.trans h.tape,k.output.trans h.output,zY h.size k.size,fun q f c g=>?_⟩;have:=h.size;exact (k.block q (by omega) c (by rcases d with e | e <;> omega)).trans (h.block q f c g)
theorem Keep2.set {p R:Nat} {w w':World} (h:Keep2 p R w w') (i:Nat) (v:Value):Keep2 p R w (w'.setCell ⟨p,i,none⟩ v) :=
 ⟨h.os,h.tape,h.output,by simpa [World.setCell] using h.size,fun q b a c=>(heap_setCell_other w' ⟨p,i,none⟩ q v a).trans (h.block q b a c)⟩
theorem Keep2.alloc {p R:Nat} {w w':World} (h:Keep2 p R w w') (o:Obj):Keep2 p R w (w'.alloc o) :=
 ⟨h.os,h.tape,h.output,by have:=h.size;simp;omega,fun q a b c=>(qA w' o q (by have:=h.size;omega)).trans (h.block q a b c)⟩
theorem Keep2.drewN {p R:Nat} {w w':World} (h:Keep2 p R w w') (n:Nat):Keep2 p R w (w'.drewN n):=⟨h.os,h.tape,h.output,h.size,h.block⟩
theorem Keep2.grown {p R:Nat} {w w' b:World} (h:Keep2 p R w w') {row:Option Nat} (a:w'.grownBy b row) (c:∀k,row=some k→k=p∨k=R∨w.heap.size≤k):Keep2 p R w b:=by
 refine⟨a.os.trans h.os,a.tape.trans h.tape,a.output.trans h.output,zY h.size a.size,fun q d f g=>?_⟩;have:=h.size;exact (a.block q (by omega) (fun e=>by rcases c q e.symm with e | e | e <;> omega)).trans (h.block q d f g)
theorem Keep2.below {p R B:Nat} {w w':World} (h:Keep2 p R w w') (a:B≤p) (b:B≤R) (c:B≤w.heap.size):Below B w w' :=
 ⟨h.os,h.tape,h.output,h.size,fun q d=>h.block q (by omega) (by omega) (by omega)⟩
theorem Keep2.of {p R:Nat} {w w':World} (h:Below w w w'):Keep2 p R w w':=⟨h.os,h.tape,h.output,h.size,fun q a _ _=>h.block q a⟩
theorem Keep2.own {p R:Nat} {w w':World} (h:Keep2 p R w w') {base e a n:Nat} {v:Value} {xs:List Value} (b:w.ownsRow base e a v n xs) (d:∀g,v.ownBlock=some g→g≠p∧g≠R):w'.ownsRow base e a v n xs:=by
 refine⟨b.1,?_⟩;rcases b.2 with f | ⟨g,cap,i,rfl,j,c,r⟩
 ·exact .inl f
 ·have:=d g rfl;exact .inr ⟨g,cap,i,rfl,j,(h.block g (zH.1 c).1 this.1 this.2).trans c,r⟩
def yFx (s:LSt):List Value:=[.int .u8 s.level,.int .i8 s.over,s.iso]
def yw (w:World) (base p R:Nat) (P:LPile):Prop :=
 ∃N cap,w.heap[p]? = some (.cells #[.slice (some ⟨R,0,none⟩) P.states.length cap,P.opn,P.deep,P.emb] 257 (0,0))∧yB0 w R 253 N (P.states.flatMap yFx) ∧
   base≤p∧base≤R∧R≠p∧P.states.length≤cap∧cap≤maxLen∧cap*3≤N
theorem yBs {w:World} {p:Nat} {a b c d:Value} (h:w.heap[p]? = some (.cells #[a,b,c,d] 257 (0,0))) :
 w.cell? ⟨p,0,none⟩=some a∧w.cell? ⟨p,1,none⟩=some b∧w.cell? ⟨p,2,none⟩=some c∧w.cell? ⟨p,3,none⟩=some d ∧
  (∀i,w.frozen? ⟨p,i,none⟩=false)∧p<w.heap.size:=by
 refine⟨by simp [World.cell?,h],by simp [World.cell?,h],by simp [World.cell?,h],by simp [World.cell?,h],fun i=>by simp [World.frozen?,h],(zH.1 h).1⟩
theorem pile_set0 {w:World} {p:Nat} {a b c d v:Value} (h:w.heap[p]? = some (.cells #[a,b,c,d] 257 (0,0))):(w.setCell ⟨p,0,none⟩ v).heap[p]? = some (.cells #[v,b,c,d] 257 (0,0)):=by
 simp [World.setCell,qr,h]
theorem pile_set1 {w:World} {p:Nat} {a b c d v:Value} (h:w.heap[p]? = some (.cells #[a,b,c,d] 257 (0,0))):(w.setCell ⟨p,1,none⟩ v).heap[p]? = some (.cells #[a,v,c,d] 257 (0,0)):=by
 simp [World.setCell,qr,h]
theorem pile_set2 {w:World} {p:Nat} {a b c d v:Value} (h:w.heap[p]? = some (.cells #[a,b,c,d] 257 (0,0))):(w.setCell ⟨p,2,none⟩ v).heap[p]? = some (.cells #[a,b,v,d] 257 (0,0)):=by
 simp [World.setCell,qr,h]
theorem yM4 {w:World} {p:Nat} {a b c d v:Value} (h:w.heap[p]? = some (.cells #[a,b,c,d] 257 (0,0))):(w.setCell ⟨p,3,none⟩ v).heap[p]? = some (.cells #[a,b,c,v] 257 (0,0)):=by
 simp [World.setCell,qr,h]
theorem yAr {w:World} {p R t N i:Nat} {xs:List Value} {v:Value} (h:yB0 w R t N xs) (a:R≠p):yB0 (w.setCell ⟨p,i,none⟩ v) R t N xs:=h.kept (heap_setCell_other w ⟨p,i,none⟩ R v a)
theorem pile_top {w:World} {R N L:Nat} {P:LPile} (h:yB0 w R 253 N (P.states.flatMap yFx)) (a:P.states.length=L+1) :
 w.cell? ⟨R,L*3,none⟩=some (.int .u8 P.top.level)∧w.cell? ⟨R,L*3+1,none⟩=some (.int .i8 P.top.over)∧w.cell? ⟨R,L*3+2,none⟩=some (.bool P.top.iso):=by
 have b:P.top=P.states.getD L ⟨0,-1,false⟩:=by rw [P.top_at (by omega),LPile.last,a,Ze]
 have g:=fun j (c:j<3)=>flat_get P.states ⟨0,-1,false⟩ yFx 3 (fun _=>rfl) L j (by omega) c;rw [b];exact⟨h.cell (L*3) _ (g 0 (by omega)),h.cell (L*3+1) _ (g 1 (by omega)),h.cell (L*3+2) _ (g 2 (by omega))⟩
theorem yw.keep {w w':World} {base p R:Nat} {P:LPile} (h:yw w base p R P) (a:Below w w w'):yw w' base p R P:=by
 obtain⟨N,cap,b,c,r⟩:=h;exact⟨N,cap,(a.block p (zH.1 b).1).trans b,c.kept (a.block R c.lt),r⟩
theorem yw.lt {w:World} {base p R:Nat} {P:LPile} (h:yw w base p R P):base≤p∧base≤R∧p<w.heap.size∧R<w.heap.size∧R≠p:=by
 obtain⟨N,cap,a,b,c,d,e,_⟩:=h;exact⟨c,d,(zH.1 a).1,b.lt,e⟩
theorem yKh {P:Program} (w:World) {ops:Array Oper} {rest:List Oper} {o:Oper} {a:Act} {Q:Exit→Act→World→Prop}
 (v:o.guard=none) (s x:Operand) (t:TypeId) (y:o.op=Op.call { callee:=Callee.builtin Builtin.append,args:=#[s,x],argTypes:=#[t,t] })
 (e:TypeId) (i:TypeInfo) (z:Value) (b n:Nat) (A:P.underlying t=some (.slice e)) (B:P.info? e=some i) (U:i.zero=some z) (C:i.size=b) (V:i.bytes=n) (W:z.cells.size=b) (X:0<b)
 (R N k cap:Nat) (xs:List Value) (D:a.eval s=.slice (some ⟨R,0,none⟩) k cap) (E:yB0 w R e N xs) (F:xs.length=k*b) (G:cap*b≤N) (Y:cap≤maxLen)
 (h:Addr) (m c:Nat) (news:List Value) (H:a.eval x=.slice (some h) m c) (I:news.length=m*b)
 (J:∀j u,news[j]? = some u→w.cell? (h.add j)=some u) (Z:∀u∈news,u.oneCell'=true) (hm:0<m) (b1:k+m≤maxLen) (b2:(k+m)*n≤140737488355328)
 (L:∀w' l M d,yB0 w' l e M (xs++news)→k+m≤d→d≤maxLen→d*b≤M→(l=R∨w.heap.size≤l)→w.grownBy w' (some R)→wpList P ops Q rest (a.put o.dst (.slice (some ⟨l,0,none⟩) (k+m) d)) w') :
 wpList P ops Q (o::rest) a w:=by
 by_cases p:k+m≤cap
 ·exact yFq w v s x t y e i b A B C R e N k cap xs D E F h m c news H I J Z p (zY (JM _ p) G)
   fun w' h1 h2=>L w' R N cap h1 p Y G (.inl rfl) h2
 ·refine wpList_plain v fun K a0=>?_;obtain⟨v',w',a1,r,f⟩:=run_append_arg_grows (P:=P) w t o.type e i z b n A B U C V W X ⟨R,0,none⟩ k cap xs F (fun j u hj=>by rw [JK,Za];exact E.cell j u hj) h m c news I J (by omega) b1 b2;rcases r.2 with ⟨_,h0⟩ | ⟨g,d,O,rfl,hb,a2,S,h4,T,h6⟩
  ·omega
  ·unfold Oper.wp;simp [execOp,y,resolve,invoke,builtin,D,H,a1,Result.andThen];refine a0 _ _ (L w' g O.size d ⟨O,a2,rfl,?_,?_⟩ S h4 (Nat.le_of_eq T.symm) (.inr hb) ⟨f.os,f.tape,f.output,f.size,fun q hq _=>f.block q hq (by simp)⟩)
   ·rw [r.1];exact h6
   ·rw [r.1,T];exact JM _ S
end
section
open Go.RowKit
def FindPost (n:Nat) (F I:List Int) (r:Int) (w:World) (e:Ending) (w':World):Prop :=
 ∃low,low<n∧(low=0∨yH F low≤r)∧(low+1=n∨r<yH F (low+1)) ∧
   e=.returned (.tuple #[.int .u8 (yH I low),.int .i32 (if low+1<n then wrap32 (yH F (low+1)-1) else 1114111)])∧∃q,w'=w.drewN q
def badB (r:Int):Bool:=decide (r<0)||decide (1114111<r)||(decide (55296≤r)&&decide (r≤57343))
theorem known_yes {r:Int} (h:badB r=true):yAv r=65533:=by
 simp [badB] at h;unfold yAv;rw [Zg (by omega)]
theorem known_no {r:Int} (h:badB r=false):yAv r=r:=by
 simp [badB] at h;unfold yAv;rw [Zf (by omega)]
theorem find_any (b n cap:Nat) (F I:List Int) (r:Int) (w:World) (u:1≤n) (v:n≤100000)
 (j:∀i,i<n→w.cell? ⟨b,i*2,none⟩=some (.int .i32 (yH F i))) (hI:∀i,i<n→w.cell? ⟨b,i*2+1,none⟩=some (.int .u8 (yH I i))) :
 Calls Tryz.prog 178 #[.slice (some ⟨b,0,none⟩) n cap,.int .i32 r] w (FindPost n F I (yAv r) w):=by
 go_enter Tryz.func178,Tryz.ntmps178;go_upto_region 1 with fail;go_cut [22] (fun k d=>k=.bool (badB r)∧d=w)
 case first =>
  by_cases m:r<0
  ·go_wp2;go_meet;exact⟨by simp [badB,m],rfl⟩
  ·by_cases o:1114111<r
   ·go_wp2;go_meet;exact⟨by simp [badB,o],rfl⟩
   ·by_cases p:55296≤r
    ·go_wp2;go_meet;exact⟨by simp [badB,p];omega,rfl⟩
    ·go_wp2;go_meet;exact⟨by unfold badB;simp;omega,rfl⟩
 case rest =>
  obtain⟨rfl,rfl⟩:=hcut;go_upto_if 22 with fail;go_cut [1] (fun s d=>s=.int .i32 (yAv r)∧d=wc)
  case first =>
   cases hb:badB r
   ·have:=known_no hb;go_wp2;go_meet;exact⟨by rw [this],rfl⟩
   ·have:=known_yes hb;go_wp2;go_meet;exact⟨by rw [this],rfl⟩
  case rest =>
   obtain⟨rfl,rfl⟩:=hcut;go_wp2;have x:=known_bd r;generalize yAv r=q at *;go_loop [6,7] (fun l h=>∃a c:Nat,a<c∧c≤n∧l=.int .i64 a∧h=.int .i64 c∧(a=0∨yH F a≤q)∧(c=n∨q<yH F c)) (fun l h=>(intOf h-intOf l).toNat)
   case atStart=>exact⟨0,n,by omega,by omega,rfl,rfl,.inl rfl,.inl rfl⟩
   case round =>
    obtain⟨a,c,y,z,rfl,rfl,e,f⟩:=hrel;by_cases A:a+1<c
    ·have B:=j ((a+c) / 2) (by omega);by_cases t:q<yH F ((a+c) / 2)
     ·go_wp2;go_round
      case rel=>exact⟨a,(a+c) / 2,by omega,by omega,rfl,by go_num,e,.inr t⟩
      case measure=>simp [intOf];omega
     ·go_wp2;go_round
      case rel=>exact⟨(a+c) / 2,c,by omega,by omega,by go_num,rfl,.inr (by omega),f⟩
      case measure=>simp [intOf];omega
    ·have C:=hI a (by omega);obtain rfl:c=a+1:=(by omega);by_cases g:a+1<n
     ·have D:=j (a+1) g;have E:(0:Int)≤a:=(by omega);have G:(a:Int)<n:=(by omega);have H:(0:Int)≤(a:Int)+1:=(by omega);have J:(a:Int)+1<n:=(by omega);go_wp2;go_quiet (fail);go_wp2
      go_ret2
      exact⟨a,by omega,e,f,ret_ii rfl (by rw [Zg g]),⟨_,rfl⟩⟩
     ·go_wp2
      go_ret2
      exact⟨a,by omega,e,f,ret_ii rfl (by rw [Zf g]),⟨0,rfl⟩⟩
end
section
open Go.RowKit Go.Great
section
variable {P:Program} {ops:Array Oper} {rest:List Oper} {o:Oper} {a:Act} {w:World} {Q:Exit→Act→World→Prop}
def yF6 (x:Int × Int):List Value:=[.int .i32 x.1,.int .u8 x.2]
def stOp (t:TypeId) (pos:String) (d:Nat) (x:Int × Int):Oper :=
 {dst:=some d,op:=.build t #[(0,.const (.int .i32 x.1)),(1,.const (.int .u8 x.2))],type:=t,pos:=pos,after:=#[],guard:=none }
def yNf (t:TypeId) (pos:String):Nat→List (Int × Int)→List Oper
 | _,[]=>[]
 | d,x::xs=>stOp t pos d x::yNf t pos (d+1) xs
theorem yD7 (t:TypeId) (pos:String) (e:∀x y:Int,P.built t [(0,.int .i32 x),(1,.int .u8 y)]=some #[.int .i32 x,.int .u8 y]) :
 ∀(xs:List (Int × Int)) (d:Nat) (a:Act),d+xs.length≤a.tmps.size →
   (∀b:Act,b.tmps.size=a.tmps.size→b.defers=a.defers→(∀i (h:i<xs.length),b.eval (.tmp (d+i))=.agg (yF6 xs[i]).toArray) →
     (∀j,j<d→b.eval (.tmp j)=a.eval (.tmp j))→wpList P ops Q rest b w) →
   wpList P ops Q (yNf t pos d xs++rest) a w
 | [],d,a,_,h=>h a rfl rfl (fun i c=>qF c (by simp)) (fun _ _=>rfl)
 | x::xs,d,a,hd,h=>by
   have g:d<a.tmps.size:=(by simp at hd;omega);show wpList P ops Q (stOp t pos d x::(yNf t pos (d+1) xs++rest)) a w;refine wpList_buildTo rfl t _ rfl (some d) rfl (yF6 x).toArray (by simpa [Act.eval,yF6] using e x.1 x.2) ?_;refine yD7 t pos e xs (d+1) _ (by rw [qi];simp at hd;omega) fun b k l m f=>?_;refine h b (k.trans (qi _ _ _)) (l.trans (Act.defers_put' _ _ _)) (fun i c=>?_) (fun j n=>?_)
   ·cases i with
    | zero=>rw [Zl,f d (by omega),qh _ _ _ g];rfl
    | succ i =>
      have:=m i (by simpa using c);rw [show d+(i+1)=d+1+i by omega,this];rfl
   ·rw [f j (by omega),qg _ _ _ _ (by omega)]
def yy (T:List (Int × Int)):List Value:=T.flatMap yF6
theorem yCx (T:List (Int × Int)):(yy T).length=T.length*2:=by
 induction T with
 | nil=>rfl
 | cons x T ih=>simp only [yy,ZK,zJ] at *;rw [ih];simp [yF6];omega
theorem yPq (T:List (Int × Int)):∀i,i<T.length→(yy T)[i*2]? = some (.int .i32 (T.getD i (0,0)).1)∧(yy T)[i*2+1]? = some (.int .u8 (T.getD i (0,0)).2):=by
 induction T with
 | nil=>intro i h;simp at h
 | cons x T ih =>
   intro i h;cases i with
   | zero=>exact⟨rfl,rfl⟩
   | succ i =>
     have:=ih i (by simpa using h);simp only [yy,ZK,yF6,zo,zp] at this ⊢;rw [show (i+1)*2=i*2+1+1 by omega];exact this
theorem yFk (T:List (Int × Int)):(yy T).toArray.all (·.oneCell')=true:=by
 rw [Array.all_eq_true_iff_forall_mem];intro v a;simp only [yy,List.mem_toArray,List.mem_flatMap] at a;obtain⟨x,_,b⟩:=a;simp only [yF6,zX,ze,or_false] at b;rcases b with rfl | rfl <;> rfl
theorem yBr (j:o.guard=none) (t e:TypeId) (n:Nat) (b:Array (Nat × Operand)) (T:List (Int × Int)) (k:o.op=.build t b) (d:Nat) (f:Option Tmp) (l:o.dst=f)
 (m:P.underlying t=some (.array n e)) (g:(P.info? e).map (·.size)=some 2) (c:((P.info? t).bind (·.zero)).map (·.cells.size)=some (T.length*2))
 (p:b.toList=(List.range T.length).map fun i=>(i,Operand.tmp (d+i)))
 (q:∀i (h:i<T.length),a.eval (.tmp (d+i))=.agg (yF6 T[i]).toArray)
 (h:wpList P ops Q rest (a.put f (.agg (yy T).toArray)) w):wpList P ops Q (o::rest) a w:=by
 refine wpList_buildTo j t b k f l (yy T).toArray ?_ h;cases hie:P.info? e with
 | none=>simp [hie] at g
 | some ie =>
   cases hit:P.info? t with
   | none=>simp [hit] at c
   | some it =>
     cases hzz:it.zero with
     | none=>simp [hit,hzz] at c
     | some z =>
       simp only [hie,hit,hzz,Option.map_some,Option.some.injEq,Option.bind_some] at g c;unfold Program.built;simp only [hit,m,hzz,hie];have r:(b.map fun (i,x)=>(i,a.eval x)).toList=((T.map fun x=>Value.agg (yF6 x).toArray).zipIdx 0).map fun x=>(x.2,x.1):=by
        rw [Array.toList_map,p,zx];apply List.ext_getElem
        ·simp
        ·intro i u B;have y:i<T.length:=(by simpa using u);simp only [List.getElem_map,List.getElem_range,Function.comp,List.getElem_zipIdx,Za];rw [q i y]
       rw [r,g];have:=fill_whole (s:=2) (by omega) (T.map fun x=>Value.agg (yF6 x).toArray) z.cells
        (fun v A=>by obtain⟨x,_,rfl⟩:=ZG.1 A;rfl) (by simp [c])
       rw [this]
       congr 2
       simp [yy,List.flatMap_map,Value.cells]
theorem yA4 (d:o.guard=none) (c:Option Tmp) (e:o.dst=c) (x:Operand) (b:o.op=.move x∨o.op=.assign x)
 (h:wpList P ops Q rest (a.put c (a.eval x)) w):wpList P ops Q (o::rest) a w:=by
 refine wpList_runTo d c e _ w ?_ h;rcases b with b | b <;> simp [execOp,b]
theorem yQc (d:o.guard=none) (b:Option Tmp) (e:o.dst=b) (x:Operand) (i:Nat) (f:o.op=.extract x i) (c:Array Value) (v:Value)
 (g:a.eval x=.tuple c) (j:c[i]? = some v)
 (h:wpList P ops Q rest (a.put b v) w):wpList P ops Q (o::rest) a w:=by
 refine wpList_runTo d b e v w ?_ h;simp [execOp,f,g,Instr.extract,j]
theorem yN6 (c:o.guard=none) (b:Option Tmp) (d:o.dst=b) (t e n:Nat) (x:Operand) (f:o.op=.slice t x none none none) (g:Nat)
 (i:P.underlying t=some (.array n e)) (j:(P.info? e).isSome=true) (k:a.eval x=.pointer (some ⟨g,0,none⟩))
 (h:wpList P ops Q rest (a.put b (.slice (some ⟨g,0,none⟩) n n)) w):wpList P ops Q (o::rest) a w:=by
 obtain⟨m,l⟩:=Option.isSome_iff_exists.1 j;refine wpList_runTo c b d _ w ?_ h;simp [execOp,f,k,Instr.sliceAt,JU i,Instr.sureAddr,Instr.sliceBounds,sizeOf,typeInfo,l];intro _;rfl
theorem yB5 (d:o.guard=none) (b:Option Tmp) (e:o.dst=b) (t:TypeId) (f:o.op=.alloc t) (N:Nat) (g:w.heap.size=N) (z:Value) (c:(P.info? t).bind (·.zero)=some z)
 (h:wpList P ops Q rest (a.put b (.pointer (some ⟨N,0,none⟩))) (w.alloc (.cells z.cells t))):wpList P ops Q (o::rest) a w:=by
 subst g;refine wpList_runTo d b e _ _ ?_ h;cases hi:P.info? t with
 | none=>simp [hi] at c
 | some i =>
   simp only [hi,Option.bind_some] at c;simp [execOp,f,Instr.alloc,zeroValue,typeInfo,hi,c,newVar,newRow]
theorem wpList_call2 (c:o.guard=none) (b:Option Tmp) (d:o.dst=b) (f:FuncId) (x y:Operand) (g:execOp a.eval o=callFunc f #[a.eval x,a.eval y])
 (i:∀(args:Array Value) (w:World),(callFunc f args).run P w=.ok (.enter f args) w) {R:Ending→World→Prop} (j:Calls P f #[a.eval x,a.eval y] w R)
 (h:∀e w',R e w'→∃v,e=.returned v∧wpList P ops Q rest (a.put b v) w'):wpList P ops Q (o::rest) a w:=by
 subst d;refine wpList_plain c fun K k=>?_;unfold Oper.wp;rw [g,i,Oper.upon_enter];refine j.mono fun e w' l=>?_;obtain⟨v,rfl,hw⟩:=h e w' l;exact k _ _ hw
def yC8:Code→List (Array Oper)
 | .region _ ops _=>[ops]
 | .seq x y=>yC8 x++yC8 y
 | .scope x=>yC8 x
 | .block _ x=>yC8 x
 | .loop x=>yC8 x
 | .cond _ x y=>yC8 x++yC8 y
 | _=>[]
def yJs (f:Func):String:=(((yC8 (f.body.getD .skip)).getD 1 #[]).getD 0 default).pos
theorem yB4 {c:Code} (n:Nat) (v:Value) (d:a.tmps.size=n) (e:a.defers=[]) (h0:a.eval (.tmp 0)=v)
 (h:∀b:Act,b.tmps.size=n→b.defers=[]→b.eval (.tmp 0)=v→c.wp P Q b w):c.wp P Q a w:=h a d e h0
end
end
section
open Go.RowKit Go.Great
def yJd (T:List (Int × Int)) (r:Int) (w:World) (e:Ending) (w':World):Prop :=
 ∃low,low<T.length∧(low=0∨(T.getD low (0,0)).1≤r)∧(low+1=T.length∨r<(T.getD (low+1) (0,0)).1) ∧
   e=.returned (.tuple #[.int .u8 (T.getD low (0,0)).2,.int .i32 (if low+1<T.length then wrap32 ((T.getD (low+1) (0,0)).1-1) else 1114111)])∧Below w w w'
theorem yI5 (T:List (Int × Int)) (f:Int × Int→Int) (i:Nat) (h:i<T.length):yH (T.map f) i=f (T.getD i (0,0)):=by
 simp [yH,h]
theorem yH2 {D:Func} (T:List (Int × Int)) (n g c y k z:Nat) (r:Int) (w w1:World) (a:Act) (id:Nat) (l m o p s t u:Oper)
 (J:T.length=n) (L:1≤n) (M:n≤100000) (N:a.tmps.size=g) (O:a.defers=[]) (P:a.eval (.tmp y)=.pointer (some ⟨w,0,none⟩)) (Q:a.eval (.tmp 0)=.int .i32 r)
 (a2:3<c) (a3:c+5≤g) (S:Tryz.prog.underlying k=some (.array n z)) (A:(Tryz.prog.info? z).isSome=true)
 (E:w1.heap[w.heap.size]? = some (.cells (yy T).toArray k (0,0))) (B:Below w w w1) (U:D.results=#[.tmp 2,.tmp 3])
 (V:l.guard=none) (W:l.dst=some c) (X:l.op=.slice k (.tmp y) none none none)
 (Y:m.guard=none) (Z:m.dst=some (c+1)) (p2:m.op=.move (.tmp 0))
 (g3:o.guard=none) (d3:o.dst=some (c+2)) (p3:∀b:Act,execOp b.eval o=callFunc 178 #[b.eval (.tmp c),b.eval (.tmp (c+1))])
 (g4:p.guard=none) (d4:p.dst=some (c+3)) (p4:p.op=.extract (.tmp (c+2)) 0)
 (g5:s.guard=none) (d5:s.dst=some (c+4)) (p5:s.op=.extract (.tmp (c+2)) 1)
 (g6:t.guard=none) (d6:t.dst=some 2) (p6:t.op=.assign (.tmp (c+3)))
 (g7:u.guard=none) (d7:u.dst=some 3) (p7:u.op=.assign (.tmp (c+4))) :
 Code.wp Tryz.prog (.seq (.region id #[l,m,o,p,s,t,u] false) .ret) (bodyPost Tryz.prog D (yJd T (yAv r) w)) a w1:=by
 apply wp_seq_k;intro K hK;apply JX;refine yN6 V _ W k z n (.tmp y) X w.heap.size S A P ?_;refine yA4 Y _ Z _ (.inl p2) ?_;rw [qg _ _ _ _ (by omega),Q];have f:∀(x:Option Tmp) (v:Value) (b:Act),b.tmps.size=g→(b.put x v).tmps.size=g:=fun x v b B=>by rw [qi,B]
 have a0:=f (some c) (.slice (some ⟨w,0,none⟩) n n) a N;have a1:=f (some (c+1)) (.int .i32 r) _ a0;have ex:=p3 ((a.put (some c) (.slice (some ⟨w,0,none⟩) n n)).put (some (c+1)) (.int .i32 r));refine wpList_call2 g3 _ d3 178 (.tmp c) (.tmp (c+1)) ex (fun args w=>Tryz.call178 args w) (R:=FindPost n (T.map (·.1)) (T.map (·.2)) (yAv r) w1) ?_ ?_
 ·rw [qh _ _ _ (by omega),qg _ _ _ _ (by omega),qh _ _ _ (by omega)];refine find_any w.heap.size n n (T.map (·.1)) (T.map (·.2)) r w1 L M (fun i A=>?_) (fun i A=>?_)
  ·rw [yI5 _ _ _ (by omega),World.cell?,E];simp;exact (yPq T i (by omega)).1
  ·rw [yI5 _ _ _ (by omega),World.cell?,E];simp;exact (yPq T i (by omega)).2
 ·rintro e w2 ⟨low,C,q2,q3,rfl,q,rfl⟩;refine⟨_,rfl,?_⟩;generalize hv1:(Value.int .u8 (yH (T.map (·.2)) low))=v1;generalize hv2:(Value.int .i32 (if low+1<n then wrap32 (yH (T.map (·.1)) (low+1)-1) else 1114111))=v2;have F:=f (some (c+2)) (.tuple #[v1,v2]) _ a1;refine yQc g4 _ d4 _ 0 p4 #[v1,v2] v1 (qh _ _ _ (by omega)) rfl ?_;have G:=f (some (c+3)) v1 _ F;refine yQc g5 _ d5 _ 1 p5 #[v1,v2] v2 (by rw [qg _ _ _ _ (by omega)];exact qh _ _ _ (by omega)) rfl ?_;have H:=f (some (c+4)) v2 _ G;refine yA4 g6 _ d6 _ (.inr p6) ?_;refine yA4 g7 _ d7 _ (.inr p7) ?_;apply wpList_nil;refine hK _ _ ?_;apply wp_ret;refine qC (results_tmp2 U _ _ _) (by simp only [Act.defers_put',O]) ?_;have I:∀(b:Act) (j:Nat),b.tmps.getD j undef=b.eval (.tmp j):=fun b j=>rfl;rw [I,I,qh _ 3 _ (by rw [qi,H];omega),qg _ 3 2 _ (by omega),qh _ 2 _ (by rw [H];omega),qg _ 2 _ _ (by omega),
   qh _ (c+4) _ (by rw [G];omega),qg _ (c+4) (c+3) _ (by omega),qh _ (c+3) _ (by rw [F];omega)]
  subst hv1 hv2 J;refine⟨low,C,?_,?_,?_,yI B _⟩
  ·rcases q2 with h | h
   ·exact .inl h
   ·exact .inr (by rwa [yI5 _ _ _ C] at h)
  ·rcases q3 with h | h
   ·exact .inl h
   ·by_cases d:low+1<T.length
    ·exact .inr (by rwa [yI5 _ _ _ d] at h)
    ·exact .inl (by omega)
  ·rw [yI5 _ _ _ C];by_cases d:low+1<T.length
   ·rw [Zg d,Zg d,yI5 _ _ _ d]
   ·rw [Zf d,Zf d]
theorem yD0 (w:World) (o:Obj) (c:Array Value):Below w w ((w.alloc o).setRow w.heap.size c):=by
 refine⟨rfl,rfl,rfl,by simp [World.setRow],fun k a=>?_⟩;simp only [World.setRow,qr];rw [Zf (by omega)];exact qA w o k a
theorem yL4:yE8.length=173:=by as_aux_lemma=>kernel_rfl
theorem dirs_any (r:Int) (w:World) :
 Calls Tryz.prog 136 #[.int .i32 r] w (yJd yE8 (yAv r) w):=by
 refine calls_of_wp Tryz.func136 rfl ?_;refine yB4 184 (.int .i32 r) (by as_aux_lemma=>kernel_rfl) rfl (by as_aux_lemma=>kernel_rfl) fun i d e h0=>?_;apply wp_seq_k;intro j f;apply JX;refine yA4 rfl (some 2) rfl _ (.inr rfl) ?_;refine yA4 rfl (some 3) rfl _ (.inr rfl) ?_;apply wpList_nil;refine f _ _ ?_;refine yB4 184 (.int .i32 r) (by simp only [qi,d]) (by simp only [Act.defers_put',e]) (by rw [qg _ _ _ _ (by decide),qg _ _ _ _ (by decide),h0]) fun t a k l=>?_;clear f j h0 e d i;apply wp_seq_k;intro m g;apply JX;refine wpList_splitAt 173 (yNf 247 (yJs Tryz.f136) 5 yE8) (by as_aux_lemma=>kernel_rfl) ?_;refine yD7 247 (yJs Tryz.f136) (fun _ _=>by as_aux_lemma=>kernel_rfl) yE8 5 _ (by rw [yL4,a];decide) fun c b n o p=>?_;refine yBr rfl 251 247 173 _ yE8 rfl 5 (some 178) rfl (by as_aux_lemma=>kernel_rfl) (by as_aux_lemma=>kernel_rfl) (by as_aux_lemma=>kernel_rfl) (by as_aux_lemma=>kernel_rfl) o ?_;refine yB5 rfl (some 4) rfl 251 rfl w.heap.size rfl (((Tryz.prog.info? 251).bind (·.zero)).getD undef) (by as_aux_lemma=>kernel_rfl) ?_;have h:(yy yE8).toArray.size=346:=by rw [qW,yCx,yL4]
 have u:w.heap.size<(w.alloc (.cells (((Tryz.prog.info? 251).bind (·.zero)).getD undef).cells 251)).heap.size:=by simp
 refine wpList_store_row rfl 251 (.tmp 4) (.tmp 178) rfl w.heap.size (yy yE8).toArray
  (qh _ _ _ (by simp only [qi,b,a];decide)) (by rw [qg _ _ _ _ (by decide),qh _ _ _ (by simp only [b,a];decide)])
  251 _ (JS w _) (by rw [h];as_aux_lemma=>kernel_rfl) (by rw [h];as_aux_lemma=>kernel_rfl) (yFk _) ?_
 apply wpList_nil;refine g _ _ ?_;clear g m;have q:((((c.put (some 178) (.agg (yy yE8).toArray)).put (some 4) (.pointer (some ⟨w,0,none⟩)))).put none undef).eval (.tmp 4)=.pointer (some ⟨w,0,none⟩) :=
  qh _ _ _ (by simp only [qi,b,a];decide)
 have s:((((c.put (some 178) (.agg (yy yE8).toArray)).put (some 4) (.pointer (some ⟨w,0,none⟩)))).put none undef).eval (.tmp 0)=.int .i32 r:=by
  show ((c.put (some 178) (.agg (yy yE8).toArray)).put (some 4) (.pointer (some ⟨w,0,none⟩))).eval (.tmp 0)=_;rw [qg _ _ _ _ (by decide),qg _ _ _ _ (by decide),p 0 (by decide),l]
 exact yH2 yE8 173 184 179 4 251 247 r w _ _ _ _ _ _ _ _ _ _ yL4 (by decide) (by decide) (by simp only [qi,b,a]) (by simp only [Act.defers_put',n,k]) q s (by decide) (by decide)
  (by as_aux_lemma=>kernel_rfl) (by as_aux_lemma=>kernel_rfl) (setRow_heap _ _ _ _ _ _ (JS w _)) (yD0 w _ _) rfl
  rfl rfl rfl rfl rfl rfl rfl rfl (fun x=>by rw [execOp_call_go];simp) rfl rfl rfl rfl rfl rfl rfl rfl rfl rfl rfl rfl
def DirsVal (r:Int) (w:World) (e:Ending) (w':World):Prop :=
 ∃x y:Int,x=yDa r∧0≤x∧x≤127∧e=.returned (.tuple #[.int .u8 x,.int .i32 y])∧Below w w w'
theorem dirs_val (r:Int) (w:World):Calls Tryz.prog 136 #[.int .i32 r] w (DirsVal r w):=by
 refine (dirs_any r w).mono fun e w1 h=>?_;obtain⟨low,b,c,d,f,g⟩:=h;have i:yGa yE8=true:=by as_aux_lemma=>kernel_rfl
 have j:yF4 yE8=true:=by as_aux_lemma=>kernel_rfl
 have a:=yEf i low;exact⟨_,_,(yDy yE8 low (yAv r) j b c d).symm,a.1,a.2,f,g⟩
theorem yOg (r:Int) (w:World) :
 Calls Tryz.prog 97 #[.int .i32 r] w fun e w'=>e=.returned (.int .i8 (yDa r))∧Below w w w':=by
 go_enter Tryz.func97,Tryz.ntmps97;go_wp2_with (go_at_call 136;refine (dirs_val r w).mono ?_;rintro e w1 ⟨x,y,rfl,h0,b,rfl,a⟩);go_ret;exact⟨yK rfl,a⟩
end
section
open Go.RowKit
theorem yB9 (k:Int) (w:World) :
 Calls Tryz.prog 193 #[.int .i8 k] w fun e w'=>e=.returned (.int .i8 (yCc k))∧w=w':=by
 go_enter Tryz.func193,Tryz.ntmps193;go_wp2
 all_goals (go_ret;simp_all [yCc])
theorem side_any (k:Int) (w:World) :
 Calls Tryz.prog 191 #[.int .i8 k] w fun e w'=>e=.returned (.int .i8 (yC6 k))∧w=w':=by
 go_enter Tryz.func191,Tryz.ntmps191;go_wp2
 all_goals (go_ret;simp_all [yC6])
theorem yJ0 {P:Program} (w:World) {t e n:Nat} {k:IntKind} (cs:Array Value) (i:Nat) (v:Value) (b:P.underlying t=some (.array n e)) (c:P.underlying e=some (.int k)) (a:(P.info? e).map (·.size)=some 1)
 (d:i<n) (f:cs[i]? = some v):(Instr.index t (.agg cs) (.int .i64 i)).run P w=.ok v w:=by
 cases hq:P.info? e with
 | none=>simp [hq] at a
 | some ie =>
   have g:ie.size=1:=(by simpa [hq] using a);simp [Instr.index,asIntOf,JU b,sizeOf,typeInfo,hq,d,g,part,isAgg,JU c,f]
theorem yLt (k:Nat):((k:Int) % 2==0)=decide (k % 2=0):=by
 rw [ZY,ZD,decide_eq_true_iff];omega
def yKw (r:Int) (w:World) (e:Ending) (w':World):Prop :=
 e=.returned (.tuple #[.int .i32 (yA2 r).1,.bool (yA2 r).2.1,.bool (yA2 r).2.2])∧w=w'
theorem Pair_any (r:Int) (w:World):Calls Tryz.prog 170 #[.int .i32 r] w (yKw r w):=by
 go_enter Tryz.func170,Tryz.ntmps170;go_wp2;go_loop [9] (fun i=>∃k:Nat,k≤30∧i=.int .i64 k∧∀j,j<k→yH brL j≠r) (fun i=>30-(intOf i).toNat)
 case atStart=>exact⟨0,by omega,rfl,fun j d=>qF d (by omega)⟩
 case round =>
  obtain⟨k,C,rfl,o⟩:=hrel;have p:=lh o;clear o;by_cases g:k<30
  ·have q:∀w:World,(Instr.index 277 (.agg (brL.map (Value.int .i32)).toArray) (.int .i64 k)).run Tryz.prog w=.ok (.int .i32 (yH brL k)) w:=fun w =>
    yJ0 w _ k _ Tryz.underlying277 Tryz.underlying21 (by kernel_rfl) g (by
     simp only [zC,zm];rw [show brL[k]? = some (yH brL k) from by rw [yH,zI,zF (by simpa [brL] using g)];rfl];rfl)
   obtain⟨u,v,c,l⟩:=pair_hit k g;generalize hx:yH brL k=x at q u v c l;simp only [brL,Zd,List.map_nil] at q;have y:=lh hx;clear hx;by_cases s:x=r
   ·subst s;have z:=lh l;clear l;have fin:∀(f:Int) (b:Bool),f=farI k→b=decide (k % 2=0)→yKw x w (.returned (.tuple #[.int .i32 (x+f),b,true])) w:=by
     intro f b A B;have:=z.out;exact⟨ret_ibb (by rw [this,A]) (by rw [this,B]) (by rw [this]),rfl⟩
    have a:=lh fin;clear fin;by_cases D:(k:Int)<6
    ·by_cases E:(1:Int)<k
     ·clear c;by_cases m:(k:Int) % 2=0
      ·go_wp2
       go_ret3
       exact a.out 2 _ (by unfold farI;rw [Zg (by omega),Zg (by omega)]) (zQ (by omega)).symm
      ·go_wp2
       go_ret3
       exact a.out (-2) _ (by unfold farI;rw [Zf (by omega),Zg (by omega)]) (yLt k)
     ·have t:x<65339:=(by omega);clear c;by_cases m:(k:Int) % 2=0
      ·go_wp2
       go_ret3
       exact a.out 1 _ (by unfold farI;rw [Zg (by omega),Zf (by omega)]) (zQ (by omega)).symm
      ·go_wp2
       go_ret3
       exact a.out (-1) _ (by unfold farI;rw [Zf (by omega),Zf (by omega)]) (yLt k)
    ·by_cases F:25<k
     ·have t:65339≤x:=(by omega);clear c;by_cases m:(k:Int) % 2=0
      ·go_wp2
       go_ret3
       exact a.out 2 _ (by unfold farI;rw [Zg (by omega),Zg (by omega)]) (zQ (by omega)).symm
      ·go_wp2
       go_ret3
       exact a.out (-2) _ (by unfold farI;rw [Zf (by omega),Zg (by omega)]) (yLt k)
     ·have t:x<65339:=(by omega);clear c;by_cases m:(k:Int) % 2=0
      ·go_wp2
       go_ret3
       exact a.out 1 _ (by unfold farI;rw [Zg (by omega),Zf (by omega)]) (zQ (by omega)).symm
      ·go_wp2
       go_ret3
       exact a.out (-1) _ (by unfold farI;rw [Zf (by omega),Zf (by omega)]) (yLt k)
   ·go_wp2;go_round
    case rel=>exact⟨k+1,by omega,by go_num,fun j d e=>by
     by_cases h:j=k
     ·subst h;exact s (y.out.symm.trans e)
     ·exact p.out j (by omega) e⟩
    case measure=>simp [intOf];omega
  ·go_wp2
   go_ret3
   have n:=yQr r (fun j d=>p.out j (by omega));exact⟨ret_ibb (by rw [n]) (by rw [n]) (by rw [n]),rfl⟩
end
section
open Go.RowKit
theorem decide_any (G n cap b g:Nat) (xs:List Int) (e h:Int) (w:World) (D:G<w.heap.size) (E:b<g) (F:g<n) (H:n≤cap) (t:cap≤maxLen)
 (u:∀i,i<n→w.cell? ⟨G,i,none⟩=some (.int .i8 (yH xs i))) :
 Calls Tryz.prog 194 #[.slice (some ⟨G,0,none⟩) n cap,.agg #[b,g],.int .i8 e,.int .i8 h] w
  fun r w'=>r=.returned (.int .i8 (decI xs b g e h))∧Below w w w':=by
 unfold maxLen at t;go_enter Tryz.func194,Tryz.ntmps194;go_wp2;go_loop [9,20] (fun a c=>∃(i j:Nat) (l:Int),i+j+(b+1)=g∧c=.int .i64 i∧a=.int .i8 l∧yOz xs e h j (b+1+i) l=decI xs b g e h) (fun _ c=>g-(b+1)-(intOf c).toNat)
 case atStart=>exact⟨0,g-(b+1),-1,by omega,rfl,rfl,rfl⟩
 case round =>
  obtain⟨i,j,l,p,rfl,rfl,d⟩:=hrel;have o:=lh d;clear d;have q:=lh p;by_cases I:i+(b+1)<g
  ·obtain⟨j,rfl⟩:∃v,j=v+1:=⟨j-1,by omega⟩;clear p;have x:=u (b+1+i) (by omega);generalize hy:yH xs (b+1+i)=y at x;have z:=lh hy;clear hy;have d:yOz xs e h (j+1) (b+1+i) l=if yCc y=e then e else if yCc y = -1 then yOz xs e h j (b+1+(i+1)) l else yOz xs e h j (b+1+(i+1)) h:=by
    rw [yOz,z.out];rfl
   by_cases f:yCc y=e
   ·rw [Zg f] at d;have m:=lh d;clear d;have A:(yCc y==e)=true:=(by rw [f];simp);have s:=lh f;clear f;go_wp2_with (go_at_call 193;refine (yB9 _ _).mono ?_;rintro e w' ⟨rfl,rfl⟩);go_ret;exact⟨yK (by rw [←o.out,m.out]),(Zc _ _).alloc (zT _) _⟩
   ·rw [Zf f] at d;have A:(yCc y==e)=false:=(by simpa using f);by_cases k:yCc y = -1
    ·rw [Zg k] at d;have m:=lh d;clear d;have B:(yCc y == -1)=true:=(by rw [k];simp);have s:=lh f;clear f;have C:=lh k;clear k;go_wp2_with (go_at_call 193;refine (yB9 _ _).mono ?_;rintro e w' ⟨rfl,rfl⟩);go_round
     case rel=>exact⟨i+1,j,l,by have:=q.out;omega,by go_num,rfl,by rw [←o.out,m.out]⟩
     case measure=>simp [intOf];omega
    ·rw [Zf k] at d;have m:=lh d;clear d;have B:(yCc y == -1)=false:=(by simpa using k);have s:=lh f;clear f;have C:=lh k;clear k;go_wp2_with (go_at_call 193;refine (yB9 _ _).mono ?_;rintro e w' ⟨rfl,rfl⟩);go_round
     case rel=>exact⟨i+1,j,h,by have:=q.out;omega,by go_num,rfl,by rw [←o.out,m.out]⟩
     case measure=>simp [intOf];omega
  ·obtain rfl:j=0:=(by omega);go_wp2;go_ret;exact⟨yK (by rw [←o.out];rfl),(Zc _ _).alloc (zT _) _⟩
end
end Go.Proofs.YtncplikdjcmoeaaGreatDoor
