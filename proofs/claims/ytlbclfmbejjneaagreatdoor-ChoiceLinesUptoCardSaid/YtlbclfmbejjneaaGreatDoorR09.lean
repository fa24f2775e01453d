/- Part 9 (merged by a program): lemmas of no further condition than each states. -/
import Derived.Laws.Bits64b
import Derived.Laws.BytesArg
import Derived.Lib.BufferRead
import Derived.Laws.BytesString
import Derived.Test.YtlbclfmbejjneaaGreatDoorR08
namespace Go.Proofs.YtlbclfmbejjneaaGreatDoor
set_option linter.unusedVariables false
set_option linter.unusedSimpArgs false
section
open Go.RowKit Go.Proofs Go.Shelf
attribute [local go_sem] Oper.semAt_some
def DB (w:World):Prop:=w.cell? ⟨5,15,none⟩=some (.int .u8 4)
theorem DB.below {w w':World} (h:DB w) (hb:Below w.heap.size w w'):DB w':=cell_bl hb (cell_lt h) h
theorem tz64_any (w:World) (h:DB w):Calls Tryz.prog 192 #[.int .u64 16] w fun e w'=>e=.returned (.int .i64 4)∧w'=w:=by
 have hi:(IntKind.u64.wrap (bits BinOp.and IntKind.u64 16 (IntKind.u64.wrap (-16))*285870213051353865) / 288230376151711744)=15:=by decide
 have hi2:(IntKind.u64.wrap (bits BinOp.and IntKind.u64 16 (IntKind.u64.wrap (-16))*285870213051353865) / 288230376151711744).toNat=15:=by rw [hi];rfl
 have hc:w.cell? ⟨5,(IntKind.u64.wrap (bits BinOp.and IntKind.u64 16 (IntKind.u64.wrap (-16))*285870213051353865) / 288230376151711744).toNat,none⟩=some (.int .u8 4):=by rw [hi2];exact h
 clear hi hi2 h
 go_enter Tryz.func192,Tryz.ntmps192
 go_wp2_with (fail)
 go_ret
 exact⟨rfl,rfl⟩
theorem tz16_any (w:World) (h:DB w):Calls Tryz.prog 167 #[.int .u64 16] w fun e w'=>e=.returned (.int .i64 4)∧w'=w:=by
 have h64:=lh (tz64_any w h)
 clear h
 go_enter Tryz.func167,Tryz.ntmps167
 go_wp2_with (go_at_call 192;refine h64.out.mono ?_;rintro e w1 ⟨rfl,rfl⟩)
 go_ret
 exact⟨rfl,rfl⟩
theorem pow16_any (w:World):Calls Tryz.prog 166 #[.int .i64 16] w fun e w'=>e=.returned (.bool true)∧w'=w:=by
 go_enter Tryz.func166,Tryz.ntmps166
 go_wp2_with (fail)
 go_ret
 exact⟨rfl,rfl⟩
def digI (d:Nat):Int:=if d<10 then 48+d else 87+d
def hexF:Nat→Nat→List Int→List Int
 | 0,u,acc=>digI (u % 16)::acc
 | f+1,u,acc=>if 16≤u then hexF f (u / 16) (digI (u % 16)::acc) else digI (u % 16)::acc
def hexI (u:Nat):List Int:=hexF 16 u []
def ByB (W:World) (B t:Nat) (xs:List Int):Prop:=W.heap[B]? = some (.cells (xs.map (Value.int .u8)).toArray t (0,0))
theorem ByB.cell {W:World} {B t:Nat} {xs:List Int} (h:ByB W B t xs) (i:Nat) (hi:i<xs.length):W.cell? ⟨B,i,none⟩=some (.int .u8 (ith xs i)):=by
 unfold ByB at h
 simp [World.cell?,h,ith,List.getElem?_eq_getElem hi]
theorem ByB.frozen {W:World} {B t:Nat} {xs:List Int} (h:ByB W B t xs) (i:Nat):W.frozen? ⟨B,i,none⟩=false:=by
 unfold ByB at h
 simp [World.frozen?,h]
theorem ByB.set {W:World} {B t:Nat} {xs:List Int} (h:ByB W B t xs) (i:Nat) (v:Int):ByB (W.setCell ⟨B,i,none⟩ (.int .u8 v)) B t (xs.set i v):=by
 have:=set_at (i:=i) h (.int .u8 v)
 unfold ByB
 rw [this,List.map_set]
 simp
theorem and15 (v:Nat) (hv:v<18446744073709551616):bits BinOp.and IntKind.u64 (v:Int) 15=((v % 16:Nat):Int):=by
 rw [show (15:Int)=((15:Nat):Int) from rfl,bits_and_u64_nat v 15 hv (by omega),show 15=2 ^ 4-1 from rfl,Nat.and_two_pow_sub_one_eq_mod]
theorem conv_rdx {w:World} {n cap:Nat} {a:Option Addr} {xs:List Int} (h:Rd .u8 w a xs) (hn:xs.length=n) :
 (convert 42 9 (.slice a n cap)).run Tryz.prog w=.ok (.string (strOfNums xs)) w:=by
 subst hn
 rcases h with rfl | ⟨b,off,rfl,_,h3⟩
 ·cases a with
  | none=>exact Lib.run_convert_nil_bytes w _ _ _ _ Tryz.underlying42 Tryz.underlying5 Tryz.underlying9
  | some x =>
    rw [run_convert_bytes_string w _ _ _ _ _ cap Tryz.underlying42 Tryz.underlying5 Tryz.underlying9]
    rw [show ([]:List Int).length=0 from rfl,run_bytesToString w _ 0 cap [] (run_loadCells_list (P:=Tryz.prog) w x [] (fun j v hj=>by simp at hj)),foldl_push_bytes]
    simp [strOfNums,ByteArray.empty,ByteArray.emptyWithCapacity]
    rfl
 ·exact run_convert_bytes_arg w _ _ Tryz.underlying42 Tryz.underlying5 b off xs.length cap xs rfl h3 _ Tryz.underlying9
theorem set_drop (xs acc:List Int) (k:Nat) (d:Int) (hk:k<xs.length) (h:xs.drop (k+1)=acc):(xs.set k d).drop k=d::acc:=by
 rw [List.drop_eq_getElem_cons (by rw [List.length_set];exact hk),List.getElem_set_self,List.drop_set_of_lt (by omega),h]
theorem ByB.rd {W:World} {B t:Nat} {xs:List Int} (h:ByB W B t xs) (k:Nat):Rd .u8 W (some ⟨B,k,none⟩) (xs.drop k):=by
 by_cases hk:k<xs.length
 ·refine .inr ⟨B,k,rfl,(Array.getElem?_eq_some_iff.1 h).1,fun i hi=>?_⟩
  rw [List.length_drop] at hi
  rw [h.cell (k+i) (by omega)]
  simp [ith]
 ·exact .inl (List.drop_eq_nil_of_le (by omega))
theorem slice65 (W:World) (B k:Nat) (hk:k<65):(Instr.sliceAt 239 (.pointer (some ⟨B,0,none⟩)) (some (.int .i64 (k:Int))) none none).run Tryz.prog W=.ok (.slice (some ⟨B,k,none⟩) (65-k) (65-k)) W:=by
 have hl:Tryz.prog.arrayLen 239=65:=by kernel_rfl
 have he:Tryz.prog.elem 239=5:=by kernel_rfl
 have hu:Tryz.prog.underlying 239=some (.array (Tryz.prog.arrayLen 239) (Tryz.prog.elem 239)):=by kernel_rfl
 rw [run_sliceAt_array_l W _ ⟨B,0,none⟩ hu .i64 k (by omega) (by rw [hl];omega),he,Tryz.sizeOf5]
 simp only [Result.andThen,hl,slicedAt]
 by_cases h0:k=0
 ·subst h0;rfl
 ·rw [if_neg (by omega)]
  simp [Addr.add]
  exact h0
def digB:ByteArray:=⟨#[48,49,50,51,52,53,54,55,56,57,97,98,99,100,101,102,103,104,105,106,107,108,109,110,111,112,113,114,115,116,117,118,119,120,121,122]⟩
theorem dig_at (d:Nat) (hd:d<16) (h:d<digB.size):((digB[d]'h).toNat:Int)=digI d:=by
 have:d=0∨d=1∨d=2∨d=3∨d=4∨d=5∨d=6∨d=7∨d=8∨d=9∨d=10∨d=11∨d=12∨d=13∨d=14∨d=15:=by omega
 rcases this with rfl | rfl | rfl | rfl | rfl | rfl | rfl | rfl | rfl | rfl | rfl | rfl | rfl | rfl | rfl | rfl <;> rfl
set_option maxRecDepth 100000 in
theorem fbits_any (u:Nat) (hu:u<4294967296) (w:World) (hD:DB w):Calls Tryz.prog 140 #[.slice none 0 0,.int .u64 u,.int .i64 16,.bool false,.bool false] w fun e w'=>e=.returned (.tuple #[.slice none 0 0,.string (strOfNums (hexI u))])∧Below w.heap.size w w':=by
 have HP:=lh (fun W=>pow16_any W)
 have HT:=lh (fun (W:World) (hb:Below w.heap.size w W)=>tz16_any W (hD.below hb))
 clear hD
 go_enter Tryz.func140,Tryz.ntmps140
 go_wp2_with (first
  | (go_at_call 166;refine (HP.out _).mono ?_;rintro e w1 ⟨rfl,rfl⟩)
  | (go_at_call 167;refine (HT.out _ ((Below.refl _ _).alloc (Nat.le_refl _) _)).mono ?_;rintro e w1 ⟨rfl,rfl⟩))
 have h0:ByB (w.alloc (.cells Tryz.zeroCells239 239)) w.heap.size 239 (List.replicate 65 0):=by
  unfold ByB
  rw [World.alloc_heap_new]
  rfl
 go_loopw [1,13] (fun u1 u13 wr=>∃(f v i:Nat) (xs acc:List Int),u1=.int .u64 v∧u13=.int .i64 i∧hexF f v acc=hexI u∧v<16 ^ (f+1)∧f+acc.length=16∧i+acc.length=65∧xs.length=65∧xs.drop i=acc∧v<4294967296∧ByB wr w.heap.size 239 xs∧Below w.heap.size w wr) (fun u1 _ _=>(intOf u1).toNat)
 case atStart=>exact⟨16,u,65,_,[],rfl,rfl,rfl,by omega,rfl,rfl,rfl,rfl,hu,h0,(Below.refl _ _).alloc (Nat.le_refl _) _⟩
 case round =>
  obtain⟨f,v,i,xs,acc,rfl,rfl,hh,hv,hf,hi,hx,hd,hv2,hB,hb⟩:=hrel
  obtain⟨k,rfl⟩:∃k,i=k+1:=⟨i-1,by omega⟩
  have ek:wrap64 (((k+1:Nat):Int)-1)=(k:Int):=by unfold wrap64;omega
  have c0:=hB.cell k (by omega)
  have f0:=hB.frozen k
  have hk:k<65:=by omega
  by_cases hge:16≤v
  ·have g1:(v:Int) ≥ 16:=by omega
   have ea:=and15 v (by omega)
   have HS:=lh (And.intro hh (And.intro hv (And.intro hf (And.intro hi (And.intro hx (And.intro hd (And.intro hB hb)))))))
   clear hh hv hf hi hx hd hB hb
   go_wp2_with (fail)
   obtain⟨hh,hv,hf,hi,hx,hd,hB,hb⟩:=HS.out
   obtain⟨f,rfl⟩:∃g,f=g+1:=⟨f-1,by
    cases f with
    | zero=>simp at hv;omega
    | succ f=>rfl⟩
   rw [hexF,if_pos hge] at hh
   go_roundw
   case rel =>
    refine⟨f,v / 16,k,xs.set k (digI (v % 16)),digI (v % 16)::acc,by rw [Int.natCast_ediv];rfl,rfl,hh,?_,by rw [List.length_cons];omega,by rw [List.length_cons];omega,?_,?_,by omega,by have:=hB.set k (digI (v % 16));rw [←dig_at (v % 16) (by omega) (by show v % 16<36;omega)] at this;rw [←dig_at (v % 16) (by omega) (by show v % 16<36;omega)];exact this,hb.setCell (p:=⟨w.heap.size,k,none⟩) (Nat.le_refl _) _⟩
    ·rw [Nat.pow_succ] at hv;omega
    ·rw [List.length_set];exact hx
    ·exact set_drop _ _ _ _ (by omega) hd
   case measure=>simp [intOf];omega
  ·have g1:¬ (v:Int) ≥ 16:=by omega
   have g2:(v:Int)<36:=by omega
   have HS:=lh (And.intro hh (And.intro hv (And.intro hf (And.intro hi (And.intro hx (And.intro hd (And.intro hB hb)))))))
   clear hh hv hf hi hx hd hB hb
   go_upto_region 30 with (fail)
   obtain⟨hh,hv,hf,hi,hx,hd,hB,hb⟩:=HS.out
   have hB2:=hB.set k (digI v)
   rw [←dig_at v (by omega) (by show v<36;omega)] at hB2
   have hb2:=hb.setCell (p:=⟨w.heap.size,k,none⟩) (Nat.le_refl _) (.int .u8 ((digB[v]'(by show v<36;omega)).toNat:Int))
   have hH:hexI u=digI v::acc:=by
    rw [←hh]
    cases f with
    | zero=>rw [hexF,Nat.mod_eq_of_lt (by omega)]
    | succ f=>rw [hexF,if_neg hge,Nat.mod_eq_of_lt (by omega)]
   have hR:=hB2.rd k
   have hxd:(xs.set k ((digB[v]'(by show v<36;omega)).toNat:Int)).drop k=hexI u:=by rw [dig_at v (by omega) (by show v<36;omega),set_drop _ _ _ _ (by omega) hd,←hH]
   rw [hxd] at hR
   have hl:(hexI u).length=65-k:=by rw [hH,List.length_cons];omega
   have hcv:=conv_rdx (cap:=65-k) hR hl
   have hsl:=slice65 (wr.setCell ⟨w.heap.size,k,none⟩ (.int .u8 ((digB[v]'(by show v<36;omega)).toNat:Int))) w.heap.size k (by omega)
   unfold digB at hcv hsl
   have HB2:=lh hb2
   clear hh hv hf hi hx hd hB hb HS hB2 hb2 hH hR hl hxd
   go_wp2_with (fail)
   go_ret2
   exact⟨rfl,HB2.out⟩
theorem fint0_any (u:Nat) (hu:u<4294967296) (w:World) (hD:DB w):Calls Tryz.prog 115 #[.int .i64 u,.int .i64 16] w fun e w'=>e=.returned (.string (strOfNums (hexI u)))∧Below w.heap.size w w':=by
 have HF:=lh (fun (W:World) (hb:Below w.heap.size w W)=>fbits_any u hu W (hD.below hb))
 clear hD
 go_enter Tryz.func115,Tryz.ntmps115
 go_wp2_with (go_at_call 140;refine (HF.out _ (by first | exact Below.refl _ _ | exact (Below.refl _ _).alloc (Nat.le_refl _) _)).mono ?_;rintro e w1 ⟨rfl,hb1⟩)
 go_ret
 exact⟨rfl,hb1⟩
theorem fint_any (u:Nat) (hu:u<4294967296) (w:World) (hD:DB w):Calls Tryz.prog 92 #[.int .i64 u,.int .i64 16] w fun e w'=>e=.returned (.string (strOfNums (hexI u)))∧Below w.heap.size w w':=by
 have HF:=lh (fint0_any u hu w hD)
 clear hD
 go_enter Tryz.func92,Tryz.ntmps92
 go_wp2_with (go_at_call 115;refine HF.out.mono ?_;rintro e w1 ⟨rfl,hb1⟩)
 go_ret
 exact⟨rfl,hb1⟩
def stopI (col tab:Int):Int:=if tab<1∨16<tab then 8-(max col 0) % 8 else tab-(max col 0) % tab
abbrev lookV (tab want:Int) (wide join raw:Bool):Value:=.agg #[.int .i64 tab,.bool wide,.int .i8 want,.bool join,.bool raw]
theorem stop_any (col tab want:Int) (wide join raw:Bool) (w:World):Calls Tryz.prog 62 #[.int .i64 col,lookV tab want wide join raw] w fun e w'=>e=.returned (.int .i64 (stopI col tab))∧Below w.heap.size w w':=by
 go_enter Tryz.func62,Tryz.ntmps62
 go_wp2_with (fail)
 all_goals go_ret
 all_goals refine⟨ret_i ?_,(Below.refl _ _).alloc (Nat.le_refl _) _⟩
 all_goals unfold stopI
 all_goals first
  | rw [if_pos (by omega)]
  | (rw [if_neg (by omega)]
     have m1:=Int.emod_nonneg (max col 0) (b:=tab) (by omega)
     have m2:=Int.emod_lt_of_pos (max col 0) (b:=tab) (by omega)
     generalize max col 0 % tab=m at m1 m2
     unfold wrap64
     omega)
def padF:Nat→ByteArray→ByteArray
 | 0,s=>s
 | f+1,s=>if s.size<4 then padF f (⟨#[48]⟩++s) else s
def namedS (x:Nat):ByteArray:=⟨#[60]⟩++padF 4 (strOfNums (hexI x))++⟨#[62]⟩
theorem strOfNums_size (l:List Int):(strOfNums l).size=l.length:=by
 unfold strOfNums
 simp [ByteArray.size]
theorem hexF_len:∀(f u:Nat) (acc:List Int),(hexF f u acc).length≤f+1+acc.length
 | 0,u,acc=>by rw [hexF,List.length_cons];omega
 | f+1,u,acc=>by
   rw [hexF]
   split
   ·have:=hexF_len f (u / 16) (digI (u % 16)::acc)
    rw [List.length_cons] at this
    omega
   ·rw [List.length_cons];omega
theorem named_any (x:Nat) (hx:x<2147483648) (w:World) (hD:DB w):Calls Tryz.prog 64 #[.int .i32 x] w fun e w'=>e=.returned (.string (namedS x))∧Below w.heap.size w w':=by
 have HF:=lh (fint_any x (by omega) w hD)
 have hl:=hexF_len 16 x []
 obtain⟨S,hS⟩:∃S,strOfNums (hexI x)=S:=⟨_,rfl⟩
 have hz:S.size≤17:=by rw [←hS,strOfNums_size];exact hl
 have hN:namedS x=⟨#[60]⟩++padF 4 S++⟨#[62]⟩:=by unfold namedS;rw [hS]
 rw [hS] at HF
 have HN:=lh hN
 clear hl hS hD hN
 go_enter Tryz.func64,Tryz.ntmps64
 go_wp2_with (go_at_call 92;refine HF.out.mono ?_;rintro e w1 ⟨rfl,hb1⟩)
 go_loopw [3] (fun u3 wr=>∃(f:Nat) (t:ByteArray),u3=.string t∧padF f t=padF 4 S∧4≤t.size+f∧t.size≤17∧wr=w1) (fun u3 _=>4-(match u3 with | .string t=>t.size | _=>0))
 case atStart=>exact⟨4,S,rfl,rfl,by omega,hz,rfl⟩
 case round =>
  obtain⟨f,t,rfl,hp,hf,ht,rfl⟩:=hrel
  have HP:=lh hp
  clear hp
  by_cases hlt:t.size<4
  ·have g1:(t.size:Int)<4:=by omega
   have hz2:((⟨#[48]⟩:ByteArray)++t).size=1+t.size:=by rw [ByteArray.size_append];rfl
   go_wp2_with (fail)
   go_roundw
   case rel=>exact⟨f-1,⟨#[48]⟩++t,rfl,by
    have:=HP.out
    obtain⟨g,rfl⟩:∃g,f=g+1:=⟨f-1,by omega⟩
    rw [padF,if_pos hlt] at this
    exact this,by omega,by omega,by first | rfl | trivial⟩
   case measure =>
    show 4-(⟨#[48]⟩++t:ByteArray).size<4-t.size
    omega
  ·have g1:¬ (t.size:Int)<4:=by omega
   go_wp2_with (fail)
   go_ret
   have hpt:padF 4 S=t:=by
    rw [←HP.out]
    cases f with
    | zero=>rfl
    | succ f=>rw [padF,if_neg hlt]
   exact⟨by rw [HN.out,hpt];rfl,hb1⟩
end
end Go.Proofs.YtlbclfmbejjneaaGreatDoor
