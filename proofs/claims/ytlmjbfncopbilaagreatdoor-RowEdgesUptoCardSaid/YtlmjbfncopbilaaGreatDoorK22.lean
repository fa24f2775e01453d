/- Part 22 (merged by a program): lemmas of no further condition than each states. -/
import Derived.Test.YtlmjbfncopbilaaGreatDoorK21
namespace Go.Proofs.YtlmjbfncopbilaaGreatDoor
set_option linter.unusedVariables false
set_option linter.unusedSimpArgs false
section
open Go.RowKit
theorem Tryz.info_rune:(Tryz.prog.info? 21).map (fun i=>(i.zero,i.size,i.bytes))=some (some (.int .i32 0),1,4):=by kernel_rfl
def ParPost (R:List Nat) (n:Nat) (w:World) (e:Ending) (w':World):Prop :=
 ∃a c,e=.returned (.slice a n c)∧R.length=n∧OutAt .u8 5 w' w.heap.size a c (ints R)∧Below w.heap.size w w'
structure ParRel (w1:World) (B n:Nat) (v:Value) (runs:List (List Nat)) (out:List Nat) (wx:World):Prop where
 out_:OutAt .u8 5 wx B (some ⟨B,0,none⟩) n (ints out)
 olen:out.length=n
 nest:NestAt wx (B+1) 93 3 v runs
 bel:Below B w1 wx
 sz:B+1≤wx.heap.size
theorem ParRel.keep {w1 wx w':World} {B n:Nat} {v:Value} {runs:List (List Nat)} {out:List Nat} (h:ParRel w1 B n v runs out wx) (hb:Below wx.heap.size wx w'):ParRel w1 B n v runs out w' :=
 ⟨h.out_.keep hb,h.olen,h.nest.keep hb,h.bel.trans (hb.mono (by have:=h.sz;omega)),Nat.le_trans h.sz hb.size⟩
theorem ParRel.set {w1 wx:World} {B n:Nat} {v:Value} {runs:List (List Nat)} {out:List Nat} (h:ParRel w1 B n v runs out wx) (i x:Nat):ParRel w1 B n v runs (out.set i x) (wx.setCell ⟨B,i,none⟩ (.int .u8 x)):=by
 refine⟨by rw [ints_set];exact h.out_.set i x,by rw [List.length_set];exact h.olen,h.nest.far (row:=some B) ⟨rfl,rfl,rfl,by simp,fun q hq hne=>heap_setCell_other wx ⟨B,i,none⟩ q _ (fun e=>hne (by rw [e]))⟩ (fun g e=>by cases e;omega),h.bel.setCell (p:=⟨B,i,none⟩) (Nat.le_refl _) _,by simpa [World.setCell] using h.sz⟩
theorem rep_ints (n:Nat):ints (List.replicate n 0)=List.replicate n 0:=by unfold ints;simp
theorem out_other {k:IntKind} {e base cap G D i:Nat} {w:World} {out:List Int} (h:OutAt k e w base (some ⟨G,0,none⟩) cap out) (hne:G≠D) (v:Value):OutAt k e (w.setCell ⟨D,i,none⟩ v) base (some ⟨G,0,none⟩) cap out :=
 World.ownsRow.kept h (row:=some D) ⟨rfl,rfl,rfl,by simp [World.setCell],fun q hq hn=>heap_setCell_other w ⟨D,i,none⟩ q v (fun e=>hn (by rw [e]))⟩ (.inr fun e=>hne (by simpa [Value.ownBlock] using e))
theorem OutAt.cap {k:IntKind} {e base cap n:Nat} {w:World} {a:Option Addr} {out:List Int} (h:OutAt k e w base a cap out) (hl:out.length=n):n≤cap:=by
 unfold OutAt at h
 obtain⟨a',c',e,h1,_⟩:=own_slice h
 cases e
 omega
theorem Rd.far {k:IntKind} {w w':World} {G o B:Nat} {xs:List Int} (h:Rd k w (some ⟨G,o,none⟩) xs) (hg:w.grownBy w' (some B)) (hne:G≠B):Rd k w' (some ⟨G,o,none⟩) xs:=by
 rcases h with h | ⟨b,off,e,hb,hc⟩
 ·exact .inl h
 ·cases e
  exact .inr ⟨G,o,rfl,Nat.lt_of_lt_of_le hb hg.size,fun i hi=>(World.cell?_of_block (a:=⟨G,o+i,none⟩) (hg.block G hb (fun e=>hne (Option.some.inj e)))).trans (hc i hi)⟩
theorem grown_set {w w':World} {B i:Nat} (h:w.grownBy w' (some B)) (v:Value):w.grownBy (w'.setCell ⟨B,i,none⟩ v) (some B) :=
 ⟨h.os,h.tape,h.output,by simpa [World.setCell] using h.size,fun q hq hne=>(heap_setCell_other w' ⟨B,i,none⟩ q v (fun e=>hne (by rw [e]))).trans (h.block q hq hne)⟩
theorem PResolve_at (ra ka:Option Addr) (rs ks:List Int) (L rc kc:Nat) (level:Nat) (sos eos:Int) (w:World) (h1:rs.length=L) (h2:ks.length=L) (hr:Rd .i32 w ra rs) (hk:Rd .i8 w ka ks) (hn:L≤2097152) (hrc:L≤rc) (hkc:L≤kc) (hl:level≤125) :
 Calls Tryz.prog 159 #[.slice ra L rc,.slice ka L kc,.int .u8 level,.int .i8 sos,.int .i8 eos] w fun e w' =>
  ∃a c,e=.returned (.slice a L c)∧(resI rs ks level sos eos).length=L∧OutAt .i8 22 w' w.heap.size a c (resI rs ks level sos eos)∧Below w.heap.size w w':=by
 subst h1
 have:=Resolve_any ra ka rs ks rc kc level sos eos w hr hk hn (by omega) hrc (by omega) (by omega)
 rw [h2] at this
 refine this.mono fun e w' h=>?_
 obtain⟨v,l,hp,hs,rfl,hlen,hown,hb⟩:=h
 have hm:min rs.length ks.length=rs.length:=by omega
 rw [resI_of hp hs] at hlen hown
 rw [hm] at hlen hown
 obtain⟨a,c,rfl,_,_⟩:=own_slice hown
 refine⟨a,c,rfl,hlen,?_,hb⟩
 unfold OutAt
 rw [hlen]
 exact hown
theorem made_at (W:World) (k:IntKind) (t L:Nat) (f:Nat→Int) (run:List Nat) (hL:run.length=L) (hn:L≤2097152) (base:Nat) (hb:base≤W.heap.size) :
 OutAt k t (W.alloc (.cells (madeCells #[.int k 0] L) t)) base (some ⟨W.heap.size,0,none⟩) L (dealF f run 0) :=
 out_of_row ((World.rowIs_made W (.int k 0) L t).congr fun i hi=>by rw [dealF_zero f run i (by omega)]) (by rw [dealF_len f run 0 (Nat.zero_le _)];exact hL) hb (by unfold maxLen;omega)
theorem made_two (W:World) (k1 k2:IntKind) (t1 t2 L:Nat) (f1 f2:Nat→Int) (run:List Nat) (hL:run.length=L) (hn:L≤2097152) :
 OutAt k1 t1 ((W.alloc (.cells (madeCells #[.int k1 0] L) t1)).alloc (.cells (madeCells #[.int k2 0] L) t2)).drew W.heap.size (some ⟨W.heap.size,0,none⟩) L (dealF f1 run 0) ∧
 OutAt k2 t2 ((W.alloc (.cells (madeCells #[.int k1 0] L) t1)).alloc (.cells (madeCells #[.int k2 0] L) t2)).drew W.heap.size (some ⟨W.heap.size+1,0,none⟩) L (dealF f2 run 0) ∧
 Below W.heap.size W ((W.alloc (.cells (madeCells #[.int k1 0] L) t1)).alloc (.cells (madeCells #[.int k2 0] L) t2)).drew:=by
 have h1:=made_at W k1 t1 L f1 run hL hn W.heap.size (Nat.le_refl _)
 have h2:=made_at (W.alloc (.cells (madeCells #[.int k1 0] L) t1)) k2 t2 L f2 run hL hn W.heap.size (by simp)
 rw [World.size_alloc] at h2
 exact⟨World.ownsRow.drew (World.ownsRow.alloc h1 _),World.ownsRow.drew h2,(((Below.refl _ _).alloc (Nat.le_refl _) _).alloc (by simp) _).drew⟩
set_option maxRecDepth 100000 in
set_option maxHeartbeats 1000000 in
theorem Para_any (a da:Option Addr) (cs ds:List Int) (n c dc base:Nat) (w:World) (hl:cs.length=n) (hdl:ds.length=n) (hc:Rd .i32 w a cs) (hd:Rd .i8 w da ds) (hn:n≤2097152) (hnc:n≤dc) (hcm:dc≤9223372036854775807) (hb:base≤125) :
 Calls Tryz.prog 119 #[.slice a n c,.slice da n dc,.int .u8 base] w (ParPost (paraI cs ds base) n w):=by
 obtain⟨i5,hi5,hz5,ha5,hb5⟩:=info_parts (Tryz.info_u8)
 obtain⟨i40,hi40,hz40,ha40,hb40⟩:=info_parts (Tryz.info_i8)
 obtain⟨i21,hi21,hz21,ha21,hb21⟩:=info_parts (Tryz.info_rune)
 have HLV:=lh (LLevels_any da ds n dc base w hdl hd hn hnc hcm hb)
 unfold LevPost at HLV
 have hok:=levI_ok ds base
 have hP:paraI cs ds base=tidyF ds base ds.length 0 base ((runsI ds ((levI ds base).1.map Int.ofNat)).foldl (fun out run=>runOut cs ds (levI ds base).1 (levI ds base).2 base run out) (List.replicate cs.length 0)):=rfl
 have hin:(levI ds base).1.map Int.ofNat=ints (levI ds base).1:=rfl
 rw [hin,hl,hdl] at hP
 rw [hdl] at hok
 have hrok:=runsI_ok ds (ints (levI ds base).1)
 rw [ints_len,hok.1,hdl,Nat.min_self] at hrok
 obtain⟨lev,hlev⟩:∃lev,(levI ds base).1=lev:=⟨_,rfl⟩
 obtain⟨kin,hkin⟩:∃kin,(levI ds base).2=kin:=⟨_,rfl⟩
 rw [hlev,hkin] at hok hP
 rw [hlev] at hrok
 rw [hlev,hkin] at HLV
 obtain⟨R,hR⟩:∃R,runsI ds (ints lev)=R:=⟨_,rfl⟩
 rw [hR] at hP hrok
 obtain⟨FO,hFO⟩:∃FO,R.foldl (fun out run=>runOut cs ds lev kin base run out) (List.replicate n 0)=FO:=⟨_,rfl⟩
 rw [hFO] at hP
 rw [hP]
 have HL:=lh hl
 have HDL:=lh hdl
 have HOK:=lh hok
 have HROK:=lh hrok
 have HR:=lh hR
 have HFO:=lh hFO
 have hmk:=run_make_row (P:=Tryz.prog) 134 5 i5 (.int .u8 0) Tryz.underlying134 hi5 hz5 ha5 rfl .i64 .i64 n (by rw [hb5];omega) (by omega)
 clear hok hP hin hrok hlev hkin hR hFO hl hdl
 go_enter Tryz.func119,Tryz.ntmps119
 go_upto_region 3 with (go_at_call 156;refine HLV.out.mono ?_;rintro e w1 ⟨la,lc,ka,kc,rfl,hLO,hKO,hb1⟩)
 clear hmk
 obtain⟨B,hB⟩:∃B,w1.heap.size=B:=⟨_,rfl⟩
 obtain⟨W2,hW2⟩:∃W2,W2=w1.alloc (.cells (madeCells #[.int .u8 0] n) 5):=⟨_,rfl⟩
 rw [←hW2,hB]
 have hW2s:W2.heap.size=B+1:=by rw [hW2,World.size_alloc,hB]
 have hO2:OutAt .u8 5 W2 B (some ⟨B,0,none⟩) n (ints (List.replicate n 0)):=by
  have:=out_of_row (base:=B) (xs:=List.replicate n 0) ((World.rowIs_made w1 (.int .u8 0) n 5).congr fun i hi=>by rw [rep_zero n i hi]) (by simp) (by rw [hB];exact Nat.le_refl _) (by unfold maxLen;omega)
  rw [hB,←hW2] at this
  rw [rep_ints];exact this
 have hb2:Below B w1 W2:=by rw [hW2];exact (Below.refl _ _).alloc (by omega) _
 have hLR:Rd .u8 w1 la (ints lev):=hLO.rd
 have hKR:Rd .i8 w1 ka kin:=hKO.rd
 have hwB:w.heap.size≤B:=by rw [←hB];exact hb1.size
 have HRU:=lh (LRuns_any da la ds (ints lev) n dc lc W2 HDL.out (by rw [ints_len];exact HOK.out.1) (hd.below (hb1.trans (hb2.mono hwB))) (hLR.below (by rw [hB];exact hb2)) hn hnc hcm)
 unfold RunsPost at HRU
 rw [HR.out,hW2s] at HRU
 have HB:=lh hB
 have HB1:=lh hb1
 have HB2:=lh hb2
 clear hB hW2 hb1 hb2 hLO hKO
 go_upto_block 0 with (go_at_call 157;refine HRU.out.mono ?_;rintro e w3 ⟨v,rfl,hNE,hb3⟩;obtain⟨va,vc,hva,hvc1,hvc2⟩:=hNE.shape;subst hva)
 have hPR0:ParRel w1 B n (.slice va R.length vc) R (List.replicate n 0) w3 :=
  ⟨hO2.keep (by rw [hW2s];exact hb3),by simp,by rw [←hW2s];rw [hW2s];exact hNE,HB2.out.trans (hb3.mono (by omega)),by have:=hb3.size;omega⟩
 obtain⟨RN,hRN⟩:∃RN,R.length=RN:=⟨_,rfl⟩
 rw [hRN] at hPR0 hvc1 ⊢
 unfold maxLen at hvc2
 have HRN:=lh hRN
 have HRD:=lh (And.intro hLR hKR)
 clear hNE hb3 hO2 hW2s hRN hLR hKR
 go_cut [37] (fun _ wx=>ParRel w1 B n (.slice va RN vc) R FO wx)
 case first =>
  go_wp2_with (fail)
  go_loopw [37] (fun u wx=>∃(j m:Nat) (out:List Nat),j+m=RN∧u=.int .i64 j∧ParRel w1 B n (.slice va RN vc) R out wx∧(R.drop j).foldl (fun out run=>runOut cs ds lev kin base run out) out=FO) (fun u _=>RN-(intOf u).toNat)
  case atStart=>exact⟨0,RN,List.replicate n 0,by omega,rfl,hPR0,by rw [List.drop_zero];exact HFO.out⟩
  case round =>
   obtain⟨j,m,out,hjm,rfl,rel,hF⟩:=hrel
   clear hPR0
   obtain⟨V,hV⟩:∃V,V=wr:=⟨_,rfl⟩
   subst hV
   cases m with
   | zero =>
     have hje:j=RN:=by omega
     have hF2:out=FO:=by rw [←hF,hje,←HRN.out,List.drop_length];rfl
     subst hje
     subst hF2
     clear hF hjm
     go_wp2_with (fail)
     go_meet
     exact rel
   | succ m =>
     have hlt:j<RN:=by omega
     obtain⟨run,hrun⟩:∃run,R.getD j []=run:=⟨_,rfl⟩
     have hmem:run∈R:=by rw [←hrun,List.getD_eq_getElem?_getD,List.getElem?_eq_getElem (by have:=HRN.out;omega)];exact List.getElem_mem _
     have hdrop:R.drop j=run::R.drop (j+1):=by
      rw [List.drop_eq_getElem_cons (by have:=HRN.out;omega),←hrun,List.getD_eq_getElem?_getD,List.getElem?_eq_getElem (by have:=HRN.out;omega)];rfl
     rw [hdrop,List.foldl_cons] at hF
     obtain⟨hne,hall,hlen⟩:=HROK.out run hmem
     obtain⟨L,hL⟩:∃L,run.length=L:=⟨_,rfl⟩
     have hLp:0<L:=by rw [←hL];exact List.length_pos_iff.2 hne
     rw [hL] at hlen
     obtain⟨Gv,cv,s,hv,hG1,hG2,hcell,_,_,hs,_,_⟩:=rel.nest.elem j (by have:=HRN.out;omega)
     rw [hrun,hL] at hs
     obtain⟨ra,rc,rfl,hrc1,hrc2⟩:=own_slice hs
     obtain⟨Gr,hra,hGrB,hGrl,_⟩:=own_cells hs hLp
     subst hra
     have hRR:Rd .i64 V (some ⟨Gr,0,none⟩) (ints run):=(own_out hs hL).rd
     rw [HRN.out] at hv
     cases hv
     have HREL:=lh rel
     have HF:=lh hF
     have HLr:=lh hL
     have HALL:=lh hall
     have HNE:=lh hne
     have g0:(0:Int)≤(j:Int):=by omega
     have g1:(j:Int)<(RN:Int):=by omega
     clear rel hF hdrop hrun hmem hs hL hall hne
     go_upto_region 6 with (fail)
     have hmk21:=run_make_row (P:=Tryz.prog) 137 21 i21 (.int .i32 0) Tryz.underlying137 hi21 hz21 ha21 rfl .i64 .i64 L (by rw [hb21];omega) (by omega)
     have hmk40:=run_make_row (P:=Tryz.prog) 103 22 i40 (.int .i8 0) Tryz.underlying103 hi40 hz40 ha40 rfl .i64 .i64 L (by rw [hb40];omega) (by omega)
     go_cut [12,13] (fun v12 v13 wx=>∃C D,v12=.slice (some ⟨C,0,none⟩) L L∧v13=.slice (some ⟨D,0,none⟩) L L∧C≠D∧OutAt .i32 21 wx V.heap.size (some ⟨C,0,none⟩) L (dealF (ith cs) run 0)∧OutAt .i8 22 wx V.heap.size (some ⟨D,0,none⟩) L (dealF (ith kin) run 0)∧Below V.heap.size V wx)
     case first =>
      clear hcell
      go_region
      all_goals go_wp2_with (fail)
      ·go_meet
       obtain⟨m1,m2,m3⟩:=made_two V .i32 .i8 21 22 L (ith cs) (ith kin) run HLr.out (by omega)
       exact⟨V.heap.size,V.heap.size+1,rfl,rfl,by omega,m1,m2,m3⟩
      ·go_meet
       obtain⟨m1,m2,m3⟩:=made_two V .i8 .i32 22 21 L (ith kin) (ith cs) run HLr.out (by omega)
       exact⟨V.heap.size+1,V.heap.size,rfl,rfl,by omega,m2,m1,m3⟩
     case rest =>
      obtain⟨C,D,rfl,rfl,hCD,hOC,hOD,hbV⟩:=hcut
      have HOC:=lh hOC
      have HOD:=lh hOD
      have HBV:=lh hbV
      clear hOC hOD hbV hcell hmk21 hmk40
      obtain⟨V2,hV2⟩:∃V2,V2=wc:=⟨_,rfl⟩
      subst hV2
      have hBV:B<V.heap.size:=by have:=HREL.out.sz;omega
      go_upto_block 2 with (fail)
      go_cut [14,15] (fun _ _ wx=>OutAt .i32 21 wx V.heap.size (some ⟨C,0,none⟩) L (run.map (ith cs))∧OutAt .i8 22 wx V.heap.size (some ⟨D,0,none⟩) L (run.map (ith kin))∧Below V.heap.size V wx)
      case first =>
       go_wp2_with (fail)
       go_loopw [14,15,49] (fun _ _ u wx=>∃i:Nat,i≤L∧u=.int .i64 i∧OutAt .i32 21 wx V.heap.size (some ⟨C,0,none⟩) L (dealF (ith cs) run i)∧OutAt .i8 22 wx V.heap.size (some ⟨D,0,none⟩) L (dealF (ith kin) run i)∧Below V.heap.size V wx) (fun _ _ u _=>L-(intOf u).toNat)
       case atStart=>exact⟨0,by omega,rfl,HOC.out,HOD.out,HBV.out⟩
       case round =>
        obtain⟨i,hi,rfl,hOC,hOD,hbV⟩:=hrel
        clear HOC HOD HBV
        by_cases hlt:i<L
        ·obtain⟨p,hp⟩:∃p,run.getD i 0=p:=⟨_,rfl⟩
         have hpn:p<n:=HALL.out p (by rw [←hp,List.getD_eq_getElem?_getD,List.getElem?_eq_getElem (by have:=HLr.out;omega)];exact List.getElem_mem _)
         have hsV:=hbV.size
         have hsV1:w1.heap.size=B:=HB.out
         have hBw:Below B w1 wr:=HREL.out.bel.trans (hbV.mono (by omega))
         obtain⟨Gr',ro,hra,hGr,hpc⟩:=hRR.at hbV i (by rw [ints_len,HLr.out];exact hlt)
         cases hra
         obtain⟨Gc,co,hca,hGc,hcc⟩:=hc.at (HB1.out.trans (hBw.mono hwB)) p (by rw [HL.out];exact hpn)
         subst hca
         obtain⟨Gk,ko,hka,hGk,hkc⟩:=HRD.out.2.at (by rw [hsV1];exact hBw) p (by rw [HOK.out.2.1];exact hpn)
         subst hka
         obtain⟨C',hC',hC1,_,hXC,hFC,_,_⟩:=hOC.at i (by rw [dealF_len _ _ _ (by rw [HLr.out];exact hi),HLr.out];exact hlt)
         cases hC'
         obtain⟨D',hD',hD1,_,hXD,hFD,_,_⟩:=hOD.at i (by rw [dealF_len _ _ _ (by rw [HLr.out];exact hi),HLr.out];exact hlt)
         cases hD'
         rw [ith_ints,hp,Nat.zero_add] at hpc
         obtain⟨x1,hx1⟩:∃x1,ith cs p=x1:=⟨_,rfl⟩
         obtain⟨x2,hx2⟩:∃x2,ith kin p=x2:=⟨_,rfl⟩
         generalize ith (dealF (ith cs) run i) i=v1 at hXC
         generalize ith (dealF (ith kin) run i) i=v2 at hXD
         rw [hx1] at hcc
         rw [hx2] at hkc
         have hn1:=dealF_next (ith cs) run i (by rw [HLr.out];exact hlt)
         have hn2:=dealF_next (ith kin) run i (by rw [HLr.out];exact hlt)
         rw [hp,hx1] at hn1
         rw [hp,hx2] at hn2
         have hS1:=hOC.set i x1
         have hS2:=hOD.set i x2
         rw [hn1] at hS1
         rw [hn2] at hS2
         have HA1:=lh (out_other (D:=D) (i:=i) hS1 hCD (.int .i8 x2))
         have HA2:Hid (OutAt .i8 22 ((wr.setCell ⟨C,i,none⟩ (.int .i32 x1)).setCell ⟨D,i,none⟩ (.int .i8 x2)) V.heap.size (some ⟨D,0,none⟩) L (dealF (ith kin) run (i+1))):=lh (by
          have:=(out_other (D:=C) (i:=i) hOD (fun e=>hCD e.symm) (.int .i32 x1)).set i x2
          rwa [hn2] at this)
         have HA3:=lh (out_other (D:=C) (i:=i) hS2 (fun e=>hCD e.symm) (.int .i32 x1))
         have HA4:Hid (OutAt .i32 21 ((wr.setCell ⟨D,i,none⟩ (.int .i8 x2)).setCell ⟨C,i,none⟩ (.int .i32 x1)) V.heap.size (some ⟨C,0,none⟩) L (dealF (ith cs) run (i+1))):=lh (by
          have:=(out_other (D:=D) (i:=i) hOC hCD (.int .i8 x2)).set i x1
          rwa [hn1] at this)
         have HA5:=lh (((hbV.setCell (p:=⟨C,i,none⟩) hC1 (.int .i32 x1)).setCell (p:=⟨D,i,none⟩) hD1 (.int .i8 x2)).drew)
         have HA6:=lh (((hbV.setCell (p:=⟨D,i,none⟩) hD1 (.int .i8 x2)).setCell (p:=⟨C,i,none⟩) hC1 (.int .i32 x1)).drew)
         have e1:Gc≠C:=by omega
         have e2:Gc≠D:=by omega
         have e3:Gk≠C:=by omega
         have e4:Gk≠D:=by omega
         have e5:C≠Gc:=by omega
         have e6:D≠Gc:=by omega
         have e7:C≠Gk:=by omega
         have e8:D≠Gk:=by omega
         have e9:D≠C:=fun e=>hCD e.symm
         have gp0:(0:Int)≤(p:Int):=by omega
         have gp1:(p:Int)<(n:Int):=by omega
         have gi0:(0:Int)≤(i:Int):=by omega
         have gi1:(i:Int)<(L:Int):=by omega
         clear hOC hOD hbV hp hx1 hx2 hn1 hn2 hS1 hS2 hBw hsV1 hi
         go_upto_region 10 with (fail)
         go_region_held3 (fun w'=>w'.cell? ⟨Gc,co+p,none⟩=some (.int .i32 x1)∧w'.cell? ⟨Gk,ko+p,none⟩=some (.int .i8 x2)) (go_keep) (fail)
         all_goals go_wp2_with (fail)
         all_goals go_roundw
         all_goals first | (case rel=>first | exact⟨i+1,by omega,by go_num,HA1.out,HA2.out,HA5.out⟩ | exact⟨i+1,by omega,by go_num,HA4.out,HA3.out,HA6.out⟩) | (case measure=>simp [intOf];omega)
        ·have hie:i=L:=by omega
         subst hie
         rw [←HLr.out,dealF_all,HLr.out] at hOC hOD
         clear hi hlt
         go_wp2_with (fail)
         go_meet
         exact⟨hOC,hOD,hbV⟩
      case rest =>
       obtain⟨hOC,hOD,hbV⟩:=hcut
       obtain⟨V3,hV3⟩:∃V3,V3=wc:=⟨_,rfl⟩
       subst hV3
       have hsw1:w1.heap.size=B:=HB.out
       have hsV:=hbV.size
       have hBw:Below B w1 V3:=HREL.out.bel.trans (hbV.mono (by omega))
       have hWw:Below w.heap.size w V3:=HB1.out.trans (hBw.mono hwB)
       obtain⟨p0,hp0⟩:∃p0,run.getD 0 0=p0:=⟨_,rfl⟩
       have hp0n:p0<n:=HALL.out p0 (by rw [←hp0,List.getD_eq_getElem?_getD,List.getElem?_eq_getElem (by have:=HLr.out;omega)];exact List.getElem_mem _)
       obtain⟨Gr',ro,hra,hGr,hpc⟩:=hRR.at hbV 0 (by rw [ints_len,HLr.out];exact hLp)
       cases hra
       rw [ith_ints,hp0,Nat.add_zero] at hpc
       have hLR3:Rd .u8 V3 la (ints lev):=HRD.out.1.below (by rw [hsw1];exact hBw)
       obtain⟨Gl,lo,hla,hGl,hlc⟩:=hLR3.at (Below.refl _ _) p0 (by rw [ints_len,HOK.out.1];exact hp0n)
       subst hla
       obtain⟨X,hX⟩:∃X,lev.getD p0 0=X:=⟨_,rfl⟩
       rw [ith_ints,hX] at hlc
       have hX5:X≤125:=by rw [←hX];exact getD_le HOK.out.2.2.1 p0
       obtain⟨s1,hs1⟩:∃s1,(sidesI ds lev base run).1=s1:=⟨_,rfl⟩
       obtain⟨s2,hs2⟩:∃s2,(sidesI ds lev base run).2=s2:=⟨_,rfl⟩
       have hSI:=LSides_any da (some ⟨Gl,lo,none⟩) (some ⟨Gr,0,none⟩) ds lev run n dc lc rc L base V3 HDL.out HOK.out.1 HLr.out (hd.below hWw) hLR3 (hRR.below hbV) hLp hn (by omega) hnc hcm HALL.out hb HOK.out.2.2.1
       rw [hs1,hs2] at hSI
       have HSI:=lh hSI
       obtain⟨wk,hwk⟩:∃wk,weakF (run.map (ith kin)) s1=wk:=⟨_,rfl⟩
       have hWR:=fun W (hb:Below V3.heap.size V3 W)=>WResolve_any (some ⟨D,0,none⟩) (run.map (ith kin)) L s1 W (hOD.rd.below hb) (by rw [List.length_map,HLr.out];omega)
       unfold WeakPost at hWR
       rw [hwk,List.length_map,HLr.out] at hWR
       have HWR:=lh hWR
       have HOC:=lh hOC
       obtain⟨own,hown⟩:∃own,resI (run.map (ith cs)) wk X s1 s2=own:=⟨_,rfl⟩
       have hRO:runOut cs ds lev kin base run out=layRun X own run 0 out:=by
        rw [←hown,←hwk,←hs1,←hs2,←hX,←hp0];rfl
       have HF2:Hid ((R.drop (j+1)).foldl (fun out run=>runOut cs ds lev kin base run out) (layRun X own run 0 out)=FO):=lh (by rw [←hRO];exact HF.out)
       have HB3:=lh hbV
       have HOWN:=lh hown
       have g00:(0:Int)<(L:Int):=by omega
       have gp0:(0:Int)≤(p0:Int):=by omega
       have gp1:(p0:Int)<(n:Int):=by omega
       clear hOC hOD hbV hBw hWw hp0 hX hs1 hs2 hwk hSI hWR hown hRO HF HLV HRU HROK HFO HR hLR3
       go_upto_region 15 with (first
        | (go_at_call 158;refine HSI.out.mono ?_;rintro e w4 ⟨rfl,hb4⟩)
        | (go_at_call 160;refine (HWR.out w4 hb4).mono ?_;rintro e w5 ⟨ka5,kc5,rfl,hkl5,hKO5,hb5'⟩)
        | (go_at_call 159;refine (PResolve_at (some ⟨C,0,none⟩) ka5 (run.map (ith cs)) wk L L kc5 X s1 s2 w5 (by rw [List.length_map,HLr.out]) hkl5 (HOC.out.rd.below (hb4.trans (hb5'.mono hb4.size))) hKO5.rd (by omega) (Nat.le_refl _) (OutAt.cap hKO5 hkl5) hX5).mono ?_;rintro e w6 ⟨oa,oc,rfl,hol,hOO,hb6⟩))
       rw [HOWN.out] at hOO hol
       have HB6:Hid (Below V3.heap.size V3 w6):=lh (hb4.trans ((hb5'.mono hb4.size).trans (hb6.mono (by have:=hb4.size;have:=hb5'.size;omega))))
       have hPR6:ParRel w1 B n (.slice (some ⟨Gv,0,none⟩) RN vc) R out w6:=(HREL.out.keep HB3.out).keep HB6.out
       have hs35:B<w5.heap.size:=by have:=hb4.size;have:=hb5'.size;omega
       have hRR6:Rd .i64 w6 (some ⟨Gr,0,none⟩) (ints run):=hRR.below (HB3.out.trans (HB6.out.mono hsV))
       have hG0:w6.grownBy w6 (some B):=World.grownBy.refl _ _
       clear hb4 hb5' hb6 hKO5 hpc hlc HSI HWR
       go_wp2_with (fail)
       go_loopw [19,20,93] (fun _ _ u wx=>∃(i q:Nat) (out':List Nat),i+q=L∧u=.int .i64 i∧ParRel w1 B n (.slice (some ⟨Gv,0,none⟩) RN vc) R out' wx∧w6.grownBy wx (some B)∧layRun X own (run.drop i) i out'=layRun X own run 0 out) (fun _ _ u _=>L-(intOf u).toNat)
       case atStart=>exact⟨0,L,out,by omega,rfl,hPR6,hG0,by rw [List.drop_zero]⟩
       case round =>
        obtain⟨i,q,out',hiq,rfl,rel,hg,hF⟩:=hrel
        clear hPR6 hG0
        cases q with
        | zero =>
          have hie:i=L:=by omega
          have hF2:out'=layRun X own run 0 out:=by rw [←hF,hie,←HLr.out,List.drop_length];rfl
          subst hie
          rw [hF2] at rel
          have HC:=lh rel
          clear hF hF2 hiq rel
          go_wp2_with (fail)
          go_roundw
          case rel=>exact⟨j+1,m,layRun X own run 0 out,by omega,by go_num,HC.out,HF2.out⟩
          case measure=>simp [intOf];omega
        | succ q =>
          have hlt:i<L:=by omega
          obtain⟨p,hp⟩:∃p,run.getD i 0=p:=⟨_,rfl⟩
          have hpn:p<n:=HALL.out p (by rw [←hp,List.getD_eq_getElem?_getD,List.getElem?_eq_getElem (by have:=HLr.out;omega)];exact List.getElem_mem _)
          have hdrop:run.drop i=p::run.drop (i+1):=by
           rw [List.drop_eq_getElem_cons (by have:=HLr.out;omega),←hp,List.getD_eq_getElem?_getD,List.getElem?_eq_getElem (by have:=HLr.out;omega)];rfl
          obtain⟨Gr',ro,hra,hGr',hpc⟩:=(hRR6.far hg (by omega)).at (Below.refl _ _) i (by rw [ints_len,HLr.out];exact hlt)
          cases hra
          rw [ith_ints,hp,Nat.zero_add] at hpc
          have hOOx:=World.ownsRow.kept hOO hg (.inr fun e=>by have:=(World.ownsRow.lt hOO B e).1;omega)
          obtain⟨Go,hGo,_,_,hoc,_,_,_⟩:=OutAt.at hOOx i (by rw [hol];exact hlt)
          subst hGo
          obtain⟨k,hk⟩:∃k,ith own i=k:=⟨_,rfl⟩
          rw [hk] at hoc
          obtain⟨B',hB',_,_,hXo,hFo,_,_⟩:=rel.out_.at p (by rw [ints_len,rel.olen];exact hpn)
          cases hB'
          obtain⟨U,hU⟩:∃U,upI X k=U:=⟨_,rfl⟩
          have hU2:U≤2:=by rw [←hU];exact upI_le X k
          have HUP:Hid (∀W,Calls Tryz.prog 161 #[.int .u8 X,.int .i8 k] W fun e w'=>e=.returned (.int .u8 (U:Nat))∧W=w'):=lh fun W=>by rw [←hU];exact up_any X k W hX5
          rw [hdrop,layRun,hk,hU] at hF
          have HF:=lh hF
          have hst:=rel.set p (X+U)
          have hgs:=grown_set (i:=p) hg (.int .u8 ((X+U:Nat):Int))
          rw [Int.natCast_add] at hst hgs
          have HST:=lh hst
          have HGS:=lh hgs
          generalize ith (ints out') p=vo at hXo
          have gp0:(0:Int)≤(p:Int):=by omega
          have gp1:(p:Int)<(n:Int):=by omega
          have gi0:(0:Int)≤(i:Int):=by omega
          have gi1:(i:Int)<(L:Int):=by omega
          clear hF hdrop hp hk hU hst hgs rel hg hOOx
          go_wp2_with (go_at_call 161;refine (HUP.out _).mono ?_;rintro e w' ⟨rfl,hw'⟩;subst hw')
          go_roundw
          case rel=>exact⟨i+1,q,out'.set p (X+U),by omega,by go_num,HST.out,HGS.out,HF.out⟩
          case measure=>simp [intOf];omega
 case rest =>
  have HPR:=lh hcut
  obtain⟨FIN,hFIN⟩:∃FIN,tidyF ds base n 0 base FO=FIN:=⟨_,rfl⟩
  have HFIN:=lh hFIN
  clear hcut hPR0 hFIN HLV HRU
  go_wp2_with (fail)
  rw [HFIN.out]
  go_loopw [21,22,23,114] (fun u21 _ _ u wx=>∃(i m ahead:Nat) (out:List Nat),i+m=n∧u=.int .i64 i∧u21=.int .u8 (ahead:Nat)∧ParRel w1 B n (.slice va RN vc) R out wx∧tidyF ds base m i ahead out=FIN) (fun _ _ _ u _=>n-(intOf u).toNat)
  case atStart=>exact⟨0,n,base,FO,by omega,rfl,rfl,HPR.out,HFIN.out⟩
  case round =>
   obtain⟨i,m,ahead,out,him,rfl,rfl,rel,hF⟩:=hrel
   clear HPR
   cases m with
   | zero =>
     have hie:i=n:=by omega
     rw [tidyF] at hF
     subst hF hie
     have REL:=lh rel
     clear him rel
     go_wp2_with (fail)
     go_ret
     have r:=REL.out
     rw [HFIN.out]
     exact⟨_,_,rfl,r.olen,ownsRow_base r.out_ (by omega),HB1.out.trans (r.bel.mono hwB)⟩
   | succ m =>
     have hlt:i<n:=by omega
     have hsw1:w1.heap.size=B:=HB.out
     obtain⟨Gd,od,hda,hGd,hdc⟩:=hd.at (HB1.out.trans (rel.bel.mono hwB)) i (by rw [HDL.out];exact hlt)
     subst hda
     obtain⟨d,hd'⟩:∃d,ith ds i=d:=⟨_,rfl⟩
     rw [hd'] at hdc
     rw [tidyF,hd'] at hF
     obtain⟨lb,hlb⟩:∃lb,leftB d=lb:=⟨_,rfl⟩
     have HLB:Hid (∀W,Calls Tryz.prog 162 #[.int .i8 d] W fun e w'=>e=.returned (.bool lb)∧W=w'):=lh fun W=>by rw [←hlb];exact vleft_any d W
     rw [hlb] at hF
     obtain⟨B',hB',_,_,hXo,hFo,_,_⟩:=rel.out_.at i (by rw [ints_len,rel.olen];exact hlt)
     cases hB'
     rw [ith_ints] at hXo
     have HF:=lh hF
     have HS1:=lh (rel.set i ahead)
     have HS2:=lh (rel.set i base)
     have REL:=lh rel
     have hcl:wr.cell? ⟨B,i,none⟩=some (.int .u8 (out.getD i 0:Nat)):=hXo
     obtain⟨vo,hvo⟩:∃vo,out.getD i 0=vo:=⟨_,rfl⟩
     rw [hvo] at hXo HF
     have gi0:(0:Int)≤(i:Int):=by omega
     have gi1:(i:Int)<(n:Int):=by omega
     have c1:=cell_set hXo (.int .u8 (ahead:Nat))
     have c2:=cell_set hXo (.int .u8 (base:Nat))
     clear hF rel hd' hlb hcl hvo
     cases lb with
     | true =>
       clear c2
       go_wp2_with (go_at_call 162;refine (HLB.out _).mono ?_;rintro e w' ⟨rfl,hw'⟩;subst hw')
       go_roundw
       case rel=>exact⟨i+1,m,ahead,out.set i ahead,by omega,by go_num,rfl,HS1.out,by have:=HF.out;rwa [if_pos (by first | rfl | trivial)] at this⟩
       case measure=>simp [intOf];omega
     | false =>
       have e:=HF.out
       rw [if_neg (by simp)] at e
       clear c1
       by_cases h10:d=10
       ·rw [if_pos h10] at e
        subst h10
        have HE:=lh e
        clear e
        go_wp2_with (go_at_call 162;refine (HLB.out _).mono ?_;rintro e w' ⟨rfl,hw'⟩;subst hw')
        go_roundw
        case rel=>exact⟨i+1,m,base,out.set i base,by omega,by go_num,rfl,HS2.out,HE.out⟩
        case measure=>simp [intOf];omega
       ·rw [if_neg h10] at e
        have HE:=lh e
        have c10:(d==10)=false:=by simpa using h10
        clear e c2 h10
        go_wp2_with (go_at_call 162;refine (HLB.out _).mono ?_;rintro e w' ⟨rfl,hw'⟩;subst hw')
        go_roundw
        case rel=>exact⟨i+1,m,vo,out,by omega,by go_num,rfl,REL.out,HE.out⟩
        case measure=>simp [intOf];omega
end
end Go.Proofs.YtlmjbfncopbilaaGreatDoor
