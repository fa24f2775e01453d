/- Part 5 (merged by a program): lemmas of no further condition than each states. -/
import Derived.IntWalk
import Derived.Deep.RegionHeld3
import Derived.Deep.RegionLaw
import Derived.Deep.CutBlock
import Derived.Shelf.Unicode.DecodeSlow
import Derived.Test.YtlmjbfncopbilaaGreatDoorK04
namespace Go.Proofs.YtlmjbfncopbilaaGreatDoor
set_option linter.unusedVariables false
set_option linter.unusedSimpArgs false
section
open Go.RowKit Go.Great
def kindsT:List (Int × Int):=[(0,0),(32,5),(33,6),(36,7),(37,6),(43,7),(44,6),(48,4),(58,6),(60,7),(63,6),(65,3),(91,6),(94,7),(95,6),(96,7),(97,3),(123,6),(124,7),(125,6),(126,7),(127,0),(160,5),(161,6),(162,7),(167,6),(168,7),(170,3),(171,6),(172,7),(173,1),(174,7),(178,6),(180,7),(181,3),(182,6),(184,7),(185,6),(186,3),(187,6),(192,3),(215,7),(216,3),(247,7),(248,3),(768,2),(880,3),(884,8),(886,3),(894,6),(895,3),(896,8),(902,3),(903,6),(904,3),(1154,8),(1155,2),(1162,3),(1367,8),(1377,3),(1416,8),(1417,6),(1419,8),(1425,2),(1470,6),(1471,2),(1472,6),(1473,2),(1475,6),(1476,2),(1478,6),(1479,2),(1480,8),(1488,3),(1523,6),(1525,8),(1548,6),(1550,8),(1552,2),(1563,6),(1564,1),(1565,6),(1568,3),(1611,2),(1632,4),(1642,6),(1646,3),(1648,2),(1649,3),(1748,6),(1749,3),(1750,2),(1757,3),(1759,2),(1765,3),(1767,2),(1769,3),(1770,2),(1774,3),(1776,4),(1786,3),(1789,8),(3585,3),(3633,2),(3634,3),(3636,2),(3643,3),(3655,2),(3663,8),(4256,3),(4608,8),(5760,5),(5761,8),(6832,2),(6912,8),(7616,2),(7680,3),(8192,5),(8203,1),(8208,6),(8232,5),(8234,1),(8239,5),(8240,6),(8287,5),(8288,1),(8298,8),(8352,7),(8400,2),(8448,7),(9676,6),(9677,7),(11264,3),(11744,8),(12288,5),(12289,6),(12292,8),(12293,3),(12296,6),(12320,8),(12330,2),(12334,8),(12353,3),(12441,2),(12443,3),(12544,8),(12549,3),(12687,8),(13312,3),(19904,8),(19968,3),(40960,8),(44032,3),(55204,8),(63744,3),(64256,8),(64285,3),(65020,8),(65024,2),(65040,8),(65056,2),(65072,8),(65136,3),(65277,8),(65279,1),(65280,8),(65281,6),(65296,4),(65306,6),(65313,3),(65339,6),(65345,3),(65371,6),(65382,3),(65501,8),(65532,7),(65534,8),(126976,7),(129792,8),(131072,3),(262142,8)]
theorem kindsT_len:kindsT.length=181:=by as_aux_lemma=>kernel_rfl
set_option maxRecDepth 1000000 in
set_option maxHeartbeats 1000000 in
theorem kinds_any (r:Int) (w:World) :
 Calls Tryz.prog 148 #[.int .i32 r] w (TabPost kindsT (known r) w):=by
 refine calls_of_wp Tryz.func148 rfl ?_
 refine wp_frame0 192 (.int .i32 r) (by as_aux_lemma=>kernel_rfl) rfl (by as_aux_lemma=>kernel_rfl) fun a0 hs0 hd0 h0=>?_
 apply wp_seq_k;intro K0 hK0
 apply wp_region_lit
 refine wpList_mv rfl (some 2) rfl _ (.inr rfl) ?_
 refine wpList_mv rfl (some 3) rfl _ (.inr rfl) ?_
 apply wpList_nil
 refine hK0 _ _ ?_
 refine wp_frame0 192 (.int .i32 r) (by simp only [Act.size_put,hs0]) (by simp only [Act.defers_put',hd0]) (by rw [Act.eval_put_ne _ _ _ _ (by decide),Act.eval_put_ne _ _ _ _ (by decide),h0]) fun a1 hs1 hd1 h1=>?_
 clear hK0 K0 h0 hd0 hs0 a0
 apply wp_seq_k;intro K1 hK1
 apply wp_region_lit
 refine wpList_splitAt 181 (stOps 248 (posOf Tryz.f148) 5 kindsT) (by as_aux_lemma=>kernel_rfl) ?_
 refine wpList_sts 248 (posOf Tryz.f148) (fun _ _=>by as_aux_lemma=>kernel_rfl) kindsT 5 _ (by rw [kindsT_len,hs1];decide) fun a2 hs2 hd2 hev hlow=>?_
 refine wpList_buildArr2 rfl 249 248 181 _ kindsT rfl 5 (some 186) rfl (by as_aux_lemma=>kernel_rfl) (by as_aux_lemma=>kernel_rfl) (by as_aux_lemma=>kernel_rfl) (by as_aux_lemma=>kernel_rfl) hev ?_
 refine wpList_allocZ rfl (some 4) rfl 249 rfl w.heap.size rfl (((Tryz.prog.info? 249).bind (·.zero)).getD undef) (by as_aux_lemma=>kernel_rfl) ?_
 have hc2:(tcells kindsT).toArray.size=362:=by rw [List.size_toArray,tcells_length,kindsT_len]
 have hb:w.heap.size<(w.alloc (.cells (((Tryz.prog.info? 249).bind (·.zero)).getD undef).cells 249)).heap.size:=by simp
 refine wpList_store_row rfl 249 (.tmp 4) (.tmp 186) rfl w.heap.size (tcells kindsT).toArray
  (Act.eval_put_same _ _ _ (by simp only [Act.size_put,hs2,hs1];decide)) (by rw [Act.eval_put_ne _ _ _ _ (by decide),Act.eval_put_same _ _ _ (by simp only [hs2,hs1];decide)])
  249 _ (heap_alloc_new w _) (by rw [hc2];as_aux_lemma=>kernel_rfl) (by rw [hc2];as_aux_lemma=>kernel_rfl) (tcells_one _) ?_
 apply wpList_nil
 refine hK1 _ _ ?_
 clear hK1 K1
 have hp:((((a2.put (some 186) (.agg (tcells kindsT).toArray)).put (some 4) (.pointer (some ⟨w.heap.size,0,none⟩)))).put none undef).eval (.tmp 4)=.pointer (some ⟨w.heap.size,0,none⟩) :=
  Act.eval_put_same _ _ _ (by simp only [Act.size_put,hs2,hs1];decide)
 have hr:((((a2.put (some 186) (.agg (tcells kindsT).toArray)).put (some 4) (.pointer (some ⟨w.heap.size,0,none⟩)))).put none undef).eval (.tmp 0)=.int .i32 r:=by
  show ((a2.put (some 186) (.agg (tcells kindsT).toArray)).put (some 4) (.pointer (some ⟨w.heap.size,0,none⟩))).eval (.tmp 0)=_
  rw [Act.eval_put_ne _ _ _ _ (by decide),Act.eval_put_ne _ _ _ _ (by decide),hlow 0 (by decide),h1]
 exact tab_tail kindsT 181 192 187 4 249 248 r w _ _ _ _ _ _ _ _ _ _ kindsT_len (by decide) (by decide) (by simp only [Act.size_put,hs2,hs1]) (by simp only [Act.defers_put',hd2,hd1]) hp hr (by decide) (by decide)
  (by as_aux_lemma=>kernel_rfl) (by as_aux_lemma=>kernel_rfl) (setRow_heap _ _ _ _ _ _ (heap_alloc_new w _)) (tab_below w _ _) rfl
  rfl rfl rfl rfl rfl rfl rfl rfl (fun x=>by rw [execOp_call_go];simp) rfl rfl rfl rfl rfl rfl rfl rfl rfl rfl rfl rfl
theorem kinds_val (r:Int) (w:World):Calls Tryz.prog 148 #[.int .i32 r] w fun e w'=>∃x y:Int,x=tabLook kindsT (known r)∧0≤x∧x≤127∧e=.returned (.tuple #[.int .u8 x,.int .i32 y])∧Below w.heap.size w w':=by
 refine (kinds_any r w).mono fun e w1 h=>?_
 obtain⟨low,h1,h2,h3,he,hb⟩:=h
 have hs:tabSmall kindsT=true:=by as_aux_lemma=>kernel_rfl
 have hr:risesB kindsT=true:=by as_aux_lemma=>kernel_rfl
 have hbd:=tabSmall_bd hs low
 exact⟨_,_,(tabLook_of kindsT low (known r) hr h1 h2 h3).symm,hbd.1,hbd.2,he,hb⟩
def widthsT:List (Int × Int):=[(0,0),(32,1),(127,0),(160,1),(161,3),(162,1),(164,3),(165,1),(167,3),(169,1),(173,0),(174,3),(175,1),(176,3),(181,1),(182,3),(187,1),(188,3),(192,1),(215,3),(216,1),(247,3),(248,1),(768,0),(880,1),(913,3),(938,1),(945,3),(970,1),(1040,3),(1104,1),(1155,0),(1162,1),(1425,0),(1470,1),(1471,0),(1472,1),(1473,0),(1475,1),(1476,0),(1478,1),(1479,0),(1480,1),(1552,0),(1563,1),(1564,0),(1565,1),(1611,0),(1632,1),(1648,0),(1649,1),(1750,0),(1757,1),(1759,0),(1765,1),(1767,0),(1769,1),(1770,0),(1774,1),(3633,0),(3634,1),(3636,0),(3643,1),(3655,0),(3663,1),(4352,2),(4448,0),(4608,1),(6832,0),(6912,1),(7616,0),(7680,1),(8203,0),(8208,3),(8215,1),(8216,3),(8222,1),(8224,3),(8232,1),(8234,0),(8239,1),(8240,3),(8252,1),(8288,0),(8298,1),(8400,0),(8448,1),(8592,3),(8602,1),(8704,3),(8960,1),(8986,2),(8988,1),(9001,2),(9003,1),(9193,2),(9204,1),(9312,3),(9451,1),(9472,3),(9676,1),(9677,3),(9682,1),(9733,3),(9735,1),(9748,2),(9750,1),(9800,2),(9812,1),(9824,3),(9832,1),(9917,2),(9919,1),(9989,2),(9990,1),(10060,2),(10061,1),(10067,2),(10072,1),(10133,2),(10136,1),(11088,2),(11089,1),(11904,2),(12330,0),(12334,2),(12351,1),(12353,2),(12441,0),(12443,2),(19904,1),(19968,2),(42192,1),(44032,2),(55204,1),(57344,3),(63744,2),(64256,1),(65024,0),(65040,1),(65056,0),(65072,2),(65136,1),(65279,0),(65280,1),(65281,2),(65377,1),(65504,2),(65511,1),(127744,2),(128592,1),(128640,2),(128768,1),(129280,2),(129792,1),(131072,2),(262142,1)]
theorem widthsT_len:widthsT.length=157:=by as_aux_lemma=>kernel_rfl
set_option maxRecDepth 1000000 in
set_option maxHeartbeats 1000000 in
theorem widths_any (r:Int) (w:World) :
 Calls Tryz.prog 181 #[.int .i32 r] w (TabPost widthsT (known r) w):=by
 refine calls_of_wp Tryz.func181 rfl ?_
 refine wp_frame0 168 (.int .i32 r) (by as_aux_lemma=>kernel_rfl) rfl (by as_aux_lemma=>kernel_rfl) fun a0 hs0 hd0 h0=>?_
 apply wp_seq_k;intro K0 hK0
 apply wp_region_lit
 refine wpList_mv rfl (some 2) rfl _ (.inr rfl) ?_
 refine wpList_mv rfl (some 3) rfl _ (.inr rfl) ?_
 apply wpList_nil
 refine hK0 _ _ ?_
 refine wp_frame0 168 (.int .i32 r) (by simp only [Act.size_put,hs0]) (by simp only [Act.defers_put',hd0]) (by rw [Act.eval_put_ne _ _ _ _ (by decide),Act.eval_put_ne _ _ _ _ (by decide),h0]) fun a1 hs1 hd1 h1=>?_
 clear hK0 K0 h0 hd0 hs0 a0
 apply wp_seq_k;intro K1 hK1
 apply wp_region_lit
 refine wpList_splitAt 157 (stOps 248 (posOf Tryz.f181) 5 widthsT) (by as_aux_lemma=>kernel_rfl) ?_
 refine wpList_sts 248 (posOf Tryz.f181) (fun _ _=>by as_aux_lemma=>kernel_rfl) widthsT 5 _ (by rw [widthsT_len,hs1];decide) fun a2 hs2 hd2 hev hlow=>?_
 refine wpList_buildArr2 rfl 294 248 157 _ widthsT rfl 5 (some 162) rfl (by as_aux_lemma=>kernel_rfl) (by as_aux_lemma=>kernel_rfl) (by as_aux_lemma=>kernel_rfl) (by as_aux_lemma=>kernel_rfl) hev ?_
 refine wpList_allocZ rfl (some 4) rfl 294 rfl w.heap.size rfl (((Tryz.prog.info? 294).bind (·.zero)).getD undef) (by as_aux_lemma=>kernel_rfl) ?_
 have hc2:(tcells widthsT).toArray.size=314:=by rw [List.size_toArray,tcells_length,widthsT_len]
 have hb:w.heap.size<(w.alloc (.cells (((Tryz.prog.info? 294).bind (·.zero)).getD undef).cells 294)).heap.size:=by simp
 refine wpList_store_row rfl 294 (.tmp 4) (.tmp 162) rfl w.heap.size (tcells widthsT).toArray
  (Act.eval_put_same _ _ _ (by simp only [Act.size_put,hs2,hs1];decide)) (by rw [Act.eval_put_ne _ _ _ _ (by decide),Act.eval_put_same _ _ _ (by simp only [hs2,hs1];decide)])
  294 _ (heap_alloc_new w _) (by rw [hc2];as_aux_lemma=>kernel_rfl) (by rw [hc2];as_aux_lemma=>kernel_rfl) (tcells_one _) ?_
 apply wpList_nil
 refine hK1 _ _ ?_
 clear hK1 K1
 have hp:((((a2.put (some 162) (.agg (tcells widthsT).toArray)).put (some 4) (.pointer (some ⟨w.heap.size,0,none⟩)))).put none undef).eval (.tmp 4)=.pointer (some ⟨w.heap.size,0,none⟩) :=
  Act.eval_put_same _ _ _ (by simp only [Act.size_put,hs2,hs1];decide)
 have hr:((((a2.put (some 162) (.agg (tcells widthsT).toArray)).put (some 4) (.pointer (some ⟨w.heap.size,0,none⟩)))).put none undef).eval (.tmp 0)=.int .i32 r:=by
  show ((a2.put (some 162) (.agg (tcells widthsT).toArray)).put (some 4) (.pointer (some ⟨w.heap.size,0,none⟩))).eval (.tmp 0)=_
  rw [Act.eval_put_ne _ _ _ _ (by decide),Act.eval_put_ne _ _ _ _ (by decide),hlow 0 (by decide),h1]
 exact tab_tail widthsT 157 168 163 4 294 248 r w _ _ _ _ _ _ _ _ _ _ widthsT_len (by decide) (by decide) (by simp only [Act.size_put,hs2,hs1]) (by simp only [Act.defers_put',hd2,hd1]) hp hr (by decide) (by decide)
  (by as_aux_lemma=>kernel_rfl) (by as_aux_lemma=>kernel_rfl) (setRow_heap _ _ _ _ _ _ (heap_alloc_new w _)) (tab_below w _ _) rfl
  rfl rfl rfl rfl rfl rfl rfl rfl (fun x=>by rw [execOp_call_go];simp) rfl rfl rfl rfl rfl rfl rfl rfl rfl rfl rfl rfl
theorem widths_val (r:Int) (w:World):Calls Tryz.prog 181 #[.int .i32 r] w fun e w'=>∃x y:Int,x=tabLook widthsT (known r)∧0≤x∧x≤127∧e=.returned (.tuple #[.int .u8 x,.int .i32 y])∧Below w.heap.size w w':=by
 refine (widths_any r w).mono fun e w1 h=>?_
 obtain⟨low,h1,h2,h3,he,hb⟩:=h
 have hs:tabSmall widthsT=true:=by as_aux_lemma=>kernel_rfl
 have hr:risesB widthsT=true:=by as_aux_lemma=>kernel_rfl
 have hbd:=tabSmall_bd hs low
 exact⟨_,_,(tabLook_of widthsT low (known r) hr h1 h2 h3).symm,hbd.1,hbd.2,he,hb⟩
def breaksT:List (Int × Int):=[(0,8),(9,1),(10,2),(14,8),(32,1),(33,4),(34,0),(40,3),(41,4),(42,0),(44,11),(45,6),(46,11),(48,10),(58,11),(60,0),(63,4),(64,0),(91,3),(92,0),(93,4),(94,0),(123,3),(124,0),(125,4),(126,0),(127,8),(133,2),(134,8),(160,5),(161,3),(162,0),(171,3),(172,0),(173,6),(174,0),(187,4),(188,0),(191,3),(192,0),(768,8),(880,0),(1155,8),(1162,0),(1418,6),(1419,0),(1425,8),(1470,6),(1471,8),(1472,0),(1473,8),(1475,0),(1476,8),(1478,0),(1479,8),(1480,0),(1548,11),(1549,0),(1552,8),(1563,4),(1564,8),(1565,0),(1567,4),(1568,0),(1611,8),(1632,10),(1642,0),(1643,11),(1645,0),(1648,8),(1649,0),(1750,8),(1757,0),(1759,8),(1765,0),(1767,8),(1769,0),(1770,8),(1774,0),(1776,10),(1786,0),(3633,8),(3634,0),(3636,8),(3643,0),(3655,8),(3663,0),(5760,1),(5761,0),(6832,8),(6912,0),(7616,8),(7680,0),(8192,1),(8199,5),(8200,1),(8203,9),(8204,8),(8205,12),(8206,8),(8208,6),(8209,0),(8210,6),(8213,0),(8216,3),(8217,4),(8218,3),(8219,0),(8220,3),(8221,4),(8222,3),(8223,0),(8232,2),(8234,8),(8239,5),(8240,0),(8249,3),(8250,4),(8251,0),(8287,1),(8288,5),(8289,8),(8298,0),(8400,8),(8448,0),(11904,7),(12288,1),(12289,4),(12291,7),(12296,3),(12297,4),(12298,3),(12299,4),(12300,3),(12301,4),(12302,3),(12303,4),(12304,3),(12305,4),(12306,7),(12308,3),(12309,4),(12310,3),(12311,4),(12312,3),(12313,4),(12314,3),(12315,4),(12316,7),(12330,8),(12334,7),(12352,0),(12353,7),(12441,8),(12443,7),(19904,0),(19968,7),(42192,0),(44032,7),(55204,0),(63744,7),(64256,0),(65024,8),(65040,0),(65056,8),(65072,0),(65279,5),(65280,0),(65281,4),(65282,7),(65288,3),(65289,4),(65290,7),(65292,4),(65293,7),(65294,4),(65295,7),(65296,10),(65306,4),(65308,7),(65311,4),(65312,7),(65339,3),(65340,7),(65341,4),(65342,7),(65371,3),(65372,7),(65373,4),(65374,7),(65375,3),(65376,4),(65377,0),(127744,7),(129792,0),(131072,7),(262142,0)]
theorem breaksT_len:breaksT.length=197:=by as_aux_lemma=>kernel_rfl
set_option maxRecDepth 1000000 in
set_option maxHeartbeats 1000000 in
theorem breaks_any (r:Int) (w:World) :
 Calls Tryz.prog 151 #[.int .i32 r] w (TabPost breaksT (known r) w):=by
 refine calls_of_wp Tryz.func151 rfl ?_
 refine wp_frame0 208 (.int .i32 r) (by as_aux_lemma=>kernel_rfl) rfl (by as_aux_lemma=>kernel_rfl) fun a0 hs0 hd0 h0=>?_
 apply wp_seq_k;intro K0 hK0
 apply wp_region_lit
 refine wpList_mv rfl (some 2) rfl _ (.inr rfl) ?_
 refine wpList_mv rfl (some 3) rfl _ (.inr rfl) ?_
 apply wpList_nil
 refine hK0 _ _ ?_
 refine wp_frame0 208 (.int .i32 r) (by simp only [Act.size_put,hs0]) (by simp only [Act.defers_put',hd0]) (by rw [Act.eval_put_ne _ _ _ _ (by decide),Act.eval_put_ne _ _ _ _ (by decide),h0]) fun a1 hs1 hd1 h1=>?_
 clear hK0 K0 h0 hd0 hs0 a0
 apply wp_seq_k;intro K1 hK1
 apply wp_region_lit
 refine wpList_splitAt 197 (stOps 248 (posOf Tryz.f151) 5 breaksT) (by as_aux_lemma=>kernel_rfl) ?_
 refine wpList_sts 248 (posOf Tryz.f151) (fun _ _=>by as_aux_lemma=>kernel_rfl) breaksT 5 _ (by rw [breaksT_len,hs1];decide) fun a2 hs2 hd2 hev hlow=>?_
 refine wpList_buildArr2 rfl 252 248 197 _ breaksT rfl 5 (some 202) rfl (by as_aux_lemma=>kernel_rfl) (by as_aux_lemma=>kernel_rfl) (by as_aux_lemma=>kernel_rfl) (by as_aux_lemma=>kernel_rfl) hev ?_
 refine wpList_allocZ rfl (some 4) rfl 252 rfl w.heap.size rfl (((Tryz.prog.info? 252).bind (·.zero)).getD undef) (by as_aux_lemma=>kernel_rfl) ?_
 have hc2:(tcells breaksT).toArray.size=394:=by rw [List.size_toArray,tcells_length,breaksT_len]
 have hb:w.heap.size<(w.alloc (.cells (((Tryz.prog.info? 252).bind (·.zero)).getD undef).cells 252)).heap.size:=by simp
 refine wpList_store_row rfl 252 (.tmp 4) (.tmp 202) rfl w.heap.size (tcells breaksT).toArray
  (Act.eval_put_same _ _ _ (by simp only [Act.size_put,hs2,hs1];decide)) (by rw [Act.eval_put_ne _ _ _ _ (by decide),Act.eval_put_same _ _ _ (by simp only [hs2,hs1];decide)])
  252 _ (heap_alloc_new w _) (by rw [hc2];as_aux_lemma=>kernel_rfl) (by rw [hc2];as_aux_lemma=>kernel_rfl) (tcells_one _) ?_
 apply wpList_nil
 refine hK1 _ _ ?_
 clear hK1 K1
 have hp:((((a2.put (some 202) (.agg (tcells breaksT).toArray)).put (some 4) (.pointer (some ⟨w.heap.size,0,none⟩)))).put none undef).eval (.tmp 4)=.pointer (some ⟨w.heap.size,0,none⟩) :=
  Act.eval_put_same _ _ _ (by simp only [Act.size_put,hs2,hs1];decide)
 have hr:((((a2.put (some 202) (.agg (tcells breaksT).toArray)).put (some 4) (.pointer (some ⟨w.heap.size,0,none⟩)))).put none undef).eval (.tmp 0)=.int .i32 r:=by
  show ((a2.put (some 202) (.agg (tcells breaksT).toArray)).put (some 4) (.pointer (some ⟨w.heap.size,0,none⟩))).eval (.tmp 0)=_
  rw [Act.eval_put_ne _ _ _ _ (by decide),Act.eval_put_ne _ _ _ _ (by decide),hlow 0 (by decide),h1]
 exact tab_tail breaksT 197 208 203 4 252 248 r w _ _ _ _ _ _ _ _ _ _ breaksT_len (by decide) (by decide) (by simp only [Act.size_put,hs2,hs1]) (by simp only [Act.defers_put',hd2,hd1]) hp hr (by decide) (by decide)
  (by as_aux_lemma=>kernel_rfl) (by as_aux_lemma=>kernel_rfl) (setRow_heap _ _ _ _ _ _ (heap_alloc_new w _)) (tab_below w _ _) rfl
  rfl rfl rfl rfl rfl rfl rfl rfl (fun x=>by rw [execOp_call_go];simp) rfl rfl rfl rfl rfl rfl rfl rfl rfl rfl rfl rfl
theorem breaks_val (r:Int) (w:World):Calls Tryz.prog 151 #[.int .i32 r] w fun e w'=>∃x y:Int,x=tabLook breaksT (known r)∧0≤x∧x≤127∧e=.returned (.tuple #[.int .u8 x,.int .i32 y])∧Below w.heap.size w w':=by
 refine (breaks_any r w).mono fun e w1 h=>?_
 obtain⟨low,h1,h2,h3,he,hb⟩:=h
 have hs:tabSmall breaksT=true:=by as_aux_lemma=>kernel_rfl
 have hr:risesB breaksT=true:=by as_aux_lemma=>kernel_rfl
 have hbd:=tabSmall_bd hs low
 exact⟨_,_,(tabLook_of breaksT low (known r) hr h1 h2 h3).symm,hbd.1,hbd.2,he,hb⟩
def kindI (r:Int):Int:=tabLook kindsT (known r)
def breakI (r:Int):Int:=tabLook breaksT (known r)
def wideI (r:Int) (amb:Bool):Int:=if tabLook widthsT (known r)<3 then tabLook widthsT (known r) else if amb then 2 else 1
set_option maxHeartbeats 400000 in
theorem Kind_any (r:Int) (w:World) :
 Calls Tryz.prog 107 #[.int .i32 r] w fun e w'=>e=.returned (.int .i8 (kindI r))∧Below w.heap.size w w':=by
 go_enter Tryz.func107,Tryz.ntmps107
 go_wp2_with (go_at_call 148;refine (kinds_val r w).mono ?_;rintro e w1 ⟨x,y,rfl,h0,h1,rfl,hb⟩)
 go_ret
 exact⟨ret_i rfl,hb⟩
set_option maxHeartbeats 400000 in
theorem Break_any (r:Int) (w:World) :
 Calls Tryz.prog 115 #[.int .i32 r] w fun e w'=>e=.returned (.int .i8 (breakI r))∧Below w.heap.size w w':=by
 go_enter Tryz.func115,Tryz.ntmps115
 go_wp2_with (go_at_call 151;refine (breaks_val r w).mono ?_;rintro e w1 ⟨x,y,rfl,h0,h1,rfl,hb⟩)
 go_ret
 exact⟨ret_i rfl,hb⟩
set_option maxHeartbeats 400000 in
theorem Wide_any (r:Int) (amb:Bool) (w:World) :
 Calls Tryz.prog 149 #[.int .i32 r,.bool amb] w fun e w'=>e=.returned (.int .i64 (wideI r amb))∧Below w.heap.size w w':=by
 obtain⟨V,hV⟩:∃V,wideI r amb=V:=⟨_,rfl⟩
 rw [hV]
 have HV:=lh hV
 clear hV
 go_enter Tryz.func149,Tryz.ntmps149
 go_upto_block 0 with (go_at_call 181;refine (widths_val r w).mono ?_;rintro e w1 ⟨x,y,hx,h0,h1,rfl,hb⟩;have hW:V=(if x<3 then x else if amb then 2 else 1):=(by rw [←HV.out];unfold wideI;rw [←hx]);have HW:=lh hW;clear hW hx)
 by_cases h3:x<3
 ·go_wp2_with (fail)
  go_ret
  exact⟨ret_i (by rw [HW.out,if_pos (by omega)]),hb⟩
 ·cases amb with
  | true =>
    go_wp2_with (fail)
    go_ret
    exact⟨ret_i (by rw [HW.out,if_neg (by omega)];rfl),hb⟩
  | false =>
    go_wp2_with (fail)
    go_ret
    exact⟨ret_i (by rw [HW.out,if_neg (by omega)];rfl),hb⟩
end
section
def decR (s:ByteArray):Int:=((Lib.decodeGo s).1:Int)
def decN (s:ByteArray):Nat:=(Lib.decodeGo s).2
def regionalB (r:Int):Bool:=decide (127462≤r)&&decide (r≤127487)
def joinerB (r:Int):Bool:=decide (r=8204)||decide (r=8205)
def pictureB (r:Int):Bool:=decide (kindI r=7)&&decide (wideI r false=2)
def aloneB (r:Int):Bool:=if kindI r=0 then true else if kindI r=1 then !joinerB r else decide (r=8232)||decide (r=8233)
def partI (r:Int):Nat :=
 if r<4352∨55203<r then 0 else if r≤4447 then 1 else if r≤4519 then 2 else if r≤4607 then 4 else if r<44032 then 0 else if (r-44032) % 28=0 then 8 else 16
def nextP (a:Nat):Nat:=if a=1 then 27 else if a=2∨a=8 then 6 else if a=4∨a=16 then 4 else 0
def goesB (a b:Int):Bool:=decide (nextP (partI a) &&& partI b≠0)
def goesOn (x z y:Int) (n:Nat):Bool :=
 decide (kindI y=2)||joinerB y||(decide (n=1)&&regionalB x&&regionalB y)||(decide (z=8205)&&pictureB x&&pictureB y)||goesB z y
def moreF (x:Int) (s:ByteArray):Nat→Nat→Int→Nat→Nat
 | 0,_,_,at'=>at'
 | f+1,n,z,at' =>
   if at'=s.size∨(decR (s.extract at' s.size)=65533∧decN (s.extract at' s.size)=1) then at'
   else if goesOn x z (decR (s.extract at' s.size)) n=true then moreF x s f (n+1) (decR (s.extract at' s.size)) (at'+decN (s.extract at' s.size)) else at'
def nextI (s:ByteArray):Nat :=
 if s.size=0 then 0
 else if (decR s=65533∧decN s=1)∨aloneB (decR s)=true then (if decR s=13∧1<s.size∧s.get! 1=10 then 2 else decN s)
 else moreF (decR s) s 31 1 (decR s) (decN s)
def piecesF (s:ByteArray):Nat→Nat→List (Nat × ByteArray)
 | 0,_=>[]
 | f+1,at'=>if at'<s.size then (at',s.extract at' (at'+nextI (s.extract at' s.size)))::piecesF s f (at'+nextI (s.extract at' s.size)) else []
def piecesI (s:ByteArray):List (Nat × ByteArray):=piecesF s s.size 0
end
end Go.Proofs.YtlmjbfncopbilaaGreatDoor
