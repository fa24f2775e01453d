/- Lemmas, part 2: no further condition than each states. -/
import Derived.Test.YtncplikdjcmoeaaGreatDoorQ01
namespace Go.Proofs.YtncplikdjcmoeaaGreatDoor
set_option linter.unusedVariables false
set_option linter.unusedSimpArgs false
set_option maxRecDepth 100000
set_option maxHeartbeats 4000000
section
open Go.RowKit Go.Great
def yCu:List (Int × Int):=[(0,0),(32,5),(33,6),(36,7),(37,6),(43,7),(44,6),(48,4),(58,6),(60,7),(63,6),(65,3),(91,6),(94,7),(95,6),(96,7),(97,3),(123,6),(124,7),(125,6),(126,7),(127,0),(160,5),(161,6),(162,7),(167,6),(168,7),(170,3),(171,6),(172,7),(173,1),(174,7),(178,6),(180,7),(181,3),(182,6),(184,7),(185,6),(186,3),(187,6),(192,3),(215,7),(216,3),(247,7),(248,3),(768,2),(880,3),(884,8),(886,3),(894,6),(895,3),(896,8),(902,3),(903,6),(904,3),(1154,8),(1155,2),(1162,3),(1367,8),(1377,3),(1416,8),(1417,6),(1419,8),(1425,2),(1470,6),(1471,2),(1472,6),(1473,2),(1475,6),(1476,2),(1478,6),(1479,2),(1480,8),(1488,3),(1523,6),(1525,8),(1548,6),(1550,8),(1552,2),(1563,6),(1564,1),(1565,6),(1568,3),(1611,2),(1632,4),(1642,6),(1646,3),(1648,2),(1649,3),(1748,6),(1749,3),(1750,2),(1757,3),(1759,2),(1765,3),(1767,2),(1769,3),(1770,2),(1774,3),(1776,4),(1786,3),(1789,8),(3585,3),(3633,2),(3634,3),(3636,2),(3643,3),(3655,2),(3663,8),(4256,3),(4608,8),(5760,5),(5761,8),(6832,2),(6912,8),(7616,2),(7680,3),(8192,5),(8203,1),(8208,6),(8232,5),(8234,1),(8239,5),(8240,6),(8287,5),(8288,1),(8298,8),(8352,7),(8400,2),(8448,7),(9676,6),(9677,7),(11264,3),(11744,8),(12288,5),(12289,6),(12292,8),(12293,3),(12296,6),(12320,8),(12330,2),(12334,8),(12353,3),(12441,2),(12443,3),(12544,8),(12549,3),(12687,8),(13312,3),(19904,8),(19968,3),(40960,8),(44032,3),(55204,8),(63744,3),(64256,8),(64285,3),(65020,8),(65024,2),(65040,8),(65056,2),(65072,8),(65136,3),(65277,8),(65279,1),(65280,8),(65281,6),(65296,4),(65306,6),(65313,3),(65339,6),(65345,3),(65371,6),(65382,3),(65501,8),(65532,7),(65534,8),(126976,7),(129792,8),(131072,3),(262142,8)]
theorem yKf:yCu.length=181:=by as_aux_lemma=>kernel_rfl
theorem kinds_any (r:Int) (w:World) :
 Calls Tryz.prog 164 #[.int .i32 r] w (yJd yCu (yAv r) w):=by
 refine calls_of_wp Tryz.func164 rfl ?_;refine yB4 192 (.int .i32 r) (by as_aux_lemma=>kernel_rfl) rfl (by as_aux_lemma=>kernel_rfl) fun i d e h0=>?_;apply wp_seq_k;intro j f;apply JX;refine yA4 rfl (some 2) rfl _ (.inr rfl) ?_;refine yA4 rfl (some 3) rfl _ (.inr rfl) ?_;apply wpList_nil;refine f _ _ ?_;refine yB4 192 (.int .i32 r) (by simp only [qi,d]) (by simp only [Act.defers_put',e]) (by rw [qg _ _ _ _ (by decide),qg _ _ _ _ (by decide),h0]) fun t a k l=>?_;clear f j h0 e d i;apply wp_seq_k;intro m g;apply JX;refine wpList_splitAt 181 (yNf 247 (yJs Tryz.f164) 5 yCu) (by as_aux_lemma=>kernel_rfl) ?_;refine yD7 247 (yJs Tryz.f164) (fun _ _=>by as_aux_lemma=>kernel_rfl) yCu 5 _ (by rw [yKf,a];decide) fun c b n o p=>?_;refine yBr rfl 276 247 181 _ yCu rfl 5 (some 186) rfl (by as_aux_lemma=>kernel_rfl) (by as_aux_lemma=>kernel_rfl) (by as_aux_lemma=>kernel_rfl) (by as_aux_lemma=>kernel_rfl) o ?_;refine yB5 rfl (some 4) rfl 276 rfl w.heap.size rfl (((Tryz.prog.info? 276).bind (·.zero)).getD undef) (by as_aux_lemma=>kernel_rfl) ?_;have h:(yy yCu).toArray.size=362:=by rw [qW,yCx,yKf]
 have u:w.heap.size<(w.alloc (.cells (((Tryz.prog.info? 276).bind (·.zero)).getD undef).cells 276)).heap.size:=by simp
 refine wpList_store_row rfl 276 (.tmp 4) (.tmp 186) rfl w.heap.size (yy yCu).toArray
  (qh _ _ _ (by simp only [qi,b,a];decide)) (by rw [qg _ _ _ _ (by decide),qh _ _ _ (by simp only [b,a];decide)])
  276 _ (JS w _) (by rw [h];as_aux_lemma=>kernel_rfl) (by rw [h];as_aux_lemma=>kernel_rfl) (yFk _) ?_
 apply wpList_nil;refine g _ _ ?_;clear g m;have q:((((c.put (some 186) (.agg (yy yCu).toArray)).put (some 4) (.pointer (some ⟨w,0,none⟩)))).put none undef).eval (.tmp 4)=.pointer (some ⟨w,0,none⟩) :=
  qh _ _ _ (by simp only [qi,b,a];decide)
 have s:((((c.put (some 186) (.agg (yy yCu).toArray)).put (some 4) (.pointer (some ⟨w,0,none⟩)))).put none undef).eval (.tmp 0)=.int .i32 r:=by
  show ((c.put (some 186) (.agg (yy yCu).toArray)).put (some 4) (.pointer (some ⟨w,0,none⟩))).eval (.tmp 0)=_;rw [qg _ _ _ _ (by decide),qg _ _ _ _ (by decide),p 0 (by decide),l]
 exact yH2 yCu 181 192 187 4 276 247 r w _ _ _ _ _ _ _ _ _ _ yKf (by decide) (by decide) (by simp only [qi,b,a]) (by simp only [Act.defers_put',n,k]) q s (by decide) (by decide)
  (by as_aux_lemma=>kernel_rfl) (by as_aux_lemma=>kernel_rfl) (setRow_heap _ _ _ _ _ _ (JS w _)) (yD0 w _ _) rfl
  rfl rfl rfl rfl rfl rfl rfl rfl (fun x=>by rw [execOp_call_go];simp) rfl rfl rfl rfl rfl rfl rfl rfl rfl rfl rfl rfl
theorem kinds_val (r:Int) (w:World):Calls Tryz.prog 164 #[.int .i32 r] w fun e w'=>∃x y:Int,x=yBh yCu (yAv r)∧0≤x∧x≤127∧e=.returned (.tuple #[.int .u8 x,.int .i32 y])∧Below w w w':=by
 refine (kinds_any r w).mono fun e w1 h=>?_;obtain⟨low,b,c,d,f,g⟩:=h;have i:yGa yCu=true:=by as_aux_lemma=>kernel_rfl
 have j:yF4 yCu=true:=by as_aux_lemma=>kernel_rfl
 have a:=yEf i low;exact⟨_,_,(yDy yCu low (yAv r) j b c d).symm,a.1,a.2,f,g⟩
def yA0:List (Int × Int):=[(0,0),(32,1),(127,0),(160,1),(161,3),(162,1),(164,3),(165,1),(167,3),(169,1),(173,0),(174,3),(175,1),(176,3),(181,1),(182,3),(187,1),(188,3),(192,1),(215,3),(216,1),(247,3),(248,1),(768,0),(880,1),(913,3),(938,1),(945,3),(970,1),(1040,3),(1104,1),(1155,0),(1162,1),(1425,0),(1470,1),(1471,0),(1472,1),(1473,0),(1475,1),(1476,0),(1478,1),(1479,0),(1480,1),(1552,0),(1563,1),(1564,0),(1565,1),(1611,0),(1632,1),(1648,0),(1649,1),(1750,0),(1757,1),(1759,0),(1765,1),(1767,0),(1769,1),(1770,0),(1774,1),(3633,0),(3634,1),(3636,0),(3643,1),(3655,0),(3663,1),(4352,2),(4448,0),(4608,1),(6832,0),(6912,1),(7616,0),(7680,1),(8203,0),(8208,3),(8215,1),(8216,3),(8222,1),(8224,3),(8232,1),(8234,0),(8239,1),(8240,3),(8252,1),(8288,0),(8298,1),(8400,0),(8448,1),(8592,3),(8602,1),(8704,3),(8960,1),(8986,2),(8988,1),(9001,2),(9003,1),(9193,2),(9204,1),(9312,3),(9451,1),(9472,3),(9676,1),(9677,3),(9682,1),(9733,3),(9735,1),(9748,2),(9750,1),(9800,2),(9812,1),(9824,3),(9832,1),(9917,2),(9919,1),(9989,2),(9990,1),(10060,2),(10061,1),(10067,2),(10072,1),(10133,2),(10136,1),(11088,2),(11089,1),(11904,2),(12330,0),(12334,2),(12351,1),(12353,2),(12441,0),(12443,2),(19904,1),(19968,2),(42192,1),(44032,2),(55204,1),(57344,3),(63744,2),(64256,1),(65024,0),(65040,1),(65056,0),(65072,2),(65136,1),(65279,0),(65280,1),(65281,2),(65377,1),(65504,2),(65511,1),(127744,2),(128592,1),(128640,2),(128768,1),(129280,2),(129792,1),(131072,2),(262142,1)]
theorem yIi:yA0.length=157:=by as_aux_lemma=>kernel_rfl
theorem widths_any (r:Int) (w:World) :
 Calls Tryz.prog 199 #[.int .i32 r] w (yJd yA0 (yAv r) w):=by
 refine calls_of_wp Tryz.func199 rfl ?_;refine yB4 168 (.int .i32 r) (by as_aux_lemma=>kernel_rfl) rfl (by as_aux_lemma=>kernel_rfl) fun i d e h0=>?_;apply wp_seq_k;intro j f;apply JX;refine yA4 rfl (some 2) rfl _ (.inr rfl) ?_;refine yA4 rfl (some 3) rfl _ (.inr rfl) ?_;apply wpList_nil;refine f _ _ ?_;refine yB4 168 (.int .i32 r) (by simp only [qi,d]) (by simp only [Act.defers_put',e]) (by rw [qg _ _ _ _ (by decide),qg _ _ _ _ (by decide),h0]) fun t a k l=>?_;clear f j h0 e d i;apply wp_seq_k;intro m g;apply JX;refine wpList_splitAt 157 (yNf 247 (yJs Tryz.f199) 5 yA0) (by as_aux_lemma=>kernel_rfl) ?_;refine yD7 247 (yJs Tryz.f199) (fun _ _=>by as_aux_lemma=>kernel_rfl) yA0 5 _ (by rw [yIi,a];decide) fun c b n o p=>?_;refine yBr rfl 301 247 157 _ yA0 rfl 5 (some 162) rfl (by as_aux_lemma=>kernel_rfl) (by as_aux_lemma=>kernel_rfl) (by as_aux_lemma=>kernel_rfl) (by as_aux_lemma=>kernel_rfl) o ?_;refine yB5 rfl (some 4) rfl 301 rfl w.heap.size rfl (((Tryz.prog.info? 301).bind (·.zero)).getD undef) (by as_aux_lemma=>kernel_rfl) ?_;have h:(yy yA0).toArray.size=314:=by rw [qW,yCx,yIi]
 have u:w.heap.size<(w.alloc (.cells (((Tryz.prog.info? 301).bind (·.zero)).getD undef).cells 301)).heap.size:=by simp
 refine wpList_store_row rfl 301 (.tmp 4) (.tmp 162) rfl w.heap.size (yy yA0).toArray
  (qh _ _ _ (by simp only [qi,b,a];decide)) (by rw [qg _ _ _ _ (by decide),qh _ _ _ (by simp only [b,a];decide)])
  301 _ (JS w _) (by rw [h];as_aux_lemma=>kernel_rfl) (by rw [h];as_aux_lemma=>kernel_rfl) (yFk _) ?_
 apply wpList_nil;refine g _ _ ?_;clear g m;have q:((((c.put (some 162) (.agg (yy yA0).toArray)).put (some 4) (.pointer (some ⟨w,0,none⟩)))).put none undef).eval (.tmp 4)=.pointer (some ⟨w,0,none⟩) :=
  qh _ _ _ (by simp only [qi,b,a];decide)
 have s:((((c.put (some 162) (.agg (yy yA0).toArray)).put (some 4) (.pointer (some ⟨w,0,none⟩)))).put none undef).eval (.tmp 0)=.int .i32 r:=by
  show ((c.put (some 162) (.agg (yy yA0).toArray)).put (some 4) (.pointer (some ⟨w,0,none⟩))).eval (.tmp 0)=_;rw [qg _ _ _ _ (by decide),qg _ _ _ _ (by decide),p 0 (by decide),l]
 exact yH2 yA0 157 168 163 4 301 247 r w _ _ _ _ _ _ _ _ _ _ yIi (by decide) (by decide) (by simp only [qi,b,a]) (by simp only [Act.defers_put',n,k]) q s (by decide) (by decide)
  (by as_aux_lemma=>kernel_rfl) (by as_aux_lemma=>kernel_rfl) (setRow_heap _ _ _ _ _ _ (JS w _)) (yD0 w _ _) rfl
  rfl rfl rfl rfl rfl rfl rfl rfl (fun x=>by rw [execOp_call_go];simp) rfl rfl rfl rfl rfl rfl rfl rfl rfl rfl rfl rfl
theorem widths_val (r:Int) (w:World):Calls Tryz.prog 199 #[.int .i32 r] w fun e w'=>∃x y:Int,x=yBh yA0 (yAv r)∧0≤x∧x≤127∧e=.returned (.tuple #[.int .u8 x,.int .i32 y])∧Below w w w':=by
 refine (widths_any r w).mono fun e w1 h=>?_;obtain⟨low,b,c,d,f,g⟩:=h;have i:yGa yA0=true:=by as_aux_lemma=>kernel_rfl
 have j:yF4 yA0=true:=by as_aux_lemma=>kernel_rfl
 have a:=yEf i low;exact⟨_,_,(yDy yA0 low (yAv r) j b c d).symm,a.1,a.2,f,g⟩
def yBn:List (Int × Int):=[(0,8),(9,1),(10,2),(14,8),(32,1),(33,4),(34,0),(40,3),(41,4),(42,0),(44,11),(45,6),(46,11),(48,10),(58,11),(60,0),(63,4),(64,0),(91,3),(92,0),(93,4),(94,0),(123,3),(124,0),(125,4),(126,0),(127,8),(133,2),(134,8),(160,5),(161,3),(162,0),(171,3),(172,0),(173,6),(174,0),(187,4),(188,0),(191,3),(192,0),(768,8),(880,0),(1155,8),(1162,0),(1418,6),(1419,0),(1425,8),(1470,6),(1471,8),(1472,0),(1473,8),(1475,0),(1476,8),(1478,0),(1479,8),(1480,0),(1548,11),(1549,0),(1552,8),(1563,4),(1564,8),(1565,0),(1567,4),(1568,0),(1611,8),(1632,10),(1642,0),(1643,11),(1645,0),(1648,8),(1649,0),(1750,8),(1757,0),(1759,8),(1765,0),(1767,8),(1769,0),(1770,8),(1774,0),(1776,10),(1786,0),(3633,8),(3634,0),(3636,8),(3643,0),(3655,8),(3663,0),(5760,1),(5761,0),(6832,8),(6912,0),(7616,8),(7680,0),(8192,1),(8199,5),(8200,1),(8203,9),(8204,8),(8205,12),(8206,8),(8208,6),(8209,0),(8210,6),(8213,0),(8216,3),(8217,4),(8218,3),(8219,0),(8220,3),(8221,4),(8222,3),(8223,0),(8232,2),(8234,8),(8239,5),(8240,0),(8249,3),(8250,4),(8251,0),(8287,1),(8288,5),(8289,8),(8298,0),(8400,8),(8448,0),(11904,7),(12288,1),(12289,4),(12291,7),(12296,3),(12297,4),(12298,3),(12299,4),(12300,3),(12301,4),(12302,3),(12303,4),(12304,3),(12305,4),(12306,7),(12308,3),(12309,4),(12310,3),(12311,4),(12312,3),(12313,4),(12314,3),(12315,4),(12316,7),(12330,8),(12334,7),(12352,0),(12353,7),(12441,8),(12443,7),(19904,0),(19968,7),(42192,0),(44032,7),(55204,0),(63744,7),(64256,0),(65024,8),(65040,0),(65056,8),(65072,0),(65279,5),(65280,0),(65281,4),(65282,7),(65288,3),(65289,4),(65290,7),(65292,4),(65293,7),(65294,4),(65295,7),(65296,10),(65306,4),(65308,7),(65311,4),(65312,7),(65339,3),(65340,7),(65341,4),(65342,7),(65371,3),(65372,7),(65373,4),(65374,7),(65375,3),(65376,4),(65377,0),(127744,7),(129792,0),(131072,7),(262142,0)]
theorem yIg:yBn.length=197:=by as_aux_lemma=>kernel_rfl
theorem breaks_any (r:Int) (w:World) :
 Calls Tryz.prog 135 #[.int .i32 r] w (yJd yBn (yAv r) w):=by
 refine calls_of_wp Tryz.func135 rfl ?_;refine yB4 208 (.int .i32 r) (by as_aux_lemma=>kernel_rfl) rfl (by as_aux_lemma=>kernel_rfl) fun i d e h0=>?_;apply wp_seq_k;intro j f;apply JX;refine yA4 rfl (some 2) rfl _ (.inr rfl) ?_;refine yA4 rfl (some 3) rfl _ (.inr rfl) ?_;apply wpList_nil;refine f _ _ ?_;refine yB4 208 (.int .i32 r) (by simp only [qi,d]) (by simp only [Act.defers_put',e]) (by rw [qg _ _ _ _ (by decide),qg _ _ _ _ (by decide),h0]) fun t a k l=>?_;clear f j h0 e d i;apply wp_seq_k;intro m g;apply JX;refine wpList_splitAt 197 (yNf 247 (yJs Tryz.f135) 5 yBn) (by as_aux_lemma=>kernel_rfl) ?_;refine yD7 247 (yJs Tryz.f135) (fun _ _=>by as_aux_lemma=>kernel_rfl) yBn 5 _ (by rw [yIg,a];decide) fun c b n o p=>?_;refine yBr rfl 248 247 197 _ yBn rfl 5 (some 202) rfl (by as_aux_lemma=>kernel_rfl) (by as_aux_lemma=>kernel_rfl) (by as_aux_lemma=>kernel_rfl) (by as_aux_lemma=>kernel_rfl) o ?_;refine yB5 rfl (some 4) rfl 248 rfl w.heap.size rfl (((Tryz.prog.info? 248).bind (·.zero)).getD undef) (by as_aux_lemma=>kernel_rfl) ?_;have h:(yy yBn).toArray.size=394:=by rw [qW,yCx,yIg]
 have u:w.heap.size<(w.alloc (.cells (((Tryz.prog.info? 248).bind (·.zero)).getD undef).cells 248)).heap.size:=by simp
 refine wpList_store_row rfl 248 (.tmp 4) (.tmp 202) rfl w.heap.size (yy yBn).toArray
  (qh _ _ _ (by simp only [qi,b,a];decide)) (by rw [qg _ _ _ _ (by decide),qh _ _ _ (by simp only [b,a];decide)])
  248 _ (JS w _) (by rw [h];as_aux_lemma=>kernel_rfl) (by rw [h];as_aux_lemma=>kernel_rfl) (yFk _) ?_
 apply wpList_nil;refine g _ _ ?_;clear g m;have q:((((c.put (some 202) (.agg (yy yBn).toArray)).put (some 4) (.pointer (some ⟨w,0,none⟩)))).put none undef).eval (.tmp 4)=.pointer (some ⟨w,0,none⟩) :=
  qh _ _ _ (by simp only [qi,b,a];decide)
 have s:((((c.put (some 202) (.agg (yy yBn).toArray)).put (some 4) (.pointer (some ⟨w,0,none⟩)))).put none undef).eval (.tmp 0)=.int .i32 r:=by
  show ((c.put (some 202) (.agg (yy yBn).toArray)).put (some 4) (.pointer (some ⟨w,0,none⟩))).eval (.tmp 0)=_;rw [qg _ _ _ _ (by decide),qg _ _ _ _ (by decide),p 0 (by decide),l]
 exact yH2 yBn 197 208 203 4 248 247 r w _ _ _ _ _ _ _ _ _ _ yIg (by decide) (by decide) (by simp only [qi,b,a]) (by simp only [Act.defers_put',n,k]) q s (by decide) (by decide)
  (by as_aux_lemma=>kernel_rfl) (by as_aux_lemma=>kernel_rfl) (setRow_heap _ _ _ _ _ _ (JS w _)) (yD0 w _ _) rfl
  rfl rfl rfl rfl rfl rfl rfl rfl (fun x=>by rw [execOp_call_go];simp) rfl rfl rfl rfl rfl rfl rfl rfl rfl rfl rfl rfl
theorem breaks_val (r:Int) (w:World):Calls Tryz.prog 135 #[.int .i32 r] w fun e w'=>∃x y:Int,x=yBh yBn (yAv r)∧0≤x∧x≤127∧e=.returned (.tuple #[.int .u8 x,.int .i32 y])∧Below w w w':=by
 refine (breaks_any r w).mono fun e w1 h=>?_;obtain⟨low,b,c,d,f,g⟩:=h;have i:yGa yBn=true:=by as_aux_lemma=>kernel_rfl
 have j:yF4 yBn=true:=by as_aux_lemma=>kernel_rfl
 have a:=yEf i low;exact⟨_,_,(yDy yBn low (yAv r) j b c d).symm,a.1,a.2,f,g⟩
def yDn (r:Int):Int:=yBh yCu (yAv r)
def yEn (r:Int):Int:=yBh yBn (yAv r)
def yHr (r:Int) (amb:Bool):Int:=if yBh yA0 (yAv r)<3 then yBh yA0 (yAv r) else if amb then 2 else 1
theorem yIk (r:Int) (w:World) :
 Calls Tryz.prog 119 #[.int .i32 r] w fun e w'=>e=.returned (.int .i8 (yDn r))∧Below w w w':=by
 go_enter Tryz.func119,Tryz.ntmps119;go_wp2_with (go_at_call 164;refine (kinds_val r w).mono ?_;rintro e w1 ⟨x,y,rfl,h0,b,rfl,a⟩);go_ret;exact⟨yK rfl,a⟩
theorem yJl (r:Int) (w:World) :
 Calls Tryz.prog 96 #[.int .i32 r] w fun e w'=>e=.returned (.int .i8 (yEn r))∧Below w w w':=by
 go_enter Tryz.func96,Tryz.ntmps96;go_wp2_with (go_at_call 135;refine (breaks_val r w).mono ?_;rintro e w1 ⟨x,y,rfl,h0,b,rfl,a⟩);go_ret;exact⟨yK rfl,a⟩
theorem Wide_any (r:Int) (a:Bool) (w:World) :
 Calls Tryz.prog 165 #[.int .i32 r,a] w fun e w'=>e=.returned (.int .i64 (yHr r a))∧Below w w w':=by
 obtain⟨V,b⟩:=nm (yHr r a);rw [b];have h:=lh b;clear b;go_enter Tryz.func165,Tryz.ntmps165;go_upto_block 0 with (go_at_call 199;refine (widths_val r w).mono ?_;rintro e w1 ⟨x,y,f,h0,i,rfl,c⟩;have g:V=(if x<3 then x else if a then 2 else 1):=(by rw [←h.out];unfold yHr;rw [←f]);have d:=lh g;clear g f);by_cases j:x<3
 ·go_wp2;go_ret;exact⟨yK (by rw [d.out,Zg (by omega)]),c⟩
 ·cases a with
  | true =>
    go_wp2;go_ret;exact⟨yK (by rw [d.out,Zf (by omega)];rfl),c⟩
  | false =>
    go_wp2;go_ret;exact⟨yK (by rw [d.out,Zf (by omega)];rfl),c⟩
end
section
def yAh (s:ByteArray):Int:=((Lib.decodeGo s).1:Int)
def yAa (s:ByteArray):Nat:=(Lib.decodeGo s).2
def yA9 (r:Int):Bool:=decide (127462≤r)&&decide (r≤127487)
def yB7 (r:Int):Bool:=decide (r=8204)||decide (r=8205)
def yGe (r:Int):Bool:=decide (yDn r=7)&&decide (yHr r false=2)
def yP6 (r:Int):Bool:=if yDn r=0 then true else if yDn r=1 then !yB7 r else decide (r=8232)||decide (r=8233)
def partI (r:Int):Nat :=
 if r<4352∨55203<r then 0 else if r≤4447 then 1 else if r≤4519 then 2 else if r≤4607 then 4 else if r<44032 then 0 else if (r-44032) % 28=0 then 8 else 16
def nextP (a:Nat):Nat:=if a=1 then 27 else if a=2∨a=8 then 6 else if a=4∨a=16 then 4 else 0
def goesB (a b:Int):Bool:=decide (nextP (partI a) &&& partI b≠0)
def goesOn (x z y:Int) (n:Nat):Bool :=
 decide (yDn y=2)||yB7 y||(decide (n=1)&&yA9 x&&yA9 y)||(decide (z=8205)&&yGe x&&yGe y)||goesB z y
def yFr (x:Int) (s:ByteArray):Nat→Nat→Int→Nat→Nat
 | 0,_,_,at'=>at'
 | f+1,n,z,at' =>
   if at'=s.size∨(yAh (s.extract at' s.size)=65533∧yAa (s.extract at' s.size)=1) then at'
   else if goesOn x z (yAh (s.extract at' s.size)) n=true then yFr x s f (n+1) (yAh (s.extract at' s.size)) (at'+yAa (s.extract at' s.size)) else at'
def nextI (s:ByteArray):Nat :=
 if s.size=0 then 0
 else if (yAh s=65533∧yAa s=1)∨yP6 (yAh s)=true then (if yAh s=13∧1<s.size∧s.get! 1=10 then 2 else yAa s)
 else yFr (yAh s) s 31 1 (yAh s) (yAa s)
def piecesF (s:ByteArray):Nat→Nat→List (Nat × ByteArray)
 | 0,_=>[]
 | f+1,at'=>if at'<s.size then (at',s.extract at' (at'+nextI (s.extract at' s.size)))::piecesF s f (at'+nextI (s.extract at' s.size)) else []
def yF (s:ByteArray):List (Nat × ByteArray):=piecesF s s.size 0
def yz (c:ByteArray):Int:=if yEn (yAh c)=8∨(yAh c=65533∧yAa c=1) then 0 else yEn (yAh c)
def yNz (a b solid:Int):Int :=
 if a=2 then 2
 else if b=2∨b=1∨b=9 then 0
 else if solid=9 then 1
 else if a=12∨b=12∨a=5 then 0
 else if b=5∧a≠1∧a≠6 then 0
 else if b=4∨solid=3 then 0
 else if b=11∧a≠1 then 0
 else if a=1 then 1
 else if b=6 then 0
 else if a=6∧b=10 then 0
 else if a=6 then 1
 else if a=7∨b=7 then 1
 else 0
def yHk:List Int→Int→Int→List Int
 | [],a,_=>[if a=2 then 2 else 0]
 | b::t,a,solid=>yNz a b solid::yHk t b (if b=1 then solid else b)
def ye (s:ByteArray):List Int:=match (yF s).map (fun p=>yz p.2) with
 | []=>[]
 | k::t=>yHk t k (if k=1 then -1 else k)
end
end Go.Proofs.YtncplikdjcmoeaaGreatDoor
