/- Parts of one proof. Conditions: as each says. -/
import Derived.Test.YtepdklfkegkojaaGreatDoorGLetterNumbers0
import Derived.Test.YtepdklfkegkojaaGreatDoorGLetterNumbers21
import Derived.Test.YtepdklfkegkojaaGreatDoorGLetterNumbers8
set_option linter.all false
set_option maxHeartbeats 16000000
set_option maxRecDepth 100000
namespace Go.Proofs.YtepdklfkegkojaaGreatDoor
open Go.Proofs.Tryz
open Go.RowKit
theorem Aj (l:cQ):q6 l=true↔(hX l.term=true/\hX l.was=true/\hX l.index=true/\hX l.commit=true/\hX l.round=true):=by
 unfold q6;simp[List.all_cons,and_assoc]
theorem wH {e:En}(h:gV e):Bm e:=⟨aF h.args (by decide),aF h.vn (by decide)⟩
theorem CV {l:cQ}(h:1<=l.fr/\l.fr<=9/\1<=l.tov/\l.tov<=9)(hn:q6 l=false):fx l=false:=by
 rw[ut h];unfold pI;rw[hn];rfl
theorem Ak (l:cQ):xj l=true↔(l.index=0/\l.was=0/\l.ok=false/\l.commit=0/\l.round=0/\l.es.length=0/\l.vs.length=0/\l.im.length=0):=by
 unfold xj;simp only[Bool.and_eq_true,decide_eq_true_eq,Bool.not_eq_true']
theorem CW {es:List dX}(h:es.length=0):qt es=true:=by
 rw[wU h];rfl
theorem aaE {l:cQ}(h:1<=l.fr/\l.fr<=9/\1<=l.tov/\l.tov<=9)(hn:q6 l=true)(hk:l.kind=1):fx l=true↔(l.ok=false/\l.commit=0/\l.round=0/\l.es.length=0/\l.vs.length=0/\l.im.length=0):=by
 rw[ut h];unfold pI pG;rw[hn,if_pos hk];simp only[Bool.true_and,Bool.and_eq_true,Bool.or_eq_true,decide_eq_true_eq,Ak];constructor
 ·
  rintro⟨⟨h1,h2⟩,h3⟩;obtain⟨a,b,c,d,e,f,g,i⟩:=h3;exact⟨c,d,e,f,g,i⟩
 rintro⟨c,d,e,f,g,i⟩;exact⟨⟨CW f,Or.inl g⟩,⟨(by first|rfl|trivial),(by first|rfl|trivial),c,d,e,f,g,i⟩⟩
theorem aaF {l:cQ}(h:1<=l.fr/\l.fr<=9/\1<=l.tov/\l.tov<=9)(hn:q6 l=true)(hk:l.kind=2):fx l=true↔(l.index=0/\l.was=0/\l.commit=0/\l.round=0/\l.es.length=0/\l.vs.length=0/\l.im.length=0):=by
 rw[ut h];unfold pI pG;rw[hn,if_neg (by rw[hk];decide),if_pos hk];simp only[Bool.true_and,Bool.and_eq_true,Bool.or_eq_true,decide_eq_true_eq,Ak];constructor
 ·
  rintro⟨⟨h1,h2⟩,h3⟩;obtain⟨a,b,c,d,e,f,g,i⟩:=h3;exact⟨a,b,d,e,f,g,i⟩
 rintro⟨a,b,d,e,f,g,i⟩;exact⟨⟨CW f,Or.inl g⟩,⟨a,b,(by first|rfl|trivial),d,e,f,g,i⟩⟩
theorem I0 {l:cQ}(h:1<=l.fr/\l.fr<=9/\1<=l.tov/\l.tov<=9)(hn:q6 l=true)(hk:l.kind=3):fx l=true↔(qt l.es=true/\l.ok=false/\l.vs.length=0/\l.im.length=0):=by
 rw[ut h];unfold pI pG;rw[hn,if_neg (by rw[hk];decide),if_neg (by rw[hk];decide),if_pos hk];simp only[Bool.true_and,Bool.and_eq_true,Bool.or_eq_true,decide_eq_true_eq,Ak];constructor
 ·
  rintro⟨⟨h1,h2⟩,h3⟩;obtain⟨a,b,c,d,e,f,g,i⟩:=h3;exact⟨h1,c,g,i⟩
 rintro⟨h1,c,g,i⟩;exact⟨⟨h1,Or.inl g⟩,⟨(by first|rfl|trivial),(by first|rfl|trivial),c,(by first|rfl|trivial),(by first|rfl|trivial),(by first|rfl|trivial),g,i⟩⟩
theorem aaG {l:cQ}(h:1<=l.fr/\l.fr<=9/\1<=l.tov/\l.tov<=9)(hn:q6 l=true)(hk:l.kind=4):fx l=true↔(l.was=0/\l.commit=0/\l.es.length=0/\l.vs.length=0/\l.im.length=0):=by
 rw[ut h];unfold pI pG;rw[hn,if_neg (by rw[hk];decide),if_neg (by rw[hk];decide),if_neg (by rw[hk];decide),if_neg (by rw[hk];decide),if_pos hk];simp only[Bool.true_and,Bool.and_eq_true,Bool.or_eq_true,decide_eq_true_eq,Ak];constructor
 ·
  rintro⟨⟨h1,h2⟩,h3⟩;obtain⟨a,b,c,d,e,f,g,i⟩:=h3;exact⟨b,d,f,g,i⟩
 rintro⟨b,d,f,g,i⟩;exact⟨⟨CW f,Or.inl g⟩,⟨(by first|rfl|trivial),b,(by first|rfl|trivial),d,(by first|rfl|trivial),f,g,i⟩⟩
theorem I1 {l:cQ}(h:1<=l.fr/\l.fr<=9/\1<=l.tov/\l.tov<=9)(hn:q6 l=true)(hk:l.kind=5):fx l=true↔((l.vs.length=0∨kE l.vs=true)/\l.ok=false/\l.commit=0/\l.es.length=0):=by
 rw[ut h];unfold pI pG;rw[hn,if_neg (by rw[hk];decide),if_neg (by rw[hk];decide),if_neg (by rw[hk];decide),if_pos hk];simp only[Bool.true_and,Bool.and_eq_true,Bool.or_eq_true,decide_eq_true_eq,Ak];constructor
 ·
  rintro⟨⟨h1,h2⟩,h3⟩;obtain⟨a,b,c,d,e,f,g,i⟩:=h3;exact⟨h2,c,d,f⟩
 rintro⟨h2,c,d,f⟩;exact⟨⟨CW f,h2⟩,⟨(by first|rfl|trivial),(by first|rfl|trivial),c,d,(by first|rfl|trivial),f,(by first|rfl|trivial),(by first|rfl|trivial)⟩⟩
theorem aaH {l:cQ}(h:1<=l.fr/\l.fr<=9/\1<=l.tov/\l.tov<=9)(hn:q6 l=true)(hk:l.kind=6):fx l=true↔(l.was=0/\l.ok=false/\l.commit=0/\l.es.length=0/\l.vs.length=0/\l.im.length=0):=by
 rw[ut h];unfold pI pG;rw[hn,if_neg (by rw[hk];decide),if_neg (by rw[hk];decide),if_neg (by rw[hk];decide),if_neg (by rw[hk];decide),if_neg (by rw[hk];decide),if_pos hk];simp only[Bool.true_and,Bool.and_eq_true,Bool.or_eq_true,decide_eq_true_eq,Ak];constructor
 ·
  rintro⟨⟨h1,h2⟩,h3⟩;obtain⟨a,b,c,d,e,f,g,i⟩:=h3;exact⟨b,c,d,f,g,i⟩
 rintro⟨b,c,d,f,g,i⟩;exact⟨⟨CW f,Or.inl g⟩,⟨(by first|rfl|trivial),b,c,d,(by first|rfl|trivial),f,g,i⟩⟩
theorem aaI {l:cQ}(h:l.kind≠1/\l.kind≠2/\l.kind≠3/\l.kind≠4/\l.kind≠5/\l.kind≠6):fx l=false:=by
 have h2:(pG l).2=false:=by
  unfold pG;rw[if_neg h.1,if_neg h.2.1,if_neg h.2.2.1,if_neg h.2.2.2.2.1,if_neg h.2.2.2.1,if_neg h.2.2.2.2.2]
 by_cases hb:l.fr<1∨9<l.fr∨l.tov<1∨9<l.tov
 · exact uu hb
 rw[ut (by omega),h2,Bool.false_and,Bool.and_false]
theorem I3 (es:List dX):qt es=true↔((∀e∈es,jm e=true)/\es.length<=16):=by
 unfold qt;rw[Bool.and_eq_true,List.all_eq_true,decide_eq_true_eq]
def CX (b:Bool) (n:Nat) (es:List En):Prop:=b=true↔(n<=16/\∀e∈es,jm e.plain=true)
theorem PS (kd fr tt tm ix ws:Int)(ob:Bool)(cm rn:Int)(ea:Option Addr)(n ec:Nat)(va:Option Addr)(m vc:Nat)(ia:Option Addr)(q ic:Nat)(es:List En)(vs im:List Int)(w:World)
  (hn:es.length=n) (hm:vs.length=m) (hq:im.length=q) (hx:kV w w.heap.size ea es) (eR:gS w w.heap.size va vs) (oA:BytesIn w w.heap.size ia im) (hf:∀e∈es,gV e) (l1:n<=4000000) (l2:m<=4000000) (l3:q<=4000000) (l0:0<=kd/\kd<256) (g:Bool) (hg:fx ⟨kd,fr,tt,tm,ix,ws,ob,cm,rn,es.map En.plain,vs,im⟩=g) :
  Calls prog 12 #[.agg #[.int .u8 kd,.int .i64 fr,.int .i64 tt,.int .i64 tm,.int .i64 ix,.int .i64 ws,.bool ob,.int .i64 cm,.int .i64 rn,.slice ea n ec,.slice va m vc,.slice ia q ic]] w (qN g w):=by
 have ba:=(aj w.heap.size w).alloc (aa _) (.cells #[.int .u8 kd,.int .i64 fr,.int .i64 tt,.int .i64 tm,.int .i64 ix,.int .i64 ws,.bool ob,.int .i64 cm,.int .i64 rn,.slice ea n ec,.slice va m vc,.slice ia q ic] 32);have h1:=heap_alloc_new w (.cells #[.int .u8 kd,.int .i64 fr,.int .i64 tt,.int .i64 tm,.int .i64 ix,.int .i64 ws,.bool ob,.int .i64 cm,.int .i64 rn,.slice ea n ec,.slice va m vc,.slice ia q ic] 32);have bp:w.heap.size+1<=(w.alloc (.cells #[.int .u8 kd,.int .i64 fr,.int .i64 tt,.int .i64 tm,.int .i64 ix,.int .i64 ws,.bool ob,.int .i64 cm,.int .i64 rn,.slice ea n ec,.slice va m vc,.slice ia q ic] 32)).heap.size:=by simp
 have ev:=Hd ba;have H1:=Hd h1;have HZ:=Hd bp;have HN:=Hd hn;have HM:=Hd hm;have HQ:=Hd hq;have HX:=Hd hx;have oq:=Hd eR;have rU:=Hd oA;have HF:=Hd hf;have HG:=Hd hg;clear ba h1 bp hn hm hq hx eR oA hf hg;go_enter func12,ntmps12
 go_upto_region 1 with fail
 have ba:=ev.out;have h1:=H1.out;have bp:=HZ.out;clear ev H1 HZ;generalize w.alloc (.cells #[.int .u8 kd,.int .i64 fr,.int .i64 tt,.int .i64 tm,.int .i64 ix,.int .i64 ws,.bool ob,.int .i64 cm,.int .i64 rn,.slice ea n ec,.slice va m vc,.slice ia q ic] 32)=w1 at ba h1 bp ⊢;have H1:=Hd h1;have ev:=Hd ba;have c0:w1.cell? ⟨w.heap.size,0,none⟩=some (.int .u8 kd):=ab h1 0;have c1:w1.cell? ⟨w.heap.size,1,none⟩=some (.int .i64 fr):=ab h1 1;have c2:w1.cell? ⟨w.heap.size,2,none⟩=some (.int .i64 tt):=ab h1 2;have c3:w1.cell? ⟨w.heap.size,3,none⟩=some (.int .i64 tm):=ab h1 3;have c4:w1.cell? ⟨w.heap.size,4,none⟩=some (.int .i64 ix):=ab h1 4;have c5:w1.cell? ⟨w.heap.size,5,none⟩=some (.int .i64 ws):=ab h1 5;have c6:w1.cell? ⟨w.heap.size,6,none⟩=some (.bool ob):=ab h1 6;have c7:w1.cell? ⟨w.heap.size,7,none⟩=some (.int .i64 cm):=ab h1 7;have c8:w1.cell? ⟨w.heap.size,8,none⟩=some (.int .i64 rn):=ab h1 8;have c9:w1.cell? ⟨w.heap.size,9,none⟩=some (.slice ea n ec):=ab h1 9;have c10:w1.cell? ⟨w.heap.size,10,none⟩=some (.slice va m vc):=ab h1 10;have c11:w1.cell? ⟨w.heap.size,11,none⟩=some (.slice ia q ic):=ab h1 11;clear ba h1;by_cases h0:fr<1
 ·
  have ax:g=false:=by rw[<-HG.out];exact uu (Or.inl h0)
  have aZ:=Hd ax;have j0:decide (fr<1)=true:=decide_eq_true h0;clear ax;go_wp2_with fail
  go_ret;exact⟨dT aZ.out.symm,ev.out⟩
 have yl:1<=fr:=by omega
 have aaJ:decide (fr<1)=false:=decide_eq_false h0;clear h0;by_cases h0:9<fr
 ·
  have ax:g=false:=by rw[<-HG.out];exact uu (Or.inr (Or.inl h0))
  have aZ:=Hd ax;have j0:decide (9<fr)=true:=decide_eq_true h0;clear ax;go_wp2_with fail
  go_ret;exact⟨dT aZ.out.symm,ev.out⟩
 have ym:fr<=9:=by omega
 have aaK:decide (9<fr)=false:=decide_eq_false h0;clear h0;by_cases h0:tt<1
 ·
  have ax:g=false:=by rw[<-HG.out];exact uu (Or.inr (Or.inr (Or.inl h0)))
  have aZ:=Hd ax;have j0:decide (tt<1)=true:=decide_eq_true h0;clear ax;go_wp2_with fail
  go_ret;exact⟨dT aZ.out.symm,ev.out⟩
 have yn:1<=tt:=by omega
 have aaL:decide (tt<1)=false:=decide_eq_false h0;clear h0;by_cases h0:9<tt
 ·
  have ax:g=false:=by rw[<-HG.out];exact uu (Or.inr (Or.inr (Or.inr h0)))
  have aZ:=Hd ax;have j0:decide (9<tt)=true:=decide_eq_true h0;clear ax;go_wp2_with fail
  go_ret;exact⟨dT aZ.out.symm,ev.out⟩
 have yo:tt<=9:=by omega
 have aaM:decide (9<tt)=false:=decide_eq_false h0;clear h0;obtain⟨g0,hg0⟩:∃gg,hX tm=gg:=⟨_,rfl⟩;have HW0:=Hd hg0;clear hg0;go_wp2_with fail
 refine(Ag tm w1 g0 HW0.out).mono ?_;rintro e wx ⟨rfl,rfl⟩;cases g0 with
 | false =>
  have ax:g=false:=by
   rw[<-HG.out];refine CV ⟨yl,ym,yn,yo⟩ ?_;refine it (Aj _) (λ h=>?_);have h2:=h.1;dsimp only at h2;rw[HW0.out]at h2;cases h2
  have aZ:=Hd ax;clear ax;go_wp2_with fail
  go_ret;exact⟨dT aZ.out.symm,ev.out⟩
 | true =>
 obtain⟨g1,kN⟩:∃gg,hX ws=gg:=⟨_,rfl⟩;have pt:=Hd kN;clear kN;go_wp2_with fail
 refine(Ag ws w1 g1 pt.out).mono ?_;rintro e wx ⟨rfl,rfl⟩;cases g1 with
 | false =>
  have ax:g=false:=by
   rw[<-HG.out];refine CV ⟨yl,ym,yn,yo⟩ ?_;refine it (Aj _) (λ h=>?_);have h2:=h.2.1;dsimp only at h2;rw[pt.out]at h2;cases h2
  have aZ:=Hd ax;clear ax;go_wp2_with fail
  go_ret;exact⟨dT aZ.out.symm,ev.out⟩
 | true =>
 obtain⟨g2,ax⟩:∃gg,hX ix=gg:=⟨_,rfl⟩;have ql:=Hd ax;clear ax;go_wp2_with fail
 refine(Ag ix w1 g2 ql.out).mono ?_;rintro e wx ⟨rfl,rfl⟩;cases g2 with
 | false =>
  have ax:g=false:=by
   rw[<-HG.out];refine CV ⟨yl,ym,yn,yo⟩ ?_;refine it (Aj _) (λ h=>?_);have h2:=h.2.2.1;dsimp only at h2;rw[ql.out]at h2;cases h2
  have aZ:=Hd ax;clear ax;go_wp2_with fail
  go_ret;exact⟨dT aZ.out.symm,ev.out⟩
 | true =>
 obtain⟨g3,aL⟩:∃gg,hX cm=gg:=⟨_,rfl⟩;have HW3:=Hd aL;clear aL;go_wp2_with fail
 refine(Ag cm w1 g3 HW3.out).mono ?_;rintro e wx ⟨rfl,rfl⟩;cases g3 with
 | false =>
  have ax:g=false:=by
   rw[<-HG.out];refine CV ⟨yl,ym,yn,yo⟩ ?_;refine it (Aj _) (λ h=>?_);have h2:=h.2.2.2.1;dsimp only at h2;rw[HW3.out]at h2;cases h2
  have aZ:=Hd ax;clear ax;go_wp2_with fail
  go_ret;exact⟨dT aZ.out.symm,ev.out⟩
 | true =>
 obtain⟨g4,qp⟩:∃gg,hX rn=gg:=⟨_,rfl⟩;have mj:=Hd qp;clear qp;go_wp2_with fail
 refine(Ag rn w1 g4 mj.out).mono ?_;rintro e wx ⟨rfl,rfl⟩;cases g4 with
 | false =>
  have ax:g=false:=by
   rw[<-HG.out];refine CV ⟨yl,ym,yn,yo⟩ ?_;refine it (Aj _) (λ h=>?_);have h2:=h.2.2.2.2;dsimp only at h2;rw[mj.out]at h2;cases h2
  have aZ:=Hd ax;clear ax;go_wp2_with fail
  go_ret;exact⟨dT aZ.out.symm,ev.out⟩
 | true =>
 have PT:q6 ⟨kd,fr,tt,tm,ix,ws,ob,cm,rn,es.map En.plain,vs,im⟩=true:=(Aj _).2 ⟨HW0.out,pt.out,ql.out,HW3.out,mj.out⟩;have pQ:=Hd PT;have pj:=Hd (show 1<=fr/\fr<=9/\1<=tt/\tt<=9 from⟨yl,ym,yn,yo⟩);clear aaJ aaK aaL aaM PT yl ym yn yo HW0 pt ql HW3 mj;have aS:=(aj w1.heap.size w1).alloc (aa _) (.cells #[.int .u8 kd,.int .i64 fr,.int .i64 tt,.int .i64 tm,.int .i64 0,.int .i64 0,.bool false,.int .i64 0,.int .i64 0,.slice none 0 0,.slice none 0 0,.slice none 0 0] 32);have dh:=(aS.block w.heap.size (by omega)).trans H1.out;have ke:=heap_alloc_new w1 (.cells #[.int .u8 kd,.int .i64 fr,.int .i64 tt,.int .i64 tm,.int .i64 0,.int .i64 0,.bool false,.int .i64 0,.int .i64 0,.slice none 0 0,.slice none 0 0,.slice none 0 0] 32);have am:=ev.out.trans (aS.mono (by omega));have K2:=Hd dh;have Q2:=Hd ke;have bF:=Hd am;clear aS dh ke am H1 ev;go_upto_region 5 with fail
 have PU:w1.heap.size<(w1.alloc (.cells #[.int .u8 kd,.int .i64 fr,.int .i64 tt,.int .i64 tm,.int .i64 0,.int .i64 0,.bool false,.int .i64 0,.int .i64 0,.slice none 0 0,.slice none 0 0,.slice none 0 0] 32)).heap.size:=(Array.getElem?_eq_some_iff.1 Q2.out).1;clear c0 c1 c2 c3 c4 c5 c6 c7 c8 c9 c10 c11;generalize w1.alloc (.cells #[.int .u8 kd,.int .i64 fr,.int .i64 tt,.int .i64 tm,.int .i64 0,.int .i64 0,.bool false,.int .i64 0,.int .i64 0,.slice none 0 0,.slice none 0 0,.slice none 0 0] 32)=w2 at K2 Q2 bF PU ⊢;obtain⟨qb,Al⟩:∃qb,w1.heap.size=qb:=⟨_,rfl⟩;have hpq:w.heap.size<qb:=by omega
 rw[Al]at Q2 PU ⊢;clear Al;have hk:=K2.out;have fe:=Q2.out;have c0:w2.cell? ⟨w.heap.size,0,none⟩=some (.int .u8 kd):=ab hk 0;have c1:w2.cell? ⟨w.heap.size,1,none⟩=some (.int .i64 fr):=ab hk 1;have c2:w2.cell? ⟨w.heap.size,2,none⟩=some (.int .i64 tt):=ab hk 2;have c3:w2.cell? ⟨w.heap.size,3,none⟩=some (.int .i64 tm):=ab hk 3;have c4:w2.cell? ⟨w.heap.size,4,none⟩=some (.int .i64 ix):=ab hk 4;have c5:w2.cell? ⟨w.heap.size,5,none⟩=some (.int .i64 ws):=ab hk 5;have c6:w2.cell? ⟨w.heap.size,6,none⟩=some (.bool ob):=ab hk 6;have c7:w2.cell? ⟨w.heap.size,7,none⟩=some (.int .i64 cm):=ab hk 7;have c8:w2.cell? ⟨w.heap.size,8,none⟩=some (.int .i64 rn):=ab hk 8;have c9:w2.cell? ⟨w.heap.size,9,none⟩=some (.slice ea n ec):=ab hk 9;have c10:w2.cell? ⟨w.heap.size,10,none⟩=some (.slice va m vc):=ab hk 10;have c11:w2.cell? ⟨w.heap.size,11,none⟩=some (.slice ia q ic):=ab hk 11;clear hk;by_cases dH:kd=1
 ·
  subst dH;have d4:w2.cell? ⟨qb,4,none⟩=some (.int .i64 0):=ab fe 4;have f4:w2.frozen? ⟨qb,4,none⟩=false:=aO fe 4;have d5:w2.cell? ⟨qb,5,none⟩=some (.int .i64 0):=ab fe 5;have f5:w2.frozen? ⟨qb,5,none⟩=false:=aO fe 5;clear fe;go_upto_region 37 with fail
  have fZ:(((w2).setCell ⟨qb,4,none⟩ (.int .i64 ix)).setCell ⟨qb,5,none⟩ (.int .i64 ws)).heap[qb]?=some (.cells #[.int .u8 1,.int .i64 fr,.int .i64 tt,.int .i64 tm,.int .i64 ix,.int .i64 ws,.bool false,.int .i64 0,.int .i64 0,.slice none 0 0,.slice none 0 0,.slice none 0 0] 32 (0,0)):=(js (js Q2.out (.int .i64 ix) rfl) (.int .i64 ws) rfl);have ho:=((Only.set qb (w2) 4 (.int .i64 ix))).trans (Only.set qb ((w2).setCell ⟨qb,4,none⟩ (.int .i64 ix)) 5 (.int .i64 ws));have bL:=(ho.2 w.heap.size (by omega) (by omega)).trans K2.out;have ap:=bF.out.trans (ho.toBelow bF.out.size (by omega));have dN:=ho.1;generalize ((w2).setCell ⟨qb,4,none⟩ (.int .i64 ix)).setCell ⟨qb,5,none⟩ (.int .i64 ws)=w3 at fZ ho bL ap dN ⊢;have K3:=Hd bL;have Q3:=Hd fZ;have B3:=Hd ap;clear bL ap ho c0 c1 c2 c3 c4 c5 c6 c7 c8 c9 c10 c11 d4 f4 d5 f5 K2 Q2 bF;clear fZ;have gN:=eK K3.out;have fm:=eK Q3.out
  have fl:g=true↔((1=1/\fr=fr/\tt=tt/\tm=tm/\ix=ix/\ws=ws/\ob=false/\cm=0/\rn=0)/\n=0/\m=0/\q=0):=(by
     rw[<-HG.out,aaE pj.out pQ.out rfl];simp[HN.out,HM.out,HQ.out,and_assoc])
  have kK:=Hd fl;clear fl;go_wp2_with (first|(refine mQ (by rfl) 32 (.tmp 1) rfl w.heap.size 0 rfl _ _ gN cL rfl info_lt ?_)|(refine mQ (by rfl) 32 (.tmp 3) rfl qb 0 rfl _ _ fm cL rfl info_lt ?_))
  refine(yj _ fr tt tm ix ws ob cm rn ea n ec va m vc ia q ic es vs im _ fr tt tm ix ws false 0 0 none 0 0 none 0 0 none 0 0 [] [] [] w3 HN.out HM.out HQ.out rfl rfl rfl
   ((HX.out.below iI B3.out (aa _)).mono mi B3.out.size) ((oq.out.below cn B3.out (aa _)).mono cK B3.out.size) ((rU.out.below B3.out (aa _)).mono B3.out.size)
   (Or.inl rfl) (Or.inl rfl) (Or.inl rfl) (Or.inr rfl) (Or.inr rfl) (Or.inr rfl) (λ x hx=>wH (HF.out x hx)) l1 l2 l3 g (by simpa using kK.out)).mono ?_
  rintro e wz ⟨rfl,bz⟩;clear gN fm;go_wp2_with fail
  go_ret;exact⟨rfl,B3.out.trans (bz.mono B3.out.size)⟩
 by_cases dh:kd=2
 ·
  subst dh;have d6:w2.cell? ⟨qb,6,none⟩=some (.bool false):=ab fe 6;have f6:w2.frozen? ⟨qb,6,none⟩=false:=aO fe 6;clear fe;go_upto_region 37 with fail
  have fZ:((w2).setCell ⟨qb,6,none⟩ (.bool ob)).heap[qb]?=some (.cells #[.int .u8 2,.int .i64 fr,.int .i64 tt,.int .i64 tm,.int .i64 0,.int .i64 0,.bool ob,.int .i64 0,.int .i64 0,.slice none 0 0,.slice none 0 0,.slice none 0 0] 32 (0,0)):=(js Q2.out (.bool ob) rfl);have ho:=(Only.set qb (w2) 6 (.bool ob));have bL:=(ho.2 w.heap.size (by omega) (by omega)).trans K2.out;have ap:=bF.out.trans (ho.toBelow bF.out.size (by omega));have dN:=ho.1;generalize (w2).setCell ⟨qb,6,none⟩ (.bool ob)=w3 at fZ ho bL ap dN ⊢;have K3:=Hd bL;have Q3:=Hd fZ;have B3:=Hd ap;clear bL ap ho c0 c1 c2 c3 c4 c5 c6 c7 c8 c9 c10 c11 d6 f6 K2 Q2 bF;clear fZ;have gN:=eK K3.out;have fm:=eK Q3.out
  have fl:g=true↔((2=2/\fr=fr/\tt=tt/\tm=tm/\ix=0/\ws=0/\ob=ob/\cm=0/\rn=0)/\n=0/\m=0/\q=0):=(by
     rw[<-HG.out,aaF pj.out pQ.out rfl];simp[HN.out,HM.out,HQ.out,and_assoc])
  have kK:=Hd fl;clear fl;go_wp2_with (first|(refine mQ (by rfl) 32 (.tmp 1) rfl w.heap.size 0 rfl _ _ gN cL rfl info_lt ?_)|(refine mQ (by rfl) 32 (.tmp 3) rfl qb 0 rfl _ _ fm cL rfl info_lt ?_))
  refine(yj _ fr tt tm ix ws ob cm rn ea n ec va m vc ia q ic es vs im _ fr tt tm 0 0 ob 0 0 none 0 0 none 0 0 none 0 0 [] [] [] w3 HN.out HM.out HQ.out rfl rfl rfl
   ((HX.out.below iI B3.out (aa _)).mono mi B3.out.size) ((oq.out.below cn B3.out (aa _)).mono cK B3.out.size) ((rU.out.below B3.out (aa _)).mono B3.out.size)
   (Or.inl rfl) (Or.inl rfl) (Or.inl rfl) (Or.inr rfl) (Or.inr rfl) (Or.inr rfl) (λ x hx=>wH (HF.out x hx)) l1 l2 l3 g (by simpa using kK.out)).mono ?_
  rintro e wz ⟨rfl,bz⟩;clear gN fm;go_wp2_with fail
  go_ret;exact⟨rfl,B3.out.trans (bz.mono B3.out.size)⟩
 by_cases bL:kd=3
 ·
  subst bL;have d4:w2.cell? ⟨qb,4,none⟩=some (.int .i64 0):=ab fe 4;have f4:w2.frozen? ⟨qb,4,none⟩=false:=aO fe 4;have d5:w2.cell? ⟨qb,5,none⟩=some (.int .i64 0):=ab fe 5;have f5:w2.frozen? ⟨qb,5,none⟩=false:=aO fe 5;have d7:w2.cell? ⟨qb,7,none⟩=some (.int .i64 0):=ab fe 7;have f7:w2.frozen? ⟨qb,7,none⟩=false:=aO fe 7;have d8:w2.cell? ⟨qb,8,none⟩=some (.int .i64 0):=ab fe 8;have f8:w2.frozen? ⟨qb,8,none⟩=false:=aO fe 8;have d9:w2.cell? ⟨qb,9,none⟩=some (.slice none 0 0):=ab fe 9;have f9:w2.frozen? ⟨qb,9,none⟩=false:=aO fe 9;clear fe;go_upto_region 18 with fail
  have fZ:((((((w2).setCell ⟨qb,4,none⟩ (.int .i64 ix)).setCell ⟨qb,5,none⟩ (.int .i64 ws)).setCell ⟨qb,7,none⟩ (.int .i64 cm)).setCell ⟨qb,8,none⟩ (.int .i64 rn)).setCell ⟨qb,9,none⟩ (.slice ea n ec)).heap[qb]?=some (.cells #[.int .u8 3,.int .i64 fr,.int .i64 tt,.int .i64 tm,.int .i64 ix,.int .i64 ws,.bool false,.int .i64 cm,.int .i64 rn,.slice ea n ec,.slice none 0 0,.slice none 0 0] 32 (0,0)):=(js (js (js (js (js Q2.out (.int .i64 ix) rfl) (.int .i64 ws) rfl) (.int .i64 cm) rfl) (.int .i64 rn) rfl) (.slice ea n ec) rfl);have ho:=(((((Only.set qb (w2) 4 (.int .i64 ix))).trans (Only.set qb ((w2).setCell ⟨qb,4,none⟩ (.int .i64 ix)) 5 (.int .i64 ws))).trans (Only.set qb (((w2).setCell ⟨qb,4,none⟩ (.int .i64 ix)).setCell ⟨qb,5,none⟩ (.int .i64 ws)) 7 (.int .i64 cm))).trans (Only.set qb ((((w2).setCell ⟨qb,4,none⟩ (.int .i64 ix)).setCell ⟨qb,5,none⟩ (.int .i64 ws)).setCell ⟨qb,7,none⟩ (.int .i64 cm)) 8 (.int .i64 rn))).trans (Only.set qb (((((w2).setCell ⟨qb,4,none⟩ (.int .i64 ix)).setCell ⟨qb,5,none⟩ (.int .i64 ws)).setCell ⟨qb,7,none⟩ (.int .i64 cm)).setCell ⟨qb,8,none⟩ (.int .i64 rn)) 9 (.slice ea n ec));have bL:=(ho.2 w.heap.size (by omega) (by omega)).trans K2.out;have ap:=bF.out.trans (ho.toBelow bF.out.size (by omega));have dN:=ho.1;generalize (((((w2).setCell ⟨qb,4,none⟩ (.int .i64 ix)).setCell ⟨qb,5,none⟩ (.int .i64 ws)).setCell ⟨qb,7,none⟩ (.int .i64 cm)).setCell ⟨qb,8,none⟩ (.int .i64 rn)).setCell ⟨qb,9,none⟩ (.slice ea n ec)=w3 at fZ ho bL ap dN ⊢;have K3:=Hd bL;have Q3:=Hd fZ;have B3:=Hd ap;clear bL ap ho c0 c1 c2 c3 c4 c5 c6 c7 c8 c9 c10 c11 d4 f4 d5 f5 d7 f7 d8 f8 d9 f9 K2 Q2 bF;clear fZ;have c9:w3.cell? ⟨w.heap.size,9,none⟩=some (.slice ea n ec):=ab K3.out 9;have hcA:∀w',Below w3.heap.size w3 w'->w'.cell? ⟨w.heap.size,9,none⟩=some (.slice ea n ec):=λ w' hb=>ab ((hb.block _ (by omega)).trans K3.out) 9
  have st:=Hd hcA;have HXE:=Hd (HX.out.below iI B3.out (aa _));obtain⟨b0,dl⟩:∃b:Bool,decide (n<=16)=b:=⟨_,rfl⟩;have PX:decide ((n:Int)<=16)=b0:=by rw[<-dl];congr 1;exact propext (by omega)
  have hg0:CX b0 n (es.take 0):=by
   unfold CX;rw[<-dl];simp
  have PY:=Hd hg0;have I8:=Hd PX;clear hcA hg0 dl;go_wp2_with fail
  clear PX c9;go_loopw [4,5] (λ b i wr=>∃(k:Nat) (bb:Bool),k<=n/\i=.int .i64 k/\b=.bool bb/\CX bb n (es.take k)/\Below w3.heap.size w3 wr) (λ _ i _=>n-(intOf i).toNat)
  exact⟨0,b0,by omega,rfl,by first|rfl|(rw[I8.out])|(simp[I8.out]),PY.out,aj _ _⟩
  clear PY I8;obtain⟨k,bb,hk,rfl,rfl,hgt,ag⟩:=hrel;have EU:=Hd hgt;have Hz:=ag.size;have c9:=st.out wr ag;clear hgt;by_cases ae:k<n
  ·
   have i1:(k:Int)<n:=by omega
   cases bb with
   | true =>
    have aQ:es[k]?=some (es[k]'(by rw[HN.out];exact ae)):=bu _;have bJ:es.take (k+1)=es.take k++[es[k]'(by rw[HN.out];exact ae)]:=iJ _;have ma:=HF.out _ (mC (l:=es) (n:=k) (by rw[HN.out];exact ae));obtain⟨b,off,bm,hb,hc,eC⟩:=HXE.out.at aQ;generalize es[k]'(by rw[HN.out];exact ae)=x at hc aQ ma eC bJ;have ve:=mi _ _ _ _ (iI _ _ _ _ _ eC ag (by have:=B3.out.size;omega)) (show w.heap.size<=wr.heap.size by have:=B3.out.size;omega)
    have aY:wr.rangeAt b (off+k*9) (bW x):=λ j v hv=>by
     have hj:j<9:=by have:=(List.getElem?_eq_some_iff.1 hv).1;rw[mh]at this;exact this
     rw[<-hv,<-hc j hj];exact ag.cell (p:=⟨b,_,none⟩) (show b<w3.heap.size by have:=B3.out.size;omega)
    obtain⟨gx,hgx⟩:∃gg,jm x.plain=gg:=⟨_,rfl⟩
    have pz:CX gx n (es.take (k+1)):=by
     unfold CX;rw[bJ];have h1:=EU.out.1 rfl;constructor
     ·
      intro h;refine⟨h1.1,λ e he=>?_⟩;rcases List.mem_append.1 he with he|he
      · exact h1.2 e he
      rw[List.mem_singleton.1 he,hgx];exact h
     intro h;rw[<-hgx];exact h.2 x (List.mem_append_right _ (List.mem_singleton.2 rfl))
    have uL:=Hd pz;have HGX:=Hd hgx;have jX:=Hd ma;have mz:=Hd ve;rw[bm]at c9;clear hc aQ bJ ma eC ve pz hgx bm;go_wp2_with (refine wpList_load_mid rfl 46 (.tmp 112) rfl b (off+k*9) rfl (bW x) _ aY uT rfl (by rw[mh];exact Af) ?_)
    refine(aaw x wr mz.out jX.out gx HGX.out).mono ?_;rintro e w5 ⟨rfl,b5⟩;have ak:=ag.trans (b5.mono Hz);clear aY c9 b5;go_wp2_with fail
    go_roundw
    exact⟨k+1,gx,by omega,by go_num,rfl,uL.out,ak⟩
    simp[intOf];omega
   | false =>
    have ax:g=false:=by
     rw[<-HG.out];refine it (I0 pj.out pQ.out rfl) (λ h=>?_);have h1:=(I3 _).1 h.1;dsimp only at h1;have h2:=EU.out.2 ⟨by rw[List.length_map,HN.out]at h1;exact h1.2,λ e he=>h1.1 _ (List.mem_map_of_mem (zl he))⟩;cases h2
    have aZ:=Hd ax;clear ax;go_wp2_with fail
    go_ret;exact⟨dT aZ.out.symm,B3.out.trans (ag.mono B3.out.size)⟩
  obtain rfl:k=n:=by omega
  have i1:¬(k:Int)<k:=by omega
  have bJ:es.take k=es:=fE (by rw[HN.out];exact aa _);cases bb with
  | false =>
   have ax:g=false:=by
    rw[<-HG.out];refine it (I0 pj.out pQ.out rfl) (λ h=>?_);have h1:=(I3 _).1 h.1;dsimp only at h1;have h2:=EU.out.2 ⟨by rw[List.length_map,HN.out]at h1;exact h1.2,λ e he=>h1.1 _ (List.mem_map_of_mem (zl he))⟩;cases h2
   have aZ:=Hd ax;clear ax bJ;go_wp2_with fail
   go_ret;exact⟨dT aZ.out.symm,B3.out.trans (ag.mono B3.out.size)⟩
  | true =>
   have her:qt (es.map En.plain)=true:=by
    have h1:=EU.out.1 rfl;rw[bJ]at h1;rw[I3,List.length_map,HN.out];refine⟨λ e he=>?_,h1.1⟩;obtain⟨f,hf,rfl⟩:=List.mem_map.1 he;exact h1.2 f hf
   have HER:=Hd her;have K4:=Hd ((ag.block w.heap.size (by omega)).trans K3.out);have Q4:=Hd ((ag.block qb (by omega)).trans Q3.out);have B4:=Hd (B3.out.trans (ag.mono B3.out.size));clear her bJ;go_upto_region 37 with fail
   clear c9;have gN:=eK K4.out;have fm:=eK Q4.out
   have fl:g=true↔((3=3/\fr=fr/\tt=tt/\tm=tm/\ix=ix/\ws=ws/\ob=false/\cm=cm/\rn=rn)/\k=k/\m=0/\q=0):=(by
        rw[<-HG.out,I0 pj.out pQ.out rfl];simp[HN.out,HM.out,HQ.out,HER.out,and_assoc])
   have kK:=Hd fl;clear fl;go_wp2_with (first|(refine mQ (by rfl) 32 (.tmp 1) rfl w.heap.size 0 rfl _ _ gN cL rfl info_lt ?_)|(refine mQ (by rfl) 32 (.tmp 3) rfl qb 0 rfl _ _ fm cL rfl info_lt ?_))
   refine(yj _ fr tt tm ix ws ob cm rn ea k ec va m vc ia q ic es vs im _ fr tt tm ix ws false cm rn ea k ec none 0 0 none 0 0 es [] [] wr HN.out HM.out HQ.out HN.out rfl rfl
    ((HX.out.below iI B4.out (aa _)).mono mi B4.out.size) ((oq.out.below cn B4.out (aa _)).mono cK B4.out.size) ((rU.out.below B4.out (aa _)).mono B4.out.size)
    ((HX.out.below iI B4.out (aa _)).mono mi B4.out.size) (Or.inl rfl) (Or.inl rfl) (Or.inl rfl) (Or.inr rfl) (Or.inr rfl) (λ x hx=>wH (HF.out x hx)) l1 l2 l3 g (by simpa using kK.out)).mono ?_
   rintro e wz ⟨rfl,bz⟩;clear gN fm;go_wp2_with fail
   go_ret;exact⟨rfl,B4.out.trans (bz.mono B4.out.size)⟩
 by_cases fY:kd=4
 ·
  subst fY;have d6:w2.cell? ⟨qb,6,none⟩=some (.bool false):=ab fe 6;have f6:w2.frozen? ⟨qb,6,none⟩=false:=aO fe 6;have d4:w2.cell? ⟨qb,4,none⟩=some (.int .i64 0):=ab fe 4;have f4:w2.frozen? ⟨qb,4,none⟩=false:=aO fe 4;have d8:w2.cell? ⟨qb,8,none⟩=some (.int .i64 0):=ab fe 8;have f8:w2.frozen? ⟨qb,8,none⟩=false:=aO fe 8;clear fe;go_upto_region 37 with fail
  have fZ:((((w2).setCell ⟨qb,6,none⟩ (.bool ob)).setCell ⟨qb,4,none⟩ (.int .i64 ix)).setCell ⟨qb,8,none⟩ (.int .i64 rn)).heap[qb]?=some (.cells #[.int .u8 4,.int .i64 fr,.int .i64 tt,.int .i64 tm,.int .i64 ix,.int .i64 0,.bool ob,.int .i64 0,.int .i64 rn,.slice none 0 0,.slice none 0 0,.slice none 0 0] 32 (0,0)):=(js (js (js Q2.out (.bool ob) rfl) (.int .i64 ix) rfl) (.int .i64 rn) rfl);have ho:=(((Only.set qb (w2) 6 (.bool ob))).trans (Only.set qb ((w2).setCell ⟨qb,6,none⟩ (.bool ob)) 4 (.int .i64 ix))).trans (Only.set qb (((w2).setCell ⟨qb,6,none⟩ (.bool ob)).setCell ⟨qb,4,none⟩ (.int .i64 ix)) 8 (.int .i64 rn));have bL:=(ho.2 w.heap.size (by omega) (by omega)).trans K2.out;have ap:=bF.out.trans (ho.toBelow bF.out.size (by omega));have dN:=ho.1;generalize (((w2).setCell ⟨qb,6,none⟩ (.bool ob)).setCell ⟨qb,4,none⟩ (.int .i64 ix)).setCell ⟨qb,8,none⟩ (.int .i64 rn)=w3 at fZ ho bL ap dN ⊢;have K3:=Hd bL;have Q3:=Hd fZ;have B3:=Hd ap;clear bL ap ho c0 c1 c2 c3 c4 c5 c6 c7 c8 c9 c10 c11 d6 f6 d4 f4 d8 f8 K2 Q2 bF;clear fZ;have gN:=eK K3.out;have fm:=eK Q3.out
  have fl:g=true↔((4=4/\fr=fr/\tt=tt/\tm=tm/\ix=ix/\ws=0/\ob=ob/\cm=0/\rn=rn)/\n=0/\m=0/\q=0):=(by
     rw[<-HG.out,aaG pj.out pQ.out rfl];simp[HN.out,HM.out,HQ.out,and_assoc])
  have kK:=Hd fl;clear fl;go_wp2_with (first|(refine mQ (by rfl) 32 (.tmp 1) rfl w.heap.size 0 rfl _ _ gN cL rfl info_lt ?_)|(refine mQ (by rfl) 32 (.tmp 3) rfl qb 0 rfl _ _ fm cL rfl info_lt ?_))
  refine(yj _ fr tt tm ix ws ob cm rn ea n ec va m vc ia q ic es vs im _ fr tt tm ix 0 ob 0 rn none 0 0 none 0 0 none 0 0 [] [] [] w3 HN.out HM.out HQ.out rfl rfl rfl
   ((HX.out.below iI B3.out (aa _)).mono mi B3.out.size) ((oq.out.below cn B3.out (aa _)).mono cK B3.out.size) ((rU.out.below B3.out (aa _)).mono B3.out.size)
   (Or.inl rfl) (Or.inl rfl) (Or.inl rfl) (Or.inr rfl) (Or.inr rfl) (Or.inr rfl) (λ x hx=>wH (HF.out x hx)) l1 l2 l3 g (by simpa using kK.out)).mono ?_
  rintro e wz ⟨rfl,bz⟩;clear gN fm;go_wp2_with fail
  go_ret;exact⟨rfl,B3.out.trans (bz.mono B3.out.size)⟩
 by_cases lW:kd=5
 ·
  subst lW;have d4:w2.cell? ⟨qb,4,none⟩=some (.int .i64 0):=ab fe 4;have f4:w2.frozen? ⟨qb,4,none⟩=false:=aO fe 4;have d5:w2.cell? ⟨qb,5,none⟩=some (.int .i64 0):=ab fe 5;have f5:w2.frozen? ⟨qb,5,none⟩=false:=aO fe 5;have d8:w2.cell? ⟨qb,8,none⟩=some (.int .i64 0):=ab fe 8;have f8:w2.frozen? ⟨qb,8,none⟩=false:=aO fe 8;have cE:w2.cell? ⟨qb,10,none⟩=some (.slice none 0 0):=ab fe 10;have f10:w2.frozen? ⟨qb,10,none⟩=false:=aO fe 10;have cM:w2.cell? ⟨qb,11,none⟩=some (.slice none 0 0):=ab fe 11;have f11:w2.frozen? ⟨qb,11,none⟩=false:=aO fe 11;clear fe;go_upto_region 33 with fail
  have fZ:((((((w2).setCell ⟨qb,4,none⟩ (.int .i64 ix)).setCell ⟨qb,5,none⟩ (.int .i64 ws)).setCell ⟨qb,8,none⟩ (.int .i64 rn)).setCell ⟨qb,10,none⟩ (.slice va m vc)).setCell ⟨qb,11,none⟩ (.slice ia q ic)).heap[qb]?=some (.cells #[.int .u8 5,.int .i64 fr,.int .i64 tt,.int .i64 tm,.int .i64 ix,.int .i64 ws,.bool false,.int .i64 0,.int .i64 rn,.slice none 0 0,.slice va m vc,.slice ia q ic] 32 (0,0)):=(js (js (js (js (js Q2.out (.int .i64 ix) rfl) (.int .i64 ws) rfl) (.int .i64 rn) rfl) (.slice va m vc) rfl) (.slice ia q ic) rfl);have ho:=(((((Only.set qb (w2) 4 (.int .i64 ix))).trans (Only.set qb ((w2).setCell ⟨qb,4,none⟩ (.int .i64 ix)) 5 (.int .i64 ws))).trans (Only.set qb (((w2).setCell ⟨qb,4,none⟩ (.int .i64 ix)).setCell ⟨qb,5,none⟩ (.int .i64 ws)) 8 (.int .i64 rn))).trans (Only.set qb ((((w2).setCell ⟨qb,4,none⟩ (.int .i64 ix)).setCell ⟨qb,5,none⟩ (.int .i64 ws)).setCell ⟨qb,8,none⟩ (.int .i64 rn)) 10 (.slice va m vc))).trans (Only.set qb (((((w2).setCell ⟨qb,4,none⟩ (.int .i64 ix)).setCell ⟨qb,5,none⟩ (.int .i64 ws)).setCell ⟨qb,8,none⟩ (.int .i64 rn)).setCell ⟨qb,10,none⟩ (.slice va m vc)) 11 (.slice ia q ic));have bL:=(ho.2 w.heap.size (by omega) (by omega)).trans K2.out;have ap:=bF.out.trans (ho.toBelow bF.out.size (by omega));have dN:=ho.1;generalize (((((w2).setCell ⟨qb,4,none⟩ (.int .i64 ix)).setCell ⟨qb,5,none⟩ (.int .i64 ws)).setCell ⟨qb,8,none⟩ (.int .i64 rn)).setCell ⟨qb,10,none⟩ (.slice va m vc)).setCell ⟨qb,11,none⟩ (.slice ia q ic)=w3 at fZ ho bL ap dN ⊢;have K3:=Hd bL;have Q3:=Hd fZ;have B3:=Hd ap;clear bL ap ho c0 c1 c2 c3 c4 c5 c6 c7 c8 c9 c10 c11 d4 f4 d5 f5 d8 f8 cE f10 cM f11 K2 Q2 bF;clear fZ;have c10:w3.cell? ⟨w.heap.size,10,none⟩=some (.slice va m vc):=ab K3.out 10;by_cases eF:m=0
  ·
   have ie:vs=[]:=wU (by rw[HM.out];exact eF);have i0:(m:Int)=0:=by omega
   have fv:=Hd ie;clear ie;subst eF;go_upto_region 37 with fail
   clear c10;have gN:=eK K3.out;have fm:=eK Q3.out
   have fl:g=true↔((5=5/\fr=fr/\tt=tt/\tm=tm/\ix=ix/\ws=ws/\ob=false/\cm=0/\rn=rn)/\n=0/\0=0/\q=q):=(by
      rw[<-HG.out,I1 pj.out pQ.out rfl];simp[HN.out,HM.out,HQ.out,fv.out,and_assoc])
   have kK:=Hd fl;clear fl;go_wp2_with (first|(refine mQ (by rfl) 32 (.tmp 1) rfl w.heap.size 0 rfl _ _ gN cL rfl info_lt ?_)|(refine mQ (by rfl) 32 (.tmp 3) rfl qb 0 rfl _ _ fm cL rfl info_lt ?_))
   refine(yj _ fr tt tm ix ws ob cm rn ea n ec va 0 vc ia q ic es vs im _ fr tt tm ix ws false 0 rn none 0 0 va 0 vc ia q ic [] vs im w3 HN.out HM.out HQ.out rfl HM.out HQ.out
    ((HX.out.below iI B3.out (aa _)).mono mi B3.out.size) ((oq.out.below cn B3.out (aa _)).mono cK B3.out.size) ((rU.out.below B3.out (aa _)).mono B3.out.size)
    (Or.inl rfl) ((oq.out.below cn B3.out (aa _)).mono cK B3.out.size) ((rU.out.below B3.out (aa _)).mono B3.out.size) (Or.inr rfl) (Or.inl rfl) (Or.inl rfl) (λ x hx=>wH (HF.out x hx)) l1 l2 l3 g (by simpa using kK.out)).mono ?_
   rintro e wz ⟨rfl,bz⟩;clear gN fm;go_wp2_with fail
   go_ret;exact⟨rfl,B3.out.trans (bz.mono B3.out.size)⟩
  have i0:¬(m:Int)=0:=by omega
  obtain⟨gv,hgv⟩:∃gg,kE vs=gg:=⟨_,rfl⟩;have I9:=Hd hgv;clear hgv;go_wp2_with fail
  refine(Pk va m vc vs w3 w.heap.size HM.out (oq.out.below cn B3.out (aa _)) (by omega) gv I9.out).mono ?_;rintro e wx ⟨rfl,rfl⟩;clear c10;cases gv with
  | false =>
   have ax:g=false:=by
    rw[<-HG.out];refine it (I1 pj.out pQ.out rfl) (λ h=>?_);rcases h.1 with h|h
    · exact eF (by rw[<-HM.out];exact h)
    dsimp only at h;rw[I9.out]at h;cases h
   have aZ:=Hd ax;clear ax;go_wp2_with fail
   go_ret;exact⟨dT aZ.out.symm,B3.out⟩
  | true =>
   have gN:=eK K3.out;have fm:=eK Q3.out
   have fl:g=true↔((5=5/\fr=fr/\tt=tt/\tm=tm/\ix=ix/\ws=ws/\ob=false/\cm=0/\rn=rn)/\n=0/\m=m/\q=q):=(by
       rw[<-HG.out,I1 pj.out pQ.out rfl];simp[HN.out,HM.out,HQ.out,I9.out,and_assoc])
   have kK:=Hd fl;clear fl;go_wp2_with (first|(refine mQ (by rfl) 32 (.tmp 1) rfl w.heap.size 0 rfl _ _ gN cL rfl info_lt ?_)|(refine mQ (by rfl) 32 (.tmp 3) rfl qb 0 rfl _ _ fm cL rfl info_lt ?_))
   refine(yj _ fr tt tm ix ws ob cm rn ea n ec va m vc ia q ic es vs im _ fr tt tm ix ws false 0 rn none 0 0 va m vc ia q ic [] vs im w3 HN.out HM.out HQ.out rfl HM.out HQ.out
    ((HX.out.below iI B3.out (aa _)).mono mi B3.out.size) ((oq.out.below cn B3.out (aa _)).mono cK B3.out.size) ((rU.out.below B3.out (aa _)).mono B3.out.size)
    (Or.inl rfl) ((oq.out.below cn B3.out (aa _)).mono cK B3.out.size) ((rU.out.below B3.out (aa _)).mono B3.out.size) (Or.inr rfl) (Or.inl rfl) (Or.inl rfl) (λ x hx=>wH (HF.out x hx)) l1 l2 l3 g (by simpa using kK.out)).mono ?_
   rintro e wz ⟨rfl,bz⟩;clear gN fm;go_wp2_with fail
   go_ret;exact⟨rfl,B3.out.trans (bz.mono B3.out.size)⟩
 by_cases np:kd=6
 ·
  subst np;have d4:w2.cell? ⟨qb,4,none⟩=some (.int .i64 0):=ab fe 4;have f4:w2.frozen? ⟨qb,4,none⟩=false:=aO fe 4;have d8:w2.cell? ⟨qb,8,none⟩=some (.int .i64 0):=ab fe 8;have f8:w2.frozen? ⟨qb,8,none⟩=false:=aO fe 8;clear fe;go_upto_region 37 with fail
  have fZ:(((w2).setCell ⟨qb,4,none⟩ (.int .i64 ix)).setCell ⟨qb,8,none⟩ (.int .i64 rn)).heap[qb]?=some (.cells #[.int .u8 6,.int .i64 fr,.int .i64 tt,.int .i64 tm,.int .i64 ix,.int .i64 0,.bool false,.int .i64 0,.int .i64 rn,.slice none 0 0,.slice none 0 0,.slice none 0 0] 32 (0,0)):=(js (js Q2.out (.int .i64 ix) rfl) (.int .i64 rn) rfl);have ho:=((Only.set qb (w2) 4 (.int .i64 ix))).trans (Only.set qb ((w2).setCell ⟨qb,4,none⟩ (.int .i64 ix)) 8 (.int .i64 rn));have bL:=(ho.2 w.heap.size (by omega) (by omega)).trans K2.out;have ap:=bF.out.trans (ho.toBelow bF.out.size (by omega));have dN:=ho.1;generalize ((w2).setCell ⟨qb,4,none⟩ (.int .i64 ix)).setCell ⟨qb,8,none⟩ (.int .i64 rn)=w3 at fZ ho bL ap dN ⊢;have K3:=Hd bL;have Q3:=Hd fZ;have B3:=Hd ap;clear bL ap ho c0 c1 c2 c3 c4 c5 c6 c7 c8 c9 c10 c11 d4 f4 d8 f8 K2 Q2 bF;clear fZ;have gN:=eK K3.out;have fm:=eK Q3.out
  have fl:g=true↔((6=6/\fr=fr/\tt=tt/\tm=tm/\ix=ix/\ws=0/\ob=false/\cm=0/\rn=rn)/\n=0/\m=0/\q=0):=(by
     rw[<-HG.out,aaH pj.out pQ.out rfl];simp[HN.out,HM.out,HQ.out,and_assoc])
  have kK:=Hd fl;clear fl;go_wp2_with (first|(refine mQ (by rfl) 32 (.tmp 1) rfl w.heap.size 0 rfl _ _ gN cL rfl info_lt ?_)|(refine mQ (by rfl) 32 (.tmp 3) rfl qb 0 rfl _ _ fm cL rfl info_lt ?_))
  refine(yj _ fr tt tm ix ws ob cm rn ea n ec va m vc ia q ic es vs im _ fr tt tm ix 0 false 0 rn none 0 0 none 0 0 none 0 0 [] [] [] w3 HN.out HM.out HQ.out rfl rfl rfl
   ((HX.out.below iI B3.out (aa _)).mono mi B3.out.size) ((oq.out.below cn B3.out (aa _)).mono cK B3.out.size) ((rU.out.below B3.out (aa _)).mono B3.out.size)
   (Or.inl rfl) (Or.inl rfl) (Or.inl rfl) (Or.inr rfl) (Or.inr rfl) (Or.inr rfl) (λ x hx=>wH (HF.out x hx)) l1 l2 l3 g (by simpa using kK.out)).mono ?_
  rintro e wz ⟨rfl,bz⟩;clear gN fm;go_wp2_with fail
  go_ret;exact⟨rfl,B3.out.trans (bz.mono B3.out.size)⟩
 have ax:g=false:=by rw[<-HG.out];exact aaI ⟨dH,dh,bL,fY,lW,np⟩
 have aZ:=Hd ax;have n1:(kd==1)=false:=beq_eq_false_iff_ne.2 dH;have n2:(kd==2)=false:=beq_eq_false_iff_ne.2 dh;have n3:(kd==3)=false:=beq_eq_false_iff_ne.2 bL;have n4:(kd==4)=false:=beq_eq_false_iff_ne.2 fY;have n5:(kd==5)=false:=beq_eq_false_iff_ne.2 lW;have n6:(kd==6)=false:=beq_eq_false_iff_ne.2 np;clear ax fe;go_wp2_with fail
 go_ret;exact⟨dT aZ.out.symm,bF.out⟩
theorem PZ (l:Lt)(w:World)(hx:fG w w.heap.size l)(hf:cy l)(g:Bool)(hg:fx l.plain=g) :
  Calls prog 12 #[fA l] w (qN g w) :=
 PS l.kind l.fr l.tov l.term l.index l.was l.ok l.commit l.round l.eo l.es.length l.ey l.vo l.vs.length l.ce l.io l.im.length l.fi l.es l.vs l.im w rfl rfl rfl hx.1 hx.2.1 hx.2.2 hf.es hf.en hf.vn hf.ln hf.kind g hg
end Go.Proofs.YtepdklfkegkojaaGreatDoor
