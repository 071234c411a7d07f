/- Parts of one proof. Conditions: as each says. -/
import Derived.Test.YtepdklfkegkojaaGreatDoorGLetterNumbers0
import Derived.Test.YtepdklfkegkojaaGreatDoorGLetterNumbers18
import Derived.Test.YtepdklfkegkojaaGreatDoorGLetterNumbers20
import Derived.Test.YtepdklfkegkojaaGreatDoorGLetterNumbers17
set_option linter.all false
set_option maxHeartbeats 16000000
set_option maxRecDepth 100000
namespace Go.Proofs.YtepdklfkegkojaaGreatDoor
open Go.Proofs.Tryz
open Go.RowKit
theorem aam (P:Prop):∃g:Bool,g=true↔P:=by
 by_cases h:P
 · exact⟨true,⟨λ _=>h,λ _=>rfl⟩⟩
 exact⟨false,⟨λ h2=>(by cases h2),λ h2=>absurd h2 h⟩⟩
theorem PJ (e:dX):sh e=true↔(e.session=0/\e.seq=0/\e.ck=0/\e.text=⟨#[]⟩/\e.num=0/\e.args=[]):=by
 unfold sh F0 dX.cm;simp only[Bool.and_eq_true,decide_eq_true_eq,List.length_eq_zero_iff]
theorem aan (e:dX)(hw:hX e.term=true)(hk:e.kind=1):jm e=true↔e=⟨e.term,e.kind,0,0,0,⟨#[]⟩,[],0,[]⟩:=by
 unfold jm;rw[if_neg (by rw[hw];simp),if_pos hk,Bool.and_eq_true,PJ,decide_eq_true_eq,List.length_eq_zero_iff];obtain⟨x0,x1,x2,x3,ck,text,xs,num,vs⟩:=e;simp only[dX.mk.injEq,true_and];constructor
 · rintro⟨⟨a,b,c,d,f,g⟩,h⟩;exact⟨a,b,c,d,g,f,h⟩
 rintro⟨a,b,c,d,g,f,h⟩;exact⟨⟨a,b,c,d,f,g⟩,h⟩
theorem aap (e:dX)(hw:hX e.term=true)(hk:e.kind=3):jm e=true↔(e=⟨e.term,e.kind,0,0,0,⟨#[]⟩,[],0,e.vs⟩/\kE e.vs=true):=by
 unfold jm;rw[if_neg (by rw[hw];simp),if_neg (by omega),if_neg (by omega),Bool.and_eq_true,Bool.and_eq_true,PJ,decide_eq_true_eq];obtain⟨x0,x1,x2,x3,ck,text,xs,num,vs⟩:=e;simp only[dX.mk.injEq,true_and];constructor
 · rintro⟨_,⟨a,b,c,d,f,g⟩,h⟩;exact⟨⟨a,b,c,d,g,f,trivial⟩,h⟩
 rintro⟨⟨a,b,c,d,g,f,_⟩,h⟩;exact⟨hk,⟨a,b,c,d,f,g⟩,h⟩
theorem aaq (e:dX)(hw:hX e.term=true)(hk:e.kind=2):jm e=(decide (0<=e.session) && (decide (0<=e.seq) && (decide (e.vs.length=0) && qW e.cm))):=by
 unfold jm;rw[if_neg (by rw[hw];simp),if_neg (by omega),if_pos hk]
theorem PK (e:dX)(h:hX e.term=false∨(e.kind≠1/\e.kind≠2/\e.kind≠3)):jm e=false:=by
 unfold jm;split
 · rfl
 rename_i h1;rcases h with h|⟨a,b,c⟩
 · exact absurd h h1
 rw[if_neg a,if_neg b,decide_eq_false c];rfl
theorem aar {c:lK}(hn:bH c.num)(ht:c.text.size<4294967296)(ha:c.args.length<4294967296)(hw:BytesWf (dY c.args))(r:lK×Bool×List Int)(hr:jW false (jT c.kind c.text c.num c.args)=r):qW c=true↔((!r.2.1 && r.2.2.isEmpty)=true/\r.1=c):=by
 subst hr;constructor
 ·
  intro h;have hf:=LX hn ht ha hw h;have hb:=LJ c [] hf;rw[List.append_nil]at hb;rw[hb];exact⟨rfl,rfl⟩
 rintro⟨h1,h2⟩;unfold qW;simp only[h1,h2,decide_true,Bool.and_self]
theorem below_drewN {B:Nat}{a w:World}(h:Below B a w)(n:Nat):Below B a (w.drewN n):=⟨h.os,h.tape,h.output,h.size,h.block⟩
theorem aas:∀l:List Va,l.length<=(dY l).length:=by
 intro l;unfold dY;rw[List.length_append,cV]
 have:l.length<=(l.flatMap fp).length:=by
  induction l with
  | nil=>simp
  | cons x r ih =>
   rw[List.flatMap_cons,List.length_append,List.length_cons];have:1<=(fp x).length:=by unfold fp;simp
   omega
 omega
theorem aat {L:List Int}{r:lK×Bool×List Int}(hw:BytesWf L)(hr:jW false L=r)(hd:(!r.2.1 && r.2.2.isEmpty)=true):r.1.args.length<=L.length:=by
 obtain⟨P,bad,left⟩:=r;simp only[Bool.and_eq_true,Bool.not_eq_true',List.isEmpty_iff]at hd;have h:=(Ya hw hr hd.1 hd.2).2;have h2:=aas P.args;dsimp only;omega
theorem aau {Z:ks}(M db:Nat)(bad:Bool)(left:List Int)(w:World)(h:Ref Z w M db bad left) :
  Calls prog 67 #[.pointer (some ⟨db,0,none⟩)] w λ e w'=>e=.returned (.bool (!bad && left.isEmpty))/\Below w.heap.size w w':=by
 obtain⟨k,ao,m,cap,xs,h,rfl⟩:=h;have d0:w.cell? ⟨db,0,none⟩=some (.slice ao m cap):=ab h.blk 0;have d1:w.cell? ⟨db,1,none⟩=some (.int .i64 k):=ab h.blk 1;have d2:w.cell? ⟨db,2,none⟩=some (.bool bad):=ab h.blk 2;have hkm:=h.at_;have hld:(xs.drop k).length=m-k:=by rw[List.length_drop,h.len]
 have my:(xs.drop k).isEmpty=decide (m-k=0):=by
  rw[<-hld];cases xs.drop k<;>simp
 rw[my];clear h hld my;cases bad with
 | true =>
  go_enter func67,ntmps67
  go_wp2_with fail
  go_quiet (fail)
  go_wp2_with fail
  go_ret;exact⟨rfl,below_drewN (aj _ _) _⟩
 | false =>
  by_cases he:k=m
  ·
   subst he;go_enter func67,ntmps67
   go_wp2_with fail
   go_quiet (fail)
   go_wp2_with fail
   go_ret;exact⟨dT (by simp),below_drewN (aj _ _) _⟩
  have j1:¬(k:Int)=m:=by omega
  have j2:decide ((k:Int)=m)=false:=by simp;omega
  have j3:((k:Int)==m)=false:=by simp;omega
  have j4:decide (k=m)=false:=by simpa using he
  have j5:(k==m)=false:=by simpa using he
  have j6:decide (m-k=0)=false:=by simp;omega
  rw[j6];go_enter func67,ntmps67
  go_wp2_with fail
  go_quiet (fail)
  go_wp2_with fail
  go_ret;exact⟨rfl,below_drewN (aj _ _) _⟩
theorem aav {w:World}{a:Option Addr}{n c:Nat}{L:List Int}{base:Nat}(h:BOwn w base a n c L)(hl:n<=140737488351232):Ref ⟨a,n,c,L⟩ (w.alloc (.cells #[.slice a n c,.int .i64 0,.bool false] 91)) w.heap.size w.heap.size false L:=by
 have hb:=(aj w.heap.size w).alloc (aa _) (.cells #[.slice a n c,.int .i64 0,.bool false] 91);have gq:=(wA h.len h.row).below hb (aa _);refine⟨0,a,n,c,L,⟨heap_alloc_new w _,?_,h.len,mp h.row,iW h.row,iX _,hb.size,hl,rfl⟩,by simp⟩;rcases gq with h0|⟨b,off,h1,h2,h3⟩
 · exact Or.inl h0
 exact Or.inr ⟨b,off,h1,h2,by omega,h3⟩
theorem aaw (x:En)(w:World)(hx:rG w w.heap.size x)(hf:gV x)(g:Bool)(hg:jm x.plain=g) :
  Calls prog 35 #[.agg (bW x).toArray] w (qN g w):=by
 obtain⟨x0,x1,x2,x3,ck,text,ao,xs,ac,num,vo,vs,vc⟩:=x;obtain⟨n,hn⟩:∃n,xs.length=n:=⟨_,rfl⟩;obtain⟨m,hm⟩:∃m,vs.length=m:=⟨_,rfl⟩;have l1:=hf.args;have l2:=hf.vn;dsimp only at l1 l2;rw[hn]at l1;rw[hm]at l2;have HF:=Hd hf;have HX:=Hd hx;have HN:=Hd hn;have HM:=Hd hm;have HG:=Hd hg;unfold bW;dsimp only;rw[hn,hm];clear hf hx hn hm hg;obtain⟨am,h1,h2,aU⟩:=sH w #[.int .i64 x0,.int .u8 x1,.int .i64 x2,.int .i64 x3,.int .u8 ck,.string text,.slice ao n ac,.int .i64 num,.slice vo m vc] #[.int .i64 x0,.int .u8 x1,.int .i64 0,.int .i64 0,.int .u8 0,.string ⟨#[]⟩,.slice none 0 0,.int .i64 0,.slice none 0 0] 46 46;have bF:=Hd am;have H1:=Hd h1;have H2:=Hd h2;have HZ:=Hd (pJ aU.symm);clear am h1 h2 aU;go_enter func35,ntmps35
 go_upto_region 2 with fail
 have am:=bF.out;have h1:=H1.out;have h2:=H2.out;have aU:=HZ.out;clear bF H1 H2 HZ;generalize (w.alloc (.cells #[.int .i64 x0,.int .u8 x1,.int .i64 x2,.int .i64 x3,.int .u8 ck,.string text,.slice ao n ac,.int .i64 num,.slice vo m vc] 46)).alloc (.cells #[.int .i64 x0,.int .u8 x1,.int .i64 0,.int .i64 0,.int .u8 0,.string ⟨#[]⟩,.slice none 0 0,.int .i64 0,.slice none 0 0] 46)=w2 at am h1 h2 aU ⊢;have fM:=am.size;have H1:=Hd h1;have H2:=Hd h2;have bF:=Hd am;have c0:w2.cell? ⟨w.heap.size,0,none⟩=some (.int .i64 x0):=ab h1 0;have c1:w2.cell? ⟨w.heap.size,1,none⟩=some (.int .u8 x1):=ab h1 1;clear am h1 h2;obtain⟨gw,cN⟩:∃gw,hX x0=gw:=⟨_,rfl⟩;have dE:=Hd cN;clear cN;go_wp2_with fail
 refine(Ag x0 w2 gw dE.out).mono ?_;rintro e wx ⟨rfl,rfl⟩;cases gw with
 | false =>
  have ax:g=false:=by rw[<-HG.out];exact PK _ (Or.inl dE.out)
  have aZ:=Hd ax;clear ax;go_wp2_with fail
  go_ret;exact⟨dT aZ.out.symm,bF.out⟩
 | true =>
 by_cases dH:x1=1
 ·
  subst dH;have fm:=eK H1.out;have CN:=eK H2.out;have fl:g=true↔(⟨x0,1,x2,x3,ck,text,xs,num,vs⟩:dX)=⟨x0,1,0,0,0,⟨#[]⟩,[],0,[]⟩:=by rw[<-HG.out];exact aan _ dE.out rfl
  have kK:=Hd fl;clear fl;go_wp2_with (first|(refine wpList_load_mid rfl 46 (.tmp 1) rfl w.heap.size 0 rfl _ _ fm uT rfl Af ?_)|(refine wpList_load_mid rfl 46 (.tmp 3) rfl (w.heap.size+1) 0 rfl _ _ CN uT rfl Af ?_))
  refine(Pd x0 1 x2 x3 ck text ao n ac xs num vo m vc vs x0 1 0 0 0 ⟨#[]⟩ none 0 0 [] 0 none 0 0 [] w2 w.heap.size HN.out rfl HM.out rfl (HX.out.1.below cn bF.out (aa _)) (Or.inl rfl) (HX.out.2.below cn bF.out (aa _)) (Or.inl rfl) fM (by omega) (by omega) (by omega) (by omega) g kK.out).mono ?_;rintro e w3 ⟨rfl,b3⟩;clear fm CN c0 c1;go_wp2_with fail
  go_ret;exact⟨rfl,bF.out.trans (b3.mono fM)⟩
 by_cases dh:x1=2
 ·
  subst dh;clear dH;have hgc:g=(decide (0<=x2) && (decide (0<=x3) && (decide (vs.length=0) && qW ⟨ck,text,xs,num⟩))):=by rw[<-HG.out];exact aaq _ dE.out rfl
  have CO:=Hd hgc;clear hgc;have hk:=H1.out;have c4:w2.cell? ⟨w.heap.size,4,none⟩=some (.int .u8 ck):=ab hk 4;have c5:w2.cell? ⟨w.heap.size,5,none⟩=some (.string text):=ab hk 5;have c6:w2.cell? ⟨w.heap.size,6,none⟩=some (.slice ao n ac):=ab hk 6;have c7:w2.cell? ⟨w.heap.size,7,none⟩=some (.int .i64 num):=ab hk 7;obtain⟨L,hL⟩:∃L,jT ck text num xs=L:=⟨_,rfl⟩;have ij:=HF.out.ok
  have Iw:L.length<=405000000:=by
   rw[<-hL,vC];have h1:=HF.out.text;have h2:=HF.out.size;dsimp only at h1 h2;omega
  have PL:BytesWf L:=by rw[<-hL];exact Gd ck text num xs HF.out.wf.ck HF.out.wf.args
  obtain⟨r,hr⟩:∃r,jW false L=r:=⟨_,rfl⟩;have hwi:=aar (c:=⟨ck,text,xs,num⟩) ij.num ij.text ij.args ij.wf r (by rw[<-hr,<-hL]);have HL:=Hd hL;have HR:=Hd hr;have PM:=Hd hwi;have be:=Hd PL;clear hk ij hL hr hwi PL;go_wp2_with fail
  refine(OS ck text ao n ac num xs L w2 HL.out HN.out ((HX.out.1.below cn bF.out (aa _)).mono cK fM) (λ v hv=>aF (HF.out.vH v hv) (by decide)) (aF HF.out.text (by decide)) (by omega) (by omega)).mono ?_;rintro e w3 ⟨a3,n3,d3,rfl,iT,b3⟩;have cA:=b3.size;have bL:=(b3.block w.heap.size (by omega)).trans H1.out;have hR:=aav iT (by have:=iT.len;omega);have aS:=(aj w3.heap.size w3).alloc (aa _) (.cells #[.slice a3 n3 d3,.int .i64 0,.bool false] 91);have fY:=(aS.block w.heap.size (by omega)).trans bL;have bO:=(bF.out.trans (b3.mono fM)).trans (aS.mono (by omega));have lX:=aS.size;have R4:=Hd hR;have K4:=Hd fY;have B4:=Hd bO;clear iT b3 bL hR aS fY bO c0 c1 c4 c5 c6 c7;go_upto_region 9 with fail
  have CP:w3.heap.size<(w3.alloc (.cells #[.slice a3 n3 d3,.int .i64 0,.bool false] 91)).heap.size:=R4.out.lt;generalize w3.alloc (.cells #[.slice a3 n3 d3,.int .i64 0,.bool false] 91)=w4 at R4 K4 B4 lX CP ⊢;go_wp2_with fail
  refine(Pn w3.heap.size w3.heap.size false L r w4 HR.out R4.out be.out).mono ?_;rintro e w5 ⟨f,hfp,rfl,hfo,CQ,gn⟩;have ik:=gn.1;have lW:=(gn.2 w.heap.size (by omega) (by omega)).trans K4.out;have ak:=B4.out.trans (gn.toBelow B4.out.size (by omega));obtain⟨fk,ft,fa,IV,fc,wG⟩:=f;unfold Cm.plain at hfp;dsimp only at hfp hfo;obtain⟨fn,m8⟩:∃fn,IV.length=fn:=⟨_,rfl⟩;have zY:=iZ.vals rfl hfo;have jC:=Hd m8;unfold zr;dsimp only;rw[m8];have aS:=(aj w5.heap.size w5).alloc (aa _) (.cells #[.int .u8 fk,.string ft,.slice fa fn fc,.int .i64 wG] 44);have np:=(aS.block w.heap.size (by omega)).trans lW;have PN:=heap_alloc_new w5 (.cells #[.int .u8 fk,.string ft,.slice fa fn fc,.int .i64 wG] 44);have bg:=ak.trans (aS.mono (by omega));have PO:=(RowsIn.below cn zY aS (aa _));have CR:=CQ.below aS;have PP:=Hd hfp;have K6:=Hd np;have Q6:=Hd PN;have B6:=Hd bg;have V6:=Hd PO;have R6:=Hd CR;clear hfp hfo CQ gn lW ak m8 zY aS np PN bg PO CR R4 K4 B4;go_upto_region 10 with fail
  have CS:w5.heap.size<(w5.alloc (.cells #[.int .u8 fk,.string ft,.slice fa fn fc,.int .i64 wG] 44)).heap.size:=(Array.getElem?_eq_some_iff.1 Q6.out).1;generalize w5.alloc (.cells #[.int .u8 fk,.string ft,.slice fa fn fc,.int .i64 wG] 44)=w6 at K6 Q6 B6 V6 R6 CS ⊢;have hk:=K6.out;have c2:w6.cell? ⟨w.heap.size,2,none⟩=some (.int .i64 x2):=ab hk 2;have c3:w6.cell? ⟨w.heap.size,3,none⟩=some (.int .i64 x3):=ab hk 3;have c8:w6.cell? ⟨w.heap.size,8,none⟩=some (.slice vo m vc):=ab hk 8;clear hk;obtain⟨dn,hdn⟩:∃dn,(!r.2.1 && r.2.2.isEmpty)=dn:=⟨_,rfl⟩;have ER:=Hd hdn;clear hdn;by_cases eR:0<=x2
  rotate_left
  ·
   have ax:g=false:=by rw[CO.out,decide_eq_false eR];rfl
   have aZ:=Hd ax;clear ax;go_wp2_with fail
   go_ret;exact⟨dT aZ.out.symm,B6.out⟩
  by_cases oA:0<=x3
  rotate_left
  ·
   have ax:g=false:=by rw[CO.out,decide_eq_false oA,Bool.false_and,Bool.and_false]
   have aZ:=Hd ax;clear ax;go_wp2_with fail
   go_ret;exact⟨dT aZ.out.symm,B6.out⟩
  by_cases eF:m=0
  rotate_left
  ·
   have ax:g=false:=by rw[CO.out,HM.out,decide_eq_false eF,Bool.false_and,Bool.and_false,Bool.and_false]
   have aZ:=Hd ax;have n1:¬(m:Int)=0:=by omega
   clear ax;go_wp2_with fail
   go_ret;exact⟨dT aZ.out.symm,B6.out⟩
  have CT:g=qW ⟨ck,text,xs,num⟩:=by rw[CO.out,decide_eq_true eR,decide_eq_true oA,HM.out,decide_eq_true eF];rfl
  have bB:=Hd CT;clear CT CO;subst eF;go_wp2_with fail
  refine(aau w3.heap.size w3.heap.size r.2.1 r.2.2 w6 R6.out).mono ?_;rintro e w7 ⟨he,b7⟩;rw[ER.out]at he;subst he;cases dn with
  | false =>
   have ax:g=false:=by
    rw[bB.out];cases hh:qW ⟨ck,text,xs,num⟩with
    | false=>rfl
    | true =>
     have h3:=(PM.out.1 hh).1;rw[ER.out]at h3;cases h3
   have aZ:=Hd ax;clear ax c2 c3 c8;go_wp2_with fail
   go_ret;exact⟨dT aZ.out.symm,B6.out.trans (b7.mono B6.out.size)⟩
  | true =>
   have fl:g=true↔(⟨fk,ft,IV,wG⟩:lK)=⟨ck,text,xs,num⟩:=by
    rw[bB.out,PM.out,ER.out,PP.out];exact⟨λ h=>h.2,λ h=>⟨rfl,h⟩⟩
   have kK:=Hd fl;have rt:=(b7.block w.heap.size (by have:=B6.out.size;omega)).trans K6.out;have PQ:=(b7.block w5.heap.size CS).trans Q6.out;have rq:w7.rangeAt w5.heap.size 0 [.int .u8 fk,.string ft,.slice fa fn fc,.int .i64 wG]:=eK PQ;have CE:w7.cell? ⟨w.heap.size,4,none⟩=some (.int .u8 ck):=ab rt 4;have CF:w7.cell? ⟨w.heap.size,5,none⟩=some (.string text):=ab rt 5;have CG:w7.cell? ⟨w.heap.size,6,none⟩=some (.slice ao n ac):=ab rt 6;have CH:w7.cell? ⟨w.heap.size,7,none⟩=some (.int .i64 num):=ab rt 7;have tN:=Hd (show w7.rangeAt w.heap.size 4 [.int .u8 ck,.string text,.slice ao n ac,.int .i64 num]from mP CE (mP CF (mP CG (mP CH CC))));have HRQ:=Hd rq;have B7:=Hd (B6.out.trans (b7.mono B6.out.size));have V7:=Hd ((RowsIn.below cn V6.out b7 (by omega)).mono cK (show w5.heap.size<=w7.heap.size by have:=b7.size;omega));have X7:=Hd ((HX.out.1.below cn B7.out (aa _)).mono cK B7.out.size);clear fl rt PQ rq CE CF CG CH b7 c2 c3 c8;have hfl:fn<=4611686018427387904:=(by have:=aat be.out HR.out ER.out;rw[<-PP.out]at this;dsimp only at this;rw[jC.out]at this;omega);go_wp2_with (first|(refine mQ (by rfl) 44 (.tmp 5) rfl w5.heap.size 0 rfl [.int .u8 fk,.string ft,.slice fa fn fc,.int .i64 wG] _ HRQ.out uR rfl Ae ?_)|(refine mQ (by rfl) 44 (.tmp 51) rfl w.heap.size 4 rfl [.int .u8 ck,.string text,.slice ao n ac,.int .i64 num] _ tN.out uR rfl Ae ?_))
   refine(OZ fk ft fa fn fc IV wG ck text ao n ac xs num w7 w7.heap.size jC.out HN.out V7.out X7.out (aa _) hfl (by omega) g kK.out).mono ?_;rintro e w8 ⟨rfl,b8⟩;go_wp2_with fail
   go_ret;exact⟨rfl,B7.out.trans (b8.mono B7.out.size)⟩
 by_cases bL:x1=3
 ·
  subst bL;have hk:=H1.out;have hq:=H2.out;have c8:w2.cell? ⟨w.heap.size,8,none⟩=some (.slice vo m vc):=ab hk 8;have d8:w2.cell? ⟨w.heap.size+1,8,none⟩=some (.slice none 0 0):=ab hq 8;have f8:w2.frozen? ⟨w.heap.size+1,8,none⟩=false:=aO hq 8;have fl:g=true↔((⟨x0,3,x2,x3,ck,text,xs,num,vs⟩:dX)=⟨x0,3,0,0,0,⟨#[]⟩,[],0,vs⟩/\kE vs=true):=by rw[<-HG.out];exact aap _ dE.out rfl
  have kK:=Hd fl;clear fl hk hq dH dh;go_upto_region 13 with fail
  have ho:=Only.set (w.heap.size+1) w2 8 (.slice vo m vc);have bL:=(ho.2 w.heap.size (by omega) (by omega)).trans H1.out;have fZ:(w2.setCell ⟨w.heap.size+1,8,none⟩ (.slice vo m vc)).heap[w.heap.size+1]?=some (.cells #[.int .i64 x0,.int .u8 3,.int .i64 0,.int .i64 0,.int .u8 0,.string ⟨#[]⟩,.slice none 0 0,.int .i64 0,.slice vo m vc] 46 (0,0)):=js H2.out _ rfl;have ap:=bF.out.trans (ho.toBelow fM (by omega));have cA:=ho.1;generalize w2.setCell ⟨w.heap.size+1,8,none⟩ (.slice vo m vc)=w3 at bL fZ ap cA ⊢;have fm:=eK bL;have CN:=eK fZ;have K3:=Hd bL;have B3:=Hd ap;obtain⟨gs,hgs⟩:=aam ((⟨x0,3,x2,x3,ck,text,xs,num,vs⟩:dX)=⟨x0,3,0,0,0,⟨#[]⟩,[],0,vs⟩);have IW:=Hd hgs;clear bL fZ ap hgs c8 d8 f8 c0 c1 ho;go_wp2_with (first|(refine wpList_load_mid rfl 46 (.tmp 1) rfl w.heap.size 0 rfl _ _ fm uT rfl Af ?_)|(refine wpList_load_mid rfl 46 (.tmp 3) rfl (w.heap.size+1) 0 rfl _ _ CN uT rfl Af ?_))
  refine(Pd x0 3 x2 x3 ck text ao n ac xs num vo m vc vs x0 3 0 0 0 ⟨#[]⟩ none 0 0 [] 0 vo m vc vs w3 w.heap.size HN.out rfl HM.out HM.out (HX.out.1.below cn B3.out (aa _)) (Or.inl rfl) (HX.out.2.below cn B3.out (aa _)) (HX.out.2.below cn B3.out (aa _)) (by omega) (by omega) (by omega) (by omega) (by omega) gs IW.out).mono ?_;rintro e w4 ⟨rfl,b4⟩;have fY:=(b4.block w.heap.size (by omega)).trans K3.out;have c8:w4.cell? ⟨w.heap.size,8,none⟩=some (.slice vo m vc):=ab fY 8;have B4:=Hd (B3.out.trans (b4.mono (by omega)));clear fm CN fY b4;cases gs with
  | false =>
   have ax:g=false:=it kK.out (λ h=>by have:=IW.out.2 h.1;cases this);have aZ:=Hd ax;clear ax c8;go_wp2_with fail
   go_ret;exact⟨dT aZ.out.symm,B4.out⟩
  | true =>
   have ax:kE vs=g:=by
    cases hv:kE vs with
    | true=>exact(kK.out.2 ⟨IW.out.1 rfl,hv⟩).symm
    | false=>exact(it kK.out (λ h=>by rw[hv]at h;cases h.2)).symm
   have aZ:=Hd ax;clear ax;go_wp2_with fail
   refine(Pk vo m vc vs w4 w.heap.size HM.out (HX.out.2.below cn B4.out (aa _)) (by omega) g aZ.out).mono ?_;rintro e wx ⟨rfl,rfl⟩;go_wp2_with fail
   go_ret;exact⟨rfl,B4.out⟩
 have ax:g=false:=by rw[<-HG.out];exact PK _ (Or.inr ⟨dH,dh,bL⟩)
 have aZ:=Hd ax;have n1:(x1==1)=false:=beq_eq_false_iff_ne.2 dH;have n2:(x1==2)=false:=beq_eq_false_iff_ne.2 dh;have n3:(x1==3)=false:=beq_eq_false_iff_ne.2 bL;clear ax;go_wp2_with fail
 go_ret;exact⟨dT aZ.out.symm,bF.out⟩
theorem aay (ao:Option Addr)(n cap:Nat)(co:Option Addr)(m cap2:Nat)(w:World)(hnm:n≠m)(hl:n<=4611686018427387904)(cG:m<=4611686018427387904) :
  Calls prog 56 #[.slice ao n cap,.slice co m cap2] w (qN false w):=by
 have i1:((n:Int)==m)=false:=beq_eq_false_iff_ne.2 (by omega);have i2:((n:Int) != m)=true:=bne_iff_ne.2 (by omega);go_enter func56,ntmps56
 go_wp2_with fail
 go_ret;exact⟨rfl,aj _ _⟩
theorem aaz (ao:Option Addr)(n cap:Nat)(co:Option Addr)(m cap2:Nat)(w:World)(hnm:n≠m)(hl:n<=4611686018427387904)(cG:m<=4611686018427387904) :
  Calls prog 57 #[.slice ao n cap,.slice co m cap2] w (qN false w):=by
 have i1:((n:Int)==m)=false:=beq_eq_false_iff_ne.2 (by omega);have i2:((n:Int) != m)=true:=bne_iff_ne.2 (by omega);go_enter func57,ntmps57
 go_wp2_with fail
 go_ret;exact⟨rfl,aj _ _⟩
theorem aaA (ao:Option Addr)(n cap:Nat)(co:Option Addr)(m cap2:Nat)(w:World)(hnm:n≠m)(hl:n<=4611686018427387904)(cG:m<=4611686018427387904) :
  Calls prog 11 #[.slice ao n cap,.slice co m cap2] w (qN false w):=by
 have i1:((n:Int)==m)=false:=beq_eq_false_iff_ne.2 (by omega);have i2:((n:Int) != m)=true:=bne_iff_ne.2 (by omega);go_enter func11,ntmps11
 go_wp2_with fail
 go_ret;exact⟨rfl,aj _ _⟩
theorem aaB (ao:Option Addr)(n cap:Nat)(co:Option Addr)(m cap2:Nat)(xs ys:List En)(w:World)(hn:xs.length=n)(hm:ys.length=m)(hx:kV w w.heap.size ao xs)(hy:kV w w.heap.size co ys)(hc:ys=xs∨ys=[])(hl:n<=4000000)(nF:∀x∈xs,Bm x)(g:Bool)(hg:decide (n=m)=g) :
  Calls prog 56 #[.slice ao n cap,.slice co m cap2] w (qN g w):=by
 have qn:m<=n:=by
  rcases hc with h1|h1
  · rw[h1]at hm;omega
  rw[h1]at hm;simp at hm;omega
 by_cases h:n=m
 ·
  obtain rfl:g=true:=by rw[<-hg];exact decide_eq_true h
  have he:ys=xs:=by
   rcases hc with h1|h1
   · exact h1
   rw[h1]at hm ⊢;exact(wU (by rw[hn,h,<-hm];rfl)).symm
  subst he;exact Lw ao n cap co m cap2 ys ys w w.heap.size hn hm rfl hx hy (aa _) (by omega) nF
 obtain rfl:g=false:=by rw[<-hg];exact decide_eq_false h
 exact aay ao n cap co m cap2 w h (by omega) (by omega)
theorem aaC (ao:Option Addr)(n cap:Nat)(co:Option Addr)(m cap2:Nat)(xs ys:List Int)(w:World)(hn:xs.length=n)(hm:ys.length=m)(hx:gS w w.heap.size ao xs)(hy:gS w w.heap.size co ys)(hc:ys=xs∨ys=[])(hl:n<=4000000)(g:Bool)(hg:decide (n=m)=g) :
  Calls prog 57 #[.slice ao n cap,.slice co m cap2] w (qN g w):=by
 have qn:m<=n:=by
  rcases hc with h1|h1
  · rw[h1]at hm;omega
  rw[h1]at hm;simp at hm;omega
 by_cases h:n=m
 ·
  obtain rfl:g=true:=by rw[<-hg];exact decide_eq_true h
  have he:ys=xs:=by
   rcases hc with h1|h1
   · exact h1
   rw[h1]at hm ⊢;exact(wU (by rw[hn,h,<-hm];rfl)).symm
  subst he;exact FH ao n cap co m cap2 ys w w.heap.size hn hm hx hy (aa _) (by omega)
 obtain rfl:g=false:=by rw[<-hg];exact decide_eq_false h
 exact aaz ao n cap co m cap2 w h (by omega) (by omega)
theorem aaD (ao:Option Addr)(n cap:Nat)(co:Option Addr)(m cap2:Nat)(xs ys:List Int)(w:World)(hn:xs.length=n)(hm:ys.length=m)(hx:BytesIn w w.heap.size ao xs)(hy:BytesIn w w.heap.size co ys)(hc:ys=xs∨ys=[])(hl:n<=4000000)(g:Bool)(hg:decide (n=m)=g) :
  Calls prog 11 #[.slice ao n cap,.slice co m cap2] w (qN g w):=by
 have qn:m<=n:=by
  rcases hc with h1|h1
  · rw[h1]at hm;omega
  rw[h1]at hm;simp at hm;omega
 by_cases h:n=m
 ·
  obtain rfl:g=true:=by rw[<-hg];exact decide_eq_true h
  have he:ys=xs:=by
   rcases hc with h1|h1
   · exact h1
   rw[h1]at hm ⊢;exact(wU (by rw[hn,h,<-hm];rfl)).symm
  subst he;exact DR ao n cap co m cap2 ys w hn hm hx hy (by omega)
 obtain rfl:g=false:=by rw[<-hg];exact decide_eq_false h
 exact aaA ao n cap co m cap2 w h (by omega) (by omega)
theorem yj (kd fr tt tm ix ws:Int)(ob:Bool)(cm rn:Int)(ea:Option Addr)(n ec:Nat)(va:Option Addr)(m vc:Nat)(ia:Option Addr)(q ic:Nat)(es:List En)(vs im:List Int)
  (oK su sw sx sy sA:Int) (sB:Bool) (sC sD:Int) (ir:Option Addr) (n2 iB:Nat) (fR:Option Addr) (m2 dG:Nat) (om:Option Addr) (q2 jc:Nat) (es2:List En) (vs2 uJ:List Int) (w:World)
  (hn:es.length=n) (hm:vs.length=m) (hq:im.length=q) (dW:es2.length=n2) (qn:vs2.length=m2) (ke:uJ.length=q2)
  (hx:kV w w.heap.size ea es) (eR:gS w w.heap.size va vs) (oA:BytesIn w w.heap.size ia im) (hy:kV w w.heap.size ir es2) (me:gS w w.heap.size fR vs2) (hy3:BytesIn w w.heap.size om uJ)
  (hc:es2=es∨es2=[]) (bN:vs2=vs∨vs2=[]) (hc3:uJ=im∨uJ=[]) (nF:∀x∈es,Bm x) (l1:n<=4000000) (l2:m<=4000000) (l3:q<=4000000)
  (g:Bool) (hg:g=true↔((kd=oK/\fr=su/\tt=sw/\tm=sx/\ix=sy/\ws=sA/\ob=sB/\cm=sC/\rn=sD)/\n=n2/\m=m2/\q=q2)) :
  Calls prog 28 #[.agg #[.int .u8 kd,.int .i64 fr,.int .i64 tt,.int .i64 tm,.int .i64 ix,.int .i64 ws,.bool ob,.int .i64 cm,.int .i64 rn,.slice ea n ec,.slice va m vc,.slice ia q ic],.agg #[.int .u8 oK,.int .i64 su,.int .i64 sw,.int .i64 sx,.int .i64 sy,.int .i64 sA,.bool sB,.int .i64 sC,.int .i64 sD,.slice ir n2 iB,.slice fR m2 dG,.slice om q2 jc]] w (qN g w):=by
 obtain⟨am,h1,h2,aU⟩:=sH w #[.int .u8 kd,.int .i64 fr,.int .i64 tt,.int .i64 tm,.int .i64 ix,.int .i64 ws,.bool ob,.int .i64 cm,.int .i64 rn,.slice ea n ec,.slice va m vc,.slice ia q ic] #[.int .u8 oK,.int .i64 su,.int .i64 sw,.int .i64 sx,.int .i64 sy,.int .i64 sA,.bool sB,.int .i64 sC,.int .i64 sD,.slice ir n2 iB,.slice fR m2 dG,.slice om q2 jc] 32 32;have bF:=Hd am;have H1:=Hd h1;have H2:=Hd h2;have HZ:=Hd (pJ aU.symm);have HG:=Hd hg;have HE:=Hd (fun(w':World) (hb:Below w.heap.size w w') (gg:Bool) (pA:decide (n=n2)=gg)=>aaB ea n ec ir n2 iB es es2 w' hn dW ((hx.below iI hb (aa _)).mono mi hb.size) ((hy.below iI hb (aa _)).mono mi hb.size) hc l1 nF gg pA);have HI:=Hd (fun(w':World) (hb:Below w.heap.size w w') (gg:Bool) (pA:decide (m=m2)=gg)=>aaC va m vc fR m2 dG vs vs2 w' hm qn ((eR.below cn hb (aa _)).mono cK hb.size) ((me.below cn hb (aa _)).mono cK hb.size) bN l2 gg pA);have IC:=Hd (fun(w':World) (hb:Below w.heap.size w w') (gg:Bool) (pA:decide (q=q2)=gg)=>aaD ia q ic om q2 jc im uJ w' hq ke ((oA.below hb (aa _)).mono hb.size) ((hy3.below hb (aa _)).mono hb.size) hc3 l3 gg pA);clear am h1 h2 aU hg hn hm hq dW qn ke hx eR oA hy me hy3 hc bN hc3 nF;go_enter func28,ntmps28
 go_upto_region 1 with fail
 have am:=bF.out;have h1:=H1.out;have h2:=H2.out;have aU:=HZ.out;clear bF H1 H2 HZ;generalize (w.alloc (.cells #[.int .u8 kd,.int .i64 fr,.int .i64 tt,.int .i64 tm,.int .i64 ix,.int .i64 ws,.bool ob,.int .i64 cm,.int .i64 rn,.slice ea n ec,.slice va m vc,.slice ia q ic] 32)).alloc (.cells #[.int .u8 oK,.int .i64 su,.int .i64 sw,.int .i64 sx,.int .i64 sy,.int .i64 sA,.bool sB,.int .i64 sC,.int .i64 sD,.slice ir n2 iB,.slice fR m2 dG,.slice om q2 jc] 32)=w2 at am h1 h2 aU ⊢;have H1:=Hd h1;have H2:=Hd h2;have bF:=Hd am;have c0:w2.cell? ⟨w.heap.size,0,none⟩=some (.int .u8 kd):=ab h1 0;have c1:w2.cell? ⟨w.heap.size,1,none⟩=some (.int .i64 fr):=ab h1 1;have c2:w2.cell? ⟨w.heap.size,2,none⟩=some (.int .i64 tt):=ab h1 2;have c3:w2.cell? ⟨w.heap.size,3,none⟩=some (.int .i64 tm):=ab h1 3;have c4:w2.cell? ⟨w.heap.size,4,none⟩=some (.int .i64 ix):=ab h1 4;have c5:w2.cell? ⟨w.heap.size,5,none⟩=some (.int .i64 ws):=ab h1 5;have c6:w2.cell? ⟨w.heap.size,6,none⟩=some (.bool ob):=ab h1 6;have c7:w2.cell? ⟨w.heap.size,7,none⟩=some (.int .i64 cm):=ab h1 7;have c8:w2.cell? ⟨w.heap.size,8,none⟩=some (.int .i64 rn):=ab h1 8;have d0:w2.cell? ⟨w.heap.size+1,0,none⟩=some (.int .u8 oK):=ab h2 0;have d1:w2.cell? ⟨w.heap.size+1,1,none⟩=some (.int .i64 su):=ab h2 1;have d2:w2.cell? ⟨w.heap.size+1,2,none⟩=some (.int .i64 sw):=ab h2 2;have d3:w2.cell? ⟨w.heap.size+1,3,none⟩=some (.int .i64 sx):=ab h2 3;have d4:w2.cell? ⟨w.heap.size+1,4,none⟩=some (.int .i64 sy):=ab h2 4;have d5:w2.cell? ⟨w.heap.size+1,5,none⟩=some (.int .i64 sA):=ab h2 5;have d6:w2.cell? ⟨w.heap.size+1,6,none⟩=some (.bool sB):=ab h2 6;have d7:w2.cell? ⟨w.heap.size+1,7,none⟩=some (.int .i64 sC):=ab h2 7;have d8:w2.cell? ⟨w.heap.size+1,8,none⟩=some (.int .i64 sD):=ab h2 8;have c9:w2.cell? ⟨w.heap.size,9,none⟩=some (.slice ea n ec):=ab h1 9;have d9:w2.cell? ⟨w.heap.size+1,9,none⟩=some (.slice ir n2 iB):=ab h2 9;clear am h1 h2;by_cases hkd:kd=oK
 rotate_left
 ·
  have ax:g=false:=it HG.out (λ h=>hkd h.1.1);have aZ:=Hd ax;have n1:(kd==oK)=false:=beq_eq_false_iff_ne.2 hkd;clear ax;go_wp2_with fail
  go_ret;exact⟨dT aZ.out.symm,bF.out⟩
 subst hkd;by_cases hfr:fr=su
 rotate_left
 ·
  have ax:g=false:=it HG.out (λ h=>hfr h.1.2.1);have aZ:=Hd ax;have n1:(fr==su)=false:=beq_eq_false_iff_ne.2 hfr;clear ax;go_wp2_with fail
  go_ret;exact⟨dT aZ.out.symm,bF.out⟩
 subst hfr;by_cases CU:tt=sw
 rotate_left
 ·
  have ax:g=false:=it HG.out (λ h=>CU h.1.2.2.1);have aZ:=Hd ax;have n1:(tt==sw)=false:=beq_eq_false_iff_ne.2 CU;clear ax;go_wp2_with fail
  go_ret;exact⟨dT aZ.out.symm,bF.out⟩
 subst CU;by_cases IX:tm=sx
 rotate_left
 ·
  have ax:g=false:=it HG.out (λ h=>IX h.1.2.2.2.1);have aZ:=Hd ax;have n1:(tm==sx)=false:=beq_eq_false_iff_ne.2 IX;clear ax;go_wp2_with fail
  go_ret;exact⟨dT aZ.out.symm,bF.out⟩
 subst IX;by_cases hix:ix=sy
 rotate_left
 ·
  have ax:g=false:=it HG.out (λ h=>hix h.1.2.2.2.2.1);have aZ:=Hd ax;have n1:(ix==sy)=false:=beq_eq_false_iff_ne.2 hix;clear ax;go_wp2_with fail
  go_ret;exact⟨dT aZ.out.symm,bF.out⟩
 subst hix;by_cases hws:ws=sA
 rotate_left
 ·
  have ax:g=false:=it HG.out (λ h=>hws h.1.2.2.2.2.2.1);have aZ:=Hd ax;have n1:(ws==sA)=false:=beq_eq_false_iff_ne.2 hws;clear ax;go_wp2_with fail
  go_ret;exact⟨dT aZ.out.symm,bF.out⟩
 subst hws;by_cases uB:ob=sB
 rotate_left
 ·
  have ax:g=false:=it HG.out (λ h=>uB h.1.2.2.2.2.2.2.1);have aZ:=Hd ax;have n1:(ob==sB)=false:=beq_eq_false_iff_ne.2 uB;clear ax;go_wp2_with fail
  go_ret;exact⟨dT aZ.out.symm,bF.out⟩
 subst uB;by_cases hcm:cm=sC
 rotate_left
 ·
  have ax:g=false:=it HG.out (λ h=>hcm h.1.2.2.2.2.2.2.2.1);have aZ:=Hd ax;have n1:(cm==sC)=false:=beq_eq_false_iff_ne.2 hcm;clear ax;go_wp2_with fail
  go_ret;exact⟨dT aZ.out.symm,bF.out⟩
 subst hcm;by_cases hrn:rn=sD
 rotate_left
 ·
  have ax:g=false:=it HG.out (λ h=>hrn h.1.2.2.2.2.2.2.2.2);have aZ:=Hd ax;have n1:(rn==sD)=false:=beq_eq_false_iff_ne.2 hrn;clear ax;go_wp2_with fail
  go_ret;exact⟨dT aZ.out.symm,bF.out⟩
 subst hrn;obtain⟨ge,hge⟩:∃gg,decide (n=n2)=gg:=⟨_,rfl⟩;have IY:=Hd hge;clear hge;go_wp2_with fail
 refine(HE.out w2 bF.out ge IY.out).mono ?_;rintro e w3 ⟨rfl,b3⟩;have afm:=b3.size;have ES:=Hd (bF.out.trans (b3.mono bF.out.size));have k1:=(b3.block w.heap.size (by omega)).trans H1.out;have k2:=(b3.block (w.heap.size+1) (by omega)).trans H2.out;have K1:=Hd k1;have K2:=Hd k2;clear b3 H1 H2 c0 d0 c1 d1 c2 d2 c3 d3 c4 d4 c5 d5 c6 d6 c7 d7 c8 d8 c9 d9;have c10:w3.cell? ⟨w.heap.size,10,none⟩=some (.slice va m vc):=ab k1 10;have cE:w3.cell? ⟨w.heap.size+1,10,none⟩=some (.slice fR m2 dG):=ab k2 10;clear k1 k2;cases ge with
 | false =>
  have ax:g=false:=it HG.out (λ h=>of_decide_eq_false IY.out h.2.1);have aZ:=Hd ax;clear ax;go_wp2_with fail
  go_ret;exact⟨dT aZ.out.symm,ES.out⟩
 | true =>
 obtain⟨gi,fl⟩:∃gg,decide (m=m2)=gg:=⟨_,rfl⟩;have IZ:=Hd fl;clear fl;go_wp2_with fail
 refine(HI.out w3 ES.out gi IZ.out).mono ?_;rintro e w4 ⟨rfl,b3⟩;have afn:=b3.size;have ET:=Hd (ES.out.trans (b3.mono ES.out.size));have k1:=(b3.block w.heap.size (by omega)).trans K1.out;have k2:=(b3.block (w.heap.size+1) (by omega)).trans K2.out;clear b3 K1 K2 c10 cE;have c11:w4.cell? ⟨w.heap.size,11,none⟩=some (.slice ia q ic):=ab k1 11;have cM:w4.cell? ⟨w.heap.size+1,11,none⟩=some (.slice om q2 jc):=ab k2 11;clear k1 k2;cases gi with
 | false =>
  have ax:g=false:=it HG.out (λ h=>of_decide_eq_false IZ.out h.2.2.1);have aZ:=Hd ax;clear ax;go_wp2_with fail
  go_ret;exact⟨dT aZ.out.symm,ET.out⟩
 | true =>
 have ax:decide (q=q2)=g:=by
  cases hd:decide (q=q2)with
  | true=>exact(HG.out.2 ⟨⟨by first|rfl|trivial,by first|rfl|trivial,by first|rfl|trivial,by first|rfl|trivial,by first|rfl|trivial,by first|rfl|trivial,by first|rfl|trivial,by first|rfl|trivial,by first|rfl|trivial⟩,of_decide_eq_true IY.out,of_decide_eq_true IZ.out,of_decide_eq_true hd⟩).symm
  | false=>exact(it HG.out (λ h=>of_decide_eq_false hd h.2.2.2)).symm
 have aZ:=Hd ax;clear ax;go_wp2_with fail
 refine(IC.out w4 ET.out g aZ.out).mono ?_;rintro e w5 ⟨rfl,b3⟩;clear c11 cM;go_wp2_with fail
 go_ret;exact⟨rfl,ET.out.trans (b3.mono ET.out.size)⟩
end Go.Proofs.YtepdklfkegkojaaGreatDoor
