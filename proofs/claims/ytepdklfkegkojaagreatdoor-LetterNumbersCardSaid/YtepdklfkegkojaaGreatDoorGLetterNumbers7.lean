/- Parts of one proof. Conditions: as each says. -/
import Derived.Test.YtepdklfkegkojaaGreatDoorGLetterNumbers0
import Derived.Test.YtepdklfkegkojaaGreatDoorGLetterNumbers6
import Derived.Deep.DeepCutAuto
set_option linter.all false
set_option maxHeartbeats 16000000
set_option maxRecDepth 100000
namespace Go.Proofs.YtepdklfkegkojaaGreatDoor
open Go.Proofs.Tryz
open Go.RowKit
theorem Ge {n:Int}(h:¬(0<=n/\n<=1099511627776)):hX n=false:=by
 cases hw:hX n with
 | false=>rfl
 | true=>exact absurd (DW.1 hw) h
theorem kp (g:Bool):∃P:Bool×Bool,g=P.1:=⟨(g,g),rfl⟩
theorem Mo (ao:Option Addr)(n cap:Nat)(xs:List Int)(w:World)(B:Nat)(hn:xs.length=n)(hx:gS w B ao xs)(hl:n<=4398046511104)(g:Bool)(hg:xs.all hX=g) :
  Calls prog 20 #[.slice ao n cap] w λ e w'=>e=.returned (.bool g)/\w=w':=by
 have HX:=Hd hx;have HN:=Hd hn;obtain⟨P,hP⟩:=kp g;rw[hP]at hg;have HG:=Hd hg;rw[hP];clear hx hn hg hP;go_enter func20,ntmps20
 go_wp2_with fail
 go_loopw [7] (λ i wr=>∃k:Nat,k<=n/\i=.int .i64 k/\(xs.take k).all hX=true/\w=wr) (λ i _=>n-(intOf i).toNat)
 exact⟨0,by omega,rfl,rfl,rfl⟩
 obtain⟨k,hk,rfl,ky,rfl⟩:=hrel;have HA:=Hd ky;clear ky;by_cases ae:k<n
 ·
  have i1:(k:Int)<n:=by omega
  have aQ:xs[k]?=some (xs[k]'(by rw[HN.out];exact ae)):=bu _;have bJ:xs.take (k+1)=xs.take k++[xs[k]'(by rw[HN.out];exact ae)]:=iJ _;have pV:(xs[k]'(by rw[HN.out];exact ae))∈xs:=mC _;obtain⟨b,off,bm,hb,hc,_⟩:=HX.out.at aQ;generalize xs[k]'(by rw[HN.out];exact ae)=x at hc aQ bJ pV
  have c0:w.cell? ⟨b,off+k,none⟩=some (.int .i64 x):=by
   have:=hc 0 (by decide);rw[Nat.mul_one,Nat.add_zero]at this;exact this
  subst bm;have HT:=Hd bJ;have HM:=Hd pV;clear hc aQ bJ pV
  have wR:¬(0<=x/\x<=1099511627776)->P.1=false:=λ h=>by
   rw[<-HG.out];cases hh:xs.all hX with
   | false=>rfl
   | true =>
    have:=List.all_eq_true.1 hh _ HM.out;rw[Ge h]at this;cases this
  have tW:=Hd wR;clear wR;by_cases h1:x<0
  ·
   have hf:=tW.out (by omega);go_wp2_with fail
   go_ret;exact⟨by first|rfl|(rw[hf];rfl),by first|rfl|trivial⟩
  by_cases h2:1099511627776<x
  ·
   have hf:=tW.out (by omega);go_wp2_with fail
   go_ret;exact⟨by first|rfl|(rw[hf];rfl),by first|rfl|trivial⟩
  have hw:hX x=true:=DW.2 (by omega);have HW:=Hd hw;clear hw;go_wp2_with fail
  go_roundw
  exact⟨k+1,by omega,by go_num,by rw[HT.out,List.all_append,HA.out];simp[HW.out],by first|rfl|trivial⟩
  simp[intOf]<;>omega
 have i1:¬(k:Int)<n:=by omega
 obtain rfl:k=n:=by omega
 have fX:P.1=true:=by
  rw[<-HG.out];have:=HA.out;rw[fE (by rw[HN.out];exact aa _)]at this;exact this
 go_wp2_with fail
 go_ret;exact⟨by first|rfl|(rw[fX];rfl),by first|rfl|trivial⟩
theorem Mp:∀(l:List Int) (last:Int) (k:Nat) (x:Int),l[k]?=some x->mG last (l.take k)=true->mG last l=true->(l.take k).getLastD last<x/\x<=9:=by
 intro l;induction l with
 | nil=>intro last k x h;simp at h
 | cons y l ih =>
  intro last k x h h1 h2;cases k with
  | zero =>
   simp only[List.getElem?_cons_zero,Option.some.injEq]at h;subst h;simp only[mG,Bool.and_eq_true,decide_eq_true_eq]at h2;exact h2.1
  | succ k =>
   simp only[List.getElem?_cons_succ]at h;simp only[List.take_succ_cons,mG,Bool.and_eq_true]at h1 h2;have:=ih y k x h h1.2 h2.2;rw[List.take_succ_cons,List.getLastD_cons];exact this
theorem Mq:∀(l:List Int) (last x:Int),mG last (l++[x])=(mG last l && (decide (l.getLastD last<x) && decide (x<=9))):=by
 intro l;induction l with
 | nil=>intro last x;simp[mG]
 | cons y l ih =>
  intro last x;rw[List.cons_append,mG,ih,mG,List.getLastD_cons];simp only[Bool.and_assoc]
theorem Mr (ao:Option Addr)(n cap:Nat)(xs:List Int)(w:World)(B:Nat)(hn:xs.length=n)(hx:gS w B ao xs)(hl:n<=4398046511104)(g:Bool)(hg:kE xs=g) :
  Calls prog 22 #[.slice ao n cap] w λ e w'=>e=.returned (.bool g)/\w=w':=by
 have HX:=Hd hx;have HN:=Hd hn;obtain⟨P,hP⟩:=kp g;rw[hP]at hg;have HG:=Hd hg;rw[hP];clear hx hn hg hP;go_enter func22,ntmps22
 go_wp2_with fail
 go_loopw [3,8] (λ m i wr=>∃k:Nat,k<=n/\i=.int .i64 k/\m=.int .i64 ((xs.take k).getLastD 0)/\mG 0 (xs.take k)=true/\w=wr) (λ _ i _=>n-(intOf i).toNat)
 exact⟨0,by omega,rfl,rfl,rfl,rfl⟩
 obtain⟨k,hk,rfl,rfl,ky,rfl⟩:=hrel;have HA:=Hd ky;clear ky;by_cases ae:k<n
 ·
  have i1:(k:Int)<n:=by omega
  have aQ:xs[k]?=some (xs[k]'(by rw[HN.out];exact ae)):=bu _;have bJ:xs.take (k+1)=xs.take k++[xs[k]'(by rw[HN.out];exact ae)]:=iJ _;obtain⟨b,off,bm,hb,hc,_⟩:=HX.out.at aQ;generalize xs[k]'(by rw[HN.out];exact ae)=x at hc aQ bJ
  have c0:w.cell? ⟨b,off+k,none⟩=some (.int .i64 x):=by
   have:=hc 0 (by decide);rw[Nat.mul_one,Nat.add_zero]at this;exact this
  subst bm;have HT:=Hd bJ
  have wR:¬((xs.take k).getLastD 0<x/\x<=9)->P.1=false:=λ h=>by
   rw[<-HG.out];cases hh:kE xs with
   | false=>rfl
   | true =>
    unfold kE at hh;rw[Bool.and_eq_true]at hh;exact absurd (Mp xs 0 k x aQ HA.out hh.1) h
  have tW:=Hd wR;obtain⟨q,hq⟩:∃q,(xs.take k).getLastD 0=q:=⟨_,rfl⟩;rw[hq]at tW;rw[hq];have HQ:=Hd hq;clear hc aQ bJ wR hq;by_cases h1:x<=q
  ·
   have hf:=tW.out (by omega);go_wp2_with fail
   go_ret;exact⟨by first|rfl|(rw[hf];rfl),by first|rfl|trivial⟩
  by_cases h2:9<x
  ·
   have hf:=tW.out (by omega);go_wp2_with fail
   go_ret;exact⟨by first|rfl|(rw[hf];rfl),by first|rfl|trivial⟩
  have hv:mG 0 (xs.take (k+1))=true/\(xs.take (k+1)).getLastD 0=x:=by
   rw[HT.out,Mq,HA.out,HQ.out];exact⟨by simp;omega,by simp⟩
  have HV:=Hd hv;clear hv;go_wp2_with fail
  go_roundw
  exact⟨k+1,by omega,by go_num,by rw[HV.out.2],HV.out.1,by first|rfl|trivial⟩
  simp[intOf]<;>omega
 have i1:¬(k:Int)<n:=by omega
 obtain rfl:k=n:=by omega
 have ky:mG 0 xs=true:=by
  have:=HA.out;rwa [fE (by rw[HN.out];exact aa _)]at this
 have fX:P.1=(decide (1<=k) && decide (k<=7)):=by
  rw[<-HG.out];unfold kE;rw[ky,HN.out,Bool.true_and]
 have HF:=Hd fX;clear ky fX;by_cases h1:1<=k
 ·
  have j1:(1:Int)<=k:=by omega
  by_cases h2:k<=7
  ·
   have j2:(k:Int)<=7:=by omega
   go_wp2_with fail
   go_ret;exact⟨by rw[HF.out];simp[h1,h2];done,by first|rfl|trivial⟩
  have j2:¬(k:Int)<=7:=by omega
  go_wp2_with fail
  go_ret;exact⟨by rw[HF.out];simp[h2];done,by first|rfl|trivial⟩
 have j1:¬(1:Int)<=k:=by omega
 go_wp2_with fail
 go_ret;exact⟨by rw[HF.out];simp[h1];done,by first|rfl|trivial⟩
theorem Xe {text:ByteArray}(h:¬text=ByteArray.empty):text.toList.isEmpty=false:=by
 cases hh:lJ text with
 | nil =>
  have h1:=zt text;rw[hh]at h1;exact absurd (h1.symm.trans rfl) h
 | cons c l =>
  have h1:text=strOfNums (c :: l):=by rw[<-hh];exact(zt text).symm
  rw[h1,Lib.strOfNums_toList];rfl
theorem Ms (s:ByteArray):s.toList.map (λ c:UInt8=>(c.toNat:Int))=lJ s:=by
 have h:=Lib.strOfNums_toList (lJ s);have e:strOfNums (lJ s)=s:=zt s;rw[e]at h;rw[h];simp[Lib.bytesOf,lJ]
theorem toList_inj {s t:ByteArray}(h:s.toList=t.toList):s=t:=by
 have h1:lJ s=lJ t:=by rw[<-Ms,<-Ms,h]
 rw[<-zt s,<-zt t,h1]
theorem Xf (t:TypeId)(h:t=50)(a b:Int)(s:ByteArray)(w:World):(binOp .neq t (.agg #[.int .u8 a,.int .i64 b,.string s]) (.agg #[.int .u8 a,.int .i64 b,.string s])).run prog w=.ok (.bool false) w:=by
 subst h;simp[go_sem,underlying50]
theorem Xg (t:TypeId)(h:t=50)(a b:Int)(s:ByteArray)(a2 b2:Int)(s2:ByteArray)(dj:¬(⟨a,b,s⟩:Va)=⟨a2,b2,s2⟩)(w:World):(binOp .neq t (.agg #[.int .u8 a,.int .i64 b,.string s]) (.agg #[.int .u8 a2,.int .i64 b2,.string s2])).run prog w=.ok (.bool true) w:=by
 subst h;simp only[Va.mk.injEq]at dj;by_cases h1:a=a2
 ·
  subst h1;by_cases h2:b=b2
  ·
   subst h2;have h3:¬s=s2:=λ h=>dj ⟨rfl,rfl,h⟩
   simp[go_sem,underlying50];exact λ h=>h3 (toList_inj h)
  simp[go_sem,underlying50,h2]
 simp[go_sem,underlying50,h1]
def zC (ck:Int) (text:ByteArray) (num:Int) (n:Nat):Bool:=decide (ck=0) && (decide (text=⟨#[]⟩) && (decide (num=0) && decide (n=0)))
theorem Xh (ck:Int)(text:ByteArray)(ao:Option Addr)(n cap:Nat)(num:Int)(w:World) :
  Calls prog 89 #[.agg #[.int .u8 ck,.string text,.slice ao n cap,.int .i64 num]] w λ e w'=>e=.returned (.bool (zC ck text num n))/\Below w.heap.size w w':=by
 have hb:=(aj w.heap.size w).alloc (aa _) (.cells #[.int .u8 ck,.string text,.slice ao n cap,.int .i64 num] 44);go_enter func89,ntmps89
 by_cases h1:ck=0
 ·
  by_cases h2:text=ByteArray.empty
  ·
   by_cases h3:num=0
   ·
    by_cases h4:n=0
    ·
     subst h1 h2 h3 h4;go_wp2_with fail
     go_ret;exact⟨rfl,hb⟩
    subst h1 h2 h3;have h5:¬(n:Int)=0:=by omega
    have h6:decide ((n:Int)=0)=false:=decide_eq_false h5;go_wp2_with fail
    go_ret;exact⟨by simp[zC,h4],hb⟩
   subst h1 h2;have h6:decide (num=0)=false:=decide_eq_false h3;go_wp2_with fail
   go_ret;exact⟨by simp[zC,h3],hb⟩
  subst h1;have h3:decide (text=ByteArray.empty)=false:=decide_eq_false h2;have h4:=Xe h2;have lB:¬text=⟨#[]⟩:=h2;go_wp2_with fail
  go_ret;exact⟨by simp[zC,lB],hb⟩
 have h6:decide (ck=0)=false:=decide_eq_false h1;go_wp2_with fail
 go_ret;exact⟨by simp[zC,h1],hb⟩
theorem Xi (ck:Int)(text:ByteArray)(ao:Option Addr)(n cap:Nat)(num:Int)(args:List Va)(w:World)(hn:args.length=n)(hx:iz w w.heap.size ao args)(hk:(Lit.int .u8 ck).wf=true)(hw:∀v∈args,um v)(ht:text.size<=4000000)(ha:n<=4000000)(hat:∀v∈args,v.text.size<=4000000)(hs:(dY args).length<=400000000)(g:Bool)(hg:qW ⟨ck,text,args,num⟩=g) :
  Calls prog 90 #[.agg #[.int .u8 ck,.string text,.slice ao n cap,.int .i64 num]] w λ e w'=>e=.returned (.bool g)/\Below w.heap.size w w':=by
 have hF:=(aj w.heap.size w).alloc (aa _) (.cells #[.int .u8 ck,.string text,.slice ao n cap,.int .i64 num] 44);have aQ:=heap_alloc_new w (.cells #[.int .u8 ck,.string text,.slice ao n cap,.int .i64 num] 44);obtain⟨L,hL⟩:∃L,jT ck text num args=L:=⟨_,rfl⟩;have bG:BytesWf L:=hL▸Gd ck text num args hk hw;have eZ:L.length<=410000000:=by rw[<-hL,vC];omega
 obtain⟨r,hr⟩:∃r,jW false L=r:=⟨_,rfl⟩;obtain⟨P,hP⟩:=kp g
 have ax:((!r.2.1 && r.2.2.isEmpty) && (decide (args.length=r.1.args.length) && decide (args=r.1.args)))=P.1:=by
  rw[<-hP,<-hg];unfold qW;dsimp only;rw[hL,hr]
 rw[hP];have HX:=Hd hx;have HN:=Hd hn;have HAT:=Hd hat;have HL:=Hd hL;have be:=Hd bG;have HR:=Hd hr;have HG:=Hd ax;have qa:=Hd hF;have fB:=Hd aQ;clear hx hn hk hw hat hL bG hr hg ax hP hF aQ;go_enter func90,ntmps90
 go_wp2_with fail
 have hF:=qa.out;have aQ:=fB.out;have dz:(w.alloc (.cells #[.int .u8 ck,.string text,.slice ao n cap,.int .i64 num] 44)).heap.size=w.heap.size+1:=by simp
 clear qa fB;generalize w.alloc (.cells #[.int .u8 ck,.string text,.slice ao n cap,.int .i64 num] 44)=w0 at hF aQ dz ⊢;have HX0:=Hd (HX.out.below cn hF (aa _));refine(HL.out▸W4 ck text ao n cap num args w0 HN.out (HX0.out.mono cK (by omega)) (λ v hv=>by have:=HAT.out v hv;omega) (by omega) (by omega)).mono ?_;rintro e w1 ⟨a1,c1,rfl,ho1,ba⟩;have et:=Hd ho1;have bp:=ba.size;clear ho1;go_wp2_with fail
 refine(FF a1 _ c1 L w1 w1.heap.size rfl (vm et.out) (aa _) (iW et.out) (by omega)).mono ?_;rintro e w2 ⟨rb,rfl,ny,fS,am⟩;have HR2:=Hd fS;have aU:=am.size;clear fS et;go_wp2_with fail
 have ap:=(aj w2.heap.size w2).alloc (aa _) (.cells #[.pointer (some ⟨rb,0,none⟩)] 140);have bL:=heap_alloc_new w2 (.cells #[.pointer (some ⟨rb,0,none⟩)] 140);obtain⟨tb,htb⟩:∃tb,w2.heap.size=tb:=⟨_,rfl⟩;have cA:(w2.alloc (.cells #[.pointer (some ⟨rb,0,none⟩)] 140)).heap.size=tb+1:=by simp[htb]
 have Gf:=HR2.out.below ap;have Xj:=HR2.out.lt;rw[htb]at Xj bL ⊢;generalize w2.alloc (.cells #[.pointer (some ⟨rb,0,none⟩)] 140)=w3 at ap bL cA Gf ⊢;have dl:Below w.heap.size w w3:=((hF.trans (ba.mono (by omega))).trans (am.mono (by omega))).trans (ap.mono (by omega))
 have Mt:w3.heap[w.heap.size]?=some (.cells #[.int .u8 ck,.string text,.slice ao n cap,.int .i64 num] 44 (0,0)):=by
  rw[ap.block _ (by omega),am.block _ (by omega),ba.block _ (by omega)];exact aQ
 have kI:=Hd Gf;clear ba am ap HR2 aQ hF HX0 Gf;refine(L8 rb rb false L r w3 HR.out kI.out be.out (by omega)).mono ?_;rintro e w4 ⟨f,hp,he,hv,hr4,jB⟩;subst he;obtain⟨fk,ft,fo,fas,fc,fn⟩:=f;obtain⟨m,hm⟩:∃m,fas.length=m:=⟨_,rfl⟩;simp only[zr];rw[hm];have hpa:fas=r.1.args:=by rw[<-hp];rfl
 have bO:=dl.trans (jB.toBelow (B:=w.heap.size) (by omega) (by omega));have BB:=(jB.block w.heap.size (by omega) (by omega)).trans Mt;have fY:=(jB.block tb (by omega) (by omega)).trans bL;have d0:w4.cell? ⟨tb,0,none⟩=some (.pointer (some ⟨rb,0,none⟩)):=ab fY 0;have lX:=jB.size;have Mu:=mH oF rfl hv (λ _ _=>trivial) (sub:=mB);have HV:=Hd Mu;have HR4:=Hd hr4;have HM:=Hd hm;have oO:=Hd hpa;clear hp hv hr4 jB Mt bL dl kI hm hpa Mu;have nW:=(aj w4.heap.size w4).alloc (aa _) (.cells #[.int .u8 fk,.string ft,.slice fo m fc,.int .i64 fn] 44);have d1:∀o,(w4.alloc o).cell? ⟨tb,0,none⟩=some (.pointer (some ⟨rb,0,none⟩)):=λ o=>((aj w4.heap.size w4).alloc (aa _) o).cell (p:=⟨tb,0,none⟩) (show tb<w4.heap.size by omega) |>.trans d0
 have Mv:=Hd nW;clear nW;go_wp2_with fail
 clear d0 d1;have ak:=Mv.out;have lW:=heap_alloc_new w4 (.cells #[.int .u8 fk,.string ft,.slice fo m fc,.int .i64 fn] 44);have ik:(w4.alloc (.cells #[.int .u8 fk,.string ft,.slice fo m fc,.int .i64 fn] 44)).heap.size=w4.heap.size+1:=by simp
 obtain⟨db,hdb⟩:∃db,w4.heap.size=db:=⟨_,rfl⟩;clear Mv;rw[hdb]at lW ik ⊢;generalize w4.alloc (.cells #[.int .u8 fk,.string ft,.slice fo m fc,.int .i64 fn] 44)=w5 at ak lW ik ⊢;have oa:=HR4.out.below ak;have Mw:=(ak.block w.heap.size (by omega)).trans BB;have c2:w5.cell? ⟨w.heap.size,2,none⟩=some (.slice ao n cap):=ab Mw 2;have f2:w5.cell? ⟨db,2,none⟩=some (.slice fo m fc):=ab lW 2;obtain⟨D,hD⟩:∃D,(!r.2.1 && r.2.2.isEmpty)=D:=⟨_,rfl⟩;have iN:=Hd f2;have em:=bO.trans (ak.mono bO.size);have oc:=Hd em;have Xk:=Hd (HX.out.below cn em (aa _));have zD:=Hd (HV.out.below cn ak (aa _));clear bO ak BB HX HV HR4 fY Mw lW;refine(Wk rb rb _ _ w5 oa).mono ?_;rw[hD];rintro e w6 ⟨rfl,rfl⟩;clear oa;have aZ:=Hd (show (D && (decide (n=m) && decide (args=fas)))=P.1 by rw[<-HG.out,<-HN.out,<-HM.out,oO.out,hD]);clear HG hD HR;cases D with
 | false =>
  have hf:P.1=false:=by rw[<-aZ.out];rfl
  go_wp2_with fail
  go_ret;exact⟨by first|rfl|(rw[hf];rfl),oc.out⟩
 | true =>
  by_cases hnm:n=m
  ·
   subst hnm;go_wp2_with fail
   clear c2 f2;go_loopw [30] (λ i wr=>∃k:Nat,k<=n/\i=.int .i64 k/\args.take k=fas.take k/\Below w5.heap.size w5 wr) (λ i _=>n-(intOf i).toNat)
   exact⟨0,by omega,rfl,rfl,aj _ _⟩
   obtain⟨k,hk,rfl,heq,ag⟩:=hrel;have HE:=Hd heq;have Gg:=ag.size;clear heq;by_cases ae:k<n
   ·
    have i1:(k:Int)<n:=by omega
    have aQ:args[k]?=some (args[k]'(by rw[HN.out];exact ae)):=bu _;have lU:fas[k]?=some (fas[k]'(by rw[HM.out];exact ae)):=bu _;have gM:args.take (k+1)=args.take k++[args[k]'(by rw[HN.out];exact ae)]:=iJ _;have hty:fas.take (k+1)=fas.take k++[fas[k]'(by rw[HM.out];exact ae)]:=iJ _;obtain⟨b,off,bm,hb,hc,_⟩:=Xk.out.at aQ;obtain⟨b2,off2,vI,am,bN,_⟩:=zD.out.at lU;generalize args[k]'(by rw[HN.out];exact ae)=x at hc aQ gM;generalize fas[k]'(by rw[HM.out];exact ae)=y at bN lU hty;obtain⟨kd,nu,tx⟩:=x;obtain⟨oK,D2,BC⟩:=y
    have hq:∀w',Below w5.heap.size w5 w'->w'.cell? ⟨b,off+k*3,none⟩=some (.int .u8 kd)/\w'.cell? ⟨b,off+k*3+1,none⟩=some (.int .i64 nu)/\w'.cell? ⟨b,off+k*3+2,none⟩=some (.string tx):=λ w' h =>
     ⟨(h.cell (p:=⟨b,_,none⟩) (show b<w5.heap.size by omega)).trans (hc 0 (by decide)),(h.cell (p:=⟨b,_,none⟩) (show b<w5.heap.size by omega)).trans (hc 1 (by decide)),(h.cell (p:=⟨b,_,none⟩) (show b<w5.heap.size by omega)).trans (hc 2 (by decide))⟩
    have ke:∀w',Below w5.heap.size w5 w'->w'.cell? ⟨b2,off2+k*3,none⟩=some (.int .u8 oK)/\w'.cell? ⟨b2,off2+k*3+1,none⟩=some (.int .i64 D2)/\w'.cell? ⟨b2,off2+k*3+2,none⟩=some (.string BC):=λ w' h =>
     ⟨(h.cell (p:=⟨b2,_,none⟩) (show b2<w5.heap.size by omega)).trans (bN 0 (by decide)),(h.cell (p:=⟨b2,_,none⟩) (show b2<w5.heap.size by omega)).trans (bN 1 (by decide)),(h.cell (p:=⟨b2,_,none⟩) (show b2<w5.heap.size by omega)).trans (bN 2 (by decide))⟩
    have rN:=Hd ke;have HT:=Hd (And.intro gM hty);subst bm vI;obtain⟨c0,c1,c2⟩:=hq wr ag;have c3:wr.cell? ⟨b,off+k*3+1+1,none⟩=some (.string tx):=c2;have bS:=ag.alloc Gg (.cells #[.int .u8 kd,.int .i64 nu,.string tx] 50);have iU:=heap_alloc_new wr (.cells #[.int .u8 kd,.int .i64 nu,.string tx] 50);have tF:=Hd bS;have tG:=Hd iU;clear hc bN aQ lU gM hty hq ke bS iU;go_wp2_with fail
    have bS:=tF.out;have iU:=tG.out;obtain⟨vb,hvb⟩:∃vb,wr.heap.size=vb:=⟨_,rfl⟩;clear tF tG c0 c1 c2 c3;rw[hvb]at iU ⊢;generalize wr.alloc (.cells #[.int .u8 kd,.int .i64 nu,.string tx] 50)=w7 at bS iU ⊢;have v0:w7.cell? ⟨vb,0,none⟩=some (.int .u8 kd):=ab iU 0;have v1:w7.cell? ⟨vb,1,none⟩=some (.int .i64 nu):=ab iU 1;have v2:w7.cell? ⟨vb,2,none⟩=some (.string tx):=ab iU 2;obtain⟨y0,y1,y2⟩:=rN.out w7 bS;have y3:w7.cell? ⟨b2,off2+k*3+1+1,none⟩=some (.string BC):=y2;have f2:w7.cell? ⟨db,2,none⟩=some (.slice (some ⟨b2,off2,none⟩) n fc):=(bS.cell (p:=⟨db,2,none⟩) (show db<w5.heap.size by omega)).trans iN.out;by_cases lZ:(⟨kd,nu,tx⟩:Va)=⟨oK,D2,BC⟩
    ·
     have aP:args.take (k+1)=fas.take (k+1):=by rw[HT.out.1,HT.out.2,HE.out,lZ]
     have aN:=Hd aP
     have dj:∀w,(binOp .neq 50 (.agg #[.int .u8 kd,.int .i64 nu,.string tx]) (.agg #[.int .u8 oK,.int .i64 D2,.string BC])).run prog w=.ok (.bool false) w:=by
      cases lZ
      exact Xf _ rfl _ _ _
     clear aP lZ;go_quiet (fail)
     go_wp2_with fail
     go_roundw
     exact⟨k+1,by omega,by go_num,aN.out,below_drewN bS _⟩
     simp[intOf]<;>omega
    have hf:P.1=false:=by
     rw[<-aZ.out]
     have:¬args=fas:=λ h=>lZ (by
      have h1:=HT.out.1;have h2:=HT.out.2;rw[h,h2]at h1;exact(List.singleton_inj.1 (List.append_cancel_left (h1.trans (by rw[HE.out.symm,h])))).symm)
     simp[this]
    have dj:=Xg 50 rfl kd nu tx oK D2 BC lZ;have tF:=Hd (oc.out.trans (bS.mono oc.out.size));clear lZ;go_quiet (fail)
    go_wp2_with fail
    go_ret;exact⟨by first|rfl|(rw[hf];rfl),below_drewN tF.out _⟩
   have i1:¬(k:Int)<n:=by omega
   obtain rfl:k=n:=by omega
   have hf:P.1=true:=by
    rw[<-aZ.out];have:=HE.out;rw[fE (by rw[HN.out];exact aa _),fE (by rw[HM.out];exact aa _)]at this;simp[this]
   go_wp2_with fail
   go_ret;exact⟨by first|rfl|(rw[hf];rfl),oc.out.trans (ag.mono oc.out.size)⟩
  have hf:P.1=false:=by rw[<-aZ.out];simp[hnm]
  have i1:¬(n:Int)=m:=by omega
  have i2:decide ((n:Int)=m)=false:=decide_eq_false i1;go_wp2_with fail
  go_ret;exact⟨by first|rfl|(rw[hf];rfl),oc.out⟩
theorem zE (w:World)(xs:List Int)(cs:Array Value)(jP:cs=(xs.map (Value.int .i64)).toArray):gS (w.alloc (.cells cs 3)) (w.heap.size+1) (some ⟨w.heap.size,0,none⟩) xs:=by
 subst jP;refine Or.inr ⟨w.heap.size,0,rfl,xu _,λ i x hx=>⟨λ j hj=>?_,trivial⟩⟩;obtain rfl:j=0:=by omega
 rw[ab (heap_alloc_new w _)];simp[hx,gb]
theorem Xl (tm kd ss sq ck:Int)(text:ByteArray)(ao:Option Addr)(n cap:Nat)(args:List Va)(num:Int)(vo:Option Addr)(m ce:Nat)(vs:List Int)(w:World)(hn:args.length=n)(hm:vs.length=m)(hx:iz w w.heap.size ao args)(hv:gS w w.heap.size vo vs)
  (hk:(Lit.int .u8 ck).wf=true) (hw:∀v∈args,um v) (ht:text.size<=4000000) (ha:n<=4000000) (hml:m<=4000000) (hat:∀v∈args,v.text.size<=4000000) (hs:(dY args).length<=400000000) (g:Bool) (hg:jm ⟨tm,kd,ss,sq,ck,text,args,num,vs⟩=g) :
  Calls prog 51 #[.agg #[.int .i64 tm,.int .u8 kd,.int .i64 ss,.int .i64 sq,.int .u8 ck,.string text,.slice ao n cap,.int .i64 num,.slice vo m ce]] w λ e w'=>e=.returned (.bool g)/\Below w.heap.size w w':=by
 have hF:=(aj w.heap.size w).alloc (aa _) (.cells #[.int .i64 tm,.int .u8 kd,.int .i64 ss,.int .i64 sq,.int .u8 ck,.string text,.slice ao n cap,.int .i64 num,.slice vo m ce] 46);have aQ:=heap_alloc_new w (.cells #[.int .i64 tm,.int .u8 kd,.int .i64 ss,.int .i64 sq,.int .u8 ck,.string text,.slice ao n cap,.int .i64 num,.slice vo m ce] 46);have dz:(w.alloc (.cells #[.int .i64 tm,.int .u8 kd,.int .i64 ss,.int .i64 sq,.int .u8 ck,.string text,.slice ao n cap,.int .i64 num,.slice vo m ce] 46)).heap.size=w.heap.size+1:=by simp
 obtain⟨P,hP⟩:=kp g;rw[hP]at hg ⊢;have HG:=Hd hg;have HX:=Hd hx;have HV:=Hd hv;have HN:=Hd hn;have HM:=Hd hm;have HW:=Hd hw;have HAT:=Hd hat;have qa:=Hd hF;have fB:=Hd aQ;have iL:=Hd dz;obtain⟨BE,Mx⟩:=kp (sh ⟨tm,kd,ss,sq,ck,text,args,num,vs⟩);have ur:=Hd Mx;clear Mx;clear hx hv hn hm hw hat hg hP hF aQ dz;go_enter func51,ntmps51
 go_upto_region 1 with fail
 have hF:=qa.out;have aQ:=fB.out;have dz:=iL.out;clear qa fB iL;generalize w.alloc (.cells #[.int .i64 tm,.int .u8 kd,.int .i64 ss,.int .i64 sq,.int .u8 ck,.string text,.slice ao n cap,.int .i64 num,.slice vo m ce] 46)=w0 at hF aQ dz ⊢;have HC:=Hd (λ w' (h:Below (w.heap.size+1) w0 w') (i:Nat)=>(h.cell (p:=⟨w.heap.size,i,none⟩) (xu _)).trans (ab aQ i));go_cut [3] (λ bv wq=>bv=.bool BE.1/\w.heap.size+1<=wq.heap.size/\Below (w.heap.size+1) w0 wq)
 case first =>
  have c2:w0.cell? ⟨w.heap.size,2,none⟩=some (.int .i64 ss):=ab aQ 2;have c3:w0.cell? ⟨w.heap.size,3,none⟩=some (.int .i64 sq):=ab aQ 3;have c4:w0.cell? ⟨w.heap.size,4,none⟩=some (.int .u8 ck):=ab aQ 4;have c5:w0.cell? ⟨w.heap.size,4+1,none⟩=some (.string text):=ab aQ 5;have c6:w0.cell? ⟨w.heap.size,4+2,none⟩=some (.slice ao n cap):=ab aQ 6;have c7:w0.cell? ⟨w.heap.size,4+3,none⟩=some (.int .i64 num):=ab aQ 7;have c8:w0.cell? ⟨w.heap.size,4+1+1,none⟩=some (.slice ao n cap):=ab aQ 6;have c9:w0.cell? ⟨w.heap.size,4+1+1+1,none⟩=some (.int .i64 num):=ab aQ 7;clear aQ;by_cases h1:ss=0
  ·
   by_cases h2:sq=0
   ·
    have iG:zC ck text num n=BE.1:=by
     rw[<-ur.out,h1,h2,<-HN.out];rfl
    have HP:=Hd iG;clear iG;subst h1 h2;go_wp2_with fail
    refine(Xh ck text ao n cap num w0).mono ?_;rw[HP.out];rintro e wq ⟨rfl,ba⟩;have ev:=Hd ba;clear ba;cases ii:BE.1
    all_goals
     go_wp2_with fail
     go_meet
     exact⟨by first|rfl|rw[ii],by have:=ev.out.size;omega,ev.out.mono (by omega)⟩
   have iG:BE.1=false:=by rw[<-ur.out];unfold sh;simp[h2]
   have d2:decide (sq=0)=false:=decide_eq_false h2;have HP:=Hd iG;clear iG;subst h1;go_wp2_with fail
   go_meet
   exact⟨by first|rfl|rw[HP.out],by omega,aj _ _⟩
  have iG:BE.1=false:=by rw[<-ur.out];unfold sh;simp[h1]
  have d2:decide (ss=0)=false:=decide_eq_false h1;have HP:=Hd iG;clear iG;go_wp2_with fail
  go_meet
  exact⟨by first|rfl|rw[HP.out],by omega,aj _ _⟩
 obtain⟨rfl,zF,kf⟩:=hcut;obtain⟨wq,hwq⟩:∃wq,wc=wq:=⟨_,rfl⟩;subst hwq;have e0:wc.cell? ⟨w.heap.size,0,none⟩=some (.int .i64 tm):=HC.out _ kf 0;have BD:=(aj wc.heap.size wc).alloc (aa _) (.cells #[.int .i64 tm] 3);have My:=Hd BD;clear BD aQ;go_wp2_with fail
 have BD:=My.out;refine(Mo (some ⟨wc.heap.size,0,none⟩) 1 1 [tm] (wc.alloc (.cells #[.int .i64 tm] 3)) (wc.heap.size+1) rfl (zE wc [tm] _ rfl) (by decide) (hX tm) (by simp)).mono ?_;obtain⟨wt,hwt⟩:∃wt,hX tm=wt:=⟨_,rfl⟩;rw[hwt];have BF:=Hd hwt;clear hwt;rintro e wz ⟨rfl,rfl⟩;have hG:=kf.trans (BD.mono zF);have qw:=Hd (hF.trans (hG.mono (fU _)));have bP:w.heap.size+1<=(wc.alloc (.cells #[.int .i64 tm] 3)).heap.size:=aF zF (by simp);clear My BD e0;generalize wc.alloc (.cells #[.int .i64 tm] 3)=wz at hG qw bP ⊢;cases wt with
 | false =>
  have hf:P.1=false:=by rw[<-HG.out];unfold jm;simp[BF.out]
  go_wp2_with fail
  go_ret;exact⟨by first|rfl|(rw[hf];rfl),qw.out⟩
 | true =>
  have e1:wz.cell? ⟨w.heap.size,1,none⟩=some (.int .u8 kd):=HC.out _ hG 1;have e2:wz.cell? ⟨w.heap.size,2,none⟩=some (.int .i64 ss):=HC.out _ hG 2;have e3:wz.cell? ⟨w.heap.size,3,none⟩=some (.int .i64 sq):=HC.out _ hG 3;have e4:wz.cell? ⟨w.heap.size,4,none⟩=some (.int .u8 ck):=HC.out _ hG 4;have e5:wz.cell? ⟨w.heap.size,4+1,none⟩=some (.string text):=HC.out _ hG 5;have e6:wz.cell? ⟨w.heap.size,4+2,none⟩=some (.slice ao n cap):=HC.out _ hG 6;have e7:wz.cell? ⟨w.heap.size,4+3,none⟩=some (.int .i64 num):=HC.out _ hG 7;have e8:wz.cell? ⟨w.heap.size,8,none⟩=some (.slice vo m ce):=HC.out _ hG 8;clear zF kf hF;by_cases dH:kd=1
  ·
   have HF:=Hd (show P.1=(BE.1 && decide (m=0)) by rw[<-HG.out,<-ur.out,<-HM.out];unfold jm;simp[BF.out,dH,sh,dX.cm]);subst dH;cases ii:BE.1
   ·
    rw[ii]at HF;go_wp2_with fail
    go_ret;exact⟨by rw[HF.out];rfl,qw.out⟩
   rw[ii]at HF;by_cases eF:m=0
   ·
    subst eF;go_wp2_with fail
    go_ret;exact⟨by rw[HF.out];rfl,qw.out⟩
   have j1:¬(m:Int)=0:=by omega
   have j2:decide ((m:Int)=0)=false:=decide_eq_false j1;have j3:((m:Int)==0)=false:=by simpa using eF
   go_wp2_with fail
   go_ret;exact⟨by rw[HF.out];simp[eF],qw.out⟩
  have kk1:decide (kd=1)=false:=decide_eq_false dH;by_cases dh:kd=2
  ·
   have HF:=Hd (show P.1=(decide (0<=ss) && (decide (0<=sq) && (decide (m=0) && qW ⟨ck,text,args,num⟩))) by rw[<-HG.out,<-HM.out];unfold jm;simp[BF.out,dh,dX.cm]);subst dh;by_cases g1:0<=ss
   ·
    by_cases g2:0<=sq
    ·
     by_cases eF:m=0
     ·
      subst eF;obtain⟨P3,hP3⟩:=kp (qW ⟨ck,text,args,num⟩);have iN:=Hd (show P.1=P3.1 by rw[HF.out,<-hP3];simp[g1,g2]);have qZ:=Hd hP3;clear HF hP3;go_wp2_with fail
      refine(Xi ck text ao n cap num args wz HN.out ((HX.out.below cn qw.out (aa _)).mono cK (by omega)) hk HW.out ht ha HAT.out hs P3.1 qZ.out).mono ?_;rintro e wy ⟨rfl,hby⟩;have Xm:=Hd (qw.out.trans (hby.mono (by omega)));clear hby;go_wp2_with fail
      go_ret;exact⟨by rw[iN.out];rfl,Xm.out⟩
     have j1:¬(m:Int)=0:=by omega
     have j2:decide ((m:Int)=0)=false:=decide_eq_false j1;have j3:((m:Int)==0)=false:=by simpa using eF
     go_wp2_with fail
     go_ret;exact⟨by rw[HF.out];simp[eF],qw.out⟩
    have j2:decide (0<=sq)=false:=decide_eq_false g2;go_wp2_with fail
    go_ret;exact⟨by rw[show P.1=false by rw[HF.out,j2];simp];rfl,qw.out⟩
   have j2:decide (0<=ss)=false:=decide_eq_false g1;go_wp2_with fail
   go_ret;exact⟨by rw[show P.1=false by rw[HF.out,j2];simp];rfl,qw.out⟩
  have kk2:decide (kd=2)=false:=decide_eq_false dh;by_cases bL:kd=3
  ·
   have HF:=Hd (show P.1=(BE.1 && kE vs) by rw[<-HG.out,<-ur.out];unfold jm;simp[BF.out,bL,sh,dX.cm]);subst bL;cases ii:BE.1
   ·
    rw[ii]at HF;go_wp2_with fail
    go_ret;exact⟨by rw[HF.out];rfl,qw.out⟩
   rw[ii]at HF;obtain⟨P3,hP3⟩:=kp (kE vs);have iN:=Hd (show P.1=P3.1 by rw[HF.out,<-hP3];rfl);have qZ:=Hd hP3;clear HF hP3;go_wp2_with fail
   refine(Mr vo m ce vs wz w.heap.size HM.out (HV.out.below cn qw.out (aa _)) (by omega) P3.1 qZ.out).mono ?_;rintro e wy ⟨rfl,rfl⟩;go_wp2_with fail
   go_ret;exact⟨by rw[iN.out];rfl,qw.out⟩
  have kk3:decide (kd=3)=false:=decide_eq_false bL;have hf:P.1=false:=by rw[<-HG.out];unfold jm;simp[BF.out,dH,dh,bL]
  go_wp2_with fail
  go_ret;exact⟨by first|rfl|(rw[hf];rfl),qw.out⟩
theorem Xn {es:List dX}(h:es.all jm=true):qt es=decide (es.length<=16):=by unfold qt;rw[h,Bool.true_and]
theorem Xo (ao:Option Addr)(n cap:Nat)(es:List En)(w:World)(B:Nat)(hn:es.length=n)(hx:kV w B ao es)(hB:B<=w.heap.size)(hf:∀e∈es,gV e)(hl:n<=4398046511104)(g:Bool)(hg:qt (es.map En.plain)=g) :
  Calls prog 21 #[.slice ao n cap] w λ e w'=>e=.returned (.bool g)/\Below w.heap.size w w':=by
 obtain⟨P,hP⟩:=kp g;rw[hP]at hg ⊢;have HX:=Hd (hx.mono mi hB);have HN:=Hd hn;have HF:=Hd hf;have HG:=Hd hg;clear hx hn hf hg hP;go_enter func21,ntmps21
 go_wp2_with fail
 go_loopw [7] (λ i wr=>∃k:Nat,k<=n/\i=.int .i64 k/\((es.take k).map En.plain).all jm=true/\Below w.heap.size w wr) (λ i _=>n-(intOf i).toNat)
 exact⟨0,by omega,rfl,rfl,aj _ _⟩
 obtain⟨k,hk,rfl,ky,ag⟩:=hrel;have HA:=Hd ky;have Gg:=ag.size;clear ky;by_cases ae:k<n
 ·
  have i1:(k:Int)<n:=by omega
  have aQ:es[k]?=some (es[k]'(by rw[HN.out];exact ae)):=bu _;have bJ:es.take (k+1)=es.take k++[es[k]'(by rw[HN.out];exact ae)]:=iJ _;have pV:(es[k]'(by rw[HN.out];exact ae))∈es:=mC _;obtain⟨b,off,bm,hb,hc,eC⟩:=HX.out.at aQ;generalize es[k]'(by rw[HN.out];exact ae)=x at hc aQ bJ pV eC;have ma:=HF.out x pV;obtain⟨tm,kd,ss,sq,ck,text,fQ,args,fw,num,hU,vs,ce⟩:=x;have c:=fun(i:Nat) (h:i<9)=>(ag.cell (p:=⟨b,off+k*9+i,none⟩) hb).trans (hc i h)
  have c0:wr.cell? ⟨b,off+k*9,none⟩=some (.int .i64 tm):=c 0 (by decide);have c1:wr.cell? ⟨b,off+k*9+1,none⟩=some (.int .u8 kd):=c 1 (by decide);have c2:wr.cell? ⟨b,off+k*9+2,none⟩=some (.int .i64 ss):=c 2 (by decide);have c3:wr.cell? ⟨b,off+k*9+3,none⟩=some (.int .i64 sq):=c 3 (by decide);have c4:wr.cell? ⟨b,off+k*9+4,none⟩=some (.int .u8 ck):=c 4 (by decide);have c5:wr.cell? ⟨b,off+k*9+5,none⟩=some (.string text):=c 5 (by decide);have c6:wr.cell? ⟨b,off+k*9+6,none⟩=some (.slice fQ args.length fw):=c 6 (by decide);have c7:wr.cell? ⟨b,off+k*9+7,none⟩=some (.int .i64 num):=c 7 (by decide);have c8:wr.cell? ⟨b,off+k*9+8,none⟩=some (.slice hU vs.length ce):=c 8 (by decide);subst bm;obtain⟨nn,oz⟩:∃nn,args.length=nn:=⟨_,rfl⟩;obtain⟨mm,dK⟩:∃mm,vs.length=mm:=⟨_,rfl⟩;rw[oz]at c6;rw[dK]at c8;have sl:=Hd oz;have bd:=Hd dK;have jX:=Hd ma;have qx:=Hd eC;have qU:=Hd bJ;have Xp:=Hd pV;clear c hc aQ pV eC ma bJ oz dK;go_wp2_with fail
  obtain⟨Pe,Mz⟩:=kp (jm ⟨tm,kd,ss,sq,ck,text,args,num,vs⟩);have rH:=Hd Mz;have bS:=ag.alloc Gg (.cells #[.int .i64 tm,.int .u8 kd,.int .i64 ss,.int .i64 sq,.int .u8 ck,.string text,.slice fQ nn fw,.int .i64 num,.slice hU mm ce] 46);have eC:=((qx.out.1.below cn bS (aa _)).mono cK bS.size);have ve:=((qx.out.2.below cn bS (aa _)).mono cK bS.size);clear Mz c0 c1 c2 c3 c4 c5 c6 c7 c8;generalize wr.alloc (.cells #[.int .i64 tm,.int .u8 kd,.int .i64 ss,.int .i64 sq,.int .u8 ck,.string text,.slice fQ nn fw,.int .i64 num,.slice hU mm ce] 46)=w1 at bS eC ve ⊢;refine(Xl tm kd ss sq ck text fQ nn fw args num hU mm ce vs w1 sl.out bd.out eC ve jX.out.wf.ck jX.out.wf.args jX.out.text (by have h:=jX.out.args;rw[<-sl.out];exact h) (by have h:=jX.out.vn;rw[<-bd.out];exact h) jX.out.vH jX.out.size Pe.1 rH.out).mono ?_;rintro e w2 ⟨rfl,am⟩;have bF:=Hd (bS.trans (am.mono bS.size));clear bS am eC ve;cases m0:Pe.1 with
  | true =>
   have HS:=Hd (show ((es.take (k+1)).map En.plain).all jm=true by
    rw[qU.out,List.map_append,List.all_append,HA.out];have:=rH.out;rw[m0]at this;simp[En.plain,this])
   clear m0;go_wp2_with fail
   go_roundw
   exact⟨k+1,by omega,by go_num,HS.out,bF.out⟩
   simp[intOf]<;>omega
  | false =>
   have hf:P.1=false:=by
    rw[<-HG.out]
    have h1:(es.map En.plain).all jm=false:=by
     cases hh:(es.map En.plain).all jm with
     | false=>rfl
     | true =>
      have:=List.all_eq_true.1 hh _ (List.mem_map_of_mem Xp.out);have h2:=rH.out;rw[m0]at h2;rw[show En.plain ⟨tm,kd,ss,sq,ck,text,fQ,args,fw,num,hU,vs,ce⟩=⟨tm,kd,ss,sq,ck,text,args,num,vs⟩from rfl,h2]at this;cases this
    unfold qt;rw[h1];rfl
   have iN:=Hd hf;clear m0 hf;go_wp2_with fail
   go_ret;exact⟨by rw[iN.out];rfl,bF.out⟩
 have i1:¬(k:Int)<n:=by omega
 obtain rfl:k=n:=by omega
 have fX:P.1=decide (k<=16):=by
  rw[<-HG.out];have:=HA.out;rw[fE (by rw[HN.out];exact aa _)]at this;rw[Xn this,List.length_map,HN.out]
 have iN:=Hd fX;clear fX;by_cases h16:k<=16
 ·
  have j1:(k:Int)<=16:=by omega
  go_wp2_with fail
  go_ret;exact⟨by rw[iN.out];simp[h16],ag⟩
 have j1:¬(k:Int)<=16:=by omega
 go_wp2_with fail
 go_ret;exact⟨by rw[iN.out];simp[h16],ag⟩
def vJ (l:Lt):Lt×Bool :=
 if l.kind=1 then({ l with index:=0,was:=0 },true)
 else if l.kind=2 then({ l with ok:=false },true)
 else if l.kind=3 then({ l with commit:=0,eo:=none,es:=[],ey:=0,index:=0,was:=0,round:=0 },true)
 else if l.kind=5 then({ l with was:=0,vo:=none,vs:=[],ce:=0,io:=none,im:=[],fi:=0,index:=0,round:=0 },true)
 else if l.kind=4 then({ l with ok:=false,index:=0,round:=0 },true)
 else if l.kind=6 then({ l with index:=0,round:=0 },true)
 else(l,false)
theorem Xq (l:Lt):(vJ l).1.plain=(pG l.plain).1/\(vJ l).2=(pG l.plain).2:=by
 obtain⟨k,f,t,tm,ix,ws,ok,cm,rd,eo,es,ec,vo,vs,vc,io,im,ic⟩:=l;unfold vJ pG Lt.plain;dsimp only;repeat' split
 all_goals first|exact⟨rfl,rfl⟩|(exfalso;omega)|simp_all
theorem D3 {P:Program}{fn:Func}{p u:Tmp}{ty:TypeId}(h:fn.results=#[.cell p ty,.tmp u])(tmps:Array Value)(w:World)(g:Nat)(t:TypeId)(cs:Array Value)(fr:Nat×Nat)(d:TypeDesc)(v:Value)
  (hp:tmps.getD p undef=.pointer (some ⟨g,0,none⟩)) (hv:tmps.getD u undef=v) (hg:w.heap[g]?=some (.cells cs t fr))
  (hu:P.underlying ty=some d) (hd:(match d with|.struct _|.array _ _=>true|_=>false)=true) (hi:(P.info? ty).map (·.size)=some cs.size) :
  (results fn tmps).run P w=.ok (.tuple #[.agg cs,v]) w:=by
 rw[results_cell_tmp h,hp,hv];simp[asAddr,run_loadVar_row w g t ty cs fr d hg hu hd hi,Result.andThen]
theorem info_lt:(prog.info? 32).map (·.size)=some 12:=by kernel_rfl
theorem xy {f:Func}{w:World}{A B:Array Value}{b:Bool}{tmps:Array Value}(hf:f.results=#[.cell 2 32,.tmp 3])(hA:B.size=12)(h2:tmps.getD 2 undef=.pointer (some ⟨w.heap.size+1,0,none⟩))(h3:tmps.getD 3 undef=.bool b) :
  bodyPost prog f (λ e w'=>e=.returned (.tuple #[.agg B,.bool b])/\Below w.heap.size w w') .ret ⟨tmps,[]⟩ ((w.alloc (.cells A 32)).alloc (.cells B 32)):=by
 have hk:=heap_alloc_new (w.alloc (.cells A 32)) (.cells B 32);have hs:(w.alloc (.cells A 32)).heap.size=w.heap.size+1:=by simp
 rw[hs]at hk;exact bodyPost_ret (D3 hf tmps _ (w.heap.size+1) _ B _ _ _ h2 h3 hk cL rfl (by rw[info_lt,hA])) rfl ⟨rfl,((aj w.heap.size w).alloc (aa _) _).alloc (by simp) _⟩
theorem Xr (kd f t tm ix ws:Int)(ok:Bool)(cm rd:Int)(eo:Option Addr)(en ec:Nat)(vo:Option Addr)(vn vc:Nat)(io:Option Addr)(im ic:Nat)(w:World)(r:Value)(b:Bool)
  (hr:(if kd=1 then(Value.agg #[.int .u8 kd,.int .i64 f,.int .i64 t,.int .i64 tm,.int .i64 0,.int .i64 0,.bool ok,.int .i64 cm,.int .i64 rd,.slice eo en ec,.slice vo vn vc,.slice io im ic],true)
   else if kd=2 then(.agg #[.int .u8 kd,.int .i64 f,.int .i64 t,.int .i64 tm,.int .i64 ix,.int .i64 ws,.bool false,.int .i64 cm,.int .i64 rd,.slice eo en ec,.slice vo vn vc,.slice io im ic],true)
   else if kd=3 then(.agg #[.int .u8 kd,.int .i64 f,.int .i64 t,.int .i64 tm,.int .i64 0,.int .i64 0,.bool ok,.int .i64 0,.int .i64 0,.slice none 0 0,.slice vo vn vc,.slice io im ic],true)
   else if kd=5 then(.agg #[.int .u8 kd,.int .i64 f,.int .i64 t,.int .i64 tm,.int .i64 0,.int .i64 0,.bool ok,.int .i64 cm,.int .i64 0,.slice eo en ec,.slice none 0 0,.slice none 0 0],true)
   else if kd=4 then(.agg #[.int .u8 kd,.int .i64 f,.int .i64 t,.int .i64 tm,.int .i64 0,.int .i64 ws,.bool false,.int .i64 cm,.int .i64 0,.slice eo en ec,.slice vo vn vc,.slice io im ic],true)
   else if kd=6 then(.agg #[.int .u8 kd,.int .i64 f,.int .i64 t,.int .i64 tm,.int .i64 0,.int .i64 ws,.bool ok,.int .i64 cm,.int .i64 0,.slice eo en ec,.slice vo vn vc,.slice io im ic],true)
   else(.agg #[.int .u8 kd,.int .i64 f,.int .i64 t,.int .i64 tm,.int .i64 ix,.int .i64 ws,.bool ok,.int .i64 cm,.int .i64 rd,.slice eo en ec,.slice vo vn vc,.slice io im ic],false))=(r,b)) :
  Calls prog 23 #[.agg #[.int .u8 kd,.int .i64 f,.int .i64 t,.int .i64 tm,.int .i64 ix,.int .i64 ws,.bool ok,.int .i64 cm,.int .i64 rd,.slice eo en ec,.slice vo vn vc,.slice io im ic]] w λ e w'=>e=.returned (.tuple #[r,.bool b])/\Below w.heap.size w w':=by
 obtain⟨OK,BG⟩:=kp ok;subst BG;go_enter func23,ntmps23
 by_cases h1:kd=1
 ·
  subst h1;first|rw[if_pos rfl]at hr|skip
  simp only[Prod.mk.injEq]at hr;obtain⟨rfl,rfl⟩:=hr;go_wp2_with fail
  exact xy rfl rfl rfl rfl
 have k1:decide (kd=1)=false:=decide_eq_false h1;rw[if_neg h1]at hr;by_cases h2:kd=2
 ·
  subst h2;first|rw[if_pos rfl]at hr|skip
  simp only[Prod.mk.injEq]at hr;obtain⟨rfl,rfl⟩:=hr;go_wp2_with fail
  exact xy rfl rfl rfl rfl
 have k2:decide (kd=2)=false:=decide_eq_false h2;rw[if_neg h2]at hr;by_cases h3:kd=3
 ·
  subst h3;first|rw[if_pos rfl]at hr|skip
  simp only[Prod.mk.injEq]at hr;obtain⟨rfl,rfl⟩:=hr;go_wp2_with fail
  exact xy rfl rfl rfl rfl
 have k3:decide (kd=3)=false:=decide_eq_false h3;rw[if_neg h3]at hr;by_cases h5:kd=5
 ·
  subst h5;first|rw[if_pos rfl]at hr|skip
  simp only[Prod.mk.injEq]at hr;obtain⟨rfl,rfl⟩:=hr;go_wp2_with fail
  exact xy rfl rfl rfl rfl
 have k5:decide (kd=5)=false:=decide_eq_false h5;rw[if_neg h5]at hr;by_cases h4:kd=4
 ·
  subst h4;first|rw[if_pos rfl]at hr|skip
  simp only[Prod.mk.injEq]at hr;obtain⟨rfl,rfl⟩:=hr;go_wp2_with fail
  exact xy rfl rfl rfl rfl
 have k4:decide (kd=4)=false:=decide_eq_false h4;rw[if_neg h4]at hr;by_cases h6:kd=6
 ·
  subst h6;first|rw[if_pos rfl]at hr|skip
  simp only[Prod.mk.injEq]at hr;obtain⟨rfl,rfl⟩:=hr;go_wp2_with fail
  exact xy rfl rfl rfl rfl
 have k6:decide (kd=6)=false:=decide_eq_false h6;rw[if_neg h6]at hr;simp only[Prod.mk.injEq]at hr;obtain⟨rfl,rfl⟩:=hr;go_wp2_with fail
 exact xy rfl rfl rfl rfl
end Go.Proofs.YtepdklfkegkojaaGreatDoor
