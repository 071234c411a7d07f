/- Parts of one proof. Conditions: as each says. -/
import Derived.Test.YtepdklfkegkojaaGreatDoorGLetterNumbers0
import Derived.Test.YtepdklfkegkojaaGreatDoorGLetterNumbers8
import Derived.Test.YtepdklfkegkojaaGreatDoorGLetterNumbers2
import Derived.Test.YtepdklfkegkojaaGreatDoorGLetterNumbers13
import Derived.Test.YtepdklfkegkojaaGreatDoorGLetterNumbers4
import Derived.Lib.AppendStr
import Derived.Test.YtepdklfkegkojaaGreatDoorGLetterNumbers6
import Derived.Test.YtepdklfkegkojaaGreatDoorGLetterNumbers3
import Derived.Test.YtepdklfkegkojaaGreatDoorGLetterNumbers7
set_option linter.all false
set_option maxHeartbeats 16000000
set_option maxRecDepth 100000
namespace Go.Proofs.YtepdklfkegkojaaGreatDoor
open Go.Proofs.Tryz
open Go.RowKit
theorem x9 {w:World}{o:Oper}{a:Act}{K:Act->World->Prop}{Q:Exit->Act->World->Prop}(s x:Operand)
  (ho:o.op=.call { callee:=.builtin .append,args:=#[s,x],argTypes:=#[25,25] })
  (base:Nat) {a1:Option Addr} {n1 c1:Nat} {L1:List Int} (hs:a.eval s=.slice a1 n1 c1) (az:BOwn w base a1 n1 c1 L1)
  {ao:Option Addr} {n cap:Nat} {xs:List Int} (hx:a.eval x=.slice ao n cap) (hn:xs.length=n) (B:Nat) (gq:BytesIn w B ao xs) (bm:ao=none->cap=0) (fV:n1+n<=140737488351232) (nw:base<=w.heap.size)
  (h:∀a2 n2 c2 w',BOwn w' base a2 n2 c2 (L1++xs)->w.grownBy w' (Value.slice a1 n1 c1).ownBlock->n2=n1+n->K (a.put o.dst (.slice a2 n2 c2)) w'):Oper.wp prog o a w K Q:=by
 obtain⟨rfl,de⟩:=az;refine ON s x ho base _ L1 _ rfl hs de ao n cap xs hn hx B gq bm fV nw λ v' w' h1 h2=>?_
 obtain⟨a2,c2,rfl⟩:=jz h1;exact h a2 _ c2 w' ⟨by rw[List.length_append,hn],h1⟩ h2 rfl
theorem OR (n:Int)(size:Nat)(w:World)(hs:size<=8)(hn:0<=n)(dW:n<18446744073709551616) :
  Calls prog 125 #[.int .u64 n,.int .i64 size] w (q7 (au size n) w):=by
 have w0:IntKind.i64.wrap ((size:Int)-1)=(size:Int)-1:=jU _ (by omega);go_enter func125,ntmps125
 go_wp2_with fail
 go_loopw [5,6] (λ v i wr=>∃(q:Nat) (a:Option Addr) (c:Nat),q<=size/\i=.int .i64 ((size:Int)-1-q)/\v=.slice a q c/\BOwn wr w.heap.size a q c ((au size n).take q)/\Below w.heap.size w wr) (λ _ i _=>(intOf i+1).toNat)
 exact⟨0,none,0,by omega,by simp,rfl,⟨rfl,iK _ _ _ _⟩,aj _ _⟩
 clear w0;obtain⟨q,a,c,hq,rfl,rfl,az,ag⟩:=hrel;have HO:=Hd az;clear az;by_cases eA:q<size
 ·
  obtain⟨p,hp⟩:∃p:Nat,p=size-1-q:=⟨_,rfl⟩;have m0:(size:Int)-1-q=p:=by omega
  have hnt:=Fv size n q eA;rw[<-hp]at hnt;have Fy:=Hd hnt;have V4:p<=7:=by omega
  have w3:IntKind.i64.wrap (8*(p:Int))=8*p:=jU _ (by omega);have w4:IntKind.u64.wrap (8*(p:Int))=8*p:=IntWalk.u64_in _ (by omega);have n3:((8:Int)*p).toNat=8*p:=by omega
  have g3:(0:Int)<=8*p:=by omega
  have rH:=Hd m0;have fM:=ag.size;rw[m0];clear hnt hp m0;go_wp2_with (at_builtin;refine od rfl (.tmp 13) (.tmp 20) rfl w.heap.size rfl (HO.out.below ((aj wr.heap.size wr).alloc (aa _) _) (aa _)) rfl rfl _ (BOwn.lit wr [n / 2 ^ (8*p) % 256] (by simp)).in (λ h=>by cases h) (by omega) (by simp;omega) ?_)
  intro a2 n2 c2 w5 oB pZ tK;have ak:Below w.heap.size w w5:=(ag.alloc fM _).grown pZ (by simp;omega) (λ k hk=>(HO.out.lt k hk).1);rw[<-Fy.out]at oB;have ri:=Hd oB;have vX:=Hd tK;clear oB pZ tK;go_wp2_with fail
  go_roundw
  exact⟨q+1,a2,c2,by omega,by have:=rH.out;congr 1;push_cast;omega,by rw[vX.out],by have:=ri.out;rw[vX.out]at this;exact this,ak⟩
  first|(simp[intOf];done)|(have:=rH.out;simp[intOf];omega)
 have hqe:q=size:=by omega
 have oB:=HO.out;rw[hqe,fE (l:=au size n) (by rw[cV];exact aa _)]at oB;have ri:=Hd oB;have g5:(size:Int)-1-q<0:=by omega
 subst hqe;clear oB;go_wp2_with fail
 go_ret;exact⟨a,_,c,rfl,ri.out,ag⟩
theorem Iu (n:Nat)(w:World)(hn:n<=140737488355328) :
  Calls prog 64 #[.int .i64 n] w (q7 (au 4 n) w):=by
 have w1:IntKind.u64.wrap (n:Int)=n:=IntWalk.u64_in _ (by omega);go_enter func64,ntmps64
 go_wp2_with fail
 refine(OR n 4 w (by decide) (by omega) (by omega)).mono ?_;rintro e w2 ⟨a,m,c,rfl,ho,hb⟩;have HO:=Hd ho;clear ho;go_wp2_with fail
 go_ret;exact⟨a,m,c,rfl,HO.out,hb⟩
theorem wl (n:Int)(L:List Int)(w:World)(hL:au 8 n=L) :
  Calls prog 62 #[.int .i64 n] w (q7 L w):=by
 have hw:au 8 (IntKind.u64.wrap n)=L:=by rw[<-hL,WL]
 have h0:0<=IntKind.u64.wrap n/\IntKind.u64.wrap n<18446744073709551616:=WK n;obtain⟨m,hm⟩:∃m,IntKind.u64.wrap n=m:=⟨_,rfl⟩;rw[hm]at hw h0;subst hw;clear hL;go_enter func62,ntmps62
 go_wp2_with fail
 refine(OR m 8 w (by decide) h0.1 h0.2).mono ?_;rintro e w2 ⟨a,k,c,rfl,ho,hb⟩;have HO:=Hd ho;clear ho;go_wp2_with fail
 go_ret;exact⟨a,k,c,rfl,HO.out,hb⟩
theorem Zd (s:ByteArray):Lib.strCells s=(lJ s).map bv:=by
 simp[Lib.strCells,lJ,bv,Function.comp_def]
theorem Iv (s:ByteArray)(L:List Int)(w:World)(hL:m9 s=L)(hl:s.size<=1099511627776) :
  Calls prog 126 #[.string s] w (q7 L w):=by
 obtain⟨i0,hi,bo,bp,aU⟩:=info_parts infoByte;have HL:=Hd hL;clear hL;go_enter func126,ntmps126
 go_wp2_with fail
 refine(Iu s.size w (by omega)).mono ?_;rintro e w2 ⟨a,m,c,rfl,ho,hb⟩;have hm:m=4:=by rw[<-ho.len,cV]
 subst hm;have HO:=Hd ho;have bP:=hb.size;clear ho;go_wp2_with (at_builtin;refine Lib.wpList_append_own_string _ rfl (.tmp 5) (.tmp 6) 25 9 rfl w.heap.size 5 i0 hJ underlying9 hi bo bp aU _ 4 _ rfl HO.out.row s rfl (by unfold maxLen;omega) (by omega) bP ?_)
 intro v' w3 az hg _;obtain⟨a3,c3,rfl⟩:=jz az;have ap:=hb.grown hg bP (λ k hk=>(HO.out.lt k hk).1);have kO:BOwn w3 w.heap.size a3 (4+s.size) c3 L:=⟨by rw[<-HL.out,tZ],by rw[<-HL.out];unfold m9;rw[List.map_append,<-Zd];exact az⟩;have jA:=Hd kO;clear az hg kO;go_wp2_with fail
 go_ret;exact⟨a3,_,c3,rfl,jA.out,ap⟩
theorem Ze (kd num:Int)(text:ByteArray)(L:List Int)(w:World)(hL:fp ⟨kd,num,text⟩=L)(hl:text.size<=1099511627776) :
  Calls prog 192 #[.agg #[.int .u8 kd,.int .i64 num,.string text]] w (q7 L w):=by
 have dl:=(aj w.heap.size w).alloc (aa _) (.cells #[.int .u8 kd,.int .i64 num,.string text] 50);have dm:=heap_alloc_new w (.cells #[.int .u8 kd,.int .i64 num,.string text] 50);have dz:(w.alloc (.cells #[.int .u8 kd,.int .i64 num,.string text] 50)).heap.size=w.heap.size+1:=by simp
 have mg:=Hd dl;have yb:=Hd dm;have iL:=Hd dz;have HL:=Hd hL;clear dl dm dz hL;go_enter func192,ntmps192
 have du:BOwn ((w.alloc (.cells #[.int .u8 kd,.int .i64 num,.string text] 50)).alloc (.cells #[.int .u8 kd] 5)) (w.heap.size+1) (some ⟨w.heap.size+1,0,none⟩) 1 1 [kd]:=iL.out▸BOwn.lit (w.alloc (.cells #[.int .u8 kd,.int .i64 num,.string text] 50)) [kd] (by simp);have ba:Below w.heap.size w ((w.alloc (.cells #[.int .u8 kd,.int .i64 num,.string text] 50)).alloc (.cells #[.int .u8 kd] 5)):=mg.out.alloc (by rw[iL.out];omega) _;have dB:((w.alloc (.cells #[.int .u8 kd,.int .i64 num,.string text] 50)).alloc (.cells #[.int .u8 kd] 5)).heap.size=w.heap.size+2:=by simp
 have mu:=Hd du;have ev:=Hd ba;have tJ:=Hd dB;clear du ba dB mg yb iL;by_cases h1:kd=1
 ·
  subst h1;go_wp2_with fail
  have du:=mu.out;have ba:=ev.out;have dB:=tJ.out;generalize (w.alloc (.cells #[.int .u8 1,.int .i64 num,.string text] 50)).alloc (.cells #[.int .u8 1] 5)=w1 at du ba dB ⊢;clear mu ev tJ;have mu:=Hd du;clear du;refine(wl num _ w1 rfl).mono ?_;rintro e w2 ⟨a,m,c,rfl,ho,hb⟩;obtain rfl:m=8:=by rw[<-ho.len,cV]
  have HO:=Hd ho;have am:=ba.trans (hb.mono (by omega));have bP:=hb.size;clear ho;go_wp2_with (at_builtin;refine od rfl (.tmp 11) (.tmp 14) rfl (w.heap.size+1) rfl (mu.out.below hb (aa _)) rfl HO.out.len _ HO.out.in HO.out.nil (by omega) (by omega) ?_)
  intro a2 n2 c2 w3 az hg dW;have ap:=am.grown hg (by omega) (λ k hk=>by have:=(mu.out.lt k hk).1;omega);have kO:BOwn w3 w.heap.size a2 n2 c2 L:=by rw[<-HL.out];exact az.le (fU _)
  have jA:=Hd kO;clear az hg kO dW;go_wp2_with fail
  go_ret;exact⟨a2,n2,c2,rfl,jA.out,ap⟩
 by_cases h2:kd=2
 ·
  subst h2;go_wp2_with fail
  have du:=mu.out;have ba:=ev.out;have dB:=tJ.out;generalize (w.alloc (.cells #[.int .u8 2,.int .i64 num,.string text] 50)).alloc (.cells #[.int .u8 2] 5)=w1 at du ba dB ⊢;clear mu ev tJ;have mu:=Hd du;clear du;refine(Iv text _ w1 rfl hl).mono ?_;rintro e w2 ⟨a,m,c,rfl,ho,hb⟩;have HO:=Hd ho;have hm:m=4+text.size:=by rw[<-ho.len,tZ]
  have am:=ba.trans (hb.mono (by omega));have bP:=hb.size;have HM:=Hd hm;clear ho hm;go_wp2_with (at_builtin;refine od rfl (.tmp 18) (.tmp 21) rfl (w.heap.size+1) rfl (mu.out.below hb (aa _)) rfl HO.out.len _ HO.out.in HO.out.nil (by have:=HM.out;omega) (by omega) ?_)
  intro a2 n2 c2 w3 az hg dW;have ap:=am.grown hg (by omega) (λ k hk=>by have:=(mu.out.lt k hk).1;omega);have kO:BOwn w3 w.heap.size a2 n2 c2 L:=by rw[<-HL.out];exact az.le (fU _)
  have jA:=Hd kO;clear az hg kO dW;go_wp2_with fail
  go_ret;exact⟨a2,n2,c2,rfl,jA.out,ap⟩
 have kT:decide (kd=1)=false:=by simpa using h1
 have lB:decide (kd=2)=false:=by simpa using h2
 have lF:[kd]=L:=by rw[<-HL.out];unfold fp;dsimp only;rw[if_neg h1,if_neg h2]
 have cY:=Hd lF;clear lF;go_wp2_with fail
 go_ret;exact⟨_,_,_,rfl,by rw[<-cY.out];exact mu.out.le (fU _),ev.out⟩
theorem Zf (ao:Option Addr)(n cap:Nat)(xs:List Va)(L:List Int)(w:World)(hL:dY xs=L)(hn:xs.length=n)(hx:iz w w.heap.size ao xs)(gM:∀v∈xs,v.text.size<=1099511627776)(hl:L.length<=100000000000)(pr:n<=1099511627776) :
  Calls prog 127 #[.slice ao n cap] w (q7 L w):=by
 have HX:=Hd hx;have HN:=Hd hn;have qq:=Hd gM;have HL:=Hd hL;clear hx hn gM hL;go_enter func127,ntmps127
 go_wp2_with fail
 refine(Iu n w (by omega)).mono ?_;rintro e w1 ⟨a,m,c,rfl,ho,hb⟩;have HO:=Hd ho;clear ho;go_wp2_with fail
 go_loopw [3,4] (λ v i wr=>∃(k m:Nat) (a:Option Addr) (c:Nat),k<=n/\i=.int .i64 k/\v=.slice a m c/\BOwn wr w.heap.size a m c (au 4 n++(xs.take k).flatMap fp)/\Below w.heap.size w wr) (λ _ i _=>n-(intOf i).toNat)
 exact⟨0,m,a,c,by omega,rfl,rfl,by simpa using HO.out,hb⟩
 clear HO hb;obtain⟨k,m,a,c,hk,rfl,rfl,az,ag⟩:=hrel;have HO:=Hd az;have bP:=ag.size;clear az;by_cases ae:k<n
 ·
  have aQ:xs[k]?=some (xs[k]'(by rw[HN.out];exact ae)):=bu _;have bJ:xs.take (k+1)=xs.take k++[xs[k]'(by rw[HN.out];exact ae)]:=iJ _;have my:=FC fp xs k _ aQ;have gM:=qq.out _ (mC (l:=xs) (n:=k) (by rw[HN.out];exact ae));obtain⟨b,off,bm,ii,hc,_⟩:=HX.out.at aQ;generalize xs[k]'(by rw[HN.out];exact ae)=x at hc aQ bJ gM my;have Iw:(xs.flatMap fp).length+4=L.length:=by rw[<-HL.out];unfold dY;rw[List.length_append,cV];omega
  have hml:m=4+((xs.take k).flatMap fp).length:=by rw[<-HO.out.len,List.length_append,cV]
  obtain⟨q,hq⟩:∃q,fp x=q:=⟨_,rfl⟩;rw[hq]at my;obtain⟨kd,num,text⟩:=x;dsimp only at gM;have c0:wr.cell? ⟨b,off+k*3,none⟩=some (.int .u8 kd):=(ag.cell (p:=⟨b,_,none⟩) ii).trans (hc 0 (by decide));have c1:wr.cell? ⟨b,off+k*3+1,none⟩=some (.int .i64 num):=(ag.cell (p:=⟨b,_,none⟩) ii).trans (hc 1 (by decide));have c2:wr.cell? ⟨b,off+k*3+1+1,none⟩=some (.string text):=(ag.cell (p:=⟨b,_,none⟩) ii).trans (hc 2 (by decide));have c3:wr.cell? ⟨b,off+k*3+2,none⟩=some (.string text):=c2;have i1:(k:Int)<n:=by omega
  have pz:au 4 n++((xs.take k).flatMap fp++q)=au 4 n++(xs.take (k+1)).flatMap fp:=by rw[bJ,List.flatMap_append,<-hq];simp
  have Cr:m+q.length<=100000000000:=by omega
  have uL:=Hd pz;have Ix:=Hd Cr;have HQ:=Hd hq;subst bm;clear hc aQ bJ my Iw hml pz Cr hq;go_wp2_with fail
  refine(Ze kd num text q wr HQ.out gM).mono ?_;rintro e w2 ⟨a1,m1,c1',rfl,ho1,ba⟩;have et:=Hd ho1;have am:=ag.trans (ba.mono bP);have pq:=ba.size;have hm1:m+m1<=100000000000:=by have:=Ix.out;have:=ho1.len;omega
  have kt:=Hd hm1;clear ho1 c0 c1 c2 c3 hm1;go_wp2_with (at_builtin;refine od rfl (.tmp 14) (.tmp 19) rfl w.heap.size rfl (HO.out.below ba (aa _)) rfl et.out.len _ et.out.in et.out.nil (by have:=kt.out;omega) (by omega) ?_)
  intro a2 n2 c2 w3 az hg dW;have ap:=am.grown hg (by omega) (λ k hk=>(HO.out.lt k hk).1);try rw[List.append_assoc]at az
  rw[uL.out]at az;have jA:=Hd az;clear az hg dW;go_wp2_with fail
  go_roundw
  exact⟨k+1,n2,a2,c2,by omega,by go_num,rfl,jA.out,ap⟩
  simp[intOf];omega
 obtain rfl:k=n:=by omega
 have az:=HO.out;rw[fE (l:=xs) (by rw[HN.out];exact aa _)]at az;have kO:BOwn wr w.heap.size a m c L:=by rw[<-HL.out];unfold dY;rw[HN.out];exact az
 have jA:=Hd kO;clear az kO;go_wp2_with fail
 go_ret;exact⟨a,m,c,rfl,jA.out,ag⟩
theorem Ab {P:Program}{md:Region.Mode}{ops:Array Oper}{Q:Exit->Act->World->Prop}{S:World->Prop}(i j:Nat){oi oj:Oper}{fuel:Nat}{listed:Array Bool}{a:Act}{w:World}(hi:ops.toList[i]?=some oi)(hj:ops.toList[j]?=some oj)(hr:Region.ready md ops listed=[i,j])(hwi:Region.wanted oi (yielded ops a.tmps)=true)(GJ:Region.wanted oj (yielded ops a.tmps)=true)
  (h1:∀K':Act->World->Prop,Shut (∀a w,S w->wpAnyH P md ops Q S fuel (listed.setIfInBounds i true) a w->K' a w)->Oper.wp P oi a w K' Q)
  (h2:∀K':Act->World->Prop,Shut (∀a w,S w->wpAnyH P md ops Q S fuel (listed.setIfInBounds j true) a w->K' a w)->Oper.wp P oj a w K' Q):wpAnyH P md ops Q S (fuel+1) listed a w :=
 wpAnyH_ready (rs:=[i,j]) hr (by simp) (AllReadyH.cons (by rw[<-Array.getElem?_toList];exact hi) (λ K hK=>by rw[if_pos hwi];exact h1 K (λ a w hS hW=>hK.out a w hS (λ _=>hW)))
  (AllReadyH.cons (by rw[<-Array.getElem?_toList];exact hj) (λ K hK=>by rw[if_pos GJ];exact h2 K (λ a w hS hW=>hK.out a w hS (λ _=>hW))) AllReadyH.nil))
theorem OS (ck:Int)(text:ByteArray)(ao:Option Addr)(n cap:Nat)(num:Int)(args:List Va)(L:List Int)(w:World)(hL:jT ck text num args=L)(hn:args.length=n)(hx:iz w w.heap.size ao args)(gM:∀v∈args,v.text.size<=1099511627776)(j8:text.size<=1099511627776)(hl:L.length<=100000000000)(pr:n<=1099511627776) :
  Calls prog 63 #[.agg #[.int .u8 ck,.string text,.slice ao n cap,.int .i64 num]] w (q7 L w):=by
 have dl:=(aj w.heap.size w).alloc (aa _) (.cells #[.int .u8 ck,.string text,.slice ao n cap,.int .i64 num] 44);have dm:=heap_alloc_new w (.cells #[.int .u8 ck,.string text,.slice ao n cap,.int .i64 num] 44);have dz:(w.alloc (.cells #[.int .u8 ck,.string text,.slice ao n cap,.int .i64 num] 44)).heap.size=w.heap.size+1:=by simp
 have mg:=Hd dl;have yb:=Hd dm;have iL:=Hd dz;have HL:=Hd hL;clear dl dm dz hL;have hvl:13+text.size+(dY args).length=L.length:=by rw[<-HL.out,vC]
 have HX:=Hd hx;have HN:=Hd hn;have qq:=Hd gM;have EL:=Hd hvl;clear hx hn gM hvl;go_enter func63,ntmps63
 go_wp2_with fail
 have dl:=mg.out;have dm:=yb.out;have dz:=iL.out;generalize w.alloc (.cells #[.int .u8 ck,.string text,.slice ao n cap,.int .i64 num] 44)=w0 at dl dm dz ⊢;clear mg yb iL;have bD:=Hd (show ∀w',Below (w.heap.size+1) w0 w'->w'.cell? ⟨w.heap.size,0,none⟩=some (.int .u8 ck)/\w'.cell? ⟨w.heap.size,1,none⟩=some (.string text)/\w'.cell? ⟨w.heap.size,2,none⟩=some (.slice ao n cap)/\w'.cell? ⟨w.heap.size,3,none⟩=some (.int .i64 num)from λ w' h=>have hk:=(h.block w.heap.size (xu _)).trans dm;⟨ab hk 0,ab hk 1,ab hk 2,ab hk 3⟩);have cH:=Hd (show ∀w',Below (w.heap.size+1) w0 w'->w.heap.size+1<=w'.heap.size from λ w' h=>dz▸h.size);have qM:=Hd (show ∀w',Below (w.heap.size+1) w0 w'->Below w.heap.size w w' from λ w' h=>dl.trans (h.mono (fU _)));clear dl dm dz;refine nX (λ w'=>Below (w.heap.size+1) w0 w') (by kernel_rfl) ((aj _ _).drew) ?_;intro cu
 (first|(refine tkn 0 rfl ?_)|(refine aT (v:=?_) 0 rfl ?_ ?_;rotate_left;focus(intro wS ah;obtain⟨d0,d1,d2,d3⟩:=bD.out wS ah;go_simp;first|done|with_reducible rfl)))
 (try simp only[Act.put,ssa,aq,ar])
 (first|(refine tkn 1 rfl ?_)|(refine aT (v:=?_) 1 rfl ?_ ?_;rotate_left;focus(intro wS ah;obtain⟨d0,d1,d2,d3⟩:=bD.out wS ah;go_simp;first|done|with_reducible rfl)))
 (try simp only[Act.put,ssa,aq,ar])
 (first|(refine tkn 3 rfl ?_)|(refine aT (v:=?_) 3 rfl ?_ ?_;rotate_left;focus(intro wS ah;obtain⟨d0,d1,d2,d3⟩:=bD.out wS ah;go_simp;first|done|with_reducible rfl)))
 (try simp only[Act.put,ssa,aq,ar])
 (first|(refine tkn 4 rfl ?_)|(refine aT (v:=?_) 4 rfl ?_ ?_;rotate_left;focus(intro wS ah;obtain⟨d0,d1,d2,d3⟩:=bD.out wS ah;go_simp;first|done|with_reducible rfl)))
 (try simp only[Act.put,ssa,aq,ar])
 refine Ab 2 5 rfl rfl (by kernel_rfl) (by rfl) (by rfl) (λ K hK=>?_) (λ K hK=>?_)
 rotate_left
 focus
  go_simp
  (have hz:=cH.out _ cu;refine(Iv text _ _ rfl j8).mono ?_;rintro e x1 ⟨aB,nB,qB,rfl,ho,hb⟩;have hlB:=ho.len;rw[tZ]at hlB;have LB:=Hd hlB;clear hlB;have HB:=Hd (ho.le hz);have b1:=Below.trans cu (hb.mono hz);clear ho hb hz)
  refine hK.out _ _ (by assumption) ?_;clear hK K
  (try simp only[Act.put,ssa,aq,ar])
  refine dL 2 rfl (by kernel_rfl) (by rfl) (λ K hK=>?_);go_simp
  (have du:=BOwn.lit x1 [ck] (by simp);have hz:=cH.out _ b1;have hA:=(aj x1.heap.size x1).alloc (aa _) (.cells #[.int .u8 ck] 5);have b2:=Below.alloc b1 hz (.cells #[.int .u8 ck] 5);have HA:Hid (BOwn (x1.alloc (.cells #[.int .u8 ck] 5)) (w.heap.size+1) (some ⟨x1.heap.size,0,none⟩) 1 1 [ck]):=Hd (BOwn.le du hz);have HB:=Hd (HB.out.below hA (aa _));clear du hA;generalize eR:World.alloc x1 (.cells #[.int .u8 ck] 5)=x2 at b2 HA HB ⊢;clear eR hz)
  refine hK.out _ _ (by assumption) ?_;clear hK K
  (try simp only[Act.put,ssa,aq,ar])
 rotate_left
 focus
  go_simp
  (have du:=BOwn.lit w0 [ck] (by simp);have hz:=cH.out _ (aj _ w0);have b1:Below (w.heap.size+1) w0 (w0.alloc (.cells #[.int .u8 ck] 5)).drew:=((aj _ w0).alloc hz _).drew;have HA:Hid (BOwn (w0.alloc (.cells #[.int .u8 ck] 5)).drew (w.heap.size+1) (some ⟨w0.heap.size,0,none⟩) 1 1 [ck]):=Hd (BOwn.below (BOwn.le du hz) (below_drewN (aj _ _) 1) (aa _));clear du;generalize nx:(w0.alloc (.cells #[.int .u8 ck] 5)).drew=x1 at b1 HA ⊢;clear nx hz)
  refine hK.out _ _ (by assumption) ?_;clear hK K
  (try simp only[Act.put,ssa,aq,ar])
  refine dL 5 rfl (by kernel_rfl) (by rfl) (λ K hK=>?_);go_simp
  (refine(Iv text _ _ rfl j8).mono ?_;rintro e x2 ⟨aB,nB,qB,rfl,ho,hb⟩;have hlB:=ho.len;rw[tZ]at hlB;have LB:=Hd hlB;clear hlB;have HB:=Hd (ho.le (cH.out _ b1));have HA:=Hd (HA.out.below hb (aa _));have b2:=b1.trans (hb.mono (cH.out _ b1));clear ho hb)
  refine hK.out _ _ (by assumption) ?_;clear hK K
  (try simp only[Act.put,ssa,aq,ar])
 all_goals
  refine dL 6 rfl (by kernel_rfl) (by rfl) (λ K hK=>?_);skip
  (refine x9 (.tmp 6) (.tmp 9) rfl (w.heap.size+1) rfl HA.out rfl HB.out.len _ HB.out.in HB.out.nil (by have:=LB.out;have:=EL.out;omega) (cH.out _ b2) ?_;intro aD nD qD x3 ho hg hn;have LD:=Hd hn;clear hn;have b3:=b2.grown hg (cH.out _ b2) (λ k hk=>(HA.out.lt k hk).1);have HD:=Hd ho;clear ho hg)
  refine hK.out _ _ (by assumption) ?_;clear hK K
  (try simp only[Act.put,ssa,aq,ar])
  (first|(refine tkn 7 rfl ?_)|(refine aT (v:=?_) 7 rfl ?_ ?_;rotate_left;focus(intro wS ah;obtain⟨d0,d1,d2,d3⟩:=bD.out wS ah;go_simp;first|done|with_reducible rfl)))
  (try simp only[Act.put,ssa,aq,ar])
  refine wpAnyH_done (by kernel_rfl) ?_ _
 all_goals
  go_wp2_with fail
  refine nX (λ w'=>Below (w.heap.size+1) w0 w') (by kernel_rfl) (Below.drew b3) ?_;intro cu
  (first|(refine tkn 0 rfl ?_)|(refine aT (v:=?_) 0 rfl ?_ ?_;rotate_left;focus(intro wS ah;obtain⟨d0,d1,d2,d3⟩:=bD.out wS ah;go_simp;first|done|with_reducible rfl)))
  (try simp only[Act.put,ssa,aq,ar])
  (first|(refine tkn 1 rfl ?_)|(refine aT (v:=?_) 1 rfl ?_ ?_;rotate_left;focus(intro wS ah;obtain⟨d0,d1,d2,d3⟩:=bD.out wS ah;go_simp;first|done|with_reducible rfl)))
  (try simp only[Act.put,ssa,aq,ar])
  (first|(refine tkn 2 rfl ?_)|(refine aT (v:=?_) 2 rfl ?_ ?_;rotate_left;focus(intro wS ah;obtain⟨d0,d1,d2,d3⟩:=bD.out wS ah;go_simp;first|done|with_reducible rfl)))
  (try simp only[Act.put,ssa,aq,ar])
  (first|(refine tkn 5 rfl ?_)|(refine aT (v:=?_) 5 rfl ?_ ?_;rotate_left;focus(intro wS ah;obtain⟨d0,d1,d2,d3⟩:=bD.out wS ah;go_simp;first|done|with_reducible rfl)))
  (try simp only[Act.put,ssa,aq,ar])
  (first|(refine tkn 6 rfl ?_)|(refine aT (v:=?_) 6 rfl ?_ ?_;rotate_left;focus(intro wS ah;obtain⟨d0,d1,d2,d3⟩:=bD.out wS ah;go_simp;first|done|with_reducible rfl)))
  (try simp only[Act.put,ssa,aq,ar])
  refine dL 3 rfl (by kernel_rfl) (by rfl) (λ K hK=>?_);go_simp
  (have b3:=cu;have bo:=cH.out _ b3;refine(wl num _ _ rfl).mono ?_;rintro e x4 ⟨aB,nB,qB,rfl,ho,hb⟩;obtain rfl:nB=8:=(by rw[<-ho.len];exact cV _ _);have HB:=Hd (ho.le bo);have HD:=Hd ((BOwn.below HD.out (below_drewN (aj _ _) 1) (aa _)).below hb (aa _));have b4:=b3.trans (hb.mono bo);clear ho hb bo)
  refine hK.out _ _ (by assumption) ?_;clear hK K
  (try simp only[Act.put,ssa,aq,ar])
  refine dL 4 rfl (by kernel_rfl) (by rfl) (λ K hK=>?_);skip
  (refine x9 (.tmp 11) (.tmp 14) rfl (w.heap.size+1) rfl HD.out rfl HB.out.len _ HB.out.in HB.out.nil (by have:=LD.out;have:=LB.out;have:=EL.out;omega) (cH.out _ b4) ?_;intro aC nC qC x5 ho hg hn;have LC:=Hd hn;clear hn;have b5:=b4.grown hg (cH.out _ b4) (λ k hk=>(HD.out.lt k hk).1);have HC:=Hd ho;clear ho hg)
  refine hK.out _ _ (by assumption) ?_;clear hK K
  (try simp only[Act.put,ssa,aq,ar])
  refine dL 7 rfl (by kernel_rfl) (by rfl) (λ K hK=>?_);go_simp
  (refine(Zf ao n cap args _ _ rfl HN.out (RowsIn.mono cK (RowsIn.below cn HX.out (qM.out _ b5) (aa _)) (Nat.le_of_lt (cH.out _ b5))) qq.out (by have:=EL.out;omega) pr).mono ?_;rintro e x6 ⟨aV,nV,qV,rfl,ho,hb⟩;have lV:=ho.len;have LV:=Hd lV;clear lV;have HV:=Hd (ho.le (cH.out _ b5));have HC:=Hd (HC.out.below hb (aa _));have b6:=b5.trans (hb.mono (cH.out _ b5));clear ho hb)
  refine hK.out _ _ (by assumption) ?_;clear hK K
  (try simp only[Act.put,ssa,aq,ar])
  refine dL 8 rfl (by kernel_rfl) (by rfl) (λ K hK=>?_);skip
  (refine x9 (.tmp 15) (.tmp 18) rfl (w.heap.size+1) rfl HC.out rfl HV.out.len _ HV.out.in HV.out.nil (by have:=LD.out;have:=LB.out;have:=LC.out;have:=LV.out;have:=EL.out;omega) (cH.out _ b6) ?_;intro aR nR qR x7 ho hg hn;have LR:=Hd hn;clear hn;have b7:=b6.grown hg (cH.out _ b6) (λ k hk=>(HC.out.lt k hk).1);have HR:=Hd ho;clear ho hg)
  refine hK.out _ _ (by assumption) ?_;clear hK K
  (try simp only[Act.put,ssa,aq,ar])
  (first|(refine tkn 9 rfl ?_)|(refine aT (v:=?_) 9 rfl ?_ ?_;rotate_left;focus(intro wS ah;obtain⟨d0,d1,d2,d3⟩:=bD.out wS ah;go_simp;first|done|with_reducible rfl)))
  (try simp only[Act.put,ssa,aq,ar])
  refine wpAnyH_done (by kernel_rfl) ?_ _;go_wp2_with fail
  go_ret;exact⟨_,_,_,rfl,by have h:=HR.out.le (fU _);simp only[List.append_assoc]at h;rw[<-HL.out];exact h,qM.out _ b7⟩
theorem Zg (x0 x1 x2 x3 ck:Int)(text:ByteArray)(ao:Option Addr)(n cap:Nat)(num:Int)(args:List Va)(vo:Option Addr)(vn vc:Nat)(vs:List Int)(L:List Int)(w:World)(hL:df ⟨x0,x1,x2,x3,ck,text,args,num,vs⟩=L)(hn:args.length=n)(bR:vs.length=vn)(hx:iz w w.heap.size ao args)(hy:gS w w.heap.size vo vs)(gM:∀v∈args,v.text.size<=1099511627776)(j8:text.size<=1099511627776)(hl:L.length<=100000000000)(pr:n<=1099511627776)(hvl:vn<=1099511627776) :
  Calls prog 33 #[.agg #[.int .i64 x0,.int .u8 x1,.int .i64 x2,.int .i64 x3,.int .u8 ck,.string text,.slice ao n cap,.int .i64 num,.slice vo vn vc]] w (q7 L w):=by
 have dl:=(aj w.heap.size w).alloc (aa _) (.cells #[.int .i64 x0,.int .u8 x1,.int .i64 x2,.int .i64 x3,.int .u8 ck,.string text,.slice ao n cap,.int .i64 num,.slice vo vn vc] 46);have dm:=heap_alloc_new w (.cells #[.int .i64 x0,.int .u8 x1,.int .i64 x2,.int .i64 x3,.int .u8 ck,.string text,.slice ao n cap,.int .i64 num,.slice vo vn vc] 46);have dz:(w.alloc (.cells #[.int .i64 x0,.int .u8 x1,.int .i64 x2,.int .i64 x3,.int .u8 ck,.string text,.slice ao n cap,.int .i64 num,.slice vo vn vc] 46)).heap.size=w.heap.size+1:=by simp
 have mg:=Hd dl;have yb:=Hd dm;have iL:=Hd dz;have HL:=Hd hL;clear dl dm dz hL;have hel:29+(jT ck text num args).length+(vs.flatMap (au 8)).length=L.length:=by rw[<-HL.out];unfold df;simp only[List.length_append,List.length_cons,cV];omega
 have HX:=Hd hx;have HY:=Hd hy;have HN:=Hd hn;have gl:=Hd bR;have qq:=Hd gM;have OT:=Hd hel;clear hx hy hn bR gM hel;go_enter func33,ntmps33
 go_wp2_with fail
 have dl:=mg.out;have dm:=yb.out;have dz:=iL.out;generalize w.alloc (.cells #[.int .i64 x0,.int .u8 x1,.int .i64 x2,.int .i64 x3,.int .u8 ck,.string text,.slice ao n cap,.int .i64 num,.slice vo vn vc] 46)=w0 at dl dm dz ⊢;clear mg yb iL;have bD:=Hd (show ∀w',Below (w.heap.size+1) w0 w'->w'.cell? ⟨w.heap.size,0,none⟩=some (.int .i64 x0)/\w'.cell? ⟨w.heap.size,1,none⟩=some (.int .u8 x1)/\w'.cell? ⟨w.heap.size,2,none⟩=some (.int .i64 x2)/\w'.cell? ⟨w.heap.size,3,none⟩=some (.int .i64 x3)/\w'.cell? ⟨w.heap.size,4,none⟩=some (.int .u8 ck)/\w'.cell? ⟨w.heap.size,5,none⟩=some (.string text)/\w'.cell? ⟨w.heap.size,6,none⟩=some (.slice ao n cap)/\w'.cell? ⟨w.heap.size,7,none⟩=some (.int .i64 num)/\w'.cell? ⟨w.heap.size,8,none⟩=some (.slice vo vn vc)from λ w' h=>have hk:=(h.block w.heap.size (xu _)).trans dm;⟨ab hk 0,ab hk 1,ab hk 2,ab hk 3,ab hk 4,ab hk 5,ab hk 6,ab hk 7,ab hk 8⟩);have cH:=Hd (show ∀w',Below (w.heap.size+1) w0 w'->w.heap.size+1<=w'.heap.size from λ w' h=>dz▸h.size);have qM:=Hd (show ∀w',Below (w.heap.size+1) w0 w'->Below w.heap.size w w' from λ w' h=>dl.trans (h.mono (fU _)));clear dl dm dz;refine nX (λ w'=>Below (w.heap.size+1) w0 w') (by kernel_rfl) ((aj _ _).drew) ?_;intro cu
 (first|(refine tkn 0 rfl ?_)|(refine aT (v:=?_) 0 rfl ?_ ?_;rotate_left;focus(intro wS ah;obtain⟨d0,d1,d2,d3,d4,d5,d6,d7,d8⟩:=bD.out wS ah;go_simp;first|done|with_reducible rfl)))
 (try simp only[Act.put,ssa,aq,ar])
 (first|(refine tkn 1 rfl ?_)|(refine aT (v:=?_) 1 rfl ?_ ?_;rotate_left;focus(intro wS ah;obtain⟨d0,d1,d2,d3,d4,d5,d6,d7,d8⟩:=bD.out wS ah;go_simp;first|done|with_reducible rfl)))
 (try simp only[Act.put,ssa,aq,ar])
 (first|(refine tkn 3 rfl ?_)|(refine aT (v:=?_) 3 rfl ?_ ?_;rotate_left;focus(intro wS ah;obtain⟨d0,d1,d2,d3,d4,d5,d6,d7,d8⟩:=bD.out wS ah;go_simp;first|done|with_reducible rfl)))
 (try simp only[Act.put,ssa,aq,ar])
 (first|(refine tkn 4 rfl ?_)|(refine aT (v:=?_) 4 rfl ?_ ?_;rotate_left;focus(intro wS ah;obtain⟨d0,d1,d2,d3,d4,d5,d6,d7,d8⟩:=bD.out wS ah;go_simp;first|done|with_reducible rfl)))
 (try simp only[Act.put,ssa,aq,ar])
 refine Ab 2 5 rfl rfl (by kernel_rfl) (by rfl) (by rfl) (λ K hK=>?_) (λ K hK=>?_)
 rotate_left
 focus
  go_simp
  (have du:=BOwn.lit w0 [x1] (by simp);have hz:=cH.out _ (aj _ w0);have b1:Below (w.heap.size+1) w0 (w0.alloc (.cells #[.int .u8 x1] 5)).drew:=((aj _ w0).alloc hz _).drew;have HB:Hid (BOwn (w0.alloc (.cells #[.int .u8 x1] 5)).drew (w.heap.size+1) (some ⟨w0.heap.size,0,none⟩) 1 1 [x1]):=Hd (BOwn.below (BOwn.le du hz) (below_drewN (aj _ _) 1) (aa _));clear du;generalize nx:(w0.alloc (.cells #[.int .u8 x1] 5)).drew=y1 at b1 HB ⊢;clear nx hz)
  refine hK.out _ _ (by assumption) ?_;clear hK K
  (try simp only[Act.put,ssa,aq,ar])
  refine dL 2 rfl (by kernel_rfl) (by rfl) (λ K hK=>?_);go_simp
  (have hz:=cH.out _ b1;refine(wl x0 _ _ rfl).mono ?_;rintro e y2 ⟨aA,nA,qA,rfl,ho,hb⟩;obtain rfl:nA=8:=(by rw[<-ho.len];exact cV _ _);have HA:=Hd (ho.le hz);have HB:=Hd (HB.out.below hb (aa _));have b2:=b1.trans (hb.mono hz);clear ho hb hz)
  refine hK.out _ _ (by assumption) ?_;clear hK K
  (try simp only[Act.put,ssa,aq,ar])
 rotate_left
 focus
  go_simp
  (have hz:=cH.out _ cu;refine(wl x0 _ _ rfl).mono ?_;rintro e y1 ⟨aA,nA,qA,rfl,ho,hb⟩;obtain rfl:nA=8:=(by rw[<-ho.len];exact cV _ _);have HA:=Hd (ho.le hz);have b1:=Below.trans cu (hb.mono hz);clear ho hb hz)
  refine hK.out _ _ (by assumption) ?_;clear hK K
  (try simp only[Act.put,ssa,aq,ar])
  refine dL 5 rfl (by kernel_rfl) (by rfl) (λ K hK=>?_);go_simp
  (have du:=BOwn.lit y1 [x1] (by simp);have hz:=cH.out _ b1;have hA:=(aj y1.heap.size y1).alloc (aa _) (.cells #[.int .u8 x1] 5);have b2:=Below.alloc b1 hz (.cells #[.int .u8 x1] 5);have HB:Hid (BOwn (y1.alloc (.cells #[.int .u8 x1] 5)) (w.heap.size+1) (some ⟨y1.heap.size,0,none⟩) 1 1 [x1]):=Hd (BOwn.le du hz);have HA:=Hd (HA.out.below hA (aa _));clear du hA;generalize eR:World.alloc y1 (.cells #[.int .u8 x1] 5)=y2 at b2 HA HB ⊢;clear eR hz)
  refine hK.out _ _ (by assumption) ?_;clear hK K
  (try simp only[Act.put,ssa,aq,ar])
 all_goals
  refine dL 6 rfl (by kernel_rfl) (by rfl) (λ K hK=>?_);skip
  (refine x9 (.tmp 7) (.tmp 10) rfl (w.heap.size+1) rfl HA.out rfl HB.out.len _ HB.out.in HB.out.nil (by decide) (cH.out _ b2) ?_;intro aD nD qD y3 ho hg hn;obtain rfl:nD=9:=hn;have b3:=b2.grown hg (cH.out _ b2) (λ k hk=>(HA.out.lt k hk).1);have HD:=Hd ho;clear ho hg)
  refine hK.out _ _ (by assumption) ?_;clear hK K
  (try simp only[Act.put,ssa,aq,ar])
  (first|(refine tkn 7 rfl ?_)|(refine aT (v:=?_) 7 rfl ?_ ?_;rotate_left;focus(intro wS ah;obtain⟨d0,d1,d2,d3,d4,d5,d6,d7,d8⟩:=bD.out wS ah;go_simp;first|done|with_reducible rfl)))
  (try simp only[Act.put,ssa,aq,ar])
  refine wpAnyH_done (by kernel_rfl) ?_ _
 all_goals
  clear HA HB;go_wp2_with fail
  refine nX (λ w'=>Below (w.heap.size+1) w0 w') (by kernel_rfl) (Below.drew b3) ?_;intro cu
  (first|(refine tkn 0 rfl ?_)|(refine aT (v:=?_) 0 rfl ?_ ?_;rotate_left;focus(intro wS ah;obtain⟨d0,d1,d2,d3,d4,d5,d6,d7,d8⟩:=bD.out wS ah;go_simp;first|done|with_reducible rfl)))
  (try simp only[Act.put,ssa,aq,ar])
  (first|(refine tkn 1 rfl ?_)|(refine aT (v:=?_) 1 rfl ?_ ?_;rotate_left;focus(intro wS ah;obtain⟨d0,d1,d2,d3,d4,d5,d6,d7,d8⟩:=bD.out wS ah;go_simp;first|done|with_reducible rfl)))
  (try simp only[Act.put,ssa,aq,ar])
  (first|(refine tkn 2 rfl ?_)|(refine aT (v:=?_) 2 rfl ?_ ?_;rotate_left;focus(intro wS ah;obtain⟨d0,d1,d2,d3,d4,d5,d6,d7,d8⟩:=bD.out wS ah;go_simp;first|done|with_reducible rfl)))
  (try simp only[Act.put,ssa,aq,ar])
  (first|(refine tkn 5 rfl ?_)|(refine aT (v:=?_) 5 rfl ?_ ?_;rotate_left;focus(intro wS ah;obtain⟨d0,d1,d2,d3,d4,d5,d6,d7,d8⟩:=bD.out wS ah;go_simp;first|done|with_reducible rfl)))
  (try simp only[Act.put,ssa,aq,ar])
  (first|(refine tkn 6 rfl ?_)|(refine aT (v:=?_) 6 rfl ?_ ?_;rotate_left;focus(intro wS ah;obtain⟨d0,d1,d2,d3,d4,d5,d6,d7,d8⟩:=bD.out wS ah;go_simp;first|done|with_reducible rfl)))
  (try simp only[Act.put,ssa,aq,ar])
  refine dL 3 rfl (by kernel_rfl) (by rfl) (λ K hK=>?_);go_simp
  (have b3:=cu;have bo:=cH.out _ b3;refine(wl x2 _ _ rfl).mono ?_;rintro e y4 ⟨aB,nB,qB,rfl,ho,hb⟩;obtain rfl:nB=8:=(by rw[<-ho.len];exact cV _ _);have HB:=Hd (ho.le bo);have HD:=Hd ((BOwn.below HD.out (below_drewN (aj _ _) 1) (aa _)).below hb (aa _));have b4:=b3.trans (hb.mono bo);clear ho hb bo)
  refine hK.out _ _ (by assumption) ?_;clear hK K
  (try simp only[Act.put,ssa,aq,ar])
  refine dL 4 rfl (by kernel_rfl) (by rfl) (λ K hK=>?_);skip
  (refine x9 (.tmp 12) (.tmp 15) rfl (w.heap.size+1) rfl HD.out rfl HB.out.len _ HB.out.in HB.out.nil (by decide) (cH.out _ b4) ?_;intro aC nC qC y5 ho hg hn;obtain rfl:nC=17:=hn;have b5:=b4.grown hg (cH.out _ b4) (λ k hk=>(HD.out.lt k hk).1);have HC:=Hd ho;clear ho hg)
  refine hK.out _ _ (by assumption) ?_;clear hK K
  (try simp only[Act.put,ssa,aq,ar])
  refine dL 7 rfl (by kernel_rfl) (by rfl) (λ K hK=>?_);go_simp
  (have nW:=cH.out _ b5;refine(wl x3 _ _ rfl).mono ?_;rintro e y6 ⟨aE,nE,qE,rfl,ho,hb⟩;obtain rfl:nE=8:=(by rw[<-ho.len];exact cV _ _);have HE:=Hd (ho.le nW);have HC:=Hd (HC.out.below hb (aa _));have b6:=b5.trans (hb.mono nW);clear ho hb nW)
  refine hK.out _ _ (by assumption) ?_;clear hK K
  (try simp only[Act.put,ssa,aq,ar])
  refine dL 8 rfl (by kernel_rfl) (by rfl) (λ K hK=>?_);skip
  (refine x9 (.tmp 16) (.tmp 19) rfl (w.heap.size+1) rfl HC.out rfl HE.out.len _ HE.out.in HE.out.nil (by decide) (cH.out _ b6) ?_;intro aG nG qG y7 ho hg hn;obtain rfl:nG=25:=hn;have b7:=b6.grown hg (cH.out _ b6) (λ k hk=>(HC.out.lt k hk).1);have HG:=Hd ho;clear ho hg)
  refine hK.out _ _ (by assumption) ?_;clear hK K
  (try simp only[Act.put,ssa,aq,ar])
  (first|(refine tkn 9 rfl ?_)|(refine aT (v:=?_) 9 rfl ?_ ?_;rotate_left;focus(intro wS ah;obtain⟨d0,d1,d2,d3,d4,d5,d6,d7,d8⟩:=bD.out wS ah;go_simp;first|done|with_reducible rfl)))
  (try simp only[Act.put,ssa,aq,ar])
  refine wpAnyH_done (by kernel_rfl) ?_ _;clear HB HC HD HE;obtain⟨e0,e1,e2,e3,e4,e5,e6,e7,e8⟩:=bD.out _ b7;have Ef:=cH.out _ b7;obtain⟨cq,hcq⟩:∃q,jT ck text num args=q:=⟨_,rfl⟩;have dC:cq.length<=100000000000:=by have:=OT.out;rw[hcq]at this;omega
  have Iy:=Hd hcq;clear e0 e1 e2 e3 hcq;go_wp2_with fail
  refine(OS ck text ao n cap num args cq y7 Iy.out HN.out (RowsIn.mono cK (RowsIn.below cn HX.out (qM.out _ b7) (aa _)) (qM.out _ b7).size) qq.out j8 dC pr).mono ?_;rintro e y8 ⟨aH,nH,qH,rfl,ho,hb⟩;have OU:=Hd ho.len;have HH:=Hd (ho.le Ef);have HG:=Hd (HG.out.below hb (aa _));have b8:=b7.trans (hb.mono Ef);have Iz:=cH.out _ b8;clear ho hb e4 e5 e6 e7 e8 Ef;go_wp2_with (at_builtin;refine od rfl (.tmp 21) (.tmp 24) rfl (w.heap.size+1) rfl HG.out rfl HH.out.len _ HH.out.in HH.out.nil (by have:=OU.out;omega) Iz ?_)
  intro aI nI qI y9 ho hg hn;have OV:=Hd hn;have b9:=b8.grown hg Iz (λ k hk=>(HG.out.lt k hk).1);have HI:=Hd ho;have zL:=cH.out _ b9;obtain⟨_,_,_,_,_,_,_,_,e8⟩:=bD.out _ b9;clear ho hg hn HH HG Iz;go_wp2_with fail
  refine(Iu vn y9 (by omega)).mono ?_;rintro e y10 ⟨aJ,nJ,qJ,rfl,ho,hb⟩;obtain rfl:nJ=4:=(by rw[<-ho.len];exact cV _ _);have HJ:=Hd (ho.le zL);have HI:=Hd (HI.out.below hb (aa _));have b10:=b9.trans (hb.mono zL);have IA:=cH.out _ b10;clear ho hb e8 zL;go_wp2_with (at_builtin;refine od rfl (.tmp 26) (.tmp 30) rfl (w.heap.size+1) rfl HI.out rfl HJ.out.len _ HJ.out.in HJ.out.nil (by have:=OV.out;have:=OU.out;omega) IA ?_)
  intro aK nK qK Zh ho hg hn;have b11:=b10.grown hg IA (λ k hk=>(HI.out.lt k hk).1);obtain⟨hd,hhd⟩:∃q,au 8 x0++[x1]++au 8 x2++au 8 x3++cq++au 4 vn=q:=⟨_,rfl⟩;have OW:hd.length=29+cq.length:=by rw[<-hhd];simp only[List.length_append,List.length_singleton,cV];omega
  have ho2:BOwn Zh (w.heap.size+1) aK nK qK hd:=by rw[<-hhd];simpa using ho
  have HK:=Hd ho2;have Zi:=Hd hhd;have Zj:=Hd OW;obtain⟨_,_,_,_,_,_,_,_,e8⟩:=bD.out _ b11;clear ho ho2 hg hn HJ HI OV IA hhd OW;go_wp2_with fail
  go_loopw [3,4] (λ v i wr=>∃(k m:Nat) (a:Option Addr) (c:Nat),k<=vn/\i=.int .i64 k/\v=.slice a m c/\BOwn wr (w.heap.size+1) a m c (hd++(vs.take k).flatMap (au 8))/\Below (w.heap.size+1) w0 wr) (λ _ i _=>vn-(intOf i).toNat)
  exact⟨0,nK,aK,qK,by omega,rfl,rfl,by simpa using HK.out,b11⟩
  clear HK b11 e8;obtain⟨k,m,a,c,hk,rfl,rfl,az,ag⟩:=hrel;have HO:=Hd az;have bP:=cH.out _ ag;clear az;obtain⟨_,_,_,_,_,_,_,_,e8⟩:=bD.out _ ag;by_cases ae:k<vn
  ·
   have aQ:vs[k]?=some (vs[k]'(by rw[gl.out];exact ae)):=bu _;have bJ:vs.take (k+1)=vs.take k++[vs[k]'(by rw[gl.out];exact ae)]:=iJ _;have my:=FC (au 8) vs k _ aQ;obtain⟨b,off,bm,ii,hc,eC⟩:=HY.out.at aQ;generalize vs[k]'(by rw[gl.out];exact ae)=x at hc aQ bJ my eC;have hml:m=29+cq.length+((vs.take k).flatMap (au 8)).length:=by rw[<-HO.out.len,List.length_append,Zj.out]
   have Cr:m+8<=100000000000:=by have:=OT.out;rw[Iy.out]at this;rw[cV]at my;omega
   have pz:hd++((vs.take k).flatMap (au 8)++au 8 x)=hd++(vs.take (k+1)).flatMap (au 8):=by rw[bJ,List.flatMap_append];simp
   have em:=qM.out _ ag;have c0:wr.cell? ⟨b,off+k,none⟩=some (.int .i64 x):=(em.cell (p:=⟨b,_,none⟩) ii).trans (by simpa[gb]using hc 0 (by decide));have i1:(k:Int)<vn:=by omega
   have uL:=Hd pz;have Ix:=Hd Cr;subst bm;clear hc aQ bJ my hml pz Cr eC em;go_wp2_with fail
   refine(wl x _ wr rfl).mono ?_;rintro e w2 ⟨a1,m1,c1,rfl,ho1,ba⟩;obtain rfl:m1=8:=(by rw[<-ho1.len];exact cV _ _);have et:=Hd ho1;have am:=ag.trans (ba.mono bP);have pq:=cH.out _ am;clear ho1 c0 e8;go_wp2_with (at_builtin;refine od rfl (.tmp 39) (.tmp 45) rfl (w.heap.size+1) rfl (HO.out.below ba (aa _)) rfl et.out.len _ et.out.in et.out.nil (by have:=Ix.out;omega) pq ?_)
   intro a2 n2 c2 w3 az hg dW;have ap:=am.grown hg pq (λ k hk=>(HO.out.lt k hk).1);have bj:BOwn w3 (w.heap.size+1) a2 n2 c2 (hd++(vs.take (k+1)).flatMap (au 8)):=by rw[<-uL.out];simpa using az
   have jA:=Hd bj;clear az bj hg dW;go_wp2_with fail
   go_roundw
   exact⟨k+1,n2,a2,c2,by omega,by go_num,rfl,jA.out,ap⟩
   simp[intOf];omega
  obtain rfl:k=vn:=by omega
  have az:=HO.out;rw[fE (l:=vs) (by rw[gl.out];exact aa _)]at az
  have kO:BOwn wr w.heap.size a m c L:=by
   have h:=az.le (fU w.heap.size);rw[<-Zi.out,<-Iy.out]at h;rw[<-HL.out];unfold df;dsimp only;rw[gl.out];simpa using h
  have HR:=Hd kO;clear az kO;go_wp2_with fail
  go_ret;exact⟨_,_,_,rfl,HR.out,qM.out _ ag⟩
theorem OX {α:Type}{xs ys:List α}{k:Nat}{x y:α}(hx:xs[k]?=some x)(hy:ys[k]?=some y)(h:x≠y):xs≠ys:=λ e=>h (by rw[e,hy]at hx;exact(vj hx).symm)
theorem take_eq_all {α:Type}{xs ys:List α}{n:Nat}(h:xs.take n=ys.take n)(hx:xs.length=n)(hy:ys.length=n):xs=ys:=by
 rwa [fE (by omega),fE (by omega)]at h
theorem OY {α:Type}{xs ys:List α}{k:Nat}{x:α}(hx:xs[k]?=some x)(hy:ys[k]?=some x)(h:xs.take k=ys.take k):xs.take (k+1)=ys.take (k+1):=by
 obtain⟨h1,h2⟩:=List.getElem?_eq_some_iff.1 hx;obtain⟨h3,h4⟩:=List.getElem?_eq_some_iff.1 hy;rw[iJ h1,iJ h3,h,h2,h4]
def qN (g:Bool) (w:World) (e:Ending) (w':World):Prop:=e=.returned (.bool g)/\Below w.heap.size w w'
theorem Zk (t:TypeId)(h:t=50)(a b:Int)(s:ByteArray)(a2 b2:Int)(s2:ByteArray)(dj:(⟨a,b,s⟩:Va)≠⟨a2,b2,s2⟩)(w:World):(binOp .neq t (.agg #[.int .u8 a,.int .i64 b,.string s]) (.agg #[.int .u8 a2,.int .i64 b2,.string s2])).run prog w=.ok (.bool true) w:=by
 subst h;simp only[ne_eq,Va.mk.injEq]at dj;simp[go_sem,underlying50];exact λ h1 h2 h3=>dj ⟨h1,h2,toList_inj h3⟩
theorem Zl (ao:Option Addr)(n cap:Nat)(co:Option Addr)(m cap2:Nat)(xs ys:List Int)(w:World)(B:Nat)(hn:xs.length=n)(hm:ys.length=m)(hx:gS w B ao xs)(hy:gS w B co ys)(hB:B<=w.heap.size)(hl:n<=4611686018427387904)(cG:m<=4611686018427387904)(g:Bool)(hg:decide (xs=ys)=g) :
  Calls prog 57 #[.slice ao n cap,.slice co m cap2] w (qN g w):=by
 by_cases hnm:n=m
 ·
  subst hnm;have HX:=Hd (hx.mono cK hB);have HY:=Hd (hy.mono cK hB);have HN:=Hd hn;have HM:=Hd hm;have HG:=Hd hg;clear hx hy hn hm hg;go_enter func57,ntmps57
  go_wp2_with fail
  go_loopw [5] (λ i wr=>∃k:Nat,k<=n/\i=.int .i64 k/\xs.take k=ys.take k/\Below w.heap.size w wr) (λ i _=>n-(intOf i).toNat)
  exact⟨0,by omega,rfl,rfl,aj _ _⟩
  obtain⟨k,hk,rfl,bJ,ag⟩:=hrel;have HT:=Hd bJ;clear bJ;by_cases ae:k<n
  ·
   have aQ:xs[k]?=some (xs[k]'(by rw[HN.out];exact ae)):=bu _;have lU:ys[k]?=some (ys[k]'(by rw[HM.out];exact ae)):=bu _;obtain⟨b,off,bm,hb,hc,_⟩:=HX.out.at aQ;obtain⟨b2,off2,hco,am,bN,_⟩:=HY.out.at lU;generalize xs[k]'(by rw[HN.out];exact ae)=x at hc aQ;generalize ys[k]'(by rw[HM.out];exact ae)=y at bN lU;have fB:=Hd aQ;have Cs:=Hd lU;subst bm hco;have i1:(k:Int)<n:=by omega
   clear aQ lU;have d0:=hc 0 (by decide);have d1:=bN 0 (by decide);have c0:∀x':Calm w.heap.size w,x'.1.cell? ⟨b,off+k,none⟩=some (.int .i64 x):=λ x'=>x'.cell (by simpa[gb]using d0) hb
   have c1:∀x':Calm w.heap.size w,x'.1.cell? ⟨b2,off2+k,none⟩=some (.int .i64 y):=λ x'=>x'.cell (by simpa[gb]using d1) am
   clear d0 d1 hc bN;by_cases lZ:x=y
   ·
    subst lZ;have pz:=OY fB.out Cs.out HT.out;have uL:=Hd pz;clear pz;go_wp2_with fail
    refine gR (B:=w.heap.size) (W0:=w) ag (by kernel_rfl) (by kernel_rfl) ?_;repeat(go_big_quiet_step (fail))
    refine wpQuiet_nil ?_;intro w5 ak;clear c0 c1;go_wp2_with fail
    go_roundw
    exact⟨k+1,by omega,by go_num,uL.out,ak⟩
    simp[intOf];omega
   have n1:(x != y)=true:=by simpa using lZ
   have n2:(x==y)=false:=by simpa using lZ
   have ax:g=false:=by rw[<-HG.out];exact decide_eq_false (OX fB.out Cs.out lZ)
   have aZ:=Hd ax;clear ax;go_wp2_with fail
   refine gR (B:=w.heap.size) (W0:=w) ag (by kernel_rfl) (by kernel_rfl) ?_;repeat(go_big_quiet_step (fail))
   refine wpQuiet_nil ?_;intro w5 ak;clear c0 c1;go_wp2_with fail
   go_ret;exact⟨dT aZ.out.symm,ak⟩
  obtain rfl:k=n:=by omega
  have ax:g=true:=by rw[<-HG.out];exact decide_eq_true (take_eq_all HT.out HN.out HM.out)
  have aZ:=Hd ax;clear ax;go_wp2_with fail
  go_ret;exact⟨dT aZ.out.symm,ag⟩
 have ax:g=false:=by rw[<-hg];exact decide_eq_false (λ h=>hnm (by rw[<-hn,<-hm,h]))
 have i1:((n:Int)==m)=false:=beq_eq_false_iff_ne.2 (by omega);have i2:((n:Int) != m)=true:=bne_iff_ne.2 (by omega);have aZ:=Hd ax;clear hg ax hn hm;go_enter func57,ntmps57
 go_wp2_with fail
 go_ret;exact⟨dT aZ.out.symm,aj _ _⟩
theorem Zm (ao:Option Addr)(n cap:Nat)(co:Option Addr)(m cap2:Nat)(xs ys:List Va)(w:World)(B:Nat)(hn:xs.length=n)(hm:ys.length=m)(hx:iz w B ao xs)(hy:iz w B co ys)(hB:B<=w.heap.size)(hl:n<=4611686018427387904)(cG:m<=4611686018427387904)(g:Bool)(hg:decide (xs=ys)=g) :
  Calls prog 130 #[.slice ao n cap,.slice co m cap2] w (qN g w):=by
 by_cases hnm:n=m
 ·
  subst hnm;have HX:=Hd (hx.mono cK hB);have HY:=Hd (hy.mono cK hB);have HN:=Hd hn;have HM:=Hd hm;have HG:=Hd hg;clear hx hy hn hm hg;go_enter func130,ntmps130
  go_wp2_with fail
  go_loopw [5] (λ i wr=>∃k:Nat,k<=n/\i=.int .i64 k/\xs.take k=ys.take k/\Below w.heap.size w wr) (λ i _=>n-(intOf i).toNat)
  exact⟨0,by omega,rfl,rfl,aj _ _⟩
  obtain⟨k,hk,rfl,bJ,ag⟩:=hrel;have HT:=Hd bJ;clear bJ;by_cases ae:k<n
  ·
   have aQ:xs[k]?=some (xs[k]'(by rw[HN.out];exact ae)):=bu _;have lU:ys[k]?=some (ys[k]'(by rw[HM.out];exact ae)):=bu _;obtain⟨b,off,bm,hb,hc,_⟩:=HX.out.at aQ;obtain⟨b2,off2,hco,am,bN,_⟩:=HY.out.at lU;generalize xs[k]'(by rw[HN.out];exact ae)=x at hc aQ;generalize ys[k]'(by rw[HM.out];exact ae)=y at bN lU;have fB:=Hd aQ;have Cs:=Hd lU;subst bm hco;have i1:(k:Int)<n:=by omega
   clear aQ lU;obtain⟨x0,x1,x2⟩:=x;obtain⟨y0,y1,y2⟩:=y;have c0:∀x':Calm w.heap.size w,x'.1.cell? ⟨b,off+k*3,none⟩=some (.int .u8 x0):=λ x'=>x'.cell (hc 0 (by decide)) hb
   have c1:∀x':Calm w.heap.size w,x'.1.cell? ⟨b,off+k*3+1,none⟩=some (.int .i64 x1):=λ x'=>x'.cell (hc 1 (by decide)) hb
   have c2:∀x':Calm w.heap.size w,x'.1.cell? ⟨b,off+k*3+2,none⟩=some (.string x2):=λ x'=>x'.cell (hc 2 (by decide)) hb
   have c3:∀x':Calm w.heap.size w,x'.1.cell? ⟨b2,off2+k*3,none⟩=some (.int .u8 y0):=λ x'=>x'.cell (bN 0 (by decide)) am
   have c4:∀x':Calm w.heap.size w,x'.1.cell? ⟨b2,off2+k*3+1,none⟩=some (.int .i64 y1):=λ x'=>x'.cell (bN 1 (by decide)) am
   have c5:∀x':Calm w.heap.size w,x'.1.cell? ⟨b2,off2+k*3+2,none⟩=some (.string y2):=λ x'=>x'.cell (bN 2 (by decide)) am
   clear hc bN;by_cases lZ:(⟨x0,x1,x2⟩:Va)=⟨y0,y1,y2⟩
   ·
    simp only[Va.mk.injEq]at lZ;obtain⟨rfl,rfl,rfl⟩:=lZ;have hsv:=Lu 50 rfl x0 x1 x2;have pz:=OY fB.out Cs.out HT.out;have uL:=Hd pz;clear pz;go_wp2_with fail
    refine gR (B:=w.heap.size) (W0:=w) ag (by kernel_rfl) (by kernel_rfl) ?_;repeat(go_big_quiet_step (fail))
    refine wpQuiet_nil ?_;intro w5 ak;clear c0 c1 c2 c3 c4 c5;go_wp2_with fail
    go_roundw
    exact⟨k+1,by omega,by go_num,uL.out,ak⟩
    simp[intOf];omega
   have hnv:=Zk 50 rfl x0 x1 x2 y0 y1 y2 lZ;have ax:g=false:=by rw[<-HG.out];exact decide_eq_false (OX fB.out Cs.out lZ)
   have aZ:=Hd ax;clear ax;go_wp2_with fail
   refine gR (B:=w.heap.size) (W0:=w) ag (by kernel_rfl) (by kernel_rfl) ?_;repeat(go_big_quiet_step (fail))
   refine wpQuiet_nil ?_;intro w5 ak;clear c0 c1 c2 c3 c4 c5;go_wp2_with fail
   go_ret;exact⟨dT aZ.out.symm,ak⟩
  obtain rfl:k=n:=by omega
  have ax:g=true:=by rw[<-HG.out];exact decide_eq_true (take_eq_all HT.out HN.out HM.out)
  have aZ:=Hd ax;clear ax;go_wp2_with fail
  go_ret;exact⟨dT aZ.out.symm,ag⟩
 have ax:g=false:=by rw[<-hg];exact decide_eq_false (λ h=>hnm (by rw[<-hn,<-hm,h]))
 have i1:((n:Int)==m)=false:=beq_eq_false_iff_ne.2 (by omega);have i2:((n:Int) != m)=true:=bne_iff_ne.2 (by omega);have aZ:=Hd ax;clear hg ax hn hm;go_enter func130,ntmps130
 go_wp2_with fail
 go_ret;exact⟨dT aZ.out.symm,aj _ _⟩
end Go.Proofs.YtepdklfkegkojaaGreatDoor
