/- Parts of one proof. Conditions: as each says. -/
import Derived.Test.YtepdklfkegkojaaGreatDoorGLetterNumbers0
import Derived.Test.YtepdklfkegkojaaGreatDoorGLetterNumbers15
import Derived.StillTailTactics
import Derived.Test.YtepdklfkegkojaaGreatDoorGLetterNumbers3
set_option linter.all false
set_option maxHeartbeats 16000000
set_option maxRecDepth 100000
namespace Go.Proofs.YtepdklfkegkojaaGreatDoor
open Go.Proofs.Tryz
open Go.RowKit
def bt (k i:Nat):Int:=1000003*((k:Int)+7)+i
def ez (k i:Nat):Int:=IntKind.u64.wrap (bt k i*11400714819323198485) / 72057594037927936 % 256
theorem Cw (a b:Int)(k i:Nat)(ha:a=k)(hb:b=i)(hk:k<=1000000)(hi:i<=2000000000000)(w:World) :
  Calls prog 91 #[.int .i64 a,.int .i64 b] w λ e w'=>e=.returned (.int .i64 (bt k i))/\w=w':=by
 subst ha hb;go_enter func91,ntmps91
 go_wp2_with fail
 go_ret;exact⟨rfl,rfl⟩
theorem pO (a b:Int)(k i:Nat)(ha:a=k)(hb:b=i)(hk:k<=1000000)(hi:i<=2000000000000)(w:World) :
  Calls prog 52 #[.int .i64 a,.int .i64 b] w λ e w'=>e=.returned (.int .u8 (ez k i))/\w=w':=by
 have hm:0<=bt k i/\bt k i<=4000000000000:=by unfold bt;omega
 have HM:=Hd (show ez k i=IntKind.u64.wrap (bt k i*11400714819323198485) / 72057594037927936 % 256 from rfl);have hc:=Cw a b k i ha hb hk hi;generalize bt k i=m at hm HM hc;have HC:=Hd hc;clear hc ha hb;go_enter func52,ntmps52
 go_wp2_with fail
 refine(HC.out _).mono ?_;rintro e w' ⟨rfl,rfl⟩;go_wp2_with fail
 go_ret;exact⟨VQ (by rw[HM.out]),rfl⟩
def cj (k i:Nat):List Value:=[.int .u8 (ez k i)]
theorem oo (k i:Nat):(cj k i).length=1:=rfl
theorem jF {l:List Value}{q:Nat}{u:Value}(h:q<l.length):(l.set q u).take (q+1)=l.take q++[u]:=by
 rw[iJ (by simpa using h)];congr 1
 · exact List.take_set_of_le (aa _)
 simp
theorem Zo {w:World}{base e size n m cap:Nat}{ao:Option Addr}{xs:List Value}(h:w.ownsRow base e size (.slice ao m cap) n xs):m<=cap:=by
 rcases h.2 with ⟨h',_⟩|⟨g,cap',cur,h',_,_,h3,_⟩
 · cases h';omega
 cases h';exact h3
theorem IB:(prog.info? 25).map (λ i=>(i.zero,i.size,i.bytes))=some (some (.slice none 0 0),1,24):=by kernel_rfl
theorem uN (z:Value)(n:Nat):(madeCells #[z] n).toList=(List.range n).map λ _=>z:=by
 apply List.ext_getElem?
 intro i;rw[List.getElem?_map,Array.getElem?_toList];by_cases hi:i<n
 · rw[fH hi];simp[madeCells,hi,Nat.mod_one]
 rw[wV (by simpa using hi),Array.getElem?_eq_none (by simp[size_madeCells];omega)];rfl
theorem tM {w:World}{B E SZ B2 E2 S2 k hs n n2 q g c:Nat}{mk:Nat->Nat->List Value}{r u:Value}{xs:List Value}(h:GrowAt B E SZ mk k hs r n q (.slice (some ⟨g,0,none⟩) (n+q) c) w)(hu:w.ownsRow B2 E2 S2 u n2 xs)(fM:∀b,u.ownBlock=some b->b<hs)(jS:Sep u r):u.ownBlock=none∨u.ownBlock≠some g:=by
 cases hub:u.ownBlock with
 | none=>exact Or.inl rfl
 | some b =>
  right
  intro he;cases he
  rcases h.2.2 with h1|h1
  · exact jS g hub h1.symm
  have:=h1 g rfl;have:=fM g hub;omega
theorem cW {w:World}{B E SZ n:Nat}{v:Value}{xs:List Value}(h:w.ownsRow B E SZ v n xs):∃a c,v=.slice a n c/\(a=none->n=0/\c=0)/\(0<c->∃g,a=some ⟨g,0,none⟩)/\n<=c:=by
 have h0:=h;rcases oD h with ⟨rfl,hz⟩|⟨g,c,rfl⟩
 · exact⟨none,0,by rw[hz],λ _=>⟨hz,rfl⟩,λ h=>by omega,by omega⟩
 exact⟨_,c,rfl,by simp,λ _=>⟨g,rfl⟩,Zo h0⟩
theorem Zp (B K:Nat)(lo:Option Addr)(lc:Nat)(R:Nat->Value)(n:Nat->Nat)(C0:Nat->List Value)(w:World)
  (hL:w.ownsRow B 25 1 (.slice lo K lc) K ((List.range K).map R)) (hR:bf B 5 1 K R n C0 w) (jS:pN K R) (hK:K<=100000) (hn:∀j,j<K->n j<=1099511627776) (hB:B<=w.heap.size) :
  Calls prog 100 #[.slice lo K lc] w λ e w'=>e=.returned (.bool true)/\Kb (aM K R) B 5 w w':=by
 have HL:=Hd hL;have HR:=Hd hR;have HS:=Hd jS;have HN:=Hd hn;clear hL hR jS hn;go_enter func100,ntmps100
 go_wp2_with fail
 go_loopw [3,4] (λ i _ wr=>∃k:Nat,k<=K/\i=.int .i64 k/\(∃C,bf B 5 1 K R n C wr/\∀j,j<k->C j=aw cj j (n j))/\wr.ownsRow B 25 1 (.slice lo K lc) K ((List.range K).map R)/\Kb (aM K R) B 5 w wr) (λ i _ _=>K-(intOf i).toNat)
 exact⟨0,by omega,rfl,⟨C0,HR.out,λ j hj=>by omega⟩,HL.out,Kb.refl _ _ _ _⟩
 obtain⟨k,hk,rfl,gO,bG,ag⟩:=hrel;have fW:=Hd gO;have be:=Hd bG;clear gO bG;by_cases ae:k<K
 ·
  obtain⟨C,hC,je⟩:=fW.out;obtain⟨a,c,aW,dx,ch,dg⟩:=cW (hC k ae);have cX:=HN.out k ae;obtain⟨nk,bC⟩:∃nk,nk=n k:=⟨_,rfl⟩;rw[<-bC]at aW dx cX dg;obtain⟨lb,jf,dD⟩:=iP be.out (by omega);cases dD
  have cS:=Hd aW;have bK:=Hd bC;have HC:=Hd hC;have sJ:=Hd je;have eG:=Hd ch;have i1:(k:Int)<K:=by omega
  clear aW bC hC je ch dx;go_wp2_with fail
  obtain⟨wo,rfl⟩:∃wo:World,wo=wr:=⟨_,rfl⟩;go_loopw [4] (λ i wr=>∃q:Nat,q<=nk/\i=.int .i64 q/\(∃C,bf B 5 1 K R n C wr/\(∀j,j<k->C j=aw cj j (n j))/\(C k).take q=aw cj k q)/\wr.ownsRow B 25 1 (.slice (some ⟨lb,0,none⟩) K lc) K ((List.range K).map R)/\Kb (aM K R) B 5 w wr) (λ i _=>nk-(intOf i).toNat)
  exact⟨0,by omega,rfl,⟨C,HC.out,sJ.out,by simp[aw]⟩,be.out,ag⟩
  clear ag;obtain⟨q,hq,rfl,gO,bG,ag⟩:=hrel;have oS:=Hd gO;have cT:=Hd bG
  have c0:wr.cell? ⟨lb,k,none⟩=some (.slice a nk c):=by
   rw[ay bG k (by omega),dp R K k ae,cS.out]
  clear gO bG;by_cases eA:q<nk
  ·
   obtain⟨g,rfl⟩:=eG.out (by omega);have i2:(q:Int)<nk:=by omega
   go_wp2_with fail
   go_still_tail 9,(by kernel_rfl)
   still_call ((pO _ _ k q rfl rfl (by omega) (by omega) _).mono λ _ _ ⟨h,hw⟩=>⟨h,hw.symm⟩)
   repeat still_step
   refine wpStill_nil ?_;change wpList _ _ _ _ _ wr.drew;obtain⟨C2,fP,ld,lg⟩:=oS.out;have uO:bf B 5 1 K R n C2 wr.drew:=fP;have ep:wr.drew.ownsRow B 25 1 (.slice (some ⟨lb,0,none⟩) K lc) K ((List.range K).map R):=cT.out;have ap:Kb (aM K R) B 5 w wr.drew:=ag.drew;generalize wr.drew=w3 at uO ep ap ⊢;have de:=uO k ae;rw[cS.out,<-bK.out]at de;have uP:q<(C2 k).length:=by have:=de.1;omega
   have d0:w3.cell? ⟨g,q,none⟩=some ((C2 k)[q]):=by
    rw[ay de q (by omega),bu uP]
   have f0:w3.frozen? ⟨g,q,none⟩=false:=cO de _;have aP:=cU de q (.int .u8 (ez k q));have aN:=Hd aP;have lP:=Hd de;have sK:=Hd uO;have jg:=Hd ep;generalize (C2 k)[q]=old at d0;clear aP de uO ep fP c0;go_wp2_with fail
   go_roundw
   case rel =>
    have cJ:(R k).ownBlock=some g:=by rw[cS.out];rfl
    refine⟨q+1,by omega,by go_num,⟨_,bf.upd sK.out HS.out ae (by rw[cJ];exact aN.out.2) (by rw[cS.out,<-bK.out];exact aN.out.1),λ j hj=>?_,?_⟩,?_,?_⟩
    ·
     have e:¬j=k:=by omega
     simp only[e,if_false];exact ld j hj
    ·
     simp only[if_true];rw[jF uP,lg,qO];rfl
    · exact aX jg.out aN.out.2 (by have:=cp jg.out lP.out (by decide);exact this)
    exact ap.mO aN.out.2 (by have:=ap.size;omega) lP.out (lP.out.lt g rfl).1 (Or.inl ⟨k,ae,cJ⟩)
   simp[intOf];omega
  obtain rfl:q=nk:=by omega
  go_wp2_with fail
  go_roundw
  case rel =>
   obtain⟨C2,fP,ld,lg⟩:=oS.out;refine⟨k+1,by omega,by go_num,⟨C2,fP,λ j hj=>?_⟩,cT.out,ag⟩;by_cases e:j=k
   ·
    subst e;rw[<-bK.out,<-lg,fE (by have:=(fP j ae).1;rw[<-bK.out]at this;omega)]
   exact ld j (by omega)
  simp[intOf];omega
 obtain rfl:K=k:=by omega
 obtain⟨wo,rfl⟩:∃wo:World,wo=wr:=⟨_,rfl⟩
 have pB:bf B 5 1 K R n (λ j=>aw cj j (n j)) wo:=by
  obtain⟨C,hC,je⟩:=fW.out;exact hC.congr je
 have hmk:=run_make_row' (P:=prog) 53 25 (.slice none 0 0) 24 underlying53 IB rfl .i64 .i64 K (by omega) (by omega);have bP:=ag.size;have pC:w.heap.size<=wo.heap.size:=bP;have gP:bf B 5 1 K R n (λ j=>aw cj j (n j)) (wo.alloc (.cells (madeCells #[.slice none 0 0] K) 25)):=λ j hj=>(pB j hj).alloc _
 have cG:=nU be.out (.cells (madeCells #[.slice none 0 0] K) 25);have ax:=oH (base:=B) (e:=25) (size:=1) wo (madeCells #[.slice none 0 0] K) K (by omega) (by unfold maxLen;omega) (by simp[size_madeCells]);rw[uN]at ax;have am:=ag.alloc (by omega) (.cells (madeCells #[.slice none 0 0] K) 25)
 have oT:Sep (.slice lo K lc) (.slice (some ⟨wo.heap.size,0,none⟩) K K):=λ b hb bi=>by
  have:=(be.out.lt b hb).2;simp[Value.ownBlock]at bi;omega
 have eu:=Hd gP;have cY:=Hd cG;have aZ:=Hd ax;have oU:=Hd oT;clear pB gP cG ax oT fW be;obtain⟨i0,hi,bo,bp,aU⟩:=info_parts infoByte;go_wp2_with fail
 generalize wo.alloc (.cells (madeCells #[.slice none 0 0] K) 25)=w1 at eu cY aZ am ⊢;clear hmk
 go_loopw [6,7,8] (λ i _ _ wr=>∃(k:Nat) (V:Nat->Value),k<=K/\i=.int .i64 k/\bf B 5 1 K R n (λ j=>aw cj j (n j)) wr/\(∀j,j<k->wr.ownsRow B 5 1 (V j) (n j+64) (aw cj j (n j+64)))/\(∀i j,i<k->j<K->i≠j->Sep (V i) (R j))/\(∀i j,i<k->j<k->i≠j->Sep (V i) (V j)) /\
  wr.ownsRow B 25 1 (.slice lo K lc) K ((List.range K).map R)/\wr.ownsRow B 25 1 (.slice (some ⟨wo.heap.size,0,none⟩) K K) K ((List.range K).map λ j=>if j<k then V j else .slice none 0 0)/\Kb (aM K R) B 5 w wr) (λ i _ _ _=>K-(intOf i).toNat)
 exact⟨0,λ _=>.slice none 0 0,by omega,rfl,eu.out,λ j hj=>by omega,λ i j hi=>by omega,λ i j hi=>by omega,cY.out,by simpa using aZ.out,am⟩
 clear ag bP am eu cY aZ;obtain⟨k,V,hk,rfl,hP,hV,gC,gD,bG,cN,ag⟩:=hrel;have HP:=Hd hP;have HV:=Hd hV;have cI:=Hd gC;have gE:=Hd gD;have be:=Hd bG;have dE:=Hd cN;clear hP hV gC gD bG cN;by_cases ae:k<K
 ·
  obtain⟨a,c,aW,dx,ch,dg⟩:=cW (HP.out k ae);have cX:=HN.out k ae;obtain⟨nk,bC⟩:∃nk,nk=n k:=⟨_,rfl⟩;rw[<-bC]at aW dx cX dg;obtain⟨lb,jf,dD⟩:=iP be.out (by omega);cases dD
  have c0:wr.cell? ⟨lb,k,none⟩=some (.slice a nk c):=by
   rw[ay be.out k (by omega),dp R K k ae,aW]
  have cS:=Hd aW;have bK:=Hd bC;have i1:(k:Int)<K:=by omega
  have kU:=ag.size;clear aW bC ch dx;go_wp2_with fail
  obtain⟨wi,rfl⟩:∃wi:World,wi=wr:=⟨_,rfl⟩;have hwi:w.heap.size<=wi.heap.size:=ag.size;clear c0
  go_loopw [7,8] (λ v i wr=>∃q:Nat,q<=64/\i=.int .i64 q/\GrowAt B 5 1 cj k wi.heap.size (R k) nk q v wr/\(∀j,j<K->j≠k->wr.ownsRow B 5 1 (R j) (n j) (aw cj j (n j)))/\(∀j,j<k->wr.ownsRow B 5 1 (V j) (n j+64) (aw cj j (n j+64))) /\
   wr.ownsRow B 25 1 (.slice (some ⟨lb,0,none⟩) K lc) K ((List.range K).map R)/\wr.ownsRow B 25 1 (.slice (some ⟨wo.heap.size,0,none⟩) K K) K ((List.range K).map λ j=>if j<k then V j else .slice none 0 0)/\Kb (aM K R) B 5 w wr/\wi.heap.size<=wr.heap.size) (λ _ i _=>64-(intOf i).toNat)
  exact⟨0,by omega,rfl,by rw[<-cS.out];exact Ct (by rw[bK.out];exact HP.out k ae),λ j hj _=>HP.out j hj,HV.out,be.out,dE.out,ag,aa _⟩
  clear ag kU;obtain⟨q,hq,rfl,iq,oW,oX,bG,cN,ag,kU⟩:=hrel;have iv:=ag.size;have bE:=Hd iq;have eD:=Hd oW;have eO:=Hd oX;have cT:=Hd bG;have bB:=Hd cN;clear iq oW oX bG cN;by_cases eA:q<64
  ·
   have c0:wr.cell? ⟨lb,k,none⟩=some (.slice a nk c):=by
    rw[ay cT.out k (by omega),dp R K k ae,cS.out]
   obtain⟨va,vc,hv,bR,ie,gA⟩:=cW bE.out.1;subst hv;have i2:(q:Int)<64:=by omega
   have fv:=Hd ie;have gl:=Hd bR;clear ie bR;have cJ:∀j,j<K->∀b,(R j).ownBlock=some b->b<wi.heap.size:=λ j hj b hb=>((HP.out j hj).lt b hb).2
   have mN:∀j,j<k->∀b,(V j).ownBlock=some b->b<wi.heap.size:=λ j hj b hb=>((HV.out j hj).lt b hb).2
   have oZ:=Hd cJ;have sM:=Hd mN;clear cJ mN;by_cases fT:nk+q+1<=vc
   ·
    obtain⟨g,rfl⟩:=fv.out (by omega);go_wp2_with (first|(go_at_call 52;(with_reducible refine(pO _ _ k (nk+q) rfl (by omega) (by omega) (by omega) _).mono ?_);rintro e w' ⟨rfl,rfl⟩)|(at_builtin;refine wpList_append_fits _ rfl (.tmp 57) (.tmp 67) 25 rfl B 5 i0 1 hJ hi bp g (nk+q) vc (aw cj k (nk+q)) rfl (nU bE.out.1 _) ⟨wr.heap.size,0,none⟩ 1 1 [.int .u8 (ez k (nk+q))] rfl rfl (cell_one_new _ _ _) (by simp[Value.oneCell']) fT ?_))
    intro w3 bj aL;have cD:=tL bE.out (.cells #[.int .u8 (ez k (nk+q))] 5);have gF:=Cu oo (by decide) cD (oZ.out k ae) bj aL
    have gG:∀j,j<K->j≠k->w3.ownsRow B 5 1 (R j) (n j) (aw cj j (n j)):=λ j hj eQ =>
     aX ((eD.out j hj eQ).alloc _) aL (tM cD ((eD.out j hj eQ).alloc _) (oZ.out j hj) (HS.out j k hj ae eQ))
    have gH:∀j,j<k->w3.ownsRow B 5 1 (V j) (n j+64) (aw cj j (n j+64)):=λ j hj =>
     aX ((eO.out j hj).alloc _) aL (tM cD ((eO.out j hj).alloc _) (sM.out j hj) (cI.out j k hj ae (by omega)))
    have ep:=aX (cT.out.alloc (.cells #[.int .u8 (ez k (nk+q))] 5)) aL (cp (cT.out.alloc _) cD.1 (by decide));have gQ:=aX (bB.out.alloc (.cells #[.int .u8 (ez k (nk+q))] 5)) aL (cp (bB.out.alloc _) cD.1 (by decide));have ap:Kb (aM K R) B 5 w w3:=(ag.alloc (by omega) _).mO aL (by simp;omega) cD.1 (cD.1.lt g rfl).1 (cD.2.2.imp (λ e=>⟨k,ae,e.symm⟩) (λ h=>by have:=h g rfl;omega));have cA:wi.heap.size<=w3.heap.size:=by have:=aL.size;simp at this;omega
    have kC:=Hd gF;have lG:=Hd gG;have lh:=Hd gH;have li:=Hd ep;have jG:=Hd gQ;clear bj aL cD gF gG gH ep gQ c0;go_wp2_with fail
    go_roundw
    exact⟨q+1,by omega,by go_num,by have:=kC.out;rwa [show nk+q+1=nk+(q+1) by omega]at this,lG.out,lh.out,li.out,jG.out,ap,cA⟩
    simp[intOf];omega
   have fC:=Hd (eE oo k (nk+q))
   have bD:=Hd (show ∀b,va=some b->∀(j:Nat) u,(aw cj k (nk+q))[j]?=some u->(wr.alloc (.cells #[.int .u8 (ez k (nk+q))] 5)).cell? (b.add j)=some u from λ b hb j u hu=>by
    have h1:=bE.out.1.alloc (.cells #[.int .u8 (ez k (nk+q))] 5);rw[hb]at h1;rcases oD h1 with ⟨h2,_⟩|⟨g2,c2,h2⟩
    · cases h2
    injection h2 with h3 _ _
    injection h3 with h3
    subst h3;exact pP h1 rfl j u hu)
   have dC:=bD.out;have eS:=fC.out;have bR:=gl.out;go_wp2_with (first|(go_at_call 52;(with_reducible refine(pO _ _ k (nk+q) rfl (by omega) (by omega) (by omega) _).mono ?_);rintro e w' ⟨rfl,rfl⟩)|(at_builtin;refine wpList_append_grows _ rfl (.tmp 57) (.tmp 67) 25 rfl 5 i0 (.int .u8 0) 1 1 hJ hi bo bp aU rfl (by decide) va (nk+q) vc (aw cj k (nk+q)) rfl bR eS dC ⟨wr.heap.size,0,none⟩ 1 1 [.int .u8 (ez k (nk+q))] rfl rfl (cell_one_new _ _ _) (by simp[Value.oneCell']) (by omega) (by unfold maxLen;omega) (by omega) ?_))
   intro v3 w3 bj aL;have cD:=tL bE.out (.cells #[.int .u8 (ez k (nk+q))] 5);have gF:=Cv cD (by simp;omega) (by simp;omega) (by rw[World.size_alloc];exact bj) aL
   have gG:∀j,j<K->j≠k->w3.ownsRow B 5 1 (R j) (n j) (aw cj j (n j)):=λ j hj eQ =>
    aX ((eD.out j hj eQ).alloc _) aL (by cases (R j).ownBlock<;>simp)
   have gH:∀j,j<k->w3.ownsRow B 5 1 (V j) (n j+64) (aw cj j (n j+64)):=λ j hj =>
    aX ((eO.out j hj).alloc _) aL (by cases (V j).ownBlock<;>simp)
   have ep:=aX (cT.out.alloc (.cells #[.int .u8 (ez k (nk+q))] 5)) aL (by simp[Value.ownBlock]);have gQ:=aX (bB.out.alloc (.cells #[.int .u8 (ez k (nk+q))] 5)) aL (by simp[Value.ownBlock]);have ap:Kb (aM K R) B 5 w w3:=(ag.alloc (by omega) _).rk aL (by simp;omega);have cA:wi.heap.size<=w3.heap.size:=by have:=aL.size;simp at this;omega
   have kC:=Hd gF;have lG:=Hd gG;have lh:=Hd gH;have li:=Hd ep;have jG:=Hd gQ;clear bj aL cD gF gG gH ep gQ c0 dC eS bR;go_wp2_with fail
   go_roundw
   exact⟨q+1,by omega,by go_num,kC.out,lG.out,lh.out,li.out,jG.out,ap,cA⟩
   simp[intOf];omega
  obtain rfl:64=q:=by omega
  obtain⟨va,vc,hv,_,_,_⟩:=cW bE.out.1;subst hv
  have c1:wr.cell? ⟨wo.heap.size,k,none⟩=some (.slice none 0 0):=by
   rw[ay bB.out k (by omega),dp _ K k ae];simp
  have f1:wr.frozen? ⟨wo.heap.size,k,none⟩=false:=cO bB.out _;have aP:=cU bB.out k (.slice va (nk+64) vc);rw[rj]at aP;have aN:=Hd aP;clear aP;go_wp2_with fail
  go_roundw
  case rel =>
   have hg:=aN.out.2;have lj:B<=wo.heap.size:=(bB.out.lt _ rfl).1;refine⟨k+1,λ j=>if j=k then .slice va (nk+64) vc else V j,by omega,by go_num,λ j hj=>?_,λ j hj=>?_,λ i j hi hj bI=>?_,λ i j hi hj bI=>?_,aX cT.out hg oU.out.ne,?_,ag.rl hg (by have:=ag.size;omega) pC lj⟩
   ·
    by_cases e:j=k
    ·
     subst e;have h1:=aX bE.out.2.1 hg (cp bE.out.2.1 bB.out (by decide));rw[bK.out]at h1 ⊢;exact h1
    exact aX (eD.out j hj e) hg (cp (eD.out j hj e) bB.out (by decide))
   ·
    by_cases e:j=k
    ·
     subst e;simp only[if_true];have h1:=aX bE.out.1 hg (cp bE.out.1 bB.out (by decide));rw[<-bK.out];exact h1
    simp only[e,if_false];exact aX (eO.out j (by omega)) hg (cp (eO.out j (by omega)) bB.out (by decide))
   ·
    by_cases e:i=k
    ·
     subst e;simp only[if_true];intro b hb bi;rcases bE.out.2.2 with h1|h1
     · exact HS.out i j ae hj bI b (h1▸hb) bi
     have:=h1 b hb;have:=((HP.out j hj).lt b bi).2;omega
    simp only[e,if_false];exact cI.out i j (by omega) hj bI
   ·
    by_cases e:i=k
    ·
     have e2:¬j=k:=λ h=>bI (e.trans h.symm)
     subst e;simp only[if_true,e2,if_false];intro b hb bi;rcases bE.out.2.2 with h1|h1
     · exact cI.out j i (by omega) ae (Ne.symm bI) b bi (h1▸hb)
     have:=h1 b hb;have:=((HV.out j (by omega)).lt b bi).2;omega
    by_cases e2:j=k
    ·
     subst e2;simp only[if_true,e,if_false];intro b hb bi;rcases bE.out.2.2 with h1|h1
     · exact cI.out i j (by omega) ae bI b hb (h1▸bi)
     have:=h1 b bi;have:=((HV.out i (by omega)).lt b hb).2;omega
    simp only[e,e2,if_false];exact gE.out i j (by omega) (by omega) bI
   have h1:=aN.out.1
   have e:(λ j=>if j=k then(Value.slice va (nk+64) vc)else if j<k then V j else .slice none 0 0)=λ j=>if j<k+1 then(if j=k then(Value.slice va (nk+64) vc)else V j)else .slice none 0 0:=by
    funext j
    by_cases e1:j=k
    · subst e1;simp
    by_cases e2:j<k
    · simp[e1,e2,show j<k+1 by omega]
    simp[e1,e2,show ¬j<k+1 by omega]
   rw[e]at h1;exact h1
  simp[intOf];omega
 obtain rfl:K=k:=by omega
 obtain⟨wb,rfl⟩:∃wb:World,wb=wr:=⟨_,rfl⟩
 have bB:=Hd (show wb.ownsRow B 25 1 (.slice (some ⟨wo.heap.size,0,none⟩) K K) K ((List.range K).map V) by
  have h1:=dE.out;have e:((List.range K).map λ j=>if j<K then V j else .slice none 0 0)=(List.range K).map V:=vz λ j hj=>by simp[List.mem_range.1 hj]
  rwa [e]at h1)
 clear dE;have iv:=ag.size;have cw:=(bB.out.lt _ rfl).2;go_wp2_with fail
 go_loopw [9,10] (λ i _ wr=>∃k:Nat,k<=K/\i=.int .i64 k/\Below wb.heap.size wb wr) (λ i _ _=>K-(intOf i).toNat)
 exact⟨0,by omega,rfl,aj _ _⟩
 obtain⟨k,hk,rfl,ak⟩:=hrel;by_cases ae:k<K
 ·
  obtain⟨a,c,aW,_,ch,dg⟩:=cW (HP.out k ae);obtain⟨va,vc,ci,_,gI,gA⟩:=cW (HV.out k ae);have cX:=HN.out k ae;have cZ:=HV.out k ae;have bh:=HP.out k ae;obtain⟨nk,bC⟩:∃nk,nk=n k:=⟨_,rfl⟩;rw[aW]at bh;rw[ci]at cZ;simp only[<-bC]at aW ci cX dg gA cZ bh;obtain⟨lb,jf,dD⟩:=iP be.out (by omega);cases dD
  have cl:wb.cell? ⟨lb,k,none⟩=some (.slice a nk c):=by
   rw[ay be.out k (by omega),dp R K k ae,aW]
  have cg:wb.cell? ⟨wo.heap.size,k,none⟩=some (.slice va (nk+64) vc):=by
   rw[ay bB.out k (by omega),dp V K k ae,ci]
  have eZ:=(be.out.lt lb rfl).2;have cz:=Hd cZ;have cr:=Hd bh;have fv:=Hd gI;have eG:=Hd ch;have i1:(k:Int)<K:=by omega
  clear aW ci bC cZ bh gI ch;go_wp2_with fail
  go_loopw [10] (λ i wr=>∃q:Nat,q<=nk+64/\i=.int .i64 q/\Below wb.heap.size wb wr) (λ i _=>nk+64-(intOf i).toNat)
  exact⟨0,by omega,rfl,ak⟩
  clear ak;obtain⟨q,hq,rfl,ak⟩:=hrel;have pa:wr.cell? ⟨wo.heap.size,k,none⟩=some (.slice va (nk+64) vc):=(ak.cell (p:=⟨wo.heap.size,k,none⟩) cw).trans cg;by_cases eA:q<nk+64
  ·
   obtain⟨vg,rfl⟩:=fv.out (by omega);have cP:=(cz.out.lt vg rfl).2
   have dv:wb.cell? ⟨vg,q,none⟩=some (.int .u8 (ez k q)):=by
    rw[ay cz.out q (by omega)];have:=bA oo k (nk+64) q 0 eA (by decide);simpa[cj]using this
   have k0:∀x:Calm wb.heap.size wb,x.1.cell? ⟨wo.heap.size,k,none⟩=some (.slice (some ⟨vg,0,none⟩) (nk+64) vc):=λ x=>x.cell cg cw
   have k1:∀x:Calm wb.heap.size wb,x.1.cell? ⟨vg,q,none⟩=some (.int .u8 (ez k q)):=λ x=>x.cell dv cP
   have k2:∀x:Calm wb.heap.size wb,x.1.cell? ⟨lb,k,none⟩=some (.slice a nk c):=λ x=>x.cell cl eZ
   have i2:(q:Int)<(nk:Int)+64:=by omega
   have i3:(q:Int)<((nk+64:Nat):Int):=by omega
   by_cases jO:q<nk
   ·
    obtain⟨rg,rfl⟩:=eG.out (by omega);have aY:=(cr.out.lt rg rfl).2
    have dr:wb.cell? ⟨rg,q,none⟩=some (.int .u8 (ez k q)):=by
     rw[ay cr.out q (by omega)];have:=bA oo k nk q 0 jO (by decide);simpa[cj]using this
    have k3:∀x:Calm wb.heap.size wb,x.1.cell? ⟨rg,q,none⟩=some (.int .u8 (ez k q)):=λ x=>x.cell dr aY
    have i4:(q:Int)<nk:=by omega
    have d1:decide ((q:Int)<nk)=true:=by simpa using jO
    have d2:decide (q<nk)=true:=by simpa using jO
    clear dv dr cl cg;go_wp2_with fail
    clear pa;refine gR (B:=wb.heap.size) (W0:=wb) ak (by kernel_rfl) (by kernel_rfl) ?_;repeat(go_big_quiet_step ((go_at_call 52;exact Calm.same (pO _ _ k q rfl rfl (by omega) (by omega) _))))
    refine wpQuiet_nil ?_;intro w6 bg;clear k0 k1 k2 k3;go_wp2_with fail
    go_roundw
    exact⟨q+1,by omega,by go_num,bg⟩
    simp[intOf];omega
   have i4:¬(q:Int)<nk:=by omega
   have d1:decide ((q:Int)<nk)=false:=by simp;omega
   have d2:decide (q<nk)=false:=by simpa using jO
   clear dv cl cg;go_wp2_with fail
   clear pa;refine gR (B:=wb.heap.size) (W0:=wb) ak (by kernel_rfl) (by kernel_rfl) ?_;repeat(go_big_quiet_step ((go_at_call 52;exact Calm.same (pO _ _ k q rfl rfl (by omega) (by omega) _))))
   refine wpQuiet_nil ?_;intro w6 bg;clear k0 k1 k2;go_wp2_with fail
   go_roundw
   exact⟨q+1,by omega,by go_num,bg⟩
   simp[intOf];omega
  obtain rfl:q=nk+64:=by omega
  go_wp2_with fail
  go_roundw
  exact⟨k+1,by omega,by go_num,ak⟩
  simp[intOf];omega
 obtain rfl:K=k:=by omega
 have kB:∀j,j<K->∃ys:List Value,wr.ownsRow B 5 1 (V j) (n j+64) (aw cj j (n j)++ys):=λ j hj=>by
  have h1:=own_below (HV.out j hj) ak (aa _);refine⟨(aw cj j (n j+64)).drop (n j*1),?_⟩;rw[<-wu oo j (n j) 64,List.take_append_drop];exact h1
 have gP:bf B 5 1 K R n (λ j=>aw cj j (n j)) wr:=λ j hj=>own_below (HP.out j hj) ak (aa _)
 have cG:=own_below be.out ak (aa _);have ax:=own_below bB.out ak (aa _);have em:Kb (aM K R) B 5 w wr:=ag.jd ak (by omega);have gh:=Hd kB;have eu:=Hd gP;have cY:=Hd cG;have aZ:=Hd ax;have hmk:∀w,(Instr.makeSlice 25 (.int .i64 64) (.int .i64 64)).run prog w=.ok (.slice (some ⟨w.heap.size,0,none⟩) 64 64) (w.alloc (.cells (madeCells #[.int .u8 0] 64) 5)):=λ w=>run_make_row' (P:=prog) 25 5 (.int .u8 0) 1 hJ infoByte rfl .i64 .i64 64 (by omega) (by omega) w
 clear kB gP cG ax ak HV HP be bB;go_wp2_with fail
 go_loopw [11,12,13] (λ i _ _ wr=>∃(k:Nat) (V:Nat->Value),k<=K/\i=.int .i64 k/\bf B 5 1 K R n (λ j=>aw cj j (n j)) wr/\(∀j,j<K->∃ys:List Value,wr.ownsRow B 5 1 (V j) (n j+64) (aw cj j (n j)++ys))/\(∀i j,i<K->j<K->i≠j->Sep (V i) (R j))/\(∀i j,i<K->j<K->i≠j->Sep (V i) (V j)) /\
  wr.ownsRow B 25 1 (.slice lo K lc) K ((List.range K).map R)/\wr.ownsRow B 25 1 (.slice (some ⟨wo.heap.size,0,none⟩) K K) K ((List.range K).map V)/\Kb (aM K R) B 5 w wr) (λ i _ _ _=>K-(intOf i).toNat)
 exact⟨0,V,by omega,rfl,eu.out,gh.out,cI.out,gE.out,cY.out,aZ.out,em⟩
 clear ag iv em gh eu cY aZ cI gE cw;obtain⟨k,V,hk,rfl,hP,hV,gC,gD,bG,cN,ag⟩:=hrel;have HP:=Hd hP;have HV:=Hd hV;have cI:=Hd gC;have gE:=Hd gD;have be:=Hd bG;have dE:=Hd cN;clear hP hV gC gD bG cN;have iv:=ag.size;by_cases ae:k<K
 ·
  obtain⟨wi,rfl⟩:∃wi:World,wi=wr:=⟨_,rfl⟩;have i1:(k:Int)<K:=by omega
  have eF:=oH (base:=wi.heap.size) (e:=5) (size:=1) wi (madeCells #[.int .u8 0] 64) 64 (aa _) (by unfold maxLen;omega) (by simp[size_madeCells]);rw[uN]at eF
  have hm1:(wi.alloc (.cells (madeCells #[.int .u8 0] 64) 5)).ownsRow wi.heap.size 5 1 (.slice (some ⟨wi.heap.size,0,none⟩) 64 64) 64 (((List.range 64).map λ _=>(0:Int)).map bv):=by
   rw[List.map_map];exact eF
  have bS:Below wi.heap.size wi (wi.alloc (.cells (madeCells #[.int .u8 0] 64) 5)):=(aj _ _).alloc (aa _) _;have kt:=Hd hm1;clear eF hm1;go_wp2_with fail
  generalize wi.alloc (.cells (madeCells #[.int .u8 0] 64) 5)=w2 at kt bS ⊢;go_loopw [13] (λ i wr=>∃(q:Nat) (zs:List Int),q<=64/\i=.int .i64 q/\zs.length=64/\wr.ownsRow wi.heap.size 5 1 (.slice (some ⟨wi.heap.size,0,none⟩) 64 64) 64 (zs.map bv)/\Below wi.heap.size wi wr) (λ i _=>64-(intOf i).toNat)
  exact⟨0,(List.range 64).map λ _=>(0:Int),by omega,rfl,by simp,kt.out,bS⟩
  clear bS kt;obtain⟨q,zs,hq,rfl,ki,pD,dw⟩:=hrel;have ku:=Hd pD;have lk:=Hd ki;clear pD ki;by_cases eA:q<64
  ·
   have i2:(q:Int)<64:=by omega
   have ki:=lk.out
   have d0:wr.cell? ⟨wi.heap.size,q,none⟩=some (.int .u8 (zs[q]'(by omega))):=by
    rw[ay ku.out q (by omega),List.getElem?_map,bu (by omega)];rfl
   have f0:wr.frozen? ⟨wi.heap.size,q,none⟩=false:=cO ku.out _;have aP:=cU ku.out q (.int .u8 (ez (k+K) q));have aN:=Hd aP;generalize (zs[q]'(by omega))=old at d0;clear aP ki;go_wp2_with (go_at_call 52;(with_reducible refine(pO _ _ (k+K) q (by omega) rfl (by omega) (by omega) _).mono ?_);rintro e w' ⟨rfl,rfl⟩)
   go_roundw
   exact⟨q+1,zs.set q (ez (k+K) q),by omega,by go_num,by rw[List.length_set];exact lk.out,by rw[List.map_set];exact aN.out.1,dw.setCell (p:=⟨wi.heap.size,q,none⟩) (aa _) _⟩
   simp[intOf];omega
  obtain rfl:64=q:=by omega
  have jh:bf B 5 1 K R n (λ j=>aw cj j (n j)) wr:=λ j hj=>own_below (HP.out j hj) dw (aa _)
  have jH:∀j,j<K->∃ys:List Value,wr.ownsRow B 5 1 (V j) (n j+64) (aw cj j (n j)++ys):=λ j hj=>by
   obtain⟨ys,cB⟩:=HV.out j hj;exact⟨ys,own_below cB dw (aa _)⟩
  have iD:=own_below be.out dw (aa _);have pc:=own_below dE.out dw (aa _);have bg:Kb (aM K R) B 5 w wr:=ag.jd dw (by omega);have m7:=bg.size;obtain⟨a,c,aW,dx,ch,dg⟩:=cW (jh k ae);have bh:=jh k ae;obtain⟨ys0,pd⟩:=jH k ae;obtain⟨va,vc,ci,_,_,_⟩:=cW pd;have cX:=HN.out k ae;obtain⟨nk,bC⟩:∃nk,nk=n k:=⟨_,rfl⟩;rw[aW]at bh;simp only[<-bC]at aW ci cX dg bh dx;obtain⟨lb,jf,dD⟩:=iP iD (by omega);cases dD
  have c0:wr.cell? ⟨lb,k,none⟩=some (.slice a nk c):=by
   rw[ay iD k (by omega),dp R K k ae,aW]
  have cF:∀(j:Nat) u,(zs.map bv)[j]?=some u->wr.cell? ((⟨wi.heap.size,0,none⟩:Addr).add j)=some u:=λ j u hu=>pP ku.out rfl j u hu
  have eH:(zs.map bv).length=64*1:=by rw[List.length_map,lk.out]
  have cS:=Hd aW;have sN:=Hd ci;have bK:=Hd bC;have hZ:=Hd jh;have gW:=Hd jH;have ju:=Hd iD;have ll:=Hd pc;have mf:=Hd bh;have eG:=Hd ch;have jv:=Hd dx;have sO:=Hd cF;have sP:=Hd eH;clear aW ci bC jh jH iD pc bh ch dx pd cF eH;have cF:=sO.out;have eH:=sP.out;by_cases fT:nk+64<=c
  rotate_left
  focus
   have dC:∀b,a=some b->∀(j:Nat) u,(aw cj k nk)[j]?=some u->wr.cell? (b.add j)=some u:=λ b hb j u hu=>by
    have h1:=mf.out;rw[hb,bK.out]at h1;rcases oD h1 with ⟨h2,_⟩|⟨g2,c2,h2⟩
    · cases h2
    injection h2 with h3 _ _
    injection h3 with h3
    subst h3;exact pP h1 rfl j u (by rw[<-bK.out];exact hu)
   have eS:=eE oo k nk;have bR:=jv.out;have bD:=Hd dC;have fC:=Hd eS;go_wp2_with (at_builtin;refine wpList_append_grows _ rfl (.tmp 148) (.tmp 149) 25 rfl 5 i0 (.int .u8 0) 1 1 hJ hi bo bp aU rfl (by decide) a nk c (aw cj k nk) rfl bR eS dC ⟨wi.heap.size,0,none⟩ 64 64 (zs.map bv) rfl eH cF (r7 _) (by omega) (by unfold maxLen;omega) (by omega) ?_)
   intro v3 w3 bj aL;have jw:=Hd (show bf B 5 1 K R n (λ j=>aw cj j (n j)) w3 from λ j hj=>aX (hZ.out j hj) aL (by cases (R j).ownBlock<;>simp))
   have iN:=Hd (show ∀j,j<K->j≠k->∃ys:List Value,w3.ownsRow B 5 1 (V j) (n j+64) (aw cj j (n j)++ys)from λ j hj _=>by
    obtain⟨ys,cB⟩:=gW.out j hj;exact⟨ys,aX cB aL (by cases (V j).ownBlock<;>simp)⟩)
   have fI:=Hd (fh bj (show B<=wr.heap.size by omega));have eJ:=Hd (show v3.ownBlock=(R k).ownBlock∨∀b,v3.ownBlock=some b->wr.heap.size<=b from Or.inr λ b hb=>(bj.lt b hb).1);have pe:=Hd (aX ju.out aL (by simp[Value.ownBlock]));have dU:=Hd (aX ll.out aL (by simp[Value.ownBlock]));have lm:=Hd (show Kb (aM K R) B 5 w w3 from bg.rk aL (by omega));clear bj aL dC eS bR bD fC fT c0 cF eH
  rotate_left
  focus
   obtain⟨rg,rfl⟩:=eG.out (by omega);have bh:=mf.out;go_wp2_with (at_builtin;refine wpList_append_fits _ rfl (.tmp 148) (.tmp 149) 25 rfl B 5 i0 1 hJ hi bp rg nk c (aw cj k nk) rfl bh ⟨wi.heap.size,0,none⟩ 64 64 (zs.map bv) rfl eH cF (r7 _) fT ?_)
   intro w3 bj aL;have cJ:(R k).ownBlock=some rg:=by rw[cS.out];rfl
   have jw:=Hd (show bf B 5 1 K R n (λ j=>aw cj j (n j)) w3 from λ j hj=>by
    by_cases e:j=k
    ·
     subst e;have h3:=Ac bj (show nk<=nk+64 by omega);rw[List.take_left' (eE oo j nk)]at h3;show w3.ownsRow B 5 1 (R j) (n j) (aw cj j (n j));rw[cS.out,<-bK.out];exact h3
    exact aX (hZ.out j hj) aL (by rw[<-cJ];exact(HS.out j k hj ae e).ne))
   have iN:=Hd (show ∀j,j<K->j≠k->∃ys:List Value,w3.ownsRow B 5 1 (V j) (n j+64) (aw cj j (n j)++ys)from λ j hj e=>by
    obtain⟨ys,cB⟩:=gW.out j hj;exact⟨ys,aX cB aL (by rw[<-cJ];exact(cI.out j k hj ae e).ne)⟩)
   have fI:=Hd bj;have eJ:=Hd (show (Value.slice (some ⟨rg,0,none⟩) (nk+64) c).ownBlock=(R k).ownBlock∨∀b,(Value.slice (some ⟨rg,0,none⟩) (nk+64) c).ownBlock=some b->wr.heap.size<=b from Or.inl cJ.symm);have pe:=Hd (aX ju.out aL (cp ju.out bh (by decide)));have dU:=Hd (aX ll.out aL (cp ll.out bh (by decide)));have lm:=Hd (show Kb (aM K R) B 5 w w3 from bg.mO aL (by omega) bh (bh.lt rg rfl).1 (Or.inl ⟨k,ae,cJ⟩));clear bj aL fT c0 cF eH bh cJ;generalize (Value.slice (some ⟨rg,0,none⟩) (nk+64) c)=v3 at fI eJ ⊢
  all_goals
   obtain⟨pf,pg,jk,_,_,_⟩:=cW fI.out;subst jk
   have e1:w3.cell? ⟨wo.heap.size,k,none⟩=some (.slice va (nk+64) vc):=by
    rw[ay dU.out k (by omega),dp V K k ae,sN.out]
   have f1:w3.frozen? ⟨wo.heap.size,k,none⟩=false:=cO dU.out _;have aP:=cU dU.out k (.slice pf (nk+64) pg);rw[rj]at aP;have aN:=Hd aP;clear aP;go_wp2_with fail
   go_roundw
   case rel =>
    have hg:=aN.out.2;have lj:B<=wo.heap.size:=(dU.out.lt _ rfl).1;refine⟨k+1,λ j=>if j=k then .slice pf (nk+64) pg else V j,by omega,by go_num,λ j hj=>?_,λ j hj=>?_,λ i j hi hj bI=>?_,λ i j hi hj bI=>?_,aX pe.out hg oU.out.ne,aN.out.1,lm.out.rl hg (by have:=lm.out.size;omega) pC lj⟩
    · exact aX (jw.out j hj) hg (cp (jw.out j hj) dU.out (by decide))
    ·
     by_cases e:j=k
     ·
      subst e;simp only[if_true];refine⟨zs.map bv,?_⟩;rw[<-bK.out];exact aX fI.out hg (cp fI.out dU.out (by decide))
     simp only[e,if_false];obtain⟨ys,cB⟩:=iN.out j hj e;exact⟨ys,aX cB hg (cp cB dU.out (by decide))⟩
    ·
     by_cases e:i=k
     ·
      subst e;simp only[if_true];intro b hb bi;rcases eJ.out with h1|h1
      · exact HS.out i j ae hj bI b (h1▸hb) bi
      have:=h1 b hb;have:=((hZ.out j hj).lt b bi).2;omega
     simp only[e,if_false];exact cI.out i j hi hj bI
    by_cases e:i=k
    ·
     have e2:¬j=k:=λ h=>bI (e.trans h.symm)
     subst e;simp only[if_true,e2,if_false];intro b hb bi;rcases eJ.out with h1|h1
     · exact cI.out j i hj ae (Ne.symm bI) b bi (h1▸hb)
     have:=h1 b hb;obtain⟨ys,cB⟩:=gW.out j hj;have:=(cB.lt b bi).2;omega
    by_cases e2:j=k
    ·
     subst e2;simp only[if_true,e,if_false];intro b hb bi;rcases eJ.out with h1|h1
     · exact cI.out i j hi ae bI b hb (h1▸bi)
     have:=h1 b bi;obtain⟨ys,cB⟩:=gW.out i hi;have:=(cB.lt b hb).2;omega
    simp only[e,e2,if_false];exact gE.out i j hi hj bI
   simp[intOf];omega
 obtain rfl:K=k:=by omega
 obtain⟨wc,rfl⟩:∃wc:World,wc=wr:=⟨_,rfl⟩;have cw:=(dE.out.lt _ rfl).2;clear hmk;go_wp2_with fail
 go_loopw [14,15] (λ i _ wr=>∃k:Nat,k<=K/\i=.int .i64 k/\Below wc.heap.size wc wr) (λ i _ _=>K-(intOf i).toNat)
 exact⟨0,by omega,rfl,aj _ _⟩
 obtain⟨k,hk,rfl,ak⟩:=hrel;by_cases ae:k<K
 ·
  obtain⟨a,c,aW,_,ch,dg⟩:=cW (HP.out k ae);obtain⟨ys,cZ⟩:=HV.out k ae;obtain⟨va,vc,ci,_,gI,gA⟩:=cW cZ;have cX:=HN.out k ae;have bh:=HP.out k ae;obtain⟨nk,bC⟩:∃nk,nk=n k:=⟨_,rfl⟩;rw[aW]at bh;rw[ci]at cZ;simp only[<-bC]at aW ci cX dg gA cZ bh;obtain⟨lb,jf,dD⟩:=iP be.out (by omega);cases dD
  have cl:wc.cell? ⟨lb,k,none⟩=some (.slice a nk c):=by
   rw[ay be.out k (by omega),dp R K k ae,aW]
  have cg:wc.cell? ⟨wo.heap.size,k,none⟩=some (.slice va (nk+64) vc):=by
   rw[ay dE.out k (by omega),dp V K k ae,ci]
  have eZ:=(be.out.lt lb rfl).2;have cz:=Hd cZ;have cr:=Hd bh;have fv:=Hd gI;have eG:=Hd ch;have i1:(k:Int)<K:=by omega
  clear aW ci bC cZ bh gI ch;go_wp2_with fail
  go_loopw [15] (λ i wr=>∃q:Nat,q<=nk/\i=.int .i64 q/\Below wc.heap.size wc wr) (λ i _=>nk-(intOf i).toNat)
  exact⟨0,by omega,rfl,ak⟩
  clear ak;obtain⟨q,hq,rfl,ak⟩:=hrel;have sQ:wr.cell? ⟨lb,k,none⟩=some (.slice a nk c):=(ak.cell (p:=⟨lb,k,none⟩) eZ).trans cl;by_cases eA:q<nk
  ·
   obtain⟨vg,rfl⟩:=fv.out (by omega);obtain⟨rg,rfl⟩:=eG.out (by omega);have cP:=(cz.out.lt vg rfl).2;have aY:=(cr.out.lt rg rfl).2;have hm:=bA oo k nk q 0 eA (by decide);have hml:=eE oo k nk
   have dv:wc.cell? ⟨vg,q,none⟩=some (.int .u8 (ez k q)):=by
    rw[ay cz.out q (by omega),gu (by omega)];simpa[cj]using hm
   have dr:wc.cell? ⟨rg,q,none⟩=some (.int .u8 (ez k q)):=by
    rw[ay cr.out q (by omega)];simpa[cj]using hm
   have k0:∀x:Calm wc.heap.size wc,x.1.cell? ⟨wo.heap.size,k,none⟩=some (.slice (some ⟨vg,0,none⟩) (nk+64) vc):=λ x=>x.cell cg cw
   have k1:∀x:Calm wc.heap.size wc,x.1.cell? ⟨vg,q,none⟩=some (.int .u8 (ez k q)):=λ x=>x.cell dv cP
   have k2:∀x:Calm wc.heap.size wc,x.1.cell? ⟨lb,k,none⟩=some (.slice (some ⟨rg,0,none⟩) nk c):=λ x=>x.cell cl eZ
   have k3:∀x:Calm wc.heap.size wc,x.1.cell? ⟨rg,q,none⟩=some (.int .u8 (ez k q)):=λ x=>x.cell dr aY
   have i2:(q:Int)<nk:=by omega
   have i3:(q:Int)<(nk:Int)+64:=by omega
   have i4:(q:Int)<((nk+64:Nat):Int):=by omega
   clear dv dr cl cg hm hml;go_wp2_with fail
   clear sQ;refine gR (B:=wc.heap.size) (W0:=wc) ak (by kernel_rfl) (by kernel_rfl) ?_;repeat(go_big_quiet_step ((go_at_call 52;exact Calm.same (pO _ _ k q rfl rfl (by omega) (by omega) _))))
   refine wpQuiet_nil ?_;intro w6 bg;clear k0 k1 k2 k3;go_wp2_with fail
   go_roundw
   exact⟨q+1,by omega,by go_num,bg⟩
   simp[intOf];omega
  obtain rfl:q=nk:=by omega
  go_wp2_with fail
  go_roundw
  exact⟨k+1,by omega,by go_num,ak⟩
  simp[intOf];omega
 obtain rfl:K=k:=by omega
 go_wp2_with fail
 go_ret;exact⟨rfl,ag.jd ak (by omega)⟩
theorem Cx {P:Program}(t e:TypeId)(z:Value)(size bytes:Nat)(ht:P.underlying t=some (.slice e))(hinfo:(P.info? e).map (λ i=>(i.zero,i.size,i.bytes))=some (some z,size,bytes))
  (kl kc:IntKind) (n:Nat) (hbytes:bytes*n<=281474976710656) (h63:n<=9223372036854775807) (w:World) :
  (Instr.makeSlice t (.int kl (n:Int)) (.int kc (n:Int))).run P w=.ok (.slice (some ⟨w.heap.size,0,none⟩) n n) (w.alloc (.cells (madeCells z.cells (n*size)) e)):=by
 obtain⟨i,hi,hzz⟩:=Option.map_eq_some_iff.1 hinfo;simp only[Prod.mk.injEq]at hzz;obtain⟨hz,hs,hb⟩:=hzz
 have bi:(i.bytes:Int)*(n:Int)<=281474976710656:=by
  have h:((i.bytes*n:Nat):Int)<=281474976710656:=by rw[hb];omega
  rwa [Int.natCast_mul]at h
 have hr:=run_make (P:=P) w t e i z ht hi hz kl kc n n (by omega) (Int.le_refl _) bi (by omega);simp only[Int.toNat_natCast,hs]at hr;exact hr
theorem EM (z:Array Value)(n:Nat)(h0:0<z.size)(h:z.toList.all (λ u=>u.oneCell')=true):∀u∈(madeCells z n).toList,u.oneCell'=true:=by
 intro u hu;unfold madeCells at hu;simp only[Array.toList_map,Array.toList_range,List.mem_map,List.mem_range]at hu;obtain⟨i,_,rfl⟩:=hu;have ae:i % z.size<z.size:=Nat.mod_lt _ h0;rw[getElem!_pos z (i % z.size) ae];exact List.all_eq_true.1 h _ (by simp)
theorem one_set {l:List Value}{q:Nat}{u:Value}(h:∀x∈l,x.oneCell'=true)(hu:u.oneCell'=true):∀x∈l.set q u,x.oneCell'=true:=by
 intro x hx;rcases List.mem_or_eq_of_mem_set hx with hx|hx
 · exact h x hx
 rw[hx];exact hu
theorem qf (w:World)(T:TypeId)(cs:List Value):∀j u,cs[j]?=some u->(w.alloc (.cells cs.toArray T)).cell? ((⟨w.heap.size,0,none⟩:Addr).add j)=some u:=by
 intro j u hu;have hadd:(⟨w.heap.size,0,none⟩:Addr).add j=⟨w.heap.size,j,none⟩:=by unfold Addr.add;split<;>simp_all
 rw[hadd,World.cell?_alloc_at _ _ _ _ rfl];simpa using hu
def dV (k i:Nat):List Value:=[.int .i64 (bt k i)]
theorem sR (k i:Nat):(dV k i).length=1:=rfl
def mkV (k i:Nat):List Value:=[.int .u8 0,.int .i64 (bt k i),.string ByteArray.empty]
theorem mw (k i:Nat):(mkV k i).length=3:=rfl
def ct (k i:Nat):List Value:=[.int .i64 (bt k i),.int .u8 0,.int .i64 0,.int .i64 0,.int .u8 0,.string ByteArray.empty,.slice none 0 0,.int .i64 0,.slice none 0 0]
theorem ek (k i:Nat):(ct k i).length=9:=rfl
theorem Cy (a b:Int)(k i:Nat)(ha:a=k)(hb:b=i)(hk:k<=1000000)(hi:i<=2000000000000)(w:World) :
  Calls prog 91 #[.int .i64 a,.int .i64 b] w λ e w'=>e=.returned (.int .i64 (bt k i))/\Below w.heap.size w w' :=
 (Cw a b k i ha hb hk hi w).mono λ _ _ ⟨h1,h2⟩=>⟨h1,h2▸aj _ _⟩
theorem Cz (a b:Int)(k i:Nat)(ha:a=k)(hb:b=i)(hk:k<=1000000)(hi:i<=2000000000000)(w:World) :
  Calls prog 153 #[.int .i64 a,.int .i64 b] w λ e w'=>e=.returned (.agg #[.int .u8 0,.int .i64 (bt k i),.string ByteArray.empty])/\Below w.heap.size w w':=by
 have hm:0<=bt k i/\bt k i<=4000000000000:=by unfold bt;omega
 have hc:=Cw a b k i ha hb hk hi;generalize bt k i=m at hm hc;have HC:=Hd hc;clear hc ha hb;go_enter func153,ntmps153
 go_wp2_with fail
 refine(HC.out _).mono ?_;rintro e w' ⟨rfl,rfl⟩;go_wp2_with fail
 exact bodyPost_ret (v:=.agg #[.int .u8 0,.int .i64 m,.string ByteArray.empty]) (by simp[results,results153,go_sem];rfl) rfl ⟨rfl,(aj _ _).alloc (aa _) _⟩
theorem Ad (a b:Int)(k i:Nat)(ha:a=k)(hb:b=i)(hk:k<=1000000)(hi:i<=2000000000000)(w:World) :
  Calls prog 139 #[.int .i64 a,.int .i64 b] w λ e w'=>e=.returned (.agg #[.int .i64 (bt k i),.int .u8 0,.int .i64 0,.int .i64 0,.int .u8 0,.string ByteArray.empty,.slice none 0 0,.int .i64 0,.slice none 0 0])/\Below w.heap.size w w':=by
 have hm:0<=bt k i/\bt k i<=4000000000000:=by unfold bt;omega
 have hc:=Cw a b k i ha hb hk hi;generalize bt k i=m at hm hc;have HC:=Hd hc;clear hc ha hb;go_enter func139,ntmps139
 go_wp2_with fail
 refine(HC.out _).mono ?_;rintro e w' ⟨rfl,rfl⟩;go_wp2_with fail
 exact bodyPost_ret (v:=.agg #[.int .i64 m,.int .u8 0,.int .i64 0,.int .i64 0,.int .u8 0,.string ByteArray.empty,.slice none 0 0,.int .i64 0,.slice none 0 0]) (by simp[results,results139,go_sem];rfl) rfl ⟨rfl,(aj _ _).alloc (aa _) _⟩
theorem CA (a b:Int)(k i:Nat)(m:Int)(hm:bt k i=m)(ha:a=k)(hb:b=i)(hk:k<=1000000)(hi:i<=2000000000000)(w:World) :
  Calls prog 91 #[.int .i64 a,.int .i64 b] w λ e w'=>e=.returned (.int .i64 m)/\Below w.heap.size w w':=hm▸Cy a b k i ha hb hk hi w
theorem CB (a b:Int)(k i:Nat)(m:Int)(hm:bt k i=m)(ha:a=k)(hb:b=i)(hk:k<=1000000)(hi:i<=2000000000000)(w:World) :
  Calls prog 153 #[.int .i64 a,.int .i64 b] w λ e w'=>e=.returned (.agg #[.int .u8 0,.int .i64 m,.string ByteArray.empty])/\Below w.heap.size w w':=hm▸Cz a b k i ha hb hk hi w
theorem EN (a b:Int)(k i:Nat)(m:Int)(hm:bt k i=m)(ha:a=k)(hb:b=i)(hk:k<=1000000)(hi:i<=2000000000000)(w:World) :
  Calls prog 139 #[.int .i64 a,.int .i64 b] w λ e w'=>e=.returned (.agg #[.int .i64 m,.int .u8 0,.int .i64 0,.int .i64 0,.int .u8 0,.string ByteArray.empty,.slice none 0 0,.int .i64 0,.slice none 0 0])/\Below w.heap.size w w':=hm▸Ad a b k i ha hb hk hi w
theorem Zq (t:TypeId)(h:t=50)(n:Int)(w:World):(binOp .eql t (.agg #[.int .u8 0,.int .i64 n,.string ByteArray.empty]) (.agg #[.int .u8 0,.int .i64 n,.string ByteArray.empty])).run prog w=.ok (.bool true) w:=by
 subst h;simp[go_sem,underlying50]
theorem EO (n:Int)(w:World):Calls prog 65 #[.agg #[.int .i64 n,.int .u8 0,.int .i64 0,.int .i64 0,.int .u8 0,.string ByteArray.empty,.slice none 0 0,.int .i64 0,.slice none 0 0],.agg #[.int .i64 n,.int .u8 0,.int .i64 0,.int .i64 0,.int .u8 0,.string ByteArray.empty,.slice none 0 0,.int .i64 0,.slice none 0 0]] w λ e w'=>e=.returned (.bool true)/\Below w.heap.size w w' :=
 FI ⟨n,0,0,0,0,ByteArray.empty,none,[],0,0,none,[],0⟩ ⟨n,0,0,0,0,ByteArray.empty,none,[],0,0,none,[],0⟩ w w.heap.size rfl ⟨Or.inl rfl,Or.inl rfl⟩ ⟨Or.inl rfl,Or.inl rfl⟩ (aa _) (by simp) (by simp)
end Go.Proofs.YtepdklfkegkojaaGreatDoor
