/- Parts of one proof. Conditions: as each says. -/
import Derived.Test.YtepdklfkegkojaaGreatDoorGLetterNumbers0
import Derived.Test.YtepdklfkegkojaaGreatDoorGLetterNumbers16
import Derived.Deep.RegionHeld3
set_option linter.all false
set_option maxHeartbeats 16000000
set_option maxRecDepth 100000
namespace Go.Proofs.YtepdklfkegkojaaGreatDoor
open Go.Proofs.Tryz
open Go.RowKit
theorem abw:(prog.info? 24).map (λ i=>(i.zero,i.size,i.bytes))=some (some (.slice none 0 0),1,24):=by kernel_rfl
theorem abx (B K:Nat)(lo:Option Addr)(lc:Nat)(R:Nat->Value)(n:Nat->Nat)(C0:Nat->List Value)(w:World)
  (hL:w.ownsRow B 24 1 (.slice lo K lc) K ((List.range K).map R)) (hR:bf B 3 1 K R n C0 w) (jS:pN K R) (hK:K<=100000) (hn:∀j,j<K->n j<=1099511627776) (hB:B<=w.heap.size) :
  Calls prog 97 #[.slice lo K lc] w λ e w'=>e=.returned (.bool true)/\Kb (aM K R) B 3 w w':=by
 have HL:=Hd hL;have HR:=Hd hR;have HS:=Hd jS;have HN:=Hd hn;clear hL hR jS hn;go_enter func97,ntmps97
 go_wp2_with fail
 go_loopw [3,4] (λ i _ wr=>∃k:Nat,k<=K/\i=.int .i64 k/\(∃C,bf B 3 1 K R n C wr/\∀j,j<k->C j=aw dV j (n j))/\wr.ownsRow B 24 1 (.slice lo K lc) K ((List.range K).map R)/\Kb (aM K R) B 3 w wr) (λ i _ _=>K-(intOf i).toNat)
 exact⟨0,by omega,rfl,⟨C0,HR.out,λ j hj=>by omega⟩,HL.out,Kb.refl _ _ _ _⟩
 obtain⟨k,hk,rfl,gO,bG,ag⟩:=hrel;have fW:=Hd gO;have be:=Hd bG;clear gO bG;by_cases ae:k<K
 ·
  obtain⟨C,hC,je⟩:=fW.out;obtain⟨a,c,aW,dx,ch,dg⟩:=cW (hC k ae);have cX:=HN.out k ae;obtain⟨nk,bC⟩:∃nk,nk=n k:=⟨_,rfl⟩;rw[<-bC]at aW dx cX dg;obtain⟨lb,jf,dD⟩:=iP be.out (by omega);cases dD
  have cS:=Hd aW;have bK:=Hd bC;have HC:=Hd hC;have sJ:=Hd je;have eG:=Hd ch;have i1:(k:Int)<K:=by omega
  clear aW bC hC je ch dx;go_wp2_with fail
  obtain⟨wo,rfl⟩:∃wo:World,wo=wr:=⟨_,rfl⟩;go_loopw [4] (λ i wr=>∃q:Nat,q<=nk/\i=.int .i64 q/\(∃C,bf B 3 1 K R n C wr/\(∀j,j<k->C j=aw dV j (n j))/\(C k).take (q*1)=aw dV k q)/\wr.ownsRow B 24 1 (.slice (some ⟨lb,0,none⟩) K lc) K ((List.range K).map R)/\Kb (aM K R) B 3 w wr) (λ i _=>nk-(intOf i).toNat)
  exact⟨0,by omega,rfl,⟨C,HC.out,sJ.out,by simp[aw]⟩,be.out,ag⟩
  clear ag;obtain⟨q,hq,rfl,gO,bG,ag⟩:=hrel;have oS:=Hd gO;have cT:=Hd bG
  have c0:wr.cell? ⟨lb,k,none⟩=some (.slice a nk c):=by
   rw[ay bG k (by omega),dp R K k ae,cS.out]
  clear gO bG;by_cases eA:q<nk
  ·
   obtain⟨g,rfl⟩:=eG.out (by omega);have i2:(q:Int)<nk:=by omega
   obtain⟨C2,fP,ld,lg⟩:=oS.out;have de:=fP k ae;rw[cS.out,<-bK.out]at de;have lP:=Hd de;have yw:=Hd fP;have yx:=(cT.out.lt lb rfl).2;have hS:∀w',Below wr.heap.size wr w'->w'.cell? ⟨lb,k,none⟩=some (.slice (some ⟨g,0,none⟩) nk c):=λ w' h=>(h.cell (p:=⟨lb,k,none⟩) yx).trans c0
   have yy:=Hd hS;have qd:=Hd (show g≠lb from λ e=>by have:=cp de cT.out (by decide);rcases this with h|h;cases h;exact h (by simp[Value.ownBlock,e]));have hrf:Below wr.heap.size wr wr:=aj _ _;clear de fP hS;go_wp2_with fail
   go_region_held3 (λ w'=>w'.cell? ⟨lb,k,none⟩=some (.slice (some ⟨g,0,none⟩) nk c)) (((repeat(refine Eq.trans (World.cell?_setCell_far _ _ _ _ (show g≠lb from qd.out)) ?_));refine yy.out _ ?_;repeat(first|with_reducible assumption|with_reducible exact aj _ _|refine Below.trans ?_ (by assumption)|with_reducible refine Below.drew ?_))) ((go_at_call 91;refine(Cy _ _ k q rfl rfl (by omega) (by omega) _).mono ?_;rintro e w3 ⟨rfl,ap⟩;have nS:Below wr.heap.size wr w3:=Below.trans (Below.drew hrf) ap;have bZ:=own_below lP.out nS (aa _);have f0:w3.frozen? ⟨g,q,none⟩=false:=cO bZ _;obtain⟨o0,d0⟩:∃o,w3.cell? ⟨g,q,none⟩=some o:=⟨_,by rw[ay bZ _ (by omega),bu (by have:=bZ.1;omega)]⟩;have lu:=Hd bZ;clear bZ))
   have uP:=lu.out.1;have s0:=cU lu.out (q) (.int .i64 (bt k q));have yz:=Hd s0.1;have qh:=Hd (s0.2);have jg:=Hd (own_below cT.out nS (aa _));have sK:=Hd (show bf B 3 1 K R n C2 w3 from λ j hj=>own_below (yw.out j hj) nS (aa _));have ta:=(ag.jd nS (by have:=ag.size;omega));clear s0 c0 hrf;go_wp2_with fail
   go_roundw
   case rel =>
    have cJ:(R k).ownBlock=some g:=by rw[cS.out];rfl
    refine⟨q+1,by omega,by go_num,⟨_,bf.upd sK.out HS.out ae (by rw[cJ];exact qh.out) (by rw[cS.out,<-bK.out];exact yz.out),λ j hj=>?_,?_⟩,?_,?_⟩
    ·
     have e:¬j=k:=by omega
     simp only[e,if_false];exact ld j hj
    ·
     simp only[if_true];rw[show (q+1)*1=q+1 by omega,jF (by first|omega|(simp;omega)),show (C2 k).take q=aw dV k q from by simpa using lg,qO];simp[dV,List.append_assoc]
    · exact aX jg.out qh.out (cp jg.out lu.out (by decide))
    exact ta.mO qh.out (by have:=ta.size;have:=ag.size;omega) lu.out (lu.out.lt g rfl).1 (Or.inl ⟨k,ae,cJ⟩)
   simp[intOf];omega
  obtain rfl:q=nk:=by omega
  go_wp2_with fail
  go_roundw
  case rel =>
   obtain⟨C2,fP,ld,lg⟩:=oS.out;refine⟨k+1,by omega,by go_num,⟨C2,fP,λ j hj=>?_⟩,cT.out,ag⟩;by_cases e:j=k
   ·
    subst e;rw[<-bK.out,<-lg,fE (by have:=(fP j ae).1;rw[<-bK.out]at this;omega)]
   exact ld j (by omega)
  simp[intOf];omega
 obtain rfl:K=k:=by omega
 obtain⟨wo,rfl⟩:∃wo:World,wo=wr:=⟨_,rfl⟩
 have pB:bf B 3 1 K R n (λ j=>aw dV j (n j)) wo:=by
  obtain⟨C,hC,je⟩:=fW.out;exact hC.congr je
 have hmk:=run_make_row' (P:=prog) 100 24 (.slice none 0 0) 24 underlying100 abw rfl .i64 .i64 K (by omega) (by omega);have bP:=ag.size;have pC:w.heap.size<=wo.heap.size:=bP;have gP:bf B 3 1 K R n (λ j=>aw dV j (n j)) (wo.alloc (.cells (madeCells #[.slice none 0 0] K) 24)):=λ j hj=>(pB j hj).alloc _
 have cG:=nU be.out (.cells (madeCells #[.slice none 0 0] K) 24);have ax:=oH (base:=B) (e:=24) (size:=1) wo (madeCells #[.slice none 0 0] K) K (by omega) (by unfold maxLen;omega) (by simp[size_madeCells]);rw[uN]at ax;have am:=ag.alloc (by omega) (.cells (madeCells #[.slice none 0 0] K) 24)
 have oT:Sep (.slice lo K lc) (.slice (some ⟨wo.heap.size,0,none⟩) K K):=λ b hb bi=>by
  have:=(be.out.lt b hb).2;simp[Value.ownBlock]at bi;omega
 have eu:=Hd gP;have cY:=Hd cG;have aZ:=Hd ax;have oU:=Hd oT;clear pB gP cG ax oT fW be;obtain⟨i0,hi,bo,bp,aU⟩:=info_parts tY;go_wp2_with fail
 generalize wo.alloc (.cells (madeCells #[.slice none 0 0] K) 24)=w1 at eu cY aZ am ⊢;clear hmk
 go_loopw [6,7,8] (λ i _ _ wr=>∃(k:Nat) (V:Nat->Value),k<=K/\i=.int .i64 k/\bf B 3 1 K R n (λ j=>aw dV j (n j)) wr/\(∀j,j<k->wr.ownsRow B 3 1 (V j) (n j+64) (aw dV j (n j+64)))/\(∀i j,i<k->j<K->i≠j->Sep (V i) (R j))/\(∀i j,i<k->j<k->i≠j->Sep (V i) (V j)) /\
  wr.ownsRow B 24 1 (.slice lo K lc) K ((List.range K).map R)/\wr.ownsRow B 24 1 (.slice (some ⟨wo.heap.size,0,none⟩) K K) K ((List.range K).map λ j=>if j<k then V j else .slice none 0 0)/\Kb (aM K R) B 3 w wr) (λ i _ _ _=>K-(intOf i).toNat)
 exact⟨0,λ _=>.slice none 0 0,by omega,rfl,eu.out,λ j hj=>by omega,λ i j hi=>by omega,λ i j hi=>by omega,cY.out,by simpa using aZ.out,am⟩
 clear ag bP am eu cY aZ;obtain⟨k,V,hk,rfl,hP,hV,gC,gD,bG,cN,ag⟩:=hrel;have HP:=Hd hP;have HV:=Hd hV;have cI:=Hd gC;have gE:=Hd gD;have be:=Hd bG;have dE:=Hd cN;clear hP hV gC gD bG cN;by_cases ae:k<K
 ·
  obtain⟨a,c,aW,dx,ch,dg⟩:=cW (HP.out k ae);have cX:=HN.out k ae;obtain⟨nk,bC⟩:∃nk,nk=n k:=⟨_,rfl⟩;rw[<-bC]at aW dx cX dg;obtain⟨lb,jf,dD⟩:=iP be.out (by omega);cases dD
  have c0:wr.cell? ⟨lb,k,none⟩=some (.slice a nk c):=by
   rw[ay be.out k (by omega),dp R K k ae,aW]
  have cS:=Hd aW;have bK:=Hd bC;have i1:(k:Int)<K:=by omega
  have kU:=ag.size;clear aW bC ch dx;go_wp2_with fail
  obtain⟨wi,rfl⟩:∃wi:World,wi=wr:=⟨_,rfl⟩;have hwi:w.heap.size<=wi.heap.size:=ag.size;clear c0
  go_loopw [7,8] (λ v i wr=>∃q:Nat,q<=64/\i=.int .i64 q/\GrowAt B 3 1 dV k wi.heap.size (R k) nk q v wr/\(∀j,j<K->j≠k->wr.ownsRow B 3 1 (R j) (n j) (aw dV j (n j)))/\(∀j,j<k->wr.ownsRow B 3 1 (V j) (n j+64) (aw dV j (n j+64))) /\
   wr.ownsRow B 24 1 (.slice (some ⟨lb,0,none⟩) K lc) K ((List.range K).map R)/\wr.ownsRow B 24 1 (.slice (some ⟨wo.heap.size,0,none⟩) K K) K ((List.range K).map λ j=>if j<k then V j else .slice none 0 0)/\Kb (aM K R) B 3 w wr/\wi.heap.size<=wr.heap.size) (λ _ i _=>64-(intOf i).toNat)
  exact⟨0,by omega,rfl,by rw[<-cS.out];exact Ct (by rw[bK.out];exact HP.out k ae),λ j hj _=>HP.out j hj,HV.out,be.out,dE.out,ag,aa _⟩
  clear ag kU;obtain⟨q,hq,rfl,iq,oW,oX,bG,cN,ag,kU⟩:=hrel;have iv:=ag.size;have bE:=Hd iq;have eD:=Hd oW;have eO:=Hd oX;have cT:=Hd bG;have bB:=Hd cN;clear iq oW oX bG cN;by_cases eA:q<64
  ·
   have c0:wr.cell? ⟨lb,k,none⟩=some (.slice a nk c):=by
    rw[ay cT.out k (by omega),dp R K k ae,cS.out]
   obtain⟨va,vc,hv,bR,ie,gA⟩:=cW bE.out.1;subst hv;have i2:(q:Int)<64:=by omega
   have fv:=Hd ie;have gl:=Hd bR;clear ie bR;have cJ:∀j,j<K->∀b,(R j).ownBlock=some b->b<wi.heap.size:=λ j hj b hb=>((HP.out j hj).lt b hb).2
   have mN:∀j,j<k->∀b,(V j).ownBlock=some b->b<wi.heap.size:=λ j hj b hb=>((HV.out j hj).lt b hb).2
   have oZ:=Hd cJ;have sM:=Hd mN;clear cJ mN;go_wp2_with fail
   refine(Cy _ _ k (nk+q) rfl (by omega) (by omega) (by omega) wr).mono ?_;rintro e wm ⟨rfl,gJ⟩;have nF:=gJ.size;have bE:=Hd (show GrowAt B 3 1 dV k wi.heap.size (R k) nk q (.slice va (nk+q) vc) wm from⟨own_below bE.out.1 gJ (aa _),own_below bE.out.2.1 gJ (aa _),bE.out.2.2⟩);have eD:=Hd (show ∀j,j<K->j≠k->wm.ownsRow B 3 1 (R j) (n j) (aw dV j (n j))from λ j hj eQ=>own_below (eD.out j hj eQ) gJ (aa _));have eO:=Hd (show ∀j,j<k->wm.ownsRow B 3 1 (V j) (n j+64) (aw dV j (n j+64))from λ j hj=>own_below (eO.out j hj) gJ (aa _));have cT:=Hd (own_below cT.out gJ (aa _));have bB:=Hd (own_below bB.out gJ (aa _));have ag:=ag.jd gJ (by omega);have kU:wi.heap.size<=wm.heap.size:=by omega
   clear c0;by_cases fT:nk+q+1<=vc
   ·
    obtain⟨g,rfl⟩:=fv.out (by omega);go_wp2_with (at_builtin;refine wpList_append_fits _ rfl (.tmp 57) (.tmp 67) 24 rfl B 3 i0 1 qr hi bp g (nk+q) vc (aw dV k (nk+q)) rfl (nU bE.out.1 _) ⟨wm.heap.size,0,none⟩ 1 1 [.int .i64 (bt k (nk+q))] rfl rfl (qf wm 3 [.int .i64 (bt k (nk+q))]) (by simp[Value.oneCell']) fT ?_)
    intro w3 bj aL;have cD:=tL bE.out (.cells #[.int .i64 (bt k (nk+q))] 3);have gF:=Cu sR (by decide) cD (oZ.out k ae) (by simpa[dV]using bj) aL
    have gG:∀j,j<K->j≠k->w3.ownsRow B 3 1 (R j) (n j) (aw dV j (n j)):=λ j hj eQ =>
     aX ((eD.out j hj eQ).alloc _) aL (tM cD ((eD.out j hj eQ).alloc _) (oZ.out j hj) (HS.out j k hj ae eQ))
    have gH:∀j,j<k->w3.ownsRow B 3 1 (V j) (n j+64) (aw dV j (n j+64)):=λ j hj =>
     aX ((eO.out j hj).alloc _) aL (tM cD ((eO.out j hj).alloc _) (sM.out j hj) (cI.out j k hj ae (by omega)))
    have ep:=aX (cT.out.alloc (.cells #[.int .i64 (bt k (nk+q))] 3)) aL (cp (cT.out.alloc _) cD.1 (by decide));have gQ:=aX (bB.out.alloc (.cells #[.int .i64 (bt k (nk+q))] 3)) aL (cp (bB.out.alloc _) cD.1 (by decide));have ap:Kb (aM K R) B 3 w w3:=(ag.alloc (by omega) _).mO aL (by simp;omega) cD.1 (cD.1.lt g rfl).1 (cD.2.2.imp (λ e=>⟨k,ae,e.symm⟩) (λ h=>by have:=h g rfl;omega));have cA:wi.heap.size<=w3.heap.size:=by have:=aL.size;simp at this;omega
    have kC:=Hd gF;have lG:=Hd gG;have lh:=Hd gH;have li:=Hd ep;have jG:=Hd gQ;clear bj aL cD gF gG gH ep gQ;go_wp2_with fail
    go_roundw
    exact⟨q+1,by omega,by go_num,by have:=kC.out;rwa [show nk+q+1=nk+(q+1) by omega]at this,lG.out,lh.out,li.out,jG.out,ap,cA⟩
    simp[intOf];omega
   have fC:=Hd (eE sR k (nk+q))
   have bD:=Hd (show ∀b,va=some b->∀(j:Nat) u,(aw dV k (nk+q))[j]?=some u->(wm.alloc (.cells #[.int .i64 (bt k (nk+q))] 3)).cell? (b.add j)=some u from λ b hb j u hu=>by
    have h1:=bE.out.1.alloc (.cells #[.int .i64 (bt k (nk+q))] 3);rw[hb]at h1;rcases oD h1 with ⟨h2,_⟩|⟨g2,c2,h2⟩
    · cases h2
    injection h2 with h3 _ _
    injection h3 with h3
    subst h3;exact pP h1 rfl j u hu)
   have dC:=bD.out;have eS:=fC.out;have bR:=gl.out;go_wp2_with (at_builtin;refine wpList_append_grows _ rfl (.tmp 57) (.tmp 67) 24 rfl 3 i0 (.int .i64 0) 1 8 qr hi bo bp aU rfl (by decide) va (nk+q) vc (aw dV k (nk+q)) rfl bR eS dC ⟨wm.heap.size,0,none⟩ 1 1 [.int .i64 (bt k (nk+q))] rfl rfl (qf wm 3 [.int .i64 (bt k (nk+q))]) (by simp[Value.oneCell']) (by omega) (by unfold maxLen;omega) (by omega) ?_)
   intro v3 w3 bj aL;have cD:=tL bE.out (.cells #[.int .i64 (bt k (nk+q))] 3);have gF:=Cv cD (by simp;omega) (by simp;omega) (by rw[World.size_alloc];simpa[dV]using bj) aL
   have gG:∀j,j<K->j≠k->w3.ownsRow B 3 1 (R j) (n j) (aw dV j (n j)):=λ j hj eQ =>
    aX ((eD.out j hj eQ).alloc _) aL (by cases (R j).ownBlock<;>simp)
   have gH:∀j,j<k->w3.ownsRow B 3 1 (V j) (n j+64) (aw dV j (n j+64)):=λ j hj =>
    aX ((eO.out j hj).alloc _) aL (by cases (V j).ownBlock<;>simp)
   have ep:=aX (cT.out.alloc (.cells #[.int .i64 (bt k (nk+q))] 3)) aL (by simp[Value.ownBlock]);have gQ:=aX (bB.out.alloc (.cells #[.int .i64 (bt k (nk+q))] 3)) aL (by simp[Value.ownBlock]);have ap:Kb (aM K R) B 3 w w3:=(ag.alloc (by omega) _).rk aL (by simp;omega);have cA:wi.heap.size<=w3.heap.size:=by have:=aL.size;simp at this;omega
   have kC:=Hd gF;have lG:=Hd gG;have lh:=Hd gH;have li:=Hd ep;have jG:=Hd gQ;clear bj aL cD gF gG gH ep gQ dC eS bR;go_wp2_with fail
   go_roundw
   exact⟨q+1,by omega,by go_num,kC.out,lG.out,lh.out,li.out,jG.out,ap,cA⟩
   simp[intOf];omega
  obtain rfl:64=q:=by omega
  obtain⟨va,vc,hv,_,_,_⟩:=cW bE.out.1;subst hv
  have c1:wr.cell? ⟨wo.heap.size,k,none⟩=some (.slice none 0 0):=by
   rw[ay bB.out k (by omega),dp _ K k ae];simp
  have f1:wr.frozen? ⟨wo.heap.size,k,none⟩=false:=cO bB.out _;have aP:=cU bB.out k (.slice va (nk+64) vc);rw[rj]at aP;have aN:=Hd aP;clear aP;go_wp2_with fail
  go_roundw
  case rel =>
   have hg:=aN.out.2;have lj:B<=wo.heap.size:=(bB.out.lt _ rfl).1;refine⟨k+1,λ j=>if j=k then .slice va (nk+64) vc else V j,by omega,by go_num,λ j hj=>?_,λ j hj=>?_,λ i j hi hj bI=>?_,λ i j hi hj bI=>?_,aX cT.out hg oU.out.ne,?_,ag.rl hg (by have:=ag.size;omega) pC lj⟩
   ·
    by_cases e:j=k
    ·
     subst e;have h1:=aX bE.out.2.1 hg (cp bE.out.2.1 bB.out (by decide));rw[bK.out]at h1 ⊢;exact h1
    exact aX (eD.out j hj e) hg (cp (eD.out j hj e) bB.out (by decide))
   ·
    by_cases e:j=k
    ·
     subst e;simp only[if_true];have h1:=aX bE.out.1 hg (cp bE.out.1 bB.out (by decide));rw[<-bK.out];exact h1
    simp only[e,if_false];exact aX (eO.out j (by omega)) hg (cp (eO.out j (by omega)) bB.out (by decide))
   ·
    by_cases e:i=k
    ·
     subst e;simp only[if_true];intro b hb bi;rcases bE.out.2.2 with h1|h1
     · exact HS.out i j ae hj bI b (h1▸hb) bi
     have:=h1 b hb;have:=((HP.out j hj).lt b bi).2;omega
    simp only[e,if_false];exact cI.out i j (by omega) hj bI
   ·
    by_cases e:i=k
    ·
     have e2:¬j=k:=λ h=>bI (e.trans h.symm)
     subst e;simp only[if_true,e2,if_false];intro b hb bi;rcases bE.out.2.2 with h1|h1
     · exact cI.out j i (by omega) ae (Ne.symm bI) b bi (h1▸hb)
     have:=h1 b hb;have:=((HV.out j (by omega)).lt b bi).2;omega
    by_cases e2:j=k
    ·
     subst e2;simp only[if_true,e,if_false];intro b hb bi;rcases bE.out.2.2 with h1|h1
     · exact cI.out i j (by omega) ae bI b hb (h1▸bi)
     have:=h1 b bi;have:=((HV.out i (by omega)).lt b hb).2;omega
    simp only[e,e2,if_false];exact gE.out i j (by omega) (by omega) bI
   have h1:=aN.out.1
   have e:(λ j=>if j=k then(Value.slice va (nk+64) vc)else if j<k then V j else .slice none 0 0)=λ j=>if j<k+1 then(if j=k then(Value.slice va (nk+64) vc)else V j)else .slice none 0 0:=by
    funext j
    by_cases e1:j=k
    · subst e1;simp
    by_cases e2:j<k
    · simp[e1,e2,show j<k+1 by omega]
    simp[e1,e2,show ¬j<k+1 by omega]
   rw[e]at h1;exact h1
  simp[intOf];omega
 obtain rfl:K=k:=by omega
 obtain⟨wb,rfl⟩:∃wb:World,wb=wr:=⟨_,rfl⟩
 have bB:=Hd (show wb.ownsRow B 24 1 (.slice (some ⟨wo.heap.size,0,none⟩) K K) K ((List.range K).map V) by
  have h1:=dE.out;have e:((List.range K).map λ j=>if j<K then V j else .slice none 0 0)=(List.range K).map V:=vz λ j hj=>by simp[List.mem_range.1 hj]
  rwa [e]at h1)
 clear dE;have iv:=ag.size;have cw:=(bB.out.lt _ rfl).2;go_wp2_with fail
 go_loopw [9,10] (λ i _ wr=>∃k:Nat,k<=K/\i=.int .i64 k/\Below wb.heap.size wb wr) (λ i _ _=>K-(intOf i).toNat)
 exact⟨0,by omega,rfl,aj _ _⟩
 obtain⟨k,hk,rfl,ak⟩:=hrel;by_cases ae:k<K
 ·
  obtain⟨a,c,aW,_,ch,dg⟩:=cW (HP.out k ae);obtain⟨va,vc,ci,_,gI,gA⟩:=cW (HV.out k ae);have cX:=HN.out k ae;have cZ:=HV.out k ae;have bh:=HP.out k ae;obtain⟨nk,bC⟩:∃nk,nk=n k:=⟨_,rfl⟩;rw[aW]at bh;rw[ci]at cZ;simp only[<-bC]at aW ci cX dg gA cZ bh;obtain⟨lb,jf,dD⟩:=iP be.out (by omega);cases dD
  have cl:wb.cell? ⟨lb,k,none⟩=some (.slice a nk c):=by
   rw[ay be.out k (by omega),dp R K k ae,aW]
  have cg:wb.cell? ⟨wo.heap.size,k,none⟩=some (.slice va (nk+64) vc):=by
   rw[ay bB.out k (by omega),dp V K k ae,ci]
  have eZ:=(be.out.lt lb rfl).2;have cz:=Hd cZ;have cr:=Hd bh;have fv:=Hd gI;have eG:=Hd ch;have i1:(k:Int)<K:=by omega
  clear aW ci bC cZ bh gI ch;go_wp2_with fail
  go_loopw [10] (λ i wr=>∃q:Nat,q<=nk+64/\i=.int .i64 q/\Below wb.heap.size wb wr) (λ i _=>nk+64-(intOf i).toNat)
  exact⟨0,by omega,rfl,ak⟩
  clear ak;obtain⟨q,hq,rfl,ak⟩:=hrel;have pa:wr.cell? ⟨wo.heap.size,k,none⟩=some (.slice va (nk+64) vc):=(ak.cell (p:=⟨wo.heap.size,k,none⟩) cw).trans cg;by_cases eA:q<nk+64
  ·
   obtain⟨vg,rfl⟩:=fv.out (by omega);have cP:=(cz.out.lt vg rfl).2;obtain⟨mm,dK⟩:∃mm,bt k q=mm:=⟨_,rfl⟩;have bd:=Hd dK;clear dK
   have jJ:wb.cell? ⟨vg,q,none⟩=some (.int .i64 (mm)):=by
    rw[ay cz.out _ (by omega)];have:=bA sR k (nk+64) q 0 (by omega) (by decide);simpa[dV,bd.out]using this
   have k0:∀x:Calm wb.heap.size wb,x.1.cell? ⟨wo.heap.size,k,none⟩=some (.slice (some ⟨vg,0,none⟩) (nk+64) vc):=λ x=>x.cell cg cw
   have k10:∀x:Calm wb.heap.size wb,x.1.cell? ⟨vg,q,none⟩=some (.int .i64 (mm)):=λ x=>x.cell jJ cP
   have k2:∀x:Calm wb.heap.size wb,x.1.cell? ⟨lb,k,none⟩=some (.slice a nk c):=λ x=>x.cell cl eZ
   have i2:(q:Int)<(nk:Int)+64:=by omega
   have i3:(q:Int)<((nk+64:Nat):Int):=by omega
   by_cases jO:q<nk
   ·
    obtain⟨rg,rfl⟩:=eG.out (by omega);have aY:=(cr.out.lt rg rfl).2
    have lv:wb.cell? ⟨rg,q,none⟩=some (.int .i64 (mm)):=by
     rw[ay cr.out _ (by omega)];have:=bA sR k (nk) q 0 (by omega) (by decide);simpa[dV,bd.out]using this
    have qi:∀x:Calm wb.heap.size wb,x.1.cell? ⟨rg,q,none⟩=some (.int .i64 (mm)):=λ x=>x.cell lv aY
    have i4:(q:Int)<nk:=by omega
    have d1:decide ((q:Int)<nk)=true:=by simpa using jO
    have d2:decide (q<nk)=true:=by simpa using jO
    clear jJ lv cl cg;go_wp2_with fail
    clear pa;refine gR (B:=wb.heap.size) (W0:=wb) ak (by kernel_rfl) (by kernel_rfl) ?_;repeat(go_big_quiet_step (first|(go_at_call 91;exact Calm.call (aa _) (CA _ _ k q mm bd.out rfl rfl (by omega) (by omega) _))))
    refine wpQuiet_nil ?_;intro w6 bg;clear k0 k10 k2 qi;go_wp2_with fail
    go_roundw
    exact⟨q+1,by omega,by go_num,bg⟩
    simp[intOf];omega
   have i4:¬(q:Int)<nk:=by omega
   have d1:decide ((q:Int)<nk)=false:=by simp;omega
   have d2:decide (q<nk)=false:=by simpa using jO
   clear jJ cl cg;go_wp2_with fail
   clear pa;refine gR (B:=wb.heap.size) (W0:=wb) ak (by kernel_rfl) (by kernel_rfl) ?_;repeat(go_big_quiet_step (first|(go_at_call 91;exact Calm.call (aa _) (CA _ _ k q mm bd.out rfl rfl (by omega) (by omega) _))))
   refine wpQuiet_nil ?_;intro w6 bg;clear k0 k10 k2;go_wp2_with fail
   go_roundw
   exact⟨q+1,by omega,by go_num,bg⟩
   simp[intOf];omega
  obtain rfl:q=nk+64:=by omega
  go_wp2_with fail
  go_roundw
  exact⟨k+1,by omega,by go_num,ak⟩
  simp[intOf];omega
 obtain rfl:K=k:=by omega
 have kB:∀j,j<K->∃ys:List Value,wr.ownsRow B 3 1 (V j) (n j+64) (aw dV j (n j)++ys):=λ j hj=>by
  have h1:=own_below (HV.out j hj) ak (aa _);refine⟨(aw dV j (n j+64)).drop (n j*1),?_⟩;rw[<-wu sR j (n j) 64,List.take_append_drop];exact h1
 have gP:bf B 3 1 K R n (λ j=>aw dV j (n j)) wr:=λ j hj=>own_below (HP.out j hj) ak (aa _)
 have cG:=own_below be.out ak (aa _);have ax:=own_below bB.out ak (aa _);have em:Kb (aM K R) B 3 w wr:=ag.jd ak (by omega);have gh:=Hd kB;have eu:=Hd gP;have cY:=Hd cG;have aZ:=Hd ax;have hmk:∀w,(Instr.makeSlice 24 (.int .i64 64) (.int .i64 64)).run prog w=.ok (.slice (some ⟨w.heap.size,0,none⟩) 64 64) (w.alloc (.cells (madeCells #[.int .i64 0] 64) 3)):=λ w=>Cx (P:=prog) 24 3 (.int .i64 0) 1 8 qr tY .i64 .i64 64 (by omega) (by omega) w
 clear kB gP cG ax ak HV HP be bB;go_wp2_with fail
 go_loopw [11,12,13] (λ i _ _ wr=>∃(k:Nat) (V:Nat->Value),k<=K/\i=.int .i64 k/\bf B 3 1 K R n (λ j=>aw dV j (n j)) wr/\(∀j,j<K->∃ys:List Value,wr.ownsRow B 3 1 (V j) (n j+64) (aw dV j (n j)++ys))/\(∀i j,i<K->j<K->i≠j->Sep (V i) (R j))/\(∀i j,i<K->j<K->i≠j->Sep (V i) (V j)) /\
  wr.ownsRow B 24 1 (.slice lo K lc) K ((List.range K).map R)/\wr.ownsRow B 24 1 (.slice (some ⟨wo.heap.size,0,none⟩) K K) K ((List.range K).map V)/\Kb (aM K R) B 3 w wr) (λ i _ _ _=>K-(intOf i).toNat)
 exact⟨0,V,by omega,rfl,eu.out,gh.out,cI.out,gE.out,cY.out,aZ.out,em⟩
 clear ag iv em gh eu cY aZ cI gE cw;obtain⟨k,V,hk,rfl,hP,hV,gC,gD,bG,cN,ag⟩:=hrel;have HP:=Hd hP;have HV:=Hd hV;have cI:=Hd gC;have gE:=Hd gD;have be:=Hd bG;have dE:=Hd cN;clear hP hV gC gD bG cN;have iv:=ag.size;by_cases ae:k<K
 ·
  obtain⟨wi,rfl⟩:∃wi:World,wi=wr:=⟨_,rfl⟩;have i1:(k:Int)<K:=by omega
  have eF:=oH (base:=wi.heap.size) (e:=3) (size:=1) wi (madeCells #[.int .i64 0] 64) 64 (aa _) (by unfold maxLen;omega) (by simp[size_madeCells]);have tc:∀u∈(madeCells #[.int .i64 0] 64).toList,u.oneCell'=true:=EM _ _ (by decide) (by rfl);have kt:=Hd eF;have et:=Hd tc;clear eF tc;have bS:Below wi.heap.size wi (wi.alloc (.cells (madeCells #[.int .i64 0] 64) 3)):=(aj _ _).alloc (aa _) _;go_wp2_with fail
  generalize wi.alloc (.cells (madeCells #[.int .i64 0] 64) 3)=w2 at kt bS ⊢;go_loopw [13] (λ i wr=>∃(q:Nat) (zs:List Value),q<=64/\i=.int .i64 q/\(∀u∈zs,u.oneCell'=true)/\wr.ownsRow wi.heap.size 3 1 (.slice (some ⟨wi.heap.size,0,none⟩) 64 64) 64 zs/\Below wi.heap.size wi wr) (λ i _=>64-(intOf i).toNat)
  exact⟨0,_,by omega,rfl,et.out,kt.out,bS⟩
  clear bS kt;obtain⟨q,zs,hq,rfl,ki,pD,dw⟩:=hrel;have ku:=Hd pD;have lk:=Hd ki;clear pD ki;by_cases eA:q<64
  ·
   have i2:(q:Int)<64:=by omega
   go_wp2_with fail
   refine(Cy _ _ (k+K) q (by omega) rfl (by omega) (by omega) wr).mono ?_;rintro e w3 ⟨rfl,ap⟩;have bY:=own_below ku.out ap (aa _);obtain⟨o0,d0⟩:∃o,w3.cell? ⟨wi.heap.size,q,none⟩=some o:=⟨_,by rw[ay bY _ (by omega),bu (by have:=bY.1;omega)]⟩;have f0:w3.frozen? ⟨wi.heap.size,q,none⟩=false:=cO bY _;have s0:=cU bY (q) (.int .i64 (bt (k+K) q));have aN:=Hd s0.1;have hG:=(dw.trans (ap.mono dw.size)).setCell (p:=⟨wi.heap.size,q,none⟩) (aa _) (.int .i64 (bt (k+K) q));clear bY s0;go_wp2_with fail
   go_roundw
   exact⟨q+1,_,by omega,by go_num,one_set (lk.out) (by rfl),aN.out,hG⟩
   simp[intOf];omega
  obtain rfl:64=q:=by omega
  have jh:bf B 3 1 K R n (λ j=>aw dV j (n j)) wr:=λ j hj=>own_below (HP.out j hj) dw (aa _)
  have jH:∀j,j<K->∃ys:List Value,wr.ownsRow B 3 1 (V j) (n j+64) (aw dV j (n j)++ys):=λ j hj=>by
   obtain⟨ys,cB⟩:=HV.out j hj;exact⟨ys,own_below cB dw (aa _)⟩
  have iD:=own_below be.out dw (aa _);have pc:=own_below dE.out dw (aa _);have bg:Kb (aM K R) B 3 w wr:=ag.jd dw (by omega);have m7:=bg.size;obtain⟨a,c,aW,dx,ch,dg⟩:=cW (jh k ae);have bh:=jh k ae;obtain⟨ys0,pd⟩:=jH k ae;obtain⟨va,vc,ci,_,_,_⟩:=cW pd;have cX:=HN.out k ae;obtain⟨nk,bC⟩:∃nk,nk=n k:=⟨_,rfl⟩;rw[aW]at bh;simp only[<-bC]at aW ci cX dg bh dx;obtain⟨lb,jf,dD⟩:=iP iD (by omega);cases dD
  have c0:wr.cell? ⟨lb,k,none⟩=some (.slice a nk c):=by
   rw[ay iD k (by omega),dp R K k ae,aW]
  have cF:∀(j:Nat) u,zs[j]?=some u->wr.cell? ((⟨wi.heap.size,0,none⟩:Addr).add j)=some u:=λ j u hu=>pP ku.out rfl j u hu
  have eH:zs.length=64*1:=ku.out.1;have cS:=Hd aW;have sN:=Hd ci;have bK:=Hd bC;have hZ:=Hd jh;have gW:=Hd jH;have ju:=Hd iD;have ll:=Hd pc;have mf:=Hd bh;have eG:=Hd ch;have jv:=Hd dx;have sO:=Hd cF;have sP:=Hd eH;clear aW ci bC jh jH iD pc bh ch dx pd cF eH;have cF:=sO.out;have eH:=sP.out;by_cases fT:nk+64<=c
  rotate_left
  focus
   have dC:∀b,a=some b->∀(j:Nat) u,(aw dV k nk)[j]?=some u->wr.cell? (b.add j)=some u:=λ b hb j u hu=>by
    have h1:=mf.out;rw[hb,bK.out]at h1;rcases oD h1 with ⟨h2,_⟩|⟨g2,c2,h2⟩
    · cases h2
    injection h2 with h3 _ _
    injection h3 with h3
    subst h3;exact pP h1 rfl j u (by rw[<-bK.out];exact hu)
   have eS:=eE sR k nk;have bR:=jv.out;have bD:=Hd dC;have fC:=Hd eS;go_wp2_with (at_builtin;refine wpList_append_grows _ rfl (.tmp 148) (.tmp 149) 24 rfl 3 i0 (.int .i64 0) 1 8 qr hi bo bp aU rfl (by decide) a nk c (aw dV k nk) rfl bR eS dC ⟨wi.heap.size,0,none⟩ 64 64 zs rfl eH cF lk.out (by omega) (by unfold maxLen;omega) (by omega) ?_)
   intro v3 w3 bj aL;have jw:=Hd (show bf B 3 1 K R n (λ j=>aw dV j (n j)) w3 from λ j hj=>aX (hZ.out j hj) aL (by cases (R j).ownBlock<;>simp))
   have iN:=Hd (show ∀j,j<K->j≠k->∃ys:List Value,w3.ownsRow B 3 1 (V j) (n j+64) (aw dV j (n j)++ys)from λ j hj _=>by
    obtain⟨ys,cB⟩:=gW.out j hj;exact⟨ys,aX cB aL (by cases (V j).ownBlock<;>simp)⟩)
   have fI:=Hd (fh bj (show B<=wr.heap.size by omega));have eJ:=Hd (show v3.ownBlock=(R k).ownBlock∨∀b,v3.ownBlock=some b->wr.heap.size<=b from Or.inr λ b hb=>(bj.lt b hb).1);have pe:=Hd (aX ju.out aL (by simp[Value.ownBlock]));have dU:=Hd (aX ll.out aL (by simp[Value.ownBlock]));have lm:=Hd (show Kb (aM K R) B 3 w w3 from bg.rk aL (by omega));clear bj aL dC eS bR bD fC fT c0 cF eH
  rotate_left
  focus
   obtain⟨rg,rfl⟩:=eG.out (by omega);have bh:=mf.out;go_wp2_with (at_builtin;refine wpList_append_fits _ rfl (.tmp 148) (.tmp 149) 24 rfl B 3 i0 1 qr hi bp rg nk c (aw dV k nk) rfl bh ⟨wi.heap.size,0,none⟩ 64 64 zs rfl eH cF lk.out fT ?_)
   intro w3 bj aL;have cJ:(R k).ownBlock=some rg:=by rw[cS.out];rfl
   have jw:=Hd (show bf B 3 1 K R n (λ j=>aw dV j (n j)) w3 from λ j hj=>by
    by_cases e:j=k
    ·
     subst e;have h3:=Ac bj (show nk<=nk+64 by omega);rw[List.take_left' (eE sR j nk)]at h3;show w3.ownsRow B 3 1 (R j) (n j) (aw dV j (n j));rw[cS.out,<-bK.out];exact h3
    exact aX (hZ.out j hj) aL (by rw[<-cJ];exact(HS.out j k hj ae e).ne))
   have iN:=Hd (show ∀j,j<K->j≠k->∃ys:List Value,w3.ownsRow B 3 1 (V j) (n j+64) (aw dV j (n j)++ys)from λ j hj e=>by
    obtain⟨ys,cB⟩:=gW.out j hj;exact⟨ys,aX cB aL (by rw[<-cJ];exact(cI.out j k hj ae e).ne)⟩)
   have fI:=Hd bj;have eJ:=Hd (show (Value.slice (some ⟨rg,0,none⟩) (nk+64) c).ownBlock=(R k).ownBlock∨∀b,(Value.slice (some ⟨rg,0,none⟩) (nk+64) c).ownBlock=some b->wr.heap.size<=b from Or.inl cJ.symm);have pe:=Hd (aX ju.out aL (cp ju.out bh (by decide)));have dU:=Hd (aX ll.out aL (cp ll.out bh (by decide)));have lm:=Hd (show Kb (aM K R) B 3 w w3 from bg.mO aL (by omega) bh (bh.lt rg rfl).1 (Or.inl ⟨k,ae,cJ⟩));clear bj aL fT c0 cF eH bh cJ;generalize (Value.slice (some ⟨rg,0,none⟩) (nk+64) c)=v3 at fI eJ ⊢
  all_goals
   obtain⟨pf,pg,jk,_,_,_⟩:=cW fI.out;subst jk
   have e1:w3.cell? ⟨wo.heap.size,k,none⟩=some (.slice va (nk+64) vc):=by
    rw[ay dU.out k (by omega),dp V K k ae,sN.out]
   have f1:w3.frozen? ⟨wo.heap.size,k,none⟩=false:=cO dU.out _;have aP:=cU dU.out k (.slice pf (nk+64) pg);rw[rj]at aP;have aN:=Hd aP;clear aP;go_wp2_with fail
   go_roundw
   case rel =>
    have hg:=aN.out.2;have lj:B<=wo.heap.size:=(dU.out.lt _ rfl).1;refine⟨k+1,λ j=>if j=k then .slice pf (nk+64) pg else V j,by omega,by go_num,λ j hj=>?_,λ j hj=>?_,λ i j hi hj bI=>?_,λ i j hi hj bI=>?_,aX pe.out hg oU.out.ne,aN.out.1,lm.out.rl hg (by have:=lm.out.size;omega) pC lj⟩
    · exact aX (jw.out j hj) hg (cp (jw.out j hj) dU.out (by decide))
    ·
     by_cases e:j=k
     ·
      subst e;simp only[if_true];refine⟨zs,?_⟩;rw[<-bK.out];exact aX fI.out hg (cp fI.out dU.out (by decide))
     simp only[e,if_false];obtain⟨ys,cB⟩:=iN.out j hj e;exact⟨ys,aX cB hg (cp cB dU.out (by decide))⟩
    ·
     by_cases e:i=k
     ·
      subst e;simp only[if_true];intro b hb bi;rcases eJ.out with h1|h1
      · exact HS.out i j ae hj bI b (h1▸hb) bi
      have:=h1 b hb;have:=((hZ.out j hj).lt b bi).2;omega
     simp only[e,if_false];exact cI.out i j hi hj bI
    by_cases e:i=k
    ·
     have e2:¬j=k:=λ h=>bI (e.trans h.symm)
     subst e;simp only[if_true,e2,if_false];intro b hb bi;rcases eJ.out with h1|h1
     · exact cI.out j i hj ae (Ne.symm bI) b bi (h1▸hb)
     have:=h1 b hb;obtain⟨ys,cB⟩:=gW.out j hj;have:=(cB.lt b bi).2;omega
    by_cases e2:j=k
    ·
     subst e2;simp only[if_true,e,if_false];intro b hb bi;rcases eJ.out with h1|h1
     · exact cI.out i j hi ae bI b hb (h1▸bi)
     have:=h1 b bi;obtain⟨ys,cB⟩:=gW.out i hi;have:=(cB.lt b hb).2;omega
    simp only[e,e2,if_false];exact gE.out i j hi hj bI
   simp[intOf];omega
 obtain rfl:K=k:=by omega
 obtain⟨wc,rfl⟩:∃wc:World,wc=wr:=⟨_,rfl⟩;have cw:=(dE.out.lt _ rfl).2;clear hmk;go_wp2_with fail
 go_loopw [14,15] (λ i _ wr=>∃k:Nat,k<=K/\i=.int .i64 k/\Below wc.heap.size wc wr) (λ i _ _=>K-(intOf i).toNat)
 exact⟨0,by omega,rfl,aj _ _⟩
 obtain⟨k,hk,rfl,ak⟩:=hrel;by_cases ae:k<K
 ·
  obtain⟨a,c,aW,_,ch,dg⟩:=cW (HP.out k ae);obtain⟨ys,cZ⟩:=HV.out k ae;obtain⟨va,vc,ci,_,gI,gA⟩:=cW cZ;have cX:=HN.out k ae;have bh:=HP.out k ae;obtain⟨nk,bC⟩:∃nk,nk=n k:=⟨_,rfl⟩;rw[aW]at bh;rw[ci]at cZ;simp only[<-bC]at aW ci cX dg gA cZ bh;obtain⟨lb,jf,dD⟩:=iP be.out (by omega);cases dD
  have cl:wc.cell? ⟨lb,k,none⟩=some (.slice a nk c):=by
   rw[ay be.out k (by omega),dp R K k ae,aW]
  have cg:wc.cell? ⟨wo.heap.size,k,none⟩=some (.slice va (nk+64) vc):=by
   rw[ay dE.out k (by omega),dp V K k ae,ci]
  have eZ:=(be.out.lt lb rfl).2;have cz:=Hd cZ;have cr:=Hd bh;have fv:=Hd gI;have eG:=Hd ch;have i1:(k:Int)<K:=by omega
  clear aW ci bC cZ bh gI ch;go_wp2_with fail
  go_loopw [15] (λ i wr=>∃q:Nat,q<=nk/\i=.int .i64 q/\Below wc.heap.size wc wr) (λ i _=>nk-(intOf i).toNat)
  exact⟨0,by omega,rfl,ak⟩
  clear ak;obtain⟨q,hq,rfl,ak⟩:=hrel;have sQ:wr.cell? ⟨lb,k,none⟩=some (.slice a nk c):=(ak.cell (p:=⟨lb,k,none⟩) eZ).trans cl;by_cases eA:q<nk
  ·
   obtain⟨vg,rfl⟩:=fv.out (by omega);obtain⟨rg,rfl⟩:=eG.out (by omega);have cP:=(cz.out.lt vg rfl).2;have aY:=(cr.out.lt rg rfl).2;obtain⟨mm,dK⟩:∃mm,bt k q=mm:=⟨_,rfl⟩;have bd:=Hd dK;clear dK
   have jJ:wc.cell? ⟨vg,q,none⟩=some (.int .i64 (mm)):=by
    rw[ay cz.out _ (by omega),gu (by have:=eE sR k nk;omega)];have:=bA sR k (nk) q 0 (by omega) (by decide);simpa[dV,bd.out]using this
   have lv:wc.cell? ⟨rg,q,none⟩=some (.int .i64 (mm)):=by
    rw[ay cr.out _ (by omega)];have:=bA sR k (nk) q 0 (by omega) (by decide);simpa[dV,bd.out]using this
   have k0:∀x:Calm wc.heap.size wc,x.1.cell? ⟨wo.heap.size,k,none⟩=some (.slice (some ⟨vg,0,none⟩) (nk+64) vc):=λ x=>x.cell cg cw
   have k10:∀x:Calm wc.heap.size wc,x.1.cell? ⟨vg,q,none⟩=some (.int .i64 (mm)):=λ x=>x.cell jJ cP
   have k2:∀x:Calm wc.heap.size wc,x.1.cell? ⟨lb,k,none⟩=some (.slice (some ⟨rg,0,none⟩) nk c):=λ x=>x.cell cl eZ
   have qi:∀x:Calm wc.heap.size wc,x.1.cell? ⟨rg,q,none⟩=some (.int .i64 (mm)):=λ x=>x.cell lv aY
   have i2:(q:Int)<nk:=by omega
   have i3:(q:Int)<(nk:Int)+64:=by omega
   have i4:(q:Int)<((nk+64:Nat):Int):=by omega
   clear jJ lv cl cg;go_wp2_with fail
   clear sQ;refine gR (B:=wc.heap.size) (W0:=wc) ak (by kernel_rfl) (by kernel_rfl) ?_;repeat(go_big_quiet_step (first|(go_at_call 91;exact Calm.call (aa _) (CA _ _ k q mm bd.out rfl rfl (by omega) (by omega) _))))
   refine wpQuiet_nil ?_;intro w6 bg;clear k0 k10 k2 qi;go_wp2_with fail
   go_roundw
   exact⟨q+1,by omega,by go_num,bg⟩
   simp[intOf];omega
  obtain rfl:q=nk:=by omega
  go_wp2_with fail
  go_roundw
  exact⟨k+1,by omega,by go_num,ak⟩
  simp[intOf];omega
 obtain rfl:K=k:=by omega
 go_wp2_with fail
 go_ret;exact⟨rfl,ag.jd ak (by omega)⟩
end Go.Proofs.YtepdklfkegkojaaGreatDoor
