/- Parts of one proof. Conditions: as each says. -/
import Derived.Test.YtepdklfkegkojaaGreatDoorGLetterNumbers0
import Derived.Test.YtepdklfkegkojaaGreatDoorGLetterNumbers35
import Derived.Test.YtepdklfkegkojaaGreatDoorGLetterNumbers36
import Derived.Test.YtepdklfkegkojaaGreatDoorGLetterNumbers12
import Derived.Test.YtepdklfkegkojaaGreatDoorGLetterNumbers20
import Derived.Test.YtepdklfkegkojaaGreatDoorGLetterNumbers23
import Derived.Test.YtepdklfkegkojaaGreatDoorGLetterNumbers6
import Derived.Test.YtepdklfkegkojaaGreatDoorGLetterNumbers18
set_option linter.all false
set_option maxHeartbeats 16000000
set_option maxRecDepth 100000
namespace Go.Proofs.YtepdklfkegkojaaGreatDoor
open Go.Proofs.Tryz
open Go.RowKit
theorem ac1 (M B bb K:Nat)(v:Value)(R:Nat->Value)(n:Nat->Nat)(C0:Nat->List Value)(w:World)(hb:nv w bb v)(hL:w.ownsRow M 25 1 v K ((List.range K).map R))(hR:jK (λ g=>M<=g) B K R n C0 w)(hMb:M<=bb)(yX:B<=M)(jS:pN K R)(hK:K<=1000)(hn:∀j,j<K->n j<=1099511627776)(hB:B<=w.heap.size) :
  Calls prog 59 #[.pointer (some ⟨bb,0,none⟩)] w λ e w'=>e=.returned (.bool true)/\Below B w w':=by
 obtain⟨lo,lc,hv,_,_,_⟩:=cW hL;subst hv;have HL:=Hd hL;have HR:=Hd hR;have HS:=Hd jS;have HN:=Hd hn;have H0:=Hd hb;have Bd:Below B w w:=aj _ _;have Dd:=hb.lt;clear hL hR jS hn hb;have c0:w.cell? ⟨bb,0,none⟩=some (.slice none 0 0):=H0.out.cell 0;go_enter func59,ntmps59
 go_wp2_with fail
 refine(uX _ (by decide) _).mono ?_;rintro e w1 ⟨rfl,ba⟩;have H1:=Hd (H0.out.below ba Dd);have As:=Bd.trans (ba.mono (aF hB Bd.size));have nz:=H1.out.lt;have xK:=Hd (own_below HL.out ba (aa _));have HR1:=Hd (show jK (λ g=>M<=g) B K R n C0 w1 from λ j hj=>bk.below (HR.out j hj) ba (aa _));clear c0;have c1:w1.cell? ⟨bb,1,none⟩=some (.slice none 0 0):=H1.out.cell 1;go_wp2_with fail
 refine(uX _ (by decide) _).mono ?_;rintro e w2 ⟨rfl,am⟩;have H2:=Hd (H1.out.below am nz);have At:=As.trans (am.mono (aF hB As.size));have kP:=H2.out.lt;have cY:=Hd (own_below xK.out am (aa _));have HR2:=Hd (show jK (λ g=>M<=g) B K R n C0 w2 from λ j hj=>bk.below (HR1.out j hj) am (aa _));clear c1;have c2:w2.cell? ⟨bb,2,none⟩=some (.slice none 0 0):=H2.out.cell 2;go_wp2_with fail
 refine(uX _ (by decide) _).mono ?_;rintro e w3 ⟨rfl,ap⟩;have H3:=Hd (H2.out.below ap kP);have qg:=At.trans (ap.mono (aF hB At.size));have hlt3:=H3.out.lt;have jg:=Hd (own_below cY.out ap (aa _));have HR3:=Hd (show jK (λ g=>M<=g) B K R n C0 w3 from λ j hj=>bk.below (HR2.out j hj) ap (aa _));clear c2;have c3:w3.cell? ⟨bb,3,none⟩=some (.slice none 0 0):=H3.out.cell 3;go_wp2_with fail
 refine(uX _ (by decide) _).mono ?_;rintro e w4 ⟨rfl,bO⟩;have H4:=Hd (H3.out.below bO hlt3);have Au:=qg.trans (bO.mono (aF hB qg.size));have CP:=H4.out.lt;have rm:=Hd (own_below jg.out bO (aa _));have HR4:=Hd (show jK (λ g=>M<=g) B K R n C0 w4 from λ j hj=>bk.below (HR3.out j hj) bO (aa _));clear c3;have c4:w4.cell? ⟨bb,4,none⟩=some (.slice none 0 0):=H4.out.cell 4;go_wp2_with fail
 refine(uX _ (by decide) _).mono ?_;rintro e w5 ⟨rfl,ak⟩;have H5:=Hd (H4.out.below ak CP);have Av:=Au.trans (ak.mono (aF hB Au.size));have Sg:=H5.out.lt;have wB:=Hd (own_below rm.out ak (aa _));have xW:=Hd (show jK (λ g=>M<=g) B K R n C0 w5 from λ j hj=>bk.below (HR4.out j hj) ak (aa _));clear c4;have c5:w5.cell? ⟨bb,5,none⟩=some (.slice lo K lc):=H5.out.cell 5;go_wp2_with fail
 refine(acZ (λ g=>M<=g/\g<w5.heap.size) B K lo lc R n C0 w5 (fh wB.out yX) (λ j hj=>bk.re (xW.out j hj) (λ g _ h=>h.1)) (λ g hg=>wB.out.lt g hg) (λ g h=>h.2) HS.out (aF hK (by decide)) HN.out (aF hB Av.size)).mono ?_;rintro e w6 ⟨rfl,hk⟩;have H6:=Hd (show nv w6 bb (.slice lo K lc)from(hk.apart bb Sg (fun⟨j,hj,e⟩=>(xW.out j hj).no bb e hMb)).trans H5.out);have Aw:=Av.trans hk.below;have CS:=H6.out.lt;clear c5;have c6:w6.cell? ⟨bb,6,none⟩=some (.slice none 0 0):=H6.out.cell 6;go_wp2_with fail
 refine(sZ _ (by decide) _).mono ?_;rintro e w7 ⟨rfl,eV⟩;have H7:=Hd (H6.out.below eV CS);have Ax:=Aw.trans (eV.mono (aF hB Aw.size));have JN:=H7.out.lt;clear c6;have c7:w7.cell? ⟨bb,7,none⟩=some (.slice none 0 0):=H7.out.cell 7;go_wp2_with fail
 refine(sZ _ (by decide) _).mono ?_;rintro e w8 ⟨rfl,fj⟩;have H8:=Hd (H7.out.below fj JN);have Ay:=Ax.trans (fj.mono (aF hB Ax.size));have JO:=H8.out.lt;clear c7;have c8:w8.cell? ⟨bb,8,none⟩=some (.slice none 0 0):=H8.out.cell 8;go_wp2_with fail
 refine(sZ _ (by decide) _).mono ?_;rintro e w9 ⟨rfl,iA⟩;have H9:=Hd (H8.out.below iA JO);have Az:=Ay.trans (iA.mono (aF hB Ay.size));have De:=H9.out.lt;clear c8;have c9:w9.cell? ⟨bb,9,none⟩=some (.slice none 0 0):=H9.out.cell 9;go_wp2_with fail
 refine(sZ _ (by decide) _).mono ?_;rintro e fy ⟨rfl,pS⟩;have yG:=Hd (H9.out.below pS De);have AA:=Az.trans (pS.mono (aF hB Az.size));have JP:=yG.out.lt;clear c9;have c10:fy.cell? ⟨bb,10,none⟩=some (.slice none 0 0):=yG.out.cell 10;go_wp2_with fail
 refine(sZ _ (by decide) _).mono ?_;rintro e nh ⟨rfl,nr⟩;have yH:=Hd (yG.out.below nr JP);have AB:=AA.trans (nr.mono (aF hB AA.size));have JQ:=yH.out.lt;clear c10;have c11:nh.cell? ⟨bb,11,none⟩=some (.slice none 0 0):=yH.out.cell 11;go_wp2_with fail
 refine(sZ _ (by decide) _).mono ?_;rintro e eB ⟨rfl,ns⟩;have yI:=Hd (yH.out.below ns JQ);have AC:=AB.trans (ns.mono (aF hB AB.size));have JR:=yI.out.lt;clear c11;have c12:eB.cell? ⟨bb,12,none⟩=some (.slice none 0 0):=yI.out.cell 12;go_wp2_with fail
 refine(rW _ (by decide) _).mono ?_;rintro e qL ⟨rfl,mU⟩;have yJ:=Hd (yI.out.below mU JR);have AD:=AC.trans (mU.mono (aF hB AC.size));have JS:=yJ.out.lt;clear c12;have c13:qL.cell? ⟨bb,13,none⟩=some (.slice none 0 0):=yJ.out.cell 13;go_wp2_with fail
 refine(rW _ (by decide) _).mono ?_;rintro e la ⟨rfl,nt⟩;have yK:=Hd (yJ.out.below nt JS);have AE:=AD.trans (nt.mono (aF hB AD.size));have JT:=yK.out.lt;clear c13;have c14:la.cell? ⟨bb,14,none⟩=some (.slice none 0 0):=yK.out.cell 14;go_wp2_with fail
 refine(rW _ (by decide) _).mono ?_;rintro e nl ⟨rfl,pl⟩;have yL:=Hd (yK.out.below pl JT);have AF:=AE.trans (pl.mono (aF hB AE.size));have JU:=yL.out.lt;clear c14;have c15:nl.cell? ⟨bb,15,none⟩=some (.slice none 0 0):=yL.out.cell 15;go_wp2_with fail
 refine(rW _ (by decide) _).mono ?_;rintro e w16 ⟨rfl,po⟩;have yM:=Hd (yL.out.below po JU);have AG:=AF.trans (po.mono (aF hB AF.size));have JV:=yM.out.lt;clear c15;have c16:w16.cell? ⟨bb,16,none⟩=some (.slice none 0 0):=yM.out.cell 16;go_wp2_with fail
 refine(rW _ (by decide) _).mono ?_;rintro e og ⟨rfl,oh⟩;have yN:=Hd (yM.out.below oh JV);have AH:=AG.trans (oh.mono (aF hB AG.size));have JW:=yN.out.lt;clear c16;have c17:og.cell? ⟨bb,17,none⟩=some (.slice none 0 0):=yN.out.cell 17;go_wp2_with fail
 refine(rW _ (by decide) _).mono ?_;rintro e q8 ⟨rfl,qj⟩;have yO:=Hd (yN.out.below qj JW);have AI:=AH.trans (qj.mono (aF hB AH.size));have JX:=yO.out.lt;clear c17;have c18:q8.cell? ⟨bb,18,none⟩=some (.slice none 0 0):=yO.out.cell 18;go_wp2_with fail
 refine(tQ _ (by decide) _).mono ?_;rintro e AJ ⟨rfl,qQ⟩;have yP:=Hd (yO.out.below qQ JX);have AK:=AI.trans (qQ.mono (aF hB AI.size));have JY:=yP.out.lt;clear c18;have c19:AJ.cell? ⟨bb,19,none⟩=some (.slice none 0 0):=yP.out.cell 19;go_wp2_with fail
 refine(tQ _ (by decide) _).mono ?_;rintro e ol ⟨rfl,rE⟩;have yQ:=Hd (yP.out.below rE JY);have AL:=AK.trans (rE.mono (aF hB AK.size));have TD:=yQ.out.lt;clear c19;have c20:ol.cell? ⟨bb,20,none⟩=some (.slice none 0 0):=yQ.out.cell 20;go_wp2_with fail
 refine(tQ _ (by decide) _).mono ?_;rintro e vY ⟨rfl,Fk⟩;have yR:=Hd (yQ.out.below Fk TD);have AM:=AL.trans (Fk.mono (aF hB AL.size));have TF:=yR.out.lt;clear c20;have c21:vY.cell? ⟨bb,21,none⟩=some (.slice none 0 0):=yR.out.cell 21;go_wp2_with fail
 refine(tQ _ (by decide) _).mono ?_;rintro e vZ ⟨rfl,U8⟩;have uY:=Hd (yR.out.below U8 TF);have AN:=AM.trans (U8.mono (aF hB AM.size));have J0:=uY.out.lt;clear c21;have J1:vZ.cell? ⟨bb,22,none⟩=some (.slice none 0 0):=uY.out.cell 22;go_wp2_with fail
 refine(tQ _ (by decide) _).mono ?_;rintro e wa ⟨rfl,AO⟩;have yS:=Hd (uY.out.below AO J0);have AP:=AN.trans (AO.mono (aF hB AN.size));have J2:=yS.out.lt;clear J1;have c23:wa.cell? ⟨bb,23,none⟩=some (.slice none 0 0):=yS.out.cell 23;go_wp2_with fail
 refine(tQ _ (by decide) _).mono ?_;rintro e zM ⟨rfl,AQ⟩;have yT:=Hd (yS.out.below AQ J2);have AR:=AP.trans (AQ.mono (aF hB AP.size));have J3:=yT.out.lt;clear c23;have c24:zM.cell? ⟨bb,24,none⟩=some (.slice none 0 0):=yT.out.cell 24;go_wp2_with fail
 refine(tR _ (by decide) _).mono ?_;rintro e zN ⟨rfl,AS⟩;have yU:=Hd (yT.out.below AS J3);have AT:=AR.trans (AS.mono (aF hB AR.size));have J4:=yU.out.lt;clear c24;have J5:zN.cell? ⟨bb,25,none⟩=some (.slice none 0 0):=yU.out.cell 25;go_wp2_with fail
 refine(tR _ (by decide) _).mono ?_;rintro e Fb ⟨rfl,AU⟩;have uZ:=Hd (yU.out.below AU J4);have AV:=AT.trans (AU.mono (aF hB AT.size));have J6:=uZ.out.lt;clear J5;have J7:Fb.cell? ⟨bb,26,none⟩=some (.slice none 0 0):=uZ.out.cell 26;go_wp2_with fail
 refine(tR _ (by decide) _).mono ?_;rintro e Fc ⟨rfl,AW⟩;have yV:=Hd (uZ.out.below AW J6);have AX:=AV.trans (AW.mono (aF hB AV.size));have J8:=yV.out.lt;clear J7;have J9:Fc.cell? ⟨bb,27,none⟩=some (.slice none 0 0):=yV.out.cell 27;go_wp2_with fail
 refine(tR _ (by decide) _).mono ?_;rintro e Fd ⟨rfl,AY⟩;have yW:=Hd (yV.out.below AY J8);have AZ:=AX.trans (AY.mono (aF hB AX.size));have Ka:=yW.out.lt;clear J9;have c28:Fd.cell? ⟨bb,28,none⟩=some (.slice none 0 0):=yW.out.cell 28;go_wp2_with fail
 refine(tR _ (by decide) _).mono ?_;rintro e TN ⟨rfl,A0⟩;have Kc:=Hd (yW.out.below A0 Ka);have Kd:=AZ.trans (A0.mono (aF hB AZ.size));have ab2:=Kc.out.lt;clear c28;go_wp2_with fail
 go_ret;exact⟨rfl,Kd⟩
theorem ac3 (B lb K lc:Nat)(R:Nat->Value)(n:Nat->Nat)(C0:Nat->List Value)(w:World)(hc:∀j,j<K->w.cell? ⟨lb,j,none⟩=some (R j))(pw:lb<w.heap.size)(hR:jK (λ _=>False) B K R n C0 w)(jS:pN K R)(hK:K<=1000)(hn:∀j,j<K->n j<=1099511627776)(hB:B<=w.heap.size) :
  Calls prog 43 #[.slice (some ⟨lb,0,none⟩) K lc] w λ e w'=>e=.returned (.bool true)/\Below B w w':=by
 have HR:=Hd hR;have HS:=Hd jS;have HN:=Hd hn;have HC:=Hd hc;clear hR jS hn hc;go_enter func43,ntmps43
 go_wp2_with fail
 have dl:nv (w.alloc (.cells (Dr (.slice none 0 0)) 126)) w.heap.size (.slice none 0 0):=heap_alloc_new w _;have iG:Below w.heap.size w (w.alloc (.cells (Dr (.slice none 0 0)) 126)):=(aj _ _).alloc (aa _) _;unfold Dr at dl iG;generalize w.alloc _=w1 at dl iG ⊢;go_loopw [4] (λ i wr=>∃(k:Nat) (v:Value),k<=K/\i=.int .i64 k/\nv wr w.heap.size v/\wr.ownsRow w.heap.size 25 1 v k ((List.range k).map R)/\Below w.heap.size w wr) (λ i _=>K-(intOf i).toNat)
 exact⟨0,_,by omega,rfl,dl,iK _ _ _ _,iG⟩
 clear dl iG;obtain⟨k,v,hk,rfl,gY,de,ag⟩:=hrel;have HB:=Hd gY;have fW:=Hd de;clear gY de;have hs:=ag.size;by_cases ae:k<K
 ·
  have i1:(k:Int)<K:=by omega
  obtain⟨a,c,aW,_,_,_⟩:=rY (HR.out k ae);have c0:wr.cell? ⟨lb,k,none⟩=some (.slice a (n k) c):=by rw[ag.cell (p:=⟨lb,k,none⟩) pw,HC.out k ae,aW]
  generalize n k=nk at c0 aW;have cS:=Hd aW;clear aW;go_wp2_with fail
  refine(acU w.heap.size w.heap.size v k _ a nk c wr HB.out fW.out hs (aa _) (by omega)).mono ?_;rintro e w3 ⟨rfl,v3,ap,kQ,hB3⟩;have H3:=Hd ap;have H4:=Hd kQ;clear ap kQ c0;go_wp2_with fail
  go_roundw
  exact⟨k+1,v3,by omega,by go_num,H3.out,by rw[List.range_succ,List.map_append];simp only[List.map_cons,List.map_nil];rw[cS.out];exact H4.out,ag.trans hB3⟩
  simp[intOf];omega
 obtain rfl:K=k:=by omega
 go_wp2_with fail
 refine(ac1 w.heap.size B w.heap.size K v R n C0 wr HB.out fW.out (λ j hj=>bk.below (bk.re (HR.out j hj) (λ g hg h=>by omega)) ag (aa _)) (aa _) hB HS.out hK HN.out (by omega)).mono ?_;rintro e w3 ⟨rfl,ap⟩;go_wp2_with fail
 go_ret;exact⟨rfl,(ag.mono hB).trans ap⟩
theorem Kw {w:World}{B n c:Nat}{a:Option Addr}{xs:List Int}(h:oJ w B a n c xs)(hn:xs.length=n)(h0:a=none∨0<n):bk (λ _=>False) w B (.slice a n c) n (xs.map bv):=by
 refine⟨by rw[List.length_map,hn,Nat.mul_one],?_⟩;rcases h with ⟨rfl,rfl,rfl⟩|⟨g,rfl,h1,h2,h3,h4,h5⟩
 · exact Or.inl ⟨rfl,rfl⟩
 have hp:0<n:=h0.resolve_left (by simp)
 have hg:g<w.heap.size:=by
  obtain⟨u,hu⟩:=Option.isSome_iff_exists.1 (h4 0 (by omega)).1;exact World.block_lt_of_cell? w _ hu
 exact Or.inr ⟨g,c,rfl,h1,hg,λ h=>h,h2,h3,h4,h5⟩
theorem bk.far {No:Nat->Prop}{B n:Nat}{w w':World}{v:Value}{xs:List Value}(h:bk No w B v n xs)(hf:∀b,B<=b->b<w.heap.size->w'.heap[b]?=w.heap[b]?)(hs:w.heap.size<=w'.heap.size):bk No w' B v n xs:=by
 refine⟨h.1,?_⟩;rcases h.2 with h1|⟨g,c,h1,h2,h3,h4,h5,h6,h7,h8⟩
 · exact Or.inl h1
 have hb:=hf g h2 h3;exact Or.inr ⟨g,c,h1,h2,ex h3 hs,h4,h5,h6,λ i hi=>⟨by rw[Ao (a:=⟨g,i,none⟩) hb];exact(h7 i hi).1,(World.frozen?_of_block (a:=⟨g,i,none⟩) hb).trans (h7 i hi).2⟩,λ i hi=>(Ao (a:=⟨g,i,none⟩) hb).trans (h8 i hi)⟩
theorem bk.le {No:Nat->Prop}{B B2 n:Nat}{w:World}{v:Value}{xs:List Value}(h:bk No w B v n xs)(hB:B2<=B):bk No w B2 v n xs:=by
 refine⟨h.1,?_⟩;rcases h.2 with h1|⟨g,c,h1,h2,h3⟩
 · exact Or.inl h1
 exact Or.inr ⟨g,c,h1,aF hB h2,h3⟩
theorem bk.bytes {No:Nat->Prop}{B n c:Nat}{w:World}{a:Option Addr}{xs:List Int}(h:bk No w B (.slice a n c) n (xs.map bv)):BytesIn w w.heap.size a xs:=by
 have hl:xs.length=n:=by have:=h.1;rw[List.length_map,Nat.mul_one]at this;exact this
 rcases h.2 with ⟨h1,hz⟩|⟨g,c',h1,h2,h3,h4,h5,h6,h7,h8⟩
 · subst hz;exact Or.inl (List.length_eq_zero_iff.1 hl)
 cases h1
 refine Or.inr ⟨g,0,rfl,h3,λ i hi=>?_⟩;rw[Nat.zero_add,h8 i (by omega),List.getElem?_map,bu hi];simp[bv,List.getD,hi]
theorem U9 {p:cQ}{bs:List Int}{er:Int}(h:eM p=(bs,er)):bs.length<=1048576:=by
 unfold eM at h;split at h
 · cases h;simp
 split at h
 · cases h;simp
 cases h;omega
def dup {α:Type} (u v:α) (j:Nat):α:=if j=0 then u else v
theorem Vb (W:World)(l:Lt)(B0:Nat)(hx:fG W B0 l)(hB0:B0<=W.heap.size)(hq:Fj l) :
  Calls prog 14 #[fA l] W λ e w'=>e=.returned (.bool true)/\Below W.heap.size W w':=by
 have dl:=(aj W.heap.size W).alloc (aa _) (.cells (ai l) 32);have hk:=heap_alloc_new W (.cells (ai l) 32);have dz:(W.alloc (.cells (ai l) 32)).heap.size=W.heap.size+1:=by simp
 have mg:=Hd dl;have HK:=Hd hk;have iL:=Hd (pJ dz.symm);have HX:=Hd (nZ hx hB0);have HQ:=Hd hq;clear dl hk dz hx hq;unfold fA;go_enter func14,ntmps14
 go_upto_region 1 with fail
 have dl:=mg.out;have hk:=HK.out;have dz:=iL.out;clear mg HK iL;unfold ai at dl hk dz;generalize W.alloc (.cells #[.int .u8 l.kind,.int .i64 l.fr,.int .i64 l.tov,.int .i64 l.term,.int .i64 l.index,.int .i64 l.was,.bool l.ok,.int .i64 l.commit,.int .i64 l.round,.slice l.eo l.es.length l.ey,.slice l.vo l.vs.length l.ce,.slice l.io l.im.length l.fi] 32)=w0 at dl hk dz ⊢;have HK:=Hd hk;clear hk;have aY:=eK HK.out;go_wp2_with (refine wpList_load_mid rfl 32 (.tmp 1) rfl W.heap.size 0 rfl (ai l).toList _ aY cL rfl (eN l) ?_)
 refine(acN l w0 (nZ (nj HX.out dl (aa _)) (by omega)) HQ.out).mono ?_;rintro e w1 ⟨g,rfl,hg,b1⟩;have dB:=b1.size;have Dd:W.heap.size<w0.heap.size:=by omega
 have B1:Below W.heap.size W w1:=dl.trans (b1.mono (by omega));have K1:=Hd ((b1.block W.heap.size Dd).trans HK.out);have HG:=Hd hg;clear hg HK aY;cases g with
 | true =>
  go_wp2_with fail
  refine(Cp _).mono ?_;rintro e w2 ⟨rfl,b2⟩;go_wp2_with fail
  go_ret;exact⟨rfl,B1.trans (b2.mono B1.size)⟩
 | false =>
 have HF:=Hd (HG.out rfl);clear HG;obtain⟨PR,BL⟩:=kp (fx l.plain);have xB:=Hd BL;obtain⟨⟨bs,er⟩,py⟩:∃z,eM l.plain=z:=⟨_,rfl⟩;have rS:=Hd py;clear BL py;have aY:=eK K1.out;go_wp2_with (refine wpList_load_mid rfl 32 (.tmp 1) rfl W.heap.size 0 rfl (ai l).toList _ aY cL rfl (eN l) ?_)
 clear aY;refine(aah l w1 (nZ (nj HX.out B1 (aa _)) B1.size) HF.out).mono ?_;rintro e w2 ⟨x,rfl,hpx,hL,b2⟩;have fM:=b2.size;have B2:Below W.heap.size W w2:=B1.trans (b2.mono B1.size);have K2:=Hd ((b2.block W.heap.size (by omega)).trans K1.out);have cY:=Hd hL;have jX:=Hd (hL.fine hpx HF.out);have yY:=Hd hpx;have dm:=heap_alloc_new w2 (.cells (ai bM) 32);rw[mK]at dm;have aS:=(aj w2.heap.size w2).alloc (aa _) (.cells (ai x) 32);have hki:=heap_alloc_new w2 (.cells (ai x) 32);have iO:=Hd aS;have wF:=Hd hki;clear hL hpx aS hki;go_upto_region 4 with (refine wpList_store_row rfl 32 (.tmp 3) (.tmp 15) rfl w2.heap.size (ai x) rfl (by first|rfl|simp) 32 _ dm (fD x) rfl (gB x) ?_;rw[World.setRow_alloc_new])
 clear dm;have aS:=iO.out;have hsi:=aS.size;have fl:=(Array.getElem?_eq_some_iff.1 wF.out).1;generalize w2.alloc (.cells (ai x) 32)=v2 at aS hsi fl wF ⊢;obtain⟨gi,Vc⟩:∃gi,w2.heap.size=gi:=⟨_,rfl⟩;have kK:=Hd Vc;rw[Vc]at wF fl ⊢;have cN:W.heap.size<gi:=by omega
 have V2:Below W.heap.size W v2:=B2.trans (aS.mono B2.size);have BV:=Hd aS;have KV:=Hd ((aS.block W.heap.size (by omega)).trans K2.out);have Vd:=Hd (cY.out.below aS (aa _));have Fl:=Hd (show ∀w',Below v2.heap.size v2 w'->w'.rangeAt gi 0 (ai x).toList from λ w' h=>eK ((h.block gi fl).trans wF.out));have Ve:=Hd (show ∀w',Below v2.heap.size v2 w'->w'.rangeAt W.heap.size 0 (ai l).toList from λ w' h=>eK ((h.block W.heap.size (by omega)).trans KV.out));clear aS iO;refine nX (λ w'=>Below v2.heap.size v2 w') (by kernel_rfl) ((aj _ _).drew) ?_;intro cu;refine vG (v:=.agg (ai x).toList.toArray) 0 rfl (by kernel_rfl) (by kernel_rfl) (by kernel_rfl) (λ _ _ _ h=>h) (by rfl) cu (xI 32 (.tmp 3) rfl gi 0 rfl (ai x).toList _ Fl.out cL rfl (eN x)) ?_
 (try simp only[Act.put,ssa,aq,ar])
 refine vG (v:=.agg (ai l).toList.toArray) 2 rfl (by kernel_rfl) (by kernel_rfl) (by kernel_rfl) (λ _ _ _ h=>h) (by rfl) cu (xI 32 (.tmp 1) rfl W.heap.size 0 rfl (ai l).toList _ Ve.out cL rfl (eN l)) ?_
 (try simp only[Act.put,ssa,aq,ar])
 have Fm:=Hd (Vd.out.below cu (aa _));generalize v2.drew=u2 at cu Fm ⊢;have hsu:=cu.size;refine dL 1 rfl (by kernel_rfl) (by rfl) (λ K hK=>?_);go_simp
 refine(BH x u2 Fm.out.sub jX.out PR.1 (by rw[yY.out];exact xB.out)).mono ?_;rintro e w3 ⟨rfl,b3⟩;have cA:=b3.size;have qy:Below v2.heap.size v2 w3:=cu.trans (b3.mono hsu);have B3:Below W.heap.size W w3:=V2.trans (qy.mono V2.size);have jg:=Hd (Fm.out.below b3 (aa _));refine hK.out _ _ qy ?_;clear hK K
 (try simp only[Act.put,ssa,aq,ar])
 refine dL 3 rfl (by kernel_rfl) (by rfl) (λ K hK=>?_);go_simp
 refine(PZ l w3 (nZ (nj HX.out B3 (aa _)) B3.size) HF.out PR.1 xB.out).mono ?_;rintro e w4 ⟨rfl,b4⟩;have lX:=b4.size;have tP:Below v2.heap.size v2 w4:=qy.trans (b4.mono (by omega));have B4:Below W.heap.size W w4:=B3.trans (b4.mono B3.size);have rm:=Hd (jg.out.below b4 (aa _));refine hK.out _ _ tP ?_;clear hK K
 (try simp only[Act.put,ssa,aq,ar])
 (first|(refine tkn 4 rfl ?_)|(refine aT (v:=?_) 4 rfl ?_ ?_;rotate_left;focus(intro wS ah;go_simp;first|done|with_reducible rfl)))
 (try simp only[Act.put,ssa,aq,ar])
 (first|(refine tkn 5 rfl ?_)|(refine aT (v:=?_) 5 rfl ?_ ?_;rotate_left;focus(intro wS ah;go_simp;first|done|with_reducible rfl)))
 (try simp only[Act.put,ssa,aq,ar])
 refine wpAnyH_done (by kernel_rfl) ?_ _;have K4:=Hd ((tP.block W.heap.size (by omega)).trans KV.out);have I4:=Hd ((tP.block gi fl).trans wF.out);have S4:=Hd tP;clear cu qy tP jg Fm Vd Fl Ve KV wF;have mW:=eK I4.out;go_wp2_with (refine wpList_load_mid rfl 32 (.tmp 3) rfl gi 0 rfl (ai x).toList _ mW cL rfl (eN x) ?_)
 clear mW;refine(D9 x w4 rm.out.sub jX.out bs er (by rw[yY.out];exact rS.out)).mono ?_;rintro e w5 ⟨a,ca,rfl,_,_,_,_,hfa,ha0,b5⟩;have ik:=b5.size;have B5:Below W.heap.size W w5:=B4.trans (b5.mono B4.size);have K5:=Hd ((b5.block W.heap.size (by omega)).trans K4.out);have I5:=Hd ((b5.block gi (by omega)).trans I4.out);have wB:=Hd (rm.out.below b5 (aa _));have jG:=Hd (Kw hfa rfl ha0);obtain⟨bn,hbn⟩:∃z,bs.length=z:=⟨_,rfl⟩;rw[hbn]at jG ⊢;have Du:=Hd hbn;clear hfa ha0 rm hbn K4 I4;have mW:=eK I5.out;go_wp2_with (refine wpList_load_mid rfl 32 (.tmp 3) rfl gi 0 rfl (ai x).toList _ mW cL rfl (eN x) ?_)
 clear mW;refine(D9 x w5 wB.out.sub jX.out bs er (by rw[yY.out];exact rS.out)).mono ?_;rintro e w6 ⟨b,cb,rfl,_,_,_,_,xJ,dl,b6⟩;have m7:=b6.size;have B6:Below W.heap.size W w6:=B5.trans (b6.mono B5.size);have K6:=Hd ((b6.block W.heap.size (by omega)).trans K5.out);have I6:=Hd ((b6.block gi (by omega)).trans I5.out);have ju:=Hd (wB.out.below b6 (aa _));have Vf:=Hd (jG.out.below b6 (aa _));have rp:=Hd (Kw xJ rfl dl);rw[Du.out]at rp ⊢;clear xJ dl wB K5 I5;have mW:=eK I6.out;have gN:=eK K6.out;go_wp2_with (first|(refine tO (by rfl) 32 (.tmp 3) rfl gi 0 rfl (ai x).toList _ mW cL rfl (eN x) ?_)|(refine tO (by rfl) 32 (.tmp 1) rfl W.heap.size 0 rfl (ai l).toList _ gN cL rfl (eN l) ?_))
 clear mW gN;refine(aaj x l w6 w1.heap.size yY.out ju.out (nZ (nj HX.out B6 (aa _)) B6.size) HF.out).mono ?_;rintro e w7 ⟨rfl,b7⟩;have hs7:=b7.size;have B7:Below W.heap.size W w7:=B6.trans (b7.mono B6.size);have K7:=Hd ((b7.block W.heap.size (by omega)).trans K6.out);have I7:=Hd ((b7.block gi (by omega)).trans I6.out);have Vg:=Hd (Vf.out.below b7 (aa _));have Ai:=Hd (rp.out.below b7 (aa _));have Vh:=Hd (cY.out.room (((((BV.out.trans (S4.out.mono (by omega))).trans (b5.mono (by omega))).trans (b6.mono (by omega))).trans (b7.mono (by omega)))));clear Vf rp ju cY K6 I6 BV S4;have mW:=eK I7.out;go_wp2_with (refine wpList_load_mid rfl 32 (.tmp 3) rfl gi 0 rfl (ai x).toList _ mW cL rfl (eN x) ?_)
 clear mW;refine(aak x w7 w1.heap.size w2.heap.size Vh.out jX.out (by omega) (by omega)).mono ?_;rintro e w8 ⟨rfl,ho⟩;have vF:w7.heap.size<=w8.heap.size:=ho.size;have B8:Below W.heap.size W w8:=B7.trans (ho.mid.below.mono (by omega));have K8:=Hd ((ho.mid.below.block W.heap.size (by omega)).trans K7.out);have Vi:=Hd (Vg.out.far (λ b hb am=>ho.mid.far b (by omega) am) vF);have Vj:=Hd (Ai.out.far (λ b hb am=>ho.mid.far b (by omega) am) vF);clear ho Vg Ai Vh K7 I7;have gN:=eK K8.out;go_wp2_with (refine wpList_load_mid rfl 32 (.tmp 1) rfl W.heap.size 0 rfl (ai l).toList _ gN cL rfl (eN l) ?_)
 clear gN;refine(Jc l w8 (nZ (nj HX.out B8 (aa _)) B8.size) HF.out bs er rS.out).mono ?_;rintro e w9 ⟨c,cc,rfl,hic,_,_,_,b9⟩;have Qe:=b9.size;have B9:Below W.heap.size W w9:=B8.trans (b9.mono B8.size);have Kx:=Hd (Vi.out.below b9 (aa _));have Vk:=Hd (Vj.out.below b9 (aa _));have HIC:=Hd hic;rw[Du.out];have gL:bn<=1048576:=by rw[<-Du.out];exact U9 rS.out
 clear hic Vi Vj K8;go_wp2_with fail
 refine(DR a bn ca c bn cc bs w9 Du.out Du.out Kx.out.bytes HIC.out (by omega)).mono ?_;rintro e fy ⟨rfl,b10⟩;have xq:=b10.size;have B10:Below W.heap.size W fy:=B9.trans (b10.mono B9.size);have ac5:=Hd (Kx.out.below b10 (aa _));have tT:=Hd (Vk.out.below b10 (aa _));clear Kx Vk;go_wp2_with fail
 refine(ac3 w4.heap.size fy.heap.size 2 2 (dup (.slice a bn ca) (.slice b bn cb)) (λ _=>bn) (λ _=>bs.map bv) _ (λ j hj=>?_) (by simp) (λ j hj=>?_) (λ i j hi hj dj=>?_) (by decide) (λ j hj=>by omega) (by simp;omega)).mono ?_
 ·
  have h2:j=0∨j=1:=by omega
  rcases h2 with rfl|rfl
  · exact ab (heap_alloc_new fy _) 0
  exact ab (heap_alloc_new fy _) 1
 ·
  have h2:j=0∨j=1:=by omega
  rcases h2 with rfl|rfl
  · exact ac5.out.alloc _
  exact(tT.out.le ik).alloc _
 ·
  have hab:Sep (.slice a bn ca) (.slice b bn cb):=λ q h1 h2=>by
   have h3:=(jG.out.lt q h1).2;have h4:=(tT.out.lt q h2).1;omega
  have h2:i=0∨i=1:=by omega
  have h3:j=0∨j=1:=by omega
  rcases h2 with rfl|rfl<;>rcases h3 with rfl|rfl
  · exact absurd rfl dj
  · exact hab
  · exact hab.symm
  exact absurd rfl dj
 rintro e nh ⟨rfl,b11⟩;have B11:Below W.heap.size W nh:=(B10.alloc B10.size _).trans (b11.mono B4.size);go_wp2_with fail
 refine(Cp _).mono ?_;rintro e eB ⟨rfl,b12⟩;go_wp2_with fail
 go_ret;exact⟨rfl,B11.trans (b12.mono B11.size)⟩
theorem Vl (ao:Option Addr)(n cap:Nat)(xs:List Int)(w:World)(hn:xs.length=n)(hx:gS w w.heap.size ao xs)(bm:ao=none->cap=0)(hl:n<=1099511627776) :
  Calls prog 61 #[.slice ao n cap] w λ e w'=>∃a c,e=.returned (.slice a n c)/\gj w' w.heap.size a n c xs/\Below w.heap.size w w':=by
 have HX:=Hd hx;have HA:=Hd bm;have HN:=Hd hn;clear hx bm hn;go_enter func61,ntmps61
 go_wp2_with (at_builtin;refine tw (sub:=mB) qr tY rfl (by decide) mA Be rfl (.tmp 4) (.tmp 5) rfl w.heap.size (.slice none 0 0) 0 [] rfl (iK _ _ _ _) ao n cap xs HN.out rfl w.heap.size HX.out HA.out (by unfold maxLen;omega) (by omega) (aa _) ?_)
 intro v2 w2 az hg _;have hb:Below w.heap.size w w2:=(aj w.heap.size w).grown hg (aa _) (λ k hk=>by cases hk)
 (try rw[Nat.zero_add,List.nil_append]at az)
 obtain⟨a,c,rfl⟩:=jz az;have HO:=Hd az;clear az hg;go_wp2_with fail
 go_ret;exact⟨a,c,rfl,HO.out,hb⟩
theorem ac6 (ao:Option Addr)(n cap:Nat)(xs:List Va)(w:World)(hn:xs.length=n)(hx:iz w w.heap.size ao xs)(bm:ao=none->cap=0)(hl:n<=1099511627776) :
  Calls prog 215 #[.slice ao n cap] w λ e w'=>∃a c,e=.returned (.slice a n c)/\w'.ownsRow w.heap.size 50 3 (.slice a n c) n (xs.flatMap jl)/\Below w.heap.size w w':=by
 have HX:=Hd hx;have HA:=Hd bm;have HN:=Hd hn;clear hx bm hn;go_enter func215,ntmps215
 go_wp2_with (at_builtin;refine tw (sub:=mB) sf zf rfl (by decide) oF DL rfl (.tmp 4) (.tmp 5) rfl w.heap.size (.slice none 0 0) 0 [] rfl (iK _ _ _ _) ao n cap xs HN.out rfl w.heap.size HX.out HA.out (by unfold maxLen;omega) (by omega) (aa _) ?_)
 intro v2 w2 az hg _;have hb:Below w.heap.size w w2:=(aj w.heap.size w).grown hg (aa _) (λ k hk=>by cases hk)
 (try rw[Nat.zero_add,List.nil_append]at az)
 obtain⟨a,c,rfl⟩:=jz az;have HO:=Hd az;clear az hg;go_wp2_with fail
 go_ret;exact⟨a,c,rfl,HO.out,hb⟩
theorem Dv {w:World}{g:Nat}{A B:Array Value}{T:TypeId}(h:w.heap[g]?=some (.cells A T (0,0)))(i:Nat)(v:Value)(e:A.setIfInBounds i v=B):(w.setCell ⟨g,i,none⟩ v).heap[g]?=some (.cells B T (0,0)):=e▸br (i:=i) h v
theorem Ky {w:World}{g b:Nat}{x:Obj}(h:w.heap[g]?=some x)(hn:g≠b)(i:Nat)(v:Value):(w.setCell ⟨b,i,none⟩ v).heap[g]?=some x:=(heap_setCell_other _ _ _ _ (by simpa using hn)).trans h
theorem mX (w:World)(b i:Nat)(u:Value):w.grownBy (w.setCell ⟨b,i,none⟩ u) (some b):=⟨rfl,rfl,rfl,by simp,λ k _ hk=>heap_setCell_other _ _ _ _ (λ e=>hk (by rw[e]))⟩
theorem jL {w w':World}{base e size n b:Nat}{v:Value}{xs:List Value}(h:w.ownsRow base e size v n xs)(hg:w.grownBy w' (some b))(hb:b<base):w'.ownsRow base e size v n xs :=
 aX h hg (by
  cases hq:v.ownBlock with
  | none=>exact Or.inl rfl
  | some q=>exact Or.inr λ e=>by have:=(h.lt q hq).1;cases e;omega)
theorem tU (w:World)(b:Nat)(cs:Array Value):w.grownBy (w.setRow b cs) (some b):=⟨rfl,rfl,rfl,by simp,λ k _ hn=>setRow_other w b k cs (λ e=>hn (by rw[e]))⟩
structure j7 (W:World) (T:TypeId) (A B:Array Value) (w:World):Prop where
 a:w.heap[W.heap.size]?=some (.cells A T (0,0))
 b:w.heap[W.heap.size+1]?=some (.cells B T (0,0))
 l:Below W.heap.size W w
 s:W.heap.size+2<=w.heap.size
theorem j7.start (W:World)(T:TypeId)(A B:Array Value):j7 W T A B ((W.alloc (.cells A T)).alloc (.cells B T)):=by
 obtain⟨h1,h2,h3,h4⟩:=sH W A B T T;exact⟨h2,h3,h1,pJ h4.symm⟩
theorem j7.grow {W w w':World}{T:TypeId}{A B:Array Value}(h:j7 W T A B w)(hb:Below w.heap.size w w'):j7 W T A B w' :=
 ⟨(hb.block _ (by have:=h.s;omega)).trans h.a,(hb.block _ (by have:=h.s;omega)).trans h.b,h.l.trans (hb.mono h.l.size),aF h.s hb.size⟩
theorem j7.set {W w:World}{T:TypeId}{A A' B:Array Value}(h:j7 W T A B w)(i:Nat)(v:Value)(e:A.setIfInBounds i v=A'):j7 W T A' B (w.setCell ⟨W.heap.size,i,none⟩ v) :=
 ⟨Dv h.a i v e,Ky h.b (by omega) i v,h.l.setCell (p:=⟨W.heap.size,i,none⟩) (aa _) v,by simpa using h.s⟩
theorem j7.row {W w:World}{T:TypeId}{A B:Array Value}(h:j7 W T A B w)(C:Array Value):j7 W T A C (w.setRow (W.heap.size+1) C) :=
 ⟨(setRow_other w _ _ C (by omega)).trans h.a,setRow_heap w _ _ C T _ h.b,h.l.grown (tU w _ C) h.l.size (λ k hk=>by cases hk;exact fU _),by simpa using h.s⟩
theorem j7.rng {W w:World}{T:TypeId}{A B:Array Value}(h:j7 W T A B w):w.rangeAt W.heap.size 0 A.toList:=eK h.a
theorem Vm {w:World}{g o:Nat}{A:Array Value}{T:TypeId}{fz:Nat×Nat}{cs:List Value}(h:w.heap[g]?=some (.cells A T fz))(e:(A.toList.drop o).take cs.length=cs):w.rangeAt g o cs:=λ j v hv=>by
 have hj:=(List.getElem?_eq_some_iff.1 hv).1;rw[ab h,<-Array.getElem?_toList,<-hv];conv=>rhs;rw[<-e]
 rw[List.getElem?_take_of_lt hj,List.getElem?_drop]
theorem ac7 {w:World}{g o n:Nat}{A:Array Value}{T:TypeId}(h:w.heap[g]?=some (.cells A T (0,0)))(hn:o+n<=A.size):w.there g o n:=λ j hj =>
 ⟨by rw[ab h,Array.getElem?_eq_getElem (by omega)];rfl,aO h _⟩
theorem Dw:(prog.info? 44).map (·.size)=some 4:=by kernel_rfl
theorem Fo:(prog.info? 46).map (·.size)=some 9:=by kernel_rfl
theorem ac8 (ck:Int)(text:ByteArray)(num:Int)(ao:Option Addr)(n cap:Nat)(xs:List Va)(w:World)(hn:xs.length=n)(hx:iz w w.heap.size ao xs)(bm:ao=none->cap=0)(hl:n<=1099511627776) :
  Calls prog 191 #[.agg #[.int .u8 ck,.string text,.slice ao n cap,.int .i64 num]] w λ e w'=>∃(ca:Option Addr) (cc:Nat),e=.returned (.agg #[.int .u8 ck,.string text,.slice ca n cc,.int .i64 num])/\w'.ownsRow w.heap.size 50 3 (.slice ca n cc) n (xs.flatMap jl)/\Below w.heap.size w w':=by
 have hs:=j7.start w 44 #[.int .u8 ck,.string text,.slice ao n cap,.int .i64 num] #[.int .u8 0,.string ⟨#[]⟩,.slice none 0 0,.int .i64 0];have HS:=Hd hs;have HX:=Hd hx;have HA:=Hd bm;have HN:=Hd hn;clear hx bm hn hs;go_enter func191,ntmps191
 go_upto_region 1 with fail
 generalize (w.alloc (.cells #[.int .u8 ck,.string text,.slice ao n cap,.int .i64 num] 44)).alloc (.cells #[.int .u8 0,.string ⟨#[]⟩,.slice none 0 0,.int .i64 0] 44)=w2 at HS ⊢;have c2:=ab HS.out.a 2;go_wp2_with fail
 refine(ac6 ao n cap xs w2 HN.out ((RowsIn.below cn HX.out HS.out.l (aa _)).mono cK HS.out.l.size) HA.out hl).mono ?_;rintro e w3 ⟨ca,cc,rfl,hL,ap⟩;have HL:=Hd (fh hL HS.out.s);have HS:=Hd (HS.out.grow ap);clear c2 hL ap;have c2:=ab HS.out.a 2;have u2:=aO HS.out.a 2;go_upto_region 2 with fail
 have HS:=Hd (HS.out.set 2 (.slice ca n cc) rfl);have HL:=Hd (jL HL.out (mX w3 w.heap.size 2 (.slice ca n cc)) (by omega));clear c2 u2;generalize w3.setCell ⟨w.heap.size,2,none⟩ (.slice ca n cc)=w4 at HS HL ⊢;have aY:=HS.out.rng;have hk:=HS.out.b;go_wp2_with (first|(refine wpList_load_mid rfl 44 (.tmp 1) rfl w.heap.size 0 rfl _ _ aY uR rfl Dw ?_)|(refine wpList_store_row rfl 44 (.tmp 2) (.tmp 7) rfl (w.heap.size+1) #[.int .u8 ck,.string text,.slice ca n cc,.int .i64 num] rfl rfl 44 _ hk Dw rfl (by simp[Value.oneCell']) ?_))
 have HS:=HS.out.row #[.int .u8 ck,.string text,.slice ca n cc,.int .i64 num];exact bodyPost_ret (results_cell_row rfl _ _ (w.heap.size+1) 44 _ _ _ rfl HS.b uR rfl Dw) rfl ⟨ca,cc,rfl,fh (jL HL.out (tU w4 _ _) (by omega)) (by omega),HS.l⟩
theorem ac9 (x:En)(w:World)(hx:rG w w.heap.size x)(hf:gV x) :
  Calls prog 124 #[.agg (bW x).toArray] w λ e w'=>∃y:En,e=.returned (.agg (bW y).toArray)/\y.plain=x.plain/\ja w' (w.heap.size+2) y/\Below w.heap.size w w':=by
 obtain⟨x0,x1,x2,x3,ck,text,ao,args,cap,num,vo,vs,vc⟩:=x;have hs:=j7.start w 46 (bW ⟨x0,x1,x2,x3,ck,text,ao,args,cap,num,vo,vs,vc⟩).toArray #[.int .i64 0,.int .u8 0,.int .i64 0,.int .i64 0,.int .u8 0,.string ⟨#[]⟩,.slice none 0 0,.int .i64 0,.slice none 0 0];have HF:=Hd hf;have HX:=Hd hx;obtain⟨n,hn⟩:∃n,args.length=n:=⟨_,rfl⟩;obtain⟨m,hm⟩:∃m,vs.length=m:=⟨_,rfl⟩;simp only[bW]at hs ⊢;rw[hn,hm]at hs ⊢;have HS:=Hd hs;have HN:=Hd hn;have HM:=Hd hm;clear hx hf hs hn hm;go_enter func124,ntmps124
 go_upto_region 1 with fail
 generalize (w.alloc (.cells #[.int .i64 x0,.int .u8 x1,.int .i64 x2,.int .i64 x3,.int .u8 ck,.string text,.slice ao n cap,.int .i64 num,.slice vo m vc] 46)).alloc (.cells #[.int .i64 0,.int .u8 0,.int .i64 0,.int .i64 0,.int .u8 0,.string ⟨#[]⟩,.slice none 0 0,.int .i64 0,.slice none 0 0] 46)=w2 at HS ⊢;have hr4:=Vm (o:=4) (cs:=[.int .u8 ck,.string text,.slice ao n cap,.int .i64 num]) HS.out.a rfl;go_wp2_with (refine wpList_load_mid rfl 44 (.tmp 3) rfl w.heap.size 4 rfl _ _ hr4 uR rfl Dw ?_)
 refine(ac8 ck text num ao n cap args w2 HN.out ((RowsIn.below cn HX.out.1 HS.out.l (aa _)).mono cK HS.out.l.size) HF.out.wf.F8 (by rw[<-HN.out];exact aF HF.out.args (by decide))).mono ?_;rintro e w3 ⟨ca,cc,rfl,hL,ap⟩;have HL:=Hd (fh hL HS.out.s);have HS:=Hd (HS.out.grow ap);clear hr4 hL ap;have ht:=ac7 (o:=4) (n:=4) HS.out.a (by simp);go_upto_region 2 with (refine wpList_store_mid rfl 44 (.tmp 6) (.tmp 5) rfl w.heap.size 4 #[.int .u8 ck,.string text,.slice ca n cc,.int .i64 num] rfl rfl ht Dw (by simp[Value.oneCell']) ?_)
 have HS:=Hd ((((HS.out.set 4 (.int .u8 ck) rfl).set 5 (.string text) rfl).set 6 (.slice ca n cc) rfl).set 7 (.int .i64 num) rfl);have HL:=Hd (jL (jL (jL (jL HL.out (mX w3 w.heap.size 4 (.int .u8 ck)) (by omega)) (mX _ w.heap.size 5 (.string text)) (by omega)) (mX _ w.heap.size 6 (.slice ca n cc)) (by omega)) (mX _ w.heap.size 7 (.int .i64 num)) (by omega));simp only[World.setCells,Nat.reduceAdd];clear ht;generalize (((w3.setCell ⟨w.heap.size,4,none⟩ (.int .u8 ck)).setCell ⟨w.heap.size,5,none⟩ (.string text)).setCell ⟨w.heap.size,6,none⟩ (.slice ca n cc)).setCell ⟨w.heap.size,7,none⟩ (.int .i64 num)=w4 at HS HL ⊢;have c8:=ab HS.out.a 8;go_wp2_with fail
 refine(Vl vo m vc vs w4 HM.out ((RowsIn.below cn HX.out.2 HS.out.l (aa _)).mono cK HS.out.l.size) HF.out.wf.sj (by rw[<-HM.out];exact aF HF.out.vn (by decide))).mono ?_;rintro e w5 ⟨da,dc,rfl,hV,ak⟩;have HV:=Hd (fh hV HS.out.s);have HL:=Hd (own_below HL.out ak (aa _));have HS:=Hd (HS.out.grow ak);clear c8 hV ak;have c8:=ab HS.out.a 8;have u8:=aO HS.out.a 8;go_upto_region 3 with fail
 have HS:=Hd (HS.out.set 8 (.slice da m dc) rfl);have HV:=Hd (jL HV.out (mX w5 w.heap.size 8 (.slice da m dc)) (by omega));have HL:=Hd (jL HL.out (mX w5 w.heap.size 8 (.slice da m dc)) (by omega));clear c8 u8;generalize w5.setCell ⟨w.heap.size,8,none⟩ (.slice da m dc)=w6 at HS HL HV ⊢;have aY:=HS.out.rng;have hk:=HS.out.b;go_wp2_with (first|(refine wpList_load_mid rfl 46 (.tmp 1) rfl w.heap.size 0 rfl _ _ aY uT rfl Fo ?_)|(refine wpList_store_row rfl 46 (.tmp 2) (.tmp 11) rfl (w.heap.size+1) #[.int .i64 x0,.int .u8 x1,.int .i64 x2,.int .i64 x3,.int .u8 ck,.string text,.slice ca n cc,.int .i64 num,.slice da m dc] rfl rfl 46 _ hk Fo rfl (by simp[Value.oneCell']) ?_))
 have hS:=HS.out.row #[.int .i64 x0,.int .u8 x1,.int .i64 x2,.int .i64 x3,.int .u8 ck,.string text,.slice ca n cc,.int .i64 num,.slice da m dc];have hn:=HN.out;have hm:=HM.out;refine bodyPost_ret (results_cell_row rfl _ _ (w.heap.size+1) 46 _ _ _ rfl hS.b uT rfl Fo) rfl ⟨⟨x0,x1,x2,x3,ck,text,ca,args,cc,num,da,vs,dc⟩,by simp only[bW,hn,hm],rfl,⟨?_,?_⟩,hS.l⟩
 · simp only[mt,hn];exact jL HL.out (tU w6 _ _) (by omega)
 simp only[jn,hm];exact jL HV.out (tU w6 _ _) (by omega)
end Go.Proofs.YtepdklfkegkojaaGreatDoor
