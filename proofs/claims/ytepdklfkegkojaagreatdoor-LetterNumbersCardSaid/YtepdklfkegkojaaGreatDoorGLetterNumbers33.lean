/- Parts of one proof. Conditions: as each says. -/
import Derived.Test.YtepdklfkegkojaaGreatDoorGLetterNumbers0
import Derived.Test.YtepdklfkegkojaaGreatDoorGLetterNumbers27
import Derived.Test.YtepdklfkegkojaaGreatDoorGLetterNumbers28
import Derived.Test.YtepdklfkegkojaaGreatDoorGLetterNumbers16
import Derived.Test.YtepdklfkegkojaaGreatDoorGLetterNumbers29
import Derived.Test.YtepdklfkegkojaaGreatDoorGLetterNumbers30
import Derived.Test.YtepdklfkegkojaaGreatDoorGLetterNumbers32
set_option linter.all false
set_option maxHeartbeats 16000000
set_option maxRecDepth 100000
namespace Go.Proofs.YtepdklfkegkojaaGreatDoor
open Go.Proofs.Tryz
open Go.RowKit
theorem Kb.own {S:Nat->Prop}{B U B2 E SZ n:Nat}{v:Value}{xs:List Value}{w w':World}(h:Kb S B U w w')(ho:w.ownsRow B2 E SZ v n xs)(he:E≠U):w'.ownsRow B2 E SZ v n xs:=by
 refine⟨ho.1,?_⟩;rcases ho.2 with hn|⟨g,cap,cur,hv,h1,h2,h3⟩
 · exact Or.inl hn
 exact Or.inr ⟨g,cap,cur,hv,h1,h.other g cur E _ h2 he,h3⟩
theorem abG (B Bb bb:Nat)(f:Nat->Value)(rows:Nat->List Value)(w:World)(gY:eU w Bb bb f rows)(hB:B<=w.heap.size)(hBb:B<=Bb)
  (K2:Nat) (R2:Nat->Value) (n2:Nat->Nat) (C2:Nat->List Value) (h2:rows 2=(List.range K2).map R2) (hR2:bf B 3 1 K2 R2 n2 C2 w) (jR:pN K2 R2) (hK2:K2<=100000) (dW:∀j,j<K2->n2 j<=1099511627776)
  (K5:Nat) (R5:Nat->Value) (n5:Nat->Nat) (C5:Nat->List Value) (h5:rows 5=(List.range K5).map R5) (CQ:bf B 5 1 K5 R5 n5 C5 w) (hS5:pN K5 R5) (hK5:K5<=100000) (tK:∀j,j<K5->n5 j<=1099511627776)
  (K6:Nat) (R6:Nat->Value) (n6:Nat->Nat) (C6:Nat->List Value) (h6:rows 6=(List.range K6).map R6) (CR:bf B 50 3 K6 R6 n6 C6 w) (QR:pN K6 R6) (qe:K6<=100000) (p7:∀j,j<K6->n6 j<=1099511627776)
  (dy:Nat) (dM:Nat->Value) (n20:Nat->Nat) (lQ:Nat->List Value) (h20:rows 20=(List.range dy).map dM) (QS:bf B 46 9 dy dM n20 lQ w) (QT:pN dy dM) (abI:dy<=100000) (QU:∀j,j<dy->n20 j<=1099511627776)
  (dq:Nat) (dJ:Nat->Value) (n21:Nat->Nat) (lw:Nat->List Value) (h21:rows 21=(List.range dq).map dJ) (QV:bf B 32 12 dq dJ n21 lw w) (QW:pN dq dJ) (abJ:dq<=100000) (QX:∀j,j<dq->n21 j<=500000000000)
  : Calls prog 59 #[.pointer (some ⟨bb,0,none⟩)] w λ e w'=>e=.returned (.bool true)/\Below B w w'/\∀b,b<w.heap.size->¬aM K2 R2 b->¬aM K5 R5 b->¬aM K6 R6 b->¬aM dy dM b->¬aM dq dJ b->w'.heap[b]?=w.heap[b]?:=by
 have lF:w.ownsRow B 24 1 (f 2) K2 ((List.range K2).map R2):=by
  have h1:=gY.own 2;rw[h2,List.length_map,List.length_range]at h1;exact fh h1 hBb
 obtain⟨lo2,QY,kw,_,_,_⟩:=cW lF;rw[kw]at lF;have QZ:=Hd lF;have Q0:=Hd hR2;have mz:=Hd jR;have xL:=Hd dW;have gh:=Hd kw;clear lF hR2 jR dW kw h2
 have hL5:w.ownsRow B 25 1 (f 5) K5 ((List.range K5).map R5):=by
  have h1:=gY.own 5;rw[h5,List.length_map,List.length_range]at h1;exact fh h1 hBb
 obtain⟨Q1,Q5,hv5,_,_,_⟩:=cW hL5;rw[hv5]at hL5;have Q7:=Hd hL5;have Q8:=Hd CQ;have HS5:=Hd hS5;have vX:=Hd tK;have HV5:=Hd hv5;clear hL5 CQ hS5 tK hv5 h5
 have hL6:w.ownsRow B 42 1 (f 6) K6 ((List.range K6).map R6):=by
  have h1:=gY.own 6;rw[h6,List.length_map,List.length_range]at h1;exact fh h1 hBb
 obtain⟨Q9,Ra,hv6,_,_,_⟩:=cW hL6;rw[hv6]at hL6;have Rb:=Hd hL6;have Rc:=Hd CR;have HS6:=Hd QR;have HN6:=Hd p7;have gW:=Hd hv6;clear hL6 CR QR p7 hv6 h6
 have E9:w.ownsRow B 30 1 (f 20) dy ((List.range dy).map dM):=by
  have h1:=gY.own 20;rw[h20,List.length_map,List.length_range]at h1;exact fh h1 hBb
 obtain⟨Rd,Re,JL,_,_,_⟩:=cW E9;rw[JL]at E9;have Rf:=Hd E9;have Rg:=Hd QS;have E4:=Hd QT;have abN:=Hd QU;have abO:=Hd JL;clear E9 QS QT QU JL h20
 have Fa:w.ownsRow B 22 1 (f 21) dq ((List.range dq).map dJ):=by
  have h1:=gY.own 21;rw[h21,List.length_map,List.length_range]at h1;exact fh h1 hBb
 obtain⟨Rh,Ri,JM,_,_,_⟩:=cW Fa;rw[JM]at Fa;have Rj:=Hd Fa;have Rk:=Hd QV;have yt:=Hd QW;have abP:=Hd QX;have abQ:=Hd JM;clear Fa QV QW QX JM h21;have H0:=Hd gY.is;have dk:=Hd gY;have Bd:Below B w w:=aj _ _;have Dd:=gY.lt;clear gY
 have c0:w.cell? ⟨bb,0,none⟩=some (.slice none 0 0):=by
  rw[ab H0.out 0,List.getElem?_toArray,List.getElem?_map,fH (by decide),<-(dk.out.nil 0 (dk.out.unused 0 rfl))];rfl
 go_enter func59,ntmps59
 go_wp2_with fail
 refine(uX _ (by decide) _).mono ?_;rintro e w1 ⟨rfl,ba⟩;have H1:=Hd ((ba.block bb Dd).trans H0.out);have As:=Bd.trans (ba.mono (aF hB Bd.size));have Rl:=Hd (show ∀b,b<w.heap.size->¬aM K2 R2 b->¬aM K5 R5 b->¬aM K6 R6 b->¬aM dy dM b->¬aM dq dJ b->w1.heap[b]?=w.heap[b]? from λ b hb g2 g5 g6 g20 g21=>(ba.block b (ex hb Bd.size)).trans (rfl));have Rm:=Hd (own_below QZ.out ba (aa _));have Rn:=Hd (show bf B 3 1 K2 R2 n2 C2 w1 from λ j hj=>own_below (Q0.out j hj) ba (aa _));have Ro:=Hd (own_below Q7.out ba (aa _));have Rp:=Hd (show bf B 5 1 K5 R5 n5 C5 w1 from λ j hj=>own_below (Q8.out j hj) ba (aa _));have Rq:=Hd (own_below Rb.out ba (aa _));have Rr:=Hd (show bf B 50 3 K6 R6 n6 C6 w1 from λ j hj=>own_below (Rc.out j hj) ba (aa _));have Rs:=Hd (own_below Rf.out ba (aa _));have Rt:=Hd (show bf B 46 9 dy dM n20 lQ w1 from λ j hj=>own_below (Rg.out j hj) ba (aa _));have Ru:=Hd (own_below Rj.out ba (aa _));have Rv:=Hd (show bf B 32 12 dq dJ n21 lw w1 from λ j hj=>own_below (Rk.out j hj) ba (aa _));have nz:=(Array.getElem?_eq_some_iff.1 H1.out).1;clear c0;clear QZ Q0;clear Q7 Q8;clear Rb Rc;clear Rf Rg;clear Rj Rk
 have c1:w1.cell? ⟨bb,1,none⟩=some (.slice none 0 0):=by
  rw[ab H1.out 1,List.getElem?_toArray,List.getElem?_map,fH (by decide),<-(dk.out.nil 1 (dk.out.unused 1 rfl))];rfl
 go_wp2_with fail
 refine(uX _ (by decide) _).mono ?_;rintro e w2 ⟨rfl,am⟩;have H2:=Hd ((am.block bb nz).trans H1.out);have At:=As.trans (am.mono (aF hB As.size));have Rx:=Hd (show ∀b,b<w.heap.size->¬aM K2 R2 b->¬aM K5 R5 b->¬aM K6 R6 b->¬aM dy dM b->¬aM dq dJ b->w2.heap[b]?=w.heap[b]? from λ b hb g2 g5 g6 g20 g21=>(am.block b (ex hb As.size)).trans (Rl.out b hb g2 g5 g6 g20 g21));have abR:=Hd (own_below Rm.out am (aa _));have abS:=Hd (show bf B 3 1 K2 R2 n2 C2 w2 from λ j hj=>own_below (Rn.out j hj) am (aa _));have Ry:=Hd (own_below Ro.out am (aa _));have Rz:=Hd (show bf B 5 1 K5 R5 n5 C5 w2 from λ j hj=>own_below (Rp.out j hj) am (aa _));have RA:=Hd (own_below Rq.out am (aa _));have RB:=Hd (show bf B 50 3 K6 R6 n6 C6 w2 from λ j hj=>own_below (Rr.out j hj) am (aa _));have RC:=Hd (own_below Rs.out am (aa _));have RD:=Hd (show bf B 46 9 dy dM n20 lQ w2 from λ j hj=>own_below (Rt.out j hj) am (aa _));have RE:=Hd (own_below Ru.out am (aa _));have RF:=Hd (show bf B 32 12 dq dJ n21 lw w2 from λ j hj=>own_below (Rv.out j hj) am (aa _));have kP:=(Array.getElem?_eq_some_iff.1 H2.out).1;clear c1 Rl;clear Rm Rn;clear Ro Rp;clear Rq Rr;clear Rs Rt;clear Ru Rv
 have c2:w2.cell? ⟨bb,2,none⟩=some (.slice lo2 K2 QY):=by
  rw[ab H2.out 2,List.getElem?_toArray,List.getElem?_map,fH (by decide),<-gh.out];rfl
 go_wp2_with fail
 refine(abx B K2 lo2 QY R2 n2 C2 w2 abR.out abS.out mz.out hK2 xL.out (aF hB At.size)).mono ?_;rintro e w3 ⟨rfl,bL⟩;have H3:=Hd (bL.other bb _ _ _ H2.out (by decide));have qg:=At.trans bL.below;have RG:=Hd (show ∀b,b<w.heap.size->¬aM K2 R2 b->¬aM K5 R5 b->¬aM K6 R6 b->¬aM dy dM b->¬aM dq dJ b->w3.heap[b]?=w.heap[b]? from λ b hb g2 g5 g6 g20 g21=>(bL.apart b (ex hb At.size) g2).trans (Rx.out b hb g2 g5 g6 g20 g21));have RH:=Hd (bL.own Ry.out (by decide));have RI:=Hd (show bf B 5 1 K5 R5 n5 C5 w3 from λ j hj=>bL.own (Rz.out j hj) (by decide));have RJ:=Hd (bL.own RA.out (by decide));have RK:=Hd (show bf B 50 3 K6 R6 n6 C6 w3 from λ j hj=>bL.own (RB.out j hj) (by decide));have RL:=Hd (bL.own RC.out (by decide));have RM:=Hd (show bf B 46 9 dy dM n20 lQ w3 from λ j hj=>bL.own (RD.out j hj) (by decide));have RN:=Hd (bL.own RE.out (by decide));have RO:=Hd (show bf B 32 12 dq dJ n21 lw w3 from λ j hj=>bL.own (RF.out j hj) (by decide));have hlt3:=(Array.getElem?_eq_some_iff.1 H3.out).1;clear c2 Rx;clear Ry Rz;clear RA RB;clear RC RD;clear RE RF
 have c3:w3.cell? ⟨bb,3,none⟩=some (.slice none 0 0):=by
  rw[ab H3.out 3,List.getElem?_toArray,List.getElem?_map,fH (by decide),<-(dk.out.nil 3 (dk.out.unused 3 rfl))];rfl
 go_wp2_with fail
 refine(uX _ (by decide) _).mono ?_;rintro e w4 ⟨rfl,bO⟩;have H4:=Hd ((bO.block bb hlt3).trans H3.out);have Au:=qg.trans (bO.mono (aF hB qg.size));have RP:=Hd (show ∀b,b<w.heap.size->¬aM K2 R2 b->¬aM K5 R5 b->¬aM K6 R6 b->¬aM dy dM b->¬aM dq dJ b->w4.heap[b]?=w.heap[b]? from λ b hb g2 g5 g6 g20 g21=>(bO.block b (ex hb qg.size)).trans (RG.out b hb g2 g5 g6 g20 g21));have RQ:=Hd (own_below RH.out bO (aa _));have RR:=Hd (show bf B 5 1 K5 R5 n5 C5 w4 from λ j hj=>own_below (RI.out j hj) bO (aa _));have RT:=Hd (own_below RJ.out bO (aa _));have RU:=Hd (show bf B 50 3 K6 R6 n6 C6 w4 from λ j hj=>own_below (RK.out j hj) bO (aa _));have RV:=Hd (own_below RL.out bO (aa _));have RW:=Hd (show bf B 46 9 dy dM n20 lQ w4 from λ j hj=>own_below (RM.out j hj) bO (aa _));have RX:=Hd (own_below RN.out bO (aa _));have RY:=Hd (show bf B 32 12 dq dJ n21 lw w4 from λ j hj=>own_below (RO.out j hj) bO (aa _));have CP:=(Array.getElem?_eq_some_iff.1 H4.out).1;clear c3 RG;clear RH RI;clear RJ RK;clear RL RM;clear RN RO
 have c4:w4.cell? ⟨bb,4,none⟩=some (.slice none 0 0):=by
  rw[ab H4.out 4,List.getElem?_toArray,List.getElem?_map,fH (by decide),<-(dk.out.nil 4 (dk.out.unused 4 rfl))];rfl
 go_wp2_with fail
 refine(uX _ (by decide) _).mono ?_;rintro e w5 ⟨rfl,ak⟩;have H5:=Hd ((ak.block bb CP).trans H4.out);have Av:=Au.trans (ak.mono (aF hB Au.size));have RZ:=Hd (show ∀b,b<w.heap.size->¬aM K2 R2 b->¬aM K5 R5 b->¬aM K6 R6 b->¬aM dy dM b->¬aM dq dJ b->w5.heap[b]?=w.heap[b]? from λ b hb g2 g5 g6 g20 g21=>(ak.block b (ex hb Au.size)).trans (RP.out b hb g2 g5 g6 g20 g21));have abT:=Hd (own_below RQ.out ak (aa _));have abU:=Hd (show bf B 5 1 K5 R5 n5 C5 w5 from λ j hj=>own_below (RR.out j hj) ak (aa _));have Sa:=Hd (own_below RT.out ak (aa _));have Sb:=Hd (show bf B 50 3 K6 R6 n6 C6 w5 from λ j hj=>own_below (RU.out j hj) ak (aa _));have Sc:=Hd (own_below RV.out ak (aa _));have Sd:=Hd (show bf B 46 9 dy dM n20 lQ w5 from λ j hj=>own_below (RW.out j hj) ak (aa _));have Se:=Hd (own_below RX.out ak (aa _));have Sf:=Hd (show bf B 32 12 dq dJ n21 lw w5 from λ j hj=>own_below (RY.out j hj) ak (aa _));have Sg:=(Array.getElem?_eq_some_iff.1 H5.out).1;clear c4 RP;clear RQ RR;clear RT RU;clear RV RW;clear RX RY
 have c5:w5.cell? ⟨bb,5,none⟩=some (.slice Q1 K5 Q5):=by
  rw[ab H5.out 5,List.getElem?_toArray,List.getElem?_map,fH (by decide),<-HV5.out];rfl
 go_wp2_with fail
 refine(Zp B K5 Q1 Q5 R5 n5 C5 w5 abT.out abU.out HS5.out hK5 vX.out (aF hB Av.size)).mono ?_;rintro e w6 ⟨rfl,np⟩;have H6:=Hd (np.other bb _ _ _ H5.out (by decide));have Aw:=Av.trans np.below;have Sh:=Hd (show ∀b,b<w.heap.size->¬aM K2 R2 b->¬aM K5 R5 b->¬aM K6 R6 b->¬aM dy dM b->¬aM dq dJ b->w6.heap[b]?=w.heap[b]? from λ b hb g2 g5 g6 g20 g21=>(np.apart b (ex hb Av.size) g5).trans (RZ.out b hb g2 g5 g6 g20 g21));have abV:=Hd (np.own Sa.out (by decide));have abW:=Hd (show bf B 50 3 K6 R6 n6 C6 w6 from λ j hj=>np.own (Sb.out j hj) (by decide));have Si:=Hd (np.own Sc.out (by decide));have Sj:=Hd (show bf B 46 9 dy dM n20 lQ w6 from λ j hj=>np.own (Sd.out j hj) (by decide));have Sk:=Hd (np.own Se.out (by decide));have Sl:=Hd (show bf B 32 12 dq dJ n21 lw w6 from λ j hj=>np.own (Sf.out j hj) (by decide));have CS:=(Array.getElem?_eq_some_iff.1 H6.out).1;clear c5 RZ;clear Sa Sb;clear Sc Sd;clear Se Sf
 have c6:w6.cell? ⟨bb,6,none⟩=some (.slice Q9 K6 Ra):=by
  rw[ab H6.out 6,List.getElem?_toArray,List.getElem?_map,fH (by decide),<-gW.out];rfl
 go_wp2_with fail
 refine(abz B K6 Q9 Ra R6 n6 C6 w6 abV.out abW.out HS6.out qe HN6.out (aF hB Aw.size)).mono ?_;rintro e w7 ⟨rfl,rt⟩;have H7:=Hd (rt.other bb _ _ _ H6.out (by decide));have Ax:=Aw.trans rt.below;have Sm:=Hd (show ∀b,b<w.heap.size->¬aM K2 R2 b->¬aM K5 R5 b->¬aM K6 R6 b->¬aM dy dM b->¬aM dq dJ b->w7.heap[b]?=w.heap[b]? from λ b hb g2 g5 g6 g20 g21=>(rt.apart b (ex hb Aw.size) g6).trans (Sh.out b hb g2 g5 g6 g20 g21));have Sn:=Hd (rt.own Si.out (by decide));have So:=Hd (show bf B 46 9 dy dM n20 lQ w7 from λ j hj=>rt.own (Sj.out j hj) (by decide));have Sp:=Hd (rt.own Sk.out (by decide));have Sq:=Hd (show bf B 32 12 dq dJ n21 lw w7 from λ j hj=>rt.own (Sl.out j hj) (by decide));have JN:=(Array.getElem?_eq_some_iff.1 H7.out).1;clear c6 Sh;clear Si Sj;clear Sk Sl
 have c7:w7.cell? ⟨bb,7,none⟩=some (.slice none 0 0):=by
  rw[ab H7.out 7,List.getElem?_toArray,List.getElem?_map,fH (by decide),<-(dk.out.nil 7 (dk.out.unused 7 rfl))];rfl
 go_wp2_with fail
 refine(sZ _ (by decide) _).mono ?_;rintro e w8 ⟨rfl,fj⟩;have H8:=Hd ((fj.block bb JN).trans H7.out);have Ay:=Ax.trans (fj.mono (aF hB Ax.size));have Sr:=Hd (show ∀b,b<w.heap.size->¬aM K2 R2 b->¬aM K5 R5 b->¬aM K6 R6 b->¬aM dy dM b->¬aM dq dJ b->w8.heap[b]?=w.heap[b]? from λ b hb g2 g5 g6 g20 g21=>(fj.block b (ex hb Ax.size)).trans (Sm.out b hb g2 g5 g6 g20 g21));have Ss:=Hd (own_below Sn.out fj (aa _));have St:=Hd (show bf B 46 9 dy dM n20 lQ w8 from λ j hj=>own_below (So.out j hj) fj (aa _));have Su:=Hd (own_below Sp.out fj (aa _));have Sv:=Hd (show bf B 32 12 dq dJ n21 lw w8 from λ j hj=>own_below (Sq.out j hj) fj (aa _));have JO:=(Array.getElem?_eq_some_iff.1 H8.out).1;clear c7 Sm;clear Sn So;clear Sp Sq
 have c8:w8.cell? ⟨bb,8,none⟩=some (.slice none 0 0):=by
  rw[ab H8.out 8,List.getElem?_toArray,List.getElem?_map,fH (by decide),<-(dk.out.nil 8 (dk.out.unused 8 rfl))];rfl
 go_wp2_with fail
 refine(sZ _ (by decide) _).mono ?_;rintro e w9 ⟨rfl,iA⟩;have H9:=Hd ((iA.block bb JO).trans H8.out);have Az:=Ay.trans (iA.mono (aF hB Ay.size));have Sw:=Hd (show ∀b,b<w.heap.size->¬aM K2 R2 b->¬aM K5 R5 b->¬aM K6 R6 b->¬aM dy dM b->¬aM dq dJ b->w9.heap[b]?=w.heap[b]? from λ b hb g2 g5 g6 g20 g21=>(iA.block b (ex hb Ay.size)).trans (Sr.out b hb g2 g5 g6 g20 g21));have Sx:=Hd (own_below Ss.out iA (aa _));have Sy:=Hd (show bf B 46 9 dy dM n20 lQ w9 from λ j hj=>own_below (St.out j hj) iA (aa _));have Sz:=Hd (own_below Su.out iA (aa _));have SA:=Hd (show bf B 32 12 dq dJ n21 lw w9 from λ j hj=>own_below (Sv.out j hj) iA (aa _));have De:=(Array.getElem?_eq_some_iff.1 H9.out).1;clear c8 Sr;clear Ss St;clear Su Sv
 have c9:w9.cell? ⟨bb,9,none⟩=some (.slice none 0 0):=by
  rw[ab H9.out 9,List.getElem?_toArray,List.getElem?_map,fH (by decide),<-(dk.out.nil 9 (dk.out.unused 9 rfl))];rfl
 go_wp2_with fail
 refine(sZ _ (by decide) _).mono ?_;rintro e fy ⟨rfl,pS⟩;have yG:=Hd ((pS.block bb De).trans H9.out);have AA:=Az.trans (pS.mono (aF hB Az.size));have SB:=Hd (show ∀b,b<w.heap.size->¬aM K2 R2 b->¬aM K5 R5 b->¬aM K6 R6 b->¬aM dy dM b->¬aM dq dJ b->fy.heap[b]?=w.heap[b]? from λ b hb g2 g5 g6 g20 g21=>(pS.block b (ex hb Az.size)).trans (Sw.out b hb g2 g5 g6 g20 g21));have SC:=Hd (own_below Sx.out pS (aa _));have SD:=Hd (show bf B 46 9 dy dM n20 lQ fy from λ j hj=>own_below (Sy.out j hj) pS (aa _));have SE:=Hd (own_below Sz.out pS (aa _));have SF:=Hd (show bf B 32 12 dq dJ n21 lw fy from λ j hj=>own_below (SA.out j hj) pS (aa _));have JP:=(Array.getElem?_eq_some_iff.1 yG.out).1;clear c9 Sw;clear Sx Sy;clear Sz SA
 have c10:fy.cell? ⟨bb,10,none⟩=some (.slice none 0 0):=by
  rw[ab yG.out 10,List.getElem?_toArray,List.getElem?_map,fH (by decide),<-(dk.out.nil 10 (dk.out.unused 10 rfl))];rfl
 go_wp2_with fail
 refine(sZ _ (by decide) _).mono ?_;rintro e nh ⟨rfl,nr⟩;have yH:=Hd ((nr.block bb JP).trans yG.out);have AB:=AA.trans (nr.mono (aF hB AA.size));have SG:=Hd (show ∀b,b<w.heap.size->¬aM K2 R2 b->¬aM K5 R5 b->¬aM K6 R6 b->¬aM dy dM b->¬aM dq dJ b->nh.heap[b]?=w.heap[b]? from λ b hb g2 g5 g6 g20 g21=>(nr.block b (ex hb AA.size)).trans (SB.out b hb g2 g5 g6 g20 g21));have SH:=Hd (own_below SC.out nr (aa _));have SI:=Hd (show bf B 46 9 dy dM n20 lQ nh from λ j hj=>own_below (SD.out j hj) nr (aa _));have SJ:=Hd (own_below SE.out nr (aa _));have SK:=Hd (show bf B 32 12 dq dJ n21 lw nh from λ j hj=>own_below (SF.out j hj) nr (aa _));have JQ:=(Array.getElem?_eq_some_iff.1 yH.out).1;clear c10 SB;clear SC SD;clear SE SF
 have c11:nh.cell? ⟨bb,11,none⟩=some (.slice none 0 0):=by
  rw[ab yH.out 11,List.getElem?_toArray,List.getElem?_map,fH (by decide),<-(dk.out.nil 11 (dk.out.unused 11 rfl))];rfl
 go_wp2_with fail
 refine(sZ _ (by decide) _).mono ?_;rintro e eB ⟨rfl,ns⟩;have yI:=Hd ((ns.block bb JQ).trans yH.out);have AC:=AB.trans (ns.mono (aF hB AB.size));have SL:=Hd (show ∀b,b<w.heap.size->¬aM K2 R2 b->¬aM K5 R5 b->¬aM K6 R6 b->¬aM dy dM b->¬aM dq dJ b->eB.heap[b]?=w.heap[b]? from λ b hb g2 g5 g6 g20 g21=>(ns.block b (ex hb AB.size)).trans (SG.out b hb g2 g5 g6 g20 g21));have SM:=Hd (own_below SH.out ns (aa _));have SN:=Hd (show bf B 46 9 dy dM n20 lQ eB from λ j hj=>own_below (SI.out j hj) ns (aa _));have SO:=Hd (own_below SJ.out ns (aa _));have SP:=Hd (show bf B 32 12 dq dJ n21 lw eB from λ j hj=>own_below (SK.out j hj) ns (aa _));have JR:=(Array.getElem?_eq_some_iff.1 yI.out).1;clear c11 SG;clear SH SI;clear SJ SK
 have c12:eB.cell? ⟨bb,12,none⟩=some (.slice none 0 0):=by
  rw[ab yI.out 12,List.getElem?_toArray,List.getElem?_map,fH (by decide),<-(dk.out.nil 12 (dk.out.unused 12 rfl))];rfl
 go_wp2_with fail
 refine(rW _ (by decide) _).mono ?_;rintro e qL ⟨rfl,mU⟩;have yJ:=Hd ((mU.block bb JR).trans yI.out);have AD:=AC.trans (mU.mono (aF hB AC.size));have SQ:=Hd (show ∀b,b<w.heap.size->¬aM K2 R2 b->¬aM K5 R5 b->¬aM K6 R6 b->¬aM dy dM b->¬aM dq dJ b->qL.heap[b]?=w.heap[b]? from λ b hb g2 g5 g6 g20 g21=>(mU.block b (ex hb AC.size)).trans (SL.out b hb g2 g5 g6 g20 g21));have SR:=Hd (own_below SM.out mU (aa _));have SS:=Hd (show bf B 46 9 dy dM n20 lQ qL from λ j hj=>own_below (SN.out j hj) mU (aa _));have ST:=Hd (own_below SO.out mU (aa _));have SU:=Hd (show bf B 32 12 dq dJ n21 lw qL from λ j hj=>own_below (SP.out j hj) mU (aa _));have JS:=(Array.getElem?_eq_some_iff.1 yJ.out).1;clear c12 SL;clear SM SN;clear SO SP
 have c13:qL.cell? ⟨bb,13,none⟩=some (.slice none 0 0):=by
  rw[ab yJ.out 13,List.getElem?_toArray,List.getElem?_map,fH (by decide),<-(dk.out.nil 13 (dk.out.unused 13 rfl))];rfl
 go_wp2_with fail
 refine(rW _ (by decide) _).mono ?_;rintro e la ⟨rfl,nt⟩;have yK:=Hd ((nt.block bb JS).trans yJ.out);have AE:=AD.trans (nt.mono (aF hB AD.size));have SV:=Hd (show ∀b,b<w.heap.size->¬aM K2 R2 b->¬aM K5 R5 b->¬aM K6 R6 b->¬aM dy dM b->¬aM dq dJ b->la.heap[b]?=w.heap[b]? from λ b hb g2 g5 g6 g20 g21=>(nt.block b (ex hb AD.size)).trans (SQ.out b hb g2 g5 g6 g20 g21));have SW:=Hd (own_below SR.out nt (aa _));have SY:=Hd (show bf B 46 9 dy dM n20 lQ la from λ j hj=>own_below (SS.out j hj) nt (aa _));have S1:=Hd (own_below ST.out nt (aa _));have S3:=Hd (show bf B 32 12 dq dJ n21 lw la from λ j hj=>own_below (SU.out j hj) nt (aa _));have JT:=(Array.getElem?_eq_some_iff.1 yK.out).1;clear c13 SQ;clear SR SS;clear ST SU
 have c14:la.cell? ⟨bb,14,none⟩=some (.slice none 0 0):=by
  rw[ab yK.out 14,List.getElem?_toArray,List.getElem?_map,fH (by decide),<-(dk.out.nil 14 (dk.out.unused 14 rfl))];rfl
 go_wp2_with fail
 refine(rW _ (by decide) _).mono ?_;rintro e nl ⟨rfl,pl⟩;have yL:=Hd ((pl.block bb JT).trans yK.out);have AF:=AE.trans (pl.mono (aF hB AE.size));have Ta:=Hd (show ∀b,b<w.heap.size->¬aM K2 R2 b->¬aM K5 R5 b->¬aM K6 R6 b->¬aM dy dM b->¬aM dq dJ b->nl.heap[b]?=w.heap[b]? from λ b hb g2 g5 g6 g20 g21=>(pl.block b (ex hb AE.size)).trans (SV.out b hb g2 g5 g6 g20 g21));have Tb:=Hd (own_below SW.out pl (aa _));have Tc:=Hd (show bf B 46 9 dy dM n20 lQ nl from λ j hj=>own_below (SY.out j hj) pl (aa _));have Td:=Hd (own_below S1.out pl (aa _));have Te:=Hd (show bf B 32 12 dq dJ n21 lw nl from λ j hj=>own_below (S3.out j hj) pl (aa _));have JU:=(Array.getElem?_eq_some_iff.1 yL.out).1;clear c14 SV;clear SW SY;clear S1 S3
 have c15:nl.cell? ⟨bb,15,none⟩=some (.slice none 0 0):=by
  rw[ab yL.out 15,List.getElem?_toArray,List.getElem?_map,fH (by decide),<-(dk.out.nil 15 (dk.out.unused 15 rfl))];rfl
 go_wp2_with fail
 refine(rW _ (by decide) _).mono ?_;rintro e w16 ⟨rfl,po⟩;have yM:=Hd ((po.block bb JU).trans yL.out);have AG:=AF.trans (po.mono (aF hB AF.size));have Tf:=Hd (show ∀b,b<w.heap.size->¬aM K2 R2 b->¬aM K5 R5 b->¬aM K6 R6 b->¬aM dy dM b->¬aM dq dJ b->w16.heap[b]?=w.heap[b]? from λ b hb g2 g5 g6 g20 g21=>(po.block b (ex hb AF.size)).trans (Ta.out b hb g2 g5 g6 g20 g21));have Tg:=Hd (own_below Tb.out po (aa _));have Th:=Hd (show bf B 46 9 dy dM n20 lQ w16 from λ j hj=>own_below (Tc.out j hj) po (aa _));have Ti:=Hd (own_below Td.out po (aa _));have Tj:=Hd (show bf B 32 12 dq dJ n21 lw w16 from λ j hj=>own_below (Te.out j hj) po (aa _));have JV:=(Array.getElem?_eq_some_iff.1 yM.out).1;clear c15 Ta;clear Tb Tc;clear Td Te
 have c16:w16.cell? ⟨bb,16,none⟩=some (.slice none 0 0):=by
  rw[ab yM.out 16,List.getElem?_toArray,List.getElem?_map,fH (by decide),<-(dk.out.nil 16 (dk.out.unused 16 rfl))];rfl
 go_wp2_with fail
 refine(rW _ (by decide) _).mono ?_;rintro e og ⟨rfl,oh⟩;have yN:=Hd ((oh.block bb JV).trans yM.out);have AH:=AG.trans (oh.mono (aF hB AG.size));have Tk:=Hd (show ∀b,b<w.heap.size->¬aM K2 R2 b->¬aM K5 R5 b->¬aM K6 R6 b->¬aM dy dM b->¬aM dq dJ b->og.heap[b]?=w.heap[b]? from λ b hb g2 g5 g6 g20 g21=>(oh.block b (ex hb AG.size)).trans (Tf.out b hb g2 g5 g6 g20 g21));have Tl:=Hd (own_below Tg.out oh (aa _));have Tm:=Hd (show bf B 46 9 dy dM n20 lQ og from λ j hj=>own_below (Th.out j hj) oh (aa _));have Tn:=Hd (own_below Ti.out oh (aa _));have To:=Hd (show bf B 32 12 dq dJ n21 lw og from λ j hj=>own_below (Tj.out j hj) oh (aa _));have JW:=(Array.getElem?_eq_some_iff.1 yN.out).1;clear c16 Tf;clear Tg Th;clear Ti Tj
 have c17:og.cell? ⟨bb,17,none⟩=some (.slice none 0 0):=by
  rw[ab yN.out 17,List.getElem?_toArray,List.getElem?_map,fH (by decide),<-(dk.out.nil 17 (dk.out.unused 17 rfl))];rfl
 go_wp2_with fail
 refine(rW _ (by decide) _).mono ?_;rintro e q8 ⟨rfl,qj⟩;have yO:=Hd ((qj.block bb JW).trans yN.out);have AI:=AH.trans (qj.mono (aF hB AH.size));have Tp:=Hd (show ∀b,b<w.heap.size->¬aM K2 R2 b->¬aM K5 R5 b->¬aM K6 R6 b->¬aM dy dM b->¬aM dq dJ b->q8.heap[b]?=w.heap[b]? from λ b hb g2 g5 g6 g20 g21=>(qj.block b (ex hb AH.size)).trans (Tk.out b hb g2 g5 g6 g20 g21));have Tq:=Hd (own_below Tl.out qj (aa _));have Tr:=Hd (show bf B 46 9 dy dM n20 lQ q8 from λ j hj=>own_below (Tm.out j hj) qj (aa _));have Tt:=Hd (own_below Tn.out qj (aa _));have Tu:=Hd (show bf B 32 12 dq dJ n21 lw q8 from λ j hj=>own_below (To.out j hj) qj (aa _));have JX:=(Array.getElem?_eq_some_iff.1 yO.out).1;clear c17 Tk;clear Tl Tm;clear Tn To
 have c18:q8.cell? ⟨bb,18,none⟩=some (.slice none 0 0):=by
  rw[ab yO.out 18,List.getElem?_toArray,List.getElem?_map,fH (by decide),<-(dk.out.nil 18 (dk.out.unused 18 rfl))];rfl
 go_wp2_with fail
 refine(tQ _ (by decide) _).mono ?_;rintro e AJ ⟨rfl,qQ⟩;have yP:=Hd ((qQ.block bb JX).trans yO.out);have AK:=AI.trans (qQ.mono (aF hB AI.size));have Tv:=Hd (show ∀b,b<w.heap.size->¬aM K2 R2 b->¬aM K5 R5 b->¬aM K6 R6 b->¬aM dy dM b->¬aM dq dJ b->AJ.heap[b]?=w.heap[b]? from λ b hb g2 g5 g6 g20 g21=>(qQ.block b (ex hb AI.size)).trans (Tp.out b hb g2 g5 g6 g20 g21));have Tw:=Hd (own_below Tq.out qQ (aa _));have Tx:=Hd (show bf B 46 9 dy dM n20 lQ AJ from λ j hj=>own_below (Tr.out j hj) qQ (aa _));have Ty:=Hd (own_below Tt.out qQ (aa _));have Tz:=Hd (show bf B 32 12 dq dJ n21 lw AJ from λ j hj=>own_below (Tu.out j hj) qQ (aa _));have JY:=(Array.getElem?_eq_some_iff.1 yP.out).1;clear c18 Tp;clear Tq Tr;clear Tt Tu
 have c19:AJ.cell? ⟨bb,19,none⟩=some (.slice none 0 0):=by
  rw[ab yP.out 19,List.getElem?_toArray,List.getElem?_map,fH (by decide),<-(dk.out.nil 19 (dk.out.unused 19 rfl))];rfl
 go_wp2_with fail
 refine(tQ _ (by decide) _).mono ?_;rintro e ol ⟨rfl,rE⟩;have yQ:=Hd ((rE.block bb JY).trans yP.out);have AL:=AK.trans (rE.mono (aF hB AK.size));have TA:=Hd (show ∀b,b<w.heap.size->¬aM K2 R2 b->¬aM K5 R5 b->¬aM K6 R6 b->¬aM dy dM b->¬aM dq dJ b->ol.heap[b]?=w.heap[b]? from λ b hb g2 g5 g6 g20 g21=>(rE.block b (ex hb AK.size)).trans (Tv.out b hb g2 g5 g6 g20 g21));have abX:=Hd (own_below Tw.out rE (aa _));have abY:=Hd (show bf B 46 9 dy dM n20 lQ ol from λ j hj=>own_below (Tx.out j hj) rE (aa _));have TB:=Hd (own_below Ty.out rE (aa _));have TC:=Hd (show bf B 32 12 dq dJ n21 lw ol from λ j hj=>own_below (Tz.out j hj) rE (aa _));have TD:=(Array.getElem?_eq_some_iff.1 yQ.out).1;clear c19 Tv;clear Tw Tx;clear Ty Tz
 have c20:ol.cell? ⟨bb,20,none⟩=some (.slice Rd dy Re):=by
  rw[ab yQ.out 20,List.getElem?_toArray,List.getElem?_map,fH (by decide),<-abO.out];rfl
 go_wp2_with fail
 refine(abB B dy Rd Re dM n20 lQ ol abX.out abY.out E4.out abI abN.out (aF hB AL.size)).mono ?_;rintro e vY ⟨rfl,Df⟩;have yR:=Hd (Df.other bb _ _ _ yQ.out (by decide));have AM:=AL.trans Df.below;have TE:=Hd (show ∀b,b<w.heap.size->¬aM K2 R2 b->¬aM K5 R5 b->¬aM K6 R6 b->¬aM dy dM b->¬aM dq dJ b->vY.heap[b]?=w.heap[b]? from λ b hb g2 g5 g6 g20 g21=>(Df.apart b (ex hb AL.size) g20).trans (TA.out b hb g2 g5 g6 g20 g21));have abZ:=Hd (Df.own TB.out (by decide));have ab0:=Hd (show bf B 32 12 dq dJ n21 lw vY from λ j hj=>Df.own (TC.out j hj) (by decide));have TF:=(Array.getElem?_eq_some_iff.1 yR.out).1;clear c20 TA;clear TB TC
 have c21:vY.cell? ⟨bb,21,none⟩=some (.slice Rh dq Ri):=by
  rw[ab yR.out 21,List.getElem?_toArray,List.getElem?_map,fH (by decide),<-abQ.out];rfl
 go_wp2_with fail
 refine(abD B dq Rh Ri dJ n21 lw vY abZ.out ab0.out yt.out abJ abP.out (aF hB AM.size)).mono ?_;rintro e vZ ⟨rfl,JZ⟩;have uY:=Hd (JZ.other bb _ _ _ yR.out (by decide));have AN:=AM.trans JZ.below;have TG:=Hd (show ∀b,b<w.heap.size->¬aM K2 R2 b->¬aM K5 R5 b->¬aM K6 R6 b->¬aM dy dM b->¬aM dq dJ b->vZ.heap[b]?=w.heap[b]? from λ b hb g2 g5 g6 g20 g21=>(JZ.apart b (ex hb AM.size) g21).trans (TE.out b hb g2 g5 g6 g20 g21));have J0:=(Array.getElem?_eq_some_iff.1 uY.out).1;clear c21 TE
 have J1:vZ.cell? ⟨bb,22,none⟩=some (.slice none 0 0):=by
  rw[ab uY.out 22,List.getElem?_toArray,List.getElem?_map,fH (by decide),<-(dk.out.nil 22 (dk.out.unused 22 rfl))];rfl
 go_wp2_with fail
 refine(tQ _ (by decide) _).mono ?_;rintro e wa ⟨rfl,AO⟩;have yS:=Hd ((AO.block bb J0).trans uY.out);have AP:=AN.trans (AO.mono (aF hB AN.size));have TH:=Hd (show ∀b,b<w.heap.size->¬aM K2 R2 b->¬aM K5 R5 b->¬aM K6 R6 b->¬aM dy dM b->¬aM dq dJ b->wa.heap[b]?=w.heap[b]? from λ b hb g2 g5 g6 g20 g21=>(AO.block b (ex hb AN.size)).trans (TG.out b hb g2 g5 g6 g20 g21));have J2:=(Array.getElem?_eq_some_iff.1 yS.out).1;clear J1 TG
 have c23:wa.cell? ⟨bb,23,none⟩=some (.slice none 0 0):=by
  rw[ab yS.out 23,List.getElem?_toArray,List.getElem?_map,fH (by decide),<-(dk.out.nil 23 (dk.out.unused 23 rfl))];rfl
 go_wp2_with fail
 refine(tQ _ (by decide) _).mono ?_;rintro e zM ⟨rfl,AQ⟩;have yT:=Hd ((AQ.block bb J2).trans yS.out);have AR:=AP.trans (AQ.mono (aF hB AP.size));have TI:=Hd (show ∀b,b<w.heap.size->¬aM K2 R2 b->¬aM K5 R5 b->¬aM K6 R6 b->¬aM dy dM b->¬aM dq dJ b->zM.heap[b]?=w.heap[b]? from λ b hb g2 g5 g6 g20 g21=>(AQ.block b (ex hb AP.size)).trans (TH.out b hb g2 g5 g6 g20 g21));have J3:=(Array.getElem?_eq_some_iff.1 yT.out).1;clear c23 TH
 have c24:zM.cell? ⟨bb,24,none⟩=some (.slice none 0 0):=by
  rw[ab yT.out 24,List.getElem?_toArray,List.getElem?_map,fH (by decide),<-(dk.out.nil 24 (dk.out.unused 24 rfl))];rfl
 go_wp2_with fail
 refine(tR _ (by decide) _).mono ?_;rintro e zN ⟨rfl,AS⟩;have yU:=Hd ((AS.block bb J3).trans yT.out);have AT:=AR.trans (AS.mono (aF hB AR.size));have TJ:=Hd (show ∀b,b<w.heap.size->¬aM K2 R2 b->¬aM K5 R5 b->¬aM K6 R6 b->¬aM dy dM b->¬aM dq dJ b->zN.heap[b]?=w.heap[b]? from λ b hb g2 g5 g6 g20 g21=>(AS.block b (ex hb AR.size)).trans (TI.out b hb g2 g5 g6 g20 g21));have J4:=(Array.getElem?_eq_some_iff.1 yU.out).1;clear c24 TI
 have J5:zN.cell? ⟨bb,25,none⟩=some (.slice none 0 0):=by
  rw[ab yU.out 25,List.getElem?_toArray,List.getElem?_map,fH (by decide),<-(dk.out.nil 25 (dk.out.unused 25 rfl))];rfl
 go_wp2_with fail
 refine(tR _ (by decide) _).mono ?_;rintro e Fb ⟨rfl,AU⟩;have uZ:=Hd ((AU.block bb J4).trans yU.out);have AV:=AT.trans (AU.mono (aF hB AT.size));have TK:=Hd (show ∀b,b<w.heap.size->¬aM K2 R2 b->¬aM K5 R5 b->¬aM K6 R6 b->¬aM dy dM b->¬aM dq dJ b->Fb.heap[b]?=w.heap[b]? from λ b hb g2 g5 g6 g20 g21=>(AU.block b (ex hb AT.size)).trans (TJ.out b hb g2 g5 g6 g20 g21));have J6:=(Array.getElem?_eq_some_iff.1 uZ.out).1;clear J5 TJ
 have J7:Fb.cell? ⟨bb,26,none⟩=some (.slice none 0 0):=by
  rw[ab uZ.out 26,List.getElem?_toArray,List.getElem?_map,fH (by decide),<-(dk.out.nil 26 (dk.out.unused 26 rfl))];rfl
 go_wp2_with fail
 refine(tR _ (by decide) _).mono ?_;rintro e Fc ⟨rfl,AW⟩;have yV:=Hd ((AW.block bb J6).trans uZ.out);have AX:=AV.trans (AW.mono (aF hB AV.size));have TL:=Hd (show ∀b,b<w.heap.size->¬aM K2 R2 b->¬aM K5 R5 b->¬aM K6 R6 b->¬aM dy dM b->¬aM dq dJ b->Fc.heap[b]?=w.heap[b]? from λ b hb g2 g5 g6 g20 g21=>(AW.block b (ex hb AV.size)).trans (TK.out b hb g2 g5 g6 g20 g21));have J8:=(Array.getElem?_eq_some_iff.1 yV.out).1;clear J7 TK
 have J9:Fc.cell? ⟨bb,27,none⟩=some (.slice none 0 0):=by
  rw[ab yV.out 27,List.getElem?_toArray,List.getElem?_map,fH (by decide),<-(dk.out.nil 27 (dk.out.unused 27 rfl))];rfl
 go_wp2_with fail
 refine(tR _ (by decide) _).mono ?_;rintro e Fd ⟨rfl,AY⟩;have yW:=Hd ((AY.block bb J8).trans yV.out);have AZ:=AX.trans (AY.mono (aF hB AX.size));have TM:=Hd (show ∀b,b<w.heap.size->¬aM K2 R2 b->¬aM K5 R5 b->¬aM K6 R6 b->¬aM dy dM b->¬aM dq dJ b->Fd.heap[b]?=w.heap[b]? from λ b hb g2 g5 g6 g20 g21=>(AY.block b (ex hb AX.size)).trans (TL.out b hb g2 g5 g6 g20 g21));have Ka:=(Array.getElem?_eq_some_iff.1 yW.out).1;clear J9 TL
 have c28:Fd.cell? ⟨bb,28,none⟩=some (.slice none 0 0):=by
  rw[ab yW.out 28,List.getElem?_toArray,List.getElem?_map,fH (by decide),<-(dk.out.nil 28 (dk.out.unused 28 rfl))];rfl
 go_wp2_with fail
 refine(tR _ (by decide) _).mono ?_;rintro e TN ⟨rfl,A0⟩;have Kc:=Hd ((A0.block bb Ka).trans yW.out);have Kd:=AZ.trans (A0.mono (aF hB AZ.size));have ab1:=Hd (show ∀b,b<w.heap.size->¬aM K2 R2 b->¬aM K5 R5 b->¬aM K6 R6 b->¬aM dy dM b->¬aM dq dJ b->TN.heap[b]?=w.heap[b]? from λ b hb g2 g5 g6 g20 g21=>(A0.block b (ex hb AZ.size)).trans (TM.out b hb g2 g5 g6 g20 g21));have ab2:=(Array.getElem?_eq_some_iff.1 Kc.out).1;clear c28 TM;go_wp2_with fail
 go_ret;exact⟨rfl,Kd,ab1.out⟩
end Go.Proofs.YtepdklfkegkojaaGreatDoor
