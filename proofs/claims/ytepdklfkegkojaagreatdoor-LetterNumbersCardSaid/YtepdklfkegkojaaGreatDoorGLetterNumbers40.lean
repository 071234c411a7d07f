/- Parts of one proof. Conditions: as each says. -/
import Derived.Test.YtepdklfkegkojaaGreatDoorGLetterNumbers0
import Derived.Test.YtepdklfkegkojaaGreatDoorGLetterNumbers35
import Derived.Test.YtepdklfkegkojaaGreatDoorGLetterNumbers37
import Derived.Test.YtepdklfkegkojaaGreatDoorGLetterNumbers38
import Derived.Test.YtepdklfkegkojaaGreatDoorGLetterNumbers39
import Derived.Deep.DeepCutAuto
set_option linter.all false
set_option maxHeartbeats 16000000
set_option maxRecDepth 100000
namespace Go.Proofs.YtepdklfkegkojaaGreatDoor
open Go.Proofs.Tryz
open Go.RowKit
def A7:Array Value:=#[.int .i64 (-9223372036854775808),.int .i64 (-1),.int .i64 0,.int .i64 1,.int .i64 2,.int .i64 3,.int .i64 4,.int .i64 6,.int .i64 7,.int .i64 9,.int .i64 10,.int .i64 1099511627776,.int .i64 1099511627777,.int .i64 9223372036854775807]
theorem adz {w:World}{g:Nat}(h:w.heap[g]?=some (.cells A7 3 (0,0)))(j:Nat)(hj:j<14):∃v,bH v/\∀w',Below w.heap.size w w'->w'.cell? ⟨g,j,none⟩=some (.int .i64 v):=by
 have hg:=(Array.getElem?_eq_some_iff.1 h).1;have hc:=ab h j
 have hv:∃v,bH v/\A7[j]?=some (.int .i64 v):=by
  match j,hj with
  | 0,_|1,_|2,_|3,_|4,_|5,_|6,_|7,_|8,_|9,_|10,_|11,_|12,_|13,_=>exact⟨_,⟨by decide,by decide⟩,rfl⟩
 obtain⟨v,hn,hv⟩:=hv;exact⟨v,hn,λ w' hb=>(hb.cell (p:=⟨g,j,none⟩) hg).trans (hc.trans hv)⟩
structure adA (L:Nat->Lt):Prop where
 fine:∀i,i<6->cy (L i)
 put:∀i,i<6->eM (L i).plain=(ee (L i).plain,0)
 right:∀i,i<6->fx (L i).plain=true/\(ee (L i).plain).length<=1000/\(L i).es.length<=100/\(L i).vs.length<=100/\(L i).im.length<=100
 wide:∀b n,0<n->fx (mY (L 4) b n).plain=true/\(ee (mY (L 4) b n).plain).length=58+n
theorem adB (vb ib eb v2 im:Nat):adA (fL vb ib eb v2 im):=⟨ado _ _ _ _ _,adp _ _ _ _ _,Vp _ _ _ _ _,λ b n hn=>ads _ _ _ _ _ b n hn⟩
def Vt (w2:World) (p:Value) (w:World):Prop:=∃g z,p=.pointer (some ⟨g,0,none⟩)/\w.heap[g]?=some (.cells (ai z) 32 (0,0))/\fG w w.heap.size z/\cy z/\Below w2.heap.size w2 w
theorem adC {w2 w:World}{g:Nat}{z:Lt}{old:Array Value}(hk:w.heap[g]?=some (.cells old 32 (0,0)))(hg:w2.heap.size<=g)(hz:∀w',w.grownBy w' (some g)->fG w' w'.heap.size z)(hf:cy z)(hb:Below w2.heap.size w2 w):Vt w2 (.pointer (some ⟨g,0,none⟩)) (w.setRow g (ai z)) :=
 ⟨g,z,rfl,setRow_heap w g _ _ _ _ hk,hz _ (tU w g _),hf,hb.grown (tU w g _) hb.size (λ k hk=>by cases hk;exact hg)⟩
theorem adD (W:World):Calls prog 3 #[] W λ e w'=>e=.returned (.bool true)/\Below W.heap.size W w':=by
 go_enter func3,ntmps3
 go_wp2_with fail
 refine(adm W).mono ?_;rintro e w1 ⟨vb,ib,eb,v2,im,lb,rfl,hfa,ba⟩;have KE:=adB vb ib eb v2 im;generalize fL vb ib eb v2 im=L at hfa KE;have A8:=Hd hfa;have HX:=Hd KE;clear hfa KE;go_upto_region 3 with fail
 obtain⟨nb,hnb⟩:∃nb,w1.heap.size=nb:=⟨_,rfl⟩;have hbn:=(aj w1.heap.size w1).alloc (aa _) (.cells A7 3);have pQ:=Hd (adz (heap_alloc_new w1 (.cells A7 3)));have A8:=Hd (A8.out.grow hbn);have am:=ba.trans (hbn.mono ba.size);clear hbn ba;change Code.wp _ _ _ _ (w1.alloc (.cells A7 3));rw[hnb]at pQ ⊢;generalize w1.alloc (.cells A7 3)=u at pQ A8 am ⊢;clear hnb;go_wp2_with fail
 go_loopw [3,4,5,6,7,8,9,10,11,12,13,14,15,16,17] (λ i _ _ _ _ _ _ _ _ _ _ _ _ _ _ wr=>∃k:Nat,k<=6/\i=.int .i64 k/\Below u.heap.size u wr) (λ i _ _ _ _ _ _ _ _ _ _ _ _ _ _ _=>6-(intOf i).toNat)
 exact⟨0,by omega,rfl,aj _ _⟩
 obtain⟨k,hk,rfl,hb⟩:=hrel;by_cases ae:k<6
 ·
  have i1:(k:Int)<6:=by omega
  have hs:=hb.size;have eC:∀w',Below u.heap.size u w'->fG w' w'.heap.size (L k):=λ w' h=>(A8.out.grow h).sub k ae
  have pj:=Hd (show ∀w',Below u.heap.size u w'->w'.rangeAt lb (k*12) (ai (L k)).toList from λ w' h=>(A8.out.grow h).rng k ae);have hfi:=HX.out.fine k ae;have Fp:=HX.out.put k ae;have mW:=HX.out.right k ae;generalize L k=x at eC pj hfi Fp mW;have iR:=hfi.bytes mW.1;obtain⟨bs,kx⟩:∃bs,ee x.plain=bs:=⟨_,rfl⟩
  have hcut:∀j,j<bs.length->(gT (bs.take j)).2=4:=λ j hj=>by
   subst kx;exact WY mW.1 hfi.ok (by omega) iR hj
  rw[kx]at Fp iR mW;have gL:bs.length<=1000:=mW.2.1;have xY:=Hd mW.2.2;have Fl:=Hd mW.1;have qx:=Hd eC;have rP:=Hd hfi;have KF:=Hd Fp;have mF:=Hd iR;have adE:=Hd hcut;have Jb:=Hd kx;have aY:=pj.out wr hb;clear eC hfi Fp mW iR hcut kx;go_wp2_with (refine wpList_load_mid rfl 32 (.tmp 41) rfl lb (k*12) rfl _ _ aY cL rfl (eN x) ?_)
  refine(zI x wr (qx.out wr hb) rP.out _ 0 KF.out).mono ?_;rintro e w2 ⟨a,c,rfl,dw,jQ,dg,_,am⟩;have am:=hb.trans (am.mono hs);have fM:=am.size;have HB:=Hd am;have zZ:=Hd (show ∀w',Below w2.heap.size w2 w'->BytesIn w' w'.heap.size a bs from λ w' h=>(dw.below h (aa _)).mono h.size);have jv:=Hd jQ;have qx:=Hd (show ∀w',Below w2.heap.size w2 w'->fG w' w'.heap.size x from λ w' h=>qx.out w' (HB.out.trans (h.mono fM)));have pj:=Hd (show ∀w',Below w2.heap.size w2 w'->w'.rangeAt lb (k*12) (ai x).toList from λ w' h=>pj.out w' (HB.out.trans (h.mono fM)))
  have pQ:=Hd (show ∀j,j<14->∃v,bH v/\∀w',Below w2.heap.size w2 w'->w'.cell? ⟨nb,j,none⟩=some (.int .i64 v)from λ j hj=>by
   obtain⟨v,hv,hc⟩:=pQ.out j hj;exact⟨v,hv,λ w' h=>hc w' (HB.out.trans (h.mono fM))⟩)
  have aY:=pj.out w2 (aj _ _);clear dw jQ hb hs am fM;go_wp2_with (refine tO (by rfl) 32 (.tmp 51) rfl lb (k*12) rfl _ _ aY cL rfl (eN x) ?_)
  refine(BH x w2 (qx.out w2 (aj _ _)) rP.out true Fl.out).mono ?_;rintro e w3 ⟨rfl,ap⟩;clear aY;go_wp2_with fail
  refine(EP a bs.length c bs w3 w3.heap.size rfl (zZ.out w3 ap) (aa _) jv.out (by omega)).mono ?_;rintro e w4 ⟨a4,c4,rfl,jB,bO⟩;have cA:=ap.size;have lX:=bO.size;have bO:=ap.trans (bO.mono cA);have hB:=BOwn.lit w4 [0] (by decide);have gq:=hB.in;have gn:=jB.alloc (.cells #[.int .u8 0] 5);go_wp2_with (at_builtin;refine ZB (by rfl) (.tmp 58) (.tmp 59) rfl w3.heap.size _ bs rfl gn ⟨w4.heap.size,0,none⟩ 1 [0] rfl _ gq (by simp;omega) (by simp;omega) ?_)
  intro v5 w5 l5 hl5 KG pZ;obtain⟨a6,c6,rfl⟩:=jz KG;have ak:=(bO.alloc bO.size (.cells #[.int .u8 0] 5)).grown pZ (by have:=bO.size;simp;omega) (λ g hg=>by have:=(gn.lt g hg).1;omega);have ik:=ak.size;have iV:BytesWf l5:=by rw[hl5.out];exact mF.out.app (λ v hv=>by rw[List.mem_singleton.1 hv];exact⟨by decide,by decide⟩)
  have HO:=Hd KG;have rI:=Hd iV;clear jB hB gq gn KG pZ iV bO ap lX cA;go_wp2_with fail
  refine(Fh w5 a6 l5.length c6 l5 w5.heap.size rfl (wA rfl HO.out) (aa _) rI.out (iW HO.out) (mp HO.out)).mono ?_;rintro e w6 ⟨rfl,bg⟩;have bg:=ak.trans (bg.mono ik);clear HO rI hl5 ak ik;go_wp2_with fail
  go_loopw [6,7,8,9,10,11,12] (λ n _ _ _ _ _ _ wr=>∃j:Nat,j<=17/\n=.int .i64 j/\Below w2.heap.size w2 wr) (λ n _ _ _ _ _ _ _=>17-(intOf n).toNat)
  exact⟨0,by omega,rfl,bg⟩
  clear bg;obtain⟨j,hj,rfl,bg⟩:=hrel;by_cases Vu:j<17
  ·
   have i2:(j:Int)<17:=by omega
   go_wp2_with fail
   go_loopw [7,8,9,10,11,12] (λ n _ _ _ _ _ wr=>∃q:Nat,q<=14/\n=.int .i64 q/\Below w2.heap.size w2 wr) (λ n _ _ _ _ _ _=>14-(intOf n).toNat)
   exact⟨0,by omega,rfl,bg⟩
   clear bg;obtain⟨q,hq,rfl,bg⟩:=hrel;by_cases eA:q<14
   ·
    have i3:(q:Int)<14:=by omega
    obtain⟨v,hv,hcv⟩:=pQ.out q eA;have Dz:=Hd hcv;have HV:=Hd hv;clear hcv hv;go_upto_region 15 with fail
    trace_state
    go_cut [8] (λ p wq=>Vt w2 p wq)
    case first =>
     refine nX (λ w'=>Below w2.heap.size w2 w') (by kernel_rfl) bg.drew ?_;intro cu
     (first|(refine tkn 0 rfl ?_)|(refine aT (v:=?_) 0 rfl ?_ ?_;rotate_left;focus(intro wS ah;skip;go_simp;first|done|with_reducible rfl)))
     (try simp only[Act.put,ssa,aq,ar])
     (first|(refine tkn 1 rfl ?_)|(refine aT (v:=?_) 1 rfl ?_ ?_;rotate_left;focus(intro wS ah;skip;go_simp;first|done|with_reducible rfl)))
     (try simp only[Act.put,ssa,aq,ar])
     (first|(refine tkn 2 rfl ?_)|(refine aT (v:=?_) 2 rfl ?_ ?_;rotate_left;focus(intro wS ah;skip;go_simp;first|done|with_reducible rfl)))
     (try simp only[Act.put,ssa,aq,ar])
     refine vG (v:=.agg (ai x).toList.toArray) 3 rfl (by kernel_rfl) (by kernel_rfl) (by kernel_rfl) (λ _ _ _ h=>h) (by rfl) cu (xI 32 (.tmp 76) rfl lb (k*12) rfl (ai x).toList _ pj.out cL rfl (eN x)) ?_
     (try simp only[Act.put,ssa,aq,ar])
     (first|(refine tkn 4 rfl ?_)|(refine aT (v:=?_) 4 rfl ?_ ?_;rotate_left;focus(intro wS ah;have cq:=Dz.out wS ah;go_simp;first|done|with_reducible rfl)))
     (try simp only[Act.put,ssa,aq,ar])
     (first|(refine tkn 5 rfl ?_)|(refine aT (v:=?_) 5 rfl ?_ ?_;rotate_left;focus(intro wS ah;have cq:=Dz.out wS ah;go_simp;first|done|with_reducible rfl)))
     (try simp only[Act.put,ssa,aq,ar])
     (first|(refine tkn 6 rfl ?_)|(refine aT (v:=?_) 6 rfl ?_ ?_;rotate_left;focus(intro wS ah;have cq:=Dz.out wS ah;go_simp;first|done|with_reducible rfl)))
     (try simp only[Act.put,ssa,aq,ar])
     (first|(refine tkn 7 rfl ?_)|(refine aT (v:=?_) 7 rfl ?_ ?_;rotate_left;focus(intro wS ah;have cq:=Dz.out wS ah;go_simp;first|done|with_reducible rfl)))
     (try simp only[Act.put,ssa,aq,ar])
     (first|(refine tkn 8 rfl ?_)|(refine aT (v:=?_) 8 rfl ?_ ?_;rotate_left;focus(intro wS ah;have cq:=Dz.out wS ah;go_simp;first|done|with_reducible rfl)))
     (try simp only[Act.put,ssa,aq,ar])
     clear bg;generalize wr.drew=wd at cu ⊢;have hsd:=cu.size;refine Ab 9 10 rfl rfl (by kernel_rfl) (by rfl) (by rfl) (λ K hK=>?_) (λ K hK=>?_)
     rotate_left
     focus
      go_simp
      have c5:=cu.alloc hsd (.cells (ai bM) 32);have k5:=heap_alloc_new wd (.cells (ai bM) 32);rw[<-mK];generalize wd.alloc (.cells (ai bM) 32)=w5 at c5 k5 ⊢;have g5:=(Array.getElem?_eq_some_iff.1 k5).1;refine hK.out _ _ (by assumption) ?_;clear hK K
      (try simp only[Act.put,ssa,aq,ar])
      refine dL 9 rfl (by kernel_rfl) (by rfl) (λ K hK=>?_);go_simp
      refine(KB x j v w5 (qx.out w5 c5) rP.out xY.out Vu HV.out).mono ?_;rintro e w6 ⟨z,rfl,hz,DA,bg⟩;have S6:=c5.trans (bg.mono c5.size);have k6:=(bg.block _ g5).trans k5;have HZ:=Hd (show ∀w',w6.grownBy w' (some wd.heap.size)->fG w' w'.heap.size z from λ w' hg=>(hz.gr hg (by omega)).sub);have jN:=hsd;generalize wd.heap.size=gd at k6 HZ jN ⊢;clear c5 k5 g5 hz bg cu hsd;refine hK.out _ _ (by assumption) ?_;clear hK K
      (try simp only[Act.put,ssa,aq,ar])
     rotate_left
     focus
      go_simp
      refine(KB x j v wd (qx.out wd cu) rP.out xY.out Vu HV.out).mono ?_;rintro e w5 ⟨z,rfl,hz,DA,ak⟩;have S5:=cu.trans (ak.mono hsd);refine hK.out _ _ (by assumption) ?_;clear hK K
      (try simp only[Act.put,ssa,aq,ar])
      refine dL 10 rfl (by kernel_rfl) (by rfl) (λ K hK=>?_);go_simp
      have S6:=S5.alloc S5.size (.cells (ai bM) 32);have k6:=heap_alloc_new w5 (.cells (ai bM) 32);have ii:=(aj w5.heap.size w5).alloc (aa _) (.cells (ai bM) 32);have HZ:=Hd (show ∀w',(w5.alloc (.cells (ai bM) 32)).grownBy w' (some w5.heap.size)->fG w' w'.heap.size z from λ w' hg=>(hz.below (ii.grown hg ii.size (λ k hk=>by cases hk;exact aa _))).sub);rw[<-mK];generalize w5.alloc (.cells (ai bM) 32)=w6 at S6 k6 HZ ⊢;have jN:=S5.size;generalize w5.heap.size=gd at k6 HZ jN ⊢;clear ii hz ak S5 cu hsd;refine hK.out _ _ (by assumption) ?_;clear hK K
      (try simp only[Act.put,ssa,aq,ar])
     all_goals
      refine dL 11 rfl (by kernel_rfl) (by rfl) (λ K hK=>?_);refine wp_store_row 32 (.tmp 8) (.tmp 83) rfl gd (ai z) rfl (by first|rfl|simp) 32 _ k6 (fD z) rfl (gB z) ?_;have hE:=adC k6 jN HZ.out DA S6;have hS7:=(show Below w2.heap.size w2 (w6.setRow gd (ai z))from hE.choose_spec.choose_spec.2.2.2.2);refine hK.out _ _ (by assumption) ?_;clear hK K
      (try simp only[Act.put,ssa,aq,ar])
      refine wpAnyH_done (by kernel_rfl) ?_ _;have HE:=Hd hE;clear hE;go_wp2_with fail
      go_meet
      exact HE.out
    clear bg;obtain⟨g,z,rfl,hkz,hz,hfz,hG⟩:=hcut;have hgz:=(Array.getElem?_eq_some_iff.1 hkz).1;have bP:=hG.size;obtain⟨⟨cs,er⟩,py⟩:∃r,eM z.plain=r:=⟨_,rfl⟩;obtain⟨rz,hrz⟩:∃r,fx z.plain=r:=⟨_,rfl⟩;have wQ:=Hd (show ∀w',Below wc.heap.size wc w'->w'.rangeAt g 0 (ai z).toList from λ w' h=>eK ((h.block g hgz).trans hkz));have HZ:=Hd (show ∀w',Below wc.heap.size wc w'->fG w' w'.heap.size z from λ w' h=>nZ (nj hz h (aa _)) h.size);have A9:=Hd hfz;have A3:=Hd py;have ux:=Hd hrz;have aY:=wQ.out wc (aj _ _);clear hkz hz hfz py hrz hgz;go_wp2_with (refine wpList_load_mid rfl 32 (.tmp 8) rfl g 0 rfl _ _ aY cL rfl (eN z) ?_)
    refine(zI z wc (HZ.out wc (aj _ _)) A9.out _ er A3.out).mono ?_;rintro e w5 ⟨a5,c5,rfl,Fq,tK,_,_,ak⟩;have KH:=Hd (show ∀w',Below w5.heap.size w5 w'->BytesIn w' w'.heap.size a5 cs from λ w' h=>(Fq.below h (aa _)).mono h.size);have aY:=wQ.out w5 ak;have ik:=ak.size;clear Fq;go_wp2_with (refine wpList_load_mid rfl 32 (.tmp 8) rfl g 0 rfl _ _ aY cL rfl (eN z) ?_)
    refine(Jc z w5 (HZ.out w5 ak) A9.out _ er A3.out).mono ?_;rintro e w6 ⟨a6,c6,rfl,hc6,p7,_,_,bg⟩;have m7:=bg.size;have HC6:=Hd (show ∀w',Below w6.heap.size w6 w'->BytesIn w' w'.heap.size a6 cs from λ w' h=>(hc6.below h (aa _)).mono h.size);have oM:=ak.trans (bg.mono ik);have KH:=Hd (show ∀w',Below w6.heap.size w6 w'->BytesIn w' w'.heap.size a5 cs from λ w' h=>KH.out w' (bg.trans (h.mono m7)));have wQ:=Hd (show ∀w',Below w6.heap.size w6 w'->w'.rangeAt g 0 (ai z).toList from λ w' h=>wQ.out w' (oM.trans (h.mono oM.size)));have HZ:=Hd (show ∀w',Below w6.heap.size w6 w'->fG w' w'.heap.size z from λ w' h=>HZ.out w' (oM.trans (h.mono oM.size)));have rp:=Hd (show ∀w',Below w6.heap.size w6 w'->Below w2.heap.size w2 w' from λ w' h=>hG.trans ((oM.trans (h.mono oM.size)).mono bP));clear hc6 ak bg ik m7 oM bP hG aY;have dC:=U9 A3.out;go_upto_region 18 with fail
    refine nX (λ w'=>Below w6.heap.size w6 w') (by kernel_rfl) (aj _ _).drew ?_;intro cu
    (first|(refine tkn 0 rfl ?_)|(refine aT (v:=?_) 0 rfl ?_ ?_;rotate_left;focus(intro wS ah;skip;go_simp;first|done|with_reducible rfl)))
    (try simp only[Act.put,ssa,aq,ar])
    (first|(refine tkn 1 rfl ?_)|(refine aT (v:=?_) 1 rfl ?_ ?_;rotate_left;focus(intro wS ah;skip;go_simp;first|done|with_reducible rfl)))
    (try simp only[Act.put,ssa,aq,ar])
    (first|(refine tkn 2 rfl ?_)|(refine aT (v:=?_) 2 rfl ?_ ?_;rotate_left;focus(intro wS ah;skip;go_simp;first|done|with_reducible rfl)))
    (try simp only[Act.put,ssa,aq,ar])
    (first|(refine tkn 3 rfl ?_)|(refine aT (v:=?_) 3 rfl ?_ ?_;rotate_left;focus(intro wS ah;skip;go_simp;first|done|with_reducible rfl)))
    (try simp only[Act.put,ssa,aq,ar])
    (first|(refine tkn 4 rfl ?_)|(refine aT (v:=?_) 4 rfl ?_ ?_;rotate_left;focus(intro wS ah;skip;go_simp;first|done|with_reducible rfl)))
    (try simp only[Act.put,ssa,aq,ar])
    (first|(refine tkn 5 rfl ?_)|(refine aT (v:=?_) 5 rfl ?_ ?_;rotate_left;focus(intro wS ah;skip;go_simp;first|done|with_reducible rfl)))
    (try simp only[Act.put,ssa,aq,ar])
    generalize w6.drew=KI at cu ⊢;refine dL 6 rfl (by kernel_rfl) (by rfl) (λ K hK=>?_);go_simp
    refine(DR a5 cs.length c5 a6 cs.length c6 cs KI rfl rfl (KH.out KI cu) (HC6.out KI cu) (by omega)).mono ?_;rintro e w7 ⟨rfl,eV⟩;have S7:=cu.trans (eV.mono cu.size);clear eV;refine hK.out _ _ (by assumption) ?_;clear hK K
    (try simp only[Act.put,ssa,aq,ar])
    (first|(refine tkn 7 rfl ?_)|(refine aT (v:=?_) 7 rfl ?_ ?_;rotate_left;focus(intro wS ah;skip;go_simp;first|done|with_reducible rfl)))
    (try simp only[Act.put,ssa,aq,ar])
    (first|(refine tkn 8 rfl ?_)|(refine aT (v:=?_) 8 rfl ?_ ?_;rotate_left;focus(intro wS ah;skip;go_simp;first|done|with_reducible rfl)))
    (try simp only[Act.put,ssa,aq,ar])
    (first|(refine tkn 9 rfl ?_)|(refine aT (v:=?_) 9 rfl ?_ ?_;rotate_left;focus(intro wS ah;skip;go_simp;first|done|with_reducible rfl)))
    (try simp only[Act.put,ssa,aq,ar])
    refine vG (v:=.agg (ai z).toList.toArray) 10 rfl (by kernel_rfl) (by kernel_rfl) (by kernel_rfl) (λ _ _ _ h=>h) (by rfl) (by assumption) (xI 32 (.tmp 8) rfl g 0 rfl (ai z).toList _ wQ.out cL rfl (eN z)) ?_
    (try simp only[Act.put,ssa,aq,ar])
    refine vG (v:=.agg (ai z).toList.toArray) 12 rfl (by kernel_rfl) (by kernel_rfl) (by kernel_rfl) (λ _ _ _ h=>h) (by rfl) (by assumption) (xI 32 (.tmp 8) rfl g 0 rfl (ai z).toList _ wQ.out cL rfl (eN z)) ?_
    (try simp only[Act.put,ssa,aq,ar])
    refine dL 11 rfl (by kernel_rfl) (by rfl) (λ K hK=>?_);go_simp
    refine(BH z w7 (HZ.out w7 S7) A9.out rz ux.out).mono ?_;rintro e w8 ⟨rfl,fj⟩;have S8:=S7.trans (fj.mono S7.size);clear fj;refine hK.out _ _ (by assumption) ?_;clear hK K
    (try simp only[Act.put,ssa,aq,ar])
    refine dL 13 rfl (by kernel_rfl) (by rfl) (λ K hK=>?_);go_simp
    refine(PZ z w8 (HZ.out w8 S8) A9.out rz ux.out).mono ?_;rintro e w9 ⟨rfl,iA⟩;have S9:=S8.trans (iA.mono S8.size);clear iA;refine hK.out _ _ (by assumption) ?_;clear hK K
    (try simp only[Act.put,ssa,aq,ar])
    (first|(refine tkn 14 rfl ?_)|(refine aT (v:=?_) 14 rfl ?_ ?_;rotate_left;focus(intro wS ah;skip;go_simp;first|done|with_reducible rfl)))
    (try simp only[Act.put,ssa,aq,ar])
    (first|(refine tkn 15 rfl ?_)|(refine aT (v:=?_) 15 rfl ?_ ?_;rotate_left;focus(intro wS ah;skip;go_simp;first|done|with_reducible rfl)))
    (try simp only[Act.put,ssa,aq,ar])
    refine wpAnyH_done (by kernel_rfl) ?_ _;go_wp2_with fail
    go_roundw
    exact⟨q+1,by omega,by go_num,rp.out w9 S9⟩
    simp[intOf];omega
   obtain rfl:q=14:=by omega
   go_wp2_with fail
   go_roundw
   exact⟨j+1,by omega,by go_num,bg⟩
   simp[intOf];omega
  have i2:¬(j:Int)<17:=by omega
  go_wp2_with fail
  go_loopw [13,14,15,16,17] (λ n _ _ _ _ wr=>∃q:Nat,q<=bs.length/\n=.int .i64 q/\Below w2.heap.size w2 wr) (λ n _ _ _ _ _=>bs.length-(intOf n).toNat)
  exact⟨0,by omega,rfl,bg⟩
  clear bg;obtain⟨q,hq,rfl,bg⟩:=hrel;by_cases eA:q<bs.length
  ·
   have i3:(q:Int)<bs.length:=by omega
   have m7:=bg.size;have rp:=Hd bg;have m6:bs[q]?=some (bs[q]'eA):=bu _;have hxb:=mF.out _ (mC (l:=bs) (n:=q) eA);generalize bs[q]'eA=y at m6 hxb;have HX0:=Hd m6;have nx:=u8_xor hxb;have Vv:=Hd nx;clear m6 nx;go_wp2_with fail
   refine(EP a bs.length c bs wr wr.heap.size rfl (zZ.out wr bg) (aa _) jv.out (by omega)).mono ?_;rintro e w9 ⟨a9,c9,rfl,jY,iA⟩;have KJ:=bg.trans (iA.mono m7);obtain⟨g9,c9',CY⟩:=Pl jY (by omega);cases CY
   have hc9:w9.cell? ⟨g9,q,none⟩=some (.int .u8 y):=by
    rw[ay jY q (by omega),List.getElem?_map,HX0.out];rfl
   have hf9:w9.frozen? ⟨g9,q,none⟩=false:=cO jY _;have aP:=cU jY q (.int .u8 ((y+1) % 256));rw[show (.int .u8 ((y+1) % 256):Value)=bv ((y+1) % 256)from rfl,<-List.map_set]at aP;have pS:=KJ.grown aP.2 KJ.size (λ k hk=>by cases hk;have:=(jY.lt g9 rfl).1;omega);have pT:=Hd aP.1;have tT:=Hd pS;rw[show bv ((y+1) % 256)=.int .u8 ((y+1) % 256)from rfl]at pT tT;clear jY aP pS iA KJ;go_upto_region 25 with fail
   have mc:0<=(y+1) % 256/\(y+1) % 256<256:=by omega
   clear hc9 hf9;generalize (y+1) % 256=y1 at mc pT tT ⊢;generalize w9.setCell ⟨g9,q,none⟩ (.int .u8 y1)=fy at pT tT ⊢;have xq:=tT.out.size;have De:=(pT.out.lt g9 rfl).2;go_wp2_with fail
   refine(EP a bs.length c bs fy fy.heap.size rfl (zZ.out fy tT.out) (aa _) jv.out (by omega)).mono ?_;rintro e nh ⟨a11,c11,rfl,za,nr⟩;have pT:=Hd (own_below pT.out nr (aa _));have KK:=tT.out.trans (nr.mono xq);obtain⟨g11,c11',adI⟩:=Pl za (by omega);cases adI
   have adJ:nh.cell? ⟨g11,q,none⟩=some (.int .u8 y):=by
    rw[ay za q (by omega),List.getElem?_map,HX0.out];rfl
   have adK:nh.frozen? ⟨g11,q,none⟩=false:=cO za _;have aP:=cU za q (.int .u8 (bits .xor .u8 y 128));rw[show (.int .u8 (bits .xor .u8 y 128):Value)=bv (bits .xor .u8 y 128)from rfl,<-List.map_set]at aP;have ns:=KK.grown aP.2 KK.size (λ k hk=>by cases hk;have:=(za.lt g11 rfl).1;omega);have tV:=Hd aP.1;have pT:=Hd (pT.out.kept aP.2 (Or.inr λ e=>by have h2:=(jb za g11 rfl).1;have h3:g9=g11:=vj e;omega));have zb:=Hd ns;rw[show bv (bits .xor .u8 y 128)=.int .u8 (bits .xor .u8 y 128)from rfl]at pT tV zb;clear za aP nr ns KK;go_upto_region 27 with fail
   have me:=Vv.out;clear adJ adK;generalize bits .xor .u8 y 128=y2 at me pT tV zb ⊢;generalize nh.setCell ⟨g11,q,none⟩ (.int .u8 y2)=eB at pT tV zb ⊢;obtain⟨pp,ip⟩:∃pp,gT (bs.take q)=(pp,4):=⟨_,Prod.ext rfl (adE.out q eA)⟩;have xG:=Hd ip;have yq:=zb.out.size;clear ip HX0 Vv rp tT xq De;go_wp2_with fail
   refine(EK a q c (bs.take q) eB (pp,4) xG.out (by rw[List.length_take];omega) ((zZ.out eB zb.out).take q) (mF.out.take q) jv.out (by omega) (by omega)).mono ?_;rintro e qL ⟨xx,rfl,_,_,_,mU⟩;have KL:=zb.out.trans (mU.mono yq);have dm:=heap_alloc_new qL (.cells (ai bM) 32);rw[mK]at dm;have nt:=mU.alloc mU.size (.cells (ai xx) 32);have Vw:=KL.alloc KL.size (.cells (ai xx) 32);have pT:=Hd (own_below pT.out nt (aa _));have tV:=Hd (own_below tV.out nt (aa _));have KM:=Hd Vw;clear KL mU nt Vw zb;go_upto_region 28 with (refine wpList_store_row rfl 32 (.tmp 16) (.tmp 141) rfl qL.heap.size (ai xx) rfl (by first|rfl|simp) 32 _ dm (fD xx) rfl (gB xx) ?_;rw[World.setRow_alloc_new])
   clear dm;generalize qL.alloc (.cells (ai xx) 32)=la at pT tV KM ⊢;have Vx:=KM.out.size;have hsl1:(bs.set q y1).length=bs.length:=List.length_set;have hsl2:(bs.set q y2).length=bs.length:=List.length_set;go_wp2_with fail
   refine(Fh la (some ⟨g9,0,none⟩) bs.length c9 (bs.set q y1) la.heap.size hsl1 (wA hsl1 pT.out) (aa _) (wf_set mF.out mc) (λ h=>by cases h) (mp pT.out)).mono ?_;rintro e nl ⟨rfl,pl⟩;have tV:=Hd (own_below tV.out pl (aa _));have Vy:=KM.out.trans (pl.mono Vx);have Vz:=Vy.size;clear pl;go_wp2_with fail
   refine(Fh nl (some ⟨g11,0,none⟩) bs.length c11 (bs.set q y2) nl.heap.size hsl2 (wA hsl2 tV.out) (aa _) (wf_set mF.out me) (λ h=>by cases h) (mp tV.out)).mono ?_;rintro e w16 ⟨rfl,po⟩;have adL:=Vy.trans (po.mono Vz);clear po;go_wp2_with fail
   go_roundw
   exact⟨q+1,by omega,by go_num,adL⟩
   simp[intOf];omega
  obtain rfl:q=bs.length:=by omega
  go_wp2_with fail
  go_roundw
  exact⟨k+1,by omega,by go_num,HB.out.trans (bg.mono HB.out.size)⟩
  simp[intOf];omega
 have i1:¬(k:Int)<6:=by omega
 obtain⟨v0,rfl⟩:∃v:World,v=wr:=⟨_,rfl⟩;have hfa:=A8.out.grow hb;have hs:=hb.size;have aY:=hfa.rng 2 (by omega);have dm:=heap_alloc_new v0 (.cells (ai bM) 32);rw[mK]at dm;obtain⟨x2,eR⟩:∃x,L 2=x:=⟨_,rfl⟩;have hf2:=HX.out.fine 2 (by omega);have KN:=hfa.sub 2 (by omega);rw[eR]at aY hf2 KN;go_upto_region 31 with (first|(refine wpList_load_mid rfl 32 (.tmp 156) rfl lb 24 rfl _ _ aY cL rfl (eN x2) ?_)|(refine wpList_store_row rfl 32 (.tmp 18) (.tmp 157) rfl v0.heap.size (ai x2) rfl (by first|rfl|simp) 32 _ dm (fD x2) rfl (gB x2) ?_;rw[World.setRow_alloc_new]))
 have hbv:=(aj v0.heap.size v0).alloc (aa _) (.cells (ai x2) 32);have hkm:=heap_alloc_new v0 (.cells (ai x2) 32);have hmk:∀w,(Instr.makeSlice 30 (.int .i64 16) (.int .i64 16)).run prog w=.ok (.slice (some ⟨w.heap.size,0,none⟩) 16 16) (w.alloc (.cells (madeCells #[.int .i64 0,.int .u8 0,.int .i64 0,.int .i64 0,.int .u8 0,.string ByteArray.empty,.slice none 0 0,.int .i64 0,.slice none 0 0] 144) 46)):=λ w=>Cx (P:=prog) 30 46 (.agg #[.int .i64 0,.int .u8 0,.int .i64 0,.int .i64 0,.int .u8 0,.string ByteArray.empty,.slice none 0 0,.int .i64 0,.slice none 0 0]) 9 112 rc tX .i64 .i64 16 (by omega) (by omega) w
 have VA:madeCells #[.int .i64 0,.int .u8 0,.int .i64 0,.int .i64 0,.int .u8 0,.string ByteArray.empty,.slice none 0 0,.int .i64 0,.slice none 0 0] 144=((ox 0).flatMap bW).toArray:=by kernel_rfl
 have VB:=Hd VA;have H2:=Hd eR;have iN:=Hd hf2;have adM:=Hd KN;clear dm aY eR hf2 KN VA;obtain⟨gm,hgm⟩:∃g,v0.heap.size=g:=⟨_,rfl⟩;rw[hgm]at hkm ⊢;generalize v0.alloc (.cells (ai x2) 32)=v1 at hbv hkm ⊢;have cw:=(Array.getElem?_eq_some_iff.1 hkm).1;have c9:∀o,(v1.alloc o).cell? ⟨gm,9,none⟩=some (.slice x2.eo x2.es.length x2.ey):=λ o=>ab (iC hkm o) 9
 have u9:∀o,(v1.alloc o).frozen? ⟨gm,9,none⟩=false:=λ o=>aO (iC hkm o) 9
 go_upto_region 32 with fail
 clear c9 u9 hmk;rw[VB.out];have hH:v0.heap.size<=gm:=pJ hgm;have iU:=Dv hkm 9 (.slice (some ⟨v1.heap.size,0,none⟩) 16 16) (show _=ai (qS x2 v1.heap.size)from rfl);have bS:=hbv.setCell (p:=⟨gm,9,none⟩) hH (.slice (some ⟨v1.heap.size,0,none⟩) 16 16);have kS:(v1.setCell ⟨gm,9,none⟩ (.slice (some ⟨v1.heap.size,0,none⟩) 16 16)).heap.size=v1.heap.size:=by simp
 have hm1:=hbv.size;generalize v1.setCell ⟨gm,9,none⟩ (.slice (some ⟨v1.heap.size,0,none⟩) 16 16)=va at iU bS kS ⊢;have kg:=new7 (o:=.cells ((ox 0).flatMap bW).toArray 46) kS.symm;have iG:=bS.alloc bS.size (.cells ((ox 0).flatMap bW).toArray 46);have lC:=iC iU (.cells ((ox 0).flatMap bW).toArray 46);generalize va.alloc (.cells ((ox 0).flatMap bW).toArray 46)=vb2 at kg iG lC ⊢;generalize v1.heap.size=mb at kg lC cw hm1 ⊢;clear hgm hkm hbv iU bS kS VB;go_wp2_with fail
 go_loopw [19] (λ i wr=>∃q:Nat,q<=16/\i=.int .i64 q/\wr.heap[gm]?=some (.cells (ai (qS x2 mb)) 32 (0,0))/\wr.heap[mb]?=some (.cells ((ox q).flatMap bW).toArray 46 (0,0))/\Below v0.heap.size v0 wr) (λ i _=>16-(intOf i).toNat)
 exact⟨0,by omega,rfl,lC,kg,iG⟩
 clear lC kg iG;obtain⟨q,hq,rfl,lC,kg,iG⟩:=hrel;have sn:=Hd lC;have jZ:=Hd kg;by_cases eA:q<16
 ·
  have i2:(q:Int)<16:=by omega
  have c9:wr.cell? ⟨gm,9,none⟩=some (.slice (some ⟨mb,0,none⟩) 16 16):=ab lC 9;have cq:=ab kg (q*9+1);have uq:=aO kg (q*9+1);rw[show ((ox q).flatMap bW).toArray[q*9+1]?=some ((((ox q).flatMap bW).toArray)[q*9+1]'(by rw[List.size_toArray,nT mh];simp[ox];omega))from Array.getElem?_eq_getElem _]at cq;generalize (((ox q).flatMap bW).toArray)[q*9+1]'_=old at cq;clear lC kg;go_wp2_with fail
  go_roundw
  exact⟨q+1,by omega,by go_num,Ky sn.out (by omega) _ _,Dv jZ.out _ _ (adu q eA),iG.setCell (p:=⟨mb,_,none⟩) (by omega) _⟩
  simp[intOf];omega
 obtain rfl:q=16:=by omega
 obtain⟨v5,rfl⟩:∃v:World,v=wr:=⟨_,rfl⟩;have ik:=iG.size;have VC:=adw kg (nZ (nj adM.out iG (aa _)) ik);have A1:=Hd (show ∀w',Below v5.heap.size v5 w'->fG w' w'.heap.size (qS x2 mb)from λ w' h=>nZ (nj VC h (aa _)) h.size);have VD:=Hd (adr iN.out mb);have pZ:=(Array.getElem?_eq_some_iff.1 lC).1;have VE:=Hd (show ∀w',Below v5.heap.size v5 w'->w'.rangeAt gm 0 (ai (qS x2 mb)).toList from λ w' h=>eK ((h.block _ pZ).trans lC))
 have VF:(qS x2 mb).es.length<=100/\(qS x2 mb).vs.length<=100/\(qS x2 mb).im.length<=100:=by
  have h:=(HX.out.right 2 (by omega)).2.2;rw[H2.out]at h;exact⟨ble rfl,h.2⟩
 have aY:=VE.out v5 (aj _ _);have Fr:=hfa.grow (iG);obtain⟨x4,hx4⟩:∃x,L 4=x:=⟨_,rfl⟩;have eJ:=Hd (hx4▸HX.out.fine 4 (by omega));have VG:=hx4▸Fr.sub 4 (by omega);have hr4:=hx4▸Fr.rng 4 (by omega);have gZ:=hx4▸HX.out.wide;have mj:=Hd gZ;have pw:=Fr.lt;have VH:=Hd (show ∀w',Below v5.heap.size v5 w'->fG w' w'.heap.size x4 from λ w' h=>nZ (nj VG h (aa _)) h.size);have HR4:=Hd (show ∀w',Below v5.heap.size v5 w'->w'.rangeAt lb 48 (ai x4).toList from λ w' h j v hv=>(h.cell (p:=⟨lb,_,none⟩) pw).trans (hr4 j v hv));have oc:=Hd iG;clear kg lC VC Fr hx4 VG hr4 gZ iG sn jZ hfa;go_wp2_with (refine wpList_load_mid rfl 32 (.tmp 18) rfl gm 0 rfl _ _ aY cL rfl (eN (qS x2 mb)) ?_)
 refine(KB (qS x2 mb) 11 0 v5 (A1.out v5 (aj _ _)) VD.out VF (by omega) ⟨by omega,by omega⟩).mono ?_;rintro e v6 ⟨z,rfl,hz,DA,bg⟩;have dm:=heap_alloc_new v6 (.cells (ai bM) 32);rw[mK]at dm;have bP:=hz.sub;clear aY VF hz;go_upto_region 37 with (refine wpList_store_row rfl 32 (.tmp 20) (.tmp 170) rfl v6.heap.size (ai z) rfl (by first|rfl|simp) 32 _ dm (fD z) rfl (gB z) ?_;rw[World.setRow_alloc_new])
 have hkz:=heap_alloc_new v6 (.cells (ai z) 32);have hG:=(aj v6.heap.size v6).alloc (aa _) (.cells (ai z) 32);have bP:=nZ (nj bP hG (aa _)) hG.size;have eV:=bg.trans (hG.mono bg.size);clear dm hG;obtain⟨gz,hgz⟩:∃g,v6.heap.size=g:=⟨_,rfl⟩;rw[hgz]at hkz ⊢;generalize v6.alloc (.cells (ai z) 32)=v7 at hkz bP eV ⊢;clear hgz bg;have adN:=(Array.getElem?_eq_some_iff.1 hkz).1;have wQ:=Hd (show ∀w',Below v7.heap.size v7 w'->w'.rangeAt gz 0 (ai z).toList from λ w' h=>eK ((h.block _ adN).trans hkz));have cH:=Hd (show ∀w',Below v7.heap.size v7 w'->fG w' w'.heap.size z from λ w' h=>nZ (nj bP h (aa _)) h.size);have A9:=Hd DA;have aY:=HR4.out v7 eV;have dm:=heap_alloc_new v7 (.cells (ai bM) 32);rw[mK]at dm;clear hkz bP DA;go_upto_region 38 with (first|(refine wpList_load_mid rfl 32 (.tmp 172) rfl lb 48 rfl _ _ aY cL rfl (eN x4) ?_)|(refine wpList_store_row rfl 32 (.tmp 21) (.tmp 173) rfl v7.heap.size (ai x4) rfl (by first|rfl|simp) 32 _ dm (fD x4) rfl (gB x4) ?_;rw[World.setRow_alloc_new]))
 have mZ:=heap_alloc_new v7 (.cells (ai x4) 32);have fj:=(aj v7.heap.size v7).alloc (aa _) (.cells (ai x4) 32);clear dm aY;obtain⟨gw,cN⟩:∃g,v7.heap.size=g:=⟨_,rfl⟩;have CT:v7.heap.size<=gw:=pJ cN;rw[cN]at mZ ⊢;generalize v7.alloc (.cells (ai x4) 32)=v8 at mZ fj ⊢;clear cN;have adO:=(Array.getElem?_eq_some_iff.1 mZ).1;have hmk:∀w,(Instr.makeSlice 25 (.int .i64 1048518) (.int .i64 1048518)).run prog w=.ok (.slice (some ⟨w.heap.size,0,none⟩) 1048518 1048518) (w.alloc (.cells (madeCells #[.int .u8 0] 1048518) 5)):=λ w=>run_make_row' (P:=prog) 25 5 (.int .u8 0) 1 hJ infoByte rfl .i64 .i64 1048518 (by omega) (by omega) w
 have c11:∀o,(v8.alloc o).cell? ⟨gw,11,none⟩=some (.slice x4.io x4.im.length x4.fi):=λ o=>ab (iC mZ o) 11
 have u11:∀o,(v8.alloc o).frozen? ⟨gw,11,none⟩=false:=λ o=>aO (iC mZ o) 11
 go_upto_region 39 with fail
 clear c11 u11 hmk;have iU:=Dv mZ 11 (.slice (some ⟨v8.heap.size,0,none⟩) 1048518 1048518) (ady x4 _ _);have bS:=fj.setCell (p:=⟨gw,11,none⟩) CT (.slice (some ⟨v8.heap.size,0,none⟩) 1048518 1048518);have kS:(v8.setCell ⟨gw,11,none⟩ (.slice (some ⟨v8.heap.size,0,none⟩) 1048518 1048518)).heap.size=v8.heap.size:=by simp
 generalize v8.setCell ⟨gw,11,none⟩ (.slice (some ⟨v8.heap.size,0,none⟩) 1048518 1048518)=va at iU bS kS ⊢;have hki:=new7 (o:=.cells (madeCells #[.int .u8 0] 1048518) 5) kS.symm;have iA:=bS.alloc bS.size (.cells (madeCells #[.int .u8 0] 1048518) 5);have mZ:=iC iU (.cells (madeCells #[.int .u8 0] 1048518) 5);generalize va.alloc (.cells (madeCells #[.int .u8 0] 1048518) 5)=v9 at hki iA mZ ⊢;generalize v8.heap.size=ib at hki mZ ⊢;clear iU bS kS fj adO;have adP:=eV.trans (iA.mono eV.size);have eC:=VH.out v9 adP;have kU:fG v9 v9.heap.size (mY x4 ib 1048518):=⟨eC.1,eC.2.1,Vs (by omega) hki⟩;have hfw:=Vr eJ.out ib 1048518 (by omega);have hrw:=mj.out ib 1048518 (by omega);have hset:=λ b' n'=>adx x4 ib 1048518 b' n'
 have hil:(mY x4 ib 1048518).plain.im.length=1048518:=List.length_replicate;generalize mY x4 ib 1048518=y at mZ kU hfw hrw hset hil;obtain⟨bs,kx⟩:∃bs,ee y.plain=bs:=⟨_,rfl⟩;have iR:=hfw.bytes hrw.1;have hget:=L5 hrw.1 hfw.ok (by omega);have qm:=WX hrw.1 hfw.ok (more:=[0]) (by simp) (by simp);rw[kx]at iR hget qm hrw
 have py:eM y.plain=(bs,0):=by
  unfold eM;rw[if_neg (by rw[hrw.1];simp),if_neg (by rw[kx];omega),kx]
 have gL:=hrw.2;have KF:=Hd py;have mF:=Hd iR;have adQ:=Hd hget;have Hv:=Hd qm;have adR:=Hd hset;have HIL:=Hd hil;have xF:=Hd gL;have aY:=eK mZ;have adT:=(Array.getElem?_eq_some_iff.1 mZ).1;have VI:=Hd mZ;have iv:bs.length<=4000000/\0<bs.length:=by omega
 clear hki eC hset hil kx iR hget qm hrw py gL mZ;go_wp2_with (refine wpList_load_mid rfl 32 (.tmp 21) rfl gw 0 rfl _ _ aY cL rfl (eN y) ?_)
 refine(D9 y v9 kU hfw bs 0 KF.out).mono ?_;rintro e v10 ⟨a,c,rfl,dw,jQ,dg,_,hfr,_,pS⟩;have xq:=pS.size;have fm:=Kw hfr rfl (Or.inr iv.2);have tN:=Hd fm;clear aY hfr fm;go_wp2_with fail
 refine(EK a bs.length c bs v10 (y.plain,0) adQ.out rfl dw mF.out jQ dg (by omega)).mono ?_;rintro e v11 ⟨xx,rfl,hxp,hxf,hxo,nr⟩;have hxl:xx.im.length=1048518:=by have h:=congrArg (λ p=>p.im.length) hxp;exact h.trans HIL.out
 have HXL:=Hd hxl;have dm:=heap_alloc_new v11 (.cells (ai bM) 32);rw[mK]at dm;clear hxp hxf hxo hxl dw;go_upto_region 41 with (refine wpList_store_row rfl 32 (.tmp 24) (.tmp 184) rfl v11.heap.size (ai xx) rfl (by first|rfl|simp) 32 _ dm (fD xx) rfl (gB xx) ?_;rw[World.setRow_alloc_new])
 have aQ:=heap_alloc_new v11 (.cells (ai xx) 32);have ns:=(nr.alloc nr.size (.cells (ai xx) 32));have EW:=nr.size;clear dm nr;obtain⟨gx,hgx⟩:∃g,v11.heap.size=g:=⟨_,rfl⟩;have hgx2:v10.heap.size<=gx:=hgx▸EW;rw[hgx]at aQ ⊢;generalize v11.alloc (.cells (ai xx) 32)=v12 at aQ ns ⊢;clear hgx EW;have KO:=pS.trans (ns.mono xq);have mZ:=(KO.block gw adT).trans VI.out;have fm:=tN.out.below ns (aa _);have hh:=λ g hg=>(tN.out.lt g hg).2
 have HH:=Hd hh;clear hh tN VI;have hmk:∀w,(Instr.makeSlice 25 (.int .i64 1048519) (.int .i64 1048519)).run prog w=.ok (.slice (some ⟨w.heap.size,0,none⟩) 1048519 1048519) (w.alloc (.cells (madeCells #[.int .u8 0] 1048519) 5)):=λ w=>run_make_row' (P:=prog) 25 5 (.int .u8 0) 1 hJ infoByte rfl .i64 .i64 1048519 (by omega) (by omega) w
 have adW:=(Array.getElem?_eq_some_iff.1 mZ).1;have c11:∀o,(v12.alloc o).cell? ⟨gw,11,none⟩=some (.slice y.io y.im.length y.fi):=λ o=>ab (iC mZ o) 11
 have u11:∀o,(v12.alloc o).frozen? ⟨gw,11,none⟩=false:=λ o=>aO (iC mZ o) 11
 go_upto_region 42 with fail
 clear c11 u11 hmk;have iU:=Dv mZ 11 (.slice (some ⟨v12.heap.size,0,none⟩) 1048519 1048519) (adR.out _ _);have aQ:=Ky aQ (show gx≠gw by omega) 11 (.slice (some ⟨v12.heap.size,0,none⟩) 1048519 1048519);have bS:=(iA.trans (KO.mono iA.size)).setCell (p:=⟨gw,11,none⟩) CT (.slice (some ⟨v12.heap.size,0,none⟩) 1048519 1048519);have fm:=fm.kept (mX v12 gw 11 (.slice (some ⟨v12.heap.size,0,none⟩) 1048519 1048519)) (Or.inr λ e=>by have:=(fm.lt _ e).1;omega);have kS:(v12.setCell ⟨gw,11,none⟩ (.slice (some ⟨v12.heap.size,0,none⟩) 1048519 1048519)).heap.size=v12.heap.size:=by simp
 have yq:=ns.size;generalize v12.setCell ⟨gw,11,none⟩ (.slice (some ⟨v12.heap.size,0,none⟩) 1048519 1048519)=fR at iU aQ bS fm kS ⊢;have hki:=new7 (o:=.cells (madeCells #[.int .u8 0] 1048519) 5) kS.symm;have mU:=bS.alloc bS.size (.cells (madeCells #[.int .u8 0] 1048519) 5);have Fs:=iC iU (.cells (madeCells #[.int .u8 0] 1048519) 5);have aQ:=iC aQ (.cells (madeCells #[.int .u8 0] 1048519) 5);have fm:=fm.alloc (.cells (madeCells #[.int .u8 0] 1048519) 5);have KP:v12.heap.size<=(fR.alloc (.cells (madeCells #[.int .u8 0] 1048519) 5)).heap.size:=by simp;omega
 generalize fR.alloc (.cells (madeCells #[.int .u8 0] 1048519) 5)=v13 at hki mU Fs aQ fm KP ⊢;clear adW;generalize v12.heap.size=DB at hki Fs yq KP ⊢;have adX:=eV.trans (mU.mono eV.size);have eC:=VH.out v13 adX;have KQ:fG v13 v13.heap.size (mY x4 DB 1048519):=⟨eC.1,eC.2.1,Vs (by omega) hki⟩;have hfw2:=Vr eJ.out DB 1048519 (by omega);have hrw2:=mj.out DB 1048519 (by omega)
 have py:eM (mY x4 DB 1048519).plain=([],3):=by
  unfold eM;rw[if_neg (by rw[hrw2.1];simp),if_pos (by omega)]
 have VJ:=Hd py;have aY:=eK Fs;have fB:=Hd aQ;have tN:=Hd fm;have KR:=Hd mU;have afD:v10.heap.size<=v13.heap.size:=by omega
 clear mZ iU bS kS KO ns hki Fs aQ fm mU yq KP eC hrw2 py;generalize mY x4 DB 1048519=y2 at aY KQ hfw2 VJ;go_wp2_with (refine wpList_load_mid rfl 32 (.tmp 21) rfl gw 0 rfl _ _ aY cL rfl (eN y2) ?_)
 refine(zI y2 v13 KQ hfw2 [] 3 VJ.out).mono ?_;rintro e v14 ⟨a2,c2,rfl,_,_,_,_,nt⟩;have Vx:=nt.size;have aQ:=(nt.block gx (Array.getElem?_eq_some_iff.1 fB.out).1).trans fB.out;have fm:=(tN.out.below nt (aa _)).alloc (.cells #[.int .u8 0] 5);have aQ:=iC aQ (.cells #[.int .u8 0] 5);have DC:=(KR.out.trans (nt.mono KR.out.size));have DC:=DC.alloc DC.size (.cells #[.int .u8 0] 5);have hu:(v14.alloc (.cells #[.int .u8 0] 5)).cell? ⟨v14.heap.size,0,none⟩=some (.int .u8 0):=ab (heap_alloc_new v14 _) 0;clear aY KQ hfw2 fB tN KR;go_wp2_with (at_builtin;refine adt rfl (.tmp 194) (.tmp 195) rfl rfl fm iv.2 HH.out ⟨v14.heap.size,0,none⟩ 0 rfl hu iv.1 ?_)
 intro a5 c5 v15 dw tK Fq Vz DH ag;have cw:=(Array.getElem?_eq_some_iff.1 aQ).1;have aQ:=(DH gx (Or.inr hgx2) (by simpa using cw)).trans aQ;have KS:=DC.trans (ag.mono (iA.size));obtain⟨pp,ip⟩:∃pp,gT (bs++[0])=(pp,4):=⟨_,Prod.ext rfl Hv.out⟩;have xG:=Hd ip;have fB:=Hd aQ;clear fm hu DH ag aQ ip cw;go_wp2_with fail
 refine(EK a5 (bs.length+1) c5 (bs++[0]) v15 (pp,4) xG.out (by simp) dw (mF.out.app (λ v hv=>by rw[List.mem_singleton.1 hv];exact⟨by decide,by decide⟩)) tK Fq (by omega)).mono ?_;rintro e v16 ⟨xz,rfl,_,_,_,po⟩;have dm:=heap_alloc_new v16 (.cells (ai bM) 32);rw[mK]at dm;go_upto_region 44 with (refine wpList_store_row rfl 32 (.tmp 28) (.tmp 198) rfl v16.heap.size (ai xz) rfl (by first|rfl|simp) 32 _ dm (fD xz) rfl (gB xz) ?_;rw[World.setRow_alloc_new])
 have oh:=po.alloc po.size (.cells (ai xz) 32);have aQ:=(oh.block gx (Array.getElem?_eq_some_iff.1 fB.out).1).trans fB.out;have DD:=KS.trans (oh.mono KS.size);clear dm po oh DC KS dw;generalize v16.alloc (.cells (ai xz) 32)=v17 at aQ DD ⊢;have DE:=eV.trans (DD.mono eV.size);have aY:=VE.out v17 DE;have fB:=Hd aQ;clear aQ;go_wp2_with (refine wpList_load_mid rfl 32 (.tmp 18) rfl gm 0 rfl _ _ aY cL rfl (eN (qS x2 mb)) ?_)
 refine(Vb v17 (qS x2 mb) v17.heap.size (A1.out v17 DE) (aa _) VD.out.Vq).mono ?_;rintro e v18 ⟨rfl,qj⟩;have aQ:=(qj.block gx (Array.getElem?_eq_some_iff.1 fB.out).1).trans fB.out;have KT:=DE.trans (qj.mono DE.size);have KU:=DD.trans (qj.mono DD.size);have fB:=Hd aQ;have aY:=wQ.out v18 KU;clear qj aQ DE DD;go_wp2_with (refine tO (by rfl) 32 (.tmp 20) rfl gz 0 rfl _ _ aY cL rfl (eN z) ?_)
 refine(Vb v18 z v18.heap.size (cH.out v18 KU) (aa _) A9.out.Vq).mono ?_;rintro e v19 ⟨rfl,qQ⟩;have c11:v19.cell? ⟨gx,11,none⟩=some (.slice xx.io xx.im.length xx.fi):=ab ((qQ.block gx (Array.getElem?_eq_some_iff.1 fB.out).1).trans fB.out) 11;have VK:=KT.trans (qQ.mono KT.size);have gL:=xF.out;have hxl:=HXL.out;clear aY qQ KT KU;go_wp2_with fail
 refine(Fh v19 none 0 0 [] v19.heap.size rfl (Or.inl rfl) (aa _) (λ v h=>by cases h) (λ _=>rfl) (aa _)).mono ?_;rintro e v20 ⟨rfl,rE⟩;have VL:=VK.trans (rE.mono VK.size);clear c11 rE;go_wp2_with fail
 refine(Cp v20).mono ?_;rintro e v21 ⟨rfl,Fk⟩;have adY:=VL.trans (Fk.mono VL.size);go_wp2_with fail
 go_ret;have uK:=(am.trans (hb.mono am.size)).trans (oc.out.mono (am.trans (hb.mono am.size)).size);exact⟨rfl,uK.trans (adY.mono uK.size)⟩
end Go.Proofs.YtepdklfkegkojaaGreatDoor
