/- Parts of one proof. Conditions: as each says. -/
import Derived.Test.YtepdklfkegkojaaGreatDoorGLetterNumbers0
import Derived.Test.YtepdklfkegkojaaGreatDoorGLetterNumbers7
import Derived.Deep.DeepCutAuto
import Derived.Test.YtepdklfkegkojaaGreatDoorGLetterNumbers2
import Derived.Test.YtepdklfkegkojaaGreatDoorGLetterNumbers1
import Derived.Test.YtepdklfkegkojaaGreatDoorGLetterNumbers6
set_option linter.all false
set_option maxHeartbeats 16000000
set_option maxRecDepth 100000
namespace Go.Proofs.YtepdklfkegkojaaGreatDoor
open Go.Proofs.Tryz
open Go.RowKit
theorem Xs (l:Lt):(if l.kind=1 then(Value.agg #[.int .u8 l.kind,.int .i64 l.fr,.int .i64 l.tov,.int .i64 l.term,.int .i64 0,.int .i64 0,.bool l.ok,.int .i64 l.commit,.int .i64 l.round,.slice l.eo l.es.length l.ey,.slice l.vo l.vs.length l.ce,.slice l.io l.im.length l.fi],true)
   else if l.kind=2 then(.agg #[.int .u8 l.kind,.int .i64 l.fr,.int .i64 l.tov,.int .i64 l.term,.int .i64 l.index,.int .i64 l.was,.bool false,.int .i64 l.commit,.int .i64 l.round,.slice l.eo l.es.length l.ey,.slice l.vo l.vs.length l.ce,.slice l.io l.im.length l.fi],true)
   else if l.kind=3 then(.agg #[.int .u8 l.kind,.int .i64 l.fr,.int .i64 l.tov,.int .i64 l.term,.int .i64 0,.int .i64 0,.bool l.ok,.int .i64 0,.int .i64 0,.slice none 0 0,.slice l.vo l.vs.length l.ce,.slice l.io l.im.length l.fi],true)
   else if l.kind=5 then(.agg #[.int .u8 l.kind,.int .i64 l.fr,.int .i64 l.tov,.int .i64 l.term,.int .i64 0,.int .i64 0,.bool l.ok,.int .i64 l.commit,.int .i64 0,.slice l.eo l.es.length l.ey,.slice none 0 0,.slice none 0 0],true)
   else if l.kind=4 then(.agg #[.int .u8 l.kind,.int .i64 l.fr,.int .i64 l.tov,.int .i64 l.term,.int .i64 0,.int .i64 l.was,.bool false,.int .i64 l.commit,.int .i64 0,.slice l.eo l.es.length l.ey,.slice l.vo l.vs.length l.ce,.slice l.io l.im.length l.fi],true)
   else if l.kind=6 then(.agg #[.int .u8 l.kind,.int .i64 l.fr,.int .i64 l.tov,.int .i64 l.term,.int .i64 0,.int .i64 l.was,.bool l.ok,.int .i64 l.commit,.int .i64 0,.slice l.eo l.es.length l.ey,.slice l.vo l.vs.length l.ce,.slice l.io l.im.length l.fi],true)
   else(.agg #[.int .u8 l.kind,.int .i64 l.fr,.int .i64 l.tov,.int .i64 l.term,.int .i64 l.index,.int .i64 l.was,.bool l.ok,.int .i64 l.commit,.int .i64 l.round,.slice l.eo l.es.length l.ey,.slice l.vo l.vs.length l.ce,.slice l.io l.im.length l.fi],false))=(fA (vJ l).1,(vJ l).2):=by
 unfold vJ;repeat' split
 all_goals rfl
def q6 (l:cQ):Bool:=[l.term,l.was,l.index,l.commit,l.round].all hX
def pI (l:cQ):Bool:=q6 l && (qt l.es && (decide (l.vs.length=0) || kE l.vs))
theorem ut {l:cQ}(h:1<=l.fr/\l.fr<=9/\1<=l.tov/\l.tov<=9):fx l=(pI l && ((pG l).2 && xj (pG l).1)):=by
 unfold fx;rw[if_neg (by omega)];show (if pI l=false then false else _)=_;cases pI l<;>rfl
theorem uu {l:cQ}(h:l.fr<1∨9<l.fr∨l.tov<1∨9<l.tov):fx l=false:=by
 unfold fx;rw[if_pos h]
theorem BH (l:Lt)(w:World)(hx:fG w w.heap.size l)(hf:cy l)(g:Bool)(hg:fx l.plain=g) :
  Calls prog 6 #[fA l] w λ e w'=>e=.returned (.bool g)/\Below w.heap.size w w':=by
 obtain⟨P,hP⟩:=kp g;rw[hP]at hg ⊢;have Gh:=Hd (Xs l);have D4:=Hd (Xq l);obtain⟨x,MA⟩:∃x,(vJ l).1=x:=⟨_,rfl⟩;obtain⟨B,hB⟩:=kp (vJ l).2;rw[MA,hB]at Gh D4;have HG:=Hd hg;have HX:=Hd hx;have jC:=Hd hf;clear hx hf hg MA hB hP;obtain⟨kd,f,t,tm,ix,ws,ok,cm,rd,eo,es,ec,vo,vs,vc,io,ib,ic⟩:=l;obtain⟨OK,BG⟩:=kp ok;subst BG;obtain⟨en,kz⟩:∃en,es.length=en:=⟨_,rfl⟩;obtain⟨vn,bR⟩:∃vn,vs.length=vn:=⟨_,rfl⟩;obtain⟨im,him⟩:∃im,ib.length=im:=⟨_,rfl⟩;have vf:fA ⟨kd,f,t,tm,ix,ws,OK.1,cm,rd,eo,es,ec,vo,vs,vc,io,ib,ic⟩=.agg #[.int .u8 kd,.int .i64 f,.int .i64 t,.int .i64 tm,.int .i64 ix,.int .i64 ws,.bool OK.1,.int .i64 cm,.int .i64 rd,.slice eo en ec,.slice vo vn vc,.slice io im ic]:=by rw[<-kz,<-bR,<-him];rfl
 rw[vf];have hlf:=Gh.out;dsimp only at hlf;rw[kz,bR,him]at hlf;have MB:=Hd hlf;have kq:=Hd kz;have gl:=Hd bR;have BI:=Hd him;obtain⟨C,hC⟩:=kp (!pI (Lt.plain ⟨kd,f,t,tm,ix,ws,OK.1,cm,rd,eo,es,ec,vo,vs,vc,io,ib,ic⟩));have HC:=Hd hC;have hF:=(aj w.heap.size w).alloc (aa _) (.cells #[.int .u8 kd,.int .i64 f,.int .i64 t,.int .i64 tm,.int .i64 ix,.int .i64 ws,.bool OK.1,.int .i64 cm,.int .i64 rd,.slice eo en ec,.slice vo vn vc,.slice io im ic] 32);have aQ:=heap_alloc_new w (.cells #[.int .u8 kd,.int .i64 f,.int .i64 t,.int .i64 tm,.int .i64 ix,.int .i64 ws,.bool OK.1,.int .i64 cm,.int .i64 rd,.slice eo en ec,.slice vo vn vc,.slice io im ic] 32);have dz:(w.alloc (.cells #[.int .u8 kd,.int .i64 f,.int .i64 t,.int .i64 tm,.int .i64 ix,.int .i64 ws,.bool OK.1,.int .i64 cm,.int .i64 rd,.slice eo en ec,.slice vo vn vc,.slice io im ic] 32)).heap.size=w.heap.size+1:=by simp
 have qa:=Hd hF;have fB:=Hd aQ;have iL:=Hd dz;clear kz bR him hC hF aQ dz vf hlf Gh;go_enter func6,ntmps6
 by_cases f1:f<1
 ·
  have iH:=Hd (show P.1=false by rw[<-HG.out];exact uu (Or.inl f1));go_wp2_with fail
  go_ret;exact⟨by rw[iH.out];rfl,qa.out⟩
 by_cases f2:9<f
 ·
  have iH:=Hd (show P.1=false by rw[<-HG.out];exact uu (Or.inr (Or.inl f2)));go_wp2_with fail
  go_ret;exact⟨by rw[iH.out];rfl,qa.out⟩
 by_cases t1:t<1
 ·
  have iH:=Hd (show P.1=false by rw[<-HG.out];exact uu (Or.inr (Or.inr (Or.inl t1))));go_wp2_with fail
  go_ret;exact⟨by rw[iH.out];rfl,qa.out⟩
 by_cases t2:9<t
 ·
  have iH:=Hd (show P.1=false by rw[<-HG.out];exact uu (Or.inr (Or.inr (Or.inr t2))));go_wp2_with fail
  go_ret;exact⟨by rw[iH.out];rfl,qa.out⟩
 have aZ:=Hd (HG.out.symm.trans (ut (show 1<=f/\f<=9/\1<=t/\t<=9 by omega)));go_upto_region 3 with fail
 have hF:=qa.out;have aQ:=fB.out;have dz:=iL.out;clear qa fB iL HG;generalize w.alloc (.cells #[.int .u8 kd,.int .i64 f,.int .i64 t,.int .i64 tm,.int .i64 ix,.int .i64 ws,.bool OK.1,.int .i64 cm,.int .i64 rd,.slice eo en ec,.slice vo vn vc,.slice io im ic] 32)=w0 at hF aQ dz ⊢;have fu:=Hd (λ w' (h:Below (w.heap.size+1) w0 w') (i:Nat)=>(h.cell (p:=⟨w.heap.size,i,none⟩) (xu _)).trans (ab aQ i));have bo:w.heap.size+1<=w0.heap.size:=pJ dz.symm;clear aQ dz;go_cut [53] (λ c wq=>c=.bool C.1/\w.heap.size+1<=wq.heap.size/\Below (w.heap.size+1) w0 wq)
 case first =>
  have dl:=aj (w.heap.size+1) w0;have c3:w0.cell? ⟨w.heap.size,3,none⟩=some (.int .i64 tm):=fu.out _ dl 3;have c4:w0.cell? ⟨w.heap.size,4,none⟩=some (.int .i64 ix):=fu.out _ dl 4;have c5:w0.cell? ⟨w.heap.size,5,none⟩=some (.int .i64 ws):=fu.out _ dl 5;have c7:w0.cell? ⟨w.heap.size,7,none⟩=some (.int .i64 cm):=fu.out _ dl 7;have c8:w0.cell? ⟨w.heap.size,8,none⟩=some (.int .i64 rd):=fu.out _ dl 8;have bS:=(aj w0.heap.size w0).alloc (aa _) (.cells #[.int .i64 tm,.int .i64 ws,.int .i64 ix,.int .i64 cm,.int .i64 rd] 3);have tF:=Hd bS;clear bS dl;go_wp2_with fail
  obtain⟨PW,Gi⟩:=kp ([tm,ws,ix,cm,rd].all hX);have MC:=Hd Gi;refine(Mo (some ⟨w0.heap.size,0,none⟩) 5 5 [tm,ws,ix,cm,rd] (w0.alloc (.cells #[.int .i64 tm,.int .i64 ws,.int .i64 ix,.int .i64 cm,.int .i64 rd] 3)) (w0.heap.size+1) rfl (zE w0 [tm,ws,ix,cm,rd] _ rfl) (by decide) PW.1 Gi).mono ?_;clear Gi c3 c4 c5 c7 c8;rintro e wz ⟨rfl,rfl⟩;have hG:=(aj (w.heap.size+1) w0).trans (tF.out.mono (by omega));have bP:w.heap.size+1<=(w0.alloc (.cells #[.int .i64 tm,.int .i64 ws,.int .i64 ix,.int .i64 cm,.int .i64 rd] 3)).heap.size:=by simp;omega
  clear tF;generalize w0.alloc (.cells #[.int .i64 tm,.int .i64 ws,.int .i64 ix,.int .i64 cm,.int .i64 rd] 3)=wz at hG bP ⊢;cases hpw:PW.1 with
  | false =>
   have iS:=Hd (show C.1=true by
    rw[<-HC.out];have h1:=MC.out;rw[hpw]at h1;unfold pI q6 Lt.plain;dsimp only;rw[h1];rfl)
   clear hpw;go_wp2_with fail
   go_meet
   exact⟨by first|rfl|rw[iS.out],bP,hG⟩
  | true =>
   have hn1:=Hd (show q6 (Lt.plain ⟨kd,f,t,tm,ix,ws,OK.1,cm,rd,eo,es,ec,vo,vs,vc,io,ib,ic⟩)=true by
    have h1:=MC.out;rw[hpw]at h1;exact h1)
   have c9:wz.cell? ⟨w.heap.size,9,none⟩=some (.slice eo en ec):=fu.out _ hG 9;clear hpw;go_wp2_with fail
   obtain⟨PE,Gj⟩:=kp (qt (es.map En.plain));have rH:=Hd Gj;refine(Xo eo en ec es wz w.heap.size kq.out (HX.out.1.below iI (hF.trans (hG.mono (fU _))) (aa _)) (by omega) jC.out.es (by have:=jC.out.en;rw[<-kq.out];dsimp only at this;omega) PE.1 Gj).mono ?_;clear Gj c9;rintro e wy ⟨rfl,hby⟩;have zG:=hG.trans (hby.mono bP);have hsy:=aF bP hby.size;clear hby hG bP;cases m0:PE.1 with
   | false =>
    have iS:=Hd (show C.1=true by
     rw[<-HC.out];have h1:=rH.out;rw[m0]at h1;unfold pI;rw[hn1.out];unfold Lt.plain;dsimp only;rw[h1];rfl)
    clear m0;go_wp2_with fail
    go_meet
    exact⟨by first|rfl|rw[iS.out],hsy,zG⟩
   | true =>
    have c10:wy.cell? ⟨w.heap.size,10,none⟩=some (.slice vo vn vc):=fu.out _ zG 10
    have hcv:=Hd (show C.1=!(decide (vn=0) || kE vs) by
     rw[<-HC.out,<-gl.out];have h1:=rH.out;rw[m0]at h1;unfold pI;rw[hn1.out];unfold Lt.plain;dsimp only;rw[h1];rfl)
    clear m0;by_cases hv0:vn=0
    ·
     have iS:=Hd (show C.1=false by rw[hcv.out];simp[hv0]);subst hv0;go_wp2_with fail
     go_meet
     exact⟨by first|rfl|rw[iS.out],hsy,zG⟩
    have j1:(0:Int)<vn:=by omega
    have j2:decide ((0:Int)<vn)=true:=decide_eq_true j1;have j3:0<vn:=by omega
    obtain⟨PV,Gk⟩:=kp (kE vs);have Xt:=Hd Gk;have iS:=Hd (show C.1=!PV.1 by rw[hcv.out,<-Gk];simp[hv0]);clear Gk;go_wp2_with fail
    refine(Mr vo vn vc vs wy w.heap.size gl.out (HX.out.2.1.below cn (hF.trans (zG.mono (fU _))) (aa _)) (by have:=jC.out.vn;rw[<-gl.out];dsimp only at this;omega) PV.1 Xt.out).mono ?_;rintro e wv ⟨rfl,rfl⟩;cases hpv:PV.1 with
    | false =>
     rw[hpv]at iS;clear hpv;go_wp2_with fail
     go_meet
     exact⟨by first|rfl|(rw[iS.out];rfl),hsy,zG⟩
    | true =>
     rw[hpv]at iS;clear hpv;go_wp2_with fail
     go_meet
     exact⟨by first|rfl|(rw[iS.out];rfl),hsy,zG⟩
 obtain⟨rfl,zF,kf⟩:=hcut;cases pW:C.1 with
 | true =>
  have iH:=Hd (show P.1=false by
   have h1:=HC.out;rw[pW]at h1;rw[aZ.out];have h2:pI (Lt.plain ⟨kd,f,t,tm,ix,ws,OK.1,cm,rd,eo,es,ec,vo,vs,vc,io,ib,ic⟩)=false:=by simpa using h1
   rw[h2];rfl)
  clear pW;go_wp2_with fail
  go_ret;exact⟨by rw[iH.out];rfl,hF.trans (kf.mono (fU _))⟩
 | false =>
  have c0:wc.cell? ⟨w.heap.size,0,none⟩=some (.int .u8 kd):=fu.out _ kf 0;have c1:wc.cell? ⟨w.heap.size,1,none⟩=some (.int .i64 f):=fu.out _ kf 1;have c2:wc.cell? ⟨w.heap.size,2,none⟩=some (.int .i64 t):=fu.out _ kf 2;have c3:wc.cell? ⟨w.heap.size,3,none⟩=some (.int .i64 tm):=fu.out _ kf 3;have c4:wc.cell? ⟨w.heap.size,4,none⟩=some (.int .i64 ix):=fu.out _ kf 4;have c5:wc.cell? ⟨w.heap.size,5,none⟩=some (.int .i64 ws):=fu.out _ kf 5;have c6:wc.cell? ⟨w.heap.size,6,none⟩=some (.bool OK.1):=fu.out _ kf 6;have c7:wc.cell? ⟨w.heap.size,7,none⟩=some (.int .i64 cm):=fu.out _ kf 7;have c8:wc.cell? ⟨w.heap.size,8,none⟩=some (.int .i64 rd):=fu.out _ kf 8;have c9:wc.cell? ⟨w.heap.size,9,none⟩=some (.slice eo en ec):=fu.out _ kf 9;have c10:wc.cell? ⟨w.heap.size,10,none⟩=some (.slice vo vn vc):=fu.out _ kf 10;have c11:wc.cell? ⟨w.heap.size,11,none⟩=some (.slice io im ic):=fu.out _ kf 11
  have eu:=Hd (show P.1=(B.1 && xj x.plain) by
   have h1:=HC.out;rw[pW]at h1;have h2:pI (Lt.plain ⟨kd,f,t,tm,ix,ws,OK.1,cm,rd,eo,es,ec,vo,vs,vc,io,ib,ic⟩)=true:=by simpa using h1
   rw[aZ.out,h2,D4.out.1,D4.out.2];rfl)
  clear pW;go_wp2_with fail
  refine(Xr kd f t tm ix ws OK.1 cm rd eo en ec vo vn vc io im ic wc _ _ MB.out).mono ?_;rintro e w2 ⟨rfl,am⟩;have ap:=Hd ((hF.trans (kf.mono (fU _))).trans (am.mono (by omega)));have fM:=am.size;clear am c0 c1 c2 c3 c4 c5 c6 c7 c8 c9 c10 c11 HX jC aZ HC fu D4 MB kf kq gl BI;obtain⟨xk,xf,xt,Xu,xi,xw,xo,xc,xr,Xv,Xw,Xx,Xy,Xz,D5,XF,XG,XH⟩:=x;obtain⟨XO,xA⟩:=kp xo;subst xA;obtain⟨xe,hxe⟩:∃xe,Xw.length=xe:=⟨_,rfl⟩;obtain⟨xv,hxv⟩:∃xv,Xz.length=xv:=⟨_,rfl⟩;obtain⟨xm,hxm⟩:∃xm,XG.length=xm:=⟨_,rfl⟩
  have HP:=Hd (show P.1=(B.1 && (decide (xi=0) && (decide (xw=0) && (!XO.1 && (decide (xc=0) && (decide (xr=0) && (decide (xe=0) && (decide (xv=0) && decide (xm=0))))))))) by
   rw[eu.out,<-hxe,<-hxv,<-hxm];unfold xj Lt.plain;dsimp only;rw[List.length_map])
  clear eu;simp only[fA];rw[hxe,hxv,hxm];clear hxe hxv hxm;have bO:=Hd (ap.out.trans (((aj w2.heap.size w2).alloc (aa _) (.cells #[.int .u8 xk,.int .i64 xf,.int .i64 xt,.int .i64 Xu,.int .i64 xi,.int .i64 xw,.bool XO.1,.int .i64 xc,.int .i64 xr,.slice Xv xe Xx,.slice Xy xv D5,.slice XF xm XH] 32)).mono (by omega)));clear ap;cases hB1:B.1 with
  | false =>
   rw[hB1]at HP;clear hB1;have iH:=Hd (show P.1=false by rw[HP.out];rfl);go_wp2_with fail
   go_ret;exact⟨by rw[iH.out];rfl,bO.out⟩
  | true =>
  rw[hB1]at HP;clear hB1;by_cases hxi:xi=0
  rotate_left
  ·
   have j2:decide (xi=0)=false:=decide_eq_false hxi;have iH:=Hd (show P.1=false by rw[HP.out];simp[hxi]);go_wp2_with fail
   go_ret;exact⟨by rw[iH.out];rfl,bO.out⟩
  subst hxi;by_cases hxw:xw=0
  rotate_left
  ·
   have j2:decide (xw=0)=false:=decide_eq_false hxw;have iH:=Hd (show P.1=false by rw[HP.out];simp[hxw]);go_wp2_with fail
   go_ret;exact⟨by rw[iH.out];rfl,bO.out⟩
  subst hxw;cases xA:XO.1 with
  | true =>
   rw[xA]at bO;have iH:=Hd (show P.1=false by rw[HP.out,xA];simp);clear xA;go_wp2_with fail
   go_ret;exact⟨by rw[iH.out];rfl,bO.out⟩
  | false =>
  rw[xA]at HP bO;clear xA;by_cases hxc:xc=0
  rotate_left
  ·
   have j2:decide (xc=0)=false:=decide_eq_false hxc;have iH:=Hd (show P.1=false by rw[HP.out];simp[hxc]);go_wp2_with fail
   go_ret;exact⟨by rw[iH.out];rfl,bO.out⟩
  subst hxc;by_cases Gl:xr=0
  rotate_left
  ·
   have j2:decide (xr=0)=false:=decide_eq_false Gl;have iH:=Hd (show P.1=false by rw[HP.out];simp[Gl]);go_wp2_with fail
   go_ret;exact⟨by rw[iH.out];rfl,bO.out⟩
  subst Gl;by_cases hxe:xe=0
  rotate_left
  ·
   have j1:¬(xe:Int)=0:=by omega
   have j2:decide ((xe:Int)=0)=false:=decide_eq_false j1;have j3:((xe:Int)==0)=false:=by simpa using hxe
   have iH:=Hd (show P.1=false by rw[HP.out];simp[hxe]);go_wp2_with fail
   go_ret;exact⟨by rw[iH.out];rfl,bO.out⟩
  subst hxe;by_cases hxv:xv=0
  rotate_left
  ·
   have j1:¬(xv:Int)=0:=by omega
   have j2:decide ((xv:Int)=0)=false:=decide_eq_false j1;have j3:((xv:Int)==0)=false:=by simpa using hxv
   have iH:=Hd (show P.1=false by rw[HP.out];simp[hxv]);go_wp2_with fail
   go_ret;exact⟨by rw[iH.out];rfl,bO.out⟩
  subst hxv;by_cases hxm:xm=0
  rotate_left
  ·
   have j1:¬(xm:Int)=0:=by omega
   have j2:decide ((xm:Int)=0)=false:=decide_eq_false j1;have j3:((xm:Int)==0)=false:=by simpa using hxm
   have iH:=Hd (show P.1=false by rw[HP.out];simp[hxm]);go_wp2_with fail
   go_ret;exact⟨by rw[iH.out];rfl,bO.out⟩
  subst hxm;have hyes:=Hd (show P.1=true by rw[HP.out];rfl);go_wp2_with fail
  go_ret;exact⟨by rw[hyes.out];rfl,bO.out⟩
structure BOwn (w:World) (base:Nat) (a:Option Addr) (n c:Nat) (L:List Int):Prop where
 len:L.length=n
 row:w.ownsRow base 5 1 (.slice a n c) n (L.map bv)
theorem BOwn.below {w w':World}{base n c B:Nat}{a:Option Addr}{L:List Int}(h:BOwn w base a n c L)(hb:Below B w w')(hB:w.heap.size<=B):BOwn w' base a n c L:=⟨h.len,own_below h.row hb hB⟩
theorem BOwn.le {w:World}{base base' n c:Nat}{a:Option Addr}{L:List Int}(h:BOwn w base a n c L)(hB:base'<=base):BOwn w base' a n c L:=⟨h.len,fh h.row hB⟩
theorem BOwn.in {w:World}{base n c:Nat}{a:Option Addr}{L:List Int}(h:BOwn w base a n c L):BytesIn w w.heap.size a L:=Ls h.len h.row
theorem BOwn.nil {w:World}{base n c:Nat}{a:Option Addr}{L:List Int}(h:BOwn w base a n c L):a=none->c=0:=by
 intro ha;rcases oD h.row with ⟨h1,_⟩|⟨g,c',h1⟩
 · cases h1;rfl
 rw[ha]at h1;cases h1
theorem BOwn.lt {w:World}{base n c:Nat}{a:Option Addr}{L:List Int}(h:BOwn w base a n c L):∀g,(Value.slice a n c).ownBlock=some g->base<=g/\g<w.heap.size:=λ g hg=>jb h.row g hg
theorem BOwn.lit (w:World)(xs:List Int)(h:xs.length<=1000):BOwn (w.alloc (.cells (xs.map bv).toArray 5)) w.heap.size (some ⟨w.heap.size,0,none⟩) xs.length xs.length xs :=
 ⟨rfl,by
  have h2:xs.length<=maxLen:=by(unfold maxLen;omega)
  exact oH w (base:=w.heap.size) (e:=5) (size:=1) (xs.map bv).toArray xs.length (aa _) h2 (by simp)⟩
def q7 (L:List Int) (w:World) (e:Ending) (w':World):Prop:=∃a n c,e=.returned (.slice a n c)/\BOwn w' w.heap.size a n c L/\Below w.heap.size w w'
theorem od {w:World}{ops:Array Oper}{rest:List Oper}{o:Oper}{a:Act}{Q:Exit->Act->World->Prop}(jN:o.guard=none)(s x:Operand)
  (ho:o.op=.call { callee:=.builtin .append,args:=#[s,x],argTypes:=#[25,25] })
  (base:Nat) {a1:Option Addr} {n1 c1:Nat} {L1:List Int} (hs:a.eval s=.slice a1 n1 c1) (az:BOwn w base a1 n1 c1 L1)
  {ao:Option Addr} {n cap:Nat} {xs:List Int} (hx:a.eval x=.slice ao n cap) (hn:xs.length=n) (B:Nat) (gq:BytesIn w B ao xs) (bm:ao=none->cap=0) (fV:n1+n<=140737488351232) (nw:base<=w.heap.size)
  (h:∀a2 n2 c2 w',BOwn w' base a2 n2 c2 (L1++xs)->w.grownBy w' (Value.slice a1 n1 c1).ownBlock->n2=n1+n->wpList prog ops Q rest (a.put o.dst (.slice a2 n2 c2)) w'):wpList prog ops Q (o :: rest) a w:=by
 obtain⟨rfl,de⟩:=az;subst hn;refine Fu jN s x ho base _ L1 hs de ao cap xs hx B gq bm fV nw λ v' w' h1 h2=>?_
 obtain⟨a2,c2,rfl⟩:=jz h1;exact h a2 _ c2 w' ⟨rfl,h1⟩ h2 (by rw[List.length_append])
theorem MD (n:Nat)(h:n<4294967296):au 4 (n:Int)=[(n:Int) / 16777216 % 256,(n:Int) / 65536 % 256,(n:Int) / 256 % 256,(n:Int) % 256]:=by
 unfold au;simp only[List.range,List.range.loop,List.map_cons,List.map_nil];have e0:(2:Int) ^ (8*(4-1-0))=16777216:=by decide
 have e1:(2:Int) ^ (8*(4-1-1))=65536:=by decide
 have e2:(2:Int) ^ (8*(4-1-2))=256:=by decide
 have e3:(2:Int) ^ (8*(4-1-3))=1:=by decide
 rw[e0,e1,e2,e3,Int.ediv_one]
theorem Gm (n:Nat)(L:List Int)(w:World)(hL:au 4 (n:Int)=L)(hn:n<=2000000000) :
  Calls prog 17 #[.int .i64 (n:Int)] w (q7 L w):=by
 have hl:L=[(n:Int) / 16777216,(n:Int) / 65536 % 256,(n:Int) / 256 % 256,(n:Int) % 256]:=by
  have e:(n:Int) / 16777216 % 256=(n:Int) / 16777216:=by omega
  rw[<-hL,MD n (by omega),e]
 have HL:=Hd hl;clear hl hL;go_enter func17,ntmps17
 go_wp2_with fail
 go_ret;have ho:=BOwn.lit w [(n:Int) / 16777216,(n:Int) / 65536 % 256,(n:Int) / 256 % 256,(n:Int) % 256] (by simp);rw[<-HL.out]at ho;have h4:L.length=4:=by rw[HL.out];rfl
 rw[h4]at ho;refine⟨some ⟨w.heap.size,0,none⟩,4,4,rfl,?_,(aj _ _).alloc (aa _) _⟩;rw[HL.out]at ho ⊢;exact ho
theorem ME (ao:Option Addr)(n cap:Nat)(xs:List Int)(L:List Int)(w:World)(B:Nat)(hL:xs.flatMap (au 8)=L)(hn:xs.length=n)(hx:gS w B ao xs)(hB:B<=w.heap.size)(hl:n<=1000000) :
  Calls prog 16 #[.slice ao n cap] w (q7 L w):=by
 have HX:=Hd (hx.mono cK hB);have HN:=Hd hn;have HL:=Hd hL;clear hx hn hL;go_enter func16,ntmps16
 go_wp2_with fail
 go_loopw [3,8] (λ v i wr=>∃(k:Nat) (a:Option Addr) (c:Nat),k<=n/\i=.int .i64 k/\v=.slice a (8*k) c/\BOwn wr w.heap.size a (8*k) c ((xs.take k).flatMap (au 8))/\Below w.heap.size w wr) (λ _ i _=>n-(intOf i).toNat)
 exact⟨0,none,0,by omega,rfl,rfl,⟨rfl,iK _ _ _ _⟩,aj _ _⟩;obtain⟨k,a,c,hk,rfl,rfl,az,ag⟩:=hrel;have HO:=Hd az;have bP:=ag.size;clear az;by_cases ae:k<n
 ·
  have i1:(k:Int)<n:=by omega
  have aQ:xs[k]?=some (xs[k]'(by rw[HN.out];exact ae)):=bu _;have bJ:xs.take (k+1)=xs.take k++[xs[k]'(by rw[HN.out];exact ae)]:=iJ _;obtain⟨b,off,bm,hb,hc,_⟩:=HX.out.at aQ;generalize xs[k]'(by rw[HN.out];exact ae)=x at hc aQ bJ
  have c0:wr.cell? ⟨b,off+k,none⟩=some (.int .i64 x):=by
   have:=hc 0 (by decide);rw[Nat.mul_one,Nat.add_zero]at this;exact(ag.cell (p:=⟨b,_,none⟩) hb).trans this
  subst bm;have HT:=Hd bJ;obtain⟨m,hm⟩:∃m,8*k=m:=⟨_,rfl⟩;have HM:=Hd hm;rw[hm]at HO ⊢;clear hc aQ bJ hm;go_wp2_with fail
  refine(Wr x _ wr rfl).mono ?_;rintro e w2 ⟨a1,c1,rfl,ho1,ba⟩;have et:=Hd ho1;have am:=ag.trans (ba.mono bP);have bp:=ba.size;clear ho1 c0;go_wp2_with (at_builtin;refine od rfl (.tmp 12) (.tmp 14) rfl w.heap.size rfl (HO.out.below ba (aa _)) rfl rfl _ (vm et.out) (iW et.out) (by have:=HM.out;rw[cV];omega) (by omega) ?_)
  intro a2 n2 c2 w3 az hg dW;have ap:=am.grown hg (by omega) (λ k hk=>(HO.out.lt k hk).1);have Gn:n2=8*(k+1):=by rw[dW,cV,<-HM.out];omega
  subst Gn
  have jA:=Hd (show BOwn w3 w.heap.size a2 (8*(k+1)) c2 ((xs.take (k+1)).flatMap (au 8)) by
   rw[HT.out,List.flatMap_append,List.flatMap_singleton];exact az)
  clear az hg dW;go_wp2_with fail
  go_roundw;exact⟨k+1,a2,c2,by omega,by go_num,rfl,jA.out,ap⟩;simp[intOf]<;>omega
 have i1:¬(k:Int)<n:=by omega
 obtain rfl:k=n:=by omega
 go_wp2_with fail
 go_ret;have az:=HO.out;rw[fE (by rw[HN.out];exact aa _),HL.out]at az;exact⟨a,_,c,rfl,az,ag⟩
theorem XI {P:Program}{md:Region.Mode}{ops:Array Oper}{Q:Exit->Act->World->Prop}{S:World->Prop}(I:Nat->Array Bool->Act->World->Prop)(m:Nat)
  (hstep:∀n listed a w,I (n+1) listed a w->∃rs,Region.ready md ops listed=rs/\rs≠[]/\∀i∈rs,∃oi,ops.toList[i]?=some oi/\Region.wanted oi (yielded ops a.tmps)=true/\∀K':Act->World->Prop,Shut (∀a' w',I n (listed.setIfInBounds i true) a' w'->K' a' w')->Oper.wp P oi a w K' Q)
  (Gp:∀n listed a w,I n listed a w->S w)
  (fX:∀listed a w,I 0 listed a w->wpAnyH P md ops Q S m listed a w):∀n listed a w,I n listed a w->wpAnyH P md ops Q S (n+m) listed a w:=by
 intro n;induction n with
 | zero=>intro listed a w h;rw[Nat.zero_add];exact fX listed a w h
 | succ n ih =>
  intro listed a w h;obtain⟨rs,hr,dj,hs⟩:=hstep n listed a w h;rw[Nat.succ_add];refine wpAnyH_ready hr dj (λ i hi=>?_);obtain⟨oi,ho,hw,hp⟩:=hs i hi;refine wpOp_step (by rw[<-Array.getElem?_toList];exact ho) (λ K' hK=>?_);rw[if_pos hw];exact hp K' (λ a' w' hI=>hK a' w' ⟨Gp _ _ _ _ hI,ih _ _ _ hI⟩)
theorem XJ {P:Program}{md:Region.Mode}{ops:Array Oper}{Q:Exit->Act->World->Prop}{S:World->Prop}(I:Nat->Array Bool->Act->World->Prop)(m n:Nat)(L:Array Bool)(A:Act){listed:Array Bool}{a:Act}{w:World}(hl:listed=L)(ha:a=A)(h0:I n L A w)
  (hstep:∀n listed a w,I (n+1) listed a w->∃rs,Region.ready md ops listed=rs/\rs≠[]/\∀i∈rs,∃oi,ops.toList[i]?=some oi/\Region.wanted oi (yielded ops a.tmps)=true/\∀K':Act->World->Prop,Shut (∀a' w',I n (listed.setIfInBounds i true) a' w'->K' a' w')->Oper.wp P oi a w K' Q)
  (Gp:∀n listed a w,I n listed a w->S w)
  (fX:∀listed a w,I 0 listed a w->wpAnyH P md ops Q S m listed a w):wpAnyH P md ops Q S (n+m) listed a w:=by
 subst hl ha;exact XI I m hstep Gp fX n _ _ _ h0
structure Pf where
 A:Nat
 u0:Value
 u11:Value
 u12:Value
 u13:Value
 u14:Value
 u15:Value
 u45:Value
 u46:Value
 kb:Int
 kd:Int
 f:Int
 t:Int
 tm:Int
 ix:Int
 ws:Int
 cm:Int
 rd:Int
 eo:Option Addr
 en:Nat
 ec:Nat
 rest:List Value
def kr (p:Pf) (v24 v31 v32 v34 v39 v40 v44:Value):Act:={ tmps:=(p.u0 :: .pointer (some ⟨p.A,0,none⟩) :: .slice none 0 0 :: .int .i64 0 :: .int .u8 p.kb :: undef :: undef :: undef :: undef :: undef :: undef :: p.u11 :: p.u12 :: p.u13 :: p.u14 :: p.u15 :: .pointer (some ⟨p.A,0,none⟩) :: .int .u8 p.kd :: .pointer (some ⟨p.A,1,none⟩) :: .int .i64 p.f :: .int .u8 (IntKind.u8.wrap p.f) :: .pointer (some ⟨p.A,2,none⟩) :: .int .i64 p.t :: .int .u8 (IntKind.u8.wrap p.t) :: v24 :: .pointer (some ⟨p.A,3,none⟩) :: .int .i64 p.tm :: .pointer (some ⟨p.A,4,none⟩) :: .int .i64 p.ix :: .pointer (some ⟨p.A,5,none⟩) :: .int .i64 p.ws :: v31 :: v32 :: .int .u8 p.kb :: v34 :: .pointer (some ⟨p.A,7,none⟩) :: .int .i64 p.cm :: .pointer (some ⟨p.A,8,none⟩) :: .int .i64 p.rd :: v39 :: v40 :: .pointer (some ⟨p.A,9,none⟩) :: .slice p.eo p.en p.ec :: .int .i64 (p.en:Int) :: v44 :: p.u45 :: p.u46 :: p.rest).toArray,defers:=[] }
def D6 (c:Nat) (y8 jD gy y23:Bool):Array Bool:=#[true,true,true,true,true,true,true,true,y8,true,true,true,true,true,true,jD,decide (1<=c),true,gy,true,true,true,true,y23,decide (2<=c),true,true,true,decide (3<=c),false,false]
def sm (w:World) (v:Value) (L:List Int):Prop:=∃a c,v=.slice a L.length c/\BytesIn w w.heap.size a L/\(a=none->c=0)/\L.length<=c
theorem sm.grow {w w':World}{v:Value}{L:List Int}(h:sm w v L)(hb:Below w.heap.size w w'):sm w' v L:=by
 obtain⟨a,c,h1,h2,h3⟩:=h;exact⟨a,c,h1,(h2.below hb (aa _)).mono hb.size,h3⟩
def zH (w:World) (v:Value) (xs:List Int):Prop:=∃g,v=.slice (some ⟨g,0,none⟩) xs.length xs.length/\gS w w.heap.size (some ⟨g,0,none⟩) xs
theorem zH.grow {w w':World}{v:Value}{xs:List Int}(h:zH w v xs)(hb:Below w.heap.size w w'):zH w' v xs:=by
 obtain⟨g,h1,h2⟩:=h;exact⟨g,h1,(h2.below cn hb (aa _)).mono cK hb.size⟩
def uv:Bool->Nat
 | true=>0
 | false=>1
theorem XK {c:Nat}{a b d e:Bool}(hc:c<=3)(h:0=3-c+uv a+uv b+uv d+uv e):c=3/\a=true/\b=true/\d=true/\e=true:=by
 cases a<;>cases b<;>cases d<;>cases e<;>simp only[uv]at h<;>first|omega|exact⟨by omega,rfl,rfl,rfl,rfl⟩
structure PI (p:Pf) (w0:World) (c:Nat) (y8 jD gy y23:Bool) (v24 v31 v32 v34 v39 v40 v44:Value) (w:World):Prop where
 below:Below (p.A+1) w0 w
 size:p.A+1<=w.heap.size
 jq:1<=c->jD=true
 h23:2<=c->y23=true
 a8:y8=true->sm w v24 [p.kd,IntKind.u8.wrap p.f,IntKind.u8.wrap p.t]
 vL:jD=true->zH w v31 [p.tm,p.ix,p.ws]
 vM:gy=true->sm w v34 [p.kb]
 a23:y23=true->zH w v39 [p.cm,p.rd]
 c1:1<=c->sm w v32 ([p.tm,p.ix,p.ws].flatMap (au 8))
 c2:2<=c->sm w v40 ([p.cm,p.rd].flatMap (au 8))
 c3:3<=c->sm w v44 (au 4 (p.en:Int))
theorem PI.grow {p:Pf}{w0:World}{c:Nat}{y8 jD gy y23:Bool}{v24 v31 v32 v34 v39 v40 v44:Value}{w w':World}(h:PI p w0 c y8 jD gy y23 v24 v31 v32 v34 v39 v40 v44 w)(hb:Below w.heap.size w w'):PI p w0 c y8 jD gy y23 v24 v31 v32 v34 v39 v40 v44 w' :=
 ⟨h.below.trans (hb.mono h.size),aF h.size hb.size,h.jq,h.h23,λ e=>(h.a8 e).grow hb,λ e=>(h.vL e).grow hb,λ e=>(h.vM e).grow hb,λ e=>(h.a23 e).grow hb,λ e=>(h.c1 e).grow hb,λ e=>(h.c2 e).grow hb,λ e=>(h.c3 e).grow hb⟩
def MJ (p:Pf) (w0:World) (n:Nat) (listed:Array Bool) (a:Act) (w:World):Prop :=
 ∃c y8 jD gy y23 v24 v31 v32 v34 v39 v40 v44,listed=D6 c y8 jD gy y23/\a=kr p v24 v31 v32 v34 v39 v40 v44/\c<=3/\n=3-c+uv y8+uv jD+uv gy+uv y23/\PI p w0 c y8 jD gy y23 v24 v31 v32 v34 v39 v40 v44 w
theorem MK (w:World)(xs:List Int)(cs:Array Value)(jP:cs=(xs.map bv).toArray):sm (w.alloc (.cells cs 5)) (.slice (some ⟨w.heap.size,0,none⟩) xs.length xs.length) xs :=
 ⟨some ⟨w.heap.size,0,none⟩,xs.length,rfl,(Lr w _ xs cs _ _ (w.heap.size+1) jP rfl (by omega)).mono (by simp),λ h=>(by cases h),aa _⟩
theorem ML (w:World)(xs:List Int)(cs:Array Value)(jP:cs=(xs.map (Value.int .i64)).toArray):zH (w.alloc (.cells cs 3)) (.slice (some ⟨w.heap.size,0,none⟩) xs.length xs.length) xs :=
 ⟨w.heap.size,rfl,(zE w xs cs jP).mono cK (by simp)⟩
theorem Gq {L:List Int}{w w':World}{e:Ending}(h:q7 L w e w'):∃v,e=.returned v/\sm w' v L/\Below w.heap.size w w':=by
 obtain⟨a,n,c,h1,h2,h3⟩:=h;refine⟨_,h1,⟨a,c,by rw[h2.len],h2.in,h2.nil,?_⟩,h3⟩;rw[h2.len];exact mp h2.row
theorem pK {p:Pf}{w0 w:World}{c:Nat}{jD gy y23:Bool}{v24 v31 v32 v34 v39 v40 v44:Value}{Q:Exit->Act->World->Prop}{K:Act->World->Prop}{ty:TypeId}{ps:String}{af:Array Edge}(h:PI p w0 c false jD gy y23 v24 v31 v32 v34 v39 v40 v44 w)
  (hK:∀x w',PI p w0 c true jD gy y23 x v31 v32 v34 v39 v40 v44 w'->K (kr p x v31 v32 v34 v39 v40 v44) w'):Oper.wp prog { dst:=some 24,op:=.buildSlice 25 3 #[(0,.tmp 17),(1,.tmp 20),(2,.tmp 23)],type:=ty,pos:=ps,after:=af,guard:=none } (kr p v24 v31 v32 v34 v39 v40 v44) w K Q:=by
 have hb:=(aj w.heap.size w).alloc (aa _) (.cells #[.int .u8 p.kd,.int .u8 (IntKind.u8.wrap p.f),.int .u8 (IntKind.u8.wrap p.t)] 5);have hn:=MK w [p.kd,IntKind.u8.wrap p.f,IntKind.u8.wrap p.t] _ rfl;have HK:=Hd hK;have H:=Hd h;have HB:=Hd hb;have HN:=Hd hn;clear hK h hb hn;unfold kr;go_simp
 have h2:=H.out.grow HB.out;refine HK.out _ _ ⟨h2.below,h2.size,h2.jq,h2.h23,λ _=>HN.out,h2.vL,h2.vM,h2.a23,h2.c1,h2.c2,h2.c3⟩
theorem vN {p:Pf}{w0 w:World}{c:Nat}{y8 gy y23:Bool}{v24 v31 v32 v34 v39 v40 v44:Value}{Q:Exit->Act->World->Prop}{K:Act->World->Prop}{ty:TypeId}{ps:String}{af:Array Edge}(h:PI p w0 c y8 false gy y23 v24 v31 v32 v34 v39 v40 v44 w)
  (hK:∀x w',PI p w0 c y8 true gy y23 v24 x v32 v34 v39 v40 v44 w'->K (kr p v24 x v32 v34 v39 v40 v44) w'):Oper.wp prog { dst:=some 31,op:=.buildSlice 24 3 #[(0,.tmp 26),(1,.tmp 28),(2,.tmp 30)],type:=ty,pos:=ps,after:=af,guard:=none } (kr p v24 v31 v32 v34 v39 v40 v44) w K Q:=by
 have hb:=(aj w.heap.size w).alloc (aa _) (.cells #[.int .i64 p.tm,.int .i64 p.ix,.int .i64 p.ws] 3);have hn:=ML w [p.tm,p.ix,p.ws] _ rfl;have HK:=Hd hK;have H:=Hd h;have HB:=Hd hb;have HN:=Hd hn;clear hK h hb hn;unfold kr;go_simp
 have h2:=H.out.grow HB.out;refine HK.out _ _ ⟨h2.below,h2.size,λ _=>rfl,h2.h23,h2.a8,λ _=>HN.out,h2.vM,h2.a23,h2.c1,h2.c2,h2.c3⟩
theorem pL {p:Pf}{w0 w:World}{c:Nat}{y8 jD y23:Bool}{v24 v31 v32 v34 v39 v40 v44:Value}{Q:Exit->Act->World->Prop}{K:Act->World->Prop}{ty:TypeId}{ps:String}{af:Array Edge}(h:PI p w0 c y8 jD false y23 v24 v31 v32 v34 v39 v40 v44 w)
  (hK:∀x w',PI p w0 c y8 jD true y23 v24 v31 v32 x v39 v40 v44 w'->K (kr p v24 v31 v32 x v39 v40 v44) w'):Oper.wp prog { dst:=some 34,op:=.buildSlice 25 1 #[(0,.tmp 33)],type:=ty,pos:=ps,after:=af,guard:=none } (kr p v24 v31 v32 v34 v39 v40 v44) w K Q:=by
 have hb:=(aj w.heap.size w).alloc (aa _) (.cells #[.int .u8 p.kb] 5);have hn:=MK w [p.kb] _ rfl;have HK:=Hd hK;have H:=Hd h;have HB:=Hd hb;have HN:=Hd hn;clear hK h hb hn;unfold kr;go_simp
 have h2:=H.out.grow HB.out;refine HK.out _ _ ⟨h2.below,h2.size,h2.jq,h2.h23,h2.a8,h2.vL,λ _=>HN.out,h2.a23,h2.c1,h2.c2,h2.c3⟩
theorem rO {p:Pf}{w0 w:World}{c:Nat}{y8 jD gy:Bool}{v24 v31 v32 v34 v39 v40 v44:Value}{Q:Exit->Act->World->Prop}{K:Act->World->Prop}{ty:TypeId}{ps:String}{af:Array Edge}(h:PI p w0 c y8 jD gy false v24 v31 v32 v34 v39 v40 v44 w)
  (hK:∀x w',PI p w0 c y8 jD gy true v24 v31 v32 v34 x v40 v44 w'->K (kr p v24 v31 v32 v34 x v40 v44) w'):Oper.wp prog { dst:=some 39,op:=.buildSlice 24 2 #[(0,.tmp 36),(1,.tmp 38)],type:=ty,pos:=ps,after:=af,guard:=none } (kr p v24 v31 v32 v34 v39 v40 v44) w K Q:=by
 have hb:=(aj w.heap.size w).alloc (aa _) (.cells #[.int .i64 p.cm,.int .i64 p.rd] 3);have hn:=ML w [p.cm,p.rd] _ rfl;have HK:=Hd hK;have H:=Hd h;have HB:=Hd hb;have HN:=Hd hn;clear hK h hb hn;unfold kr;go_simp
 have h2:=H.out.grow HB.out;refine HK.out _ _ ⟨h2.below,h2.size,h2.jq,λ _=>rfl,h2.a8,h2.vL,h2.vM,λ _=>HN.out,h2.c1,h2.c2,h2.c3⟩
theorem vO {p:Pf}{w0 w:World}{y8 gy y23:Bool}{v24 v31 v32 v34 v39 v40 v44:Value}{Q:Exit->Act->World->Prop}{K:Act->World->Prop}{ty:TypeId}{ps:String}{af:Array Edge}(h:PI p w0 0 y8 true gy y23 v24 v31 v32 v34 v39 v40 v44 w)
  (hK:∀x w',PI p w0 1 y8 true gy y23 v24 v31 x v34 v39 v40 v44 w'->K (kr p v24 v31 x v34 v39 v40 v44) w'):Oper.wp prog { dst:=some 32,op:=.call { callee:=.value (.func 16),args:=#[.tmp 31],argTypes:=#[24] },type:=ty,pos:=ps,after:=af,guard:=none } (kr p v24 v31 v32 v34 v39 v40 v44) w K Q:=by
 obtain⟨g,rfl,hg⟩:=h.vL rfl;have wT:=ME (some ⟨g,0,none⟩) 3 3 [p.tm,p.ix,p.ws] _ w w.heap.size rfl rfl hg (aa _) (by decide);have HK:=Hd hK;have H:=Hd h;have BJ:=Hd wT;clear hK h wT;unfold kr;go_simp
 refine BJ.out.mono ?_;intro e w' hr;obtain⟨x,rfl,hx,hb⟩:=Gq hr;have h2:=H.out.grow hb;refine HK.out x w' ⟨h2.below,h2.size,λ _=>rfl,λ h=>absurd h (by omega),h2.a8,h2.vL,h2.vM,h2.a23,λ _=>hx,λ h=>absurd h (by omega),λ h=>absurd h (by omega)⟩
theorem D7 {p:Pf}{w0 w:World}{y8 gy:Bool}{v24 v31 v32 v34 v39 v40 v44:Value}{Q:Exit->Act->World->Prop}{K:Act->World->Prop}{ty:TypeId}{ps:String}{af:Array Edge}(h:PI p w0 1 y8 true gy true v24 v31 v32 v34 v39 v40 v44 w)
  (hK:∀x w',PI p w0 2 y8 true gy true v24 v31 v32 v34 v39 x v44 w'->K (kr p v24 v31 v32 v34 v39 x v44) w'):Oper.wp prog { dst:=some 40,op:=.call { callee:=.value (.func 16),args:=#[.tmp 39],argTypes:=#[24] },type:=ty,pos:=ps,after:=af,guard:=none } (kr p v24 v31 v32 v34 v39 v40 v44) w K Q:=by
 obtain⟨g,rfl,hg⟩:=h.a23 rfl;have wT:=ME (some ⟨g,0,none⟩) 2 2 [p.cm,p.rd] _ w w.heap.size rfl rfl hg (aa _) (by decide);have HK:=Hd hK;have H:=Hd h;have BJ:=Hd wT;clear hK h wT;unfold kr;go_simp
 refine BJ.out.mono ?_;intro e w' hr;obtain⟨x,rfl,hx,hb⟩:=Gq hr;have h2:=H.out.grow hb;refine HK.out x w' ⟨h2.below,h2.size,λ _=>rfl,λ _=>rfl,h2.a8,h2.vL,h2.vM,h2.a23,λ _=>h2.c1 (by omega),λ _=>hx,λ h=>absurd h (by omega)⟩
theorem D8 {p:Pf}{w0 w:World}{y8 gy:Bool}{v24 v31 v32 v34 v39 v40 v44:Value}{Q:Exit->Act->World->Prop}{K:Act->World->Prop}{ty:TypeId}{ps:String}{af:Array Edge}(kz:p.en<=2000000000)(h:PI p w0 2 y8 true gy true v24 v31 v32 v34 v39 v40 v44 w)
  (hK:∀x w',PI p w0 3 y8 true gy true v24 v31 v32 v34 v39 v40 x w'->K (kr p v24 v31 v32 v34 v39 v40 x) w'):Oper.wp prog { dst:=some 44,op:=.call { callee:=.value (.func 17),args:=#[.tmp 43],argTypes:=#[3] },type:=ty,pos:=ps,after:=af,guard:=none } (kr p v24 v31 v32 v34 v39 v40 v44) w K Q:=by
 have wT:=Gm p.en _ w rfl kz;have HK:=Hd hK;have H:=Hd h;have BJ:=Hd wT;clear hK h wT;unfold kr;go_simp
 refine BJ.out.mono ?_;intro e w' hr;obtain⟨x,rfl,hx,hb⟩:=Gq hr;have h2:=H.out.grow hb;refine HK.out x w' ⟨h2.below,h2.size,λ _=>rfl,λ _=>rfl,h2.a8,h2.vL,h2.vM,h2.a23,λ _=>h2.c1 (by omega),λ _=>h2.c2 (by omega),λ _=>hx⟩
def qc (p:Pt):Prop:=BytesWf p.data/\(p.ao=none->p.cap=0)/\p.data.length<=p.cap
structure Parts (w:World) (base:Nat) (a:Option Addr) (n c:Nat) (ps:List Pt):Prop where
 len:ps.length=n
 row:w.ownsRow base 25 1 (.slice a n c) n (ps.flatMap pE)
 sub:∀p∈ps,BytesIn w w.heap.size p.ao p.data
 far:∀p∈ps,p.data≠[]->∀ad,p.ao=some ad->(Value.slice a n c).ownBlock≠some ad.block
 ok:∀p∈ps,qc p
theorem Parts.below {w w':World}{base n c:Nat}{a:Option Addr}{ps:List Pt}(h:Parts w base a n c ps)(hb:Below w.heap.size w w'):Parts w' base a n c ps :=
 ⟨h.len,own_below h.row hb (aa _),λ p hp=>((h.sub p hp).below hb (aa _)).mono hb.size,h.far,h.ok⟩
theorem Gr {w:World}{B:Nat}{ao:Option Addr}{xs:List Int}(h:BytesIn w B ao xs)(hx:xs≠[]){ad:Addr}(ha:ao=some ad):ad.block<B:=by
 rcases h with h|⟨b,off,h1,h2,_⟩
 · exact absurd h hx
 rw[h1]at ha;cases ha
 exact h2
theorem Parts.grow {w w':World}{base n c m:Nat}{a:Option Addr}{ps qs:List Pt}{v':Value}(h:Parts w base a n c ps)(hm:qs.length=m)(hq:∀q∈qs,BytesIn w w.heap.size q.ao q.data/\(q.data≠[]->∀ad,q.ao=some ad->(Value.slice a n c).ownBlock≠some ad.block)/\qc q)
  (az:w'.ownsRow base 25 1 v' (n+m) (ps.flatMap pE++qs.flatMap pE)) (hg:w.grownBy w' (Value.slice a n c).ownBlock) (hor:v'.ownBlock=(Value.slice a n c).ownBlock∨v'.ownBlock=some w.heap.size) :
  ∃a' c',v'=.slice a' (n+m) c'/\Parts w' base a' (n+m) c' (ps++qs):=by
 obtain⟨a',c',rfl⟩:=jz az
 have ky:∀p∈ps++qs,BytesIn w w.heap.size p.ao p.data/\(p.data≠[]->∀ad,p.ao=some ad->(Value.slice a n c).ownBlock≠some ad.block)/\qc p:=λ p hp=>by
  rcases List.mem_append.1 hp with hp|hp
  · exact⟨h.sub p hp,h.far p hp,h.ok p hp⟩
  exact hq p hp
 refine⟨a',c',rfl,by rw[List.length_append,h.len,hm],by rw[List.flatMap_append];exact az,λ p hp=>?_,λ p hp dj ad kM=>?_,λ p hp=>(ky p hp).2.2⟩
 ·
  obtain⟨h1,h2,_⟩:=ky p hp;by_cases dj:p.data=[]
  · exact Or.inl dj
  rcases h1 with h0|⟨b,off,e1,e2,e3⟩
  · exact absurd h0 dj
  refine Or.inr ⟨b,off,e1,ex e2 hg.size,λ i hi=>?_⟩;exact(wZ (hg.block b e2 (λ e=>h2 dj _ e1 e.symm))).trans (e3 i hi)
 obtain⟨h1,h2,_⟩:=ky p hp;rcases hor with e|e
 · rw[e];exact h2 dj ad kM
 rw[e];intro e2;have:=Gr h1 dj kM;injection e2 with e2
 omega
theorem Parts.in {w:World}{base n c:Nat}{a:Option Addr}{ps:List Pt}(h:Parts w base a n c ps):RowsIn 1 pE zj w w.heap.size a ps:=mH wX h.len h.row (λ p hp=>h.sub p hp)
theorem Parts.cap {w:World}{base n c:Nat}{a:Option Addr}{ps:List Pt}(h:Parts w base a n c ps):n<=c:=mp h.row
theorem Parts.lt {w:World}{base n c:Nat}{a:Option Addr}{ps:List Pt}(h:Parts w base a n c ps):∀g,(Value.slice a n c).ownBlock=some g->base<=g/\g<w.heap.size:=λ g hg=>jb h.row g hg
theorem BK {w:World}{v:Value}{L:List Int}(m:Nat)(h:sm w v L)(hw:BytesWf L)(hm:L.length=m):∃a c,v=.slice a m c/\BytesIn w w.heap.size a L/\qc ⟨a,c,L⟩:=by
 obtain⟨a,c,rfl,h1,h2,h3⟩:=h;exact⟨a,c,by rw[hm],h1,hw,h2,h3⟩
theorem XL (l:cQ)(kb:Int)(h:(if l.ok=true then(1:Int)else 0)=kb):kF l=[l.kind,l.fr,l.tov]++((au 8 l.term++(au 8 l.index++au 8 l.was))++(kb :: (au 8 l.commit++au 8 l.round))):=by
 subst h;rfl
theorem XM {w:World}{cs:Array Value}{ps:List Pt}(jP:cs.toList=ps.flatMap pE)(hb:∀p∈ps,BytesIn w w.heap.size p.ao p.data/\qc p)(hl:ps.length<=1000) :
  Parts (w.alloc (.cells cs 25)) w.heap.size (some ⟨w.heap.size,0,none⟩) ps.length ps.length ps:=by
 have bP:cs.size=ps.length:=by rw[<-Array.length_toList,jP,nT wX,Nat.mul_one]
 have bS:=(aj w.heap.size w).alloc (aa _) (.cells cs 25);have h2:ps.length<=maxLen:=by unfold maxLen;omega
 refine⟨rfl,?_,λ p hp=>((hb p hp).1.below bS (aa _)).mono bS.size,λ p hp dj ad kM=>?_,λ p hp=>(hb p hp).2⟩
 ·
  have:=oH w (base:=w.heap.size) (e:=25) (size:=1) cs ps.length (aa _) h2 (by rw[bP,Nat.mul_one]);rw[jP]at this;exact this
 intro e;have:=Gr (hb p hp).1 dj kM;injection e with e
 have e:w.heap.size=ad.block:=e;omega
theorem MM:(prog.info? 25).map (λ i=>(i.zero,i.size,i.bytes))=some (some (.slice none 0 0),1,24):=by kernel_rfl
theorem MN (x:Pt):∀u∈pE x,u.oneCell'=true:=by intro u hu;simp[pE]at hu;rw[hu];rfl
theorem Gs {w:World}{ops:Array Oper}{rest:List Oper}{o:Oper}{a:Act}{Q:Exit->Act->World->Prop}(jN:o.guard=none)(s x:Operand)
  (ho:o.op=.call { callee:=.builtin .append,args:=#[s,x],argTypes:=#[53,53] })
  (base:Nat) {a1:Option Addr} {n1 c1:Nat} {ps:List Pt} (hs:a.eval s=.slice a1 n1 c1) (az:Parts w base a1 n1 c1 ps)
  (g m:Nat) (cs:Array Value) (qs:List Pt) (hm:qs.length=m) (hk:w.heap[g]?=some (.cells cs 25 (0,0))) (jP:cs.toList=qs.flatMap pE) (hx:a.eval x=.slice (some ⟨g,0,none⟩) m m)
  (hq:∀q∈qs,BytesIn w w.heap.size q.ao q.data/\(q.data≠[]->∀ad,q.ao=some ad->(Value.slice a1 n1 c1).ownBlock≠some ad.block)/\qc q) (fV:n1+m<=100000000) (nw:base<=w.heap.size)
  (h:∀a2 c2 w',Parts w' base a2 (n1+m) c2 (ps++qs)->w.grownBy w' (Value.slice a1 n1 c1).ownBlock->wpList prog ops Q rest (a.put o.dst (.slice a2 (n1+m) c2)) w'):wpList prog ops Q (o :: rest) a w:=by
 have hg:g<w.heap.size:=(Array.getElem?_eq_some_iff.1 hk).1;refine tw underlying53 MM rfl (by decide) wX MN jN s x ho base _ n1 (ps.flatMap pE) hs az.row (some ⟨g,0,none⟩) m m qs hm hx w.heap.size (ud (sub:=zj) wX qs cs hk jP hg (λ q hq'=>(hq q hq').1)) (λ h=>by cases h) (by unfold maxLen;omega) (by omega) nw ?_;intro v' w' h1 h2 h3;obtain⟨a2,c2,rfl,hp⟩:=az.grow hm hq h1 h2 h3;exact h a2 c2 w' hp h2
theorem XN {w:World}{o:Oper}{a:Act}{K:Act->World->Prop}{Q:Exit->Act->World->Prop}(s x:Operand)
  (ho:o.op=.call { callee:=.builtin .append,args:=#[s,x],argTypes:=#[53,53] })
  (base:Nat) {a1:Option Addr} {n1 c1:Nat} {ps:List Pt} (hs:a.eval s=.slice a1 n1 c1) (az:Parts w base a1 n1 c1 ps)
  (g m:Nat) (cs:Array Value) (qs:List Pt) (hm:qs.length=m) (hk:w.heap[g]?=some (.cells cs 25 (0,0))) (jP:cs.toList=qs.flatMap pE) (hx:a.eval x=.slice (some ⟨g,0,none⟩) m m)
  (hq:∀q∈qs,BytesIn w w.heap.size q.ao q.data/\(q.data≠[]->∀ad,q.ao=some ad->(Value.slice a1 n1 c1).ownBlock≠some ad.block)/\qc q) (fV:n1+m<=100000000) (nw:base<=w.heap.size)
  (h:∀a2 c2 w',Parts w' base a2 (n1+m) c2 (ps++qs)->w.grownBy w' (Value.slice a1 n1 c1).ownBlock->K (a.put o.dst (.slice a2 (n1+m) c2)) w'):Oper.wp prog o a w K Q:=by
 have hg:g<w.heap.size:=(Array.getElem?_eq_some_iff.1 hk).1;obtain⟨i0,hi,bo,bp,aU⟩:=info_parts MM;have gq:=ud (sub:=zj) (B:=w.heap.size) wX qs cs hk jP hg (λ q hq'=>(hq q hq').1);obtain⟨v',w',hr,h2,h3,_,h5⟩:=run_append_own_at (P:=prog) w base 53 o.type 25 i0 (.slice none 0 0) 1 24 underlying53 hi bo bp aU rfl (by decide) _ n1 (ps.flatMap pE) az.row ⟨g,0,none⟩ m m (qs.flatMap pE) (by rw[nT wX,hm]) (λ j u hu=>DK wX (by decide) gq (aj _ _) rfl hu) (λ u hu=>by obtain⟨y,_,hy⟩:=List.mem_flatMap.1 hu;exact MN y u hy) (by unfold maxLen;omega) (by omega) nw;unfold Oper.wp execOp;simp only[ho,resolve,invoke,builtin,Sem.run_bind,Sem.run_pure,Result.andThen_ok,List.map_toArray,List.map_cons,List.map_nil,hs,hx,hr];obtain⟨a2,c2,rfl,hp⟩:=az.grow hm hq h2 h3 h5;exact h a2 c2 w' hp h3
theorem XP {w:World}{p q:Pt}{v:Value}(h1:BytesIn w w.heap.size p.ao p.data)(h2:BytesIn w w.heap.size q.ao q.data)(hf1:∀ad,p.ao=some ad->v.ownBlock≠some ad.block)(hf2:q.data≠[]->∀ad,q.ao=some ad->v.ownBlock≠some ad.block)(ho1:qc p)(ho2:qc q) :
  ∀x∈[p,q],BytesIn w w.heap.size x.ao x.data/\(x.data≠[]->∀ad,x.ao=some ad->v.ownBlock≠some ad.block)/\qc x:=by
 intro x hx;simp only[List.mem_cons,List.not_mem_nil,or_false]at hx;rcases hx with rfl|rfl
 · exact⟨h1,λ _=>hf1,ho1⟩
 exact⟨h2,hf2,ho2⟩
theorem Gt {w':World}{B c:Nat}{a1:Option Addr}{L:List Int}(ho:w'.ownsRow B 5 1 (.slice a1 L.length c) L.length (L.map bv))(hw:BytesWf L):qc ⟨a1,c,L⟩/\BytesIn w' w'.heap.size a1 L :=
 ⟨⟨hw,iW ho,mp ho⟩,vm ho⟩
theorem Gu {w w':World}{base n c B m c1:Nat}{a a1:Option Addr}{ps:List Pt}{xs:List Value}(hP:Parts w base a n c ps)(ho:w'.ownsRow B 5 1 (.slice a1 m c1) m xs)(hB:w.heap.size<=B):∀ad,a1=some ad->(Value.slice a n c).ownBlock≠some ad.block:=by
 intro ad kM e;have h1:=(hP.lt _ e).2;have h2:=(jb ho ad.block (by rw[kM];rfl)).1;omega
theorem XQ (xs:List Int):(xs.flatMap (au 8)).length=8*xs.length:=by
 induction xs with
 | nil=>rfl
 | cons x xs ih=>rw[List.flatMap_cons,List.length_append,cV,ih,List.length_cons];omega
theorem Gv (e:dX):(df e).length=42+e.text.size+(dY e.args).length+8*e.vs.length:=by
 have h8:=XQ e.vs;simp only[df,List.length_append,List.length_cons,cV,vC,h8];omega
theorem XR {es:List En}{M:Nat}(h:∀e∈es,(df e.plain).length<=M):((es.map En.plain).flatMap df).length<=es.length*M:=by
 induction es with
 | nil=>simp
 | cons e es ih =>
  rw[List.map_cons,List.flatMap_cons,List.length_append,List.length_cons,Nat.succ_mul];have h1:=h e (by simp);have h2:=ih (λ x hx=>h x (sg _ hx));omega
theorem Gw {x:Int}(h:0<=x/\x<256):IntKind.u8.wrap x=x:=by
 unfold IntKind.wrap;simp[IntKind.signed,IntKind.bits];omega
end Go.Proofs.YtepdklfkegkojaaGreatDoor
