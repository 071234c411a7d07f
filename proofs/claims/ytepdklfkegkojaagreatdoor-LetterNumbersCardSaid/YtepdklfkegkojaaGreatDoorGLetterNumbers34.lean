/- Parts of one proof. Conditions: as each says. -/
import Derived.Test.YtepdklfkegkojaaGreatDoorGLetterNumbers0
import Derived.Test.YtepdklfkegkojaaGreatDoorGLetterNumbers33
import Derived.Test.YtepdklfkegkojaaGreatDoorGLetterNumbers16
import Derived.Test.YtepdklfkegkojaaGreatDoorGLetterNumbers4
set_option linter.all false
set_option maxHeartbeats 16000000
set_option maxRecDepth 100000
namespace Go.Proofs.YtepdklfkegkojaaGreatDoor
open Go.Proofs.Tryz
open Go.RowKit
theorem TO (T:TypeId)(h2:T≠24)(h5:T≠25)(h6:T≠42)(h20:T≠30)(h21:T≠22)(h0:T≠0)(i:Nat):T≠pR i:=by
 unfold pR;split
 · exact h2
 split
 · exact h5
 split
 · exact h6
 split
 · exact h20
 split
 · exact h21
 exact h0
theorem ab3 (i:Nat):46≠pR i:=TO _ (by decide) (by decide) (by decide) (by decide) (by decide) (by decide) i
theorem TP (i:Nat):32≠pR i:=TO _ (by decide) (by decide) (by decide) (by decide) (by decide) (by decide) i
theorem TQ {α:Type}(r:Nat->α)(i:Nat):upd r i (r i)=r:=by
 funext j;unfold upd;split
 · rename_i h;rw[h]
 rfl
theorem ab4 {α:Type}(r:Nat->α){i j:Nat}(h:i≠j)(x y x' y':α):upd (upd (upd (upd r i x) j y) i x') j y'=upd (upd r i x') j y':=by
 funext k;unfold upd
 by_cases h1:k=j
 · simp[h1]
 by_cases h2:k=i
 · simp[h2,h]
 simp[h1,h2]
theorem ab5 (B bb:Nat)(f:Nat->Value)(rows:Nat->List Value)(ck:Int)(text:ByteArray)(a:Option Addr)(n c:Nat)(num:Int)(w:World)(hb:eU w B bb f rows)(hB:B<=w.heap.size)(hm:(rows 6).length<=1000000) :
  Calls prog 222 #[.pointer (some ⟨bb,0,none⟩),.agg #[.int .u8 ck,.string text,.slice a n c,.int .i64 num]] w λ e w'=>e=.returned (.tuple #[])/\(∃f',eU w' B bb f' (upd rows 6 (rows 6++[.slice a n c])))/\Below B w w'/\ou w w':=by
 have HB:=Hd hb;have HM:=Hd hm;clear hb hm;go_enter func222,ntmps222
 go_wp2_with fail
 have tn:=HB.out.below ((aj w.heap.size w).alloc (aa _) (.cells #[.int .u8 ck,.string text,.slice a n c,.int .i64 num] 44)) (aa _);refine(abv B bb f rows a n c _ tn (by simp;omega) HM.out).mono ?_;rintro e w2 ⟨rfl,hf,am,dh⟩;have HF:=Hd hf;have ap:=((aj B w).alloc hB (.cells #[.int .u8 ck,.string text,.slice a n c,.int .i64 num] 44)).trans am;have HK:=Hd ((ou.alloc w _).trans dh);clear hf tn dh;go_wp2_with fail
 go_end0;exact⟨rfl,HF.out,ap,HK.out⟩
theorem ab6 (B bb:Nat)(f:Nat->Value)(rows:Nat->List Value)(t kd s q ck:Int)(text:ByteArray)(a:Option Addr)(n c:Nat)(num:Int)(va:Option Addr)(vn vc:Nat)(w:World)(hb:eU w B bb f rows)(hB:B<=w.heap.size)(hm:(rows 6).length<=1000000)(qn:(rows 2).length<=1000000) :
  Calls prog 204 #[.pointer (some ⟨bb,0,none⟩),.agg #[.int .i64 t,.int .u8 kd,.int .i64 s,.int .i64 q,.int .u8 ck,.string text,.slice a n c,.int .i64 num,.slice va vn vc]] w λ e w'=>e=.returned (.tuple #[])/\(∃f',eU w' B bb f' (upd (upd rows 6 (rows 6++[.slice a n c])) 2 (rows 2++[.slice va vn vc])))/\Below B w w'/\ou w w':=by
 have HB:=Hd hb;have HM:=Hd hm;have IJ:=Hd qn;clear hb hm qn;go_enter func204,ntmps204
 go_wp2_with fail
 have tn:=HB.out.below ((aj w.heap.size w).alloc (aa _) (.cells #[.int .i64 t,.int .u8 kd,.int .i64 s,.int .i64 q,.int .u8 ck,.string text,.slice a n c,.int .i64 num,.slice va vn vc] 46)) (aa _);refine(ab5 B bb f rows ck text a n c num _ tn (by simp;omega) HM.out).mono ?_;rintro e w2 ⟨rfl,⟨f2,hf⟩,am,dh⟩;have HF:=Hd hf;have ap:=((aj B w).alloc hB (.cells #[.int .i64 t,.int .u8 kd,.int .i64 s,.int .i64 q,.int .u8 ck,.string text,.slice a n c,.int .i64 num,.slice va vn vc] 46)).trans am;have eY:=dh w.heap.size _ 46 _ (heap_alloc_new w (.cells #[.int .i64 t,.int .u8 kd,.int .i64 s,.int .i64 q,.int .u8 ck,.string text,.slice a n c,.int .i64 num,.slice va vn vc] 46)) (by decide) ab3;have d8:w2.cell? ⟨w.heap.size,8,none⟩=some (.slice va vn vc):=ab eY 8;have HK:=Hd ((ou.alloc w _).trans dh);clear hf tn dh eY;go_wp2_with fail
 refine(QP B bb f2 _ va vn vc w2 HF.out (by have:=ap.size;omega) (by rw[upd_ne _ _ (by decide)];exact IJ.out)).mono ?_;rintro e w4 ⟨rfl,uV,bO,fY⟩;rw[upd_ne _ _ (show (2:Nat)≠6 by decide)]at uV;have eJ:=Hd uV;have ak:=ap.trans bO;have un:=Hd (HK.out.trans fY);clear uV fY d8;go_wp2_with fail
 go_end0;exact⟨rfl,eJ.out,ak,un.out⟩
theorem ab7 (B bb:Nat)(f:Nat->Value)(rows:Nat->List Value)(ao:Option Addr)(n c:Nat)(es:List En)(w:World)(hn:es.length=n)(hx:kV w B ao es)(hb:eU w B bb f rows)(hB:B<=w.heap.size)(hm:(rows 6).length+n<=1000000)(Dg:(rows 2).length+n<=1000000)(qn:(rows 20).length<=1000000) :
  Calls prog 150 #[.pointer (some ⟨bb,0,none⟩),.slice ao n c] w λ e w'=>e=.returned (.tuple #[])/\(∃f',eU w' B bb f' (upd (upd (upd rows 20 (rows 20++[.slice ao n c])) 6 (rows 6++es.map mt)) 2 (rows 2++es.map jn)))/\Below B w w'/\ou w w':=by
 obtain⟨i0,hi,bo,bp,aU⟩:=C9 (show (prog.info? 30).map (λ i=>(i.zero,i.size,i.bytes))=some (some (.slice none 0 0),1,24) by kernel_rfl);have c5:w.cell? ⟨bb,20,none⟩=some (f 20):=hb.cell 20 (by decide);have HB:=Hd hb;have HX:=Hd hx;have HN:=Hd hn;have HM:=Hd hm;have A1:=Hd Dg;have gL:=hb.lt;have p7:n<=1000000:=by omega
 clear hb hx hn hm Dg;obtain⟨v,hv⟩:∃v,v=f 20:=⟨_,rfl⟩;obtain⟨R,hR⟩:∃R,R=rows 20:=⟨_,rfl⟩;rw[<-hv]at c5;rw[<-hR]at qn;have HO:=Hd (show w.ownsRow B 30 1 v R.length R by rw[hv,hR];exact HB.out.own 20);have HV:=Hd hv;have HR:=Hd hR;clear hv hR;go_enter func150,ntmps150
 go_wp2_with (at_builtin;refine wpList_append_own _ rfl (.tmp 9) (.tmp 11) 117 rfl B 30 i0 (.slice none 0 0) 1 24 underlying117 hi bo bp aU rfl (by decide) v R.length R rfl (HO.out.alloc _) ⟨w.heap.size,0,none⟩ 1 1 [.slice ao n c] rfl rfl (cell_one_new _ _ _) (by simp[Value.oneCell']) (by unfold maxLen;omega) (by omega) (by simp;omega) ?_)
 intro v' w3 bj aL _;obtain⟨a3,c3,jk,_,_,_⟩:=cW bj;subst jk
 have hH:w.grownBy w3 (f 20).ownBlock:=by
  rw[<-HV.out];exact(nc w _ _).trans aL
 have iw:=HB.out.put 20 (by decide) (by decide) (v:=.slice a3 (R.length+1) c3) (x:=.slice ao n c) (by rw[<-HR.out];exact bj) hH;have ap:w3.heap[bb]?=some (.cells ((List.range 29).map f).toArray 126 (0,0)):=(hH.block bb gL (λ e=>HB.out.apart 20 e.symm)).trans HB.out.is
 have d5:w3.cell? ⟨bb,20,none⟩=some v:=by
  rw[ab ap 20,List.getElem?_toArray,List.getElem?_map,fH (by decide),HV.out];rfl
 have f5:w3.frozen? ⟨bb,20,none⟩=false:=aO ap 20;have em:Below B w (w3.setCell ⟨bb,20,none⟩ (.slice a3 (R.length+1) c3)):=(((aj B w).grown hH hB (λ k hk=>((HB.out.own 20).lt k hk).1)).setCell (p:=⟨bb,20,none⟩) HB.out.base _);have H1:=Hd iw;have H3:=Hd em;have H4:=Hd (HB.out.keeps 20 hH (.slice a3 (R.length+1) c3));clear iw em bj aL ap hH;go_wp2_with fail
 have h1:=H1.out;have h3:=H3.out;have h4:=H4.out;clear d5 f5 H1 H3 H4;generalize w3.setCell ⟨bb,20,none⟩ (.slice a3 (R.length+1) c3)=w4 at h1 h3 h4 ⊢;obtain⟨r2,lS⟩:∃r2,r2=upd rows 20 (rows 20++[.slice ao n c]):=⟨_,rfl⟩;have TR:r2 6=rows 6:=by rw[lS];exact upd_ne rows _ (by decide)
 have h22:r2 2=rows 2:=by rw[lS];exact upd_ne rows _ (by decide)
 rw[<-lS]at h1;have HR2:=Hd lS;have uZ:=Hd TR;have uY:=Hd h22;have kJ:=Hd h1;clear lS TR h22 h1 HB;go_loopw [4] (λ i wr=>∃(k:Nat),k<=n/\i=.int .i64 k/\(∃f',eU wr B bb f' (upd (upd r2 6 (rows 6++(es.take k).map mt)) 2 (rows 2++(es.take k).map jn)))/\Below B w wr/\ou w wr) (λ i _=>n-(intOf i).toNat)
 exact⟨0,by omega,rfl,⟨_,by rw[<-uZ.out,<-uY.out];simp only[List.take_zero,List.map_nil,List.append_nil];rw[TQ,TQ];exact kJ.out⟩,h3,h4⟩
 clear kJ h3 h4;obtain⟨k,hk,rfl,gY,ag,hkp⟩:=hrel;have dk:=Hd gY;have TS:=Hd hkp;clear gY hkp;have hs:=ag.size;by_cases ae:k<n
 ·
  have aQ:es[k]?=some (es[k]'(by rw[HN.out];exact ae)):=bu _;obtain⟨b,off,bm,hb,hc,_⟩:=HX.out.at aQ
  have bJ:∀V:En->Value,(es.take (k+1)).map V=(es.take k).map V++[V (es[k]'(by rw[HN.out];exact ae))]:=λ V=>by
   rw[iJ (by rw[HN.out];exact ae),List.map_append];rfl
  have hT1:=bJ mt;have Ke:=bJ jn;generalize es[k]'(by rw[HN.out];exact ae)=x at hc hT1 Ke;obtain⟨t,kd,s,q,ck,text,fQ,args,fw,num,hU,vs,ce⟩:=x;obtain⟨an,jQ⟩:∃an,args.length=an:=⟨_,rfl⟩;obtain⟨vn,bR⟩:∃vn,vs.length=vn:=⟨_,rfl⟩;have TT:(es.take (k+1)).map mt=(es.take k).map mt++[.slice fQ an fw]:=by rw[<-jQ];exact hT1
  have TU:(es.take (k+1)).map jn=(es.take k).map jn++[.slice hU vn ce]:=by rw[<-bR];exact Ke
  have HT1:=Hd TT;have HT2:=Hd TU;subst bm;have c0:wr.cell? ⟨b,off+k*9,none⟩=some (.int .i64 t):=(ag.cell (p:=⟨b,_,none⟩) hb).trans (hc 0 (by decide));have c1:wr.cell? ⟨b,off+k*9+1,none⟩=some (.int .u8 kd):=(ag.cell (p:=⟨b,_,none⟩) hb).trans (hc 1 (by decide));have c2:wr.cell? ⟨b,off+k*9+2,none⟩=some (.int .i64 s):=(ag.cell (p:=⟨b,_,none⟩) hb).trans (hc 2 (by decide));have c3:wr.cell? ⟨b,off+k*9+3,none⟩=some (.int .i64 q):=(ag.cell (p:=⟨b,_,none⟩) hb).trans (hc 3 (by decide));have c4:wr.cell? ⟨b,off+k*9+4,none⟩=some (.int .u8 ck):=(ag.cell (p:=⟨b,_,none⟩) hb).trans (hc 4 (by decide));have c5:wr.cell? ⟨b,off+k*9+5,none⟩=some (.string text):=(ag.cell (p:=⟨b,_,none⟩) hb).trans (hc 5 (by decide));have c6:wr.cell? ⟨b,off+k*9+6,none⟩=some (.slice fQ an fw):=(ag.cell (p:=⟨b,_,none⟩) hb).trans (jQ▸hc 6 (by decide));have c7:wr.cell? ⟨b,off+k*9+7,none⟩=some (.int .i64 num):=(ag.cell (p:=⟨b,_,none⟩) hb).trans (hc 7 (by decide));have c8:wr.cell? ⟨b,off+k*9+8,none⟩=some (.slice hU vn ce):=(ag.cell (p:=⟨b,_,none⟩) hb).trans (bR▸hc 8 (by decide));have i1:(k:Int)<n:=by omega
  clear hc aQ bJ hT1 Ke TT TU jQ bR;go_wp2_with fail
  obtain⟨f',hf'⟩:=dk.out;refine(ab6 B bb f' _ t kd s q ck text fQ an fw num hU vn ce wr hf' (by omega) ?_ ?_).mono ?_
  · rw[upd_ne _ _ (show (6:Nat)≠2 by decide),yu,List.length_append,List.length_map,List.length_take];have:=HM.out;omega
  · rw[yu,List.length_append,List.length_map,List.length_take];have:=A1.out;omega
  rintro e w5 ⟨rfl,rX,ak,lW⟩;rw[yu,upd_ne _ _ (show (6:Nat)≠2 by decide),yu,ab4 _ (by decide)]at rX;have H5:=Hd rX;have Im:=Hd (TS.out.trans lW);clear rX lW hf' c0 c1 c2 c3 c4 c5 c6 c7 c8;go_wp2_with fail
  go_roundw
  exact⟨k+1,by omega,by go_num,by rw[HT1.out,HT2.out,<-List.append_assoc,<-List.append_assoc];exact H5.out,ag.trans ak,Im.out⟩
  simp[intOf];omega
 obtain rfl:k=n:=by omega
 have bJ:es.take k=es:=fE (by rw[HN.out];exact aa _);have gY:=dk.out;rw[bJ,HR2.out]at gY;have ab8:=Hd gY;clear bJ gY;go_wp2_with fail
 go_end0;exact⟨rfl,ab8.out,ag,TS.out⟩
def iQ (A B C D E:List Value):Nat->List Value:=upd (upd (upd (upd (upd (λ _=>[]) 21 A) 20 B) 6 C) 5 D) 2 E
theorem ab9:iQ [] [] [] [] []=λ _=>[]:=by funext j;simp[iQ,upd]
theorem Kf (A B C D E:List Value):iQ A B C D E 21=A:=rfl
theorem Kg (A B C D E:List Value):iQ A B C D E 20=B:=rfl
theorem Kh (A B C D E:List Value):iQ A B C D E 6=C:=rfl
theorem Ki (A B C D E:List Value):iQ A B C D E 5=D:=rfl
theorem Dh (A B C D E:List Value):iQ A B C D E 2=E:=rfl
theorem tS (A B C D E:List Value)(j:Nat):iQ A B C D E j=if j=2 then E else if j=5 then D else if j=6 then C else if j=20 then B else if j=21 then A else []:=by
 unfold iQ upd;rfl
theorem aca (A B C D E X:List Value):upd (iQ A B C D E) 21 X=iQ X B C D E:=by
 funext j;rw[tS];unfold upd;rw[tS];by_cases h:j=21<;>simp[h]
theorem acb (A B C D E X:List Value):upd (iQ A B C D E) 20 X=iQ A X C D E:=by
 funext j;rw[tS];unfold upd;rw[tS];by_cases h:j=20<;>simp[h]
theorem acd (A B C D E X:List Value):upd (iQ A B C D E) 6 X=iQ A B X D E:=by
 funext j;rw[tS];unfold upd;rw[tS];by_cases h:j=6<;>simp[h]
theorem ace (A B C D E X:List Value):upd (iQ A B C D E) 5 X=iQ A B C X E:=by
 funext j;rw[tS];unfold upd;rw[tS];by_cases h:j=5<;>simp[h]
theorem TV (A B C D E X:List Value):upd (iQ A B C D E) 2 X=iQ A B C D X:=by
 funext j;rw[tS];unfold upd;rw[tS];by_cases h:j=2<;>simp[h]
def wN (x:Lt):Value:=.slice x.eo x.es.length x.ey
def tp (x:Lt):Value:=.slice x.vo x.vs.length x.ce
def wO (x:Lt):Value:=.slice x.io x.im.length x.fi
theorem acf (B bb:Nat)(f:Nat->Value)(XA XB XC XD XE:List Value)(x:Lt)(w:World)(hx:kV w B x.eo x.es)(hb:eU w B bb f (iQ XA XB XC XD XE))(hB:B<=w.heap.size)(h6:XC.length+x.es.length<=1000000)(h2:XE.length+x.es.length<=1000000)(h20:XB.length<=1000000)(h5:XD.length<=1000000) :
  Calls prog 94 #[.pointer (some ⟨bb,0,none⟩),fA x] w λ e w'=>e=.returned (.tuple #[])/\(∃f',eU w' B bb f' (iQ XA (XB++[wN x]) (XC++x.es.map mt) (XD++[wO x]) (XE++x.es.map jn++[tp x])))/\Below B w w'/\ou w w':=by
 obtain⟨kd,fr,tt,tm,ix,ws,ob,cm,rn,ea,es,ec,va,vs,vc,ia,ims,ic⟩:=x;simp only[fA,wN,tp,wO]at hx h6 h2 ⊢;obtain⟨en,kz⟩:∃en,es.length=en:=⟨_,rfl⟩;obtain⟨vn,bR⟩:∃vn,vs.length=vn:=⟨_,rfl⟩;obtain⟨im,him⟩:∃im,ims.length=im:=⟨_,rfl⟩;rw[kz,bR,him];have HB:=Hd hb;have HX:=Hd hx;have HM:=Hd (And.intro h6 (And.intro h2 (And.intro h20 (And.intro h5 kz))));clear hb hx h6 h2 h20 h5 kz bR him;go_enter func94,ntmps94
 go_wp2_with fail
 have aS:Below B w (w.alloc (.cells #[.int .u8 kd,.int .i64 fr,.int .i64 tt,.int .i64 tm,.int .i64 ix,.int .i64 ws,.bool ob,.int .i64 cm,.int .i64 rn,.slice ea en ec,.slice va vn vc,.slice ia im ic] 32)):=(aj B w).alloc hB _;have tn:=HB.out.below ((aj w.heap.size w).alloc (aa _) (.cells #[.int .u8 kd,.int .i64 fr,.int .i64 tt,.int .i64 tm,.int .i64 ix,.int .i64 ws,.bool ob,.int .i64 cm,.int .i64 rn,.slice ea en ec,.slice va vn vc,.slice ia im ic] 32)) (aa _);refine(ab7 B bb f (iQ XA XB XC XD XE) ea en ec es _ HM.out.2.2.2.2 (HX.out.below iI aS (aa _)) tn (by simp;omega) (by rw[Kh,<-HM.out.2.2.2.2];exact HM.out.1) (by rw[Dh,<-HM.out.2.2.2.2];exact HM.out.2.1) (by rw[Kg];exact HM.out.2.2.1)).mono ?_;rintro e w2 ⟨rfl,⟨f2,hf⟩,am,dh⟩;rw[Kg,Kh,Dh,acb,acd,TV]at hf;have HF:=Hd hf;have ap:=aS.trans am;have eY:=dh w.heap.size _ 32 _ (heap_alloc_new w (.cells #[.int .u8 kd,.int .i64 fr,.int .i64 tt,.int .i64 tm,.int .i64 ix,.int .i64 ws,.bool ob,.int .i64 cm,.int .i64 rn,.slice ea en ec,.slice va vn vc,.slice ia im ic] 32)) (by decide) TP;have cE:w2.cell? ⟨w.heap.size,10,none⟩=some (.slice va vn vc):=ab eY 10;have xF:=Hd eY;have HK:=Hd ((ou.alloc w (.cells #[.int .u8 kd,.int .i64 fr,.int .i64 tt,.int .i64 tm,.int .i64 ix,.int .i64 ws,.bool ob,.int .i64 cm,.int .i64 rn,.slice ea en ec,.slice va vn vc,.slice ia im ic] 32)).trans dh);clear hf tn dh eY aS;go_wp2_with fail
 refine(QP B bb f2 _ va vn vc w2 HF.out (by have:=ap.size;omega) (by rw[Dh,List.length_append,List.length_map];have:=HM.out.2.1;omega)).mono ?_;rintro e w4 ⟨rfl,⟨f4,uV⟩,bO,fY⟩;rw[Dh,TV]at uV;have eY:=fY w.heap.size _ 32 _ xF.out (by decide) TP;have cM:w4.cell? ⟨w.heap.size,11,none⟩=some (.slice ia im ic):=ab eY 11;have eJ:=Hd uV;have ak:=ap.trans bO;have un:=Hd (HK.out.trans fY);clear uV fY cE eY;go_wp2_with fail
 refine(abu B bb f4 _ ia im ic w4 eJ.out (by have:=ak.size;omega) (by rw[Ki];exact HM.out.2.2.2.1)).mono ?_;rintro e w6 ⟨rfl,⟨f6,Kj⟩,bg,np⟩;rw[Ki,ace]at Kj;have dU:=Hd Kj;have eV:=ak.trans bg;have HK6:=Hd (un.out.trans np);clear Kj np cM;go_wp2_with fail
 go_end0;exact⟨rfl,⟨_,dU.out⟩,eV,HK6.out⟩
theorem TW (B bb g c:Nat)(f:Nat->Value)(XA XB XC XD XE:List Value)(x:Lt)(w:World)(hg:w.heap[g]?=some (.cells (ai x) 32 (0,0)))(nQ:g<B)(hx:kV w B x.eo x.es)(hb:eU w B bb f (iQ XA XB XC XD XE))(hB:B<=w.heap.size)(h21:XA.length<=1000000)(h6:XC.length+x.es.length<=1000000)(h2:XE.length+x.es.length<=1000000)(h20:XB.length<=1000000)(h5:XD.length<=1000000) :
  Calls prog 58 #[.pointer (some ⟨bb,0,none⟩),.slice (some ⟨g,0,none⟩) 1 c] w λ e w'=>e=.returned (.tuple #[])/\(∃f',eU w' B bb f' (iQ (XA++[.slice (some ⟨g,0,none⟩) 1 c]) (XB++[wN x]) (XC++x.es.map mt) (XD++[wO x]) (XE++x.es.map jn++[tp x])))/\Below B w w':=by
 obtain⟨i0,hi,bo,bp,aU⟩:=C9 (show (prog.info? 22).map (λ i=>(i.zero,i.size,i.bytes))=some (some (.slice none 0 0),1,24) by kernel_rfl);have c5:w.cell? ⟨bb,21,none⟩=some (f 21):=hb.cell 21 (by decide);have HB:=Hd hb;have HX:=Hd hx;have HG:=Hd hg;have HM:=Hd (And.intro h6 (And.intro h2 (And.intro h20 h5)));have gL:=hb.lt;clear hb hx hg h6 h2 h20 h5;obtain⟨v,hv⟩:∃v,v=f 21:=⟨_,rfl⟩;obtain⟨R,hR⟩:∃R,R=XA:=⟨_,rfl⟩;rw[<-hv]at c5;rw[<-hR]at h21;have HO:=Hd (show w.ownsRow B 22 1 v R.length R by rw[hv,hR];exact HB.out.own 21);have HV:=Hd hv;have HR:=Hd hR;clear hv hR;go_enter func58,ntmps58
 go_wp2_with (at_builtin;refine wpList_append_own _ rfl (.tmp 9) (.tmp 11) 64 rfl B 22 i0 (.slice none 0 0) 1 24 underlying64 hi bo bp aU rfl (by decide) v R.length R rfl (HO.out.alloc _) ⟨w.heap.size,0,none⟩ 1 1 [.slice (some ⟨g,0,none⟩) 1 c] rfl rfl (cell_one_new _ _ _) (by simp[Value.oneCell']) (by unfold maxLen;omega) (by omega) (by simp;omega) ?_)
 intro v' w3 bj aL _;obtain⟨a3,c3,jk,_,_,_⟩:=cW bj;subst jk
 have hH:w.grownBy w3 (f 21).ownBlock:=by
  rw[<-HV.out];exact(nc w _ _).trans aL
 have iw:=HB.out.put 21 (by decide) (by decide) (v:=.slice a3 (R.length+1) c3) (x:=.slice (some ⟨g,0,none⟩) 1 c) (by rw[Kf,<-HR.out];exact bj) hH;rw[Kf,aca]at iw;have ap:w3.heap[bb]?=some (.cells ((List.range 29).map f).toArray 126 (0,0)):=(hH.block bb gL (λ e=>HB.out.apart 21 e.symm)).trans HB.out.is
 have d5:w3.cell? ⟨bb,21,none⟩=some v:=by
  rw[ab ap 21,List.getElem?_toArray,List.getElem?_map,fH (by decide),HV.out];rfl
 have f5:w3.frozen? ⟨bb,21,none⟩=false:=aO ap 21;have em:Below B w (w3.setCell ⟨bb,21,none⟩ (.slice a3 (R.length+1) c3)):=(((aj B w).grown hH hB (λ k hk=>((HB.out.own 21).lt k hk).1)).setCell (p:=⟨bb,21,none⟩) HB.out.base _);have H1:=Hd iw;have H3:=Hd em;clear iw em bj aL ap hH;go_wp2_with fail
 have h1:=H1.out;have h3:=H3.out;clear d5 f5 H1 H3;generalize w3.setCell ⟨bb,21,none⟩ (.slice a3 (R.length+1) c3)=w4 at h1 h3 ⊢;have kJ:=Hd h1;clear h1 HB;go_loopw [4] (λ i wr=>((i=.int .i64 0/\∃f',eU wr B bb f' (iQ (XA++[.slice (some ⟨g,0,none⟩) 1 c]) XB XC XD XE))∨(i=.int .i64 1/\∃f',eU wr B bb f' (iQ (XA++[.slice (some ⟨g,0,none⟩) 1 c]) (XB++[wN x]) (XC++x.es.map mt) (XD++[wO x]) (XE++x.es.map jn++[tp x]))))/\Below B w wr) (λ i _=>1-(intOf i).toNat)
 exact⟨Or.inl ⟨rfl,_,kJ.out⟩,h3⟩
 clear kJ h3;obtain⟨hrel,ag⟩:=hrel;have hs:=ag.size;rcases hrel with ⟨rfl,gY⟩|⟨rfl,gY⟩
 ·
  have dk:=Hd gY;have eY:=(ag.block g nQ).trans HG.out;have d0:wr.cell? ⟨g,0,none⟩=some (.int .u8 x.kind):=ab eY 0;have d1:wr.cell? ⟨g,1,none⟩=some (.int .i64 x.fr):=ab eY 1;have d2:wr.cell? ⟨g,2,none⟩=some (.int .i64 x.tov):=ab eY 2;have d3:wr.cell? ⟨g,3,none⟩=some (.int .i64 x.term):=ab eY 3;have d4:wr.cell? ⟨g,4,none⟩=some (.int .i64 x.index):=ab eY 4;have d5:wr.cell? ⟨g,5,none⟩=some (.int .i64 x.was):=ab eY 5;have d6:wr.cell? ⟨g,6,none⟩=some (.bool x.ok):=ab eY 6;have d7:wr.cell? ⟨g,7,none⟩=some (.int .i64 x.commit):=ab eY 7;have d8:wr.cell? ⟨g,8,none⟩=some (.int .i64 x.round):=ab eY 8;have d9:wr.cell? ⟨g,9,none⟩=some (.slice x.eo x.es.length x.ey):=ab eY 9;have cE:wr.cell? ⟨g,10,none⟩=some (.slice x.vo x.vs.length x.ce):=ab eY 10;have cM:wr.cell? ⟨g,11,none⟩=some (.slice x.io x.im.length x.fi):=ab eY 11;have In:=Hd (HX.out.below iI ag (aa _));clear gY eY;go_wp2_with fail
  obtain⟨f',hf'⟩:=dk.out;refine(acf B bb f' _ XB XC XD XE x wr In.out hf' (by omega) HM.out.1 HM.out.2.1 HM.out.2.2.1 HM.out.2.2.2).mono ?_;rintro e w5 ⟨rfl,rX,ak,_⟩;have H5:=Hd rX;clear rX hf' d0 d1 d2 d3 d4 d5 d6 d7 d8 d9 cE cM;go_wp2_with fail
  go_roundw
  exact⟨Or.inr ⟨rfl,H5.out⟩,ag.trans ak⟩
  simp[intOf]
 have dk:=Hd gY;clear gY;go_wp2_with fail
 go_end0;exact⟨rfl,dk.out,ag⟩
theorem Di {α:Type}(d:α)(V:α->Value){D:List α}(h:D.Pairwise λ x y=>(V x).ownBlock=none∨(V x).ownBlock≠(V y).ownBlock):pN D.length λ j=>V (D.getD j d):=by
 have key:∀i j,i<j->j<D.length->Sep (V (D.getD i d)) (V (D.getD j d)):=by
  intro i j bI hj b h1 h2;have:=List.pairwise_iff_getElem.1 h i j (by omega) hj bI;have e1:D.getD i d=D[i]'(by omega):=by simp[List.getD,bu (show i<D.length by omega)]
  have e2:D.getD j d=D[j]:=by simp[List.getD,bu hj]
  rw[e1]at h1;rw[e2]at h2;rcases this with h3|h3
  · rw[h3]at h1;cases h1
  exact h3 (h1.trans h2.symm)
 intro i j hi hj dj;rcases Nat.lt_or_gt_of_ne dj with h1|h1
 · exact key i j h1 hj
 exact(key j i h1 hi).symm
theorem Dj {α β:Type}(g:α->β)(d:α)(l:List α):l.map g=(List.range l.length).map λ j=>g (l.getD j d):=by
 apply List.ext_getElem?
 intro i;rw[List.getElem?_map,List.getElem?_map];by_cases hi:i<l.length
 ·
  rw[fH hi,bu hi];simp[List.getD,bu hi]
 rw[wV (by omega),wV (by simpa using hi)];rfl
structure Rw where
 v:Value
 n:Nat
 c:List Value
def tq:Rw:=⟨.slice none 0 0,0,[]⟩
def ov (x:Lt):List Rw:=x.es.map (λ e=>⟨jn e,e.vs.length,e.vs.flatMap gb⟩)++[⟨tp x,x.vs.length,x.vs.flatMap gb⟩]
def ow (x:Lt):List Rw:=x.es.map λ e=>⟨mt e,e.args.length,e.args.flatMap jl⟩
def u4 (x:Lt):Rw:=⟨wO x,x.im.length,x.im.map bv⟩
def u5 (x:Lt):Rw:=⟨wN x,x.es.length,x.es.flatMap bW⟩
theorem TX (x:Lt):(ov x).map Rw.v=x.es.map jn++[tp x]:=by simp[ov]
theorem TY (x:Lt):(ow x).map Rw.v=x.es.map mt:=by simp[ow]
def lx (w:World) (B:Nat) (T:TypeId) (sz:Nat) (r:Rw):Prop:=w.ownsRow B T sz r.v r.n r.c
theorem Fe {w:World}{B:Nat}{x:Lt}(h:dI w B x):∀r∈ov x,lx w B 3 1 r:=by
 intro r hr;rcases List.mem_append.1 hr with h1|h1
 ·
  obtain⟨e,he,rfl⟩:=List.mem_map.1 h1;exact(h.1.own e he).2
 rw[List.mem_singleton.1 h1];exact h.2.1
theorem Ff {w:World}{B:Nat}{x:Lt}(h:dI w B x):∀r∈ow x,lx w B 50 3 r:=by
 intro r hr;obtain⟨e,he,rfl⟩:=List.mem_map.1 hr;exact(h.1.own e he).1
def rF (p q:Rw):Prop:=p.v.ownBlock=none∨p.v.ownBlock≠q.v.ownBlock
theorem TZ {w:World}{B:Nat}{x:Lt}(h:dI w B x):(ow x).Pairwise rF :=
 List.pairwise_map.2 (h.1.sep.imp λ h=>h.1)
theorem T0 {w:World}{B:Nat}{x:Lt}(h:dI w B x)(hv:∀e∈x.es,sp e x):(ov x).Pairwise rF:=by
 refine List.pairwise_append.2 ⟨List.pairwise_map.2 (h.1.sep.imp λ h=>h.2),BR _ _,?_⟩;intro p hp q hq;obtain⟨e,he,rfl⟩:=List.mem_map.1 hp;rw[List.mem_singleton.1 hq];cases hg:(jn e).ownBlock with
 | none=>exact Or.inl hg
 | some g=>exact Or.inr λ e2=>hv e he g hg (by rw[<-hg];exact e2.symm)
theorem Fg {w w0:World}{B M:Nat}{T T2:TypeId}{sz sz2:Nat}{p q:Rw}(h:lx w0 B T sz p)(h2:lx w M T2 sz2 q)(hM:w0.heap.size<=M):rF p q:=by
 cases hg:p.v.ownBlock with
 | none=>exact Or.inl hg
 | some g=>exact Or.inr λ e=>absurd (jb h2 g (by rw[<-e];exact hg)).1 (by have h3:=(jb h g hg).2;omega)
def mV (D:List Rw) (j:Nat):Rw:=D.getD j tq
theorem A2 (D:List Rw)(j:Nat)(h:j<D.length):mV D j∈D:=by
 unfold mV;simp[List.getD,bu h]
theorem Dk {w:World}{B:Nat}{T:TypeId}{sz:Nat}{D:List Rw}(h:∀r∈D,lx w B T sz r):bf B T sz D.length (λ j=>(mV D j).v) (λ j=>(mV D j).n) (λ j=>(mV D j).c) w :=
 λ j hj=>h _ (A2 D j hj)
theorem Dl {w w':World}{B B':Nat}{T:TypeId}{sz:Nat}{D:List Rw}(h:∀r∈D,lx w B T sz r)(hb:Below B' w w')(hB:w.heap.size<=B'):∀r∈D,lx w' B T sz r:=λ r hr=>own_below (h r hr) hb hB
theorem T3 {w:World}{B B2:Nat}{T:TypeId}{sz:Nat}{D:List Rw}(h:∀r∈D,lx w B T sz r)(hB:B2<=B):∀r∈D,lx w B2 T sz r:=λ r hr=>fh (h r hr) hB
theorem T4 {w:World}{B g:Nat}{x:Lt}(h:w.heap[g]?=some (.cells (ai x) 32 (0,0)))(hg:B<=g):w.ownsRow B 32 12 (.slice (some ⟨g,0,none⟩) 1 1) 1 (ai x).toList :=
 ⟨rfl,Or.inr ⟨g,1,ai x,rfl,hg,h,aa _,by unfold maxLen;omega,rfl,rfl⟩⟩
theorem T5 {x:Lt}(h:cy x):∀r∈ov x,r.n<=1099511627776:=by
 intro r hr;rcases List.mem_append.1 hr with h1|h1
 ·
  obtain⟨e,he,rfl⟩:=List.mem_map.1 h1;have:=(h.es e he).vn;show e.vs.length<=_;omega
 rw[List.mem_singleton.1 h1];have:=h.vn;show x.vs.length<=_;omega
theorem T6 {x:Lt}(h:cy x):∀r∈ow x,r.n<=1099511627776:=by
 intro r hr;obtain⟨e,he,rfl⟩:=List.mem_map.1 hr;have:=(h.es e he).args;show e.args.length<=_;omega
structure Dm (w:World) (B:Nat) (I Y V E L:List Rw):Prop where
 oI:∀r∈I,lx w B 3 1 r
 sI:I.Pairwise rF
 lI:I.length<=100000
 nI:∀r∈I,r.n<=1099511627776
 oY:∀r∈Y,lx w B 5 1 r
 sY:Y.Pairwise rF
 lY:Y.length<=100000
 nY:∀r∈Y,r.n<=1099511627776
 oV:∀r∈V,lx w B 50 3 r
 sV:V.Pairwise rF
 lV:V.length<=100000
 nV:∀r∈V,r.n<=1099511627776
 oE:∀r∈E,lx w B 46 9 r
 sE:E.Pairwise rF
 lE:E.length<=100000
 nE:∀r∈E,r.n<=1099511627776
 oL:∀r∈L,lx w B 32 12 r
 sL:L.Pairwise rF
 lL:L.length<=100000
 nL:∀r∈L,r.n<=500000000000
theorem Dm.below {w w':World}{B:Nat}{I Y V E L:List Rw}(h:Dm w B I Y V E L)(hb:Below w.heap.size w w'):Dm w' B I Y V E L :=
 { h with oI:=Dl h.oI hb (aa _),oY:=Dl h.oY hb (aa _),oV:=Dl h.oV hb (aa _),oE:=Dl h.oE hb (aa _),oL:=Dl h.oL hb (aa _) }
theorem acj {B Bb bb:Nat}{f:Nat->Value}{XA XB XC XD XE:List Value}{w:World}{I Y V E L:List Rw}(hb:eU w Bb bb f (iQ XA XB XC XD XE))(h:Dm w B I Y V E L)(hB:B<=w.heap.size)(hBb:B<=Bb)(hI:I.map Rw.v=XE)(hV:V.map Rw.v=XC)(hY:Y.map Rw.v=XD:=by rfl)(hE:E.map Rw.v=XB:=by rfl)(hL:L.map Rw.v=XA:=by rfl) :
  Calls prog 59 #[.pointer (some ⟨bb,0,none⟩)] w λ e w'=>e=.returned (.bool true)/\Below B w w':=by
 refine(abG B Bb bb f _ w hb hB hBb
  I.length (λ j=>(mV I j).v) (λ j=>(mV I j).n) (λ j=>(mV I j).c) (by rw[Dh,<-hI];exact Dj Rw.v tq I) (Dk h.oI) (Di tq Rw.v h.sI) h.lI (λ j hj=>h.nI _ (A2 I j hj))
  Y.length (λ j=>(mV Y j).v) (λ j=>(mV Y j).n) (λ j=>(mV Y j).c) (by rw[Ki,<-hY];exact Dj Rw.v tq Y) (Dk h.oY) (Di tq Rw.v h.sY) h.lY (λ j hj=>h.nY _ (A2 Y j hj))
  V.length (λ j=>(mV V j).v) (λ j=>(mV V j).n) (λ j=>(mV V j).c) (by rw[Kh,<-hV];exact Dj Rw.v tq V) (Dk h.oV) (Di tq Rw.v h.sV) h.lV (λ j hj=>h.nV _ (A2 V j hj))
  E.length (λ j=>(mV E j).v) (λ j=>(mV E j).n) (λ j=>(mV E j).c) (by rw[Kg,<-hE];exact Dj Rw.v tq E) (Dk h.oE) (Di tq Rw.v h.sE) h.lE (λ j hj=>h.nE _ (A2 E j hj))
  L.length (λ j=>(mV L j).v) (λ j=>(mV L j).n) (λ j=>(mV L j).c) (by rw[Kf,<-hL];exact Dj Rw.v tq L) (Dk h.oL) (Di tq Rw.v h.sL) h.lL (λ j hj=>h.nL _ (A2 L j hj))).mono ?_
 rintro e w' ⟨h1,h2,_⟩;exact⟨h1,h2⟩
def LsK (v1 v2:Value) (x y:Lt) (B bb:Nat) (i:Value) (w:World):Prop :=
 (i=.int .i64 0/\∃f',eU w B bb f' (iQ [] [] [] [] []))∨(i=.int .i64 1/\∃f',eU w B bb f' (iQ [v1] [wN x] (x.es.map mt) [wO x] (x.es.map jn++[tp x])))∨(i=.int .i64 2/\∃f',eU w B bb f' (iQ [v1,v2] [wN x,wN y] (x.es.map mt++y.es.map mt) [wO x,wO y] (x.es.map jn++[tp x]++y.es.map jn++[tp y])))
theorem acl (B M lb lc g1 g2 k1 k2:Nat)(x y:Lt)(w0 w:World)(hc0:w.cell? ⟨lb,0,none⟩=some (.slice (some ⟨g1,0,none⟩) 1 k1))(pW:w.cell? ⟨lb,1,none⟩=some (.slice (some ⟨g2,0,none⟩) 1 k2))(pw:lb<w.heap.size)
  (ba:w.heap[g1]?=some (.cells (ai x) 32 (0,0))) (am:w.heap[g2]?=some (.cells (ai y) 32 (0,0))) (kN:B<=g1) (ax:B<=g2) (dj:g1≠g2) (dH:k1=1) (dh:k2=1)
  (h0:dI w0 B x) (h1:dI w B x) (h2:dI w M y) (hM:w0.heap.size<=M) (yX:B<=M) (hB:B<=w.heap.size) (qo:∀e∈x.es,sp e x) (kw:∀e∈y.es,sp e y) (hx:cy x) (hy:cy y) (he1:x.es.length<=40000) (he2:y.es.length<=40000) :
  Calls prog 29 #[.slice (some ⟨lb,0,none⟩) 2 lc] w λ e w'=>e=.returned (.bool true)/\Below B w w':=by
 subst dH dh;have zc:kV w w.heap.size x.eo x.es:=(zW h1).1;have r6:kV w w.heap.size y.eo y.es:=(zW h2).1;have hsI:(ov x++ov y).Pairwise rF:=List.pairwise_append.2 ⟨T0 h1 qo,T0 h2 kw,λ p hp q hq=>Fg (Fe h0 p hp) (Fe h2 q hq) hM⟩;have T7:(ow x++ow y).Pairwise rF:=List.pairwise_append.2 ⟨TZ h1,TZ h2,λ p hp q hq=>Fg (Ff h0 p hp) (Ff h2 q hq) hM⟩
 have hsB:[u4 x,u4 y].Pairwise rF:=by
  refine List.pairwise_cons.2 ⟨λ q hq=>?_,BR _ _⟩;rw[List.mem_singleton.1 hq];exact Fg (show lx w0 B 5 1 (u4 x)from h0.2.2) (show lx w M 5 1 (u4 y)from h2.2.2) hM
 have T8:[u5 x,u5 y].Pairwise rF:=by
  refine List.pairwise_cons.2 ⟨λ q hq=>?_,BR _ _⟩;rw[List.mem_singleton.1 hq];exact Fg (show lx w0 B 46 9 (u5 x)from h0.1.row) (show lx w M 46 9 (u5 y)from h2.1.row) hM
 have T9:∀r∈ov x++ov y,lx w B 3 1 r:=λ r hr=>by
  rcases List.mem_append.1 hr with h|h
  · exact Fe h1 r h
  exact T3 (Fe h2) yX r h
 have Ua:∀r∈ow x++ow y,lx w B 50 3 r:=λ r hr=>by
  rcases List.mem_append.1 hr with h|h
  · exact Ff h1 r h
  exact T3 (Ff h2) yX r h
 have Ub:∀r∈[u4 x,u4 y],lx w B 5 1 r:=λ r hr=>by
  rcases List.mem_cons.1 hr with rfl|h
  · exact h1.2.2
  rw[List.mem_singleton.1 h];exact fh h2.2.2 yX
 have Uc:∀r∈[u5 x,u5 y],lx w B 46 9 r:=λ r hr=>by
  rcases List.mem_cons.1 hr with rfl|h
  · exact h1.1.row
  rw[List.mem_singleton.1 h];exact fh h2.1.row yX
 have Ud:∀r∈[(⟨.slice (some ⟨g1,0,none⟩) 1 1,1,(ai x).toList⟩:Rw),⟨.slice (some ⟨g2,0,none⟩) 1 1,1,(ai y).toList⟩],lx w B 32 12 r:=λ r hr=>by
  rcases List.mem_cons.1 hr with rfl|h
  · exact T4 ba kN
  rw[List.mem_singleton.1 h];exact T4 am ax
 have hsL:[(⟨.slice (some ⟨g1,0,none⟩) 1 1,1,(ai x).toList⟩:Rw),⟨.slice (some ⟨g2,0,none⟩) 1 1,1,(ai y).toList⟩].Pairwise rF:=by
  refine List.pairwise_cons.2 ⟨λ q hq=>?_,BR _ _⟩;rw[List.mem_singleton.1 hq];exact Or.inr (by simp[Value.ownBlock,dj])
 have Ue:∀r∈ov x++ov y,r.n<=1099511627776:=λ r hr=>by
  rcases List.mem_append.1 hr with h|h
  · exact T5 hx r h
  exact T5 hy r h
 have Uf:∀r∈ow x++ow y,r.n<=1099511627776:=λ r hr=>by
  rcases List.mem_append.1 hr with h|h
  · exact T6 hx r h
  exact T6 hy r h
 have Ug:(ov x++ov y).length<=100000:=by simp[ov];omega
 have Uh:(ow x++ow y).length<=100000:=by simp[ow];omega
 have Ui:x.im.length<=1099511627776/\y.im.length<=1099511627776:=by have:=hx.ln;have:=hy.ln;omega
 have Dg:(ov x++ov y).map Rw.v=x.es.map jn++[tp x]++y.es.map jn++[tp y]:=by rw[List.map_append,TX,TX];simp[List.append_assoc]
 have Uj:(ow x++ow y).map Rw.v=x.es.map mt++y.es.map mt:=by rw[List.map_append,TY,TY]
 have acm:=Hd zc;have Eg:=Hd r6
 have HF:=Hd (show Dm w B (ov x++ov y) [u4 x,u4 y] (ow x++ow y) [u5 x,u5 y] [⟨.slice (some ⟨g1,0,none⟩) 1 1,1,(ai x).toList⟩,⟨.slice (some ⟨g2,0,none⟩) 1 1,1,(ai y).toList⟩]from
  ⟨T9,hsI,Ug,Ue,Ub,hsB,(by simp),(by simpa[u4]using Ui),Ua,T7,Uh,Uf,Uc,T8,(by simp),(by simp[u5];omega),Ud,hsL,(by simp),(by simp)⟩)
 have A1:=Hd Dg;have HMV:=Hd Uj;have HC0:=Hd hc0;have HC1:=Hd pW;have ev:=Hd ba;have bF:=Hd am;have nz:g1<w.heap.size:=(Array.getElem?_eq_some_iff.1 ba).1;have kP:g2<w.heap.size:=(Array.getElem?_eq_some_iff.1 am).1;clear zc r6 hsI T7 hsB T8 T9 Ua Ub Uc Ud hsL Ue Uf Ug Uh Ui Dg Uj hc0 pW ba am h0 h1 h2 qo kw hx hy kN ax hM yX;go_enter func29,ntmps29
 go_wp2_with fail
 have dl:eU (w.alloc _) w.heap.size w.heap.size (λ _=>.slice none 0 0) (λ _=>[]):=eU.made w;have iG:Below w.heap.size w (w.alloc (.cells ((List.range 29).map λ _=>Value.slice none 0 0).toArray 126)):=(aj _ _).alloc (aa _) _;have du:((List.range 29).map λ _=>Value.slice none 0 0).toArray=#[.slice none 0 0,.slice none 0 0,.slice none 0 0,.slice none 0 0,.slice none 0 0,.slice none 0 0,.slice none 0 0,.slice none 0 0,.slice none 0 0,.slice none 0 0,.slice none 0 0,.slice none 0 0,.slice none 0 0,.slice none 0 0,.slice none 0 0,.slice none 0 0,.slice none 0 0,.slice none 0 0,.slice none 0 0,.slice none 0 0,.slice none 0 0,.slice none 0 0,.slice none 0 0,.slice none 0 0,.slice none 0 0,.slice none 0 0,.slice none 0 0,.slice none 0 0,.slice none 0 0]:=rfl;rw[du]at dl iG;have ur:=Hd iG;clear iG du;generalize w.alloc _=w1 at dl ur ⊢;have iG:=ur.out;have mg:=Hd dl;clear ur dl;go_loopw [4] (λ i wr=>LsK (.slice (some ⟨g1,0,none⟩) 1 1) (.slice (some ⟨g2,0,none⟩) 1 1) x y w.heap.size w.heap.size i wr/\Below w.heap.size w wr) (λ i _=>2-(intOf i).toNat)
 exact⟨Or.inl ⟨rfl,_,by rw[ab9];exact mg.out⟩,iG⟩
 clear iG mg;obtain⟨hrel,ag⟩:=hrel;have hs:=ag.size;have c0:wr.cell? ⟨lb,0,none⟩=some (.slice (some ⟨g1,0,none⟩) 1 1):=(ag.cell (p:=⟨lb,0,none⟩) pw).trans HC0.out;have c1':wr.cell? ⟨lb,1,none⟩=some (.slice (some ⟨g2,0,none⟩) 1 1):=(ag.cell (p:=⟨lb,1,none⟩) pw).trans HC1.out;rcases hrel with ⟨rfl,gY⟩|⟨rfl,gY⟩|⟨rfl,gY⟩
 ·
  have dk:=Hd gY;clear gY;go_wp2_with fail
  obtain⟨f',hf'⟩:=dk.out;refine(TW w.heap.size w.heap.size g1 1 f' [] [] [] [] [] x wr ((ag.block g1 nz).trans ev.out) nz (acm.out.below iI ag (aa _)) hf' hs (by simp) (by simp;omega) (by simp;omega) (by simp) (by simp)).mono ?_;rintro e w5 ⟨rfl,rX,ak⟩;have H5:=Hd rX;clear rX hf' c0 c1';go_wp2_with fail
  go_roundw
  exact⟨Or.inr (Or.inl ⟨rfl,by simpa using H5.out⟩),ag.trans ak⟩
  simp[intOf]
 ·
  have dk:=Hd gY;clear gY;go_wp2_with fail
  obtain⟨f',hf'⟩:=dk.out;refine(TW w.heap.size w.heap.size g2 1 f' _ _ _ _ _ y wr ((ag.block g2 kP).trans bF.out) kP (Eg.out.below iI ag (aa _)) hf' hs (by simp) (by simp;omega) (by simp;omega) (by simp) (by simp)).mono ?_;rintro e w5 ⟨rfl,rX,ak⟩;have H5:=Hd rX;clear rX hf' c0 c1';go_wp2_with fail
  go_roundw
  exact⟨Or.inr (Or.inr ⟨rfl,H5.out⟩),ag.trans ak⟩
  simp[intOf]
 have dk:=Hd gY;clear gY c0 c1';go_wp2_with fail
 obtain⟨f',hf'⟩:=dk.out;refine(acj hf' (HF.out.below ag) (by omega) (by omega) A1.out HMV.out).mono ?_;rintro e w6 ⟨rfl,bg⟩;go_wp2_with fail
 go_ret;exact⟨rfl,(ag.mono (by omega)).trans bg⟩
end Go.Proofs.YtepdklfkegkojaaGreatDoor
