/- Parts of one proof. Conditions: as each says. -/
import Derived.Test.YtepdklfkegkojaaGreatDoorGLetterNumbers0
import Derived.Test.YtepdklfkegkojaaGreatDoorGLetterNumbers37
set_option linter.all false
set_option maxHeartbeats 16000000
set_option maxRecDepth 100000
namespace Go.Proofs.YtepdklfkegkojaaGreatDoor
open Go.Proofs.Tryz
open Go.RowKit
theorem ada {w:World}{base:Nat}{e f:En}(hf:gV f)(hp:f.plain=e.plain)(ho:ja w base e):gV e:=by
 obtain⟨x0,x1,x2,x3,ck,text,ao,fd,fc,num,vo,vs,vc⟩:=f;obtain⟨y0,y1,y2,y3,ck2,jV,Ec,Pr,fc2,kD,ww,vs2,dG⟩:=e;simp only[En.plain,dX.mk.injEq]at hp;obtain⟨rfl,rfl,rfl,rfl,rfl,rfl,rfl,rfl,rfl⟩:=hp;obtain⟨wf,h2,h3,h4,h5,h6⟩:=hf;exact⟨⟨wf.term,wf.kind,wf.session,wf.seq,wf.ck,wf.text,wf.args,wf.num,wf.vs,wf.F7,wf.vn,iW ho.1,iW ho.2,mp ho.1,mp ho.2⟩,h2,h3,h4,h5,h6⟩
theorem dI.fine {w:World}{base:Nat}{x l:Lt}(h:dI w base x)(hp:x.plain=l.plain)(hf:cy l):cy x:=by
 obtain⟨h1,h2,h3⟩:=h;obtain⟨kd,fr,tt,tm,ix,ws,ob,cm,rn,ea,es,ec,va,vs,vc,ia,im,ic⟩:=x;obtain⟨oK,su,sw,sx,sy,sA,sB,sC,sD,ir,es2,iB,fR,vs2,dG,om,uJ,jc⟩:=l;simp only[Lt.plain,cQ.mk.injEq]at hp;obtain⟨rfl,rfl,rfl,rfl,rfl,rfl,rfl,rfl,rfl,nN,rfl,rfl⟩:=hp;have hn:es.length=es2.length:=by have:=congrArg List.length nN;simpa using this
 refine⟨hf.kind,hf.fr,hf.tov,hf.term,hf.index,hf.was,hf.commit,hf.round,λ e he=>?_,by have:=hf.en;dsimp only at this ⊢;omega,hf.vs,hf.vn,hf.im,hf.ln,iW h1.row,iW h2,iW h3,mp h3⟩;obtain⟨f,hf2,lA⟩:=IQ nN he;exact ada (hf.es f hf2) lA (h1.own e he)
theorem adb (ao:Option Addr)(cap n:Nat)(fs:List En)(w:World)(hn:fs.length=n)(hx:kV w w.heap.size ao fs)(hq:∀e∈fs,gV e)(hl:n<=4000000) :
  Calls prog 60 #[.slice ao n cap] w (W2 fs n w):=by
 obtain⟨i0,hi,bo,bp,aU⟩:=info_parts tX;have HX:=Hd hx;have HQ:=Hd hq;have HN:=Hd hn;clear hx hq hn;go_enter func60,ntmps60
 go_wp2_with fail
 go_loopw [3,4] (λ v i wr=>∃(k:Nat) (cd:List En),k<=n/\i=.int .i64 k/\cd.map En.plain=(fs.take k).map En.plain/\gU wr w.heap.size v cd/\cd.length=k/\Below w.heap.size w wr) (λ _ i _=>n-(intOf i).toNat)
 exact⟨0,[],by omega,rfl,by simp,gU.nil _ _,rfl,aj _ _⟩
 obtain⟨k,cd,hk,rfl,oC,ho,hfl,ag⟩:=hrel;have HM:=Hd oC;have HO:=Hd ho;have vD:=Hd hfl;have hs:=ag.size;obtain⟨av,cv,hav⟩:=jz ho.row;subst hav;clear oC ho;rw[hfl]at HO ⊢;clear hfl;by_cases ae:k<n
 ·
  have hlt':k<fs.length:=by rw[HN.out];exact ae
  have aQ:fs[k]?=some (fs[k]'hlt'):=bu hlt';obtain⟨b,off,bm,hb,hc,eC⟩:=HX.out.at aQ;have pX:=HQ.out _ (mC hlt')
  have bJ:(fs.take (k+1)).map En.plain=(fs.take k).map En.plain++[(fs[k]'hlt').plain]:=by
   rw[iJ hlt',List.map_append];rfl
  generalize fs[k]'hlt'=f at hc pX bJ eC;have aY:wr.rangeAt b (off+k*9) (bW f):=λ j v hv=>(ag.cell (p:=⟨b,_,none⟩) hb).trans ((hc j (List.getElem?_eq_some_iff.1 hv).1).trans hv)
  have HT:=Hd bJ;have HC:=Hd (mi _ _ _ _ (iI _ _ _ _ _ eC ag (aa _)) hs);have yh:=Hd pX;have i1:(k:Int)<n:=by omega
  subst bm;clear hc aQ bJ eC pX;go_wp2_with (refine wpList_load_mid rfl 46 (.tmp 14) rfl b (off+k*9) rfl _ _ aY uT rfl Fo ?_)
  refine(ac9 f wr HC.out yh.out).mono ?_;rintro e w3 ⟨y,rfl,hyp,Vn,ap⟩;have kW:=Hd (HO.out.below ap (aa _));have qg:=ag.trans (ap.mono hs);have cA:=qg.size;have HE3:=Hd (Vn.le (by omega:wr.heap.size<=wr.heap.size+2));have HY:=Hd hyp;clear Vn hyp aY ap;obtain⟨y0,y1,y2,y3,ck,text,ga,fd,gc,num,da,vs,dc⟩:=y;simp only[bW];go_wp2_with (at_builtin;refine wpList_append_own_at _ rfl (.tmp 17) (.tmp 19) 30 rfl w.heap.size 46 i0 (.agg #[.int .i64 0,.int .u8 0,.int .i64 0,.int .i64 0,.int .u8 0,.string ByteArray.empty,.slice none 0 0,.int .i64 0,.slice none 0 0]) 9 112 rc hi bo bp aU rfl (by decide) (.slice av k cv) k (cd.flatMap bW) rfl (by have h:=kW.out.row;rw[vD.out]at h;exact(h.alloc _).alloc _) ⟨w3.heap.size+1,0,none⟩ 1 1 (bW ⟨y0,y1,y2,y3,ck,text,ga,fd,gc,num,da,vs,dc⟩) rfl rfl ?c1 (DM _) (by unfold maxLen;omega) (by omega) (by simp;omega) ?_)
  case c1 =>
   have:=qf (w3.alloc (.cells (bW ⟨y0,y1,y2,y3,ck,text,ga,fd,gc,num,da,vs,dc⟩).toArray 46)) 46 (bW ⟨y0,y1,y2,y3,ck,text,ga,fd,gc,num,da,vs,dc⟩);rw[World.size_alloc]at this;exact this
  intro v4 w4 tz qp _ _;have ii:=((aj w3.heap.size w3).alloc (aa _) (.cells (bW ⟨y0,y1,y2,y3,ck,text,ga,fd,gc,num,da,vs,dc⟩).toArray 46)).alloc (by simp) (.cells (bW ⟨y0,y1,y2,y3,ck,text,ga,fd,gc,num,da,vs,dc⟩).toArray 46);have hA:=kW.out.below ii (aa _);have jB:=gU.push (wp:=wr) (B:=wr.heap.size) hA (λ f hf=>HO.out.own f hf) (aa _) hs (HE3.out.below ii (aa _)) (by rw[vD.out];exact tz) qp;have bO:=(qg.trans (ii.mono cA)).grown qp (by have:=ii.size;omega) (λ g hg=>(jb hA.row g hg).1);have uI:=Hd jB;clear tz qp hA jB ii;go_wp2_with fail
  go_roundw
  exact⟨k+1,_,by omega,by go_num,by rw[HT.out,List.map_append,HM.out,<-HY.out];rfl,uI.out,by rw[List.length_append,vD.out];rfl,bO⟩
  simp[intOf];omega
 obtain rfl:k=n:=by omega
 go_wp2_with fail
 go_ret;exact⟨av,cv,cd,rfl,HO.out,by rw[HM.out,fE (by rw[HN.out];omega)],ag⟩
theorem dI.gr {w w':World}{base b:Nat}{x:Lt}(h:dI w base x)(hg:w.grownBy w' (some b))(hb:b<base):dI w' base x :=
 ⟨⟨jL h.1.row hg hb,λ e he=>⟨jL (h.1.own e he).1 hg hb,jL (h.1.own e he).2 hg hb⟩,h.1.sep⟩,jL h.2.1 hg hb,jL h.2.2 hg hb⟩
theorem adf (x:Lt)(w:World)(hx:fG w w.heap.size x)(hf:cy x) :
  Calls prog 30 #[fA x] w λ e w'=>∃y:Lt,e=.returned (fA y)/\y.plain=x.plain/\dI w' (w.heap.size+2) y/\(∀e∈y.es,sp e y)/\cy y/\Below w.heap.size w w':=by
 have hs:=j7.start w 32 (ai x) (ai bM);have HF:=Hd hf;obtain⟨kd,fr,tt,tm,ix,ws,ob,cm,rn,eo,es,ec,vo,vs,vc,io,im,ic⟩:=x;obtain⟨n,hn⟩:∃n,es.length=n:=⟨_,rfl⟩;obtain⟨m,hm⟩:∃m,vs.length=m:=⟨_,rfl⟩;obtain⟨l,hl⟩:∃l,im.length=l:=⟨_,rfl⟩;have HX:=Hd hx;simp only[ai,fA,bM]at hs ⊢;simp only[List.length_nil]at hs;rw[hn,hm,hl]at hs ⊢;have HS:=Hd hs;have HN:=Hd hn;have HM:=Hd hm;have HL:=Hd hl;have m8:n<=4000000:=by rw[<-hn];exact hf.en
 have hfm:m<=4000000:=by rw[<-hm];exact hf.vn
 have hfl:l<=4000000:=by rw[<-hl];exact hf.ln
 clear hx hf hs hn hm hl;go_enter func30,ntmps30
 go_upto_region 1 with fail
 generalize (w.alloc (.cells #[.int .u8 kd,.int .i64 fr,.int .i64 tt,.int .i64 tm,.int .i64 ix,.int .i64 ws,.bool ob,.int .i64 cm,.int .i64 rn,.slice eo n ec,.slice vo m vc,.slice io l ic] 32)).alloc (.cells #[.int .u8 0,.int .i64 0,.int .i64 0,.int .i64 0,.int .i64 0,.int .i64 0,.bool false,.int .i64 0,.int .i64 0,.slice none 0 0,.slice none 0 0,.slice none 0 0] 32)=w2 at HS ⊢;have c9:=ab HS.out.a 9;go_wp2_with fail
 refine(adb eo ec n es w2 HN.out ((HX.out.1.below iI HS.out.l (aa _)).mono mi HS.out.l.size) HF.out.es m8).mono ?_;rintro e w3 ⟨ea,ac,es2,rfl,hO,lA,ap⟩;have HO:=Hd (hO.le HS.out.s);have HS:=Hd (HS.out.grow ap);have HP:=Hd lA;clear c9 hO ap lA;have c9:=ab HS.out.a 9;have u9:=aO HS.out.a 9;go_upto_region 2 with fail
 have HS:=Hd (HS.out.set 9 (.slice ea n ac) rfl);have hg:=mX w3 w.heap.size 9 (.slice ea n ac);have HO:=Hd (gU.mk (jL HO.out.row hg (by omega)) (λ e he=>⟨jL (HO.out.own e he).1 hg (by omega),jL (HO.out.own e he).2 hg (by omega)⟩) HO.out.sep);clear c9 u9 hg;generalize w3.setCell ⟨w.heap.size,9,none⟩ (.slice ea n ac)=w4 at HS HO ⊢;have c10:=ab HS.out.a 10;go_wp2_with fail
 refine(Vl vo m vc vs w4 HM.out ((HX.out.2.1.below cn HS.out.l (aa _)).mono cK HS.out.l.size) HF.out.sj (by omega)).mono ?_;rintro e w5 ⟨va,dG,rfl,hV,ak⟩
 have Kz:=Hd (show ∀e∈es2,∀g,(jn e).ownBlock=some g->(Value.slice va m dG).ownBlock≠some g from λ e he g hq ke=>by
  have:=((HO.out.own e he).2.lt g hq).2;have:=(jb hV g ke).1;omega)
 have HV:=Hd (fh hV HS.out.s);have HO:=Hd (HO.out.below ak (aa _));have HS:=Hd (HS.out.grow ak);clear c10 hV ak;have c10:=ab HS.out.a 10;have u10:=aO HS.out.a 10;go_upto_region 3 with fail
 have HS:=Hd (HS.out.set 10 (.slice va m dG) rfl);have hg:=mX w5 w.heap.size 10 (.slice va m dG);have HV:=Hd (jL HV.out hg (by omega));have HO:=Hd (gU.mk (jL HO.out.row hg (by omega)) (λ e he=>⟨jL (HO.out.own e he).1 hg (by omega),jL (HO.out.own e he).2 hg (by omega)⟩) HO.out.sep);clear c10 u10 hg;generalize w5.setCell ⟨w.heap.size,10,none⟩ (.slice va m dG)=w6 at HS HO HV ⊢;have c11:=ab HS.out.a 11;go_wp2_with fail
 refine(EP io l ic im w6 w6.heap.size HL.out ((HX.out.2.2.below HS.out.l (aa _)).mono HS.out.l.size) (aa _) HF.out.tE (by omega)).mono ?_;rintro e w7 ⟨ia,jc,rfl,hI,eV⟩;have HI:=Hd (fh hI HS.out.s);have HO:=Hd (HO.out.below eV (aa _));have HV:=Hd (own_below HV.out eV (aa _));have HS:=Hd (HS.out.grow eV);clear c11 hI eV;have c11:=ab HS.out.a 11;have u11:=aO HS.out.a 11;go_upto_region 4 with fail
 have HS:=Hd (HS.out.set 11 (.slice ia l jc) rfl);have hg:=mX w7 w.heap.size 11 (.slice ia l jc);have h2:n=es2.length:=by have:=congrArg List.length HP.out;rw[List.length_map,List.length_map,HN.out]at this;exact this.symm
 have hm:=HM.out;have hl:=HL.out;have HY:=Hd (show dI (w7.setCell ⟨w.heap.size,11,none⟩ (.slice ia l jc)) (w.heap.size+2) ⟨kd,fr,tt,tm,ix,ws,ob,cm,rn,ea,es2,ac,va,vs,dG,ia,im,jc⟩from dI.gr (by subst h2 hm hl;exact⟨HO.out,HV.out,HI.out⟩) hg (by omega));have HEQ:=Hd (show ai ⟨kd,fr,tt,tm,ix,ws,ob,cm,rn,ea,es2,ac,va,vs,dG,ia,im,jc⟩=#[.int .u8 kd,.int .i64 fr,.int .i64 tt,.int .i64 tm,.int .i64 ix,.int .i64 ws,.bool ob,.int .i64 cm,.int .i64 rn,.slice ea n ac,.slice va m dG,.slice ia l jc] by subst h2 hm hl;rfl);clear c11 u11 hg h2 hm hl;generalize w7.setCell ⟨w.heap.size,11,none⟩ (.slice ia l jc)=w8 at HS HY ⊢;have aY:=HS.out.rng;have hk:=HS.out.b;go_wp2_with (first|(refine wpList_load_mid rfl 32 (.tmp 1) rfl w.heap.size 0 rfl _ _ aY cL rfl info_lt ?_)|(refine wpList_store_row rfl 32 (.tmp 2) (.tmp 15) rfl (w.heap.size+1) #[.int .u8 kd,.int .i64 fr,.int .i64 tt,.int .i64 tm,.int .i64 ix,.int .i64 ws,.bool ob,.int .i64 cm,.int .i64 rn,.slice ea n ac,.slice va m dG,.slice ia l jc] rfl rfl 32 _ hk info_lt rfl (by simp[Value.oneCell']) ?_))
 have hS:=HS.out.row #[.int .u8 kd,.int .i64 fr,.int .i64 tt,.int .i64 tm,.int .i64 ix,.int .i64 ws,.bool ob,.int .i64 cm,.int .i64 rn,.slice ea n ac,.slice va m dG,.slice ia l jc];have hp:(⟨kd,fr,tt,tm,ix,ws,ob,cm,rn,ea,es2,ac,va,vs,dG,ia,im,jc⟩:Lt).plain=(⟨kd,fr,tt,tm,ix,ws,ob,cm,rn,eo,es,ec,vo,vs,vc,io,im,ic⟩:Lt).plain:=by simp only[Lt.plain,HP.out]
 have hY:=HY.out.gr (tU w8 (w.heap.size+1) #[.int .u8 kd,.int .i64 fr,.int .i64 tt,.int .i64 tm,.int .i64 ix,.int .i64 ws,.bool ob,.int .i64 cm,.int .i64 rn,.slice ea n ac,.slice va m dG,.slice ia l jc]) (by omega);exact bodyPost_ret (results_cell_row rfl _ _ (w.heap.size+1) 32 _ _ _ rfl hS.b cL rfl info_lt) rfl ⟨_,congrArg (λ a=>Ending.returned (.agg a)) HEQ.out.symm,hp,hY,λ e he=>(by have h:=Kz.out e he;rw[<-HM.out]at h;exact h),hY.fine hp HF.out,hS.l⟩
structure jx (w:World) (b:Nat) (z:Lt):Prop where
 row:w.ownsRow b 46 9 (.slice z.eo z.es.length z.ey) z.es.length (z.es.flatMap bW)
 own:∀e∈z.es,ja w b e
 vs:w.ownsRow b 3 1 (.slice z.vo z.vs.length z.ce) z.vs.length (z.vs.flatMap gb)
 im:w.ownsRow b 5 1 (.slice z.io z.im.length z.fi) z.im.length (z.im.map bv)
theorem dI.o {w:World}{b:Nat}{z:Lt}(h:dI w b z):jx w b z:=⟨h.1.row,h.1.own,h.2.1,h.2.2⟩
theorem adi {u v:Value}(h:∀g,u.ownBlock=some g->v.ownBlock≠some g):u.ownBlock=none∨u.ownBlock≠v.ownBlock:=by
 cases hq:u.ownBlock with
 | none=>exact Or.inl rfl
 | some q=>exact Or.inr λ e=>h q hq e.symm
theorem jx.sub {w:World}{b:Nat}{z:Lt}(h:jx w b z):fG w w.heap.size z :=
 ⟨mH mh rfl h.row λ e he=>(h.own e he).sub,mH mA rfl h.vs λ _ _=>trivial,wA rfl h.im⟩
theorem jx.gr {w w':World}{b g:Nat}{z:Lt}(h:jx w b z)(hg:w.grownBy w' (some g))(hb:g<b):jx w' b z :=
 ⟨jL h.row hg hb,λ e he=>⟨jL (h.own e he).1 hg hb,jL (h.own e he).2 hg hb⟩,jL h.vs hg hb,jL h.im hg hb⟩
theorem jx.ents {w w':World}{b m:Nat}{z:Lt}{news:List En}{v:Value}(h:jx w b z)(hn:∀f∈news,ja w b f)(hm:news.length=m)(az:w'.ownsRow b 46 9 v (z.es.length+m) (z.es.flatMap bW++news.flatMap bW))(hg:w.grownBy w' (Value.slice z.eo z.es.length z.ey).ownBlock) :
  ∃a c,v=.slice a (z.es.length+m) c/\jx w' b { z with eo:=a,es:=z.es++news,ey:=c }:=by
 obtain⟨a,c,rfl⟩:=jz az;refine⟨a,c,rfl,?_,λ e he=>?_,h.vs.kept hg (cp h.vs h.row (by decide)),h.im.kept hg (cp h.im h.row (by decide))⟩
 ·
  dsimp only;rw[List.length_append,hm,List.flatMap_append];exact az
 have he2:ja w b e:=(List.mem_append.1 he).elim (h.own e) (hn e);exact⟨he2.1.kept hg (cp he2.1 h.row (by decide)),he2.2.kept hg (cp he2.2 h.row (by decide))⟩
theorem jx.ints {w w':World}{b:Nat}{z:Lt}{u:Int}{v:Value}(h:jx w b z)(ha:∀e∈z.es,sp e z)(az:w'.ownsRow b 3 1 v (z.vs.length+1) (z.vs.flatMap gb++[.int .i64 u]))(hg:w.grownBy w' (Value.slice z.vo z.vs.length z.ce).ownBlock) :
  ∃a c,v=.slice a (z.vs.length+1) c/\jx w' b { z with vo:=a,vs:=z.vs++[u],ce:=c }:=by
 obtain⟨a,c,rfl⟩:=jz az;refine⟨a,c,rfl,h.row.kept hg (cp h.row h.vs (by decide)),λ e he=>⟨(h.own e he).1.kept hg (cp (h.own e he).1 h.vs (by decide)),?_⟩,?_,h.im.kept hg (cp h.im h.vs (by decide))⟩
 · exact(h.own e he).2.kept hg (adi (ha e he))
 dsimp only;rw[List.length_append,List.flatMap_append];exact az
theorem jx.byte {w w':World}{b:Nat}{z:Lt}{u:Int}{v:Value}(h:jx w b z)(az:w'.ownsRow b 5 1 v (z.im.length+1) (z.im.map bv++[.int .u8 u]))(hg:w.grownBy w' (Value.slice z.io z.im.length z.fi).ownBlock) :
  ∃a c,v=.slice a (z.im.length+1) c/\jx w' b { z with io:=a,im:=z.im++[u],fi:=c }:=by
 obtain⟨a,c,rfl⟩:=jz az;refine⟨a,c,rfl,h.row.kept hg (cp h.row h.im (by decide)),λ e he=>⟨(h.own e he).1.kept hg (cp (h.own e he).1 h.im (by decide)),(h.own e he).2.kept hg (cp (h.own e he).2 h.im (by decide))⟩,h.vs.kept hg (cp h.vs h.im (by decide)),?_⟩;dsimp only;rw[List.length_append,List.map_append];exact az
structure fK (W:World) (z:Lt) (w:World):Prop where
 c:j7 W 32 (ai z) (ai bM) w
 o:jx w (W.heap.size+2) z
theorem fK.set {W w:World}{z z':Lt}(h:fK W z w)(i:Nat)(v:Value)(e:(ai z).setIfInBounds i v=ai z')(ho:∀w,jx w (W.heap.size+2) z->jx w (W.heap.size+2) z'):fK W z' (w.setCell ⟨W.heap.size,i,none⟩ v) :=
 ⟨h.c.set i v e,ho _ (h.o.gr (mX w _ i v) (by omega))⟩
theorem j7.adj {W w:World}{T:TypeId}{A B:Array Value}(h:j7 W T A B w)(C:Array Value):j7 W T C B (w.setRow W.heap.size C) :=
 ⟨setRow_heap w _ _ C T _ h.a,(setRow_other w _ _ C (by omega)).trans h.b,h.l.grown (tU w _ C) h.l.size (λ k hk=>by cases hk;exact aa _),by simpa using h.s⟩
theorem jx.le {w:World}{b b':Nat}{z:Lt}(h:jx w b z)(hb:b'<=b):jx w b' z :=
 ⟨fh h.row hb,λ e he=>(h.own e he).le hb,fh h.vs hb,fh h.im hb⟩
theorem jx.below {w w':World}{b:Nat}{z:Lt}(h:jx w b z)(hb:Below w.heap.size w w'):jx w' b z :=
 ⟨own_below h.row hb (aa _),λ e he=>(h.own e he).below hb (aa _),own_below h.vs hb (aa _),own_below h.im hb (aa _)⟩
theorem fK.al {W w:World}{z:Lt}(h:fK W z w)(o:Obj):fK W z (w.alloc o):=by
 have hb:=(aj w.heap.size w).alloc (aa _) o;exact⟨h.c.grow hb,h.o.below hb⟩
theorem j7.grown {W w w':World}{T:TypeId}{A B:Array Value}{r:Option Nat}(h:j7 W T A B w)(hg:w.grownBy w' r)(hr:∀k,r=some k->W.heap.size+2<=k):j7 W T A B w':=by
 have:=h.s;have:=hg.size;exact⟨(hg.block _ (by omega) (λ e=>by have:=hr _ e.symm;omega)).trans h.a,(hg.block _ (by omega) (λ e=>by have:=hr _ e.symm;omega)).trans h.b,h.l.grown hg h.l.size (λ k hk=>by have:=hr k hk;omega),by omega⟩
theorem A5 {ops:Array Oper}{rest:List Oper}{o:Oper}{a:Act}{Q:Exit->Act->World->Prop}{W w:World}{y:Lt}(jN:o.guard=none)(s x:Operand)(ho:o.op=.call { callee:=.builtin .append,args:=#[s,x],argTypes:=#[30,30] })
  (hs:a.eval s=.slice y.eo y.es.length y.ey) (hB:fK W y w) (hy:y.es.length<=100) (news:List En) (m g:Nat) (hm:news.length=m) (qn:m<=2) (hx:a.eval x=.slice (some ⟨g,0,none⟩) m m) (hk:w.heap[g]?=some (.cells (news.flatMap bW).toArray 46 (0,0))) (hn:∀f∈news,ja w (W.heap.size+2) f)
  (h:∀a' c w',j7 W 32 (ai y) (ai bM) w'->jx w' (W.heap.size+2) { y with eo:=a',es:=y.es++news,ey:=c }->wpList prog ops Q rest (a.put o.dst (.slice a' (y.es.length+m) c)) w'):wpList prog ops Q (o :: rest) a w:=by
 obtain⟨i0,hi,bo,bp,aU⟩:=info_parts tX;have bP:=hB.c.s;refine wpList_append_own_at _ jN s x 30 ho (W.heap.size+2) 46 i0 _ 9 112 rc hi bo bp aU rfl (by decide) _ y.es.length (y.es.flatMap bW) hs hB.o.row ⟨g,0,none⟩ m m (news.flatMap bW) hx (by rw[nT mh,hm]) (λ j u hu=>?_) (λ u hu=>?_) (by unfold maxLen;omega) (by omega) bP (λ v' w' h1 h2 _ _=>?_)
 ·
  have hadd:(⟨g,0,none⟩:Addr).add j=⟨g,j,none⟩:=by unfold Addr.add;split<;>simp_all
  rw[hadd,ab hk];simpa using hu
 ·
  obtain⟨e,_,he⟩:=List.mem_flatMap.1 hu;exact DM e u he
 obtain⟨a',c,rfl,hO⟩:=hB.o.ents hn hm h1 h2;exact h a' c w' (hB.c.grown h2 (λ k hk=>(hB.o.row.lt k hk).1)) hO
theorem new7 {w:World}{n:Nat}{o:Obj}(h:n=w.heap.size):(w.alloc o).heap[n]?=some o:=h▸heap_alloc_new w o
theorem Dx (w:World)(b:Nat)(t k s q ck num:Int)(text:ByteArray):ja w b ⟨t,k,s,q,ck,text,none,[],0,num,none,[],0⟩:=⟨iK _ _ _ _,iK _ _ _ _⟩
theorem Vo (x:Int):(Lit.int .u8 (x % 256)).wf=true:=zA (by omega)
theorem wP {t k s q ck num:Int}{ao vo:Option Addr}{args:List Va}{vs:List Int}{ac vc:Nat}(ht:bH t)(hk:(Lit.int .u8 k).wf=true)(hs:bH s)(hq:bH q)(hc:(Lit.int .u8 ck).wf=true)(hn:bH num)(ha:∀v∈args,um v/\v.text.size=0)(aS:args.length<=1)(hv:∀v∈vs,bH v)(hvl:vs.length<=2)(h1:ao=none->ac=0)(h2:vo=none->vc=0)(h3:args.length<=ac)(h4:vs.length<=vc):gV ⟨t,k,s,q,ck,⟨#[]⟩,ao,args,ac,num,vo,vs,vc⟩:=by
 refine⟨⟨ni ht,hk,ni hs,ni hq,hc,iX _,λ v hv=>(ha v hv).1,ni hn,λ v h=>ni (hv v h),by dsimp only;omega,by dsimp only;omega,h1,h2,h3,h4⟩,iX _,by dsimp only;omega,by dsimp only;omega,λ v hv=>by rw[(ha v hv).2];exact iX _,?_⟩;dsimp only;unfold dY;rw[List.length_append,cV];match args,aS with
 | [],_=>simp
 | [v],_ =>
  have:=KY v;have:=(ha v (List.mem_singleton.2 rfl)).2;simp only[List.flatMap_cons,List.flatMap_nil,List.append_nil];omega
theorem cy.ents {y:Lt}{a:Option Addr}{c:Nat}{news:List En}{w:World}{b:Nat}(h:cy y)(hn:∀f∈news,gV f)(hl:y.es.length<=100)(cG:news.length<=2)(ho:jx w b { y with eo:=a,es:=y.es++news,ey:=c }):cy { y with eo:=a,es:=y.es++news,ey:=c } :=
 { h with es:=λ e he=>(List.mem_append.1 he).elim (h.es e) (hn e),en:=(by dsimp only;rw[List.length_append];omega),zB:=iW ho.row }
theorem u8_in (x:Int):0<=x % 256/\x % 256<256:=by omega
theorem KB (x:Lt)(n:Nat)(v:Int)(w:World)(hx:fG w w.heap.size x)(hf:cy x)(hs:x.es.length<=100/\x.vs.length<=100/\x.im.length<=100)(hn:n<17)(hv:bH v) :
  Calls prog 9 #[fA x,.int .i64 n,.int .i64 v] w λ e w'=>∃z,e=.returned (fA z)/\jx w' (w.heap.size+2) z/\cy z/\Below w.heap.size w w':=by
 have HC:=Hd (j7.start w 32 (ai x) (ai bM));have HX:=Hd hx;have HF:=Hd hf;have HZ:=Hd hs;have HV:=Hd hv;obtain⟨nn,oz⟩:∃nn:Int,(n:Int)=nn:=⟨_,rfl⟩;rw[oz];have dW:0<=nn/\nn<17:=by omega
 clear hx hf hs hn oz hv;unfold fA;go_enter func9,ntmps9
 go_upto_region 1 with fail
 change Code.wp _ _ _ _ ((w.alloc (.cells (ai x) 32)).alloc (.cells (ai bM) 32));have HC:=Hd (show j7 w 32 (ai x) (ai bM) ((w.alloc (.cells (ai x) 32)).alloc (.cells (ai bM) 32))from HC.out);generalize (w.alloc (.cells (ai x) 32)).alloc (.cells (ai bM) 32)=w2 at HC ⊢;have aY:=HC.out.rng;go_wp2_with (refine wpList_load_mid rfl 32 (.tmp 3) rfl w.heap.size 0 rfl (ai x).toList _ aY cL rfl (eN x) ?_)
 refine(adf x w2 (nZ (nj HX.out HC.out.l (aa _)) HC.out.l.size) HF.out).mono ?_;rintro e w3 ⟨y,rfl,hp,ho,hap,Do,ap⟩;have hc3:=HC.out.grow ap;have bL:=hc3.a;have HO:=Hd (jx.gr (dI.o ho) (tU w3 w.heap.size (ai y)) (by have:=HC.out.s;omega));have HB:=Hd (hc3.adj (ai y));have Kz:=Hd hap;have HG:=Hd Do
 have hz:y.es.length<=100/\y.vs.length<=100/\y.im.length<=100:=by
  have h:=HZ.out;have h1:=congrArg (λ p=>(p.es.length,p.vs,p.im)) hp;simp only[Lt.plain,List.length_map,Prod.mk.injEq]at h1;rw[h1.1,h1.2.1,h1.2.2];exact h
 have HZ:=Hd hz;clear aY hp ho hap Do ap hz;go_upto_region 2 with (refine wpList_store_row rfl 32 (.tmp 3) (.tmp 8) rfl w.heap.size (ai y) rfl (by first|rfl|simp) 32 _ bL (fD y) rfl (gB y) ?_)
 clear bL hc3;have HS:=Hd (fK.mk HB.out (HO.out.le (by have:=HC.out.s;omega)));clear HB HO;generalize w3.setRow w.heap.size (ai y)=w4 at HS ⊢;clear HC HX HF;obtain⟨i0,hi,bo,bp,aU⟩:=info_parts tX;have hb:=HV.out;unfold bH at hb;rcases(show nn=0∨nn=1∨nn=2∨nn=3∨nn=4∨nn=5∨nn=6∨nn=7∨nn=8∨nn=9∨nn=10∨nn=11∨nn=12∨nn=13∨nn=14∨nn=15∨nn=16 by omega)with rfl|rfl|rfl|rfl|rfl|rfl|rfl|rfl|rfl|rfl|rfl|rfl|rfl|rfl|rfl|rfl|rfl
 focus
  have c:w4.cell? ⟨w.heap.size,0,none⟩=some (.int .u8 y.kind):=ab HS.out.c.a 0;have u:=aO HS.out.c.a 0;go_upto_region 36 with fail
  have HS:=Hd (HS.out.set (z':={ y with kind:=v % 256 }) 0 (.int .u8 (v % 256)) rfl (λ _ h=>⟨h.row,h.own,h.vs,h.im⟩));clear c u;generalize w4.setCell ⟨w.heap.size,0,none⟩ (.int .u8 (v % 256))=w5 at HS ⊢;obtain⟨z,HS,HG⟩:∃z,Hid (fK w z w5)/\Hid (cy z):=⟨_,HS,Hd (show cy { y with kind:=v % 256 } from { HG.out with kind:=u8_in v })⟩
 rotate_left
 focus
  have c:w4.cell? ⟨w.heap.size,1,none⟩=some (.int .i64 y.fr):=ab HS.out.c.a 1;have u:=aO HS.out.c.a 1;go_upto_region 36 with fail
  have HS:=Hd (HS.out.set (z':={ y with fr:=v }) 1 (.int .i64 v) rfl (λ _ h=>⟨h.row,h.own,h.vs,h.im⟩));clear c u;generalize w4.setCell ⟨w.heap.size,1,none⟩ (.int .i64 v)=w5 at HS ⊢;obtain⟨z,HS,HG⟩:∃z,Hid (fK w z w5)/\Hid (cy z):=⟨_,HS,Hd (show cy { y with fr:=v } from { HG.out with fr:=HV.out })⟩
 rotate_left
 focus
  have c:w4.cell? ⟨w.heap.size,2,none⟩=some (.int .i64 y.tov):=ab HS.out.c.a 2;have u:=aO HS.out.c.a 2;go_upto_region 36 with fail
  have HS:=Hd (HS.out.set (z':={ y with tov:=v }) 2 (.int .i64 v) rfl (λ _ h=>⟨h.row,h.own,h.vs,h.im⟩));clear c u;generalize w4.setCell ⟨w.heap.size,2,none⟩ (.int .i64 v)=w5 at HS ⊢;obtain⟨z,HS,HG⟩:∃z,Hid (fK w z w5)/\Hid (cy z):=⟨_,HS,Hd (show cy { y with tov:=v } from { HG.out with tov:=HV.out })⟩
 rotate_left
 focus
  have c:w4.cell? ⟨w.heap.size,3,none⟩=some (.int .i64 y.term):=ab HS.out.c.a 3;have u:=aO HS.out.c.a 3;go_upto_region 36 with fail
  have HS:=Hd (HS.out.set (z':={ y with term:=v }) 3 (.int .i64 v) rfl (λ _ h=>⟨h.row,h.own,h.vs,h.im⟩));clear c u;generalize w4.setCell ⟨w.heap.size,3,none⟩ (.int .i64 v)=w5 at HS ⊢;obtain⟨z,HS,HG⟩:∃z,Hid (fK w z w5)/\Hid (cy z):=⟨_,HS,Hd (show cy { y with term:=v } from { HG.out with term:=HV.out })⟩
 rotate_left
 focus
  have c:w4.cell? ⟨w.heap.size,4,none⟩=some (.int .i64 y.index):=ab HS.out.c.a 4;have u:=aO HS.out.c.a 4;go_upto_region 36 with fail
  have HS:=Hd (HS.out.set (z':={ y with index:=v }) 4 (.int .i64 v) rfl (λ _ h=>⟨h.row,h.own,h.vs,h.im⟩));clear c u;generalize w4.setCell ⟨w.heap.size,4,none⟩ (.int .i64 v)=w5 at HS ⊢;obtain⟨z,HS,HG⟩:∃z,Hid (fK w z w5)/\Hid (cy z):=⟨_,HS,Hd (show cy { y with index:=v } from { HG.out with index:=HV.out })⟩
 rotate_left
 focus
  have c:w4.cell? ⟨w.heap.size,5,none⟩=some (.int .i64 y.was):=ab HS.out.c.a 5;have u:=aO HS.out.c.a 5;go_upto_region 36 with fail
  have HS:=Hd (HS.out.set (z':={ y with was:=v }) 5 (.int .i64 v) rfl (λ _ h=>⟨h.row,h.own,h.vs,h.im⟩));clear c u;generalize w4.setCell ⟨w.heap.size,5,none⟩ (.int .i64 v)=w5 at HS ⊢;obtain⟨z,HS,HG⟩:∃z,Hid (fK w z w5)/\Hid (cy z):=⟨_,HS,Hd (show cy { y with was:=v } from { HG.out with was:=HV.out })⟩
 rotate_left
 focus
  have c:w4.cell? ⟨w.heap.size,6,none⟩=some (.bool y.ok):=ab HS.out.c.a 6;have u:=aO HS.out.c.a 6;go_upto_region 36 with fail
  have HS:=Hd (HS.out.set (z':={ y with ok:=!y.ok }) 6 (.bool (!y.ok)) rfl (λ _ h=>⟨h.row,h.own,h.vs,h.im⟩));clear c u;generalize w4.setCell ⟨w.heap.size,6,none⟩ (.bool (!y.ok))=w5 at HS ⊢;obtain⟨z,HS,HG⟩:∃z,Hid (fK w z w5)/\Hid (cy z):=⟨_,HS,Hd (show cy { y with ok:=!y.ok } from { HG.out with })⟩
 rotate_left
 focus
  have c:w4.cell? ⟨w.heap.size,7,none⟩=some (.int .i64 y.commit):=ab HS.out.c.a 7;have u:=aO HS.out.c.a 7;go_upto_region 36 with fail
  have HS:=Hd (HS.out.set (z':={ y with commit:=v }) 7 (.int .i64 v) rfl (λ _ h=>⟨h.row,h.own,h.vs,h.im⟩));clear c u;generalize w4.setCell ⟨w.heap.size,7,none⟩ (.int .i64 v)=w5 at HS ⊢;obtain⟨z,HS,HG⟩:∃z,Hid (fK w z w5)/\Hid (cy z):=⟨_,HS,Hd (show cy { y with commit:=v } from { HG.out with commit:=HV.out })⟩
 rotate_left
 focus
  have c:w4.cell? ⟨w.heap.size,8,none⟩=some (.int .i64 y.round):=ab HS.out.c.a 8;have u:=aO HS.out.c.a 8;go_upto_region 36 with fail
  have HS:=Hd (HS.out.set (z':={ y with round:=v }) 8 (.int .i64 v) rfl (λ _ h=>⟨h.row,h.own,h.vs,h.im⟩));clear c u;generalize w4.setCell ⟨w.heap.size,8,none⟩ (.int .i64 v)=w5 at HS ⊢;obtain⟨z,HS,HG⟩:∃z,Hid (fK w z w5)/\Hid (cy z):=⟨_,HS,Hd (show cy { y with round:=v } from { HG.out with round:=HV.out })⟩
 rotate_left
 focus
  obtain⟨i9,hi9,hy0,mc,me⟩:=info_parts tY;have de:=HS.out.o.vs.alloc (.cells #[.int .i64 v] 3);have c:w4.cell? ⟨w.heap.size,10,none⟩=some (.slice y.vo y.vs.length y.ce):=ab HS.out.c.a 10;have bP:=HS.out.c.s;go_wp2_with (at_builtin;refine wpList_append_own_at _ rfl (.tmp 63) (.tmp 65) 24 rfl (w.heap.size+2) 3 i9 (.int .i64 0) 1 8 qr hi9 hy0 mc me rfl (by decide) _ _ (y.vs.flatMap gb) rfl de ⟨w4.heap.size,0,none⟩ 1 1 [.int .i64 v] rfl rfl (qf _ _ _) (by simp[Value.oneCell']) (by have:=HZ.out;unfold maxLen;omega) (by have:=HZ.out;omega) (by simp;omega) ?_)
  intro v5 w5 h1 h2 _ _;obtain⟨a',cc,rfl,hO⟩:=(HS.out.al (.cells #[.int .i64 v] 3)).o.ints Kz.out h1 h2;have hc:=(HS.out.al (.cells #[.int .i64 v] 3)).c.grown h2 (λ k hk=>((HS.out.al (.cells #[.int .i64 v] 3)).o.vs.lt k hk).1);have HO:=Hd hO;have HC:=Hd hc;have HN:=Hd (show cy { y with vo:=a',vs:=y.vs++[v],ce:=cc } from { HG.out with vs:=λ u hu=>(List.mem_append.1 hu).elim (HG.out.vs u) (λ h=>by rw[List.mem_singleton.1 h];exact HV.out),vn:=(by have:=HZ.out;dsimp only;rw[List.length_append,List.length_singleton];omega),sj:=iW hO.vs });clear c h1 h2 hO hc de bP;have c:w5.cell? ⟨w.heap.size,10,none⟩=some (.slice y.vo y.vs.length y.ce):=ab HC.out.a 10;have u:=aO HC.out.a 10;go_upto_region 36 with fail
  have HS:=Hd (fK.mk (HC.out.set 10 _ (show _=ai { y with vo:=a',vs:=y.vs++[v],ce:=cc } by unfold ai;dsimp only;rw[List.length_append];rfl)) (HO.out.gr (mX w5 w.heap.size 10 _) (by omega)));clear c u HO HC;generalize w5.setCell ⟨w.heap.size,10,none⟩ _=w5 at HS ⊢;obtain⟨z,HS,HG⟩:∃z,Hid (fK w z w5)/\Hid (cy z):=⟨_,HS,HN⟩
 rotate_left
 focus
  obtain⟨i9,hi9,hy0,mc,me⟩:=info_parts infoByte;have de:=HS.out.o.im.alloc (.cells #[.int .u8 (v % 256)] 5);have c:w4.cell? ⟨w.heap.size,11,none⟩=some (.slice y.io y.im.length y.fi):=ab HS.out.c.a 11;have bP:=HS.out.c.s;go_wp2_with (at_builtin;refine wpList_append_own_at _ rfl (.tmp 71) (.tmp 74) 25 rfl (w.heap.size+2) 5 i9 (.int .u8 0) 1 1 hJ hi9 hy0 mc me rfl (by decide) _ _ (y.im.map bv) rfl de ⟨w4.heap.size,0,none⟩ 1 1 [.int .u8 (v % 256)] rfl rfl (qf _ _ _) (by simp[Value.oneCell']) (by have:=HZ.out;unfold maxLen;omega) (by have:=HZ.out;omega) (by simp;omega) ?_)
  intro v5 w5 h1 h2 _ _;obtain⟨a',cc,rfl,hO⟩:=(HS.out.al (.cells #[.int .u8 (v % 256)] 5)).o.byte h1 h2;have hc:=(HS.out.al (.cells #[.int .u8 (v % 256)] 5)).c.grown h2 (λ k hk=>((HS.out.al (.cells #[.int .u8 (v % 256)] 5)).o.im.lt k hk).1);have HO:=Hd hO;have HC:=Hd hc;have HN:=Hd (show cy { y with io:=a',im:=y.im++[v % 256],fi:=cc } from { HG.out with im:=λ u hu=>(List.mem_append.1 hu).elim (HG.out.im u) (λ h=>by rw[List.mem_singleton.1 h];exact u8_in v),ln:=(by have:=HZ.out;dsimp only;rw[List.length_append,List.length_singleton];omega),tE:=iW hO.im,fi:=mp hO.im });clear c h1 h2 hO hc de bP;have c:w5.cell? ⟨w.heap.size,11,none⟩=some (.slice y.io y.im.length y.fi):=ab HC.out.a 11;have u:=aO HC.out.a 11;go_upto_region 36 with fail
  have HS:=Hd (fK.mk (HC.out.set 11 _ (show _=ai { y with io:=a',im:=y.im++[v % 256],fi:=cc } by unfold ai;dsimp only;rw[List.length_append];rfl)) (HO.out.gr (mX w5 w.heap.size 11 _) (by omega)));clear c u HO HC;generalize w5.setCell ⟨w.heap.size,11,none⟩ _=w5 at HS ⊢;obtain⟨z,HS,HG⟩:∃z,Hid (fK w z w5)/\Hid (cy z):=⟨_,HS,HN⟩
 rotate_left
 focus
  obtain⟨news,cF⟩:∃news:List En,[⟨v,1,0,0,0,⟨#[]⟩,none,[],0,0,none,[],0⟩]=news:=⟨_,rfl⟩;have hB:fK w y (w4.alloc (.cells (news.flatMap bW).toArray 46)):=(HS.out).al _;have hk:(w4.alloc (.cells (news.flatMap bW).toArray 46)).heap[w4.heap.size]?=some (.cells (news.flatMap bW).toArray 46 (0,0)):=new7 (by simp);have bP:=HS.out.c.s
  have ho:∀f∈news,ja (w4.alloc (.cells (news.flatMap bW).toArray 46)) (w.heap.size+2) f/\gV f:=by
   subst cF;intro f hf;simp only[List.mem_cons,List.not_mem_nil,or_false]at hf;subst hf;exact⟨Dx _ _ _ _ _ _ _ _ _,wP HV.out (rfl) (by unfold bH;omega) (by unfold bH;omega) (rfl) (by unfold bH;omega) (λ v h=>by cases h) (by decide) (λ v h=>by cases h) (by decide) (λ _=>rfl) (λ _=>rfl) (aa _) (aa _)⟩
  have hm:news.length=1:=by rw[<-cF];rfl
  subst cF;have c:w4.cell? ⟨w.heap.size,9,none⟩=some (.slice y.eo y.es.length y.ey):=ab HS.out.c.a 9;go_wp2_with (at_builtin;refine A5 rfl (.tmp 80) (.tmp 83) rfl rfl hB HZ.out.1 _ 1 (w4.heap.size) hm (by decide) rfl hk (λ f hf=>(ho f hf).1) ?_)
  intro a' cc w5 hc hO;have HN:=Hd (HG.out.ents (λ f hf=>(ho f hf).2) HZ.out.1 (by rw[hm];decide) hO);have HO:=Hd hO;have HC:=Hd hc;clear c hO hc hB hk ho hm bP;have c:w5.cell? ⟨w.heap.size,9,none⟩=some (.slice y.eo y.es.length y.ey):=ab HC.out.a 9;have u:=aO HC.out.a 9;go_upto_region 36 with fail
  have HS:=Hd (fK.mk (HC.out.set 9 _ (show _=ai { y with eo:=a',es:=y.es++_,ey:=cc } by unfold ai;dsimp only;rw[List.length_append];rfl)) (HO.out.gr (mX w5 w.heap.size 9 _) (by omega)));clear c u HO HC;generalize w5.setCell ⟨w.heap.size,9,none⟩ _=w5 at HS ⊢;obtain⟨z,HS,HG⟩:∃z,Hid (fK w z w5)/\Hid (cy z):=⟨_,HS,HN⟩
 rotate_left
 focus
  obtain⟨news,cF⟩:∃news:List En,[⟨0,v % 256,0,0,0,⟨#[]⟩,none,[],0,0,none,[],0⟩]=news:=⟨_,rfl⟩;have hB:fK w y (w4.alloc (.cells (news.flatMap bW).toArray 46)):=(HS.out).al _;have hk:(w4.alloc (.cells (news.flatMap bW).toArray 46)).heap[w4.heap.size]?=some (.cells (news.flatMap bW).toArray 46 (0,0)):=new7 (by simp);have bP:=HS.out.c.s
  have ho:∀f∈news,ja (w4.alloc (.cells (news.flatMap bW).toArray 46)) (w.heap.size+2) f/\gV f:=by
   subst cF;intro f hf;simp only[List.mem_cons,List.not_mem_nil,or_false]at hf;subst hf;exact⟨Dx _ _ _ _ _ _ _ _ _,wP (by unfold bH;omega) (Vo v) (by unfold bH;omega) (by unfold bH;omega) (rfl) (by unfold bH;omega) (λ v h=>by cases h) (by decide) (λ v h=>by cases h) (by decide) (λ _=>rfl) (λ _=>rfl) (aa _) (aa _)⟩
  have hm:news.length=1:=by rw[<-cF];rfl
  subst cF;have c:w4.cell? ⟨w.heap.size,9,none⟩=some (.slice y.eo y.es.length y.ey):=ab HS.out.c.a 9;go_wp2_with (at_builtin;refine A5 rfl (.tmp 89) (.tmp 93) rfl rfl hB HZ.out.1 _ 1 (w4.heap.size) hm (by decide) rfl hk (λ f hf=>(ho f hf).1) ?_)
  intro a' cc w5 hc hO;have HN:=Hd (HG.out.ents (λ f hf=>(ho f hf).2) HZ.out.1 (by rw[hm];decide) hO);have HO:=Hd hO;have HC:=Hd hc;clear c hO hc hB hk ho hm bP;have c:w5.cell? ⟨w.heap.size,9,none⟩=some (.slice y.eo y.es.length y.ey):=ab HC.out.a 9;have u:=aO HC.out.a 9;go_upto_region 36 with fail
  have HS:=Hd (fK.mk (HC.out.set 9 _ (show _=ai { y with eo:=a',es:=y.es++_,ey:=cc } by unfold ai;dsimp only;rw[List.length_append];rfl)) (HO.out.gr (mX w5 w.heap.size 9 _) (by omega)));clear c u HO HC;generalize w5.setCell ⟨w.heap.size,9,none⟩ _=w5 at HS ⊢;obtain⟨z,HS,HG⟩:∃z,Hid (fK w z w5)/\Hid (cy z):=⟨_,HS,HN⟩
 rotate_left
 focus
  obtain⟨news,cF⟩:∃news:List En,[⟨0,2,v,1,0,⟨#[]⟩,none,[],0,0,none,[],0⟩,⟨0,2,0,v,0,⟨#[]⟩,none,[],0,0,none,[],0⟩]=news:=⟨_,rfl⟩;have hB:fK w y (w4.alloc (.cells (news.flatMap bW).toArray 46)):=(HS.out).al _;have hk:(w4.alloc (.cells (news.flatMap bW).toArray 46)).heap[w4.heap.size]?=some (.cells (news.flatMap bW).toArray 46 (0,0)):=new7 (by simp);have bP:=HS.out.c.s
  have ho:∀f∈news,ja (w4.alloc (.cells (news.flatMap bW).toArray 46)) (w.heap.size+2) f/\gV f:=by
   subst cF;intro f hf;simp only[List.mem_cons,List.not_mem_nil,or_false]at hf;rcases hf with rfl|rfl
   · exact⟨Dx _ _ _ _ _ _ _ _ _,wP (by unfold bH;omega) (rfl) HV.out (by unfold bH;omega) (rfl) (by unfold bH;omega) (λ v h=>by cases h) (by decide) (λ v h=>by cases h) (by decide) (λ _=>rfl) (λ _=>rfl) (aa _) (aa _)⟩
   exact⟨Dx _ _ _ _ _ _ _ _ _,wP (by unfold bH;omega) (rfl) (by unfold bH;omega) HV.out (rfl) (by unfold bH;omega) (λ v h=>by cases h) (by decide) (λ v h=>by cases h) (by decide) (λ _=>rfl) (λ _=>rfl) (aa _) (aa _)⟩
  have hm:news.length=2:=by rw[<-cF];rfl
  subst cF;have c:w4.cell? ⟨w.heap.size,9,none⟩=some (.slice y.eo y.es.length y.ey):=ab HS.out.c.a 9;go_wp2_with (at_builtin;refine A5 rfl (.tmp 99) (.tmp 104) rfl rfl hB HZ.out.1 _ 2 (w4.heap.size) hm (by decide) rfl hk (λ f hf=>(ho f hf).1) ?_)
  intro a' cc w5 hc hO;have HN:=Hd (HG.out.ents (λ f hf=>(ho f hf).2) HZ.out.1 (by rw[hm];decide) hO);have HO:=Hd hO;have HC:=Hd hc;clear c hO hc hB hk ho hm bP;have c:w5.cell? ⟨w.heap.size,9,none⟩=some (.slice y.eo y.es.length y.ey):=ab HC.out.a 9;have u:=aO HC.out.a 9;go_upto_region 36 with fail
  have HS:=Hd (fK.mk (HC.out.set 9 _ (show _=ai { y with eo:=a',es:=y.es++_,ey:=cc } by unfold ai;dsimp only;rw[List.length_append];rfl)) (HO.out.gr (mX w5 w.heap.size 9 _) (by omega)));clear c u HO HC;generalize w5.setCell ⟨w.heap.size,9,none⟩ _=w5 at HS ⊢;obtain⟨z,HS,HG⟩:∃z,Hid (fK w z w5)/\Hid (cy z):=⟨_,HS,HN⟩
 rotate_left
 focus
  obtain⟨news,cF⟩:∃news:List En,[⟨0,3,0,0,0,⟨#[]⟩,none,[],0,0,some ⟨w4.heap.size,0,none⟩,[1,v],2⟩]=news:=⟨_,rfl⟩;have hB:fK w y ((w4.alloc (.cells #[.int .i64 1,.int .i64 v] 3)).alloc (.cells (news.flatMap bW).toArray 46)):=(HS.out.al _).al _;have hk:((w4.alloc (.cells #[.int .i64 1,.int .i64 v] 3)).alloc (.cells (news.flatMap bW).toArray 46)).heap[w4.heap.size+1]?=some (.cells (news.flatMap bW).toArray 46 (0,0)):=new7 (by simp);have bP:=HS.out.c.s
  have ho:∀f∈news,ja ((w4.alloc (.cells #[.int .i64 1,.int .i64 v] 3)).alloc (.cells (news.flatMap bW).toArray 46)) (w.heap.size+2) f/\gV f:=by
   subst cF;intro f hf;simp only[List.mem_cons,List.not_mem_nil,or_false]at hf;subst hf;exact⟨⟨iK _ _ _ _,uM (n:=2) (iC (heap_alloc_new w4 _) _) bP (by unfold maxLen;omega) rfl⟩,wP (by unfold bH;omega) (rfl) (by unfold bH;omega) (by unfold bH;omega) (rfl) (by unfold bH;omega) (λ v h=>by cases h) (by decide) (λ u h=>by simp only[List.mem_cons,List.not_mem_nil,or_false]at h;rcases h with rfl|rfl<;>first|exact⟨by decide,by decide⟩|exact HV.out) (aa _) (λ _=>rfl) (λ h=>by cases h) (aa _) (aa _)⟩
  have hm:news.length=1:=by rw[<-cF];rfl
  subst cF;have c:w4.cell? ⟨w.heap.size,9,none⟩=some (.slice y.eo y.es.length y.ey):=ab HS.out.c.a 9;go_wp2_with (at_builtin;refine A5 rfl (.tmp 110) (.tmp 114) rfl rfl hB HZ.out.1 _ 1 (w4.heap.size+1) hm (by decide) rfl hk (λ f hf=>(ho f hf).1) ?_)
  intro a' cc w5 hc hO;have HN:=Hd (HG.out.ents (λ f hf=>(ho f hf).2) HZ.out.1 (by rw[hm];decide) hO);have HO:=Hd hO;have HC:=Hd hc;clear c hO hc hB hk ho hm bP;have c:w5.cell? ⟨w.heap.size,9,none⟩=some (.slice y.eo y.es.length y.ey):=ab HC.out.a 9;have u:=aO HC.out.a 9;go_upto_region 36 with fail
  have HS:=Hd (fK.mk (HC.out.set 9 _ (show _=ai { y with eo:=a',es:=y.es++_,ey:=cc } by unfold ai;dsimp only;rw[List.length_append];rfl)) (HO.out.gr (mX w5 w.heap.size 9 _) (by omega)));clear c u HO HC;generalize w5.setCell ⟨w.heap.size,9,none⟩ _=w5 at HS ⊢;obtain⟨z,HS,HG⟩:∃z,Hid (fK w z w5)/\Hid (cy z):=⟨_,HS,HN⟩
 rotate_left
 focus
  obtain⟨news,cF⟩:∃news:List En,[⟨0,2,0,0,0,⟨#[]⟩,some ⟨w4.heap.size,0,none⟩,[⟨bits BinOp.and IntKind.i64 v 3 % 256,1,⟨#[]⟩⟩],1,0,none,[],0⟩]=news:=⟨_,rfl⟩;have hB:fK w y ((w4.alloc (.cells #[.int .u8 (bits BinOp.and IntKind.i64 v 3 % 256),.int .i64 1,.string ⟨#[]⟩] 50)).alloc (.cells (news.flatMap bW).toArray 46)):=(HS.out.al _).al _;have hk:((w4.alloc (.cells #[.int .u8 (bits BinOp.and IntKind.i64 v 3 % 256),.int .i64 1,.string ⟨#[]⟩] 50)).alloc (.cells (news.flatMap bW).toArray 46)).heap[w4.heap.size+1]?=some (.cells (news.flatMap bW).toArray 46 (0,0)):=new7 (by simp);have bP:=HS.out.c.s
  have ho:∀f∈news,ja ((w4.alloc (.cells #[.int .u8 (bits BinOp.and IntKind.i64 v 3 % 256),.int .i64 1,.string ⟨#[]⟩] 50)).alloc (.cells (news.flatMap bW).toArray 46)) (w.heap.size+2) f/\gV f:=by
   subst cF;intro f hf;simp only[List.mem_cons,List.not_mem_nil,or_false]at hf;subst hf;exact⟨⟨uM (n:=1) (iC (heap_alloc_new w4 _) _) bP (by unfold maxLen;omega) rfl,iK _ _ _ _⟩,wP (by unfold bH;omega) (rfl) (by unfold bH;omega) (by unfold bH;omega) (rfl) (by unfold bH;omega) (λ u h=>by rw[List.mem_singleton.1 h];exact⟨⟨Vo _,(by decide:(Lit.int .i64 1).wf=true),iX _⟩,rfl⟩) (aa 1) (λ v h=>by cases h) (by decide) (λ h=>by cases h) (λ _=>rfl) (aa _) (aa _)⟩
  have hm:news.length=1:=by rw[<-cF];rfl
  subst cF;have c:w4.cell? ⟨w.heap.size,9,none⟩=some (.slice y.eo y.es.length y.ey):=ab HS.out.c.a 9;go_wp2_with (at_builtin;refine A5 rfl (.tmp 120) (.tmp 128) rfl rfl hB HZ.out.1 _ 1 (w4.heap.size+1) hm (by decide) rfl hk (λ f hf=>(ho f hf).1) ?_)
  intro a' cc w5 hc hO;have HN:=Hd (HG.out.ents (λ f hf=>(ho f hf).2) HZ.out.1 (by rw[hm];decide) hO);have HO:=Hd hO;have HC:=Hd hc;clear c hO hc hB hk ho hm bP;have c:w5.cell? ⟨w.heap.size,9,none⟩=some (.slice y.eo y.es.length y.ey):=ab HC.out.a 9;have u:=aO HC.out.a 9;go_upto_region 36 with fail
  have HS:=Hd (fK.mk (HC.out.set 9 _ (show _=ai { y with eo:=a',es:=y.es++_,ey:=cc } by unfold ai;dsimp only;rw[List.length_append];rfl)) (HO.out.gr (mX w5 w.heap.size 9 _) (by omega)));clear c u HO HC;generalize w5.setCell ⟨w.heap.size,9,none⟩ _=w5 at HS ⊢;obtain⟨z,HS,HG⟩:∃z,Hid (fK w z w5)/\Hid (cy z):=⟨_,HS,HN⟩
 rotate_left
 focus
  obtain⟨news,cF⟩:∃news:List En,[⟨0,1,0,v,0,⟨#[]⟩,none,[],0,0,none,[],0⟩,⟨0,3,0,0,0,⟨#[]⟩,none,[],0,v,some ⟨w4.heap.size,0,none⟩,[1],1⟩]=news:=⟨_,rfl⟩;have hB:fK w y ((w4.alloc (.cells #[.int .i64 1] 3)).alloc (.cells (news.flatMap bW).toArray 46)):=(HS.out.al _).al _;have hk:((w4.alloc (.cells #[.int .i64 1] 3)).alloc (.cells (news.flatMap bW).toArray 46)).heap[w4.heap.size+1]?=some (.cells (news.flatMap bW).toArray 46 (0,0)):=new7 (by simp);have bP:=HS.out.c.s
  have ho:∀f∈news,ja ((w4.alloc (.cells #[.int .i64 1] 3)).alloc (.cells (news.flatMap bW).toArray 46)) (w.heap.size+2) f/\gV f:=by
   subst cF;intro f hf;simp only[List.mem_cons,List.not_mem_nil,or_false]at hf;rcases hf with rfl|rfl
   · exact⟨Dx _ _ _ _ _ _ _ _ _,wP (by unfold bH;omega) (rfl) (by unfold bH;omega) HV.out (rfl) (by unfold bH;omega) (λ v h=>by cases h) (by decide) (λ v h=>by cases h) (by decide) (λ _=>rfl) (λ _=>rfl) (aa _) (aa _)⟩
   exact⟨⟨iK _ _ _ _,uM (n:=1) (iC (heap_alloc_new w4 _) _) bP (by unfold maxLen;omega) rfl⟩,wP (by unfold bH;omega) (rfl) (by unfold bH;omega) (by unfold bH;omega) (rfl) HV.out (λ v h=>by cases h) (by decide) (λ u h=>by rw[List.mem_singleton.1 h];exact⟨by decide,by decide⟩) (by decide) (λ _=>rfl) (λ h=>by cases h) (aa _) (aa _)⟩
  have hm:news.length=2:=by rw[<-cF];rfl
  subst cF;have c:w4.cell? ⟨w.heap.size,9,none⟩=some (.slice y.eo y.es.length y.ey):=ab HS.out.c.a 9;go_wp2_with (at_builtin;refine A5 rfl (.tmp 11) (.tmp 18) rfl rfl hB HZ.out.1 _ 2 (w4.heap.size+1) hm (by decide) rfl hk (λ f hf=>(ho f hf).1) ?_)
  intro a' cc w5 hc hO;have HN:=Hd (HG.out.ents (λ f hf=>(ho f hf).2) HZ.out.1 (by rw[hm];decide) hO);have HO:=Hd hO;have HC:=Hd hc;clear c hO hc hB hk ho hm bP;have c:w5.cell? ⟨w.heap.size,9,none⟩=some (.slice y.eo y.es.length y.ey):=ab HC.out.a 9;have u:=aO HC.out.a 9;go_upto_region 36 with fail
  have HS:=Hd (fK.mk (HC.out.set 9 _ (show _=ai { y with eo:=a',es:=y.es++_,ey:=cc } by unfold ai;dsimp only;rw[List.length_append];rfl)) (HO.out.gr (mX w5 w.heap.size 9 _) (by omega)));clear c u HO HC;generalize w5.setCell ⟨w.heap.size,9,none⟩ _=w5 at HS ⊢;obtain⟨z,HS,HG⟩:∃z,Hid (fK w z w5)/\Hid (cy z):=⟨_,HS,HN⟩
 rotate_left
 all_goals
  have aY:=HS.out.c.rng;have hk:=HS.out.c.b;go_wp2_with (first|(refine wpList_load_mid rfl 32 (.tmp 3) rfl w.heap.size 0 rfl (ai z).toList _ aY cL rfl (eN z) ?_)|(refine wpList_store_row rfl 32 (.tmp 6) (.tmp 131) rfl (w.heap.size+1) (ai z) rfl (by first|rfl|simp) 32 _ hk (fD z) rfl (gB z) ?_))
  have h:=HS.out.c.row (ai z);refine⟨rfl,fA z,results_cell_row rfl _ _ (w.heap.size+1) 32 (ai z) _ _ rfl h.b cL rfl (fD z),?_⟩;exact⟨z,rfl,HS.out.o.gr (tU w5 _ (ai z)) (by omega),HG.out,h.l⟩
end Go.Proofs.YtepdklfkegkojaaGreatDoor
