/- Parts of one proof. Conditions: as each says. -/
import Derived.Test.YtepdklfkegkojaaGreatDoorGLetterNumbers0
import Derived.Test.YtepdklfkegkojaaGreatDoorGLetterNumbers12
import Derived.Test.YtepdklfkegkojaaGreatDoorGLetterNumbers26
import Derived.Test.YtepdklfkegkojaaGreatDoorGLetterNumbers27
import Derived.Test.YtepdklfkegkojaaGreatDoorGLetterNumbers34
import Derived.Test.YtepdklfkegkojaaGreatDoorGLetterNumbers20
import Derived.Test.YtepdklfkegkojaaGreatDoorGLetterNumbers6
import Derived.Deep.QuietTactic
import Derived.BigQuiet
import Derived.Test.YtepdklfkegkojaaGreatDoorGLetterNumbers16
set_option linter.all false
set_option maxHeartbeats 16000000
set_option maxRecDepth 100000
namespace Go.Proofs.YtepdklfkegkojaaGreatDoor
open Go.Proofs.Tryz
open Go.RowKit
theorem Dn {w w':World}{base e size n g:Nat}{v:Value}{xs:List Value}(h:w.ownsRow base e size v n xs)(hg:w.grownBy w' (some g))(ae:g<base):w'.ownsRow base e size v n xs :=
 aX h hg (by
  cases hb:v.ownBlock with
  | none=>exact Or.inl rfl
  | some b=>exact Or.inr λ he=>by have:=(h.lt b hb).1;cases he;omega)
theorem dI.far {w w':World}{base g:Nat}{x:Lt}(h:dI w base x)(hg:w.grownBy w' (some g))(ae:g<base):dI w' base x :=
 ⟨⟨Dn h.1.row hg ae,λ e he=>⟨Dn (h.1.own e he).1 hg ae,Dn (h.1.own e he).2 hg ae⟩,h.1.sep⟩,Dn h.2.1 hg ae,Dn h.2.2 hg ae⟩
theorem dI.on {w w':World}{base:Nat}{x:Lt}(h:dI w base x)(hb:Below w.heap.size w w'):dI w' base x:=h.below' hb (aa _)
theorem Uk {x y:Lt}{w:World}{B C:Nat}(hp:x.plain=y.plain)(hx:dI w B x)(hy:dI w C y)(hf:cy x) :
  Calls prog 28 #[fA x,fA y] w λ e w'=>e=.returned (.bool true)/\Below w.heap.size w w' :=
 Ij x y w w.heap.size hp (zW hx) (zW hy) (aa _) (aF hf.en (by decide)) (aF hf.vn (by decide)) (aF hf.ln (by decide)) (λ e he=>wH (hf.es e he))
theorem acq {b:List Int}{r:cQ×Int}(h:gT b=r):r.1.es.length<=16:=by
 subst h;rcases F2 b with h|h
 · exact(zx (F1 h).1).2.2.2.2.2.2.2.2.1
 rw[h];simp[ng]
theorem Ul {x:Lt}{r:cQ×Int}(hp:x.plain=r.1)(h:r.1.es.length<=16):x.es.length<=40000:=by
 rw[<-hp]at h;have:x.es.length<=16:=by simpa[Lt.plain]using h
 omega
theorem Um (x:Lt):Array.foldl (λ cs (x:Value×Nat)=>cs.setIfInBounds x.snd x.fst) #[Value.int IntKind.u8 0,Value.int IntKind.i64 0,Value.int IntKind.i64 0,Value.int IntKind.i64 0,Value.int IntKind.i64 0,Value.int IntKind.i64 0,Value.bool false,Value.int IntKind.i64 0,Value.int IntKind.i64 0,Value.slice none 0 0,Value.slice none 0 0,Value.slice none 0 0] (ai x).zipIdx 0 (ai x).size=ai x:=by kernel_rfl
theorem acr (x:Lt):Array.foldl (λ cs (x:Value×Nat)=>cs.setIfInBounds x.snd x.fst) #[Value.int IntKind.u8 0,Value.int IntKind.i64 0,Value.int IntKind.i64 0,Value.int IntKind.i64 0,Value.int IntKind.i64 0,Value.int IntKind.i64 0,Value.bool false,Value.int IntKind.i64 0,Value.int IntKind.i64 0,Value.slice none 0 0,Value.slice none 0 0,Value.slice none 0 0] (ai x).zipIdx 0 12=ai x:=Um x
theorem Fh (W:World)(ao:Option Addr)(n cap:Nat)(xs:List Int)(B0:Nat)(hn:xs.length=n)(hx:BytesIn W B0 ao xs)(hB0:B0<=W.heap.size)(hw:BytesWf xs)(bm:ao=none->cap=0)(hcap:n<=cap) :
  Calls prog 7 #[.slice ao n cap] W λ e w'=>e=.returned (.bool true)/\Below W.heap.size W w':=by
 have HN:=Hd hn;have HX:=Hd (hx.mono hB0);have HW:=Hd hw;clear hn hx hw;go_enter func7,ntmps7
 by_cases nP:30000<n
 ·
  have i1:(30000:Int)<n:=by omega
  have i2:decide ((30000:Int)<n)=true:=decide_eq_true i1;go_wp2_with fail
  refine(Cp _).mono ?_;rintro e w1 ⟨rfl,b1⟩;go_wp2_with fail
  go_ret;exact⟨rfl,b1⟩
 have i1:¬(30000:Int)<n:=by omega
 have i2:decide ((30000:Int)<n)=false:=decide_eq_false i1;obtain⟨r,hr⟩:∃r,gT xs=r:=⟨_,rfl⟩;have HR:=Hd hr;have Un:=Hd (acq hr);obtain⟨l,er⟩:=r;clear hr;go_wp2_with fail
 refine(abq ao n cap xs _ _ HN.out HX.out (aa _) bm (by omega)).mono ?_;rintro e w1 ⟨g,rfl,kN,ax,hL,b1⟩;have dB:=b1.size;have HL:=Hd hL;clear hL;go_wp2_with fail
 refine(Ii (some ⟨g,0,none⟩) n (n+12) xs w1 (l,er) HR.out HN.out (HL.out.bytes.mono ax) HW.out (by simp) (by omega) (by omega)).mono ?_;rintro e w2 ⟨x,rfl,hpx,ma,hox,Uo,b2⟩;have fM:=b2.size;have cY:=Hd (HL.out.below b2 ax);have yY:=Hd hpx;have jX:=Hd ma;have Up:=Hd hox;have HVX:=Hd Uo;have dm:=heap_alloc_new w2 (.cells (ai bM) 32);rw[mK]at dm;have aS:=(aj w2.heap.size w2).alloc (aa _) (.cells (ai x) 32);have iU:=heap_alloc_new w2 (.cells (ai x) 32);have iO:=Hd aS;have tG:=Hd iU;clear hpx ma hox Uo HL aS iU;go_upto_region 5 with (refine wpList_store_row rfl 32 (.tmp 4) (.tmp 19) rfl w2.heap.size (ai x) rfl (by first|rfl|simp) 32 _ dm (fD x) rfl (gB x) ?_;rw[World.setRow_alloc_new])
 clear dm;have aS:=iO.out;have kS:=aS.size;have hH:=(Array.getElem?_eq_some_iff.1 tG.out).1;generalize w2.alloc (.cells (ai x) 32)=v2 at aS kS hH tG ⊢;obtain⟨ga,acu⟩:∃ga,w2.heap.size=ga:=⟨_,rfl⟩;rw[acu]at tG hH ⊢;have Kk:=Hd (cY.out.below aS (by omega));have Uq:=Hd (Up.out.on aS);have B2:Below W.heap.size W v2:=(b1.trans (b2.mono dB)).trans (aS.mono (by omega));clear aS iO cY;go_wp2_with fail
 refine(Ii (some ⟨g,0,none⟩) n (n+12) xs v2 (l,er) HR.out HN.out (Kk.out.bytes.mono (by omega)) HW.out (by simp) (by omega) (by omega)).mono ?_;rintro e w3 ⟨y,rfl,hpy,Do,hoy,Ur,b3⟩;have cA:=b3.size;have jg:=Hd (Kk.out.below b3 (by omega));have Ut:=Hd (Uq.out.on b3);have Uu:=Hd ((b3.block ga hH).trans tG.out);have Uv:=Hd hpy;have Uw:=Hd Do;have Ux:=Hd hoy;have HVY:=Hd Ur;have B3:Below W.heap.size W w3:=B2.trans (b3.mono B2.size);have dm:=heap_alloc_new w3 (.cells (ai bM) 32);rw[mK]at dm;have aS:=(aj w3.heap.size w3).alloc (aa _) (.cells (ai y) 32);have hkc:=heap_alloc_new w3 (.cells (ai y) 32);have iO:=Hd aS;have Dp:=Hd hkc;clear hpy Do hoy Ur Kk tG Uq aS hkc;go_upto_region 6 with (refine wpList_store_row rfl 32 (.tmp 6) (.tmp 24) rfl w3.heap.size (ai y) rfl (by first|rfl|simp) 32 _ dm (fD y) rfl (gB y) ?_;rw[World.setRow_alloc_new])
 clear dm;have aS:=iO.out;have hsc:=aS.size;have hgc:=(Array.getElem?_eq_some_iff.1 Dp.out).1;generalize w3.alloc (.cells (ai y) 32)=v3 at aS hsc hgc Dp ⊢;obtain⟨gc,acw⟩:∃gc,w3.heap.size=gc:=⟨_,rfl⟩;rw[acw]at Dp hgc ⊢;have Kl:=Hd (jg.out.below aS (by omega));have Uy:=Hd (Ut.out.on aS);have Uz:=Hd (Ux.out.on aS);have UA:=Hd ((aS.block ga (by omega)).trans Uu.out);have B3':Below W.heap.size W v3:=B3.trans (aS.mono B3.size);clear aS iO jg Ut Ux Uu;go_wp2_with fail
 refine(abr ao n cap (n+12) g _ xs v3 HN.out rfl ((HX.out.below B3' (aa _)).mono B3'.size) Kl.out (by omega)).mono ?_;rintro e w4 ⟨rfl,b4⟩;have lX:=b4.size;have rm:=Hd (Kl.out.below b4 (by omega));have UB:=Hd (Uy.out.on b4);have UC:=Hd (Uz.out.on b4);have UD:=Hd ((b4.block ga (by omega)).trans UA.out);have UE:=Hd ((b4.block gc (by omega)).trans Dp.out);clear Kl Uy Uz UA Dp;go_wp2_with fail
 refine(abs W.heap.size g n (n+12) xs w4 HN.out rfl rm.out (by omega)).mono ?_;rintro e w5 ⟨rfl,iq⟩;have ik:=iq.size;have B5:Below W.heap.size W w5:=(B3'.trans (b4.mono (by omega))).grown iq (by omega) (λ b hb=>by cases hb;exact kN);have UF:=Hd (UB.out.far iq (by omega));have UG:=Hd (UC.out.far iq (by omega));have UH:=Hd ((iq.block ga (by omega) (λ e=>by cases e;omega)).trans UD.out);have UI:=Hd ((iq.block gc (by omega) (λ e=>by cases e;omega)).trans UE.out);clear iq rm UB UC UD UE;go_wp2_with fail
 refine(aba ao n cap xs w5 HN.out ((HX.out.below B5 (aa _)).mono B5.size) HW.out bm hcap (by omega) (l,er) ((aa0 HW.out).trans HR.out)).mono ?_;rintro e w6 ⟨z,rfl,hpz,hfz,UJ,b6⟩;have m7:=b6.size;have B6:Below W.heap.size W w6:=B5.trans (b6.mono B5.size);have A3:=Hd hpz;have acx:=Hd UJ;have dm:=heap_alloc_new w6 (.cells (ai bM) 32);rw[mK]at dm;have aS:=(aj w6.heap.size w6).alloc (aa _) (.cells (ai z) 32);have hkd:=heap_alloc_new w6 (.cells (ai z) 32);have iO:=Hd aS;have Dq:=Hd hkd;have UK:=Hd (UF.out.on b6);have UL:=Hd (UG.out.on b6);have Km:=Hd ((b6.block ga (by omega)).trans UH.out);have Kn:=Hd ((b6.block gc (by omega)).trans UI.out);clear hpz UJ UF UG UH UI aS hkd;go_upto_region 10 with (refine wpList_store_row rfl 32 (.tmp 8) (.tmp 35) rfl w6.heap.size (ai z) rfl (by first|rfl|simp) 32 _ dm (fD z) rfl (gB z) ?_;rw[World.setRow_alloc_new])
 clear dm;have aS:=iO.out;have hsd:=aS.size;have jN:=(Array.getElem?_eq_some_iff.1 Dq.out).1;generalize w6.alloc (.cells (ai z) 32)=v6 at aS hsd jN Dq ⊢;obtain⟨gd,acy⟩:∃gd,w6.heap.size=gd:=⟨_,rfl⟩;rw[acy]at Dq jN ⊢;have Ko:=Hd (UK.out.on aS);have UM:=Hd (UL.out.on aS);have Kp:=Hd (acx.out.on aS);have hra:=eK ((aS.block ga (by omega)).trans Km.out);have hrc:=eK ((aS.block gc (by omega)).trans Kn.out);have fS:=eK Dq.out;have Kq:=Hd ((aS.block ga (by omega)).trans Km.out);have UN:=Hd ((aS.block gc (by omega)).trans Kn.out);have UO:Below W.heap.size W v6:=B6.trans (aS.mono B6.size);clear aS iO UK UL Km Kn;have hzx:=Kq.out;go_wp2_with (first|(refine tO (by rfl) 32 (.tmp 4) rfl ga 0 rfl (ai x).toList _ hra cL rfl (eN x) ?_)|(refine tO (by rfl) 32 (.tmp 8) rfl gd 0 rfl (ai z).toList _ fS cL rfl (eN z) ?_))
 refine(Uk (yY.out.trans A3.out.symm) Ko.out Kp.out jX.out).mono ?_;rintro e w7 ⟨rfl,b7⟩;have hs7:=b7.size;have B7:Below W.heap.size W w7:=UO.trans (b7.mono UO.size);have UP:=Hd (Ko.out.on b7);have Kr:=Hd (UM.out.on b7);have UQ:=Hd (Kp.out.on b7);have KA:=Hd ((b7.block ga (by omega)).trans Kq.out);have KC:=Hd ((b7.block gc (by omega)).trans UN.out);have UR:=eK KC.out;have US:=eK ((b7.block gd (by omega)).trans Dq.out);clear Ko UM Kp hra hrc fS Kq UN hzx;go_wp2_with (first|(refine tO (by rfl) 32 (.tmp 6) rfl gc 0 rfl (ai y).toList _ UR cL rfl (eN y) ?_)|(refine tO (by rfl) 32 (.tmp 8) rfl gd 0 rfl (ai z).toList _ US cL rfl (eN z) ?_))
 refine(Uk (Uv.out.trans A3.out.symm) Kr.out UQ.out Uw.out).mono ?_;rintro e w8 ⟨rfl,b8⟩;have vF:=b8.size;have B8:Below W.heap.size W w8:=B7.trans (b8.mono B7.size);have acz:=Hd (UP.out.on b8);have acA:=Hd (Kr.out.on b8);have KA8:=Hd ((b8.block ga (by omega)).trans KA.out);have KC8:=Hd ((b8.block gc (by omega)).trans KC.out);have acD:=eK KA8.out;have acE:∀o,(w8.alloc o).rangeAt gc 0 (ai y).toList:=λ o=>eK ((((aj w8.heap.size w8).alloc (aa _) o).block gc (by omega)).trans KC8.out)
 have hzA:(ai x).size=12:=rfl;have Jl:(ai y).size=12:=rfl;clear UP Kr UQ UR US KA KC;go_wp2_with (first|(refine tO (by rfl) 32 (.tmp 4) rfl ga 0 rfl (ai x).toList _ acD cL rfl (eN x) ?_)|(refine tO (by rfl) 32 (.tmp 6) rfl gc 0 rfl (ai y).toList _ (acE _) cL rfl (eN y) ?_))
 (try simp only[Um,acr])
 have ha1:=(aj w8.heap.size w8).alloc (aa _) (.cells (ai x) 32);have dH:=heap_alloc_new w8 (.cells (ai x) 32);have bp:(w8.alloc (.cells (ai x) 32)).heap.size=w8.heap.size+1:=by simp
 have kC:=Hd ha1;generalize w8.alloc (.cells (ai x) 32)=u1 at ha1 dH bp kC ⊢;have ha2:=(aj u1.heap.size u1).alloc (aa _) (.cells (ai y) 32);have dh:=heap_alloc_new u1 (.cells (ai y) 32);have aU:(u1.alloc (.cells (ai y) 32)).heap.size=u1.heap.size+1:=by simp
 generalize u1.alloc (.cells (ai y) 32)=u2 at ha2 dh aU ⊢;rw[bp]at dh;obtain⟨p1,hp1⟩:∃p1,w8.heap.size=p1:=⟨_,rfl⟩;obtain⟨p2,hp2⟩:∃p2,p1+1=p2:=⟨_,rfl⟩;rw[hp1]at dH ⊢;rw[hp1,hp2]at dh;rw[hp2];have Fi:=(aj u2.heap.size u2).alloc (aa _) (.cells #[.slice (some ⟨p1,0,none⟩) 1 1,.slice (some ⟨p2,0,none⟩) 1 1] 22);have bL:=heap_alloc_new u2 (.cells #[.slice (some ⟨p1,0,none⟩) 1 1,.slice (some ⟨p2,0,none⟩) 1 1] 22);have dN:(u2.alloc (.cells #[.slice (some ⟨p1,0,none⟩) 1 1,.slice (some ⟨p2,0,none⟩) 1 1] 22)).heap.size=u2.heap.size+1:=by simp
 generalize u2.alloc (.cells #[.slice (some ⟨p1,0,none⟩) 1 1,.slice (some ⟨p2,0,none⟩) 1 1] 22)=u3 at Fi bL dN ⊢;have hp3:u2.heap.size=p2+1:=by omega
 rw[hp3]at bL;have Ks:Below w8.heap.size w8 u3:=(ha1.trans (ha2.mono (by omega))).trans (Fi.mono (by omega));have acF:u3.heap[p1]?=some (.cells (ai x) 32 (0,0)):=(Fi.block p1 (by omega)).trans ((ha2.block p1 (by omega)).trans dH);have acG:u3.heap[p2]?=some (.cells (ai y) 32 (0,0)):=(Fi.block p2 (by omega)).trans dh;refine(acl w1.heap.size v2.heap.size (p2+1) 2 p1 p2 1 1 x y w2 u3 (ab bL 0) (ab bL 1) (by omega) acF acG (by omega) (by omega) (by omega) rfl rfl Up.out (acz.out.on Ks) (acA.out.on Ks) kS (by omega) (by omega) HVX.out HVY.out jX.out Uw.out (Ul (r:=(l,er)) yY.out Un.out) (Ul (r:=(l,er)) Uv.out Un.out)).mono ?_;rintro e w9 ⟨rfl,b9⟩;have B9:Below W.heap.size W w9:=(B8.trans (Ks.mono B8.size)).trans (b9.mono dB);go_wp2_with fail
 refine(Cp _).mono ?_;rintro e fy ⟨rfl,b10⟩;go_wp2_with fail
 go_ret;exact⟨rfl,B9.trans (b10.mono B9.size)⟩
open Go.ChangeShapes
structure Fj (l:Lt):Prop where
 kind:(Lit.int .u8 l.kind).wf=true
 fr:(Lit.int .i64 l.fr).wf=true
 tov:(Lit.int .i64 l.tov).wf=true
 term:(Lit.int .i64 l.term).wf=true
 index:(Lit.int .i64 l.index).wf=true
 was:(Lit.int .i64 l.was).wf=true
 commit:(Lit.int .i64 l.commit).wf=true
 round:(Lit.int .i64 l.round).wf=true
 es:∀e∈l.es,F6 e
 en:l.es.length*112<=140737488351232
 vs:∀v∈l.vs,(Lit.int .i64 v).wf=true
 vn:l.vs.length*8<=140737488351232
 im:BytesWf l.im
 ln:l.im.length<=140737488351232
 zB:l.eo=none->l.ey=0
 sj:l.vo=none->l.ce=0
 tE:l.io=none->l.fi=0
 fi:l.im.length<=l.fi
structure Kt (e:En):Prop where
 text:e.text.size<=60019
 args:e.args.length<=3000
 vn:e.vs.length<=3000
 vH:∀v∈e.args,v.text.size<=60019
theorem acH:∀(l:List Va),(∀v∈l,v.text.size<=60019)->(l.flatMap fp).length<=l.length*60028:=by
 intro l;induction l with
 | nil=>intro _;simp
 | cons x r ih =>
  intro h;have h1:=ih λ v hv=>h v (sg _ hv)
  have h2:=KY x;have h3:=h x (List.mem_cons_self ..);rw[List.flatMap_cons,List.length_append,List.length_cons];omega
theorem acI {e:En}(h:F6 e)(b:Kt e):gV e:=by
 have h1:=acH e.args b.vH;have h2:=b.args;refine⟨h,aF b.text (by decide),aF b.args (by decide),aF b.vn (by decide),λ v hv=>aF (b.vH v hv) (by decide),?_⟩;unfold dY;rw[List.length_append,cV];omega
theorem acJ {l:Lt}(h:Fj l)(he:∀e∈l.es,Kt e)(h1:l.es.length<=3000)(h2:l.vs.length<=3000)(h3:l.im.length<=30009):cy l :=
 ⟨D1 h.kind,sk h.fr,sk h.tov,sk h.term,sk h.index,sk h.was,sk h.commit,sk h.round,λ e hx=>acI (h.es e hx) (he e hx),aF h1 (by decide),λ v hv=>sk (h.vs v hv),aF h2 (by decide),h.im,aF h3 (by decide),h.zB,h.sj,h.tE,h.fi⟩
def UT (c:Int) (l:List En):Prop:=c<=3000->∀e∈l,Kt e
theorem acK {B:Nat}{a w:World}(h:Below B a w)(n:Nat):Below B a (w.drewN n):=⟨h.os,h.tape,h.output,h.size,h.block⟩
def acL (c:Int) (l:List Va):Prop:=c<=3000->∀v∈l,v.text.size<=60019
def acM (l:Lt) (w:World) (e:Ending) (w':World):Prop:=∃g:Bool,e=.returned (.bool g)/\(g=false->cy l)/\Below w.heap.size w w'
theorem acN (l:Lt)(w:World)(hx:fG w w.heap.size l)(hq:Fj l):Calls prog 39 #[fA l] w (acM l w):=by
 have dl:=(aj w.heap.size w).alloc (aa _) (.cells (ai l) 32);have hk:=heap_alloc_new w (.cells (ai l) 32);have dz:(w.alloc (.cells (ai l) 32)).heap.size=w.heap.size+1:=by simp
 have mg:=Hd dl;have HK:=Hd hk;have iL:=Hd (pJ dz.symm);have HX:=Hd hx;have HQ:=Hd hq;have HFO:=Hd (λ a b c d=>acJ hq a b c d);obtain⟨n,hn⟩:∃n,l.es.length=n:=⟨_,rfl⟩;obtain⟨m,hm⟩:∃m,l.vs.length=m:=⟨_,rfl⟩;obtain⟨q,hqq⟩:∃q,l.im.length=q:=⟨_,rfl⟩;have l1:=hq.en;have l2:=hq.vn;have l3:=hq.ln;rw[hn]at l1;rw[hm]at l2;rw[hqq]at l3;have HN:=Hd hn;have HM:=Hd hm;have wK:=Hd hqq;unfold fA;rw[hn,hm,hqq];clear dl hk dz hx hq hn hm hqq;go_enter func39,ntmps39
 go_upto_region 1 with fail
 have dl:=mg.out;have hk:=HK.out;have dz:=iL.out;clear mg HK iL;unfold ai at dl hk dz;rw[HN.out,HM.out,wK.out]at dl hk dz;generalize w.alloc (.cells #[.int .u8 l.kind,.int .i64 l.fr,.int .i64 l.tov,.int .i64 l.term,.int .i64 l.index,.int .i64 l.was,.bool l.ok,.int .i64 l.commit,.int .i64 l.round,.slice l.eo n l.ey,.slice l.vo m l.ce,.slice l.io q l.fi] 32)=w0 at dl hk dz ⊢;have hcA:∀w',Below (w.heap.size+1) w0 w'->w'.cell? ⟨w.heap.size,9,none⟩=some (.slice l.eo n l.ey):=λ w' hb=>(ab ((hb.block _ (by omega)).trans hk) 9)
 have c9:=hcA w0 (aj _ _);have c10:w0.cell? ⟨w.heap.size,10,none⟩=some (.slice l.vo m l.ce):=ab hk 10;have c11:w0.cell? ⟨w.heap.size,11,none⟩=some (.slice l.io q l.fi):=ab hk 11;have st:=Hd hcA;have mg:=Hd dl;have iL:=Hd dz;clear dl hk dz hcA;go_upto_region 2 with fail
 clear c9 c10 c11;go_wp2_with fail
 obtain⟨n0,oy⟩:∃n0:Int,(n:Int)+m+q / 10=n0:=⟨_,rfl⟩;have afz:(n:Int)+m+q / 10<=n0:=by omega
 have acP:n0<=1000000000000000:=by omega
 rw[oy];clear oy;go_loopw [3,4] (λ m i wr=>∃(k:Nat) (c:Int),k<=n/\i=.int .i64 k/\m=.int .i64 c/\n0<=c/\c<=1000000000000000/\UT c (l.es.take k)/\Below (w.heap.size+1) w0 wr) (λ _ i _=>n-(intOf i).toNat)
 exact⟨0,n0,by omega,rfl,rfl,by omega,acP,(by intro _ e he;simp at he),aj _ _⟩
 obtain⟨k,c,hk,rfl,rfl,hc0,pW,jP,ag⟩:=hrel;have CM:=Hd jP;clear jP;have c9:=st.out wr ag;by_cases ae:k<n
 ·
  have i1:(k:Int)<n:=by omega
  by_cases bN:c<=3000
  ·
   have i2:decide (c<=3000)=true:=by simpa using bN
   have aQ:l.es[k]?=some (l.es[k]'(by rw[HN.out];exact ae)):=bu _;have bJ:l.es.take (k+1)=l.es.take k++[l.es[k]'(by rw[HN.out];exact ae)]:=iJ _;have A4:=HQ.out.es _ (mC (l:=l.es) (n:=k) (by rw[HN.out];exact ae));obtain⟨b,off,bm,hb,hc,eC⟩:=(HX.out.1.below iI mg.out (aa _)).at aQ;generalize l.es[k]'(by rw[HN.out];exact ae)=x at hc aQ A4 eC bJ;have z1:=A4.text;have z2:=A4.F7;have z3:=A4.vn;have HEW:=Hd A4;have qU:=Hd bJ;have qx:=Hd eC;obtain⟨an,jQ⟩:∃an,x.args.length=an:=⟨_,rfl⟩;obtain⟨vn,bR⟩:∃vn,x.vs.length=vn:=⟨_,rfl⟩;obtain⟨ts,j8⟩:∃ts,x.text.size=ts:=⟨_,rfl⟩;rw[j8]at z1;rw[jQ]at z2;rw[bR]at z3;have dC:∀w',Below (w.heap.size+1) w0 w'->∀j,j<9->w'.cell? ⟨b,off+k*9+j,none⟩=(bW x)[j]?:=λ w' bi j hj=>(bi.cell (p:=⟨b,_,none⟩) (show b<w.heap.size+1 by omega)).trans (hc j hj)
   have e4:wr.cell? ⟨b,off+k*9+4,none⟩=some (.int .u8 x.ck):=dC wr ag 4 (by decide);have e5:wr.cell? ⟨b,off+k*9+4+1,none⟩=some (.string x.text):=dC wr ag 5 (by decide);have e6:wr.cell? ⟨b,off+k*9+4+1+1,none⟩=some (.slice x.fQ an x.fw):=(dC wr ag 6 (by decide)).trans (by rw[<-jQ];rfl);have e7:wr.cell? ⟨b,off+k*9+4+1+1+1,none⟩=some (.int .i64 x.num):=dC wr ag 7 (by decide);have bD:=Hd dC;have UU:=Hd j8;have jv:=Hd jQ;have gl:=Hd bR;have IF:=Hd bm;rw[bm]at c9;clear aQ A4 eC bJ hc dC j8 jQ bR bm;go_upto_region 6 with fail
   have bS:=ag.alloc (by have:=ag.size;have:=iL.out;omega) (.cells #[.int .u8 x.ck,.string x.text,.slice x.fQ an x.fw,.int .i64 x.num] 44);have iU:=heap_alloc_new wr (.cells #[.int .u8 x.ck,.string x.text,.slice x.fQ an x.fw,.int .i64 x.num] 44);obtain⟨vb,hvb⟩:∃vb,wr.heap.size=vb:=⟨_,rfl⟩;have hvl:vb<(wr.alloc (.cells #[.int .u8 x.ck,.string x.text,.slice x.fQ an x.fw,.int .i64 x.num] 44)).heap.size:=by rw[<-hvb];simp
   have hbv:w.heap.size<vb:=by have:=ag.size;have:=iL.out;omega
   clear c9 e4 e5 e6 e7;rw[hvb]at iU ⊢;generalize wr.alloc (.cells #[.int .u8 x.ck,.string x.text,.slice x.fQ an x.fw,.int .i64 x.num] 44)=w7 at bS iU hvl ⊢;have tG:=Hd iU;have d1:w7.cell? ⟨vb,1,none⟩=some (.string x.text):=ab iU 1;have d2:w7.cell? ⟨vb,2,none⟩=some (.slice x.fQ an x.fw):=ab iU 2;have c9:w7.cell? ⟨w.heap.size,9,none⟩=some (.slice (some ⟨b,off,none⟩) n l.ey):=(st.out w7 bS).trans (by rw[IF.out]);have e8:w7.cell? ⟨b,off+k*9+8,none⟩=some (.slice x.hU vn x.ce):=(bD.out w7 bS 8 (by decide)).trans (by rw[<-gl.out];rfl);have s1:IntKind.i64.wrap (c+(ts:Int) / 20)=c+(ts:Int) / 20:=jU _ (by omega);have s2:IntKind.i64.wrap (c+(ts:Int) / 20+an)=c+(ts:Int) / 20+an:=jU _ (by omega);have s3:IntKind.i64.wrap (c+(ts:Int) / 20+an+vn)=c+(ts:Int) / 20+an+vn:=jU _ (by omega);have j8:=UU.out;have hkn:¬n<=k:=by omega
   clear iU hvb ag;go_quiet (fail)
   clear s1 s2 s3 c9 e8 d1;obtain⟨c1,UV⟩:∃c1:Int,c+(ts:Int) / 20+an+vn=c1:=⟨_,rfl⟩;have q1:c+(ts:Int) / 20+an+vn<=c1:=by omega
   have q2:c1<=100000000000000:=by omega
   rw[UV];clear UV;go_wp2_with fail
   have fj:Below (w.heap.size+1) w0 (w7.drewN nq):=acK bS nq;have UW:(w7.drewN nq).cell? ⟨vb,2,none⟩=some (.slice x.fQ an x.fw):=d2;clear bS d2 tG hvl;generalize w7.drewN nq=w8 at fj UW ⊢;have HV:=Hd (qx.out.1.below cn fj (by omega));go_loop [3,6] (λ m i=>∃(j:Nat) (d:Int),j<=an/\i=.int .i64 j/\m=.int .i64 d/\c1<=d/\d<=1000000000000000/\acL d (x.args.take j)) (λ _ i=>an-(intOf i).toNat)
   exact⟨0,c1,by omega,rfl,rfl,by omega,by omega,(by intro _ e he;simp at he)⟩
   obtain⟨j,d,hj,rfl,rfl,hd0,hd1,hds⟩:=hrel;have UX:=Hd hds;clear hds;by_cases hjn:j<an
   ·
    have i3:(j:Int)<an:=by omega
    by_cases hd2:d<=3000
    ·
     have i4:decide (d<=3000)=true:=by simpa using hd2
     have Ku:x.args[j]?=some (x.args[j]'(by rw[jv.out];exact hjn)):=bu _;have hjt:x.args.take (j+1)=x.args.take j++[x.args[j]'(by rw[jv.out];exact hjn)]:=iJ _;have hvw:=HEW.out.args _ (mC (l:=x.args) (n:=j) (by rw[jv.out];exact hjn));obtain⟨b2,off2,vI,am,hcv,_⟩:=HV.out.at Ku;generalize x.args[j]'(by rw[jv.out];exact hjn)=v at hcv Ku hvw hjt;obtain⟨us,UY⟩:∃us,v.text.size=us:=⟨_,rfl⟩;have z5:us<=140737488351232:=by rw[<-UY];exact hvw.2.2
     have e2:w8.cell? ⟨b2,off2+j*3+2,none⟩=some (.string v.text):=hcv 2 (by decide);have HJT:=Hd hjt;have HUS:=Hd UY;have s1:IntKind.i64.wrap (d+(us:Int) / 20)=d+(us:Int) / 20:=jU _ (by omega);rw[vI]at UW;clear hjt Ku hcv hvw vI;go_wp2_with fail
     go_round
     case rel =>
      refine⟨j+1,d+(us:Int) / 20,by omega,by go_num,rfl,by omega,by omega,λ h3 e he=>?_⟩;rw[HJT.out]at he;rcases List.mem_append.1 he with he|he
      · exact UX.out hd2 e he
      obtain rfl:e=v:=by simpa using he
      have:=HUS.out;omega
     simp[intOf];omega
    have i4:decide (d<=3000)=false:=by simpa using hd2
    go_wp2_with fail
    go_roundw
    exact⟨k+1,d,by omega,by go_num,rfl,by omega,hd1,λ h3=>absurd h3 hd2,fj⟩
    simp[intOf];omega
   have i3:¬(j:Int)<an:=by omega
   have fN:UT d (l.es.take (k+1)):=λ h3 e he=>by
    rw[qU.out]at he;rcases List.mem_append.1 he with he|he
    · exact CM.out bN e he
    obtain rfl:e=x:=by simpa using he
    have h1:=UU.out;have h2:=jv.out;have h4:=gl.out;refine⟨by omega,by omega,by omega,?_⟩;have h5:=UX.out h3;rwa [fE (by omega)]at h5
   have acT:=Hd fN;clear fN;go_wp2_with fail
   go_roundw
   exact⟨k+1,d,by omega,by go_num,rfl,by omega,hd1,acT.out,fj⟩
   simp[intOf];omega
  have i2:decide (c<=3000)=false:=by simpa using bN
  have g1:(3000:Int)<c:=by omega
  go_wp2_with fail
  go_ret;exact⟨true,rfl,(λ h=>by cases h),mg.out.trans (ag.mono (by omega))⟩
 have i1:¬(k:Int)<n:=by omega
 obtain rfl:k=n:=by omega
 by_cases bN:c<=3000
 ·
  have g1:decide ((3000:Int)<c)=false:=by simpa using bN
  have fX:=HFO.out (λ e he=>CM.out bN e (by rw[fE (by have:=HN.out;omega)];exact he)) (by have:=HN.out;omega) (by have:=HM.out;omega) (by have:=wK.out;omega);have rP:=Hd fX;clear fX;go_wp2_with fail
  go_ret;exact⟨false,rfl,λ _=>rP.out,mg.out.trans (ag.mono (by omega))⟩
 have g1:decide ((3000:Int)<c)=true:=by simpa using bN
 go_wp2_with fail
 go_ret;exact⟨true,rfl,(λ h=>by cases h),mg.out.trans (ag.mono (by omega))⟩
def Dr (v:Value):Array Value:=#[.slice none 0 0,.slice none 0 0,.slice none 0 0,.slice none 0 0,.slice none 0 0,v,.slice none 0 0,.slice none 0 0,.slice none 0 0,.slice none 0 0,.slice none 0 0,.slice none 0 0,.slice none 0 0,.slice none 0 0,.slice none 0 0,.slice none 0 0,.slice none 0 0,.slice none 0 0,.slice none 0 0,.slice none 0 0,.slice none 0 0,.slice none 0 0,.slice none 0 0,.slice none 0 0,.slice none 0 0,.slice none 0 0,.slice none 0 0,.slice none 0 0,.slice none 0 0]
def nv (w:World) (bb:Nat) (v:Value):Prop:=w.heap[bb]?=some (.cells (Dr v) 126 (0,0))
theorem nv.cell {w:World}{bb:Nat}{v:Value}(h:nv w bb v)(i:Nat):w.cell? ⟨bb,i,none⟩=(Dr v)[i]?:=ab h i
theorem nv.lt {w:World}{bb:Nat}{v:Value}(h:nv w bb v):bb<w.heap.size:=(Array.getElem?_eq_some_iff.1 h).1
theorem nv.below {w w':World}{bb B:Nat}{v:Value}(h:nv w bb v)(hb:Below B w w')(hB:bb<B):nv w' bb v:=(hb.block bb hB).trans h
theorem nv.apart {w:World}{bb B E SZ n:Nat}{v u:Value}{xs:List Value}(h:nv w bb v)(ho:w.ownsRow B E SZ u n xs)(he:E≠126):u.ownBlock≠some bb:=by
 intro hh;rcases ho.2 with ⟨rfl,_⟩|⟨g,cap,cur,rfl,_,g1,_⟩
 · simp[Value.ownBlock]at hh
 simp[Value.ownBlock]at hh;subst hh;unfold nv at h;rw[g1]at h;simp only[Option.some.injEq,Obj.cells.injEq]at h;exact he h.2.1
theorem acU (B bb:Nat)(v:Value)(m:Nat)(rows:List Value)(a:Option Addr)(n c:Nat)(w:World)(hb:nv w bb v)(az:w.ownsRow B 25 1 v m rows)(hB:B<=w.heap.size)(hBb:B<=bb)(hm:m<=1000) :
  Calls prog 82 #[.pointer (some ⟨bb,0,none⟩),.slice a n c] w λ e w'=>e=.returned (.tuple #[])/\∃v',nv w' bb v'/\w'.ownsRow B 25 1 v' (m+1) (rows++[.slice a n c])/\Below B w w':=by
 obtain⟨i0,hi,bo,bp,aU⟩:=info_parts IB;have c5:w.cell? ⟨bb,5,none⟩=some v:=hb.cell 5;have HB:=Hd hb;have HO:=Hd az;have gL:=hb.lt;clear hb az;go_enter func82,ntmps82
 go_wp2_with (at_builtin;refine wpList_append_own _ rfl (.tmp 8) (.tmp 10) 53 rfl B 25 i0 (.slice none 0 0) 1 24 underlying53 hi bo bp aU rfl (by decide) v m rows rfl (HO.out.alloc _) ⟨w.heap.size,0,none⟩ 1 1 [.slice a n c] rfl rfl (cell_one_new _ _ _) (by simp[Value.oneCell']) (by unfold maxLen;omega) (by omega) (by simp;omega) ?_)
 intro v' w3 bj aL _;obtain⟨a3,c3,jk,_,_,_⟩:=cW bj;subst jk;have tn:nv (w.alloc (.cells #[.slice a n c] 25)) bb v:=HB.out.below ((aj w.heap.size w).alloc (aa _) _) gL;have ap:nv w3 bb v:=(aL.block bb (by simp;omega) (λ h=>HB.out.apart HO.out (by decide) h.symm)).trans tn;have d5:w3.cell? ⟨bb,5,none⟩=some v:=ap.cell 5;have f5:w3.frozen? ⟨bb,5,none⟩=false:=aO ap 5;have kx:nv (w3.setCell ⟨bb,5,none⟩ (.slice a3 (m+1) c3)) bb (.slice a3 (m+1) c3):=br ap _
 have de:(w3.setCell ⟨bb,5,none⟩ (.slice a3 (m+1) c3)).ownsRow B 25 1 (.slice a3 (m+1) c3) (m+1) (rows++[.slice a n c]):=by
  refine ownsRow_setCell_other bj ?_ _;have:=ap.apart bj (by decide);cases h:(Value.slice a3 (m+1) c3).ownBlock with
  | none=>simp
  | some g=>rw[h]at this;simpa using this
 have em:Below B w (w3.setCell ⟨bb,5,none⟩ (.slice a3 (m+1) c3)):=((((aj B w).alloc hB _).grown aL (by simp;omega) (λ k hk=>(HO.out.lt k hk).1)).setCell (p:=⟨bb,5,none⟩) hBb _);have H1:=Hd kx;have H2:=Hd de;have H3:=Hd em;clear kx de em bj aL ap tn;go_wp2_with fail
 go_end0;exact⟨rfl,_,H1.out,H2.out,H3.out⟩
end Go.Proofs.YtepdklfkegkojaaGreatDoor
