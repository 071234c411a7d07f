/- Parts of one proof. Conditions: as each says. -/
import Derived.Test.YtepdklfkegkojaaGreatDoorGLetterNumbers0
import Derived.Test.YtepdklfkegkojaaGreatDoorGLetterNumbers11
import Derived.Test.YtepdklfkegkojaaGreatDoorGLetterNumbers3
import Derived.Test.YtepdklfkegkojaaGreatDoorGLetterNumbers2
import Derived.Test.YtepdklfkegkojaaGreatDoorGLetterNumbers9
import Derived.Test.YtepdklfkegkojaaGreatDoorGLetterNumbers8
set_option linter.all false
set_option maxHeartbeats 16000000
set_option maxRecDepth 100000
namespace Go.Proofs.YtepdklfkegkojaaGreatDoor
open Go.Proofs.Tryz
open Go.RowKit
structure YS (l:cQ) (n:Nat):Prop where
 kind:0<=l.kind/\l.kind<256
 fr:bH l.fr
 too:bH l.tov
 term:bH l.term
 index:bH l.index
 was:bH l.was
 commit:bH l.commit
 round:bH l.round
 en:l.es.length<=16
 vs:BytesWf l.vs
 vn:l.vs.length<=n
 im:BytesWf l.im
 ln:l.im.length<=n
theorem zV {x:Int}(h:0<=x/\x<256):bH x:=by
 unfold bH;omega
theorem YT {b:List Int}{l:cQ}(hw:BytesWf b)(h:qu b=some l):YS l b.length:=by
 unfold qu at h;split at h
 · cases h
 dsimp only at h;split at h
 · cases h
 rename_i hm;split at h
 · cases h
 rename_i es r he;split at h
 · cases h
 split at h
 · cases h
 cases h
 have hc:=ul (hw.drop 44);obtain⟨h1,h2,h3,h4⟩:=L0 _ _ _ _ hc.1 he;have h5:¬16<(gk (b.drop 44)).1:=λ h=>hm (Or.inr h)
 have h6:=congrArg List.length h4;rw[List.length_append]at h6;have h7:=hc.2.2.2;rw[List.length_drop]at h7;have hv:=ul h3;have hi:=ul (hv.1.drop (gk r).1.toNat);have h8:=hi.2.2.2;rw[List.length_drop]at h8;have h9:=hv.2.2.2;exact⟨uA hw 0,zV (uA hw 1),zV (uA hw 2),ms _,ms _,ms _,ms _,ms _,by dsimp only;omega,hv.1.take _,by dsimp only;rw[List.length_take];omega,hi.1,by dsimp only;omega⟩
theorem YU {w:World}{base:Nat}{b:List Int}{x:Lt}(hw:BytesWf b)(hl:b.length<=4000000)(h:qu b=some x.plain)(ho:dI w base x)(he:∀e∈x.es,gV e):cy x:=by
 have f:=YT hw h;have kz:x.es.length<=16:=by have:=f.en;unfold Lt.plain at this;dsimp only at this;rw[List.length_map]at this;exact this
 exact⟨f.kind,f.fr,f.too,f.term,f.index,f.was,f.commit,f.round,he,by omega,λ v hv=>zV (f.vs v hv),aF f.vn hl,f.im,aF f.ln hl,iW ho.1.row,iW ho.2.1,iW ho.2.2,mp ho.2.2⟩
theorem zW {w:World}{base:Nat}{x:Lt}(ho:dI w base x):fG w w.heap.size x :=
 ⟨mH mh rfl ho.1.row (λ e he=>(ho.1.own e he).sub),mH mA rfl ho.2.1 (λ _ _=>trivial),by
  obtain⟨ao,cap,hv,h⟩:=DJ ho.2.2;cases hv
  exact h⟩
theorem OF:∀ {xs ys:List Int},BytesWf xs->BytesWf ys->Lib.bytesOf xs=Lib.bytesOf ys->xs=ys:=by
 intro xs;induction xs with
 | nil =>
  intro ys _ _ h;cases ys with
  | nil=>rfl
  | cons y t=>cases h
 | cons x xs ih =>
  intro ys hx hy h;cases ys with
  | nil=>cases h
  | cons y ys =>
   have h2:UInt8.ofNat x.toNat :: Lib.bytesOf xs=UInt8.ofNat y.toNat :: Lib.bytesOf ys:=h;obtain⟨e1,e2⟩:=List.cons.inj h2;have bx:=hx x List.mem_cons_self;have by':=hy y List.mem_cons_self
   have h3:=congrArg UInt8.toNat e1;rw[UInt8.toNat_ofNat',UInt8.toNat_ofNat',Nat.mod_eq_of_lt (by omega),Nat.mod_eq_of_lt (by omega)]at h3;have h4:x=y:=by omega
   subst h4;rw[ih (λ z hz=>hx z (sg _ hz)) (λ z hz=>hy z (sg _ hz)) e2]
theorem EI {w:World}{B n c:Nat}{a:Option Addr}{l:List Int}(hn:l.length=n)(h:BytesIn w B a l)(kv:a=none->c=0):(convert 25 9 (.slice a n c)).run prog w=.ok (.string (strOfNums l)) w:=by
 subst hn;rcases h with rfl|⟨b,off,rfl,_,h3⟩
 ·
  cases a with
  | none =>
   rw[run_convert_bytes_string w _ _ 5 none _ c hJ underlying5 underlying9];simp[Conv.bytesToString];rfl
  | some ad =>
   rw[run_convert_bytes_string w _ _ 5 (some ad) _ c hJ underlying5 underlying9];simp[Conv.bytesToString];rfl
 exact run_convert_bytes_arg w _ 5 hJ underlying5 b off l.length c l rfl h3 _ underlying9
theorem YV (a1 a2:Option Addr)(n c m d:Nat)(xs ys:List Int)(w:World)(B1 B2:Nat)(hn:xs.length=n)(hm:ys.length=m)(h1:BytesIn w B1 a1 xs)(h2:BytesIn w B2 a2 ys)(n1:a1=none->c=0)(n2:a2=none->d=0)(w1:BytesWf xs)(w2:BytesWf ys) :
  Calls prog 38 #[.slice a1 n c,.slice a2 m d] w λ e w'=>e=.returned (.bool (decide (xs=ys)))/\w'=w:=by
 refine(Tryz.bytes_Equal _ _ xs ys w (EI hn h1 n1) (EI hm h2 n2)).mono ?_;rintro e w' ⟨rfl,rfl⟩;refine⟨?_,rfl⟩
 have:(Lib.bytesOf xs==Lib.bytesOf ys)=decide (xs=ys):=by
  by_cases he:xs=ys
  · rw[he];simp
  rw[decide_eq_false he];have:Lib.bytesOf xs≠Lib.bytesOf ys:=λ h=>he (OF w1 w2 h)
  simpa using this
 rw[this]
def Ih (r:cQ×Int) (w:World) (e:Ending) (w':World):Prop :=
 ∃x:Lt,e=.returned (.tuple #[fA x,.int .i64 r.2])/\x.plain=r.1/\cy x/\dI w' w.heap.size x/\Below w.heap.size w w'
def OG (r:cQ×Int) (w:World) (e:Ending) (w':World):Prop :=
 ∃x:Lt,e=.returned (.tuple #[fA x,.int .i64 r.2])/\x.plain=r.1/\cy x/\dI w' w.heap.size x/\(∀e∈x.es,sp e x)/\Below w.heap.size w w'
theorem uH:cy bM:=by constructor<;>simp[bM,bH,BytesWf]
theorem dI.zero (w:World)(base:Nat):dI w base bM:=⟨gU.nil _ _,gj.nil _ _,iK _ _ _ _⟩
theorem zX {f:Func}{W w':World}{x:Lt}{tmps:Array Value}{er:Int}{r:cQ×Int}(hf:f.results=#[.cell 2 32,.tmp 3])(hk:w'.heap[W.heap.size]?=some (.cells (ai x) 32 (0,0)))(hb:Below W.heap.size W w')
  (h2:tmps.getD 2 undef=.pointer (some ⟨W.heap.size,0,none⟩)) (h3:tmps.getD 3 undef=.int .i64 er) (he:r.2=er) (hp:x.plain=r.1) (m8:cy x) (ho:dI w' W.heap.size x):bodyPost prog f (Ih r W) .ret ⟨tmps,[]⟩ w' :=
 bodyPost_ret (D3 hf tmps w' W.heap.size _ (ai x) _ _ _ h2 h3 hk cL rfl (fD x)) rfl ⟨x,by rw[he];rfl,hp,m8,ho,hb⟩
theorem Co {f:Func}{W w':World}{x:Lt}{tmps:Array Value}{er:Int}{r:cQ×Int}(hf:f.results=#[.cell 2 32,.tmp 3])(hk:w'.heap[W.heap.size]?=some (.cells (ai x) 32 (0,0)))(hb:Below W.heap.size W w')
  (h2:tmps.getD 2 undef=.pointer (some ⟨W.heap.size,0,none⟩)) (h3:tmps.getD 3 undef=.int .i64 er) (he:r.2=er) (hp:x.plain=r.1) (m8:cy x) (ho:dI w' W.heap.size x) (hv:∀e∈x.es,sp e x):bodyPost prog f (OG r W) .ret ⟨tmps,[]⟩ w' :=
 bodyPost_ret (D3 hf tmps w' W.heap.size _ (ai x) _ _ _ h2 h3 hk cL rfl (fD x)) rfl ⟨x,by rw[he];rfl,hp,m8,ho,hv,hb⟩
theorem EJ:∀e∈bM.es,sp e bM:=λ e he=>by cases he
theorem xX (g:Nat)(w:World)(cs:Array Value):Only g w (w.setRow g cs):=⟨by rw[setRow_size];exact aa _,λ b _ hn=>setRow_other w g b cs hn,rfl,rfl,rfl⟩
theorem Ii (ao:Option Addr)(n cap:Nat)(b:List Int)(w:World)(r:cQ×Int)(hr:gT b=r)(hn:b.length=n)(hx:BytesIn w w.heap.size ao b)(hw:BytesWf b)(kv:ao=none->cap=0)(hcap:n<=cap)(hl:n<=140737488351232) :
  Calls prog 13 #[.slice ao n cap] w (OG r w):=by
 have ba:=(aj w.heap.size w).alloc (aa _) (.cells (ai bM) 32);have dH:=heap_alloc_new w (.cells (ai bM) 32);have dB:(w.alloc (.cells (ai bM) 32)).heap.size=w.heap.size+1:=by simp
 have ev:=Hd ba;have pH:=Hd dH;have tJ:=Hd dB;have HR:=Hd hr;have HN:=Hd hn;have HX:=Hd hx;have HW:=Hd hw;clear ba dH dB hr hn hx hw;go_enter func13,ntmps13
 by_cases nP:1048576<n
 ·
  have i1:(1048576:Int)<n:=by omega
  have j1:decide ((1048576:Int)<n)=true:=decide_eq_true i1;go_upto_region 2 with fail
  rw[<-mK];have bU:=pH.out;go_wp2_with (refine wpList_store_row rfl 32 (.tmp 2) (.tmp 11) rfl w.heap.size (ai bM) rfl (by first|rfl|simp) 32 _ bU (fD bM) rfl (gB bM) ?_;rw[pM bU])
  have hg:r=(ng,4):=by rw[<-HR.out];unfold gT;rw[if_pos (by rw[HN.out];exact nP)]
  exact Co rfl bU ev.out rfl rfl (by rw[hg]) (by rw[hg];rfl) uH (dI.zero _ _) EJ
 have i1:¬(1048576:Int)<n:=by omega
 have j1:decide ((1048576:Int)<n)=false:=decide_eq_false i1;go_wp2_with fail
 rw[<-mK];generalize w.alloc (.cells (ai bM) 32)=w1 at ev pH tJ ⊢;obtain⟨ro,hro⟩:∃z,qu b=z:=⟨_,rfl⟩;have dB:=tJ.out;refine(Yq ao n cap b w1 ro hro HN.out ((HX.out.below ev.out (aa _)).mono (by omega)) HW.out kv hcap (by omega)).mono ?_;rintro e w2 ⟨x,rfl,ij,am⟩;have fM:=am.size;have xl:=Hd ((am.block w.heap.size (by omega)).trans pH.out);have bF:=Hd (ev.out.trans (am.mono (by omega)));have rf:=Hd ij;have eD:=Hd hro;have bL:=heap_alloc_new w2 (.cells (ai bM) 32);clear ij hro am;rw[mK]at bL;have aS:=(aj w2.heap.size w2).alloc (aa _) (.cells (ai x) 32);have bU:=(aS.block w.heap.size (by omega)).trans xl.out;have kA:=Hd (bF.out.trans (aS.mono (by omega)));have aQ:=heap_alloc_new w2 (.cells (ai x) 32);cases ro with
 | none =>
  clear aS aQ;dsimp only[Option.isSome];go_wp2_with (first|(refine wpList_store_row rfl 32 (.tmp 4) (.tmp 15) rfl w2.heap.size (ai x) rfl (by first|rfl|simp) 32 _ bL (fD x) rfl (gB x) ?_;rw[World.setRow_alloc_new])|(refine wpList_store_row rfl 32 (.tmp 2) (.tmp 19) rfl w.heap.size (ai bM) rfl (by first|rfl|simp) 32 _ bU (fD bM) rfl (gB bM) ?_;rw[pM bU]))
  have hg:r=(ng,4):=by rw[<-HR.out];unfold gT;rw[if_neg (by rw[HN.out];exact nP),eD.out]
  exact Co rfl bU kA.out rfl rfl (by rw[hg]) (by rw[hg];rfl) uH (dI.zero _ _) EJ
 | some l =>
  dsimp only[Option.isSome];obtain⟨lA,how,zY⟩:=rf.out l rfl;have hfi:∀e∈x.es,gV e:=λ e he=>(zY e he).1
  have fv:=Hd (show ∀e∈x.es,sp e x from λ e he=>(zY e he).2);clear zY;have OH:dI (w2.alloc (.cells (ai x) 32)) w1.heap.size x:=⟨how.1.below aS (aa _),how.2.1.below aS (aa _),own_below how.2.2 aS (aa _)⟩;have uC:=YU HW.out (by rw[HN.out];omega) (by rw[lA];exact eD.out) how hfi;obtain⟨⟨bs,er⟩,py⟩:∃z,eM x.plain=z:=⟨_,rfl⟩
  have aY:(w2.alloc (.cells (ai x) 32)).rangeAt w2.heap.size 0 (ai x).toList:=by
   intro j v hv;rw[Nat.zero_add,ab aQ,<-Array.getElem?_toList];exact hv
  have em:=uC.bytes;have kW:=Hd OH;have jC:=Hd uC;have rQ:=Hd lA;have rS:=Hd py;have vP:=Hd em;have fB:=Hd aQ;clear lA how hfi OH uC py em aS aQ;go_wp2_with (first|(refine wpList_store_row rfl 32 (.tmp 4) (.tmp 15) rfl w2.heap.size (ai x) rfl (by first|rfl|simp) 32 _ bL (fD x) rfl (gB x) ?_;rw[World.setRow_alloc_new])|(refine wpList_load_mid rfl 32 (.tmp 4) rfl w2.heap.size 0 rfl (ai x).toList _ aY cL rfl (eN x) ?_))
  refine(zI x _ (zW kW.out) jC.out bs er rS.out).mono ?_;have cA:w2.heap.size<(w2.alloc (.cells (ai x) 32)).heap.size:=(Array.getElem?_eq_some_iff.1 fB.out).1;clear aY bL;generalize w2.alloc (.cells (ai x) 32)=w3 at kA kW fB bU cA ⊢;rintro e w4 ⟨a,c4,rfl,dw,hbn,hbc,mv,bO⟩;have wj:=(bO.block w.heap.size (by omega)).trans bU;have BB:=(bO.block w2.heap.size cA).trans fB.out;have kJ:=Hd (kA.out.trans (bO.mono (by omega)));have uI:=Hd (show dI w4 w1.heap.size x from⟨kW.out.1.below bO (aa _),kW.out.2.1.below bO (aa _),own_below kW.out.2.2 bO (aa _)⟩);have cw:gT b=if(eM l).2=0/\(eM l).1=b then(l,0)else(ng,4):=by unfold gT;rw[if_neg (by rw[HN.out];exact nP),eD.out]
  have m0:eM l=(bs,er):=by rw[<-rQ.out];exact rS.out
  rw[m0,HR.out]at cw;have qd:=Hd cw;have zZ:=Hd dw;have YW:=Hd BB;clear cw m0 dw bO BB mv bU kA kW fB;by_cases he0:er=0
  ·
   subst he0
   have hwb:BytesWf bs:=by
    have hp:=rS.out;unfold eM at hp;split at hp
    · cases hp
    rename_i hrt;split at hp
    · cases hp
    cases hp
    exact vP.out (by simpa using hrt)
   have OI:=Hd hwb;obtain⟨bn,gL⟩:∃z,bs.length=z:=⟨_,rfl⟩;rw[gL]at hbc ⊢;have xF:=Hd gL;clear hwb gL;go_wp2_with fail
   refine(YV a ao bn c4 n cap bs b w4 _ _ xF.out HN.out zZ.out (HX.out.below kJ.out (aa _)) hbn kv OI.out HW.out).mono ?_;rintro e w5 ⟨rfl,rfl⟩;by_cases vh:bs=b
   ·
    rw[decide_eq_true vh];have hg:r=(l,0):=by rw[qd.out,if_pos ⟨by first|trivial|rfl,vh⟩]
    have HG:=Hd hg;clear hg vh
    have aY:w5.rangeAt w2.heap.size 0 (ai x).toList:=by
     intro j v hv;rw[Nat.zero_add,ab YW.out,<-Array.getElem?_toList];exact hv
    go_wp2_with (first|(refine wpList_load_mid rfl 32 (.tmp 4) rfl w2.heap.size 0 rfl (ai x).toList _ aY cL rfl (eN x) ?_)|(refine wpList_store_row rfl 32 (.tmp 2) (.tmp 34) rfl w.heap.size (ai x) rfl (by first|rfl|simp) 32 _ wj (fD x) rfl (gB x) ?_))
    have ho:=xX w.heap.size w5 (ai x);exact Co rfl (setRow_heap w5 w.heap.size _ (ai x) _ _ wj) (kJ.out.trans (ho.toBelow (by have:=kJ.out.size;omega) (aa _))) rfl rfl (by rw[HG.out]) (by rw[HG.out];exact rQ.out) jC.out ⟨(uI.out.1.only ho (by omega)).le (by omega),(uI.out.2.1.only ho (by omega)).le (by omega),fh (rK uI.out.2.2 ho (by omega)) (by omega)⟩ fv.out
   rw[decide_eq_false vh];have hg:r=(ng,4):=by rw[qd.out,if_neg (λ h=>vh h.2)]
   have HG:=Hd hg;clear hg vh;go_wp2_with (refine wpList_store_row rfl 32 (.tmp 2) (.tmp 33) rfl w.heap.size (ai bM) rfl (by first|rfl|simp) 32 _ wj (fD bM) rfl (gB bM) ?_;rw[pM wj])
   exact Co rfl wj kJ.out rfl rfl (by rw[HG.out]) (by rw[HG.out];rfl) uH (dI.zero _ _) EJ
  have j2:(er==0)=false:=by simpa using he0
  have j3:(er != 0)=true:=by simpa using he0
  have hg:r=(ng,4):=by rw[qd.out,if_neg (λ h=>he0 h.1)]
  have HG:=Hd hg;clear hg;go_wp2_with (refine wpList_store_row rfl 32 (.tmp 2) (.tmp 33) rfl w.heap.size (ai bM) rfl (by first|rfl|simp) 32 _ wj (fD bM) rfl (gB bM) ?_;rw[pM wj])
  exact Co rfl wj kJ.out rfl rfl (by rw[HG.out]) (by rw[HG.out];rfl) uH (dI.zero _ _) EJ
theorem EK (ao:Option Addr)(n cap:Nat)(b:List Int)(w:World)(r:cQ×Int)(hr:gT b=r)(hn:b.length=n)(hx:BytesIn w w.heap.size ao b)(hw:BytesWf b)(kv:ao=none->cap=0)(hcap:n<=cap)(hl:n<=140737488351232) :
  Calls prog 13 #[.slice ao n cap] w (Ih r w) :=
 (Ii ao n cap b w r hr hn hx hw kv hcap hl).mono λ _ _ ⟨x,h1,h2,h3,h4,_,h6⟩=>⟨x,h1,h2,h3,h4,h6⟩
theorem Ij (x y:Lt)(w:World)(B:Nat)(hp:x.plain=y.plain)(hx:fG w B x)(hy:fG w B y)(hB:B<=w.heap.size)(hl:x.es.length<=1099511627776)(cG:x.vs.length<=1099511627776)(ep:x.im.length<=1099511627776)(nF:∀e∈x.es,Bm e) :
  Calls prog 28 #[fA x,fA y] w λ e w'=>e=.returned (.bool true)/\Below w.heap.size w w':=by
 obtain⟨kd,fr,tt,tm,ix,ws,ob,cm,rn,ea,es,ec,va,vs,vc,ia,im,ic⟩:=x;obtain⟨oK,su,sw,sx,sy,sA,sB,sC,sD,ir,es2,iB,fR,vs2,dG,om,uJ,jc⟩:=y;simp only[Lt.plain,cQ.mk.injEq]at hp;obtain⟨rfl,rfl,rfl,rfl,rfl,rfl,rfl,rfl,rfl,nN,rfl,rfl⟩:=hp;unfold fA;dsimp only at hl cG ep nF ⊢;obtain⟨n,hn⟩:∃n,es.length=n:=⟨_,rfl⟩;have dW:es2.length=n:=by rw[<-hn];have:=congrArg List.length nN;simpa using this.symm
 obtain⟨m,hm⟩:∃m,vs.length=m:=⟨_,rfl⟩;obtain⟨k,hk⟩:∃k,im.length=k:=⟨_,rfl⟩;rw[hn]at hl;rw[hm]at cG;rw[hk]at ep;rw[hn,dW,hm,hk];have HX:=Hd hx;have HY:=Hd hy;have YX:=Hd nN;have HN:=Hd hn;have xL:=Hd dW;have HM:=Hd hm;have HK:=Hd hk;have xY:=Hd nF;clear hx hy nN hn dW hm hk nF;have hb:=((aj w.heap.size w).alloc (aa _) (.cells #[.int .u8 kd,.int .i64 fr,.int .i64 tt,.int .i64 tm,.int .i64 ix,.int .i64 ws,.bool ob,.int .i64 cm,.int .i64 rn,.slice ea n ec,.slice va m vc,.slice ia k ic] 32)).alloc (by simp) (.cells #[.int .u8 kd,.int .i64 fr,.int .i64 tt,.int .i64 tm,.int .i64 ix,.int .i64 ws,.bool ob,.int .i64 cm,.int .i64 rn,.slice ir n iB,.slice fR m dG,.slice om k jc] 32);have dB:=hb.size
 have k1:((w.alloc (.cells #[.int .u8 kd,.int .i64 fr,.int .i64 tt,.int .i64 tm,.int .i64 ix,.int .i64 ws,.bool ob,.int .i64 cm,.int .i64 rn,.slice ea n ec,.slice va m vc,.slice ia k ic] 32)).alloc (.cells #[.int .u8 kd,.int .i64 fr,.int .i64 tt,.int .i64 tm,.int .i64 ix,.int .i64 ws,.bool ob,.int .i64 cm,.int .i64 rn,.slice ir n iB,.slice fR m dG,.slice om k jc] 32)).heap[w.heap.size]?=some (.cells #[.int .u8 kd,.int .i64 fr,.int .i64 tt,.int .i64 tm,.int .i64 ix,.int .i64 ws,.bool ob,.int .i64 cm,.int .i64 rn,.slice ea n ec,.slice va m vc,.slice ia k ic] 32 (0,0)) :=
  ((nc _ _ none).block _ (by simp) (by simp)).trans (heap_alloc_new w _)
 have k2:((w.alloc (.cells #[.int .u8 kd,.int .i64 fr,.int .i64 tt,.int .i64 tm,.int .i64 ix,.int .i64 ws,.bool ob,.int .i64 cm,.int .i64 rn,.slice ea n ec,.slice va m vc,.slice ia k ic] 32)).alloc (.cells #[.int .u8 kd,.int .i64 fr,.int .i64 tt,.int .i64 tm,.int .i64 ix,.int .i64 ws,.bool ob,.int .i64 cm,.int .i64 rn,.slice ir n iB,.slice fR m dG,.slice om k jc] 32)).heap[w.heap.size+1]?=some (.cells #[.int .u8 kd,.int .i64 fr,.int .i64 tt,.int .i64 tm,.int .i64 ix,.int .i64 ws,.bool ob,.int .i64 cm,.int .i64 rn,.slice ir n iB,.slice fR m dG,.slice om k jc] 32 (0,0)):=by
  have:=heap_alloc_new (w.alloc (.cells #[.int .u8 kd,.int .i64 fr,.int .i64 tt,.int .i64 tm,.int .i64 ix,.int .i64 ws,.bool ob,.int .i64 cm,.int .i64 rn,.slice ea n ec,.slice va m vc,.slice ia k ic] 32)) (.cells #[.int .u8 kd,.int .i64 fr,.int .i64 tt,.int .i64 tm,.int .i64 ix,.int .i64 ws,.bool ob,.int .i64 cm,.int .i64 rn,.slice ir n iB,.slice fR m dG,.slice om k jc] 32);simpa using this
 have K1:=Hd k1;have K2:=Hd k2;clear k1 k2;go_enter func28,ntmps28
 go_wp2_with fail
 refine(Lw ea n ec ir n iB es es2 _ B HN.out xL.out YX.out (HX.out.1.below iI (hb.mono hB) (aa _)) (HY.out.1.below iI (hb.mono hB) (aa _)) (aF hB dB) hl xY.out).mono ?_;rintro e w1 ⟨rfl,am⟩;have nz:=(Array.getElem?_eq_some_iff.1 K1.out).1;have kP:=(Array.getElem?_eq_some_iff.1 K2.out).1;have k3:=(am.block _ nz).trans K1.out;have k4:=(am.block _ kP).trans K2.out;have c1:w1.cell? ⟨w.heap.size,10,none⟩=some (.slice va m vc):=ab k3 10;have c2:w1.cell? ⟨w.heap.size+1,10,none⟩=some (.slice fR m dG):=ab k4 10;have K3:=Hd k3;have K4:=Hd k4;have ap:=hb.trans (am.mono dB);have cA:=ap.size;clear k3 k4 am hb;go_wp2_with fail
 refine(FH va m vc fR m dG vs _ B HM.out HM.out (HX.out.2.1.below cn (ap.mono hB) (aa _)) (HY.out.2.1.below cn (ap.mono hB) (aa _)) (aF hB cA) (by omega)).mono ?_;rintro e w2 ⟨rfl,bO⟩;clear c1 c2;have k5:=(bO.block _ (Array.getElem?_eq_some_iff.1 K3.out).1).trans K3.out;have k6:=(bO.block _ (Array.getElem?_eq_some_iff.1 K4.out).1).trans K4.out;have c1:w2.cell? ⟨w.heap.size,11,none⟩=some (.slice ia k ic):=ab k5 11;have c2:w2.cell? ⟨w.heap.size+1,11,none⟩=some (.slice om k jc):=ab k6 11;have ak:=ap.trans (bO.mono cA);have ik:=ak.size;clear k5 k6 bO;go_wp2_with fail
 refine(DR ia k ic om k jc im _ HK.out HK.out ((HX.out.2.2.below (ak.mono hB) (aa _)).mono (aF hB ik)) ((HY.out.2.2.below (ak.mono hB) (aa _)).mono (aF hB ik)) (by omega)).mono ?_;rintro e w3 ⟨rfl,bg⟩;clear c1 c2;go_wp2_with fail
 go_ret;exact⟨rfl,ak.trans (bg.mono ik)⟩
def rh:Lt:=⟨2,2,1,258,0,0,true,0,0,none,[],0,none,[],0,none,[],0⟩
def sF:Lt:=⟨2,2,1,258,1,0,true,0,0,none,[],0,none,[],0,none,[],0⟩
def awB:List Int:=[2,2,1,0,0,0,0,0,0,1,2,0,0,0,0,0,0,0,0,0,0,0,0,0,0,0,0,1,0,0,0,0,0,0,0,0,0,0,0,0,0,0,0,0,0,0,0,0,0,0,0,0,0,0,0,0]
theorem YY:eM rh.plain=(awB,0):=by kernel_rfl
theorem YZ:eM sF.plain=([],4):=by kernel_rfl
theorem Y0:fx sF.plain=false:=by kernel_rfl
theorem Y1:gT awB=(rh.plain,0):=by kernel_rfl
theorem Ik:cy rh/\cy sF:=by
 constructor<;>constructor<;>simp[rh,sF,bH,BytesWf]
theorem Il (w:World)(B:Nat):fG w B rh/\fG w B sF:=by
 refine⟨⟨?_,?_,?_⟩,⟨?_,?_,?_⟩⟩<;>exact Or.inl rfl
theorem Y2:BytesWf awB:=by
 intro x hx;have h:awB.all (λ x=>decide (0<=x) && decide (x<256))=true:=by decide +kernel
 have:=List.all_eq_true.1 h x hx;simpa using this
theorem Cp (w:World):Calls prog 15 #[] w λ e w'=>e=.returned (.bool true)/\Below w.heap.size w w':=by
 have P1:=Hd YY;have P2:=Hd YZ;go_enter func15,ntmps15
 go_wp2_with fail
 refine(zI rh _ (Il _ _).1 Ik.1 awB 0 P1.out).mono ?_;have ba:=(aj w.heap.size w).alloc (aa _) (.cells (ai rh) 32);have dH:=heap_alloc_new w (.cells (ai rh) 32);have dB:(w.alloc (.cells (ai rh) 32)).heap.size=w.heap.size+1:=by simp
 have nz:=(Array.getElem?_eq_some_iff.1 dH).1;rintro e w2 ⟨a2,c2,rfl,hi2,dW,bN,ho2,am⟩;have am:Below (w.alloc (.cells (ai rh) 32)).heap.size (w.alloc (.cells (ai rh) 32)) w2:=am;have dh:=(am.block _ nz).trans dH;have iw:=ba.trans (am.mono (by omega));have hsz2:w.heap.size+1<=w2.heap.size:=by have:=am.size;omega
 have hl:awB.length=56:=by decide +kernel
 rw[hl]at bN ⊢;clear am;have I2:=Hd hi2;have K2:=Hd dh;have B2:=Hd iw;have HL:=Hd hl;obtain⟨b2,o2,rfl,kP,OJ⟩:=hi2.resolve_left (by decide);have ae9:w.heap.size+1<=b2:=by have:=ho2 _ rfl;simp at this;omega
 have Y3:=Hd OJ;clear OJ;clear ba dH dB nz am dh iw hi2 ho2 hl;go_wp2_with fail
 have hws:w2.heap.size<=w2.heap.size:=aa _;refine(EK (some ⟨b2,o2,none⟩) 56 c2 awB w2 (rh.plain,0) Y1 HL.out I2.out Y2 dW bN (by decide)).mono ?_;rintro e w3 ⟨x,rfl,lA,_,_,ap⟩;have hK3:=(ap.block w.heap.size (by omega)).trans K2.out;have hO3:Only w.heap.size w2 w3:=Only.of_below ap;have hB3:=B2.out.trans (ap.mono (by omega));have cA:=ap.size;obtain⟨kd,fr,tt,tm,ix,ws,ob,cm,rn,ea,es,ec,va,vs,vc,ia,im,ic⟩:=x;simp only[Lt.plain,rh,cQ.mk.injEq]at lA;obtain⟨rfl,rfl,rfl,rfl,rfl,rfl,rfl,rfl,rfl,_,_,_⟩:=lA;have O3:=Hd hO3;have K3:=Hd hK3;have B3:=Hd hB3;clear ap hK3 hO3 hB3 I2 K2 B2 hws;unfold fA;dsimp only;go_upto_region 4 with fail
 have aS:=(aj w3.heap.size w3).alloc (aa _) (.cells #[.int .u8 2,.int .i64 2,.int .i64 1,.int .i64 258,.int .i64 0,.int .i64 0,.bool true,.int .i64 0,.int .i64 0,.slice ea es.length ec,.slice va 0 vc,.slice ia 0 ic] 32);have fY:=(aS.block w.heap.size (by omega)).trans K3.out;have aQ:=heap_alloc_new w3 (.cells #[.int .u8 2,.int .i64 2,.int .i64 1,.int .i64 258,.int .i64 0,.int .i64 0,.bool true,.int .i64 0,.int .i64 0,.slice ea es.length ec,.slice va 0 vc,.slice ia 0 ic] 32);have lX:=(Array.getElem?_eq_some_iff.1 aQ).1;have hi4:=O3.out.trans (Only.of_below aS);have hB4:=B3.out.trans (aS.mono (by omega));generalize w3.alloc (.cells #[.int .u8 2,.int .i64 2,.int .i64 1,.int .i64 258,.int .i64 0,.int .i64 0,.bool true,.int .i64 0,.int .i64 0,.slice ea es.length ec,.slice va 0 vc,.slice ia 0 ic] 32)=w4 at aS fY aQ lX hi4 hB4 ⊢;have c4:w4.cell? ⟨w.heap.size,4,none⟩=some (.int .i64 0):=ab fY 4;have f4:w4.frozen? ⟨w.heap.size,4,none⟩=false:=aO fY 4;have un:=Hd fY;have fB:=Hd aQ;have I4:=Hd hi4;have B4:=Hd hB4;clear fY aQ hi4 hB4 aS;go_upto_region 5 with fail
 have lW:(w4.setCell ⟨w.heap.size,4,none⟩ (.int .i64 1)).heap[w.heap.size]?=some (.cells (ai sF) 32 (0,0)):=js un.out _ rfl;have gn:=Only.set w.heap.size w4 4 (.int .i64 1);have hx5:=(gn.2 w3.heap.size (by omega) (by omega)).trans fB.out;have uK:=B4.out.setCell (p:=⟨w.heap.size,4,none⟩) (aa _) (.int .i64 1);have ik:(w4.setCell ⟨w.heap.size,4,none⟩ (.int .i64 1)).heap.size=w4.heap.size:=by simp
 clear c4 f4;generalize w4.setCell ⟨w.heap.size,4,none⟩ (.int .i64 1)=w5 at lW hx5 uK ik gn ⊢;have O5:=Hd (I4.out.trans gn)
 have aY:w5.rangeAt w.heap.size 0 (ai sF).toList:=by
  intro j v hv;rw[Nat.zero_add,ab lW,<-Array.getElem?_toList];exact hv
 have Im:=Hd lW;have In:=Hd hx5;have B5:=Hd uK;clear un fB I4 B4 lW hx5 uK gn O3 K3 B3;go_wp2_with (refine wpList_load_mid rfl 32 (.tmp 1) rfl w.heap.size 0 rfl (ai sF).toList _ aY cL rfl (eN sF) ?_)
 refine(zI sF _ (Il _ _).2 Ik.2 [] 4 P2.out).mono ?_;rintro e w6 ⟨a6,c6,rfl,_,p7,_,_,bg⟩;have qe:=(bg.block w.heap.size (by omega)).trans Im.out;have Io:=(bg.block w3.heap.size (by omega)).trans In.out;have OL:=B5.out.trans (bg.mono (by omega));have OM:=O5.out.trans (Only.of_below bg)
 have xZ:∀i,i<56->w6.cell? ⟨b2,o2+i,none⟩=some (.int .u8 (awB.getD i 0)):=λ i hi=>by
  rw[<-Y3.out i (by rw[HL.out];exact hi)];unfold World.cell?;rw[OM.2 b2 kP (by omega)]
 have q0:w6.cell? ⟨b2,o2,none⟩=some (.int .u8 2):=xZ 0 (by decide);have q1:w6.cell? ⟨b2,o2+1,none⟩=some (.int .u8 2):=xZ 1 (by decide);have q2:w6.cell? ⟨b2,o2+2,none⟩=some (.int .u8 1):=xZ 2 (by decide);have q9:w6.cell? ⟨b2,o2+9,none⟩=some (.int .u8 1):=xZ 9 (by decide);have Y4:w6.cell? ⟨b2,o2+10,none⟩=some (.int .u8 2):=xZ 10 (by decide);have Y5:w6.cell? ⟨b2,o2+27,none⟩=some (.int .u8 1):=xZ 27 (by decide);have x3:w6.cell? ⟨w3.heap.size,3,none⟩=some (.int .i64 258):=ab Io 3;have x6:w6.cell? ⟨w3.heap.size,6,none⟩=some (.bool true):=ab Io 6;have k0:w6.cell? ⟨w.heap.size,0,none⟩=some (.int .u8 2):=ab qe 0;have k1:w6.cell? ⟨w.heap.size,1,none⟩=some (.int .i64 2):=ab qe 1;have k2:w6.cell? ⟨w.heap.size,2,none⟩=some (.int .i64 1):=ab qe 2;have k3:w6.cell? ⟨w.heap.size,3,none⟩=some (.int .i64 258):=ab qe 3;have k4:w6.cell? ⟨w.heap.size,4,none⟩=some (.int .i64 1):=ab qe 4;have k5:w6.cell? ⟨w.heap.size,5,none⟩=some (.int .i64 0):=ab qe 5;have k6:w6.cell? ⟨w.heap.size,6,none⟩=some (.bool true):=ab qe 6;have k7:w6.cell? ⟨w.heap.size,7,none⟩=some (.int .i64 0):=ab qe 7;have k8:w6.cell? ⟨w.heap.size,8,none⟩=some (.int .i64 0):=ab qe 8;have k9:w6.cell? ⟨w.heap.size,9,none⟩=some (.slice none 0 0):=ab qe 9;have k10:w6.cell? ⟨w.heap.size,10,none⟩=some (.slice none 0 0):=ab qe 10;have k11:w6.cell? ⟨w.heap.size,11,none⟩=some (.slice none 0 0):=ab qe 11;have B6:=Hd OL;clear aY qe Io OL OM xZ bg;go_wp2_with fail
 refine(BH sF _ (Il _ _).2 Ik.2 false Y0).mono ?_;rintro e w7 ⟨rfl,eV⟩;clear k0 k1 k2 k3 k4 k5 k6 k7 k8 k9 k10 k11 q0 q1 q2 q9 Y4 Y5 x3 x6;go_wp2_with fail
 go_ret;exact⟨rfl,B6.out.trans (eV.mono (by have:=B6.out.size;omega))⟩
end Go.Proofs.YtepdklfkegkojaaGreatDoor
