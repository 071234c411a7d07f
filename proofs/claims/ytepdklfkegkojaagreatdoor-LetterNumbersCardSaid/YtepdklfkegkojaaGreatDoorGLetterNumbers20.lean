/- Parts of one proof. Conditions: as each says. -/
import Derived.Test.YtepdklfkegkojaaGreatDoorGLetterNumbers0
import Derived.Test.YtepdklfkegkojaaGreatDoorGLetterNumbers19
import Derived.Test.YtepdklfkegkojaaGreatDoorGLetterNumbers12
import Derived.Test.YtepdklfkegkojaaGreatDoorGLetterNumbers15
set_option linter.all false
set_option maxHeartbeats 16000000
set_option maxRecDepth 100000
namespace Go.Proofs.YtepdklfkegkojaaGreatDoor
open Go.Proofs.Tryz
open Go.RowKit
theorem ZR:∀w,(sizeOf (prog.elem 24)).run prog w=.ok 1 w:=λ _=>by kernel_rfl
theorem ZS:prog.underlying 24=some (.slice (prog.elem 24)):=by kernel_rfl
theorem Pw (B T:Nat)(a:Option Addr)(n c:Nat)(w:World)(h:Room w B T 3 1 a n c)(hn:n<=1099511627776) :
  Calls prog 81 #[.slice a n c] w λ e w'=>e=.returned (.tuple #[])/\OverK B T [3] w w':=by
 obtain⟨g,rfl,nQ,ph,rfl,bU⟩:=h
 have fO:∀w',(Instr.sliceAt 24 (.slice (some ⟨g,0,none⟩) n (n+12)) none (some (.int .i64 ((n:Int)+12))) none).run prog w'=.ok (.slice (some ⟨g,0,none⟩) (n+12) (n+12)) w':=λ w'=>by
  have h1:=ua ZS ZR (some ⟨g,0,none⟩) n (n+12) (n+12) (aa _) .i64 ((n:Int)+12) (by omega) w';rwa [wY _ _ _ (by intro a ha;cases ha;rfl)]at h1
 have HK:=Hd bU;clear bU;go_enter func81,ntmps81
 go_wp2_with fail
 clear fO;go_loopw [3] (λ i wr=>∃q:Nat,q<=n+12/\i=.int .i64 q/\jI wr g 3 ((n+12)*1)/\OverK B T [3] w wr) (λ i _=>n+12-(intOf i).toNat)
 exact⟨0,by omega,rfl,HK.out,OverK.refl _ _ _ _⟩
 obtain⟨q,hq,rfl,bU,kj⟩:=hrel;have qP:=Hd kj;have yi:=Hd bU;clear kj bU;by_cases ae:q<n+12
 ·
  have i1:(q:Int)<(n:Int)+12:=by omega
  have i2:(q:Int)<((n+12:Nat):Int):=by omega
  go_wp2_with fail
  refine(Cy 2 _ 2 q (by omega) rfl (by omega) (by omega) wr).mono ?_;rintro e w3 ⟨rfl,ap⟩;have kj:=qP.out.Ah ap (aF (by have:=HK.out.lt;omega) qP.out.size);have eX:=yi.out.below ap (aa _);obtain⟨o0,d0⟩:=eX.cell (i:=q) (by omega);have f0:w3.frozen? ⟨g,q,none⟩=false:=eX.free _;have s0:=kj.set eX (by simp) nQ ph (q) (.int .i64 (bt 2 q));have b0:=eX.set g (q) (.int .i64 (bt 2 q));have SX:=Hd s0;have BX:=Hd b0;clear s0 b0 kj eX;go_wp2_with fail
  go_roundw
  exact⟨q+1,by omega,by go_num,BX.out,SX.out⟩
  simp[intOf];omega
 obtain rfl:q=n+12:=by omega
 go_wp2_with fail
 go_end0;exact⟨rfl,qP.out⟩
theorem ZT:∀w,(sizeOf (prog.elem 42)).run prog w=.ok 3 w:=λ _=>by kernel_rfl
theorem ZU:prog.underlying 42=some (.slice (prog.elem 42)):=by kernel_rfl
theorem ZV (B T:Nat)(a:Option Addr)(n c:Nat)(w:World)(h:Room w B T 50 3 a n c)(hn:n<=1099511627776) :
  Calls prog 221 #[.slice a n c] w λ e w'=>e=.returned (.tuple #[])/\OverK B T [50] w w':=by
 obtain⟨g,rfl,nQ,ph,rfl,bU⟩:=h
 have fO:∀w',(Instr.sliceAt 42 (.slice (some ⟨g,0,none⟩) n (n+12)) none (some (.int .i64 ((n:Int)+12))) none).run prog w'=.ok (.slice (some ⟨g,0,none⟩) (n+12) (n+12)) w':=λ w'=>by
  have h1:=ua ZU ZT (some ⟨g,0,none⟩) n (n+12) (n+12) (aa _) .i64 ((n:Int)+12) (by omega) w';rwa [wY _ _ _ (by intro a ha;cases ha;rfl)]at h1
 have HK:=Hd bU;clear bU;go_enter func221,ntmps221
 go_wp2_with fail
 clear fO;go_loopw [3] (λ i wr=>∃q:Nat,q<=n+12/\i=.int .i64 q/\jI wr g 50 ((n+12)*3)/\OverK B T [50] w wr) (λ i _=>n+12-(intOf i).toNat)
 exact⟨0,by omega,rfl,HK.out,OverK.refl _ _ _ _⟩
 obtain⟨q,hq,rfl,bU,kj⟩:=hrel;have qP:=Hd kj;have yi:=Hd bU;clear kj bU;by_cases ae:q<n+12
 ·
  have i1:(q:Int)<(n:Int)+12:=by omega
  have i2:(q:Int)<((n+12:Nat):Int):=by omega
  go_wp2_with fail
  refine(Cz 2 _ 2 q (by omega) rfl (by omega) (by omega) wr).mono ?_;rintro e w3 ⟨rfl,ap⟩;have kj:=qP.out.Ah ap (aF (by have:=HK.out.lt;omega) qP.out.size);have eX:=yi.out.below ap (aa _);obtain⟨o0,d0⟩:=eX.cell (i:=q*3) (by omega);have f0:w3.frozen? ⟨g,q*3,none⟩=false:=eX.free _;obtain⟨o1,d1⟩:=eX.cell (i:=q*3+1) (by omega);have f1:w3.frozen? ⟨g,q*3+1,none⟩=false:=eX.free _;obtain⟨o2,d2⟩:=eX.cell (i:=q*3+2) (by omega);have f2:w3.frozen? ⟨g,q*3+2,none⟩=false:=eX.free _;have s0:=kj.set eX (by simp) nQ ph (q*3) (.int .u8 0);have b0:=eX.set g (q*3) (.int .u8 0);have s1:=s0.set b0 (by simp) nQ ph (q*3+1) (.int .i64 (bt 2 q));have b1:=b0.set g (q*3+1) (.int .i64 (bt 2 q));have s2:=s1.set b1 (by simp) nQ ph (q*3+2) (.string ByteArray.empty);have b2:=b1.set g (q*3+2) (.string ByteArray.empty);have SX:=Hd s2;have BX:=Hd b2;clear s0 b0 s1 b1 s2 b2 kj eX;go_wp2_with fail
  go_roundw
  exact⟨q+1,by omega,by go_num,BX.out,SX.out⟩
  simp[intOf];omega
 obtain rfl:q=n+12:=by omega
 go_wp2_with fail
 go_end0;exact⟨rfl,qP.out⟩
theorem ZW:∀w,(sizeOf (prog.elem 25)).run prog w=.ok 1 w:=λ _=>by kernel_rfl
theorem ZX:prog.underlying 25=some (.slice (prog.elem 25)):=by kernel_rfl
theorem ZY (B T:Nat)(a:Option Addr)(n c:Nat)(w:World)(h:Room w B T 5 1 a n c)(hn:n<=1099511627776) :
  Calls prog 26 #[.slice a n c] w λ e w'=>e=.returned (.tuple #[])/\OverK B T [5] w w':=by
 obtain⟨g,rfl,nQ,ph,rfl,bU⟩:=h
 have fO:∀w',(Instr.sliceAt 25 (.slice (some ⟨g,0,none⟩) n (n+12)) none (some (.int .i64 ((n:Int)+12))) none).run prog w'=.ok (.slice (some ⟨g,0,none⟩) (n+12) (n+12)) w':=λ w'=>by
  have h1:=ua ZX ZW (some ⟨g,0,none⟩) n (n+12) (n+12) (aa _) .i64 ((n:Int)+12) (by omega) w';rwa [wY _ _ _ (by intro a ha;cases ha;rfl)]at h1
 have HK:=Hd bU;clear bU;go_enter func26,ntmps26
 go_wp2_with fail
 clear fO;go_loopw [3] (λ i wr=>∃q:Nat,q<=n+12/\i=.int .i64 q/\jI wr g 5 ((n+12)*1)/\OverK B T [5] w wr) (λ i _=>n+12-(intOf i).toNat)
 exact⟨0,by omega,rfl,HK.out,OverK.refl _ _ _ _⟩
 obtain⟨q,hq,rfl,bU,kj⟩:=hrel;have qP:=Hd kj;have yi:=Hd bU;clear kj bU;by_cases ae:q<n+12
 ·
  have i1:(q:Int)<(n:Int)+12:=by omega
  have i2:(q:Int)<((n+12:Nat):Int):=by omega
  go_wp2_with fail
  refine(pO _ _ 2 q (by omega) rfl (by omega) (by omega) wr).mono ?_;rintro e w3 ⟨rfl,rfl⟩;have kj:=qP.out;have eX:=yi.out;obtain⟨o0,d0⟩:=eX.cell (i:=q) (by omega);have f0:wr.frozen? ⟨g,q,none⟩=false:=eX.free _;have s0:=kj.set eX (by simp) nQ ph (q) (.int .u8 (ez 2 q));have b0:=eX.set g (q) (.int .u8 (ez 2 q));have SX:=Hd s0;have BX:=Hd b0;clear s0 b0 kj eX;go_wp2_with fail
  go_roundw
  exact⟨q+1,by omega,by go_num,BX.out,SX.out⟩
  simp[intOf];omega
 obtain rfl:q=n+12:=by omega
 go_wp2_with fail
 go_end0;exact⟨rfl,qP.out⟩
theorem ZZ (B T:Nat)(ck:Int)(text:ByteArray)(num:Int)(a:Option Addr)(n c:Nat)(w:World)(h:Room w B T 50 3 a n c)(hn:n<=1099511627776)(hB:B<=w.heap.size) :
  Calls prog 202 #[.agg #[.int .u8 ck,.string text,.slice a n c,.int .i64 num]] w λ e w'=>e=.returned (.tuple #[])/\OverK B T [50] w w':=by
 have hb:=(aj w.heap.size w).alloc (aa _) (.cells #[.int .u8 ck,.string text,.slice a n c,.int .i64 num] 44);have HB:=Hd hb;have H:=Hd (h.below hb);clear h hb;go_enter func202,ntmps202
 go_wp2_with fail
 refine(ZV B T a n c _ H.out hn).mono ?_;rintro e w3 ⟨rfl,ho⟩;go_wp2_with fail
 go_end0;exact⟨rfl,((OverK.refl B T [50] w).Ah HB.out hB).trans ho (λ _ h=>h)⟩
structure sT (w:World) (B T:Nat) (f:En):Prop where
 args:Room w B T 50 3 f.fQ f.args.length f.fw
 vs:Room w B T 3 1 f.hU f.vs.length f.ce
theorem sT.over {w w':World}{B T:Nat}{f:En}{Ts:List TypeId}(h:sT w B T f)(ho:OverK B T Ts w w'):sT w' B T f:=⟨h.args.over ho,h.vs.over ho⟩
theorem sT.below {w w':World}{B T:Nat}{f:En}(h:sT w B T f)(hb:Below w.heap.size w w'):sT w' B T f:=⟨h.args.below hb,h.vs.below hb⟩
theorem kL.room {w:World}{B:Nat}{f:En}(h:kL w B f):sT w B w.heap.size f:=by
 obtain⟨⟨g,h1,h2,h3⟩,⟨g',kT,lB,jy⟩⟩:=h;exact⟨⟨g,h1,h3.lt.1,h3.lt.2,h2,jI.wD h3⟩,⟨g',kT,jy.lt.1,jy.lt.2,lB,jI.wD jy⟩⟩
def Px:List TypeId:=[50,3]
theorem aaa (B T:Nat)(x0 x1 x2 x3 ck:Int)(text:ByteArray)(ao:Option Addr)(an ac:Nat)(num:Int)(vo:Option Addr)(vn vc:Nat)(w:World)(h:Room w B T 50 3 ao an ac)(h2:Room w B T 3 1 vo vn vc)(hn:an<=1099511627776)(dW:vn<=1099511627776)(hB:B<=w.heap.size)(hT:T<=w.heap.size) :
  Calls prog 141 #[.agg #[.int .i64 x0,.int .u8 x1,.int .i64 x2,.int .i64 x3,.int .u8 ck,.string text,.slice ao an ac,.int .i64 num,.slice vo vn vc]] w λ e w'=>e=.returned (.tuple #[])/\OverK B T Px w w':=by
 have hb:=(aj w.heap.size w).alloc (aa _) (.cells #[.int .i64 x0,.int .u8 x1,.int .i64 x2,.int .i64 x3,.int .u8 ck,.string text,.slice ao an ac,.int .i64 num,.slice vo vn vc] 46);have hk:=heap_alloc_new w (.cells #[.int .i64 x0,.int .u8 x1,.int .i64 x2,.int .i64 x3,.int .u8 ck,.string text,.slice ao an ac,.int .i64 num,.slice vo vn vc] 46);have HB:=Hd hb;have HK:=Hd hk;have H:=Hd (h.below hb);have H2:=Hd (h2.below hb);have HS:=Hd (show w.heap.size<=(w.alloc (.cells #[.int .i64 x0,.int .u8 x1,.int .i64 x2,.int .i64 x3,.int .u8 ck,.string text,.slice ao an ac,.int .i64 num,.slice vo vn vc] 46)).heap.size from hb.size);clear h h2 hb hk;go_enter func141,ntmps141
 go_wp2_with fail
 refine(ZZ B T ck text num ao an ac _ H.out hn (aF hB HS.out)).mono ?_;rintro e w3 ⟨rfl,ho⟩;have bL:=ho.far _ _ _ HK.out (by decide);have c8:w3.cell? ⟨w.heap.size,8,none⟩=some (.slice vo vn vc):=ab bL 8;have HH:=Hd (H2.out.over ho);have HO:=Hd ((((OverK.refl B T Px w).Ah HB.out hB).trans ho (by decide)));clear bL ho;go_wp2_with fail
 refine(Pw B T vo vn vc w3 HH.out dW).mono ?_;rintro e w4 ⟨rfl,ho⟩;clear c8;go_wp2_with fail
 go_end0;exact⟨rfl,HO.out.trans ho (by decide)⟩
theorem nm.room {w:World}{B g n:Nat}{cd:List En}(h:nm w B g n cd):Room w B w.heap.size 46 9 (some ⟨g,0,none⟩) n (n+12):=⟨g,rfl,h.lt.1,h.lt.2,rfl,jI.wD h.row⟩
def IP:List TypeId:=[50,3,46]
theorem aab (B T g n c:Nat)(cd:List En)(w:World)(hn:cd.length=n)(hx:kV w w.heap.size (some ⟨g,0,none⟩) cd)(hr:∀f∈cd,sT w B T f)(Ba:Room w B T 46 9 (some ⟨g,0,none⟩) n c)(hd:∀f∈cd,f.args.length<=1099511627776/\f.vs.length<=1099511627776)(hl:n<=1099511627776)(hT:T<=w.heap.size) :
  Calls prog 80 #[.slice (some ⟨g,0,none⟩) n c] w λ e w'=>e=.returned (.tuple #[])/\OverK B T IP w w':=by
 obtain⟨g',hg',nQ,ph,rfl,bU⟩:=Ba;cases hg'
 have fO:∀w',(Instr.sliceAt 30 (.slice (some ⟨g,0,none⟩) n (n+12)) none (some (.int .i64 ((n:Int)+12))) none).run prog w'=.ok (.slice (some ⟨g,0,none⟩) (n+12) (n+12)) w':=λ w'=>by
  have h1:=ua II IH (some ⟨g,0,none⟩) n (n+12) (n+12) (aa _) .i64 ((n:Int)+12) (by omega) w';rwa [wY _ _ _ (by intro a ha;cases ha;rfl)]at h1
 obtain⟨cs,jP,hcz⟩:=bU
 have dC:∀(k:Nat) (f:En),cd[k]?=some f->∀w':World,w'.heap[g]?=some (.cells cs 46 (0,0))->∀j,j<9->w'.cell? ⟨g,k*9+j,none⟩=(bW f)[j]?:=λ k f hf w' hw' j hj=>by
  obtain⟨b,off,bm,hb,hc,_⟩:=hx.at hf;cases bm
  have h0:=hc j hj;rw[Nat.zero_add]at h0;rw[<-h0,ab hw',ab jP]
 have HN:=Hd hn;have HC:=Hd dC;have HD:=Hd hd;have HS:=Hd fO;have HCZ:=Hd hcz;have CM:=Hd jP;have HR:=Hd hr;clear hn dC hd fO hcz jP hx hr;go_enter func80,ntmps80
 go_wp2_with fail
 go_loopw [2] (λ i wr=>∃k:Nat,k<=n/\i=.int .i64 k/\(∀f∈cd,sT wr B T f)/\wr.heap[g]?=some (.cells cs 46 (0,0))/\OverK B T IP w wr) (λ i _=>n-(intOf i).toNat)
 exact⟨0,by omega,rfl,HR.out,CM.out,OverK.refl _ _ _ _⟩
 clear HR CM;obtain⟨k,hk,rfl,Ba,de,kj⟩:=hrel;have HO:=Hd Ba;have HR:=Hd de;have HV:=Hd kj;clear Ba de kj;by_cases ae:k<n
 ·
  have sS:k<cd.length:=by rw[HN.out];exact ae
  have m6:cd[k]?=some cd[k]:=bu sS;have hc:=HC.out k _ m6 wr HR.out;have hro:=HO.out cd[k] (mC sS);have nO:=HD.out cd[k] (mC sS);generalize cd[k]=x at hc hro nO m6;obtain⟨x0,x1,x2,x3,ck,text,ao,fd,fc,num,vo,vs,vc⟩:=x;obtain⟨an,jQ⟩:∃an,fd.length=an:=⟨_,rfl⟩;obtain⟨vn,bR⟩:∃vn,vs.length=vn:=⟨_,rfl⟩;obtain⟨r1,r2⟩:=hro;dsimp only at nO r1 r2;rw[jQ]at r1 nO;rw[bR]at r2 nO;have c0:wr.cell? ⟨g,k*9,none⟩=some (.int .i64 x0):=hc 0 (by decide);have c1:wr.cell? ⟨g,k*9+1,none⟩=some (.int .u8 x1):=hc 1 (by decide);have c2:wr.cell? ⟨g,k*9+1+1,none⟩=some (.int .i64 x2):=hc 2 (by decide);have c3:wr.cell? ⟨g,k*9+1+1+1,none⟩=some (.int .i64 x3):=hc 3 (by decide);have c4:wr.cell? ⟨g,k*9+1+1+1+1,none⟩=some (.int .u8 ck):=hc 4 (by decide);have c5:wr.cell? ⟨g,k*9+1+1+1+1+1,none⟩=some (.string text):=hc 5 (by decide);have c6:wr.cell? ⟨g,k*9+1+1+1+1+1+1,none⟩=some (.slice ao an fc):=(hc 6 (by decide)).trans (by rw[<-jQ];rfl);have c7:wr.cell? ⟨g,k*9+1+1+1+1+1+1+1,none⟩=some (.int .i64 num):=hc 7 (by decide);have c8:wr.cell? ⟨g,k*9+1+1+1+1+1+1+1+1,none⟩=some (.slice vo vn vc):=(hc 8 (by decide)).trans (by rw[<-bR];rfl);have R1:=Hd r1;have R2:=Hd r2;have hd1:=nO.1;have hd2:=nO.2;have i1:(k:Int)<n:=by omega
  have bP:=HV.out.size;clear hc m6 jQ bR r1 r2 nO;go_wp2_with fail
  refine(aaa B T x0 x1 x2 x3 ck text ao an fc num vo vn vc wr R1.out R2.out hd1 hd2 (by omega) (by omega)).mono ?_;rintro e w3 ⟨rfl,ho⟩;have Py:∀f∈cd,sT w3 B T f:=λ f hf=>(HO.out f hf).over ho
  have kQ:=ho.far _ _ _ HR.out (by decide);have jk:=HV.out.trans ho (by decide);have H1:=Hd Py;have H2:=Hd kQ;have H3:=Hd jk;clear Py kQ jk ho c0 c1 c2 c3 c4 c5 c6 c7 c8;go_wp2_with fail
  go_roundw
  exact⟨k+1,by omega,by go_num,H1.out,H2.out,H3.out⟩
  simp[intOf];omega
 obtain rfl:k=n:=by omega
 have fO:=HS.out;go_wp2_with fail
 clear fO;go_loopw [4] (λ i wr=>∃q:Nat,q<=k+12/\i=.int .i64 q/\jI wr g 46 ((k+12)*9)/\OverK B T IP w wr) (λ i _=>k+12-(intOf i).toNat)
 exact⟨0,by omega,rfl,⟨cs,HR.out,HCZ.out⟩,HV.out⟩
 clear HO HR HV;obtain⟨q,hq,rfl,bU,kj⟩:=hrel;have qP:=Hd kj;have yi:=Hd bU;clear kj bU;have bP:=qP.out.size;by_cases eA:q<k+12
 ·
  have i1:(q:Int)<(k:Int)+12:=by omega
  have i2:(q:Int)<((k+12:Nat):Int):=by omega
  go_wp2_with fail
  refine(Ad 2 _ 2 q (by omega) rfl (by omega) (by omega) wr).mono ?_;rintro e w3 ⟨rfl,ap⟩;have kj:=qP.out.Ah ap (by omega);have eX:=yi.out.below ap (aa _);obtain⟨o0,d0⟩:=eX.cell (i:=q*9) (by omega);have f0:w3.frozen? ⟨g,q*9,none⟩=false:=eX.free _;obtain⟨o1,d1⟩:=eX.cell (i:=q*9+1) (by omega);have f1:w3.frozen? ⟨g,q*9+1,none⟩=false:=eX.free _;obtain⟨o2,d2⟩:=eX.cell (i:=q*9+2) (by omega);have f2:w3.frozen? ⟨g,q*9+2,none⟩=false:=eX.free _;obtain⟨o3,d3⟩:=eX.cell (i:=q*9+3) (by omega);have f3:w3.frozen? ⟨g,q*9+3,none⟩=false:=eX.free _;obtain⟨o4,d4⟩:=eX.cell (i:=q*9+4) (by omega);have f4:w3.frozen? ⟨g,q*9+4,none⟩=false:=eX.free _;obtain⟨o5,d5⟩:=eX.cell (i:=q*9+5) (by omega);have f5:w3.frozen? ⟨g,q*9+5,none⟩=false:=eX.free _;obtain⟨o6,d6⟩:=eX.cell (i:=q*9+6) (by omega);have f6:w3.frozen? ⟨g,q*9+6,none⟩=false:=eX.free _;obtain⟨o7,d7⟩:=eX.cell (i:=q*9+7) (by omega);have f7:w3.frozen? ⟨g,q*9+7,none⟩=false:=eX.free _;obtain⟨o8,d8⟩:=eX.cell (i:=q*9+8) (by omega);have f8:w3.frozen? ⟨g,q*9+8,none⟩=false:=eX.free _;have s0:=kj.set eX (by decide) nQ ph (q*9) (.int .i64 (bt 2 q));have b0:=eX.set g (q*9) (.int .i64 (bt 2 q));have s1:=s0.set b0 (by decide) nQ ph (q*9+1) (.int .u8 0);have b1:=b0.set g (q*9+1) (.int .u8 0);have s2:=s1.set b1 (by decide) nQ ph (q*9+2) (.int .i64 0);have b2:=b1.set g (q*9+2) (.int .i64 0);have s3:=s2.set b2 (by decide) nQ ph (q*9+3) (.int .i64 0);have b3:=b2.set g (q*9+3) (.int .i64 0);have s4:=s3.set b3 (by decide) nQ ph (q*9+4) (.int .u8 0);have b4:=b3.set g (q*9+4) (.int .u8 0);have s5:=s4.set b4 (by decide) nQ ph (q*9+5) (.string ByteArray.empty);have b5:=b4.set g (q*9+5) (.string ByteArray.empty);have s6:=s5.set b5 (by decide) nQ ph (q*9+6) (.slice none 0 0);have b6:=b5.set g (q*9+6) (.slice none 0 0);have s7:=s6.set b6 (by decide) nQ ph (q*9+7) (.int .i64 0);have b7:=b6.set g (q*9+7) (.int .i64 0);have s8:=s7.set b7 (by decide) nQ ph (q*9+8) (.slice none 0 0);have b8:=b7.set g (q*9+8) (.slice none 0 0);have SX:=Hd s8;have BX:=Hd b8;clear s0 b0 s1 b1 s2 b2 s3 b3 s4 b4 s5 b5 s6 b6 s7 b7 s8 b8 kj eX;go_wp2_with fail
  go_roundw
  exact⟨q+1,by omega,by go_num,BX.out,SX.out⟩
  simp[intOf];omega
 go_wp2_with fail
 go_end0;exact⟨rfl,qP.out⟩
theorem tO {P:Program}{ops:Array Oper}{rest:List Oper}{op:Oper}{a:Act}{w:World}{Q:Exit->Act->World->Prop}(hw:Region.wanted op (yielded ops a.tmps)=true)(ty:TypeId)(x:Operand)(ho:op.op=.load ty x)
  (b o:Nat) (hx:a.eval x=.pointer (some ⟨b,o,none⟩)) (cs:List Value) (d:TypeDesc) (hc:w.rangeAt b o cs)
  (hu:P.underlying ty=some d) (hd:d.isRow=true) (hi:(P.info? ty).map (·.size)=some cs.length)
  (h:wpList P ops Q rest (a.put op.dst (.agg cs.toArray)) w):wpList P ops Q (op :: rest) a w :=
 Go.BigFrame.wpList_want hw λ _ hK=>wp_load_mid ty x ho b o hx cs d hc hu hd hi (hK _ _ h)
theorem eK {w:World}{g:Nat}{A:Array Value}{T:TypeId}{fz:Nat×Nat}(h:w.heap[g]?=some (.cells A T fz)):w.rangeAt g 0 A.toList:=λ j v hv=>by
 rw[Nat.zero_add,ab h,<-Array.getElem?_toList];exact hv
structure rT (w:World) (B:Nat) (l:Lt):Prop where
 es:∃g,l.eo=some ⟨g,0,none⟩/\l.ey=l.es.length+12/\nm w B g l.es.length l.es
 vs:∃g,l.vo=some ⟨g,0,none⟩/\l.ce=l.vs.length+12/\LentI w B g l.vs
 im:∃g,l.io=some ⟨g,0,none⟩/\l.fi=l.im.length+12/\oG w B g l.im
theorem Pz {w:World}{B g:Nat}{xs:List Int}(h:oG w B g xs):BytesIn w w.heap.size (some ⟨g,0,none⟩) xs:=by
 refine Or.inr ⟨g,0,rfl,DN h,λ i hi=>?_⟩;rw[Nat.zero_add,ay h i (by omega),List.getElem?_map,gu hi,bu hi];simp[bv,List.getD,hi]
theorem rT.below {w w':World}{B B':Nat}{l:Lt}(h:rT w B l)(hb:Below B' w w')(hB:w.heap.size<=B'):rT w' B l:=by
 obtain⟨⟨g,h1,h2,h3⟩,⟨g',kT,lB,jy⟩,⟨g'',sU,uS,sW⟩⟩:=h;exact⟨⟨g,h1,h2,h3.below hb hB⟩,⟨g',kT,lB,own_below jy hb hB⟩,⟨g'',sU,uS,own_below sW hb hB⟩⟩
theorem rT.sub {w:World}{B:Nat}{l:Lt}(h:rT w B l):fG w w.heap.size l:=by
 obtain⟨⟨g,h1,h2,h3⟩,⟨g',kT,lB,jy⟩,⟨g'',sU,uS,sW⟩⟩:=h;refine⟨?_,?_,?_⟩
 · rw[h1];exact h3.rows rfl
 · rw[kT];exact RowsIn.mono cK jy.rows jy.lt.2
 rw[sU];exact Pz sW
theorem IQ {xs ys:List En}(h:xs.map En.plain=ys.map En.plain){e:En}(he:e∈xs):∃f∈ys,f.plain=e.plain:=by
 have:e.plain∈ys.map En.plain:=h▸List.mem_map_of_mem he;obtain⟨f,hf,h⟩:=List.mem_map.1 this;exact⟨f,hf,h⟩
theorem aad {e f:En}(hf:gV f)(hp:f.plain=e.plain)(ha:e.fQ≠none)(hv:e.hU≠none)(hc:e.args.length<=e.fw)(bN:e.vs.length<=e.ce):gV e:=by
 obtain⟨x0,x1,x2,x3,ck,text,ao,fd,fc,num,vo,vs,vc⟩:=f;obtain⟨y0,y1,y2,y3,ck2,jV,Ec,Pr,fc2,kD,ww,vs2,dG⟩:=e;simp only[En.plain,dX.mk.injEq]at hp;obtain⟨rfl,rfl,rfl,rfl,rfl,rfl,rfl,rfl,rfl⟩:=hp;obtain⟨wf,h2,h3,h4,h5,h6⟩:=hf;exact⟨⟨wf.term,wf.kind,wf.session,wf.seq,wf.ck,wf.text,wf.args,wf.num,wf.vs,wf.F7,wf.vn,λ h=>absurd h ha,λ h=>absurd h hv,hc,bN⟩,h2,h3,h4,h5,h6⟩
theorem rT.fine {w:World}{B:Nat}{x l:Lt}(h:rT w B x)(hp:x.plain=l.plain)(hf:cy l):cy x:=by
 obtain⟨⟨g,h1,h2,h3⟩,⟨g',kT,lB,jy⟩,⟨g'',sU,uS,sW⟩⟩:=h;obtain⟨kd,fr,tt,tm,ix,ws,ob,cm,rn,ea,es,ec,va,vs,vc,ia,im,ic⟩:=x;obtain⟨oK,su,sw,sx,sy,sA,sB,sC,sD,ir,es2,iB,fR,vs2,dG,om,uJ,jc⟩:=l;simp only[Lt.plain,cQ.mk.injEq]at hp;obtain⟨rfl,rfl,rfl,rfl,rfl,rfl,rfl,rfl,rfl,nN,rfl,rfl⟩:=hp;have hn:es.length=es2.length:=by have:=congrArg List.length nN;simpa using this
 dsimp only at h1 h2 kT lB sU uS h3;refine⟨hf.kind,hf.fr,hf.tov,hf.term,hf.index,hf.was,hf.commit,hf.round,λ e he=>?_,by have:=hf.en;dsimp only at this ⊢;omega,hf.vs,hf.vn,hf.im,hf.ln,?_,?_,?_,by dsimp only;omega⟩
 ·
  obtain⟨f,hf2,lA⟩:=IQ nN he;obtain⟨⟨a1,b1,c1,_⟩,⟨a2,b2,c2,_⟩⟩:=h3.yg e he;exact aad (hf.es f hf2) lA (by rw[b1];simp) (by rw[b2];simp) (by omega) (by omega)
 · intro h;dsimp only at h;rw[h1]at h;cases h
 · intro h;dsimp only at h;rw[kT]at h;cases h
 intro h;dsimp only at h;rw[sU]at h;cases h
theorem gV.okL {f:En}(h:gV f):Pu f:=⟨h.wf.F8,h.wf.sj,aF h.args (by decide),aF h.vn (by decide)⟩
def aag (l:Lt) (w:World) (e:Ending) (w':World):Prop:=∃x:Lt,e=.returned (fA x)/\x.plain=l.plain/\rT w' w.heap.size x/\Below w.heap.size w w'
theorem aah (l:Lt)(w:World)(hx:fG w w.heap.size l)(hf:cy l):Calls prog 40 #[fA l] w (aag l w):=by
 have PA:=Hd (λ e he=>(hf.es e he).okL);obtain⟨kd,fr,tt,tm,ix,ws,ob,cm,rn,eo,es,ec,vo,vs,vc,io,im,ic⟩:=l;obtain⟨n,hn⟩:∃n,es.length=n:=⟨_,rfl⟩;obtain⟨m,hm⟩:∃m,vs.length=m:=⟨_,rfl⟩;obtain⟨q,hq⟩:∃q,im.length=q:=⟨_,rfl⟩;have l1:=hf.en;have l2:=hf.vn;have l3:=hf.ln;dsimp only at l1 l2 l3 PA;rw[hn]at l1;rw[hm]at l2;rw[hq]at l3;have HF:=Hd hf;have HX:=Hd hx;have HN:=Hd hn;have HM:=Hd hm;have HQ:=Hd hq;unfold fA;dsimp only;rw[hn,hm,hq];clear hf hx hn hm hq;obtain⟨am,h1,h2,aU⟩:=sH w #[.int .u8 kd,.int .i64 fr,.int .i64 tt,.int .i64 tm,.int .i64 ix,.int .i64 ws,.bool ob,.int .i64 cm,.int .i64 rn,.slice eo n ec,.slice vo m vc,.slice io q ic] #[.int .u8 0,.int .i64 0,.int .i64 0,.int .i64 0,.int .i64 0,.int .i64 0,.bool false,.int .i64 0,.int .i64 0,.slice none 0 0,.slice none 0 0,.slice none 0 0] 32 32;have bF:=Hd am;have H1:=Hd h1;have H2:=Hd h2;have HZ:=Hd (pJ aU.symm);clear am h1 h2 aU;go_enter func40,ntmps40
 go_upto_region 1 with fail
 have am:=bF.out;have h1:=H1.out;have h2:=H2.out;have aU:=HZ.out;clear bF H1 H2 HZ;generalize (w.alloc (.cells #[.int .u8 kd,.int .i64 fr,.int .i64 tt,.int .i64 tm,.int .i64 ix,.int .i64 ws,.bool ob,.int .i64 cm,.int .i64 rn,.slice eo n ec,.slice vo m vc,.slice io q ic] 32)).alloc (.cells #[.int .u8 0,.int .i64 0,.int .i64 0,.int .i64 0,.int .i64 0,.int .i64 0,.bool false,.int .i64 0,.int .i64 0,.slice none 0 0,.slice none 0 0,.slice none 0 0] 32)=w2 at am h1 h2 aU ⊢;have c9:w2.cell? ⟨w.heap.size,9,none⟩=some (.slice eo n ec):=ab h1 9;have eR:=nZ (nj HX.out am (aa _)) am.size;have ka:=ZN eo ec es w2 eR.1 PA.out (by rw[HN.out];omega);rw[HN.out]at ka;have wE:=Hd ka;have H1:=Hd h1;have H2:=Hd h2;have HB:=Hd am;clear ka eR h1 h2 am;go_wp2_with fail
 refine wE.out.mono ?_;rintro e w3 ⟨cd,rfl,oC,hL,ap⟩;rw[HN.out]at hL ⊢;obtain⟨g1,kN⟩:∃g,w2.heap.size=g:=⟨_,rfl⟩;rw[kN]at hL ⊢;have hgz:w.heap.size+2<=g1:=by omega
 have cA:=ap.size;have k1:=(ap.block w.heap.size (by omega)).trans H1.out;have k2:=(ap.block (w.heap.size+1) (by omega)).trans H2.out;have CI:=HB.out.trans (ap.mono HB.out.size);have aL:g1<=w3.heap.size:=by omega
 clear c9 wE kN ap H1 H2 HB aU;have f9:w3.frozen? ⟨w.heap.size,9,none⟩=false:=aO k1 9;have c9:w3.cell? ⟨w.heap.size,9,none⟩=some (.slice eo n ec):=ab k1 9;have IR:=Hd oC;have K1:=Hd k1;have K2:=Hd k2;have kA:=Hd CI;have HL:=Hd hL;clear oC k1 k2 CI hL;go_upto_region 2 with fail
 have k1:(w3.setCell ⟨w.heap.size,9,none⟩ (.slice (some ⟨g1,0,none⟩) n (n+12))).heap[w.heap.size]?=some (.cells #[.int .u8 kd,.int .i64 fr,.int .i64 tt,.int .i64 tm,.int .i64 ix,.int .i64 ws,.bool ob,.int .i64 cm,.int .i64 rn,.slice (some ⟨g1,0,none⟩) n (n+12),.slice vo m vc,.slice io q ic] 32 (0,0)):=js K1.out _ rfl;have ho:=Only.set w.heap.size w3 9 (.slice (some ⟨g1,0,none⟩) n (n+12));have k2:=(ho.2 (w.heap.size+1) (by omega) (by omega)).trans K2.out;have bO:=kA.out.trans (ho.toBelow kA.out.size (aa _));have hL4:=HL.out.blocks (λ g h1 h2=>ho.2 g h2 (by omega));have lX:=ho.1;generalize w3.setCell ⟨w.heap.size,9,none⟩ (.slice (some ⟨g1,0,none⟩) n (n+12))=w4 at k1 k2 ho bO hL4 lX ⊢;clear c9 f9 K1 K2 kA HL;have c10:w4.cell? ⟨w.heap.size,10,none⟩=some (.slice vo m vc):=ab k1 10;have hx4:=nZ (nj HX.out bO (aa _)) bO.size;have ka:=Pb vo m vc vs w4 HM.out hx4.2.1 HF.out.sj (by omega);have wE:=Hd ka;have K1:=Hd k1;have K2:=Hd k2;have kJ:=Hd bO;have rm:=Hd hL4;clear ka hx4 k1 k2 bO hL4 ho;go_wp2_with fail
 refine wE.out.mono ?_;rintro e w5 ⟨g2,rfl,ax,_,hV,ak⟩;have ik:=ak.size;have k1:=(ak.block w.heap.size (by omega)).trans K1.out;have k2:=(ak.block (w.heap.size+1) (by omega)).trans K2.out;have PC:=kJ.out.trans (ak.mono kJ.out.size);have hL5:=rm.out.below ak (aa _);clear c10 wE ak K1 K2 kJ rm;have f10:w5.frozen? ⟨w.heap.size,10,none⟩=false:=aO k1 10;have c10:w5.cell? ⟨w.heap.size,10,none⟩=some (.slice vo m vc):=ab k1 10;have K1:=Hd k1;have K2:=Hd k2;have oc:=Hd PC;have HL:=Hd hL5;have HV:=Hd hV;clear k1 k2 PC hL5 hV;go_upto_region 3 with fail
 have k1:(w5.setCell ⟨w.heap.size,10,none⟩ (.slice (some ⟨g2,0,none⟩) m (m+12))).heap[w.heap.size]?=some (.cells #[.int .u8 kd,.int .i64 fr,.int .i64 tt,.int .i64 tm,.int .i64 ix,.int .i64 ws,.bool ob,.int .i64 cm,.int .i64 rn,.slice (some ⟨g1,0,none⟩) n (n+12),.slice (some ⟨g2,0,none⟩) m (m+12),.slice io q ic] 32 (0,0)):=js K1.out _ rfl;have ho:=Only.set w.heap.size w5 10 (.slice (some ⟨g2,0,none⟩) m (m+12));have k2:=(ho.2 (w.heap.size+1) (by omega) (by omega)).trans K2.out;have bg:=oc.out.trans (ho.toBelow oc.out.size (aa _));have hL6:=HL.out.blocks (λ g h1 h2=>ho.2 g h2 (by omega));have jH:=LentI.blocks HV.out (λ g h1 h2=>ho.2 g h2 (by omega));have m7:=ho.1;generalize w5.setCell ⟨w.heap.size,10,none⟩ (.slice (some ⟨g2,0,none⟩) m (m+12))=w6 at k1 k2 ho bg hL6 jH m7 ⊢;clear c10 f10 K1 K2 oc HL HV;have c11:w6.cell? ⟨w.heap.size,11,none⟩=some (.slice io q ic):=ab k1 11;have hx6:=nZ (nj HX.out bg (aa _)) bg.size;have ka:=K9 io ic im w6 hx6.2.2 HF.out.tE (by rw[HQ.out];omega);rw[HQ.out]at ka;have wE:=Hd ka;have K1:=Hd k1;have K2:=Hd k2;have rp:=Hd bg;have ju:=Hd hL6;have gW:=Hd jH;clear ka hx6 k1 k2 bg hL6 jH ho;go_wp2_with fail
 refine wE.out.mono ?_;rintro e w7 ⟨g3,rfl,afl,_,hI,eV⟩;rw[HQ.out];have hs7:=eV.size;have k1:=(eV.block w.heap.size (by omega)).trans K1.out;have k2:=(eV.block (w.heap.size+1) (by omega)).trans K2.out;have PD:=rp.out.trans (eV.mono rp.out.size);have hL7:=ju.out.below eV (aa _);have PF:=gW.out.below eV (aa _);clear c11 wE eV K1 K2 rp ju gW;have f11:w7.frozen? ⟨w.heap.size,11,none⟩=false:=aO k1 11;have c11:w7.cell? ⟨w.heap.size,11,none⟩=some (.slice io q ic):=ab k1 11;have K1:=Hd k1;have K2:=Hd k2;have Ai:=Hd PD;have HL:=Hd hL7;have HV:=Hd PF;have HI:=Hd hI;clear k1 k2 PD hL7 PF hI;go_upto_region 4 with fail
 have k1:(w7.setCell ⟨w.heap.size,11,none⟩ (.slice (some ⟨g3,0,none⟩) q (q+12))).heap[w.heap.size]?=some (.cells #[.int .u8 kd,.int .i64 fr,.int .i64 tt,.int .i64 tm,.int .i64 ix,.int .i64 ws,.bool ob,.int .i64 cm,.int .i64 rn,.slice (some ⟨g1,0,none⟩) n (n+12),.slice (some ⟨g2,0,none⟩) m (m+12),.slice (some ⟨g3,0,none⟩) q (q+12)] 32 (0,0)):=js K1.out _ rfl;have ho:=Only.set w.heap.size w7 11 (.slice (some ⟨g3,0,none⟩) q (q+12));have k2:=(ho.2 (w.heap.size+1) (by omega) (by omega)).trans K2.out;have fj:=Ai.out.trans (ho.toBelow Ai.out.size (aa _));have IS:=HL.out.blocks (λ g h1 h2=>ho.2 g h2 (by omega));have IT:=LentI.blocks HV.out (λ g h1 h2=>ho.2 g h2 (by omega));have IU:=yf HI.out (λ g h1 h2=>ho.2 g h2 (by omega));have vF:=ho.1;generalize w7.setCell ⟨w.heap.size,11,none⟩ (.slice (some ⟨g3,0,none⟩) q (q+12))=w8 at k1 k2 ho fj IS IT IU vF ⊢;clear c11 f11 K1 K2 Ai HL HV HI ho;obtain⟨x,hxd⟩:∃x:Lt,x=⟨kd,fr,tt,tm,ix,ws,ob,cm,rn,some ⟨g1,0,none⟩,cd,n+12,some ⟨g2,0,none⟩,vs,m+12,some ⟨g3,0,none⟩,im,q+12⟩:=⟨_,rfl⟩;have m8:cd.length=n:=by have:=congrArg List.length IR.out;simpa[HN.out]using this
 have hxa:#[.int .u8 kd,.int .i64 fr,.int .i64 tt,.int .i64 tm,.int .i64 ix,.int .i64 ws,.bool ob,.int .i64 cm,.int .i64 rn,.slice (some ⟨g1,0,none⟩) n (n+12),.slice (some ⟨g2,0,none⟩) m (m+12),.slice (some ⟨g3,0,none⟩) q (q+12)]=ai x:=by rw[hxd];unfold ai;dsimp only;rw[m8,HM.out,HQ.out]
 rw[hxa]at k1;have aY:=eK k1;have ho2:=xX (w.heap.size+1) w8 (ai x);have aQ:(w8.setRow (w.heap.size+1) (ai x)).heap[w.heap.size+1]?=some (.cells (ai x) 32 (0,0)):=setRow_heap w8 (w.heap.size+1) _ (ai x) _ _ k2
 have fX:x.plain=(⟨kd,fr,tt,tm,ix,ws,ob,cm,rn,eo,es,ec,vo,vs,vc,io,im,ic⟩:Lt).plain/\rT (w8.setRow (w.heap.size+1) (ai x)) w.heap.size x/\Below w.heap.size w (w8.setRow (w.heap.size+1) (ai x)):=by
  refine⟨?_,⟨⟨g1,?_,?_,?_⟩,⟨g2,?_,?_,?_⟩,⟨g3,?_,?_,?_⟩⟩,fj.trans (ho2.toBelow fj.size (by omega))⟩
  · rw[hxd];unfold Lt.plain;dsimp only;rw[IR.out]
  · rw[hxd]
  · rw[hxd];dsimp only;rw[m8]
  · rw[hxd];dsimp only;rw[m8];exact(IS.blocks (λ g h1 h2=>(xX (w.heap.size+1) w8 _).2 g h2 (by omega))).le (by omega)
  · rw[hxd]
  · rw[hxd];dsimp only;rw[HM.out]
  · rw[hxd];exact(LentI.blocks IT (λ g h1 h2=>(xX (w.heap.size+1) w8 _).2 g h2 (by omega))).le (by omega)
  · rw[hxd]
  · rw[hxd];dsimp only;rw[HQ.out]
  rw[hxd];exact fh (yf IU (λ g h1 h2=>(xX (w.heap.size+1) w8 _).2 g h2 (by omega))) (by omega)
 have zJ:=Hd fX;have fB:=Hd aQ;clear fX aQ hxa hxd m8 k1 IS IT IU fj ho2 IR;go_wp2_with (first|(refine wpList_load_mid rfl 32 (.tmp 1) rfl w.heap.size 0 rfl (ai x).toList _ aY cL rfl (eN x) ?_)|(refine wpList_store_row rfl 32 (.tmp 2) (.tmp 15) rfl (w.heap.size+1) (ai x) rfl (by first|rfl|simp) 32 _ k2 (fD x) rfl (gB x) ?_))
 exact bodyPost_ret (results_cell_row rfl _ _ (w.heap.size+1) 32 (ai x) _ _ rfl fB.out cL rfl (fD x)) rfl ⟨x,rfl,zJ.out⟩
theorem aai (kd fr tt tm ix ws:Int)(ob:Bool)(cm rn:Int)(g1 g2 g3 n m q:Nat)(eo vo io:Option Addr)(ec vc ic:Nat)(cd es:List En)(vs im:List Int)(w:World)(B:Nat)
  (hn:es.length=n) (hm:vs.length=m) (hq:im.length=q) (oC:cd.map En.plain=es.map En.plain) (hL:nm w B g1 n cd) (hV:LentI w B g2 vs) (hI:oG w B g3 im)
  (hx:kV w w.heap.size eo es) (hy:gS w w.heap.size vo vs) (hz:BytesIn w w.heap.size io im) (hd:∀f∈es,f.args.length<=1099511627776/\f.vs.length<=1099511627776) (l1:n<=1099511627776) (l2:m<=1099511627776) (l3:q<=1099511627776) :
  Calls prog 41 #[.agg #[.int .u8 kd,.int .i64 fr,.int .i64 tt,.int .i64 tm,.int .i64 ix,.int .i64 ws,.bool ob,.int .i64 cm,.int .i64 rn,.slice (some ⟨g1,0,none⟩) n (n+12),.slice (some ⟨g2,0,none⟩) m (m+12),.slice (some ⟨g3,0,none⟩) q (q+12)],.agg #[.int .u8 kd,.int .i64 fr,.int .i64 tt,.int .i64 tm,.int .i64 ix,.int .i64 ws,.bool ob,.int .i64 cm,.int .i64 rn,.slice eo n ec,.slice vo m vc,.slice io q ic]] w λ e w'=>e=.returned (.bool true)/\Below w.heap.size w w':=by
 have m8:cd.length=n:=by have:=congrArg List.length oC;simpa[hn]using this
 obtain⟨am,h1,h2,aU⟩:=sH w #[.int .u8 kd,.int .i64 fr,.int .i64 tt,.int .i64 tm,.int .i64 ix,.int .i64 ws,.bool ob,.int .i64 cm,.int .i64 rn,.slice (some ⟨g1,0,none⟩) n (n+12),.slice (some ⟨g2,0,none⟩) m (m+12),.slice (some ⟨g3,0,none⟩) q (q+12)] #[.int .u8 kd,.int .i64 fr,.int .i64 tt,.int .i64 tm,.int .i64 ix,.int .i64 ws,.bool ob,.int .i64 cm,.int .i64 rn,.slice eo n ec,.slice vo m vc,.slice io q ic] 32 32
 have HS:=Hd (show ∀w',Below w.heap.size w w'->Calls prog 28 #[.agg #[.int .u8 kd,.int .i64 fr,.int .i64 tt,.int .i64 tm,.int .i64 ix,.int .i64 ws,.bool ob,.int .i64 cm,.int .i64 rn,.slice (some ⟨g1,0,none⟩) n (n+12),.slice (some ⟨g2,0,none⟩) m (m+12),.slice (some ⟨g3,0,none⟩) q (q+12)],.agg #[.int .u8 kd,.int .i64 fr,.int .i64 tt,.int .i64 tm,.int .i64 ix,.int .i64 ws,.bool ob,.int .i64 cm,.int .i64 rn,.slice eo n ec,.slice vo m vc,.slice io q ic]] w' λ e w''=>e=.returned (.bool true)/\Below w'.heap.size w' w'' from λ w' hb=>by
  have h:=Ij ⟨kd,fr,tt,tm,ix,ws,ob,cm,rn,some ⟨g1,0,none⟩,cd,n+12,some ⟨g2,0,none⟩,vs,m+12,some ⟨g3,0,none⟩,im,q+12⟩ ⟨kd,fr,tt,tm,ix,ws,ob,cm,rn,eo,es,ec,vo,vs,vc,io,im,ic⟩ w' w.heap.size (by unfold Lt.plain;dsimp only;rw[oC])
   (nj ⟨hL.rows m8,RowsIn.mono cK hV.rows hV.lt.2,Pz hI⟩ hb (aa _)) (nj ⟨hx,hy,hz⟩ hb (aa _)) hb.size (by dsimp only;omega) (by dsimp only;omega) (by dsimp only;omega) (by
    intro e he;obtain⟨f,hf,lA⟩:=IQ oC he;have h1:=hd f hf;have e1:=congrArg (λ p=>p.args.length) lA;have e2:=congrArg (λ p=>p.vs.length) lA;dsimp only[En.plain]at e1 e2;exact⟨by omega,by omega⟩)
  unfold fA at h;dsimp only at h;rw[m8,hn,hm,hq]at h;exact h)
 have HK:=Hd (show ∀w',Below w.heap.size w w'->Calls prog 78 #[.slice (some ⟨g1,0,none⟩) n (n+12),.slice eo n ec] w' λ e w''=>e=.returned (.bool true)/\Below w'.heap.size w' w'' from λ w' hb=>by
  have h:=ZO eo ec g1 B es cd w' ((hx.below iI hb (aa _)).mono mi hb.size) (by rw[hn];exact hL.below hb (aa _)) oC hd (by omega);rw[hn]at h;exact h)
 have wF:=Hd (show ∀w',Below w.heap.size w w'->Calls prog 79 #[.slice (some ⟨g2,0,none⟩) m (m+12),.slice vo m vc] w' λ e w''=>e=.returned (.bool true)/\Below w'.heap.size w' w'' from λ w' hb=>by
  have h:=Pc vo m vc g2 B vs w' hm ((hy.below cn hb (aa _)).mono cK hb.size) (hV.below hb (aa _)) (by omega);exact h)
 have sn:=Hd (show ∀w',Below w.heap.size w w'->Calls prog 25 #[.slice (some ⟨g3,0,none⟩) q (q+12),.slice io q ic] w' λ e w''=>e=.returned (.bool true)/\Below w'.heap.size w' w'' from λ w' hb=>by
  have h:=La io ic g3 B im w' ((hz.below hb (aa _)).mono hb.size) (own_below hI hb (aa _)) (by omega);rw[hq]at h;exact h)
 clear hx hy hz hd hn hm hq oC hL hV hI m8;have bF:=Hd am;have H1:=Hd h1;have H2:=Hd h2;have HZ:=Hd (pJ aU.symm);clear am h1 h2 aU;go_enter func41,ntmps41
 go_upto_region 1 with fail
 have am:=bF.out;have h1:=H1.out;have h2:=H2.out;have aU:=HZ.out;clear bF H1 H2 HZ;generalize (w.alloc (.cells #[.int .u8 kd,.int .i64 fr,.int .i64 tt,.int .i64 tm,.int .i64 ix,.int .i64 ws,.bool ob,.int .i64 cm,.int .i64 rn,.slice (some ⟨g1,0,none⟩) n (n+12),.slice (some ⟨g2,0,none⟩) m (m+12),.slice (some ⟨g3,0,none⟩) q (q+12)] 32)).alloc (.cells #[.int .u8 kd,.int .i64 fr,.int .i64 tt,.int .i64 tm,.int .i64 ix,.int .i64 ws,.bool ob,.int .i64 cm,.int .i64 rn,.slice eo n ec,.slice vo m vc,.slice io q ic] 32)=w2 at am h1 h2 aU ⊢;have bF:=Hd am;have H1:=Hd h1;have H2:=Hd h2;have pv:=eK h1;have lS:=eK h2;have fM:=am.size;clear am h1 h2;go_wp2_with (first|(refine wpList_load_mid rfl 32 (.tmp 2) rfl w.heap.size 0 rfl _ _ pv cL rfl info_lt ?_)|(refine wpList_load_mid rfl 32 (.tmp 3) rfl (w.heap.size+1) 0 rfl _ _ lS cL rfl info_lt ?_))
 refine(HS.out w2 bF.out).mono ?_;rintro e w3 ⟨rfl,b3⟩;have cA:=b3.size;have k1:=(b3.block w.heap.size (by omega)).trans H1.out;have k2:=(b3.block (w.heap.size+1) (by omega)).trans H2.out;have kA:=Hd (bF.out.trans (b3.mono fM));have K1:=Hd k1;have K2:=Hd k2;have c9:w3.cell? ⟨w.heap.size,9,none⟩=some (.slice (some ⟨g1,0,none⟩) n (n+12)):=ab k1 9;have d9:w3.cell? ⟨w.heap.size+1,9,none⟩=some (.slice eo n ec):=ab k2 9;clear pv lS b3 k1 k2 H1 H2 bF;go_wp2_with fail
 refine(HK.out w3 kA.out).mono ?_;rintro e w4 ⟨rfl,b4⟩;have lX:=b4.size;have k1:=(b4.block w.heap.size (by omega)).trans K1.out;have k2:=(b4.block (w.heap.size+1) (by omega)).trans K2.out;have kJ:=Hd (kA.out.trans (b4.mono (by omega)));clear c9 d9 b4 K1 K2 kA;have c10:w4.cell? ⟨w.heap.size,10,none⟩=some (.slice (some ⟨g2,0,none⟩) m (m+12)):=ab k1 10;have cE:w4.cell? ⟨w.heap.size+1,10,none⟩=some (.slice vo m vc):=ab k2 10;have K1:=Hd k1;have K2:=Hd k2;clear k1 k2;go_wp2_with fail
 refine(wF.out w4 kJ.out).mono ?_;rintro e w5 ⟨rfl,b5⟩;have ik:=b5.size;have k1:=(b5.block w.heap.size (by omega)).trans K1.out;have k2:=(b5.block (w.heap.size+1) (by omega)).trans K2.out;have oc:=Hd (kJ.out.trans (b5.mono (by omega)));clear c10 cE b5 K1 K2 kJ;have c11:w5.cell? ⟨w.heap.size,11,none⟩=some (.slice (some ⟨g3,0,none⟩) q (q+12)):=ab k1 11;have cM:w5.cell? ⟨w.heap.size+1,11,none⟩=some (.slice io q ic):=ab k2 11;clear k1 k2;go_wp2_with fail
 refine(sn.out w5 oc.out).mono ?_;rintro e w6 ⟨rfl,b6⟩;clear c11 cM;go_wp2_with fail
 go_ret;exact⟨rfl,oc.out.trans (b6.mono oc.out.size)⟩
theorem aaj (x l:Lt)(w:World)(B:Nat)(hp:x.plain=l.plain)(hL:rT w B x)(hx:fG w w.heap.size l)(hf:cy l) :
  Calls prog 41 #[fA x,fA l] w λ e w'=>e=.returned (.bool true)/\Below w.heap.size w w':=by
 obtain⟨⟨g,h1,h2,h3⟩,⟨g',kT,lB,jy⟩,⟨g'',sU,uS,sW⟩⟩:=hL;have hd:=hf.es;have l1:=hf.en;have l2:=hf.vn;have l3:=hf.ln;obtain⟨kd,fr,tt,tm,ix,ws,ob,cm,rn,ea,es,ec,va,vs,vc,ia,im,ic⟩:=x;obtain⟨oK,su,sw,sx,sy,sA,sB,sC,sD,ir,es2,iB,fR,vs2,dG,om,uJ,jc⟩:=l;simp only[Lt.plain,cQ.mk.injEq]at hp;obtain⟨rfl,rfl,rfl,rfl,rfl,rfl,rfl,rfl,rfl,nN,rfl,rfl⟩:=hp;have hn:es.length=es2.length:=by have:=congrArg List.length nN;simpa using this
 dsimp only at h1 h2 h3 kT lB jy sU uS sW hd l1 l2 l3;subst h1 h2 kT lB sU uS;unfold fA;dsimp only;rw[hn]at h3 ⊢;exact aai _ _ _ _ _ _ _ _ _ g g' g'' _ _ _ ir fR om iB dG jc es es2 vs im w B rfl rfl rfl nN h3 jy sW hx.1 hx.2.1 hx.2.2 (λ f hf2=>⟨aF (hd f hf2).args (by decide),aF (hd f hf2).vn (by decide)⟩) (by omega) (by omega) (by omega)
structure PG (w:World) (B T:Nat) (l:Lt):Prop where
 er:∃g,l.eo=some ⟨g,0,none⟩
 sub:kV w T l.eo l.es
 ents:∀f∈l.es,sT w B T f
 es:Room w B T 46 9 l.eo l.es.length l.ey
 vs:Room w B T 3 1 l.vo l.vs.length l.ce
 im:Room w B T 5 1 l.io l.im.length l.fi
theorem rT.room {w w':World}{B:Nat}{l:Lt}(h:rT w B l)(hb:Below w.heap.size w w'):PG w' B w.heap.size l:=by
 obtain⟨⟨g,h1,h2,h3⟩,⟨g',kT,lB,jy⟩,⟨g'',sU,uS,sW⟩⟩:=h;refine⟨⟨g,h1⟩,?_,λ f hf=>(h3.yg f hf).room.below hb,?_,?_,?_⟩
 · rw[h1];exact(h3.rows rfl).below iI hb (aa _)
 · rw[h1,h2];exact h3.room.below hb
 · rw[kT,lB];exact Room.below ⟨g',rfl,jy.lt.1,jy.lt.2,rfl,jI.wD jy⟩ hb
 rw[sU,uS];exact Room.below ⟨g'',rfl,(jb sW g'' rfl).1,(jb sW g'' rfl).2,rfl,jI.wD sW⟩ hb
def PH:List TypeId:=[50,3,46,5]
theorem aak (l:Lt)(w:World)(B T:Nat)(h:PG w B T l)(hf:cy l)(hB:B<=w.heap.size)(hT:T<=w.heap.size) :
  Calls prog 42 #[fA l] w λ e w'=>e=.returned (.tuple #[])/\OverK B T PH w w':=by
 obtain⟨⟨g,hg⟩,r1,r2,r3,r4,r5⟩:=h;have hd:=hf.es;have l1:=hf.en;have l2:=hf.vn;have l3:=hf.ln;obtain⟨kd,fr,tt,tm,ix,ws,ob,cm,rn,eo,es,ec,vo,vs,vc,io,im,ic⟩:=l;dsimp only at hg r1 r2 r3 r4 r5 hd l1 l2 l3;subst hg;obtain⟨n,hn⟩:∃n,es.length=n:=⟨_,rfl⟩;obtain⟨m,hm⟩:∃m,vs.length=m:=⟨_,rfl⟩;obtain⟨q,hq⟩:∃q,im.length=q:=⟨_,rfl⟩;unfold fA;dsimp only;rw[hn]at r3 l1 ⊢;rw[hm]at r4 l2 ⊢;rw[hq]at r5 l3 ⊢;have ba:=(aj w.heap.size w).alloc (aa _) (.cells #[.int .u8 kd,.int .i64 fr,.int .i64 tt,.int .i64 tm,.int .i64 ix,.int .i64 ws,.bool ob,.int .i64 cm,.int .i64 rn,.slice (some ⟨g,0,none⟩) n ec,.slice vo m vc,.slice io q ic] 32);have dH:=heap_alloc_new w (.cells #[.int .u8 kd,.int .i64 fr,.int .i64 tt,.int .i64 tm,.int .i64 ix,.int .i64 ws,.bool ob,.int .i64 cm,.int .i64 rn,.slice (some ⟨g,0,none⟩) n ec,.slice vo m vc,.slice io q ic] 32);have ev:=Hd ba;have pH:=Hd dH;have cH:=Hd ba.size;have HC:=Hd (aab B T g n ec es _ hn ((r1.below iI ba hT).mono mi (aF hT ba.size)) (λ f hf2=>(r2 f hf2).below ba) (r3.below ba) (λ f hf2=>⟨aF (hd f hf2).args (by decide),aF (hd f hf2).vn (by decide)⟩) (by omega) (aF hT ba.size));have R4:=Hd (r4.below ba);have R5:=Hd (r5.below ba);clear ba dH r1 r2 r3 r4 r5 hd hn hm hq hf;go_enter func42,ntmps42
 go_wp2_with fail
 have hc:=HC.out;have dH:=pH.out;have ba:=ev.out;have dB:=cH.out;have r4:=R4.out;have r5:=R5.out;generalize w.alloc (.cells #[.int .u8 kd,.int .i64 fr,.int .i64 tt,.int .i64 tm,.int .i64 ix,.int .i64 ws,.bool ob,.int .i64 cm,.int .i64 rn,.slice (some ⟨g,0,none⟩) n ec,.slice vo m vc,.slice io q ic] 32)=w1 at hc dH ba dB r4 r5 ⊢;have pH:=Hd dH;have ev:=Hd ba;have R4:=Hd r4;have R5:=Hd r5;clear dH ba r4 r5 HC cH;refine hc.mono ?_;rintro e w2 ⟨rfl,ho⟩;have dh:w2.heap[w.heap.size]?=some (.cells #[.int .u8 kd,.int .i64 fr,.int .i64 tt,.int .i64 tm,.int .i64 ix,.int .i64 ws,.bool ob,.int .i64 cm,.int .i64 rn,.slice (some ⟨g,0,none⟩) n ec,.slice vo m vc,.slice io q ic] 32 (0,0)):=(ho.mid.far _ hT (by have:=(Array.getElem?_eq_some_iff.1 pH.out).1;omega)).trans pH.out;have c10:w2.cell? ⟨w.heap.size,10,none⟩=some (.slice vo m vc):=ab dh 10;have xl:=Hd dh;have HR4:=Hd (R4.out.over ho);have xW:=Hd (R5.out.over ho);have HO:=Hd (((OverK.refl B T PH w).Ah ev.out hB).trans ho (by decide));have fM:=ho.size;clear hc dh ho;go_wp2_with fail
 refine(Pw B T vo m vc w2 HR4.out (by omega)).mono ?_;rintro e w3 ⟨rfl,ho⟩;have bL:=(ho.mid.far _ hT (by have:=(Array.getElem?_eq_some_iff.1 xl.out).1;omega)).trans xl.out;have c11:w3.cell? ⟨w.heap.size,11,none⟩=some (.slice io q ic):=ab bL 11;have HR6:=Hd (xW.out.over ho);have jA:=Hd (HO.out.trans ho (by decide));clear bL ho c10;go_wp2_with fail
 refine(ZY B T io q ic w3 HR6.out (by omega)).mono ?_;rintro e w4 ⟨rfl,ho⟩;clear c11;go_wp2_with fail
 go_end0;exact⟨rfl,jA.out.trans ho (by decide)⟩
end Go.Proofs.YtepdklfkegkojaaGreatDoor
