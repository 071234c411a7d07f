/- Parts of one proof. Conditions: as each says. -/
import Derived.Test.YtepdklfkegkojaaGreatDoorGLetterNumbers0
import Derived.Test.YtepdklfkegkojaaGreatDoorGLetterNumbers2
import Derived.Test.YtepdklfkegkojaaGreatDoorGLetterNumbers1
set_option linter.all false
set_option maxHeartbeats 16000000
set_option maxRecDepth 100000
namespace Go.Proofs.YtepdklfkegkojaaGreatDoor
open Go.Proofs.Tryz
open Go.RowKit
theorem Lu (t:TypeId)(h:t=50)(a b:Int)(s:ByteArray)(w:World):(binOp .neq t (.agg #[.int .u8 a,.int .i64 b,.string s]) (.agg #[.int .u8 a,.int .i64 b,.string s])).run prog w=.ok (.bool false) w:=by
 subst h;simp[go_sem,underlying50]
theorem FH (ao:Option Addr)(n cap:Nat)(co:Option Addr)(m cap2:Nat)(xs:List Int)(w:World)(B:Nat)(hn:xs.length=n)(hm:xs.length=m)(hx:gS w B ao xs)(hy:gS w B co xs)(hB:B<=w.heap.size)(hl:n<=4611686018427387904) :
  Calls prog 57 #[.slice ao n cap,.slice co m cap2] w λ e w'=>e=.returned (.bool true)/\Below w.heap.size w w':=by
 obtain rfl:n=m:=by omega
 have HX:=Hd (hx.mono cK hB);have HY:=Hd (hy.mono cK hB);have HN:=Hd hn;clear hx hy hn hm;go_enter func57,ntmps57
 go_wp2_with fail
 go_loopw [5] (λ i wr=>∃k:Nat,k<=n/\i=.int .i64 k/\Below w.heap.size w wr) (λ i _=>n-(intOf i).toNat)
 exact⟨0,by omega,rfl,aj _ _⟩
 obtain⟨k,hk,rfl,ag⟩:=hrel;by_cases ae:k<n
 ·
  have aQ:xs[k]?=some (xs[k]'(by rw[HN.out];exact ae)):=bu _;obtain⟨b,off,bm,hb,hc,_⟩:=HX.out.at aQ;obtain⟨b2,off2,hco,am,bN,_⟩:=HY.out.at aQ;have d0:=hc 0 (by decide);have d1:=bN 0 (by decide);generalize xs[k]'(by rw[HN.out];exact ae)=x at d0 d1;subst bm hco;have c0:∀x':Calm w.heap.size w,x'.1.cell? ⟨b,off+k,none⟩=some (.int .i64 x):=λ x'=>x'.cell (by simpa[gb]using d0) hb
  have c1:∀x':Calm w.heap.size w,x'.1.cell? ⟨b2,off2+k,none⟩=some (.int .i64 x):=λ x'=>x'.cell (by simpa[gb]using d1) am
  have i1:(k:Int)<n:=by omega
  clear d0 d1 hc bN aQ;go_wp2_with fail
  refine gR (B:=w.heap.size) (W0:=w) ag (by kernel_rfl) (by kernel_rfl) ?_;repeat(go_big_quiet_step (fail))
  refine wpQuiet_nil ?_;intro w5 ak;clear c0 c1;go_wp2_with fail
  go_roundw
  exact⟨k+1,by omega,by go_num,ak⟩
  simp[intOf];omega
 obtain rfl:k=n:=by omega
 go_wp2_with fail
 go_ret;exact⟨rfl,ag⟩
theorem Ws (ao:Option Addr)(n cap:Nat)(co:Option Addr)(m cap2:Nat)(xs:List Va)(w:World)(B:Nat)(hn:xs.length=n)(hm:xs.length=m)(hx:iz w B ao xs)(hy:iz w B co xs)(hB:B<=w.heap.size)(hl:n<=4611686018427387904) :
  Calls prog 130 #[.slice ao n cap,.slice co m cap2] w λ e w'=>e=.returned (.bool true)/\Below w.heap.size w w':=by
 obtain rfl:n=m:=by omega
 have HX:=Hd (hx.mono cK hB);have HY:=Hd (hy.mono cK hB);have HN:=Hd hn;clear hx hy hn hm;go_enter func130,ntmps130
 go_wp2_with fail
 go_loopw [5] (λ i wr=>∃k:Nat,k<=n/\i=.int .i64 k/\Below w.heap.size w wr) (λ i _=>n-(intOf i).toNat)
 exact⟨0,by omega,rfl,aj _ _⟩
 obtain⟨k,hk,rfl,ag⟩:=hrel;by_cases ae:k<n
 ·
  have aQ:xs[k]?=some (xs[k]'(by rw[HN.out];exact ae)):=bu _;obtain⟨b,off,bm,hb,hc,_⟩:=HX.out.at aQ;obtain⟨b2,off2,hco,am,bN,_⟩:=HY.out.at aQ;have d0:=hc 0 (by decide);have d1:=hc 1 (by decide);have d2:=hc 2 (by decide);have g0:=bN 0 (by decide);have g1:=bN 1 (by decide);have g2:=bN 2 (by decide);generalize xs[k]'(by rw[HN.out];exact ae)=x at d0 d1 d2 g0 g1 g2;obtain⟨xk,xn,xt⟩:=x;subst bm hco;have c0:∀x':Calm w.heap.size w,x'.1.cell? ⟨b,off+k*3,none⟩=some (.int .u8 xk):=λ x'=>x'.cell d0 hb
  have c1:∀x':Calm w.heap.size w,x'.1.cell? ⟨b,off+k*3+1,none⟩=some (.int .i64 xn):=λ x'=>x'.cell d1 hb
  have c2:∀x':Calm w.heap.size w,x'.1.cell? ⟨b,off+k*3+2,none⟩=some (.string xt):=λ x'=>x'.cell d2 hb
  have c2':∀x':Calm w.heap.size w,x'.1.cell? ⟨b,off+k*3+1+1,none⟩=some (.string xt):=c2;have e0:∀x':Calm w.heap.size w,x'.1.cell? ⟨b2,off2+k*3,none⟩=some (.int .u8 xk):=λ x'=>x'.cell g0 am
  have e1:∀x':Calm w.heap.size w,x'.1.cell? ⟨b2,off2+k*3+1,none⟩=some (.int .i64 xn):=λ x'=>x'.cell g1 am
  have e2:∀x':Calm w.heap.size w,x'.1.cell? ⟨b2,off2+k*3+2,none⟩=some (.string xt):=λ x'=>x'.cell g2 am
  have e2':∀x':Calm w.heap.size w,x'.1.cell? ⟨b2,off2+k*3+1+1,none⟩=some (.string xt):=e2;have hq:=λ w=>Lu 50 rfl xk xn xt w
  have i1:(k:Int)<n:=by omega
  clear d0 d1 d2 g0 g1 g2 hc bN aQ;go_wp2_with fail
  refine gR (B:=w.heap.size) (W0:=w) ag (by kernel_rfl) (by kernel_rfl) ?_;repeat(go_big_quiet_step (fail))
  refine wpQuiet_nil ?_;intro w5 ak;clear c0 c1 c2 e0 e1 e2 c2' e2' hq;go_wp2_with fail
  go_roundw
  exact⟨k+1,by omega,by go_num,ak⟩
  simp[intOf];omega
 obtain rfl:k=n:=by omega
 go_wp2_with fail
 go_ret;exact⟨rfl,ag⟩
theorem Lv (ck:Int)(text:ByteArray)(num:Int)(ao:Option Addr)(n cap:Nat)(co:Option Addr)(cap2:Nat)(xs:List Va)(w:World)(B:Nat)(hn:xs.length=n)(hx:iz w B ao xs)(hy:iz w B co xs)(hB:B<=w.heap.size)(hl:n<=4611686018427387904) :
  Calls prog 68 #[.agg #[.int .u8 ck,.string text,.slice ao n cap,.int .i64 num],.agg #[.int .u8 ck,.string text,.slice co n cap2,.int .i64 num]] w λ e w'=>e=.returned (.bool true)/\Below w.heap.size w w':=by
 have HX:=Hd hx;have HY:=Hd hy;have HN:=Hd hn;clear hx hy hn;have hb:=((aj w.heap.size w).alloc (aa _) (.cells #[.int .u8 ck,.string text,.slice ao n cap,.int .i64 num] 44)).alloc (by simp) (.cells #[.int .u8 ck,.string text,.slice co n cap2,.int .i64 num] 44);have dB:=hb.size
 have k1:((w.alloc (.cells #[.int .u8 ck,.string text,.slice ao n cap,.int .i64 num] 44)).alloc (.cells #[.int .u8 ck,.string text,.slice co n cap2,.int .i64 num] 44)).heap[w.heap.size]?=some (.cells #[.int .u8 ck,.string text,.slice ao n cap,.int .i64 num] 44 (0,0)) :=
  ((nc _ _ none).block _ (by simp) (by simp)).trans (heap_alloc_new w _)
 have k2:((w.alloc (.cells #[.int .u8 ck,.string text,.slice ao n cap,.int .i64 num] 44)).alloc (.cells #[.int .u8 ck,.string text,.slice co n cap2,.int .i64 num] 44)).heap[w.heap.size+1]?=some (.cells #[.int .u8 ck,.string text,.slice co n cap2,.int .i64 num] 44 (0,0)):=by
  have:=heap_alloc_new (w.alloc (.cells #[.int .u8 ck,.string text,.slice ao n cap,.int .i64 num] 44)) (.cells #[.int .u8 ck,.string text,.slice co n cap2,.int .i64 num] 44);simpa using this
 have K1:=Hd k1;have K2:=Hd k2;clear k1 k2;go_enter func68,ntmps68
 go_wp2_with fail
 refine(Ws ao n cap co n cap2 xs _ B HN.out HN.out (HX.out.below cn (hb.mono hB) (aa _)) (HY.out.below cn (hb.mono hB) (aa _)) (aF hB dB) hl).mono ?_;rintro e w' ⟨rfl,am⟩;have nz:=(Array.getElem?_eq_some_iff.1 K1.out).1;have kP:=(Array.getElem?_eq_some_iff.1 K2.out).1;have c1:w'.cell? ⟨w.heap.size,3,none⟩=some (.int .i64 num):=ab ((am.block _ nz).trans K1.out) 3;have c2:w'.cell? ⟨w.heap.size+1,3,none⟩=some (.int .i64 num):=ab ((am.block _ kP).trans K2.out) 3;have ap:=hb.trans (am.mono dB);go_wp2_with fail
 go_ret;exact⟨rfl,ap⟩
theorem FI (x y:En)(w:World)(B:Nat)(hp:x.plain=y.plain)(hx:rG w B x)(hy:rG w B y)(hB:B<=w.heap.size)(hl:x.args.length<=4611686018427387904)(cG:x.vs.length<=4611686018427387904) :
  Calls prog 65 #[tv x,tv y] w λ e w'=>e=.returned (.bool true)/\Below w.heap.size w w':=by
 obtain⟨t,k,s,q,ck,text,fQ,args,fw,num,hU,vs,ce⟩:=x;obtain⟨t2,k2,s2,q2,ck2,jV,vv,args2,vw,kD,ue,vs2,uf⟩:=y;simp only[En.plain,dX.mk.injEq]at hp;obtain⟨rfl,rfl,rfl,rfl,rfl,rfl,rfl,rfl,rfl⟩:=hp;unfold tv;dsimp only at hl cG ⊢;have HX:=Hd hx;have HY:=Hd hy;clear hx hy;obtain⟨n,hn⟩:∃n,args.length=n:=⟨_,rfl⟩;obtain⟨m,hm⟩:∃m,vs.length=m:=⟨_,rfl⟩;rw[hn]at hl ⊢;rw[hm]at cG ⊢;have HN:=Hd hn;have HM:=Hd hm;clear hn hm;have hb:=((aj w.heap.size w).alloc (aa _) (.cells #[.int .i64 t,.int .u8 k,.int .i64 s,.int .i64 q,.int .u8 ck,.string text,.slice fQ n fw,.int .i64 num,.slice hU m ce] 46)).alloc (by simp) (.cells #[.int .i64 t,.int .u8 k,.int .i64 s,.int .i64 q,.int .u8 ck,.string text,.slice vv n vw,.int .i64 num,.slice ue m uf] 46);have dB:=hb.size
 have k1:((w.alloc (.cells #[.int .i64 t,.int .u8 k,.int .i64 s,.int .i64 q,.int .u8 ck,.string text,.slice fQ n fw,.int .i64 num,.slice hU m ce] 46)).alloc (.cells #[.int .i64 t,.int .u8 k,.int .i64 s,.int .i64 q,.int .u8 ck,.string text,.slice vv n vw,.int .i64 num,.slice ue m uf] 46)).heap[w.heap.size]?=some (.cells #[.int .i64 t,.int .u8 k,.int .i64 s,.int .i64 q,.int .u8 ck,.string text,.slice fQ n fw,.int .i64 num,.slice hU m ce] 46 (0,0)) :=
  ((nc _ _ none).block _ (by simp) (by simp)).trans (heap_alloc_new w _)
 have k2:((w.alloc (.cells #[.int .i64 t,.int .u8 k,.int .i64 s,.int .i64 q,.int .u8 ck,.string text,.slice fQ n fw,.int .i64 num,.slice hU m ce] 46)).alloc (.cells #[.int .i64 t,.int .u8 k,.int .i64 s,.int .i64 q,.int .u8 ck,.string text,.slice vv n vw,.int .i64 num,.slice ue m uf] 46)).heap[w.heap.size+1]?=some (.cells #[.int .i64 t,.int .u8 k,.int .i64 s,.int .i64 q,.int .u8 ck,.string text,.slice vv n vw,.int .i64 num,.slice ue m uf] 46 (0,0)):=by
  have:=heap_alloc_new (w.alloc (.cells #[.int .i64 t,.int .u8 k,.int .i64 s,.int .i64 q,.int .u8 ck,.string text,.slice fQ n fw,.int .i64 num,.slice hU m ce] 46)) (.cells #[.int .i64 t,.int .u8 k,.int .i64 s,.int .i64 q,.int .u8 ck,.string text,.slice vv n vw,.int .i64 num,.slice ue m uf] 46);simpa using this
 have K1:=Hd k1;have K2:=Hd k2;clear k1 k2;go_enter func65,ntmps65
 go_wp2_with fail
 refine(Lv ck text num fQ n fw vv vw args _ B HN.out (HX.out.1.below cn (hb.mono hB) (aa _)) (HY.out.1.below cn (hb.mono hB) (aa _)) (aF hB dB) hl).mono ?_;rintro e w' ⟨rfl,am⟩;have nz:=(Array.getElem?_eq_some_iff.1 K1.out).1;have kP:=(Array.getElem?_eq_some_iff.1 K2.out).1;have c1:w'.cell? ⟨w.heap.size,8,none⟩=some (.slice hU m ce):=ab ((am.block _ nz).trans K1.out) 8;have c2:w'.cell? ⟨w.heap.size+1,8,none⟩=some (.slice ue m uf):=ab ((am.block _ kP).trans K2.out) 8;have ap:=hb.trans (am.mono dB);have cA:=ap.size;go_wp2_with fail
 refine(FH hU m ce ue m uf vs _ B HM.out HM.out (HX.out.2.below cn (ap.mono hB) (aa _)) (HY.out.2.below cn (ap.mono hB) (aa _)) (aF hB cA) cG).mono ?_;rintro e w' ⟨rfl,bO⟩;clear c1 c2;go_wp2_with fail
 go_ret;exact⟨rfl,ap.trans (bO.mono cA)⟩
def Bm (e:En):Prop:=e.args.length<=1099511627776/\e.vs.length<=1099511627776
theorem Lw (ao:Option Addr)(n cap:Nat)(co:Option Addr)(m cap2:Nat)(xs ys:List En)(w:World)(B:Nat)(hn:xs.length=n)(hm:ys.length=m)(he:xs.map En.plain=ys.map En.plain)(hx:kV w B ao xs)(hy:kV w B co ys)(hB:B<=w.heap.size)(hl:n<=1099511627776)(nF:∀x∈xs,Bm x) :
  Calls prog 56 #[.slice ao n cap,.slice co m cap2] w λ e w'=>e=.returned (.bool true)/\Below w.heap.size w w':=by
 have hnm:xs.length=ys.length:=by have:=congrArg List.length he;simpa using this
 obtain rfl:n=m:=by omega
 have HX:=Hd (hx.mono mi hB);have HY:=Hd (hy.mono mi hB);have HN:=Hd hn;have HM:=Hd hm;have HE:=Hd he;have HS:=Hd nF;clear hx hy hn hm he hnm nF;go_enter func56,ntmps56
 go_wp2_with fail
 go_loopw [5] (λ i wr=>∃k:Nat,k<=n/\i=.int .i64 k/\Below w.heap.size w wr) (λ i _=>n-(intOf i).toNat)
 exact⟨0,by omega,rfl,aj _ _⟩
 obtain⟨k,hk,rfl,ag⟩:=hrel;by_cases ae:k<n
 ·
  have aQ:xs[k]?=some (xs[k]'(by rw[HN.out];exact ae)):=bu _;have lU:ys[k]?=some (ys[k]'(by rw[HM.out];exact ae)):=bu _;have hsx:=HS.out _ (mC (l:=xs) (n:=k) (by rw[HN.out];exact ae))
  have hp:(xs[k]'(by rw[HN.out];exact ae)).plain=(ys[k]'(by rw[HM.out];exact ae)).plain:=by
   have:=congrArg (λ l=>l[k]?) HE.out;simp only[List.getElem?_map,aQ,lU]at this;simpa using this
  obtain⟨b,off,bm,hb,hc,jP⟩:=HX.out.at aQ;obtain⟨b2,off2,hco,am,bN,hcs2⟩:=HY.out.at lU;generalize xs[k]'(by rw[HN.out];exact ae)=x at hc jP hp hsx;generalize ys[k]'(by rw[HM.out];exact ae)=y at bN hcs2 hp
  have ka:∀x':Calm w.heap.size w,Calls prog 65 #[tv x,tv y] x'.1 λ e w'=>e=.returned (.bool true)/\Below x'.1.heap.size x'.1 w':=λ x' =>
   FI x y x'.1 w.heap.size hp (iI _ _ _ _ _ jP x'.2 (aa _)) (iI _ _ _ _ _ hcs2 x'.2 (aa _)) x'.2.size (by have:=hsx.1;omega) (by have:=hsx.2;omega)
  obtain⟨t,kd,s,q,ck,text,fQ,args,fw,num,hU,vs,ce⟩:=x;obtain⟨t2,oK,s2,q2,ck2,jV,vv,args2,vw,kD,ue,vs2,uf⟩:=y;simp only[En.plain,dX.mk.injEq]at hp;obtain⟨rfl,rfl,rfl,rfl,rfl,rfl,rfl,rfl,rfl⟩:=hp;unfold tv at ka;dsimp only at ka;obtain⟨an,jQ⟩:∃an,args.length=an:=⟨_,rfl⟩;obtain⟨vn,bR⟩:∃vn,vs.length=vn:=⟨_,rfl⟩;rw[jQ,bR]at ka;have HC:=Hd ka;subst bm hco;have c0:∀x':Calm w.heap.size w,x'.1.cell? ⟨b,off+k*9,none⟩=some (.int .i64 t):=λ x'=>x'.cell (hc 0 (by decide)) hb
  have c1:∀x':Calm w.heap.size w,x'.1.cell? ⟨b,off+k*9+1,none⟩=some (.int .u8 kd):=λ x'=>x'.cell (hc 1 (by decide)) hb
  have c2:∀x':Calm w.heap.size w,x'.1.cell? ⟨b,off+k*9+2,none⟩=some (.int .i64 s):=λ x'=>x'.cell (hc 2 (by decide)) hb
  have c3:∀x':Calm w.heap.size w,x'.1.cell? ⟨b,off+k*9+3,none⟩=some (.int .i64 q):=λ x'=>x'.cell (hc 3 (by decide)) hb
  have c4:∀x':Calm w.heap.size w,x'.1.cell? ⟨b,off+k*9+4,none⟩=some (.int .u8 ck):=λ x'=>x'.cell (hc 4 (by decide)) hb
  have c5:∀x':Calm w.heap.size w,x'.1.cell? ⟨b,off+k*9+5,none⟩=some (.string text):=λ x'=>x'.cell (hc 5 (by decide)) hb
  have c6:∀x':Calm w.heap.size w,x'.1.cell? ⟨b,off+k*9+6,none⟩=some (.slice fQ an fw):=λ x'=>x'.cell (jQ▸hc 6 (by decide)) hb
  have c7:∀x':Calm w.heap.size w,x'.1.cell? ⟨b,off+k*9+7,none⟩=some (.int .i64 num):=λ x'=>x'.cell (hc 7 (by decide)) hb
  have c8:∀x':Calm w.heap.size w,x'.1.cell? ⟨b,off+k*9+8,none⟩=some (.slice hU vn ce):=λ x'=>x'.cell (bR▸hc 8 (by decide)) hb
  have e0:∀x':Calm w.heap.size w,x'.1.cell? ⟨b2,off2+k*9,none⟩=some (.int .i64 t):=λ x'=>x'.cell (bN 0 (by decide)) am
  have e1:∀x':Calm w.heap.size w,x'.1.cell? ⟨b2,off2+k*9+1,none⟩=some (.int .u8 kd):=λ x'=>x'.cell (bN 1 (by decide)) am
  have e2:∀x':Calm w.heap.size w,x'.1.cell? ⟨b2,off2+k*9+2,none⟩=some (.int .i64 s):=λ x'=>x'.cell (bN 2 (by decide)) am
  have e3:∀x':Calm w.heap.size w,x'.1.cell? ⟨b2,off2+k*9+3,none⟩=some (.int .i64 q):=λ x'=>x'.cell (bN 3 (by decide)) am
  have e4:∀x':Calm w.heap.size w,x'.1.cell? ⟨b2,off2+k*9+4,none⟩=some (.int .u8 ck):=λ x'=>x'.cell (bN 4 (by decide)) am
  have e5:∀x':Calm w.heap.size w,x'.1.cell? ⟨b2,off2+k*9+5,none⟩=some (.string text):=λ x'=>x'.cell (bN 5 (by decide)) am
  have e6:∀x':Calm w.heap.size w,x'.1.cell? ⟨b2,off2+k*9+6,none⟩=some (.slice vv an vw):=λ x'=>x'.cell (jQ▸bN 6 (by decide)) am
  have e7:∀x':Calm w.heap.size w,x'.1.cell? ⟨b2,off2+k*9+7,none⟩=some (.int .i64 num):=λ x'=>x'.cell (bN 7 (by decide)) am
  have e8:∀x':Calm w.heap.size w,x'.1.cell? ⟨b2,off2+k*9+8,none⟩=some (.slice ue vn uf):=λ x'=>x'.cell (bR▸bN 8 (by decide)) am
  have i1:(k:Int)<n:=by omega
  clear hc bN aQ lU jP hcs2 hsx ka jQ bR;go_wp2_with fail
  refine gR (B:=w.heap.size) (W0:=w) ag (by kernel_rfl) (by kernel_rfl) ?_;repeat(go_big_quiet_step ((go_at_call 65;exact Calm.call (aa _) (HC.out _))))
  refine wpQuiet_nil ?_;intro w5 ak;clear c0 c1 c2 c3 c4 c5 c6 c7 c8 e0 e1 e2 e3 e4 e5 e6 e7 e8;go_wp2_with fail
  go_roundw
  exact⟨k+1,by omega,by go_num,ak⟩
  simp[intOf];omega
 obtain rfl:k=n:=by omega
 go_wp2_with fail
 go_ret;exact⟨rfl,ag⟩
def dZ {α:Type} (one:Bool->List Int->α×Bool×List Int):Nat->Bool->List Int->List α×Bool×List Int
 | 0,bad,left=>([],bad,left)
 | n+1,bad,left=>if bad=true then([],bad,left)else((one bad left).1 :: (dZ one n (one bad left).2.1 (one bad left).2.2).1,(dZ one n (one bad left).2.1 (one bad left).2.2).2)
def kk {α:Type} (one:Bool->List Int->α×Bool×List Int) (bad:Bool) (left:List Int):List α×Bool×List Int :=
 let c:=di bad left
 let r:=dZ one c.1.toNat c.2.1 c.2.2
 (if r.2.1=true then []else r.1,r.2)
def Shrinks {α:Type} (one:Bool->List Int->α×Bool×List Int):Prop:=∀b l,BytesWf l->BytesWf (one b l).2.2/\(one b l).2.2.length<=l.length
theorem zo {α:Type}(one:Bool->List Int->α×Bool×List Int)(n:Nat)(l:List Int):dZ one n true l=([],true,l):=by cases n<;>simp[dZ]
theorem Wt {α:Type}{one:Bool->List Int->α×Bool×List Int}(h:Shrinks one):∀n,Shrinks (dZ one n):=by
 intro n;induction n with
 | zero=>intro b l hl;exact⟨hl,aa _⟩
 | succ n ih =>
  intro b l hl;unfold dZ;split
  · exact⟨hl,aa _⟩
  have h1:=h b l hl;have h2:=ih (one b l).2.1 (one b l).2.2 h1.1;exact⟨h2.1,aF h2.2 h1.2⟩
theorem Wu {α:Type}(one:Bool->List Int->α×Bool×List Int):∀n b l,(dZ one n b l).1.length<=n:=by
 intro n;induction n with
 | zero=>intro b l;simp[dZ]
 | succ n ih =>
  intro b l;unfold dZ;split
  · simp
  have:=ih (one b l).2.1 (one b l).2.2;simp only[List.length_cons];omega
theorem Lx:Shrinks di:=λ _ _ h=>⟨(pF h).2.2.1,(pF h).2.2.2⟩
theorem zp (n:Nat):Shrinks (bw n):=λ _ _ h=>⟨(mr h).2.1,(mr h).2.2.2⟩
theorem DS {α:Type}{one:Bool->List Int->α×Bool×List Int}(h:Shrinks one):Shrinks (kk one):=λ b l hl =>
 have h1:=Lx b l hl;have h2:=Wt h (di b l).1.toNat (di b l).2.1 (di b l).2.2 h1.1
 ⟨h2.1,aF h2.2 h1.2⟩
theorem Wv {α:Type}(one:Bool->List Int->α×Bool×List Int)(b:Bool)(l:List Int)(hl:BytesWf l):(kk one b l).1.length<=65536:=by
 have h1:=pF (bad:=b) hl;have h2:=Wu one (di b l).1.toNat (di b l).2.1 (di b l).2.2;unfold kk;dsimp only;split
 · simp
 omega
theorem vx:Shrinks iY:=λ b l hl =>
 have h1:=Lx b l hl;have h2:=zp (di b l).1.toNat (di b l).2.1 (di b l).2.2 h1.1
 ⟨h2.1,aF h2.2 h1.2⟩
theorem zq:Shrinks fF:=by
 intro b l hl;have h1:=zp 1 b l hl;unfold fF;dsimp only;split
 ·
  have h2:=zp 8 (bw 1 b l).2.1 (bw 1 b l).2.2 h1.1;exact⟨h2.1,aF h2.2 h1.2⟩
 split
 ·
  have h2:=vx (bw 1 b l).2.1 (bw 1 b l).2.2 h1.1;exact⟨h2.1,aF h2.2 h1.2⟩
 exact h1
def nd:=kk fF
def bc (b:Bool) (l:List Int):Int×Bool×List Int:=(IntKind.i64.wrap (cC (bw 8 b l).1),(bw 8 b l).2)
theorem eL:Shrinks bc:=λ b l hl=>zp 8 b l hl
def eI (b:Bool) (l:List Int):Int×Bool×List Int:=(cC (bw 1 b l).1,(bw 1 b l).2)
theorem p4:Shrinks eI:=λ b l hl=>zp 1 b l hl
def rJ:=kk bc
structure lK where
 kind:Int
 text:ByteArray
 args:List Va
 num:Int
def jW (b:Bool) (l:List Int):lK×Bool×List Int :=
 let k:=eI b l
 let t:=iY k.2.1 k.2.2
 let n:=bc t.2.1 t.2.2
 let v:=nd n.2.1 n.2.2
 (if v.2.1=true then⟨0,ByteArray.empty,[],0⟩else⟨k.1,t.1,v.1,n.1⟩,v.2)
def fq (b:Bool) (l:List Int):dX×Bool×List Int :=
 let t:=bc b l
 let k:=eI t.2.1 t.2.2
 let s:=bc k.2.1 k.2.2
 let q:=bc s.2.1 s.2.2
 let c:=jW q.2.1 q.2.2
 let v:=rJ c.2.1 c.2.2
 (if v.2.1=true then⟨0,0,0,0,0,ByteArray.empty,[],0,[]⟩else⟨t.1,k.1,s.1,q.1,c.1.kind,c.1.text,c.1.args,c.1.num,v.1⟩,v.2)
theorem xg:Shrinks jW:=λ b l hl =>
 have h1:=p4 b l hl;have h2:=vx _ _ h1.1;have h3:=eL _ _ h2.1;have h4:=DS zq _ _ h3.1
 ⟨h4.1,aF h4.2 (aF h3.2 (aF h2.2 h1.2))⟩
theorem FJ:Shrinks fq:=λ b l hl =>
 have h1:=eL b l hl;have h2:=p4 _ _ h1.1;have h3:=eL _ _ h2.1;have h4:=eL _ _ h3.1;have h5:=xg _ _ h4.1;have h6:=DS eL _ _ h5.1
 ⟨h6.1,aF h6.2 (aF h5.2 (aF h4.2 (aF h3.2 (aF h2.2 h1.2))))⟩
theorem xh {w w':World}{rb base e size n:Nat}{v:Value}{xs:List Value}(h:w.ownsRow base e size v n xs)(ho:Only rb w w')(hr:v.ownBlock≠some rb):w'.ownsRow base e size v n xs:=by
 refine⟨h.1,?_⟩;rcases h.2 with hn|⟨g,cap,cur,rfl,h1,h2,h3⟩
 · exact Or.inl hn
 refine Or.inr ⟨g,cap,cur,rfl,h1,?_,h3⟩;rw[ho.2 g (Array.getElem?_eq_some_iff.1 h2).1 (by rintro rfl;exact hr rfl)];exact h2
theorem Rdr.grown {w w':World}{M rb:Nat}{bad:Bool}{left:List Int}{row:Option Nat}(h:Rdr w M rb bad left)(hg:w.grownBy w' row)(hr:∀g,row=some g->M<=g/\g≠rb):Rdr w' M rb bad left:=by
 obtain⟨a,c,h⟩:=h;refine⟨a,c,(hg.block rb h.lt (λ e=>(hr rb e.symm).2 rfl)).trans h.blk,?_,h.cap,h.nil,aF h.le hg.size⟩;rcases h.off with h0|⟨b,off,h1,h2,h4,h3⟩
 · exact Or.inl h0
 exact Or.inr ⟨b,off,h1,h2,h4,λ j hj=>(wZ (hg.block b (by have:=h.le;omega) (λ e=>by have:=(hr b e.symm).1;omega))).trans (h3 j hj)⟩
theorem Only.grown {rb:Nat}{w w1 w2:World}{row:Option Nat}(h:Only rb w w1)(hg:w1.grownBy w2 row)(hr:∀g,row=some g->w.heap.size<=g):Only rb w w2 :=
 ⟨aF h.1 hg.size,λ b hb hn=>(hg.block b (ex hb h.1) (λ e=>by have:=hr b e.symm;omega)).trans (h.2 b hb hn),hg.os.trans h.3.1,hg.tape.trans h.3.2.1,hg.output.trans h.3.2.2⟩
theorem Ly (M rb:Nat)(bad:Bool)(left:List Int)(w:World)(h:Rdr w M rb bad left)(hw:BytesWf left)(hl:left.length<=140737488351232) :
  Calls prog 133 #[.pointer (some ⟨rb,0,none⟩)] w (SaidAt M rb (bc bad left).1 (bc bad left).2.1 (bc bad left).2.2 w):=by
 have HS:=Hd (DQ M rb 8 bad left w h hw hl (by omega));clear h;show Calls _ _ _ _ (SaidAt M rb (IntKind.i64.wrap (cC (bw 8 bad left).1)) (bw 8 bad left).2.1 (bw 8 bad left).2.2 w);generalize IntKind.i64.wrap (cC (bw 8 bad left).1)=V at HS ⊢;generalize (bw 8 bad left).2=T at HS ⊢;go_enter func133,ntmps133
 go_wp2_with fail
 refine HS.out.mono ?_;rintro e w1 ⟨rfl,hr,ho⟩;have HR:=Hd hr;clear hr;go_wp2_with fail
 go_ret;exact⟨rfl,HR.out,ho⟩
theorem FK (M rb:Nat)(bad:Bool)(left:List Int)(a:Option Addr)(n c:Nat)(w:World)(h:Rdr w M rb bad left) :
  Calls prog 223 #[.pointer (some ⟨rb,0,none⟩),.slice a n c] w λ e w'=>e=.returned (if bad=true then .slice none 0 0 else .slice a n c)/\w=w':=by
 obtain⟨_,_,_,d1,_,_⟩:=h.cells;clear h;cases bad with
 | true =>
  go_enter func223,ntmps223
  go_wp2_with fail
  go_ret;exact⟨rfl,rfl⟩
 | false =>
  go_enter func223,ntmps223
  go_wp2_with fail
  go_ret;exact⟨rfl,rfl⟩
def Ww (M rb:Nat) (r:List Va×Bool×List Int) (w:World) (e:Ending) (w':World):Prop :=
 ∃a n c,r.1.length=n/\e=.returned (.slice a n c)/\w'.ownsRow w.heap.size 50 3 (.slice a n c) n (r.1.flatMap jl)/\Rdr w' M rb r.2.1 r.2.2/\Only rb w w'
theorem Wx (M rb:Nat)(bad:Bool)(left:List Int)(w:World)(h:Rdr w M rb bad left)(hw:BytesWf left)(hl:left.length<=140737488351232) :
  Calls prog 217 #[.pointer (some ⟨rb,0,none⟩),.func (.func 218) #[.pointer (some ⟨rb,0,none⟩)] #[]] w (Ww M rb (kk fF bad left) w):=by
 have hM:M<=w.heap.size:=by obtain⟨a,c,h⟩:=h;exact h.le
 have ny:=h.lt;have jj:=pF (bad:=bad) hw;have HC:=Hd (FE M rb bad left w h hw hl);unfold kk;dsimp only;obtain⟨⟨n0,b0,l0⟩,hc⟩:∃r,di bad left=r:=⟨_,rfl⟩;rw[hc]at HC jj ⊢;dsimp only at HC jj ⊢;obtain⟨N,rfl⟩:∃N:Nat,n0=N:=⟨n0.toNat,by omega⟩;have hN:N<=65536:=by omega
 rw[Int.toNat_natCast];obtain⟨⟨tot,b9,l9⟩,hr⟩:∃r,dZ fF N b0 l0=r:=⟨_,rfl⟩;rw[hr];have fW:=Hd hr;have sd:=Hd jj;have FL:l0.length<=140737488351232:=by have:=jj.2.2.2;omega
 clear h hc hr jj;obtain⟨R,hQ⟩:∃R,((if b9=true then []else tot,b9,l9):List Va×Bool×List Int)=R:=⟨_,rfl⟩;rw[hQ];have ug:=Hd hQ;clear hQ;go_enter func217,ntmps217
 go_wp2_with fail
 refine HC.out.mono ?_;rintro e w0 ⟨rfl,hr0,ho0⟩;have R0:=Hd hr0;have O0:=Hd ho0;clear hr0 ho0 HC;go_wp2_with fail
 go_loopw [5,6] (λ v i wr=>∃(m:Nat) (acc:List Va) (b:Bool) (l:List Int),i=.int .i64 m/\(acc++(dZ fF m b l).1,(dZ fF m b l).2)=(tot,b9,l9)/\acc.length+m<=65536/\wr.ownsRow w.heap.size 50 3 v acc.length (acc.flatMap jl)/\Rdr wr M rb b l/\Only rb w wr/\BytesWf l/\l.length<=140737488351232) (λ _ i _=>(intOf i).toNat)
 exact⟨N,[],b0,l0,rfl,by rw[fW.out];rfl,by simpa using hN,iK _ _ _ _,R0.out,O0.out,sd.out.2.2.1,FL⟩
 clear R0 O0 sd fW;obtain⟨m,acc,b,l,rfl,heq,iF,az,hR,hO,iR,eZ⟩:=hrel;have HE:=Hd heq;have ig:=Hd az;have HR:=Hd hR;have HO:=Hd hO;have mF:=Hd iR;obtain⟨_,_,_,d1,_,_⟩:=hR.cells;clear heq az hR hO iR;by_cases fN:b=true∨m=0
 ·
  obtain⟨a,c,hv⟩:=jz ig.out;subst hv
  have fX:acc=tot/\b=b9/\l=l9:=by
   have h1:=HE.out;rcases fN with h0|h0
   ·
    subst h0;rw[zo]at h1;simpa using h1
   subst h0;simpa[dZ]using h1
  obtain⟨rfl,rfl,rfl⟩:=fX;obtain⟨q,hq⟩:∃q,acc.length=q:=⟨_,rfl⟩;rw[hq]at iF ig ⊢;have HQ:=Hd hq
  have FM:b=true∨(b=false/\m=0):=by
   cases b with
   | true=>exact Or.inl rfl
   | false=>exact Or.inr ⟨rfl,fN.resolve_left (by simp)⟩
  clear fN hq HE;rcases FM with rfl|⟨rfl,rfl⟩
  ·
   by_cases eF:m=0
   ·
    subst eF;go_wp2_with fail
    refine(FK M rb true l a q c wr HR.out).mono ?_;rintro e w' ⟨he,rfl⟩;rw[if_pos rfl]at he;subst he;go_wp2_with fail
    go_ret;rw[<-ug.out];exact⟨none,0,0,rfl,rfl,iK _ _ _ _,HR.out,HO.out⟩
   obtain⟨m2,rfl⟩:∃m2,m=m2+1:=⟨m-1,by omega⟩;have j1:(0:Int)<(m2:Int)+1:=by omega
   clear eF;go_wp2_with fail
   refine(FK M rb true l a q c wr HR.out).mono ?_;rintro e w' ⟨he,rfl⟩;rw[if_pos rfl]at he;subst he;go_wp2_with fail
   go_ret;rw[<-ug.out];exact⟨none,0,0,rfl,rfl,iK _ _ _ _,HR.out,HO.out⟩
  go_wp2_with fail
  refine(FK M rb false l a q c wr HR.out).mono ?_;rintro e w' ⟨he,rfl⟩;rw[if_neg (by simp)]at he;subst he;go_wp2_with fail
  go_ret;rw[<-ug.out];exact⟨a,q,c,HQ.out,rfl,ig.out,HR.out,HO.out⟩
 obtain⟨rfl,m',rfl⟩:b=false/\∃m',m=m'+1:=by
  refine⟨by cases b with
   | true=>exact absurd (Or.inl rfl) fN
   | false=>rfl,m-1,by omega⟩
 have j1:(0:Int)<(m':Int)+1:=by omega
 clear fN;have ly:=Wn M rb false l wr HR.out mF.out eZ;have nM:=zq false l mF.out;have lz:=HE.out;rw[dZ,if_neg (by simp)]at lz;generalize fF false l=r at ly nM lz;obtain⟨x,b1,l1⟩:=r;dsimp only at ly nM lz;have H2:=Hd lz;have uh:=Hd nM;have se:=Hd ly;have bP:=HO.out.1;clear lz nM ly HE;go_wp2_with fail
 refine se.out.mono ?_;rintro e w1 ⟨he,pv,ho1⟩;unfold Va.val at he;subst he;have dj:∀g,(Value.ownBlock _)=some g->w.heap.size<=g:=λ g hg=>(ig.out.lt g hg).1
 have ui:=Hd (xh ig.out ho1 (λ e=>by have:=dj _ e;omega));have R1:=Hd pv;have O1:=Hd (HO.out.trans ho1);have pq:=(HO.out.trans ho1).1;clear pv ho1 se d1 HR HO ig;go_wp2_with (at_builtin;refine tw (sub:=mB) sf zf rfl (by decide) oF DL rfl (.tmp 23) (.tmp 26) rfl w.heap.size _ acc.length (acc.flatMap jl) rfl (ui.out.alloc _) (some ⟨w1.heap.size,0,none⟩) 1 1 [x] rfl rfl (w1.heap.size+1) (ud oF _ _ (heap_alloc_new w1 _) rfl (by omega) (λ _ _=>trivial)) (by simp) (by unfold maxLen;omega) (by omega) (by simp;omega) ?_)
 intro v2 w2 h2 ax _;have hA:=(aj w1.heap.size w1).alloc (aa _) (.cells #[.int .u8 x.kind,.int .i64 x.num,.string x.text] 50);have R2:=Hd ((R1.out.below hA).grown ax (λ g hg=>by have:=dj g hg;omega));have O2:=Hd ((O1.out.alloc (.cells #[.int .u8 x.kind,.int .i64 x.num,.string x.text] 50)).grown ax dj);have H3:=Hd h2;clear hA h2 ax ui R1 O1 dj;go_wp2_with fail
 go_roundw
 exact⟨m',acc++[x],b1,l1,by go_num,by rw[List.append_assoc];exact H2.out,by simp;omega,by rw[List.length_append,List.flatMap_append];exact H3.out,R2.out,O2.out,uh.out.1,aF uh.out.2 eZ⟩
 simp[intOf]
theorem FN (M rb:Nat)(bad:Bool)(left:List Int)(a:Option Addr)(n c:Nat)(w:World)(h:Rdr w M rb bad left) :
  Calls prog 199 #[.pointer (some ⟨rb,0,none⟩),.slice a n c] w λ e w'=>e=.returned (if bad=true then .slice none 0 0 else .slice a n c)/\w=w':=by
 obtain⟨_,_,_,d1,_,_⟩:=h.cells;clear h;cases bad with
 | true =>
  go_enter func199,ntmps199
  go_wp2_with fail
  go_ret;exact⟨rfl,rfl⟩
 | false =>
  go_enter func199,ntmps199
  go_wp2_with fail
  go_ret;exact⟨rfl,rfl⟩
def Wy (M rb:Nat) (r:List Int×Bool×List Int) (w:World) (e:Ending) (w':World):Prop :=
 ∃a n c,r.1.length=n/\e=.returned (.slice a n c)/\w'.ownsRow w.heap.size 3 1 (.slice a n c) n (r.1.flatMap gb)/\Rdr w' M rb r.2.1 r.2.2/\Only rb w w'
theorem Wz (M rb:Nat)(bad:Bool)(left:List Int)(w:World)(h:Rdr w M rb bad left)(hw:BytesWf left)(hl:left.length<=140737488351232) :
  Calls prog 136 #[.pointer (some ⟨rb,0,none⟩),.func (.func 133) #[.pointer (some ⟨rb,0,none⟩)] #[]] w (Wy M rb (kk bc bad left) w):=by
 have hM:M<=w.heap.size:=by obtain⟨a,c,h⟩:=h;exact h.le
 have ny:=h.lt;have jj:=pF (bad:=bad) hw;have HC:=Hd (FE M rb bad left w h hw hl);unfold kk;dsimp only;obtain⟨⟨n0,b0,l0⟩,hc⟩:∃r,di bad left=r:=⟨_,rfl⟩;rw[hc]at HC jj ⊢;dsimp only at HC jj ⊢;obtain⟨N,rfl⟩:∃N:Nat,n0=N:=⟨n0.toNat,by omega⟩;have hN:N<=65536:=by omega
 rw[Int.toNat_natCast];obtain⟨⟨tot,b9,l9⟩,hr⟩:∃r,dZ bc N b0 l0=r:=⟨_,rfl⟩;rw[hr];have fW:=Hd hr;have sd:=Hd jj;have FL:l0.length<=140737488351232:=by have:=jj.2.2.2;omega
 clear h hc hr jj;obtain⟨R,hQ⟩:∃R,((if b9=true then []else tot,b9,l9):List Int×Bool×List Int)=R:=⟨_,rfl⟩;rw[hQ];have ug:=Hd hQ;clear hQ;go_enter func136,ntmps136
 go_wp2_with fail
 refine HC.out.mono ?_;rintro e w0 ⟨rfl,hr0,ho0⟩;have R0:=Hd hr0;have O0:=Hd ho0;clear hr0 ho0 HC;go_wp2_with fail
 go_loopw [5,6] (λ v i wr=>∃(m:Nat) (acc:List Int) (b:Bool) (l:List Int),i=.int .i64 m/\(acc++(dZ bc m b l).1,(dZ bc m b l).2)=(tot,b9,l9)/\acc.length+m<=65536/\wr.ownsRow w.heap.size 3 1 v acc.length (acc.flatMap gb)/\Rdr wr M rb b l/\Only rb w wr/\BytesWf l/\l.length<=140737488351232) (λ _ i _=>(intOf i).toNat)
 exact⟨N,[],b0,l0,rfl,by rw[fW.out];rfl,by simpa using hN,iK _ _ _ _,R0.out,O0.out,sd.out.2.2.1,FL⟩
 clear R0 O0 sd fW;obtain⟨m,acc,b,l,rfl,heq,iF,az,hR,hO,iR,eZ⟩:=hrel;have HE:=Hd heq;have ig:=Hd az;have HR:=Hd hR;have HO:=Hd hO;have mF:=Hd iR;obtain⟨_,_,_,d1,_,_⟩:=hR.cells;clear heq az hR hO iR;by_cases fN:b=true∨m=0
 ·
  obtain⟨a,c,hv⟩:=jz ig.out;subst hv
  have fX:acc=tot/\b=b9/\l=l9:=by
   have h1:=HE.out;rcases fN with h0|h0
   ·
    subst h0;rw[zo]at h1;simpa using h1
   subst h0;simpa[dZ]using h1
  obtain⟨rfl,rfl,rfl⟩:=fX;obtain⟨q,hq⟩:∃q,acc.length=q:=⟨_,rfl⟩;rw[hq]at iF ig ⊢;have HQ:=Hd hq
  have FM:b=true∨(b=false/\m=0):=by
   cases b with
   | true=>exact Or.inl rfl
   | false=>exact Or.inr ⟨rfl,fN.resolve_left (by simp)⟩
  clear fN hq HE;rcases FM with rfl|⟨rfl,rfl⟩
  ·
   by_cases eF:m=0
   ·
    subst eF;go_wp2_with fail
    refine(FN M rb true l a q c wr HR.out).mono ?_;rintro e w' ⟨he,rfl⟩;rw[if_pos rfl]at he;subst he;go_wp2_with fail
    go_ret;rw[<-ug.out];exact⟨none,0,0,rfl,rfl,iK _ _ _ _,HR.out,HO.out⟩
   obtain⟨m2,rfl⟩:∃m2,m=m2+1:=⟨m-1,by omega⟩;have j1:(0:Int)<(m2:Int)+1:=by omega
   clear eF;go_wp2_with fail
   refine(FN M rb true l a q c wr HR.out).mono ?_;rintro e w' ⟨he,rfl⟩;rw[if_pos rfl]at he;subst he;go_wp2_with fail
   go_ret;rw[<-ug.out];exact⟨none,0,0,rfl,rfl,iK _ _ _ _,HR.out,HO.out⟩
  go_wp2_with fail
  refine(FN M rb false l a q c wr HR.out).mono ?_;rintro e w' ⟨he,rfl⟩;rw[if_neg (by simp)]at he;subst he;go_wp2_with fail
  go_ret;rw[<-ug.out];exact⟨a,q,c,HQ.out,rfl,ig.out,HR.out,HO.out⟩
 obtain⟨rfl,m',rfl⟩:b=false/\∃m',m=m'+1:=by
  refine⟨by cases b with
   | true=>exact absurd (Or.inl rfl) fN
   | false=>rfl,m-1,by omega⟩
 have j1:(0:Int)<(m':Int)+1:=by omega
 clear fN;have ly:=Ly M rb false l wr HR.out mF.out eZ;have nM:=eL false l mF.out;have lz:=HE.out;rw[dZ,if_neg (by simp)]at lz;generalize bc false l=r at ly nM lz;obtain⟨x,b1,l1⟩:=r;dsimp only at ly nM lz;have H2:=Hd lz;have uh:=Hd nM;have se:=Hd ly;have bP:=HO.out.1;clear lz nM ly HE;go_wp2_with fail
 refine se.out.mono ?_;rintro e w1 ⟨he,pv,ho1⟩;skip
 subst he;have dj:∀g,(Value.ownBlock _)=some g->w.heap.size<=g:=λ g hg=>(ig.out.lt g hg).1
 have ui:=Hd (xh ig.out ho1 (λ e=>by have:=dj _ e;omega));have R1:=Hd pv;have O1:=Hd (HO.out.trans ho1);have pq:=(HO.out.trans ho1).1;clear pv ho1 se d1 HR HO ig;go_wp2_with (at_builtin;refine tw (sub:=mB) qr tY rfl (by decide) mA Be rfl (.tmp 23) (.tmp 26) rfl w.heap.size _ acc.length (acc.flatMap gb) rfl (ui.out.alloc _) (some ⟨w1.heap.size,0,none⟩) 1 1 [x] rfl rfl (w1.heap.size+1) (ud mA _ _ (heap_alloc_new w1 _) rfl (by omega) (λ _ _=>trivial)) (by simp) (by unfold maxLen;omega) (by omega) (by simp;omega) ?_)
 intro v2 w2 h2 ax _;have hA:=(aj w1.heap.size w1).alloc (aa _) (.cells #[.int .i64 x] 3);have R2:=Hd ((R1.out.below hA).grown ax (λ g hg=>by have:=dj g hg;omega));have O2:=Hd ((O1.out.alloc (.cells #[.int .i64 x] 3)).grown ax dj);have H3:=Hd h2;clear hA h2 ax ui R1 O1 dj;go_wp2_with fail
 go_roundw
 exact⟨m',acc++[x],b1,l1,by go_num,by rw[List.append_assoc];exact H2.out,by simp;omega,by rw[List.length_append,List.flatMap_append];exact H3.out,R2.out,O2.out,uh.out.1,aF uh.out.2 eZ⟩
 simp[intOf]
theorem Lz:Shrinks nd:=DS zq
theorem LA:Shrinks rJ:=DS eL
structure Cm where
 kind:Int
 text:ByteArray
 ao:Option Addr
 args:List Va
 cap:Nat
 num:Int
def Cm.plain (c:Cm):lK:=⟨c.kind,c.text,c.args,c.num⟩
def zr (c:Cm):Value:=.agg #[.int .u8 c.kind,.string c.text,.slice c.ao c.args.length c.cap,.int .i64 c.num]
theorem rK {w w':World}{r base e size n:Nat}{v:Value}{xs:List Value}(h:w.ownsRow base e size v n xs)(ho:Only r w w')(hr:r<base):w'.ownsRow base e size v n xs:=xh h ho (λ e=>by have:=(h.lt r e).1;omega)
def iZ (w:World) (base:Nat) (a:Option Addr) (n c:Nat) (xs:List Va):Prop:=w.ownsRow base 50 3 (.slice a n c) n (xs.flatMap jl)
theorem iZ.only {w w':World}{r base n c:Nat}{a:Option Addr}{xs:List Va}(h:iZ w base a n c xs)(ho:Only r w w')(hr:r<base):iZ w' base a n c xs:=rK h ho hr
theorem iZ.below {w w':World}{base n c B:Nat}{a:Option Addr}{xs:List Va}(h:iZ w base a n c xs)(hb:Below B w w')(hB:w.heap.size<=B):iZ w' base a n c xs:=own_below h hb hB
theorem iZ.le {w:World}{base base' n c:Nat}{a:Option Addr}{xs:List Va}(h:iZ w base a n c xs)(hB:base'<=base):iZ w base' a n c xs:=fh h hB
theorem iZ.nil (w:World)(base:Nat):iZ w base none 0 0 []:=iK _ _ _ _
def gj (w:World) (base:Nat) (a:Option Addr) (n c:Nat) (xs:List Int):Prop:=w.ownsRow base 3 1 (.slice a n c) n (xs.flatMap gb)
theorem gj.only {w w':World}{r base n c:Nat}{a:Option Addr}{xs:List Int}(h:gj w base a n c xs)(ho:Only r w w')(hr:r<base):gj w' base a n c xs:=rK h ho hr
theorem gj.below {w w':World}{base n c B:Nat}{a:Option Addr}{xs:List Int}(h:gj w base a n c xs)(hb:Below B w w')(hB:w.heap.size<=B):gj w' base a n c xs:=own_below h hb hB
theorem gj.le {w:World}{base base' n c:Nat}{a:Option Addr}{xs:List Int}(h:gj w base a n c xs)(hB:base'<=base):gj w base' a n c xs:=fh h hB
theorem gj.nil (w:World)(base:Nat):gj w base none 0 0 []:=iK _ _ _ _
def FO (M rb:Nat) (v:Value) (b:Bool) (l:List Int) (w:World) (e:Ending) (w':World):Prop:=e=.returned v/\Rdr w' M rb b l/\Only rb w w'
theorem DT (M rb:Nat)(bad:Bool)(left:List Int)(v:Int)(b2:Bool)(l2:List Int)(w:World)(hs:bc bad left=(v,b2,l2))(h:Rdr w M rb bad left)(hw:BytesWf left)(hl:left.length<=140737488351232) :
  Calls prog 133 #[.pointer (some ⟨rb,0,none⟩)] w (FO M rb (.int .i64 v) b2 l2 w):=by
 have:=Ly M rb bad left w h hw hl;rw[hs]at this;exact this
theorem LE (M rb:Nat)(bad:Bool)(left:List Int)(v:Int)(b2:Bool)(l2:List Int)(w:World)(hs:eI bad left=(v,b2,l2))(h:Rdr w M rb bad left)(hw:BytesWf left)(hl:left.length<=140737488351232) :
  Calls prog 134 #[.pointer (some ⟨rb,0,none⟩)] w (FO M rb (.int .u8 v) b2 l2 w):=by
 have:=Lk M rb bad left w h hw hl;unfold eI at hs;simp only[Prod.mk.injEq]at hs;obtain⟨h1,h2⟩:=hs;rw[h1,h2]at this;exact this
theorem WA (M rb:Nat)(bad:Bool)(left:List Int)(v:ByteArray)(b2:Bool)(l2:List Int)(w:World)(hs:iY bad left=(v,b2,l2))(h:Rdr w M rb bad left)(hw:BytesWf left)(hl:left.length<=140737488351232) :
  Calls prog 195 #[.pointer (some ⟨rb,0,none⟩)] w (FO M rb (.string v) b2 l2 w):=by
 have:=Lo M rb bad left w h hw hl;rw[hs]at this;exact this
def WB (M rb:Nat) (v:List Va) (b:Bool) (l:List Int) (w:World) (e:Ending) (w':World):Prop:=∃a n c,v.length=n/\e=.returned (.slice a n c)/\iZ w' w.heap.size a n c v/\Rdr w' M rb b l/\Only rb w w'
def WC (M rb:Nat) (v:List Int) (b:Bool) (l:List Int) (w:World) (e:Ending) (w':World):Prop:=∃a n c,v.length=n/\e=.returned (.slice a n c)/\gj w' w.heap.size a n c v/\Rdr w' M rb b l/\Only rb w w'
theorem WD (M rb:Nat)(bad:Bool)(left:List Int)(v:List Int)(b2:Bool)(l2:List Int)(w:World)(hs:rJ bad left=(v,b2,l2))(h:Rdr w M rb bad left)(hw:BytesWf left)(hl:left.length<=140737488351232) :
  Calls prog 136 #[.pointer (some ⟨rb,0,none⟩),.func (.func 133) #[.pointer (some ⟨rb,0,none⟩)] #[]] w (WC M rb v b2 l2 w):=by
 have:=Wz M rb bad left w h hw hl;unfold rJ at hs;rw[hs]at this;exact this
theorem WE (M rb:Nat)(bad:Bool)(left:List Int)(v:List Va)(b2:Bool)(l2:List Int)(w:World)(hs:nd bad left=(v,b2,l2))(h:Rdr w M rb bad left)(hw:BytesWf left)(hl:left.length<=140737488351232) :
  Calls prog 196 #[.pointer (some ⟨rb,0,none⟩)] w (WB M rb v b2 l2 w):=by
 have hr:=Wx M rb bad left w h hw hl;unfold nd at hs;rw[hs]at hr;have HR:=Hd hr;have HK:=Hd (vr M rb bad left w h);have LF:∀(fn:Fn) (first cap:Array Value) (w:World),(Instr.makeFunc fn first cap).run prog w=.ok (.func fn first cap) w:=λ _ _ _ _=>rfl
 obtain⟨R,hR⟩:∃R,(v,b2,l2)=R:=⟨_,rfl⟩;have e1:v=R.1:=by rw[<-hR]
 have e2:b2=R.2.1:=by rw[<-hR]
 have e3:l2=R.2.2:=by rw[<-hR]
 rw[hR]at HR;rw[e1,e2,e3];clear hs hr h hR e1 e2 e3;go_enter func196,ntmps196
 go_wp2_with fail
 refine HK.out.mono ?_;rintro e w1 ⟨rfl,rfl⟩;go_wp2_with fail
 refine HR.out.mono ?_;rintro e w1 ⟨a,n,c,hn,rfl,ho,hr,hy⟩;have H1:=Hd hn;have H2:=Hd ho;have H3:=Hd hr;clear hn ho hr;go_wp2_with fail
 go_ret;exact⟨a,n,c,H1.out,rfl,H2.out,H3.out,hy⟩
theorem Wrote.sits {B b g:Nat}{bs:List Int}{w w':World}{cs:Array Value}{T:TypeId}(h:Wrote B b bs w w')(hs:w.heap[g]?=some (.cells cs T (0,0)))(hn:g≠b)(hT:T≠5):w'.heap[g]?=some (.cells cs T (0,0)) :=
 h.2.2 g _ hs (by simpa using hn) (by intro c fz hh;injection hh with _ h2 _;exact hT h2)
theorem LG (B b:Nat)(bs:List Int)(ck:Int)(text:ByteArray)(ao:Option Addr)(n cap:Nat)(num:Int)(args:List Va)(w:World)(hn:args.length=n)(hx:iz w B ao args)(gM:∀v∈args,v.text.size<=1099511627776)(h:na w B b bs)(gK:B<=w.heap.size)(pr:n<=1099511627776)(fV:bs.length+text.size+(dY args).length+40<=100000000000) :
  Calls prog 47 #[.pointer (some ⟨b,0,none⟩),.agg #[.int .u8 ck,.string text,.slice ao n cap,.int .i64 num]] w λ e w'=>e=.returned (.tuple #[])/\Wrote B b (bs++jT ck text num args) w w':=by
 have h1:=(Wrote.start h).alloc gK (.cells #[.int .u8 ck,.string text,.slice ao n cap,.int .i64 num] 44);have eY:=heap_alloc_new w (.cells #[.int .u8 ck,.string text,.slice ao n cap,.int .i64 num] 44);have gL:=h.lt;have H1:=Hd h1;have Bg:=Hd eY;have HX:=Hd hx;have HN:=Hd hn;have qq:=Hd gM;clear h h1 eY hx hn gM;go_enter func47,ntmps47
 go_wp2_with fail
 have h1:=H1.out;have hd:=Bg.out;generalize (w.alloc (.cells #[.int .u8 ck,.string text,.slice ao n cap,.int .i64 num] 44))=w0 at h1 hd ⊢;have d0:w0.cell? ⟨w.heap.size,0,none⟩=some (.int .u8 ck):=ab hd 0;have r8:=Hd h1.drew;have HD:=Hd (show w0.drew.heap[w.heap.size]?=some (.cells #[.int .u8 ck,.string text,.slice ao n cap,.int .i64 num] 44 (0,0))from hd);clear h1 hd H1 Bg;go_still_tail 5,(by kernel_rfl)
 change wpList _ _ _ _ _ w0.drew;generalize w0.drew=w1 at r8 HD ⊢;clear d0;go_wp2_with fail
 refine(DO B b bs ck w1 r8.out.1 (aF gK r8.out.2.1.size) (by omega)).mono ?_;rintro e w2 ⟨rfl,hw2⟩;have hd:=hw2.sits HD.out (by omega) (by decide);have d1:w2.cell? ⟨w.heap.size,1,none⟩=some (.string text):=ab hd 1;have H2:=Hd (r8.out.trans hw2);have HD2:=Hd hd;clear hw2 hd r8 HD;go_wp2_with fail
 refine(Lc B b _ text w2 H2.out.1 (aF gK H2.out.2.1.size) (by simp only[List.length_append,List.length_singleton];omega)).mono ?_;rintro e w3 ⟨rfl,lR⟩;have hd:=lR.sits HD2.out (by omega) (by decide);have d3:w3.cell? ⟨w.heap.size,3,none⟩=some (.int .i64 num):=ab hd 3;have H3:=Hd (H2.out.trans lR);have HD3:=Hd hd;clear lR hd H2 HD2 d1;go_wp2_with fail
 refine(zh B b 8 _ _ num w3 rfl (by omega) (by omega) H3.out.1 (aF gK H3.out.2.1.size) (by simp only[List.length_append,List.length_singleton,tZ];omega)).mono ?_;rintro e w4 ⟨rfl,gZ⟩;have hd:=gZ.sits HD3.out (by omega) (by decide);have d2:w4.cell? ⟨w.heap.size,2,none⟩=some (.slice ao n cap):=ab hd 2;have H4:=Hd (H3.out.trans gZ);clear gZ hd H3 HD3 d3;go_wp2_with fail
 refine(Wd B b _ ao n cap args w4 HN.out (HX.out.below cn H4.out.2.1 (aa _)) qq.out H4.out.1 (aF gK H4.out.2.1.size) (by simp only[List.length_append,List.length_singleton,tZ,cV];omega) pr (by simp only[List.length_append,List.length_singleton,tZ,cV];omega)).mono ?_;rintro e w5 ⟨rfl,iV⟩;have oM:=H4.out.trans iV;have kx:bs++[ck]++m9 text++au 8 num++dY args=bs++jT ck text num args:=by simp[jT]
 rw[kx]at oM;have H6:=Hd oM;clear iV oM d2 kx;go_wp2_with fail
 go_end0;exact⟨rfl,H6.out⟩
end Go.Proofs.YtepdklfkegkojaaGreatDoor
