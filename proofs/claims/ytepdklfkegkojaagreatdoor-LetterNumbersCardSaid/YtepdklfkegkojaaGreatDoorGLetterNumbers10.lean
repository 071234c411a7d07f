/- Parts of one proof. Conditions: as each says. -/
import Derived.Test.YtepdklfkegkojaaGreatDoorGLetterNumbers0
import Derived.Test.YtepdklfkegkojaaGreatDoorGLetterNumbers9
import Derived.Test.YtepdklfkegkojaaGreatDoorGLetterNumbers2
import Derived.Test.YtepdklfkegkojaaGreatDoorGLetterNumbers4
set_option linter.all false
set_option maxHeartbeats 16000000
set_option maxRecDepth 100000
namespace Go.Proofs.YtepdklfkegkojaaGreatDoor
open Go.Proofs.Tryz
open Go.RowKit
theorem XX (x y:Nat)(hx:x<2 ^ 62)(hy:y<2 ^ 62):bits .or .i64 (x:Int) (y:Int)=((x ||| y:Nat):Int):=by
 show IntKind.i64.wrap ((BitVec.ofInt 64 x ||| BitVec.ofInt 64 y).toNat:Nat)=_;rw[BitVec.toNat_or,BitVec.toNat_ofInt,BitVec.toNat_ofInt,IntKind.wrap_i64];have hor:x ||| y<2 ^ 62:=Nat.or_lt_two_pow hx hy;have e:∀z:Nat,z<2 ^ 62->((z:Int) % ((2 ^ 64:Nat):Int)).toNat=z:=by intro z hz;omega
 rw[e x hx,e y hy];omega
theorem GE (i a b:Nat)(hb:b<2 ^ i)(h:2 ^ i*a+b<4294967296):bits .or .i64 ((2 ^ i*a:Nat):Int) ((b:Nat):Int)=((2 ^ i*a+b:Nat):Int):=by
 rw[XX _ _ (by omega) (by omega),Nat.two_pow_add_eq_or_of_lt hb]
theorem M0 {a b c d:Int}(ha:0<=a/\a<256)(hb:0<=b/\b<256)(hc:0<=c/\c<256)(hd:0<=d/\d<256) :
  bits .or .i64 (bits .or .i64 (bits .or .i64 (a*16777216) (b*65536)) (c*256)) d=a*16777216+b*65536+c*256+d:=by
 obtain⟨x,rfl⟩:=Int.eq_ofNat_of_zero_le ha.1;obtain⟨y,rfl⟩:=Int.eq_ofNat_of_zero_le hb.1;obtain⟨z,rfl⟩:=Int.eq_ofNat_of_zero_le hc.1;obtain⟨u,rfl⟩:=Int.eq_ofNat_of_zero_le hd.1;have e1:=GE 24 x (65536*y) (by omega) (by omega);have e2:=GE 16 (256*x+y) (256*z) (by omega) (by omega);have e3:=GE 8 (65536*x+256*y+z) u (by omega) (by omega);have f1:(x:Int)*16777216=((2 ^ 24*x:Nat):Int):=by omega
 have f2:(y:Int)*65536=((65536*y:Nat):Int):=by omega
 have f3:(z:Int)*256=((256*z:Nat):Int):=by omega
 rw[f1,f2,f3,e1];rw[show 2 ^ 24*x+65536*y=2 ^ 16*(256*x+y) by omega,e2];rw[show 2 ^ 16*(256*x+y)+256*z=2 ^ 8*(65536*x+256*y+z) by omega,e3];omega
theorem M1 (a b c d:Int):cC [a,b,c,d]=a*16777216+b*65536+c*256+d:=by
 simp[cC];omega
theorem GF:∀w,(sizeOf (prog.elem 134)).run prog w=.ok 1 w:=λ _=>by kernel_rfl
theorem GG:prog.underlying 134=some (.slice (prog.elem 134)):=by kernel_rfl
theorem js {w:World}{g i:Nat}{cs cs':Array Value}{T:TypeId}{fr:Nat×Nat}(h:w.heap[g]?=some (.cells cs T fr))(v:Value)(he:cs.setIfInBounds i v=cs'):(w.setCell ⟨g,i,none⟩ v).heap[g]?=some (.cells cs' T fr):=he▸br h v
structure vW (w:World) (B rb:Nat) (left:List Int) (ao:Option Addr) (cap:Nat):Prop where
 blk:w.heap[rb]?=some (.cells #[.slice ao left.length cap] 134 (0,0))
 off:BytesIn w B ao left
 hcap:left.length<=cap
 nil:ao=none->cap=0
 lo:B<=rb
def Rest (w:World) (B rb:Nat) (left:List Int):Prop:=∃ao cap,vW w B rb left ao cap
theorem Rest.lt {w:World}{B rb:Nat}{left:List Int}(h:Rest w B rb left):rb<w.heap.size:=by
 obtain⟨_,_,h⟩:=h;exact(Array.getElem?_eq_some_iff.1 h.blk).1
theorem Rest.only {w w':World}{B rb rr:Nat}{left:List Int}(h:Rest w B rb left)(ho:Only rr w w')(hn:rb≠rr)(hB:B<=rr):Rest w' B rb left:=by
 have ae:=h.lt;obtain⟨ao,cap,h⟩:=h;exact⟨ao,cap,(ho.block rb ae hn).trans h.blk,h.off.below (ho.toBelow (B:=B) (by have:=h.lo;omega) hB) (aa _),h.hcap,h.nil,h.lo⟩
theorem Rest.below {w w':World}{B rb:Nat}{left:List Int}(h:Rest w B rb left)(hb:Below w.heap.size w w'):Rest w' B rb left:=by
 have ae:=h.lt;obtain⟨ao,cap,h⟩:=h;exact⟨ao,cap,(hb.block rb ae).trans h.blk,h.off.below hb (by have:=h.lo;omega),h.hcap,h.nil,h.lo⟩
theorem vW.set {w:World}{B rb:Nat}{left l2:List Int}{ao a2:Option Addr}{cap c2 n2:Nat}(h:vW w B rb left ao cap)(h1:BytesIn w B a2 l2)(hn:l2.length=n2)(h2:n2<=c2)(h3:a2=none->c2=0):Rest (w.setCell ⟨rb,0,none⟩ (.slice a2 n2 c2)) B rb l2:=by
 subst hn;refine⟨a2,c2,js h.blk _ rfl,?_,h2,h3,h.lo⟩;exact h1.below ((aj B w).setCell (p:=⟨rb,0,none⟩) h.lo _) (aa _)
theorem M2 (B rb n:Nat)(left:List Int)(w:World)(h:Rest w B rb left)(hs:left.length<n)(hn:n<=1099511627776) :
  Calls prog 69 #[.pointer (some ⟨rb,0,none⟩),.int .i64 (n:Int)] w λ e w'=>e=.returned (.tuple #[.slice none 0 0,.bool false])/\w=w':=by
 obtain⟨ao,cap,h⟩:=h;obtain⟨m,hm⟩:∃m,left.length=m:=⟨_,rfl⟩;have hb:=h.blk;rw[hm]at hb hs;have d0:w.cell? ⟨rb,0,none⟩=some (.slice ao m cap):=ab hb 0;have i1:(m:Int)<n:=by omega
 clear h hb hm;go_enter func69,ntmps69
 go_wp2_with fail
 go_ret2
 exact⟨rfl,by first|rfl|trivial⟩
def XY (B rb n:Nat) (left:List Int) (w:World) (e:Ending) (w':World):Prop :=
 ∃a c,e=.returned (.tuple #[.slice a n c,.bool true])/\BytesIn w' B a (left.take n)/\(a=none->c=0)/\n<=c/\Rest w' B rb (left.drop n)/\Only rb w w'
theorem GH (B rb n:Nat)(left:List Int)(w:World)(h:Rest w B rb left)(hs:n<=left.length)(hn:left.length<=1099511627776) :
  Calls prog 69 #[.pointer (some ⟨rb,0,none⟩),.int .i64 (n:Int)] w (XY B rb n left w):=by
 have ae:=h.lt;obtain⟨ao,cap,h⟩:=h;obtain⟨m,hm⟩:∃m,left.length=m:=⟨_,rfl⟩;have hb:=h.blk;have hcap:=h.hcap;rw[hm]at hb hs hn hcap;have d0:w.cell? ⟨rb,0,none⟩=some (.slice ao m cap):=ab hb 0;have f0:w.frozen? ⟨rb,0,none⟩=false:=aO hb 0;have i1:¬(m:Int)<n:=by omega
 have hsl1:∀w',(Instr.sliceAt 134 (.slice ao m cap) none (some (.int .i64 (n:Int))) none).run prog w'=.ok (.slice (gf ao cap 0 1) n cap) w':=λ w'=>ua GG GF ao m cap n (by omega) .i64 n rfl w'
 have hsl2:∀w',(Instr.sliceAt 134 (.slice ao m cap) (some (.int .i64 (n:Int))) none none).run prog w'=.ok (.slice (gf ao cap n 1) (m-n) (cap-n)) w':=λ w'=>zm GG GF ao m cap n (by omega) .i64 n rfl w'
 have H:=Hd h;have HM:=Hd hm;clear h hb hm;go_enter func69,ntmps69
 go_wp2_with fail
 go_still_tail 13,(by kernel_rfl)
 change wpList _ _ _ _ _ w.drew;have kR:=(aj w.heap.size w).drew;have eY:=(kR.block rb ae).trans H.out.blk;have rZ:=H.out.off.below kR (aF H.out.lo (Nat.le_of_lt ae));have H2:=Hd (vW.mk eY rZ H.out.hcap H.out.nil H.out.lo);have e0:w.drew.cell? ⟨rb,0,none⟩=some (.slice ao m cap):=by rw[<-HM.out];exact ab eY 0
 have e1:w.drew.frozen? ⟨rb,0,none⟩=false:=aO eY 0;have HO:=Hd (Only.of_below (rb:=rb) kR);clear d0 f0 eY rZ kR H;generalize w.drew=w2 at H2 e0 e1 HO ⊢;go_wp2_with fail
 go_ret2
 have bN:left.length<=cap:=H2.out.hcap;have hset:=H2.out.set (a2:=gf ao cap n 1) (l2:=left.drop n) (n2:=m-n) (c2:=cap-n) (H2.out.off.drop n bN) (by rw[List.length_drop,HM.out]) (by omega) (λ e=>by have:=H2.out.nil (t8 e);omega);refine⟨gf ao cap 0 1,cap,rfl,?_,λ e=>H2.out.nil (t8 e),by omega,hset,HO.out.trans (Only.set rb w2 0 _)⟩;have hb:=(H2.out.off.drop 0 bN).take n;rw[List.drop_zero]at hb;exact hb.below ((aj B w2).setCell (p:=⟨rb,0,none⟩) H2.out.lo _) (aa _)
theorem GI (B rb:Nat)(left:List Int)(r:Int×Bool×List Int)(w:World)(hr:gk left=r)(h:Rest w B rb left)(hw:BytesWf left)(hn:left.length<=1099511627776) :
  Calls prog 72 #[.pointer (some ⟨rb,0,none⟩)] w λ e w'=>e=.returned (.tuple #[.int .i64 r.1,.bool r.2.1])/\Rest w' B rb r.2.2/\Only rb w w':=by
 subst hr;unfold gk;by_cases h4:left.length<4
 ·
  rw[if_pos h4];have H:=Hd h;have HT:=Hd (M2 B rb 4 left w h h4 (by omega));clear h;go_enter func72,ntmps72
  go_wp2_with fail
  refine HT.out.mono ?_;rintro e w1 ⟨rfl,rfl⟩;go_wp2_with fail
  go_ret2
  exact⟨rfl,H.out,Only.refl rb w⟩
 rw[if_neg h4];have HT:=Hd (GH B rb 4 left w h (by omega) hn);have ae:=h.lt;clear h
 obtain⟨x0,x1,x2,x3,l2,rfl⟩:∃x0 x1 x2 x3 l2,left=x0 :: x1 :: x2 :: x3 :: l2:=by
  match left,h4 with
  | x0 :: x1 :: x2 :: x3 :: l2,_=>exact⟨x0,x1,x2,x3,l2,rfl⟩
  | [],h=>simp at h
  | [_],h=>simp at h
  | [_,_],h=>simp at h
  | [_,_,_],h=>simp at h
 have w0:=hw x0 (by simp);have w1':=hw x1 (by simp);have w2':=hw x2 (by simp);have w3':=hw x3 (by simp);have BP:=M0 w0 w1' w2' w3';obtain⟨V,hV⟩:∃V,x0*16777216+x1*65536+x2*256+x3=V:=⟨_,rfl⟩;rw[hV]at BP;have bR:cC [x0,x1,x2,x3]=V:=by rw[M1,hV]
 have gl:=Hd bR;have hv0:0<=V/\V<=4294967295:=by omega
 clear h4 hw bR hV;go_enter func72,ntmps72
 go_wp2_with fail
 refine HT.out.mono ?_;rintro e w1 ⟨a,c,rfl,h1,h2,h3,h4,h5⟩;simp only[List.take_succ_cons,List.take_zero,List.drop_succ_cons,List.drop_zero]at h1 h4
 have h1b:∃b off,a=some ⟨b,off,none⟩/\∀i,i<4->w1.cell? ⟨b,off+i,none⟩=some (.int .u8 ([x0,x1,x2,x3].getD i 0)):=by
  rcases h1 with h|⟨b,off,e1,_,e3⟩
  · cases h
  exact⟨b,off,e1,e3⟩
 obtain⟨b,off,rfl,iS⟩:=h1b;have k0:w1.cell? ⟨b,off,none⟩=some (.int .u8 x0):=iS 0 (by decide);have k1:w1.cell? ⟨b,off+1,none⟩=some (.int .u8 x1):=iS 1 (by decide);have k2:w1.cell? ⟨b,off+2,none⟩=some (.int .u8 x2):=iS 2 (by decide);have k3:w1.cell? ⟨b,off+3,none⟩=some (.int .u8 x3):=iS 3 (by decide);obtain⟨Ec,cap2,hq⟩:=h4;obtain⟨m2,qn⟩:∃m2,l2.length=m2:=⟨_,rfl⟩;have kb:=hq.blk;rw[qn]at kb;have k4:w1.cell? ⟨rb,0,none⟩=some (.slice Ec m2 cap2):=ab kb 0;have HQ:=Hd (show Rest w1 B rb l2 from⟨Ec,cap2,hq⟩);have HO:=Hd h5;have HM:=Hd qn;clear h1 iS hq kb h5 qn
 have zJ:=Hd (show ∀(bq:Bool) (w':World),decide (V<=(m2:Int))=bq->Below w1.heap.size w1 w'->(Ending.returned (.tuple #[.int .i64 V,.bool bq])=.returned (.tuple #[.int .i64 (cC ((x0 :: x1 :: x2 :: x3 :: l2).take 4)),.bool (decide (cC ((x0 :: x1 :: x2 :: x3 :: l2).take 4)<=(((x0 :: x1 :: x2 :: x3 :: l2).drop 4).length:Int)))])/\Rest w' B rb ((x0 :: x1 :: x2 :: x3 :: l2).drop 4)/\Only rb w w') by
  intro bq w' kf ag;simp only[List.take_succ_cons,List.take_zero,List.drop_succ_cons,List.drop_zero];rw[gl.out,HM.out,kf];exact⟨rfl,HQ.out.below ag,HO.out.trans (Only.of_below ag)⟩)
 by_cases hV:V<=(m2:Int)
 ·
  have j1:decide (V<=(m2:Int))=true:=decide_eq_true hV;go_wp2_with fail
  go_quiet (fail)
  go_wp2_with fail
  go_quiet (fail)
  go_wp2_with fail
  go_ret2
  exact zJ.out true _ (decide_eq_true (by omega)) (by first|exact below_drewN (aj _ _) _|exact below_drewN (below_drewN (aj _ _) _) _)
 have j1:decide (V<=(m2:Int))=false:=decide_eq_false hV;go_wp2_with fail
 go_quiet (fail)
 go_wp2_with fail
 go_quiet (fail)
 go_wp2_with fail
 go_ret2
 exact zJ.out false _ (decide_eq_false (by omega)) (by first|exact below_drewN (aj _ _) _|exact below_drewN (below_drewN (aj _ _) _) _)
theorem BQ (M rb:Nat)(bad:Bool)(left:List Int)(v:Int)(b2:Bool)(l2:List Int)(w:World)(hs:bc bad left=(v,b2,l2))(h:Rdr w M rb bad left)(hw:BytesWf left)(hl:left.length<=140737488351232) :
  Calls prog 71 #[.agg #[.pointer (some ⟨rb,0,none⟩)]] w (SaidAt M rb v b2 l2 w):=by
 have bS:=(aj w.heap.size w).alloc (aa _) (.cells #[.pointer (some ⟨rb,0,none⟩)] 140);have H:=Hd (h.below bS);have HB:=Hd (Only.of_below (rb:=rb) bS);have HS:=Hd hs;have HW:=Hd hw;clear h hs hw bS;go_enter func71,ntmps71
 go_wp2_with fail
 refine(Wq M rb bad left v b2 l2 _ HS.out H.out HW.out hl).mono ?_;rintro e w1 ⟨rfl,h1,h2⟩;have H1:=Hd h1;have H2:=Hd h2;clear h1 h2;go_wp2_with fail
 go_ret;exact⟨rfl,H1.out,HB.out.trans H2.out⟩
theorem XZ {α:Type}{one:Bool->List Int->α×Bool×List Int}(hs:Shrinks one)(N:Nat)(P:α->Prop)(hP:∀b l,BytesWf l->l.length<=N->P (one b l).1):∀(n:Nat) (b:Bool) (l:List Int),BytesWf l->l.length<=N->∀x∈(dZ one n b l).1,P x:=by
 intro n;induction n with
 | zero=>intro b l _ _ x hx;cases hx
 | succ n ih =>
  intro b l hw hl x hx;unfold dZ at hx;split at hx
  · cases hx
  rcases List.mem_cons.1 hx with rfl|hx
  · exact hP b l hw hl
  exact ih _ _ (hs b l hw).1 (aF (hs b l hw).2 hl) x hx
theorem X0 {α:Type}{one:Bool->List Int->α×Bool×List Int}(hs:Shrinks one)(N:Nat)(P:α->Prop)(hP:∀b l,BytesWf l->l.length<=N->P (one b l).1)(b:Bool)(l:List Int)(hw:BytesWf l)(hl:l.length<=N):∀x∈(kk one b l).1,P x:=by
 intro x hx;have hc:=pF (bad:=b) hw;unfold kk at hx;dsimp only at hx;split at hx
 · cases hx
 exact XZ hs N P hP _ _ _ hc.2.2.1 (aF hc.2.2.2 hl) x hx
theorem X1 {α:Type}{nf:α->List Int}(h:∀x,1<=(nf x).length):∀xs:List α,xs.length<=(xs.flatMap nf).length:=by
 intro xs;induction xs with
 | nil=>simp
 | cons x xs ih=>have:=h x;rw[List.flatMap_cons,List.length_append,List.length_cons];omega
theorem M3 {α:Type}{one:Bool->List Int->α×Bool×List Int}{nf:α->List Int}(h:∀x,1<=(nf x).length)(ht:There one nf)(b:Bool)(l:List Int)(hw:BytesWf l):(kk one b l).1.length<=l.length:=by
 cases hb:(kk one b l).2.1 with
 | false =>
  obtain⟨_,h2,_⟩:=FW ht b l hw hb;have:=X1 h (kk one b l).1;have h3:=congrArg List.length h2;simp only[List.length_append]at h3;omega
 | true =>
  unfold kk at hb ⊢;dsimp only at hb ⊢;rw[if_pos hb];exact iX _
theorem X2 (n:Int):1<=(au 8 n).length:=by rw[cV];omega
theorem X3 (n:Nat)(b:Bool)(l:List Int):(bw n b l).1.length<=l.length:=by
 unfold bw;split
 · exact iX _
 rw[List.length_take];omega
theorem M4 (b:Bool)(l:List Int)(hw:BytesWf l):(iY b l).1.size<=l.length:=by
 have hc:=pF (bad:=b) hw;unfold iY;dsimp only;rw[FU];exact aF (X3 _ _ _) hc.2.2.2
theorem X4 (b:Bool)(l:List Int)(hw:BytesWf l):(fF b l).1.text.size<=l.length:=by
 have hk:=mr (n:=1) (bad:=b) hw;have dh:=(p4 b l hw).2;unfold fF;dsimp only;split
 ·
  dsimp only;split<;>exact iX _
 split
 ·
  dsimp only;split
  · exact iX _
  exact aF (M4 _ _ hk.2.1) dh
 exact iX _
def Fit (N:Nat) (xs:List Va):Prop:=xs.length<=N/\∀v∈xs,v.text.size<=N
theorem Fit.nil (N:Nat):Fit N []:=⟨iX _,λ _ h=>by cases h⟩
theorem X5 (N:Nat)(b:Bool)(l:List Int)(hw:BytesWf l)(hl:l.length<=N):Fit N (nd b l).1 :=
 ⟨aF (M3 VV FV b l hw) hl,X0 zq N _ (λ b l hw hl=>aF (X4 b l hw) hl) b l hw hl⟩
theorem X6 (N:Nat)(b:Bool)(l:List Int)(hw:BytesWf l)(hl:l.length<=N):(jW b l).1.text.size<=N/\Fit N (jW b l).1.args:=by
 have w1:=p4 b l hw;have w2:=vx (eI b l).2.1 _ w1.1;have w3:=eL (iY (eI b l).2.1 (eI b l).2.2).2.1 _ w2.1;have h1:=M4 (eI b l).2.1 _ w1.1;unfold jW;dsimp only;split
 · exact⟨iX _,Fit.nil N⟩
 exact⟨by dsimp only;omega,X5 N _ _ w3.1 (by omega)⟩
theorem X8 (b:Bool)(l:List Int)(hw:BytesWf l):(rJ b l).1.length<=l.length:=M3 X2 uj b l hw
theorem X9 (N:Nat)(b:Bool)(l:List Int)(hw:BytesWf l)(hl:l.length<=N):(fq b l).1.text.size<=N/\Fit N (fq b l).1.args/\(fq b l).1.vs.length<=N:=by
 have w1:=eL b l hw;have w2:=p4 (bc b l).2.1 _ w1.1;have w3:=eL (eI (bc b l).2.1 (bc b l).2.2).2.1 _ w2.1;have w4:=eL (bc (eI (bc b l).2.1 (bc b l).2.2).2.1 (eI (bc b l).2.1 (bc b l).2.2).2.2).2.1 _ w3.1;unfold fq;dsimp only;have w5:=xg (bc (bc (eI (bc b l).2.1 (bc b l).2.2).2.1 (eI (bc b l).2.1 (bc b l).2.2).2.2).2.1 (bc (eI (bc b l).2.1 (bc b l).2.2).2.1 (eI (bc b l).2.1 (bc b l).2.2).2.2).2.2).2.1 _ w4.1;have h5:=X6 N (bc (bc (eI (bc b l).2.1 (bc b l).2.2).2.1 (eI (bc b l).2.1 (bc b l).2.2).2.2).2.1 (bc (eI (bc b l).2.1 (bc b l).2.2).2.1 (eI (bc b l).2.1 (bc b l).2.2).2.2).2.2).2.1 _ w4.1 (by omega);have h6:=X8 (jW (bc (bc (eI (bc b l).2.1 (bc b l).2.2).2.1 (eI (bc b l).2.1 (bc b l).2.2).2.2).2.1 (bc (eI (bc b l).2.1 (bc b l).2.2).2.1 (eI (bc b l).2.1 (bc b l).2.2).2.2).2.2).2.1 (bc (bc (eI (bc b l).2.1 (bc b l).2.2).2.1 (eI (bc b l).2.1 (bc b l).2.2).2.2).2.1 (bc (eI (bc b l).2.1 (bc b l).2.2).2.1 (eI (bc b l).2.1 (bc b l).2.2).2.2).2.2).2.2).2.1 _ w5.1;split
 · exact⟨iX _,Fit.nil N,iX _⟩
 exact⟨h5.1,h5.2,by dsimp only;omega⟩
theorem Ya {xs:List Int}{P:lK}{bad:Bool}{left:List Int}(hw:BytesWf xs)(h:jW false xs=(P,bad,left))(hb:bad=false)(hl:left=[]):jT P.kind P.text P.num P.args=xs/\P.text.size+(dY P.args).length<=xs.length:=by
 have:=(LS false xs hw (by rw[h];exact hb)).2.1;rw[h]at this;dsimp only at this;rw[hl,List.append_nil]at this;refine⟨this.symm,?_⟩;have h2:=congrArg List.length this;rw[vC]at h2;omega
theorem M5 {P:Program}{md:Region.Mode}{ops:Array Oper}{Q:Exit->Act->World->Prop}(i j:Nat){oi oj:Oper}{fuel:Nat}{listed:Array Bool}{a:Act}{w:World}(hi:ops.toList[i]?=some oi)(hj:ops.toList[j]?=some oj)(hr:Region.ready md ops listed=[i,j])(hwi:Region.wanted oi (yielded ops a.tmps)=true)(GJ:Region.wanted oj (yielded ops a.tmps)=true)
  (h1:∀K':Act->World->Prop,Shut (∀a w,wpAnyH P md ops Q (λ _=>True) fuel (listed.setIfInBounds i true) a w->K' a w)->Oper.wp P oi a w K' Q)
  (h2:∀K':Act->World->Prop,Shut (∀a w,wpAnyH P md ops Q (λ _=>True) fuel (listed.setIfInBounds j true) a w->K' a w)->Oper.wp P oj a w K' Q):wpAnyH P md ops Q (λ _=>True) (fuel+1) listed a w :=
 wpAnyH_ready (rs:=[i,j]) hr (by simp) (AllReadyH.cons (by rw[<-Array.getElem?_toList];exact hi) (λ K hK=>by rw[if_pos hwi];exact h1 K (λ a w hW=>hK.out a w trivial (λ _=>hW)))
  (AllReadyH.cons (by rw[<-Array.getElem?_toList];exact hj) (λ K hK=>by rw[if_pos GJ];exact h2 K (λ a w hW=>hK.out a w trivial (λ _=>hW))) AllReadyH.nil))
theorem M6 {w:World}{B1 B2 E1 E2 s1 s2 n1 n2:Nat}{v1 v2:Value}{x1 x2:List Value}(h1:w.ownsRow B1 E1 s1 v1 n1 x1)(h2:w.ownsRow B2 E2 s2 v2 n2 x2)(hE:E1≠E2):v1.ownBlock=none∨v1.ownBlock≠v2.ownBlock:=by
 rcases h1.2 with ⟨rfl,_⟩|⟨g,c,cur,rfl,_,k1,_⟩
 · exact Or.inl rfl
 rcases h2.2 with ⟨rfl,_⟩|⟨g2,c2,aeH,rfl,_,k2,_⟩
 · exact Or.inr (by simp[Value.ownBlock])
 refine Or.inr λ e=>?_
 have e:g=g2:=by simpa[Value.ownBlock]using e
 subst e;rw[k1]at k2;injection k2 with k2
 injection k2 with _ k3
 exact hE k3
theorem Yb:(50:Nat)≠46:=by decide
theorem Yc:(3:Nat)≠46:=by decide
theorem gU.push {wp w w':World}{base B:Nat}{v v':Value}{es:List En}{e:En}(h:gU w base v es)(hp:∀f∈es,ja wp base f)(hB:wp.heap.size<=B)(hb:base<=B)(ho:ja w B e)
  (az:w'.ownsRow base 46 9 v' (es.length+1) (es.flatMap bW++bW e)) (hg:w.grownBy w' v.ownBlock):gU w' base v' (es++[e]):=by
 have ky:∀f∈es++[e],ja w base f:=λ f hf=>by
  rcases List.mem_append.1 hf with hf|hf
  · exact h.own f hf
  rw[List.mem_singleton.1 hf];exact ho.le hb
 refine⟨?_,λ f hf=>?_,?_⟩
 ·
  rw[List.length_append,List.flatMap_append];simpa using az
 ·
  have hf2:=ky f hf;exact⟨hf2.1.kept hg (M6 hf2.1 h.row Yb),hf2.2.kept hg (M6 hf2.2 h.row Yc)⟩
 rw[List.pairwise_append];refine⟨h.sep,BR _ _,λ f hf g ax=>?_⟩;rw[List.mem_singleton.1 ax];have hf2:=hp f hf;constructor
 ·
  cases hq:(mt f).ownBlock with
  | none=>exact Or.inl rfl
  | some q =>
   refine Or.inr λ e2=>?_
   have h1:=(jb hf2.1 q hq).2;have h2:=(jb ho.1 q e2.symm).1;omega
 cases hq:(jn f).ownBlock with
 | none=>exact Or.inl rfl
 | some q =>
  refine Or.inr λ e2=>?_
  have h1:=(jb hf2.2 q hq).2;have h2:=(jb ho.2 q e2.symm).1;omega
theorem Yd:∀(n:Nat) (b:Bool) (l:List Int),∀v∈(dZ bc n b l).1,bH v:=by
 intro n;induction n with
 | zero=>intro b l v hv;cases hv
 | succ n ih =>
  intro b l v hv;unfold dZ at hv;split at hv
  · cases hv
  rcases List.mem_cons.1 hv with rfl|hv
  · exact ms _
  exact ih _ _ v hv
theorem Ye {b:Bool}{l:List Int}(hw:BytesWf l)(h:(fq b l).2.1=false):bH (fq b l).1.term/\(∀v∈(fq b l).1.args,Bare v/\zu v)/\(∀v∈(fq b l).1.vs,bH v):=by
 have hth:=Bo b l hw h
 have vB:BytesWf (df (fq b l).1):=by
  have:=hth.2.1;rw[this]at hw;exact(uk hw).1
 obtain⟨t,ht⟩:∃t,bc b l=t:=⟨_,rfl⟩;obtain⟨k,hk⟩:∃k,eI t.2.1 t.2.2=k:=⟨_,rfl⟩;obtain⟨s,hs⟩:∃s,bc k.2.1 k.2.2=s:=⟨_,rfl⟩;obtain⟨q,hq⟩:∃q,bc s.2.1 s.2.2=q:=⟨_,rfl⟩;obtain⟨c,hc⟩:∃c,jW q.2.1 q.2.2=c:=⟨_,rfl⟩;obtain⟨v,hv⟩:∃v,rJ c.2.1 c.2.2=v:=⟨_,rfl⟩;have he:fq b l=(if v.2.1=true then⟨0,0,0,0,0,ByteArray.empty,[],0,[]⟩else⟨t.1,k.1,s.1,q.1,c.1.kind,c.1.text,c.1.args,c.1.num,v.1⟩,v.2):=by subst hv hc hq hs hk ht;rfl
 have w1:=eL b l hw;rw[ht]at w1;have w2:=p4 t.2.1 _ w1.1;rw[hk]at w2;have w3:=eL k.2.1 _ w2.1;rw[hs]at w3;have w4:=eL s.2.1 _ w3.1;rw[hq]at w4;have w5:=xg q.2.1 _ w4.1;rw[hc]at w5;rw[he]at h ⊢;dsimp only at h ⊢
 have hcb:c.2.1=false:=by
  have:=FY c.2.1 _ w5.1 (by rw[hv];exact h);exact this.1
 rw[h,if_neg (by simp)];obtain⟨k',hk'⟩:∃k',eI q.2.1 q.2.2=k':=⟨_,rfl⟩;obtain⟨t',ht'⟩:∃t',iY k'.2.1 k'.2.2=t':=⟨_,rfl⟩;obtain⟨n',hn'⟩:∃n',bc t'.2.1 t'.2.2=n':=⟨_,rfl⟩;obtain⟨v',hv'⟩:∃v',nd n'.2.1 n'.2.2=v':=⟨_,rfl⟩;have he':c=(if v'.2.1=true then⟨0,ByteArray.empty,[],0⟩else⟨k'.1,t'.1,v'.1,n'.1⟩,v'.2):=by subst hv' hn' ht' hk' hc;rfl
 have k1:=p4 q.2.1 _ w4.1;rw[hk']at k1;have k2:=vx k'.2.1 _ k1.1;rw[ht']at k2;have k3:=eL t'.2.1 _ k2.1;rw[hn']at k3;rw[he']at hcb ⊢;dsimp only at hcb ⊢;have c3:n'.2.1=false:=(FX n'.2.1 _ k3.1 (by rw[hv'];exact hcb)).1;have c2:t'.2.1=false:=(uj t'.2.1 _ k2.1 (by rw[hn'];exact c3)).1;rw[hcb,if_neg (by simp)];have e0:bH t.1:=by rw[<-ht];exact ms _
 have e5:∀x∈v'.1,Bare x/\zu x:=by
  have h1:(nd n'.2.1 n'.2.2).2.1=false:=by rw[hv'];exact hcb
  have bN:=pF (bad:=n'.2.1) k3.1;have key:=LU (di n'.2.1 n'.2.2).1.toNat (di n'.2.1 n'.2.2).2.1 _ bN.2.2.1 h1
  have h6:(nd n'.2.1 n'.2.2).1=(dZ fF (di n'.2.1 n'.2.2).1.toNat (di n'.2.1 n'.2.2).2.1 (di n'.2.1 n'.2.2).2.2).1:=by
   show (if _ then _ else _)=_;rw[show (dZ fF (di n'.2.1 n'.2.2).1.toNat (di n'.2.1 n'.2.2).2.1 (di n'.2.1 n'.2.2).2.2).2.1=false from h1,if_neg (by simp)]
  rw[<-hv',h6];exact key
 have e6:∀x∈v.1,bH x:=by
  rw[<-hv];unfold rJ kk;dsimp only;split
  · intro x hx;cases hx
  exact Yd _ _ _
 exact⟨e0,e5,e6⟩
theorem M7 {l:List Int}{f:En}(hw:BytesWf l)(h:(fq false l).2.1=false)(hl:l.length<=1048576)(hp:f.plain=(fq false l).1)(ha:f.fQ=none->f.fw=0)(hv:f.hU=none->f.ce=0)(dg:f.args.length<=f.fw)(gA:f.vs.length<=f.ce):gV f:=by
 have h1:=F5 hw h;have h2:=Ye hw h;have h3:=Bo false l hw h;have h4:=X9 1048576 false l hw hl
 have vB:BytesWf (df (fq false l).1):=by
  have:=h3.2.1;rw[this]at hw;exact(uk hw).1
 have my:(df (fq false l).1).length<=1048576:=by
  have:=congrArg List.length h3.2.1;rw[List.length_append]at this;omega
 rw[<-hp]at h1 h2 h4 vB my;rw[Gv]at my;have hk:0<=f.plain.kind/\f.plain.kind<256:=vB _ (by simp[df]);have hc:0<=f.plain.ck/\f.plain.ck<256:=vB _ (by simp[df,jT]);obtain⟨g1,g2,g3⟩:=h2;obtain⟨k1,k2,k3⟩:=h4
 have vf:(dY f.args).length<=1048576:=by
  have:(dY f.plain.args).length<=1048576:=by omega
  exact this
 have ie:f.vs.length<=1048576:=k3;have hargs:f.args.length<=1048576:=k2.1;have htext:f.text.size<=1048576:=k1;refine⟨⟨ni g1,zA hk,ni h1.session,ni h1.seq,zA hc,by omega,λ v hv=>?_,ni h1.num,λ v hv=>ni (g3 v hv),by omega,by omega,ha,hv,dg,gA⟩,by omega,by omega,by omega,λ v hv=>?_,by omega⟩
 ·
  have hb:=g2 v hv;refine⟨?_,ni hb.2.1,by(have:=hb.2.2;have e:reachBytes=140737488351232:=(by decide);omega)⟩;rcases hb.1 with ⟨e,_⟩|⟨e,_⟩
  · exact zA (by omega)
  exact zA (by omega)
 have hb:=g2 v hv;have:=hb.2.2;omega
theorem gU.only {w w':World}{rr base:Nat}{v:Value}{es:List En}(h:gU w base v es)(ho:Only rr w w')(hr:rr<base):gU w' base v es :=
 ⟨rK h.row ho hr,λ e he=>⟨rK (h.own e he).1 ho hr,rK (h.own e he).2 ho hr⟩,h.sep⟩
theorem gU.Yf {w0 w w':World}{rr base:Nat}{v:Value}{es:List En}(h:gU w base v es)(ho:Only rr w w')(hr:w0.heap.size<=rr)(h0:gU w0 base v es):gU w' base v es:=by
 have far:∀ {B E s n:Nat} {u:Value} {xs:List Value},w0.ownsRow B E s u n xs->u.ownBlock≠some rr:=λ de e=>by
  have:=(jb de rr e).2;omega
 exact⟨xh h.row ho (far h0.row),λ e he=>⟨xh (h.own e he).1 ho (far (h0.own e he).1),xh (h.own e he).2 ho (far (h0.own e he).2)⟩,h.sep⟩
theorem Yg (ao:Option Addr)(n cap:Nat)(xs:List Int)(w:World)(B:Nat)(hn:xs.length=n)(hx:BytesIn w B ao xs)(hB:B<=w.heap.size)(bm:ao=none->cap=0)(hl:n<=140737488351232) :
  Calls prog 70 #[.slice ao n cap] w λ e w'=>∃rb a c,e=.returned (.pointer (some ⟨rb,0,none⟩))/\w.heap.size<=rb/\vq w' rb rb false xs a c/\(∀ad,a=some ad->w.heap.size<=ad.block)/\Below w.heap.size w w':=by
 subst hn;have HX:=Hd hx;have HA:=Hd bm;clear hx bm;go_enter func70,ntmps70
 go_wp2_with fail
 refine(DP ao cap xs w B HX.out hB HA.out hl).mono ?_;rintro e w1 ⟨v,rfl,ho,hb⟩;obtain⟨a,c,hv⟩:=jz ho;subst hv;have HO:=Hd ho;clear ho;go_wp2_with fail
 go_ret;have hA:Below w1.heap.size w1 (w1.alloc (.cells #[.bool true,.bool false,.slice a xs.length c] 195)):=(aj _ _).alloc (aa _) _;refine⟨w1.heap.size,a,c,rfl,hb.size,⟨heap_alloc_new w1 _,?_,mp HO.out,iW HO.out,by simp⟩,?_,hb.alloc hb.size _⟩
 ·
  rcases(vm HO.out)with h|⟨b,off,h1,h2,h3⟩
  · exact Or.inl h
  refine Or.inr ⟨b,off,h1,h2,by omega,λ i hi=>?_⟩;rw[hA.cell (p:=⟨b,_,none⟩) h2];exact h3 i hi
 intro ad e;subst e;exact(HO.out.lt ad.block rfl).1
theorem Yh {w:World}{lo rb q i:Nat}{left:List Int}{a:Option Addr}{c:Nat}(h:vq w rb rb false left a c)(hf:∀ad,a=some ad->lo<=ad.block)(hq:q<lo)(hr:rb≠q)(v:Value):Rdr (w.setCell ⟨q,i,none⟩ v) rb rb false left:=by
 refine⟨a,c,(heap_setCell_other _ _ _ _ hr).trans h.blk,?_,h.cap,h.nil,by simpa using h.le⟩;rcases h.off with h0|⟨b,off,h1,h2,h4,h3⟩
 · exact Or.inl h0
 have:=hf _ h1;exact Or.inr ⟨b,off,h1,h2,h4,λ j hj=>(wZ (heap_setCell_other _ _ _ _ (show b≠q by simp only at this;omega))).trans (h3 j hj)⟩
end Go.Proofs.YtepdklfkegkojaaGreatDoor
