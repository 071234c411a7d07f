/- Parts of one proof. Conditions: as each says. -/
import Derived.Test.YtepdklfkegkojaaGreatDoorGLetterNumbers0
import Derived.StillTailTactics
set_option linter.all false
set_option maxHeartbeats 16000000
set_option maxRecDepth 100000
namespace Go.Proofs.YtepdklfkegkojaaGreatDoor
open Go.Proofs.Tryz
open Go.RowKit
def na (w:World) (B b:Nat) (bs:List Int):Prop:=LibA.IsBuffer 79 (λ _=>none) 5 B b 0 (bs.map bv) w
def Wrote (B b:Nat) (bs:List Int) (w w':World):Prop:=na w' B b bs/\Below B w w'/\Lib.OthersKept 5 (some b) w w'
theorem Wrote.trans {B b:Nat}{bs cs:List Int}{w w' w'':World}(h:Wrote B b bs w w')(h2:Wrote B b cs w' w''):Wrote B b cs w w'':=⟨h2.1,h.2.1.trans h2.2.1,h.2.2.trans h2.2.2⟩
theorem Wrote.drew {B b:Nat}{bs:List Int}{w w':World}(h:Wrote B b bs w w'):Wrote B b bs w w'.drew:=⟨h.1,h.2.1.drew,h.2.2⟩
theorem DO (B b:Nat)(bs:List Int)(c:Int)(w:World)(h:na w B b bs)(gK:B<=w.heap.size)(fV:bs.length+1<=140737488355328) :
  Calls prog 46 #[.pointer (some ⟨b,0,none⟩),.int .u8 c] w λ e w'=>e=.returned .nilIface/\Wrote B b (bs++[c]) w w':=by
 refine(Tryz.Buffer_WriteByte_at _ _ B b 0 _ c w h gK (r7 _) (by simpa using fV)).mono ?_;rintro e w' ⟨h1,h2,h3,h4⟩;exact⟨h1,by unfold na;rw[List.map_append];exact h2,h3,h4⟩
theorem V1 (s:ByteArray):Lib.byteCells s.data.toList=(lJ s).map bv:=by
 simp[Lib.byteCells,lJ,bv]
theorem V3 (B b:Nat)(bs:List Int)(s:ByteArray)(w:World)(h:na w B b bs)(gK:B<=w.heap.size)(fV:bs.length+s.size<=140737488355328) :
  Calls prog 145 #[.pointer (some ⟨b,0,none⟩),.string s] w λ e w'=>e=.returned (.tuple #[.int .i64 s.size,.nilIface])/\Wrote B b (bs++lJ s) w w':=by
 refine(Tryz.Buffer_WriteString_at _ _ B b 0 _ s w h gK (r7 _) (by simpa using fV)).mono ?_;rintro e w' ⟨h1,h2,h3,h4⟩;exact⟨h1,by unfold na;rw[List.map_append,<-V1];exact h2,h3,h4⟩
theorem Fx (size:Nat)(xs:List Int):(xs.flatMap (au size)).length=xs.length*size:=by
 induction xs with
 | nil=>simp
 | cons x xs ih=>rw[List.flatMap_cons,List.length_append,ih,cV,List.length_cons,Nat.add_mul];omega
theorem Lb (B b rb m c size:Nat)(bs xs:List Int)(w:World)(bP:size<=8)(dz:1<=size)(ny:rb≠b)(hm:xs.length=m)(de:w.heap[rb]?=some (.cells (xs.map λ x=>.int .i64 x).toArray 2 (0,0)))(h:na w B b bs)(gK:B<=w.heap.size)(hml:m<=1000)(fV:bs.length+9000<=140737488355328) :
  Calls prog 45 #[.pointer (some ⟨b,0,none⟩),.int .i64 size,.slice (some ⟨rb,0,none⟩) m c] w λ e w'=>e=.returned (.tuple #[])/\Wrote B b (bs++xs.flatMap (au size)) w w':=by
 have HM:=Hd hm;have HR:=Hd de;have HB:=Hd h;clear hm de h;have dj:some rb≠some b:=by simpa using ny
 go_enter func45,ntmps45
 go_wp2_with fail
 go_loopw [11] (λ i wr=>∃k:Nat,k<=m/\i=.int .i64 k/\Wrote B b (bs++(xs.take k).flatMap (au size)) w wr) (λ i _=>m-(intOf i).toNat)
 exact⟨0,by omega,rfl,by simpa using HB.out,aj _ _,Lib.OthersKept.refl _ _ _⟩
 obtain⟨k,hk,rfl,hw⟩:=hrel;have HW:=Hd hw;clear hw;by_cases ae:k<m
 ·
  have aQ:xs[k]?=some (xs[k]'(by rw[HM.out];exact ae)):=bu _
  have bJ:(xs.take (k+1)).flatMap (au size)=(xs.take k).flatMap (au size)++au size (xs[k]'(by rw[HM.out];exact ae)):=by
   rw[iJ (by rw[HM.out];exact ae),List.flatMap_append];simp
  have iF:((xs.take k).flatMap (au size)).length<=k*8:=by
   rw[Fx,List.length_take];exact Nat.mul_le_mul (Nat.min_le_left _ _) bP
  generalize (xs[k]'(by rw[HM.out];exact ae))=x at aQ bJ;have hrw:=HW.out.2.2 rb _ HR.out dj (by intro c fz hh;injection hh with _ h2 _;revert h2;decide)
  have c0:wr.cell? ⟨rb,k,none⟩=some (.int .i64 x):=by
   rw[ab hrw k,List.getElem?_toArray,List.getElem?_map,aQ];rfl
  have HT:=Hd bJ;have i1:(k:Int)<m:=by omega
  clear aQ bJ hrw;go_wp2_with fail
  obtain⟨wo,rfl⟩:∃wo:World,wo=wr:=⟨_,rfl⟩;have w0:IntKind.i64.wrap ((size:Int)-1)=(size:Int)-1:=jU _ (by omega);go_loopw [8] (λ i wi=>∃q:Nat,q<=size/\i=.int .i64 ((size:Int)-1-q)/\Wrote B b (bs++(xs.take k).flatMap (au size)++(au size x).take q) w wi) (λ i _=>(intOf i+1).toNat)
  exact⟨0,by omega,by simp,by simpa using HW.out⟩
  obtain⟨q,hq,rfl,hw2⟩:=hrel;have ql:=Hd hw2;clear hw2 c0;by_cases eA:q<size
  ·
   obtain⟨p,hp⟩:∃p:Nat,p=size-1-q:=⟨_,rfl⟩;have m0:(size:Int)-1-q=p:=by omega
   have hnt:=Fv size x q eA;rw[<-hp]at hnt;have Fy:=Hd hnt;have V4:p<=7:=by omega
   have w3:IntKind.i64.wrap (8*(p:Int))=8*p:=jU _ (by omega);have n3:((8:Int)*p).toNat=8*p:=by omega
   have g3:(0:Int)<=8*p:=by omega
   have rH:=Hd m0;have jO:((au size x).take q).length<=8:=by rw[List.length_take,cV];omega
   rw[m0];clear hnt hp m0;go_wp2_with fail
   go_still_tail 8,(by kernel_rfl)
   change wpList _ _ _ _ _ wr.drew;have gZ:Wrote B b (bs++(xs.take k).flatMap (au size)++(au size x).take q) w wr.drew:=ql.out.drew;generalize wr.drew=w6 at gZ ⊢;have mj:=Hd gZ;clear gZ;go_wp2_with fail
   refine(DO B b _ (x / 2 ^ (8*p) % 256) w6 mj.out.1 (aF gK mj.out.2.1.size) (by simp only[List.length_append];omega)).mono ?_;rintro e w7 ⟨rfl,hw7⟩;have hw8:=mj.out.trans hw7;rw[List.append_assoc,<-Fy.out]at hw8;have V5:=Hd hw8;clear hw7 hw8;go_wp2_with fail
   go_roundw
   exact⟨q+1,by omega,by have:=rH.out;congr 1;push_cast;omega,V5.out⟩
   first|(simp[intOf];done)|(have:=rH.out;simp[intOf];omega)
  have hqe:q=size:=by omega
  have iV:=ql.out;rw[hqe,fE (l:=au size x) (by rw[cV];exact aa _),List.append_assoc,<-HT.out]at iV;have rI:=Hd iV;have g5:(size:Int)-1-q<0:=by omega
  clear iV hqe;go_wp2_with fail
  go_roundw
  exact⟨k+1,by omega,by go_num,rI.out⟩
  simp[intOf];omega
 obtain rfl:k=m:=by omega
 have iV:=HW.out;rw[fE (by rw[HM.out];exact aa _)]at iV;have rI:=Hd iV;clear iV;go_wp2_with fail
 go_end0;exact⟨rfl,rI.out⟩
theorem Wrote.start {B b:Nat}{bs:List Int}{w:World}(h:na w B b bs):Wrote B b bs w w:=⟨h,aj _ _,Lib.OthersKept.refl _ _ _⟩
theorem Wrote.alloc {B b:Nat}{bs:List Int}{w w':World}(h:Wrote B b bs w w')(hB:B<=w.heap.size)(o:Obj):Wrote B b bs w (w'.alloc o):=⟨LibA.IsBuffer.alloc h.1 o,h.2.1.alloc (aF hB h.2.1.size) o,h.2.2.alloc o⟩
theorem na.lt {w:World}{B b:Nat}{bs:List Int}(h:na w B b bs):b<w.heap.size:=LibA.IsBuffer.lt h
theorem zh (B b size g:Nat)(bs:List Int)(n:Int)(w:World)(hg:w.heap.size=g)(bP:size<=8)(dz:1<=size)(h:na w B b bs)(gK:B<=w.heap.size)(fV:bs.length+9000<=140737488355328) :
  Calls prog 45 #[.pointer (some ⟨b,0,none⟩),.int .i64 size,.slice (some ⟨g,0,none⟩) 1 1] (w.alloc (.cells #[.int .i64 n] 2)) λ e w'=>e=.returned (.tuple #[])/\Wrote B b (bs++au size n) w w':=by
 subst hg;have h1:=(Wrote.start h).alloc gK (.cells #[.int .i64 n] 2);refine(Lb B b w.heap.size 1 1 size bs [n] _ bP dz (by have:=h.lt;omega) rfl (heap_alloc_new w _) h1.1 (by simp;omega) (by omega) fV).mono ?_;rintro e w' ⟨he,hw⟩;refine⟨he,?_⟩;have:=h1.trans hw;simpa using this
theorem V8 (B b size g:Nat)(bs:List Int)(n m:Int)(w:World)(hg:w.heap.size=g)(bP:size<=8)(dz:1<=size)(h:na w B b bs)(gK:B<=w.heap.size)(fV:bs.length+9000<=140737488355328) :
  Calls prog 45 #[.pointer (some ⟨b,0,none⟩),.int .i64 size,.slice (some ⟨g,0,none⟩) 2 2] (w.alloc (.cells #[.int .i64 n,.int .i64 m] 2)) λ e w'=>e=.returned (.tuple #[])/\Wrote B b (bs++(au size n++au size m)) w w':=by
 subst hg;have h1:=(Wrote.start h).alloc gK (.cells #[.int .i64 n,.int .i64 m] 2);refine(Lb B b w.heap.size 2 2 size bs [n,m] _ bP dz (by have:=h.lt;omega) rfl (heap_alloc_new w _) h1.1 (by simp;omega) (by omega) fV).mono ?_;rintro e w' ⟨he,hw⟩;refine⟨he,?_⟩;have:=h1.trans hw;simpa using this
theorem Fz (B b:Nat)(bs:List Int)(n:Int)(w:World)(h:na w B b bs)(gK:B<=w.heap.size)(fV:bs.length+9000<=140737488355328) :
  Calls prog 48 #[.pointer (some ⟨b,0,none⟩),.int .i64 n] w λ e w'=>e=.returned (.tuple #[])/\Wrote B b (bs++au 4 n) w w':=by
 have H:=Hd h;clear h;go_enter func48,ntmps48
 go_wp2_with fail
 refine(zh B b 4 _ bs n w rfl (by omega) (by omega) H.out gK fV).mono ?_;rintro e w1 ⟨rfl,hw⟩;have HW:=Hd hw;clear hw;go_wp2_with fail
 go_end0;exact⟨rfl,HW.out⟩
theorem Lc (B b:Nat)(bs:List Int)(s:ByteArray)(w:World)(h:na w B b bs)(gK:B<=w.heap.size)(fV:bs.length+s.size+9000<=140737488355328) :
  Calls prog 85 #[.pointer (some ⟨b,0,none⟩),.string s] w λ e w'=>e=.returned (.tuple #[])/\Wrote B b (bs++m9 s) w w':=by
 have H:=Hd h;clear h;go_enter func85,ntmps85
 go_wp2_with fail
 refine(Fz B b bs s.size w H.out gK (by omega)).mono ?_;rintro e w1 ⟨rfl,hw⟩;have HW:=Hd hw;clear hw;go_wp2_with fail
 refine(V3 B b _ s w1 HW.out.1 (aF gK HW.out.2.1.size) (by rw[List.length_append,cV];omega)).mono ?_;rintro e w2 ⟨rfl,hw2⟩;have lR:=HW.out.trans hw2;rw[List.append_assoc]at lR;have HW3:=Hd lR;clear hw2 lR;go_wp2_with fail
 go_end0;exact⟨rfl,HW3.out⟩
theorem V9 (B b:Nat)(bs:List Int)(v:Va)(w:World)(h:na w B b bs)(gK:B<=w.heap.size)(fV:bs.length+v.text.size+9100<=140737488355328) :
  Calls prog 146 #[.pointer (some ⟨b,0,none⟩),.agg #[.int .u8 v.kind,.int .i64 v.num,.string v.text]] w λ e w'=>e=.returned (.tuple #[])/\Wrote B b (bs++fp v) w w':=by
 obtain⟨kd,num,text⟩:=v;dsimp only at fV;have h1:=(Wrote.start h).alloc gK (.cells #[.int .u8 kd,.int .i64 num,.string text] 50);have eY:=heap_alloc_new w (.cells #[.int .u8 kd,.int .i64 num,.string text] 50);have gL:=h.lt;have pq:(w.alloc (.cells #[.int .u8 kd,.int .i64 num,.string text] 50)).heap.size=w.heap.size+1:=by simp
 have H1:=Hd h1;have Bg:=Hd eY;have cH:=Hd pq;clear h h1 eY pq;dsimp only;go_enter func146,ntmps146
 go_wp2_with fail
 have h1:=H1.out;have hd:=Bg.out;generalize (w.alloc (.cells #[.int .u8 kd,.int .i64 num,.string text] 50))=w0 at h1 hd ⊢;have d0:w0.cell? ⟨w.heap.size,0,none⟩=some (.int .u8 kd):=ab hd 0;have r8:=Hd h1.drew;have HD:=Hd (show w0.drew.heap[w.heap.size]?=some (.cells #[.int .u8 kd,.int .i64 num,.string text] 50 (0,0))from hd);clear h1 hd H1 Bg cH;go_still_tail 5,(by kernel_rfl)
 change wpList _ _ _ _ _ w0.drew;generalize w0.drew=w1 at r8 HD ⊢;clear d0;go_wp2_with fail
 refine(DO B b bs kd w1 r8.out.1 (aF gK r8.out.2.1.size) (by omega)).mono ?_;rintro e w2 ⟨rfl,hw2⟩;have hty:∀c fz,Obj.cells #[.int .u8 kd,.int .i64 num,.string text] 50 (0,0)≠.cells c 5 fz:=by intro c fz h;injection h with _ h2 _;revert h2;decide
 have hblk2:=hw2.2.2 w.heap.size _ HD.out (by simp;omega) hty;have d0:w2.cell? ⟨w.heap.size,0,none⟩=some (.int .u8 kd):=ab hblk2 0;have d1:w2.cell? ⟨w.heap.size,1,none⟩=some (.int .i64 num):=ab hblk2 1;have d2:w2.cell? ⟨w.heap.size,2,none⟩=some (.string text):=ab hblk2 2;have H2:=Hd (r8.out.trans hw2);clear hw2 hblk2 r8 HD hty;by_cases dH:kd=1
 ·
  subst dH;go_wp2_with fail
  refine(zh B b 8 _ _ num w2 rfl (by omega) (by omega) H2.out.1 (aF gK H2.out.2.1.size) (by simp;omega)).mono ?_;rintro e w3 ⟨rfl,lR⟩;have gZ:=H2.out.trans lR;rw[List.append_assoc]at gZ;have H4:=Hd gZ;clear lR gZ;go_wp2_with fail
  go_end0;exact⟨rfl,H4.out⟩
 have n1:(kd==1)=false:=by simpa using dH
 have n2:decide (kd=1)=false:=by simpa using dH
 by_cases dh:kd=2
 ·
  subst dh;go_wp2_with fail
  refine(Lc B b _ text w2 H2.out.1 (aF gK H2.out.2.1.size) (by simp;omega)).mono ?_;rintro e w3 ⟨rfl,lR⟩;have gZ:=H2.out.trans lR;rw[List.append_assoc]at gZ;have H4:=Hd gZ;clear lR gZ;go_wp2_with fail
  go_end0;exact⟨rfl,H4.out⟩
 have n3:(kd==2)=false:=by simpa using dh
 have n4:decide (kd=2)=false:=by simpa using dh
 have hv:fp ⟨kd,num,text⟩=[kd]:=by unfold fp;dsimp only;rw[if_neg dH,if_neg dh]
 have HV:=Hd hv;clear hv;go_wp2_with fail
 go_end0;exact⟨rfl,by rw[HV.out];exact H2.out⟩
theorem iW {w:World}{base e size n m cap:Nat}{ao:Option Addr}{xs:List Value}(h:w.ownsRow base e size (.slice ao m cap) n xs):ao=none->cap=0:=by
 rintro rfl;rcases h.2 with ⟨h',_⟩|⟨g,cap',cur,h',_⟩
 · cases h';rfl
 cases h'
theorem own_below {w w':World}{base e size n B:Nat}{v:Value}{xs:List Value}(h:w.ownsRow base e size v n xs)(hb:Below B w w')(hB:w.heap.size<=B):w'.ownsRow base e size v n xs:=by
 refine⟨h.1,?_⟩;rcases h.2 with hn|⟨g,cap,cur,hv,h1,h2,h3⟩
 · exact Or.inl hn
 have hg:=(Array.getElem?_eq_some_iff.1 h2).1;exact Or.inr ⟨g,cap,cur,hv,h1,by rw[hb.block g (by omega)];exact h2,h3⟩
theorem cp {w:World}{b1 e1 s1 n1 b2 e2 s2 n2:Nat}{v1 v2:Value}{xs1 xs2:List Value}(h1:w.ownsRow b1 e1 s1 v1 n1 xs1)(h2:w.ownsRow b2 e2 s2 v2 n2 xs2)(he:e1≠e2):v1.ownBlock=none∨v1.ownBlock≠v2.ownBlock:=by
 rcases h1.2 with ⟨rfl,_⟩|⟨g,cap,cur,rfl,_,g1,_⟩
 · exact Or.inl rfl
 right
 rcases h2.2 with ⟨rfl,_⟩|⟨g',cap',cur',rfl,_,g2,_⟩
 · simp[Value.ownBlock]
 intro hh;simp[Value.ownBlock]at hh;subst hh;rw[g1]at g2;simp only[Option.some.injEq,Obj.cells.injEq]at g2;exact he g2.2.1
theorem mp {w:World}{base e size n m cap:Nat}{ao:Option Addr}{xs:List Value}(h:w.ownsRow base e size (.slice ao m cap) n xs):m<=cap:=by
 rcases h.2 with ⟨h',_⟩|⟨g,cap',cur,h',_,_,h3,_⟩
 · injection h' with _ h1 _;omega
 injection h' with _ h1 h2;subst h1 h2;exact h3
def Ld (xs:List Int) (w:World) (e:Ending) (w':World):Prop :=
 ∃v,e=.returned v/\w'.ownsRow w.heap.size 5 1 v xs.length (xs.map bv)/\Below w.heap.size w w'
theorem DP (ao:Option Addr)(cap:Nat)(xs:List Int)(w:World)(B:Nat)(hx:BytesIn w B ao xs)(hB:B<=w.heap.size)(bm:ao=none->cap=0)(hl:xs.length<=140737488351232) :
  Calls prog 75 #[.slice ao xs.length cap] w (Ld xs w):=by
 cases ao with
 | none =>
  have kv:xs=[]:=by
   rcases hx with h|⟨b,off,h1,_⟩
   · exact h
   cases h1
  subst kv;obtain rfl:=bm rfl;have he:∀w,(binOp .eql 25 (.slice none 0 0) (.slice none 0 0)).run prog w=.ok (.bool true) w:=λ _=>by kernel_rfl
  go_enter func75,ntmps75
  go_wp2_with fail
  go_ret;exact⟨_,rfl,iK _ _ _ _,aj _ _⟩
 | some ad =>
  have he:∀w,(binOp .eql 25 (.slice (some ad) xs.length cap) (.slice none 0 0)).run prog w=.ok (.bool false) w:=λ _=>by kernel_rfl
  go_enter func75,ntmps75
  go_wp2_with (at_builtin;refine Fu rfl (.tmp 5) (.tmp 6) rfl w.heap.size _ [] rfl (oH w #[] 0 (aa _) (by unfold maxLen;omega) rfl) (some ad) cap xs rfl B (hx.below ((aj B w).alloc hB _) (aa _)) (by simp) (by simp;omega) (by simp) ?_)
  intro v' w' az hg;have hb:=((aj w.heap.size w).alloc (aa _) (.cells #[] 5)).grown hg (by simp) (λ k hk=>by cases hk;exact aa _);clear hg he;go_wp2_with fail
  go_ret;exact⟨_,rfl,by simpa using az,hb⟩
theorem Wa (B b:Nat)(bs:List Int)(w:World)(h:na w B b bs) :
  Calls prog 87 #[.pointer (some ⟨b,0,none⟩)] w λ e w'=>∃v,e=.returned v/\w'.ownsRow B 5 1 v bs.length (bs.map bv)/\Below w.heap.size w w':=by
 obtain⟨hBb,v,lr,h3,az,hvb⟩:=h;rw[List.length_map]at az;have HO:=Hd az
 have hfm:∃g c,v=.slice g bs.length c/\bs.length<=c/\(g=none->c=0):=by
  rcases az.2 with ⟨rfl,h⟩|⟨g,cap,cur,rfl,_,_,h1,h2,_⟩
  · exact⟨none,0,by rw[h],by omega,λ _=>rfl⟩
  exact⟨some ⟨g,0,none⟩,cap,rfl,h1,by simp⟩
 obtain⟨g,c,rfl,hlc,hg⟩:=hfm;have c0:=h3.c0;have c1:=h3.c1;clear h3 az;go_enter func87,ntmps87
 go_wp2_with fail
 go_quiet (fail)
 go_wp2_with fail
 go_ret;exact⟨_,rfl,HO.out,below_drewN (aj _ _) _⟩
theorem vm {w:World}{base c:Nat}{a:Option Addr}{l:List Int}(h:w.ownsRow base 5 1 (.slice a l.length c) l.length (l.map bv)):BytesIn w w.heap.size a l:=by
 obtain⟨ao,cap,hv,gq⟩:=DJ h;cases hv
 exact gq
def zi (bs:List Int) (B:Nat) (w:World) (e:Ending) (w':World):Prop :=
 ∃a c,e=.returned (.slice a bs.length c)/\w'.ownsRow B 5 1 (.slice a bs.length c) bs.length (bs.map bv)/\Below B w w'
theorem FA (B b:Nat)(bs:List Int)(w:World)(h:na w B b bs)(gK:B<=w.heap.size)(hl:bs.length<=140737488351232) :
  Calls prog 49 #[.pointer (some ⟨b,0,none⟩)] w (zi bs w.heap.size w):=by
 have H:=Hd h;clear h;go_enter func49,ntmps49
 go_wp2_with fail
 refine(Wa B b bs w H.out).mono ?_;rintro e w1 ⟨v,rfl,ho,hb⟩;obtain⟨a,c,hv⟩:=jz ho;subst hv;have HO:=Hd ho;clear ho;go_wp2_with fail
 refine(DP a c bs w1 w1.heap.size (vm HO.out) (aa _) (iW HO.out) hl).mono ?_;rintro e w2 ⟨v2,rfl,ho2,am⟩;obtain⟨a2,c2,kw⟩:=jz ho2;subst kw;have jA:=Hd (fh ho2 hb.size);have ap:=hb.trans (am.mono hb.size);clear ho2 hb am;go_wp2_with fail
 go_ret;exact⟨a2,c2,rfl,jA.out,ap⟩
theorem FB (w:World):na (w.alloc (.cells #[.slice none 0 0,.int .i64 0,.int .i8 0] 79)) w.heap.size w.heap.size [] :=
 LibA.zero_isBuffer (aa _) (lr:=0) ⟨_,heap_alloc_new w _,rfl,rfl,rfl,λ i hi=>by rcases hi with hi|hi;omega;exact Array.getElem?_eq_none (by simpa using hi)⟩
theorem Wb (n:Int)(w:World) :
  Calls prog 44 #[.int .i64 n] w (zi (au 8 n) w.heap.size w):=by
 have H:=Hd (FB w);have hb:=(aj w.heap.size w).alloc (aa _) (.cells #[.slice none 0 0,.int .i64 0,.int .i8 0] 79);have HB:=Hd hb;clear hb;go_enter func44,ntmps44
 go_wp2_with fail
 refine(zh w.heap.size w.heap.size 8 (w.heap.size+1) [] n _ (by simp) (by omega) (by omega) H.out (by simp) (by simp)).mono ?_;rintro e w1 ⟨rfl,hw⟩;rw[List.nil_append]at hw;have HW:=Hd hw;have ba:=HB.out.trans hw.2.1;clear hw;go_wp2_with fail
 refine(FA w.heap.size w.heap.size _ w1 HW.out.1 ba.size (by rw[cV];omega)).mono ?_;rintro e w2 ⟨a,c,rfl,ho,am⟩;have HO:=Hd (fh ho ba.size);have ap:=ba.trans (am.mono ba.size);clear ho ba am;go_wp2_with fail
 go_ret;exact⟨a,c,rfl,HO.out,ap⟩
theorem Wc {α:Type}(f:α->List Int)(xs:List α)(k:Nat):((xs.take k).flatMap f).length<=(xs.flatMap f).length:=by
 conv=>rhs;rw[<-List.take_append_drop k xs,List.flatMap_append,List.length_append]
 omega
theorem FC {α:Type}(f:α->List Int)(xs:List α)(k:Nat)(x:α)(h:xs[k]?=some x):((xs.take k).flatMap f).length+(f x).length<=(xs.flatMap f).length:=by
 have hk:=(List.getElem?_eq_some_iff.1 h).1
 have e:(xs.take (k+1)).flatMap f=(xs.take k).flatMap f++f x:=by
  rw[iJ hk,List.flatMap_append];obtain⟨_,h2⟩:=List.getElem?_eq_some_iff.1 h;rw[h2];simp
 have:=Wc f xs (k+1);rw[e,List.length_append]at this;exact this
theorem Wd (B b:Nat)(bs:List Int)(ao:Option Addr)(n cap:Nat)(xs:List Va)(w:World)(hn:xs.length=n)(hx:RowsIn 3 jl mB w B ao xs)(gM:∀v∈xs,v.text.size<=1099511627776)(h:na w B b bs)(gK:B<=w.heap.size)(fV:bs.length+(dY xs).length+9200<=140737488355328)(pr:n<=1099511627776)(We:bs.length+(dY xs).length<=100000000000) :
  Calls prog 86 #[.pointer (some ⟨b,0,none⟩),.slice ao n cap] w λ e w'=>e=.returned (.tuple #[])/\Wrote B b (bs++dY xs) w w':=by
 have hlv:(dY xs).length=4+(xs.flatMap fp).length:=by rw[dY,List.length_append,cV]
 rw[hlv]at fV We;have HX:=Hd hx;have HN:=Hd hn;have qq:=Hd gM;have H:=Hd h;clear hx hn gM h hlv;go_enter func86,ntmps86
 go_wp2_with fail
 refine(Fz B b bs n w H.out gK (by omega)).mono ?_;rintro e w1 ⟨rfl,hw⟩;have pt:=Hd hw;clear hw;go_wp2_with fail
 go_loopw [12] (λ i wr=>∃k:Nat,k<=n/\i=.int .i64 k/\Wrote B b (bs++(au 4 n++(xs.take k).flatMap fp)) w wr) (λ i _=>n-(intOf i).toNat)
 exact⟨0,by omega,rfl,by simpa using pt.out⟩
 clear pt;obtain⟨k,hk,rfl,hw⟩:=hrel;have HW:=Hd hw;clear hw;by_cases ae:k<n
 ·
  have aQ:xs[k]?=some (xs[k]'(by rw[HN.out];exact ae)):=bu _;obtain⟨rb,off,bm,hb,hc,_⟩:=HX.out.at aQ
  have bJ:(xs.take (k+1)).flatMap fp=(xs.take k).flatMap fp++fp (xs[k]'(by rw[HN.out];exact ae)):=by
   rw[iJ (by rw[HN.out];exact ae),List.flatMap_append];simp
  have my:=FC fp xs k _ aQ;have gM:=qq.out _ (mC (l:=xs) (n:=k) (by rw[HN.out];exact ae));generalize xs[k]'(by rw[HN.out];exact ae)=x at hc bJ my gM aQ
  have ka:∀w',Wrote B b (bs++(au 4 n++(xs.take k).flatMap fp)) w w'->Calls prog 146 #[.pointer (some ⟨b,0,none⟩),.agg #[.int .u8 x.kind,.int .i64 x.num,.string x.text]] w' λ e w''=>e=.returned (.tuple #[])/\Wrote B b (bs++(au 4 n++(xs.take k).flatMap fp)++fp x) w' w'':=λ w' hw' =>
   V9 B b _ x w' hw'.1 (aF gK hw'.2.1.size) (by simp only[List.length_append,cV];omega)
  obtain⟨kd,num,text⟩:=x;dsimp only at ka;have ag:=HW.out.2.1;have c0:wr.cell? ⟨rb,off+k*3,none⟩=some (.int .u8 kd):=(ag.cell (p:=⟨rb,_,none⟩) hb).trans (hc 0 (by decide));have c1:wr.cell? ⟨rb,off+k*3+1,none⟩=some (.int .i64 num):=(ag.cell (p:=⟨rb,_,none⟩) hb).trans (hc 1 (by decide));have c2:wr.cell? ⟨rb,off+k*3+1+1,none⟩=some (.string text):=(ag.cell (p:=⟨rb,_,none⟩) hb).trans (hc 2 (by decide));have c3:wr.cell? ⟨rb,off+k*3+2,none⟩=some (.string text):=c2;have HT:=Hd bJ;have HC:=Hd ka;have i1:(k:Int)<n:=by omega
  subst bm;clear hc bJ my gM aQ ka ag;go_wp2_with fail
  refine(HC.out _ (HW.out.alloc gK _)).mono ?_;rintro e w3 ⟨rfl,lR⟩;have gZ:=(HW.out.alloc gK _).trans lR;rw[List.append_assoc,List.append_assoc,<-HT.out]at gZ;have mj:=Hd gZ;clear lR gZ c0 c1 c2 c3;go_wp2_with fail
  go_roundw
  exact⟨k+1,by omega,by go_num,mj.out⟩
  simp[intOf];omega
 obtain rfl:k=n:=by omega
 have iV:=HW.out;rw[fE (l:=xs) (by rw[HN.out];exact aa _)]at iV;have rI:=Hd (show Wrote B b (bs++dY xs) w wr by unfold dY;rw[HN.out];exact iV);clear iV;go_wp2_with fail
 go_end0;exact⟨rfl,rI.out⟩
structure Pt where
 ao:Option Addr
 cap:Nat
 data:List Int
def pE (p:Pt):List Value:=[.slice p.ao p.data.length p.cap]
theorem wX (p:Pt):(pE p).length=1:=rfl
def zj (w:World) (B:Nat) (p:Pt):Prop:=BytesIn w B p.ao p.data
def qT (l:List Int):List UInt8:=l.map λ x=>UInt8.ofNat x.toNat
theorem zk (l:List Int):(qT l).length=l.length:=by simp[qT]
theorem FD {l:List Int}(h:BytesWf l):(qT l).map (λ x=>(x.toNat:Int))=l:=by
 unfold qT;rw[List.map_map];conv=>rhs;rw[<-List.map_id l]
 apply List.map_congr_left
 intro x hx;have:=h x hx;simp;omega
theorem Le {w:World}{B:Nat}{p:Pt}(h:zj w B p)(hw:BytesWf p.data):Lib.HoldsBytes w (.slice p.ao p.data.length p.cap) (qT p.data):=by
 refine⟨p.ao,p.cap,by rw[zk],λ e=>?_,λ a ha i x hx=>?_⟩
 ·
  rcases h with h|⟨b,off,h1,_⟩
  · rw[h];rfl
  rw[e]at h1;cases h1
 have eR:(p.data.map bv)[i]?=some (.int .u8 (x.toNat:Int)):=by
  have:((qT p.data).map λ x=>(x.toNat:Int))[i]?=some (x.toNat:Int):=by rw[List.getElem?_map,hx];rfl
  rw[FD hw]at this;rw[List.getElem?_map,this];rfl
 exact ze h (aj B w) ha eR
def oJ (w:World) (B:Nat) (a:Option Addr) (n c:Nat) (xs:List Int):Prop :=
 (a=none/\n=0/\c=0)∨∃g,a=some ⟨g,0,none⟩/\B<=g/\n<=c/\c<=maxLen/\(∀i,i<c->(w.cell? ⟨g,i,none⟩).isSome=true/\w.frozen? ⟨g,i,none⟩=false)/\∀i,i<n->w.cell? ⟨g,i,none⟩=(xs.map bv)[i]?
def Lf (L:List Int) (w:World) (e:Ending) (w':World):Prop :=
 ∃a c,e=.returned (.slice a L.length c)/\BytesIn w' w'.heap.size a L/\(a=none->c=0)/\L.length<=c/\(∀ad,a=some ad->w.heap.size<=ad.block)/\oJ w' w.heap.size a L.length c L/\Below w.heap.size w w'
theorem oJ.nil {w:World}{B:Nat}:oJ w B none 0 0 []:=Or.inl ⟨rfl,rfl,rfl⟩
theorem oJ.none {w:World}{B g:Nat}(h:B<=g):oJ w B (some ⟨g,0,none⟩) 0 0 []:=Or.inr ⟨g,rfl,h,aa _,iX _,λ i hi=>by omega,λ i hi=>by omega⟩
theorem Lg {B:Nat}{w':World}{v:Value}{L:List Int}(hw:BytesWf L)(h:Lib.FreshBytes B w' v (qT L)):∃a c,v=.slice a L.length c/\BytesIn w' w'.heap.size a L/\(a=none->c=0)/\L.length<=c/\(∀ad,a=some ad->B<=ad.block)/\oJ w' B a L.length c L:=by
 obtain⟨g,cap,zs,rfl,h1,h2,h3,h4,h5,h6,h7,h8⟩:=h;rw[zk]at h2 h6 ⊢
 have hz:zs.take L.length=L:=by
  have e1:(Lib.bytesOf (zs.take L.length)).map (λ x=>(x.toNat:Int))=zs.take L.length:=FD (λ x hx=>h5 x (zl hx));have e2:=FD hw;rw[h6]at e1;rw[<-e1,e2]
 refine⟨_,cap,rfl,?_,by simp,h2,(λ ad e=>by cases e;exact h1),Or.inr ⟨g,rfl,h1,h2,h3,λ i hi=>⟨by rw[h7 i hi];rfl,h8 i hi⟩,λ i hi=>?_⟩⟩
 rotate_left
 ·
  rw[h7 i (by omega)];have e:(L.map bv)[i]?=some (bv (L[i]'hi)):=by rw[List.getElem?_map,bu hi];rfl
  rw[e]
  have e3:zs.getD i 0=L[i]'hi:=by
   have:L[i]'hi=(zs.take L.length)[i]'(by rw[hz];exact hi):=by simp only[hz]
   rw[this];simp[List.getD,bu (show i<zs.length by omega)]
  rw[e3];rfl
 by_cases h0:L=[]
 · exact Or.inl h0
 have iF:0<L.length:=by cases L with|nil=>exact absurd rfl h0|cons _ _=>simp
 refine Or.inr ⟨g,0,rfl,?_,λ i hi=>?_⟩
 ·
  have:=h7 0 (by omega);simp only[World.cell?]at this;rcases Nat.lt_or_ge g w'.heap.size with h|h
  · exact h
  simp[Array.getElem?_eq_none h]at this
 rw[Nat.zero_add,h7 i (by omega)];conv=>rhs;rw[<-hz]
 simp[List.getD,List.getElem?_take,hi]
theorem join_nil (xs:List (List UInt8)):Lib.join xs []=xs.flatten:=by
 unfold Lib.join;induction xs with
 | nil=>rfl
 | cons x xs ih =>
  cases xs with
  | nil=>simp[List.intercalate]
  | cons y ys=>simp[List.intercalate]at ih ⊢;exact ih
theorem Lh (ps:List Pt):(ps.map λ p=>qT p.data).flatten=qT (ps.flatMap Pt.data):=by
 induction ps with
 | nil=>rfl
 | cons p ps ih=>rw[List.map_cons,List.flatten_cons,ih,List.flatMap_cons];simp[qT]
theorem Wf (xs:List (List UInt8)):Lib.lens xs=xs.flatten.length:=by
 unfold Lib.lens;rw[List.length_flatten]
theorem Wg (ao:Option Addr)(n cap:Nat)(ps:List Pt)(w:World)(B:Nat)(hn:ps.length=n)(hx:RowsIn 1 pE zj w B ao ps)(hB:B<=w.heap.size)(hw:∀p∈ps,BytesWf p.data)(hc:n<=cap)(hl:(ps.flatMap Pt.data).length<=140737488351232)(pr:n<=1099511627776) :
  Calls prog 50 #[.slice ao n cap,.slice none 0 0] w (Lf (ps.flatMap Pt.data) w):=by
 subst hn
 have iR:BytesWf (ps.flatMap Pt.data):=λ x hx=>by
  obtain⟨p,hp,hx⟩:=List.mem_flatMap.1 hx;exact hw p hp x hx
 rcases hx with rfl|⟨b,off,rfl,hb,bN⟩
 ·
  refine(Tryz.bytes_Join_none ao cap (.slice none 0 0) w).mono ?_;rintro e w' ⟨rfl,rfl⟩;exact⟨_,0,rfl,Or.inl rfl,by simp,by simp,(λ ad e=>by cases e;exact aa _),oJ.none (aa _),(aj _ _).alloc (aa _) _⟩
 have hs:Lib.HoldsBytes w (.slice none 0 0) []:=⟨none,0,rfl,λ _=>rfl,λ a h=>by cases h⟩
 have jM:∀(i:Nat) (p:Pt),ps[i]?=some p->w.cell? ⟨b,off+i,none⟩=some (.slice p.ao p.data.length p.cap):=λ i p hp=>by
  have:=(bN i p hp).1 0 (by decide);simpa[pE]using this
 match ps,jM,bN,hw,hc,hl,pr,iR with
 | [],_,_,_,_,_,_,_ =>
  refine(Tryz.bytes_Join_none (some ⟨b,off,none⟩) cap (.slice none 0 0) w).mono ?_;rintro e w' ⟨rfl,rfl⟩;exact⟨_,0,rfl,Or.inl rfl,by simp,by simp,(λ ad e=>by cases e;exact aa _),oJ.none (aa _),(aj _ _).alloc (aa _) _⟩
 | [p],jM,bN,hw,hc,hl,pr,iR =>
  have e:[p].flatMap Pt.data=p.data:=by simp
  rw[e]at hl iR ⊢;by_cases h0:p.data=[]
  ·
   have h1:=jM 0 p rfl;rw[h0]at h1;refine(Tryz.bytes_Join_one_empty b off cap p.ao p.cap (.slice none 0 0) w h1).mono ?_;rintro e w' ⟨rfl,rfl⟩;rw[h0];exact⟨none,0,rfl,Or.inl rfl,λ _=>rfl,by simp,(λ ad e=>by cases e),oJ.nil,aj _ _⟩
  have eC:=(bN 0 p rfl).2;rcases eC with h|⟨b2,off2,ha,am,iS⟩
  · exact absurd h h0
  have h1:=jM 0 p rfl;rw[ha,<-zk]at h1;obtain⟨q,c,e1,hq,hqq⟩:=Le (p:=p) (B:=B) (Or.inr ⟨b2,off2,ha,am,iS⟩) (hw p (by simp));injection e1 with e2 _ _
  refine(Tryz.bytes_Join_one b off cap ⟨b2,off2,none⟩ p.cap (qT p.data) (.slice none 0 0) w h1 (hqq _ (by rw[<-e2,ha])) (by rw[zk];cases hd:p.data with|nil=>exact absurd hd h0|cons _ _=>simp) (by rw[zk];omega)).mono ?_;rintro e w' ⟨v',rfl,hf,gL⟩;obtain⟨a,c,rfl,g1,g2,g3,g4,g5⟩:=Lg iR hf;exact⟨a,c,rfl,g1,g2,g3,g4,g5,gL⟩
 | p :: q :: r,jM,bN,hw,hc,hl,pr,iR =>
  have hP:Lib.PartsAt w ⟨b,off,none⟩ ((p :: q :: r).map λ x=>.slice x.ao x.data.length x.cap) ((p :: q :: r).map λ x=>qT x.data):=by
   refine⟨by simp,λ i v hv=>?_,λ i v l hv hl=>?_⟩
   ·
    rw[List.getElem?_map]at hv;obtain⟨x,hx,rfl⟩:=Option.map_eq_some_iff.1 hv;rw[Go.WideShapes.add_plain];exact jM i x hx
   rw[List.getElem?_map]at hv hl;obtain⟨x,hx,rfl⟩:=Option.map_eq_some_iff.1 hv;rw[hx]at hl;obtain rfl:=vj hl;exact Le (bN i x hx).2 (hw x (List.mem_of_getElem? hx))
  have iF:Lib.lens ((p :: q :: r).map λ x=>qT x.data)=((p :: q :: r).flatMap Pt.data).length:=by rw[Wf,Lh,zk]
  refine(Tryz.bytes_Join_many b off (p :: q :: r).length cap _ _ (.slice none 0 0) [] w (by simp) (by simp) hP hc hs (by omega) (by rw[iF];simp only[List.length_nil,Nat.zero_mul];omega)).mono ?_;rintro e w' ⟨v',rfl,hf,gL⟩;rw[join_nil,Lh]at hf;obtain⟨a,c,rfl,g1,g2,g3,g4,g5⟩:=Lg iR hf;exact⟨a,c,rfl,g1,g2,g3,g4,g5,gL⟩
def gf (ao:Option Addr) (cap l k:Nat):Option Addr:=if cap=l then ao else ao.map (·.add (l*k))
theorem t8 {ao:Option Addr}{cap l k:Nat}(h:gf ao cap l k=none):ao=none:=by
 unfold gf at h;split at h
 · exact h
 cases ao with
 | none=>rfl
 | some a=>cases h
theorem Li {P:Program}{t:TypeId}{k:Nat}(ht:P.underlying t=some (.slice (P.elem t)))(hk:∀w,(sizeOf (P.elem t)).run P w=.ok k w)(ao:Option Addr)(n cap l h:Nat)(hl:l<=h)(hh:h<=cap)(kl kh:IntKind)(lo hi:Int)(el:lo=l)(eh:hi=h)(w:World) :
  (Instr.sliceAt t (.slice ao n cap) (some (.int kl lo)) (some (.int kh hi)) none).run P w=.ok (.slice (gf ao cap l k) (h-l) (cap-l)) w:=by
 subst el eh;rw[run_sliceAt_slice _ _ _ _ _ _ ht,run_slice_lh _ _ _ _ _ ht _ _ _ _ (by omega) (by omega) (by omega),hk];simp[Result.andThen,sliced,gf]
theorem zm {P:Program}{t:TypeId}{k:Nat}(ht:P.underlying t=some (.slice (P.elem t)))(hk:∀w,(sizeOf (P.elem t)).run P w=.ok k w)(ao:Option Addr)(n cap l:Nat)(hl:l<=n)(kl:IntKind)(lo:Int)(el:lo=l)(w:World) :
  (Instr.sliceAt t (.slice ao n cap) (some (.int kl lo)) none none).run P w=.ok (.slice (gf ao cap l k) (n-l) (cap-l)) w:=by
 subst el;rw[run_sliceAt_slice _ _ _ _ _ _ ht,run_slice_l _ _ _ _ _ ht _ _ (by omega) (by omega),hk];simp[Result.andThen,sliced,gf]
theorem ua {P:Program}{t:TypeId}{k:Nat}(ht:P.underlying t=some (.slice (P.elem t)))(hk:∀w,(sizeOf (P.elem t)).run P w=.ok k w)(ao:Option Addr)(n cap h:Nat)(hh:h<=cap)(kh:IntKind)(hi:Int)(eh:hi=h)(w:World) :
  (Instr.sliceAt t (.slice ao n cap) none (some (.int kh hi)) none).run P w=.ok (.slice (gf ao cap 0 k) h cap) w:=by
 subst eh;rw[run_sliceAt_slice _ _ _ _ _ _ ht,run_slice_h _ _ _ _ _ ht _ _ (by omega) (by omega),hk];simp[Result.andThen,sliced,gf]
theorem wY (ao:Option Addr)(cap k:Nat)(h:∀a,ao=some a->a.spot=none):gf ao cap 0 k=ao:=by
 unfold gf;split
 · rfl
 cases ao with
 | none=>rfl
 | some a =>
  obtain⟨b,o,s⟩:=a;have:=h _ rfl;simp only at this;subst this;simp[Addr.add]
theorem sizeByte:∀w,(sizeOf (prog.elem 25)).run prog w=.ok 1 w:=λ _=>by kernel_rfl
theorem vp:prog.underlying 25=some (.slice (prog.elem 25)):=by kernel_rfl
theorem BytesIn.sub {w:World}{B:Nat}{ao:Option Addr}{xs:List Int}{cap:Nat}(l h:Nat)(hx:BytesIn w B ao xs)(hc:xs.length<=cap):BytesIn w B (gf ao cap l 1) ((xs.drop l).take h):=by
 by_cases hz:xs.length<=l
 · exact Or.inl (by rw[List.drop_of_length_le hz,List.take_nil])
 rcases hx with rfl|⟨b,off,rfl,h1,h2⟩
 · simp at hz
 unfold gf;rw[if_neg (by omega),Option.map_some,Go.WideShapes.add_plain,Nat.mul_one];refine Or.inr ⟨b,off+l,rfl,h1,λ i hi=>?_⟩;have hi1:i<h/\l+i<xs.length:=by simp at hi;omega
 rw[Nat.add_assoc,h2 _ hi1.2];simp[List.getD,hi1.1,List.getElem?_drop]
theorem BytesIn.drop {w:World}{B:Nat}{ao:Option Addr}{xs:List Int}{cap:Nat}(l:Nat)(hx:BytesIn w B ao xs)(hc:xs.length<=cap):BytesIn w B (gf ao cap l 1) (xs.drop l):=by
 have:=hx.sub l (xs.length) hc;rwa [fE (by simp)]at this
theorem BytesIn.take {w:World}{B:Nat}{ao:Option Addr}{xs:List Int}(h:Nat)(hx:BytesIn w B ao xs):BytesIn w B ao (xs.take h):=by
 rcases hx with rfl|⟨b,off,rfl,h1,h2⟩
 · exact Or.inl (by simp)
 refine Or.inr ⟨b,off,rfl,h1,λ i hi=>?_⟩;have hi1:i<h/\i<xs.length:=by simp at hi;omega
 rw[h2 _ hi1.2];simp[List.getD,hi1.1]
theorem BytesWf.drop {xs:List Int}(h:BytesWf xs)(n:Nat):BytesWf (xs.drop n):=λ x hx=>h x (ub hx)
theorem BytesWf.take {xs:List Int}(h:BytesWf xs)(n:Nat):BytesWf (xs.take n):=λ x hx=>h x (zl hx)
structure Only (rb:Nat) (w w':World):Prop where
 size:w.heap.size<=w'.heap.size
 block:∀b,b<w.heap.size->b≠rb->w'.heap[b]?=w.heap[b]?
 rest:w'.os=w.os/\w'.tape=w.tape/\w'.output=w.output
theorem Only.refl (rb:Nat)(w:World):Only rb w w:=⟨aa _,λ _ _ _=>rfl,rfl,rfl,rfl⟩
theorem Only.trans {rb:Nat}{w w' w'':World}(h:Only rb w w')(h2:Only rb w' w''):Only rb w w'':=⟨aF h.1 h2.1,λ b hb hn=>(h2.2 b (ex hb h.1) hn).trans (h.2 b hb hn),h2.3.1.trans h.3.1,h2.3.2.1.trans h.3.2.1,h2.3.2.2.trans h.3.2.2⟩
theorem Only.set (rb:Nat)(w:World)(i:Nat)(v:Value):Only rb w (w.setCell ⟨rb,i,none⟩ v):=⟨by simp,λ b _ hn=>heap_setCell_other _ _ _ _ hn,rfl,rfl,rfl⟩
theorem Only.of_below {rb:Nat}{w w':World}(h:Below w.heap.size w w'):Only rb w w':=⟨h.size,λ b hb _=>h.block b hb,h.os,h.tape,h.output⟩
theorem Only.toBelow {rb B:Nat}{w w':World}(h:Only rb w w')(hB:B<=w.heap.size)(hr:B<=rb):Below B w w':=⟨h.3.1,h.3.2.1,h.3.2.2,h.1,λ k hk=>h.2 k (by omega) (by omega)⟩
theorem wZ {w w':World}{b o:Nat}(h:w'.heap[b]?=w.heap[b]?):w'.cell? ⟨b,o,none⟩=w.cell? ⟨b,o,none⟩:=by simp[World.cell?,h]
def mD (w:World) (M rb:Nat) (ao:Option Addr) (xs:List Int):Prop :=
 xs=[]∨∃b off,ao=some ⟨b,off,none⟩/\b<M/\b≠rb/\∀i,i<xs.length->w.cell? ⟨b,off+i,none⟩=some (.int .u8 (xs.getD i 0))
theorem mD.in {w:World}{M rb:Nat}{ao:Option Addr}{xs:List Int}(h:mD w M rb ao xs):BytesIn w M ao xs:=by
 rcases h with h|⟨b,off,h1,h2,_,h3⟩
 · exact Or.inl h
 exact Or.inr ⟨b,off,h1,h2,h3⟩
theorem mD.only {w w':World}{M rb:Nat}{ao:Option Addr}{xs:List Int}(h:mD w M rb ao xs)(hM:M<=w.heap.size)(ho:Only rb w w'):mD w' M rb ao xs:=by
 rcases h with h|⟨b,off,h1,h2,h4,h3⟩
 · exact Or.inl h
 exact Or.inr ⟨b,off,h1,h2,h4,λ i hi=>(wZ (ho.2 b (by omega) h4)).trans (h3 i hi)⟩
theorem mD.take {w:World}{M rb:Nat}{ao:Option Addr}{xs:List Int}(n:Nat)(h:mD w M rb ao xs):mD w M rb ao (xs.take n):=by
 rcases h with h|⟨b,off,h1,h2,h4,h3⟩
 · exact Or.inl (by rw[h];simp)
 refine Or.inr ⟨b,off,h1,h2,h4,λ i hi=>?_⟩;rw[List.length_take]at hi;rw[h3 i (by omega)];simp[List.getD,List.getElem?_take,show i<n by omega]
theorem mD.drop {w:World}{M rb cap:Nat}{ao:Option Addr}{xs:List Int}(n:Nat)(hc:xs.length<=cap)(h:mD w M rb ao xs):mD w M rb (gf ao cap n 1) (xs.drop n):=by
 by_cases hn:xs.length<=n
 · exact Or.inl (List.drop_of_length_le hn)
 rcases h with h|⟨b,off,h1,h2,h4,h3⟩
 · exact Or.inl (by rw[h];simp)
 subst h1
 have e:gf (some ⟨b,off,none⟩) cap n 1=some ⟨b,off+n,none⟩:=by
  unfold gf;rw[if_neg (by omega)];show some (Addr.add ⟨b,off,none⟩ (n*1))=_;rw[Go.WideShapes.add_plain,Nat.mul_one]
 rw[e];refine Or.inr ⟨b,off+n,rfl,h2,h4,λ i hi=>?_⟩;rw[List.length_drop]at hi;rw[Nat.add_assoc,h3 _ (by omega)];simp[List.getD]
structure vq (w:World) (M rb:Nat) (bad:Bool) (left:List Int) (a:Option Addr) (c:Nat):Prop where
 blk:w.heap[rb]?=some (.cells #[.bool true,.bool bad,.slice a left.length c] 195 (0,0))
 off:mD w M rb a left
 cap:left.length<=c
 nil:a=none->c=0
 le:M<=w.heap.size
theorem vq.lt {w:World}{M rb:Nat}{bad:Bool}{left:List Int}{a:Option Addr}{c:Nat}(h:vq w M rb bad left a c):rb<w.heap.size:=(Array.getElem?_eq_some_iff.1 h.blk).1
def Rdr (w:World) (M rb:Nat) (bad:Bool) (left:List Int):Prop:=∃a c,vq w M rb bad left a c
theorem Rdr.below {w w':World}{M rb:Nat}{bad:Bool}{left:List Int}(h:Rdr w M rb bad left)(hb:Below w.heap.size w w'):Rdr w' M rb bad left:=by
 obtain⟨a,c,h⟩:=h;exact⟨a,c,(hb.block rb h.lt).trans h.blk,h.off.only h.le (Only.of_below hb),h.cap,h.nil,aF h.le hb.size⟩
theorem vq.mE {w:World}{M rb:Nat}{bad:Bool}{left:List Int}{a:Option Addr}{c:Nat}(h:vq w M rb bad left a c)(x:Bool):vq (w.setCell ⟨rb,1,none⟩ (.bool x)) M rb x left a c :=
 ⟨br (i:=1) h.blk (.bool x),h.off.only h.le (Only.set _ _ _ _),h.cap,h.nil,by simpa using h.le⟩
theorem Rdr.other {w:World}{M rb g i:Nat}{bad:Bool}{left:List Int}(h:Rdr w M rb bad left)(hg:M<=g)(hr:g≠rb)(v:Value):Rdr (w.setCell ⟨g,i,none⟩ v) M rb bad left:=by
 obtain⟨a,c,h⟩:=h;refine⟨a,c,(heap_setCell_other _ _ _ _ (Ne.symm hr)).trans h.blk,?_,h.cap,h.nil,by simpa using h.le⟩;rcases h.off with h0|⟨b,off,h1,h2,h4,h3⟩
 · exact Or.inl h0
 exact Or.inr ⟨b,off,h1,h2,h4,λ j hj=>(wZ (heap_setCell_other _ _ _ _ (show b≠g by omega))).trans (h3 j hj)⟩
def bw (n:Nat) (bad:Bool) (left:List Int):List Int×Bool×List Int:=if bad=true∨left.length<n then([],true,left)else(left.take n,false,left.drop n)
def Wh (M rb:Nat) (r:List Int×Bool×List Int) (w:World) (e:Ending) (w':World):Prop :=
 ∃a c,e=.returned (.slice a r.1.length c)/\mD w' M rb a r.1/\(a=none->c=0)/\r.1.length<=c/\Rdr w' M rb r.2.1 r.2.2/\Only rb w w'
theorem Lj (M rb n:Nat)(bad:Bool)(left:List Int)(w:World)(h:Rdr w M rb bad left)(hl:left.length<=140737488351232)(hn:n<=1099511627776) :
  Calls prog 216 #[.pointer (some ⟨rb,0,none⟩),.int .i64 n] w (Wh M rb (bw n bad left) w):=by
 obtain⟨a,c,h⟩:=h;obtain⟨m,hm⟩:∃m,left.length=m:=⟨_,rfl⟩;have eY:=h.blk;rw[hm]at eY hl;have d1:w.cell? ⟨rb,1,none⟩=some (.bool bad):=ab eY 1;have d2:w.cell? ⟨rb,2,none⟩=some (.slice a m c):=ab eY 2;have f1:w.frozen? ⟨rb,1,none⟩=false:=aO eY 1;have f2:w.frozen? ⟨rb,2,none⟩=false:=aO eY 2;have H:=Hd h;have HM:=Hd hm;cases bad with
 | true =>
  have hs:bw n true left=([],true,left):=if_pos (Or.inl rfl);rw[hs];clear h hm eY hs;go_enter func216,ntmps216
  go_wp2_with fail
  go_ret;exact⟨none,0,rfl,Or.inl rfl,λ _=>rfl,by simp,⟨a,c,H.out.mE true⟩,Only.set _ _ _ _⟩
 | false =>
  by_cases ae:m<n
  ·
   have hs:bw n false left=([],true,left):=if_pos (Or.inr (by rw[hm];exact ae));rw[hs];have i1:(m:Int)<n:=by omega
   clear h hm eY hs;go_enter func216,ntmps216
   go_wp2_with fail
   go_ret;exact⟨none,0,rfl,Or.inl rfl,λ _=>rfl,by simp,⟨a,c,H.out.mE true⟩,Only.set _ _ _ _⟩
  have hs:bw n false left=(left.take n,false,left.drop n):=if_neg (by rw[hm];simp;omega);rw[hs];have i1:¬(m:Int)<n:=by omega
  have i2:(n:Int)<=m:=by omega
  have hcap:=H.out.cap;rw[HM.out]at hcap;have hsl1:∀w',(Instr.sliceAt 25 (.slice a m c) none (some (.int .i64 (n:Int))) none).run prog w'=.ok (.slice (gf a c 0 1) n c) w':=λ w'=>ua vp sizeByte a m c n (by omega) .i64 n rfl w'
  have hsl2:∀w',(Instr.sliceAt 25 (.slice a m c) (some (.int .i64 (n:Int))) none none).run prog w'=.ok (.slice (gf a c n 1) (m-n) (c-n)) w':=λ w'=>zm vp sizeByte a m c n (by omega) .i64 n rfl w'
  clear h hm eY hs;go_enter func216,ntmps216
  go_wp2_with fail
  go_ret;have nz:(left.take n).length=n:=by rw[List.length_take,HM.out];omega
  have hld:(left.drop n).length=m-n:=by rw[List.length_drop,HM.out]
  have h1:=H.out.mE false;have ho:Only rb w ((w.setCell ⟨rb,1,none⟩ (.bool false)).setCell ⟨rb,2,none⟩ (.slice (gf a c n 1) (m-n) (c-n))):=(Only.set _ _ _ _).trans (Only.set _ _ _ _);have rZ:=H.out.off.only H.out.le ho;have bN:left.length<=c:=H.out.cap;refine⟨gf a c 0 1,c,by rw[nz];rfl,?_,λ e=>H.out.nil (t8 e),by rw[nz];omega,⟨gf a c n 1,c-n,?_,?_,?_,?_,?_⟩,ho⟩
  ·
   have:=(rZ.drop 0 bN).take n;rwa [List.drop_zero]at this
  ·
   rw[hld];exact br (i:=2) h1.blk (.slice (gf a c n 1) (m-n) (c-n))
  · exact rZ.drop n bN
  · rw[hld];omega
  ·
   intro e;have:=H.out.nil (t8 e);omega
  have:=H.out.le;simpa using this
end Go.Proofs.YtepdklfkegkojaaGreatDoor
