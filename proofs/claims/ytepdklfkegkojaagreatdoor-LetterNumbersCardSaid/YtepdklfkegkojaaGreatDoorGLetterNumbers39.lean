/- Parts of one proof. Conditions: as each says. -/
import Derived.Test.YtepdklfkegkojaaGreatDoorGLetterNumbers0
import Derived.Test.YtepdklfkegkojaaGreatDoorGLetterNumbers20
import Derived.Test.YtepdklfkegkojaaGreatDoorGLetterNumbers12
import Derived.Test.YtepdklfkegkojaaGreatDoorGLetterNumbers37
import Derived.Test.YtepdklfkegkojaaGreatDoorGLetterNumbers35
import Derived.Test.YtepdklfkegkojaaGreatDoorGLetterNumbers38
set_option linter.all false
set_option maxHeartbeats 16000000
set_option maxRecDepth 100000
namespace Go.Proofs.YtepdklfkegkojaaGreatDoor
open Go.Proofs.Tryz
open Go.RowKit
def A6:List Va:=[⟨1,-7,⟨#[]⟩⟩,⟨2,0,⟨#[98,101,101]⟩⟩]
def vd (vb ib:Nat):List En:=[⟨1,1,0,0,0,⟨#[]⟩,none,[],0,0,none,[],0⟩,⟨2,2,3,4,2,⟨#[104,105,118,101]⟩,some ⟨vb,0,none⟩,A6,2,-1,none,[],0⟩,⟨1099511627776,3,0,0,0,⟨#[]⟩,none,[],0,0,some ⟨ib,0,none⟩,[1,2,9],3⟩]
def fL (vb ib eb v2 im:Nat):Nat->Lt
 | 0=>⟨1,1,9,7,5,6,false,0,0,none,[],0,none,[],0,none,[],0⟩
 | 1=>⟨2,2,1,0,0,0,true,0,0,none,[],0,none,[],0,none,[],0⟩
 | 2=>⟨3,3,2,9,5,6,false,4,8,some ⟨eb,0,none⟩,vd vb ib,3,none,[],0,none,[],0⟩
 | 3=>⟨4,4,2,0,9,0,true,0,1,none,[],0,none,[],0,none,[],0⟩
 | 4=>⟨5,5,2,0,9,3,false,0,2,none,[],0,some ⟨v2,0,none⟩,[2,3],2,some ⟨im,0,none⟩,[105,109,97,103,101],5⟩
 | _=>⟨6,6,2,0,9,0,false,0,1099511627776,none,[],0,none,[],0,none,[],0⟩
structure Dy (w:World) (lb:Nat) (L:Nat->Lt):Prop where
 lt:lb<w.heap.size
 rng:∀i,i<6->w.rangeAt lb (i*12) (ai (L i)).toList
 sub:∀i,i<6->fG w w.heap.size (L i)
theorem Dy.grow {w w':World}{lb:Nat}{L:Nat->Lt}(h:Dy w lb L)(hb:Below w.heap.size w w'):Dy w' lb L :=
 ⟨ex h.lt hb.size,λ i hi j v hv=>(hb.cell (p:=⟨lb,_,none⟩) h.lt).trans (h.rng i hi j v hv),λ i hi=>nZ (nj (h.sub i hi) hb (aa _)) hb.size⟩
theorem adk {w:World}{vb ib eb v2 im lb:Nat}(k0:w.heap[vb]?=some (.cells (A6.flatMap jl).toArray 50 (0,0)))(k1:w.heap[ib]?=some (.cells #[.int .i64 1,.int .i64 2,.int .i64 9] 3 (0,0)))(k2:w.heap[eb]?=some (.cells ((vd vb ib).flatMap bW).toArray 46 (0,0)))
  (k3:w.heap[v2]?=some (.cells #[.int .i64 2,.int .i64 3] 3 (0,0))) (k4:w.heap[im]?=some (.cells #[.int .u8 105,.int .u8 109,.int .u8 97,.int .u8 103,.int .u8 101] 5 (5,6))) (k5:w.heap[lb]?=some (.cells ((List.range 6).flatMap λ i=>(ai (fL vb ib eb v2 im i)).toList).toArray 32 (0,0))):Dy w lb (fL vb ib eb v2 im):=by
 have hl:∀ {g:Nat} {x:Obj},w.heap[g]?=some x->g<w.heap.size:=λ h=>(Array.getElem?_eq_some_iff.1 h).1
 have hv:iz w w.heap.size (some ⟨vb,0,none⟩) A6:=mH (n:=2) oF rfl (uM (base:=0) (n:=2) k0 (iX _) (by unfold maxLen;omega) rfl) (λ _ _=>trivial);have hi:gS w w.heap.size (some ⟨ib,0,none⟩) [1,2,9]:=mH (n:=3) mA rfl (uM (base:=0) (n:=3) k1 (iX _) (by unfold maxLen;omega) rfl) (λ _ _=>trivial);have h2:gS w w.heap.size (some ⟨v2,0,none⟩) [2,3]:=mH (n:=2) mA rfl (uM (base:=0) (n:=2) k3 (iX _) (by unfold maxLen;omega) rfl) (λ _ _=>trivial)
 have he:kV w w.heap.size (some ⟨eb,0,none⟩) (vd vb ib):=mH (n:=3) mh rfl (uM (base:=0) (n:=3) k2 (iX _) (by unfold maxLen;omega) rfl) (λ e he=>by
  simp only[vd,List.mem_cons,List.not_mem_nil,or_false]at he;rcases he with rfl|rfl|rfl
  · exact⟨Or.inl rfl,Or.inl rfl⟩
  · exact⟨hv,Or.inl rfl⟩
  exact⟨Or.inl rfl,hi⟩)
 have hb:BytesIn w w.heap.size (some ⟨im,0,none⟩) [105,109,97,103,101]:=Or.inr ⟨im,0,rfl,hl k4,λ i hi=>by
  rw[ab k4];match i,hi with
  | 0,_|1,_|2,_|3,_|4,_=>rfl⟩
 refine⟨hl k5,λ i hi=>?_,λ i hi=>?_⟩
 ·
  match i,hi with
  | 0,_|1,_|2,_|3,_|4,_|5,_=>exact Vm k5 rfl
 match i,hi with
 | 0,_|1,_|3,_|5,_=>exact⟨Or.inl rfl,Or.inl rfl,Or.inl rfl⟩
 | 2,_=>exact⟨he,Or.inl rfl,Or.inl rfl⟩
 | 4,_=>exact⟨Or.inl rfl,h2,hb⟩
theorem adl (W:World):∃w3,(((W.alloc (.cells #[.int .u8 1,.int .i64 (-7),.string ⟨#[]⟩,.int .u8 2,.int .i64 0,.string ⟨#[98,101,101]⟩] 50)).alloc (.cells #[.int .u8 2,.string ⟨#[104,105,118,101]⟩,.slice (some ⟨W.heap.size,0,none⟩) 2 2,.int .i64 (-1)] 44)).alloc (.cells #[.int .i64 1,.int .i64 2,.int .i64 9] 3)).alloc (.cells #[.int .i64 1,.int .u8 1,.int .i64 0,.int .i64 0,.int .u8 0,.string ⟨#[]⟩,.slice none 0 0,.int .i64 0,.slice none 0 0,.int .i64 2,.int .u8 2,.int .i64 3,.int .i64 4,.int .u8 2,.string ⟨#[104,105,118,101]⟩,.slice (some ⟨W.heap.size,0,none⟩) 2 2,.int .i64 (-1),.slice none 0 0,.int .i64 1099511627776,.int .u8 3,.int .i64 0,.int .i64 0,.int .u8 0,.string ⟨#[]⟩,.slice none 0 0,.int .i64 0,.slice (some ⟨W.heap.size+1+1,0,none⟩) 3 3] 46)=w3/\w3.heap[W.heap.size]?=some (.cells (A6.flatMap jl).toArray 50 (0,0))/\w3.heap[W.heap.size+1+1]?=some (.cells #[.int .i64 1,.int .i64 2,.int .i64 9] 3 (0,0))/\w3.heap[W.heap.size+1+1+1]?=some (.cells ((vd W.heap.size (W.heap.size+1+1)).flatMap bW).toArray 46 (0,0))/\Below W.heap.size W w3:=by
 refine⟨_,rfl,iC (iC (iC (heap_alloc_new W _) _) _) _,iC ?_ _,?_,(((aj W.heap.size W).alloc (aa _) _).alloc (by simp) _).alloc (by simp;omega) _ |>.alloc (by simp;omega) _⟩
 ·
  have h:=heap_alloc_new ((W.alloc (.cells #[.int .u8 1,.int .i64 (-7),.string ⟨#[]⟩,.int .u8 2,.int .i64 0,.string ⟨#[98,101,101]⟩] 50)).alloc (.cells #[.int .u8 2,.string ⟨#[104,105,118,101]⟩,.slice (some ⟨W.heap.size,0,none⟩) 2 2,.int .i64 (-1)] 44)) (.cells #[.int .i64 1,.int .i64 2,.int .i64 9] 3);rwa [World.size_alloc,World.size_alloc]at h
 have h:=heap_alloc_new (((W.alloc (.cells #[.int .u8 1,.int .i64 (-7),.string ⟨#[]⟩,.int .u8 2,.int .i64 0,.string ⟨#[98,101,101]⟩] 50)).alloc (.cells #[.int .u8 2,.string ⟨#[104,105,118,101]⟩,.slice (some ⟨W.heap.size,0,none⟩) 2 2,.int .i64 (-1)] 44)).alloc (.cells #[.int .i64 1,.int .i64 2,.int .i64 9] 3)) (.cells ((vd W.heap.size (W.heap.size+1+1)).flatMap bW).toArray 46);rw[World.size_alloc,World.size_alloc,World.size_alloc]at h;exact h
theorem adm (W:World):Calls prog 4 #[] W λ e w'=>∃vb ib eb v2 im lb,e=.returned (.slice (some ⟨lb,0,none⟩) 6 6)/\Dy w' lb (fL vb ib eb v2 im)/\Below W.heap.size W w':=by
 obtain⟨w3,lR,k0,k1,k2,hb⟩:=adl W;have HW:=Hd lR;have K0:=Hd k0;have K1:=Hd k1;have K2:=Hd k2;clear lR k0 k1 k2;have kc:=Lib.run_convert_bytes_const (P:=prog) (w3.alloc (.cells #[.int .i64 2,.int .i64 3] 3)) 25 5 #[.int .u8 105,.int .u8 109,.int .u8 97,.int .u8 103,.int .u8 101] 5 5 hJ underlying5;simp only[World.size_alloc]at kc;go_enter func4,ntmps4
 go_upto_region 3 with fail
 rw[HW.out];clear HW;generalize W.heap.size=a at K0 K1 K2 ⊢;obtain⟨b,am⟩:∃b,a+1+1=b:=⟨_,rfl⟩;rw[am]at K1 K2 ⊢;clear am;go_wp2_with fail
 go_ret;refine⟨a,b,b+1,w3.heap.size,w3.heap.size+1,w3.heap.size+1+1,rfl,adk (iC (iC (iC K0.out _) _) _) (iC (iC (iC K1.out _) _) _) (iC (iC (iC K2.out _) _) _) (iC (iC (heap_alloc_new w3 _) _) _) (iC ?_ _) ?_,((hb.alloc hb.size _).alloc (by have:=hb.size;simp;omega) _).alloc (by have:=hb.size;simp;omega) _⟩
 ·
  have h:=heap_alloc_new (w3.alloc (.cells #[.int .i64 2,.int .i64 3] 3)) (.cells #[.int .u8 105,.int .u8 109,.int .u8 97,.int .u8 103,.int .u8 101] 5 (5,6));rwa [World.size_alloc]at h
 have h:=heap_alloc_new ((w3.alloc (.cells #[.int .i64 2,.int .i64 3] 3)).alloc (.cells #[.int .u8 105,.int .u8 109,.int .u8 97,.int .u8 103,.int .u8 101] 5 (5,6))) (.cells ((List.range 6).flatMap λ i=>(ai (fL a b (b+1) w3.heap.size (w3.heap.size+1) i)).toList).toArray 32);rw[World.size_alloc,World.size_alloc]at h;exact h
theorem ble {a b:Nat}(h:Nat.ble a b=true):a<=b:=Nat.le_of_ble_eq_true h
theorem adn (vb ib:Nat):∀e∈vd vb ib,gV e:=by
 intro e he;simp only[vd,List.mem_cons,List.not_mem_nil,or_false]at he;rcases he with rfl|rfl|rfl
 all_goals exact⟨⟨rfl,rfl,rfl,rfl,rfl,ble rfl,by simp[A6,um]<;>decide,rfl,by simp<;>decide,ble rfl,ble rfl,by simp,by simp,ble rfl,ble rfl⟩,ble rfl,ble rfl,ble rfl,by simp[A6]<;>decide,ble (by kernel_rfl)⟩
theorem ado (vb ib eb v2 im:Nat)(i:Nat)(hi:i<6):cy (fL vb ib eb v2 im i):=by
 have he:=adn vb ib;match i,hi with
 | 0,_|1,_|2,_|3,_|4,_|5,_=>constructor<;>first|exact he|simp[fL,bH,BytesWf,vd]
theorem Vp (vb ib eb v2 im:Nat)(i:Nat)(hi:i<6):fx (fL vb ib eb v2 im i).plain=true/\(ee (fL vb ib eb v2 im i).plain).length<=1000/\(fL vb ib eb v2 im i).es.length<=100/\(fL vb ib eb v2 im i).vs.length<=100/\(fL vb ib eb v2 im i).im.length<=100:=by
 match i,hi with
 | 0,_|1,_|2,_|3,_|4,_|5,_=>exact⟨by kernel_rfl,ble (by kernel_rfl),ble (by kernel_rfl),ble (by kernel_rfl),ble (by kernel_rfl)⟩
theorem adp (vb ib eb v2 im:Nat)(i:Nat)(hi:i<6):eM (fL vb ib eb v2 im i).plain=(ee (fL vb ib eb v2 im i).plain,0):=by
 obtain⟨h1,h2,_⟩:=Vp vb ib eb v2 im i hi;unfold eM;rw[if_neg (by rw[h1];simp),if_neg (by omega)]
theorem cy.Vq {l:Lt}(h:cy l):Fj l :=
 ⟨zA h.kind,ni h.fr,ni h.tov,ni h.term,ni h.index,ni h.was,ni h.commit,ni h.round,λ e he=>(h.es e he).wf,by have:=h.en;omega,λ v hv=>ni (h.vs v hv),by have:=h.vn;omega,h.im,by have:=h.ln;omega,h.zB,h.sj,h.tE,h.fi⟩
def qk:En:=⟨0,1,0,0,0,⟨#[]⟩,none,[],0,0,none,[],0⟩
def qS (x:Lt) (eb:Nat):Lt:={ x with eo:=some ⟨eb,0,none⟩,es:=List.replicate 16 qk,ey:=16 }
theorem adq:gV qk:=⟨⟨rfl,rfl,rfl,rfl,rfl,ble rfl,by simp[qk],rfl,by simp[qk],ble rfl,ble rfl,by simp[qk],by simp[qk],ble rfl,ble rfl⟩,ble rfl,ble rfl,ble rfl,by simp[qk],ble (by kernel_rfl)⟩
theorem adr {x:Lt}(h:cy x)(eb:Nat):cy (qS x eb) :=
 { h with es:=λ e he=>by rw[List.eq_of_mem_replicate he];exact adq,en:=(show (List.replicate 16 qk).length<=4000000 from ble rfl),zB:=λ h=>by cases h }
def mY (x:Lt) (ib n:Nat):Lt:={ x with io:=some ⟨ib,0,none⟩,im:=List.replicate n 0,fi:=n }
theorem Vr {x:Lt}(h:cy x)(ib n:Nat)(hn:n<=4000000):cy (mY x ib n) :=
 { h with im:=λ v hv=>by rw[List.eq_of_mem_replicate hv];exact⟨by decide,by decide⟩,ln:=(by simp[mY];exact hn),tE:=(λ h=>by cases h),fi:=(by simp[mY]) }
theorem ads (vb ib eb v2 im b n:Nat)(hn:0<n):fx (mY (fL vb ib eb v2 im 4) b n).plain=true/\(ee (mY (fL vb ib eb v2 im 4) b n).plain).length=58+n:=by
 constructor
 · simp[fx,mY,fL,Lt.plain,pG,xj,hX,qt,kE,mG]
 simp[ee,mY,fL,Lt.plain,cV];omega
theorem adt {w:World}{ops:Array Oper}{rest:List Oper}{o:Oper}{act:Act}{Q:Exit->Act->World->Prop}(jN:o.guard=none)(s x:Operand)(ho:o.op=.call { callee:=.builtin .append,args:=#[s,x],argTypes:=#[25,25] })
  {B hi c:Nat} {a:Option Addr} {xs:List Int} (hs:act.eval s=.slice a xs.length c) (hr:bk (λ _=>False) w B (.slice a xs.length c) xs.length (xs.map bv)) (hp:0<xs.length) (hh:∀g,(Value.slice a xs.length c).ownBlock=some g->g<hi) (ad:Addr) (u:Int) (hx:act.eval x=.slice (some ad) 1 1) (hu:w.cell? ad=some (.int .u8 u)) (hl:xs.length<=4000000)
  (h:∀a' c' w',BytesIn w' w'.heap.size a' (xs++[u])->(a'=none->c'=0)->xs.length+1<=c'->w.heap.size<=w'.heap.size->(∀b,b<B∨hi<=b->b<w.heap.size->w'.heap[b]?=w.heap[b]?)->Below B w w'->wpList prog ops Q rest (act.put o.dst (.slice a' (xs.length+1) c')) w'):wpList prog ops Q (o :: rest) act w:=by
 obtain⟨i0,hi0,bo,bp,aU⟩:=info_parts infoByte
 have cF:∀(j:Nat) v,[Value.int .u8 u][j]?=some v->w.cell? (ad.add j)=some v:=λ j v hv=>by
  match j,hv with
  | 0,hv=>cases hv;rw[show ad.add 0=ad by unfold Addr.add;simp];exact hu
 have hB:B<=w.heap.size:=by
  rcases hr.2 with ⟨_,hz⟩|⟨g,_,_,h1,h2,_⟩<;>omega
 by_cases fT:xs.length+1<=c
 ·
  obtain⟨g,hg⟩:∃g,a=some ⟨g,0,none⟩:=by
   rcases hr.2 with ⟨_,hz⟩|⟨g,_,e,_⟩
   · omega
   exact⟨g,by injection e⟩
  subst hg;have hg:=(hr.lt g rfl).1;refine Kv (λ _=>False) B w jN s x 25 ho 5 i0 hJ hi0 bp g xs.length c (xs.map bv) hs hr ad 1 1 [.int .u8 u] hx rfl cF (by simp[Value.oneCell']) fT λ w' h1 h2=>?_
  have h3:bk (λ _=>False) w' B (.slice (some ⟨g,0,none⟩) (xs.length+1) c) (xs.length+1) ((xs++[u]).map bv):=by rw[List.map_append];exact h1
  exact h _ c w' h3.bytes (λ h=>by cases h) fT h2.size (λ b hb ae=>h2.block b ae (λ e=>by have e:=vj e;have:=hh g rfl;omega)) ((aj B w).grown h2 hB (λ k hk=>by cases hk;exact hg))
 refine wpList_append_grows w jN s x 25 ho 5 i0 (.int .u8 0) 1 1 hJ hi0 bo bp aU rfl (by decide) a xs.length c (xs.map bv) hs (λ e=>by rcases hr.2 with ⟨_,hz⟩|⟨g,_,h2,_⟩;omega;rw[e]at h2;cases h2) (by simp) (λ b e j v hv=>?_) ad 1 1 [.int .u8 u] hx rfl cF (by simp[Value.oneCell']) (by omega) (by unfold maxLen;omega) (by omega) λ v' w' h1 h2=>?_
 ·
  rw[e]at hr;exact hr.cells j v hv
 obtain⟨a',c',rfl⟩:=jz h1;have h3:w'.ownsRow w.heap.size 5 1 (.slice a' (xs.length+1) c') (xs.length+1) ((xs++[u]).map bv):=by rw[List.map_append];exact h1
 exact h a' c' w' (wA (by simp) h3) (iW h3) (mp h3) h2.size (λ b _ ae=>h2.block b ae (by simp)) ((aj B w).grown h2 hB (λ k hk=>by cases hk))
def KD:En:=⟨0,0,0,0,0,⟨#[]⟩,none,[],0,0,none,[],0⟩
def ox (i:Nat):List En:=List.replicate i qk++List.replicate (16-i) KD
theorem adu (i:Nat)(hi:i<16):((ox i).flatMap bW).toArray.setIfInBounds (i*9+1) (.int .u8 1)=((ox (i+1)).flatMap bW).toArray:=by
 have e:ox i=List.replicate i qk++KD :: List.replicate (16-(i+1)) KD:=by
  unfold ox;rw[show 16-i=(16-(i+1))+1 by omega,List.replicate_succ]
 rw[List.setIfInBounds_toArray,e,W1 mh _ _ _ i 1 (by simp) (by decide)];unfold ox;rw[List.replicate_succ',List.append_assoc,List.flatMap_append,List.singleton_append,List.flatMap_cons];rfl
theorem adv:ox 16=List.replicate 16 qk:=by unfold ox;simp
theorem adw {w:World}{x:Lt}{mb:Nat}(hk:w.heap[mb]?=some (.cells ((ox 16).flatMap bW).toArray 46 (0,0)))(hx:fG w w.heap.size x):fG w w.heap.size (qS x mb):=by
 have h1:(List.replicate 16 qk).length=16:=List.length_replicate;have h2:∀e∈List.replicate 16 qk,e=qk:=λ e he=>List.eq_of_mem_replicate he
 rw[adv]at hk;unfold qS;generalize List.replicate 16 qk=es at hk h1 h2 ⊢;exact⟨mH (n:=16) (c:=16) mh h1 (uM (base:=0) (n:=16) hk (iX _) (by unfold maxLen;omega) ((nT mh es).trans (by rw[h1]))) (λ e he=>by rw[h2 e he];exact⟨Or.inl rfl,Or.inl rfl⟩),hx.2⟩
theorem Vs {w:World}{b n:Nat}(hn:n<=4000000)(hk:w.heap[b]?=some (.cells (madeCells #[.int .u8 0] n) 5 (0,0))):BytesIn w w.heap.size (some ⟨b,0,none⟩) (List.replicate n 0):=by
 refine wA (base:=0) (n:=n) (c:=n) (by simp) ?_;have h:=uM (base:=0) (n:=n) (size:=1) hk (iX _) (by unfold maxLen;omega) (by simp[size_madeCells]);rw[uN]at h;rw[List.map_replicate]
 have e:((List.range n).map λ _=>(Value.int .u8 0))=List.replicate n (bv 0):=by
  apply List.ext_getElem?
  intro i;by_cases hi:i<n<;>simp[hi,bv]
 rwa [e]at h
theorem adx (x:Lt)(b n b' n':Nat):(ai (mY x b n)).setIfInBounds 11 (.slice (some ⟨b',0,none⟩) n' n')=ai (mY x b' n'):=by
 simp[ai,mY]
theorem ady (x:Lt)(b' n':Nat):(ai x).setIfInBounds 11 (.slice (some ⟨b',0,none⟩) n' n')=ai (mY x b' n'):=by
 simp[ai,mY]
end Go.Proofs.YtepdklfkegkojaaGreatDoor
