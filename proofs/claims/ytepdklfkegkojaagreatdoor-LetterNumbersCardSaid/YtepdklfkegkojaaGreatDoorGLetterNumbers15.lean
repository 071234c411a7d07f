/- Parts of one proof. Conditions: as each says. -/
import Derived.Test.YtepdklfkegkojaaGreatDoorGLetterNumbers0
import Derived.Test.YtepdklfkegkojaaGreatDoorGLetterNumbers4
import Derived.Test.YtepdklfkegkojaaGreatDoorGLetterNumbers14
import Derived.Deep.DeepCutAuto
import Derived.Test.YtepdklfkegkojaaGreatDoorGLetterNumbers1
import Derived.ArgAppend
import Derived.Deep.OwnRows
set_option linter.all false
set_option maxHeartbeats 16000000
set_option maxRecDepth 100000
namespace Go.Proofs.YtepdklfkegkojaaGreatDoor
open Go.Proofs.Tryz
open Go.RowKit
theorem iC {w:World}{g:Nat}{x:Obj}(h:w.heap[g]?=some x)(o:Obj):(w.alloc o).heap[g]?=some x :=
 ((nc w o none).block g (Array.getElem?_eq_some_iff.1 h).1 (by simp)).trans h
theorem uM {w:World}{b base n size:Nat}{cs:Array Value}{e:TypeId}(h:w.heap[b]?=some (.cells cs e (0,0)))(hb:base<=b)(hm:n<=maxLen)(hs:cs.size=n*size):w.ownsRow base e size (.slice (some ⟨b,0,none⟩) n n) n cs.toList :=
 ⟨by simpa using hs,.inr ⟨b,n,cs,rfl,hb,h,aa _,hm,hs,fE (by rw[Array.length_toList,hs];exact aa _)⟩⟩
theorem sH (w:World)(A B:Array Value)(T1 T2:TypeId):Below w.heap.size w ((w.alloc (.cells A T1)).alloc (.cells B T2))/\((w.alloc (.cells A T1)).alloc (.cells B T2)).heap[w.heap.size]?=some (.cells A T1 (0,0))/\((w.alloc (.cells A T1)).alloc (.cells B T2)).heap[w.heap.size+1]?=some (.cells B T2 (0,0))/\((w.alloc (.cells A T1)).alloc (.cells B T2)).heap.size=w.heap.size+2:=by
 refine⟨((aj _ _).alloc (aa _) _).alloc (by simp) _,iC (heap_alloc_new w _) _,?_,by simp⟩;have:=heap_alloc_new (w.alloc (.cells A T1)) (.cells B T2);simpa using this
theorem it {g:Bool}{P:Prop}(h:g=true↔P)(hn:¬P):g=false:=by
 cases g with
 | false=>rfl
 | true=>exact absurd (h.1 rfl) hn
theorem OZ (ck:Int)(text:ByteArray)(ao:Option Addr)(n cap:Nat)(xs:List Va)(num:Int)(ck2:Int)(jV:ByteArray)(co:Option Addr)(m cap2:Nat)(ys:List Va)(kD:Int)(w:World)(B:Nat)(hn:xs.length=n)(hm:ys.length=m)(hx:iz w B ao xs)(hy:iz w B co ys)(hB:B<=w.heap.size)(hl:n<=4611686018427387904)(cG:m<=4611686018427387904)(g:Bool)(hg:g=true↔(⟨ck,text,xs,num⟩:lK)=⟨ck2,jV,ys,kD⟩) :
  Calls prog 68 #[.agg #[.int .u8 ck,.string text,.slice ao n cap,.int .i64 num],.agg #[.int .u8 ck2,.string jV,.slice co m cap2,.int .i64 kD]] w (qN g w):=by
 obtain⟨am,h1,h2,aU⟩:=sH w #[.int .u8 ck,.string text,.slice ao n cap,.int .i64 num] #[.int .u8 ck2,.string jV,.slice co m cap2,.int .i64 kD] 44 44;have bF:=Hd am;have H1:=Hd h1;have H2:=Hd h2;have HZ:=Hd (pJ aU.symm);have HG:=Hd hg;have HC:=Hd (fun(w':World) (hb:Below w.heap.size w w') (gg:Bool) (pA:decide (xs=ys)=gg)=>Zm ao n cap co m cap2 xs ys w' B hn hm (hx.below cn hb hB) (hy.below cn hb hB) (aF hB hb.size) hl cG gg pA);clear am h1 h2 aU hg hn hm hx hy;go_enter func68,ntmps68
 go_upto_region 1 with fail
 have am:=bF.out;have h1:=H1.out;have h2:=H2.out;have aU:=HZ.out;clear bF H1 H2 HZ;generalize (w.alloc (.cells #[.int .u8 ck,.string text,.slice ao n cap,.int .i64 num] 44)).alloc (.cells #[.int .u8 ck2,.string jV,.slice co m cap2,.int .i64 kD] 44)=w2 at am h1 h2 aU ⊢;have H1:=Hd h1;have H2:=Hd h2;have bF:=Hd am;have c0:w2.cell? ⟨w.heap.size,0,none⟩=some (.int .u8 ck):=ab h1 0;have c1:w2.cell? ⟨w.heap.size,1,none⟩=some (.string text):=ab h1 1;have c2:w2.cell? ⟨w.heap.size,2,none⟩=some (.slice ao n cap):=ab h1 2;have d0:w2.cell? ⟨w.heap.size+1,0,none⟩=some (.int .u8 ck2):=ab h2 0;have d1:w2.cell? ⟨w.heap.size+1,1,none⟩=some (.string jV):=ab h2 1;have d2:w2.cell? ⟨w.heap.size+1,2,none⟩=some (.slice co m cap2):=ab h2 2;clear am h1 h2;by_cases hck:ck=ck2
 ·
  subst hck;by_cases gM:text=jV
  ·
   subst gM;obtain⟨gg,pA⟩:∃gg,decide (xs=ys)=gg:=⟨_,rfl⟩;have ye:=Hd pA;clear pA;go_wp2_with fail
   refine(HC.out w2 bF.out gg ye.out).mono ?_;rintro e w3 ⟨rfl,b3⟩;have k1:=(b3.block w.heap.size (by omega)).trans H1.out;have k2:=(b3.block (w.heap.size+1) (by omega)).trans H2.out;have e3:w3.cell? ⟨w.heap.size,3,none⟩=some (.int .i64 num):=ab k1 3;have f3:w3.cell? ⟨w.heap.size+1,3,none⟩=some (.int .i64 kD):=ab k2 3;have kA:=Hd (bF.out.trans (b3.mono (by omega)));clear b3 k1 k2 c0 c1 c2 d0 d1 d2;cases gg with
   | false =>
    have ax:g=false:=it HG.out (λ h=>of_decide_eq_false ye.out (by injection h));have aZ:=Hd ax;clear ax;go_wp2_with fail
    go_ret;exact⟨dT aZ.out.symm,kA.out⟩
   | true =>
    have lZ:xs=ys:=of_decide_eq_true ye.out;by_cases hnu:num=kD
    ·
     subst hnu;have ax:g=true:=HG.out.2 (by rw[lZ]);have aZ:=Hd ax;clear ax lZ;go_wp2_with fail
     go_ret;exact⟨dT aZ.out.symm,kA.out⟩
    have ax:g=false:=it HG.out (λ h=>hnu (by injection h));have aZ:=Hd ax;have n1:(num==kD)=false:=beq_eq_false_iff_ne.2 hnu;clear ax lZ;go_wp2_with fail
    go_ret;exact⟨dT aZ.out.symm,kA.out⟩
  have ax:g=false:=it HG.out (λ h=>gM (by injection h));have aZ:=Hd ax;have n1:¬text.toList=jV.toList:=λ h=>gM (toList_inj h)
  have n2:(text.toList==jV.toList)=false:=beq_eq_false_iff_ne.2 n1;have n3:decide (text.toList=jV.toList)=false:=decide_eq_false n1;clear ax;go_wp2_with fail
  go_ret;exact⟨dT aZ.out.symm,bF.out⟩
 have ax:g=false:=it HG.out (λ h=>hck (by injection h));have aZ:=Hd ax;have n1:(ck==ck2)=false:=beq_eq_false_iff_ne.2 hck;clear ax;go_wp2_with fail
 go_ret;exact⟨dT aZ.out.symm,bF.out⟩
def Sep (u v:Value):Prop:=∀b,u.ownBlock=some b->v.ownBlock≠some b
theorem Sep.symm {u v:Value}(h:Sep u v):Sep v u:=λ b hv hu=>h b hu hv
theorem Sep.ne {u v:Value}(h:Sep u v):u.ownBlock=none∨u.ownBlock≠v.ownBlock:=by
 cases hu:u.ownBlock with
 | none=>exact Or.inl rfl
 | some b=>exact Or.inr λ he=>h b hu he.symm
theorem Ac {w:World}{B E SZ g c n m:Nat}{xs:List Value}(h:w.ownsRow B E SZ (.slice (some ⟨g,0,none⟩) m c) m xs)(hn:n<=m):w.ownsRow B E SZ (.slice (some ⟨g,0,none⟩) n c) n (xs.take (n*SZ)):=by
 have hm:=Nat.mul_le_mul_right SZ hn;rcases h.2 with ⟨h',_⟩|⟨g',c',cur,h',h1,h2,h3,h4,h5,h6⟩
 · cases h'
 cases h'
 refine⟨?_,Or.inr ⟨g,c,cur,rfl,h1,h2,by omega,h4,h5,?_⟩⟩
 · rw[List.length_take,h.1];omega
 rw[<-h6,List.take_take];congr 1;omega
theorem Zn {w:World}{B E SZ g c c2 n m:Nat}{xs ys:List Value}(h:w.ownsRow B E SZ (.slice (some ⟨g,0,none⟩) m c) m xs)(h2:w.ownsRow B E SZ (.slice (some ⟨g,0,none⟩) n c2) n ys)(hz:0<SZ):c=c2:=by
 rcases h.2 with ⟨h',_⟩|⟨_,_,cur,h',_,k2,_,_,k5,_⟩
 · cases h'
 cases h'
 rcases h2.2 with ⟨h',_⟩|⟨_,_,cur',h',_,l2,_,_,l5,_⟩
 · cases h'
 cases h'
 rw[k2]at l2;simp only[Option.some.injEq,Obj.cells.injEq]at l2;rw[l2.1,l5]at k5;exact Nat.eq_of_mul_eq_mul_right hz k5.symm
def aw (mk:Nat->Nat->List Value) (k n:Nat):List Value:=(List.range n).flatMap (mk k)
theorem qO (mk:Nat->Nat->List Value)(k n:Nat):aw mk k (n+1)=aw mk k n++mk k n:=by
 unfold aw;rw[List.range_succ,List.flatMap_append];simp
theorem eE {mk:Nat->Nat->List Value}{SZ:Nat}(h:∀k i,(mk k i).length=SZ)(k n:Nat):(aw mk k n).length=n*SZ:=by
 unfold aw;rw[nT (h k),List.length_range]
theorem wu {mk:Nat->Nat->List Value}{SZ:Nat}(h:∀k i,(mk k i).length=SZ)(k n d:Nat):(aw mk k (n+d)).take (n*SZ)=aw mk k n:=by
 induction d with
 | zero=>rw[Nat.add_zero,fE (by rw[eE h];exact aa _)]
 | succ d ih=>rw[<-Nat.add_assoc,qO,List.take_append_of_le_length (by rw[eE h];exact Nat.mul_le_mul_right _ (by omega)),ih]
theorem bA {mk:Nat->Nat->List Value}{SZ:Nat}(h:∀k i,(mk k i).length=SZ)(k n i j:Nat)(hi:i<n)(hj:j<SZ):(aw mk k n)[i*SZ+j]?=(mk k i)[j]?:=by
 unfold aw;exact flat_get (h k) (List.range n) i i (by simp[hi]) j hj
def GrowAt (B E SZ:Nat) (mk:Nat->Nat->List Value) (k hs:Nat) (r:Value) (n q:Nat) (v:Value) (w:World):Prop :=
 w.ownsRow B E SZ v (n+q) (aw mk k (n+q))/\w.ownsRow B E SZ r n (aw mk k n)/\(v.ownBlock=r.ownBlock∨∀b,v.ownBlock=some b->hs<=b)
theorem Ct {B E SZ:Nat}{mk:Nat->Nat->List Value}{k hs:Nat}{r:Value}{n:Nat}{w:World}(h:w.ownsRow B E SZ r n (aw mk k n)):GrowAt B E SZ mk k hs r n 0 r w:=⟨h,h,Or.inl rfl⟩
theorem tL {B E SZ:Nat}{mk:Nat->Nat->List Value}{k hs:Nat}{r:Value}{n q:Nat}{v:Value}{w:World}(h:GrowAt B E SZ mk k hs r n q v w)(o:Obj):GrowAt B E SZ mk k hs r n q v (w.alloc o):=⟨h.1.alloc o,h.2.1.alloc o,h.2.2⟩
theorem Cu {B E SZ:Nat}{mk:Nat->Nat->List Value}(hmk:∀k i,(mk k i).length=SZ)(hz:0<SZ){k hs:Nat}{r:Value}{n q g c:Nat}{w w':World}(h:GrowAt B E SZ mk k hs r n q (.slice (some ⟨g,0,none⟩) (n+q) c) w)(hr:∀b,r.ownBlock=some b->b<hs)
  (az:w'.ownsRow B E SZ (.slice (some ⟨g,0,none⟩) (n+q+1) c) (n+q+1) (aw mk k (n+q)++mk k (n+q))) (hg:w.grownBy w' (some g)):GrowAt B E SZ mk k hs r n (q+1) (.slice (some ⟨g,0,none⟩) (n+q+1) c) w':=by
 have Bc:w'.ownsRow B E SZ (.slice (some ⟨g,0,none⟩) (n+q+1) c) (n+q+1) (aw mk k (n+q+1)):=by rw[qO];exact az
 refine⟨Bc,?_,?_⟩
 ·
  rcases h.2.2 with hb|hb
  ·
   have bi:r.ownBlock=some g:=hb.symm;rcases oD h.2.1 with ⟨hr0,_⟩|⟨g2,c2,lS⟩
   · rw[hr0]at bi;simp[Value.ownBlock]at bi
   rw[lS]at bi;simp[Value.ownBlock]at bi;subst bi;have h2:=h.2.1;rw[lS]at h2 ⊢;have hc:=Zn h.1 h2 hz;subst hc;have h3:=Ac Bc (show n<=n+q+1 by omega);rwa [show n+q+1=n+(q+1) by omega,wu hmk]at h3
  have hge:=hb g rfl;refine aX h.2.1 hg ?_;cases ny:r.ownBlock with
  | none=>exact Or.inl rfl
  | some b=>exact Or.inr λ he=>by have:=hr b ny;cases he;omega
 exact h.2.2
theorem Cv {B E SZ:Nat}{mk:Nat->Nat->List Value}{k hs:Nat}{r:Value}{n q:Nat}{v v':Value}{w w':World}(h:GrowAt B E SZ mk k hs r n q v w)(hw:hs<=w.heap.size)(hB:B<=w.heap.size)
  (az:w'.ownsRow w.heap.size E SZ v' (n+q+1) (aw mk k (n+q)++mk k (n+q))) (hg:w.grownBy w' none):GrowAt B E SZ mk k hs r n (q+1) v' w':=by
 refine⟨?_,aX h.2.1 hg (by cases r.ownBlock<;>simp),Or.inr λ b hb=>?_⟩
 ·
  show w'.ownsRow B E SZ v' (n+(q+1)) (aw mk k (n+(q+1)));rw[<-Nat.add_assoc,qO];exact fh az hB
 have:=(az.lt b hb).1;omega
def bf (B E SZ K:Nat) (R:Nat->Value) (n:Nat->Nat) (C:Nat->List Value) (w:World):Prop:=∀j,j<K->w.ownsRow B E SZ (R j) (n j) (C j)
def pN (K:Nat) (R:Nat->Value):Prop:=∀i j,i<K->j<K->i≠j->Sep (R i) (R j)
theorem bf.upd {B E SZ K:Nat}{R:Nat->Value}{n:Nat->Nat}{C:Nat->List Value}{w w':World}{k:Nat}{x:List Value}(h:bf B E SZ K R n C w)(hs:pN K R)(hk:k<K)(hg:w.grownBy w' (R k).ownBlock)(hx:w'.ownsRow B E SZ (R k) (n k) x):bf B E SZ K R n (λ j=>if j=k then x else C j) w':=by
 intro j hj;by_cases e:j=k
 · subst e;simpa using hx
 simp only[e,if_false];exact aX (h j hj) hg (hs j k hj hk e).ne
theorem bf.congr {B E SZ K:Nat}{R:Nat->Value}{n:Nat->Nat}{C C':Nat->List Value}{w:World}(h:bf B E SZ K R n C w)(e:∀j,j<K->C j=C' j):bf B E SZ K R n C' w:=λ j hj=>e j hj▸h j hj
theorem rj {α:Type}(f:Nat->α)(K k:Nat)(u:α):((List.range K).map f).set k u=(List.range K).map λ j=>if j=k then u else f j:=by
 apply List.ext_getElem?
 intro i;rw[List.getElem?_set,List.getElem?_map,List.getElem?_map];by_cases hi:i<K
 ·
  rw[fH hi];by_cases e:k=i
  · subst e;simp[hi]
  have e':¬i=k:=λ h=>e h.symm
  simp[e,e']
 rw[wV (by simpa using hi)];simp[hi];omega
theorem dp {α:Type}(f:Nat->α)(K k:Nat)(h:k<K):((List.range K).map f)[k]?=some (f k):=by
 rw[List.getElem?_map,fH h];rfl
def aM (K:Nat) (R:Nat->Value):Nat->Prop:=λ b=>∃j,j<K/\(R j).ownBlock=some b
structure Kb (S:Nat->Prop) (B U:Nat) (w w':World):Prop where
 below:Below B w w'
 other:∀(b:Nat) (cs:Array Value) (e:TypeId) (fz:Nat×Nat),w.heap[b]?=some (Obj.cells cs e fz)->e≠U->w'.heap[b]?=some (Obj.cells cs e fz)
 apart:∀b,b<w.heap.size->¬S b->w'.heap[b]?=w.heap[b]?
theorem Kb.refl (S:Nat->Prop)(B U:Nat)(w:World):Kb S B U w w:=⟨aj _ _,λ _ _ _ _ h _=>h,λ _ _ _=>rfl⟩
theorem Kb.size {S:Nat->Prop}{B U:Nat}{w w':World}(h:Kb S B U w w'):w.heap.size<=w'.heap.size:=h.below.size
theorem Kb.drew {S:Nat->Prop}{B U:Nat}{w w':World}(h:Kb S B U w w'):Kb S B U w w'.drew:=⟨h.below.drew,h.other,h.apart⟩
theorem Kb.alloc {S:Nat->Prop}{B U:Nat}{w w':World}(h:Kb S B U w w')(hB:B<=w'.heap.size)(o:Obj):Kb S B U w (w'.alloc o) :=
 ⟨h.below.alloc hB o,λ b cs e fz hb he=>by
  have h1:=h.other b cs e fz hb he;rw[(nc w' o none).block b (Array.getElem?_eq_some_iff.1 h1).1 (by simp)];exact h1,λ b hb hs=>((nc w' o none).block b (ex hb h.size) (by simp)).trans (h.apart b hb hs)⟩
theorem Kb.mO {S:Nat->Prop}{B U B2 SZ m n c g:Nat}{xs:List Value}{w w' w'':World}(h:Kb S B U w w')(hg:w'.grownBy w'' (some g))(hB:B<=w'.heap.size)(az:w'.ownsRow B2 U SZ (.slice (some ⟨g,0,none⟩) m c) n xs)(iw:B<=g)(hS:S g∨w.heap.size<=g):Kb S B U w w'' :=
 ⟨h.below.grown hg hB (λ k hk=>by cases hk;exact iw),λ b cs e fz hb he=>by
  have h1:=h.other b cs e fz hb he;have ae:=(Array.getElem?_eq_some_iff.1 h1).1;rw[hg.block b ae ?_]
  · exact h1
  intro hbg;cases hbg
  rcases az.2 with ⟨h',_⟩|⟨g',c',cur,h',_,h2,_⟩
  · cases h'
  cases h'
  rw[h2]at h1;simp only[Option.some.injEq,Obj.cells.injEq]at h1;exact he h1.2.1.symm,λ b hb hs=>(hg.block b (ex hb h.size) (by intro e;cases e;rcases hS with h2|h2;exact hs h2;omega)).trans (h.apart b hb hs)⟩
theorem Kb.rk {S:Nat->Prop}{B U:Nat}{w w' w'':World}(h:Kb S B U w w')(hg:w'.grownBy w'' none)(hB:B<=w'.heap.size):Kb S B U w w'' :=
 ⟨h.below.grown hg hB (λ k hk=>by cases hk),λ b cs e fz hb he=>by
  have h1:=h.other b cs e fz hb he;rw[hg.block b (Array.getElem?_eq_some_iff.1 h1).1 (by simp)];exact h1,λ b hb hs=>(hg.block b (ex hb h.size) (by simp)).trans (h.apart b hb hs)⟩
theorem Kb.rl {S:Nat->Prop}{B U g:Nat}{w w' w'':World}(h:Kb S B U w w')(hg:w'.grownBy w'' (some g))(hB:B<=w'.heap.size)(hw:w.heap.size<=g)(iw:B<=g):Kb S B U w w'' :=
 ⟨h.below.grown hg hB (λ k hk=>by cases hk;exact iw),λ b cs e fz hb he=>by
  have h1:=h.other b cs e fz hb he;have ae:=(Array.getElem?_eq_some_iff.1 hb).1;rw[hg.block b (Array.getElem?_eq_some_iff.1 h1).1 (by intro hbg;cases hbg;omega)];exact h1,λ b hb hs=>(hg.block b (ex hb h.size) (by intro e;cases e;omega)).trans (h.apart b hb hs)⟩
theorem Kb.jd {S:Nat->Prop}{B U:Nat}{w w' w'':World}(h:Kb S B U w w')(hb:Below w'.heap.size w' w'')(hB:B<=w'.heap.size):Kb S B U w w'' :=
 ⟨h.below.trans (hb.mono hB),λ b cs e fz ba he=>by
  have h1:=h.other b cs e fz ba he;rw[hb.block b (Array.getElem?_eq_some_iff.1 h1).1];exact h1,λ b ba hs=>(hb.block b (ex ba h.size)).trans (h.apart b ba hs)⟩
end Go.Proofs.YtepdklfkegkojaaGreatDoor
