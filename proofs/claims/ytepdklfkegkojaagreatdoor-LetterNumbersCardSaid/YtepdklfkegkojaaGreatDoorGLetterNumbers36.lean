/- Parts of one proof. Conditions: as each says. -/
import Derived.Test.YtepdklfkegkojaaGreatDoorGLetterNumbers0
import Derived.Test.YtepdklfkegkojaaGreatDoorGLetterNumbers16
import Derived.Deep.Upon
set_option linter.all false
set_option maxHeartbeats 16000000
set_option maxRecDepth 100000
namespace Go.Proofs.YtepdklfkegkojaaGreatDoor
open Go.Proofs.Tryz
open Go.RowKit
def bk (No:Nat->Prop) (w:World) (B:Nat) (v:Value) (n:Nat) (xs:List Value):Prop :=
 xs.length=n*1/\((v=.slice none 0 0/\n=0)∨∃g cap,v=.slice (some ⟨g,0,none⟩) n cap/\B<=g/\g<w.heap.size/\¬No g/\n<=cap/\cap<=maxLen/\(∀i,i<cap->(w.cell? ⟨g,i,none⟩).isSome=true/\w.frozen? ⟨g,i,none⟩=false)/\∀i,i<n->w.cell? ⟨g,i,none⟩=xs[i]?)
theorem bk.lt {No:Nat->Prop}{B n:Nat}{w:World}{v:Value}{xs:List Value}(h:bk No w B v n xs)(b:Nat)(hb:v.ownBlock=some b):B<=b/\b<w.heap.size:=by
 rcases h.2 with ⟨h1,_⟩|⟨g,c,h1,h2,h3,_⟩
 · rw[h1]at hb;simp[Value.ownBlock]at hb
 rw[h1]at hb;simp[Value.ownBlock]at hb;omega
theorem bk.no {No:Nat->Prop}{B n:Nat}{w:World}{v:Value}{xs:List Value}(h:bk No w B v n xs)(b:Nat)(hb:v.ownBlock=some b):¬No b:=by
 rcases h.2 with ⟨h1,_⟩|⟨g,c,h1,h2,h3,h4,_⟩
 · rw[h1]at hb;simp[Value.ownBlock]at hb
 rw[h1]at hb;simp[Value.ownBlock]at hb;subst hb;exact h4
theorem rY {No:Nat->Prop}{B n:Nat}{w:World}{v:Value}{xs:List Value}(h:bk No w B v n xs):∃a c,v=.slice a n c/\(a=none->n=0/\c=0)/\(0<c->∃g,a=some ⟨g,0,none⟩)/\n<=c:=by
 rcases h.2 with ⟨h1,hz⟩|⟨g,c,h1,_,_,_,h5,_⟩
 · exact⟨none,0,by rw[h1,hz],λ _=>⟨hz,rfl⟩,λ h=>by omega,by omega⟩
 exact⟨_,c,h1,by simp,λ _=>⟨g,rfl⟩,h5⟩
theorem bk.forms {No:Nat->Prop}{B n:Nat}{w:World}{v:Value}{xs:List Value}(h:bk No w B v n xs):(v=.slice none 0 0/\n=0)∨∃g c,v=.slice (some ⟨g,0,none⟩) n c:=by
 rcases h.2 with h1|⟨g,c,h1,_⟩
 · exact Or.inl h1
 exact Or.inr ⟨g,c,h1⟩
theorem bk.kept {No:Nat->Prop}{B n:Nat}{w w':World}{v:Value}{xs:List Value}{row:Option Nat}(h:bk No w B v n xs)(hg:w.grownBy w' row)(dj:v.ownBlock=none∨v.ownBlock≠row):bk No w' B v n xs:=by
 refine⟨h.1,?_⟩;rcases h.2 with h1|⟨g,c,h1,h2,h3,h4,h5,h6,h7,h8⟩
 · exact Or.inl h1
 have hb:=hg.block g h3 (by
  rw[h1]at dj;rcases dj with h|h
  · simp[Value.ownBlock]at h
  exact h)
 exact Or.inr ⟨g,c,h1,h2,ex h3 hg.size,h4,h5,h6,λ i hi=>⟨by rw[Ao (a:=⟨g,i,none⟩) hb];exact(h7 i hi).1,(World.frozen?_of_block (a:=⟨g,i,none⟩) hb).trans (h7 i hi).2⟩,λ i hi=>(Ao (a:=⟨g,i,none⟩) hb).trans (h8 i hi)⟩
theorem bk.alloc {No:Nat->Prop}{B n:Nat}{w:World}{v:Value}{xs:List Value}(h:bk No w B v n xs)(o:Obj):bk No (w.alloc o) B v n xs:=h.kept (nc w o none) (by cases v.ownBlock<;>simp)
theorem bk.below {No:Nat->Prop}{B n B2:Nat}{w w':World}{v:Value}{xs:List Value}(h:bk No w B v n xs)(hb:Below B2 w w')(hB:w.heap.size<=B2):bk No w' B v n xs :=
 h.kept (row:=none) ⟨hb.os,hb.tape,hb.output,hb.size,λ k hk _=>hb.block k (ex hk hB)⟩ (by cases v.ownBlock<;>simp)
theorem bk.re {No iu:Nat->Prop}{B n:Nat}{w:World}{v:Value}{xs:List Value}(h:bk No w B v n xs)(hh:∀g,g<w.heap.size->iu g->No g):bk iu w B v n xs:=by
 refine⟨h.1,?_⟩;rcases h.2 with h1|⟨g,c,h1,h2,h3,h4,h5⟩
 · exact Or.inl h1
 exact Or.inr ⟨g,c,h1,h2,h3,λ h=>h4 (hh g h3 h),h5⟩
theorem bk.cellAt {No:Nat->Prop}{B n m c g:Nat}{w:World}{xs:List Value}(h:bk No w B (.slice (some ⟨g,0,none⟩) m c) n xs)(i:Nat)(hi:i<n*1):w.cell? ⟨g,i,none⟩=xs[i]?:=by
 rcases h.2 with ⟨h1,_⟩|⟨g',c',h1,_,_,_,_,_,_,h8⟩
 · cases h1
 cases h1;exact h8 i (by omega)
theorem bk.frozenAt {No:Nat->Prop}{B n m c g:Nat}{w:World}{xs:List Value}(h:bk No w B (.slice (some ⟨g,0,none⟩) m c) n xs)(i:Nat)(hi:i<n*1):w.frozen? ⟨g,i,none⟩=false:=by
 rcases h.2 with ⟨h1,_⟩|⟨g',c',h1,_,_,_,h5,_,h7,_⟩
 · cases h1
 cases h1;exact(h7 i (by omega)).2
theorem addr_add (g j:Nat):(⟨g,0,none⟩:Addr).add j=⟨g,j,none⟩:=by unfold Addr.add;split<;>simp_all
theorem bk.cells {No:Nat->Prop}{B n m c:Nat}{w:World}{b:Addr}{xs:List Value}(h:bk No w B (.slice (some b) m c) n xs)(j:Nat)(u:Value)(hu:xs[j]?=some u):w.cell? (b.add j)=some u:=by
 have hj:j<n*1:=by rw[<-h.1];exact(List.getElem?_eq_some_iff.1 hu).1
 rcases h.2 with ⟨h1,_⟩|⟨g',c',h1,_,_,_,_,_,_,h8⟩
 · cases h1
 cases h1
 rw[addr_add,h8 j (by omega),hu]
theorem acV (w:World)(g q:Nat)(u:Value):w.grownBy (w.setCell ⟨g,q,none⟩ u) (some g):=⟨rfl,rfl,rfl,by simp,λ k _ dj=>heap_setCell_other _ _ _ _ (λ e=>dj (by rw[e]))⟩
theorem bk.stored {No:Nat->Prop}{B n m c g:Nat}{w:World}{xs:List Value}(h:bk No w B (.slice (some ⟨g,0,none⟩) m c) n xs)(q:Nat)(u:Value)(hq:q<n*1):bk No (w.setCell ⟨g,q,none⟩ u) B (.slice (some ⟨g,0,none⟩) m c) n (xs.set q u)/\w.grownBy (w.setCell ⟨g,q,none⟩ u) (some g):=by
 refine⟨⟨by rw[List.length_set];exact h.1,?_⟩,acV w g q u⟩;rcases h.2 with ⟨h1,_⟩|⟨g',c',h1,h2,h3,h4,h5,h6,h7,h8⟩
 · cases h1
 cases h1
 have hx:w.cell? ⟨g,q,none⟩=some (xs[q]'(by rw[h.1];exact hq)):=by rw[h8 q (by omega),List.getElem?_eq_getElem]
 refine Or.inr ⟨g,c,rfl,h2,by simpa using h3,h4,h5,h6,λ i hi=>⟨?_,by rw[World.frozen?_setCell];exact(h7 i hi).2⟩,λ i hi=>?_⟩
 ·
  by_cases e:q=i
  · subst e;rw[World.cell?_setCell_same _ _ _ hx];rfl
  rw[World.cell?_setCell_other _ _ _ _ (by simp[e])];exact(h7 i hi).1
 by_cases e:q=i
 ·
  subst e;rw[World.cell?_setCell_same _ _ _ hx,List.getElem?_set_self (by rw[h.1];exact hq)]
 rw[World.cell?_setCell_other _ _ _ _ (by simp[e]),List.getElem?_set_ne e,h8 i hi]
theorem bk.pre {No:Nat->Prop}{B n m c g:Nat}{w:World}{xs:List Value}(h:bk No w B (.slice (some ⟨g,0,none⟩) m c) m xs)(hn:n<=m):bk No w B (.slice (some ⟨g,0,none⟩) n c) n (xs.take (n*1)):=by
 refine⟨by rw[List.length_take,h.1];omega,?_⟩;rcases h.2 with ⟨h1,_⟩|⟨g',c',h1,h2,h3,h4,h5,h6,h7,h8⟩
 · cases h1
 cases h1
 exact Or.inr ⟨g,c,rfl,h2,h3,h4,by omega,h6,h7,λ i hi=>by rw[h8 i (by omega),List.getElem?_take_of_lt (by omega)]⟩
theorem bk.wD {No:Nat->Prop}{B base n:Nat}{w:World}{v:Value}{xs:List Value}(h:w.ownsRow base 5 1 v n xs)(hB:B<=base)(iH:∀g,base<=g->¬No g):bk No w B v n xs:=by
 refine⟨h.1,?_⟩;have h0:=h;rcases h.2 with h1|⟨g,c,cur,rfl,h2,h3,h4,h5,h6,h7⟩
 · exact Or.inl h1
 refine Or.inr ⟨g,c,rfl,by omega,(Array.getElem?_eq_some_iff.1 h3).1,iH g h2,h4,h5,λ i hi=>⟨?_,cO h0 i⟩,λ i hi=>ay h0 i (by omega)⟩;rw[ab h3 i,Array.getElem?_eq_getElem (show i<cur.size by omega)];rfl
def jK (No:Nat->Prop) (B K:Nat) (R:Nat->Value) (n:Nat->Nat) (C:Nat->List Value) (w:World):Prop:=∀j,j<K->bk No w B (R j) (n j) (C j)
theorem jK.upd {No:Nat->Prop}{B K:Nat}{R:Nat->Value}{n:Nat->Nat}{C:Nat->List Value}{w w':World}{k:Nat}{x:List Value}(h:jK No B K R n C w)(hs:pN K R)(hk:k<K)(hg:w.grownBy w' (R k).ownBlock)(hx:bk No w' B (R k) (n k) x):jK No B K R n (λ j=>if j=k then x else C j) w':=by
 intro j hj;by_cases e:j=k
 · subst e;simpa using hx
 simp only[e,if_false];exact bk.kept (h j hj) hg (hs j k hj hk e).ne
theorem jK.congr {No:Nat->Prop}{B K:Nat}{R:Nat->Value}{n:Nat->Nat}{C C':Nat->List Value}{w:World}(h:jK No B K R n C w)(e:∀j,j<K->C j=C' j):jK No B K R n C' w:=λ j hj=>e j hj▸h j hj
theorem Ds {No:Nat->Prop}{B n:Nat}{w:World}{u v:Value}{xs:List Value}(hu:∀g,u.ownBlock=some g->No g)(h:bk No w B v n xs):u.ownBlock=none∨u.ownBlock≠v.ownBlock:=by
 cases hb:u.ownBlock with
 | none=>exact Or.inl rfl
 | some b=>exact Or.inr λ e=>h.no b e.symm (hu b hb)
theorem yZ {No:Nat->Prop}{B n:Nat}{w:World}{u v:Value}{xs:List Value}(hu:∀g,u.ownBlock=some g->No g)(h:bk No w B v n xs):v.ownBlock=none∨v.ownBlock≠u.ownBlock:=by
 cases hb:v.ownBlock with
 | none=>exact Or.inl rfl
 | some b=>exact Or.inr λ e=>h.no b hb (hu b e.symm)
structure gp (S:Nat->Prop) (B:Nat) (w w':World):Prop where
 below:Below B w w'
 apart:∀b,b<w.heap.size->¬S b->w'.heap[b]?=w.heap[b]?
theorem gp.refl (S:Nat->Prop)(B:Nat)(w:World):gp S B w w:=⟨aj _ _,λ _ _ _=>rfl⟩
theorem gp.size {S:Nat->Prop}{B:Nat}{w w':World}(h:gp S B w w'):w.heap.size<=w'.heap.size:=h.below.size
theorem gp.drew {S:Nat->Prop}{B:Nat}{w w':World}(h:gp S B w w'):gp S B w w'.drew:=⟨h.below.drew,h.apart⟩
theorem gp.alloc {S:Nat->Prop}{B:Nat}{w w':World}(h:gp S B w w')(hB:B<=w'.heap.size)(o:Obj):gp S B w (w'.alloc o) :=
 ⟨h.below.alloc hB o,λ b hb hs=>((nc w' o none).block b (ex hb h.size) (by simp)).trans (h.apart b hb hs)⟩
theorem gp.mO {S:Nat->Prop}{B g:Nat}{w w' w'':World}(h:gp S B w w')(hg:w'.grownBy w'' (some g))(hB:B<=w'.heap.size)(iw:B<=g)(hS:S g∨w.heap.size<=g):gp S B w w'' :=
 ⟨h.below.grown hg hB (λ k hk=>by cases hk;exact iw),λ b hb hs=>(hg.block b (ex hb h.size) (by intro e;cases e;rcases hS with h2|h2;exact hs h2;omega)).trans (h.apart b hb hs)⟩
theorem gp.rk {S:Nat->Prop}{B:Nat}{w w' w'':World}(h:gp S B w w')(hg:w'.grownBy w'' none)(hB:B<=w'.heap.size):gp S B w w'' :=
 ⟨h.below.grown hg hB (λ k hk=>by cases hk),λ b hb hs=>(hg.block b (ex hb h.size) (by simp)).trans (h.apart b hb hs)⟩
theorem gp.rl {S:Nat->Prop}{B g:Nat}{w w' w'':World}(h:gp S B w w')(hg:w'.grownBy w'' (some g))(hB:B<=w'.heap.size)(hw:w.heap.size<=g)(iw:B<=g):gp S B w w'':=h.mO hg hB iw (Or.inr hw)
theorem gp.jd {S:Nat->Prop}{B:Nat}{w w' w'':World}(h:gp S B w w')(hb:Below w'.heap.size w' w'')(hB:B<=w'.heap.size):gp S B w w'' :=
 ⟨h.below.trans (hb.mono hB),λ b ba hs=>(hb.block b (ex ba h.size)).trans (h.apart b ba hs)⟩
structure tr (No:Nat->Prop) (B k hs:Nat) (r:Value) (n q:Nat) (v:Value) (w:World):Prop where
 one:bk No w B v (n+q) (aw cj k (n+q))
 two:bk No w B r n (aw cj k n)
 at_:(∃a c,v=.slice a (n+q) c/\r=.slice a n c)∨∀b,v.ownBlock=some b->hs<=b
theorem tr.blk {No:Nat->Prop}{B k hs:Nat}{r:Value}{n q:Nat}{v:Value}{w:World}(h:tr No B k hs r n q v w):v.ownBlock=r.ownBlock∨∀b,v.ownBlock=some b->hs<=b:=by
 rcases h.at_ with ⟨a,c,h1,h2⟩|h1
 · left;rw[h1,h2];cases a<;>rfl
 exact Or.inr h1
theorem acW {No:Nat->Prop}{B k hs:Nat}{a:Option Addr}{n c:Nat}{w:World}(h:bk No w B (.slice a n c) n (aw cj k n)):tr No B k hs (.slice a n c) n 0 (.slice a n c) w:=⟨h,h,Or.inl ⟨a,c,rfl,rfl⟩⟩
theorem UZ {No:Nat->Prop}{B k hs:Nat}{r:Value}{n q:Nat}{v:Value}{w:World}(h:tr No B k hs r n q v w)(o:Obj):tr No B k hs r n q v (w.alloc o):=⟨h.one.alloc o,h.two.alloc o,h.at_⟩
theorem acX {No:Nat->Prop}{B k hs:Nat}{r:Value}{n q g c:Nat}{w w':World}(h:tr No B k hs r n q (.slice (some ⟨g,0,none⟩) (n+q) c) w)(hr:∀b,r.ownBlock=some b->b<hs)
  (az:bk No w' B (.slice (some ⟨g,0,none⟩) (n+q+1) c) (n+q+1) (aw cj k (n+q)++cj k (n+q))) (hg:w.grownBy w' (some g)):tr No B k hs r n (q+1) (.slice (some ⟨g,0,none⟩) (n+q+1) c) w':=by
 have Bc:bk No w' B (.slice (some ⟨g,0,none⟩) (n+q+1) c) (n+q+1) (aw cj k (n+q+1)):=by rw[qO];exact az
 rcases h.at_ with ⟨a,c2,h1,h2⟩|h1
 ·
  cases h1
  refine⟨Bc,?_,Or.inl ⟨_,_,rfl,h2⟩⟩;have h3:=bk.pre Bc (show n<=n+q+1 by omega);rw[show n+q+1=n+(q+1) by omega,wu oo]at h3;rw[h2];exact h3
 have hge:=h1 g rfl;refine⟨Bc,bk.kept h.two hg ?_,Or.inr h1⟩;cases ny:r.ownBlock with
 | none=>exact Or.inl rfl
 | some b=>exact Or.inr λ he=>by have:=hr b ny;cases he;omega
theorem acY {No:Nat->Prop}{B k hs:Nat}{r:Value}{n q:Nat}{v v':Value}{w w':World}(h:tr No B k hs r n q v w)(hw:hs<=w.heap.size)(hB:B<=w.heap.size)(iH:∀g,w.heap.size<=g->¬No g)
  (az:w'.ownsRow w.heap.size 5 1 v' (n+q+1) (aw cj k (n+q)++cj k (n+q))) (hg:w.grownBy w' none):tr No B k hs r n (q+1) v' w':=by
 refine⟨?_,bk.kept h.two hg (by cases r.ownBlock<;>simp),Or.inr λ b hb=>?_⟩
 ·
  show bk No w' B v' (n+(q+1)) (aw cj k (n+(q+1)));rw[<-Nat.add_assoc,qO];exact bk.wD az hB iH
 have:=(az.lt b hb).1;omega
theorem U0 {No:Nat->Prop}{w:World}{B B2 k hs n n2 q g c:Nat}{r u:Value}{xs:List Value}(h:tr No B k hs r n q (.slice (some ⟨g,0,none⟩) (n+q) c) w)(_:bk No w B2 u n2 xs)(fM:∀b,u.ownBlock=some b->b<hs)(jS:Sep u r):u.ownBlock=none∨u.ownBlock≠some g:=by
 cases hub:u.ownBlock with
 | none=>exact Or.inl rfl
 | some b =>
  right
  intro he;cases he
  rcases h.blk with h1|h1
  · exact jS g hub h1.symm
  have:=h1 g rfl;have:=fM g hub;omega
theorem size_setCells (g:Nat):∀(vs:List Value) (o:Nat) (w:World),(w.setCells g o vs).heap.size=w.heap.size
 | [],_,_=>rfl
 | v :: r,o,w=>by rw[World.setCells,size_setCells g r];simp
theorem U1 (g:Nat):∀(vs:List Value) (o:Nat) (w:World),(w.setCells g o vs).tape=w.tape
 | [],_,_=>rfl
 | v :: r,o,w=>by rw[World.setCells,U1 g r];rfl
theorem Kv {P:Program}(No:Nat->Prop)(B:Nat)(w:World){ops:Array Oper}{rest:List Oper}{o:Oper}{a:Act}{Q:Exit->Act->World->Prop}
  (hg:o.guard=none) (s x:Operand) (t:TypeId) (hop:o.op=Op.call { callee:=Callee.builtin Builtin.append,args:=#[s,x],argTypes:=#[t,t] })
  (e:TypeId) (i:TypeInfo) (h1:P.underlying t=some (.slice e)) (h2:P.info? e=some i) (h4:i.size=1)
  (g k cap:Nat) (xs:List Value) (hs:a.eval s=.slice (some ⟨g,0,none⟩) k cap) (az:bk No w B (.slice (some ⟨g,0,none⟩) k cap) k xs) (ad:Addr) (m c:Nat) (news:List Value) (hx:a.eval x=.slice (some ad) m c) (hn:news.length=m*1)
  (hc:∀j u,news[j]?=some u->w.cell? (ad.add j)=some u) (h1c:∀u∈news,u.oneCell'=true) (b1:k+m<=cap)
  (hK:∀w',bk No w' B (.slice (some ⟨g,0,none⟩) (k+m) cap) (k+m) (xs++news)->w.grownBy w' (some g)->wpList P ops Q rest (a.put o.dst (.slice (some ⟨g,0,none⟩) (k+m) cap)) w') :
  wpList P ops Q (o :: rest) a w:=by
 refine wpList_plain hg λ K hK'=>?_
 obtain⟨iF,hh⟩:=az;rcases hh with ⟨h0,_⟩|⟨g',c',h0,k2,k3,k4,k5,k6,k7,k8⟩
 · cases h0
 cases h0
 have hsome:∀j,j<news.length->(w.cell? ⟨g,k+j,none⟩).isSome=true:=λ j hj=>(k7 (k+j) (by omega)).1
 have hrun:=run_append_room_cells (P:=P) w t o.type e i h1 h2 g 0 k cap ad m c news (by rw[h4];exact hn) hc h1c b1 (λ j hj=>by rw[h4];simpa using hsome j hj) (λ j hj=>by rw[h4];simpa using(k7 (k+j) (by omega)).2);rw[h4,Nat.zero_add,Nat.mul_one]at hrun;have iq:w.grownBy (w.setCells g k news) (some g):=⟨World.os_setCells _ _ _ _,U1 _ _ _ _,World.output_setCells _ _ _ _,by rw[size_setCells];exact aa _,λ b hb dj=>World.heap_setCells_other _ _ _ _ hb (λ e=>dj (by rw[e]))⟩
 have de:bk No (w.setCells g k news) B (.slice (some ⟨g,0,none⟩) (k+m) cap) (k+m) (xs++news):=by
  refine⟨by rw[List.length_append,iF,hn];omega,Or.inr ⟨g,cap,rfl,k2,by rw[size_setCells];exact k3,k4,b1,k6,λ j hj=>⟨?_,by rw[World.frozen?_setCells];exact(k7 j hj).2⟩,λ j hj=>?_⟩⟩
  ·
   by_cases gq:k<=j/\j<k+news.length
   ·
    have:=World.cell?_setCells_in g news k w hsome (j-k) (by omega);rw[show k+(j-k)=j by omega]at this;rw[this];rfl
   rw[World.cell?_setCells_out g news k w ⟨g,j,none⟩ (λ _ _=>by show j<k∨k+news.length<=j;omega)];exact(k7 j hj).1
  by_cases gq:k<=j
  ·
   have:=World.cell?_setCells_in g news k w hsome (j-k) (by omega);rw[show k+(j-k)=j by omega]at this;rw[this,zd (by omega),show j-xs.length=j-k by omega,List.getElem?_eq_getElem]
  rw[World.cell?_setCells_out g news k w ⟨g,j,none⟩ (λ _ _=>by show j<k∨k+news.length<=j;omega),k8 j (by omega),gu (by omega)]
 unfold Oper.wp;simp[execOp,hop,resolve,invoke,builtin,hs,hx,hrun,Result.andThen];exact hK' _ _ (hK _ de iq)
theorem acZ (No:Nat->Prop)(B K:Nat)(lo:Option Addr)(lc:Nat)(R:Nat->Value)(n:Nat->Nat)(C0:Nat->List Value)(w:World)
  (hL:w.ownsRow B 25 1 (.slice lo K lc) K ((List.range K).map R)) (hR:jK No B K R n C0 w) (U2:∀g,(Value.slice lo K lc).ownBlock=some g->No g) (U3:∀g,No g->g<w.heap.size) (jS:pN K R) (hK:K<=100000) (hn:∀j,j<K->n j<=1099511627776) (hB:B<=w.heap.size) :
  Calls prog 100 #[.slice lo K lc] w λ e w'=>e=.returned (.bool true)/\gp (aM K R) B w w':=by
 have HL:=Hd hL;have HR:=Hd hR;have HS:=Hd jS;have HN:=Hd hn;have U4:=Hd U2;have HNS:=Hd U3;clear hL hR jS hn U2 U3;go_enter func100,ntmps100
 go_wp2_with fail
 go_loopw [3,4] (λ i _ wr=>∃k:Nat,k<=K/\i=.int .i64 k/\(∃C,jK No B K R n C wr/\∀j,j<k->C j=aw cj j (n j))/\wr.ownsRow B 25 1 (.slice lo K lc) K ((List.range K).map R)/\gp (aM K R) B w wr) (λ i _ _=>K-(intOf i).toNat)
 exact⟨0,by omega,rfl,⟨C0,HR.out,λ j hj=>by omega⟩,HL.out,gp.refl _ _ _⟩
 obtain⟨k,hk,rfl,gO,bG,ag⟩:=hrel;have fW:=Hd gO;have be:=Hd bG;clear gO bG;by_cases ae:k<K
 ·
  obtain⟨C,hC,je⟩:=fW.out;obtain⟨a,c,aW,dx,ch,dg⟩:=rY (hC k ae);have cX:=HN.out k ae;obtain⟨nk,bC⟩:∃nk,nk=n k:=⟨_,rfl⟩;rw[<-bC]at aW dx cX dg;obtain⟨lb,jf,dD⟩:=iP be.out (by omega);cases dD
  have cS:=Hd aW;have bK:=Hd bC;have HC:=Hd hC;have sJ:=Hd je;have eG:=Hd ch;have i1:(k:Int)<K:=by omega
  clear aW bC hC je ch dx;go_wp2_with fail
  obtain⟨wo,rfl⟩:∃wo:World,wo=wr:=⟨_,rfl⟩;go_loopw [4] (λ i wr=>∃q:Nat,q<=nk/\i=.int .i64 q/\(∃C,jK No B K R n C wr/\(∀j,j<k->C j=aw cj j (n j))/\(C k).take q=aw cj k q)/\wr.ownsRow B 25 1 (.slice (some ⟨lb,0,none⟩) K lc) K ((List.range K).map R)/\gp (aM K R) B w wr) (λ i _=>nk-(intOf i).toNat)
  exact⟨0,by omega,rfl,⟨C,HC.out,sJ.out,by simp[aw]⟩,be.out,ag⟩
  clear ag;obtain⟨q,hq,rfl,gO,bG,ag⟩:=hrel;have oS:=Hd gO;have cT:=Hd bG
  have c0:wr.cell? ⟨lb,k,none⟩=some (.slice a nk c):=by
   rw[ay bG k (by omega),dp R K k ae,cS.out]
  clear gO bG;by_cases eA:q<nk
  ·
   obtain⟨g,rfl⟩:=eG.out (by omega);have i2:(q:Int)<nk:=by omega
   go_wp2_with fail
   go_still_tail 9,(by kernel_rfl)
   still_call ((pO _ _ k q rfl rfl (by omega) (by omega) _).mono λ _ _ ⟨h,hw⟩=>⟨h,hw.symm⟩)
   repeat still_step
   refine wpStill_nil ?_;change wpList _ _ _ _ _ wr.drew;obtain⟨C2,fP,ld,lg⟩:=oS.out;have uO:jK No B K R n C2 wr.drew:=fP;have ep:wr.drew.ownsRow B 25 1 (.slice (some ⟨lb,0,none⟩) K lc) K ((List.range K).map R):=cT.out;have ap:gp (aM K R) B w wr.drew:=ag.drew;generalize wr.drew=w3 at uO ep ap ⊢;have de:=uO k ae;rw[cS.out,<-bK.out]at de;have uP:q<(C2 k).length:=by have:=de.1;omega
   have d0:w3.cell? ⟨g,q,none⟩=some ((C2 k)[q]):=by
    rw[bk.cellAt de q (by omega),bu uP]
   have f0:w3.frozen? ⟨g,q,none⟩=false:=bk.frozenAt de q (by omega);have aP:=bk.stored de q (.int .u8 (ez k q)) (by omega);have aN:=Hd aP;have lP:=Hd de;have sK:=Hd uO;have jg:=Hd ep;generalize (C2 k)[q]=old at d0;clear aP de uO ep fP c0;go_wp2_with fail
   go_roundw
   case rel =>
    have cJ:(R k).ownBlock=some g:=by rw[cS.out];rfl
    refine⟨q+1,by omega,by go_num,⟨_,jK.upd sK.out HS.out ae (by rw[cJ];exact aN.out.2) (by rw[cS.out,<-bK.out];exact aN.out.1),λ j hj=>?_,?_⟩,?_,?_⟩
    ·
     have e:¬j=k:=by omega
     simp only[e,if_false];exact ld j hj
    ·
     simp only[if_true];rw[jF uP,lg,qO];rfl
    · exact aX jg.out aN.out.2 (Ds U4.out lP.out)
    exact ap.mO aN.out.2 (by have:=ap.size;omega) (lP.out.lt g rfl).1 (Or.inl ⟨k,ae,cJ⟩)
   simp[intOf];omega
  obtain rfl:q=nk:=by omega
  go_wp2_with fail
  go_roundw
  case rel =>
   obtain⟨C2,fP,ld,lg⟩:=oS.out;refine⟨k+1,by omega,by go_num,⟨C2,fP,λ j hj=>?_⟩,cT.out,ag⟩;by_cases e:j=k
   ·
    subst e;rw[<-bK.out,<-lg,fE (by have:=(fP j ae).1;rw[<-bK.out]at this;omega)]
   exact ld j (by omega)
  simp[intOf];omega
 obtain rfl:K=k:=by omega
 obtain⟨wo,rfl⟩:∃wo:World,wo=wr:=⟨_,rfl⟩
 have pB:jK No B K R n (λ j=>aw cj j (n j)) wo:=by
  obtain⟨C,hC,je⟩:=fW.out;exact hC.congr je
 have hmk:=run_make_row' (P:=prog) 53 25 (.slice none 0 0) 24 underlying53 IB rfl .i64 .i64 K (by omega) (by omega);obtain⟨iu,Dt⟩:∃iu:Nat->Prop,iu=λ g=>No g∨g=wo.heap.size:=⟨_,rfl⟩
 have bP:=ag.size;have U5:=Hd (show ∀g,(Value.slice lo K lc).ownBlock=some g->iu g from λ g hg=>by rw[Dt];exact Or.inl (U4.out g hg));have u6:=Hd (show ∀g,(Value.slice (some ⟨wo.heap.size,0,none⟩) K K).ownBlock=some g->iu g from λ g hg=>by rw[Dt];exact Or.inr (by simpa[Value.ownBlock]using hg.symm))
 have U6:=Hd (show ∀g,wo.heap.size<g->¬iu g from λ g hg h=>by
  rw[Dt]at h;rcases h with h|h
  · have:=HNS.out g h;omega
  omega)
 have U7:jK iu B K R n (λ j=>aw cj j (n j)) wo:=λ j hj=>bk.re (pB j hj) (λ g hg h=>by
  rw[Dt]at h;rcases h with h|h
  · exact h
  omega)
 clear Dt;have pC:w.heap.size<=wo.heap.size:=bP;have gP:jK iu B K R n (λ j=>aw cj j (n j)) (wo.alloc (.cells (madeCells #[.slice none 0 0] K) 25)):=λ j hj=>bk.alloc (U7 j hj) _
 have cG:=nU be.out (.cells (madeCells #[.slice none 0 0] K) 25);have ax:=oH (base:=B) (e:=25) (size:=1) wo (madeCells #[.slice none 0 0] K) K (by omega) (by unfold maxLen;omega) (by simp[size_madeCells]);rw[uN]at ax;have am:=ag.alloc (by omega) (.cells (madeCells #[.slice none 0 0] K) 25)
 have oT:Sep (.slice lo K lc) (.slice (some ⟨wo.heap.size,0,none⟩) K K):=λ b hb bi=>by
  have:=(be.out.lt b hb).2;simp[Value.ownBlock]at bi;omega
 have eu:=Hd gP;have cY:=Hd cG;have aZ:=Hd ax;have oU:=Hd oT;clear pB U7 gP cG ax oT fW be;obtain⟨i0,hi,bo,bp,aU⟩:=info_parts infoByte;go_wp2_with fail
 generalize wo.alloc (.cells (madeCells #[.slice none 0 0] K) 25)=w1 at eu cY aZ am ⊢;clear hmk
 go_loopw [6,7,8] (λ i _ _ wr=>∃(k:Nat) (V:Nat->Value),k<=K/\i=.int .i64 k/\jK iu B K R n (λ j=>aw cj j (n j)) wr/\(∀j,j<k->bk iu wr B (V j) (n j+64) (aw cj j (n j+64)))/\(∀i j,i<k->j<K->i≠j->Sep (V i) (R j))/\(∀i j,i<k->j<k->i≠j->Sep (V i) (V j)) /\
  wr.ownsRow B 25 1 (.slice lo K lc) K ((List.range K).map R)/\wr.ownsRow B 25 1 (.slice (some ⟨wo.heap.size,0,none⟩) K K) K ((List.range K).map λ j=>if j<k then V j else .slice none 0 0)/\gp (aM K R) B w wr) (λ i _ _ _=>K-(intOf i).toNat)
 exact⟨0,λ _=>.slice none 0 0,by omega,rfl,eu.out,λ j hj=>by omega,λ i j hi=>by omega,λ i j hi=>by omega,cY.out,by simpa using aZ.out,am⟩
 clear ag bP am eu cY aZ;obtain⟨k,V,hk,rfl,hP,hV,gC,gD,bG,cN,ag⟩:=hrel;have HP:=Hd hP;have HV:=Hd hV;have cI:=Hd gC;have gE:=Hd gD;have be:=Hd bG;have dE:=Hd cN;clear hP hV gC gD bG cN;by_cases ae:k<K
 ·
  obtain⟨a,c,aW,dx,ch,dg⟩:=rY (HP.out k ae);have cX:=HN.out k ae;obtain⟨nk,bC⟩:∃nk,nk=n k:=⟨_,rfl⟩;rw[<-bC]at aW dx cX dg;obtain⟨lb,jf,dD⟩:=iP be.out (by omega);cases dD
  have c0:wr.cell? ⟨lb,k,none⟩=some (.slice a nk c):=by
   rw[ay be.out k (by omega),dp R K k ae,aW]
  have cS:=Hd aW;have bK:=Hd bC;have i1:(k:Int)<K:=by omega
  have kU:=ag.size;clear aW bC ch dx;go_wp2_with fail
  obtain⟨wi,rfl⟩:∃wi:World,wi=wr:=⟨_,rfl⟩;have hwi:w.heap.size<=wi.heap.size:=ag.size;clear c0
  go_loopw [7,8] (λ v i wr=>∃q:Nat,q<=64/\i=.int .i64 q/\tr iu B k wi.heap.size (R k) nk q v wr/\(∀j,j<K->j≠k->bk iu wr B (R j) (n j) (aw cj j (n j)))/\(∀j,j<k->bk iu wr B (V j) (n j+64) (aw cj j (n j+64))) /\
   wr.ownsRow B 25 1 (.slice (some ⟨lb,0,none⟩) K lc) K ((List.range K).map R)/\wr.ownsRow B 25 1 (.slice (some ⟨wo.heap.size,0,none⟩) K K) K ((List.range K).map λ j=>if j<k then V j else .slice none 0 0)/\gp (aM K R) B w wr/\wi.heap.size<=wr.heap.size) (λ _ i _=>64-(intOf i).toNat)
  exact⟨0,by omega,rfl,by rw[cS.out];exact acW (by have:=HP.out k ae;dsimp only at this;rw[cS.out,<-bK.out]at this;exact this),λ j hj _=>HP.out j hj,HV.out,be.out,dE.out,ag,aa _⟩
  clear ag kU;obtain⟨q,hq,rfl,iq,oW,oX,bG,cN,ag,kU⟩:=hrel;have iv:=ag.size;have bE:=Hd iq;have eD:=Hd oW;have eO:=Hd oX;have cT:=Hd bG;have bB:=Hd cN;clear iq oW oX bG cN;by_cases eA:q<64
  ·
   have c0:wr.cell? ⟨lb,k,none⟩=some (.slice a nk c):=by
    rw[ay cT.out k (by omega),dp R K k ae,cS.out]
   obtain⟨va,vc,hv,bR,ie,gA⟩:=rY bE.out.one;subst hv;have i2:(q:Int)<64:=by omega
   have fv:=Hd ie;have gl:=Hd bR;clear ie bR;have cJ:∀j,j<K->∀b,(R j).ownBlock=some b->b<wi.heap.size:=λ j hj b hb=>((HP.out j hj).lt b hb).2
   have mN:∀j,j<k->∀b,(V j).ownBlock=some b->b<wi.heap.size:=λ j hj b hb=>((HV.out j hj).lt b hb).2
   have oZ:=Hd cJ;have sM:=Hd mN;clear cJ mN;by_cases fT:nk+q+1<=vc
   ·
    obtain⟨g,rfl⟩:=fv.out (by omega);go_wp2_with (first|(go_at_call 52;(with_reducible refine(pO _ _ k (nk+q) rfl (by omega) (by omega) (by omega) _).mono ?_);rintro e w' ⟨rfl,rfl⟩)|(at_builtin;refine Kv iu B _ rfl (.tmp 57) (.tmp 67) 25 rfl 5 i0 hJ hi bp g (nk+q) vc (aw cj k (nk+q)) rfl (bk.alloc bE.out.one _) ⟨wr.heap.size,0,none⟩ 1 1 [.int .u8 (ez k (nk+q))] rfl rfl (cell_one_new _ _ _) (by simp[Value.oneCell']) fT ?_))
    intro w3 bj aL;have cD:=UZ bE.out (.cells #[.int .u8 (ez k (nk+q))] 5);have gF:=acX cD (oZ.out k ae) bj aL
    have gG:∀j,j<K->j≠k->bk iu w3 B (R j) (n j) (aw cj j (n j)):=λ j hj eQ =>
     bk.kept ((eD.out j hj eQ).alloc _) aL (U0 cD ((eD.out j hj eQ).alloc _) (oZ.out j hj) (HS.out j k hj ae eQ))
    have gH:∀j,j<k->bk iu w3 B (V j) (n j+64) (aw cj j (n j+64)):=λ j hj =>
     bk.kept ((eO.out j hj).alloc _) aL (U0 cD ((eO.out j hj).alloc _) (sM.out j hj) (cI.out j k hj ae (by omega)))
    have ep:=aX (cT.out.alloc (.cells #[.int .u8 (ez k (nk+q))] 5)) aL (Ds U5.out cD.one);have gQ:=aX (bB.out.alloc (.cells #[.int .u8 (ez k (nk+q))] 5)) aL (Ds u6.out cD.one);have ap:gp (aM K R) B w w3:=(ag.alloc (by omega) _).mO aL (by simp;omega) (cD.one.lt g rfl).1 (cD.blk.imp (λ e=>⟨k,ae,e.symm⟩) (λ h=>by have:=h g rfl;omega));have cA:wi.heap.size<=w3.heap.size:=by have:=aL.size;simp at this;omega
    have kC:=Hd gF;have lG:=Hd gG;have lh:=Hd gH;have li:=Hd ep;have jG:=Hd gQ;clear bj aL cD gF gG gH ep gQ c0;go_wp2_with fail
    go_roundw
    exact⟨q+1,by omega,by go_num,by have:=kC.out;rwa [show nk+q+1=nk+(q+1) by omega]at this,lG.out,lh.out,li.out,jG.out,ap,cA⟩
    simp[intOf];omega
   have fC:=Hd (eE oo k (nk+q))
   have bD:=Hd (show ∀b,va=some b->∀(j:Nat) u,(aw cj k (nk+q))[j]?=some u->(wr.alloc (.cells #[.int .u8 (ez k (nk+q))] 5)).cell? (b.add j)=some u from λ b hb j u hu=>by
    have h1:=bE.out.one.alloc (.cells #[.int .u8 (ez k (nk+q))] 5);rw[hb]at h1;rcases bk.forms h1 with ⟨h2,_⟩|⟨g2,c2,h2⟩
    · cases h2
    injection h2 with h3 _ _
    injection h3 with h3
    subst h3;exact bk.cells h1 j u hu)
   have dC:=bD.out;have eS:=fC.out;have bR:=gl.out;go_wp2_with (first|(go_at_call 52;(with_reducible refine(pO _ _ k (nk+q) rfl (by omega) (by omega) (by omega) _).mono ?_);rintro e w' ⟨rfl,rfl⟩)|(at_builtin;refine wpList_append_grows _ rfl (.tmp 57) (.tmp 67) 25 rfl 5 i0 (.int .u8 0) 1 1 hJ hi bo bp aU rfl (by decide) va (nk+q) vc (aw cj k (nk+q)) rfl bR eS dC ⟨wr.heap.size,0,none⟩ 1 1 [.int .u8 (ez k (nk+q))] rfl rfl (cell_one_new _ _ _) (by simp[Value.oneCell']) (by omega) (by unfold maxLen;omega) (by omega) ?_))
   intro v3 w3 bj aL;have cD:=UZ bE.out (.cells #[.int .u8 (ez k (nk+q))] 5);have gF:=acY cD (by simp;omega) (by simp;omega) (λ g hg=>U6.out g (by have:=(bB.out.lt wo.heap.size rfl).2;simp at hg;omega)) (by rw[World.size_alloc];exact bj) aL
   have gG:∀j,j<K->j≠k->bk iu w3 B (R j) (n j) (aw cj j (n j)):=λ j hj eQ =>
    bk.kept ((eD.out j hj eQ).alloc _) aL (by cases (R j).ownBlock<;>simp)
   have gH:∀j,j<k->bk iu w3 B (V j) (n j+64) (aw cj j (n j+64)):=λ j hj =>
    bk.kept ((eO.out j hj).alloc _) aL (by cases (V j).ownBlock<;>simp)
   have ep:=aX (cT.out.alloc (.cells #[.int .u8 (ez k (nk+q))] 5)) aL (by simp[Value.ownBlock]);have gQ:=aX (bB.out.alloc (.cells #[.int .u8 (ez k (nk+q))] 5)) aL (by simp[Value.ownBlock]);have ap:gp (aM K R) B w w3:=(ag.alloc (by omega) _).rk aL (by simp;omega);have cA:wi.heap.size<=w3.heap.size:=by have:=aL.size;simp at this;omega
   have kC:=Hd gF;have lG:=Hd gG;have lh:=Hd gH;have li:=Hd ep;have jG:=Hd gQ;clear bj aL cD gF gG gH ep gQ c0 dC eS bR;go_wp2_with fail
   go_roundw
   exact⟨q+1,by omega,by go_num,kC.out,lG.out,lh.out,li.out,jG.out,ap,cA⟩
   simp[intOf];omega
  obtain rfl:64=q:=by omega
  obtain⟨va,vc,hv,_,_,_⟩:=rY bE.out.one;subst hv
  have c1:wr.cell? ⟨wo.heap.size,k,none⟩=some (.slice none 0 0):=by
   rw[ay bB.out k (by omega),dp _ K k ae];simp
  have f1:wr.frozen? ⟨wo.heap.size,k,none⟩=false:=cO bB.out _;have aP:=cU bB.out k (.slice va (nk+64) vc);rw[rj]at aP;have aN:=Hd aP;clear aP;go_wp2_with fail
  go_roundw
  case rel =>
   have hg:=aN.out.2;have lj:B<=wo.heap.size:=(bB.out.lt _ rfl).1;refine⟨k+1,λ j=>if j=k then .slice va (nk+64) vc else V j,by omega,by go_num,λ j hj=>?_,λ j hj=>?_,λ i j hi hj bI=>?_,λ i j hi hj bI=>?_,aX cT.out hg oU.out.ne,?_,ag.rl hg (by have:=ag.size;omega) pC lj⟩
   ·
    by_cases e:j=k
    ·
     subst e;have h1:=bk.kept bE.out.two hg (yZ u6.out bE.out.two);rw[bK.out]at h1 ⊢;exact h1
    exact bk.kept (eD.out j hj e) hg (yZ u6.out (eD.out j hj e))
   ·
    by_cases e:j=k
    ·
     subst e;simp only[if_true];have h1:=bk.kept bE.out.one hg (yZ u6.out bE.out.one);rw[<-bK.out];exact h1
    simp only[e,if_false];exact bk.kept (eO.out j (by omega)) hg (yZ u6.out (eO.out j (by omega)))
   ·
    by_cases e:i=k
    ·
     subst e;simp only[if_true];intro b hb bi;rcases bE.out.blk with h1|h1
     · exact HS.out i j ae hj bI b (h1▸hb) bi
     have:=h1 b hb;have:=((HP.out j hj).lt b bi).2;omega
    simp only[e,if_false];exact cI.out i j (by omega) hj bI
   ·
    by_cases e:i=k
    ·
     have e2:¬j=k:=λ h=>bI (e.trans h.symm)
     subst e;simp only[if_true,e2,if_false];intro b hb bi;rcases bE.out.blk with h1|h1
     · exact cI.out j i (by omega) ae (Ne.symm bI) b bi (h1▸hb)
     have:=h1 b hb;have:=((HV.out j (by omega)).lt b bi).2;omega
    by_cases e2:j=k
    ·
     subst e2;simp only[if_true,e,if_false];intro b hb bi;rcases bE.out.blk with h1|h1
     · exact cI.out i j (by omega) ae bI b hb (h1▸bi)
     have:=h1 b bi;have:=((HV.out i (by omega)).lt b hb).2;omega
    simp only[e,e2,if_false];exact gE.out i j (by omega) (by omega) bI
   have h1:=aN.out.1
   have e:(λ j=>if j=k then(Value.slice va (nk+64) vc)else if j<k then V j else .slice none 0 0)=λ j=>if j<k+1 then(if j=k then(Value.slice va (nk+64) vc)else V j)else .slice none 0 0:=by
    funext j
    by_cases e1:j=k
    · subst e1;simp
    by_cases e2:j<k
    · simp[e1,e2,show j<k+1 by omega]
    simp[e1,e2,show ¬j<k+1 by omega]
   rw[e]at h1;exact h1
  simp[intOf];omega
 obtain rfl:K=k:=by omega
 obtain⟨wb,rfl⟩:∃wb:World,wb=wr:=⟨_,rfl⟩
 have bB:=Hd (show wb.ownsRow B 25 1 (.slice (some ⟨wo.heap.size,0,none⟩) K K) K ((List.range K).map V) by
  have h1:=dE.out;have e:((List.range K).map λ j=>if j<K then V j else .slice none 0 0)=(List.range K).map V:=vz λ j hj=>by simp[List.mem_range.1 hj]
  rwa [e]at h1)
 clear dE;have iv:=ag.size;have cw:=(bB.out.lt _ rfl).2;go_wp2_with fail
 go_loopw [9,10] (λ i _ wr=>∃k:Nat,k<=K/\i=.int .i64 k/\Below wb.heap.size wb wr) (λ i _ _=>K-(intOf i).toNat)
 exact⟨0,by omega,rfl,aj _ _⟩
 obtain⟨k,hk,rfl,ak⟩:=hrel;by_cases ae:k<K
 ·
  obtain⟨a,c,aW,_,ch,dg⟩:=rY (HP.out k ae);obtain⟨va,vc,ci,_,gI,gA⟩:=rY (HV.out k ae);have cX:=HN.out k ae;have cZ:=HV.out k ae;have bh:=HP.out k ae;obtain⟨nk,bC⟩:∃nk,nk=n k:=⟨_,rfl⟩;rw[aW]at bh;rw[ci]at cZ;simp only[<-bC]at aW ci cX dg gA cZ bh;obtain⟨lb,jf,dD⟩:=iP be.out (by omega);cases dD
  have cl:wb.cell? ⟨lb,k,none⟩=some (.slice a nk c):=by
   rw[ay be.out k (by omega),dp R K k ae,aW]
  have cg:wb.cell? ⟨wo.heap.size,k,none⟩=some (.slice va (nk+64) vc):=by
   rw[ay bB.out k (by omega),dp V K k ae,ci]
  have eZ:=(be.out.lt lb rfl).2;have cz:=Hd cZ;have cr:=Hd bh;have fv:=Hd gI;have eG:=Hd ch;have i1:(k:Int)<K:=by omega
  clear aW ci bC cZ bh gI ch;go_wp2_with fail
  go_loopw [10] (λ i wr=>∃q:Nat,q<=nk+64/\i=.int .i64 q/\Below wb.heap.size wb wr) (λ i _=>nk+64-(intOf i).toNat)
  exact⟨0,by omega,rfl,ak⟩
  clear ak;obtain⟨q,hq,rfl,ak⟩:=hrel;have pa:wr.cell? ⟨wo.heap.size,k,none⟩=some (.slice va (nk+64) vc):=(ak.cell (p:=⟨wo.heap.size,k,none⟩) cw).trans cg;by_cases eA:q<nk+64
  ·
   obtain⟨vg,rfl⟩:=fv.out (by omega);have cP:=(cz.out.lt vg rfl).2
   have dv:wb.cell? ⟨vg,q,none⟩=some (.int .u8 (ez k q)):=by
    rw[bk.cellAt cz.out q (by omega)];have:=bA oo k (nk+64) q 0 eA (by decide);simpa[cj]using this
   have k0:∀x:Calm wb.heap.size wb,x.1.cell? ⟨wo.heap.size,k,none⟩=some (.slice (some ⟨vg,0,none⟩) (nk+64) vc):=λ x=>x.cell cg cw
   have k1:∀x:Calm wb.heap.size wb,x.1.cell? ⟨vg,q,none⟩=some (.int .u8 (ez k q)):=λ x=>x.cell dv cP
   have k2:∀x:Calm wb.heap.size wb,x.1.cell? ⟨lb,k,none⟩=some (.slice a nk c):=λ x=>x.cell cl eZ
   have i2:(q:Int)<(nk:Int)+64:=by omega
   have i3:(q:Int)<((nk+64:Nat):Int):=by omega
   by_cases jO:q<nk
   ·
    obtain⟨rg,rfl⟩:=eG.out (by omega);have aY:=(cr.out.lt rg rfl).2
    have dr:wb.cell? ⟨rg,q,none⟩=some (.int .u8 (ez k q)):=by
     rw[bk.cellAt cr.out q (by omega)];have:=bA oo k nk q 0 jO (by decide);simpa[cj]using this
    have k3:∀x:Calm wb.heap.size wb,x.1.cell? ⟨rg,q,none⟩=some (.int .u8 (ez k q)):=λ x=>x.cell dr aY
    have i4:(q:Int)<nk:=by omega
    have d1:decide ((q:Int)<nk)=true:=by simpa using jO
    have d2:decide (q<nk)=true:=by simpa using jO
    clear dv dr cl cg;go_wp2_with fail
    clear pa;refine gR (B:=wb.heap.size) (W0:=wb) ak (by kernel_rfl) (by kernel_rfl) ?_;repeat(go_big_quiet_step ((go_at_call 52;exact Calm.same (pO _ _ k q rfl rfl (by omega) (by omega) _))))
    refine wpQuiet_nil ?_;intro w6 bg;clear k0 k1 k2 k3;go_wp2_with fail
    go_roundw
    exact⟨q+1,by omega,by go_num,bg⟩
    simp[intOf];omega
   have i4:¬(q:Int)<nk:=by omega
   have d1:decide ((q:Int)<nk)=false:=by simp;omega
   have d2:decide (q<nk)=false:=by simpa using jO
   clear dv cl cg;go_wp2_with fail
   clear pa;refine gR (B:=wb.heap.size) (W0:=wb) ak (by kernel_rfl) (by kernel_rfl) ?_;repeat(go_big_quiet_step ((go_at_call 52;exact Calm.same (pO _ _ k q rfl rfl (by omega) (by omega) _))))
   refine wpQuiet_nil ?_;intro w6 bg;clear k0 k1 k2;go_wp2_with fail
   go_roundw
   exact⟨q+1,by omega,by go_num,bg⟩
   simp[intOf];omega
  obtain rfl:q=nk+64:=by omega
  go_wp2_with fail
  go_roundw
  exact⟨k+1,by omega,by go_num,ak⟩
  simp[intOf];omega
 obtain rfl:K=k:=by omega
 have kB:∀j,j<K->∃ys:List Value,bk iu wr B (V j) (n j+64) (aw cj j (n j)++ys):=λ j hj=>by
  have h1:=bk.below (HV.out j hj) ak (aa _);refine⟨(aw cj j (n j+64)).drop (n j*1),?_⟩;rw[<-wu oo j (n j) 64,List.take_append_drop];exact h1
 have gP:jK iu B K R n (λ j=>aw cj j (n j)) wr:=λ j hj=>bk.below (HP.out j hj) ak (aa _)
 have cG:=own_below be.out ak (aa _);have ax:=own_below bB.out ak (aa _);have em:gp (aM K R) B w wr:=ag.jd ak (by omega);have gh:=Hd kB;have eu:=Hd gP;have cY:=Hd cG;have aZ:=Hd ax;have hmk:∀w,(Instr.makeSlice 25 (.int .i64 64) (.int .i64 64)).run prog w=.ok (.slice (some ⟨w.heap.size,0,none⟩) 64 64) (w.alloc (.cells (madeCells #[.int .u8 0] 64) 5)):=λ w=>run_make_row' (P:=prog) 25 5 (.int .u8 0) 1 hJ infoByte rfl .i64 .i64 64 (by omega) (by omega) w
 clear kB gP cG ax ak HV HP be bB;go_wp2_with fail
 go_loopw [11,12,13] (λ i _ _ wr=>∃(k:Nat) (V:Nat->Value),k<=K/\i=.int .i64 k/\jK iu B K R n (λ j=>aw cj j (n j)) wr/\(∀j,j<K->∃ys:List Value,bk iu wr B (V j) (n j+64) (aw cj j (n j)++ys))/\(∀i j,i<K->j<K->i≠j->Sep (V i) (R j))/\(∀i j,i<K->j<K->i≠j->Sep (V i) (V j)) /\
  wr.ownsRow B 25 1 (.slice lo K lc) K ((List.range K).map R)/\wr.ownsRow B 25 1 (.slice (some ⟨wo.heap.size,0,none⟩) K K) K ((List.range K).map V)/\gp (aM K R) B w wr) (λ i _ _ _=>K-(intOf i).toNat)
 exact⟨0,V,by omega,rfl,eu.out,gh.out,cI.out,gE.out,cY.out,aZ.out,em⟩
 clear ag iv em gh eu cY aZ cI gE cw;obtain⟨k,V,hk,rfl,hP,hV,gC,gD,bG,cN,ag⟩:=hrel;have HP:=Hd hP;have HV:=Hd hV;have cI:=Hd gC;have gE:=Hd gD;have be:=Hd bG;have dE:=Hd cN;clear hP hV gC gD bG cN;have iv:=ag.size;by_cases ae:k<K
 ·
  obtain⟨wi,rfl⟩:∃wi:World,wi=wr:=⟨_,rfl⟩;have i1:(k:Int)<K:=by omega
  have eF:=oH (base:=wi.heap.size) (e:=5) (size:=1) wi (madeCells #[.int .u8 0] 64) 64 (aa _) (by unfold maxLen;omega) (by simp[size_madeCells]);rw[uN]at eF
  have hm1:(wi.alloc (.cells (madeCells #[.int .u8 0] 64) 5)).ownsRow wi.heap.size 5 1 (.slice (some ⟨wi.heap.size,0,none⟩) 64 64) 64 (((List.range 64).map λ _=>(0:Int)).map bv):=by
   rw[List.map_map];exact eF
  have bS:Below wi.heap.size wi (wi.alloc (.cells (madeCells #[.int .u8 0] 64) 5)):=(aj _ _).alloc (aa _) _;have kt:=Hd hm1;clear eF hm1;go_wp2_with fail
  generalize wi.alloc (.cells (madeCells #[.int .u8 0] 64) 5)=w2 at kt bS ⊢;go_loopw [13] (λ i wr=>∃(q:Nat) (zs:List Int),q<=64/\i=.int .i64 q/\zs.length=64/\wr.ownsRow wi.heap.size 5 1 (.slice (some ⟨wi.heap.size,0,none⟩) 64 64) 64 (zs.map bv)/\Below wi.heap.size wi wr) (λ i _=>64-(intOf i).toNat)
  exact⟨0,(List.range 64).map λ _=>(0:Int),by omega,rfl,by simp,kt.out,bS⟩
  clear bS kt;obtain⟨q,zs,hq,rfl,ki,pD,dw⟩:=hrel;have ku:=Hd pD;have lk:=Hd ki;clear pD ki;by_cases eA:q<64
  ·
   have i2:(q:Int)<64:=by omega
   have ki:=lk.out
   have d0:wr.cell? ⟨wi.heap.size,q,none⟩=some (.int .u8 (zs[q]'(by omega))):=by
    rw[ay ku.out q (by omega),List.getElem?_map,bu (by omega)];rfl
   have f0:wr.frozen? ⟨wi.heap.size,q,none⟩=false:=cO ku.out _;have aP:=cU ku.out q (.int .u8 (ez (k+K) q));have aN:=Hd aP;generalize (zs[q]'(by omega))=old at d0;clear aP ki;go_wp2_with (go_at_call 52;(with_reducible refine(pO _ _ (k+K) q (by omega) rfl (by omega) (by omega) _).mono ?_);rintro e w' ⟨rfl,rfl⟩)
   go_roundw
   exact⟨q+1,zs.set q (ez (k+K) q),by omega,by go_num,by rw[List.length_set];exact lk.out,by rw[List.map_set];exact aN.out.1,dw.setCell (p:=⟨wi.heap.size,q,none⟩) (aa _) _⟩
   simp[intOf];omega
  obtain rfl:64=q:=by omega
  have jh:jK iu B K R n (λ j=>aw cj j (n j)) wr:=λ j hj=>bk.below (HP.out j hj) dw (aa _)
  have jH:∀j,j<K->∃ys:List Value,bk iu wr B (V j) (n j+64) (aw cj j (n j)++ys):=λ j hj=>by
   obtain⟨ys,cB⟩:=HV.out j hj;exact⟨ys,bk.below cB dw (aa _)⟩
  have iD:=own_below be.out dw (aa _);have pc:=own_below dE.out dw (aa _);have bg:gp (aM K R) B w wr:=ag.jd dw (by omega);have m7:=bg.size;obtain⟨a,c,aW,dx,ch,dg⟩:=rY (jh k ae);have bh:=jh k ae;obtain⟨ys0,pd⟩:=jH k ae;obtain⟨va,vc,ci,_,_,_⟩:=rY pd;have cX:=HN.out k ae;obtain⟨nk,bC⟩:∃nk,nk=n k:=⟨_,rfl⟩;rw[aW]at bh;simp only[<-bC]at aW ci cX dg bh dx;obtain⟨lb,jf,dD⟩:=iP iD (by omega);cases dD
  have c0:wr.cell? ⟨lb,k,none⟩=some (.slice a nk c):=by
   rw[ay iD k (by omega),dp R K k ae,aW]
  have cF:∀(j:Nat) u,(zs.map bv)[j]?=some u->wr.cell? ((⟨wi.heap.size,0,none⟩:Addr).add j)=some u:=λ j u hu=>pP ku.out rfl j u hu
  have eH:(zs.map bv).length=64*1:=by rw[List.length_map,lk.out]
  have cS:=Hd aW;have sN:=Hd ci;have bK:=Hd bC;have hZ:=Hd jh;have gW:=Hd jH;have ju:=Hd iD;have ll:=Hd pc;have mf:=Hd bh;have eG:=Hd ch;have jv:=Hd dx;have sO:=Hd cF;have sP:=Hd eH;clear aW ci bC jh jH iD pc bh ch dx pd cF eH;have cF:=sO.out;have eH:=sP.out;by_cases fT:nk+64<=c
  rotate_left
  focus
   have dC:∀b,a=some b->∀(j:Nat) u,(aw cj k nk)[j]?=some u->wr.cell? (b.add j)=some u:=λ b hb j u hu=>by
    have h1:=mf.out;rw[hb,bK.out]at h1;rcases bk.forms h1 with ⟨h2,_⟩|⟨g2,c2,h2⟩
    · cases h2
    injection h2 with h3 _ _
    injection h3 with h3
    subst h3;exact bk.cells h1 j u (by rw[<-bK.out];exact hu)
   have eS:=eE oo k nk;have bR:=jv.out;have bD:=Hd dC;have fC:=Hd eS;go_wp2_with (at_builtin;refine wpList_append_grows _ rfl (.tmp 148) (.tmp 149) 25 rfl 5 i0 (.int .u8 0) 1 1 hJ hi bo bp aU rfl (by decide) a nk c (aw cj k nk) rfl bR eS dC ⟨wi.heap.size,0,none⟩ 64 64 (zs.map bv) rfl eH cF (r7 _) (by omega) (by unfold maxLen;omega) (by omega) ?_)
   intro v3 w3 bj aL;have jw:=Hd (show jK iu B K R n (λ j=>aw cj j (n j)) w3 from λ j hj=>bk.kept (hZ.out j hj) aL (by cases (R j).ownBlock<;>simp))
   have iN:=Hd (show ∀j,j<K->j≠k->∃ys:List Value,bk iu w3 B (V j) (n j+64) (aw cj j (n j)++ys)from λ j hj _=>by
    obtain⟨ys,cB⟩:=gW.out j hj;exact⟨ys,bk.kept cB aL (by cases (V j).ownBlock<;>simp)⟩)
   have fI:=Hd (bk.wD (B:=B) bj (by omega) (λ g hg=>U6.out g (by have:=(ll.out.lt wo.heap.size rfl).2;omega)));have eJ:=Hd (show v3.ownBlock=(R k).ownBlock∨∀b,v3.ownBlock=some b->wr.heap.size<=b from Or.inr λ b hb=>(bj.lt b hb).1);have pe:=Hd (aX ju.out aL (by simp[Value.ownBlock]));have dU:=Hd (aX ll.out aL (by simp[Value.ownBlock]));have lm:=Hd (show gp (aM K R) B w w3 from bg.rk aL (by omega));clear bj aL dC eS bR bD fC fT c0 cF eH
  rotate_left
  focus
   obtain⟨rg,rfl⟩:=eG.out (by omega);have bh:=mf.out;go_wp2_with (at_builtin;refine Kv iu B _ rfl (.tmp 148) (.tmp 149) 25 rfl 5 i0 hJ hi bp rg nk c (aw cj k nk) rfl bh ⟨wi.heap.size,0,none⟩ 64 64 (zs.map bv) rfl eH cF (r7 _) fT ?_)
   intro w3 bj aL;have cJ:(R k).ownBlock=some rg:=by rw[cS.out];rfl
   have jw:=Hd (show jK iu B K R n (λ j=>aw cj j (n j)) w3 from λ j hj=>by
    by_cases e:j=k
    ·
     subst e;have h3:=bk.pre bj (show nk<=nk+64 by omega);rw[List.take_left' (eE oo j nk)]at h3;show bk iu w3 B (R j) (n j) (aw cj j (n j));rw[cS.out,<-bK.out];exact h3
    exact bk.kept (hZ.out j hj) aL (by rw[<-cJ];exact(HS.out j k hj ae e).ne))
   have iN:=Hd (show ∀j,j<K->j≠k->∃ys:List Value,bk iu w3 B (V j) (n j+64) (aw cj j (n j)++ys)from λ j hj e=>by
    obtain⟨ys,cB⟩:=gW.out j hj;exact⟨ys,bk.kept cB aL (by rw[<-cJ];exact(cI.out j k hj ae e).ne)⟩)
   have fI:=Hd bj;have eJ:=Hd (show (Value.slice (some ⟨rg,0,none⟩) (nk+64) c).ownBlock=(R k).ownBlock∨∀b,(Value.slice (some ⟨rg,0,none⟩) (nk+64) c).ownBlock=some b->wr.heap.size<=b from Or.inl cJ.symm);have pe:=Hd (aX ju.out aL (Ds U5.out bh));have dU:=Hd (aX ll.out aL (Ds u6.out bh));have lm:=Hd (show gp (aM K R) B w w3 from bg.mO aL (by omega) (bh.lt rg rfl).1 (Or.inl ⟨k,ae,cJ⟩));clear bj aL fT c0 cF eH bh cJ;generalize (Value.slice (some ⟨rg,0,none⟩) (nk+64) c)=v3 at fI eJ ⊢
  all_goals
   obtain⟨pf,pg,jk,_,_,_⟩:=rY fI.out;subst jk
   have e1:w3.cell? ⟨wo.heap.size,k,none⟩=some (.slice va (nk+64) vc):=by
    rw[ay dU.out k (by omega),dp V K k ae,sN.out]
   have f1:w3.frozen? ⟨wo.heap.size,k,none⟩=false:=cO dU.out _;have aP:=cU dU.out k (.slice pf (nk+64) pg);rw[rj]at aP;have aN:=Hd aP;clear aP;go_wp2_with fail
   go_roundw
   case rel =>
    have hg:=aN.out.2;have lj:B<=wo.heap.size:=(dU.out.lt _ rfl).1;refine⟨k+1,λ j=>if j=k then .slice pf (nk+64) pg else V j,by omega,by go_num,λ j hj=>?_,λ j hj=>?_,λ i j hi hj bI=>?_,λ i j hi hj bI=>?_,aX pe.out hg oU.out.ne,aN.out.1,lm.out.rl hg (by have:=lm.out.size;omega) pC lj⟩
    · exact bk.kept (jw.out j hj) hg (yZ u6.out (jw.out j hj))
    ·
     by_cases e:j=k
     ·
      subst e;simp only[if_true];refine⟨zs.map bv,?_⟩;rw[<-bK.out];exact bk.kept fI.out hg (yZ u6.out fI.out)
     simp only[e,if_false];obtain⟨ys,cB⟩:=iN.out j hj e;exact⟨ys,bk.kept cB hg (yZ u6.out cB)⟩
    ·
     by_cases e:i=k
     ·
      subst e;simp only[if_true];intro b hb bi;rcases eJ.out with h1|h1
      · exact HS.out i j ae hj bI b (h1▸hb) bi
      have:=h1 b hb;have:=((hZ.out j hj).lt b bi).2;omega
     simp only[e,if_false];exact cI.out i j hi hj bI
    by_cases e:i=k
    ·
     have e2:¬j=k:=λ h=>bI (e.trans h.symm)
     subst e;simp only[if_true,e2,if_false];intro b hb bi;rcases eJ.out with h1|h1
     · exact cI.out j i hj ae (Ne.symm bI) b bi (h1▸hb)
     have:=h1 b hb;obtain⟨ys,cB⟩:=gW.out j hj;have:=(cB.lt b bi).2;omega
    by_cases e2:j=k
    ·
     subst e2;simp only[if_true,e,if_false];intro b hb bi;rcases eJ.out with h1|h1
     · exact cI.out i j hi ae bI b hb (h1▸bi)
     have:=h1 b bi;obtain⟨ys,cB⟩:=gW.out i hi;have:=(cB.lt b hb).2;omega
    simp only[e,e2,if_false];exact gE.out i j hi hj bI
   simp[intOf];omega
 obtain rfl:K=k:=by omega
 obtain⟨wc,rfl⟩:∃wc:World,wc=wr:=⟨_,rfl⟩;have cw:=(dE.out.lt _ rfl).2;clear hmk;go_wp2_with fail
 go_loopw [14,15] (λ i _ wr=>∃k:Nat,k<=K/\i=.int .i64 k/\Below wc.heap.size wc wr) (λ i _ _=>K-(intOf i).toNat)
 exact⟨0,by omega,rfl,aj _ _⟩
 obtain⟨k,hk,rfl,ak⟩:=hrel;by_cases ae:k<K
 ·
  obtain⟨a,c,aW,_,ch,dg⟩:=rY (HP.out k ae);obtain⟨ys,cZ⟩:=HV.out k ae;obtain⟨va,vc,ci,_,gI,gA⟩:=rY cZ;have cX:=HN.out k ae;have bh:=HP.out k ae;obtain⟨nk,bC⟩:∃nk,nk=n k:=⟨_,rfl⟩;rw[aW]at bh;rw[ci]at cZ;simp only[<-bC]at aW ci cX dg gA cZ bh;obtain⟨lb,jf,dD⟩:=iP be.out (by omega);cases dD
  have cl:wc.cell? ⟨lb,k,none⟩=some (.slice a nk c):=by
   rw[ay be.out k (by omega),dp R K k ae,aW]
  have cg:wc.cell? ⟨wo.heap.size,k,none⟩=some (.slice va (nk+64) vc):=by
   rw[ay dE.out k (by omega),dp V K k ae,ci]
  have eZ:=(be.out.lt lb rfl).2;have cz:=Hd cZ;have cr:=Hd bh;have fv:=Hd gI;have eG:=Hd ch;have i1:(k:Int)<K:=by omega
  clear aW ci bC cZ bh gI ch;go_wp2_with fail
  go_loopw [15] (λ i wr=>∃q:Nat,q<=nk/\i=.int .i64 q/\Below wc.heap.size wc wr) (λ i _=>nk-(intOf i).toNat)
  exact⟨0,by omega,rfl,ak⟩
  clear ak;obtain⟨q,hq,rfl,ak⟩:=hrel;have sQ:wr.cell? ⟨lb,k,none⟩=some (.slice a nk c):=(ak.cell (p:=⟨lb,k,none⟩) eZ).trans cl;by_cases eA:q<nk
  ·
   obtain⟨vg,rfl⟩:=fv.out (by omega);obtain⟨rg,rfl⟩:=eG.out (by omega);have cP:=(cz.out.lt vg rfl).2;have aY:=(cr.out.lt rg rfl).2;have hm:=bA oo k nk q 0 eA (by decide);have hml:=eE oo k nk
   have dv:wc.cell? ⟨vg,q,none⟩=some (.int .u8 (ez k q)):=by
    rw[bk.cellAt cz.out q (by omega),gu (by omega)];simpa[cj]using hm
   have dr:wc.cell? ⟨rg,q,none⟩=some (.int .u8 (ez k q)):=by
    rw[bk.cellAt cr.out q (by omega)];simpa[cj]using hm
   have k0:∀x:Calm wc.heap.size wc,x.1.cell? ⟨wo.heap.size,k,none⟩=some (.slice (some ⟨vg,0,none⟩) (nk+64) vc):=λ x=>x.cell cg cw
   have k1:∀x:Calm wc.heap.size wc,x.1.cell? ⟨vg,q,none⟩=some (.int .u8 (ez k q)):=λ x=>x.cell dv cP
   have k2:∀x:Calm wc.heap.size wc,x.1.cell? ⟨lb,k,none⟩=some (.slice (some ⟨rg,0,none⟩) nk c):=λ x=>x.cell cl eZ
   have k3:∀x:Calm wc.heap.size wc,x.1.cell? ⟨rg,q,none⟩=some (.int .u8 (ez k q)):=λ x=>x.cell dr aY
   have i2:(q:Int)<nk:=by omega
   have i3:(q:Int)<(nk:Int)+64:=by omega
   have i4:(q:Int)<((nk+64:Nat):Int):=by omega
   clear dv dr cl cg hm hml;go_wp2_with fail
   clear sQ;refine gR (B:=wc.heap.size) (W0:=wc) ak (by kernel_rfl) (by kernel_rfl) ?_;repeat(go_big_quiet_step ((go_at_call 52;exact Calm.same (pO _ _ k q rfl rfl (by omega) (by omega) _))))
   refine wpQuiet_nil ?_;intro w6 bg;clear k0 k1 k2 k3;go_wp2_with fail
   go_roundw
   exact⟨q+1,by omega,by go_num,bg⟩
   simp[intOf];omega
  obtain rfl:q=nk:=by omega
  go_wp2_with fail
  go_roundw
  exact⟨k+1,by omega,by go_num,ak⟩
  simp[intOf];omega
 obtain rfl:K=k:=by omega
 go_wp2_with fail
 go_ret;exact⟨rfl,ag.jd ak (by omega)⟩
end Go.Proofs.YtepdklfkegkojaaGreatDoor
