/- Parts of one proof. Conditions: as each says. -/
import Derived.Test.YtepdklfkegkojaaGreatDoorGLetterNumbers0
import Derived.Test.YtepdklfkegkojaaGreatDoorGLetterNumbers23
import Derived.Test.YtepdklfkegkojaaGreatDoorGLetterNumbers24
import Derived.Test.YtepdklfkegkojaaGreatDoorGLetterNumbers25
import Derived.Test.YtepdklfkegkojaaGreatDoorGLetterNumbers12
import Derived.Test.YtepdklfkegkojaaGreatDoorGLetterNumbers14
import Derived.Deep.DeepCutAuto
set_option linter.all false
set_option maxHeartbeats 16000000
set_option maxRecDepth 100000
namespace Go.Proofs.YtepdklfkegkojaaGreatDoor
open Go.Proofs.Tryz
open Go.RowKit
structure iE (W:World) (Z:ks) (B:Nat) (x:Lt) (bad:Bool) (left:List Int) (w:World):Prop where
 below:Below B W w
 res:w.heap[B]?=some (.cells (ai bM) 32 (0,0))
 blk:w.heap[B+1]?=some (.cells (ai x) 32 (0,0))
 rd:Ref Z w B (B+2) bad left
 own:dI w (B+3) x
theorem iE.size {W w:World}{Z:ks}{B:Nat}{x:Lt}{bad:Bool}{left:List Int}(h:iE W Z B x bad left w):B+3<=w.heap.size:=h.rd.lt
theorem dI.below' {w w':World}{base B:Nat}{x:Lt}(h:dI w base x)(hb:Below B w w')(hB:w.heap.size<=B):dI w' base x:=⟨h.1.below hb hB,h.2.1.below hb hB,own_below h.2.2 hb hB⟩
theorem dI.only' {w w':World}{base r:Nat}{x:Lt}(h:dI w base x)(ho:Only r w w')(hr:r<base):dI w' base x:=⟨h.1.only ho hr,h.2.1.only ho hr,rK h.2.2 ho hr⟩
theorem iE.read {W w w':World}{Z:ks}{B:Nat}{x:Lt}{bad b2:Bool}{left l2:List Int}(h:iE W Z B x bad left w)(hr:Ref Z w' B (B+2) b2 l2)(ho:Only (B+2) w w'):iE W Z B x b2 l2 w':=by
 have hs:=h.size;exact⟨h.below.trans (ho.toBelow (by omega) (by omega)),(ho.2 B (by omega) (by omega)).trans h.res,(ho.2 (B+1) (by omega) (by omega)).trans h.blk,hr,h.own.only' ho (by omega)⟩
theorem iE.put {W w:World}{Z:ks}{B:Nat}{x x2:Lt}{bad:Bool}{left:List Int}(h:iE W Z B x bad left w)(i:Nat)(v:Value)(he:(ai x).setIfInBounds i v=ai x2)(ho:dI (w.setCell ⟨B+1,i,none⟩ v) (B+3) x->dI (w.setCell ⟨B+1,i,none⟩ v) (B+3) x2):iE W Z B x2 bad left (w.setCell ⟨B+1,i,none⟩ v):=by
 have hs:=h.size;have hon:=Only.set (B+1) w i v;exact⟨h.below.setCell (p:=⟨B+1,i,none⟩) (by show B<=B+1;omega) v,(hon.2 B (by omega) (by omega)).trans h.res,js h.blk v he,h.rd.other (by omega) (by omega) v,ho (h.own.only' hon (by omega))⟩
theorem iE.cell {W w:World}{Z:ks}{B:Nat}{x:Lt}{bad:Bool}{left:List Int}(h:iE W Z B x bad left w)(i:Nat):w.cell? ⟨B+1,i,none⟩=(ai x)[i]?:=ab h.blk i
theorem iE.free {W w:World}{Z:ks}{B:Nat}{x:Lt}{bad:Bool}{left:List Int}(h:iE W Z B x bad left w)(i:Nat):w.frozen? ⟨B+1,i,none⟩=false:=aO h.blk i
theorem C7 {x:Int}(h:bH x):IntKind.i64.wrap x=x:=jU _ (by unfold bH at h;omega)
theorem mM.other {Z:ks}{w:World}{M db g i k m cap:Nat}{bad:Bool}{ao:Option Addr}{xs:List Int}(h:mM Z w M db bad k ao m cap xs)(hg:M<=g)(hr:g≠db)(v:Value):mM Z (w.setCell ⟨g,i,none⟩ v) M db bad k ao m cap xs :=
 ⟨(heap_setCell_other _ _ _ _ (Ne.symm hr)).trans h.blk,h.off.other hg v,h.len,h.room,h.nil,h.at_,by simpa using h.le,h.lim,h.z⟩
theorem Qk {bad b2:Bool}{l l2:List Int}{q:Int}(hw:BytesWf l)(h:ot bad l=(q,b2,l2)):0<=q/\q<=l2.length/\BytesWf l2:=by
 unfold ot at h;split at h
 ·
  injection h with h1 h
  injection h with h2 h3
  subst h1;subst h3;exact⟨Int.le_refl _,by omega,hw⟩
 split at h
 ·
  injection h with h1 h
  injection h with h2 h3
  subst h1;subst h3;exact⟨Int.le_refl _,by omega,λ x hx=>hw x (ub hx)⟩
 injection h with h1 h
 injection h with h2 h3
 subst h1;subst h3;exact⟨(Fw _ (λ x hx=>hw x (zl hx))).1,by omega,λ x hx=>hw x (ub hx)⟩
theorem Ref.Ql {Z:ks}{w:World}{M db n:Nat}{bad:Bool}{left:List Int}(h:Ref Z w M db bad left)(hn:Z.xs.length<=n):left.length<=n:=by
 obtain⟨k,ao,m,cap,xs,hr,hl⟩:=h;have hz:=hr.z;subst hz;rw[hl,List.length_drop];dsimp only at hn;omega
theorem aa6 (n:Nat)(l:List Int):mR n true l=([],true,l):=by
 cases n with
 | zero=>rfl
 | succ n=>unfold mR;rw[if_pos rfl]
theorem Ref.tov {Z:ks}{w w':World}{M db:Nat}{bad:Bool}{left:List Int}(h:Ref Z w M db bad left)(hb:Below M w w')(hk:w'.heap[db]?=w.heap[db]?):Ref Z w' M db bad left:=by
 obtain⟨k,ao,m,cap,xs,hr,hl⟩:=h;have rZ:=hr.off;refine⟨k,ao,m,cap,xs,⟨hk.trans hr.blk,?_,hr.len,hr.room,hr.nil,hr.at_,aF hr.le hb.size,hr.lim,hr.z⟩,hl⟩;rcases rZ with h0|⟨g,off,h1,h2,h3,h4⟩
 · exact Or.inl h0
 exact Or.inr ⟨g,off,h1,h2,h3,λ i hi=>(hb.cell (p:=⟨g,off+i,none⟩) h2).trans (h4 i hi)⟩
theorem iE.grow {W w w':World}{Z:ks}{B:Nat}{x:Lt}{bad:Bool}{left:List Int}(h:iE W Z B x bad left w)(hb:Below w.heap.size w w'):iE W Z B x bad left w':=by
 have hs:=h.size;have hB:Below B w w':=hb.mono (by omega);exact⟨h.below.trans hB,(hb.block B (by omega)).trans h.res,(hb.block (B+1) (by omega)).trans h.blk,h.rd.tov hB (hb.block (B+2) (by omega)),h.own.below' hb (aa _)⟩
theorem iE.app {W w w':World}{Z:ks}{B:Nat}{x x2:Lt}{bad:Bool}{left:List Int}{row:Option Nat}(h:iE W Z B x bad left w)(hg:w.grownBy w' row)(hr:∀g,row=some g->B+3<=g)(i:Nat)(v:Value)(he:(ai x).setIfInBounds i v=ai x2)(ho:dI w' (B+3) x2):iE W Z B x2 bad left (w'.setCell ⟨B+1,i,none⟩ v):=by
 have hs:=h.size;have hB:Below B w w':=(aj B w).grown hg (by omega) (λ g hq=>by have:=hr g hq;omega);have hon:=Only.set (B+1) w' i v;have n0:∀g,g<B+3->some g≠row:=λ g hl e=>by have:=hr g e.symm;omega
 have iw:Below B w w':=hB;have hw:=hB.size;have hk:w'.heap[B+1]?=some (.cells (ai x) 32 (0,0)):=(hg.block (B+1) (by omega) (n0 _ (by omega))).trans h.blk;have hr':Ref Z w' B (B+2) bad left:=h.rd.tov hB (hg.block (B+2) (by omega) (n0 _ (by omega)));exact⟨(h.below.trans hB).setCell (p:=⟨B+1,i,none⟩) (by show B<=B+1;omega) v,(hon.2 B (by omega) (by omega)).trans ((hg.block B (by omega) (n0 _ (by omega))).trans h.res),js hk v he,hr'.other (by omega) (by omega) v,ho.only' hon (by omega)⟩
theorem Qm (n:Nat)(l:List Int):mx n true l=([],true,l):=by
 cases n with
 | zero=>rfl
 | succ n=>unfold mx;rw[if_pos rfl]
theorem Qn:∀(n:Nat) (b:Bool) (l:List Int),(mR n b l).1.length<=n
 | 0,_,_=>aa _
 | n+1,b,l=>by
  unfold mR;split
  · exact iX _
  have:=Qn n (fq false l).2.1 (fq false l).2.2;simp only[List.length_cons];omega
theorem Qo:∀(n:Nat) (b:Bool) (l:List Int),(mx n b l).1.length<=n
 | 0,_,_=>aa _
 | n+1,b,l=>by
  unfold mx;split
  · exact iX _
  cases l with
  | nil=>exact iX _
  | cons v r =>
   have:=Qo n false r;simp only[List.length_cons];omega
theorem Qp:∀(n:Nat) (b:Bool) (l:List Int),BytesWf l->BytesWf (mx n b l).1
 | 0,_,_,_=>λ x hx=>by cases hx
 | n+1,b,l,h=>by
  unfold mx;split
  · intro x hx;cases hx
  cases l with
  | nil=>intro x hx;cases hx
  | cons v r =>
   have h2:=Qp n false r (λ x hx=>h x (sg _ hx));intro x hx;rcases List.mem_cons.1 hx with rfl|hx
   · exact h _ List.mem_cons_self
   exact h2 x hx
theorem mM.tov {Z:ks}{w w':World}{M db k m cap:Nat}{bad:Bool}{ao:Option Addr}{xs:List Int}(hr:mM Z w M db bad k ao m cap xs)(hb:Below M w w')(hk:w'.heap[db]?=w.heap[db]?):mM Z w' M db bad k ao m cap xs:=by
 have rZ:=hr.off;refine⟨hk.trans hr.blk,?_,hr.len,hr.room,hr.nil,hr.at_,aF hr.le hb.size,hr.lim,hr.z⟩;rcases rZ with h0|⟨g,off,h1,h2,h3,h4⟩
 · exact Or.inl h0
 exact Or.inr ⟨g,off,h1,h2,h3,λ i hi=>(hb.cell (p:=⟨g,off+i,none⟩) h2).trans (h4 i hi)⟩
theorem gU.aa7 {w w':World}{base M an vc:Nat}{v:Value}{es:List En}{va:Option Addr}{ac:List Int}(h:gU w base v es)(hi:gj w M va an vc ac)(hlow:∀e∈es,∀g,(jn e).ownBlock=some g->g<M)(hg:w.grownBy w' (Value.slice va an vc).ownBlock):gU w' base v es :=
 ⟨aX h.row hg (cp h.row hi (by decide)),λ e he=>⟨aX (h.own e he).1 hg (cp (h.own e he).1 hi (by decide)),aX (h.own e he).2 hg (by
  cases hv:(jn e).ownBlock with
  | none=>exact Or.inl rfl
  | some b=>exact Or.inr λ e2=>absurd (jb hi b e2.symm).1 (by have h1:=hlow e he b hv;omega))⟩,h.sep⟩
theorem aa8 {w:World}{o:Oper}{a:Act}{K:Act->World->Prop}{Q:Exit->Act->World->Prop}(s x:Operand)
  (ho:o.op=.call { callee:=.builtin .append,args:=#[s,x],argTypes:=#[24,24] })
  (base:Nat) {a1:Option Addr} {n1 c1:Nat} {l:List Int} (hs:a.eval s=.slice a1 n1 c1) (az:gj w base a1 n1 c1 l)
  (g:Nat) (v:Int) (hk:w.heap[g]?=some (.cells #[.int .i64 v] 3 (0,0))) (hx:a.eval x=.slice (some ⟨g,0,none⟩) 1 1) (fV:n1+1<=1099511627776) (nw:base<=w.heap.size)
  (h:∀a2 c2 w',gj w' base a2 (n1+1) c2 (l++[v])->w.grownBy w' (Value.slice a1 n1 c1).ownBlock->K (a.put o.dst (.slice a2 (n1+1) c2)) w'):Oper.wp prog o a w K Q:=by
 obtain⟨i0,hi,bo,bp,aU⟩:=info_parts tY;have hadd:∀j,(⟨g,0,none⟩:Addr).add j=⟨g,j,none⟩:=λ j=>by unfold Addr.add;split<;>simp_all
 obtain⟨v',w',hr,h2,h3,_⟩:=run_append_own_at (P:=prog) w base 24 o.type 3 i0 (.int .i64 0) 1 8 qr hi bo bp aU rfl (by decide) _ n1 (l.flatMap gb) az ⟨g,0,none⟩ 1 1 [.int .i64 v] rfl (λ j u hu=>by
  rw[hadd,ab hk j];simpa using hu) (by simp[Value.oneCell']) (by unfold maxLen;omega) (by omega) nw
 unfold Oper.wp execOp;simp only[ho,resolve,invoke,builtin,Sem.run_bind,Sem.run_pure,Result.andThen_ok,List.map_toArray,List.map_cons,List.map_nil,hs,hx,hr];obtain⟨a2,c2,rfl⟩:=jz h2;refine h a2 c2 w' ?_ h3;unfold gj;rw[List.flatMap_append];exact h2
def aa9 (w w1:World) (x:Lt) (v:Value) (w2:World):Prop:=v=.pointer (some ⟨w1.heap.size,0,none⟩)/\w2.heap[w1.heap.size]?=some (.cells (ai x) 32 (0,0))/\w2.heap.size=w1.heap.size+1/\Below w1.heap.size w1 w2
theorem aba (ao:Option Addr)(n cap:Nat)(b:List Int)(w:World)(hn:b.length=n)(hx:BytesIn w w.heap.size ao b)(hw:BytesWf b)(kv:ao=none->cap=0)(hcap:n<=cap)(hl:n<=140737488351232)(r:cQ×Int)(hr:wJ b=r) :
  Calls prog 27 #[.slice ao n cap] w (Ih r w):=by
 have ba:=(aj w.heap.size w).alloc (aa _) (.cells (ai bM) 32);have dH:=heap_alloc_new w (.cells (ai bM) 32);have dB:(w.alloc (.cells (ai bM) 32)).heap.size=w.heap.size+1:=by simp
 have ev:=Hd ba;have pH:=Hd dH;have tJ:=Hd dB;have HR:=Hd hr;have HN:=Hd hn;have HX:=Hd hx;have HW:=Hd hw;clear ba dH dB hr hn hx hw;go_enter func27,ntmps27
 by_cases nP:1048576<n
 ·
  have i1:(1048576:Int)<n:=by omega
  have j1:decide ((1048576:Int)<n)=true:=decide_eq_true i1;go_upto_region 2 with fail
  rw[<-mK];have bU:=pH.out;go_wp2_with (refine wpList_store_row rfl 32 (.tmp 2) (.tmp 19) rfl w.heap.size (ai bM) rfl (by first|rfl|simp) 32 _ bU (fD bM) rfl (gB bM) ?_;rw[pM bU])
  have hg:r=(ng,4):=by rw[<-HR.out];unfold wJ;rw[if_pos (Or.inl (by rw[HN.out];exact nP))]
  exact zX rfl bU ev.out rfl rfl (by rw[hg]) (by rw[hg];rfl) uH (dI.zero _ _)
 by_cases nF:n<3
 ·
  have i1:¬(1048576:Int)<n:=by omega
  have j1:decide ((1048576:Int)<n)=false:=decide_eq_false i1;have i2:(n:Int)<3:=by omega
  have j2:decide ((n:Int)<3)=true:=decide_eq_true i2;go_upto_region 2 with fail
  rw[<-mK];have bU:=pH.out;go_wp2_with (refine wpList_store_row rfl 32 (.tmp 2) (.tmp 19) rfl w.heap.size (ai bM) rfl (by first|rfl|simp) 32 _ bU (fD bM) rfl (gB bM) ?_;rw[pM bU])
  have hg:r=(ng,4):=by rw[<-HR.out];unfold wJ;rw[if_pos (Or.inr (by rw[HN.out];exact nF))]
  exact zX rfl bU ev.out rfl rfl (by rw[hg]) (by rw[hg];rfl) uH (dI.zero _ _)
 have i1:¬(1048576:Int)<n:=by omega
 have j1:decide ((1048576:Int)<n)=false:=decide_eq_false i1;have i2:¬(n:Int)<3:=by omega
 have j2:decide ((n:Int)<3)=false:=decide_eq_false i2;go_upto_region 3 with fail
 rw[<-mK];have ba:=ev.out;have dH:=pH.out;have dB:=tJ.out;have hX1:=HX.out.below ev.out (aa _);generalize w.alloc (.cells (ai bM) 32)=w1 at ba dH dB hX1 ⊢;obtain⟨bb,off,rfl,ii,iS⟩:=hX1.resolve_left (λ h=>by have:=HN.out;rw[h]at this;simp at this;omega);have iF:=HN.out;have k0:w1.cell? ⟨bb,off,none⟩=some (.int .u8 (b.getD 0 0)):=iS 0 (by omega);have k1:w1.cell? ⟨bb,off+1,none⟩=some (.int .u8 (b.getD 1 0)):=iS 1 (by omega);have k2:w1.cell? ⟨bb,off+2,none⟩=some (.int .u8 (b.getD 2 0)):=iS 2 (by omega)
 have EZ:∀j,j<n->0<=b.getD j 0/\b.getD j 0<256:=λ j hj=>by
  have:b.getD j 0=b[j]'(by omega):=by simp[List.getD,bu (show j<b.length by omega)]
  rw[this];exact HW.out _ (mC _)
 obtain⟨y0,hy0⟩:∃y,b.getD 0 0=y:=⟨_,rfl⟩;obtain⟨y1,mc⟩:∃y,b.getD 1 0=y:=⟨_,rfl⟩;obtain⟨y2,me⟩:∃y,b.getD 2 0=y:=⟨_,rfl⟩;have v0:=EZ 0 (by omega);have v1:=EZ 1 (by omega);have v2:=EZ 2 (by omega);rw[hy0]at k0 v0;rw[mc]at k1 v1;rw[me]at k2 v2
 have bD:=Hd (show ∀w',Below w1.heap.size w1 w'->w'.cell? ⟨bb,off,none⟩=some (.int .u8 y0)/\w'.cell? ⟨bb,off+1,none⟩=some (.int .u8 y1)/\w'.cell? ⟨bb,off+2,none⟩=some (.int .u8 y2)from λ w' h =>
  ⟨(h.cell (p:=⟨bb,_,none⟩) (show bb<w1.heap.size by omega)).trans k0,(h.cell (p:=⟨bb,_,none⟩) (show bb<w1.heap.size by omega)).trans k1,(h.cell (p:=⟨bb,_,none⟩) (show bb<w1.heap.size by omega)).trans k2⟩)
 have HY:=Hd (And.intro hy0 (And.intro mc me));have fu:=Hd iS;have Qq:=Hd dH;have Qr:=Hd ba;have pq:w.heap.size+1<=w1.heap.size:=by omega
 have hsz2:w1.heap.size<=w.heap.size+1:=by omega
 clear ba dH dB hX1 iS iF k0 k1 k2 EZ hy0 mc me ev pH tJ;have u1:IntKind.i64.wrap y1=y1:=jU _ (by omega);have u2:IntKind.i64.wrap y2=y2:=jU _ (by omega);have g0:0<n:=by omega
 have g1:(1:Int)<n:=by omega
 have g2:(2:Int)<n:=by omega
 have g3:1<n:=by omega
 have g4:2<n:=by omega
 go_cut [4] (λ v wq=>aa9 w w1 ⟨y0,y1,y2,0,0,0,false,0,0,none,[],0,none,[],0,none,[],0⟩ v wq)
 case first =>
  refine nX (λ w'=>Below w1.heap.size w1 w') (by kernel_rfl) ((aj _ _).drew) ?_;intro cu
  (first|(refine tkn 0 rfl ?_)|(refine aT (v:=?_) 0 rfl ?_ ?_;rotate_left;focus(intro wS ah;obtain⟨e0,e1,e2⟩:=bD.out wS ah;go_simp;first|done|with_reducible rfl)))
  (try simp only[Act.put,ssa,aq,ar])
  (first|(refine tkn 1 rfl ?_)|(refine aT (v:=?_) 1 rfl ?_ ?_;rotate_left;focus(intro wS ah;obtain⟨e0,e1,e2⟩:=bD.out wS ah;go_simp;first|done|with_reducible rfl)))
  (try simp only[Act.put,ssa,aq,ar])
  (first|(refine tkn 2 rfl ?_)|(refine aT (v:=?_) 2 rfl ?_ ?_;rotate_left;focus(intro wS ah;obtain⟨e0,e1,e2⟩:=bD.out wS ah;go_simp;first|done|with_reducible rfl)))
  (try simp only[Act.put,ssa,aq,ar])
  (first|(refine tkn 3 rfl ?_)|(refine aT (v:=?_) 3 rfl ?_ ?_;rotate_left;focus(intro wS ah;obtain⟨e0,e1,e2⟩:=bD.out wS ah;go_simp;first|done|with_reducible rfl)))
  (try simp only[Act.put,ssa,aq,ar])
  (first|(refine tkn 4 rfl ?_)|(refine aT (v:=?_) 4 rfl ?_ ?_;rotate_left;focus(intro wS ah;obtain⟨e0,e1,e2⟩:=bD.out wS ah;go_simp;first|done|with_reducible rfl)))
  (try simp only[Act.put,ssa,aq,ar])
  (first|(refine tkn 5 rfl ?_)|(refine aT (v:=?_) 5 rfl ?_ ?_;rotate_left;focus(intro wS ah;obtain⟨e0,e1,e2⟩:=bD.out wS ah;go_simp;first|done|with_reducible rfl)))
  (try simp only[Act.put,ssa,aq,ar])
  (first|(refine tkn 6 rfl ?_)|(refine aT (v:=?_) 6 rfl ?_ ?_;rotate_left;focus(intro wS ah;obtain⟨e0,e1,e2⟩:=bD.out wS ah;go_simp;first|done|with_reducible rfl)))
  (try simp only[Act.put,ssa,aq,ar])
  (first|(refine tkn 7 rfl ?_)|(refine aT (v:=?_) 7 rfl ?_ ?_;rotate_left;focus(intro wS ah;obtain⟨e0,e1,e2⟩:=bD.out wS ah;go_simp;first|done|with_reducible rfl)))
  (try simp only[Act.put,ssa,aq,ar])
  (first|(refine tkn 8 rfl ?_)|(refine aT (v:=?_) 8 rfl ?_ ?_;rotate_left;focus(intro wS ah;obtain⟨e0,e1,e2⟩:=bD.out wS ah;go_simp;first|done|with_reducible rfl)))
  (try simp only[Act.put,ssa,aq,ar])
  (first|(refine tkn 9 rfl ?_)|(refine aT (v:=?_) 9 rfl ?_ ?_;rotate_left;focus(intro wS ah;obtain⟨e0,e1,e2⟩:=bD.out wS ah;go_simp;first|done|with_reducible rfl)))
  (try simp only[Act.put,ssa,aq,ar])
  (first|(refine tkn 10 rfl ?_)|(refine aT (v:=?_) 10 rfl ?_ ?_;rotate_left;focus(intro wS ah;obtain⟨e0,e1,e2⟩:=bD.out wS ah;go_simp;first|done|with_reducible rfl)))
  (try simp only[Act.put,ssa,aq,ar])
  (first|(refine tkn 11 rfl ?_)|(refine aT (v:=?_) 11 rfl ?_ ?_;rotate_left;focus(intro wS ah;obtain⟨e0,e1,e2⟩:=bD.out wS ah;go_simp;first|done|with_reducible rfl)))
  (try simp only[Act.put,ssa,aq,ar])
  refine dL 12 rfl (by kernel_rfl) (by rfl) (λ K hK=>?_);go_simp
  have bU:(w1.alloc (.cells (ai bM) 32)).drew.heap[w1.heap.size]?=some (.cells (ai bM) 32 (0,0)):=heap_alloc_new w1 _;have jR:Below w1.heap.size w1 (w1.alloc (.cells (ai bM) 32)).drew:=((aj w1.heap.size w1).alloc (aa _) _).drew;have aU:(w1.alloc (.cells (ai bM) 32)).drew.heap.size=w1.heap.size+1:=by show (w1.alloc _).heap.size=_;simp
  rw[<-mK];generalize (w1.alloc (.cells (ai bM) 32)).drew=w2 at bU jR aU ⊢;refine hK.out _ _ (by assumption) ?_;clear hK K
  (try simp only[Act.put,ssa,aq,ar])
  refine dL 13 rfl (by kernel_rfl) (by rfl) (λ K hK=>?_)
  (refine wp_store_row 32 (.tmp 4) (.tmp 31) rfl w1.heap.size (ai ⟨y0,y1,y2,0,0,0,false,0,0,none,[],0,none,[],0,none,[],0⟩) rfl (by first|rfl|simp) 32 _ bU (fD ⟨y0,y1,y2,0,0,0,false,0,0,none,[],0,none,[],0,none,[],0⟩) rfl (gB ⟨y0,y1,y2,0,0,0,false,0,0,none,[],0,none,[],0,none,[],0⟩) ?_)
  have ho:=xX w1.heap.size w2 (ai ⟨y0,y1,y2,0,0,0,false,0,0,none,[],0,none,[],0,none,[],0⟩);have bL:=setRow_heap w2 w1.heap.size _ (ai ⟨y0,y1,y2,0,0,0,false,0,0,none,[],0,none,[],0,none,[],0⟩) _ _ bU;have qy:=jR.trans (ho.toBelow (by omega) (aa _));have dN:(w2.setRow w1.heap.size (ai ⟨y0,y1,y2,0,0,0,false,0,0,none,[],0,none,[],0,none,[],0⟩)).heap.size=w1.heap.size+1:=by rw[setRow_size];exact aU
  generalize w2.setRow w1.heap.size (ai ⟨y0,y1,y2,0,0,0,false,0,0,none,[],0,none,[],0,none,[],0⟩)=w3 at bL qy dN ⊢;refine hK.out _ _ (by assumption) ?_;clear hK K
  (try simp only[Act.put,ssa,aq,ar])
  refine wpAnyH_done (by kernel_rfl) ?_ _;go_wp2_with fail
  go_meet
  exact⟨rfl,bL,dN,qy⟩
 obtain⟨rfl,dh,aU,jR⟩:=hcut;have hw1:w1.heap.size=w.heap.size+1:=by omega
 rw[hw1]at dh aU jR;have aS:=(aj wc.heap.size wc).alloc (aa _) (.cells #[.slice (some ⟨bb,off,none⟩) n cap,.int .i64 3,.bool false] 91);have pU:wc.heap[w.heap.size]?=some (.cells (ai bM) 32 (0,0)):=(jR.block _ (by omega)).trans Qq.out
 have aP:iE w ⟨some ⟨bb,off,none⟩,n,cap,b⟩ w.heap.size ⟨y0,y1,y2,0,0,0,false,0,0,none,[],0,none,[],0,none,[],0⟩ false (b.drop 3) (wc.alloc (.cells #[.slice (some ⟨bb,off,none⟩) n cap,.int .i64 3,.bool false] 91)):=by
  refine⟨(Qr.out.trans (jR.mono (by omega))).trans (aS.mono (by omega)),(aS.block _ (by omega)).trans pU,(aS.block _ (by omega)).trans dh,?_,⟨gU.nil _ _,gj.nil _ _,iK _ _ _ _⟩⟩;have hr:=heap_alloc_new wc (.cells #[.slice (some ⟨bb,off,none⟩) n cap,.int .i64 3,.bool false] 91);rw[aU]at hr;refine⟨3,some ⟨bb,off,none⟩,n,cap,b,⟨hr,Or.inr ⟨bb,off,rfl,ii,by omega,λ i hi=>?_⟩,HN.out,hcap,kv,by omega,by have:=aS.size;omega,hl,rfl⟩,rfl⟩;exact((jR.trans (aS.mono (by omega))).cell (p:=⟨bb,_,none⟩) (show bb<w.heap.size+1 by omega)).trans (fu.out i hi)
 have aN:=Hd aP;have HZ2:=Hd (show wc.heap.size=w.heap.size+2 from aU);have pt:=Hd hw1;clear aS pU aP dh aU jR Qq Qr bD fu u1 u2 v0 v1 v2 hw1 pq hsz2;go_upto_region 5 with fail
 rw[pt.out,HZ2.out];generalize wc.alloc (.cells #[.slice (some ⟨bb,off,none⟩) n cap,.int .i64 3,.bool false] 91)=w4 at aN ⊢;have Qs:BytesWf (b.drop 3):=λ v hv=>HW.out v (ub hv)
 have Qt:=Hd Qs;clear Qs;obtain⟨⟨m1,b1,l1⟩,dB⟩:∃z,bc false (b.drop 3)=z:=⟨_,rfl⟩;have wf1:BytesWf l1:=by have:=(eL false (b.drop 3) Qt.out).1;rw[dB]at this;exact this
 have qo:bH m1:=by
  rw[show m1=(bc false (b.drop 3)).1 by rw[dB]];exact ms _
 have Jm:=Hd dB;have Qu:=Hd wf1;have uw:IntKind.i64.wrap m1=m1:=C7 qo;clear dB wf1;go_wp2_with fail
 refine(sG w.heap.size (w.heap.size+2) false (b.drop 3) m1 b1 l1 w4 Jm.out aN.out.rd Qt.out).mono ?_;rintro e wn ⟨rfl,fS,ho⟩;have aP:=aN.out.read fS ho;have cc:wn.cell? ⟨w.heap.size+1,3,none⟩=some (.int .i64 0):=aP.cell 3;have ff:wn.frozen? ⟨w.heap.size+1,3,none⟩=false:=aP.free 3;have mz:=Hd aP;clear fS ho aP aN;go_upto_region 6 with fail
 have aP:=iE.put (x2:=⟨y0,y1,y2,m1,0,0,false,0,0,none,[],0,none,[],0,none,[],0⟩) mz.out 3 (.int .i64 m1) rfl (λ h=>h);generalize wn.setCell ⟨w.heap.size+1,3,none⟩ (.int .i64 m1)=w5 at aP ⊢;have aN:=Hd aP;clear aP cc ff mz uw qo;obtain⟨⟨m2,b2,l2⟩,fM⟩:∃z,bc b1 l1=z:=⟨_,rfl⟩;have wf2:BytesWf l2:=by have:=(eL b1 l1 Qu.out).1;rw[fM]at this;exact this
 have kw:bH m2:=by
  rw[show m2=(bc b1 l1).1 by rw[fM]];exact ms _
 have Jn:=Hd fM;have Qv:=Hd wf2;have uw:IntKind.i64.wrap m2=m2:=C7 kw;clear fM wf2;go_wp2_with fail
 refine(sG w.heap.size (w.heap.size+2) b1 l1 m2 b2 l2 w5 Jn.out aN.out.rd Qu.out).mono ?_;rintro e wn ⟨rfl,fS,ho⟩;have aP:=aN.out.read fS ho;have cc:wn.cell? ⟨w.heap.size+1,4,none⟩=some (.int .i64 0):=aP.cell 4;have ff:wn.frozen? ⟨w.heap.size+1,4,none⟩=false:=aP.free 4;have mz:=Hd aP;clear fS ho aP aN;go_upto_region 7 with fail
 have aP:=iE.put (x2:=⟨y0,y1,y2,m1,m2,0,false,0,0,none,[],0,none,[],0,none,[],0⟩) mz.out 4 (.int .i64 m2) rfl (λ h=>h);generalize wn.setCell ⟨w.heap.size+1,4,none⟩ (.int .i64 m2)=w6 at aP ⊢;have aN:=Hd aP;clear aP cc ff mz uw kw;obtain⟨⟨m3,b3,l3⟩,cA⟩:∃z,bc b2 l2=z:=⟨_,rfl⟩;have Qw:BytesWf l3:=by have:=(eL b2 l2 Qv.out).1;rw[cA]at this;exact this
 have jk:bH m3:=by
  rw[show m3=(bc b2 l2).1 by rw[cA]];exact ms _
 have Jo:=Hd cA;have WF3:=Hd Qw;have uw:IntKind.i64.wrap m3=m3:=C7 jk;clear cA Qw;go_wp2_with fail
 refine(sG w.heap.size (w.heap.size+2) b2 l2 m3 b3 l3 w6 Jo.out aN.out.rd Qv.out).mono ?_;rintro e wn ⟨rfl,fS,ho⟩;have aP:=aN.out.read fS ho;have cc:wn.cell? ⟨w.heap.size+1,5,none⟩=some (.int .i64 0):=aP.cell 5;have ff:wn.frozen? ⟨w.heap.size+1,5,none⟩=false:=aP.free 5;have mz:=Hd aP;clear fS ho aP aN;go_upto_region 8 with fail
 have aP:=iE.put (x2:=⟨y0,y1,y2,m1,m2,m3,false,0,0,none,[],0,none,[],0,none,[],0⟩) mz.out 5 (.int .i64 m3) rfl (λ h=>h);generalize wn.setCell ⟨w.heap.size+1,5,none⟩ (.int .i64 m3)=w7 at aP ⊢;have aN:=Hd aP;clear aP cc ff mz uw jk;obtain⟨k,Qx,n',cap',xs',hi,ep⟩:=aN.out.rd;have hzz:=hi.z;simp only[ks.mk.injEq]at hzz;obtain⟨rfl,rfl,rfl,rfl⟩:=hzz;have hkn:=hi.at_;have ck:w7.cell? ⟨w.heap.size+2,1,none⟩=some (.int .i64 k):=ab hi.blk 1;have fk:w7.frozen? ⟨w.heap.size+2,1,none⟩=false:=aO hi.blk 1;have c6:w7.cell? ⟨w.heap.size+1,6,none⟩=some (.bool false):=aN.out.cell 6;have f6:w7.frozen? ⟨w.heap.size+1,6,none⟩=false:=aN.out.free 6;obtain⟨gX,ij⟩:∃gX:Bool,decide (l3.getD 0 0=1)=gX:=⟨_,rfl⟩;have rf:=Hd ij;have HI:=Hd hi;have jg:=Hd ep;have Qy:=Hd (show BytesWf (l3.drop 1)from λ v hv=>WF3.out v (ub hv));clear hi ep ij;go_upto_if 50 with fail
 go_cut [3] (λ v wq=>v=.int .i64 0/\iE w ⟨some ⟨bb,off,none⟩,n,cap,b⟩ w.heap.size ⟨y0,y1,y2,m1,m2,m3,gX,0,0,none,[],0,none,[],0,none,[],0⟩ b3 (l3.drop 1) wq)
 case first =>
  by_cases ae:k<n
  ·
   have i5:(k:Int)<n:=by omega
   have hlk:l3.drop 1=b.drop (k+1):=by rw[jg.out,List.drop_drop]
   have Qz:l3.getD 0 0=b.getD k 0:=by rw[jg.out];simp[List.getD,List.getElem?_drop]
   obtain⟨yk,hyk⟩:∃y,b.getD k 0=y:=⟨_,rfl⟩
   have hcx:w7.cell? ⟨bb,off+k,none⟩=some (.int .u8 yk):=by
    rcases HX.out with h0|⟨b',off',e1,e2,e3⟩
    · have:=HN.out;rw[h0]at this;simp at this;omega
    cases e1
    rw[<-hyk,<-e3 k (by have:=HN.out;omega)];exact aN.out.below.cell (p:=⟨bb,_,none⟩) e2
   have rV:=Hd hlk;rw[Qz,hyk]at rf;clear hlk Qz hyk;have p7:IntKind.i64.wrap ((k:Int)+1)=(k:Int)+1:=jU _ (by omega);by_cases mc:yk=1
   ·
    obtain rfl:true=gX:=by rw[<-rf.out];exact(decide_eq_true mc).symm
    subst mc;go_upto_region 10 with fail
    have aP:=iE.put (x2:=⟨y0,y1,y2,m1,m2,m3,true,0,0,none,[],0,none,[],0,none,[],0⟩) aN.out 6 (.bool true) rfl (λ h=>h);have oa:=HI.out.other (g:=w.heap.size+1) (i:=6) (by omega) (by omega) (.bool true);generalize w7.setCell ⟨w.heap.size+1,6,none⟩ (.bool true)=w8 at aP oa ⊢;clear ck fk c6 f6;have ck:w8.cell? ⟨w.heap.size+2,1,none⟩=some (.int .i64 k):=ab oa.blk 1;have fk:w8.frozen? ⟨w.heap.size+2,1,none⟩=false:=aO oa.blk 1;have Jp:=Hd aP;have Jq:=Hd oa;clear aP oa;go_wp2_with fail
    go_meet
    exact⟨rfl,Jp.out.read (by rw[rV.out];exact⟨k+1,_,_,_,_,Jq.out.setAt (k+1) (by omega),rfl⟩) (Only.set (w.heap.size+2) w8 1 _)⟩
   obtain rfl:false=gX:=by rw[<-rf.out];exact(decide_eq_false mc).symm
   have me:(yk==1)=false:=beq_eq_false_iff_ne.2 mc;go_upto_region 10 with fail
   have aP:=iE.put (x2:=⟨y0,y1,y2,m1,m2,m3,false,0,0,none,[],0,none,[],0,none,[],0⟩) aN.out 6 (.bool false) rfl (λ h=>h);have oa:=HI.out.other (g:=w.heap.size+1) (i:=6) (by omega) (by omega) (.bool false);generalize w7.setCell ⟨w.heap.size+1,6,none⟩ (.bool false)=w8 at aP oa ⊢;clear ck fk c6 f6;have ck:w8.cell? ⟨w.heap.size+2,1,none⟩=some (.int .i64 k):=ab oa.blk 1;have fk:w8.frozen? ⟨w.heap.size+2,1,none⟩=false:=aO oa.blk 1;have Jp:=Hd aP;have Jq:=Hd oa;clear aP oa;go_wp2_with fail
   go_meet
   exact⟨rfl,Jp.out.read (by rw[rV.out];exact⟨k+1,_,_,_,_,Jq.out.setAt (k+1) (by omega),rfl⟩) (Only.set (w.heap.size+2) w8 1 _)⟩
  have i5:¬(k:Int)<n:=by omega
  have hnil3:l3=[]:=by rw[jg.out];exact List.drop_eq_nil_of_le (by have:=HN.out;omega)
  obtain rfl:false=gX:=by rw[<-rf.out,hnil3];rfl
  have xM:=Hd hnil3;clear hnil3;go_wp2_with fail
  go_meet
  refine⟨rfl,?_⟩;have hh:=aN.out;rw[xM.out]at hh ⊢;exact hh
 case rest =>
 obtain⟨rfl,aP⟩:=hcut;have aN:=Hd aP;clear aP HI jg ck fk c6 f6 hkn;obtain⟨⟨m4,b4,l4⟩,lX⟩:∃z,bc b3 (l3.drop 1)=z:=⟨_,rfl⟩;have QA:BytesWf l4:=by have:=(eL b3 (l3.drop 1) Qy.out).1;rw[lX]at this;exact this
 have hv4:bH m4:=by
  rw[show m4=(bc b3 (l3.drop 1)).1 by rw[lX]];exact ms _
 have Jr:=Hd lX;have QB:=Hd QA;have uw:IntKind.i64.wrap m4=m4:=C7 hv4;clear lX QA;go_wp2_with fail
 refine(sG w.heap.size (w.heap.size+2) b3 (l3.drop 1) m4 b4 l4 wc Jr.out aN.out.rd Qy.out).mono ?_;rintro e wn ⟨rfl,fS,ho⟩;have aP:=aN.out.read fS ho;have cc:wn.cell? ⟨w.heap.size+1,7,none⟩=some (.int .i64 0):=aP.cell 7;have ff:wn.frozen? ⟨w.heap.size+1,7,none⟩=false:=aP.free 7;have mz:=Hd aP;clear fS ho aP aN;go_upto_region 12 with fail
 have aP:=iE.put (x2:=⟨y0,y1,y2,m1,m2,m3,gX,m4,0,none,[],0,none,[],0,none,[],0⟩) mz.out 7 (.int .i64 m4) rfl (λ h=>h);generalize wn.setCell ⟨w.heap.size+1,7,none⟩ (.int .i64 m4)=w8 at aP ⊢;have aN:=Hd aP;clear aP cc ff mz uw hv4;obtain⟨⟨m5,b5,l5⟩,ik⟩:∃z,bc b4 l4=z:=⟨_,rfl⟩;have QC:BytesWf l5:=by have:=(eL b4 l4 QB.out).1;rw[ik]at this;exact this
 have hv5:bH m5:=by
  rw[show m5=(bc b4 l4).1 by rw[ik]];exact ms _
 have Js:=Hd ik;have QD:=Hd QC;have uw:IntKind.i64.wrap m5=m5:=C7 hv5;clear ik QC;go_wp2_with fail
 refine(sG w.heap.size (w.heap.size+2) b4 l4 m5 b5 l5 w8 Js.out aN.out.rd QB.out).mono ?_;rintro e wn ⟨rfl,fS,ho⟩;have aP:=aN.out.read fS ho;have cc:wn.cell? ⟨w.heap.size+1,8,none⟩=some (.int .i64 0):=aP.cell 8;have ff:wn.frozen? ⟨w.heap.size+1,8,none⟩=false:=aP.free 8;have mz:=Hd aP;clear fS ho aP aN;go_upto_region 13 with fail
 have aP:=iE.put (x2:=⟨y0,y1,y2,m1,m2,m3,gX,m4,m5,none,[],0,none,[],0,none,[],0⟩) mz.out 8 (.int .i64 m5) rfl (λ h=>h);generalize wn.setCell ⟨w.heap.size+1,8,none⟩ (.int .i64 m5)=w9 at aP ⊢;have aN:=Hd aP;clear aP cc ff mz uw hv5;obtain⟨⟨q1,b6,l6⟩,pX⟩:∃z,ot b5 l5=z:=⟨_,rfl⟩;have yh:=Hd pX;clear pX;go_wp2_with fail
 refine(Jd w.heap.size (w.heap.size+2) b5 l5 (q1,b6,l6) w9 yh.out aN.out.rd QD.out).mono ?_;rintro e fy ⟨rfl,fS,ho⟩;have aP:=aN.out.read fS ho;have Jt:=Hd aP;clear fS ho aP aN;dsimp only;go_wp2_with fail
 obtain⟨⟨eT,bT,lT⟩,hT⟩:∃z,mR q1.toNat b6 l6=z:=⟨_,rfl⟩;obtain⟨hq0,pX,oM⟩:=Qk QD.out yh.out;have iD:l6.length<=n:=Jt.out.rd.Ql (by show b.length<=n;have:=HN.out;omega);have HT:=Hd hT;have uW:=Hd oM;have ke:q1.toNat<=n:=by omega
 have Ju:((q1.toNat:Nat):Int)=q1:=Int.toNat_of_nonneg hq0;rw[<-Ju];obtain⟨Q,Jv⟩:∃Q,q1.toNat=Q:=⟨_,rfl⟩;rw[Jv]at ke ⊢;have wK:=Hd Jv;clear Jv hT hq0 pX oM Ju;go_loopw [6] (λ i wr=>∃(m:Nat) (acc:List En) (b7:Bool) (l7:List Int) (ea:Option Addr) (ec:Nat),i=.int .i64 m/\(acc.map En.plain++(mR m b7 l7).1,(mR m b7 l7).2)=(eT,bT,lT)/\acc.length+m<=n/\iE w ⟨some ⟨bb,off,none⟩,n,cap,b⟩ w.heap.size ⟨y0,y1,y2,m1,m2,m3,gX,m4,m5,ea,acc,ec,none,[],0,none,[],0⟩ b7 l7 wr/\BytesWf l7/\l7.length<=n/\(b7=false->∀e∈acc,gV e)) (λ i _=>(intOf i).toNat)
 exact⟨Q,[],b6,l6,none,0,rfl,by rw[<-wK.out];exact HT.out,by simpa using ke,Jt.out,uW.out,iD,λ _ e he=>by cases he⟩
 clear Jt uW;obtain⟨m,acc,b7,l7,ea,ec,rfl,heq,iF,aP,iR,eZ,hfi⟩:=hrel;have HE:=Hd heq;have aN:=Hd aP;have uW:=Hd iR;have rP:=Hd hfi;have d1:=aP.rd.oR.1;clear heq aP iR hfi;go_upto_region 14 with fail
 go_cut [83] (λ v wq=>v=.bool (decide (0<m) && !b7)/\wq=wr)
 case first =>
  cases m with
  | zero =>
   go_wp2_with fail
   go_meet
   exact⟨by simp,rfl⟩
  | succ mq =>
   have j1:(0:Int)<(mq:Int)+1:=by omega
   go_wp2_with fail
   go_meet
   exact⟨by simp,rfl⟩
 case rest =>
 obtain⟨rfl,rfl⟩:=hcut;clear d1;by_cases fN:b7=true∨m=0
 ·
  have hv:(decide (0<m) && !b7)=false:=by rcases fN with rfl|rfl<;>simp
  rw[hv]
  have fX:acc.map En.plain=eT/\b7=bT/\l7=lT:=by
   have h1:=HE.out;rcases fN with h0|h0
   ·
    subst h0;rw[aa6]at h1;simpa using h1
   subst h0;simpa[mR]using h1
  obtain⟨hf1,rfl,rfl⟩:=fX;have jw:=Hd hf1;clear hv fN HE hf1 iF;obtain⟨⟨q2,b9,l9⟩,QE⟩:∃z,ot b7 l7=z:=⟨_,rfl⟩;have rN:=Hd QE;clear QE;go_wp2_with fail
  refine(Jd w.heap.size (w.heap.size+2) b7 l7 (q2,b9,l9) wc rN.out aN.out.rd uW.out).mono ?_;rintro e eB ⟨rfl,fS,ho⟩;have aP:=aN.out.read fS ho;have An:=Hd aP;clear fS ho aP aN;dsimp only;obtain⟨QF,abc,QG⟩:=Qk uW.out rN.out;have Jw:=Hd QG;have Ir:l9.length<=n:=An.out.rd.Ql (by show b.length<=n;have:=HN.out;omega);have QH:((q2.toNat:Nat):Int)=q2:=Int.toNat_of_nonneg QF;obtain⟨Q2,Jx⟩:∃Q2,q2.toNat=Q2:=⟨_,rfl⟩;have abd:Q2<=n:=by omega
  rw[<-QH,Jx];have abe:=Hd Jx;have yq:w.heap.size+3<=eB.heap.size:=An.out.size;have HLT:=Hd (show ∀e∈acc,∀g,(jn e).ownBlock=some g->g<eB.heap.size from λ e he g hg=>(jb (An.out.own.1.own e he).2 g hg).2);obtain⟨⟨vT,bV,lV⟩,hV⟩:∃z,mx Q2 b9 l9=z:=⟨_,rfl⟩;have HV:=Hd hV;clear hV Jx QF abc QG QH;iterate 7 go_step
  go_cut [8] (λ _ wq=>∃(va:Option Addr) (vc:Nat),iE w ⟨some ⟨bb,off,none⟩,n,cap,b⟩ w.heap.size ⟨y0,y1,y2,m1,m2,m3,gX,m4,m5,ea,acc,ec,va,vT,vc,none,[],0⟩ bV lV wq/\BytesWf lV)
  case first =>
   go_wp2_with fail
   go_loopw [8] (λ i wr=>∃(m:Nat) (ac:List Int) (bq:Bool) (lf:List Int) (va:Option Addr) (vc:Nat),i=.int .i64 m/\(ac++(mx m bq lf).1,(mx m bq lf).2)=(vT,bV,lV)/\ac.length+m<=n/\iE w ⟨some ⟨bb,off,none⟩,n,cap,b⟩ w.heap.size ⟨y0,y1,y2,m1,m2,m3,gX,m4,m5,ea,acc,ec,va,ac,vc,none,[],0⟩ bq lf wr/\BytesWf lf/\gj wr eB.heap.size va ac.length vc ac/\eB.heap.size<=wr.heap.size) (λ i _=>(intOf i).toNat)
   exact⟨Q2,[],b9,l9,none,0,rfl,by rw[HV.out];rfl,by simpa using abd,An.out,Jw.out,gj.nil _ _,aa _⟩
   clear An Jw;obtain⟨m,ac,bq,lf,va,vc,rfl,heq,iF,aP,iR,zU,afu⟩:=hrel;have HIO:=Hd zU;have HE:=Hd heq;have aN:=Hd aP;have E0:=Hd iR;have d1:=aP.rd.oR.1;clear heq aP iR zU;go_upto_region 19 with fail
   go_cut [104] (λ v wq=>v=.bool (decide (0<m) && !bq)/\wq=wr)
   case first =>
    cases m with
    | zero =>
     go_wp2_with fail
     go_meet
     exact⟨by simp,rfl⟩
    | succ mq =>
     have j1:(0:Int)<(mq:Int)+1:=by omega
     go_wp2_with fail
     go_meet
     exact⟨by simp,rfl⟩
   case rest =>
   obtain⟨rfl,rfl⟩:=hcut;clear d1;by_cases fN:bq=true∨m=0
   ·
    have hv:(decide (0<m) && !bq)=false:=by rcases fN with rfl|rfl<;>simp
    rw[hv]
    have fX:ac=vT/\bq=bV/\lf=lV:=by
     have h1:=HE.out;rcases fN with h0|h0
     ·
      subst h0;rw[Qm]at h1;simpa using h1
     subst h0;simpa[mx]using h1
    obtain⟨rfl,rfl,rfl⟩:=fX;clear hv fN HE iF;go_wp2_with fail
    go_meet
    exact⟨va,vc,aN.out,E0.out⟩
   obtain⟨mq,rfl⟩:∃mq,m=mq+1:=⟨m-1,by omega⟩
   obtain rfl:bq=false:=by
    cases bq with
    | true=>exact absurd (Or.inl rfl) fN
    | false=>rfl
   have hv:(decide (0<mq+1) && !false)=true:=by simp
   rw[hv];clear fN hv;obtain⟨k,Qx,n',cap',xs',hi,hlk⟩:=aN.out.rd;have hzz:=hi.z;simp only[ks.mk.injEq]at hzz;obtain⟨rfl,rfl,rfl,rfl⟩:=hzz;have hkn:=hi.at_;have ck:wc.cell? ⟨w.heap.size+2,1,none⟩=some (.int .i64 k):=ab hi.blk 1;have HI:=Hd hi;have rV:=Hd hlk;clear hi hlk;cases lf with
   | nil =>
    have cX:n<=k:=by
     have h1:=rV.out;have h2:=congrArg List.length h1;rw[List.length_drop,List.length_nil]at h2;have:=HN.out;omega
    have i5:(n:Int)<=k:=by omega
    have i6:decide ((n:Int)<=k)=true:=decide_eq_true i5;have c2:wc.cell? ⟨w.heap.size+2,2,none⟩=some (.bool false):=ab HI.out.blk 2;have f2:wc.frozen? ⟨w.heap.size+2,2,none⟩=false:=aO HI.out.blk 2
    have fX:ac=vT/\true=bV/\[]=lV:=by
     have h1:=HE.out;unfold mx at h1;simpa using h1
    obtain⟨rfl,rfl,rfl⟩:=fX;clear HE iF;go_wp2_with fail
    go_meet
    exact⟨va,vc,aN.out.read ⟨k,_,_,_,_,HI.out.mE true,rV.out⟩ (Only.set (w.heap.size+2) wc 2 _),E0.out⟩
   | cons v tl =>
    have hkl:k<n:=by
     have h2:=congrArg List.length rV.out;rw[List.length_drop,List.length_cons]at h2;have:=HN.out;omega
    have i5:¬(n:Int)<=k:=by omega
    have i6:decide ((n:Int)<=k)=false:=decide_eq_false i5;have i7:(k:Int)<n:=by omega
    have bU:b.getD k 0=v:=by
     have h1:(b.drop k).getD 0 0=v:=by rw[<-rV.out];rfl
     rw[<-h1];simp[List.getD,List.getElem?_drop]
    have htl:tl=b.drop (k+1):=by
     have h1:(b.drop k).drop 1=tl:=by rw[<-rV.out];rfl
     rw[<-h1,List.drop_drop]
    have hvw:0<=v/\v<256:=E0.out v List.mem_cons_self;have ew:IntKind.i64.wrap v=v:=jU _ (by omega);obtain⟨an,jQ⟩:∃an,ac.length=an:=⟨_,rfl⟩;have l10:wc.cell? ⟨w.heap.size+1,10,none⟩=some (.slice va an vc):=by rw[<-jQ];exact ab aN.out.blk 10
    have hcx:bb<w.heap.size/\wc.cell? ⟨bb,off+k,none⟩=some (.int .u8 v):=by
     rcases HX.out with h0|⟨b',off',e1,e2,e3⟩
     · have:=HN.out;rw[h0]at this;simp at this;omega
     cases e1
     rw[<-bU,<-e3 k (by have:=HN.out;omega)];exact⟨e2,aN.out.below.cell (p:=⟨bb,_,none⟩) e2⟩
    have hint:gj wc eB.heap.size va an vc ac:=by have h:=HIO.out;rw[<-jQ];exact h
    have abh:=aN.out.size
    have bD:=Hd (show ∀w':World,(wc.heap.size<=w'.heap.size/\∀b,b<w.heap.size+3->b≠w.heap.size+1->w'.heap[b]?=wc.heap[b]?)->w'.cell? ⟨w.heap.size+2,1,none⟩=some (.int .i64 k)/\w'.cell? ⟨bb,off+k,none⟩=some (.int .u8 v)from λ w' h =>
     ⟨(Ao (a:=⟨w.heap.size+2,1,none⟩) (h.2 (w.heap.size+2) (by omega) (by omega))).trans ck,(Ao (a:=⟨bb,off+k,none⟩) (h.2 bb (by have:=hcx.1;omega) (by have:=hcx.1;omega))).trans hcx.2⟩)
    have abi:=Hd hint;have jv:=Hd jQ;have HTL:=Hd htl;have QI:=Hd l10;clear bU htl hint jQ hcx l10;go_upto_region 23 with fail
    clear ck i5 i6;refine nX (λ w'=>wc.heap.size<=w'.heap.size/\∀b,b<w.heap.size+3->b≠w.heap.size+1->w'.heap[b]?=wc.heap[b]?) (by kernel_rfl) ⟨aa _,λ _ _ _=>rfl⟩ ?_;intro cu
    (first|(refine tkn 0 rfl ?_)|(refine aT (v:=?_) 0 rfl ?_ ?_;rotate_left;focus(intro wS ah;obtain⟨e1,e2⟩:=bD.out wS ah;go_simp;first|done|with_reducible rfl)))
    (try simp only[Act.put,ssa,aq,ar])
    (first|(refine tkn 2 rfl ?_)|(refine aT (v:=?_) 2 rfl ?_ ?_;rotate_left;focus(intro wS ah;obtain⟨e1,e2⟩:=bD.out wS ah;go_simp;first|done|with_reducible rfl)))
    (try simp only[Act.put,ssa,aq,ar])
    (first|(refine tkn 3 rfl ?_)|(refine aT (v:=?_) 3 rfl ?_ ?_;rotate_left;focus(intro wS ah;obtain⟨e1,e2⟩:=bD.out wS ah;go_simp;first|done|with_reducible rfl)))
    (try simp only[Act.put,ssa,aq,ar])
    (first|(refine tkn 4 rfl ?_)|(refine aT (v:=?_) 4 rfl ?_ ?_;rotate_left;focus(intro wS ah;obtain⟨e1,e2⟩:=bD.out wS ah;go_simp;first|done|with_reducible rfl)))
    (try simp only[Act.put,ssa,aq,ar])
    (first|(refine tkn 5 rfl ?_)|(refine aT (v:=?_) 5 rfl ?_ ?_;rotate_left;focus(intro wS ah;obtain⟨e1,e2⟩:=bD.out wS ah;go_simp;first|done|with_reducible rfl)))
    (try simp only[Act.put,ssa,aq,ar])
    (first|(refine tkn 6 rfl ?_)|(refine aT (v:=?_) 6 rfl ?_ ?_;rotate_left;focus(intro wS ah;obtain⟨e1,e2⟩:=bD.out wS ah;go_simp;first|done|with_reducible rfl)))
    (try simp only[Act.put,ssa,aq,ar])
    (first|(refine tkn 7 rfl ?_)|(refine aT (v:=?_) 7 rfl ?_ ?_;rotate_left;focus(intro wS ah;obtain⟨e1,e2⟩:=bD.out wS ah;go_simp;first|done|with_reducible rfl)))
    (try simp only[Act.put,ssa,aq,ar])
    (first|(refine tkn 8 rfl ?_)|(refine aT (v:=?_) 8 rfl ?_ ?_;rotate_left;focus(intro wS ah;obtain⟨e1,e2⟩:=bD.out wS ah;go_simp;first|done|with_reducible rfl)))
    (try simp only[Act.put,ssa,aq,ar])
    (first|(refine tkn 9 rfl ?_)|(refine aT (v:=?_) 9 rfl ?_ ?_;rotate_left;focus(intro wS ah;obtain⟨e1,e2⟩:=bD.out wS ah;go_simp;first|done|with_reducible rfl)))
    (try simp only[Act.put,ssa,aq,ar])
    refine Ab 1 10 rfl rfl (by kernel_rfl) (by rfl) (by rfl) (λ K hK=>?_) (λ K hK=>?_)
    rotate_left
    focus
     go_simp
     have bU:(wc.alloc (.cells #[.int .i64 v] 3)).drew.heap[wc.heap.size]?=some (.cells #[.int .i64 v] 3 (0,0)):=heap_alloc_new wc _;have aS:Below wc.heap.size wc (wc.alloc (.cells #[.int .i64 v] 3)).drew:=((aj wc.heap.size wc).alloc (aa _) _).drew;have aU:(wc.alloc (.cells #[.int .i64 v] 3)).drew.heap.size=wc.heap.size+1:=by show (wc.alloc _).heap.size=_;simp
     generalize (wc.alloc (.cells #[.int .i64 v] 3)).drew=w2 at bU aS aU ⊢;have jR:wc.heap.size<=w2.heap.size/\∀b,b<w.heap.size+3->b≠w.heap.size+1->w2.heap[b]?=wc.heap[b]?:=⟨by omega,λ b hb _=>aS.block b (by omega)⟩;refine hK.out _ _ jR ?_;clear hK K
     (try simp only[Act.put,ssa,aq,ar])
     refine dL 1 rfl (by kernel_rfl) (by rfl) (λ K hK=>?_);have l10:w2.cell? ⟨w.heap.size+1,10,none⟩=some (.slice va an vc):=(aS.cell (p:=⟨w.heap.size+1,10,none⟩) (show w.heap.size+1<wc.heap.size by omega)).trans QI.out;go_simp
     refine hK.out _ _ jR ?_;clear hK K l10
     (try simp only[Act.put,ssa,aq,ar])
    rotate_left
    focus
     have l10:wc.cell? ⟨w.heap.size+1,10,none⟩=some (.slice va an vc):=QI.out;go_simp
     refine hK.out _ _ cu ?_;clear hK K l10
     (try simp only[Act.put,ssa,aq,ar])
     refine dL 10 rfl (by kernel_rfl) (by rfl) (λ K hK=>?_);go_simp
     have bU:(wc.alloc (.cells #[.int .i64 v] 3)).drew.heap[wc.heap.size]?=some (.cells #[.int .i64 v] 3 (0,0)):=heap_alloc_new wc _;have aS:Below wc.heap.size wc (wc.alloc (.cells #[.int .i64 v] 3)).drew:=((aj wc.heap.size wc).alloc (aa _) _).drew;have aU:(wc.alloc (.cells #[.int .i64 v] 3)).drew.heap.size=wc.heap.size+1:=by show (wc.alloc _).heap.size=_;simp
     generalize (wc.alloc (.cells #[.int .i64 v] 3)).drew=w2 at bU aS aU ⊢;have jR:wc.heap.size<=w2.heap.size/\∀b,b<w.heap.size+3->b≠w.heap.size+1->w2.heap[b]?=wc.heap[b]?:=⟨by omega,λ b hb _=>aS.block b (by omega)⟩;refine hK.out _ _ jR ?_;clear hK K
     (try simp only[Act.put,ssa,aq,ar])
    all_goals
     have zR:=aN.out.grow aS;have r6:=abi.out.below aS (aa _);refine dL 11 rfl (by kernel_rfl) (by rfl) (λ K hK=>?_);refine aa8 (.tmp 118) (.tmp 127) rfl eB.heap.size (by rfl) r6 wc.heap.size v bU (by rfl) (by have:=jv.out;omega) (by omega) ?_;intro fR dG w3 bj aL;have hlo3:∀g,(Value.slice va an vc).ownBlock=some g->w.heap.size+3<=g:=λ g hg=>aF yq (jb r6 g hg).1
     have C8:Below (w.heap.size+3) wc w3:=(aS.mono abh).trans ((aj _ _).grown aL (by omega) hlo3);have hrf:=HI.out.tov (C8.mono (by omega)) (C8.block (w.heap.size+2) (by omega));have bL:w3.heap[w.heap.size+1]?=_:=(C8.block (w.heap.size+1) (by omega)).trans aN.out.blk;have c10:w3.cell? ⟨w.heap.size+1,10,none⟩=some (.slice va an vc):=by rw[<-jv.out];exact ab bL 10
     have f10:w3.frozen? ⟨w.heap.size+1,10,none⟩=false:=aO bL 10;have Is:w2.heap.size<=w3.heap.size:=aL.size;have Jy:iE w ⟨some ⟨bb,off,none⟩,n,cap,b⟩ w.heap.size ⟨y0,y1,y2,m1,m2,m3,gX,m4,m5,ea,acc,ec,fR,ac++[v],dG,none,[],0⟩ false (v :: tl) (w3.setCell ⟨w.heap.size+1,10,none⟩ (.slice fR (an+1) dG)):=zR.app aL hlo3 10 (.slice fR (an+1) dG) (by rw[<-jv.out];simp[ai]) ⟨zR.own.1.aa7 r6 HLT.out aL,by rw[List.length_append,jv.out];exact bj.le yq,iK _ _ _ _⟩;have Jz:=hrf.other (g:=w.heap.size+1) (i:=10) (by omega) (by omega) (.slice fR (an+1) dG);have JA:=bj.only (Only.set (w.heap.size+1) w3 10 (.slice fR (an+1) dG)) (by omega);have qy:wc.heap.size<=w3.heap.size/\∀b,b<w.heap.size+3->b≠w.heap.size+1->w3.heap[b]?=wc.heap[b]?:=⟨by omega,λ b hb _=>C8.block b hb⟩;have tP:wc.heap.size<=(w3.setCell ⟨w.heap.size+1,10,none⟩ (.slice fR (an+1) dG)).heap.size/\∀b,b<w.heap.size+3->b≠w.heap.size+1->(w3.setCell ⟨w.heap.size+1,10,none⟩ (.slice fR (an+1) dG)).heap[b]?=wc.heap[b]?:=⟨by simpa using qy.1,λ b hb dj=>(heap_setCell_other _ _ _ _ dj).trans (qy.2 b hb dj)⟩;refine hK.out _ _ qy ?_;clear hK K
     (try simp only[Act.put,ssa,aq,ar])
     (first|(refine tkn 12 rfl ?_)|(refine aT (v:=?_) 12 rfl ?_ ?_;rotate_left;focus(intro wS ah;obtain⟨e1,e2⟩:=bD.out wS ah;go_simp;first|done|with_reducible rfl)))
     (try simp only[Act.put,ssa,aq,ar])
     refine dL 13 rfl (by kernel_rfl) (by rfl) (λ K hK=>?_);go_simp
     generalize w3.setCell ⟨w.heap.size+1,10,none⟩ (.slice fR (an+1) dG)=w4 at Jy Jz JA tP ⊢;refine hK.out _ _ tP ?_;clear hK K c10 f10
     (try simp only[Act.put,ssa,aq,ar])
     refine wpAnyH_done (by kernel_rfl) ?_ _;have abk:=Hd Jy;have JB:=Hd Jz;have abl:=Hd JA;have rL:eB.heap.size<=w4.heap.size:=by have:=tP.1;omega
     clear zR r6 bj aL hlo3 C8 hrf bL Is Jy Jz JA qy tP jR aS aU bU cu;have ck:w4.cell? ⟨w.heap.size+2,1,none⟩=some (.int .i64 k):=ab JB.out.blk 1;have fk:w4.frozen? ⟨w.heap.size+2,1,none⟩=false:=aO JB.out.blk 1;have p7:IntKind.i64.wrap ((k:Int)+1)=(k:Int)+1:=jU _ (by omega);go_wp2_with fail
     refine⟨⟨mq,ac++[v],false,tl,fR,dG,rfl,?_,?_,abk.out.read ⟨k+1,_,_,_,_,JB.out.setAt (k+1) (by omega),HTL.out⟩ (Only.set (w.heap.size+2) w4 1 _),?_,?_,?_⟩,?_⟩
     ·
      have h:=HE.out;unfold mx at h;rw[if_neg (by decide)]at h;dsimp only at h;rw[<-h,List.append_assoc];rfl
     ·
      rw[List.length_append];simp only[List.length_cons,List.length_nil];omega
     · exact λ x hx=>E0.out x (sg _ hx)
     ·
      rw[List.length_append,jv.out];exact abl.out.only (Only.set (w.heap.size+2) w4 1 _) (by omega)
     · simpa using rL
     show ((mq:Int)).toNat<(((mq+1:Nat)):Int).toNat;omega
  obtain⟨va,vc,aP,QJ⟩:=hcut;have aN:=Hd aP;have WFV:=Hd QJ;clear aP QJ An;obtain⟨⟨q3,bQ,lq⟩,fZ⟩:∃z,ot bV lV=z:=⟨_,rfl⟩;have CJ:=Hd fZ;clear fZ;go_wp2_with fail
  refine(Jd w.heap.size (w.heap.size+2) bV lV (q3,bQ,lq) wc CJ.out aN.out.rd WFV.out).mono ?_;rintro e la ⟨rfl,fS,ho⟩;have aP:=aN.out.read fS ho;have yr:=Hd aP;clear fS ho aP aN;dsimp only
  have hread:wI b=if bQ=true then none else some ⟨y0,y1,y2,m1,m2,m3,gX,m4,m5,eT,vT,lq⟩:=by
   have ht:=HT.out;try rw[wK.out]at ht
   have h2:=HV.out;unfold wI;simp only[Jm.out,Jn.out,Jo.out,Jr.out,Js.out,yh.out,wK.out,ht,rN.out,abe.out,h2,CJ.out,rf.out,HY.out.1,HY.out.2.1,HY.out.2.2]
  have d2:=yr.out.rd.oR.1;have kI:=Hd hread;clear hread;have bU:=yr.out.res;cases bQ with
  | true =>
   go_wp2_with (refine wpList_store_row rfl 32 (.tmp 2) (.tmp 143) rfl w.heap.size (ai bM) rfl (by first|rfl|simp) 32 _ bU (fD bM) rfl (gB bM) ?_;rw[pM bU])
   have hg:r=(ng,4):=by rw[<-HR.out];unfold wJ;rw[if_neg (by have:=HN.out;omega),kI.out];first|rw[if_pos rfl]|rw[if_pos trivial]
   exact zX rfl bU yr.out.below rfl rfl (by rw[hg]) (by rw[hg];rfl) uH (dI.zero _ _)
  | false =>
   obtain⟨k,Qx,n',cap',xs',hi,hlk⟩:=yr.out.rd;have hzz:=hi.z;simp only[ks.mk.injEq]at hzz;obtain⟨rfl,rfl,rfl,rfl⟩:=hzz;have hkn:=hi.at_;have ck:la.cell? ⟨w.heap.size+2,1,none⟩=some (.int .i64 k):=ab hi.blk 1;dsimp only at hlk;have rV:=Hd hlk;clear hi hlk;obtain⟨sa,kS⟩:∃z,gf (some ⟨bb,off,none⟩) cap k 1=z:=⟨_,rfl⟩;obtain⟨cq,hcq⟩:∃z,cap-k=z:=⟨_,rfl⟩;have QK:n-k=lq.length:=by rw[rV.out,List.length_drop];have:=HN.out;omega
   have fO:∀w',(Instr.sliceAt 25 (.slice (some ⟨bb,off,none⟩) n cap) (some (.int .i64 (k:Int))) none none).run prog w'=.ok (.slice sa lq.length cq) w':=λ w'=>by
    have h1:=zm vp sizeByte (some ⟨bb,off,none⟩) n cap k hkn .i64 (k:Int) rfl w';rw[kS,hcq,QK]at h1;exact h1
   have aS:=(aj la.heap.size la).alloc (aa _) (.cells #[] 5);have afv:=yr.out.size
   have gq:BytesIn (la.alloc (.cells #[] 5)) w.heap.size sa lq:=by
    have h0:=HX.out.below (yr.out.below.trans (aS.mono (by omega))) (aa _);have h1:=BytesIn.sub (cap:=cap) k b.length h0 (by have:=HN.out;omega);rw[kS,fE (by rw[List.length_drop];omega),<-rV.out]at h1;exact h1
   have hsn:sa=none->cq=0:=λ e=>by rw[e]at kS;exact absurd (t8 kS) (by simp)
   have jO:lq.length<=1048576:=by omega
   have sr:=Hd gq;have Bi:=Hd hsn;have iO:=Hd aS;have ck2:(la.alloc (.cells #[] 5)).cell? ⟨w.heap.size+2,1,none⟩=some (.int .i64 k):=(aS.cell (p:=⟨w.heap.size+2,1,none⟩) (show w.heap.size+2<la.heap.size by omega)).trans ck;clear gq hsn aS kS hcq QK;go_wp2_with go_loud (at_builtin;refine Fu rfl (.tmp 144) (.tmp 150) rfl la.heap.size _ [] rfl (oH _ #[] 0 (aa _) (by unfold maxLen;omega) rfl) sa cq lq rfl w.heap.size sr.out Bi.out (by simp;omega) (by simp) ?_)
   intro v15 nl JC QL;obtain⟨ia,ic,abn⟩:=jz JC;subst abn;have pl:Below la.heap.size la nl:=iO.out.trans ((aj _ _).grown QL (by simp) (λ g hg=>by simp[Value.ownBlock]at hg;omega));have E3:=yr.out.grow pl;have Ie:nl.cell? ⟨w.heap.size+1,11,none⟩=some (.slice none 0 0):=E3.cell 11;have f11:nl.frozen? ⟨w.heap.size+1,11,none⟩=false:=E3.free 11;have QM:=E3.put (x2:=⟨y0,y1,y2,m1,m2,m3,gX,m4,m5,ea,acc,ec,va,vT,vc,ia,lq,ic⟩) 11 (.slice ia lq.length ic) rfl (λ h=>⟨h.1,h.2.1,fh (rK JC (Only.set (w.heap.size+1) nl 11 (.slice ia lq.length ic)) (by omega)) (by omega)⟩);have wL:=Hd QM;clear JC QL pl E3 QM fO sr ck ck2;go_upto_region 29 with fail
   generalize nl.setCell ⟨w.heap.size+1,11,none⟩ (.slice ia lq.length ic)=w16 at wL ⊢;clear Ie f11 d2 bU;have JD:bV=false:=(CZ (b:=bV) (l:=lV) (by rw[CJ.out])).1
   have iA:b9=false:=by
    cases b9 with
    | false=>rfl
    | true =>
     have h:=HV.out;rw[Qm]at h;simp only[Prod.mk.injEq]at h;rw[<-h.2.1]at JD;cases JD
   have eV:b7=false:=(CZ (b:=b7) (l:=l7) (by rw[rN.out];exact iA)).1
   have uC:cy ⟨y0,y1,y2,m1,m2,m3,gX,m4,m5,ea,acc,ec,va,vT,vc,ia,lq,ic⟩:=by
    have hel:=Qn Q b6 l6;rw[<-wK.out,HT.out,<-jw.out,List.length_map]at hel;have hvl:=Qo Q2 b9 l9;rw[HV.out]at hvl;have hvw:=Qp Q2 b9 l9 Jw.out;rw[HV.out]at hvw;have Ju:=wK.out;dsimp only at hel hvl hvw
    exact
     { kind:=by rw[<-HY.out.1];exact uA HW.out 0,fr:=zV (by rw[<-HY.out.2.1];exact uA HW.out 1),tov:=zV (by rw[<-HY.out.2.2];exact uA HW.out 2),term:=by rw[show m1=(bc false (b.drop 3)).1 by rw[Jm.out]];exact ms _,index:=by rw[show m2=(bc b1 l1).1 by rw[Jn.out]];exact ms _,was:=by rw[show m3=(bc b2 l2).1 by rw[Jo.out]];exact ms _,commit:=by rw[show m4=(bc b3 (l3.drop 1)).1 by rw[Jr.out]];exact ms _,round:=by rw[show m5=(bc b4 l4).1 by rw[Js.out]];exact ms _,es:=rP.out eV,en:=by show acc.length<=_;omega,vs:=λ v hv=>zV (hvw v hv),vn:=by show vT.length<=_;omega,im:=λ v hv=>(by have kw:v∈b.drop k:=(by rw[<-rV.out];exact hv);exact HW.out v (ub kw)),ln:=by show lq.length<=_;omega,zB:=iW wL.out.own.1.row,sj:=iW wL.out.own.2.1,tE:=iW wL.out.own.2.2,fi:=mp wL.out.own.2.2 }
   have lA:(⟨y0,y1,y2,m1,m2,m3,gX,m4,m5,ea,acc,ec,va,vT,vc,ia,lq,ic⟩:Lt).plain=⟨y0,y1,y2,m1,m2,m3,gX,m4,m5,eT,vT,lq⟩:=by show cQ.mk y0 y1 y2 m1 m2 m3 gX m4 m5 (acc.map En.plain) vT lq=_;rw[jw.out]
   have jC:=Hd uC;have rQ:=Hd lA;obtain⟨⟨bs,er⟩,py⟩:∃z,eM (⟨y0,y1,y2,m1,m2,m3,gX,m4,m5,ea,acc,ec,va,vT,vc,ia,lq,ic⟩:Lt).plain=z:=⟨_,rfl⟩;have rS:=Hd py
   have aY:w16.rangeAt (w.heap.size+1) 0 (ai ⟨y0,y1,y2,m1,m2,m3,gX,m4,m5,ea,acc,ec,va,vT,vc,ia,lq,ic⟩).toList:=by
    intro j v hv;rw[Nat.zero_add,ab wL.out.blk,<-Array.getElem?_toList];exact hv
   clear uC lA py JD iA eV;go_wp2_with (refine wpList_load_mid rfl 32 (.tmp 4) rfl (w.heap.size+1) 0 rfl (ai ⟨y0,y1,y2,m1,m2,m3,gX,m4,m5,ea,acc,ec,va,vT,vc,ia,lq,ic⟩).toList _ aY cL rfl (eN ⟨y0,y1,y2,m1,m2,m3,gX,m4,m5,ea,acc,ec,va,vT,vc,ia,lq,ic⟩) ?_)
   refine(Jc ⟨y0,y1,y2,m1,m2,m3,gX,m4,m5,ea,acc,ec,va,vT,vc,ia,lq,ic⟩ w16 (zW wL.out.own) jC.out bs er rS.out).mono ?_;rintro e og ⟨a,c4,rfl,dw,hbn,hbc,_,b17⟩;have xP:=wL.out.grow b17;have bU:=xP.res
   have cw:wJ b=if er=0/\bs=b then(⟨y0,y1,y2,m1,m2,m3,gX,m4,m5,eT,vT,lq⟩,0)else(ng,4):=by
    unfold wJ;rw[if_neg (by have:=HN.out;omega),kI.out,if_neg (by decide)];dsimp only;rw[<-rQ.out,rS.out]
   rw[HR.out]at cw;have qd:=Hd cw;have pW:(convert 25 9 (.slice a bs.length c4)).run prog og=.ok (.string (strOfNums bs)) og:=EI rfl dw hbn;have bN:(convert 25 9 (.slice (some ⟨bb,off,none⟩) n cap)).run prog og=.ok (.string (strOfNums b)) og:=EI HN.out (HX.out.below xP.below (aa _)) kv;obtain⟨s1,dB⟩:∃s,strOfNums bs=s:=⟨_,rfl⟩;obtain⟨s2,fM⟩:∃s,strOfNums b=s:=⟨_,rfl⟩;have gL:=jC.out.bytes
   have hwb:BytesWf bs:=by
    have hp:=rS.out;unfold eM at hp;split at hp
    · cases hp;intro x hx;cases hx
    rename_i hrt;split at hp
    · cases hp;intro x hx;cases hx
    cases hp
    exact gL (by simpa using hrt)
   have vh:bs=b↔s1.toList=s2.toList:=by
    rw[<-dB,<-fM,Lib.strOfNums_toList,Lib.strOfNums_toList];exact⟨λ h=>by rw[h],OF hwb HW.out⟩
   rw[dB]at pW;rw[fM]at bN;obtain⟨bn,QN⟩:∃z,bs.length=z:=⟨_,rfl⟩;rw[QN]at pW ⊢;have wM:=Hd xP;have xY:=Hd vh;clear xP cw b17 dw hbn hbc dB fM QN hwb gL vh aY;by_cases he0:er=0
   ·
    subst he0;by_cases hss:s1.toList=s2.toList
    ·
     have q1':(s1.toList==s2.toList)=true:=beq_iff_eq.2 hss;have hg:r=(⟨y0,y1,y2,m1,m2,m3,gX,m4,m5,eT,vT,lq⟩,0):=by rw[qd.out,if_pos ⟨rfl,xY.out.2 hss⟩]
     have HG:=Hd hg;clear hg
     have aY:og.rangeAt (w.heap.size+1) 0 (ai ⟨y0,y1,y2,m1,m2,m3,gX,m4,m5,ea,acc,ec,va,vT,vc,ia,lq,ic⟩).toList:=by
      intro j v hv;rw[Nat.zero_add,ab wM.out.blk,<-Array.getElem?_toList];exact hv
     go_wp2_with (first|(refine wpList_load_mid rfl 32 (.tmp 4) rfl (w.heap.size+1) 0 rfl (ai ⟨y0,y1,y2,m1,m2,m3,gX,m4,m5,ea,acc,ec,va,vT,vc,ia,lq,ic⟩).toList _ aY cL rfl (eN ⟨y0,y1,y2,m1,m2,m3,gX,m4,m5,ea,acc,ec,va,vT,vc,ia,lq,ic⟩) ?_)|(refine wpList_store_row rfl 32 (.tmp 2) (.tmp 168) rfl w.heap.size (ai ⟨y0,y1,y2,m1,m2,m3,gX,m4,m5,ea,acc,ec,va,vT,vc,ia,lq,ic⟩) rfl (by first|rfl|simp) 32 _ bU (fD ⟨y0,y1,y2,m1,m2,m3,gX,m4,m5,ea,acc,ec,va,vT,vc,ia,lq,ic⟩) rfl (gB ⟨y0,y1,y2,m1,m2,m3,gX,m4,m5,ea,acc,ec,va,vT,vc,ia,lq,ic⟩) ?_))
     have ho:=xX w.heap.size og (ai ⟨y0,y1,y2,m1,m2,m3,gX,m4,m5,ea,acc,ec,va,vT,vc,ia,lq,ic⟩);have afw:=wM.out.size;exact zX rfl (setRow_heap og w.heap.size _ (ai ⟨y0,y1,y2,m1,m2,m3,gX,m4,m5,ea,acc,ec,va,vT,vc,ia,lq,ic⟩) _ _ bU) (wM.out.below.trans (ho.toBelow (by omega) (aa _))) rfl rfl (by rw[HG.out]) (by rw[HG.out];exact rQ.out) jC.out ⟨(wM.out.own.1.only ho (by omega)).le (by omega),(wM.out.own.2.1.only ho (by omega)).le (by omega),fh (rK wM.out.own.2.2 ho (by omega)) (by omega)⟩
    have q1':(s1.toList==s2.toList)=false:=beq_eq_false_iff_ne.2 hss;have hg:r=(ng,4):=by rw[qd.out,if_neg (λ h=>hss (xY.out.1 h.2))]
    have HG:=Hd hg;clear hg;go_wp2_with (refine wpList_store_row rfl 32 (.tmp 2) (.tmp 167) rfl w.heap.size (ai bM) rfl (by first|rfl|simp) 32 _ bU (fD bM) rfl (gB bM) ?_;rw[pM bU])
    exact zX rfl bU wM.out.below rfl rfl (by rw[HG.out]) (by rw[HG.out];rfl) uH (dI.zero _ _)
   have q1':(er==0)=false:=by simpa using he0
   have q2':(er != 0)=true:=by simpa using he0
   have hg:r=(ng,4):=by rw[qd.out,if_neg (λ h=>he0 h.1)]
   have HG:=Hd hg;clear hg;go_wp2_with (refine wpList_store_row rfl 32 (.tmp 2) (.tmp 167) rfl w.heap.size (ai bM) rfl (by first|rfl|simp) 32 _ bU (fD bM) rfl (gB bM) ?_;rw[pM bU])
   exact zX rfl bU wM.out.below rfl rfl (by rw[HG.out]) (by rw[HG.out];rfl) uH (dI.zero _ _)
 obtain⟨mq,rfl⟩:∃mq,m=mq+1:=⟨m-1,by omega⟩
 obtain rfl:b7=false:=by
  cases b7 with
  | true=>exact absurd (Or.inl rfl) fN
  | false=>rfl
 have hv:(decide (0<mq+1) && !false)=true:=by simp
 rw[hv];clear fN hv;obtain⟨⟨eP,b8,l8⟩,hq⟩:∃q,fq false l7=q:=⟨_,rfl⟩;have HQ:=Hd hq;clear hq;go_wp2_with fail
 refine(aa1 w.heap.size (w.heap.size+2) false l7 (eP,b8,l8) wc HQ.out aN.out.rd uW.out).mono ?_;rintro e ol ⟨f,hp,rfl,⟨qo,kw⟩,fS,ho⟩;dsimp only at hp fS;have aP:=aN.out.read fS ho;have E4:=Hd aP;have afx:w.heap.size+3<=wc.heap.size:=aN.out.size;have abo:=ho.1;have Cc:=Hd (show ja ol wc.heap.size f from⟨qo,kw⟩);have rQ:=Hd hp;have uD:=Hd (And.intro (iW qo) (And.intro (iW kw) (And.intro (mp qo) (mp kw))));have HOP:=Hd aN.out.own.1.own;clear aP fS ho hp qo kw aN;obtain⟨dO,dP,ess,dQ,dR,dS,ef,jr,eg,enum,ei,evs,ej⟩:=f;obtain⟨nn,oz⟩:∃nn,jr.length=nn:=⟨_,rfl⟩;obtain⟨jt,xR⟩:∃mm,evs.length=mm:=⟨_,rfl⟩;simp only[tv];rw[oz,xR];have sl:=Hd oz;have bd:=Hd xR;clear oz xR;have aS:=(aj ol.heap.size ol).alloc (aa _) (.cells #[.int .i64 dO,.int .u8 dP,.int .i64 ess,.int .i64 dQ,.int .u8 dR,.string dS,.slice ef nn eg,.int .i64 enum,.slice ei jt ej] 46);have kg:=heap_alloc_new ol (.cells #[.int .i64 dO,.int .u8 dP,.int .i64 ess,.int .i64 dQ,.int .u8 dR,.string dS,.slice ef nn eg,.int .i64 enum,.slice ei jt ej] 46);have cA:(ol.alloc (.cells #[.int .i64 dO,.int .u8 dP,.int .i64 ess,.int .i64 dQ,.int .u8 dR,.string dS,.slice ef nn eg,.int .i64 enum,.slice ei jt ej] 46)).heap.size=ol.heap.size+1:=by simp
 have iO:=Hd (And.intro aS (And.intro kg cA));clear aS kg cA;go_upto_region 17 with fail
 obtain⟨aS,kg,cA⟩:=iO.out;obtain⟨vb,hvb⟩:∃vb,ol.heap.size=vb:=⟨_,rfl⟩;have yt:=Hd (E4.out.grow aS);have JE:=Hd (Cc.out.below aS (aa _));rw[hvb]at kg cA abo ⊢;have jZ:=Hd kg;clear iO E4 Cc aS kg hvb;generalize ol.alloc (.cells #[.int .i64 dO,.int .u8 dP,.int .i64 ess,.int .i64 dQ,.int .u8 dR,.string dS,.slice ef nn eg,.int .i64 enum,.slice ei jt ej] 46)=eW at yt JE jZ cA ⊢;have YD:vb+1<=eW.heap.size:=pJ cA.symm;clear cA;obtain⟨en,kz⟩:∃en,acc.length=en:=⟨_,rfl⟩;have kq:=Hd kz;have GA:en+1<=n:=by omega
 have l9:eW.cell? ⟨w.heap.size+1,9,none⟩=some (.slice ea en ec):=by rw[<-kz];exact ab yt.out.blk 9
 have v0:eW.cell? ⟨vb,0,none⟩=some (.int .i64 dO):=ab jZ.out 0;have v1:eW.cell? ⟨vb,1,none⟩=some (.int .u8 dP):=ab jZ.out 1;have v2:eW.cell? ⟨vb,2,none⟩=some (.int .i64 ess):=ab jZ.out 2;have v3:eW.cell? ⟨vb,3,none⟩=some (.int .i64 dQ):=ab jZ.out 3;have v4:eW.cell? ⟨vb,4,none⟩=some (.int .u8 dR):=ab jZ.out 4;have v5:eW.cell? ⟨vb,5,none⟩=some (.string dS):=ab jZ.out 5;have v6:eW.cell? ⟨vb,6,none⟩=some (.slice ef nn eg):=ab jZ.out 6;have v7:eW.cell? ⟨vb,7,none⟩=some (.int .i64 enum):=ab jZ.out 7;have v8:eW.cell? ⟨vb,8,none⟩=some (.slice ei jt ej):=ab jZ.out 8;have JF:=yt.out.own.1.row;rw[kz]at JF;have aS:=(aj eW.heap.size eW).alloc (aa _) (.cells #[.int .i64 dO,.int .u8 dP,.int .i64 ess,.int .i64 dQ,.int .u8 dR,.string dS,.slice ef nn eg,.int .i64 enum,.slice ei jt ej] 46);have hkl:=heap_alloc_new eW (.cells #[.int .i64 dO,.int .u8 dP,.int .i64 ess,.int .i64 dQ,.int .u8 dR,.string dS,.slice ef nn eg,.int .i64 enum,.slice ei jt ej] 46);have Cd:=yt.out.grow aS;have uE:=JE.below aS (aa _);have Ce:(eW.alloc (.cells #[.int .i64 dO,.int .u8 dP,.int .i64 ess,.int .i64 dQ,.int .u8 dR,.string dS,.slice ef nn eg,.int .i64 enum,.slice ei jt ej] 46)).ownsRow (w.heap.size+3) 46 9 (.slice ea en ec) en (acc.flatMap bW):=own_below JF aS (aa _)
 have Cf:RowsIn 9 bW rG (eW.alloc (.cells #[.int .i64 dO,.int .u8 dP,.int .i64 ess,.int .i64 dQ,.int .u8 dR,.string dS,.slice ef nn eg,.int .i64 enum,.slice ei jt ej] 46)) (eW.alloc (.cells #[.int .i64 dO,.int .u8 dP,.int .i64 ess,.int .i64 dQ,.int .u8 dR,.string dS,.slice ef nn eg,.int .i64 enum,.slice ei jt ej] 46)).heap.size (some ⟨eW.heap.size,0,none⟩) [⟨dO,dP,ess,dQ,dR,dS,ef,jr,eg,enum,ei,evs,ej⟩] :=
  ud mh [⟨dO,dP,ess,dQ,dR,dS,ef,jr,eg,enum,ei,evs,ej⟩] _ hkl (by rw[<-sl.out,<-bd.out];rfl) (by simp) (λ x hx=>by
   rw[List.mem_singleton.1 hx];exact⟨mH oF rfl uE.1 (λ _ _=>trivial),mH mA rfl uE.2 (λ _ _=>trivial)⟩)
 have E5:=Hd Cd;have Cg:=Hd uE;have lP:=Hd Ce;have sr:=Hd Cf;have Hk:w.heap.size+3<=(eW.alloc (.cells #[.int .i64 dO,.int .u8 dP,.int .i64 ess,.int .i64 dQ,.int .u8 dR,.string dS,.slice ef nn eg,.int .i64 enum,.slice ei jt ej] 46)).heap.size:=by simp;omega
 clear kz hkl Cd uE JF Ce Cf yt JE jZ aS;go_wp2_with (at_builtin;refine tw rc tX rfl (by decide) mh DM rfl (.tmp 89) (.tmp 91) rfl (w.heap.size+3) (.slice ea en ec) en (acc.flatMap bW) rfl lP.out (some ⟨eW.heap.size,0,none⟩) 1 1 [⟨dO,dP,ess,dQ,dR,dS,ef,jr,eg,enum,ei,evs,ej⟩] rfl rfl _ sr.out (λ h=>by cases h) (by unfold maxLen;omega) (by omega) Hk ?_)
 intro v35 oQ xS tH Hl;obtain⟨ir,iB,Hm⟩:=jz xS;subst Hm
 have xT:gU oQ (w.heap.size+3) (.slice ir (en+1) iB) (acc++[⟨dO,dP,ess,dQ,dR,dS,ef,jr,eg,enum,ei,evs,ej⟩]):=by
  have h1:=E5.out.own.1;have h2:=kq.out;subst h2;exact h1.push HOP.out (B:=wc.heap.size) (by omega) (by omega) Cg.out (by simpa using xS) tH
 have zP:∀g,(Value.slice ea en ec).ownBlock=some g->w.heap.size+3<=g:=λ g hg=>(jb lP.out g hg).1
 have⟨f9,NX⟩:oQ.frozen? ⟨w.heap.size+1,9,none⟩=false/\oQ.cell? ⟨w.heap.size+1,9,none⟩=some (.slice ea en ec):=by
  have hk:oQ.heap[w.heap.size+1]?=_:=(tH.block (w.heap.size+1) (by omega) (λ e=>by have:=zP _ e.symm;omega)).trans E5.out.blk;exact⟨aO hk 9,by rw[<-kq.out];exact ab hk 9⟩
 have Et:=Hd (E5.out.app (x2:=⟨y0,y1,y2,m1,m2,m3,gX,m4,m5,ir,acc++[⟨dO,dP,ess,dQ,dR,dS,ef,jr,eg,enum,ei,evs,ej⟩],iB,none,[],0,none,[],0⟩) tH zP 9 (.slice ir (en+1) iB) (by rw[<-kq.out];simp[ai]) ⟨by rw[<-kq.out]at xT;simpa using xT,gj.nil _ _,iK _ _ _ _⟩);clear l9 xS tH Hl xT zP v0 v1 v2 v3 v4 v5 v6 v7 v8 lP sr Cg E5;go_wp2_with fail
 refine⟨⟨mq,acc++[⟨dO,dP,ess,dQ,dR,dS,ef,jr,eg,enum,ei,evs,ej⟩],b8,l8,ir,iB,rfl,?_,?_,Et.out,?_,?_,?_⟩,?_⟩
 ·
  have h:=HE.out;unfold mR at h;rw[if_neg (by decide),HQ.out]at h;dsimp only at h;rw[<-h,List.map_append,List.map_cons,List.map_nil,rQ.out,List.append_assoc];rfl
 ·
  rw[List.length_append];simp only[List.length_cons,List.length_nil];omega
 ·
  have h:=(FJ false l7 uW.out).1;rw[HQ.out]at h;exact h
 ·
  have h:=(FJ false l7 uW.out).2;rw[HQ.out]at h;exact aF h eZ
 ·
  intro fj e he;rcases List.mem_append.1 he with he|he
  · exact rP.out trivial e he
  rw[List.mem_singleton.1 he];exact M7 uW.out (by rw[HQ.out];exact fj) (by omega) (by rw[HQ.out];exact rQ.out) uD.out.1 uD.out.2.1 uD.out.2.2.1 uD.out.2.2.2
 show ((mq:Int)).toNat<(((mq+1:Nat)):Int).toNat;omega
end Go.Proofs.YtepdklfkegkojaaGreatDoor
