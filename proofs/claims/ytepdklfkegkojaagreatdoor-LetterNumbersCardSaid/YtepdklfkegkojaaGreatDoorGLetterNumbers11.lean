/- Parts of one proof. Conditions: as each says. -/
import Derived.Test.YtepdklfkegkojaaGreatDoorGLetterNumbers0
import Derived.Test.YtepdklfkegkojaaGreatDoorGLetterNumbers10
import Derived.Deep.WholeRow
set_option linter.all false
set_option maxHeartbeats 16000000
set_option maxRecDepth 100000
namespace Go.Proofs.YtepdklfkegkojaaGreatDoor
open Go.Proofs.Tryz
open Go.RowKit
def ai (l:Lt):Array Value:=#[.int .u8 l.kind,.int .i64 l.fr,.int .i64 l.tov,.int .i64 l.term,.int .i64 l.index,.int .i64 l.was,.bool l.ok,.int .i64 l.commit,.int .i64 l.round,.slice l.eo l.es.length l.ey,.slice l.vo l.vs.length l.ce,.slice l.io l.im.length l.fi]
theorem gB (l:Lt):(ai l).all (·.oneCell')=true:=by simp[ai,Value.oneCell']
theorem uA {l:List Int}(h:BytesWf l)(i:Nat):0<=l.getD i 0/\l.getD i 0<256:=by
 rw[List.getD_eq_getElem?_getD];cases hq:l[i]? with
 | none=>exact⟨Int.le_refl 0,(by decide:(0:Int)<256)⟩
 | some x=>exact h x (List.mem_of_getElem? hq)
structure RS (W:World) (B tb rd:Nat) (w:World):Prop where
 below:Below B W w
 blk:w.heap[tb]?=some (.cells #[.pointer (some ⟨rd,0,none⟩)] 140 (0,0))
theorem RS.lt {W w:World}{B tb rd:Nat}(h:RS W B tb rd w):tb<w.heap.size:=(Array.getElem?_eq_some_iff.1 h.blk).1
theorem RS.cell {W w:World}{B tb rd:Nat}(h:RS W B tb rd w):w.cell? ⟨tb,0,none⟩=some (.pointer (some ⟨rd,0,none⟩)):=ab h.blk 0
theorem RS.grow {W w w':World}{B tb rd:Nat}(h:RS W B tb rd w)(hb:Below w.heap.size w w')(hB:B<=tb):RS W B tb rd w' :=
 ⟨h.below.trans (hb.mono (by have:=h.lt;omega)),(hb.block tb h.lt).trans h.blk⟩
theorem M8 {W w:World}{B tb rd:Nat}(h:RS W B tb rd w):RS W B tb rd w.drew :=
 ⟨h.below.drew,((aj w.heap.size w).drew.block tb h.lt).trans h.blk⟩
theorem BS {W w w':World}{B tb rd rr:Nat}(h:RS W B tb rd w)(ho:Only rr w w')(h1:B<=rr/\B<=tb)(h2:tb≠rr):RS W B tb rd w' :=
 ⟨h.below.trans (ho.toBelow (by have:=h.lt;omega) h1.1),(ho.block tb h.lt h2).trans h.blk⟩
theorem BT {W w:World}{B tb rd:Nat}(h:RS W B tb rd w)(hn:tb≠B)(i:Nat)(v:Value):RS W B tb rd (w.setCell ⟨B,i,none⟩ v) :=
 ⟨h.below.setCell (p:=⟨B,i,none⟩) (aa _) v,(heap_setCell_other _ _ _ _ hn).trans h.blk⟩
theorem RS.put {W w:World}{B tb rd:Nat}(h:RS W B tb rd w)(qz:Nat)(hB:B<=tb):RS W B tb qz (w.setCell ⟨tb,0,none⟩ (.pointer (some ⟨qz,0,none⟩))) :=
 ⟨h.below.setCell (p:=⟨tb,0,none⟩) hB _,js h.blk _ rfl⟩
def bM:Lt:=⟨0,0,0,0,0,0,false,0,0,none,[],0,none,[],0,none,[],0⟩
theorem mK:ai bM=#[.int .u8 0,.int .i64 0,.int .i64 0,.int .i64 0,.int .i64 0,.int .i64 0,.bool false,.int .i64 0,.int .i64 0,.slice none 0 0,.slice none 0 0,.slice none 0 0]:=rfl
theorem pM {w:World}{g:Nat}{cs:Array Value}{t:TypeId}{fr:Nat×Nat}(h:w.heap[g]?=some (.cells cs t fr)):w.setRow g cs=w:=by
 have ae:g<w.heap.size:=(Array.getElem?_eq_some_iff.1 h).1;have hg:w.heap[g]=.cells cs t fr:=(Array.getElem?_eq_some_iff.1 h).2
 have hm:(w.setRow g cs).heap=w.heap:=by
  apply Array.ext_getElem?
  intro j;by_cases hj:g=j
  ·
   subst hj;rw[setRow_heap w g cs cs t fr h,h]
  simp only[World.setRow,Array.getElem?_modify,if_neg hj]
 have:w.setRow g cs={ w with heap:=(w.setRow g cs).heap }:=rfl;rw[this,hm]
def Yi (bs:List Int) (n B:Nat) (w:World) (e:Ending) (w':World):Prop :=
 ∃a c,e=.returned (.slice a n c)/\w'.ownsRow B 5 1 (.slice a n c) n (bs.map bv)/\Below B w w'
theorem vW.grow {w w':World}{B rb:Nat}{left:List Int}{ao:Option Addr}{cap:Nat}(h:vW w B rb left ao cap)(hb:Below w.heap.size w w'):vW w' B rb left ao cap :=
 ⟨(hb.block rb (Array.getElem?_eq_some_iff.1 h.blk).1).trans h.blk,h.off.below hb (by have:=(Array.getElem?_eq_some_iff.1 h.blk).1;have:=h.lo;omega),h.hcap,h.nil,h.lo⟩
structure jE (W:World) (B lb rb:Nat) (x:Lt) (left:List Int) (w:World):Prop where
 below:Below B W w
 blk:w.heap[lb]?=some (.cells (ai x) 32 (0,0))
 rest:Rest w B rb left
 lo:B<=lb
 ro:B<=rb
 ne:rb≠lb
theorem jE.grow {W w w':World}{B lb rb:Nat}{x:Lt}{left:List Int}(h:jE W B lb rb x left w)(hb:Below w.heap.size w w'):jE W B lb rb x left w' :=
 ⟨h.below.trans (hb.mono (by have:=(Array.getElem?_eq_some_iff.1 h.blk).1;have:=h.lo;omega)),(hb.block lb (Array.getElem?_eq_some_iff.1 h.blk).1).trans h.blk,h.rest.below hb,h.lo,h.ro,h.ne⟩
theorem jE.only {W w w':World}{B lb rb rr:Nat}{x:Lt}{left:List Int}(h:jE W B lb rb x left w)(ho:Only rr w w')(h1:B<=rr)(h2:lb≠rr)(h3:rb≠rr):jE W B lb rb x left w' :=
 ⟨h.below.trans (ho.toBelow (by have:=(Array.getElem?_eq_some_iff.1 h.blk).1;have:=h.lo;omega) h1),(ho.block lb (Array.getElem?_eq_some_iff.1 h.blk).1 h2).trans h.blk,h.rest.only ho h3 h1,h.lo,h.ro,h.ne⟩
theorem jE.grown {W w w':World}{B lb rb:Nat}{x:Lt}{left:List Int}{row:Option Nat}(h:jE W B lb rb x left w)(hg:w.grownBy w' row)(hr:∀g,row=some g->B<=g/\g≠lb/\g≠rb):jE W B lb rb x left w':=by
 have hb:Below B w w':=(aj B w).grown hg (by have:=h.rest.lt;have:=h.ro;omega) (λ g hq=>(hr g hq).1);have gN:=h.rest.lt;refine⟨h.below.trans hb,(hg.block lb (Array.getElem?_eq_some_iff.1 h.blk).1 (λ e=>(hr lb e.symm).2.1 rfl)).trans h.blk,?_,h.lo,h.ro,h.ne⟩;obtain⟨ao,cap,hq⟩:=h.rest;exact⟨ao,cap,(hg.block rb gN (λ e=>(hr rb e.symm).2.2 rfl)).trans hq.blk,hq.off.below hb (aa _),hq.hcap,hq.nil,hq.lo⟩
theorem jE.Yj {W w:World}{B lb rb:Nat}{x:Lt}{left l2 Yk:List Int}{ao a2:Option Addr}{cap c2 n2:Nat}(h:jE W B lb rb x Yk w)(hr:vW w B rb left ao cap)(h1:BytesIn w B a2 l2)(hn:l2.length=n2)(h2:n2<=c2)(h3:a2=none->c2=0):jE W B lb rb x l2 (w.setCell ⟨rb,0,none⟩ (.slice a2 n2 c2)) :=
 ⟨h.below.setCell (p:=⟨rb,0,none⟩) h.ro _,(heap_setCell_other _ _ _ _ (Ne.symm h.ne)).trans h.blk,hr.set h1 hn h2 h3,h.lo,h.ro,h.ne⟩
theorem Yl {kZ el:List Int}{eP:dX}(q:Nat)(hq:fq false kZ=(eP,false,el)):lM (q+1) kZ=(match lM q (kZ.drop (df eP).length)with|none=>none|some (l,r')=>some (eP :: l,r')):=by
 conv=>lhs;unfold lM
 rw[hq];dsimp only;rw[if_neg (by simp)];cases lM q (kZ.drop (df eP).length)with
 | none=>rfl
 | some p=>rfl
theorem jE.put {W w:World}{B lb rb:Nat}{x x2:Lt}{left:List Int}(h:jE W B lb rb x left w)(i:Nat)(v:Value)(he:(ai x).setIfInBounds i v=ai x2):jE W B lb rb x2 left (w.setCell ⟨lb,i,none⟩ v) :=
 ⟨h.below.setCell (p:=⟨lb,i,none⟩) h.lo v,js h.blk v he,h.rest.only (Only.set lb w i v) h.ne h.lo,h.lo,h.ro,h.ne⟩
def dI (w:World) (base:Nat) (x:Lt):Prop:=gU w base (.slice x.eo x.es.length x.ey) x.es/\gj w base x.vo x.vs.length x.ce x.vs/\w.ownsRow base 5 1 (.slice x.io x.im.length x.fi) x.im.length (x.im.map bv)
def sp (e:En) (x:Lt):Prop:=∀g,(jn e).ownBlock=some g->(Value.slice x.vo x.vs.length x.ce).ownBlock≠some g
def M9 (r:Option cQ) (w:World) (e:Ending) (w':World):Prop :=
 ∃x:Lt,e=.returned (.tuple #[fA x,.bool r.isSome])/\(∀l,r=some l->x.plain=l/\dI w' w.heap.size x/\∀e∈x.es,gV e/\sp e x)/\Below w.heap.size w w'
theorem fD (x:Lt):(prog.info? 32).map (·.size)=some (ai x).size:=info_lt
theorem eN (x:Lt):(prog.info? 32).map (·.size)=some (ai x).toList.length:=info_lt
theorem jE.range {W w:World}{B lb rb:Nat}{x:Lt}{left:List Int}(h:jE W B lb rb x left w):w.rangeAt lb 0 (ai x).toList:=by
 intro j v hv;rw[Nat.zero_add,ab h.blk,<-Array.getElem?_toList];exact hv
theorem xH {f:Func}{W w':World}{lb rb:Nat}{x:Lt}{left:List Int}{tmps:Array Value}{bq:Bool}{r:Option cQ}(hf:f.results=#[.cell 2 32,.tmp 3])(h:jE W W.heap.size lb rb x left w')(h2:tmps.getD 2 undef=.pointer (some ⟨lb,0,none⟩))(h3:tmps.getD 3 undef=.bool bq)(hb:r.isSome=bq)(ij:∀l,r=some l->x.plain=l/\dI w' W.heap.size x/\∀e∈x.es,gV e/\sp e x) :
  bodyPost prog f (M9 r W) .ret ⟨tmps,[]⟩ w' :=
 bodyPost_ret (D3 hf tmps w' lb _ (ai x) _ _ _ h2 h3 h.blk cL rfl (fD x)) rfl ⟨x,by rw[hb];rfl,ij,h.below⟩
theorem xI {P:Program}{S:World->Prop}{op:Oper}{a:Act}(ty:TypeId)(x:Operand)(ho:op.op=.load ty x)(b o:Nat)(hx:a.eval x=.pointer (some ⟨b,o,none⟩))(cs:List Value)(d:TypeDesc)(hS:∀w,S w->w.rangeAt b o cs)(hu:P.underlying ty=some d)(hd:d.isRow=true)(hi:(P.info? ty).map (·.size)=some cs.length) :
  ∀w,S w->(execOp a.eval op).run P w=.ok (.value (.agg cs.toArray)) w:=λ w hw'=>by
 unfold execOp;simp only[ho,hx,Instr.loadAt,Instr.sureAddr,Sem.run_bind,Sem.run_pure,Result.andThen_ok,run_loadVar_mid w b o ty cs d (hS w hw') hu hd hi]
theorem Ym {r:Option cQ}{inn:Int}{m:Int}{Q l:cQ}(h:r=if true=false∨inn≠m then none else some Q)(hl:r=some l):Q=l:=by
 rw[h]at hl;split at hl
 · cases hl
 exact vj hl
theorem Yn {r:Option cQ}{inn:Int}{m:Int}{Q:cQ}(h:r=if true=false∨inn≠m then none else some Q):r.isSome=decide (inn=m):=by
 rw[h];by_cases hc:inn=m
 · rw[if_neg (by simp[hc])];simp[hc]
 rw[if_pos (Or.inr hc)];simp[hc]
theorem Yo {r:Option cQ}{inn:Int}{m:Int}{Q:cQ}(h:r=if true=false∨inn≠m then none else some Q):r.isSome=(inn==m):=by
 rw[Yn h];by_cases hc:inn=m<;>simp[hc]
theorem Yp {r l:List Int}{n:Int}(h:gk r=(n,true,l)):n<=(l.length:Int):=by
 unfold gk at h;split at h
 · simp at h
 simp only[Prod.mk.injEq,decide_eq_true_eq]at h;obtain⟨h1,h2,h3⟩:=h;rw[<-h1,<-h3];exact h2
theorem Yq (ao:Option Addr)(n cap:Nat)(b:List Int)(w:World)(r:Option cQ)(hr:qu b=r)(hn:b.length=n)(hx:BytesIn w w.heap.size ao b)(hw:BytesWf b)(kv:ao=none->cap=0)(hcap:n<=cap)(hl:n<=1048576) :
  Calls prog 37 #[.slice ao n cap] w (M9 r w):=by
 have h0:jE w w.heap.size w.heap.size (w.heap.size+1) bM b ((w.alloc (.cells (ai bM) 32)).alloc (.cells #[.slice ao n cap] 134)):=by
  have ba:=(aj w.heap.size w).alloc (aa _) (.cells (ai bM) 32);have dB:(w.alloc (.cells (ai bM) 32)).heap.size=w.heap.size+1:=by simp
  have am:=(aj (w.alloc (.cells (ai bM) 32)).heap.size (w.alloc (.cells (ai bM) 32))).alloc (aa _) (.cells #[.slice ao n cap] 134);have hk:=heap_alloc_new (w.alloc (.cells (ai bM) 32)) (.cells #[.slice ao n cap] 134);rw[dB]at hk;refine⟨ba.trans (am.mono (by rw[dB];omega)),?_,⟨ao,cap,by rw[hn];exact hk,?_,by omega,kv,by omega⟩,aa _,by omega,by omega⟩
  ·
   rw[am.block _ (by rw[dB];omega)];exact heap_alloc_new w _
  exact(hx.below (ba.trans (am.mono (by rw[dB];omega))) (aa _))
 have H0:=Hd h0;have HR:=Hd hr;have HN:=Hd hn;have HX:=Hd hx;have HW:=Hd hw;clear h0 hr hn hx hw;go_enter func37,ntmps37
 go_wp2_with fail
 rw[<-mK];have h0:=H0.out;clear H0;by_cases Ed:n<44
 ·
  have j9:=Hd (show r=none by rw[<-HR.out];unfold qu;rw[if_pos (by rw[HN.out];exact Ed)]);refine(M2 w.heap.size (w.heap.size+1) 44 b _ h0.rest (by rw[HN.out];exact Ed) (by omega)).mono ?_;generalize (w.alloc (.cells (ai bM) 32)).alloc (.cells #[.slice ao n cap] 134)=w1 at h0 ⊢;rintro e w2 ⟨rfl,rfl⟩;have H0:=Hd h0;clear h0;have aY:=H0.out.range;have bU:=H0.out.blk;go_wp2_with (first|(refine wpList_load_mid rfl 32 (.tmp 2) rfl w.heap.size 0 rfl (ai bM).toList _ aY cL rfl (eN bM) ?_)|(refine wpList_store_row rfl 32 (.tmp 2) (.tmp 21) rfl w.heap.size (ai bM) rfl (by first|rfl|simp) 32 _ bU (fD bM) rfl (gB bM) ?_;rw[pM bU]))
  exact xH rfl H0.out rfl rfl (by rw[j9.out];rfl) (λ l hl=>by rw[j9.out]at hl;cases hl)
 have Ed:44<=n:=by omega
 refine(GH w.heap.size (w.heap.size+1) 44 b _ h0.rest (by rw[HN.out];exact Ed) (by rw[HN.out];omega)).mono ?_;generalize (w.alloc (.cells (ai bM) 32)).alloc (.cells #[.slice ao n cap] 134)=w1 at h0 ⊢;rintro e w2 ⟨a,c,rfl,ht,dW,bN,px,ho⟩
 have h2:jE w w.heap.size w.heap.size (w.heap.size+1) bM (b.drop 44) w2 :=
  ⟨h0.below.trans (ho.toBelow (by have:=(Array.getElem?_eq_some_iff.1 h0.blk).1;omega) (by omega)),(ho.block w.heap.size (Array.getElem?_eq_some_iff.1 h0.blk).1 (by omega)).trans h0.blk,px,aa _,by omega,by omega⟩
 have bJ:(b.take 44).length=44:=by rw[List.length_take,HN.out];omega
 have hq:∃fb off,a=some ⟨fb,off,none⟩/\fb<w.heap.size/\∀i,i<44->w2.cell? ⟨fb,off+i,none⟩=some (.int .u8 (b.getD i 0)):=by
  rcases ht with h|⟨fb,off,e1,e2,e3⟩
  · rw[h]at bJ;cases bJ
  refine⟨fb,off,e1,e2,λ i hi=>?_⟩;rw[e3 i (by omega)];simp[List.getD,List.getElem?_take,hi]
 obtain⟨fb,off,rfl,xJ,DG⟩:=hq;have tC:=Hd h2
 have HC:=Hd (show ∀w',Below w.heap.size w2 w'->w'.cell? ⟨fb,off,none⟩=some (.int .u8 (b.getD 0 0))/\w'.cell? ⟨fb,off+1,none⟩=some (.int .u8 (b.getD 1 0))/\w'.cell? ⟨fb,off+2,none⟩=some (.int .u8 (b.getD 2 0))/\w'.cell? ⟨fb,off+27,none⟩=some (.int .u8 (b.getD 27 0))from λ w' h =>
  ⟨(h.cell (p:=⟨fb,_,none⟩) xJ).trans (DG 0 (by omega)),(h.cell (p:=⟨fb,_,none⟩) xJ).trans (DG 1 (by omega)),(h.cell (p:=⟨fb,_,none⟩) xJ).trans (DG 2 (by omega)),(h.cell (p:=⟨fb,_,none⟩) xJ).trans (DG 27 (by omega))⟩)
 have HT:=Hd ht;clear h0 px ho h2 bJ DG ht;obtain⟨kd,hkd⟩:∃q,b.getD 0 0=q:=⟨_,rfl⟩;obtain⟨fr,hfr⟩:∃q,b.getD 1 0=q:=⟨_,rfl⟩;obtain⟨tt,hto⟩:∃q,b.getD 2 0=q:=⟨_,rfl⟩;obtain⟨ob,uB⟩:∃q,b.getD 27 0=q:=⟨_,rfl⟩;rw[hkd,hfr,hto,uB]at HC;have HV:=Hd (And.intro hkd (And.intro hfr (And.intro hto uB)));have aeI:0<=fr/\fr<256:=hfr▸uA HW.out 1;have aeJ:0<=tt/\tt<256:=hto▸uA HW.out 2;have aeK:0<=kd/\kd<256:=hkd▸uA HW.out 0;have e1:IntKind.i64.wrap fr=fr:=jU _ (by omega);have e2:IntKind.i64.wrap tt=tt:=jU _ (by omega);clear hkd hfr hto uB;go_wp2_with fail
 refine nX (λ w'=>Below w.heap.size w2 w') (by kernel_rfl) (Below.drew (aj _ _)) ?_;intro cu
 (first|(refine tkn 0 rfl ?_)|(refine aT (v:=?_) 0 rfl ?_ ?_;rotate_left;focus(intro wS ah;obtain⟨d0,d1,d2,d3⟩:=HC.out wS ah;go_simp;first|done|with_reducible rfl)))
 (try simp only[Act.put,ssa,aq,ar])
 (first|(refine tkn 1 rfl ?_)|(refine aT (v:=?_) 1 rfl ?_ ?_;rotate_left;focus(intro wS ah;obtain⟨d0,d1,d2,d3⟩:=HC.out wS ah;go_simp;first|done|with_reducible rfl)))
 (try simp only[Act.put,ssa,aq,ar])
 (first|(refine tkn 2 rfl ?_)|(refine aT (v:=?_) 2 rfl ?_ ?_;rotate_left;focus(intro wS ah;obtain⟨d0,d1,d2,d3⟩:=HC.out wS ah;go_simp;first|done|with_reducible rfl)))
 (try simp only[Act.put,ssa,aq,ar])
 (first|(refine tkn 3 rfl ?_)|(refine aT (v:=?_) 3 rfl ?_ ?_;rotate_left;focus(intro wS ah;obtain⟨d0,d1,d2,d3⟩:=HC.out wS ah;go_simp;first|done|with_reducible rfl)))
 (try simp only[Act.put,ssa,aq,ar])
 (first|(refine tkn 4 rfl ?_)|(refine aT (v:=?_) 4 rfl ?_ ?_;rotate_left;focus(intro wS ah;obtain⟨d0,d1,d2,d3⟩:=HC.out wS ah;go_simp;first|done|with_reducible rfl)))
 (try simp only[Act.put,ssa,aq,ar])
 (first|(refine tkn 5 rfl ?_)|(refine aT (v:=?_) 5 rfl ?_ ?_;rotate_left;focus(intro wS ah;obtain⟨d0,d1,d2,d3⟩:=HC.out wS ah;go_simp;first|done|with_reducible rfl)))
 (try simp only[Act.put,ssa,aq,ar])
 (first|(refine tkn 6 rfl ?_)|(refine aT (v:=?_) 6 rfl ?_ ?_;rotate_left;focus(intro wS ah;obtain⟨d0,d1,d2,d3⟩:=HC.out wS ah;go_simp;first|done|with_reducible rfl)))
 (try simp only[Act.put,ssa,aq,ar])
 (first|(refine tkn 7 rfl ?_)|(refine aT (v:=?_) 7 rfl ?_ ?_;rotate_left;focus(intro wS ah;obtain⟨d0,d1,d2,d3⟩:=HC.out wS ah;go_simp;first|done|with_reducible rfl)))
 (try simp only[Act.put,ssa,aq,ar])
 (first|(refine tkn 8 rfl ?_)|(refine aT (v:=?_) 8 rfl ?_ ?_;rotate_left;focus(intro wS ah;obtain⟨d0,d1,d2,d3⟩:=HC.out wS ah;go_simp;first|done|with_reducible rfl)))
 (try simp only[Act.put,ssa,aq,ar])
 (first|(refine tkn 9 rfl ?_)|(refine aT (v:=?_) 9 rfl ?_ ?_;rotate_left;focus(intro wS ah;obtain⟨d0,d1,d2,d3⟩:=HC.out wS ah;go_simp;first|done|with_reducible rfl)))
 (try simp only[Act.put,ssa,aq,ar])
 (first|(refine tkn 10 rfl ?_)|(refine aT (v:=?_) 10 rfl ?_ ?_;rotate_left;focus(intro wS ah;obtain⟨d0,d1,d2,d3⟩:=HC.out wS ah;go_simp;first|done|with_reducible rfl)))
 (try simp only[Act.put,ssa,aq,ar])
 (first|(refine tkn 11 rfl ?_)|(refine aT (v:=?_) 11 rfl ?_ ?_;rotate_left;focus(intro wS ah;obtain⟨d0,d1,d2,d3⟩:=HC.out wS ah;go_simp;first|done|with_reducible rfl)))
 (try simp only[Act.put,ssa,aq,ar])
 (first|(refine tkn 12 rfl ?_)|(refine aT (v:=?_) 12 rfl ?_ ?_;rotate_left;focus(intro wS ah;obtain⟨d0,d1,d2,d3⟩:=HC.out wS ah;go_simp;first|done|with_reducible rfl)))
 (try simp only[Act.put,ssa,aq,ar])
 (first|(refine tkn 13 rfl ?_)|(refine aT (v:=?_) 13 rfl ?_ ?_;rotate_left;focus(intro wS ah;obtain⟨d0,d1,d2,d3⟩:=HC.out wS ah;go_simp;first|done|with_reducible rfl)))
 (try simp only[Act.put,ssa,aq,ar])
 (first|(refine tkn 14 rfl ?_)|(refine aT (v:=?_) 14 rfl ?_ ?_;rotate_left;focus(intro wS ah;obtain⟨d0,d1,d2,d3⟩:=HC.out wS ah;go_simp;first|done|with_reducible rfl)))
 (try simp only[Act.put,ssa,aq,ar])
 (first|(refine tkn 15 rfl ?_)|(refine aT (v:=?_) 15 rfl ?_ ?_;rotate_left;focus(intro wS ah;obtain⟨d0,d1,d2,d3⟩:=HC.out wS ah;go_simp;first|done|with_reducible rfl)))
 (try simp only[Act.put,ssa,aq,ar])
 have aP:=tC.out.grow (aj w2.heap.size w2).drew;have xC:Below w.heap.size w2 w2.drew:=cu;clear tC cu e1 e2;generalize w2.drew=w3 at aP xC ⊢;have aN:=Hd aP;clear aP;refine dL 16 rfl (by kernel_rfl) (by rfl) (λ K hK=>?_);skip
 (have hk:=aN.out.blk;have c0:w3.cell? ⟨w.heap.size,0,none⟩=some (.int .u8 0):=ab hk 0;have f0:w3.frozen? ⟨w.heap.size,0,none⟩=false:=aO hk 0;go_simp;clear c0 f0 hk;have h4:=aN.out.put (x2:=⟨kd,0,0,0,0,0,false,0,0,none,[],0,none,[],0,none,[],0⟩) 0 (.int .u8 kd) rfl;have Na:=xC.setCell (p:=⟨w.heap.size,0,none⟩) (aa _) (.int .u8 kd);clear aN;generalize w3.setCell ⟨w.heap.size,0,none⟩ (.int .u8 kd)=w4 at h4 Na ⊢;have aN:=Hd h4;clear h4)
 refine hK.out _ _ (by assumption) ?_;clear hK K
 (try simp only[Act.put,ssa,aq,ar])
 (first|(refine tkn 17 rfl ?_)|(refine aT (v:=?_) 17 rfl ?_ ?_;rotate_left;focus(intro wS ah;obtain⟨d0,d1,d2,d3⟩:=HC.out wS ah;go_simp;first|done|with_reducible rfl)))
 (try simp only[Act.put,ssa,aq,ar])
 refine dL 18 rfl (by kernel_rfl) (by rfl) (λ K hK=>?_);skip
 (have hk:=aN.out.blk;have c0:w4.cell? ⟨w.heap.size,1,none⟩=some (.int .i64 0):=ab hk 1;have f0:w4.frozen? ⟨w.heap.size,1,none⟩=false:=aO hk 1;go_simp;clear c0 f0 hk;have h4:=aN.out.put (x2:=⟨kd,fr,0,0,0,0,false,0,0,none,[],0,none,[],0,none,[],0⟩) 1 (.int .i64 fr) rfl;have Nb:=Na.setCell (p:=⟨w.heap.size,1,none⟩) (aa _) (.int .i64 fr);clear aN;generalize w4.setCell ⟨w.heap.size,1,none⟩ (.int .i64 fr)=w5 at h4 Nb ⊢;have aN:=Hd h4;clear h4)
 refine hK.out _ _ (by assumption) ?_;clear hK K
 (try simp only[Act.put,ssa,aq,ar])
 (first|(refine tkn 19 rfl ?_)|(refine aT (v:=?_) 19 rfl ?_ ?_;rotate_left;focus(intro wS ah;obtain⟨d0,d1,d2,d3⟩:=HC.out wS ah;go_simp;first|done|with_reducible rfl)))
 (try simp only[Act.put,ssa,aq,ar])
 refine dL 20 rfl (by kernel_rfl) (by rfl) (λ K hK=>?_);skip
 (have hk:=aN.out.blk;have c0:w5.cell? ⟨w.heap.size,2,none⟩=some (.int .i64 0):=ab hk 2;have f0:w5.frozen? ⟨w.heap.size,2,none⟩=false:=aO hk 2;go_simp;clear c0 f0 hk;have h4:=aN.out.put (x2:=⟨kd,fr,tt,0,0,0,false,0,0,none,[],0,none,[],0,none,[],0⟩) 2 (.int .i64 tt) rfl;have Nc:=Nb.setCell (p:=⟨w.heap.size,2,none⟩) (aa _) (.int .i64 tt);clear aN;generalize w5.setCell ⟨w.heap.size,2,none⟩ (.int .i64 tt)=w6 at h4 Nc ⊢;have aN:=Hd h4;clear h4)
 refine hK.out _ _ (by assumption) ?_;clear hK K
 (try simp only[Act.put,ssa,aq,ar])
 (first|(refine tkn 21 rfl ?_)|(refine aT (v:=?_) 21 rfl ?_ ?_;rotate_left;focus(intro wS ah;obtain⟨d0,d1,d2,d3⟩:=HC.out wS ah;go_simp;first|done|with_reducible rfl)))
 (try simp only[Act.put,ssa,aq,ar])
 refine dL 22 rfl (by kernel_rfl) (by rfl) (λ K hK=>?_);skip
 (have hk:=aN.out.blk;have c0:w6.cell? ⟨w.heap.size,6,none⟩=some (.bool false):=ab hk 6;have f0:w6.frozen? ⟨w.heap.size,6,none⟩=false:=aO hk 6;go_simp;clear c0 f0 hk;have h4:=aN.out.put (x2:=⟨kd,fr,tt,0,0,0,(ob==1),0,0,none,[],0,none,[],0,none,[],0⟩) 6 (.bool (ob==1)) rfl;have Ee:=Nc.setCell (p:=⟨w.heap.size,6,none⟩) (aa _) (.bool (ob==1));clear aN;generalize w6.setCell ⟨w.heap.size,6,none⟩ (.bool (ob==1))=w7 at h4 Ee ⊢;have aN:=Hd h4;clear h4)
 refine hK.out _ _ (by assumption) ?_;clear hK K
 (try simp only[Act.put,ssa,aq,ar])
 refine wpAnyH_done (by kernel_rfl) ?_ _;obtain⟨OB,GK⟩:=kp (ob==1);rw[GK]at aN;have zK:=Hd GK;clear GK;have fO:∀w',(Instr.sliceAt 25 (.slice (some ⟨fb,off,none⟩) 44 c) (some (.int .i64 3)) (some (.int .i64 27)) none).run prog w'=.ok (.slice (gf (some ⟨fb,off,none⟩) c 3 1) 24 (c-3)) w':=λ w'=>Li vp sizeByte _ 44 c 3 27 (by omega) (by omega) .i64 .i64 3 27 rfl rfl w'
 obtain⟨sa,kS⟩:∃sa,gf (some ⟨fb,off,none⟩) c 3 1=sa:=⟨_,rfl⟩;rw[kS]at fO;have Nd:=Hd kS;clear kS;go_wp2_with fail
 have zc:=(HT.out.below Ee (aa _)).sub 3 24 (show (b.take 44).length<=c by rw[List.length_take,HN.out];omega);rw[Nd.out]at zc;obtain⟨L1,hL1⟩:∃L1,(b.drop 3).take 24=L1:=⟨_,rfl⟩;have Nf:((b.take 44).drop 3).take 24=L1:=by rw[List.drop_take,List.take_take,<-hL1];rfl
 rw[Nf]at zc;have Ng:L1.length=24:=by rw[<-hL1,List.length_take,List.length_drop,HN.out];omega
 have GL:BytesWf L1:=hL1▸(HW.out.drop 3).take 24;have xK:=Hd hL1;have Ef:w.heap.size+2<=w7.heap.size:=by have h1:=aN.out.rest.lt;omega
 have BU:sa=none->c-3=0:=λ h=>by rw[<-Nd.out]at h;exact absurd (t8 h) (by simp)
 refine(FF sa 24 (c-3) L1 w7 w.heap.size Ng zc (by omega) BU (by omega)).mono ?_;rintro e w8 ⟨rd,rfl,fS,GM,fj⟩;have vF:=fj.size;have Yr:=GM.lt;have Nh:=aN.out.grow fj;have Ni:=Ee.trans (fj.mono (by omega));obtain⟨⟨tm,b1,l1⟩,pX⟩:∃q,bc false L1=q:=⟨_,rfl⟩;obtain⟨⟨ix,b2,l2⟩,ke⟩:∃q,bc b1 l1=q:=⟨_,rfl⟩;obtain⟨⟨ws,b3,l3⟩,fZ⟩:∃q,bc b2 l2=q:=⟨_,rfl⟩;have mc:=eL false L1 GL;rw[pX]at mc;have me:=eL b1 l1 mc.1;rw[ke]at me;have GN:=Hd pX;have xL:=Hd ke;have xM:=Hd fZ;have Nj:=Hd GL;have Nk:=Hd mc.1;have Nl:=Hd me.1;have Nm:=Hd (show L1.length<=24 by omega);have Nn:=Hd (show l1.length<=24 by have h:=mc.2;dsimp only at h;omega);have Np:=Hd (show l2.length<=24 by have h:=mc.2;have h2:=me.2;dsimp only at h h2;omega);clear hL1 Nf Ng GL zc BU pX ke fZ mc me aN fj fO;have aS:=(aj w8.heap.size w8).alloc (aa _) (.cells #[.pointer (some ⟨rd,0,none⟩)] 140);have pY:=heap_alloc_new w8 (.cells #[.pointer (some ⟨rd,0,none⟩)] 140);have iO:=Hd (And.intro aS pY);clear aS pY;go_wp2_with fail
 obtain⟨aS,pY⟩:=iO.out;have zL:(w8.alloc (.cells #[.pointer (some ⟨rd,0,none⟩)] 140)).heap.size=w8.heap.size+1:=by simp
 obtain⟨tb,htb⟩:∃tb,w8.heap.size=tb:=⟨_,rfl⟩;have aeL:rd<tb:=by omega
 have aeM:w.heap.size+2<=tb:=by omega
 have oe:=Nh.grow aS;have GO:=GM.below aS;have GP:=Ni.trans (aS.mono (show w.heap.size<=w8.heap.size by omega));rw[htb]at pY zL ⊢;have Nq:tb<(w8.alloc (.cells #[.pointer (some ⟨rd,0,none⟩)] 140)).heap.size:=by omega
 clear iO Nh GM aS zL htb;generalize w8.alloc (.cells #[.pointer (some ⟨rd,0,none⟩)] 140)=w9 at oe GO GP pY Nq ⊢;have hdt:w9.cell? ⟨tb,0,none⟩=some (.pointer (some ⟨rd,0,none⟩)):=ab pY 0;have BW:tb≠w.heap.size:=by omega
 have Nr:RS w2 w.heap.size tb rd w9:=⟨GP,pY⟩;clear GP hdt pY Nq Ni Ee;have hn1:rd≠w.heap.size:=by omega
 refine nX (RS w2 w.heap.size tb rd) (by kernel_rfl) (M8 Nr) ?_;intro cu
 (first|(refine tkn 0 rfl ?_)|(refine aT (v:=?_) 0 rfl ?_ ?_;rotate_left;focus(intro wS ah;have dt:=ah.cell;go_simp;first|done|with_reducible rfl)))
 (try simp only[Act.put,ssa,aq,ar])
 (first|(refine tkn 2 rfl ?_)|(refine aT (v:=?_) 2 rfl ?_ ?_;rotate_left;focus(intro wS ah;have dt:=ah.cell;go_simp;first|done|with_reducible rfl)))
 (try simp only[Act.put,ssa,aq,ar])
 (first|(refine tkn 4 rfl ?_)|(refine aT (v:=?_) 4 rfl ?_ ?_;rotate_left;focus(intro wS ah;have dt:=ah.cell;go_simp;first|done|with_reducible rfl)))
 (try simp only[Act.put,ssa,aq,ar])
 have xN:=oe.grow (aj w9.heap.size w9).drew;have xO:=GO.below (aj w9.heap.size w9).drew;have Ns:RS w2 w.heap.size tb rd w9.drew:=cu;clear oe GO Nr cu;generalize w9.drew=fy at xN xO Ns ⊢;have aN:=Hd xN;have kI:=Hd xO;clear xN xO;refine dL 1 rfl (by kernel_rfl) (by rfl) (λ K hK=>?_);go_simp
 (refine(BQ rd rd false L1 tm b1 l1 fy GN.out kI.out Nj.out (by have h:=Nm.out;omega)).mono ?_;rintro e nh ⟨rfl,qF,jY⟩;have Ys:=BS Ns jY (by omega) (by omega);have oe:=aN.out.only jY (by omega) (by omega) (by omega);clear aN kI;have aN:=Hd oe;have kI:=Hd qF;clear qF jY oe)
 refine hK.out _ _ (by assumption) ?_;clear hK K
 (try simp only[Act.put,ssa,aq,ar])
 (first|(refine tkn 6 rfl ?_)|(refine aT (v:=?_) 6 rfl ?_ ?_;rotate_left;focus(intro wS ah;have dt:=ah.cell;go_simp;first|done|with_reducible rfl)))
 (try simp only[Act.put,ssa,aq,ar])
 refine dL 3 rfl (by kernel_rfl) (by rfl) (λ K hK=>?_);go_simp
 (refine(BQ rd rd b1 l1 ix b2 l2 nh xL.out kI.out Nk.out (by have h:=Nn.out;omega)).mono ?_;rintro e eB ⟨rfl,qF,jY⟩;have Yt:=BS Ys jY (by omega) (by omega);have oe:=aN.out.only jY (by omega) (by omega) (by omega);clear aN kI;have aN:=Hd oe;have kI:=Hd qF;clear qF jY oe)
 refine hK.out _ _ (by assumption) ?_;clear hK K
 (try simp only[Act.put,ssa,aq,ar])
 refine dL 5 rfl (by kernel_rfl) (by rfl) (λ K hK=>?_);go_simp
 (refine(BQ rd rd b2 l2 ws b3 l3 eB xM.out kI.out Nl.out (by have h:=Np.out;omega)).mono ?_;rintro e qL ⟨rfl,qF,jY⟩;have Yu:=BS Yt jY (by omega) (by omega);have oe:=aN.out.only jY (by omega) (by omega) (by omega);clear aN kI;have aN:=Hd oe;have kI:=Hd qF;clear qF jY oe)
 refine hK.out _ _ (by assumption) ?_;clear hK K
 (try simp only[Act.put,ssa,aq,ar])
 refine dL 7 rfl (by kernel_rfl) (by rfl) (λ K hK=>?_);skip
 (have hk:=aN.out.blk;have c0:qL.cell? ⟨w.heap.size,3,none⟩=some (.int .i64 0):=ab hk 3;have f0:qL.frozen? ⟨w.heap.size,3,none⟩=false:=aO hk 3;go_simp;clear c0 f0 hk;have h4:=aN.out.put (x2:=⟨kd,fr,tt,tm,0,0,OB.1,0,0,none,[],0,none,[],0,none,[],0⟩) 3 (.int .i64 tm) rfl;have Nt:=BT Yu BW 3 (.int .i64 tm);clear aN;generalize qL.setCell ⟨w.heap.size,3,none⟩ (.int .i64 tm)=la at h4 Nt ⊢;have aN:=Hd h4;clear h4)
 refine hK.out _ _ (by assumption) ?_;clear hK K
 (try simp only[Act.put,ssa,aq,ar])
 (first|(refine tkn 8 rfl ?_)|(refine aT (v:=?_) 8 rfl ?_ ?_;rotate_left;focus(intro wS ah;have dt:=ah.cell;go_simp;first|done|with_reducible rfl)))
 (try simp only[Act.put,ssa,aq,ar])
 refine dL 9 rfl (by kernel_rfl) (by rfl) (λ K hK=>?_);skip
 (have hk:=aN.out.blk;have c0:la.cell? ⟨w.heap.size,4,none⟩=some (.int .i64 0):=ab hk 4;have f0:la.frozen? ⟨w.heap.size,4,none⟩=false:=aO hk 4;go_simp;clear c0 f0 hk;have h4:=aN.out.put (x2:=⟨kd,fr,tt,tm,ix,0,OB.1,0,0,none,[],0,none,[],0,none,[],0⟩) 4 (.int .i64 ix) rfl;have Nu:=BT Nt BW 4 (.int .i64 ix);clear aN;generalize la.setCell ⟨w.heap.size,4,none⟩ (.int .i64 ix)=nl at h4 Nu ⊢;have aN:=Hd h4;clear h4)
 refine hK.out _ _ (by assumption) ?_;clear hK K
 (try simp only[Act.put,ssa,aq,ar])
 (first|(refine tkn 10 rfl ?_)|(refine aT (v:=?_) 10 rfl ?_ ?_;rotate_left;focus(intro wS ah;have dt:=ah.cell;go_simp;first|done|with_reducible rfl)))
 (try simp only[Act.put,ssa,aq,ar])
 refine dL 11 rfl (by kernel_rfl) (by rfl) (λ K hK=>?_);skip
 (have hk:=aN.out.blk;have c0:nl.cell? ⟨w.heap.size,5,none⟩=some (.int .i64 0):=ab hk 5;have f0:nl.frozen? ⟨w.heap.size,5,none⟩=false:=aO hk 5;go_simp;clear c0 f0 hk;have h4:=aN.out.put (x2:=⟨kd,fr,tt,tm,ix,ws,OB.1,0,0,none,[],0,none,[],0,none,[],0⟩) 5 (.int .i64 ws) rfl;have BY:=BT Nu BW 5 (.int .i64 ws);clear aN;generalize nl.setCell ⟨w.heap.size,5,none⟩ (.int .i64 ws)=w16 at h4 BY ⊢;have aN:=Hd h4;clear h4)
 refine hK.out _ _ (by assumption) ?_;clear hK K
 (try simp only[Act.put,ssa,aq,ar])
 refine wpAnyH_done (by kernel_rfl) ?_ _;have r6:=(HT.out.below BY.below (aa _)).drop 28 (show (b.take 44).length<=c by rw[List.length_take,HN.out];omega);obtain⟨sb,iv⟩:∃sb,gf (some ⟨fb,off,none⟩) c 28 1=sb:=⟨_,rfl⟩;rw[iv]at r6
 have fO:∀w',(Instr.sliceAt 25 (.slice (some ⟨fb,off,none⟩) 44 c) (some (.int .i64 28)) none none).run prog w'=.ok (.slice sb 16 (c-28)) w':=λ w'=>by
  rw[<-iv];exact zm vp sizeByte _ 44 c 28 (by omega) .i64 28 rfl w'
 obtain⟨L2,lF⟩:∃L2,(b.take 44).drop 28=L2:=⟨_,rfl⟩;rw[lF]at r6;have Nv:L2.length=16:=by rw[<-lF,List.length_drop,List.length_take,HN.out];omega
 have GQ:BytesWf L2:=lF▸(HW.out.take 44).drop 28;have cY:=Hd lF;have BZ:sb=none->c-28=0:=λ h=>by rw[<-iv]at h;exact absurd (t8 h) (by simp)
 have Eg:=Hd r6;have Nw:=Hd BZ;have Eh:=Hd Nv;clear r6 BZ iv lF Nv kI Nj Nk Nm Nn Nl Np;go_wp2_with fail
 have Yv:=BY.lt;refine(Yg sb 16 (c-28) L2 w16 w.heap.size Eh.out Eg.out (by omega) Nw.out (by omega)).mono ?_;rintro e og ⟨qz,ra2,rc2,rfl,aeP,GR,Nx,oh⟩;have xP:=aN.out.grow oh;have aeQ:=GR.lt;have Ei:=BY.grow oh (by omega);have Yw:=Ei.cell;have Yx:og.frozen? ⟨tb,0,none⟩=false:=aO Ei.blk 0;obtain⟨⟨cm,b4,l4⟩,hq4⟩:∃q,bc false L2=q:=⟨_,rfl⟩;obtain⟨⟨rn,b5,l5⟩,Ny⟩:∃q,bc b4 l4=q:=⟨_,rfl⟩;have hy4:=eL false L2 GQ;rw[hq4]at hy4;have GS:=Hd hq4;have vX:=Hd Ny;have Nz:=Hd GQ;have NA:=Hd hy4.1;have NB:=Hd (show L2.length<=16 by rw[Eh.out];exact aa _);have ND:=Hd (show l4.length<=16 by have h:=hy4.2;dsimp only at h;rw[Eh.out]at h;exact h);clear hq4 Ny hy4 GQ fO aN oh BY Eg Nw Eh;have NE:=Hd (jE.only xP (Only.set tb og 0 (.pointer (some ⟨qz,0,none⟩))) (by omega) (by omega) (by omega));have hRR:=Hd (Yh GR Nx (i:=0) (show tb<w16.heap.size from Yv) (by omega) (.pointer (some ⟨qz,0,none⟩)));have hSS:=Hd (Ei.put qz (by omega));clear xP GR Nx Ei;have dW:qz≠w.heap.size:=by omega
 go_wp2_with fail
 clear Yw Yx;have GT:=hSS.out;have GU:=NE.out;have GV:=hRR.out;clear hSS NE hRR;generalize og.setCell ⟨tb,0,none⟩ (.pointer (some ⟨qz,0,none⟩))=q8 at GT GU GV ⊢;refine nX (RS w2 w.heap.size tb qz) (by kernel_rfl) (M8 GT) ?_;intro cu
 (first|(refine tkn 0 rfl ?_)|(refine aT (v:=?_) 0 rfl ?_ ?_;rotate_left;focus(intro wS ah;have dt:=ah.cell;go_simp;first|done|with_reducible rfl)))
 (try simp only[Act.put,ssa,aq,ar])
 (first|(refine tkn 2 rfl ?_)|(refine aT (v:=?_) 2 rfl ?_ ?_;rotate_left;focus(intro wS ah;have dt:=ah.cell;go_simp;first|done|with_reducible rfl)))
 (try simp only[Act.put,ssa,aq,ar])
 have xN:=GU.grow (aj q8.heap.size q8).drew;have xO:=GV.below (aj q8.heap.size q8).drew;have NF:RS w2 w.heap.size tb qz q8.drew:=cu;clear GU GV GT cu;generalize q8.drew=ol at xN xO NF ⊢;have aN:=Hd xN;have kI:=Hd xO;clear xN xO;refine dL 1 rfl (by kernel_rfl) (by rfl) (λ K hK=>?_);go_simp
 (refine(BQ qz qz false L2 cm b4 l4 ol GS.out kI.out Nz.out (by have h:=NB.out;omega)).mono ?_;rintro e vY ⟨rfl,qF,jY⟩;have Yy:=BS NF jY (by omega) (by omega);have oe:=aN.out.only jY (by omega) (by omega) (by omega);clear aN kI;have aN:=Hd oe;have kI:=Hd qF;clear qF jY oe)
 refine hK.out _ _ (by assumption) ?_;clear hK K
 (try simp only[Act.put,ssa,aq,ar])
 (first|(refine tkn 4 rfl ?_)|(refine aT (v:=?_) 4 rfl ?_ ?_;rotate_left;focus(intro wS ah;have dt:=ah.cell;go_simp;first|done|with_reducible rfl)))
 (try simp only[Act.put,ssa,aq,ar])
 refine dL 3 rfl (by kernel_rfl) (by rfl) (λ K hK=>?_);go_simp
 (refine(BQ qz qz b4 l4 rn b5 l5 vY vX.out kI.out NA.out (by have h:=ND.out;omega)).mono ?_;rintro e vZ ⟨rfl,qF,jY⟩;have Yz:=BS Yy jY (by omega) (by omega);have oe:=aN.out.only jY (by omega) (by omega) (by omega);clear aN kI;have aN:=Hd oe;have kI:=Hd qF;clear qF jY oe)
 refine hK.out _ _ (by assumption) ?_;clear hK K
 (try simp only[Act.put,ssa,aq,ar])
 refine dL 5 rfl (by kernel_rfl) (by rfl) (λ K hK=>?_);skip
 (have hk:=aN.out.blk;have c0:vZ.cell? ⟨w.heap.size,7,none⟩=some (.int .i64 0):=ab hk 7;have f0:vZ.frozen? ⟨w.heap.size,7,none⟩=false:=aO hk 7;go_simp;clear c0 f0 hk;have h4:=aN.out.put (x2:=⟨kd,fr,tt,tm,ix,ws,OB.1,cm,0,none,[],0,none,[],0,none,[],0⟩) 7 (.int .i64 cm) rfl;have NG:=BT Yz BW 7 (.int .i64 cm);clear aN;generalize vZ.setCell ⟨w.heap.size,7,none⟩ (.int .i64 cm)=wa at h4 NG ⊢;have aN:=Hd h4;clear h4)
 refine hK.out _ _ (by assumption) ?_;clear hK K
 (try simp only[Act.put,ssa,aq,ar])
 (first|(refine tkn 6 rfl ?_)|(refine aT (v:=?_) 6 rfl ?_ ?_;rotate_left;focus(intro wS ah;have dt:=ah.cell;go_simp;first|done|with_reducible rfl)))
 (try simp only[Act.put,ssa,aq,ar])
 refine dL 7 rfl (by kernel_rfl) (by rfl) (λ K hK=>?_);skip
 (have hk:=aN.out.blk;have c0:wa.cell? ⟨w.heap.size,8,none⟩=some (.int .i64 0):=ab hk 8;have f0:wa.frozen? ⟨w.heap.size,8,none⟩=false:=aO hk 8;go_simp;clear c0 f0 hk;have h4:=aN.out.put (x2:=⟨kd,fr,tt,tm,ix,ws,OB.1,cm,rn,none,[],0,none,[],0,none,[],0⟩) 8 (.int .i64 rn) rfl;have YA:=BT NG BW 8 (.int .i64 rn);clear aN;generalize wa.setCell ⟨w.heap.size,8,none⟩ (.int .i64 rn)=zM at h4 YA ⊢;have aN:=Hd h4;clear h4)
 refine hK.out _ _ (by assumption) ?_;clear hK K
 (try simp only[Act.put,ssa,aq,ar])
 refine wpAnyH_done (by kernel_rfl) ?_ _;clear kI Nz NA NB ND;obtain⟨⟨mn,mo,ml⟩,hm⟩:∃q,gk (b.drop 44)=q:=⟨_,rfl⟩;have HM:=Hd hm;go_wp2_with fail
 refine(GI w.heap.size (w.heap.size+1) (b.drop 44) (mn,mo,ml) zM hm aN.out.rest (HW.out.drop 44) (by rw[List.length_drop,HN.out];omega)).mono ?_;rintro e zN ⟨rfl,px,ho⟩;dsimp only at px ⊢
 have zO:jE w w.heap.size w.heap.size (w.heap.size+1) ⟨kd,fr,tt,tm,ix,ws,OB.1,cm,rn,none,[],0,none,[],0,none,[],0⟩ ml zN :=
  ⟨aN.out.below.trans (ho.toBelow (by have:=aN.out.rest.lt;omega) (by omega)),(ho.block w.heap.size (by have:=aN.out.rest.lt;omega) (by omega)).trans aN.out.blk,px,aa _,by omega,by omega⟩
 have mf:=Hd (show r=(if mo=false∨16<mn then none else
   match lM mn.toNat ml with
   | none=>none
   | some (es,r') =>
    if(gk r').2.1=false then none else
    if(gk ((gk r').2.2.drop (gk r').1.toNat)).2.1=false∨(gk ((gk r').2.2.drop (gk r').1.toNat)).1≠((gk ((gk r').2.2.drop (gk r').1.toNat)).2.2.length:Int)then none else
    some ⟨kd,fr,tt,tm,ix,ws,OB.1,cm,rn,es,(gk r').2.2.take (gk r').1.toNat,(gk ((gk r').2.2.drop (gk r').1.toNat)).2.2⟩) by
  obtain⟨v1,v2,v3,v4⟩:=HV.out;have uB:decide (ob=1)=OB.1:=zK.out;rw[<-HR.out];unfold qu;rw[if_neg (by rw[HN.out];omega),xK.out,cY.out,HM.out,GN.out];dsimp only;rw[xL.out];dsimp only;rw[xM.out,GS.out];dsimp only;rw[vX.out,v1,v2,v3,v4,uB];rfl)
 have hmw:=ul (HW.out.drop 44);rw[HM.out]at hmw;have GW:=Hd hmw;clear hm hmw GN xL xM GS vX xK cY HV px ho aN zK;cases mo with
 | false =>
  have j9:=Hd (show r=none by rw[mf.out,if_pos (Or.inl rfl)]);have H0:=Hd zO;clear zO;have aY:=H0.out.range;have bU:=H0.out.blk;go_wp2_with (first|(refine wpList_load_mid rfl 32 (.tmp 2) rfl w.heap.size 0 rfl (ai ⟨kd,fr,tt,tm,ix,ws,OB.1,cm,rn,none,[],0,none,[],0,none,[],0⟩).toList _ aY cL rfl (eN ⟨kd,fr,tt,tm,ix,ws,OB.1,cm,rn,none,[],0,none,[],0,none,[],0⟩) ?_)|(refine wpList_store_row rfl 32 (.tmp 2) (.tmp 74) rfl w.heap.size (ai ⟨kd,fr,tt,tm,ix,ws,OB.1,cm,rn,none,[],0,none,[],0,none,[],0⟩) rfl (by first|rfl|simp) 32 _ bU (fD ⟨kd,fr,tt,tm,ix,ws,OB.1,cm,rn,none,[],0,none,[],0,none,[],0⟩) rfl (gB ⟨kd,fr,tt,tm,ix,ws,OB.1,cm,rn,none,[],0,none,[],0,none,[],0⟩) ?_;rw[pM bU]))
  exact xH rfl H0.out rfl rfl (by rw[j9.out];rfl) (λ l hl=>by rw[j9.out]at hl;cases hl)
 | true =>
 by_cases GX:16<mn
 ·
  have j9:=Hd (show r=none by rw[mf.out,if_pos (Or.inr GX)]);have H0:=Hd zO;have j1:decide (16<mn)=true:=decide_eq_true GX;clear zO;have aY:=H0.out.range;have bU:=H0.out.blk;go_wp2_with (first|(refine wpList_load_mid rfl 32 (.tmp 2) rfl w.heap.size 0 rfl (ai ⟨kd,fr,tt,tm,ix,ws,OB.1,cm,rn,none,[],0,none,[],0,none,[],0⟩).toList _ aY cL rfl (eN ⟨kd,fr,tt,tm,ix,ws,OB.1,cm,rn,none,[],0,none,[],0,none,[],0⟩) ?_)|(refine wpList_store_row rfl 32 (.tmp 2) (.tmp 74) rfl w.heap.size (ai ⟨kd,fr,tt,tm,ix,ws,OB.1,cm,rn,none,[],0,none,[],0,none,[],0⟩) rfl (by first|rfl|simp) 32 _ bU (fD ⟨kd,fr,tt,tm,ix,ws,OB.1,cm,rn,none,[],0,none,[],0,none,[],0⟩) rfl (gB ⟨kd,fr,tt,tm,ix,ws,OB.1,cm,rn,none,[],0,none,[],0,none,[],0⟩) ?_;rw[pM bU]))
  exact xH rfl H0.out rfl rfl (by rw[j9.out];rfl) (λ l hl=>by rw[j9.out]at hl;cases hl)
 have aeR:0<=mn:=GW.out.2.1;obtain⟨mm,rfl⟩:∃mm:Nat,mn=mm:=⟨mn.toNat,by omega⟩;have dK:mm<=16:=by omega
 have j1:¬(16:Int)<(mm:Int):=by omega
 have j2:decide ((16:Int)<(mm:Int))=false:=decide_eq_false j1;have cr:=Hd (mf.out.trans (by rw[if_neg (by simp;omega)]));have GY:=Hd (show ml.length<=1048576 by have h:=GW.out.2.2.2;rw[List.length_drop,HN.out]at h;dsimp only at h;omega);clear mf GX;have aN:=Hd zO;clear zO;go_wp2_with fail
 clear j1 j2;go_loopw [76] (λ i wr=>∃(k:Nat) (es:List En) (ea:Option Addr) (ec:Nat) (kZ:List Int),k<=mm/\i=.int .i64 k/\es.length=k/\jE w w.heap.size w.heap.size (w.heap.size+1) ⟨kd,fr,tt,tm,ix,ws,OB.1,cm,rn,ea,es,ec,none,[],0,none,[],0⟩ kZ wr/\gU wr (w.heap.size+2) (.slice ea es.length ec) es/\(∀e∈es,gV e)/\BytesWf kZ/\kZ.length<=ml.length/\lM mm ml=(match lM (mm-k) kZ with|none=>none|some (l,r')=>some (es.map En.plain++l,r'))) (λ i _=>mm-(intOf i).toNat)
 exact⟨0,[],none,0,ml,by omega,rfl,rfl,aN.out,gU.nil _ _,(λ e he=>by cases he),GW.out.1,aa _,by rw[Nat.sub_zero];cases lM mm ml<;>rfl⟩
 clear aN;obtain⟨k,es,ea,ec,kZ,hk,rfl,hek,aP,az,uC,bG,eZ,hre⟩:=hrel;have NH:=Hd hek;have aN:=Hd aP;have ig:=Hd az;have rP:=Hd uC;have be:=Hd bG;have Ej:=Hd eZ;have Ek:=Hd hre;clear hek aP az uC bG eZ hre;by_cases ae:k<mm
 ·
  have i1:(k:Int)<mm:=by omega
  obtain⟨ra,NI,lD⟩:=aN.out.rest;obtain⟨ln,eS⟩:∃ln,kZ.length=ln:=⟨_,rfl⟩;have lC:=lD.blk;rw[eS]at lC;have c0:wr.cell? ⟨w.heap.size+1,0,none⟩=some (.slice ra ln NI):=ab lC 0;have nz:=aN.out.rest.lt;have Ca:=Hd lD;have fC:=Hd eS;clear lD lC eS;go_wp2_with fail
  have eZ:=Ej.out;have YB:=GY.out;refine(FF ra ln NI kZ wr w.heap.size fC.out Ca.out.off (by omega) Ca.out.nil (by have:=fC.out;omega)).mono ?_;rintro e xQ ⟨rd,rfl,fS,GZ,El⟩;have NJ:=aN.out.grow El;have NK:=ig.out.below El (aa _);have aeS:=El.size;have Yr:=GZ.lt;clear c0 El;have aS:=(aj xQ.heap.size xQ).alloc (aa _) (.cells #[.pointer (some ⟨rd,0,none⟩)] 140);have pY:=heap_alloc_new xQ (.cells #[.pointer (some ⟨rd,0,none⟩)] 140);have iO:=Hd (And.intro aS pY);have NL:=Hd NJ;clear aS pY NJ;go_wp2_with fail
  obtain⟨aS,pY⟩:=iO.out;have Em:(xQ.alloc (.cells #[.pointer (some ⟨rd,0,none⟩)] 140)).heap.size=xQ.heap.size+1:=by simp
  obtain⟨t2,ht2⟩:∃tb,xQ.heap.size=tb:=⟨_,rfl⟩;have aeT:rd<t2:=by omega
  have Ha:=NL.out.grow aS;have Hb:=NK.below aS (aa _);have Hc:=GZ.below aS;rw[ht2]at pY Em ⊢;clear iO NL GZ aS NK;generalize xQ.alloc (.cells #[.pointer (some ⟨rd,0,none⟩)] 140)=Eo at Ha Hc Hb pY Em ⊢;have aeU:t2+1<=Eo.heap.size:=pJ Em.symm;obtain⟨⟨eP,eb,el⟩,hq⟩:∃q,fq false kZ=q:=⟨_,rfl⟩;have HQ:=Hd hq;clear Em hq;refine(Xb rd rd false kZ (eP,eb,el) Eo HQ.out Hc be.out (by omega)).mono ?_;rintro e w32 ⟨f,hp,he,⟨qo,kw⟩,He,Cb⟩;subst he;dsimp only at hp He;have NM:=Ha.only Cb (by omega) (by omega) (by omega);have YC:=(Cb.block t2 (by omega) (by omega)).trans pY;have NN:=Hb.Yf Cb (show wr.heap.size<=rd from fS) ig.out;have aeV:=Cb.size;have Cc:=Hd (show ja w32 Eo.heap.size f from⟨qo,kw⟩);have rQ:=Hd hp;have BU:=iW qo;have BZ:=iW kw;have hcap1:=mp qo;have hcap2:=mp kw;have uD:=Hd (And.intro BU (And.intro BZ (And.intro hcap1 hcap2)));clear hp qo kw Ha pY Hb Hc Cb BU BZ hcap1 hcap2;obtain⟨dO,dP,ess,dQ,dR,dS,ef,jr,eg,enum,ei,evs,ej⟩:=f;obtain⟨nn,oz⟩:∃nn,jr.length=nn:=⟨_,rfl⟩;obtain⟨jt,xR⟩:∃mm,evs.length=mm:=⟨_,rfl⟩;simp only[tv];rw[oz,xR];have sl:=Hd oz;have bd:=Hd xR;clear oz xR;have d0:∀o,(w32.alloc o).cell? ⟨t2,0,none⟩=some (.pointer (some ⟨rd,0,none⟩)):=λ o=>(((aj w32.heap.size w32).alloc (aa _) o).cell (p:=⟨t2,0,none⟩) (show t2<w32.heap.size by omega)).trans (ab YC 0)
  have aS:=(aj w32.heap.size w32).alloc (aa _) (.cells #[.int .i64 dO,.int .u8 dP,.int .i64 ess,.int .i64 dQ,.int .u8 dR,.string dS,.slice ef nn eg,.int .i64 enum,.slice ei jt ej] 46);have kg:=heap_alloc_new w32 (.cells #[.int .i64 dO,.int .u8 dP,.int .i64 ess,.int .i64 dQ,.int .u8 dR,.string dS,.slice ef nn eg,.int .i64 enum,.slice ei jt ej] 46);have iO:=Hd (And.intro aS kg);have NO:=Hd NM;have NP:=Hd NN;have NQ:=Hd He;clear aS kg NM NN He;go_wp2_with fail
  obtain⟨aS,kg⟩:=iO.out;have Hf:=NO.out.grow aS;have Hg:=NP.out.below aS (aa _);have Hh:=NQ.out.below aS;have Hi:=Cc.out.below aS (aa _);obtain⟨vb,hvb⟩:∃vb,w32.heap.size=vb:=⟨_,rfl⟩;have Ep:(w32.alloc (.cells #[.int .i64 dO,.int .u8 dP,.int .i64 ess,.int .i64 dQ,.int .u8 dR,.string dS,.slice ef nn eg,.int .i64 enum,.slice ei jt ej] 46)).heap.size=w32.heap.size+1:=by simp
  rw[hvb]at kg Ep ⊢;have aeW:w.heap.size+2<=vb:=by omega
  clear iO NO NP NQ d0 aS Cc;generalize w32.alloc (.cells #[.int .i64 dO,.int .u8 dP,.int .i64 ess,.int .i64 dQ,.int .u8 dR,.string dS,.slice ef nn eg,.int .i64 enum,.slice ei jt ej] 46)=eW at Hf Hg Hh Hi kg Ep ⊢;have YD:vb+1<=eW.heap.size:=pJ Ep.symm;clear Ep;have Er:=Hd Hf;have NR:=Hd Hg;have NS:=Hd Hi;have jZ:=Hd kg;obtain⟨PB,YE⟩:=kp eb;subst YE;refine(Wj rd rd _ _ eW Hh).mono ?_;rintro e w34 ⟨rfl,rfl⟩;clear Hf Hg Hi kg Hh;cases hpb:PB.1 with
  | true =>
   have j9:=Hd (show r=none by
    rw[cr.out,Int.toNat_natCast,Ek.out];obtain⟨q,hq⟩:∃q,mm-k=q+1:=⟨mm-k-1,by omega⟩;rw[hq];unfold lM;rw[HQ.out];dsimp only;rw[hpb,if_pos rfl])
   have H0:=Hd Er.out;clear hpb;have aY:=H0.out.range;have bU:=H0.out.blk;go_wp2_with (first|(refine wpList_load_mid rfl 32 (.tmp 2) rfl w.heap.size 0 rfl (ai ⟨kd,fr,tt,tm,ix,ws,OB.1,cm,rn,ea,es,ec,none,[],0,none,[],0⟩).toList _ aY cL rfl (eN ⟨kd,fr,tt,tm,ix,ws,OB.1,cm,rn,ea,es,ec,none,[],0,none,[],0⟩) ?_)|(refine wpList_store_row rfl 32 (.tmp 2) (.tmp 87) rfl w.heap.size (ai ⟨kd,fr,tt,tm,ix,ws,OB.1,cm,rn,ea,es,ec,none,[],0,none,[],0⟩) rfl (by first|rfl|simp) 32 _ bU (fD ⟨kd,fr,tt,tm,ix,ws,OB.1,cm,rn,ea,es,ec,none,[],0,none,[],0⟩) rfl (gB ⟨kd,fr,tt,tm,ix,ws,OB.1,cm,rn,ea,es,ec,none,[],0,none,[],0⟩) ?_;rw[pM bU]))
   exact xH rfl H0.out rfl rfl (by rw[j9.out];rfl) (λ l hl=>by rw[j9.out]at hl;cases hl)
  | false =>
  have ke:=HQ.out;rw[hpb]at ke;have rN:=Hd ke;clear hpb ke HQ;obtain⟨en,kz⟩:∃en,es.length=en:=⟨_,rfl⟩;have kq:=Hd kz;have l9:eW.cell? ⟨w.heap.size,9,none⟩=some (.slice ea en ec):=by rw[<-kz];exact ab Er.out.blk 9
  have v0:eW.cell? ⟨vb,0,none⟩=some (.int .i64 dO):=ab jZ.out 0;have v1:eW.cell? ⟨vb,1,none⟩=some (.int .u8 dP):=ab jZ.out 1;have v2:eW.cell? ⟨vb,2,none⟩=some (.int .i64 ess):=ab jZ.out 2;have v3:eW.cell? ⟨vb,3,none⟩=some (.int .i64 dQ):=ab jZ.out 3;have v4:eW.cell? ⟨vb,4,none⟩=some (.int .u8 dR):=ab jZ.out 4;have v5:eW.cell? ⟨vb,5,none⟩=some (.string dS):=ab jZ.out 5;have v6:eW.cell? ⟨vb,6,none⟩=some (.slice ef nn eg):=ab jZ.out 6;have v7:eW.cell? ⟨vb,7,none⟩=some (.int .i64 enum):=ab jZ.out 7;have v8:eW.cell? ⟨vb,8,none⟩=some (.slice ei jt ej):=ab jZ.out 8;have aS:=(aj eW.heap.size eW).alloc (aa _) (.cells #[.int .i64 dO,.int .u8 dP,.int .i64 ess,.int .i64 dQ,.int .u8 dR,.string dS,.slice ef nn eg,.int .i64 enum,.slice ei jt ej] 46);have hkl:=heap_alloc_new eW (.cells #[.int .i64 dO,.int .u8 dP,.int .i64 ess,.int .i64 dQ,.int .u8 dR,.string dS,.slice ef nn eg,.int .i64 enum,.slice ei jt ej] 46);have Cd:=Er.out.grow aS;have Hj:=NR.out.below aS (aa _);have uE:=NS.out.below aS (aa _)
  have Ce:(eW.alloc (.cells #[.int .i64 dO,.int .u8 dP,.int .i64 ess,.int .i64 dQ,.int .u8 dR,.string dS,.slice ef nn eg,.int .i64 enum,.slice ei jt ej] 46)).ownsRow (w.heap.size+2) 46 9 (.slice ea en ec) en (es.flatMap bW):=by
   have h:=Hj.row;rw[kz]at h;exact h
  have Cf:RowsIn 9 bW rG (eW.alloc (.cells #[.int .i64 dO,.int .u8 dP,.int .i64 ess,.int .i64 dQ,.int .u8 dR,.string dS,.slice ef nn eg,.int .i64 enum,.slice ei jt ej] 46)) (eW.alloc (.cells #[.int .i64 dO,.int .u8 dP,.int .i64 ess,.int .i64 dQ,.int .u8 dR,.string dS,.slice ef nn eg,.int .i64 enum,.slice ei jt ej] 46)).heap.size (some ⟨eW.heap.size,0,none⟩) [⟨dO,dP,ess,dQ,dR,dS,ef,jr,eg,enum,ei,evs,ej⟩] :=
   ud mh [⟨dO,dP,ess,dQ,dR,dS,ef,jr,eg,enum,ei,evs,ej⟩] _ hkl (by rw[<-sl.out,<-bd.out];rfl) (by simp) (λ x hx=>by
    rw[List.mem_singleton.1 hx];exact⟨mH oF rfl uE.1 (λ _ _=>trivial),mH mA rfl uE.2 (λ _ _=>trivial)⟩)
  have NT:=Hd Cd;have NU:=Hd Hj;have Cg:=Hd uE;have lP:=Hd Ce;have sr:=Hd Cf;have NV:=Hd ((aS.block vb (by omega)).trans jZ.out);have GA:en<=16:=by have:=NH.out;omega
  have Hk:w.heap.size+2<=(eW.alloc (.cells #[.int .i64 dO,.int .u8 dP,.int .i64 ess,.int .i64 dQ,.int .u8 dR,.string dS,.slice ef nn eg,.int .i64 enum,.slice ei jt ej] 46)).heap.size:=by simp;omega
  have YF:vb<(eW.alloc (.cells #[.int .i64 dO,.int .u8 dP,.int .i64 ess,.int .i64 dQ,.int .u8 dR,.string dS,.slice ef nn eg,.int .i64 enum,.slice ei jt ej] 46)).heap.size:=by simp;omega
  clear kz hkl Cd Hj uE Ce Cf Er NR NS jZ aS;go_wp2_with (at_builtin;refine tw rc tX rfl (by decide) mh DM rfl (.tmp 89) (.tmp 91) rfl (w.heap.size+2) (.slice ea en ec) en (es.flatMap bW) rfl lP.out (some ⟨eW.heap.size,0,none⟩) 1 1 [⟨dO,dP,ess,dQ,dR,dS,ef,jr,eg,enum,ei,evs,ej⟩] rfl rfl _ sr.out (λ h=>by cases h) (by unfold maxLen;omega) (by omega) Hk ?_)
  intro v35 oQ xS tH Hl;obtain⟨ir,iB,Hm⟩:=jz xS;subst Hm
  have xT:gU oQ (w.heap.size+2) (.slice ir (en+1) iB) (es++[⟨dO,dP,ess,dQ,dR,dS,ef,jr,eg,enum,ei,evs,ej⟩]):=by
   have h1:=NU.out;have h2:=kq.out;subst h2;exact h1.push ig.out.own (B:=Eo.heap.size) (by omega) (by omega) Cg.out (by simpa using xS) tH
  have zP:∀g,(Value.slice ea en ec).ownBlock=some g->w.heap.size+2<=g:=λ g hg=>(jb lP.out g hg).1
  have Es:=NT.out.grown tH (λ g hg=>by have:=zP g hg;exact⟨by omega,by omega,by omega⟩)
  have NW:oQ.heap[vb]?=some (.cells #[.int .i64 dO,.int .u8 dP,.int .i64 ess,.int .i64 dQ,.int .u8 dR,.string dS,.slice ef nn eg,.int .i64 enum,.slice ei jt ej] 46 (0,0)):=(tH.block vb YF (λ e=>by
   have h1:=ig.out.row;rw[kq.out]at h1;have:=(jb h1 vb e.symm).2;omega)).trans NV.out
  have NX:oQ.cell? ⟨w.heap.size,9,none⟩=some (.slice ea en ec):=by rw[<-kq.out];exact ab Es.blk 9
  have f9:oQ.frozen? ⟨w.heap.size,9,none⟩=false:=aO Es.blk 9;have Et:=Hd (Es.put (x2:=⟨kd,fr,tt,tm,ix,ws,OB.1,cm,rn,ir,es++[⟨dO,dP,ess,dQ,dR,dS,ef,jr,eg,enum,ei,evs,ej⟩],iB,none,[],0,none,[],0⟩) 9 (.slice ir (en+1) iB) (by rw[<-kq.out];simp[ai]));have NY:=Hd (xT.only (Only.set w.heap.size oQ 9 (.slice ir (en+1) iB)) (by omega));have NZ:=Hd (show (oQ.setCell ⟨w.heap.size,9,none⟩ (.slice ir (en+1) iB)).heap[vb]?=some (.cells #[.int .i64 dO,.int .u8 dP,.int .i64 ess,.int .i64 dQ,.int .u8 dR,.string dS,.slice ef nn eg,.int .i64 enum,.slice ei jt ej] 46 (0,0))from(heap_setCell_other _ _ _ _ (show vb≠w.heap.size by omega)).trans NW);have YG:=Hd (show ja oQ (w.heap.size+2) ⟨dO,dP,ess,dQ,dR,dS,ef,jr,eg,enum,ei,evs,ej⟩from xT.own _ (by simp));have N0:=Hd (show w.heap.size+2<=oQ.heap.size/\vb<oQ.heap.size by have:=tH.size;omega);clear xS tH Hl xT zP Es NW l9 v0 v1 v2 v3 v4 v5 v6 v7 v8 lP sr Cg NU NT NV;go_wp2_with fail
  clear NX f9;have Hn:=Et.out;have Eu:=NY.out;have Ev:=NZ.out;have Ho:ja (oQ.setCell ⟨w.heap.size,9,none⟩ (.slice ir (en+1) iB)) (w.heap.size+2) ⟨dO,dP,ess,dQ,dR,dS,ef,jr,eg,enum,ei,evs,ej⟩:=Eu.own _ (by simp);have N1:w.heap.size+2<=(oQ.setCell ⟨w.heap.size,9,none⟩ (.slice ir (en+1) iB)).heap.size:=by simpa using N0.out.1
  clear Et NY NZ YG N0;generalize oQ.setCell ⟨w.heap.size,9,none⟩ (.slice ir (en+1) iB)=mL at Hn Eu Ev Ho N1 ⊢;have kR:=(aj mL.heap.size mL).drew;have Hp:=Hn.grow kR;have N3:=Eu.below kR (aa _);have Hq:=Ho.below kR (aa _);have tI:=(kR.block vb (Array.getElem?_eq_some_iff.1 Ev).1).trans Ev;have aeY:=aF N1 kR.size;obtain⟨wg,rR,Ew⟩:=Hp.rest;have Hr:=Ew.blk;rw[fC.out]at Hr;have r0:mL.drew.cell? ⟨w.heap.size+1,0,none⟩=some (.slice wg ln rR):=ab Hr 0;have v0:mL.drew.cell? ⟨vb,0,none⟩=some (.int .i64 dO):=ab tI 0;have v1:mL.drew.cell? ⟨vb,1,none⟩=some (.int .u8 dP):=ab tI 1;have v2:mL.drew.cell? ⟨vb,2,none⟩=some (.int .i64 ess):=ab tI 2;have v3:mL.drew.cell? ⟨vb,3,none⟩=some (.int .i64 dQ):=ab tI 3;have v4:mL.drew.cell? ⟨vb,4,none⟩=some (.int .u8 dR):=ab tI 4;have v5:mL.drew.cell? ⟨vb,5,none⟩=some (.string dS):=ab tI 5;have v6:mL.drew.cell? ⟨vb,6,none⟩=some (.slice ef nn eg):=ab tI 6;have v7:mL.drew.cell? ⟨vb,7,none⟩=some (.int .i64 enum):=ab tI 7;have v8:mL.drew.cell? ⟨vb,8,none⟩=some (.slice ei jt ej):=ab tI 8;have hth:=Bo false kZ be.out (by rw[rN.out]);rw[rN.out]at hth;dsimp only at hth;have qm:=M7 (f:=⟨dO,dP,ess,dQ,dR,dS,ef,jr,eg,enum,ei,evs,ej⟩) be.out (by rw[rN.out]) (by have:=Ej.out;have:=GY.out;omega) (by rw[rN.out];exact rQ.out) uD.out.1 uD.out.2.1 uD.out.2.2.1 uD.out.2.2.2;obtain⟨EB,xE⟩:∃EB,df ⟨dO,dP,ess,dQ,dR,dS,jr,enum,evs⟩=EB:=⟨_,rfl⟩;have Hs:df eP=EB:=by rw[<-rQ.out];exact xE
  rw[Hs]at hth;obtain⟨lb,pw⟩:∃lb,EB.length=lb:=⟨_,rfl⟩;have YH:lb<=ln:=by rw[<-fC.out,hth.2.1,List.length_append,pw];omega
  have aeZ:ln<=rR:=by rw[<-fC.out];exact Ew.hcap
  have fO:∀w',(Instr.sliceAt 134 (.slice wg ln rR) (some (.int .i64 (lb:Int))) none none).run prog w'=.ok (.slice (gf wg rR lb 1) (ln-lb) (rR-lb)) w':=λ w'=>zm GG GF wg ln rR lb YH .i64 lb rfl w'
  have hca:=xE▸L6 dO dP ess dQ dR dS ef nn eg jr enum ei jt ej evs mL.drew sl.out bd.out (mH oF rfl Hq.1 (λ _ _=>trivial)) (mH mA rfl Hq.2 (λ _ _=>trivial)) (λ v hv=>by have:=qm.vH v hv;omega) (by have h:=qm.args;rw[<-sl.out];dsimp only at h;omega) (by have h:=qm.vn;rw[<-bd.out];dsimp only at h;omega) (by have h:=qm.size;have h2:=qm.text;dsimp only at h h2;omega);rw[show zi EB mL.drew.heap.size mL.drew=Yi EB lb mL.drew.heap.size mL.drew by rw[<-pw];rfl]at hca;have st:=Hd hca;have Ht:=Hd Hp;have Hu:=Hd N3;have zQ:=Hd Ew;have HTH:=Hd hth;have Hv:=Hd qm;have Ea:=Hd pw;have YI:=Hd Hs;clear Hn Eu Ev Ho kR Hp N3 Hq tI Ew Hr hth qm xE Hs pw hca;refine Lm (by kernel_rfl) ?_;refine M5 0 1 rfl rfl (by kernel_rfl) (by rfl) (by rfl) (λ K hK=>?_) (λ K hK=>?_)
  rotate_left
  focus
   go_simp
   skip
   refine hK.out _ _ ?_;clear hK K
   (try simp only[Act.put,ssa,aq,ar])
   refine M5 0 2 rfl rfl (by kernel_rfl) (by rfl) (by rfl) (λ K hK=>?_) (λ K hK=>?_)
   rotate_left
   focus
    go_simp
    (refine st.out.mono ?_;rintro e x1 ⟨a5,k5,rfl,gn,ak⟩;have Ex:=Ht.out.grow ak;have Ey:=Hu.out.below ak (aa _);have r1:x1.cell? ⟨w.heap.size+1,0,none⟩=some (.slice wg ln rR):=(ak.cell (p:=⟨w.heap.size+1,0,none⟩) (show w.heap.size+1<mL.drew.heap.size by omega)).trans r0;have f1:x1.frozen? ⟨w.heap.size+1,0,none⟩=false:=aO ((ak.block (w.heap.size+1) (by omega)).trans zQ.out.blk) 0;have xU:=zQ.out.grow ak;clear r0 v0 v1 v2 v3 v4 v5 v6 v7 v8 st gn ak)
    refine hK.out _ _ ?_;clear hK K
    (try simp only[Act.put,ssa,aq,ar])
    (first|(refine r9 3 rfl (by kernel_rfl) (by kernel_rfl) (by kernel_rfl) (λ _ _ _ h=>h) (by rfl) ?_)|(refine sc (v:=?_) 3 rfl (by kernel_rfl) (by kernel_rfl) (by kernel_rfl) (λ _ _ _ h=>h) (by rfl) ?_ ?_;rotate_left;focus(intro wS;go_simp;first|done|with_reducible rfl)))
    (try simp only[Act.put,ssa,aq,ar])
    refine vt 0 rfl (by kernel_rfl) (by rfl) (λ K hK=>?_);go_simp
    skip
    refine hK.out _ _ ?_;clear hK K
    (try simp only[Act.put,ssa,aq,ar])
   rotate_left
   focus
    go_simp
    skip
    refine hK.out _ _ ?_;clear hK K
    (try simp only[Act.put,ssa,aq,ar])
    refine vt 2 rfl (by kernel_rfl) (by rfl) (λ K hK=>?_);go_simp
    (refine st.out.mono ?_;rintro e x1 ⟨a5,k5,rfl,gn,ak⟩;have Ex:=Ht.out.grow ak;have Ey:=Hu.out.below ak (aa _);have r1:x1.cell? ⟨w.heap.size+1,0,none⟩=some (.slice wg ln rR):=(ak.cell (p:=⟨w.heap.size+1,0,none⟩) (show w.heap.size+1<mL.drew.heap.size by omega)).trans r0;have f1:x1.frozen? ⟨w.heap.size+1,0,none⟩=false:=aO ((ak.block (w.heap.size+1) (by omega)).trans zQ.out.blk) 0;have xU:=zQ.out.grow ak;clear r0 v0 v1 v2 v3 v4 v5 v6 v7 v8 st gn ak)
    refine hK.out _ _ ?_;clear hK K
    (try simp only[Act.put,ssa,aq,ar])
    (first|(refine r9 3 rfl (by kernel_rfl) (by kernel_rfl) (by kernel_rfl) (λ _ _ _ h=>h) (by rfl) ?_)|(refine sc (v:=?_) 3 rfl (by kernel_rfl) (by kernel_rfl) (by kernel_rfl) (λ _ _ _ h=>h) (by rfl) ?_ ?_;rotate_left;focus(intro wS;go_simp;first|done|with_reducible rfl)))
    (try simp only[Act.put,ssa,aq,ar])
  rotate_left 2
  focus
   go_simp
   skip
   refine hK.out _ _ ?_;clear hK K
   (try simp only[Act.put,ssa,aq,ar])
   refine vt 1 rfl (by kernel_rfl) (by rfl) (λ K hK=>?_);go_simp
   skip
   refine hK.out _ _ ?_;clear hK K
   (try simp only[Act.put,ssa,aq,ar])
   refine vt 2 rfl (by kernel_rfl) (by rfl) (λ K hK=>?_);go_simp
   (refine st.out.mono ?_;rintro e x1 ⟨a5,k5,rfl,gn,ak⟩;have Ex:=Ht.out.grow ak;have Ey:=Hu.out.below ak (aa _);have r1:x1.cell? ⟨w.heap.size+1,0,none⟩=some (.slice wg ln rR):=(ak.cell (p:=⟨w.heap.size+1,0,none⟩) (show w.heap.size+1<mL.drew.heap.size by omega)).trans r0;have f1:x1.frozen? ⟨w.heap.size+1,0,none⟩=false:=aO ((ak.block (w.heap.size+1) (by omega)).trans zQ.out.blk) 0;have xU:=zQ.out.grow ak;clear r0 v0 v1 v2 v3 v4 v5 v6 v7 v8 st gn ak)
   refine hK.out _ _ ?_;clear hK K
   (try simp only[Act.put,ssa,aq,ar])
   (first|(refine r9 3 rfl (by kernel_rfl) (by kernel_rfl) (by kernel_rfl) (λ _ _ _ h=>h) (by rfl) ?_)|(refine sc (v:=?_) 3 rfl (by kernel_rfl) (by kernel_rfl) (by kernel_rfl) (λ _ _ _ h=>h) (by rfl) ?_ ?_;rotate_left;focus(intro wS;go_simp;first|done|with_reducible rfl)))
   (try simp only[Act.put,ssa,aq,ar])
  all_goals
   (first|(refine r9 4 rfl (by kernel_rfl) (by kernel_rfl) (by kernel_rfl) (λ _ _ _ h=>h) (by rfl) ?_)|(refine sc (v:=?_) 4 rfl (by kernel_rfl) (by kernel_rfl) (by kernel_rfl) (λ _ _ _ h=>h) (by rfl) ?_ ?_;rotate_left;focus(intro wS;go_simp;first|done|with_reducible rfl)))
   (try simp only[Act.put,ssa,aq,ar])
   refine vt 5 rfl (by kernel_rfl) (by rfl) (λ K hK=>?_);go_simp
   skip
   refine hK.out _ _ ?_;clear hK K
   (try simp only[Act.put,ssa,aq,ar])
   refine wpAnyH_done (by kernel_rfl) ?_ _;have Ch:(es++[(⟨dO,dP,ess,dQ,dR,dS,ef,jr,eg,enum,ei,evs,ej⟩:En)]).length=en+1:=by rw[List.length_append,kq.out];rfl
   have N4:(kZ.drop lb).length=ln-lb:=by rw[List.length_drop,fC.out]
   have N5:=Ex.Yj xU (xU.off.drop lb xU.hcap) N4 (show ln-lb<=rR-lb by omega) (λ e=>by have:=xU.nil (t8 e);omega);have N7:=Ey.only (Only.set (w.heap.size+1) x1 0 (.slice (gf wg rR lb 1) (ln-lb) (rR-lb))) (by omega)
   have N9:∀e∈es++[(⟨dO,dP,ess,dQ,dR,dS,ef,jr,eg,enum,ei,evs,ej⟩:En)],gV e:=λ e he=>by
    rcases List.mem_append.1 he with he|he
    · exact rP.out e he
    rw[List.mem_singleton.1 he];exact Hv.out
   have Oa:lM mm ml=(match lM (mm-(k+1)) (kZ.drop lb)with|none=>none|some (l,r')=>some ((es++[(⟨dO,dP,ess,dQ,dR,dS,ef,jr,eg,enum,ei,evs,ej⟩:En)]).map En.plain++l,r')):=by
    obtain⟨q,hq⟩:∃q,mm-k=q+1:=⟨mm-k-1,by omega⟩;have ke:mm-(k+1)=q:=by omega
    have YJ:(df eP).length=lb:=by rw[YI.out];exact Ea.out
    rw[Ek.out,hq,ke,Yl q rN.out,YJ];cases lM q (kZ.drop lb)with
    | none=>rfl
    | some p=>obtain⟨l,r'⟩:=p;simp[<-rQ.out]
   have zJ:=Hd (And.intro Ch (And.intro N5 (And.intro N7 (And.intro N9 Oa))));have YK:=Hd (be.out.drop lb);have YL:(kZ.drop lb).length<=ml.length:=by rw[N4];have:=Ej.out;have:=fC.out;omega
   clear Ch N5 N7 N9 Oa Ex Ey xU;go_wp2_with fail
   go_roundw
   case rel =>
    obtain⟨g1,g2,g3,g4,g5⟩:=zJ.out;exact⟨k+1,es++[⟨dO,dP,ess,dQ,dR,dS,ef,jr,eg,enum,ei,evs,ej⟩],ir,iB,kZ.drop lb,by omega,by go_num,by rw[g1,<-NH.out,kq.out],g2,by rw[g1];exact g3,g4,YK.out,YL,g5⟩
   simp[intOf]<;>omega
 have i1:¬(k:Int)<mm:=by omega
 obtain rfl:k=mm:=by omega
 have Ob:lM k ml=some (es.map En.plain,kZ):=by rw[Ek.out,Nat.sub_self];simp[lM]
 obtain⟨⟨vn,vo,vl⟩,hv⟩:∃q,gk kZ=q:=⟨_,rfl⟩;have gh:=Hd hv;have Oc:=Hd (cr.out.trans (by rw[Int.toNat_natCast,Ob]));have YB:=GY.out;have eZ:=Ej.out;clear Ob hv cr Ek;go_wp2_with fail
 refine(GI w.heap.size (w.heap.size+1) kZ (vn,vo,vl) wr gh.out aN.out.rest be.out (by omega)).mono ?_;rintro e Od ⟨rfl,px,ho⟩;dsimp only at px ⊢
 have Oe:jE w w.heap.size w.heap.size (w.heap.size+1) ⟨kd,fr,tt,tm,ix,ws,OB.1,cm,rn,ea,es,ec,none,[],0,none,[],0⟩ vl Od :=
  ⟨aN.out.below.trans (ho.toBelow (by have:=aN.out.rest.lt;omega) (by omega)),(ho.block w.heap.size (by have:=aN.out.rest.lt;omega) (by omega)).trans aN.out.blk,px,aa _,by omega,by omega⟩
 have Of:=ig.out.only ho (by omega);have hvw:=ul be.out;rw[gh.out]at hvw;have zD:=Hd hvw;have xV:=Hd Oe;have Og:=Hd Of;clear hvw px ho aN ig Oe Of;have kQ:=Oc.out;try dsimp only at kQ
 rw[gh.out]at kQ;try dsimp only at kQ
 have HR3:=Hd kQ;clear kQ Oc;cases vo with
 | false =>
  have j9:=Hd (show r=none by rw[HR3.out,if_pos rfl]);have H0:=Hd xV.out;have aY:=H0.out.range;have bU:=H0.out.blk;go_wp2_with (first|(refine wpList_load_mid rfl 32 (.tmp 2) rfl w.heap.size 0 rfl (ai ⟨kd,fr,tt,tm,ix,ws,OB.1,cm,rn,ea,es,ec,none,[],0,none,[],0⟩).toList _ aY cL rfl (eN ⟨kd,fr,tt,tm,ix,ws,OB.1,cm,rn,ea,es,ec,none,[],0,none,[],0⟩) ?_)|(refine wpList_store_row rfl 32 (.tmp 2) (.tmp 106) rfl w.heap.size (ai ⟨kd,fr,tt,tm,ix,ws,OB.1,cm,rn,ea,es,ec,none,[],0,none,[],0⟩) rfl (by first|rfl|simp) 32 _ bU (fD ⟨kd,fr,tt,tm,ix,ws,OB.1,cm,rn,ea,es,ec,none,[],0,none,[],0⟩) rfl (gB ⟨kd,fr,tt,tm,ix,ws,OB.1,cm,rn,ea,es,ec,none,[],0,none,[],0⟩) ?_;rw[pM bU]))
  exact xH rfl H0.out rfl rfl (by rw[j9.out];rfl) (λ l hl=>by rw[j9.out]at hl;cases hl)
 | true =>
 have ae1:0<=vn:=zD.out.2.1;obtain⟨q,rfl⟩:∃q:Nat,vn=q:=⟨vn.toNat,by omega⟩;have YM:q<=vl.length:=by have:=Yp gh.out;omega
 obtain⟨⟨inn,io,il⟩,hi⟩:∃z,gk (vl.drop q)=z:=⟨_,rfl⟩;have hr4:=HR3.out;rw[if_neg (by simp),Int.toNat_natCast,hi]at hr4;try dsimp only at hr4
 have HR4:=Hd hr4;have HI:=Hd hi;have hvl:vl.length<=1048576:=by have:=zD.out.2.2.2;dsimp only at this;omega
 clear hr4 hi HR3;go_wp2_with fail
 refine(GH w.heap.size (w.heap.size+1) q vl Od xV.out.rest YM (by omega)).mono ?_;rintro e uF ⟨a,c2,rfl,ht,dW,bN,px,ho⟩
 have Hw:jE w w.heap.size w.heap.size (w.heap.size+1) ⟨kd,fr,tt,tm,ix,ws,OB.1,cm,rn,ea,es,ec,none,[],0,none,[],0⟩ (vl.drop q) uF :=
  ⟨xV.out.below.trans (ho.toBelow (by have:=xV.out.rest.lt;omega) (by omega)),(ho.block w.heap.size (by have:=xV.out.rest.lt;omega) (by omega)).trans xV.out.blk,px,aa _,by omega,by omega⟩
 have Hx:=Og.out.only ho (by omega);have ae2:w.heap.size+2<=uF.heap.size:=by have:=Hw.rest.lt;omega
 obtain⟨vs,ie⟩:∃vs,vl.take q=vs:=⟨_,rfl⟩;rw[ie]at ht;have Oh:vs.length=q:=by rw[<-ie,List.length_take];omega
 have Oi:BytesWf vs:=by rw[<-ie];exact zD.out.1.take q
 have fv:=Hd ie;have Ez:=Hd Oh;have YN:=Hd Oi;have HT2:=Hd ht;have Oj:=Hd Hw;have Ok:=Hd Hx;have YO:=Hd (show ∀e∈es,∀g,(jn e).ownBlock=some g->g<uF.heap.size from λ e he g hg=>(jb (Hx.own e he).2 g hg).2);clear ie Oh Oi ht Hw Hx px ho xV Og;go_wp2_with fail
 go_loopw [114] (λ i wr=>∃(k:Nat) (acc tl:List Int) (va:Option Addr) (vc:Nat),k<=q/\i=.int .i64 k/\acc.length=k/\acc++tl=vs/\gj wr uF.heap.size va k vc acc/\jE w w.heap.size w.heap.size (w.heap.size+1) ⟨kd,fr,tt,tm,ix,ws,OB.1,cm,rn,ea,es,ec,va,acc,vc,none,[],0⟩ (vl.drop q) wr/\Only w.heap.size uF wr) (λ i _=>q-(intOf i).toNat)
 exact⟨0,[],vs,none,0,by omega,rfl,rfl,rfl,gj.nil _ _,Oj.out,Only.refl _ _⟩
 clear Oj;obtain⟨k2,acc,tl,va,vc,dh,rfl,hak,hat,az,aP,Hy⟩:=hrel;have uG:=Hd hak;have HAT:=Hd hat;have HOWN:=Hd az;have aN:=Hd aP;have uc:=Hd Hy;have Hz:=Hy.1;clear hak hat az aP Hy;by_cases kP:k2<q
 ·
  have i1:(k2:Int)<q:=by omega
  obtain⟨x,tl,rfl⟩:∃x t2,tl=x :: t2:=by
   cases tl with
   | nil=>exfalso;have h1:=HAT.out;rw[List.append_nil]at h1;have h2:=Ez.out;rw[<-h1,uG.out]at h2;omega
   | cons x t=>exact⟨x,t,rfl⟩
  have hxw:0<=x/\x<256:=YN.out x (by rw[<-HAT.out];simp)
  have jM:∃b2 o2,a=some ⟨b2,o2,none⟩/\wr.cell? ⟨b2,o2+k2,none⟩=some (.int .u8 x):=by
   rcases HT2.out with h|⟨b2,o2,e1,e2,e3⟩
   · exfalso;have h2:=Ez.out;rw[h]at h2;simp at h2;omega
   refine⟨b2,o2,e1,?_⟩;have hb:=uc.out.toBelow (B:=w.heap.size) (by omega) (aa _);rw[hb.cell (p:=⟨b2,o2+k2,none⟩) e2,e3 k2 (by rw[Ez.out];exact kP),<-HAT.out];simp[List.getD,<-uG.out]
  obtain⟨fb2,off2,rfl,c0⟩:=jM;have ew:IntKind.i64.wrap x=x:=jU _ (by omega);have l10:wr.cell? ⟨w.heap.size,10,none⟩=some (.slice va k2 vc):=by rw[<-uG.out];exact ab aN.out.blk 10
  have aS:=(aj wr.heap.size wr).alloc (aa _) (.cells #[.int .i64 x] 3);have zR:=aN.out.grow aS;have Ol:=Hd zR;clear aS zR;go_wp2_with (at_builtin;refine tw (sub:=mB) qr tY rfl (by decide) mA Be rfl (.tmp 119) (.tmp 122) rfl uF.heap.size (.slice va k2 vc) k2 (acc.flatMap gb) rfl (nU HOWN.out _) (some ⟨wr.heap.size,0,none⟩) 1 1 [x] rfl rfl (wr.heap.size+1) (ud mA _ _ (heap_alloc_new wr _) rfl (by omega) (λ _ _=>trivial)) (by simp) (by unfold maxLen;omega) (by omega) (by simp;omega) ?_)
  intro v2 Ci HU Ia YP;obtain⟨fR,dG,kw⟩:=jz HU;subst kw;have Ib:∀g,(Value.slice va k2 vc).ownBlock=some g->uF.heap.size<=g:=λ g hg=>(jb HOWN.out g hg).1
  have Om:gj Ci uF.heap.size fR (k2+1) dG (acc++[x]):=by
   unfold gj;rw[List.flatMap_append];exact HU
  have EA:=Ol.out.grown Ia (λ g hg=>by have:=Ib g hg;exact⟨by omega,by omega,by omega⟩);have On:=(uc.out.alloc (.cells #[.int .i64 x] 3)).grown Ia Ib;have Oo:=uG.out;have ae4:Ci.cell? ⟨w.heap.size,10,none⟩=some (.slice va k2 vc):=by rw[<-uG.out];exact ab EA.blk 10
  have f10:Ci.frozen? ⟨w.heap.size,10,none⟩=false:=aO EA.blk 10;have zS:=EA.put (x2:=⟨kd,fr,tt,tm,ix,ws,OB.1,cm,rn,ea,es,ec,fR,acc++[x],dG,none,[],0⟩) 10 (.slice fR (k2+1) dG) (by rw[<-Oo];simp[ai]);have Cj:=Om.only (Only.set w.heap.size Ci 10 (.slice fR (k2+1) dG)) (by omega);have Oq:=On.trans (Only.set w.heap.size Ci 10 (.slice fR (k2+1) dG));have jC:=Hd (And.intro Cj (And.intro zS Oq));clear Om EA On Cj zS Oq HU Ia YP Ib l10 Oo Ol aN HOWN uc;go_wp2_with fail
  go_roundw
  case rel =>
   obtain⟨g1,g2,g3⟩:=jC.out;exact⟨k2+1,acc++[x],tl,fR,dG,by omega,by go_num,by rw[List.length_append,uG.out];rfl,by rw[List.append_assoc];exact HAT.out,g1,g2,g3⟩
  simp[intOf]<;>omega
 have i1:¬(k2:Int)<q:=by omega
 obtain rfl:k2=q:=by omega
 obtain rfl:acc=vs:=by
  have h1:=HAT.out;have h2:=Ez.out;rw[<-h1,List.length_append,uG.out]at h2;have h3:tl=[]:=List.length_eq_zero_iff.1 (by omega);rw[h3,List.append_nil]at h1;exact h1
 have hdw:=zD.out.1.drop k2;have nO:(vl.drop k2).length<=1048576:=by rw[List.length_drop];omega
 have Ic:=Hd hdw;clear hdw;go_wp2_with fail
 refine(GI w.heap.size (w.heap.size+1) (vl.drop k2) (inn,io,il) wr HI.out aN.out.rest Ic.out (by omega)).mono ?_;rintro e EC ⟨rfl,px,ho⟩;dsimp only at px ⊢
 have zS:jE w w.heap.size w.heap.size (w.heap.size+1) ⟨kd,fr,tt,tm,ix,ws,OB.1,cm,rn,ea,es,ec,va,acc,vc,none,[],0⟩ il EC :=
  ⟨aN.out.below.trans (ho.toBelow (by have:=aN.out.rest.lt;omega) (by omega)),(ho.block w.heap.size (by have:=aN.out.rest.lt;omega) (by omega)).trans aN.out.blk,px,aa _,by omega,by omega⟩
 have Ot:=(Ok.out.only uc.out (by omega)).only ho (by omega);have Cj:=HOWN.out.only ho (by omega);have ae5:uF.heap.size<=EC.heap.size:=aF Hz ho.1;have hiw:=ul Ic.out;rw[HI.out]at hiw;have HIW:=Hd hiw;obtain⟨wh,ED⟩:∃z,il.length=z:=⟨_,rfl⟩;have hil:wh<=1048576:=by have h:=hiw.2.2.2;dsimp only at h;omega
 obtain⟨Ou,Ov,Ck⟩:=zS.rest;have Id:=Ck.blk;rw[ED]at Id;have r0:EC.cell? ⟨w.heap.size+1,0,none⟩=some (.slice Ou wh Ov):=ab Id 0;have dC:=DP Ou Ov il EC w.heap.size Ck.off (by omega) Ck.nil (by omega);unfold Ld at dC;rw[ED]at dC;have bD:=Hd dC;have aN:=Hd zS;have ig:=Hd Ot;have sr:=Hd Cj;have ae7:=Hd Ck;have EE:=Hd ED;clear hiw Id Ck dC ED zS Ot Cj px ho Ok HOWN uc Ic HT2;go_wp2_with fail
 refine bD.out.mono ?_;rintro e zT ⟨vi,rfl,zU,EF⟩;obtain⟨ia,ic,rfl⟩:=jz zU;have EG:=aN.out.grow EF;have Ow:=ig.out.below EF (aa _);have Ox:=sr.out.below EF (aa _);have Ie:zT.cell? ⟨w.heap.size,11,none⟩=some (.slice none 0 0):=ab EG.blk 11;have f11:zT.frozen? ⟨w.heap.size,11,none⟩=false:=aO EG.blk 11;have Oy:=EG.put (x2:=⟨kd,fr,tt,tm,ix,ws,OB.1,cm,rn,ea,es,ec,va,acc,vc,ia,il,ic⟩) 11 (.slice ia wh ic) (by rw[<-EE.out];rfl);have Oz:=Ow.only (Only.set w.heap.size zT 11 (.slice ia wh ic)) (by omega);have OA:=Ox.only (Only.set w.heap.size zT 11 (.slice ia wh ic)) (by omega);have OC:=rK zU (Only.set w.heap.size zT 11 (.slice ia wh ic)) (by omega);have rf:=Hd (And.intro Oz (And.intro OA OC));have If:=Hd Oy;clear EG Ow Ox zU EF Oy Oz OA OC aN ig sr bD r0;go_wp2_with fail
 generalize zT.setCell ⟨w.heap.size,11,none⟩ (.slice ia wh ic)=Cl at rf If ⊢;have kR:=(aj Cl.heap.size Cl).drew;have Cn:=If.out.grow kR;have EH:=Hd (And.intro (rf.out.1.below kR (aa _)) (And.intro (rf.out.2.1.below kR (aa _)) (own_below rf.out.2.2 kR (aa _))));have OD:=Hd Cn;obtain⟨YQ,YR,OE⟩:=Cn.rest;have Ig:=OE.blk;rw[EE.out]at Ig;have r1:Cl.drew.cell? ⟨w.heap.size+1,0,none⟩=some (.slice YQ wh YR):=ab Ig 0;have aY:=Cn.range;have bU:=Cn.blk;clear kR Cn OE Ig rf If Ie f11;cases io with
 | false =>
  have j9:=Hd (show r=none by rw[HR4.out,if_pos (Or.inl rfl)]);refine nX (λ w'=>w'=Cl.drew) (by kernel_rfl) rfl ?_;intro cu;refine vG (v:=.agg (ai ⟨kd,fr,tt,tm,ix,ws,OB.1,cm,rn,ea,es,ec,va,acc,vc,ia,il,ic⟩).toList.toArray) 0 rfl (by kernel_rfl) (by kernel_rfl) (by kernel_rfl) (λ _ _ _ h=>h) (by rfl) cu (xI 32 (.tmp 2) rfl w.heap.size 0 rfl (ai ⟨kd,fr,tt,tm,ix,ws,OB.1,cm,rn,ea,es,ec,va,acc,vc,ia,il,ic⟩).toList _ (λ w' hw'=>by rw[hw'];exact aY) cL rfl (eN ⟨kd,fr,tt,tm,ix,ws,OB.1,cm,rn,ea,es,ec,va,acc,vc,ia,il,ic⟩)) ?_
  (try simp only[Act.put,ssa,aq,ar])
  (first|(refine tkn 1 rfl ?_)|(refine aT (v:=?_) 1 rfl ?_ ?_;rotate_left;focus(intro wS ah;cases ah;go_simp;first|done|with_reducible rfl)))
  (try simp only[Act.put,ssa,aq,ar])
  (first|(refine tkn 2 rfl ?_)|(refine aT (v:=?_) 2 rfl ?_ ?_;rotate_left;focus(intro wS ah;cases ah;go_simp;first|done|with_reducible rfl)))
  (try simp only[Act.put,ssa,aq,ar])
  (first|(refine tkn 3 rfl ?_)|(refine aT (v:=?_) 3 rfl ?_ ?_;rotate_left;focus(intro wS ah;cases ah;go_simp;first|done|with_reducible rfl)))
  (try simp only[Act.put,ssa,aq,ar])
  (first|(refine tkn 4 rfl ?_)|(refine aT (v:=?_) 4 rfl ?_ ?_;rotate_left;focus(intro wS ah;cases ah;go_simp;first|done|with_reducible rfl)))
  (try simp only[Act.put,ssa,aq,ar])
  (first|(refine tkn 5 rfl ?_)|(refine aT (v:=?_) 5 rfl ?_ ?_;rotate_left;focus(intro wS ah;cases ah;go_simp;first|done|with_reducible rfl)))
  (try simp only[Act.put,ssa,aq,ar])
  (first|(refine tkn 6 rfl ?_)|(refine aT (v:=?_) 6 rfl ?_ ?_;rotate_left;focus(intro wS ah;cases ah;go_simp;first|done|with_reducible rfl)))
  (try simp only[Act.put,ssa,aq,ar])
  (first|(refine tkn 7 rfl ?_)|(refine aT (v:=?_) 7 rfl ?_ ?_;rotate_left;focus(intro wS ah;cases ah;go_simp;first|done|with_reducible rfl)))
  (try simp only[Act.put,ssa,aq,ar])
  refine dL 8 rfl (by kernel_rfl) (by rfl) (λ K hK=>?_);skip
  (refine wp_store_row 32 (.tmp 2) (.tmp 133) rfl w.heap.size (ai ⟨kd,fr,tt,tm,ix,ws,OB.1,cm,rn,ea,es,ec,va,acc,vc,ia,il,ic⟩) rfl (by first|rfl|simp) 32 _ bU (fD ⟨kd,fr,tt,tm,ix,ws,OB.1,cm,rn,ea,es,ec,va,acc,vc,ia,il,ic⟩) rfl (gB ⟨kd,fr,tt,tm,ix,ws,OB.1,cm,rn,ea,es,ec,va,acc,vc,ia,il,ic⟩) ?_;rw[pM bU])
  refine hK.out _ _ (by assumption) ?_;clear hK K
  (try simp only[Act.put,ssa,aq,ar])
  (first|(refine tkn 9 rfl ?_)|(refine aT (v:=?_) 9 rfl ?_ ?_;rotate_left;focus(intro wS ah;cases ah;go_simp;first|done|with_reducible rfl)))
  (try simp only[Act.put,ssa,aq,ar])
  refine wpAnyH_done (by kernel_rfl) ?_ _;go_wp2_with fail
  exact xH rfl OD.out rfl rfl (by rw[j9.out];rfl) (λ l hl=>by rw[j9.out]at hl;cases hl)
 | true =>
  have oa:=HR4.out;rw[EE.out]at oa;have xW:=Hd oa;clear oa;refine nX (λ w'=>w'=Cl.drew) (by kernel_rfl) rfl ?_;intro cu;refine vG (v:=.agg (ai ⟨kd,fr,tt,tm,ix,ws,OB.1,cm,rn,ea,es,ec,va,acc,vc,ia,il,ic⟩).toList.toArray) 0 rfl (by kernel_rfl) (by kernel_rfl) (by kernel_rfl) (λ _ _ _ h=>h) (by rfl) cu (xI 32 (.tmp 2) rfl w.heap.size 0 rfl (ai ⟨kd,fr,tt,tm,ix,ws,OB.1,cm,rn,ea,es,ec,va,acc,vc,ia,il,ic⟩).toList _ (λ w' hw'=>by rw[hw'];exact aY) cL rfl (eN ⟨kd,fr,tt,tm,ix,ws,OB.1,cm,rn,ea,es,ec,va,acc,vc,ia,il,ic⟩)) ?_
  (try simp only[Act.put,ssa,aq,ar])
  (first|(refine tkn 1 rfl ?_)|(refine aT (v:=?_) 1 rfl ?_ ?_;rotate_left;focus(intro wS ah;cases ah;go_simp;first|done|with_reducible rfl)))
  (try simp only[Act.put,ssa,aq,ar])
  (first|(refine tkn 2 rfl ?_)|(refine aT (v:=?_) 2 rfl ?_ ?_;rotate_left;focus(intro wS ah;cases ah;go_simp;first|done|with_reducible rfl)))
  (try simp only[Act.put,ssa,aq,ar])
  (first|(refine tkn 3 rfl ?_)|(refine aT (v:=?_) 3 rfl ?_ ?_;rotate_left;focus(intro wS ah;cases ah;go_simp;first|done|with_reducible rfl)))
  (try simp only[Act.put,ssa,aq,ar])
  (first|(refine tkn 4 rfl ?_)|(refine aT (v:=?_) 4 rfl ?_ ?_;rotate_left;focus(intro wS ah;cases ah;go_simp;first|done|with_reducible rfl)))
  (try simp only[Act.put,ssa,aq,ar])
  (first|(refine tkn 5 rfl ?_)|(refine aT (v:=?_) 5 rfl ?_ ?_;rotate_left;focus(intro wS ah;cases ah;go_simp;first|done|with_reducible rfl)))
  (try simp only[Act.put,ssa,aq,ar])
  (first|(refine tkn 6 rfl ?_)|(refine aT (v:=?_) 6 rfl ?_ ?_;rotate_left;focus(intro wS ah;cases ah;go_simp;first|done|with_reducible rfl)))
  (try simp only[Act.put,ssa,aq,ar])
  (first|(refine tkn 7 rfl ?_)|(refine aT (v:=?_) 7 rfl ?_ ?_;rotate_left;focus(intro wS ah;cases ah;go_simp;first|done|with_reducible rfl)))
  (try simp only[Act.put,ssa,aq,ar])
  refine dL 8 rfl (by kernel_rfl) (by rfl) (λ K hK=>?_);skip
  (refine wp_store_row 32 (.tmp 2) (.tmp 133) rfl w.heap.size (ai ⟨kd,fr,tt,tm,ix,ws,OB.1,cm,rn,ea,es,ec,va,acc,vc,ia,il,ic⟩) rfl (by first|rfl|simp) 32 _ bU (fD ⟨kd,fr,tt,tm,ix,ws,OB.1,cm,rn,ea,es,ec,va,acc,vc,ia,il,ic⟩) rfl (gB ⟨kd,fr,tt,tm,ix,ws,OB.1,cm,rn,ea,es,ec,va,acc,vc,ia,il,ic⟩) ?_;rw[pM bU])
  refine hK.out _ _ (by assumption) ?_;clear hK K
  (try simp only[Act.put,ssa,aq,ar])
  (first|(refine tkn 9 rfl ?_)|(refine aT (v:=?_) 9 rfl ?_ ?_;rotate_left;focus(intro wS ah;cases ah;go_simp;first|done|with_reducible rfl)))
  (try simp only[Act.put,ssa,aq,ar])
  refine wpAnyH_done (by kernel_rfl) ?_ _;go_wp2_with fail
  exact xH rfl OD.out rfl rfl (Yo xW.out) (λ l hl=>⟨by rw[<-Ym xW.out hl,fv.out];rfl,⟨EH.out.1.le (by omega),by
    have h:=EH.out.2.1.le (base':=w.heap.size) (by omega);rw[<-uG.out]at h;exact h,by
    have h:=fh (base':=w.heap.size) EH.out.2.2 (by omega);rw[<-EE.out]at h;exact h⟩,λ e he=>⟨rP.out e he,λ g hg ax=>by
    have h1:=YO.out e he g hg;rw[show (Value.slice va acc.length vc).ownBlock=(Value.slice va k2 vc).ownBlock by rw[uG.out]]at ax;have h2:=(jb EH.out.2.1 g ax).1;omega⟩⟩)
end Go.Proofs.YtepdklfkegkojaaGreatDoor
