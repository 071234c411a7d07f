/- Parts of one proof. Conditions: as each says. -/
import Derived.Test.YtepdklfkegkojaaGreatDoorGLetterNumbers0
import Derived.Test.YtepdklfkegkojaaGreatDoorGLetterNumbers3
import Derived.Test.YtepdklfkegkojaaGreatDoorGLetterNumbers6
import Derived.Test.YtepdklfkegkojaaGreatDoorGLetterNumbers1
import Derived.Maps.AppendAt
set_option linter.all false
set_option maxHeartbeats 16000000
set_option maxRecDepth 100000
namespace Go.Proofs.YtepdklfkegkojaaGreatDoor
open Go.Proofs.Tryz
open Go.RowKit
structure ks where
 ao:Option Addr
 m:Nat
 cap:Nat
 xs:List Int
variable {Z:ks}
structure mM (Z:ks) (w:World) (M db:Nat) (bad:Bool) (k:Nat) (ao:Option Addr) (m cap:Nat) (xs:List Int):Prop where
 blk:w.heap[db]?=some (.cells #[.slice ao m cap,.int .i64 k,.bool bad] 91 (0,0))
 off:mD w M db ao xs
 len:xs.length=m
 room:m<=cap
 nil:ao=none->cap=0
 at_:k<=m
 le:M<=w.heap.size
 lim:m<=140737488351232
 z:Z=⟨ao,m,cap,xs⟩
theorem mM.lt {w:World}{M db k m cap:Nat}{bad:Bool}{ao:Option Addr}{xs:List Int}(h:mM Z w M db bad k ao m cap xs):db<w.heap.size:=(Array.getElem?_eq_some_iff.1 h.blk).1
def Ref (Z:ks) (w:World) (M db:Nat) (bad:Bool) (left:List Int):Prop:=∃k ao m cap xs,mM Z w M db bad k ao m cap xs/\left=xs.drop k
theorem Ref.lt {w:World}{M db:Nat}{bad:Bool}{left:List Int}(h:Ref Z w M db bad left):db<w.heap.size:=by obtain⟨_,_,_,_,_,h,_⟩:=h;exact h.lt
theorem Ref.le {w:World}{M db:Nat}{bad:Bool}{left:List Int}(h:Ref Z w M db bad left):M<=w.heap.size:=by obtain⟨_,_,_,_,_,h,_⟩:=h;exact h.le
theorem mM.below {w w':World}{M db k m cap B:Nat}{bad:Bool}{ao:Option Addr}{xs:List Int}(h:mM Z w M db bad k ao m cap xs)(hb:Below B w w')(hB:w.heap.size<=B):mM Z w' M db bad k ao m cap xs :=
 ⟨(hb.block db (ex h.lt hB)).trans h.blk,h.off.only h.le (Only.of_below (hb.mono hB)),h.len,h.room,h.nil,h.at_,aF h.le hb.size,h.lim,h.z⟩
theorem Ref.below {w w':World}{M db:Nat}{bad:Bool}{left:List Int}(h:Ref Z w M db bad left)(hb:Below w.heap.size w w'):Ref Z w' M db bad left:=by
 obtain⟨k,ao,m,cap,xs,h,hl⟩:=h;exact⟨k,ao,m,cap,xs,h.below hb (aa _),hl⟩
theorem mM.mE {w:World}{M db k m cap:Nat}{bad:Bool}{ao:Option Addr}{xs:List Int}(h:mM Z w M db bad k ao m cap xs)(x:Bool):mM Z (w.setCell ⟨db,2,none⟩ (.bool x)) M db x k ao m cap xs :=
 ⟨br (i:=2) h.blk (.bool x),h.off.only h.le (Only.set _ _ _ _),h.len,h.room,h.nil,h.at_,by simpa using h.le,h.lim,h.z⟩
theorem mM.setAt {w:World}{M db k m cap:Nat}{bad:Bool}{ao:Option Addr}{xs:List Int}(h:mM Z w M db bad k ao m cap xs)(q:Nat)(hq:q<=m):mM Z (w.setCell ⟨db,1,none⟩ (.int .i64 q)) M db bad q ao m cap xs :=
 ⟨br (i:=1) h.blk (.int .i64 q),h.off.only h.le (Only.set _ _ _ _),h.len,h.room,h.nil,hq,by simpa using h.le,h.lim,h.z⟩
theorem Ref.mE {w:World}{M db:Nat}{bad:Bool}{left:List Int}(h:Ref Z w M db bad left)(x:Bool):Ref Z (w.setCell ⟨db,2,none⟩ (.bool x)) M db x left:=by
 obtain⟨k,ao,m,cap,xs,h,hl⟩:=h;exact⟨k,ao,m,cap,xs,h.mE x,hl⟩
theorem mD.other {w:World}{M rb g i:Nat}{ao:Option Addr}{xs:List Int}(h:mD w M rb ao xs)(hg:M<=g)(v:Value):mD (w.setCell ⟨g,i,none⟩ v) M rb ao xs:=by
 rcases h with h0|⟨b,off,h1,h2,h4,h3⟩
 · exact Or.inl h0
 exact Or.inr ⟨b,off,h1,h2,h4,λ j hj=>(wZ (heap_setCell_other _ _ _ _ (show b≠g by omega))).trans (h3 j hj)⟩
theorem Ref.other {w:World}{M db g i:Nat}{bad:Bool}{left:List Int}(h:Ref Z w M db bad left)(hg:M<=g)(hr:g≠db)(v:Value):Ref Z (w.setCell ⟨g,i,none⟩ v) M db bad left:=by
 obtain⟨k,ao,m,cap,xs,h,hl⟩:=h;exact⟨k,ao,m,cap,xs,⟨(heap_setCell_other _ _ _ _ (Ne.symm hr)).trans h.blk,h.off.other hg v,h.len,h.room,h.nil,h.at_,by simpa using h.le,h.lim,h.z⟩,hl⟩
theorem Ref.grown {w w':World}{M db:Nat}{bad:Bool}{left:List Int}{row:Option Nat}(h:Ref Z w M db bad left)(hg:w.grownBy w' row)(hr:∀g,row=some g->M<=g/\g≠db):Ref Z w' M db bad left:=by
 obtain⟨k,ao,m,cap,xs,h,hl⟩:=h;refine⟨k,ao,m,cap,xs,⟨(hg.block db h.lt (λ e=>(hr db e.symm).2 rfl)).trans h.blk,?_,h.len,h.room,h.nil,h.at_,aF h.le hg.size,h.lim,h.z⟩,hl⟩;rcases h.off with h0|⟨b,off,h1,h2,h4,h3⟩
 · exact Or.inl h0
 exact Or.inr ⟨b,off,h1,h2,h4,λ j hj=>(wZ (hg.block b (by have:=h.le;omega) (λ e=>by have:=(hr b e.symm).1;omega))).trans (h3 j hj)⟩
theorem Ref.oR {w:World}{M db:Nat}{bad:Bool}{left:List Int}(h:Ref Z w M db bad left):w.cell? ⟨db,2,none⟩=some (.bool bad)/\w.frozen? ⟨db,2,none⟩=false:=by
 obtain⟨k,ao,m,cap,xs,h,hl⟩:=h;exact⟨ab h.blk 2,aO h.blk 2⟩
theorem mD.sub {w:World}{M db:Nat}{ao:Option Addr}{xs:List Int}{cap:Nat}(l h:Nat)(hx:mD w M db ao xs)(hc:xs.length<=cap):BytesIn w M (gf ao cap l 1) ((xs.drop l).take h):=BytesIn.sub l h hx.in hc
theorem ON {w:World}{o:Oper}{a:Act}{K:Act->World->Prop}{Q:Exit->Act->World->Prop}(s x:Operand)
  (ho:o.op=.call { callee:=.builtin .append,args:=#[s,x],argTypes:=#[25,25] })
  (base:Nat) (v:Value) (l:List Int) (m:Nat) (hm:l.length=m) (hs:a.eval s=v) (az:w.ownsRow base 5 1 v m (l.map bv))
  (ao:Option Addr) (n cap:Nat) (xs:List Int) (hn:xs.length=n) (hx:a.eval x=.slice ao n cap) (B:Nat) (gq:BytesIn w B ao xs) (bm:ao=none->cap=0) (fV:m+n<=140737488351232) (nw:base<=w.heap.size)
  (h:∀v' w',w'.ownsRow base 5 1 v' (m+n) ((l++xs).map bv)->w.grownBy w' v.ownBlock->K (a.put o.dst v') w') :
  Oper.wp prog o a w K Q:=by
 obtain⟨i0,hi,bo,bp,aU⟩:=info_parts infoByte;subst hm hn;cases ao with
 | none =>
  have kv:xs=[]:=by
   rcases gq with h|⟨b,off,h1,_⟩
   · exact h
   cases h1
  subst kv;rw[bm rfl,List.length_nil]at hx;have hr:=run_append_owned_none (P:=prog) (w:=w) base 25 o.type 5 i0 1 hJ hi v l.length _ az;unfold Oper.wp execOp;simp only[ho,resolve,invoke,builtin,Sem.run_bind,Sem.run_pure,Result.andThen_ok,List.map_toArray,List.map_cons,List.map_nil,hs,hx,hr];exact h v w (by simpa using az) (World.grownBy.refl _ _)
 | some ad =>
  obtain⟨v',w',hr,h2,h3,_⟩:=run_append_own_at (P:=prog) w base 25 o.type 5 i0 (.int .u8 0) 1 1 hJ hi bo bp aU rfl (by decide) v l.length _ az ad xs.length cap (xs.map bv) (by simp) (λ j u hu=>ze gq (aj _ _) rfl hu) (r7 _) (by unfold maxLen;omega) (by omega) nw;unfold Oper.wp execOp;simp only[ho,resolve,invoke,builtin,Sem.run_bind,Sem.run_pure,Result.andThen_ok,List.map_toArray,List.map_cons,List.map_nil,hs,hx,hr];exact h v' w' (by rw[List.map_append];exact h2) h3
def Y6 (Z:ks) (M db:Nat) (r:List Int×Bool×List Int) (w:World) (e:Ending) (w':World):Prop :=
 ∃a n c,r.1.length=n/\e=.returned (.slice a n c)/\w'.ownsRow w.heap.size 5 1 (.slice a n c) n (r.1.map bv)/\Ref Z w' M db r.2.1 r.2.2/\Only db w w'
theorem OO (M db n:Nat)(bad:Bool)(left:List Int)(w:World)(h:Ref Z w M db bad left)(hn:n<=1099511627776) :
  Calls prog 149 #[.pointer (some ⟨db,0,none⟩),.int .i64 n] w (Y6 Z M db (bw n bad left) w):=by
 obtain⟨k,ao,m,cap,xs,h,rfl⟩:=h;have d0:w.cell? ⟨db,0,none⟩=some (.slice ao m cap):=ab h.blk 0;have d1:w.cell? ⟨db,1,none⟩=some (.int .i64 k):=ab h.blk 1;have d2:w.cell? ⟨db,2,none⟩=some (.bool bad):=ab h.blk 2;have f1:w.frozen? ⟨db,1,none⟩=false:=aO h.blk 1;have f2:w.frozen? ⟨db,2,none⟩=false:=aO h.blk 2;have hkm:=h.at_;have fV:=h.lim;have hld:(xs.drop k).length=m-k:=by rw[List.length_drop,h.len]
 have H:=Hd h;cases bad with
 | true =>
  have hs:bw n true (xs.drop k)=([],true,xs.drop k):=if_pos (Or.inl rfl);rw[hs];clear h hs hld;go_enter func149,ntmps149
  go_wp2_with fail
  go_quiet (fail)
  go_wp2_with fail
  go_ret;have hD:=λ q=>H.out.below (below_drewN (aj w.heap.size w) q) (aa _)
  exact⟨none,0,0,rfl,rfl,iK _ _ _ _,⟨k,ao,m,cap,xs,(hD _).mE true,rfl⟩,⟨by simp,λ b _ hn=>heap_setCell_other _ _ _ _ hn,rfl,rfl,rfl⟩⟩
 | false =>
  by_cases ae:m<k+n
  ·
   have hs:bw n false (xs.drop k)=([],true,xs.drop k):=if_pos (Or.inr (by rw[hld];omega));rw[hs];have i1:(m:Int)-k<n:=by omega
   clear h hs hld;go_enter func149,ntmps149
   go_wp2_with fail
   go_quiet (fail)
   go_wp2_with fail
   go_ret;have hD:=λ q=>H.out.below (below_drewN (aj w.heap.size w) q) (aa _)
   exact⟨none,0,0,rfl,rfl,iK _ _ _ _,⟨k,ao,m,cap,xs,(hD _).mE true,rfl⟩,⟨by simp,λ b _ hn=>heap_setCell_other _ _ _ _ hn,rfl,rfl,rfl⟩⟩
  have hs:bw n false (xs.drop k)=((xs.drop k).take n,false,(xs.drop k).drop n):=if_neg (by rw[hld];simp;omega);rw[hs];have i1:(n:Int)<=(m:Int)-k:=by omega
  have i2:decide ((m:Int)-k<n)=false:=by simpa using i1
  have i3:(k:Int)+n<=140737488351232:=by omega
  have i4:IntKind.i64.wrap ((k:Int)+n)=(k:Int)+n:=jU _ (by omega);have Ba:=h.room;have Ch:((xs.drop k).take n).length=n:=by rw[List.length_take,hld];omega
  have fO:∀w',(Instr.sliceAt 25 (.slice ao m cap) (some (.int .i64 (k:Int))) (some (.int .i64 ((k:Int)+n))) none).run prog w'=.ok (.slice (gf ao cap k 1) n (cap-k)) w':=λ w'=>by
   have:=Li vp sizeByte ao m cap k (k+n) (by omega) (by omega) .i64 .i64 (k:Int) ((k:Int)+n) rfl (by omega) w';rwa [show k+n-k=n by omega]at this
  have hdb:=h.lt;have HD:=Hd (show ∀w',Below w.heap.size w w'->w'.cell? ⟨db,0,none⟩=some (.slice ao m cap)/\w'.cell? ⟨db,1,none⟩=some (.int .i64 k)from λ w' hb=>⟨(hb.cell (p:=⟨db,0,none⟩) hdb).trans d0,(hb.cell (p:=⟨db,1,none⟩) hdb).trans d1⟩);have cY:=Hd Ch;clear h hs hld ae Ch;go_enter func149,ntmps149
  go_wp2_with fail
  go_quiet (fail)
  go_wp2_with fail
  clear d0 d1 d2 f1 f2;refine nX (λ w'=>Below w.heap.size w w') (by kernel_rfl) ((below_drewN (aj _ _) _).drew) ?_;intro cu
  (first|(refine tkn 1 rfl ?_)|(refine aT (v:=?_) 1 rfl ?_ ?_;rotate_left;focus(intro wS ah;obtain⟨e0,e1⟩:=HD.out wS ah;go_simp;first|done|with_reducible rfl)))
  (try simp only[Act.put,ssa,aq,ar])
  (first|(refine tkn 2 rfl ?_)|(refine aT (v:=?_) 2 rfl ?_ ?_;rotate_left;focus(intro wS ah;obtain⟨e0,e1⟩:=HD.out wS ah;go_simp;first|done|with_reducible rfl)))
  (try simp only[Act.put,ssa,aq,ar])
  (first|(refine tkn 3 rfl ?_)|(refine aT (v:=?_) 3 rfl ?_ ?_;rotate_left;focus(intro wS ah;obtain⟨e0,e1⟩:=HD.out wS ah;go_simp;first|done|with_reducible rfl)))
  (try simp only[Act.put,ssa,aq,ar])
  (first|(refine tkn 4 rfl ?_)|(refine aT (v:=?_) 4 rfl ?_ ?_;rotate_left;focus(intro wS ah;obtain⟨e0,e1⟩:=HD.out wS ah;go_simp;first|done|with_reducible rfl)))
  (try simp only[Act.put,ssa,aq,ar])
  (first|(refine tkn 5 rfl ?_)|(refine aT (v:=?_) 5 rfl ?_ ?_;rotate_left;focus(intro wS ah;obtain⟨e0,e1⟩:=HD.out wS ah;go_simp;first|done|with_reducible rfl)))
  (try simp only[Act.put,ssa,aq,ar])
  (first|(refine tkn 6 rfl ?_)|(refine aT (v:=?_) 6 rfl ?_ ?_;rotate_left;focus(intro wS ah;obtain⟨e0,e1⟩:=HD.out wS ah;go_simp;first|done|with_reducible rfl)))
  (try simp only[Act.put,ssa,aq,ar])
  (first|(refine tkn 7 rfl ?_)|(refine aT (v:=?_) 7 rfl ?_ ?_;rotate_left;focus(intro wS ah;obtain⟨e0,e1⟩:=HD.out wS ah;go_simp;first|done|with_reducible rfl)))
  (try simp only[Act.put,ssa,aq,ar])
  (first|(refine tkn 8 rfl ?_)|(refine aT (v:=?_) 8 rfl ?_ ?_;rotate_left;focus(intro wS ah;obtain⟨e0,e1⟩:=HD.out wS ah;go_simp;first|done|with_reducible rfl)))
  (try simp only[Act.put,ssa,aq,ar])
  (first|(refine tkn 9 rfl ?_)|(refine aT (v:=?_) 9 rfl ?_ ?_;rotate_left;focus(intro wS ah;obtain⟨e0,e1⟩:=HD.out wS ah;go_simp;first|done|with_reducible rfl)))
  (try simp only[Act.put,ssa,aq,ar])
  (first|(refine tkn 10 rfl ?_)|(refine aT (v:=?_) 10 rfl ?_ ?_;rotate_left;focus(intro wS ah;obtain⟨e0,e1⟩:=HD.out wS ah;go_simp;first|done|with_reducible rfl)))
  (try simp only[Act.put,ssa,aq,ar])
  (first|(refine tkn 11 rfl ?_)|(refine aT (v:=?_) 11 rfl ?_ ?_;rotate_left;focus(intro wS ah;obtain⟨e0,e1⟩:=HD.out wS ah;go_simp;first|done|with_reducible rfl)))
  (try simp only[Act.put,ssa,aq,ar])
  (first|(refine tkn 12 rfl ?_)|(refine aT (v:=?_) 12 rfl ?_ ?_;rotate_left;focus(intro wS ah;obtain⟨e0,e1⟩:=HD.out wS ah;go_simp;first|done|with_reducible rfl)))
  (try simp only[Act.put,ssa,aq,ar])
  (first|(refine tkn 13 rfl ?_)|(refine aT (v:=?_) 13 rfl ?_ ?_;rotate_left;focus(intro wS ah;obtain⟨e0,e1⟩:=HD.out wS ah;go_simp;first|done|with_reducible rfl)))
  (try simp only[Act.put,ssa,aq,ar])
  (first|(refine tkn 14 rfl ?_)|(refine aT (v:=?_) 14 rfl ?_ ?_;rotate_left;focus(intro wS ah;obtain⟨e0,e1⟩:=HD.out wS ah;go_simp;first|done|with_reducible rfl)))
  (try simp only[Act.put,ssa,aq,ar])
  (first|(refine tkn 15 rfl ?_)|(refine aT (v:=?_) 15 rfl ?_ ?_;rotate_left;focus(intro wS ah;obtain⟨e0,e1⟩:=HD.out wS ah;go_simp;first|done|with_reducible rfl)))
  (try simp only[Act.put,ssa,aq,ar])
  refine dL 0 rfl (by kernel_rfl) (by rfl) (λ K hK=>?_);go_simp
  (have hS1:=Below.alloc (show Below w.heap.size w _ from cu) (by simp) (Obj.cells #[] 5))
  refine hK.out _ _ (by assumption) ?_;clear hK K
  (try simp only[Act.put,ssa,aq,ar])
  refine dL 16 rfl (by kernel_rfl) (by rfl) (λ K hK=>?_);skip
  (refine ON (.tmp 27) (.tmp 42) rfl w.heap.size _ [] 0 rfl rfl (oH _ #[] 0 (by simp) (by unfold maxLen;omega) rfl) (gf ao cap k 1) n (cap-k) ((xs.drop k).take n) cY.out rfl M ((H.out.off.sub k n (by rw[H.out.len];exact Ba)).below hS1 H.out.le) (λ e=>by have:=H.out.nil (t8 e);omega) (by omega) (by simp) ?_;intro v5 w5 oB pZ;rw[Nat.zero_add,List.nil_append]at oB;have jR:Below w.heap.size w w5:=hS1.grown pZ (by simp) (λ b e=>by cases e;simp))
  refine hK.out _ _ (by assumption) ?_;clear hK K
  (try simp only[Act.put,ssa,aq,ar])
  (first|(refine tkn 17 rfl ?_)|(refine aT (v:=?_) 17 rfl ?_ ?_;rotate_left;focus(intro wS ah;obtain⟨e0,e1⟩:=HD.out wS ah;go_simp;first|done|with_reducible rfl)))
  (try simp only[Act.put,ssa,aq,ar])
  refine wpAnyH_done (by kernel_rfl) ?_ _;clear fO i4;obtain⟨a5,c5,hv5⟩:=jz oB;subst hv5;have e1:=(HD.out w5 jR).2;have g1:w5.frozen? ⟨db,1,none⟩=false:=aO ((jR.block db hdb).trans H.out.blk) 1;have ri:=Hd oB;clear pZ oB;go_wp2_with fail
  go_ret;have hR:=(H.out.below jR (aa _)).setAt (k+n) (by omega);have e:((k+n:Nat):Int)=(k:Int)+n:=by omega
  rw[e]at hR;have az:=rK ri.out (Only.set db w5 1 (.int .i64 ((k:Int)+n))) hdb;exact⟨a5,n,c5,cY.out,rfl,az,⟨k+n,ao,m,cap,xs,hR,by rw[List.drop_drop]⟩,(Only.of_below jR).trans (Only.set _ _ _ _)⟩
theorem Y7 (V x:Int)(hV:0<=V)(kB:V<72057594037927936)(h0:0<=x)(h1:x<256):bits .or .u64 (V*256) x=V*256+x:=by
 obtain⟨y,rfl⟩:∃y:Nat,x=y:=⟨x.toNat,by omega⟩;obtain⟨m,rfl⟩:∃m:Nat,V=m:=⟨V.toNat,by omega⟩
 have g1:(BitVec.ofInt 64 ((m:Int)*256)).toNat=m*256:=by
  rw[show (m:Int)*256=((m*256:Nat):Int) by omega,BitVec.ofInt_natCast,BitVec.toNat_ofNat];exact Nat.mod_eq_of_lt (by omega)
 have g2:(BitVec.ofInt 64 (y:Int)).toNat=y:=by
  rw[BitVec.ofInt_natCast,BitVec.toNat_ofNat];exact Nat.mod_eq_of_lt (by omega)
 show IntKind.u64.wrap ((BitVec.ofInt 64 ((m:Int)*256) ||| BitVec.ofInt 64 (y:Int)).toNat:Int)=_;rw[BitVec.toNat_or,g1,g2];have h:=Nat.two_pow_add_eq_or_of_lt (i:=8) (b:=y) (by omega) m;have e:2 ^ 8*m=m*256:=by omega
 rw[e]at h;rw[<-h];unfold IntKind.wrap;simp[IntKind.signed,IntKind.bits];omega
def Ip (Z:ks) (M db:Nat) (v:Int) (bad:Bool) (left:List Int) (w:World) (e:Ending) (w':World):Prop :=
 e=.returned (.int .u64 v)/\Ref Z w' M db bad left/\Only db w w'
theorem Cq (M db n:Nat)(bad:Bool)(left:List Int)(w:World)(h:Ref Z w M db bad left)(hw:BytesWf left)(hn:n<=8) :
  Calls prog 92 #[.pointer (some ⟨db,0,none⟩),.int .i64 n] w (Ip Z M db (cC (bw n bad left).1) (bw n bad left).2.1 (bw n bad left).2.2 w):=by
 have H:=Hd h;obtain⟨⟨got,zn,Bh⟩,j8⟩:∃r,bw n bad left=r:=⟨_,rfl⟩;have cN:=mr (n:=n) (bad:=bad) hw;have ny:=OO M db n bad left w h (by omega);rw[j8]at cN ny ⊢;dsimp only at cN ⊢;obtain⟨g,hg⟩:∃g,got.length=g:=⟨_,rfl⟩;have hg8:g<=8:=by have:=cN.2.2.1;omega
 have HB:=Hd ny;have dE:=Hd cN.1;have HG:=Hd hg;obtain⟨R,hR⟩:∃R,cC got=R:=⟨_,rfl⟩;rw[hR];have Y8:=Hd hR;clear h j8 cN hw ny hg hR;go_enter func92,ntmps92
 go_wp2_with fail
 refine HB.out.mono ?_;rintro e w1 ⟨a,n1,c,hn1,rfl,az,hr,hon⟩;have e1:n1=g:=by have:=HG.out;dsimp only at hn1;omega
 subst e1;have HO:=Hd (Ls HG.out az);have HR:=Hd hr;have uc:=Hd hon;clear az hr hon hn1 HB;go_wp2_with fail
 go_loopw [6,7] (λ v i wr=>∃k:Nat,k<=n1/\i=.int .i64 k/\v=.int .u64 (cC (got.take k))/\wr=w1) (λ _ i _=>n1-(intOf i).toNat)
 exact⟨0,by omega,rfl,by rfl,rfl⟩
 obtain⟨k,hk,rfl,rfl,rfl⟩:=hrel;by_cases ae:k<n1
 ·
  rcases HO.out with h0|⟨b,off,bm,hb,jM⟩
  · have:=HG.out;rw[h0]at this;simp at this;omega
  have aQ:k<got.length:=by rw[HG.out];exact ae
  have c0:=jM k aQ;have hx:=dE.out (got.getD k 0) (by simp[List.getD,bu aQ])
  have hsn:cC (got.take (k+1))=cC (got.take k)*256+got.getD k 0:=by
   rw[iJ aQ,Bf];simp[List.getD,bu aQ]
  generalize got.getD k 0=x at c0 hx hsn;have mN:=tA (dE.out.take k) (n:=7) (by rw[List.length_take];omega);obtain⟨V,hV⟩:∃V,cC (got.take k)=V:=⟨_,rfl⟩;rw[hV]at hsn mN ⊢;have Bi:=Hd hsn;obtain⟨Y9,hV1⟩:=mN;have kB:V<72057594037927936:=hV1;have i1:(k:Int)<n1:=by omega
  have hwr:IntKind.u64.wrap (V*256)=V*256:=by
   unfold IntKind.wrap;simp[IntKind.signed,IntKind.bits];omega
  subst bm;obtain⟨m6,nx⟩:=hx;have hor:=Y7 V x Y9 kB m6 nx;clear jM hsn hV hV1;go_wp2_with fail
  go_roundw
  case rel =>
   refine⟨k+1,by omega,by go_num,?_,by trivial⟩;rw[Bi.out];first|done|(rw[hwr,hor])|(rw[hor])|(simp[hor,hwr])
  simp[intOf];omega
 obtain rfl:k=n1:=by omega
 have hf:got.take k=got:=fE (by rw[HG.out];exact aa _);rw[hf,Y8.out];clear hf;go_wp2_with fail
 go_ret;exact⟨rfl,HR.out,uc.out⟩
theorem Iq (M db:Nat)(bad:Bool)(left:List Int)(v:Int)(b2:Bool)(l2:List Int)(w:World)(hs:di bad left=(v,b2,l2))(h:Ref Z w M db bad left)(hw:BytesWf left) :
  Calls prog 93 #[.pointer (some ⟨db,0,none⟩)] w λ e w'=>e=.returned (.int .i64 v)/\Ref Z w' M db b2 l2/\Only db w w':=by
 have lD:=Cq M db 4 bad left w h hw (by omega);have hb:=tA (mr (n:=4) (bad:=bad) hw).1 (mr (n:=4) (bad:=bad) hw).2.2.1;unfold di at hs;generalize bw 4 bad left=r at lD hb hs;obtain⟨got,b1,l1⟩:=r;dsimp only at lD hb hs;obtain⟨N,hN⟩:∃N,cC got=N:=⟨_,rfl⟩;rw[hN]at lD hb hs;have dl:0<=N:=hb.1;have ba:N<4294967296:=hb.2;have HS:=Hd lD;clear lD hb hN h hw;by_cases hgt:65536<N
 ·
  have j1:(65536:Int)<N:=hgt;rw[if_pos (Or.inr hgt)]at hs;simp only[Prod.mk.injEq]at hs;obtain⟨rfl,rfl,rfl⟩:=hs;go_enter func93,ntmps93
  go_wp2_with fail
  refine HS.out.mono ?_;rintro e w1 ⟨rfl,hr,ho⟩;have e1:=hr.oR.1;have e2:=hr.oR.2;have ae:=hr.lt;have HR:=Hd hr;clear hr HS;go_wp2_with fail
  go_ret;exact⟨rfl,HR.out.mE true,ho.trans (Only.set _ _ _ _)⟩
 have j1:(N:Int)<=65536:=by omega
 have j2:decide ((65536:Int)<N)=false:=by simpa using j1
 have j3:IntKind.i64.wrap N=N:=jU _ (by omega);cases b1 with
 | true =>
  rw[if_pos (Or.inl rfl)]at hs;simp only[Prod.mk.injEq]at hs;obtain⟨rfl,rfl,rfl⟩:=hs;go_enter func93,ntmps93
  go_wp2_with fail
  refine HS.out.mono ?_;rintro e w1 ⟨rfl,hr,ho⟩;have e1:=hr.oR.1;have HR:=Hd hr;clear hr HS;go_wp2_with fail
  go_ret;exact⟨rfl,HR.out,ho⟩
 | false =>
  rw[if_neg (by simp;omega)]at hs;simp only[Prod.mk.injEq]at hs;obtain⟨rfl,rfl,rfl⟩:=hs;go_enter func93,ntmps93
  go_wp2_with fail
  refine HS.out.mono ?_;rintro e w1 ⟨rfl,hr,ho⟩;have e1:=hr.oR.1;have HR:=Hd hr;clear hr HS;go_wp2_with fail
  go_ret;exact⟨rfl,HR.out,ho⟩
theorem sG (M db:Nat)(bad:Bool)(left:List Int)(v:Int)(b2:Bool)(l2:List Int)(w:World)(hs:bc bad left=(v,b2,l2))(h:Ref Z w M db bad left)(hw:BytesWf left) :
  Calls prog 53 #[.pointer (some ⟨db,0,none⟩)] w λ e w'=>e=.returned (.int .i64 v)/\Ref Z w' M db b2 l2/\Only db w w':=by
 have lD:=Cq M db 8 bad left w h hw (by omega);unfold bc at hs;simp only[Prod.mk.injEq]at hs;obtain⟨h1,h2⟩:=hs;rw[h2]at lD;have hb:=tA (mr (n:=8) (bad:=bad) hw).1 (mr (n:=8) (bad:=bad) hw).2.2.1;generalize cC (bw 8 bad left).1=N at lD h1 hb;have HS:=Hd lD;clear lD h2 h hw hb;go_enter func53,ntmps53
 go_wp2_with fail
 refine HS.out.mono ?_;rintro e w1 ⟨rfl,hr,ho⟩;have HR:=Hd hr;clear hr HS;go_wp2_with fail
 go_ret;exact⟨rfl,HR.out,ho⟩
theorem Za {w:World}{base n c:Nat}{a:Option Addr}{l:List Int}(hn:l.length=n)(h:w.ownsRow base 5 1 (.slice a n c) n (l.map bv)):(convert 25 9 (.slice a n c)).run prog w=.ok (.string (vu l)) w:=by
 subst hn;refine Ln (M:=w.heap.size) (rb:=w.heap.size) ?_ (iW h);rcases vm h with h0|⟨b,off,h1,h2,h3⟩
 · exact Or.inl h0
 exact Or.inr ⟨b,off,h1,h2,by omega,h3⟩
theorem OP (M db:Nat)(bad:Bool)(left:List Int)(v:ByteArray)(b2:Bool)(l2:List Int)(w:World)(hs:iY bad left=(v,b2,l2))(h:Ref Z w M db bad left)(hw:BytesWf left) :
  Calls prog 128 #[.pointer (some ⟨db,0,none⟩)] w λ e w'=>e=.returned (.string v)/\Ref Z w' M db b2 l2/\Only db w w':=by
 have jj:=pF (bad:=bad) hw;obtain⟨⟨n0,b0,l0⟩,hc⟩:∃r,di bad left=r:=⟨_,rfl⟩;have HC:=Hd (Iq M db bad left n0 b0 l0 w hc h hw);unfold iY at hs;rw[hc]at hs jj;dsimp only at hs jj;obtain⟨N,rfl⟩:∃N:Nat,n0=N:=⟨n0.toNat,by omega⟩;rw[Int.toNat_natCast]at hs;simp only[Prod.mk.injEq]at hs;obtain⟨h1,h2,h3⟩:=hs;have HB:=Hd (λ w1 (hr:Ref Z w1 M db b0 l0)=>OO M db N b0 l0 w1 hr (by omega));generalize bw N b0 l0=r at HB h1 h2 h3;obtain⟨got,b1,l1⟩:=r;dsimp only at h1 h2 h3;subst h1 h2 h3;clear hc h hw jj;go_enter func128,ntmps128
 go_wp2_with fail
 refine HC.out.mono ?_;rintro e w1 ⟨rfl,hr,ho⟩;have R1:=Hd hr;have O1:=Hd ho;clear hr ho HC;go_wp2_with fail
 refine(HB.out w1 R1.out).mono ?_;rintro e w2 ⟨a,n,c,hn,rfl,az,hr,ho⟩;have hcv:=Za hn az;have R2:=Hd hr;have O2:=Hd (O1.out.trans ho);clear hr ho HB az hn R1 O1;go_wp2_with fail
 go_ret;exact⟨rfl,R2.out,O2.out⟩
theorem Zb (M db:Nat)(bad:Bool)(left:List Int)(v:Va)(b9:Bool)(l9:List Int)(w:World)(hs:fF bad left=(v,b9,l9))(h:Ref Z w M db bad left)(hw:BytesWf left) :
  Calls prog 193 #[.pointer (some ⟨db,0,none⟩)] w λ e w'=>e=.returned v.val/\Ref Z w' M db b9 l9/\Only db w w':=by
 have hdb:=h.lt;have hM:=h.le;obtain⟨R,hR⟩:∃R,((v,b9,l9):Va×Bool×List Int)=R:=⟨_,rfl⟩;have e1:v=R.1:=by rw[<-hR]
 have e2:b9=R.2.1:=by rw[<-hR]
 have e3:l9=R.2.2:=by rw[<-hR]
 rw[hR]at hs;rw[e1,e2,e3];clear hR e1 e2 e3;have lD:=λ w1 (hr:Ref Z w1 M db bad left)=>Cq M db 1 bad left w1 hr hw (by omega)
 have Aa:=mr (n:=1) (bad:=bad) hw;unfold fF at hs;dsimp only at hs;generalize bw 1 bad left=r at lD Aa hs;obtain⟨got,b1,l1⟩:=r;dsimp only at lD Aa hs;have lC:=tA Aa.1 Aa.2.2.1;generalize cC got=kd at lD hs lC;have dm:0<=kd:=lC.1;have dH:kd<256:=lC.2;have Ca:=Hd lD;have xK:=Hd Aa.2.1;have HS:=Hd hs
 have hu8:IntKind.u8.wrap kd=kd:=by
  unfold IntKind.wrap;simp[IntKind.signed,IntKind.bits];omega
 have hA:=(aj w.heap.size w).alloc (aa _) (.cells #[.int .u8 0,.int .i64 0,.string ⟨#[]⟩] 50);have R0:=Hd (h.below hA);have O0:=Hd ((Only.refl db w).alloc (.cells #[.int .u8 0,.int .i64 0,.string ⟨#[]⟩] 50));have Z0:=Hd (heap_alloc_new w (.cells #[.int .u8 0,.int .i64 0,.string ⟨#[]⟩] 50));have bo:w.heap.size+1<=(w.alloc (.cells #[.int .u8 0,.int .i64 0,.string ⟨#[]⟩] 50)).heap.size:=by simp
 clear h hA lD Aa hs lC hw;go_enter func193,ntmps193
 go_wp2_with fail
 generalize w.alloc (.cells #[.int .u8 0,.int .i64 0,.string ⟨#[]⟩] 50)=w0 at R0 O0 Z0 bo ⊢;refine(Ca.out w0 R0.out).mono ?_;rintro e w1 ⟨rfl,hr,ho⟩;have R1:=Hd hr;have O1:=Hd (O0.out.trans ho);have bp:w.heap.size+1<=w1.heap.size:=aF bo ho.1;have Z1:=Hd ((ho.2 w.heap.size (by omega) (by omega)).trans Z0.out);clear hr ho R0 O0 Z0 Ca;by_cases pW:kd=1
 ·
  subst pW;have cu:=HS.out;rw[if_pos (by trivial)]at cu;obtain⟨⟨x,b2,l2⟩,hx⟩:∃r,bc b1 l1=r:=⟨_,rfl⟩;have nx:IntKind.i64.wrap (cC (bw 8 b1 l1).1)=x:=congrArg Prod.fst hx;have eR:(bw 8 b1 l1).2=(b2,l2):=congrArg Prod.snd hx;rw[nx,eR]at cu;dsimp only at cu;have HX:=Hd hx;clear HS;have HS:=Hd cu;clear cu hx nx eR;have hA:=(aj w1.heap.size w1).alloc (aa _) (.cells #[.int .u8 1,.int .i64 0,.string ⟨#[]⟩] 50);have R2:=Hd (R1.out.below hA);have O2:=Hd (O1.out.alloc (.cells #[.int .u8 1,.int .i64 0,.string ⟨#[]⟩] 50));have Z2:=Hd ((hA.block w.heap.size (by omega)).trans Z1.out);have G2:=Hd (heap_alloc_new w1 (.cells #[.int .u8 1,.int .i64 0,.string ⟨#[]⟩] 50));have aU:w1.heap.size+1<=(w1.alloc (.cells #[.int .u8 1,.int .i64 0,.string ⟨#[]⟩] 50)).heap.size:=by simp
  clear hA R1 O1 Z1;go_wp2_with fail
  generalize w1.alloc (.cells #[.int .u8 1,.int .i64 0,.string ⟨#[]⟩] 50)=w2 at R2 O2 Z2 G2 aU ⊢;refine(sG M db b1 l1 x b2 l2 w2 HX.out R2.out xK.out).mono ?_;rintro e w3 ⟨rfl,hr,ho⟩;have R3:=Hd hr;have O3:=Hd (O2.out.trans ho);have dN:w1.heap.size+1<=w3.heap.size:=aF aU ho.1;have Z3:=Hd ((ho.2 w.heap.size (by omega) (by omega)).trans Z2.out);have G3:=Hd ((ho.2 w1.heap.size (by omega) (by omega)).trans G2.out);clear hr ho R2 O2 Z2 G2;have e0:w3.cell? ⟨w1.heap.size,0,none⟩=some (.int .u8 1):=ab G3.out 0;have e1:w3.cell? ⟨w1.heap.size,1,none⟩=some (.int .i64 0):=ab G3.out 1;have e2:w3.cell? ⟨w1.heap.size,2,none⟩=some (.string ⟨#[]⟩):=ab G3.out 2;have f1:w3.frozen? ⟨w1.heap.size,1,none⟩=false:=aO G3.out 1;have g0:w3.frozen? ⟨w.heap.size,0,none⟩=false:=aO Z3.out 0;have g1:w3.frozen? ⟨w.heap.size,1,none⟩=false:=aO Z3.out 1;have g2:w3.frozen? ⟨w.heap.size,2,none⟩=false:=aO Z3.out 2;have hbc:∀u,(w3.setCell ⟨w1.heap.size,1,none⟩ u).cell? ⟨db,2,none⟩=some (.bool b2):=λ u=>(R3.out.other (g:=w1.heap.size) (i:=1) (by omega) (by omega) u).oR.1
  have z0:∀u,(w3.setCell ⟨w1.heap.size,1,none⟩ u).cell? ⟨w.heap.size,0,none⟩=some (.int .u8 0):=λ u=>ab ((heap_setCell_other _ _ _ _ (show w.heap.size≠w1.heap.size by omega)).trans Z3.out) 0
  have z1:∀u,(w3.setCell ⟨w1.heap.size,1,none⟩ u).cell? ⟨w.heap.size,1,none⟩=some (.int .i64 0):=λ u=>ab ((heap_setCell_other _ _ _ _ (show w.heap.size≠w1.heap.size by omega)).trans Z3.out) 1
  have z2:∀u,(w3.setCell ⟨w1.heap.size,1,none⟩ u).cell? ⟨w.heap.size,2,none⟩=some (.string ⟨#[]⟩):=λ u=>ab ((heap_setCell_other _ _ _ _ (show w.heap.size≠w1.heap.size by omega)).trans Z3.out) 2
  cases b2 with
  | true =>
   go_wp2_with fail
   have q:((((w3.setCell ⟨w1.heap.size,1,none⟩ (.int .i64 x)).setCell ⟨w.heap.size,0,none⟩ (.int .u8 0)).setCell ⟨w.heap.size,1,none⟩ (.int .i64 0)).setCell ⟨w.heap.size,2,none⟩ (.string ⟨#[]⟩)).heap[w.heap.size]?=some (.cells #[.int .u8 0,.int .i64 0,.string ⟨#[]⟩] 50 (0,0)):=(br (i:=2) (br (i:=1) (br (i:=0) ((heap_setCell_other _ _ _ _ (show w.heap.size≠w1.heap.size by omega)).trans Z3.out) (.int .u8 0)) (.int .i64 0)) (.string ⟨#[]⟩));have r_:Ref Z ((((w3.setCell ⟨w1.heap.size,1,none⟩ (.int .i64 x)).setCell ⟨w.heap.size,0,none⟩ (.int .u8 0)).setCell ⟨w.heap.size,1,none⟩ (.int .i64 0)).setCell ⟨w.heap.size,2,none⟩ (.string ⟨#[]⟩)) M db _ l2:=((((R3.out.other (g:=w1.heap.size) (i:=1) (by omega) (by omega) (.int .i64 x)).other (g:=w.heap.size) (i:=0) hM (by omega) (.int .u8 0)).other (g:=w.heap.size) (i:=1) hM (by omega) (.int .i64 0)).other (g:=w.heap.size) (i:=2) hM (by omega) (.string ⟨#[]⟩));have o_:Only db w ((((w3.setCell ⟨w1.heap.size,1,none⟩ (.int .i64 x)).setCell ⟨w.heap.size,0,none⟩ (.int .u8 0)).setCell ⟨w.heap.size,1,none⟩ (.int .i64 0)).setCell ⟨w.heap.size,2,none⟩ (.string ⟨#[]⟩)):=((((O3.out.new (g:=w1.heap.size) (i:=1) (by omega) (.int .i64 x)).new (g:=w.heap.size) (i:=0) (aa _) (.int .u8 0)).new (g:=w.heap.size) (i:=1) (aa _) (.int .i64 0)).new (g:=w.heap.size) (i:=2) (aa _) (.string ⟨#[]⟩));generalize ((((w3.setCell ⟨w1.heap.size,1,none⟩ (.int .i64 x)).setCell ⟨w.heap.size,0,none⟩ (.int .u8 0)).setCell ⟨w.heap.size,1,none⟩ (.int .i64 0)).setCell ⟨w.heap.size,2,none⟩ (.string ⟨#[]⟩))=w9 at q r_ o_ ⊢;have d0:w9.cell? ⟨w.heap.size,0,none⟩=some (.int .u8 0):=ab q 0;have d1:w9.cell? ⟨w.heap.size,1,none⟩=some (.int .i64 0):=ab q 1;have d2:w9.cell? ⟨w.heap.size,2,none⟩=some (.string ⟨#[]⟩):=ab q 2;have hS:=HS.out;try simp only[if_true,if_false,Bool.false_eq_true,reduceIte]at hS
   subst hS;exact bodyPost_ret (v:=.agg #[.int .u8 0,.int .i64 0,.string ⟨#[]⟩]) (by simp[results,results193,go_sem,d0,d1,d2]) rfl ⟨rfl,r_,o_⟩
  | false =>
   go_wp2_with fail
   have q:((((w3.setCell ⟨w1.heap.size,1,none⟩ (.int .i64 x)).setCell ⟨w.heap.size,0,none⟩ (.int .u8 1)).setCell ⟨w.heap.size,1,none⟩ (.int .i64 x)).setCell ⟨w.heap.size,2,none⟩ (.string ⟨#[]⟩)).heap[w.heap.size]?=some (.cells #[.int .u8 1,.int .i64 x,.string ⟨#[]⟩] 50 (0,0)):=(br (i:=2) (br (i:=1) (br (i:=0) ((heap_setCell_other _ _ _ _ (show w.heap.size≠w1.heap.size by omega)).trans Z3.out) (.int .u8 1)) (.int .i64 x)) (.string ⟨#[]⟩));have r_:Ref Z ((((w3.setCell ⟨w1.heap.size,1,none⟩ (.int .i64 x)).setCell ⟨w.heap.size,0,none⟩ (.int .u8 1)).setCell ⟨w.heap.size,1,none⟩ (.int .i64 x)).setCell ⟨w.heap.size,2,none⟩ (.string ⟨#[]⟩)) M db _ l2:=((((R3.out.other (g:=w1.heap.size) (i:=1) (by omega) (by omega) (.int .i64 x)).other (g:=w.heap.size) (i:=0) hM (by omega) (.int .u8 1)).other (g:=w.heap.size) (i:=1) hM (by omega) (.int .i64 x)).other (g:=w.heap.size) (i:=2) hM (by omega) (.string ⟨#[]⟩));have o_:Only db w ((((w3.setCell ⟨w1.heap.size,1,none⟩ (.int .i64 x)).setCell ⟨w.heap.size,0,none⟩ (.int .u8 1)).setCell ⟨w.heap.size,1,none⟩ (.int .i64 x)).setCell ⟨w.heap.size,2,none⟩ (.string ⟨#[]⟩)):=((((O3.out.new (g:=w1.heap.size) (i:=1) (by omega) (.int .i64 x)).new (g:=w.heap.size) (i:=0) (aa _) (.int .u8 1)).new (g:=w.heap.size) (i:=1) (aa _) (.int .i64 x)).new (g:=w.heap.size) (i:=2) (aa _) (.string ⟨#[]⟩));generalize ((((w3.setCell ⟨w1.heap.size,1,none⟩ (.int .i64 x)).setCell ⟨w.heap.size,0,none⟩ (.int .u8 1)).setCell ⟨w.heap.size,1,none⟩ (.int .i64 x)).setCell ⟨w.heap.size,2,none⟩ (.string ⟨#[]⟩))=w9 at q r_ o_ ⊢;have d0:w9.cell? ⟨w.heap.size,0,none⟩=some (.int .u8 1):=ab q 0;have d1:w9.cell? ⟨w.heap.size,1,none⟩=some (.int .i64 x):=ab q 1;have d2:w9.cell? ⟨w.heap.size,2,none⟩=some (.string ⟨#[]⟩):=ab q 2;have hS:=HS.out;try simp only[if_true,if_false,Bool.false_eq_true,reduceIte]at hS
   subst hS;exact bodyPost_ret (v:=.agg #[.int .u8 1,.int .i64 x,.string ⟨#[]⟩]) (by simp[results,results193,go_sem,d0,d1,d2]) rfl ⟨rfl,r_,o_⟩
 by_cases bN:kd=2
 ·
  subst bN;have cu:=HS.out;rw[if_neg (by decide),if_pos (by trivial)]at cu;obtain⟨⟨x,b2,l2⟩,hx⟩:∃r,iY b1 l1=r:=⟨_,rfl⟩;rw[hx]at cu;dsimp only at cu;have HX:=Hd hx;clear HS;have HS:=Hd cu;clear cu hx;have hA:=(aj w1.heap.size w1).alloc (aa _) (.cells #[.int .u8 2,.int .i64 0,.string ⟨#[]⟩] 50);have R2:=Hd (R1.out.below hA);have O2:=Hd (O1.out.alloc (.cells #[.int .u8 2,.int .i64 0,.string ⟨#[]⟩] 50));have Z2:=Hd ((hA.block w.heap.size (by omega)).trans Z1.out);have G2:=Hd (heap_alloc_new w1 (.cells #[.int .u8 2,.int .i64 0,.string ⟨#[]⟩] 50));have aU:w1.heap.size+1<=(w1.alloc (.cells #[.int .u8 2,.int .i64 0,.string ⟨#[]⟩] 50)).heap.size:=by simp
  clear hA R1 O1 Z1;go_wp2_with fail
  generalize w1.alloc (.cells #[.int .u8 2,.int .i64 0,.string ⟨#[]⟩] 50)=w2 at R2 O2 Z2 G2 aU ⊢;refine(OP M db b1 l1 x b2 l2 w2 HX.out R2.out xK.out).mono ?_;rintro e w3 ⟨rfl,hr,ho⟩;have R3:=Hd hr;have O3:=Hd (O2.out.trans ho);have dN:w1.heap.size+1<=w3.heap.size:=aF aU ho.1;have Z3:=Hd ((ho.2 w.heap.size (by omega) (by omega)).trans Z2.out);have G3:=Hd ((ho.2 w1.heap.size (by omega) (by omega)).trans G2.out);clear hr ho R2 O2 Z2 G2;have e0:w3.cell? ⟨w1.heap.size,0,none⟩=some (.int .u8 2):=ab G3.out 0;have e1:w3.cell? ⟨w1.heap.size,1,none⟩=some (.int .i64 0):=ab G3.out 1;have e2:w3.cell? ⟨w1.heap.size,2,none⟩=some (.string ⟨#[]⟩):=ab G3.out 2;have f2:w3.frozen? ⟨w1.heap.size,2,none⟩=false:=aO G3.out 2;have g0:w3.frozen? ⟨w.heap.size,0,none⟩=false:=aO Z3.out 0;have g1:w3.frozen? ⟨w.heap.size,1,none⟩=false:=aO Z3.out 1;have g2:w3.frozen? ⟨w.heap.size,2,none⟩=false:=aO Z3.out 2;have hbc:∀u,(w3.setCell ⟨w1.heap.size,2,none⟩ u).cell? ⟨db,2,none⟩=some (.bool b2):=λ u=>(R3.out.other (g:=w1.heap.size) (i:=2) (by omega) (by omega) u).oR.1
  have z0:∀u,(w3.setCell ⟨w1.heap.size,2,none⟩ u).cell? ⟨w.heap.size,0,none⟩=some (.int .u8 0):=λ u=>ab ((heap_setCell_other _ _ _ _ (show w.heap.size≠w1.heap.size by omega)).trans Z3.out) 0
  have z1:∀u,(w3.setCell ⟨w1.heap.size,2,none⟩ u).cell? ⟨w.heap.size,1,none⟩=some (.int .i64 0):=λ u=>ab ((heap_setCell_other _ _ _ _ (show w.heap.size≠w1.heap.size by omega)).trans Z3.out) 1
  have z2:∀u,(w3.setCell ⟨w1.heap.size,2,none⟩ u).cell? ⟨w.heap.size,2,none⟩=some (.string ⟨#[]⟩):=λ u=>ab ((heap_setCell_other _ _ _ _ (show w.heap.size≠w1.heap.size by omega)).trans Z3.out) 2
  cases b2 with
  | true =>
   go_wp2_with fail
   have q:((((w3.setCell ⟨w1.heap.size,2,none⟩ (.string x)).setCell ⟨w.heap.size,0,none⟩ (.int .u8 0)).setCell ⟨w.heap.size,1,none⟩ (.int .i64 0)).setCell ⟨w.heap.size,2,none⟩ (.string ⟨#[]⟩)).heap[w.heap.size]?=some (.cells #[.int .u8 0,.int .i64 0,.string ⟨#[]⟩] 50 (0,0)):=(br (i:=2) (br (i:=1) (br (i:=0) ((heap_setCell_other _ _ _ _ (show w.heap.size≠w1.heap.size by omega)).trans Z3.out) (.int .u8 0)) (.int .i64 0)) (.string ⟨#[]⟩));have r_:Ref Z ((((w3.setCell ⟨w1.heap.size,2,none⟩ (.string x)).setCell ⟨w.heap.size,0,none⟩ (.int .u8 0)).setCell ⟨w.heap.size,1,none⟩ (.int .i64 0)).setCell ⟨w.heap.size,2,none⟩ (.string ⟨#[]⟩)) M db _ l2:=((((R3.out.other (g:=w1.heap.size) (i:=2) (by omega) (by omega) (.string x)).other (g:=w.heap.size) (i:=0) hM (by omega) (.int .u8 0)).other (g:=w.heap.size) (i:=1) hM (by omega) (.int .i64 0)).other (g:=w.heap.size) (i:=2) hM (by omega) (.string ⟨#[]⟩));have o_:Only db w ((((w3.setCell ⟨w1.heap.size,2,none⟩ (.string x)).setCell ⟨w.heap.size,0,none⟩ (.int .u8 0)).setCell ⟨w.heap.size,1,none⟩ (.int .i64 0)).setCell ⟨w.heap.size,2,none⟩ (.string ⟨#[]⟩)):=((((O3.out.new (g:=w1.heap.size) (i:=2) (by omega) (.string x)).new (g:=w.heap.size) (i:=0) (aa _) (.int .u8 0)).new (g:=w.heap.size) (i:=1) (aa _) (.int .i64 0)).new (g:=w.heap.size) (i:=2) (aa _) (.string ⟨#[]⟩));generalize ((((w3.setCell ⟨w1.heap.size,2,none⟩ (.string x)).setCell ⟨w.heap.size,0,none⟩ (.int .u8 0)).setCell ⟨w.heap.size,1,none⟩ (.int .i64 0)).setCell ⟨w.heap.size,2,none⟩ (.string ⟨#[]⟩))=w9 at q r_ o_ ⊢;have d0:w9.cell? ⟨w.heap.size,0,none⟩=some (.int .u8 0):=ab q 0;have d1:w9.cell? ⟨w.heap.size,1,none⟩=some (.int .i64 0):=ab q 1;have d2:w9.cell? ⟨w.heap.size,2,none⟩=some (.string ⟨#[]⟩):=ab q 2;have hS:=HS.out;try simp only[if_true,if_false,Bool.false_eq_true,reduceIte]at hS
   subst hS;exact bodyPost_ret (v:=.agg #[.int .u8 0,.int .i64 0,.string ⟨#[]⟩]) (by simp[results,results193,go_sem,d0,d1,d2]) rfl ⟨rfl,r_,o_⟩
  | false =>
   go_wp2_with fail
   have q:((((w3.setCell ⟨w1.heap.size,2,none⟩ (.string x)).setCell ⟨w.heap.size,0,none⟩ (.int .u8 2)).setCell ⟨w.heap.size,1,none⟩ (.int .i64 0)).setCell ⟨w.heap.size,2,none⟩ (.string x)).heap[w.heap.size]?=some (.cells #[.int .u8 2,.int .i64 0,.string x] 50 (0,0)):=(br (i:=2) (br (i:=1) (br (i:=0) ((heap_setCell_other _ _ _ _ (show w.heap.size≠w1.heap.size by omega)).trans Z3.out) (.int .u8 2)) (.int .i64 0)) (.string x));have r_:Ref Z ((((w3.setCell ⟨w1.heap.size,2,none⟩ (.string x)).setCell ⟨w.heap.size,0,none⟩ (.int .u8 2)).setCell ⟨w.heap.size,1,none⟩ (.int .i64 0)).setCell ⟨w.heap.size,2,none⟩ (.string x)) M db _ l2:=((((R3.out.other (g:=w1.heap.size) (i:=2) (by omega) (by omega) (.string x)).other (g:=w.heap.size) (i:=0) hM (by omega) (.int .u8 2)).other (g:=w.heap.size) (i:=1) hM (by omega) (.int .i64 0)).other (g:=w.heap.size) (i:=2) hM (by omega) (.string x));have o_:Only db w ((((w3.setCell ⟨w1.heap.size,2,none⟩ (.string x)).setCell ⟨w.heap.size,0,none⟩ (.int .u8 2)).setCell ⟨w.heap.size,1,none⟩ (.int .i64 0)).setCell ⟨w.heap.size,2,none⟩ (.string x)):=((((O3.out.new (g:=w1.heap.size) (i:=2) (by omega) (.string x)).new (g:=w.heap.size) (i:=0) (aa _) (.int .u8 2)).new (g:=w.heap.size) (i:=1) (aa _) (.int .i64 0)).new (g:=w.heap.size) (i:=2) (aa _) (.string x));generalize ((((w3.setCell ⟨w1.heap.size,2,none⟩ (.string x)).setCell ⟨w.heap.size,0,none⟩ (.int .u8 2)).setCell ⟨w.heap.size,1,none⟩ (.int .i64 0)).setCell ⟨w.heap.size,2,none⟩ (.string x))=w9 at q r_ o_ ⊢;have d0:w9.cell? ⟨w.heap.size,0,none⟩=some (.int .u8 2):=ab q 0;have d1:w9.cell? ⟨w.heap.size,1,none⟩=some (.int .i64 0):=ab q 1;have d2:w9.cell? ⟨w.heap.size,2,none⟩=some (.string x):=ab q 2;have hS:=HS.out;try simp only[if_true,if_false,Bool.false_eq_true,reduceIte]at hS
   subst hS;exact bodyPost_ret (v:=.agg #[.int .u8 2,.int .i64 0,.string x]) (by simp[results,results193,go_sem,d0,d1,d2]) rfl ⟨rfl,r_,o_⟩
 have n1:(kd==1)=false:=by simpa using pW
 have n2:decide (kd=1)=false:=by simpa using pW
 have n3:(kd==2)=false:=by simpa using bN
 have n4:decide (kd=2)=false:=by simpa using bN
 have cu:=HS.out;rw[if_neg pW,if_neg bN]at cu;clear HS;have HS:=Hd cu;clear cu;have hA:=λ o=>(aj w1.heap.size w1).alloc (aa _) o
 have R2:=Hd (R1.out.below (hA (.cells #[.int .u8 kd,.int .i64 0,.string ⟨#[]⟩] 50)));have O2:=Hd (O1.out.alloc (.cells #[.int .u8 kd,.int .i64 0,.string ⟨#[]⟩] 50));have Z2:=Hd (((hA (.cells #[.int .u8 kd,.int .i64 0,.string ⟨#[]⟩] 50)).block w.heap.size (by omega)).trans Z1.out);have G2:=Hd (heap_alloc_new w1 (.cells #[.int .u8 kd,.int .i64 0,.string ⟨#[]⟩] 50));have hf2:∀o,(w1.alloc o).frozen? ⟨db,2,none⟩=false:=λ o=>(R1.out.below (hA o)).oR.2
 have hc2':∀o,(w1.alloc o).cell? ⟨db,2,none⟩=some (.bool b1):=λ o=>(R1.out.below (hA o)).oR.1
 have g0:∀u o,((w1.alloc o).setCell ⟨db,2,none⟩ u).frozen? ⟨w.heap.size,0,none⟩=false:=λ u o=>aO ((heap_setCell_other _ _ _ _ (show w.heap.size≠db by omega)).trans (((hA o).block w.heap.size (by omega)).trans Z1.out)) 0
 have z0:∀u o,((w1.alloc o).setCell ⟨db,2,none⟩ u).cell? ⟨w.heap.size,0,none⟩=some (.int .u8 0):=λ u o=>ab ((heap_setCell_other _ _ _ _ (show w.heap.size≠db by omega)).trans (((hA o).block w.heap.size (by omega)).trans Z1.out)) 0
 have g1:∀u o,((w1.alloc o).setCell ⟨db,2,none⟩ u).frozen? ⟨w.heap.size,1,none⟩=false:=λ u o=>aO ((heap_setCell_other _ _ _ _ (show w.heap.size≠db by omega)).trans (((hA o).block w.heap.size (by omega)).trans Z1.out)) 1
 have z1:∀u o,((w1.alloc o).setCell ⟨db,2,none⟩ u).cell? ⟨w.heap.size,1,none⟩=some (.int .i64 0):=λ u o=>ab ((heap_setCell_other _ _ _ _ (show w.heap.size≠db by omega)).trans (((hA o).block w.heap.size (by omega)).trans Z1.out)) 1
 have g2:∀u o,((w1.alloc o).setCell ⟨db,2,none⟩ u).frozen? ⟨w.heap.size,2,none⟩=false:=λ u o=>aO ((heap_setCell_other _ _ _ _ (show w.heap.size≠db by omega)).trans (((hA o).block w.heap.size (by omega)).trans Z1.out)) 2
 have z2:∀u o,((w1.alloc o).setCell ⟨db,2,none⟩ u).cell? ⟨w.heap.size,2,none⟩=some (.string ⟨#[]⟩):=λ u o=>ab ((heap_setCell_other _ _ _ _ (show w.heap.size≠db by omega)).trans (((hA o).block w.heap.size (by omega)).trans Z1.out)) 2
 clear hA;have R3:=Hd (R2.out.mE true);have O3:=Hd (O2.out.trans (Only.set db _ 2 (.bool true)));have Z3:=Hd ((heap_setCell_other _ ⟨db,2,none⟩ _ (.bool true) (show w.heap.size≠db by omega)).trans Z2.out);go_wp2_with fail
 have q:(((((w1.alloc (.cells #[.int .u8 kd,.int .i64 0,.string ⟨#[]⟩] 50)).setCell ⟨db,2,none⟩ (.bool true)).setCell ⟨w.heap.size,0,none⟩ (.int .u8 0)).setCell ⟨w.heap.size,1,none⟩ (.int .i64 0)).setCell ⟨w.heap.size,2,none⟩ (.string ⟨#[]⟩)).heap[w.heap.size]?=some (.cells #[.int .u8 0,.int .i64 0,.string ⟨#[]⟩] 50 (0,0)):=(br (i:=2) (br (i:=1) (br (i:=0) Z3.out (.int .u8 0)) (.int .i64 0)) (.string ⟨#[]⟩));have r_:Ref Z (((((w1.alloc (.cells #[.int .u8 kd,.int .i64 0,.string ⟨#[]⟩] 50)).setCell ⟨db,2,none⟩ (.bool true)).setCell ⟨w.heap.size,0,none⟩ (.int .u8 0)).setCell ⟨w.heap.size,1,none⟩ (.int .i64 0)).setCell ⟨w.heap.size,2,none⟩ (.string ⟨#[]⟩)) M db _ l1:=(((R3.out.other (g:=w.heap.size) (i:=0) hM (by omega) (.int .u8 0)).other (g:=w.heap.size) (i:=1) hM (by omega) (.int .i64 0)).other (g:=w.heap.size) (i:=2) hM (by omega) (.string ⟨#[]⟩));have o_:Only db w (((((w1.alloc (.cells #[.int .u8 kd,.int .i64 0,.string ⟨#[]⟩] 50)).setCell ⟨db,2,none⟩ (.bool true)).setCell ⟨w.heap.size,0,none⟩ (.int .u8 0)).setCell ⟨w.heap.size,1,none⟩ (.int .i64 0)).setCell ⟨w.heap.size,2,none⟩ (.string ⟨#[]⟩)):=(((O3.out.new (g:=w.heap.size) (i:=0) (aa _) (.int .u8 0)).new (g:=w.heap.size) (i:=1) (aa _) (.int .i64 0)).new (g:=w.heap.size) (i:=2) (aa _) (.string ⟨#[]⟩));generalize (((((w1.alloc (.cells #[.int .u8 kd,.int .i64 0,.string ⟨#[]⟩] 50)).setCell ⟨db,2,none⟩ (.bool true)).setCell ⟨w.heap.size,0,none⟩ (.int .u8 0)).setCell ⟨w.heap.size,1,none⟩ (.int .i64 0)).setCell ⟨w.heap.size,2,none⟩ (.string ⟨#[]⟩))=w9 at q r_ o_ ⊢;have d0:w9.cell? ⟨w.heap.size,0,none⟩=some (.int .u8 0):=ab q 0;have d1:w9.cell? ⟨w.heap.size,1,none⟩=some (.int .i64 0):=ab q 1;have d2:w9.cell? ⟨w.heap.size,2,none⟩=some (.string ⟨#[]⟩):=ab q 2;have hS:=HS.out;subst hS;exact bodyPost_ret (v:=.agg #[.int .u8 0,.int .i64 0,.string ⟨#[]⟩]) (by simp[results,results193,go_sem,d0,d1,d2]) rfl ⟨rfl,r_,o_⟩
def OQ (Z:ks) (M db:Nat) (v:List Va) (b:Bool) (l:List Int) (w:World) (e:Ending) (w':World):Prop:=∃a n c,v.length=n/\e=.returned (.slice a n c)/\iZ w' w.heap.size a n c v/\Ref Z w' M db b l/\Only db w w'
theorem Zc (M db:Nat)(bad:Bool)(left:List Int)(v:List Va)(b9:Bool)(l9:List Int)(w:World)(hs:nd bad left=(v,b9,l9))(h:Ref Z w M db bad left)(hw:BytesWf left) :
  Calls prog 129 #[.pointer (some ⟨db,0,none⟩)] w (OQ Z M db v b9 l9 w):=by
 have hM:=h.le;have ny:=h.lt;have jj:=pF (bad:=bad) hw;unfold nd kk at hs;dsimp only at hs;obtain⟨⟨n0,b0,l0⟩,hc⟩:∃r,di bad left=r:=⟨_,rfl⟩;have HC:=Hd (Iq M db bad left n0 b0 l0 w hc h hw);rw[hc]at hs jj;dsimp only at hs jj;obtain⟨N,rfl⟩:∃N:Nat,n0=N:=⟨n0.toNat,by omega⟩;have hN:N<=65536:=by omega
 rw[Int.toNat_natCast]at hs;obtain⟨⟨tot,b8,l8⟩,hr⟩:∃r,dZ fF N b0 l0=r:=⟨_,rfl⟩;rw[hr]at hs;dsimp only at hs;simp only[Prod.mk.injEq]at hs;obtain⟨hv,rfl,rfl⟩:=hs;have HV:=Hd hv;have fW:=Hd hr;have sd:=Hd jj;clear h hc hr jj hw hv;obtain⟨R,hR⟩:∃R,((v,b8,l8):List Va×Bool×List Int)=R:=⟨_,rfl⟩;have e1:v=R.1:=by rw[<-hR]
 have e2:b8=R.2.1:=by rw[<-hR]
 have e3:l8=R.2.2:=by rw[<-hR]
 show Calls _ _ _ _ (OQ Z M db v b8 l8 w);have ug:=Hd hR;rw[e1,e2,e3];rw[e1]at HV;rw[e2]at HV fW;rw[e3]at fW;clear hR e1 e2 e3 ug;go_enter func129,ntmps129
 go_wp2_with fail
 refine HC.out.mono ?_;rintro e w0 ⟨rfl,hr0,ho0⟩;have R0:=Hd hr0;have O0:=Hd ho0;clear hr0 ho0 HC;go_wp2_with fail
 go_loopw [3,4] (λ v i wr=>∃(m:Nat) (acc:List Va) (b:Bool) (l:List Int),i=.int .i64 m/\(acc++(dZ fF m b l).1,(dZ fF m b l).2)=(tot,R.2.1,R.2.2)/\acc.length+m<=65536/\wr.ownsRow w.heap.size 50 3 v acc.length (acc.flatMap jl)/\Ref Z wr M db b l/\Only db w wr/\BytesWf l) (λ _ i _=>(intOf i).toNat)
 exact⟨N,[],b0,l0,rfl,by rw[fW.out];rfl,by simpa using hN,iK _ _ _ _,R0.out,O0.out,sd.out.2.2.1⟩
 clear R0 O0 sd fW;obtain⟨m,acc,b,l,rfl,heq,iF,az,hR,hO,iR⟩:=hrel;have HE:=Hd heq;have ig:=Hd az;have HR:=Hd hR;have HO:=Hd hO;have mF:=Hd iR;have d1:=hR.oR.1;clear heq az hR hO iR;by_cases fN:b=true∨m=0
 ·
  obtain⟨a,c,hv⟩:=jz ig.out;subst hv
  have fX:acc=tot/\b=R.2.1/\l=R.2.2:=by
   have h1:=HE.out;rcases fN with h0|h0
   ·
    subst h0;rw[zo]at h1;simpa using h1
   subst h0;simpa[dZ]using h1
  obtain⟨rfl,iA,Ir⟩:=fX;have gh:=Hd (show (if b=true then []else acc)=R.1 by rw[iA];exact HV.out);have ux:=Hd (show ∀w',Ref Z w' M db b l->Ref Z w' M db R.2.1 R.2.2 from λ w' h=>by rw[<-iA,<-Ir];exact h);obtain⟨q,hq⟩:∃q,acc.length=q:=⟨_,rfl⟩;rw[hq]at iF ig ⊢;have HQ:=Hd hq;clear hq HE HV iA Ir;cases b with
  | true =>
   clear fN;by_cases eF:m=0
   ·
    subst eF;go_wp2_with fail
    go_ret;have h5:=gh.out;simp only[if_true,if_false,Bool.false_eq_true,reduceIte]at h5;rw[<-h5];exact⟨none,0,0,rfl,rfl,iZ.nil _ _,ux.out _ HR.out,HO.out⟩
   obtain⟨m2,rfl⟩:∃m2,m=m2+1:=⟨m-1,by omega⟩;have j1:(0:Int)<(m2:Int)+1:=by omega
   clear eF;go_wp2_with fail
   go_ret;have h5:=gh.out;simp only[if_true,if_false,Bool.false_eq_true,reduceIte]at h5;rw[<-h5];exact⟨none,0,0,rfl,rfl,iZ.nil _ _,ux.out _ HR.out,HO.out⟩
  | false =>
   obtain rfl:m=0:=fN.resolve_left (by simp);clear fN;go_wp2_with fail
   go_ret;have h5:=gh.out;simp only[if_true,if_false,Bool.false_eq_true,reduceIte]at h5;rw[<-h5];exact⟨a,q,c,HQ.out,rfl,ig.out,ux.out _ HR.out,HO.out⟩
 obtain⟨rfl,m',rfl⟩:b=false/\∃m',m=m'+1:=by
  refine⟨by cases b with
   | true=>exact absurd (Or.inl rfl) fN
   | false=>rfl,m-1,by omega⟩
 have j1:(0:Int)<(m':Int)+1:=by omega
 clear fN;have nM:=zq false l mF.out;have lz:=HE.out;rw[dZ,if_neg (by simp)]at lz;obtain⟨⟨x,b1,l1⟩,hx⟩:∃r,fF false l=r:=⟨_,rfl⟩;have ly:=Zb M db false l x b1 l1 wr hx HR.out mF.out;rw[hx]at nM lz;dsimp only at nM lz;have H2:=Hd lz;have uh:=Hd nM;have se:=Hd ly;have bP:=HO.out.1;clear lz nM ly HE hx;go_wp2_with fail
 refine se.out.mono ?_;rintro e w0 ⟨he,pv,ho1⟩;unfold Va.val at he;subst he;have dj:∀g,(Value.ownBlock _)=some g->w.heap.size<=g:=λ g hg=>(ig.out.lt g hg).1
 have hB:=(aj w0.heap.size w0).alloc (aa _) (.cells #[.int .u8 x.kind,.int .i64 x.num,.string x.text] 50);have ui:=Hd ((xh ig.out ho1 (λ e=>by have:=dj _ e;omega)).alloc (.cells #[.int .u8 x.kind,.int .i64 x.num,.string x.text] 50));have R1:=Hd (pv.below hB);have O1:=Hd ((HO.out.trans ho1).alloc (.cells #[.int .u8 x.kind,.int .i64 x.num,.string x.text] 50));have pq:w.heap.size<=(w0.alloc (.cells #[.int .u8 x.kind,.int .i64 x.num,.string x.text] 50)).heap.size:=((HO.out.trans ho1).alloc (.cells #[.int .u8 x.kind,.int .i64 x.num,.string x.text] 50)).1;have Is:∀o,w.heap.size<=((w0.alloc (.cells #[.int .u8 x.kind,.int .i64 x.num,.string x.text] 50)).alloc o).heap.size:=λ o=>by rw[World.size_alloc];omega
 clear pv ho1 se d1 HR HO ig hB;go_wp2_with (at_builtin;go_loud (refine tw (sub:=mB) sf zf rfl (by decide) oF DL rfl (.tmp 21) (.tmp 23) rfl w.heap.size _ acc.length (acc.flatMap jl) rfl (ui.out.alloc _) _ 1 1 [x] rfl rfl ((w0.alloc (.cells #[.int .u8 x.kind,.int .i64 x.num,.string x.text] 50)).heap.size+1) (by have It:=ud (B:=(w0.alloc (.cells #[.int .u8 x.kind,.int .i64 x.num,.string x.text] 50)).heap.size+1) (sub:=mB) oF [x] _ (heap_alloc_new (w0.alloc (.cells #[.int .u8 x.kind,.int .i64 x.num,.string x.text] 50)) (.cells #[.int .u8 x.kind,.int .i64 x.num,.string x.text] 50)) rfl (by omega) (λ _ _=>trivial);first|exact It|(rw[World.size_alloc]at It;simpa using It)) (by simp) (by unfold maxLen;omega) (by omega) (Is _) ?_))
 intro v2 w2 h2 ax _;generalize w0.alloc (.cells #[.int .u8 x.kind,.int .i64 x.num,.string x.text] 50)=w1 at ui R1 O1 pq ax;have hA:=(aj w1.heap.size w1).alloc (aa _) (.cells #[.int .u8 x.kind,.int .i64 x.num,.string x.text] 50);have R2:=Hd ((R1.out.below hA).grown ax (λ g hg=>by have:=dj g hg;omega));have O2:=Hd ((O1.out.alloc (.cells #[.int .u8 x.kind,.int .i64 x.num,.string x.text] 50)).grown ax dj);have H3:=Hd h2;clear hA h2 ax ui R1 O1 dj;go_wp2_with fail
 go_roundw
 exact⟨m',acc++[x],b1,l1,by go_num,by rw[List.append_assoc];exact H2.out,by simp;omega,by rw[List.length_append,List.flatMap_append];exact H3.out,R2.out,O2.out,uh.out.1⟩
 simp[intOf]
end Go.Proofs.YtepdklfkegkojaaGreatDoor
