/- The document's answer for letters: Get, begun. Conditions: the bytes lie as their reading says. -/
import Derived.Test.YtglgcjkglhlggaaGreatDoorGLetterGets0
import Derived.Test.YtglgcjkglhlggaaGreatDoorGLetterGets18
import Derived.Test.YtglgcjkglhlggaaGreatDoorGLetterGets19
import Derived.Test.YtglgcjkglhlggaaGreatDoorGLetterGets11
import Derived.Test.YtglgcjkglhlggaaGreatDoorGLetterGets13
import Derived.Deep.DeepCutAuto
set_option linter.unusedVariables false
set_option linter.unusedSimpArgs false
namespace Go.Proofs.YtglgcjkglhlggaaGreatDoor
open Go.RowKit
set_option maxRecDepth 20000
/-- The result's block, the letter's, the reader's. -/
structure GtSt (W:World) (Z:RefZ) (B:Nat) (x:Lt) (bad:Bool) (left:List Int) (w:World):Prop where
 below:Below B W w
 res:w.heap[B]?=some (.cells (ltArr zeroT) 27 (0,0))
 blk:w.heap[B+1]?=some (.cells (ltArr x) 27 (0,0))
 rd:Ref Z w B (B+2) bad left
 own:OwnLt w (B+3) x
theorem GtSt.size {W w:World}{Z:RefZ}{B:Nat}{x:Lt}{bad:Bool}{left:List Int}(h:GtSt W Z B x bad left w):B+3≤w.heap.size:=h.rd.lt
theorem OwnLt.below' {w w':World}{base B:Nat}{x:Lt}(h:OwnLt w base x)(hb:Below B w w')(hB:w.heap.size≤B):OwnLt w' base x:=⟨h.1.below hb hB,h.2.1.below hb hB,own_below h.2.2 hb hB⟩
theorem OwnLt.only' {w w':World}{base r:Nat}{x:Lt}(h:OwnLt w base x)(ho:Only r w w')(hr:r<base):OwnLt w' base x:=⟨h.1.only ho hr,h.2.1.only ho hr,own_only' h.2.2 ho hr⟩
/-- A call that reads on. -/
theorem GtSt.read {W w w':World}{Z:RefZ}{B:Nat}{x:Lt}{bad b2:Bool}{left l2:List Int}(h:GtSt W Z B x bad left w)(hr:Ref Z w' B (B+2) b2 l2)(ho:Only (B+2) w w'):GtSt W Z B x b2 l2 w':=by
 have hs:=h.size
 exact ⟨h.below.trans (ho.toBelow (by omega) (by omega)),(ho.2 B (by omega) (by omega)).trans h.res,(ho.2 (B+1) (by omega) (by omega)).trans h.blk,hr,h.own.only' ho (by omega)⟩
/-- A field of the letter is stored. -/
theorem GtSt.put {W w:World}{Z:RefZ}{B:Nat}{x x2:Lt}{bad:Bool}{left:List Int}(h:GtSt W Z B x bad left w)(i:Nat)(v:Value)(he:(ltArr x).setIfInBounds i v=ltArr x2)(ho:OwnLt (w.setCell ⟨B+1,i,none⟩ v) (B+3) x→OwnLt (w.setCell ⟨B+1,i,none⟩ v) (B+3) x2):GtSt W Z B x2 bad left (w.setCell ⟨B+1,i,none⟩ v):=by
 have hs:=h.size
 have hon:=Only.set (B+1) w i v
 exact ⟨h.below.setCell (p:=⟨B+1,i,none⟩) (by show B≤B+1;omega) v,(hon.2 B (by omega) (by omega)).trans h.res,blk_to h.blk v he,h.rd.other (by omega) (by omega) v,ho (h.own.only' hon (by omega))⟩
theorem GtSt.cell {W w:World}{Z:RefZ}{B:Nat}{x:Lt}{bad:Bool}{left:List Int}(h:GtSt W Z B x bad left w)(i:Nat):w.cell? ⟨B+1,i,none⟩=(ltArr x)[i]?:=cob h.blk i
theorem GtSt.free {W w:World}{Z:RefZ}{B:Nat}{x:Lt}{bad:Bool}{left:List Int}(h:GtSt W Z B x bad left w)(i:Nat):w.frozen? ⟨B+1,i,none⟩=false:=ufb h.blk i
theorem wrap_of_N64 {x:Int}(h:N64 x):IntKind.i64.wrap x=x:=IntWalk.i64_in _ (by unfold N64 at h;omega)
theorem RefIs.other {Z:RefZ}{w:World}{M db g i k m cap:Nat}{bad:Bool}{ao:Option Addr}{xs:List Int}(h:RefIs Z w M db bad k ao m cap xs)(hg:M≤g)(hr:g ≠ db)(v:Value):RefIs Z (w.setCell ⟨g,i,none⟩ v) M db bad k ao m cap xs :=
 ⟨(heap_setCell_other _ _ _ _ (Ne.symm hr)).trans h.blk,h.off.other hg v,h.len,h.room,h.nil,h.at_,by simpa using h.le,h.lim,h.z⟩
theorem fourS_fact {bad b2:Bool}{l l2:List Int}{q:Int}(hw:BytesWf l)(h:fourS bad l=(q,b2,l2)):0≤q∧q≤l2.length∧BytesWf l2:=by
 unfold fourS at h
 split at h
 ·
  injection h with h1 h
  injection h with h2 h3
  subst h1;subst h3
  exact ⟨Int.le_refl _,by omega,hw⟩
 ·
  split at h
  ·
   injection h with h1 h
   injection h with h2 h3
   subst h1;subst h3
   exact ⟨Int.le_refl _,by omega,fun x hx=>hw x (List.mem_of_mem_drop hx)⟩
  ·
   injection h with h1 h
   injection h with h2 h3
   subst h1;subst h3
   exact ⟨(getN_bound _ (fun x hx=>hw x (List.mem_of_mem_take hx))).1,by omega,fun x hx=>hw x (List.mem_of_mem_drop hx)⟩
theorem Ref.len_le {Z:RefZ}{w:World}{M db n:Nat}{bad:Bool}{left:List Int}(h:Ref Z w M db bad left)(hn:Z.xs.length≤n):left.length≤n:=by
 obtain ⟨k,ao,m,cap,xs,hr,hl⟩:=h
 have hz:=hr.z
 subst hz
 rw [hl,List.length_drop]
 dsimp only at hn
 omega
theorem refEs_bad (n:Nat)(l:List Int):refEs n true l=([],true,l):=by
 cases n with
 | zero=>rfl
 | succ n=>unfold refEs;rw [if_pos rfl]
theorem Ref.tov {Z:RefZ}{w w':World}{M db:Nat}{bad:Bool}{left:List Int}(h:Ref Z w M db bad left)(hb:Below M w w')(hk:w'.heap[db]?=w.heap[db]?):Ref Z w' M db bad left:=by
 obtain ⟨k,ao,m,cap,xs,hr,hl⟩:=h
 have hoff:=hr.off
 refine ⟨k,ao,m,cap,xs,⟨hk.trans hr.blk,?_,hr.len,hr.room,hr.nil,hr.at_,Nat.le_trans hr.le hb.size,hr.lim,hr.z⟩,hl⟩
 rcases hoff with h0 | ⟨g,off,h1,h2,h3,h4⟩
 · exact Or.inl h0
 · exact Or.inr ⟨g,off,h1,h2,h3,fun i hi=>(hb.cell (p:=⟨g,off+i,none⟩) h2).trans (h4 i hi)⟩
theorem GtSt.grow {W w w':World}{Z:RefZ}{B:Nat}{x:Lt}{bad:Bool}{left:List Int}(h:GtSt W Z B x bad left w)(hb:Below w.heap.size w w'):GtSt W Z B x bad left w':=by
 have hs:=h.size
 have hB:Below B w w':=hb.mono (by omega)
 exact ⟨h.below.trans hB,(hb.block B (by omega)).trans h.res,(hb.block (B+1) (by omega)).trans h.blk,h.rd.tov hB (hb.block (B+2) (by omega)),h.own.below' hb (nlr _)⟩
theorem GtSt.app {W w w':World}{Z:RefZ}{B:Nat}{x x2:Lt}{bad:Bool}{left:List Int}{row:Option Nat}(h:GtSt W Z B x bad left w)(hg:w.grownBy w' row)(hr:∀ g,row=some g→B+3≤g)(i:Nat)(v:Value)(he:(ltArr x).setIfInBounds i v=ltArr x2)(ho:OwnLt w' (B+3) x2):GtSt W Z B x2 bad left (w'.setCell ⟨B+1,i,none⟩ v):=by
 have hs:=h.size
 have hB:Below B w w':=(Below.refl B w).grown hg (by omega) (fun g hq=>by have:=hr g hq;omega)
 have hon:=Only.set (B+1) w' i v
 have n0:∀ g,g<B+3→some g ≠ row:=fun g hl e=>by have:=hr g e.symm;omega
 have hB2:Below B w w':=hB
 have hw:=hB.size
 have hk:w'.heap[B+1]?=some (.cells (ltArr x) 27 (0,0)):=(hg.block (B+1) (by omega) (n0 _ (by omega))).trans h.blk
 have hr':Ref Z w' B (B+2) bad left:=h.rd.tov hB (hg.block (B+2) (by omega) (n0 _ (by omega)))
 exact ⟨(h.below.trans hB).setCell (p:=⟨B+1,i,none⟩) (by show B≤B+1;omega) v,(hon.2 B (by omega) (by omega)).trans ((hg.block B (by omega) (n0 _ (by omega))).trans h.res),blk_to hk v he,hr'.other (by omega) (by omega) v,ho.only' hon (by omega)⟩
theorem refVs_bad (n:Nat)(l:List Int):refVs n true l=([],true,l):=by
 cases n with
 | zero=>rfl
 | succ n=>unfold refVs;rw [if_pos rfl]
theorem refEs_len:∀ (n:Nat) (b:Bool) (l:List Int),(refEs n b l).1.length≤n
 | 0,_,_=>nlr _
 | n+1,b,l=>by
  unfold refEs
  split
  · exact Nat.zero_le _
  ·
   have:=refEs_len n (entryS false l).2.1 (entryS false l).2.2
   simp only [List.length_cons]
   omega
theorem refVs_len:∀ (n:Nat) (b:Bool) (l:List Int),(refVs n b l).1.length≤n
 | 0,_,_=>nlr _
 | n+1,b,l=>by
  unfold refVs
  split
  · exact Nat.zero_le _
  ·
   cases l with
   | nil=>exact Nat.zero_le _
   | cons v r =>
    have:=refVs_len n false r
    simp only [List.length_cons]
    omega
theorem refVs_wf:∀ (n:Nat) (b:Bool) (l:List Int),BytesWf l→BytesWf (refVs n b l).1
 | 0,_,_,_=>fun x hx=>by cases hx
 | n+1,b,l,h=>by
  unfold refVs
  split
  · intro x hx;cases hx
  ·
   cases l with
   | nil=>intro x hx;cases hx
   | cons v r =>
    have h2:=refVs_wf n false r (fun x hx=>h x (List.mem_cons_of_mem _ hx))
    intro x hx
    rcases List.mem_cons.1 hx with rfl | hx
    · exact h _ List.mem_cons_self
    · exact h2 x hx
theorem RefIs.tov {Z:RefZ}{w w':World}{M db k m cap:Nat}{bad:Bool}{ao:Option Addr}{xs:List Int}(hr:RefIs Z w M db bad k ao m cap xs)(hb:Below M w w')(hk:w'.heap[db]?=w.heap[db]?):RefIs Z w' M db bad k ao m cap xs:=by
 have hoff:=hr.off
 refine ⟨hk.trans hr.blk,?_,hr.len,hr.room,hr.nil,hr.at_,Nat.le_trans hr.le hb.size,hr.lim,hr.z⟩
 rcases hoff with h0 | ⟨g,off,h1,h2,h3,h4⟩
 · exact Or.inl h0
 · exact Or.inr ⟨g,off,h1,h2,h3,fun i hi=>(hb.cell (p:=⟨g,off+i,none⟩) h2).trans (h4 i hi)⟩
theorem EnsOwn.grownI {w w':World}{base M an vc:Nat}{v:Value}{es:List En}{va:Option Addr}{ac:List Int}(h:EnsOwn w base v es)(hi:IntsOwn w M va an vc ac)(hlow:∀ e ∈ es,∀ g,(votV e).ownBlock=some g→g<M)(hg:w.grownBy w' (Value.slice va an vc).ownBlock):EnsOwn w' base v es :=
 ⟨World.ownsRow.kept h.row hg (own_apart h.row hi (by decide)),fun e he=>⟨World.ownsRow.kept (h.own e he).1 hg (own_apart (h.own e he).1 hi (by decide)),World.ownsRow.kept (h.own e he).2 hg (by
  cases hv:(votV e).ownBlock with
  | none=>exact Or.inl rfl
  | some b=>exact Or.inr fun e2=>absurd (World.ownsRow.lt hi b e2.symm).1 (by have h1:=hlow e he b hv;omega))⟩,h.sep⟩
/-- An append to numbers. -/
theorem oper_append_int {w:World}{o:Oper}{a:Act}{K:Act→World→Prop}{Q:Exit→Act→World→Prop}(s x:Operand)
  (ho:o.op=.call { callee:=.builtin .append,args:=#[s,x],argTypes:=#[24,24] })
  (base:Nat) {a1:Option Addr} {n1 c1:Nat} {l:List Int} (hs:a.eval s=.slice a1 n1 c1) (hown:IntsOwn w base a1 n1 c1 l)
  (g:Nat) (v:Int) (hk:w.heap[g]?=some (.cells #[.int .i64 v] 3 (0,0))) (hx:a.eval x=.slice (some ⟨g,0,none⟩) 1 1) (hlim:n1+1≤1099511627776) (hbase:base≤w.heap.size)
  (h:∀ a2 c2 w',IntsOwn w' base a2 (n1+1) c2 (l ++ [v])→w.grownBy w' (Value.slice a1 n1 c1).ownBlock→K (a.put o.dst (.slice a2 (n1+1) c2)) w'):Oper.wp Tryz.prog o a w K Q:=by
 obtain ⟨i0,hi,hz0,hz1,hz2⟩:=info_parts infoI
 have hadd:∀ j,(⟨g,0,none⟩:Addr).add j=⟨g,j,none⟩:=fun j=>by unfold Addr.add;split <;> simp_all
 obtain ⟨v',w',hr,h2,h3,_⟩:=run_append_own_at (P:=Tryz.prog) w base 24 o.type 3 i0 (.int .i64 0) 1 8 Tryz.underlying24 hi hz0 hz1 hz2 rfl (by decide) _ n1 (l.flatMap iCells) hown ⟨g,0,none⟩ 1 1 [.int .i64 v] rfl (fun j u hu=>by
  rw [hadd,cob hk j]
  simpa using hu) (by simp [Value.oneCell']) (by unfold maxLen;omega) (by omega) hbase
 unfold Oper.wp execOp
 simp only [ho,resolve,invoke,builtin,Sem.run_bind,Sem.run_pure,Result.andThen_ok,List.map_toArray,List.map_cons,List.map_nil,hs,hx,hr]
 obtain ⟨a2,c2,rfl⟩:=row_slice h2
 refine h a2 c2 w' ?_ h3
 unfold IntsOwn
 rw [List.flatMap_append]
 exact h2
/-- The letter lies behind the result. -/
def LetAt (w w1:World) (x:Lt) (v:Value) (w2:World):Prop:=v=.pointer (some ⟨w1.heap.size,0,none⟩)∧w2.heap[w1.heap.size]?=some (.cells (ltArr x) 27 (0,0))∧w2.heap.size=w1.heap.size+1∧Below w1.heap.size w1 w2
set_option maxHeartbeats 8000000 in
theorem rget21_any (ao:Option Addr)(n cap:Nat)(b:List Int)(w:World)(hn:b.length=n)(hx:BytesIn w w.heap.size ao b)(hw:BytesWf b)(hnil:ao=none→cap=0)(hcap:n≤cap)(hl:n≤140737488351232)(r:LtP × Int)(hr:refGetL b=r) :
  Calls Tryz.prog 21 #[.slice ao n cap] w (GetAt r w):=by
 have hb1:=(Below.refl w.heap.size w).alloc (nlr _) (.cells (ltArr zeroT) 27)
 have hk1:=heap_alloc_new w (.cells (ltArr zeroT) 27)
 have hs1:(w.alloc (.cells (ltArr zeroT) 27)).heap.size=w.heap.size+1:=by simp
 have HB1:=Hd hb1
 have HK1:=Hd hk1
 have HS1:=Hd hs1
 have HR:=Hd hr
 have HN:=Hd hn
 have HX:=Hd hx
 have HW:=Hd hw
 clear hb1 hk1 hs1 hr hn hx hw
 go_enter Tryz.func21,Tryz.ntmps21
 by_cases hbig:1048576<n
 ·
  have i1:(1048576:Int)<n:=by omega
  have j1:decide ((1048576:Int)<n)=true:=decide_eq_true i1
  go_upto_region 2 with fail
  rw [← zeroT_arr]
  have hbk:=HK1.out
  go_wp2_with (refine wpList_store_row rfl 27 (.tmp 2) (.tmp 19) rfl w.heap.size (ltArr zeroT) rfl (by first | rfl | simp) 27 _ hbk (info_lt2 zeroT) rfl (ltArr_one zeroT) ?_;rw [setRow_same hbk])
  have hg:r=(zeroL,4):=by rw [← HR.out];unfold refGetL;rw [if_pos (Or.inl (by rw [HN.out];exact hbig))]
  exact get_end rfl hbk HB1.out rfl rfl (by rw [hg]) (by rw [hg];rfl) zeroT_fine (OwnLt.zero _ _)
 by_cases hsm:n<3
 ·
  have i1:¬ (1048576:Int)<n:=by omega
  have j1:decide ((1048576:Int)<n)=false:=decide_eq_false i1
  have i2:(n:Int)<3:=by omega
  have j2:decide ((n:Int)<3)=true:=decide_eq_true i2
  go_upto_region 2 with fail
  rw [← zeroT_arr]
  have hbk:=HK1.out
  go_wp2_with (refine wpList_store_row rfl 27 (.tmp 2) (.tmp 19) rfl w.heap.size (ltArr zeroT) rfl (by first | rfl | simp) 27 _ hbk (info_lt2 zeroT) rfl (ltArr_one zeroT) ?_;rw [setRow_same hbk])
  have hg:r=(zeroL,4):=by rw [← HR.out];unfold refGetL;rw [if_pos (Or.inr (by rw [HN.out];exact hsm))]
  exact get_end rfl hbk HB1.out rfl rfl (by rw [hg]) (by rw [hg];rfl) zeroT_fine (OwnLt.zero _ _)
 have i1:¬ (1048576:Int)<n:=by omega
 have j1:decide ((1048576:Int)<n)=false:=decide_eq_false i1
 have i2:¬ (n:Int)<3:=by omega
 have j2:decide ((n:Int)<3)=false:=decide_eq_false i2
 go_upto_region 3 with fail
 rw [← zeroT_arr]
 have hb1:=HB1.out
 have hk1:=HK1.out
 have hs1:=HS1.out
 have hX1:=HX.out.below HB1.out (nlr _)
 generalize w.alloc (.cells (ltArr zeroT) 27)=w1 at hb1 hk1 hs1 hX1 ⊢
 obtain ⟨bb,off,rfl,hbb,hcc⟩:=hX1.resolve_left (fun h=>by have:=HN.out;rw [h] at this;simp at this;omega)
 have hlen:=HN.out
 have k0:w1.cell? ⟨bb,off,none⟩=some (.int .u8 (b.getD 0 0)):=hcc 0 (by omega)
 have k1:w1.cell? ⟨bb,off+1,none⟩=some (.int .u8 (b.getD 1 0)):=hcc 1 (by omega)
 have k2:w1.cell? ⟨bb,off+2,none⟩=some (.int .u8 (b.getD 2 0)):=hcc 2 (by omega)
 have wfd:∀ j,j<n→0≤b.getD j 0∧b.getD j 0<256:=fun j hj=>by
  have:b.getD j 0=b[j]'(by omega):=by simp [List.getD,List.getElem?_eq_getElem (show j<b.length by omega)]
  rw [this];exact HW.out _ (List.getElem_mem _)
 obtain ⟨y0,hy0⟩:∃ y,b.getD 0 0=y:=⟨_,rfl⟩
 obtain ⟨y1,hy1⟩:∃ y,b.getD 1 0=y:=⟨_,rfl⟩
 obtain ⟨y2,hy2⟩:∃ y,b.getD 2 0=y:=⟨_,rfl⟩
 have v0:=wfd 0 (by omega)
 have v1:=wfd 1 (by omega)
 have v2:=wfd 2 (by omega)
 rw [hy0] at k0 v0
 rw [hy1] at k1 v1
 rw [hy2] at k2 v2
 have HCL:=Hd (show ∀ w',Below w1.heap.size w1 w'→w'.cell? ⟨bb,off,none⟩=some (.int .u8 y0)∧w'.cell? ⟨bb,off+1,none⟩=some (.int .u8 y1)∧w'.cell? ⟨bb,off+2,none⟩=some (.int .u8 y2) from fun w' h =>
  ⟨(h.cell (p:=⟨bb,_,none⟩) (show bb<w1.heap.size by omega)).trans k0,(h.cell (p:=⟨bb,_,none⟩) (show bb<w1.heap.size by omega)).trans k1,(h.cell (p:=⟨bb,_,none⟩) (show bb<w1.heap.size by omega)).trans k2⟩)
 have HY:=Hd (And.intro hy0 (And.intro hy1 hy2))
 have HCC:=Hd hcc
 have HK1':=Hd hk1
 have HB1':=Hd hb1
 have hsz1:w.heap.size+1≤w1.heap.size:=by omega
 have hsz2:w1.heap.size≤w.heap.size+1:=by omega
 clear hb1 hk1 hs1 hX1 hcc hlen k0 k1 k2 wfd hy0 hy1 hy2 HB1 HK1 HS1
 have u1:IntKind.i64.wrap y1=y1:=IntWalk.i64_in _ (by omega)
 have u2:IntKind.i64.wrap y2=y2:=IntWalk.i64_in _ (by omega)
 have g0:0<n:=by omega
 have g1:(1:Int)<n:=by omega
 have g2:(2:Int)<n:=by omega
 have g3:1<n:=by omega
 have g4:2<n:=by omega
 go_cut [4] (fun v wq=>LetAt w w1 ⟨y0,y1,y2,0,0,0,false,0,0,none,[],0,none,[],0,none,[],0⟩ v wq)
 case first =>
  refine heldS_begin (fun w'=>Below w1.heap.size w1 w') (by kernel_rfl) ((Below.refl _ _).drew) ?_
  intro hS0
  (first | (refine tkn 0 rfl ?_) | (refine tky (v:=?_) 0 rfl ?_ ?_;rotate_left;focus (intro wS hSw;obtain ⟨e0,e1,e2⟩:=HCL.out wS hSw;go_simp;first | done | with_reducible rfl)))
  (try simp only [Act.put,ssa,ssb,ssc])
  (first | (refine tkn 1 rfl ?_) | (refine tky (v:=?_) 1 rfl ?_ ?_;rotate_left;focus (intro wS hSw;obtain ⟨e0,e1,e2⟩:=HCL.out wS hSw;go_simp;first | done | with_reducible rfl)))
  (try simp only [Act.put,ssa,ssb,ssc])
  (first | (refine tkn 2 rfl ?_) | (refine tky (v:=?_) 2 rfl ?_ ?_;rotate_left;focus (intro wS hSw;obtain ⟨e0,e1,e2⟩:=HCL.out wS hSw;go_simp;first | done | with_reducible rfl)))
  (try simp only [Act.put,ssa,ssb,ssc])
  (first | (refine tkn 3 rfl ?_) | (refine tky (v:=?_) 3 rfl ?_ ?_;rotate_left;focus (intro wS hSw;obtain ⟨e0,e1,e2⟩:=HCL.out wS hSw;go_simp;first | done | with_reducible rfl)))
  (try simp only [Act.put,ssa,ssb,ssc])
  (first | (refine tkn 4 rfl ?_) | (refine tky (v:=?_) 4 rfl ?_ ?_;rotate_left;focus (intro wS hSw;obtain ⟨e0,e1,e2⟩:=HCL.out wS hSw;go_simp;first | done | with_reducible rfl)))
  (try simp only [Act.put,ssa,ssb,ssc])
  (first | (refine tkn 5 rfl ?_) | (refine tky (v:=?_) 5 rfl ?_ ?_;rotate_left;focus (intro wS hSw;obtain ⟨e0,e1,e2⟩:=HCL.out wS hSw;go_simp;first | done | with_reducible rfl)))
  (try simp only [Act.put,ssa,ssb,ssc])
  (first | (refine tkn 6 rfl ?_) | (refine tky (v:=?_) 6 rfl ?_ ?_;rotate_left;focus (intro wS hSw;obtain ⟨e0,e1,e2⟩:=HCL.out wS hSw;go_simp;first | done | with_reducible rfl)))
  (try simp only [Act.put,ssa,ssb,ssc])
  (first | (refine tkn 7 rfl ?_) | (refine tky (v:=?_) 7 rfl ?_ ?_;rotate_left;focus (intro wS hSw;obtain ⟨e0,e1,e2⟩:=HCL.out wS hSw;go_simp;first | done | with_reducible rfl)))
  (try simp only [Act.put,ssa,ssb,ssc])
  (first | (refine tkn 8 rfl ?_) | (refine tky (v:=?_) 8 rfl ?_ ?_;rotate_left;focus (intro wS hSw;obtain ⟨e0,e1,e2⟩:=HCL.out wS hSw;go_simp;first | done | with_reducible rfl)))
  (try simp only [Act.put,ssa,ssb,ssc])
  (first | (refine tkn 9 rfl ?_) | (refine tky (v:=?_) 9 rfl ?_ ?_;rotate_left;focus (intro wS hSw;obtain ⟨e0,e1,e2⟩:=HCL.out wS hSw;go_simp;first | done | with_reducible rfl)))
  (try simp only [Act.put,ssa,ssb,ssc])
  (first | (refine tkn 10 rfl ?_) | (refine tky (v:=?_) 10 rfl ?_ ?_;rotate_left;focus (intro wS hSw;obtain ⟨e0,e1,e2⟩:=HCL.out wS hSw;go_simp;first | done | with_reducible rfl)))
  (try simp only [Act.put,ssa,ssb,ssc])
  (first | (refine tkn 11 rfl ?_) | (refine tky (v:=?_) 11 rfl ?_ ?_;rotate_left;focus (intro wS hSw;obtain ⟨e0,e1,e2⟩:=HCL.out wS hSw;go_simp;first | done | with_reducible rfl)))
  (try simp only [Act.put,ssa,ssb,ssc])
  refine takeS_alone 12 rfl (by kernel_rfl) (by rfl) (fun K hK=>?_)
  go_simp
  have hbk:(w1.alloc (.cells (ltArr zeroT) 27)).drew.heap[w1.heap.size]?=some (.cells (ltArr zeroT) 27 (0,0)):=heap_alloc_new w1 _
  have hS2:Below w1.heap.size w1 (w1.alloc (.cells (ltArr zeroT) 27)).drew:=((Below.refl w1.heap.size w1).alloc (nlr _) _).drew
  have hz2:(w1.alloc (.cells (ltArr zeroT) 27)).drew.heap.size=w1.heap.size+1:=by show (w1.alloc _).heap.size=_;simp
  rw [← zeroT_arr]
  generalize (w1.alloc (.cells (ltArr zeroT) 27)).drew=w2 at hbk hS2 hz2 ⊢
  refine hK.out _ _ (by assumption) ?_
  clear hK K
  (try simp only [Act.put,ssa,ssb,ssc])
  refine takeS_alone 13 rfl (by kernel_rfl) (by rfl) (fun K hK=>?_)
  (refine wp_store_row 27 (.tmp 4) (.tmp 31) rfl w1.heap.size (ltArr ⟨y0,y1,y2,0,0,0,false,0,0,none,[],0,none,[],0,none,[],0⟩) rfl (by first | rfl | simp) 27 _ hbk (info_lt2 ⟨y0,y1,y2,0,0,0,false,0,0,none,[],0,none,[],0,none,[],0⟩) rfl (ltArr_one ⟨y0,y1,y2,0,0,0,false,0,0,none,[],0,none,[],0,none,[],0⟩) ?_)
  have ho:=only_setRow w1.heap.size w2 (ltArr ⟨y0,y1,y2,0,0,0,false,0,0,none,[],0,none,[],0,none,[],0⟩)
  have hk3:=setRow_heap w2 w1.heap.size _ (ltArr ⟨y0,y1,y2,0,0,0,false,0,0,none,[],0,none,[],0,none,[],0⟩) _ _ hbk
  have hS3:=hS2.trans (ho.toBelow (by omega) (nlr _))
  have hz3:(w2.setRow w1.heap.size (ltArr ⟨y0,y1,y2,0,0,0,false,0,0,none,[],0,none,[],0,none,[],0⟩)).heap.size=w1.heap.size+1:=by rw [setRow_size];exact hz2
  generalize w2.setRow w1.heap.size (ltArr ⟨y0,y1,y2,0,0,0,false,0,0,none,[],0,none,[],0,none,[],0⟩)=w3 at hk3 hS3 hz3 ⊢
  refine hK.out _ _ (by assumption) ?_
  clear hK K
  (try simp only [Act.put,ssa,ssb,ssc])
  refine wpAnyH_done (by kernel_rfl) ?_ _
  go_wp2_with fail
  go_meet
  exact ⟨rfl,hk3,hz3,hS3⟩
 case rest =>
  obtain ⟨rfl,hk2,hz2,hS2⟩:=hcut
  have hw1:w1.heap.size=w.heap.size+1:=by omega
  rw [hw1] at hk2 hz2 hS2
  have hal:=(Below.refl wc.heap.size wc).alloc (nlr _) (.cells #[.slice (some ⟨bb,off,none⟩) n cap,.int .i64 3,.bool false] 111)
  have hres:wc.heap[w.heap.size]?=some (.cells (ltArr zeroT) 27 (0,0)):=(hS2.block _ (by omega)).trans HK1'.out
  have hst:GtSt w ⟨some ⟨bb,off,none⟩,n,cap,b⟩ w.heap.size ⟨y0,y1,y2,0,0,0,false,0,0,none,[],0,none,[],0,none,[],0⟩ false (b.drop 3) (wc.alloc (.cells #[.slice (some ⟨bb,off,none⟩) n cap,.int .i64 3,.bool false] 111)):=by
   refine ⟨(HB1'.out.trans (hS2.mono (by omega))).trans (hal.mono (by omega)),(hal.block _ (by omega)).trans hres,(hal.block _ (by omega)).trans hk2,?_,⟨EnsOwn.nil _ _,IntsOwn.nil _ _,World.ownsRow_nil _ _ _ _⟩⟩
   have hr:=heap_alloc_new wc (.cells #[.slice (some ⟨bb,off,none⟩) n cap,.int .i64 3,.bool false] 111)
   rw [hz2] at hr
   refine ⟨3,some ⟨bb,off,none⟩,n,cap,b,⟨hr,Or.inr ⟨bb,off,rfl,hbb,by omega,fun i hi=>?_⟩,HN.out,hcap,hnil,by omega,by have:=hal.size;omega,hl,rfl⟩,rfl⟩
   exact ((hS2.trans (hal.mono (by omega))).cell (p:=⟨bb,_,none⟩) (show bb<w.heap.size+1 by omega)).trans (HCC.out i hi)
  have HST:=Hd hst
  have HZ2:=Hd (show wc.heap.size=w.heap.size+2 from hz2)
  have HW1:=Hd hw1
  clear hal hres hst hk2 hz2 hS2 HK1' HB1' HCL HCC u1 u2 v0 v1 v2 hw1 hsz1 hsz2
  go_upto_region 5 with fail
  rw [HW1.out,HZ2.out]
  generalize wc.alloc (.cells #[.slice (some ⟨bb,off,none⟩) n cap,.int .i64 3,.bool false] 111)=w4 at HST ⊢
  have wf0:BytesWf (b.drop 3):=fun v hv=>HW.out v (List.mem_of_mem_drop hv)
  have WF0:=Hd wf0
  clear wf0
  obtain ⟨⟨m1,b1,l1⟩,hs1⟩:∃ z,numS false (b.drop 3)=z:=⟨_,rfl⟩
  have wf1:BytesWf l1:=by have:=(numS_shrinks false (b.drop 3) WF0.out).1;rw [hs1] at this;exact this
  have hv1:N64 m1:=by
   rw [show m1=(numS false (b.drop 3)).1 by rw [hs1]]
   exact wrap_N64 _
  have HSN1:=Hd hs1
  have WF1:=Hd wf1
  have uw:IntKind.i64.wrap m1=m1:=wrap_of_N64 hv1
  clear hs1 wf1
  go_wp2_with fail
  refine (rnum_any w.heap.size (w.heap.size+2) false (b.drop 3) m1 b1 l1 w4 HSN1.out HST.out.rd WF0.out).mono ?_
  rintro e wn ⟨rfl,hrd,ho⟩
  have hst:=HST.out.read hrd ho
  have cc:wn.cell? ⟨w.heap.size+1,3,none⟩=some (.int .i64 0):=hst.cell 3
  have ff:wn.frozen? ⟨w.heap.size+1,3,none⟩=false:=hst.free 3
  have HS2:=Hd hst
  clear hrd ho hst HST
  go_upto_region 6 with fail
  have hst:=GtSt.put (x2:=⟨y0,y1,y2,m1,0,0,false,0,0,none,[],0,none,[],0,none,[],0⟩) HS2.out 3 (.int .i64 m1) rfl (fun h=>h)
  generalize wn.setCell ⟨w.heap.size+1,3,none⟩ (.int .i64 m1)=w5 at hst ⊢
  have HST:=Hd hst
  clear hst cc ff HS2 uw hv1
  obtain ⟨⟨m2,b2,l2⟩,hs2⟩:∃ z,numS b1 l1=z:=⟨_,rfl⟩
  have wf2:BytesWf l2:=by have:=(numS_shrinks b1 l1 WF1.out).1;rw [hs2] at this;exact this
  have hv2:N64 m2:=by
   rw [show m2=(numS b1 l1).1 by rw [hs2]]
   exact wrap_N64 _
  have HSN2:=Hd hs2
  have WF2:=Hd wf2
  have uw:IntKind.i64.wrap m2=m2:=wrap_of_N64 hv2
  clear hs2 wf2
  go_wp2_with fail
  refine (rnum_any w.heap.size (w.heap.size+2) b1 l1 m2 b2 l2 w5 HSN2.out HST.out.rd WF1.out).mono ?_
  rintro e wn ⟨rfl,hrd,ho⟩
  have hst:=HST.out.read hrd ho
  have cc:wn.cell? ⟨w.heap.size+1,4,none⟩=some (.int .i64 0):=hst.cell 4
  have ff:wn.frozen? ⟨w.heap.size+1,4,none⟩=false:=hst.free 4
  have HS2:=Hd hst
  clear hrd ho hst HST
  go_upto_region 7 with fail
  have hst:=GtSt.put (x2:=⟨y0,y1,y2,m1,m2,0,false,0,0,none,[],0,none,[],0,none,[],0⟩) HS2.out 4 (.int .i64 m2) rfl (fun h=>h)
  generalize wn.setCell ⟨w.heap.size+1,4,none⟩ (.int .i64 m2)=w6 at hst ⊢
  have HST:=Hd hst
  clear hst cc ff HS2 uw hv2
  obtain ⟨⟨m3,b3,l3⟩,hs3⟩:∃ z,numS b2 l2=z:=⟨_,rfl⟩
  have wf3:BytesWf l3:=by have:=(numS_shrinks b2 l2 WF2.out).1;rw [hs3] at this;exact this
  have hv3:N64 m3:=by
   rw [show m3=(numS b2 l2).1 by rw [hs3]]
   exact wrap_N64 _
  have HSN3:=Hd hs3
  have WF3:=Hd wf3
  have uw:IntKind.i64.wrap m3=m3:=wrap_of_N64 hv3
  clear hs3 wf3
  go_wp2_with fail
  refine (rnum_any w.heap.size (w.heap.size+2) b2 l2 m3 b3 l3 w6 HSN3.out HST.out.rd WF2.out).mono ?_
  rintro e wn ⟨rfl,hrd,ho⟩
  have hst:=HST.out.read hrd ho
  have cc:wn.cell? ⟨w.heap.size+1,5,none⟩=some (.int .i64 0):=hst.cell 5
  have ff:wn.frozen? ⟨w.heap.size+1,5,none⟩=false:=hst.free 5
  have HS2:=Hd hst
  clear hrd ho hst HST
  go_upto_region 8 with fail
  have hst:=GtSt.put (x2:=⟨y0,y1,y2,m1,m2,m3,false,0,0,none,[],0,none,[],0,none,[],0⟩) HS2.out 5 (.int .i64 m3) rfl (fun h=>h)
  generalize wn.setCell ⟨w.heap.size+1,5,none⟩ (.int .i64 m3)=w7 at hst ⊢
  have HST:=Hd hst
  clear hst cc ff HS2 uw hv3
  obtain ⟨k,ao',n',cap',xs',hi,hl3⟩:=HST.out.rd
  have hzz:=hi.z
  simp only [RefZ.mk.injEq] at hzz
  obtain ⟨rfl,rfl,rfl,rfl⟩:=hzz
  have hkn:=hi.at_
  have ck:w7.cell? ⟨w.heap.size+2,1,none⟩=some (.int .i64 k):=cob hi.blk 1
  have fk:w7.frozen? ⟨w.heap.size+2,1,none⟩=false:=ufb hi.blk 1
  have c6:w7.cell? ⟨w.heap.size+1,6,none⟩=some (.bool false):=HST.out.cell 6
  have f6:w7.frozen? ⟨w.heap.size+1,6,none⟩=false:=HST.out.free 6
  obtain ⟨okv,hok⟩:∃ okv:Bool,decide (l3.getD 0 0=1)=okv:=⟨_,rfl⟩
  have HOK:=Hd hok
  have HI:=Hd hi
  have HL3:=Hd hl3
  have WF4:=Hd (show BytesWf (l3.drop 1) from fun v hv=>WF3.out v (List.mem_of_mem_drop hv))
  clear hi hl3 hok
  go_upto_if 50 with fail
  go_cut [3] (fun v wq=>v=.int .i64 0∧GtSt w ⟨some ⟨bb,off,none⟩,n,cap,b⟩ w.heap.size ⟨y0,y1,y2,m1,m2,m3,okv,0,0,none,[],0,none,[],0,none,[],0⟩ b3 (l3.drop 1) wq)
  case first =>
   by_cases hlt:k<n
   ·
    have i5:(k:Int)<n:=by omega
    have hlk:l3.drop 1=b.drop (k+1):=by rw [HL3.out,List.drop_drop]
    have hgk:l3.getD 0 0=b.getD k 0:=by rw [HL3.out];simp [List.getD,List.getElem?_drop]
    obtain ⟨yk,hyk⟩:∃ y,b.getD k 0=y:=⟨_,rfl⟩
    have hcx:w7.cell? ⟨bb,off+k,none⟩=some (.int .u8 yk):=by
     rcases HX.out with h0 | ⟨b',off',e1,e2,e3⟩
     · have:=HN.out;rw [h0] at this;simp at this;omega
     ·
      cases e1
      rw [← hyk,← e3 k (by have:=HN.out;omega)]
      exact HST.out.below.cell (p:=⟨bb,_,none⟩) e2
    have HLK:=Hd hlk
    rw [hgk,hyk] at HOK
    clear hlk hgk hyk
    have hn6:IntKind.i64.wrap ((k:Int)+1)=(k:Int)+1:=IntWalk.i64_in _ (by omega)
    by_cases hy1:yk=1
    ·
     obtain rfl:true=okv:=by rw [← HOK.out];exact (decide_eq_true hy1).symm
     subst hy1
     go_upto_region 10 with fail
     have hst:=GtSt.put (x2:=⟨y0,y1,y2,m1,m2,m3,true,0,0,none,[],0,none,[],0,none,[],0⟩) HST.out 6 (.bool true) rfl (fun h=>h)
     have hr5:=HI.out.other (g:=w.heap.size+1) (i:=6) (by omega) (by omega) (.bool true)
     generalize w7.setCell ⟨w.heap.size+1,6,none⟩ (.bool true)=w8 at hst hr5 ⊢
     clear ck fk c6 f6
     have ck:w8.cell? ⟨w.heap.size+2,1,none⟩=some (.int .i64 k):=cob hr5.blk 1
     have fk:w8.frozen? ⟨w.heap.size+2,1,none⟩=false:=ufb hr5.blk 1
     have HS8:=Hd hst
     have HR8:=Hd hr5
     clear hst hr5
     go_wp2_with fail
     go_meet
     exact ⟨rfl,HS8.out.read (by rw [HLK.out];exact ⟨k+1,_,_,_,_,HR8.out.setAt (k+1) (by omega),rfl⟩) (Only.set (w.heap.size+2) w8 1 _)⟩
    ·
     obtain rfl:false=okv:=by rw [← HOK.out];exact (decide_eq_false hy1).symm
     have hy2:(yk == 1)=false:=beq_eq_false_iff_ne.2 hy1
     go_upto_region 10 with fail
     have hst:=GtSt.put (x2:=⟨y0,y1,y2,m1,m2,m3,false,0,0,none,[],0,none,[],0,none,[],0⟩) HST.out 6 (.bool false) rfl (fun h=>h)
     have hr5:=HI.out.other (g:=w.heap.size+1) (i:=6) (by omega) (by omega) (.bool false)
     generalize w7.setCell ⟨w.heap.size+1,6,none⟩ (.bool false)=w8 at hst hr5 ⊢
     clear ck fk c6 f6
     have ck:w8.cell? ⟨w.heap.size+2,1,none⟩=some (.int .i64 k):=cob hr5.blk 1
     have fk:w8.frozen? ⟨w.heap.size+2,1,none⟩=false:=ufb hr5.blk 1
     have HS8:=Hd hst
     have HR8:=Hd hr5
     clear hst hr5
     go_wp2_with fail
     go_meet
     exact ⟨rfl,HS8.out.read (by rw [HLK.out];exact ⟨k+1,_,_,_,_,HR8.out.setAt (k+1) (by omega),rfl⟩) (Only.set (w.heap.size+2) w8 1 _)⟩
   ·
    have i5:¬ (k:Int)<n:=by omega
    have hnil3:l3=[]:=by rw [HL3.out];exact List.drop_eq_nil_of_le (by have:=HN.out;omega)
    obtain rfl:false=okv:=by rw [← HOK.out,hnil3];rfl
    have HN3:=Hd hnil3
    clear hnil3
    go_wp2_with fail
    go_meet
    refine ⟨rfl,?_⟩
    have hh:=HST.out
    rw [HN3.out] at hh ⊢
    exact hh
  case rest =>
  obtain ⟨rfl,hst⟩:=hcut
  have HST:=Hd hst
  clear hst HI HL3 ck fk c6 f6 hkn
  obtain ⟨⟨m4,b4,l4⟩,hs4⟩:∃ z,numS b3 (l3.drop 1)=z:=⟨_,rfl⟩
  have wf4:BytesWf l4:=by have:=(numS_shrinks b3 (l3.drop 1) WF4.out).1;rw [hs4] at this;exact this
  have hv4:N64 m4:=by
   rw [show m4=(numS b3 (l3.drop 1)).1 by rw [hs4]]
   exact wrap_N64 _
  have HSN4:=Hd hs4
  have WF5:=Hd wf4
  have uw:IntKind.i64.wrap m4=m4:=wrap_of_N64 hv4
  clear hs4 wf4
  go_wp2_with fail
  refine (rnum_any w.heap.size (w.heap.size+2) b3 (l3.drop 1) m4 b4 l4 wc HSN4.out HST.out.rd WF4.out).mono ?_
  rintro e wn ⟨rfl,hrd,ho⟩
  have hst:=HST.out.read hrd ho
  have cc:wn.cell? ⟨w.heap.size+1,7,none⟩=some (.int .i64 0):=hst.cell 7
  have ff:wn.frozen? ⟨w.heap.size+1,7,none⟩=false:=hst.free 7
  have HS2:=Hd hst
  clear hrd ho hst HST
  go_upto_region 12 with fail
  have hst:=GtSt.put (x2:=⟨y0,y1,y2,m1,m2,m3,okv,m4,0,none,[],0,none,[],0,none,[],0⟩) HS2.out 7 (.int .i64 m4) rfl (fun h=>h)
  generalize wn.setCell ⟨w.heap.size+1,7,none⟩ (.int .i64 m4)=w8 at hst ⊢
  have HST:=Hd hst
  clear hst cc ff HS2 uw hv4
  obtain ⟨⟨m5,b5,l5⟩,hs5⟩:∃ z,numS b4 l4=z:=⟨_,rfl⟩
  have wf5:BytesWf l5:=by have:=(numS_shrinks b4 l4 WF5.out).1;rw [hs5] at this;exact this
  have hv5:N64 m5:=by
   rw [show m5=(numS b4 l4).1 by rw [hs5]]
   exact wrap_N64 _
  have HSN5:=Hd hs5
  have WF6:=Hd wf5
  have uw:IntKind.i64.wrap m5=m5:=wrap_of_N64 hv5
  clear hs5 wf5
  go_wp2_with fail
  refine (rnum_any w.heap.size (w.heap.size+2) b4 l4 m5 b5 l5 w8 HSN5.out HST.out.rd WF5.out).mono ?_
  rintro e wn ⟨rfl,hrd,ho⟩
  have hst:=HST.out.read hrd ho
  have cc:wn.cell? ⟨w.heap.size+1,8,none⟩=some (.int .i64 0):=hst.cell 8
  have ff:wn.frozen? ⟨w.heap.size+1,8,none⟩=false:=hst.free 8
  have HS2:=Hd hst
  clear hrd ho hst HST
  go_upto_region 13 with fail
  have hst:=GtSt.put (x2:=⟨y0,y1,y2,m1,m2,m3,okv,m4,m5,none,[],0,none,[],0,none,[],0⟩) HS2.out 8 (.int .i64 m5) rfl (fun h=>h)
  generalize wn.setCell ⟨w.heap.size+1,8,none⟩ (.int .i64 m5)=w9 at hst ⊢
  have HST:=Hd hst
  clear hst cc ff HS2 uw hv5
  obtain ⟨⟨q1,b6,l6⟩,hq1⟩:∃ z,fourS b5 l5=z:=⟨_,rfl⟩
  have HQ1:=Hd hq1
  clear hq1
  go_wp2_with fail
  refine (rfour_any w.heap.size (w.heap.size+2) b5 l5 (q1,b6,l6) w9 HQ1.out HST.out.rd WF6.out).mono ?_
  rintro e w10 ⟨rfl,hrd,ho⟩
  have hst:=HST.out.read hrd ho
  have HS10:=Hd hst
  clear hrd ho hst HST
  dsimp only
  go_wp2_with fail
  obtain ⟨⟨eT,bT,lT⟩,hT⟩:∃ z,refEs q1.toNat b6 l6=z:=⟨_,rfl⟩
  obtain ⟨hq0,hq1,hw6⟩:=fourS_fact WF6.out HQ1.out
  have hl6:l6.length≤n:=HS10.out.rd.len_le (by show b.length≤n;have:=HN.out;omega)
  have HT:=Hd hT
  have WF7:=Hd hw6
  have hq2:q1.toNat≤n:=by omega
  have hqn:((q1.toNat:Nat):Int)=q1:=Int.toNat_of_nonneg hq0
  rw [← hqn]
  obtain ⟨Q,hQQ⟩:∃ Q,q1.toNat=Q:=⟨_,rfl⟩
  rw [hQQ] at hq2 ⊢
  have HQQ:=Hd hQQ
  clear hQQ hT hq0 hq1 hw6 hqn
  go_loopw [6] (fun i wr=>∃ (m:Nat) (acc:List En) (b7:Bool) (l7:List Int) (ea:Option Addr) (ec:Nat),i=.int .i64 m∧(acc.map En.plain ++ (refEs m b7 l7).1,(refEs m b7 l7).2)=(eT,bT,lT)∧acc.length+m≤n∧GtSt w ⟨some ⟨bb,off,none⟩,n,cap,b⟩ w.heap.size ⟨y0,y1,y2,m1,m2,m3,okv,m4,m5,ea,acc,ec,none,[],0,none,[],0⟩ b7 l7 wr∧BytesWf l7∧l7.length≤n∧(b7=false→∀ e ∈ acc,EnFine e)) (fun i _=>(intOf i).toNat)
  case atStart=>exact ⟨Q,[],b6,l6,none,0,rfl,by rw [← HQQ.out];exact HT.out,by simpa using hq2,HS10.out,WF7.out,hl6,fun _ e he=>by cases he⟩
  case round =>
   clear HS10 WF7
   obtain ⟨m,acc,b7,l7,ea,ec,rfl,heq,hlen,hst,hwf,hll,hfi⟩:=hrel
   have HE:=Hd heq
   have HST:=Hd hst
   have WF7:=Hd hwf
   have HFI:=Hd hfi
   have d1:=hst.rd.badCell.1
   clear heq hst hwf hfi
   go_upto_region 14 with fail
   go_cut [83] (fun v wq=>v=.bool (decide (0<m) && !b7)∧wq=wr)
   case first =>
    cases m with
    | zero =>
     go_wp2_with fail
     go_meet
     exact ⟨by simp,rfl⟩
    | succ mq =>
     have j1:(0:Int)<(mq:Int)+1:=by omega
     go_wp2_with fail
     go_meet
     exact ⟨by simp,rfl⟩
   case rest =>
   obtain ⟨rfl,rfl⟩:=hcut
   clear d1
   by_cases hend:b7=true∨m=0
   ·
    have hv:(decide (0<m) && !b7)=false:=by rcases hend with rfl | rfl <;> simp
    rw [hv]
    have hfin:acc.map En.plain=eT∧b7=bT∧l7=lT:=by
     have h1:=HE.out
     rcases hend with h0 | h0
     ·
      subst h0
      rw [refEs_bad] at h1
      simpa using h1
     ·
      subst h0
      simpa [refEs] using h1
    obtain ⟨hf1,rfl,rfl⟩:=hfin
    have HF1:=Hd hf1
    clear hv hend HE hf1 hlen
    obtain ⟨⟨q2,b9,l9⟩,hq2'⟩:∃ z,fourS b7 l7=z:=⟨_,rfl⟩
    have HQ2:=Hd hq2'
    clear hq2'
    go_wp2_with fail
    refine (rfour_any w.heap.size (w.heap.size+2) b7 l7 (q2,b9,l9) wc HQ2.out HST.out.rd WF7.out).mono ?_
    rintro e w12 ⟨rfl,hrd,ho⟩
    have hst:=HST.out.read hrd ho
    have HS12:=Hd hst
    clear hrd ho hst HST
    dsimp only
    obtain ⟨hq20,hq21,hw9⟩:=fourS_fact WF7.out HQ2.out
    have WF9:=Hd hw9
    have hl9:l9.length≤n:=HS12.out.rd.len_le (by show b.length≤n;have:=HN.out;omega)
    have hq2n:((q2.toNat:Nat):Int)=q2:=Int.toNat_of_nonneg hq20
    obtain ⟨Q2,hQ2⟩:∃ Q2,q2.toNat=Q2:=⟨_,rfl⟩
    have hq2m:Q2≤n:=by omega
    rw [← hq2n,hQ2]
    have HQ2N:=Hd hQ2
    have hs12:w.heap.size+3≤w12.heap.size:=HS12.out.size
    have HLT:=Hd (show ∀ e ∈ acc,∀ g,(votV e).ownBlock=some g→g<w12.heap.size from fun e he g hg=>(World.ownsRow.lt (HS12.out.own.1.own e he).2 g hg).2)
    obtain ⟨⟨vT,bV,lV⟩,hV⟩:∃ z,refVs Q2 b9 l9=z:=⟨_,rfl⟩
    have HV:=Hd hV
    clear hV hQ2 hq20 hq21 hw9 hq2n
    iterate 7 go_step
    go_cut [8] (fun _ wq=>∃ (va:Option Addr) (vc:Nat),GtSt w ⟨some ⟨bb,off,none⟩,n,cap,b⟩ w.heap.size ⟨y0,y1,y2,m1,m2,m3,okv,m4,m5,ea,acc,ec,va,vT,vc,none,[],0⟩ bV lV wq∧BytesWf lV)
    case first =>
     go_wp2_with fail
     go_loopw [8] (fun i wr=>∃ (m:Nat) (ac:List Int) (bq:Bool) (lf:List Int) (va:Option Addr) (vc:Nat),i=.int .i64 m∧(ac ++ (refVs m bq lf).1,(refVs m bq lf).2)=(vT,bV,lV)∧ac.length+m≤n∧GtSt w ⟨some ⟨bb,off,none⟩,n,cap,b⟩ w.heap.size ⟨y0,y1,y2,m1,m2,m3,okv,m4,m5,ea,acc,ec,va,ac,vc,none,[],0⟩ bq lf wr∧BytesWf lf∧IntsOwn wr w12.heap.size va ac.length vc ac∧w12.heap.size≤wr.heap.size) (fun i _=>(intOf i).toNat)
     case atStart=>exact ⟨Q2,[],b9,l9,none,0,rfl,by rw [HV.out];rfl,by simpa using hq2m,HS12.out,WF9.out,IntsOwn.nil _ _,nlr _⟩
     case round =>
      clear HS12 WF9
      obtain ⟨m,ac,bq,lf,va,vc,rfl,heq,hlen,hst,hwf,hio,hle12⟩:=hrel
      have HIO:=Hd hio
      have HE:=Hd heq
      have HST:=Hd hst
      have WFL:=Hd hwf
      have d1:=hst.rd.badCell.1
      clear heq hst hwf hio
      go_upto_region 19 with fail
      go_cut [104] (fun v wq=>v=.bool (decide (0<m) && !bq)∧wq=wr)
      case first =>
       cases m with
       | zero =>
        go_wp2_with fail
        go_meet
        exact ⟨by simp,rfl⟩
       | succ mq =>
        have j1:(0:Int)<(mq:Int)+1:=by omega
        go_wp2_with fail
        go_meet
        exact ⟨by simp,rfl⟩
      case rest =>
      obtain ⟨rfl,rfl⟩:=hcut
      clear d1
      by_cases hend:bq=true∨m=0
      ·
       have hv:(decide (0<m) && !bq)=false:=by rcases hend with rfl | rfl <;> simp
       rw [hv]
       have hfin:ac=vT∧bq=bV∧lf=lV:=by
        have h1:=HE.out
        rcases hend with h0 | h0
        ·
         subst h0
         rw [refVs_bad] at h1
         simpa using h1
        ·
         subst h0
         simpa [refVs] using h1
       obtain ⟨rfl,rfl,rfl⟩:=hfin
       clear hv hend HE hlen
       go_wp2_with fail
       go_meet
       exact ⟨va,vc,HST.out,WFL.out⟩
      ·
       obtain ⟨mq,rfl⟩:∃ mq,m=mq+1:=⟨m - 1,by omega⟩
       obtain rfl:bq=false:=by
        cases bq with
        | true=>exact absurd (Or.inl rfl) hend
        | false=>rfl
       have hv:(decide (0<mq+1) && !false)=true:=by simp
       rw [hv]
       clear hend hv
       obtain ⟨k,ao',n',cap',xs',hi,hlk⟩:=HST.out.rd
       have hzz:=hi.z
       simp only [RefZ.mk.injEq] at hzz
       obtain ⟨rfl,rfl,rfl,rfl⟩:=hzz
       have hkn:=hi.at_
       have ck:wc.cell? ⟨w.heap.size+2,1,none⟩=some (.int .i64 k):=cob hi.blk 1
       have HI:=Hd hi
       have HLK:=Hd hlk
       clear hi hlk
       cases lf with
       | nil =>
        have hnk:n≤k:=by
         have h1:=HLK.out
         have h2:=congrArg List.length h1
         rw [List.length_drop,List.length_nil] at h2
         have:=HN.out
         omega
        have i5:(n:Int)≤k:=by omega
        have i6:decide ((n:Int)≤k)=true:=decide_eq_true i5
        have c2:wc.cell? ⟨w.heap.size+2,2,none⟩=some (.bool false):=cob HI.out.blk 2
        have f2:wc.frozen? ⟨w.heap.size+2,2,none⟩=false:=ufb HI.out.blk 2
        have hfin:ac=vT∧true=bV∧[]=lV:=by
         have h1:=HE.out
         unfold refVs at h1
         simpa using h1
        obtain ⟨rfl,rfl,rfl⟩:=hfin
        clear HE hlen
        go_wp2_with fail
        go_meet
        exact ⟨va,vc,HST.out.read ⟨k,_,_,_,_,HI.out.setBad true,HLK.out⟩ (Only.set (w.heap.size+2) wc 2 _),WFL.out⟩
       | cons v tl =>
        have hkl:k<n:=by
         have h2:=congrArg List.length HLK.out
         rw [List.length_drop,List.length_cons] at h2
         have:=HN.out
         omega
        have i5:¬ (n:Int)≤k:=by omega
        have i6:decide ((n:Int)≤k)=false:=decide_eq_false i5
        have i7:(k:Int)<n:=by omega
        have hbk:b.getD k 0=v:=by
         have h1:(b.drop k).getD 0 0=v:=by rw [← HLK.out];rfl
         rw [← h1];simp [List.getD,List.getElem?_drop]
        have htl:tl=b.drop (k+1):=by
         have h1:(b.drop k).drop 1=tl:=by rw [← HLK.out];rfl
         rw [← h1,List.drop_drop]
        have hvw:0≤v∧v<256:=WFL.out v List.mem_cons_self
        have ew:IntKind.i64.wrap v=v:=IntWalk.i64_in _ (by omega)
        obtain ⟨an,han⟩:∃ an,ac.length=an:=⟨_,rfl⟩
        have l10:wc.cell? ⟨w.heap.size+1,10,none⟩=some (.slice va an vc):=by rw [← han];exact cob HST.out.blk 10
        have hcx:bb<w.heap.size∧wc.cell? ⟨bb,off+k,none⟩=some (.int .u8 v):=by
         rcases HX.out with h0 | ⟨b',off',e1,e2,e3⟩
         · have:=HN.out;rw [h0] at this;simp at this;omega
         ·
          cases e1
          rw [← hbk,← e3 k (by have:=HN.out;omega)]
          exact ⟨e2,HST.out.below.cell (p:=⟨bb,_,none⟩) e2⟩
        have hint:IntsOwn wc w12.heap.size va an vc ac:=by have h:=HIO.out;rw [← han];exact h
        have hszc:=HST.out.size
        have HCL:=Hd (show ∀ w':World,(wc.heap.size≤w'.heap.size∧∀ b,b<w.heap.size+3→b ≠ w.heap.size+1→w'.heap[b]?=wc.heap[b]?)→w'.cell? ⟨w.heap.size+2,1,none⟩=some (.int .i64 k)∧w'.cell? ⟨bb,off+k,none⟩=some (.int .u8 v) from fun w' h =>
         ⟨(World.cell?_of_block (a:=⟨w.heap.size+2,1,none⟩) (h.2 (w.heap.size+2) (by omega) (by omega))).trans ck,(World.cell?_of_block (a:=⟨bb,off+k,none⟩) (h.2 bb (by have:=hcx.1;omega) (by have:=hcx.1;omega))).trans hcx.2⟩)
        have HINT:=Hd hint
        have HAN:=Hd han
        have HTL:=Hd htl
        have HL10:=Hd l10
        clear hbk htl hint han hcx l10
        go_upto_region 23 with fail
        clear ck i5 i6
        refine heldS_begin (fun w'=>wc.heap.size≤w'.heap.size∧∀ b,b<w.heap.size+3→b ≠ w.heap.size+1→w'.heap[b]?=wc.heap[b]?) (by kernel_rfl) ⟨nlr _,fun _ _ _=>rfl⟩ ?_
        intro hS0
        (first | (refine tkn 0 rfl ?_) | (refine tky (v:=?_) 0 rfl ?_ ?_;rotate_left;focus (intro wS hSw;obtain ⟨e1,e2⟩:=HCL.out wS hSw;go_simp;first | done | with_reducible rfl)))
        (try simp only [Act.put,ssa,ssb,ssc])
        (first | (refine tkn 2 rfl ?_) | (refine tky (v:=?_) 2 rfl ?_ ?_;rotate_left;focus (intro wS hSw;obtain ⟨e1,e2⟩:=HCL.out wS hSw;go_simp;first | done | with_reducible rfl)))
        (try simp only [Act.put,ssa,ssb,ssc])
        (first | (refine tkn 3 rfl ?_) | (refine tky (v:=?_) 3 rfl ?_ ?_;rotate_left;focus (intro wS hSw;obtain ⟨e1,e2⟩:=HCL.out wS hSw;go_simp;first | done | with_reducible rfl)))
        (try simp only [Act.put,ssa,ssb,ssc])
        (first | (refine tkn 4 rfl ?_) | (refine tky (v:=?_) 4 rfl ?_ ?_;rotate_left;focus (intro wS hSw;obtain ⟨e1,e2⟩:=HCL.out wS hSw;go_simp;first | done | with_reducible rfl)))
        (try simp only [Act.put,ssa,ssb,ssc])
        (first | (refine tkn 5 rfl ?_) | (refine tky (v:=?_) 5 rfl ?_ ?_;rotate_left;focus (intro wS hSw;obtain ⟨e1,e2⟩:=HCL.out wS hSw;go_simp;first | done | with_reducible rfl)))
        (try simp only [Act.put,ssa,ssb,ssc])
        (first | (refine tkn 6 rfl ?_) | (refine tky (v:=?_) 6 rfl ?_ ?_;rotate_left;focus (intro wS hSw;obtain ⟨e1,e2⟩:=HCL.out wS hSw;go_simp;first | done | with_reducible rfl)))
        (try simp only [Act.put,ssa,ssb,ssc])
        (first | (refine tkn 7 rfl ?_) | (refine tky (v:=?_) 7 rfl ?_ ?_;rotate_left;focus (intro wS hSw;obtain ⟨e1,e2⟩:=HCL.out wS hSw;go_simp;first | done | with_reducible rfl)))
        (try simp only [Act.put,ssa,ssb,ssc])
        (first | (refine tkn 8 rfl ?_) | (refine tky (v:=?_) 8 rfl ?_ ?_;rotate_left;focus (intro wS hSw;obtain ⟨e1,e2⟩:=HCL.out wS hSw;go_simp;first | done | with_reducible rfl)))
        (try simp only [Act.put,ssa,ssb,ssc])
        (first | (refine tkn 9 rfl ?_) | (refine tky (v:=?_) 9 rfl ?_ ?_;rotate_left;focus (intro wS hSw;obtain ⟨e1,e2⟩:=HCL.out wS hSw;go_simp;first | done | with_reducible rfl)))
        (try simp only [Act.put,ssa,ssb,ssc])
        refine takeS_two 1 10 rfl rfl (by kernel_rfl) (by rfl) (by rfl) (fun K hK=>?_) (fun K hK=>?_)
        rotate_left
        focus
         go_simp
         have hbk:(wc.alloc (.cells #[.int .i64 v] 3)).drew.heap[wc.heap.size]?=some (.cells #[.int .i64 v] 3 (0,0)):=heap_alloc_new wc _
         have hal:Below wc.heap.size wc (wc.alloc (.cells #[.int .i64 v] 3)).drew:=((Below.refl wc.heap.size wc).alloc (nlr _) _).drew
         have hz2:(wc.alloc (.cells #[.int .i64 v] 3)).drew.heap.size=wc.heap.size+1:=by show (wc.alloc _).heap.size=_;simp
         generalize (wc.alloc (.cells #[.int .i64 v] 3)).drew=w2 at hbk hal hz2 ⊢
         have hS2:wc.heap.size≤w2.heap.size∧∀ b,b<w.heap.size+3→b ≠ w.heap.size+1→w2.heap[b]?=wc.heap[b]?:=⟨by omega,fun b hb _=>hal.block b (by omega)⟩
         refine hK.out _ _ hS2 ?_
         clear hK K
         (try simp only [Act.put,ssa,ssb,ssc])
         refine takeS_alone 1 rfl (by kernel_rfl) (by rfl) (fun K hK=>?_)
         have l10:w2.cell? ⟨w.heap.size+1,10,none⟩=some (.slice va an vc):=(hal.cell (p:=⟨w.heap.size+1,10,none⟩) (show w.heap.size+1<wc.heap.size by omega)).trans HL10.out
         go_simp
         refine hK.out _ _ hS2 ?_
         clear hK K l10
         (try simp only [Act.put,ssa,ssb,ssc])
        rotate_left
        focus
         have l10:wc.cell? ⟨w.heap.size+1,10,none⟩=some (.slice va an vc):=HL10.out
         go_simp
         refine hK.out _ _ hS0 ?_
         clear hK K l10
         (try simp only [Act.put,ssa,ssb,ssc])
         refine takeS_alone 10 rfl (by kernel_rfl) (by rfl) (fun K hK=>?_)
         go_simp
         have hbk:(wc.alloc (.cells #[.int .i64 v] 3)).drew.heap[wc.heap.size]?=some (.cells #[.int .i64 v] 3 (0,0)):=heap_alloc_new wc _
         have hal:Below wc.heap.size wc (wc.alloc (.cells #[.int .i64 v] 3)).drew:=((Below.refl wc.heap.size wc).alloc (nlr _) _).drew
         have hz2:(wc.alloc (.cells #[.int .i64 v] 3)).drew.heap.size=wc.heap.size+1:=by show (wc.alloc _).heap.size=_;simp
         generalize (wc.alloc (.cells #[.int .i64 v] 3)).drew=w2 at hbk hal hz2 ⊢
         have hS2:wc.heap.size≤w2.heap.size∧∀ b,b<w.heap.size+3→b ≠ w.heap.size+1→w2.heap[b]?=wc.heap[b]?:=⟨by omega,fun b hb _=>hal.block b (by omega)⟩
         refine hK.out _ _ hS2 ?_
         clear hK K
         (try simp only [Act.put,ssa,ssb,ssc])
        all_goals
         have hst2:=HST.out.grow hal
         have hin2:=HINT.out.below hal (nlr _)
         refine takeS_alone 11 rfl (by kernel_rfl) (by rfl) (fun K hK=>?_)
         refine oper_append_int (.tmp 118) (.tmp 127) rfl w12.heap.size (by rfl) hin2 wc.heap.size v hbk (by rfl) (by have:=HAN.out;omega) (by omega) ?_
         intro va2 vc2 w3 hown3 hg3
         have hlo3:∀ g,(Value.slice va an vc).ownBlock=some g→w.heap.size+3≤g:=fun g hg=>Nat.le_trans hs12 (World.ownsRow.lt hin2 g hg).1
         have hbl3:Below (w.heap.size+3) wc w3:=(hal.mono hszc).trans ((Below.refl _ _).grown hg3 (by omega) hlo3)
         have hrf:=HI.out.tov (hbl3.mono (by omega)) (hbl3.block (w.heap.size+2) (by omega))
         have hk3:w3.heap[w.heap.size+1]?=_:=(hbl3.block (w.heap.size+1) (by omega)).trans HST.out.blk
         have c10:w3.cell? ⟨w.heap.size+1,10,none⟩=some (.slice va an vc):=by rw [← HAN.out];exact cob hk3 10
         have f10:w3.frozen? ⟨w.heap.size+1,10,none⟩=false:=ufb hk3 10
         have hsz3:w2.heap.size≤w3.heap.size:=hg3.size
         have hst3:GtSt w ⟨some ⟨bb,off,none⟩,n,cap,b⟩ w.heap.size ⟨y0,y1,y2,m1,m2,m3,okv,m4,m5,ea,acc,ec,va2,ac ++ [v],vc2,none,[],0⟩ false (v :: tl) (w3.setCell ⟨w.heap.size+1,10,none⟩ (.slice va2 (an+1) vc2)):=hst2.app hg3 hlo3 10 (.slice va2 (an+1) vc2) (by rw [← HAN.out];simp [ltArr]) ⟨hst2.own.1.grownI hin2 HLT.out hg3,by rw [List.length_append,HAN.out];exact hown3.le hs12,World.ownsRow_nil _ _ _ _⟩
         have hrf4:=hrf.other (g:=w.heap.size+1) (i:=10) (by omega) (by omega) (.slice va2 (an+1) vc2)
         have hin4:=hown3.only (Only.set (w.heap.size+1) w3 10 (.slice va2 (an+1) vc2)) (by omega)
         have hS3:wc.heap.size≤w3.heap.size∧∀ b,b<w.heap.size+3→b ≠ w.heap.size+1→w3.heap[b]?=wc.heap[b]?:=⟨by omega,fun b hb _=>hbl3.block b hb⟩
         have hS4:wc.heap.size≤(w3.setCell ⟨w.heap.size+1,10,none⟩ (.slice va2 (an+1) vc2)).heap.size∧∀ b,b<w.heap.size+3→b ≠ w.heap.size+1→(w3.setCell ⟨w.heap.size+1,10,none⟩ (.slice va2 (an+1) vc2)).heap[b]?=wc.heap[b]?:=⟨by simpa using hS3.1,fun b hb hne=>(heap_setCell_other _ _ _ _ hne).trans (hS3.2 b hb hne)⟩
         refine hK.out _ _ hS3 ?_
         clear hK K
         (try simp only [Act.put,ssa,ssb,ssc])
         (first | (refine tkn 12 rfl ?_) | (refine tky (v:=?_) 12 rfl ?_ ?_;rotate_left;focus (intro wS hSw;obtain ⟨e1,e2⟩:=HCL.out wS hSw;go_simp;first | done | with_reducible rfl)))
         (try simp only [Act.put,ssa,ssb,ssc])
         refine takeS_alone 13 rfl (by kernel_rfl) (by rfl) (fun K hK=>?_)
         go_simp
         generalize w3.setCell ⟨w.heap.size+1,10,none⟩ (.slice va2 (an+1) vc2)=w4 at hst3 hrf4 hin4 hS4 ⊢
         refine hK.out _ _ hS4 ?_
         clear hK K c10 f10
         (try simp only [Act.put,ssa,ssb,ssc])
         refine wpAnyH_done (by kernel_rfl) ?_ _
         have HST4:=Hd hst3
         have HRF4:=Hd hrf4
         have HIN4:=Hd hin4
         have hz4:w12.heap.size≤w4.heap.size:=by have:=hS4.1;omega
         clear hst2 hin2 hown3 hg3 hlo3 hbl3 hrf hk3 hsz3 hst3 hrf4 hin4 hS3 hS4 hS2 hal hz2 hbk hS0
         have ck:w4.cell? ⟨w.heap.size+2,1,none⟩=some (.int .i64 k):=cob HRF4.out.blk 1
         have fk:w4.frozen? ⟨w.heap.size+2,1,none⟩=false:=ufb HRF4.out.blk 1
         have hn6:IntKind.i64.wrap ((k:Int)+1)=(k:Int)+1:=IntWalk.i64_in _ (by omega)
         go_wp2_with fail
         refine ⟨⟨mq,ac ++ [v],false,tl,va2,vc2,rfl,?_,?_,HST4.out.read ⟨k+1,_,_,_,_,HRF4.out.setAt (k+1) (by omega),HTL.out⟩ (Only.set (w.heap.size+2) w4 1 _),?_,?_,?_⟩,?_⟩
         ·
          have h:=HE.out
          unfold refVs at h
          rw [if_neg (by decide)] at h
          dsimp only at h
          rw [← h,List.append_assoc]
          rfl
         ·
          rw [List.length_append]
          simp only [List.length_cons,List.length_nil]
          omega
         · exact fun x hx=>WFL.out x (List.mem_cons_of_mem _ hx)
         ·
          rw [List.length_append,HAN.out]
          exact HIN4.out.only (Only.set (w.heap.size+2) w4 1 _) (by omega)
         · simpa using hz4
         ·
          show ((mq:Int)).toNat<(((mq+1:Nat)):Int).toNat
          omega
    case rest =>
     obtain ⟨va,vc,hst,hwfV⟩:=hcut
     have HST:=Hd hst
     have WFV:=Hd hwfV
     clear hst hwfV HS12
     obtain ⟨⟨q3,bQ,lq⟩,hq3⟩:∃ z,fourS bV lV=z:=⟨_,rfl⟩
     have HQ3:=Hd hq3
     clear hq3
     go_wp2_with fail
     refine (rfour_any w.heap.size (w.heap.size+2) bV lV (q3,bQ,lq) wc HQ3.out HST.out.rd WFV.out).mono ?_
     rintro e w14 ⟨rfl,hrd,ho⟩
     have hst:=HST.out.read hrd ho
     have HS14:=Hd hst
     clear hrd ho hst HST
     dsimp only
     have hread:refReadL b=if bQ=true then none else some ⟨y0,y1,y2,m1,m2,m3,okv,m4,m5,eT,vT,lq⟩:=by
      have ht:=HT.out
      try rw [HQQ.out] at ht
      have h2:=HV.out
      unfold refReadL
      simp only [HSN1.out,HSN2.out,HSN3.out,HSN4.out,HSN5.out,HQ1.out,HQQ.out,ht,HQ2.out,HQ2N.out,h2,HQ3.out,HOK.out,HY.out.1,HY.out.2.1,HY.out.2.2]
     have d2:=HS14.out.rd.badCell.1
     have HRD:=Hd hread
     clear hread
     have hbk:=HS14.out.res
     cases bQ with
     | true =>
      go_wp2_with (refine wpList_store_row rfl 27 (.tmp 2) (.tmp 143) rfl w.heap.size (ltArr zeroT) rfl (by first | rfl | simp) 27 _ hbk (info_lt2 zeroT) rfl (ltArr_one zeroT) ?_;rw [setRow_same hbk])
      have hg:r=(zeroL,4):=by rw [← HR.out];unfold refGetL;rw [if_neg (by have:=HN.out;omega),HRD.out];first | rw [if_pos rfl] | rw [if_pos trivial]
      exact get_end rfl hbk HS14.out.below rfl rfl (by rw [hg]) (by rw [hg];rfl) zeroT_fine (OwnLt.zero _ _)
     | false =>
      obtain ⟨k,ao',n',cap',xs',hi,hlk⟩:=HS14.out.rd
      have hzz:=hi.z
      simp only [RefZ.mk.injEq] at hzz
      obtain ⟨rfl,rfl,rfl,rfl⟩:=hzz
      have hkn:=hi.at_
      have ck:w14.cell? ⟨w.heap.size+2,1,none⟩=some (.int .i64 k):=cob hi.blk 1
      dsimp only at hlk
      have HLK:=Hd hlk
      clear hi hlk
      obtain ⟨sa,hsa⟩:∃ z,subA (some ⟨bb,off,none⟩) cap k 1=z:=⟨_,rfl⟩
      obtain ⟨cq,hcq⟩:∃ z,cap - k=z:=⟨_,rfl⟩
      have hlqn:n - k=lq.length:=by rw [HLK.out,List.length_drop];have:=HN.out;omega
      have hsl:∀ w',(Instr.sliceAt 25 (.slice (some ⟨bb,off,none⟩) n cap) (some (.int .i64 (k:Int))) none none).run Tryz.prog w'=.ok (.slice sa lq.length cq) w':=fun w'=>by
       have h1:=run_sub_l sliceByte sizeByte (some ⟨bb,off,none⟩) n cap k hkn .i64 (k:Int) rfl w'
       rw [hsa,hcq,hlqn] at h1
       exact h1
      have hal:=(Below.refl w14.heap.size w14).alloc (nlr _) (.cells #[] 5)
      have hz14:=HS14.out.size
      have hin:BytesIn (w14.alloc (.cells #[] 5)) w.heap.size sa lq:=by
       have h0:=HX.out.below (HS14.out.below.trans (hal.mono (by omega))) (nlr _)
       have h1:=BytesIn.sub (cap:=cap) k b.length h0 (by have:=HN.out;omega)
       rw [hsa,List.take_of_length_le (by rw [List.length_drop];omega),← HLK.out] at h1
       exact h1
      have hsn:sa=none→cq=0:=fun e=>by rw [e] at hsa;exact absurd (subA_eq_none hsa) (by simp)
      have hlq:lq.length≤1048576:=by omega
      have HIN:=Hd hin
      have HSN:=Hd hsn
      have HAL:=Hd hal
      have ck2:(w14.alloc (.cells #[] 5)).cell? ⟨w.heap.size+2,1,none⟩=some (.int .i64 k):=(hal.cell (p:=⟨w.heap.size+2,1,none⟩) (show w.heap.size+2<w14.heap.size by omega)).trans ck
      clear hin hsn hal hsa hcq hlqn
      go_wp2_with go_loud (at_builtin;refine wpList_append_bytes rfl (.tmp 144) (.tmp 150) rfl w14.heap.size _ [] rfl (World.ownsRow_lit _ #[] 0 (nlr _) (by unfold maxLen;omega) rfl) sa cq lq rfl w.heap.size HIN.out HSN.out (by simp;omega) (by simp) ?_)
      intro v15 w15 hown15 hg15
      obtain ⟨ia,ic,hv15⟩:=row_slice hown15
      subst hv15
      have hb15:Below w14.heap.size w14 w15:=HAL.out.trans ((Below.refl _ _).grown hg15 (by simp) (fun g hg=>by simp [Value.ownBlock] at hg;omega))
      have hst15:=HS14.out.grow hb15
      have l11:w15.cell? ⟨w.heap.size+1,11,none⟩=some (.slice none 0 0):=hst15.cell 11
      have f11:w15.frozen? ⟨w.heap.size+1,11,none⟩=false:=hst15.free 11
      have hst16:=hst15.put (x2:=⟨y0,y1,y2,m1,m2,m3,okv,m4,m5,ea,acc,ec,va,vT,vc,ia,lq,ic⟩) 11 (.slice ia lq.length ic) rfl (fun h=>⟨h.1,h.2.1,Go.Joins.ownsRow_le (own_only' hown15 (Only.set (w.heap.size+1) w15 11 (.slice ia lq.length ic)) (by omega)) (by omega)⟩)
      have HS16:=Hd hst16
      clear hown15 hg15 hb15 hst15 hst16 hsl HIN ck ck2
      go_upto_region 29 with fail
      generalize w15.setCell ⟨w.heap.size+1,11,none⟩ (.slice ia lq.length ic)=w16 at HS16 ⊢
      clear l11 f11 d2 hbk
      have hbV:bV=false:=(fourS_bad (b:=bV) (l:=lV) (by rw [HQ3.out])).1
      have hb9:b9=false:=by
       cases b9 with
       | false=>rfl
       | true =>
        have h:=HV.out
        rw [refVs_bad] at h
        simp only [Prod.mk.injEq] at h
        rw [← h.2.1] at hbV
        cases hbV
      have hb7:b7=false:=(fourS_bad (b:=b7) (l:=l7) (by rw [HQ2.out];exact hb9)).1
      have hfine:LtFine ⟨y0,y1,y2,m1,m2,m3,okv,m4,m5,ea,acc,ec,va,vT,vc,ia,lq,ic⟩:=by
       have hel:=refEs_len Q b6 l6
       rw [← HQQ.out,HT.out,← HF1.out,List.length_map] at hel
       have hvl:=refVs_len Q2 b9 l9
       rw [HV.out] at hvl
       have hvw:=refVs_wf Q2 b9 l9 WF9.out
       rw [HV.out] at hvw
       have hqn:=HQQ.out
       dsimp only at hel hvl hvw
       exact
        { kind:=by rw [← HY.out.1];exact wf_getD HW.out 0,fr:=n64_byte (by rw [← HY.out.2.1];exact wf_getD HW.out 1),tov:=n64_byte (by rw [← HY.out.2.2];exact wf_getD HW.out 2),term:=by rw [show m1=(numS false (b.drop 3)).1 by rw [HSN1.out]];exact wrap_N64 _,index:=by rw [show m2=(numS b1 l1).1 by rw [HSN2.out]];exact wrap_N64 _,was:=by rw [show m3=(numS b2 l2).1 by rw [HSN3.out]];exact wrap_N64 _,commit:=by rw [show m4=(numS b3 (l3.drop 1)).1 by rw [HSN4.out]];exact wrap_N64 _,round:=by rw [show m5=(numS b4 l4).1 by rw [HSN5.out]];exact wrap_N64 _,es:=HFI.out hb7,en:=by show acc.length≤_;omega,vs:=fun v hv=>n64_byte (hvw v hv),vn:=by show vT.length≤_;omega,im:=fun v hv=>(by have hv2:v ∈ b.drop k:=(by rw [← HLK.out];exact hv);exact HW.out v (List.mem_of_mem_drop hv2)),ln:=by show lq.length≤_;omega,enil:=own_none HS16.out.own.1.row,vnil:=own_none HS16.out.own.2.1,inil:=own_none HS16.out.own.2.2,icap:=own_capG HS16.out.own.2.2 }
      have hpl:(⟨y0,y1,y2,m1,m2,m3,okv,m4,m5,ea,acc,ec,va,vT,vc,ia,lq,ic⟩:Lt).plain=⟨y0,y1,y2,m1,m2,m3,okv,m4,m5,eT,vT,lq⟩:=by show LtP.mk y0 y1 y2 m1 m2 m3 okv m4 m5 (acc.map En.plain) vT lq=_;rw [HF1.out]
      have HFN:=Hd hfine
      have HPL:=Hd hpl
      obtain ⟨⟨bs,er⟩,hput⟩:∃ z,putL2 (⟨y0,y1,y2,m1,m2,m3,okv,m4,m5,ea,acc,ec,va,vT,vc,ia,lq,ic⟩:Lt).plain=z:=⟨_,rfl⟩
      have HPUT:=Hd hput
      have hrg:w16.rangeAt (w.heap.size+1) 0 (ltArr ⟨y0,y1,y2,m1,m2,m3,okv,m4,m5,ea,acc,ec,va,vT,vc,ia,lq,ic⟩).toList:=by
       intro j v hv
       rw [Nat.zero_add,cob HS16.out.blk,← Array.getElem?_toList]
       exact hv
      clear hfine hpl hput hbV hb9 hb7
      go_wp2_with (refine wpList_load_mid rfl 27 (.tmp 4) rfl (w.heap.size+1) 0 rfl (ltArr ⟨y0,y1,y2,m1,m2,m3,okv,m4,m5,ea,acc,ec,va,vT,vc,ia,lq,ic⟩).toList _ hrg Tryz.underlying27 rfl (info_lt3 ⟨y0,y1,y2,m1,m2,m3,okv,m4,m5,ea,acc,ec,va,vT,vc,ia,lq,ic⟩) ?_)
      refine (rput21_any ⟨y0,y1,y2,m1,m2,m3,okv,m4,m5,ea,acc,ec,va,vT,vc,ia,lq,ic⟩ w16 (own_ltSub HS16.out.own) HFN.out bs er HPUT.out).mono ?_
      rintro e w17 ⟨a,c4,rfl,hbi,hbn,hbc,_,b17⟩
      have hst17:=HS16.out.grow b17
      have hbk:=hst17.res
      have hgl:refGetL b=if er=0∧bs=b then (⟨y0,y1,y2,m1,m2,m3,okv,m4,m5,eT,vT,lq⟩,0) else (zeroL,4):=by
       unfold refGetL
       rw [if_neg (by have:=HN.out;omega),HRD.out,if_neg (by decide)]
       dsimp only
       rw [← HPL.out,HPUT.out]
      rw [HR.out] at hgl
      have HGL:=Hd hgl
      have hc1:(convert 25 9 (.slice a bs.length c4)).run Tryz.prog w17=.ok (.string (strOfNums bs)) w17:=conv_nums rfl hbi hbn
      have hc2:(convert 25 9 (.slice (some ⟨bb,off,none⟩) n cap)).run Tryz.prog w17=.ok (.string (strOfNums b)) w17:=conv_nums HN.out (HX.out.below hst17.below (nlr _)) hnil
      obtain ⟨s1,hs1⟩:∃ s,strOfNums bs=s:=⟨_,rfl⟩
      obtain ⟨s2,hs2⟩:∃ s,strOfNums b=s:=⟨_,rfl⟩
      have hbl:=HFN.out.bytes
      have hwb:BytesWf bs:=by
       have hp:=HPUT.out
       unfold putL2 at hp
       split at hp
       · cases hp;intro x hx;cases hx
       ·
        rename_i hrt
        split at hp
        · cases hp;intro x hx;cases hx
        ·
         cases hp
         exact hbl (by simpa using hrt)
      have hsame:bs=b ↔ s1.toList=s2.toList:=by
       rw [← hs1,← hs2,Lib.strOfNums_toList,Lib.strOfNums_toList]
       exact ⟨fun h=>by rw [h],bytesOf_inj hwb HW.out⟩
      rw [hs1] at hc1
      rw [hs2] at hc2
      obtain ⟨bn,hbln⟩:∃ z,bs.length=z:=⟨_,rfl⟩
      rw [hbln] at hc1 ⊢
      have HS17:=Hd hst17
      have HSM:=Hd hsame
      clear hst17 hgl b17 hbi hbn hbc hs1 hs2 hbln hwb hbl hsame hrg
      by_cases he0:er=0
      ·
       subst he0
       by_cases hss:s1.toList=s2.toList
       ·
        have q1':(s1.toList == s2.toList)=true:=beq_iff_eq.2 hss
        have hg:r=(⟨y0,y1,y2,m1,m2,m3,okv,m4,m5,eT,vT,lq⟩,0):=by rw [HGL.out,if_pos ⟨rfl,HSM.out.2 hss⟩]
        have HG:=Hd hg
        clear hg
        have hrg:w17.rangeAt (w.heap.size+1) 0 (ltArr ⟨y0,y1,y2,m1,m2,m3,okv,m4,m5,ea,acc,ec,va,vT,vc,ia,lq,ic⟩).toList:=by
         intro j v hv
         rw [Nat.zero_add,cob HS17.out.blk,← Array.getElem?_toList]
         exact hv
        go_wp2_with (first | (refine wpList_load_mid rfl 27 (.tmp 4) rfl (w.heap.size+1) 0 rfl (ltArr ⟨y0,y1,y2,m1,m2,m3,okv,m4,m5,ea,acc,ec,va,vT,vc,ia,lq,ic⟩).toList _ hrg Tryz.underlying27 rfl (info_lt3 ⟨y0,y1,y2,m1,m2,m3,okv,m4,m5,ea,acc,ec,va,vT,vc,ia,lq,ic⟩) ?_) | (refine wpList_store_row rfl 27 (.tmp 2) (.tmp 168) rfl w.heap.size (ltArr ⟨y0,y1,y2,m1,m2,m3,okv,m4,m5,ea,acc,ec,va,vT,vc,ia,lq,ic⟩) rfl (by first | rfl | simp) 27 _ hbk (info_lt2 ⟨y0,y1,y2,m1,m2,m3,okv,m4,m5,ea,acc,ec,va,vT,vc,ia,lq,ic⟩) rfl (ltArr_one ⟨y0,y1,y2,m1,m2,m3,okv,m4,m5,ea,acc,ec,va,vT,vc,ia,lq,ic⟩) ?_))
        have ho:=only_setRow w.heap.size w17 (ltArr ⟨y0,y1,y2,m1,m2,m3,okv,m4,m5,ea,acc,ec,va,vT,vc,ia,lq,ic⟩)
        have hz17:=HS17.out.size
        exact get_end rfl (setRow_heap w17 w.heap.size _ (ltArr ⟨y0,y1,y2,m1,m2,m3,okv,m4,m5,ea,acc,ec,va,vT,vc,ia,lq,ic⟩) _ _ hbk) (HS17.out.below.trans (ho.toBelow (by omega) (nlr _))) rfl rfl (by rw [HG.out]) (by rw [HG.out];exact HPL.out) HFN.out ⟨(HS17.out.own.1.only ho (by omega)).le (by omega),(HS17.out.own.2.1.only ho (by omega)).le (by omega),Go.Joins.ownsRow_le (own_only' HS17.out.own.2.2 ho (by omega)) (by omega)⟩
       ·
        have q1':(s1.toList == s2.toList)=false:=beq_eq_false_iff_ne.2 hss
        have hg:r=(zeroL,4):=by rw [HGL.out,if_neg (fun h=>hss (HSM.out.1 h.2))]
        have HG:=Hd hg
        clear hg
        go_wp2_with (refine wpList_store_row rfl 27 (.tmp 2) (.tmp 167) rfl w.heap.size (ltArr zeroT) rfl (by first | rfl | simp) 27 _ hbk (info_lt2 zeroT) rfl (ltArr_one zeroT) ?_;rw [setRow_same hbk])
        exact get_end rfl hbk HS17.out.below rfl rfl (by rw [HG.out]) (by rw [HG.out];rfl) zeroT_fine (OwnLt.zero _ _)
      ·
       have q1':(er == 0)=false:=by simpa using he0
       have q2':(er != 0)=true:=by simpa using he0
       have hg:r=(zeroL,4):=by rw [HGL.out,if_neg (fun h=>he0 h.1)]
       have HG:=Hd hg
       clear hg
       go_wp2_with (refine wpList_store_row rfl 27 (.tmp 2) (.tmp 167) rfl w.heap.size (ltArr zeroT) rfl (by first | rfl | simp) 27 _ hbk (info_lt2 zeroT) rfl (ltArr_one zeroT) ?_;rw [setRow_same hbk])
       exact get_end rfl hbk HS17.out.below rfl rfl (by rw [HG.out]) (by rw [HG.out];rfl) zeroT_fine (OwnLt.zero _ _)
   ·
    obtain ⟨mq,rfl⟩:∃ mq,m=mq+1:=⟨m - 1,by omega⟩
    obtain rfl:b7=false:=by
     cases b7 with
     | true=>exact absurd (Or.inl rfl) hend
     | false=>rfl
    have hv:(decide (0<mq+1) && !false)=true:=by simp
    rw [hv]
    clear hend hv
    obtain ⟨⟨eP,b8,l8⟩,hq⟩:∃ q,entryS false l7=q:=⟨_,rfl⟩
    have HQ:=Hd hq
    clear hq
    go_wp2_with fail
    refine (rrEntry_any w.heap.size (w.heap.size+2) false l7 (eP,b8,l8) wc HQ.out HST.out.rd WF7.out).mono ?_
    rintro e w20 ⟨f,hp,rfl,⟨hv1,hv2⟩,hrd,ho⟩
    dsimp only at hp hrd
    have hst:=HST.out.read hrd ho
    have HS20:=Hd hst
    have hsz20:w.heap.size+3≤wc.heap.size:=HST.out.size
    have hsz21:=ho.1
    have HEO:=Hd (show enOwn w20 wc.heap.size f from ⟨hv1,hv2⟩)
    have HPL:=Hd hp
    have HNC:=Hd (And.intro (own_none hv1) (And.intro (own_none hv2) (And.intro (own_capG hv1) (own_capG hv2))))
    have HOP:=Hd HST.out.own.1.own
    clear hst hrd ho hp hv1 hv2 HST
    obtain ⟨etm,ekd,ess,esq,eck,etext,eaao,eargs,eacap,enum,evao,evs,evcap⟩:=f
    obtain ⟨nn,hnn⟩:∃ nn,eargs.length=nn:=⟨_,rfl⟩
    obtain ⟨mm2,hmm2⟩:∃ mm,evs.length=mm:=⟨_,rfl⟩
    simp only [enVal]
    rw [hnn,hmm2]
    have HNN:=Hd hnn
    have HMM:=Hd hmm2
    clear hnn hmm2
    have hal:=(Below.refl w20.heap.size w20).alloc (nlr _) (.cells #[.int .i64 etm,.int .u8 ekd,.int .i64 ess,.int .i64 esq,.int .u8 eck,.string etext,.slice eaao nn eacap,.int .i64 enum,.slice evao mm2 evcap] 55)
    have hke:=heap_alloc_new w20 (.cells #[.int .i64 etm,.int .u8 ekd,.int .i64 ess,.int .i64 esq,.int .u8 eck,.string etext,.slice eaao nn eacap,.int .i64 enum,.slice evao mm2 evcap] 55)
    have hs3:(w20.alloc (.cells #[.int .i64 etm,.int .u8 ekd,.int .i64 ess,.int .i64 esq,.int .u8 eck,.string etext,.slice eaao nn eacap,.int .i64 enum,.slice evao mm2 evcap] 55)).heap.size=w20.heap.size+1:=by simp
    have HAL:=Hd (And.intro hal (And.intro hke hs3))
    clear hal hke hs3
    go_upto_region 17 with fail
    obtain ⟨hal,hke,hs3⟩:=HAL.out
    obtain ⟨vb,hvb⟩:∃ vb,w20.heap.size=vb:=⟨_,rfl⟩
    have HS21:=Hd (HS20.out.grow hal)
    have HEO21:=Hd (HEO.out.below hal (nlr _))
    rw [hvb] at hke hs3 hsz21 ⊢
    have HKE:=Hd hke
    clear HAL HS20 HEO hal hke hvb
    generalize w20.alloc (.cells #[.int .i64 etm,.int .u8 ekd,.int .i64 ess,.int .i64 esq,.int .u8 eck,.string etext,.slice eaao nn eacap,.int .i64 enum,.slice evao mm2 evcap] 55)=w33 at HS21 HEO21 HKE hs3 ⊢
    have hz33:vb+1≤w33.heap.size:=Nat.le_of_eq hs3.symm
    clear hs3
    obtain ⟨en,hen⟩:∃ en,acc.length=en:=⟨_,rfl⟩
    have HEN:=Hd hen
    have hen16:en+1≤n:=by omega
    have l9:w33.cell? ⟨w.heap.size+1,9,none⟩=some (.slice ea en ec):=by rw [← hen];exact cob HS21.out.blk 9
    have v0:w33.cell? ⟨vb,0,none⟩=some (.int .i64 etm):=cob HKE.out 0
    have v1:w33.cell? ⟨vb,1,none⟩=some (.int .u8 ekd):=cob HKE.out 1
    have v2:w33.cell? ⟨vb,2,none⟩=some (.int .i64 ess):=cob HKE.out 2
    have v3:w33.cell? ⟨vb,3,none⟩=some (.int .i64 esq):=cob HKE.out 3
    have v4:w33.cell? ⟨vb,4,none⟩=some (.int .u8 eck):=cob HKE.out 4
    have v5:w33.cell? ⟨vb,5,none⟩=some (.string etext):=cob HKE.out 5
    have v6:w33.cell? ⟨vb,6,none⟩=some (.slice eaao nn eacap):=cob HKE.out 6
    have v7:w33.cell? ⟨vb,7,none⟩=some (.int .i64 enum):=cob HKE.out 7
    have v8:w33.cell? ⟨vb,8,none⟩=some (.slice evao mm2 evcap):=cob HKE.out 8
    have hrow33:=HS21.out.own.1.row
    rw [hen] at hrow33
    have hal:=(Below.refl w33.heap.size w33).alloc (nlr _) (.cells #[.int .i64 etm,.int .u8 ekd,.int .i64 ess,.int .i64 esq,.int .u8 eck,.string etext,.slice eaao nn eacap,.int .i64 enum,.slice evao mm2 evcap] 55)
    have hkl:=heap_alloc_new w33 (.cells #[.int .i64 etm,.int .u8 ekd,.int .i64 ess,.int .i64 esq,.int .u8 eck,.string etext,.slice eaao nn eacap,.int .i64 enum,.slice evao mm2 evcap] 55)
    have hst34:=HS21.out.grow hal
    have heo34:=HEO21.below hal (nlr _)
    have hrow34:(w33.alloc (.cells #[.int .i64 etm,.int .u8 ekd,.int .i64 ess,.int .i64 esq,.int .u8 eck,.string etext,.slice eaao nn eacap,.int .i64 enum,.slice evao mm2 evcap] 55)).ownsRow (w.heap.size+3) 55 9 (.slice ea en ec) en (acc.flatMap enCells):=own_below hrow33 hal (nlr _)
    have hin34:RowsIn 9 enCells enSub (w33.alloc (.cells #[.int .i64 etm,.int .u8 ekd,.int .i64 ess,.int .i64 esq,.int .u8 eck,.string etext,.slice eaao nn eacap,.int .i64 enum,.slice evao mm2 evcap] 55)) (w33.alloc (.cells #[.int .i64 etm,.int .u8 ekd,.int .i64 ess,.int .i64 esq,.int .u8 eck,.string etext,.slice eaao nn eacap,.int .i64 enum,.slice evao mm2 evcap] 55)).heap.size (some ⟨w33.heap.size,0,none⟩) [⟨etm,ekd,ess,esq,eck,etext,eaao,eargs,eacap,enum,evao,evs,evcap⟩] :=
     rowsIn_block enCells_len [⟨etm,ekd,ess,esq,eck,etext,eaao,eargs,eacap,enum,evao,evs,evcap⟩] _ hkl (by rw [← HNN.out,← HMM.out];rfl) (by simp) (fun x hx=>by
      rw [List.mem_singleton.1 hx]
      exact ⟨own_rowsIn vaCells_len rfl heo34.1 (fun _ _=>trivial),own_rowsIn iCells_len rfl heo34.2 (fun _ _=>trivial)⟩)
    have HS34:=Hd hst34
    have HEO34:=Hd heo34
    have HROW:=Hd hrow34
    have HIN:=Hd hin34
    have hz34:w.heap.size+3≤(w33.alloc (.cells #[.int .i64 etm,.int .u8 ekd,.int .i64 ess,.int .i64 esq,.int .u8 eck,.string etext,.slice eaao nn eacap,.int .i64 enum,.slice evao mm2 evcap] 55)).heap.size:=by simp;omega
    clear hen hkl hst34 heo34 hrow33 hrow34 hin34 HS21 HEO21 HKE hal
    go_wp2_with (at_builtin;refine wpList_append_rows Tryz.underlying23 infoEn rfl (by decide) enCells_len enCells_one rfl (.tmp 89) (.tmp 91) rfl (w.heap.size+3) (.slice ea en ec) en (acc.flatMap enCells) rfl HROW.out (some ⟨w33.heap.size,0,none⟩) 1 1 [⟨etm,ekd,ess,esq,eck,etext,eaao,eargs,eacap,enum,evao,evs,evcap⟩] rfl rfl _ HIN.out (fun h=>by cases h) (by unfold maxLen;omega) (by omega) hz34 ?_)
    intro v35 w35 hown35 hg35 hor35
    obtain ⟨ea2,ec2,hv35⟩:=row_slice hown35
    subst hv35
    have how35:EnsOwn w35 (w.heap.size+3) (.slice ea2 (en+1) ec2) (acc ++ [⟨etm,ekd,ess,esq,eck,etext,eaao,eargs,eacap,enum,evao,evs,evcap⟩]):=by
     have h1:=HS34.out.own.1
     have h2:=HEN.out
     subst h2
     exact h1.push HOP.out (B:=wc.heap.size) (by omega) (by omega) HEO34.out (by simpa using hown35) hg35
    have hlo35:∀ g,(Value.slice ea en ec).ownBlock=some g→w.heap.size+3≤g:=fun g hg=>(World.ownsRow.lt HROW.out g hg).1
    have ⟨f9,l9b⟩:w35.frozen? ⟨w.heap.size+1,9,none⟩=false∧w35.cell? ⟨w.heap.size+1,9,none⟩=some (.slice ea en ec):=by
     have hk:w35.heap[w.heap.size+1]?=_:=(hg35.block (w.heap.size+1) (by omega) (fun e=>by have:=hlo35 _ e.symm;omega)).trans HS34.out.blk
     exact ⟨ufb hk 9,by rw [← HEN.out];exact cob hk 9⟩
    have HS36:=Hd (HS34.out.app (x2:=⟨y0,y1,y2,m1,m2,m3,okv,m4,m5,ea2,acc ++ [⟨etm,ekd,ess,esq,eck,etext,eaao,eargs,eacap,enum,evao,evs,evcap⟩],ec2,none,[],0,none,[],0⟩) hg35 hlo35 9 (.slice ea2 (en+1) ec2) (by rw [← HEN.out];simp [ltArr]) ⟨by rw [← HEN.out] at how35;simpa using how35,IntsOwn.nil _ _,World.ownsRow_nil _ _ _ _⟩)
    clear l9 hown35 hg35 hor35 how35 hlo35 v0 v1 v2 v3 v4 v5 v6 v7 v8 HROW HIN HEO34 HS34
    go_wp2_with fail
    refine ⟨⟨mq,acc ++ [⟨etm,ekd,ess,esq,eck,etext,eaao,eargs,eacap,enum,evao,evs,evcap⟩],b8,l8,ea2,ec2,rfl,?_,?_,HS36.out,?_,?_,?_⟩,?_⟩
    ·
     have h:=HE.out
     unfold refEs at h
     rw [if_neg (by decide),HQ.out] at h
     dsimp only at h
     rw [← h,List.map_append,List.map_cons,List.map_nil,HPL.out,List.append_assoc]
     rfl
    ·
     rw [List.length_append]
     simp only [List.length_cons,List.length_nil]
     omega
    ·
     have h:=(entryS_shrinks false l7 WF7.out).1
     rw [HQ.out] at h
     exact h
    ·
     have h:=(entryS_shrinks false l7 WF7.out).2
     rw [HQ.out] at h
     exact Nat.le_trans h hll
    ·
     intro hb8 e he
     rcases List.mem_append.1 he with he | he
     · exact HFI.out trivial e he
     ·
      rw [List.mem_singleton.1 he]
      exact entry_fine WF7.out (by rw [HQ.out];exact hb8) (by omega) (by rw [HQ.out];exact HPL.out) HNC.out.1 HNC.out.2.1 HNC.out.2.2.1 HNC.out.2.2.2
    ·
     show ((mq:Int)).toNat<(((mq+1:Nat)):Int).toNat
     omega
end Go.Proofs.YtglgcjkglhlggaaGreatDoor
