/- The document's answer for letters: Entry. Conditions: the entry lies as its reading says, and is not too great. -/
import Derived.Test.YtglgcjkglhlggaaGreatDoorGLetterGets0
import Derived.Test.YtglgcjkglhlggaaGreatDoorGLetterGets15
set_option linter.unusedVariables false
set_option linter.unusedSimpArgs false
namespace Go.Proofs.YtglgcjkglhlggaaGreatDoor
open Go.RowKit
set_option maxRecDepth 20000
theorem iff_bool (P:Prop):∃ g:Bool,g=true ↔ P:=by
 by_cases h:P
 · exact ⟨true,⟨fun _=>h,fun _=>rfl⟩⟩
 · exact ⟨false,⟨fun h2=>(by cases h2),fun h2=>absurd h2 h⟩⟩
theorem bare_iff (e:EnP):bareE e=true ↔ (e.session=0∧e.seq=0∧e.ck=0∧e.text=⟨#[]⟩∧e.num=0∧e.args=[]):=by
 unfold bareE plainC EnP.cm
 simp only [Bool.and_eq_true,decide_eq_true_eq,List.length_eq_zero_iff]
theorem noop_iff (e:EnP)(hw:withinN e.term=true)(hk:e.kind=1):entryR e=true ↔ e=⟨e.term,e.kind,0,0,0,⟨#[]⟩,[],0,[]⟩:=by
 unfold entryR
 rw [if_neg (by rw [hw];simp),if_pos hk,Bool.and_eq_true,bare_iff,decide_eq_true_eq,List.length_eq_zero_iff]
 obtain ⟨x0,x1,x2,x3,ck,text,xs,num,vs⟩:=e
 simp only [EnP.mk.injEq,true_and]
 constructor
 · rintro ⟨⟨a,b,c,d,f,g⟩,h⟩;exact ⟨a,b,c,d,g,f,h⟩
 · rintro ⟨a,b,c,d,g,f,h⟩;exact ⟨⟨a,b,c,d,f,g⟩,h⟩
theorem conf_iff (e:EnP)(hw:withinN e.term=true)(hk:e.kind=3):entryR e=true ↔ (e=⟨e.term,e.kind,0,0,0,⟨#[]⟩,[],0,e.vs⟩∧votersB e.vs=true):=by
 unfold entryR
 rw [if_neg (by rw [hw];simp),if_neg (by omega),if_neg (by omega),Bool.and_eq_true,Bool.and_eq_true,bare_iff,decide_eq_true_eq]
 obtain ⟨x0,x1,x2,x3,ck,text,xs,num,vs⟩:=e
 simp only [EnP.mk.injEq,true_and]
 constructor
 · rintro ⟨_,⟨a,b,c,d,f,g⟩,h⟩;exact ⟨⟨a,b,c,d,g,f,trivial⟩,h⟩
 · rintro ⟨⟨a,b,c,d,g,f,_⟩,h⟩;exact ⟨hk,⟨a,b,c,d,f,g⟩,h⟩
theorem cmd_iff (e:EnP)(hw:withinN e.term=true)(hk:e.kind=2):entryR e=(decide (0≤e.session) && (decide (0≤e.seq) && (decide (e.vs.length=0) && wholeC e.cm))):=by
 unfold entryR
 rw [if_neg (by rw [hw];simp),if_neg (by omega),if_pos hk]
theorem none_iff (e:EnP)(h:withinN e.term=false∨(e.kind ≠ 1∧e.kind ≠ 2∧e.kind ≠ 3)):entryR e=false:=by
 unfold entryR
 split
 · rfl
 ·
  rename_i h1
  rcases h with h | ⟨a,b,c⟩
  · exact absurd h h1
  · rw [if_neg a,if_neg b,decide_eq_false c];rfl
theorem whole_iff {c:CmP}(hn:N64 c.num)(ht:c.text.size<4294967296)(ha:c.args.length<4294967296)(hw:BytesWf (valuesB c.args))(r:CmP × Bool × List Int)(hr:commandS false (commandB c.kind c.text c.num c.args)=r):wholeC c=true ↔ ((!r.2.1 && r.2.2.isEmpty)=true∧r.1=c):=by
 subst hr
 constructor
 ·
  intro h
  have hf:=whole_fit hn ht ha hw h
  have hb:=commandS_back c [] hf
  rw [List.append_nil] at hb
  rw [hb]
  exact ⟨rfl,rfl⟩
 ·
  rintro ⟨h1,h2⟩
  unfold wholeC
  simp only [h1,h2,decide_true,Bool.and_self]
theorem below_drewN {B:Nat}{a w:World}(h:Below B a w)(n:Nat):Below B a (w.drewN n):=⟨h.os,h.tape,h.output,h.size,h.block⟩
theorem vals_len:∀ l:List Va,l.length≤(valuesB l).length:=by
 intro l
 unfold valuesB
 rw [List.length_append,numB_len]
 have:l.length≤(l.flatMap valueB).length:=by
  induction l with
  | nil=>simp
  | cons x r ih =>
   rw [List.flatMap_cons,List.length_append,List.length_cons]
   have:1≤(valueB x).length:=by unfold valueB;simp
   omega
 omega
theorem vals_bound {L:List Int}{r:CmP × Bool × List Int}(hw:BytesWf L)(hr:commandS false L=r)(hd:(!r.2.1 && r.2.2.isEmpty)=true):r.1.args.length≤L.length:=by
 obtain ⟨P,bad,left⟩:=r
 simp only [Bool.and_eq_true,Bool.not_eq_true',List.isEmpty_iff] at hd
 have h:=(command_one hw hr hd.1 hd.2).2
 have h2:=vals_len P.args
 dsimp only
 omega
/-- The document's Done. -/
theorem r21done_any {Z:RefZ}(M db:Nat)(bad:Bool)(left:List Int)(w:World)(h:Ref Z w M db bad left) :
  Calls Tryz.prog 66 #[.pointer (some ⟨db,0,none⟩)] w fun e w'=>e=.returned (.bool (!bad && left.isEmpty))∧Below w.heap.size w w':=by
 obtain ⟨k,ao,m,cap,xs,h,rfl⟩:=h
 have d0:w.cell? ⟨db,0,none⟩=some (.slice ao m cap):=cob h.blk 0
 have d1:w.cell? ⟨db,1,none⟩=some (.int .i64 k):=cob h.blk 1
 have d2:w.cell? ⟨db,2,none⟩=some (.bool bad):=cob h.blk 2
 have hkm:=h.at_
 have hld:(xs.drop k).length=m - k:=by rw [List.length_drop,h.len]
 have hle:(xs.drop k).isEmpty=decide (m - k=0):=by
  rw [← hld];cases xs.drop k <;> simp
 rw [hle]
 clear h hld hle
 cases bad with
 | true =>
  go_enter Tryz.func66,Tryz.ntmps66
  go_wp2_with fail
  go_quiet (fail)
  go_wp2_with fail
  go_ret
  exact ⟨rfl,below_drewN (Below.refl _ _) _⟩
 | false =>
  by_cases he:k=m
  ·
   subst he
   go_enter Tryz.func66,Tryz.ntmps66
   go_wp2_with fail
   go_quiet (fail)
   go_wp2_with fail
   go_ret
   exact ⟨ret_bool (by simp),below_drewN (Below.refl _ _) _⟩
  ·
   have j1:¬ (k:Int)=m:=by omega
   have j2:decide ((k:Int)=m)=false:=by simp;omega
   have j3:((k:Int) == m)=false:=by simp;omega
   have j4:decide (k=m)=false:=by simpa using he
   have j5:(k == m)=false:=by simpa using he
   have j6:decide (m - k=0)=false:=by simp;omega
   rw [j6]
   go_enter Tryz.func66,Tryz.ntmps66
   go_wp2_with fail
   go_quiet (fail)
   go_wp2_with fail
   go_ret
   exact ⟨rfl,below_drewN (Below.refl _ _) _⟩
theorem ref_new {w:World}{a:Option Addr}{n c:Nat}{L:List Int}{base:Nat}(h:BOwn w base a n c L)(hl:n≤140737488351232):Ref ⟨a,n,c,L⟩ (w.alloc (.cells #[.slice a n c,.int .i64 0,.bool false] 111)) w.heap.size w.heap.size false L:=by
 have hb:=(Below.refl w.heap.size w).alloc (nlr _) (.cells #[.slice a n c,.int .i64 0,.bool false] 111)
 have hin:=(own_at h.len h.row).below hb (nlr _)
 refine ⟨0,a,n,c,L,⟨heap_alloc_new w _,?_,h.len,own_capG h.row,own_none h.row,Nat.zero_le _,hb.size,hl,rfl⟩,by simp⟩
 rcases hin with h0 | ⟨b,off,h1,h2,h3⟩
 · exact Or.inl h0
 · exact Or.inr ⟨b,off,h1,h2,by omega,h3⟩
set_option maxHeartbeats 8000000 in
theorem rentry21_any (x:En)(w:World)(hx:enSub w w.heap.size x)(hf:EnFine x)(g:Bool)(hg:entryR x.plain=g) :
  Calls Tryz.prog 34 #[.agg (enCells x).toArray] w (DecAt g w):=by
 obtain ⟨x0,x1,x2,x3,ck,text,ao,xs,ac,num,vo,vs,vc⟩:=x
 obtain ⟨n,hn⟩:∃ n,xs.length=n:=⟨_,rfl⟩
 obtain ⟨m,hm⟩:∃ m,vs.length=m:=⟨_,rfl⟩
 have l1:=hf.args
 have l2:=hf.vn
 dsimp only at l1 l2
 rw [hn] at l1
 rw [hm] at l2
 have HF:=Hd hf
 have HX:=Hd hx
 have HN:=Hd hn
 have HM:=Hd hm
 have HG:=Hd hg
 unfold enCells
 dsimp only
 rw [hn,hm]
 clear hf hx hn hm hg
 obtain ⟨hb2,h1,h2,hz2⟩:=alloc2_facts w #[.int .i64 x0,.int .u8 x1,.int .i64 x2,.int .i64 x3,.int .u8 ck,.string text,.slice ao n ac,.int .i64 num,.slice vo m vc] #[.int .i64 x0,.int .u8 x1,.int .i64 0,.int .i64 0,.int .u8 0,.string ⟨#[]⟩,.slice none 0 0,.int .i64 0,.slice none 0 0] 55 55
 have HB2:=Hd hb2
 have H1:=Hd h1
 have H2:=Hd h2
 have HZ:=Hd (Nat.le_of_eq hz2.symm)
 clear hb2 h1 h2 hz2
 go_enter Tryz.func34,Tryz.ntmps34
 go_upto_region 2 with fail
 have hb2:=HB2.out
 have h1:=H1.out
 have h2:=H2.out
 have hz2:=HZ.out
 clear HB2 H1 H2 HZ
 generalize (w.alloc (.cells #[.int .i64 x0,.int .u8 x1,.int .i64 x2,.int .i64 x3,.int .u8 ck,.string text,.slice ao n ac,.int .i64 num,.slice vo m vc] 55)).alloc (.cells #[.int .i64 x0,.int .u8 x1,.int .i64 0,.int .i64 0,.int .u8 0,.string ⟨#[]⟩,.slice none 0 0,.int .i64 0,.slice none 0 0] 55)=w2 at hb2 h1 h2 hz2 ⊢
 have hs2:=hb2.size
 have H1:=Hd h1
 have H2:=Hd h2
 have HB2:=Hd hb2
 have c0:w2.cell? ⟨w.heap.size,0,none⟩=some (.int .i64 x0):=cob h1 0
 have c1:w2.cell? ⟨w.heap.size,1,none⟩=some (.int .u8 x1):=cob h1 1
 clear hb2 h1 h2
 obtain ⟨gw,hgw⟩:∃ gw,withinN x0=gw:=⟨_,rfl⟩
 have HGW:=Hd hgw
 clear hgw
 go_wp2_with fail
 refine (rwithin_any x0 w2 gw HGW.out).mono ?_
 rintro e wx ⟨rfl,rfl⟩
 cases gw with
 | false =>
  have hg2:g=false:=by rw [← HG.out];exact none_iff _ (Or.inl HGW.out)
  have HG2:=Hd hg2
  clear hg2
  go_wp2_with fail
  go_ret
  exact ⟨ret_bool HG2.out.symm,HB2.out⟩
 | true =>
 by_cases hk1:x1=1
 ·
  subst hk1
  have hrx:=rng_block H1.out
  have hry:=rng_block H2.out
  have hgi:g=true ↔ (⟨x0,1,x2,x3,ck,text,xs,num,vs⟩:EnP)=⟨x0,1,0,0,0,⟨#[]⟩,[],0,[]⟩:=by rw [← HG.out];exact noop_iff _ HGW.out rfl
  have HGI:=Hd hgi
  clear hgi
  go_wp2_with (first | (refine wpList_load_mid rfl 55 (.tmp 1) rfl w.heap.size 0 rfl _ _ hrx Tryz.underlying55 rfl info_en ?_) | (refine wpList_load_mid rfl 55 (.tmp 3) rfl (w.heap.size+1) 0 rfl _ _ hry Tryz.underlying55 rfl info_en ?_))
  refine (sameE_dec x0 1 x2 x3 ck text ao n ac xs num vo m vc vs x0 1 0 0 0 ⟨#[]⟩ none 0 0 [] 0 none 0 0 [] w2 w.heap.size HN.out rfl HM.out rfl (HX.out.1.below noSub_kept HB2.out (nlr _)) (Or.inl rfl) (HX.out.2.below noSub_kept HB2.out (nlr _)) (Or.inl rfl) hs2 (by omega) (by omega) (by omega) (by omega) g HGI.out).mono ?_
  rintro e w3 ⟨rfl,b3⟩
  clear hrx hry c0 c1
  go_wp2_with fail
  go_ret
  exact ⟨rfl,HB2.out.trans (b3.mono hs2)⟩
 by_cases hk2:x1=2
 ·
  subst hk2
  clear hk1
  have hgc:g=(decide (0≤x2) && (decide (0≤x3) && (decide (vs.length=0) && wholeC ⟨ck,text,xs,num⟩))):=by rw [← HG.out];exact cmd_iff _ HGW.out rfl
  have HGC:=Hd hgc
  clear hgc
  have hk:=H1.out
  have c4:w2.cell? ⟨w.heap.size,4,none⟩=some (.int .u8 ck):=cob hk 4
  have c5:w2.cell? ⟨w.heap.size,5,none⟩=some (.string text):=cob hk 5
  have c6:w2.cell? ⟨w.heap.size,6,none⟩=some (.slice ao n ac):=cob hk 6
  have c7:w2.cell? ⟨w.heap.size,7,none⟩=some (.int .i64 num):=cob hk 7
  obtain ⟨L,hL⟩:∃ L,commandB ck text num xs=L:=⟨_,rfl⟩
  have hok:=HF.out.ok
  have hLl:L.length≤405000000:=by
   rw [← hL,commandB_len]
   have h1:=HF.out.text
   have h2:=HF.out.size
   dsimp only at h1 h2
   omega
  have hLw:BytesWf L:=by rw [← hL];exact commandB_wf ck text num xs HF.out.wf.ck HF.out.wf.args
  obtain ⟨r,hr⟩:∃ r,commandS false L=r:=⟨_,rfl⟩
  have hwi:=whole_iff (c:=⟨ck,text,xs,num⟩) hok.num hok.text hok.args hok.wf r (by rw [← hr,← hL])
  have HL:=Hd hL
  have HR:=Hd hr
  have HWI:=Hd hwi
  have HLW:=Hd hLw
  clear hk hok hL hr hwi hLw
  go_wp2_with fail
  refine (rCommand_any ck text ao n ac num xs L w2 HL.out HN.out ((HX.out.1.below noSub_kept HB2.out (nlr _)).mono noSub_rising hs2) (fun v hv=>Nat.le_trans (HF.out.argt v hv) (by decide)) (Nat.le_trans HF.out.text (by decide)) (by omega) (by omega)).mono ?_
  rintro e w3 ⟨a3,n3,d3,rfl,ho3,b3⟩
  have hs3:=b3.size
  have hk3:=(b3.block w.heap.size (by omega)).trans H1.out
  have hR:=ref_new ho3 (by have:=ho3.len;omega)
  have hal:=(Below.refl w3.heap.size w3).alloc (nlr _) (.cells #[.slice a3 n3 d3,.int .i64 0,.bool false] 111)
  have hk4:=(hal.block w.heap.size (by omega)).trans hk3
  have hb4:=(HB2.out.trans (b3.mono hs2)).trans (hal.mono (by omega))
  have hs4:=hal.size
  have R4:=Hd hR
  have K4:=Hd hk4
  have B4:=Hd hb4
  clear ho3 b3 hk3 hR hal hk4 hb4 c0 c1 c4 c5 c6 c7
  go_upto_region 9 with fail
  have hlt4:w3.heap.size<(w3.alloc (.cells #[.slice a3 n3 d3,.int .i64 0,.bool false] 111)).heap.size:=R4.out.lt
  generalize w3.alloc (.cells #[.slice a3 n3 d3,.int .i64 0,.bool false] 111)=w4 at R4 K4 B4 hs4 hlt4 ⊢
  go_wp2_with fail
  refine (rrCommand_any w3.heap.size w3.heap.size false L r w4 HR.out R4.out HLW.out).mono ?_
  rintro e w5 ⟨f,hfp,rfl,hfo,hR5,ho5⟩
  have hs5:=ho5.1
  have hk5:=(ho5.2 w.heap.size (by omega) (by omega)).trans K4.out
  have hb5:=B4.out.trans (ho5.toBelow B4.out.size (by omega))
  obtain ⟨fk,ft,fa,fxs,fc,fnm⟩:=f
  unfold Cm.plain at hfp
  dsimp only at hfp hfo
  obtain ⟨fn,hfn⟩:∃ fn,fxs.length=fn:=⟨_,rfl⟩
  have hfv:=VasOwn.vals rfl hfo
  have HFN:=Hd hfn
  unfold cmVal
  dsimp only
  rw [hfn]
  have hal:=(Below.refl w5.heap.size w5).alloc (nlr _) (.cells #[.int .u8 fk,.string ft,.slice fa fn fc,.int .i64 fnm] 53)
  have hk6:=(hal.block w.heap.size (by omega)).trans hk5
  have hq6:=heap_alloc_new w5 (.cells #[.int .u8 fk,.string ft,.slice fa fn fc,.int .i64 fnm] 53)
  have hb6:=hb5.trans (hal.mono (by omega))
  have hfv6:=(RowsIn.below noSub_kept hfv hal (nlr _))
  have hR6:=hR5.below hal
  have HFP:=Hd hfp
  have K6:=Hd hk6
  have Q6:=Hd hq6
  have B6:=Hd hb6
  have V6:=Hd hfv6
  have R6:=Hd hR6
  clear hfp hfo hR5 ho5 hk5 hb5 hfn hfv hal hk6 hq6 hb6 hfv6 hR6 R4 K4 B4
  go_upto_region 10 with fail
  have hlt6:w5.heap.size<(w5.alloc (.cells #[.int .u8 fk,.string ft,.slice fa fn fc,.int .i64 fnm] 53)).heap.size:=(Array.getElem?_eq_some_iff.1 Q6.out).1
  generalize w5.alloc (.cells #[.int .u8 fk,.string ft,.slice fa fn fc,.int .i64 fnm] 53)=w6 at K6 Q6 B6 V6 R6 hlt6 ⊢
  have hk:=K6.out
  have c2:w6.cell? ⟨w.heap.size,2,none⟩=some (.int .i64 x2):=cob hk 2
  have c3:w6.cell? ⟨w.heap.size,3,none⟩=some (.int .i64 x3):=cob hk 3
  have c8:w6.cell? ⟨w.heap.size,8,none⟩=some (.slice vo m vc):=cob hk 8
  clear hk
  obtain ⟨dn,hdn⟩:∃ dn,(!r.2.1 && r.2.2.isEmpty)=dn:=⟨_,rfl⟩
  have HDN:=Hd hdn
  clear hdn
  by_cases hx2:0≤x2
  rotate_left
  ·
   have hg2:g=false:=by rw [HGC.out,decide_eq_false hx2];rfl
   have HG2:=Hd hg2
   clear hg2
   go_wp2_with fail
   go_ret
   exact ⟨ret_bool HG2.out.symm,B6.out⟩
  by_cases hx3:0≤x3
  rotate_left
  ·
   have hg2:g=false:=by rw [HGC.out,decide_eq_false hx3,Bool.false_and,Bool.and_false]
   have HG2:=Hd hg2
   clear hg2
   go_wp2_with fail
   go_ret
   exact ⟨ret_bool HG2.out.symm,B6.out⟩
  by_cases hm0:m=0
  rotate_left
  ·
   have hg2:g=false:=by rw [HGC.out,HM.out,decide_eq_false hm0,Bool.false_and,Bool.and_false,Bool.and_false]
   have HG2:=Hd hg2
   have n1:¬ (m:Int)=0:=by omega
   clear hg2
   go_wp2_with fail
   go_ret
   exact ⟨ret_bool HG2.out.symm,B6.out⟩
  have hgw2:g=wholeC ⟨ck,text,xs,num⟩:=by rw [HGC.out,decide_eq_true hx2,decide_eq_true hx3,HM.out,decide_eq_true hm0];rfl
  have HGW2:=Hd hgw2
  clear hgw2 HGC
  subst hm0
  go_wp2_with fail
  refine (r21done_any w3.heap.size w3.heap.size r.2.1 r.2.2 w6 R6.out).mono ?_
  rintro e w7 ⟨he,b7⟩
  rw [HDN.out] at he
  subst he
  cases dn with
  | false =>
   have hg2:g=false:=by
    rw [HGW2.out]
    cases hh:wholeC ⟨ck,text,xs,num⟩ with
    | false=>rfl
    | true =>
     have h3:=(HWI.out.1 hh).1
     rw [HDN.out] at h3
     cases h3
   have HG2:=Hd hg2
   clear hg2 c2 c3 c8
   go_wp2_with fail
   go_ret
   exact ⟨ret_bool HG2.out.symm,B6.out.trans (b7.mono B6.out.size)⟩
  | true =>
   have hgi:g=true ↔ (⟨fk,ft,fxs,fnm⟩:CmP)=⟨ck,text,xs,num⟩:=by
    rw [HGW2.out,HWI.out,HDN.out,HFP.out]
    exact ⟨fun h=>h.2,fun h=>⟨rfl,h⟩⟩
   have HGI:=Hd hgi
   have hk7:=(b7.block w.heap.size (by have:=B6.out.size;omega)).trans K6.out
   have hq7:=(b7.block w5.heap.size hlt6).trans Q6.out
   have rq:w7.rangeAt w5.heap.size 0 [.int .u8 fk,.string ft,.slice fa fn fc,.int .i64 fnm]:=rng_block hq7
   have rx0:w7.cell? ⟨w.heap.size,4,none⟩=some (.int .u8 ck):=cob hk7 4
   have rx1:w7.cell? ⟨w.heap.size,5,none⟩=some (.string text):=cob hk7 5
   have rx2:w7.cell? ⟨w.heap.size,6,none⟩=some (.slice ao n ac):=cob hk7 6
   have rx3:w7.cell? ⟨w.heap.size,7,none⟩=some (.int .i64 num):=cob hk7 7
   have HRX:=Hd (show w7.rangeAt w.heap.size 4 [.int .u8 ck,.string text,.slice ao n ac,.int .i64 num] from range_cons rx0 (range_cons rx1 (range_cons rx2 (range_cons rx3 range_new))))
   have HRQ:=Hd rq
   have B7:=Hd (B6.out.trans (b7.mono B6.out.size))
   have V7:=Hd ((RowsIn.below noSub_kept V6.out b7 (by omega)).mono noSub_rising (show w5.heap.size≤w7.heap.size by have:=b7.size;omega))
   have X7:=Hd ((HX.out.1.below noSub_kept B7.out (nlr _)).mono noSub_rising B7.out.size)
   clear hgi hk7 hq7 rq rx0 rx1 rx2 rx3 b7 c2 c3 c8
   have hfl:fn≤4611686018427387904:=(by have:=vals_bound HLW.out HR.out HDN.out;rw [← HFP.out] at this;dsimp only at this;rw [HFN.out] at this;omega)
   go_wp2_with (first | (refine wpList_load_want (by rfl) 53 (.tmp 5) rfl w5.heap.size 0 rfl [.int .u8 fk,.string ft,.slice fa fn fc,.int .i64 fnm] _ HRQ.out Tryz.underlying53 rfl info_cm ?_) | (refine wpList_load_want (by rfl) 53 (.tmp 51) rfl w.heap.size 4 rfl [.int .u8 ck,.string text,.slice ao n ac,.int .i64 num] _ HRX.out Tryz.underlying53 rfl info_cm ?_))
   refine (sameC_dec fk ft fa fn fc fxs fnm ck text ao n ac xs num w7 w7.heap.size HFN.out HN.out V7.out X7.out (nlr _) hfl (by omega) g HGI.out).mono ?_
   rintro e w8 ⟨rfl,b8⟩
   go_wp2_with fail
   go_ret
   exact ⟨rfl,B7.out.trans (b8.mono B7.out.size)⟩
 by_cases hk3:x1=3
 ·
  subst hk3
  have hk:=H1.out
  have hq:=H2.out
  have c8:w2.cell? ⟨w.heap.size,8,none⟩=some (.slice vo m vc):=cob hk 8
  have d8:w2.cell? ⟨w.heap.size+1,8,none⟩=some (.slice none 0 0):=cob hq 8
  have f8:w2.frozen? ⟨w.heap.size+1,8,none⟩=false:=ufb hq 8
  have hgi:g=true ↔ ((⟨x0,3,x2,x3,ck,text,xs,num,vs⟩:EnP)=⟨x0,3,0,0,0,⟨#[]⟩,[],0,vs⟩∧votersB vs=true):=by rw [← HG.out];exact conf_iff _ HGW.out rfl
  have HGI:=Hd hgi
  clear hgi hk hq hk1 hk2
  go_upto_region 13 with fail
  have ho:=Only.set (w.heap.size+1) w2 8 (.slice vo m vc)
  have hk3:=(ho.2 w.heap.size (by omega) (by omega)).trans H1.out
  have hq3:(w2.setCell ⟨w.heap.size+1,8,none⟩ (.slice vo m vc)).heap[w.heap.size+1]?=some (.cells #[.int .i64 x0,.int .u8 3,.int .i64 0,.int .i64 0,.int .u8 0,.string ⟨#[]⟩,.slice none 0 0,.int .i64 0,.slice vo m vc] 55 (0,0)):=blk_to H2.out _ rfl
  have hb3:=HB2.out.trans (ho.toBelow hs2 (by omega))
  have hs3:=ho.1
  generalize w2.setCell ⟨w.heap.size+1,8,none⟩ (.slice vo m vc)=w3 at hk3 hq3 hb3 hs3 ⊢
  have hrx:=rng_block hk3
  have hry:=rng_block hq3
  have K3:=Hd hk3
  have B3:=Hd hb3
  obtain ⟨gs,hgs⟩:=iff_bool ((⟨x0,3,x2,x3,ck,text,xs,num,vs⟩:EnP)=⟨x0,3,0,0,0,⟨#[]⟩,[],0,vs⟩)
  have HGS:=Hd hgs
  clear hk3 hq3 hb3 hgs c8 d8 f8 c0 c1 ho
  go_wp2_with (first | (refine wpList_load_mid rfl 55 (.tmp 1) rfl w.heap.size 0 rfl _ _ hrx Tryz.underlying55 rfl info_en ?_) | (refine wpList_load_mid rfl 55 (.tmp 3) rfl (w.heap.size+1) 0 rfl _ _ hry Tryz.underlying55 rfl info_en ?_))
  refine (sameE_dec x0 3 x2 x3 ck text ao n ac xs num vo m vc vs x0 3 0 0 0 ⟨#[]⟩ none 0 0 [] 0 vo m vc vs w3 w.heap.size HN.out rfl HM.out HM.out (HX.out.1.below noSub_kept B3.out (nlr _)) (Or.inl rfl) (HX.out.2.below noSub_kept B3.out (nlr _)) (HX.out.2.below noSub_kept B3.out (nlr _)) (by omega) (by omega) (by omega) (by omega) (by omega) gs HGS.out).mono ?_
  rintro e w4 ⟨rfl,b4⟩
  have hk4:=(b4.block w.heap.size (by omega)).trans K3.out
  have c8:w4.cell? ⟨w.heap.size,8,none⟩=some (.slice vo m vc):=cob hk4 8
  have B4:=Hd (B3.out.trans (b4.mono (by omega)))
  clear hrx hry hk4 b4
  cases gs with
  | false =>
   have hg2:g=false:=no_of HGI.out (fun h=>by have:=HGS.out.2 h.1;cases this)
   have HG2:=Hd hg2
   clear hg2 c8
   go_wp2_with fail
   go_ret
   exact ⟨ret_bool HG2.out.symm,B4.out⟩
  | true =>
   have hg2:votersB vs=g:=by
    cases hv:votersB vs with
    | true=>exact (HGI.out.2 ⟨HGS.out.1 rfl,hv⟩).symm
    | false=>exact (no_of HGI.out (fun h=>by rw [hv] at h;cases h.2)).symm
   have HG2:=Hd hg2
   clear hg2
   go_wp2_with fail
   refine (rvoters_any vo m vc vs w4 w.heap.size HM.out (HX.out.2.below noSub_kept B4.out (nlr _)) (by omega) g HG2.out).mono ?_
   rintro e wx ⟨rfl,rfl⟩
   go_wp2_with fail
   go_ret
   exact ⟨rfl,B4.out⟩
 ·
  have hg2:g=false:=by rw [← HG.out];exact none_iff _ (Or.inr ⟨hk1,hk2,hk3⟩)
  have HG2:=Hd hg2
  have n1:(x1 == 1)=false:=beq_eq_false_iff_ne.2 hk1
  have n2:(x1 == 2)=false:=beq_eq_false_iff_ne.2 hk2
  have n3:(x1 == 3)=false:=beq_eq_false_iff_ne.2 hk3
  clear hg2
  go_wp2_with fail
  go_ret
  exact ⟨ret_bool HG2.out.symm,HB2.out⟩
end Go.Proofs.YtglgcjkglhlggaaGreatDoor
/- SameLetter tells whether a letter is what is left of it. Conditions: the letters lie as their readings say. -/
namespace Go.Proofs.YtglgcjkglhlggaaGreatDoor
open Go.RowKit
set_option maxRecDepth 20000
theorem sameEs_len (ao:Option Addr)(n cap:Nat)(co:Option Addr)(m cap2:Nat)(w:World)(hnm:n ≠ m)(hl:n≤4611686018427387904)(hl2:m≤4611686018427387904) :
  Calls Tryz.prog 55 #[.slice ao n cap,.slice co m cap2] w (DecAt false w):=by
 have i1:((n:Int) == m)=false:=beq_eq_false_iff_ne.2 (by omega)
 have i2:((n:Int) != m)=true:=bne_iff_ne.2 (by omega)
 go_enter Tryz.func55,Tryz.ntmps55
 go_wp2_with fail
 go_ret
 exact ⟨rfl,Below.refl _ _⟩
theorem sameI_len (ao:Option Addr)(n cap:Nat)(co:Option Addr)(m cap2:Nat)(w:World)(hnm:n ≠ m)(hl:n≤4611686018427387904)(hl2:m≤4611686018427387904) :
  Calls Tryz.prog 56 #[.slice ao n cap,.slice co m cap2] w (DecAt false w):=by
 have i1:((n:Int) == m)=false:=beq_eq_false_iff_ne.2 (by omega)
 have i2:((n:Int) != m)=true:=bne_iff_ne.2 (by omega)
 go_enter Tryz.func56,Tryz.ntmps56
 go_wp2_with fail
 go_ret
 exact ⟨rfl,Below.refl _ _⟩
theorem sameB_len (ao:Option Addr)(n cap:Nat)(co:Option Addr)(m cap2:Nat)(w:World)(hnm:n ≠ m)(hl:n≤4611686018427387904)(hl2:m≤4611686018427387904) :
  Calls Tryz.prog 15 #[.slice ao n cap,.slice co m cap2] w (DecAt false w):=by
 have i1:((n:Int) == m)=false:=beq_eq_false_iff_ne.2 (by omega)
 have i2:((n:Int) != m)=true:=bne_iff_ne.2 (by omega)
 go_enter Tryz.func15,Tryz.ntmps15
 go_wp2_with fail
 go_ret
 exact ⟨rfl,Below.refl _ _⟩
theorem sameEs_or (ao:Option Addr)(n cap:Nat)(co:Option Addr)(m cap2:Nat)(xs ys:List En)(w:World)(hn:xs.length=n)(hm:ys.length=m)(hx:EnsIn w w.heap.size ao xs)(hy:EnsIn w w.heap.size co ys)(hc:ys=xs∨ys=[])(hl:n≤4000000)(hsm:∀ x ∈ xs,EnSmall x)(g:Bool)(hg:decide (n=m)=g) :
  Calls Tryz.prog 55 #[.slice ao n cap,.slice co m cap2] w (DecAt g w):=by
 have hm2:m≤n:=by
  rcases hc with h1 | h1
  · rw [h1] at hm;omega
  · rw [h1] at hm;simp at hm;omega
 by_cases h:n=m
 ·
  obtain rfl:g=true:=by rw [← hg];exact decide_eq_true h
  have he:ys=xs:=by
   rcases hc with h1 | h1
   · exact h1
   ·
    rw [h1] at hm ⊢
    exact (List.eq_nil_of_length_eq_zero (by rw [hn,h,← hm];rfl)).symm
  subst he
  exact sameEs_any ao n cap co m cap2 ys ys w w.heap.size hn hm rfl hx hy (nlr _) (by omega) hsm
 ·
  obtain rfl:g=false:=by rw [← hg];exact decide_eq_false h
  exact sameEs_len ao n cap co m cap2 w h (by omega) (by omega)
theorem sameI_or (ao:Option Addr)(n cap:Nat)(co:Option Addr)(m cap2:Nat)(xs ys:List Int)(w:World)(hn:xs.length=n)(hm:ys.length=m)(hx:NumsIn w w.heap.size ao xs)(hy:NumsIn w w.heap.size co ys)(hc:ys=xs∨ys=[])(hl:n≤4000000)(g:Bool)(hg:decide (n=m)=g) :
  Calls Tryz.prog 56 #[.slice ao n cap,.slice co m cap2] w (DecAt g w):=by
 have hm2:m≤n:=by
  rcases hc with h1 | h1
  · rw [h1] at hm;omega
  · rw [h1] at hm;simp at hm;omega
 by_cases h:n=m
 ·
  obtain rfl:g=true:=by rw [← hg];exact decide_eq_true h
  have he:ys=xs:=by
   rcases hc with h1 | h1
   · exact h1
   ·
    rw [h1] at hm ⊢
    exact (List.eq_nil_of_length_eq_zero (by rw [hn,h,← hm];rfl)).symm
  subst he
  exact sameI_any ao n cap co m cap2 ys w w.heap.size hn hm hx hy (nlr _) (by omega)
 ·
  obtain rfl:g=false:=by rw [← hg];exact decide_eq_false h
  exact sameI_len ao n cap co m cap2 w h (by omega) (by omega)
theorem sameB_or (ao:Option Addr)(n cap:Nat)(co:Option Addr)(m cap2:Nat)(xs ys:List Int)(w:World)(hn:xs.length=n)(hm:ys.length=m)(hx:BytesIn w w.heap.size ao xs)(hy:BytesIn w w.heap.size co ys)(hc:ys=xs∨ys=[])(hl:n≤4000000)(g:Bool)(hg:decide (n=m)=g) :
  Calls Tryz.prog 15 #[.slice ao n cap,.slice co m cap2] w (DecAt g w):=by
 have hm2:m≤n:=by
  rcases hc with h1 | h1
  · rw [h1] at hm;omega
  · rw [h1] at hm;simp at hm;omega
 by_cases h:n=m
 ·
  obtain rfl:g=true:=by rw [← hg];exact decide_eq_true h
  have he:ys=xs:=by
   rcases hc with h1 | h1
   · exact h1
   ·
    rw [h1] at hm ⊢
    exact (List.eq_nil_of_length_eq_zero (by rw [hn,h,← hm];rfl)).symm
  subst he
  exact sameB_any ao n cap co m cap2 ys w hn hm hx hy (by omega)
 ·
  obtain rfl:g=false:=by rw [← hg];exact decide_eq_false h
  exact sameB_len ao n cap co m cap2 w h (by omega) (by omega)
end Go.Proofs.YtglgcjkglhlggaaGreatDoor
/- SameLetter tells whether a letter is what is left of it. Conditions: the letters lie as their readings say. -/
namespace Go.Proofs.YtglgcjkglhlggaaGreatDoor
open Go.RowKit
set_option maxRecDepth 20000
set_option maxHeartbeats 8000000 in
theorem sameL_or (kd fr tt tm ix ws:Int)(ob:Bool)(cm rn:Int)(ea:Option Addr)(n ec:Nat)(va:Option Addr)(m vc:Nat)(ia:Option Addr)(q ic:Nat)(es:List En)(vs im:List Int)
  (kd2 fr2 tt2 tm2 ix2 ws2:Int) (ob2:Bool) (cm2 rn2:Int) (ea2:Option Addr) (n2 ec2:Nat) (va2:Option Addr) (m2 vc2:Nat) (ia2:Option Addr) (q2 ic2:Nat) (es2:List En) (vs2 im2:List Int) (w:World)
  (hn:es.length=n) (hm:vs.length=m) (hq:im.length=q) (hn2:es2.length=n2) (hm2:vs2.length=m2) (hq2:im2.length=q2)
  (hx:EnsIn w w.heap.size ea es) (hx2:NumsIn w w.heap.size va vs) (hx3:BytesIn w w.heap.size ia im) (hy:EnsIn w w.heap.size ea2 es2) (hy2:NumsIn w w.heap.size va2 vs2) (hy3:BytesIn w w.heap.size ia2 im2)
  (hc:es2=es∨es2=[]) (hc2:vs2=vs∨vs2=[]) (hc3:im2=im∨im2=[]) (hsm:∀ x ∈ es,EnSmall x) (l1:n≤4000000) (l2:m≤4000000) (l3:q≤4000000)
  (g:Bool) (hg:g=true ↔ ((kd=kd2∧fr=fr2∧tt=tt2∧tm=tm2∧ix=ix2∧ws=ws2∧ob=ob2∧cm=cm2∧rn=rn2)∧n=n2∧m=m2∧q=q2)) :
  Calls Tryz.prog 22 #[.agg #[.int .u8 kd,.int .i64 fr,.int .i64 tt,.int .i64 tm,.int .i64 ix,.int .i64 ws,.bool ob,.int .i64 cm,.int .i64 rn,.slice ea n ec,.slice va m vc,.slice ia q ic],.agg #[.int .u8 kd2,.int .i64 fr2,.int .i64 tt2,.int .i64 tm2,.int .i64 ix2,.int .i64 ws2,.bool ob2,.int .i64 cm2,.int .i64 rn2,.slice ea2 n2 ec2,.slice va2 m2 vc2,.slice ia2 q2 ic2]] w (DecAt g w):=by
 obtain ⟨hb2,h1,h2,hz2⟩:=alloc2_facts w #[.int .u8 kd,.int .i64 fr,.int .i64 tt,.int .i64 tm,.int .i64 ix,.int .i64 ws,.bool ob,.int .i64 cm,.int .i64 rn,.slice ea n ec,.slice va m vc,.slice ia q ic] #[.int .u8 kd2,.int .i64 fr2,.int .i64 tt2,.int .i64 tm2,.int .i64 ix2,.int .i64 ws2,.bool ob2,.int .i64 cm2,.int .i64 rn2,.slice ea2 n2 ec2,.slice va2 m2 vc2,.slice ia2 q2 ic2] 27 27
 have HB2:=Hd hb2
 have H1:=Hd h1
 have H2:=Hd h2
 have HZ:=Hd (Nat.le_of_eq hz2.symm)
 have HG:=Hd hg
 have HE:=Hd (fun (w':World) (hb:Below w.heap.size w w') (gg:Bool) (hgg:decide (n=n2)=gg)=>sameEs_or ea n ec ea2 n2 ec2 es es2 w' hn hn2 ((hx.below enSub_kept hb (nlr _)).mono enSub_rising hb.size) ((hy.below enSub_kept hb (nlr _)).mono enSub_rising hb.size) hc l1 hsm gg hgg)
 have HI:=Hd (fun (w':World) (hb:Below w.heap.size w w') (gg:Bool) (hgg:decide (m=m2)=gg)=>sameI_or va m vc va2 m2 vc2 vs vs2 w' hm hm2 ((hx2.below noSub_kept hb (nlr _)).mono noSub_rising hb.size) ((hy2.below noSub_kept hb (nlr _)).mono noSub_rising hb.size) hc2 l2 gg hgg)
 have HBB:=Hd (fun (w':World) (hb:Below w.heap.size w w') (gg:Bool) (hgg:decide (q=q2)=gg)=>sameB_or ia q ic ia2 q2 ic2 im im2 w' hq hq2 ((hx3.below hb (nlr _)).mono hb.size) ((hy3.below hb (nlr _)).mono hb.size) hc3 l3 gg hgg)
 clear hb2 h1 h2 hz2 hg hn hm hq hn2 hm2 hq2 hx hx2 hx3 hy hy2 hy3 hc hc2 hc3 hsm
 go_enter Tryz.func22,Tryz.ntmps22
 go_upto_region 1 with fail
 have hb2:=HB2.out
 have h1:=H1.out
 have h2:=H2.out
 have hz2:=HZ.out
 clear HB2 H1 H2 HZ
 generalize (w.alloc (.cells #[.int .u8 kd,.int .i64 fr,.int .i64 tt,.int .i64 tm,.int .i64 ix,.int .i64 ws,.bool ob,.int .i64 cm,.int .i64 rn,.slice ea n ec,.slice va m vc,.slice ia q ic] 27)).alloc (.cells #[.int .u8 kd2,.int .i64 fr2,.int .i64 tt2,.int .i64 tm2,.int .i64 ix2,.int .i64 ws2,.bool ob2,.int .i64 cm2,.int .i64 rn2,.slice ea2 n2 ec2,.slice va2 m2 vc2,.slice ia2 q2 ic2] 27)=w2 at hb2 h1 h2 hz2 ⊢
 have H1:=Hd h1
 have H2:=Hd h2
 have HB2:=Hd hb2
 have c0:w2.cell? ⟨w.heap.size,0,none⟩=some (.int .u8 kd):=cob h1 0
 have c1:w2.cell? ⟨w.heap.size,1,none⟩=some (.int .i64 fr):=cob h1 1
 have c2:w2.cell? ⟨w.heap.size,2,none⟩=some (.int .i64 tt):=cob h1 2
 have c3:w2.cell? ⟨w.heap.size,3,none⟩=some (.int .i64 tm):=cob h1 3
 have c4:w2.cell? ⟨w.heap.size,4,none⟩=some (.int .i64 ix):=cob h1 4
 have c5:w2.cell? ⟨w.heap.size,5,none⟩=some (.int .i64 ws):=cob h1 5
 have c6:w2.cell? ⟨w.heap.size,6,none⟩=some (.bool ob):=cob h1 6
 have c7:w2.cell? ⟨w.heap.size,7,none⟩=some (.int .i64 cm):=cob h1 7
 have c8:w2.cell? ⟨w.heap.size,8,none⟩=some (.int .i64 rn):=cob h1 8
 have d0:w2.cell? ⟨w.heap.size+1,0,none⟩=some (.int .u8 kd2):=cob h2 0
 have d1:w2.cell? ⟨w.heap.size+1,1,none⟩=some (.int .i64 fr2):=cob h2 1
 have d2:w2.cell? ⟨w.heap.size+1,2,none⟩=some (.int .i64 tt2):=cob h2 2
 have d3:w2.cell? ⟨w.heap.size+1,3,none⟩=some (.int .i64 tm2):=cob h2 3
 have d4:w2.cell? ⟨w.heap.size+1,4,none⟩=some (.int .i64 ix2):=cob h2 4
 have d5:w2.cell? ⟨w.heap.size+1,5,none⟩=some (.int .i64 ws2):=cob h2 5
 have d6:w2.cell? ⟨w.heap.size+1,6,none⟩=some (.bool ob2):=cob h2 6
 have d7:w2.cell? ⟨w.heap.size+1,7,none⟩=some (.int .i64 cm2):=cob h2 7
 have d8:w2.cell? ⟨w.heap.size+1,8,none⟩=some (.int .i64 rn2):=cob h2 8
 have c9:w2.cell? ⟨w.heap.size,9,none⟩=some (.slice ea n ec):=cob h1 9
 have d9:w2.cell? ⟨w.heap.size+1,9,none⟩=some (.slice ea2 n2 ec2):=cob h2 9
 clear hb2 h1 h2
 by_cases hkd:kd=kd2
 rotate_left
 ·
  have hg2:g=false:=no_of HG.out (fun h=>hkd h.1.1)
  have HG2:=Hd hg2
  have n1:(kd == kd2)=false:=beq_eq_false_iff_ne.2 hkd
  clear hg2
  go_wp2_with fail
  go_ret
  exact ⟨ret_bool HG2.out.symm,HB2.out⟩
 subst hkd
 by_cases hfr:fr=fr2
 rotate_left
 ·
  have hg2:g=false:=no_of HG.out (fun h=>hfr h.1.2.1)
  have HG2:=Hd hg2
  have n1:(fr == fr2)=false:=beq_eq_false_iff_ne.2 hfr
  clear hg2
  go_wp2_with fail
  go_ret
  exact ⟨ret_bool HG2.out.symm,HB2.out⟩
 subst hfr
 by_cases htt:tt=tt2
 rotate_left
 ·
  have hg2:g=false:=no_of HG.out (fun h=>htt h.1.2.2.1)
  have HG2:=Hd hg2
  have n1:(tt == tt2)=false:=beq_eq_false_iff_ne.2 htt
  clear hg2
  go_wp2_with fail
  go_ret
  exact ⟨ret_bool HG2.out.symm,HB2.out⟩
 subst htt
 by_cases htm:tm=tm2
 rotate_left
 ·
  have hg2:g=false:=no_of HG.out (fun h=>htm h.1.2.2.2.1)
  have HG2:=Hd hg2
  have n1:(tm == tm2)=false:=beq_eq_false_iff_ne.2 htm
  clear hg2
  go_wp2_with fail
  go_ret
  exact ⟨ret_bool HG2.out.symm,HB2.out⟩
 subst htm
 by_cases hix:ix=ix2
 rotate_left
 ·
  have hg2:g=false:=no_of HG.out (fun h=>hix h.1.2.2.2.2.1)
  have HG2:=Hd hg2
  have n1:(ix == ix2)=false:=beq_eq_false_iff_ne.2 hix
  clear hg2
  go_wp2_with fail
  go_ret
  exact ⟨ret_bool HG2.out.symm,HB2.out⟩
 subst hix
 by_cases hws:ws=ws2
 rotate_left
 ·
  have hg2:g=false:=no_of HG.out (fun h=>hws h.1.2.2.2.2.2.1)
  have HG2:=Hd hg2
  have n1:(ws == ws2)=false:=beq_eq_false_iff_ne.2 hws
  clear hg2
  go_wp2_with fail
  go_ret
  exact ⟨ret_bool HG2.out.symm,HB2.out⟩
 subst hws
 by_cases hob:ob=ob2
 rotate_left
 ·
  have hg2:g=false:=no_of HG.out (fun h=>hob h.1.2.2.2.2.2.2.1)
  have HG2:=Hd hg2
  have n1:(ob == ob2)=false:=beq_eq_false_iff_ne.2 hob
  clear hg2
  go_wp2_with fail
  go_ret
  exact ⟨ret_bool HG2.out.symm,HB2.out⟩
 subst hob
 by_cases hcm:cm=cm2
 rotate_left
 ·
  have hg2:g=false:=no_of HG.out (fun h=>hcm h.1.2.2.2.2.2.2.2.1)
  have HG2:=Hd hg2
  have n1:(cm == cm2)=false:=beq_eq_false_iff_ne.2 hcm
  clear hg2
  go_wp2_with fail
  go_ret
  exact ⟨ret_bool HG2.out.symm,HB2.out⟩
 subst hcm
 by_cases hrn:rn=rn2
 rotate_left
 ·
  have hg2:g=false:=no_of HG.out (fun h=>hrn h.1.2.2.2.2.2.2.2.2)
  have HG2:=Hd hg2
  have n1:(rn == rn2)=false:=beq_eq_false_iff_ne.2 hrn
  clear hg2
  go_wp2_with fail
  go_ret
  exact ⟨ret_bool HG2.out.symm,HB2.out⟩
 subst hrn
 obtain ⟨ge,hge⟩:∃ gg,decide (n=n2)=gg:=⟨_,rfl⟩
 have Hge:=Hd hge
 clear hge
 go_wp2_with fail
 refine (HE.out w2 HB2.out ge Hge.out).mono ?_
 rintro e w3 ⟨rfl,b3⟩
 have hsw3:=b3.size
 have Bw3:=Hd (HB2.out.trans (b3.mono HB2.out.size))
 have k1:=(b3.block w.heap.size (by omega)).trans H1.out
 have k2:=(b3.block (w.heap.size+1) (by omega)).trans H2.out
 have K1:=Hd k1
 have K2:=Hd k2
 clear b3 H1 H2 c0 d0 c1 d1 c2 d2 c3 d3 c4 d4 c5 d5 c6 d6 c7 d7 c8 d8 c9 d9
 have c10:w3.cell? ⟨w.heap.size,10,none⟩=some (.slice va m vc):=cob k1 10
 have d10:w3.cell? ⟨w.heap.size+1,10,none⟩=some (.slice va2 m2 vc2):=cob k2 10
 clear k1 k2
 cases ge with
 | false =>
  have hg2:g=false:=no_of HG.out (fun h=>of_decide_eq_false Hge.out h.2.1)
  have HG2:=Hd hg2
  clear hg2
  go_wp2_with fail
  go_ret
  exact ⟨ret_bool HG2.out.symm,Bw3.out⟩
 | true =>
 obtain ⟨gi,hgi⟩:∃ gg,decide (m=m2)=gg:=⟨_,rfl⟩
 have Hgi:=Hd hgi
 clear hgi
 go_wp2_with fail
 refine (HI.out w3 Bw3.out gi Hgi.out).mono ?_
 rintro e w4 ⟨rfl,b3⟩
 have hsw4:=b3.size
 have Bw4:=Hd (Bw3.out.trans (b3.mono Bw3.out.size))
 have k1:=(b3.block w.heap.size (by omega)).trans K1.out
 have k2:=(b3.block (w.heap.size+1) (by omega)).trans K2.out
 clear b3 K1 K2 c10 d10
 have c11:w4.cell? ⟨w.heap.size,11,none⟩=some (.slice ia q ic):=cob k1 11
 have d11:w4.cell? ⟨w.heap.size+1,11,none⟩=some (.slice ia2 q2 ic2):=cob k2 11
 clear k1 k2
 cases gi with
 | false =>
  have hg2:g=false:=no_of HG.out (fun h=>of_decide_eq_false Hgi.out h.2.2.1)
  have HG2:=Hd hg2
  clear hg2
  go_wp2_with fail
  go_ret
  exact ⟨ret_bool HG2.out.symm,Bw4.out⟩
 | true =>
 have hg2:decide (q=q2)=g:=by
  cases hd:decide (q=q2) with
  | true=>exact (HG.out.2 ⟨⟨by first | rfl | trivial,by first | rfl | trivial,by first | rfl | trivial,by first | rfl | trivial,by first | rfl | trivial,by first | rfl | trivial,by first | rfl | trivial,by first | rfl | trivial,by first | rfl | trivial⟩,of_decide_eq_true Hge.out,of_decide_eq_true Hgi.out,of_decide_eq_true hd⟩).symm
  | false=>exact (no_of HG.out (fun h=>of_decide_eq_false hd h.2.2.2)).symm
 have HG2:=Hd hg2
 clear hg2
 go_wp2_with fail
 refine (HBB.out w4 Bw4.out g HG2.out).mono ?_
 rintro e w5 ⟨rfl,b3⟩
 clear c11 d11
 go_wp2_with fail
 go_ret
 exact ⟨rfl,Bw4.out.trans (b3.mono Bw4.out.size)⟩
end Go.Proofs.YtglgcjkglhlggaaGreatDoor
