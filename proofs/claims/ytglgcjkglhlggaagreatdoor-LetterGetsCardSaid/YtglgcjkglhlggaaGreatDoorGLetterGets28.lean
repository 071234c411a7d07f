/- ApartLetters: two letters that calls have made, all their lists in blocks of their own, are found to lie apart. Conditions: the lists are the caller's own. -/
import Derived.Test.YtglgcjkglhlggaaGreatDoorGLetterGets0
import Derived.Test.YtglgcjkglhlggaaGreatDoorGLetterGets27
import Derived.Test.YtglgcjkglhlggaaGreatDoorGLetterGets15
import Derived.Test.YtglgcjkglhlggaaGreatDoorGLetterGets4
import Derived.Test.YtglgcjkglhlggaaGreatDoorGLetterGets11
import Derived.Test.YtglgcjkglhlggaaGreatDoorGLetterGets20
import Derived.Test.YtglgcjkglhlggaaGreatDoorGLetterGets21
set_option linter.unusedVariables false
set_option linter.unusedSimpArgs false
namespace Go.Proofs.YtglgcjkglhlggaaGreatDoor
open Go.RowKit
set_option maxRecDepth 20000
theorem bagE_not (T:TypeId)(h2:T ≠ 24)(h5:T ≠ 25)(h6:T ≠ 51)(h20:T ≠ 23)(h21:T ≠ 44)(h0:T ≠ 0)(i:Nat):T ≠ bagE i:=by
 unfold bagE
 split
 · exact h2
 ·
  split
  · exact h5
  ·
   split
   · exact h6
   ·
    split
    · exact h20
    ·
     split
     · exact h21
     · exact h0
theorem bagE_en (i:Nat):55 ≠ bagE i:=bagE_not _ (by decide) (by decide) (by decide) (by decide) (by decide) (by decide) i
theorem bagE_lt (i:Nat):27 ≠ bagE i:=bagE_not _ (by decide) (by decide) (by decide) (by decide) (by decide) (by decide) i
theorem upd_self {α:Type}(r:Nat→α)(i:Nat):upd r i (r i)=r:=by
 funext j;unfold upd;split
 · rename_i h;rw [h]
 · rfl
theorem upd_twice {α:Type}(r:Nat→α){i j:Nat}(h:i ≠ j)(x y x' y':α):upd (upd (upd (upd r i x) j y) i x') j y'=upd (upd r i x') j y':=by
 funext k;unfold upd
 by_cases h1:k=j
 · simp [h1]
 ·
  by_cases h2:k=i
  · simp [h2,h]
  · simp [h1,h2]
theorem oneC_bag (B bb:Nat)(f:Nat→Value)(rows:Nat→List Value)(ck:Int)(text:ByteArray)(a:Option Addr)(n c:Nat)(num:Int)(w:World)(hb:Bag w B bb f rows)(hB:B≤w.heap.size)(hm:(rows 6).length≤1000000) :
  Calls Tryz.prog 221 #[.pointer (some ⟨bb,0,none⟩),.agg #[.int .u8 ck,.string text,.slice a n c,.int .i64 num]] w fun e w'=>e=.returned (.tuple #[])∧(∃ f',Bag w' B bb f' (upd rows 6 (rows 6 ++ [.slice a n c])))∧Below B w w'∧BagKeeps w w':=by
 have HB:=Hd hb
 have HM:=Hd hm
 clear hb hm
 go_enter Tryz.func221,Tryz.ntmps221
 go_wp2_with fail
 have hbA:=HB.out.below ((Below.refl w.heap.size w).alloc (nlr _) (.cells #[.int .u8 ck,.string text,.slice a n c,.int .i64 num] 53)) (nlr _)
 refine (putValues_bag B bb f rows a n c _ hbA (by simp;omega) HM.out).mono ?_
 rintro e w2 ⟨rfl,hf,hb2,hk2⟩
 have HF:=Hd hf
 have hb3:=((Below.refl B w).alloc hB (.cells #[.int .u8 ck,.string text,.slice a n c,.int .i64 num] 53)).trans hb2
 have HK:=Hd ((BagKeeps.alloc w _).trans hk2)
 clear hf hbA hk2
 go_wp2_with fail
 go_end0
 exact ⟨rfl,HF.out,hb3,HK.out⟩
theorem oneE_bag (B bb:Nat)(f:Nat→Value)(rows:Nat→List Value)(t kd s q ck:Int)(text:ByteArray)(a:Option Addr)(n c:Nat)(num:Int)(va:Option Addr)(vn vc:Nat)(w:World)(hb:Bag w B bb f rows)(hB:B≤w.heap.size)(hm:(rows 6).length≤1000000)(hm2:(rows 2).length≤1000000) :
  Calls Tryz.prog 215 #[.pointer (some ⟨bb,0,none⟩),.agg #[.int .i64 t,.int .u8 kd,.int .i64 s,.int .i64 q,.int .u8 ck,.string text,.slice a n c,.int .i64 num,.slice va vn vc]] w fun e w'=>e=.returned (.tuple #[])∧(∃ f',Bag w' B bb f' (upd (upd rows 6 (rows 6 ++ [.slice a n c])) 2 (rows 2 ++ [.slice va vn vc])))∧Below B w w'∧BagKeeps w w':=by
 have HB:=Hd hb
 have HM:=Hd hm
 have HM2:=Hd hm2
 clear hb hm hm2
 go_enter Tryz.func215,Tryz.ntmps215
 go_wp2_with fail
 have hbA:=HB.out.below ((Below.refl w.heap.size w).alloc (nlr _) (.cells #[.int .i64 t,.int .u8 kd,.int .i64 s,.int .i64 q,.int .u8 ck,.string text,.slice a n c,.int .i64 num,.slice va vn vc] 55)) (nlr _)
 refine (oneC_bag B bb f rows ck text a n c num _ hbA (by simp;omega) HM.out).mono ?_
 rintro e w2 ⟨rfl,⟨f2,hf⟩,hb2,hk2⟩
 have HF:=Hd hf
 have hb3:=((Below.refl B w).alloc hB (.cells #[.int .i64 t,.int .u8 kd,.int .i64 s,.int .i64 q,.int .u8 ck,.string text,.slice a n c,.int .i64 num,.slice va vn vc] 55)).trans hb2
 have hblk:=hk2 w.heap.size _ 55 _ (heap_alloc_new w (.cells #[.int .i64 t,.int .u8 kd,.int .i64 s,.int .i64 q,.int .u8 ck,.string text,.slice a n c,.int .i64 num,.slice va vn vc] 55)) (by decide) bagE_en
 have d8:w2.cell? ⟨w.heap.size,8,none⟩=some (.slice va vn vc):=cob hblk 8
 have HK:=Hd ((BagKeeps.alloc w _).trans hk2)
 clear hf hbA hk2 hblk
 go_wp2_with fail
 refine (putInts_bag B bb f2 _ va vn vc w2 HF.out (by have:=hb3.size;omega) (by rw [upd_ne _ _ (by decide)];exact HM2.out)).mono ?_
 rintro e w4 ⟨rfl,hf4,hb4,hk4⟩
 rw [upd_ne _ _ (show (2:Nat) ≠ 6 by decide)] at hf4
 have HF4:=Hd hf4
 have hb5:=hb3.trans hb4
 have HK4:=Hd (HK.out.trans hk4)
 clear hf4 hk4 d8
 go_wp2_with fail
 go_end0
 exact ⟨rfl,HF4.out,hb5,HK4.out⟩
set_option maxHeartbeats 2000000 in
theorem putEs_bag (B bb:Nat)(f:Nat→Value)(rows:Nat→List Value)(ao:Option Addr)(n c:Nat)(es:List En)(w:World)(hn:es.length=n)(hx:EnsIn w B ao es)(hb:Bag w B bb f rows)(hB:B≤w.heap.size)(hm:(rows 6).length+n≤1000000)(hmI:(rows 2).length+n≤1000000)(hm2:(rows 20).length≤1000000) :
  Calls Tryz.prog 184 #[.pointer (some ⟨bb,0,none⟩),.slice ao n c] w fun e w'=>e=.returned (.tuple #[])∧(∃ f',Bag w' B bb f' (upd (upd (upd rows 20 (rows 20 ++ [.slice ao n c])) 6 (rows 6 ++ es.map argV)) 2 (rows 2 ++ es.map votV)))∧Below B w w'∧BagKeeps w w':=by
 obtain ⟨i0,hi,hz0,hz1,hz2⟩:=info24 (show (Tryz.prog.info? 23).map (fun i=>(i.zero,i.size,i.bytes))=some (some (.slice none 0 0),1,24) by kernel_rfl)
 have c5:w.cell? ⟨bb,20,none⟩=some (f 20):=hb.cell 20 (by decide)
 have HB:=Hd hb
 have HX:=Hd hx
 have HN:=Hd hn
 have HM:=Hd hm
 have HMI:=Hd hmI
 have hbl:=hb.lt
 have hn6:n≤1000000:=by omega
 clear hb hx hn hm hmI
 obtain ⟨v,hv⟩:∃ v,v=f 20:=⟨_,rfl⟩
 obtain ⟨R,hR⟩:∃ R,R=rows 20:=⟨_,rfl⟩
 rw [← hv] at c5
 rw [← hR] at hm2
 have HO:=Hd (show w.ownsRow B 23 1 v R.length R by rw [hv,hR];exact HB.out.own 20)
 have HV:=Hd hv
 have HR:=Hd hR
 clear hv hR
 go_enter Tryz.func184,Tryz.ntmps184
 go_wp2_with (at_builtin;refine wpList_append_own _ rfl (.tmp 9) (.tmp 11) 97 rfl B 23 i0 (.slice none 0 0) 1 24 Tryz.underlying97 hi hz0 hz1 hz2 rfl (by decide) v R.length R rfl (HO.out.alloc _) ⟨w.heap.size,0,none⟩ 1 1 [.slice ao n c] rfl rfl (cell_one_new _ _ _) (by simp [Value.oneCell']) (by unfold maxLen;omega) (by omega) (by simp;omega) ?_)
 intro v' w3 hown3 hg3 _
 obtain ⟨a3,c3,hv3,_,_,_⟩:=row_form hown3
 subst hv3
 have hga:w.grownBy w3 (f 20).ownBlock:=by
  rw [← HV.out]
  exact (World.grownBy_alloc w _ _).trans hg3
 have hB2:=HB.out.put 20 (by decide) (by decide) (v:=.slice a3 (R.length+1) c3) (x:=.slice ao n c) (by rw [← HR.out];exact hown3) hga
 have hb3:w3.heap[bb]?=some (.cells ((List.range 29).map f).toArray 106 (0,0)):=(hga.block bb hbl (fun e=>HB.out.apart 20 e.symm)).trans HB.out.is
 have d5:w3.cell? ⟨bb,20,none⟩=some v:=by
  rw [cob hb3 20,List.getElem?_toArray,List.getElem?_map,List.getElem?_range (by decide),HV.out];rfl
 have f5:w3.frozen? ⟨bb,20,none⟩=false:=ufb hb3 20
 have hbw:Below B w (w3.setCell ⟨bb,20,none⟩ (.slice a3 (R.length+1) c3)):=(((Below.refl B w).grown hga hB (fun k hk=>((HB.out.own 20).lt k hk).1)).setCell (p:=⟨bb,20,none⟩) HB.out.base _)
 have H1:=Hd hB2
 have H3:=Hd hbw
 have H4:=Hd (HB.out.keeps 20 hga (.slice a3 (R.length+1) c3))
 clear hB2 hbw hown3 hg3 hb3 hga
 go_wp2_with fail
 have h1:=H1.out
 have h3:=H3.out
 have h4:=H4.out
 clear d5 f5 H1 H3 H4
 generalize w3.setCell ⟨bb,20,none⟩ (.slice a3 (R.length+1) c3)=w4 at h1 h3 h4 ⊢
 obtain ⟨r2,hr2⟩:∃ r2,r2=upd rows 20 (rows 20 ++ [.slice ao n c]):=⟨_,rfl⟩
 have h26:r2 6=rows 6:=by rw [hr2];exact upd_ne rows _ (by decide)
 have h22:r2 2=rows 2:=by rw [hr2];exact upd_ne rows _ (by decide)
 rw [← hr2] at h1
 have HR2:=Hd hr2
 have H26:=Hd h26
 have H22:=Hd h22
 have HB4:=Hd h1
 clear hr2 h26 h22 h1 HB
 go_loopw [4] (fun i wr=>∃ (k:Nat),k≤n∧i=.int .i64 k∧(∃ f',Bag wr B bb f' (upd (upd r2 6 (rows 6 ++ (es.take k).map argV)) 2 (rows 2 ++ (es.take k).map votV)))∧Below B w wr∧BagKeeps w wr) (fun i _=>n - (intOf i).toNat)
 case atStart=>exact ⟨0,by omega,rfl,⟨_,by rw [← H26.out,← H22.out];simp only [List.take_zero,List.map_nil,List.append_nil];rw [upd_self,upd_self];exact HB4.out⟩,h3,h4⟩
 case round =>
  clear HB4 h3 h4
  obtain ⟨k,hk,rfl,hbag,hbel,hkp⟩:=hrel
  have HBG:=Hd hbag
  have HKR:=Hd hkp
  clear hbag hkp
  have hs:=hbel.size
  by_cases hlt:k<n
  ·
   have hkx:es[k]?=some (es[k]'(by rw [HN.out];exact hlt)):=List.getElem?_eq_getElem _
   obtain ⟨b,off,hao,hb,hc,_⟩:=HX.out.at hkx
   have htk:∀ V:En→Value,(es.take (k+1)).map V=(es.take k).map V ++ [V (es[k]'(by rw [HN.out];exact hlt))]:=fun V=>by
    rw [List.take_succ_eq_append_getElem (by rw [HN.out];exact hlt),List.map_append];rfl
   have hT1:=htk argV
   have hT2:=htk votV
   generalize es[k]'(by rw [HN.out];exact hlt)=x at hc hT1 hT2
   obtain ⟨t,kd,s,q,ck,text,aao,args,acap,num,vao,vs,vcap⟩:=x
   obtain ⟨an,han⟩:∃ an,args.length=an:=⟨_,rfl⟩
   obtain ⟨vn,hvn⟩:∃ vn,vs.length=vn:=⟨_,rfl⟩
   have hT1':(es.take (k+1)).map argV=(es.take k).map argV ++ [.slice aao an acap]:=by rw [← han];exact hT1
   have hT2':(es.take (k+1)).map votV=(es.take k).map votV ++ [.slice vao vn vcap]:=by rw [← hvn];exact hT2
   have HT1:=Hd hT1'
   have HT2:=Hd hT2'
   subst hao
   have c0:wr.cell? ⟨b,off+k * 9,none⟩=some (.int .i64 t):=(hbel.cell (p:=⟨b,_,none⟩) hb).trans (hc 0 (by decide))
   have c1:wr.cell? ⟨b,off+k * 9+1,none⟩=some (.int .u8 kd):=(hbel.cell (p:=⟨b,_,none⟩) hb).trans (hc 1 (by decide))
   have c2:wr.cell? ⟨b,off+k * 9+2,none⟩=some (.int .i64 s):=(hbel.cell (p:=⟨b,_,none⟩) hb).trans (hc 2 (by decide))
   have c3:wr.cell? ⟨b,off+k * 9+3,none⟩=some (.int .i64 q):=(hbel.cell (p:=⟨b,_,none⟩) hb).trans (hc 3 (by decide))
   have c4:wr.cell? ⟨b,off+k * 9+4,none⟩=some (.int .u8 ck):=(hbel.cell (p:=⟨b,_,none⟩) hb).trans (hc 4 (by decide))
   have c5:wr.cell? ⟨b,off+k * 9+5,none⟩=some (.string text):=(hbel.cell (p:=⟨b,_,none⟩) hb).trans (hc 5 (by decide))
   have c6:wr.cell? ⟨b,off+k * 9+6,none⟩=some (.slice aao an acap):=(hbel.cell (p:=⟨b,_,none⟩) hb).trans (han ▸ hc 6 (by decide))
   have c7:wr.cell? ⟨b,off+k * 9+7,none⟩=some (.int .i64 num):=(hbel.cell (p:=⟨b,_,none⟩) hb).trans (hc 7 (by decide))
   have c8:wr.cell? ⟨b,off+k * 9+8,none⟩=some (.slice vao vn vcap):=(hbel.cell (p:=⟨b,_,none⟩) hb).trans (hvn ▸ hc 8 (by decide))
   have i1:(k:Int)<n:=by omega
   clear hc hkx htk hT1 hT2 hT1' hT2' han hvn
   go_wp2_with fail
   obtain ⟨f',hf'⟩:=HBG.out
   refine (oneE_bag B bb f' _ t kd s q ck text aao an acap num vao vn vcap wr hf' (by omega) ?_ ?_).mono ?_
   · rw [upd_ne _ _ (show (6:Nat) ≠ 2 by decide),upd_at,List.length_append,List.length_map,List.length_take];have:=HM.out;omega
   · rw [upd_at,List.length_append,List.length_map,List.length_take];have:=HMI.out;omega
   rintro e w5 ⟨rfl,hf5,hb5,hk5⟩
   rw [upd_at,upd_ne _ _ (show (6:Nat) ≠ 2 by decide),upd_at,upd_twice _ (by decide)] at hf5
   have H5:=Hd hf5
   have HK5:=Hd (HKR.out.trans hk5)
   clear hf5 hk5 hf' c0 c1 c2 c3 c4 c5 c6 c7 c8
   go_wp2_with fail
   go_roundw
   case rel=>exact ⟨k+1,by omega,by go_num,by rw [HT1.out,HT2.out,← List.append_assoc,← List.append_assoc];exact H5.out,hbel.trans hb5,HK5.out⟩
   case measure=>simp [intOf];omega
  ·
   obtain rfl:k=n:=by omega
   have htk:es.take k=es:=List.take_of_length_le (by rw [HN.out];exact nlr _)
   have hbag:=HBG.out
   rw [htk,HR2.out] at hbag
   have HBG2:=Hd hbag
   clear htk hbag
   go_wp2_with fail
   go_end0
   exact ⟨rfl,HBG2.out,hbel,HKR.out⟩
/-- Lists of letters, entries, values, bytes, numbers. -/
def rws5 (A B C D E:List Value):Nat→List Value:=upd (upd (upd (upd (upd (fun _=>[]) 21 A) 20 B) 6 C) 5 D) 2 E
theorem rws5_nil:rws5 [] [] [] [] []=fun _=>[]:=by funext j;simp [rws5,upd]
theorem rws5_21 (A B C D E:List Value):rws5 A B C D E 21=A:=rfl
theorem rws5_20 (A B C D E:List Value):rws5 A B C D E 20=B:=rfl
theorem rws5_6 (A B C D E:List Value):rws5 A B C D E 6=C:=rfl
theorem rws5_5 (A B C D E:List Value):rws5 A B C D E 5=D:=rfl
theorem rws5_2 (A B C D E:List Value):rws5 A B C D E 2=E:=rfl
theorem rws5_is (A B C D E:List Value)(j:Nat):rws5 A B C D E j=if j=2 then E else if j=5 then D else if j=6 then C else if j=20 then B else if j=21 then A else []:=by
 unfold rws5 upd;rfl
theorem rws5_u21 (A B C D E X:List Value):upd (rws5 A B C D E) 21 X=rws5 X B C D E:=by
 funext j;rw [rws5_is];unfold upd;rw [rws5_is];by_cases h:j=21 <;> simp [h]
theorem rws5_u20 (A B C D E X:List Value):upd (rws5 A B C D E) 20 X=rws5 A X C D E:=by
 funext j;rw [rws5_is];unfold upd;rw [rws5_is];by_cases h:j=20 <;> simp [h]
theorem rws5_u6 (A B C D E X:List Value):upd (rws5 A B C D E) 6 X=rws5 A B X D E:=by
 funext j;rw [rws5_is];unfold upd;rw [rws5_is];by_cases h:j=6 <;> simp [h]
theorem rws5_u5 (A B C D E X:List Value):upd (rws5 A B C D E) 5 X=rws5 A B C X E:=by
 funext j;rw [rws5_is];unfold upd;rw [rws5_is];by_cases h:j=5 <;> simp [h]
theorem rws5_u2 (A B C D E X:List Value):upd (rws5 A B C D E) 2 X=rws5 A B C D X:=by
 funext j;rw [rws5_is];unfold upd;rw [rws5_is];by_cases h:j=2 <;> simp [h]
def lteV (x:Lt):Value:=.slice x.eo x.es.length x.ecap
def ltvV (x:Lt):Value:=.slice x.vo x.vs.length x.vcap
def ltiV (x:Lt):Value:=.slice x.io x.im.length x.icap
theorem oneL_bag (B bb:Nat)(f:Nat→Value)(XA XB XC XD XE:List Value)(x:Lt)(w:World)(hx:EnsIn w B x.eo x.es)(hb:Bag w B bb f (rws5 XA XB XC XD XE))(hB:B≤w.heap.size)(h6:XC.length+x.es.length≤1000000)(h2:XE.length+x.es.length≤1000000)(h20:XB.length≤1000000)(h5:XD.length≤1000000) :
  Calls Tryz.prog 117 #[.pointer (some ⟨bb,0,none⟩),ltVal x] w fun e w'=>e=.returned (.tuple #[])∧(∃ f',Bag w' B bb f' (rws5 XA (XB ++ [lteV x]) (XC ++ x.es.map argV) (XD ++ [ltiV x]) (XE ++ x.es.map votV ++ [ltvV x])))∧Below B w w'∧BagKeeps w w':=by
 obtain ⟨kd,fr,tt,tm,ix,ws,ob,cm,rn,ea,es,ec,va,vs,vc,ia,ims,ic⟩:=x
 simp only [ltVal,lteV,ltvV,ltiV] at hx h6 h2 ⊢
 obtain ⟨en,hen⟩:∃ en,es.length=en:=⟨_,rfl⟩
 obtain ⟨vn,hvn⟩:∃ vn,vs.length=vn:=⟨_,rfl⟩
 obtain ⟨im,him⟩:∃ im,ims.length=im:=⟨_,rfl⟩
 rw [hen,hvn,him]
 have HB:=Hd hb
 have HX:=Hd hx
 have HM:=Hd (And.intro h6 (And.intro h2 (And.intro h20 (And.intro h5 hen))))
 clear hb hx h6 h2 h20 h5 hen hvn him
 go_enter Tryz.func117,Tryz.ntmps117
 go_wp2_with fail
 have hal:Below B w (w.alloc (.cells #[.int .u8 kd,.int .i64 fr,.int .i64 tt,.int .i64 tm,.int .i64 ix,.int .i64 ws,.bool ob,.int .i64 cm,.int .i64 rn,.slice ea en ec,.slice va vn vc,.slice ia im ic] 27)):=(Below.refl B w).alloc hB _
 have hbA:=HB.out.below ((Below.refl w.heap.size w).alloc (nlr _) (.cells #[.int .u8 kd,.int .i64 fr,.int .i64 tt,.int .i64 tm,.int .i64 ix,.int .i64 ws,.bool ob,.int .i64 cm,.int .i64 rn,.slice ea en ec,.slice va vn vc,.slice ia im ic] 27)) (nlr _)
 refine (putEs_bag B bb f (rws5 XA XB XC XD XE) ea en ec es _ HM.out.2.2.2.2 (HX.out.below enSub_kept hal (nlr _)) hbA (by simp;omega) (by rw [rws5_6,← HM.out.2.2.2.2];exact HM.out.1) (by rw [rws5_2,← HM.out.2.2.2.2];exact HM.out.2.1) (by rw [rws5_20];exact HM.out.2.2.1)).mono ?_
 rintro e w2 ⟨rfl,⟨f2,hf⟩,hb2,hk2⟩
 rw [rws5_20,rws5_6,rws5_2,rws5_u20,rws5_u6,rws5_u2] at hf
 have HF:=Hd hf
 have hb3:=hal.trans hb2
 have hblk:=hk2 w.heap.size _ 27 _ (heap_alloc_new w (.cells #[.int .u8 kd,.int .i64 fr,.int .i64 tt,.int .i64 tm,.int .i64 ix,.int .i64 ws,.bool ob,.int .i64 cm,.int .i64 rn,.slice ea en ec,.slice va vn vc,.slice ia im ic] 27)) (by decide) bagE_lt
 have d10:w2.cell? ⟨w.heap.size,10,none⟩=some (.slice va vn vc):=cob hblk 10
 have HBL:=Hd hblk
 have HK:=Hd ((BagKeeps.alloc w (.cells #[.int .u8 kd,.int .i64 fr,.int .i64 tt,.int .i64 tm,.int .i64 ix,.int .i64 ws,.bool ob,.int .i64 cm,.int .i64 rn,.slice ea en ec,.slice va vn vc,.slice ia im ic] 27)).trans hk2)
 clear hf hbA hk2 hblk hal
 go_wp2_with fail
 refine (putInts_bag B bb f2 _ va vn vc w2 HF.out (by have:=hb3.size;omega) (by rw [rws5_2,List.length_append,List.length_map];have:=HM.out.2.1;omega)).mono ?_
 rintro e w4 ⟨rfl,⟨f4,hf4⟩,hb4,hk4⟩
 rw [rws5_2,rws5_u2] at hf4
 have hblk:=hk4 w.heap.size _ 27 _ HBL.out (by decide) bagE_lt
 have d11:w4.cell? ⟨w.heap.size,11,none⟩=some (.slice ia im ic):=cob hblk 11
 have HF4:=Hd hf4
 have hb5:=hb3.trans hb4
 have HK4:=Hd (HK.out.trans hk4)
 clear hf4 hk4 d10 hblk
 go_wp2_with fail
 refine (putBytes_bag B bb f4 _ ia im ic w4 HF4.out (by have:=hb5.size;omega) (by rw [rws5_5];exact HM.out.2.2.2.1)).mono ?_
 rintro e w6 ⟨rfl,⟨f6,hf6⟩,hb6,hk6⟩
 rw [rws5_5,rws5_u5] at hf6
 have HF6:=Hd hf6
 have hb7:=hb5.trans hb6
 have HK6:=Hd (HK4.out.trans hk6)
 clear hf6 hk6 d11
 go_wp2_with fail
 go_end0
 exact ⟨rfl,⟨_,HF6.out⟩,hb7,HK6.out⟩
set_option maxHeartbeats 2000000 in
theorem putL_bag (B bb g c:Nat)(f:Nat→Value)(XA XB XC XD XE:List Value)(x:Lt)(w:World)(hg:w.heap[g]?=some (.cells (ltArr x) 27 (0,0)))(hgB:g<B)(hx:EnsIn w B x.eo x.es)(hb:Bag w B bb f (rws5 XA XB XC XD XE))(hB:B≤w.heap.size)(h21:XA.length≤1000000)(h6:XC.length+x.es.length≤1000000)(h2:XE.length+x.es.length≤1000000)(h20:XB.length≤1000000)(h5:XD.length≤1000000) :
  Calls Tryz.prog 57 #[.pointer (some ⟨bb,0,none⟩),.slice (some ⟨g,0,none⟩) 1 c] w fun e w'=>e=.returned (.tuple #[])∧(∃ f',Bag w' B bb f' (rws5 (XA ++ [.slice (some ⟨g,0,none⟩) 1 c]) (XB ++ [lteV x]) (XC ++ x.es.map argV) (XD ++ [ltiV x]) (XE ++ x.es.map votV ++ [ltvV x])))∧Below B w w':=by
 obtain ⟨i0,hi,hz0,hz1,hz2⟩:=info24 (show (Tryz.prog.info? 44).map (fun i=>(i.zero,i.size,i.bytes))=some (some (.slice none 0 0),1,24) by kernel_rfl)
 have c5:w.cell? ⟨bb,21,none⟩=some (f 21):=hb.cell 21 (by decide)
 have HB:=Hd hb
 have HX:=Hd hx
 have HG:=Hd hg
 have HM:=Hd (And.intro h6 (And.intro h2 (And.intro h20 h5)))
 have hbl:=hb.lt
 clear hb hx hg h6 h2 h20 h5
 obtain ⟨v,hv⟩:∃ v,v=f 21:=⟨_,rfl⟩
 obtain ⟨R,hR⟩:∃ R,R=XA:=⟨_,rfl⟩
 rw [← hv] at c5
 rw [← hR] at h21
 have HO:=Hd (show w.ownsRow B 44 1 v R.length R by rw [hv,hR];exact HB.out.own 21)
 have HV:=Hd hv
 have HR:=Hd hR
 clear hv hR
 go_enter Tryz.func57,Tryz.ntmps57
 go_wp2_with (at_builtin;refine wpList_append_own _ rfl (.tmp 9) (.tmp 11) 45 rfl B 44 i0 (.slice none 0 0) 1 24 Tryz.underlying45 hi hz0 hz1 hz2 rfl (by decide) v R.length R rfl (HO.out.alloc _) ⟨w.heap.size,0,none⟩ 1 1 [.slice (some ⟨g,0,none⟩) 1 c] rfl rfl (cell_one_new _ _ _) (by simp [Value.oneCell']) (by unfold maxLen;omega) (by omega) (by simp;omega) ?_)
 intro v' w3 hown3 hg3 _
 obtain ⟨a3,c3,hv3,_,_,_⟩:=row_form hown3
 subst hv3
 have hga:w.grownBy w3 (f 21).ownBlock:=by
  rw [← HV.out]
  exact (World.grownBy_alloc w _ _).trans hg3
 have hB2:=HB.out.put 21 (by decide) (by decide) (v:=.slice a3 (R.length+1) c3) (x:=.slice (some ⟨g,0,none⟩) 1 c) (by rw [rws5_21,← HR.out];exact hown3) hga
 rw [rws5_21,rws5_u21] at hB2
 have hb3:w3.heap[bb]?=some (.cells ((List.range 29).map f).toArray 106 (0,0)):=(hga.block bb hbl (fun e=>HB.out.apart 21 e.symm)).trans HB.out.is
 have d5:w3.cell? ⟨bb,21,none⟩=some v:=by
  rw [cob hb3 21,List.getElem?_toArray,List.getElem?_map,List.getElem?_range (by decide),HV.out];rfl
 have f5:w3.frozen? ⟨bb,21,none⟩=false:=ufb hb3 21
 have hbw:Below B w (w3.setCell ⟨bb,21,none⟩ (.slice a3 (R.length+1) c3)):=(((Below.refl B w).grown hga hB (fun k hk=>((HB.out.own 21).lt k hk).1)).setCell (p:=⟨bb,21,none⟩) HB.out.base _)
 have H1:=Hd hB2
 have H3:=Hd hbw
 clear hB2 hbw hown3 hg3 hb3 hga
 go_wp2_with fail
 have h1:=H1.out
 have h3:=H3.out
 clear d5 f5 H1 H3
 generalize w3.setCell ⟨bb,21,none⟩ (.slice a3 (R.length+1) c3)=w4 at h1 h3 ⊢
 have HB4:=Hd h1
 clear h1 HB
 go_loopw [4] (fun i wr=>((i=.int .i64 0∧∃ f',Bag wr B bb f' (rws5 (XA ++ [.slice (some ⟨g,0,none⟩) 1 c]) XB XC XD XE))∨(i=.int .i64 1∧∃ f',Bag wr B bb f' (rws5 (XA ++ [.slice (some ⟨g,0,none⟩) 1 c]) (XB ++ [lteV x]) (XC ++ x.es.map argV) (XD ++ [ltiV x]) (XE ++ x.es.map votV ++ [ltvV x]))))∧Below B w wr) (fun i _=>1 - (intOf i).toNat)
 case atStart=>exact ⟨Or.inl ⟨rfl,_,HB4.out⟩,h3⟩
 case round =>
  clear HB4 h3
  obtain ⟨hrel,hbel⟩:=hrel
  have hs:=hbel.size
  rcases hrel with ⟨rfl,hbag⟩ | ⟨rfl,hbag⟩
  ·
   have HBG:=Hd hbag
   have hblk:=(hbel.block g hgB).trans HG.out
   have d0:wr.cell? ⟨g,0,none⟩=some (.int .u8 x.kind):=cob hblk 0
   have d1:wr.cell? ⟨g,1,none⟩=some (.int .i64 x.fr):=cob hblk 1
   have d2:wr.cell? ⟨g,2,none⟩=some (.int .i64 x.tov):=cob hblk 2
   have d3:wr.cell? ⟨g,3,none⟩=some (.int .i64 x.term):=cob hblk 3
   have d4:wr.cell? ⟨g,4,none⟩=some (.int .i64 x.index):=cob hblk 4
   have d5:wr.cell? ⟨g,5,none⟩=some (.int .i64 x.was):=cob hblk 5
   have d6:wr.cell? ⟨g,6,none⟩=some (.bool x.ok):=cob hblk 6
   have d7:wr.cell? ⟨g,7,none⟩=some (.int .i64 x.commit):=cob hblk 7
   have d8:wr.cell? ⟨g,8,none⟩=some (.int .i64 x.round):=cob hblk 8
   have d9:wr.cell? ⟨g,9,none⟩=some (.slice x.eo x.es.length x.ecap):=cob hblk 9
   have d10:wr.cell? ⟨g,10,none⟩=some (.slice x.vo x.vs.length x.vcap):=cob hblk 10
   have d11:wr.cell? ⟨g,11,none⟩=some (.slice x.io x.im.length x.icap):=cob hblk 11
   have HX5:=Hd (HX.out.below enSub_kept hbel (nlr _))
   clear hbag hblk
   go_wp2_with fail
   obtain ⟨f',hf'⟩:=HBG.out
   refine (oneL_bag B bb f' _ XB XC XD XE x wr HX5.out hf' (by omega) HM.out.1 HM.out.2.1 HM.out.2.2.1 HM.out.2.2.2).mono ?_
   rintro e w5 ⟨rfl,hf5,hb5,_⟩
   have H5:=Hd hf5
   clear hf5 hf' d0 d1 d2 d3 d4 d5 d6 d7 d8 d9 d10 d11
   go_wp2_with fail
   go_roundw
   case rel=>exact ⟨Or.inr ⟨rfl,H5.out⟩,hbel.trans hb5⟩
   case measure=>simp [intOf]
  ·
   have HBG:=Hd hbag
   clear hbag
   go_wp2_with fail
   go_end0
   exact ⟨rfl,HBG.out,hbel⟩
theorem sep_list {α:Type}(d:α)(V:α→Value){D:List α}(h:D.Pairwise fun x y=>(V x).ownBlock=none∨(V x).ownBlock ≠ (V y).ownBlock):SepAll D.length fun j=>V (D.getD j d):=by
 have key:∀ i j,i<j→j<D.length→Sep (V (D.getD i d)) (V (D.getD j d)):=by
  intro i j hij hj b h1 h2
  have:=List.pairwise_iff_getElem.1 h i j (by omega) hj hij
  have e1:D.getD i d=D[i]'(by omega):=by simp [List.getD,List.getElem?_eq_getElem (show i<D.length by omega)]
  have e2:D.getD j d=D[j]:=by simp [List.getD,List.getElem?_eq_getElem hj]
  rw [e1] at h1
  rw [e2] at h2
  rcases this with h3 | h3
  · rw [h3] at h1;cases h1
  · exact h3 (h1.trans h2.symm)
 intro i j hi hj hne
 rcases Nat.lt_or_gt_of_ne hne with h1 | h1
 · exact key i j h1 hj
 · exact (key j i h1 hi).symm
theorem map_getD {α β:Type}(g:α→β)(d:α)(l:List α):l.map g=(List.range l.length).map fun j=>g (l.getD j d):=by
 apply List.ext_getElem?
 intro i
 rw [List.getElem?_map,List.getElem?_map]
 by_cases hi:i<l.length
 ·
  rw [List.getElem?_range hi,List.getElem?_eq_getElem hi]
  simp [List.getD,List.getElem?_eq_getElem hi]
 · rw [List.getElem?_eq_none (by omega),List.getElem?_eq_none (by simpa using hi)];rfl
/-- A row as it lies: its value, how many, its cells. -/
structure Rw where
 v:Value
 n:Nat
 c:List Value
def rw0:Rw:=⟨.slice none 0 0,0,[]⟩
def ltInts (x:Lt):List Rw:=x.es.map (fun e=>⟨votV e,e.vs.length,e.vs.flatMap iCells⟩) ++ [⟨ltvV x,x.vs.length,x.vs.flatMap iCells⟩]
def ltVals (x:Lt):List Rw:=x.es.map fun e=>⟨argV e,e.args.length,e.args.flatMap vaCells⟩
def ltImg (x:Lt):Rw:=⟨ltiV x,x.im.length,x.im.map bv⟩
def ltEnt (x:Lt):Rw:=⟨lteV x,x.es.length,x.es.flatMap enCells⟩
theorem ltInts_v (x:Lt):(ltInts x).map Rw.v=x.es.map votV ++ [ltvV x]:=by simp [ltInts]
theorem ltVals_v (x:Lt):(ltVals x).map Rw.v=x.es.map argV:=by simp [ltVals]
/-- A row of the call's own. -/
def RwOwn (w:World) (B:Nat) (T:TypeId) (sz:Nat) (r:Rw):Prop:=w.ownsRow B T sz r.v r.n r.c
theorem ints_own {w:World}{B:Nat}{x:Lt}(h:OwnLt w B x):∀ r ∈ ltInts x,RwOwn w B 3 1 r:=by
 intro r hr
 rcases List.mem_append.1 hr with h1 | h1
 ·
  obtain ⟨e,he,rfl⟩:=List.mem_map.1 h1
  exact (h.1.own e he).2
 · rw [List.mem_singleton.1 h1];exact h.2.1
theorem vals_own {w:World}{B:Nat}{x:Lt}(h:OwnLt w B x):∀ r ∈ ltVals x,RwOwn w B 58 3 r:=by
 intro r hr
 obtain ⟨e,he,rfl⟩:=List.mem_map.1 hr
 exact (h.1.own e he).1
def sepR (p q:Rw):Prop:=p.v.ownBlock=none∨p.v.ownBlock ≠ q.v.ownBlock
theorem vals_sep {w:World}{B:Nat}{x:Lt}(h:OwnLt w B x):(ltVals x).Pairwise sepR :=
 List.pairwise_map.2 (h.1.sep.imp fun h=>h.1)
theorem ints_sep {w:World}{B:Nat}{x:Lt}(h:OwnLt w B x)(hv:∀ e ∈ x.es,vApart e x):(ltInts x).Pairwise sepR:=by
 refine List.pairwise_append.2 ⟨List.pairwise_map.2 (h.1.sep.imp fun h=>h.2),List.pairwise_singleton _ _,?_⟩
 intro p hp q hq
 obtain ⟨e,he,rfl⟩:=List.mem_map.1 hp
 rw [List.mem_singleton.1 hq]
 cases hg:(votV e).ownBlock with
 | none=>exact Or.inl hg
 | some g=>exact Or.inr fun e2=>hv e he g hg (by rw [← hg];exact e2.symm)
theorem sep_low {w w0:World}{B M:Nat}{T T2:TypeId}{sz sz2:Nat}{p q:Rw}(h:RwOwn w0 B T sz p)(h2:RwOwn w M T2 sz2 q)(hM:w0.heap.size≤M):sepR p q:=by
 cases hg:p.v.ownBlock with
 | none=>exact Or.inl hg
 | some g=>exact Or.inr fun e=>absurd (World.ownsRow.lt h2 g (by rw [← e];exact hg)).1 (by have h3:=(World.ownsRow.lt h g hg).2;omega)
def rwd (D:List Rw) (j:Nat):Rw:=D.getD j rw0
theorem rwd_mem (D:List Rw)(j:Nat)(h:j<D.length):rwd D j ∈ D:=by
 unfold rwd
 simp [List.getD,List.getElem?_eq_getElem h]
theorem rows_at {w:World}{B:Nat}{T:TypeId}{sz:Nat}{D:List Rw}(h:∀ r ∈ D,RwOwn w B T sz r):RowsAt B T sz D.length (fun j=>(rwd D j).v) (fun j=>(rwd D j).n) (fun j=>(rwd D j).c) w :=
 fun j hj=>h _ (rwd_mem D j hj)
theorem rows_below {w w':World}{B B':Nat}{T:TypeId}{sz:Nat}{D:List Rw}(h:∀ r ∈ D,RwOwn w B T sz r)(hb:Below B' w w')(hB:w.heap.size≤B'):∀ r ∈ D,RwOwn w' B T sz r:=fun r hr=>own_below (h r hr) hb hB
theorem rows_le {w:World}{B B2:Nat}{T:TypeId}{sz:Nat}{D:List Rw}(h:∀ r ∈ D,RwOwn w B T sz r)(hB:B2≤B):∀ r ∈ D,RwOwn w B2 T sz r:=fun r hr=>Go.Joins.ownsRow_le (h r hr) hB
theorem ltr_own {w:World}{B g:Nat}{x:Lt}(h:w.heap[g]?=some (.cells (ltArr x) 27 (0,0)))(hg:B≤g):w.ownsRow B 27 12 (.slice (some ⟨g,0,none⟩) 1 1) 1 (ltArr x).toList :=
 ⟨rfl,Or.inr ⟨g,1,ltArr x,rfl,hg,h,nlr _,by unfold maxLen;omega,rfl,rfl⟩⟩
theorem ltInts_n {x:Lt}(h:LtFine x):∀ r ∈ ltInts x,r.n≤1099511627776:=by
 intro r hr
 rcases List.mem_append.1 hr with h1 | h1
 ·
  obtain ⟨e,he,rfl⟩:=List.mem_map.1 h1
  have:=(h.es e he).vn
  show e.vs.length≤_
  omega
 ·
  rw [List.mem_singleton.1 h1]
  have:=h.vn
  show x.vs.length≤_
  omega
theorem ltVals_n {x:Lt}(h:LtFine x):∀ r ∈ ltVals x,r.n≤1099511627776:=by
 intro r hr
 obtain ⟨e,he,rfl⟩:=List.mem_map.1 hr
 have:=(h.es e he).args
 show e.args.length≤_
 omega
/-- Rows of five kinds, each apart from the others. -/
structure Fin5 (w:World) (B:Nat) (I Y V E L:List Rw):Prop where
 oI:∀ r ∈ I,RwOwn w B 3 1 r
 sI:I.Pairwise sepR
 lI:I.length≤100000
 nI:∀ r ∈ I,r.n≤1099511627776
 oY:∀ r ∈ Y,RwOwn w B 5 1 r
 sY:Y.Pairwise sepR
 lY:Y.length≤100000
 nY:∀ r ∈ Y,r.n≤1099511627776
 oV:∀ r ∈ V,RwOwn w B 58 3 r
 sV:V.Pairwise sepR
 lV:V.length≤100000
 nV:∀ r ∈ V,r.n≤1099511627776
 oE:∀ r ∈ E,RwOwn w B 55 9 r
 sE:E.Pairwise sepR
 lE:E.length≤100000
 nE:∀ r ∈ E,r.n≤1099511627776
 oL:∀ r ∈ L,RwOwn w B 27 12 r
 sL:L.Pairwise sepR
 lL:L.length≤100000
 nL:∀ r ∈ L,r.n≤500000000000
theorem Fin5.below {w w':World}{B:Nat}{I Y V E L:List Rw}(h:Fin5 w B I Y V E L)(hb:Below w.heap.size w w'):Fin5 w' B I Y V E L :=
 { h with oI:=rows_below h.oI hb (nlr _),oY:=rows_below h.oY hb (nlr _),oV:=rows_below h.oV hb (nlr _),oE:=rows_below h.oE hb (nlr _),oL:=rows_below h.oL hb (nlr _) }
theorem apart5 {B Bb bb:Nat}{f:Nat→Value}{XA XB XC XD XE:List Value}{w:World}{I Y V E L:List Rw}(hb:Bag w Bb bb f (rws5 XA XB XC XD XE))(h:Fin5 w B I Y V E L)(hB:B≤w.heap.size)(hBb:B≤Bb)(hI:I.map Rw.v=XE)(hV:V.map Rw.v=XC)(hY:Y.map Rw.v=XD:=by rfl)(hE:E.map Rw.v=XB:=by rfl)(hL:L.map Rw.v=XA:=by rfl) :
  Calls Tryz.prog 48 #[.pointer (some ⟨bb,0,none⟩)] w fun e w'=>e=.returned (.bool true)∧Below B w w':=by
 refine (apartL_bag B Bb bb f _ w hb hB hBb
  I.length (fun j=>(rwd I j).v) (fun j=>(rwd I j).n) (fun j=>(rwd I j).c) (by rw [rws5_2,← hI];exact map_getD Rw.v rw0 I) (rows_at h.oI) (sep_list rw0 Rw.v h.sI) h.lI (fun j hj=>h.nI _ (rwd_mem I j hj))
  Y.length (fun j=>(rwd Y j).v) (fun j=>(rwd Y j).n) (fun j=>(rwd Y j).c) (by rw [rws5_5,← hY];exact map_getD Rw.v rw0 Y) (rows_at h.oY) (sep_list rw0 Rw.v h.sY) h.lY (fun j hj=>h.nY _ (rwd_mem Y j hj))
  V.length (fun j=>(rwd V j).v) (fun j=>(rwd V j).n) (fun j=>(rwd V j).c) (by rw [rws5_6,← hV];exact map_getD Rw.v rw0 V) (rows_at h.oV) (sep_list rw0 Rw.v h.sV) h.lV (fun j hj=>h.nV _ (rwd_mem V j hj))
  E.length (fun j=>(rwd E j).v) (fun j=>(rwd E j).n) (fun j=>(rwd E j).c) (by rw [rws5_20,← hE];exact map_getD Rw.v rw0 E) (rows_at h.oE) (sep_list rw0 Rw.v h.sE) h.lE (fun j hj=>h.nE _ (rwd_mem E j hj))
  L.length (fun j=>(rwd L j).v) (fun j=>(rwd L j).n) (fun j=>(rwd L j).c) (by rw [rws5_21,← hL];exact map_getD Rw.v rw0 L) (rows_at h.oL) (sep_list rw0 Rw.v h.sL) h.lL (fun j hj=>h.nL _ (rwd_mem L j hj))).mono ?_
 rintro e w' ⟨h1,h2,_⟩
 exact ⟨h1,h2⟩
/-- How far the letters have been put in. -/
def LsK (v1 v2:Value) (x y:Lt) (B bb:Nat) (i:Value) (w:World):Prop :=
 (i=.int .i64 0∧∃ f',Bag w B bb f' (rws5 [] [] [] [] []))∨(i=.int .i64 1∧∃ f',Bag w B bb f' (rws5 [v1] [lteV x] (x.es.map argV) [ltiV x] (x.es.map votV ++ [ltvV x])))∨(i=.int .i64 2∧∃ f',Bag w B bb f' (rws5 [v1,v2] [lteV x,lteV y] (x.es.map argV ++ y.es.map argV) [ltiV x,ltiV y] (x.es.map votV ++ [ltvV x] ++ y.es.map votV ++ [ltvV y])))
set_option maxHeartbeats 4000000 in
theorem apartLs_any (B M lb lc g1 g2 k1 k2:Nat)(x y:Lt)(w0 w:World)(hc0:w.cell? ⟨lb,0,none⟩=some (.slice (some ⟨g1,0,none⟩) 1 k1))(hc1:w.cell? ⟨lb,1,none⟩=some (.slice (some ⟨g2,0,none⟩) 1 k2))(hlb:lb<w.heap.size)
  (hb1:w.heap[g1]?=some (.cells (ltArr x) 27 (0,0))) (hb2:w.heap[g2]?=some (.cells (ltArr y) 27 (0,0))) (hg1:B≤g1) (hg2:B≤g2) (hne:g1 ≠ g2) (hk1:k1=1) (hk2:k2=1)
  (h0:OwnLt w0 B x) (h1:OwnLt w B x) (h2:OwnLt w M y) (hM:w0.heap.size≤M) (hBM:B≤M) (hB:B≤w.heap.size) (hv1:∀ e ∈ x.es,vApart e x) (hv2:∀ e ∈ y.es,vApart e y) (hx:LtFine x) (hy:LtFine y) (he1:x.es.length≤40000) (he2:y.es.length≤40000) :
  Calls Tryz.prog 23 #[.slice (some ⟨lb,0,none⟩) 2 lc] w fun e w'=>e=.returned (.bool true)∧Below B w w':=by
 subst hk1 hk2
 have hin1:EnsIn w w.heap.size x.eo x.es:=(own_ltSub h1).1
 have hin2:EnsIn w w.heap.size y.eo y.es:=(own_ltSub h2).1
 have hsI:(ltInts x ++ ltInts y).Pairwise sepR:=List.pairwise_append.2 ⟨ints_sep h1 hv1,ints_sep h2 hv2,fun p hp q hq=>sep_low (ints_own h0 p hp) (ints_own h2 q hq) hM⟩
 have hsV:(ltVals x ++ ltVals y).Pairwise sepR:=List.pairwise_append.2 ⟨vals_sep h1,vals_sep h2,fun p hp q hq=>sep_low (vals_own h0 p hp) (vals_own h2 q hq) hM⟩
 have hsB:[ltImg x,ltImg y].Pairwise sepR:=by
  refine List.pairwise_cons.2 ⟨fun q hq=>?_,List.pairwise_singleton _ _⟩
  rw [List.mem_singleton.1 hq]
  exact sep_low (show RwOwn w0 B 5 1 (ltImg x) from h0.2.2) (show RwOwn w M 5 1 (ltImg y) from h2.2.2) hM
 have hsE:[ltEnt x,ltEnt y].Pairwise sepR:=by
  refine List.pairwise_cons.2 ⟨fun q hq=>?_,List.pairwise_singleton _ _⟩
  rw [List.mem_singleton.1 hq]
  exact sep_low (show RwOwn w0 B 55 9 (ltEnt x) from h0.1.row) (show RwOwn w M 55 9 (ltEnt y) from h2.1.row) hM
 have hoI:∀ r ∈ ltInts x ++ ltInts y,RwOwn w B 3 1 r:=fun r hr=>by
  rcases List.mem_append.1 hr with h | h
  · exact ints_own h1 r h
  · exact rows_le (ints_own h2) hBM r h
 have hoV:∀ r ∈ ltVals x ++ ltVals y,RwOwn w B 58 3 r:=fun r hr=>by
  rcases List.mem_append.1 hr with h | h
  · exact vals_own h1 r h
  · exact rows_le (vals_own h2) hBM r h
 have hoB:∀ r ∈ [ltImg x,ltImg y],RwOwn w B 5 1 r:=fun r hr=>by
  rcases List.mem_cons.1 hr with rfl | h
  · exact h1.2.2
  · rw [List.mem_singleton.1 h];exact Go.Joins.ownsRow_le h2.2.2 hBM
 have hoE:∀ r ∈ [ltEnt x,ltEnt y],RwOwn w B 55 9 r:=fun r hr=>by
  rcases List.mem_cons.1 hr with rfl | h
  · exact h1.1.row
  · rw [List.mem_singleton.1 h];exact Go.Joins.ownsRow_le h2.1.row hBM
 have hoL:∀ r ∈ [(⟨.slice (some ⟨g1,0,none⟩) 1 1,1,(ltArr x).toList⟩:Rw),⟨.slice (some ⟨g2,0,none⟩) 1 1,1,(ltArr y).toList⟩],RwOwn w B 27 12 r:=fun r hr=>by
  rcases List.mem_cons.1 hr with rfl | h
  · exact ltr_own hb1 hg1
  · rw [List.mem_singleton.1 h];exact ltr_own hb2 hg2
 have hsL:[(⟨.slice (some ⟨g1,0,none⟩) 1 1,1,(ltArr x).toList⟩:Rw),⟨.slice (some ⟨g2,0,none⟩) 1 1,1,(ltArr y).toList⟩].Pairwise sepR:=by
  refine List.pairwise_cons.2 ⟨fun q hq=>?_,List.pairwise_singleton _ _⟩
  rw [List.mem_singleton.1 hq]
  exact Or.inr (by simp [Value.ownBlock,hne])
 have hnI:∀ r ∈ ltInts x ++ ltInts y,r.n≤1099511627776:=fun r hr=>by
  rcases List.mem_append.1 hr with h | h
  · exact ltInts_n hx r h
  · exact ltInts_n hy r h
 have hnV:∀ r ∈ ltVals x ++ ltVals y,r.n≤1099511627776:=fun r hr=>by
  rcases List.mem_append.1 hr with h | h
  · exact ltVals_n hx r h
  · exact ltVals_n hy r h
 have hlI:(ltInts x ++ ltInts y).length≤100000:=by simp [ltInts];omega
 have hlV:(ltVals x ++ ltVals y).length≤100000:=by simp [ltVals];omega
 have hli:x.im.length≤1099511627776∧y.im.length≤1099511627776:=by have:=hx.ln;have:=hy.ln;omega
 have hmI:(ltInts x ++ ltInts y).map Rw.v=x.es.map votV ++ [ltvV x] ++ y.es.map votV ++ [ltvV y]:=by rw [List.map_append,ltInts_v,ltInts_v];simp [List.append_assoc]
 have hmV:(ltVals x ++ ltVals y).map Rw.v=x.es.map argV ++ y.es.map argV:=by rw [List.map_append,ltVals_v,ltVals_v]
 have HIN1:=Hd hin1
 have HIN2:=Hd hin2
 have HF:=Hd (show Fin5 w B (ltInts x ++ ltInts y) [ltImg x,ltImg y] (ltVals x ++ ltVals y) [ltEnt x,ltEnt y] [⟨.slice (some ⟨g1,0,none⟩) 1 1,1,(ltArr x).toList⟩,⟨.slice (some ⟨g2,0,none⟩) 1 1,1,(ltArr y).toList⟩] from
  ⟨hoI,hsI,hlI,hnI,hoB,hsB,(by simp),(by simpa [ltImg] using hli),hoV,hsV,hlV,hnV,hoE,hsE,(by simp),(by simp [ltEnt];omega),hoL,hsL,(by simp),(by simp)⟩)
 have HMI:=Hd hmI
 have HMV:=Hd hmV
 have HC0:=Hd hc0
 have HC1:=Hd hc1
 have HB1:=Hd hb1
 have HB2:=Hd hb2
 have hlt1:g1<w.heap.size:=(Array.getElem?_eq_some_iff.1 hb1).1
 have hlt2:g2<w.heap.size:=(Array.getElem?_eq_some_iff.1 hb2).1
 clear hin1 hin2 hsI hsV hsB hsE hoI hoV hoB hoE hoL hsL hnI hnV hlI hlV hli hmI hmV hc0 hc1 hb1 hb2 h0 h1 h2 hv1 hv2 hx hy hg1 hg2 hM hBM
 go_enter Tryz.func23,Tryz.ntmps23
 go_wp2_with fail
 have hb0:Bag (w.alloc _) w.heap.size w.heap.size (fun _=>.slice none 0 0) (fun _=>[]):=Bag.made w
 have hbe:Below w.heap.size w (w.alloc (.cells ((List.range 29).map fun _=>Value.slice none 0 0).toArray 106)):=(Below.refl _ _).alloc (nlr _) _
 have hlit:((List.range 29).map fun _=>Value.slice none 0 0).toArray=#[.slice none 0 0,.slice none 0 0,.slice none 0 0,.slice none 0 0,.slice none 0 0,.slice none 0 0,.slice none 0 0,.slice none 0 0,.slice none 0 0,.slice none 0 0,.slice none 0 0,.slice none 0 0,.slice none 0 0,.slice none 0 0,.slice none 0 0,.slice none 0 0,.slice none 0 0,.slice none 0 0,.slice none 0 0,.slice none 0 0,.slice none 0 0,.slice none 0 0,.slice none 0 0,.slice none 0 0,.slice none 0 0,.slice none 0 0,.slice none 0 0,.slice none 0 0,.slice none 0 0]:=rfl
 rw [hlit] at hb0 hbe
 have HBE:=Hd hbe
 clear hbe hlit
 generalize w.alloc _=w1 at hb0 HBE ⊢
 have hbe:=HBE.out
 have HB0:=Hd hb0
 clear HBE hb0
 go_loopw [4] (fun i wr=>LsK (.slice (some ⟨g1,0,none⟩) 1 1) (.slice (some ⟨g2,0,none⟩) 1 1) x y w.heap.size w.heap.size i wr∧Below w.heap.size w wr) (fun i _=>2 - (intOf i).toNat)
 case atStart=>exact ⟨Or.inl ⟨rfl,_,by rw [rws5_nil];exact HB0.out⟩,hbe⟩
 case round =>
  clear hbe HB0
  obtain ⟨hrel,hbel⟩:=hrel
  have hs:=hbel.size
  have c0:wr.cell? ⟨lb,0,none⟩=some (.slice (some ⟨g1,0,none⟩) 1 1):=(hbel.cell (p:=⟨lb,0,none⟩) hlb).trans HC0.out
  have c1':wr.cell? ⟨lb,1,none⟩=some (.slice (some ⟨g2,0,none⟩) 1 1):=(hbel.cell (p:=⟨lb,1,none⟩) hlb).trans HC1.out
  rcases hrel with ⟨rfl,hbag⟩ | ⟨rfl,hbag⟩ | ⟨rfl,hbag⟩
  ·
   have HBG:=Hd hbag
   clear hbag
   go_wp2_with fail
   obtain ⟨f',hf'⟩:=HBG.out
   refine (putL_bag w.heap.size w.heap.size g1 1 f' [] [] [] [] [] x wr ((hbel.block g1 hlt1).trans HB1.out) hlt1 (HIN1.out.below enSub_kept hbel (nlr _)) hf' hs (by simp) (by simp;omega) (by simp;omega) (by simp) (by simp)).mono ?_
   rintro e w5 ⟨rfl,hf5,hb5⟩
   have H5:=Hd hf5
   clear hf5 hf' c0 c1'
   go_wp2_with fail
   go_roundw
   case rel=>exact ⟨Or.inr (Or.inl ⟨rfl,by simpa using H5.out⟩),hbel.trans hb5⟩
   case measure=>simp [intOf]
  ·
   have HBG:=Hd hbag
   clear hbag
   go_wp2_with fail
   obtain ⟨f',hf'⟩:=HBG.out
   refine (putL_bag w.heap.size w.heap.size g2 1 f' _ _ _ _ _ y wr ((hbel.block g2 hlt2).trans HB2.out) hlt2 (HIN2.out.below enSub_kept hbel (nlr _)) hf' hs (by simp) (by simp;omega) (by simp;omega) (by simp) (by simp)).mono ?_
   rintro e w5 ⟨rfl,hf5,hb5⟩
   have H5:=Hd hf5
   clear hf5 hf' c0 c1'
   go_wp2_with fail
   go_roundw
   case rel=>exact ⟨Or.inr (Or.inr ⟨rfl,H5.out⟩),hbel.trans hb5⟩
   case measure=>simp [intOf]
  ·
   have HBG:=Hd hbag
   clear hbag c0 c1'
   go_wp2_with fail
   obtain ⟨f',hf'⟩:=HBG.out
   refine (apart5 hf' (HF.out.below hbel) (by omega) (by omega) HMI.out HMV.out).mono ?_
   rintro e w6 ⟨rfl,hb6⟩
   go_wp2_with fail
   go_ret
   exact ⟨rfl,(hbel.mono (by omega)).trans hb6⟩
end Go.Proofs.YtglgcjkglhlggaaGreatDoor
/- The law LetterGets, walked. Conditions: the bytes lie in memory as they are read. -/
namespace Go.Proofs.YtglgcjkglhlggaaGreatDoor
open Go.RowKit
set_option maxRecDepth 20000
theorem own_far {w w':World}{base e size n g:Nat}{v:Value}{xs:List Value}(h:w.ownsRow base e size v n xs)(hg:w.grownBy w' (some g))(hlt:g<base):w'.ownsRow base e size v n xs :=
 World.ownsRow.kept h hg (by
  cases hb:v.ownBlock with
  | none=>exact Or.inl rfl
  | some b=>exact Or.inr fun he=>by have:=(h.lt b hb).1;cases he;omega)
theorem OwnLt.far {w w':World}{base g:Nat}{x:Lt}(h:OwnLt w base x)(hg:w.grownBy w' (some g))(hlt:g<base):OwnLt w' base x :=
 ⟨⟨own_far h.1.row hg hlt,fun e he=>⟨own_far (h.1.own e he).1 hg hlt,own_far (h.1.own e he).2 hg hlt⟩,h.1.sep⟩,own_far h.2.1 hg hlt,own_far h.2.2 hg hlt⟩
theorem OwnLt.on {w w':World}{base:Nat}{x:Lt}(h:OwnLt w base x)(hb:Below w.heap.size w w'):OwnLt w' base x:=h.below' hb (nlr _)
theorem same_of {x y:Lt}{w:World}{B C:Nat}(hp:x.plain=y.plain)(hx:OwnLt w B x)(hy:OwnLt w C y)(hf:LtFine x) :
  Calls Tryz.prog 22 #[ltVal x,ltVal y] w fun e w'=>e=.returned (.bool true)∧Below w.heap.size w w' :=
 sameL_any x y w w.heap.size hp (own_ltSub hx) (own_ltSub hy) (nlr _) (Nat.le_trans hf.en (by decide)) (Nat.le_trans hf.vn (by decide)) (Nat.le_trans hf.ln (by decide)) (fun e he=>enSmall_of (hf.es e he))
/-- What is got has few entries. -/
theorem got_few {b:List Int}{r:LtP × Int}(h:getL b=r):r.1.es.length≤16:=by
 subst h
 rcases getL_err b with h | h
 · exact (right_nums (getL_one h).1).2.2.2.2.2.2.2.2.1
 · rw [h];simp [zeroL]
theorem few_of {x:Lt}{r:LtP × Int}(hp:x.plain=r.1)(h:r.1.es.length≤16):x.es.length≤40000:=by
 rw [← hp] at h
 have:x.es.length≤16:=by simpa [Lt.plain] using h
 omega
theorem fold_lt (x:Lt):Array.foldl (fun cs (x:Value × Nat)=>cs.setIfInBounds x.snd x.fst) #[Value.int IntKind.u8 0,Value.int IntKind.i64 0,Value.int IntKind.i64 0,Value.int IntKind.i64 0,Value.int IntKind.i64 0,Value.int IntKind.i64 0,Value.bool false,Value.int IntKind.i64 0,Value.int IntKind.i64 0,Value.slice none 0 0,Value.slice none 0 0,Value.slice none 0 0] (ltArr x).zipIdx 0 (ltArr x).size=ltArr x:=by kernel_rfl
theorem fold_lt2 (x:Lt):Array.foldl (fun cs (x:Value × Nat)=>cs.setIfInBounds x.snd x.fst) #[Value.int IntKind.u8 0,Value.int IntKind.i64 0,Value.int IntKind.i64 0,Value.int IntKind.i64 0,Value.int IntKind.i64 0,Value.int IntKind.i64 0,Value.bool false,Value.int IntKind.i64 0,Value.int IntKind.i64 0,Value.slice none 0 0,Value.slice none 0 0,Value.slice none 0 0] (ltArr x).zipIdx 0 12=ltArr x:=fold_lt x
set_option maxHeartbeats 8000000 in
theorem letterGets_any (W:World)(ao:Option Addr)(n cap:Nat)(xs:List Int)(B0:Nat)(hn:xs.length=n)(hx:BytesIn W B0 ao xs)(hB0:B0≤W.heap.size)(hw:BytesWf xs)(hao:ao=none→cap=0)(hcap:n≤cap) :
  Calls Tryz.prog 4 #[.slice ao n cap] W fun e w'=>e=.returned (.bool true)∧Below W.heap.size W w':=by
 have HN:=Hd hn
 have HX:=Hd (hx.mono hB0)
 have HW:=Hd hw
 clear hn hx hw
 go_enter Tryz.func4,Tryz.ntmps4
 by_cases hbig:30000<n
 ·
  have i1:(30000:Int)<n:=by omega
  have i2:decide ((30000:Int)<n)=true:=decide_eq_true i1
  go_wp2_with fail
  refine (awake21_any _).mono ?_
  rintro e w1 ⟨rfl,b1⟩
  go_wp2_with fail
  go_ret
  exact ⟨rfl,b1⟩
 have i1:¬ (30000:Int)<n:=by omega
 have i2:decide ((30000:Int)<n)=false:=decide_eq_false i1
 obtain ⟨r,hr⟩:∃ r,getL xs=r:=⟨_,rfl⟩
 have HR:=Hd hr
 have HFEW:=Hd (got_few hr)
 obtain ⟨l,er⟩:=r
 clear hr
 go_wp2_with fail
 refine (lentB_at ao n cap xs _ _ HN.out HX.out (nlr _) hao (by omega)).mono ?_
 rintro e w1 ⟨g,rfl,hg1,hg2,hL,b1⟩
 have hs1:=b1.size
 have HL:=Hd hL
 clear hL
 go_wp2_with fail
 refine (lget_sep (some ⟨g,0,none⟩) n (n+12) xs w1 (l,er) HR.out HN.out (HL.out.bytes.mono hg2) HW.out (by simp) (by omega) (by omega)).mono ?_
 rintro e w2 ⟨x,rfl,hpx,hfx,hox,hvx,b2⟩
 have hs2:=b2.size
 have HL2:=Hd (HL.out.below b2 hg2)
 have HPX:=Hd hpx
 have HFX:=Hd hfx
 have HOX0:=Hd hox
 have HVX:=Hd hvx
 have hk0:=heap_alloc_new w2 (.cells (ltArr zeroT) 27)
 rw [zeroT_arr] at hk0
 have hal:=(Below.refl w2.heap.size w2).alloc (nlr _) (.cells (ltArr x) 27)
 have hka:=heap_alloc_new w2 (.cells (ltArr x) 27)
 have HAL:=Hd hal
 have HKA:=Hd hka
 clear hpx hfx hox hvx HL hal hka
 go_upto_region 5 with (refine wpList_store_row rfl 27 (.tmp 4) (.tmp 19) rfl w2.heap.size (ltArr x) rfl (by first | rfl | simp) 27 _ hk0 (info_lt2 x) rfl (ltArr_one x) ?_;rw [World.setRow_alloc_new])
 clear hk0
 have hal:=HAL.out
 have hsa:=hal.size
 have hga:=(Array.getElem?_eq_some_iff.1 HKA.out).1
 generalize w2.alloc (.cells (ltArr x) 27)=v2 at hal hsa hga HKA ⊢
 obtain ⟨ga,hgae⟩:∃ ga,w2.heap.size=ga:=⟨_,rfl⟩
 rw [hgae] at HKA hga ⊢
 have HL2':=Hd (HL2.out.below hal (by omega))
 have HOX2:=Hd (HOX0.out.on hal)
 have B2:Below W.heap.size W v2:=(b1.trans (b2.mono hs1)).trans (hal.mono (by omega))
 clear hal HAL HL2
 go_wp2_with fail
 refine (lget_sep (some ⟨g,0,none⟩) n (n+12) xs v2 (l,er) HR.out HN.out (HL2'.out.bytes.mono (by omega)) HW.out (by simp) (by omega) (by omega)).mono ?_
 rintro e w3 ⟨y,rfl,hpy,hfy,hoy,hvy,b3⟩
 have hs3:=b3.size
 have HL3:=Hd (HL2'.out.below b3 (by omega))
 have HOX3:=Hd (HOX2.out.on b3)
 have HKA3:=Hd ((b3.block ga hga).trans HKA.out)
 have HPY:=Hd hpy
 have HFY:=Hd hfy
 have HOY3:=Hd hoy
 have HVY:=Hd hvy
 have B3:Below W.heap.size W w3:=B2.trans (b3.mono B2.size)
 have hk0:=heap_alloc_new w3 (.cells (ltArr zeroT) 27)
 rw [zeroT_arr] at hk0
 have hal:=(Below.refl w3.heap.size w3).alloc (nlr _) (.cells (ltArr y) 27)
 have hkc:=heap_alloc_new w3 (.cells (ltArr y) 27)
 have HAL:=Hd hal
 have HKC:=Hd hkc
 clear hpy hfy hoy hvy HL2' HKA HOX2 hal hkc
 go_upto_region 6 with (refine wpList_store_row rfl 27 (.tmp 6) (.tmp 24) rfl w3.heap.size (ltArr y) rfl (by first | rfl | simp) 27 _ hk0 (info_lt2 y) rfl (ltArr_one y) ?_;rw [World.setRow_alloc_new])
 clear hk0
 have hal:=HAL.out
 have hsc:=hal.size
 have hgc:=(Array.getElem?_eq_some_iff.1 HKC.out).1
 generalize w3.alloc (.cells (ltArr y) 27)=v3 at hal hsc hgc HKC ⊢
 obtain ⟨gc,hgce⟩:∃ gc,w3.heap.size=gc:=⟨_,rfl⟩
 rw [hgce] at HKC hgc ⊢
 have HL3':=Hd (HL3.out.below hal (by omega))
 have HOX3':=Hd (HOX3.out.on hal)
 have HOY3':=Hd (HOY3.out.on hal)
 have HKA3':=Hd ((hal.block ga (by omega)).trans HKA3.out)
 have B3':Below W.heap.size W v3:=B3.trans (hal.mono B3.size)
 clear hal HAL HL3 HOX3 HOY3 HKA3
 go_wp2_with fail
 refine (keptB_at ao n cap (n+12) g _ xs v3 HN.out rfl ((HX.out.below B3' (nlr _)).mono B3'.size) HL3'.out (by omega)).mono ?_
 rintro e w4 ⟨rfl,b4⟩
 have hs4:=b4.size
 have HL4:=Hd (HL3'.out.below b4 (by omega))
 have HOX4:=Hd (HOX3'.out.on b4)
 have HOY4:=Hd (HOY3'.out.on b4)
 have HKA4:=Hd ((b4.block ga (by omega)).trans HKA3'.out)
 have HKC4:=Hd ((b4.block gc (by omega)).trans HKC.out)
 clear HL3' HOX3' HOY3' HKA3' HKC
 go_wp2_with fail
 refine (overB_at W.heap.size g n (n+12) xs w4 HN.out rfl HL4.out (by omega)).mono ?_
 rintro e w5 ⟨rfl,hgr⟩
 have hs5:=hgr.size
 have B5:Below W.heap.size W w5:=(B3'.trans (b4.mono (by omega))).grown hgr (by omega) (fun b hb=>by cases hb;exact hg1)
 have HOX5:=Hd (HOX4.out.far hgr (by omega))
 have HOY5:=Hd (HOY4.out.far hgr (by omega))
 have HKA5:=Hd ((hgr.block ga (by omega) (fun e=>by cases e;omega)).trans HKA4.out)
 have HKC5:=Hd ((hgr.block gc (by omega) (fun e=>by cases e;omega)).trans HKC4.out)
 clear hgr HL4 HOX4 HOY4 HKA4 HKC4
 go_wp2_with fail
 refine (rget21_any ao n cap xs w5 HN.out ((HX.out.below B5 (nlr _)).mono B5.size) HW.out hao hcap (by omega) (l,er) ((refGetL_eq HW.out).trans HR.out)).mono ?_
 rintro e w6 ⟨z,rfl,hpz,hfz,hoz,b6⟩
 have hs6:=b6.size
 have B6:Below W.heap.size W w6:=B5.trans (b6.mono B5.size)
 have HPZ:=Hd hpz
 have HOZ0:=Hd hoz
 have hk0:=heap_alloc_new w6 (.cells (ltArr zeroT) 27)
 rw [zeroT_arr] at hk0
 have hal:=(Below.refl w6.heap.size w6).alloc (nlr _) (.cells (ltArr z) 27)
 have hkd:=heap_alloc_new w6 (.cells (ltArr z) 27)
 have HAL:=Hd hal
 have HKD:=Hd hkd
 have HOX6:=Hd (HOX5.out.on b6)
 have HOY6:=Hd (HOY5.out.on b6)
 have HKA6:=Hd ((b6.block ga (by omega)).trans HKA5.out)
 have HKC6:=Hd ((b6.block gc (by omega)).trans HKC5.out)
 clear hpz hoz HOX5 HOY5 HKA5 HKC5 hal hkd
 go_upto_region 10 with (refine wpList_store_row rfl 27 (.tmp 8) (.tmp 35) rfl w6.heap.size (ltArr z) rfl (by first | rfl | simp) 27 _ hk0 (info_lt2 z) rfl (ltArr_one z) ?_;rw [World.setRow_alloc_new])
 clear hk0
 have hal:=HAL.out
 have hsd:=hal.size
 have hgd:=(Array.getElem?_eq_some_iff.1 HKD.out).1
 generalize w6.alloc (.cells (ltArr z) 27)=v6 at hal hsd hgd HKD ⊢
 obtain ⟨gd,hgde⟩:∃ gd,w6.heap.size=gd:=⟨_,rfl⟩
 rw [hgde] at HKD hgd ⊢
 have HOX6':=Hd (HOX6.out.on hal)
 have HOY6':=Hd (HOY6.out.on hal)
 have HOZ6:=Hd (HOZ0.out.on hal)
 have hra:=rng_block ((hal.block ga (by omega)).trans HKA6.out)
 have hrc:=rng_block ((hal.block gc (by omega)).trans HKC6.out)
 have hrd:=rng_block HKD.out
 have HKA7:=Hd ((hal.block ga (by omega)).trans HKA6.out)
 have HKC7:=Hd ((hal.block gc (by omega)).trans HKC6.out)
 have B6':Below W.heap.size W v6:=B6.trans (hal.mono B6.size)
 clear hal HAL HOX6 HOY6 HKA6 HKC6
 have hzx:=HKA7.out
 go_wp2_with (first | (refine load_want (by rfl) 27 (.tmp 4) rfl ga 0 rfl (ltArr x).toList _ hra Tryz.underlying27 rfl (info_lt3 x) ?_) | (refine load_want (by rfl) 27 (.tmp 8) rfl gd 0 rfl (ltArr z).toList _ hrd Tryz.underlying27 rfl (info_lt3 z) ?_))
 refine (same_of (HPX.out.trans HPZ.out.symm) HOX6'.out HOZ6.out HFX.out).mono ?_
 rintro e w7 ⟨rfl,b7⟩
 have hs7:=b7.size
 have B7:Below W.heap.size W w7:=B6'.trans (b7.mono B6'.size)
 have HOX7:=Hd (HOX6'.out.on b7)
 have HOY7:=Hd (HOY6'.out.on b7)
 have HOZ7:=Hd (HOZ6.out.on b7)
 have KA:=Hd ((b7.block ga (by omega)).trans HKA7.out)
 have KC:=Hd ((b7.block gc (by omega)).trans HKC7.out)
 have hrc7:=rng_block KC.out
 have hrd7:=rng_block ((b7.block gd (by omega)).trans HKD.out)
 clear HOX6' HOY6' HOZ6 hra hrc hrd HKA7 HKC7 hzx
 go_wp2_with (first | (refine load_want (by rfl) 27 (.tmp 6) rfl gc 0 rfl (ltArr y).toList _ hrc7 Tryz.underlying27 rfl (info_lt3 y) ?_) | (refine load_want (by rfl) 27 (.tmp 8) rfl gd 0 rfl (ltArr z).toList _ hrd7 Tryz.underlying27 rfl (info_lt3 z) ?_))
 refine (same_of (HPY.out.trans HPZ.out.symm) HOY7.out HOZ7.out HFY.out).mono ?_
 rintro e w8 ⟨rfl,b8⟩
 have hs8:=b8.size
 have B8:Below W.heap.size W w8:=B7.trans (b8.mono B7.size)
 have HOX8:=Hd (HOX7.out.on b8)
 have HOY8:=Hd (HOY7.out.on b8)
 have KA8:=Hd ((b8.block ga (by omega)).trans KA.out)
 have KC8:=Hd ((b8.block gc (by omega)).trans KC.out)
 have hra8:=rng_block KA8.out
 have hrc8:∀ o,(w8.alloc o).rangeAt gc 0 (ltArr y).toList:=fun o=>rng_block ((((Below.refl w8.heap.size w8).alloc (nlr _) o).block gc (by omega)).trans KC8.out)
 have hzA:(ltArr x).size=12:=rfl
 have hzB:(ltArr y).size=12:=rfl
 clear HOX7 HOY7 HOZ7 hrc7 hrd7 KA KC
 go_wp2_with (first | (refine load_want (by rfl) 27 (.tmp 4) rfl ga 0 rfl (ltArr x).toList _ hra8 Tryz.underlying27 rfl (info_lt3 x) ?_) | (refine load_want (by rfl) 27 (.tmp 6) rfl gc 0 rfl (ltArr y).toList _ (hrc8 _) Tryz.underlying27 rfl (info_lt3 y) ?_))
 (try simp only [fold_lt,fold_lt2])
 have ha1:=(Below.refl w8.heap.size w8).alloc (nlr _) (.cells (ltArr x) 27)
 have hk1:=heap_alloc_new w8 (.cells (ltArr x) 27)
 have hz1:(w8.alloc (.cells (ltArr x) 27)).heap.size=w8.heap.size+1:=by simp
 have HA1:=Hd ha1
 generalize w8.alloc (.cells (ltArr x) 27)=u1 at ha1 hk1 hz1 HA1 ⊢
 have ha2:=(Below.refl u1.heap.size u1).alloc (nlr _) (.cells (ltArr y) 27)
 have hk2:=heap_alloc_new u1 (.cells (ltArr y) 27)
 have hz2:(u1.alloc (.cells (ltArr y) 27)).heap.size=u1.heap.size+1:=by simp
 generalize u1.alloc (.cells (ltArr y) 27)=u2 at ha2 hk2 hz2 ⊢
 rw [hz1] at hk2
 obtain ⟨p1,hp1⟩:∃ p1,w8.heap.size=p1:=⟨_,rfl⟩
 obtain ⟨p2,hp2⟩:∃ p2,p1+1=p2:=⟨_,rfl⟩
 rw [hp1] at hk1 ⊢
 rw [hp1,hp2] at hk2
 rw [hp2]
 have ha3:=(Below.refl u2.heap.size u2).alloc (nlr _) (.cells #[.slice (some ⟨p1,0,none⟩) 1 1,.slice (some ⟨p2,0,none⟩) 1 1] 44)
 have hk3:=heap_alloc_new u2 (.cells #[.slice (some ⟨p1,0,none⟩) 1 1,.slice (some ⟨p2,0,none⟩) 1 1] 44)
 have hz3:(u2.alloc (.cells #[.slice (some ⟨p1,0,none⟩) 1 1,.slice (some ⟨p2,0,none⟩) 1 1] 44)).heap.size=u2.heap.size+1:=by simp
 generalize u2.alloc (.cells #[.slice (some ⟨p1,0,none⟩) 1 1,.slice (some ⟨p2,0,none⟩) 1 1] 44)=u3 at ha3 hk3 hz3 ⊢
 have hp3:u2.heap.size=p2+1:=by omega
 rw [hp3] at hk3
 have hu13:Below w8.heap.size w8 u3:=(ha1.trans (ha2.mono (by omega))).trans (ha3.mono (by omega))
 have hu3k1:u3.heap[p1]?=some (.cells (ltArr x) 27 (0,0)):=(ha3.block p1 (by omega)).trans ((ha2.block p1 (by omega)).trans hk1)
 have hu3k2:u3.heap[p2]?=some (.cells (ltArr y) 27 (0,0)):=(ha3.block p2 (by omega)).trans hk2
 refine (apartLs_any w1.heap.size v2.heap.size (p2+1) 2 p1 p2 1 1 x y w2 u3 (cob hk3 0) (cob hk3 1) (by omega) hu3k1 hu3k2 (by omega) (by omega) (by omega) rfl rfl HOX0.out (HOX8.out.on hu13) (HOY8.out.on hu13) hsa (by omega) (by omega) HVX.out HVY.out HFX.out HFY.out (few_of (r:=(l,er)) HPX.out HFEW.out) (few_of (r:=(l,er)) HPY.out HFEW.out)).mono ?_
 rintro e w9 ⟨rfl,b9⟩
 have B9:Below W.heap.size W w9:=(B8.trans (hu13.mono B8.size)).trans (b9.mono hs1)
 go_wp2_with fail
 refine (awake21_any _).mono ?_
 rintro e w10 ⟨rfl,b10⟩
 go_wp2_with fail
 go_ret
 exact ⟨rfl,B9.trans (b10.mono B9.size)⟩
theorem walk_LetterGets (W:World)(ao:Option Addr)(n cap:Nat)(xs:List Int)(hn:xs.length=n)(hx:BytesIn W W.heap.size ao xs)(hw:BytesWf xs)(hao:ao=none→cap=0)(hcap:n≤cap)(_:cap≤maxLen)(_:n * Tryz.prog.bytesOf 5≤140737488351232) :
  Calls Tryz.prog 4 #[.slice ao n cap] W fun e w'=>e=.returned (.bool true)∧Below W.heap.size W w':=letterGets_any W ao n cap xs _ hn hx (nlr _) hw hao hcap
end Go.Proofs.YtglgcjkglhlggaaGreatDoor
