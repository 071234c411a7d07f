/- The document's answer for letters: Put. Conditions: the letter lies as its reading says, and is not too great. -/
import Derived.Test.YtglgcjkglhlggaaGreatDoorGLetterGets0
import Derived.Test.YtglgcjkglhlggaaGreatDoorGLetterGets17
import Derived.Test.YtglgcjkglhlggaaGreatDoorGLetterGets8
import Derived.Test.YtglgcjkglhlggaaGreatDoorGLetterGets12
import Derived.Test.YtglgcjkglhlggaaGreatDoorGLetterGets9
import Derived.Deep.DeepCutAuto
import Derived.Test.YtglgcjkglhlggaaGreatDoorGLetterGets4
set_option linter.unusedVariables false
set_option linter.unusedSimpArgs false
namespace Go.Proofs.YtglgcjkglhlggaaGreatDoor
open Go.RowKit
set_option maxRecDepth 20000
/-- Bytes of a call's own, so far. -/
def OutAt (base:Nat) (w1:World) (L:List Int) (N:Nat) (v:Value) (w:World):Prop:=∃ a n c,v=.slice a n c∧n≤N∧BOwn w base a n c L∧Below base w1 w
set_option maxHeartbeats 16000000 in
theorem rput21_at (kd fr tt tm ix ws:Int)(ob:Bool)(cm rn:Int)(ea:Option Addr)(n ec:Nat)(va:Option Addr)(m vc:Nat)(ia:Option Addr)(q ic:Nat)(es:List En)(vs im:List Int)(w:World)
    (hn:es.length=n) (hm:vs.length=m) (hq:im.length=q) (hx:EnsIn w w.heap.size ea es) (hx2:NumsIn w w.heap.size va vs) (hx3:BytesIn w w.heap.size ia im) (hf:LtFine ⟨kd,fr,tt,tm,ix,ws,ob,cm,rn,ea,es,ec,va,vs,vc,ia,im,ic⟩) (l1:n≤4000000) (l2:m≤4000000) (l3:q≤4000000) (bs:List Int) (er:Int) (hp:putL2 ⟨kd,fr,tt,tm,ix,ws,ob,cm,rn,es.map En.plain,vs,im⟩=(bs,er)) :
    Calls Tryz.prog 14 #[.agg #[.int .u8 kd,.int .i64 fr,.int .i64 tt,.int .i64 tm,.int .i64 ix,.int .i64 ws,.bool ob,.int .i64 cm,.int .i64 rn,.slice ea n ec,.slice va m vc,.slice ia q ic]] w (PutAt bs er w):=by
  have hb1:=(Below.refl w.heap.size w).alloc (nlr _) (.cells #[.int .u8 kd,.int .i64 fr,.int .i64 tt,.int .i64 tm,.int .i64 ix,.int .i64 ws,.bool ob,.int .i64 cm,.int .i64 rn,.slice ea n ec,.slice va m vc,.slice ia q ic] 27)
  have h1:=heap_alloc_new w (.cells #[.int .u8 kd,.int .i64 fr,.int .i64 tt,.int .i64 tm,.int .i64 ix,.int .i64 ws,.bool ob,.int .i64 cm,.int .i64 rn,.slice ea n ec,.slice va m vc,.slice ia q ic] 27)
  have hz1:w.heap.size+1≤(w.alloc (.cells #[.int .u8 kd,.int .i64 fr,.int .i64 tt,.int .i64 tm,.int .i64 ix,.int .i64 ws,.bool ob,.int .i64 cm,.int .i64 rn,.slice ea n ec,.slice va m vc,.slice ia q ic] 27)).heap.size:=by simp
  have HB1:=Hd hb1
  have H1:=Hd h1
  have HZ:=Hd hz1
  have HN:=Hd hn
  have HM:=Hd hm
  have HQ:=Hd hq
  have HX:=Hd hx
  have HX2:=Hd hx2
  have HX3:=Hd hx3
  have HF:=Hd hf
  have HP:=Hd hp
  have hkd:=hf.kind
  have hwfB:=fun h=>hf.bytes h
  have HWB:=Hd hwfB
  clear hb1 h1 hz1 hn hm hq hx hx2 hx3 hf hp hwfB
  go_enter Tryz.func14,Tryz.ntmps14
  go_upto_region 1 with fail
  have hb1:=HB1.out
  have h1:=H1.out
  have hz1:=HZ.out
  clear HB1 H1 HZ
  generalize w.alloc (.cells #[.int .u8 kd,.int .i64 fr,.int .i64 tt,.int .i64 tm,.int .i64 ix,.int .i64 ws,.bool ob,.int .i64 cm,.int .i64 rn,.slice ea n ec,.slice va m vc,.slice ia q ic] 27)=w1 at hb1 h1 hz1 ⊢
  have HCL:=Hd (show ∀ w',Below (w.heap.size+1) w1 w'→w'.cell? ⟨w.heap.size,0,none⟩=some (.int .u8 kd)∧w'.cell? ⟨w.heap.size,1,none⟩=some (.int .i64 fr)∧w'.cell? ⟨w.heap.size,2,none⟩=some (.int .i64 tt)∧w'.cell? ⟨w.heap.size,3,none⟩=some (.int .i64 tm)∧w'.cell? ⟨w.heap.size,4,none⟩=some (.int .i64 ix)∧w'.cell? ⟨w.heap.size,5,none⟩=some (.int .i64 ws)∧w'.cell? ⟨w.heap.size,6,none⟩=some (.bool ob)∧w'.cell? ⟨w.heap.size,7,none⟩=some (.int .i64 cm)∧w'.cell? ⟨w.heap.size,8,none⟩=some (.int .i64 rn)∧w'.cell? ⟨w.heap.size,9,none⟩=some (.slice ea n ec)∧w'.cell? ⟨w.heap.size,10,none⟩=some (.slice va m vc)∧w'.cell? ⟨w.heap.size,11,none⟩=some (.slice ia q ic) from fun w' h=>have hk:=(h.block w.heap.size (Nat.lt_succ_self _)).trans h1;⟨cob hk 0,cob hk 1,cob hk 2,cob hk 3,cob hk 4,cob hk 5,cob hk 6,cob hk 7,cob hk 8,cob hk 9,cob hk 10,cob hk 11⟩)
  have HSZ:=Hd (show ∀ w',Below (w.heap.size+1) w1 w'→w.heap.size+1≤w'.heap.size from fun w' h=>Nat.le_trans hz1 h.size)
  have HWD:=Hd (show ∀ w',Below (w.heap.size+1) w1 w'→Below w.heap.size w w' from fun w' h=>hb1.trans (h.mono (Nat.le_succ _)))
  have hrl:=rng_block h1
  have HB1:=Hd hb1
  obtain ⟨gr,hgr⟩:∃ gg,rightL ⟨kd,fr,tt,tm,ix,ws,ob,cm,rn,es.map En.plain,vs,im⟩=gg:=⟨_,rfl⟩
  have HGR:=Hd hgr
  clear hb1 h1 hgr
  go_wp2_with (refine wpList_load_mid rfl 27 (.tmp 1) rfl w.heap.size 0 rfl _ _ hrl Tryz.underlying27 rfl info_lt ?_)
  refine (rright21_at kd fr tt tm ix ws ob cm rn ea n ec va m vc ia q ic es vs im w1 HN.out HM.out HQ.out ((HX.out.below enSub_kept HB1.out (nlr _)).mono enSub_rising HB1.out.size) ((HX2.out.below noSub_kept HB1.out (nlr _)).mono noSub_rising HB1.out.size) ((HX3.out.below HB1.out (nlr _)).mono HB1.out.size) HF.out.es l1 l2 l3 hkd gr HGR.out).mono ?_
  rintro e w2 ⟨rfl,b2⟩
  have hb2:Below (w.heap.size+1) w1 w2:=b2.mono hz1
  clear hrl b2
  cases gr with
  | false =>
    have hpp:=HP.out
    unfold putL2 at hpp
    rw [if_pos HGR.out] at hpp
    simp only [Prod.mk.injEq] at hpp
    obtain ⟨rfl,rfl⟩:=hpp
    go_wp2_with fail
    go_ret2
    exact ⟨none,0,rfl,Or.inl rfl,fun _=>rfl,nlr _,(fun ad h=>by cases h),HWD.out _ hb2⟩
  | true =>
  have hrn:=right_nums HGR.out
  have hfr:IntKind.u8.wrap fr=fr:=by have:=hrn.1;exact IntWalk.u8_in _ (by dsimp only at this;omega)
  have htt:IntKind.u8.wrap tt=tt:=by have:=hrn.2.1;exact IntWalk.u8_in _ (by dsimp only at this;omega)
  have HRN:=Hd hrn
  clear hrn
  go_upto_region 3 with fail
  go_cut [4] (fun v wq=>OutAt (w.heap.size+1) w1 ([kd,fr,tt] ++ [tm,ix,ws].flatMap (numB 8)) 27 v wq)
  case first =>
   refine heldS_begin (fun w'=>Below (w.heap.size+1) w1 w') (by kernel_rfl) (hb2.drew) ?_
   intro hS0
   (first | (refine tkn 0 rfl ?_) | (refine tky (v:=?_) 0 rfl ?_ ?_;rotate_left;focus (intro wS hSw;obtain ⟨d0,d1,d2,d3,d4,d5,d6,d7,d8,d9,d10,d11⟩:=HCL.out wS hSw;go_simp;first | done | with_reducible rfl)))
   (try simp only [Act.put,ssa,ssb,ssc])
   (first | (refine tkn 1 rfl ?_) | (refine tky (v:=?_) 1 rfl ?_ ?_;rotate_left;focus (intro wS hSw;obtain ⟨d0,d1,d2,d3,d4,d5,d6,d7,d8,d9,d10,d11⟩:=HCL.out wS hSw;go_simp;first | done | with_reducible rfl)))
   (try simp only [Act.put,ssa,ssb,ssc])
   (first | (refine tkn 2 rfl ?_) | (refine tky (v:=?_) 2 rfl ?_ ?_;rotate_left;focus (intro wS hSw;obtain ⟨d0,d1,d2,d3,d4,d5,d6,d7,d8,d9,d10,d11⟩:=HCL.out wS hSw;go_simp;first | done | with_reducible rfl)))
   (try simp only [Act.put,ssa,ssb,ssc])
   (first | (refine tkn 3 rfl ?_) | (refine tky (v:=?_) 3 rfl ?_ ?_;rotate_left;focus (intro wS hSw;obtain ⟨d0,d1,d2,d3,d4,d5,d6,d7,d8,d9,d10,d11⟩:=HCL.out wS hSw;go_simp;first | done | with_reducible rfl)))
   (try simp only [Act.put,ssa,ssb,ssc])
   (first | (refine tkn 4 rfl ?_) | (refine tky (v:=?_) 4 rfl ?_ ?_;rotate_left;focus (intro wS hSw;obtain ⟨d0,d1,d2,d3,d4,d5,d6,d7,d8,d9,d10,d11⟩:=HCL.out wS hSw;go_simp;first | done | with_reducible rfl)))
   (try simp only [Act.put,ssa,ssb,ssc])
   (first | (refine tkn 5 rfl ?_) | (refine tky (v:=?_) 5 rfl ?_ ?_;rotate_left;focus (intro wS hSw;obtain ⟨d0,d1,d2,d3,d4,d5,d6,d7,d8,d9,d10,d11⟩:=HCL.out wS hSw;go_simp;first | done | with_reducible rfl)))
   (try simp only [Act.put,ssa,ssb,ssc])
   (first | (refine tkn 6 rfl ?_) | (refine tky (v:=?_) 6 rfl ?_ ?_;rotate_left;focus (intro wS hSw;obtain ⟨d0,d1,d2,d3,d4,d5,d6,d7,d8,d9,d10,d11⟩:=HCL.out wS hSw;go_simp;first | done | with_reducible rfl)))
   (try simp only [Act.put,ssa,ssb,ssc])
   (first | (refine tkn 7 rfl ?_) | (refine tky (v:=?_) 7 rfl ?_ ?_;rotate_left;focus (intro wS hSw;obtain ⟨d0,d1,d2,d3,d4,d5,d6,d7,d8,d9,d10,d11⟩:=HCL.out wS hSw;go_simp;first | done | with_reducible rfl)))
   (try simp only [Act.put,ssa,ssb,ssc])
   (first | (refine tkn 9 rfl ?_) | (refine tky (v:=?_) 9 rfl ?_ ?_;rotate_left;focus (intro wS hSw;obtain ⟨d0,d1,d2,d3,d4,d5,d6,d7,d8,d9,d10,d11⟩:=HCL.out wS hSw;go_simp;first | done | with_reducible rfl)))
   (try simp only [Act.put,ssa,ssb,ssc])
   (first | (refine tkn 10 rfl ?_) | (refine tky (v:=?_) 10 rfl ?_ ?_;rotate_left;focus (intro wS hSw;obtain ⟨d0,d1,d2,d3,d4,d5,d6,d7,d8,d9,d10,d11⟩:=HCL.out wS hSw;go_simp;first | done | with_reducible rfl)))
   (try simp only [Act.put,ssa,ssb,ssc])
   (first | (refine tkn 11 rfl ?_) | (refine tky (v:=?_) 11 rfl ?_ ?_;rotate_left;focus (intro wS hSw;obtain ⟨d0,d1,d2,d3,d4,d5,d6,d7,d8,d9,d10,d11⟩:=HCL.out wS hSw;go_simp;first | done | with_reducible rfl)))
   (try simp only [Act.put,ssa,ssb,ssc])
   (first | (refine tkn 12 rfl ?_) | (refine tky (v:=?_) 12 rfl ?_ ?_;rotate_left;focus (intro wS hSw;obtain ⟨d0,d1,d2,d3,d4,d5,d6,d7,d8,d9,d10,d11⟩:=HCL.out wS hSw;go_simp;first | done | with_reducible rfl)))
   (try simp only [Act.put,ssa,ssb,ssc])
   (first | (refine tkn 13 rfl ?_) | (refine tky (v:=?_) 13 rfl ?_ ?_;rotate_left;focus (intro wS hSw;obtain ⟨d0,d1,d2,d3,d4,d5,d6,d7,d8,d9,d10,d11⟩:=HCL.out wS hSw;go_simp;first | done | with_reducible rfl)))
   (try simp only [Act.put,ssa,ssb,ssc])
   (first | (refine tkn 14 rfl ?_) | (refine tky (v:=?_) 14 rfl ?_ ?_;rotate_left;focus (intro wS hSw;obtain ⟨d0,d1,d2,d3,d4,d5,d6,d7,d8,d9,d10,d11⟩:=HCL.out wS hSw;go_simp;first | done | with_reducible rfl)))
   (try simp only [Act.put,ssa,ssb,ssc])
   clear hb2
   generalize w2.drew=x0 at hS0 ⊢
   refine takeS_two 8 15 rfl rfl (by kernel_rfl) (by rfl) (by rfl) (fun K hK=>?_) (fun K hK=>?_)
   rotate_left
   focus
     go_simp
     have hz:=HSZ.out _ hS0
     have hA:=(Below.refl x0.heap.size x0).alloc (nlr _) (.cells #[.int .i64 tm,.int .i64 ix,.int .i64 ws] 3)
     have b1:=Below.alloc hS0 hz (.cells #[.int .i64 tm,.int .i64 ix,.int .i64 ws] 3)
     obtain ⟨ib,hib⟩:∃ ib,x0.heap.size=ib:=⟨_,rfl⟩
     have HI:Hid (NumsIn (x0.alloc (.cells #[.int .i64 tm,.int .i64 ix,.int .i64 ws] 3)) (x0.alloc (.cells #[.int .i64 tm,.int .i64 ix,.int .i64 ws] 3)).heap.size (some ⟨x0.heap.size,0,none⟩) [tm,ix,ws]):=Hd ((nums_new x0 [tm,ix,ws] _ rfl).mono noSub_rising (by simp))
     skip
     clear hA
     rw [hib] at HI ⊢
     generalize hx2:World.alloc x0 (.cells #[.int .i64 tm,.int .i64 ix,.int .i64 ws] 3)=x1 at b1 HI ⊢
     clear hx2 hz hib
     refine hK.out _ _ (by assumption) ?_
     clear hK K
     (try simp only [Act.put,ssa,ssb,ssc])
     refine takeS_two 8 16 rfl rfl (by kernel_rfl) (by rfl) (by rfl) (fun K hK=>?_) (fun K hK=>?_)
     rotate_left
     focus
       go_simp
       refine (r21numbers_any _ 3 3 [tm,ix,ws] _ x1 x1.heap.size rfl rfl HI.out (nlr _) (by decide)).mono ?_
       rintro e x2 ⟨aB,nB,qB,rfl,ho,hb⟩
       obtain rfl:nB=24:=(by rw [← ho.len];simp [numB_len])
       have HB:=Hd (ho.le (HSZ.out _ b1))
       skip
       have b2:=b1.trans (hb.mono (HSZ.out _ b1))
       clear ho hb HI
       refine hK.out _ _ (by assumption) ?_
       clear hK K
       (try simp only [Act.put,ssa,ssb,ssc])
       refine takeS_alone 8 rfl (by kernel_rfl) (by rfl) (fun K hK=>?_)
       go_simp
       have hlit:=BOwn.lit x2 [kd,fr,tt] (by simp)
       have hz:=HSZ.out _ b2
       have hA:=(Below.refl x2.heap.size x2).alloc (nlr _) (.cells #[.int .u8 kd,.int .u8 fr,.int .u8 tt] 5)
       have b3:=Below.alloc b2 hz (.cells #[.int .u8 kd,.int .u8 fr,.int .u8 tt] 5)
       have HA:Hid (BOwn (x2.alloc (.cells #[.int .u8 kd,.int .u8 fr,.int .u8 tt] 5)) (w.heap.size+1) (some ⟨x2.heap.size,0,none⟩) 3 3 [kd,fr,tt]):=Hd (BOwn.le hlit hz)
       have HB:=Hd (HB.out.below hA (nlr _))
       clear hlit hA
       generalize hx2:World.alloc x2 (.cells #[.int .u8 kd,.int .u8 fr,.int .u8 tt] 5)=x3 at b3 HA HB ⊢
       clear hx2 hz
       refine hK.out _ _ (by assumption) ?_
       clear hK K
       (try simp only [Act.put,ssa,ssb,ssc])
     rotate_left
     focus
       go_simp
       have hlit:=BOwn.lit x1 [kd,fr,tt] (by simp)
       have hz:=HSZ.out _ b1
       have hA:=(Below.refl x1.heap.size x1).alloc (nlr _) (.cells #[.int .u8 kd,.int .u8 fr,.int .u8 tt] 5)
       have b2:=Below.alloc b1 hz (.cells #[.int .u8 kd,.int .u8 fr,.int .u8 tt] 5)
       have HA:Hid (BOwn (x1.alloc (.cells #[.int .u8 kd,.int .u8 fr,.int .u8 tt] 5)) (w.heap.size+1) (some ⟨x1.heap.size,0,none⟩) 3 3 [kd,fr,tt]):=Hd (BOwn.le hlit hz)
       have HI:=Hd (RowsIn.mono noSub_rising (RowsIn.below noSub_kept HI.out hA (nlr _)) hA.size)
       clear hlit hA
       generalize hx2:World.alloc x1 (.cells #[.int .u8 kd,.int .u8 fr,.int .u8 tt] 5)=x2 at b2 HA HI ⊢
       clear hx2 hz
       refine hK.out _ _ (by assumption) ?_
       clear hK K
       (try simp only [Act.put,ssa,ssb,ssc])
       refine takeS_alone 16 rfl (by kernel_rfl) (by rfl) (fun K hK=>?_)
       go_simp
       refine (r21numbers_any _ 3 3 [tm,ix,ws] _ x2 x2.heap.size rfl rfl HI.out (nlr _) (by decide)).mono ?_
       rintro e x3 ⟨aB,nB,qB,rfl,ho,hb⟩
       obtain rfl:nB=24:=(by rw [← ho.len];simp [numB_len])
       have HB:=Hd (ho.le (HSZ.out _ b2))
       have HA:=Hd (HA.out.below hb (nlr _))
       have b3:=b2.trans (hb.mono (HSZ.out _ b2))
       clear ho hb HI
       refine hK.out _ _ (by assumption) ?_
       clear hK K
       (try simp only [Act.put,ssa,ssb,ssc])
   rotate_left
   rotate_left
   focus
     go_simp
     have hlit:=BOwn.lit x0 [kd,fr,tt] (by simp)
     have hz:=HSZ.out _ hS0
     have hA:=(Below.refl x0.heap.size x0).alloc (nlr _) (.cells #[.int .u8 kd,.int .u8 fr,.int .u8 tt] 5)
     have b1:=Below.alloc hS0 hz (.cells #[.int .u8 kd,.int .u8 fr,.int .u8 tt] 5)
     have HA:Hid (BOwn (x0.alloc (.cells #[.int .u8 kd,.int .u8 fr,.int .u8 tt] 5)) (w.heap.size+1) (some ⟨x0.heap.size,0,none⟩) 3 3 [kd,fr,tt]):=Hd (BOwn.le hlit hz)
     skip
     clear hlit hA
     generalize hx2:World.alloc x0 (.cells #[.int .u8 kd,.int .u8 fr,.int .u8 tt] 5)=x1 at b1 HA ⊢
     clear hx2 hz
     refine hK.out _ _ (by assumption) ?_
     clear hK K
     (try simp only [Act.put,ssa,ssb,ssc])
     refine takeS_alone 15 rfl (by kernel_rfl) (by rfl) (fun K hK=>?_)
     go_simp
     have hz:=HSZ.out _ b1
     have hA:=(Below.refl x1.heap.size x1).alloc (nlr _) (.cells #[.int .i64 tm,.int .i64 ix,.int .i64 ws] 3)
     have b2:=Below.alloc b1 hz (.cells #[.int .i64 tm,.int .i64 ix,.int .i64 ws] 3)
     obtain ⟨ib,hib⟩:∃ ib,x1.heap.size=ib:=⟨_,rfl⟩
     have HI:Hid (NumsIn (x1.alloc (.cells #[.int .i64 tm,.int .i64 ix,.int .i64 ws] 3)) (x1.alloc (.cells #[.int .i64 tm,.int .i64 ix,.int .i64 ws] 3)).heap.size (some ⟨x1.heap.size,0,none⟩) [tm,ix,ws]):=Hd ((nums_new x1 [tm,ix,ws] _ rfl).mono noSub_rising (by simp))
     have HA:=Hd (HA.out.below hA (nlr _))
     clear hA
     rw [hib] at HI ⊢
     generalize hx2:World.alloc x1 (.cells #[.int .i64 tm,.int .i64 ix,.int .i64 ws] 3)=x2 at b2 HI HA ⊢
     clear hx2 hz hib
     refine hK.out _ _ (by assumption) ?_
     clear hK K
     (try simp only [Act.put,ssa,ssb,ssc])
     refine takeS_alone 16 rfl (by kernel_rfl) (by rfl) (fun K hK=>?_)
     go_simp
     refine (r21numbers_any _ 3 3 [tm,ix,ws] _ x2 x2.heap.size rfl rfl HI.out (nlr _) (by decide)).mono ?_
     rintro e x3 ⟨aB,nB,qB,rfl,ho,hb⟩
     obtain rfl:nB=24:=(by rw [← ho.len];simp [numB_len])
     have HB:=Hd (ho.le (HSZ.out _ b2))
     have HA:=Hd (HA.out.below hb (nlr _))
     have b3:=b2.trans (hb.mono (HSZ.out _ b2))
     clear ho hb HI
     refine hK.out _ _ (by assumption) ?_
     clear hK K
     (try simp only [Act.put,ssa,ssb,ssc])
   all_goals
     refine takeS_alone 17 rfl (by kernel_rfl) (by rfl) (fun K hK=>?_)
     skip
     (refine oper_append_bo (.tmp 18) (.tmp 26) rfl (w.heap.size+1) rfl HA.out rfl HB.out.len _ HB.out.in HB.out.nil (by omega) (HSZ.out _ b3) ?_;intro aD nD qD x4 ho hg hn;have LD:=Hd hn;clear hn;have b4:=b3.grown hg (HSZ.out _ b3) (fun k hk=>(HA.out.lt k hk).1);have HD:=Hd ho;clear ho hg)
     refine hK.out _ _ (by assumption) ?_
     clear hK K
     (try simp only [Act.put,ssa,ssb,ssc])
     (first | (refine tkn 18 rfl ?_) | (refine tky (v:=?_) 18 rfl ?_ ?_;rotate_left;focus (intro wS hSw;obtain ⟨d0,d1,d2,d3,d4,d5,d6,d7,d8,d9,d10,d11⟩:=HCL.out wS hSw;go_simp;first | done | with_reducible rfl)))
     (try simp only [Act.put,ssa,ssb,ssc])
     refine wpAnyH_done (by kernel_rfl) ?_ _
   all_goals
     have hnD:nD=27:=by have:=LD.out;omega
     go_wp2_with fail
     go_meet
     exact ⟨aD,nD,qD,rfl,by omega,HD.out,b4⟩
  case rest =>
  clear hb2 hfr htt
  obtain ⟨a0,n0,c0,rfl,hn0,hD,hB⟩:=hcut
  have HD:=Hd hD
  have HB:=Hd hB
  have hz0:=HSZ.out _ hB
  obtain ⟨d0,d1,d2,d3,d4,d5,d6,d7,d8,d9,d10,d11⟩:=HCL.out _ hB
  clear hD hB
  obtain ⟨obv,hobv⟩:∃ v:Int,(if ob=true then 1 else 0)=v:=⟨_,rfl⟩
  have HOB:=Hd hobv
  clear hobv
  go_upto_if 29 with fail
  go_cut [4] (fun v wq=>OutAt (w.heap.size+1) w1 (([kd,fr,tt] ++ [tm,ix,ws].flatMap (numB 8)) ++ [obv]) 28 v wq)
  case first =>
    cases ob with
    | true =>
      obtain rfl:1=obv:=HOB.out
      have hlit:=BOwn.lit wc [1] (by simp)
      have hA:=(Below.refl wc.heap.size wc).alloc (nlr _) (.cells #[.int .u8 1] 5)
      have HA:=Hd (show BOwn (wc.alloc (.cells #[.int .u8 1] 5)) (w.heap.size+1) (some ⟨wc.heap.size,0,none⟩) 1 1 [1] from BOwn.le hlit hz0)
      have HD2:=Hd (HD.out.below hA (nlr _))
      have HB2:=Hd (HB.out.trans (hA.mono hz0))
      have hzb:=HSZ.out _ HB2.out
      clear hlit hA
      clear d0 d1 d2 d3 d4 d5 d6 d7 d8 d9 d10 d11
      go_wp2_with (at_builtin;refine wpList_append_bo rfl (.tmp 30) (.tmp 31) rfl (w.heap.size+1) rfl HD2.out rfl HA.out.len _ HA.out.in HA.out.nil (by omega) hzb ?_)
      intro a2 n2 c2 wd hown hg hn2
      go_wp2_with fail
      go_meet
      exact ⟨a2,n2,c2,rfl,by omega,hown,HB2.out.grown hg hzb (fun k hk=>(HD2.out.lt k hk).1)⟩
    | false =>
      obtain rfl:0=obv:=HOB.out
      have hlit:=BOwn.lit wc [0] (by simp)
      have hA:=(Below.refl wc.heap.size wc).alloc (nlr _) (.cells #[.int .u8 0] 5)
      have HA:=Hd (show BOwn (wc.alloc (.cells #[.int .u8 0] 5)) (w.heap.size+1) (some ⟨wc.heap.size,0,none⟩) 1 1 [0] from BOwn.le hlit hz0)
      have HD2:=Hd (HD.out.below hA (nlr _))
      have HB2:=Hd (HB.out.trans (hA.mono hz0))
      have hzb:=HSZ.out _ HB2.out
      clear hlit hA
      clear d0 d1 d2 d3 d4 d5 d6 d7 d8 d9 d10 d11
      go_wp2_with (at_builtin;refine wpList_append_bo rfl (.tmp 33) (.tmp 34) rfl (w.heap.size+1) rfl HD2.out rfl HA.out.len _ HA.out.in HA.out.nil (by omega) hzb ?_)
      intro a2 n2 c2 wd hown hg hn2
      go_wp2_with fail
      go_meet
      exact ⟨a2,n2,c2,rfl,by omega,hown,HB2.out.grown hg hzb (fun k hk=>(HD2.out.lt k hk).1)⟩
  case rest =>
  clear hz0 HD HB hn0
  clear d0 d1 d2 d3 d4 d5 d6 d7 d8 d9 d10 d11
  obtain ⟨a0,n0,c0,rfl,hn0,hD,hB⟩:=hcut
  have HD:=Hd hD
  have HB:=Hd hB
  have hz0:=HSZ.out _ hB
  obtain ⟨d0,d1,d2,d3,d4,d5,d6,d7,d8,d9,d10,d11⟩:=HCL.out _ hB
  clear hD hB
  have hA:=(Below.refl wc.heap.size wc).alloc (nlr _) (.cells #[.int .i64 cm,.int .i64 rn] 3)
  have HI:Hid (NumsIn (wc.alloc (.cells #[.int .i64 cm,.int .i64 rn] 3)) (wc.alloc (.cells #[.int .i64 cm,.int .i64 rn] 3)).heap.size (some ⟨wc.heap.size,0,none⟩) [cm,rn]):=Hd ((nums_new wc [cm,rn] _ rfl).mono noSub_rising (by simp))
  have HD:=Hd (HD.out.below hA (nlr _))
  have HB:=Hd (HB.out.trans (hA.mono hz0))
  have hz1:=HSZ.out _ HB.out
  clear hA hz0
  go_wp2_with fail
  generalize wc.alloc (.cells #[.int .i64 cm,.int .i64 rn] 3)=we at HI HD HB hz1 ⊢
  refine (r21numbers_any _ 2 2 [cm,rn] _ we we.heap.size rfl rfl HI.out (nlr _) (by decide)).mono ?_
  rintro e wb ⟨a1,n1,c1,rfl,hbo,hb⟩
  have hl1:=hbo.len
  rw [show ([cm,rn].flatMap (numB 8)).length=16 by simp [numB_len]] at hl1
  subst hl1
  have HO1:=Hd (hbo.le hz1)
  have HD:=Hd (HD.out.below hb (nlr _))
  have HB:=Hd (HB.out.trans (hb.mono hz1))
  have hzb:=HSZ.out _ HB.out
  clear hbo hb HI hz1
  clear d0 d1 d2 d3 d4 d5 d6 d7 d8 d9 d10 d11
  go_wp2_with (at_builtin;refine wpList_append_bo rfl (.tmp 36) (.tmp 42) rfl (w.heap.size+1) rfl HD.out rfl HO1.out.len _ HO1.out.in HO1.out.nil (by omega) hzb ?_)
  intro a2 n2 c2 wd hown hg hn2
  have hst:OutAt (w.heap.size+1) w1 ((([kd,fr,tt] ++ [tm,ix,ws].flatMap (numB 8)) ++ [obv]) ++ [cm,rn].flatMap (numB 8)) 44 (.slice a2 n2 c2) wd:=⟨a2,n2,c2,rfl,by omega,hown,HB.out.grown hg hzb (fun k hk=>(HD.out.lt k hk).1)⟩
  clear hown hg HD HB HO1 hzb hn2 hn0
  have hn16:n≤16:=by have:=HRN.out.2.2.2.2.2.2.2.2.1;simpa [HN.out] using this
  have hm7:m≤7:=by have:=HRN.out.2.2.2.2.2.2.2.2.2.2;simpa [HM.out] using this
  obtain ⟨a0,n0,c0,hsl,hn0,hD,hB⟩:=hst
  cases hsl
  have HD:=Hd hD
  have HB:=Hd hB
  have hz0:=HSZ.out _ hB
  obtain ⟨d0,d1,d2,d3,d4,d5,d6,d7,d8,d9,d10,d11⟩:=HCL.out _ hB
  clear hD hB
  go_wp2_with fail
  refine (r21count_any n _ _ rfl (by omega)).mono ?_
  rintro e wb ⟨a1,n1,c1,rfl,hbo,hb⟩
  have hl1:=hbo.len
  rw [numB_len] at hl1
  subst hl1
  have HO1:=Hd (hbo.le hz0)
  have HD:=Hd (HD.out.below hb (nlr _))
  have HB:=Hd (HB.out.trans (hb.mono hz0))
  have hzb:=HSZ.out _ HB.out
  clear hbo hb hz0
  clear d0 d1 d2 d3 d4 d5 d6 d7 d8 d9 d10 d11
  go_wp2_with (at_builtin;refine wpList_append_bo rfl (.tmp 44) (.tmp 48) rfl (w.heap.size+1) rfl HD.out rfl HO1.out.len _ HO1.out.in HO1.out.nil (by omega) hzb ?_)
  intro a2 n2 c2 wd hown hg hn2
  have hst:OutAt (w.heap.size+1) w1 (((([kd,fr,tt] ++ [tm,ix,ws].flatMap (numB 8)) ++ [obv]) ++ [cm,rn].flatMap (numB 8)) ++ numB 4 (n:Int)) 48 (.slice a2 n2 c2) wd:=⟨a2,n2,c2,rfl,by omega,hown,HB.out.grown hg hzb (fun k hk=>(HD.out.lt k hk).1)⟩
  clear hown hg HD HB HO1 hzb hn2 hn0
  have HST:=Hd hst
  clear hst
  go_wp2_with fail
  go_loopw [4,5] (fun v i wr=>∃ k:Nat,k≤n∧i=.int .i64 k∧OutAt (w.heap.size+1) w1 ((((([kd,fr,tt] ++ [tm,ix,ws].flatMap (numB 8)) ++ [obv]) ++ [cm,rn].flatMap (numB 8)) ++ numB 4 (n:Int)) ++ (es.take k).flatMap (fun e=>entryB e.plain)) (48+k * 500000000) v wr) (fun _ i _=>n - (intOf i).toNat)
  case atStart=>exact ⟨0,by omega,rfl,by rw [List.take_zero,List.flatMap_nil,List.append_nil];exact HST.out⟩
  case round =>
    clear HST
    obtain ⟨k,hk,rfl,hst⟩:=hrel
    by_cases hlt:k<n
    · have i1:(k:Int)<n:=by omega
      obtain ⟨a0,n0,c0,hsl,hn0,hD,hB⟩:=hst
      subst hsl
      have HD:=Hd hD
      have HB:=Hd hB
      have hz0:=HSZ.out _ hB
      have d9:=(HCL.out _ hB).2.2.2.2.2.2.2.2.2.1
      have hkx:es[k]?=some (es[k]'(by rw [HN.out];exact hlt)):=List.getElem?_eq_getElem _
      have htk:es.take (k+1)=es.take k ++ [es[k]'(by rw [HN.out];exact hlt)]:=List.take_succ_eq_append_getElem _
      have hfx:=HF.out.es _ (List.getElem_mem (l:=es) (n:=k) (by rw [HN.out];exact hlt))
      have hBW:=HWD.out _ hB
      obtain ⟨b,off,hao,hb,hc,hsub⟩:=(HX.out.below enSub_kept hBW (nlr _)).at hkx
      generalize es[k]'(by rw [HN.out];exact hlt)=x at hc hkx hfx hsub htk
      have hsub2:=enSub_rising _ _ _ _ hsub hBW.size
      obtain ⟨x0,x1,x2,x3,ck,text,ao,xs,ac,num,vo,us,vc2⟩:=x
      obtain ⟨L,hL⟩:∃ L,entryB ⟨x0,x1,x2,x3,ck,text,xs,num,us⟩=L:=⟨_,rfl⟩
      have hLl:L.length≤500000000:=by
        rw [← hL,entryB_len]
        have h1:=hfx.text
        have h2:=hfx.size
        have h3:=hfx.vn
        dsimp only at h1 h2 h3 ⊢
        omega
      have htk2:(es.take (k+1)).flatMap (fun e=>entryB e.plain)=(es.take k).flatMap (fun e=>entryB e.plain) ++ L:=by
        rw [htk,List.flatMap_append,List.flatMap_singleton,← hL];rfl
      have hrg:wr.rangeAt b (off+k * 9) (enCells ⟨x0,x1,x2,x3,ck,text,ao,xs,ac,num,vo,us,vc2⟩):=fun j v hv=>by
        have hj:j<9:=by have:=(List.getElem?_eq_some_iff.1 hv).1;rw [enCells_len] at this;exact this
        rw [← hv]
        exact hc j hj
      have HL:=Hd hL
      have HTK:=Hd htk2
      have HS2:=Hd hsub2
      have hf1:=hfx.argt
      have hf2:=hfx.text
      have hf3:=hfx.args
      have hf4:=hfx.vn
      have HF1:=Hd hf1
      dsimp only at hf2 hf3 hf4
      rw [hao] at d9
      clear hc hkx htk hfx hsub hsub2 hao hL htk2 hf1 hD hB hBW
      go_wp2_with (refine wpList_load_mid rfl 55 (.tmp 61) rfl b (off+k * 9) rfl (enCells ⟨x0,x1,x2,x3,ck,text,ao,xs,ac,num,vo,us,vc2⟩) _ hrg Tryz.underlying55 rfl (by rw [enCells_len];exact info_en) ?_)
      refine (rEntry_any x0 x1 x2 x3 ck text ao xs.length ac num xs vo us.length vc2 us L wr HL.out rfl rfl HS2.out.1 HS2.out.2 (fun v hv=>Nat.le_trans (HF1.out v hv) (by decide)) (by omega) (by omega) (by omega) (by omega)).mono ?_
      rintro e wb ⟨a1,n1,c1,rfl,hbo,hb⟩
      have hl1:=hbo.len
      have HO1:=Hd (hbo.le hz0)
      have HD:=Hd (HD.out.below hb (nlr _))
      have HB:=Hd (HB.out.trans (hb.mono hz0))
      have hzb:=HSZ.out _ HB.out
      have hn1:n1≤500000000:=by omega
      clear hbo hb hz0 hl1 d9 hrg
      go_wp2_with (at_builtin;refine wpList_append_bo rfl (.tmp 57) (.tmp 63) rfl (w.heap.size+1) rfl HD.out rfl HO1.out.len _ HO1.out.in HO1.out.nil (by omega) hzb ?_)
      intro a2 n2 c2 wd hown hg hn2
      have hst:OutAt (w.heap.size+1) w1 ((((([kd,fr,tt] ++ [tm,ix,ws].flatMap (numB 8)) ++ [obv]) ++ [cm,rn].flatMap (numB 8)) ++ numB 4 (n:Int)) ++ (es.take (k+1)).flatMap (fun e=>entryB e.plain)) (48+(k+1) * 500000000) (.slice a2 n2 c2) wd:=⟨a2,n2,c2,rfl,by omega,by rw [HTK.out];simpa [List.append_assoc] using hown,HB.out.grown hg hzb (fun k hk=>(HD.out.lt k hk).1)⟩
      have HST:=Hd hst
      clear hown hg hn2 hst HD HB HO1 hzb
      go_wp2_with fail
      go_roundw
      case rel=>exact ⟨k+1,by omega,by go_num,HST.out⟩
      case measure=>simp [intOf] <;> omega
    · obtain rfl:k=n:=by omega
      have i1:¬ (k:Int)<k:=by omega
      rw [List.take_of_length_le (by rw [HN.out];exact nlr _)] at hst
      have i2:¬ (k:Int)<k:=by omega
      obtain ⟨a0,n0,c0,hsl,hn0,hD,hB⟩:=hst
      subst hsl
      have HD:=Hd hD
      have HB:=Hd hB
      have hz0:=HSZ.out _ hB
      obtain ⟨d0,d1,d2,d3,d4,d5,d6,d7,d8,d9,d10,d11⟩:=HCL.out _ hB
      clear hD hB
      go_wp2_with fail
      refine (r21count_any m _ _ rfl (by omega)).mono ?_
      rintro e wb ⟨a1,n1,c1,rfl,hbo,hb⟩
      have hl1:=hbo.len
      rw [numB_len] at hl1
      subst hl1
      have HO1:=Hd (hbo.le hz0)
      have HD:=Hd (HD.out.below hb (nlr _))
      have HB:=Hd (HB.out.trans (hb.mono hz0))
      have hzb:=HSZ.out _ HB.out
      clear hbo hb hz0
      clear d0 d1 d2 d3 d4 d5 d6 d7 d8 d9 d10 d11
      go_wp2_with (at_builtin;refine wpList_append_bo rfl (.tmp 65) (.tmp 69) rfl (w.heap.size+1) rfl HD.out rfl HO1.out.len _ HO1.out.in HO1.out.nil (by omega) hzb ?_)
      intro a2 n2 c2 wd hown hg hn2
      have hst:OutAt (w.heap.size+1) w1 (((((([kd,fr,tt] ++ [tm,ix,ws].flatMap (numB 8)) ++ [obv]) ++ [cm,rn].flatMap (numB 8)) ++ numB 4 (k:Int)) ++ es.flatMap (fun e=>entryB e.plain)) ++ numB 4 (m:Int)) 8000000052 (.slice a2 n2 c2) wd:=⟨a2,n2,c2,rfl,by omega,hown,HB.out.grown hg hzb (fun k hk=>(HD.out.lt k hk).1)⟩
      have HST:=Hd hst
      clear hown hg HD HB HO1 hzb hn2 hn0 hst
      go_wp2_with fail
      go_loopw [4,6] (fun v i wr=>∃ j:Nat,j≤m∧i=.int .i64 j∧OutAt (w.heap.size+1) w1 ((((((([kd,fr,tt] ++ [tm,ix,ws].flatMap (numB 8)) ++ [obv]) ++ [cm,rn].flatMap (numB 8)) ++ numB 4 (k:Int)) ++ es.flatMap (fun e=>entryB e.plain)) ++ numB 4 (m:Int)) ++ vs.take j) (8000000052+j) v wr) (fun _ i _=>m - (intOf i).toNat)
      case atStart=>exact ⟨0,by omega,rfl,by rw [List.take_zero,List.append_nil];exact HST.out⟩
      case round =>
        clear HST
        obtain ⟨j,hj,rfl,hst⟩:=hrel
        by_cases hlt:j<m
        · have i1:(j:Int)<m:=by omega
          obtain ⟨a0,n0,c0,hsl,hn0,hD,hB⟩:=hst
          subst hsl
          have hz0:=HSZ.out _ hB
          have d10:=(HCL.out _ hB).2.2.2.2.2.2.2.2.2.2.1
          have hkx:vs[j]?=some (vs[j]'(by rw [HM.out];exact hlt)):=List.getElem?_eq_getElem _
          have htk:vs.take (j+1)=vs.take j ++ [vs[j]'(by rw [HM.out];exact hlt)]:=List.take_succ_eq_append_getElem _
          have hv9:=HRN.out.2.2.2.2.2.2.2.2.2.1 _ (List.getElem_mem (l:=vs) (n:=j) (by rw [HM.out];exact hlt))
          have hBW:=HWD.out _ hB
          obtain ⟨b,off,hao,hb,hc,_⟩:=(HX2.out.below noSub_kept hBW (nlr _)).at hkx
          generalize vs[j]'(by rw [HM.out];exact hlt)=x at hc hkx hv9 htk
          have cx:wr.cell? ⟨b,off+j,none⟩=some (.int .i64 x):=by
            have:=hc 0 (by decide)
            rw [Nat.mul_one,Nat.add_zero] at this
            exact this
          have hxw:IntKind.u8.wrap x=x:=IntWalk.u8_in _ (by omega)
          have hA:=(Below.refl wr.heap.size wr).alloc (nlr _) (.cells #[.int .u8 x] 5)
          have HA:=Hd (show BOwn (wr.alloc (.cells #[.int .u8 x] 5)) (w.heap.size+1) (some ⟨wr.heap.size,0,none⟩) 1 1 [x] from BOwn.le (BOwn.lit wr [x] (by simp)) hz0)
          have HD:=Hd (hD.below hA (nlr _))
          have HB:=Hd (hB.trans (hA.mono hz0))
          have hzb:=HSZ.out _ HB.out
          have HTK:=Hd htk
          rw [hao] at d10
          clear hc hkx htk hao hA hBW hD hB
          go_wp2_with (at_builtin;refine wpList_append_bo rfl (.tmp 78) (.tmp 85) rfl (w.heap.size+1) rfl HD.out rfl HA.out.len _ HA.out.in HA.out.nil (by omega) hzb ?_)
          intro a2 n2 c2 wd hown hg hn2
          have hst:OutAt (w.heap.size+1) w1 ((((((([kd,fr,tt] ++ [tm,ix,ws].flatMap (numB 8)) ++ [obv]) ++ [cm,rn].flatMap (numB 8)) ++ numB 4 (k:Int)) ++ es.flatMap (fun e=>entryB e.plain)) ++ numB 4 (m:Int)) ++ vs.take (j+1)) (8000000052+(j+1)) (.slice a2 n2 c2) wd:=⟨a2,n2,c2,rfl,by omega,by rw [HTK.out];simpa [List.append_assoc] using hown,HB.out.grown hg hzb (fun k hk=>(HD.out.lt k hk).1)⟩
          have HST:=Hd hst
          clear hown hg hn2 hst HD HB HA hzb d10 cx hxw
          go_wp2_with fail
          go_roundw
          case rel=>exact ⟨j+1,by omega,by go_num,HST.out⟩
          case measure=>simp [intOf] <;> omega
        · obtain rfl:j=m:=by omega
          have i3:¬ (j:Int)<j:=by omega
          rw [List.take_of_length_le (by rw [HM.out];exact nlr _)] at hst
          obtain ⟨a0,n0,c0,hsl,hn0,hD,hB⟩:=hst
          subst hsl
          have HD:=Hd hD
          have HB:=Hd hB
          have hz0:=HSZ.out _ hB
          obtain ⟨d0,d1,d2,d3,d4,d5,d6,d7,d8,d9,d10,d11⟩:=HCL.out _ hB
          clear hD hB
          go_wp2_with fail
          refine (r21count_any q _ _ rfl (by omega)).mono ?_
          rintro e wb ⟨a1,n1,c1,rfl,hbo,hb⟩
          have hl1:=hbo.len
          rw [numB_len] at hl1
          subst hl1
          have HO1:=Hd (hbo.le hz0)
          have HD:=Hd (HD.out.below hb (nlr _))
          have HB:=Hd (HB.out.trans (hb.mono hz0))
          have hzb:=HSZ.out _ HB.out
          clear hbo hb hz0
          clear d0 d1 d2 d3 d4 d5 d6 d7 d8 d9 d10 d11
          go_wp2_with (at_builtin;refine wpList_append_bo rfl (.tmp 87) (.tmp 91) rfl (w.heap.size+1) rfl HD.out rfl HO1.out.len _ HO1.out.in HO1.out.nil (by omega) hzb ?_)
          intro a2 n2 c2 wd hown hg hn2
          have hn2b:n2≤9000000000:=by omega
          have hB2:=HB.out.grown hg hzb (fun k hk=>(HD.out.lt k hk).1)
          have d11:=(HCL.out _ hB2).2.2.2.2.2.2.2.2.2.2.2
          have hfull:bytesL ⟨kd,fr,tt,tm,ix,ws,ob,cm,rn,es.map En.plain,vs,im⟩=(((((((([kd,fr,tt] ++ [tm,ix,ws].flatMap (numB 8)) ++ [obv]) ++ [cm,rn].flatMap (numB 8)) ++ numB 4 (k:Int)) ++ es.flatMap (fun e=>entryB e.plain)) ++ numB 4 (j:Int)) ++ vs) ++ numB 4 (q:Int)) ++ im:=by
            have h1:=HOB.out
            unfold bytesL
            dsimp only
            rw [h1,List.length_map,HN.out,HM.out,HQ.out,List.flatMap_map]
            simp [List.append_assoc]
          have hlen:(bytesL ⟨kd,fr,tt,tm,ix,ws,ob,cm,rn,es.map En.plain,vs,im⟩).length=n2+q:=by
            have h1:=congrArg List.length hfull
            have h2:=hown.len
            have h3:=HQ.out
            generalize (bytesL ⟨kd,fr,tt,tm,ix,ws,ob,cm,rn,es.map En.plain,vs,im⟩).length=z at h1 ⊢
            simp at h1 h2
            omega
          have HLN:=Hd hlen
          have HFU:=Hd hfull
          have HOW:=Hd hown
          have HB3:=Hd hB2
          have hzd:=HSZ.out _ hB2
          clear hown hg HD HB HO1 hzb hn0 hn2 hlen hfull hB2
          by_cases hbig:1048576<n2+q
          · have j1:decide ((1048576:Int)<(n2:Int)+q)=true:=decide_eq_true (by omega)
            have j2:(1048576:Int)<(n2:Int)+q:=by omega
            have hpp:=HP.out
            unfold putL2 at hpp
            rw [if_neg (by rw [HGR.out];decide),if_pos (by rw [HLN.out];exact hbig)] at hpp
            simp only [Prod.mk.injEq] at hpp
            obtain ⟨rfl,rfl⟩:=hpp
            go_wp2_with fail
            go_ret2
            exact ⟨none,0,rfl,Or.inl rfl,fun _=>rfl,nlr _,(fun ad h=>by cases h),HWD.out _ HB3.out⟩
          · have j1:decide ((1048576:Int)<(n2:Int)+q)=false:=decide_eq_false (by omega)
            have j2:¬ (1048576:Int)<(n2:Int)+q:=by omega
            have hpp:=HP.out
            unfold putL2 at hpp
            rw [if_neg (by rw [HGR.out];decide),if_neg (by rw [HLN.out];exact hbig)] at hpp
            simp only [Prod.mk.injEq] at hpp
            obtain ⟨hbs,rfl⟩:=hpp
            have HBS:=Hd hbs
            clear hbs
            go_wp2_with (at_builtin;refine wpList_append_bo rfl (.tmp 100) (.tmp 102) rfl (w.heap.size+1) rfl HOW.out rfl HQ.out _ (HX3.out.below (HWD.out _ HB3.out) (nlr _)) HF.out.inil (by omega) hzd ?_)
            intro a5 n5 c5 we hown hg hn5
            have hB5:=HB3.out.grown hg hzd (fun k hk=>(HOW.out.lt k hk).1)
            have hn5b:bs.length=n5:=by rw [← HBS.out,HLN.out];omega
            have howb:BOwn we (w.heap.size+1) a5 n5 c5 bs:=by rw [← HBS.out,HFU.out];simpa [List.append_assoc] using hown
            have HOB2:=Hd howb
            have HNB:=Hd hn5b
            have HB6:=Hd hB5
            clear hown hg hn5 hB5 hn5b howb d11
            go_wp2_with fail
            have hh:=HNB.out
            subst hh
            go_ret2
            exact ⟨a5,c5,rfl,HOB2.out.in,HOB2.out.nil,own_capG HOB2.out.row,(fun ad h=>by subst h;have:=(HOB2.out.lt ad.block rfl).1;omega),HWD.out _ HB6.out⟩
theorem rput21_any (l:Lt)(w:World)(hx:ltSub w w.heap.size l)(hf:LtFine l)(bs:List Int)(er:Int)(hp:putL2 l.plain=(bs,er)) :
    Calls Tryz.prog 14 #[ltVal l] w (PutAt bs er w) :=
  rput21_at l.kind l.fr l.tov l.term l.index l.was l.ok l.commit l.round l.eo l.es.length l.ecap l.vo l.vs.length l.vcap l.io l.im.length l.icap l.es l.vs l.im w rfl rfl rfl hx.1 hx.2.1 hx.2.2 hf hf.en hf.vn hf.ln bs er hp
end Go.Proofs.YtglgcjkglhlggaaGreatDoor
/- The document's answer for letters: four. Conditions: the reader's bytes lie as its reading says. -/
namespace Go.Proofs.YtglgcjkglhlggaaGreatDoor
open Go.RowKit
set_option maxRecDepth 20000
/-- What four bytes say as a count; it is bad, if there are fewer, or they say more than there are bytes. -/
def fourS (bad:Bool) (l:List Int):Int × Bool × List Int :=
 if bad=true∨l.length<4 then (0,true,l)
 else if ((l.drop 4).length:Int)<getN (l.take 4) then (0,true,l.drop 4)
 else (getN (l.take 4),false,l.drop 4)
set_option maxHeartbeats 8000000 in
theorem rfour_any {Z:RefZ}(M db:Nat)(bad:Bool)(left:List Int)(r:Int × Bool × List Int)(w:World)(hr:fourS bad left=r)(h:Ref Z w M db bad left)(hw:BytesWf left) :
  Calls Tryz.prog 53 #[.pointer (some ⟨db,0,none⟩)] w fun e w'=>e=.returned (.int .i64 r.1)∧Ref Z w' M db r.2.1 r.2.2∧Only db w w':=by
 subst hr
 unfold fourS
 obtain ⟨k,ao,m,cap,xs,hi,rfl⟩:=h
 have hkm:=hi.at_
 have hlen:=hi.len
 have hlim:=hi.lim
 have d0:w.cell? ⟨db,0,none⟩=some (.slice ao m cap):=cob hi.blk 0
 have d1:w.cell? ⟨db,1,none⟩=some (.int .i64 k):=cob hi.blk 1
 have d2:w.cell? ⟨db,2,none⟩=some (.bool bad):=cob hi.blk 2
 have f1:w.frozen? ⟨db,1,none⟩=false:=ufb hi.blk 1
 have f2:w.frozen? ⟨db,2,none⟩=false:=ufb hi.blk 2
 have hl2:(xs.drop k).length=m - k:=by rw [List.length_drop,hlen]
 have HI:=Hd hi
 have HL2:=Hd hl2
 clear hi hlen
 cases bad with
 | true =>
  rw [if_pos (Or.inl rfl)]
  clear hl2
  go_enter Tryz.func53,Tryz.ntmps53
  go_wp2_with fail
  go_quiet (fail)
  go_wp2_with fail
  go_ret
  have hD:=fun q=>HI.out.below (below_drewN (Below.refl w.heap.size w) q) (nlr _)
  exact ⟨rfl,⟨k,ao,m,cap,xs,(hD _).setBad true,rfl⟩,⟨by simp,fun b _ hn=>heap_setCell_other _ _ _ _ hn,rfl,rfl,rfl⟩⟩
 | false =>
 by_cases h4:m - k<4
 ·
  rw [if_pos (Or.inr (by rw [hl2];exact h4))]
  have i1:(m:Int) - k<4:=by omega
  clear hl2
  go_enter Tryz.func53,Tryz.ntmps53
  go_wp2_with fail
  go_quiet (fail)
  go_wp2_with fail
  go_ret
  have hD:=fun q=>HI.out.below (below_drewN (Below.refl w.heap.size w) q) (nlr _)
  exact ⟨rfl,⟨k,ao,m,cap,xs,(hD _).setBad true,rfl⟩,⟨by simp,fun b _ hn=>heap_setCell_other _ _ _ _ hn,rfl,rfl,rfl⟩⟩
 ·
  rw [if_neg (by rw [hl2];simp;omega)]
  obtain ⟨x0,x1,x2,x3,l2,hxs⟩:∃ x0 x1 x2 x3 l2,xs.drop k=x0 :: x1 :: x2 :: x3 :: l2:=by
   match hx:xs.drop k with
   | x0 :: x1 :: x2 :: x3 :: l2=>exact ⟨x0,x1,x2,x3,l2,rfl⟩
   | []=>rw [hx] at hl2;simp at hl2;omega
   | [_]=>rw [hx] at hl2;simp at hl2;omega
   | [_,_]=>rw [hx] at hl2;simp at hl2;omega
   | [_,_,_]=>rw [hx] at hl2;simp at hl2;omega
  have hdr:xs.drop (k+4)=l2:=by rw [← List.drop_drop,hxs];rfl
  rw [hxs] at hw hl2 ⊢
  simp only [List.take_succ_cons,List.take_zero,List.drop_succ_cons,List.drop_zero]
  have w0:=hw x0 (by simp)
  have w1':=hw x1 (by simp)
  have w2':=hw x2 (by simp)
  have w3':=hw x3 (by simp)
  have hbits:=said_bits64 w0 w1' w2' w3'
  obtain ⟨V,hV⟩:∃ V,x0 * 16777216+x1 * 65536+x2 * 256+x3=V:=⟨_,rfl⟩
  rw [hV] at hbits
  rw [getN4,hV]
  have hv0:0≤V∧V≤4294967295:=by omega
  have hl2l:l2.length=m - k - 4:=by simp at hl2;omega
  rw [hl2l]
  have hin:=HI.out.off.in
  have hxk:∀ i,i<4→xs.getD (k+i) 0=(x0 :: x1 :: x2 :: x3 :: l2).getD i 0:=fun i hi=>by
   rw [← hxs];simp [List.getD,List.getElem?_drop]
  obtain ⟨b,off,rfl,hbM,hcc⟩:=hin.resolve_left (fun h=>by rw [h] at hxs;simp at hxs)
  have hlx:=HI.out.len
  have hkc:k<cap:=by have:=HI.out.room;omega
  have k0:w.cell? ⟨b,off+k,none⟩=some (.int .u8 x0):=(hcc k (by omega)).trans (by have:=hxk 0 (by decide);rw [Nat.add_zero] at this;rw [this];rfl)
  have k1:w.cell? ⟨b,off+k+1,none⟩=some (.int .u8 x1):=(hcc (k+1) (by omega)).trans (by rw [hxk 1 (by decide)];rfl)
  have k2:w.cell? ⟨b,off+k+2,none⟩=some (.int .u8 x2):=(hcc (k+2) (by omega)).trans (by rw [hxk 2 (by decide)];rfl)
  have k3:w.cell? ⟨b,off+k+3,none⟩=some (.int .u8 x3):=(hcc (k+3) (by omega)).trans (by rw [hxk 3 (by decide)];rfl)
  obtain ⟨mm,hmm⟩:∃ mm,m - k=mm:=⟨_,rfl⟩
  have hsl:∀ w',(Instr.sliceAt 25 (.slice (some ⟨b,off,none⟩) m cap) (some (.int .i64 (k:Int))) none none).run Tryz.prog w'=.ok (.slice (some ⟨b,off+k,none⟩) mm (cap - k)) w':=fun w'=>by
   have h1:=run_sub_l sliceByte sizeByte (some ⟨b,off,none⟩) m cap k hkm .i64 (k:Int) rfl w'
   rw [hmm] at h1
   unfold subA at h1
   by_cases hk0:k=0
   ·
    subst hk0
    simpa [Addr.add,show ¬ cap=0 by omega] using h1
   · simpa [Addr.add,show ¬ cap=k by omega,hk0] using h1
  have hmm4:4≤mm:=by omega
  have i1:¬ (m:Int) - k<4:=by omega
  have i2:decide ((m:Int) - k<4)=false:=decide_eq_false i1
  have i4:IntKind.i64.wrap ((k:Int)+4)=(k:Int)+4:=IntWalk.i64_in _ (by omega)
  have HD2:=Hd hdr
  have HML:=Hd hl2l
  have hdb:=HI.out.lt
  have HSLE:=Hd hmm
  clear hw hl2 hxs hcc hxk hin hV hdr hl2l hmm hlx
  by_cases hbig:((m - k - 4:Nat):Int)<V
  ·
   rw [if_pos hbig]
   go_enter Tryz.func53,Tryz.ntmps53
   go_wp2_with fail
   go_quiet (fail)
   generalize nq=q1
   go_wp2_with fail
   go_quiet (fail)
   generalize nq=q2
   clear hsl
   go_wp2_with fail
   go_quiet (fail)
   generalize nq=q3
   clear hbits k0 k1 k2 k3 w0 w1' w2' w3'
   go_upto_region 7 with fail
   have hI5:RefIs Z ((w.drewN (q1+q2+q3)).setCell ⟨db,1,none⟩ (.int .i64 ((k:Int)+4))) M db false (k+4) (some ⟨b,off,none⟩) m cap xs :=
    (HI.out.below (below_drewN (Below.refl w.heap.size w) (q1+q2+q3)) (nlr _)).setAt (k+4) (by omega)
   have ho5:Only db w ((w.drewN (q1+q2+q3)).setCell ⟨db,1,none⟩ (.int .i64 ((k:Int)+4))):=⟨by simp,fun b _ hn=>heap_setCell_other _ _ _ _ hn,rfl,rfl,rfl⟩
   generalize (w.drewN (q1+q2+q3)).setCell ⟨db,1,none⟩ (.int .i64 ((k:Int)+4))=w5 at hI5 ho5 ⊢
   clear d0 d1 d2 f1 f2
   have d0:w5.cell? ⟨db,0,none⟩=some (.slice (some ⟨b,off,none⟩) m cap):=cob hI5.blk 0
   have d1:w5.cell? ⟨db,1,none⟩=some (.int .i64 ((k+4:Nat):Int)):=cob hI5.blk 1
   have d2:w5.cell? ⟨db,2,none⟩=some (.bool false):=cob hI5.blk 2
   have f2:w5.frozen? ⟨db,2,none⟩=false:=ufb hI5.blk 2
   obtain ⟨k4,hk4⟩:∃ k4,k+4=k4:=⟨_,rfl⟩
   rw [hk4] at d1 hI5
   have HI5:=Hd hI5
   have HO5:=Hd ho5
   have hle4:k4≤m:=by omega
   have hdl:xs.drop k4=l2:=by rw [← hk4];exact HD2.out
   have HDL:=Hd hdl
   have j1:(m:Int) - k4<V:=by omega
   have j2:decide ((m:Int) - k4<V)=true:=decide_eq_true j1
   clear hI5 ho5 hk4 hdl i1 i2 i4 h4 HSLE hbig
   go_wp2_with fail
   go_quiet (fail)
   generalize nq=q4
   go_wp2_with fail
   go_ret
   exact ⟨rfl,⟨k4,some ⟨b,off,none⟩,m,cap,xs,(HI5.out.below (below_drewN (Below.refl w5.heap.size w5) q4) (nlr _)).setBad true,HDL.out.symm⟩,HO5.out.trans ⟨by simp,fun b _ hn=>heap_setCell_other _ _ _ _ hn,rfl,rfl,rfl⟩⟩
  ·
   rw [if_neg hbig]
   go_enter Tryz.func53,Tryz.ntmps53
   go_wp2_with fail
   go_quiet (fail)
   generalize nq=q1
   go_wp2_with fail
   go_quiet (fail)
   generalize nq=q2
   clear hsl
   go_wp2_with fail
   go_quiet (fail)
   generalize nq=q3
   clear hbits k0 k1 k2 k3 w0 w1' w2' w3'
   go_upto_region 7 with fail
   have hI5:RefIs Z ((w.drewN (q1+q2+q3)).setCell ⟨db,1,none⟩ (.int .i64 ((k:Int)+4))) M db false (k+4) (some ⟨b,off,none⟩) m cap xs :=
    (HI.out.below (below_drewN (Below.refl w.heap.size w) (q1+q2+q3)) (nlr _)).setAt (k+4) (by omega)
   have ho5:Only db w ((w.drewN (q1+q2+q3)).setCell ⟨db,1,none⟩ (.int .i64 ((k:Int)+4))):=⟨by simp,fun b _ hn=>heap_setCell_other _ _ _ _ hn,rfl,rfl,rfl⟩
   generalize (w.drewN (q1+q2+q3)).setCell ⟨db,1,none⟩ (.int .i64 ((k:Int)+4))=w5 at hI5 ho5 ⊢
   clear d0 d1 d2 f1 f2
   have d0:w5.cell? ⟨db,0,none⟩=some (.slice (some ⟨b,off,none⟩) m cap):=cob hI5.blk 0
   have d1:w5.cell? ⟨db,1,none⟩=some (.int .i64 ((k+4:Nat):Int)):=cob hI5.blk 1
   have d2:w5.cell? ⟨db,2,none⟩=some (.bool false):=cob hI5.blk 2
   have f2:w5.frozen? ⟨db,2,none⟩=false:=ufb hI5.blk 2
   obtain ⟨k4,hk4⟩:∃ k4,k+4=k4:=⟨_,rfl⟩
   rw [hk4] at d1 hI5
   have HI5:=Hd hI5
   have HO5:=Hd ho5
   have hle4:k4≤m:=by omega
   have hdl:xs.drop k4=l2:=by rw [← hk4];exact HD2.out
   have HDL:=Hd hdl
   have j1:¬ (m:Int) - k4<V:=by omega
   have j2:decide ((m:Int) - k4<V)=false:=decide_eq_false j1
   clear hI5 ho5 hk4 hdl i1 i2 i4 h4 HSLE hbig
   go_wp2_with fail
   go_quiet (fail)
   generalize nq=q4
   go_wp2_with fail
   go_ret
   exact ⟨rfl,⟨k4,some ⟨b,off,none⟩,m,cap,xs,HI5.out.below (below_drewN (Below.refl w5.heap.size w5) q4) (nlr _),HDL.out.symm⟩,HO5.out.trans (Only.of_below (below_drewN (Below.refl w5.heap.size w5) q4))⟩
end Go.Proofs.YtglgcjkglhlggaaGreatDoor
/- The document's answer for letters: what Get reads, plain; it is what the program gets. No program. Conditions: the bytes are bytes. -/
namespace Go.Proofs.YtglgcjkglhlggaaGreatDoor
open Go.RowKit
set_option maxRecDepth 20000
def refEs:Nat→Bool→List Int→List EnP × Bool × List Int
 | 0,b,l=>([],b,l)
 | n+1,b,l=>if b=true then ([],b,l) else ((entryS false l).1 :: (refEs n (entryS false l).2.1 (entryS false l).2.2).1,(refEs n (entryS false l).2.1 (entryS false l).2.2).2)
def refVs:Nat→Bool→List Int→List Int × Bool × List Int
 | 0,b,l=>([],b,l)
 | n+1,b,l=>if b=true then ([],b,l) else match l with
  | []=>([],true,[])
  | v :: r=>(v :: (refVs n false r).1,(refVs n false r).2)
def refReadL (b:List Int):Option LtP :=
 let a:=numS false (b.drop 3)
 let i:=numS a.2.1 a.2.2
 let s:=numS i.2.1 i.2.2
 let c:=numS s.2.1 (s.2.2.drop 1)
 let d:=numS c.2.1 c.2.2
 let n:=fourS d.2.1 d.2.2
 let es:=refEs n.1.toNat n.2.1 n.2.2
 let m:=fourS es.2.1 es.2.2
 let vs:=refVs m.1.toNat m.2.1 m.2.2
 let q:=fourS vs.2.1 vs.2.2
 if q.2.1=true then none else some ⟨b.getD 0 0,b.getD 1 0,b.getD 2 0,a.1,i.1,s.1,decide (s.2.2.getD 0 0=1),c.1,d.1,es.1,vs.1,q.2.2⟩
def refGetL (b:List Int):LtP × Int :=
 if 1048576<b.length∨b.length<3 then (zeroL,4) else
 match refReadL b with
 | none=>(zeroL,4)
 | some l=>if (putL2 l).2=0∧(putL2 l).1=b then (l,0) else (zeroL,4)
theorem fourS_back (n:Nat)(rest:List Int)(h:n<4294967296)(hr:n≤rest.length):fourS false (numB 4 (n:Int) ++ rest)=((n:Int),false,rest):=by
 have h4:(numB 4 (n:Int)).length=4:=numB_len 4 n
 obtain ⟨e1,e2⟩:=cut_at (numB 4 (n:Int)) rest 4 h4
 have e3:(256:Int) ^ 4=4294967296:=by decide
 have e:(n:Int) % 256 ^ 4=n:=by rw [e3];omega
 unfold fourS
 rw [if_neg (by rw [List.length_append,h4];simp),e1,e2,getN_numB,e,if_neg (by omega)]
theorem fourS_bad {b:Bool}{l:List Int}(h:(fourS b l).2.1=false):b=false∧(fourS b l).2.2=l.drop 4:=by
 unfold fourS at h ⊢
 split at h
 · cases h
 ·
  rename_i h1
  rw [if_neg h1]
  split at h
  · cases h
  ·
   rename_i h2
   rw [if_neg h2]
   refine ⟨?_,rfl⟩
   cases b with
   | false=>rfl
   | true=>exact absurd (Or.inl rfl) h1
theorem refEs_back:∀ (es:List EnP) (rest:List Int),(∀ e ∈ es,EnFit e)→refEs es.length false (es.flatMap entryB ++ rest)=(es,false,rest):=by
 intro es
 induction es with
 | nil=>intro rest _;rfl
 | cons e es ih =>
  intro rest h
  rw [List.length_cons,List.flatMap_cons,List.append_assoc]
  unfold refEs
  rw [if_neg (by decide),entryS_back e _ (h e (by simp))]
  dsimp only
  rw [ih rest (fun x hx=>h x (List.mem_cons_of_mem _ hx))]
theorem refVs_back:∀ (vs rest:List Int),refVs vs.length false (vs ++ rest)=(vs,false,rest):=by
 intro vs
 induction vs with
 | nil=>intro rest;rfl
 | cons v vs ih =>
  intro rest
  rw [List.length_cons,List.cons_append]
  unfold refVs
  rw [if_neg (by decide)]
  dsimp only
  rw [ih rest]
theorem refReadL_back {l:LtP}(hr:rightL l=true)(ho:LtOk l):refReadL (bytesL l)=some l:=by
 obtain ⟨n1,n2,n3,n4,n5,n6,n7,n8,n9,n10,n11⟩:=right_nums hr
 obtain ⟨kd,f,t,tm,ix,ws,ok,cm,rd,es,vs,im⟩:=l
 dsimp only at n1 n2 n3 n4 n5 n6 n7 n8 n9 n10 n11
 have him:=ho.im
 dsimp only at him
 have hb:bytesL ⟨kd,f,t,tm,ix,ws,ok,cm,rd,es,vs,im⟩=kd :: f :: t :: (numB 8 tm ++ (numB 8 ix ++ (numB 8 ws ++ ((if ok=true then 1 else 0) :: (numB 8 cm ++ (numB 8 rd ++ (numB 4 (es.length:Int) ++ (es.flatMap entryB ++ (numB 4 (vs.length:Int) ++ (vs ++ (numB 4 (im.length:Int) ++ im))))))))))):=by
  simp [bytesL]
 have hlen:es.length≤(es.flatMap entryB).length:=by
  have:∀ es:List EnP,es.length≤(es.flatMap entryB).length:=by
   intro es
   induction es with
   | nil=>exact nlr _
   | cons e es ih =>
    rw [List.flatMap_cons,List.length_append,List.length_cons]
    have:1≤(entryB e).length:=by simp [entryB];omega
    omega
  exact this _
 rw [hb]
 unfold refReadL
 simp only [List.drop_succ_cons,List.drop_zero]
 rw [numS_back _ _ n3]
 dsimp only
 rw [numS_back _ _ n5]
 dsimp only
 rw [numS_back _ _ n4]
 simp only [List.drop_succ_cons,List.drop_zero]
 rw [numS_back _ _ n6]
 dsimp only
 rw [numS_back _ _ n7]
 dsimp only
 rw [fourS_back es.length _ (by omega) (by rw [List.length_append];omega)]
 dsimp only
 rw [Int.toNat_natCast,refEs_back _ _ (fun e he=>right_fit (n8 e he) (ho.es e he))]
 dsimp only
 rw [fourS_back vs.length _ (by omega) (by rw [List.length_append];omega)]
 dsimp only
 rw [Int.toNat_natCast,refVs_back]
 dsimp only
 rw [fourS_back im.length _ him (nlr _)]
 dsimp only
 rw [if_neg (by decide)]
 cases ok <;> simp
theorem refEs_ok:∀ (n:Nat) (b:Bool) (l:List Int),BytesWf l→(refEs n b l).2.1=false→(∀ e ∈ (refEs n b l).1,EnOk e)∧BytesWf (refEs n b l).2.2∧(refEs n b l).2.2.length≤l.length∧b=false:=by
 intro n
 induction n with
 | zero=>intro b l hw h;exact ⟨(by intro e he;cases he),hw,nlr _,h⟩
 | succ n ih =>
  intro b l hw h
  unfold refEs at h ⊢
  cases b with
  | true=>rw [if_pos rfl] at h;cases h
  | false =>
   rw [if_neg (by decide)] at h ⊢
   dsimp only at h ⊢
   have hs:=entryS_shrinks false l hw
   obtain ⟨h1,h2,h3,h4⟩:=ih _ _ hs.1 h
   refine ⟨fun e he=>?_,h2,by have:=hs.2;omega,rfl⟩
   rcases List.mem_cons.1 he with rfl | he
   · exact entry_ok hw h4
   · exact h1 e he
theorem refVs_ok:∀ (n:Nat) (b:Bool) (l:List Int),(refVs n b l).2.1=false→(refVs n b l).2.2.length≤l.length∧b=false:=by
 intro n
 induction n with
 | zero=>intro b l h;exact ⟨nlr _,h⟩
 | succ n ih =>
  intro b l h
  unfold refVs at h ⊢
  cases b with
  | true=>rw [if_pos rfl] at h;cases h
  | false =>
   rw [if_neg (by decide)] at h ⊢
   cases l with
   | nil=>cases h
   | cons v r =>
    dsimp only at h ⊢
    have:=(ih false r h).1
    exact ⟨by simp;omega,rfl⟩
theorem refReadL_ok {b:List Int}{l:LtP}(hw:BytesWf b)(hl:b.length<4294967296)(h:refReadL b=some l):LtOk l:=by
 unfold refReadL at h
 dsimp only at h
 have w0:BytesWf (b.drop 3):=fun x hx=>hw x (List.mem_of_mem_drop hx)
 have s1:=numS_shrinks false (b.drop 3) w0
 generalize numS false (b.drop 3)=a at h s1
 have s2:=numS_shrinks a.2.1 a.2.2 s1.1
 generalize numS a.2.1 a.2.2=i at h s2
 have s3:=numS_shrinks i.2.1 i.2.2 s2.1
 generalize numS i.2.1 i.2.2=s at h s3
 have w4:BytesWf (s.2.2.drop 1):=fun x hx=>s3.1 x (List.mem_of_mem_drop hx)
 have s4:=numS_shrinks s.2.1 (s.2.2.drop 1) w4
 generalize numS s.2.1 (s.2.2.drop 1)=c at h s4
 have s5:=numS_shrinks c.2.1 c.2.2 s4.1
 generalize numS c.2.1 c.2.2=d at h s5
 obtain ⟨n,hn⟩:∃ n,fourS d.2.1 d.2.2=n:=⟨_,rfl⟩
 rw [hn] at h
 obtain ⟨es,hes⟩:∃ es,refEs n.1.toNat n.2.1 n.2.2=es:=⟨_,rfl⟩
 rw [hes] at h
 obtain ⟨m,hm⟩:∃ m,fourS es.2.1 es.2.2=m:=⟨_,rfl⟩
 rw [hm] at h
 obtain ⟨vs,hvs⟩:∃ vs,refVs m.1.toNat m.2.1 m.2.2=vs:=⟨_,rfl⟩
 rw [hvs] at h
 obtain ⟨q,hq⟩:∃ q,fourS vs.2.1 vs.2.2=q:=⟨_,rfl⟩
 rw [hq] at h
 split at h
 · cases h
 rename_i hqb
 have hqb:q.2.1=false:=eq_false_of_ne_true hqb
 cases h
 have f1:=fourS_bad (b:=vs.2.1) (l:=vs.2.2) (by rw [hq];exact hqb)
 have f2:=refVs_ok m.1.toNat m.2.1 m.2.2 (by rw [hvs];exact f1.1)
 have f3:=fourS_bad (b:=es.2.1) (l:=es.2.2) (by rw [hm];exact f2.2)
 have hnd:n.2.1=false:=by
  cases hnb:n.2.1 with
  | false=>rfl
  | true =>
   have:es.2.1=true:=by rw [← hes,hnb];cases n.1.toNat <;> rfl
   rw [f3.1] at this;cases this
 have f5:=fourS_bad (b:=d.2.1) (l:=d.2.2) (by rw [hn];exact hnd)
 rw [hn] at f5
 have w6:BytesWf n.2.2:=by rw [f5.2];exact fun x hx=>s5.1 x (List.mem_of_mem_drop hx)
 have f4:=refEs_ok n.1.toNat n.2.1 n.2.2 w6 (by rw [hes];exact f3.1)
 rw [hes] at f4
 rw [hvs] at f2
 rw [hm] at f3
 rw [hq] at f1
 refine ⟨f4.1,?_⟩
 dsimp only
 have l1:q.2.2.length≤vs.2.2.length:=by rw [f1.2,List.length_drop];omega
 have l2:m.2.2.length≤es.2.2.length:=by rw [f3.2,List.length_drop];omega
 have l3:n.2.2.length≤d.2.2.length:=by rw [f5.2,List.length_drop];omega
 have l4:=f2.1
 have l5:=f4.2.2.1
 have l6:=s5.2
 have l7:=s4.2
 have l8:=s3.2
 have l9:=s2.2
 have l10:=s1.2
 rw [List.length_drop] at l7 l10
 omega
theorem refGetL_eq {b:List Int}(hw:BytesWf b):refGetL b=getL b:=by
 unfold refGetL
 by_cases hbig:1048576<b.length
 ·
  rw [if_pos (Or.inl hbig)]
  unfold getL
  rw [if_pos hbig]
 by_cases hsm:b.length<3
 ·
  rw [if_pos (Or.inr hsm)]
  unfold getL readL
  rw [if_neg hbig,if_pos (by omega)]
 rw [if_neg (by omega)]
 have key:∀ l,LtOk l→putL2 l=(b,0)→rightL l=true∧bytesL l=b:=fun l ho hp=>by
  have h:=putL2_err l (by rw [hp])
  exact ⟨h.1,by rw [← h.2.2,hp]⟩
 rcases getL_err b with h0 | h0
 ·
  have h1:=getL_one h0
  have hok:LtOk (getL b).1:=by
   unfold getL at h0 ⊢
   rw [if_neg hbig] at h0 ⊢
   split at h0
   · cases h0
   ·
    rename_i l hl
    split at h0
    ·
     rename_i h2
     rw [if_pos h2]
     exact readL_ok hw (by omega) hl
    · cases h0
  obtain ⟨k1,k2⟩:=key _ hok h1.2
  have hrb:=refReadL_back k1 hok
  rw [k2] at hrb
  rw [hrb]
  dsimp only
  rw [h1.2,if_pos ⟨rfl,rfl⟩]
  exact Prod.ext rfl h0.symm
 ·
  cases hrd:refReadL b with
  | none=>exact h0.symm
  | some l =>
   dsimp only
   by_cases hp:(putL2 l).2=0∧(putL2 l).1=b
   ·
    have hpp:putL2 l=(b,0):=Prod.ext hp.2 hp.1
    have hok:=refReadL_ok hw (by omega) hrd
    obtain ⟨k1,k2⟩:=key l hok hpp
    have h3:=getL_back k1 hok (by rw [k2];omega)
    rw [k2,h0] at h3
    simp only [Prod.mk.injEq] at h3
    exact absurd h3.2 (by decide)
   · rw [if_neg hp,h0]
end Go.Proofs.YtglgcjkglhlggaaGreatDoor
