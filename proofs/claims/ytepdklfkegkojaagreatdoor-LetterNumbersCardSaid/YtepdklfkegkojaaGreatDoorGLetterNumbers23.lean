/- Parts of one proof. Conditions: as each says. -/
import Derived.Test.YtepdklfkegkojaaGreatDoorGLetterNumbers0
import Derived.Test.YtepdklfkegkojaaGreatDoorGLetterNumbers22
import Derived.Test.YtepdklfkegkojaaGreatDoorGLetterNumbers9
import Derived.Test.YtepdklfkegkojaaGreatDoorGLetterNumbers13
import Derived.Test.YtepdklfkegkojaaGreatDoorGLetterNumbers10
import Derived.Deep.DeepCutAuto
set_option linter.all false
set_option maxHeartbeats 16000000
set_option maxRecDepth 100000
namespace Go.Proofs.YtepdklfkegkojaaGreatDoor
open Go.Proofs.Tryz
open Go.RowKit
def uU (base:Nat) (w1:World) (L:List Int) (N:Nat) (v:Value) (w:World):Prop:=∃a n c,v=.slice a n c/\n<=N/\BOwn w base a n c L/\Below base w1 w
theorem aaQ (kd fr tt tm ix ws:Int)(ob:Bool)(cm rn:Int)(ea:Option Addr)(n ec:Nat)(va:Option Addr)(m vc:Nat)(ia:Option Addr)(q ic:Nat)(es:List En)(vs im:List Int)(w:World)
    (hn:es.length=n) (hm:vs.length=m) (hq:im.length=q) (hx:kV w w.heap.size ea es) (eR:gS w w.heap.size va vs) (oA:BytesIn w w.heap.size ia im) (hf:cy ⟨kd,fr,tt,tm,ix,ws,ob,cm,rn,ea,es,ec,va,vs,vc,ia,im,ic⟩) (l1:n<=4000000) (l2:m<=4000000) (l3:q<=4000000) (bs:List Int) (er:Int) (hp:eM ⟨kd,fr,tt,tm,ix,ws,ob,cm,rn,es.map En.plain,vs,im⟩=(bs,er)) :
    Calls prog 10 #[.agg #[.int .u8 kd,.int .i64 fr,.int .i64 tt,.int .i64 tm,.int .i64 ix,.int .i64 ws,.bool ob,.int .i64 cm,.int .i64 rn,.slice ea n ec,.slice va m vc,.slice ia q ic]] w (Gx bs er w):=by
  have ba:=(aj w.heap.size w).alloc (aa _) (.cells #[.int .u8 kd,.int .i64 fr,.int .i64 tt,.int .i64 tm,.int .i64 ix,.int .i64 ws,.bool ob,.int .i64 cm,.int .i64 rn,.slice ea n ec,.slice va m vc,.slice ia q ic] 32);have h1:=heap_alloc_new w (.cells #[.int .u8 kd,.int .i64 fr,.int .i64 tt,.int .i64 tm,.int .i64 ix,.int .i64 ws,.bool ob,.int .i64 cm,.int .i64 rn,.slice ea n ec,.slice va m vc,.slice ia q ic] 32);have bp:w.heap.size+1<=(w.alloc (.cells #[.int .u8 kd,.int .i64 fr,.int .i64 tt,.int .i64 tm,.int .i64 ix,.int .i64 ws,.bool ob,.int .i64 cm,.int .i64 rn,.slice ea n ec,.slice va m vc,.slice ia q ic] 32)).heap.size:=by simp
  have ev:=Hd ba;have H1:=Hd h1;have HZ:=Hd bp;have HN:=Hd hn;have HM:=Hd hm;have HQ:=Hd hq;have HX:=Hd hx;have oq:=Hd eR;have rU:=Hd oA;have HF:=Hd hf;have HP:=Hd hp;have hkd:=hf.kind;have P0:=λ h=>hf.bytes h
  have OI:=Hd P0;clear ba h1 bp hn hm hq hx eR oA hf hp P0;go_enter func10,ntmps10
  go_upto_region 1 with fail
  have ba:=ev.out;have h1:=H1.out;have bp:=HZ.out;clear ev H1 HZ;generalize w.alloc (.cells #[.int .u8 kd,.int .i64 fr,.int .i64 tt,.int .i64 tm,.int .i64 ix,.int .i64 ws,.bool ob,.int .i64 cm,.int .i64 rn,.slice ea n ec,.slice va m vc,.slice ia q ic] 32)=w1 at ba h1 bp ⊢;have bD:=Hd (show ∀w',Below (w.heap.size+1) w1 w'->w'.cell? ⟨w.heap.size,0,none⟩=some (.int .u8 kd)/\w'.cell? ⟨w.heap.size,1,none⟩=some (.int .i64 fr)/\w'.cell? ⟨w.heap.size,2,none⟩=some (.int .i64 tt)/\w'.cell? ⟨w.heap.size,3,none⟩=some (.int .i64 tm)/\w'.cell? ⟨w.heap.size,4,none⟩=some (.int .i64 ix)/\w'.cell? ⟨w.heap.size,5,none⟩=some (.int .i64 ws)/\w'.cell? ⟨w.heap.size,6,none⟩=some (.bool ob)/\w'.cell? ⟨w.heap.size,7,none⟩=some (.int .i64 cm)/\w'.cell? ⟨w.heap.size,8,none⟩=some (.int .i64 rn)/\w'.cell? ⟨w.heap.size,9,none⟩=some (.slice ea n ec)/\w'.cell? ⟨w.heap.size,10,none⟩=some (.slice va m vc)/\w'.cell? ⟨w.heap.size,11,none⟩=some (.slice ia q ic)from λ w' h=>have hk:=(h.block w.heap.size (xu _)).trans h1;⟨ab hk 0,ab hk 1,ab hk 2,ab hk 3,ab hk 4,ab hk 5,ab hk 6,ab hk 7,ab hk 8,ab hk 9,ab hk 10,ab hk 11⟩);have cH:=Hd (show ∀w',Below (w.heap.size+1) w1 w'->w.heap.size+1<=w'.heap.size from λ w' h=>aF bp h.size);have qM:=Hd (show ∀w',Below (w.heap.size+1) w1 w'->Below w.heap.size w w' from λ w' h=>ba.trans (h.mono (fU _)));have gN:=eK h1;have ev:=Hd ba;obtain⟨gr,iq⟩:∃gg,fx ⟨kd,fr,tt,tm,ix,ws,ob,cm,rn,es.map En.plain,vs,im⟩=gg:=⟨_,rfl⟩;have bE:=Hd iq;clear ba h1 iq;go_wp2_with (refine wpList_load_mid rfl 32 (.tmp 1) rfl w.heap.size 0 rfl _ _ gN cL rfl info_lt ?_)
  refine(PS kd fr tt tm ix ws ob cm rn ea n ec va m vc ia q ic es vs im w1 HN.out HM.out HQ.out ((HX.out.below iI ev.out (aa _)).mono mi ev.out.size) ((oq.out.below cn ev.out (aa _)).mono cK ev.out.size) ((rU.out.below ev.out (aa _)).mono ev.out.size) HF.out.es l1 l2 l3 hkd gr bE.out).mono ?_;rintro e w2 ⟨rfl,b2⟩;have am:Below (w.heap.size+1) w1 w2:=b2.mono bp;clear gN b2;cases gr with
  | false =>
    have ip:=HP.out;unfold eM at ip;rw[if_pos bE.out]at ip;simp only[Prod.mk.injEq]at ip;obtain⟨rfl,rfl⟩:=ip;go_wp2_with fail
    go_ret2
    exact⟨none,0,rfl,Or.inl rfl,λ _=>rfl,aa _,(λ ad h=>by cases h),qM.out _ am⟩
  | true =>
  have hrn:=zx bE.out;have hfr:IntKind.u8.wrap fr=fr:=by have:=hrn.1;exact IntWalk.u8_in _ (by dsimp only at this;omega)
  have CU:IntKind.u8.wrap tt=tt:=by have:=hrn.2.1;exact IntWalk.u8_in _ (by dsimp only at this;omega)
  have Ja:=Hd hrn;clear hrn;go_upto_region 3 with fail
  go_cut [4] (λ v wq=>uU (w.heap.size+1) w1 ([kd,fr,tt]++[tm,ix,ws].flatMap (au 8)) 27 v wq)
  case first =>
   refine nX (λ w'=>Below (w.heap.size+1) w1 w') (by kernel_rfl) (am.drew) ?_;intro cu
   (first|(refine tkn 0 rfl ?_)|(refine aT (v:=?_) 0 rfl ?_ ?_;rotate_left;focus(intro wS ah;obtain⟨d0,d1,d2,d3,d4,d5,d6,d7,d8,d9,cE,cM⟩:=bD.out wS ah;go_simp;first|done|with_reducible rfl)))
   (try simp only[Act.put,ssa,aq,ar])
   (first|(refine tkn 1 rfl ?_)|(refine aT (v:=?_) 1 rfl ?_ ?_;rotate_left;focus(intro wS ah;obtain⟨d0,d1,d2,d3,d4,d5,d6,d7,d8,d9,cE,cM⟩:=bD.out wS ah;go_simp;first|done|with_reducible rfl)))
   (try simp only[Act.put,ssa,aq,ar])
   (first|(refine tkn 2 rfl ?_)|(refine aT (v:=?_) 2 rfl ?_ ?_;rotate_left;focus(intro wS ah;obtain⟨d0,d1,d2,d3,d4,d5,d6,d7,d8,d9,cE,cM⟩:=bD.out wS ah;go_simp;first|done|with_reducible rfl)))
   (try simp only[Act.put,ssa,aq,ar])
   (first|(refine tkn 3 rfl ?_)|(refine aT (v:=?_) 3 rfl ?_ ?_;rotate_left;focus(intro wS ah;obtain⟨d0,d1,d2,d3,d4,d5,d6,d7,d8,d9,cE,cM⟩:=bD.out wS ah;go_simp;first|done|with_reducible rfl)))
   (try simp only[Act.put,ssa,aq,ar])
   (first|(refine tkn 4 rfl ?_)|(refine aT (v:=?_) 4 rfl ?_ ?_;rotate_left;focus(intro wS ah;obtain⟨d0,d1,d2,d3,d4,d5,d6,d7,d8,d9,cE,cM⟩:=bD.out wS ah;go_simp;first|done|with_reducible rfl)))
   (try simp only[Act.put,ssa,aq,ar])
   (first|(refine tkn 5 rfl ?_)|(refine aT (v:=?_) 5 rfl ?_ ?_;rotate_left;focus(intro wS ah;obtain⟨d0,d1,d2,d3,d4,d5,d6,d7,d8,d9,cE,cM⟩:=bD.out wS ah;go_simp;first|done|with_reducible rfl)))
   (try simp only[Act.put,ssa,aq,ar])
   (first|(refine tkn 6 rfl ?_)|(refine aT (v:=?_) 6 rfl ?_ ?_;rotate_left;focus(intro wS ah;obtain⟨d0,d1,d2,d3,d4,d5,d6,d7,d8,d9,cE,cM⟩:=bD.out wS ah;go_simp;first|done|with_reducible rfl)))
   (try simp only[Act.put,ssa,aq,ar])
   (first|(refine tkn 7 rfl ?_)|(refine aT (v:=?_) 7 rfl ?_ ?_;rotate_left;focus(intro wS ah;obtain⟨d0,d1,d2,d3,d4,d5,d6,d7,d8,d9,cE,cM⟩:=bD.out wS ah;go_simp;first|done|with_reducible rfl)))
   (try simp only[Act.put,ssa,aq,ar])
   (first|(refine tkn 9 rfl ?_)|(refine aT (v:=?_) 9 rfl ?_ ?_;rotate_left;focus(intro wS ah;obtain⟨d0,d1,d2,d3,d4,d5,d6,d7,d8,d9,cE,cM⟩:=bD.out wS ah;go_simp;first|done|with_reducible rfl)))
   (try simp only[Act.put,ssa,aq,ar])
   (first|(refine tkn 10 rfl ?_)|(refine aT (v:=?_) 10 rfl ?_ ?_;rotate_left;focus(intro wS ah;obtain⟨d0,d1,d2,d3,d4,d5,d6,d7,d8,d9,cE,cM⟩:=bD.out wS ah;go_simp;first|done|with_reducible rfl)))
   (try simp only[Act.put,ssa,aq,ar])
   (first|(refine tkn 11 rfl ?_)|(refine aT (v:=?_) 11 rfl ?_ ?_;rotate_left;focus(intro wS ah;obtain⟨d0,d1,d2,d3,d4,d5,d6,d7,d8,d9,cE,cM⟩:=bD.out wS ah;go_simp;first|done|with_reducible rfl)))
   (try simp only[Act.put,ssa,aq,ar])
   (first|(refine tkn 12 rfl ?_)|(refine aT (v:=?_) 12 rfl ?_ ?_;rotate_left;focus(intro wS ah;obtain⟨d0,d1,d2,d3,d4,d5,d6,d7,d8,d9,cE,cM⟩:=bD.out wS ah;go_simp;first|done|with_reducible rfl)))
   (try simp only[Act.put,ssa,aq,ar])
   (first|(refine tkn 13 rfl ?_)|(refine aT (v:=?_) 13 rfl ?_ ?_;rotate_left;focus(intro wS ah;obtain⟨d0,d1,d2,d3,d4,d5,d6,d7,d8,d9,cE,cM⟩:=bD.out wS ah;go_simp;first|done|with_reducible rfl)))
   (try simp only[Act.put,ssa,aq,ar])
   (first|(refine tkn 14 rfl ?_)|(refine aT (v:=?_) 14 rfl ?_ ?_;rotate_left;focus(intro wS ah;obtain⟨d0,d1,d2,d3,d4,d5,d6,d7,d8,d9,cE,cM⟩:=bD.out wS ah;go_simp;first|done|with_reducible rfl)))
   (try simp only[Act.put,ssa,aq,ar])
   clear am;generalize w2.drew=x0 at cu ⊢;refine Ab 8 15 rfl rfl (by kernel_rfl) (by rfl) (by rfl) (λ K hK=>?_) (λ K hK=>?_)
   rotate_left
   focus
     go_simp
     have hz:=cH.out _ cu;have hA:=(aj x0.heap.size x0).alloc (aa _) (.cells #[.int .i64 tm,.int .i64 ix,.int .i64 ws] 3);have b1:=Below.alloc cu hz (.cells #[.int .i64 tm,.int .i64 ix,.int .i64 ws] 3);obtain⟨ib,hib⟩:∃ib,x0.heap.size=ib:=⟨_,rfl⟩;have HI:Hid (gS (x0.alloc (.cells #[.int .i64 tm,.int .i64 ix,.int .i64 ws] 3)) (x0.alloc (.cells #[.int .i64 tm,.int .i64 ix,.int .i64 ws] 3)).heap.size (some ⟨x0.heap.size,0,none⟩) [tm,ix,ws]):=Hd ((zE x0 [tm,ix,ws] _ rfl).mono cK (by simp));skip
     clear hA;rw[hib]at HI ⊢;generalize eR:World.alloc x0 (.cells #[.int .i64 tm,.int .i64 ix,.int .i64 ws] 3)=x1 at b1 HI ⊢;clear eR hz hib;refine hK.out _ _ (by assumption) ?_;clear hK K
     (try simp only[Act.put,ssa,aq,ar])
     refine Ab 8 16 rfl rfl (by kernel_rfl) (by rfl) (by rfl) (λ K hK=>?_) (λ K hK=>?_)
     rotate_left
     focus
       go_simp
       refine(EQ _ 3 3 [tm,ix,ws] _ x1 x1.heap.size rfl rfl HI.out (aa _) (by decide)).mono ?_;rintro e x2 ⟨aB,nB,qB,rfl,ho,hb⟩;obtain rfl:nB=24:=(by rw[<-ho.len];simp[cV]);have HB:=Hd (ho.le (cH.out _ b1));skip
       have b2:=b1.trans (hb.mono (cH.out _ b1));clear ho hb HI;refine hK.out _ _ (by assumption) ?_;clear hK K
       (try simp only[Act.put,ssa,aq,ar])
       refine dL 8 rfl (by kernel_rfl) (by rfl) (λ K hK=>?_);go_simp
       have du:=BOwn.lit x2 [kd,fr,tt] (by simp);have hz:=cH.out _ b2;have hA:=(aj x2.heap.size x2).alloc (aa _) (.cells #[.int .u8 kd,.int .u8 fr,.int .u8 tt] 5);have b3:=Below.alloc b2 hz (.cells #[.int .u8 kd,.int .u8 fr,.int .u8 tt] 5);have HA:Hid (BOwn (x2.alloc (.cells #[.int .u8 kd,.int .u8 fr,.int .u8 tt] 5)) (w.heap.size+1) (some ⟨x2.heap.size,0,none⟩) 3 3 [kd,fr,tt]):=Hd (BOwn.le du hz);have HB:=Hd (HB.out.below hA (aa _));clear du hA;generalize eR:World.alloc x2 (.cells #[.int .u8 kd,.int .u8 fr,.int .u8 tt] 5)=x3 at b3 HA HB ⊢;clear eR hz;refine hK.out _ _ (by assumption) ?_;clear hK K
       (try simp only[Act.put,ssa,aq,ar])
     rotate_left
     focus
       go_simp
       have du:=BOwn.lit x1 [kd,fr,tt] (by simp);have hz:=cH.out _ b1;have hA:=(aj x1.heap.size x1).alloc (aa _) (.cells #[.int .u8 kd,.int .u8 fr,.int .u8 tt] 5);have b2:=Below.alloc b1 hz (.cells #[.int .u8 kd,.int .u8 fr,.int .u8 tt] 5);have HA:Hid (BOwn (x1.alloc (.cells #[.int .u8 kd,.int .u8 fr,.int .u8 tt] 5)) (w.heap.size+1) (some ⟨x1.heap.size,0,none⟩) 3 3 [kd,fr,tt]):=Hd (BOwn.le du hz);have HI:=Hd (RowsIn.mono cK (RowsIn.below cn HI.out hA (aa _)) hA.size);clear du hA;generalize eR:World.alloc x1 (.cells #[.int .u8 kd,.int .u8 fr,.int .u8 tt] 5)=x2 at b2 HA HI ⊢;clear eR hz;refine hK.out _ _ (by assumption) ?_;clear hK K
       (try simp only[Act.put,ssa,aq,ar])
       refine dL 16 rfl (by kernel_rfl) (by rfl) (λ K hK=>?_);go_simp
       refine(EQ _ 3 3 [tm,ix,ws] _ x2 x2.heap.size rfl rfl HI.out (aa _) (by decide)).mono ?_;rintro e x3 ⟨aB,nB,qB,rfl,ho,hb⟩;obtain rfl:nB=24:=(by rw[<-ho.len];simp[cV]);have HB:=Hd (ho.le (cH.out _ b2));have HA:=Hd (HA.out.below hb (aa _));have b3:=b2.trans (hb.mono (cH.out _ b2));clear ho hb HI;refine hK.out _ _ (by assumption) ?_;clear hK K
       (try simp only[Act.put,ssa,aq,ar])
   rotate_left
   rotate_left
   focus
     go_simp
     have du:=BOwn.lit x0 [kd,fr,tt] (by simp);have hz:=cH.out _ cu;have hA:=(aj x0.heap.size x0).alloc (aa _) (.cells #[.int .u8 kd,.int .u8 fr,.int .u8 tt] 5);have b1:=Below.alloc cu hz (.cells #[.int .u8 kd,.int .u8 fr,.int .u8 tt] 5);have HA:Hid (BOwn (x0.alloc (.cells #[.int .u8 kd,.int .u8 fr,.int .u8 tt] 5)) (w.heap.size+1) (some ⟨x0.heap.size,0,none⟩) 3 3 [kd,fr,tt]):=Hd (BOwn.le du hz);skip
     clear du hA;generalize eR:World.alloc x0 (.cells #[.int .u8 kd,.int .u8 fr,.int .u8 tt] 5)=x1 at b1 HA ⊢;clear eR hz;refine hK.out _ _ (by assumption) ?_;clear hK K
     (try simp only[Act.put,ssa,aq,ar])
     refine dL 15 rfl (by kernel_rfl) (by rfl) (λ K hK=>?_);go_simp
     have hz:=cH.out _ b1;have hA:=(aj x1.heap.size x1).alloc (aa _) (.cells #[.int .i64 tm,.int .i64 ix,.int .i64 ws] 3);have b2:=Below.alloc b1 hz (.cells #[.int .i64 tm,.int .i64 ix,.int .i64 ws] 3);obtain⟨ib,hib⟩:∃ib,x1.heap.size=ib:=⟨_,rfl⟩;have HI:Hid (gS (x1.alloc (.cells #[.int .i64 tm,.int .i64 ix,.int .i64 ws] 3)) (x1.alloc (.cells #[.int .i64 tm,.int .i64 ix,.int .i64 ws] 3)).heap.size (some ⟨x1.heap.size,0,none⟩) [tm,ix,ws]):=Hd ((zE x1 [tm,ix,ws] _ rfl).mono cK (by simp));have HA:=Hd (HA.out.below hA (aa _));clear hA;rw[hib]at HI ⊢;generalize eR:World.alloc x1 (.cells #[.int .i64 tm,.int .i64 ix,.int .i64 ws] 3)=x2 at b2 HI HA ⊢;clear eR hz hib;refine hK.out _ _ (by assumption) ?_;clear hK K
     (try simp only[Act.put,ssa,aq,ar])
     refine dL 16 rfl (by kernel_rfl) (by rfl) (λ K hK=>?_);go_simp
     refine(EQ _ 3 3 [tm,ix,ws] _ x2 x2.heap.size rfl rfl HI.out (aa _) (by decide)).mono ?_;rintro e x3 ⟨aB,nB,qB,rfl,ho,hb⟩;obtain rfl:nB=24:=(by rw[<-ho.len];simp[cV]);have HB:=Hd (ho.le (cH.out _ b2));have HA:=Hd (HA.out.below hb (aa _));have b3:=b2.trans (hb.mono (cH.out _ b2));clear ho hb HI;refine hK.out _ _ (by assumption) ?_;clear hK K
     (try simp only[Act.put,ssa,aq,ar])
   all_goals
     refine dL 17 rfl (by kernel_rfl) (by rfl) (λ K hK=>?_);skip
     (refine x9 (.tmp 18) (.tmp 26) rfl (w.heap.size+1) rfl HA.out rfl HB.out.len _ HB.out.in HB.out.nil (by omega) (cH.out _ b3) ?_;intro aD nD qD x4 ho hg hn;have LD:=Hd hn;clear hn;have b4:=b3.grown hg (cH.out _ b3) (λ k hk=>(HA.out.lt k hk).1);have HD:=Hd ho;clear ho hg)
     refine hK.out _ _ (by assumption) ?_;clear hK K
     (try simp only[Act.put,ssa,aq,ar])
     (first|(refine tkn 18 rfl ?_)|(refine aT (v:=?_) 18 rfl ?_ ?_;rotate_left;focus(intro wS ah;obtain⟨d0,d1,d2,d3,d4,d5,d6,d7,d8,d9,cE,cM⟩:=bD.out wS ah;go_simp;first|done|with_reducible rfl)))
     (try simp only[Act.put,ssa,aq,ar])
     refine wpAnyH_done (by kernel_rfl) ?_ _
   all_goals
     have hnD:nD=27:=by have:=LD.out;omega
     go_wp2_with fail
     go_meet
     exact⟨aD,nD,qD,rfl,by omega,HD.out,b4⟩
  case rest =>
  clear am hfr CU;obtain⟨a0,n0,c0,rfl,oy,hD,hB⟩:=hcut;have HD:=Hd hD;have HB:=Hd hB;have bo:=cH.out _ hB;obtain⟨d0,d1,d2,d3,d4,d5,d6,d7,d8,d9,cE,cM⟩:=bD.out _ hB;clear hD hB;obtain⟨sX,P4⟩:∃v:Int,(if ob=true then 1 else 0)=v:=⟨_,rfl⟩;have zK:=Hd P4;clear P4;go_upto_if 29 with fail
  go_cut [4] (λ v wq=>uU (w.heap.size+1) w1 (([kd,fr,tt]++[tm,ix,ws].flatMap (au 8))++[sX]) 28 v wq)
  case first =>
    cases ob with
    | true =>
      obtain rfl:1=sX:=zK.out;have du:=BOwn.lit wc [1] (by simp);have hA:=(aj wc.heap.size wc).alloc (aa _) (.cells #[.int .u8 1] 5);have HA:=Hd (show BOwn (wc.alloc (.cells #[.int .u8 1] 5)) (w.heap.size+1) (some ⟨wc.heap.size,0,none⟩) 1 1 [1]from BOwn.le du bo);have HD2:=Hd (HD.out.below hA (aa _));have bF:=Hd (HB.out.trans (hA.mono bo));have iy:=cH.out _ bF.out;clear du hA;clear d0 d1 d2 d3 d4 d5 d6 d7 d8 d9 cE cM;go_wp2_with (at_builtin;refine od rfl (.tmp 30) (.tmp 31) rfl (w.heap.size+1) rfl HD2.out rfl HA.out.len _ HA.out.in HA.out.nil (by omega) iy ?_)
      intro a2 n2 c2 wd az hg dW;go_wp2_with fail
      go_meet
      exact⟨a2,n2,c2,rfl,by omega,az,bF.out.grown hg iy (λ k hk=>(HD2.out.lt k hk).1)⟩
    | false =>
      obtain rfl:0=sX:=zK.out;have du:=BOwn.lit wc [0] (by simp);have hA:=(aj wc.heap.size wc).alloc (aa _) (.cells #[.int .u8 0] 5);have HA:=Hd (show BOwn (wc.alloc (.cells #[.int .u8 0] 5)) (w.heap.size+1) (some ⟨wc.heap.size,0,none⟩) 1 1 [0]from BOwn.le du bo);have HD2:=Hd (HD.out.below hA (aa _));have bF:=Hd (HB.out.trans (hA.mono bo));have iy:=cH.out _ bF.out;clear du hA;clear d0 d1 d2 d3 d4 d5 d6 d7 d8 d9 cE cM;go_wp2_with (at_builtin;refine od rfl (.tmp 33) (.tmp 34) rfl (w.heap.size+1) rfl HD2.out rfl HA.out.len _ HA.out.in HA.out.nil (by omega) iy ?_)
      intro a2 n2 c2 wd az hg dW;go_wp2_with fail
      go_meet
      exact⟨a2,n2,c2,rfl,by omega,az,bF.out.grown hg iy (λ k hk=>(HD2.out.lt k hk).1)⟩
  case rest =>
  clear bo HD HB oy;clear d0 d1 d2 d3 d4 d5 d6 d7 d8 d9 cE cM;obtain⟨a0,n0,c0,rfl,oy,hD,hB⟩:=hcut;have HD:=Hd hD;have HB:=Hd hB;have bo:=cH.out _ hB;obtain⟨d0,d1,d2,d3,d4,d5,d6,d7,d8,d9,cE,cM⟩:=bD.out _ hB;clear hD hB;have hA:=(aj wc.heap.size wc).alloc (aa _) (.cells #[.int .i64 cm,.int .i64 rn] 3);have HI:Hid (gS (wc.alloc (.cells #[.int .i64 cm,.int .i64 rn] 3)) (wc.alloc (.cells #[.int .i64 cm,.int .i64 rn] 3)).heap.size (some ⟨wc.heap.size,0,none⟩) [cm,rn]):=Hd ((zE wc [cm,rn] _ rfl).mono cK (by simp));have HD:=Hd (HD.out.below hA (aa _));have HB:=Hd (HB.out.trans (hA.mono bo));have bp:=cH.out _ HB.out;clear hA bo;go_wp2_with fail
  generalize wc.alloc (.cells #[.int .i64 cm,.int .i64 rn] 3)=we at HI HD HB bp ⊢;refine(EQ _ 2 2 [cm,rn] _ we we.heap.size rfl rfl HI.out (aa _) (by decide)).mono ?_;rintro e wb ⟨a1,n1,c1,rfl,mv,hb⟩;have pu:=mv.len;rw[show ([cm,rn].flatMap (au 8)).length=16 by simp[cV]]at pu;subst pu;have et:=Hd (mv.le bp);have HD:=Hd (HD.out.below hb (aa _));have HB:=Hd (HB.out.trans (hb.mono bp));have iy:=cH.out _ HB.out;clear mv hb HI bp;clear d0 d1 d2 d3 d4 d5 d6 d7 d8 d9 cE cM;go_wp2_with (at_builtin;refine od rfl (.tmp 36) (.tmp 42) rfl (w.heap.size+1) rfl HD.out rfl et.out.len _ et.out.in et.out.nil (by omega) iy ?_)
  intro a2 n2 c2 wd az hg dW;have aP:uU (w.heap.size+1) w1 ((([kd,fr,tt]++[tm,ix,ws].flatMap (au 8))++[sX])++[cm,rn].flatMap (au 8)) 44 (.slice a2 n2 c2) wd:=⟨a2,n2,c2,rfl,by omega,az,HB.out.grown hg iy (λ k hk=>(HD.out.lt k hk).1)⟩;clear az hg HD HB et iy dW oy;have hn16:n<=16:=by have:=Ja.out.2.2.2.2.2.2.2.2.1;simpa[HN.out]using this
  have hm7:m<=7:=by have:=Ja.out.2.2.2.2.2.2.2.2.2.2;simpa[HM.out]using this
  obtain⟨a0,n0,c0,fO,oy,hD,hB⟩:=aP;cases fO
  have HD:=Hd hD;have HB:=Hd hB;have bo:=cH.out _ hB;obtain⟨d0,d1,d2,d3,d4,d5,d6,d7,d8,d9,cE,cM⟩:=bD.out _ hB;clear hD hB;go_wp2_with fail
  refine(IE n _ _ rfl (by omega)).mono ?_;rintro e wb ⟨a1,n1,c1,rfl,mv,hb⟩;have pu:=mv.len;rw[cV]at pu;subst pu;have et:=Hd (mv.le bo);have HD:=Hd (HD.out.below hb (aa _));have HB:=Hd (HB.out.trans (hb.mono bo));have iy:=cH.out _ HB.out;clear mv hb bo;clear d0 d1 d2 d3 d4 d5 d6 d7 d8 d9 cE cM;go_wp2_with (at_builtin;refine od rfl (.tmp 44) (.tmp 48) rfl (w.heap.size+1) rfl HD.out rfl et.out.len _ et.out.in et.out.nil (by omega) iy ?_)
  intro a2 n2 c2 wd az hg dW;have aP:uU (w.heap.size+1) w1 (((([kd,fr,tt]++[tm,ix,ws].flatMap (au 8))++[sX])++[cm,rn].flatMap (au 8))++au 4 (n:Int)) 48 (.slice a2 n2 c2) wd:=⟨a2,n2,c2,rfl,by omega,az,HB.out.grown hg iy (λ k hk=>(HD.out.lt k hk).1)⟩;clear az hg HD HB et iy dW oy;have aN:=Hd aP;clear aP;go_wp2_with fail
  go_loopw [4,5] (λ v i wr=>∃k:Nat,k<=n/\i=.int .i64 k/\uU (w.heap.size+1) w1 ((((([kd,fr,tt]++[tm,ix,ws].flatMap (au 8))++[sX])++[cm,rn].flatMap (au 8))++au 4 (n:Int))++(es.take k).flatMap (λ e=>df e.plain)) (48+k*500000000) v wr) (λ _ i _=>n-(intOf i).toNat)
  exact⟨0,by omega,rfl,by rw[List.take_zero,List.flatMap_nil,List.append_nil];exact aN.out⟩
  clear aN;obtain⟨k,hk,rfl,aP⟩:=hrel;by_cases ae:k<n
  · have i1:(k:Int)<n:=by omega
    obtain⟨a0,n0,c0,fO,oy,hD,hB⟩:=aP;subst fO;have HD:=Hd hD;have HB:=Hd hB;have bo:=cH.out _ hB;have d9:=(bD.out _ hB).2.2.2.2.2.2.2.2.2.1;have aQ:es[k]?=some (es[k]'(by rw[HN.out];exact ae)):=bu _;have bJ:es.take (k+1)=es.take k++[es[k]'(by rw[HN.out];exact ae)]:=iJ _;have ma:=HF.out.es _ (mC (l:=es) (n:=k) (by rw[HN.out];exact ae));have hBW:=qM.out _ hB;obtain⟨b,off,bm,hb,hc,eC⟩:=(HX.out.below iI hBW (aa _)).at aQ;generalize es[k]'(by rw[HN.out];exact ae)=x at hc aQ ma eC bJ;have ve:=mi _ _ _ _ eC hBW.size;obtain⟨x0,x1,x2,x3,ck,text,ao,xs,ac,num,vo,us,dG⟩:=x;obtain⟨L,hL⟩:∃L,df ⟨x0,x1,x2,x3,ck,text,xs,num,us⟩=L:=⟨_,rfl⟩
    have Iw:L.length<=500000000:=by
      rw[<-hL,Gv];have h1:=ma.text;have h2:=ma.size;have h3:=ma.vn;dsimp only at h1 h2 h3 ⊢;omega
    have P5:(es.take (k+1)).flatMap (λ e=>df e.plain)=(es.take k).flatMap (λ e=>df e.plain)++L:=by
      rw[bJ,List.flatMap_append,List.flatMap_singleton,<-hL];rfl
    have aY:wr.rangeAt b (off+k*9) (bW ⟨x0,x1,x2,x3,ck,text,ao,xs,ac,num,vo,us,dG⟩):=λ j v hv=>by
      have hj:j<9:=by have:=(List.getElem?_eq_some_iff.1 hv).1;rw[mh]at this;exact this
      rw[<-hv];exact hc j hj
    have HL:=Hd hL;have qU:=Hd P5;have mz:=Hd ve;have hf1:=ma.vH;have hf2:=ma.text;have hf3:=ma.args;have uV:=ma.vn;have jw:=Hd hf1;dsimp only at hf2 hf3 uV;rw[bm]at d9;clear hc aQ bJ ma eC ve bm hL P5 hf1 hD hB hBW;go_wp2_with (refine wpList_load_mid rfl 46 (.tmp 61) rfl b (off+k*9) rfl (bW ⟨x0,x1,x2,x3,ck,text,ao,xs,ac,num,vo,us,dG⟩) _ aY uT rfl (by rw[mh];exact Af) ?_)
    refine(Zg x0 x1 x2 x3 ck text ao xs.length ac num xs vo us.length dG us L wr HL.out rfl rfl mz.out.1 mz.out.2 (λ v hv=>aF (jw.out v hv) (by decide)) (by omega) (by omega) (by omega) (by omega)).mono ?_;rintro e wb ⟨a1,n1,c1,rfl,mv,hb⟩;have pu:=mv.len;have et:=Hd (mv.le bo);have HD:=Hd (HD.out.below hb (aa _));have HB:=Hd (HB.out.trans (hb.mono bo));have iy:=cH.out _ HB.out;have hn1:n1<=500000000:=by omega
    clear mv hb bo pu d9 aY;go_wp2_with (at_builtin;refine od rfl (.tmp 57) (.tmp 63) rfl (w.heap.size+1) rfl HD.out rfl et.out.len _ et.out.in et.out.nil (by omega) iy ?_)
    intro a2 n2 c2 wd az hg dW;have aP:uU (w.heap.size+1) w1 ((((([kd,fr,tt]++[tm,ix,ws].flatMap (au 8))++[sX])++[cm,rn].flatMap (au 8))++au 4 (n:Int))++(es.take (k+1)).flatMap (λ e=>df e.plain)) (48+(k+1)*500000000) (.slice a2 n2 c2) wd:=⟨a2,n2,c2,rfl,by omega,by rw[qU.out];simpa[List.append_assoc]using az,HB.out.grown hg iy (λ k hk=>(HD.out.lt k hk).1)⟩;have aN:=Hd aP;clear az hg dW aP HD HB et iy;go_wp2_with fail
    go_roundw
    exact⟨k+1,by omega,by go_num,aN.out⟩
    simp[intOf]<;>omega
  obtain rfl:k=n:=by omega
  have i1:¬(k:Int)<k:=by omega
  rw[fE (by rw[HN.out];exact aa _)]at aP;have i2:¬(k:Int)<k:=by omega
  obtain⟨a0,n0,c0,fO,oy,hD,hB⟩:=aP;subst fO;have HD:=Hd hD;have HB:=Hd hB;have bo:=cH.out _ hB;obtain⟨d0,d1,d2,d3,d4,d5,d6,d7,d8,d9,cE,cM⟩:=bD.out _ hB;clear hD hB;go_wp2_with fail
  refine(IE m _ _ rfl (by omega)).mono ?_;rintro e wb ⟨a1,n1,c1,rfl,mv,hb⟩;have pu:=mv.len;rw[cV]at pu;subst pu;have et:=Hd (mv.le bo);have HD:=Hd (HD.out.below hb (aa _));have HB:=Hd (HB.out.trans (hb.mono bo));have iy:=cH.out _ HB.out;clear mv hb bo;clear d0 d1 d2 d3 d4 d5 d6 d7 d8 d9 cE cM;go_wp2_with (at_builtin;refine od rfl (.tmp 65) (.tmp 69) rfl (w.heap.size+1) rfl HD.out rfl et.out.len _ et.out.in et.out.nil (by omega) iy ?_)
  intro a2 n2 c2 wd az hg dW;have aP:uU (w.heap.size+1) w1 (((((([kd,fr,tt]++[tm,ix,ws].flatMap (au 8))++[sX])++[cm,rn].flatMap (au 8))++au 4 (k:Int))++es.flatMap (λ e=>df e.plain))++au 4 (m:Int)) 8000000052 (.slice a2 n2 c2) wd:=⟨a2,n2,c2,rfl,by omega,az,HB.out.grown hg iy (λ k hk=>(HD.out.lt k hk).1)⟩;have aN:=Hd aP;clear az hg HD HB et iy dW oy aP;go_wp2_with fail
  go_loopw [4,6] (λ v i wr=>∃j:Nat,j<=m/\i=.int .i64 j/\uU (w.heap.size+1) w1 ((((((([kd,fr,tt]++[tm,ix,ws].flatMap (au 8))++[sX])++[cm,rn].flatMap (au 8))++au 4 (k:Int))++es.flatMap (λ e=>df e.plain))++au 4 (m:Int))++vs.take j) (8000000052+j) v wr) (λ _ i _=>m-(intOf i).toNat)
  exact⟨0,by omega,rfl,by rw[List.take_zero,List.append_nil];exact aN.out⟩
  clear aN;obtain⟨j,hj,rfl,aP⟩:=hrel;by_cases ae:j<m
  · have i1:(j:Int)<m:=by omega
    obtain⟨a0,n0,c0,fO,oy,hD,hB⟩:=aP;subst fO;have bo:=cH.out _ hB;have cE:=(bD.out _ hB).2.2.2.2.2.2.2.2.2.2.1;have aQ:vs[j]?=some (vs[j]'(by rw[HM.out];exact ae)):=bu _;have bJ:vs.take (j+1)=vs.take j++[vs[j]'(by rw[HM.out];exact ae)]:=iJ _;have CY:=Ja.out.2.2.2.2.2.2.2.2.2.1 _ (mC (l:=vs) (n:=j) (by rw[HM.out];exact ae));have hBW:=qM.out _ hB;obtain⟨b,off,bm,hb,hc,_⟩:=(oq.out.below cn hBW (aa _)).at aQ;generalize vs[j]'(by rw[HM.out];exact ae)=x at hc aQ CY bJ
    have cx:wr.cell? ⟨b,off+j,none⟩=some (.int .i64 x):=by
      have:=hc 0 (by decide);rw[Nat.mul_one,Nat.add_zero]at this;exact this
    have hxw:IntKind.u8.wrap x=x:=IntWalk.u8_in _ (by omega);have hA:=(aj wr.heap.size wr).alloc (aa _) (.cells #[.int .u8 x] 5);have HA:=Hd (show BOwn (wr.alloc (.cells #[.int .u8 x] 5)) (w.heap.size+1) (some ⟨wr.heap.size,0,none⟩) 1 1 [x]from BOwn.le (BOwn.lit wr [x] (by simp)) bo);have HD:=Hd (hD.below hA (aa _));have HB:=Hd (hB.trans (hA.mono bo));have iy:=cH.out _ HB.out;have qU:=Hd bJ;rw[bm]at cE;clear hc aQ bJ bm hA hBW hD hB;go_wp2_with (at_builtin;refine od rfl (.tmp 78) (.tmp 85) rfl (w.heap.size+1) rfl HD.out rfl HA.out.len _ HA.out.in HA.out.nil (by omega) iy ?_)
    intro a2 n2 c2 wd az hg dW;have aP:uU (w.heap.size+1) w1 ((((((([kd,fr,tt]++[tm,ix,ws].flatMap (au 8))++[sX])++[cm,rn].flatMap (au 8))++au 4 (k:Int))++es.flatMap (λ e=>df e.plain))++au 4 (m:Int))++vs.take (j+1)) (8000000052+(j+1)) (.slice a2 n2 c2) wd:=⟨a2,n2,c2,rfl,by omega,by rw[qU.out];simpa[List.append_assoc]using az,HB.out.grown hg iy (λ k hk=>(HD.out.lt k hk).1)⟩;have aN:=Hd aP;clear az hg dW aP HD HB HA iy cE cx hxw;go_wp2_with fail
    go_roundw
    exact⟨j+1,by omega,by go_num,aN.out⟩
    simp[intOf]<;>omega
  obtain rfl:j=m:=by omega
  have i3:¬(j:Int)<j:=by omega
  rw[fE (by rw[HM.out];exact aa _)]at aP;obtain⟨a0,n0,c0,fO,oy,hD,hB⟩:=aP;subst fO;have HD:=Hd hD;have HB:=Hd hB;have bo:=cH.out _ hB;obtain⟨d0,d1,d2,d3,d4,d5,d6,d7,d8,d9,cE,cM⟩:=bD.out _ hB;clear hD hB;go_wp2_with fail
  refine(IE q _ _ rfl (by omega)).mono ?_;rintro e wb ⟨a1,n1,c1,rfl,mv,hb⟩;have pu:=mv.len;rw[cV]at pu;subst pu;have et:=Hd (mv.le bo);have HD:=Hd (HD.out.below hb (aa _));have HB:=Hd (HB.out.trans (hb.mono bo));have iy:=cH.out _ HB.out;clear mv hb bo;clear d0 d1 d2 d3 d4 d5 d6 d7 d8 d9 cE cM;go_wp2_with (at_builtin;refine od rfl (.tmp 87) (.tmp 91) rfl (w.heap.size+1) rfl HD.out rfl et.out.len _ et.out.in et.out.nil (by omega) iy ?_)
  intro a2 n2 c2 wd az hg dW;have afp:n2<=9000000000:=by omega
  have iw:=HB.out.grown hg iy (λ k hk=>(HD.out.lt k hk).1);have cM:=(bD.out _ iw).2.2.2.2.2.2.2.2.2.2.2
  have hfull:ee ⟨kd,fr,tt,tm,ix,ws,ob,cm,rn,es.map En.plain,vs,im⟩=(((((((([kd,fr,tt]++[tm,ix,ws].flatMap (au 8))++[sX])++[cm,rn].flatMap (au 8))++au 4 (k:Int))++es.flatMap (λ e=>df e.plain))++au 4 (j:Int))++vs)++au 4 (q:Int))++im:=by
    have h1:=zK.out;unfold ee;dsimp only;rw[h1,List.length_map,HN.out,HM.out,HQ.out,List.flatMap_map];simp[List.append_assoc]
  have iF:(ee ⟨kd,fr,tt,tm,ix,ws,ob,cm,rn,es.map En.plain,vs,im⟩).length=n2+q:=by
    have h1:=congrArg List.length hfull;have h2:=az.len;have h3:=HQ.out;generalize (ee ⟨kd,fr,tt,tm,ix,ws,ob,cm,rn,es.map En.plain,vs,im⟩).length=z at h1 ⊢;simp at h1 h2;omega
  have fC:=Hd iF;have HFU:=Hd hfull;have ig:=Hd az;have kA:=Hd iw;have hzd:=cH.out _ iw;clear az hg HD HB et iy oy dW iF hfull iw;by_cases nP:1048576<n2+q
  · have j1:decide ((1048576:Int)<(n2:Int)+q)=true:=decide_eq_true (by omega)
    have j2:(1048576:Int)<(n2:Int)+q:=by omega
    have ip:=HP.out;unfold eM at ip;rw[if_neg (by rw[bE.out];decide),if_pos (by rw[fC.out];exact nP)]at ip;simp only[Prod.mk.injEq]at ip;obtain⟨rfl,rfl⟩:=ip;go_wp2_with fail
    go_ret2
    exact⟨none,0,rfl,Or.inl rfl,λ _=>rfl,aa _,(λ ad h=>by cases h),qM.out _ kA.out⟩
  have j1:decide ((1048576:Int)<(n2:Int)+q)=false:=decide_eq_false (by omega);have j2:¬(1048576:Int)<(n2:Int)+q:=by omega
  have ip:=HP.out;unfold eM at ip;rw[if_neg (by rw[bE.out];decide),if_neg (by rw[fC.out];exact nP)]at ip;simp only[Prod.mk.injEq]at ip;obtain⟨kx,rfl⟩:=ip;have Jb:=Hd kx;clear kx;go_wp2_with (at_builtin;refine od rfl (.tmp 100) (.tmp 102) rfl (w.heap.size+1) rfl ig.out rfl HQ.out _ (rU.out.below (qM.out _ kA.out) (aa _)) HF.out.tE (by omega) hzd ?_)
  intro a5 n5 c5 we az hg tK;have uK:=kA.out.grown hg hzd (λ k hk=>(ig.out.lt k hk).1);have P6:bs.length=n5:=by rw[<-Jb.out,fC.out];omega
  have P7:BOwn we (w.heap.size+1) a5 n5 c5 bs:=by rw[<-Jb.out,HFU.out];simpa[List.append_assoc]using az
  have EV:=Hd P7;have HNB:=Hd P6;have rp:=Hd uK;clear az hg tK uK P6 P7 cM;go_wp2_with fail
  have hh:=HNB.out;subst hh;go_ret2
  exact⟨a5,c5,rfl,EV.out.in,EV.out.nil,mp EV.out.row,(λ ad h=>by subst h;have:=(EV.out.lt ad.block rfl).1;omega),qM.out _ rp.out⟩
theorem Jc (l:Lt)(w:World)(hx:fG w w.heap.size l)(hf:cy l)(bs:List Int)(er:Int)(hp:eM l.plain=(bs,er)) :
    Calls prog 10 #[fA l] w (Gx bs er w) :=
  aaQ l.kind l.fr l.tov l.term l.index l.was l.ok l.commit l.round l.eo l.es.length l.ey l.vo l.vs.length l.ce l.io l.im.length l.fi l.es l.vs l.im w rfl rfl rfl hx.1 hx.2.1 hx.2.2 hf hf.en hf.vn hf.ln bs er hp
def ot (bad:Bool) (l:List Int):Int×Bool×List Int :=
 if bad=true∨l.length<4 then(0,true,l)
 else if((l.drop 4).length:Int)<cC (l.take 4)then(0,true,l.drop 4)
 else(cC (l.take 4),false,l.drop 4)
theorem Jd {Z:ks}(M db:Nat)(bad:Bool)(left:List Int)(r:Int×Bool×List Int)(w:World)(hr:ot bad left=r)(h:Ref Z w M db bad left)(hw:BytesWf left) :
  Calls prog 54 #[.pointer (some ⟨db,0,none⟩)] w λ e w'=>e=.returned (.int .i64 r.1)/\Ref Z w' M db r.2.1 r.2.2/\Only db w w':=by
 subst hr;unfold ot;obtain⟨k,ao,m,cap,xs,hi,rfl⟩:=h;have hkm:=hi.at_;have iF:=hi.len;have fV:=hi.lim;have d0:w.cell? ⟨db,0,none⟩=some (.slice ao m cap):=ab hi.blk 0;have d1:w.cell? ⟨db,1,none⟩=some (.int .i64 k):=ab hi.blk 1;have d2:w.cell? ⟨db,2,none⟩=some (.bool bad):=ab hi.blk 2;have f1:w.frozen? ⟨db,1,none⟩=false:=aO hi.blk 1;have f2:w.frozen? ⟨db,2,none⟩=false:=aO hi.blk 2;have cG:(xs.drop k).length=m-k:=by rw[List.length_drop,iF]
 have HI:=Hd hi;have cY:=Hd cG;clear hi iF;cases bad with
 | true =>
  rw[if_pos (Or.inl rfl)];clear cG;go_enter func54,ntmps54
  go_wp2_with fail
  go_quiet (fail)
  go_wp2_with fail
  go_ret;have hD:=λ q=>HI.out.below (below_drewN (aj w.heap.size w) q) (aa _)
  exact⟨rfl,⟨k,ao,m,cap,xs,(hD _).mE true,rfl⟩,⟨by simp,λ b _ hn=>heap_setCell_other _ _ _ _ hn,rfl,rfl,rfl⟩⟩
 | false =>
 by_cases h4:m-k<4
 ·
  rw[if_pos (Or.inr (by rw[cG];exact h4))];have i1:(m:Int)-k<4:=by omega
  clear cG;go_enter func54,ntmps54
  go_wp2_with fail
  go_quiet (fail)
  go_wp2_with fail
  go_ret;have hD:=λ q=>HI.out.below (below_drewN (aj w.heap.size w) q) (aa _)
  exact⟨rfl,⟨k,ao,m,cap,xs,(hD _).mE true,rfl⟩,⟨by simp,λ b _ hn=>heap_setCell_other _ _ _ _ hn,rfl,rfl,rfl⟩⟩
 rw[if_neg (by rw[cG];simp;omega)]
 obtain⟨x0,x1,x2,x3,l2,hxs⟩:∃x0 x1 x2 x3 l2,xs.drop k=x0 :: x1 :: x2 :: x3 :: l2:=by
  match hx:xs.drop k with
  | x0 :: x1 :: x2 :: x3 :: l2=>exact⟨x0,x1,x2,x3,l2,rfl⟩
  | []=>rw[hx]at cG;simp at cG;omega
  | [_]=>rw[hx]at cG;simp at cG;omega
  | [_,_]=>rw[hx]at cG;simp at cG;omega
  | [_,_,_]=>rw[hx]at cG;simp at cG;omega
 have kR:xs.drop (k+4)=l2:=by rw[<-List.drop_drop,hxs];rfl
 rw[hxs]at hw cG ⊢;simp only[List.take_succ_cons,List.take_zero,List.drop_succ_cons,List.drop_zero];have w0:=hw x0 (by simp);have w1':=hw x1 (by simp);have w2':=hw x2 (by simp);have w3':=hw x3 (by simp);have BP:=M0 w0 w1' w2' w3';obtain⟨V,hV⟩:∃V,x0*16777216+x1*65536+x2*256+x3=V:=⟨_,rfl⟩;rw[hV]at BP;rw[M1,hV];have hv0:0<=V/\V<=4294967295:=by omega
 have Je:l2.length=m-k-4:=by simp at cG;omega
 rw[Je];have gq:=HI.out.off.in
 have hxk:∀i,i<4->xs.getD (k+i) 0=(x0 :: x1 :: x2 :: x3 :: l2).getD i 0:=λ i hi=>by
  rw[<-hxs];simp[List.getD,List.getElem?_drop]
 obtain⟨b,off,rfl,hbM,iS⟩:=gq.resolve_left (λ h=>by rw[h]at hxs;simp at hxs);have hlx:=HI.out.len;have hkc:k<cap:=by have:=HI.out.room;omega
 have k0:w.cell? ⟨b,off+k,none⟩=some (.int .u8 x0):=(iS k (by omega)).trans (by have:=hxk 0 (by decide);rw[Nat.add_zero]at this;rw[this];rfl);have k1:w.cell? ⟨b,off+k+1,none⟩=some (.int .u8 x1):=(iS (k+1) (by omega)).trans (by rw[hxk 1 (by decide)];rfl);have k2:w.cell? ⟨b,off+k+2,none⟩=some (.int .u8 x2):=(iS (k+2) (by omega)).trans (by rw[hxk 2 (by decide)];rfl);have k3:w.cell? ⟨b,off+k+3,none⟩=some (.int .u8 x3):=(iS (k+3) (by omega)).trans (by rw[hxk 3 (by decide)];rfl);obtain⟨mm,dK⟩:∃mm,m-k=mm:=⟨_,rfl⟩
 have fO:∀w',(Instr.sliceAt 25 (.slice (some ⟨b,off,none⟩) m cap) (some (.int .i64 (k:Int))) none none).run prog w'=.ok (.slice (some ⟨b,off+k,none⟩) mm (cap-k)) w':=λ w'=>by
  have h1:=zm vp sizeByte (some ⟨b,off,none⟩) m cap k hkm .i64 (k:Int) rfl w';rw[dK]at h1;unfold gf at h1;by_cases dm:k=0
  ·
   subst dm;simpa[Addr.add,show ¬cap=0 by omega]using h1
  simpa[Addr.add,show ¬cap=k by omega,dm]using h1
 have afr:4<=mm:=by omega
 have i1:¬(m:Int)-k<4:=by omega
 have i2:decide ((m:Int)-k<4)=false:=decide_eq_false i1;have i4:IntKind.i64.wrap ((k:Int)+4)=(k:Int)+4:=jU _ (by omega);have HD2:=Hd kR;have HML:=Hd Je;have hdb:=HI.out.lt;have P8:=Hd dK;clear hw cG hxs iS hxk gq hV kR Je dK hlx;by_cases nP:((m-k-4:Nat):Int)<V
 ·
  rw[if_pos nP];go_enter func54,ntmps54
  go_wp2_with fail
  go_quiet (fail)
  generalize nq=q1;go_wp2_with fail
  go_quiet (fail)
  generalize nq=q2;clear fO;go_wp2_with fail
  go_quiet (fail)
  generalize nq=q3;clear BP k0 k1 k2 k3 w0 w1' w2' w3';go_upto_region 7 with fail
  have pk:mM Z ((w.drewN (q1+q2+q3)).setCell ⟨db,1,none⟩ (.int .i64 ((k:Int)+4))) M db false (k+4) (some ⟨b,off,none⟩) m cap xs :=
   (HI.out.below (below_drewN (aj w.heap.size w) (q1+q2+q3)) (aa _)).setAt (k+4) (by omega)
  have gn:Only db w ((w.drewN (q1+q2+q3)).setCell ⟨db,1,none⟩ (.int .i64 ((k:Int)+4))):=⟨by simp,λ b _ hn=>heap_setCell_other _ _ _ _ hn,rfl,rfl,rfl⟩;generalize (w.drewN (q1+q2+q3)).setCell ⟨db,1,none⟩ (.int .i64 ((k:Int)+4))=w5 at pk gn ⊢;clear d0 d1 d2 f1 f2;have d0:w5.cell? ⟨db,0,none⟩=some (.slice (some ⟨b,off,none⟩) m cap):=ab pk.blk 0;have d1:w5.cell? ⟨db,1,none⟩=some (.int .i64 ((k+4:Nat):Int)):=ab pk.blk 1;have d2:w5.cell? ⟨db,2,none⟩=some (.bool false):=ab pk.blk 2;have f2:w5.frozen? ⟨db,2,none⟩=false:=aO pk.blk 2;obtain⟨k4,fY⟩:∃k4,k+4=k4:=⟨_,rfl⟩;rw[fY]at d1 pk;have Jf:=Hd pk;have ri:=Hd gn;have aaT:k4<=m:=by omega
  have nO:xs.drop k4=l2:=by rw[<-fY];exact HD2.out
  have Jg:=Hd nO;have j1:(m:Int)-k4<V:=by omega
  have j2:decide ((m:Int)-k4<V)=true:=decide_eq_true j1;clear pk gn fY nO i1 i2 i4 h4 P8 nP;go_wp2_with fail
  go_quiet (fail)
  generalize nq=q4;go_wp2_with fail
  go_ret;exact⟨rfl,⟨k4,some ⟨b,off,none⟩,m,cap,xs,(Jf.out.below (below_drewN (aj w5.heap.size w5) q4) (aa _)).mE true,Jg.out.symm⟩,ri.out.trans ⟨by simp,λ b _ hn=>heap_setCell_other _ _ _ _ hn,rfl,rfl,rfl⟩⟩
 rw[if_neg nP];go_enter func54,ntmps54
 go_wp2_with fail
 go_quiet (fail)
 generalize nq=q1;go_wp2_with fail
 go_quiet (fail)
 generalize nq=q2;clear fO;go_wp2_with fail
 go_quiet (fail)
 generalize nq=q3;clear BP k0 k1 k2 k3 w0 w1' w2' w3';go_upto_region 7 with fail
 have pk:mM Z ((w.drewN (q1+q2+q3)).setCell ⟨db,1,none⟩ (.int .i64 ((k:Int)+4))) M db false (k+4) (some ⟨b,off,none⟩) m cap xs :=
  (HI.out.below (below_drewN (aj w.heap.size w) (q1+q2+q3)) (aa _)).setAt (k+4) (by omega)
 have gn:Only db w ((w.drewN (q1+q2+q3)).setCell ⟨db,1,none⟩ (.int .i64 ((k:Int)+4))):=⟨by simp,λ b _ hn=>heap_setCell_other _ _ _ _ hn,rfl,rfl,rfl⟩;generalize (w.drewN (q1+q2+q3)).setCell ⟨db,1,none⟩ (.int .i64 ((k:Int)+4))=w5 at pk gn ⊢;clear d0 d1 d2 f1 f2;have d0:w5.cell? ⟨db,0,none⟩=some (.slice (some ⟨b,off,none⟩) m cap):=ab pk.blk 0;have d1:w5.cell? ⟨db,1,none⟩=some (.int .i64 ((k+4:Nat):Int)):=ab pk.blk 1;have d2:w5.cell? ⟨db,2,none⟩=some (.bool false):=ab pk.blk 2;have f2:w5.frozen? ⟨db,2,none⟩=false:=aO pk.blk 2;obtain⟨k4,fY⟩:∃k4,k+4=k4:=⟨_,rfl⟩;rw[fY]at d1 pk;have Jf:=Hd pk;have ri:=Hd gn;have aaT:k4<=m:=by omega
 have nO:xs.drop k4=l2:=by rw[<-fY];exact HD2.out
 have Jg:=Hd nO;have j1:¬(m:Int)-k4<V:=by omega
 have j2:decide ((m:Int)-k4<V)=false:=decide_eq_false j1;clear pk gn fY nO i1 i2 i4 h4 P8 nP;go_wp2_with fail
 go_quiet (fail)
 generalize nq=q4;go_wp2_with fail
 go_ret;exact⟨rfl,⟨k4,some ⟨b,off,none⟩,m,cap,xs,Jf.out.below (below_drewN (aj w5.heap.size w5) q4) (aa _),Jg.out.symm⟩,ri.out.trans (Only.of_below (below_drewN (aj w5.heap.size w5) q4))⟩
end Go.Proofs.YtepdklfkegkojaaGreatDoor
