/- Parts of one proof. Conditions: as each says. -/
import Derived.Test.YtepdklfkegkojaaGreatDoorGLetterNumbers0
import Derived.Test.YtepdklfkegkojaaGreatDoorGLetterNumbers8
import Derived.Deep.DeepCutAuto
set_option linter.all false
set_option maxHeartbeats 16000000
set_option maxRecDepth 100000
namespace Go.Proofs.YtepdklfkegkojaaGreatDoor
open Go.Proofs.Tryz
open Go.RowKit
def Gx (bs:List Int) (er:Int) (w:World) (e:Ending) (w':World):Prop :=
 ∃a c,e=.returned (.tuple #[.slice a bs.length c,.int .i64 er])/\BytesIn w' w'.heap.size a bs/\(a=none->c=0)/\bs.length<=c/\(∀ad,a=some ad->w.heap.size<=ad.block)/\Below w.heap.size w w'
def XS (bs:List Int) (er:Int) (w:World) (e:Ending) (w':World):Prop :=
 ∃a c,e=.returned (.tuple #[.slice a bs.length c,.int .i64 er])/\BytesIn w' w'.heap.size a bs/\(a=none->c=0)/\bs.length<=c/\(∀ad,a=some ad->w.heap.size<=ad.block)/\oJ w' w.heap.size a bs.length c bs/\(a=none∨0<bs.length)/\Below w.heap.size w w'
theorem oJ.le {w:World}{B B2 n c:Nat}{a:Option Addr}{xs:List Int}(h:oJ w B a n c xs)(hB:B2<=B):oJ w B2 a n c xs:=by
 rcases h with h|⟨g,h1,h2,h3⟩
 · exact Or.inl h
 exact Or.inr ⟨g,h1,aF hB h2,h3⟩
theorem XT (l:cQ):0<(ee l).length:=by
 rw[DX];simp only[List.length_append,F4];omega
theorem D9 (l:Lt)(w:World)(hx:fG w w.heap.size l)(hf:cy l)(bs:List Int)(er:Int)(hp:eM l.plain=(bs,er)) :
  Calls prog 5 #[fA l] w (XS bs er w):=by
 have Ea:=Hd (λ h=>hf.bytes h);have HP:=Hd hp;have HX:=Hd hx;have jC:=Hd hf;clear hx hf hp;obtain⟨PR,BL⟩:=kp (fx l.plain);have xB:=Hd BL;clear BL;have ux:=Hd (λ w' (h:fG w' w'.heap.size l)=>BH l w' h jC.out PR.1 xB.out);obtain⟨kd,f,t,tm,ix,ws,ok,cm,rd,eo,es,ec,vo,vs,vc,io,ib,ic⟩:=l;obtain⟨OK,BG⟩:=kp ok;subst BG;obtain⟨en,kz⟩:∃en,es.length=en:=⟨_,rfl⟩;obtain⟨vn,bR⟩:∃vn,vs.length=vn:=⟨_,rfl⟩;obtain⟨im,him⟩:∃im,ib.length=im:=⟨_,rfl⟩;have vf:fA ⟨kd,f,t,tm,ix,ws,OK.1,cm,rd,eo,es,ec,vo,vs,vc,io,ib,ic⟩=.agg #[.int .u8 kd,.int .i64 f,.int .i64 t,.int .i64 tm,.int .i64 ix,.int .i64 ws,.bool OK.1,.int .i64 cm,.int .i64 rd,.slice eo en ec,.slice vo vn vc,.slice io im ic]:=by rw[<-kz,<-bR,<-him];rfl
 rw[vf];have hrt:=ux.out;rw[vf]at hrt;have MO:=Hd hrt;have kq:=Hd kz;have gl:=Hd bR;have BI:=Hd him;have hF:=(aj w.heap.size w).alloc (aa _) (.cells #[.int .u8 kd,.int .i64 f,.int .i64 t,.int .i64 tm,.int .i64 ix,.int .i64 ws,.bool OK.1,.int .i64 cm,.int .i64 rd,.slice eo en ec,.slice vo vn vc,.slice io im ic] 32);have aQ:=heap_alloc_new w (.cells #[.int .u8 kd,.int .i64 f,.int .i64 t,.int .i64 tm,.int .i64 ix,.int .i64 ws,.bool OK.1,.int .i64 cm,.int .i64 rd,.slice eo en ec,.slice vo vn vc,.slice io im ic] 32);have dz:(w.alloc (.cells #[.int .u8 kd,.int .i64 f,.int .i64 t,.int .i64 tm,.int .i64 ix,.int .i64 ws,.bool OK.1,.int .i64 cm,.int .i64 rd,.slice eo en ec,.slice vo vn vc,.slice io im ic] 32)).heap.size=w.heap.size+1:=by simp
 have qa:=Hd hF;have fB:=Hd aQ;have iL:=Hd dz;clear kz bR him hF aQ dz vf hrt ux;go_enter func5,ntmps5
 go_wp2_with fail
 have hF:=qa.out;have aQ:=fB.out;have bo:w.heap.size+1<=(w.alloc (.cells #[.int .u8 kd,.int .i64 f,.int .i64 t,.int .i64 tm,.int .i64 ix,.int .i64 ws,.bool OK.1,.int .i64 cm,.int .i64 rd,.slice eo en ec,.slice vo vn vc,.slice io im ic] 32)).heap.size:=pJ iL.out.symm;clear qa fB iL;generalize w.alloc (.cells #[.int .u8 kd,.int .i64 f,.int .i64 t,.int .i64 tm,.int .i64 ix,.int .i64 ws,.bool OK.1,.int .i64 cm,.int .i64 rd,.slice eo en ec,.slice vo vn vc,.slice io im ic] 32)=w0 at hF aQ bo ⊢;have fu:=Hd (λ w' (h:Below (w.heap.size+1) w0 w') (i:Nat)=>(h.cell (p:=⟨w.heap.size,i,none⟩) (xu _)).trans (ab aQ i));refine(MO.out w0 (nZ (nj HX.out hF (aa _)) (by omega))).mono ?_;rintro e w1 ⟨rfl,ba⟩;have kf:=(aj (w.heap.size+1) w0).trans (ba.mono bo);have zF:=aF bo ba.size;clear ba aQ MO;cases hpr:PR.1 with
 | false =>
  have pU:=Hd (show bs=[]/\er=4 by
   have h1:=HP.out;have h2:=xB.out;rw[hpr]at h2;unfold eM at h1;rw[if_pos h2]at h1;simp only[Prod.mk.injEq]at h1;exact⟨h1.1.symm,h1.2.symm⟩)
  clear hpr;go_wp2_with fail
  go_ret2
  obtain⟨rfl,rfl⟩:=pU.out;exact⟨none,0,rfl,Or.inl rfl,λ _=>rfl,aa _,(λ _ h=>by cases h),oJ.nil,Or.inl rfl,hF.trans (kf.mono (fU _))⟩
 | true =>
 have HR:=Hd (show fx (Lt.plain ⟨kd,f,t,tm,ix,ws,OK.1,cm,rd,eo,es,ec,vo,vs,vc,io,ib,ic⟩)=true by rw[xB.out,hpr]);clear hpr xB;have c6:w1.cell? ⟨w.heap.size,6,none⟩=some (.bool OK.1):=fu.out _ kf 6;go_upto_if 15 with fail
 obtain⟨kb,lC⟩:∃kb:Int,(if OK.1=true then 1 else 0)=kb:=⟨_,rfl⟩;have sn:=Hd lC;clear lC;go_cut [0,4,15] (λ _ v _ wq=>v=.int .u8 kb/\w1=wq)
 case first =>
  cases ij:OK.1 with
  | true =>
   rw[ij]at sn;clear ij;go_wp2_with fail
   go_meet
   exact⟨by rw[<-sn.out];rfl,rfl⟩
  | false =>
   rw[ij]at sn;clear ij;go_wp2_with fail
   go_meet
   exact⟨by rw[<-sn.out];rfl,rfl⟩
 case rest =>
 obtain⟨rfl,rfl⟩:=hcut;have HD:=Hd (show ∀w',Below (w.heap.size+1) w0 w'->w'.cell? ⟨w.heap.size,0,none⟩=some (.int .u8 kd)/\w'.cell? ⟨w.heap.size,1,none⟩=some (.int .i64 f)/\w'.cell? ⟨w.heap.size,2,none⟩=some (.int .i64 t)/\w'.cell? ⟨w.heap.size,3,none⟩=some (.int .i64 tm)/\w'.cell? ⟨w.heap.size,4,none⟩=some (.int .i64 ix)/\w'.cell? ⟨w.heap.size,5,none⟩=some (.int .i64 ws)/\w'.cell? ⟨w.heap.size,6,none⟩=some (.bool OK.1)/\w'.cell? ⟨w.heap.size,7,none⟩=some (.int .i64 cm)/\w'.cell? ⟨w.heap.size,8,none⟩=some (.int .i64 rd)/\w'.cell? ⟨w.heap.size,9,none⟩=some (.slice eo en ec)/\w'.cell? ⟨w.heap.size,10,none⟩=some (.slice vo vn vc)/\w'.cell? ⟨w.heap.size,11,none⟩=some (.slice io im ic)from λ w' h=>⟨fu.out w' h 0,fu.out w' h 1,fu.out w' h 2,fu.out w' h 3,fu.out w' h 4,fu.out w' h 5,fu.out w' h 6,fu.out w' h 7,fu.out w' h 8,fu.out w' h 9,fu.out w' h 10,fu.out w' h 11⟩);have XU:=Hd kf;clear c6 fu kf;go_wp2_with fail
 refine nX (λ w'=>Below (w.heap.size+1) w0 w') (by kernel_rfl) (Below.drew XU.out) ?_;intro cu
 (first|(refine tkn 0 rfl ?_)|(refine aT (v:=?_) 0 rfl ?_ ?_;rotate_left;focus(intro wS ah;obtain⟨d0,d1,d2,d3,d4,d5,d6,d7,d8,d9,cE,cM⟩:=HD.out wS ah;go_simp;first|done|with_reducible rfl)))
 (try simp only[Act.put,ssa,aq,ar])
 (first|(refine tkn 1 rfl ?_)|(refine aT (v:=?_) 1 rfl ?_ ?_;rotate_left;focus(intro wS ah;obtain⟨d0,d1,d2,d3,d4,d5,d6,d7,d8,d9,cE,cM⟩:=HD.out wS ah;go_simp;first|done|with_reducible rfl)))
 (try simp only[Act.put,ssa,aq,ar])
 (first|(refine tkn 2 rfl ?_)|(refine aT (v:=?_) 2 rfl ?_ ?_;rotate_left;focus(intro wS ah;obtain⟨d0,d1,d2,d3,d4,d5,d6,d7,d8,d9,cE,cM⟩:=HD.out wS ah;go_simp;first|done|with_reducible rfl)))
 (try simp only[Act.put,ssa,aq,ar])
 (first|(refine tkn 3 rfl ?_)|(refine aT (v:=?_) 3 rfl ?_ ?_;rotate_left;focus(intro wS ah;obtain⟨d0,d1,d2,d3,d4,d5,d6,d7,d8,d9,cE,cM⟩:=HD.out wS ah;go_simp;first|done|with_reducible rfl)))
 (try simp only[Act.put,ssa,aq,ar])
 (first|(refine tkn 4 rfl ?_)|(refine aT (v:=?_) 4 rfl ?_ ?_;rotate_left;focus(intro wS ah;obtain⟨d0,d1,d2,d3,d4,d5,d6,d7,d8,d9,cE,cM⟩:=HD.out wS ah;go_simp;first|done|with_reducible rfl)))
 (try simp only[Act.put,ssa,aq,ar])
 (first|(refine tkn 5 rfl ?_)|(refine aT (v:=?_) 5 rfl ?_ ?_;rotate_left;focus(intro wS ah;obtain⟨d0,d1,d2,d3,d4,d5,d6,d7,d8,d9,cE,cM⟩:=HD.out wS ah;go_simp;first|done|with_reducible rfl)))
 (try simp only[Act.put,ssa,aq,ar])
 (first|(refine tkn 6 rfl ?_)|(refine aT (v:=?_) 6 rfl ?_ ?_;rotate_left;focus(intro wS ah;obtain⟨d0,d1,d2,d3,d4,d5,d6,d7,d8,d9,cE,cM⟩:=HD.out wS ah;go_simp;first|done|with_reducible rfl)))
 (try simp only[Act.put,ssa,aq,ar])
 (first|(refine tkn 7 rfl ?_)|(refine aT (v:=?_) 7 rfl ?_ ?_;rotate_left;focus(intro wS ah;obtain⟨d0,d1,d2,d3,d4,d5,d6,d7,d8,d9,cE,cM⟩:=HD.out wS ah;go_simp;first|done|with_reducible rfl)))
 (try simp only[Act.put,ssa,aq,ar])
 (first|(refine tkn 9 rfl ?_)|(refine aT (v:=?_) 9 rfl ?_ ?_;rotate_left;focus(intro wS ah;obtain⟨d0,d1,d2,d3,d4,d5,d6,d7,d8,d9,cE,cM⟩:=HD.out wS ah;go_simp;first|done|with_reducible rfl)))
 (try simp only[Act.put,ssa,aq,ar])
 (first|(refine tkn 10 rfl ?_)|(refine aT (v:=?_) 10 rfl ?_ ?_;rotate_left;focus(intro wS ah;obtain⟨d0,d1,d2,d3,d4,d5,d6,d7,d8,d9,cE,cM⟩:=HD.out wS ah;go_simp;first|done|with_reducible rfl)))
 (try simp only[Act.put,ssa,aq,ar])
 (first|(refine tkn 11 rfl ?_)|(refine aT (v:=?_) 11 rfl ?_ ?_;rotate_left;focus(intro wS ah;obtain⟨d0,d1,d2,d3,d4,d5,d6,d7,d8,d9,cE,cM⟩:=HD.out wS ah;go_simp;first|done|with_reducible rfl)))
 (try simp only[Act.put,ssa,aq,ar])
 (first|(refine tkn 12 rfl ?_)|(refine aT (v:=?_) 12 rfl ?_ ?_;rotate_left;focus(intro wS ah;obtain⟨d0,d1,d2,d3,d4,d5,d6,d7,d8,d9,cE,cM⟩:=HD.out wS ah;go_simp;first|done|with_reducible rfl)))
 (try simp only[Act.put,ssa,aq,ar])
 (first|(refine tkn 13 rfl ?_)|(refine aT (v:=?_) 13 rfl ?_ ?_;rotate_left;focus(intro wS ah;obtain⟨d0,d1,d2,d3,d4,d5,d6,d7,d8,d9,cE,cM⟩:=HD.out wS ah;go_simp;first|done|with_reducible rfl)))
 (try simp only[Act.put,ssa,aq,ar])
 (first|(refine tkn 14 rfl ?_)|(refine aT (v:=?_) 14 rfl ?_ ?_;rotate_left;focus(intro wS ah;obtain⟨d0,d1,d2,d3,d4,d5,d6,d7,d8,d9,cE,cM⟩:=HD.out wS ah;go_simp;first|done|with_reducible rfl)))
 (try simp only[Act.put,ssa,aq,ar])
 (first|(refine tkn 17 rfl ?_)|(refine aT (v:=?_) 17 rfl ?_ ?_;rotate_left;focus(intro wS ah;obtain⟨d0,d1,d2,d3,d4,d5,d6,d7,d8,d9,cE,cM⟩:=HD.out wS ah;go_simp;first|done|with_reducible rfl)))
 (try simp only[Act.put,ssa,aq,ar])
 (first|(refine tkn 19 rfl ?_)|(refine aT (v:=?_) 19 rfl ?_ ?_;rotate_left;focus(intro wS ah;obtain⟨d0,d1,d2,d3,d4,d5,d6,d7,d8,d9,cE,cM⟩:=HD.out wS ah;go_simp;first|done|with_reducible rfl)))
 (try simp only[Act.put,ssa,aq,ar])
 (first|(refine tkn 20 rfl ?_)|(refine aT (v:=?_) 20 rfl ?_ ?_;rotate_left;focus(intro wS ah;obtain⟨d0,d1,d2,d3,d4,d5,d6,d7,d8,d9,cE,cM⟩:=HD.out wS ah;go_simp;first|done|with_reducible rfl)))
 (try simp only[Act.put,ssa,aq,ar])
 (first|(refine tkn 21 rfl ?_)|(refine aT (v:=?_) 21 rfl ?_ ?_;rotate_left;focus(intro wS ah;obtain⟨d0,d1,d2,d3,d4,d5,d6,d7,d8,d9,cE,cM⟩:=HD.out wS ah;go_simp;first|done|with_reducible rfl)))
 (try simp only[Act.put,ssa,aq,ar])
 (first|(refine tkn 22 rfl ?_)|(refine aT (v:=?_) 22 rfl ?_ ?_;rotate_left;focus(intro wS ah;obtain⟨d0,d1,d2,d3,d4,d5,d6,d7,d8,d9,cE,cM⟩:=HD.out wS ah;go_simp;first|done|with_reducible rfl)))
 (try simp only[Act.put,ssa,aq,ar])
 (first|(refine tkn 25 rfl ?_)|(refine aT (v:=?_) 25 rfl ?_ ?_;rotate_left;focus(intro wS ah;obtain⟨d0,d1,d2,d3,d4,d5,d6,d7,d8,d9,cE,cM⟩:=HD.out wS ah;go_simp;first|done|with_reducible rfl)))
 (try simp only[Act.put,ssa,aq,ar])
 (first|(refine tkn 26 rfl ?_)|(refine aT (v:=?_) 26 rfl ?_ ?_;rotate_left;focus(intro wS ah;obtain⟨d0,d1,d2,d3,d4,d5,d6,d7,d8,d9,cE,cM⟩:=HD.out wS ah;go_simp;first|done|with_reducible rfl)))
 (try simp only[Act.put,ssa,aq,ar])
 (first|(refine tkn 27 rfl ?_)|(refine aT (v:=?_) 27 rfl ?_ ?_;rotate_left;focus(intro wS ah;obtain⟨d0,d1,d2,d3,d4,d5,d6,d7,d8,d9,cE,cM⟩:=HD.out wS ah;go_simp;first|done|with_reducible rfl)))
 (try simp only[Act.put,ssa,aq,ar])
 obtain⟨pp,ip⟩:∃pp:Pf,pp=⟨w.heap.size,u0,u11,u12,u13,u14,u15,u45,u46,kb,kd,f,t,tm,ix,ws,cm,rd,eo,en,ec,[undef,undef,undef,u50,u51,u52,u53,u54,u55,u56,u57,u58,u59,u60,u61,u62,u63,u64,u65,u66,undef,undef,undef,u70,u71,u72,u73,u74,u75,u76,u77,u78,u79,u80,u81,u82,u83,u84,u85,u86,u87,u88,u89,u90,u91,u92,u93,u94]⟩:=⟨_,rfl⟩
 have aP:MJ pp w0 7 (D6 0 false false false false) (kr pp u24 u31 u32 u34 u39 u40 u44) w1.drew :=
  ⟨0,false,false,false,false,u24,u31,u32,u34,u39,u40,u44,rfl,rfl,by omega,rfl,⟨by rw[ip];exact cu,by rw[ip];simpa using zF,λ h=>absurd h (by omega),λ h=>absurd h (by omega),λ h=>(by cases h),λ h=>(by cases h),λ h=>(by cases h),λ h=>(by cases h),λ h=>absurd h (by omega),λ h=>absurd h (by omega),λ h=>absurd h (by omega)⟩⟩
 have BM:pp.en<=2000000000:=by have h:=jC.out.en;rw[ip];dsimp only at h ⊢;rw[<-kq.out];omega
 refine XJ (MJ pp w0) 2 7 (D6 0 false false false false) (kr pp u24 u31 u32 u34 u39 u40 u44) (by kernel_rfl) (by rw[ip];rfl) aP ?_ ?_ ?_
 ·
  rintro n listed a w' ⟨c,y8,jD,gy,y23,v24,v31,v32,v34,v39,v40,v44,rfl,rfl,hc,hn,h⟩;clear aP cu;obtain rfl|rfl|rfl|rfl:c=0∨c=1∨c=2∨c=3:=by omega
  ·
   cases y8<;>cases jD<;>cases gy<;>cases y23
   ·
    refine⟨[8,15,18,23],by kernel_rfl,by simp,λ i hi=>?_⟩;simp only[List.mem_cons,List.not_mem_nil,or_false]at hi;rcases hi with rfl|rfl|rfl|rfl
    · exact⟨_,rfl,rfl,λ K' hK=>pK h (λ x w' h'=>hK _ _ ⟨0,true,false,false,false,x,v31,v32,v34,v39,v40,v44,by kernel_rfl,rfl,by omega,cR (m:=1) hn,h'⟩)⟩
    · exact⟨_,rfl,rfl,λ K' hK=>vN h (λ x w' h'=>hK _ _ ⟨0,false,true,false,false,v24,x,v32,v34,v39,v40,v44,by kernel_rfl,rfl,by omega,cR (m:=1) hn,h'⟩)⟩
    · exact⟨_,rfl,rfl,λ K' hK=>pL h (λ x w' h'=>hK _ _ ⟨0,false,false,true,false,v24,v31,v32,x,v39,v40,v44,by kernel_rfl,rfl,by omega,cR (m:=1) hn,h'⟩)⟩
    exact⟨_,rfl,rfl,λ K' hK=>rO h (λ x w' h'=>hK _ _ ⟨0,false,false,false,true,v24,v31,v32,v34,x,v40,v44,by kernel_rfl,rfl,by omega,cR (m:=1) hn,h'⟩)⟩
   ·
    refine⟨[8,15,18],by kernel_rfl,by simp,λ i hi=>?_⟩;simp only[List.mem_cons,List.not_mem_nil,or_false]at hi;rcases hi with rfl|rfl|rfl
    · exact⟨_,rfl,rfl,λ K' hK=>pK h (λ x w' h'=>hK _ _ ⟨0,true,false,false,true,x,v31,v32,v34,v39,v40,v44,by kernel_rfl,rfl,by omega,cR (m:=1) hn,h'⟩)⟩
    · exact⟨_,rfl,rfl,λ K' hK=>vN h (λ x w' h'=>hK _ _ ⟨0,false,true,false,true,v24,x,v32,v34,v39,v40,v44,by kernel_rfl,rfl,by omega,cR (m:=1) hn,h'⟩)⟩
    exact⟨_,rfl,rfl,λ K' hK=>pL h (λ x w' h'=>hK _ _ ⟨0,false,false,true,true,v24,v31,v32,x,v39,v40,v44,by kernel_rfl,rfl,by omega,cR (m:=1) hn,h'⟩)⟩
   ·
    refine⟨[8,15,23],by kernel_rfl,by simp,λ i hi=>?_⟩;simp only[List.mem_cons,List.not_mem_nil,or_false]at hi;rcases hi with rfl|rfl|rfl
    · exact⟨_,rfl,rfl,λ K' hK=>pK h (λ x w' h'=>hK _ _ ⟨0,true,false,true,false,x,v31,v32,v34,v39,v40,v44,by kernel_rfl,rfl,by omega,cR (m:=1) hn,h'⟩)⟩
    · exact⟨_,rfl,rfl,λ K' hK=>vN h (λ x w' h'=>hK _ _ ⟨0,false,true,true,false,v24,x,v32,v34,v39,v40,v44,by kernel_rfl,rfl,by omega,cR (m:=1) hn,h'⟩)⟩
    exact⟨_,rfl,rfl,λ K' hK=>rO h (λ x w' h'=>hK _ _ ⟨0,false,false,true,true,v24,v31,v32,v34,x,v40,v44,by kernel_rfl,rfl,by omega,cR (m:=1) hn,h'⟩)⟩
   ·
    refine⟨[8,15],by kernel_rfl,by simp,λ i hi=>?_⟩;simp only[List.mem_cons,List.not_mem_nil,or_false]at hi;rcases hi with rfl|rfl
    · exact⟨_,rfl,rfl,λ K' hK=>pK h (λ x w' h'=>hK _ _ ⟨0,true,false,true,true,x,v31,v32,v34,v39,v40,v44,by kernel_rfl,rfl,by omega,cR (m:=1) hn,h'⟩)⟩
    exact⟨_,rfl,rfl,λ K' hK=>vN h (λ x w' h'=>hK _ _ ⟨0,false,true,true,true,v24,x,v32,v34,v39,v40,v44,by kernel_rfl,rfl,by omega,cR (m:=1) hn,h'⟩)⟩
   ·
    refine⟨[8,16,18,23],by kernel_rfl,by simp,λ i hi=>?_⟩;simp only[List.mem_cons,List.not_mem_nil,or_false]at hi;rcases hi with rfl|rfl|rfl|rfl
    · exact⟨_,rfl,rfl,λ K' hK=>pK h (λ x w' h'=>hK _ _ ⟨0,true,true,false,false,x,v31,v32,v34,v39,v40,v44,by kernel_rfl,rfl,by omega,cR (m:=1) hn,h'⟩)⟩
    · exact⟨_,rfl,rfl,λ K' hK=>vO h (λ x w' h'=>hK _ _ ⟨1,false,true,false,false,v24,v31,x,v34,v39,v40,v44,by kernel_rfl,rfl,by omega,cR (m:=1) hn,h'⟩)⟩
    · exact⟨_,rfl,rfl,λ K' hK=>pL h (λ x w' h'=>hK _ _ ⟨0,false,true,true,false,v24,v31,v32,x,v39,v40,v44,by kernel_rfl,rfl,by omega,cR (m:=1) hn,h'⟩)⟩
    exact⟨_,rfl,rfl,λ K' hK=>rO h (λ x w' h'=>hK _ _ ⟨0,false,true,false,true,v24,v31,v32,v34,x,v40,v44,by kernel_rfl,rfl,by omega,cR (m:=1) hn,h'⟩)⟩
   ·
    refine⟨[8,16,18],by kernel_rfl,by simp,λ i hi=>?_⟩;simp only[List.mem_cons,List.not_mem_nil,or_false]at hi;rcases hi with rfl|rfl|rfl
    · exact⟨_,rfl,rfl,λ K' hK=>pK h (λ x w' h'=>hK _ _ ⟨0,true,true,false,true,x,v31,v32,v34,v39,v40,v44,by kernel_rfl,rfl,by omega,cR (m:=1) hn,h'⟩)⟩
    · exact⟨_,rfl,rfl,λ K' hK=>vO h (λ x w' h'=>hK _ _ ⟨1,false,true,false,true,v24,v31,x,v34,v39,v40,v44,by kernel_rfl,rfl,by omega,cR (m:=1) hn,h'⟩)⟩
    exact⟨_,rfl,rfl,λ K' hK=>pL h (λ x w' h'=>hK _ _ ⟨0,false,true,true,true,v24,v31,v32,x,v39,v40,v44,by kernel_rfl,rfl,by omega,cR (m:=1) hn,h'⟩)⟩
   ·
    refine⟨[8,16,23],by kernel_rfl,by simp,λ i hi=>?_⟩;simp only[List.mem_cons,List.not_mem_nil,or_false]at hi;rcases hi with rfl|rfl|rfl
    · exact⟨_,rfl,rfl,λ K' hK=>pK h (λ x w' h'=>hK _ _ ⟨0,true,true,true,false,x,v31,v32,v34,v39,v40,v44,by kernel_rfl,rfl,by omega,cR (m:=1) hn,h'⟩)⟩
    · exact⟨_,rfl,rfl,λ K' hK=>vO h (λ x w' h'=>hK _ _ ⟨1,false,true,true,false,v24,v31,x,v34,v39,v40,v44,by kernel_rfl,rfl,by omega,cR (m:=1) hn,h'⟩)⟩
    exact⟨_,rfl,rfl,λ K' hK=>rO h (λ x w' h'=>hK _ _ ⟨0,false,true,true,true,v24,v31,v32,v34,x,v40,v44,by kernel_rfl,rfl,by omega,cR (m:=1) hn,h'⟩)⟩
   ·
    refine⟨[8,16],by kernel_rfl,by simp,λ i hi=>?_⟩;simp only[List.mem_cons,List.not_mem_nil,or_false]at hi;rcases hi with rfl|rfl
    · exact⟨_,rfl,rfl,λ K' hK=>pK h (λ x w' h'=>hK _ _ ⟨0,true,true,true,true,x,v31,v32,v34,v39,v40,v44,by kernel_rfl,rfl,by omega,cR (m:=1) hn,h'⟩)⟩
    exact⟨_,rfl,rfl,λ K' hK=>vO h (λ x w' h'=>hK _ _ ⟨1,false,true,true,true,v24,v31,x,v34,v39,v40,v44,by kernel_rfl,rfl,by omega,cR (m:=1) hn,h'⟩)⟩
   ·
    refine⟨[15,18,23],by kernel_rfl,by simp,λ i hi=>?_⟩;simp only[List.mem_cons,List.not_mem_nil,or_false]at hi;rcases hi with rfl|rfl|rfl
    · exact⟨_,rfl,rfl,λ K' hK=>vN h (λ x w' h'=>hK _ _ ⟨0,true,true,false,false,v24,x,v32,v34,v39,v40,v44,by kernel_rfl,rfl,by omega,cR (m:=1) hn,h'⟩)⟩
    · exact⟨_,rfl,rfl,λ K' hK=>pL h (λ x w' h'=>hK _ _ ⟨0,true,false,true,false,v24,v31,v32,x,v39,v40,v44,by kernel_rfl,rfl,by omega,cR (m:=1) hn,h'⟩)⟩
    exact⟨_,rfl,rfl,λ K' hK=>rO h (λ x w' h'=>hK _ _ ⟨0,true,false,false,true,v24,v31,v32,v34,x,v40,v44,by kernel_rfl,rfl,by omega,cR (m:=1) hn,h'⟩)⟩
   ·
    refine⟨[15,18],by kernel_rfl,by simp,λ i hi=>?_⟩;simp only[List.mem_cons,List.not_mem_nil,or_false]at hi;rcases hi with rfl|rfl
    · exact⟨_,rfl,rfl,λ K' hK=>vN h (λ x w' h'=>hK _ _ ⟨0,true,true,false,true,v24,x,v32,v34,v39,v40,v44,by kernel_rfl,rfl,by omega,cR (m:=1) hn,h'⟩)⟩
    exact⟨_,rfl,rfl,λ K' hK=>pL h (λ x w' h'=>hK _ _ ⟨0,true,false,true,true,v24,v31,v32,x,v39,v40,v44,by kernel_rfl,rfl,by omega,cR (m:=1) hn,h'⟩)⟩
   ·
    refine⟨[15,23],by kernel_rfl,by simp,λ i hi=>?_⟩;simp only[List.mem_cons,List.not_mem_nil,or_false]at hi;rcases hi with rfl|rfl
    · exact⟨_,rfl,rfl,λ K' hK=>vN h (λ x w' h'=>hK _ _ ⟨0,true,true,true,false,v24,x,v32,v34,v39,v40,v44,by kernel_rfl,rfl,by omega,cR (m:=1) hn,h'⟩)⟩
    exact⟨_,rfl,rfl,λ K' hK=>rO h (λ x w' h'=>hK _ _ ⟨0,true,false,true,true,v24,v31,v32,v34,x,v40,v44,by kernel_rfl,rfl,by omega,cR (m:=1) hn,h'⟩)⟩
   ·
    refine⟨[15],by kernel_rfl,by simp,λ i hi=>?_⟩;simp only[List.mem_cons,List.not_mem_nil,or_false]at hi;subst hi;exact⟨_,rfl,rfl,λ K' hK=>vN h (λ x w' h'=>hK _ _ ⟨0,true,true,true,true,v24,x,v32,v34,v39,v40,v44,by kernel_rfl,rfl,by omega,cR (m:=1) hn,h'⟩)⟩
   ·
    refine⟨[16,18,23],by kernel_rfl,by simp,λ i hi=>?_⟩;simp only[List.mem_cons,List.not_mem_nil,or_false]at hi;rcases hi with rfl|rfl|rfl
    · exact⟨_,rfl,rfl,λ K' hK=>vO h (λ x w' h'=>hK _ _ ⟨1,true,true,false,false,v24,v31,x,v34,v39,v40,v44,by kernel_rfl,rfl,by omega,cR (m:=1) hn,h'⟩)⟩
    · exact⟨_,rfl,rfl,λ K' hK=>pL h (λ x w' h'=>hK _ _ ⟨0,true,true,true,false,v24,v31,v32,x,v39,v40,v44,by kernel_rfl,rfl,by omega,cR (m:=1) hn,h'⟩)⟩
    exact⟨_,rfl,rfl,λ K' hK=>rO h (λ x w' h'=>hK _ _ ⟨0,true,true,false,true,v24,v31,v32,v34,x,v40,v44,by kernel_rfl,rfl,by omega,cR (m:=1) hn,h'⟩)⟩
   ·
    refine⟨[16,18],by kernel_rfl,by simp,λ i hi=>?_⟩;simp only[List.mem_cons,List.not_mem_nil,or_false]at hi;rcases hi with rfl|rfl
    · exact⟨_,rfl,rfl,λ K' hK=>vO h (λ x w' h'=>hK _ _ ⟨1,true,true,false,true,v24,v31,x,v34,v39,v40,v44,by kernel_rfl,rfl,by omega,cR (m:=1) hn,h'⟩)⟩
    exact⟨_,rfl,rfl,λ K' hK=>pL h (λ x w' h'=>hK _ _ ⟨0,true,true,true,true,v24,v31,v32,x,v39,v40,v44,by kernel_rfl,rfl,by omega,cR (m:=1) hn,h'⟩)⟩
   ·
    refine⟨[16,23],by kernel_rfl,by simp,λ i hi=>?_⟩;simp only[List.mem_cons,List.not_mem_nil,or_false]at hi;rcases hi with rfl|rfl
    · exact⟨_,rfl,rfl,λ K' hK=>vO h (λ x w' h'=>hK _ _ ⟨1,true,true,true,false,v24,v31,x,v34,v39,v40,v44,by kernel_rfl,rfl,by omega,cR (m:=1) hn,h'⟩)⟩
    exact⟨_,rfl,rfl,λ K' hK=>rO h (λ x w' h'=>hK _ _ ⟨0,true,true,true,true,v24,v31,v32,v34,x,v40,v44,by kernel_rfl,rfl,by omega,cR (m:=1) hn,h'⟩)⟩
   refine⟨[16],by kernel_rfl,by simp,λ i hi=>?_⟩;simp only[List.mem_cons,List.not_mem_nil,or_false]at hi;subst hi;exact⟨_,rfl,rfl,λ K' hK=>vO h (λ x w' h'=>hK _ _ ⟨1,true,true,true,true,v24,v31,x,v34,v39,v40,v44,by kernel_rfl,rfl,by omega,cR (m:=1) hn,h'⟩)⟩
  ·
   cases y8<;>cases jD<;>cases gy<;>cases y23
   · exact absurd (h.jq (by omega)) (by simp)
   · exact absurd (h.jq (by omega)) (by simp)
   · exact absurd (h.jq (by omega)) (by simp)
   · exact absurd (h.jq (by omega)) (by simp)
   ·
    refine⟨[8,18,23],by kernel_rfl,by simp,λ i hi=>?_⟩;simp only[List.mem_cons,List.not_mem_nil,or_false]at hi;rcases hi with rfl|rfl|rfl
    · exact⟨_,rfl,rfl,λ K' hK=>pK h (λ x w' h'=>hK _ _ ⟨1,true,true,false,false,x,v31,v32,v34,v39,v40,v44,by kernel_rfl,rfl,by omega,cR (m:=1) hn,h'⟩)⟩
    · exact⟨_,rfl,rfl,λ K' hK=>pL h (λ x w' h'=>hK _ _ ⟨1,false,true,true,false,v24,v31,v32,x,v39,v40,v44,by kernel_rfl,rfl,by omega,cR (m:=1) hn,h'⟩)⟩
    exact⟨_,rfl,rfl,λ K' hK=>rO h (λ x w' h'=>hK _ _ ⟨1,false,true,false,true,v24,v31,v32,v34,x,v40,v44,by kernel_rfl,rfl,by omega,cR (m:=1) hn,h'⟩)⟩
   ·
    refine⟨[8,18,24],by kernel_rfl,by simp,λ i hi=>?_⟩;simp only[List.mem_cons,List.not_mem_nil,or_false]at hi;rcases hi with rfl|rfl|rfl
    · exact⟨_,rfl,rfl,λ K' hK=>pK h (λ x w' h'=>hK _ _ ⟨1,true,true,false,true,x,v31,v32,v34,v39,v40,v44,by kernel_rfl,rfl,by omega,cR (m:=1) hn,h'⟩)⟩
    · exact⟨_,rfl,rfl,λ K' hK=>pL h (λ x w' h'=>hK _ _ ⟨1,false,true,true,true,v24,v31,v32,x,v39,v40,v44,by kernel_rfl,rfl,by omega,cR (m:=1) hn,h'⟩)⟩
    exact⟨_,rfl,rfl,λ K' hK=>D7 h (λ x w' h'=>hK _ _ ⟨2,false,true,false,true,v24,v31,v32,v34,v39,x,v44,by kernel_rfl,rfl,by omega,cR (m:=1) hn,h'⟩)⟩
   ·
    refine⟨[8,23],by kernel_rfl,by simp,λ i hi=>?_⟩;simp only[List.mem_cons,List.not_mem_nil,or_false]at hi;rcases hi with rfl|rfl
    · exact⟨_,rfl,rfl,λ K' hK=>pK h (λ x w' h'=>hK _ _ ⟨1,true,true,true,false,x,v31,v32,v34,v39,v40,v44,by kernel_rfl,rfl,by omega,cR (m:=1) hn,h'⟩)⟩
    exact⟨_,rfl,rfl,λ K' hK=>rO h (λ x w' h'=>hK _ _ ⟨1,false,true,true,true,v24,v31,v32,v34,x,v40,v44,by kernel_rfl,rfl,by omega,cR (m:=1) hn,h'⟩)⟩
   ·
    refine⟨[8,24],by kernel_rfl,by simp,λ i hi=>?_⟩;simp only[List.mem_cons,List.not_mem_nil,or_false]at hi;rcases hi with rfl|rfl
    · exact⟨_,rfl,rfl,λ K' hK=>pK h (λ x w' h'=>hK _ _ ⟨1,true,true,true,true,x,v31,v32,v34,v39,v40,v44,by kernel_rfl,rfl,by omega,cR (m:=1) hn,h'⟩)⟩
    exact⟨_,rfl,rfl,λ K' hK=>D7 h (λ x w' h'=>hK _ _ ⟨2,false,true,true,true,v24,v31,v32,v34,v39,x,v44,by kernel_rfl,rfl,by omega,cR (m:=1) hn,h'⟩)⟩
   · exact absurd (h.jq (by omega)) (by simp)
   · exact absurd (h.jq (by omega)) (by simp)
   · exact absurd (h.jq (by omega)) (by simp)
   · exact absurd (h.jq (by omega)) (by simp)
   ·
    refine⟨[18,23],by kernel_rfl,by simp,λ i hi=>?_⟩;simp only[List.mem_cons,List.not_mem_nil,or_false]at hi;rcases hi with rfl|rfl
    · exact⟨_,rfl,rfl,λ K' hK=>pL h (λ x w' h'=>hK _ _ ⟨1,true,true,true,false,v24,v31,v32,x,v39,v40,v44,by kernel_rfl,rfl,by omega,cR (m:=1) hn,h'⟩)⟩
    exact⟨_,rfl,rfl,λ K' hK=>rO h (λ x w' h'=>hK _ _ ⟨1,true,true,false,true,v24,v31,v32,v34,x,v40,v44,by kernel_rfl,rfl,by omega,cR (m:=1) hn,h'⟩)⟩
   ·
    refine⟨[18,24],by kernel_rfl,by simp,λ i hi=>?_⟩;simp only[List.mem_cons,List.not_mem_nil,or_false]at hi;rcases hi with rfl|rfl
    · exact⟨_,rfl,rfl,λ K' hK=>pL h (λ x w' h'=>hK _ _ ⟨1,true,true,true,true,v24,v31,v32,x,v39,v40,v44,by kernel_rfl,rfl,by omega,cR (m:=1) hn,h'⟩)⟩
    exact⟨_,rfl,rfl,λ K' hK=>D7 h (λ x w' h'=>hK _ _ ⟨2,true,true,false,true,v24,v31,v32,v34,v39,x,v44,by kernel_rfl,rfl,by omega,cR (m:=1) hn,h'⟩)⟩
   ·
    refine⟨[23],by kernel_rfl,by simp,λ i hi=>?_⟩;simp only[List.mem_cons,List.not_mem_nil,or_false]at hi;subst hi;exact⟨_,rfl,rfl,λ K' hK=>rO h (λ x w' h'=>hK _ _ ⟨1,true,true,true,true,v24,v31,v32,v34,x,v40,v44,by kernel_rfl,rfl,by omega,cR (m:=1) hn,h'⟩)⟩
   refine⟨[24],by kernel_rfl,by simp,λ i hi=>?_⟩;simp only[List.mem_cons,List.not_mem_nil,or_false]at hi;subst hi;exact⟨_,rfl,rfl,λ K' hK=>D7 h (λ x w' h'=>hK _ _ ⟨2,true,true,true,true,v24,v31,v32,v34,v39,x,v44,by kernel_rfl,rfl,by omega,cR (m:=1) hn,h'⟩)⟩
  ·
   cases y8<;>cases jD<;>cases gy<;>cases y23
   · exact absurd (h.jq (by omega)) (by simp)
   · exact absurd (h.jq (by omega)) (by simp)
   · exact absurd (h.jq (by omega)) (by simp)
   · exact absurd (h.jq (by omega)) (by simp)
   · exact absurd (h.h23 (by omega)) (by simp)
   ·
    refine⟨[8,18,28],by kernel_rfl,by simp,λ i hi=>?_⟩;simp only[List.mem_cons,List.not_mem_nil,or_false]at hi;rcases hi with rfl|rfl|rfl
    · exact⟨_,rfl,rfl,λ K' hK=>pK h (λ x w' h'=>hK _ _ ⟨2,true,true,false,true,x,v31,v32,v34,v39,v40,v44,by kernel_rfl,rfl,by omega,cR (m:=1) hn,h'⟩)⟩
    · exact⟨_,rfl,rfl,λ K' hK=>pL h (λ x w' h'=>hK _ _ ⟨2,false,true,true,true,v24,v31,v32,x,v39,v40,v44,by kernel_rfl,rfl,by omega,cR (m:=1) hn,h'⟩)⟩
    exact⟨_,rfl,rfl,λ K' hK=>D8 BM h (λ x w' h'=>hK _ _ ⟨3,false,true,false,true,v24,v31,v32,v34,v39,v40,x,by kernel_rfl,rfl,by omega,cR (m:=1) hn,h'⟩)⟩
   · exact absurd (h.h23 (by omega)) (by simp)
   ·
    refine⟨[8,28],by kernel_rfl,by simp,λ i hi=>?_⟩;simp only[List.mem_cons,List.not_mem_nil,or_false]at hi;rcases hi with rfl|rfl
    · exact⟨_,rfl,rfl,λ K' hK=>pK h (λ x w' h'=>hK _ _ ⟨2,true,true,true,true,x,v31,v32,v34,v39,v40,v44,by kernel_rfl,rfl,by omega,cR (m:=1) hn,h'⟩)⟩
    exact⟨_,rfl,rfl,λ K' hK=>D8 BM h (λ x w' h'=>hK _ _ ⟨3,false,true,true,true,v24,v31,v32,v34,v39,v40,x,by kernel_rfl,rfl,by omega,cR (m:=1) hn,h'⟩)⟩
   · exact absurd (h.jq (by omega)) (by simp)
   · exact absurd (h.jq (by omega)) (by simp)
   · exact absurd (h.jq (by omega)) (by simp)
   · exact absurd (h.jq (by omega)) (by simp)
   · exact absurd (h.h23 (by omega)) (by simp)
   ·
    refine⟨[18,28],by kernel_rfl,by simp,λ i hi=>?_⟩;simp only[List.mem_cons,List.not_mem_nil,or_false]at hi;rcases hi with rfl|rfl
    · exact⟨_,rfl,rfl,λ K' hK=>pL h (λ x w' h'=>hK _ _ ⟨2,true,true,true,true,v24,v31,v32,x,v39,v40,v44,by kernel_rfl,rfl,by omega,cR (m:=1) hn,h'⟩)⟩
    exact⟨_,rfl,rfl,λ K' hK=>D8 BM h (λ x w' h'=>hK _ _ ⟨3,true,true,false,true,v24,v31,v32,v34,v39,v40,x,by kernel_rfl,rfl,by omega,cR (m:=1) hn,h'⟩)⟩
   · exact absurd (h.h23 (by omega)) (by simp)
   refine⟨[28],by kernel_rfl,by simp,λ i hi=>?_⟩;simp only[List.mem_cons,List.not_mem_nil,or_false]at hi;subst hi;exact⟨_,rfl,rfl,λ K' hK=>D8 BM h (λ x w' h'=>hK _ _ ⟨3,true,true,true,true,v24,v31,v32,v34,v39,v40,x,by kernel_rfl,rfl,by omega,cR (m:=1) hn,h'⟩)⟩
  cases y8<;>cases jD<;>cases gy<;>cases y23
  · exact absurd (h.jq (by omega)) (by simp)
  · exact absurd (h.jq (by omega)) (by simp)
  · exact absurd (h.jq (by omega)) (by simp)
  · exact absurd (h.jq (by omega)) (by simp)
  · exact absurd (h.h23 (by omega)) (by simp)
  ·
   refine⟨[8,18],by kernel_rfl,by simp,λ i hi=>?_⟩;simp only[List.mem_cons,List.not_mem_nil,or_false]at hi;rcases hi with rfl|rfl
   · exact⟨_,rfl,rfl,λ K' hK=>pK h (λ x w' h'=>hK _ _ ⟨3,true,true,false,true,x,v31,v32,v34,v39,v40,v44,by kernel_rfl,rfl,by omega,cR (m:=1) hn,h'⟩)⟩
   exact⟨_,rfl,rfl,λ K' hK=>pL h (λ x w' h'=>hK _ _ ⟨3,false,true,true,true,v24,v31,v32,x,v39,v40,v44,by kernel_rfl,rfl,by omega,cR (m:=1) hn,h'⟩)⟩
  · exact absurd (h.h23 (by omega)) (by simp)
  ·
   refine⟨[8],by kernel_rfl,by simp,λ i hi=>?_⟩;simp only[List.mem_cons,List.not_mem_nil,or_false]at hi;subst hi;exact⟨_,rfl,rfl,λ K' hK=>pK h (λ x w' h'=>hK _ _ ⟨3,true,true,true,true,x,v31,v32,v34,v39,v40,v44,by kernel_rfl,rfl,by omega,cR (m:=1) hn,h'⟩)⟩
  · exact absurd (h.jq (by omega)) (by simp)
  · exact absurd (h.jq (by omega)) (by simp)
  · exact absurd (h.jq (by omega)) (by simp)
  · exact absurd (h.jq (by omega)) (by simp)
  · exact absurd (h.h23 (by omega)) (by simp)
  ·
   refine⟨[18],by kernel_rfl,by simp,λ i hi=>?_⟩;simp only[List.mem_cons,List.not_mem_nil,or_false]at hi;subst hi;exact⟨_,rfl,rfl,λ K' hK=>pL h (λ x w' h'=>hK _ _ ⟨3,true,true,true,true,v24,v31,v32,x,v39,v40,v44,by kernel_rfl,rfl,by omega,cR (m:=1) hn,h'⟩)⟩
  · exact absurd (h.h23 (by omega)) (by simp)
  exact absurd hn (by show ¬(n+1=0);omega)
 ·
  rintro n listed a w' ⟨c,y8,jD,gy,y23,v24,v31,v32,v34,v39,v40,v44,_,_,_,_,h⟩;have hb:=h.below;rw[ip]at hb;exact hb
 rintro listed a w2 ⟨c,y8,jD,gy,y23,v24,v31,v32,v34,v39,v40,v44,rfl,rfl,hc,hn,h⟩;clear aP cu BM;obtain⟨rfl,rfl,rfl,rfl,rfl⟩:=XK hc hn;subst ip;have hp1:=h.a8 rfl;have hp3:=h.vM rfl;have hp2:=h.c1 (by omega);have Gy:=h.c2 (by omega);have uy:=h.c3 (by omega);have XV:Below (w.heap.size+1) w0 w2:=h.below;have fM:w.heap.size+1<=w2.heap.size:=h.size;dsimp only at hp1 hp2 hp3 Gy uy;clear h hc hn;unfold D6 kr;obtain⟨n1,n2,n3,n4,n5,n6,n7,n8,n9,n10,n11⟩:=zx HR.out;dsimp only[Lt.plain]at n1 n2 n3 n4 n5 n6 n7 n8 n9 n10 n11;rw[Gw (show 0<=f/\f<256 by omega),Gw (show 0<=t/\t<256 by omega)]at hp1;obtain⟨a1,k1,rfl,hi1,ho1⟩:=BK 3 hp1 (by have hk:=jC.out.kind;dsimp only at hk;intro x hx;simp only[List.mem_cons,List.not_mem_nil,or_false]at hx;rcases hx with rfl|rfl|rfl<;>omega) rfl;obtain⟨a2,k2,rfl,hi2,ho2⟩:=BK 24 hp2 (BytesWf.flat λ _ _=>lH 8 _) rfl;obtain⟨a3,k3,rfl,hi3,iT⟩:=BK 1 hp3 (by intro x hx;simp only[List.mem_cons,List.not_mem_nil,or_false]at hx;subst hx;rw[<-sn.out];split<;>omega) rfl;obtain⟨a4,k4,rfl,hi4,jB⟩:=BK 16 Gy (BytesWf.flat λ _ _=>lH 8 _) rfl;obtain⟨a5,k5,rfl,hi5,gn⟩:=BK 4 uy (lH 4 _) rfl
 have du:=XM (w:=w2) (cs:=#[.slice a1 3 k1,.slice a2 24 k2,.slice a3 1 k3,.slice a4 16 k4,.slice a5 4 k5]) (ps:=[⟨a1,k1,[kd,f,t]⟩,⟨a2,k2,[tm,ix,ws].flatMap (au 8)⟩,⟨a3,k3,[kb]⟩,⟨a4,k4,[cm,rd].flatMap (au 8)⟩,⟨a5,k5,au 4 (en:Int)⟩]) rfl (by
  intro q hq;simp only[List.mem_cons,List.not_mem_nil,or_false]at hq;rcases hq with rfl|rfl|rfl|rfl|rfl
  · exact⟨hi1,ho1⟩
  · exact⟨hi2,ho2⟩
  · exact⟨hi3,iT⟩
  · exact⟨hi4,jB⟩
  exact⟨hi5,gn⟩) (by simp)
 have hhead:([⟨a1,k1,[kd,f,t]⟩,⟨a2,k2,[tm,ix,ws].flatMap (au 8)⟩,⟨a3,k3,[kb]⟩,⟨a4,k4,[cm,rd].flatMap (au 8)⟩,⟨a5,k5,au 4 (en:Int)⟩]:List Pt).flatMap Pt.data=kF (Lt.plain ⟨kd,f,t,tm,ix,ws,OK.1,cm,rd,eo,es,ec,vo,vs,vc,io,ib,ic⟩)++au 4 (en:Int):=by
  rw[XL _ kb sn.out];simp[Lt.plain]
 obtain⟨ps,hps⟩:∃ps:List Pt,[⟨a1,k1,[kd,f,t]⟩,⟨a2,k2,[tm,ix,ws].flatMap (au 8)⟩,⟨a3,k3,[kb]⟩,⟨a4,k4,[cm,rd].flatMap (au 8)⟩,⟨a5,k5,au 4 (en:Int)⟩]=ps:=⟨_,rfl⟩;have du:Parts (w2.alloc (.cells #[.slice a1 3 k1,.slice a2 24 k2,.slice a3 1 k3,.slice a4 16 k4,.slice a5 4 k5] 25)) w2.heap.size (some ⟨w2.heap.size,0,none⟩) 5 5 ps:=hps▸du;rw[hps]at hhead;have mu:=Hd du;have Gz:=Hd hhead;have xC:Below (w.heap.size+1) w0 (w2.alloc (.cells #[.slice a1 3 k1,.slice a2 24 k2,.slice a3 1 k3,.slice a4 16 k4,.slice a5 4 k5] 25)):=XV.alloc fM _;have cA:w2.heap.size<=(w2.alloc (.cells #[.slice a1 3 k1,.slice a2 24 k2,.slice a3 1 k3,.slice a4 16 k4,.slice a5 4 k5] 25)).heap.size:=by simp
 clear hp1 hp2 hp3 Gy uy hi1 hi2 hi3 hi4 hi5 ho1 ho2 iT jB gn du hhead hps;refine dL 29 rfl (by kernel_rfl) (by rfl) (λ K hK=>?_);go_simp
 (have hP:=mu.out;obtain⟨pb,hpb⟩:∃pb,w2.heap.size=pb:=⟨_,rfl⟩;rw[hpb]at hP cA ⊢;have oP:w.heap.size+1<=pb:=hpb▸fM;clear mu;generalize w2.alloc (.cells #[.slice a1 3 k1,.slice a2 24 k2,.slice a3 1 k3,.slice a4 16 k4,.slice a5 4 k5] 25)=w3 at hP xC cA ⊢;have qZ:=Hd hP;clear hP)
 refine hK.out _ _ (by assumption) ?_;clear hK K
 (try simp only[Act.put,ssa,aq,ar])
 (first|(refine tkn 30 rfl ?_)|(refine aT (v:=?_) 30 rfl ?_ ?_;rotate_left;focus(intro wS ah;obtain⟨d0,d1,d2,d3,d4,d5,d6,d7,d8,d9,cE,cM⟩:=HD.out wS ah;go_simp;first|done|with_reducible rfl)))
 (try simp only[Act.put,ssa,aq,ar])
 refine wpAnyH_done (by kernel_rfl) ?_ _;have GA:en<=16:=by rw[<-kq.out];simpa using n9
 have aeD:vn<=7:=by rw[<-gl.out];exact n11
 obtain⟨lp,hlp⟩:∃lp,Lt.plain ⟨kd,f,t,tm,ix,ws,OK.1,cm,rd,eo,es,ec,vo,vs,vc,io,ib,ic⟩=lp:=⟨_,rfl⟩;rw[hlp]at Gz;have fC:=Hd hlp;clear hlp;have BN:=(HD.out w3 xC);obtain⟨_,_,_,_,_,_,_,_,_,d9,_,_⟩:=BN;go_wp2_with fail
 clear d9;go_loopw [5,49] (λ v i wr=>∃(k n:Nat) (a:Option Addr) (c:Nat) (qs:List Pt),k<=en/\5+k=n/\i=.int .i64 k/\v=.slice a n c/\Parts wr pb a n c qs/\qs.flatMap Pt.data=kF lp++(au 4 (en:Int)++((es.take k).map En.plain).flatMap df)/\Below (w.heap.size+1) w0 wr/\pb<=wr.heap.size) (λ _ i _=>en-(intOf i).toNat)
 exact⟨0,5,some ⟨pb,0,none⟩,5,ps,by omega,rfl,rfl,rfl,qZ.out,by rw[Gz.out];simp,xC,cA⟩
 clear qZ Gz xC cA;obtain⟨k,n,a,c,qs,hk,cX,rfl,rfl,hpa,hda,ag,hpz⟩:=hrel;have oO:=Hd hpa;have xD:=Hd hda;have bK:=Hd cX;clear hpa hda cX;by_cases ae:k<en
 ·
  have i1:(k:Int)<en:=by omega
  have aQ:es[k]?=some (es[k]'(by rw[kq.out];exact ae)):=bu _;have bJ:es.take (k+1)=es.take k++[es[k]'(by rw[kq.out];exact ae)]:=iJ _;have pV:(es[k]'(by rw[kq.out];exact ae))∈es:=mC _;obtain⟨b,off,bm,hb,hc,eC⟩:=HX.out.1.at aQ;generalize es[k]'(by rw[kq.out];exact ae)=x at hc aQ bJ pV eC;have ma:=jC.out.es x pV;have em:Below w.heap.size w wr:=hF.trans (ag.mono (fU _));obtain⟨dO,dP,ess,dQ,dR,dS,ef,jr,eg,enum,ei,evs,ej⟩:=x;have cc:=fun(i:Nat) (h:i<9)=>(em.cell (p:=⟨b,off+k*9+i,none⟩) hb).trans (hc i h)
  have c0:wr.cell? ⟨b,off+k*9,none⟩=some (.int .i64 dO):=cc 0 (by decide);have c1:wr.cell? ⟨b,off+k*9+1,none⟩=some (.int .u8 dP):=cc 1 (by decide);have c2:wr.cell? ⟨b,off+k*9+2,none⟩=some (.int .i64 ess):=cc 2 (by decide);have c3:wr.cell? ⟨b,off+k*9+3,none⟩=some (.int .i64 dQ):=cc 3 (by decide);have c4:wr.cell? ⟨b,off+k*9+4,none⟩=some (.int .u8 dR):=cc 4 (by decide);have c5:wr.cell? ⟨b,off+k*9+5,none⟩=some (.string dS):=cc 5 (by decide);have c6:wr.cell? ⟨b,off+k*9+6,none⟩=some (.slice ef jr.length eg):=cc 6 (by decide);have c7:wr.cell? ⟨b,off+k*9+7,none⟩=some (.int .i64 enum):=cc 7 (by decide);have c8:wr.cell? ⟨b,off+k*9+8,none⟩=some (.slice ei evs.length ej):=cc 8 (by decide);dsimp only at bm;subst bm;obtain⟨nn,oz⟩:∃nn,jr.length=nn:=⟨_,rfl⟩;obtain⟨mm,dK⟩:∃mm,evs.length=mm:=⟨_,rfl⟩;rw[oz]at c6;rw[dK]at c8;have bS:=(aj wr.heap.size wr).alloc (aa _) (.cells #[.int .i64 dO,.int .u8 dP,.int .i64 ess,.int .i64 dQ,.int .u8 dR,.string dS,.slice ef nn eg,.int .i64 enum,.slice ei mm ej] 46);have tF:=Hd bS;have sl:=Hd oz;have bd:=Hd dK;have jX:=Hd ma;have qx:=Hd eC;have qU:=Hd bJ;have vP:=Hd em;clear cc hc aQ pV eC ma bJ oz dK bS em;go_wp2_with fail
  clear c0 c1 c2 c3 c4 c5 c6 c7 c8;have bS:=tF.out;have hpa:=oO.out.below bS;have am:=ag.trans (bS.mono (aF oP hpz));have aU:=aF hpz bS.size;clear tF oO;generalize wr.alloc (.cells #[.int .i64 dO,.int .u8 dP,.int .i64 ess,.int .i64 dQ,.int .u8 dR,.string dS,.slice ef nn eg,.int .i64 enum,.slice ei mm ej] 46)=w4 at bS hpa am aU ⊢;have oO:=Hd hpa;clear hpa;obtain⟨EB,xE⟩:∃EB,df ⟨dO,dP,ess,dQ,dR,dS,jr,enum,evs⟩=EB:=⟨_,rfl⟩;have MQ:=Hd xE;have hca:=xE▸L6 dO dP ess dQ dR dS ef nn eg jr enum ei mm ej evs w4 sl.out bd.out (((qx.out.1.below cn vP.out (aa _)).below cn bS vP.out.size).mono cK (aF vP.out.size bS.size)) (((qx.out.2.below cn vP.out (aa _)).below cn bS vP.out.size).mono cK (aF vP.out.size bS.size)) (λ v hv=>by have:=jX.out.vH v hv;omega) (by have h:=jX.out.args;rw[<-sl.out];dsimp only at h;omega) (by have h:=jX.out.vn;rw[<-bd.out];dsimp only at h;omega) (by have h:=jX.out.size;have h2:=jX.out.text;dsimp only at h h2;omega);refine hca.mono ?_;clear hca xE;rintro e w5 ⟨a1,k1,rfl,ho1,ak⟩;have MR:BytesWf EB:=MQ.out▸Mn _ jX.out.wf.kind jX.out.wf.ck jX.out.wf.args;obtain⟨ho2,iT⟩:=Gt ho1 MR;have vQ:=Gu oO.out ho1 (aa _);have uy:=oO.out.below ak;have bg:=am.trans (ak.mono (aF oP aU));have p5:=aF aU ak.size;obtain⟨lb,pw⟩:∃lb,EB.length=lb:=⟨_,rfl⟩;rw[pw];have aS:=(aj w5.heap.size w5).alloc (aa _) (.cells #[.slice a1 lb k1] 25);have du:=heap_alloc_new w5 (.cells #[.slice a1 lb k1] 25);have vR:=uy.below aS;have jB:=(iT.below aS (aa _)).mono aS.size;have eV:=bg.trans (aS.mono (aF oP p5));have mI:=aF p5 aS.size
  have uz:=Hd (show ∀q∈[(⟨a1,k1,EB⟩:Pt)],BytesIn (w5.alloc (.cells #[.slice a1 lb k1] 25)) (w5.alloc (.cells #[.slice a1 lb k1] 25)).heap.size q.ao q.data/\(q.data≠[]->∀ad,q.ao=some ad->(Value.slice a n c).ownBlock≠some ad.block)/\qc q by
   intro q hq;rw[List.mem_singleton.1 hq];exact⟨jB,λ _=>vQ,ho2⟩)
  have hZ:=Hd vR;have mu:=Hd du;have Ea:=Hd pw;clear du vR jB ho2 iT vQ uy oO ho1 ak aS MR pw;have vS:n+1<=100000000:=by have:=bK.out;omega
  go_wp2_with (at_builtin;refine Gs rfl (.tmp 53) (.tmp 56) rfl pb rfl hZ.out w5.heap.size 1 #[.slice a1 lb k1] [⟨a1,k1,EB⟩] rfl mu.out (by rw[<-Ea.out];rfl) rfl uz.out vS mI ?_)
  intro a2 c2 w7 vU so;have fj:=eV.grown so (aF oP mI) (λ k hk=>aF oP (hZ.out.lt k hk).1);have rM:=aF mI so.size;have vV:=Hd vU
  have HD7:=Hd (show (qs++[(⟨a1,k1,EB⟩:Pt)]).flatMap Pt.data=kF lp++(au 4 (en:Int)++((es.take (k+1)).map En.plain).flatMap df) by
   rw[List.flatMap_append,xD.out,qU.out,List.map_append,List.flatMap_append];simp[<-MQ.out,En.plain])
  clear vU so;go_wp2_with fail
  go_roundw
  exact⟨k+1,n+1,a2,c2,qs++[⟨a1,k1,EB⟩],by omega,by have:=bK.out;omega,by go_num,rfl,vV.out,HD7.out,fj,rM⟩
  simp[intOf]<;>omega
 have i1:¬(k:Int)<en:=by omega
 obtain rfl:k=en:=by omega
 have BO:=Hd (show qs.flatMap Pt.data=kF lp++(au 4 (k:Int)++(es.map En.plain).flatMap df) by
  rw[xD.out,fE (by rw[kq.out];exact aa _)])
 have BN:=(HD.out wr ag);obtain⟨_,_,_,_,_,_,_,_,_,_,cE,_⟩:=BN;go_wp2_with fail
 refine(Gm vn _ wr rfl (by omega)).mono ?_;rintro e w5 ⟨a1,n1,k1,rfl,hB1,ak⟩;obtain rfl:n1=4:=by rw[<-hB1.len,cV]
 have ho1:=hB1.row;have hl4:(au 4 (vn:Int)).length=4:=cV 4 _;obtain⟨ho2,iT⟩:=Gt (L:=au 4 (vn:Int)) (by rw[hl4];exact ho1) (lH 4 _);have vQ:=Gu oO.out ho1 (aa _);have uy:=oO.out.below ak;have bg:=ag.trans (ak.mono (aF oP hpz));have p5:=aF hpz ak.size;have aS:=(aj w5.heap.size w5).alloc (aa _) (.cells #[.slice a1 4 k1] 25);have du:=heap_alloc_new w5 (.cells #[.slice a1 4 k1] 25);have vR:=uy.below aS;have jB:=(iT.below aS (aa _)).mono aS.size;have eV:=bg.trans (aS.mono (aF oP p5));have mI:=aF p5 aS.size
 have uz:=Hd (show ∀q∈[(⟨a1,k1,au 4 (vn:Int)⟩:Pt)],BytesIn (w5.alloc (.cells #[.slice a1 4 k1] 25)) (w5.alloc (.cells #[.slice a1 4 k1] 25)).heap.size q.ao q.data/\(q.data≠[]->∀ad,q.ao=some ad->(Value.slice a n c).ownBlock≠some ad.block)/\qc q by
  intro q hq;rw[List.mem_singleton.1 hq];exact⟨jB,λ _=>vQ,ho2⟩)
 have hZ:=Hd vR;have mu:=Hd du;clear du vR jB ho2 iT vQ uy oO ho1 ak aS hB1 hl4 cE;have vS:n+1<=100000000:=by have:=bK.out;omega
 go_wp2_with (at_builtin;refine Gs rfl (.tmp 59) (.tmp 64) rfl pb rfl hZ.out w5.heap.size 1 #[.slice a1 4 k1] [⟨a1,k1,au 4 (vn:Int)⟩] rfl mu.out rfl rfl uz.out vS mI ?_)
 intro a2 c2 w7 vU so;have fj:=eV.grown so (aF oP mI) (λ k hk=>aF oP (hZ.out.lt k hk).1);have rM:=aF mI so.size;obtain⟨n0,oy⟩:∃n0,n+1=n0:=⟨_,rfl⟩;have vV:=Hd vU
 have HD7:=Hd (show (qs++[(⟨a1,k1,au 4 (vn:Int)⟩:Pt)]).flatMap Pt.data=kF lp++(au 4 (k:Int)++((es.map En.plain).flatMap df++au 4 (vn:Int))) by
  rw[List.flatMap_append,BO.out];simp)
 have GB:=Hd (show n0<=30 by have:=bK.out;omega);rw[oy]at vV ⊢;obtain⟨rs,lD⟩:∃rs,qs++[(⟨a1,k1,au 4 (vn:Int)⟩:Pt)]=rs:=⟨_,rfl⟩;rw[lD]at vV HD7;have BN:=(HD.out w7 fj);obtain⟨_,_,_,_,_,_,_,_,_,_,cE,_⟩:=BN;clear vU so oy lD hZ uz mu BO xD bK eV mI bg p5 vS;go_wp2_with fail
 clear cE;go_loopw [5,69] (λ v i wr=>∃(j n:Nat) (a:Option Addr) (c:Nat) (qs:List Pt),j<=vn/\n0+j=n/\i=.int .i64 j/\v=.slice a n c/\Parts wr pb a n c qs/\qs.flatMap Pt.data=kF lp++(au 4 (k:Int)++((es.map En.plain).flatMap df++(au 4 (vn:Int)++vs.take j)))/\Below (w.heap.size+1) w0 wr/\pb<=wr.heap.size) (λ _ i _=>vn-(intOf i).toNat)
 exact⟨0,n0,a2,c2,rs,by omega,by omega,rfl,rfl,vV.out,by rw[HD7.out];simp,fj,rM⟩
 clear vV HD7 fj rM ag hpz;obtain⟨j,n,a,c,qs,hj,cX,rfl,rfl,hpa,hda,ag,hpz⟩:=hrel;have oO:=Hd hpa;have xD:=Hd hda;have bK:=Hd cX;clear hpa hda cX;by_cases kP:j<vn
 ·
  have i2:(j:Int)<vn:=by omega
  have aQ:vs[j]?=some (vs[j]'(by rw[gl.out];exact kP)):=bu _;have bJ:vs.take (j+1)=vs.take j++[vs[j]'(by rw[gl.out];exact kP)]:=iJ _;have pV:(vs[j]'(by rw[gl.out];exact kP))∈vs:=mC _;obtain⟨b,off,bm,hb,hc,_⟩:=HX.out.2.1.at aQ;generalize vs[j]'(by rw[gl.out];exact kP)=x at hc aQ bJ pV;have hx9:=n10 x pV;have em:Below w.heap.size w wr:=hF.trans (ag.mono (fU _))
  have c0:wr.cell? ⟨b,off+j,none⟩=some (.int .i64 x):=by
   have:=hc 0 (by decide);rw[Nat.mul_one,Nat.add_zero]at this;exact(em.cell (p:=⟨b,_,none⟩) hb).trans this
  dsimp only at bm;subst bm;have hxw:=Gw (x:=x) (by omega);have bS:=(aj wr.heap.size wr).alloc (aa _) (.cells #[.int .u8 x] 5);have hnw:=(Lr wr 5 [x] #[.int .u8 x] (0,0) wr.heap.size (wr.heap.size+1) rfl rfl (by omega));have aS:=(aj (wr.alloc (.cells #[.int .u8 x] 5)).heap.size (wr.alloc (.cells #[.int .u8 x] 5))).alloc (aa _) (.cells #[.slice (some ⟨wr.heap.size,0,none⟩) 1 1] 25);have du:=heap_alloc_new (wr.alloc (.cells #[.int .u8 x] 5)) (.cells #[.slice (some ⟨wr.heap.size,0,none⟩) 1 1] 25);have pq:(wr.alloc (.cells #[.int .u8 x] 5)).heap.size=wr.heap.size+1:=by simp
  have jB:=(hnw.below aS (by rw[pq];exact aa _)).mono (show wr.heap.size+1<=((wr.alloc (.cells #[.int .u8 x] 5)).alloc (.cells #[.slice (some ⟨wr.heap.size,0,none⟩) 1 1] 25)).heap.size by simp);have vR:=(oO.out.below bS).below aS;have eV:=(ag.trans (bS.mono (aF oP hpz))).trans (aS.mono (by rw[pq];omega));have mI:pb<=((wr.alloc (.cells #[.int .u8 x] 5)).alloc (.cells #[.slice (some ⟨wr.heap.size,0,none⟩) 1 1] 25)).heap.size:=by simp;omega
  rw[pq]at du
  have uz:=Hd (show ∀q∈[(⟨some ⟨wr.heap.size,0,none⟩,1,[x]⟩:Pt)],BytesIn ((wr.alloc (.cells #[.int .u8 x] 5)).alloc (.cells #[.slice (some ⟨wr.heap.size,0,none⟩) 1 1] 25)) ((wr.alloc (.cells #[.int .u8 x] 5)).alloc (.cells #[.slice (some ⟨wr.heap.size,0,none⟩) 1 1] 25)).heap.size q.ao q.data/\(q.data≠[]->∀ad,q.ao=some ad->(Value.slice a n c).ownBlock≠some ad.block)/\qc q by
   intro q hq;rw[List.mem_singleton.1 hq];refine⟨jB,λ _ ad kM e=>?_,⟨by intro y hy;rw[List.mem_singleton.1 hy];omega,λ h=>(by cases h),aa _⟩⟩;have h1:=(oO.out.lt _ e).2;cases kM
   exact absurd h1 (by simp))
  have hZ:=Hd vR;have mu:=Hd du;have qU:=Hd bJ;clear du vR jB hnw oO aS bS hc aQ pV bJ pq em;have vS:n+1<=100000000:=by have:=bK.out;have:=GB.out;omega
  go_wp2_with (at_builtin;refine Gs rfl (.tmp 73) (.tmp 77) rfl pb rfl hZ.out (wr.heap.size+1) 1 #[.slice (some ⟨wr.heap.size,0,none⟩) 1 1] [⟨some ⟨wr.heap.size,0,none⟩,1,[x]⟩] rfl mu.out rfl rfl uz.out vS mI ?_)
  intro a2 c2 w7 vU so;have fj:=eV.grown so (aF oP mI) (λ k hk=>aF oP (hZ.out.lt k hk).1);have rM:=aF mI so.size;have vV:=Hd vU
  have HD7:=Hd (show (qs++[(⟨some ⟨wr.heap.size,0,none⟩,1,[x]⟩:Pt)]).flatMap Pt.data=kF lp++(au 4 (k:Int)++((es.map En.plain).flatMap df++(au 4 (vn:Int)++vs.take (j+1)))) by
   rw[List.flatMap_append,xD.out,qU.out];simp)
  clear vU so;go_wp2_with fail
  go_roundw
  exact⟨j+1,n+1,a2,c2,qs++[⟨some ⟨wr.heap.size,0,none⟩,1,[x]⟩],by omega,by have:=bK.out;omega,by go_num,rfl,vV.out,HD7.out,fj,rM⟩
  simp[intOf]<;>omega
 have i2:¬(j:Int)<vn:=by omega
 obtain rfl:j=vn:=by omega
 have BO:=Hd (show qs.flatMap Pt.data=kF lp++(au 4 (k:Int)++((es.map En.plain).flatMap df++(au 4 (j:Int)++vs))) by
  rw[xD.out,fE (by rw[gl.out];exact aa _)])
 go_wp2_with fail
 have aeF:=hpz;have vS:n+2<=100000000:=by have:=bK.out;have:=GB.out;omega
 refine nX (λ w'=>Below (w.heap.size+1) w0 w') (by kernel_rfl) (Below.drew ag) ?_;intro cu
 (first|(refine tkn 0 rfl ?_)|(refine aT (v:=?_) 0 rfl ?_ ?_;rotate_left;focus(intro wS ah;obtain⟨d0,d1,d2,d3,d4,d5,d6,d7,d8,d9,cE,cM⟩:=HD.out wS ah;go_simp;first|done|with_reducible rfl)))
 (try simp only[Act.put,ssa,aq,ar])
 (first|(refine tkn 1 rfl ?_)|(refine aT (v:=?_) 1 rfl ?_ ?_;rotate_left;focus(intro wS ah;obtain⟨d0,d1,d2,d3,d4,d5,d6,d7,d8,d9,cE,cM⟩:=HD.out wS ah;go_simp;first|done|with_reducible rfl)))
 (try simp only[Act.put,ssa,aq,ar])
 (first|(refine tkn 2 rfl ?_)|(refine aT (v:=?_) 2 rfl ?_ ?_;rotate_left;focus(intro wS ah;obtain⟨d0,d1,d2,d3,d4,d5,d6,d7,d8,d9,cE,cM⟩:=HD.out wS ah;go_simp;first|done|with_reducible rfl)))
 (try simp only[Act.put,ssa,aq,ar])
 (first|(refine tkn 3 rfl ?_)|(refine aT (v:=?_) 3 rfl ?_ ?_;rotate_left;focus(intro wS ah;obtain⟨d0,d1,d2,d3,d4,d5,d6,d7,d8,d9,cE,cM⟩:=HD.out wS ah;go_simp;first|done|with_reducible rfl)))
 (try simp only[Act.put,ssa,aq,ar])
 (first|(refine tkn 5 rfl ?_)|(refine aT (v:=?_) 5 rfl ?_ ?_;rotate_left;focus(intro wS ah;obtain⟨d0,d1,d2,d3,d4,d5,d6,d7,d8,d9,cE,cM⟩:=HD.out wS ah;go_simp;first|done|with_reducible rfl)))
 (try simp only[Act.put,ssa,aq,ar])
 (first|(refine tkn 6 rfl ?_)|(refine aT (v:=?_) 6 rfl ?_ ?_;rotate_left;focus(intro wS ah;obtain⟨d0,d1,d2,d3,d4,d5,d6,d7,d8,d9,cE,cM⟩:=HD.out wS ah;go_simp;first|done|with_reducible rfl)))
 (try simp only[Act.put,ssa,aq,ar])
 have kR:=(aj wr.heap.size wr).drew;have hzd:pb<=wr.drew.heap.size:=aF hpz kR.size;have Eb:=Hd (oO.out.below kR);clear oO kR;generalize wr.drew=wd at cu hzd Eb ⊢;refine dL 4 rfl (by kernel_rfl) (by rfl) (λ K hK=>?_);go_simp
 (refine(Gm im _ wd rfl (by have h:=jC.out.ln;rw[<-BI.out];dsimp only at h;omega)).mono ?_;rintro e x1 ⟨a1,n1,k1,rfl,hB1,ak⟩;obtain rfl:n1=4:=(by rw[<-hB1.len,cV]);have hS1:=cu.trans (ak.mono (aF oP hzd));have bp:=aF hzd ak.size;have MS:=Hd (Eb.out.below ak);have vQ:=Gu Eb.out hB1.row (aa _);have az:=Gt (L:=au 4 (im:Int)) hB1.row (lH 4 _);clear hB1 ak)
 refine hK.out _ _ (by assumption) ?_;clear hK K
 (try simp only[Act.put,ssa,aq,ar])
 refine dL 7 rfl (by kernel_rfl) (by rfl) (λ K hK=>?_);go_simp
 (have aS:=(aj x1.heap.size x1).alloc (aa _) (.cells #[.slice a1 4 k1,.slice io im ic] 25);have du:=heap_alloc_new x1 (.cells #[.slice a1 4 k1,.slice io im ic] 25);have jR:=hS1.trans (aS.mono (aF oP bp));have aU:=aF bp aS.size;have eu:=Hd (MS.out.below aS);have jB:=(az.2.below aS (aa _)).mono aS.size;have ij:=az.1;have GC:=(HX.out.2.2.below (hF.trans (jR.mono (fU _))) (aa _)).mono (show w.heap.size<=(x1.alloc (.cells #[.slice a1 4 k1,.slice io im ic] 25)).heap.size by omega);obtain⟨xb,hxb⟩:∃xb,x1.heap.size=xb:=⟨_,rfl⟩;rw[hxb]at du ⊢;clear aS az MS;generalize x1.alloc (.cells #[.slice a1 4 k1,.slice io im ic] 25)=x2 at du jR aU eu jB GC ⊢;have cY:=Hd du;have uz:=Hd (show ∀q∈[(⟨a1,k1,au 4 (im:Int)⟩:Pt),⟨io,ic,ib⟩],BytesIn x2 x2.heap.size q.ao q.data/\(q.data≠[]->∀ad,q.ao=some ad->(Value.slice a n c).ownBlock≠some ad.block)/\qc q from XP (h1:=jB) (h2:=GC) (hf1:=vQ) (hf2:=λ dj ad kM e=>by have h1:=(eu.out.lt _ e).1;have h2:=Gr HX.out.2.2 dj kM;omega) (ho1:=ij) (ho2:=⟨jC.out.im,jC.out.tE,jC.out.fi⟩));clear du jB GC vQ ij)
 refine hK.out _ _ (by assumption) ?_;clear hK K
 (try simp only[Act.put,ssa,aq,ar])
 refine dL 8 rfl (by kernel_rfl) (by rfl) (λ K hK=>?_);skip
 (refine XN (.tmp 80) (.tmp 87) rfl pb rfl eu.out xb 2 #[.slice a1 4 k1,.slice io im ic] [(⟨a1,k1,au 4 (im:Int)⟩:Pt),⟨io,ic,ib⟩] rfl cY.out (by rw[<-BI.out];rfl) rfl uz.out vS aU ?_;intro a2 c2 x3 hp3 aL;have qy:=jR.grown aL (aF oP aU) (λ k hk=>aF oP (eu.out.lt k hk).1);have dN:=aF aU aL.size;have qZ:=Hd hp3;clear hp3 aL)
 refine hK.out _ _ (by assumption) ?_;clear hK K
 (try simp only[Act.put,ssa,aq,ar])
 (first|(refine tkn 9 rfl ?_)|(refine aT (v:=?_) 9 rfl ?_ ?_;rotate_left;focus(intro wS ah;obtain⟨d0,d1,d2,d3,d4,d5,d6,d7,d8,d9,cE,cM⟩:=HD.out wS ah;go_simp;first|done|with_reducible rfl)))
 (try simp only[Act.put,ssa,aq,ar])
 refine wpAnyH_done (by kernel_rfl) ?_ _
 have MT:=Hd (show (qs++[(⟨a1,k1,au 4 (im:Int)⟩:Pt),⟨io,ic,ib⟩]).flatMap Pt.data=ee lp by
  rw[List.flatMap_append,BO.out,DX,<-fC.out];have e1:=kq.out;have e2:=gl.out;have e3:=BI.out;simp only[Lt.plain,List.length_map,e1,e2,e3];simp)
 clear BO xD bK GB bp aU hS1 jR cY uz eu Eb;obtain⟨MU,MV⟩:∃m,n+2=m:=⟨_,rfl⟩;rw[MV]at qZ ⊢;obtain⟨zs,hzs⟩:∃zs,qs++[(⟨a1,k1,au 4 (im:Int)⟩:Pt),⟨io,ic,ib⟩]=zs:=⟨_,rfl⟩;rw[hzs]at qZ MT
 have MW:(ee lp).length<=10000000000:=by
  rw[DX,<-fC.out]
  have h1:=XR (es:=es) (M:=500000000) (λ e he=>by
   have h:=jC.out.es e he;have h1:=h.text;have h2:=h.size;have h3:=h.vn;rw[Gv];show 42+e.text.size+(dY e.args).length+8*e.vs.length<=_;omega)
  have h2:=jC.out.ln;have h3:es.length<=16:=by rw[kq.out];exact GA
  have h4:=Nat.mul_le_mul_right 500000000 h3;simp only[Lt.plain,List.length_append,F4,cV];rw[gl.out];dsimp only at h2;omega
 have xF:=Hd MW;have aeG:MU<=100000000:=by omega
 clear MV hzs MW;go_wp2_with fail
 refine(Wp a2 MU c2 zs (ee lp) x3 x3.heap.size qZ.out.len MT.out qZ.out.in (aa _) (λ q hq=>(qZ.out.ok q hq).1) qZ.out.cap (by have:=xF.out;omega) (by omega)).mono ?_;rintro e x4 ⟨a4,c4,rfl,hj1,hj2,hj3,MX,MY,MZ⟩;have HJ:=Hd (And.intro hj1 (And.intro hj2 (And.intro hj3 (And.intro MX MY))));have fX:=hF.trans ((qy.trans (MZ.mono (aF oP dN))).mono (fU _))
 have lA:eM lp=if 1048576<(ee lp).length then([],3)else(ee lp,0):=by
  unfold eM;rw[if_neg (by rw[<-fC.out,HR.out];simp)]
 have ip:=HP.out;rw[fC.out,lA]at ip;have xG:=Hd ip;have oA:w.heap.size<=x3.heap.size:=by omega
 obtain⟨bl,gL⟩:∃bl,(ee lp).length=bl:=⟨_,rfl⟩;rw[gL]at xG ⊢;have XW:=Hd gL;clear hj1 hj2 hj3 MX MZ MY lA ip gL HP;by_cases hlong:1048576<bl
 ·
  have j1:(1048576:Int)<bl:=by omega
  have j2:decide ((1048576:Int)<bl)=true:=decide_eq_true j1;have pU:=xG.out;rw[if_pos hlong]at pU;simp only[Prod.mk.injEq]at pU;have GD:=Hd pU;clear pU;go_wp2_with fail
  go_ret2
  obtain⟨rfl,rfl⟩:=GD.out;exact⟨none,0,rfl,Or.inl rfl,λ _=>rfl,aa _,(λ _ h=>by cases h),oJ.nil,Or.inl rfl,fX⟩
 have j1:¬(1048576:Int)<bl:=by omega
 have j2:decide ((1048576:Int)<bl)=false:=decide_eq_false j1;have pU:=xG.out;rw[if_neg hlong]at pU;simp only[Prod.mk.injEq]at pU;have GD:=Hd pU;clear pU;go_wp2_with fail
 go_ret2
 obtain⟨rfl,rfl⟩:=GD.out;obtain⟨k1,k2,k3,k4,k6⟩:=HJ.out;exact⟨a4,c4,by rw[XW.out];rfl,k1,k2,k3,λ ad kM=>aF oA (k4 ad kM),oJ.le k6 oA,Or.inr (XT lp),fX⟩
theorem zI (l:Lt)(w:World)(hx:fG w w.heap.size l)(hf:cy l)(bs:List Int)(er:Int)(hp:eM l.plain=(bs,er)) :
  Calls prog 5 #[fA l] w (Gx bs er w) :=
 (D9 l w hx hf bs er hp).mono λ _ _ ⟨a,c,h1,h2,h3,h4,h5,_,_,h8⟩=>⟨a,c,h1,h2,h3,h4,h5,h8⟩
end Go.Proofs.YtepdklfkegkojaaGreatDoor
