/- Parts of one proof. Conditions: as each says. -/
import Derived.Test.YtepdklfkegkojaaGreatDoorGLetterNumbers0
import Derived.Test.YtepdklfkegkojaaGreatDoorGLetterNumbers16
import Derived.Test.YtepdklfkegkojaaGreatDoorGLetterNumbers3
import Derived.StillTailTactics
import Derived.Test.YtepdklfkegkojaaGreatDoorGLetterNumbers15
import Derived.Test.YtepdklfkegkojaaGreatDoorGLetterNumbers1
import Derived.Test.YtepdklfkegkojaaGreatDoorGLetterNumbers4
import Derived.Lib.Bytes
import Derived.Deep.MidRow
import Derived.BigFrame
import Derived.Test.YtepdklfkegkojaaGreatDoorGLetterNumbers7
import Derived.Test.YtepdklfkegkojaaGreatDoorGLetterNumbers10
import Derived.Test.YtepdklfkegkojaaGreatDoorGLetterNumbers14
set_option linter.all false
set_option maxHeartbeats 16000000
set_option maxRecDepth 100000
namespace Go.Proofs.YtepdklfkegkojaaGreatDoor
open Go.Proofs.Tryz
open Go.RowKit
theorem Zr (t:TypeId)(h:t=50)(a b:Int)(s:ByteArray)(w:World):(binOp .eql t (.agg #[.int .u8 a,.int .i64 b,.string s]) (.agg #[.int .u8 a,.int .i64 b,.string s])).run prog w=.ok (.bool true) w:=by
 subst h;simp[go_sem,underlying50]
def LentV (w:World) (B g:Nat) (xs:List Va):Prop :=
 w.ownsRow B 50 3 (.slice (some ⟨g,0,none⟩) (xs.length+12) (xs.length+12)) (xs.length+12) (xs.flatMap jl++aw mkV 1 12)
def Pa (xs:List Va) (n:Nat) (w:World) (e:Ending) (w':World):Prop :=
 ∃g,e=.returned (.slice (some ⟨g,0,none⟩) n (n+12))/\w.heap.size<=g/\g<w'.heap.size/\LentV w' w.heap.size g xs/\Below w.heap.size w w'
theorem LentV.lt {w:World}{B g:Nat}{xs:List Va}(h:LentV w B g xs):B<=g/\g<w.heap.size:=jb h g rfl
theorem LentV.below {w w':World}{B g B':Nat}{xs:List Va}(h:LentV w B g xs)(hb:Below B' w w')(hB:w.heap.size<=B'):LentV w' B g xs:=own_below h hb hB
theorem LentV.le {w:World}{B B' g:Nat}{xs:List Va}(h:LentV w B g xs)(hB:B'<=B):LentV w B' g xs:=fh h hB
theorem LentV.rows {w:World}{B g:Nat}{xs:List Va}(h:LentV w B g xs):RowsIn 3 jl mB w (g+1) (some ⟨g,0,none⟩) xs:=by
 refine Or.inr ⟨g,0,rfl,by omega,λ i x hx=>⟨λ j hj=>?_,trivial⟩⟩;have hi:=(List.getElem?_eq_some_iff.1 hx).1;have hl:=nT oF xs;rw[Nat.zero_add,ay h _ (by omega),gu (by omega)];exact flat_get oF xs i x hx j hj
theorem LentV.mark {w:World}{B g:Nat}{xs:List Va}(h:LentV w B g xs){i:Nat}(hi:i<12)(j:Nat)(hj:j<3):w.cell? ⟨g,(xs.length+i)*3+j,none⟩=(mkV 1 i)[j]?:=by
 have hl:=nT oF xs;rw[ay h _ (by omega),zd (by omega),hl,show (xs.length+i)*3+j-xs.length*3=i*3+j by omega];exact bA mw 1 12 i j hi hj
theorem Zs (ao:Option Addr)(n cap:Nat)(xs:List Va)(w:World)(hn:xs.length=n)(hx:RowsIn 3 jl mB w w.heap.size ao xs)(bm:ao=none->cap=0)(hl:n<=1099511627776) :
  Calls prog 219 #[.slice ao n cap] w (Pa xs n w):=by
 subst hn;obtain⟨i0,hi,bo,bp,aU⟩:=info_parts zf;have hm1:(0:Int)<=(xs.length:Int)+12:=by omega
 have HX:=Hd hx;clear hx;go_enter func219,ntmps219
 go_wp2_with (at_make;refine wpList_make_own _ rfl _ _ 42 rfl w.heap.size 50 i0 (.agg #[.int .u8 0,.int .i64 0,.string ByteArray.empty]) 3 sf hi bo bp .i64 .i64 _ (xs.length+12) rfl rfl (by omega) (by rw[aU];omega) (by unfold maxLen;omega) (aa _) ?_)
 intro w1 tu kN;have ba:Below w.heap.size w w1:=(aj _ _).grown kN (aa _) (λ k hk=>by cases hk);have j9:ao=none->xs.length=0/\cap=0:=λ h=>⟨by rcases HX.out with h0|⟨b,off,h1,_⟩;(rw[h0];rfl);(rw[h]at h1;cases h1),bm h⟩
 have jM:∀ad,ao=some ad->∀(j:Nat) u,(xs.flatMap jl)[j]?=some u->w1.cell? (ad.add j)=some u:=λ ad kM j u hu=>DK oF (by decide) HX.out ba kM hu
 have ly:∀u∈xs.flatMap jl,u.oneCell'=true:=λ u hu=>by obtain⟨y,_,hy⟩:=List.mem_flatMap.1 hu;exact DL y u hy
 go_wp2_with (at_builtin;refine wpList_append_fits_any _ rfl (.tmp 9) (.tmp 10) 42 rfl w.heap.size 50 i0 3 sf hi bp w.heap.size 0 (xs.length+12) [] rfl tu ao xs.length cap (xs.flatMap jl) rfl (nT oF xs) j9 jM ly (by omega) ?_)
 intro w2 kO ax;have am:Below w.heap.size w w2:=ba.grown ax (ba.size) (λ k hk=>by cases hk;exact aa _);have jA:=Hd (show w2.ownsRow w.heap.size 50 3 (.slice (some ⟨w.heap.size,0,none⟩) (xs.length+0) (xs.length+12)) (xs.length+0) (xs.flatMap jl++aw mkV 1 0) by simpa[aw]using kO);clear j9 jM ly tu kO kN ax ba;go_wp2_with fail
 go_loopw [3,4] (λ v i wr=>∃k:Nat,k<=12/\i=.int .i64 k/\v=.slice (some ⟨w.heap.size,0,none⟩) (xs.length+k) (xs.length+12)/\wr.ownsRow w.heap.size 50 3 (.slice (some ⟨w.heap.size,0,none⟩) (xs.length+k) (xs.length+12)) (xs.length+k) (xs.flatMap jl++aw mkV 1 k)/\Below w.heap.size w wr) (λ _ i _=>12-(intOf i).toNat)
 exact⟨0,by omega,rfl,rfl,jA.out,am⟩
 clear am jA;obtain⟨k,hk,rfl,rfl,az,ag⟩:=hrel;have HO:=Hd az;clear az;by_cases ae:k<12
 ·
  obtain⟨mm,dK⟩:∃mm,bt 1 k=mm:=⟨_,rfl⟩;have hmk:mkV 1 k=[.int .u8 0,.int .i64 mm,.string ByteArray.empty]:=by rw[<-dK];rfl
  have bd:=Hd dK;have uQ:=Hd hmk;clear dK hmk;go_wp2_with fail
  refine(CB 1 _ 1 k mm bd.out (by omega) rfl (by omega) (by omega) _).mono ?_;rintro e w3 ⟨rfl,ap⟩;have iT:=own_below HO.out ap (aa _);have bO:=ag.trans (ap.mono ag.size);have lX:=bO.size;have kW:=Hd iT;clear iT ap ag;go_wp2_with (at_builtin;refine wpList_append_fits _ rfl (.tmp 16) (.tmp 19) 42 rfl w.heap.size 50 i0 3 sf hi bp w.heap.size (xs.length+k) (xs.length+12) (xs.flatMap jl++aw mkV 1 k) rfl (nU kW.out _) ⟨w3.heap.size,0,none⟩ 1 1 [.int .u8 0,.int .i64 mm,.string ByteArray.empty] rfl rfl (qf w3 50 [.int .u8 0,.int .i64 mm,.string ByteArray.empty]) (by simp[Value.oneCell']) (by omega) ?_)
  intro w5 oB pZ;have ak:Below w.heap.size w w5:=(bO.alloc lX _).grown pZ (by simp;omega) (λ k hk=>by cases hk;exact aa _)
  have gn:w5.ownsRow w.heap.size 50 3 (.slice (some ⟨w.heap.size,0,none⟩) (xs.length+(k+1)) (xs.length+12)) (xs.length+(k+1)) (xs.flatMap jl++aw mkV 1 (k+1)):=by
   rw[qO,uQ.out,<-Nat.add_assoc];simpa using oB
  have ri:=Hd gn;clear oB pZ gn;go_wp2_with fail
  go_roundw
  exact⟨k+1,by omega,by go_num,by rw[Nat.add_assoc],ri.out,ak⟩
  simp[intOf];omega
 obtain rfl:k=12:=by omega
 go_wp2_with fail
 go_ret;exact⟨w.heap.size,rfl,aa _,(jb HO.out _ rfl).2,HO.out,ag⟩
theorem Zt (ao:Option Addr)(n cap g B:Nat)(xs:List Va)(w:World)(hn:xs.length=n)(hx:RowsIn 3 jl mB w w.heap.size ao xs)(hL:LentV w B g xs)(hl:n<=1099511627776) :
  Calls prog 220 #[.slice (some ⟨g,0,none⟩) n (n+12:Nat),.slice ao n cap] w λ e w'=>e=.returned (.bool true)/\Below w.heap.size w w':=by
 subst hn;have heq:∀(a b:Int) (s:ByteArray) (w:World),(binOp .eql 50 (.agg #[.int .u8 a,.int .i64 b,.string s]) (.agg #[.int .u8 a,.int .i64 b,.string s])).run prog w=.ok (.bool true) w:=Zr _ rfl;have HX:=Hd hx;have HL:=Hd hL;have cw:=hL.lt.2;clear hx hL;go_enter func220,ntmps220
 go_wp2_with fail
 go_loopw [6] (λ i wr=>∃k:Nat,k<=xs.length+12/\i=.int .i64 k/\Below w.heap.size w wr) (λ i _=>xs.length+12-(intOf i).toNat)
 exact⟨0,by omega,rfl,aj _ _⟩
 obtain⟨k,hk,rfl,ag⟩:=hrel;by_cases ae:k<xs.length
 ·
  have aQ:xs[k]?=some xs[k]:=bu ae;obtain⟨b,off,bm,hb,hc,_⟩:=HX.out.at aQ;obtain⟨b2,off2,vI,_,bN,_⟩:=HL.out.rows.at aQ;cases vI
  generalize xs[k]=x at hc bN;obtain⟨kd,num,text⟩:=x;simp only[Nat.zero_add]at bN;subst bm;have c0:∀y:Calm w.heap.size w,y.1.cell? ⟨b,off+k*3,none⟩=some (.int .u8 kd):=λ y=>y.cell (hc 0 (by decide)) hb
  have c1:∀y:Calm w.heap.size w,y.1.cell? ⟨b,off+k*3+1,none⟩=some (.int .i64 num):=λ y=>y.cell (hc 1 (by decide)) hb
  have c2:∀y:Calm w.heap.size w,y.1.cell? ⟨b,off+k*3+2,none⟩=some (.string text):=λ y=>y.cell (hc 2 (by decide)) hb
  have e0:∀y:Calm w.heap.size w,y.1.cell? ⟨g,k*3,none⟩=some (.int .u8 kd):=λ y=>y.cell (bN 0 (by decide)) cw
  have e1:∀y:Calm w.heap.size w,y.1.cell? ⟨g,k*3+1,none⟩=some (.int .i64 num):=λ y=>y.cell (bN 1 (by decide)) cw
  have e2:∀y:Calm w.heap.size w,y.1.cell? ⟨g,k*3+2,none⟩=some (.string text):=λ y=>y.cell (bN 2 (by decide)) cw
  have i1:(k:Int)<xs.length:=by omega
  have d1:decide (xs.length<=k)=false:=by simp;omega
  clear hc bN aQ;go_wp2_with fail
  refine gR (B:=w.heap.size) (W0:=w) ag (by kernel_rfl) (by kernel_rfl) ?_;repeat(go_big_quiet_step (fail))
  refine wpQuiet_nil ?_;intro w5 ak;clear c0 e0 c1 e1 c2 e2;go_wp2_with fail
  go_roundw
  exact⟨k+1,by omega,by go_num,ak⟩
  simp[intOf];omega
 by_cases kP:k<xs.length+12
 ·
  obtain⟨m,rfl⟩:∃m,k=xs.length+m:=⟨k-xs.length,by omega⟩;obtain⟨mm,dK⟩:∃mm,bt 1 m=mm:=⟨_,rfl⟩;have hmk:mkV 1 m=[.int .u8 0,.int .i64 mm,.string ByteArray.empty]:=by rw[<-dK];rfl
  have bd:=Hd dK;have uQ:=Hd hmk;clear dK hmk;have e0:∀y:Calm w.heap.size w,y.1.cell? ⟨g,(xs.length+m)*3,none⟩=some (.int .u8 0):=λ y=>y.cell (by have:=HL.out.mark (i:=m) (by omega) 0 (by decide);rw[uQ.out]at this;simpa using this) cw
  have e1:∀y:Calm w.heap.size w,y.1.cell? ⟨g,(xs.length+m)*3+1,none⟩=some (.int .i64 mm):=λ y=>y.cell (by have:=HL.out.mark (i:=m) (by omega) 1 (by decide);rw[uQ.out]at this;simpa using this) cw
  have e2:∀y:Calm w.heap.size w,y.1.cell? ⟨g,(xs.length+m)*3+2,none⟩=some (.string ByteArray.empty):=λ y=>y.cell (by have:=HL.out.mark (i:=m) (by omega) 2 (by decide);rw[uQ.out]at this;simpa using this) cw
  have i1:¬(xs.length:Int)+m<xs.length:=by omega
  have i2:(xs.length:Int)+m<xs.length+12:=by omega
  have d1:decide ((xs.length:Int)+m<xs.length)=false:=by simp;omega
  have n1:((xs.length:Int)+m).toNat=xs.length+m:=by omega
  have n2:IntKind.i64.wrap (m:Int)=m:=jU _ (by omega);have n3:(0:Int)<=(xs.length:Int)+m:=by omega
  go_wp2_with fail
  refine gR (B:=w.heap.size) (W0:=w) ag (by kernel_rfl) (by kernel_rfl) ?_;repeat(go_big_quiet_step ((go_at_call 153;exact Calm.call (aa _) (CB 1 _ 1 m mm bd.out (by omega) (by omega) (by omega) (by omega) _))))
  refine wpQuiet_nil ?_;intro w5 ak;clear e0 e1 e2;go_wp2_with fail
  go_roundw
  exact⟨xs.length+m+1,by omega,by go_num,ak⟩
  simp[intOf];omega
 go_wp2_with fail
 go_ret;exact⟨rfl,ag⟩
def LentI (w:World) (B g:Nat) (xs:List Int):Prop :=
 w.ownsRow B 3 1 (.slice (some ⟨g,0,none⟩) (xs.length+12) (xs.length+12)) (xs.length+12) (xs.flatMap gb++aw dV 1 12)
def Zu (xs:List Int) (n:Nat) (w:World) (e:Ending) (w':World):Prop :=
 ∃g,e=.returned (.slice (some ⟨g,0,none⟩) n (n+12))/\w.heap.size<=g/\g<w'.heap.size/\LentI w' w.heap.size g xs/\Below w.heap.size w w'
theorem LentI.lt {w:World}{B g:Nat}{xs:List Int}(h:LentI w B g xs):B<=g/\g<w.heap.size:=jb h g rfl
theorem LentI.below {w w':World}{B g B':Nat}{xs:List Int}(h:LentI w B g xs)(hb:Below B' w w')(hB:w.heap.size<=B'):LentI w' B g xs:=own_below h hb hB
theorem LentI.le {w:World}{B B' g:Nat}{xs:List Int}(h:LentI w B g xs)(hB:B'<=B):LentI w B' g xs:=fh h hB
theorem LentI.rows {w:World}{B g:Nat}{xs:List Int}(h:LentI w B g xs):RowsIn 1 gb mB w (g+1) (some ⟨g,0,none⟩) xs:=by
 refine Or.inr ⟨g,0,rfl,by omega,λ i x hx=>⟨λ j hj=>?_,trivial⟩⟩;have hi:=(List.getElem?_eq_some_iff.1 hx).1;have hl:=nT mA xs;rw[Nat.zero_add,ay h _ (by omega),gu (by omega)];exact flat_get mA xs i x hx j hj
theorem LentI.mark {w:World}{B g:Nat}{xs:List Int}(h:LentI w B g xs){i:Nat}(hi:i<12)(j:Nat)(hj:j<1):w.cell? ⟨g,(xs.length+i)*1+j,none⟩=(dV 1 i)[j]?:=by
 have hl:=nT mA xs;rw[ay h _ (by omega),zd (by omega),hl,show (xs.length+i)*1+j-xs.length*1=i*1+j by omega];exact bA sR 1 12 i j hi hj
theorem Pb (ao:Option Addr)(n cap:Nat)(xs:List Int)(w:World)(hn:xs.length=n)(hx:RowsIn 1 gb mB w w.heap.size ao xs)(bm:ao=none->cap=0)(hl:n<=1099511627776) :
  Calls prog 77 #[.slice ao n cap] w (Zu xs n w):=by
 subst hn;obtain⟨i0,hi,bo,bp,aU⟩:=info_parts tY;have hm1:(0:Int)<=(xs.length:Int)+12:=by omega
 have HX:=Hd hx;clear hx;go_enter func77,ntmps77
 go_wp2_with (at_make;refine wpList_make_own _ rfl _ _ 24 rfl w.heap.size 3 i0 (.int .i64 0) 1 qr hi bo bp .i64 .i64 _ (xs.length+12) rfl rfl (by omega) (by rw[aU];omega) (by unfold maxLen;omega) (aa _) ?_)
 intro w1 tu kN;have ba:Below w.heap.size w w1:=(aj _ _).grown kN (aa _) (λ k hk=>by cases hk);have j9:ao=none->xs.length=0/\cap=0:=λ h=>⟨by rcases HX.out with h0|⟨b,off,h1,_⟩;(rw[h0];rfl);(rw[h]at h1;cases h1),bm h⟩
 have jM:∀ad,ao=some ad->∀(j:Nat) u,(xs.flatMap gb)[j]?=some u->w1.cell? (ad.add j)=some u:=λ ad kM j u hu=>DK mA (by decide) HX.out ba kM hu
 have ly:∀u∈xs.flatMap gb,u.oneCell'=true:=λ u hu=>by obtain⟨y,_,hy⟩:=List.mem_flatMap.1 hu;exact Be y u hy
 go_wp2_with (at_builtin;refine wpList_append_fits_any _ rfl (.tmp 9) (.tmp 10) 24 rfl w.heap.size 3 i0 1 qr hi bp w.heap.size 0 (xs.length+12) [] rfl tu ao xs.length cap (xs.flatMap gb) rfl (nT mA xs) j9 jM ly (by omega) ?_)
 intro w2 kO ax;have am:Below w.heap.size w w2:=ba.grown ax (ba.size) (λ k hk=>by cases hk;exact aa _);have jA:=Hd (show w2.ownsRow w.heap.size 3 1 (.slice (some ⟨w.heap.size,0,none⟩) (xs.length+0) (xs.length+12)) (xs.length+0) (xs.flatMap gb++aw dV 1 0) by simpa[aw]using kO);clear j9 jM ly tu kO kN ax ba;go_wp2_with fail
 go_loopw [3,4] (λ v i wr=>∃k:Nat,k<=12/\i=.int .i64 k/\v=.slice (some ⟨w.heap.size,0,none⟩) (xs.length+k) (xs.length+12)/\wr.ownsRow w.heap.size 3 1 (.slice (some ⟨w.heap.size,0,none⟩) (xs.length+k) (xs.length+12)) (xs.length+k) (xs.flatMap gb++aw dV 1 k)/\Below w.heap.size w wr) (λ _ i _=>12-(intOf i).toNat)
 exact⟨0,by omega,rfl,rfl,jA.out,am⟩
 clear am jA;obtain⟨k,hk,rfl,rfl,az,ag⟩:=hrel;have HO:=Hd az;clear az;by_cases ae:k<12
 ·
  obtain⟨mm,dK⟩:∃mm,bt 1 k=mm:=⟨_,rfl⟩;have hmk:dV 1 k=[.int .i64 mm]:=by rw[<-dK];rfl
  have bd:=Hd dK;have uQ:=Hd hmk;clear dK hmk;go_wp2_with fail
  refine(CA 1 _ 1 k mm bd.out (by omega) rfl (by omega) (by omega) _).mono ?_;rintro e w3 ⟨rfl,ap⟩;have iT:=own_below HO.out ap (aa _);have bO:=ag.trans (ap.mono ag.size);have lX:=bO.size;have kW:=Hd iT;clear iT ap ag;go_wp2_with (at_builtin;refine wpList_append_fits _ rfl (.tmp 16) (.tmp 19) 24 rfl w.heap.size 3 i0 1 qr hi bp w.heap.size (xs.length+k) (xs.length+12) (xs.flatMap gb++aw dV 1 k) rfl (nU kW.out _) ⟨w3.heap.size,0,none⟩ 1 1 [.int .i64 mm] rfl rfl (qf w3 3 [.int .i64 mm]) (by simp[Value.oneCell']) (by omega) ?_)
  intro w5 oB pZ;have ak:Below w.heap.size w w5:=(bO.alloc lX _).grown pZ (by simp;omega) (λ k hk=>by cases hk;exact aa _)
  have gn:w5.ownsRow w.heap.size 3 1 (.slice (some ⟨w.heap.size,0,none⟩) (xs.length+(k+1)) (xs.length+12)) (xs.length+(k+1)) (xs.flatMap gb++aw dV 1 (k+1)):=by
   rw[qO,uQ.out,<-Nat.add_assoc];simpa using oB
  have ri:=Hd gn;clear oB pZ gn;go_wp2_with fail
  go_roundw
  exact⟨k+1,by omega,by go_num,by rw[Nat.add_assoc],ri.out,ak⟩
  simp[intOf];omega
 obtain rfl:k=12:=by omega
 go_wp2_with fail
 go_ret;exact⟨w.heap.size,rfl,aa _,(jb HO.out _ rfl).2,HO.out,ag⟩
theorem Pc (ao:Option Addr)(n cap g B:Nat)(xs:List Int)(w:World)(hn:xs.length=n)(hx:RowsIn 1 gb mB w w.heap.size ao xs)(hL:LentI w B g xs)(hl:n<=1099511627776) :
  Calls prog 79 #[.slice (some ⟨g,0,none⟩) n (n+12:Nat),.slice ao n cap] w λ e w'=>e=.returned (.bool true)/\Below w.heap.size w w':=by
 subst hn;have HX:=Hd hx;have HL:=Hd hL;have cw:=hL.lt.2;clear hx hL;go_enter func79,ntmps79
 go_wp2_with fail
 go_loopw [6] (λ i wr=>∃k:Nat,k<=xs.length+12/\i=.int .i64 k/\Below w.heap.size w wr) (λ i _=>xs.length+12-(intOf i).toNat)
 exact⟨0,by omega,rfl,aj _ _⟩
 obtain⟨k,hk,rfl,ag⟩:=hrel;by_cases ae:k<xs.length
 ·
  have aQ:xs[k]?=some xs[k]:=bu ae;obtain⟨b,off,bm,hb,hc,_⟩:=HX.out.at aQ;obtain⟨b2,off2,vI,_,bN,_⟩:=HL.out.rows.at aQ;cases vI
  generalize xs[k]=x at hc bN;simp only[Nat.zero_add]at bN;subst bm;have c0:∀y:Calm w.heap.size w,y.1.cell? ⟨b,off+k,none⟩=some (.int .i64 x):=λ y=>y.cell (by simpa[gb]using hc 0 (by decide)) hb
  have e0:∀y:Calm w.heap.size w,y.1.cell? ⟨g,k,none⟩=some (.int .i64 x):=λ y=>y.cell (by simpa[gb]using bN 0 (by decide)) cw
  have i1:(k:Int)<xs.length:=by omega
  have d1:decide (xs.length<=k)=false:=by simp;omega
  clear hc bN aQ;go_wp2_with fail
  refine gR (B:=w.heap.size) (W0:=w) ag (by kernel_rfl) (by kernel_rfl) ?_;repeat(go_big_quiet_step (fail))
  refine wpQuiet_nil ?_;intro w5 ak;clear c0 e0;go_wp2_with fail
  go_roundw
  exact⟨k+1,by omega,by go_num,ak⟩
  simp[intOf];omega
 by_cases kP:k<xs.length+12
 ·
  obtain⟨m,rfl⟩:∃m,k=xs.length+m:=⟨k-xs.length,by omega⟩;obtain⟨mm,dK⟩:∃mm,bt 1 m=mm:=⟨_,rfl⟩;have hmk:dV 1 m=[.int .i64 mm]:=by rw[<-dK];rfl
  have bd:=Hd dK;have uQ:=Hd hmk;clear dK hmk;have e0:∀y:Calm w.heap.size w,y.1.cell? ⟨g,xs.length+m,none⟩=some (.int .i64 mm):=λ y=>y.cell (by have:=HL.out.mark (i:=m) (by omega) 0 (by decide);rw[uQ.out]at this;simpa using this) cw
  have i1:¬(xs.length:Int)+m<xs.length:=by omega
  have i2:(xs.length:Int)+m<xs.length+12:=by omega
  have d1:decide ((xs.length:Int)+m<xs.length)=false:=by simp;omega
  have n1:((xs.length:Int)+m).toNat=xs.length+m:=by omega
  have n2:IntKind.i64.wrap (m:Int)=m:=jU _ (by omega);have n3:(0:Int)<=(xs.length:Int)+m:=by omega
  go_wp2_with fail
  refine gR (B:=w.heap.size) (W0:=w) ag (by kernel_rfl) (by kernel_rfl) ?_;repeat(go_big_quiet_step ((go_at_call 91;exact Calm.call (aa _) (CA 1 _ 1 m mm bd.out (by omega) (by omega) (by omega) (by omega) _))))
  refine wpQuiet_nil ?_;intro w5 ak;clear e0;go_wp2_with fail
  go_roundw
  exact⟨xs.length+m+1,by omega,by go_num,ak⟩
  simp[intOf];omega
 go_wp2_with fail
 go_ret;exact⟨rfl,ag⟩
theorem Zv (ao:Option Addr)(n cap:Nat)(xs:List Va)(w:World)(B:Nat)(hn:xs.length=n)(hx:iz w B ao xs)(hB:B<=w.heap.size)(bm:ao=none->cap=0)(hl:n<=1099511627776) :
  Calls prog 219 #[.slice ao n cap] w (Pa xs n w):=Zs ao n cap xs w hn (RowsIn.mono cK hx hB) bm hl
theorem Zw (ck:Int)(text:ByteArray)(num:Int)(ao:Option Addr)(n cap:Nat)(xs:List Va)(w:World)(hn:xs.length=n)(hx:iz w w.heap.size ao xs)(bm:ao=none->cap=0)(hl:n<=1099511627776) :
  Calls prog 200 #[.agg #[.int .u8 ck,.string text,.slice ao n cap,.int .i64 num]] w λ e w'=>∃g,e=.returned (.agg #[.int .u8 ck,.string text,.slice (some ⟨g,0,none⟩) n (n+12),.int .i64 num])/\w.heap.size<=g/\LentV w' w.heap.size g xs/\Below w.heap.size w w':=by
 obtain⟨am,h1,h2,aU⟩:=sH w #[.int .u8 ck,.string text,.slice ao n cap,.int .i64 num] #[.int .u8 0,.string ⟨#[]⟩,.slice none 0 0,.int .i64 0] 44 44;have HX:=Hd hx;have HA:=Hd bm;have HN:=Hd hn;have bF:=Hd am;have H1:=Hd h1;have H2:=Hd h2;have HZ:=Hd aU;clear hx bm hn am h1 h2 aU;go_enter func200,ntmps200
 go_wp2_with fail
 have am:=bF.out;have h1:=H1.out;have h2:=H2.out;have aU:=HZ.out;generalize ((w.alloc (.cells #[.int .u8 ck,.string text,.slice ao n cap,.int .i64 num] 44)).alloc (.cells #[.int .u8 0,.string ⟨#[]⟩,.slice none 0 0,.int .i64 0] 44))=w2 at am h1 h2 aU ⊢;have H1:=Hd h1;have H2:=Hd h2;have HZ:=Hd aU;clear h1 h2 aU bF;refine(Zv ao n cap xs w2 w.heap.size HN.out (RowsIn.below cn HX.out am (aa _)) am.size HA.out hl).mono ?_;rintro e w3 ⟨g,rfl,kN,ax,hL,ap⟩;have k1:=(ap.block w.heap.size (by have:=HZ.out;omega)).trans H1.out;have k2:=(ap.block (w.heap.size+1) (by have:=HZ.out;omega)).trans H2.out;have c0:w3.cell? ⟨w.heap.size,0,none⟩=some (.int .u8 ck):=ab k1 0;have c1:w3.cell? ⟨w.heap.size,1,none⟩=some (.string text):=ab k1 1;have c2:w3.cell? ⟨w.heap.size,2,none⟩=some (.slice ao n cap):=ab k1 2;have c3:w3.cell? ⟨w.heap.size,3,none⟩=some (.int .i64 num):=ab k1 3;have f2:w3.frozen? ⟨w.heap.size,2,none⟩=false:=aO k1 2;have d0:w3.cell? ⟨w.heap.size+1,0,none⟩=some (.int .u8 0):=ab k2 0;have d1:w3.cell? ⟨w.heap.size+1,1,none⟩=some (.string ⟨#[]⟩):=ab k2 1;have d2:w3.cell? ⟨w.heap.size+1,2,none⟩=some (.slice none 0 0):=ab k2 2;have d3:w3.cell? ⟨w.heap.size+1,3,none⟩=some (.int .i64 0):=ab k2 3;have g0:w3.frozen? ⟨w.heap.size+1,0,none⟩=false:=aO k2 0;have g1:w3.frozen? ⟨w.heap.size+1,1,none⟩=false:=aO k2 1;have g2:w3.frozen? ⟨w.heap.size+1,2,none⟩=false:=aO k2 2;have g3:w3.frozen? ⟨w.heap.size+1,3,none⟩=false:=aO k2 3;have HL:=Hd (hL.le (show w.heap.size<=w2.heap.size from am.size));have IC:=Hd (am.trans (ap.mono am.size));have hgz:w.heap.size+2<=g:=by have:=HZ.out;omega
 clear hL k1 k2 ap;go_wp2_with fail
 have pw:LentV ((((((w3.setCell ⟨w.heap.size,2,none⟩ (.slice (some ⟨g,0,none⟩) n (n+12))).setCell ⟨w.heap.size+1,0,none⟩ (.int .u8 ck)).setCell ⟨w.heap.size+1,1,none⟩ (.string text)).setCell ⟨w.heap.size+1,2,none⟩ (.slice (some ⟨g,0,none⟩) n (n+12)))).setCell ⟨w.heap.size+1,3,none⟩ (.int .i64 num)) w.heap.size g xs:=by
  refine ownsRow_setCell_other (ownsRow_setCell_other (ownsRow_setCell_other (ownsRow_setCell_other (ownsRow_setCell_other HL.out ?_ _) ?_ _) ?_ _) ?_ _) ?_ _<;>(simp[Value.ownBlock];omega)
 have ii:=((((IC.out.setCell (p:=⟨w.heap.size,2,none⟩) (aa _) (.slice (some ⟨g,0,none⟩) n (n+12))).setCell (p:=⟨w.heap.size+1,0,none⟩) (fU _) (.int .u8 ck)).setCell (p:=⟨w.heap.size+1,1,none⟩) (fU _) (.string text)).setCell (p:=⟨w.heap.size+1,2,none⟩) (fU _) (.slice (some ⟨g,0,none⟩) n (n+12))).setCell (p:=⟨w.heap.size+1,3,none⟩) (fU _) (.int .i64 num);exact bodyPost_ret (v:=.agg #[.int .u8 ck,.string text,.slice (some ⟨g,0,none⟩) n (n+12),.int .i64 num]) (by simp[results,results200,go_sem,d0,d1,d2,d3]) rfl ⟨g,rfl,by omega,pw,ii⟩
open Go.ChangeShapes
theorem CC {w:World}{g o:Nat}:w.rangeAt g o []:=λ j v hv=>by cases j<;>cases hv
theorem mP {w:World}{g o:Nat}{v:Value}{vs:List Value}(h:w.cell? ⟨g,o,none⟩=some v)(h2:w.rangeAt g (o+1) vs):w.rangeAt g o (v :: vs):=λ j u hu=>by
 cases j with
 | zero=>simp at hu;subst hu;exact h
 | succ j =>
  have:=h2 j u (by simpa using hu);rw[show o+(j+1)=o+1+j by omega];exact this
theorem mQ {P:Program}{ops:Array Oper}{rest:List Oper}{op:Oper}{a:Act}{w:World}{Q:Exit->Act->World->Prop}(hw:Region.wanted op (yielded ops a.tmps)=true)(ty:TypeId)(x:Operand)(ho:op.op=.load ty x)
  (b o:Nat) (hx:a.eval x=.pointer (some ⟨b,o,none⟩)) (cs:List Value) (d:TypeDesc) (hc:w.rangeAt b o cs)
  (hu:P.underlying ty=some d) (hd:d.isRow=true) (hi:(P.info? ty).map (·.size)=some cs.length)
  (h:wpList P ops Q rest (a.put op.dst (.agg cs.toArray)) w):wpList P ops Q (op :: rest) a w :=
 Go.BigFrame.wpList_want hw λ _ hK=>wp_load_mid ty x ho b o hx cs d hc hu hd hi (hK _ _ h)
theorem Ae:(prog.info? 44).map (·.size)=some 4:=by kernel_rfl
theorem Af:(prog.info? 46).map (·.size)=some 9:=by kernel_rfl
theorem iZ.vals {w:World}{base n c:Nat}{a:Option Addr}{xs:List Va}(hn:xs.length=n)(h:iZ w base a n c xs):iz w w.heap.size a xs:=mH oF hn h (λ _ _=>trivial)
theorem yf {w w':World}{base e size n:Nat}{v:Value}{xs:List Value}(h:w.ownsRow base e size v n xs)(hs:∀g,base<=g->g<w.heap.size->w'.heap[g]?=w.heap[g]?):w'.ownsRow base e size v n xs:=by
 refine⟨h.1,?_⟩;rcases h.2 with hn|⟨g,cap,cur,rfl,h1,h2,h3⟩
 · exact Or.inl hn
 refine Or.inr ⟨g,cap,cur,rfl,h1,?_,h3⟩;rw[hs g h1 (Array.getElem?_eq_some_iff.1 h2).1];exact h2
theorem Zx (ao:Option Addr)(n cap c2 g B:Nat)(go:Option Addr)(xs:List Va)(w:World)(B2:Nat)(hg:go=some ⟨g,0,none⟩)(hc:c2=n+12)(hn:xs.length=n)(hx:iz w B2 ao xs)(hB:B2<=w.heap.size)(hL:LentV w B g xs)(hl:n<=1099511627776) :
  Calls prog 220 #[.slice go n c2,.slice ao n cap] w λ e w'=>e=.returned (.bool true)/\Below w.heap.size w w':=by
 subst hg hc;exact Zt ao n cap g B xs w hn (RowsIn.mono cK hx hB) hL hl
theorem Zy (ck:Int)(text:ByteArray)(num:Int)(ao:Option Addr)(n cap g B:Nat)(xs:List Va)(w:World)(hn:xs.length=n)(hx:iz w w.heap.size ao xs)(hL:LentV w B g xs)(hl:n<=1099511627776) :
  Calls prog 201 #[.agg #[.int .u8 ck,.string text,.slice (some ⟨g,0,none⟩) n (n+12),.int .i64 num],.agg #[.int .u8 ck,.string text,.slice ao n cap,.int .i64 num]] w λ e w'=>e=.returned (.bool true)/\Below w.heap.size w w':=by
 obtain⟨am,h1,h2,aU⟩:=sH w #[.int .u8 ck,.string text,.slice (some ⟨g,0,none⟩) n (n+12),.int .i64 num] #[.int .u8 ck,.string text,.slice ao n cap,.int .i64 num] 44 44;have HX:=Hd hx;have HL:=Hd hL;have HN:=Hd hn;have bF:=Hd am;have H1:=Hd h1;have H2:=Hd h2;have HZ:=Hd aU;clear hx hL hn am h1 h2 aU;go_enter func201,ntmps201
 go_wp2_with fail
 have am:=bF.out;have h1:=H1.out;have h2:=H2.out;have aU:=HZ.out;generalize ((w.alloc (.cells #[.int .u8 ck,.string text,.slice (some ⟨g,0,none⟩) n (n+12),.int .i64 num] 44)).alloc (.cells #[.int .u8 ck,.string text,.slice ao n cap,.int .i64 num] 44))=w2 at am h1 h2 aU ⊢;have H1:=Hd h1;have H2:=Hd h2;have HZ:=Hd aU;have lF:=HL.out.below am (aa _);have eR:iz w2 w2.heap.size ao xs:=RowsIn.mono cK (RowsIn.below cn HX.out am (aa _)) am.size;have me:iz w2 w2.heap.size (some ⟨g,0,none⟩) xs:=RowsIn.mono cK lF.rows lF.lt.2;have cY:=Hd lF;have oq:=Hd eR;have CD:=Hd (show Calls prog 68 #[.agg #[.int .u8 ck,.string text,.slice (some ⟨g,0,none⟩) n (n+12),.int .i64 num],.agg #[.int .u8 ck,.string text,.slice ao n cap,.int .i64 num]] w2 λ e w'=>e=.returned (.bool true)/\Below w2.heap.size w2 w' from Lv ck text num (some ⟨g,0,none⟩) n (n+12) ao cap xs w2 w2.heap.size HN.out me eR (aa _) (by omega));clear h1 h2 aU bF lF eR me;refine CD.out.mono ?_;rintro e w3 ⟨rfl,ap⟩;have k1:=(ap.block w.heap.size (by have:=HZ.out;omega)).trans H1.out;have k2:=(ap.block (w.heap.size+1) (by have:=HZ.out;omega)).trans H2.out;have c1:w3.cell? ⟨w.heap.size,2,none⟩=some (.slice (some ⟨g,0,none⟩) n (n+12)):=ab k1 2;have c2:w3.cell? ⟨w.heap.size+1,2,none⟩=some (.slice ao n cap):=ab k2 2;have bO:=am.trans (ap.mono am.size);clear k1 k2 CD;go_wp2_with fail
 refine(Zx ao n cap (n+12) g B (some ⟨g,0,none⟩) xs w3 w2.heap.size rfl rfl HN.out (RowsIn.below cn oq.out ap (aa _)) ap.size (cY.out.below ap (aa _)) hl).mono ?_;rintro e w4 ⟨rfl,ak⟩;clear c1 c2;go_wp2_with fail
 go_ret;exact⟨rfl,bO.trans (ak.mono bO.size)⟩
theorem Pd (x0 x1 x2 x3 ck:Int)(text:ByteArray)(ao:Option Addr)(n cap:Nat)(xs:List Va)(num:Int)(vo:Option Addr)(p vc:Nat)(vs:List Int)(y0 y1 y2 y3 ck2:Int)(jV:ByteArray)(co:Option Addr)(m cap2:Nat)(ys:List Va)(kD:Int)(ww:Option Addr)(p2 dG:Nat)(us:List Int)(w:World)(B:Nat)
  (hn:xs.length=n) (hm:ys.length=m) (hp:vs.length=p) (hp2:us.length=p2) (hx:iz w B ao xs) (hy:iz w B co ys) (hv:gS w B vo vs) (hu:gS w B ww us) (hB:B<=w.heap.size) (hl:n<=4611686018427387904) (cG:m<=4611686018427387904) (ep:p<=4611686018427387904) (hl4:p2<=4611686018427387904) (g:Bool) (hg:g=true↔(⟨x0,x1,x2,x3,ck,text,xs,num,vs⟩:dX)=⟨y0,y1,y2,y3,ck2,jV,ys,kD,us⟩) :
  Calls prog 65 #[.agg #[.int .i64 x0,.int .u8 x1,.int .i64 x2,.int .i64 x3,.int .u8 ck,.string text,.slice ao n cap,.int .i64 num,.slice vo p vc],.agg #[.int .i64 y0,.int .u8 y1,.int .i64 y2,.int .i64 y3,.int .u8 ck2,.string jV,.slice co m cap2,.int .i64 kD,.slice ww p2 dG]] w (qN g w):=by
 obtain⟨am,h1,h2,aU⟩:=sH w #[.int .i64 x0,.int .u8 x1,.int .i64 x2,.int .i64 x3,.int .u8 ck,.string text,.slice ao n cap,.int .i64 num,.slice vo p vc] #[.int .i64 y0,.int .u8 y1,.int .i64 y2,.int .i64 y3,.int .u8 ck2,.string jV,.slice co m cap2,.int .i64 kD,.slice ww p2 dG] 46 46;have bF:=Hd am;have H1:=Hd h1;have H2:=Hd h2;have HZ:=Hd (pJ aU.symm);have HG:=Hd hg;have HC:=Hd (fun(w':World) (hb:Below w.heap.size w w') (gg:Bool) (pA:gg=true↔(⟨ck,text,xs,num⟩:lK)=⟨ck2,jV,ys,kD⟩)=>OZ ck text ao n cap xs num ck2 jV co m cap2 ys kD w' B hn hm (hx.below cn hb hB) (hy.below cn hb hB) (aF hB hb.size) hl cG gg pA);have HI:=Hd (fun(w':World) (hb:Below w.heap.size w w') (gg:Bool) (pA:decide (vs=us)=gg)=>Zl vo p vc ww p2 dG vs us w' B hp hp2 (hv.below cn hb hB) (hu.below cn hb hB) (aF hB hb.size) ep hl4 gg pA);clear am h1 h2 aU hg hn hm hx hy hp hp2 hv hu;go_enter func65,ntmps65
 go_upto_region 1 with fail
 have am:=bF.out;have h1:=H1.out;have h2:=H2.out;have aU:=HZ.out;clear bF H1 H2 HZ;generalize (w.alloc (.cells #[.int .i64 x0,.int .u8 x1,.int .i64 x2,.int .i64 x3,.int .u8 ck,.string text,.slice ao n cap,.int .i64 num,.slice vo p vc] 46)).alloc (.cells #[.int .i64 y0,.int .u8 y1,.int .i64 y2,.int .i64 y3,.int .u8 ck2,.string jV,.slice co m cap2,.int .i64 kD,.slice ww p2 dG] 46)=w2 at am h1 h2 aU ⊢;have H1:=Hd h1;have H2:=Hd h2;have bF:=Hd am;have c0:w2.cell? ⟨w.heap.size,0,none⟩=some (.int .i64 x0):=ab h1 0;have c1:w2.cell? ⟨w.heap.size,1,none⟩=some (.int .u8 x1):=ab h1 1;have c2:w2.cell? ⟨w.heap.size,2,none⟩=some (.int .i64 x2):=ab h1 2;have c3:w2.cell? ⟨w.heap.size,3,none⟩=some (.int .i64 x3):=ab h1 3;have d0:w2.cell? ⟨w.heap.size+1,0,none⟩=some (.int .i64 y0):=ab h2 0;have d1:w2.cell? ⟨w.heap.size+1,1,none⟩=some (.int .u8 y1):=ab h2 1;have d2:w2.cell? ⟨w.heap.size+1,2,none⟩=some (.int .i64 y2):=ab h2 2;have d3:w2.cell? ⟨w.heap.size+1,3,none⟩=some (.int .i64 y3):=ab h2 3;have CE:w2.cell? ⟨w.heap.size,4,none⟩=some (.int .u8 ck):=ab h1 4;have CF:w2.cell? ⟨w.heap.size,5,none⟩=some (.string text):=ab h1 5;have CG:w2.cell? ⟨w.heap.size,6,none⟩=some (.slice ao n cap):=ab h1 6;have CH:w2.cell? ⟨w.heap.size,7,none⟩=some (.int .i64 num):=ab h1 7;have rx:w2.rangeAt w.heap.size 4 [.int .u8 ck,.string text,.slice ao n cap,.int .i64 num]:=mP CE (mP CF (mP CG (mP CH CC)));clear CE CF CG CH;have Pg:w2.cell? ⟨w.heap.size+1,4,none⟩=some (.int .u8 ck2):=ab h2 4;have Ph:w2.cell? ⟨w.heap.size+1,5,none⟩=some (.string jV):=ab h2 5;have Pi:w2.cell? ⟨w.heap.size+1,6,none⟩=some (.slice co m cap2):=ab h2 6;have Pj:w2.cell? ⟨w.heap.size+1,7,none⟩=some (.int .i64 kD):=ab h2 7;have ry:w2.rangeAt (w.heap.size+1) 4 [.int .u8 ck2,.string jV,.slice co m cap2,.int .i64 kD]:=mP Pg (mP Ph (mP Pi (mP Pj CC)));clear Pg Ph Pi Pj;have tN:=Hd rx;have Zz:=Hd ry;clear am h1 h2 rx ry;by_cases m6:x0=y0
 rotate_left
 ·
  have ax:g=false:=it HG.out (λ h=>m6 (by injection h));have aZ:=Hd ax;have n1:(x0==y0)=false:=beq_eq_false_iff_ne.2 m6;clear ax;go_wp2_with fail
  go_ret;exact⟨dT aZ.out.symm,bF.out⟩
 subst m6;by_cases nx:x1=y1
 rotate_left
 ·
  have ax:g=false:=it HG.out (λ h=>nx (by injection h));have aZ:=Hd ax;have n1:(x1==y1)=false:=beq_eq_false_iff_ne.2 nx;clear ax;go_wp2_with fail
  go_ret;exact⟨dT aZ.out.symm,bF.out⟩
 subst nx;by_cases eR:x2=y2
 rotate_left
 ·
  have ax:g=false:=it HG.out (λ h=>eR (by injection h));have aZ:=Hd ax;have n1:(x2==y2)=false:=beq_eq_false_iff_ne.2 eR;clear ax;go_wp2_with fail
  go_ret;exact⟨dT aZ.out.symm,bF.out⟩
 subst eR;by_cases oA:x3=y3
 rotate_left
 ·
  have ax:g=false:=it HG.out (λ h=>oA (by injection h));have aZ:=Hd ax;have n1:(x3==y3)=false:=beq_eq_false_iff_ne.2 oA;clear ax;go_wp2_with fail
  go_ret;exact⟨dT aZ.out.symm,bF.out⟩
 subst oA
 obtain⟨gg,pA⟩:∃gg:Bool,gg=true↔(⟨ck,text,xs,num⟩:lK)=⟨ck2,jV,ys,kD⟩:=by
  by_cases h:(⟨ck,text,xs,num⟩:lK)=⟨ck2,jV,ys,kD⟩
  · exact⟨true,⟨λ _=>h,λ _=>rfl⟩⟩
  exact⟨false,⟨λ h2=>(by cases h2),λ h2=>absurd h2 h⟩⟩
 have ye:=Hd pA;clear pA;go_wp2_with (first|(refine mQ (by rfl) 44 (.tmp 32) rfl w.heap.size 4 rfl [.int .u8 ck,.string text,.slice ao n cap,.int .i64 num] _ tN.out uR rfl Ae ?_)|(refine mQ (by rfl) 44 (.tmp 34) rfl (w.heap.size+1) 4 rfl [.int .u8 ck2,.string jV,.slice co m cap2,.int .i64 kD] _ Zz.out uR rfl Ae ?_))
 refine(HC.out w2 bF.out gg ye.out).mono ?_;rintro e w3 ⟨rfl,b3⟩;have k1:=(b3.block w.heap.size (by omega)).trans H1.out;have k2:=(b3.block (w.heap.size+1) (by omega)).trans H2.out;have e8:w3.cell? ⟨w.heap.size,8,none⟩=some (.slice vo p vc):=ab k1 8;have f8:w3.cell? ⟨w.heap.size+1,8,none⟩=some (.slice ww p2 dG):=ab k2 8;have kA:=Hd (bF.out.trans (b3.mono (by omega)));clear b3 k1 k2 c0 c1 c2 c3 d0 d1 d2 d3;cases gg with
 | false =>
  have ax:g=false:=it HG.out (λ h=>by
   have h3:=ye.out.2 (by injection h with a1 a2 a3 a4 a5 a6 a7 a8 a9;rw[a5,a6,a7,a8]);cases h3)
  have aZ:=Hd ax;clear ax;go_wp2_with fail
  go_ret;exact⟨dT aZ.out.symm,kA.out⟩
 | true =>
  have lZ:=ye.out.1 rfl;injection lZ with a5 a6 a7 a8
  obtain⟨gi,fl⟩:∃gi,decide (vs=us)=gi:=⟨_,rfl⟩
  have ax:g=gi:=by
   cases gi with
   | true=>exact HG.out.2 (by rw[a5,a6,a7,a8,of_decide_eq_true fl])
   | false=>exact it HG.out (λ h=>of_decide_eq_false fl (by injection h))
  have kK:=Hd fl;have aZ:=Hd ax;clear a5 a6 a7 a8 fl ax;go_wp2_with fail
  refine(HI.out w3 kA.out gi kK.out).mono ?_;rintro e w4 ⟨rfl,b4⟩;clear e8 f8;go_wp2_with fail
  go_ret;exact⟨dT aZ.out.symm,kA.out.trans (b4.mono kA.out.size)⟩
theorem Ag (n:Int)(w:World)(g:Bool)(hg:hX n=g) :
  Calls prog 34 #[.int .i64 n] w λ e w'=>e=.returned (.bool g)/\w=w':=by
 obtain⟨P,hP⟩:=kp g;rw[hP]at hg ⊢;have HG:=Hd hg;clear hg hP;by_cases h1:0<=n
 ·
  by_cases h2:n<=1099511627776
  ·
   have hf:P.1=true:=by rw[<-HG.out];exact DW.2 ⟨h1,h2⟩
   have HF:=Hd hf;clear hf HG;go_enter func34,ntmps34
   go_wp2_with fail
   go_ret;exact⟨dT HF.out.symm,rfl⟩
  have hf:P.1=false:=by rw[<-HG.out];exact Ge (λ h=>h2 h.2)
  have HF:=Hd hf;clear hf HG;go_enter func34,ntmps34
  go_wp2_with fail
  go_ret;exact⟨dT HF.out.symm,rfl⟩
 have hf:P.1=false:=by rw[<-HG.out];exact Ge (λ h=>h1 h.1)
 have HF:=Hd hf;clear hf HG;go_enter func34,ntmps34
 go_wp2_with fail
 go_ret;exact⟨dT HF.out.symm,rfl⟩
theorem Pk (ao:Option Addr)(n cap:Nat)(xs:List Int)(w:World)(B:Nat)(hn:xs.length=n)(hx:gS w B ao xs)(hl:n<=4398046511104)(g:Bool)(hg:kE xs=g) :
  Calls prog 36 #[.slice ao n cap] w λ e w'=>e=.returned (.bool g)/\w=w':=by
 have HX:=Hd hx;have HN:=Hd hn;obtain⟨P,hP⟩:=kp g;rw[hP]at hg;have HG:=Hd hg;rw[hP];clear hx hn hg hP;go_enter func36,ntmps36
 go_wp2_with fail
 go_loopw [3,4] (λ m i wr=>∃k:Nat,k<=n/\i=.int .i64 k/\m=.int .i64 ((xs.take k).getLastD 0)/\mG 0 (xs.take k)=true/\w=wr) (λ _ i _=>n-(intOf i).toNat)
 exact⟨0,by omega,rfl,rfl,rfl,rfl⟩
 obtain⟨k,hk,rfl,rfl,ky,rfl⟩:=hrel;have HA:=Hd ky;clear ky;by_cases ae:k<n
 ·
  have i1:(k:Int)<n:=by omega
  have aQ:xs[k]?=some (xs[k]'(by rw[HN.out];exact ae)):=bu _;have bJ:xs.take (k+1)=xs.take k++[xs[k]'(by rw[HN.out];exact ae)]:=iJ _;obtain⟨b,off,bm,hb,hc,_⟩:=HX.out.at aQ;generalize xs[k]'(by rw[HN.out];exact ae)=x at hc aQ bJ
  have c0:w.cell? ⟨b,off+k,none⟩=some (.int .i64 x):=by
   have:=hc 0 (by decide);rw[Nat.mul_one,Nat.add_zero]at this;exact this
  subst bm;have HT:=Hd bJ
  have wR:¬((xs.take k).getLastD 0<x/\x<=9)->P.1=false:=λ h=>by
   rw[<-HG.out];cases hh:kE xs with
   | false=>rfl
   | true =>
    unfold kE at hh;rw[Bool.and_eq_true]at hh;exact absurd (Mp xs 0 k x aQ HA.out hh.1) h
  have tW:=Hd wR;obtain⟨q,hq⟩:∃q,(xs.take k).getLastD 0=q:=⟨_,rfl⟩;rw[hq]at tW;rw[hq];have HQ:=Hd hq;clear hc aQ bJ wR hq;by_cases h1:x<=q
  ·
   have hf:=tW.out (by omega);go_wp2_with fail
   go_ret;exact⟨by first|rfl|(rw[hf];rfl),by first|rfl|trivial⟩
  by_cases h2:9<x
  ·
   have hf:=tW.out (by omega);go_wp2_with fail
   go_ret;exact⟨by first|rfl|(rw[hf];rfl),by first|rfl|trivial⟩
  have hv:mG 0 (xs.take (k+1))=true/\(xs.take (k+1)).getLastD 0=x:=by
   rw[HT.out,Mq,HA.out,HQ.out];exact⟨by simp;omega,by simp⟩
  have HV:=Hd hv;clear hv;go_wp2_with fail
  go_roundw
  exact⟨k+1,by omega,by go_num,by rw[HV.out.2],HV.out.1,by first|rfl|trivial⟩
  simp[intOf]<;>omega
 have i1:¬(k:Int)<n:=by omega
 obtain rfl:k=n:=by omega
 have ky:mG 0 xs=true:=by
  have:=HA.out;rwa [fE (by rw[HN.out];exact aa _)]at this
 have fX:P.1=(decide (1<=k) && decide (k<=7)):=by
  rw[<-HG.out];unfold kE;rw[ky,HN.out,Bool.true_and]
 have HF:=Hd fX;clear ky fX;by_cases h1:1<=k
 ·
  have j1:(1:Int)<=k:=by omega
  by_cases h2:k<=7
  ·
   have j2:(k:Int)<=7:=by omega
   go_wp2_with fail
   go_ret;exact⟨by rw[HF.out];simp[h1,h2];done,by first|rfl|trivial⟩
  have j2:¬(k:Int)<=7:=by omega
  go_wp2_with fail
  go_ret;exact⟨by rw[HF.out];simp[h2];done,by first|rfl|trivial⟩
 have j1:¬(1:Int)<=k:=by omega
 go_wp2_with fail
 go_ret;exact⟨by rw[HF.out];simp[h1];done,by first|rfl|trivial⟩
structure Mid (B T:Nat) (w w':World):Prop where
 below:Below B w w'
 far:∀b,T<=b->b<w.heap.size->w'.heap[b]?=w.heap[b]?
theorem Mid.refl (B T:Nat)(w:World):Mid B T w w:=⟨aj _ _,λ _ _ _=>rfl⟩
theorem Mid.jd {B T:Nat}{w w' w'':World}(h:Mid B T w w')(hb:Below w'.heap.size w' w'')(hB:B<=w'.heap.size):Mid B T w w'' :=
 ⟨h.below.trans (hb.mono hB),λ b h1 h2=>(hb.block b (ex h2 h.below.size)).trans (h.far b h1 h2)⟩
theorem ZA {w:World}{ops:Array Oper}{rest:List Oper}{o:Oper}{a:Act}{Q:Exit->Act->World->Prop}(jN:o.guard=none)(s x:Operand)
  (ho:o.op=.call { callee:=.builtin .append,args:=#[s,x],argTypes:=#[25,25] })
  (base:Nat) (v:Value) (l:List Int) (m:Nat) (hm:l.length=m) (hs:a.eval s=v) (az:w.ownsRow base 5 1 v m (l.map bv))
  (ao:Option Addr) (n cap:Nat) (xs:List Int) (hn:xs.length=n) (hx:a.eval x=.slice ao n cap) (B:Nat) (gq:BytesIn w B ao xs) (bm:ao=none->cap=0) (fV:m+n<=140737488351232) (nw:base<=w.heap.size)
  (h:∀v' w',w'.ownsRow base 5 1 v' (m+n) ((l++xs).map bv)->w.grownBy w' v.ownBlock->(v'.ownBlock=v.ownBlock∨v'.ownBlock=some w.heap.size)->wpList prog ops Q rest (a.put o.dst v') w'):wpList prog ops Q (o :: rest) a w:=by
 obtain⟨i0,hi,bo,bp,aU⟩:=info_parts infoByte;subst hm hn;cases ao with
 | none =>
  have kv:xs=[]:=by
   rcases gq with h|⟨b,off,h1,_⟩
   · exact h
   cases h1
  subst kv;rw[bm rfl]at hx;refine wpList_append_own_none jN s x _ ho base 5 i0 1 hJ hi v l.length _ hs az hx ?_;refine h v w (by simpa using az) ?_ (Or.inl rfl);exact World.grownBy.refl _ _
 | some ad =>
  refine wpList_append_own_at _ jN s x _ ho base 5 i0 (.int .u8 0) 1 1 hJ hi bo bp aU rfl (by decide) v l.length _ hs az ad xs.length cap (xs.map bv) hx (by simp) ?_ (r7 _) (by unfold maxLen;omega) (by omega) nw ?_
  ·
   intro j u hu;exact ze gq (aj _ _) rfl hu
  intro v' w' h1 h2 _ h3;refine h v' w' ?_ h2 h3;rw[List.map_append];exact h1
end Go.Proofs.YtepdklfkegkojaaGreatDoor
