/- Parts of one proof. Conditions: as each says. -/
import Derived.Test.YtepdklfkegkojaaGreatDoorGLetterNumbers0
import Derived.Test.YtepdklfkegkojaaGreatDoorGLetterNumbers1
import Derived.Deep.RegionHeld3
import Derived.Lib.SlBytesRow
import Derived.Lib.BufferRead
import Derived.BigQuiet
set_option linter.all false
set_option maxHeartbeats 16000000
set_option maxRecDepth 100000
namespace Go.Proofs.YtepdklfkegkojaaGreatDoor
open Go.Proofs.Tryz
open Go.RowKit
theorem Wi (V x:Int)(h0:0<=x)(h1:x<256):bits .or .i64 (wrap64 (V*256)) x=IntKind.i64.wrap (V*256+x):=by
 obtain⟨y,rfl⟩:∃y:Nat,x=y:=⟨x.toNat,by omega⟩;have e1:wrap64 (V*256)=IntKind.i64.wrap (V*256):=by simp only[wrap64,IntKind.wrap_i64]
 rw[e1];obtain⟨m,hm⟩:∃m:Nat,(m:Int)=(V*256) % 18446744073709551616:=⟨((V*256) % 18446744073709551616).toNat,by omega⟩;have ad1:m % 256=0:=by omega
 have hml:m<18446744073709551616:=by omega
 have g1:(BitVec.ofInt 64 (IntKind.i64.wrap (V*256))).toNat=m:=by
  rw[BitVec.toNat_ofInt,IntKind.wrap_i64];omega
 have g2:(BitVec.ofInt 64 (y:Int)).toNat=y:=by
  rw[BitVec.ofInt_natCast,BitVec.toNat_ofNat];exact Nat.mod_eq_of_lt (by omega)
 show IntKind.i64.wrap ((BitVec.ofInt 64 (IntKind.i64.wrap (V*256)) ||| BitVec.ofInt 64 (y:Int)).toNat:Int)=_;rw[BitVec.toNat_or,g1,g2];have h:=Nat.two_pow_add_eq_or_of_lt (i:=8) (b:=y) (by omega) (m / 256);have e:2 ^ 8*(m / 256)=m:=by omega
 rw[e]at h;rw[<-h,IntKind.wrap_i64,IntKind.wrap_i64];omega
def SaidAt (M rb:Nat) (v:Int) (bad:Bool) (left:List Int) (w:World) (e:Ending) (w':World):Prop :=
 e=.returned (.int .i64 v)/\Rdr w' M rb bad left/\Only rb w w'
theorem DQ (M rb n:Nat)(bad:Bool)(left:List Int)(w:World)(h:Rdr w M rb bad left)(hw:BytesWf left)(hl:left.length<=140737488351232)(hn:n<=8) :
  Calls prog 194 #[.pointer (some ⟨rb,0,none⟩),.int .i64 n] w (SaidAt M rb (IntKind.i64.wrap (cC (bw n bad left).1)) (bw n bad left).2.1 (bw n bad left).2.2 w):=by
 have H:=Hd h;obtain⟨got,zn,Bh,j8⟩:∃got zn Bh,bw n bad left=(got,zn,Bh):=⟨_,_,_,rfl⟩
 have cN:BytesWf got:=by
  intro x hx;unfold bw at j8;split at j8
  ·
   obtain⟨rfl,_⟩:=Prod.mk.injEq ..▸j8;cases hx
  obtain⟨rfl,_⟩:=Prod.mk.injEq ..▸j8;exact hw x (zl hx)
 have cw:got.length<=n:=by
  unfold bw at j8;split at j8
  ·
   obtain⟨rfl,_⟩:=Prod.mk.injEq ..▸j8;simp
  obtain⟨rfl,_⟩:=Prod.mk.injEq ..▸j8;exact List.length_take_le _ _
 rw[j8];dsimp only;have HT:=Hd j8;have dE:=Hd cN;clear h j8 cN hw;go_enter func194,ntmps194
 go_wp2_with fail
 refine(Lj M rb n bad left w H.out hl (by omega)).mono ?_;rintro e w1 ht;rw[HT.out]at ht;obtain⟨a,c,rfl,ho,kv,hc,hr,hon⟩:=ht;dsimp only at ho hr hc ⊢;obtain⟨g,hg⟩:∃g,got.length=g:=⟨_,rfl⟩;rw[hg]at hc cw ⊢;have HG:=Hd hg;have HO:=Hd ho;have HR:=Hd hr;have uc:=Hd hon;clear hg ho hr hon kv;go_wp2_with fail
 go_loopw [5,12] (λ v i wr=>∃k:Nat,k<=g/\i=.int .i64 k/\v=.int .i64 (IntKind.i64.wrap (cC (got.take k)))/\wr=w1) (λ _ i _=>g-(intOf i).toNat)
 exact⟨0,by omega,rfl,by rfl,rfl⟩
 obtain⟨k,hk,rfl,rfl,rfl⟩:=hrel;by_cases ae:k<g
 ·
  rcases HO.out with h0|⟨b,off,bm,hb,_,jM⟩
  · have:=HG.out;rw[h0]at this;simp at this;omega
  have aQ:k<got.length:=by rw[HG.out];exact ae
  have c0:=jM k aQ;have hx:=dE.out (got.getD k 0) (by simp[List.getD,bu aQ])
  have hsn:cC (got.take (k+1))=cC (got.take k)*256+got.getD k 0:=by
   rw[iJ aQ,Bf];simp[List.getD,bu aQ]
  generalize got.getD k 0=x at c0 hx hsn;obtain⟨N,hN⟩:∃N,cC (got.take k)=N:=⟨_,rfl⟩;rw[hN]at hsn ⊢;obtain⟨V,hV⟩:∃V,IntKind.i64.wrap N=V:=⟨_,rfl⟩;rw[hV];have Bi:=Hd hsn;have HN:=Hd hN;have HV:=Hd hV;have i1:(k:Int)<g:=by omega
  subst bm;obtain⟨m6,nx⟩:=hx;clear jM hsn hN hV;go_wp2_with fail
  go_roundw
  case rel =>
   refine⟨k+1,by omega,by go_num,?_,by trivial⟩;rw[Bi.out,Wi V x m6 nx,<-HV.out];congr 1
   rw[IntKind.wrap_i64,IntKind.wrap_i64,IntKind.wrap_i64];omega
  simp[intOf];omega
 obtain rfl:k=g:=by omega
 have hf:got.take k=got:=fE (by rw[HG.out];exact aa _);rw[hf];clear hf;go_wp2_with fail
 go_ret;exact⟨rfl,HR.out,uc.out⟩
theorem Rdr.cells {w:World}{M rb:Nat}{bad:Bool}{left:List Int}(h:Rdr w M rb bad left):∃a c,w.cell? ⟨rb,0,none⟩=some (.bool true)/\w.cell? ⟨rb,1,none⟩=some (.bool bad)/\w.cell? ⟨rb,2,none⟩=some (.slice a left.length c)/\w.frozen? ⟨rb,1,none⟩=false:=by
 obtain⟨a,c,h⟩:=h;exact⟨a,c,ab h.blk 0,ab h.blk 1,ab h.blk 2,aO h.blk 1⟩
theorem Rdr.mE {w:World}{M rb:Nat}{bad:Bool}{left:List Int}(h:Rdr w M rb bad left)(x:Bool):Rdr (w.setCell ⟨rb,1,none⟩ (.bool x)) M rb x left:=by
 obtain⟨a,c,h⟩:=h;exact⟨a,c,h.mE x⟩
theorem Rdr.lt {w:World}{M rb:Nat}{bad:Bool}{left:List Int}(h:Rdr w M rb bad left):rb<w.heap.size:=by obtain⟨a,c,h⟩:=h;exact h.lt
theorem vr (M rb:Nat)(bad:Bool)(left:List Int)(w:World)(h:Rdr w M rb bad left) :
  Calls prog 132 #[.pointer (some ⟨rb,0,none⟩)] w λ e w'=>e=.returned (.bool true)/\w=w':=by
 obtain⟨a,c,d0,_,_,_⟩:=h.cells;clear h;go_enter func132,ntmps132
 go_wp2_with fail
 go_ret;exact⟨rfl,rfl⟩
theorem mr {n:Nat}{bad:Bool}{left:List Int}(h:BytesWf left):BytesWf (bw n bad left).1/\BytesWf (bw n bad left).2.2/\(bw n bad left).1.length<=n/\(bw n bad left).2.2.length<=left.length:=by
 unfold bw;split
 · exact⟨(λ x hx=>by cases hx),h,by simp,aa _⟩
 exact⟨h.take n,h.drop n,List.length_take_le _ _,by simp⟩
theorem tA {l:List Int}(h:BytesWf l){n:Nat}(hl:l.length<=n):0<=cC l/\cC l<256 ^ n:=by
 have h1:=Fw l h;refine⟨h1.1,Int.lt_of_lt_of_le h1.2 ?_⟩;have:(256:Nat) ^ l.length<=256 ^ n:=Nat.pow_le_pow_right (by decide) hl;exact_mod_cast this
theorem Lk (M rb:Nat)(bad:Bool)(left:List Int)(w:World)(h:Rdr w M rb bad left)(hw:BytesWf left)(hl:left.length<=140737488351232) :
  Calls prog 134 #[.pointer (some ⟨rb,0,none⟩)] w λ e w'=>e=.returned (.int .u8 (cC (bw 1 bad left).1))/\Rdr w' M rb (bw 1 bad left).2.1 (bw 1 bad left).2.2/\Only rb w w':=by
 have H:=Hd h;have hs:=DQ M rb 1 bad left w h hw hl (by omega);have hb:=tA (mr (n:=1) (bad:=bad) hw).1 (mr (n:=1) (bad:=bad) hw).2.2.1;generalize (bw 1 bad left)=r at hs hb ⊢;obtain⟨got,zn,Bh⟩:=r;dsimp only at hs hb ⊢;obtain⟨N,hN⟩:∃N,cC got=N:=⟨_,rfl⟩;rw[hN]at hs hb ⊢;have Bj:IntKind.i64.wrap N=N:=jU _ (by omega);rw[Bj]at hs;have HS:=Hd hs;have ba:0<=N:=hb.1;have am:N<=255:=by have:=hb.2;omega
 clear hs hb hN Bj h;go_enter func134,ntmps134
 go_wp2_with fail
 refine HS.out.mono ?_;rintro e w1 ⟨rfl,hr,ho⟩;have HR:=Hd hr;clear hr;go_wp2_with fail
 go_ret;exact⟨rfl,HR.out,ho⟩
def di (bad:Bool) (left:List Int):Int×Bool×List Int:=if(bw 4 bad left).2.1=true∨65536<cC (bw 4 bad left).1 then(0,true,(bw 4 bad left).2.2)else(cC (bw 4 bad left).1,false,(bw 4 bad left).2.2)
theorem FE (M rb:Nat)(bad:Bool)(left:List Int)(w:World)(h:Rdr w M rb bad left)(hw:BytesWf left)(hl:left.length<=140737488351232) :
  Calls prog 198 #[.pointer (some ⟨rb,0,none⟩)] w (SaidAt M rb (di bad left).1 (di bad left).2.1 (di bad left).2.2 w):=by
 have hs:=DQ M rb 4 bad left w h hw hl (by omega);have hb:=tA (mr (n:=4) (bad:=bad) hw).1 (mr (n:=4) (bad:=bad) hw).2.2.1;unfold di;generalize (bw 4 bad left)=r at hs hb ⊢;obtain⟨got,zn,Bh⟩:=r;dsimp only at hs hb ⊢;obtain⟨N,hN⟩:∃N,cC got=N:=⟨_,rfl⟩;rw[hN]at hs hb ⊢;have Bj:IntKind.i64.wrap N=N:=jU _ (by omega);rw[Bj]at hs;have HS:=Hd hs;have ba:0<=N:=hb.1;have am:N<=4294967295:=by have:=hb.2;omega
 clear hs hb hN Bj h;cases zn with
 | true =>
  rw[if_pos (Or.inl rfl)];dsimp only;go_enter func198,ntmps198
  go_wp2_with fail
  refine HS.out.mono ?_;rintro e w1 ⟨rfl,hr,ho⟩;obtain⟨a,c,_,d1,_,f1⟩:=hr.cells;have HR:=Hd hr;have HO:=Hd ho;clear hr ho;go_wp2_with fail
  go_ret;exact⟨rfl,HR.out.mE true,HO.out.trans (Only.set _ _ _ _)⟩
 | false =>
  by_cases hgt:65536<N
  ·
   rw[if_pos (Or.inr hgt)];dsimp only;go_enter func198,ntmps198
   go_wp2_with fail
   refine HS.out.mono ?_;rintro e w1 ⟨rfl,hr,ho⟩;obtain⟨a,c,_,d1,_,f1⟩:=hr.cells;have HR:=Hd hr;have HO:=Hd ho;clear hr ho;go_wp2_with fail
   go_ret;exact⟨rfl,HR.out.mE true,HO.out.trans (Only.set _ _ _ _)⟩
  rw[if_neg (by simp;omega)];dsimp only;have my:N<=65536:=by omega
  have hd:decide ((65536:Int)<N)=false:=by simpa using my
  go_enter func198,ntmps198
  go_wp2_with fail
  refine HS.out.mono ?_;rintro e w1 ⟨rfl,hr,ho⟩;obtain⟨a,c,_,d1,_,f1⟩:=hr.cells;have HR:=Hd hr;have HO:=Hd ho;clear hr ho;go_wp2_with fail
  go_ret;exact⟨rfl,HR.out.mE false,HO.out.trans (Only.set _ _ _ _)⟩
theorem Ll (M rb:Nat)(bad:Bool)(left:List Int)(w:World)(h:Rdr w M rb bad left)(hw:BytesWf left)(hl:left.length<=140737488351232) :
  Calls prog 131 #[.pointer (some ⟨rb,0,none⟩)] w (SaidAt M rb (IntKind.i64.wrap (cC (bw 8 bad left).1)) (bw 8 bad left).2.1 (bw 8 bad left).2.2 w):=by
 have HK:=Hd (vr M rb bad left w h);have HS:=Hd (DQ M rb 8 bad left w h hw hl (by omega));clear h;generalize IntKind.i64.wrap (cC (bw 8 bad left).1)=V at HS ⊢;go_enter func131,ntmps131
 go_wp2_with fail
 refine HK.out.mono ?_;rintro e w1 ⟨rfl,rfl⟩;go_wp2_with fail
 refine HS.out.mono ?_;rintro e w1 ⟨rfl,hr,ho⟩;have HR:=Hd hr;clear hr;go_wp2_with fail
 go_ret;exact⟨rfl,HR.out,ho⟩
theorem Wj (M rb:Nat)(bad:Bool)(left:List Int)(w:World)(h:Rdr w M rb bad left) :
  Calls prog 74 #[.pointer (some ⟨rb,0,none⟩)] w λ e w'=>e=.returned (.bool bad)/\w=w':=by
 have HK:=Hd (vr M rb bad left w h);obtain⟨a,c,_,d1,_,_⟩:=h.cells;clear h;go_enter func74,ntmps74
 go_wp2_with fail
 refine HK.out.mono ?_;rintro e w1 ⟨rfl,rfl⟩;go_wp2_with fail
 go_ret;exact⟨rfl,rfl⟩
theorem Wk (M rb:Nat)(bad:Bool)(left:List Int)(w:World)(h:Rdr w M rb bad left) :
  Calls prog 148 #[.pointer (some ⟨rb,0,none⟩)] w λ e w'=>e=.returned (.bool (!bad && left.isEmpty))/\w=w':=by
 have HK:=Hd (vr M rb bad left w h);obtain⟨a,c,_,d1,d2,_⟩:=h.cells;clear h;cases bad with
 | true =>
  go_enter func148,ntmps148
  go_wp2_with fail
  refine HK.out.mono ?_;rintro e w1 ⟨rfl,rfl⟩;go_wp2_with fail
  go_ret;exact⟨rfl,rfl⟩
 | false =>
  obtain⟨n,hn⟩:∃n,left.length=n:=⟨_,rfl⟩;rw[hn]at d2;have he:left.isEmpty=decide (n=0):=by rw[<-hn];cases left<;>simp
  rw[he];clear hn he;by_cases h0:n=0
  ·
   subst h0;go_enter func148,ntmps148
   go_wp2_with fail
   refine HK.out.mono ?_;rintro e w1 ⟨rfl,rfl⟩;go_wp2_with fail
   go_ret;exact⟨rfl,rfl⟩
  have d3:decide (n=0)=false:=by simpa using h0
  have d4:¬(n:Int)=0:=by omega
  have d5:decide ((n:Int)=0)=false:=by simpa using h0
  have d6:((n:Int)==0)=false:=by simpa using h0
  rw[d3];go_enter func148,ntmps148
  go_wp2_with fail
  refine HK.out.mono ?_;rintro e w1 ⟨rfl,rfl⟩;go_wp2_with fail
  go_ret;exact⟨rfl,rfl⟩
theorem FF (ao:Option Addr)(n cap:Nat)(xs:List Int)(w:World)(B:Nat)(hn:xs.length=n)(hx:BytesIn w B ao xs)(hB:B<=w.heap.size)(bm:ao=none->cap=0)(hl:n<=140737488351232) :
  Calls prog 70 #[.slice ao n cap] w λ e w'=>∃rb,e=.returned (.pointer (some ⟨rb,0,none⟩))/\w.heap.size<=rb/\Rdr w' rb rb false xs/\Below w.heap.size w w':=by
 subst hn;have HX:=Hd hx;have HA:=Hd bm;clear hx bm;go_enter func70,ntmps70
 go_wp2_with fail
 refine(DP ao cap xs w B HX.out hB HA.out hl).mono ?_;rintro e w1 ⟨v,rfl,ho,hb⟩;obtain⟨a,c,hv⟩:=jz ho;subst hv;have HO:=Hd ho;clear ho;go_wp2_with fail
 go_ret;have hA:Below w1.heap.size w1 (w1.alloc (.cells #[.bool true,.bool false,.slice a xs.length c] 195)):=(aj _ _).alloc (aa _) _;refine⟨w1.heap.size,rfl,hb.size,⟨a,c,heap_alloc_new w1 _,?_,mp HO.out,iW HO.out,by simp⟩,hb.alloc hb.size _⟩;rcases(vm HO.out)with h|⟨b,off,h1,h2,h3⟩
 · exact Or.inl h
 refine Or.inr ⟨b,off,h1,h2,by omega,λ i hi=>?_⟩;rw[hA.cell (p:=⟨b,_,none⟩) h2];exact h3 i hi
variable {P:Program} {md:Region.Mode} {ops:Array Oper} {Q:Exit->Act->World->Prop}
theorem r9 (i:Nat){oi:Oper}{fuel:Nat}{listed:Array Bool}{a:Act}{w:World}(hi:ops.toList[i]?=some oi)(hs:Region.noSelect ops=true)(hf:Region.free md ops listed i=true)(hr:(Region.ready md ops listed).contains i=true)
  (hQ:∀c a w,Q (.panic c) (a.put oi.dst undef) w->Q (.panic c) a w) (hw:Region.wanted oi (yielded ops a.tmps)=false) (h:wpAnyH P md ops Q (λ _=>True) fuel (listed.setIfInBounds i true) (a.put oi.dst undef) w):wpAnyH P md ops Q (λ _=>True) (fuel+1) listed a w :=
 wpAnyH_take (by rw[<-Array.getElem?_toList];exact hi) hs hf hr hQ (Or.inr ⟨hw,rfl⟩) trivial h
theorem sc (i:Nat){oi:Oper}{v:Value}{fuel:Nat}{listed:Array Bool}{a:Act}{w:World}(hi:ops.toList[i]?=some oi)(hs:Region.noSelect ops=true)(hf:Region.free md ops listed i=true)(hr:(Region.ready md ops listed).contains i=true)
  (hQ:∀c a w,Q (.panic c) (a.put oi.dst v) w->Q (.panic c) a w) (hw:Region.wanted oi (yielded ops a.tmps)=true) (hy:∀w,(execOp a.eval oi).run P w=.ok (.value v) w) (h:wpAnyH P md ops Q (λ _=>True) fuel (listed.setIfInBounds i true) (a.put oi.dst v) w):wpAnyH P md ops Q (λ _=>True) (fuel+1) listed a w :=
 wpAnyH_take (by rw[<-Array.getElem?_toList];exact hi) hs hf hr hQ (Or.inl ⟨hw,λ w _=>hy w⟩) trivial h
theorem vt (i:Nat){oi:Oper}{fuel:Nat}{listed:Array Bool}{a:Act}{w:World}(hi:ops.toList[i]?=some oi)(hr:Region.ready md ops listed=[i])(hw:Region.wanted oi (yielded ops a.tmps)=true)
  (h:∀K':Act->World->Prop,Shut (∀a w,wpAnyH P md ops Q (λ _=>True) fuel (listed.setIfInBounds i true) a w->K' a w)->Oper.wp P oi a w K' Q):wpAnyH P md ops Q (λ _=>True) (fuel+1) listed a w :=
 wpAnyH_ready (rs:=[i]) hr (by simp) (AllReadyH.cons (by rw[<-Array.getElem?_toList];exact hi) (λ K hK=>by rw[if_pos hw];exact h K (λ a w hW=>hK.out a w trivial (λ _=>hW))) AllReadyH.nil)
theorem Lm {id:Nat}{a:Act}{w:World}(hm:P.follows .mixedOrders=true)(h:wpAnyH P .any ops Q (λ _=>True) ops.size (Array.replicate ops.size false) a w.drew):(Code.region id ops true).wp P Q a w :=
 wp_region_held_drew hm trivial (λ _=>h)
def vu (l:List Int):ByteArray:=strOfNums l
theorem Ln {w:World}{M rb c:Nat}{a:Option Addr}{l:List Int}(h:mD w M rb a l)(hn:a=none->c=0):(convert 25 9 (.slice a l.length c)).run prog w=.ok (.string (vu l)) w:=by
 rcases h with rfl|⟨b,off,rfl,_,_,h3⟩
 ·
  cases a with
  | none =>
   rw[run_convert_bytes_string w _ _ 5 none _ c hJ underlying5 underlying9];simp[Conv.bytesToString];rfl
  | some ad =>
   rw[run_convert_bytes_string w _ _ 5 (some ad) _ c hJ underlying5 underlying9];simp[Conv.bytesToString];rfl
 exact run_convert_bytes_arg w _ 5 hJ underlying5 b off l.length c l rfl h3 _ underlying9
def iY (bad:Bool) (left:List Int):ByteArray×Bool×List Int :=
 let r:=bw (di bad left).1.toNat (di bad left).2.1 (di bad left).2.2
 (vu r.1,r.2.1,r.2.2)
theorem pF {bad:Bool}{left:List Int}(h:BytesWf left):0<=(di bad left).1/\(di bad left).1<=65536/\BytesWf (di bad left).2.2/\(di bad left).2.2.length<=left.length:=by
 have h1:=mr (n:=4) (bad:=bad) h;have h2:=tA h1.1 h1.2.2.1;unfold di;split
 · exact⟨by simp,by simp,h1.2.1,h1.2.2.2⟩
 rename_i hc;exact⟨h2.1,by show cC _<=_;rcases Int.lt_or_le 65536 (cC (bw 4 bad left).1)with h|h;exact absurd (Or.inr h) hc;exact h,h1.2.1,h1.2.2.2⟩
theorem Lo (M rb:Nat)(bad:Bool)(left:List Int)(w:World)(h:Rdr w M rb bad left)(hw:BytesWf left)(hl:left.length<=140737488351232) :
  Calls prog 195 #[.pointer (some ⟨rb,0,none⟩)] w λ e w'=>e=.returned (.string (iY bad left).1)/\Rdr w' M rb (iY bad left).2.1 (iY bad left).2.2/\Only rb w w':=by
 have HK:=Hd (vr M rb bad left w h);have jj:=pF (bad:=bad) hw;have hct:=λ w1 (hr:Rdr w1 M rb bad left)=>FE M rb bad left w1 hr hw hl
 unfold iY;generalize di bad left=r at jj hct ⊢;obtain⟨n,b1,l1⟩:=r;dsimp only at jj hct ⊢;obtain⟨oy,hn1,Wl,pu⟩:=jj;obtain⟨m,rfl⟩:∃m:Nat,n=m:=⟨n.toNat,by omega⟩;rw[Int.toNat_natCast];obtain⟨q,hq⟩:∃q,bw m b1 l1=q:=⟨_,rfl⟩;have qU:=Hd (λ w1 (hr:Rdr w1 M rb b1 l1)=>hq▸Lj M rb m b1 l1 w1 hr (by omega) (by omega));rw[hq];have Wm:=Hd hct;have H:=Hd h;clear h hct hq hw Wl;obtain⟨got,b2,l2⟩:=q;dsimp only;go_enter func195,ntmps195
 go_wp2_with fail
 refine HK.out.mono ?_;rintro e w1 ⟨rfl,rfl⟩;go_wp2_with fail
 have hd:Rdr w.drew M rb bad left:=H.out.below (aj _ _).drew;have HD:=Hd hd;clear hd;refine Lm (by kernel_rfl) ?_
 (first|(refine r9 0 rfl (by kernel_rfl) (by kernel_rfl) (by kernel_rfl) (λ _ _ _ h=>h) (by rfl) ?_)|(refine sc (v:=?_) 0 rfl (by kernel_rfl) (by kernel_rfl) (by kernel_rfl) (λ _ _ _ h=>h) (by rfl) ?_ ?_;rotate_left;focus(intro wS;go_simp;first|done|with_reducible rfl)))
 (try simp only[Act.put,ssa,aq,ar])
 (first|(refine r9 1 rfl (by kernel_rfl) (by kernel_rfl) (by kernel_rfl) (λ _ _ _ h=>h) (by rfl) ?_)|(refine sc (v:=?_) 1 rfl (by kernel_rfl) (by kernel_rfl) (by kernel_rfl) (λ _ _ _ h=>h) (by rfl) ?_ ?_;rotate_left;focus(intro wS;go_simp;first|done|with_reducible rfl)))
 (try simp only[Act.put,ssa,aq,ar])
 (first|(refine r9 2 rfl (by kernel_rfl) (by kernel_rfl) (by kernel_rfl) (λ _ _ _ h=>h) (by rfl) ?_)|(refine sc (v:=?_) 2 rfl (by kernel_rfl) (by kernel_rfl) (by kernel_rfl) (λ _ _ _ h=>h) (by rfl) ?_ ?_;rotate_left;focus(intro wS;go_simp;first|done|with_reducible rfl)))
 (try simp only[Act.put,ssa,aq,ar])
 (first|(refine r9 3 rfl (by kernel_rfl) (by kernel_rfl) (by kernel_rfl) (λ _ _ _ h=>h) (by rfl) ?_)|(refine sc (v:=?_) 3 rfl (by kernel_rfl) (by kernel_rfl) (by kernel_rfl) (λ _ _ _ h=>h) (by rfl) ?_ ?_;rotate_left;focus(intro wS;go_simp;first|done|with_reducible rfl)))
 (try simp only[Act.put,ssa,aq,ar])
 (first|(refine r9 4 rfl (by kernel_rfl) (by kernel_rfl) (by kernel_rfl) (λ _ _ _ h=>h) (by rfl) ?_)|(refine sc (v:=?_) 4 rfl (by kernel_rfl) (by kernel_rfl) (by kernel_rfl) (λ _ _ _ h=>h) (by rfl) ?_ ?_;rotate_left;focus(intro wS;go_simp;first|done|with_reducible rfl)))
 (try simp only[Act.put,ssa,aq,ar])
 (first|(refine r9 5 rfl (by kernel_rfl) (by kernel_rfl) (by kernel_rfl) (λ _ _ _ h=>h) (by rfl) ?_)|(refine sc (v:=?_) 5 rfl (by kernel_rfl) (by kernel_rfl) (by kernel_rfl) (λ _ _ _ h=>h) (by rfl) ?_ ?_;rotate_left;focus(intro wS;go_simp;first|done|with_reducible rfl)))
 (try simp only[Act.put,ssa,aq,ar])
 refine vt 6 rfl (by kernel_rfl) (by rfl) (λ K hK=>?_);go_simp
 (refine(Wm.out _ HD.out).mono ?_;rintro e w2 ⟨rfl,lS,ho2⟩;have HR2:=Hd lS;have jA:=Hd ho2;clear lS ho2)
 refine hK.out _ _ ?_;clear hK K
 (try simp only[Act.put,ssa,aq,ar])
 refine vt 7 rfl (by kernel_rfl) (by rfl) (λ K hK=>?_);go_simp
 (refine(qU.out _ HR2.out).mono ?_;rintro e w3 ⟨a,c,rfl,rZ,kv,hcap,kQ,iT⟩;have Lp:=Ln rZ kv;dsimp only at Lp kQ ⊢;have HR3:=Hd kQ;have kW:=Hd (jA.out.trans iT);clear kQ iT rZ kv hcap)
 refine hK.out _ _ ?_;clear hK K
 (try simp only[Act.put,ssa,aq,ar])
 refine vt 8 rfl (by kernel_rfl) (by rfl) (λ K hK=>?_);go_simp
 skip
 refine hK.out _ _ ?_;clear hK K
 (try simp only[Act.put,ssa,aq,ar])
 (first|(refine r9 9 rfl (by kernel_rfl) (by kernel_rfl) (by kernel_rfl) (λ _ _ _ h=>h) (by rfl) ?_)|(refine sc (v:=?_) 9 rfl (by kernel_rfl) (by kernel_rfl) (by kernel_rfl) (λ _ _ _ h=>h) (by rfl) ?_ ?_;rotate_left;focus(intro wS;go_simp;first|done|with_reducible rfl)))
 (try simp only[Act.put,ssa,aq,ar])
 refine wpAnyH_done (by kernel_rfl) ?_ _;clear Lp;go_wp2_with fail
 go_ret;exact⟨rfl,HR3.out,⟨kW.out.1,kW.out.2,kW.out.3⟩⟩
def Va.val (v:Va):Value:=.agg #[.int .u8 v.kind,.int .i64 v.num,.string v.text]
def Va.none:Va:=⟨0,0,ByteArray.empty⟩
theorem FG (M rb:Nat)(bad:Bool)(left:List Int)(kd num:Int)(text:ByteArray)(w:World)(h:Rdr w M rb bad left) :
  Calls prog 224 #[.pointer (some ⟨rb,0,none⟩),.agg #[.int .u8 kd,.int .i64 num,.string text]] w λ e w'=>e=.returned (if bad then Va.none.val else .agg #[.int .u8 kd,.int .i64 num,.string text])/\Below w.heap.size w w':=by
 obtain⟨a,c,_,d1,_,_⟩:=h.cells;have ae:=h.lt
 have dA:∀o1 o2 o3,(((w.alloc o1).alloc o2).alloc o3).cell? ⟨rb,1,none⟩=some (.bool bad):=λ o1 o2 o3=>by
  have hb:=(((aj w.heap.size w).alloc (aa _) o1).alloc (by simp) o2).alloc (by simp;omega) o3;rw[hb.cell (p:=⟨rb,1,none⟩) ae];exact d1
 clear h d1;cases bad with
 | true =>
  go_enter func224,ntmps224
  go_wp2_with fail
  exact bodyPost_ret (v:=.agg #[.int .u8 0,.int .i64 0,.string ByteArray.empty]) (by simp[results,results224,go_sem];rfl) rfl ⟨rfl,(((aj w.heap.size w).alloc (aa _) _).alloc (by simp) _).alloc (by simp;omega) _⟩
 | false =>
  go_enter func224,ntmps224
  go_wp2_with fail
  exact bodyPost_ret (v:=.agg #[.int .u8 kd,.int .i64 num,.string text]) (by simp[results,results224,go_sem]) rfl ⟨rfl,(((aj w.heap.size w).alloc (aa _) _).alloc (by simp) _).alloc (by simp;omega) _⟩
theorem Only.new {rb g i:Nat}{w w':World}(h:Only rb w w')(hg:w.heap.size<=g)(v:Value):Only rb w (w'.setCell ⟨g,i,none⟩ v) :=
 ⟨by simpa using h.1,λ b hb hn=>(heap_setCell_other _ _ _ _ (show b≠g by omega)).trans (h.2 b hb hn),h.3⟩
theorem Only.alloc {rb:Nat}{w w':World}(h:Only rb w w')(o:Obj):Only rb w (w'.alloc o):=h.trans (Only.of_below ((aj _ _).alloc (aa _) o))
theorem Bk {w:World}{g:Nat}{a b c:Value}{T:TypeId}(h:w.heap[g]?=some (.cells #[a,b,c] T (0,0)))(x y z:Value):(((w.setCell ⟨g,0,none⟩ x).setCell ⟨g,1,none⟩ y).setCell ⟨g,2,none⟩ z).heap[g]?=some (.cells #[x,y,z] T (0,0)) :=
 br (i:=2) (br (i:=1) (br (i:=0) h x) y) z
def fF (bad:Bool) (left:List Int):Va×Bool×List Int :=
 let k:=bw 1 bad left
 let kd:=cC k.1
 if kd=1 then
  let r:=bw 8 k.2.1 k.2.2
  (if r.2.1 then Va.none else⟨1,IntKind.i64.wrap (cC r.1),ByteArray.empty⟩,r.2.1,r.2.2)
 else if kd=2 then
  let r:=iY k.2.1 k.2.2
  (if r.2.1 then Va.none else⟨2,0,r.1⟩,r.2.1,r.2.2)
 else(Va.none,true,k.2.2)
theorem Wn (M rb:Nat)(bad:Bool)(left:List Int)(w:World)(h:Rdr w M rb bad left)(hw:BytesWf left)(hl:left.length<=140737488351232) :
  Calls prog 218 #[.pointer (some ⟨rb,0,none⟩)] w λ e w'=>e=.returned (fF bad left).1.val/\Rdr w' M rb (fF bad left).2.1 (fF bad left).2.2/\Only rb w w':=by
 have ny:=h.lt;have hM:M<=w.heap.size:=by obtain⟨a,c,h⟩:=h;exact h.le
 have hA:=(aj w.heap.size w).alloc (aa _) (.cells #[.int .u8 0,.int .i64 0,.string ByteArray.empty] 50);have h0:Rdr (w.alloc (.cells #[.int .u8 0,.int .i64 0,.string ByteArray.empty] 50)) M rb bad left:=h.below hA;have o0:Only rb w (w.alloc (.cells #[.int .u8 0,.int .i64 0,.string ByteArray.empty] 50)):=Only.of_below hA;have k0:=heap_alloc_new w (.cells #[.int .u8 0,.int .i64 0,.string ByteArray.empty] 50);have s0:(w.alloc (.cells #[.int .u8 0,.int .i64 0,.string ByteArray.empty] 50)).heap.size=w.heap.size+1:=by simp
 have H0:=Hd h0;have O0:=Hd o0;have K0:=Hd k0;have S0:=Hd s0;obtain⟨v,b3,l3,hv⟩:∃v b3 l3,fF bad left=(v,b3,l3):=⟨_,_,_,rfl⟩;rw[hv];dsimp only;have hwk:=mr (n:=1) (bad:=bad) hw;have DF:=λ w1 (hr:Rdr w1 M rb bad left)=>Lk M rb bad left w1 hr hw hl
 unfold fF at hv;generalize bw 1 bad left=r at hwk DF hv;obtain⟨got,b1,l1⟩:=r;dsimp only at hwk DF hv;generalize cC got=kd at DF hv;have HV:=Hd hv;have HK:=Hd DF;have HW:=Hd hwk;have pu:l1.length<=140737488351232:=by have:=hwk.2.2.2;omega
 clear h hA h0 o0 k0 s0 DF hwk hw hv;go_enter func218,ntmps218
 go_wp2_with fail
 refine(vr M rb bad left _ H0.out).mono ?_;rintro e w1 ⟨rfl,rfl⟩;go_wp2_with fail
 refine(HK.out _ H0.out).mono ?_;rintro e w1 ⟨rfl,pv,ho1⟩;have dB:=ho1.1;rw[S0.out]at dB;have hblk1:=(ho1.2 w.heap.size (by rw[S0.out];omega) (by omega)).trans K0.out;have R1:=Hd pv;have O1:=Hd (O0.out.trans ho1);have B1:=Hd hblk1;clear pv ho1 hblk1;have hA1:=λ o=>(aj w1.heap.size w1).alloc (aa _) o
 by_cases dH:kd=1
 ·
  subst dH;go_wp2_with fail
  have tB:=Ll M rb b1 l1 _ (R1.out.below (hA1 (.cells #[.int .u8 1,.int .i64 0,.string ByteArray.empty] 50))) HW.out.2.1 pu;have hv:=HV.out;rw[if_pos (by trivial)]at hv;generalize bw 8 b1 l1=r at tB hv;obtain⟨Wo,b2,l2⟩:=r;dsimp only at tB hv;generalize IntKind.i64.wrap (cC Wo)=num at tB hv;have gh:=Hd hv;clear hv;refine tB.mono ?_;rintro e w2 ⟨rfl,lS,ho2⟩;have fM:=ho2.1;simp only[World.size_alloc]at fM;have ht:=(ho2.2 w1.heap.size (by simp) (by omega)).trans (heap_alloc_new w1 (.cells #[.int .u8 1,.int .i64 0,.string ByteArray.empty] 50));have e0:w2.cell? ⟨w1.heap.size,0,none⟩=some (.int .u8 1):=ab ht 0;have e1:w2.cell? ⟨w1.heap.size,1,none⟩=some (.int .i64 0):=ab ht 1;have e2:w2.cell? ⟨w1.heap.size,2,none⟩=some (.string ByteArray.empty):=ab ht 2;have f1:w2.frozen? ⟨w1.heap.size,1,none⟩=false:=aO ht 1;have hz:=(ho2.2 w.heap.size (by simp;omega) (by omega)).trans (((nc w1 (.cells #[.int .u8 1,.int .i64 0,.string ByteArray.empty] 50) Option.none).block w.heap.size (by omega) (by simp)).trans B1.out);have R2:=Hd lS;have O2:=Hd ((O1.out.alloc _).trans ho2);have Z2:=Hd hz;clear lS ho2 hz ht tB;go_wp2_with fail
  refine(FG M rb b2 l2 1 num ByteArray.empty _ (R2.out.other (by omega) (by omega) (.int .i64 num))).mono ?_;rintro e w3 ⟨he,ap⟩;have dN:=(ap.block w.heap.size (by simp;omega)).trans ((heap_setCell_other _ _ _ _ (show w.heap.size≠w1.heap.size by omega)).trans Z2.out);have kQ:=(R2.out.other (g:=w1.heap.size) (i:=1) (by omega) (by omega) (.int .i64 num)).below ap;have iT:=(O2.out.new (g:=w1.heap.size) (i:=1) (by omega) (.int .i64 num)).trans (Only.of_below ap);clear e0 e1 e2 f1 ap R2 O2 Z2;have z0:w3.cell? ⟨w.heap.size,0,none⟩=some (.int .u8 0):=ab dN 0;have z1:w3.cell? ⟨w.heap.size,1,none⟩=some (.int .i64 0):=ab dN 1;have z2:w3.cell? ⟨w.heap.size,2,none⟩=some (.string ByteArray.empty):=ab dN 2;have g0:w3.frozen? ⟨w.heap.size,0,none⟩=false:=aO dN 0;have g1:w3.frozen? ⟨w.heap.size,1,none⟩=false:=aO dN 1;have g2:w3.frozen? ⟨w.heap.size,2,none⟩=false:=aO dN 2;have R3:=Hd kQ;have O3:=Hd iT;have Z3:=Hd dN;clear kQ iT dN;cases b2 with
  | true =>
   rw[if_pos rfl]at he;unfold Va.none Va.val at he;subst he;go_wp2_with fail
   have q:=Bk Z3.out (.int .u8 0) (.int .i64 0) (.string ByteArray.empty);have r4:=((R3.out.other (g:=w.heap.size) (i:=0) hM (by omega) (.int .u8 0)).other (g:=w.heap.size) (i:=1) hM (by omega) (.int .i64 0)).other (g:=w.heap.size) (i:=2) hM (by omega) (.string ByteArray.empty);have o4:=((O3.out.new (g:=w.heap.size) (i:=0) (aa _) (.int .u8 0)).new (g:=w.heap.size) (i:=1) (aa _) (.int .i64 0)).new (g:=w.heap.size) (i:=2) (aa _) (.string ByteArray.empty);generalize (((w3.setCell ⟨w.heap.size,0,none⟩ (.int .u8 0)).setCell ⟨w.heap.size,1,none⟩ (.int .i64 0)).setCell ⟨w.heap.size,2,none⟩ (.string ByteArray.empty))=w4 at q r4 o4 ⊢;have d0:w4.cell? ⟨w.heap.size,0,none⟩=some (.int .u8 0):=ab q 0;have d1:w4.cell? ⟨w.heap.size,1,none⟩=some (.int .i64 0):=ab q 1;have d2:w4.cell? ⟨w.heap.size,2,none⟩=some (.string ByteArray.empty):=ab q 2;have hv:=gh.out;simp only[if_true,if_false,Bool.false_eq_true,Prod.mk.injEq]at hv;obtain⟨rfl,rfl,rfl⟩:=hv;exact bodyPost_ret (v:=.agg #[.int .u8 0,.int .i64 0,.string ByteArray.empty]) (by simp[results,results218,go_sem,d0,d1,d2]) rfl ⟨rfl,r4,o4⟩
  | false =>
   rw[if_neg (by simp)]at he;subst he;go_wp2_with fail
   have q:=Bk Z3.out (.int .u8 1) (.int .i64 num) (.string ByteArray.empty);have r4:=((R3.out.other (g:=w.heap.size) (i:=0) hM (by omega) (.int .u8 1)).other (g:=w.heap.size) (i:=1) hM (by omega) (.int .i64 num)).other (g:=w.heap.size) (i:=2) hM (by omega) (.string ByteArray.empty);have o4:=((O3.out.new (g:=w.heap.size) (i:=0) (aa _) (.int .u8 1)).new (g:=w.heap.size) (i:=1) (aa _) (.int .i64 num)).new (g:=w.heap.size) (i:=2) (aa _) (.string ByteArray.empty);generalize (((w3.setCell ⟨w.heap.size,0,none⟩ (.int .u8 1)).setCell ⟨w.heap.size,1,none⟩ (.int .i64 num)).setCell ⟨w.heap.size,2,none⟩ (.string ByteArray.empty))=w4 at q r4 o4 ⊢;have d0:w4.cell? ⟨w.heap.size,0,none⟩=some (.int .u8 1):=ab q 0;have d1:w4.cell? ⟨w.heap.size,1,none⟩=some (.int .i64 num):=ab q 1;have d2:w4.cell? ⟨w.heap.size,2,none⟩=some (.string ByteArray.empty):=ab q 2;have hv:=gh.out;simp only[if_true,if_false,Bool.false_eq_true,Prod.mk.injEq]at hv;obtain⟨rfl,rfl,rfl⟩:=hv;exact bodyPost_ret (v:=.agg #[.int .u8 1,.int .i64 num,.string ByteArray.empty]) (by simp[results,results218,go_sem,d0,d1,d2]) rfl ⟨rfl,r4,o4⟩
 by_cases dh:kd=2
 ·
  subst dh;go_wp2_with fail
  have tB:=Lo M rb b1 l1 _ (R1.out.below (hA1 (.cells #[.int .u8 2,.int .i64 0,.string ByteArray.empty] 50))) HW.out.2.1 pu;have hv:=HV.out;rw[if_neg dH,if_pos (by trivial)]at hv;generalize iY b1 l1=r at tB hv;obtain⟨txt,b2,l2⟩:=r;dsimp only at tB hv;have gh:=Hd hv;clear hv;refine tB.mono ?_;rintro e w2 ⟨rfl,lS,ho2⟩;have fM:=ho2.1;simp only[World.size_alloc]at fM;have ht:=(ho2.2 w1.heap.size (by simp) (by omega)).trans (heap_alloc_new w1 (.cells #[.int .u8 2,.int .i64 0,.string ByteArray.empty] 50));have e0:w2.cell? ⟨w1.heap.size,0,none⟩=some (.int .u8 2):=ab ht 0;have e1:w2.cell? ⟨w1.heap.size,1,none⟩=some (.int .i64 0):=ab ht 1;have e2:w2.cell? ⟨w1.heap.size,2,none⟩=some (.string ByteArray.empty):=ab ht 2;have f1:w2.frozen? ⟨w1.heap.size,2,none⟩=false:=aO ht 2;have hz:=(ho2.2 w.heap.size (by simp;omega) (by omega)).trans (((nc w1 (.cells #[.int .u8 2,.int .i64 0,.string ByteArray.empty] 50) Option.none).block w.heap.size (by omega) (by simp)).trans B1.out);have R2:=Hd lS;have O2:=Hd ((O1.out.alloc _).trans ho2);have Z2:=Hd hz;clear lS ho2 hz ht tB;go_wp2_with fail
  refine(FG M rb b2 l2 2 0 txt _ (R2.out.other (by omega) (by omega) (.string txt))).mono ?_;rintro e w3 ⟨he,ap⟩;have dN:=(ap.block w.heap.size (by simp;omega)).trans ((heap_setCell_other _ _ _ _ (show w.heap.size≠w1.heap.size by omega)).trans Z2.out);have kQ:=(R2.out.other (g:=w1.heap.size) (i:=2) (by omega) (by omega) (.string txt)).below ap;have iT:=(O2.out.new (g:=w1.heap.size) (i:=2) (by omega) (.string txt)).trans (Only.of_below ap);clear e0 e1 e2 f1 ap R2 O2 Z2;have z0:w3.cell? ⟨w.heap.size,0,none⟩=some (.int .u8 0):=ab dN 0;have z1:w3.cell? ⟨w.heap.size,1,none⟩=some (.int .i64 0):=ab dN 1;have z2:w3.cell? ⟨w.heap.size,2,none⟩=some (.string ByteArray.empty):=ab dN 2;have g0:w3.frozen? ⟨w.heap.size,0,none⟩=false:=aO dN 0;have g1:w3.frozen? ⟨w.heap.size,1,none⟩=false:=aO dN 1;have g2:w3.frozen? ⟨w.heap.size,2,none⟩=false:=aO dN 2;have R3:=Hd kQ;have O3:=Hd iT;have Z3:=Hd dN;clear kQ iT dN;cases b2 with
  | true =>
   rw[if_pos rfl]at he;unfold Va.none Va.val at he;subst he;go_wp2_with fail
   have q:=Bk Z3.out (.int .u8 0) (.int .i64 0) (.string ByteArray.empty);have r4:=((R3.out.other (g:=w.heap.size) (i:=0) hM (by omega) (.int .u8 0)).other (g:=w.heap.size) (i:=1) hM (by omega) (.int .i64 0)).other (g:=w.heap.size) (i:=2) hM (by omega) (.string ByteArray.empty);have o4:=((O3.out.new (g:=w.heap.size) (i:=0) (aa _) (.int .u8 0)).new (g:=w.heap.size) (i:=1) (aa _) (.int .i64 0)).new (g:=w.heap.size) (i:=2) (aa _) (.string ByteArray.empty);generalize (((w3.setCell ⟨w.heap.size,0,none⟩ (.int .u8 0)).setCell ⟨w.heap.size,1,none⟩ (.int .i64 0)).setCell ⟨w.heap.size,2,none⟩ (.string ByteArray.empty))=w4 at q r4 o4 ⊢;have d0:w4.cell? ⟨w.heap.size,0,none⟩=some (.int .u8 0):=ab q 0;have d1:w4.cell? ⟨w.heap.size,1,none⟩=some (.int .i64 0):=ab q 1;have d2:w4.cell? ⟨w.heap.size,2,none⟩=some (.string ByteArray.empty):=ab q 2;have hv:=gh.out;simp only[if_true,if_false,Bool.false_eq_true,Prod.mk.injEq]at hv;obtain⟨rfl,rfl,rfl⟩:=hv;exact bodyPost_ret (v:=.agg #[.int .u8 0,.int .i64 0,.string ByteArray.empty]) (by simp[results,results218,go_sem,d0,d1,d2]) rfl ⟨rfl,r4,o4⟩
  | false =>
   rw[if_neg (by simp)]at he;subst he;go_wp2_with fail
   have q:=Bk Z3.out (.int .u8 2) (.int .i64 0) (.string txt);have r4:=((R3.out.other (g:=w.heap.size) (i:=0) hM (by omega) (.int .u8 2)).other (g:=w.heap.size) (i:=1) hM (by omega) (.int .i64 0)).other (g:=w.heap.size) (i:=2) hM (by omega) (.string txt);have o4:=((O3.out.new (g:=w.heap.size) (i:=0) (aa _) (.int .u8 2)).new (g:=w.heap.size) (i:=1) (aa _) (.int .i64 0)).new (g:=w.heap.size) (i:=2) (aa _) (.string txt);generalize (((w3.setCell ⟨w.heap.size,0,none⟩ (.int .u8 2)).setCell ⟨w.heap.size,1,none⟩ (.int .i64 0)).setCell ⟨w.heap.size,2,none⟩ (.string txt))=w4 at q r4 o4 ⊢;have d0:w4.cell? ⟨w.heap.size,0,none⟩=some (.int .u8 2):=ab q 0;have d1:w4.cell? ⟨w.heap.size,1,none⟩=some (.int .i64 0):=ab q 1;have d2:w4.cell? ⟨w.heap.size,2,none⟩=some (.string txt):=ab q 2;have hv:=gh.out;simp only[if_true,if_false,Bool.false_eq_true,Prod.mk.injEq]at hv;obtain⟨rfl,rfl,rfl⟩:=hv;exact bodyPost_ret (v:=.agg #[.int .u8 2,.int .i64 0,.string txt]) (by simp[results,results218,go_sem,d0,d1,d2]) rfl ⟨rfl,r4,o4⟩
 have n1:(kd==1)=false:=by simpa using dH
 have n2:decide (kd=1)=false:=by simpa using dH
 have n3:(kd==2)=false:=by simpa using dh
 have n4:decide (kd=2)=false:=by simpa using dh
 have lS:=R1.out.below (hA1 (.cells #[.int .u8 kd,.int .i64 0,.string ByteArray.empty] 50));obtain⟨ca,cc,_,c1',_,Lq⟩:=R1.out.cells;have gN:=R1.out.lt;have c1:∀o,(w1.alloc o).cell? ⟨rb,1,none⟩=some (.bool b1):=λ o=>((hA1 o).cell (p:=⟨rb,1,none⟩) gN).trans c1'
 have cf:∀o,(w1.alloc o).frozen? ⟨rb,1,none⟩=false:=λ o=>((hA1 o).frozen (p:=⟨rb,1,none⟩) gN).trans Lq
 clear c1' Lq;have ht:=heap_alloc_new w1 (.cells #[.int .u8 kd,.int .i64 0,.string ByteArray.empty] 50);have e0:(w1.alloc (.cells #[.int .u8 kd,.int .i64 0,.string ByteArray.empty] 50)).cell? ⟨w1.heap.size,0,none⟩=some (.int .u8 kd):=ab ht 0;have e1:(w1.alloc (.cells #[.int .u8 kd,.int .i64 0,.string ByteArray.empty] 50)).cell? ⟨w1.heap.size,1,none⟩=some (.int .i64 0):=ab ht 1;have e2:(w1.alloc (.cells #[.int .u8 kd,.int .i64 0,.string ByteArray.empty] 50)).cell? ⟨w1.heap.size,2,none⟩=some (.string ByteArray.empty):=ab ht 2;have hz:=((nc w1 (.cells #[.int .u8 kd,.int .i64 0,.string ByteArray.empty] 50) Option.none).block w.heap.size (by omega) (by simp)).trans B1.out;have R2:=Hd ((R1.out.mE true).below ((aj _ _).alloc (aa _) (.cells #[.int .u8 kd,.int .i64 0,.string ByteArray.empty] 50)));have O2:=Hd ((O1.out.trans (Only.set rb _ 1 (.bool true))).alloc (.cells #[.int .u8 kd,.int .i64 0,.string ByteArray.empty] 50));have aU:=((nc (w1.setCell ⟨rb,1,none⟩ (.bool true)) (.cells #[.int .u8 kd,.int .i64 0,.string ByteArray.empty] 50) Option.none).block w.heap.size (by simp;omega) (by simp)).trans ((heap_setCell_other _ _ _ _ (show w.heap.size≠rb by omega)).trans B1.out);have Z2:=Hd aU;clear lS ht hz aU;go_wp2_with fail
 refine(FG M rb true l1 kd 0 ByteArray.empty _ R2.out).mono ?_;rintro e w3 ⟨he,ap⟩;have dN:=(ap.block w.heap.size (by simp;omega)).trans Z2.out;have kQ:=R2.out.below ap;have iT:=O2.out.trans (Only.of_below ap);clear e0 e1 e2 ap R2 O2 Z2 c1 cf;have z0:w3.cell? ⟨w.heap.size,0,none⟩=some (.int .u8 0):=ab dN 0;have z1:w3.cell? ⟨w.heap.size,1,none⟩=some (.int .i64 0):=ab dN 1;have z2:w3.cell? ⟨w.heap.size,2,none⟩=some (.string ByteArray.empty):=ab dN 2;have g0:w3.frozen? ⟨w.heap.size,0,none⟩=false:=aO dN 0;have g1:w3.frozen? ⟨w.heap.size,1,none⟩=false:=aO dN 1;have g2:w3.frozen? ⟨w.heap.size,2,none⟩=false:=aO dN 2;have R3:=Hd kQ;have O3:=Hd iT;have Z3:=Hd dN;clear kQ iT dN;rw[if_pos rfl]at he;unfold Va.none Va.val at he;subst he;go_wp2_with fail
 have q:=Bk Z3.out (.int .u8 0) (.int .i64 0) (.string ByteArray.empty);have r4:=((R3.out.other (g:=w.heap.size) (i:=0) hM (by omega) (.int .u8 0)).other (g:=w.heap.size) (i:=1) hM (by omega) (.int .i64 0)).other (g:=w.heap.size) (i:=2) hM (by omega) (.string ByteArray.empty);have o4:=((O3.out.new (g:=w.heap.size) (i:=0) (aa _) (.int .u8 0)).new (g:=w.heap.size) (i:=1) (aa _) (.int .i64 0)).new (g:=w.heap.size) (i:=2) (aa _) (.string ByteArray.empty);generalize (((w3.setCell ⟨w.heap.size,0,none⟩ (.int .u8 0)).setCell ⟨w.heap.size,1,none⟩ (.int .i64 0)).setCell ⟨w.heap.size,2,none⟩ (.string ByteArray.empty))=w4 at q r4 o4 ⊢;have d0:w4.cell? ⟨w.heap.size,0,none⟩=some (.int .u8 0):=ab q 0;have d1:w4.cell? ⟨w.heap.size,1,none⟩=some (.int .i64 0):=ab q 1;have d2:w4.cell? ⟨w.heap.size,2,none⟩=some (.string ByteArray.empty):=ab q 2;have hv:=HV.out;rw[if_neg dH,if_neg dh]at hv;simp only[Prod.mk.injEq]at hv;obtain⟨rfl,rfl,rfl⟩:=hv;exact bodyPost_ret (v:=.agg #[.int .u8 0,.int .i64 0,.string ByteArray.empty]) (by simp[results,results218,go_sem,d0,d1,d2]) rfl ⟨rfl,r4,o4⟩
theorem DR (ao:Option Addr)(n cap:Nat)(co:Option Addr)(m cap2:Nat)(xs:List Int)(w:World)(hn:xs.length=n)(hm:xs.length=m)(hx:BytesIn w w.heap.size ao xs)(hy:BytesIn w w.heap.size co xs)(hl:n<=4611686018427387904) :
  Calls prog 11 #[.slice ao n cap,.slice co m cap2] w λ e w'=>e=.returned (.bool true)/\Below w.heap.size w w':=by
 obtain rfl:n=m:=by omega
 have HX:=Hd hx;have HY:=Hd hy;have HN:=Hd hn;clear hx hy hn hm;go_enter func11,ntmps11
 go_wp2_with fail
 go_loopw [5] (λ i wr=>∃k:Nat,k<=n/\i=.int .i64 k/\Below w.heap.size w wr) (λ i _=>n-(intOf i).toNat)
 exact⟨0,by omega,rfl,aj _ _⟩
 obtain⟨k,hk,rfl,ag⟩:=hrel;by_cases ae:k<n
 ·
  have Bl:=HN.out;rcases HX.out with h0|⟨b,off,rfl,hb,hc⟩
  · rw[h0]at Bl;simp at Bl;omega
  rcases HY.out with h0|⟨b2,off2,rfl,am,bN⟩
  · rw[h0]at Bl;simp at Bl;omega
  have d0:=hc k (by omega);have d1:=bN k (by omega);generalize xs.getD k 0=x at d0 d1;clear hc bN Bl;have c0:∀x':Calm w.heap.size w,x'.1.cell? ⟨b,off+k,none⟩=some (.int .u8 x):=λ x'=>x'.cell d0 hb
  have c1:∀x':Calm w.heap.size w,x'.1.cell? ⟨b2,off2+k,none⟩=some (.int .u8 x):=λ x'=>x'.cell d1 am
  have i1:(k:Int)<n:=by omega
  clear d0 d1;go_wp2_with fail
  refine gR (B:=w.heap.size) (W0:=w) ag (by kernel_rfl) (by kernel_rfl) ?_;repeat(go_big_quiet_step (fail))
  refine wpQuiet_nil ?_;intro w5 ak;clear c0 c1;go_wp2_with fail
  go_roundw
  exact⟨k+1,by omega,by go_num,ak⟩
  simp[intOf];omega
 obtain rfl:k=n:=by omega
 go_wp2_with fail
 go_ret;exact⟨rfl,ag⟩
theorem Wp (ao:Option Addr)(n cap:Nat)(ps:List Pt)(L:List Int)(w:World)(B:Nat)(hn:ps.length=n)(hL:ps.flatMap Pt.data=L)(hx:RowsIn 1 pE zj w B ao ps)(hB:B<=w.heap.size)(hw:∀p∈ps,BytesWf p.data)(hc:n<=cap)(hl:L.length<=140737488351232)(pr:n<=1099511627776) :
  Calls prog 19 #[.slice ao n cap] w (Lf L w):=by
 have HJ:=Hd (Wg ao n cap ps w B hn hx hB hw hc (by rw[hL];exact hl) pr);rw[hL]at HJ;clear hn hx hw hL;go_enter func19,ntmps19
 go_wp2_with fail
 refine HJ.out.mono ?_;rintro e w1 ⟨a,c,rfl,h1,h2,h3,h4,h6,h5⟩;have H:=Hd (And.intro h4 h6);clear h4 h6;go_wp2_with fail
 go_ret;exact⟨a,c,rfl,h1,h2,h3,H.out.1,H.out.2,h5⟩
theorem Wq (M rb:Nat)(bad:Bool)(left:List Int)(v:Int)(b2:Bool)(l2:List Int)(w:World)(hs:(IntKind.i64.wrap (cC (bw 8 bad left).1),(bw 8 bad left).2)=(v,b2,l2))(h:Rdr w M rb bad left)(hw:BytesWf left)(hl:left.length<=140737488351232) :
  Calls prog 131 #[.pointer (some ⟨rb,0,none⟩)] w (SaidAt M rb v b2 l2 w):=by
 have:=Ll M rb bad left w h hw hl;simp only[Prod.mk.injEq]at hs;obtain⟨h1,h2⟩:=hs;rw[h1,h2]at this;exact this
theorem Lr (w:World)(T:TypeId)(xs:List Int)(cs:Array Value)(fr:Nat×Nat)(g B:Nat)(jP:cs=(xs.map bv).toArray)(hg:g=w.heap.size)(hB:g<B):BytesIn (w.alloc (.cells cs T fr)) B (some ⟨g,0,none⟩) xs:=by
 subst jP hg;refine Or.inr ⟨w.heap.size,0,rfl,hB,λ i hi=>?_⟩;rw[Go.Joins.cell_alloc_mark_at _ _ _ _ _ _ rfl];simp[bv,List.getD,bu hi]
theorem Wr (n:Int)(L:List Int)(w:World)(hL:au 8 n=L):Calls prog 44 #[.int .i64 n] w (zi L w.heap.size w):=hL▸Wb n w
theorem Ls {w:World}{base n c:Nat}{a:Option Addr}{l:List Int}(hn:l.length=n)(h:w.ownsRow base 5 1 (.slice a n c) n (l.map bv)):BytesIn w w.heap.size a l:=by
 subst hn;exact vm h
theorem ud {α:Type}{k:Nat}{cells:α->List Value}{sub:World->Nat->α->Prop}(hk:∀x,(cells x).length=k){w:World}{b B:Nat}{T:TypeId}{fz:Nat×Nat}(xs:List α)(cs:Array Value)(h:w.heap[b]?=some (.cells cs T fz))(jP:cs.toList=xs.flatMap cells)(hb:b<B)(hs:∀x∈xs,sub w B x):RowsIn k cells sub w B (some ⟨b,0,none⟩) xs:=by
 refine Or.inr ⟨b,0,rfl,hb,λ i x hx=>⟨λ j hj=>?_,hs x (List.mem_of_getElem? hx)⟩⟩;rw[ab h (0+i*k+j),<-Array.getElem?_toList,jP,Nat.zero_add];exact flat_get hk xs i x hx j hj
end Go.Proofs.YtepdklfkegkojaaGreatDoor
