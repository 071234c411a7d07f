/- Parts of one proof. Conditions: as each says. -/
import Derived.Test.YtepdklfkegkojaaGreatDoorGLetterNumbers0
import Derived.Test.YtepdklfkegkojaaGreatDoorGLetterNumbers3
import Derived.Test.YtepdklfkegkojaaGreatDoorGLetterNumbers1
set_option linter.all false
set_option maxHeartbeats 16000000
set_option maxRecDepth 100000
namespace Go.Proofs.YtepdklfkegkojaaGreatDoor
open Go.Proofs.Tryz
open Go.RowKit
theorem vy (n:Nat)(a rest:List Int)(h:a.length=n):bw n false (a++rest)=(a,false,rest):=by
 subst h;unfold bw;rw[if_neg (by simp)];simp
def bH (n:Int):Prop:=-9223372036854775808<=n/\n<=9223372036854775807
theorem oN (n:Int)(rest:List Int)(h:bH n):bc false (au 8 n++rest)=(n,false,rest):=by
 unfold bc;rw[vy 8 _ _ (cV 8 n)];dsimp only;rw[zg];have h1:=h.1;have h2:=h.2
 have e:IntKind.i64.wrap (n % 256 ^ 8)=n:=by
  show (if(true && decide (n % 256 ^ 8 % 2 ^ 64 ≥ (2 ^ 63:Int)))=true then n % 256 ^ 8 % 2 ^ 64-2 ^ 64 else n % 256 ^ 8 % 2 ^ 64)=n;have e1:(256:Int) ^ 8=18446744073709551616:=by decide
  have e2:(2:Int) ^ 64=18446744073709551616:=by decide
  have e3:(2:Int) ^ 63=9223372036854775808:=by decide
  rw[e1,e2,e3];split
  ·
   rename_i hc;have hc:n % 18446744073709551616 % 18446744073709551616 ≥ 9223372036854775808:=by simpa using hc
   omega
  rename_i hc;have hc:¬n % 18446744073709551616 % 18446744073709551616 ≥ 9223372036854775808:=by simpa using hc
  omega
 rw[e]
theorem FP (k:Int)(rest:List Int):eI false (k :: rest)=(k,false,rest):=by
 unfold eI;have:=vy 1 [k] rest rfl;rw[List.singleton_append]at this;rw[this];simp[cC]
theorem LH (n:Nat)(rest:List Int)(h:n<=65536):di false (au 4 n++rest)=((n:Int),false,rest):=by
 unfold di;rw[vy 4 _ _ (cV 4 n)];dsimp only;rw[zg];have e1:(256:Int) ^ 4=4294967296:=by decide
 have e:(n:Int) % 256 ^ 4=n:=by rw[e1];omega
 rw[e,if_neg (by simp;omega)]
theorem zt (s:ByteArray):vu (lJ s)=s:=by
 unfold vu lJ strOfNums;rw[List.map_map]
 have:(λ n:Int=>UInt8.ofNat n.toNat) ∘ (λ c:UInt8=>(c.toNat:Int))=id:=by
  funext c
  simp
 rw[this,List.map_id]
theorem FQ (s:ByteArray)(rest:List Int)(h:s.size<=65536):iY false (m9 s++rest)=(s,false,rest):=by
 unfold iY m9;rw[List.append_assoc,LH _ _ h];dsimp only;rw[vy _ _ _ (by rw[KX];omega)];dsimp only;rw[zt]
def Bare (v:Va):Prop:=v.kind=1/\v.text=ByteArray.empty∨v.kind=2/\v.num=0
def zu (v:Va):Prop:=bH v.num/\v.text.size<=65536
theorem WF (v:Va)(rest:List Int)(hb:Bare v)(hf:zu v):fF false (fp v++rest)=(v,false,rest):=by
 obtain⟨kd,num,text⟩:=v;rcases hb with ⟨h1,h2⟩|⟨h1,h2⟩
 ·
  dsimp only at h1 h2;subst h1;subst h2;have e:fp ⟨1,num,ByteArray.empty⟩=1 :: au 8 num:=by unfold fp;dsimp only;rw[if_pos rfl]
  rw[e];unfold fF;dsimp only;have:=vy 1 [1] (au 8 num++rest) rfl;rw[List.singleton_append]at this;rw[List.cons_append,this];dsimp only;rw[if_pos (by simp[cC])];have h8:=oN num rest hf.1;unfold bc at h8;simp only[Prod.mk.injEq]at h8;rw[h8.2];rw[h8.1];rfl
 dsimp only at h1 h2;subst h1;subst h2;have e:fp ⟨2,0,text⟩=2 :: m9 text:=by unfold fp;dsimp only;rw[if_neg (by decide),if_pos rfl]
 rw[e];unfold fF;dsimp only;have:=vy 1 [2] (m9 text++rest) rfl;rw[List.singleton_append]at this;rw[List.cons_append,this];dsimp only;rw[if_neg (by simp[cC]),if_pos (by simp[cC]),FQ text rest hf.2];rfl
theorem WG {α:Type}{one:Bool->List Int->α×Bool×List Int}{nf:α->List Int}(xs:List α)(h:∀x∈xs,∀rest,one false (nf x++rest)=(x,false,rest))(rest:List Int):dZ one xs.length false (xs.flatMap nf++rest)=(xs,false,rest):=by
 induction xs with
 | nil=>simp[dZ]
 | cons x xs ih =>
  rw[List.length_cons,List.flatMap_cons,List.append_assoc];unfold dZ;rw[if_neg (by simp),h x (by simp)];dsimp only;rw[ih (λ y hy=>h y (sg _ hy))]
theorem LI {α:Type}{one:Bool->List Int->α×Bool×List Int}{nf:α->List Int}(xs:List α)(h:∀x∈xs,∀rest,one false (nf x++rest)=(x,false,rest))(hl:xs.length<=65536)(rest:List Int):kk one false (au 4 xs.length++(xs.flatMap nf++rest))=(xs,false,rest):=by
 unfold kk;dsimp only;rw[LH _ _ hl];dsimp only;rw[Int.toNat_natCast,WG xs h];rfl
def FR (l:List Va):Prop:=l.length<=65536/\∀v∈l,Bare v/\zu v
theorem WH (l:List Va)(rest:List Int)(h:FR l):nd false (dY l++rest)=(l,false,rest):=by
 unfold nd dY;rw[List.append_assoc];exact LI l (λ v hv rest=>WF v rest (h.2 v hv).1 (h.2 v hv).2) h.1 rest
theorem WI (l:List Int)(rest:List Int)(hl:l.length<=65536)(h:∀n∈l,bH n):rJ false (au 4 l.length++(l.flatMap (au 8)++rest))=(l,false,rest) :=
 LI l (λ v hv rest=>oN v rest (h v hv)) hl rest
def DU (c:lK):Prop:=c.text.size<=65536/\bH c.num/\FR c.args
theorem LJ (c:lK)(rest:List Int)(h:DU c):jW false (jT c.kind c.text c.num c.args++rest)=(c,false,rest):=by
 unfold jW jT;simp only[List.append_assoc,List.cons_append];rw[FP];dsimp only;rw[FQ _ _ h.1];dsimp only;rw[oN _ _ h.2.1];dsimp only;rw[WH _ _ h.2.2];rfl
def DV (e:dX):Prop:=bH e.term/\bH e.session/\bH e.seq/\DU ⟨e.ck,e.text,e.args,e.num⟩/\e.vs.length<=65536/\∀v∈e.vs,bH v
theorem LK (e:dX)(rest:List Int)(h:DV e):fq false (df e++rest)=(e,false,rest):=by
 obtain⟨h1,h2,h3,h4,h5,h6⟩:=h;have hc:=LJ ⟨e.ck,e.text,e.args,e.num⟩ (au 4 e.vs.length++(e.vs.flatMap (au 8)++rest)) h4;dsimp only at hc;unfold fq df;simp only[List.append_assoc,List.cons_append];rw[oN _ _ h1];dsimp only;rw[FP];dsimp only;rw[oN _ _ h2];dsimp only;rw[oN _ _ h3];dsimp only;rw[hc];dsimp only;rw[WI _ _ h5 h6];rfl
theorem LL (n k:Int):au 8 (n+18446744073709551616*k)=au 8 n:=by
 unfold au;have e:List.range 8=[0,1,2,3,4,5,6,7]:=rfl;rw[e];simp only[List.map_cons,List.map_nil,Nat.reduceSub,Nat.reduceMul,Int.reducePow,List.cons.injEq,and_true];refine⟨by omega,by omega,by omega,by omega,by omega,by omega,by omega,by omega⟩
theorem WJ (n:Int):au 8 (IntKind.i64.wrap n)=au 8 n:=by
 have hw:IntKind.i64.wrap n=n+18446744073709551616*(-(n / 18446744073709551616))∨IntKind.i64.wrap n=n+18446744073709551616*(-(n / 18446744073709551616)-1):=by
  show (if(true && decide (n % 2 ^ 64 ≥ (2 ^ 63:Int)))=true then n % 2 ^ 64-2 ^ 64 else n % 2 ^ 64)=_∨(if(true && decide (n % 2 ^ 64 ≥ (2 ^ 63:Int)))=true then n % 2 ^ 64-2 ^ 64 else n % 2 ^ 64)=_;have e2:(2:Int) ^ 64=18446744073709551616:=by decide
  rw[e2];split
  · right;omega
  left;omega
 rcases hw with h|h<;>rw[h,LL]
theorem LM (n:Int):IntKind.u64.wrap n=n % 18446744073709551616:=by
 show (if(false && decide (n % 2 ^ 64 ≥ (2 ^ 63:Int)))=true then n % 2 ^ 64-2 ^ 64 else n % 2 ^ 64)=_;have e2:(2:Int) ^ 64=18446744073709551616:=by decide
 rw[e2];rfl
theorem WK (n:Int):0<=IntKind.u64.wrap n/\IntKind.u64.wrap n<18446744073709551616:=by
 rw[LM];omega
theorem WL (n:Int):au 8 (IntKind.u64.wrap n)=au 8 n:=by
 have h:IntKind.u64.wrap n=n+18446744073709551616*(-(n / 18446744073709551616)):=by rw[LM];omega
 rw[h,LL]
theorem WM (s:Nat)(n:Int):au (s+1) n=au s (n / 256)++[n % 256]:=by
 unfold au;rw[List.range_succ,List.map_append];congr 1
 ·
  refine vz (λ j hj=>?_);have hj:=List.mem_range.1 hj;have e:s+1-1-j=(s-1-j)+1:=by omega
  rw[e,Nat.mul_add,Int.pow_add,Int.mul_comm,<-Int.ediv_ediv_of_nonneg (by decide)];rfl
 simp
theorem LN (l:List Int)(h:BytesWf l):au l.length (cC l)=l:=by
 have key:∀r:List Int,BytesWf r.reverse->au r.length (cC r.reverse)=r.reverse:=by
  intro r;induction r with
  | nil=>intro _;rfl
  | cons c r ih =>
   intro hw;rw[List.reverse_cons]at hw ⊢;have h1:=ih (λ x hx=>hw x (List.mem_append_left _ hx));have h2:=hw c (by simp);rw[Bf,List.length_cons,WM];have e1:(cC r.reverse*256+c) / 256=cC r.reverse:=by omega
   have e2:(cC r.reverse*256+c) % 256=c:=by omega
   rw[e1,e2,h1]
 have:=key l.reverse (by rwa [List.reverse_reverse]);rwa [List.reverse_reverse,List.length_reverse]at this
def There {α:Type} (one:Bool->List Int->α×Bool×List Int) (nf:α->List Int):Prop:=∀b l,BytesWf l->(one b l).2.1=false->b=false/\l=nf (one b l).1++(one b l).2.2/\BytesWf (one b l).2.2
theorem Bn (n:Nat)(b:Bool)(l:List Int)(hw:BytesWf l)(h:(bw n b l).2.1=false):b=false/\l=(bw n b l).1++(bw n b l).2.2/\(bw n b l).1.length=n/\BytesWf (bw n b l).1/\BytesWf (bw n b l).2.2:=by
 unfold bw at h ⊢;split at h
 · cases h
 rename_i hc;rw[if_neg hc];have h1:b=false:=by cases b with|true=>exact absurd (Or.inl rfl) hc|false=>rfl
 have h2:n<=l.length:=by
  rcases Nat.lt_or_ge l.length n with h|h
  · exact absurd (Or.inr h) hc
  exact h
 exact⟨h1,(List.take_append_drop n l).symm,by rw[List.length_take];omega,hw.take n,hw.drop n⟩
theorem uj:There bc (au 8):=by
 intro b l hw h;obtain⟨h1,h2,h3,h4,h5⟩:=Bn 8 b l hw h;refine⟨h1,?_,h5⟩;show l=au 8 (IntKind.i64.wrap (cC (bw 8 b l).1))++_;rw[WJ];have:=LN _ h4;rw[h3]at this;rw[this];exact h2
theorem FT:There eI (λ k=>[k]):=by
 intro b l hw h;obtain⟨h1,h2,h3,h4,h5⟩:=Bn 1 b l hw h;refine⟨h1,?_,h5⟩;show l=[cC (bw 1 b l).1]++(bw 1 b l).2.2
 obtain⟨c,hc⟩:∃c,(bw 1 b l).1=[c]:=by
  generalize (bw 1 b l).1=g at h3;match g,h3 with
  | [c],_=>exact⟨c,rfl⟩
 rw[hc]at h2 ⊢;simpa[cC]using h2
theorem LO (b:Bool)(l:List Int)(hw:BytesWf l)(h:(di b l).2.1=false):b=false/\l=au 4 ((di b l).1.toNat:Nat)++(di b l).2.2/\BytesWf (di b l).2.2:=by
 unfold di at h ⊢;split at h
 · cases h
 rename_i hc;rw[if_neg hc]
 have hb:(bw 4 b l).2.1=false:=by
  cases hh:(bw 4 b l).2.1 with
  | true=>exact absurd (Or.inl hh) hc
  | false=>rfl
 obtain⟨h1,h2,h3,h4,h5⟩:=Bn 4 b l hw hb;refine⟨h1,?_,h5⟩;have h6:=(Fw _ h4).1;dsimp only;rw[Int.toNat_of_nonneg h6];have:=LN _ h4;rw[h3]at this;rw[this];exact h2
theorem WN (l:List Int)(h:BytesWf l):lJ (vu l)=l:=by
 unfold lJ vu;rw[strOfNums_data,List.map_map];conv=>rhs;rw[<-List.map_id l]
 refine vz (λ n hn=>?_);have:=h n hn;show (((UInt8.ofNat n.toNat).toNat:Nat):Int)=n;rw[UInt8.toNat_ofNat'];omega
theorem FU (l:List Int):(vu l).size=l.length:=strOfNums_size l
theorem LP:There iY m9:=by
 intro b l hw h;unfold iY at h ⊢;dsimp only at h ⊢;have hc:=pF (bad:=b) hw;obtain⟨h1,h2,h3,h4,h5⟩:=Bn _ _ _ hc.2.2.1 h;obtain⟨g1,g2,g3⟩:=LO b l hw h1;refine⟨g1,?_,h5⟩;unfold m9;rw[FU,h3,WN _ h4,List.append_assoc,<-h2];exact g2
theorem FV:There fF fp:=by
 intro b l hw h;have ht:∀h:(bw 1 b l).2.1=false,b=false/\l=cC (bw 1 b l).1 :: (bw 1 b l).2.2/\BytesWf (bw 1 b l).2.2:=λ h=>FT b l hw h
 unfold fF at h ⊢;dsimp only at h ⊢;by_cases h1:cC (bw 1 b l).1=1
 ·
  rw[if_pos h1]at h ⊢;dsimp only at h ⊢;rw[h];have hk:=mr (n:=1) (bad:=b) hw;obtain⟨g1,g2,g3⟩:=uj (bw 1 b l).2.1 (bw 1 b l).2.2 hk.2.1 h;obtain⟨q1,q2,_⟩:=ht g1;refine⟨q1,?_,g3⟩;rw[if_neg (by simp)];unfold fp;dsimp only;rw[if_pos rfl];have g2':(bw 1 b l).2.2=au 8 (IntKind.i64.wrap (cC (bw 8 (bw 1 b l).2.1 (bw 1 b l).2.2).1))++(bw 8 (bw 1 b l).2.1 (bw 1 b l).2.2).2.2:=g2;rw[List.cons_append,<-g2',<-h1];exact q2
 rw[if_neg h1]at h ⊢;by_cases h2:cC (bw 1 b l).1=2
 ·
  rw[if_pos h2]at h ⊢;dsimp only at h ⊢;rw[h];have hk:=mr (n:=1) (bad:=b) hw;obtain⟨g1,g2,g3⟩:=LP (bw 1 b l).2.1 (bw 1 b l).2.2 hk.2.1 h;obtain⟨q1,q2,_⟩:=ht g1;refine⟨q1,?_,g3⟩;rw[if_neg (by simp)];unfold fp;dsimp only;rw[if_neg (by decide),if_pos rfl,List.cons_append,<-g2,<-h2];exact q2
 rw[if_neg h2]at h;cases h
theorem LQ {α:Type}{one:Bool->List Int->α×Bool×List Int}{nf:α->List Int}(h1:There one nf):∀(n:Nat) (b:Bool) (l:List Int),BytesWf l->(dZ one n b l).2.1=false->b=false/\l=(dZ one n b l).1.flatMap nf++(dZ one n b l).2.2/\BytesWf (dZ one n b l).2.2/\(dZ one n b l).1.length=n:=by
 intro n;induction n with
 | zero=>intro b l hw h;exact⟨h,rfl,hw,rfl⟩
 | succ n ih =>
  intro b l hw h;unfold dZ at h ⊢;split at h
  ·
   rename_i hb;dsimp only at h;rw[hb]at h;cases h
  rename_i hb;rw[if_neg hb];dsimp only at h ⊢;have hw1:∀h,BytesWf (one b l).2.2:=λ h=>(h1 b l hw h).2.2
  have ii:b=false:=by cases b with|true=>exact absurd rfl hb|false=>rfl
  cases ho:(one b l).2.1 with
  | true=>(try rw[ho]at h);rw[zo]at h;cases h
  | false =>
   obtain⟨g1,g2,g3⟩:=h1 b l hw ho
   (try rw[ho]at h)
   (try rw[ho])
   obtain⟨q1,q2,q3,q4⟩:=ih false _ g3 h;refine⟨ii,?_,q3,by rw[List.length_cons,q4]⟩;rw[List.flatMap_cons,List.append_assoc,<-q2];exact g2
theorem FW {α:Type}{one:Bool->List Int->α×Bool×List Int}{nf:α->List Int}(h1:There one nf):There (kk one) (λ xs=>au 4 xs.length++xs.flatMap nf):=by
 intro b l hw h;unfold kk at h ⊢;dsimp only at h ⊢;have hc:=pF (bad:=b) hw;obtain⟨g1,g2,g3,g4⟩:=LQ h1 _ _ _ hc.2.2.1 h;obtain⟨q1,q2,q3⟩:=LO b l hw g1;refine⟨q1,?_,g3⟩;rw[h,if_neg (by simp),g4,List.append_assoc,<-g2];exact q2
theorem FX:There nd dY:=FW FV
theorem FY:There rJ (λ xs=>au 4 xs.length++xs.flatMap (au 8)):=FW uj
theorem LS:There jW (λ c=>jT c.kind c.text c.num c.args):=by
 intro b l hw h;unfold jW at h ⊢;dsimp only at h ⊢;have w1:=(p4 b l hw).1;have w2:=(vx (eI b l).2.1 _ w1).1;have w3:=(eL (iY (eI b l).2.1 (eI b l).2.2).2.1 _ w2).1;obtain⟨g1,g2,g3⟩:=FX _ _ w3 h;obtain⟨q1,q2,q3⟩:=uj _ _ w2 g1;obtain⟨p1,p2,p3⟩:=LP _ _ w1 q1;obtain⟨o1,o2,o3⟩:=FT b l hw p1;refine⟨o1,?_,g3⟩;rw[h,if_neg (by simp)];unfold jT;dsimp only;simp only[List.append_assoc,List.cons_append];rw[<-g2,<-q2,<-p2];exact o2
theorem Bo:There fq df:=by
 intro b l hw h;unfold fq at h ⊢;dsimp only at h ⊢;have w1:=(eL b l hw).1;have w2:=(p4 (bc b l).2.1 _ w1).1;have w3:=(eL (eI (bc b l).2.1 (bc b l).2.2).2.1 _ w2).1;have w4:=(eL (bc (eI (bc b l).2.1 (bc b l).2.2).2.1 (eI (bc b l).2.1 (bc b l).2.2).2.2).2.1 _ w3).1;obtain⟨T,hT⟩:∃T,bc b l=T:=⟨_,rfl⟩;have t1:=uj b l hw;rw[hT]at h w1 w2 w3 w4 t1 ⊢;obtain⟨K,hK⟩:∃K,eI T.2.1 T.2.2=K:=⟨_,rfl⟩;have t2:=FT T.2.1 T.2.2 w1;rw[hK]at h w2 w3 w4 t2 ⊢;obtain⟨S,hS⟩:∃S,bc K.2.1 K.2.2=S:=⟨_,rfl⟩;have t3:=uj K.2.1 K.2.2 w2;rw[hS]at h w3 w4 t3 ⊢;obtain⟨R,hR⟩:∃R,bc S.2.1 S.2.2=R:=⟨_,rfl⟩;have t4:=uj S.2.1 S.2.2 w3;rw[hR]at h w4 t4 ⊢;have w5:=(xg R.2.1 R.2.2 w4).1;have t5:=LS R.2.1 R.2.2 w4;obtain⟨C,hC⟩:∃C,jW R.2.1 R.2.2=C:=⟨_,rfl⟩;rw[hC]at h w5 t5 ⊢;have t6:=FY C.2.1 C.2.2 w5 h;rw[h,if_neg (by simp)];obtain⟨a6,b6,c6⟩:=t6;obtain⟨a5,b5,_⟩:=t5 a6;obtain⟨a4,b4,_⟩:=t4 a5;obtain⟨a3,b3,_⟩:=t3 a4;obtain⟨a2,b2,_⟩:=t2 a3;obtain⟨a1,b1,_⟩:=t1 a2;refine⟨a1,?_,c6⟩;unfold df;dsimp only;simp only[List.append_assoc,List.cons_append];rw[List.append_assoc]at b6;rw[<-b6,<-b5,<-b4,<-b3];rw[List.singleton_append]at b2;rw[<-b2];exact b1
instance ad2:DecidableEq Va:=λ a b=>decidable_of_iff (a.kind=b.kind/\a.num=b.num/\a.text=b.text) (by
 cases a;cases b;simp)
def hX (n:Int):Bool:=decide (0<=n) && decide (n<=1099511627776)
theorem DW {n:Int}:hX n=true↔0<=n/\n<=1099511627776:=by simp[hX]
def mG:Int->List Int->Bool
 | _,[]=>true
 | last,v :: r=>(decide (last<v) && decide (v<=9)) && mG v r
def kE (l:List Int):Bool:=mG 0 l && (decide (1<=l.length) && decide (l.length<=7))
theorem WO:∀(l:List Int) (last:Int),mG last l=true->∀v∈l,last<v/\v<=9:=by
 intro l;induction l with
 | nil=>intro _ _ v hv;cases hv
 | cons x r ih =>
  intro last h v hv;simp only[mG,Bool.and_eq_true,decide_eq_true_eq]at h;rcases List.mem_cons.1 hv with rfl|hv
  · exact h.1
  have:=ih x h.2 v hv;omega
theorem FZ {l:List Int}(h:kE l=true):(∀v∈l,1<=v/\v<=9)/\1<=l.length/\l.length<=7:=by
 simp only[kE,Bool.and_eq_true,decide_eq_true_eq]at h;exact⟨λ v hv=>by have:=WO l 0 h.1 v hv;omega,h.2⟩
def F0 (c:lK):Bool:=decide (c.kind=0) && (decide (c.text=⟨#[]⟩) && (decide (c.num=0) && decide (c.args.length=0)))
def qW (c:lK):Bool :=
 let r:=jW false (jT c.kind c.text c.num c.args)
 (!r.2.1 && r.2.2.isEmpty) && (decide (c.args.length=r.1.args.length) && decide (c.args=r.1.args))
def dX.cm (e:dX):lK:=⟨e.ck,e.text,e.args,e.num⟩
def sh (e:dX):Bool:=decide (e.session=0) && (decide (e.seq=0) && F0 e.cm)
def jm (e:dX):Bool :=
 if hX e.term=false then false
 else if e.kind=1 then sh e && decide (e.vs.length=0)
 else if e.kind=2 then decide (0<=e.session) && (decide (0<=e.seq) && (decide (e.vs.length=0) && qW e.cm))
 else decide (e.kind=3) && (sh e && kE e.vs)
structure cQ where
 kind:Int
 fr:Int
 tov:Int
 term:Int
 index:Int
 was:Int
 ok:Bool
 commit:Int
 round:Int
 es:List dX
 vs:List Int
 im:List Int
def ng:cQ:=⟨0,0,0,0,0,0,false,0,0,[],[],[]⟩
def pG (l:cQ):cQ×Bool :=
 if l.kind=1 then({ l with index:=0,was:=0 },true)
 else if l.kind=2 then({ l with ok:=false },true)
 else if l.kind=3 then({ l with commit:=0,es:=[],index:=0,was:=0,round:=0 },true)
 else if l.kind=5 then({ l with was:=0,vs:=[],im:=[],index:=0,round:=0 },true)
 else if l.kind=4 then({ l with ok:=false,index:=0,round:=0 },true)
 else if l.kind=6 then({ l with index:=0,round:=0 },true)
 else(l,false)
def xj (l:cQ):Bool:=decide (l.index=0) && (decide (l.was=0) && (!l.ok && (decide (l.commit=0) && (decide (l.round=0) && (decide (l.es.length=0) && (decide (l.vs.length=0) && decide (l.im.length=0)))))))
def qt (es:List dX):Bool:=es.all jm && decide (es.length<=16)
def fx (l:cQ):Bool :=
 if l.fr<1∨9<l.fr∨l.tov<1∨9<l.tov then false
 else if([l.term,l.was,l.index,l.commit,l.round].all hX && (qt l.es && (decide (l.vs.length=0) || kE l.vs)))=false then false
 else(pG l).2 && xj (pG l).1
def ee (l:cQ):List Int :=
 [l.kind,l.fr,l.tov]++((au 8 l.term++(au 8 l.index++au 8 l.was))++((if l.ok=true then 1 else 0) :: ((au 8 l.commit++au 8 l.round)++(au 4 l.es.length++(l.es.flatMap df++(au 4 l.vs.length++(l.vs++(au 4 l.im.length++l.im))))))))
def eM (l:cQ):List Int×Int:=if fx l=false then([],4)else if 1048576<(ee l).length then([],3)else(ee l,0)
def gk (r:List Int):Int×Bool×List Int:=if r.length<4 then(0,false,r)else(cC (r.take 4),decide (cC (r.take 4)<=((r.drop 4).length:Int)),r.drop 4)
def lM:Nat->List Int->Option (List dX×List Int)
 | 0,r=>some ([],r)
 | n+1,r=>let x:=fq false r
  if x.2.1=true then none else match lM n (r.drop (df x.1).length)with
   | none=>none
   | some (l,r')=>some (x.1 :: l,r')
def qu (b:List Int):Option cQ :=
 if b.length<44 then none else
 let a:=bc false ((b.drop 3).take 24)
 let i:=bc a.2.1 a.2.2
 let s:=bc i.2.1 i.2.2
 let c:=bc false ((b.take 44).drop 28)
 let d:=bc c.2.1 c.2.2
 let m:=gk (b.drop 44)
 if m.2.1=false∨16<m.1 then none else
 match lM m.1.toNat m.2.2 with
 | none=>none
 | some (es,r) =>
  let v:=gk r
  if v.2.1=false then none else
  let q:=gk (v.2.2.drop v.1.toNat)
  if q.2.1=false∨q.1≠(q.2.2.length:Int)then none else
  some ⟨b.getD 0 0,b.getD 1 0,b.getD 2 0,a.1,i.1,s.1,decide (b.getD 27 0=1),c.1,d.1,es,v.2.2.take v.1.toNat,q.2.2⟩
def gT (b:List Int):cQ×Int :=
 if 1048576<b.length then(ng,4)else
 match qu b with
 | none=>(ng,4)
 | some l=>if(eM l).2=0/\(eM l).1=b then(l,0)else(ng,4)
theorem F1 {b:List Int}(h:(gT b).2=0):fx (gT b).1=true/\eM (gT b).1=(b,0):=by
 unfold gT at h ⊢;split at h
 · cases h
 rename_i h1;rw[if_neg h1];split at h
 · cases h
 rename_i l hl;split at h
 ·
  rename_i h2;rw[if_pos h2];dsimp only
  have h3:fx l=true:=by
   cases hr:fx l with
   | true=>rfl
   | false=>have:=h2.1;unfold eM at this;rw[if_pos hr]at this;cases this
  exact⟨h3,Prod.ext h2.2 h2.1⟩
 cases h
theorem F2 (b:List Int):(gT b).2=0∨gT b=(ng,4):=by
 unfold gT;split
 · exact Or.inr rfl
 split
 · exact Or.inr rfl
 split
 · exact Or.inl rfl
 exact Or.inr rfl
theorem ms (x:Int):bH (IntKind.i64.wrap x):=by
 unfold bH IntKind.wrap;simp[IntKind.signed,IntKind.bits];omega
theorem LT {b:Bool}{l:List Int}(hw:BytesWf l)(h:(iY b l).2.1=false):(iY b l).1.size<=65536:=by
 have h2:=pF (bad:=b) hw;unfold iY at h ⊢;dsimp only at h ⊢;rw[FU];have h3:=Bn _ _ _ h2.2.2.1 h;rw[h3.2.2.1];omega
theorem WP {b:Bool}{l:List Int}(hw:BytesWf l)(h:(fF b l).2.1=false):Bare (fF b l).1/\zu (fF b l).1:=by
 have hk:=zp 1 b l hw;unfold fF at h ⊢;dsimp only at h ⊢;split
 ·
  rename_i h1;rw[if_pos h1]at h;dsimp only at h;dsimp only;rw[h,if_neg (by simp)];exact⟨Or.inl ⟨rfl,rfl⟩,ms _,(iX 65536:ByteArray.empty.size<=65536)⟩
 rename_i h1;rw[if_neg h1]at h;split
 ·
  rename_i h2;rw[if_pos h2]at h;dsimp only at h;dsimp only;have ht:=LT hk.1 h;rw[h,if_neg (by simp)];exact⟨Or.inr ⟨rfl,rfl⟩,(show bH 0 from⟨by decide,by decide⟩),ht⟩
 rename_i h2;rw[if_neg h2]at h;cases h
theorem LU:∀(n:Nat) (b:Bool) (l:List Int),BytesWf l->(dZ fF n b l).2.1=false->∀v∈(dZ fF n b l).1,Bare v/\zu v:=by
 intro n;induction n with
 | zero=>intro b l _ _ v hv;cases hv
 | succ n ih =>
  intro b l hw h v hv;have hs:=zq b l hw;unfold dZ at h hv;split at h
  ·
   rename_i hb;rw[if_pos hb]at hv;cases hv
  rename_i hb;rw[if_neg hb]at hv;dsimp only at h hv;have am:(fF b l).2.1=false:=(LQ FV n _ _ hs.1 h).1;rcases List.mem_cons.1 hv with rfl|hv
  · exact WP hw am
  exact ih _ _ hs.1 h v hv
theorem LW (n:Nat)(l:List Int):(bw n true l).2.1=true:=by simp[bw]
theorem WQ (l:List Int):(bc true l).2.1=true:=LW 8 l
theorem WR (l:List Int):(di true l).2.1=true/\(di true l).1=0:=by
 unfold di;rw[if_pos (Or.inl (LW 4 l))];exact⟨rfl,rfl⟩
theorem WS {α:Type}(one:Bool->List Int->α×Bool×List Int)(l:List Int):(kk one true l).2.1=true:=by
 unfold kk;dsimp only;rw[(WR l).1,zo]
theorem WT {α:Type}(one:Bool->List Int->α×Bool×List Int)(n:Nat)(rest:List Int)(h:65536<n)(h2:n<4294967296):(kk one false (au 4 n++rest)).2.1=true:=by
 unfold kk;dsimp only
 have e:di false (au 4 n++rest)=(0,true,rest):=by
  unfold di;rw[vy 4 _ _ (cV 4 n)];dsimp only;rw[zg];have e1:(256:Int) ^ 4=4294967296:=by decide
  have e:(n:Int) % 256 ^ 4=n:=by rw[e1];omega
  rw[e,if_pos (by right;omega)]
 rw[e];rfl
theorem WU (s:ByteArray)(rest:List Int)(h:65536<s.size)(h2:s.size<4294967296):(iY false (m9 s++rest)).2.1=true:=by
 unfold iY m9;rw[List.append_assoc]
 have e:di false (au 4 s.size++(lJ s++rest))=(0,true,lJ s++rest):=by
  unfold di;rw[vy 4 _ _ (cV 4 s.size)];dsimp only;rw[zg];have e1:(256:Int) ^ 4=4294967296:=by decide
  have e:(s.size:Int) % 256 ^ 4=s.size:=by rw[e1];omega
  rw[e,if_pos (by right;omega)]
 rw[e];rfl
theorem LX {c:lK}(hn:bH c.num)(ht:c.text.size<4294967296)(ha:c.args.length<4294967296)(hw:BytesWf (dY c.args))(h:qW c=true):DU c:=by
 unfold qW at h;simp only[Bool.and_eq_true,Bool.not_eq_true',decide_eq_true_eq]at h;obtain⟨⟨h1,h2⟩,h3,h4⟩:=h;unfold jW jT at h1 h4;dsimp only at h1 h4;rw[FP]at h1 h4;dsimp only at h1 h4;rcases Nat.lt_or_ge 65536 c.text.size with hb|hb
 ·
  exfalso;have e:=WU c.text (au 8 c.num++dY c.args) hb ht;rw[e]at h1;rw[WQ]at h1;unfold nd at h1;rw[WS]at h1;cases h1
 rw[FQ _ _ hb]at h1 h4;dsimp only at h1 h4;rw[oN _ _ hn]at h1 h4;dsimp only at h1 h4;rw[h1,if_neg (by simp)]at h4;dsimp only at h4;refine⟨hb,hn,?_,?_⟩
 ·
  rcases Nat.lt_or_ge 65536 c.args.length with hc|hc
  ·
   exfalso;have e:=WT fF c.args.length (c.args.flatMap fp) hc ha;unfold nd dY at h1;rw[e]at h1;cases h1
  exact hc
 have hc:=pF (bad:=false) hw;have key:=LU (di false (dY c.args)).1.toNat (di false (dY c.args)).2.1 _ hc.2.2.1;have h5:(dZ fF (di false (dY c.args)).1.toNat (di false (dY c.args)).2.1 (di false (dY c.args)).2.2).2.1=false:=h1
 have h6:(nd false (dY c.args)).1=(dZ fF (di false (dY c.args)).1.toNat (di false (dY c.args)).2.1 (di false (dY c.args)).2.2).1:=by
  show (if _ then _ else _)=_;rw[h5,if_neg (by simp)]
 rw[h6]at h4;rw[h4];exact key h5
theorem vA {n:Int}(h:hX n=true):bH n:=by
 have:=DW.1 h;unfold bH;omega
structure zv (e:dX):Prop where
 session:bH e.session
 seq:bH e.seq
 num:bH e.num
 text:e.text.size<4294967296
 args:e.args.length<4294967296
 wf:BytesWf (dY e.args)
theorem LY {e:dX}(h:sh e=true):bH e.session/\bH e.seq/\DU ⟨e.ck,e.text,e.args,e.num⟩:=by
 unfold sh F0 at h;simp only[dX.cm,Bool.and_eq_true,decide_eq_true_eq]at h;obtain⟨h1,h2,h3,h4,h5,h6⟩:=h;have h4:=of_decide_eq_true h4;have h5:=of_decide_eq_true h5;have h7:e.args=[]:=List.length_eq_zero_iff.1 (of_decide_eq_true h6);refine⟨by rw[h1];exact⟨by decide,by decide⟩,by rw[h2];exact⟨by decide,by decide⟩,?_,?_,?_⟩
 ·
  show e.text.size<=65536;rw[h4];exact iX _
 ·
  show bH e.num;rw[h5];exact⟨by decide,by decide⟩
 show FR e.args;rw[h7];exact⟨iX _,λ v hv=>by cases hv⟩
theorem LZ {e:dX}(h:jm e=true)(ho:zv e):DV e:=by
 unfold jm at h;split at h
 · cases h
 rename_i h1;have h1:hX e.term=true:=by simpa using h1
 split at h
 ·
  simp only[Bool.and_eq_true,decide_eq_true_eq]at h;have hv:e.vs=[]:=List.length_eq_zero_iff.1 h.2;obtain⟨b1,b2,b3⟩:=LY h.1;exact⟨vA h1,b1,b2,b3,by rw[hv];exact iX _,by rw[hv];exact λ v hv=>by cases hv⟩
 split at h
 ·
  simp only[Bool.and_eq_true,decide_eq_true_eq]at h;have hv:e.vs=[]:=List.length_eq_zero_iff.1 h.2.2.1;exact⟨vA h1,ho.session,ho.seq,LX (c:=e.cm) ho.num ho.text ho.args ho.wf h.2.2.2,by rw[hv];exact iX _,by rw[hv];exact λ v hv=>by cases hv⟩
 simp only[Bool.and_eq_true,decide_eq_true_eq]at h;obtain⟨b1,b2,b3⟩:=LY h.2.1;obtain⟨c1,c2,c3⟩:=FZ h.2.2;exact⟨vA h1,b1,b2,b3,by omega,λ v hv=>by have:=c1 v hv;unfold bH;omega⟩
theorem WV:∀(es:List dX) (rest:List Int),(∀e∈es,DV e)->lM es.length (es.flatMap df++rest)=some (es,rest):=by
 intro es;induction es with
 | nil=>intro rest _;rfl
 | cons e es ih =>
  intro rest h;rw[List.length_cons,List.flatMap_cons,List.append_assoc];unfold lM;rw[LK e _ (h e (by simp))];dsimp only;rw[if_neg (by simp),List.drop_left,ih rest (λ x hx=>h x (sg _ hx))]
theorem zw {α:Type}(a b:List α)(k:Nat)(h:a.length=k):(a++b).take k=a/\(a++b).drop k=b:=by
 subst h;exact⟨List.take_left ..,List.drop_left ..⟩
theorem F3 (n:Nat)(rest:List Int)(h:n<4294967296):gk (au 4 n++rest)=((n:Int),decide ((n:Int)<=(rest.length:Int)),rest):=by
 have h4:(au 4 (n:Int)).length=4:=cV 4 n;obtain⟨e1,e2⟩:=zw (au 4 (n:Int)) rest 4 h4;unfold gk;rw[if_neg (by rw[List.length_append,h4];omega),e1,e2,zg];have e3:(256:Int) ^ 4=4294967296:=by decide
 have e:(n:Int) % 256 ^ 4=n:=by rw[e3];omega
 rw[e]
structure si (l:cQ):Prop where
 es:∀e∈l.es,zv e
 im:l.im.length<4294967296
theorem zx {l:cQ}(h:fx l=true):(1<=l.fr/\l.fr<=9)/\(1<=l.tov/\l.tov<=9)/\bH l.term/\bH l.was/\bH l.index/\bH l.commit/\bH l.round/\(∀e∈l.es,jm e=true)/\l.es.length<=16/\(∀v∈l.vs,1<=v/\v<=9)/\l.vs.length<=7:=by
 unfold fx at h;split at h
 · cases h
 rename_i h1;split at h
 · cases h
 rename_i h2;have h2:=eq_true_of_ne_false h2;simp only[List.all_cons,List.all_nil,Bool.and_eq_true,Bool.or_eq_true,decide_eq_true_eq,qt,List.all_eq_true]at h2;obtain⟨⟨a1,a2,a3,a4,a5,_⟩,⟨b1,b2⟩,b3⟩:=h2;refine⟨by omega,by omega,vA a1,vA a2,vA a3,vA a4,vA a5,b1,b2,?_,?_⟩
 ·
  rcases b3 with h|h
  ·
   rw[List.length_eq_zero_iff.1 h];intro v hv;cases hv
  exact(FZ h).1
 rcases b3 with h|h
 · omega
 exact(FZ h).2.2
def kF (l:cQ):List Int:=[l.kind,l.fr,l.tov]++((au 8 l.term++(au 8 l.index++au 8 l.was))++((if l.ok=true then 1 else 0) :: (au 8 l.commit++au 8 l.round)))
theorem F4 (l:cQ):(kF l).length=44:=by simp[kF,cV]
theorem DX (l:cQ):ee l=kF l++(au 4 l.es.length++(l.es.flatMap df++(au 4 l.vs.length++(l.vs++(au 4 l.im.length++l.im))))):=by
 simp[ee,kF]
theorem DY {l:cQ}(hr:fx l=true)(ho:si l)(more:List Int)(hm:more.length<4294967296):qu (ee l++more)=if more=[]then some l else none:=by
 obtain⟨n1,n2,n3,n4,n5,n6,n7,n8,n9,n10,n11⟩:=zx hr;obtain⟨R,hR⟩:∃R,au 4 l.es.length++(l.es.flatMap df++(au 4 l.vs.length++(l.vs++(au 4 l.im.length++(l.im++more)))))=R:=⟨_,rfl⟩;have hb:ee l++more=kF l++R:=by rw[DX,<-hR];simp
 have hl:=F4 l;obtain⟨t44,WW⟩:=zw (kF l) R 44 hl
 have e1:((kF l++R).drop 3).take 24=au 8 l.term++(au 8 l.index++au 8 l.was):=by
  simp only[kF,List.cons_append,List.nil_append,List.drop_succ_cons,List.drop_zero,List.append_assoc];have:=(zw (au 8 l.term++(au 8 l.index++au 8 l.was)) ((if l.ok=true then 1 else 0) :: (au 8 l.commit++(au 8 l.round++R))) 24 (by simp[cV])).1;simpa using this
 have e2:(kF l).drop 28=au 8 l.commit++au 8 l.round:=by
  have h27:([l.kind,l.fr,l.tov]++((au 8 l.term++(au 8 l.index++au 8 l.was))++[if l.ok=true then 1 else 0])).length=28:=by simp[cV]
  have hh:kF l=([l.kind,l.fr,l.tov]++((au 8 l.term++(au 8 l.index++au 8 l.was))++[if l.ok=true then 1 else 0]))++(au 8 l.commit++au 8 l.round):=by simp[kF]
  rw[hh];exact(zw _ _ 28 h27).2
 have e3:(kF l++R).getD 27 0=if l.ok=true then 1 else 0:=by
  have h27:([l.kind,l.fr,l.tov]++(au 8 l.term++(au 8 l.index++au 8 l.was))).length=27:=by simp[cV]
  have hh:kF l++R=([l.kind,l.fr,l.tov]++(au 8 l.term++(au 8 l.index++au 8 l.was)))++((if l.ok=true then 1 else 0) :: ((au 8 l.commit++au 8 l.round)++R)):=by simp[kF]
  rw[hh,List.getD_eq_getElem?_getD,zd (by omega),h27];rfl
 unfold qu;rw[hb,if_neg (by rw[List.length_append,hl];omega),t44,WW,e1,e2,e3];dsimp only;rw[oN _ _ n3];dsimp only;rw[oN _ _ n5];dsimp only;have a1:=oN l.was [] n4;rw[List.append_nil]at a1;rw[a1];dsimp only;rw[oN _ _ n6];dsimp only;have a2:=oN l.round [] n7;rw[List.append_nil]at a2;rw[a2,<-hR];rw[F3 _ _ (by omega)];dsimp only
 have iF:l.es.length<=(l.es.flatMap df).length:=by
  have:∀es:List dX,es.length<=(es.flatMap df).length:=by
   intro es;induction es with
   | nil=>exact aa _
   | cons e es ih =>
    rw[List.flatMap_cons,List.length_append,List.length_cons];have:1<=(df e).length:=by simp[df];omega
    omega
  exact this _
 rw[if_neg (by rw[decide_eq_true (by rw[List.length_append];omega)];simp;omega),Int.toNat_natCast,WV _ _ (λ e he=>LZ (n8 e he) (ho.es e he))];dsimp only;rw[F3 _ _ (by omega)];dsimp only;rw[if_neg (by simp;omega),Int.toNat_natCast,List.drop_left,List.take_left];rw[F3 _ _ ho.im];dsimp only;by_cases qm:more=[]
 ·
  subst qm;rw[if_neg (by simp),if_pos rfl];obtain⟨k,f,t,tm,ix,ws,ok,cm,rd,es,vs,im⟩:=l;cases ok<;>simp[kF]
 have:0<more.length:=List.length_pos_iff.2 qm;rw[if_pos (by right;simp;omega),if_neg qm]
theorem uk {a b:List Int}(h:BytesWf (a++b)):BytesWf a/\BytesWf b:=⟨λ x hx=>h x (List.mem_append_left _ hx),λ x hx=>h x (List.mem_append_right _ hx)⟩
theorem F5 {b:Bool}{l:List Int}(hw:BytesWf l)(h:(fq b l).2.1=false):zv (fq b l).1:=by
 have hth:=Bo b l hw h
 have vB:BytesWf (df (fq b l).1):=by
  have:=hth.2.1;rw[this]at hw;exact(uk hw).1
 have wv:BytesWf (dY (fq b l).1.args):=by
  generalize (fq b l).1=e at vB;unfold df jT at vB;have q1:=(uk vB).2;have q2:BytesWf (au 8 e.session++(au 8 e.seq++((e.ck :: (m9 e.text++(au 8 e.num++dY e.args)))++(au 4 e.vs.length++e.vs.flatMap (au 8))))):=λ x hx=>q1 x (sg _ hx)
  have q4:=(uk (uk (uk q2).2).2).1;have q5:BytesWf (m9 e.text++(au 8 e.num++dY e.args)):=λ x hx=>q4 x (sg _ hx)
  exact(uk (uk q5).2).2
 obtain⟨t,ht⟩:∃t,bc b l=t:=⟨_,rfl⟩;obtain⟨k,hk⟩:∃k,eI t.2.1 t.2.2=k:=⟨_,rfl⟩;obtain⟨s,hs⟩:∃s,bc k.2.1 k.2.2=s:=⟨_,rfl⟩;obtain⟨q,hq⟩:∃q,bc s.2.1 s.2.2=q:=⟨_,rfl⟩;obtain⟨c,hc⟩:∃c,jW q.2.1 q.2.2=c:=⟨_,rfl⟩;obtain⟨v,hv⟩:∃v,rJ c.2.1 c.2.2=v:=⟨_,rfl⟩;have he:fq b l=(if v.2.1=true then⟨0,0,0,0,0,ByteArray.empty,[],0,[]⟩else⟨t.1,k.1,s.1,q.1,c.1.kind,c.1.text,c.1.args,c.1.num,v.1⟩,v.2):=by subst hv hc hq hs hk ht;rfl
 have w1:=eL b l hw;rw[ht]at w1;have w2:=p4 t.2.1 _ w1.1;rw[hk]at w2;have w3:=eL k.2.1 _ w2.1;rw[hs]at w3;have w4:=eL s.2.1 _ w3.1;rw[hq]at w4;have w5:=xg q.2.1 _ w4.1;rw[hc]at w5;rw[he]at h wv ⊢;dsimp only at h wv ⊢
 have hcb:c.2.1=false:=by
  have:=FY c.2.1 _ w5.1 (by rw[hv];exact h);exact this.1
 rw[h,if_neg (by simp)]at wv ⊢;dsimp only at wv;obtain⟨k',hk'⟩:∃k',eI q.2.1 q.2.2=k':=⟨_,rfl⟩;obtain⟨t',ht'⟩:∃t',iY k'.2.1 k'.2.2=t':=⟨_,rfl⟩;obtain⟨n',hn'⟩:∃n',bc t'.2.1 t'.2.2=n':=⟨_,rfl⟩;obtain⟨v',hv'⟩:∃v',nd n'.2.1 n'.2.2=v':=⟨_,rfl⟩;have he':c=(if v'.2.1=true then⟨0,ByteArray.empty,[],0⟩else⟨k'.1,t'.1,v'.1,n'.1⟩,v'.2):=by subst hv' hn' ht' hk' hc;rfl
 have k1:=p4 q.2.1 _ w4.1;rw[hk']at k1;have k2:=vx k'.2.1 _ k1.1;rw[ht']at k2;have k3:=eL t'.2.1 _ k2.1;rw[hn']at k3;rw[he']at hcb wv ⊢;dsimp only at hcb wv ⊢;have c3:n'.2.1=false:=(FX n'.2.1 _ k3.1 (by rw[hv'];exact hcb)).1;have c2:t'.2.1=false:=(uj t'.2.1 _ k2.1 (by rw[hn'];exact c3)).1;rw[hcb,if_neg (by simp)]at wv ⊢;have e1:bH s.1:=by rw[<-hs];exact ms _
 have e2:bH q.1:=by rw[<-hq];exact ms _
 have e3:bH n'.1:=by rw[<-hn'];exact ms _
 have e4:t'.1.size<=65536:=by rw[<-ht'];exact LT k1.1 (by rw[ht'];exact c2)
 have e5:v'.1.length<=65536:=by rw[<-hv'];exact Wv fF n'.2.1 n'.2.2 k3.1
 exact⟨e1,e2,e3,Nat.lt_of_le_of_lt e4 (by decide),Nat.lt_of_le_of_lt e5 (by decide),wv⟩
theorem L0:∀(n:Nat) (r:List Int) (es:List dX) (r':List Int),BytesWf r->lM n r=some (es,r')->(∀e∈es,zv e)/\es.length=n/\BytesWf r'/\r=es.flatMap df++r':=by
 intro n;induction n with
 | zero =>
  intro r es r' hw h;simp only[lM,Option.some.injEq,Prod.mk.injEq]at h;obtain⟨rfl,rfl⟩:=h;exact⟨(λ e he=>by cases he),rfl,hw,rfl⟩
 | succ n ih =>
  intro r es r' hw h;have hth:=Bo false r hw;have ij:=F5 (b:=false) hw;unfold lM at h;generalize fq false r=x at h hth ij;obtain⟨e,xb,xr⟩:=x;dsimp only at h hth ij;cases xb with
  | true=>rw[if_pos rfl]at h;cases h
  | false =>
   rw[if_neg (by simp)]at h;obtain⟨_,h2,h3⟩:=hth rfl
   have hr:r.drop (df e).length=xr:=by
    rw[h2];exact(zw _ _ _ rfl).2
   rw[hr]at h;rcases hq:lM n xr with _|⟨l,r2⟩
   ·
    rw[hq]at h;cases h
   rw[hq]at h;simp only[Option.some.injEq,Prod.mk.injEq]at h;obtain⟨rfl,rfl⟩:=h;obtain⟨i1,i2,i3,i4⟩:=ih _ _ _ h3 hq;refine⟨λ e' he=>?_,by rw[List.length_cons,i2],i3,?_⟩
   ·
    rcases List.mem_cons.1 he with rfl|he
    · exact ij rfl
    exact i1 e' he
   rw[List.flatMap_cons,List.append_assoc,<-i4];exact h2
theorem ul {r:List Int}(h:BytesWf r):BytesWf (gk r).2.2/\0<=(gk r).1/\(gk r).1<4294967296/\(gk r).2.2.length<=r.length:=by
 unfold gk;split
 · exact⟨h,Int.le_refl 0,(by decide:(0:Int)<4294967296),aa _⟩
 have h4:=tA (h.take 4) (by rw[List.length_take];omega:(r.take 4).length<=4);refine⟨h.drop 4,h4.1,h4.2,by simp⟩
theorem L3 {b:List Int}{l:cQ}(hw:BytesWf b)(hl:b.length<4294967296)(h:qu b=some l):si l:=by
 unfold qu at h;split at h
 · cases h
 dsimp only at h;split at h
 · cases h
 split at h
 · cases h
 rename_i es r nN;split at h
 · cases h
 split at h
 · cases h
 simp only[Option.some.injEq]at h;subst h;have c1:=ul (hw.drop 44);obtain⟨i1,i2,i3,i4⟩:=L0 _ _ _ _ c1.1 nN;refine⟨i1,?_⟩;have c2:=ul i3;have c3:=ul (c2.1.drop (gk r).1.toNat)
 have gN:r.length<=b.length:=by
  have e1:(gk (b.drop 44)).2.2.length=(es.flatMap df++r).length:=by rw[<-i4]
  rw[List.length_append]at e1;have:=c1.2.2.2;rw[List.length_drop]at this;omega
 have:=c3.2.2.2;have h5:=c2.2.2.2;rw[List.length_drop]at this;dsimp only;omega
theorem L4 (l:cQ):(eM l).2=0->fx l=true/\(ee l).length<=1048576/\(eM l).1=ee l:=by
 unfold eM;split
 · intro h;cases h
 rename_i hr;split
 · intro h;cases h
 rename_i hb;intro _;exact⟨eq_true_of_ne_false hr,Nat.le_of_not_lt hb,rfl⟩
theorem L5 {l:cQ}(hr:fx l=true)(ho:si l)(hl:(ee l).length<=1048576):gT (ee l)=(l,0):=by
 have h1:=DY hr ho [] (by decide);rw[if_pos rfl,List.append_nil]at h1
 have hp:eM l=(ee l,0):=by
  unfold eM;rw[if_neg (by rw[hr];simp),if_neg (by omega)]
 unfold gT;rw[if_neg (by omega),h1];dsimp only;rw[hp,if_pos ⟨rfl,rfl⟩]
theorem WX {l:cQ}(hr:fx l=true)(ho:si l){more:List Int}(hm:more≠[])(hl:more.length<4294967296):(gT (ee l++more)).2=4:=by
 have h1:=DY hr ho more hl;rw[if_neg hm]at h1;unfold gT;rw[h1];split<;>rfl
theorem WY {l:cQ}(hr:fx l=true)(ho:si l)(hl:(ee l).length<=1048576)(hw:BytesWf (ee l)){k:Nat}(hk:k<(ee l).length):(gT ((ee l).take k)).2=4:=by
 rcases F2 ((ee l).take k)with h|h
 ·
  exfalso;have h2:=F1 h;have h3:=L4 (gT ((ee l).take k)).1 (by rw[h2.2]);have hb:ee (gT ((ee l).take k)).1=(ee l).take k:=by rw[<-h3.2.2,h2.2]
  have ij:si (gT ((ee l).take k)).1:=by
   have hg:∃l',qu ((ee l).take k)=some l'/\(gT ((ee l).take k)).1=l':=by
    unfold gT at h ⊢;split at h
    · cases h
    rename_i q1;rw[if_neg q1];split at h
    · cases h
    rename_i l' hl';split at h
    ·
     rename_i q2;rw[if_pos q2];exact⟨l',hl',rfl⟩
    cases h
   obtain⟨l',g1,g2⟩:=hg;rw[g2];exact L3 (hw.take k) (by rw[List.length_take];omega) g1
  have h4:=DY h3.1 ij ((ee l).drop k) (by rw[List.length_drop];omega);rw[hb,List.take_append_drop,if_neg (by intro e;have:=congrArg List.length e;simp at this;omega)]at h4;have h5:=DY hr ho [] (by decide);rw[if_pos rfl,List.append_nil,h4]at h5;cases h5
 rw[h]
def mt (e:En):Value:=.slice e.fQ e.args.length e.fw
def jn (e:En):Value:=.slice e.hU e.vs.length e.ce
def ja (w:World) (base:Nat) (e:En):Prop :=
 w.ownsRow base 50 3 (mt e) e.args.length (e.args.flatMap jl)/\w.ownsRow base 3 1 (jn e) e.vs.length (e.vs.flatMap gb)
def WZ (e f:En):Prop:=((mt e).ownBlock=none∨(mt e).ownBlock≠(mt f).ownBlock)/\((jn e).ownBlock=none∨(jn e).ownBlock≠(jn f).ownBlock)
structure gU (w:World) (base:Nat) (v:Value) (es:List En):Prop where
 row:w.ownsRow base 46 9 v es.length (es.flatMap bW)
 own:∀e∈es,ja w base e
 sep:es.Pairwise WZ
theorem ja.below {w w':World}{base B:Nat}{e:En}(h:ja w base e)(hb:Below B w w')(hB:w.heap.size<=B):ja w' base e:=⟨own_below h.1 hb hB,own_below h.2 hb hB⟩
theorem ja.le {w:World}{base base':Nat}{e:En}(h:ja w base e)(hB:base'<=base):ja w base' e:=⟨fh h.1 hB,fh h.2 hB⟩
theorem gU.below {w w':World}{base B:Nat}{v:Value}{es:List En}(h:gU w base v es)(hb:Below B w w')(hB:w.heap.size<=B):gU w' base v es :=
 ⟨own_below h.row hb hB,λ e he=>(h.own e he).below hb hB,h.sep⟩
theorem gU.le {w:World}{base base':Nat}{v:Value}{es:List En}(h:gU w base v es)(hB:base'<=base):gU w base' v es:=⟨fh h.row hB,λ e he=>(h.own e he).le hB,h.sep⟩
theorem gU.nil (w:World)(base:Nat):gU w base (.slice none 0 0) []:=⟨iK _ _ _ _,by simp,List.Pairwise.nil⟩
theorem mH {α:Type}{k:Nat}{cells:α->List Value}{sub:World->Nat->α->Prop}(hk:∀x,(cells x).length=k){w:World}{base e n c:Nat}{ao:Option Addr}{xs:List α}(hn:xs.length=n)(h:w.ownsRow base e k (.slice ao n c) n (xs.flatMap cells))(hs:∀x∈xs,sub w w.heap.size x):RowsIn k cells sub w w.heap.size ao xs:=by
 subst hn;obtain⟨a',c',hv,gq,_⟩:=VT hk rfl h hs (aa _);cases hv
 exact gq
theorem ja.sub {w:World}{base:Nat}{e:En}(h:ja w base e):rG w w.heap.size e :=
 ⟨mH oF rfl h.1 (λ _ _=>trivial),mH mA rfl h.2 (λ _ _=>trivial)⟩
theorem W1 {α:Type}{k:Nat}{cells:α->List Value}(hk:∀x,(cells x).length=k)(A B:List α)(x:α)(q j:Nat)(hq:A.length=q)(hj:j<k)(u:Value):((A++x :: B).flatMap cells).set (q*k+j) u=A.flatMap cells++((cells x).set j u++B.flatMap cells):=by
 have hA:=nT hk A;rw[hq]at hA;rw[List.flatMap_append,List.flatMap_cons,List.set_append_right _ _ (by omega),hA,show q*k+j-q*k=j by omega,List.set_append_left _ _ (by rw[hk];exact hj)]
def W2 (xs:List En) (n:Nat) (w:World) (e:Ending) (w':World):Prop :=
 ∃a c es,e=.returned (.slice a n c)/\gU w' w.heap.size (.slice a n c) es/\es.map En.plain=xs.map En.plain/\Below w.heap.size w w'
open Go.ChangeShapes
def um (v:Va):Prop:=(Lit.int .u8 v.kind).wf=true/\(Lit.int .i64 v.num).wf=true/\v.text.size<=reachBytes
structure F6 (e:En):Prop where
 term:(Lit.int .i64 e.term).wf=true
 kind:(Lit.int .u8 e.kind).wf=true
 session:(Lit.int .i64 e.session).wf=true
 seq:(Lit.int .i64 e.seq).wf=true
 ck:(Lit.int .u8 e.ck).wf=true
 text:e.text.size<=140737488351232
 args:∀v∈e.args,um v
 num:(Lit.int .i64 e.num).wf=true
 vs:∀v∈e.vs,(Lit.int .i64 v).wf=true
 F7:e.args.length*32<=140737488351232
 vn:e.vs.length*8<=140737488351232
 F8:e.fQ=none->e.fw=0
 sj:e.hU=none->e.ce=0
 fw:e.args.length<=e.fw
 ce:e.vs.length<=e.ce
theorem W3 {w:World}{g:Nat}{x:Obj}(h:w.heap[g]?=some x)(o:Obj):(w.alloc o).heap[g]?=some x :=
 ((nc w o none).block g (Array.getElem?_eq_some_iff.1 h).1 (by simp)).trans h
theorem vC (ck:Int)(text:ByteArray)(num:Int)(args:List Va):(jT ck text num args).length=13+text.size+(dY args).length:=by
 simp only[jT,List.length_append,List.length_cons,cV,tZ];omega
theorem W4 (ck:Int)(text:ByteArray)(ao:Option Addr)(n cap:Nat)(num:Int)(args:List Va)(w:World)(hn:args.length=n)(hx:iz w w.heap.size ao args)(gM:∀v∈args,v.text.size<=1099511627776)(pr:n<=1099511627776)(fV:text.size+(dY args).length+40<=100000000000) :
  Calls prog 147 #[.agg #[.int .u8 ck,.string text,.slice ao n cap,.int .i64 num]] w (zi (jT ck text num args) w.heap.size w):=by
 have hfl:=vC ck text num args;have H:=Hd (FB (w.alloc (.cells #[.int .u8 ck,.string text,.slice ao n cap,.int .i64 num] 44)));have hb:=((aj w.heap.size w).alloc (aa _) (.cells #[.int .u8 ck,.string text,.slice ao n cap,.int .i64 num] 44)).alloc (by simp) (.cells #[.slice none 0 0,.int .i64 0,.int .i8 0] 79);have HB:=Hd hb;have bP:(w.alloc (.cells #[.int .u8 ck,.string text,.slice ao n cap,.int .i64 num] 44)).heap.size=w.heap.size+1:=by simp
 rw[bP]at H;have HX:=Hd hx;have HN:=Hd hn;have qq:=Hd gM;have vD:=Hd hfl;clear hb bP hx hn gM hfl;go_enter func147,ntmps147
 go_wp2_with fail
 refine(LG (w.heap.size+1) (w.heap.size+1) [] ck text ao n cap num args _ HN.out ((HX.out.below cn HB.out (aa _)).mono cK (fU _)) qq.out H.out (by simp) pr (by simp;omega)).mono ?_;rintro e w1 ⟨rfl,hw⟩;rw[List.nil_append]at hw;have HW:=Hd hw;have ba:=HB.out.trans (hw.2.1.mono (fU _));have dB:w.heap.size+1<=w1.heap.size:=by have:=hw.2.1.size;simp at this;omega
 clear hw;go_wp2_with fail
 refine(FA (w.heap.size+1) (w.heap.size+1) _ w1 HW.out.1 dB (by have:=vD.out;omega)).mono ?_;rintro e w2 ⟨a,c,rfl,ho,am⟩;have HO:=Hd (fh ho ba.size);have ap:=ba.trans (am.mono ba.size);clear ho ba am;go_wp2_with fail
 go_ret;exact⟨a,c,rfl,HO.out,ap⟩
end Go.Proofs.YtepdklfkegkojaaGreatDoor
