/- Parts of one proof. Conditions: as each says. -/
import Derived.Test.YtepdklfkegkojaaGreatDoorGLetterNumbers0
import Derived.Test.YtepdklfkegkojaaGreatDoorGLetterNumbers4
import Derived.Test.YtepdklfkegkojaaGreatDoorGLetterNumbers23
set_option linter.all false
set_option maxHeartbeats 16000000
set_option maxRecDepth 100000
namespace Go.Proofs.YtepdklfkegkojaaGreatDoor
open Go.Proofs.Tryz
open Go.RowKit
def mR:Nat->Bool->List Int->List dX×Bool×List Int
 | 0,b,l=>([],b,l)
 | n+1,b,l=>if b=true then([],b,l)else((fq false l).1 :: (mR n (fq false l).2.1 (fq false l).2.2).1,(mR n (fq false l).2.1 (fq false l).2.2).2)
def mx:Nat->Bool->List Int->List Int×Bool×List Int
 | 0,b,l=>([],b,l)
 | n+1,b,l=>if b=true then([],b,l)else match l with
  | []=>([],true,[])
  | v :: r=>(v :: (mx n false r).1,(mx n false r).2)
def wI (b:List Int):Option cQ :=
 let a:=bc false (b.drop 3)
 let i:=bc a.2.1 a.2.2
 let s:=bc i.2.1 i.2.2
 let c:=bc s.2.1 (s.2.2.drop 1)
 let d:=bc c.2.1 c.2.2
 let n:=ot d.2.1 d.2.2
 let es:=mR n.1.toNat n.2.1 n.2.2
 let m:=ot es.2.1 es.2.2
 let vs:=mx m.1.toNat m.2.1 m.2.2
 let q:=ot vs.2.1 vs.2.2
 if q.2.1=true then none else some ⟨b.getD 0 0,b.getD 1 0,b.getD 2 0,a.1,i.1,s.1,decide (s.2.2.getD 0 0=1),c.1,d.1,es.1,vs.1,q.2.2⟩
def wJ (b:List Int):cQ×Int :=
 if 1048576<b.length∨b.length<3 then(ng,4)else
 match wI b with
 | none=>(ng,4)
 | some l=>if(eM l).2=0/\(eM l).1=b then(l,0)else(ng,4)
theorem Jh (n:Nat)(rest:List Int)(h:n<4294967296)(hr:n<=rest.length):ot false (au 4 (n:Int)++rest)=((n:Int),false,rest):=by
 have h4:(au 4 (n:Int)).length=4:=cV 4 n;obtain⟨e1,e2⟩:=zw (au 4 (n:Int)) rest 4 h4;have e3:(256:Int) ^ 4=4294967296:=by decide
 have e:(n:Int) % 256 ^ 4=n:=by rw[e3];omega
 unfold ot;rw[if_neg (by rw[List.length_append,h4];simp),e1,e2,zg,e,if_neg (by omega)]
theorem CZ {b:Bool}{l:List Int}(h:(ot b l).2.1=false):b=false/\(ot b l).2.2=l.drop 4:=by
 unfold ot at h ⊢;split at h
 · cases h
 rename_i h1;rw[if_neg h1];split at h
 · cases h
 rename_i h2;rw[if_neg h2];refine⟨?_,rfl⟩;cases b with
 | false=>rfl
 | true=>exact absurd (Or.inl rfl) h1
theorem aaU:∀(es:List dX) (rest:List Int),(∀e∈es,DV e)->mR es.length false (es.flatMap df++rest)=(es,false,rest):=by
 intro es;induction es with
 | nil=>intro rest _;rfl
 | cons e es ih =>
  intro rest h;rw[List.length_cons,List.flatMap_cons,List.append_assoc];unfold mR;rw[if_neg (by decide),LK e _ (h e (by simp))];dsimp only;rw[ih rest (λ x hx=>h x (sg _ hx))]
theorem aaV:∀(vs rest:List Int),mx vs.length false (vs++rest)=(vs,false,rest):=by
 intro vs;induction vs with
 | nil=>intro rest;rfl
 | cons v vs ih =>
  intro rest;rw[List.length_cons,List.cons_append];unfold mx;rw[if_neg (by decide)];dsimp only;rw[ih rest]
theorem aaW {l:cQ}(hr:fx l=true)(ho:si l):wI (ee l)=some l:=by
 obtain⟨n1,n2,n3,n4,n5,n6,n7,n8,n9,n10,n11⟩:=zx hr;obtain⟨kd,f,t,tm,ix,ws,ok,cm,rd,es,vs,im⟩:=l;dsimp only at n1 n2 n3 n4 n5 n6 n7 n8 n9 n10 n11;have him:=ho.im;dsimp only at him
 have hb:ee ⟨kd,f,t,tm,ix,ws,ok,cm,rd,es,vs,im⟩=kd :: f :: t :: (au 8 tm++(au 8 ix++(au 8 ws++((if ok=true then 1 else 0) :: (au 8 cm++(au 8 rd++(au 4 (es.length:Int)++(es.flatMap df++(au 4 (vs.length:Int)++(vs++(au 4 (im.length:Int)++im))))))))))):=by
  simp[ee]
 have iF:es.length<=(es.flatMap df).length:=by
  have:∀es:List dX,es.length<=(es.flatMap df).length:=by
   intro es;induction es with
   | nil=>exact aa _
   | cons e es ih =>
    rw[List.flatMap_cons,List.length_append,List.length_cons];have:1<=(df e).length:=by simp[df];omega
    omega
  exact this _
 rw[hb];unfold wI;simp only[List.drop_succ_cons,List.drop_zero];rw[oN _ _ n3];dsimp only;rw[oN _ _ n5];dsimp only;rw[oN _ _ n4];simp only[List.drop_succ_cons,List.drop_zero];rw[oN _ _ n6];dsimp only;rw[oN _ _ n7];dsimp only;rw[Jh es.length _ (by omega) (by rw[List.length_append];omega)];dsimp only;rw[Int.toNat_natCast,aaU _ _ (λ e he=>LZ (n8 e he) (ho.es e he))];dsimp only;rw[Jh vs.length _ (by omega) (by rw[List.length_append];omega)];dsimp only;rw[Int.toNat_natCast,aaV];dsimp only;rw[Jh im.length _ him (aa _)];dsimp only;rw[if_neg (by decide)];cases ok<;>simp
theorem aaX:∀(n:Nat) (b:Bool) (l:List Int),BytesWf l->(mR n b l).2.1=false->(∀e∈(mR n b l).1,zv e)/\BytesWf (mR n b l).2.2/\(mR n b l).2.2.length<=l.length/\b=false:=by
 intro n;induction n with
 | zero=>intro b l hw h;exact⟨(by intro e he;cases he),hw,aa _,h⟩
 | succ n ih =>
  intro b l hw h;unfold mR at h ⊢;cases b with
  | true=>rw[if_pos rfl]at h;cases h
  | false =>
   rw[if_neg (by decide)]at h ⊢;dsimp only at h ⊢;have hs:=FJ false l hw;obtain⟨h1,h2,h3,h4⟩:=ih _ _ hs.1 h;refine⟨λ e he=>?_,h2,by have:=hs.2;omega,rfl⟩;rcases List.mem_cons.1 he with rfl|he
   · exact F5 hw h4
   exact h1 e he
theorem aaY:∀(n:Nat) (b:Bool) (l:List Int),(mx n b l).2.1=false->(mx n b l).2.2.length<=l.length/\b=false:=by
 intro n;induction n with
 | zero=>intro b l h;exact⟨aa _,h⟩
 | succ n ih =>
  intro b l h;unfold mx at h ⊢;cases b with
  | true=>rw[if_pos rfl]at h;cases h
  | false =>
   rw[if_neg (by decide)]at h ⊢;cases l with
   | nil=>cases h
   | cons v r =>
    dsimp only at h ⊢;have:=(ih false r h).1;exact⟨by simp;omega,rfl⟩
theorem aaZ {b:List Int}{l:cQ}(hw:BytesWf b)(hl:b.length<4294967296)(h:wI b=some l):si l:=by
 unfold wI at h;dsimp only at h;have w0:BytesWf (b.drop 3):=λ x hx=>hw x (ub hx)
 have s1:=eL false (b.drop 3) w0;generalize bc false (b.drop 3)=a at h s1;have s2:=eL a.2.1 a.2.2 s1.1;generalize bc a.2.1 a.2.2=i at h s2;have s3:=eL i.2.1 i.2.2 s2.1;generalize bc i.2.1 i.2.2=s at h s3;have w4:BytesWf (s.2.2.drop 1):=λ x hx=>s3.1 x (ub hx)
 have s4:=eL s.2.1 (s.2.2.drop 1) w4;generalize bc s.2.1 (s.2.2.drop 1)=c at h s4;have s5:=eL c.2.1 c.2.2 s4.1;generalize bc c.2.1 c.2.2=d at h s5;obtain⟨n,hn⟩:∃n,ot d.2.1 d.2.2=n:=⟨_,rfl⟩;rw[hn]at h;obtain⟨es,nN⟩:∃es,mR n.1.toNat n.2.1 n.2.2=es:=⟨_,rfl⟩;rw[nN]at h;obtain⟨m,hm⟩:∃m,ot es.2.1 es.2.2=m:=⟨_,rfl⟩;rw[hm]at h;obtain⟨vs,ie⟩:∃vs,mx m.1.toNat m.2.1 m.2.2=vs:=⟨_,rfl⟩;rw[ie]at h;obtain⟨q,hq⟩:∃q,ot vs.2.1 vs.2.2=q:=⟨_,rfl⟩;rw[hq]at h;split at h
 · cases h
 rename_i Al;have Al:q.2.1=false:=eq_false_of_ne_true Al;cases h
 have f1:=CZ (b:=vs.2.1) (l:=vs.2.2) (by rw[hq];exact Al);have f2:=aaY m.1.toNat m.2.1 m.2.2 (by rw[ie];exact f1.1);have f3:=CZ (b:=es.2.1) (l:=es.2.2) (by rw[hm];exact f2.2)
 have hnd:n.2.1=false:=by
  cases hnb:n.2.1 with
  | false=>rfl
  | true =>
   have:es.2.1=true:=by rw[<-nN,hnb];cases n.1.toNat<;>rfl
   rw[f3.1]at this;cases this
 have f5:=CZ (b:=d.2.1) (l:=d.2.2) (by rw[hn];exact hnd);rw[hn]at f5;have w6:BytesWf n.2.2:=by rw[f5.2];exact λ x hx=>s5.1 x (ub hx)
 have f4:=aaX n.1.toNat n.2.1 n.2.2 w6 (by rw[nN];exact f3.1);rw[nN]at f4;rw[ie]at f2;rw[hm]at f3;rw[hq]at f1;refine⟨f4.1,?_⟩;dsimp only;have l1:q.2.2.length<=vs.2.2.length:=by rw[f1.2,List.length_drop];omega
 have l2:m.2.2.length<=es.2.2.length:=by rw[f3.2,List.length_drop];omega
 have l3:n.2.2.length<=d.2.2.length:=by rw[f5.2,List.length_drop];omega
 have l4:=f2.1;have l5:=f4.2.2.1;have l6:=s5.2;have l7:=s4.2;have l8:=s3.2;have l9:=s2.2;have l10:=s1.2;rw[List.length_drop]at l7 l10;omega
theorem aa0 {b:List Int}(hw:BytesWf b):wJ b=gT b:=by
 unfold wJ;by_cases nP:1048576<b.length
 ·
  rw[if_pos (Or.inl nP)];unfold gT;rw[if_pos nP]
 by_cases nF:b.length<3
 ·
  rw[if_pos (Or.inr nF)];unfold gT qu;rw[if_neg nP,if_pos (by omega)]
 rw[if_neg (by omega)]
 have key:∀l,si l->eM l=(b,0)->fx l=true/\ee l=b:=λ l ho hp=>by
  have h:=L4 l (by rw[hp]);exact⟨h.1,by rw[<-h.2.2,hp]⟩
 rcases F2 b with h0|h0
 ·
  have h1:=F1 h0
  have ij:si (gT b).1:=by
   unfold gT at h0 ⊢;rw[if_neg nP]at h0 ⊢;split at h0
   · cases h0
   rename_i l hl;split at h0
   ·
    rename_i h2;rw[if_pos h2];exact L3 hw (by omega) hl
   cases h0
  obtain⟨k1,k2⟩:=key _ ij h1.2;have ny:=aaW k1 ij;rw[k2]at ny;rw[ny];dsimp only;rw[h1.2,if_pos ⟨rfl,rfl⟩];exact Prod.ext rfl h0.symm
 cases fS:wI b with
 | none=>exact h0.symm
 | some l =>
  dsimp only;by_cases hp:(eM l).2=0/\(eM l).1=b
  ·
   have ip:eM l=(b,0):=Prod.ext hp.2 hp.1;have ij:=aaZ hw (by omega) fS;obtain⟨k1,k2⟩:=key l ij ip;have h3:=L5 k1 ij (by rw[k2];omega);rw[k2,h0]at h3;simp only[Prod.mk.injEq]at h3;exact absurd h3.2 (by decide)
  rw[if_neg hp,h0]
end Go.Proofs.YtepdklfkegkojaaGreatDoor
