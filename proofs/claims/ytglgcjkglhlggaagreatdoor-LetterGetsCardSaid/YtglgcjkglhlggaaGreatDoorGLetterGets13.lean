/- The document's writers: the bytes of a number, a text, a value, a row of values. Conditions: what is written is not too long. -/
import Derived.Test.YtglgcjkglhlggaaGreatDoorGLetterGets0
import Derived.Test.YtglgcjkglhlggaaGreatDoorGLetterGets6
import Derived.Test.YtglgcjkglhlggaaGreatDoorGLetterGets2
import Derived.Test.YtglgcjkglhlggaaGreatDoorGLetterGets12
import Derived.Test.YtglgcjkglhlggaaGreatDoorGLetterGets3
import Derived.Lib.AppendStr
import Derived.Test.YtglgcjkglhlggaaGreatDoorGLetterGets5
import Derived.Test.YtglgcjkglhlggaaGreatDoorGLetterGets4
import Derived.Deep.DeepCutAuto
set_option linter.unusedVariables false
set_option linter.unusedSimpArgs false
namespace Go.Proofs.YtglgcjkglhlggaaGreatDoor
open Go.RowKit
set_option maxRecDepth 20000
theorem oper_append_bo {w:World}{o:Oper}{a:Act}{K:Act→World→Prop}{Q:Exit→Act→World→Prop}(s x:Operand)
  (ho:o.op=.call { callee:=.builtin .append,args:=#[s,x],argTypes:=#[25,25] })
  (base:Nat) {a1:Option Addr} {n1 c1:Nat} {L1:List Int} (hs:a.eval s=.slice a1 n1 c1) (hown:BOwn w base a1 n1 c1 L1)
  {ao:Option Addr} {n cap:Nat} {xs:List Int} (hx:a.eval x=.slice ao n cap) (hn:xs.length=n) (B:Nat) (hin:BytesIn w B ao xs) (hao:ao=none→cap=0) (hlim:n1+n≤140737488351232) (hbase:base≤w.heap.size)
  (h:∀ a2 n2 c2 w',BOwn w' base a2 n2 c2 (L1 ++ xs)→w.grownBy w' (Value.slice a1 n1 c1).ownBlock→n2=n1+n→K (a.put o.dst (.slice a2 n2 c2)) w'):Oper.wp Tryz.prog o a w K Q:=by
 obtain ⟨rfl,hrow⟩:=hown
 refine oper_append_bytes s x ho base _ L1 _ rfl hs hrow ao n cap xs hn hx B hin hao hlim hbase fun v' w' h1 h2=>?_
 obtain ⟨a2,c2,rfl⟩:=row_slice h1
 exact h a2 _ c2 w' ⟨by rw [List.length_append,hn],h1⟩ h2 rfl
theorem rnumber_any (n:Int)(size:Nat)(w:World)(hs:size≤8)(hn:0≤n)(hn2:n<18446744073709551616) :
  Calls Tryz.prog 136 #[.int .u64 n,.int .i64 size] w (RNew (numB size n) w):=by
 have w0:IntKind.i64.wrap ((size:Int) - 1)=(size:Int) - 1:=IntWalk.i64_in _ (by omega)
 go_enter Tryz.func136,Tryz.ntmps136
 go_wp2_with fail
 go_loopw [5,6] (fun v i wr=>∃ (q:Nat) (a:Option Addr) (c:Nat),q≤size∧i=.int .i64 ((size:Int) - 1 - q)∧v=.slice a q c∧BOwn wr w.heap.size a q c ((numB size n).take q)∧Below w.heap.size w wr) (fun _ i _=>(intOf i+1).toNat)
 case atStart=>exact ⟨0,none,0,by omega,by simp,rfl,⟨rfl,World.ownsRow_nil _ _ _ _⟩,Below.refl _ _⟩
 case round =>
  clear w0
  obtain ⟨q,a,c,hq,rfl,rfl,hown,hbel⟩:=hrel
  have HO:=Hd hown
  clear hown
  by_cases hltq:q<size
  ·
   obtain ⟨p,hp⟩:∃ p:Nat,p=size - 1 - q:=⟨_,rfl⟩
   have hpe:(size:Int) - 1 - q=p:=by omega
   have hnt:=numB_take size n q hltq
   rw [← hp] at hnt
   have HNT:=Hd hnt
   have hp8:p≤7:=by omega
   have w3:IntKind.i64.wrap (8 * (p:Int))=8 * p:=IntWalk.i64_in _ (by omega)
   have w4:IntKind.u64.wrap (8 * (p:Int))=8 * p:=IntWalk.u64_in _ (by omega)
   have n3:((8:Int) * p).toNat=8 * p:=by omega
   have g3:(0:Int)≤8 * p:=by omega
   have HPE:=Hd hpe
   have hs2:=hbel.size
   rw [hpe]
   clear hnt hp hpe
   go_wp2_with (at_builtin;refine wpList_append_bo rfl (.tmp 13) (.tmp 20) rfl w.heap.size rfl (HO.out.below ((Below.refl wr.heap.size wr).alloc (nlr _) _) (nlr _)) rfl rfl _ (BOwn.lit wr [n / 2 ^ (8 * p) % 256] (by simp)).in (fun h=>by cases h) (by omega) (by simp;omega) ?_)
   intro a2 n2 c2 w5 hown5 hg5 hn5
   have hb5:Below w.heap.size w w5:=(hbel.alloc hs2 _).grown hg5 (by simp;omega) (fun k hk=>(HO.out.lt k hk).1)
   rw [← HNT.out] at hown5
   have HO5:=Hd hown5
   have HN5:=Hd hn5
   clear hown5 hg5 hn5
   go_wp2_with fail
   go_roundw
   case rel=>exact ⟨q+1,a2,c2,by omega,by have:=HPE.out;congr 1;push_cast;omega,by rw [HN5.out],by have:=HO5.out;rw [HN5.out] at this;exact this,hb5⟩
   case measure=>first | (simp [intOf];done) | (have:=HPE.out;simp [intOf];omega)
  ·
   have hqe:q=size:=by omega
   have hown5:=HO.out
   rw [hqe,List.take_of_length_le (l:=numB size n) (by rw [numB_len];exact nlr _)] at hown5
   have HO5:=Hd hown5
   have g5:(size:Int) - 1 - q<0:=by omega
   subst hqe
   clear hown5
   go_wp2_with fail
   go_ret
   exact ⟨a,_,c,rfl,HO5.out,hbel⟩
theorem rcountW_any (n:Nat)(w:World)(hn:n≤140737488355328) :
  Calls Tryz.prog 78 #[.int .i64 n] w (RNew (numB 4 n) w):=by
 have w1:IntKind.u64.wrap (n:Int)=n:=IntWalk.u64_in _ (by omega)
 go_enter Tryz.func78,Tryz.ntmps78
 go_wp2_with fail
 refine (rnumber_any n 4 w (by decide) (by omega) (by omega)).mono ?_
 rintro e w2 ⟨a,m,c,rfl,ho,hb⟩
 have HO:=Hd ho
 clear ho
 go_wp2_with fail
 go_ret
 exact ⟨a,m,c,rfl,HO.out,hb⟩
theorem rNumber_any (n:Int)(L:List Int)(w:World)(hL:numB 8 n=L) :
  Calls Tryz.prog 77 #[.int .i64 n] w (RNew L w):=by
 have hw:numB 8 (IntKind.u64.wrap n)=L:=by rw [← hL,numB_wrapU]
 have h0:0≤IntKind.u64.wrap n∧IntKind.u64.wrap n<18446744073709551616:=wrapU_range n
 obtain ⟨m,hm⟩:∃ m,IntKind.u64.wrap n=m:=⟨_,rfl⟩
 rw [hm] at hw h0
 subst hw
 clear hL
 go_enter Tryz.func77,Tryz.ntmps77
 go_wp2_with fail
 refine (rnumber_any m 8 w (by decide) h0.1 h0.2).mono ?_
 rintro e w2 ⟨a,k,c,rfl,ho,hb⟩
 have HO:=Hd ho
 clear ho
 go_wp2_with fail
 go_ret
 exact ⟨a,k,c,rfl,HO.out,hb⟩
theorem strCells_bv (s:ByteArray):Lib.strCells s=(strB s).map bv:=by
 simp [Lib.strCells,strB,bv,Function.comp_def]
theorem rText_any (s:ByteArray)(L:List Int)(w:World)(hL:textB s=L)(hl:s.size≤1099511627776) :
  Calls Tryz.prog 123 #[.string s] w (RNew L w):=by
 obtain ⟨i0,hi,hz0,hz1,hz2⟩:=info_parts infoByte
 have HL:=Hd hL
 clear hL
 go_enter Tryz.func123,Tryz.ntmps123
 go_wp2_with fail
 refine (rcountW_any s.size w (by omega)).mono ?_
 rintro e w2 ⟨a,m,c,rfl,ho,hb⟩
 have hm:m=4:=by rw [← ho.len,numB_len]
 subst hm
 have HO:=Hd ho
 have hsz:=hb.size
 clear ho
 go_wp2_with (at_builtin;refine Lib.wpList_append_own_string _ rfl (.tmp 5) (.tmp 6) 25 9 rfl w.heap.size 5 i0 Tryz.underlying25 Tryz.underlying9 hi hz0 hz1 hz2 _ 4 _ rfl HO.out.row s rfl (by unfold maxLen;omega) (by omega) hsz ?_)
 intro v' w3 hown hg _
 obtain ⟨a3,c3,rfl⟩:=row_slice hown
 have hb3:=hb.grown hg hsz (fun k hk=>(HO.out.lt k hk).1)
 have hown2:BOwn w3 w.heap.size a3 (4+s.size) c3 L:=⟨by rw [← HL.out,textB_len],by rw [← HL.out];unfold textB;rw [List.map_append,← strCells_bv];exact hown⟩
 have HO2:=Hd hown2
 clear hown hg hown2
 go_wp2_with fail
 go_ret
 exact ⟨a3,_,c3,rfl,HO2.out,hb3⟩
theorem rValue_any (kd num:Int)(text:ByteArray)(L:List Int)(w:World)(hL:valueB ⟨kd,num,text⟩=L)(hl:text.size≤1099511627776) :
  Calls Tryz.prog 190 #[.agg #[.int .u8 kd,.int .i64 num,.string text]] w (RNew L w):=by
 have hb0:=(Below.refl w.heap.size w).alloc (nlr _) (.cells #[.int .u8 kd,.int .i64 num,.string text] 58)
 have hk0:=heap_alloc_new w (.cells #[.int .u8 kd,.int .i64 num,.string text] 58)
 have hs0:(w.alloc (.cells #[.int .u8 kd,.int .i64 num,.string text] 58)).heap.size=w.heap.size+1:=by simp
 have HB0:=Hd hb0
 have HK0:=Hd hk0
 have HS0:=Hd hs0
 have HL:=Hd hL
 clear hb0 hk0 hs0 hL
 go_enter Tryz.func190,Tryz.ntmps190
 have hlit:BOwn ((w.alloc (.cells #[.int .u8 kd,.int .i64 num,.string text] 58)).alloc (.cells #[.int .u8 kd] 5)) (w.heap.size+1) (some ⟨w.heap.size+1,0,none⟩) 1 1 [kd]:=HS0.out ▸ BOwn.lit (w.alloc (.cells #[.int .u8 kd,.int .i64 num,.string text] 58)) [kd] (by simp)
 have hb1:Below w.heap.size w ((w.alloc (.cells #[.int .u8 kd,.int .i64 num,.string text] 58)).alloc (.cells #[.int .u8 kd] 5)):=HB0.out.alloc (by rw [HS0.out];omega) _
 have hs1:((w.alloc (.cells #[.int .u8 kd,.int .i64 num,.string text] 58)).alloc (.cells #[.int .u8 kd] 5)).heap.size=w.heap.size+2:=by simp
 have HLIT:=Hd hlit
 have HB1:=Hd hb1
 have HS1:=Hd hs1
 clear hlit hb1 hs1 HB0 HK0 HS0
 by_cases h1:kd=1
 ·
  subst h1
  go_wp2_with fail
  have hlit:=HLIT.out
  have hb1:=HB1.out
  have hs1:=HS1.out
  generalize (w.alloc (.cells #[.int .u8 1,.int .i64 num,.string text] 58)).alloc (.cells #[.int .u8 1] 5)=w1 at hlit hb1 hs1 ⊢
  clear HLIT HB1 HS1
  have HLIT:=Hd hlit
  clear hlit
  refine (rNumber_any num _ w1 rfl).mono ?_
  rintro e w2 ⟨a,m,c,rfl,ho,hb⟩
  obtain rfl:m=8:=by rw [← ho.len,numB_len]
  have HO:=Hd ho
  have hb2:=hb1.trans (hb.mono (by omega))
  have hsz:=hb.size
  clear ho
  go_wp2_with (at_builtin;refine wpList_append_bo rfl (.tmp 11) (.tmp 14) rfl (w.heap.size+1) rfl (HLIT.out.below hb (nlr _)) rfl HO.out.len _ HO.out.in HO.out.nil (by omega) (by omega) ?_)
  intro a2 n2 c2 w3 hown hg hn2
  have hb3:=hb2.grown hg (by omega) (fun k hk=>by have:=(HLIT.out.lt k hk).1;omega)
  have hown2:BOwn w3 w.heap.size a2 n2 c2 L:=by rw [← HL.out];exact hown.le (Nat.le_succ _)
  have HO2:=Hd hown2
  clear hown hg hown2 hn2
  go_wp2_with fail
  go_ret
  exact ⟨a2,n2,c2,rfl,HO2.out,hb3⟩
 ·
  by_cases h2:kd=2
  ·
   subst h2
   go_wp2_with fail
   have hlit:=HLIT.out
   have hb1:=HB1.out
   have hs1:=HS1.out
   generalize (w.alloc (.cells #[.int .u8 2,.int .i64 num,.string text] 58)).alloc (.cells #[.int .u8 2] 5)=w1 at hlit hb1 hs1 ⊢
   clear HLIT HB1 HS1
   have HLIT:=Hd hlit
   clear hlit
   refine (rText_any text _ w1 rfl hl).mono ?_
   rintro e w2 ⟨a,m,c,rfl,ho,hb⟩
   have HO:=Hd ho
   have hm:m=4+text.size:=by rw [← ho.len,textB_len]
   have hb2:=hb1.trans (hb.mono (by omega))
   have hsz:=hb.size
   have HM:=Hd hm
   clear ho hm
   go_wp2_with (at_builtin;refine wpList_append_bo rfl (.tmp 18) (.tmp 21) rfl (w.heap.size+1) rfl (HLIT.out.below hb (nlr _)) rfl HO.out.len _ HO.out.in HO.out.nil (by have:=HM.out;omega) (by omega) ?_)
   intro a2 n2 c2 w3 hown hg hn2
   have hb3:=hb2.grown hg (by omega) (fun k hk=>by have:=(HLIT.out.lt k hk).1;omega)
   have hown2:BOwn w3 w.heap.size a2 n2 c2 L:=by rw [← HL.out];exact hown.le (Nat.le_succ _)
   have HO2:=Hd hown2
   clear hown hg hown2 hn2
   go_wp2_with fail
   go_ret
   exact ⟨a2,n2,c2,rfl,HO2.out,hb3⟩
  ·
   have h1':decide (kd=1)=false:=by simpa using h1
   have h2':decide (kd=2)=false:=by simpa using h2
   have hL2:[kd]=L:=by rw [← HL.out];unfold valueB;dsimp only;rw [if_neg h1,if_neg h2]
   have HL2:=Hd hL2
   clear hL2
   go_wp2_with fail
   go_ret
   exact ⟨_,_,_,rfl,by rw [← HL2.out];exact HLIT.out.le (Nat.le_succ _),HB1.out⟩
set_option maxHeartbeats 1000000 in
theorem rValues_any (ao:Option Addr)(n cap:Nat)(xs:List Va)(L:List Int)(w:World)(hL:valuesB xs=L)(hn:xs.length=n)(hx:ValsIn w w.heap.size ao xs)(htx:∀ v ∈ xs,v.text.size≤1099511627776)(hl:L.length≤100000000000)(hnl:n≤1099511627776) :
  Calls Tryz.prog 124 #[.slice ao n cap] w (RNew L w):=by
 have HX:=Hd hx
 have HN:=Hd hn
 have HTX:=Hd htx
 have HL:=Hd hL
 clear hx hn htx hL
 go_enter Tryz.func124,Tryz.ntmps124
 go_wp2_with fail
 refine (rcountW_any n w (by omega)).mono ?_
 rintro e w1 ⟨a,m,c,rfl,ho,hb⟩
 have HO:=Hd ho
 clear ho
 go_wp2_with fail
 go_loopw [3,4] (fun v i wr=>∃ (k m:Nat) (a:Option Addr) (c:Nat),k≤n∧i=.int .i64 k∧v=.slice a m c∧BOwn wr w.heap.size a m c (numB 4 n ++ (xs.take k).flatMap valueB)∧Below w.heap.size w wr) (fun _ i _=>n - (intOf i).toNat)
 case atStart=>exact ⟨0,m,a,c,by omega,rfl,rfl,by simpa using HO.out,hb⟩
 case round =>
  clear HO hb
  obtain ⟨k,m,a,c,hk,rfl,rfl,hown,hbel⟩:=hrel
  have HO:=Hd hown
  have hsz:=hbel.size
  clear hown
  by_cases hlt:k<n
  ·
   have hkx:xs[k]?=some (xs[k]'(by rw [HN.out];exact hlt)):=List.getElem?_eq_getElem _
   have htk:xs.take (k+1)=xs.take k ++ [xs[k]'(by rw [HN.out];exact hlt)]:=List.take_succ_eq_append_getElem _
   have hle:=flatMap_at_le valueB xs k _ hkx
   have htx:=HTX.out _ (List.getElem_mem (l:=xs) (n:=k) (by rw [HN.out];exact hlt))
   obtain ⟨b,off,hao,hbb,hc,_⟩:=HX.out.at hkx
   generalize xs[k]'(by rw [HN.out];exact hlt)=x at hc hkx htk htx hle
   have hLl:(xs.flatMap valueB).length+4=L.length:=by rw [← HL.out];unfold valuesB;rw [List.length_append,numB_len];omega
   have hml:m=4+((xs.take k).flatMap valueB).length:=by rw [← HO.out.len,List.length_append,numB_len]
   obtain ⟨q,hq⟩:∃ q,valueB x=q:=⟨_,rfl⟩
   rw [hq] at hle
   obtain ⟨kd,num,text⟩:=x
   dsimp only at htx
   have c0:wr.cell? ⟨b,off+k * 3,none⟩=some (.int .u8 kd):=(hbel.cell (p:=⟨b,_,none⟩) hbb).trans (hc 0 (by decide))
   have c1:wr.cell? ⟨b,off+k * 3+1,none⟩=some (.int .i64 num):=(hbel.cell (p:=⟨b,_,none⟩) hbb).trans (hc 1 (by decide))
   have c2:wr.cell? ⟨b,off+k * 3+1+1,none⟩=some (.string text):=(hbel.cell (p:=⟨b,_,none⟩) hbb).trans (hc 2 (by decide))
   have c3:wr.cell? ⟨b,off+k * 3+2,none⟩=some (.string text):=c2
   have i1:(k:Int)<n:=by omega
   have hnew:numB 4 n ++ ((xs.take k).flatMap valueB ++ q)=numB 4 n ++ (xs.take (k+1)).flatMap valueB:=by rw [htk,List.flatMap_append,← hq];simp
   have hmq:m+q.length≤100000000000:=by omega
   have HNEW:=Hd hnew
   have HMQ:=Hd hmq
   have HQ:=Hd hq
   subst hao
   clear hc hkx htk hle hLl hml hnew hmq hq
   go_wp2_with fail
   refine (rValue_any kd num text q wr HQ.out htx).mono ?_
   rintro e w2 ⟨a1,m1,c1',rfl,ho1,hb1⟩
   have HO1:=Hd ho1
   have hb2:=hbel.trans (hb1.mono hsz)
   have hsz1:=hb1.size
   have hm1:m+m1≤100000000000:=by have:=HMQ.out;have:=ho1.len;omega
   have HM1:=Hd hm1
   clear ho1 c0 c1 c2 c3 hm1
   go_wp2_with (at_builtin;refine wpList_append_bo rfl (.tmp 14) (.tmp 19) rfl w.heap.size rfl (HO.out.below hb1 (nlr _)) rfl HO1.out.len _ HO1.out.in HO1.out.nil (by have:=HM1.out;omega) (by omega) ?_)
   intro a2 n2 c2 w3 hown hg hn2
   have hb3:=hb2.grown hg (by omega) (fun k hk=>(HO.out.lt k hk).1)
   try rw [List.append_assoc] at hown
   rw [HNEW.out] at hown
   have HO2:=Hd hown
   clear hown hg hn2
   go_wp2_with fail
   go_roundw
   case rel=>exact ⟨k+1,n2,a2,c2,by omega,by go_num,rfl,HO2.out,hb3⟩
   case measure=>simp [intOf];omega
  ·
   obtain rfl:k=n:=by omega
   have hown:=HO.out
   rw [List.take_of_length_le (l:=xs) (by rw [HN.out];exact nlr _)] at hown
   have hown2:BOwn wr w.heap.size a m c L:=by rw [← HL.out];unfold valuesB;rw [HN.out];exact hown
   have HO2:=Hd hown2
   clear hown hown2
   go_wp2_with fail
   go_ret
   exact ⟨a,m,c,rfl,HO2.out,hbel⟩
end Go.Proofs.YtglgcjkglhlggaaGreatDoor
/- Two operations of a region that may come up in either order. Any program. Conditions: as each says. -/
namespace Go.Proofs.YtglgcjkglhlggaaGreatDoor
open Go.RowKit
theorem takeS_two {P:Program}{md:Region.Mode}{ops:Array Oper}{Q:Exit→Act→World→Prop}{S:World→Prop}(i j:Nat){oi oj:Oper}{fuel:Nat}{listed:Array Bool}{a:Act}{w:World}(hi:ops.toList[i]?=some oi)(hj:ops.toList[j]?=some oj)(hr:Region.ready md ops listed=[i,j])(hwi:Region.wanted oi (yielded ops a.tmps)=true)(hwj:Region.wanted oj (yielded ops a.tmps)=true)
  (h1:∀ K':Act→World→Prop,Shut (∀ a w,S w→wpAnyH P md ops Q S fuel (listed.setIfInBounds i true) a w→K' a w)→Oper.wp P oi a w K' Q)
  (h2:∀ K':Act→World→Prop,Shut (∀ a w,S w→wpAnyH P md ops Q S fuel (listed.setIfInBounds j true) a w→K' a w)→Oper.wp P oj a w K' Q):wpAnyH P md ops Q S (fuel+1) listed a w :=
 wpAnyH_ready (rs:=[i,j]) hr (by simp) (AllReadyH.cons (by rw [← Array.getElem?_toList];exact hi) (fun K hK=>by rw [if_pos hwi];exact h1 K (fun a w hS hW=>hK.out a w hS (fun _=>hW)))
  (AllReadyH.cons (by rw [← Array.getElem?_toList];exact hj) (fun K hK=>by rw [if_pos hwj];exact h2 K (fun a w hS hW=>hK.out a w hS (fun _=>hW))) AllReadyH.nil))
end Go.Proofs.YtglgcjkglhlggaaGreatDoor
/- The document's writers: the bytes of a fact, a command, a reply, an entry. Conditions: what is written is not too long. -/
namespace Go.Proofs.YtglgcjkglhlggaaGreatDoor
open Go.RowKit
set_option maxRecDepth 20000
set_option maxHeartbeats 2000000 in
theorem rCommand_any (ck:Int)(text:ByteArray)(ao:Option Addr)(n cap:Nat)(num:Int)(args:List Va)(L:List Int)(w:World)(hL:commandB ck text num args=L)(hn:args.length=n)(hx:ValsIn w w.heap.size ao args)(htx:∀ v ∈ args,v.text.size≤1099511627776)(hts:text.size≤1099511627776)(hl:L.length≤100000000000)(hnl:n≤1099511627776) :
  Calls Tryz.prog 64 #[.agg #[.int .u8 ck,.string text,.slice ao n cap,.int .i64 num]] w (RNew L w):=by
 have hb0:=(Below.refl w.heap.size w).alloc (nlr _) (.cells #[.int .u8 ck,.string text,.slice ao n cap,.int .i64 num] 53)
 have hk0:=heap_alloc_new w (.cells #[.int .u8 ck,.string text,.slice ao n cap,.int .i64 num] 53)
 have hs0:(w.alloc (.cells #[.int .u8 ck,.string text,.slice ao n cap,.int .i64 num] 53)).heap.size=w.heap.size+1:=by simp
 have HB0:=Hd hb0
 have HK0:=Hd hk0
 have HS0:=Hd hs0
 have HL:=Hd hL
 clear hb0 hk0 hs0 hL
 have hvl:13+text.size+(valuesB args).length=L.length:=by rw [← HL.out,commandB_len]
 have HX:=Hd hx
 have HN:=Hd hn
 have HTX:=Hd htx
 have HVL:=Hd hvl
 clear hx hn htx hvl
 go_enter Tryz.func64,Tryz.ntmps64
 go_wp2_with fail
 have hb0:=HB0.out
 have hk0:=HK0.out
 have hs0:=HS0.out
 generalize w.alloc (.cells #[.int .u8 ck,.string text,.slice ao n cap,.int .i64 num] 53)=w0 at hb0 hk0 hs0 ⊢
 clear HB0 HK0 HS0
 have HCL:=Hd (show ∀ w',Below (w.heap.size+1) w0 w'→w'.cell? ⟨w.heap.size,0,none⟩=some (.int .u8 ck)∧w'.cell? ⟨w.heap.size,1,none⟩=some (.string text)∧w'.cell? ⟨w.heap.size,2,none⟩=some (.slice ao n cap)∧w'.cell? ⟨w.heap.size,3,none⟩=some (.int .i64 num) from fun w' h=>have hk:=(h.block w.heap.size (Nat.lt_succ_self _)).trans hk0;⟨cob hk 0,cob hk 1,cob hk 2,cob hk 3⟩)
 have HSZ:=Hd (show ∀ w',Below (w.heap.size+1) w0 w'→w.heap.size+1≤w'.heap.size from fun w' h=>hs0 ▸ h.size)
 have HWD:=Hd (show ∀ w',Below (w.heap.size+1) w0 w'→Below w.heap.size w w' from fun w' h=>hb0.trans (h.mono (Nat.le_succ _)))
 clear hb0 hk0 hs0
 refine heldS_begin (fun w'=>Below (w.heap.size+1) w0 w') (by kernel_rfl) ((Below.refl _ _).drew) ?_
 intro hS0
 (first | (refine tkn 0 rfl ?_) | (refine tky (v:=?_) 0 rfl ?_ ?_;rotate_left;focus (intro wS hSw;obtain ⟨d0,d1,d2,d3⟩:=HCL.out wS hSw;go_simp;first | done | with_reducible rfl)))
 (try simp only [Act.put,ssa,ssb,ssc])
 (first | (refine tkn 1 rfl ?_) | (refine tky (v:=?_) 1 rfl ?_ ?_;rotate_left;focus (intro wS hSw;obtain ⟨d0,d1,d2,d3⟩:=HCL.out wS hSw;go_simp;first | done | with_reducible rfl)))
 (try simp only [Act.put,ssa,ssb,ssc])
 (first | (refine tkn 3 rfl ?_) | (refine tky (v:=?_) 3 rfl ?_ ?_;rotate_left;focus (intro wS hSw;obtain ⟨d0,d1,d2,d3⟩:=HCL.out wS hSw;go_simp;first | done | with_reducible rfl)))
 (try simp only [Act.put,ssa,ssb,ssc])
 (first | (refine tkn 4 rfl ?_) | (refine tky (v:=?_) 4 rfl ?_ ?_;rotate_left;focus (intro wS hSw;obtain ⟨d0,d1,d2,d3⟩:=HCL.out wS hSw;go_simp;first | done | with_reducible rfl)))
 (try simp only [Act.put,ssa,ssb,ssc])
 refine takeS_two 2 5 rfl rfl (by kernel_rfl) (by rfl) (by rfl) (fun K hK=>?_) (fun K hK=>?_)
 rotate_left
 focus
  go_simp
  (have hz:=HSZ.out _ hS0;refine (rText_any text _ _ rfl hts).mono ?_;rintro e x1 ⟨aB,nB,qB,rfl,ho,hb⟩;have hlB:=ho.len;rw [textB_len] at hlB;have LB:=Hd hlB;clear hlB;have HB:=Hd (ho.le hz);have b1:=Below.trans hS0 (hb.mono hz);clear ho hb hz)
  refine hK.out _ _ (by assumption) ?_
  clear hK K
  (try simp only [Act.put,ssa,ssb,ssc])
  refine takeS_alone 2 rfl (by kernel_rfl) (by rfl) (fun K hK=>?_)
  go_simp
  (have hlit:=BOwn.lit x1 [ck] (by simp);have hz:=HSZ.out _ b1;have hA:=(Below.refl x1.heap.size x1).alloc (nlr _) (.cells #[.int .u8 ck] 5);have b2:=Below.alloc b1 hz (.cells #[.int .u8 ck] 5);have HA:Hid (BOwn (x1.alloc (.cells #[.int .u8 ck] 5)) (w.heap.size+1) (some ⟨x1.heap.size,0,none⟩) 1 1 [ck]):=Hd (BOwn.le hlit hz);have HB:=Hd (HB.out.below hA (nlr _));clear hlit hA;generalize hx2:World.alloc x1 (.cells #[.int .u8 ck] 5)=x2 at b2 HA HB ⊢;clear hx2 hz)
  refine hK.out _ _ (by assumption) ?_
  clear hK K
  (try simp only [Act.put,ssa,ssb,ssc])
 rotate_left
 focus
  go_simp
  (have hlit:=BOwn.lit w0 [ck] (by simp);have hz:=HSZ.out _ (Below.refl _ w0);have b1:Below (w.heap.size+1) w0 (w0.alloc (.cells #[.int .u8 ck] 5)).drew:=((Below.refl _ w0).alloc hz _).drew;have HA:Hid (BOwn (w0.alloc (.cells #[.int .u8 ck] 5)).drew (w.heap.size+1) (some ⟨w0.heap.size,0,none⟩) 1 1 [ck]):=Hd (BOwn.below (BOwn.le hlit hz) (below_drewN (Below.refl _ _) 1) (nlr _));clear hlit;generalize hx1:(w0.alloc (.cells #[.int .u8 ck] 5)).drew=x1 at b1 HA ⊢;clear hx1 hz)
  refine hK.out _ _ (by assumption) ?_
  clear hK K
  (try simp only [Act.put,ssa,ssb,ssc])
  refine takeS_alone 5 rfl (by kernel_rfl) (by rfl) (fun K hK=>?_)
  go_simp
  (refine (rText_any text _ _ rfl hts).mono ?_;rintro e x2 ⟨aB,nB,qB,rfl,ho,hb⟩;have hlB:=ho.len;rw [textB_len] at hlB;have LB:=Hd hlB;clear hlB;have HB:=Hd (ho.le (HSZ.out _ b1));have HA:=Hd (HA.out.below hb (nlr _));have b2:=b1.trans (hb.mono (HSZ.out _ b1));clear ho hb)
  refine hK.out _ _ (by assumption) ?_
  clear hK K
  (try simp only [Act.put,ssa,ssb,ssc])
 all_goals
  refine takeS_alone 6 rfl (by kernel_rfl) (by rfl) (fun K hK=>?_)
  skip
  (refine oper_append_bo (.tmp 6) (.tmp 9) rfl (w.heap.size+1) rfl HA.out rfl HB.out.len _ HB.out.in HB.out.nil (by have:=LB.out;have:=HVL.out;omega) (HSZ.out _ b2) ?_;intro aD nD qD x3 ho hg hn;have LD:=Hd hn;clear hn;have b3:=b2.grown hg (HSZ.out _ b2) (fun k hk=>(HA.out.lt k hk).1);have HD:=Hd ho;clear ho hg)
  refine hK.out _ _ (by assumption) ?_
  clear hK K
  (try simp only [Act.put,ssa,ssb,ssc])
  (first | (refine tkn 7 rfl ?_) | (refine tky (v:=?_) 7 rfl ?_ ?_;rotate_left;focus (intro wS hSw;obtain ⟨d0,d1,d2,d3⟩:=HCL.out wS hSw;go_simp;first | done | with_reducible rfl)))
  (try simp only [Act.put,ssa,ssb,ssc])
  refine wpAnyH_done (by kernel_rfl) ?_ _
 all_goals
  go_wp2_with fail
  refine heldS_begin (fun w'=>Below (w.heap.size+1) w0 w') (by kernel_rfl) (Below.drew b3) ?_
  intro hS0
  (first | (refine tkn 0 rfl ?_) | (refine tky (v:=?_) 0 rfl ?_ ?_;rotate_left;focus (intro wS hSw;obtain ⟨d0,d1,d2,d3⟩:=HCL.out wS hSw;go_simp;first | done | with_reducible rfl)))
  (try simp only [Act.put,ssa,ssb,ssc])
  (first | (refine tkn 1 rfl ?_) | (refine tky (v:=?_) 1 rfl ?_ ?_;rotate_left;focus (intro wS hSw;obtain ⟨d0,d1,d2,d3⟩:=HCL.out wS hSw;go_simp;first | done | with_reducible rfl)))
  (try simp only [Act.put,ssa,ssb,ssc])
  (first | (refine tkn 2 rfl ?_) | (refine tky (v:=?_) 2 rfl ?_ ?_;rotate_left;focus (intro wS hSw;obtain ⟨d0,d1,d2,d3⟩:=HCL.out wS hSw;go_simp;first | done | with_reducible rfl)))
  (try simp only [Act.put,ssa,ssb,ssc])
  (first | (refine tkn 5 rfl ?_) | (refine tky (v:=?_) 5 rfl ?_ ?_;rotate_left;focus (intro wS hSw;obtain ⟨d0,d1,d2,d3⟩:=HCL.out wS hSw;go_simp;first | done | with_reducible rfl)))
  (try simp only [Act.put,ssa,ssb,ssc])
  (first | (refine tkn 6 rfl ?_) | (refine tky (v:=?_) 6 rfl ?_ ?_;rotate_left;focus (intro wS hSw;obtain ⟨d0,d1,d2,d3⟩:=HCL.out wS hSw;go_simp;first | done | with_reducible rfl)))
  (try simp only [Act.put,ssa,ssb,ssc])
  refine takeS_alone 3 rfl (by kernel_rfl) (by rfl) (fun K hK=>?_)
  go_simp
  (have b3:=hS0;have hz0:=HSZ.out _ b3;refine (rNumber_any num _ _ rfl).mono ?_;rintro e x4 ⟨aB,nB,qB,rfl,ho,hb⟩;obtain rfl:nB=8:=(by rw [← ho.len];exact numB_len _ _);have HB:=Hd (ho.le hz0);have HD:=Hd ((BOwn.below HD.out (below_drewN (Below.refl _ _) 1) (nlr _)).below hb (nlr _));have b4:=b3.trans (hb.mono hz0);clear ho hb hz0)
  refine hK.out _ _ (by assumption) ?_
  clear hK K
  (try simp only [Act.put,ssa,ssb,ssc])
  refine takeS_alone 4 rfl (by kernel_rfl) (by rfl) (fun K hK=>?_)
  skip
  (refine oper_append_bo (.tmp 11) (.tmp 14) rfl (w.heap.size+1) rfl HD.out rfl HB.out.len _ HB.out.in HB.out.nil (by have:=LD.out;have:=LB.out;have:=HVL.out;omega) (HSZ.out _ b4) ?_;intro aC nC qC x5 ho hg hn;have LC:=Hd hn;clear hn;have b5:=b4.grown hg (HSZ.out _ b4) (fun k hk=>(HD.out.lt k hk).1);have HC:=Hd ho;clear ho hg)
  refine hK.out _ _ (by assumption) ?_
  clear hK K
  (try simp only [Act.put,ssa,ssb,ssc])
  refine takeS_alone 7 rfl (by kernel_rfl) (by rfl) (fun K hK=>?_)
  go_simp
  (refine (rValues_any ao n cap args _ _ rfl HN.out (RowsIn.mono noSub_rising (RowsIn.below noSub_kept HX.out (HWD.out _ b5) (nlr _)) (Nat.le_of_lt (HSZ.out _ b5))) HTX.out (by have:=HVL.out;omega) hnl).mono ?_;rintro e x6 ⟨aV,nV,qV,rfl,ho,hb⟩;have lV:=ho.len;have LV:=Hd lV;clear lV;have HV:=Hd (ho.le (HSZ.out _ b5));have HC:=Hd (HC.out.below hb (nlr _));have b6:=b5.trans (hb.mono (HSZ.out _ b5));clear ho hb)
  refine hK.out _ _ (by assumption) ?_
  clear hK K
  (try simp only [Act.put,ssa,ssb,ssc])
  refine takeS_alone 8 rfl (by kernel_rfl) (by rfl) (fun K hK=>?_)
  skip
  (refine oper_append_bo (.tmp 15) (.tmp 18) rfl (w.heap.size+1) rfl HC.out rfl HV.out.len _ HV.out.in HV.out.nil (by have:=LD.out;have:=LB.out;have:=LC.out;have:=LV.out;have:=HVL.out;omega) (HSZ.out _ b6) ?_;intro aR nR qR x7 ho hg hn;have LR:=Hd hn;clear hn;have b7:=b6.grown hg (HSZ.out _ b6) (fun k hk=>(HC.out.lt k hk).1);have HR:=Hd ho;clear ho hg)
  refine hK.out _ _ (by assumption) ?_
  clear hK K
  (try simp only [Act.put,ssa,ssb,ssc])
  (first | (refine tkn 9 rfl ?_) | (refine tky (v:=?_) 9 rfl ?_ ?_;rotate_left;focus (intro wS hSw;obtain ⟨d0,d1,d2,d3⟩:=HCL.out wS hSw;go_simp;first | done | with_reducible rfl)))
  (try simp only [Act.put,ssa,ssb,ssc])
  refine wpAnyH_done (by kernel_rfl) ?_ _
  go_wp2_with fail
  go_ret
  exact ⟨_,_,_,rfl,by have h:=HR.out.le (Nat.le_succ _);simp only [List.append_assoc] at h;rw [← HL.out];exact h,HWD.out _ b7⟩
set_option maxHeartbeats 2000000 in
theorem rEntry_any (x0 x1 x2 x3 ck:Int)(text:ByteArray)(ao:Option Addr)(n cap:Nat)(num:Int)(args:List Va)(vo:Option Addr)(vn vc:Nat)(vs:List Int)(L:List Int)(w:World)(hL:entryB ⟨x0,x1,x2,x3,ck,text,args,num,vs⟩=L)(hn:args.length=n)(hvn:vs.length=vn)(hx:ValsIn w w.heap.size ao args)(hy:NumsIn w w.heap.size vo vs)(htx:∀ v ∈ args,v.text.size≤1099511627776)(hts:text.size≤1099511627776)(hl:L.length≤100000000000)(hnl:n≤1099511627776)(hvl:vn≤1099511627776) :
  Calls Tryz.prog 46 #[.agg #[.int .i64 x0,.int .u8 x1,.int .i64 x2,.int .i64 x3,.int .u8 ck,.string text,.slice ao n cap,.int .i64 num,.slice vo vn vc]] w (RNew L w):=by
 have hb0:=(Below.refl w.heap.size w).alloc (nlr _) (.cells #[.int .i64 x0,.int .u8 x1,.int .i64 x2,.int .i64 x3,.int .u8 ck,.string text,.slice ao n cap,.int .i64 num,.slice vo vn vc] 55)
 have hk0:=heap_alloc_new w (.cells #[.int .i64 x0,.int .u8 x1,.int .i64 x2,.int .i64 x3,.int .u8 ck,.string text,.slice ao n cap,.int .i64 num,.slice vo vn vc] 55)
 have hs0:(w.alloc (.cells #[.int .i64 x0,.int .u8 x1,.int .i64 x2,.int .i64 x3,.int .u8 ck,.string text,.slice ao n cap,.int .i64 num,.slice vo vn vc] 55)).heap.size=w.heap.size+1:=by simp
 have HB0:=Hd hb0
 have HK0:=Hd hk0
 have HS0:=Hd hs0
 have HL:=Hd hL
 clear hb0 hk0 hs0 hL
 have hel:29+(commandB ck text num args).length+(vs.flatMap (numB 8)).length=L.length:=by rw [← HL.out];unfold entryB;simp only [List.length_append,List.length_cons,numB_len];omega
 have HX:=Hd hx
 have HY:=Hd hy
 have HN:=Hd hn
 have HVN:=Hd hvn
 have HTX:=Hd htx
 have HEL:=Hd hel
 clear hx hy hn hvn htx hel
 go_enter Tryz.func46,Tryz.ntmps46
 go_wp2_with fail
 have hb0:=HB0.out
 have hk0:=HK0.out
 have hs0:=HS0.out
 generalize w.alloc (.cells #[.int .i64 x0,.int .u8 x1,.int .i64 x2,.int .i64 x3,.int .u8 ck,.string text,.slice ao n cap,.int .i64 num,.slice vo vn vc] 55)=w0 at hb0 hk0 hs0 ⊢
 clear HB0 HK0 HS0
 have HCL:=Hd (show ∀ w',Below (w.heap.size+1) w0 w'→w'.cell? ⟨w.heap.size,0,none⟩=some (.int .i64 x0)∧w'.cell? ⟨w.heap.size,1,none⟩=some (.int .u8 x1)∧w'.cell? ⟨w.heap.size,2,none⟩=some (.int .i64 x2)∧w'.cell? ⟨w.heap.size,3,none⟩=some (.int .i64 x3)∧w'.cell? ⟨w.heap.size,4,none⟩=some (.int .u8 ck)∧w'.cell? ⟨w.heap.size,5,none⟩=some (.string text)∧w'.cell? ⟨w.heap.size,6,none⟩=some (.slice ao n cap)∧w'.cell? ⟨w.heap.size,7,none⟩=some (.int .i64 num)∧w'.cell? ⟨w.heap.size,8,none⟩=some (.slice vo vn vc) from fun w' h=>have hk:=(h.block w.heap.size (Nat.lt_succ_self _)).trans hk0;⟨cob hk 0,cob hk 1,cob hk 2,cob hk 3,cob hk 4,cob hk 5,cob hk 6,cob hk 7,cob hk 8⟩)
 have HSZ:=Hd (show ∀ w',Below (w.heap.size+1) w0 w'→w.heap.size+1≤w'.heap.size from fun w' h=>hs0 ▸ h.size)
 have HWD:=Hd (show ∀ w',Below (w.heap.size+1) w0 w'→Below w.heap.size w w' from fun w' h=>hb0.trans (h.mono (Nat.le_succ _)))
 clear hb0 hk0 hs0
 refine heldS_begin (fun w'=>Below (w.heap.size+1) w0 w') (by kernel_rfl) ((Below.refl _ _).drew) ?_
 intro hS0
 (first | (refine tkn 0 rfl ?_) | (refine tky (v:=?_) 0 rfl ?_ ?_;rotate_left;focus (intro wS hSw;obtain ⟨d0,d1,d2,d3,d4,d5,d6,d7,d8⟩:=HCL.out wS hSw;go_simp;first | done | with_reducible rfl)))
 (try simp only [Act.put,ssa,ssb,ssc])
 (first | (refine tkn 1 rfl ?_) | (refine tky (v:=?_) 1 rfl ?_ ?_;rotate_left;focus (intro wS hSw;obtain ⟨d0,d1,d2,d3,d4,d5,d6,d7,d8⟩:=HCL.out wS hSw;go_simp;first | done | with_reducible rfl)))
 (try simp only [Act.put,ssa,ssb,ssc])
 (first | (refine tkn 3 rfl ?_) | (refine tky (v:=?_) 3 rfl ?_ ?_;rotate_left;focus (intro wS hSw;obtain ⟨d0,d1,d2,d3,d4,d5,d6,d7,d8⟩:=HCL.out wS hSw;go_simp;first | done | with_reducible rfl)))
 (try simp only [Act.put,ssa,ssb,ssc])
 (first | (refine tkn 4 rfl ?_) | (refine tky (v:=?_) 4 rfl ?_ ?_;rotate_left;focus (intro wS hSw;obtain ⟨d0,d1,d2,d3,d4,d5,d6,d7,d8⟩:=HCL.out wS hSw;go_simp;first | done | with_reducible rfl)))
 (try simp only [Act.put,ssa,ssb,ssc])
 refine takeS_two 2 5 rfl rfl (by kernel_rfl) (by rfl) (by rfl) (fun K hK=>?_) (fun K hK=>?_)
 rotate_left
 focus
  go_simp
  (have hlit:=BOwn.lit w0 [x1] (by simp);have hz:=HSZ.out _ (Below.refl _ w0);have b1:Below (w.heap.size+1) w0 (w0.alloc (.cells #[.int .u8 x1] 5)).drew:=((Below.refl _ w0).alloc hz _).drew;have HB:Hid (BOwn (w0.alloc (.cells #[.int .u8 x1] 5)).drew (w.heap.size+1) (some ⟨w0.heap.size,0,none⟩) 1 1 [x1]):=Hd (BOwn.below (BOwn.le hlit hz) (below_drewN (Below.refl _ _) 1) (nlr _));clear hlit;generalize hx1:(w0.alloc (.cells #[.int .u8 x1] 5)).drew=y1 at b1 HB ⊢;clear hx1 hz)
  refine hK.out _ _ (by assumption) ?_
  clear hK K
  (try simp only [Act.put,ssa,ssb,ssc])
  refine takeS_alone 2 rfl (by kernel_rfl) (by rfl) (fun K hK=>?_)
  go_simp
  (have hz:=HSZ.out _ b1;refine (rNumber_any x0 _ _ rfl).mono ?_;rintro e y2 ⟨aA,nA,qA,rfl,ho,hb⟩;obtain rfl:nA=8:=(by rw [← ho.len];exact numB_len _ _);have HA:=Hd (ho.le hz);have HB:=Hd (HB.out.below hb (nlr _));have b2:=b1.trans (hb.mono hz);clear ho hb hz)
  refine hK.out _ _ (by assumption) ?_
  clear hK K
  (try simp only [Act.put,ssa,ssb,ssc])
 rotate_left
 focus
  go_simp
  (have hz:=HSZ.out _ hS0;refine (rNumber_any x0 _ _ rfl).mono ?_;rintro e y1 ⟨aA,nA,qA,rfl,ho,hb⟩;obtain rfl:nA=8:=(by rw [← ho.len];exact numB_len _ _);have HA:=Hd (ho.le hz);have b1:=Below.trans hS0 (hb.mono hz);clear ho hb hz)
  refine hK.out _ _ (by assumption) ?_
  clear hK K
  (try simp only [Act.put,ssa,ssb,ssc])
  refine takeS_alone 5 rfl (by kernel_rfl) (by rfl) (fun K hK=>?_)
  go_simp
  (have hlit:=BOwn.lit y1 [x1] (by simp);have hz:=HSZ.out _ b1;have hA:=(Below.refl y1.heap.size y1).alloc (nlr _) (.cells #[.int .u8 x1] 5);have b2:=Below.alloc b1 hz (.cells #[.int .u8 x1] 5);have HB:Hid (BOwn (y1.alloc (.cells #[.int .u8 x1] 5)) (w.heap.size+1) (some ⟨y1.heap.size,0,none⟩) 1 1 [x1]):=Hd (BOwn.le hlit hz);have HA:=Hd (HA.out.below hA (nlr _));clear hlit hA;generalize hx2:World.alloc y1 (.cells #[.int .u8 x1] 5)=y2 at b2 HA HB ⊢;clear hx2 hz)
  refine hK.out _ _ (by assumption) ?_
  clear hK K
  (try simp only [Act.put,ssa,ssb,ssc])
 all_goals
  refine takeS_alone 6 rfl (by kernel_rfl) (by rfl) (fun K hK=>?_)
  skip
  (refine oper_append_bo (.tmp 7) (.tmp 10) rfl (w.heap.size+1) rfl HA.out rfl HB.out.len _ HB.out.in HB.out.nil (by decide) (HSZ.out _ b2) ?_;intro aD nD qD y3 ho hg hn;obtain rfl:nD=9:=hn;have b3:=b2.grown hg (HSZ.out _ b2) (fun k hk=>(HA.out.lt k hk).1);have HD:=Hd ho;clear ho hg)
  refine hK.out _ _ (by assumption) ?_
  clear hK K
  (try simp only [Act.put,ssa,ssb,ssc])
  (first | (refine tkn 7 rfl ?_) | (refine tky (v:=?_) 7 rfl ?_ ?_;rotate_left;focus (intro wS hSw;obtain ⟨d0,d1,d2,d3,d4,d5,d6,d7,d8⟩:=HCL.out wS hSw;go_simp;first | done | with_reducible rfl)))
  (try simp only [Act.put,ssa,ssb,ssc])
  refine wpAnyH_done (by kernel_rfl) ?_ _
 all_goals
  clear HA HB
  go_wp2_with fail
  refine heldS_begin (fun w'=>Below (w.heap.size+1) w0 w') (by kernel_rfl) (Below.drew b3) ?_
  intro hS0
  (first | (refine tkn 0 rfl ?_) | (refine tky (v:=?_) 0 rfl ?_ ?_;rotate_left;focus (intro wS hSw;obtain ⟨d0,d1,d2,d3,d4,d5,d6,d7,d8⟩:=HCL.out wS hSw;go_simp;first | done | with_reducible rfl)))
  (try simp only [Act.put,ssa,ssb,ssc])
  (first | (refine tkn 1 rfl ?_) | (refine tky (v:=?_) 1 rfl ?_ ?_;rotate_left;focus (intro wS hSw;obtain ⟨d0,d1,d2,d3,d4,d5,d6,d7,d8⟩:=HCL.out wS hSw;go_simp;first | done | with_reducible rfl)))
  (try simp only [Act.put,ssa,ssb,ssc])
  (first | (refine tkn 2 rfl ?_) | (refine tky (v:=?_) 2 rfl ?_ ?_;rotate_left;focus (intro wS hSw;obtain ⟨d0,d1,d2,d3,d4,d5,d6,d7,d8⟩:=HCL.out wS hSw;go_simp;first | done | with_reducible rfl)))
  (try simp only [Act.put,ssa,ssb,ssc])
  (first | (refine tkn 5 rfl ?_) | (refine tky (v:=?_) 5 rfl ?_ ?_;rotate_left;focus (intro wS hSw;obtain ⟨d0,d1,d2,d3,d4,d5,d6,d7,d8⟩:=HCL.out wS hSw;go_simp;first | done | with_reducible rfl)))
  (try simp only [Act.put,ssa,ssb,ssc])
  (first | (refine tkn 6 rfl ?_) | (refine tky (v:=?_) 6 rfl ?_ ?_;rotate_left;focus (intro wS hSw;obtain ⟨d0,d1,d2,d3,d4,d5,d6,d7,d8⟩:=HCL.out wS hSw;go_simp;first | done | with_reducible rfl)))
  (try simp only [Act.put,ssa,ssb,ssc])
  refine takeS_alone 3 rfl (by kernel_rfl) (by rfl) (fun K hK=>?_)
  go_simp
  (have b3:=hS0;have hz0:=HSZ.out _ b3;refine (rNumber_any x2 _ _ rfl).mono ?_;rintro e y4 ⟨aB,nB,qB,rfl,ho,hb⟩;obtain rfl:nB=8:=(by rw [← ho.len];exact numB_len _ _);have HB:=Hd (ho.le hz0);have HD:=Hd ((BOwn.below HD.out (below_drewN (Below.refl _ _) 1) (nlr _)).below hb (nlr _));have b4:=b3.trans (hb.mono hz0);clear ho hb hz0)
  refine hK.out _ _ (by assumption) ?_
  clear hK K
  (try simp only [Act.put,ssa,ssb,ssc])
  refine takeS_alone 4 rfl (by kernel_rfl) (by rfl) (fun K hK=>?_)
  skip
  (refine oper_append_bo (.tmp 12) (.tmp 15) rfl (w.heap.size+1) rfl HD.out rfl HB.out.len _ HB.out.in HB.out.nil (by decide) (HSZ.out _ b4) ?_;intro aC nC qC y5 ho hg hn;obtain rfl:nC=17:=hn;have b5:=b4.grown hg (HSZ.out _ b4) (fun k hk=>(HD.out.lt k hk).1);have HC:=Hd ho;clear ho hg)
  refine hK.out _ _ (by assumption) ?_
  clear hK K
  (try simp only [Act.put,ssa,ssb,ssc])
  refine takeS_alone 7 rfl (by kernel_rfl) (by rfl) (fun K hK=>?_)
  go_simp
  (have hz5:=HSZ.out _ b5;refine (rNumber_any x3 _ _ rfl).mono ?_;rintro e y6 ⟨aE,nE,qE,rfl,ho,hb⟩;obtain rfl:nE=8:=(by rw [← ho.len];exact numB_len _ _);have HE:=Hd (ho.le hz5);have HC:=Hd (HC.out.below hb (nlr _));have b6:=b5.trans (hb.mono hz5);clear ho hb hz5)
  refine hK.out _ _ (by assumption) ?_
  clear hK K
  (try simp only [Act.put,ssa,ssb,ssc])
  refine takeS_alone 8 rfl (by kernel_rfl) (by rfl) (fun K hK=>?_)
  skip
  (refine oper_append_bo (.tmp 16) (.tmp 19) rfl (w.heap.size+1) rfl HC.out rfl HE.out.len _ HE.out.in HE.out.nil (by decide) (HSZ.out _ b6) ?_;intro aG nG qG y7 ho hg hn;obtain rfl:nG=25:=hn;have b7:=b6.grown hg (HSZ.out _ b6) (fun k hk=>(HC.out.lt k hk).1);have HG:=Hd ho;clear ho hg)
  refine hK.out _ _ (by assumption) ?_
  clear hK K
  (try simp only [Act.put,ssa,ssb,ssc])
  (first | (refine tkn 9 rfl ?_) | (refine tky (v:=?_) 9 rfl ?_ ?_;rotate_left;focus (intro wS hSw;obtain ⟨d0,d1,d2,d3,d4,d5,d6,d7,d8⟩:=HCL.out wS hSw;go_simp;first | done | with_reducible rfl)))
  (try simp only [Act.put,ssa,ssb,ssc])
  refine wpAnyH_done (by kernel_rfl) ?_ _
  clear HB HC HD HE
  obtain ⟨e0,e1,e2,e3,e4,e5,e6,e7,e8⟩:=HCL.out _ b7
  have hsz7:=HSZ.out _ b7
  obtain ⟨cq,hcq⟩:∃ q,commandB ck text num args=q:=⟨_,rfl⟩
  have hcl:cq.length≤100000000000:=by have:=HEL.out;rw [hcq] at this;omega
  have HCQ:=Hd hcq
  clear e0 e1 e2 e3 hcq
  go_wp2_with fail
  refine (rCommand_any ck text ao n cap num args cq y7 HCQ.out HN.out (RowsIn.mono noSub_rising (RowsIn.below noSub_kept HX.out (HWD.out _ b7) (nlr _)) (HWD.out _ b7).size) HTX.out hts hcl hnl).mono ?_
  rintro e y8 ⟨aH,nH,qH,rfl,ho,hb⟩
  have HLH:=Hd ho.len
  have HH:=Hd (ho.le hsz7)
  have HG:=Hd (HG.out.below hb (nlr _))
  have b8:=b7.trans (hb.mono hsz7)
  have hsz8:=HSZ.out _ b8
  clear ho hb e4 e5 e6 e7 e8 hsz7
  go_wp2_with (at_builtin;refine wpList_append_bo rfl (.tmp 21) (.tmp 24) rfl (w.heap.size+1) rfl HG.out rfl HH.out.len _ HH.out.in HH.out.nil (by have:=HLH.out;omega) hsz8 ?_)
  intro aI nI qI y9 ho hg hn
  have HNI:=Hd hn
  have b9:=b8.grown hg hsz8 (fun k hk=>(HG.out.lt k hk).1)
  have HI:=Hd ho
  have hsz9:=HSZ.out _ b9
  obtain ⟨_,_,_,_,_,_,_,_,e8⟩:=HCL.out _ b9
  clear ho hg hn HH HG hsz8
  go_wp2_with fail
  refine (rcountW_any vn y9 (by omega)).mono ?_
  rintro e y10 ⟨aJ,nJ,qJ,rfl,ho,hb⟩
  obtain rfl:nJ=4:=(by rw [← ho.len];exact numB_len _ _)
  have HJ:=Hd (ho.le hsz9)
  have HI:=Hd (HI.out.below hb (nlr _))
  have b10:=b9.trans (hb.mono hsz9)
  have hsz10:=HSZ.out _ b10
  clear ho hb e8 hsz9
  go_wp2_with (at_builtin;refine wpList_append_bo rfl (.tmp 26) (.tmp 30) rfl (w.heap.size+1) rfl HI.out rfl HJ.out.len _ HJ.out.in HJ.out.nil (by have:=HNI.out;have:=HLH.out;omega) hsz10 ?_)
  intro aK nK qK y11 ho hg hn
  have b11:=b10.grown hg hsz10 (fun k hk=>(HI.out.lt k hk).1)
  obtain ⟨hd,hhd⟩:∃ q,numB 8 x0 ++ [x1] ++ numB 8 x2 ++ numB 8 x3 ++ cq ++ numB 4 vn=q:=⟨_,rfl⟩
  have hhl:hd.length=29+cq.length:=by rw [← hhd];simp only [List.length_append,List.length_singleton,numB_len];omega
  have ho2:BOwn y11 (w.heap.size+1) aK nK qK hd:=by rw [← hhd];simpa using ho
  have HK:=Hd ho2
  have HHD:=Hd hhd
  have HHL:=Hd hhl
  obtain ⟨_,_,_,_,_,_,_,_,e8⟩:=HCL.out _ b11
  clear ho ho2 hg hn HJ HI HNI hsz10 hhd hhl
  go_wp2_with fail
  go_loopw [3,4] (fun v i wr=>∃ (k m:Nat) (a:Option Addr) (c:Nat),k≤vn∧i=.int .i64 k∧v=.slice a m c∧BOwn wr (w.heap.size+1) a m c (hd ++ (vs.take k).flatMap (numB 8))∧Below (w.heap.size+1) w0 wr) (fun _ i _=>vn - (intOf i).toNat)
  case atStart=>exact ⟨0,nK,aK,qK,by omega,rfl,rfl,by simpa using HK.out,b11⟩
  case round =>
   clear HK b11 e8
   obtain ⟨k,m,a,c,hk,rfl,rfl,hown,hbel⟩:=hrel
   have HO:=Hd hown
   have hsz:=HSZ.out _ hbel
   clear hown
   obtain ⟨_,_,_,_,_,_,_,_,e8⟩:=HCL.out _ hbel
   by_cases hlt:k<vn
   ·
    have hkx:vs[k]?=some (vs[k]'(by rw [HVN.out];exact hlt)):=List.getElem?_eq_getElem _
    have htk:vs.take (k+1)=vs.take k ++ [vs[k]'(by rw [HVN.out];exact hlt)]:=List.take_succ_eq_append_getElem _
    have hle:=flatMap_at_le (numB 8) vs k _ hkx
    obtain ⟨b,off,hao,hbb,hc,hsub⟩:=HY.out.at hkx
    generalize vs[k]'(by rw [HVN.out];exact hlt)=x at hc hkx htk hle hsub
    have hml:m=29+cq.length+((vs.take k).flatMap (numB 8)).length:=by rw [← HO.out.len,List.length_append,HHL.out]
    have hmq:m+8≤100000000000:=by have:=HEL.out;rw [HCQ.out] at this;rw [numB_len] at hle;omega
    have hnew:hd ++ ((vs.take k).flatMap (numB 8) ++ numB 8 x)=hd ++ (vs.take (k+1)).flatMap (numB 8):=by rw [htk,List.flatMap_append];simp
    have hbw:=HWD.out _ hbel
    have c0:wr.cell? ⟨b,off+k,none⟩=some (.int .i64 x):=(hbw.cell (p:=⟨b,_,none⟩) hbb).trans (by simpa [iCells] using hc 0 (by decide))
    have i1:(k:Int)<vn:=by omega
    have HNEW:=Hd hnew
    have HMQ:=Hd hmq
    subst hao
    clear hc hkx htk hle hml hnew hmq hsub hbw
    go_wp2_with fail
    refine (rNumber_any x _ wr rfl).mono ?_
    rintro e w2 ⟨a1,m1,c1,rfl,ho1,hb1⟩
    obtain rfl:m1=8:=(by rw [← ho1.len];exact numB_len _ _)
    have HO1:=Hd ho1
    have hb2:=hbel.trans (hb1.mono hsz)
    have hsz1:=HSZ.out _ hb2
    clear ho1 c0 e8
    go_wp2_with (at_builtin;refine wpList_append_bo rfl (.tmp 39) (.tmp 45) rfl (w.heap.size+1) rfl (HO.out.below hb1 (nlr _)) rfl HO1.out.len _ HO1.out.in HO1.out.nil (by have:=HMQ.out;omega) hsz1 ?_)
    intro a2 n2 c2 w3 hown hg hn2
    have hb3:=hb2.grown hg hsz1 (fun k hk=>(HO.out.lt k hk).1)
    have hown3:BOwn w3 (w.heap.size+1) a2 n2 c2 (hd ++ (vs.take (k+1)).flatMap (numB 8)):=by rw [← HNEW.out];simpa using hown
    have HO2:=Hd hown3
    clear hown hown3 hg hn2
    go_wp2_with fail
    go_roundw
    case rel=>exact ⟨k+1,n2,a2,c2,by omega,by go_num,rfl,HO2.out,hb3⟩
    case measure=>simp [intOf];omega
   ·
    obtain rfl:k=vn:=by omega
    have hown:=HO.out
    rw [List.take_of_length_le (l:=vs) (by rw [HVN.out];exact nlr _)] at hown
    have hown2:BOwn wr w.heap.size a m c L:=by
     have h:=hown.le (Nat.le_succ w.heap.size)
     rw [← HHD.out,← HCQ.out] at h
     rw [← HL.out]
     unfold entryB
     dsimp only
     rw [HVN.out]
     simpa using h
    have HR:=Hd hown2
    clear hown hown2
    go_wp2_with fail
    go_ret
    exact ⟨_,_,_,rfl,HR.out,HWD.out _ hbel⟩
end Go.Proofs.YtglgcjkglhlggaaGreatDoor
/- SameInts, SameBytes, SameValues, SameCommand, SameEntry tell whether two read alike. Conditions: the cells lie as their readings say. -/
namespace Go.Proofs.YtglgcjkglhlggaaGreatDoor
open Go.RowKit
set_option maxRecDepth 20000
theorem take_ne {α:Type}{xs ys:List α}{k:Nat}{x y:α}(hx:xs[k]?=some x)(hy:ys[k]?=some y)(h:x ≠ y):xs ≠ ys:=fun e=>h (by rw [e,hy] at hx;exact (Option.some.inj hx).symm)
theorem take_eq_all {α:Type}{xs ys:List α}{n:Nat}(h:xs.take n=ys.take n)(hx:xs.length=n)(hy:ys.length=n):xs=ys:=by
 rwa [List.take_of_length_le (by omega),List.take_of_length_le (by omega)] at h
theorem take_step {α:Type}{xs ys:List α}{k:Nat}{x:α}(hx:xs[k]?=some x)(hy:ys[k]?=some x)(h:xs.take k=ys.take k):xs.take (k+1)=ys.take (k+1):=by
 obtain ⟨h1,h2⟩:=List.getElem?_eq_some_iff.1 hx
 obtain ⟨h3,h4⟩:=List.getElem?_eq_some_iff.1 hy
 rw [List.take_succ_eq_append_getElem h1,List.take_succ_eq_append_getElem h3,h,h2,h4]
def DecAt (g:Bool) (w:World) (e:Ending) (w':World):Prop:=e=.returned (.bool g)∧Below w.heap.size w w'
theorem neq_val (t:TypeId)(h:t=58)(a b:Int)(s:ByteArray)(a2 b2:Int)(s2:ByteArray)(hne:(⟨a,b,s⟩:Va) ≠ ⟨a2,b2,s2⟩)(w:World):(binOp .neq t (.agg #[.int .u8 a,.int .i64 b,.string s]) (.agg #[.int .u8 a2,.int .i64 b2,.string s2])).run Tryz.prog w=.ok (.bool true) w:=by
 subst h
 simp only [ne_eq,Va.mk.injEq] at hne
 simp [go_sem,Tryz.underlying58]
 exact fun h1 h2 h3=>hne ⟨h1,h2,toList_inj h3⟩
set_option maxHeartbeats 2000000 in
theorem sameI_dec (ao:Option Addr)(n cap:Nat)(co:Option Addr)(m cap2:Nat)(xs ys:List Int)(w:World)(B:Nat)(hn:xs.length=n)(hm:ys.length=m)(hx:NumsIn w B ao xs)(hy:NumsIn w B co ys)(hB:B≤w.heap.size)(hl:n≤4611686018427387904)(hl2:m≤4611686018427387904)(g:Bool)(hg:decide (xs=ys)=g) :
  Calls Tryz.prog 56 #[.slice ao n cap,.slice co m cap2] w (DecAt g w):=by
 by_cases hnm:n=m
 ·
  subst hnm
  have HX:=Hd (hx.mono noSub_rising hB)
  have HY:=Hd (hy.mono noSub_rising hB)
  have HN:=Hd hn
  have HM:=Hd hm
  have HG:=Hd hg
  clear hx hy hn hm hg
  go_enter Tryz.func56,Tryz.ntmps56
  go_wp2_with fail
  go_loopw [5] (fun i wr=>∃ k:Nat,k≤n∧i=.int .i64 k∧xs.take k=ys.take k∧Below w.heap.size w wr) (fun i _=>n - (intOf i).toNat)
  case atStart=>exact ⟨0,by omega,rfl,rfl,Below.refl _ _⟩
  case round =>
   obtain ⟨k,hk,rfl,htk,hbel⟩:=hrel
   have HT:=Hd htk
   clear htk
   by_cases hlt:k<n
   ·
    have hkx:xs[k]?=some (xs[k]'(by rw [HN.out];exact hlt)):=List.getElem?_eq_getElem _
    have hky:ys[k]?=some (ys[k]'(by rw [HM.out];exact hlt)):=List.getElem?_eq_getElem _
    obtain ⟨b,off,hao,hb,hc,_⟩:=HX.out.at hkx
    obtain ⟨b2,off2,hco,hb2,hc2,_⟩:=HY.out.at hky
    generalize xs[k]'(by rw [HN.out];exact hlt)=x at hc hkx
    generalize ys[k]'(by rw [HM.out];exact hlt)=y at hc2 hky
    have HKX:=Hd hkx
    have HKY:=Hd hky
    subst hao hco
    have i1:(k:Int)<n:=by omega
    clear hkx hky
    have d0:=hc 0 (by decide)
    have d1:=hc2 0 (by decide)
    have c0:∀ x':Calm w.heap.size w,x'.1.cell? ⟨b,off+k,none⟩=some (.int .i64 x):=fun x'=>x'.cell (by simpa [iCells] using d0) hb
    have c1:∀ x':Calm w.heap.size w,x'.1.cell? ⟨b2,off2+k,none⟩=some (.int .i64 y):=fun x'=>x'.cell (by simpa [iCells] using d1) hb2
    clear d0 d1 hc hc2
    by_cases hxy:x=y
    ·
     subst hxy
     have hnew:=take_step HKX.out HKY.out HT.out
     have HNEW:=Hd hnew
     clear hnew
     go_wp2_with fail
     refine wp_region_calm (B:=w.heap.size) (W0:=w) hbel (by kernel_rfl) (by kernel_rfl) ?_
     repeat (go_big_quiet_step (fail))
     refine wpQuiet_nil ?_
     intro w5 hb5
     clear c0 c1
     go_wp2_with fail
     go_roundw
     case rel=>exact ⟨k+1,by omega,by go_num,HNEW.out,hb5⟩
     case measure=>simp [intOf];omega
    ·
     have n1:(x != y)=true:=by simpa using hxy
     have n2:(x == y)=false:=by simpa using hxy
     have hg2:g=false:=by rw [← HG.out];exact decide_eq_false (take_ne HKX.out HKY.out hxy)
     have HG2:=Hd hg2
     clear hg2
     go_wp2_with fail
     refine wp_region_calm (B:=w.heap.size) (W0:=w) hbel (by kernel_rfl) (by kernel_rfl) ?_
     repeat (go_big_quiet_step (fail))
     refine wpQuiet_nil ?_
     intro w5 hb5
     clear c0 c1
     go_wp2_with fail
     go_ret
     exact ⟨ret_bool HG2.out.symm,hb5⟩
   ·
    obtain rfl:k=n:=by omega
    have hg2:g=true:=by rw [← HG.out];exact decide_eq_true (take_eq_all HT.out HN.out HM.out)
    have HG2:=Hd hg2
    clear hg2
    go_wp2_with fail
    go_ret
    exact ⟨ret_bool HG2.out.symm,hbel⟩
 ·
  have hg2:g=false:=by rw [← hg];exact decide_eq_false (fun h=>hnm (by rw [← hn,← hm,h]))
  have i1:((n:Int) == m)=false:=beq_eq_false_iff_ne.2 (by omega)
  have i2:((n:Int) != m)=true:=bne_iff_ne.2 (by omega)
  have HG2:=Hd hg2
  clear hg hg2 hn hm
  go_enter Tryz.func56,Tryz.ntmps56
  go_wp2_with fail
  go_ret
  exact ⟨ret_bool HG2.out.symm,Below.refl _ _⟩
set_option maxHeartbeats 2000000 in
theorem sameV_dec (ao:Option Addr)(n cap:Nat)(co:Option Addr)(m cap2:Nat)(xs ys:List Va)(w:World)(B:Nat)(hn:xs.length=n)(hm:ys.length=m)(hx:ValsIn w B ao xs)(hy:ValsIn w B co ys)(hB:B≤w.heap.size)(hl:n≤4611686018427387904)(hl2:m≤4611686018427387904)(g:Bool)(hg:decide (xs=ys)=g) :
  Calls Tryz.prog 127 #[.slice ao n cap,.slice co m cap2] w (DecAt g w):=by
 by_cases hnm:n=m
 ·
  subst hnm
  have HX:=Hd (hx.mono noSub_rising hB)
  have HY:=Hd (hy.mono noSub_rising hB)
  have HN:=Hd hn
  have HM:=Hd hm
  have HG:=Hd hg
  clear hx hy hn hm hg
  go_enter Tryz.func127,Tryz.ntmps127
  go_wp2_with fail
  go_loopw [5] (fun i wr=>∃ k:Nat,k≤n∧i=.int .i64 k∧xs.take k=ys.take k∧Below w.heap.size w wr) (fun i _=>n - (intOf i).toNat)
  case atStart=>exact ⟨0,by omega,rfl,rfl,Below.refl _ _⟩
  case round =>
   obtain ⟨k,hk,rfl,htk,hbel⟩:=hrel
   have HT:=Hd htk
   clear htk
   by_cases hlt:k<n
   ·
    have hkx:xs[k]?=some (xs[k]'(by rw [HN.out];exact hlt)):=List.getElem?_eq_getElem _
    have hky:ys[k]?=some (ys[k]'(by rw [HM.out];exact hlt)):=List.getElem?_eq_getElem _
    obtain ⟨b,off,hao,hb,hc,_⟩:=HX.out.at hkx
    obtain ⟨b2,off2,hco,hb2,hc2,_⟩:=HY.out.at hky
    generalize xs[k]'(by rw [HN.out];exact hlt)=x at hc hkx
    generalize ys[k]'(by rw [HM.out];exact hlt)=y at hc2 hky
    have HKX:=Hd hkx
    have HKY:=Hd hky
    subst hao hco
    have i1:(k:Int)<n:=by omega
    clear hkx hky
    obtain ⟨x0,x1,x2⟩:=x
    obtain ⟨y0,y1,y2⟩:=y
    have c0:∀ x':Calm w.heap.size w,x'.1.cell? ⟨b,off+k * 3,none⟩=some (.int .u8 x0):=fun x'=>x'.cell (hc 0 (by decide)) hb
    have c1:∀ x':Calm w.heap.size w,x'.1.cell? ⟨b,off+k * 3+1,none⟩=some (.int .i64 x1):=fun x'=>x'.cell (hc 1 (by decide)) hb
    have c2:∀ x':Calm w.heap.size w,x'.1.cell? ⟨b,off+k * 3+2,none⟩=some (.string x2):=fun x'=>x'.cell (hc 2 (by decide)) hb
    have c3:∀ x':Calm w.heap.size w,x'.1.cell? ⟨b2,off2+k * 3,none⟩=some (.int .u8 y0):=fun x'=>x'.cell (hc2 0 (by decide)) hb2
    have c4:∀ x':Calm w.heap.size w,x'.1.cell? ⟨b2,off2+k * 3+1,none⟩=some (.int .i64 y1):=fun x'=>x'.cell (hc2 1 (by decide)) hb2
    have c5:∀ x':Calm w.heap.size w,x'.1.cell? ⟨b2,off2+k * 3+2,none⟩=some (.string y2):=fun x'=>x'.cell (hc2 2 (by decide)) hb2
    clear hc hc2
    by_cases hxy:(⟨x0,x1,x2⟩:Va)=⟨y0,y1,y2⟩
    ·
     simp only [Va.mk.injEq] at hxy
     obtain ⟨rfl,rfl,rfl⟩:=hxy
     have hsv:=same_val 58 rfl x0 x1 x2
     have hnew:=take_step HKX.out HKY.out HT.out
     have HNEW:=Hd hnew
     clear hnew
     go_wp2_with fail
     refine wp_region_calm (B:=w.heap.size) (W0:=w) hbel (by kernel_rfl) (by kernel_rfl) ?_
     repeat (go_big_quiet_step (fail))
     refine wpQuiet_nil ?_
     intro w5 hb5
     clear c0 c1 c2 c3 c4 c5
     go_wp2_with fail
     go_roundw
     case rel=>exact ⟨k+1,by omega,by go_num,HNEW.out,hb5⟩
     case measure=>simp [intOf];omega
    ·
     have hnv:=neq_val 58 rfl x0 x1 x2 y0 y1 y2 hxy
     have hg2:g=false:=by rw [← HG.out];exact decide_eq_false (take_ne HKX.out HKY.out hxy)
     have HG2:=Hd hg2
     clear hg2
     go_wp2_with fail
     refine wp_region_calm (B:=w.heap.size) (W0:=w) hbel (by kernel_rfl) (by kernel_rfl) ?_
     repeat (go_big_quiet_step (fail))
     refine wpQuiet_nil ?_
     intro w5 hb5
     clear c0 c1 c2 c3 c4 c5
     go_wp2_with fail
     go_ret
     exact ⟨ret_bool HG2.out.symm,hb5⟩
   ·
    obtain rfl:k=n:=by omega
    have hg2:g=true:=by rw [← HG.out];exact decide_eq_true (take_eq_all HT.out HN.out HM.out)
    have HG2:=Hd hg2
    clear hg2
    go_wp2_with fail
    go_ret
    exact ⟨ret_bool HG2.out.symm,hbel⟩
 ·
  have hg2:g=false:=by rw [← hg];exact decide_eq_false (fun h=>hnm (by rw [← hn,← hm,h]))
  have i1:((n:Int) == m)=false:=beq_eq_false_iff_ne.2 (by omega)
  have i2:((n:Int) != m)=true:=bne_iff_ne.2 (by omega)
  have HG2:=Hd hg2
  clear hg hg2 hn hm
  go_enter Tryz.func127,Tryz.ntmps127
  go_wp2_with fail
  go_ret
  exact ⟨ret_bool HG2.out.symm,Below.refl _ _⟩
end Go.Proofs.YtglgcjkglhlggaaGreatDoor
/- A few blocks laid one behind the other. Any program. Conditions: none. -/
namespace Go.Proofs.YtglgcjkglhlggaaGreatDoor
open Go.RowKit
theorem keep_alloc {w:World}{g:Nat}{x:Obj}(h:w.heap[g]?=some x)(o:Obj):(w.alloc o).heap[g]?=some x :=
 ((World.grownBy_alloc w o none).block g (Array.getElem?_eq_some_iff.1 h).1 (by simp)).trans h
theorem alloc2_facts (w:World)(A B:Array Value)(T1 T2:TypeId):Below w.heap.size w ((w.alloc (.cells A T1)).alloc (.cells B T2))∧((w.alloc (.cells A T1)).alloc (.cells B T2)).heap[w.heap.size]?=some (.cells A T1 (0,0))∧((w.alloc (.cells A T1)).alloc (.cells B T2)).heap[w.heap.size+1]?=some (.cells B T2 (0,0))∧((w.alloc (.cells A T1)).alloc (.cells B T2)).heap.size=w.heap.size+2:=by
 refine ⟨((Below.refl _ _).alloc (nlr _) _).alloc (by simp) _,keep_alloc (heap_alloc_new w _) _,?_,by simp⟩
 have:=heap_alloc_new (w.alloc (.cells A T1)) (.cells B T2)
 simpa using this
end Go.Proofs.YtglgcjkglhlggaaGreatDoor
/- SameCommand, SameEntry tell whether two say alike. Conditions: the cells lie as their readings say. -/
namespace Go.Proofs.YtglgcjkglhlggaaGreatDoor
open Go.RowKit
set_option maxRecDepth 20000
theorem no_of {g:Bool}{P:Prop}(h:g=true ↔ P)(hn:¬ P):g=false:=by
 cases g with
 | false=>rfl
 | true=>exact absurd (h.1 rfl) hn
set_option maxHeartbeats 4000000 in
theorem sameC_dec (ck:Int)(text:ByteArray)(ao:Option Addr)(n cap:Nat)(xs:List Va)(num:Int)(ck2:Int)(text2:ByteArray)(co:Option Addr)(m cap2:Nat)(ys:List Va)(num2:Int)(w:World)(B:Nat)(hn:xs.length=n)(hm:ys.length=m)(hx:ValsIn w B ao xs)(hy:ValsIn w B co ys)(hB:B≤w.heap.size)(hl:n≤4611686018427387904)(hl2:m≤4611686018427387904)(g:Bool)(hg:g=true ↔ (⟨ck,text,xs,num⟩:CmP)=⟨ck2,text2,ys,num2⟩) :
  Calls Tryz.prog 67 #[.agg #[.int .u8 ck,.string text,.slice ao n cap,.int .i64 num],.agg #[.int .u8 ck2,.string text2,.slice co m cap2,.int .i64 num2]] w (DecAt g w):=by
 obtain ⟨hb2,h1,h2,hz2⟩:=alloc2_facts w #[.int .u8 ck,.string text,.slice ao n cap,.int .i64 num] #[.int .u8 ck2,.string text2,.slice co m cap2,.int .i64 num2] 53 53
 have HB2:=Hd hb2
 have H1:=Hd h1
 have H2:=Hd h2
 have HZ:=Hd (Nat.le_of_eq hz2.symm)
 have HG:=Hd hg
 have HC:=Hd (fun (w':World) (hb:Below w.heap.size w w') (gg:Bool) (hgg:decide (xs=ys)=gg)=>sameV_dec ao n cap co m cap2 xs ys w' B hn hm (hx.below noSub_kept hb hB) (hy.below noSub_kept hb hB) (Nat.le_trans hB hb.size) hl hl2 gg hgg)
 clear hb2 h1 h2 hz2 hg hn hm hx hy
 go_enter Tryz.func67,Tryz.ntmps67
 go_upto_region 1 with fail
 have hb2:=HB2.out
 have h1:=H1.out
 have h2:=H2.out
 have hz2:=HZ.out
 clear HB2 H1 H2 HZ
 generalize (w.alloc (.cells #[.int .u8 ck,.string text,.slice ao n cap,.int .i64 num] 53)).alloc (.cells #[.int .u8 ck2,.string text2,.slice co m cap2,.int .i64 num2] 53)=w2 at hb2 h1 h2 hz2 ⊢
 have H1:=Hd h1
 have H2:=Hd h2
 have HB2:=Hd hb2
 have c0:w2.cell? ⟨w.heap.size,0,none⟩=some (.int .u8 ck):=cob h1 0
 have c1:w2.cell? ⟨w.heap.size,1,none⟩=some (.string text):=cob h1 1
 have c2:w2.cell? ⟨w.heap.size,2,none⟩=some (.slice ao n cap):=cob h1 2
 have d0:w2.cell? ⟨w.heap.size+1,0,none⟩=some (.int .u8 ck2):=cob h2 0
 have d1:w2.cell? ⟨w.heap.size+1,1,none⟩=some (.string text2):=cob h2 1
 have d2:w2.cell? ⟨w.heap.size+1,2,none⟩=some (.slice co m cap2):=cob h2 2
 clear hb2 h1 h2
 by_cases hck:ck=ck2
 ·
  subst hck
  by_cases htx:text=text2
  ·
   subst htx
   obtain ⟨gg,hgg⟩:∃ gg,decide (xs=ys)=gg:=⟨_,rfl⟩
   have HGG:=Hd hgg
   clear hgg
   go_wp2_with fail
   refine (HC.out w2 HB2.out gg HGG.out).mono ?_
   rintro e w3 ⟨rfl,b3⟩
   have k1:=(b3.block w.heap.size (by omega)).trans H1.out
   have k2:=(b3.block (w.heap.size+1) (by omega)).trans H2.out
   have e3:w3.cell? ⟨w.heap.size,3,none⟩=some (.int .i64 num):=cob k1 3
   have f3:w3.cell? ⟨w.heap.size+1,3,none⟩=some (.int .i64 num2):=cob k2 3
   have HB3:=Hd (HB2.out.trans (b3.mono (by omega)))
   clear b3 k1 k2 c0 c1 c2 d0 d1 d2
   cases gg with
   | false =>
    have hg2:g=false:=no_of HG.out (fun h=>of_decide_eq_false HGG.out (by injection h))
    have HG2:=Hd hg2
    clear hg2
    go_wp2_with fail
    go_ret
    exact ⟨ret_bool HG2.out.symm,HB3.out⟩
   | true =>
    have hxy:xs=ys:=of_decide_eq_true HGG.out
    by_cases hnu:num=num2
    ·
     subst hnu
     have hg2:g=true:=HG.out.2 (by rw [hxy])
     have HG2:=Hd hg2
     clear hg2 hxy
     go_wp2_with fail
     go_ret
     exact ⟨ret_bool HG2.out.symm,HB3.out⟩
    ·
     have hg2:g=false:=no_of HG.out (fun h=>hnu (by injection h))
     have HG2:=Hd hg2
     have n1:(num == num2)=false:=beq_eq_false_iff_ne.2 hnu
     clear hg2 hxy
     go_wp2_with fail
     go_ret
     exact ⟨ret_bool HG2.out.symm,HB3.out⟩
  ·
   have hg2:g=false:=no_of HG.out (fun h=>htx (by injection h))
   have HG2:=Hd hg2
   have n1:¬ text.toList=text2.toList:=fun h=>htx (toList_inj h)
   have n2:(text.toList == text2.toList)=false:=beq_eq_false_iff_ne.2 n1
   have n3:decide (text.toList=text2.toList)=false:=decide_eq_false n1
   clear hg2
   go_wp2_with fail
   go_ret
   exact ⟨ret_bool HG2.out.symm,HB2.out⟩
 ·
  have hg2:g=false:=no_of HG.out (fun h=>hck (by injection h))
  have HG2:=Hd hg2
  have n1:(ck == ck2)=false:=beq_eq_false_iff_ne.2 hck
  clear hg2
  go_wp2_with fail
  go_ret
  exact ⟨ret_bool HG2.out.symm,HB2.out⟩
end Go.Proofs.YtglgcjkglhlggaaGreatDoor
