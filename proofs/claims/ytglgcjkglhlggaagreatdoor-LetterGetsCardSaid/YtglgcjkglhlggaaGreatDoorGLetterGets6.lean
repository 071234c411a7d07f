/- Commands and entries of letters, as the program judges them. Conditions: as each says. -/
import Derived.Test.YtglgcjkglhlggaaGreatDoorGLetterGets0
import Derived.Test.YtglgcjkglhlggaaGreatDoorGLetterGets5
import Derived.Deep.DeepCutAuto
import Derived.Test.YtglgcjkglhlggaaGreatDoorGLetterGets2
import Derived.Test.YtglgcjkglhlggaaGreatDoorGLetterGets1
set_option linter.unusedVariables false
set_option linter.unusedSimpArgs false
namespace Go.Proofs.YtglgcjkglhlggaaGreatDoor
open Go.RowKit
set_option maxRecDepth 20000
theorem text_no {text:ByteArray}(h:¬ text=ByteArray.empty):text.toList.isEmpty=false:=by
 cases hh:strB text with
 | nil =>
  have h1:=strN_strB text
  rw [hh] at h1
  exact absurd (h1.symm.trans rfl) h
 | cons c l =>
  have h1:text=strOfNums (c :: l):=by rw [← hh];exact (strN_strB text).symm
  rw [h1,Lib.strOfNums_toList]
  rfl
theorem toList_num (s:ByteArray):s.toList.map (fun c:UInt8=>(c.toNat:Int))=strB s:=by
 have h:=Lib.strOfNums_toList (strB s)
 have e:strOfNums (strB s)=s:=strN_strB s
 rw [e] at h
 rw [h]
 simp [Lib.bytesOf,strB]
theorem toList_inj {s t:ByteArray}(h:s.toList=t.toList):s=t:=by
 have h1:strB s=strB t:=by rw [← toList_num,← toList_num,h]
 rw [← strN_strB s,← strN_strB t,h1]
theorem neq_same (t:TypeId)(h:t=58)(a b:Int)(s:ByteArray)(w:World):(binOp .neq t (.agg #[.int .u8 a,.int .i64 b,.string s]) (.agg #[.int .u8 a,.int .i64 b,.string s])).run Tryz.prog w=.ok (.bool false) w:=by
 subst h
 simp [go_sem,Tryz.underlying58]
theorem neq_other (t:TypeId)(h:t=58)(a b:Int)(s:ByteArray)(a2 b2:Int)(s2:ByteArray)(hne:¬ (⟨a,b,s⟩:Va)=⟨a2,b2,s2⟩)(w:World):(binOp .neq t (.agg #[.int .u8 a,.int .i64 b,.string s]) (.agg #[.int .u8 a2,.int .i64 b2,.string s2])).run Tryz.prog w=.ok (.bool true) w:=by
 subst h
 simp only [Va.mk.injEq] at hne
 by_cases h1:a=a2
 ·
  subst h1
  by_cases h2:b=b2
  ·
   subst h2
   have h3:¬ s=s2:=fun h=>hne ⟨rfl,rfl,h⟩
   simp [go_sem,Tryz.underlying58]
   exact fun h=>h3 (toList_inj h)
  · simp [go_sem,Tryz.underlying58,h2]
 · simp [go_sem,Tryz.underlying58,h1]
def plainG (ck:Int) (text:ByteArray) (num:Int) (n:Nat):Bool:=decide (ck=0) && (decide (text=⟨#[]⟩) && (decide (num=0) && decide (n=0)))
theorem lplain_any (ck:Int)(text:ByteArray)(ao:Option Addr)(n cap:Nat)(num:Int)(w:World) :
  Calls Tryz.prog 121 #[.agg #[.int .u8 ck,.string text,.slice ao n cap,.int .i64 num]] w fun e w'=>e=.returned (.bool (plainG ck text num n))∧Below w.heap.size w w':=by
 have hb:=(Below.refl w.heap.size w).alloc (nlr _) (.cells #[.int .u8 ck,.string text,.slice ao n cap,.int .i64 num] 53)
 go_enter Tryz.func121,Tryz.ntmps121
 by_cases h1:ck=0
 ·
  by_cases h2:text=ByteArray.empty
  ·
   by_cases h3:num=0
   ·
    by_cases h4:n=0
    ·
     subst h1 h2 h3 h4
     go_wp2_with fail
     go_ret
     exact ⟨rfl,hb⟩
    ·
     subst h1 h2 h3
     have h5:¬ (n:Int)=0:=by omega
     have h6:decide ((n:Int)=0)=false:=decide_eq_false h5
     go_wp2_with fail
     go_ret
     exact ⟨by simp [plainG,h4],hb⟩
   ·
    subst h1 h2
    have h6:decide (num=0)=false:=decide_eq_false h3
    go_wp2_with fail
    go_ret
    exact ⟨by simp [plainG,h3],hb⟩
  ·
   subst h1
   have h3:decide (text=ByteArray.empty)=false:=decide_eq_false h2
   have h4:=text_no h2
   have h2':¬ text=⟨#[]⟩:=h2
   go_wp2_with fail
   go_ret
   exact ⟨by simp [plainG,h2'],hb⟩
 ·
  have h6:decide (ck=0)=false:=decide_eq_false h1
  go_wp2_with fail
  go_ret
  exact ⟨by simp [plainG,h1],hb⟩
set_option maxHeartbeats 2000000 in
theorem lwhole_any (ck:Int)(text:ByteArray)(ao:Option Addr)(n cap:Nat)(num:Int)(args:List Va)(w:World)(hn:args.length=n)(hx:ValsIn w w.heap.size ao args)(hk:(Lit.int .u8 ck).wf=true)(hw:∀ v ∈ args,VaArg v)(ht:text.size≤4000000)(ha:n≤4000000)(hat:∀ v ∈ args,v.text.size≤4000000)(hs:(valuesB args).length≤400000000)(g:Bool)(hg:wholeC ⟨ck,text,args,num⟩=g) :
  Calls Tryz.prog 122 #[.agg #[.int .u8 ck,.string text,.slice ao n cap,.int .i64 num]] w fun e w'=>e=.returned (.bool g)∧Below w.heap.size w w':=by
 have hbx:=(Below.refl w.heap.size w).alloc (nlr _) (.cells #[.int .u8 ck,.string text,.slice ao n cap,.int .i64 num] 53)
 have hkx:=heap_alloc_new w (.cells #[.int .u8 ck,.string text,.slice ao n cap,.int .i64 num] 53)
 obtain ⟨L,hL⟩:∃ L,commandB ck text num args=L:=⟨_,rfl⟩
 have hlw:BytesWf L:=hL ▸ commandB_wf ck text num args hk hw
 have hll:L.length≤410000000:=by rw [← hL,commandB_len];omega
 obtain ⟨r,hr⟩:∃ r,commandS false L=r:=⟨_,rfl⟩
 obtain ⟨P,hP⟩:=pair_of g
 have hg2:((!r.2.1 && r.2.2.isEmpty) && (decide (args.length=r.1.args.length) && decide (args=r.1.args)))=P.1:=by
  rw [← hP,← hg]
  unfold wholeC
  dsimp only
  rw [hL,hr]
 rw [hP]
 have HX:=Hd hx
 have HN:=Hd hn
 have HAT:=Hd hat
 have HL:=Hd hL
 have HLW:=Hd hlw
 have HR:=Hd hr
 have HG:=Hd hg2
 have HBX:=Hd hbx
 have HKX:=Hd hkx
 clear hx hn hk hw hat hL hlw hr hg hg2 hP hbx hkx
 go_enter Tryz.func122,Tryz.ntmps122
 go_wp2_with fail
 have hbx:=HBX.out
 have hkx:=HKX.out
 have hs0:(w.alloc (.cells #[.int .u8 ck,.string text,.slice ao n cap,.int .i64 num] 53)).heap.size=w.heap.size+1:=by simp
 clear HBX HKX
 generalize w.alloc (.cells #[.int .u8 ck,.string text,.slice ao n cap,.int .i64 num] 53)=w0 at hbx hkx hs0 ⊢
 have HX0:=Hd (HX.out.below noSub_kept hbx (nlr _))
 refine (HL.out ▸ wcommand_any ck text ao n cap num args w0 HN.out (HX0.out.mono noSub_rising (by omega)) (fun v hv=>by have:=HAT.out v hv;omega) (by omega) (by omega)).mono ?_
 rintro e w1 ⟨a1,c1,rfl,ho1,hb1⟩
 have HO1:=Hd ho1
 have hz1:=hb1.size
 clear ho1
 go_wp2_with fail
 refine (newReader_any a1 _ c1 L w1 w1.heap.size rfl (own_bytes' HO1.out) (nlr _) (own_none HO1.out) (by omega)).mono ?_
 rintro e w2 ⟨rb,rfl,hrb,hrd,hb2⟩
 have HR2:=Hd hrd
 have hz2:=hb2.size
 clear hrd HO1
 go_wp2_with fail
 have hb3:=(Below.refl w2.heap.size w2).alloc (nlr _) (.cells #[.pointer (some ⟨rb,0,none⟩)] 174)
 have hk3:=heap_alloc_new w2 (.cells #[.pointer (some ⟨rb,0,none⟩)] 174)
 obtain ⟨tb,htb⟩:∃ tb,w2.heap.size=tb:=⟨_,rfl⟩
 have hs3:(w2.alloc (.cells #[.pointer (some ⟨rb,0,none⟩)] 174)).heap.size=tb+1:=by simp [htb]
 have hrd3:=HR2.out.below hb3
 have hrb2:=HR2.out.lt
 rw [htb] at hrb2 hk3 ⊢
 generalize w2.alloc (.cells #[.pointer (some ⟨rb,0,none⟩)] 174)=w3 at hb3 hk3 hs3 hrd3 ⊢
 have hb0:Below w.heap.size w w3:=((hbx.trans (hb1.mono (by omega))).trans (hb2.mono (by omega))).trans (hb3.mono (by omega))
 have hkx3:w3.heap[w.heap.size]?=some (.cells #[.int .u8 ck,.string text,.slice ao n cap,.int .i64 num] 53 (0,0)):=by
  rw [hb3.block _ (by omega),hb2.block _ (by omega),hb1.block _ (by omega)]
  exact hkx
 have HRD:=Hd hrd3
 clear hb1 hb2 hb3 HR2 hkx hbx HX0 hrd3
 refine (rdCommand_any rb rb false L r w3 HR.out HRD.out HLW.out (by omega)).mono ?_
 rintro e w4 ⟨f,hp,he,hv,hr4,ho4⟩
 subst he
 obtain ⟨fk,ft,fo,fas,fc,fn⟩:=f
 obtain ⟨m,hm⟩:∃ m,fas.length=m:=⟨_,rfl⟩
 simp only [cmVal]
 rw [hm]
 have hpa:fas=r.1.args:=by rw [← hp];rfl
 have hb4:=hb0.trans (ho4.toBelow (B:=w.heap.size) (by omega) (by omega))
 have hkx4:=(ho4.block w.heap.size (by omega) (by omega)).trans hkx3
 have hk4:=(ho4.block tb (by omega) (by omega)).trans hk3
 have d0:w4.cell? ⟨tb,0,none⟩=some (.pointer (some ⟨rb,0,none⟩)):=cob hk4 0
 have hs4:=ho4.size
 have hvi:=own_rowsIn vaCells_len rfl hv (fun _ _=>trivial) (sub:=noSub)
 have HV:=Hd hvi
 have HR4:=Hd hr4
 have HM:=Hd hm
 have HPA:=Hd hpa
 clear hp hv hr4 ho4 hkx3 hk3 hb0 HRD hm hpa hvi
 have hz5:=(Below.refl w4.heap.size w4).alloc (nlr _) (.cells #[.int .u8 fk,.string ft,.slice fo m fc,.int .i64 fn] 53)
 have d1:∀ o,(w4.alloc o).cell? ⟨tb,0,none⟩=some (.pointer (some ⟨rb,0,none⟩)):=fun o=>((Below.refl w4.heap.size w4).alloc (nlr _) o).cell (p:=⟨tb,0,none⟩) (show tb<w4.heap.size by omega) |>.trans d0
 have HZ5:=Hd hz5
 clear hz5
 go_wp2_with fail
 clear d0 d1
 have hb5:=HZ5.out
 have hk5:=heap_alloc_new w4 (.cells #[.int .u8 fk,.string ft,.slice fo m fc,.int .i64 fn] 53)
 have hs5:(w4.alloc (.cells #[.int .u8 fk,.string ft,.slice fo m fc,.int .i64 fn] 53)).heap.size=w4.heap.size+1:=by simp
 obtain ⟨db,hdb⟩:∃ db,w4.heap.size=db:=⟨_,rfl⟩
 clear HZ5
 rw [hdb] at hk5 hs5 ⊢
 generalize w4.alloc (.cells #[.int .u8 fk,.string ft,.slice fo m fc,.int .i64 fn] 53)=w5 at hb5 hk5 hs5 ⊢
 have hr5:=HR4.out.below hb5
 have hkx5:=(hb5.block w.heap.size (by omega)).trans hkx4
 have c2:w5.cell? ⟨w.heap.size,2,none⟩=some (.slice ao n cap):=cob hkx5 2
 have f2:w5.cell? ⟨db,2,none⟩=some (.slice fo m fc):=cob hk5 2
 obtain ⟨D,hD⟩:∃ D,(!r.2.1 && r.2.2.isEmpty)=D:=⟨_,rfl⟩
 have HF2:=Hd f2
 have hbw:=hb4.trans (hb5.mono hb4.size)
 have HB5:=Hd hbw
 have HXW:=Hd (HX.out.below noSub_kept hbw (nlr _))
 have HVW:=Hd (HV.out.below noSub_kept hb5 (nlr _))
 clear hb4 hb5 hkx4 HX HV HR4 hk4 hkx5 hk5
 refine (done_rd rb rb _ _ w5 hr5).mono ?_
 rw [hD]
 rintro e w6 ⟨rfl,rfl⟩
 clear hr5
 have HG2:=Hd (show (D && (decide (n=m) && decide (args=fas)))=P.1 by rw [← HG.out,← HN.out,← HM.out,HPA.out,hD])
 clear HG hD HR
 cases D with
 | false =>
  have hf:P.1=false:=by rw [← HG2.out];rfl
  go_wp2_with fail
  go_ret
  exact ⟨by first | rfl | (rw [hf];rfl),HB5.out⟩
 | true =>
  by_cases hnm:n=m
  ·
   subst hnm
   go_wp2_with fail
   clear c2 f2
   go_loopw [30] (fun i wr=>∃ k:Nat,k≤n∧i=.int .i64 k∧args.take k=fas.take k∧Below w5.heap.size w5 wr) (fun i _=>n - (intOf i).toNat)
   case atStart=>exact ⟨0,by omega,rfl,rfl,Below.refl _ _⟩
   case round =>
    obtain ⟨k,hk,rfl,heq,hbel⟩:=hrel
    have HE:=Hd heq
    have hzr:=hbel.size
    clear heq
    by_cases hlt:k<n
    ·
     have i1:(k:Int)<n:=by omega
     have hkx:args[k]?=some (args[k]'(by rw [HN.out];exact hlt)):=List.getElem?_eq_getElem _
     have hky:fas[k]?=some (fas[k]'(by rw [HM.out];exact hlt)):=List.getElem?_eq_getElem _
     have htx:args.take (k+1)=args.take k ++ [args[k]'(by rw [HN.out];exact hlt)]:=List.take_succ_eq_append_getElem _
     have hty:fas.take (k+1)=fas.take k ++ [fas[k]'(by rw [HM.out];exact hlt)]:=List.take_succ_eq_append_getElem _
     obtain ⟨b,off,hao,hb,hc,_⟩:=HXW.out.at hkx
     obtain ⟨b2,off2,hao2,hb2,hc2,_⟩:=HVW.out.at hky
     generalize args[k]'(by rw [HN.out];exact hlt)=x at hc hkx htx
     generalize fas[k]'(by rw [HM.out];exact hlt)=y at hc2 hky hty
     obtain ⟨kd,nu,tx⟩:=x
     obtain ⟨kd2,nu2,tx2⟩:=y
     have hq:∀ w',Below w5.heap.size w5 w'→w'.cell? ⟨b,off+k * 3,none⟩=some (.int .u8 kd)∧w'.cell? ⟨b,off+k * 3+1,none⟩=some (.int .i64 nu)∧w'.cell? ⟨b,off+k * 3+2,none⟩=some (.string tx):=fun w' h =>
      ⟨(h.cell (p:=⟨b,_,none⟩) (show b<w5.heap.size by omega)).trans (hc 0 (by decide)),(h.cell (p:=⟨b,_,none⟩) (show b<w5.heap.size by omega)).trans (hc 1 (by decide)),(h.cell (p:=⟨b,_,none⟩) (show b<w5.heap.size by omega)).trans (hc 2 (by decide))⟩
     have hq2:∀ w',Below w5.heap.size w5 w'→w'.cell? ⟨b2,off2+k * 3,none⟩=some (.int .u8 kd2)∧w'.cell? ⟨b2,off2+k * 3+1,none⟩=some (.int .i64 nu2)∧w'.cell? ⟨b2,off2+k * 3+2,none⟩=some (.string tx2):=fun w' h =>
      ⟨(h.cell (p:=⟨b2,_,none⟩) (show b2<w5.heap.size by omega)).trans (hc2 0 (by decide)),(h.cell (p:=⟨b2,_,none⟩) (show b2<w5.heap.size by omega)).trans (hc2 1 (by decide)),(h.cell (p:=⟨b2,_,none⟩) (show b2<w5.heap.size by omega)).trans (hc2 2 (by decide))⟩
     have HQ2:=Hd hq2
     have HT:=Hd (And.intro htx hty)
     subst hao hao2
     obtain ⟨c0,c1,c2⟩:=hq wr hbel
     have c3:wr.cell? ⟨b,off+k * 3+1+1,none⟩=some (.string tx):=c2
     have hba:=hbel.alloc hzr (.cells #[.int .u8 kd,.int .i64 nu,.string tx] 58)
     have hka:=heap_alloc_new wr (.cells #[.int .u8 kd,.int .i64 nu,.string tx] 58)
     have HBA:=Hd hba
     have HKA:=Hd hka
     clear hc hc2 hkx hky htx hty hq hq2 hba hka
     go_wp2_with fail
     have hba:=HBA.out
     have hka:=HKA.out
     obtain ⟨vb,hvb⟩:∃ vb,wr.heap.size=vb:=⟨_,rfl⟩
     clear HBA HKA c0 c1 c2 c3
     rw [hvb] at hka ⊢
     generalize wr.alloc (.cells #[.int .u8 kd,.int .i64 nu,.string tx] 58)=w7 at hba hka ⊢
     have v0:w7.cell? ⟨vb,0,none⟩=some (.int .u8 kd):=cob hka 0
     have v1:w7.cell? ⟨vb,1,none⟩=some (.int .i64 nu):=cob hka 1
     have v2:w7.cell? ⟨vb,2,none⟩=some (.string tx):=cob hka 2
     obtain ⟨y0,y1,y2⟩:=HQ2.out w7 hba
     have y3:w7.cell? ⟨b2,off2+k * 3+1+1,none⟩=some (.string tx2):=y2
     have f2:w7.cell? ⟨db,2,none⟩=some (.slice (some ⟨b2,off2,none⟩) n fc):=(hba.cell (p:=⟨db,2,none⟩) (show db<w5.heap.size by omega)).trans HF2.out
     by_cases hxy:(⟨kd,nu,tx⟩:Va)=⟨kd2,nu2,tx2⟩
     ·
      have hst:args.take (k+1)=fas.take (k+1):=by rw [HT.out.1,HT.out.2,HE.out,hxy]
      have HST:=Hd hst
      have hne:∀ w,(binOp .neq 58 (.agg #[.int .u8 kd,.int .i64 nu,.string tx]) (.agg #[.int .u8 kd2,.int .i64 nu2,.string tx2])).run Tryz.prog w=.ok (.bool false) w:=by
       cases hxy
       exact neq_same _ rfl _ _ _
      clear hst hxy
      go_quiet (fail)
      go_wp2_with fail
      go_roundw
      case rel=>exact ⟨k+1,by omega,by go_num,HST.out,below_drewN hba _⟩
      case measure=>simp [intOf] <;> omega
     ·
      have hf:P.1=false:=by
       rw [← HG2.out]
       have:¬ args=fas:=fun h=>hxy (by
        have h1:=HT.out.1
        have h2:=HT.out.2
        rw [h,h2] at h1
        exact (List.singleton_inj.1 (List.append_cancel_left (h1.trans (by rw [HE.out.symm,h])))).symm)
       simp [this]
      have hne:=neq_other 58 rfl kd nu tx kd2 nu2 tx2 hxy
      have HBA:=Hd (HB5.out.trans (hba.mono HB5.out.size))
      clear hxy
      go_quiet (fail)
      go_wp2_with fail
      go_ret
      exact ⟨by first | rfl | (rw [hf];rfl),below_drewN HBA.out _⟩
    ·
     have i1:¬ (k:Int)<n:=by omega
     obtain rfl:k=n:=by omega
     have hf:P.1=true:=by
      rw [← HG2.out]
      have:=HE.out
      rw [List.take_of_length_le (by rw [HN.out];exact nlr _),List.take_of_length_le (by rw [HM.out];exact nlr _)] at this
      simp [this]
     go_wp2_with fail
     go_ret
     exact ⟨by first | rfl | (rw [hf];rfl),HB5.out.trans (hbel.mono HB5.out.size)⟩
  ·
   have hf:P.1=false:=by rw [← HG2.out];simp [hnm]
   have i1:¬ (n:Int)=m:=by omega
   have i2:decide ((n:Int)=m)=false:=decide_eq_false i1
   go_wp2_with fail
   go_ret
   exact ⟨by first | rfl | (rw [hf];rfl),HB5.out⟩
end Go.Proofs.YtglgcjkglhlggaaGreatDoor
/- Entries of letters, as the program judges them. Conditions: as each says. -/
namespace Go.Proofs.YtglgcjkglhlggaaGreatDoor
open Go.RowKit
set_option maxRecDepth 20000
theorem nums_new (w:World)(xs:List Int)(cs:Array Value)(hcs:cs=(xs.map (Value.int .i64)).toArray):NumsIn (w.alloc (.cells cs 3)) (w.heap.size+1) (some ⟨w.heap.size,0,none⟩) xs:=by
 subst hcs
 refine Or.inr ⟨w.heap.size,0,rfl,Nat.lt_succ_self _,fun i x hx=>⟨fun j hj=>?_,trivial⟩⟩
 obtain rfl:j=0:=by omega
 rw [cob (heap_alloc_new w _)]
 simp [hx,iCells]
set_option maxHeartbeats 4000000 in
theorem lentry_any (tm kd ss sq ck:Int)(text:ByteArray)(ao:Option Addr)(n cap:Nat)(args:List Va)(num:Int)(vo:Option Addr)(m vcap:Nat)(vs:List Int)(w:World)(hn:args.length=n)(hm:vs.length=m)(hx:ValsIn w w.heap.size ao args)(hv:NumsIn w w.heap.size vo vs)
  (hk:(Lit.int .u8 ck).wf=true) (hw:∀ v ∈ args,VaArg v) (ht:text.size≤4000000) (ha:n≤4000000) (hml:m≤4000000) (hat:∀ v ∈ args,v.text.size≤4000000) (hs:(valuesB args).length≤400000000) (g:Bool) (hg:entryR ⟨tm,kd,ss,sq,ck,text,args,num,vs⟩=g) :
  Calls Tryz.prog 62 #[.agg #[.int .i64 tm,.int .u8 kd,.int .i64 ss,.int .i64 sq,.int .u8 ck,.string text,.slice ao n cap,.int .i64 num,.slice vo m vcap]] w fun e w'=>e=.returned (.bool g)∧Below w.heap.size w w':=by
 have hbx:=(Below.refl w.heap.size w).alloc (nlr _) (.cells #[.int .i64 tm,.int .u8 kd,.int .i64 ss,.int .i64 sq,.int .u8 ck,.string text,.slice ao n cap,.int .i64 num,.slice vo m vcap] 55)
 have hkx:=heap_alloc_new w (.cells #[.int .i64 tm,.int .u8 kd,.int .i64 ss,.int .i64 sq,.int .u8 ck,.string text,.slice ao n cap,.int .i64 num,.slice vo m vcap] 55)
 have hs0:(w.alloc (.cells #[.int .i64 tm,.int .u8 kd,.int .i64 ss,.int .i64 sq,.int .u8 ck,.string text,.slice ao n cap,.int .i64 num,.slice vo m vcap] 55)).heap.size=w.heap.size+1:=by simp
 obtain ⟨P,hP⟩:=pair_of g
 rw [hP] at hg ⊢
 have HG:=Hd hg
 have HX:=Hd hx
 have HV:=Hd hv
 have HN:=Hd hn
 have HM:=Hd hm
 have HW:=Hd hw
 have HAT:=Hd hat
 have HBX:=Hd hbx
 have HKX:=Hd hkx
 have HS0:=Hd hs0
 obtain ⟨BE,hBE⟩:=pair_of (bareE ⟨tm,kd,ss,sq,ck,text,args,num,vs⟩)
 have HBE:=Hd hBE
 clear hBE
 clear hx hv hn hm hw hat hg hP hbx hkx hs0
 go_enter Tryz.func62,Tryz.ntmps62
 go_upto_region 1 with fail
 have hbx:=HBX.out
 have hkx:=HKX.out
 have hs0:=HS0.out
 clear HBX HKX HS0
 generalize w.alloc (.cells #[.int .i64 tm,.int .u8 kd,.int .i64 ss,.int .i64 sq,.int .u8 ck,.string text,.slice ao n cap,.int .i64 num,.slice vo m vcap] 55)=w0 at hbx hkx hs0 ⊢
 have HC:=Hd (fun w' (h:Below (w.heap.size+1) w0 w') (i:Nat)=>(h.cell (p:=⟨w.heap.size,i,none⟩) (Nat.lt_succ_self _)).trans (cob hkx i))
 go_cut [3] (fun bv wq=>bv=.bool BE.1∧w.heap.size+1≤wq.heap.size∧Below (w.heap.size+1) w0 wq)
 case first =>
  have c2:w0.cell? ⟨w.heap.size,2,none⟩=some (.int .i64 ss):=cob hkx 2
  have c3:w0.cell? ⟨w.heap.size,3,none⟩=some (.int .i64 sq):=cob hkx 3
  have c4:w0.cell? ⟨w.heap.size,4,none⟩=some (.int .u8 ck):=cob hkx 4
  have c5:w0.cell? ⟨w.heap.size,4+1,none⟩=some (.string text):=cob hkx 5
  have c6:w0.cell? ⟨w.heap.size,4+2,none⟩=some (.slice ao n cap):=cob hkx 6
  have c7:w0.cell? ⟨w.heap.size,4+3,none⟩=some (.int .i64 num):=cob hkx 7
  have c8:w0.cell? ⟨w.heap.size,4+1+1,none⟩=some (.slice ao n cap):=cob hkx 6
  have c9:w0.cell? ⟨w.heap.size,4+1+1+1,none⟩=some (.int .i64 num):=cob hkx 7
  clear hkx
  by_cases h1:ss=0
  ·
   by_cases h2:sq=0
   ·
    have hbe:plainG ck text num n=BE.1:=by
     rw [← HBE.out,h1,h2,← HN.out]
     rfl
    have HP:=Hd hbe
    clear hbe
    subst h1 h2
    go_wp2_with fail
    refine (lplain_any ck text ao n cap num w0).mono ?_
    rw [HP.out]
    rintro e wq ⟨rfl,hb1⟩
    have HB1:=Hd hb1
    clear hb1
    cases hbb:BE.1
    all_goals
     go_wp2_with fail
     go_meet
     exact ⟨by first | rfl | rw [hbb],by have:=HB1.out.size;omega,HB1.out.mono (by omega)⟩
   ·
    have hbe:BE.1=false:=by rw [← HBE.out];unfold bareE;simp [h2]
    have d2:decide (sq=0)=false:=decide_eq_false h2
    have HP:=Hd hbe
    clear hbe
    subst h1
    go_wp2_with fail
    go_meet
    exact ⟨by first | rfl | rw [HP.out],by omega,Below.refl _ _⟩
  ·
   have hbe:BE.1=false:=by rw [← HBE.out];unfold bareE;simp [h1]
   have d2:decide (ss=0)=false:=decide_eq_false h1
   have HP:=Hd hbe
   clear hbe
   go_wp2_with fail
   go_meet
   exact ⟨by first | rfl | rw [HP.out],by omega,Below.refl _ _⟩
 case rest =>
  obtain ⟨rfl,hsq,hbq⟩:=hcut
  obtain ⟨wq,hwq⟩:∃ wq,wc=wq:=⟨_,rfl⟩
  subst hwq
  have e0:wc.cell? ⟨w.heap.size,0,none⟩=some (.int .i64 tm):=HC.out _ hbq 0
  have hzq:=(Below.refl wc.heap.size wc).alloc (nlr _) (.cells #[.int .i64 tm] 3)
  have HZQ:=Hd hzq
  clear hzq hkx
  go_wp2_with fail
  have hzq:=HZQ.out
  refine (lwithin_any (some ⟨wc.heap.size,0,none⟩) 1 1 [tm] (wc.alloc (.cells #[.int .i64 tm] 3)) (wc.heap.size+1) rfl (nums_new wc [tm] _ rfl) (by decide) (withinN tm) (by simp)).mono ?_
  obtain ⟨wt,hwt⟩:∃ wt,withinN tm=wt:=⟨_,rfl⟩
  rw [hwt]
  have HWT:=Hd hwt
  clear hwt
  rintro e wz ⟨rfl,rfl⟩
  have hbz:=hbq.trans (hzq.mono hsq)
  have HBZ:=Hd (hbx.trans (hbz.mono (Nat.le_succ _)))
  have hsz:w.heap.size+1≤(wc.alloc (.cells #[.int .i64 tm] 3)).heap.size:=Nat.le_trans hsq (by simp)
  clear HZQ hzq e0
  generalize wc.alloc (.cells #[.int .i64 tm] 3)=wz at hbz HBZ hsz ⊢
  cases wt with
  | false =>
   have hf:P.1=false:=by rw [← HG.out];unfold entryR;simp [HWT.out]
   go_wp2_with fail
   go_ret
   exact ⟨by first | rfl | (rw [hf];rfl),HBZ.out⟩
  | true =>
   have e1:wz.cell? ⟨w.heap.size,1,none⟩=some (.int .u8 kd):=HC.out _ hbz 1
   have e2:wz.cell? ⟨w.heap.size,2,none⟩=some (.int .i64 ss):=HC.out _ hbz 2
   have e3:wz.cell? ⟨w.heap.size,3,none⟩=some (.int .i64 sq):=HC.out _ hbz 3
   have e4:wz.cell? ⟨w.heap.size,4,none⟩=some (.int .u8 ck):=HC.out _ hbz 4
   have e5:wz.cell? ⟨w.heap.size,4+1,none⟩=some (.string text):=HC.out _ hbz 5
   have e6:wz.cell? ⟨w.heap.size,4+2,none⟩=some (.slice ao n cap):=HC.out _ hbz 6
   have e7:wz.cell? ⟨w.heap.size,4+3,none⟩=some (.int .i64 num):=HC.out _ hbz 7
   have e8:wz.cell? ⟨w.heap.size,8,none⟩=some (.slice vo m vcap):=HC.out _ hbz 8
   clear hsq hbq hbx
   by_cases hk1:kd=1
   ·
    have HF:=Hd (show P.1=(BE.1 && decide (m=0)) by rw [← HG.out,← HBE.out,← HM.out];unfold entryR;simp [HWT.out,hk1,bareE,EnP.cm])
    subst hk1
    cases hbb:BE.1
    ·
     rw [hbb] at HF
     go_wp2_with fail
     go_ret
     exact ⟨by rw [HF.out];rfl,HBZ.out⟩
    ·
     rw [hbb] at HF
     by_cases hm0:m=0
     ·
      subst hm0
      go_wp2_with fail
      go_ret
      exact ⟨by rw [HF.out];rfl,HBZ.out⟩
     ·
      have j1:¬ (m:Int)=0:=by omega
      have j2:decide ((m:Int)=0)=false:=decide_eq_false j1
      have j3:((m:Int) == 0)=false:=by simpa using hm0
      go_wp2_with fail
      go_ret
      exact ⟨by rw [HF.out];simp [hm0],HBZ.out⟩
   ·
    have kk1:decide (kd=1)=false:=decide_eq_false hk1
    by_cases hk2:kd=2
    ·
     have HF:=Hd (show P.1=(decide (0≤ss) && (decide (0≤sq) && (decide (m=0) && wholeC ⟨ck,text,args,num⟩))) by rw [← HG.out,← HM.out];unfold entryR;simp [HWT.out,hk2,EnP.cm])
     subst hk2
     by_cases g1:0≤ss
     ·
      by_cases g2:0≤sq
      ·
       by_cases hm0:m=0
       ·
        subst hm0
        obtain ⟨P3,hP3⟩:=pair_of (wholeC ⟨ck,text,args,num⟩)
        have HF2:=Hd (show P.1=P3.1 by rw [HF.out,← hP3];simp [g1,g2])
        have HP3:=Hd hP3
        clear HF hP3
        go_wp2_with fail
        refine (lwhole_any ck text ao n cap num args wz HN.out ((HX.out.below noSub_kept HBZ.out (nlr _)).mono noSub_rising (by omega)) hk HW.out ht ha HAT.out hs P3.1 HP3.out).mono ?_
        rintro e wy ⟨rfl,hby⟩
        have HBY:=Hd (HBZ.out.trans (hby.mono (by omega)))
        clear hby
        go_wp2_with fail
        go_ret
        exact ⟨by rw [HF2.out];rfl,HBY.out⟩
       ·
        have j1:¬ (m:Int)=0:=by omega
        have j2:decide ((m:Int)=0)=false:=decide_eq_false j1
        have j3:((m:Int) == 0)=false:=by simpa using hm0
        go_wp2_with fail
        go_ret
        exact ⟨by rw [HF.out];simp [hm0],HBZ.out⟩
      ·
       have j2:decide (0≤sq)=false:=decide_eq_false g2
       go_wp2_with fail
       go_ret
       exact ⟨by rw [show P.1=false by rw [HF.out,j2];simp];rfl,HBZ.out⟩
     ·
      have j2:decide (0≤ss)=false:=decide_eq_false g1
      go_wp2_with fail
      go_ret
      exact ⟨by rw [show P.1=false by rw [HF.out,j2];simp];rfl,HBZ.out⟩
    ·
     have kk2:decide (kd=2)=false:=decide_eq_false hk2
     by_cases hk3:kd=3
     ·
      have HF:=Hd (show P.1=(BE.1 && votersB vs) by rw [← HG.out,← HBE.out];unfold entryR;simp [HWT.out,hk3,bareE,EnP.cm])
      subst hk3
      cases hbb:BE.1
      ·
       rw [hbb] at HF
       go_wp2_with fail
       go_ret
       exact ⟨by rw [HF.out];rfl,HBZ.out⟩
      ·
       rw [hbb] at HF
       obtain ⟨P3,hP3⟩:=pair_of (votersB vs)
       have HF2:=Hd (show P.1=P3.1 by rw [HF.out,← hP3];rfl)
       have HP3:=Hd hP3
       clear HF hP3
       go_wp2_with fail
       refine (lvoters_any vo m vcap vs wz w.heap.size HM.out (HV.out.below noSub_kept HBZ.out (nlr _)) (by omega) P3.1 HP3.out).mono ?_
       rintro e wy ⟨rfl,rfl⟩
       go_wp2_with fail
       go_ret
       exact ⟨by rw [HF2.out];rfl,HBZ.out⟩
     ·
      have kk3:decide (kd=3)=false:=decide_eq_false hk3
      have hf:P.1=false:=by rw [← HG.out];unfold entryR;simp [HWT.out,hk1,hk2,hk3]
      go_wp2_with fail
      go_ret
      exact ⟨by first | rfl | (rw [hf];rfl),HBZ.out⟩
end Go.Proofs.YtglgcjkglhlggaaGreatDoor
/- Entries of a letter, and what a letter is without what its kind has. Conditions: as each says. -/
namespace Go.Proofs.YtglgcjkglhlggaaGreatDoor
open Go.RowKit
set_option maxRecDepth 20000
theorem entriesR_take {es:List EnP}(h:es.all entryR=true):entriesR es=decide (es.length≤16):=by unfold entriesR;rw [h,Bool.true_and]
set_option maxHeartbeats 1000000 in
theorem lentries_any (ao:Option Addr)(n cap:Nat)(es:List En)(w:World)(B:Nat)(hn:es.length=n)(hx:EnsIn w B ao es)(hB:B≤w.heap.size)(hf:∀ e ∈ es,EnFine e)(hl:n≤4398046511104)(g:Bool)(hg:entriesR (es.map En.plain)=g) :
  Calls Tryz.prog 30 #[.slice ao n cap] w fun e w'=>e=.returned (.bool g)∧Below w.heap.size w w':=by
 obtain ⟨P,hP⟩:=pair_of g
 rw [hP] at hg ⊢
 have HX:=Hd (hx.mono enSub_rising hB)
 have HN:=Hd hn
 have HF:=Hd hf
 have HG:=Hd hg
 clear hx hn hf hg hP
 go_enter Tryz.func30,Tryz.ntmps30
 go_wp2_with fail
 go_loopw [7] (fun i wr=>∃ k:Nat,k≤n∧i=.int .i64 k∧((es.take k).map En.plain).all entryR=true∧Below w.heap.size w wr) (fun i _=>n - (intOf i).toNat)
 case atStart=>exact ⟨0,by omega,rfl,rfl,Below.refl _ _⟩
 case round =>
  obtain ⟨k,hk,rfl,hall,hbel⟩:=hrel
  have HA:=Hd hall
  have hzr:=hbel.size
  clear hall
  by_cases hlt:k<n
  ·
   have i1:(k:Int)<n:=by omega
   have hkx:es[k]?=some (es[k]'(by rw [HN.out];exact hlt)):=List.getElem?_eq_getElem _
   have htk:es.take (k+1)=es.take k ++ [es[k]'(by rw [HN.out];exact hlt)]:=List.take_succ_eq_append_getElem _
   have hmem:(es[k]'(by rw [HN.out];exact hlt)) ∈ es:=List.getElem_mem _
   obtain ⟨b,off,hao,hb,hc,hsub⟩:=HX.out.at hkx
   generalize es[k]'(by rw [HN.out];exact hlt)=x at hc hkx htk hmem hsub
   have hfx:=HF.out x hmem
   obtain ⟨tm,kd,ss,sq,ck,text,aao,args,acap,num,vao,vs,vcap⟩:=x
   have c:=fun (i:Nat) (h:i<9)=>(hbel.cell (p:=⟨b,off+k * 9+i,none⟩) hb).trans (hc i h)
   have c0:wr.cell? ⟨b,off+k * 9,none⟩=some (.int .i64 tm):=c 0 (by decide)
   have c1:wr.cell? ⟨b,off+k * 9+1,none⟩=some (.int .u8 kd):=c 1 (by decide)
   have c2:wr.cell? ⟨b,off+k * 9+2,none⟩=some (.int .i64 ss):=c 2 (by decide)
   have c3:wr.cell? ⟨b,off+k * 9+3,none⟩=some (.int .i64 sq):=c 3 (by decide)
   have c4:wr.cell? ⟨b,off+k * 9+4,none⟩=some (.int .u8 ck):=c 4 (by decide)
   have c5:wr.cell? ⟨b,off+k * 9+5,none⟩=some (.string text):=c 5 (by decide)
   have c6:wr.cell? ⟨b,off+k * 9+6,none⟩=some (.slice aao args.length acap):=c 6 (by decide)
   have c7:wr.cell? ⟨b,off+k * 9+7,none⟩=some (.int .i64 num):=c 7 (by decide)
   have c8:wr.cell? ⟨b,off+k * 9+8,none⟩=some (.slice vao vs.length vcap):=c 8 (by decide)
   subst hao
   obtain ⟨nn,hnn⟩:∃ nn,args.length=nn:=⟨_,rfl⟩
   obtain ⟨mm,hmm⟩:∃ mm,vs.length=mm:=⟨_,rfl⟩
   rw [hnn] at c6
   rw [hmm] at c8
   have HNN:=Hd hnn
   have HMM:=Hd hmm
   have HFX:=Hd hfx
   have HSUB:=Hd hsub
   have HTK:=Hd htk
   have HMEM:=Hd hmem
   clear c hc hkx hmem hsub hfx htk hnn hmm
   go_wp2_with fail
   obtain ⟨Pe,hPe⟩:=pair_of (entryR ⟨tm,kd,ss,sq,ck,text,args,num,vs⟩)
   have HPE:=Hd hPe
   have hba:=hbel.alloc hzr (.cells #[.int .i64 tm,.int .u8 kd,.int .i64 ss,.int .i64 sq,.int .u8 ck,.string text,.slice aao nn acap,.int .i64 num,.slice vao mm vcap] 55)
   have hsub:=((HSUB.out.1.below noSub_kept hba (nlr _)).mono noSub_rising hba.size)
   have hsub2:=((HSUB.out.2.below noSub_kept hba (nlr _)).mono noSub_rising hba.size)
   clear hPe c0 c1 c2 c3 c4 c5 c6 c7 c8
   generalize wr.alloc (.cells #[.int .i64 tm,.int .u8 kd,.int .i64 ss,.int .i64 sq,.int .u8 ck,.string text,.slice aao nn acap,.int .i64 num,.slice vao mm vcap] 55)=w1 at hba hsub hsub2 ⊢
   refine (lentry_any tm kd ss sq ck text aao nn acap args num vao mm vcap vs w1 HNN.out HMM.out hsub hsub2 HFX.out.wf.ck HFX.out.wf.args HFX.out.text (by have h:=HFX.out.args;rw [← HNN.out];exact h) (by have h:=HFX.out.vn;rw [← HMM.out];exact h) HFX.out.argt HFX.out.size Pe.1 HPE.out).mono ?_
   rintro e w2 ⟨rfl,hb2⟩
   have HB2:=Hd (hba.trans (hb2.mono hba.size))
   clear hba hb2 hsub hsub2
   cases hpe:Pe.1 with
   | true =>
    have HS:=Hd (show ((es.take (k+1)).map En.plain).all entryR=true by
     rw [HTK.out,List.map_append,List.all_append,HA.out]
     have:=HPE.out
     rw [hpe] at this
     simp [En.plain,this])
    clear hpe
    go_wp2_with fail
    go_roundw
    case rel=>exact ⟨k+1,by omega,by go_num,HS.out,HB2.out⟩
    case measure=>simp [intOf] <;> omega
   | false =>
    have hf:P.1=false:=by
     rw [← HG.out]
     have h1:(es.map En.plain).all entryR=false:=by
      cases hh:(es.map En.plain).all entryR with
      | false=>rfl
      | true =>
       have:=List.all_eq_true.1 hh _ (List.mem_map_of_mem HMEM.out)
       have h2:=HPE.out
       rw [hpe] at h2
       rw [show En.plain ⟨tm,kd,ss,sq,ck,text,aao,args,acap,num,vao,vs,vcap⟩=⟨tm,kd,ss,sq,ck,text,args,num,vs⟩ from rfl,h2] at this
       cases this
     unfold entriesR
     rw [h1]
     rfl
    have HF2:=Hd hf
    clear hpe hf
    go_wp2_with fail
    go_ret
    exact ⟨by rw [HF2.out];rfl,HB2.out⟩
  ·
   have i1:¬ (k:Int)<n:=by omega
   obtain rfl:k=n:=by omega
   have hfin:P.1=decide (k≤16):=by
    rw [← HG.out]
    have:=HA.out
    rw [List.take_of_length_le (by rw [HN.out];exact nlr _)] at this
    rw [entriesR_take this,List.length_map,HN.out]
   have HF2:=Hd hfin
   clear hfin
   by_cases h16:k≤16
   ·
    have j1:(k:Int)≤16:=by omega
    go_wp2_with fail
    go_ret
    exact ⟨by rw [HF2.out];simp [h16],hbel⟩
   ·
    have j1:¬ (k:Int)≤16:=by omega
    go_wp2_with fail
    go_ret
    exact ⟨by rw [HF2.out];simp [h16],hbel⟩
/-- A letter without what its kind has, where it lies. -/
def leftT (l:Lt):Lt × Bool :=
 if l.kind=1 then ({ l with index:=0,was:=0 },true)
 else if l.kind=2 then ({ l with ok:=false },true)
 else if l.kind=3 then ({ l with commit:=0,eo:=none,es:=[],ecap:=0,index:=0,was:=0,round:=0 },true)
 else if l.kind=5 then ({ l with was:=0,vo:=none,vs:=[],vcap:=0,io:=none,im:=[],icap:=0,index:=0,round:=0 },true)
 else if l.kind=4 then ({ l with ok:=false,index:=0,round:=0 },true)
 else if l.kind=6 then ({ l with index:=0,round:=0 },true)
 else (l,false)
theorem leftT_plain (l:Lt):(leftT l).1.plain=(leftL l.plain).1∧(leftT l).2=(leftL l.plain).2:=by
 obtain ⟨k,f,t,tm,ix,ws,ok,cm,rd,eo,es,ec,vo,vs,vc,io,im,ic⟩:=l
 unfold leftT leftL Lt.plain
 dsimp only
 repeat' split
 all_goals first | exact ⟨rfl,rfl⟩ | (exfalso;omega) | simp_all
theorem results_cell_row_tmp {P:Program}{fn:Func}{p u:Tmp}{ty:TypeId}(h:fn.results=#[.cell p ty,.tmp u])(tmps:Array Value)(w:World)(g:Nat)(t:TypeId)(cs:Array Value)(fr:Nat × Nat)(d:TypeDesc)(v:Value)
  (hp:tmps.getD p undef=.pointer (some ⟨g,0,none⟩)) (hv:tmps.getD u undef=v) (hg:w.heap[g]?=some (.cells cs t fr))
  (hu:P.underlying ty=some d) (hd:(match d with | .struct _ | .array _ _=>true | _=>false)=true) (hi:(P.info? ty).map (·.size)=some cs.size) :
  (results fn tmps).run P w=.ok (.tuple #[.agg cs,v]) w:=by
 rw [results_cell_tmp h,hp,hv]
 simp [asAddr,run_loadVar_row w g t ty cs fr d hg hu hd hi,Result.andThen]
theorem info_lt:(Tryz.prog.info? 27).map (·.size)=some 12:=by kernel_rfl
theorem left_end {f:Func}{w:World}{A B:Array Value}{b:Bool}{tmps:Array Value}(hf:f.results=#[.cell 2 27,.tmp 3])(hA:B.size=12)(h2:tmps.getD 2 undef=.pointer (some ⟨w.heap.size+1,0,none⟩))(h3:tmps.getD 3 undef=.bool b) :
  bodyPost Tryz.prog f (fun e w'=>e=.returned (.tuple #[.agg B,.bool b])∧Below w.heap.size w w') .ret ⟨tmps,[]⟩ ((w.alloc (.cells A 27)).alloc (.cells B 27)):=by
 have hk:=heap_alloc_new (w.alloc (.cells A 27)) (.cells B 27)
 have hs:(w.alloc (.cells A 27)).heap.size=w.heap.size+1:=by simp
 rw [hs] at hk
 exact bodyPost_ret (results_cell_row_tmp hf tmps _ (w.heap.size+1) _ B _ _ _ h2 h3 hk Tryz.underlying27 rfl (by rw [info_lt,hA])) rfl ⟨rfl,((Below.refl w.heap.size w).alloc (nlr _) _).alloc (by simp) _⟩
set_option maxHeartbeats 4000000 in
theorem lleft_any (kd f t tm ix ws:Int)(ok:Bool)(cm rd:Int)(eo:Option Addr)(en ec:Nat)(vo:Option Addr)(vn vc:Nat)(io:Option Addr)(im ic:Nat)(w:World)(r:Value)(b:Bool)
  (hr:(if kd=1 then (Value.agg #[.int .u8 kd,.int .i64 f,.int .i64 t,.int .i64 tm,.int .i64 0,.int .i64 0,.bool ok,.int .i64 cm,.int .i64 rd,.slice eo en ec,.slice vo vn vc,.slice io im ic],true)
   else if kd=2 then (.agg #[.int .u8 kd,.int .i64 f,.int .i64 t,.int .i64 tm,.int .i64 ix,.int .i64 ws,.bool false,.int .i64 cm,.int .i64 rd,.slice eo en ec,.slice vo vn vc,.slice io im ic],true)
   else if kd=3 then (.agg #[.int .u8 kd,.int .i64 f,.int .i64 t,.int .i64 tm,.int .i64 0,.int .i64 0,.bool ok,.int .i64 0,.int .i64 0,.slice none 0 0,.slice vo vn vc,.slice io im ic],true)
   else if kd=5 then (.agg #[.int .u8 kd,.int .i64 f,.int .i64 t,.int .i64 tm,.int .i64 0,.int .i64 0,.bool ok,.int .i64 cm,.int .i64 0,.slice eo en ec,.slice none 0 0,.slice none 0 0],true)
   else if kd=4 then (.agg #[.int .u8 kd,.int .i64 f,.int .i64 t,.int .i64 tm,.int .i64 0,.int .i64 ws,.bool false,.int .i64 cm,.int .i64 0,.slice eo en ec,.slice vo vn vc,.slice io im ic],true)
   else if kd=6 then (.agg #[.int .u8 kd,.int .i64 f,.int .i64 t,.int .i64 tm,.int .i64 0,.int .i64 ws,.bool ok,.int .i64 cm,.int .i64 0,.slice eo en ec,.slice vo vn vc,.slice io im ic],true)
   else (.agg #[.int .u8 kd,.int .i64 f,.int .i64 t,.int .i64 tm,.int .i64 ix,.int .i64 ws,.bool ok,.int .i64 cm,.int .i64 rd,.slice eo en ec,.slice vo vn vc,.slice io im ic],false))=(r,b)) :
  Calls Tryz.prog 32 #[.agg #[.int .u8 kd,.int .i64 f,.int .i64 t,.int .i64 tm,.int .i64 ix,.int .i64 ws,.bool ok,.int .i64 cm,.int .i64 rd,.slice eo en ec,.slice vo vn vc,.slice io im ic]] w fun e w'=>e=.returned (.tuple #[r,.bool b])∧Below w.heap.size w w':=by
 obtain ⟨OK,hOK⟩:=pair_of ok
 subst hOK
 go_enter Tryz.func32,Tryz.ntmps32
 by_cases h1:kd=1
 ·
  subst h1
  first | rw [if_pos rfl] at hr | skip
  simp only [Prod.mk.injEq] at hr
  obtain ⟨rfl,rfl⟩:=hr
  go_wp2_with fail
  exact left_end rfl rfl rfl rfl
 ·
  have k1:decide (kd=1)=false:=decide_eq_false h1
  rw [if_neg h1] at hr
  by_cases h2:kd=2
  ·
   subst h2
   first | rw [if_pos rfl] at hr | skip
   simp only [Prod.mk.injEq] at hr
   obtain ⟨rfl,rfl⟩:=hr
   go_wp2_with fail
   exact left_end rfl rfl rfl rfl
  ·
   have k2:decide (kd=2)=false:=decide_eq_false h2
   rw [if_neg h2] at hr
   by_cases h3:kd=3
   ·
    subst h3
    first | rw [if_pos rfl] at hr | skip
    simp only [Prod.mk.injEq] at hr
    obtain ⟨rfl,rfl⟩:=hr
    go_wp2_with fail
    exact left_end rfl rfl rfl rfl
   ·
    have k3:decide (kd=3)=false:=decide_eq_false h3
    rw [if_neg h3] at hr
    by_cases h5:kd=5
    ·
     subst h5
     first | rw [if_pos rfl] at hr | skip
     simp only [Prod.mk.injEq] at hr
     obtain ⟨rfl,rfl⟩:=hr
     go_wp2_with fail
     exact left_end rfl rfl rfl rfl
    ·
     have k5:decide (kd=5)=false:=decide_eq_false h5
     rw [if_neg h5] at hr
     by_cases h4:kd=4
     ·
      subst h4
      first | rw [if_pos rfl] at hr | skip
      simp only [Prod.mk.injEq] at hr
      obtain ⟨rfl,rfl⟩:=hr
      go_wp2_with fail
      exact left_end rfl rfl rfl rfl
     ·
      have k4:decide (kd=4)=false:=decide_eq_false h4
      rw [if_neg h4] at hr
      by_cases h6:kd=6
      ·
       subst h6
       first | rw [if_pos rfl] at hr | skip
       simp only [Prod.mk.injEq] at hr
       obtain ⟨rfl,rfl⟩:=hr
       go_wp2_with fail
       exact left_end rfl rfl rfl rfl
      ·
       have k6:decide (kd=6)=false:=decide_eq_false h6
       rw [if_neg h6] at hr
       simp only [Prod.mk.injEq] at hr
       obtain ⟨rfl,rfl⟩:=hr
       go_wp2_with fail
       exact left_end rfl rfl rfl rfl
end Go.Proofs.YtglgcjkglhlggaaGreatDoor
/- Right of letter. Conditions: the letter's parts are not too great. -/
namespace Go.Proofs.YtglgcjkglhlggaaGreatDoor
open Go.RowKit
set_option maxRecDepth 20000
theorem leftT_form (l:Lt):(if l.kind=1 then (Value.agg #[.int .u8 l.kind,.int .i64 l.fr,.int .i64 l.tov,.int .i64 l.term,.int .i64 0,.int .i64 0,.bool l.ok,.int .i64 l.commit,.int .i64 l.round,.slice l.eo l.es.length l.ecap,.slice l.vo l.vs.length l.vcap,.slice l.io l.im.length l.icap],true)
   else if l.kind=2 then (.agg #[.int .u8 l.kind,.int .i64 l.fr,.int .i64 l.tov,.int .i64 l.term,.int .i64 l.index,.int .i64 l.was,.bool false,.int .i64 l.commit,.int .i64 l.round,.slice l.eo l.es.length l.ecap,.slice l.vo l.vs.length l.vcap,.slice l.io l.im.length l.icap],true)
   else if l.kind=3 then (.agg #[.int .u8 l.kind,.int .i64 l.fr,.int .i64 l.tov,.int .i64 l.term,.int .i64 0,.int .i64 0,.bool l.ok,.int .i64 0,.int .i64 0,.slice none 0 0,.slice l.vo l.vs.length l.vcap,.slice l.io l.im.length l.icap],true)
   else if l.kind=5 then (.agg #[.int .u8 l.kind,.int .i64 l.fr,.int .i64 l.tov,.int .i64 l.term,.int .i64 0,.int .i64 0,.bool l.ok,.int .i64 l.commit,.int .i64 0,.slice l.eo l.es.length l.ecap,.slice none 0 0,.slice none 0 0],true)
   else if l.kind=4 then (.agg #[.int .u8 l.kind,.int .i64 l.fr,.int .i64 l.tov,.int .i64 l.term,.int .i64 0,.int .i64 l.was,.bool false,.int .i64 l.commit,.int .i64 0,.slice l.eo l.es.length l.ecap,.slice l.vo l.vs.length l.vcap,.slice l.io l.im.length l.icap],true)
   else if l.kind=6 then (.agg #[.int .u8 l.kind,.int .i64 l.fr,.int .i64 l.tov,.int .i64 l.term,.int .i64 0,.int .i64 l.was,.bool l.ok,.int .i64 l.commit,.int .i64 0,.slice l.eo l.es.length l.ecap,.slice l.vo l.vs.length l.vcap,.slice l.io l.im.length l.icap],true)
   else (.agg #[.int .u8 l.kind,.int .i64 l.fr,.int .i64 l.tov,.int .i64 l.term,.int .i64 l.index,.int .i64 l.was,.bool l.ok,.int .i64 l.commit,.int .i64 l.round,.slice l.eo l.es.length l.ecap,.slice l.vo l.vs.length l.vcap,.slice l.io l.im.length l.icap],false))=(ltVal (leftT l).1,(leftT l).2):=by
 unfold leftT
 repeat' split
 all_goals rfl
def numsOk (l:LtP):Bool:=[l.term,l.was,l.index,l.commit,l.round].all withinN
/-- What a letter must meet, its kind aside. -/
def partsOk (l:LtP):Bool:=numsOk l && (entriesR l.es && (decide (l.vs.length=0) || votersB l.vs))
theorem rightL_eq {l:LtP}(h:1≤l.fr∧l.fr≤9∧1≤l.tov∧l.tov≤9):rightL l=(partsOk l && ((leftL l).2 && noneL (leftL l).1)):=by
 unfold rightL
 rw [if_neg (by omega)]
 show (if partsOk l=false then false else _)=_
 cases partsOk l <;> rfl
theorem rightL_no {l:LtP}(h:l.fr<1∨9<l.fr∨l.tov<1∨9<l.tov):rightL l=false:=by
 unfold rightL
 rw [if_pos h]
set_option maxHeartbeats 8000000 in
theorem lright_any (l:Lt)(w:World)(hx:ltSub w w.heap.size l)(hf:LtFine l)(g:Bool)(hg:rightL l.plain=g) :
  Calls Tryz.prog 9 #[ltVal l] w fun e w'=>e=.returned (.bool g)∧Below w.heap.size w w':=by
 obtain ⟨P,hP⟩:=pair_of g
 rw [hP] at hg ⊢
 have HLF:=Hd (leftT_form l)
 have HLP:=Hd (leftT_plain l)
 obtain ⟨x,hxx⟩:∃ x,(leftT l).1=x:=⟨_,rfl⟩
 obtain ⟨B,hB⟩:=pair_of (leftT l).2
 rw [hxx,hB] at HLF HLP
 have HG:=Hd hg
 have HX:=Hd hx
 have HFN:=Hd hf
 clear hx hf hg hxx hB hP
 obtain ⟨kd,f,t,tm,ix,ws,ok,cm,rd,eo,es,ec,vo,vs,vc,io,ib,ic⟩:=l
 obtain ⟨OK,hOK⟩:=pair_of ok
 subst hOK
 obtain ⟨en,hen⟩:∃ en,es.length=en:=⟨_,rfl⟩
 obtain ⟨vn,hvn⟩:∃ vn,vs.length=vn:=⟨_,rfl⟩
 obtain ⟨im,him⟩:∃ im,ib.length=im:=⟨_,rfl⟩
 have hval:ltVal ⟨kd,f,t,tm,ix,ws,OK.1,cm,rd,eo,es,ec,vo,vs,vc,io,ib,ic⟩=.agg #[.int .u8 kd,.int .i64 f,.int .i64 t,.int .i64 tm,.int .i64 ix,.int .i64 ws,.bool OK.1,.int .i64 cm,.int .i64 rd,.slice eo en ec,.slice vo vn vc,.slice io im ic]:=by rw [← hen,← hvn,← him];rfl
 rw [hval]
 have hlf:=HLF.out
 dsimp only at hlf
 rw [hen,hvn,him] at hlf
 have HLF2:=Hd hlf
 have HEN:=Hd hen
 have HVN:=Hd hvn
 have HIM:=Hd him
 obtain ⟨C,hC⟩:=pair_of (!partsOk (Lt.plain ⟨kd,f,t,tm,ix,ws,OK.1,cm,rd,eo,es,ec,vo,vs,vc,io,ib,ic⟩))
 have HC:=Hd hC
 have hbx:=(Below.refl w.heap.size w).alloc (nlr _) (.cells #[.int .u8 kd,.int .i64 f,.int .i64 t,.int .i64 tm,.int .i64 ix,.int .i64 ws,.bool OK.1,.int .i64 cm,.int .i64 rd,.slice eo en ec,.slice vo vn vc,.slice io im ic] 27)
 have hkx:=heap_alloc_new w (.cells #[.int .u8 kd,.int .i64 f,.int .i64 t,.int .i64 tm,.int .i64 ix,.int .i64 ws,.bool OK.1,.int .i64 cm,.int .i64 rd,.slice eo en ec,.slice vo vn vc,.slice io im ic] 27)
 have hs0:(w.alloc (.cells #[.int .u8 kd,.int .i64 f,.int .i64 t,.int .i64 tm,.int .i64 ix,.int .i64 ws,.bool OK.1,.int .i64 cm,.int .i64 rd,.slice eo en ec,.slice vo vn vc,.slice io im ic] 27)).heap.size=w.heap.size+1:=by simp
 have HBX:=Hd hbx
 have HKX:=Hd hkx
 have HS0:=Hd hs0
 clear hen hvn him hC hbx hkx hs0 hval hlf HLF
 go_enter Tryz.func9,Tryz.ntmps9
 by_cases f1:f<1
 ·
  have hno:=Hd (show P.1=false by rw [← HG.out];exact rightL_no (Or.inl f1))
  go_wp2_with fail
  go_ret
  exact ⟨by rw [hno.out];rfl,HBX.out⟩
 by_cases f2:9<f
 ·
  have hno:=Hd (show P.1=false by rw [← HG.out];exact rightL_no (Or.inr (Or.inl f2)))
  go_wp2_with fail
  go_ret
  exact ⟨by rw [hno.out];rfl,HBX.out⟩
 by_cases t1:t<1
 ·
  have hno:=Hd (show P.1=false by rw [← HG.out];exact rightL_no (Or.inr (Or.inr (Or.inl t1))))
  go_wp2_with fail
  go_ret
  exact ⟨by rw [hno.out];rfl,HBX.out⟩
 by_cases t2:9<t
 ·
  have hno:=Hd (show P.1=false by rw [← HG.out];exact rightL_no (Or.inr (Or.inr (Or.inr t2))))
  go_wp2_with fail
  go_ret
  exact ⟨by rw [hno.out];rfl,HBX.out⟩
 have HG2:=Hd (HG.out.symm.trans (rightL_eq (show 1≤f∧f≤9∧1≤t∧t≤9 by omega)))
 go_upto_region 3 with fail
 have hbx:=HBX.out
 have hkx:=HKX.out
 have hs0:=HS0.out
 clear HBX HKX HS0 HG
 generalize w.alloc (.cells #[.int .u8 kd,.int .i64 f,.int .i64 t,.int .i64 tm,.int .i64 ix,.int .i64 ws,.bool OK.1,.int .i64 cm,.int .i64 rd,.slice eo en ec,.slice vo vn vc,.slice io im ic] 27)=w0 at hbx hkx hs0 ⊢
 have HCC:=Hd (fun w' (h:Below (w.heap.size+1) w0 w') (i:Nat)=>(h.cell (p:=⟨w.heap.size,i,none⟩) (Nat.lt_succ_self _)).trans (cob hkx i))
 have hz0:w.heap.size+1≤w0.heap.size:=Nat.le_of_eq hs0.symm
 clear hkx hs0
 go_cut [53] (fun c wq=>c=.bool C.1∧w.heap.size+1≤wq.heap.size∧Below (w.heap.size+1) w0 wq)
 case first =>
  have hb0:=Below.refl (w.heap.size+1) w0
  have c3:w0.cell? ⟨w.heap.size,3,none⟩=some (.int .i64 tm):=HCC.out _ hb0 3
  have c4:w0.cell? ⟨w.heap.size,4,none⟩=some (.int .i64 ix):=HCC.out _ hb0 4
  have c5:w0.cell? ⟨w.heap.size,5,none⟩=some (.int .i64 ws):=HCC.out _ hb0 5
  have c7:w0.cell? ⟨w.heap.size,7,none⟩=some (.int .i64 cm):=HCC.out _ hb0 7
  have c8:w0.cell? ⟨w.heap.size,8,none⟩=some (.int .i64 rd):=HCC.out _ hb0 8
  have hba:=(Below.refl w0.heap.size w0).alloc (nlr _) (.cells #[.int .i64 tm,.int .i64 ws,.int .i64 ix,.int .i64 cm,.int .i64 rd] 3)
  have HBA:=Hd hba
  clear hba hb0
  go_wp2_with fail
  obtain ⟨PW,hPW⟩:=pair_of ([tm,ws,ix,cm,rd].all withinN)
  have HPW:=Hd hPW
  refine (lwithin_any (some ⟨w0.heap.size,0,none⟩) 5 5 [tm,ws,ix,cm,rd] (w0.alloc (.cells #[.int .i64 tm,.int .i64 ws,.int .i64 ix,.int .i64 cm,.int .i64 rd] 3)) (w0.heap.size+1) rfl (nums_new w0 [tm,ws,ix,cm,rd] _ rfl) (by decide) PW.1 hPW).mono ?_
  clear hPW c3 c4 c5 c7 c8
  rintro e wz ⟨rfl,rfl⟩
  have hbz:=(Below.refl (w.heap.size+1) w0).trans (HBA.out.mono (by omega))
  have hsz:w.heap.size+1≤(w0.alloc (.cells #[.int .i64 tm,.int .i64 ws,.int .i64 ix,.int .i64 cm,.int .i64 rd] 3)).heap.size:=by simp;omega
  clear HBA
  generalize w0.alloc (.cells #[.int .i64 tm,.int .i64 ws,.int .i64 ix,.int .i64 cm,.int .i64 rd] 3)=wz at hbz hsz ⊢
  cases hpw:PW.1 with
  | false =>
   have hcc:=Hd (show C.1=true by
    rw [← HC.out]
    have h1:=HPW.out
    rw [hpw] at h1
    unfold partsOk numsOk Lt.plain
    dsimp only
    rw [h1]
    rfl)
   clear hpw
   go_wp2_with fail
   go_meet
   exact ⟨by first | rfl | rw [hcc.out],hsz,hbz⟩
  | true =>
   have hn1:=Hd (show numsOk (Lt.plain ⟨kd,f,t,tm,ix,ws,OK.1,cm,rd,eo,es,ec,vo,vs,vc,io,ib,ic⟩)=true by
    have h1:=HPW.out
    rw [hpw] at h1
    exact h1)
   have c9:wz.cell? ⟨w.heap.size,9,none⟩=some (.slice eo en ec):=HCC.out _ hbz 9
   clear hpw
   go_wp2_with fail
   obtain ⟨PE,hPE⟩:=pair_of (entriesR (es.map En.plain))
   have HPE:=Hd hPE
   refine (lentries_any eo en ec es wz w.heap.size HEN.out (HX.out.1.below enSub_kept (hbx.trans (hbz.mono (Nat.le_succ _))) (nlr _)) (by omega) HFN.out.es (by have:=HFN.out.en;rw [← HEN.out];dsimp only at this;omega) PE.1 hPE).mono ?_
   clear hPE c9
   rintro e wy ⟨rfl,hby⟩
   have hbz2:=hbz.trans (hby.mono hsz)
   have hsy:=Nat.le_trans hsz hby.size
   clear hby hbz hsz
   cases hpe:PE.1 with
   | false =>
    have hcc:=Hd (show C.1=true by
     rw [← HC.out]
     have h1:=HPE.out
     rw [hpe] at h1
     unfold partsOk
     rw [hn1.out]
     unfold Lt.plain
     dsimp only
     rw [h1]
     rfl)
    clear hpe
    go_wp2_with fail
    go_meet
    exact ⟨by first | rfl | rw [hcc.out],hsy,hbz2⟩
   | true =>
    have c10:wy.cell? ⟨w.heap.size,10,none⟩=some (.slice vo vn vc):=HCC.out _ hbz2 10
    have hcv:=Hd (show C.1=!(decide (vn=0) || votersB vs) by
     rw [← HC.out,← HVN.out]
     have h1:=HPE.out
     rw [hpe] at h1
     unfold partsOk
     rw [hn1.out]
     unfold Lt.plain
     dsimp only
     rw [h1]
     rfl)
    clear hpe
    by_cases hv0:vn=0
    ·
     have hcc:=Hd (show C.1=false by rw [hcv.out];simp [hv0])
     subst hv0
     go_wp2_with fail
     go_meet
     exact ⟨by first | rfl | rw [hcc.out],hsy,hbz2⟩
    ·
     have j1:(0:Int)<vn:=by omega
     have j2:decide ((0:Int)<vn)=true:=decide_eq_true j1
     have j3:0<vn:=by omega
     obtain ⟨PV,hPV⟩:=pair_of (votersB vs)
     have HPV:=Hd hPV
     have hcc:=Hd (show C.1=!PV.1 by rw [hcv.out,← hPV];simp [hv0])
     clear hPV
     go_wp2_with fail
     refine (lvoters_any vo vn vc vs wy w.heap.size HVN.out (HX.out.2.1.below noSub_kept (hbx.trans (hbz2.mono (Nat.le_succ _))) (nlr _)) (by have:=HFN.out.vn;rw [← HVN.out];dsimp only at this;omega) PV.1 HPV.out).mono ?_
     rintro e wv ⟨rfl,rfl⟩
     cases hpv:PV.1 with
     | false =>
      rw [hpv] at hcc
      clear hpv
      go_wp2_with fail
      go_meet
      exact ⟨by first | rfl | (rw [hcc.out];rfl),hsy,hbz2⟩
     | true =>
      rw [hpv] at hcc
      clear hpv
      go_wp2_with fail
      go_meet
      exact ⟨by first | rfl | (rw [hcc.out];rfl),hsy,hbz2⟩
 case rest =>
  obtain ⟨rfl,hsq,hbq⟩:=hcut
  cases hc1:C.1 with
  | true =>
   have hno:=Hd (show P.1=false by
    have h1:=HC.out
    rw [hc1] at h1
    rw [HG2.out]
    have h2:partsOk (Lt.plain ⟨kd,f,t,tm,ix,ws,OK.1,cm,rd,eo,es,ec,vo,vs,vc,io,ib,ic⟩)=false:=by simpa using h1
    rw [h2]
    rfl)
   clear hc1
   go_wp2_with fail
   go_ret
   exact ⟨by rw [hno.out];rfl,hbx.trans (hbq.mono (Nat.le_succ _))⟩
  | false =>
   have c0:wc.cell? ⟨w.heap.size,0,none⟩=some (.int .u8 kd):=HCC.out _ hbq 0
   have c1:wc.cell? ⟨w.heap.size,1,none⟩=some (.int .i64 f):=HCC.out _ hbq 1
   have c2:wc.cell? ⟨w.heap.size,2,none⟩=some (.int .i64 t):=HCC.out _ hbq 2
   have c3:wc.cell? ⟨w.heap.size,3,none⟩=some (.int .i64 tm):=HCC.out _ hbq 3
   have c4:wc.cell? ⟨w.heap.size,4,none⟩=some (.int .i64 ix):=HCC.out _ hbq 4
   have c5:wc.cell? ⟨w.heap.size,5,none⟩=some (.int .i64 ws):=HCC.out _ hbq 5
   have c6:wc.cell? ⟨w.heap.size,6,none⟩=some (.bool OK.1):=HCC.out _ hbq 6
   have c7:wc.cell? ⟨w.heap.size,7,none⟩=some (.int .i64 cm):=HCC.out _ hbq 7
   have c8:wc.cell? ⟨w.heap.size,8,none⟩=some (.int .i64 rd):=HCC.out _ hbq 8
   have c9:wc.cell? ⟨w.heap.size,9,none⟩=some (.slice eo en ec):=HCC.out _ hbq 9
   have c10:wc.cell? ⟨w.heap.size,10,none⟩=some (.slice vo vn vc):=HCC.out _ hbq 10
   have c11:wc.cell? ⟨w.heap.size,11,none⟩=some (.slice io im ic):=HCC.out _ hbq 11
   have HP2:=Hd (show P.1=(B.1 && noneL x.plain) by
    have h1:=HC.out
    rw [hc1] at h1
    have h2:partsOk (Lt.plain ⟨kd,f,t,tm,ix,ws,OK.1,cm,rd,eo,es,ec,vo,vs,vc,io,ib,ic⟩)=true:=by simpa using h1
    rw [HG2.out,h2,HLP.out.1,HLP.out.2]
    rfl)
   clear hc1
   go_wp2_with fail
   refine (lleft_any kd f t tm ix ws OK.1 cm rd eo en ec vo vn vc io im ic wc _ _ HLF2.out).mono ?_
   rintro e w2 ⟨rfl,hb2⟩
   have hb3:=Hd ((hbx.trans (hbq.mono (Nat.le_succ _))).trans (hb2.mono (by omega)))
   have hs2:=hb2.size
   clear hb2 c0 c1 c2 c3 c4 c5 c6 c7 c8 c9 c10 c11 HX HFN HG2 HC HCC HLP HLF2 hbq HEN HVN HIM
   obtain ⟨xk,xf,xt,xtm,xi,xw,xo,xc,xr,xeo,xes,xec,xvo,xvs,xvc,xio,xib,xic⟩:=x
   obtain ⟨XO,hXO⟩:=pair_of xo
   subst hXO
   obtain ⟨xe,hxe⟩:∃ xe,xes.length=xe:=⟨_,rfl⟩
   obtain ⟨xv,hxv⟩:∃ xv,xvs.length=xv:=⟨_,rfl⟩
   obtain ⟨xm,hxm⟩:∃ xm,xib.length=xm:=⟨_,rfl⟩
   have HP:=Hd (show P.1=(B.1 && (decide (xi=0) && (decide (xw=0) && (!XO.1 && (decide (xc=0) && (decide (xr=0) && (decide (xe=0) && (decide (xv=0) && decide (xm=0))))))))) by
    rw [HP2.out,← hxe,← hxv,← hxm]
    unfold noneL Lt.plain
    dsimp only
    rw [List.length_map])
   clear HP2
   simp only [ltVal]
   rw [hxe,hxv,hxm]
   clear hxe hxv hxm
   have hb4:=Hd (hb3.out.trans (((Below.refl w2.heap.size w2).alloc (nlr _) (.cells #[.int .u8 xk,.int .i64 xf,.int .i64 xt,.int .i64 xtm,.int .i64 xi,.int .i64 xw,.bool XO.1,.int .i64 xc,.int .i64 xr,.slice xeo xe xec,.slice xvo xv xvc,.slice xio xm xic] 27)).mono (by omega)))
   clear hb3
   cases hB1:B.1 with
   | false =>
    rw [hB1] at HP
    clear hB1
    have hno:=Hd (show P.1=false by rw [HP.out];rfl)
    go_wp2_with fail
    go_ret
    exact ⟨by rw [hno.out];rfl,hb4.out⟩
   | true =>
   rw [hB1] at HP
   clear hB1
   by_cases hxi:xi=0
   rotate_left
   ·
    have j2:decide (xi=0)=false:=decide_eq_false hxi
    have hno:=Hd (show P.1=false by rw [HP.out];simp [hxi])
    go_wp2_with fail
    go_ret
    exact ⟨by rw [hno.out];rfl,hb4.out⟩
   subst hxi
   by_cases hxw:xw=0
   rotate_left
   ·
    have j2:decide (xw=0)=false:=decide_eq_false hxw
    have hno:=Hd (show P.1=false by rw [HP.out];simp [hxw])
    go_wp2_with fail
    go_ret
    exact ⟨by rw [hno.out];rfl,hb4.out⟩
   subst hxw
   cases hXO:XO.1 with
   | true =>
    rw [hXO] at hb4
    have hno:=Hd (show P.1=false by rw [HP.out,hXO];simp)
    clear hXO
    go_wp2_with fail
    go_ret
    exact ⟨by rw [hno.out];rfl,hb4.out⟩
   | false =>
   rw [hXO] at HP hb4
   clear hXO
   by_cases hxc:xc=0
   rotate_left
   ·
    have j2:decide (xc=0)=false:=decide_eq_false hxc
    have hno:=Hd (show P.1=false by rw [HP.out];simp [hxc])
    go_wp2_with fail
    go_ret
    exact ⟨by rw [hno.out];rfl,hb4.out⟩
   subst hxc
   by_cases hxr:xr=0
   rotate_left
   ·
    have j2:decide (xr=0)=false:=decide_eq_false hxr
    have hno:=Hd (show P.1=false by rw [HP.out];simp [hxr])
    go_wp2_with fail
    go_ret
    exact ⟨by rw [hno.out];rfl,hb4.out⟩
   subst hxr
   by_cases hxe:xe=0
   rotate_left
   ·
    have j1:¬ (xe:Int)=0:=by omega
    have j2:decide ((xe:Int)=0)=false:=decide_eq_false j1
    have j3:((xe:Int) == 0)=false:=by simpa using hxe
    have hno:=Hd (show P.1=false by rw [HP.out];simp [hxe])
    go_wp2_with fail
    go_ret
    exact ⟨by rw [hno.out];rfl,hb4.out⟩
   subst hxe
   by_cases hxv:xv=0
   rotate_left
   ·
    have j1:¬ (xv:Int)=0:=by omega
    have j2:decide ((xv:Int)=0)=false:=decide_eq_false j1
    have j3:((xv:Int) == 0)=false:=by simpa using hxv
    have hno:=Hd (show P.1=false by rw [HP.out];simp [hxv])
    go_wp2_with fail
    go_ret
    exact ⟨by rw [hno.out];rfl,hb4.out⟩
   subst hxv
   by_cases hxm:xm=0
   rotate_left
   ·
    have j1:¬ (xm:Int)=0:=by omega
    have j2:decide ((xm:Int)=0)=false:=decide_eq_false j1
    have j3:((xm:Int) == 0)=false:=by simpa using hxm
    have hno:=Hd (show P.1=false by rw [HP.out];simp [hxm])
    go_wp2_with fail
    go_ret
    exact ⟨by rw [hno.out];rfl,hb4.out⟩
   subst hxm
   have hyes:=Hd (show P.1=true by rw [HP.out];rfl)
   go_wp2_with fail
   go_ret
   exact ⟨by rw [hyes.out];rfl,hb4.out⟩
end Go.Proofs.YtglgcjkglhlggaaGreatDoor
/- Bytes of a call's own, and an append to them. Conditions: as each says. -/
namespace Go.Proofs.YtglgcjkglhlggaaGreatDoor
open Go.RowKit
set_option maxRecDepth 20000
/-- Bytes of a call's own. -/
structure BOwn (w:World) (base:Nat) (a:Option Addr) (n c:Nat) (L:List Int):Prop where
 len:L.length=n
 row:w.ownsRow base 5 1 (.slice a n c) n (L.map bv)
theorem BOwn.below {w w':World}{base n c B:Nat}{a:Option Addr}{L:List Int}(h:BOwn w base a n c L)(hb:Below B w w')(hB:w.heap.size≤B):BOwn w' base a n c L:=⟨h.len,own_below h.row hb hB⟩
theorem BOwn.le {w:World}{base base' n c:Nat}{a:Option Addr}{L:List Int}(h:BOwn w base a n c L)(hB:base'≤base):BOwn w base' a n c L:=⟨h.len,Go.Joins.ownsRow_le h.row hB⟩
theorem BOwn.in {w:World}{base n c:Nat}{a:Option Addr}{L:List Int}(h:BOwn w base a n c L):BytesIn w w.heap.size a L:=own_in h.len h.row
theorem BOwn.nil {w:World}{base n c:Nat}{a:Option Addr}{L:List Int}(h:BOwn w base a n c L):a=none→c=0:=by
 intro ha
 rcases Go.Joins.ownsRow_forms h.row with ⟨h1,_⟩ | ⟨g,c',h1⟩
 · cases h1;rfl
 · rw [ha] at h1;cases h1
theorem BOwn.lt {w:World}{base n c:Nat}{a:Option Addr}{L:List Int}(h:BOwn w base a n c L):∀ g,(Value.slice a n c).ownBlock=some g→base≤g∧g<w.heap.size:=fun g hg=>World.ownsRow.lt h.row g hg
theorem BOwn.lit (w:World)(xs:List Int)(h:xs.length≤1000):BOwn (w.alloc (.cells (xs.map bv).toArray 5)) w.heap.size (some ⟨w.heap.size,0,none⟩) xs.length xs.length xs :=
 ⟨rfl,by
  have h2:xs.length≤maxLen:=by (unfold maxLen;omega)
  exact World.ownsRow_lit w (base:=w.heap.size) (e:=5) (size:=1) (xs.map bv).toArray xs.length (nlr _) h2 (by simp)⟩
def RNew (L:List Int) (w:World) (e:Ending) (w':World):Prop:=∃ a n c,e=.returned (.slice a n c)∧BOwn w' w.heap.size a n c L∧Below w.heap.size w w'
theorem wpList_append_bo {w:World}{ops:Array Oper}{rest:List Oper}{o:Oper}{a:Act}{Q:Exit→Act→World→Prop}(hgd:o.guard=none)(s x:Operand)
  (ho:o.op=.call { callee:=.builtin .append,args:=#[s,x],argTypes:=#[25,25] })
  (base:Nat) {a1:Option Addr} {n1 c1:Nat} {L1:List Int} (hs:a.eval s=.slice a1 n1 c1) (hown:BOwn w base a1 n1 c1 L1)
  {ao:Option Addr} {n cap:Nat} {xs:List Int} (hx:a.eval x=.slice ao n cap) (hn:xs.length=n) (B:Nat) (hin:BytesIn w B ao xs) (hao:ao=none→cap=0) (hlim:n1+n≤140737488351232) (hbase:base≤w.heap.size)
  (h:∀ a2 n2 c2 w',BOwn w' base a2 n2 c2 (L1 ++ xs)→w.grownBy w' (Value.slice a1 n1 c1).ownBlock→n2=n1+n→wpList Tryz.prog ops Q rest (a.put o.dst (.slice a2 n2 c2)) w'):wpList Tryz.prog ops Q (o :: rest) a w:=by
 obtain ⟨rfl,hrow⟩:=hown
 subst hn
 refine wpList_append_bytes hgd s x ho base _ L1 hs hrow ao cap xs hx B hin hao hlim hbase fun v' w' h1 h2=>?_
 obtain ⟨a2,c2,rfl⟩:=row_slice h1
 exact h a2 _ c2 w' ⟨rfl,h1⟩ h2 (by rw [List.length_append])
end Go.Proofs.YtglgcjkglhlggaaGreatDoor
/- Counts and numbers of letters, as bytes. Conditions: as each says. -/
namespace Go.Proofs.YtglgcjkglhlggaaGreatDoor
open Go.RowKit
set_option maxRecDepth 20000
theorem numB4 (n:Nat)(h:n<4294967296):numB 4 (n:Int)=[(n:Int) / 16777216 % 256,(n:Int) / 65536 % 256,(n:Int) / 256 % 256,(n:Int) % 256]:=by
 unfold numB
 simp only [List.range,List.range.loop,List.map_cons,List.map_nil]
 have e0:(2:Int) ^ (8 * (4 - 1 - 0))=16777216:=by decide
 have e1:(2:Int) ^ (8 * (4 - 1 - 1))=65536:=by decide
 have e2:(2:Int) ^ (8 * (4 - 1 - 2))=256:=by decide
 have e3:(2:Int) ^ (8 * (4 - 1 - 3))=1:=by decide
 rw [e0,e1,e2,e3,Int.ediv_one]
theorem lcount_any (n:Nat)(L:List Int)(w:World)(hL:numB 4 (n:Int)=L)(hn:n≤2000000000) :
  Calls Tryz.prog 37 #[.int .i64 (n:Int)] w (RNew L w):=by
 have hl:L=[(n:Int) / 16777216,(n:Int) / 65536 % 256,(n:Int) / 256 % 256,(n:Int) % 256]:=by
  have e:(n:Int) / 16777216 % 256=(n:Int) / 16777216:=by omega
  rw [← hL,numB4 n (by omega),e]
 have HL:=Hd hl
 clear hl hL
 go_enter Tryz.func37,Tryz.ntmps37
 go_wp2_with fail
 go_ret
 have ho:=BOwn.lit w [(n:Int) / 16777216,(n:Int) / 65536 % 256,(n:Int) / 256 % 256,(n:Int) % 256] (by simp)
 rw [← HL.out] at ho
 have h4:L.length=4:=by rw [HL.out];rfl
 rw [h4] at ho
 refine ⟨some ⟨w.heap.size,0,none⟩,4,4,rfl,?_,(Below.refl _ _).alloc (nlr _) _⟩
 rw [HL.out] at ho ⊢
 exact ho
theorem lnumbers_any (ao:Option Addr)(n cap:Nat)(xs:List Int)(L:List Int)(w:World)(B:Nat)(hL:xs.flatMap (numB 8)=L)(hn:xs.length=n)(hx:NumsIn w B ao xs)(hB:B≤w.heap.size)(hl:n≤1000000) :
  Calls Tryz.prog 36 #[.slice ao n cap] w (RNew L w):=by
 have HX:=Hd (hx.mono noSub_rising hB)
 have HN:=Hd hn
 have HL:=Hd hL
 clear hx hn hL
 go_enter Tryz.func36,Tryz.ntmps36
 go_wp2_with fail
 go_loopw [3,8] (fun v i wr=>∃ (k:Nat) (a:Option Addr) (c:Nat),k≤n∧i=.int .i64 k∧v=.slice a (8 * k) c∧BOwn wr w.heap.size a (8 * k) c ((xs.take k).flatMap (numB 8))∧Below w.heap.size w wr) (fun _ i _=>n - (intOf i).toNat)
 case atStart=>exact ⟨0,none,0,by omega,rfl,rfl,⟨rfl,World.ownsRow_nil _ _ _ _⟩,Below.refl _ _⟩
 case round =>
  obtain ⟨k,a,c,hk,rfl,rfl,hown,hbel⟩:=hrel
  have HO:=Hd hown
  have hsz:=hbel.size
  clear hown
  by_cases hlt:k<n
  ·
   have i1:(k:Int)<n:=by omega
   have hkx:xs[k]?=some (xs[k]'(by rw [HN.out];exact hlt)):=List.getElem?_eq_getElem _
   have htk:xs.take (k+1)=xs.take k ++ [xs[k]'(by rw [HN.out];exact hlt)]:=List.take_succ_eq_append_getElem _
   obtain ⟨b,off,hao,hb,hc,_⟩:=HX.out.at hkx
   generalize xs[k]'(by rw [HN.out];exact hlt)=x at hc hkx htk
   have c0:wr.cell? ⟨b,off+k,none⟩=some (.int .i64 x):=by
    have:=hc 0 (by decide)
    rw [Nat.mul_one,Nat.add_zero] at this
    exact (hbel.cell (p:=⟨b,_,none⟩) hb).trans this
   subst hao
   have HT:=Hd htk
   obtain ⟨m,hm⟩:∃ m,8 * k=m:=⟨_,rfl⟩
   have HM:=Hd hm
   rw [hm] at HO ⊢
   clear hc hkx htk hm
   go_wp2_with fail
   refine (number_w x _ wr rfl).mono ?_
   rintro e w2 ⟨a1,c1,rfl,ho1,hb1⟩
   have HO1:=Hd ho1
   have hb2:=hbel.trans (hb1.mono hsz)
   have hz1:=hb1.size
   clear ho1 c0
   go_wp2_with (at_builtin;refine wpList_append_bo rfl (.tmp 12) (.tmp 14) rfl w.heap.size rfl (HO.out.below hb1 (nlr _)) rfl rfl _ (own_bytes' HO1.out) (own_none HO1.out) (by have:=HM.out;rw [numB_len];omega) (by omega) ?_)
   intro a2 n2 c2 w3 hown hg hn2
   have hb3:=hb2.grown hg (by omega) (fun k hk=>(HO.out.lt k hk).1)
   have hn3:n2=8 * (k+1):=by rw [hn2,numB_len,← HM.out];omega
   subst hn3
   have HO2:=Hd (show BOwn w3 w.heap.size a2 (8 * (k+1)) c2 ((xs.take (k+1)).flatMap (numB 8)) by
    rw [HT.out,List.flatMap_append,List.flatMap_singleton];exact hown)
   clear hown hg hn2
   go_wp2_with fail
   go_roundw
   case rel=>exact ⟨k+1,a2,c2,by omega,by go_num,rfl,HO2.out,hb3⟩
   case measure=>simp [intOf] <;> omega
  ·
   have i1:¬ (k:Int)<n:=by omega
   obtain rfl:k=n:=by omega
   go_wp2_with fail
   go_ret
   have hown:=HO.out
   rw [List.take_of_length_le (by rw [HN.out];exact nlr _),HL.out] at hown
   exact ⟨a,_,c,rfl,hown,hbel⟩
end Go.Proofs.YtglgcjkglhlggaaGreatDoor
