/- The marks of ropewalkkit/lent.go: numbers, values, entries. Conditions: the places are not too great. -/
import Derived.Test.YtglgcjkglhlggaaGreatDoorGLetterGets0
import Derived.Test.YtglgcjkglhlggaaGreatDoorGLetterGets14
import Derived.Test.YtglgcjkglhlggaaGreatDoorGLetterGets2
import Derived.StillTailTactics
import Derived.Test.YtglgcjkglhlggaaGreatDoorGLetterGets13
import Derived.Test.YtglgcjkglhlggaaGreatDoorGLetterGets3
import Derived.Test.YtglgcjkglhlggaaGreatDoorGLetterGets1
import Derived.Test.YtglgcjkglhlggaaGreatDoorGLetterGets4
import Derived.Lib.Bytes
import Derived.Deep.MidRow
import Derived.BigFrame
import Derived.Test.YtglgcjkglhlggaaGreatDoorGLetterGets5
import Derived.Test.YtglgcjkglhlggaaGreatDoorGLetterGets9
import Derived.Test.YtglgcjkglhlggaaGreatDoorGLetterGets6
import Derived.Test.YtglgcjkglhlggaaGreatDoorGLetterGets12
import Derived.Maps.AppendAt
import Derived.Test.YtglgcjkglhlggaaGreatDoorGLetterGets11
set_option linter.unusedVariables false
set_option linter.unusedSimpArgs false
namespace Go.Proofs.YtglgcjkglhlggaaGreatDoor
open Go.RowKit
set_option maxRecDepth 20000
def mkI (k i:Nat):List Value:=[.int .i64 (markN k i)]
theorem mkI_len (k i:Nat):(mkI k i).length=1:=rfl
def mkV (k i:Nat):List Value:=[.int .u8 0,.int .i64 (markN k i),.string ByteArray.empty]
theorem mkV_len (k i:Nat):(mkV k i).length=3:=rfl
def mkE (k i:Nat):List Value:=[.int .i64 (markN k i),.int .u8 0,.int .i64 0,.int .i64 0,.int .u8 0,.string ByteArray.empty,.slice none 0 0,.int .i64 0,.slice none 0 0]
theorem mkE_len (k i:Nat):(mkE k i).length=9:=rfl
theorem markI_at (a b:Int)(k i:Nat)(ha:a=k)(hb:b=i)(hk:k≤1000000)(hi:i≤2000000000000)(w:World) :
  Calls Tryz.prog 61 #[.int .i64 a,.int .i64 b] w fun e w'=>e=.returned (.int .i64 (markN k i))∧Below w.heap.size w w' :=
 (mark_at a b k i ha hb hk hi w).mono fun _ _ ⟨h1,h2⟩=>⟨h1,h2 ▸ Below.refl _ _⟩
theorem markV_at (a b:Int)(k i:Nat)(ha:a=k)(hb:b=i)(hk:k≤1000000)(hi:i≤2000000000000)(w:World) :
  Calls Tryz.prog 138 #[.int .i64 a,.int .i64 b] w fun e w'=>e=.returned (.agg #[.int .u8 0,.int .i64 (markN k i),.string ByteArray.empty])∧Below w.heap.size w w':=by
 have hm:0≤markN k i∧markN k i≤4000000000000:=by unfold markN;omega
 have hc:=mark_at a b k i ha hb hk hi
 generalize markN k i=m at hm hc
 have HC:=Hd hc
 clear hc ha hb
 go_enter Tryz.func138,Tryz.ntmps138
 go_wp2_with fail
 refine (HC.out _).mono ?_
 rintro e w' ⟨rfl,rfl⟩
 go_wp2_with fail
 exact bodyPost_ret (v:=.agg #[.int .u8 0,.int .i64 m,.string ByteArray.empty]) (by simp [results,Tryz.results138,go_sem];rfl) rfl ⟨rfl,(Below.refl _ _).alloc (nlr _) _⟩
theorem markE_at (a b:Int)(k i:Nat)(ha:a=k)(hb:b=i)(hk:k≤1000000)(hi:i≤2000000000000)(w:World) :
  Calls Tryz.prog 60 #[.int .i64 a,.int .i64 b] w fun e w'=>e=.returned (.agg #[.int .i64 (markN k i),.int .u8 0,.int .i64 0,.int .i64 0,.int .u8 0,.string ByteArray.empty,.slice none 0 0,.int .i64 0,.slice none 0 0])∧Below w.heap.size w w':=by
 have hm:0≤markN k i∧markN k i≤4000000000000:=by unfold markN;omega
 have hc:=mark_at a b k i ha hb hk hi
 generalize markN k i=m at hm hc
 have HC:=Hd hc
 clear hc ha hb
 go_enter Tryz.func60,Tryz.ntmps60
 go_wp2_with fail
 refine (HC.out _).mono ?_
 rintro e w' ⟨rfl,rfl⟩
 go_wp2_with fail
 exact bodyPost_ret (v:=.agg #[.int .i64 m,.int .u8 0,.int .i64 0,.int .i64 0,.int .u8 0,.string ByteArray.empty,.slice none 0 0,.int .i64 0,.slice none 0 0]) (by simp [results,Tryz.results60,go_sem];rfl) rfl ⟨rfl,(Below.refl _ _).alloc (nlr _) _⟩
theorem markI_is (a b:Int)(k i:Nat)(m:Int)(hm:markN k i=m)(ha:a=k)(hb:b=i)(hk:k≤1000000)(hi:i≤2000000000000)(w:World) :
  Calls Tryz.prog 61 #[.int .i64 a,.int .i64 b] w fun e w'=>e=.returned (.int .i64 m)∧Below w.heap.size w w':=hm ▸ markI_at a b k i ha hb hk hi w
theorem markV_is (a b:Int)(k i:Nat)(m:Int)(hm:markN k i=m)(ha:a=k)(hb:b=i)(hk:k≤1000000)(hi:i≤2000000000000)(w:World) :
  Calls Tryz.prog 138 #[.int .i64 a,.int .i64 b] w fun e w'=>e=.returned (.agg #[.int .u8 0,.int .i64 m,.string ByteArray.empty])∧Below w.heap.size w w':=hm ▸ markV_at a b k i ha hb hk hi w
theorem markE_is (a b:Int)(k i:Nat)(m:Int)(hm:markN k i=m)(ha:a=k)(hb:b=i)(hk:k≤1000000)(hi:i≤2000000000000)(w:World) :
  Calls Tryz.prog 60 #[.int .i64 a,.int .i64 b] w fun e w'=>e=.returned (.agg #[.int .i64 m,.int .u8 0,.int .i64 0,.int .i64 0,.int .u8 0,.string ByteArray.empty,.slice none 0 0,.int .i64 0,.slice none 0 0])∧Below w.heap.size w w':=hm ▸ markE_at a b k i ha hb hk hi w
/-- Equal marks are equal values. -/
theorem eql_mark (t:TypeId)(h:t=58)(n:Int)(w:World):(binOp .eql t (.agg #[.int .u8 0,.int .i64 n,.string ByteArray.empty]) (.agg #[.int .u8 0,.int .i64 n,.string ByteArray.empty])).run Tryz.prog w=.ok (.bool true) w:=by
 subst h
 simp [go_sem,Tryz.underlying58]
/-- Equal marks are the same entries. -/
theorem sameMarkE (n:Int)(w:World):Calls Tryz.prog 63 #[.agg #[.int .i64 n,.int .u8 0,.int .i64 0,.int .i64 0,.int .u8 0,.string ByteArray.empty,.slice none 0 0,.int .i64 0,.slice none 0 0],.agg #[.int .i64 n,.int .u8 0,.int .i64 0,.int .i64 0,.int .u8 0,.string ByteArray.empty,.slice none 0 0,.int .i64 0,.slice none 0 0]] w fun e w'=>e=.returned (.bool true)∧Below w.heap.size w w' :=
 sameE_any ⟨n,0,0,0,0,ByteArray.empty,none,[],0,0,none,[],0⟩ ⟨n,0,0,0,0,ByteArray.empty,none,[],0,0,none,[],0⟩ w w.heap.size rfl ⟨Or.inl rfl,Or.inl rfl⟩ ⟨Or.inl rfl,Or.inl rfl⟩ (nlr _) (by simp) (by simp)
end Go.Proofs.YtglgcjkglhlggaaGreatDoor
/- LentValues, KeptValues, OverValues: a row is copied with marks behind its end; as long as nobody writes there it is found as it was; it is written over. Conditions: the row is not too long. -/
namespace Go.Proofs.YtglgcjkglhlggaaGreatDoor
open Go.RowKit
set_option maxRecDepth 20000
end Go.Proofs.YtglgcjkglhlggaaGreatDoor
/- LentInts, KeptInts, OverInts: a row is copied with marks behind its end; as long as nobody writes there it is found as it was; it is written over. Conditions: the row is not too long. -/
namespace Go.Proofs.YtglgcjkglhlggaaGreatDoor
open Go.RowKit
set_option maxRecDepth 20000
end Go.Proofs.YtglgcjkglhlggaaGreatDoor
/- LentFact, LentCommand, KeptFact, KeptCommand: a thing whose values are copied with marks behind their end; as long as nobody writes there it is found as it was. Conditions: the values lie as their reading says. -/
namespace Go.Proofs.YtglgcjkglhlggaaGreatDoor
open Go.RowKit
set_option maxRecDepth 20000
end Go.Proofs.YtglgcjkglhlggaaGreatDoor
/- The reader of wire: Fact. Conditions: the reader is one that was made. -/
namespace Go.Proofs.YtglgcjkglhlggaaGreatDoor
open Go.RowKit
set_option maxRecDepth 20000
end Go.Proofs.YtglgcjkglhlggaaGreatDoor
/- Rows of facts that the reader of wire reads. Conditions: the reader is one that was made. -/
namespace Go.Proofs.YtglgcjkglhlggaaGreatDoor
open Go.RowKit
set_option maxRecDepth 20000
end Go.Proofs.YtglgcjkglhlggaaGreatDoor
/- The marks of ropewalkkit/lent.go: facts, replies. Conditions: the places are not too great. -/
namespace Go.Proofs.YtglgcjkglhlggaaGreatDoor
open Go.RowKit
set_option maxRecDepth 20000
end Go.Proofs.YtglgcjkglhlggaaGreatDoor
/- LentFacts: a row of facts is copied, each fact's values too, with marks behind all ends; KeptFact. Conditions: the facts lie as their reading says. -/
namespace Go.Proofs.YtglgcjkglhlggaaGreatDoor
open Go.RowKit
set_option maxRecDepth 20000
end Go.Proofs.YtglgcjkglhlggaaGreatDoor
/- A thing of each form among the arguments, with the bounds of what hangs on it. Conditions: it is read as the row reads it, its weights are bounded. -/
namespace Go.Proofs.YtglgcjkglhlggaaGreatDoor
open Go.RowKit Go.ChangeShapes
set_option maxRecDepth 20000
end Go.Proofs.YtglgcjkglhlggaaGreatDoor
/- How much a thing is: plain definitions and laws. No program. Conditions: as each says. -/
namespace Go.Proofs.YtglgcjkglhlggaaGreatDoor
open Go.RowKit
set_option maxRecDepth 20000
end Go.Proofs.YtglgcjkglhlggaaGreatDoor
/- How much values are, and whether they are wholly said: the law's own helpers, walked. Conditions: memory bounds lengths. -/
namespace Go.Proofs.YtglgcjkglhlggaaGreatDoor
open Go.RowKit
set_option maxRecDepth 20000
end Go.Proofs.YtglgcjkglhlggaaGreatDoor
/- How much a thing is: the law's helper great, walked. Conditions: the thing lies in memory as it is read. -/
namespace Go.Proofs.YtglgcjkglhlggaaGreatDoor
open Go.RowKit
set_option maxRecDepth 20000
end Go.Proofs.YtglgcjkglhlggaaGreatDoor
/- A thing's cells, one by one, in every world in which its block stays. Conditions: the block lies as it is read. -/
namespace Go.Proofs.YtglgcjkglhlggaaGreatDoor
open Go.RowKit
set_option maxRecDepth 20000
theorem range_new {w:World}{g o:Nat}:w.rangeAt g o []:=fun j v hv=>by cases j <;> cases hv
theorem range_cons {w:World}{g o:Nat}{v:Value}{vs:List Value}(h:w.cell? ⟨g,o,none⟩=some v)(h2:w.rangeAt g (o+1) vs):w.rangeAt g o (v :: vs):=fun j u hu=>by
 cases j with
 | zero=>simp at hu;subst hu;exact h
 | succ j =>
  have:=h2 j u (by simpa using hu)
  rw [show o+(j+1)=o+1+j by omega]
  exact this
/-- A load of a struct, where the operation is guarded, and wanted. -/
theorem wpList_load_want {P:Program}{ops:Array Oper}{rest:List Oper}{op:Oper}{a:Act}{w:World}{Q:Exit→Act→World→Prop}(hw:Region.wanted op (yielded ops a.tmps)=true)(ty:TypeId)(x:Operand)(ho:op.op=.load ty x)
  (b o:Nat) (hx:a.eval x=.pointer (some ⟨b,o,none⟩)) (cs:List Value) (d:TypeDesc) (hc:w.rangeAt b o cs)
  (hu:P.underlying ty=some d) (hd:d.isRow=true) (hi:(P.info? ty).map (·.size)=some cs.length)
  (h:wpList P ops Q rest (a.put op.dst (.agg cs.toArray)) w):wpList P ops Q (op :: rest) a w :=
 Go.BigFrame.wpList_want hw fun _ hK=>wp_load_mid ty x ho b o hx cs d hc hu hd hi (hK _ _ h)
theorem info_cm:(Tryz.prog.info? 53).map (·.size)=some 4:=by kernel_rfl
theorem info_en:(Tryz.prog.info? 55).map (·.size)=some 9:=by kernel_rfl
/-- The rows that a call made, read. -/
theorem VasOwn.vals {w:World}{base n c:Nat}{a:Option Addr}{xs:List Va}(hn:xs.length=n)(h:VasOwn w base a n c xs):ValsIn w w.heap.size a xs:=own_rowsIn vaCells_len hn h (fun _ _=>trivial)
end Go.Proofs.YtglgcjkglhlggaaGreatDoor
/- KeptFact, KeptCommand, KeptFacts, LentReply, KeptReply, LentEntry, KeptEntry: things that are lent are found as they were, as long as nobody writes behind their ends. Conditions: they lie as their reading says. -/
namespace Go.Proofs.YtglgcjkglhlggaaGreatDoor
open Go.RowKit
set_option maxRecDepth 20000
end Go.Proofs.YtglgcjkglhlggaaGreatDoor
/- SameEntry tells whether two say alike. Conditions: the cells lie as their readings say. -/
namespace Go.Proofs.YtglgcjkglhlggaaGreatDoor
open Go.RowKit
set_option maxRecDepth 20000
set_option maxHeartbeats 8000000 in
theorem sameE_dec (x0 x1 x2 x3 ck:Int)(text:ByteArray)(ao:Option Addr)(n cap:Nat)(xs:List Va)(num:Int)(vo:Option Addr)(p vc:Nat)(vs:List Int)(y0 y1 y2 y3 ck2:Int)(text2:ByteArray)(co:Option Addr)(m cap2:Nat)(ys:List Va)(num2:Int)(vo2:Option Addr)(p2 vc2:Nat)(us:List Int)(w:World)(B:Nat)
  (hn:xs.length=n) (hm:ys.length=m) (hp:vs.length=p) (hp2:us.length=p2) (hx:ValsIn w B ao xs) (hy:ValsIn w B co ys) (hv:NumsIn w B vo vs) (hu:NumsIn w B vo2 us) (hB:B≤w.heap.size) (hl:n≤4611686018427387904) (hl2:m≤4611686018427387904) (hl3:p≤4611686018427387904) (hl4:p2≤4611686018427387904) (g:Bool) (hg:g=true ↔ (⟨x0,x1,x2,x3,ck,text,xs,num,vs⟩:EnP)=⟨y0,y1,y2,y3,ck2,text2,ys,num2,us⟩) :
  Calls Tryz.prog 63 #[.agg #[.int .i64 x0,.int .u8 x1,.int .i64 x2,.int .i64 x3,.int .u8 ck,.string text,.slice ao n cap,.int .i64 num,.slice vo p vc],.agg #[.int .i64 y0,.int .u8 y1,.int .i64 y2,.int .i64 y3,.int .u8 ck2,.string text2,.slice co m cap2,.int .i64 num2,.slice vo2 p2 vc2]] w (DecAt g w):=by
 obtain ⟨hb2,h1,h2,hz2⟩:=alloc2_facts w #[.int .i64 x0,.int .u8 x1,.int .i64 x2,.int .i64 x3,.int .u8 ck,.string text,.slice ao n cap,.int .i64 num,.slice vo p vc] #[.int .i64 y0,.int .u8 y1,.int .i64 y2,.int .i64 y3,.int .u8 ck2,.string text2,.slice co m cap2,.int .i64 num2,.slice vo2 p2 vc2] 55 55
 have HB2:=Hd hb2
 have H1:=Hd h1
 have H2:=Hd h2
 have HZ:=Hd (Nat.le_of_eq hz2.symm)
 have HG:=Hd hg
 have HC:=Hd (fun (w':World) (hb:Below w.heap.size w w') (gg:Bool) (hgg:gg=true ↔ (⟨ck,text,xs,num⟩:CmP)=⟨ck2,text2,ys,num2⟩)=>sameC_dec ck text ao n cap xs num ck2 text2 co m cap2 ys num2 w' B hn hm (hx.below noSub_kept hb hB) (hy.below noSub_kept hb hB) (Nat.le_trans hB hb.size) hl hl2 gg hgg)
 have HI:=Hd (fun (w':World) (hb:Below w.heap.size w w') (gg:Bool) (hgg:decide (vs=us)=gg)=>sameI_dec vo p vc vo2 p2 vc2 vs us w' B hp hp2 (hv.below noSub_kept hb hB) (hu.below noSub_kept hb hB) (Nat.le_trans hB hb.size) hl3 hl4 gg hgg)
 clear hb2 h1 h2 hz2 hg hn hm hx hy hp hp2 hv hu
 go_enter Tryz.func63,Tryz.ntmps63
 go_upto_region 1 with fail
 have hb2:=HB2.out
 have h1:=H1.out
 have h2:=H2.out
 have hz2:=HZ.out
 clear HB2 H1 H2 HZ
 generalize (w.alloc (.cells #[.int .i64 x0,.int .u8 x1,.int .i64 x2,.int .i64 x3,.int .u8 ck,.string text,.slice ao n cap,.int .i64 num,.slice vo p vc] 55)).alloc (.cells #[.int .i64 y0,.int .u8 y1,.int .i64 y2,.int .i64 y3,.int .u8 ck2,.string text2,.slice co m cap2,.int .i64 num2,.slice vo2 p2 vc2] 55)=w2 at hb2 h1 h2 hz2 ⊢
 have H1:=Hd h1
 have H2:=Hd h2
 have HB2:=Hd hb2
 have c0:w2.cell? ⟨w.heap.size,0,none⟩=some (.int .i64 x0):=cob h1 0
 have c1:w2.cell? ⟨w.heap.size,1,none⟩=some (.int .u8 x1):=cob h1 1
 have c2:w2.cell? ⟨w.heap.size,2,none⟩=some (.int .i64 x2):=cob h1 2
 have c3:w2.cell? ⟨w.heap.size,3,none⟩=some (.int .i64 x3):=cob h1 3
 have d0:w2.cell? ⟨w.heap.size+1,0,none⟩=some (.int .i64 y0):=cob h2 0
 have d1:w2.cell? ⟨w.heap.size+1,1,none⟩=some (.int .u8 y1):=cob h2 1
 have d2:w2.cell? ⟨w.heap.size+1,2,none⟩=some (.int .i64 y2):=cob h2 2
 have d3:w2.cell? ⟨w.heap.size+1,3,none⟩=some (.int .i64 y3):=cob h2 3
 have rx0:w2.cell? ⟨w.heap.size,4,none⟩=some (.int .u8 ck):=cob h1 4
 have rx1:w2.cell? ⟨w.heap.size,5,none⟩=some (.string text):=cob h1 5
 have rx2:w2.cell? ⟨w.heap.size,6,none⟩=some (.slice ao n cap):=cob h1 6
 have rx3:w2.cell? ⟨w.heap.size,7,none⟩=some (.int .i64 num):=cob h1 7
 have rx:w2.rangeAt w.heap.size 4 [.int .u8 ck,.string text,.slice ao n cap,.int .i64 num]:=range_cons rx0 (range_cons rx1 (range_cons rx2 (range_cons rx3 range_new)))
 clear rx0 rx1 rx2 rx3
 have ry0:w2.cell? ⟨w.heap.size+1,4,none⟩=some (.int .u8 ck2):=cob h2 4
 have ry1:w2.cell? ⟨w.heap.size+1,5,none⟩=some (.string text2):=cob h2 5
 have ry2:w2.cell? ⟨w.heap.size+1,6,none⟩=some (.slice co m cap2):=cob h2 6
 have ry3:w2.cell? ⟨w.heap.size+1,7,none⟩=some (.int .i64 num2):=cob h2 7
 have ry:w2.rangeAt (w.heap.size+1) 4 [.int .u8 ck2,.string text2,.slice co m cap2,.int .i64 num2]:=range_cons ry0 (range_cons ry1 (range_cons ry2 (range_cons ry3 range_new)))
 clear ry0 ry1 ry2 ry3
 have HRX:=Hd rx
 have HRY:=Hd ry
 clear hb2 h1 h2 rx ry
 by_cases hx0:x0=y0
 rotate_left
 ·
  have hg2:g=false:=no_of HG.out (fun h=>hx0 (by injection h))
  have HG2:=Hd hg2
  have n1:(x0 == y0)=false:=beq_eq_false_iff_ne.2 hx0
  clear hg2
  go_wp2_with fail
  go_ret
  exact ⟨ret_bool HG2.out.symm,HB2.out⟩
 subst hx0
 by_cases hx1:x1=y1
 rotate_left
 ·
  have hg2:g=false:=no_of HG.out (fun h=>hx1 (by injection h))
  have HG2:=Hd hg2
  have n1:(x1 == y1)=false:=beq_eq_false_iff_ne.2 hx1
  clear hg2
  go_wp2_with fail
  go_ret
  exact ⟨ret_bool HG2.out.symm,HB2.out⟩
 subst hx1
 by_cases hx2:x2=y2
 rotate_left
 ·
  have hg2:g=false:=no_of HG.out (fun h=>hx2 (by injection h))
  have HG2:=Hd hg2
  have n1:(x2 == y2)=false:=beq_eq_false_iff_ne.2 hx2
  clear hg2
  go_wp2_with fail
  go_ret
  exact ⟨ret_bool HG2.out.symm,HB2.out⟩
 subst hx2
 by_cases hx3:x3=y3
 rotate_left
 ·
  have hg2:g=false:=no_of HG.out (fun h=>hx3 (by injection h))
  have HG2:=Hd hg2
  have n1:(x3 == y3)=false:=beq_eq_false_iff_ne.2 hx3
  clear hg2
  go_wp2_with fail
  go_ret
  exact ⟨ret_bool HG2.out.symm,HB2.out⟩
 subst hx3
 obtain ⟨gg,hgg⟩:∃ gg:Bool,gg=true ↔ (⟨ck,text,xs,num⟩:CmP)=⟨ck2,text2,ys,num2⟩:=by
  by_cases h:(⟨ck,text,xs,num⟩:CmP)=⟨ck2,text2,ys,num2⟩
  · exact ⟨true,⟨fun _=>h,fun _=>rfl⟩⟩
  · exact ⟨false,⟨fun h2=>(by cases h2),fun h2=>absurd h2 h⟩⟩
 have HGG:=Hd hgg
 clear hgg
 go_wp2_with (first | (refine wpList_load_want (by rfl) 53 (.tmp 32) rfl w.heap.size 4 rfl [.int .u8 ck,.string text,.slice ao n cap,.int .i64 num] _ HRX.out Tryz.underlying53 rfl info_cm ?_) | (refine wpList_load_want (by rfl) 53 (.tmp 34) rfl (w.heap.size+1) 4 rfl [.int .u8 ck2,.string text2,.slice co m cap2,.int .i64 num2] _ HRY.out Tryz.underlying53 rfl info_cm ?_))
 refine (HC.out w2 HB2.out gg HGG.out).mono ?_
 rintro e w3 ⟨rfl,b3⟩
 have k1:=(b3.block w.heap.size (by omega)).trans H1.out
 have k2:=(b3.block (w.heap.size+1) (by omega)).trans H2.out
 have e8:w3.cell? ⟨w.heap.size,8,none⟩=some (.slice vo p vc):=cob k1 8
 have f8:w3.cell? ⟨w.heap.size+1,8,none⟩=some (.slice vo2 p2 vc2):=cob k2 8
 have HB3:=Hd (HB2.out.trans (b3.mono (by omega)))
 clear b3 k1 k2 c0 c1 c2 c3 d0 d1 d2 d3
 cases gg with
 | false =>
  have hg2:g=false:=no_of HG.out (fun h=>by
   have h3:=HGG.out.2 (by injection h with a1 a2 a3 a4 a5 a6 a7 a8 a9;rw [a5,a6,a7,a8])
   cases h3)
  have HG2:=Hd hg2
  clear hg2
  go_wp2_with fail
  go_ret
  exact ⟨ret_bool HG2.out.symm,HB3.out⟩
 | true =>
  have hxy:=HGG.out.1 rfl
  injection hxy with a5 a6 a7 a8
  obtain ⟨gi,hgi⟩:∃ gi,decide (vs=us)=gi:=⟨_,rfl⟩
  have hg2:g=gi:=by
   cases gi with
   | true=>exact HG.out.2 (by rw [a5,a6,a7,a8,of_decide_eq_true hgi])
   | false=>exact no_of HG.out (fun h=>of_decide_eq_false hgi (by injection h))
  have HGI:=Hd hgi
  have HG2:=Hd hg2
  clear a5 a6 a7 a8 hgi hg2
  go_wp2_with fail
  refine (HI.out w3 HB3.out gi HGI.out).mono ?_
  rintro e w4 ⟨rfl,b4⟩
  clear e8 f8
  go_wp2_with fail
  go_ret
  exact ⟨ret_bool HG2.out.symm,HB3.out.trans (b4.mono HB3.out.size)⟩
end Go.Proofs.YtglgcjkglhlggaaGreatDoor
/- The document's answer for letters: within, Voters, count, numbers. Conditions: as each says. -/
namespace Go.Proofs.YtglgcjkglhlggaaGreatDoor
open Go.RowKit
set_option maxRecDepth 20000
theorem rwithin_any (n:Int)(w:World)(g:Bool)(hg:withinN n=g) :
  Calls Tryz.prog 33 #[.int .i64 n] w fun e w'=>e=.returned (.bool g)∧w=w':=by
 obtain ⟨P,hP⟩:=pair_of g
 rw [hP] at hg ⊢
 have HG:=Hd hg
 clear hg hP
 by_cases h1:0≤n
 ·
  by_cases h2:n≤1099511627776
  ·
   have hf:P.1=true:=by rw [← HG.out];exact withinN_iff.2 ⟨h1,h2⟩
   have HF:=Hd hf
   clear hf HG
   go_enter Tryz.func33,Tryz.ntmps33
   go_wp2_with fail
   go_ret
   exact ⟨ret_bool HF.out.symm,rfl⟩
  ·
   have hf:P.1=false:=by rw [← HG.out];exact within_no (fun h=>h2 h.2)
   have HF:=Hd hf
   clear hf HG
   go_enter Tryz.func33,Tryz.ntmps33
   go_wp2_with fail
   go_ret
   exact ⟨ret_bool HF.out.symm,rfl⟩
 ·
  have hf:P.1=false:=by rw [← HG.out];exact within_no (fun h=>h1 h.1)
  have HF:=Hd hf
  clear hf HG
  go_enter Tryz.func33,Tryz.ntmps33
  go_wp2_with fail
  go_ret
  exact ⟨ret_bool HF.out.symm,rfl⟩
theorem rvoters_any (ao:Option Addr)(n cap:Nat)(xs:List Int)(w:World)(B:Nat)(hn:xs.length=n)(hx:NumsIn w B ao xs)(hl:n≤4398046511104)(g:Bool)(hg:votersB xs=g) :
  Calls Tryz.prog 35 #[.slice ao n cap] w fun e w'=>e=.returned (.bool g)∧w=w':=by
 have HX:=Hd hx
 have HN:=Hd hn
 obtain ⟨P,hP⟩:=pair_of g
 rw [hP] at hg
 have HG:=Hd hg
 rw [hP]
 clear hx hn hg hP
 go_enter Tryz.func35,Tryz.ntmps35
 go_wp2_with fail
 go_loopw [3,4] (fun m i wr=>∃ k:Nat,k≤n∧i=.int .i64 k∧m=.int .i64 ((xs.take k).getLastD 0)∧votersGo 0 (xs.take k)=true∧w=wr) (fun _ i _=>n - (intOf i).toNat)
 case atStart=>exact ⟨0,by omega,rfl,rfl,rfl,rfl⟩
 case round =>
  obtain ⟨k,hk,rfl,rfl,hall,rfl⟩:=hrel
  have HA:=Hd hall
  clear hall
  by_cases hlt:k<n
  ·
   have i1:(k:Int)<n:=by omega
   have hkx:xs[k]?=some (xs[k]'(by rw [HN.out];exact hlt)):=List.getElem?_eq_getElem _
   have htk:xs.take (k+1)=xs.take k ++ [xs[k]'(by rw [HN.out];exact hlt)]:=List.take_succ_eq_append_getElem _
   obtain ⟨b,off,hao,hb,hc,_⟩:=HX.out.at hkx
   generalize xs[k]'(by rw [HN.out];exact hlt)=x at hc hkx htk
   have c0:w.cell? ⟨b,off+k,none⟩=some (.int .i64 x):=by
    have:=hc 0 (by decide)
    rw [Nat.mul_one,Nat.add_zero] at this
    exact this
   subst hao
   have HT:=Hd htk
   have hbad:¬ ((xs.take k).getLastD 0<x∧x≤9)→P.1=false:=fun h=>by
    rw [← HG.out]
    cases hh:votersB xs with
    | false=>rfl
    | true =>
     unfold votersB at hh
     rw [Bool.and_eq_true] at hh
     exact absurd (votersGo_take xs 0 k x hkx HA.out hh.1) h
   have HBAD:=Hd hbad
   obtain ⟨q,hq⟩:∃ q,(xs.take k).getLastD 0=q:=⟨_,rfl⟩
   rw [hq] at HBAD
   rw [hq]
   have HQ:=Hd hq
   clear hc hkx htk hbad hq
   by_cases h1:x≤q
   ·
    have hf:=HBAD.out (by omega)
    go_wp2_with fail
    go_ret
    exact ⟨by first | rfl | (rw [hf];rfl),by first | rfl | trivial⟩
   ·
    by_cases h2:9<x
    ·
     have hf:=HBAD.out (by omega)
     go_wp2_with fail
     go_ret
     exact ⟨by first | rfl | (rw [hf];rfl),by first | rfl | trivial⟩
    ·
     have hv:votersGo 0 (xs.take (k+1))=true∧(xs.take (k+1)).getLastD 0=x:=by
      rw [HT.out,votersGo_snoc,HA.out,HQ.out]
      exact ⟨by simp;omega,by simp⟩
     have HV:=Hd hv
     clear hv
     go_wp2_with fail
     go_roundw
     case rel=>exact ⟨k+1,by omega,by go_num,by rw [HV.out.2],HV.out.1,by first | rfl | trivial⟩
     case measure=>simp [intOf] <;> omega
  ·
   have i1:¬ (k:Int)<n:=by omega
   obtain rfl:k=n:=by omega
   have hall:votersGo 0 xs=true:=by
    have:=HA.out
    rwa [List.take_of_length_le (by rw [HN.out];exact nlr _)] at this
   have hfin:P.1=(decide (1≤k) && decide (k≤7)):=by
    rw [← HG.out]
    unfold votersB
    rw [hall,HN.out,Bool.true_and]
   have HF:=Hd hfin
   clear hall hfin
   by_cases h1:1≤k
   ·
    have j1:(1:Int)≤k:=by omega
    by_cases h2:k≤7
    ·
     have j2:(k:Int)≤7:=by omega
     go_wp2_with fail
     go_ret
     exact ⟨by rw [HF.out];simp [h1,h2];done,by first | rfl | trivial⟩
    ·
     have j2:¬ (k:Int)≤7:=by omega
     go_wp2_with fail
     go_ret
     exact ⟨by rw [HF.out];simp [h2];done,by first | rfl | trivial⟩
   ·
    have j1:¬ (1:Int)≤k:=by omega
    go_wp2_with fail
    go_ret
    exact ⟨by rw [HF.out];simp [h1];done,by first | rfl | trivial⟩
end Go.Proofs.YtglgcjkglhlggaaGreatDoor
/- What is written between two marks of the heap, and nothing else. No program. Conditions: as each says. -/
namespace Go.Proofs.YtglgcjkglhlggaaGreatDoor
open Go.RowKit
set_option maxRecDepth 20000
end Go.Proofs.YtglgcjkglhlggaaGreatDoor
/- CopyBytes: bytes of a call's own, and stores among them. Conditions: as each says. -/
namespace Go.Proofs.YtglgcjkglhlggaaGreatDoor
open Go.RowKit
set_option maxRecDepth 20000
theorem own_at {w:World}{base n c:Nat}{ao:Option Addr}{l:List Int}(hn:l.length=n)(h:w.ownsRow base 5 1 (.slice ao n c) n (l.map bv)):BytesIn w w.heap.size ao l:=by
 subst hn
 obtain ⟨a',c',hv,hB⟩:=own_bytes h
 cases hv
 exact hB
end Go.Proofs.YtglgcjkglhlggaaGreatDoor
/- The document's answer for letters: count, numbers. Conditions: as each says. -/
namespace Go.Proofs.YtglgcjkglhlggaaGreatDoor
open Go.RowKit
set_option maxRecDepth 20000
theorem r21count_any (n:Nat)(L:List Int)(w:World)(hL:numB 4 (n:Int)=L)(hn:n≤2000000000) :
  Calls Tryz.prog 45 #[.int .i64 (n:Int)] w (RNew L w):=by
 have hl:L=[(n:Int) / 16777216,(n:Int) / 65536 % 256,(n:Int) / 256 % 256,(n:Int) % 256]:=by
  have e:(n:Int) / 16777216 % 256=(n:Int) / 16777216:=by omega
  rw [← hL,numB4 n (by omega),e]
 have HL:=Hd hl
 clear hl hL
 go_enter Tryz.func45,Tryz.ntmps45
 go_wp2_with fail
 go_ret
 have ho:=BOwn.lit w [(n:Int) / 16777216,(n:Int) / 65536 % 256,(n:Int) / 256 % 256,(n:Int) % 256] (by simp)
 rw [← HL.out] at ho
 have h4:L.length=4:=by rw [HL.out];rfl
 rw [h4] at ho
 refine ⟨some ⟨w.heap.size,0,none⟩,4,4,rfl,?_,(Below.refl _ _).alloc (nlr _) _⟩
 rw [HL.out] at ho ⊢
 exact ho
theorem r21numbers_any (ao:Option Addr)(n cap:Nat)(xs:List Int)(L:List Int)(w:World)(B:Nat)(hL:xs.flatMap (numB 8)=L)(hn:xs.length=n)(hx:NumsIn w B ao xs)(hB:B≤w.heap.size)(hl:n≤1000000) :
  Calls Tryz.prog 44 #[.slice ao n cap] w (RNew L w):=by
 have HX:=Hd (hx.mono noSub_rising hB)
 have HN:=Hd hn
 have HL:=Hd hL
 clear hx hn hL
 go_enter Tryz.func44,Tryz.ntmps44
 go_wp2_with fail
 go_loopw [3,4] (fun v i wr=>∃ (k:Nat) (a:Option Addr) (c:Nat),k≤n∧i=.int .i64 k∧v=.slice a (8 * k) c∧BOwn wr w.heap.size a (8 * k) c ((xs.take k).flatMap (numB 8))∧Below w.heap.size w wr) (fun _ i _=>n - (intOf i).toNat)
 case atStart=>exact ⟨0,none,0,by omega,rfl,rfl,⟨rfl,World.ownsRow_nil _ _ _ _⟩,Below.refl _ _⟩
 case round =>
  obtain ⟨k,a,c,hk,rfl,rfl,hown,hbel⟩:=hrel
  have HO:=Hd hown
  have hsz:=hbel.size
  clear hown
  by_cases hlt:k<n
  ·
   have i1:(k:Int)<n:=by omega
   have hkx:xs[k]?=some (xs[k]'(by rw [HN.out];exact hlt)):=List.getElem?_eq_getElem _
   have htk:xs.take (k+1)=xs.take k ++ [xs[k]'(by rw [HN.out];exact hlt)]:=List.take_succ_eq_append_getElem _
   obtain ⟨b,off,hao,hb,hc,_⟩:=HX.out.at hkx
   generalize xs[k]'(by rw [HN.out];exact hlt)=x at hc hkx htk
   have c0:wr.cell? ⟨b,off+k,none⟩=some (.int .i64 x):=by
    have:=hc 0 (by decide)
    rw [Nat.mul_one,Nat.add_zero] at this
    exact (hbel.cell (p:=⟨b,_,none⟩) hb).trans this
   subst hao
   have HT:=Hd htk
   obtain ⟨m,hm⟩:∃ m,8 * k=m:=⟨_,rfl⟩
   have HM:=Hd hm
   rw [hm] at HO ⊢
   clear hc hkx htk hm
   go_wp2_with fail
   refine (rNumber_any x _ wr rfl).mono ?_
   rintro e w2 ⟨a1,n1,c1,rfl,hbo1,hb1⟩
   have ho1:=hbo1.row
   obtain rfl:8=n1:=by have:=hbo1.len;rw [numB_len] at this;exact this
   have HO1:=Hd ho1
   have hb2:=hbel.trans (hb1.mono hsz)
   have hz1:=hb1.size
   clear ho1 c0
   go_wp2_with (at_builtin;refine wpList_append_bo rfl (.tmp 11) (.tmp 16) rfl w.heap.size rfl (HO.out.below hb1 (nlr _)) rfl (numB_len 8 x) _ (own_at (numB_len 8 x) HO1.out) (own_none HO1.out) (by have:=HM.out;omega) (by omega) ?_)
   intro a2 n2 c2 w3 hown hg hn2
   have hb3:=hb2.grown hg (by omega) (fun k hk=>(HO.out.lt k hk).1)
   have hn3:n2=8 * (k+1):=by rw [hn2,← HM.out];omega
   subst hn3
   have HO2:=Hd (show BOwn w3 w.heap.size a2 (8 * (k+1)) c2 ((xs.take (k+1)).flatMap (numB 8)) by
    rw [HT.out,List.flatMap_append,List.flatMap_singleton];exact hown)
   clear hown hg hn2
   go_wp2_with fail
   go_roundw
   case rel=>exact ⟨k+1,a2,c2,by omega,by go_num,rfl,HO2.out,hb3⟩
   case measure=>simp [intOf] <;> omega
  ·
   have i1:¬ (k:Int)<n:=by omega
   obtain rfl:k=n:=by omega
   go_wp2_with fail
   go_ret
   have hown:=HO.out
   rw [List.take_of_length_le (by rw [HN.out];exact nlr _),HL.out] at hown
   exact ⟨a,_,c,rfl,hown,hbel⟩
end Go.Proofs.YtglgcjkglhlggaaGreatDoor
/- The reader of the document's answer: Command. Conditions: its bytes lie as their reading says. -/
namespace Go.Proofs.YtglgcjkglhlggaaGreatDoor
open Go.RowKit
set_option maxRecDepth 20000
variable {Z:RefZ}
set_option maxHeartbeats 8000000 in
theorem rrCommand_any (M db:Nat)(bad:Bool)(left:List Int)(r:CmP × Bool × List Int)(w:World)(hr:commandS bad left=r)(h:Ref Z w M db bad left)(hw:BytesWf left) :
  Calls Tryz.prog 65 #[.pointer (some ⟨db,0,none⟩)] w fun e w'=>∃ f:Cm,f.plain=r.1∧e=.returned (cmVal f)∧(VasOwn w' w.heap.size f.ao f.args.length f.cap f.args)∧Ref Z w' M db r.2.1 r.2.2∧Only db w w':=by
 have hdb:=h.lt
 have hM:=h.le
 obtain ⟨⟨x0,b_0,l_0⟩,h_0⟩:∃ r,kindS bad left=r:=⟨_,rfl⟩
 have q_0:=kindS_shrinks bad left hw
 rw [h_0] at q_0
 dsimp only at q_0
 have hk0:0≤x0∧x0<256:=by
  have h1:=getN_small (takeS_wf (n:=1) (bad:=bad) (left:=left) hw).1 (takeS_wf (n:=1) (bad:=bad) (left:=left) hw).2.2.1
  have h2:getN (takeS 1 bad left).1=x0:=congrArg Prod.fst h_0
  rw [h2] at h1
  exact h1
 have hu0:IntKind.u8.wrap x0=x0:=by
  unfold IntKind.wrap
  simp [IntKind.signed,IntKind.bits]
  omega
 have hkt0:∀ w1:World,Ref Z w1 M db bad left→Calls Tryz.prog 115 #[.pointer (some ⟨db,0,none⟩),.int .i64 1] w1 (RSaidAt Z M db x0 b_0 l_0 w1):=fun w1 hr=>by
  have h1:=rsaid_any M db 1 bad left w1 hr hw (by omega)
  have h2:getN (takeS 1 bad left).1=x0:=congrArg Prod.fst h_0
  have h3:(takeS 1 bad left).2=(b_0,l_0):=congrArg Prod.snd h_0
  rw [h2,h3] at h1
  exact h1
 have HKT0:=Hd hkt0
 obtain ⟨⟨x1,b_1,l_1⟩,h_1⟩:∃ r,textS b_0 l_0=r:=⟨_,rfl⟩
 have q_1:=textS_shrinks b_0 l_0 q_0.1
 rw [h_1] at q_1
 dsimp only at q_1
 obtain ⟨⟨x3,b_2,l_2⟩,h_2⟩:∃ r,numS b_1 l_1=r:=⟨_,rfl⟩
 have q_2:=numS_shrinks b_1 l_1 q_1.1
 rw [h_2] at q_2
 dsimp only at q_2
 obtain ⟨⟨x2,b_3,l_3⟩,h_3⟩:∃ r,valuesS b_2 l_2=r:=⟨_,rfl⟩
 have q_3:=valuesS_shrinks b_2 l_2 q_2.1
 rw [h_3] at q_3
 dsimp only at q_3
 have HS:=Hd (show (if b_3=true then ⟨0,ByteArray.empty,[],0⟩ else ⟨x0,x1,x2,x3⟩,b_3,l_3)=r by rw [← hr];unfold commandS;dsimp only;simp only [h_0,h_1,h_2,h_3])
 have HH0:=Hd h_0
 have HW0:=Hd q_0.1
 have HH1:=Hd h_1
 have HW1:=Hd q_1.1
 have HH2:=Hd h_2
 have HW2:=Hd q_2.1
 have HH3:=Hd h_3
 have HW3:=Hd q_3.1
 clear hr hw h_0 q_0 hkt0 h_1 q_1 h_2 q_2 h_3 q_3
 have hA:=(Below.refl w.heap.size w).alloc (nlr _) (.cells #[.int .u8 0,.string ⟨#[]⟩,.slice none 0 0,.int .i64 0] 53)
 have hA2:=(Below.refl (w.alloc (.cells #[.int .u8 0,.string ⟨#[]⟩,.slice none 0 0,.int .i64 0] 53)).heap.size (w.alloc (.cells #[.int .u8 0,.string ⟨#[]⟩,.slice none 0 0,.int .i64 0] 53))).alloc (nlr _) (.cells #[.int .u8 0,.string ⟨#[]⟩,.slice none 0 0,.int .i64 0] 53)
 have R0:=Hd ((h.below hA).below hA2)
 have O0:=Hd (((Only.refl db w).alloc (.cells #[.int .u8 0,.string ⟨#[]⟩,.slice none 0 0,.int .i64 0] 53)).alloc (.cells #[.int .u8 0,.string ⟨#[]⟩,.slice none 0 0,.int .i64 0] 53))
 have Z0:=Hd ((hA2.block w.heap.size (by simp)).trans (heap_alloc_new w (.cells #[.int .u8 0,.string ⟨#[]⟩,.slice none 0 0,.int .i64 0] 53)))
 have hG0:=heap_alloc_new (w.alloc (.cells #[.int .u8 0,.string ⟨#[]⟩,.slice none 0 0,.int .i64 0] 53)) (.cells #[.int .u8 0,.string ⟨#[]⟩,.slice none 0 0,.int .i64 0] 53)
 rw [World.size_alloc] at hG0
 have G0:=Hd hG0
 have hz0:w.heap.size+2≤((w.alloc (.cells #[.int .u8 0,.string ⟨#[]⟩,.slice none 0 0,.int .i64 0] 53)).alloc (.cells #[.int .u8 0,.string ⟨#[]⟩,.slice none 0 0,.int .i64 0] 53)).heap.size:=by simp
 clear h hA hA2 hG0
 go_enter Tryz.func65,Tryz.ntmps65
 go_wp2_with fail
 generalize (w.alloc (.cells #[.int .u8 0,.string ⟨#[]⟩,.slice none 0 0,.int .i64 0] 53)).alloc (.cells #[.int .u8 0,.string ⟨#[]⟩,.slice none 0 0,.int .i64 0] 53)=w0 at R0 O0 Z0 G0 hz0 ⊢
 refine (HKT0.out w0 R0.out).mono ?_
 rintro e w1 ⟨rfl,hr,ho⟩
 have R1:=Hd hr
 have O1:=Hd (O0.out.trans ho)
 have hs1:=ho.1
 have hz1:w.heap.size+2≤w1.heap.size:=Nat.le_trans hz0 hs1
 have Z1:=Hd ((ho.2 w.heap.size (by omega) (by omega)).trans Z0.out)
 have G1:=Hd ((ho.2 (w.heap.size+1) (by omega) (by omega)).trans G0.out)
 clear hr ho R0 O0 Z0 G0
 have f0:w1.frozen? ⟨w.heap.size+1,0,none⟩=false:=ufb G1.out 0
 have e0:w1.cell? ⟨w.heap.size+1,0,none⟩=some (.int .u8 0):=cob G1.out 0
 go_wp2_with fail
 have q:(w1.setCell ⟨w.heap.size+1,0,none⟩ (.int .u8 x0)).heap[w.heap.size+1]?=some (.cells #[.int .u8 x0,.string ⟨#[]⟩,.slice none 0 0,.int .i64 0] 53 (0,0)):=(Go.Joins.block_setCell (i:=0) G1.out (.int .u8 x0))
 have r_:Ref Z (w1.setCell ⟨w.heap.size+1,0,none⟩ (.int .u8 x0)) M db b_0 l_0:=(R1.out.other (g:=w.heap.size+1) (i:=0) (by omega) (by omega) (.int .u8 x0))
 have o_:Only db w (w1.setCell ⟨w.heap.size+1,0,none⟩ (.int .u8 x0)):=(O1.out.new (g:=w.heap.size+1) (i:=0) (by omega) (.int .u8 x0))
 have z_:(w1.setCell ⟨w.heap.size+1,0,none⟩ (.int .u8 x0)).heap[w.heap.size]?=some (.cells #[.int .u8 0,.string ⟨#[]⟩,.slice none 0 0,.int .i64 0] 53 (0,0)):=((heap_setCell_other _ ⟨w.heap.size+1,0,none⟩ _ (.int .u8 x0) (show w.heap.size ≠ w.heap.size+1 by omega)).trans Z1.out)
 have hz_:w.heap.size+2≤(w1.setCell ⟨w.heap.size+1,0,none⟩ (.int .u8 x0)).heap.size:=by simpa using hz1
 generalize (w1.setCell ⟨w.heap.size+1,0,none⟩ (.int .u8 x0))=w2 at q r_ o_ z_ hz_  ⊢
 have G2:=Hd q
 have R2:=Hd r_
 have O2:=Hd o_
 have Z2:=Hd z_
 have hz2:w.heap.size+2≤w2.heap.size:=hz_
 clear q r_ o_ z_ hz_  f0 e0 R1 O1 Z1 G1
 refine (rtext_any M db b_0 l_0 x1 b_1 l_1 w2 HH1.out R2.out HW0.out).mono ?_
 rintro e w3 ⟨rfl,hr,ho⟩
 have R3:=Hd hr
 have O3:=Hd (O2.out.trans ho)
 have hs3:=ho.1
 have hz3:w.heap.size+2≤w3.heap.size:=Nat.le_trans hz2 hs3
 have Z3:=Hd ((ho.2 w.heap.size (by omega) (by omega)).trans Z2.out)
 have G3:=Hd ((ho.2 (w.heap.size+1) (by omega) (by omega)).trans G2.out)
 clear hr ho R2 O2 Z2 G2
 have f1:w3.frozen? ⟨w.heap.size+1,1,none⟩=false:=ufb G3.out 1
 have e1:w3.cell? ⟨w.heap.size+1,1,none⟩=some (.string ⟨#[]⟩):=cob G3.out 1
 go_wp2_with fail
 have q:(w3.setCell ⟨w.heap.size+1,1,none⟩ (.string x1)).heap[w.heap.size+1]?=some (.cells #[.int .u8 x0,.string x1,.slice none 0 0,.int .i64 0] 53 (0,0)):=(Go.Joins.block_setCell (i:=1) G3.out (.string x1))
 have r_:Ref Z (w3.setCell ⟨w.heap.size+1,1,none⟩ (.string x1)) M db b_1 l_1:=(R3.out.other (g:=w.heap.size+1) (i:=1) (by omega) (by omega) (.string x1))
 have o_:Only db w (w3.setCell ⟨w.heap.size+1,1,none⟩ (.string x1)):=(O3.out.new (g:=w.heap.size+1) (i:=1) (by omega) (.string x1))
 have z_:(w3.setCell ⟨w.heap.size+1,1,none⟩ (.string x1)).heap[w.heap.size]?=some (.cells #[.int .u8 0,.string ⟨#[]⟩,.slice none 0 0,.int .i64 0] 53 (0,0)):=((heap_setCell_other _ ⟨w.heap.size+1,1,none⟩ _ (.string x1) (show w.heap.size ≠ w.heap.size+1 by omega)).trans Z3.out)
 have hz_:w.heap.size+2≤(w3.setCell ⟨w.heap.size+1,1,none⟩ (.string x1)).heap.size:=by simpa using hz3
 generalize (w3.setCell ⟨w.heap.size+1,1,none⟩ (.string x1))=w4 at q r_ o_ z_ hz_  ⊢
 have G4:=Hd q
 have R4:=Hd r_
 have O4:=Hd o_
 have Z4:=Hd z_
 have hz4:w.heap.size+2≤w4.heap.size:=hz_
 clear q r_ o_ z_ hz_  f1 e1 R3 O3 Z3 G3
 refine (rnum_any M db b_1 l_1 x3 b_2 l_2 w4 HH2.out R4.out HW1.out).mono ?_
 rintro e w5 ⟨rfl,hr,ho⟩
 have R5:=Hd hr
 have O5:=Hd (O4.out.trans ho)
 have hs5:=ho.1
 have hz5:w.heap.size+2≤w5.heap.size:=Nat.le_trans hz4 hs5
 have Z5:=Hd ((ho.2 w.heap.size (by omega) (by omega)).trans Z4.out)
 have G5:=Hd ((ho.2 (w.heap.size+1) (by omega) (by omega)).trans G4.out)
 clear hr ho R4 O4 Z4 G4
 have f3:w5.frozen? ⟨w.heap.size+1,3,none⟩=false:=ufb G5.out 3
 have e3:w5.cell? ⟨w.heap.size+1,3,none⟩=some (.int .i64 0):=cob G5.out 3
 go_wp2_with fail
 have q:(w5.setCell ⟨w.heap.size+1,3,none⟩ (.int .i64 x3)).heap[w.heap.size+1]?=some (.cells #[.int .u8 x0,.string x1,.slice none 0 0,.int .i64 x3] 53 (0,0)):=(Go.Joins.block_setCell (i:=3) G5.out (.int .i64 x3))
 have r_:Ref Z (w5.setCell ⟨w.heap.size+1,3,none⟩ (.int .i64 x3)) M db b_2 l_2:=(R5.out.other (g:=w.heap.size+1) (i:=3) (by omega) (by omega) (.int .i64 x3))
 have o_:Only db w (w5.setCell ⟨w.heap.size+1,3,none⟩ (.int .i64 x3)):=(O5.out.new (g:=w.heap.size+1) (i:=3) (by omega) (.int .i64 x3))
 have z_:(w5.setCell ⟨w.heap.size+1,3,none⟩ (.int .i64 x3)).heap[w.heap.size]?=some (.cells #[.int .u8 0,.string ⟨#[]⟩,.slice none 0 0,.int .i64 0] 53 (0,0)):=((heap_setCell_other _ ⟨w.heap.size+1,3,none⟩ _ (.int .i64 x3) (show w.heap.size ≠ w.heap.size+1 by omega)).trans Z5.out)
 have hz_:w.heap.size+2≤(w5.setCell ⟨w.heap.size+1,3,none⟩ (.int .i64 x3)).heap.size:=by simpa using hz5
 generalize (w5.setCell ⟨w.heap.size+1,3,none⟩ (.int .i64 x3))=w6 at q r_ o_ z_ hz_  ⊢
 have G6:=Hd q
 have R6:=Hd r_
 have O6:=Hd o_
 have Z6:=Hd z_
 have hz6:w.heap.size+2≤w6.heap.size:=hz_
 clear q r_ o_ z_ hz_  f3 e3 R5 O5 Z5 G5
 refine (rvalues_any M db b_2 l_2 x2 b_3 l_3 w6 HH3.out R6.out HW2.out).mono ?_
 rintro e w7 ⟨a2,n2,c2,hn2,rfl,hown,hr,ho⟩
 have N2:=Hd hn2
 have W2_7:=Hd (hown.le (base':=w.heap.size+2) hz6)
 clear hown hn2
 have R7:=Hd hr
 have O7:=Hd (O6.out.trans ho)
 have hs7:=ho.1
 have hz7:w.heap.size+2≤w7.heap.size:=Nat.le_trans hz6 hs7
 have Z7:=Hd ((ho.2 w.heap.size (by omega) (by omega)).trans Z6.out)
 have G7:=Hd ((ho.2 (w.heap.size+1) (by omega) (by omega)).trans G6.out)
 clear hr ho R6 O6 Z6 G6
 have f2:w7.frozen? ⟨w.heap.size+1,2,none⟩=false:=ufb G7.out 2
 have e0:w7.cell? ⟨w.heap.size+1,0,none⟩=some (.int .u8 x0):=cob G7.out 0
 have e1:w7.cell? ⟨w.heap.size+1,1,none⟩=some (.string x1):=cob G7.out 1
 have e2:w7.cell? ⟨w.heap.size+1,2,none⟩=some (.slice none 0 0):=cob G7.out 2
 have e3:w7.cell? ⟨w.heap.size+1,3,none⟩=some (.int .i64 x3):=cob G7.out 3
 have g0:w7.frozen? ⟨w.heap.size,0,none⟩=false:=ufb Z7.out 0
 have g1:w7.frozen? ⟨w.heap.size,1,none⟩=false:=ufb Z7.out 1
 have g2:w7.frozen? ⟨w.heap.size,2,none⟩=false:=ufb Z7.out 2
 have g3:w7.frozen? ⟨w.heap.size,3,none⟩=false:=ufb Z7.out 3
 have hbc:∀ u,(w7.setCell ⟨w.heap.size+1,2,none⟩ u).cell? ⟨db,2,none⟩=some (.bool b_3):=fun u=>(R7.out.other (g:=w.heap.size+1) (i:=2) (by omega) (by omega) u).badCell.1
 have z0:∀ u,(w7.setCell ⟨w.heap.size+1,2,none⟩ u).cell? ⟨w.heap.size,0,none⟩=some (.int .u8 0):=fun u=>cob ((heap_setCell_other _ ⟨w.heap.size+1,2,none⟩ _ u (show w.heap.size ≠ w.heap.size+1 by omega)).trans Z7.out) 0
 have z1:∀ u,(w7.setCell ⟨w.heap.size+1,2,none⟩ u).cell? ⟨w.heap.size,1,none⟩=some (.string ⟨#[]⟩):=fun u=>cob ((heap_setCell_other _ ⟨w.heap.size+1,2,none⟩ _ u (show w.heap.size ≠ w.heap.size+1 by omega)).trans Z7.out) 1
 have z2:∀ u,(w7.setCell ⟨w.heap.size+1,2,none⟩ u).cell? ⟨w.heap.size,2,none⟩=some (.slice none 0 0):=fun u=>cob ((heap_setCell_other _ ⟨w.heap.size+1,2,none⟩ _ u (show w.heap.size ≠ w.heap.size+1 by omega)).trans Z7.out) 2
 have z3:∀ u,(w7.setCell ⟨w.heap.size+1,2,none⟩ u).cell? ⟨w.heap.size,3,none⟩=some (.int .i64 0):=fun u=>cob ((heap_setCell_other _ ⟨w.heap.size+1,2,none⟩ _ u (show w.heap.size ≠ w.heap.size+1 by omega)).trans Z7.out) 3
 cases b_3 with
 | true =>
  go_wp2_with fail
  have q:(((((w7.setCell ⟨w.heap.size+1,2,none⟩ (.slice a2 n2 c2)).setCell ⟨w.heap.size,0,none⟩ (.int .u8 0)).setCell ⟨w.heap.size,1,none⟩ (.string ⟨#[]⟩)).setCell ⟨w.heap.size,2,none⟩ (.slice none 0 0)).setCell ⟨w.heap.size,3,none⟩ (.int .i64 0)).heap[w.heap.size]?=some (.cells #[.int .u8 0,.string ⟨#[]⟩,.slice none 0 0,.int .i64 0] 53 (0,0)):=(Go.Joins.block_setCell (i:=3) (Go.Joins.block_setCell (i:=2) (Go.Joins.block_setCell (i:=1) (Go.Joins.block_setCell (i:=0) ((heap_setCell_other _ ⟨w.heap.size+1,2,none⟩ _ (.slice a2 n2 c2) (show w.heap.size ≠ w.heap.size+1 by omega)).trans Z7.out) (.int .u8 0)) (.string ⟨#[]⟩)) (.slice none 0 0)) (.int .i64 0))
  have r_:Ref Z (((((w7.setCell ⟨w.heap.size+1,2,none⟩ (.slice a2 n2 c2)).setCell ⟨w.heap.size,0,none⟩ (.int .u8 0)).setCell ⟨w.heap.size,1,none⟩ (.string ⟨#[]⟩)).setCell ⟨w.heap.size,2,none⟩ (.slice none 0 0)).setCell ⟨w.heap.size,3,none⟩ (.int .i64 0)) M db _ l_3:=(((((R7.out.other (g:=w.heap.size+1) (i:=2) (by omega) (by omega) (.slice a2 n2 c2)).other (g:=w.heap.size) (i:=0) hM (by omega) (.int .u8 0)).other (g:=w.heap.size) (i:=1) hM (by omega) (.string ⟨#[]⟩)).other (g:=w.heap.size) (i:=2) hM (by omega) (.slice none 0 0)).other (g:=w.heap.size) (i:=3) hM (by omega) (.int .i64 0))
  have o_:Only db w (((((w7.setCell ⟨w.heap.size+1,2,none⟩ (.slice a2 n2 c2)).setCell ⟨w.heap.size,0,none⟩ (.int .u8 0)).setCell ⟨w.heap.size,1,none⟩ (.string ⟨#[]⟩)).setCell ⟨w.heap.size,2,none⟩ (.slice none 0 0)).setCell ⟨w.heap.size,3,none⟩ (.int .i64 0)):=(((((O7.out.new (g:=w.heap.size+1) (i:=2) (by omega) (.slice a2 n2 c2)).new (g:=w.heap.size) (i:=0) (nlr _) (.int .u8 0)).new (g:=w.heap.size) (i:=1) (nlr _) (.string ⟨#[]⟩)).new (g:=w.heap.size) (i:=2) (nlr _) (.slice none 0 0)).new (g:=w.heap.size) (i:=3) (nlr _) (.int .i64 0))
  have v2_:=(((((W2_7.out.only (Only.set (w.heap.size+1) _ 2 (.slice a2 n2 c2)) (by omega)).only (Only.set w.heap.size _ 0 (.int .u8 0)) (by omega)).only (Only.set w.heap.size _ 1 (.string ⟨#[]⟩)) (by omega)).only (Only.set w.heap.size _ 2 (.slice none 0 0)) (by omega)).only (Only.set w.heap.size _ 3 (.int .i64 0)) (by omega))
  generalize (((((w7.setCell ⟨w.heap.size+1,2,none⟩ (.slice a2 n2 c2)).setCell ⟨w.heap.size,0,none⟩ (.int .u8 0)).setCell ⟨w.heap.size,1,none⟩ (.string ⟨#[]⟩)).setCell ⟨w.heap.size,2,none⟩ (.slice none 0 0)).setCell ⟨w.heap.size,3,none⟩ (.int .i64 0))=w99 at q r_ o_ v2_ ⊢
  have d0:w99.cell? ⟨w.heap.size,0,none⟩=some (.int .u8 0):=cob q 0
  have d1:w99.cell? ⟨w.heap.size,1,none⟩=some (.string ⟨#[]⟩):=cob q 1
  have d2:w99.cell? ⟨w.heap.size,2,none⟩=some (.slice none 0 0):=cob q 2
  have d3:w99.cell? ⟨w.heap.size,3,none⟩=some (.int .i64 0):=cob q 3
  have hS:=HS.out
  try simp only [if_true,if_false,Bool.false_eq_true,reduceIte] at hS
  subst hS
  exact bodyPost_ret (v:=.agg #[.int .u8 0,.string ⟨#[]⟩,.slice none 0 0,.int .i64 0]) (by simp [results,Tryz.results65,go_sem,d0,d1,d2,d3]) rfl ⟨⟨0,ByteArray.empty,none,[],0,0⟩,rfl,rfl,VasOwn.nil _ _,r_,o_⟩
 | false =>
  go_wp2_with fail
  have q:(((((w7.setCell ⟨w.heap.size+1,2,none⟩ (.slice a2 n2 c2)).setCell ⟨w.heap.size,0,none⟩ (.int .u8 x0)).setCell ⟨w.heap.size,1,none⟩ (.string x1)).setCell ⟨w.heap.size,2,none⟩ (.slice a2 n2 c2)).setCell ⟨w.heap.size,3,none⟩ (.int .i64 x3)).heap[w.heap.size]?=some (.cells #[.int .u8 x0,.string x1,.slice a2 n2 c2,.int .i64 x3] 53 (0,0)):=(Go.Joins.block_setCell (i:=3) (Go.Joins.block_setCell (i:=2) (Go.Joins.block_setCell (i:=1) (Go.Joins.block_setCell (i:=0) ((heap_setCell_other _ ⟨w.heap.size+1,2,none⟩ _ (.slice a2 n2 c2) (show w.heap.size ≠ w.heap.size+1 by omega)).trans Z7.out) (.int .u8 x0)) (.string x1)) (.slice a2 n2 c2)) (.int .i64 x3))
  have r_:Ref Z (((((w7.setCell ⟨w.heap.size+1,2,none⟩ (.slice a2 n2 c2)).setCell ⟨w.heap.size,0,none⟩ (.int .u8 x0)).setCell ⟨w.heap.size,1,none⟩ (.string x1)).setCell ⟨w.heap.size,2,none⟩ (.slice a2 n2 c2)).setCell ⟨w.heap.size,3,none⟩ (.int .i64 x3)) M db _ l_3:=(((((R7.out.other (g:=w.heap.size+1) (i:=2) (by omega) (by omega) (.slice a2 n2 c2)).other (g:=w.heap.size) (i:=0) hM (by omega) (.int .u8 x0)).other (g:=w.heap.size) (i:=1) hM (by omega) (.string x1)).other (g:=w.heap.size) (i:=2) hM (by omega) (.slice a2 n2 c2)).other (g:=w.heap.size) (i:=3) hM (by omega) (.int .i64 x3))
  have o_:Only db w (((((w7.setCell ⟨w.heap.size+1,2,none⟩ (.slice a2 n2 c2)).setCell ⟨w.heap.size,0,none⟩ (.int .u8 x0)).setCell ⟨w.heap.size,1,none⟩ (.string x1)).setCell ⟨w.heap.size,2,none⟩ (.slice a2 n2 c2)).setCell ⟨w.heap.size,3,none⟩ (.int .i64 x3)):=(((((O7.out.new (g:=w.heap.size+1) (i:=2) (by omega) (.slice a2 n2 c2)).new (g:=w.heap.size) (i:=0) (nlr _) (.int .u8 x0)).new (g:=w.heap.size) (i:=1) (nlr _) (.string x1)).new (g:=w.heap.size) (i:=2) (nlr _) (.slice a2 n2 c2)).new (g:=w.heap.size) (i:=3) (nlr _) (.int .i64 x3))
  have v2_:=(((((W2_7.out.only (Only.set (w.heap.size+1) _ 2 (.slice a2 n2 c2)) (by omega)).only (Only.set w.heap.size _ 0 (.int .u8 x0)) (by omega)).only (Only.set w.heap.size _ 1 (.string x1)) (by omega)).only (Only.set w.heap.size _ 2 (.slice a2 n2 c2)) (by omega)).only (Only.set w.heap.size _ 3 (.int .i64 x3)) (by omega))
  generalize (((((w7.setCell ⟨w.heap.size+1,2,none⟩ (.slice a2 n2 c2)).setCell ⟨w.heap.size,0,none⟩ (.int .u8 x0)).setCell ⟨w.heap.size,1,none⟩ (.string x1)).setCell ⟨w.heap.size,2,none⟩ (.slice a2 n2 c2)).setCell ⟨w.heap.size,3,none⟩ (.int .i64 x3))=w99 at q r_ o_ v2_ ⊢
  have d0:w99.cell? ⟨w.heap.size,0,none⟩=some (.int .u8 x0):=cob q 0
  have d1:w99.cell? ⟨w.heap.size,1,none⟩=some (.string x1):=cob q 1
  have d2:w99.cell? ⟨w.heap.size,2,none⟩=some (.slice a2 n2 c2):=cob q 2
  have d3:w99.cell? ⟨w.heap.size,3,none⟩=some (.int .i64 x3):=cob q 3
  have hS:=HS.out
  try simp only [if_true,if_false,Bool.false_eq_true,reduceIte] at hS
  subst hS
  obtain rfl:=N2.out
  have v29:=v2_.le (base':=w.heap.size) (by omega)
  exact bodyPost_ret (v:=.agg #[.int .u8 x0,.string x1,.slice a2 x2.length c2,.int .i64 x3]) (by simp [results,Tryz.results65,go_sem,d0,d1,d2,d3]) rfl ⟨⟨x0,x1,a2,x2,c2,x3⟩,rfl,rfl,v29,r_,o_⟩
end Go.Proofs.YtglgcjkglhlggaaGreatDoor
/- LentReply, KeptReply, LentEntry, KeptEntry: things that are lent are found as they were, as long as nobody writes behind their ends. Conditions: they lie as their reading says. -/
namespace Go.Proofs.YtglgcjkglhlggaaGreatDoor
open Go.RowKit
set_option maxRecDepth 20000
end Go.Proofs.YtglgcjkglhlggaaGreatDoor
/- LentEntries: a row of entries is copied, each entry's values and voters too, with marks behind all ends. Conditions: the entries lie as their reading says. -/
namespace Go.Proofs.YtglgcjkglhlggaaGreatDoor
open Go.RowKit
set_option maxRecDepth 20000
end Go.Proofs.YtglgcjkglhlggaaGreatDoor
/- KeptEntries: entries that were lent are found as they were. Conditions: they lie as their reading says. -/
namespace Go.Proofs.YtglgcjkglhlggaaGreatDoor
open Go.RowKit
set_option maxRecDepth 20000
end Go.Proofs.YtglgcjkglhlggaaGreatDoor
/- What is written over keeps its shape: blocks between two marks of the heap, of certain types. No program. Conditions: as each says. -/
namespace Go.Proofs.YtglgcjkglhlggaaGreatDoor
open Go.RowKit
set_option maxRecDepth 20000
end Go.Proofs.YtglgcjkglhlggaaGreatDoor
/- OverBytes: a lent row of bytes is written over, the marks behind it, too; nothing else is changed. Conditions: the row is a lent one. -/
namespace Go.Proofs.YtglgcjkglhlggaaGreatDoor
open Go.RowKit
set_option maxRecDepth 20000
theorem overB_any (B g n:Nat)(ys:List Int)(w:World)(h:w.ownsRow B 5 1 (.slice (some ⟨g,0,none⟩) (n+12) (n+12)) (n+12) (ys.map bv))(hn:n≤1099511627776) :
  Calls Tryz.prog 20 #[.slice (some ⟨g,0,none⟩) n (n+12:Nat)] w fun e w'=>e=.returned (.tuple #[])∧w.grownBy w' (some g)∧∃ zs:List Int,w'.ownsRow B 5 1 (.slice (some ⟨g,0,none⟩) (n+12) (n+12)) (n+12) (zs.map bv):=by
 have hyl:ys.length=n+12:=by have:=h.1;simpa using this
 have hsl:∀ w,(Instr.sliceAt 25 (.slice (some ⟨g,0,none⟩) n (n+12)) none (some (.int .i64 ((n:Int)+12))) none).run Tryz.prog w=.ok (.slice (some ⟨g,0,none⟩) (n+12) (n+12)) w:=fun w=>by
  have h1:=run_sub_h sliceByte sizeByte (some ⟨g,0,none⟩) n (n+12) (n+12) (nlr _) .i64 ((n:Int)+12) (by omega) w
  rwa [subA_zero _ _ _ (by intro a ha;cases ha;rfl)] at h1
 have H:=Hd h
 have HY:=Hd hyl
 clear h hyl
 go_enter Tryz.func20,Tryz.ntmps20
 go_wp2_with fail
 clear hsl
 go_loopw [3] (fun i wr=>∃ (k:Nat) (zs:List Int),k≤n+12∧i=.int .i64 k∧zs.length=n+12∧wr.ownsRow B 5 1 (.slice (some ⟨g,0,none⟩) (n+12) (n+12)) (n+12) (zs.map bv)∧w.grownBy wr (some g)) (fun i _=>n+12 - (intOf i).toNat)
 case atStart=>exact ⟨0,ys,by omega,rfl,HY.out,H.out,World.grownBy.refl _ _⟩
 case round =>
  obtain ⟨k,zs,hk,rfl,hzl,hown,hgr⟩:=hrel
  have HO:=Hd hown
  have HZ:=Hd hzl
  clear hown hzl
  by_cases hlt:k<n+12
  ·
   have i1:(k:Int)<(n:Int)+12:=by omega
   have i2:(k:Int)<((n+12:Nat):Int):=by omega
   have hzl:=HZ.out
   have d0:wr.cell? ⟨g,k,none⟩=some (.int .u8 (zs[k]'(by omega))):=by
    rw [oca HO.out k (by omega),List.getElem?_map,List.getElem?_eq_getElem (by omega)]
    rfl
   have f0:wr.frozen? ⟨g,k,none⟩=false:=World.ownsRow.frozenAt HO.out _
   have hst:=World.ownsRow.stored HO.out k (.int .u8 (markBK 2 k))
   have HST:=Hd hst
   generalize (zs[k]'(by omega))=old at d0
   clear hst hzl
   go_wp2_with (go_at_call 49;(with_reducible refine (markBK_at _ _ 2 k (by omega) rfl (by omega) (by omega) _).mono ?_);rintro e w' ⟨rfl,rfl⟩)
   go_roundw
   case rel=>exact ⟨k+1,zs.set k (markBK 2 k),by omega,by go_num,by rw [List.length_set];exact HZ.out,by rw [List.map_set];exact HST.out.1,hgr.trans HST.out.2⟩
   case measure=>simp [intOf];omega
  ·
   obtain rfl:k=n+12:=by omega
   go_wp2_with fail
   go_end0
   exact ⟨rfl,hgr,zs,HO.out⟩
end Go.Proofs.YtglgcjkglhlggaaGreatDoor
/- OverInts, OverValues, OverBytes, OverEntries, OverLetter: what was lent is written over; all keeps its shape, and nothing else is changed. Conditions: the rows have twelve places behind their ends. -/
namespace Go.Proofs.YtglgcjkglhlggaaGreatDoor
open Go.RowKit
set_option maxRecDepth 20000
end Go.Proofs.YtglgcjkglhlggaaGreatDoor
/- Loads of whole structs. No program. Conditions: as each says. -/
namespace Go.Proofs.YtglgcjkglhlggaaGreatDoor
open Go.RowKit
set_option maxRecDepth 20000
theorem load_want {P:Program}{ops:Array Oper}{rest:List Oper}{op:Oper}{a:Act}{w:World}{Q:Exit→Act→World→Prop}(hw:Region.wanted op (yielded ops a.tmps)=true)(ty:TypeId)(x:Operand)(ho:op.op=.load ty x)
  (b o:Nat) (hx:a.eval x=.pointer (some ⟨b,o,none⟩)) (cs:List Value) (d:TypeDesc) (hc:w.rangeAt b o cs)
  (hu:P.underlying ty=some d) (hd:d.isRow=true) (hi:(P.info? ty).map (·.size)=some cs.length)
  (h:wpList P ops Q rest (a.put op.dst (.agg cs.toArray)) w):wpList P ops Q (op :: rest) a w :=
 Go.BigFrame.wpList_want hw fun _ hK=>wp_load_mid ty x ho b o hx cs d hc hu hd hi (hK _ _ h)
theorem rng_block {w:World}{g:Nat}{A:Array Value}{T:TypeId}{fz:Nat × Nat}(h:w.heap[g]?=some (.cells A T fz)):w.rangeAt g 0 A.toList:=fun j v hv=>by
 rw [Nat.zero_add,cob h,← Array.getElem?_toList]
 exact hv
end Go.Proofs.YtglgcjkglhlggaaGreatDoor
/- LentLetter, KeptLetter, OverLetter. Conditions: the letters lie as their readings say. -/
namespace Go.Proofs.YtglgcjkglhlggaaGreatDoor
open Go.RowKit
set_option maxRecDepth 20000
end Go.Proofs.YtglgcjkglhlggaaGreatDoor
