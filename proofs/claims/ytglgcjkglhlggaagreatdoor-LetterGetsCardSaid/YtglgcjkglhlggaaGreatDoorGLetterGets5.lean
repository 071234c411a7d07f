/- The reader of wire: Entry. Conditions: the reader is one that was made. -/
import Derived.Test.YtglgcjkglhlggaaGreatDoorGLetterGets0
import Derived.Test.YtglgcjkglhlggaaGreatDoorGLetterGets4
import Derived.Test.YtglgcjkglhlggaaGreatDoorGLetterGets1
import Derived.Test.YtglgcjkglhlggaaGreatDoorGLetterGets3
import Derived.Test.YtglgcjkglhlggaaGreatDoorGLetterGets2
set_option linter.unusedVariables false
set_option linter.unusedSimpArgs false
namespace Go.Proofs.YtglgcjkglhlggaaGreatDoor
open Go.RowKit
set_option maxRecDepth 20000
set_option maxHeartbeats 1000000 in
theorem sureEntry_rd (M rb:Nat)(bad:Bool)(left:List Int)(x0:Int)(x1:Int)(x2:Int)(x3:Int)(x4:Int)(x5:ByteArray)(a6:Option Addr)(n6 c6:Nat)(x7:Int)(a8:Option Addr)(n8 c8:Nat)(w:World)(h:Rdr w M rb bad left) :
  Calls Tryz.prog 182 #[.pointer (some ⟨rb,0,none⟩),.agg #[.int .i64 x0,.int .u8 x1,.int .i64 x2,.int .i64 x3,.int .u8 x4,.string x5,.slice a6 n6 c6,.int .i64 x7,.slice a8 n8 c8]] w fun e w'=>e=.returned (if bad=true then .agg #[.int .i64 0,.int .u8 0,.int .i64 0,.int .i64 0,.int .u8 0,.string ⟨#[]⟩,.slice none 0 0,.int .i64 0,.slice none 0 0] else .agg #[.int .i64 x0,.int .u8 x1,.int .i64 x2,.int .i64 x3,.int .u8 x4,.string x5,.slice a6 n6 c6,.int .i64 x7,.slice a8 n8 c8])∧Below w.heap.size w w':=by
 obtain ⟨_,_,_,d1,_,_⟩:=h.cells
 have hlt:=h.lt
 have dA:∀ o1 o2 o3,(((w.alloc o1).alloc o2).alloc o3).cell? ⟨rb,1,none⟩=some (.bool bad):=fun o1 o2 o3=>by
  have hb:=(((Below.refl w.heap.size w).alloc (nlr _) o1).alloc (by simp) o2).alloc (by simp;omega) o3
  rw [hb.cell (p:=⟨rb,1,none⟩) hlt];exact d1
 clear h d1
 cases bad with
 | true =>
  go_enter Tryz.func182,Tryz.ntmps182
  go_wp2_with fail
  exact bodyPost_ret (v:=.agg #[.int .i64 0,.int .u8 0,.int .i64 0,.int .i64 0,.int .u8 0,.string ⟨#[]⟩,.slice none 0 0,.int .i64 0,.slice none 0 0]) (by first | (simp [results,Tryz.results182,go_sem];done) | (simp [results,Tryz.results182,go_sem];rfl)) rfl ⟨rfl,(((Below.refl w.heap.size w).alloc (nlr _) _).alloc (by simp) _).alloc (by simp;omega) _⟩
 | false =>
  go_enter Tryz.func182,Tryz.ntmps182
  go_wp2_with fail
  exact bodyPost_ret (v:=.agg #[.int .i64 x0,.int .u8 x1,.int .i64 x2,.int .i64 x3,.int .u8 x4,.string x5,.slice a6 n6 c6,.int .i64 x7,.slice a8 n8 c8]) (by first | (simp [results,Tryz.results182,go_sem];done) | (simp [results,Tryz.results182,go_sem];rfl)) rfl ⟨rfl,(((Below.refl w.heap.size w).alloc (nlr _) _).alloc (by simp) _).alloc (by simp;omega) _⟩
/-- What a Entry that is read is. -/
def GotEn (M rb:Nat) (r:EnP × Bool × List Int) (w:World) (e:Ending) (w':World):Prop :=
 ∃ f:En,f.plain=r.1∧e=.returned (enVal f)∧(VasOwn w' w.heap.size f.aao f.args.length f.acap f.args∧IntsOwn w' w.heap.size f.vao f.vs.length f.vcap f.vs)∧Rdr w' M rb r.2.1 r.2.2∧Only rb w w'
set_option maxHeartbeats 4000000 in
theorem rdEntry_any (M rb:Nat)(bad:Bool)(left:List Int)(r:EnP × Bool × List Int)(w:World)(hr:entryS bad left=r)(h:Rdr w M rb bad left)(hw:BytesWf left)(hl:left.length≤140737488351232) :
  Calls Tryz.prog 112 #[.pointer (some ⟨rb,0,none⟩)] w (GotEn M rb r w):=by
 have hrb:=h.lt
 have hM:M≤w.heap.size:=by obtain ⟨a,c,h⟩:=h;exact h.le
 have hmf:∀ (fn:Fn) (first cap:Array Value) (w:World),(Instr.makeFunc fn first cap).run Tryz.prog w=.ok (.func fn first cap) w:=fun _ _ _ _=>rfl
 obtain ⟨⟨x0,b_0,l_0⟩,h_0⟩:∃ r,numS bad left=r:=⟨_,rfl⟩
 have q_0:=numS_shrinks bad left hw
 rw [h_0] at q_0
 dsimp only at q_0
 obtain ⟨⟨x1,b_1,l_1⟩,h_1⟩:∃ r,kindS b_0 l_0=r:=⟨_,rfl⟩
 have q_1:=kindS_shrinks b_0 l_0 q_0.1
 rw [h_1] at q_1
 dsimp only at q_1
 obtain ⟨⟨x2,b_2,l_2⟩,h_2⟩:∃ r,numS b_1 l_1=r:=⟨_,rfl⟩
 have q_2:=numS_shrinks b_1 l_1 q_1.1
 rw [h_2] at q_2
 dsimp only at q_2
 obtain ⟨⟨x3,b_3,l_3⟩,h_3⟩:∃ r,numS b_2 l_2=r:=⟨_,rfl⟩
 have q_3:=numS_shrinks b_2 l_2 q_2.1
 rw [h_3] at q_3
 dsimp only at q_3
 obtain ⟨⟨xc,b_4,l_4⟩,h_4⟩:∃ r,commandS b_3 l_3=r:=⟨_,rfl⟩
 have q_4:=commandS_shrinks b_3 l_3 q_3.1
 rw [h_4] at q_4
 dsimp only at q_4
 obtain ⟨⟨x8,b_5,l_5⟩,h_5⟩:∃ r,intsS b_4 l_4=r:=⟨_,rfl⟩
 have q_5:=intsS_shrinks b_4 l_4 q_4.1
 rw [h_5] at q_5
 dsimp only at q_5
 have HS:=Hd (show (if b_5=true then ⟨0,0,0,0,0,ByteArray.empty,[],0,[]⟩ else ⟨x0,x1,x2,x3,xc.kind,xc.text,xc.args,xc.num,x8⟩,b_5,l_5)=r by rw [← hr];unfold entryS;dsimp only;simp only [h_0,h_1,h_2,h_3,h_4,h_5])
 have HH0:=Hd h_0
 have HW0:=Hd q_0.1
 have LL0:l_0.length≤140737488351232:=Nat.le_trans q_0.2 hl
 have HH1:=Hd h_1
 have HW1:=Hd q_1.1
 have LL1:l_1.length≤140737488351232:=Nat.le_trans q_1.2 LL0
 have HH2:=Hd h_2
 have HW2:=Hd q_2.1
 have LL2:l_2.length≤140737488351232:=Nat.le_trans q_2.2 LL1
 have HH3:=Hd h_3
 have HW3:=Hd q_3.1
 have LL3:l_3.length≤140737488351232:=Nat.le_trans q_3.2 LL2
 have HH4:=Hd h_4
 have HW4:=Hd q_4.1
 have LL4:l_4.length≤140737488351232:=Nat.le_trans q_4.2 LL3
 have HH5:=Hd h_5
 have HW5:=Hd q_5.1
 have LL5:l_5.length≤140737488351232:=Nat.le_trans q_5.2 LL4
 clear hr h_0 q_0 h_1 q_1 h_2 q_2 h_3 q_3 h_4 q_4 h_5 q_5
 have hA:=(Below.refl w.heap.size w).alloc (nlr _) (.cells #[.int .i64 0,.int .u8 0,.int .i64 0,.int .i64 0,.int .u8 0,.string ⟨#[]⟩,.slice none 0 0,.int .i64 0,.slice none 0 0] 55)
 have R0:=Hd (h.below hA)
 have O0:=Hd ((Only.refl rb w).alloc (.cells #[.int .i64 0,.int .u8 0,.int .i64 0,.int .i64 0,.int .u8 0,.string ⟨#[]⟩,.slice none 0 0,.int .i64 0,.slice none 0 0] 55))
 have Z0:=Hd (heap_alloc_new w (.cells #[.int .i64 0,.int .u8 0,.int .i64 0,.int .i64 0,.int .u8 0,.string ⟨#[]⟩,.slice none 0 0,.int .i64 0,.slice none 0 0] 55))
 have hz0:w.heap.size+1≤(w.alloc (.cells #[.int .i64 0,.int .u8 0,.int .i64 0,.int .i64 0,.int .u8 0,.string ⟨#[]⟩,.slice none 0 0,.int .i64 0,.slice none 0 0] 55)).heap.size:=by simp
 clear h hA
 go_enter Tryz.func112,Tryz.ntmps112
 go_wp2_with fail
 generalize w.alloc (.cells #[.int .i64 0,.int .u8 0,.int .i64 0,.int .i64 0,.int .u8 0,.string ⟨#[]⟩,.slice none 0 0,.int .i64 0,.slice none 0 0] 55)=w0 at R0 O0 Z0 hz0 ⊢
 refine (known_any M rb bad left w0 R0.out).mono ?_
 rintro e wk ⟨rfl,rfl⟩
 go_wp2_with fail
 refine (whole_at M rb bad left x0 b_0 l_0 w0 HH0.out R0.out hw hl).mono ?_
 rintro e w1 ⟨rfl,hr,ho⟩
 have R1:=Hd hr
 have O1:=Hd (O0.out.trans ho)
 have hs1:=ho.1
 have hz1:w.heap.size+1≤w1.heap.size:=Nat.le_trans hz0 hs1
 have Z1:=Hd ((ho.2 w.heap.size (by omega) (by omega)).trans Z0.out)
 clear hr ho R0 O0 Z0
 have hA:=(Below.refl w1.heap.size w1).alloc (nlr _) (.cells #[.int .i64 x0,.int .u8 0,.int .i64 0,.int .i64 0,.int .u8 0,.string ⟨#[]⟩,.slice none 0 0,.int .i64 0,.slice none 0 0] 55)
 have R2:=Hd (R1.out.below hA)
 have O2:=Hd (O1.out.alloc (.cells #[.int .i64 x0,.int .u8 0,.int .i64 0,.int .i64 0,.int .u8 0,.string ⟨#[]⟩,.slice none 0 0,.int .i64 0,.slice none 0 0] 55))
 have Z2:=Hd ((hA.block w.heap.size (by omega)).trans Z1.out)
 have G2:=Hd (heap_alloc_new w1 (.cells #[.int .i64 x0,.int .u8 0,.int .i64 0,.int .i64 0,.int .u8 0,.string ⟨#[]⟩,.slice none 0 0,.int .i64 0,.slice none 0 0] 55))
 have hz2:w1.heap.size+1≤(w1.alloc (.cells #[.int .i64 x0,.int .u8 0,.int .i64 0,.int .i64 0,.int .u8 0,.string ⟨#[]⟩,.slice none 0 0,.int .i64 0,.slice none 0 0] 55)).heap.size:=by simp
 clear hA R1 O1 Z1
 go_wp2_with fail
 generalize w1.alloc (.cells #[.int .i64 x0,.int .u8 0,.int .i64 0,.int .i64 0,.int .u8 0,.string ⟨#[]⟩,.slice none 0 0,.int .i64 0,.slice none 0 0] 55)=w2 at R2 O2 Z2 G2 hz2 ⊢
 refine (kind_at M rb b_0 l_0 x1 b_1 l_1 w2 HH1.out R2.out HW0.out LL0).mono ?_
 rintro e w3 ⟨rfl,hr,ho⟩
 have R3:=Hd hr
 have O3:=Hd (O2.out.trans ho)
 have hs3:=ho.1
 have hz3:w1.heap.size+1≤w3.heap.size:=Nat.le_trans hz2 hs3
 have Z3:=Hd ((ho.2 w.heap.size (by omega) (by omega)).trans Z2.out)
 have G3:=Hd ((ho.2 w1.heap.size (by omega) (by omega)).trans G2.out)
 clear hr ho R2 O2 Z2 G2
 have f1:w3.frozen? ⟨w1.heap.size,1,none⟩=false:=ufb G3.out 1
 have e1:w3.cell? ⟨w1.heap.size,1,none⟩=some (.int .u8 0):=cob G3.out 1
 go_wp2_with fail
 have q:(w3.setCell ⟨w1.heap.size,1,none⟩ (.int .u8 x1)).heap[w1.heap.size]?=some (.cells #[.int .i64 x0,.int .u8 x1,.int .i64 0,.int .i64 0,.int .u8 0,.string ⟨#[]⟩,.slice none 0 0,.int .i64 0,.slice none 0 0] 55 (0,0)):=(Go.Joins.block_setCell (i:=1) G3.out (.int .u8 x1))
 have r_:Rdr (w3.setCell ⟨w1.heap.size,1,none⟩ (.int .u8 x1)) M rb b_1 l_1:=(R3.out.other (g:=w1.heap.size) (i:=1) (by omega) (by omega) (.int .u8 x1))
 have o_:Only rb w (w3.setCell ⟨w1.heap.size,1,none⟩ (.int .u8 x1)):=(O3.out.new (g:=w1.heap.size) (i:=1) (by omega) (.int .u8 x1))
 have z_:(w3.setCell ⟨w1.heap.size,1,none⟩ (.int .u8 x1)).heap[w.heap.size]?=some (.cells #[.int .i64 0,.int .u8 0,.int .i64 0,.int .i64 0,.int .u8 0,.string ⟨#[]⟩,.slice none 0 0,.int .i64 0,.slice none 0 0] 55 (0,0)):=((heap_setCell_other _ _ _ _ (show w.heap.size ≠ w1.heap.size by omega)).trans Z3.out)
 have hz_:w1.heap.size+1≤(w3.setCell ⟨w1.heap.size,1,none⟩ (.int .u8 x1)).heap.size:=by simpa using hz3
 generalize (w3.setCell ⟨w1.heap.size,1,none⟩ (.int .u8 x1))=w4 at q r_ o_ z_ hz_  ⊢
 have G4:=Hd q
 have R4:=Hd r_
 have O4:=Hd o_
 have Z4:=Hd z_
 have hz4:w1.heap.size+1≤w4.heap.size:=hz_
 clear q r_ o_ z_ hz_  f1 e1 R3 O3 Z3 G3
 refine (whole_at M rb b_1 l_1 x2 b_2 l_2 w4 HH2.out R4.out HW1.out LL1).mono ?_
 rintro e w5 ⟨rfl,hr,ho⟩
 have R5:=Hd hr
 have O5:=Hd (O4.out.trans ho)
 have hs5:=ho.1
 have hz5:w1.heap.size+1≤w5.heap.size:=Nat.le_trans hz4 hs5
 have Z5:=Hd ((ho.2 w.heap.size (by omega) (by omega)).trans Z4.out)
 have G5:=Hd ((ho.2 w1.heap.size (by omega) (by omega)).trans G4.out)
 clear hr ho R4 O4 Z4 G4
 go_wp2_with fail
 refine (whole_at M rb b_2 l_2 x3 b_3 l_3 w5 HH3.out R5.out HW2.out LL2).mono ?_
 rintro e w6 ⟨rfl,hr,ho⟩
 have R6:=Hd hr
 have O6:=Hd (O5.out.trans ho)
 have hs6:=ho.1
 have hz6:w1.heap.size+1≤w6.heap.size:=Nat.le_trans hz5 hs6
 have Z6:=Hd ((ho.2 w.heap.size (by omega) (by omega)).trans Z5.out)
 have G6:=Hd ((ho.2 w1.heap.size (by omega) (by omega)).trans G5.out)
 clear hr ho R5 O5 Z5 G5
 have f2:w6.frozen? ⟨w1.heap.size,2,none⟩=false:=ufb G6.out 2
 have f3:w6.frozen? ⟨w1.heap.size,3,none⟩=false:=ufb G6.out 3
 have e2:w6.cell? ⟨w1.heap.size,2,none⟩=some (.int .i64 0):=cob G6.out 2
 have e3:w6.cell? ⟨w1.heap.size,3,none⟩=some (.int .i64 0):=cob G6.out 3
 go_wp2_with fail
 have q:((w6.setCell ⟨w1.heap.size,2,none⟩ (.int .i64 x2)).setCell ⟨w1.heap.size,3,none⟩ (.int .i64 x3)).heap[w1.heap.size]?=some (.cells #[.int .i64 x0,.int .u8 x1,.int .i64 x2,.int .i64 x3,.int .u8 0,.string ⟨#[]⟩,.slice none 0 0,.int .i64 0,.slice none 0 0] 55 (0,0)):=(Go.Joins.block_setCell (i:=3) (Go.Joins.block_setCell (i:=2) G6.out (.int .i64 x2)) (.int .i64 x3))
 have r_:Rdr ((w6.setCell ⟨w1.heap.size,2,none⟩ (.int .i64 x2)).setCell ⟨w1.heap.size,3,none⟩ (.int .i64 x3)) M rb b_3 l_3:=((R6.out.other (g:=w1.heap.size) (i:=2) (by omega) (by omega) (.int .i64 x2)).other (g:=w1.heap.size) (i:=3) (by omega) (by omega) (.int .i64 x3))
 have o_:Only rb w ((w6.setCell ⟨w1.heap.size,2,none⟩ (.int .i64 x2)).setCell ⟨w1.heap.size,3,none⟩ (.int .i64 x3)):=((O6.out.new (g:=w1.heap.size) (i:=2) (by omega) (.int .i64 x2)).new (g:=w1.heap.size) (i:=3) (by omega) (.int .i64 x3))
 have z_:((w6.setCell ⟨w1.heap.size,2,none⟩ (.int .i64 x2)).setCell ⟨w1.heap.size,3,none⟩ (.int .i64 x3)).heap[w.heap.size]?=some (.cells #[.int .i64 0,.int .u8 0,.int .i64 0,.int .i64 0,.int .u8 0,.string ⟨#[]⟩,.slice none 0 0,.int .i64 0,.slice none 0 0] 55 (0,0)):=((heap_setCell_other _ _ _ _ (show w.heap.size ≠ w1.heap.size by omega)).trans ((heap_setCell_other _ _ _ _ (show w.heap.size ≠ w1.heap.size by omega)).trans Z6.out))
 have hz_:w1.heap.size+1≤((w6.setCell ⟨w1.heap.size,2,none⟩ (.int .i64 x2)).setCell ⟨w1.heap.size,3,none⟩ (.int .i64 x3)).heap.size:=by simpa using hz6
 generalize ((w6.setCell ⟨w1.heap.size,2,none⟩ (.int .i64 x2)).setCell ⟨w1.heap.size,3,none⟩ (.int .i64 x3))=w7 at q r_ o_ z_ hz_  ⊢
 have G7:=Hd q
 have R7:=Hd r_
 have O7:=Hd o_
 have Z7:=Hd z_
 have hz7:w1.heap.size+1≤w7.heap.size:=hz_
 clear q r_ o_ z_ hz_  f2 f3 e2 e3 R6 O6 Z6 G6
 refine (rdCommand_any M rb b_3 l_3 (xc,b_4,l_4) w7 HH4.out R7.out HW3.out LL3).mono ?_
 rintro e w8 ⟨⟨x4,x5,a6,x6,c6,x7⟩,hp,he,hown,hr,ho⟩
 dsimp only at hown hr hp
 unfold cmVal at he
 dsimp only at he
 obtain ⟨n6,hn6⟩:∃ n6,x6.length=n6:=⟨_,rfl⟩
 rw [hn6] at he hown
 subst he
 have N6:=Hd hn6
 have NC:=Hd (show xc=(⟨x4,x5,x6,x7⟩:CmP) from hp.symm)
 have W6_8:=Hd hown
 have hbase6:w1.heap.size+1≤w7.heap.size:=hz7
 clear hown hn6 hp
 have R8:=Hd hr
 have O8:=Hd (O7.out.trans ho)
 have hs8:=ho.1
 have hz8:w1.heap.size+1≤w8.heap.size:=Nat.le_trans hz7 hs8
 have Z8:=Hd ((ho.2 w.heap.size (by omega) (by omega)).trans Z7.out)
 have G8:=Hd ((ho.2 w1.heap.size (by omega) (by omega)).trans G7.out)
 clear hr ho R7 O7 Z7 G7
 have f4:w8.frozen? ⟨w1.heap.size,4,none⟩=false:=ufb G8.out 4
 have f5:w8.frozen? ⟨w1.heap.size,5,none⟩=false:=ufb G8.out 5
 have f6:w8.frozen? ⟨w1.heap.size,6,none⟩=false:=ufb G8.out 6
 have f7:w8.frozen? ⟨w1.heap.size,7,none⟩=false:=ufb G8.out 7
 have e4:w8.cell? ⟨w1.heap.size,4,none⟩=some (.int .u8 0):=cob G8.out 4
 have e5:w8.cell? ⟨w1.heap.size,5,none⟩=some (.string ⟨#[]⟩):=cob G8.out 5
 have e6:w8.cell? ⟨w1.heap.size,6,none⟩=some (.slice none 0 0):=cob G8.out 6
 have e7:w8.cell? ⟨w1.heap.size,7,none⟩=some (.int .i64 0):=cob G8.out 7
 go_wp2_with fail
 have q:((((w8.setCell ⟨w1.heap.size,4,none⟩ (.int .u8 x4)).setCell ⟨w1.heap.size,5,none⟩ (.string x5)).setCell ⟨w1.heap.size,6,none⟩ (.slice a6 n6 c6)).setCell ⟨w1.heap.size,7,none⟩ (.int .i64 x7)).heap[w1.heap.size]?=some (.cells #[.int .i64 x0,.int .u8 x1,.int .i64 x2,.int .i64 x3,.int .u8 x4,.string x5,.slice a6 n6 c6,.int .i64 x7,.slice none 0 0] 55 (0,0)):=(Go.Joins.block_setCell (i:=7) (Go.Joins.block_setCell (i:=6) (Go.Joins.block_setCell (i:=5) (Go.Joins.block_setCell (i:=4) G8.out (.int .u8 x4)) (.string x5)) (.slice a6 n6 c6)) (.int .i64 x7))
 have r_:Rdr ((((w8.setCell ⟨w1.heap.size,4,none⟩ (.int .u8 x4)).setCell ⟨w1.heap.size,5,none⟩ (.string x5)).setCell ⟨w1.heap.size,6,none⟩ (.slice a6 n6 c6)).setCell ⟨w1.heap.size,7,none⟩ (.int .i64 x7)) M rb b_4 l_4:=((((R8.out.other (g:=w1.heap.size) (i:=4) (by omega) (by omega) (.int .u8 x4)).other (g:=w1.heap.size) (i:=5) (by omega) (by omega) (.string x5)).other (g:=w1.heap.size) (i:=6) (by omega) (by omega) (.slice a6 n6 c6)).other (g:=w1.heap.size) (i:=7) (by omega) (by omega) (.int .i64 x7))
 have o_:Only rb w ((((w8.setCell ⟨w1.heap.size,4,none⟩ (.int .u8 x4)).setCell ⟨w1.heap.size,5,none⟩ (.string x5)).setCell ⟨w1.heap.size,6,none⟩ (.slice a6 n6 c6)).setCell ⟨w1.heap.size,7,none⟩ (.int .i64 x7)):=((((O8.out.new (g:=w1.heap.size) (i:=4) (by omega) (.int .u8 x4)).new (g:=w1.heap.size) (i:=5) (by omega) (.string x5)).new (g:=w1.heap.size) (i:=6) (by omega) (.slice a6 n6 c6)).new (g:=w1.heap.size) (i:=7) (by omega) (.int .i64 x7))
 have z_:((((w8.setCell ⟨w1.heap.size,4,none⟩ (.int .u8 x4)).setCell ⟨w1.heap.size,5,none⟩ (.string x5)).setCell ⟨w1.heap.size,6,none⟩ (.slice a6 n6 c6)).setCell ⟨w1.heap.size,7,none⟩ (.int .i64 x7)).heap[w.heap.size]?=some (.cells #[.int .i64 0,.int .u8 0,.int .i64 0,.int .i64 0,.int .u8 0,.string ⟨#[]⟩,.slice none 0 0,.int .i64 0,.slice none 0 0] 55 (0,0)):=((heap_setCell_other _ _ _ _ (show w.heap.size ≠ w1.heap.size by omega)).trans ((heap_setCell_other _ _ _ _ (show w.heap.size ≠ w1.heap.size by omega)).trans ((heap_setCell_other _ _ _ _ (show w.heap.size ≠ w1.heap.size by omega)).trans ((heap_setCell_other _ _ _ _ (show w.heap.size ≠ w1.heap.size by omega)).trans Z8.out))))
 have v6_:=((((W6_8.out.only (Only.set w1.heap.size _ 4 (.int .u8 x4)) (by omega)).only (Only.set w1.heap.size _ 5 (.string x5)) (by omega)).only (Only.set w1.heap.size _ 6 (.slice a6 n6 c6)) (by omega)).only (Only.set w1.heap.size _ 7 (.int .i64 x7)) (by omega))
 have hz_:w1.heap.size+1≤((((w8.setCell ⟨w1.heap.size,4,none⟩ (.int .u8 x4)).setCell ⟨w1.heap.size,5,none⟩ (.string x5)).setCell ⟨w1.heap.size,6,none⟩ (.slice a6 n6 c6)).setCell ⟨w1.heap.size,7,none⟩ (.int .i64 x7)).heap.size:=by simpa using hz8
 generalize ((((w8.setCell ⟨w1.heap.size,4,none⟩ (.int .u8 x4)).setCell ⟨w1.heap.size,5,none⟩ (.string x5)).setCell ⟨w1.heap.size,6,none⟩ (.slice a6 n6 c6)).setCell ⟨w1.heap.size,7,none⟩ (.int .i64 x7))=w9 at q r_ o_ z_ hz_ v6_ ⊢
 have G9:=Hd q
 have R9:=Hd r_
 have O9:=Hd o_
 have Z9:=Hd z_
 have hz9:w1.heap.size+1≤w9.heap.size:=hz_
 have W6_9:=Hd v6_
 clear q r_ o_ z_ hz_ v6_ f4 f5 f6 f7 e4 e5 e6 e7 R8 O8 Z8 G8 W6_8
 refine (rowI_at M rb b_4 l_4 x8 b_5 l_5 w9 HH5.out R9.out HW4.out LL4).mono ?_
 rintro e w10 ⟨a8,n8,c8,hn8,rfl,hown,hr,ho⟩
 have N8:=Hd hn8
 have W8_10:=Hd hown
 have hbase8:w1.heap.size+1≤w9.heap.size:=hz9
 clear hown hn8
 have R10:=Hd hr
 have O10:=Hd (O9.out.trans ho)
 have hs10:=ho.1
 have hz10:w1.heap.size+1≤w10.heap.size:=Nat.le_trans hz9 hs10
 have Z10:=Hd ((ho.2 w.heap.size (by omega) (by omega)).trans Z9.out)
 have G10:=Hd ((ho.2 w1.heap.size (by omega) (by omega)).trans G9.out)
 have W6_10:=Hd (W6_9.out.only ho (by omega))
 clear hr ho R9 O9 Z9 G9 W6_9
 have f8:w10.frozen? ⟨w1.heap.size,8,none⟩=false:=ufb G10.out 8
 have e0:w10.cell? ⟨w1.heap.size,0,none⟩=some (.int .i64 x0):=cob G10.out 0
 have e1:w10.cell? ⟨w1.heap.size,1,none⟩=some (.int .u8 x1):=cob G10.out 1
 have e2:w10.cell? ⟨w1.heap.size,2,none⟩=some (.int .i64 x2):=cob G10.out 2
 have e3:w10.cell? ⟨w1.heap.size,3,none⟩=some (.int .i64 x3):=cob G10.out 3
 have e4:w10.cell? ⟨w1.heap.size,4,none⟩=some (.int .u8 x4):=cob G10.out 4
 have e5:w10.cell? ⟨w1.heap.size,5,none⟩=some (.string x5):=cob G10.out 5
 have e6:w10.cell? ⟨w1.heap.size,6,none⟩=some (.slice a6 n6 c6):=cob G10.out 6
 have e7:w10.cell? ⟨w1.heap.size,7,none⟩=some (.int .i64 x7):=cob G10.out 7
 have e8:w10.cell? ⟨w1.heap.size,8,none⟩=some (.slice none 0 0):=cob G10.out 8
 go_wp2_with fail
 have q:(w10.setCell ⟨w1.heap.size,8,none⟩ (.slice a8 n8 c8)).heap[w1.heap.size]?=some (.cells #[.int .i64 x0,.int .u8 x1,.int .i64 x2,.int .i64 x3,.int .u8 x4,.string x5,.slice a6 n6 c6,.int .i64 x7,.slice a8 n8 c8] 55 (0,0)):=(Go.Joins.block_setCell (i:=8) G10.out (.slice a8 n8 c8))
 have r_:Rdr (w10.setCell ⟨w1.heap.size,8,none⟩ (.slice a8 n8 c8)) M rb b_5 l_5:=(R10.out.other (g:=w1.heap.size) (i:=8) (by omega) (by omega) (.slice a8 n8 c8))
 have o_:Only rb w (w10.setCell ⟨w1.heap.size,8,none⟩ (.slice a8 n8 c8)):=(O10.out.new (g:=w1.heap.size) (i:=8) (by omega) (.slice a8 n8 c8))
 have z_:(w10.setCell ⟨w1.heap.size,8,none⟩ (.slice a8 n8 c8)).heap[w.heap.size]?=some (.cells #[.int .i64 0,.int .u8 0,.int .i64 0,.int .i64 0,.int .u8 0,.string ⟨#[]⟩,.slice none 0 0,.int .i64 0,.slice none 0 0] 55 (0,0)):=((heap_setCell_other _ _ _ _ (show w.heap.size ≠ w1.heap.size by omega)).trans Z10.out)
 have v6_:=(W6_10.out.only (Only.set w1.heap.size _ 8 (.slice a8 n8 c8)) (by omega))
 have v8_:=(W8_10.out.only (Only.set w1.heap.size _ 8 (.slice a8 n8 c8)) (by omega))
 have hz_:w1.heap.size+1≤(w10.setCell ⟨w1.heap.size,8,none⟩ (.slice a8 n8 c8)).heap.size:=by simpa using hz10
 generalize (w10.setCell ⟨w1.heap.size,8,none⟩ (.slice a8 n8 c8))=w11 at q r_ o_ z_ hz_ v6_ v8_ ⊢
 have G11:=Hd q
 have R11:=Hd r_
 have O11:=Hd o_
 have Z11:=Hd z_
 have hz11:w1.heap.size+1≤w11.heap.size:=hz_
 have W6_11:=Hd v6_
 have W8_11:=Hd v8_
 clear q r_ o_ z_ hz_ v6_ v8_ f8 e0 e1 e2 e3 e4 e5 e6 e7 e8 R10 O10 Z10 G10 W6_10 W8_10
 refine (sureEntry_rd M rb b_5 l_5 x0 x1 x2 x3 x4 x5 a6 n6 c6 x7 a8 n8 c8 w11 R11.out).mono ?_
 rintro e w12 ⟨he,hb⟩
 have R12:=Hd (R11.out.below hb)
 have O12:=Hd (O11.out.trans (Only.of_below hb))
 have Z12:=Hd ((hb.block w.heap.size (by omega)).trans Z11.out)
 have hz12:w1.heap.size+1≤w12.heap.size:=Nat.le_trans hz11 hb.size
 have W6_12:=Hd (W6_11.out.below hb (nlr _))
 have W8_12:=Hd (W8_11.out.below hb (nlr _))
 clear hb R11 O11 Z11 G11 W6_11 W8_11
 have z0:w12.cell? ⟨w.heap.size,0,none⟩=some (.int .i64 0):=cob Z12.out 0
 have g0:w12.frozen? ⟨w.heap.size,0,none⟩=false:=ufb Z12.out 0
 have z1:w12.cell? ⟨w.heap.size,1,none⟩=some (.int .u8 0):=cob Z12.out 1
 have g1:w12.frozen? ⟨w.heap.size,1,none⟩=false:=ufb Z12.out 1
 have z2:w12.cell? ⟨w.heap.size,2,none⟩=some (.int .i64 0):=cob Z12.out 2
 have g2:w12.frozen? ⟨w.heap.size,2,none⟩=false:=ufb Z12.out 2
 have z3:w12.cell? ⟨w.heap.size,3,none⟩=some (.int .i64 0):=cob Z12.out 3
 have g3:w12.frozen? ⟨w.heap.size,3,none⟩=false:=ufb Z12.out 3
 have z4:w12.cell? ⟨w.heap.size,4,none⟩=some (.int .u8 0):=cob Z12.out 4
 have g4:w12.frozen? ⟨w.heap.size,4,none⟩=false:=ufb Z12.out 4
 have z5:w12.cell? ⟨w.heap.size,5,none⟩=some (.string ⟨#[]⟩):=cob Z12.out 5
 have g5:w12.frozen? ⟨w.heap.size,5,none⟩=false:=ufb Z12.out 5
 have z6:w12.cell? ⟨w.heap.size,6,none⟩=some (.slice none 0 0):=cob Z12.out 6
 have g6:w12.frozen? ⟨w.heap.size,6,none⟩=false:=ufb Z12.out 6
 have z7:w12.cell? ⟨w.heap.size,7,none⟩=some (.int .i64 0):=cob Z12.out 7
 have g7:w12.frozen? ⟨w.heap.size,7,none⟩=false:=ufb Z12.out 7
 have z8:w12.cell? ⟨w.heap.size,8,none⟩=some (.slice none 0 0):=cob Z12.out 8
 have g8:w12.frozen? ⟨w.heap.size,8,none⟩=false:=ufb Z12.out 8
 cases b_5 with
 | true =>
  rw [if_pos rfl] at he
  subst he
  go_wp2_with fail
  have q:(((((((((w12.setCell ⟨w.heap.size,0,none⟩ (.int .i64 0)).setCell ⟨w.heap.size,1,none⟩ (.int .u8 0)).setCell ⟨w.heap.size,2,none⟩ (.int .i64 0)).setCell ⟨w.heap.size,3,none⟩ (.int .i64 0)).setCell ⟨w.heap.size,4,none⟩ (.int .u8 0)).setCell ⟨w.heap.size,5,none⟩ (.string ⟨#[]⟩)).setCell ⟨w.heap.size,6,none⟩ (.slice none 0 0)).setCell ⟨w.heap.size,7,none⟩ (.int .i64 0)).setCell ⟨w.heap.size,8,none⟩ (.slice none 0 0)).heap[w.heap.size]?=some (.cells #[.int .i64 0,.int .u8 0,.int .i64 0,.int .i64 0,.int .u8 0,.string ⟨#[]⟩,.slice none 0 0,.int .i64 0,.slice none 0 0] 55 (0,0)):=(Go.Joins.block_setCell (i:=8) (Go.Joins.block_setCell (i:=7) (Go.Joins.block_setCell (i:=6) (Go.Joins.block_setCell (i:=5) (Go.Joins.block_setCell (i:=4) (Go.Joins.block_setCell (i:=3) (Go.Joins.block_setCell (i:=2) (Go.Joins.block_setCell (i:=1) (Go.Joins.block_setCell (i:=0) Z12.out (.int .i64 0)) (.int .u8 0)) (.int .i64 0)) (.int .i64 0)) (.int .u8 0)) (.string ⟨#[]⟩)) (.slice none 0 0)) (.int .i64 0)) (.slice none 0 0))
  have r_:Rdr (((((((((w12.setCell ⟨w.heap.size,0,none⟩ (.int .i64 0)).setCell ⟨w.heap.size,1,none⟩ (.int .u8 0)).setCell ⟨w.heap.size,2,none⟩ (.int .i64 0)).setCell ⟨w.heap.size,3,none⟩ (.int .i64 0)).setCell ⟨w.heap.size,4,none⟩ (.int .u8 0)).setCell ⟨w.heap.size,5,none⟩ (.string ⟨#[]⟩)).setCell ⟨w.heap.size,6,none⟩ (.slice none 0 0)).setCell ⟨w.heap.size,7,none⟩ (.int .i64 0)).setCell ⟨w.heap.size,8,none⟩ (.slice none 0 0)) M rb _ l_5:=(((((((((R12.out.other (g:=w.heap.size) (i:=0) hM (by omega) (.int .i64 0)).other (g:=w.heap.size) (i:=1) hM (by omega) (.int .u8 0)).other (g:=w.heap.size) (i:=2) hM (by omega) (.int .i64 0)).other (g:=w.heap.size) (i:=3) hM (by omega) (.int .i64 0)).other (g:=w.heap.size) (i:=4) hM (by omega) (.int .u8 0)).other (g:=w.heap.size) (i:=5) hM (by omega) (.string ⟨#[]⟩)).other (g:=w.heap.size) (i:=6) hM (by omega) (.slice none 0 0)).other (g:=w.heap.size) (i:=7) hM (by omega) (.int .i64 0)).other (g:=w.heap.size) (i:=8) hM (by omega) (.slice none 0 0))
  have o_:Only rb w (((((((((w12.setCell ⟨w.heap.size,0,none⟩ (.int .i64 0)).setCell ⟨w.heap.size,1,none⟩ (.int .u8 0)).setCell ⟨w.heap.size,2,none⟩ (.int .i64 0)).setCell ⟨w.heap.size,3,none⟩ (.int .i64 0)).setCell ⟨w.heap.size,4,none⟩ (.int .u8 0)).setCell ⟨w.heap.size,5,none⟩ (.string ⟨#[]⟩)).setCell ⟨w.heap.size,6,none⟩ (.slice none 0 0)).setCell ⟨w.heap.size,7,none⟩ (.int .i64 0)).setCell ⟨w.heap.size,8,none⟩ (.slice none 0 0)):=(((((((((O12.out.new (g:=w.heap.size) (i:=0) (nlr _) (.int .i64 0)).new (g:=w.heap.size) (i:=1) (nlr _) (.int .u8 0)).new (g:=w.heap.size) (i:=2) (nlr _) (.int .i64 0)).new (g:=w.heap.size) (i:=3) (nlr _) (.int .i64 0)).new (g:=w.heap.size) (i:=4) (nlr _) (.int .u8 0)).new (g:=w.heap.size) (i:=5) (nlr _) (.string ⟨#[]⟩)).new (g:=w.heap.size) (i:=6) (nlr _) (.slice none 0 0)).new (g:=w.heap.size) (i:=7) (nlr _) (.int .i64 0)).new (g:=w.heap.size) (i:=8) (nlr _) (.slice none 0 0))
  have v6_:=(((((((((W6_12.out.only (Only.set w.heap.size _ 0 (.int .i64 0)) (by omega)).only (Only.set w.heap.size _ 1 (.int .u8 0)) (by omega)).only (Only.set w.heap.size _ 2 (.int .i64 0)) (by omega)).only (Only.set w.heap.size _ 3 (.int .i64 0)) (by omega)).only (Only.set w.heap.size _ 4 (.int .u8 0)) (by omega)).only (Only.set w.heap.size _ 5 (.string ⟨#[]⟩)) (by omega)).only (Only.set w.heap.size _ 6 (.slice none 0 0)) (by omega)).only (Only.set w.heap.size _ 7 (.int .i64 0)) (by omega)).only (Only.set w.heap.size _ 8 (.slice none 0 0)) (by omega))
  have v8_:=(((((((((W8_12.out.only (Only.set w.heap.size _ 0 (.int .i64 0)) (by omega)).only (Only.set w.heap.size _ 1 (.int .u8 0)) (by omega)).only (Only.set w.heap.size _ 2 (.int .i64 0)) (by omega)).only (Only.set w.heap.size _ 3 (.int .i64 0)) (by omega)).only (Only.set w.heap.size _ 4 (.int .u8 0)) (by omega)).only (Only.set w.heap.size _ 5 (.string ⟨#[]⟩)) (by omega)).only (Only.set w.heap.size _ 6 (.slice none 0 0)) (by omega)).only (Only.set w.heap.size _ 7 (.int .i64 0)) (by omega)).only (Only.set w.heap.size _ 8 (.slice none 0 0)) (by omega))
  generalize (((((((((w12.setCell ⟨w.heap.size,0,none⟩ (.int .i64 0)).setCell ⟨w.heap.size,1,none⟩ (.int .u8 0)).setCell ⟨w.heap.size,2,none⟩ (.int .i64 0)).setCell ⟨w.heap.size,3,none⟩ (.int .i64 0)).setCell ⟨w.heap.size,4,none⟩ (.int .u8 0)).setCell ⟨w.heap.size,5,none⟩ (.string ⟨#[]⟩)).setCell ⟨w.heap.size,6,none⟩ (.slice none 0 0)).setCell ⟨w.heap.size,7,none⟩ (.int .i64 0)).setCell ⟨w.heap.size,8,none⟩ (.slice none 0 0))=w9 at q r_ o_ v6_ v8_ ⊢
  have d0:w9.cell? ⟨w.heap.size,0,none⟩=some (.int .i64 0):=cob q 0
  have d1:w9.cell? ⟨w.heap.size,1,none⟩=some (.int .u8 0):=cob q 1
  have d2:w9.cell? ⟨w.heap.size,2,none⟩=some (.int .i64 0):=cob q 2
  have d3:w9.cell? ⟨w.heap.size,3,none⟩=some (.int .i64 0):=cob q 3
  have d4:w9.cell? ⟨w.heap.size,4,none⟩=some (.int .u8 0):=cob q 4
  have d5:w9.cell? ⟨w.heap.size,5,none⟩=some (.string ⟨#[]⟩):=cob q 5
  have d6:w9.cell? ⟨w.heap.size,6,none⟩=some (.slice none 0 0):=cob q 6
  have d7:w9.cell? ⟨w.heap.size,7,none⟩=some (.int .i64 0):=cob q 7
  have d8:w9.cell? ⟨w.heap.size,8,none⟩=some (.slice none 0 0):=cob q 8
  have hS:=HS.out
  try simp only [if_true,if_false,Bool.false_eq_true,reduceIte] at hS
  subst hS
  exact bodyPost_ret (v:=.agg #[.int .i64 0,.int .u8 0,.int .i64 0,.int .i64 0,.int .u8 0,.string ⟨#[]⟩,.slice none 0 0,.int .i64 0,.slice none 0 0]) (by simp [results,Tryz.results112,go_sem,d0,d1,d2,d3,d4,d5,d6,d7,d8]) rfl ⟨⟨0,0,0,0,0,ByteArray.empty,none,[],0,0,none,[],0⟩,rfl,rfl,⟨VasOwn.nil _ _,IntsOwn.nil _ _⟩,r_,o_⟩
 | false =>
  rw [if_neg (by simp)] at he
  subst he
  go_wp2_with fail
  have q:(((((((((w12.setCell ⟨w.heap.size,0,none⟩ (.int .i64 x0)).setCell ⟨w.heap.size,1,none⟩ (.int .u8 x1)).setCell ⟨w.heap.size,2,none⟩ (.int .i64 x2)).setCell ⟨w.heap.size,3,none⟩ (.int .i64 x3)).setCell ⟨w.heap.size,4,none⟩ (.int .u8 x4)).setCell ⟨w.heap.size,5,none⟩ (.string x5)).setCell ⟨w.heap.size,6,none⟩ (.slice a6 n6 c6)).setCell ⟨w.heap.size,7,none⟩ (.int .i64 x7)).setCell ⟨w.heap.size,8,none⟩ (.slice a8 n8 c8)).heap[w.heap.size]?=some (.cells #[.int .i64 x0,.int .u8 x1,.int .i64 x2,.int .i64 x3,.int .u8 x4,.string x5,.slice a6 n6 c6,.int .i64 x7,.slice a8 n8 c8] 55 (0,0)):=(Go.Joins.block_setCell (i:=8) (Go.Joins.block_setCell (i:=7) (Go.Joins.block_setCell (i:=6) (Go.Joins.block_setCell (i:=5) (Go.Joins.block_setCell (i:=4) (Go.Joins.block_setCell (i:=3) (Go.Joins.block_setCell (i:=2) (Go.Joins.block_setCell (i:=1) (Go.Joins.block_setCell (i:=0) Z12.out (.int .i64 x0)) (.int .u8 x1)) (.int .i64 x2)) (.int .i64 x3)) (.int .u8 x4)) (.string x5)) (.slice a6 n6 c6)) (.int .i64 x7)) (.slice a8 n8 c8))
  have r_:Rdr (((((((((w12.setCell ⟨w.heap.size,0,none⟩ (.int .i64 x0)).setCell ⟨w.heap.size,1,none⟩ (.int .u8 x1)).setCell ⟨w.heap.size,2,none⟩ (.int .i64 x2)).setCell ⟨w.heap.size,3,none⟩ (.int .i64 x3)).setCell ⟨w.heap.size,4,none⟩ (.int .u8 x4)).setCell ⟨w.heap.size,5,none⟩ (.string x5)).setCell ⟨w.heap.size,6,none⟩ (.slice a6 n6 c6)).setCell ⟨w.heap.size,7,none⟩ (.int .i64 x7)).setCell ⟨w.heap.size,8,none⟩ (.slice a8 n8 c8)) M rb _ l_5:=(((((((((R12.out.other (g:=w.heap.size) (i:=0) hM (by omega) (.int .i64 x0)).other (g:=w.heap.size) (i:=1) hM (by omega) (.int .u8 x1)).other (g:=w.heap.size) (i:=2) hM (by omega) (.int .i64 x2)).other (g:=w.heap.size) (i:=3) hM (by omega) (.int .i64 x3)).other (g:=w.heap.size) (i:=4) hM (by omega) (.int .u8 x4)).other (g:=w.heap.size) (i:=5) hM (by omega) (.string x5)).other (g:=w.heap.size) (i:=6) hM (by omega) (.slice a6 n6 c6)).other (g:=w.heap.size) (i:=7) hM (by omega) (.int .i64 x7)).other (g:=w.heap.size) (i:=8) hM (by omega) (.slice a8 n8 c8))
  have o_:Only rb w (((((((((w12.setCell ⟨w.heap.size,0,none⟩ (.int .i64 x0)).setCell ⟨w.heap.size,1,none⟩ (.int .u8 x1)).setCell ⟨w.heap.size,2,none⟩ (.int .i64 x2)).setCell ⟨w.heap.size,3,none⟩ (.int .i64 x3)).setCell ⟨w.heap.size,4,none⟩ (.int .u8 x4)).setCell ⟨w.heap.size,5,none⟩ (.string x5)).setCell ⟨w.heap.size,6,none⟩ (.slice a6 n6 c6)).setCell ⟨w.heap.size,7,none⟩ (.int .i64 x7)).setCell ⟨w.heap.size,8,none⟩ (.slice a8 n8 c8)):=(((((((((O12.out.new (g:=w.heap.size) (i:=0) (nlr _) (.int .i64 x0)).new (g:=w.heap.size) (i:=1) (nlr _) (.int .u8 x1)).new (g:=w.heap.size) (i:=2) (nlr _) (.int .i64 x2)).new (g:=w.heap.size) (i:=3) (nlr _) (.int .i64 x3)).new (g:=w.heap.size) (i:=4) (nlr _) (.int .u8 x4)).new (g:=w.heap.size) (i:=5) (nlr _) (.string x5)).new (g:=w.heap.size) (i:=6) (nlr _) (.slice a6 n6 c6)).new (g:=w.heap.size) (i:=7) (nlr _) (.int .i64 x7)).new (g:=w.heap.size) (i:=8) (nlr _) (.slice a8 n8 c8))
  have v6_:=(((((((((W6_12.out.only (Only.set w.heap.size _ 0 (.int .i64 x0)) (by omega)).only (Only.set w.heap.size _ 1 (.int .u8 x1)) (by omega)).only (Only.set w.heap.size _ 2 (.int .i64 x2)) (by omega)).only (Only.set w.heap.size _ 3 (.int .i64 x3)) (by omega)).only (Only.set w.heap.size _ 4 (.int .u8 x4)) (by omega)).only (Only.set w.heap.size _ 5 (.string x5)) (by omega)).only (Only.set w.heap.size _ 6 (.slice a6 n6 c6)) (by omega)).only (Only.set w.heap.size _ 7 (.int .i64 x7)) (by omega)).only (Only.set w.heap.size _ 8 (.slice a8 n8 c8)) (by omega))
  have v8_:=(((((((((W8_12.out.only (Only.set w.heap.size _ 0 (.int .i64 x0)) (by omega)).only (Only.set w.heap.size _ 1 (.int .u8 x1)) (by omega)).only (Only.set w.heap.size _ 2 (.int .i64 x2)) (by omega)).only (Only.set w.heap.size _ 3 (.int .i64 x3)) (by omega)).only (Only.set w.heap.size _ 4 (.int .u8 x4)) (by omega)).only (Only.set w.heap.size _ 5 (.string x5)) (by omega)).only (Only.set w.heap.size _ 6 (.slice a6 n6 c6)) (by omega)).only (Only.set w.heap.size _ 7 (.int .i64 x7)) (by omega)).only (Only.set w.heap.size _ 8 (.slice a8 n8 c8)) (by omega))
  generalize (((((((((w12.setCell ⟨w.heap.size,0,none⟩ (.int .i64 x0)).setCell ⟨w.heap.size,1,none⟩ (.int .u8 x1)).setCell ⟨w.heap.size,2,none⟩ (.int .i64 x2)).setCell ⟨w.heap.size,3,none⟩ (.int .i64 x3)).setCell ⟨w.heap.size,4,none⟩ (.int .u8 x4)).setCell ⟨w.heap.size,5,none⟩ (.string x5)).setCell ⟨w.heap.size,6,none⟩ (.slice a6 n6 c6)).setCell ⟨w.heap.size,7,none⟩ (.int .i64 x7)).setCell ⟨w.heap.size,8,none⟩ (.slice a8 n8 c8))=w9 at q r_ o_ v6_ v8_ ⊢
  have d0:w9.cell? ⟨w.heap.size,0,none⟩=some (.int .i64 x0):=cob q 0
  have d1:w9.cell? ⟨w.heap.size,1,none⟩=some (.int .u8 x1):=cob q 1
  have d2:w9.cell? ⟨w.heap.size,2,none⟩=some (.int .i64 x2):=cob q 2
  have d3:w9.cell? ⟨w.heap.size,3,none⟩=some (.int .i64 x3):=cob q 3
  have d4:w9.cell? ⟨w.heap.size,4,none⟩=some (.int .u8 x4):=cob q 4
  have d5:w9.cell? ⟨w.heap.size,5,none⟩=some (.string x5):=cob q 5
  have d6:w9.cell? ⟨w.heap.size,6,none⟩=some (.slice a6 n6 c6):=cob q 6
  have d7:w9.cell? ⟨w.heap.size,7,none⟩=some (.int .i64 x7):=cob q 7
  have d8:w9.cell? ⟨w.heap.size,8,none⟩=some (.slice a8 n8 c8):=cob q 8
  have hS:=HS.out
  try simp only [if_true,if_false,Bool.false_eq_true,reduceIte] at hS
  subst hS
  have hc:=NC.out
  subst hc
  obtain rfl:=N6.out
  have v69:=v6_.le (base':=w.heap.size) (by omega)
  obtain rfl:=N8.out
  have v89:=v8_.le (base':=w.heap.size) (by omega)
  exact bodyPost_ret (v:=.agg #[.int .i64 x0,.int .u8 x1,.int .i64 x2,.int .i64 x3,.int .u8 x4,.string x5,.slice a6 x6.length c6,.int .i64 x7,.slice a8 x8.length c8]) (by simp [results,Tryz.results112,go_sem,d0,d1,d2,d3,d4,d5,d6,d7,d8]) rfl ⟨⟨x0,x1,x2,x3,x4,x5,a6,x6,c6,x7,a8,x8,c8⟩,rfl,rfl,⟨v69,v89⟩,r_,o_⟩
end Go.Proofs.YtglgcjkglhlggaaGreatDoor
/- Steps of a region that draws its order, guarded operations and loads included, each taken by its number, in worlds of which something is kept. Any program. Conditions: as each says. -/
namespace Go.Proofs.YtglgcjkglhlggaaGreatDoor
open Go.RowKit
variable {P:Program} {md:Region.Mode} {ops:Array Oper} {Q:Exit→Act→World→Prop} {S:World→Prop}
theorem takeS_no (i:Nat){oi:Oper}{fuel:Nat}{listed:Array Bool}{a:Act}{w:World}(hi:ops.toList[i]?=some oi)(hs:Region.noSelect ops=true)(hf:Region.free md ops listed i=true)(hr:(Region.ready md ops listed).contains i=true)
  (hQ:∀ c a w,Q (.panic c) (a.put oi.dst undef) w→Q (.panic c) a w) (hw:Region.wanted oi (yielded ops a.tmps)=false) (hS:S w) (h:wpAnyH P md ops Q S fuel (listed.setIfInBounds i true) (a.put oi.dst undef) w):wpAnyH P md ops Q S (fuel+1) listed a w :=
 wpAnyH_take (by rw [← Array.getElem?_toList];exact hi) hs hf hr hQ (Or.inr ⟨hw,rfl⟩) hS h
/-- An operation that yields the same in whatever world of the kind. -/
theorem takeS_yes (i:Nat){oi:Oper}{v:Value}{fuel:Nat}{listed:Array Bool}{a:Act}{w:World}(hi:ops.toList[i]?=some oi)(hs:Region.noSelect ops=true)(hf:Region.free md ops listed i=true)(hr:(Region.ready md ops listed).contains i=true)
  (hQ:∀ c a w,Q (.panic c) (a.put oi.dst v) w→Q (.panic c) a w) (hw:Region.wanted oi (yielded ops a.tmps)=true) (hS:S w) (hy:∀ w,S w→(execOp a.eval oi).run P w=.ok (.value v) w) (h:wpAnyH P md ops Q S fuel (listed.setIfInBounds i true) (a.put oi.dst v) w):wpAnyH P md ops Q S (fuel+1) listed a w :=
 wpAnyH_take (by rw [← Array.getElem?_toList];exact hi) hs hf hr hQ (Or.inl ⟨hw,hy⟩) hS h
/-- An operation that alone may come up. -/
theorem takeS_alone (i:Nat){oi:Oper}{fuel:Nat}{listed:Array Bool}{a:Act}{w:World}(hi:ops.toList[i]?=some oi)(hr:Region.ready md ops listed=[i])(hw:Region.wanted oi (yielded ops a.tmps)=true)
  (h:∀ K':Act→World→Prop,Shut (∀ a w,S w→wpAnyH P md ops Q S fuel (listed.setIfInBounds i true) a w→K' a w)→Oper.wp P oi a w K' Q):wpAnyH P md ops Q S (fuel+1) listed a w :=
 wpAnyH_ready (rs:=[i]) hr (by simp) (AllReadyH.cons (by rw [← Array.getElem?_toList];exact hi) (fun K hK=>by rw [if_pos hw];exact h K (fun a w hS hW=>hK.out a w hS (fun _=>hW))) AllReadyH.nil)
theorem heldS_begin {id:Nat}{a:Act}{w:World}(S:World→Prop)(hm:P.follows .mixedOrders=true)(hS:S w.drew)(h:S w.drew→wpAnyH P .any ops Q S ops.size (Array.replicate ops.size false) a w.drew):(Code.region id ops true).wp P Q a w :=
 wp_region_held_drew hm hS h
theorem tkn (i:Nat){oi:Oper}{fuel:Nat}{listed:Array Bool}{a:Act}{w:World}(hi:ops.toList[i]?=some oi)(h:wpAnyH P md ops Q S fuel (listed.setIfInBounds i true) (a.put oi.dst undef) w)(hs:Region.noSelect ops=true:=by kernel_rfl)(hf:Region.free md ops listed i=true:=by kernel_rfl)(hr:(Region.ready md ops listed).contains i=true:=by kernel_rfl)(hQ:∀ c a w,Q (.panic c) (a.put oi.dst undef) w→Q (.panic c) a w:=by exact fun _ _ _ h=>h)(hw:Region.wanted oi (yielded ops a.tmps)=false:=by rfl)(hS:S w:=by assumption):wpAnyH P md ops Q S (fuel+1) listed a w:=takeS_no i hi hs hf hr hQ hw hS h
theorem tky (i:Nat){oi:Oper}{v:Value}{fuel:Nat}{listed:Array Bool}{a:Act}{w:World}(hi:ops.toList[i]?=some oi)(hy:∀ w,S w→(execOp a.eval oi).run P w=.ok (.value v) w)(h:wpAnyH P md ops Q S fuel (listed.setIfInBounds i true) (a.put oi.dst v) w)(hs:Region.noSelect ops=true:=by kernel_rfl)(hf:Region.free md ops listed i=true:=by kernel_rfl)(hr:(Region.ready md ops listed).contains i=true:=by kernel_rfl)(hQ:∀ c a w,Q (.panic c) (a.put oi.dst v) w→Q (.panic c) a w:=by exact fun _ _ _ h=>h)(hw:Region.wanted oi (yielded ops a.tmps)=true:=by rfl)(hS:S w:=by assumption):wpAnyH P md ops Q S (fuel+1) listed a w:=takeS_yes i hi hs hf hr hQ hw hS hy h
theorem ssa {α:Type}(l:List α)(i:Nat)(a:α):l.toArray.setIfInBounds i a=(l.set i a).toArray:=List.setIfInBounds_toArray ..
theorem ssb {α:Type}(a b:α)(l:List α):(a :: l).set 0 b=b :: l:=rfl
theorem ssc {α:Type}(a b:α)(l:List α)(n:Nat):(a :: l).set (n+1) b=a :: l.set n b:=rfl
end Go.Proofs.YtglgcjkglhlggaaGreatDoor
/- The bytes that forms are written as are bytes. No program. Conditions: as each says. -/
namespace Go.Proofs.YtglgcjkglhlggaaGreatDoor
open Go.RowKit
set_option maxRecDepth 20000
theorem BytesWf.app {a b:List Int}(h:BytesWf a)(h2:BytesWf b):BytesWf (a ++ b):=fun x hx=>(List.mem_append.1 hx).elim (h x) (h2 x)
theorem BytesWf.con {k:Int}{b:List Int}(h:0≤k∧k<256)(h2:BytesWf b):BytesWf (k :: b):=fun x hx=>by
 rcases List.mem_cons.1 hx with rfl | hx
 · exact h
 · exact h2 x hx
theorem BytesWf.flat {α:Type}{f:α→List Int}{l:List α}(h:∀ x ∈ l,BytesWf (f x)):BytesWf (l.flatMap f):=fun x hx=>by
 obtain ⟨y,hy,hx⟩:=List.mem_flatMap.1 hx
 exact h y hy x hx
theorem u8_of {n:Int}(h:(Lit.int .u8 n).wf=true):0≤n∧n<256:=by
 have h:(decide (IntKind.u8.min≤n) && decide (n≤IntKind.u8.max))=true:=h
 have e1:IntKind.u8.min=0:=by decide
 have e2:IntKind.u8.max=255:=by decide
 rw [e1,e2] at h
 simp at h
 omega
theorem textB_wf (s:ByteArray):BytesWf (textB s):=(numB_wf 4 _).app (strB_wf s)
theorem valueB_wf (v:Va)(h:VaArg v):BytesWf (valueB v):=by
 unfold valueB
 refine BytesWf.con (u8_of h.1) ?_
 split
 · exact numB_wf 8 _
 ·
  split
  · exact textB_wf _
  · intro x hx;cases hx
theorem valuesB_wf (l:List Va)(h:∀ v ∈ l,VaArg v):BytesWf (valuesB l):=(numB_wf 4 _).app (BytesWf.flat fun v hv=>valueB_wf v (h v hv))
theorem commandB_wf (ck:Int)(text:ByteArray)(num:Int)(args:List Va)(hk:(Lit.int .u8 ck).wf=true)(h:∀ v ∈ args,VaArg v):BytesWf (commandB ck text num args) :=
 BytesWf.con (u8_of hk) ((textB_wf _).app ((numB_wf 8 _).app (valuesB_wf _ h)))
theorem entryB_wf (e:EnP)(h0:(Lit.int .u8 e.kind).wf=true)(h1:(Lit.int .u8 e.ck).wf=true)(h:∀ v ∈ e.args,VaArg v):BytesWf (entryB e) :=
 (numB_wf 8 _).app (BytesWf.con (u8_of h0) ((numB_wf 8 _).app ((numB_wf 8 _).app ((commandB_wf _ _ _ _ h1 h).app ((numB_wf 4 _).app (BytesWf.flat fun _ _=>numB_wf 8 _))))))
theorem lit_of {n:Int}(h:-9223372036854775808≤n∧n≤9223372036854775807):(Lit.int .i64 n).wf=true:=by
 show (decide (IntKind.i64.min≤n) && decide (n≤IntKind.i64.max))=true
 have e1:IntKind.i64.min=-9223372036854775808:=by decide
 have e2:IntKind.i64.max=9223372036854775807:=by decide
 rw [e1,e2]
 simp
 omega
theorem of_lit {n:Int}(h:(Lit.int .i64 n).wf=true):-9223372036854775808≤n∧n≤9223372036854775807:=by
 have h:(decide (IntKind.i64.min≤n) && decide (n≤IntKind.i64.max))=true:=h
 have e1:IntKind.i64.min=-9223372036854775808:=by decide
 have e2:IntKind.i64.max=9223372036854775807:=by decide
 rw [e1,e2] at h
 simpa using h
theorem of_u8 {n:Int}(h:0≤n∧n<256):(Lit.int .u8 n).wf=true:=by
 show (decide (IntKind.u8.min≤n) && decide (n≤IntKind.u8.max))=true
 have e1:IntKind.u8.min=0:=by decide
 have e2:IntKind.u8.max=255:=by decide
 rw [e1,e2]
 simp
 omega
end Go.Proofs.YtglgcjkglhlggaaGreatDoor
/- Letters as they lie in memory. Conditions: as each says. -/
namespace Go.Proofs.YtglgcjkglhlggaaGreatDoor
open Go.RowKit
set_option maxRecDepth 20000
/-- A letter: its numbers, its entries, voters and image where they lie. -/
structure Lt where
 kind:Int
 fr:Int
 tov:Int
 term:Int
 index:Int
 was:Int
 ok:Bool
 commit:Int
 round:Int
 eo:Option Addr
 es:List En
 ecap:Nat
 vo:Option Addr
 vs:List Int
 vcap:Nat
 io:Option Addr
 im:List Int
 icap:Nat
def Lt.plain (l:Lt):LtP:=⟨l.kind,l.fr,l.tov,l.term,l.index,l.was,l.ok,l.commit,l.round,l.es.map En.plain,l.vs,l.im⟩
def ltVal (l:Lt):Value:=.agg #[.int .u8 l.kind,.int .i64 l.fr,.int .i64 l.tov,.int .i64 l.term,.int .i64 l.index,.int .i64 l.was,.bool l.ok,.int .i64 l.commit,.int .i64 l.round,.slice l.eo l.es.length l.ecap,.slice l.vo l.vs.length l.vcap,.slice l.io l.im.length l.icap]
def ltSub (w:World) (B:Nat) (l:Lt):Prop:=EnsIn w B l.eo l.es∧NumsIn w B l.vo l.vs∧BytesIn w B l.io l.im
theorem ltSub_below {w w':World}{B B':Nat}{l:Lt}(h:ltSub w B l)(hb:Below B' w w')(hB:B≤B'):ltSub w' B l:=⟨h.1.below enSub_kept hb hB,h.2.1.below noSub_kept hb hB,h.2.2.below hb hB⟩
theorem ltSub_mono {w:World}{B B':Nat}{l:Lt}(h:ltSub w B l)(hB:B≤B'):ltSub w B' l:=⟨h.1.mono enSub_rising hB,h.2.1.mono noSub_rising hB,h.2.2.mono hB⟩
/-- An entry that is not too great to be written. -/
structure EnFine (e:En):Prop where
 wf:EnWf e
 text:e.text.size≤4000000
 args:e.args.length≤4000000
 vn:e.vs.length≤4000000
 argt:∀ v ∈ e.args,v.text.size≤4000000
 size:(valuesB e.args).length≤400000000
/-- A letter whose parts are not too great. -/
structure LtFine (l:Lt):Prop where
 kind:0≤l.kind∧l.kind<256
 fr:N64 l.fr
 tov:N64 l.tov
 term:N64 l.term
 index:N64 l.index
 was:N64 l.was
 commit:N64 l.commit
 round:N64 l.round
 es:∀ e ∈ l.es,EnFine e
 en:l.es.length≤4000000
 vs:∀ v ∈ l.vs,N64 v
 vn:l.vs.length≤4000000
 im:BytesWf l.im
 ln:l.im.length≤4000000
 enil:l.eo=none→l.ecap=0
 vnil:l.vo=none→l.vcap=0
 inil:l.io=none→l.icap=0
 icap:l.im.length≤l.icap
theorem EnFine.ok {e:En}(h:EnFine e):EnOk e.plain :=
 ⟨of_lit h.wf.session,of_lit h.wf.seq,of_lit h.wf.num,Nat.lt_of_le_of_lt h.text (by decide),Nat.lt_of_le_of_lt h.args (by decide),valuesB_wf _ h.wf.args⟩
theorem LtFine.bytes {l:Lt}(h:LtFine l)(hr:rightL l.plain=true):BytesWf (bytesL l.plain):=by
 obtain ⟨n1,n2,_,_,_,_,_,_,_,n10,_⟩:=right_nums hr
 have hv:BytesWf l.plain.vs:=fun v hv=>by have:=n10 v hv;omega
 have he:BytesWf (l.plain.es.flatMap entryB):=BytesWf.flat fun e he=>by
  obtain ⟨x,hx,rfl⟩:=List.mem_map.1 he
  exact entryB_wf x.plain (h.es x hx).wf.kind (h.es x hx).wf.ck (h.es x hx).wf.args
 have h3:BytesWf [l.plain.kind,l.plain.fr,l.plain.tov]:=by
  intro x hx
  have hk:=h.kind
  simp only [List.mem_cons,List.not_mem_nil,or_false] at hx
  rcases hx with rfl | rfl | rfl
  · exact hk
  · omega
  · omega
 unfold bytesL
 refine h3.app (((numB_wf 8 _).app ((numB_wf 8 _).app (numB_wf 8 _))).app (BytesWf.con (by split <;> omega) (((numB_wf 8 _).app (numB_wf 8 _)).app ((numB_wf 4 _).app (he.app ((numB_wf 4 _).app (hv.app ((numB_wf 4 _).app h.im))))))))
end Go.Proofs.YtglgcjkglhlggaaGreatDoor
/- Numbers and voters of letters, as the program judges them. Conditions: as each says. -/
namespace Go.Proofs.YtglgcjkglhlggaaGreatDoor
open Go.RowKit
set_option maxRecDepth 20000
theorem within_no {n:Int}(h:¬ (0≤n∧n≤1099511627776)):withinN n=false:=by
 cases hw:withinN n with
 | false=>rfl
 | true=>exact absurd (withinN_iff.1 hw) h
/-- What a test of a row gives, behind a pair. -/
theorem pair_of (g:Bool):∃ P:Bool × Bool,g=P.1:=⟨(g,g),rfl⟩
theorem lwithin_any (ao:Option Addr)(n cap:Nat)(xs:List Int)(w:World)(B:Nat)(hn:xs.length=n)(hx:NumsIn w B ao xs)(hl:n≤4398046511104)(g:Bool)(hg:xs.all withinN=g) :
  Calls Tryz.prog 29 #[.slice ao n cap] w fun e w'=>e=.returned (.bool g)∧w=w':=by
 have HX:=Hd hx
 have HN:=Hd hn
 obtain ⟨P,hP⟩:=pair_of g
 rw [hP] at hg
 have HG:=Hd hg
 rw [hP]
 clear hx hn hg hP
 go_enter Tryz.func29,Tryz.ntmps29
 go_wp2_with fail
 go_loopw [7] (fun i wr=>∃ k:Nat,k≤n∧i=.int .i64 k∧(xs.take k).all withinN=true∧w=wr) (fun i _=>n - (intOf i).toNat)
 case atStart=>exact ⟨0,by omega,rfl,rfl,rfl⟩
 case round =>
  obtain ⟨k,hk,rfl,hall,rfl⟩:=hrel
  have HA:=Hd hall
  clear hall
  by_cases hlt:k<n
  ·
   have i1:(k:Int)<n:=by omega
   have hkx:xs[k]?=some (xs[k]'(by rw [HN.out];exact hlt)):=List.getElem?_eq_getElem _
   have htk:xs.take (k+1)=xs.take k ++ [xs[k]'(by rw [HN.out];exact hlt)]:=List.take_succ_eq_append_getElem _
   have hmem:(xs[k]'(by rw [HN.out];exact hlt)) ∈ xs:=List.getElem_mem _
   obtain ⟨b,off,hao,hb,hc,_⟩:=HX.out.at hkx
   generalize xs[k]'(by rw [HN.out];exact hlt)=x at hc hkx htk hmem
   have c0:w.cell? ⟨b,off+k,none⟩=some (.int .i64 x):=by
    have:=hc 0 (by decide)
    rw [Nat.mul_one,Nat.add_zero] at this
    exact this
   subst hao
   have HT:=Hd htk
   have HM:=Hd hmem
   clear hc hkx htk hmem
   have hbad:¬ (0≤x∧x≤1099511627776)→P.1=false:=fun h=>by
    rw [← HG.out]
    cases hh:xs.all withinN with
    | false=>rfl
    | true =>
     have:=List.all_eq_true.1 hh _ HM.out
     rw [within_no h] at this
     cases this
   have HBAD:=Hd hbad
   clear hbad
   by_cases h1:x<0
   ·
    have hf:=HBAD.out (by omega)
    go_wp2_with fail
    go_ret
    exact ⟨by first | rfl | (rw [hf];rfl),by first | rfl | trivial⟩
   ·
    by_cases h2:1099511627776<x
    ·
     have hf:=HBAD.out (by omega)
     go_wp2_with fail
     go_ret
     exact ⟨by first | rfl | (rw [hf];rfl),by first | rfl | trivial⟩
    ·
     have hw:withinN x=true:=withinN_iff.2 (by omega)
     have HW:=Hd hw
     clear hw
     go_wp2_with fail
     go_roundw
     case rel=>exact ⟨k+1,by omega,by go_num,by rw [HT.out,List.all_append,HA.out];simp [HW.out],by first | rfl | trivial⟩
     case measure=>simp [intOf] <;> omega
  ·
   have i1:¬ (k:Int)<n:=by omega
   obtain rfl:k=n:=by omega
   have hfin:P.1=true:=by
    rw [← HG.out]
    have:=HA.out
    rw [List.take_of_length_le (by rw [HN.out];exact nlr _)] at this
    exact this
   go_wp2_with fail
   go_ret
   exact ⟨by first | rfl | (rw [hfin];rfl),by first | rfl | trivial⟩
theorem votersGo_take:∀ (l:List Int) (last:Int) (k:Nat) (x:Int),l[k]?=some x→votersGo last (l.take k)=true→votersGo last l=true→(l.take k).getLastD last<x∧x≤9:=by
 intro l
 induction l with
 | nil=>intro last k x h;simp at h
 | cons y l ih =>
  intro last k x h h1 h2
  cases k with
  | zero =>
   simp only [List.getElem?_cons_zero,Option.some.injEq] at h
   subst h
   simp only [votersGo,Bool.and_eq_true,decide_eq_true_eq] at h2
   exact h2.1
  | succ k =>
   simp only [List.getElem?_cons_succ] at h
   simp only [List.take_succ_cons,votersGo,Bool.and_eq_true] at h1 h2
   have:=ih y k x h h1.2 h2.2
   rw [List.take_succ_cons,List.getLastD_cons]
   exact this
theorem votersGo_snoc:∀ (l:List Int) (last x:Int),votersGo last (l ++ [x])=(votersGo last l && (decide (l.getLastD last<x) && decide (x≤9))):=by
 intro l
 induction l with
 | nil=>intro last x;simp [votersGo]
 | cons y l ih =>
  intro last x
  rw [List.cons_append,votersGo,ih,votersGo,List.getLastD_cons]
  simp only [Bool.and_assoc]
theorem lvoters_any (ao:Option Addr)(n cap:Nat)(xs:List Int)(w:World)(B:Nat)(hn:xs.length=n)(hx:NumsIn w B ao xs)(hl:n≤4398046511104)(g:Bool)(hg:votersB xs=g) :
  Calls Tryz.prog 31 #[.slice ao n cap] w fun e w'=>e=.returned (.bool g)∧w=w':=by
 have HX:=Hd hx
 have HN:=Hd hn
 obtain ⟨P,hP⟩:=pair_of g
 rw [hP] at hg
 have HG:=Hd hg
 rw [hP]
 clear hx hn hg hP
 go_enter Tryz.func31,Tryz.ntmps31
 go_wp2_with fail
 go_loopw [3,8] (fun m i wr=>∃ k:Nat,k≤n∧i=.int .i64 k∧m=.int .i64 ((xs.take k).getLastD 0)∧votersGo 0 (xs.take k)=true∧w=wr) (fun _ i _=>n - (intOf i).toNat)
 case atStart=>exact ⟨0,by omega,rfl,rfl,rfl,rfl⟩
 case round =>
  obtain ⟨k,hk,rfl,rfl,hall,rfl⟩:=hrel
  have HA:=Hd hall
  clear hall
  by_cases hlt:k<n
  ·
   have i1:(k:Int)<n:=by omega
   have hkx:xs[k]?=some (xs[k]'(by rw [HN.out];exact hlt)):=List.getElem?_eq_getElem _
   have htk:xs.take (k+1)=xs.take k ++ [xs[k]'(by rw [HN.out];exact hlt)]:=List.take_succ_eq_append_getElem _
   obtain ⟨b,off,hao,hb,hc,_⟩:=HX.out.at hkx
   generalize xs[k]'(by rw [HN.out];exact hlt)=x at hc hkx htk
   have c0:w.cell? ⟨b,off+k,none⟩=some (.int .i64 x):=by
    have:=hc 0 (by decide)
    rw [Nat.mul_one,Nat.add_zero] at this
    exact this
   subst hao
   have HT:=Hd htk
   have hbad:¬ ((xs.take k).getLastD 0<x∧x≤9)→P.1=false:=fun h=>by
    rw [← HG.out]
    cases hh:votersB xs with
    | false=>rfl
    | true =>
     unfold votersB at hh
     rw [Bool.and_eq_true] at hh
     exact absurd (votersGo_take xs 0 k x hkx HA.out hh.1) h
   have HBAD:=Hd hbad
   obtain ⟨q,hq⟩:∃ q,(xs.take k).getLastD 0=q:=⟨_,rfl⟩
   rw [hq] at HBAD
   rw [hq]
   have HQ:=Hd hq
   clear hc hkx htk hbad hq
   by_cases h1:x≤q
   ·
    have hf:=HBAD.out (by omega)
    go_wp2_with fail
    go_ret
    exact ⟨by first | rfl | (rw [hf];rfl),by first | rfl | trivial⟩
   ·
    by_cases h2:9<x
    ·
     have hf:=HBAD.out (by omega)
     go_wp2_with fail
     go_ret
     exact ⟨by first | rfl | (rw [hf];rfl),by first | rfl | trivial⟩
    ·
     have hv:votersGo 0 (xs.take (k+1))=true∧(xs.take (k+1)).getLastD 0=x:=by
      rw [HT.out,votersGo_snoc,HA.out,HQ.out]
      exact ⟨by simp;omega,by simp⟩
     have HV:=Hd hv
     clear hv
     go_wp2_with fail
     go_roundw
     case rel=>exact ⟨k+1,by omega,by go_num,by rw [HV.out.2],HV.out.1,by first | rfl | trivial⟩
     case measure=>simp [intOf] <;> omega
  ·
   have i1:¬ (k:Int)<n:=by omega
   obtain rfl:k=n:=by omega
   have hall:votersGo 0 xs=true:=by
    have:=HA.out
    rwa [List.take_of_length_le (by rw [HN.out];exact nlr _)] at this
   have hfin:P.1=(decide (1≤k) && decide (k≤7)):=by
    rw [← HG.out]
    unfold votersB
    rw [hall,HN.out,Bool.true_and]
   have HF:=Hd hfin
   clear hall hfin
   by_cases h1:1≤k
   ·
    have j1:(1:Int)≤k:=by omega
    by_cases h2:k≤7
    ·
     have j2:(k:Int)≤7:=by omega
     go_wp2_with fail
     go_ret
     exact ⟨by rw [HF.out];simp [h1,h2];done,by first | rfl | trivial⟩
    ·
     have j2:¬ (k:Int)≤7:=by omega
     go_wp2_with fail
     go_ret
     exact ⟨by rw [HF.out];simp [h2];done,by first | rfl | trivial⟩
   ·
    have j1:¬ (1:Int)≤k:=by omega
    go_wp2_with fail
    go_ret
    exact ⟨by rw [HF.out];simp [h1];done,by first | rfl | trivial⟩
end Go.Proofs.YtglgcjkglhlggaaGreatDoor
