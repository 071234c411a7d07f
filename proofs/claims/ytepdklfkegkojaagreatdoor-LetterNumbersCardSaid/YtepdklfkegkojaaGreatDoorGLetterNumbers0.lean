/- Parts of one proof. Conditions: as each says. -/
import Derived.Lib.Hide
import Derived.Lib.SmallJoins
import Derived.Laws.OwnMore
import Derived.Below
import Derived.Shelf.LaysM
import Derived.Shelf.Bytes.Len
import Derived.Shelf.Bytes.TryGrow
import Derived.Shelf.Bytes.GrowSliceCatch
import Derived.Shelf.Bytes.GrowSlice
import Derived.Shelf.Bytes.GrowRow0
import Derived.Shelf.Bytes.GrowRow
import Derived.Shelf.Bytes.GrowNil
import Derived.Shelf.Bytes.Grow
import Derived.Shelf.Bytes.WriteByte
import Derived.Shelf.Bytes.WriteString
import Derived.Shelf.Bytes.Reset
import Derived.Shelf.Bytes.Bytes
import Derived.Shelf.Bytes.GrowRow0Kept
import Derived.Shelf.Bytes.GrowRowKept
import Derived.Shelf.Bytes.GrowNilKept
import Derived.Shelf.Bytes.GrowKept
import Derived.Shelf.Bytes.WriteByteKept
import Derived.Shelf.Bytes.WriteStringKept
import Derived.Shelf.Bytes.ResetKept
import Derived.Shelf.Bytes.BufferK
import Derived.Shelf.Bytes.GrowRow0Own
import Derived.Shelf.Bytes.GrowRowOwn
import Derived.Shelf.Bytes.GrowNilOwn
import Derived.Shelf.Bytes.GrowOwn
import Derived.Shelf.Bytes.LenAt
import Derived.Shelf.Bytes.TryGrowAt
import Derived.Shelf.Bytes.GrowRow0At
import Derived.Shelf.Bytes.GrowRowAt
import Derived.Shelf.Bytes.GrowNilAt
import Derived.Shelf.Bytes.GrowAt
import Derived.Shelf.Bytes.WriteByteAt
import Derived.Shelf.Bytes.WriteStringAt
import Derived.Shelf.Bytes.SlSearch0
import Derived.Ground.SlbCloneProg
import Derived.Shelf.Bytes.SlClone
import Derived.Ground.SlbNamesProg
import Derived.Shelf.Bytes.SlJoin
import Derived.Shelf.Bytes.SlEqualAll
import Derived.Shelf.Bytes.Small
import Derived.Test.YtepdklfkegkojaaGreatDoorProg
import Derived.Test.YtepdklfkegkojaaGreatDoorRows
import Derived.WalkKit
import Derived.WalkSpells
import Derived.WalkLawsBesides
import Derived.ProofKit
import Derived.OpenShut
import Derived.SizedLaws
import Derived.Carry
import Derived.OpenVars
import Derived.Deep.QuietTactic
import Derived.BigQuiet
import Derived.BigGuardPart
import Derived.Deep.Slices
import Derived.Laws.AppendOwnNone
import Derived.Maps.AppendAt
import Derived.Deep.Strs
set_option linter.all false
set_option maxHeartbeats 16000000
set_option maxRecDepth 100000
namespace Go.Proofs.YtepdklfkegkojaaGreatDoor
open Go.Proofs.Tryz
open Go.RowKit
def aj:=@Below.refl
def aF:=@Nat.le_trans
def aX:=@World.ownsRow.kept
def br:=@Go.Joins.block_setCell
def bu:=@List.getElem?_eq_getElem
def cL:=@underlying32
def cO:=@World.ownsRow.frozenAt
def cR:=@Nat.add_right_cancel
def cU:=@World.ownsRow.stored
def ex:=@Nat.lt_of_lt_of_le
def fh:=@Go.Joins.ownsRow_le
def fE:=@List.take_of_length_le
def fH:=@List.getElem?_range
def fU:=@Nat.le_succ
def gu:=@List.getElem?_append_left
def hJ:=@underlying25
def iJ:=@List.take_succ_eq_append_getElem
def iK:=@World.ownsRow_nil
def iP:=@Go.Joins.ownsRow_form
def iX:=@Nat.zero_le
def jb:=@World.ownsRow.lt
def jU:=@IntWalk.i64_in
def mC:=@List.getElem_mem
def nc:=@World.grownBy_alloc
def nU:=@World.ownsRow.alloc
def oD:=@Go.Joins.ownsRow_forms
def oH:=@World.ownsRow_lit
def pJ:=@Nat.le_of_eq
def pP:=@World.ownsRow.cells
def qr:=@underlying24
def rc:=@underlying30
def sf:=@underlying42
def sg:=@List.mem_cons_of_mem
def ub:=@List.mem_of_mem_drop
def uR:=@underlying44
def uT:=@underlying46
def vj:=@Option.some.inj
def vz:=@List.map_congr_left
def wU:=@List.eq_nil_of_length_eq_zero
def wV:=@List.getElem?_eq_none
def xu:=@Nat.lt_succ_self
def zd:=@List.getElem?_append_right
def zl:=@List.mem_of_mem_take
def Ao:=@World.cell?_of_block
def BR:=@List.pairwise_singleton
theorem ab {w : World} {g : Nat} {cs : Array Value} {t : TypeId} {fr : Nat × Nat} (h : w.heap[g]? = some (.cells cs t fr)) (i : Nat) : w.cell? ⟨g, i, none⟩ = cs[i]? := Go.Joins.cell_of_block h i
theorem aO {w : World} {g : Nat} {cs : Array Value} {t : TypeId} (h : w.heap[g]? = some (.cells cs t (0, 0))) (i : Nat) : w.frozen? ⟨g, i, none⟩ = false := Go.Joins.unfrozen_of_block h i
theorem ay {w : World} {base e size g n cap : Nat} {xs : List Value} (h : w.ownsRow base e size (.slice (some ⟨g, 0, none⟩) n cap) n xs) (j : Nat) (hj : j < n * size) : w.cell? ⟨g, j, none⟩ = xs[j]? := World.ownsRow.cellAt h j hj
theorem aa (n : Nat) : n <= n := Nat.le_refl n
theorem Hd {p : Prop} (h : p) : Go.RowKit.Hid p := h
end Go.Proofs.YtepdklfkegkojaaGreatDoor
namespace Go.Proofs
open Go.Shelf
def laysM179_ren:Go.Shelf.Ren:=⟨fun|179=>46|251=>83|252=>84|181=>142|184=>143|290=>144|324=>203|n=>n,fun|130=>148|5=>5|75=>82|0=>0|93=>77|91=>75|3=>3|131=>142|4=>4|37=>25|20=>20|80=>188|9=>9|n=>n,fun|14=>0|n=>n⟩
theorem Tryz.VN:Go.Proofs.LaysM.n179 prog laysM179_ren:={
 mixed:=by kernel_rfl
 f179:=func46.trans (congrArg some (by kernel_rfl))
 f181:=func142.trans (congrArg some (by kernel_rfl))
 f184:=func143.trans (congrArg some (by kernel_rfl))
 f251:=func83.trans (congrArg some (by kernel_rfl))
 f252:=func84.trans (congrArg some (by kernel_rfl))
 f290:=func144.trans (congrArg some (by kernel_rfl))
 f324:=func203.trans (congrArg some (by kernel_rfl))
 t0:=underlying0
 a0:=isAgg0
 z0:=sizeOf0
 v0:=zeroValue0
 t3:=underlying3
 a3:=isAgg3
 z3:=sizeOf3
 v3:=zeroValue3
 t4:=underlying4
 a4:=isAgg4
 z4:=sizeOf4
 v4:=zeroValue4
 t5:=underlying5
 a5:=isAgg5
 z5:=sizeOf5
 v5:=zeroValue5
 t20:=underlying20
 a20:=isAgg20
 z20:=sizeOf20
 v20:=zeroValue20
 t37:=underlying25
 a37:=isAgg25
 z37:=sizeOf25
 v37:=zeroValue25
 t75:=underlying82
 a75:=isAgg82
 z75:=sizeOf82
 v75:=zeroValue82
 t91:=underlying75
 a91:=isAgg75
 z91:=sizeOf75
 v91:=zeroValue75
 t93:=underlying77
 a93:=isAgg77
 z93:=sizeOf77
 v93:=zeroValue77
 t130:=underlying148
 a130:=isAgg148
 z130:=sizeOf148
 v130:=zeroValue148
 t131:=underlying142
 a131:=isAgg142
 z131:=sizeOf142
 v131:=zeroValue142
 g14:=by kernel_rfl
 t9:=underlying9
 a9:=isAgg9
 z9:=sizeOf9
 v9:=zeroValue9
 t80:=underlying188
 a80:=isAgg188
 z80:=sizeOf188
 v80:=zeroValue188
 i0:=by kernel_rfl
 i3:=by kernel_rfl
 i4:=by kernel_rfl
 i5:=by kernel_rfl
 i9:=by kernel_rfl
 i20:=by kernel_rfl
 i37:=by kernel_rfl
 i75:=by kernel_rfl
 i80:=by kernel_rfl
 i91:=by kernel_rfl
 i93:=by kernel_rfl
 i130:=by kernel_rfl
 i131:=by kernel_rfl
 m14:=by kernel_rfl }
def laysM178_ren:Go.Shelf.Ren:=⟨fun|178=>145|251=>83|252=>84|181=>142|184=>143|290=>144|324=>203|n=>n,fun|130=>148|9=>9|3=>3|75=>82|0=>0|93=>77|91=>75|131=>142|4=>4|37=>25|20=>20|80=>188|5=>5|n=>n,fun|14=>0|n=>n⟩
theorem Tryz.VO:Go.Proofs.LaysM.n178 prog laysM178_ren:={
 mixed:=by kernel_rfl
 f178:=func145.trans (congrArg some (by kernel_rfl))
 f181:=func142.trans (congrArg some (by kernel_rfl))
 f184:=func143.trans (congrArg some (by kernel_rfl))
 f251:=func83.trans (congrArg some (by kernel_rfl))
 f252:=func84.trans (congrArg some (by kernel_rfl))
 f290:=func144.trans (congrArg some (by kernel_rfl))
 f324:=func203.trans (congrArg some (by kernel_rfl))
 t0:=underlying0
 a0:=isAgg0
 z0:=sizeOf0
 v0:=zeroValue0
 t3:=underlying3
 a3:=isAgg3
 z3:=sizeOf3
 v3:=zeroValue3
 t4:=underlying4
 a4:=isAgg4
 z4:=sizeOf4
 v4:=zeroValue4
 t9:=underlying9
 a9:=isAgg9
 z9:=sizeOf9
 v9:=zeroValue9
 t20:=underlying20
 a20:=isAgg20
 z20:=sizeOf20
 v20:=zeroValue20
 t37:=underlying25
 a37:=isAgg25
 z37:=sizeOf25
 v37:=zeroValue25
 t75:=underlying82
 a75:=isAgg82
 z75:=sizeOf82
 v75:=zeroValue82
 t91:=underlying75
 a91:=isAgg75
 z91:=sizeOf75
 v91:=zeroValue75
 t93:=underlying77
 a93:=isAgg77
 z93:=sizeOf77
 v93:=zeroValue77
 t130:=underlying148
 a130:=isAgg148
 z130:=sizeOf148
 v130:=zeroValue148
 t131:=underlying142
 a131:=isAgg142
 z131:=sizeOf142
 v131:=zeroValue142
 g14:=by kernel_rfl
 t5:=underlying5
 a5:=isAgg5
 z5:=sizeOf5
 v5:=zeroValue5
 t80:=underlying188
 a80:=isAgg188
 z80:=sizeOf188
 v80:=zeroValue188
 i0:=by kernel_rfl
 i3:=by kernel_rfl
 i4:=by kernel_rfl
 i5:=by kernel_rfl
 i9:=by kernel_rfl
 i20:=by kernel_rfl
 i37:=by kernel_rfl
 i75:=by kernel_rfl
 i80:=by kernel_rfl
 i91:=by kernel_rfl
 i93:=by kernel_rfl
 i130:=by kernel_rfl
 i131:=by kernel_rfl
 m14:=by kernel_rfl }
open Go.RowKit in
theorem Tryz.Buffer_WriteByte_at (T:TypeId)(R:Nat->Option Value)(B b q:Nat)(bs:List Value)(c:Int)(w:World)(h:LibA.IsBuffer T R 5 B b q bs w)(gK:B<=w.heap.size)(h1:∀v∈bs,v.oneCell'=true)(fV:bs.length+1<=140737488355328) :
  Calls prog 46 #[.pointer (some ⟨b,q,none⟩),.int .u8 c] w λ e w'=>e=.returned .nilIface/\LibA.IsBuffer T R 5 B b q (bs++[.int .u8 c]) w'/\Below B w w'/\Lib.OthersKept 5 (some b) w w':=Any.Buffer_WriteByte_at Tryz.VN T R B b q bs c w h gK h1 fV
open Go.RowKit in
theorem Tryz.Buffer_WriteString_at (T:TypeId)(R:Nat->Option Value)(B b q:Nat)(bs:List Value)(s:ByteArray)(w:World)(h:LibA.IsBuffer T R 5 B b q bs w)(gK:B<=w.heap.size)(h1:∀v∈bs,v.oneCell'=true)(fV:bs.length+s.size<=140737488355328) :
  Calls prog 145 #[.pointer (some ⟨b,q,none⟩),.string s] w λ e w'=>e=.returned (.tuple #[.int .i64 s.size,.nilIface])/\LibA.IsBuffer T R 5 B b q (bs++Lib.byteCells s.data.toList) w'/\Below B w w'/\Lib.OthersKept 5 (some b) w w':=Any.Buffer_WriteString_at Tryz.VO T R B b q bs s w h gK h1 fV
def lays115_ren:Go.Shelf.Ren:=⟨fun|115=>38|n=>n,fun|37=>25|4=>4|9=>9|5=>5|n=>n,fun|n=>n⟩
theorem Tryz.VP:Go.Proofs.Lays.n115 prog lays115_ren:={
 mixed:=by kernel_rfl
 f115:=func38.trans (congrArg some (by kernel_rfl))
 t4:=underlying4
 a4:=isAgg4
 z4:=sizeOf4
 v4:=zeroValue4
 t9:=underlying9
 a9:=isAgg9
 z9:=sizeOf9
 v9:=zeroValue9
 t37:=underlying25
 a37:=isAgg25
 z37:=sizeOf25
 v37:=zeroValue25 }
def laysSlJ14_ren:Go.Shelf.Ren:=⟨fun|14=>50|15=>88|n=>n,fun|26=>53|22=>25|3=>3|4=>4|0=>0|9=>9|20=>20|5=>5|n=>n,fun|n=>n⟩
theorem Tryz.DI:Go.Proofs.SlLaysJ.n14 prog laysSlJ14_ren:={
 mixed:=by kernel_rfl
 f14:=func50.trans (congrArg some (by kernel_rfl))
 f15:=func88.trans (congrArg some (by kernel_rfl))
 t0:=underlying0
 a0:=isAgg0
 z0:=sizeOf0
 v0:=zeroValue0
 t3:=underlying3
 a3:=isAgg3
 z3:=sizeOf3
 v3:=zeroValue3
 t4:=underlying4
 a4:=isAgg4
 z4:=sizeOf4
 v4:=zeroValue4
 t9:=underlying9
 a9:=isAgg9
 z9:=sizeOf9
 v9:=zeroValue9
 t20:=underlying20
 a20:=isAgg20
 z20:=sizeOf20
 v20:=zeroValue20
 t22:=underlying25
 a22:=isAgg25
 z22:=sizeOf25
 v22:=zeroValue25
 t26:=underlying53
 a26:=isAgg53
 z26:=sizeOf53
 v26:=zeroValue53
 t5:=underlying5
 z5:=sizeOf5
 i5:=by kernel_rfl }
open Go.RowKit Go.Lib in
theorem Tryz.bytes_Join_many (b o n c:Nat)(vs:List Value)(ls:List (List UInt8))(sv:Value)(sep:List UInt8)(w:World)(hn:ls.length=n)(h2:2<=n)(hP:Lib.PartsAt w ⟨b,o,none⟩ vs ls)(hcap:n<=c)(hS:Lib.HoldsBytes w sv sep)(hn47:n<=140737488355328)(iF:Lib.lens ls+sep.length*(n-1)<=140737488355328) :
  Calls prog 50 #[.slice (some ⟨b,o,none⟩) n c,sv] w λ e w'=>∃v',e=.returned v'/\Lib.FreshBytes w.heap.size w' v' (Lib.join ls sep)/\Below w.heap.size w w':=Any.bytes_Join_many Tryz.DI b o n c vs ls sv sep w hn h2 hP hcap hS hn47 iF
open Go.RowKit Go.Lib in
theorem Tryz.bytes_Join_none (p:Option Addr)(c:Nat)(sv:Value)(w:World) :
  Calls prog 50 #[.slice p 0 c,sv] w λ e w'=>e=.returned (.slice (some ⟨w.heap.size,0,none⟩) 0 0)/\w'=w.alloc (.cells #[] 5):=Any.bytes_Join_none Tryz.DI p c sv w
open Go.RowKit Go.Lib in
theorem Tryz.bytes_Join_one (b o c:Nat)(ad0:Addr)(c0:Nat)(l0:List UInt8)(sv:Value)(w:World)(jM:w.cell? ⟨b,o,none⟩=some (.slice (some ad0) l0.length c0))(hc:∀(i:Nat) x,l0[i]?=some x->w.cell? (ad0.add i)=some (.int .u8 (x.toNat:Int)))(h0:0<l0.length)(hs:l0.length<=140737488355328) :
  Calls prog 50 #[.slice (some ⟨b,o,none⟩) 1 c,sv] w λ e w'=>∃v',e=.returned v'/\Lib.FreshBytes w.heap.size w' v' l0/\Below w.heap.size w w':=Any.bytes_Join_one Tryz.DI b o c ad0 c0 l0 sv w jM hc h0 hs
open Go.RowKit Go.Lib in
theorem Tryz.bytes_Join_one_empty (b o c:Nat)(p0:Option Addr)(c0:Nat)(sv:Value)(w:World)(jM:w.cell? ⟨b,o,none⟩=some (.slice p0 0 c0)) :
  Calls prog 50 #[.slice (some ⟨b,o,none⟩) 1 c,sv] w λ e w'=>e=.returned (.slice none 0 0)/\w'=w:=Any.bytes_Join_one_empty Tryz.DI b o c p0 c0 sv w jM
theorem Tryz.bytes_Equal (v1 v2:Value)(xs ys:List Int)(w:World)(h1:(convert 25 9 v1).run prog w=.ok (.string (strOfNums xs)) w)(h2:(convert 25 9 v2).run prog w=.ok (.string (strOfNums ys)) w) :
  Calls prog 38 #[v1,v2] w λ e w'=>e=.returned (.bool (Lib.bytesOf xs==Lib.bytesOf ys))/\w'=w:=Any.bytes_Equal Tryz.VP v1 v2 xs ys w h1 h2
end Go.Proofs
namespace Go.Proofs.YtepdklfkegkojaaGreatDoor
open Go.Proofs.Tryz
open Go.RowKit
open Go.ChangeShapes
open Go.WideShapes
open Go.ChangeAt
theorem VQ {k:IntKind}{a b:Int}(h:a=b):Ending.returned (.int k a)=.returned (.int k b):=by rw[h]
theorem dT {a b:Bool}(h:a=b):Ending.returned (.bool a)=.returned (.bool b):=by rw[h]
theorem KW {H:Type}{enc:TypeId×Value->H}{P:Program}(hl:laidOutB P=true){W W':World}(hb:Below W.heap.size W W') :
  ∀ {ts:List TypeId} {vs:List Value} {ds:List (DataW H)} {ps:List MemPlace},(ts.all λ t=>P.readableRec t && decide (t<P.types.size))=true ->
   DataW.TrodAll enc P W 0 (λ _=>true) true ts vs ds ps->(∀x∈ps,x.block<W.heap.size)->DataW.TrodAll enc P W' 0 (λ b=>decide (b<W.heap.size)) true ts vs ds ps
 | [],[],[],_,_,h,_=>h
 | [],_ :: _,_,_,_,h,_=>h.elim
 | [],[],_ :: _,_,_,h,_=>h.elim
 | _ :: _,[],_,_,_,h,_=>h.elim
 | _ :: _,_ :: _,[],_,_,h,_=>h.elim
 | t :: ts,v :: vs,d :: ds,ps,ht,h,ae=>by
  obtain⟨p,q,h1,h2,rfl⟩:=h;simp only[List.all_cons,Bool.and_eq_true,decide_eq_true_eq]at ht;exact⟨p,q,Below.trod hl ht.1.1 ht.1.2 h1 hb (λ x hx=>ae x (List.mem_append_left _ hx)),KW hl hb ht.2 h2 (λ x hx=>ae x (List.mem_append_right _ hx)),rfl⟩
theorem VR {H:Type}{enc:TypeId×Value->H}{P:Program}{f:Func}{s:ChangeSpec}{W W':World}{args:Array Value}{ds gs:List (DataW H)}{before:List MemPlace}{tb:TypeId}
  (hl:laidOutB P=true) (j8:(f.params.toList.all λ t=>P.readableRec t && decide (t<P.types.size))=true) (ie:varsRowed P s.vars=true) (hrt:f.resultTypes=#[tb]) (htb:P.underlying tb=some .bool)
  (pU:(s.fn H (ds++gs)).results=[.lit (.bool true)]) (hargs:(s.fn H (ds++gs)).args=ds) (hvars:(s.fn H (ds++gs)).vars=gs)
  (hW:DataW.Whole enc P f.params.toList s.vars false W args.toList ds gs before) (hb:Below W.heap.size W W') :
  s.post enc P f false true false false W args (.bool true) W':=by
 have hW':=hW;obtain⟨p,q,hA,hV,rfl,_,_⟩:=hW;have ae:∀x∈p++q,x.block<W.heap.size:=λ x hx=>hW'.lt x hx
 refine⟨ds,gs,p++q,[],p,q,hW',?_,?_,?_,hb.frame _,λ h=>by cases h⟩
 ·
  rw[pU,hrt];exact trodAll_cons_mk (shut_bool htb _) trodAll_mk0
 ·
  rw[hargs];exact KW hl hb j8 hA (λ x hx=>ae x (List.mem_append_left _ hx))
 rw[hvars];exact Below.trodVars hl hb ie hV
def Calm (B:Nat) (W0:World):={ w':World // Below B W0 w' }
instance {B:Nat} {W0:World}:Nonempty (Calm B W0):=⟨⟨W0,aj _ _⟩⟩
theorem gR {P:Program}{B:Nat}{W0:World}{id:Nat}{Q:Exit->Act->World->Prop}{a:Act}{w:World}{l:List Oper}(hw:Below B W0 w)(hm:P.follows .mixedOrders=true)(hB:Region.lexB .any l.toArray=true)
  (h:wpQuiet P l.toArray (λ w'=>∃x:Calm B W0,w'=x.1) (λ a'=>∀w1,Below B W0 w1->Q .normal a' w1) l a):(Code.region id l.toArray true).wp P Q a w:=by
 refine wp_region_quiet (C:=λ w'=>∃x:Calm B W0,w'=x.1) hm hB ⟨⟨_,hw.drew⟩,rfl⟩ ?_
 have e:(λ a'=>∀w',(∃x:Calm B W0,w'=x.1)->Q .normal a' w')=(λ a'=>∀w1,Below B W0 w1->Q .normal a' w1):=by
  funext a'
  exact propext ⟨λ h w1 hb=>h w1 ⟨⟨w1,hb⟩,rfl⟩,λ h w' ⟨x,hx⟩=>hx▸h x.1 x.2⟩
 rw[e];simpa using h
theorem Calm.cell {B:Nat}{W0:World}(x:Calm B W0){b o:Nat}{v:Value}(h:W0.cell? ⟨b,o,none⟩=some v)(hb:b<B):x.1.cell? ⟨b,o,none⟩=some v:=by
 rw[x.2.cell hb];exact h
theorem Calm.call {P:Program}{f:FuncId}{args:Array Value}{B:Nat}{W0:World}{x:Calm B W0}{v:Value}(hB:B<=W0.heap.size)
  (h:Calls P f args x.1 λ e w'=>e=.returned v/\Below x.1.heap.size x.1 w'):Calls P f args x.1 λ e w''=>e=.returned v/\∃y:Calm B W0,w''=y.1 :=
 h.mono λ _ w' ⟨he,hb⟩=>⟨he,⟨w',x.2.trans (hb.mono (aF hB x.2.size))⟩,rfl⟩
theorem Calm.same {P:Program}{f:FuncId}{args:Array Value}{B:Nat}{W0:World}{x:Calm B W0}{v:Value}
  (h:Calls P f args x.1 λ e w'=>e=.returned v/\x.1=w'):Calls P f args x.1 λ e w''=>e=.returned v/\∃y:Calm B W0,w''=y.1 :=
 h.mono λ _ _ ⟨he,hb⟩=>⟨he,x,hb.symm⟩
def RowsIn {α:Type} (k:Nat) (cells:α->List Value) (sub:World->Nat->α->Prop) (w:World) (B:Nat) (ao:Option Addr) (xs:List α):Prop :=
 xs=[]∨∃b off,ao=some ⟨b,off,none⟩/\b<B/\∀(i:Nat) (x:α),xs[i]?=some x->(∀j,j<k->w.cell? ⟨b,off+i*k+j,none⟩=(cells x)[j]?)/\sub w B x
def Kept {α:Type} (sub:World->Nat->α->Prop):Prop:=∀w w' B B' x,sub w B x->Below B' w w'->B<=B'->sub w' B x
def Ft {α:Type} (sub:World->Nat->α->Prop):Prop:=∀w B B' x,sub w B x->B<=B'->sub w B' x
theorem RowsIn.below {α:Type}{k:Nat}{cells:α->List Value}{sub:World->Nat->α->Prop}(hs:Kept sub){w w':World}{B B':Nat}{ao:Option Addr}{xs:List α}(h:RowsIn k cells sub w B ao xs)(hb:Below B' w w')(hB:B<=B'):RowsIn k cells sub w' B ao xs:=by
 rcases h with h|⟨b,off,h1,h2,h3⟩
 · exact Or.inl h
 refine Or.inr ⟨b,off,h1,h2,λ i x hx=>⟨λ j hj=>?_,hs _ _ _ _ _ (h3 i x hx).2 hb hB⟩⟩;rw[hb.cell (p:=⟨b,_,none⟩) (by show b<B';omega)];exact(h3 i x hx).1 j hj
theorem RowsIn.mono {α:Type}{k:Nat}{cells:α->List Value}{sub:World->Nat->α->Prop}(hs:Ft sub){w:World}{B B':Nat}{ao:Option Addr}{xs:List α}(h:RowsIn k cells sub w B ao xs)(hB:B<=B'):RowsIn k cells sub w B' ao xs:=by
 rcases h with h|⟨b,off,h1,h2,h3⟩
 · exact Or.inl h
 exact Or.inr ⟨b,off,h1,by omega,λ i x hx=>⟨(h3 i x hx).1,hs _ _ _ _ (h3 i x hx).2 hB⟩⟩
theorem RowsIn.at {α:Type}{k:Nat}{cells:α->List Value}{sub:World->Nat->α->Prop}{w:World}{B:Nat}{ao:Option Addr}{xs:List α}(h:RowsIn k cells sub w B ao xs){i:Nat}{x:α}(hx:xs[i]?=some x) :
  ∃b off,ao=some ⟨b,off,none⟩/\b<B/\(∀j,j<k->w.cell? ⟨b,off+i*k+j,none⟩=(cells x)[j]?)/\sub w B x:=by
 rcases h with h|⟨b,off,h1,h2,h3⟩
 · rw[h]at hx;simp at hx
 exact⟨b,off,h1,h2,h3 i x hx⟩
theorem flat_get {α:Type}{k:Nat}{cells:α->List Value}(hk:∀x,(cells x).length=k):∀(xs:List α) (i:Nat) (x:α),xs[i]?=some x->∀j,j<k->(xs.flatMap cells)[i*k+j]?=(cells x)[j]?:=by
 intro xs;induction xs with
 | nil=>intro i x h;simp at h
 | cons a xs ih =>
  intro i x h j hj;rw[List.flatMap_cons];cases i with
  | zero =>
   obtain rfl:a=x:=by simpa using h
   rw[Nat.zero_mul,Nat.zero_add,gu (by rw[hk];exact hj)]
  | succ i =>
   rw[zd (by rw[hk,Nat.add_mul];omega),hk,show (i+1)*k+j-k=i*k+j by rw[Nat.add_mul];omega];exact ih i x (by simpa using h) j hj
theorem nT {α:Type}{k:Nat}{cells:α->List Value}(hk:∀x,(cells x).length=k)(xs:List α):(xs.flatMap cells).length=xs.length*k:=by
 induction xs with
 | nil=>simp
 | cons a xs ih=>rw[List.flatMap_cons,List.length_append,ih,hk,List.length_cons,Nat.add_mul];omega
theorem VS {w:World}{base e size n m g o c:Nat}{xs:List Value}(h:w.ownsRow base e size (.slice (some ⟨g,o,none⟩) m c) n xs):base<=g/\g<w.heap.size:=h.lt g rfl
theorem VT {α:Type}{k:Nat}{cells:α->List Value}{sub:World->Nat->α->Prop}(hk:∀x,(cells x).length=k){w:World}{base e n B:Nat}{v:Value}{xs:List α}(hn:xs.length=n)(h:w.ownsRow base e k v n (xs.flatMap cells))(hs:∀x∈xs,sub w B x)(hB:w.heap.size<=B) :
  ∃ao cap,v=.slice ao xs.length cap/\RowsIn k cells sub w B ao xs/\(ao=none->cap=0):=by
 subst hn;rcases oD h with ⟨rfl,hz⟩|⟨g,cap',rfl⟩
 · exact⟨none,0,by rw[hz],Or.inl (wU hz),λ _=>rfl⟩
 have hg:=(VS h).2;refine⟨_,_,rfl,Or.inr ⟨g,0,rfl,by omega,λ i x hx=>⟨λ j hj=>?_,hs x (List.mem_of_getElem? hx)⟩⟩,by simp⟩
 have hi:i<xs.length:=by
  rcases Nat.lt_or_ge i xs.length with hh|hh
  · exact hh
  rw[wV hh]at hx;cases hx
 have h2:i*k+j<xs.length*k:=by
  have:=Nat.mul_le_mul_right k (show i+1<=xs.length from hi);rw[Nat.add_mul]at this;omega
 rw[Nat.zero_add,ay h _ h2];exact flat_get hk xs i x hx j hj
def bv (x:Int):Value:=.int .u8 x
def BytesIn (w:World) (B:Nat) (ao:Option Addr) (xs:List Int):Prop :=
 xs=[]∨∃b off,ao=some ⟨b,off,none⟩/\b<B/\∀i,i<xs.length->w.cell? ⟨b,off+i,none⟩=some (.int .u8 (xs.getD i 0))
theorem BytesIn.below {w w':World}{B B':Nat}{ao:Option Addr}{xs:List Int}(h:BytesIn w B ao xs)(hb:Below B' w w')(hB:B<=B'):BytesIn w' B ao xs:=by
 rcases h with h|⟨b,off,h1,h2,h3⟩
 · exact Or.inl h
 exact Or.inr ⟨b,off,h1,h2,λ i hi=>by rw[hb.cell (p:=⟨b,_,none⟩) (by show b<B';omega)];exact h3 i hi⟩
theorem BytesIn.mono {w:World}{B B':Nat}{ao:Option Addr}{xs:List Int}(h:BytesIn w B ao xs)(hB:B<=B'):BytesIn w B' ao xs:=by
 rcases h with h|⟨b,off,h1,h2,h3⟩
 · exact Or.inl h
 exact Or.inr ⟨b,off,h1,by omega,h3⟩
def BytesWf (xs:List Int):Prop:=∀x∈xs,0<=x/\x<256
theorem r7 (l:List Int):∀u∈l.map bv,u.oneCell'=true:=by
 intro u hu;obtain⟨x,_,rfl⟩:=List.mem_map.1 hu;rfl
theorem ze {w w1:World}{B:Nat}{ao:Option Addr}{xs:List Int}(h:BytesIn w B ao xs)(hb:Below B w w1){ad:Addr}(kM:ao=some ad){j:Nat}{u:Value}(hu:(xs.map bv)[j]?=some u):w1.cell? (ad.add j)=some u:=by
 rcases h with h0|⟨b,off,h1,h2,h3⟩
 · rw[h0]at hu;simp at hu
 rw[h1]at kM;obtain rfl:=vj kM
 have hj:j<xs.length:=by
  rcases Nat.lt_or_ge j xs.length with h|h
  · exact h
  rw[wV (by simpa using h)]at hu;cases hu
 rw[Go.WideShapes.add_plain,hb.cell (p:=⟨b,_,none⟩) h2,h3 j hj];simp[List.getElem?_map,bu hj]at hu;rw[<-hu];simp[bv,List.getD,bu hj]
theorem DJ {w:World}{base:Nat}{v:Value}{l:List Int}(h:w.ownsRow base 5 1 v l.length (l.map bv)):∃ao cap,v=.slice ao l.length cap/\BytesIn w w.heap.size ao l:=by
 rcases oD h with ⟨rfl,hz⟩|⟨g,cap',rfl⟩
 · exact⟨none,0,by rw[hz],Or.inl (wU hz)⟩
 have hg:g<w.heap.size:=by
  rcases h.2 with ⟨h',_⟩|⟨g',cap',cur,h',_,h3,_⟩
  · simp at h'
  simp only[Value.slice.injEq,Option.some.injEq,Addr.mk.injEq,and_true,true_and]at h';obtain⟨rfl,rfl⟩:=h';exact(Array.getElem?_eq_some_iff.1 h3).1
 refine⟨_,_,rfl,Or.inr ⟨g,0,rfl,hg,λ i hi=>?_⟩⟩;rw[Nat.zero_add,ay h i (by omega)];simp[bv,List.getD,bu hi]
theorem infoByte:(prog.info? 5).map (λ i=>(i.zero,i.size,i.bytes))=some (some (.int .u8 0),1,1):=by kernel_rfl
theorem Fu {w:World}{ops:Array Oper}{rest:List Oper}{o:Oper}{a:Act}{Q:Exit->Act->World->Prop}(jN:o.guard=none)(s x:Operand)
  (ho:o.op=.call { callee:=.builtin .append,args:=#[s,x],argTypes:=#[25,25] })
  (base:Nat) (v:Value) (l:List Int) (hs:a.eval s=v) (az:w.ownsRow base 5 1 v l.length (l.map bv))
  (ao:Option Addr) (cap:Nat) (xs:List Int) (hx:a.eval x=.slice ao xs.length cap) (B:Nat) (gq:BytesIn w B ao xs) (bm:ao=none->cap=0) (fV:l.length+xs.length<=140737488351232) (nw:base<=w.heap.size)
  (h:∀v' w',w'.ownsRow base 5 1 v' (l++xs).length ((l++xs).map bv)->w.grownBy w' v.ownBlock->wpList prog ops Q rest (a.put o.dst v') w'):wpList prog ops Q (o :: rest) a w:=by
 obtain⟨i0,hi,bo,bp,aU⟩:=info_parts infoByte;cases ao with
 | none =>
  have kv:xs=[]:=by
   rcases gq with h|⟨b,off,h1,_⟩
   · exact h
   cases h1
  subst kv;rw[bm rfl]at hx;refine wpList_append_own_none jN s x _ ho base 5 i0 1 hJ hi v l.length _ hs az hx ?_;refine h v w (by simpa using az) ?_;exact World.grownBy.refl _ _
 | some ad =>
  refine wpList_append_own _ jN s x _ ho base 5 i0 (.int .u8 0) 1 1 hJ hi bo bp aU rfl (by decide) v l.length _ hs az ad xs.length cap (xs.map bv) hx (by simp) ?_ (r7 _) (by unfold maxLen;omega) (by omega) nw ?_
  ·
   intro j u hu;exact ze gq (aj _ _) rfl hu
  intro v' w' h1 h2 _;refine h v' w' ?_ h2;rw[List.length_append,List.map_append];exact h1
structure Va where
 kind:Int
 num:Int
 text:ByteArray
def jl (v:Va):List Value:=[.int .u8 v.kind,.int .i64 v.num,.string v.text]
theorem oF (v:Va):(jl v).length=3:=rfl
def gb (x:Int):List Value:=[.int .i64 x]
theorem mA (x:Int):(gb x).length=1:=rfl
def mB {α:Type} (_:World) (_:Nat) (_:α):Prop:=True
theorem cn {α:Type}:Kept (mB (α:=α)):=λ _ _ _ _ _ _ _ _=>trivial
theorem cK {α:Type}:Ft (mB (α:=α)):=λ _ _ _ _ _ _=>trivial
structure En where
 term:Int
 kind:Int
 session:Int
 seq:Int
 ck:Int
 text:ByteArray
 fQ:Option Addr
 args:List Va
 fw:Nat
 num:Int
 hU:Option Addr
 vs:List Int
 ce:Nat
def bW (e:En):List Value:=[.int .i64 e.term,.int .u8 e.kind,.int .i64 e.session,.int .i64 e.seq,.int .u8 e.ck,.string e.text,.slice e.fQ e.args.length e.fw,.int .i64 e.num,.slice e.hU e.vs.length e.ce]
theorem mh (e:En):(bW e).length=9:=rfl
def iz (w:World) (B:Nat) (ao:Option Addr) (xs:List Va):Prop:=RowsIn 3 jl mB w B ao xs
def gS (w:World) (B:Nat) (ao:Option Addr) (xs:List Int):Prop:=RowsIn 1 gb mB w B ao xs
def rG (w:World) (B:Nat) (e:En):Prop:=iz w B e.fQ e.args/\gS w B e.hU e.vs
def kV (w:World) (B:Nat) (ao:Option Addr) (xs:List En):Prop:=RowsIn 9 bW rG w B ao xs
theorem iI:Kept rG:=λ _ _ _ _ _ h hb hB=>⟨h.1.below cn hb hB,h.2.below cn hb hB⟩
theorem mi:Ft rG:=λ _ _ _ _ h hB=>⟨h.1.mono cK hB,h.2.mono cK hB⟩
structure dX where
 term:Int
 kind:Int
 session:Int
 seq:Int
 ck:Int
 text:ByteArray
 args:List Va
 num:Int
 vs:List Int
def En.plain (e:En):dX:=⟨e.term,e.kind,e.session,e.seq,e.ck,e.text,e.args,e.num,e.vs⟩
def tv (e:En):Value:=.agg #[.int .i64 e.term,.int .u8 e.kind,.int .i64 e.session,.int .i64 e.seq,.int .u8 e.ck,.string e.text,.slice e.fQ e.args.length e.fw,.int .i64 e.num,.slice e.hU e.vs.length e.ce]
theorem DK {α:Type}{k:Nat}{cells:α->List Value}{sub:World->Nat->α->Prop}(hk:∀x,(cells x).length=k)(h0:0<k){w w1:World}{B:Nat}{ao:Option Addr}{xs:List α}(h:RowsIn k cells sub w B ao xs)(hb:Below B w w1){ad:Addr}(kM:ao=some ad){j:Nat}{u:Value}(hu:(xs.flatMap cells)[j]?=some u):w1.cell? (ad.add j)=some u:=by
 have hj:j<xs.length*k:=by
  rcases Nat.lt_or_ge j (xs.length*k)with h|h
  · exact h
  rw[wV (by rw[nT hk];exact h)]at hu;cases hu
 have hq:j / k<xs.length:=Nat.div_lt_of_lt_mul (by rw[Nat.mul_comm];exact hj);have hx:xs[j / k]?=some xs[j / k]:=bu hq;obtain⟨b,off,h1,h2,h3,_⟩:=h.at hx;have eQ:j=j / k*k+j % k:=by rw[Nat.mul_comm];exact(Nat.div_add_mod j k).symm
 have hm:j % k<k:=Nat.mod_lt _ h0;have hf:=flat_get hk xs (j / k) _ hx (j % k) hm;rw[<-eQ]at hf;have hc:=h3 (j % k) hm;rw[h1]at kM;obtain rfl:=vj kM;rw[Go.WideShapes.add_plain,hb.cell (p:=⟨b,_,none⟩) h2];have e:off+j=off+j / k*k+j % k:=by omega
 rw[e,hc,<-hf,hu]
theorem tw {α:Type}{k bytes:Nat}{cells:α->List Value}{sub:World->Nat->α->Prop}{z:Value}{T E:TypeId}{w:World}{ops:Array Oper}{rest:List Oper}{o:Oper}{a:Act}{Q:Exit->Act->World->Prop}(hT:prog.underlying T=some (.slice E))
  (hinfo:(prog.info? E).map (λ i=>(i.zero,i.size,i.bytes))=some (some z,k,bytes)) (hzs:z.cells.size=k) (h0:0<k) (hk:∀x,(cells x).length=k) (ly:∀x,∀u∈cells x,u.oneCell'=true) (jN:o.guard=none) (s x:Operand)
  (ho:o.op=.call { callee:=.builtin .append,args:=#[s,x],argTypes:=#[T,T] })
  (base:Nat) (v:Value) (n:Nat) (l:List Value) (hs:a.eval s=v) (az:w.ownsRow base E k v n l)
  (ao:Option Addr) (m cap:Nat) (xs:List α) (hm:xs.length=m) (hx:a.eval x=.slice ao m cap) (B:Nat) (gq:RowsIn k cells sub w B ao xs) (bm:ao=none->cap=0) (hmax:n+m<=maxLen) (fV:(n+m)*bytes<=140737488355328) (nw:base<=w.heap.size)
  (h:∀v' w',w'.ownsRow base E k v' (n+m) (l++xs.flatMap cells)->w.grownBy w' v.ownBlock->(v'.ownBlock=v.ownBlock∨v'.ownBlock=some w.heap.size)->wpList prog ops Q rest (a.put o.dst v') w'):wpList prog ops Q (o :: rest) a w:=by
 obtain⟨i0,hi,bo,bp,aU⟩:=info_parts hinfo;subst hm;cases ao with
 | none =>
  have kv:xs=[]:=by
   rcases gq with h|⟨b,off,h1,_⟩
   · exact h
   cases h1
  subst kv;rw[bm rfl]at hx;refine wpList_append_own_none jN s x _ ho base E i0 k hT hi v n _ hs az hx ?_;exact h v w (by simpa using az) (World.grownBy.refl _ _) (Or.inl rfl)
 | some ad =>
  refine wpList_append_own_at _ jN s x _ ho base E i0 z k bytes hT hi bo bp aU hzs h0 v n _ hs az ad xs.length cap (xs.flatMap cells) hx (nT hk xs) ?_ ?_ hmax fV nw ?_
  ·
   intro j u hu;exact DK hk h0 gq (aj _ _) rfl hu
  ·
   intro u hu;obtain⟨y,_,hy⟩:=List.mem_flatMap.1 hu;exact ly y u hy
  intro v' w' h1 h2 _ h3;exact h v' w' h1 h2 h3
theorem jz {w:World}{B E SZ n:Nat}{v:Value}{xs:List Value}(h:w.ownsRow B E SZ v n xs):∃a c,v=.slice a n c:=by
 rcases oD h with ⟨rfl,hz⟩|⟨g,c,rfl⟩
 · exact⟨none,0,by rw[hz]⟩
 exact⟨_,c,rfl⟩
theorem zf:(prog.info? 50).map (λ i=>(i.zero,i.size,i.bytes))=some (some (.agg #[.int .u8 0,.int .i64 0,.string ByteArray.empty]),3,32):=by kernel_rfl
theorem tX:(prog.info? 46).map (λ i=>(i.zero,i.size,i.bytes))=some (some (.agg #[.int .i64 0,.int .u8 0,.int .i64 0,.int .i64 0,.int .u8 0,.string ByteArray.empty,.slice none 0 0,.int .i64 0,.slice none 0 0]),9,112):=by kernel_rfl
theorem tY:(prog.info? 3).map (λ i=>(i.zero,i.size,i.bytes))=some (some (.int .i64 0),1,8):=by kernel_rfl
theorem DL (x:Va):∀u∈jl x,u.oneCell'=true:=by intro u hu;simp[jl]at hu;rcases hu with rfl|rfl|rfl<;>rfl
theorem Be (x:Int):∀u∈gb x,u.oneCell'=true:=by intro u hu;simp[gb]at hu;rw[hu];rfl
theorem DM (x:En):∀u∈bW x,u.oneCell'=true:=by intro u hu;simp[bW]at hu;rcases hu with rfl|rfl|rfl|rfl|rfl|rfl|rfl|rfl|rfl<;>rfl
def au (size:Nat) (n:Int):List Int:=(List.range size).map λ j=>n / 2 ^ (8*(size-1-j)) % 256
theorem cV (size:Nat)(n:Int):(au size n).length=size:=by simp[au]
theorem Fv (size:Nat)(n:Int)(k:Nat)(hk:k<size):(au size n).take (k+1)=(au size n).take k++[n / 2 ^ (8*(size-1-k)) % 256]:=by
 rw[iJ (by rw[cV];exact hk)];simp[au]
theorem lH (size:Nat)(n:Int):BytesWf (au size n):=λ x hx=>by
 obtain⟨j,_,rfl⟩:=List.mem_map.1 hx;omega
def lJ (s:ByteArray):List Int:=s.data.toList.map λ c=>(c.toNat:Int)
theorem KX (s:ByteArray):(lJ s).length=s.size:=by simp[lJ]
theorem VU (s:ByteArray):BytesWf (lJ s):=λ x hx=>by
 obtain⟨c,_,rfl⟩:=List.mem_map.1 hx;have:=UInt8.toNat_lt c;omega
def m9 (s:ByteArray):List Int:=au 4 s.size++lJ s
def fp (v:Va):List Int:=v.kind :: (if v.kind=1 then au 8 v.num else if v.kind=2 then m9 v.text else [])
def dY (vs:List Va):List Int:=au 4 vs.length++vs.flatMap fp
def jT (ck:Int) (text:ByteArray) (num:Int) (args:List Va):List Int:=ck :: (m9 text++(au 8 num++dY args))
def df (e:dX):List Int:=au 8 e.term++(e.kind :: (au 8 e.session++(au 8 e.seq++(jT e.ck e.text e.num e.args++(au 4 e.vs.length++e.vs.flatMap (au 8))))))
theorem tZ (s:ByteArray):(m9 s).length=4+s.size:=by rw[m9,List.length_append,cV,KX]
theorem KY (v:Va):(fp v).length<=9+v.text.size:=by
 unfold fp;rw[List.length_cons];split
 · rw[cV];omega
 split
 · rw[tZ];omega
 simp;omega
theorem VV (v:Va):1<=(fp v).length:=by unfold fp;rw[List.length_cons];omega
def cC (l:List Int):Int:=l.foldl (λ n c=>n*256+c) 0
theorem Bf (l:List Int)(c:Int):cC (l++[c])=cC l*256+c:=by simp[cC]
theorem zg (size:Nat)(n:Int):cC (au size n)=n % 256 ^ size:=by
 have key:∀k,k<=size->cC ((au size n).take k)=n / 2 ^ (8*(size-k)) % 256 ^ k:=by
  intro k;induction k with
  | zero=>intro _;simp[cC,Int.emod_one]
  | succ k ih =>
   intro hk;rw[Fv size n k hk,Bf,ih (by omega)];have e1:size-k=(size-(k+1))+1:=by omega
   have e2:size-1-k=size-(k+1):=by omega
   rw[e1,e2];obtain⟨m,hm⟩:∃m,m=n / 2 ^ (8*(size-(k+1))):=⟨_,rfl⟩
   have e3:n / 2 ^ (8*(size-(k+1)+1))=m / 256:=by
    rw[hm,Int.ediv_ediv_of_nonneg (Int.le_of_lt (Int.pow_pos (by decide)))];congr 1
    rw[Nat.mul_add,Int.pow_add];rfl
   rw[e3,<-hm,Int.pow_succ];have hp:(0:Int)<256 ^ k:=Int.pow_pos (by decide);generalize (256:Int) ^ k=p at hp;have h1:=Int.mul_ediv_add_emod m 256;have h2:=Int.mul_ediv_add_emod (m / 256) p;have h4:=Int.emod_nonneg (m / 256) (show p≠0 by omega);have h5:=Int.emod_lt_of_pos (m / 256) hp;have h6:=Int.emod_nonneg m (show (256:Int)≠0 by decide);have h7:=Int.emod_lt_of_pos m (show (0:Int)<256 by decide)
   have e:m=(m / 256 % p*256+m % 256)+(p*256)*(m / 256 / p):=by
    have:p*256*(m / 256 / p)=256*(p*(m / 256 / p)):=by rw[Int.mul_comm p 256,Int.mul_assoc]
    rw[this];omega
   have ae:m / 256 % p*256+m % 256<p*256:=by
    have:m / 256 % p*256<=(p-1)*256:=Int.mul_le_mul_of_nonneg_right (by omega) (by decide);have e9:(p-1)*256=p*256-256:=by rw[Int.sub_mul];omega
    omega
   have hge:0<=m / 256 % p*256+m % 256:=by
    have:=Int.mul_nonneg h4 (show (0:Int)<=256 by decide);omega
   have:=Int.add_mul_emod_self_left (m / 256 % p*256+m % 256) (p*256) (m / 256 / p);rw[<-e,Int.emod_eq_of_lt hge ae]at this;exact this.symm
 have:=key size (aa _);rw[fE (by rw[cV];exact aa _),Nat.sub_self]at this;simpa using this
theorem Fw (l:List Int)(h:BytesWf l):0<=cC l/\cC l<256 ^ l.length:=by
 have key:∀r:List Int,BytesWf r.reverse->0<=cC r.reverse/\cC r.reverse<256 ^ r.length:=by
  intro r;induction r with
  | nil=>intro _;simp[cC]
  | cons c r ih =>
   intro hw;rw[List.reverse_cons]at hw ⊢;have h1:=ih (λ x hx=>hw x (List.mem_append_left _ hx));have h2:=hw c (by simp);rw[Bf,List.length_cons,Int.pow_succ];generalize (256:Int) ^ r.length=p at h1;generalize cC r.reverse=g at h1;constructor
   · have:=Int.mul_nonneg h1.1 (show (0:Int)<=256 by decide);omega
   have:g*256<=(p-1)*256:=Int.mul_le_mul_of_nonneg_right (by omega) (by decide);have e9:(p-1)*256=p*256-256:=by rw[Int.sub_mul];omega
   omega
 have:=key l.reverse (by rwa [List.reverse_reverse]);rwa [List.reverse_reverse,List.length_reverse]at this
def vk (i:Nat):Int:=IntKind.u64.wrap ((8000024+(i:Int))*11400714819323198485) / 72057594037927936 % 256
theorem VW (i:Int)(h0:0<=i)(h1:i<=1000000000)(w:World) :
  Calls prog 91 #[.int .i64 1,.int .i64 i] w λ e w'=>e=.returned (.int .i64 (8000024+i))/\w=w':=by
 go_enter func91,ntmps91
 go_wp2
 go_ret;exact⟨rfl,rfl⟩
theorem KZ (i:Nat)(h1:i<=1000000000)(w:World) :
  Calls prog 52 #[.int .i64 1,.int .i64 i] w λ e w'=>e=.returned (.int .u8 (vk i))/\w=w':=by
 go_enter func52,ntmps52
 go_wp2_with (go_at_call 91;(with_reducible refine(VW i (by omega) (by omega) _).mono ?_);rintro e w' ⟨rfl,rfl⟩)
 go_ret;exact⟨rfl,rfl⟩
theorem VX (i:Int)(m:Nat)(h:i=m)(h1:m<=1000000000)(w:World) :
  Calls prog 52 #[.int .i64 1,.int .i64 i] w λ e w'=>e=.returned (.int .u8 (vk m))/\w=w':=by
 subst h;exact KZ m h1 w
def t7 (k:Nat):List Int:=(List.range k).map vk
theorem VY (k:Nat):t7 (k+1)=t7 k++[vk k]:=by simp[t7,List.range_succ]
def oG (w:World) (B g:Nat) (xs:List Int):Prop :=
 w.ownsRow B 5 1 (.slice (some ⟨g,0,none⟩) (xs.length+12) (xs.length+12)) (xs.length+12) ((xs++t7 12).map bv)
theorem DN {w:World}{base e size n g c:Nat}{xs:List Value}(h:w.ownsRow base e size (.slice (some ⟨g,0,none⟩) n c) n xs):g<w.heap.size:=by
 rcases h.2 with ⟨h',_⟩|⟨g',cap',cur,h',_,h3,_⟩
 · simp at h'
 simp only[Value.slice.injEq,Option.some.injEq,Addr.mk.injEq,and_true,true_and]at h';obtain⟨rfl,rfl⟩:=h';exact(Array.getElem?_eq_some_iff.1 h3).1
def VZ (xs:List Int) (w:World) (e:Ending) (w':World):Prop :=
 ∃g,e=.returned (.slice (some ⟨g,0,none⟩) xs.length (xs.length+12))/\w.heap.size<=g/\g<w'.heap.size/\oG w' w.heap.size g xs/\Below w.heap.size w w'
def wW (w:World) (g:Nat) (xs:List Int) (k:Nat):Prop :=
 w.ownsRow g 5 1 (.slice (some ⟨g,0,none⟩) (xs.length+k) (xs.length+12)) (xs.length+k) ((xs++t7 k).map bv)
theorem V0 {w:World}{g k:Nat}{xs:List Int}(h:w.ownsRow g 5 1 (.slice (some ⟨g,0,none⟩) (xs.length+k+1) (xs.length+12)) (xs.length+k+1) (xs.map bv++((t7 k).map bv++[.int .u8 (vk k)]))):wW w g xs (k+1):=by
 unfold wW;rw[VY,List.map_append,List.map_append,<-Nat.add_assoc];exact h
theorem wW.lt {w:World}{g k:Nat}{xs:List Int}(h:wW w g xs k):g<w.heap.size:=DN h
theorem K9 (ao:Option Addr)(cap:Nat)(xs:List Int)(w:World)(hx:BytesIn w w.heap.size ao xs)(bm:ao=none->cap=0)(hl:xs.length<=1099511627776) :
  Calls prog 24 #[.slice ao xs.length cap] w (VZ xs w):=by
 obtain⟨i0,hi,bo,bp,aU⟩:=info_parts infoByte;have hm1:(0:Int)<=(xs.length:Int)+12:=by omega
 have HX:=Hd hx;clear hx;go_enter func24,ntmps24
 go_wp2_with (at_make;refine wpList_make_own _ rfl _ _ 25 rfl w.heap.size 5 i0 (.int .u8 0) 1 hJ hi bo bp .i64 .i64 _ (xs.length+12) rfl rfl (by omega) (by rw[aU];omega) (by unfold maxLen;omega) (aa _) ?_)
 intro w1 tu kN;have ba:Below w.heap.size w w1:=(aj _ _).grown kN (aa _) (λ k hk=>by cases hk);have j9:ao=none->xs.length=0/\cap=0:=λ h=>⟨by rcases HX.out with h0|⟨b,off,h1,_⟩;(rw[h0];rfl);(rw[h]at h1;cases h1),bm h⟩
 have jM:∀ad,ao=some ad->∀(j:Nat) u,(xs.map bv)[j]?=some u->w1.cell? (ad.add j)=some u:=λ ad kM j u hu=>ze HX.out ba kM hu
 go_wp2_with (at_builtin;refine wpList_append_fits_any _ rfl (.tmp 9) (.tmp 10) 25 rfl w.heap.size 5 i0 1 hJ hi bp w.heap.size 0 (xs.length+12) [] rfl tu ao xs.length cap (xs.map bv) rfl (by simp) j9 jM (r7 _) (by omega) ?_)
 intro w2 kO ax;have am:Below w.heap.size w w2:=ba.grown ax (ba.size) (λ k hk=>by cases hk;exact aa _);clear j9 jM tu kN ax ba;have hgs:w.heap.size<w2.heap.size:=DN kO;go_wp2_with fail
 go_loopw [3,4] (λ v i wr=>∃k:Nat,k<=12/\i=.int .i64 k/\v=.slice (some ⟨w.heap.size,0,none⟩) (xs.length+k) (xs.length+12)/\wW wr w.heap.size xs k/\Below w.heap.size w wr) (λ _ i _=>12-(intOf i).toNat)
 exact⟨0,by omega,rfl,rfl,by simpa[wW,t7]using kO,am⟩
 obtain⟨k,hk,rfl,rfl,az,ag⟩:=hrel;clear kO am hgs;by_cases ae:k<12
 ·
  have hs:=ag.size;go_wp2_with (first|(go_at_call 52;(with_reducible refine(KZ k (by omega) _).mono ?_);rintro e w' ⟨rfl,rfl⟩)|(at_builtin;refine wpList_append_fits _ rfl (.tmp 16) (.tmp 19) 25 rfl w.heap.size 5 i0 1 hJ hi bp w.heap.size (xs.length+k) (xs.length+12) ((xs++t7 k).map bv) rfl (nU az _) ⟨wr.heap.size,0,none⟩ 1 1 [.int .u8 (vk k)] rfl rfl (cell_one_new _ _ _) (by simp[Value.oneCell']) (by omega) ?_))
  intro w3 bj aL;have ap:Below w.heap.size w w3:=(ag.alloc hs _).grown aL (by simp;omega) (λ k hk=>by cases hk;exact aa _);have tz:wW w3 w.heap.size xs (k+1):=V0 bj;clear az bj aL;go_wp2_with fail
  go_roundw
  exact⟨k+1,by omega,by go_num,by rw[Nat.add_assoc],tz,ap⟩
  simp[intOf];omega
 obtain rfl:k=12:=by omega
 have nx:=az.lt;go_wp2_with fail
 go_ret;exact⟨w.heap.size,rfl,aa _,nx,az,ag⟩
theorem oG.below {w w':World}{B g B':Nat}{xs:List Int}(h:oG w B g xs)(hb:Below B' w w')(hg:g<B'):oG w' B g xs:=by
 refine⟨h.1,?_⟩;rcases h.2 with ⟨h',_⟩|⟨g',cap',cur,h',h2,h3,h4⟩
 · simp at h'
 have e:g'=g:=by simp at h';exact h'.1.symm
 exact Or.inr ⟨g',cap',cur,h',h2,by rw[hb.block g' (by omega)];exact h3,h4⟩
theorem oG.bytes {w:World}{B g:Nat}{xs:List Int}(h:oG w B g xs):BytesIn w (g+1) (some ⟨g,0,none⟩) xs:=by
 refine Or.inr ⟨g,0,rfl,by omega,λ i hi=>?_⟩;rw[Nat.zero_add,ay h i (by omega)];rw[List.map_append,gu (by simpa using hi)];simp[bv,List.getD,bu hi]
theorem oG.mark {w:World}{B g:Nat}{xs:List Int}(h:oG w B g xs){i:Nat}(hi:i<12):w.cell? ⟨g,xs.length+i,none⟩=some (.int .u8 (vk i)):=by
 rw[ay h _ (by omega)];simp[bv,t7,hi]
theorem oG.lt {w:World}{B g:Nat}{xs:List Int}(h:oG w B g xs):g<w.heap.size:=DN h
theorem La (ao:Option Addr)(cap g B:Nat)(xs:List Int)(w:World)(hx:BytesIn w w.heap.size ao xs)(hL:oG w B g xs)(hl:xs.length<=1099511627776) :
  Calls prog 25 #[.slice (some ⟨g,0,none⟩) xs.length (xs.length+12:Nat),.slice ao xs.length cap] w λ e w'=>e=.returned (.bool true)/\Below w.heap.size w w':=by
 have HX:=Hd hx;clear hx;go_enter func25,ntmps25
 go_wp2_with fail
 go_loopw [6] (λ i wr=>∃k:Nat,k<=xs.length+12/\i=.int .i64 k/\Below w.heap.size w wr) (λ i _=>xs.length+12-(intOf i).toNat)
 exact⟨0,by omega,rfl,aj _ _⟩
 obtain⟨k,hk,rfl,ag⟩:=hrel;by_cases ae:k<xs.length
 ·
  rcases HX.out with h0|⟨b,off,rfl,hb,hc⟩
  · rw[h0]at ae;simp at ae
  obtain⟨x,hxe⟩:∃x,x=xs.getD k 0:=⟨_,rfl⟩;have c0:∀x:Calm w.heap.size w,x.1.cell? ⟨b,off+k,none⟩=some (.int .u8 (xs.getD k 0)):=λ x=>x.cell (hc k ae) hb
  have c1:∀x:Calm w.heap.size w,x.1.cell? ⟨g,k,none⟩=some (.int .u8 (xs.getD k 0)):=λ x=>x.cell (by
   rcases hL.bytes with h0|⟨b',off',h1,_,h3⟩
   · rw[h0]at ae;simp at ae
   cases h1;simpa using h3 k ae) hL.lt
  rw[<-hxe]at c0 c1;clear hxe hc;have i1:(k:Int)<xs.length:=by omega
  have d1:decide (xs.length<=k)=false:=by simp;omega
  go_wp2_with fail
  refine gR (B:=w.heap.size) (W0:=w) ag (by kernel_rfl) (by kernel_rfl) ?_;repeat(go_big_quiet_step (fail))
  refine wpQuiet_nil ?_;intro w5 ak;clear c0 c1;go_wp2_with fail
  go_roundw
  exact⟨k+1,by omega,by go_num,ak⟩
  simp[intOf];omega
 by_cases kP:k<xs.length+12
 ·
  obtain⟨m,rfl⟩:∃m,k=xs.length+m:=⟨k-xs.length,by omega⟩;have c1:∀x:Calm w.heap.size w,x.1.cell? ⟨g,xs.length+m,none⟩=some (.int .u8 (vk m)):=λ x=>x.cell (hL.mark (by omega)) hL.lt
  have i1:¬(xs.length:Int)+m<xs.length:=by omega
  have i2:(xs.length:Int)+m<xs.length+12:=by omega
  have d1:decide ((xs.length:Int)+m<xs.length)=false:=by simp;omega
  have n1:((xs.length:Int)+m).toNat=xs.length+m:=by omega
  have n2:IntKind.i64.wrap (m:Int)=m:=jU _ (by omega);have n3:(0:Int)<=(xs.length:Int)+m:=by omega
  go_wp2_with fail
  refine gR (B:=w.heap.size) (W0:=w) ag (by kernel_rfl) (by kernel_rfl) ?_;repeat(go_big_quiet_step ((go_at_call 52;exact Calm.same (VX _ m (by omega) (by omega) _))))
  refine wpQuiet_nil ?_;intro w5 ak;clear c1;go_wp2_with fail
  go_roundw
  exact⟨xs.length+m+1,by omega,by go_num,ak⟩
  simp[intOf];omega
 go_wp2_with fail
 go_ret;exact⟨rfl,ag⟩
end Go.Proofs.YtepdklfkegkojaaGreatDoor
