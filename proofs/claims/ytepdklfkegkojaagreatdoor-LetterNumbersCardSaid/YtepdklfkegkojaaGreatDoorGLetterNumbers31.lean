/- Parts of one proof. Conditions: as each says. -/
import Derived.Test.YtepdklfkegkojaaGreatDoorGLetterNumbers0
import Derived.Test.YtepdklfkegkojaaGreatDoorGLetterNumbers16
import Derived.Test.YtepdklfkegkojaaGreatDoorGLetterNumbers12
set_option linter.all false
set_option maxHeartbeats 16000000
set_option maxRecDepth 100000
namespace Go.Proofs.YtepdklfkegkojaaGreatDoor
open Go.Proofs.Tryz
open Go.RowKit
theorem QQ:(prog.info? 32).map (λ i=>(i.zero,i.size,i.bytes))=some (some (.agg #[.int .u8 0,.int .i64 0,.int .i64 0,.int .i64 0,.int .i64 0,.int .i64 0,.bool false,.int .i64 0,.int .i64 0,.slice none 0 0,.slice none 0 0,.slice none 0 0]),12,144):=by kernel_rfl
def bX (k i:Nat):List Value:=[.int .u8 0,.int .i64 0,.int .i64 0,.int .i64 (bt k i),.int .i64 0,.int .i64 0,.bool false,.int .i64 0,.int .i64 0,.slice none 0 0,.slice none 0 0,.slice none 0 0]
theorem dd (k i:Nat):(bX k i).length=12:=rfl
theorem E6 (a b:Int)(k i:Nat)(ha:a=k)(hb:b=i)(hk:k<=1000000)(hi:i<=2000000000000)(w:World) :
  Calls prog 176 #[.int .i64 a,.int .i64 b] w λ e w'=>e=.returned (.agg #[.int .u8 0,.int .i64 0,.int .i64 0,.int .i64 (bt k i),.int .i64 0,.int .i64 0,.bool false,.int .i64 0,.int .i64 0,.slice none 0 0,.slice none 0 0,.slice none 0 0])/\Below w.heap.size w w':=by
 have hm:0<=bt k i/\bt k i<=4000000000000:=by unfold bt;omega
 have hc:=Cw a b k i ha hb hk hi;generalize bt k i=m at hm hc;have HC:=Hd hc;clear hc ha hb;go_enter func176,ntmps176
 go_wp2_with fail
 refine(HC.out _).mono ?_;rintro e w' ⟨rfl,rfl⟩;go_wp2_with fail
 exact bodyPost_ret (v:=.agg #[.int .u8 0,.int .i64 0,.int .i64 0,.int .i64 m,.int .i64 0,.int .i64 0,.bool false,.int .i64 0,.int .i64 0,.slice none 0 0,.slice none 0 0,.slice none 0 0]) (by first|(simp[results,results176,go_sem];done)|(simp[results,results176,go_sem];rfl)) rfl ⟨rfl,(aj _ _).alloc (aa _) _⟩
theorem JG (a b:Int)(k i:Nat)(m:Int)(hm:bt k i=m)(ha:a=k)(hb:b=i)(hk:k<=1000000)(hi:i<=2000000000000)(w:World) :
  Calls prog 176 #[.int .i64 a,.int .i64 b] w λ e w'=>e=.returned (.agg #[.int .u8 0,.int .i64 0,.int .i64 0,.int .i64 m,.int .i64 0,.int .i64 0,.bool false,.int .i64 0,.int .i64 0,.slice none 0 0,.slice none 0 0,.slice none 0 0])/\Below w.heap.size w w':=hm▸E6 a b k i ha hb hk hi w
theorem JH (n:Int)(w:World):Calls prog 28 #[.agg #[.int .u8 0,.int .i64 0,.int .i64 0,.int .i64 n,.int .i64 0,.int .i64 0,.bool false,.int .i64 0,.int .i64 0,.slice none 0 0,.slice none 0 0,.slice none 0 0],.agg #[.int .u8 0,.int .i64 0,.int .i64 0,.int .i64 n,.int .i64 0,.int .i64 0,.bool false,.int .i64 0,.int .i64 0,.slice none 0 0,.slice none 0 0,.slice none 0 0]] w λ e w'=>e=.returned (.bool true)/\Below w.heap.size w w' :=
 Ij ⟨0,0,0,n,0,0,false,0,0,none,[],0,none,[],0,none,[],0⟩ ⟨0,0,0,n,0,0,false,0,0,none,[],0,none,[],0,none,[],0⟩ w w.heap.size rfl ⟨Or.inl rfl,Or.inl rfl,Or.inl rfl⟩ ⟨Or.inl rfl,Or.inl rfl,Or.inl rfl⟩ (aa _) (by simp) (by simp) (by simp) (λ e he=>by cases he)
end Go.Proofs.YtepdklfkegkojaaGreatDoor
