/- The marks of ropewalkkit/lent.go: letters. Conditions: the places are not too great. -/
import Derived.Test.YtglgcjkglhlggaaGreatDoorGLetterGets0
import Derived.Test.YtglgcjkglhlggaaGreatDoorGLetterGets15
import Derived.Test.YtglgcjkglhlggaaGreatDoorGLetterGets11
set_option linter.unusedVariables false
set_option linter.unusedSimpArgs false
namespace Go.Proofs.YtglgcjkglhlggaaGreatDoor
open Go.RowKit
set_option maxRecDepth 20000
theorem infoLt:(Tryz.prog.info? 27).map (fun i=>(i.zero,i.size,i.bytes))=some (some (.agg #[.int .u8 0,.int .i64 0,.int .i64 0,.int .i64 0,.int .i64 0,.int .i64 0,.bool false,.int .i64 0,.int .i64 0,.slice none 0 0,.slice none 0 0,.slice none 0 0]),12,144):=by kernel_rfl
def mkL (k i:Nat):List Value:=[.int .u8 0,.int .i64 0,.int .i64 0,.int .i64 (markN k i),.int .i64 0,.int .i64 0,.bool false,.int .i64 0,.int .i64 0,.slice none 0 0,.slice none 0 0,.slice none 0 0]
theorem mkL_len (k i:Nat):(mkL k i).length=12:=rfl
theorem markL_at (a b:Int)(k i:Nat)(ha:a=k)(hb:b=i)(hk:k≤1000000)(hi:i≤2000000000000)(w:World) :
  Calls Tryz.prog 161 #[.int .i64 a,.int .i64 b] w fun e w'=>e=.returned (.agg #[.int .u8 0,.int .i64 0,.int .i64 0,.int .i64 (markN k i),.int .i64 0,.int .i64 0,.bool false,.int .i64 0,.int .i64 0,.slice none 0 0,.slice none 0 0,.slice none 0 0])∧Below w.heap.size w w':=by
 have hm:0≤markN k i∧markN k i≤4000000000000:=by unfold markN;omega
 have hc:=mark_at a b k i ha hb hk hi
 generalize markN k i=m at hm hc
 have HC:=Hd hc
 clear hc ha hb
 go_enter Tryz.func161,Tryz.ntmps161
 go_wp2_with fail
 refine (HC.out _).mono ?_
 rintro e w' ⟨rfl,rfl⟩
 go_wp2_with fail
 exact bodyPost_ret (v:=.agg #[.int .u8 0,.int .i64 0,.int .i64 0,.int .i64 m,.int .i64 0,.int .i64 0,.bool false,.int .i64 0,.int .i64 0,.slice none 0 0,.slice none 0 0,.slice none 0 0]) (by first | (simp [results,Tryz.results161,go_sem];done) | (simp [results,Tryz.results161,go_sem];rfl)) rfl ⟨rfl,(Below.refl _ _).alloc (nlr _) _⟩
theorem markL_is (a b:Int)(k i:Nat)(m:Int)(hm:markN k i=m)(ha:a=k)(hb:b=i)(hk:k≤1000000)(hi:i≤2000000000000)(w:World) :
  Calls Tryz.prog 161 #[.int .i64 a,.int .i64 b] w fun e w'=>e=.returned (.agg #[.int .u8 0,.int .i64 0,.int .i64 0,.int .i64 m,.int .i64 0,.int .i64 0,.bool false,.int .i64 0,.int .i64 0,.slice none 0 0,.slice none 0 0,.slice none 0 0])∧Below w.heap.size w w':=hm ▸ markL_at a b k i ha hb hk hi w
/-- Equal marks are the same letters. -/
theorem sameMarkL (n:Int)(w:World):Calls Tryz.prog 22 #[.agg #[.int .u8 0,.int .i64 0,.int .i64 0,.int .i64 n,.int .i64 0,.int .i64 0,.bool false,.int .i64 0,.int .i64 0,.slice none 0 0,.slice none 0 0,.slice none 0 0],.agg #[.int .u8 0,.int .i64 0,.int .i64 0,.int .i64 n,.int .i64 0,.int .i64 0,.bool false,.int .i64 0,.int .i64 0,.slice none 0 0,.slice none 0 0,.slice none 0 0]] w fun e w'=>e=.returned (.bool true)∧Below w.heap.size w w' :=
 sameL_any ⟨0,0,0,n,0,0,false,0,0,none,[],0,none,[],0,none,[],0⟩ ⟨0,0,0,n,0,0,false,0,0,none,[],0,none,[],0,none,[],0⟩ w w.heap.size rfl ⟨Or.inl rfl,Or.inl rfl,Or.inl rfl⟩ ⟨Or.inl rfl,Or.inl rfl,Or.inl rfl⟩ (nlr _) (by simp) (by simp) (by simp) (fun e he=>by cases he)
end Go.Proofs.YtglgcjkglhlggaaGreatDoor
