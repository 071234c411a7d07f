/- Rows of a call's own: what one of them is where another one grows or is written. No program. Conditions: as each says. -/
import Derived.Test.YtglgcjkglhlggaaGreatDoorGLetterGets0
import Derived.Test.YtglgcjkglhlggaaGreatDoorGLetterGets1
import Derived.ArgAppend
import Derived.Deep.OwnRows
import Derived.StillTailTactics
set_option linter.unusedVariables false
set_option linter.unusedSimpArgs false
namespace Go.Proofs.YtglgcjkglhlggaaGreatDoor
open Go.RowKit
/-- Two slices lie in blocks of their own. -/
def Sep (u v:Value):Prop:=∀ b,u.ownBlock=some b→v.ownBlock ≠ some b
theorem Sep.symm {u v:Value}(h:Sep u v):Sep v u:=fun b hv hu=>h b hu hv
theorem Sep.ne {u v:Value}(h:Sep u v):u.ownBlock=none∨u.ownBlock ≠ v.ownBlock:=by
 cases hu:u.ownBlock with
 | none=>exact Or.inl rfl
 | some b=>exact Or.inr fun he=>h b hu he.symm
theorem own_prefix {w:World}{B E SZ g c n m:Nat}{xs:List Value}(h:w.ownsRow B E SZ (.slice (some ⟨g,0,none⟩) m c) m xs)(hn:n≤m):w.ownsRow B E SZ (.slice (some ⟨g,0,none⟩) n c) n (xs.take (n * SZ)):=by
 have hm:=Nat.mul_le_mul_right SZ hn
 rcases h.2 with ⟨h',_⟩ | ⟨g',c',cur,h',h1,h2,h3,h4,h5,h6⟩
 · cases h'
 ·
  cases h'
  refine ⟨?_,Or.inr ⟨g,c,cur,rfl,h1,h2,by omega,h4,h5,?_⟩⟩
  · rw [List.length_take,h.1];omega
  · rw [← h6,List.take_take];congr 1;omega
theorem own_same {w:World}{B E SZ g c c2 n m:Nat}{xs ys:List Value}(h:w.ownsRow B E SZ (.slice (some ⟨g,0,none⟩) m c) m xs)(h2:w.ownsRow B E SZ (.slice (some ⟨g,0,none⟩) n c2) n ys)(hz:0<SZ):c=c2:=by
 rcases h.2 with ⟨h',_⟩ | ⟨_,_,cur,h',_,k2,_,_,k5,_⟩
 · cases h'
 ·
  cases h'
  rcases h2.2 with ⟨h',_⟩ | ⟨_,_,cur',h',_,l2,_,_,l5,_⟩
  · cases h'
  ·
   cases h'
   rw [k2] at l2
   simp only [Option.some.injEq,Obj.cells.injEq] at l2
   rw [l2.1,l5] at k5
   exact Nat.eq_of_mul_eq_mul_right hz k5.symm
/-- The marks of a row's first places. -/
def mks (mk:Nat→Nat→List Value) (k n:Nat):List Value:=(List.range n).flatMap (mk k)
theorem mks_succ (mk:Nat→Nat→List Value)(k n:Nat):mks mk k (n+1)=mks mk k n ++ mk k n:=by
 unfold mks;rw [List.range_succ,List.flatMap_append];simp
theorem mks_len {mk:Nat→Nat→List Value}{SZ:Nat}(h:∀ k i,(mk k i).length=SZ)(k n:Nat):(mks mk k n).length=n * SZ:=by
 unfold mks;rw [flat_len (h k),List.length_range]
theorem mks_take {mk:Nat→Nat→List Value}{SZ:Nat}(h:∀ k i,(mk k i).length=SZ)(k n d:Nat):(mks mk k (n+d)).take (n * SZ)=mks mk k n:=by
 induction d with
 | zero=>rw [Nat.add_zero,List.take_of_length_le (by rw [mks_len h];exact nlr _)]
 | succ d ih=>rw [← Nat.add_assoc,mks_succ,List.take_append_of_le_length (by rw [mks_len h];exact Nat.mul_le_mul_right _ (by omega)),ih]
theorem mks_get {mk:Nat→Nat→List Value}{SZ:Nat}(h:∀ k i,(mk k i).length=SZ)(k n i j:Nat)(hi:i<n)(hj:j<SZ):(mks mk k n)[i * SZ+j]?=(mk k i)[j]?:=by
 unfold mks
 exact flat_get (h k) (List.range n) i i (by simp [hi]) j hj
/-- While a row is grown one by one: what has been appended, and the row itself as it was. -/
def GrowAt (B E SZ:Nat) (mk:Nat→Nat→List Value) (k hs:Nat) (r:Value) (n q:Nat) (v:Value) (w:World):Prop :=
 w.ownsRow B E SZ v (n+q) (mks mk k (n+q))∧w.ownsRow B E SZ r n (mks mk k n)∧(v.ownBlock=r.ownBlock∨∀ b,v.ownBlock=some b→hs≤b)
theorem grow_start {B E SZ:Nat}{mk:Nat→Nat→List Value}{k hs:Nat}{r:Value}{n:Nat}{w:World}(h:w.ownsRow B E SZ r n (mks mk k n)):GrowAt B E SZ mk k hs r n 0 r w:=⟨h,h,Or.inl rfl⟩
theorem grow_alloc {B E SZ:Nat}{mk:Nat→Nat→List Value}{k hs:Nat}{r:Value}{n q:Nat}{v:Value}{w:World}(h:GrowAt B E SZ mk k hs r n q v w)(o:Obj):GrowAt B E SZ mk k hs r n q v (w.alloc o):=⟨h.1.alloc o,h.2.1.alloc o,h.2.2⟩
theorem grow_fits {B E SZ:Nat}{mk:Nat→Nat→List Value}(hmk:∀ k i,(mk k i).length=SZ)(hz:0<SZ){k hs:Nat}{r:Value}{n q g c:Nat}{w w':World}(h:GrowAt B E SZ mk k hs r n q (.slice (some ⟨g,0,none⟩) (n+q) c) w)(hr:∀ b,r.ownBlock=some b→b<hs)
  (hown:w'.ownsRow B E SZ (.slice (some ⟨g,0,none⟩) (n+q+1) c) (n+q+1) (mks mk k (n+q) ++ mk k (n+q))) (hg:w.grownBy w' (some g)):GrowAt B E SZ mk k hs r n (q+1) (.slice (some ⟨g,0,none⟩) (n+q+1) c) w':=by
 have hown':w'.ownsRow B E SZ (.slice (some ⟨g,0,none⟩) (n+q+1) c) (n+q+1) (mks mk k (n+q+1)):=by rw [mks_succ];exact hown
 refine ⟨hown',?_,?_⟩
 ·
  rcases h.2.2 with hb | hb
  ·
   have hb':r.ownBlock=some g:=hb.symm
   rcases Go.Joins.ownsRow_forms h.2.1 with ⟨hr0,_⟩ | ⟨g2,c2,hr2⟩
   · rw [hr0] at hb';simp [Value.ownBlock] at hb'
   ·
    rw [hr2] at hb'
    simp [Value.ownBlock] at hb'
    subst hb'
    have h2:=h.2.1
    rw [hr2] at h2 ⊢
    have hc:=own_same h.1 h2 hz
    subst hc
    have h3:=own_prefix hown' (show n≤n+q+1 by omega)
    rwa [show n+q+1=n+(q+1) by omega,mks_take hmk] at h3
  ·
   have hge:=hb g rfl
   refine World.ownsRow.kept h.2.1 hg ?_
   cases hrb:r.ownBlock with
   | none=>exact Or.inl rfl
   | some b=>exact Or.inr fun he=>by have:=hr b hrb;cases he;omega
 · exact h.2.2
theorem grow_new {B E SZ:Nat}{mk:Nat→Nat→List Value}{k hs:Nat}{r:Value}{n q:Nat}{v v':Value}{w w':World}(h:GrowAt B E SZ mk k hs r n q v w)(hw:hs≤w.heap.size)(hB:B≤w.heap.size)
  (hown:w'.ownsRow w.heap.size E SZ v' (n+q+1) (mks mk k (n+q) ++ mk k (n+q))) (hg:w.grownBy w' none):GrowAt B E SZ mk k hs r n (q+1) v' w':=by
 refine ⟨?_,World.ownsRow.kept h.2.1 hg (by cases r.ownBlock <;> simp),Or.inr fun b hb=>?_⟩
 ·
  show w'.ownsRow B E SZ v' (n+(q+1)) (mks mk k (n+(q+1)))
  rw [← Nat.add_assoc,mks_succ]
  exact Go.Joins.ownsRow_le hown hB
 · have:=(hown.lt b hb).1;omega
/-- Rows, by their numbers. -/
def RowsAt (B E SZ K:Nat) (R:Nat→Value) (n:Nat→Nat) (C:Nat→List Value) (w:World):Prop:=∀ j,j<K→w.ownsRow B E SZ (R j) (n j) (C j)
def SepAll (K:Nat) (R:Nat→Value):Prop:=∀ i j,i<K→j<K→i ≠ j→Sep (R i) (R j)
theorem RowsAt.upd {B E SZ K:Nat}{R:Nat→Value}{n:Nat→Nat}{C:Nat→List Value}{w w':World}{k:Nat}{x:List Value}(h:RowsAt B E SZ K R n C w)(hs:SepAll K R)(hk:k<K)(hg:w.grownBy w' (R k).ownBlock)(hx:w'.ownsRow B E SZ (R k) (n k) x):RowsAt B E SZ K R n (fun j=>if j=k then x else C j) w':=by
 intro j hj
 by_cases e:j=k
 · subst e;simpa using hx
 ·
  simp only [e,if_false]
  exact World.ownsRow.kept (h j hj) hg (hs j k hj hk e).ne
theorem RowsAt.congr {B E SZ K:Nat}{R:Nat→Value}{n:Nat→Nat}{C C':Nat→List Value}{w:World}(h:RowsAt B E SZ K R n C w)(e:∀ j,j<K→C j=C' j):RowsAt B E SZ K R n C' w:=fun j hj=>e j hj ▸ h j hj
/-- A list by its places, one of them set. -/
theorem range_set {α:Type}(f:Nat→α)(K k:Nat)(u:α):((List.range K).map f).set k u=(List.range K).map fun j=>if j=k then u else f j:=by
 apply List.ext_getElem?
 intro i
 rw [List.getElem?_set,List.getElem?_map,List.getElem?_map]
 by_cases hi:i<K
 ·
  rw [List.getElem?_range hi]
  by_cases e:k=i
  · subst e;simp [hi]
  ·
   have e':¬ i=k:=fun h=>e h.symm
   simp [e,e']
 ·
  rw [List.getElem?_eq_none (by simpa using hi)]
  simp [hi]
  omega
theorem range_get {α:Type}(f:Nat→α)(K k:Nat)(h:k<K):((List.range K).map f)[k]?=some (f k):=by
 rw [List.getElem?_map,List.getElem?_range h];rfl
/-- The blocks of rows. -/
def ofRows (K:Nat) (R:Nat→Value):Nat→Prop:=fun b=>∃ j,j<K∧(R j).ownBlock=some b
/-- Below B nothing is changed, and of what was there no block of another type than U, nor one that is not in S. -/
structure Kb (S:Nat→Prop) (B U:Nat) (w w':World):Prop where
 below:Below B w w'
 other:∀ (b:Nat) (cs:Array Value) (e:TypeId) (fz:Nat × Nat),w.heap[b]?=some (Obj.cells cs e fz)→e ≠ U→w'.heap[b]?=some (Obj.cells cs e fz)
 apart:∀ b,b<w.heap.size→¬ S b→w'.heap[b]?=w.heap[b]?
theorem Kb.refl (S:Nat→Prop)(B U:Nat)(w:World):Kb S B U w w:=⟨Below.refl _ _,fun _ _ _ _ h _=>h,fun _ _ _=>rfl⟩
theorem Kb.size {S:Nat→Prop}{B U:Nat}{w w':World}(h:Kb S B U w w'):w.heap.size≤w'.heap.size:=h.below.size
theorem Kb.drew {S:Nat→Prop}{B U:Nat}{w w':World}(h:Kb S B U w w'):Kb S B U w w'.drew:=⟨h.below.drew,h.other,h.apart⟩
theorem Kb.alloc {S:Nat→Prop}{B U:Nat}{w w':World}(h:Kb S B U w w')(hB:B≤w'.heap.size)(o:Obj):Kb S B U w (w'.alloc o) :=
 ⟨h.below.alloc hB o,fun b cs e fz hb he=>by
  have h1:=h.other b cs e fz hb he
  rw [(World.grownBy_alloc w' o none).block b (Array.getElem?_eq_some_iff.1 h1).1 (by simp)]
  exact h1,fun b hb hs=>((World.grownBy_alloc w' o none).block b (Nat.lt_of_lt_of_le hb h.size) (by simp)).trans (h.apart b hb hs)⟩
theorem Kb.grownRow {S:Nat→Prop}{B U B2 SZ m n c g:Nat}{xs:List Value}{w w' w'':World}(h:Kb S B U w w')(hg:w'.grownBy w'' (some g))(hB:B≤w'.heap.size)(hown:w'.ownsRow B2 U SZ (.slice (some ⟨g,0,none⟩) m c) n xs)(hB2:B≤g)(hS:S g∨w.heap.size≤g):Kb S B U w w'' :=
 ⟨h.below.grown hg hB (fun k hk=>by cases hk;exact hB2),fun b cs e fz hb he=>by
  have h1:=h.other b cs e fz hb he
  have hlt:=(Array.getElem?_eq_some_iff.1 h1).1
  rw [hg.block b hlt ?_]
  · exact h1
  ·
   intro hbg
   cases hbg
   rcases hown.2 with ⟨h',_⟩ | ⟨g',c',cur,h',_,h2,_⟩
   · cases h'
   ·
    cases h'
    rw [h2] at h1
    simp only [Option.some.injEq,Obj.cells.injEq] at h1
    exact he h1.2.1.symm,fun b hb hs=>(hg.block b (Nat.lt_of_lt_of_le hb h.size) (by intro e;cases e;rcases hS with h2 | h2;exact hs h2;omega)).trans (h.apart b hb hs)⟩
theorem Kb.grownNone {S:Nat→Prop}{B U:Nat}{w w' w'':World}(h:Kb S B U w w')(hg:w'.grownBy w'' none)(hB:B≤w'.heap.size):Kb S B U w w'' :=
 ⟨h.below.grown hg hB (fun k hk=>by cases hk),fun b cs e fz hb he=>by
  have h1:=h.other b cs e fz hb he
  rw [hg.block b (Array.getElem?_eq_some_iff.1 h1).1 (by simp)]
  exact h1,fun b hb hs=>(hg.block b (Nat.lt_of_lt_of_le hb h.size) (by simp)).trans (h.apart b hb hs)⟩
theorem Kb.grownNew {S:Nat→Prop}{B U g:Nat}{w w' w'':World}(h:Kb S B U w w')(hg:w'.grownBy w'' (some g))(hB:B≤w'.heap.size)(hw:w.heap.size≤g)(hB2:B≤g):Kb S B U w w'' :=
 ⟨h.below.grown hg hB (fun k hk=>by cases hk;exact hB2),fun b cs e fz hb he=>by
  have h1:=h.other b cs e fz hb he
  have hlt:=(Array.getElem?_eq_some_iff.1 hb).1
  rw [hg.block b (Array.getElem?_eq_some_iff.1 h1).1 (by intro hbg;cases hbg;omega)]
  exact h1,fun b hb hs=>(hg.block b (Nat.lt_of_lt_of_le hb h.size) (by intro e;cases e;omega)).trans (h.apart b hb hs)⟩
theorem Kb.trans_below {S:Nat→Prop}{B U:Nat}{w w' w'':World}(h:Kb S B U w w')(hb:Below w'.heap.size w' w'')(hB:B≤w'.heap.size):Kb S B U w w'' :=
 ⟨h.below.trans (hb.mono hB),fun b cs e fz hb1 he=>by
  have h1:=h.other b cs e fz hb1 he
  rw [hb.block b (Array.getElem?_eq_some_iff.1 h1).1]
  exact h1,fun b hb1 hs=>(hb.block b (Nat.lt_of_lt_of_le hb1 h.size)).trans (h.apart b hb1 hs)⟩
end Go.Proofs.YtglgcjkglhlggaaGreatDoor
/- Rows of bytes that lie apart are found to do so. Conditions: each row is the call's own, in a block of its own. -/
namespace Go.Proofs.YtglgcjkglhlggaaGreatDoor
open Go.RowKit
set_option maxRecDepth 20000
def markN (k i:Nat):Int:=1000003 * ((k:Int)+7)+i
def markBK (k i:Nat):Int:=IntKind.u64.wrap (markN k i * 11400714819323198485) / 72057594037927936 % 256
theorem mark_at (a b:Int)(k i:Nat)(ha:a=k)(hb:b=i)(hk:k≤1000000)(hi:i≤2000000000000)(w:World) :
  Calls Tryz.prog 61 #[.int .i64 a,.int .i64 b] w fun e w'=>e=.returned (.int .i64 (markN k i))∧w=w':=by
 subst ha hb
 go_enter Tryz.func61,Tryz.ntmps61
 go_wp2_with fail
 go_ret
 exact ⟨rfl,rfl⟩
theorem markBK_at (a b:Int)(k i:Nat)(ha:a=k)(hb:b=i)(hk:k≤1000000)(hi:i≤2000000000000)(w:World) :
  Calls Tryz.prog 49 #[.int .i64 a,.int .i64 b] w fun e w'=>e=.returned (.int .u8 (markBK k i))∧w=w':=by
 have hm:0≤markN k i∧markN k i≤4000000000000:=by unfold markN;omega
 have HM:=Hd (show markBK k i=IntKind.u64.wrap (markN k i * 11400714819323198485) / 72057594037927936 % 256 from rfl)
 have hc:=mark_at a b k i ha hb hk hi
 generalize markN k i=m at hm HM hc
 have HC:=Hd hc
 clear hc ha hb
 go_enter Tryz.func49,Tryz.ntmps49
 go_wp2_with fail
 refine (HC.out _).mono ?_
 rintro e w' ⟨rfl,rfl⟩
 go_wp2_with fail
 go_ret
 exact ⟨ret_int (by rw [HM.out]),rfl⟩
def mkB (k i:Nat):List Value:=[.int .u8 (markBK k i)]
theorem mkB_len (k i:Nat):(mkB k i).length=1:=rfl
theorem take_set_succ {l:List Value}{q:Nat}{u:Value}(h:q<l.length):(l.set q u).take (q+1)=l.take q ++ [u]:=by
 rw [List.take_succ_eq_append_getElem (by simpa using h)]
 congr 1
 · exact List.take_set_of_le (nlr _)
 · simp
theorem own_cap' {w:World}{base e size n m cap:Nat}{ao:Option Addr}{xs:List Value}(h:w.ownsRow base e size (.slice ao m cap) n xs):m≤cap:=by
 rcases h.2 with ⟨h',_⟩ | ⟨g,cap',cur,h',_,_,h3,_⟩
 · cases h';omega
 · cases h';exact h3
theorem infoRowB:(Tryz.prog.info? 25).map (fun i=>(i.zero,i.size,i.bytes))=some (some (.slice none 0 0),1,24):=by kernel_rfl
theorem made_list (z:Value)(n:Nat):(madeCells #[z] n).toList=(List.range n).map fun _=>z:=by
 apply List.ext_getElem?
 intro i
 rw [List.getElem?_map,Array.getElem?_toList]
 by_cases hi:i<n
 · rw [List.getElem?_range hi];simp [madeCells,hi,Nat.mod_one]
 · rw [List.getElem?_eq_none (by simpa using hi),Array.getElem?_eq_none (by simp [size_madeCells];omega)];rfl
/-- A row that lies apart from the one that is grown. -/
theorem grow_other {w:World}{B E SZ B2 E2 S2 k hs n n2 q g c:Nat}{mk:Nat→Nat→List Value}{r u:Value}{xs:List Value}(h:GrowAt B E SZ mk k hs r n q (.slice (some ⟨g,0,none⟩) (n+q) c) w)(hu:w.ownsRow B2 E2 S2 u n2 xs)(hs2:∀ b,u.ownBlock=some b→b<hs)(hsep:Sep u r):u.ownBlock=none∨u.ownBlock ≠ some g:=by
 cases hub:u.ownBlock with
 | none=>exact Or.inl rfl
 | some b =>
  right
  intro he
  cases he
  rcases h.2.2 with h1 | h1
  · exact hsep g hub h1.symm
  ·
   have:=h1 g rfl
   have:=hs2 g hub
   omega
/-- A row's slice, as it looks. -/
theorem row_form {w:World}{B E SZ n:Nat}{v:Value}{xs:List Value}(h:w.ownsRow B E SZ v n xs):∃ a c,v=.slice a n c∧(a=none→n=0∧c=0)∧(0<c→∃ g,a=some ⟨g,0,none⟩)∧n≤c:=by
 have h0:=h
 rcases Go.Joins.ownsRow_forms h with ⟨rfl,hz⟩ | ⟨g,c,rfl⟩
 · exact ⟨none,0,by rw [hz],fun _=>⟨hz,rfl⟩,fun h=>by omega,by omega⟩
 · exact ⟨_,c,rfl,by simp,fun _=>⟨g,rfl⟩,own_cap' h0⟩
set_option maxHeartbeats 8000000 in
theorem flatB_any (B K:Nat)(lo:Option Addr)(lc:Nat)(R:Nat→Value)(n:Nat→Nat)(C0:Nat→List Value)(w:World)
  (hL:w.ownsRow B 25 1 (.slice lo K lc) K ((List.range K).map R)) (hR:RowsAt B 5 1 K R n C0 w) (hsep:SepAll K R) (hK:K≤100000) (hn:∀ j,j<K→n j≤1099511627776) (hB:B≤w.heap.size) :
  Calls Tryz.prog 84 #[.slice lo K lc] w fun e w'=>e=.returned (.bool true)∧Kb (ofRows K R) B 5 w w':=by
 have HL:=Hd hL
 have HR:=Hd hR
 have HS:=Hd hsep
 have HN:=Hd hn
 clear hL hR hsep hn
 go_enter Tryz.func84,Tryz.ntmps84
 go_wp2_with fail
 go_loopw [3,4] (fun i _ wr=>∃ k:Nat,k≤K∧i=.int .i64 k∧(∃ C,RowsAt B 5 1 K R n C wr∧∀ j,j<k→C j=mks mkB j (n j))∧wr.ownsRow B 25 1 (.slice lo K lc) K ((List.range K).map R)∧Kb (ofRows K R) B 5 w wr) (fun i _ _=>K - (intOf i).toNat)
 case atStart=>exact ⟨0,by omega,rfl,⟨C0,HR.out,fun j hj=>by omega⟩,HL.out,Kb.refl _ _ _ _⟩
 case round =>
  obtain ⟨k,hk,rfl,hrows,hlw,hbel⟩:=hrel
  have HRW:=Hd hrows
  have HLW:=Hd hlw
  clear hrows hlw
  by_cases hlt:k<K
  ·
   obtain ⟨C,hC,hCk⟩:=HRW.out
   obtain ⟨a,c,hRk,hanone,hasome,hac⟩:=row_form (hC k hlt)
   have hnk:=HN.out k hlt
   obtain ⟨nk,hnk2⟩:∃ nk,nk=n k:=⟨_,rfl⟩
   rw [← hnk2] at hRk hanone hnk hac
   obtain ⟨lb,lcc,hlo⟩:=Go.Joins.ownsRow_form HLW.out (by omega)
   cases hlo
   have HRK:=Hd hRk
   have HNK:=Hd hnk2
   have HC:=Hd hC
   have HCK:=Hd hCk
   have HAS:=Hd hasome
   have i1:(k:Int)<K:=by omega
   clear hRk hnk2 hC hCk hasome hanone
   go_wp2_with fail
   obtain ⟨wo,rfl⟩:∃ wo:World,wo=wr:=⟨_,rfl⟩
   go_loopw [4] (fun i wr=>∃ q:Nat,q≤nk∧i=.int .i64 q∧(∃ C,RowsAt B 5 1 K R n C wr∧(∀ j,j<k→C j=mks mkB j (n j))∧(C k).take q=mks mkB k q)∧wr.ownsRow B 25 1 (.slice (some ⟨lb,0,none⟩) K lc) K ((List.range K).map R)∧Kb (ofRows K R) B 5 w wr) (fun i _=>nk - (intOf i).toNat)
   case atStart=>exact ⟨0,by omega,rfl,⟨C,HC.out,HCK.out,by simp [mks]⟩,HLW.out,hbel⟩
   case round =>
    clear hbel
    obtain ⟨q,hq,rfl,hrows,hlw,hbel⟩:=hrel
    have HRW2:=Hd hrows
    have HLW2:=Hd hlw
    have c0:wr.cell? ⟨lb,k,none⟩=some (.slice a nk c):=by
     rw [oca hlw k (by omega),range_get R K k hlt,HRK.out]
    clear hrows hlw
    by_cases hltq:q<nk
    ·
     obtain ⟨g,rfl⟩:=HAS.out (by omega)
     have i2:(q:Int)<nk:=by omega
     go_wp2_with fail
     go_still_tail 9,(by kernel_rfl)
     still_call ((markBK_at _ _ k q rfl rfl (by omega) (by omega) _).mono fun _ _ ⟨h,hw⟩=>⟨h,hw.symm⟩)
     repeat still_step
     refine wpStill_nil ?_
     change wpList _ _ _ _ _ wr.drew
     obtain ⟨C2,hC2,hCk2,hCq2⟩:=HRW2.out
     have hC3:RowsAt B 5 1 K R n C2 wr.drew:=hC2
     have hl3:wr.drew.ownsRow B 25 1 (.slice (some ⟨lb,0,none⟩) K lc) K ((List.range K).map R):=HLW2.out
     have hb3:Kb (ofRows K R) B 5 w wr.drew:=hbel.drew
     generalize wr.drew=w3 at hC3 hl3 hb3 ⊢
     have hrow:=hC3 k hlt
     rw [HRK.out,← HNK.out] at hrow
     have hql:q<(C2 k).length:=by have:=hrow.1;omega
     have d0:w3.cell? ⟨g,q,none⟩=some ((C2 k)[q]):=by
      rw [oca hrow q (by omega),List.getElem?_eq_getElem hql]
     have f0:w3.frozen? ⟨g,q,none⟩=false:=World.ownsRow.frozenAt hrow _
     have hst:=World.ownsRow.stored hrow q (.int .u8 (markBK k q))
     have HST:=Hd hst
     have HROW:=Hd hrow
     have HC3:=Hd hC3
     have HL3:=Hd hl3
     generalize (C2 k)[q]=old at d0
     clear hst hrow hC3 hl3 hC2 c0
     go_wp2_with fail
     go_roundw
     case rel =>
      have hRb:(R k).ownBlock=some g:=by rw [HRK.out];rfl
      refine ⟨q+1,by omega,by go_num,⟨_,RowsAt.upd HC3.out HS.out hlt (by rw [hRb];exact HST.out.2) (by rw [HRK.out,← HNK.out];exact HST.out.1),fun j hj=>?_,?_⟩,?_,?_⟩
      ·
       have e:¬ j=k:=by omega
       simp only [e,if_false]
       exact hCk2 j hj
      ·
       simp only [if_true]
       rw [take_set_succ hql,hCq2,mks_succ];rfl
      · exact World.ownsRow.kept HL3.out HST.out.2 (by have:=own_apart HL3.out HROW.out (by decide);exact this)
      · exact hb3.grownRow HST.out.2 (by have:=hb3.size;omega) HROW.out (HROW.out.lt g rfl).1 (Or.inl ⟨k,hlt,hRb⟩)
     case measure=>simp [intOf];omega
    ·
     obtain rfl:q=nk:=by omega
     go_wp2_with fail
     go_roundw
     case rel =>
      obtain ⟨C2,hC2,hCk2,hCq2⟩:=HRW2.out
      refine ⟨k+1,by omega,by go_num,⟨C2,hC2,fun j hj=>?_⟩,HLW2.out,hbel⟩
      by_cases e:j=k
      ·
       subst e
       rw [← HNK.out,← hCq2,List.take_of_length_le (by have:=(hC2 j hlt).1;rw [← HNK.out] at this;omega)]
      · exact hCk2 j (by omega)
     case measure=>simp [intOf];omega
  ·
   obtain rfl:K=k:=by omega
   obtain ⟨wo,rfl⟩:∃ wo:World,wo=wr:=⟨_,rfl⟩
   have hP1:RowsAt B 5 1 K R n (fun j=>mks mkB j (n j)) wo:=by
    obtain ⟨C,hC,hCk⟩:=HRW.out
    exact hC.congr hCk
   have hmk:=run_make_row' (P:=Tryz.prog) 38 25 (.slice none 0 0) 24 Tryz.underlying38 infoRowB rfl .i64 .i64 K (by omega) (by omega)
   have hsz:=hbel.size
   have hwo:w.heap.size≤wo.heap.size:=hsz
   have hP2:RowsAt B 5 1 K R n (fun j=>mks mkB j (n j)) (wo.alloc (.cells (madeCells #[.slice none 0 0] K) 25)):=fun j hj=>(hP1 j hj).alloc _
   have hl2:=World.ownsRow.alloc HLW.out (.cells (madeCells #[.slice none 0 0] K) 25)
   have hg2:=World.ownsRow_lit (base:=B) (e:=25) (size:=1) wo (madeCells #[.slice none 0 0] K) K (by omega) (by unfold maxLen;omega) (by simp [size_madeCells])
   rw [made_list] at hg2
   have hb2:=hbel.alloc (by omega) (.cells (madeCells #[.slice none 0 0] K) 25)
   have hLG:Sep (.slice lo K lc) (.slice (some ⟨wo.heap.size,0,none⟩) K K):=fun b hb hb'=>by
    have:=(HLW.out.lt b hb).2
    simp [Value.ownBlock] at hb'
    omega
   have HP2:=Hd hP2
   have HL2:=Hd hl2
   have HG2:=Hd hg2
   have HLG:=Hd hLG
   clear hP1 hP2 hl2 hg2 hLG HRW HLW
   obtain ⟨i0,hi,hz0,hz1,hz2⟩:=info_parts infoByte
   go_wp2_with fail
   generalize wo.alloc (.cells (madeCells #[.slice none 0 0] K) 25)=w1 at HP2 HL2 HG2 hb2 ⊢
   clear hmk
   go_loopw [6,7,8] (fun i _ _ wr=>∃ (k:Nat) (V:Nat→Value),k≤K∧i=.int .i64 k∧RowsAt B 5 1 K R n (fun j=>mks mkB j (n j)) wr∧(∀ j,j<k→wr.ownsRow B 5 1 (V j) (n j+64) (mks mkB j (n j+64)))∧(∀ i j,i<k→j<K→i ≠ j→Sep (V i) (R j))∧(∀ i j,i<k→j<k→i ≠ j→Sep (V i) (V j)) ∧
    wr.ownsRow B 25 1 (.slice lo K lc) K ((List.range K).map R)∧wr.ownsRow B 25 1 (.slice (some ⟨wo.heap.size,0,none⟩) K K) K ((List.range K).map fun j=>if j<k then V j else .slice none 0 0)∧Kb (ofRows K R) B 5 w wr) (fun i _ _ _=>K - (intOf i).toNat)
   case atStart=>exact ⟨0,fun _=>.slice none 0 0,by omega,rfl,HP2.out,fun j hj=>by omega,fun i j hi=>by omega,fun i j hi=>by omega,HL2.out,by simpa using HG2.out,hb2⟩
   case round =>
    clear hbel hsz hb2 HP2 HL2 HG2
    obtain ⟨k,V,hk,rfl,hP,hV,hVR,hVV,hlw,hgw,hbel⟩:=hrel
    have HP:=Hd hP
    have HV:=Hd hV
    have HVR:=Hd hVR
    have HVV:=Hd hVV
    have HLW:=Hd hlw
    have HGW:=Hd hgw
    clear hP hV hVR hVV hlw hgw
    by_cases hlt:k<K
    ·
     obtain ⟨a,c,hRk,hanone,hasome,hac⟩:=row_form (HP.out k hlt)
     have hnk:=HN.out k hlt
     obtain ⟨nk,hnk2⟩:∃ nk,nk=n k:=⟨_,rfl⟩
     rw [← hnk2] at hRk hanone hnk hac
     obtain ⟨lb,lcc,hlo⟩:=Go.Joins.ownsRow_form HLW.out (by omega)
     cases hlo
     have c0:wr.cell? ⟨lb,k,none⟩=some (.slice a nk c):=by
      rw [oca HLW.out k (by omega),range_get R K k hlt,hRk]
     have HRK:=Hd hRk
     have HNK:=Hd hnk2
     have i1:(k:Int)<K:=by omega
     have hsw:=hbel.size
     clear hRk hnk2 hasome hanone
     go_wp2_with fail
     obtain ⟨wi,rfl⟩:∃ wi:World,wi=wr:=⟨_,rfl⟩
     have hwi:w.heap.size≤wi.heap.size:=hbel.size
     clear c0
     go_loopw [7,8] (fun v i wr=>∃ q:Nat,q≤64∧i=.int .i64 q∧GrowAt B 5 1 mkB k wi.heap.size (R k) nk q v wr∧(∀ j,j<K→j ≠ k→wr.ownsRow B 5 1 (R j) (n j) (mks mkB j (n j)))∧(∀ j,j<k→wr.ownsRow B 5 1 (V j) (n j+64) (mks mkB j (n j+64))) ∧
      wr.ownsRow B 25 1 (.slice (some ⟨lb,0,none⟩) K lc) K ((List.range K).map R)∧wr.ownsRow B 25 1 (.slice (some ⟨wo.heap.size,0,none⟩) K K) K ((List.range K).map fun j=>if j<k then V j else .slice none 0 0)∧Kb (ofRows K R) B 5 w wr∧wi.heap.size≤wr.heap.size) (fun _ i _=>64 - (intOf i).toNat)
     case atStart=>exact ⟨0,by omega,rfl,by rw [← HRK.out];exact grow_start (by rw [HNK.out];exact HP.out k hlt),fun j hj _=>HP.out j hj,HV.out,HLW.out,HGW.out,hbel,nlr _⟩
     case round =>
      clear hbel hsw
      obtain ⟨q,hq,rfl,hgr,hRo,hVo,hlw,hgw,hbel,hsw⟩:=hrel
      have hsb:=hbel.size
      have HGR:=Hd hgr
      have HRO:=Hd hRo
      have HVO:=Hd hVo
      have HLW2:=Hd hlw
      have HGW2:=Hd hgw
      clear hgr hRo hVo hlw hgw
      by_cases hltq:q<64
      ·
       have c0:wr.cell? ⟨lb,k,none⟩=some (.slice a nk c):=by
        rw [oca HLW2.out k (by omega),range_get R K k hlt,HRK.out]
       obtain ⟨va,vc,hv,hvn,hvs,hvc⟩:=row_form HGR.out.1
       subst hv
       have i2:(q:Int)<64:=by omega
       have HVS:=Hd hvs
       have HVN:=Hd hvn
       clear hvs hvn
       have hRb:∀ j,j<K→∀ b,(R j).ownBlock=some b→b<wi.heap.size:=fun j hj b hb=>((HP.out j hj).lt b hb).2
       have hVb:∀ j,j<k→∀ b,(V j).ownBlock=some b→b<wi.heap.size:=fun j hj b hb=>((HV.out j hj).lt b hb).2
       have HRB:=Hd hRb
       have HVB:=Hd hVb
       clear hRb hVb
       by_cases hfit:nk+q+1≤vc
       ·
        obtain ⟨g,rfl⟩:=HVS.out (by omega)
        go_wp2_with (first | (go_at_call 49;(with_reducible refine (markBK_at _ _ k (nk+q) rfl (by omega) (by omega) (by omega) _).mono ?_);rintro e w' ⟨rfl,rfl⟩) | (at_builtin;refine wpList_append_fits _ rfl (.tmp 57) (.tmp 67) 25 rfl B 5 i0 1 Tryz.underlying25 hi hz1 g (nk+q) vc (mks mkB k (nk+q)) rfl (World.ownsRow.alloc HGR.out.1 _) ⟨wr.heap.size,0,none⟩ 1 1 [.int .u8 (markBK k (nk+q))] rfl rfl (cell_one_new _ _ _) (by simp [Value.oneCell']) hfit ?_))
        intro w3 hown3 hg3
        have HGA:=grow_alloc HGR.out (.cells #[.int .u8 (markBK k (nk+q))] 5)
        have hgr3:=grow_fits mkB_len (by decide) HGA (HRB.out k hlt) hown3 hg3
        have hR3:∀ j,j<K→j ≠ k→w3.ownsRow B 5 1 (R j) (n j) (mks mkB j (n j)):=fun j hj hjk =>
         World.ownsRow.kept ((HRO.out j hj hjk).alloc _) hg3 (grow_other HGA ((HRO.out j hj hjk).alloc _) (HRB.out j hj) (HS.out j k hj hlt hjk))
        have hV3:∀ j,j<k→w3.ownsRow B 5 1 (V j) (n j+64) (mks mkB j (n j+64)):=fun j hj =>
         World.ownsRow.kept ((HVO.out j hj).alloc _) hg3 (grow_other HGA ((HVO.out j hj).alloc _) (HVB.out j hj) (HVR.out j k hj hlt (by omega)))
        have hl3:=World.ownsRow.kept (HLW2.out.alloc (.cells #[.int .u8 (markBK k (nk+q))] 5)) hg3 (own_apart (HLW2.out.alloc _) HGA.1 (by decide))
        have hG3:=World.ownsRow.kept (HGW2.out.alloc (.cells #[.int .u8 (markBK k (nk+q))] 5)) hg3 (own_apart (HGW2.out.alloc _) HGA.1 (by decide))
        have hb3:Kb (ofRows K R) B 5 w w3:=(hbel.alloc (by omega) _).grownRow hg3 (by simp;omega) HGA.1 (HGA.1.lt g rfl).1 (HGA.2.2.imp (fun e=>⟨k,hlt,e.symm⟩) (fun h=>by have:=h g rfl;omega))
        have hs3:wi.heap.size≤w3.heap.size:=by have:=hg3.size;simp at this;omega
        have HA1:=Hd hgr3
        have HA2:=Hd hR3
        have HA3:=Hd hV3
        have HA4:=Hd hl3
        have HA5:=Hd hG3
        clear hown3 hg3 HGA hgr3 hR3 hV3 hl3 hG3 c0
        go_wp2_with fail
        go_roundw
        case rel=>exact ⟨q+1,by omega,by go_num,by have:=HA1.out;rwa [show nk+q+1=nk+(q+1) by omega] at this,HA2.out,HA3.out,HA4.out,HA5.out,hb3,hs3⟩
        case measure=>simp [intOf];omega
       ·
        have HLN:=Hd (mks_len mkB_len k (nk+q))
        have HCL:=Hd (show ∀ b,va=some b→∀ (j:Nat) u,(mks mkB k (nk+q))[j]?=some u→(wr.alloc (.cells #[.int .u8 (markBK k (nk+q))] 5)).cell? (b.add j)=some u from fun b hb j u hu=>by
         have h1:=HGR.out.1.alloc (.cells #[.int .u8 (markBK k (nk+q))] 5)
         rw [hb] at h1
         rcases Go.Joins.ownsRow_forms h1 with ⟨h2,_⟩ | ⟨g2,c2,h2⟩
         · cases h2
         ·
          injection h2 with h3 _ _
          injection h3 with h3
          subst h3
          exact World.ownsRow.cells h1 rfl j u hu)
        have hcl:=HCL.out
        have hln:=HLN.out
        have hvn:=HVN.out
        go_wp2_with (first | (go_at_call 49;(with_reducible refine (markBK_at _ _ k (nk+q) rfl (by omega) (by omega) (by omega) _).mono ?_);rintro e w' ⟨rfl,rfl⟩) | (at_builtin;refine wpList_append_grows _ rfl (.tmp 57) (.tmp 67) 25 rfl 5 i0 (.int .u8 0) 1 1 Tryz.underlying25 hi hz0 hz1 hz2 rfl (by decide) va (nk+q) vc (mks mkB k (nk+q)) rfl hvn hln hcl ⟨wr.heap.size,0,none⟩ 1 1 [.int .u8 (markBK k (nk+q))] rfl rfl (cell_one_new _ _ _) (by simp [Value.oneCell']) (by omega) (by unfold maxLen;omega) (by omega) ?_))
        intro v3 w3 hown3 hg3
        have HGA:=grow_alloc HGR.out (.cells #[.int .u8 (markBK k (nk+q))] 5)
        have hgr3:=grow_new HGA (by simp;omega) (by simp;omega) (by rw [World.size_alloc];exact hown3) hg3
        have hR3:∀ j,j<K→j ≠ k→w3.ownsRow B 5 1 (R j) (n j) (mks mkB j (n j)):=fun j hj hjk =>
         World.ownsRow.kept ((HRO.out j hj hjk).alloc _) hg3 (by cases (R j).ownBlock <;> simp)
        have hV3:∀ j,j<k→w3.ownsRow B 5 1 (V j) (n j+64) (mks mkB j (n j+64)):=fun j hj =>
         World.ownsRow.kept ((HVO.out j hj).alloc _) hg3 (by cases (V j).ownBlock <;> simp)
        have hl3:=World.ownsRow.kept (HLW2.out.alloc (.cells #[.int .u8 (markBK k (nk+q))] 5)) hg3 (by simp [Value.ownBlock])
        have hG3:=World.ownsRow.kept (HGW2.out.alloc (.cells #[.int .u8 (markBK k (nk+q))] 5)) hg3 (by simp [Value.ownBlock])
        have hb3:Kb (ofRows K R) B 5 w w3:=(hbel.alloc (by omega) _).grownNone hg3 (by simp;omega)
        have hs3:wi.heap.size≤w3.heap.size:=by have:=hg3.size;simp at this;omega
        have HA1:=Hd hgr3
        have HA2:=Hd hR3
        have HA3:=Hd hV3
        have HA4:=Hd hl3
        have HA5:=Hd hG3
        clear hown3 hg3 HGA hgr3 hR3 hV3 hl3 hG3 c0 hcl hln hvn
        go_wp2_with fail
        go_roundw
        case rel=>exact ⟨q+1,by omega,by go_num,HA1.out,HA2.out,HA3.out,HA4.out,HA5.out,hb3,hs3⟩
        case measure=>simp [intOf];omega
      ·
       obtain rfl:64=q:=by omega
       obtain ⟨va,vc,hv,_,_,_⟩:=row_form HGR.out.1
       subst hv
       have c1:wr.cell? ⟨wo.heap.size,k,none⟩=some (.slice none 0 0):=by
        rw [oca HGW2.out k (by omega),range_get _ K k hlt]
        simp
       have f1:wr.frozen? ⟨wo.heap.size,k,none⟩=false:=World.ownsRow.frozenAt HGW2.out _
       have hst:=World.ownsRow.stored HGW2.out k (.slice va (nk+64) vc)
       rw [range_set] at hst
       have HST:=Hd hst
       clear hst
       go_wp2_with fail
       go_roundw
       case rel =>
        have hg:=HST.out.2
        have hGB:B≤wo.heap.size:=(HGW2.out.lt _ rfl).1
        refine ⟨k+1,fun j=>if j=k then .slice va (nk+64) vc else V j,by omega,by go_num,fun j hj=>?_,fun j hj=>?_,fun i j hi hj hij=>?_,fun i j hi hj hij=>?_,World.ownsRow.kept HLW2.out hg HLG.out.ne,?_,hbel.grownNew hg (by have:=hbel.size;omega) hwo hGB⟩
        ·
         by_cases e:j=k
         ·
          subst e
          have h1:=World.ownsRow.kept HGR.out.2.1 hg (own_apart HGR.out.2.1 HGW2.out (by decide))
          rw [HNK.out] at h1 ⊢
          exact h1
         · exact World.ownsRow.kept (HRO.out j hj e) hg (own_apart (HRO.out j hj e) HGW2.out (by decide))
        ·
         by_cases e:j=k
         ·
          subst e
          simp only [if_true]
          have h1:=World.ownsRow.kept HGR.out.1 hg (own_apart HGR.out.1 HGW2.out (by decide))
          rw [← HNK.out]
          exact h1
         ·
          simp only [e,if_false]
          exact World.ownsRow.kept (HVO.out j (by omega)) hg (own_apart (HVO.out j (by omega)) HGW2.out (by decide))
        ·
         by_cases e:i=k
         ·
          subst e
          simp only [if_true]
          intro b hb hb'
          rcases HGR.out.2.2 with h1 | h1
          · exact HS.out i j hlt hj hij b (h1 ▸ hb) hb'
          ·
           have:=h1 b hb
           have:=((HP.out j hj).lt b hb').2
           omega
         ·
          simp only [e,if_false]
          exact HVR.out i j (by omega) hj hij
        ·
         by_cases e:i=k
         ·
          have e2:¬ j=k:=fun h=>hij (e.trans h.symm)
          subst e
          simp only [if_true,e2,if_false]
          intro b hb hb'
          rcases HGR.out.2.2 with h1 | h1
          · exact HVR.out j i (by omega) hlt (Ne.symm hij) b hb' (h1 ▸ hb)
          ·
           have:=h1 b hb
           have:=((HV.out j (by omega)).lt b hb').2
           omega
         ·
          by_cases e2:j=k
          ·
           subst e2
           simp only [if_true,e,if_false]
           intro b hb hb'
           rcases HGR.out.2.2 with h1 | h1
           · exact HVR.out i j (by omega) hlt hij b hb (h1 ▸ hb')
           ·
            have:=h1 b hb'
            have:=((HV.out i (by omega)).lt b hb).2
            omega
          ·
           simp only [e,e2,if_false]
           exact HVV.out i j (by omega) (by omega) hij
        ·
         have h1:=HST.out.1
         have e:(fun j=>if j=k then (Value.slice va (nk+64) vc) else if j<k then V j else .slice none 0 0)=fun j=>if j<k+1 then (if j=k then (Value.slice va (nk+64) vc) else V j) else .slice none 0 0:=by
          funext j
          by_cases e1:j=k
          · subst e1;simp
          ·
           by_cases e2:j<k
           · simp [e1,e2,show j<k+1 by omega]
           · simp [e1,e2,show ¬ j<k+1 by omega]
         rw [e] at h1
         exact h1
       case measure=>simp [intOf];omega
    ·
     obtain rfl:K=k:=by omega
     obtain ⟨wb,rfl⟩:∃ wb:World,wb=wr:=⟨_,rfl⟩
     have HGW2:=Hd (show wb.ownsRow B 25 1 (.slice (some ⟨wo.heap.size,0,none⟩) K K) K ((List.range K).map V) by
      have h1:=HGW.out
      have e:((List.range K).map fun j=>if j<K then V j else .slice none 0 0)=(List.range K).map V:=List.map_congr_left fun j hj=>by simp [List.mem_range.1 hj]
      rwa [e] at h1)
     clear HGW
     have hsb:=hbel.size
     have hgl:=(HGW2.out.lt _ rfl).2
     go_wp2_with fail
     go_loopw [9,10] (fun i _ wr=>∃ k:Nat,k≤K∧i=.int .i64 k∧Below wb.heap.size wb wr) (fun i _ _=>K - (intOf i).toNat)
     case atStart=>exact ⟨0,by omega,rfl,Below.refl _ _⟩
     case round =>
      obtain ⟨k,hk,rfl,hb5⟩:=hrel
      by_cases hlt:k<K
      ·
       obtain ⟨a,c,hRk,_,hasome,hac⟩:=row_form (HP.out k hlt)
       obtain ⟨va,vc,hVk,_,hvsome,hvc⟩:=row_form (HV.out k hlt)
       have hnk:=HN.out k hlt
       have hVr:=HV.out k hlt
       have hRr:=HP.out k hlt
       obtain ⟨nk,hnk2⟩:∃ nk,nk=n k:=⟨_,rfl⟩
       rw [hRk] at hRr
       rw [hVk] at hVr
       simp only [← hnk2] at hRk hVk hnk hac hvc hVr hRr
       obtain ⟨lb,lcc,hlo⟩:=Go.Joins.ownsRow_form HLW.out (by omega)
       cases hlo
       have cl:wb.cell? ⟨lb,k,none⟩=some (.slice a nk c):=by
        rw [oca HLW.out k (by omega),range_get R K k hlt,hRk]
       have cg:wb.cell? ⟨wo.heap.size,k,none⟩=some (.slice va (nk+64) vc):=by
        rw [oca HGW2.out k (by omega),range_get V K k hlt,hVk]
       have hll:=(HLW.out.lt lb rfl).2
       have HVR2:=Hd hVr
       have HRR2:=Hd hRr
       have HVS:=Hd hvsome
       have HAS:=Hd hasome
       have i1:(k:Int)<K:=by omega
       clear hRk hVk hnk2 hVr hRr hvsome hasome
       go_wp2_with fail
       go_loopw [10] (fun i wr=>∃ q:Nat,q≤nk+64∧i=.int .i64 q∧Below wb.heap.size wb wr) (fun i _=>nk+64 - (intOf i).toNat)
       case atStart=>exact ⟨0,by omega,rfl,hb5⟩
       case round =>
        clear hb5
        obtain ⟨q,hq,rfl,hb5⟩:=hrel
        have cg5:wr.cell? ⟨wo.heap.size,k,none⟩=some (.slice va (nk+64) vc):=(hb5.cell (p:=⟨wo.heap.size,k,none⟩) hgl).trans cg
        by_cases hltq:q<nk+64
        ·
         obtain ⟨vg,rfl⟩:=HVS.out (by omega)
         have hvg:=(HVR2.out.lt vg rfl).2
         have dv:wb.cell? ⟨vg,q,none⟩=some (.int .u8 (markBK k q)):=by
          rw [oca HVR2.out q (by omega)]
          have:=mks_get mkB_len k (nk+64) q 0 hltq (by decide)
          simpa [mkB] using this
         have k0:∀ x:Calm wb.heap.size wb,x.1.cell? ⟨wo.heap.size,k,none⟩=some (.slice (some ⟨vg,0,none⟩) (nk+64) vc):=fun x=>x.cell cg hgl
         have k1:∀ x:Calm wb.heap.size wb,x.1.cell? ⟨vg,q,none⟩=some (.int .u8 (markBK k q)):=fun x=>x.cell dv hvg
         have k2:∀ x:Calm wb.heap.size wb,x.1.cell? ⟨lb,k,none⟩=some (.slice a nk c):=fun x=>x.cell cl hll
         have i2:(q:Int)<(nk:Int)+64:=by omega
         have i3:(q:Int)<((nk+64:Nat):Int):=by omega
         by_cases hlq:q<nk
         ·
          obtain ⟨rg,rfl⟩:=HAS.out (by omega)
          have hrg:=(HRR2.out.lt rg rfl).2
          have dr:wb.cell? ⟨rg,q,none⟩=some (.int .u8 (markBK k q)):=by
           rw [oca HRR2.out q (by omega)]
           have:=mks_get mkB_len k nk q 0 hlq (by decide)
           simpa [mkB] using this
          have k3:∀ x:Calm wb.heap.size wb,x.1.cell? ⟨rg,q,none⟩=some (.int .u8 (markBK k q)):=fun x=>x.cell dr hrg
          have i4:(q:Int)<nk:=by omega
          have d1:decide ((q:Int)<nk)=true:=by simpa using hlq
          have d2:decide (q<nk)=true:=by simpa using hlq
          clear dv dr cl cg
          go_wp2_with fail
          clear cg5
          refine wp_region_calm (B:=wb.heap.size) (W0:=wb) hb5 (by kernel_rfl) (by kernel_rfl) ?_
          repeat (go_big_quiet_step ((go_at_call 49;exact Calm.same (markBK_at _ _ k q rfl rfl (by omega) (by omega) _))))
          refine wpQuiet_nil ?_
          intro w6 hb6
          clear k0 k1 k2 k3
          go_wp2_with fail
          go_roundw
          case rel=>exact ⟨q+1,by omega,by go_num,hb6⟩
          case measure=>simp [intOf];omega
         ·
          have i4:¬ (q:Int)<nk:=by omega
          have d1:decide ((q:Int)<nk)=false:=by simp;omega
          have d2:decide (q<nk)=false:=by simpa using hlq
          clear dv cl cg
          go_wp2_with fail
          clear cg5
          refine wp_region_calm (B:=wb.heap.size) (W0:=wb) hb5 (by kernel_rfl) (by kernel_rfl) ?_
          repeat (go_big_quiet_step ((go_at_call 49;exact Calm.same (markBK_at _ _ k q rfl rfl (by omega) (by omega) _))))
          refine wpQuiet_nil ?_
          intro w6 hb6
          clear k0 k1 k2
          go_wp2_with fail
          go_roundw
          case rel=>exact ⟨q+1,by omega,by go_num,hb6⟩
          case measure=>simp [intOf];omega
        ·
         obtain rfl:q=nk+64:=by omega
         go_wp2_with fail
         go_roundw
         case rel=>exact ⟨k+1,by omega,by go_num,hb5⟩
         case measure=>simp [intOf];omega
      ·
       obtain rfl:K=k:=by omega
       have hV2:∀ j,j<K→∃ ys:List Value,wr.ownsRow B 5 1 (V j) (n j+64) (mks mkB j (n j) ++ ys):=fun j hj=>by
        have h1:=own_below (HV.out j hj) hb5 (nlr _)
        refine ⟨(mks mkB j (n j+64)).drop (n j * 1),?_⟩
        rw [← mks_take mkB_len j (n j) 64,List.take_append_drop]
        exact h1
       have hP2:RowsAt B 5 1 K R n (fun j=>mks mkB j (n j)) wr:=fun j hj=>own_below (HP.out j hj) hb5 (nlr _)
       have hl2:=own_below HLW.out hb5 (nlr _)
       have hg2:=own_below HGW2.out hb5 (nlr _)
       have hbw:Kb (ofRows K R) B 5 w wr:=hbel.trans_below hb5 (by omega)
       have HV2:=Hd hV2
       have HP2:=Hd hP2
       have HL2:=Hd hl2
       have HG2:=Hd hg2
       have hmk:∀ w,(Instr.makeSlice 25 (.int .i64 64) (.int .i64 64)).run Tryz.prog w=.ok (.slice (some ⟨w.heap.size,0,none⟩) 64 64) (w.alloc (.cells (madeCells #[.int .u8 0] 64) 5)):=fun w=>run_make_row' (P:=Tryz.prog) 25 5 (.int .u8 0) 1 Tryz.underlying25 infoByte rfl .i64 .i64 64 (by omega) (by omega) w
       clear hV2 hP2 hl2 hg2 hb5 HV HP HLW HGW2
       go_wp2_with fail
       go_loopw [11,12,13] (fun i _ _ wr=>∃ (k:Nat) (V:Nat→Value),k≤K∧i=.int .i64 k∧RowsAt B 5 1 K R n (fun j=>mks mkB j (n j)) wr∧(∀ j,j<K→∃ ys:List Value,wr.ownsRow B 5 1 (V j) (n j+64) (mks mkB j (n j) ++ ys))∧(∀ i j,i<K→j<K→i ≠ j→Sep (V i) (R j))∧(∀ i j,i<K→j<K→i ≠ j→Sep (V i) (V j)) ∧
        wr.ownsRow B 25 1 (.slice lo K lc) K ((List.range K).map R)∧wr.ownsRow B 25 1 (.slice (some ⟨wo.heap.size,0,none⟩) K K) K ((List.range K).map V)∧Kb (ofRows K R) B 5 w wr) (fun i _ _ _=>K - (intOf i).toNat)
       case atStart=>exact ⟨0,V,by omega,rfl,HP2.out,HV2.out,HVR.out,HVV.out,HL2.out,HG2.out,hbw⟩
       case round =>
        clear hbel hsb hbw HV2 HP2 HL2 HG2 HVR HVV hgl
        obtain ⟨k,V,hk,rfl,hP,hV,hVR,hVV,hlw,hgw,hbel⟩:=hrel
        have HP:=Hd hP
        have HV:=Hd hV
        have HVR:=Hd hVR
        have HVV:=Hd hVV
        have HLW:=Hd hlw
        have HGW:=Hd hgw
        clear hP hV hVR hVV hlw hgw
        have hsb:=hbel.size
        by_cases hlt:k<K
        ·
         obtain ⟨wi,rfl⟩:∃ wi:World,wi=wr:=⟨_,rfl⟩
         have i1:(k:Int)<K:=by omega
         have hm0:=World.ownsRow_lit (base:=wi.heap.size) (e:=5) (size:=1) wi (madeCells #[.int .u8 0] 64) 64 (nlr _) (by unfold maxLen;omega) (by simp [size_madeCells])
         rw [made_list] at hm0
         have hm1:(wi.alloc (.cells (madeCells #[.int .u8 0] 64) 5)).ownsRow wi.heap.size 5 1 (.slice (some ⟨wi.heap.size,0,none⟩) 64 64) 64 (((List.range 64).map fun _=>(0:Int)).map bv):=by
          rw [List.map_map];exact hm0
         have hba:Below wi.heap.size wi (wi.alloc (.cells (madeCells #[.int .u8 0] 64) 5)):=(Below.refl _ _).alloc (nlr _) _
         have HM1:=Hd hm1
         clear hm0 hm1
         go_wp2_with fail
         generalize wi.alloc (.cells (madeCells #[.int .u8 0] 64) 5)=w2 at HM1 hba ⊢
         go_loopw [13] (fun i wr=>∃ (q:Nat) (zs:List Int),q≤64∧i=.int .i64 q∧zs.length=64∧wr.ownsRow wi.heap.size 5 1 (.slice (some ⟨wi.heap.size,0,none⟩) 64 64) 64 (zs.map bv)∧Below wi.heap.size wi wr) (fun i _=>64 - (intOf i).toNat)
         case atStart=>exact ⟨0,(List.range 64).map fun _=>(0:Int),by omega,rfl,by simp,HM1.out,hba⟩
         case round =>
          clear hba HM1
          obtain ⟨q,zs,hq,rfl,hzl,hmo,hbi⟩:=hrel
          have HMO:=Hd hmo
          have HZL:=Hd hzl
          clear hmo hzl
          by_cases hltq:q<64
          ·
           have i2:(q:Int)<64:=by omega
           have hzl:=HZL.out
           have d0:wr.cell? ⟨wi.heap.size,q,none⟩=some (.int .u8 (zs[q]'(by omega))):=by
            rw [oca HMO.out q (by omega),List.getElem?_map,List.getElem?_eq_getElem (by omega)]
            rfl
           have f0:wr.frozen? ⟨wi.heap.size,q,none⟩=false:=World.ownsRow.frozenAt HMO.out _
           have hst:=World.ownsRow.stored HMO.out q (.int .u8 (markBK (k+K) q))
           have HST:=Hd hst
           generalize (zs[q]'(by omega))=old at d0
           clear hst hzl
           go_wp2_with (go_at_call 49;(with_reducible refine (markBK_at _ _ (k+K) q (by omega) rfl (by omega) (by omega) _).mono ?_);rintro e w' ⟨rfl,rfl⟩)
           go_roundw
           case rel=>exact ⟨q+1,zs.set q (markBK (k+K) q),by omega,by go_num,by rw [List.length_set];exact HZL.out,by rw [List.map_set];exact HST.out.1,hbi.setCell (p:=⟨wi.heap.size,q,none⟩) (nlr _) _⟩
           case measure=>simp [intOf];omega
          ·
           obtain rfl:64=q:=by omega
           have hP6:RowsAt B 5 1 K R n (fun j=>mks mkB j (n j)) wr:=fun j hj=>own_below (HP.out j hj) hbi (nlr _)
           have hV6:∀ j,j<K→∃ ys:List Value,wr.ownsRow B 5 1 (V j) (n j+64) (mks mkB j (n j) ++ ys):=fun j hj=>by
            obtain ⟨ys,hys⟩:=HV.out j hj
            exact ⟨ys,own_below hys hbi (nlr _)⟩
           have hl6:=own_below HLW.out hbi (nlr _)
           have hg6:=own_below HGW.out hbi (nlr _)
           have hb6:Kb (ofRows K R) B 5 w wr:=hbel.trans_below hbi (by omega)
           have hs6:=hb6.size
           obtain ⟨a,c,hRk,hanone,hasome,hac⟩:=row_form (hP6 k hlt)
           have hRr:=hP6 k hlt
           obtain ⟨ys0,hys0⟩:=hV6 k hlt
           obtain ⟨va,vc,hVk,_,_,_⟩:=row_form hys0
           have hnk:=HN.out k hlt
           obtain ⟨nk,hnk2⟩:∃ nk,nk=n k:=⟨_,rfl⟩
           rw [hRk] at hRr
           simp only [← hnk2] at hRk hVk hnk hac hRr hanone
           obtain ⟨lb,lcc,hlo⟩:=Go.Joins.ownsRow_form hl6 (by omega)
           cases hlo
           have c0:wr.cell? ⟨lb,k,none⟩=some (.slice a nk c):=by
            rw [oca hl6 k (by omega),range_get R K k hlt,hRk]
           have hnews:∀ (j:Nat) u,(zs.map bv)[j]?=some u→wr.cell? ((⟨wi.heap.size,0,none⟩:Addr).add j)=some u:=fun j u hu=>World.ownsRow.cells HMO.out rfl j u hu
           have hzn:(zs.map bv).length=64 * 1:=by rw [List.length_map,HZL.out]
           have HRK:=Hd hRk
           have HVK:=Hd hVk
           have HNK:=Hd hnk2
           have HP6:=Hd hP6
           have HV6:=Hd hV6
           have HL6:=Hd hl6
           have HG6:=Hd hg6
           have HRR:=Hd hRr
           have HAS:=Hd hasome
           have HAN:=Hd hanone
           have HNW:=Hd hnews
           have HZN:=Hd hzn
           clear hRk hVk hnk2 hP6 hV6 hl6 hg6 hRr hasome hanone hys0 hnews hzn
           have hnews:=HNW.out
           have hzn:=HZN.out
           by_cases hfit:nk+64≤c
           rotate_left
           focus
            have hcl:∀ b,a=some b→∀ (j:Nat) u,(mks mkB k nk)[j]?=some u→wr.cell? (b.add j)=some u:=fun b hb j u hu=>by
             have h1:=HRR.out
             rw [hb,HNK.out] at h1
             rcases Go.Joins.ownsRow_forms h1 with ⟨h2,_⟩ | ⟨g2,c2,h2⟩
             · cases h2
             ·
              injection h2 with h3 _ _
              injection h3 with h3
              subst h3
              exact World.ownsRow.cells h1 rfl j u (by rw [← HNK.out];exact hu)
            have hln:=mks_len mkB_len k nk
            have hvn:=HAN.out
            have HCL:=Hd hcl
            have HLN:=Hd hln
            go_wp2_with (at_builtin;refine wpList_append_grows _ rfl (.tmp 148) (.tmp 149) 25 rfl 5 i0 (.int .u8 0) 1 1 Tryz.underlying25 hi hz0 hz1 hz2 rfl (by decide) a nk c (mks mkB k nk) rfl hvn hln hcl ⟨wi.heap.size,0,none⟩ 64 64 (zs.map bv) rfl hzn hnews (bytes_oneCell _) (by omega) (by unfold maxLen;omega) (by omega) ?_)
            intro v3 w3 hown3 hg3
            have HF1:=Hd (show RowsAt B 5 1 K R n (fun j=>mks mkB j (n j)) w3 from fun j hj=>World.ownsRow.kept (HP6.out j hj) hg3 (by cases (R j).ownBlock <;> simp))
            have HF2:=Hd (show ∀ j,j<K→j ≠ k→∃ ys:List Value,w3.ownsRow B 5 1 (V j) (n j+64) (mks mkB j (n j) ++ ys) from fun j hj _=>by
             obtain ⟨ys,hys⟩:=HV6.out j hj
             exact ⟨ys,World.ownsRow.kept hys hg3 (by cases (V j).ownBlock <;> simp)⟩)
            have HF3:=Hd (Go.Joins.ownsRow_le hown3 (show B≤wr.heap.size by omega))
            have HF4:=Hd (show v3.ownBlock=(R k).ownBlock∨∀ b,v3.ownBlock=some b→wr.heap.size≤b from Or.inr fun b hb=>(hown3.lt b hb).1)
            have HF5:=Hd (World.ownsRow.kept HL6.out hg3 (by simp [Value.ownBlock]))
            have HF6:=Hd (World.ownsRow.kept HG6.out hg3 (by simp [Value.ownBlock]))
            have HF7:=Hd (show Kb (ofRows K R) B 5 w w3 from hb6.grownNone hg3 (by omega))
            clear hown3 hg3 hcl hln hvn HCL HLN hfit c0 hnews hzn
           rotate_left
           focus
            obtain ⟨rg,rfl⟩:=HAS.out (by omega)
            have hRr:=HRR.out
            go_wp2_with (at_builtin;refine wpList_append_fits _ rfl (.tmp 148) (.tmp 149) 25 rfl B 5 i0 1 Tryz.underlying25 hi hz1 rg nk c (mks mkB k nk) rfl hRr ⟨wi.heap.size,0,none⟩ 64 64 (zs.map bv) rfl hzn hnews (bytes_oneCell _) hfit ?_)
            intro w3 hown3 hg3
            have hRb:(R k).ownBlock=some rg:=by rw [HRK.out];rfl
            have HF1:=Hd (show RowsAt B 5 1 K R n (fun j=>mks mkB j (n j)) w3 from fun j hj=>by
             by_cases e:j=k
             ·
              subst e
              have h3:=own_prefix hown3 (show nk≤nk+64 by omega)
              rw [List.take_left' (mks_len mkB_len j nk)] at h3
              show w3.ownsRow B 5 1 (R j) (n j) (mks mkB j (n j))
              rw [HRK.out,← HNK.out]
              exact h3
             · exact World.ownsRow.kept (HP6.out j hj) hg3 (by rw [← hRb];exact (HS.out j k hj hlt e).ne))
            have HF2:=Hd (show ∀ j,j<K→j ≠ k→∃ ys:List Value,w3.ownsRow B 5 1 (V j) (n j+64) (mks mkB j (n j) ++ ys) from fun j hj e=>by
             obtain ⟨ys,hys⟩:=HV6.out j hj
             exact ⟨ys,World.ownsRow.kept hys hg3 (by rw [← hRb];exact (HVR.out j k hj hlt e).ne)⟩)
            have HF3:=Hd hown3
            have HF4:=Hd (show (Value.slice (some ⟨rg,0,none⟩) (nk+64) c).ownBlock=(R k).ownBlock∨∀ b,(Value.slice (some ⟨rg,0,none⟩) (nk+64) c).ownBlock=some b→wr.heap.size≤b from Or.inl hRb.symm)
            have HF5:=Hd (World.ownsRow.kept HL6.out hg3 (own_apart HL6.out hRr (by decide)))
            have HF6:=Hd (World.ownsRow.kept HG6.out hg3 (own_apart HG6.out hRr (by decide)))
            have HF7:=Hd (show Kb (ofRows K R) B 5 w w3 from hb6.grownRow hg3 (by omega) hRr (hRr.lt rg rfl).1 (Or.inl ⟨k,hlt,hRb⟩))
            clear hown3 hg3 hfit c0 hnews hzn hRr hRb
            generalize (Value.slice (some ⟨rg,0,none⟩) (nk+64) c)=v3 at HF3 HF4 ⊢
           all_goals
            obtain ⟨va3,vc3,hv3,_,_,_⟩:=row_form HF3.out
            subst hv3
            have e1:w3.cell? ⟨wo.heap.size,k,none⟩=some (.slice va (nk+64) vc):=by
             rw [oca HF6.out k (by omega),range_get V K k hlt,HVK.out]
            have f1:w3.frozen? ⟨wo.heap.size,k,none⟩=false:=World.ownsRow.frozenAt HF6.out _
            have hst:=World.ownsRow.stored HF6.out k (.slice va3 (nk+64) vc3)
            rw [range_set] at hst
            have HST:=Hd hst
            clear hst
            go_wp2_with fail
            go_roundw
            case rel =>
             have hg:=HST.out.2
             have hGB:B≤wo.heap.size:=(HF6.out.lt _ rfl).1
             refine ⟨k+1,fun j=>if j=k then .slice va3 (nk+64) vc3 else V j,by omega,by go_num,fun j hj=>?_,fun j hj=>?_,fun i j hi hj hij=>?_,fun i j hi hj hij=>?_,World.ownsRow.kept HF5.out hg HLG.out.ne,HST.out.1,HF7.out.grownNew hg (by have:=HF7.out.size;omega) hwo hGB⟩
             · exact World.ownsRow.kept (HF1.out j hj) hg (own_apart (HF1.out j hj) HF6.out (by decide))
             ·
              by_cases e:j=k
              ·
               subst e
               simp only [if_true]
               refine ⟨zs.map bv,?_⟩
               rw [← HNK.out]
               exact World.ownsRow.kept HF3.out hg (own_apart HF3.out HF6.out (by decide))
              ·
               simp only [e,if_false]
               obtain ⟨ys,hys⟩:=HF2.out j hj e
               exact ⟨ys,World.ownsRow.kept hys hg (own_apart hys HF6.out (by decide))⟩
             ·
              by_cases e:i=k
              ·
               subst e
               simp only [if_true]
               intro b hb hb'
               rcases HF4.out with h1 | h1
               · exact HS.out i j hlt hj hij b (h1 ▸ hb) hb'
               ·
                have:=h1 b hb
                have:=((HP6.out j hj).lt b hb').2
                omega
              ·
               simp only [e,if_false]
               exact HVR.out i j hi hj hij
             ·
              by_cases e:i=k
              ·
               have e2:¬ j=k:=fun h=>hij (e.trans h.symm)
               subst e
               simp only [if_true,e2,if_false]
               intro b hb hb'
               rcases HF4.out with h1 | h1
               · exact HVR.out j i hj hlt (Ne.symm hij) b hb' (h1 ▸ hb)
               ·
                have:=h1 b hb
                obtain ⟨ys,hys⟩:=HV6.out j hj
                have:=(hys.lt b hb').2
                omega
              ·
               by_cases e2:j=k
               ·
                subst e2
                simp only [if_true,e,if_false]
                intro b hb hb'
                rcases HF4.out with h1 | h1
                · exact HVR.out i j hi hlt hij b hb (h1 ▸ hb')
                ·
                 have:=h1 b hb'
                 obtain ⟨ys,hys⟩:=HV6.out i hi
                 have:=(hys.lt b hb).2
                 omega
               ·
                simp only [e,e2,if_false]
                exact HVV.out i j hi hj hij
            case measure=>simp [intOf];omega
        ·
         obtain rfl:K=k:=by omega
         obtain ⟨wc,rfl⟩:∃ wc:World,wc=wr:=⟨_,rfl⟩
         have hgl:=(HGW.out.lt _ rfl).2
         clear hmk
         go_wp2_with fail
         go_loopw [14,15] (fun i _ wr=>∃ k:Nat,k≤K∧i=.int .i64 k∧Below wc.heap.size wc wr) (fun i _ _=>K - (intOf i).toNat)
         case atStart=>exact ⟨0,by omega,rfl,Below.refl _ _⟩
         case round =>
          obtain ⟨k,hk,rfl,hb5⟩:=hrel
          by_cases hlt:k<K
          ·
           obtain ⟨a,c,hRk,_,hasome,hac⟩:=row_form (HP.out k hlt)
           obtain ⟨ys,hVr⟩:=HV.out k hlt
           obtain ⟨va,vc,hVk,_,hvsome,hvc⟩:=row_form hVr
           have hnk:=HN.out k hlt
           have hRr:=HP.out k hlt
           obtain ⟨nk,hnk2⟩:∃ nk,nk=n k:=⟨_,rfl⟩
           rw [hRk] at hRr
           rw [hVk] at hVr
           simp only [← hnk2] at hRk hVk hnk hac hvc hVr hRr
           obtain ⟨lb,lcc,hlo⟩:=Go.Joins.ownsRow_form HLW.out (by omega)
           cases hlo
           have cl:wc.cell? ⟨lb,k,none⟩=some (.slice a nk c):=by
            rw [oca HLW.out k (by omega),range_get R K k hlt,hRk]
           have cg:wc.cell? ⟨wo.heap.size,k,none⟩=some (.slice va (nk+64) vc):=by
            rw [oca HGW.out k (by omega),range_get V K k hlt,hVk]
           have hll:=(HLW.out.lt lb rfl).2
           have HVR2:=Hd hVr
           have HRR2:=Hd hRr
           have HVS:=Hd hvsome
           have HAS:=Hd hasome
           have i1:(k:Int)<K:=by omega
           clear hRk hVk hnk2 hVr hRr hvsome hasome
           go_wp2_with fail
           go_loopw [15] (fun i wr=>∃ q:Nat,q≤nk∧i=.int .i64 q∧Below wc.heap.size wc wr) (fun i _=>nk - (intOf i).toNat)
           case atStart=>exact ⟨0,by omega,rfl,hb5⟩
           case round =>
            clear hb5
            obtain ⟨q,hq,rfl,hb5⟩:=hrel
            have cl5:wr.cell? ⟨lb,k,none⟩=some (.slice a nk c):=(hb5.cell (p:=⟨lb,k,none⟩) hll).trans cl
            by_cases hltq:q<nk
            ·
             obtain ⟨vg,rfl⟩:=HVS.out (by omega)
             obtain ⟨rg,rfl⟩:=HAS.out (by omega)
             have hvg:=(HVR2.out.lt vg rfl).2
             have hrg:=(HRR2.out.lt rg rfl).2
             have hm:=mks_get mkB_len k nk q 0 hltq (by decide)
             have hml:=mks_len mkB_len k nk
             have dv:wc.cell? ⟨vg,q,none⟩=some (.int .u8 (markBK k q)):=by
              rw [oca HVR2.out q (by omega),List.getElem?_append_left (by omega)]
              simpa [mkB] using hm
             have dr:wc.cell? ⟨rg,q,none⟩=some (.int .u8 (markBK k q)):=by
              rw [oca HRR2.out q (by omega)]
              simpa [mkB] using hm
             have k0:∀ x:Calm wc.heap.size wc,x.1.cell? ⟨wo.heap.size,k,none⟩=some (.slice (some ⟨vg,0,none⟩) (nk+64) vc):=fun x=>x.cell cg hgl
             have k1:∀ x:Calm wc.heap.size wc,x.1.cell? ⟨vg,q,none⟩=some (.int .u8 (markBK k q)):=fun x=>x.cell dv hvg
             have k2:∀ x:Calm wc.heap.size wc,x.1.cell? ⟨lb,k,none⟩=some (.slice (some ⟨rg,0,none⟩) nk c):=fun x=>x.cell cl hll
             have k3:∀ x:Calm wc.heap.size wc,x.1.cell? ⟨rg,q,none⟩=some (.int .u8 (markBK k q)):=fun x=>x.cell dr hrg
             have i2:(q:Int)<nk:=by omega
             have i3:(q:Int)<(nk:Int)+64:=by omega
             have i4:(q:Int)<((nk+64:Nat):Int):=by omega
             clear dv dr cl cg hm hml
             go_wp2_with fail
             clear cl5
             refine wp_region_calm (B:=wc.heap.size) (W0:=wc) hb5 (by kernel_rfl) (by kernel_rfl) ?_
             repeat (go_big_quiet_step ((go_at_call 49;exact Calm.same (markBK_at _ _ k q rfl rfl (by omega) (by omega) _))))
             refine wpQuiet_nil ?_
             intro w6 hb6
             clear k0 k1 k2 k3
             go_wp2_with fail
             go_roundw
             case rel=>exact ⟨q+1,by omega,by go_num,hb6⟩
             case measure=>simp [intOf];omega
            ·
             obtain rfl:q=nk:=by omega
             go_wp2_with fail
             go_roundw
             case rel=>exact ⟨k+1,by omega,by go_num,hb5⟩
             case measure=>simp [intOf];omega
          ·
           obtain rfl:K=k:=by omega
           go_wp2_with fail
           go_ret
           exact ⟨rfl,hbel.trans_below hb5 (by omega)⟩
end Go.Proofs.YtglgcjkglhlggaaGreatDoor
/- Small laws for rows whose elements take several cells. No program. Conditions: as each says. -/
namespace Go.Proofs.YtglgcjkglhlggaaGreatDoor
open Go.RowKit
theorem run_make_rows {P:Program}(t e:TypeId)(z:Value)(size bytes:Nat)(ht:P.underlying t=some (.slice e))(hinfo:(P.info? e).map (fun i=>(i.zero,i.size,i.bytes))=some (some z,size,bytes))
  (kl kc:IntKind) (n:Nat) (hbytes:bytes * n≤281474976710656) (h63:n≤9223372036854775807) (w:World) :
  (Instr.makeSlice t (.int kl (n:Int)) (.int kc (n:Int))).run P w=.ok (.slice (some ⟨w.heap.size,0,none⟩) n n) (w.alloc (.cells (madeCells z.cells (n * size)) e)):=by
 obtain ⟨i,hi,hzz⟩:=Option.map_eq_some_iff.1 hinfo
 simp only [Prod.mk.injEq] at hzz
 obtain ⟨hz,hs,hb⟩:=hzz
 have hb':(i.bytes:Int) * (n:Int)≤281474976710656:=by
  have h:((i.bytes * n:Nat):Int)≤281474976710656:=by rw [hb];omega
  rwa [Int.natCast_mul] at h
 have hr:=run_make (P:=P) w t e i z ht hi hz kl kc n n (by omega) (Int.le_refl _) hb' (by omega)
 simp only [Int.toNat_natCast,hs] at hr
 exact hr
theorem made_one (z:Array Value)(n:Nat)(h0:0<z.size)(h:z.toList.all (fun u=>u.oneCell')=true):∀ u ∈ (madeCells z n).toList,u.oneCell'=true:=by
 intro u hu
 unfold madeCells at hu
 simp only [Array.toList_map,Array.toList_range,List.mem_map,List.mem_range] at hu
 obtain ⟨i,_,rfl⟩:=hu
 have hlt:i % z.size<z.size:=Nat.mod_lt _ h0
 rw [getElem!_pos z (i % z.size) hlt]
 exact List.all_eq_true.1 h _ (by simp)
theorem one_set {l:List Value}{q:Nat}{u:Value}(h:∀ x ∈ l,x.oneCell'=true)(hu:u.oneCell'=true):∀ x ∈ l.set q u,x.oneCell'=true:=by
 intro x hx
 rcases List.mem_or_eq_of_mem_set hx with hx | hx
 · exact h x hx
 · rw [hx];exact hu
theorem cells_new (w:World)(T:TypeId)(cs:List Value):∀ j u,cs[j]?=some u→(w.alloc (.cells cs.toArray T)).cell? ((⟨w.heap.size,0,none⟩:Addr).add j)=some u:=by
 intro j u hu
 have hadd:(⟨w.heap.size,0,none⟩:Addr).add j=⟨w.heap.size,j,none⟩:=by unfold Addr.add;split <;> simp_all
 rw [hadd,World.cell?_alloc_at _ _ _ _ rfl]
 simpa using hu
end Go.Proofs.YtglgcjkglhlggaaGreatDoor
