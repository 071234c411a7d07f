/- Parts of one proof. Conditions: as each says. -/
import Derived.Test.YtepdklfkegkojaaGreatDoorGLetterNumbers0
import Derived.Test.YtepdklfkegkojaaGreatDoorGLetterNumbers17
import Derived.Test.YtepdklfkegkojaaGreatDoorGLetterNumbers2
import Derived.Test.YtepdklfkegkojaaGreatDoorGLetterNumbers19
import Derived.Test.YtepdklfkegkojaaGreatDoorGLetterNumbers4
import Derived.Test.YtepdklfkegkojaaGreatDoorGLetterNumbers15
import Derived.Test.YtepdklfkegkojaaGreatDoorGLetterNumbers16
set_option linter.all false
set_option maxHeartbeats 16000000
set_option maxRecDepth 100000
namespace Go.Proofs.YtepdklfkegkojaaGreatDoor
open Go.Proofs.Tryz
open Go.RowKit
theorem abq (ao:Option Addr)(n cap:Nat)(xs:List Int)(w:World)(B:Nat)(hn:xs.length=n)(hx:BytesIn w B ao xs)(hB:B<=w.heap.size)(bm:ao=none->cap=0)(hl:n<=1099511627776) :
  Calls prog 24 #[.slice ao n cap] w λ e w'=>∃g,e=.returned (.slice (some ⟨g,0,none⟩) n (n+12))/\w.heap.size<=g/\g<w'.heap.size/\oG w' w.heap.size g xs/\Below w.heap.size w w':=by
 subst hn;exact K9 ao cap xs w (hx.mono hB) bm hl
theorem abr (ao:Option Addr)(n cap c2 g B:Nat)(xs:List Int)(w:World)(hn:xs.length=n)(hc:c2=n+12)(hx:BytesIn w w.heap.size ao xs)(hL:oG w B g xs)(hl:n<=1099511627776) :
  Calls prog 25 #[.slice (some ⟨g,0,none⟩) n c2,.slice ao n cap] w λ e w'=>e=.returned (.bool true)/\Below w.heap.size w w':=by
 subst hn hc;exact La ao cap g B xs w hx hL hl
theorem abs (B g n c2:Nat)(xs:List Int)(w:World)(hn:xs.length=n)(hc:c2=n+12)(h:oG w B g xs)(hl:n<=1099511627776) :
  Calls prog 26 #[.slice (some ⟨g,0,none⟩) n c2] w λ e w'=>e=.returned (.tuple #[])/\w.grownBy w' (some g):=by
 subst hn hc;exact(ZQ B g xs.length _ w h hl).mono λ e w' h=>⟨h.1,h.2.1⟩
theorem ji (T E:TypeId)(h:∀w,(Instr.makeSlice T (.int .i64 0) (.int .i64 0)).run prog w=.ok (.slice (some ⟨w.heap.size,0,none⟩) 0 0) (w.alloc (.cells #[] E))):∃E,∀w,(Instr.makeSlice T (.int .i64 0) (.int .i64 0)).run prog w=.ok (.slice (some ⟨w.heap.size,0,none⟩) 0 0) (w.alloc (.cells #[] E)):=⟨E,h⟩
theorem uX (f:FuncId)(hf:f∈[95,96,97,98,99,100])(w:World):Calls prog f #[.slice none 0 0] w λ e w'=>e=.returned (.bool true)/\Below w.heap.size w w':=by
 simp only[List.mem_cons,List.not_mem_nil,or_false]at hf;rcases hf with rfl|rfl|rfl|rfl|rfl|rfl
 focus
  obtain⟨E,hmk⟩:=ji 98 205 (λ _=>by kernel_rfl);go_enter func95,ntmps95
 rotate_left
 focus
  obtain⟨E,hmk⟩:=ji 99 207 (λ _=>by kernel_rfl);go_enter func96,ntmps96
 rotate_left
 focus
  obtain⟨E,hmk⟩:=ji 100 24 (λ _=>by kernel_rfl);go_enter func97,ntmps97
 rotate_left
 focus
  obtain⟨E,hmk⟩:=ji 101 147 (λ _=>by kernel_rfl);go_enter func98,ntmps98
 rotate_left
 focus
  obtain⟨E,hmk⟩:=ji 102 208 (λ _=>by kernel_rfl);go_enter func99,ntmps99
 rotate_left
 focus
  obtain⟨E,hmk⟩:=ji 53 25 (λ _=>by kernel_rfl);go_enter func100,ntmps100
 rotate_left
 all_goals
  go_wp2_with fail
  go_loopw [3,4] (λ i _ wr=>i=.int .i64 0/\Below w.heap.size w wr) (λ _ _ _=>0)
  exact⟨rfl,aj _ _⟩
  obtain⟨rfl,ag⟩:=hrel;have hb:=ag.alloc ag.size (.cells #[] E);go_wp2_with fail
  generalize wr.alloc (.cells #[] E)=w1 at hb ⊢;go_loopw [6,7,8] (λ i _ _ wr=>i=.int .i64 0/\Below w.heap.size w wr) (λ _ _ _ _=>0)
  exact⟨rfl,hb⟩
  clear hb ag;obtain⟨rfl,ag⟩:=hrel;go_wp2_with fail
  go_loopw [9,10] (λ i _ wr=>i=.int .i64 0/\Below w.heap.size w wr) (λ _ _ _=>0)
  exact⟨rfl,ag⟩
  clear ag;obtain⟨rfl,ag⟩:=hrel;go_wp2_with fail
  go_loopw [11,12,13] (λ i _ _ wr=>i=.int .i64 0/\Below w.heap.size w wr) (λ _ _ _ _=>0)
  exact⟨rfl,ag⟩
  clear ag;obtain⟨rfl,ag⟩:=hrel;go_wp2_with fail
  go_loopw [14,15] (λ i _ wr=>i=.int .i64 0/\Below w.heap.size w wr) (λ _ _ _=>0)
  exact⟨rfl,ag⟩
  clear ag;obtain⟨rfl,ag⟩:=hrel;go_wp2_with fail
  go_ret;exact⟨rfl,ag⟩
theorem sZ (f:FuncId)(hf:f∈[101,102,103,104,105,106])(w:World):Calls prog f #[.slice none 0 0] w λ e w'=>e=.returned (.bool true)/\Below w.heap.size w w':=by
 simp only[List.mem_cons,List.not_mem_nil,or_false]at hf;rcases hf with rfl|rfl|rfl|rfl|rfl|rfl
 focus
  obtain⟨E,hmk⟩:=ji 103 42 (λ _=>by kernel_rfl);go_enter func101,ntmps101
 rotate_left
 focus
  obtain⟨E,hmk⟩:=ji 104 211 (λ _=>by kernel_rfl);go_enter func102,ntmps102
 rotate_left
 focus
  obtain⟨E,hmk⟩:=ji 105 216 (λ _=>by kernel_rfl);go_enter func103,ntmps103
 rotate_left
 focus
  obtain⟨E,hmk⟩:=ji 106 221 (λ _=>by kernel_rfl);go_enter func104,ntmps104
 rotate_left
 focus
  obtain⟨E,hmk⟩:=ji 107 227 (λ _=>by kernel_rfl);go_enter func105,ntmps105
 rotate_left
 focus
  obtain⟨E,hmk⟩:=ji 108 234 (λ _=>by kernel_rfl);go_enter func106,ntmps106
 rotate_left
 all_goals
  go_wp2_with fail
  go_loopw [3,4] (λ i _ wr=>i=.int .i64 0/\Below w.heap.size w wr) (λ _ _ _=>0)
  exact⟨rfl,aj _ _⟩
  obtain⟨rfl,ag⟩:=hrel;have hb:=ag.alloc ag.size (.cells #[] E);go_wp2_with fail
  generalize wr.alloc (.cells #[] E)=w1 at hb ⊢;go_loopw [6,7,8] (λ i _ _ wr=>i=.int .i64 0/\Below w.heap.size w wr) (λ _ _ _ _=>0)
  exact⟨rfl,hb⟩
  clear hb ag;obtain⟨rfl,ag⟩:=hrel;go_wp2_with fail
  go_loopw [9,10] (λ i _ wr=>i=.int .i64 0/\Below w.heap.size w wr) (λ _ _ _=>0)
  exact⟨rfl,ag⟩
  clear ag;obtain⟨rfl,ag⟩:=hrel;go_wp2_with fail
  go_loopw [11,12,13] (λ i _ _ wr=>i=.int .i64 0/\Below w.heap.size w wr) (λ _ _ _ _=>0)
  exact⟨rfl,ag⟩
  clear ag;obtain⟨rfl,ag⟩:=hrel;go_wp2_with fail
  go_loopw [14,15] (λ i _ wr=>i=.int .i64 0/\Below w.heap.size w wr) (λ _ _ _=>0)
  exact⟨rfl,ag⟩
  clear ag;obtain⟨rfl,ag⟩:=hrel;go_wp2_with fail
  go_ret;exact⟨rfl,ag⟩
theorem rW (f:FuncId)(hf:f∈[107,108,109,110,111,112])(w:World):Calls prog f #[.slice none 0 0] w λ e w'=>e=.returned (.bool true)/\Below w.heap.size w w':=by
 simp only[List.mem_cons,List.not_mem_nil,or_false]at hf;rcases hf with rfl|rfl|rfl|rfl|rfl|rfl
 focus
  obtain⟨E,hmk⟩:=ji 109 239 (λ _=>by kernel_rfl);go_enter func107,ntmps107
 rotate_left
 focus
  obtain⟨E,hmk⟩:=ji 110 245 (λ _=>by kernel_rfl);go_enter func108,ntmps108
 rotate_left
 focus
  obtain⟨E,hmk⟩:=ji 111 251 (λ _=>by kernel_rfl);go_enter func109,ntmps109
 rotate_left
 focus
  obtain⟨E,hmk⟩:=ji 112 255 (λ _=>by kernel_rfl);go_enter func110,ntmps110
 rotate_left
 focus
  obtain⟨E,hmk⟩:=ji 113 260 (λ _=>by kernel_rfl);go_enter func111,ntmps111
 rotate_left
 focus
  obtain⟨E,hmk⟩:=ji 114 265 (λ _=>by kernel_rfl);go_enter func112,ntmps112
 rotate_left
 all_goals
  go_wp2_with fail
  go_loopw [3,4] (λ i _ wr=>i=.int .i64 0/\Below w.heap.size w wr) (λ _ _ _=>0)
  exact⟨rfl,aj _ _⟩
  obtain⟨rfl,ag⟩:=hrel;have hb:=ag.alloc ag.size (.cells #[] E);go_wp2_with fail
  generalize wr.alloc (.cells #[] E)=w1 at hb ⊢;go_loopw [6,7,8] (λ i _ _ wr=>i=.int .i64 0/\Below w.heap.size w wr) (λ _ _ _ _=>0)
  exact⟨rfl,hb⟩
  clear hb ag;obtain⟨rfl,ag⟩:=hrel;go_wp2_with fail
  go_loopw [9,10] (λ i _ wr=>i=.int .i64 0/\Below w.heap.size w wr) (λ _ _ _=>0)
  exact⟨rfl,ag⟩
  clear ag;obtain⟨rfl,ag⟩:=hrel;go_wp2_with fail
  go_loopw [11,12,13] (λ i _ _ wr=>i=.int .i64 0/\Below w.heap.size w wr) (λ _ _ _ _=>0)
  exact⟨rfl,ag⟩
  clear ag;obtain⟨rfl,ag⟩:=hrel;go_wp2_with fail
  go_loopw [14,15] (λ i _ wr=>i=.int .i64 0/\Below w.heap.size w wr) (λ _ _ _=>0)
  exact⟨rfl,ag⟩
  clear ag;obtain⟨rfl,ag⟩:=hrel;go_wp2_with fail
  go_ret;exact⟨rfl,ag⟩
theorem tQ (f:FuncId)(hf:f∈[113,114,115,116,117,118])(w:World):Calls prog f #[.slice none 0 0] w λ e w'=>e=.returned (.bool true)/\Below w.heap.size w w':=by
 simp only[List.mem_cons,List.not_mem_nil,or_false]at hf;rcases hf with rfl|rfl|rfl|rfl|rfl|rfl
 focus
  obtain⟨E,hmk⟩:=ji 115 270 (λ _=>by kernel_rfl);go_enter func113,ntmps113
 rotate_left
 focus
  obtain⟨E,hmk⟩:=ji 116 272 (λ _=>by kernel_rfl);go_enter func114,ntmps114
 rotate_left
 focus
  obtain⟨E,hmk⟩:=ji 117 30 (λ _=>by kernel_rfl);go_enter func115,ntmps115
 rotate_left
 focus
  obtain⟨E,hmk⟩:=ji 64 22 (λ _=>by kernel_rfl);go_enter func116,ntmps116
 rotate_left
 focus
  obtain⟨E,hmk⟩:=ji 118 278 (λ _=>by kernel_rfl);go_enter func117,ntmps117
 rotate_left
 focus
  obtain⟨E,hmk⟩:=ji 119 283 (λ _=>by kernel_rfl);go_enter func118,ntmps118
 rotate_left
 all_goals
  go_wp2_with fail
  go_loopw [3,4] (λ i _ wr=>i=.int .i64 0/\Below w.heap.size w wr) (λ _ _ _=>0)
  exact⟨rfl,aj _ _⟩
  obtain⟨rfl,ag⟩:=hrel;have hb:=ag.alloc ag.size (.cells #[] E);go_wp2_with fail
  generalize wr.alloc (.cells #[] E)=w1 at hb ⊢;go_loopw [6,7,8] (λ i _ _ wr=>i=.int .i64 0/\Below w.heap.size w wr) (λ _ _ _ _=>0)
  exact⟨rfl,hb⟩
  clear hb ag;obtain⟨rfl,ag⟩:=hrel;go_wp2_with fail
  go_loopw [9,10] (λ i _ wr=>i=.int .i64 0/\Below w.heap.size w wr) (λ _ _ _=>0)
  exact⟨rfl,ag⟩
  clear ag;obtain⟨rfl,ag⟩:=hrel;go_wp2_with fail
  go_loopw [11,12,13] (λ i _ _ wr=>i=.int .i64 0/\Below w.heap.size w wr) (λ _ _ _ _=>0)
  exact⟨rfl,ag⟩
  clear ag;obtain⟨rfl,ag⟩:=hrel;go_wp2_with fail
  go_loopw [14,15] (λ i _ wr=>i=.int .i64 0/\Below w.heap.size w wr) (λ _ _ _=>0)
  exact⟨rfl,ag⟩
  clear ag;obtain⟨rfl,ag⟩:=hrel;go_wp2_with fail
  go_ret;exact⟨rfl,ag⟩
theorem tR (f:FuncId)(hf:f∈[119,120,121,122,123])(w:World):Calls prog f #[.slice none 0 0] w λ e w'=>e=.returned (.bool true)/\Below w.heap.size w w':=by
 simp only[List.mem_cons,List.not_mem_nil,or_false]at hf;rcases hf with rfl|rfl|rfl|rfl|rfl
 focus
  obtain⟨E,hmk⟩:=ji 120 289 (λ _=>by kernel_rfl);go_enter func119,ntmps119
 rotate_left
 focus
  obtain⟨E,hmk⟩:=ji 121 295 (λ _=>by kernel_rfl);go_enter func120,ntmps120
 rotate_left
 focus
  obtain⟨E,hmk⟩:=ji 122 300 (λ _=>by kernel_rfl);go_enter func121,ntmps121
 rotate_left
 focus
  obtain⟨E,hmk⟩:=ji 123 305 (λ _=>by kernel_rfl);go_enter func122,ntmps122
 rotate_left
 focus
  obtain⟨E,hmk⟩:=ji 124 310 (λ _=>by kernel_rfl);go_enter func123,ntmps123
 rotate_left
 all_goals
  go_wp2_with fail
  go_loopw [3,4] (λ i _ wr=>i=.int .i64 0/\Below w.heap.size w wr) (λ _ _ _=>0)
  exact⟨rfl,aj _ _⟩
  obtain⟨rfl,ag⟩:=hrel;have hb:=ag.alloc ag.size (.cells #[] E);go_wp2_with fail
  generalize wr.alloc (.cells #[] E)=w1 at hb ⊢;go_loopw [6,7,8] (λ i _ _ wr=>i=.int .i64 0/\Below w.heap.size w wr) (λ _ _ _ _=>0)
  exact⟨rfl,hb⟩
  clear hb ag;obtain⟨rfl,ag⟩:=hrel;go_wp2_with fail
  go_loopw [9,10] (λ i _ wr=>i=.int .i64 0/\Below w.heap.size w wr) (λ _ _ _=>0)
  exact⟨rfl,ag⟩
  clear ag;obtain⟨rfl,ag⟩:=hrel;go_wp2_with fail
  go_loopw [11,12,13] (λ i _ _ wr=>i=.int .i64 0/\Below w.heap.size w wr) (λ _ _ _ _=>0)
  exact⟨rfl,ag⟩
  clear ag;obtain⟨rfl,ag⟩:=hrel;go_wp2_with fail
  go_loopw [14,15] (λ i _ wr=>i=.int .i64 0/\Below w.heap.size w wr) (λ _ _ _=>0)
  exact⟨rfl,ag⟩
  clear ag;obtain⟨rfl,ag⟩:=hrel;go_wp2_with fail
  go_ret;exact⟨rfl,ag⟩
def pR (i:Nat):TypeId:=if i=2 then 24 else if i=5 then 25 else if i=6 then 42 else if i=20 then 30 else if i=21 then 22 else 0
theorem QO (i:Nat):pR i≠126:=by
 unfold pR;repeat' split
 all_goals decide
theorem abt {i j:Nat}(h:pR i≠0)(e:pR i=pR j):i=j:=by
 unfold pR at h e;repeat' split at h
 all_goals (repeat' split at e)
 all_goals first|omega|(exfalso;revert e;decide)|(exfalso;revert h;decide)
structure eU (w:World) (B bb:Nat) (f:Nat->Value) (rows:Nat->List Value):Prop where
 is:w.heap[bb]?=some (.cells ((List.range 29).map f).toArray 126 (0,0))
 own:∀i,w.ownsRow B (pR i) 1 (f i) (rows i).length (rows i)
 nil:∀i,rows i=[]->f i=.slice none 0 0
 unused:∀i,pR i=0->rows i=[]
 base:B<=bb
theorem eU.lt {w:World}{B bb:Nat}{f:Nat->Value}{rows:Nat->List Value}(h:eU w B bb f rows):bb<w.heap.size:=(Array.getElem?_eq_some_iff.1 h.is).1
theorem eU.cell {w:World}{B bb:Nat}{f:Nat->Value}{rows:Nat->List Value}(h:eU w B bb f rows)(i:Nat)(hi:i<29):w.cell? ⟨bb,i,none⟩=some (f i):=by
 rw[ab h.is i,List.getElem?_toArray,List.getElem?_map,fH hi];rfl
theorem eU.below {w w':World}{B bb B':Nat}{f:Nat->Value}{rows:Nat->List Value}(h:eU w B bb f rows)(hb:Below B' w w')(hB:w.heap.size<=B'):eU w' B bb f rows :=
 ⟨(hb.block bb (ex h.lt hB)).trans h.is,λ i=>own_below (h.own i) hb hB,h.nil,h.unused,h.base⟩
theorem eU.apart {w:World}{B bb:Nat}{f:Nat->Value}{rows:Nat->List Value}(h:eU w B bb f rows)(i:Nat):(f i).ownBlock≠some bb:=by
 intro hh;rcases(h.own i).2 with ⟨h1,_⟩|⟨g,cap,cur,h1,_,g1,_⟩
 · rw[h1]at hh;simp[Value.ownBlock]at hh
 rw[h1]at hh;simp[Value.ownBlock]at hh;subst hh;rw[h.is]at g1;simp only[Option.some.injEq,Obj.cells.injEq]at g1;exact QO i g1.2.1.symm
theorem eU.sep {w:World}{B bb:Nat}{f:Nat->Value}{rows:Nat->List Value}(h:eU w B bb f rows)(i j:Nat)(bI:i≠j):(f i).ownBlock=.none∨(f i).ownBlock≠(f j).ownBlock:=by
 by_cases h0:pR i=0
 · left;rw[h.nil i (h.unused i h0)];rfl
 exact cp (h.own i) (h.own j) (λ e=>bI (abt h0 e))
def upd {α:Type} (rows:Nat->α) (i:Nat) (x:α):Nat->α:=λ j=>if j=i then x else rows j
theorem yu {α:Type}(rows:Nat->α)(i:Nat)(x:α):upd rows i x i=x:=if_pos rfl
theorem upd_ne {α:Type}(rows:Nat->α){i j:Nat}(x:α)(h:j≠i):upd rows i x j=rows j:=if_neg h
theorem eU.made (w:World):eU (w.alloc (.cells ((List.range 29).map λ _=>Value.slice .none 0 0).toArray 126)) w.heap.size w.heap.size (λ _=>.slice .none 0 0) (λ _=>[]) :=
 ⟨heap_alloc_new w _,λ _=>iK _ _ _ _,λ _ _=>rfl,λ _ _=>rfl,aa _⟩
theorem eU.put {w w3:World}{B bb:Nat}{f:Nat->Value}{rows:Nat->List Value}(h:eU w B bb f rows)(i:Nat)(hi:i<29)(h0:pR i≠0){v x:Value}(az:w3.ownsRow B (pR i) 1 v ((rows i).length+1) (rows i++[x]))(hg:w.grownBy w3 (f i).ownBlock) :
  eU (w3.setCell ⟨bb,i,.none⟩ v) B bb (upd f i v) (upd rows i (rows i++[x])):=by
 have ap:w3.heap[bb]?=some (.cells ((List.range 29).map f).toArray 126 (0,0)):=(hg.block bb h.lt (λ e=>h.apart i e.symm)).trans h.is
 have hvb:v.ownBlock≠some bb:=by
  intro hh;rcases az.2 with ⟨h1,_⟩|⟨g,cap,cur,h1,_,g1,_⟩
  · rw[h1]at hh;simp[Value.ownBlock]at hh
  rw[h1]at hh;simp[Value.ownBlock]at hh;subst hh;rw[ap]at g1;simp only[Option.some.injEq,Obj.cells.injEq]at g1;exact QO i g1.2.1.symm
 refine⟨?_,λ j=>?_,λ j hj=>?_,λ j hj=>?_,h.base⟩
 ·
  rw[br ap v];congr 2
  rw[List.setIfInBounds_toArray,rj];rfl
 ·
  by_cases e:j=i
  ·
   subst e;rw[yu,yu,List.length_append];exact ownsRow_setCell_other az hvb v
  rw[upd_ne f v e,upd_ne rows _ e];exact ownsRow_setCell_other (aX (h.own j) hg (h.sep j i e)) (h.apart j) v
 ·
  by_cases e:j=i
  ·
   subst e;rw[yu]at hj;simp at hj
  rw[upd_ne f v e];rw[upd_ne rows _ e]at hj;exact h.nil j hj
 by_cases e:j=i
 · subst e;exact absurd hj h0
 rw[upd_ne rows _ e];exact h.unused j hj
def ou (w w':World):Prop:=∀(b:Nat) (cs:Array Value) (T:TypeId) (fz:Nat×Nat),w.heap[b]?=some (Obj.cells cs T fz)->T≠126->(∀i,T≠pR i)->w'.heap[b]?=some (Obj.cells cs T fz)
theorem ou.trans {w w' w'':World}(h:ou w w')(h2:ou w' w''):ou w w'':=λ b cs T fz hb h3 h4=>h2 b cs T fz (h b cs T fz hb h3 h4) h3 h4
theorem ou.alloc (w:World)(o:Obj):ou w (w.alloc o):=λ b cs T fz h _ _=>by
 rw[(nc w o .none).block b (Array.getElem?_eq_some_iff.1 h).1 (by simp)];exact h
theorem eU.keeps {w w3:World}{B bb:Nat}{f:Nat->Value}{rows:Nat->List Value}(h:eU w B bb f rows)(i:Nat)(hg:w.grownBy w3 (f i).ownBlock)(v:Value):ou w (w3.setCell ⟨bb,i,.none⟩ v):=λ b cs T fz hb h3 h4=>by
 have dj:b≠bb:=by
  intro e;subst e;rw[h.is]at hb;simp only[Option.some.injEq,Obj.cells.injEq]at hb;exact h3 hb.2.1.symm
 have hnb:(f i).ownBlock≠some b:=by
  intro hh;rcases(h.own i).2 with ⟨h1,_⟩|⟨g,cap,cur,h1,_,g1,_⟩
  · rw[h1]at hh;simp[Value.ownBlock]at hh
  rw[h1]at hh;simp[Value.ownBlock]at hh;subst hh;rw[hb]at g1;simp only[Option.some.injEq,Obj.cells.injEq]at g1;exact h4 i g1.2.1
 rw[heap_setCell_other _ _ _ _ dj,hg.block b (Array.getElem?_eq_some_iff.1 hb).1 (λ e=>hnb e.symm)];exact hb
theorem C9 {P:Program}{e:TypeId}(h:(P.info? e).map (λ i=>(i.zero,i.size,i.bytes))=some (some (.slice .none 0 0),1,24)):∃i0,P.info? e=some i0/\i0.zero=some (.slice .none 0 0)/\i0.size=1/\i0.bytes=24:=info_parts h
theorem QP (B bb:Nat)(f:Nat->Value)(rows:Nat->List Value)(a:Option Addr)(n c:Nat)(w:World)(hb:eU w B bb f rows)(hB:B<=w.heap.size)(hm:(rows 2).length<=1000000) :
  Calls prog 151 #[.pointer (some ⟨bb,0,none⟩),.slice a n c] w λ e w'=>e=.returned (.tuple #[])/\(∃f',eU w' B bb f' (upd rows 2 (rows 2++[.slice a n c])))/\Below B w w'/\ou w w':=by
 obtain⟨i0,hi,bo,bp,aU⟩:=C9 (show (prog.info? 24).map (λ i=>(i.zero,i.size,i.bytes))=some (some (.slice none 0 0),1,24) by kernel_rfl);have c5:w.cell? ⟨bb,2,none⟩=some (f 2):=hb.cell 2 (by decide);have HB:=Hd hb;have gL:=hb.lt;clear hb;obtain⟨v,hv⟩:∃v,v=f 2:=⟨_,rfl⟩;obtain⟨R,hR⟩:∃R,R=rows 2:=⟨_,rfl⟩;rw[<-hv]at c5;rw[<-hR]at hm;have HO:=Hd (show w.ownsRow B 24 1 v R.length R by rw[hv,hR];exact HB.out.own 2);have HV:=Hd hv;have HR:=Hd hR;clear hv hR;go_enter func151,ntmps151
 go_wp2_with (at_builtin;refine wpList_append_own _ rfl (.tmp 8) (.tmp 10) 100 rfl B 24 i0 (.slice none 0 0) 1 24 underlying100 hi bo bp aU rfl (by decide) v R.length R rfl (HO.out.alloc _) ⟨w.heap.size,0,none⟩ 1 1 [.slice a n c] rfl rfl (cell_one_new _ _ _) (by simp[Value.oneCell']) (by unfold maxLen;omega) (by omega) (by simp;omega) ?_)
 intro v' w3 bj aL _;obtain⟨a3,c3,jk,_,_,_⟩:=cW bj;subst jk
 have hH:w.grownBy w3 (f 2).ownBlock:=by
  rw[<-HV.out];exact(nc w _ _).trans aL
 have iw:=HB.out.put 2 (by decide) (by decide) (v:=.slice a3 (R.length+1) c3) (x:=.slice a n c) (by rw[<-HR.out];exact bj) hH;have ap:w3.heap[bb]?=some (.cells ((List.range 29).map f).toArray 126 (0,0)):=(hH.block bb gL (λ e=>HB.out.apart 2 e.symm)).trans HB.out.is
 have d5:w3.cell? ⟨bb,2,none⟩=some v:=by
  rw[ab ap 2,List.getElem?_toArray,List.getElem?_map,fH (by decide),HV.out];rfl
 have f5:w3.frozen? ⟨bb,2,none⟩=false:=aO ap 2;have em:Below B w (w3.setCell ⟨bb,2,none⟩ (.slice a3 (R.length+1) c3)):=(((aj B w).grown hH hB (λ k hk=>((HB.out.own 2).lt k hk).1)).setCell (p:=⟨bb,2,none⟩) HB.out.base _);have H1:=Hd iw;have H3:=Hd em;have H4:=Hd (HB.out.keeps 2 hH (.slice a3 (R.length+1) c3));clear iw em bj aL ap hH;go_wp2_with fail
 go_end0;exact⟨rfl,⟨_,H1.out⟩,H3.out,H4.out⟩
theorem abu (B bb:Nat)(f:Nat->Value)(rows:Nat->List Value)(a:Option Addr)(n c:Nat)(w:World)(hb:eU w B bb f rows)(hB:B<=w.heap.size)(hm:(rows 5).length<=1000000) :
  Calls prog 82 #[.pointer (some ⟨bb,0,none⟩),.slice a n c] w λ e w'=>e=.returned (.tuple #[])/\(∃f',eU w' B bb f' (upd rows 5 (rows 5++[.slice a n c])))/\Below B w w'/\ou w w':=by
 obtain⟨i0,hi,bo,bp,aU⟩:=C9 (show (prog.info? 25).map (λ i=>(i.zero,i.size,i.bytes))=some (some (.slice none 0 0),1,24) by kernel_rfl);have c5:w.cell? ⟨bb,5,none⟩=some (f 5):=hb.cell 5 (by decide);have HB:=Hd hb;have gL:=hb.lt;clear hb;obtain⟨v,hv⟩:∃v,v=f 5:=⟨_,rfl⟩;obtain⟨R,hR⟩:∃R,R=rows 5:=⟨_,rfl⟩;rw[<-hv]at c5;rw[<-hR]at hm;have HO:=Hd (show w.ownsRow B 25 1 v R.length R by rw[hv,hR];exact HB.out.own 5);have HV:=Hd hv;have HR:=Hd hR;clear hv hR;go_enter func82,ntmps82
 go_wp2_with (at_builtin;refine wpList_append_own _ rfl (.tmp 8) (.tmp 10) 53 rfl B 25 i0 (.slice none 0 0) 1 24 underlying53 hi bo bp aU rfl (by decide) v R.length R rfl (HO.out.alloc _) ⟨w.heap.size,0,none⟩ 1 1 [.slice a n c] rfl rfl (cell_one_new _ _ _) (by simp[Value.oneCell']) (by unfold maxLen;omega) (by omega) (by simp;omega) ?_)
 intro v' w3 bj aL _;obtain⟨a3,c3,jk,_,_,_⟩:=cW bj;subst jk
 have hH:w.grownBy w3 (f 5).ownBlock:=by
  rw[<-HV.out];exact(nc w _ _).trans aL
 have iw:=HB.out.put 5 (by decide) (by decide) (v:=.slice a3 (R.length+1) c3) (x:=.slice a n c) (by rw[<-HR.out];exact bj) hH;have ap:w3.heap[bb]?=some (.cells ((List.range 29).map f).toArray 126 (0,0)):=(hH.block bb gL (λ e=>HB.out.apart 5 e.symm)).trans HB.out.is
 have d5:w3.cell? ⟨bb,5,none⟩=some v:=by
  rw[ab ap 5,List.getElem?_toArray,List.getElem?_map,fH (by decide),HV.out];rfl
 have f5:w3.frozen? ⟨bb,5,none⟩=false:=aO ap 5;have em:Below B w (w3.setCell ⟨bb,5,none⟩ (.slice a3 (R.length+1) c3)):=(((aj B w).grown hH hB (λ k hk=>((HB.out.own 5).lt k hk).1)).setCell (p:=⟨bb,5,none⟩) HB.out.base _);have H1:=Hd iw;have H3:=Hd em;have H4:=Hd (HB.out.keeps 5 hH (.slice a3 (R.length+1) c3));clear iw em bj aL ap hH;go_wp2_with fail
 go_end0;exact⟨rfl,⟨_,H1.out⟩,H3.out,H4.out⟩
theorem abv (B bb:Nat)(f:Nat->Value)(rows:Nat->List Value)(a:Option Addr)(n c:Nat)(w:World)(hb:eU w B bb f rows)(hB:B<=w.heap.size)(hm:(rows 6).length<=1000000) :
  Calls prog 225 #[.pointer (some ⟨bb,0,none⟩),.slice a n c] w λ e w'=>e=.returned (.tuple #[])/\(∃f',eU w' B bb f' (upd rows 6 (rows 6++[.slice a n c])))/\Below B w w'/\ou w w':=by
 obtain⟨i0,hi,bo,bp,aU⟩:=C9 (show (prog.info? 42).map (λ i=>(i.zero,i.size,i.bytes))=some (some (.slice none 0 0),1,24) by kernel_rfl);have c5:w.cell? ⟨bb,6,none⟩=some (f 6):=hb.cell 6 (by decide);have HB:=Hd hb;have gL:=hb.lt;clear hb;obtain⟨v,hv⟩:∃v,v=f 6:=⟨_,rfl⟩;obtain⟨R,hR⟩:∃R,R=rows 6:=⟨_,rfl⟩;rw[<-hv]at c5;rw[<-hR]at hm;have HO:=Hd (show w.ownsRow B 42 1 v R.length R by rw[hv,hR];exact HB.out.own 6);have HV:=Hd hv;have HR:=Hd hR;clear hv hR;go_enter func225,ntmps225
 go_wp2_with (at_builtin;refine wpList_append_own _ rfl (.tmp 8) (.tmp 10) 103 rfl B 42 i0 (.slice none 0 0) 1 24 underlying103 hi bo bp aU rfl (by decide) v R.length R rfl (HO.out.alloc _) ⟨w.heap.size,0,none⟩ 1 1 [.slice a n c] rfl rfl (cell_one_new _ _ _) (by simp[Value.oneCell']) (by unfold maxLen;omega) (by omega) (by simp;omega) ?_)
 intro v' w3 bj aL _;obtain⟨a3,c3,jk,_,_,_⟩:=cW bj;subst jk
 have hH:w.grownBy w3 (f 6).ownBlock:=by
  rw[<-HV.out];exact(nc w _ _).trans aL
 have iw:=HB.out.put 6 (by decide) (by decide) (v:=.slice a3 (R.length+1) c3) (x:=.slice a n c) (by rw[<-HR.out];exact bj) hH;have ap:w3.heap[bb]?=some (.cells ((List.range 29).map f).toArray 126 (0,0)):=(hH.block bb gL (λ e=>HB.out.apart 6 e.symm)).trans HB.out.is
 have d5:w3.cell? ⟨bb,6,none⟩=some v:=by
  rw[ab ap 6,List.getElem?_toArray,List.getElem?_map,fH (by decide),HV.out];rfl
 have f5:w3.frozen? ⟨bb,6,none⟩=false:=aO ap 6;have em:Below B w (w3.setCell ⟨bb,6,none⟩ (.slice a3 (R.length+1) c3)):=(((aj B w).grown hH hB (λ k hk=>((HB.out.own 6).lt k hk).1)).setCell (p:=⟨bb,6,none⟩) HB.out.base _);have H1:=Hd iw;have H3:=Hd em;have H4:=Hd (HB.out.keeps 6 hH (.slice a3 (R.length+1) c3));clear iw em bj aL ap hH;go_wp2_with fail
 go_end0;exact⟨rfl,⟨_,H1.out⟩,H3.out,H4.out⟩
end Go.Proofs.YtepdklfkegkojaaGreatDoor
