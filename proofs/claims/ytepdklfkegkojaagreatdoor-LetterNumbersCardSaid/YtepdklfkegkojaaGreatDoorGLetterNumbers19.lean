/- Parts of one proof. Conditions: as each says. -/
import Derived.Test.YtepdklfkegkojaaGreatDoorGLetterNumbers0
import Derived.Test.YtepdklfkegkojaaGreatDoorGLetterNumbers18
import Derived.Test.YtepdklfkegkojaaGreatDoorGLetterNumbers16
import Derived.Test.YtepdklfkegkojaaGreatDoorGLetterNumbers1
import Derived.Test.YtepdklfkegkojaaGreatDoorGLetterNumbers17
import Derived.Test.YtepdklfkegkojaaGreatDoorGLetterNumbers15
import Derived.Maps.AppendAt
set_option linter.all false
set_option maxHeartbeats 16000000
set_option maxRecDepth 100000
namespace Go.Proofs.YtepdklfkegkojaaGreatDoor
open Go.Proofs.Tryz
open Go.RowKit
theorem IH:∀w,(sizeOf (prog.elem 30)).run prog w=.ok 9 w:=λ _=>by kernel_rfl
theorem II:prog.underlying 30=some (.slice (prog.elem 30)):=by kernel_rfl
structure kL (w:World) (B:Nat) (f:En):Prop where
 args:∃g,f.fQ=some ⟨g,0,none⟩/\f.fw=f.args.length+12/\LentV w B g f.args
 vs:∃g,f.hU=some ⟨g,0,none⟩/\f.ce=f.vs.length+12/\LentI w B g f.vs
theorem kL.below {w w':World}{B B':Nat}{f:En}(h:kL w B f)(hb:Below B' w w')(hB:w.heap.size<=B'):kL w' B f:=by
 obtain⟨⟨g,h1,h2,h3⟩,⟨g',kT,lB,jy⟩⟩:=h;exact⟨⟨g,h1,h2,own_below h3 hb hB⟩,⟨g',kT,lB,own_below jy hb hB⟩⟩
theorem kL.blocks {w w':World}{B:Nat}{f:En}(h:kL w B f)(hs:∀g,B<=g->g<w.heap.size->w'.heap[g]?=w.heap[g]?):kL w' B f:=by
 obtain⟨⟨g,h1,h2,h3⟩,⟨g',kT,lB,jy⟩⟩:=h;exact⟨⟨g,h1,h2,yf h3 hs⟩,⟨g',kT,lB,yf jy hs⟩⟩
theorem kL.le {w:World}{B B':Nat}{f:En}(h:kL w B f)(hB:B'<=B):kL w B' f:=by
 obtain⟨⟨g,h1,h2,h3⟩,⟨g',kT,lB,jy⟩⟩:=h;exact⟨⟨g,h1,h2,h3.le hB⟩,⟨g',kT,lB,jy.le hB⟩⟩
theorem kL.kept {w w':World}{B:Nat}{f:En}{row:Option Nat}{B2 E2 S2 n2:Nat}{u:Value}{xs:List Value}(h:kL w B f)(hg:w.grownBy w' row)(hu:w.ownsRow B2 E2 S2 u n2 xs)(he:E2≠50)(he2:E2≠3)(hr:row=u.ownBlock):kL w' B f:=by
 obtain⟨⟨g,h1,h2,h3⟩,⟨g',kT,lB,jy⟩⟩:=h;exact⟨⟨g,h1,h2,aX h3 hg (by rw[hr];exact cp h3 hu (Ne.symm he))⟩,⟨g',kT,lB,aX jy hg (by rw[hr];exact cp jy hu (Ne.symm he2))⟩⟩
theorem kL.sub {w:World}{B:Nat}{f:En}(h:kL w B f):rG w w.heap.size f:=by
 obtain⟨⟨g,h1,h2,h3⟩,⟨g',kT,lB,jy⟩⟩:=h;unfold rG;rw[h1,kT];exact⟨RowsIn.mono cK h3.rows h3.lt.2,RowsIn.mono cK jy.rows jy.lt.2⟩
structure nm (w:World) (B g n:Nat) (cd:List En):Prop where
 row:w.ownsRow B 46 9 (.slice (some ⟨g,0,none⟩) (n+12) (n+12)) (n+12) (cd.flatMap bW++aw ct 1 12)
 yg:∀f∈cd,kL w B f
theorem nm.blocks {w w':World}{B g n:Nat}{cd:List En}(h:nm w B g n cd)(hs:∀g,B<=g->g<w.heap.size->w'.heap[g]?=w.heap[g]?):nm w' B g n cd :=
 ⟨yf h.row hs,λ f hf=>(h.yg f hf).blocks hs⟩
theorem nm.below {w w':World}{B g n B':Nat}{cd:List En}(h:nm w B g n cd)(hb:Below B' w w')(hB:w.heap.size<=B'):nm w' B g n cd :=
 ⟨own_below h.row hb hB,λ f hf=>(h.yg f hf).below hb hB⟩
theorem nm.le {w:World}{B B' g n:Nat}{cd:List En}(h:nm w B g n cd)(hB:B'<=B):nm w B' g n cd :=
 ⟨fh h.row hB,λ f hf=>(h.yg f hf).le hB⟩
theorem nm.lt {w:World}{B g n:Nat}{cd:List En}(h:nm w B g n cd):B<=g/\g<w.heap.size:=jb h.row g rfl
theorem nm.rows {w:World}{B g n:Nat}{cd:List En}(h:nm w B g n cd)(hn:cd.length=n):kV w w.heap.size (some ⟨g,0,none⟩) cd:=by
 refine Or.inr ⟨g,0,rfl,h.lt.2,λ i x hx=>⟨λ j hj=>?_,(h.yg x (List.mem_of_getElem? hx)).sub⟩⟩;have hi:=(List.getElem?_eq_some_iff.1 hx).1;have hl:=nT mh cd;rw[Nat.zero_add,ay h.row _ (by omega),gu (by omega)];exact flat_get mh cd i x hx j hj
def ZM (fs:List En) (w:World) (e:Ending) (w':World):Prop :=
 ∃cd:List En,e=.returned (.slice (some ⟨w.heap.size,0,none⟩) fs.length (fs.length+12))/\cd.map En.plain=fs.map En.plain/\nm w' w.heap.size w.heap.size fs.length cd/\Below w.heap.size w w'
structure Pu (f:En):Prop where
 F8:f.fQ=none->f.fw=0
 sj:f.hU=none->f.ce=0
 args:f.args.length<=1099511627776
 vs:f.vs.length<=1099511627776
theorem ZN (ao:Option Addr)(cap:Nat)(fs:List En)(w:World)(hx:kV w w.heap.size ao fs)(hq:∀f∈fs,Pu f)(hl:fs.length<=1099511627776) :
  Calls prog 76 #[.slice ao fs.length cap] w (ZM fs w):=by
 obtain⟨i0,hi,bo,bp,aU⟩:=info_parts tX;have hm1:(0:Int)<=(fs.length:Int)+12:=by omega
 have HX:=Hd hx;have HQ:=Hd hq;clear hx hq;go_enter func76,ntmps76
 go_wp2_with (at_make;refine wpList_make_own _ rfl _ _ 30 rfl w.heap.size 46 i0 (.agg #[.int .i64 0,.int .u8 0,.int .i64 0,.int .i64 0,.int .u8 0,.string ByteArray.empty,.slice none 0 0,.int .i64 0,.slice none 0 0]) 9 rc hi bo bp .i64 .i64 _ (fs.length+12) rfl rfl (by omega) (by rw[aU];omega) (by unfold maxLen;omega) (aa _) ?_)
 intro w1 tu kN;have ba:Below w.heap.size w w1:=(aj _ _).grown kN (aa _) (λ k hk=>by cases hk);have H1:=Hd tu;clear tu kN;go_wp2_with fail
 go_loopw [3,4,5] (λ v i _ wr=>∃(k:Nat) (cd:List En),k<=fs.length/\i=.int .i64 k/\v=.slice (some ⟨w.heap.size,0,none⟩) k (fs.length+12)/\cd.map En.plain=(fs.take k).map En.plain/\(∀f∈cd,kL wr w.heap.size f) /\
  wr.ownsRow w.heap.size 46 9 (.slice (some ⟨w.heap.size,0,none⟩) k (fs.length+12)) k (cd.flatMap bW)/\Below w.heap.size w wr) (λ _ i _ _=>fs.length-(intOf i).toNat)
 exact⟨0,[],by omega,rfl,rfl,by simp,by simp,H1.out,ba⟩
 clear ba H1;obtain⟨k,cd,hk,rfl,rfl,oC,hlf,az,ag⟩:=hrel;have HM:=Hd oC;have HF:=Hd hlf;have HO:=Hd az;clear oC hlf az;have hs:=ag.size;by_cases ae:k<fs.length
 ·
  have aQ:fs[k]?=some (fs[k]'ae):=bu ae;obtain⟨b,off,bm,hb,hc,eC⟩:=HX.out.at aQ;have hq0:=HQ.out _ (mC (l:=fs) (n:=k) ae)
  have bJ:(fs.take (k+1)).map En.plain=(fs.take k).map En.plain++[(fs[k]'ae).plain]:=by
   rw[iJ ae,List.map_append];rfl
  generalize fs[k]'ae=f at hc hq0 bJ eC;obtain⟨x0,x1,x2,x3,ck,text,ao,fd,fc,num,vo,vs,vc⟩:=f;obtain⟨pX,fZ,ke,hq4⟩:=hq0;dsimp only at pX ke fZ hq4;have c0:wr.cell? ⟨b,off+k*9,none⟩=some (.int .i64 x0):=(ag.cell (p:=⟨b,_,none⟩) hb).trans (hc 0 (by decide));have c1:wr.cell? ⟨b,off+k*9+1,none⟩=some (.int .u8 x1):=(ag.cell (p:=⟨b,_,none⟩) hb).trans (hc 1 (by decide));have c2:wr.cell? ⟨b,off+k*9+1+1,none⟩=some (.int .i64 x2):=(ag.cell (p:=⟨b,_,none⟩) hb).trans (hc 2 (by decide));have c3:wr.cell? ⟨b,off+k*9+1+1+1,none⟩=some (.int .i64 x3):=(ag.cell (p:=⟨b,_,none⟩) hb).trans (hc 3 (by decide));have c4:wr.cell? ⟨b,off+k*9+1+1+1+1,none⟩=some (.int .u8 ck):=(ag.cell (p:=⟨b,_,none⟩) hb).trans (hc 4 (by decide));have c5:wr.cell? ⟨b,off+k*9+1+1+1+1+1,none⟩=some (.string text):=(ag.cell (p:=⟨b,_,none⟩) hb).trans (hc 5 (by decide));have c6:wr.cell? ⟨b,off+k*9+1+1+1+1+1+1,none⟩=some (.slice ao fd.length fc):=(ag.cell (p:=⟨b,_,none⟩) hb).trans (hc 6 (by decide));have c7:wr.cell? ⟨b,off+k*9+1+1+1+1+1+1+1,none⟩=some (.int .i64 num):=(ag.cell (p:=⟨b,_,none⟩) hb).trans (hc 7 (by decide));have c8:wr.cell? ⟨b,off+k*9+1+1+1+1+1+1+1+1,none⟩=some (.slice vo vs.length vc):=(ag.cell (p:=⟨b,_,none⟩) hb).trans (hc 8 (by decide));have HT:=Hd bJ;have HC:=Hd eC;have yh:=Hd pX;have CJ:=Hd fZ;have i1:(k:Int)<fs.length:=by omega
  subst bm;clear hc aQ bJ eC pX fZ;go_wp2_with fail
  refine(ZE x0 x1 x2 x3 ck text ao fc fd num vo vc vs wr (RowsIn.mono cK (RowsIn.below cn HC.out.1 ag (aa _)) hs) (RowsIn.mono cK (RowsIn.below cn HC.out.2 ag (aa _)) hs) yh.out CJ.out ke hq4).mono ?_;rintro e w3 ⟨g1,g2,rfl,hL,hV,ap⟩;have bj:=own_below HO.out ap (aa _);have CK:∀f∈cd,kL w3 w.heap.size f:=λ f hf=>(HF.out f hf).below ap (aa _)
  have pz:kL w3 w.heap.size ⟨x0,x1,x2,x3,ck,text,some ⟨g1,0,none⟩,fd,fd.length+12,num,some ⟨g2,0,none⟩,vs,vs.length+12⟩:=⟨⟨g1,rfl,rfl,hL.le hs⟩,⟨g2,rfl,rfl,hV.le hs⟩⟩;have qg:=ag.trans (ap.mono hs);have cA:=qg.size;have kW:=Hd bj;have fI:=Hd CK;have xM:=Hd pz;clear bj CK pz hL hV c0 c1 c2 c3 c4 c5 c6 c7 c8;have iF:∀o1 o2,((w3.alloc o1).alloc o2).heap.size=w3.heap.size+2:=λ _ _=>by simp
  go_wp2_with (at_builtin;refine wpList_append_fits _ rfl (.tmp 22) (.tmp 24) 30 rfl w.heap.size 46 i0 9 rc hi bp w.heap.size k (fs.length+12) (cd.flatMap bW) rfl ((kW.out.alloc _).alloc _) ⟨w3.heap.size+1,0,none⟩ 1 1 [.int .i64 x0,.int .u8 x1,.int .i64 x2,.int .i64 x3,.int .u8 ck,.string text,.slice (some ⟨g1,0,none⟩) fd.length (fd.length+12),.int .i64 num,.slice (some ⟨g2,0,none⟩) vs.length (vs.length+12)] rfl rfl ?c1 (by simp[Value.oneCell']) (by omega) ?_)
  case c1 =>
   have:=qf (w3.alloc (.cells #[.int .i64 x0,.int .u8 x1,.int .i64 x2,.int .i64 x3,.int .u8 ck,.string text,.slice (some ⟨g1,0,none⟩) fd.length (fd.length+12),.int .i64 num,.slice (some ⟨g2,0,none⟩) vs.length (vs.length+12)] 46)) 46 [.int .i64 x0,.int .u8 x1,.int .i64 x2,.int .i64 x3,.int .u8 ck,.string text,.slice (some ⟨g1,0,none⟩) fd.length (fd.length+12),.int .i64 num,.slice (some ⟨g2,0,none⟩) vs.length (vs.length+12)];simpa using this
  intro w4 tz qp;have hA:=(kW.out.alloc (.cells #[.int .i64 x0,.int .u8 x1,.int .i64 x2,.int .i64 x3,.int .u8 ck,.string text,.slice (some ⟨g1,0,none⟩) fd.length (fd.length+12),.int .i64 num,.slice (some ⟨g2,0,none⟩) vs.length (vs.length+12)] 46)).alloc (.cells #[.int .i64 x0,.int .u8 x1,.int .i64 x2,.int .i64 x3,.int .u8 ck,.string text,.slice (some ⟨g1,0,none⟩) fd.length (fd.length+12),.int .i64 num,.slice (some ⟨g2,0,none⟩) vs.length (vs.length+12)] 46);have wC:Below w3.heap.size w3 ((w3.alloc (.cells #[.int .i64 x0,.int .u8 x1,.int .i64 x2,.int .i64 x3,.int .u8 ck,.string text,.slice (some ⟨g1,0,none⟩) fd.length (fd.length+12),.int .i64 num,.slice (some ⟨g2,0,none⟩) vs.length (vs.length+12)] 46)).alloc (.cells #[.int .i64 x0,.int .u8 x1,.int .i64 x2,.int .i64 x3,.int .u8 ck,.string text,.slice (some ⟨g1,0,none⟩) fd.length (fd.length+12),.int .i64 num,.slice (some ⟨g2,0,none⟩) vs.length (vs.length+12)] 46)):=((aj _ _).alloc (aa _) _).alloc (by simp) _
  have CL:∀f∈cd++[⟨x0,x1,x2,x3,ck,text,some ⟨g1,0,none⟩,fd,fd.length+12,num,some ⟨g2,0,none⟩,vs,vs.length+12⟩],kL w4 w.heap.size f:=λ f hf=>by
   rcases List.mem_append.1 hf with hf|hf
   · exact((fI.out f hf).below wC (aa _)).kept qp hA (by decide) (by decide) rfl
   rw[List.mem_singleton.1 hf];exact(xM.out.below wC (aa _)).kept qp hA (by decide) (by decide) rfl
  have bO:Below w.heap.size w w4:=(qg.trans (wC.mono cA)).grown qp (by simp;omega) (λ k hk=>by cases hk;exact aa _);have eJ:=Hd CL;have uI:=Hd tz;clear CL tz qp hA wC iF;go_wp2_with fail
  go_roundw
  exact⟨k+1,cd++[⟨x0,x1,x2,x3,ck,text,some ⟨g1,0,none⟩,fd,fd.length+12,num,some ⟨g2,0,none⟩,vs,vs.length+12⟩],by omega,by go_num,rfl,by rw[List.map_append,HM.out,HT.out];rfl,eJ.out,by rw[List.flatMap_append];exact uI.out,bO⟩
  simp[intOf];omega
 obtain rfl:k=fs.length:=by omega
 have hM2:=HM.out;rw[List.take_length]at hM2;have IJ:=Hd hM2;clear hM2
 have fO:∀w',(Instr.sliceAt 30 (.slice (some ⟨w.heap.size,0,none⟩) (fs.length+12) (fs.length+12)) none (some (.int .i64 (fs.length:Int))) none).run prog w'=.ok (.slice (some ⟨w.heap.size,0,none⟩) fs.length (fs.length+12)) w':=λ w'=>by
  have h1:=ua II IH (some ⟨w.heap.size,0,none⟩) (fs.length+12) (fs.length+12) fs.length (by omega) .i64 (fs.length:Int) rfl w';rwa [wY _ _ _ (by intro a ha;cases ha;rfl)]at h1
 go_wp2_with fail
 go_loopw [3,6] (λ v i wr=>∃q:Nat,q<=12/\i=.int .i64 q/\v=.slice (some ⟨w.heap.size,0,none⟩) (fs.length+q) (fs.length+12)/\(∀f∈cd,kL wr w.heap.size f) /\
  wr.ownsRow w.heap.size 46 9 (.slice (some ⟨w.heap.size,0,none⟩) (fs.length+q) (fs.length+12)) (fs.length+q) (cd.flatMap bW++aw ct 1 q)/\Below w.heap.size w wr) (λ _ i _=>12-(intOf i).toNat)
 exact⟨0,by omega,rfl,rfl,HF.out,by simpa[aw]using HO.out,ag⟩
 clear ag HF HO hs;obtain⟨q,hq,rfl,rfl,hlf,az,ag⟩:=hrel;have HF:=Hd hlf;have HO:=Hd az;clear hlf az;have hs:=ag.size;by_cases eA:q<12
 ·
  have i2:(q:Int)<12:=by omega
  clear fO;go_wp2_with fail
  refine(Ad 1 _ 1 q (by omega) rfl (by omega) (by omega) wr).mono ?_;rintro e w3 ⟨rfl,ap⟩;have bj:=own_below HO.out ap (aa _);have CK:∀f∈cd,kL w3 w.heap.size f:=λ f hf=>(HF.out f hf).below ap (aa _)
  have qg:=ag.trans (ap.mono hs);have cA:=qg.size;have kW:=Hd bj;have fI:=Hd CK;clear bj CK;go_wp2_with (at_builtin;refine wpList_append_fits _ rfl (.tmp 30) (.tmp 33) 30 rfl w.heap.size 46 i0 9 rc hi bp w.heap.size (fs.length+q) (fs.length+12) (cd.flatMap bW++aw ct 1 q) rfl (kW.out.alloc _) ⟨w3.heap.size,0,none⟩ 1 1 [.int .i64 (bt 1 q),.int .u8 0,.int .i64 0,.int .i64 0,.int .u8 0,.string ⟨#[]⟩,.slice none 0 0,.int .i64 0,.slice none 0 0] rfl rfl (qf _ 46 [.int .i64 (bt 1 q),.int .u8 0,.int .i64 0,.int .i64 0,.int .u8 0,.string ⟨#[]⟩,.slice none 0 0,.int .i64 0,.slice none 0 0]) (by simp[Value.oneCell']) (by omega) ?_)
  intro w4 tz qp;have hA:=kW.out.alloc (.cells #[.int .i64 (bt 1 q),.int .u8 0,.int .i64 0,.int .i64 0,.int .u8 0,.string ⟨#[]⟩,.slice none 0 0,.int .i64 0,.slice none 0 0] 46);have wC:Below w3.heap.size w3 (w3.alloc (.cells #[.int .i64 (bt 1 q),.int .u8 0,.int .i64 0,.int .i64 0,.int .u8 0,.string ⟨#[]⟩,.slice none 0 0,.int .i64 0,.slice none 0 0] 46)):=(aj _ _).alloc (aa _) _;have CL:∀f∈cd,kL w4 w.heap.size f:=λ f hf=>((fI.out f hf).below wC (aa _)).kept qp hA (by decide) (by decide) rfl
  have bO:Below w.heap.size w w4:=(qg.trans (wC.mono cA)).grown qp (by simp;omega) (λ k hk=>by cases hk;exact aa _);have eJ:=Hd CL;have uI:=Hd tz;clear CL tz qp hA wC;go_wp2_with fail
  go_roundw
  exact⟨q+1,by omega,by go_num,by rw[Nat.add_assoc],eJ.out,by have:=uI.out;rw[qO];exact this,bO⟩
  simp[intOf];omega
 obtain rfl:q=12:=by omega
 go_wp2_with fail
 go_ret;exact⟨cd,rfl,IJ.out,⟨HO.out,HF.out⟩,ag⟩
theorem ZO (ao:Option Addr)(cap g B:Nat)(fs cd:List En)(w:World)(hx:kV w w.heap.size ao fs)(hL:nm w B g fs.length cd)(oC:cd.map En.plain=fs.map En.plain)(hd:∀f∈fs,f.args.length<=1099511627776/\f.vs.length<=1099511627776)(hl:fs.length<=1099511627776) :
  Calls prog 78 #[.slice (some ⟨g,0,none⟩) fs.length (fs.length+12:Nat),.slice ao fs.length cap] w λ e w'=>e=.returned (.bool true)/\Below w.heap.size w w':=by
 have de:=hL.row;have Pv:=hL.yg;have cw:=(de.lt g rfl).2;have hfl:cd.length=fs.length:=by have:=congrArg List.length oC;simpa using this
 have fO:∀w',(Instr.sliceAt 30 (.slice (some ⟨g,0,none⟩) fs.length (fs.length+12)) none (some (.int .i64 ((fs.length:Int)+12))) none).run prog w'=.ok (.slice (some ⟨g,0,none⟩) (fs.length+12) (fs.length+12)) w':=λ w'=>by
  have h1:=ua II IH (some ⟨g,0,none⟩) fs.length (fs.length+12) (fs.length+12) (aa _) .i64 ((fs.length:Int)+12) (by omega) w';rwa [wY _ _ _ (by intro a ha;cases ha;rfl)]at h1
 have HX:=Hd hx;have HR:=Hd de;have ZP:=Hd Pv;have HM:=Hd oC;have HD:=Hd hd;have vD:=Hd hfl;clear hx de Pv oC hd hfl hL;go_enter func78,ntmps78
 go_wp2_with fail
 clear fO;go_loopw [6] (λ i wr=>∃k:Nat,k<=fs.length+12/\i=.int .i64 k/\Below w.heap.size w wr) (λ i _=>fs.length+12-(intOf i).toNat)
 exact⟨0,by omega,rfl,aj _ _⟩
 obtain⟨k,hk,rfl,ag⟩:=hrel;by_cases ae:k<fs.length
 ·
  have lU:fs[k]?=some (fs[k]'ae):=bu ae;obtain⟨b,off,bm,hb,hc,ed⟩:=HX.out.at lU;have sS:k<cd.length:=by rw[vD.out];exact ae
  have m6:cd[k]?=some (cd[k]'sS):=bu sS;have IK:=nT (k:=9) mh cd
  have ha:∀j,j<9->w.cell? ⟨g,k*9+j,none⟩=(bW (cd[k]'sS))[j]?:=λ j hj=>by
   rw[ay HR.out (k*9+j) (by omega),gu (by omega)];exact flat_get (k:=9) mh cd k _ m6 j hj
  have my:=ZP.out (cd[k]'sS) (mC sS);have nO:=HD.out (fs[k]'ae) (mC ae)
  have hp:(cd[k]'sS).plain=(fs[k]'ae).plain:=by
   have:=congrArg (λ l=>l[k]?) HM.out;simp only[List.getElem?_map,m6,lU,Option.map_some]at this;exact vj this
  generalize cd[k]'sS=x at ha my hp m6;generalize fs[k]'ae=y at hc ed nO hp lU;obtain⟨x0,x1,x2,x3,ck,text,xa,xd,xc,num,xv,xs,D5⟩:=x;obtain⟨y0,y1,y2,y3,ck2,jV,ya,yd,yc,kD,yv,ys,IL⟩:=y;simp only[En.plain,dX.mk.injEq]at hp;obtain⟨rfl,rfl,rfl,rfl,rfl,rfl,rfl,rfl,rfl⟩:=hp;obtain⟨⟨fg,hfg,hfc,IM⟩,⟨vg,cP,gA,IN⟩⟩:=my;dsimp only at nO hfg hfc IM cP gA IN;have c0:∀x':Calm w.heap.size w,x'.1.cell? ⟨b,off+k*9,none⟩=some (.int .i64 x0):=λ x'=>x'.cell (hc 0 (by decide)) hb
  have c1:∀x':Calm w.heap.size w,x'.1.cell? ⟨b,off+k*9+1,none⟩=some (.int .u8 x1):=λ x'=>x'.cell (hc 1 (by decide)) hb
  have c2:∀x':Calm w.heap.size w,x'.1.cell? ⟨b,off+k*9+2,none⟩=some (.int .i64 x2):=λ x'=>x'.cell (hc 2 (by decide)) hb
  have c3:∀x':Calm w.heap.size w,x'.1.cell? ⟨b,off+k*9+3,none⟩=some (.int .i64 x3):=λ x'=>x'.cell (hc 3 (by decide)) hb
  have c4:∀x':Calm w.heap.size w,x'.1.cell? ⟨b,off+k*9+4,none⟩=some (.int .u8 ck):=λ x'=>x'.cell (hc 4 (by decide)) hb
  have c5:∀x':Calm w.heap.size w,x'.1.cell? ⟨b,off+k*9+5,none⟩=some (.string text):=λ x'=>x'.cell (hc 5 (by decide)) hb
  have c6:∀x':Calm w.heap.size w,x'.1.cell? ⟨b,off+k*9+6,none⟩=some (.slice ya xd.length yc):=λ x'=>x'.cell (hc 6 (by decide)) hb
  have c7:∀x':Calm w.heap.size w,x'.1.cell? ⟨b,off+k*9+7,none⟩=some (.int .i64 num):=λ x'=>x'.cell (hc 7 (by decide)) hb
  have c8:∀x':Calm w.heap.size w,x'.1.cell? ⟨b,off+k*9+8,none⟩=some (.slice yv xs.length IL):=λ x'=>x'.cell (hc 8 (by decide)) hb
  have e0:∀x':Calm w.heap.size w,x'.1.cell? ⟨g,k*9,none⟩=some (.int .i64 x0):=λ x'=>x'.cell (ha 0 (by decide)) cw
  have e1:∀x':Calm w.heap.size w,x'.1.cell? ⟨g,k*9+1,none⟩=some (.int .u8 x1):=λ x'=>x'.cell (ha 1 (by decide)) cw
  have e2:∀x':Calm w.heap.size w,x'.1.cell? ⟨g,k*9+2,none⟩=some (.int .i64 x2):=λ x'=>x'.cell (ha 2 (by decide)) cw
  have e3:∀x':Calm w.heap.size w,x'.1.cell? ⟨g,k*9+3,none⟩=some (.int .i64 x3):=λ x'=>x'.cell (ha 3 (by decide)) cw
  have e4:∀x':Calm w.heap.size w,x'.1.cell? ⟨g,k*9+4,none⟩=some (.int .u8 ck):=λ x'=>x'.cell (ha 4 (by decide)) cw
  have e5:∀x':Calm w.heap.size w,x'.1.cell? ⟨g,k*9+5,none⟩=some (.string text):=λ x'=>x'.cell (ha 5 (by decide)) cw
  have e6:∀x':Calm w.heap.size w,x'.1.cell? ⟨g,k*9+6,none⟩=some (.slice xa xd.length xc):=λ x'=>x'.cell (ha 6 (by decide)) cw
  have e7:∀x':Calm w.heap.size w,x'.1.cell? ⟨g,k*9+7,none⟩=some (.int .i64 num):=λ x'=>x'.cell (ha 7 (by decide)) cw
  have e8:∀x':Calm w.heap.size w,x'.1.cell? ⟨g,k*9+8,none⟩=some (.slice xv xs.length D5):=λ x'=>x'.cell (ha 8 (by decide)) cw
  have ka:∀x':Calm w.heap.size w,Calls prog 140 #[.agg #[.int .i64 x0,.int .u8 x1,.int .i64 x2,.int .i64 x3,.int .u8 ck,.string text,.slice xa xd.length xc,.int .i64 num,.slice xv xs.length D5],.agg #[.int .i64 x0,.int .u8 x1,.int .i64 x2,.int .i64 x3,.int .u8 ck,.string text,.slice ya xd.length yc,.int .i64 num,.slice yv xs.length IL]] x'.1 λ e w'=>e=.returned (.bool true)/\Below x'.1.heap.size x'.1 w':=λ x'=>by
   have h:=ZL x0 x1 x2 x3 ck text ya yc xd num yv IL xs fg vg B x'.1 (RowsIn.mono cK (RowsIn.below cn ed.1 x'.2 (aa _)) x'.2.size) (RowsIn.mono cK (RowsIn.below cn ed.2 x'.2 (aa _)) x'.2.size) (IM.below x'.2 (aa _)) (IN.below x'.2 (aa _)) nO.1 nO.2;rw[hfg,hfc,cP,gA];exact h
  have HC:=Hd ka;subst bm;have i1:(k:Int)<fs.length:=by omega
  have i2:(k:Int)<(fs.length:Int)+12:=by omega
  have i3:(k:Int)<((fs.length+12:Nat):Int):=by omega
  have d1:decide ((fs.length:Int)<=k)=false:=by simp;omega
  have d2:decide (fs.length<=k)=false:=by simp;omega
  have d3:decide (k<fs.length)=true:=by simpa using ae
  clear ka ed ha m6 lU IM IN hfg hfc cP gA hc IK;go_wp2_with fail
  refine gR (B:=w.heap.size) (W0:=w) ag (by kernel_rfl) (by kernel_rfl) ?_;repeat(go_big_quiet_step ((go_at_call 140;exact Calm.call (aa _) (HC.out _))))
  refine wpQuiet_nil ?_;intro w5 ak;clear c0 e0 c1 e1 c2 e2 c3 e3 c4 e4 c5 e5 c6 e6 c7 e7 c8 e8;go_wp2_with fail
  go_roundw
  exact⟨k+1,by omega,by go_num,ak⟩
  simp[intOf];omega
 by_cases kP:k<fs.length+12
 ·
  obtain⟨m,rfl⟩:∃m,k=fs.length+m:=⟨k-fs.length,by omega⟩;have IK:=nT (k:=9) mh cd;have hfe:=vD.out
  have ha:∀j,j<9->w.cell? ⟨g,(fs.length+m)*9+j,none⟩=(ct 1 m)[j]?:=λ j hj=>by
   rw[ay HR.out _ (by omega),zd (by omega),show (fs.length+m)*9+j-(cd.flatMap bW).length=m*9+j by omega];exact bA ek 1 12 m j (by omega) hj
  obtain⟨mm,dK⟩:∃mm,bt 1 m=mm:=⟨_,rfl⟩;have hmk:ct 1 m=[.int .i64 mm,.int .u8 0,.int .i64 0,.int .i64 0,.int .u8 0,.string ByteArray.empty,.slice none 0 0,.int .i64 0,.slice none 0 0]:=by rw[<-dK];rfl
  rw[hmk]at ha;have bd:=Hd dK;have c0:∀x':Calm w.heap.size w,x'.1.cell? ⟨g,(fs.length+m)*9,none⟩=some (.int .i64 mm):=λ x'=>x'.cell (ha 0 (by decide)) cw
  have c1:∀x':Calm w.heap.size w,x'.1.cell? ⟨g,(fs.length+m)*9+1,none⟩=some (.int .u8 0):=λ x'=>x'.cell (ha 1 (by decide)) cw
  have c2:∀x':Calm w.heap.size w,x'.1.cell? ⟨g,(fs.length+m)*9+2,none⟩=some (.int .i64 0):=λ x'=>x'.cell (ha 2 (by decide)) cw
  have c3:∀x':Calm w.heap.size w,x'.1.cell? ⟨g,(fs.length+m)*9+3,none⟩=some (.int .i64 0):=λ x'=>x'.cell (ha 3 (by decide)) cw
  have c4:∀x':Calm w.heap.size w,x'.1.cell? ⟨g,(fs.length+m)*9+4,none⟩=some (.int .u8 0):=λ x'=>x'.cell (ha 4 (by decide)) cw
  have c5:∀x':Calm w.heap.size w,x'.1.cell? ⟨g,(fs.length+m)*9+5,none⟩=some (.string ByteArray.empty):=λ x'=>x'.cell (ha 5 (by decide)) cw
  have c6:∀x':Calm w.heap.size w,x'.1.cell? ⟨g,(fs.length+m)*9+6,none⟩=some (.slice none 0 0):=λ x'=>x'.cell (ha 6 (by decide)) cw
  have c7:∀x':Calm w.heap.size w,x'.1.cell? ⟨g,(fs.length+m)*9+7,none⟩=some (.int .i64 0):=λ x'=>x'.cell (ha 7 (by decide)) cw
  have c8:∀x':Calm w.heap.size w,x'.1.cell? ⟨g,(fs.length+m)*9+8,none⟩=some (.slice none 0 0):=λ x'=>x'.cell (ha 8 (by decide)) cw
  have ka:∀x':Calm w.heap.size w,Calls prog 65 #[.agg #[.int .i64 mm,.int .u8 0,.int .i64 0,.int .i64 0,.int .u8 0,.string ByteArray.empty,.slice none 0 0,.int .i64 0,.slice none 0 0],.agg #[.int .i64 mm,.int .u8 0,.int .i64 0,.int .i64 0,.int .u8 0,.string ByteArray.empty,.slice none 0 0,.int .i64 0,.slice none 0 0]] x'.1 λ e w'=>e=.returned (.bool true)/\Below x'.1.heap.size x'.1 w':=λ x' =>
   EO mm x'.1
  have HC:=Hd ka;have i1:¬(fs.length:Int)+m<fs.length:=by omega
  have i2:(fs.length:Int)+m<(fs.length:Int)+12:=by omega
  have i4:(fs.length:Int)<=(fs.length:Int)+m:=by omega
  have d1:decide ((fs.length:Int)+m<fs.length)=false:=by simp;omega
  have d2:decide ((fs.length:Int)<=(fs.length:Int)+m)=true:=by simp;omega
  have n1:((fs.length:Int)+m).toNat=fs.length+m:=by omega
  have n2:IntKind.i64.wrap (m:Int)=m:=jU _ (by omega);have n3:(0:Int)<=(fs.length:Int)+m:=by omega
  clear ka ha dK hmk IK hfe;go_wp2_with fail
  refine gR (B:=w.heap.size) (W0:=w) ag (by kernel_rfl) (by kernel_rfl) ?_;repeat(go_big_quiet_step (first|(go_at_call 139;exact Calm.call (aa _) (EN 1 _ 1 m mm bd.out (by omega) (by omega) (by omega) (by omega) _))|(go_at_call 65;exact Calm.call (aa _) (HC.out _))))
  refine wpQuiet_nil ?_;intro w5 ak;clear c0 c1 c2 c3 c4 c5 c6 c7 c8;go_wp2_with fail
  go_roundw
  exact⟨fs.length+m+1,by omega,by go_num,ak⟩
  simp[intOf];omega
 go_wp2_with fail
 go_ret;exact⟨rfl,ag⟩
def jI (w:World) (g:Nat) (E:TypeId) (m:Nat):Prop:=∃cs,w.heap[g]?=some (.cells cs E (0,0))/\cs.size=m
theorem jI.lt {w:World}{g m:Nat}{E:TypeId}(h:jI w g E m):g<w.heap.size:=by
 obtain⟨cs,h,_⟩:=h;exact(Array.getElem?_eq_some_iff.1 h).1
theorem jI.set {w:World}{g m:Nat}{E:TypeId}(h:jI w g E m)(b i:Nat)(v:Value):jI (w.setCell ⟨b,i,none⟩ v) g E m:=by
 obtain⟨cs,h,hm⟩:=h;by_cases e:g=b
 ·
  subst e;exact⟨_,heap_setCell_same w g i cs E v h,by simpa using hm⟩
 exact⟨cs,(heap_setCell_other w ⟨b,i,none⟩ g v e).trans h,hm⟩
theorem jI.below {w w':World}{g m B:Nat}{E:TypeId}(h:jI w g E m)(hb:Below B w w')(hB:w.heap.size<=B):jI w' g E m:=by
 have hl:=h.lt;obtain⟨cs,h,hm⟩:=h;exact⟨cs,(hb.block g (by omega)).trans h,hm⟩
theorem jI.cell {w:World}{g m:Nat}{E:TypeId}(h:jI w g E m){i:Nat}(hi:i<m):∃v,w.cell? ⟨g,i,none⟩=some v:=by
 obtain⟨cs,h,hm⟩:=h;exact⟨cs[i]'(by omega),(ab h i).trans (Array.getElem?_eq_getElem _)⟩
theorem jI.free {w:World}{g m:Nat}{E:TypeId}(h:jI w g E m)(i:Nat):w.frozen? ⟨g,i,none⟩=false:=by
 obtain⟨cs,h,hm⟩:=h;exact aO h i
theorem jI.wD {w:World}{B g E SZ n c:Nat}{xs:List Value}(h:w.ownsRow B E SZ (.slice (some ⟨g,0,none⟩) n c) n xs):jI w g E (c*SZ):=by
 rcases h.2 with ⟨h',_⟩|⟨_,_,cur,h',_,k2,_,_,k5,_⟩
 · cases h'
 cases h'
 exact⟨cur,k2,k5⟩
structure OverK (B T:Nat) (Ts:List TypeId) (w w':World):Prop where
 mid:Mid B T w w'
 blk:∀g E m,jI w g E m->jI w' g E m
 far:∀(g:Nat) (cs:Array Value) (E:TypeId),w.heap[g]?=some (.cells cs E (0,0))->E ∉ Ts->w'.heap[g]?=some (.cells cs E (0,0))
theorem OverK.refl (B T:Nat)(Ts:List TypeId)(w:World):OverK B T Ts w w:=⟨Mid.refl _ _ _,λ _ _ _ h=>h,λ _ _ _ h _=>h⟩
theorem Mid.trans {B T:Nat}{w w' w'':World}(h:Mid B T w w')(h2:Mid B T w' w''):Mid B T w w'' :=
 ⟨h.below.trans h2.below,λ b h1 h3=>(h2.far b h1 (ex h3 h.below.size)).trans (h.far b h1 h3)⟩
theorem OverK.trans {B T:Nat}{Ts Us:List TypeId}{w w' w'':World}(h:OverK B T Ts w w')(h2:OverK B T Us w' w'')(hs:∀E,E∈Us->E∈Ts):OverK B T Ts w w'' :=
 ⟨h.mid.trans h2.mid,λ g E m hb=>h2.blk g E m (h.blk g E m hb),λ g cs E hg hE=>h2.far g cs E (h.far g cs E hg hE) (λ he=>hE (hs E he))⟩
theorem OverK.Ah {B T:Nat}{Ts:List TypeId}{w w' w'':World}(h:OverK B T Ts w w')(hb:Below w'.heap.size w' w'')(hB:B<=w'.heap.size):OverK B T Ts w w'' :=
 ⟨h.mid.jd hb hB,λ g E m hg=>(h.blk g E m hg).below hb (aa _),λ g cs E hg hE=>by
  have h1:=h.far g cs E hg hE;exact(hb.block g (Array.getElem?_eq_some_iff.1 h1).1).trans h1⟩
theorem OverK.set {B T:Nat}{Ts:List TypeId}{w w':World}(h:OverK B T Ts w w'){g m:Nat}{E:TypeId}(hk:jI w' g E m)(hE:E∈Ts)(hB:B<=g)(hT:g<T)(i:Nat)(v:Value):OverK B T Ts w (w'.setCell ⟨g,i,none⟩ v):=by
 refine⟨⟨h.mid.below.setCell (p:=⟨g,i,none⟩) hB v,λ b h1 h2=>?_⟩,λ b E m hb=>(h.blk b E m hb).set g i v,λ b cs E' hg hE'=>?_⟩
 ·
  rw[heap_setCell_other _ _ _ _ (by show b≠g;omega)];exact h.mid.far b h1 h2
 have h1:=h.far b cs E' hg hE';by_cases e:b=g
 ·
  subst e;obtain⟨cs2,h2,_⟩:=hk;rw[h1]at h2;cases h2
  exact absurd hE hE'
 exact(heap_setCell_other w' ⟨g,i,none⟩ b v e).trans h1
theorem OverK.size {B T:Nat}{Ts:List TypeId}{w w':World}(h:OverK B T Ts w w'):w.heap.size<=w'.heap.size:=h.mid.below.size
def Room (w:World) (B T:Nat) (E:TypeId) (SZ:Nat) (a:Option Addr) (n c:Nat):Prop:=∃g,a=some ⟨g,0,none⟩/\B<=g/\g<T/\c=n+12/\jI w g E ((n+12)*SZ)
theorem Room.over {w w':World}{B T n c:Nat}{E:TypeId}{SZ:Nat}{a:Option Addr}{Ts:List TypeId}(h:Room w B T E SZ a n c)(ho:OverK B T Ts w w'):Room w' B T E SZ a n c:=by
 obtain⟨g,h1,h2,h3,h4,h5⟩:=h;exact⟨g,h1,h2,h3,h4,ho.blk _ _ _ h5⟩
theorem Room.below {w w':World}{B T n c:Nat}{E:TypeId}{SZ:Nat}{a:Option Addr}(h:Room w B T E SZ a n c)(hb:Below w.heap.size w w'):Room w' B T E SZ a n c:=by
 obtain⟨g,h1,h2,h3,h4,h5⟩:=h;exact⟨g,h1,h2,h3,h4,h5.below hb (aa _)⟩
theorem ZQ (B g n:Nat)(ys:List Int)(w:World)(h:w.ownsRow B 5 1 (.slice (some ⟨g,0,none⟩) (n+12) (n+12)) (n+12) (ys.map bv))(hn:n<=1099511627776) :
  Calls prog 26 #[.slice (some ⟨g,0,none⟩) n (n+12:Nat)] w λ e w'=>e=.returned (.tuple #[])/\w.grownBy w' (some g)/\∃zs:List Int,w'.ownsRow B 5 1 (.slice (some ⟨g,0,none⟩) (n+12) (n+12)) (n+12) (zs.map bv):=by
 have hyl:ys.length=n+12:=by have:=h.1;simpa using this
 have fO:∀w,(Instr.sliceAt 25 (.slice (some ⟨g,0,none⟩) n (n+12)) none (some (.int .i64 ((n:Int)+12))) none).run prog w=.ok (.slice (some ⟨g,0,none⟩) (n+12) (n+12)) w:=λ w=>by
  have h1:=ua vp sizeByte (some ⟨g,0,none⟩) n (n+12) (n+12) (aa _) .i64 ((n:Int)+12) (by omega) w;rwa [wY _ _ _ (by intro a ha;cases ha;rfl)]at h1
 have H:=Hd h;have HY:=Hd hyl;clear h hyl;go_enter func26,ntmps26
 go_wp2_with fail
 clear fO;go_loopw [3] (λ i wr=>∃(k:Nat) (zs:List Int),k<=n+12/\i=.int .i64 k/\zs.length=n+12/\wr.ownsRow B 5 1 (.slice (some ⟨g,0,none⟩) (n+12) (n+12)) (n+12) (zs.map bv)/\w.grownBy wr (some g)) (λ i _=>n+12-(intOf i).toNat)
 exact⟨0,ys,by omega,rfl,HY.out,H.out,World.grownBy.refl _ _⟩
 obtain⟨k,zs,hk,rfl,ki,az,iq⟩:=hrel;have HO:=Hd az;have HZ:=Hd ki;clear az ki;by_cases ae:k<n+12
 ·
  have i1:(k:Int)<(n:Int)+12:=by omega
  have i2:(k:Int)<((n+12:Nat):Int):=by omega
  have ki:=HZ.out
  have d0:wr.cell? ⟨g,k,none⟩=some (.int .u8 (zs[k]'(by omega))):=by
   rw[ay HO.out k (by omega),List.getElem?_map,bu (by omega)];rfl
  have f0:wr.frozen? ⟨g,k,none⟩=false:=cO HO.out _;have aP:=cU HO.out k (.int .u8 (ez 2 k));have aN:=Hd aP;generalize (zs[k]'(by omega))=old at d0;clear aP ki;go_wp2_with (go_at_call 52;(with_reducible refine(pO _ _ 2 k (by omega) rfl (by omega) (by omega) _).mono ?_);rintro e w' ⟨rfl,rfl⟩)
  go_roundw
  exact⟨k+1,zs.set k (ez 2 k),by omega,by go_num,by rw[List.length_set];exact HZ.out,by rw[List.map_set];exact aN.out.1,iq.trans aN.out.2⟩
  simp[intOf];omega
 obtain rfl:k=n+12:=by omega
 go_wp2_with fail
 go_end0;exact⟨rfl,iq,zs,HO.out⟩
end Go.Proofs.YtepdklfkegkojaaGreatDoor
