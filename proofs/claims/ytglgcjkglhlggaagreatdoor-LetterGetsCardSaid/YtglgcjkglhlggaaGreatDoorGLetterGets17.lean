/- The document's answer for letters: Right. Conditions: the letter lies as its reading says, and is not too great. -/
import Derived.Test.YtglgcjkglhlggaaGreatDoorGLetterGets0
import Derived.Test.YtglgcjkglhlggaaGreatDoorGLetterGets16
import Derived.Test.YtglgcjkglhlggaaGreatDoorGLetterGets6
set_option linter.unusedVariables false
set_option linter.unusedSimpArgs false
namespace Go.Proofs.YtglgcjkglhlggaaGreatDoor
open Go.RowKit
set_option maxRecDepth 20000
theorem nums_iff (l:LtP):numsOk l=true ↔ (withinN l.term=true∧withinN l.was=true∧withinN l.index=true∧withinN l.commit=true∧withinN l.round=true):=by
 unfold numsOk
 simp [List.all_cons,and_assoc]
theorem enSmall_of {e:En}(h:EnFine e):EnSmall e:=⟨Nat.le_trans h.args (by decide),Nat.le_trans h.vn (by decide)⟩
theorem right_nums_no {l:LtP}(h:1≤l.fr∧l.fr≤9∧1≤l.tov∧l.tov≤9)(hn:numsOk l=false):rightL l=false:=by
 rw [rightL_eq h]
 unfold partsOk
 rw [hn]
 rfl
theorem none_iffL (l:LtP):noneL l=true ↔ (l.index=0∧l.was=0∧l.ok=false∧l.commit=0∧l.round=0∧l.es.length=0∧l.vs.length=0∧l.im.length=0):=by
 unfold noneL
 simp only [Bool.and_eq_true,decide_eq_true_eq,Bool.not_eq_true']
theorem entriesR_nil {es:List EnP}(h:es.length=0):entriesR es=true:=by
 rw [List.eq_nil_of_length_eq_zero h];rfl
theorem right_1 {l:LtP}(h:1≤l.fr∧l.fr≤9∧1≤l.tov∧l.tov≤9)(hn:numsOk l=true)(hk:l.kind=1):rightL l=true ↔ (l.ok=false∧l.commit=0∧l.round=0∧l.es.length=0∧l.vs.length=0∧l.im.length=0):=by
 rw [rightL_eq h]
 unfold partsOk leftL
 rw [hn,if_pos hk]
 simp only [Bool.true_and,Bool.and_eq_true,Bool.or_eq_true,decide_eq_true_eq,none_iffL]
 constructor
 ·
  rintro ⟨⟨h1,h2⟩,h3⟩
  obtain ⟨a,b,c,d,e,f,g,i⟩:=h3
  exact ⟨c,d,e,f,g,i⟩
 ·
  rintro ⟨c,d,e,f,g,i⟩
  exact ⟨⟨entriesR_nil f,Or.inl g⟩,⟨(by first | rfl | trivial),(by first | rfl | trivial),c,d,e,f,g,i⟩⟩
theorem right_2 {l:LtP}(h:1≤l.fr∧l.fr≤9∧1≤l.tov∧l.tov≤9)(hn:numsOk l=true)(hk:l.kind=2):rightL l=true ↔ (l.index=0∧l.was=0∧l.commit=0∧l.round=0∧l.es.length=0∧l.vs.length=0∧l.im.length=0):=by
 rw [rightL_eq h]
 unfold partsOk leftL
 rw [hn,if_neg (by rw [hk];decide),if_pos hk]
 simp only [Bool.true_and,Bool.and_eq_true,Bool.or_eq_true,decide_eq_true_eq,none_iffL]
 constructor
 ·
  rintro ⟨⟨h1,h2⟩,h3⟩
  obtain ⟨a,b,c,d,e,f,g,i⟩:=h3
  exact ⟨a,b,d,e,f,g,i⟩
 ·
  rintro ⟨a,b,d,e,f,g,i⟩
  exact ⟨⟨entriesR_nil f,Or.inl g⟩,⟨a,b,(by first | rfl | trivial),d,e,f,g,i⟩⟩
theorem right_3 {l:LtP}(h:1≤l.fr∧l.fr≤9∧1≤l.tov∧l.tov≤9)(hn:numsOk l=true)(hk:l.kind=3):rightL l=true ↔ (entriesR l.es=true∧l.ok=false∧l.vs.length=0∧l.im.length=0):=by
 rw [rightL_eq h]
 unfold partsOk leftL
 rw [hn,if_neg (by rw [hk];decide),if_neg (by rw [hk];decide),if_pos hk]
 simp only [Bool.true_and,Bool.and_eq_true,Bool.or_eq_true,decide_eq_true_eq,none_iffL]
 constructor
 ·
  rintro ⟨⟨h1,h2⟩,h3⟩
  obtain ⟨a,b,c,d,e,f,g,i⟩:=h3
  exact ⟨h1,c,g,i⟩
 ·
  rintro ⟨h1,c,g,i⟩
  exact ⟨⟨h1,Or.inl g⟩,⟨(by first | rfl | trivial),(by first | rfl | trivial),c,(by first | rfl | trivial),(by first | rfl | trivial),(by first | rfl | trivial),g,i⟩⟩
theorem right_4 {l:LtP}(h:1≤l.fr∧l.fr≤9∧1≤l.tov∧l.tov≤9)(hn:numsOk l=true)(hk:l.kind=4):rightL l=true ↔ (l.was=0∧l.commit=0∧l.es.length=0∧l.vs.length=0∧l.im.length=0):=by
 rw [rightL_eq h]
 unfold partsOk leftL
 rw [hn,if_neg (by rw [hk];decide),if_neg (by rw [hk];decide),if_neg (by rw [hk];decide),if_neg (by rw [hk];decide),if_pos hk]
 simp only [Bool.true_and,Bool.and_eq_true,Bool.or_eq_true,decide_eq_true_eq,none_iffL]
 constructor
 ·
  rintro ⟨⟨h1,h2⟩,h3⟩
  obtain ⟨a,b,c,d,e,f,g,i⟩:=h3
  exact ⟨b,d,f,g,i⟩
 ·
  rintro ⟨b,d,f,g,i⟩
  exact ⟨⟨entriesR_nil f,Or.inl g⟩,⟨(by first | rfl | trivial),b,(by first | rfl | trivial),d,(by first | rfl | trivial),f,g,i⟩⟩
theorem right_5 {l:LtP}(h:1≤l.fr∧l.fr≤9∧1≤l.tov∧l.tov≤9)(hn:numsOk l=true)(hk:l.kind=5):rightL l=true ↔ ((l.vs.length=0∨votersB l.vs=true)∧l.ok=false∧l.commit=0∧l.es.length=0):=by
 rw [rightL_eq h]
 unfold partsOk leftL
 rw [hn,if_neg (by rw [hk];decide),if_neg (by rw [hk];decide),if_neg (by rw [hk];decide),if_pos hk]
 simp only [Bool.true_and,Bool.and_eq_true,Bool.or_eq_true,decide_eq_true_eq,none_iffL]
 constructor
 ·
  rintro ⟨⟨h1,h2⟩,h3⟩
  obtain ⟨a,b,c,d,e,f,g,i⟩:=h3
  exact ⟨h2,c,d,f⟩
 ·
  rintro ⟨h2,c,d,f⟩
  exact ⟨⟨entriesR_nil f,h2⟩,⟨(by first | rfl | trivial),(by first | rfl | trivial),c,d,(by first | rfl | trivial),f,(by first | rfl | trivial),(by first | rfl | trivial)⟩⟩
theorem right_6 {l:LtP}(h:1≤l.fr∧l.fr≤9∧1≤l.tov∧l.tov≤9)(hn:numsOk l=true)(hk:l.kind=6):rightL l=true ↔ (l.was=0∧l.ok=false∧l.commit=0∧l.es.length=0∧l.vs.length=0∧l.im.length=0):=by
 rw [rightL_eq h]
 unfold partsOk leftL
 rw [hn,if_neg (by rw [hk];decide),if_neg (by rw [hk];decide),if_neg (by rw [hk];decide),if_neg (by rw [hk];decide),if_neg (by rw [hk];decide),if_pos hk]
 simp only [Bool.true_and,Bool.and_eq_true,Bool.or_eq_true,decide_eq_true_eq,none_iffL]
 constructor
 ·
  rintro ⟨⟨h1,h2⟩,h3⟩
  obtain ⟨a,b,c,d,e,f,g,i⟩:=h3
  exact ⟨b,c,d,f,g,i⟩
 ·
  rintro ⟨b,c,d,f,g,i⟩
  exact ⟨⟨entriesR_nil f,Or.inl g⟩,⟨(by first | rfl | trivial),b,c,d,(by first | rfl | trivial),f,g,i⟩⟩
theorem right_none {l:LtP}(h:l.kind ≠ 1∧l.kind ≠ 2∧l.kind ≠ 3∧l.kind ≠ 4∧l.kind ≠ 5∧l.kind ≠ 6):rightL l=false:=by
 have h2:(leftL l).2=false:=by
  unfold leftL
  rw [if_neg h.1,if_neg h.2.1,if_neg h.2.2.1,if_neg h.2.2.2.2.1,if_neg h.2.2.2.1,if_neg h.2.2.2.2.2]
 by_cases hb:l.fr<1∨9<l.fr∨l.tov<1∨9<l.tov
 · exact rightL_no hb
 · rw [rightL_eq (by omega),h2,Bool.false_and,Bool.and_false]
theorem entries_iff (es:List EnP):entriesR es=true ↔ ((∀ e ∈ es,entryR e=true)∧es.length≤16):=by
 unfold entriesR
 rw [Bool.and_eq_true,List.all_eq_true,decide_eq_true_eq]
/-- How far the entries are gone through. -/
def GoneTo (b:Bool) (n:Nat) (es:List En):Prop:=b=true ↔ (n≤16∧∀ e ∈ es,entryR e.plain=true)
set_option maxHeartbeats 16000000 in
theorem rright21_at (kd fr tt tm ix ws:Int)(ob:Bool)(cm rn:Int)(ea:Option Addr)(n ec:Nat)(va:Option Addr)(m vc:Nat)(ia:Option Addr)(q ic:Nat)(es:List En)(vs im:List Int)(w:World)
  (hn:es.length=n) (hm:vs.length=m) (hq:im.length=q) (hx:EnsIn w w.heap.size ea es) (hx2:NumsIn w w.heap.size va vs) (hx3:BytesIn w w.heap.size ia im) (hf:∀ e ∈ es,EnFine e) (l1:n≤4000000) (l2:m≤4000000) (l3:q≤4000000) (l0:0≤kd∧kd<256) (g:Bool) (hg:rightL ⟨kd,fr,tt,tm,ix,ws,ob,cm,rn,es.map En.plain,vs,im⟩=g) :
  Calls Tryz.prog 10 #[.agg #[.int .u8 kd,.int .i64 fr,.int .i64 tt,.int .i64 tm,.int .i64 ix,.int .i64 ws,.bool ob,.int .i64 cm,.int .i64 rn,.slice ea n ec,.slice va m vc,.slice ia q ic]] w (DecAt g w):=by
 have hb1:=(Below.refl w.heap.size w).alloc (nlr _) (.cells #[.int .u8 kd,.int .i64 fr,.int .i64 tt,.int .i64 tm,.int .i64 ix,.int .i64 ws,.bool ob,.int .i64 cm,.int .i64 rn,.slice ea n ec,.slice va m vc,.slice ia q ic] 27)
 have h1:=heap_alloc_new w (.cells #[.int .u8 kd,.int .i64 fr,.int .i64 tt,.int .i64 tm,.int .i64 ix,.int .i64 ws,.bool ob,.int .i64 cm,.int .i64 rn,.slice ea n ec,.slice va m vc,.slice ia q ic] 27)
 have hz1:w.heap.size+1≤(w.alloc (.cells #[.int .u8 kd,.int .i64 fr,.int .i64 tt,.int .i64 tm,.int .i64 ix,.int .i64 ws,.bool ob,.int .i64 cm,.int .i64 rn,.slice ea n ec,.slice va m vc,.slice ia q ic] 27)).heap.size:=by simp
 have HB1:=Hd hb1
 have H1:=Hd h1
 have HZ:=Hd hz1
 have HN:=Hd hn
 have HM:=Hd hm
 have HQ:=Hd hq
 have HX:=Hd hx
 have HX2:=Hd hx2
 have HX3:=Hd hx3
 have HF:=Hd hf
 have HG:=Hd hg
 clear hb1 h1 hz1 hn hm hq hx hx2 hx3 hf hg
 go_enter Tryz.func10,Tryz.ntmps10
 go_upto_region 1 with fail
 have hb1:=HB1.out
 have h1:=H1.out
 have hz1:=HZ.out
 clear HB1 H1 HZ
 generalize w.alloc (.cells #[.int .u8 kd,.int .i64 fr,.int .i64 tt,.int .i64 tm,.int .i64 ix,.int .i64 ws,.bool ob,.int .i64 cm,.int .i64 rn,.slice ea n ec,.slice va m vc,.slice ia q ic] 27)=w1 at hb1 h1 hz1 ⊢
 have H1:=Hd h1
 have HB1:=Hd hb1
 have c0:w1.cell? ⟨w.heap.size,0,none⟩=some (.int .u8 kd):=cob h1 0
 have c1:w1.cell? ⟨w.heap.size,1,none⟩=some (.int .i64 fr):=cob h1 1
 have c2:w1.cell? ⟨w.heap.size,2,none⟩=some (.int .i64 tt):=cob h1 2
 have c3:w1.cell? ⟨w.heap.size,3,none⟩=some (.int .i64 tm):=cob h1 3
 have c4:w1.cell? ⟨w.heap.size,4,none⟩=some (.int .i64 ix):=cob h1 4
 have c5:w1.cell? ⟨w.heap.size,5,none⟩=some (.int .i64 ws):=cob h1 5
 have c6:w1.cell? ⟨w.heap.size,6,none⟩=some (.bool ob):=cob h1 6
 have c7:w1.cell? ⟨w.heap.size,7,none⟩=some (.int .i64 cm):=cob h1 7
 have c8:w1.cell? ⟨w.heap.size,8,none⟩=some (.int .i64 rn):=cob h1 8
 have c9:w1.cell? ⟨w.heap.size,9,none⟩=some (.slice ea n ec):=cob h1 9
 have c10:w1.cell? ⟨w.heap.size,10,none⟩=some (.slice va m vc):=cob h1 10
 have c11:w1.cell? ⟨w.heap.size,11,none⟩=some (.slice ia q ic):=cob h1 11
 clear hb1 h1
 by_cases h0:fr<1
 ·
  have hg2:g=false:=by rw [← HG.out];exact rightL_no (Or.inl h0)
  have HG2:=Hd hg2
  have j0:decide (fr<1)=true:=decide_eq_true h0
  clear hg2
  go_wp2_with fail
  go_ret
  exact ⟨ret_bool HG2.out.symm,HB1.out⟩
 have hlo_fr:1≤fr:=by omega
 have jlo_fr:decide (fr<1)=false:=decide_eq_false h0
 clear h0
 by_cases h0:9<fr
 ·
  have hg2:g=false:=by rw [← HG.out];exact rightL_no (Or.inr (Or.inl h0))
  have HG2:=Hd hg2
  have j0:decide (9<fr)=true:=decide_eq_true h0
  clear hg2
  go_wp2_with fail
  go_ret
  exact ⟨ret_bool HG2.out.symm,HB1.out⟩
 have hhi_fr:fr≤9:=by omega
 have jhi_fr:decide (9<fr)=false:=decide_eq_false h0
 clear h0
 by_cases h0:tt<1
 ·
  have hg2:g=false:=by rw [← HG.out];exact rightL_no (Or.inr (Or.inr (Or.inl h0)))
  have HG2:=Hd hg2
  have j0:decide (tt<1)=true:=decide_eq_true h0
  clear hg2
  go_wp2_with fail
  go_ret
  exact ⟨ret_bool HG2.out.symm,HB1.out⟩
 have hlo_tt:1≤tt:=by omega
 have jlo_tt:decide (tt<1)=false:=decide_eq_false h0
 clear h0
 by_cases h0:9<tt
 ·
  have hg2:g=false:=by rw [← HG.out];exact rightL_no (Or.inr (Or.inr (Or.inr h0)))
  have HG2:=Hd hg2
  have j0:decide (9<tt)=true:=decide_eq_true h0
  clear hg2
  go_wp2_with fail
  go_ret
  exact ⟨ret_bool HG2.out.symm,HB1.out⟩
 have hhi_tt:tt≤9:=by omega
 have jhi_tt:decide (9<tt)=false:=decide_eq_false h0
 clear h0
 obtain ⟨g0,hg0⟩:∃ gg,withinN tm=gg:=⟨_,rfl⟩
 have HW0:=Hd hg0
 clear hg0
 go_wp2_with fail
 refine (rwithin_any tm w1 g0 HW0.out).mono ?_
 rintro e wx ⟨rfl,rfl⟩
 cases g0 with
 | false =>
  have hg2:g=false:=by
   rw [← HG.out]
   refine right_nums_no ⟨hlo_fr,hhi_fr,hlo_tt,hhi_tt⟩ ?_
   refine no_of (nums_iff _) (fun h=>?_)
   have h2:=h.1
   dsimp only at h2
   rw [HW0.out] at h2
   cases h2
  have HG2:=Hd hg2
  clear hg2
  go_wp2_with fail
  go_ret
  exact ⟨ret_bool HG2.out.symm,HB1.out⟩
 | true =>
 obtain ⟨g1,hg1⟩:∃ gg,withinN ws=gg:=⟨_,rfl⟩
 have HW1:=Hd hg1
 clear hg1
 go_wp2_with fail
 refine (rwithin_any ws w1 g1 HW1.out).mono ?_
 rintro e wx ⟨rfl,rfl⟩
 cases g1 with
 | false =>
  have hg2:g=false:=by
   rw [← HG.out]
   refine right_nums_no ⟨hlo_fr,hhi_fr,hlo_tt,hhi_tt⟩ ?_
   refine no_of (nums_iff _) (fun h=>?_)
   have h2:=h.2.1
   dsimp only at h2
   rw [HW1.out] at h2
   cases h2
  have HG2:=Hd hg2
  clear hg2
  go_wp2_with fail
  go_ret
  exact ⟨ret_bool HG2.out.symm,HB1.out⟩
 | true =>
 obtain ⟨g2,hg2⟩:∃ gg,withinN ix=gg:=⟨_,rfl⟩
 have HW2:=Hd hg2
 clear hg2
 go_wp2_with fail
 refine (rwithin_any ix w1 g2 HW2.out).mono ?_
 rintro e wx ⟨rfl,rfl⟩
 cases g2 with
 | false =>
  have hg2:g=false:=by
   rw [← HG.out]
   refine right_nums_no ⟨hlo_fr,hhi_fr,hlo_tt,hhi_tt⟩ ?_
   refine no_of (nums_iff _) (fun h=>?_)
   have h2:=h.2.2.1
   dsimp only at h2
   rw [HW2.out] at h2
   cases h2
  have HG2:=Hd hg2
  clear hg2
  go_wp2_with fail
  go_ret
  exact ⟨ret_bool HG2.out.symm,HB1.out⟩
 | true =>
 obtain ⟨g3,hg3⟩:∃ gg,withinN cm=gg:=⟨_,rfl⟩
 have HW3:=Hd hg3
 clear hg3
 go_wp2_with fail
 refine (rwithin_any cm w1 g3 HW3.out).mono ?_
 rintro e wx ⟨rfl,rfl⟩
 cases g3 with
 | false =>
  have hg2:g=false:=by
   rw [← HG.out]
   refine right_nums_no ⟨hlo_fr,hhi_fr,hlo_tt,hhi_tt⟩ ?_
   refine no_of (nums_iff _) (fun h=>?_)
   have h2:=h.2.2.2.1
   dsimp only at h2
   rw [HW3.out] at h2
   cases h2
  have HG2:=Hd hg2
  clear hg2
  go_wp2_with fail
  go_ret
  exact ⟨ret_bool HG2.out.symm,HB1.out⟩
 | true =>
 obtain ⟨g4,hg4⟩:∃ gg,withinN rn=gg:=⟨_,rfl⟩
 have HW4:=Hd hg4
 clear hg4
 go_wp2_with fail
 refine (rwithin_any rn w1 g4 HW4.out).mono ?_
 rintro e wx ⟨rfl,rfl⟩
 cases g4 with
 | false =>
  have hg2:g=false:=by
   rw [← HG.out]
   refine right_nums_no ⟨hlo_fr,hhi_fr,hlo_tt,hhi_tt⟩ ?_
   refine no_of (nums_iff _) (fun h=>?_)
   have h2:=h.2.2.2.2
   dsimp only at h2
   rw [HW4.out] at h2
   cases h2
  have HG2:=Hd hg2
  clear hg2
  go_wp2_with fail
  go_ret
  exact ⟨ret_bool HG2.out.symm,HB1.out⟩
 | true =>
 have hnums:numsOk ⟨kd,fr,tt,tm,ix,ws,ob,cm,rn,es.map En.plain,vs,im⟩=true:=(nums_iff _).2 ⟨HW0.out,HW1.out,HW2.out,HW3.out,HW4.out⟩
 have HNU:=Hd hnums
 have HRG:=Hd (show 1≤fr∧fr≤9∧1≤tt∧tt≤9 from ⟨hlo_fr,hhi_fr,hlo_tt,hhi_tt⟩)
 clear jlo_fr jhi_fr jlo_tt jhi_tt hnums hlo_fr hhi_fr hlo_tt hhi_tt HW0 HW1 HW2 HW3 HW4
 have hal:=(Below.refl w1.heap.size w1).alloc (nlr _) (.cells #[.int .u8 kd,.int .i64 fr,.int .i64 tt,.int .i64 tm,.int .i64 0,.int .i64 0,.bool false,.int .i64 0,.int .i64 0,.slice none 0 0,.slice none 0 0,.slice none 0 0] 27)
 have hk2:=(hal.block w.heap.size (by omega)).trans H1.out
 have hq2:=heap_alloc_new w1 (.cells #[.int .u8 kd,.int .i64 fr,.int .i64 tt,.int .i64 tm,.int .i64 0,.int .i64 0,.bool false,.int .i64 0,.int .i64 0,.slice none 0 0,.slice none 0 0,.slice none 0 0] 27)
 have hb2:=HB1.out.trans (hal.mono (by omega))
 have K2:=Hd hk2
 have Q2:=Hd hq2
 have HB2:=Hd hb2
 clear hal hk2 hq2 hb2 H1 HB1
 go_upto_region 5 with fail
 have hqlt:w1.heap.size<(w1.alloc (.cells #[.int .u8 kd,.int .i64 fr,.int .i64 tt,.int .i64 tm,.int .i64 0,.int .i64 0,.bool false,.int .i64 0,.int .i64 0,.slice none 0 0,.slice none 0 0,.slice none 0 0] 27)).heap.size:=(Array.getElem?_eq_some_iff.1 Q2.out).1
 clear c0 c1 c2 c3 c4 c5 c6 c7 c8 c9 c10 c11
 generalize w1.alloc (.cells #[.int .u8 kd,.int .i64 fr,.int .i64 tt,.int .i64 tm,.int .i64 0,.int .i64 0,.bool false,.int .i64 0,.int .i64 0,.slice none 0 0,.slice none 0 0,.slice none 0 0] 27)=w2 at K2 Q2 HB2 hqlt ⊢
 obtain ⟨qb,hqb⟩:∃ qb,w1.heap.size=qb:=⟨_,rfl⟩
 have hpq:w.heap.size<qb:=by omega
 rw [hqb] at Q2 hqlt ⊢
 clear hqb
 have hk:=K2.out
 have hqk:=Q2.out
 have c0:w2.cell? ⟨w.heap.size,0,none⟩=some (.int .u8 kd):=cob hk 0
 have c1:w2.cell? ⟨w.heap.size,1,none⟩=some (.int .i64 fr):=cob hk 1
 have c2:w2.cell? ⟨w.heap.size,2,none⟩=some (.int .i64 tt):=cob hk 2
 have c3:w2.cell? ⟨w.heap.size,3,none⟩=some (.int .i64 tm):=cob hk 3
 have c4:w2.cell? ⟨w.heap.size,4,none⟩=some (.int .i64 ix):=cob hk 4
 have c5:w2.cell? ⟨w.heap.size,5,none⟩=some (.int .i64 ws):=cob hk 5
 have c6:w2.cell? ⟨w.heap.size,6,none⟩=some (.bool ob):=cob hk 6
 have c7:w2.cell? ⟨w.heap.size,7,none⟩=some (.int .i64 cm):=cob hk 7
 have c8:w2.cell? ⟨w.heap.size,8,none⟩=some (.int .i64 rn):=cob hk 8
 have c9:w2.cell? ⟨w.heap.size,9,none⟩=some (.slice ea n ec):=cob hk 9
 have c10:w2.cell? ⟨w.heap.size,10,none⟩=some (.slice va m vc):=cob hk 10
 have c11:w2.cell? ⟨w.heap.size,11,none⟩=some (.slice ia q ic):=cob hk 11
 clear hk
 by_cases hk1:kd=1
 ·
  subst hk1
  have d4:w2.cell? ⟨qb,4,none⟩=some (.int .i64 0):=cob hqk 4
  have f4:w2.frozen? ⟨qb,4,none⟩=false:=ufb hqk 4
  have d5:w2.cell? ⟨qb,5,none⟩=some (.int .i64 0):=cob hqk 5
  have f5:w2.frozen? ⟨qb,5,none⟩=false:=ufb hqk 5
  clear hqk
  go_upto_region 37 with fail
  have hq3:(((w2).setCell ⟨qb,4,none⟩ (.int .i64 ix)).setCell ⟨qb,5,none⟩ (.int .i64 ws)).heap[qb]?=some (.cells #[.int .u8 1,.int .i64 fr,.int .i64 tt,.int .i64 tm,.int .i64 ix,.int .i64 ws,.bool false,.int .i64 0,.int .i64 0,.slice none 0 0,.slice none 0 0,.slice none 0 0] 27 (0,0)):=(blk_to (blk_to Q2.out (.int .i64 ix) rfl) (.int .i64 ws) rfl)
  have ho:=((Only.set qb (w2) 4 (.int .i64 ix))).trans (Only.set qb ((w2).setCell ⟨qb,4,none⟩ (.int .i64 ix)) 5 (.int .i64 ws))
  have hk3:=(ho.2 w.heap.size (by omega) (by omega)).trans K2.out
  have hb3:=HB2.out.trans (ho.toBelow HB2.out.size (by omega))
  have hz3:=ho.1
  generalize ((w2).setCell ⟨qb,4,none⟩ (.int .i64 ix)).setCell ⟨qb,5,none⟩ (.int .i64 ws)=w3 at hq3 ho hk3 hb3 hz3 ⊢
  have K3:=Hd hk3
  have Q3:=Hd hq3
  have B3:=Hd hb3
  clear hk3 hb3 ho c0 c1 c2 c3 c4 c5 c6 c7 c8 c9 c10 c11 d4 f4 d5 f5 K2 Q2 HB2
  clear hq3
  have hrl:=rng_block K3.out
  have hrx:=rng_block Q3.out
  have hgi:g=true ↔ ((1=1∧fr=fr∧tt=tt∧tm=tm∧ix=ix∧ws=ws∧ob=false∧cm=0∧rn=0)∧n=0∧m=0∧q=0):=(by
     rw [← HG.out,right_1 HRG.out HNU.out rfl]
     simp [HN.out,HM.out,HQ.out,and_assoc])
  have HGI:=Hd hgi
  clear hgi
  go_wp2_with (first | (refine wpList_load_want (by rfl) 27 (.tmp 1) rfl w.heap.size 0 rfl _ _ hrl Tryz.underlying27 rfl info_lt ?_) | (refine wpList_load_want (by rfl) 27 (.tmp 3) rfl qb 0 rfl _ _ hrx Tryz.underlying27 rfl info_lt ?_))
  refine (sameL_or _ fr tt tm ix ws ob cm rn ea n ec va m vc ia q ic es vs im _ fr tt tm ix ws false 0 0 none 0 0 none 0 0 none 0 0 [] [] [] w3 HN.out HM.out HQ.out rfl rfl rfl
   ((HX.out.below enSub_kept B3.out (nlr _)).mono enSub_rising B3.out.size) ((HX2.out.below noSub_kept B3.out (nlr _)).mono noSub_rising B3.out.size) ((HX3.out.below B3.out (nlr _)).mono B3.out.size)
   (Or.inl rfl) (Or.inl rfl) (Or.inl rfl) (Or.inr rfl) (Or.inr rfl) (Or.inr rfl) (fun x hx=>enSmall_of (HF.out x hx)) l1 l2 l3 g (by simpa using HGI.out)).mono ?_
  rintro e wz ⟨rfl,bz⟩
  clear hrl hrx
  go_wp2_with fail
  go_ret
  exact ⟨rfl,B3.out.trans (bz.mono B3.out.size)⟩
 by_cases hk2:kd=2
 ·
  subst hk2
  have d6:w2.cell? ⟨qb,6,none⟩=some (.bool false):=cob hqk 6
  have f6:w2.frozen? ⟨qb,6,none⟩=false:=ufb hqk 6
  clear hqk
  go_upto_region 37 with fail
  have hq3:((w2).setCell ⟨qb,6,none⟩ (.bool ob)).heap[qb]?=some (.cells #[.int .u8 2,.int .i64 fr,.int .i64 tt,.int .i64 tm,.int .i64 0,.int .i64 0,.bool ob,.int .i64 0,.int .i64 0,.slice none 0 0,.slice none 0 0,.slice none 0 0] 27 (0,0)):=(blk_to Q2.out (.bool ob) rfl)
  have ho:=(Only.set qb (w2) 6 (.bool ob))
  have hk3:=(ho.2 w.heap.size (by omega) (by omega)).trans K2.out
  have hb3:=HB2.out.trans (ho.toBelow HB2.out.size (by omega))
  have hz3:=ho.1
  generalize (w2).setCell ⟨qb,6,none⟩ (.bool ob)=w3 at hq3 ho hk3 hb3 hz3 ⊢
  have K3:=Hd hk3
  have Q3:=Hd hq3
  have B3:=Hd hb3
  clear hk3 hb3 ho c0 c1 c2 c3 c4 c5 c6 c7 c8 c9 c10 c11 d6 f6 K2 Q2 HB2
  clear hq3
  have hrl:=rng_block K3.out
  have hrx:=rng_block Q3.out
  have hgi:g=true ↔ ((2=2∧fr=fr∧tt=tt∧tm=tm∧ix=0∧ws=0∧ob=ob∧cm=0∧rn=0)∧n=0∧m=0∧q=0):=(by
     rw [← HG.out,right_2 HRG.out HNU.out rfl]
     simp [HN.out,HM.out,HQ.out,and_assoc])
  have HGI:=Hd hgi
  clear hgi
  go_wp2_with (first | (refine wpList_load_want (by rfl) 27 (.tmp 1) rfl w.heap.size 0 rfl _ _ hrl Tryz.underlying27 rfl info_lt ?_) | (refine wpList_load_want (by rfl) 27 (.tmp 3) rfl qb 0 rfl _ _ hrx Tryz.underlying27 rfl info_lt ?_))
  refine (sameL_or _ fr tt tm ix ws ob cm rn ea n ec va m vc ia q ic es vs im _ fr tt tm 0 0 ob 0 0 none 0 0 none 0 0 none 0 0 [] [] [] w3 HN.out HM.out HQ.out rfl rfl rfl
   ((HX.out.below enSub_kept B3.out (nlr _)).mono enSub_rising B3.out.size) ((HX2.out.below noSub_kept B3.out (nlr _)).mono noSub_rising B3.out.size) ((HX3.out.below B3.out (nlr _)).mono B3.out.size)
   (Or.inl rfl) (Or.inl rfl) (Or.inl rfl) (Or.inr rfl) (Or.inr rfl) (Or.inr rfl) (fun x hx=>enSmall_of (HF.out x hx)) l1 l2 l3 g (by simpa using HGI.out)).mono ?_
  rintro e wz ⟨rfl,bz⟩
  clear hrl hrx
  go_wp2_with fail
  go_ret
  exact ⟨rfl,B3.out.trans (bz.mono B3.out.size)⟩
 by_cases hk3:kd=3
 ·
  subst hk3
  have d4:w2.cell? ⟨qb,4,none⟩=some (.int .i64 0):=cob hqk 4
  have f4:w2.frozen? ⟨qb,4,none⟩=false:=ufb hqk 4
  have d5:w2.cell? ⟨qb,5,none⟩=some (.int .i64 0):=cob hqk 5
  have f5:w2.frozen? ⟨qb,5,none⟩=false:=ufb hqk 5
  have d7:w2.cell? ⟨qb,7,none⟩=some (.int .i64 0):=cob hqk 7
  have f7:w2.frozen? ⟨qb,7,none⟩=false:=ufb hqk 7
  have d8:w2.cell? ⟨qb,8,none⟩=some (.int .i64 0):=cob hqk 8
  have f8:w2.frozen? ⟨qb,8,none⟩=false:=ufb hqk 8
  have d9:w2.cell? ⟨qb,9,none⟩=some (.slice none 0 0):=cob hqk 9
  have f9:w2.frozen? ⟨qb,9,none⟩=false:=ufb hqk 9
  clear hqk
  go_upto_region 18 with fail
  have hq3:((((((w2).setCell ⟨qb,4,none⟩ (.int .i64 ix)).setCell ⟨qb,5,none⟩ (.int .i64 ws)).setCell ⟨qb,7,none⟩ (.int .i64 cm)).setCell ⟨qb,8,none⟩ (.int .i64 rn)).setCell ⟨qb,9,none⟩ (.slice ea n ec)).heap[qb]?=some (.cells #[.int .u8 3,.int .i64 fr,.int .i64 tt,.int .i64 tm,.int .i64 ix,.int .i64 ws,.bool false,.int .i64 cm,.int .i64 rn,.slice ea n ec,.slice none 0 0,.slice none 0 0] 27 (0,0)):=(blk_to (blk_to (blk_to (blk_to (blk_to Q2.out (.int .i64 ix) rfl) (.int .i64 ws) rfl) (.int .i64 cm) rfl) (.int .i64 rn) rfl) (.slice ea n ec) rfl)
  have ho:=(((((Only.set qb (w2) 4 (.int .i64 ix))).trans (Only.set qb ((w2).setCell ⟨qb,4,none⟩ (.int .i64 ix)) 5 (.int .i64 ws))).trans (Only.set qb (((w2).setCell ⟨qb,4,none⟩ (.int .i64 ix)).setCell ⟨qb,5,none⟩ (.int .i64 ws)) 7 (.int .i64 cm))).trans (Only.set qb ((((w2).setCell ⟨qb,4,none⟩ (.int .i64 ix)).setCell ⟨qb,5,none⟩ (.int .i64 ws)).setCell ⟨qb,7,none⟩ (.int .i64 cm)) 8 (.int .i64 rn))).trans (Only.set qb (((((w2).setCell ⟨qb,4,none⟩ (.int .i64 ix)).setCell ⟨qb,5,none⟩ (.int .i64 ws)).setCell ⟨qb,7,none⟩ (.int .i64 cm)).setCell ⟨qb,8,none⟩ (.int .i64 rn)) 9 (.slice ea n ec))
  have hk3:=(ho.2 w.heap.size (by omega) (by omega)).trans K2.out
  have hb3:=HB2.out.trans (ho.toBelow HB2.out.size (by omega))
  have hz3:=ho.1
  generalize (((((w2).setCell ⟨qb,4,none⟩ (.int .i64 ix)).setCell ⟨qb,5,none⟩ (.int .i64 ws)).setCell ⟨qb,7,none⟩ (.int .i64 cm)).setCell ⟨qb,8,none⟩ (.int .i64 rn)).setCell ⟨qb,9,none⟩ (.slice ea n ec)=w3 at hq3 ho hk3 hb3 hz3 ⊢
  have K3:=Hd hk3
  have Q3:=Hd hq3
  have B3:=Hd hb3
  clear hk3 hb3 ho c0 c1 c2 c3 c4 c5 c6 c7 c8 c9 c10 c11 d4 f4 d5 f5 d7 f7 d8 f8 d9 f9 K2 Q2 HB2
  clear hq3
  have c9:w3.cell? ⟨w.heap.size,9,none⟩=some (.slice ea n ec):=cob K3.out 9
  have hcA:∀ w',Below w3.heap.size w3 w'→w'.cell? ⟨w.heap.size,9,none⟩=some (.slice ea n ec):=fun w' hb=>cob ((hb.block _ (by omega)).trans K3.out) 9
  have HCA:=Hd hcA
  have HXE:=Hd (HX.out.below enSub_kept B3.out (nlr _))
  obtain ⟨b0,hb0⟩:∃ b:Bool,decide (n≤16)=b:=⟨_,rfl⟩
  have hb0':decide ((n:Int)≤16)=b0:=by rw [← hb0];congr 1;exact propext (by omega)
  have hg0:GoneTo b0 n (es.take 0):=by
   unfold GoneTo
   rw [← hb0]
   simp
  have HG0:=Hd hg0
  have HB00:=Hd hb0'
  clear hcA hg0 hb0
  go_wp2_with fail
  clear hb0' c9
  go_loopw [4,5] (fun b i wr=>∃ (k:Nat) (bb:Bool),k≤n∧i=.int .i64 k∧b=.bool bb∧GoneTo bb n (es.take k)∧Below w3.heap.size w3 wr) (fun _ i _=>n - (intOf i).toNat)
  case atStart=>exact ⟨0,b0,by omega,rfl,by first | rfl | (rw [HB00.out]) | (simp [HB00.out]),HG0.out,Below.refl _ _⟩
  case round =>
   clear HG0 HB00
   obtain ⟨k,bb,hk,rfl,rfl,hgt,hbel⟩:=hrel
   have HGT:=Hd hgt
   have hszr:=hbel.size
   have c9:=HCA.out wr hbel
   clear hgt
   by_cases hlt:k<n
   ·
    have i1:(k:Int)<n:=by omega
    cases bb with
    | true =>
     have hkx:es[k]?=some (es[k]'(by rw [HN.out];exact hlt)):=List.getElem?_eq_getElem _
     have htk:es.take (k+1)=es.take k ++ [es[k]'(by rw [HN.out];exact hlt)]:=List.take_succ_eq_append_getElem _
     have hfx:=HF.out _ (List.getElem_mem (l:=es) (n:=k) (by rw [HN.out];exact hlt))
     obtain ⟨b,off,hao,hb,hc,hsub⟩:=HXE.out.at hkx
     generalize es[k]'(by rw [HN.out];exact hlt)=x at hc hkx hfx hsub htk
     have hsub2:=enSub_rising _ _ _ _ (enSub_kept _ _ _ _ _ hsub hbel (by have:=B3.out.size;omega)) (show w.heap.size≤wr.heap.size by have:=B3.out.size;omega)
     have hrg:wr.rangeAt b (off+k * 9) (enCells x):=fun j v hv=>by
      have hj:j<9:=by have:=(List.getElem?_eq_some_iff.1 hv).1;rw [enCells_len] at this;exact this
      rw [← hv,← hc j hj]
      exact hbel.cell (p:=⟨b,_,none⟩) (show b<w3.heap.size by have:=B3.out.size;omega)
     obtain ⟨gx,hgx⟩:∃ gg,entryR x.plain=gg:=⟨_,rfl⟩
     have hnew:GoneTo gx n (es.take (k+1)):=by
      unfold GoneTo
      rw [htk]
      have h1:=HGT.out.1 rfl
      constructor
      ·
       intro h
       refine ⟨h1.1,fun e he=>?_⟩
       rcases List.mem_append.1 he with he | he
       · exact h1.2 e he
       · rw [List.mem_singleton.1 he,hgx];exact h
      ·
       intro h
       rw [← hgx]
       exact h.2 x (List.mem_append_right _ (List.mem_singleton.2 rfl))
     have HNEW:=Hd hnew
     have HGX:=Hd hgx
     have HFX:=Hd hfx
     have HS2:=Hd hsub2
     rw [hao] at c9
     clear hc hkx htk hfx hsub hsub2 hnew hgx hao
     go_wp2_with (refine wpList_load_mid rfl 55 (.tmp 112) rfl b (off+k * 9) rfl (enCells x) _ hrg Tryz.underlying55 rfl (by rw [enCells_len];exact info_en) ?_)
     refine (rentry21_any x wr HS2.out HFX.out gx HGX.out).mono ?_
     rintro e w5 ⟨rfl,b5⟩
     have hb5:=hbel.trans (b5.mono hszr)
     clear hrg c9 b5
     go_wp2_with fail
     go_roundw
     case rel=>exact ⟨k+1,gx,by omega,by go_num,rfl,HNEW.out,hb5⟩
     case measure=>simp [intOf];omega
    | false =>
     have hg2:g=false:=by
      rw [← HG.out]
      refine no_of (right_3 HRG.out HNU.out rfl) (fun h=>?_)
      have h1:=(entries_iff _).1 h.1
      dsimp only at h1
      have h2:=HGT.out.2 ⟨by rw [List.length_map,HN.out] at h1;exact h1.2,fun e he=>h1.1 _ (List.mem_map_of_mem (List.mem_of_mem_take he))⟩
      cases h2
     have HG2:=Hd hg2
     clear hg2
     go_wp2_with fail
     go_ret
     exact ⟨ret_bool HG2.out.symm,B3.out.trans (hbel.mono B3.out.size)⟩
   ·
    obtain rfl:k=n:=by omega
    have i1:¬ (k:Int)<k:=by omega
    have htk:es.take k=es:=List.take_of_length_le (by rw [HN.out];exact nlr _)
    cases bb with
    | false =>
     have hg2:g=false:=by
      rw [← HG.out]
      refine no_of (right_3 HRG.out HNU.out rfl) (fun h=>?_)
      have h1:=(entries_iff _).1 h.1
      dsimp only at h1
      have h2:=HGT.out.2 ⟨by rw [List.length_map,HN.out] at h1;exact h1.2,fun e he=>h1.1 _ (List.mem_map_of_mem (List.mem_of_mem_take he))⟩
      cases h2
     have HG2:=Hd hg2
     clear hg2 htk
     go_wp2_with fail
     go_ret
     exact ⟨ret_bool HG2.out.symm,B3.out.trans (hbel.mono B3.out.size)⟩
    | true =>
     have her:entriesR (es.map En.plain)=true:=by
      have h1:=HGT.out.1 rfl
      rw [htk] at h1
      rw [entries_iff,List.length_map,HN.out]
      refine ⟨fun e he=>?_,h1.1⟩
      obtain ⟨f,hf,rfl⟩:=List.mem_map.1 he
      exact h1.2 f hf
     have HER:=Hd her
     have K4:=Hd ((hbel.block w.heap.size (by omega)).trans K3.out)
     have Q4:=Hd ((hbel.block qb (by omega)).trans Q3.out)
     have B4:=Hd (B3.out.trans (hbel.mono B3.out.size))
     clear her htk
     go_upto_region 37 with fail
     clear c9
     have hrl:=rng_block K4.out
     have hrx:=rng_block Q4.out
     have hgi:g=true ↔ ((3=3∧fr=fr∧tt=tt∧tm=tm∧ix=ix∧ws=ws∧ob=false∧cm=cm∧rn=rn)∧k=k∧m=0∧q=0):=(by
          rw [← HG.out,right_3 HRG.out HNU.out rfl]
          simp [HN.out,HM.out,HQ.out,HER.out,and_assoc])
     have HGI:=Hd hgi
     clear hgi
     go_wp2_with (first | (refine wpList_load_want (by rfl) 27 (.tmp 1) rfl w.heap.size 0 rfl _ _ hrl Tryz.underlying27 rfl info_lt ?_) | (refine wpList_load_want (by rfl) 27 (.tmp 3) rfl qb 0 rfl _ _ hrx Tryz.underlying27 rfl info_lt ?_))
     refine (sameL_or _ fr tt tm ix ws ob cm rn ea k ec va m vc ia q ic es vs im _ fr tt tm ix ws false cm rn ea k ec none 0 0 none 0 0 es [] [] wr HN.out HM.out HQ.out HN.out rfl rfl
      ((HX.out.below enSub_kept B4.out (nlr _)).mono enSub_rising B4.out.size) ((HX2.out.below noSub_kept B4.out (nlr _)).mono noSub_rising B4.out.size) ((HX3.out.below B4.out (nlr _)).mono B4.out.size)
      ((HX.out.below enSub_kept B4.out (nlr _)).mono enSub_rising B4.out.size) (Or.inl rfl) (Or.inl rfl) (Or.inl rfl) (Or.inr rfl) (Or.inr rfl) (fun x hx=>enSmall_of (HF.out x hx)) l1 l2 l3 g (by simpa using HGI.out)).mono ?_
     rintro e wz ⟨rfl,bz⟩
     clear hrl hrx
     go_wp2_with fail
     go_ret
     exact ⟨rfl,B4.out.trans (bz.mono B4.out.size)⟩
 by_cases hk4:kd=4
 ·
  subst hk4
  have d6:w2.cell? ⟨qb,6,none⟩=some (.bool false):=cob hqk 6
  have f6:w2.frozen? ⟨qb,6,none⟩=false:=ufb hqk 6
  have d4:w2.cell? ⟨qb,4,none⟩=some (.int .i64 0):=cob hqk 4
  have f4:w2.frozen? ⟨qb,4,none⟩=false:=ufb hqk 4
  have d8:w2.cell? ⟨qb,8,none⟩=some (.int .i64 0):=cob hqk 8
  have f8:w2.frozen? ⟨qb,8,none⟩=false:=ufb hqk 8
  clear hqk
  go_upto_region 37 with fail
  have hq3:((((w2).setCell ⟨qb,6,none⟩ (.bool ob)).setCell ⟨qb,4,none⟩ (.int .i64 ix)).setCell ⟨qb,8,none⟩ (.int .i64 rn)).heap[qb]?=some (.cells #[.int .u8 4,.int .i64 fr,.int .i64 tt,.int .i64 tm,.int .i64 ix,.int .i64 0,.bool ob,.int .i64 0,.int .i64 rn,.slice none 0 0,.slice none 0 0,.slice none 0 0] 27 (0,0)):=(blk_to (blk_to (blk_to Q2.out (.bool ob) rfl) (.int .i64 ix) rfl) (.int .i64 rn) rfl)
  have ho:=(((Only.set qb (w2) 6 (.bool ob))).trans (Only.set qb ((w2).setCell ⟨qb,6,none⟩ (.bool ob)) 4 (.int .i64 ix))).trans (Only.set qb (((w2).setCell ⟨qb,6,none⟩ (.bool ob)).setCell ⟨qb,4,none⟩ (.int .i64 ix)) 8 (.int .i64 rn))
  have hk3:=(ho.2 w.heap.size (by omega) (by omega)).trans K2.out
  have hb3:=HB2.out.trans (ho.toBelow HB2.out.size (by omega))
  have hz3:=ho.1
  generalize (((w2).setCell ⟨qb,6,none⟩ (.bool ob)).setCell ⟨qb,4,none⟩ (.int .i64 ix)).setCell ⟨qb,8,none⟩ (.int .i64 rn)=w3 at hq3 ho hk3 hb3 hz3 ⊢
  have K3:=Hd hk3
  have Q3:=Hd hq3
  have B3:=Hd hb3
  clear hk3 hb3 ho c0 c1 c2 c3 c4 c5 c6 c7 c8 c9 c10 c11 d6 f6 d4 f4 d8 f8 K2 Q2 HB2
  clear hq3
  have hrl:=rng_block K3.out
  have hrx:=rng_block Q3.out
  have hgi:g=true ↔ ((4=4∧fr=fr∧tt=tt∧tm=tm∧ix=ix∧ws=0∧ob=ob∧cm=0∧rn=rn)∧n=0∧m=0∧q=0):=(by
     rw [← HG.out,right_4 HRG.out HNU.out rfl]
     simp [HN.out,HM.out,HQ.out,and_assoc])
  have HGI:=Hd hgi
  clear hgi
  go_wp2_with (first | (refine wpList_load_want (by rfl) 27 (.tmp 1) rfl w.heap.size 0 rfl _ _ hrl Tryz.underlying27 rfl info_lt ?_) | (refine wpList_load_want (by rfl) 27 (.tmp 3) rfl qb 0 rfl _ _ hrx Tryz.underlying27 rfl info_lt ?_))
  refine (sameL_or _ fr tt tm ix ws ob cm rn ea n ec va m vc ia q ic es vs im _ fr tt tm ix 0 ob 0 rn none 0 0 none 0 0 none 0 0 [] [] [] w3 HN.out HM.out HQ.out rfl rfl rfl
   ((HX.out.below enSub_kept B3.out (nlr _)).mono enSub_rising B3.out.size) ((HX2.out.below noSub_kept B3.out (nlr _)).mono noSub_rising B3.out.size) ((HX3.out.below B3.out (nlr _)).mono B3.out.size)
   (Or.inl rfl) (Or.inl rfl) (Or.inl rfl) (Or.inr rfl) (Or.inr rfl) (Or.inr rfl) (fun x hx=>enSmall_of (HF.out x hx)) l1 l2 l3 g (by simpa using HGI.out)).mono ?_
  rintro e wz ⟨rfl,bz⟩
  clear hrl hrx
  go_wp2_with fail
  go_ret
  exact ⟨rfl,B3.out.trans (bz.mono B3.out.size)⟩
 by_cases hk5:kd=5
 ·
  subst hk5
  have d4:w2.cell? ⟨qb,4,none⟩=some (.int .i64 0):=cob hqk 4
  have f4:w2.frozen? ⟨qb,4,none⟩=false:=ufb hqk 4
  have d5:w2.cell? ⟨qb,5,none⟩=some (.int .i64 0):=cob hqk 5
  have f5:w2.frozen? ⟨qb,5,none⟩=false:=ufb hqk 5
  have d8:w2.cell? ⟨qb,8,none⟩=some (.int .i64 0):=cob hqk 8
  have f8:w2.frozen? ⟨qb,8,none⟩=false:=ufb hqk 8
  have d10:w2.cell? ⟨qb,10,none⟩=some (.slice none 0 0):=cob hqk 10
  have f10:w2.frozen? ⟨qb,10,none⟩=false:=ufb hqk 10
  have d11:w2.cell? ⟨qb,11,none⟩=some (.slice none 0 0):=cob hqk 11
  have f11:w2.frozen? ⟨qb,11,none⟩=false:=ufb hqk 11
  clear hqk
  go_upto_region 33 with fail
  have hq3:((((((w2).setCell ⟨qb,4,none⟩ (.int .i64 ix)).setCell ⟨qb,5,none⟩ (.int .i64 ws)).setCell ⟨qb,8,none⟩ (.int .i64 rn)).setCell ⟨qb,10,none⟩ (.slice va m vc)).setCell ⟨qb,11,none⟩ (.slice ia q ic)).heap[qb]?=some (.cells #[.int .u8 5,.int .i64 fr,.int .i64 tt,.int .i64 tm,.int .i64 ix,.int .i64 ws,.bool false,.int .i64 0,.int .i64 rn,.slice none 0 0,.slice va m vc,.slice ia q ic] 27 (0,0)):=(blk_to (blk_to (blk_to (blk_to (blk_to Q2.out (.int .i64 ix) rfl) (.int .i64 ws) rfl) (.int .i64 rn) rfl) (.slice va m vc) rfl) (.slice ia q ic) rfl)
  have ho:=(((((Only.set qb (w2) 4 (.int .i64 ix))).trans (Only.set qb ((w2).setCell ⟨qb,4,none⟩ (.int .i64 ix)) 5 (.int .i64 ws))).trans (Only.set qb (((w2).setCell ⟨qb,4,none⟩ (.int .i64 ix)).setCell ⟨qb,5,none⟩ (.int .i64 ws)) 8 (.int .i64 rn))).trans (Only.set qb ((((w2).setCell ⟨qb,4,none⟩ (.int .i64 ix)).setCell ⟨qb,5,none⟩ (.int .i64 ws)).setCell ⟨qb,8,none⟩ (.int .i64 rn)) 10 (.slice va m vc))).trans (Only.set qb (((((w2).setCell ⟨qb,4,none⟩ (.int .i64 ix)).setCell ⟨qb,5,none⟩ (.int .i64 ws)).setCell ⟨qb,8,none⟩ (.int .i64 rn)).setCell ⟨qb,10,none⟩ (.slice va m vc)) 11 (.slice ia q ic))
  have hk3:=(ho.2 w.heap.size (by omega) (by omega)).trans K2.out
  have hb3:=HB2.out.trans (ho.toBelow HB2.out.size (by omega))
  have hz3:=ho.1
  generalize (((((w2).setCell ⟨qb,4,none⟩ (.int .i64 ix)).setCell ⟨qb,5,none⟩ (.int .i64 ws)).setCell ⟨qb,8,none⟩ (.int .i64 rn)).setCell ⟨qb,10,none⟩ (.slice va m vc)).setCell ⟨qb,11,none⟩ (.slice ia q ic)=w3 at hq3 ho hk3 hb3 hz3 ⊢
  have K3:=Hd hk3
  have Q3:=Hd hq3
  have B3:=Hd hb3
  clear hk3 hb3 ho c0 c1 c2 c3 c4 c5 c6 c7 c8 c9 c10 c11 d4 f4 d5 f5 d8 f8 d10 f10 d11 f11 K2 Q2 HB2
  clear hq3
  have c10:w3.cell? ⟨w.heap.size,10,none⟩=some (.slice va m vc):=cob K3.out 10
  by_cases hm0:m=0
  ·
   have hvs:vs=[]:=List.eq_nil_of_length_eq_zero (by rw [HM.out];exact hm0)
   have i0:(m:Int)=0:=by omega
   have HVS:=Hd hvs
   clear hvs
   subst hm0
   go_upto_region 37 with fail
   clear c10
   have hrl:=rng_block K3.out
   have hrx:=rng_block Q3.out
   have hgi:g=true ↔ ((5=5∧fr=fr∧tt=tt∧tm=tm∧ix=ix∧ws=ws∧ob=false∧cm=0∧rn=rn)∧n=0∧0=0∧q=q):=(by
      rw [← HG.out,right_5 HRG.out HNU.out rfl]
      simp [HN.out,HM.out,HQ.out,HVS.out,and_assoc])
   have HGI:=Hd hgi
   clear hgi
   go_wp2_with (first | (refine wpList_load_want (by rfl) 27 (.tmp 1) rfl w.heap.size 0 rfl _ _ hrl Tryz.underlying27 rfl info_lt ?_) | (refine wpList_load_want (by rfl) 27 (.tmp 3) rfl qb 0 rfl _ _ hrx Tryz.underlying27 rfl info_lt ?_))
   refine (sameL_or _ fr tt tm ix ws ob cm rn ea n ec va 0 vc ia q ic es vs im _ fr tt tm ix ws false 0 rn none 0 0 va 0 vc ia q ic [] vs im w3 HN.out HM.out HQ.out rfl HM.out HQ.out
    ((HX.out.below enSub_kept B3.out (nlr _)).mono enSub_rising B3.out.size) ((HX2.out.below noSub_kept B3.out (nlr _)).mono noSub_rising B3.out.size) ((HX3.out.below B3.out (nlr _)).mono B3.out.size)
    (Or.inl rfl) ((HX2.out.below noSub_kept B3.out (nlr _)).mono noSub_rising B3.out.size) ((HX3.out.below B3.out (nlr _)).mono B3.out.size) (Or.inr rfl) (Or.inl rfl) (Or.inl rfl) (fun x hx=>enSmall_of (HF.out x hx)) l1 l2 l3 g (by simpa using HGI.out)).mono ?_
   rintro e wz ⟨rfl,bz⟩
   clear hrl hrx
   go_wp2_with fail
   go_ret
   exact ⟨rfl,B3.out.trans (bz.mono B3.out.size)⟩
  ·
   have i0:¬ (m:Int)=0:=by omega
   obtain ⟨gv,hgv⟩:∃ gg,votersB vs=gg:=⟨_,rfl⟩
   have HGV:=Hd hgv
   clear hgv
   go_wp2_with fail
   refine (rvoters_any va m vc vs w3 w.heap.size HM.out (HX2.out.below noSub_kept B3.out (nlr _)) (by omega) gv HGV.out).mono ?_
   rintro e wx ⟨rfl,rfl⟩
   clear c10
   cases gv with
   | false =>
    have hg2:g=false:=by
     rw [← HG.out]
     refine no_of (right_5 HRG.out HNU.out rfl) (fun h=>?_)
     rcases h.1 with h | h
     · exact hm0 (by rw [← HM.out];exact h)
     · dsimp only at h;rw [HGV.out] at h;cases h
    have HG2:=Hd hg2
    clear hg2
    go_wp2_with fail
    go_ret
    exact ⟨ret_bool HG2.out.symm,B3.out⟩
   | true =>
    have hrl:=rng_block K3.out
    have hrx:=rng_block Q3.out
    have hgi:g=true ↔ ((5=5∧fr=fr∧tt=tt∧tm=tm∧ix=ix∧ws=ws∧ob=false∧cm=0∧rn=rn)∧n=0∧m=m∧q=q):=(by
        rw [← HG.out,right_5 HRG.out HNU.out rfl]
        simp [HN.out,HM.out,HQ.out,HGV.out,and_assoc])
    have HGI:=Hd hgi
    clear hgi
    go_wp2_with (first | (refine wpList_load_want (by rfl) 27 (.tmp 1) rfl w.heap.size 0 rfl _ _ hrl Tryz.underlying27 rfl info_lt ?_) | (refine wpList_load_want (by rfl) 27 (.tmp 3) rfl qb 0 rfl _ _ hrx Tryz.underlying27 rfl info_lt ?_))
    refine (sameL_or _ fr tt tm ix ws ob cm rn ea n ec va m vc ia q ic es vs im _ fr tt tm ix ws false 0 rn none 0 0 va m vc ia q ic [] vs im w3 HN.out HM.out HQ.out rfl HM.out HQ.out
     ((HX.out.below enSub_kept B3.out (nlr _)).mono enSub_rising B3.out.size) ((HX2.out.below noSub_kept B3.out (nlr _)).mono noSub_rising B3.out.size) ((HX3.out.below B3.out (nlr _)).mono B3.out.size)
     (Or.inl rfl) ((HX2.out.below noSub_kept B3.out (nlr _)).mono noSub_rising B3.out.size) ((HX3.out.below B3.out (nlr _)).mono B3.out.size) (Or.inr rfl) (Or.inl rfl) (Or.inl rfl) (fun x hx=>enSmall_of (HF.out x hx)) l1 l2 l3 g (by simpa using HGI.out)).mono ?_
    rintro e wz ⟨rfl,bz⟩
    clear hrl hrx
    go_wp2_with fail
    go_ret
    exact ⟨rfl,B3.out.trans (bz.mono B3.out.size)⟩
 by_cases hk6:kd=6
 ·
  subst hk6
  have d4:w2.cell? ⟨qb,4,none⟩=some (.int .i64 0):=cob hqk 4
  have f4:w2.frozen? ⟨qb,4,none⟩=false:=ufb hqk 4
  have d8:w2.cell? ⟨qb,8,none⟩=some (.int .i64 0):=cob hqk 8
  have f8:w2.frozen? ⟨qb,8,none⟩=false:=ufb hqk 8
  clear hqk
  go_upto_region 37 with fail
  have hq3:(((w2).setCell ⟨qb,4,none⟩ (.int .i64 ix)).setCell ⟨qb,8,none⟩ (.int .i64 rn)).heap[qb]?=some (.cells #[.int .u8 6,.int .i64 fr,.int .i64 tt,.int .i64 tm,.int .i64 ix,.int .i64 0,.bool false,.int .i64 0,.int .i64 rn,.slice none 0 0,.slice none 0 0,.slice none 0 0] 27 (0,0)):=(blk_to (blk_to Q2.out (.int .i64 ix) rfl) (.int .i64 rn) rfl)
  have ho:=((Only.set qb (w2) 4 (.int .i64 ix))).trans (Only.set qb ((w2).setCell ⟨qb,4,none⟩ (.int .i64 ix)) 8 (.int .i64 rn))
  have hk3:=(ho.2 w.heap.size (by omega) (by omega)).trans K2.out
  have hb3:=HB2.out.trans (ho.toBelow HB2.out.size (by omega))
  have hz3:=ho.1
  generalize ((w2).setCell ⟨qb,4,none⟩ (.int .i64 ix)).setCell ⟨qb,8,none⟩ (.int .i64 rn)=w3 at hq3 ho hk3 hb3 hz3 ⊢
  have K3:=Hd hk3
  have Q3:=Hd hq3
  have B3:=Hd hb3
  clear hk3 hb3 ho c0 c1 c2 c3 c4 c5 c6 c7 c8 c9 c10 c11 d4 f4 d8 f8 K2 Q2 HB2
  clear hq3
  have hrl:=rng_block K3.out
  have hrx:=rng_block Q3.out
  have hgi:g=true ↔ ((6=6∧fr=fr∧tt=tt∧tm=tm∧ix=ix∧ws=0∧ob=false∧cm=0∧rn=rn)∧n=0∧m=0∧q=0):=(by
     rw [← HG.out,right_6 HRG.out HNU.out rfl]
     simp [HN.out,HM.out,HQ.out,and_assoc])
  have HGI:=Hd hgi
  clear hgi
  go_wp2_with (first | (refine wpList_load_want (by rfl) 27 (.tmp 1) rfl w.heap.size 0 rfl _ _ hrl Tryz.underlying27 rfl info_lt ?_) | (refine wpList_load_want (by rfl) 27 (.tmp 3) rfl qb 0 rfl _ _ hrx Tryz.underlying27 rfl info_lt ?_))
  refine (sameL_or _ fr tt tm ix ws ob cm rn ea n ec va m vc ia q ic es vs im _ fr tt tm ix 0 false 0 rn none 0 0 none 0 0 none 0 0 [] [] [] w3 HN.out HM.out HQ.out rfl rfl rfl
   ((HX.out.below enSub_kept B3.out (nlr _)).mono enSub_rising B3.out.size) ((HX2.out.below noSub_kept B3.out (nlr _)).mono noSub_rising B3.out.size) ((HX3.out.below B3.out (nlr _)).mono B3.out.size)
   (Or.inl rfl) (Or.inl rfl) (Or.inl rfl) (Or.inr rfl) (Or.inr rfl) (Or.inr rfl) (fun x hx=>enSmall_of (HF.out x hx)) l1 l2 l3 g (by simpa using HGI.out)).mono ?_
  rintro e wz ⟨rfl,bz⟩
  clear hrl hrx
  go_wp2_with fail
  go_ret
  exact ⟨rfl,B3.out.trans (bz.mono B3.out.size)⟩
 have hg2:g=false:=by rw [← HG.out];exact right_none ⟨hk1,hk2,hk3,hk4,hk5,hk6⟩
 have HG2:=Hd hg2
 have n1:(kd == 1)=false:=beq_eq_false_iff_ne.2 hk1
 have n2:(kd == 2)=false:=beq_eq_false_iff_ne.2 hk2
 have n3:(kd == 3)=false:=beq_eq_false_iff_ne.2 hk3
 have n4:(kd == 4)=false:=beq_eq_false_iff_ne.2 hk4
 have n5:(kd == 5)=false:=beq_eq_false_iff_ne.2 hk5
 have n6:(kd == 6)=false:=beq_eq_false_iff_ne.2 hk6
 clear hg2 hqk
 go_wp2_with fail
 go_ret
 exact ⟨ret_bool HG2.out.symm,HB2.out⟩
end Go.Proofs.YtglgcjkglhlggaaGreatDoor
