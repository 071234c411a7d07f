/- A right letter's bytes are read as it, and with bytes behind them not at all. No program. Conditions: as each says. -/
import Derived.Test.YtglgcjkglhlggaaGreatDoorGLetterGets0
import Derived.Test.YtglgcjkglhlggaaGreatDoorGLetterGets3
import Derived.Test.YtglgcjkglhlggaaGreatDoorGLetterGets1
set_option linter.unusedVariables false
set_option linter.unusedSimpArgs false
namespace Go.Proofs.YtglgcjkglhlggaaGreatDoor
open Go.RowKit
set_option maxRecDepth 20000
theorem wrap_N64 (x:Int):N64 (IntKind.i64.wrap x):=by
 unfold N64 IntKind.wrap
 simp [IntKind.signed,IntKind.bits]
 omega
theorem textS_told {b:Bool}{l:List Int}(hw:BytesWf l)(h:(textS b l).2.1=false):(textS b l).1.size≤65536:=by
 have h2:=countS_wf (bad:=b) hw
 unfold textS at h ⊢
 dsimp only at h ⊢
 rw [strN_size]
 have h3:=takeS_there _ _ _ h2.2.2.1 h
 rw [h3.2.2.1]
 omega
theorem valueS_told {b:Bool}{l:List Int}(hw:BytesWf l)(h:(valueS b l).2.1=false):Bare (valueS b l).1∧VaFit (valueS b l).1:=by
 have hk:=takeS_shrinks 1 b l hw
 unfold valueS at h ⊢
 dsimp only at h ⊢
 split
 ·
  rename_i h1
  rw [if_pos h1] at h
  dsimp only at h
  dsimp only
  rw [h,if_neg (by simp)]
  exact ⟨Or.inl ⟨rfl,rfl⟩,wrap_N64 _,(Nat.zero_le 65536:ByteArray.empty.size≤65536)⟩
 ·
  rename_i h1
  rw [if_neg h1] at h
  split
  ·
   rename_i h2
   rw [if_pos h2] at h
   dsimp only at h
   dsimp only
   have ht:=textS_told hk.1 h
   rw [h,if_neg (by simp)]
   exact ⟨Or.inr ⟨rfl,rfl⟩,(show N64 0 from ⟨by decide,by decide⟩),ht⟩
  ·
   rename_i h2
   rw [if_neg h2] at h
   cases h
theorem rowV_told:∀ (n:Nat) (b:Bool) (l:List Int),BytesWf l→(rowS valueS n b l).2.1=false→∀ v ∈ (rowS valueS n b l).1,Bare v∧VaFit v:=by
 intro n
 induction n with
 | zero=>intro b l _ _ v hv;cases hv
 | succ n ih =>
  intro b l hw h v hv
  have hs:=valueS_shrinks b l hw
  unfold rowS at h hv
  split at h
  ·
   rename_i hb
   rw [if_pos hb] at hv
   cases hv
  ·
   rename_i hb
   rw [if_neg hb] at hv
   dsimp only at h hv
   have hb2:(valueS b l).2.1=false:=(rowS_there valueS_there n _ _ hs.1 h).1
   rcases List.mem_cons.1 hv with rfl | hv
   · exact valueS_told hw hb2
   · exact ih _ _ hs.1 h v hv
theorem takeS_badS (n:Nat)(l:List Int):(takeS n true l).2.1=true:=by simp [takeS]
theorem numS_bad (l:List Int):(numS true l).2.1=true:=takeS_badS 8 l
theorem countS_bad (l:List Int):(countS true l).2.1=true∧(countS true l).1=0:=by
 unfold countS
 rw [if_pos (Or.inl (takeS_badS 4 l))]
 exact ⟨rfl,rfl⟩
theorem rowsS_bad {α:Type}(one:Bool→List Int→α × Bool × List Int)(l:List Int):(rowsS one true l).2.1=true:=by
 unfold rowsS
 dsimp only
 rw [(countS_bad l).1,rowS_bad]
theorem over_bad {α:Type}(one:Bool→List Int→α × Bool × List Int)(n:Nat)(rest:List Int)(h:65536<n)(h2:n<4294967296):(rowsS one false (numB 4 n ++ rest)).2.1=true:=by
 unfold rowsS
 dsimp only
 have e:countS false (numB 4 n ++ rest)=(0,true,rest):=by
  unfold countS
  rw [takeS_back 4 _ _ (numB_len 4 n)]
  dsimp only
  rw [getN_numB]
  have e1:(256:Int) ^ 4=4294967296:=by decide
  have e:(n:Int) % 256 ^ 4=n:=by rw [e1];omega
  rw [e,if_pos (by right;omega)]
 rw [e]
 rfl
theorem text_bad (s:ByteArray)(rest:List Int)(h:65536<s.size)(h2:s.size<4294967296):(textS false (textB s ++ rest)).2.1=true:=by
 unfold textS textB
 rw [List.append_assoc]
 have e:countS false (numB 4 s.size ++ (strB s ++ rest))=(0,true,strB s ++ rest):=by
  unfold countS
  rw [takeS_back 4 _ _ (numB_len 4 s.size)]
  dsimp only
  rw [getN_numB]
  have e1:(256:Int) ^ 4=4294967296:=by decide
  have e:(s.size:Int) % 256 ^ 4=s.size:=by rw [e1];omega
  rw [e,if_pos (by right;omega)]
 rw [e]
 rfl
/-- A command whose bytes say all of it. -/
theorem whole_fit {c:CmP}(hn:N64 c.num)(ht:c.text.size<4294967296)(ha:c.args.length<4294967296)(hw:BytesWf (valuesB c.args))(h:wholeC c=true):CmFit c:=by
 unfold wholeC at h
 simp only [Bool.and_eq_true,Bool.not_eq_true',decide_eq_true_eq] at h
 obtain ⟨⟨h1,h2⟩,h3,h4⟩:=h
 unfold commandS commandB at h1 h4
 dsimp only at h1 h4
 rw [kindS_back] at h1 h4
 dsimp only at h1 h4
 rcases Nat.lt_or_ge 65536 c.text.size with hb | hb
 ·
  exfalso
  have e:=text_bad c.text (numB 8 c.num ++ valuesB c.args) hb ht
  rw [e] at h1
  rw [numS_bad] at h1
  unfold valuesS at h1
  rw [rowsS_bad] at h1
  cases h1
 rw [textS_back _ _ hb] at h1 h4
 dsimp only at h1 h4
 rw [numS_back _ _ hn] at h1 h4
 dsimp only at h1 h4
 rw [h1,if_neg (by simp)] at h4
 dsimp only at h4
 refine ⟨hb,hn,?_,?_⟩
 ·
  rcases Nat.lt_or_ge 65536 c.args.length with hc | hc
  ·
   exfalso
   have e:=over_bad valueS c.args.length (c.args.flatMap valueB) hc ha
   unfold valuesS valuesB at h1
   rw [e] at h1
   cases h1
  · exact hc
 ·
  have hc:=countS_wf (bad:=false) hw
  have key:=rowV_told (countS false (valuesB c.args)).1.toNat (countS false (valuesB c.args)).2.1 _ hc.2.2.1
  have h5:(rowS valueS (countS false (valuesB c.args)).1.toNat (countS false (valuesB c.args)).2.1 (countS false (valuesB c.args)).2.2).2.1=false:=h1
  have h6:(valuesS false (valuesB c.args)).1=(rowS valueS (countS false (valuesB c.args)).1.toNat (countS false (valuesB c.args)).2.1 (countS false (valuesB c.args)).2.2).1:=by
   show (if _ then _ else _)=_
   rw [h5,if_neg (by simp)]
  rw [h6] at h4
  rw [h4]
  exact key h5
theorem within_N64 {n:Int}(h:withinN n=true):N64 n:=by
 have:=withinN_iff.1 h
 unfold N64
 omega
/-- An entry's numbers and lengths are some. -/
structure EnOk (e:EnP):Prop where
 session:N64 e.session
 seq:N64 e.seq
 num:N64 e.num
 text:e.text.size<4294967296
 args:e.args.length<4294967296
 wf:BytesWf (valuesB e.args)
theorem bare_fit {e:EnP}(h:bareE e=true):N64 e.session∧N64 e.seq∧CmFit ⟨e.ck,e.text,e.args,e.num⟩:=by
 unfold bareE plainC at h
 simp only [EnP.cm,Bool.and_eq_true,decide_eq_true_eq] at h
 obtain ⟨h1,h2,h3,h4,h5,h6⟩:=h
 have h4:=of_decide_eq_true h4
 have h5:=of_decide_eq_true h5
 have h7:e.args=[]:=List.length_eq_zero_iff.1 (of_decide_eq_true h6)
 refine ⟨by rw [h1];exact ⟨by decide,by decide⟩,by rw [h2];exact ⟨by decide,by decide⟩,?_,?_,?_⟩
 ·
  show e.text.size≤65536
  rw [h4]
  exact Nat.zero_le _
 ·
  show N64 e.num
  rw [h5]
  exact ⟨by decide,by decide⟩
 ·
  show VasFit e.args
  rw [h7]
  exact ⟨Nat.zero_le _,fun v hv=>by cases hv⟩
theorem right_fit {e:EnP}(h:entryR e=true)(ho:EnOk e):EnFit e:=by
 unfold entryR at h
 split at h
 · cases h
 rename_i h1
 have h1:withinN e.term=true:=by simpa using h1
 split at h
 ·
  simp only [Bool.and_eq_true,decide_eq_true_eq] at h
  have hv:e.vs=[]:=List.length_eq_zero_iff.1 h.2
  obtain ⟨b1,b2,b3⟩:=bare_fit h.1
  exact ⟨within_N64 h1,b1,b2,b3,by rw [hv];exact Nat.zero_le _,by rw [hv];exact fun v hv=>by cases hv⟩
 ·
  split at h
  ·
   simp only [Bool.and_eq_true,decide_eq_true_eq] at h
   have hv:e.vs=[]:=List.length_eq_zero_iff.1 h.2.2.1
   exact ⟨within_N64 h1,ho.session,ho.seq,whole_fit (c:=e.cm) ho.num ho.text ho.args ho.wf h.2.2.2,by rw [hv];exact Nat.zero_le _,by rw [hv];exact fun v hv=>by cases hv⟩
  ·
   simp only [Bool.and_eq_true,decide_eq_true_eq] at h
   obtain ⟨b1,b2,b3⟩:=bare_fit h.2.1
   obtain ⟨c1,c2,c3⟩:=votersB_in h.2.2
   exact ⟨within_N64 h1,b1,b2,b3,by omega,fun v hv=>by have:=c1 v hv;unfold N64;omega⟩
theorem readEs_back:∀ (es:List EnP) (rest:List Int),(∀ e ∈ es,EnFit e)→readEs es.length (es.flatMap entryB ++ rest)=some (es,rest):=by
 intro es
 induction es with
 | nil=>intro rest _;rfl
 | cons e es ih =>
  intro rest h
  rw [List.length_cons,List.flatMap_cons,List.append_assoc]
  unfold readEs
  rw [entryS_back e _ (h e (by simp))]
  dsimp only
  rw [if_neg (by simp),List.drop_left,ih rest (fun x hx=>h x (List.mem_cons_of_mem _ hx))]
theorem cut_at {α:Type}(a b:List α)(k:Nat)(h:a.length=k):(a ++ b).take k=a∧(a ++ b).drop k=b:=by
 subst h
 exact ⟨List.take_left ..,List.drop_left ..⟩
theorem cntS_back (n:Nat)(rest:List Int)(h:n<4294967296):cntS (numB 4 n ++ rest)=((n:Int),decide ((n:Int)≤(rest.length:Int)),rest):=by
 have h4:(numB 4 (n:Int)).length=4:=numB_len 4 n
 obtain ⟨e1,e2⟩:=cut_at (numB 4 (n:Int)) rest 4 h4
 unfold cntS
 rw [if_neg (by rw [List.length_append,h4];omega),e1,e2,getN_numB]
 have e3:(256:Int) ^ 4=4294967296:=by decide
 have e:(n:Int) % 256 ^ 4=n:=by rw [e3];omega
 rw [e]
/-- A letter's numbers and lengths are some. -/
structure LtOk (l:LtP):Prop where
 es:∀ e ∈ l.es,EnOk e
 im:l.im.length<4294967296
theorem right_nums {l:LtP}(h:rightL l=true):(1≤l.fr∧l.fr≤9)∧(1≤l.tov∧l.tov≤9)∧N64 l.term∧N64 l.was∧N64 l.index∧N64 l.commit∧N64 l.round∧(∀ e ∈ l.es,entryR e=true)∧l.es.length≤16∧(∀ v ∈ l.vs,1≤v∧v≤9)∧l.vs.length≤7:=by
 unfold rightL at h
 split at h
 · cases h
 rename_i h1
 split at h
 · cases h
 rename_i h2
 have h2:=eq_true_of_ne_false h2
 simp only [List.all_cons,List.all_nil,Bool.and_eq_true,Bool.or_eq_true,decide_eq_true_eq,entriesR,List.all_eq_true] at h2
 obtain ⟨⟨a1,a2,a3,a4,a5,_⟩,⟨b1,b2⟩,b3⟩:=h2
 refine ⟨by omega,by omega,within_N64 a1,within_N64 a2,within_N64 a3,within_N64 a4,within_N64 a5,b1,b2,?_,?_⟩
 ·
  rcases b3 with h | h
  ·
   rw [List.length_eq_zero_iff.1 h]
   intro v hv;cases hv
  · exact (votersB_in h).1
 ·
  rcases b3 with h | h
  · omega
  · exact (votersB_in h).2.2
/-- What stands ahead of a letter's entries. -/
def headL (l:LtP):List Int:=[l.kind,l.fr,l.tov] ++ ((numB 8 l.term ++ (numB 8 l.index ++ numB 8 l.was)) ++ ((if l.ok=true then 1 else 0) :: (numB 8 l.commit ++ numB 8 l.round)))
theorem headL_len (l:LtP):(headL l).length=44:=by simp [headL,numB_len]
theorem bytesL_head (l:LtP):bytesL l=headL l ++ (numB 4 l.es.length ++ (l.es.flatMap entryB ++ (numB 4 l.vs.length ++ (l.vs ++ (numB 4 l.im.length ++ l.im))))):=by
 simp [bytesL,headL]
theorem readL_back {l:LtP}(hr:rightL l=true)(ho:LtOk l)(more:List Int)(hm:more.length<4294967296):readL (bytesL l ++ more)=if more=[] then some l else none:=by
 obtain ⟨n1,n2,n3,n4,n5,n6,n7,n8,n9,n10,n11⟩:=right_nums hr
 obtain ⟨R,hR⟩:∃ R,numB 4 l.es.length ++ (l.es.flatMap entryB ++ (numB 4 l.vs.length ++ (l.vs ++ (numB 4 l.im.length ++ (l.im ++ more)))))=R:=⟨_,rfl⟩
 have hb:bytesL l ++ more=headL l ++ R:=by rw [bytesL_head,← hR];simp
 have hl:=headL_len l
 obtain ⟨t44,d44⟩:=cut_at (headL l) R 44 hl
 have e1:((headL l ++ R).drop 3).take 24=numB 8 l.term ++ (numB 8 l.index ++ numB 8 l.was):=by
  simp only [headL,List.cons_append,List.nil_append,List.drop_succ_cons,List.drop_zero,List.append_assoc]
  have:=(cut_at (numB 8 l.term ++ (numB 8 l.index ++ numB 8 l.was)) ((if l.ok=true then 1 else 0) :: (numB 8 l.commit ++ (numB 8 l.round ++ R))) 24 (by simp [numB_len])).1
  simpa using this
 have e2:(headL l).drop 28=numB 8 l.commit ++ numB 8 l.round:=by
  have h27:([l.kind,l.fr,l.tov] ++ ((numB 8 l.term ++ (numB 8 l.index ++ numB 8 l.was)) ++ [if l.ok=true then 1 else 0])).length=28:=by simp [numB_len]
  have hh:headL l=([l.kind,l.fr,l.tov] ++ ((numB 8 l.term ++ (numB 8 l.index ++ numB 8 l.was)) ++ [if l.ok=true then 1 else 0])) ++ (numB 8 l.commit ++ numB 8 l.round):=by simp [headL]
  rw [hh]
  exact (cut_at _ _ 28 h27).2
 have e3:(headL l ++ R).getD 27 0=if l.ok=true then 1 else 0:=by
  have h27:([l.kind,l.fr,l.tov] ++ (numB 8 l.term ++ (numB 8 l.index ++ numB 8 l.was))).length=27:=by simp [numB_len]
  have hh:headL l ++ R=([l.kind,l.fr,l.tov] ++ (numB 8 l.term ++ (numB 8 l.index ++ numB 8 l.was))) ++ ((if l.ok=true then 1 else 0) :: ((numB 8 l.commit ++ numB 8 l.round) ++ R)):=by simp [headL]
  rw [hh,List.getD_eq_getElem?_getD,List.getElem?_append_right (by omega),h27]
  rfl
 unfold readL
 rw [hb,if_neg (by rw [List.length_append,hl];omega),t44,d44,e1,e2,e3]
 dsimp only
 rw [numS_back _ _ n3]
 dsimp only
 rw [numS_back _ _ n5]
 dsimp only
 have a1:=numS_back l.was [] n4
 rw [List.append_nil] at a1
 rw [a1]
 dsimp only
 rw [numS_back _ _ n6]
 dsimp only
 have a2:=numS_back l.round [] n7
 rw [List.append_nil] at a2
 rw [a2,← hR]
 rw [cntS_back _ _ (by omega)]
 dsimp only
 have hlen:l.es.length≤(l.es.flatMap entryB).length:=by
  have:∀ es:List EnP,es.length≤(es.flatMap entryB).length:=by
   intro es
   induction es with
   | nil=>exact nlr _
   | cons e es ih =>
    rw [List.flatMap_cons,List.length_append,List.length_cons]
    have:1≤(entryB e).length:=by simp [entryB];omega
    omega
  exact this _
 rw [if_neg (by rw [decide_eq_true (by rw [List.length_append];omega)];simp;omega),Int.toNat_natCast,readEs_back _ _ (fun e he=>right_fit (n8 e he) (ho.es e he))]
 dsimp only
 rw [cntS_back _ _ (by omega)]
 dsimp only
 rw [if_neg (by simp;omega),Int.toNat_natCast,List.drop_left,List.take_left]
 rw [cntS_back _ _ ho.im]
 dsimp only
 by_cases hmore:more=[]
 ·
  subst hmore
  rw [if_neg (by simp),if_pos rfl]
  obtain ⟨k,f,t,tm,ix,ws,ok,cm,rd,es,vs,im⟩:=l
  cases ok <;> simp [headL]
 ·
  have:0<more.length:=List.length_pos_iff.2 hmore
  rw [if_pos (by right;simp;omega),if_neg hmore]
theorem wf_mid {a b:List Int}(h:BytesWf (a ++ b)):BytesWf a∧BytesWf b:=⟨fun x hx=>h x (List.mem_append_left _ hx),fun x hx=>h x (List.mem_append_right _ hx)⟩
theorem entry_ok {b:Bool}{l:List Int}(hw:BytesWf l)(h:(entryS b l).2.1=false):EnOk (entryS b l).1:=by
 have hth:=entryS_there b l hw h
 have hwe:BytesWf (entryB (entryS b l).1):=by
  have:=hth.2.1
  rw [this] at hw
  exact (wf_mid hw).1
 have wv:BytesWf (valuesB (entryS b l).1.args):=by
  generalize (entryS b l).1=e at hwe
  unfold entryB commandB at hwe
  have q1:=(wf_mid hwe).2
  have q2:BytesWf (numB 8 e.session ++ (numB 8 e.seq ++ ((e.ck :: (textB e.text ++ (numB 8 e.num ++ valuesB e.args))) ++ (numB 4 e.vs.length ++ e.vs.flatMap (numB 8))))):=fun x hx=>q1 x (List.mem_cons_of_mem _ hx)
  have q4:=(wf_mid (wf_mid (wf_mid q2).2).2).1
  have q5:BytesWf (textB e.text ++ (numB 8 e.num ++ valuesB e.args)):=fun x hx=>q4 x (List.mem_cons_of_mem _ hx)
  exact (wf_mid (wf_mid q5).2).2
 obtain ⟨t,ht⟩:∃ t,numS b l=t:=⟨_,rfl⟩
 obtain ⟨k,hk⟩:∃ k,kindS t.2.1 t.2.2=k:=⟨_,rfl⟩
 obtain ⟨s,hs⟩:∃ s,numS k.2.1 k.2.2=s:=⟨_,rfl⟩
 obtain ⟨q,hq⟩:∃ q,numS s.2.1 s.2.2=q:=⟨_,rfl⟩
 obtain ⟨c,hc⟩:∃ c,commandS q.2.1 q.2.2=c:=⟨_,rfl⟩
 obtain ⟨v,hv⟩:∃ v,intsS c.2.1 c.2.2=v:=⟨_,rfl⟩
 have he:entryS b l=(if v.2.1=true then ⟨0,0,0,0,0,ByteArray.empty,[],0,[]⟩ else ⟨t.1,k.1,s.1,q.1,c.1.kind,c.1.text,c.1.args,c.1.num,v.1⟩,v.2):=by subst hv hc hq hs hk ht;rfl
 have w1:=numS_shrinks b l hw
 rw [ht] at w1
 have w2:=kindS_shrinks t.2.1 _ w1.1
 rw [hk] at w2
 have w3:=numS_shrinks k.2.1 _ w2.1
 rw [hs] at w3
 have w4:=numS_shrinks s.2.1 _ w3.1
 rw [hq] at w4
 have w5:=commandS_shrinks q.2.1 _ w4.1
 rw [hc] at w5
 rw [he] at h wv ⊢
 dsimp only at h wv ⊢
 have hcb:c.2.1=false:=by
  have:=intsS_there c.2.1 _ w5.1 (by rw [hv];exact h)
  exact this.1
 rw [h,if_neg (by simp)] at wv ⊢
 dsimp only at wv
 obtain ⟨k',hk'⟩:∃ k',kindS q.2.1 q.2.2=k':=⟨_,rfl⟩
 obtain ⟨t',ht'⟩:∃ t',textS k'.2.1 k'.2.2=t':=⟨_,rfl⟩
 obtain ⟨n',hn'⟩:∃ n',numS t'.2.1 t'.2.2=n':=⟨_,rfl⟩
 obtain ⟨v',hv'⟩:∃ v',valuesS n'.2.1 n'.2.2=v':=⟨_,rfl⟩
 have he':c=(if v'.2.1=true then ⟨0,ByteArray.empty,[],0⟩ else ⟨k'.1,t'.1,v'.1,n'.1⟩,v'.2):=by subst hv' hn' ht' hk' hc;rfl
 have k1:=kindS_shrinks q.2.1 _ w4.1
 rw [hk'] at k1
 have k2:=textS_shrinks k'.2.1 _ k1.1
 rw [ht'] at k2
 have k3:=numS_shrinks t'.2.1 _ k2.1
 rw [hn'] at k3
 rw [he'] at hcb wv ⊢
 dsimp only at hcb wv ⊢
 have c3:n'.2.1=false:=(valuesS_there n'.2.1 _ k3.1 (by rw [hv'];exact hcb)).1
 have c2:t'.2.1=false:=(numS_there t'.2.1 _ k2.1 (by rw [hn'];exact c3)).1
 rw [hcb,if_neg (by simp)] at wv ⊢
 have e1:N64 s.1:=by rw [← hs];exact wrap_N64 _
 have e2:N64 q.1:=by rw [← hq];exact wrap_N64 _
 have e3:N64 n'.1:=by rw [← hn'];exact wrap_N64 _
 have e4:t'.1.size≤65536:=by rw [← ht'];exact textS_told k1.1 (by rw [ht'];exact c2)
 have e5:v'.1.length≤65536:=by rw [← hv'];exact rowsS_len valueS n'.2.1 n'.2.2 k3.1
 exact ⟨e1,e2,e3,Nat.lt_of_le_of_lt e4 (by decide),Nat.lt_of_le_of_lt e5 (by decide),wv⟩
theorem readEs_ok:∀ (n:Nat) (r:List Int) (es:List EnP) (r':List Int),BytesWf r→readEs n r=some (es,r')→(∀ e ∈ es,EnOk e)∧es.length=n∧BytesWf r'∧r=es.flatMap entryB ++ r':=by
 intro n
 induction n with
 | zero =>
  intro r es r' hw h
  simp only [readEs,Option.some.injEq,Prod.mk.injEq] at h
  obtain ⟨rfl,rfl⟩:=h
  exact ⟨(fun e he=>by cases he),rfl,hw,rfl⟩
 | succ n ih =>
  intro r es r' hw h
  have hth:=entryS_there false r hw
  have hok:=entry_ok (b:=false) hw
  unfold readEs at h
  generalize entryS false r=x at h hth hok
  obtain ⟨e,xb,xr⟩:=x
  dsimp only at h hth hok
  cases xb with
  | true=>rw [if_pos rfl] at h;cases h
  | false =>
   rw [if_neg (by simp)] at h
   obtain ⟨_,h2,h3⟩:=hth rfl
   have hr:r.drop (entryB e).length=xr:=by
    rw [h2]
    exact (cut_at _ _ _ rfl).2
   rw [hr] at h
   rcases hq:readEs n xr with _ | ⟨l,r2⟩
   ·
    rw [hq] at h
    cases h
   ·
    rw [hq] at h
    simp only [Option.some.injEq,Prod.mk.injEq] at h
    obtain ⟨rfl,rfl⟩:=h
    obtain ⟨i1,i2,i3,i4⟩:=ih _ _ _ h3 hq
    refine ⟨fun e' he=>?_,by rw [List.length_cons,i2],i3,?_⟩
    ·
     rcases List.mem_cons.1 he with rfl | he
     · exact hok rfl
     · exact i1 e' he
    ·
     rw [List.flatMap_cons,List.append_assoc,← i4]
     exact h2
theorem cntS_wf {r:List Int}(h:BytesWf r):BytesWf (cntS r).2.2∧0≤(cntS r).1∧(cntS r).1<4294967296∧(cntS r).2.2.length≤r.length:=by
 unfold cntS
 split
 · exact ⟨h,Int.le_refl 0,(by decide:(0:Int)<4294967296),nlr _⟩
 ·
  have h4:=getN_small (h.take 4) (by rw [List.length_take];omega:(r.take 4).length≤4)
  refine ⟨h.drop 4,h4.1,h4.2,by simp⟩
theorem readL_ok {b:List Int}{l:LtP}(hw:BytesWf b)(hl:b.length<4294967296)(h:readL b=some l):LtOk l:=by
 unfold readL at h
 split at h
 · cases h
 dsimp only at h
 split at h
 · cases h
 split at h
 · cases h
 rename_i es r hes
 split at h
 · cases h
 split at h
 · cases h
 simp only [Option.some.injEq] at h
 subst h
 have c1:=cntS_wf (hw.drop 44)
 obtain ⟨i1,i2,i3,i4⟩:=readEs_ok _ _ _ _ c1.1 hes
 refine ⟨i1,?_⟩
 have c2:=cntS_wf i3
 have c3:=cntS_wf (c2.1.drop (cntS r).1.toNat)
 have hrl:r.length≤b.length:=by
  have e1:(cntS (b.drop 44)).2.2.length=(es.flatMap entryB ++ r).length:=by rw [← i4]
  rw [List.length_append] at e1
  have:=c1.2.2.2
  rw [List.length_drop] at this
  omega
 have:=c3.2.2.2
 have h5:=c2.2.2.2
 rw [List.length_drop] at this
 dsimp only
 omega
theorem putL2_err (l:LtP):(putL2 l).2=0→rightL l=true∧(bytesL l).length≤1048576∧(putL2 l).1=bytesL l:=by
 unfold putL2
 split
 · intro h;cases h
 ·
  rename_i hr
  split
  · intro h;cases h
  ·
   rename_i hb
   intro _
   exact ⟨eq_true_of_ne_false hr,Nat.le_of_not_lt hb,rfl⟩
theorem getL_back {l:LtP}(hr:rightL l=true)(ho:LtOk l)(hl:(bytesL l).length≤1048576):getL (bytesL l)=(l,0):=by
 have h1:=readL_back hr ho [] (by decide)
 rw [if_pos rfl,List.append_nil] at h1
 have hp:putL2 l=(bytesL l,0):=by
  unfold putL2
  rw [if_neg (by rw [hr];simp),if_neg (by omega)]
 unfold getL
 rw [if_neg (by omega),h1]
 dsimp only
 rw [hp,if_pos ⟨rfl,rfl⟩]
end Go.Proofs.YtglgcjkglhlggaaGreatDoor
/- log.copied: entries in memory of their own. Conditions: the entries' cells lie as their readings say. -/
namespace Go.Proofs.YtglgcjkglhlggaaGreatDoor
open Go.RowKit
set_option maxRecDepth 20000
def argV (e:En):Value:=.slice e.aao e.args.length e.acap
def votV (e:En):Value:=.slice e.vao e.vs.length e.vcap
/-- An entry's lists are the call's own. -/
def enOwn (w:World) (base:Nat) (e:En):Prop :=
 w.ownsRow base 58 3 (argV e) e.args.length (e.args.flatMap vaCells)∧w.ownsRow base 3 1 (votV e) e.vs.length (e.vs.flatMap iCells)
def sepE (e f:En):Prop:=((argV e).ownBlock=none∨(argV e).ownBlock ≠ (argV f).ownBlock)∧((votV e).ownBlock=none∨(votV e).ownBlock ≠ (votV f).ownBlock)
/-- A row of entries of the call's own, their lists, too, each in a block of its own. -/
structure EnsOwn (w:World) (base:Nat) (v:Value) (es:List En):Prop where
 row:w.ownsRow base 55 9 v es.length (es.flatMap enCells)
 own:∀ e ∈ es,enOwn w base e
 sep:es.Pairwise sepE
theorem enOwn.below {w w':World}{base B:Nat}{e:En}(h:enOwn w base e)(hb:Below B w w')(hB:w.heap.size≤B):enOwn w' base e:=⟨own_below h.1 hb hB,own_below h.2 hb hB⟩
theorem enOwn.le {w:World}{base base':Nat}{e:En}(h:enOwn w base e)(hB:base'≤base):enOwn w base' e:=⟨Go.Joins.ownsRow_le h.1 hB,Go.Joins.ownsRow_le h.2 hB⟩
theorem EnsOwn.below {w w':World}{base B:Nat}{v:Value}{es:List En}(h:EnsOwn w base v es)(hb:Below B w w')(hB:w.heap.size≤B):EnsOwn w' base v es :=
 ⟨own_below h.row hb hB,fun e he=>(h.own e he).below hb hB,h.sep⟩
theorem EnsOwn.le {w:World}{base base':Nat}{v:Value}{es:List En}(h:EnsOwn w base v es)(hB:base'≤base):EnsOwn w base' v es:=⟨Go.Joins.ownsRow_le h.row hB,fun e he=>(h.own e he).le hB,h.sep⟩
theorem EnsOwn.nil (w:World)(base:Nat):EnsOwn w base (.slice none 0 0) []:=⟨World.ownsRow_nil _ _ _ _,by simp,List.Pairwise.nil⟩
/-- A row of the call's own, as it lies. -/
theorem own_rowsIn {α:Type}{k:Nat}{cells:α→List Value}{sub:World→Nat→α→Prop}(hk:∀ x,(cells x).length=k){w:World}{base e n c:Nat}{ao:Option Addr}{xs:List α}(hn:xs.length=n)(h:w.ownsRow base e k (.slice ao n c) n (xs.flatMap cells))(hs:∀ x ∈ xs,sub w w.heap.size x):RowsIn k cells sub w w.heap.size ao xs:=by
 subst hn
 obtain ⟨a',c',hv,hin,_⟩:=own_rows hk rfl h hs (nlr _)
 cases hv
 exact hin
theorem enOwn.sub {w:World}{base:Nat}{e:En}(h:enOwn w base e):enSub w w.heap.size e :=
 ⟨own_rowsIn vaCells_len rfl h.1 (fun _ _=>trivial),own_rowsIn iCells_len rfl h.2 (fun _ _=>trivial)⟩
end Go.Proofs.YtglgcjkglhlggaaGreatDoor
/- Entries among the arguments, with the bounds of what hangs on them. Conditions: they are read as the row reads them, their weights are bounded. -/
namespace Go.Proofs.YtglgcjkglhlggaaGreatDoor
open Go.RowKit Go.ChangeShapes
set_option maxRecDepth 20000
/-- A value among the arguments. -/
def VaArg (v:Va):Prop:=(Lit.int .u8 v.kind).wf=true∧(Lit.int .i64 v.num).wf=true∧v.text.size≤reachBytes
/-- An entry among the arguments. -/
structure EnWf (e:En):Prop where
 term:(Lit.int .i64 e.term).wf=true
 kind:(Lit.int .u8 e.kind).wf=true
 session:(Lit.int .i64 e.session).wf=true
 seq:(Lit.int .i64 e.seq).wf=true
 ck:(Lit.int .u8 e.ck).wf=true
 text:e.text.size≤140737488351232
 args:∀ v ∈ e.args,VaArg v
 num:(Lit.int .i64 e.num).wf=true
 vs:∀ v ∈ e.vs,(Lit.int .i64 v).wf=true
 argn:e.args.length * 32≤140737488351232
 vn:e.vs.length * 8≤140737488351232
 anil:e.aao=none→e.acap=0
 vnil:e.vao=none→e.vcap=0
 acap:e.args.length≤e.acap
 vcap:e.vs.length≤e.vcap
end Go.Proofs.YtglgcjkglhlggaaGreatDoor
/- Fact, Command of wire: the bytes of a form. Conditions: what is written is not too long. -/
namespace Go.Proofs.YtglgcjkglhlggaaGreatDoor
open Go.RowKit
set_option maxRecDepth 20000
/-- A block that lay under the writer's. -/
theorem heap_alloc_keep {w:World}{g:Nat}{x:Obj}(h:w.heap[g]?=some x)(o:Obj):(w.alloc o).heap[g]?=some x :=
 ((World.grownBy_alloc w o none).block g (Array.getElem?_eq_some_iff.1 h).1 (by simp)).trans h
theorem commandB_len (ck:Int)(text:ByteArray)(num:Int)(args:List Va):(commandB ck text num args).length=13+text.size+(valuesB args).length:=by
 simp only [commandB,List.length_append,List.length_cons,numB_len,textB_len];omega
set_option maxHeartbeats 1000000 in
theorem wcommand_any (ck:Int)(text:ByteArray)(ao:Option Addr)(n cap:Nat)(num:Int)(args:List Va)(w:World)(hn:args.length=n)(hx:ValsIn w w.heap.size ao args)(htx:∀ v ∈ args,v.text.size≤1099511627776)(hnl:n≤1099511627776)(hlim:text.size+(valuesB args).length+40≤100000000000) :
  Calls Tryz.prog 188 #[.agg #[.int .u8 ck,.string text,.slice ao n cap,.int .i64 num]] w (BytesNew (commandB ck text num args) w.heap.size w):=by
 have hfl:=commandB_len ck text num args
 have H:=Hd (buf_new (w.alloc (.cells #[.int .u8 ck,.string text,.slice ao n cap,.int .i64 num] 53)))
 have hb:=((Below.refl w.heap.size w).alloc (nlr _) (.cells #[.int .u8 ck,.string text,.slice ao n cap,.int .i64 num] 53)).alloc (by simp) (.cells #[.slice none 0 0,.int .i64 0,.int .i8 0] 130)
 have HB:=Hd hb
 have hsz:(w.alloc (.cells #[.int .u8 ck,.string text,.slice ao n cap,.int .i64 num] 53)).heap.size=w.heap.size+1:=by simp
 rw [hsz] at H
 have HX:=Hd hx
 have HN:=Hd hn
 have HTX:=Hd htx
 have HFL:=Hd hfl
 clear hb hsz hx hn htx hfl
 go_enter Tryz.func188,Tryz.ntmps188
 go_wp2_with fail
 refine (command_any (w.heap.size+1) (w.heap.size+1) [] ck text ao n cap num args _ HN.out ((HX.out.below noSub_kept HB.out (nlr _)).mono noSub_rising (Nat.le_succ _)) HTX.out H.out (by simp) hnl (by simp;omega)).mono ?_
 rintro e w1 ⟨rfl,hw⟩
 rw [List.nil_append] at hw
 have HW:=Hd hw
 have hb1:=HB.out.trans (hw.2.1.mono (Nat.le_succ _))
 have hs1:w.heap.size+1≤w1.heap.size:=by have:=hw.2.1.size;simp at this;omega
 clear hw
 go_wp2_with fail
 refine (told_any (w.heap.size+1) (w.heap.size+1) _ w1 HW.out.1 hs1 (by have:=HFL.out;omega)).mono ?_
 rintro e w2 ⟨a,c,rfl,ho,hb2⟩
 have HO:=Hd (Go.Joins.ownsRow_le ho hb1.size)
 have hb3:=hb1.trans (hb2.mono hb1.size)
 clear ho hb1 hb2
 go_wp2_with fail
 go_ret
 exact ⟨a,c,rfl,HO.out,hb3⟩
end Go.Proofs.YtglgcjkglhlggaaGreatDoor
/- Entry of wire: the bytes of a form. Conditions: what is written is not too long. -/
namespace Go.Proofs.YtglgcjkglhlggaaGreatDoor
open Go.RowKit
set_option maxRecDepth 20000
set_option maxHeartbeats 2000000 in
theorem wentry_any (tm kd ss sq ck:Int)(text:ByteArray)(ao:Option Addr)(n cap:Nat)(args:List Va)(num:Int)(vo:Option Addr)(m vcap:Nat)(vs:List Int)(w:World)(hn:args.length=n)(hm:vs.length=m)(hx:ValsIn w w.heap.size ao args)(hs:NumsIn w w.heap.size vo vs)
  (htx:∀ v ∈ args,v.text.size≤1099511627776) (hnl:n≤1099511627776) (hml:m≤1000000000) (hlim:text.size+(valuesB args).length+100≤10000000000) :
  Calls Tryz.prog 38 #[.agg #[.int .i64 tm,.int .u8 kd,.int .i64 ss,.int .i64 sq,.int .u8 ck,.string text,.slice ao n cap,.int .i64 num,.slice vo m vcap]] w (BytesNew (entryB ⟨tm,kd,ss,sq,ck,text,args,num,vs⟩) w.heap.size w):=by
 have hst:=Wrote.start (buf_new (w.alloc (.cells #[.int .i64 tm,.int .u8 kd,.int .i64 ss,.int .i64 sq,.int .u8 ck,.string text,.slice ao n cap,.int .i64 num,.slice vo m vcap] 55)))
 have hb:=((Below.refl w.heap.size w).alloc (nlr _) (.cells #[.int .i64 tm,.int .u8 kd,.int .i64 ss,.int .i64 sq,.int .u8 ck,.string text,.slice ao n cap,.int .i64 num,.slice vo m vcap] 55)).alloc (by simp) (.cells #[.slice none 0 0,.int .i64 0,.int .i8 0] 130)
 have hk:=heap_alloc_keep (heap_alloc_new w (.cells #[.int .i64 tm,.int .u8 kd,.int .i64 ss,.int .i64 sq,.int .u8 ck,.string text,.slice ao n cap,.int .i64 num,.slice vo m vcap] 55)) (.cells #[.slice none 0 0,.int .i64 0,.int .i8 0] 130)
 have hsz:(w.alloc (.cells #[.int .i64 tm,.int .u8 kd,.int .i64 ss,.int .i64 sq,.int .u8 ck,.string text,.slice ao n cap,.int .i64 num,.slice vo m vcap] 55)).heap.size=w.heap.size+1:=by simp
 have hs0:((w.alloc (.cells #[.int .i64 tm,.int .u8 kd,.int .i64 ss,.int .i64 sq,.int .u8 ck,.string text,.slice ao n cap,.int .i64 num,.slice vo m vcap] 55)).alloc (.cells #[.slice none 0 0,.int .i64 0,.int .i8 0] 130)).heap.size=w.heap.size+2:=by simp
 rw [hsz] at hst
 have HX:=Hd hx
 have HS:=Hd hs
 have HN:=Hd hn
 have HM:=Hd hm
 have HTX:=Hd htx
 have HST:=Hd hst
 have HB:=Hd hb
 have HK:=Hd hk
 have HS0:=Hd hs0
 clear hst hb hk hsz hs0 hx hs hn hm htx
 go_enter Tryz.func38,Tryz.ntmps38
 go_wp2_with fail
 have hst:=HST.out
 have hb:=HB.out
 have hk:=HK.out
 have hs0:=HS0.out
 generalize ((w.alloc (.cells #[.int .i64 tm,.int .u8 kd,.int .i64 ss,.int .i64 sq,.int .u8 ck,.string text,.slice ao n cap,.int .i64 num,.slice vo m vcap] 55)).alloc (.cells #[.slice none 0 0,.int .i64 0,.int .i8 0] 130))=w0 at hst hb hk hs0 ⊢
 clear HST HB HK HS0
 have HX:=Hd ((HX.out.below noSub_kept hb (nlr _)).mono noSub_rising (Nat.le_succ _))
 have HS:=Hd ((HS.out.below noSub_kept hb (nlr _)).mono noSub_rising (Nat.le_succ _))
 have HK:=Hd hk
 have hB0:w.heap.size+1≤w0.heap.size:=by omega
 refine (put1_any (w.heap.size+1) (w.heap.size+1) 8 _ [] tm w0 (by simp [hs0]) (by omega) (by omega) hst.1 (by omega) (by simp)).mono ?_
 rintro e w1 ⟨rfl,hw⟩
 rw [List.nil_append] at hw
 have hk1:=hw.sits hk (by omega) (by decide)
 have d1:w1.cell? ⟨w.heap.size,1,none⟩=some (.int .u8 kd):=cob hk1 1
 have H1:=Hd hw
 have HK1:=Hd hk1
 clear hw hk1 hk hst
 go_wp2_with fail
 refine (writeByte_any (w.heap.size+1) (w.heap.size+1) _ kd w1 H1.out.1 (Nat.le_trans hB0 H1.out.2.1.size) (by simp only [numB_len];omega)).mono ?_
 rintro e w2 ⟨rfl,hw⟩
 have hk2:=hw.sits HK1.out (by omega) (by decide)
 have d2:w2.cell? ⟨w.heap.size,2,none⟩=some (.int .i64 ss):=cob hk2 2
 have d3:w2.cell? ⟨w.heap.size,3,none⟩=some (.int .i64 sq):=cob hk2 3
 have H2:=Hd (H1.out.trans hw)
 have HK2:=Hd hk2
 clear hw hk2 HK1 H1 d1
 go_wp2_with fail
 refine (put2_any (w.heap.size+1) (w.heap.size+1) 8 _ _ ss sq w2 rfl (by omega) (by omega) H2.out.1 (Nat.le_trans hB0 H2.out.2.1.size) (by simp only [List.length_append,List.length_singleton,numB_len];omega)).mono ?_
 rintro e w3 ⟨rfl,hw⟩
 have hk3:=hw.sits HK2.out (by omega) (by decide)
 have d4:w3.cell? ⟨w.heap.size,4,none⟩=some (.int .u8 ck):=cob hk3 4
 have d5:w3.cell? ⟨w.heap.size,4+1,none⟩=some (.string text):=cob hk3 5
 have d6:w3.cell? ⟨w.heap.size,4+2,none⟩=some (.slice ao n cap):=cob hk3 6
 have d7:w3.cell? ⟨w.heap.size,4+3,none⟩=some (.int .i64 num):=cob hk3 7
 have d5':w3.cell? ⟨w.heap.size,5,none⟩=some (.string text):=d5
 have d6':w3.cell? ⟨w.heap.size,6,none⟩=some (.slice ao n cap):=d6
 have d7':w3.cell? ⟨w.heap.size,7,none⟩=some (.int .i64 num):=d7
 have H3:=Hd (H2.out.trans hw)
 have HK3:=Hd hk3
 clear hw hk3 HK2 H2 d2 d3
 go_wp2_with fail
 refine (command_any (w.heap.size+1) (w.heap.size+1) _ ck text ao n cap num args w3 HN.out (HX.out.below noSub_kept H3.out.2.1 (nlr _)) HTX.out H3.out.1 (Nat.le_trans hB0 H3.out.2.1.size) hnl (by simp only [List.length_append,List.length_singleton,numB_len];omega)).mono ?_
 rintro e w4 ⟨rfl,hw⟩
 have hk4:=hw.sits HK3.out (by omega) (by decide)
 have d8:w4.cell? ⟨w.heap.size,8,none⟩=some (.slice vo m vcap):=cob hk4 8
 have H4:=Hd (H3.out.trans hw)
 have HK4:=Hd hk4
 clear hw hk4 HK3 H3 d4 d5 d6 d7 d5' d6' d7'
 go_wp2_with fail
 refine (count_any (w.heap.size+1) (w.heap.size+1) _ m w4 H4.out.1 (Nat.le_trans hB0 H4.out.2.1.size) (by simp only [List.length_append,List.length_singleton,numB_len,commandB_len];omega)).mono ?_
 rintro e w5 ⟨rfl,hw⟩
 have hk5:=hw.sits HK4.out (by omega) (by decide)
 have d8:w5.cell? ⟨w.heap.size,8,none⟩=some (.slice vo m vcap):=cob hk5 8
 have hw5:=H4.out.trans hw
 have hbs:numB 8 tm ++ [kd] ++ (numB 8 ss ++ numB 8 sq) ++ commandB ck text num args ++ numB 4 m=numB 8 tm ++ (kd :: (numB 8 ss ++ (numB 8 sq ++ (commandB ck text num args ++ numB 4 m)))):=by simp
 rw [hbs] at hw5
 obtain ⟨P,hP⟩:∃ P,numB 8 tm ++ (kd :: (numB 8 ss ++ (numB 8 sq ++ (commandB ck text num args ++ numB 4 m))))=P:=⟨_,rfl⟩
 have hpl:P.length=42+text.size+(valuesB args).length:=by rw [← hP];simp only [List.length_append,List.length_cons,numB_len,commandB_len];omega
 rw [hP] at hw5
 have H5:=Hd hw5
 have HP:=Hd hP
 clear hw hw5 hk5 HK4 H4 hbs hP HX HTX
 go_wp2_with fail
 go_loopw [30] (fun i wr=>∃ k:Nat,k≤m∧i=.int .i64 k∧Wrote (w.heap.size+1) (w.heap.size+1) (P ++ (vs.take k).flatMap (numB 8)) w0 wr) (fun i _=>m - (intOf i).toNat)
 case atStart=>exact ⟨0,by omega,rfl,by simpa using H5.out⟩
 case round =>
  clear H5 d8
  obtain ⟨k,hk,rfl,hw⟩:=hrel
  have HW:=Hd hw
  clear hw
  have hlk:((vs.take k).flatMap (numB 8)).length≤8000000000:=by
   rw [flatN_len,List.length_take]
   have:min k vs.length≤1000000000:=by omega
   omega
  by_cases hlt:k<m
  ·
   have hkx:vs[k]?=some (vs[k]'(by rw [HM.out];exact hlt)):=List.getElem?_eq_getElem _
   obtain ⟨rb,off,hao,hbb,hc,_⟩:=HS.out.at hkx
   have htk:(vs.take (k+1)).flatMap (numB 8)=(vs.take k).flatMap (numB 8) ++ numB 8 (vs[k]'(by rw [HM.out];exact hlt)):=by
    rw [List.take_succ_eq_append_getElem (by rw [HM.out];exact hlt),List.flatMap_append];simp
   generalize vs[k]'(by rw [HM.out];exact hlt)=x at hc htk hkx
   have hbel:=HW.out.2.1
   have c0:wr.cell? ⟨rb,off+k * 1,none⟩=some (.int .i64 x):=(hbel.cell (p:=⟨rb,_,none⟩) hbb).trans (hc 0 (by decide))
   have c0':wr.cell? ⟨rb,off+k,none⟩=some (.int .i64 x):=by simpa using c0
   have HT:=Hd htk
   have i1:(k:Int)<m:=by omega
   subst hao
   clear hc htk hkx hbel
   go_wp2_with fail
   refine (put1_any (w.heap.size+1) (w.heap.size+1) 8 _ _ x wr rfl (by omega) (by omega) HW.out.1 (Nat.le_trans hB0 HW.out.2.1.size) (by simp only [List.length_append];omega)).mono ?_
   rintro e w3 ⟨rfl,hw3⟩
   have hw4:=HW.out.trans hw3
   rw [List.append_assoc,← HT.out] at hw4
   have HW4:=Hd hw4
   clear hw3 hw4 c0 c0'
   go_wp2_with fail
   go_roundw
   case rel=>exact ⟨k+1,by omega,by go_num,HW4.out⟩
   case measure=>simp [intOf];omega
  ·
   obtain rfl:k=m:=by omega
   have hw5:=HW.out
   rw [List.take_of_length_le (l:=vs) (by rw [HM.out];exact nlr _)] at hw5
   have hlv:(vs.flatMap (numB 8)).length≤8000000000:=by rw [flatN_len,HM.out];omega
   have hbs:P ++ vs.flatMap (numB 8)=entryB ⟨tm,kd,ss,sq,ck,text,args,num,vs⟩:=by rw [← HP.out,← HM.out];simp [entryB]
   have hbl:(entryB ⟨tm,kd,ss,sq,ck,text,args,num,vs⟩).length≤30000000000:=by rw [← hbs,List.length_append];omega
   rw [hbs] at hw5
   have HW5:=Hd hw5
   have hb6:=hb.trans (hw5.2.1.mono (Nat.le_succ _))
   have hs6:w.heap.size+1≤wr.heap.size:=by have:=hw5.2.1.size;omega
   clear hw5 HW hbs
   go_wp2_with fail
   refine (told_any (w.heap.size+1) (w.heap.size+1) _ wr HW5.out.1 hs6 (by omega)).mono ?_
   rintro e w8 ⟨a,c,rfl,ho,hb2⟩
   have HO:=Hd (Go.Joins.ownsRow_le ho hb6.size)
   have hb9:=hb6.trans (hb2.mono hb6.size)
   clear ho hb2
   go_wp2_with fail
   go_ret
   exact ⟨a,c,rfl,HO.out,hb9⟩
end Go.Proofs.YtglgcjkglhlggaaGreatDoor
/- The reader of wire: Command. Conditions: the reader is one that was made. -/
namespace Go.Proofs.YtglgcjkglhlggaaGreatDoor
open Go.RowKit
set_option maxRecDepth 20000
set_option maxHeartbeats 1000000 in
theorem sureCommand_rd (M rb:Nat)(bad:Bool)(left:List Int)(x0:Int)(x1:ByteArray)(a2:Option Addr)(n2 c2:Nat)(x3:Int)(w:World)(h:Rdr w M rb bad left) :
  Calls Tryz.prog 212 #[.pointer (some ⟨rb,0,none⟩),.agg #[.int .u8 x0,.string x1,.slice a2 n2 c2,.int .i64 x3]] w fun e w'=>e=.returned (if bad=true then .agg #[.int .u8 0,.string ⟨#[]⟩,.slice none 0 0,.int .i64 0] else .agg #[.int .u8 x0,.string x1,.slice a2 n2 c2,.int .i64 x3])∧Below w.heap.size w w':=by
 obtain ⟨_,_,_,d1,_,_⟩:=h.cells
 have hlt:=h.lt
 have dA:∀ o1 o2 o3,(((w.alloc o1).alloc o2).alloc o3).cell? ⟨rb,1,none⟩=some (.bool bad):=fun o1 o2 o3=>by
  have hb:=(((Below.refl w.heap.size w).alloc (nlr _) o1).alloc (by simp) o2).alloc (by simp;omega) o3
  rw [hb.cell (p:=⟨rb,1,none⟩) hlt];exact d1
 clear h d1
 cases bad with
 | true =>
  go_enter Tryz.func212,Tryz.ntmps212
  go_wp2_with fail
  exact bodyPost_ret (v:=.agg #[.int .u8 0,.string ⟨#[]⟩,.slice none 0 0,.int .i64 0]) (by first | (simp [results,Tryz.results212,go_sem];done) | (simp [results,Tryz.results212,go_sem];rfl)) rfl ⟨rfl,(((Below.refl w.heap.size w).alloc (nlr _) _).alloc (by simp) _).alloc (by simp;omega) _⟩
 | false =>
  go_enter Tryz.func212,Tryz.ntmps212
  go_wp2_with fail
  exact bodyPost_ret (v:=.agg #[.int .u8 x0,.string x1,.slice a2 n2 c2,.int .i64 x3]) (by first | (simp [results,Tryz.results212,go_sem];done) | (simp [results,Tryz.results212,go_sem];rfl)) rfl ⟨rfl,(((Below.refl w.heap.size w).alloc (nlr _) _).alloc (by simp) _).alloc (by simp;omega) _⟩
/-- What a Command that is read is. -/
def GotCm (M rb:Nat) (r:CmP × Bool × List Int) (w:World) (e:Ending) (w':World):Prop :=
 ∃ f:Cm,f.plain=r.1∧e=.returned (cmVal f)∧(VasOwn w' w.heap.size f.ao f.args.length f.cap f.args)∧Rdr w' M rb r.2.1 r.2.2∧Only rb w w'
set_option maxHeartbeats 4000000 in
theorem rdCommand_any (M rb:Nat)(bad:Bool)(left:List Int)(r:CmP × Bool × List Int)(w:World)(hr:commandS bad left=r)(h:Rdr w M rb bad left)(hw:BytesWf left)(hl:left.length≤140737488351232) :
  Calls Tryz.prog 180 #[.pointer (some ⟨rb,0,none⟩)] w (GotCm M rb r w):=by
 have hrb:=h.lt
 have hM:M≤w.heap.size:=by obtain ⟨a,c,h⟩:=h;exact h.le
 have hmf:∀ (fn:Fn) (first cap:Array Value) (w:World),(Instr.makeFunc fn first cap).run Tryz.prog w=.ok (.func fn first cap) w:=fun _ _ _ _=>rfl
 obtain ⟨⟨x0,b_0,l_0⟩,h_0⟩:∃ r,kindS bad left=r:=⟨_,rfl⟩
 have q_0:=kindS_shrinks bad left hw
 rw [h_0] at q_0
 dsimp only at q_0
 obtain ⟨⟨x1,b_1,l_1⟩,h_1⟩:∃ r,textS b_0 l_0=r:=⟨_,rfl⟩
 have q_1:=textS_shrinks b_0 l_0 q_0.1
 rw [h_1] at q_1
 dsimp only at q_1
 obtain ⟨⟨x3,b_2,l_2⟩,h_2⟩:∃ r,numS b_1 l_1=r:=⟨_,rfl⟩
 have q_2:=numS_shrinks b_1 l_1 q_1.1
 rw [h_2] at q_2
 dsimp only at q_2
 obtain ⟨⟨x2,b_3,l_3⟩,h_3⟩:∃ r,valuesS b_2 l_2=r:=⟨_,rfl⟩
 have q_3:=valuesS_shrinks b_2 l_2 q_2.1
 rw [h_3] at q_3
 dsimp only at q_3
 have HS:=Hd (show (if b_3=true then ⟨0,ByteArray.empty,[],0⟩ else ⟨x0,x1,x2,x3⟩,b_3,l_3)=r by rw [← hr];unfold commandS;dsimp only;simp only [h_0,h_1,h_2,h_3])
 have HH0:=Hd h_0
 have HW0:=Hd q_0.1
 have LL0:l_0.length≤140737488351232:=Nat.le_trans q_0.2 hl
 have HH1:=Hd h_1
 have HW1:=Hd q_1.1
 have LL1:l_1.length≤140737488351232:=Nat.le_trans q_1.2 LL0
 have HH2:=Hd h_2
 have HW2:=Hd q_2.1
 have LL2:l_2.length≤140737488351232:=Nat.le_trans q_2.2 LL1
 have HH3:=Hd h_3
 have HW3:=Hd q_3.1
 have LL3:l_3.length≤140737488351232:=Nat.le_trans q_3.2 LL2
 clear hr h_0 q_0 h_1 q_1 h_2 q_2 h_3 q_3
 have hA:=(Below.refl w.heap.size w).alloc (nlr _) (.cells #[.int .u8 0,.string ⟨#[]⟩,.slice none 0 0,.int .i64 0] 53)
 have R0:=Hd (h.below hA)
 have O0:=Hd ((Only.refl rb w).alloc (.cells #[.int .u8 0,.string ⟨#[]⟩,.slice none 0 0,.int .i64 0] 53))
 have Z0:=Hd (heap_alloc_new w (.cells #[.int .u8 0,.string ⟨#[]⟩,.slice none 0 0,.int .i64 0] 53))
 have hz0:w.heap.size+1≤(w.alloc (.cells #[.int .u8 0,.string ⟨#[]⟩,.slice none 0 0,.int .i64 0] 53)).heap.size:=by simp
 clear h hA
 go_enter Tryz.func180,Tryz.ntmps180
 go_wp2_with fail
 generalize w.alloc (.cells #[.int .u8 0,.string ⟨#[]⟩,.slice none 0 0,.int .i64 0] 53)=w0 at R0 O0 Z0 hz0 ⊢
 refine (known_any M rb bad left w0 R0.out).mono ?_
 rintro e wk ⟨rfl,rfl⟩
 go_wp2_with fail
 refine (kind_at M rb bad left x0 b_0 l_0 w0 HH0.out R0.out hw hl).mono ?_
 rintro e w1 ⟨rfl,hr,ho⟩
 have R1:=Hd hr
 have O1:=Hd (O0.out.trans ho)
 have hs1:=ho.1
 have hz1:w.heap.size+1≤w1.heap.size:=Nat.le_trans hz0 hs1
 have Z1:=Hd ((ho.2 w.heap.size (by omega) (by omega)).trans Z0.out)
 clear hr ho R0 O0 Z0
 have hA:=(Below.refl w1.heap.size w1).alloc (nlr _) (.cells #[.int .u8 x0,.string ⟨#[]⟩,.slice none 0 0,.int .i64 0] 53)
 have R2:=Hd (R1.out.below hA)
 have O2:=Hd (O1.out.alloc (.cells #[.int .u8 x0,.string ⟨#[]⟩,.slice none 0 0,.int .i64 0] 53))
 have Z2:=Hd ((hA.block w.heap.size (by omega)).trans Z1.out)
 have G2:=Hd (heap_alloc_new w1 (.cells #[.int .u8 x0,.string ⟨#[]⟩,.slice none 0 0,.int .i64 0] 53))
 have hz2:w1.heap.size+1≤(w1.alloc (.cells #[.int .u8 x0,.string ⟨#[]⟩,.slice none 0 0,.int .i64 0] 53)).heap.size:=by simp
 clear hA R1 O1 Z1
 go_wp2_with fail
 generalize w1.alloc (.cells #[.int .u8 x0,.string ⟨#[]⟩,.slice none 0 0,.int .i64 0] 53)=w2 at R2 O2 Z2 G2 hz2 ⊢
 refine (text_at M rb b_0 l_0 x1 b_1 l_1 w2 HH1.out R2.out HW0.out LL0).mono ?_
 rintro e w3 ⟨rfl,hr,ho⟩
 have R3:=Hd hr
 have O3:=Hd (O2.out.trans ho)
 have hs3:=ho.1
 have hz3:w1.heap.size+1≤w3.heap.size:=Nat.le_trans hz2 hs3
 have Z3:=Hd ((ho.2 w.heap.size (by omega) (by omega)).trans Z2.out)
 have G3:=Hd ((ho.2 w1.heap.size (by omega) (by omega)).trans G2.out)
 clear hr ho R2 O2 Z2 G2
 go_wp2_with fail
 refine (whole_at M rb b_1 l_1 x3 b_2 l_2 w3 HH2.out R3.out HW1.out LL1).mono ?_
 rintro e w4 ⟨rfl,hr,ho⟩
 have R4:=Hd hr
 have O4:=Hd (O3.out.trans ho)
 have hs4:=ho.1
 have hz4:w1.heap.size+1≤w4.heap.size:=Nat.le_trans hz3 hs4
 have Z4:=Hd ((ho.2 w.heap.size (by omega) (by omega)).trans Z3.out)
 have G4:=Hd ((ho.2 w1.heap.size (by omega) (by omega)).trans G3.out)
 clear hr ho R3 O3 Z3 G3
 have f1:w4.frozen? ⟨w1.heap.size,1,none⟩=false:=ufb G4.out 1
 have f3:w4.frozen? ⟨w1.heap.size,3,none⟩=false:=ufb G4.out 3
 have e1:w4.cell? ⟨w1.heap.size,1,none⟩=some (.string ⟨#[]⟩):=cob G4.out 1
 have e3:w4.cell? ⟨w1.heap.size,3,none⟩=some (.int .i64 0):=cob G4.out 3
 go_wp2_with fail
 have q:((w4.setCell ⟨w1.heap.size,1,none⟩ (.string x1)).setCell ⟨w1.heap.size,3,none⟩ (.int .i64 x3)).heap[w1.heap.size]?=some (.cells #[.int .u8 x0,.string x1,.slice none 0 0,.int .i64 x3] 53 (0,0)):=(Go.Joins.block_setCell (i:=3) (Go.Joins.block_setCell (i:=1) G4.out (.string x1)) (.int .i64 x3))
 have r_:Rdr ((w4.setCell ⟨w1.heap.size,1,none⟩ (.string x1)).setCell ⟨w1.heap.size,3,none⟩ (.int .i64 x3)) M rb b_2 l_2:=((R4.out.other (g:=w1.heap.size) (i:=1) (by omega) (by omega) (.string x1)).other (g:=w1.heap.size) (i:=3) (by omega) (by omega) (.int .i64 x3))
 have o_:Only rb w ((w4.setCell ⟨w1.heap.size,1,none⟩ (.string x1)).setCell ⟨w1.heap.size,3,none⟩ (.int .i64 x3)):=((O4.out.new (g:=w1.heap.size) (i:=1) (by omega) (.string x1)).new (g:=w1.heap.size) (i:=3) (by omega) (.int .i64 x3))
 have z_:((w4.setCell ⟨w1.heap.size,1,none⟩ (.string x1)).setCell ⟨w1.heap.size,3,none⟩ (.int .i64 x3)).heap[w.heap.size]?=some (.cells #[.int .u8 0,.string ⟨#[]⟩,.slice none 0 0,.int .i64 0] 53 (0,0)):=((heap_setCell_other _ _ _ _ (show w.heap.size ≠ w1.heap.size by omega)).trans ((heap_setCell_other _ _ _ _ (show w.heap.size ≠ w1.heap.size by omega)).trans Z4.out))
 have hz_:w1.heap.size+1≤((w4.setCell ⟨w1.heap.size,1,none⟩ (.string x1)).setCell ⟨w1.heap.size,3,none⟩ (.int .i64 x3)).heap.size:=by simpa using hz4
 generalize ((w4.setCell ⟨w1.heap.size,1,none⟩ (.string x1)).setCell ⟨w1.heap.size,3,none⟩ (.int .i64 x3))=w5 at q r_ o_ z_ hz_  ⊢
 have G5:=Hd q
 have R5:=Hd r_
 have O5:=Hd o_
 have Z5:=Hd z_
 have hz5:w1.heap.size+1≤w5.heap.size:=hz_
 clear q r_ o_ z_ hz_  f1 f3 e1 e3 R4 O4 Z4 G4
 refine (values_at M rb b_2 l_2 x2 b_3 l_3 w5 HH3.out R5.out HW2.out LL2).mono ?_
 rintro e w6 ⟨a2,n2,c2,hn2,rfl,hown,hr,ho⟩
 have N2:=Hd hn2
 have W2_6:=Hd hown
 have hbase2:w1.heap.size+1≤w5.heap.size:=hz5
 clear hown hn2
 have R6:=Hd hr
 have O6:=Hd (O5.out.trans ho)
 have hs6:=ho.1
 have hz6:w1.heap.size+1≤w6.heap.size:=Nat.le_trans hz5 hs6
 have Z6:=Hd ((ho.2 w.heap.size (by omega) (by omega)).trans Z5.out)
 have G6:=Hd ((ho.2 w1.heap.size (by omega) (by omega)).trans G5.out)
 clear hr ho R5 O5 Z5 G5
 have f2:w6.frozen? ⟨w1.heap.size,2,none⟩=false:=ufb G6.out 2
 have e0:w6.cell? ⟨w1.heap.size,0,none⟩=some (.int .u8 x0):=cob G6.out 0
 have e1:w6.cell? ⟨w1.heap.size,1,none⟩=some (.string x1):=cob G6.out 1
 have e2:w6.cell? ⟨w1.heap.size,2,none⟩=some (.slice none 0 0):=cob G6.out 2
 have e3:w6.cell? ⟨w1.heap.size,3,none⟩=some (.int .i64 x3):=cob G6.out 3
 go_wp2_with fail
 have q:(w6.setCell ⟨w1.heap.size,2,none⟩ (.slice a2 n2 c2)).heap[w1.heap.size]?=some (.cells #[.int .u8 x0,.string x1,.slice a2 n2 c2,.int .i64 x3] 53 (0,0)):=(Go.Joins.block_setCell (i:=2) G6.out (.slice a2 n2 c2))
 have r_:Rdr (w6.setCell ⟨w1.heap.size,2,none⟩ (.slice a2 n2 c2)) M rb b_3 l_3:=(R6.out.other (g:=w1.heap.size) (i:=2) (by omega) (by omega) (.slice a2 n2 c2))
 have o_:Only rb w (w6.setCell ⟨w1.heap.size,2,none⟩ (.slice a2 n2 c2)):=(O6.out.new (g:=w1.heap.size) (i:=2) (by omega) (.slice a2 n2 c2))
 have z_:(w6.setCell ⟨w1.heap.size,2,none⟩ (.slice a2 n2 c2)).heap[w.heap.size]?=some (.cells #[.int .u8 0,.string ⟨#[]⟩,.slice none 0 0,.int .i64 0] 53 (0,0)):=((heap_setCell_other _ _ _ _ (show w.heap.size ≠ w1.heap.size by omega)).trans Z6.out)
 have v2_:=(W2_6.out.only (Only.set w1.heap.size _ 2 (.slice a2 n2 c2)) (by omega))
 have hz_:w1.heap.size+1≤(w6.setCell ⟨w1.heap.size,2,none⟩ (.slice a2 n2 c2)).heap.size:=by simpa using hz6
 generalize (w6.setCell ⟨w1.heap.size,2,none⟩ (.slice a2 n2 c2))=w7 at q r_ o_ z_ hz_ v2_ ⊢
 have G7:=Hd q
 have R7:=Hd r_
 have O7:=Hd o_
 have Z7:=Hd z_
 have hz7:w1.heap.size+1≤w7.heap.size:=hz_
 have W2_7:=Hd v2_
 clear q r_ o_ z_ hz_ v2_ f2 e0 e1 e2 e3 R6 O6 Z6 G6 W2_6
 refine (sureCommand_rd M rb b_3 l_3 x0 x1 a2 n2 c2 x3 w7 R7.out).mono ?_
 rintro e w8 ⟨he,hb⟩
 have R8:=Hd (R7.out.below hb)
 have O8:=Hd (O7.out.trans (Only.of_below hb))
 have Z8:=Hd ((hb.block w.heap.size (by omega)).trans Z7.out)
 have hz8:w1.heap.size+1≤w8.heap.size:=Nat.le_trans hz7 hb.size
 have W2_8:=Hd (W2_7.out.below hb (nlr _))
 clear hb R7 O7 Z7 G7 W2_7
 have z0:w8.cell? ⟨w.heap.size,0,none⟩=some (.int .u8 0):=cob Z8.out 0
 have g0:w8.frozen? ⟨w.heap.size,0,none⟩=false:=ufb Z8.out 0
 have z1:w8.cell? ⟨w.heap.size,1,none⟩=some (.string ⟨#[]⟩):=cob Z8.out 1
 have g1:w8.frozen? ⟨w.heap.size,1,none⟩=false:=ufb Z8.out 1
 have z2:w8.cell? ⟨w.heap.size,2,none⟩=some (.slice none 0 0):=cob Z8.out 2
 have g2:w8.frozen? ⟨w.heap.size,2,none⟩=false:=ufb Z8.out 2
 have z3:w8.cell? ⟨w.heap.size,3,none⟩=some (.int .i64 0):=cob Z8.out 3
 have g3:w8.frozen? ⟨w.heap.size,3,none⟩=false:=ufb Z8.out 3
 cases b_3 with
 | true =>
  rw [if_pos rfl] at he
  subst he
  go_wp2_with fail
  have q:((((w8.setCell ⟨w.heap.size,0,none⟩ (.int .u8 0)).setCell ⟨w.heap.size,1,none⟩ (.string ⟨#[]⟩)).setCell ⟨w.heap.size,2,none⟩ (.slice none 0 0)).setCell ⟨w.heap.size,3,none⟩ (.int .i64 0)).heap[w.heap.size]?=some (.cells #[.int .u8 0,.string ⟨#[]⟩,.slice none 0 0,.int .i64 0] 53 (0,0)):=(Go.Joins.block_setCell (i:=3) (Go.Joins.block_setCell (i:=2) (Go.Joins.block_setCell (i:=1) (Go.Joins.block_setCell (i:=0) Z8.out (.int .u8 0)) (.string ⟨#[]⟩)) (.slice none 0 0)) (.int .i64 0))
  have r_:Rdr ((((w8.setCell ⟨w.heap.size,0,none⟩ (.int .u8 0)).setCell ⟨w.heap.size,1,none⟩ (.string ⟨#[]⟩)).setCell ⟨w.heap.size,2,none⟩ (.slice none 0 0)).setCell ⟨w.heap.size,3,none⟩ (.int .i64 0)) M rb _ l_3:=((((R8.out.other (g:=w.heap.size) (i:=0) hM (by omega) (.int .u8 0)).other (g:=w.heap.size) (i:=1) hM (by omega) (.string ⟨#[]⟩)).other (g:=w.heap.size) (i:=2) hM (by omega) (.slice none 0 0)).other (g:=w.heap.size) (i:=3) hM (by omega) (.int .i64 0))
  have o_:Only rb w ((((w8.setCell ⟨w.heap.size,0,none⟩ (.int .u8 0)).setCell ⟨w.heap.size,1,none⟩ (.string ⟨#[]⟩)).setCell ⟨w.heap.size,2,none⟩ (.slice none 0 0)).setCell ⟨w.heap.size,3,none⟩ (.int .i64 0)):=((((O8.out.new (g:=w.heap.size) (i:=0) (nlr _) (.int .u8 0)).new (g:=w.heap.size) (i:=1) (nlr _) (.string ⟨#[]⟩)).new (g:=w.heap.size) (i:=2) (nlr _) (.slice none 0 0)).new (g:=w.heap.size) (i:=3) (nlr _) (.int .i64 0))
  have v2_:=((((W2_8.out.only (Only.set w.heap.size _ 0 (.int .u8 0)) (by omega)).only (Only.set w.heap.size _ 1 (.string ⟨#[]⟩)) (by omega)).only (Only.set w.heap.size _ 2 (.slice none 0 0)) (by omega)).only (Only.set w.heap.size _ 3 (.int .i64 0)) (by omega))
  generalize ((((w8.setCell ⟨w.heap.size,0,none⟩ (.int .u8 0)).setCell ⟨w.heap.size,1,none⟩ (.string ⟨#[]⟩)).setCell ⟨w.heap.size,2,none⟩ (.slice none 0 0)).setCell ⟨w.heap.size,3,none⟩ (.int .i64 0))=w9 at q r_ o_ v2_ ⊢
  have d0:w9.cell? ⟨w.heap.size,0,none⟩=some (.int .u8 0):=cob q 0
  have d1:w9.cell? ⟨w.heap.size,1,none⟩=some (.string ⟨#[]⟩):=cob q 1
  have d2:w9.cell? ⟨w.heap.size,2,none⟩=some (.slice none 0 0):=cob q 2
  have d3:w9.cell? ⟨w.heap.size,3,none⟩=some (.int .i64 0):=cob q 3
  have hS:=HS.out
  try simp only [if_true,if_false,Bool.false_eq_true,reduceIte] at hS
  subst hS
  exact bodyPost_ret (v:=.agg #[.int .u8 0,.string ⟨#[]⟩,.slice none 0 0,.int .i64 0]) (by simp [results,Tryz.results180,go_sem,d0,d1,d2,d3]) rfl ⟨⟨0,ByteArray.empty,none,[],0,0⟩,rfl,rfl,VasOwn.nil _ _,r_,o_⟩
 | false =>
  rw [if_neg (by simp)] at he
  subst he
  go_wp2_with fail
  have q:((((w8.setCell ⟨w.heap.size,0,none⟩ (.int .u8 x0)).setCell ⟨w.heap.size,1,none⟩ (.string x1)).setCell ⟨w.heap.size,2,none⟩ (.slice a2 n2 c2)).setCell ⟨w.heap.size,3,none⟩ (.int .i64 x3)).heap[w.heap.size]?=some (.cells #[.int .u8 x0,.string x1,.slice a2 n2 c2,.int .i64 x3] 53 (0,0)):=(Go.Joins.block_setCell (i:=3) (Go.Joins.block_setCell (i:=2) (Go.Joins.block_setCell (i:=1) (Go.Joins.block_setCell (i:=0) Z8.out (.int .u8 x0)) (.string x1)) (.slice a2 n2 c2)) (.int .i64 x3))
  have r_:Rdr ((((w8.setCell ⟨w.heap.size,0,none⟩ (.int .u8 x0)).setCell ⟨w.heap.size,1,none⟩ (.string x1)).setCell ⟨w.heap.size,2,none⟩ (.slice a2 n2 c2)).setCell ⟨w.heap.size,3,none⟩ (.int .i64 x3)) M rb _ l_3:=((((R8.out.other (g:=w.heap.size) (i:=0) hM (by omega) (.int .u8 x0)).other (g:=w.heap.size) (i:=1) hM (by omega) (.string x1)).other (g:=w.heap.size) (i:=2) hM (by omega) (.slice a2 n2 c2)).other (g:=w.heap.size) (i:=3) hM (by omega) (.int .i64 x3))
  have o_:Only rb w ((((w8.setCell ⟨w.heap.size,0,none⟩ (.int .u8 x0)).setCell ⟨w.heap.size,1,none⟩ (.string x1)).setCell ⟨w.heap.size,2,none⟩ (.slice a2 n2 c2)).setCell ⟨w.heap.size,3,none⟩ (.int .i64 x3)):=((((O8.out.new (g:=w.heap.size) (i:=0) (nlr _) (.int .u8 x0)).new (g:=w.heap.size) (i:=1) (nlr _) (.string x1)).new (g:=w.heap.size) (i:=2) (nlr _) (.slice a2 n2 c2)).new (g:=w.heap.size) (i:=3) (nlr _) (.int .i64 x3))
  have v2_:=((((W2_8.out.only (Only.set w.heap.size _ 0 (.int .u8 x0)) (by omega)).only (Only.set w.heap.size _ 1 (.string x1)) (by omega)).only (Only.set w.heap.size _ 2 (.slice a2 n2 c2)) (by omega)).only (Only.set w.heap.size _ 3 (.int .i64 x3)) (by omega))
  generalize ((((w8.setCell ⟨w.heap.size,0,none⟩ (.int .u8 x0)).setCell ⟨w.heap.size,1,none⟩ (.string x1)).setCell ⟨w.heap.size,2,none⟩ (.slice a2 n2 c2)).setCell ⟨w.heap.size,3,none⟩ (.int .i64 x3))=w9 at q r_ o_ v2_ ⊢
  have d0:w9.cell? ⟨w.heap.size,0,none⟩=some (.int .u8 x0):=cob q 0
  have d1:w9.cell? ⟨w.heap.size,1,none⟩=some (.string x1):=cob q 1
  have d2:w9.cell? ⟨w.heap.size,2,none⟩=some (.slice a2 n2 c2):=cob q 2
  have d3:w9.cell? ⟨w.heap.size,3,none⟩=some (.int .i64 x3):=cob q 3
  have hS:=HS.out
  try simp only [if_true,if_false,Bool.false_eq_true,reduceIte] at hS
  subst hS
  obtain rfl:=N2.out
  have v29:=v2_.le (base':=w.heap.size) (by omega)
  exact bodyPost_ret (v:=.agg #[.int .u8 x0,.string x1,.slice a2 x2.length c2,.int .i64 x3]) (by simp [results,Tryz.results180,go_sem,d0,d1,d2,d3]) rfl ⟨⟨x0,x1,a2,x2,c2,x3⟩,rfl,rfl,v29,r_,o_⟩
end Go.Proofs.YtglgcjkglhlggaaGreatDoor
