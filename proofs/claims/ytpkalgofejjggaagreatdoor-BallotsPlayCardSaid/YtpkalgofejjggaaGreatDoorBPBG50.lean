/- Book -/
import Derived.Test.YtpkalgofejjggaaGreatDoorBPBG37
set_option linter.unusedSimpArgs false
set_option linter.unusedVariables false
set_option maxHeartbeats 4000000
set_option maxRecDepth 40000
namespace Go.Proofs.YtpkalgofejjggaaGreatDoor
open Go.ChangeShapes Go.WideShapes Go.ChangeAt Go.RowKit Go.Proofs.Tryz
def qy(m:Nat):List Value:=jM 0 m 0 0 (List.replicate 32 0) 0 0
theorem info_v9:(prog.info? 71).map (fun i=>(i.zero,i.size,i.bytes))=some (some (.agg JY),44,120):=by kernel_rfl
theorem kG(m:Nat):∀u∈qy m,u.oneCell'=true:=yE _ _ _ _ _ _ _
theorem iH(w:World)(m:Nat)(hm:m<=100000000):Calls prog 140 #[.int .i64 m] w fun e w'=>e=.returned (.agg (qy m).toArray)/\Below w.heap.size w w':=by
 have e9:IntKind.u64.wrap (m:Int)=(m:Int):=by simp[IntKind.wrap,IntKind.bits,IntKind.signed];omega
 go_enter func140,ntmps140
 go_upto_region 0 with fail
 refine wp_region_lit ?_;refine qq (v:=.pointer (some ⟨w.heap.size,0,none⟩)) (w':=w.alloc (.cells JY 71)) rfl (by kernel_rfl) ?_;simp only[Act.put,pa,pb,pc]
 go_upto_region 1 with fail
 refine wp_region_lit ?_;refine jL (.int .i64 m) ?_;refine jL (.int .u64 m) ?_ (by simp[go_sem,e9]);refine jL (.agg (qy m).toArray) ?_;refine jW rfl _ _ _ rfl JY (qy m).toArray rfl rfl (by kernel_rfl) (by kernel_rfl) (all_oneCell_toArray (kG m)) ?_;simp only[Act.put,pa,pb,pc]
 go_wp2_with fail
 refine bodyPost_ret (v:=.agg (qy m).toArray) ?_ rfl ⟨rfl,ja⟩;have h9:=run_loadVar_mid (P:=prog) (w.alloc (.cells (qy m).toArray 71)) w.heap.size 0 71 (qy m) _ (JT _ _ _) underlying71 rfl qg
 simp[results,results140]
 simp only[asAddr,Sem.run_pure,Result.andThen_ok];exact h9
theorem oG(w:World)(m:Nat)(hm:m<=100000000):Calls prog 157 #[.agg (qy m).toArray,.int .i64 m] w fun e w'=>e=.returned (.bool true)/\Below w.heap.size w w':=by
 have e9:IntKind.u64.wrap (m:Int)=(m:Int):=by simp[IntKind.wrap,IntKind.bits,IntKind.signed];omega
 obtain⟨V,hV⟩:=je ((qy m).toArray);have N9:(prog.info? 71).map (·.size)=some V.size:=by rw[qg,hV];rfl
 have HV:=jh hV;rw[<-hV];clear hV
 go_enter func157,ntmps157
 go_upto_region 1 with fail
 have y1:(w.alloc (.cells V 71)).cell? ⟨w.heap.size,1,none⟩=some (.int .u64 m):=by rw[HV.out,cell_of_row _ _ _ _ _ _ jQ];rfl
 go_wp2_with fail
 go_ret
 exact⟨rfl,ja⟩
theorem yF:∀(l:List Value) (w:World) (g p:Nat),w.setCells g p l=putL w g p l
 |[],_,_,_=>rfl
 |_::l,_,g,p=>yF l _ g (p+1)
theorem EK{P:Program}{l:List Oper}{o:Oper}{a:Act}{w:World}{K:Act->World->Prop}{Q:Exit->Act->World->Prop}{X:Prop}(hw:Region.wanted o (yielded l.toArray a.tmps)=true)(ty:TypeId)(x y:Operand)(ho:o.op=.store ty x y)(g p:Nat)(vs:List Value)
  (hx:a.eval x=.pointer (some ⟨g,p,none⟩)) (hy:a.eval y=.agg vs.toArray) (ht:w.there g p vs.length) (hi:(P.info? ty).map (·.size)=some vs.length) (h1:∀v∈vs,v.oneCell'=true) (k:K (a.put o.dst undef) (putL w g p vs)):
  if Region.wanted o (yielded l.toArray a.tmps)=true then Oper.wp P o a w K Q else X:=by
 rw[if_pos hw];refine wp_store_mid ty x y ho g p vs.toArray hx hy (by simpa using ht) (by simpa using hi) (all_oneCell_toArray h1) ?_;rw[show vs.toArray.toList=vs by simp,yF];exact k
theorem JK(m:Nat):(qy m).length=44:=rfl
theorem yI{w:World}{b o:Nat}{v:Value}(h:w.cell? ⟨b,o,none⟩=some v):(Instr.loadAt 30 (.pointer (some ⟨b,o,none⟩))).run prog w=.ok v w:=by
 simp[go_sem,h]
theorem AY{w:World}{g p m:Nat}(h:∀q u,(qy m)[q]?=some u->w.cell? ⟨g,p+q,none⟩=some u):(Instr.loadAt 71 (.pointer (some ⟨g,p,none⟩))).run prog w=.ok (.agg (qy m).toArray) w:=
 run_loadAt_mid (P:=prog) w g p 71 (qy m) _ h underlying71 rfl qg
def MkAt(m:Nat)(w:World)(g p:Nat):Prop:=∀q u,(qy m)[q]?=some u->w.cell? ⟨g,p+q,none⟩=some u
theorem MkAt.later{m:Nat}{w w':World}{g p:Nat}(h:MkAt m w g p)(hb:Below w.heap.size w w'):MkAt m w' g p:=fun q u hu=>jj (h q u hu) hb
theorem infoHVote:(prog.info? 143).map (fun i=>(i.size,i.bytes))=some (3,56)/\((prog.info? 143).bind (·.zero)).map (fun z=>z.cells.size)=some 3:=⟨by kernel_rfl,by kernel_rfl⟩
theorem EJ:∃i z,prog.info? 143=some i/\i.zero=some z/\i.size=3/\i.bytes=56/\z.cells.size=3:=by
 obtain⟨h1,h2⟩:=infoHVote
 cases hq:prog.info? 143 with
 |none=>rw[hq] at h1;cases h1
 |some i=>
  rw[hq] at h1 h2;simp only[Option.map_some,Option.some.injEq,Prod.mk.injEq] at h1
  cases hz:i.zero with
  |none=>simp[hz] at h2
  |some z=>exact⟨i,z,rfl,hz,h1.1,h1.2,by simpa[hz] using h2⟩
theorem NR(w:World)(B base n k:Nat)(F L G:Nat->Value)(M:Nat->Nat)(a:Option Addr)(l c:Nat)(hb:WB w B n F)(ho:O1 w base 143 3 (F 12) k (hld M L G k))(hne:(F 12).ownBlock≠some B)(hk:k<=100000000)(hn:n<=100000000)(hB:base<=B)(hM:M k=n+1)(hL:L k=.slice a l c)(hG:G k=.slice none 0 0):
  Calls prog 45 #[.pointer (some ⟨B,0,none⟩),.slice a l c] w fun e w'=>e=.returned (.tuple #[])/\∃vb',WB w' B (n+1) (fun j=>if j=12 then vb' else F j)/\O1 w' base 143 3 vb' (k+1) (hld M L G (k+1))/\vb'.ownBlock≠some B/\
   Below base w w'/\(∀g,g<w.heap.size->g≠B->(F 12).ownBlock≠some g->w'.heap[g]?=w.heap[g]?/\vb'.ownBlock≠some g):=by
 obtain⟨i0,z0,hi,hz0,hz1,hz2,hz3⟩:=EJ;have HI:=jh hi;have hlt:=hb.lt;have hn0:(n:Int)<=100000000:=by omega
 have HB0:=jh hb;have HO:=jh ho;obtain⟨va,vn,vc,hvb⟩:=bk_sl ho;have hs:base<=w.heap.size:=by omega
 obtain⟨c0,c9,cf⟩:=hb;have c1:=c9 12 (by omega) (by omega);rw[hvb] at c1 HO hne⊢;have f0:=cf 0 (by omega);have f1:=cf 12 (by omega);clear cf hi ho c9
 go_enter func45,ntmps45
 go_wp2_with fail
 obtain⟨w1,e1⟩:=je (w.setCell ⟨B,0,none⟩ (.int .i64 ((n:Int)+1)));have hB1:WB w1 B (n+1) F:=by rw[e1];exact HB0.out.set0 (n+1)
 have hs1:w1.heap.size=w.heap.size:=by rw[e1];simp
 have hg1:w.grownBy w1 (some B):=by
  rw[e1];exact⟨rfl,rfl,rfl,by simp,fun g _ hg=>Qi w _ _ g (fun e=>hg (by rw[e]))⟩
 have hO1:O1 w1 base 143 3 (.slice va vn vc) k (hld M L G k):=O1.kept HO.out hg1 (.inr hne);have YA:=jh (fun(W:World) (h:Below w1.heap.size w1 W)=>O1.later hO1 h);have HBK:=jh (fun(W:World) (h:Below w1.heap.size w1 W)=>WB.kept hB1 (h.block B hB1.lt));have fF:=jh hne;have HG1:=jh hg1;have fA:=jh hs1;have HL:=jh hL;have GX:=jh hG;have HM:=jh hM;have HVB:=jh hvb;rw[<-e1];obtain⟨d0,d9,df⟩:=hB1;have d1:=d9 12 (by omega) (by omega);rw[hvb] at d1;have g0:=df 0 (by omega);have g1:=df 12 (by omega);have hlt1:B<w1.heap.size:=by omega
 have hbs1:base<=w1.heap.size:=by omega
 have yA:=jh (fun(w:World)=>src_three w a l c ((n:Int)+1) 143);have e9:((n+1:Nat):Int)=(n:Int)+1:=by omega
 rw[e9] at d0;clear c0 c1 f0 f1 e1 df d9 hO1 hg1 hs1 hL hG HB0 HO e9 hM hvb
 go_region_law (first
  |(refine JI rfl (.tmp 15) (.tmp 22) 56 rfl base 143 i0 z0 3 56 underlying56 HI.out hz0 hz1 hz2 hz3 (.slice va vn vc) k (hld M L G k) rfl (YA.out _ (U3.drew.alloc (Nat.le_refl _) _)) (.slice (some ⟨w1.heap.size,0,none⟩) 1 1) 1 [.slice a l c,.slice none 0 0,.int .i64 ((n:Int)+1)] rfl (yA.out w1.drew) (by unfold maxLen;omega) (by omega) (by simp;omega) ?_
    intro v2 w2 ho2 hg2 hl2;obtain⟨a2,c2,rfl⟩:=ho2.sl;have hbk2:=(HBK.out _ (U3.drew.alloc (Nat.le_refl _) _)).grown hg2 fF.out;have HBK2:=jh hbk2;have d2:=hbk2.2.1 12 (by omega) (by omega);have g2:=hbk2.2.2 12 (by omega);rw[HVB.out] at d2;clear hbk2;have D9:=jh ho2;have HG2:=jh hg2;have HL2:=jh hl2
    clear ho2 hg2 hl2))
 all_goals
  have hf:=bk_fin (f:=12) (by omega) hB hlt fF.out HG1.out fA.out (by first|exact U3.drew.alloc (Nat.le_refl _) _|exact(ja).drew) (fun g hg=>(O1.lt (YA.out _ U3) g hg).1) HG2.out HL2.out HBK2.out D9.out
  go_end0
  refine⟨rfl,_,hf.1,?_,hf.2.2⟩;rw[hld,HL.out,GX.out,HM.out];exact hf.2.1
theorem MS(w:World)(B base n k:Nat)(F L G:Nat->Value)(M N:Nat->Nat)(X:Nat->List Value)(hF:wQ 71 143 44 12 M w base B n k F L G N X)(hA:TI B k (F 12) L)(hk:k<=100000000)(hM:∀i,i<k->M i<=100000000)(hB:base<=B)(hG:∀i,i<k->G i=.slice none 0 0)(hN:∀i,i<k->N i<=4000000):
  Calls prog 57 #[.pointer (some ⟨B,0,none⟩)] w fun e w'=>e=.returned (.tuple #[])/\wQ 71 143 44 12 M w' base B n k F L G N (fun i=>rep (N i) (qy (M i)))/\Below base w w'/\OA k L (F 12) w w':=by
 have HF:=jh hF;have HA:=jh hA;have HG:=jh hG;have HN:=jh hN;have HM:=jh hM;obtain⟨va,vc,hvb⟩:=hF.row.sl;have hs:base<=w.heap.size:=by have:=hF.book.lt;omega
 have HV:=jh hvb;clear hF hA hG hN hM hvb
 go_enter func57,ntmps57
 go_wp2_with fail
 go_loopw [2] (fun i wr=>∃i':Nat,i'<=k/\i=.int .i64 i'/\wQ 71 143 44 12 M wr base B n k F L G N (fun j=>if j<i' then rep (N j) (qy (M j)) else X j)/\Below base w wr/\base<=wr.heap.size/\OA k L (F 12) w wr) (fun i _=>k-(intOf i).toNat)
 case atStart=>exact⟨0,Nat.zero_le _,rfl,HF.out.congr fun i _=>by simp,U3,hs,OA.refl _ _ _ _⟩
 case round=>
  obtain⟨i,hi,rfl,hf,hbl,hsz,hsp⟩:=hrel;obtain⟨wo,rfl⟩:∃wo:World,wo=wr:=⟨_,rfl⟩;have d1:=hf.book.2.1 12 (by omega) (by omega);rw[HV.out] at d1;have HSP:=jh hsp;clear hsp
  by_cases hlt:i<k
  ·have hrow:=hf.row;rw[HV.out] at hrow;obtain⟨gv,ov,cv,hvb,hcv1,hcv2,hcv3,hcv4⟩:=UG hrow hlt
   cases hvb
   obtain⟨l0,l1,l2⟩:=YE hrow hlt;rw[HG.out i hlt] at l1;obtain⟨la,lc,hL⟩:=(hf.own i hlt).sl;rw[hL] at l0;have hnn:=HN.out i hlt;have hmm:=HM.out i hlt;have HFF:=jh hf;have UH:=jh hbl;have HL:=jh hL;unfold maxLen at hcv2;clear hf hbl hL hrow
   go_wp2_with fail
   obtain⟨w2,e2⟩:=je (wo.alloc (.cells #[.slice la (N i) lc,.slice none 0 0,.int .i64 (M i)] 143));have h0:w2.cell? ⟨wo.heap.size,0,none⟩=some (.slice la (N i) lc):=by rw[e2];simp
   have h2:w2.cell? ⟨wo.heap.size,2,none⟩=some (.int .i64 (M i)):=by rw[e2];simp
   have hb2:=jc e2;have hs2:w2.heap.size=wo.heap.size+1:=by rw[e2];simp
   rw[<-e2];clear e2 l0 l1 l2 d1;have HF2:=jh (HFF.out.later hb2);have HB2:=jh (UH.out.trans (hb2.mono hsz));have HS2:=jh (HSP.out.later hb2);have H0:=jh h0;have H2:=jh h2;clear h0 h2 hb2
   go_loopw [4] (fun j wq=>∃j':Nat,j'<=N i/\j=.int .i64 j'/\wQ 71 143 44 12 M wq base B n k F L G N (fun p=>if p=i then prt (qy (M i)) j' (X i) else if p<i then rep (N p) (qy (M p)) else X p)/\wq.cell? ⟨wo.heap.size,0,none⟩=some (.slice la (N i) lc)/\wq.cell? ⟨wo.heap.size,2,none⟩=some (.int .i64 (M i))/\Below base w wq/\wo.heap.size+1<=wq.heap.size/\OA k L (F 12) w wq) (fun j _=>N i-(intOf j).toNat)
   case atStart=>exact⟨0,Nat.zero_le _,rfl,HF2.out.congr (fun p hp=>by
     by_cases hpi:p=i
     ·subst hpi;simp[prt_zero]
     ·simp[hpi]),H0.out,H2.out,HB2.out,by omega,HS2.out⟩
   case round=>
    obtain⟨j,hj,rfl,hfq,h0,h2,hbq,hsq,hspq⟩:=hrel;have HFQ:=jh hfq;have HBQ:=jh hbq;have HSQ:=jh hspq;have hown:=hfq.own i hlt;rw[HL.out,if_pos rfl] at hown;have hX:=(HFF.out.own i hlt).1;rw[if_neg (Nat.lt_irrefl i)] at hX;have HX:=jh hX
    by_cases hjl:j<N i
    ·obtain⟨g,o,cap,hh, -,hg4,hg1,hg5⟩:=UG hown hjl
     cases hh
     have hL9:L i=.slice (some ⟨g,o,none⟩) (N i) lc:=HL.out;have hgl:g<wo.heap.size:=(O1.lt (HFF.out.own i hlt) g (by rw[hL9];rfl)).2;have HOW:=jh hown;have XT:=jh (fun(W:World) (hb:Below wr.heap.size wr W)=>show W.there g (o+j*44) (qy (M i)).length from fun q hq=>⟨by obtain⟨u,hu⟩:=prt_old (q:=q) (O1.later hown hb) (JK _) HX.out hjl hq;rw[hu];rfl,oL (O1.later hown hb) _⟩);unfold maxLen at hg4;have HL9:=jh hL9;have O6:(j:Int)<(N i:Int):=by omega
     have Q0:=jh h0;have Q2:=jh h2;clear hfq hbq hown hX hg5 hspq hL9
     go_upto_region 7 with fail
     clear h0 h2;refine jK [(0,true),(1,true),(2,true),(3,true),(4,true),(5,false),(6,true),(7,false)] (fun w8=>w8.cell? ⟨wo.heap.size,0,none⟩=some (.slice (some ⟨g,o,none⟩) (N i) lc)/\w8.cell? ⟨wo.heap.size,2,none⟩=some (.int .i64 (M i))) (by kernel_rfl) (by kernel_rfl) (fun _ _ _ _ _ h=>h) (⟨jj Q0.out (U3.drew),jj Q2.out (U3.drew)⟩) (fun hHeld=>?_);refine jq ?_;refine jx (.slice (some ⟨g,o,none⟩) (N i) lc) rfl (fun w8 hSw=>jd (yI hSw.1)) ?_;refine jq ?_;refine jq ?_;refine jx (.int .i64 (M i)) rfl (fun w8 hSw=>jd (ZK hSw.2)) ?_;refine WP.step rfl (fun K hK=>?_)
     go_simp
     refine(iH _ (M i) hmm).mono ?_;rintro _ w9 ⟨rfl,L6⟩;have hD:Below wr.heap.size wr w9:=qe (Below.refl wr.heap.size wr).drew L6;refine qD hK (⟨jj Q0.out hD,jj Q2.out hD⟩) (fun hHeld=>?_);clear hK K;refine jx (jP g (o+j*44)) rfl (fun w8 hSw=>by simp[go_sem,O6]) ?_;refine WP.step rfl (fun K hK=>?_);refine EK (by rfl) 71 _ _ rfl g (o+j*44) (qy (M i)) rfl rfl (XT.out _ hD) qg (kG _) ?_;refine qD hK (⟨cell_far (l:=qy (M i)) (p:=o+j*44) (jj Q0.out hD) (show wo.heap.size≠g by omega),cell_far (l:=qy (M i)) (p:=o+j*44) (jj Q2.out hD) (show wo.heap.size≠g by omega)⟩) (fun hHeld=>?_);clear hK K;refine WP.done ?_;clear hHeld
     go_wp2_with fail
     go_roundw
     case rel=>
      have hp:=(HFQ.out.later hD).over HA.out hlt HL9.out (if_pos rfl) HX.out hjl (JK _)
      exact⟨j+1,by omega,by go_num,wQ.congr (show wQ 71 143 44 12 M _ base B n k F L G N _ from hp) (fun p hpk=>by
       by_cases hpi:p=i
       ·simp only[hpi,if_true]
       ·simp only[hpi,if_false]),cell_far (l:=qy (M i)) (p:=o+j*44) (jj Q0.out hD) (show wo.heap.size≠g by omega),cell_far (l:=qy (M i)) (p:=o+j*44) (jj Q2.out hD) (show wo.heap.size≠g by omega),UK (qy (M i)) hg1 (HBQ.out.trans (hD.mono (by omega))),(by have:=hD.size;have h8:=uI (qy (M i)) w9 g (o+j*44);exact Nat.le_trans (Nat.le_trans hsq this) (Nat.le_of_eq h8.symm)),(HSQ.out.later hD).put (l:=qy (M i)) (p:=o+j*44) hlt (show(L i).ownBlock=some g by rw[HL9.out];rfl)⟩
     case measure=>simp[intOf];omega
    ·obtain rfl:j=N i:=by omega
     clear hjl hown hX hfq hbq hspq
     go_wp2_with fail
     go_roundw
     case rel=>exact⟨i+1,by omega,by go_num,HFQ.out.congr (fun p hp=>by
      by_cases hpi:p=i
      ·subst hpi;simp only[if_true,Nat.lt_succ_self];exact prt_all _ _ HX.out
      ·by_cases hpl:p<i
       ·simp[hpi,hpl,show p<i+1 by omega]
       ·simp[hpi,hpl,show¬p<i+1 by omega]),HBQ.out,by omega,HSQ.out⟩
     case measure=>simp[intOf];omega
  ·obtain rfl:i=k:=by omega
   have HFF:=jh hf;have UH:=jh hbl;clear hf hbl
   go_wp2_with fail
   go_end0
   exact⟨rfl,HFF.out.congr (fun p hp=>if_pos hp),UH.out,HSP.out⟩
theorem lS(w:World)(B base n k z:Nat)(F L G:Nat->Value)(M N:Nat->Nat)(hF:Grow 71 143 44 12 qy M z w base B n k F L G N 0)(hA:TI B k (F 12) L)(hk:k<=100000000)(hM:∀i,i<k->M i<=100000000)(hB:base<=B)(hG:∀i,i<k->G i=.slice none 0 0)(hN:∀i,i<k->N i<=4000000):
  Calls prog 74 #[.pointer (some ⟨B,0,none⟩)] w fun e w'=>e=.returned (.tuple #[])/\(∃G',Grow 71 143 44 12 qy M z w' base B n k F L G' N k)/\Below base w w'/\OA k L (F 12) w w':=by
 obtain⟨i0,hi0,hz0,hz1,hz2⟩:=info_parts info_v9;have HI:=jh hi0;have HF:=jh hF;have HA:=jh hA;have HN:=jh hN;have HM:=jh hM;have HG0:=jh hG;obtain⟨va,vc,hvb⟩:=hF.row.sl;have hs:base<=w.heap.size:=by have:=hF.book.lt;omega
 have HV:=jh hvb;clear hF hA hG hN hi0 hM hvb
 go_enter func74,ntmps74
 go_wp2_with fail
 go_loopw [2] (fun i wr=>∃(i':Nat) (G':Nat->Value),i'<=k/\i=.int .i64 i'/\Grow 71 143 44 12 qy M z wr base B n k F L G' N i'/\(∀j,i'<=j->j<k->G' j=.slice none 0 0)/\Below base w wr/\base<=wr.heap.size/\OA k L (F 12) w wr) (fun i _=>k-(intOf i).toNat)
 case atStart=>exact⟨0,G,Nat.zero_le _,rfl,HF.out,fun j _ hj=>HG0.out j hj,U3,hs,OA.refl _ _ _ _⟩
 case round=>
  obtain⟨i,G',hi,rfl,hf,hgn,hbl,hsz,hsp⟩:=hrel;obtain⟨wo,rfl⟩:∃wo:World,wo=wr:=⟨_,rfl⟩;have d1:=hf.book.2.1 12 (by omega) (by omega);rw[HV.out] at d1;have HSP:=jh hsp;clear HG0 hsp
  by_cases hlt:i<k
  ·have hrow:=hf.row;rw[HV.out] at hrow;obtain⟨gv,ov,cv,hvb,hcv1,hcv2,hcv3,hcv4⟩:=UG hrow hlt
   cases hvb
   obtain⟨l0,l1,l2⟩:=YE hrow hlt;rw[hgn i (Nat.le_refl _) hlt] at l1;obtain⟨la,lc,hL⟩:=(hf.own i (Nat.le_refl _) hlt).sl;rw[hL] at l0;have hnn:=HN.out i hlt;have hmm:=HM.out i hlt;have HFF:=jh hf;have UH:=jh hbl;have HL:=jh hL;have HGN:=jh hgn;unfold maxLen at hcv2;clear hf hbl hL hgn hrow
   go_wp2_with fail
   obtain⟨w2,e2⟩:=je (wo.alloc (.cells #[.slice la (N i) lc,.slice none 0 0,.int .i64 (M i)] 143));have h0:w2.cell? ⟨wo.heap.size,0,none⟩=some (.slice la (N i) lc):=by rw[e2];simp
   have h2:w2.cell? ⟨wo.heap.size,2,none⟩=some (.int .i64 (M i)):=by rw[e2];simp
   have hb2:=jc e2;have hs2:w2.heap.size=wo.heap.size+1:=by rw[e2];simp
   rw[<-e2];clear e2 l0 l1 l2 d1;have HF2:=jh (HFF.out.later hb2);have HB2:=jh (UH.out.trans (hb2.mono hsz));have HS2:=jh (HSP.out.later hb2);have HLO:=jh (Long.first (JK _) (HF2.out.own i (Nat.le_refl _) hlt));have HH2:=jh h2;have hne:(L i).ownBlock≠some wo.heap.size:=fun e=>by have:=HFF.out.low i hlt _ e;omega
   have fF:=jh hne;clear h2 hb2 hne
   go_wp2_with fail
   go_loopw [4,5] (fun v j wq=>∃j':Nat,j'<=40/\j=.int .i64 j'/\Long 71 44 (qy (M i)) w2 wq base (N i) (L i) v j') (fun _ j _=>40-(intOf j).toNat)
   case atStart=>exact⟨0,by omega,rfl,by have h9:=HLO.out;rw[show Value.slice la (N i) lc=L i from HL.out.symm];exact h9⟩
   case round=>
    obtain⟨j,hj,rfl,hlo⟩:=hrel;obtain⟨a9,c9,rfl⟩:=hlo.own.sl;have hblk:=hlo.frame wo.heap.size (by omega) fF.out;have h2:wr.cell? ⟨wo.heap.size,2,none⟩=some (.int .i64 (M i)):=(World.cell?_of_block (w:=w2) (a:=⟨wo.heap.size,2,none⟩) hblk).trans HH2.out;have HLG:=jh hlo;have hls:=hlo.size;clear hlo hblk
    by_cases hjl:j<40
    ·have H2:=jh h2;clear h2
     go_upto_region 8 with fail
     refine wp_region_lit ?_;refine jL (.slice a9 (N i+j) c9) ?_;refine jL (jP (wo.heap.size) 2) ?_;refine jL (.int .i64 (M i)) ?_ (jd (ZK H2.out))
     go_wp2_with fail
     refine(iH _ (M i) hmm).mono ?_;rintro _ w9 ⟨rfl,L6⟩;have h9s:=L6.size;obtain⟨V,hV⟩:=je (qy (M i));have HV9:=jh hV;rw[<-hV];clear hV;dsimp only
     go_step
     refine qq (v:=.slice (some ⟨w9.heap.size,0,none⟩) 1 1) (w':=w9.alloc (.cells V.toArray 71)) rfl (JA (by rw[HV9.out];rfl) rfl rfl) ?_;simp only[Act.put,pa,pb,pc];refine jX rfl (.tmp 28) (.tmp 32) 30 rfl base 71 i0 (.agg JY) 44 120 underlying30 HI.out hz0 hz1 hz2 rfl (.slice a9 (N i+j) c9) (N i+j) (rep (N i+j) (qy (M i))) rfl (O1.later (O1.later HLG.out.own L6) (ja)) (.slice (some ⟨w9.heap.size,0,none⟩) 1 1) 1 V rfl (FU jQ (by rw[HV9.out];rfl) (by rw[HV9.out];exact kG _)) (by unfold maxLen;omega) (by omega) (by simp;omega) ?_;intro v3 w3 ho3 hg3 hl3;rw[HV9.out] at ho3;have HN3:=jh (HLG.out.next (JK _) (by omega) (qe L6 (ja)) hg3 hl3 ho3);clear ho3 hg3 hl3;simp only[Act.put,pa,pb,pc]
     go_wp2_with fail
     go_roundw
     case rel=>exact⟨j+1,by omega,by go_num,HN3.out⟩
     case measure=>simp[intOf];omega
    ·obtain rfl:j=40:=by omega
     clear hjl h2;have hbk:wr.heap[B]?=w2.heap[B]?:=HLG.out.frame B (by have:=HF2.out.book.lt;omega) (fun e=>(HA.out.one i hlt B e).1 rfl);have hgk:wr.heap[gv]?=w2.heap[gv]?:=HLG.out.frame gv (by omega) (fun e=>(HA.out.one i hlt gv e).2 (by rw[HV.out];rfl));have d1:=(HF2.out.book.kept hbk).2.1 12 (by omega) (by omega);rw[HV.out] at d1;have hrw:=O1.block HF2.out.row (w':=wr) (fun g hg=>by rw[HV.out] at hg;cases hg;exact hgk);rw[HV.out] at hrw;obtain⟨-,l1, -⟩:=YE hrw hlt;have fr1:=oL hrw (ov+i*3+1);have HST:=jh (HF2.out.step HV.out HA.out hlt (JK _) HLG.out.size HLG.out.frame HLG.out.own HLG.out.at_ HLG.out.start_block);have HSG:=jh (fun u=>HS2.out.grow (gv:=gv) (p:=ov+i*3+1) (u:=u) HLG.out.size HLG.out.frame hlt (by rw[HV.out];rfl));clear hbk hgk hrw
     go_wp2_with fail
     go_roundw
     case rel=>exact⟨i+1,_,by omega,by go_num,HST.out,fun p h1 h2=>by rw[if_neg (by omega)];exact HGN.out p (by omega) h2,((HB2.out.trans HLG.out.below).setCell (p:=⟨gv,ov+i*3+1,none⟩) hcv3 _),by simp;omega,HSG.out _⟩
     case measure=>simp[intOf];omega
  ·obtain rfl:i=k:=by omega
   have HFF:=jh hf;have UH:=jh hbl;clear hf hbl
   go_wp2_with fail
   go_end0
   exact⟨rfl,⟨G',HFF.out⟩,UH.out,HSP.out⟩
theorem nR(w:World)(B base n k z:Nat)(F L G:Nat->Value)(M N:Nat->Nat)(hF:Grow 71 143 44 12 qy M z w base B n k F L G N k)(hk:k<=100000000)(hM:∀i,i<k->M i<=100000000)(hN:∀i,i<k->N i<=4000000):
  Calls prog 91 #[.pointer (some ⟨B,0,none⟩)] w fun e w'=>e=.returned (.bool true)/\Below w.heap.size w w':=by
 have HF:=jh hF;have HN:=jh hN;have HM:=jh hM;obtain⟨va,vc,hvb⟩:=hF.row.sl;have HV:=jh hvb;clear hF hN hM hvb
 go_enter func91,ntmps91
 go_wp2_with fail
 go_loopw [3] (fun i wr=>∃i':Nat,i'<=k/\i=.int .i64 i'/\Below w.heap.size w wr) (fun i _=>k-(intOf i).toNat)
 case atStart=>exact⟨0,Nat.zero_le _,rfl,U3⟩
 case round=>
  obtain⟨i,hi,rfl,hbl⟩:=hrel;obtain⟨wo,rfl⟩:∃wo:World,wo=wr:=⟨_,rfl⟩;have hf:=HF.out.later hbl;have d1:=hf.book.2.1 12 (by omega) (by omega);rw[HV.out] at d1
  by_cases hlt:i<k
  ·have hrow:=hf.row;rw[HV.out] at hrow;obtain⟨gv,ov,cv,hvb,hcv1,hcv2,hcv3,hcv4⟩:=UG hrow hlt
   cases hvb
   obtain⟨l0,l1,l2⟩:=YE hrow hlt;obtain⟨k1,k2⟩:=hf.done i hlt hlt;obtain⟨la,lc,hL,_,_⟩:=k1.sl;obtain⟨ga,gc,hG,_,_⟩:=k2.sl;have lo1:=hf.low i hlt;have lo2:=fun g h=>(hf.far i hlt hlt g h).1
   rw[hL] at l0 k1 lo1;rw[hG] at l1 k2 lo2;have hnn:=HN.out i hlt;have hmm:=HM.out i hlt;have UH:=jh hbl;have K1:=jh k1;have K2:=jh k2;have LO1:=jh lo1;have LO2:=jh lo2;unfold maxLen at hcv2;clear hf hbl hL hG k1 k2 hrow lo1 lo2
   go_wp2_with fail
   obtain⟨w2,e2⟩:=je (wo.alloc (.cells #[.slice la (N i) lc,.slice ga (N i+40) gc,.int .i64 (M i)] 143));have h0:w2.cell? ⟨wo.heap.size,0,none⟩=some (.slice la (N i) lc):=by rw[e2];simp
   have h1:w2.cell? ⟨wo.heap.size,1,none⟩=some (.slice ga (N i+40) gc):=by rw[e2];simp
   have h2:w2.cell? ⟨wo.heap.size,2,none⟩=some (.int .i64 (M i)):=by rw[e2];simp
   have hb2:=jc e2;rw[<-e2];clear e2 l0 l1 l2 d1;have HB2:=jh (qe UH.out hb2);have K12:=jh (K1.out.block (w':=w2) (fun g hg=>hb2.block g (LO1.out g hg)));have K22:=jh (K2.out.block (w':=w2) (fun g hg=>hb2.block g (LO2.out g hg)));have L12:=jh (fun g hg=>jv (LO1.out g hg) hb2.size);have L22:=jh (fun g hg=>jv (LO2.out g hg) hb2.size);have HH0:=jh h0;have HH1:=jh h1;have HH2:=jh h2;clear hb2 K1 K2 LO1 LO2
   go_wp2_with fail
   go_loopw [5] (fun j wq=>∃j':Nat,j'<=N i+40/\j=.int .i64 j'/\Below w2.heap.size w2 wq) (fun j _=>N i+40-(intOf j).toNat)
   case atStart=>exact⟨0,by omega,rfl,U3⟩
   case round=>
    obtain⟨j,hj,rfl,hbq⟩:=hrel;have q0:=jj HH0.out hbq;have q1:=jj HH1.out hbq;have q2:=jj HH2.out hbq;have HBQ:=jh hbq;clear hbq h0 h1 h2
    by_cases hjl:j<N i+40
    ·obtain⟨g1,o1,rfl,hc1⟩:=K22.out.cell hjl;have hm1:MkAt (M i) wr g1 (o1+j*44):=fun q u hu=>jj (hc1 q u hu) HBQ.out
     have KN:=jh hm1;clear hc1 hm1;have O6:(j:Int)<(N i:Int)+40:=by omega
     by_cases hjn:j<N i
     ·obtain⟨g2,o2,rfl,hc2⟩:=K12.out.cell hjn;have hm2:MkAt (M i) wr g2 (o2+j*44):=fun q u hu=>jj (hc2 q u hu) HBQ.out
      have HM2:=jh hm2;clear hc2 hm2;have hlnI:(j:Int)<(N i:Int):=by omega
      have Q0:=jh q0;have Q1:=jh q1;have Q2:=jh q2
      go_upto_region 10 with fail
      clear q0 q1 q2;refine jK [(0,true),(1,true),(2,true),(3,true),(4,true),(5,true),(6,true),(7,false),(8,true),(9,true),(10,true),(11,true),(12,true),(13,true),(14,true),(15,true),(16,true),(17,true),(18,true),(19,true),(20,true),(21,true),(22,true),(23,false),(24,true),(25,true),(26,true)] (fun w8=>Below wr.heap.size wr w8) (by kernel_rfl) (by kernel_rfl) (fun _ _ _ _ _ h=>h) ((Below.refl wr.heap.size wr).drew) (fun hHeld=>?_);refine jq ?_;refine jx (.slice (some ⟨g1,o1,none⟩) (N i+40) gc) rfl (fun w8 hSw=>jd (yI (jj Q1.out hSw))) ?_;refine jq ?_;refine jx (jP g1 (o1+j*44)) rfl (fun w8 hSw=>by simp[go_sem,O6]) ?_;refine jx (.agg (qy (M i)).toArray) rfl (fun w8 hSw=>jd (AY (KN.out.later hSw))) ?_;refine jq ?_;refine jx (.int .i64 (M i)) rfl (fun w8 hSw=>jd (ZK (jj Q2.out hSw))) ?_;refine WP.step rfl (fun K hK=>?_)
      go_simp
      refine(oG _ (M i) hmm).mono ?_;rintro _ x1 ⟨rfl,hb⟩;refine qD hK (qe hHeld hb) (fun hHeld=>?_);clear hK K
      iterate 4
       refine jq ?_
      refine jx (.slice (some ⟨g2,o2,none⟩) (N i) lc) rfl (fun w8 hSw=>jd (yI (jj Q0.out hSw))) ?_;refine jq ?_;refine jx (.bool true) rfl (fun w8 hSw=>by simp[go_sem,hlnI]) ?_
      iterate 2
       refine jq ?_
      refine jx (.slice (some ⟨g2,o2,none⟩) (N i) lc) rfl (fun w8 hSw=>jd (yI (jj Q0.out hSw))) ?_;refine jq ?_;refine jx (jP g2 (o2+j*44)) rfl (fun w8 hSw=>by simp[go_sem,hlnI]) ?_;refine jx (.agg (qy (M i)).toArray) rfl (fun w8 hSw=>jd (AY (HM2.out.later hSw))) ?_;refine jq ?_;refine jx (.int .i64 (M i)) rfl (fun w8 hSw=>jd (ZK (jj Q2.out hSw))) ?_;refine WP.step rfl (fun K hK=>?_)
      go_simp
      refine(oG _ (M i) hmm).mono ?_;rintro _ x2 ⟨rfl,hb⟩;refine qD hK (qe hHeld hb) (fun hHeld=>?_);clear hK K
      iterate 3
       refine jq ?_
      refine WP.done ?_;have bU:=jh hHeld;clear hHeld
      go_wp2_with fail
      go_roundw
      case rel=>exact⟨j+1,by omega,by go_num,qe HBQ.out bU.out⟩
      case measure=>simp[intOf];omega
     ·have hlnI:¬(j:Int)<(N i:Int):=by omega
      have Q0:=jh q0;have Q1:=jh q1;have Q2:=jh q2
      go_upto_region 10 with fail
      clear q0 q1 q2;refine jK [(0,true),(1,true),(2,true),(3,true),(4,true),(5,true),(6,true),(7,false),(8,true),(9,true),(10,true),(11,true),(12,true),(13,true),(14,true),(15,true),(16,true),(17,true),(18,true),(19,true),(20,true),(21,true),(22,true),(23,false),(24,true),(25,true),(26,true)] (fun w8=>Below wr.heap.size wr w8) (by kernel_rfl) (by kernel_rfl) (fun _ _ _ _ _ h=>h) ((Below.refl wr.heap.size wr).drew) (fun hHeld=>?_);refine jq ?_;refine jx (.slice (some ⟨g1,o1,none⟩) (N i+40) gc) rfl (fun w8 hSw=>jd (yI (jj Q1.out hSw))) ?_;refine jq ?_;refine jx (jP g1 (o1+j*44)) rfl (fun w8 hSw=>by simp[go_sem,O6]) ?_;refine jx (.agg (qy (M i)).toArray) rfl (fun w8 hSw=>jd (AY (KN.out.later hSw))) ?_;refine jq ?_;refine jx (.int .i64 (M i)) rfl (fun w8 hSw=>jd (ZK (jj Q2.out hSw))) ?_;refine WP.step rfl (fun K hK=>?_)
      go_simp
      refine(oG _ (M i) hmm).mono ?_;rintro _ x1 ⟨rfl,hb⟩;refine qD hK (qe hHeld hb) (fun hHeld=>?_);clear hK K
      iterate 4
       refine jq ?_
      refine jx (.slice la (N i) lc) rfl (fun w8 hSw=>jd (yI (jj Q0.out hSw))) ?_;refine jq ?_;refine jx (.bool false) rfl (fun w8 hSw=>by simp[go_sem,hlnI]) ?_;refine jq ?_
      iterate 7
       refine jR ?_
      refine WP.step rfl (fun K hK=>?_);refine zp (by rfl) ?_;refine qD hK (hHeld) (fun hHeld=>?_);clear hK K;refine jR ?_
      iterate 2
       refine jq ?_
      refine WP.done ?_;have bU:=jh hHeld;clear hHeld
      go_wp2_with fail
      go_roundw
      case rel=>exact⟨j+1,by omega,by go_num,qe HBQ.out bU.out⟩
      case measure=>simp[intOf];omega
    ·obtain rfl:j=N i+40:=by omega
     clear hjl
     go_wp2_with fail
     go_roundw
     case rel=>exact⟨i+1,by omega,by go_num,qe HB2.out HBQ.out⟩
     case measure=>simp[intOf];omega
  ·obtain rfl:i=k:=by omega
   have UH:=jh hbl;clear hf hbl
   go_wp2_with fail
   go_ret
   exact⟨rfl,UH.out⟩
theorem Bk.keepVote{w:World}{base B k:Nat}{S:Nat->Prop}(h:Bk 71 143 44 12 w base B k S)(hk:k<100000000){v:Value}{n:Nat}{xs:List Value}(hv:O1 w base 71 44 v n xs)(hn:n<=4000000)(hd:∀g,v.ownBlock=some g->¬S g):
  Calls prog 45 #[.pointer (some ⟨B,0,none⟩),v] w fun e w'=>e=.returned (.tuple #[])/\Bk 71 143 44 12 w' base B (k+1) (fun g=>S g∨v.ownBlock=some g∨(w.heap.size<=g/\g<w'.heap.size))/\Chg w w' S:=by
 obtain⟨⟨F,L,N,X,h1,h2⟩,h3⟩:=h;obtain⟨a,c,hL⟩:=hv.sl;have hne:∀g,v.ownBlock=some g->¬KfB 12 B k F L g:=fun g hg e=>hd g hg (h2 g e)
 have hhld:hld (fun i=>i+1) L (fun _=>.slice none 0 0) k=hld (fun i=>i+1) (fun j=>if j=k then v else L j) (fun _=>.slice none 0 0) k:=DI fun i hi=>⟨(if_neg (by omega)).symm,rfl⟩
 have hrow:O1 w base 143 3 (F 12) k (hld (fun i=>i+1) (fun j=>if j=k then v else L j) (fun _=>.slice none 0 0) k):=by rw[<-hhld];exact h1.fam.row
 have hlow:=h1.low;have hlt:=h1.fam.book.lt;rw[hL];refine(NR w B base k k F (fun j=>if j=k then v else L j) (fun _=>.slice none 0 0) (fun i=>i+1) a n c h1.fam.book hrow h1.apart.notB (by omega) (by omega) hlow rfl (by simp only[if_true];exact hL) rfl).mono ?_;rintro e w' ⟨he,vb,k1,k2,k3,k4,k5⟩;refine⟨he,⟨⟨_,_,_,_,h1.more hv hn hne k1 k2 k3 k5,fun g hg=>?_⟩,fun g hg=>?_⟩,⟨k4.os,k4.tape,k4.output,k4.size,fun g hg hS=>(k5 g hg (fun e=>hS (h2 g (.inl e))) (fun e=>hS (h2 g (.inr (.inl e))))).1⟩⟩
 ·rcases hg with hg|hg|⟨i,hi,hg⟩
  ·exact .inl (h2 g (.inl hg))
  ·simp only[if_true] at hg
   by_cases hl:g<w.heap.size
   ·by_cases hgB:g=B
    ·exact absurd (by rw[<-hgB];exact hg) k3
    ·by_cases hgF:(F 12).ownBlock=some g
     ·exact .inl (h2 g (.inr (.inl hgF)))
     ·exact absurd hg (k5 g hl hgB hgF).2
   ·exact .inr (.inr ⟨by omega,(O1.lt k2 g hg).2⟩)
  ·by_cases e:i=k
   ·simp only[if_pos e] at hg;exact .inr (.inl (by rw[<-hL];exact hg))
   ·simp only[if_neg e] at hg;exact .inl (h2 g (.inr (.inr ⟨i,by omega,hg⟩)))
 ·have hs:=k4.size
  rcases hg with hg|hg|hg
  ·have:=h3 g hg;omega
  ·have:=O1.lt hv g (by rw[hL];exact hg);omega
  ·have:=h3 B (h2 B (.inl rfl));omega
theorem Bk.Votes{w:World}{base B k:Nat}{S:Nat->Prop}(h:Bk 71 143 44 12 w base B k S)(hk:k<100000000){v:Value}{n:Nat}{xs:List Value}(hv:O1 w base 71 44 v n xs)(hn:n<=4000000)(hd:∀g,v.ownBlock=some g->¬S g):
  Calls prog 22 #[.pointer (some ⟨B,0,none⟩),v] w fun e w'=>e=.returned (.tuple #[])/\Bk 71 143 44 12 w' base B (k+1) (fun g=>S g∨v.ownBlock=some g∨(w.heap.size<=g/\g<w'.heap.size))/\Chg w w' S:=by
 have H:=jh (h.keepVote hk hv hn hd);obtain⟨a,c,hL⟩:=hv.sl;subst hL;clear h hv hd
 go_enter func22,ntmps22
 go_wp2_with fail
 refine H.out.mono ?_;rintro _ w' ⟨rfl,h⟩;have HH:=jh h;clear h
 go_wp2_with fail
 go_end0
 exact⟨rfl,HH.out⟩
theorem Bk.apartVote{w:World}{base B k:Nat}{S:Nat->Prop}(h:Bk 71 143 44 12 w base B k S)(hk:k<100000000):
  Calls prog 23 #[.pointer (some ⟨B,0,none⟩)] w fun e w'=>e=.returned (.bool true)/\Below base w w'/\Chg w w' S:=by
 obtain⟨⟨F,L,N,X,h,h2⟩,h3⟩:=h;have hs:base<=w.heap.size:=by have:=h.low;have:=h.fam.book.lt;omega
 have hk1:k<=100000000:=by omega
 have hm:∀i,i<k->i+1<=100000000:=fun i hi=>by omega
 have NIL:=jh h.nil;have C1:=jh (MS w B base k k F L (fun _=>.slice none 0 0) (fun i=>i+1) N X h.fam h.apart hk1 hm h.low (fun _ _=>rfl) h.short);have C2:=jh (fun(w1:World) h9=>lS w1 B base k k w1.heap.size F L (fun _=>.slice none 0 0) (fun i=>i+1) N (Grow.of h9) h.apart hk1 hm h.low (fun _ _=>rfl) h.short);have C3:=jh (fun(w1:World) (z:Nat) (G:Nat->Value) h9=>nR w1 B base k k z F L G (fun i=>i+1) N h9 hk1 hm h.short);have SS:=jh (show∀g,¬S g->(F 12).ownBlock≠some g/\∀i,i<k->(L i).ownBlock≠some g from fun g hg=>⟨fun e=>hg (h2 g (.inr (.inl e))),fun i hi e=>hg (h2 g (.inr (.inr ⟨i,hi,e⟩)))⟩);have BK:=jh h.fam.book;clear h h2 h3
 go_enter func23,ntmps23
 iterate 11
  go_wp2_with fail
  refine Calls.mono (bkN (by rfl) _ B (dF BK.out NIL.out _ (by decide))) ?_;rintro _ _ ⟨rfl,rfl⟩
 go_wp2_with fail
 refine C1.out.mono ?_;rintro _ w1 ⟨rfl,fB,hb,sp⟩;have FB:=jh fB;have BK:=jh fB.book;have HB:=jh hb;have PR:=jh (show∀g,g<w.heap.size->¬S g->w1.heap[g]?=w.heap[g]? from fun g h1 h2=>sp.2 g h1 (SS.out g h2).1 (SS.out g h2).2);have hs1:=hb.size;clear fB hb sp C1
 iterate 5
  go_wp2_with fail
  refine Calls.mono (bkN (by rfl) _ B (dF BK.out NIL.out _ (by decide))) ?_;rintro _ _ ⟨rfl,rfl⟩
 iterate 11
  go_wp2_with fail
  refine Calls.mono (bkN (by rfl) _ B (dF BK.out NIL.out _ (by decide))) ?_;rintro _ _ ⟨rfl,rfl⟩
 go_wp2_with fail
 refine(C2.out w1 FB.out).mono ?_;rintro _ w2 ⟨rfl,⟨G1,gB⟩,hb,sp⟩;have GB:=jh gB;have BK:=jh gB.book;have HB:=jh (HB.out.trans hb);have PR:=jh (show∀g,g<w.heap.size->¬S g->w2.heap[g]?=w.heap[g]? from fun g h1 h2=>(sp.2 g (by omega) (SS.out g h2).1 (SS.out g h2).2).trans (PR.out g h1 h2));have hs2:=hb.size;clear gB hb sp C2 FB
 iterate 5
  go_wp2_with fail
  refine Calls.mono (bkN (by rfl) _ B (dF BK.out NIL.out _ (by decide))) ?_;rintro _ _ ⟨rfl,rfl⟩
 iterate 11
  go_wp2_with fail
  refine Calls.mono (bkN (by rfl) _ B (dF BK.out NIL.out _ (by decide))) ?_;rintro _ _ ⟨rfl,rfl⟩
 go_wp2_with fail
 refine(C3.out w2 _ G1 GB.out).mono ?_;rintro _ w3 ⟨rfl,hb⟩;have BK:=jh (BK.out.kept (hb.block B BK.out.lt));have HB:=jh (HB.out.trans (hb.mono (by omega)));have PR:=jh (show∀g,g<w.heap.size->¬S g->w3.heap[g]?=w.heap[g]? from fun g h1 h2=>(hb.block g (by omega)).trans (PR.out g h1 h2));have hs3:=hb.size;clear hb C3 GB
 iterate 5
  go_wp2_with fail
  refine Calls.mono (bkN (by rfl) _ B (dF BK.out NIL.out _ (by decide))) ?_;rintro _ _ ⟨rfl,rfl⟩
 go_wp2_with fail
 go_ret
 exact⟨rfl,HB.out,⟨HB.out.os,HB.out.tape,HB.out.output,HB.out.size,PR.out⟩⟩
end Go.Proofs.YtpkalgofejjggaaGreatDoor
