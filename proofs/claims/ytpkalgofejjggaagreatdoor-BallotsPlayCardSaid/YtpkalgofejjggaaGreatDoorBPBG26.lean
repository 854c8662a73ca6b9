/- Layer 4 (mods) -/
import Derived.Test.YtpkalgofejjggaaGreatDoorBPBG23
import Derived.Test.YtpkalgofejjggaaGreatDoorBPBG24
import Derived.Test.YtpkalgofejjggaaGreatDoorBPBG25
import Derived.Test.YtpkalgofejjggaaGreatDoorBPBG13
import Derived.StillTailTactics
set_option linter.unusedSimpArgs false
set_option linter.unusedVariables false
set_option maxHeartbeats 8000000
set_option maxRecDepth 100000
namespace Go.Proofs.YtpkalgofejjggaaGreatDoor
open Go.ChangeShapes Go.WideShapes Go.ChangeAt Go.RowKit Go.Proofs.Tryz
attribute [local go_sem] Oper.semAt_some
theorem uT(a:Option Addr)(n c:Nat)(w:World):
  Calls prog 256 #[.slice a n c] w fun e w'=>e=.returned (.func (.func 277) #[] #[.pointer (some ⟨w.heap.size,0,none⟩)])/\w'=w.alloc (.cells #[.slice a n c] 293):=by
 go_enter func256,ntmps256
 go_wp2
 go_ret
 exact⟨rfl,rfl⟩
def calmQ(Q:Exit->Act->World->Prop):Exit->Act->World->Prop
 |.panic _,_,_=>False
 |e,a,w=>Q e a w
theorem wpIn_calm{n:Nat}{c:Code}{Q:Exit->Act->World->Prop}{a:Act}{w:World}(h:c.wp prog (calmQ Q) a w):c.wpIn Fence.wide n prog Q a w:=by
 refine wpIn_mono (wpIn_wide.2 h) ?_;rintro e a w hq
 cases e<;>first|exact hq|exact hq.elim
def Jn(x:Nat):List Nat:=[jg jf x 0,jg jf x 1,jg jf x 2,jg jf x 3]
theorem U0.words{w:World}{b x:Nat}(h:U0 w b x):F7 .u64 w (.slice (some ⟨b,0,none⟩) 4 4) (Jn x):=by
 refine⟨_,4,rfl,by simp[Jn],by decide,(fun h=>by cases h),fun _=>⟨b,0,rfl,fun i y hy=>?_⟩⟩;rw[Nat.zero_add]
 have:i<4:=by
  rcases Nat.lt_or_ge i 4 with h|h
  ·exact h
  ·rw[List.getElem?_eq_none (by simpa[Jn] using h)] at hy;cases hy
 have h9:=h i this
 rcases(show i=0∨i=1∨i=2∨i=3 by omega) with rfl|rfl|rfl|rfl<;>(simp[Jn] at hy;subst hy;exact h9)
def Own64(w:World)(R:Nat)(v:Value)(l:List Nat):Prop:=F7 .u64 w v l/\∀g,v.ownBlock=some g->R<g/\g<w.heap.size
structure BG(w w5:World)(RR MM m r:Nat)(W:World):Prop where
 r:U0 W RR r
 f:Y0 W RR 4
 m:U0 W MM m
 b:Below w.heap.size w W
 s:w5.heap.size<=W.heap.size
 rl:RR<W.heap.size
theorem BG.start{w w5 W:World}{RR MM m:Nat}(hr:U0 w5 RR 0)(hf:Y0 w5 RR 4)(hm:U0 w5 MM m)(hb:Below w.heap.size w w5)(hR:RR<w5.heap.size)(h:Below w5.heap.size w5 W):BG w w5 RR MM m 0 W:=
 ⟨U0.later h hr,hf.later h hR,U0.later h hm,jm hb h,h.size,jv hR h.size⟩
theorem BG.putObj{w w5 W:World}{RR MM m r l:Nat}{o:Obj}(h:BG w w5 RR MM m r W)(hl:w5.heap.size<=l)(hR:RR<w5.heap.size)(hM:MM<w5.heap.size)(hw:w.heap.size<=w5.heap.size):BG w w5 RR MM m r (W.putObj l o):=by
 have hk:∀g,g<w5.heap.size->(W.putObj l o).heap[g]?=W.heap[g]?:=fun g hg=>World.putObj_heap_other (by omega)
 refine⟨fun j hj=>(World.cell?_of_block (a:=⟨RR,j,none⟩) (hk RR hR)).trans (h.r j hj),fun j hj=>(World.frozen?_of_block (a:=⟨RR,j,none⟩) (hk RR hR)).trans (h.f j hj),fun j hj=>(World.cell?_of_block (a:=⟨MM,j,none⟩) (hk MM hM)).trans (h.m j hj),?_,by simpa using h.s,by simpa using h.rl⟩;exact⟨h.b.os,h.b.tape,h.b.output,by simpa using h.b.size,fun g hg=>(hk g (by have:=hw;omega)).trans (h.b.block g hg)⟩
def Zh(m:Nat)(L:List Nat)(k:Nat):Nat:=(L.drop k).foldr (fun d r=>(r*jf+d)%m) 0
theorem leftN_end(m:Nat)(L:List Nat):Zh m L L.length=0:=by unfold Zh;simp
theorem kM(m:Nat)(L:List Nat)(k:Nat)(h:k<L.length):Zh m L k=(Zh m L (k+1)*jf+L.getD k 0)%m:=by
 unfold Zh;rw[List.drop_eq_getElem_cons h,List.foldr_cons,List.getD_eq_getElem?_getD,List.getElem?_eq_getElem h]
 rfl
theorem sV{m:Nat}(hm:0<m)(L:List Nat)(k:Nat):Zh m L k<m:=by
 rcases Nat.lt_or_ge k L.length with h|h
 ·rw[kM m L k h];exact Nat.mod_lt _ hm
 ·unfold Zh;rw[List.drop_eq_nil_of_le h];exact hm
def valN(L:List Nat):Nat:=L.foldr (fun d r=>r*jf+d) 0
theorem foldr_mod(m:Nat)(L:List Nat):L.foldr (fun d r=>(r*jf+d)%m) 0=valN L%m:=by
 induction L with
 |nil=>simp[valN]
 |cons a L ih=> 
  rw[List.foldr_cons,ih];unfold valN;rw[List.foldr_cons,Nat.add_mod,Nat.mul_mod,Nat.mod_mod,<-Nat.mul_mod,<-Nat.add_mod]
theorem EY(m:Nat)(L:List Nat):Zh m L 0=valN L%m:=by unfold Zh;rw[List.drop_zero];exact foldr_mod m L
theorem digits4{x:Nat}(h:x<jk):jg jf x 0+jf*(jg jf x 1+jf*(jg jf x 2+jf*jg jf x 3))=x:=by
 unfold jg jk at*;unfold jf at*;omega
theorem valN_two{lo hi:Nat}(hlo:lo<jk)(hhi:hi<jk):valN (Jn lo++Jn hi)=hi*jk+lo:=by
 have h1:=digits4 hlo;have h2:=digits4 hhi;simp only[valN,Jn,List.cons_append,List.nil_append,List.foldr_cons,List.foldr_nil];obtain⟨a0,e0⟩:=je (jg jf lo 0);obtain⟨a1,e1⟩:=je (jg jf lo 1);obtain⟨a2,e2⟩:=je (jg jf lo 2);obtain⟨a3,e3⟩:=je (jg jf lo 3);obtain⟨b0,f0⟩:=je (jg jf hi 0);obtain⟨b1,f1⟩:=je (jg jf hi 1);obtain⟨b2,f2⟩:=je (jg jf hi 2);obtain⟨b3,f3⟩:=je (jg jf hi 3);rw[<-e0,<-e1,<-e2,<-e3] at h1⊢;rw[<-f0,<-f1,<-f2,<-f3] at h2⊢;clear e0 e1 e2 e3 f0 f1 f2 f3 hlo hhi;unfold jk;unfold jf at*;omega
theorem qY{x:Nat}(h:x<jf):jg jf x 0=x/\jg jf x 1=0/\jg jf x 2=0/\jg jf x 3=0:=by
 unfold jg;unfold jf at*;omega
theorem words_lt(x:Nat):∀y∈Jn x,y<jf:=by
 intro y hy;simp only[Jn,List.mem_cons,List.not_mem_nil,or_false] at hy
 rcases hy with rfl|rfl|rfl|rfl<;>(unfold jg;exact Nat.mod_lt _ (by unfold jf;omega))
theorem OX{lo hi m:Nat}(hlo:lo<jk)(hhi:hi<jk)(hm0:0<m)(hml:m<jf)(w:World):Calls prog 209 #[ji lo,ji hi,ji m] w fun e w'=>e=.returned (.tuple #[ji ((hi*jk+lo)%m),.int .i64 0])/\Below w.heap.size w w':=by
 have hm:m<jk:=by unfold jk;unfold jf at hml;omega
 have HLO:=jh hlo;have HHI:=jh hhi;have V4:=jh hm;have pU:=jh hm0;have HML:=jh hml;have hz:=fun w=>eq_zero m hm w
 rw[decide_eq_false (show¬m=0 by omega)] at hz;have CS:=jh (fun w=>by have h:=short_any hm w;rw[decide_eq_true hml] at h;exact h);obtain⟨Q9,hQ9⟩:=je ((hi*jk+lo)%m);rw[<-hQ9];have HQ9:=jh hQ9;clear hQ9 hlo hhi hm hml hm0;unfold ji words at*;refine(callsIn_wide (n:=9)).1 ?_;refine callsIn_of_wp_marks func209 rfl trivial ?_ rfl;simp only[ntmps209,List.size_toArray,List.length_cons,List.length_nil,Nat.reduceAdd,Nat.reduceSub,Array.replicate_succ,Array.replicate_zero,List.push_toArray,List.append_toArray,List.nil_append,List.cons_append]
 gi_wp2_with fail
 obtain⟨wa,ea⟩:=je (w.alloc (.cells (jD lo) 24));obtain⟨wb,eb⟩:=je (wa.alloc (.cells (jD hi) 24));obtain⟨wc,ec⟩:=je (wb.alloc (.cells (jD m) 24));obtain⟨wd,ed⟩:=je (wc.alloc (.cells jA 24));have sa:wa.heap.size=w.heap.size+1:=by rw[ea];simp
 have sb:wb.heap.size=w.heap.size+1+1:=by rw[eb];simp[sa]
 have sc:wc.heap.size=w.heap.size+1+1+1:=by rw[ec];simp[sb]
 have sd:wd.heap.size=w.heap.size+1+1+1+1:=by rw[ed];simp[sc]
 have ba:=jc ea;have bb:=jc eb;have bc:=jc ec;have bd:=jc ed;have na:U0 wa w.heap.size lo:=by rw[ea];exact U0.new w lo _ _ rfl
 have nb:U0 wb (w.heap.size+1) hi:=by rw[eb];exact U0.new wa hi _ _ sa.symm
 have nc:U0 wc (w.heap.size+1+1) m:=by rw[ec];exact U0.new wb m _ _ sb.symm
 have nd:U0 wd (w.heap.size+1+1+1) 0:=by rw[ed,<-sc];exact qV wc _
 have fd:Y0 wd (w.heap.size+1+1+1) 4:=by rw[ed];exact Y0.made wc _ _ 4 _ sc.symm
 rw[<-ea,<-eb,<-ec,<-ed];obtain⟨LL,hL⟩:=je (w.heap.size);obtain⟨HH,hH⟩:=je (LL+1);obtain⟨MM,hM⟩:=je (HH+1);obtain⟨RR,hR⟩:=je (MM+1);have xA:w.heap.size<=LL:=by omega
 have U2:RR<wd.heap.size:=by omega
 rw[<-hL] at na nb nc nd fd⊢;rw[<-hH] at nb nc nd fd⊢;rw[<-hM] at nc nd fd⊢;rw[<-hR] at nd fd⊢;have hLH:LL<HH:=by omega
 have hHM:HH<MM:=by omega
 have hMR:MM<RR:=by omega
 have HA:=jh (U0.later bd (U0.later bc (U0.later bb na)));have HB:=jh (U0.later bd (U0.later bc nb));have HC:=jh (U0.later bd nc);have HR:=jh nd;have HF:=jh fd;have B:=jh (((ba.trans (bb.mono (by omega))).trans (bc.mono (by omega))).trans (bd.mono (by omega)));clear ea eb ec ed sa sb sc sd ba bb bc bd na nb nc nd fd hL hH hM hR;refine⟨trivial,(callsIn_wide.2 (CS.out wd)).mono ?_⟩;rintro _ w2 ⟨rfl,hb⟩;have hR2:RR<w2.heap.size:=jv U2 hb.size;have HF:=jh (HF.out.later hb U2);have HA:=jn hb HA;have HB:=jn hb HB;have HC:=jn hb HC;have HR:=jn hb HR;have B:=jw B hb;clear hb U2;have U2:=hR2;clear hR2
 gi_wp2_with fail
 refine wpIn_calm ?_;refine jK [(0,true),(1,true),(2,false),(3,false),(4,true)] (fun _=>True) (by kernel_rfl) (by kernel_rfl) (fun _ _ _ _ _ h=>h) (trivial) (fun hHeld=>?_);refine jq ?_;refine jq ?_;refine WP.step rfl (fun K hK=>?_)
 go_simp
 refine qD hK (trivial) (fun hHeld=>?_);clear hK K;refine WP.step rfl (fun K hK=>?_)
 go_simp
 obtain⟨w3,e3⟩:=je ((w2.alloc (.cells #[.slice (some ⟨LL,0,none⟩) 4 4,.slice (some ⟨HH,0,none⟩) 4 4] 293)).drew);have hb:Below w2.heap.size w2 w3:=by rw[e3];exact((Below.refl _ w2).alloc (Nat.le_refl _) _).drew
 obtain⟨GG,hG⟩:=je (w2.heap.size)
 have hpp:PartsL w3 GG 0 [.slice (some ⟨LL,0,none⟩) 4 4,.slice (some ⟨HH,0,none⟩) 4 4] [Jn lo,Jn hi]:=by
  refine⟨rfl,fun i hi9=>?_⟩;have hc0:w3.cell? ⟨GG,0,none⟩=some (.slice (some ⟨LL,0,none⟩) 4 4):=by rw[e3,hG];simp
  have hc1:w3.cell? ⟨GG,1,none⟩=some (.slice (some ⟨HH,0,none⟩) 4 4):=by rw[e3,hG];simp
  rcases(show i=0∨i=1 by simp at hi9;omega) with rfl|rfl
  ·exact⟨_,_,rfl,rfl,hc0,(U0.later hb HA.out).words⟩
  ·exact⟨_,_,rfl,rfl,hc1,(U0.later hb HB.out).words⟩
 rw[<-e3,<-hG];clear e3 hG;have hR2:RR<w3.heap.size:=jv U2 hb.size;have HF:=jh (HF.out.later hb U2);have HA:=jn hb HA;have HB:=jn hb HB;have HC:=jn hb HC;have HR:=jn hb HR;have B:=jw B hb;clear hb U2;have U2:=hR2;clear hR2;refine(gU w3 hpp (by simp) (by decide) (by simp[Jn])).mono ?_;rintro _ w4 ⟨v4,rfl,ho,hb⟩;clear hpp;have vJ:=jh (show Own64 w4 RR v4 (Jn lo++Jn hi) from⟨ho.at_,fun g hg=>by have:=(O1.lt ho g hg);omega⟩);clear ho;have hR2:RR<w4.heap.size:=jv U2 hb.size;have HF:=jh (HF.out.later hb U2);have HA:=jn hb HA;have HB:=jn hb HB;have HC:=jn hb HC;have HR:=jn hb HR;have B:=jw B hb;clear hb U2;have U2:=hR2;clear hR2;dsimp only;refine qD hK (trivial) (fun hHeld=>?_);clear hK K;refine jq ?_;refine WP.done ?_;dsimp only[calmQ]
 gi_wp2_with fail
 obtain⟨L,hL⟩:=je (Jn lo++Jn hi);rw[<-hL] at vJ;have HL:=jh hL;have hL8:L.length=8:=by rw[hL];simp[Jn]
 have HLW:=jh (show∀y∈L,y<jf from fun y hy=>by rw[hL,List.mem_append] at hy;rcases hy with h|h<;>exact words_lt _ _ h);clear hL;obtain⟨⟨ao,cap,rfl,hkk⟩,hown⟩:=vJ.out;have K4:F7 .u64 w4 (.slice ao L.length cap) L:=⟨ao,cap,rfl,hkk⟩;clear hkk;have HOWN:=jh hown;clear hown vJ;refine⟨trivial,(callsIn_wide.2 (uT ao L.length cap w4)).mono ?_⟩;rintro _ w5 ⟨rfl,e5⟩;obtain⟨Bn,hBn⟩:=je (w4.heap.size);have hb:=jc e5;have PB:w5.heap[Bn]?=some (.cells #[.slice ao L.length cap] 293 (0,0)):=by rw[e5,hBn];exact heap_alloc_new w4 _
 have hs5:w5.heap.size=Bn+1:=by rw[e5,hBn];simp
 rw[<-hBn];have K5:=K4.later hb;have hRB:RR<Bn:=by rw[hBn];exact U2
 have HOWN:=jh (show∀g,(Value.slice ao L.length cap).ownBlock=some g->g<w5.heap.size/\g≠RR from fun g hg=>by have:=HOWN.out g hg;omega);have hR2:RR<w5.heap.size:=jv U2 hb.size;have HF:=jh (HF.out.later hb U2);have HA:=jn hb HA;have HB:=jn hb HB;have HC:=jn hb HC;have HR:=jn hb HR;have B:=jw B hb;clear hb U2;have U2:=hR2;clear hR2;have EG:=jh PB;have HK5:=jh K5;have hwR:w.heap.size<=RR:=by omega
 have hRM:MM≠RR:=by omega
 clear e5 PB K4 K5
 gi_wp2_with fail
 refine' lY (by omega) (vX:=277) (caps:=#[.pointer (some ⟨Bn,0,none⟩)]) (encs:=fun i=>#[.int .i64 i,.int .u64 (L.getD i 0)]) (by go_simp) ?hent (fun g=>g<w5.heap.size/\g≠RR) (fun k hk=>hk.1) L.length (fun i=>rfl) (fun k W=>BG w w5 RR MM m (Zh m L k) W) ?hI ?h0 ?hit _ ?hassign ?hbody ?hdone
 case hent=>intro args W;simp[go_sem]
 case hI=>intro k A l o o9 hl ho hn h;exact h.putObj hl U2 (by omega) (by omega)
 case h0=>intro o1 o2;rw[leftN_end];exact BG.start HR.out HF.out HC.out B.out U2 (((Below.refl _ w5).alloc (Nat.le_refl _) _).alloc (by simp) _)
 case hit=>
  intro l J W hY hb hJ;exact NW _ (by omega) l Bn (fun g=>g<w5.heap.size/\g≠RR) ⟨by omega,by omega⟩ L _ J W (by omega) (YR hb EG.out) (HK5.out.later hb) HOWN.out hY hJ
 case hassign=>
  intro l i W K hK
  gi_wp2_with fail
  exact hK
 case hbody=>
  intro l i W hiL h;have HM:=jh h;obtain⟨r,hr⟩:=je (Zh m L (i+1));obtain⟨d,hd⟩:=je (L.getD i 0);have hrm:r<m:=by rw[hr];exact sV pU.out L _
  have hdw:d<jf:=by rw[hd,List.getD_eq_getElem?_getD,List.getElem?_eq_getElem hiL];exact HLW.out _ (List.getElem_mem hiL)
  have hst:=kM m L i hiL;rw[<-hr,<-hd] at hst;have HST:=jh hst;rw[<-hr] at HM;rw[List.getD_eq_getElem?_getD] at hd;clear hst hr h;have hrw:r<jf:=Nat.lt_trans hrm HML.out;obtain⟨r0,r1,r2,r3⟩:=jF HM.out.r;obtain⟨m0,m1,m2,m3⟩:=jF HM.out.m;obtain⟨dr0,dr1,dr2,dr3⟩:=qY hrw;obtain⟨dm0,_,_,_⟩:=qY HML.out;have ff:=HM.out.f 0 (by omega);rw[dr0] at r0;rw[dm0] at m0;rw[<-hd];clear hd
  gi_wp2_with fail
  refine⟨trivial,CallsIn.inRound l ((callsIn_wide.2 (Zz r d m hdw HML.out hrm W)).mono ?_)⟩;rintro _ w6 ⟨rfl,hb⟩;have kF:=jh hb;have ff6:=(hb.frozen (p:=⟨RR,0,none⟩) HM.out.rl).trans ff;have c6:=(hb.cell (p:=⟨RR,0,none⟩) HM.out.rl).trans r0;clear hb r0 r1 r2 r3 m0 m1 m2 m3
  gi_wp2_with fail
  have ev:((r:Int)*(jf:Nat)+d)%m=((Zh m L i:Nat):Int):=by rw[HST.out];simp
  rw[ev];have hlt2:Zh m L i<jf:=Nat.lt_trans (sV pU.out L i) HML.out;obtain⟨r2,hr2⟩:=je (Zh m L i);rw[<-hr2] at hlt2⊢;clear ev c6 ff6 HST hr2;obtain⟨we,lZ⟩:=je (w6.setCell ⟨RR,0,none⟩ (.int .u64 (r2:Nat)));rw[<-lZ];have hsm:∀g,g≠RR->we.heap[g]?=w6.heap[g]?:=fun g h1=>by rw[lZ];exact Below.heap_setCell _ _ _ _ h1
  have hss:we.heap.size=w6.heap.size:=by rw[lZ];simp
  have hos:we.os=w6.os/\we.tape=w6.tape/\we.output=w6.output:=by rw[lZ];exact⟨rfl,rfl,rfl⟩
  have s6:=kF.out.size;refine⟨⟨by omega,fun k o hk ho _=>?_⟩,⟨hos.1.trans kF.out.os,hos.2.1.trans kF.out.tape,hos.2.2.trans kF.out.output,by omega,fun g hg=>(hsm g hg.2).trans (kF.out.block g (by have:=HM.out.s;omega))⟩,⟨?_,?_,?_,?_,by have:=HM.out.s;omega,by have:=HM.out.rl;omega⟩⟩
  ·exact(hsm k (by omega)).trans ((kF.out.block k (zA ho)).trans ho)
  ·rw[lZ];refine rC.congr (rC.set (U0.later kF.out HM.out.r) 0 r2) ?_;obtain⟨e0,e1,e2,e3⟩:=qY hlt2;intro j hj
   rcases(show j=0∨j=1∨j=2∨j=3 by omega) with rfl|rfl|rfl|rfl<;>simp[e0,e1,e2,e3,dr1,dr2,dr3]
  ·rw[lZ];exact Y0.set (HM.out.f.later kF.out HM.out.rl) _ _
  ·exact fun j hj=>(World.cell?_of_block (a:=⟨MM,j,none⟩) (hsm MM hRM)).trans (U0.later kF.out HM.out.m j hj)
  ·exact⟨hos.1.trans (kF.out.os.trans HM.out.b.os),hos.2.1.trans (kF.out.tape.trans HM.out.b.tape),hos.2.2.trans (kF.out.output.trans HM.out.b.output),by have:=HM.out.b.size;omega,fun g hg=>(hsm g (by omega)).trans ((kF.out.block g (by have:=HM.out.b.size;omega)).trans (HM.out.b.block g hg))⟩
 case hdone=>
  intro D W hD h hDf;rw[EY,HL.out,valN_two HLO.out HHI.out,<-HQ9.out] at h;have HM:=jh h;obtain⟨g0,g1,g2,g3,f0,f1,f2,f3⟩:=jU h.r h.f;clear h;have HDF:=jh hDf;clear hDf
  gi_wp2_with fail
  obtain⟨we,lZ⟩:=je (((((W.setCell ⟨RR,0,none⟩ (.int .u64 (jg jf Q9 0))).setCell ⟨RR,1,none⟩ (.int .u64 (jg jf Q9 1))).setCell ⟨RR,2,none⟩ (.int .u64 (jg jf Q9 2))).setCell ⟨RR,3,none⟩ (.int .u64 (jg jf Q9 3))));have N7:U0 we RR Q9:=by rw[lZ];exact U0.set4 HM.out.r Q9
  have B9:Below w.heap.size w we:=by rw[lZ];exact jO HM.out.b hwR _ _ _ _
  have hDR:D≠RR:=by omega
  have x9:we.heap[D]?=some (.deferred (some [])):=by rw[lZ,Below.heap_setCell _ _ _ _ hDR,Below.heap_setCell _ _ _ _ hDR,Below.heap_setCell _ _ _ _ hDR,Below.heap_setCell _ _ _ _ hDR];exact HDF.out
  rw[<-lZ];clear lZ;obtain⟨wf,kZ⟩:=je (we.putObj D (.deferred none));have hsf:∀g,g≠D->wf.heap[g]?=we.heap[g]?:=fun g h1=>by rw[kZ];exact World.putObj_heap_other (by omega)
  have HF9:U0 wf RR Q9:=fun j hj=>(World.cell?_of_block (a:=⟨RR,j,none⟩) (hsf RR hDR.symm)).trans (N7 j hj)
  clear g0 g1 g2 g3;obtain⟨g0,g1,g2,g3⟩:=jF HF9;refine⟨by simp,.inl ⟨D,wf,rfl,by rw[kZ];exact run_takeDeferred x9,?_⟩⟩;refine⟨.tuple #[.agg #[.int .u64 (jg jf Q9 0),.int .u64 (jg jf Q9 1),.int .u64 (jg jf Q9 2),.int .u64 (jg jf Q9 3)],.int .i64 0],by simp[results,results209,go_sem,g0,g1,g2,g3],rfl,?_⟩;exact⟨by rw[kZ];exact B9.os,by rw[kZ];exact B9.tape,by rw[kZ];exact B9.output,by rw[kZ];simpa using B9.size,fun g hg=>(hsf g (by omega)).trans (B9.block g hg)⟩
theorem PW{lo hi m:Nat}(hlo:lo<jk)(hhi:hi<jk)(hm:m<jk)(hm0:0<m)(w:World):Calls prog 209 #[ji lo,ji hi,ji m] w fun e w'=>e=.returned (.tuple #[ji ((hi*jk+lo)%m),.int .i64 0])/\Below w.heap.size w w':=by
 rcases Nat.lt_or_ge m jf with h|h
 ·exact OX hlo hhi hm0 h w
 ·exact wide_long hlo hhi hm h w
theorem wU{a b m:Nat}(ha:a<jf)(hb:b<jf)(hm:m<jf)(hab:a*b<m*jf)(w:World):
  Calls prog 167 #[.int .u64 a,.int .u64 b,.int .u64 m] w fun e w'=>e=.returned (.int .u64 ((a*b%m:Nat):Int))/\Below w.heap.size w w':=by
 obtain⟨h,hh⟩:=je (a*b/18446744073709551616);obtain⟨l,hl⟩:=je (a*b%18446744073709551616);have CM:=jh (fun w=>by have h9:=Tryz.bits_Mul64 a b ha hb w;rw[<-hh,<-hl] at h9;exact h9);have fJ:l<jf:=by rw[hl];exact Nat.mod_lt _ (by omega)
 have hh9:h<m:=by
  rw[hh];refine(Nat.div_lt_iff_lt_mul (by omega)).2 ?_;exact hab
 have CD:=jh (fun w=>Zz h l m fJ hm hh9 w)
 have hv:h*jf+l=a*b:=by
  rw[hh,hl,Nat.mul_comm];exact Nat.div_add_mod _ _
 rw[hv] at CD;clear hh hl fJ hh9 hv ha hb hm hab
 go_enter func167,ntmps167
 go_wp2_with fail
 refine(CM.out _).mono ?_;rintro _ w1 ⟨rfl,rfl⟩
 go_wp2_with fail
 refine(CD.out _).mono ?_;rintro _ w2 ⟨rfl,hb⟩
 go_wp2_with fail
 refine bodyPost_ret (v:=.int .u64 ((a*b%m:Nat):Int)) ?_ rfl ⟨rfl,hb⟩
 simp[results,results167,go_sem]
theorem DU{a b m:Nat}(ha:a<m)(L6:b<m)(hml:m<jf)(w:World):Calls prog 170 #[ji a,ji b,ji m] w fun e w'=>e=.returned (ji (a*b%m))/\Below w.heap.size w w':=by
 obtain⟨q,hq⟩:=je (a*b%m);rw[<-hq];have hm0:0<m:=by omega
 have hm:m<jk:=by unfold jk;unfold jf at hml;omega
 obtain⟨n,hn⟩:=je (qm m);have CB:=jh (fun w=>by have h:=QY hm w;rw[<-hn] at h;unfold ji words at h;exact h);have hnI:(n:Int)<=64:=by have:=lC.2 hml;omega
 have hqw:q<jf:=by rw[hq];exact Nat.lt_trans (Nat.mod_lt _ hm0) hml
 have CW:=jh (fun w=>by have h:=wU (Nat.lt_trans ha hml) (Nat.lt_trans L6 hml) hml (jv (Nat.mul_lt_mul_of_lt_of_lt ha (Nat.lt_trans L6 hml)) (Nat.le_refl _)) w;rw[<-hq] at h;exact h);have CO:=jh (fun w=>by have h:=Qc q hqw w;unfold ji words at h;exact h);have da:=jh (qY (Nat.lt_trans ha hml)).1;have db:=jh (qY (Nat.lt_trans L6 hml)).1;have dm:=jh (qY hml).1;clear hq hn hml hm0 hm ha L6 hqw;unfold ji words
 go_enter func170,ntmps170
 go_wp2_with fail
 obtain⟨wz,AA,BB,MM,RR,e9,Y5,h_1,h_2,h_3,V3,X4,V4,HRR,HF,B,I7,l_1,NC,BI,xA,Z5,U2⟩:=zT w 24 a b m;rw[e9,Y5,h_1,h_2,h_3];clear e9 Y5 h_1 h_2 h_3;refine(CB.out _).mono ?_;rintro _ w1 ⟨rfl,hb⟩;obtain⟨V3,X4,V4,HRR,HF,U2,B⟩:=qQ hb V3 X4 V4 HRR HF U2 B;clear hb;obtain⟨X3,U4,J4,I4⟩:=jF V3.out;obtain⟨X5,H6,G6,F6⟩:=jF X4.out;obtain⟨F5,V5,U5,Q5⟩:=jF V4.out;rw[da.out] at X3;rw[db.out] at X5;rw[dm.out] at F5
 go_wp2_with fail
 refine(CW.out _).mono ?_;rintro _ w2 ⟨rfl,hb⟩;obtain⟨V3,X4,V4,HRR,HF,U2,B⟩:=qQ hb V3 X4 V4 HRR HF U2 B;clear hb;clear X3 U4 J4 I4 X5 H6 G6 F6 F5 V5 U5 Q5
 go_wp2_with fail
 refine(CO.out _).mono ?_;rintro _ w3 ⟨rfl,hb⟩;obtain⟨V3,X4,V4,HRR,HF,U2,B⟩:=qQ hb V3 X4 V4 HRR HF U2 B;clear hb;obtain⟨c0,c1,c2,c3,f0,f1,f2,f3⟩:=jU HRR.out HF.out
 go_wp2_with fail
 obtain⟨N7,B9⟩:=zP HRR B Z5 q;obtain⟨g0,g1,g2,g3⟩:=jF N7.out;refine bodyPost_ret (v:=ji q) ?_ rfl ⟨rfl,B9.out⟩
 simp[results,results170,go_sem,ji,words,g0,g1,g2,g3]
theorem UX{a b m:Nat}(ha:a<m)(L6:b<m)(hml:jf<=m)(hm:m<jk)(w:World):Calls prog 170 #[ji a,ji b,ji m] w fun e w'=>e=.returned (ji (a*b%m))/\Below w.heap.size w w':=by
 obtain⟨q,hq⟩:=je (a*b%m);rw[<-hq];have hm0:0<m:=by omega
 obtain⟨n,hn⟩:=je (qm m);have CB:=jh (fun w=>by have h:=QY hm w;rw[<-hn] at h;unfold ji words at h;exact h);have hnI:¬(n:Int)<=64:=by have:=mt lC.1 (show¬m<jf by omega);omega
 have C9:=Nat.lt_trans ha hm;have hb8:=Nat.lt_trans L6 hm;obtain⟨x,hx⟩:=je (mulL a b);obtain⟨y,hy⟩:=je (yJ a b);have CM:=jh (fun w=>by have h:=mul_any C9 hb8 w;rw[<-hx,<-hy] at h;unfold ji words at h;exact h);have hxy:y*jk+x=a*b:=by rw[hx,hy];unfold mulL yJ;rw[Nat.mul_comm];exact Nat.div_add_mod _ _
 have CW:=jh (fun w=>by have h:=PW (lo:=x) (hi:=y) (by rw[hx];exact mulL_lt _ _) (by rw[hy];exact mulH_lt C9 hb8) hm hm0 w;rw[hxy,<-hq] at h;unfold ji words at h;exact h);clear hq hn hml hm0 hm ha L6 C9 hb8 hx hy hxy;unfold ji words
 go_enter func170,ntmps170
 go_wp2_with fail
 obtain⟨wz,AA,BB,MM,RR,e9,Y5,h_1,h_2,h_3,V3,X4,V4,HRR,HF,B,I7,l_1,NC,BI,xA,Z5,U2⟩:=zT w 24 a b m;rw[e9,Y5,h_1,h_2,h_3];clear e9 Y5 h_1 h_2 h_3;refine(CB.out _).mono ?_;rintro _ w1 ⟨rfl,hb⟩;obtain⟨V3,X4,V4,HRR,HF,U2,B⟩:=qQ hb V3 X4 V4 HRR HF U2 B;clear hb;obtain⟨X3,U4,J4,I4⟩:=jF V3.out;obtain⟨X5,H6,G6,F6⟩:=jF X4.out;obtain⟨F5,V5,U5,Q5⟩:=jF V4.out
 go_wp2_with fail
 refine(CM.out _).mono ?_;rintro _ w2 ⟨rfl,hb⟩;obtain⟨V3,X4,V4,HRR,HF,U2,B⟩:=qQ hb V3 X4 V4 HRR HF U2 B;clear hb;clear X3 U4 J4 I4 X5 H6 G6 F6 F5 V5 U5 Q5;have q_0:=fun o1 o2=>(U0.alloc (U0.alloc V4.out o1) o2) 0 (by omega)
 have q_1:=fun o1 o2=>(U0.alloc (U0.alloc V4.out o1) o2) 1 (by omega)
 have q_2:=fun o1 o2=>(U0.alloc (U0.alloc V4.out o1) o2) 2 (by omega)
 have q_3:=fun o1 o2=>(U0.alloc (U0.alloc V4.out o1) o2) 3 (by omega)
 obtain⟨ww,eww⟩:=je ((w2.alloc (.cells (jD x) 24)).alloc (.cells (jD y) 24));have hb:Below w2.heap.size w2 ww:=by rw[eww];exact(ja).alloc (by simp) _
 go_wp2_with fail
 rw[<-eww];clear eww q_0 q_1 q_2 q_3;obtain⟨V3,X4,V4,HRR,HF,U2,B⟩:=qQ hb V3 X4 V4 HRR HF U2 B;clear hb;refine(CW.out _).mono ?_;rintro _ w3 ⟨rfl,hb⟩;obtain⟨V3,X4,V4,HRR,HF,U2,B⟩:=qQ hb V3 X4 V4 HRR HF U2 B;clear hb;obtain⟨c0,c1,c2,c3,f0,f1,f2,f3⟩:=jU HRR.out HF.out
 go_wp2_with fail
 obtain⟨N7,B9⟩:=zP HRR B Z5 q;have hba:∀W:World,Below W.heap.size W (W.alloc (.cells #[.int .u64 (jg jf q 0),.int .u64 (jg jf q 1),.int .u64 (jg jf q 2),.int .u64 (jg jf q 3)] 24)):=fun W=>ja
 have B9:=jh (jm B9.out (hba _));have N7:=jh (U0.later (hba _) N7.out);clear hba;obtain⟨g0,g1,g2,g3⟩:=jF N7.out;refine bodyPost_ret (v:=ji q) ?_ rfl ⟨rfl,B9.out⟩
 simp[results,results170,go_sem,ji,words,g0,g1,g2,g3]
theorem KL{a b m:Nat}(ha:a<m)(hb:b<m)(hm:m<jk)(w:World):Calls prog 170 #[ji a,ji b,ji m] w fun e w'=>e=.returned (ji (a*b%m))/\Below w.heap.size w w':=by
 rcases Nat.lt_or_ge m jf with h|h
 ·exact DU ha hb h w
 ·exact UX ha hb h hm w
theorem Qj{a b:Nat}(h:a<b):zk a b= -1:=by unfold zk;rw[if_pos h]
theorem Jw{a b:Nat}(h:b<a):zk a b=1:=by unfold zk;rw[if_neg (by omega),if_neg (by omega)]
theorem iR{a b m q:Nat}(ha:a<m)(L6:b<m)(h1:1<m)(hm:m<jk){f:FuncId}{caps:Array Value}(w:World)(hent:∀(args:Array Value) (W:World),(callFunc f args).run prog W=.ok (.enter f args) W)
  (hdo:∀W,Below w.heap.size w W->Calls prog f (#[ji a,ji b,ji m]++caps) W fun e w'=>e=.returned (ji q)/\Below W.heap.size W w'):
  Calls prog 171 #[.agg #[.func (.func f) #[] caps],ji a,ji b,ji m] w fun e w'=>e=.returned (.tuple #[ji q,.int .i64 0])/\Below w.heap.size w w':=by
 have ha8:=Nat.lt_trans ha hm;have hb8:=Nat.lt_trans L6 hm;have C1:=jh (fun w=>by have h:=zY 1 1 rfl (by decide) w;unfold ji words at h;exact h);have K1:=jh (fun w=>by have h:=zj hm (show 1<jk by decide) w;rw[Jw h1] at h;unfold ji words at h;exact h);have K2:=jh (fun w=>by have h:=zj ha8 hm w;rw[Qj ha] at h;unfold ji words at h;exact h);have K3:=jh (fun w=>by have h:=zj hb8 hm w;rw[Qj L6] at h;unfold ji words at h;exact h);have HE:=jh hent;have HD:=jh hdo;clear ha L6 h1 hm ha8 hb8 hent hdo;unfold ji words at*
 go_enter func171,ntmps171
 go_wp2_with fail
 obtain⟨w0,e0⟩:=je (w.alloc (.cells #[.func (.func f) #[] caps] 251));obtain⟨DD,hDD⟩:=je (w.heap.size);have b0:=jc e0;have s0:w0.heap.size=w.heap.size+1:=by rw[e0];simp
 have d0:w0.cell? ⟨DD,0,none⟩=some (.func (.func f) #[] caps):=by rw[e0,hDD];simp
 rw[<-e0,<-s0,<-hDD];have HB0:=jh b0;have hD0:DD<w0.heap.size:=by omega
 clear e0 hDD b0 s0;obtain⟨wz,AA,BB,MM,RR,e9,Y5,h_1,h_2,h_3,V3,X4,V4,HRR,HF,B,I7,l_1,NC,BI,xA,Z5,U2⟩:=zT w0 24 a b m;rw[e9,Y5,h_1,h_2,h_3];clear e9 Y5 h_1 h_2 h_3;have D0:=jh ((B.out.cell (p:=⟨DD,0,none⟩) hD0).trans d0);have hD1:DD<wz.heap.size:=jv hD0 B.out.size;clear d0;refine zM 16 (fun F O9 hcl hbl=>?_);obtain⟨X3,U4,J4,I4⟩:=qF hbl V3;obtain⟨X5,H6,G6,F6⟩:=qF hbl X4;obtain⟨F5,V5,U5,Q5⟩:=qF hbl V4;have I5:=jh hcl;clear hcl hbl;refine zL 16 ?_;simp only[zo,zn,zm,zl,Nat.reduceAdd]
 repeat (go_big_quiet_step ((first|(go_at_call 99;with_reducible exact jp I5.out (C1.out _))|(go_at_call 26;with_reducible exact jp I5.out (K1.out _))|(go_at_call 26;with_reducible exact jp I5.out (K2.out _))|(go_at_call 26;with_reducible exact jp I5.out (K3.out _)))))
 refine wpQuiet_nil ?_;refine jS ?_;intro bs w2 hb _ _;clear X3 U4 J4 I4 X5 H6 G6 F6 F5 V5 U5 Q5;have D0:=jh ((hb.cell (p:=⟨DD,0,none⟩) hD1).trans D0.out);obtain⟨V3,X4,V4,HRR,HF,U2,B⟩:=qQ hb V3 X4 V4 HRR HF U2 B;clear hb;simp only[over];have d0:=D0.out;obtain⟨X3,U4,J4,I4⟩:=jF V3.out;obtain⟨X5,H6,G6,F6⟩:=jF X4.out;obtain⟨F5,V5,U5,Q5⟩:=jF V4.out;have he:=HE.out
 go_wp2_with fail
 clear X3 U4 J4 I4 X5 H6 G6 F6 F5 V5 U5 Q5;refine(HD.out w2 (jm HB0.out B.out)).mono ?_;rintro _ w3 ⟨rfl,hb⟩;clear d0 he;obtain⟨V3,X4,V4,HRR,HF,U2,B⟩:=qQ hb V3 X4 V4 HRR HF U2 B;clear hb;obtain⟨c0,c1,c2,c3,f0,f1,f2,f3⟩:=jU HRR.out HF.out
 go_wp2_with fail
 obtain⟨N7,B9⟩:=zP HRR B Z5 q;obtain⟨g0,g1,g2,g3⟩:=jF N7.out;refine bodyPost_ret (v:=.tuple #[ji q,.int .i64 0]) ?_ rfl ⟨rfl,jm HB0.out B9.out⟩
 simp[results,results171,go_sem,ji,words,g0,g1,g2,g3]
theorem pow_start{a n m B:Nat}(hB:n<2^B)(h1:1<m):1=a^(n/2^(B-0))%m:=by
 rw[Nat.sub_zero,Nat.div_eq_of_lt hB,Nat.pow_zero,Nat.mod_eq_of_lt h1]
theorem XU{n B k:Nat}(hk:k<B):n/2^(B-(k+1))=2*(n/2^(B-k))+n/2^(B-1-k)%2:=by
 obtain⟨i,hi⟩:=je (B-(k+1));rw[show B-k=i+1 by omega,show B-1-k=i by omega,<-hi,Nat.pow_succ,<-Nat.div_div_eq_div_mul];omega
theorem pow_even{a n m o B k:Nat}(hk:k<B)(h:o=a^(n/2^(B-k))%m)(hb:n/2^(B-1-k)%2=0):o*o%m=a^(n/2^(B-(k+1)))%m:=by
 rw[XU hk,hb,h,Nat.add_zero,Nat.mul_comm 2,Nat.pow_mul,Nat.pow_two,<-Nat.mul_mod]
theorem pow_odd{a n m o B k:Nat}(hk:k<B)(h:o=a^(n/2^(B-k))%m)(hb:n/2^(B-1-k)%2=1):o*o%m*a%m=a^(n/2^(B-(k+1)))%m:=by
 rw[XU hk,hb,h,Nat.pow_succ,Nat.mul_comm 2,Nat.pow_mul,Nat.pow_two,<-Nat.mul_mod,Nat.mul_mod (_%m) a m,Nat.mod_mod,<-Nat.mul_mod]
theorem pow_end{a n m o B:Nat}(h:o=a^(n/2^(B-B))%m):o=a^n%m:=by rw[h,Nat.sub_self,Nat.pow_zero,Nat.div_one]
theorem Zk{n:Nat}(hn:n<jk):qm n<=256:=by
 have h:=Jy n
 rcases Nat.lt_or_ge 256 (qm n) with h9|h9
 ·have h0:n≠0:=by rintro rfl;simp[qm] at h9
  have h8:=h.2 h0;have h7:2^256<=2^(qm n-1):=Nat.pow_le_pow_right (by omega) (by omega);rw[<-xC] at h7;omega
 ·exact h9
theorem GH{n j:Nat}(hj:j<256):Qu n ((j:Nat):Int)=n/2^j%2:=by
 unfold Qu;rw[if_neg (by omega),Int.toNat_natCast]
theorem power_num{a n m:Nat}(ha:a<m)(h1:1<m)(hm:m<jk)(hn:n<jk){f:FuncId}{caps:Array Value}(w:World)(hent:∀(args:Array Value) (W:World),(callFunc f args).run prog W=.ok (.enter f args) W)
  (ht:∀x y W,x<m->y<m->Below w.heap.size w W->Calls prog f (#[ji x,ji y]++caps) W fun e w'=>e=.returned (ji (x*y%m))/\Below W.heap.size W w'):
  Calls prog 168 #[ji a,ji 1,ji n,.func (.func f) #[] caps] w fun e w'=>e=.returned (ji (a^n%m))/\Below w.heap.size w w':=by
 obtain⟨L,hL⟩:=je (qm n);have hL2:L<=256:=by rw[hL];exact Zk hn
 have hLn:n<2^L:=by rw[hL];exact(Jy n).1
 have CB:=jh (fun w=>by have h:=QY hn w;rw[<-hL] at h;unfold ji words at h;exact h);have HE:=jh hent;have HT:=jh ht;have HAM:=jh ha;have nD:=jh hn;have KN:=jh h1;have HLn:=jh hLn;obtain⟨Q,hQ⟩:=je (a^n%m);rw[<-hQ];have HQ:=jh hQ;clear hL hLn hQ ha hn hent ht;unfold ji words at*
 go_enter func168,ntmps168
 go_wp2_with fail
 obtain⟨wz,AA,BB,NN,RR,e9,Y5,h_1,h_2,h_3,V3,X4,D6,HRR,HF,B,I7,l_1,NC,BI,xA,Z5,U2⟩:=zT w 24 a 1 n;rw[e9,Y5,h_1,h_2,h_3];clear e9 Y5 h_1 h_2 h_3;obtain⟨X5,H6,G6,F6⟩:=jF X4.out;obtain⟨X6,V6,U6,P6⟩:=jF D6.out
 go_wp2_with fail
 obtain⟨w1,e1⟩:=je (wz.alloc (.cells #[.int .u64 (jg jf 1 0),.int .u64 (jg jf 1 1),.int .u64 (jg jf 1 2),.int .u64 (jg jf 1 3)] 24));have hb:=jc e1;obtain⟨OO,hO9⟩:=je (RR+1);rw[<-e1,<-hO9];have hO:OO=wz.heap.size:=by rw[hO9,I7.out]
 have oC:=jh (show U0 w1 OO 1 by rw[e1];exact U0.new wz 1 _ _ hO);have cO:=jh (show Y0 w1 OO 4 by rw[e1];exact Y0.made wz _ _ 4 _ hO);have bK:OO<w1.heap.size:=by rw[e1,hO];simp
 have hRO:RR<OO:=by omega
 have hwO:w.heap.size<=OO:=by have:=B.out.size;omega
 clear e1 hO hO9;clear X5 H6 G6 F6 X6 V6 U6 P6;obtain⟨V3,X4,D6,HRR,HF,U2,B⟩:=qQ hb V3 X4 D6 HRR HF U2 B;clear hb;refine(CB.out _).mono ?_;rintro _ w2 ⟨rfl,hb⟩;have cO:=jh (cO.out.later hb bK);have bK:=jv bK hb.size;have V3:=jn hb V3;obtain⟨X4,D6,HRR,oC,HF,U2,B⟩:=qQ hb X4 D6 HRR oC HF U2 B;clear hb
 go_wp2_with fail
 go_loopw [14] (fun i wr=>∃k o:Nat,k<=L/\i=.int .i64 k/\o<m/\Hid (o=a^(n/2^(L-k))%m)/\Hid (U0 wr OO o)/\Hid (Y0 wr OO 4)/\Hid (U0 wr AA a)/\Hid (U0 wr BB 1)/\Hid (U0 wr NN n)/\Hid (U0 wr RR 0)/\Hid (Y0 wr RR 4)/\Hid (Below w.heap.size w wr)/\OO<wr.heap.size) (fun i _=>L-(intOf i).toNat)
 case atStart=>exact⟨0,1,Nat.zero_le _,rfl,h1,jh (pow_start HLn.out h1),oC,cO,V3,X4,D6,HRR,HF,B,bK⟩
 case round=>
  clear oC cO V3 X4 D6 HRR HF B bK;obtain⟨k,o,hk,rfl,TY,HO,oC,cO,V3,X4,D6,HRR,HF,B,bK⟩:=hrel;have U2:RR<wr.heap.size:=by omega
  have nOA:AA≠OO:=by omega
  have nOB:BB≠OO:=by omega
  have nON:NN≠OO:=by omega
  have nOR:RR≠OO:=by omega
  by_cases hlt:k<L
  ·have O6:(k:Int)<(L:Int):=by omega
   obtain⟨oo,hoo⟩:=je (o*o%m);have hoom:oo<m:=by rw[hoo];exact Nat.mod_lt _ (by omega)
   have C2:=jh (fun W hb=>by have h:=HT.out o o W TY TY hb;rw[<-hoo] at h;exact h);obtain⟨j,hj⟩:=je (L-1-k);have eI:((L:Int)-1-(k:Int))=(j:Int):=by omega
   obtain⟨b,hb⟩:=je (n/2^j%2);have CT:=jh (fun w=>by have h:=fK (a:=n) (j:Int) w (by omega) (by omega);rw[GH (by omega),<-hb] at h;unfold ji words at h;exact h);have he:=HE.out;obtain⟨r0,r1,r2,r3,f0,f1,f2,f3⟩:=jU oC.out cO.out;have hb2:b=0∨b=1:=by omega
   have HB:=jh (show b=n/2^(L-1-k)%2 by rw[hb,hj]);have HOO2:=jh hoo;clear hb hoo hj
   go_wp2_with fail
   refine(C2.out _ B.out).mono ?_;rintro _ w3 ⟨rfl,hb⟩;clear r0 r1 r2 r3 f0 f1 f2 f3 he;have cO:=jh (cO.out.later hb bK);have bK:=jv bK hb.size;have V3:=jn hb V3;obtain⟨X4,D6,HRR,oC,HF,U2,B⟩:=qQ hb X4 D6 HRR oC HF U2 B;clear hb;obtain⟨r0,r1,r2,r3,f0,f1,f2,f3⟩:=jU oC.out cO.out
   go_wp2_with fail
   clear r0 r1 r2 r3 f0 f1 f2 f3;obtain⟨w4,e9⟩:=je ((((w3.setCell ⟨OO,0,none⟩ (.int .u64 (jg jf oo 0))).setCell ⟨OO,1,none⟩ (.int .u64 (jg jf oo 1))).setCell ⟨OO,2,none⟩ (.int .u64 (jg jf oo 2))).setCell ⟨OO,3,none⟩ (.int .u64 (jg jf oo 3)));have oC:=jh (show U0 w4 OO oo by rw[e9];exact U0.set4 oC.out _);have cO:=jh (show Y0 w4 OO 4 by rw[e9];exact cO.out.set4 _ _ _ _ _ _ _ _);have V3:=jh (show U0 w4 AA _ by rw[e9];exact U0.other4 V3.out nOA _ _ _ _);have X4:=jh (show U0 w4 BB _ by rw[e9];exact U0.other4 X4.out nOB _ _ _ _);have D6:=jh (show U0 w4 NN _ by rw[e9];exact U0.other4 D6.out nON _ _ _ _);have HRR:=jh (show U0 w4 RR _ by rw[e9];exact U0.other4 HRR.out nOR _ _ _ _);have HF:=jh (show Y0 w4 RR 4 by rw[e9];exact HF.out.set4 _ _ _ _ _ _ _ _);have B:=jh (show Below w.heap.size w w4 by rw[e9];exact jO B.out hwO _ _ _ _);have hsz:w4.heap.size=w3.heap.size:=by rw[e9];simp
   have bK:OO<w4.heap.size:=by rw[hsz];exact bK
   have U2:RR<w4.heap.size:=by omega
   rw[<-e9];clear e9 hsz
   rcases hb2 with rfl|rfl
   ·skip
    refine zM 8 (fun F O9 hcl hbl=>?_);obtain⟨X6,V6,U6,P6⟩:=qF hbl D6;have I5:=jh hcl;clear hcl hbl;refine zL 8 ?_;simp only[zo,zn,zm,zl,Nat.reduceAdd]
    repeat (go_big_quiet_step ((first|(go_at_call 164;with_reducible exact jp I5.out (CB.out _))|(go_at_call 206;with_reducible exact jp I5.out (CT.out _)))))
    refine wpQuiet_nil ?_;refine jS ?_;intro bs w5 hb _ _;clear X6 V6 U6 P6;have cO:=jh (cO.out.later hb bK);have bK:=jv bK hb.size;have V3:=jn hb V3;obtain⟨X4,D6,HRR,oC,HF,U2,B⟩:=qQ hb X4 D6 HRR oC HF U2 B;clear hb;simp only[over]
    go_wp2_with fail
    have rU:=jh (show oo=a^(n/2^(L-(k+1)))%m by rw[HOO2.out];exact pow_even hlt HO.out HB.out.symm)
    go_roundw
    case rel=>exact⟨k+1,oo,by omega,by go_num,hoom,rU,oC,cO,V3,X4,D6,HRR,HF,B,bK⟩
    case measure=>simp[intOf];omega
   ·skip
    refine zM 8 (fun F O9 hcl hbl=>?_);obtain⟨X6,V6,U6,P6⟩:=qF hbl D6;have I5:=jh hcl;clear hcl hbl;refine zL 8 ?_;simp only[zo,zn,zm,zl,Nat.reduceAdd]
    repeat (go_big_quiet_step ((first|(go_at_call 164;with_reducible exact jp I5.out (CB.out _))|(go_at_call 206;with_reducible exact jp I5.out (CT.out _)))))
    refine wpQuiet_nil ?_;refine jS ?_;intro bs w5 hb _ _;clear X6 V6 U6 P6;have cO:=jh (cO.out.later hb bK);have bK:=jv bK hb.size;have V3:=jn hb V3;obtain⟨X4,D6,HRR,oC,HF,U2,B⟩:=qQ hb X4 D6 HRR oC HF U2 B;clear hb;simp only[over];obtain⟨q2,hq2⟩:=je (oo*a%m);have hq2m:q2<m:=by rw[hq2];exact Nat.mod_lt _ (by omega)
    have C3:=jh (fun W hb=>by have h:=HT.out oo a W hoom HAM.out hb;rw[<-hq2] at h;exact h);have rU:=jh (show q2=a^(n/2^(L-(k+1)))%m by rw[hq2,HOO2.out];exact pow_odd hlt HO.out HB.out.symm);clear hq2;have he:=HE.out;obtain⟨r0,r1,r2,r3⟩:=jF oC.out;obtain⟨s0,s1,s2,s3⟩:=jF V3.out
    go_wp2_with fail
    refine(C3.out _ B.out).mono ?_;rintro _ w6 ⟨rfl,hb⟩;clear r0 r1 r2 r3 s0 s1 s2 s3 he;have cO:=jh (cO.out.later hb bK);have bK:=jv bK hb.size;have V3:=jn hb V3;obtain⟨X4,D6,HRR,oC,HF,U2,B⟩:=qQ hb X4 D6 HRR oC HF U2 B;clear hb;obtain⟨r0,r1,r2,r3,f0,f1,f2,f3⟩:=jU oC.out cO.out
    go_wp2_with fail
    clear r0 r1 r2 r3 f0 f1 f2 f3;obtain⟨w7,e9⟩:=je ((((w6.setCell ⟨OO,0,none⟩ (.int .u64 (jg jf q2 0))).setCell ⟨OO,1,none⟩ (.int .u64 (jg jf q2 1))).setCell ⟨OO,2,none⟩ (.int .u64 (jg jf q2 2))).setCell ⟨OO,3,none⟩ (.int .u64 (jg jf q2 3)));have oC:=jh (show U0 w7 OO q2 by rw[e9];exact U0.set4 oC.out _);have cO:=jh (show Y0 w7 OO 4 by rw[e9];exact cO.out.set4 _ _ _ _ _ _ _ _);have V3:=jh (show U0 w7 AA _ by rw[e9];exact U0.other4 V3.out nOA _ _ _ _);have X4:=jh (show U0 w7 BB _ by rw[e9];exact U0.other4 X4.out nOB _ _ _ _);have D6:=jh (show U0 w7 NN _ by rw[e9];exact U0.other4 D6.out nON _ _ _ _);have HRR:=jh (show U0 w7 RR _ by rw[e9];exact U0.other4 HRR.out nOR _ _ _ _);have HF:=jh (show Y0 w7 RR 4 by rw[e9];exact HF.out.set4 _ _ _ _ _ _ _ _);have B:=jh (show Below w.heap.size w w7 by rw[e9];exact jO B.out hwO _ _ _ _);have hsz:w7.heap.size=w6.heap.size:=by rw[e9];simp
    have bK:OO<w7.heap.size:=by rw[hsz];exact bK
    have U2:RR<w7.heap.size:=by omega
    rw[<-e9];clear e9 hsz
    go_roundw
    case rel=>exact⟨k+1,q2,by omega,by go_num,hq2m,rU,oC,cO,V3,X4,D6,HRR,HF,B,bK⟩
    case measure=>simp[intOf];omega
  ·have hkL:k=L:=by omega
   rw[hkL] at HO⊢;have O6:¬((L:Int)<(L:Int)):=by omega
   have HOQ:=jh (show o=Q by rw[HQ.out];exact pow_end HO.out);clear hkL HO;obtain⟨r_OO_0,r_OO_1,r_OO_2,r_OO_3⟩:=jF oC.out;obtain⟨c0,c1,c2,c3,f0,f1,f2,f3⟩:=jU HRR.out HF.out
   go_wp2_with fail
   rw[HOQ.out];obtain⟨N7,B9⟩:=zP HRR B Z5 Q;obtain⟨g0,g1,g2,g3⟩:=jF N7.out;refine bodyPost_ret (v:=ji Q) ?_ rfl ⟨rfl,B9.out⟩
   simp[results,results168,go_sem,ji,words,g0,g1,g2,g3]
theorem pY{a n m:Nat}(ha:a<m)(h1:1<m)(hn:n<jk){f:FuncId}{caps:Array Value}(w:World)(hent:∀(args:Array Value) (W:World),(callFunc f args).run prog W=.ok (.enter f args) W)
  (ht:∀x y W,x<m->y<m->Below w.heap.size w W->Calls prog f (#[.int .u64 (x:Nat),.int .u64 (y:Nat)]++caps) W fun e w'=>e=.returned (.int .u64 ((x*y%m:Nat):Int))/\Below W.heap.size W w'):
  Calls prog 165 #[.int .u64 (a:Nat),.int .u64 1,ji n,.func (.func f) #[] caps] w fun e w'=>e=.returned (.int .u64 ((a^n%m:Nat):Int))/\Below w.heap.size w w':=by
 obtain⟨L,hL⟩:=je (qm n);have hL2:L<=256:=by rw[hL];exact Zk hn
 have hLn:n<2^L:=by rw[hL];exact(Jy n).1
 have CB:=jh (fun w=>by have h:=QY hn w;rw[<-hL] at h;unfold ji words at h;exact h);have HE:=jh hent;have HT:=jh ht;have HAM:=jh ha;have nD:=jh hn;have KN:=jh h1;have HLn:=jh hLn;obtain⟨Q,hQ⟩:=je (a^n%m);rw[<-hQ];have HQ:=jh hQ;clear hL hLn hQ ha hn hent ht;unfold ji words at*
 go_enter func165,ntmps165
 go_wp2_with fail
 obtain⟨wz,NN,e9,Y5,D6,B,I7,xA,hwNN,U2⟩:=box1 w 24 n;rw[e9,Y5];clear e9 Y5;obtain⟨X6,V6,U6,P6⟩:=jF D6.out
 go_wp2_with fail
 clear X6 V6 U6 P6;refine(CB.out _).mono ?_;rintro _ w2 ⟨rfl,hb⟩;obtain⟨D6,U2,B⟩:=pF hb D6 U2 B;clear hb
 go_wp2_with fail
 go_loopw [9,14] (fun ov i wr=>∃k o:Nat,k<=L/\i=.int .i64 k/\ov=.int .u64 o/\o<m/\Hid (o=a^(n/2^(L-k))%m)/\Hid (U0 wr NN n)/\Hid (Below w.heap.size w wr)/\NN<wr.heap.size) (fun _ i _=>L-(intOf i).toNat)
 case atStart=>exact⟨0,1,Nat.zero_le _,rfl,rfl,h1,jh (pow_start HLn.out h1),D6,B,U2⟩
 case round=>
  clear D6 B U2;obtain⟨k,o,hk,rfl,rfl,TY,HO,D6,B,U2⟩:=hrel
  by_cases hlt:k<L
  ·have O6:(k:Int)<(L:Int):=by omega
   obtain⟨oo,hoo⟩:=je (o*o%m);have hoom:oo<m:=by rw[hoo];exact Nat.mod_lt _ (by omega)
   have C2:=jh (fun W hb=>by have h:=HT.out o o W TY TY hb;rw[<-hoo] at h;exact h);obtain⟨j,hj⟩:=je (L-1-k);have eI:((L:Int)-1-(k:Int))=(j:Int):=by omega
   obtain⟨b,hb⟩:=je (n/2^j%2);have CT:=jh (fun w=>by have h:=fK (a:=n) (j:Int) w (by omega) (by omega);rw[GH (by omega),<-hb] at h;unfold ji words at h;exact h);have he:=HE.out;have hb2:b=0∨b=1:=by omega
   have HB:=jh (show b=n/2^(L-1-k)%2 by rw[hb,hj]);have HOO2:=jh hoo;clear hb hoo hj
   go_wp2_with fail
   refine(C2.out _ B.out).mono ?_;rintro _ w3 ⟨rfl,hb⟩;clear he;obtain⟨D6,U2,B⟩:=pF hb D6 U2 B;clear hb
   go_wp2_with fail
   rcases hb2 with rfl|rfl
   ·skip
    refine zM 8 (fun F O9 hcl hbl=>?_);obtain⟨X6,V6,U6,P6⟩:=qF hbl D6;have I5:=jh hcl;clear hcl hbl;refine zL 8 ?_;simp only[zo,zn,zm,zl,Nat.reduceAdd]
    repeat (go_big_quiet_step ((first|(go_at_call 164;with_reducible exact jp I5.out (CB.out _))|(go_at_call 206;with_reducible exact jp I5.out (CT.out _)))))
    refine wpQuiet_nil ?_;refine jS ?_;intro bs w5 hb _ _;clear X6 V6 U6 P6;obtain⟨D6,U2,B⟩:=pF hb D6 U2 B;clear hb;simp only[over]
    go_wp2_with fail
    have rU:=jh (show oo=a^(n/2^(L-(k+1)))%m by rw[HOO2.out];exact pow_even hlt HO.out HB.out.symm)
    go_roundw
    case rel=>exact⟨k+1,oo,by omega,by go_num,rfl,hoom,rU,D6,B,U2⟩
    case measure=>simp[intOf];omega
   ·skip
    refine zM 8 (fun F O9 hcl hbl=>?_);obtain⟨X6,V6,U6,P6⟩:=qF hbl D6;have I5:=jh hcl;clear hcl hbl;refine zL 8 ?_;simp only[zo,zn,zm,zl,Nat.reduceAdd]
    repeat (go_big_quiet_step ((first|(go_at_call 164;with_reducible exact jp I5.out (CB.out _))|(go_at_call 206;with_reducible exact jp I5.out (CT.out _)))))
    refine wpQuiet_nil ?_;refine jS ?_;intro bs w5 hb _ _;clear X6 V6 U6 P6;obtain⟨D6,U2,B⟩:=pF hb D6 U2 B;clear hb;simp only[over];obtain⟨q2,hq2⟩:=je (oo*a%m);have hq2m:q2<m:=by rw[hq2];exact Nat.mod_lt _ (by omega)
    have C3:=jh (fun W hb=>by have h:=HT.out oo a W hoom HAM.out hb;rw[<-hq2] at h;exact h);have rU:=jh (show q2=a^(n/2^(L-(k+1)))%m by rw[hq2,HOO2.out];exact pow_odd hlt HO.out HB.out.symm);clear hq2;have he:=HE.out
    go_wp2_with fail
    refine(C3.out _ B.out).mono ?_;rintro _ w6 ⟨rfl,hb⟩;clear he;obtain⟨D6,U2,B⟩:=pF hb D6 U2 B;clear hb
    go_wp2_with fail
    go_roundw
    case rel=>exact⟨k+1,q2,by omega,by go_num,rfl,hq2m,rU,D6,B,U2⟩
    case measure=>simp[intOf];omega
  ·have hkL:k=L:=by omega
   rw[hkL] at HO⊢;have O6:¬((L:Int)<(L:Int)):=by omega
   have HOQ:=jh (show o=Q by rw[HQ.out];exact pow_end HO.out);clear hkL HO
   go_wp2_with fail
   rw[HOQ.out];refine bodyPost_ret (v:=.int .u64 (Q:Nat)) ?_ rfl ⟨rfl,B.out⟩
   simp[results,results165,go_sem]
theorem exp_word{x y m M:Nat}(hx:x<m)(hy:y<m)(hm:m<jf)(w:World)(hM:U0 w M m):
  Calls prog 166 #[.int .u64 (x:Nat),.int .u64 (y:Nat),.pointer (some ⟨M,0,none⟩)] w fun e w'=>e=.returned (.int .u64 ((x*y%m:Nat):Int))/\Below w.heap.size w w':=by
 have CW:=jh (fun w=>wU (Nat.lt_trans hx hm) (Nat.lt_trans hy hm) hm (Nat.mul_lt_mul_of_lt_of_lt hx (Nat.lt_trans hy hm)) w);obtain⟨q,hq⟩:=je (x*y%m);rw[<-hq] at CW⊢;obtain⟨dm,_,_,_⟩:=qY hm;obtain⟨r0,r1,r2,r3⟩:=jF hM;rw[dm] at r0;clear dm hq hx hy hm hM
 go_enter func166,ntmps166
 go_wp2_with fail
 refine(CW.out _).mono ?_;rintro _ w2 ⟨rfl,hb⟩
 go_wp2_with fail
 refine bodyPost_ret (v:=.int .u64 (q:Nat)) ?_ rfl ⟨rfl,hb⟩
 simp[results,results166,go_sem]
theorem exp_long{x y m M:Nat}(hx:x<m)(hy:y<m)(hm:m<jk)(w:World)(hM:U0 w M m):
  Calls prog 169 #[ji x,ji y,.pointer (some ⟨M,0,none⟩)] w fun e w'=>e=.returned (ji (x*y%m))/\Below w.heap.size w w':=by
 have CT:=jh (fun w=>KL hx hy hm w);obtain⟨q,hq⟩:=je (x*y%m);rw[<-hq] at CT⊢;have hMl:=hM.lt;have HM:=jh hM;clear hq hx hy hm hM;unfold ji words at*
 go_enter func169,ntmps169
 have q_0:=fun o1 o2 o3=>(U0.alloc (U0.alloc (U0.alloc HM.out o1) o2) o3) 0 (by omega)
 have q_1:=fun o1 o2 o3=>(U0.alloc (U0.alloc (U0.alloc HM.out o1) o2) o3) 1 (by omega)
 have q_2:=fun o1 o2 o3=>(U0.alloc (U0.alloc (U0.alloc HM.out o1) o2) o3) 2 (by omega)
 have q_3:=fun o1 o2 o3=>(U0.alloc (U0.alloc (U0.alloc HM.out o1) o2) o3) 3 (by omega)
 go_wp2_with fail
 clear q_0 q_1 q_2 q_3;obtain⟨wz,XX,YY,RR,e9,Y5,h_1,h_2,U9,HYY,HRR,HF,B,I7,l_1,NC,xA,Z5,U2⟩:=ZY w 24 x y;rw[e9,Y5,h_1,h_2];clear e9 Y5 h_1 h_2;refine(CT.out _).mono ?_;rintro _ w2 ⟨rfl,hb⟩;obtain⟨U9,HYY,HRR,HF,U2,B⟩:=mM hb U9 HYY HRR HF U2 B;clear hb;obtain⟨c0,c1,c2,c3,f0,f1,f2,f3⟩:=jU HRR.out HF.out
 go_wp2_with fail
 obtain⟨N7,B9⟩:=zP HRR B Z5 q;obtain⟨g0,g1,g2,g3⟩:=jF N7.out;refine bodyPost_ret (v:=ji q) ?_ rfl ⟨rfl,B9.out⟩
 simp[results,results169,go_sem,ji,words,g0,g1,g2,g3]
theorem iZ{a n m N:Nat}(ha:a<m)(h1:1<m)(hn:n<jk)(hml:m<jf)(u:Value)(w:World)(hN:U0 w N n):
  Calls prog 163 #[ji a,ji a,ji m,.pointer (some ⟨N,0,none⟩)] w fun e w'=>e=.returned (ji (a^n%m))/\Below w.heap.size w w':=by
 obtain⟨q,hq⟩:=je (a^n%m);rw[<-hq];have hqm:q<m:=by rw[hq];exact Nat.mod_lt _ (by omega)
 have hm:m<jk:=by unfold jk;unfold jf at hml;omega
 have da:=jh (qY (Nat.lt_trans ha hml)).1;have hqw:=Nat.lt_trans hqm hml;have CO:=jh (fun w=>by have h:=Qc q hqw w;unfold ji words at h;exact h);obtain⟨L,hL⟩:=je (qm m);have hLI:(L:Int)<=64:=by have:=lC.2 hml;omega
 have CB:=jh (fun w=>by have h:=QY hm w;rw[<-hL] at h;unfold ji words at h;exact h);have HAM:=jh ha;have KN:=jh h1;have nD:=jh hn;have HML:=jh hml;have HMM9:=jh hm;have HQ:=jh hq;have hNl:=hN.lt;have HN:=jh hN;clear hq hL ha h1 hn hml hm hqm hqw hN;unfold ji words
 go_enter func163,ntmps163
 go_wp2_with fail
 obtain⟨wz,AA,BB,MM,RR,e9,Y5,h_1,h_2,h_3,V3,X4,V4,HRR,HF,B,I7,l_1,NC,BI,xA,Z5,U2⟩:=zT w 24 a a m;rw[e9,Y5,h_1,h_2,h_3];clear e9 Y5 h_1 h_2 h_3;have D6:=jh (U0.later (B.out.mono (Nat.le_refl _)) HN.out);clear HN;obtain⟨NN,hNN9⟩:=je (N);rw[<-hNN9] at D6 hNl⊢;clear hNN9;refine(CB.out _).mono ?_;rintro _ w2 ⟨rfl,hb⟩;have V3:=jn hb V3;obtain⟨X4,V4,HRR,D6,HF,U2,B⟩:=qQ hb X4 V4 HRR D6 HF U2 B;clear hb;obtain⟨X3,U4,J4,I4⟩:=jF V3.out;obtain⟨X6,V6,U6,P6⟩:=jF D6.out;rw[da.out] at X3
 go_wp2_with fail
 clear X3 U4 J4 I4 X6 V6 U6 P6;have CP:=pY (f:=166) (caps:=#[.pointer (some ⟨MM,0,none⟩)]) HAM.out KN.out nD.out w2 (by intro args W;simp[go_sem]) (fun x y W hx hy hb=>exp_word hx hy HML.out W (U0.later hb V4.out));rw[<-HQ.out] at CP;unfold ji words at CP;refine CP.mono ?_;rintro _ w3 ⟨rfl,hb⟩;clear CP;have V3:=jn hb V3;obtain⟨X4,V4,HRR,D6,HF,U2,B⟩:=qQ hb X4 V4 HRR D6 HF U2 B;clear hb
 go_wp2_with fail
 refine(CO.out _).mono ?_;rintro _ w4 ⟨rfl,hb⟩;have V3:=jn hb V3;obtain⟨X4,V4,HRR,D6,HF,U2,B⟩:=qQ hb X4 V4 HRR D6 HF U2 B;clear hb;obtain⟨c0,c1,c2,c3,f0,f1,f2,f3⟩:=jU HRR.out HF.out
 go_wp2_with fail
 obtain⟨N7,B9⟩:=zP HRR B Z5 q;obtain⟨g0,g1,g2,g3⟩:=jF N7.out;refine bodyPost_ret (v:=ji q) ?_ rfl ⟨rfl,B9.out⟩
 simp[results,results163,go_sem,ji,words,g0,g1,g2,g3]
theorem exp1_long{a n m N:Nat}(ha:a<m)(h1:1<m)(hn:n<jk)(hml:jf<=m)(hm:m<jk)(u:Value)(w:World)(hN:U0 w N n):
  Calls prog 163 #[ji a,ji a,ji m,.pointer (some ⟨N,0,none⟩)] w fun e w'=>e=.returned (ji (a^n%m))/\Below w.heap.size w w':=by
 obtain⟨q,hq⟩:=je (a^n%m);rw[<-hq];have hqm:q<m:=by rw[hq];exact Nat.mod_lt _ (by omega)
 have C1:=jh (fun w=>by have h:=zY 1 1 rfl (by decide) w;unfold ji words at h;exact h);obtain⟨L,hL⟩:=je (qm m);have hLI:¬(L:Int)<=64:=by have:=mt lC.1 (show¬m<jf by omega);omega
 have CB:=jh (fun w=>by have h:=QY hm w;rw[<-hL] at h;unfold ji words at h;exact h);have HAM:=jh ha;have KN:=jh h1;have nD:=jh hn;have HML:=jh hml;have HMM9:=jh hm;have HQ:=jh hq;have hNl:=hN.lt;have HN:=jh hN;clear hq hL ha h1 hn hml hm hqm hN;unfold ji words
 go_enter func163,ntmps163
 go_wp2_with fail
 obtain⟨wz,AA,BB,MM,RR,e9,Y5,h_1,h_2,h_3,V3,X4,V4,HRR,HF,B,I7,l_1,NC,BI,xA,Z5,U2⟩:=zT w 24 a a m;rw[e9,Y5,h_1,h_2,h_3];clear e9 Y5 h_1 h_2 h_3;have D6:=jh (U0.later (B.out.mono (Nat.le_refl _)) HN.out);clear HN;obtain⟨NN,hNN9⟩:=je (N);rw[<-hNN9] at D6 hNl⊢;clear hNN9;refine(CB.out _).mono ?_;rintro _ w2 ⟨rfl,hb⟩;have V3:=jn hb V3;obtain⟨X4,V4,HRR,D6,HF,U2,B⟩:=qQ hb X4 V4 HRR D6 HF U2 B;clear hb;obtain⟨X3,U4,J4,I4⟩:=jF V3.out;obtain⟨X6,V6,U6,P6⟩:=jF D6.out
 go_wp2_with fail
 clear X3 U4 J4 I4 X6 V6 U6 P6;refine zM 5 (fun F O9 hcl hbl=>?_);obtain⟨X3,U4,J4,I4⟩:=qF hbl V3;obtain⟨X6,V6,U6,P6⟩:=qF hbl D6;have CP:=jh (fun X9:Wd F=>by have h:=power_num (f:=169) (caps:=#[.pointer (some ⟨MM,0,none⟩)]) HAM.out KN.out HMM9.out nD.out X9.world (by intro args W;simp[go_sem]) (fun x y W hx hy hb=>exp_long hx hy HMM9.out W (U0.later hb (U0.later (hbl X9.world X9.fact) V4.out)));rw[<-HQ.out] at h;unfold ji words at h;exact h);have I5:=jh hcl;clear hcl hbl;refine zL 5 ?_;simp only[zo,zn,zm,zl,Nat.reduceAdd]
 repeat (go_big_quiet_step ((first|(go_at_call 99;with_reducible exact jp I5.out (C1.out _))|(go_at_call 168;with_reducible exact jp I5.out (CP.out _)))))
 refine wpQuiet_nil ?_;refine jS ?_;intro bs w3 hb _ _;clear X3 U4 J4 I4 X6 V6 U6 P6;have V3:=jn hb V3;obtain⟨X4,V4,HRR,D6,HF,U2,B⟩:=qQ hb X4 V4 HRR D6 HF U2 B;clear hb;simp only[over];obtain⟨c0,c1,c2,c3,f0,f1,f2,f3⟩:=jU HRR.out HF.out
 go_wp2_with fail
 obtain⟨N7,B9⟩:=zP HRR B Z5 q;obtain⟨g0,g1,g2,g3⟩:=jF N7.out;refine bodyPost_ret (v:=ji q) ?_ rfl ⟨rfl,B9.out⟩
 simp[results,results163,go_sem,ji,words,g0,g1,g2,g3]
theorem exp1_any{a n m N:Nat}(ha:a<m)(h1:1<m)(hn:n<jk)(hm:m<jk)(w:World)(hN:U0 w N n):
  Calls prog 163 #[ji a,ji a,ji m,.pointer (some ⟨N,0,none⟩)] w fun e w'=>e=.returned (ji (a^n%m))/\Below w.heap.size w w':=by
 rcases Nat.lt_or_ge m jf with h|h
 ·exact iZ ha h1 hn h (.bool true) w hN
 ·exact exp1_long ha h1 hn h hm (.bool true) w hN
theorem Exp_any{a n m:Nat}(ha:a<m)(h1:1<m)(hn:n<jk)(hm:m<jk)(w:World):
  Calls prog 98 #[ji a,ji n,ji m] w fun e w'=>e=.returned (.tuple #[ji (a^n%m),.int .i64 0])/\Below w.heap.size w w':=by
 obtain⟨q,hq⟩:=je (a^n%m);rw[<-hq];have HQ:=jh hq;have HA9:=jh ha;have KN:=jh h1;have nD:=jh hn;have YN:=jh hm;clear hq ha h1 hn hm;unfold ji words
 go_enter func98,ntmps98
 go_wp2_with fail
 obtain⟨wz,AA,NN,MM,RR,e9,Y5,h_1,h_2,h_3,V3,D6,V4,HRR,HF,B,I7,l_1,NC,BI,xA,Z5,U2⟩:=zT w 24 a n m;rw[e9,Y5,h_1,h_2,h_3];clear e9 Y5 h_1 h_2 h_3;have CO:=iR (q:=q) (f:=163) (caps:=#[.pointer (some ⟨NN,0,none⟩)]) HA9.out HA9.out KN.out YN.out wz (by intro args W;simp[go_sem]) (fun W hb=>by have h:=exp1_any HA9.out KN.out nD.out YN.out W (U0.later hb D6.out);rw[<-HQ.out] at h;exact h);unfold ji words at CO;refine CO.mono ?_;rintro _ w3 ⟨rfl,hb⟩;clear CO;obtain⟨V3,D6,V4,HRR,HF,U2,B⟩:=qQ hb V3 D6 V4 HRR HF U2 B;clear hb;obtain⟨c0,c1,c2,c3,f0,f1,f2,f3⟩:=jU HRR.out HF.out
 go_wp2_with fail
 obtain⟨N7,B9⟩:=zP HRR B Z5 q;obtain⟨g0,g1,g2,g3⟩:=jF N7.out;refine bodyPost_ret (v:=.tuple #[ji q,.int .i64 0]) ?_ rfl ⟨rfl,B9.out⟩
 simp[results,results98,go_sem,ji,words,g0,g1,g2,g3]
theorem Mul_any{a n m:Nat}(ha:a<m)(h1:1<m)(hn:n<m)(hm:m<jk)(w:World):
  Calls prog 185 #[ji a,ji n,ji m] w fun e w'=>e=.returned (.tuple #[ji (a*n%m),.int .i64 0])/\Below w.heap.size w w':=by
 obtain⟨q,hq⟩:=je (a*n%m);rw[<-hq];have HQ:=jh hq;have HA9:=jh ha;have KN:=jh h1;have nD:=jh hn;have YN:=jh hm;clear hq ha h1 hn hm;unfold ji words
 go_enter func185,ntmps185
 go_wp2_with fail
 obtain⟨wz,AA,NN,MM,RR,e9,Y5,h_1,h_2,h_3,V3,D6,V4,HRR,HF,B,I7,l_1,NC,BI,xA,Z5,U2⟩:=zT w 24 a n m;rw[e9,Y5,h_1,h_2,h_3];clear e9 Y5 h_1 h_2 h_3;have CO:=iR (q:=q) (f:=170) (caps:=#[]) HA9.out nD.out KN.out YN.out wz (by intro args W;simp[go_sem]) (fun W hb=>by have h:=KL HA9.out nD.out YN.out W;rw[<-HQ.out] at h;exact h);unfold ji words at CO;refine CO.mono ?_;rintro _ w3 ⟨rfl,hb⟩;clear CO;obtain⟨V3,D6,V4,HRR,HF,U2,B⟩:=qQ hb V3 D6 V4 HRR HF U2 B;clear hb;obtain⟨c0,c1,c2,c3,f0,f1,f2,f3⟩:=jU HRR.out HF.out
 go_wp2_with fail
 obtain⟨N7,B9⟩:=zP HRR B Z5 q;obtain⟨g0,g1,g2,g3⟩:=jF N7.out;refine bodyPost_ret (v:=.tuple #[ji q,.int .i64 0]) ?_ rfl ⟨rfl,B9.out⟩
 simp[results,results185,go_sem,ji,words,g0,g1,g2,g3]
theorem addM{a b m s:Nat}(ha:a<m)(hb:b<m)(hs:s=a+b):(a+b)%m=if m<=s then s-m else s:=by
 rw[<-hs]
 split
 ·rename_i h
  rw[Nat.mod_eq_sub_mod h,Nat.mod_eq_of_lt (by omega)]
 ·exact Nat.mod_eq_of_lt (by omega)
theorem add1_big{a b m:Nat}(ha:a<m)(L6:b<m)(hm:m<jk)(hs:jk<=a+b)(w:World):
  Calls prog 264 #[ji a,ji b,ji m] w fun e w'=>e=.returned (ji ((a+b)%m))/\Below w.heap.size w w':=by
 have C9:=Nat.lt_trans ha hm;have hb8:=Nat.lt_trans L6 hm;have hM:=addM ha L6 rfl;obtain⟨x,hx⟩:=je (zG a b);have iC:x<jk:=by rw[hx];exact Zl _ _
 obtain⟨q,hq⟩:=je ((a+b)%m);have eC:zt a b=1:=by unfold zt;unfold jk at*;omega
 have OV:q=a+b-m:=by rw[hq,hM];unfold zG at hx;unfold jk at*;split<;>omega
 have ex:x=a+b-jk:=by rw[hx];unfold zG;unfold jk at*;omega
 have ey:Jk x m=q:=by rw[ex,OV];unfold Jk;unfold jk at*;omega
 obtain⟨l,hl⟩:=je (zq x m);obtain⟨y,hy⟩:=je (Jk x m);have C1:=jh (fun w=>by have h:=add_any C9 hb8 w;rw[eC,<-hx] at h;unfold ji words at h;exact h);have C2:=jh (fun w=>by have h:=Ze iC hm w;rw[<-hl,<-hy] at h;unfold ji words at h;exact h);have HY:=jh (hy.trans ey);rw[<-hq];clear hM hx iC hq eC OV ex ey hl hy ha L6 hm hs C9 hb8;unfold ji words
 go_enter func264,ntmps264
 go_wp2_with fail
 obtain⟨wz,AA,BB,MM,RR,e9,Y5,h_1,h_2,h_3,V3,X4,V4,HRR,HF,B,I7,l_1,NC,BI,xA,Z5,U2⟩:=zT w 24 a b m;rw[e9,Y5,h_1,h_2,h_3];clear e9 Y5 h_1 h_2 h_3;refine(C1.out _).mono ?_;rintro _ w2 ⟨rfl,hb⟩;obtain⟨V3,X4,V4,HRR,HF,U2,B⟩:=qQ hb V3 X4 V4 HRR HF U2 B;clear hb;have q_0:=fun o1=>(U0.alloc V4.out o1) 0 (by omega)
 have q_1:=fun o1=>(U0.alloc V4.out o1) 1 (by omega)
 have q_2:=fun o1=>(U0.alloc V4.out o1) 2 (by omega)
 have q_3:=fun o1=>(U0.alloc V4.out o1) 3 (by omega)
 go_wp2_with fail
 clear q_0 q_1 q_2 q_3;obtain⟨w3,e3⟩:=je (w2.alloc (.cells (jD x) 24));obtain⟨XX,hX⟩:=je (w2.heap.size);have hb:=jc e3;have U9:=jh (show U0 w3 XX x by rw[e3];exact U0.new w2 x _ _ hX);have nXR:XX≠RR:=by omega
 rw[<-e3,<-hX];clear e3 hX;obtain⟨V3,X4,V4,HRR,HF,U2,B⟩:=qQ hb V3 X4 V4 HRR HF U2 B;clear hb;refine(C2.out _).mono ?_;rintro _ w4 ⟨rfl,hb⟩;have V3:=jn hb V3;obtain⟨X4,V4,HRR,U9,HF,U2,B⟩:=qQ hb X4 V4 HRR U9 HF U2 B;clear hb;obtain⟨c0,c1,c2,c3,f0,f1,f2,f3⟩:=jU HRR.out HF.out;obtain⟨gG,fG,eG,dG⟩:=jF U9.out
 go_wp2_with fail
 rw[HY.out];obtain⟨N7,B9⟩:=zP HRR B Z5 q;have hba:∀W:World,Below W.heap.size W (W.alloc (.cells #[.int .u64 (jg jf q 0),.int .u64 (jg jf q 1),.int .u64 (jg jf q 2),.int .u64 (jg jf q 3)] 24)):=fun W=>ja
 have B9:=jh (jm B9.out (hba _));have N7:=jh (U0.later (hba _) N7.out);clear hba;obtain⟨g0,g1,g2,g3⟩:=jF N7.out;refine bodyPost_ret (v:=ji q) ?_ rfl ⟨rfl,B9.out⟩
 simp[results,results264,go_sem,ji,words,g0,g1,g2,g3]
theorem add1_over{a b m:Nat}(ha:a<m)(L6:b<m)(hm:m<jk)(hs:m<=a+b)(h256:a+b<jk)(w:World):
  Calls prog 264 #[ji a,ji b,ji m] w fun e w'=>e=.returned (ji ((a+b)%m))/\Below w.heap.size w w':=by
 have C9:=Nat.lt_trans ha hm;have hb8:=Nat.lt_trans L6 hm;have hM:=addM ha L6 rfl;obtain⟨x,hx⟩:=je (zG a b);have iC:x<jk:=by rw[hx];exact Zl _ _
 obtain⟨q,hq⟩:=je ((a+b)%m);have eC:zt a b=0:=by unfold zt;unfold jk at*;omega
 have OV:q=a+b-m:=by rw[hq,hM];unfold zG at hx;unfold jk at*;split<;>omega
 have ex:x=a+b:=by rw[hx];unfold zG;unfold jk at*;omega
 have ey:Jk x m=q:=by rw[ex,OV];unfold Jk;unfold jk at*;omega
 have el:zq x m=0:=by unfold zq;rw[if_neg (by omega)]
 obtain⟨l,hl⟩:=je (zq x m);obtain⟨y,hy⟩:=je (Jk x m);have C1:=jh (fun w=>by have h:=add_any C9 hb8 w;rw[eC,<-hx] at h;unfold ji words at h;exact h);have C2:=jh (fun w=>by have h:=Ze iC hm w;rw[<-hl,<-hy] at h;unfold ji words at h;exact h);have HY:=jh (hy.trans ey);have HLq:=jh (hl.trans el);rw[hl.trans el] at C2;rw[<-hq];clear hM hx iC hq eC OV ex ey hl hy ha L6 hm hs C9 hb8 el h256;unfold ji words
 go_enter func264,ntmps264
 go_wp2_with fail
 obtain⟨wz,AA,BB,MM,RR,e9,Y5,h_1,h_2,h_3,V3,X4,V4,HRR,HF,B,I7,l_1,NC,BI,xA,Z5,U2⟩:=zT w 24 a b m;rw[e9,Y5,h_1,h_2,h_3];clear e9 Y5 h_1 h_2 h_3;refine(C1.out _).mono ?_;rintro _ w2 ⟨rfl,hb⟩;obtain⟨V3,X4,V4,HRR,HF,U2,B⟩:=qQ hb V3 X4 V4 HRR HF U2 B;clear hb;have q_0:=fun o1=>(U0.alloc V4.out o1) 0 (by omega)
 have q_1:=fun o1=>(U0.alloc V4.out o1) 1 (by omega)
 have q_2:=fun o1=>(U0.alloc V4.out o1) 2 (by omega)
 have q_3:=fun o1=>(U0.alloc V4.out o1) 3 (by omega)
 go_wp2_with fail
 clear q_0 q_1 q_2 q_3;obtain⟨w3,e3⟩:=je (w2.alloc (.cells (jD x) 24));obtain⟨XX,hX⟩:=je (w2.heap.size);have hb:=jc e3;have U9:=jh (show U0 w3 XX x by rw[e3];exact U0.new w2 x _ _ hX);have nXR:XX≠RR:=by omega
 rw[<-e3,<-hX];clear e3 hX;obtain⟨V3,X4,V4,HRR,HF,U2,B⟩:=qQ hb V3 X4 V4 HRR HF U2 B;clear hb;refine(C2.out _).mono ?_;rintro _ w4 ⟨rfl,hb⟩;have V3:=jn hb V3;obtain⟨X4,V4,HRR,U9,HF,U2,B⟩:=qQ hb X4 V4 HRR U9 HF U2 B;clear hb;obtain⟨c0,c1,c2,c3,f0,f1,f2,f3⟩:=jU HRR.out HF.out;obtain⟨gG,fG,eG,dG⟩:=jF U9.out
 go_wp2_with fail
 rw[HY.out];obtain⟨N7,B9⟩:=zP HRR B Z5 q;have hba:∀W:World,Below W.heap.size W (W.alloc (.cells #[.int .u64 (jg jf q 0),.int .u64 (jg jf q 1),.int .u64 (jg jf q 2),.int .u64 (jg jf q 3)] 24)):=fun W=>ja
 have B9:=jh (jm B9.out (hba _));have N7:=jh (U0.later (hba _) N7.out);clear hba;obtain⟨g0,g1,g2,g3⟩:=jF N7.out;refine bodyPost_ret (v:=ji q) ?_ rfl ⟨rfl,B9.out⟩
 simp[results,results264,go_sem,ji,words,g0,g1,g2,g3]
theorem uZ{a b m:Nat}(ha:a<m)(L6:b<m)(hm:m<jk)(hs:a+b<m)(w:World):
  Calls prog 264 #[ji a,ji b,ji m] w fun e w'=>e=.returned (ji ((a+b)%m))/\Below w.heap.size w w':=by
 have C9:=Nat.lt_trans ha hm;have hb8:=Nat.lt_trans L6 hm;have hM:=addM ha L6 rfl;obtain⟨x,hx⟩:=je (zG a b);have iC:x<jk:=by rw[hx];exact Zl _ _
 obtain⟨q,hq⟩:=je ((a+b)%m);have eC:zt a b=0:=by unfold zt;unfold jk at*;omega
 have OV:q=a+b:=by rw[hq,hM];unfold zG at hx;unfold jk at*;split<;>omega
 have ex:x=a+b:=by rw[hx];unfold zG;unfold jk at*;omega
 have ey:x=q:=by omega
 have el:zq x m=1:=by unfold zq;rw[if_pos (by omega)]
 obtain⟨l,hl⟩:=je (zq x m);obtain⟨y,hy⟩:=je (Jk x m);have C1:=jh (fun w=>by have h:=add_any C9 hb8 w;rw[eC,<-hx] at h;unfold ji words at h;exact h);have C2:=jh (fun w=>by have h:=Ze iC hm w;rw[<-hl,<-hy] at h;unfold ji words at h;exact h);have HY:=jh ey;have HLq:=jh (hl.trans el);rw[hl.trans el] at C2;rw[<-hq];clear hM hx iC hq eC OV ex ey hl hy ha L6 hm hs C9 hb8 el;unfold ji words
 go_enter func264,ntmps264
 go_wp2_with fail
 obtain⟨wz,AA,BB,MM,RR,e9,Y5,h_1,h_2,h_3,V3,X4,V4,HRR,HF,B,I7,l_1,NC,BI,xA,Z5,U2⟩:=zT w 24 a b m;rw[e9,Y5,h_1,h_2,h_3];clear e9 Y5 h_1 h_2 h_3;refine(C1.out _).mono ?_;rintro _ w2 ⟨rfl,hb⟩;obtain⟨V3,X4,V4,HRR,HF,U2,B⟩:=qQ hb V3 X4 V4 HRR HF U2 B;clear hb;have q_0:=fun o1=>(U0.alloc V4.out o1) 0 (by omega)
 have q_1:=fun o1=>(U0.alloc V4.out o1) 1 (by omega)
 have q_2:=fun o1=>(U0.alloc V4.out o1) 2 (by omega)
 have q_3:=fun o1=>(U0.alloc V4.out o1) 3 (by omega)
 go_wp2_with fail
 clear q_0 q_1 q_2 q_3;obtain⟨w3,e3⟩:=je (w2.alloc (.cells (jD x) 24));obtain⟨XX,hX⟩:=je (w2.heap.size);have hb:=jc e3;have U9:=jh (show U0 w3 XX x by rw[e3];exact U0.new w2 x _ _ hX);have nXR:XX≠RR:=by omega
 rw[<-e3,<-hX];clear e3 hX;obtain⟨V3,X4,V4,HRR,HF,U2,B⟩:=qQ hb V3 X4 V4 HRR HF U2 B;clear hb;refine(C2.out _).mono ?_;rintro _ w4 ⟨rfl,hb⟩;have V3:=jn hb V3;obtain⟨X4,V4,HRR,U9,HF,U2,B⟩:=qQ hb X4 V4 HRR U9 HF U2 B;clear hb;obtain⟨c0,c1,c2,c3,f0,f1,f2,f3⟩:=jU HRR.out HF.out;have q_0:=fun o1=>(U0.alloc U9.out o1) 0 (by omega)
 have q_1:=fun o1=>(U0.alloc U9.out o1) 1 (by omega)
 have q_2:=fun o1=>(U0.alloc U9.out o1) 2 (by omega)
 have q_3:=fun o1=>(U0.alloc U9.out o1) 3 (by omega)
 go_wp2_with fail
 rw[HY.out];obtain⟨N7,B9⟩:=zP HRR B Z5 q;have hba:∀W:World,Below W.heap.size W (W.alloc (.cells #[.int .u64 (jg jf y 0),.int .u64 (jg jf y 1),.int .u64 (jg jf y 2),.int .u64 (jg jf y 3)] 24)):=fun W=>ja
 have B9:=jh (jm B9.out (hba _));have N7:=jh (U0.later (hba _) N7.out);clear hba;obtain⟨g0,g1,g2,g3⟩:=jF N7.out;refine bodyPost_ret (v:=ji q) ?_ rfl ⟨rfl,B9.out⟩
 simp[results,results264,go_sem,ji,words,g0,g1,g2,g3]
theorem add1_any{a b m:Nat}(ha:a<m)(hb:b<m)(hm:m<jk)(w:World):
  Calls prog 264 #[ji a,ji b,ji m] w fun e w'=>e=.returned (ji ((a+b)%m))/\Below w.heap.size w w':=by
 rcases Nat.lt_or_ge (a+b) m with h|h
 ·exact uZ ha hb hm h w
 ·rcases Nat.lt_or_ge (a+b) jk with h9|h9
  ·exact add1_over ha hb hm h h9 w
  ·exact add1_big ha hb hm h9 w
theorem Add_any{a n m:Nat}(ha:a<m)(h1:1<m)(hn:n<m)(hm:m<jk)(w:World):
  Calls prog 221 #[ji a,ji n,ji m] w fun e w'=>e=.returned (.tuple #[ji ((a+n)%m),.int .i64 0])/\Below w.heap.size w w':=by
 obtain⟨q,hq⟩:=je ((a+n)%m);rw[<-hq];have HQ:=jh hq;have HA9:=jh ha;have KN:=jh h1;have nD:=jh hn;have YN:=jh hm;clear hq ha h1 hn hm;unfold ji words
 go_enter func221,ntmps221
 go_wp2_with fail
 obtain⟨wz,AA,NN,MM,RR,e9,Y5,h_1,h_2,h_3,V3,D6,V4,HRR,HF,B,I7,l_1,NC,BI,xA,Z5,U2⟩:=zT w 24 a n m;rw[e9,Y5,h_1,h_2,h_3];clear e9 Y5 h_1 h_2 h_3;have CO:=iR (q:=q) (f:=264) (caps:=#[]) HA9.out nD.out KN.out YN.out wz (by intro args W;simp[go_sem]) (fun W hb=>by have h:=add1_any HA9.out nD.out YN.out W;rw[<-HQ.out] at h;exact h);unfold ji words at CO;refine CO.mono ?_;rintro _ w3 ⟨rfl,hb⟩;clear CO;obtain⟨V3,D6,V4,HRR,HF,U2,B⟩:=qQ hb V3 D6 V4 HRR HF U2 B;clear hb;obtain⟨c0,c1,c2,c3,f0,f1,f2,f3⟩:=jU HRR.out HF.out
 go_wp2_with fail
 obtain⟨N7,B9⟩:=zP HRR B Z5 q;obtain⟨g0,g1,g2,g3⟩:=jF N7.out;refine bodyPost_ret (v:=.tuple #[ji q,.int .i64 0]) ?_ rfl ⟨rfl,B9.out⟩
 simp[results,results221,go_sem,ji,words,g0,g1,g2,g3]
def Z4(w:World)(b o x:Nat):Prop:=∀j,j<4->w.cell? ⟨b,o+j,none⟩=some (.int .u64 (jg jf x j))
def J3(w:World)(b gp gq gg gh:Nat):Prop:=Z4 w b 0 gp/\Z4 w b 4 gq/\Z4 w b 8 gg/\Z4 w b 12 gh
theorem Z4.lt{w:World}{b o x:Nat}(h:Z4 w b o x):b<w.heap.size:=World.block_lt_of_cell? (a:=⟨b,o+0,none⟩) _ (h 0 (by omega))
theorem Z4.later{w w':World}{b o x:Nat}(hb:Below w.heap.size w w')(h:Z4 w b o x):Z4 w' b o x:=fun j hj=>(hb.cell (p:=⟨b,o+j,none⟩) h.lt).trans (h j hj)
theorem J3.later{w w':World}{b gp gq gg gh:Nat}(hb:Below w.heap.size w w')(h:J3 w b gp gq gg gh):J3 w' b gp gq gg gh:=⟨h.1.later hb,h.2.1.later hb,h.2.2.1.later hb,h.2.2.2.later hb⟩
theorem J3.lt{w:World}{b gp gq gg gh:Nat}(h:J3 w b gp gq gg gh):b<w.heap.size:=h.1.lt
theorem J3.new(w:World)(gp gq gg gh:Nat)(t:TypeId):J3 (w.alloc (.cells #[.int .u64 (jg jf gp 0),.int .u64 (jg jf gp 1),.int .u64 (jg jf gp 2),.int .u64 (jg jf gp 3),.int .u64 (jg jf gq 0),.int .u64 (jg jf gq 1),.int .u64 (jg jf gq 2),.int .u64 (jg jf gq 3),.int .u64 (jg jf gg 0),.int .u64 (jg jf gg 1),.int .u64 (jg jf gg 2),.int .u64 (jg jf gg 3),.int .u64 (jg jf gh 0),.int .u64 (jg jf gh 1),.int .u64 (jg jf gh 2),.int .u64 (jg jf gh 3)] t)) w.heap.size gp gq gg gh:=by
 refine⟨?_,?_,?_,?_⟩<;>(intro j hj;rcases(show j=0∨j=1∨j=2∨j=3 by omega) with rfl|rfl|rfl|rfl<;>simp)
theorem Qt(w:World)(t:TypeId)(gp gq gg gh:Nat):∃(w0:World) (GG:Nat),w.alloc (.cells #[.int .u64 (jg jf gp 0),.int .u64 (jg jf gp 1),.int .u64 (jg jf gp 2),.int .u64 (jg jf gp 3),.int .u64 (jg jf gq 0),.int .u64 (jg jf gq 1),.int .u64 (jg jf gq 2),.int .u64 (jg jf gq 3),.int .u64 (jg jf gg 0),.int .u64 (jg jf gg 1),.int .u64 (jg jf gg 2),.int .u64 (jg jf gg 3),.int .u64 (jg jf gh 0),.int .u64 (jg jf gh 1),.int .u64 (jg jf gh 2),.int .u64 (jg jf gh 3)] t)=w0/\w.heap.size+1=w0.heap.size/\w.heap.size=GG/\J3 w0 GG gp gq gg gh/\Hid (Below w.heap.size w w0):=
 ⟨_,_,rfl,by simp,rfl,J3.new _ _ _ _ _ _,jh (qZ U3 _)⟩
theorem may_yes{gp gq gg gh a:Nat}(h1:1<gp)(ha0:a≠0)(ha:a<gp)(hm:gp<jk)(w:World):
  Calls prog 97 #[.agg #[.int .u64 (jg jf gp 0),.int .u64 (jg jf gp 1),.int .u64 (jg jf gp 2),.int .u64 (jg jf gp 3),.int .u64 (jg jf gq 0),.int .u64 (jg jf gq 1),.int .u64 (jg jf gq 2),.int .u64 (jg jf gq 3),.int .u64 (jg jf gg 0),.int .u64 (jg jf gg 1),.int .u64 (jg jf gg 2),.int .u64 (jg jf gg 3),.int .u64 (jg jf gh 0),.int .u64 (jg jf gh 1),.int .u64 (jg jf gh 2),.int .u64 (jg jf gh 3)],ji a] w fun e w'=>e=.returned (.bool true)/\Below w.heap.size w w':=by
 have C9:=Nat.lt_trans ha hm;have hne:=Zm a 0 (Nat.lt_trans ha hm) zI;rw[decide_eq_false ha0] at hne;have C1:=jh (fun w=>by have h:=zY 1 1 rfl (by decide) w;unfold ji words at h;exact h);have C0:=jh (fun w=>by have h:=zY 0 0 rfl (by decide) w;unfold ji words at h;exact h);have K1:=jh (fun w=>by have h:=zj hm (show 1<jk by decide) w;rw[Jw h1] at h;unfold ji words at h;exact h);have K2:=jh (fun w=>by have h:=zj C9 hm w;rw[Qj ha] at h;unfold ji words at h;exact h);clear C9 h1 ha0 ha hm;unfold ji words
 go_enter func97,ntmps97
 go_wp2_with fail
 obtain⟨w0,GG,e0,s0,J8,g0,HB0⟩:=Qt w 26 gp gq gg gh;rw[e0,s0,J8];clear e0 s0 J8;obtain⟨wz,AA,e9,Y5,V3,B,I7,xA,sH,U2⟩:=box1 w0 24 a;rw[e9,Y5];clear e9 Y5;have G0:=jh (J3.later B.out g0);clear g0;refine zM 17 (fun F O9 hcl hbl=>?_);obtain⟨X3,U4,J4,I4⟩:=qF hbl V3;have F8:=fun X9:Wd F=>(J3.later (hbl X9.world X9.fact) G0.out).1 0 (by omega)
 have D8:=fun X9:Wd F=>(J3.later (hbl X9.world X9.fact) G0.out).1 1 (by omega)
 have A8:=fun X9:Wd F=>(J3.later (hbl X9.world X9.fact) G0.out).1 2 (by omega)
 have Z7:=fun X9:Wd F=>(J3.later (hbl X9.world X9.fact) G0.out).1 3 (by omega)
 simp only[Nat.reduceAdd] at F8 D8 A8 Z7;have I5:=jh hcl;clear hcl hbl;refine zL 17 ?_;simp only[zo,zn,zm,zl,Nat.reduceAdd]
 repeat (go_big_quiet_step ((first|(go_at_call 99;with_reducible exact jp I5.out (C1.out _))|(go_at_call 99;with_reducible exact jp I5.out (C0.out _))|(go_at_call 26;with_reducible exact jp I5.out (K1.out _))|(go_at_call 26;with_reducible exact jp I5.out (K2.out _)))))
 refine wpQuiet_nil ?_;refine jS ?_;intro bs w2 hb _ _;clear X3 U4 J4 I4;obtain⟨V3,U2,B⟩:=pF hb V3 U2 B;clear hb;simp only[over];clear F8 D8 A8 Z7
 go_wp2_with fail
 refine bodyPost_ret (v:=.bool true) ?_ rfl ⟨rfl,jm HB0.out B.out⟩
 simp[results,results97,go_sem]
theorem may_low0{gp gq gg gh a:Nat}(h:gp<1)(C9:a<jk)(hm:gp<jk)(w:World):
  Calls prog 97 #[.agg #[.int .u64 (jg jf gp 0),.int .u64 (jg jf gp 1),.int .u64 (jg jf gp 2),.int .u64 (jg jf gp 3),.int .u64 (jg jf gq 0),.int .u64 (jg jf gq 1),.int .u64 (jg jf gq 2),.int .u64 (jg jf gq 3),.int .u64 (jg jf gg 0),.int .u64 (jg jf gg 1),.int .u64 (jg jf gg 2),.int .u64 (jg jf gg 3),.int .u64 (jg jf gh 0),.int .u64 (jg jf gh 1),.int .u64 (jg jf gh 2),.int .u64 (jg jf gh 3)],ji a] w fun e w'=>e=.returned (.bool false)/\Below w.heap.size w w':=by
 have hne:=Zm a 0 C9 zI;have C1:=jh (fun w=>by have h:=zY 1 1 rfl (by decide) w;unfold ji words at h;exact h);have C0:=jh (fun w=>by have h:=zY 0 0 rfl (by decide) w;unfold ji words at h;exact h);have e1:zk gp 1= -1:=by exact Qj h
 have K1:=jh (fun w=>by have h:=zj hm (show 1<jk by decide) w;rw[e1] at h;unfold ji words at h;exact h);obtain⟨c2,e2⟩:∃c,zk a gp=c:=⟨_,rfl⟩;have K2:=jh (fun w=>by have h:=zj C9 hm w;rw[e2] at h;unfold ji words at h;exact h);clear e1 e2 C9 hm h;unfold ji words
 go_enter func97,ntmps97
 go_wp2_with fail
 obtain⟨w0,GG,e0,s0,J8,g0,HB0⟩:=Qt w 26 gp gq gg gh;rw[e0,s0,J8];clear e0 s0 J8;obtain⟨wz,AA,e9,Y5,V3,B,I7,xA,sH,U2⟩:=box1 w0 24 a;rw[e9,Y5];clear e9 Y5;have G0:=jh (J3.later B.out g0);clear g0;refine zM 17 (fun F O9 hcl hbl=>?_);obtain⟨X3,U4,J4,I4⟩:=qF hbl V3;have F8:=fun X9:Wd F=>(J3.later (hbl X9.world X9.fact) G0.out).1 0 (by omega)
 have D8:=fun X9:Wd F=>(J3.later (hbl X9.world X9.fact) G0.out).1 1 (by omega)
 have A8:=fun X9:Wd F=>(J3.later (hbl X9.world X9.fact) G0.out).1 2 (by omega)
 have Z7:=fun X9:Wd F=>(J3.later (hbl X9.world X9.fact) G0.out).1 3 (by omega)
 simp only[Nat.reduceAdd] at F8 D8 A8 Z7;have I5:=jh hcl;clear hcl hbl;refine zL 17 ?_;simp only[zo,zn,zm,zl,Nat.reduceAdd]
 repeat (go_big_quiet_step ((first|(go_at_call 99;with_reducible exact jp I5.out (C1.out _))|(go_at_call 99;with_reducible exact jp I5.out (C0.out _))|(go_at_call 26;with_reducible exact jp I5.out (K1.out _))|(go_at_call 26;with_reducible exact jp I5.out (K2.out _)))))
 refine wpQuiet_nil ?_;refine jS ?_;intro bs w2 hb _ _;clear X3 U4 J4 I4;obtain⟨V3,U2,B⟩:=pF hb V3 U2 B;clear hb;simp only[over];clear F8 D8 A8 Z7
 go_wp2_with fail
 refine bodyPost_ret (v:=.bool false) ?_ rfl ⟨rfl,jm HB0.out B.out⟩
 simp[results,results97,go_sem]
theorem may_low1{gp gq gg gh a:Nat}(h:gp=1)(C9:a<jk)(hm:gp<jk)(w:World):
  Calls prog 97 #[.agg #[.int .u64 (jg jf gp 0),.int .u64 (jg jf gp 1),.int .u64 (jg jf gp 2),.int .u64 (jg jf gp 3),.int .u64 (jg jf gq 0),.int .u64 (jg jf gq 1),.int .u64 (jg jf gq 2),.int .u64 (jg jf gq 3),.int .u64 (jg jf gg 0),.int .u64 (jg jf gg 1),.int .u64 (jg jf gg 2),.int .u64 (jg jf gg 3),.int .u64 (jg jf gh 0),.int .u64 (jg jf gh 1),.int .u64 (jg jf gh 2),.int .u64 (jg jf gh 3)],ji a] w fun e w'=>e=.returned (.bool false)/\Below w.heap.size w w':=by
 have hne:=Zm a 0 C9 zI;have C1:=jh (fun w=>by have h:=zY 1 1 rfl (by decide) w;unfold ji words at h;exact h);have C0:=jh (fun w=>by have h:=zY 0 0 rfl (by decide) w;unfold ji words at h;exact h);have e1:zk gp 1=0:=by rw[h];rfl
 have K1:=jh (fun w=>by have h:=zj hm (show 1<jk by decide) w;rw[e1] at h;unfold ji words at h;exact h);obtain⟨c2,e2⟩:∃c,zk a gp=c:=⟨_,rfl⟩;have K2:=jh (fun w=>by have h:=zj C9 hm w;rw[e2] at h;unfold ji words at h;exact h);clear e1 e2 C9 hm h;unfold ji words
 go_enter func97,ntmps97
 go_wp2_with fail
 obtain⟨w0,GG,e0,s0,J8,g0,HB0⟩:=Qt w 26 gp gq gg gh;rw[e0,s0,J8];clear e0 s0 J8;obtain⟨wz,AA,e9,Y5,V3,B,I7,xA,sH,U2⟩:=box1 w0 24 a;rw[e9,Y5];clear e9 Y5;have G0:=jh (J3.later B.out g0);clear g0;refine zM 17 (fun F O9 hcl hbl=>?_);obtain⟨X3,U4,J4,I4⟩:=qF hbl V3;have F8:=fun X9:Wd F=>(J3.later (hbl X9.world X9.fact) G0.out).1 0 (by omega)
 have D8:=fun X9:Wd F=>(J3.later (hbl X9.world X9.fact) G0.out).1 1 (by omega)
 have A8:=fun X9:Wd F=>(J3.later (hbl X9.world X9.fact) G0.out).1 2 (by omega)
 have Z7:=fun X9:Wd F=>(J3.later (hbl X9.world X9.fact) G0.out).1 3 (by omega)
 simp only[Nat.reduceAdd] at F8 D8 A8 Z7;have I5:=jh hcl;clear hcl hbl;refine zL 17 ?_;simp only[zo,zn,zm,zl,Nat.reduceAdd]
 repeat (go_big_quiet_step ((first|(go_at_call 99;with_reducible exact jp I5.out (C1.out _))|(go_at_call 99;with_reducible exact jp I5.out (C0.out _))|(go_at_call 26;with_reducible exact jp I5.out (K1.out _))|(go_at_call 26;with_reducible exact jp I5.out (K2.out _)))))
 refine wpQuiet_nil ?_;refine jS ?_;intro bs w2 hb _ _;clear X3 U4 J4 I4;obtain⟨V3,U2,B⟩:=pF hb V3 U2 B;clear hb;simp only[over];clear F8 D8 A8 Z7
 go_wp2_with fail
 refine bodyPost_ret (v:=.bool false) ?_ rfl ⟨rfl,jm HB0.out B.out⟩
 simp[results,results97,go_sem]
theorem may_zero{gp gq gg gh a:Nat}(h1:1<gp)(h:a=0)(C9:a<jk)(hm:gp<jk)(w:World):
  Calls prog 97 #[.agg #[.int .u64 (jg jf gp 0),.int .u64 (jg jf gp 1),.int .u64 (jg jf gp 2),.int .u64 (jg jf gp 3),.int .u64 (jg jf gq 0),.int .u64 (jg jf gq 1),.int .u64 (jg jf gq 2),.int .u64 (jg jf gq 3),.int .u64 (jg jf gg 0),.int .u64 (jg jf gg 1),.int .u64 (jg jf gg 2),.int .u64 (jg jf gg 3),.int .u64 (jg jf gh 0),.int .u64 (jg jf gh 1),.int .u64 (jg jf gh 2),.int .u64 (jg jf gh 3)],ji a] w fun e w'=>e=.returned (.bool false)/\Below w.heap.size w w':=by
 have hne:=Zm a 0 C9 zI;rw[decide_eq_true h] at hne;have C1:=jh (fun w=>by have h:=zY 1 1 rfl (by decide) w;unfold ji words at h;exact h);have C0:=jh (fun w=>by have h:=zY 0 0 rfl (by decide) w;unfold ji words at h;exact h);have e1:zk gp 1=1:=by exact Jw h1
 have K1:=jh (fun w=>by have h:=zj hm (show 1<jk by decide) w;rw[e1] at h;unfold ji words at h;exact h);obtain⟨c2,e2⟩:∃c,zk a gp=c:=⟨_,rfl⟩;have K2:=jh (fun w=>by have h:=zj C9 hm w;rw[e2] at h;unfold ji words at h;exact h);clear e1 e2 C9 hm h;unfold ji words
 go_enter func97,ntmps97
 go_wp2_with fail
 obtain⟨w0,GG,e0,s0,J8,g0,HB0⟩:=Qt w 26 gp gq gg gh;rw[e0,s0,J8];clear e0 s0 J8;obtain⟨wz,AA,e9,Y5,V3,B,I7,xA,sH,U2⟩:=box1 w0 24 a;rw[e9,Y5];clear e9 Y5;have G0:=jh (J3.later B.out g0);clear g0;refine zM 17 (fun F O9 hcl hbl=>?_);obtain⟨X3,U4,J4,I4⟩:=qF hbl V3;have F8:=fun X9:Wd F=>(J3.later (hbl X9.world X9.fact) G0.out).1 0 (by omega)
 have D8:=fun X9:Wd F=>(J3.later (hbl X9.world X9.fact) G0.out).1 1 (by omega)
 have A8:=fun X9:Wd F=>(J3.later (hbl X9.world X9.fact) G0.out).1 2 (by omega)
 have Z7:=fun X9:Wd F=>(J3.later (hbl X9.world X9.fact) G0.out).1 3 (by omega)
 simp only[Nat.reduceAdd] at F8 D8 A8 Z7;have I5:=jh hcl;clear hcl hbl;refine zL 17 ?_;simp only[zo,zn,zm,zl,Nat.reduceAdd]
 repeat (go_big_quiet_step ((first|(go_at_call 99;with_reducible exact jp I5.out (C1.out _))|(go_at_call 99;with_reducible exact jp I5.out (C0.out _))|(go_at_call 26;with_reducible exact jp I5.out (K1.out _))|(go_at_call 26;with_reducible exact jp I5.out (K2.out _)))))
 refine wpQuiet_nil ?_;refine jS ?_;intro bs w2 hb _ _;clear X3 U4 J4 I4;obtain⟨V3,U2,B⟩:=pF hb V3 U2 B;clear hb;simp only[over];clear F8 D8 A8 Z7
 go_wp2_with fail
 refine bodyPost_ret (v:=.bool false) ?_ rfl ⟨rfl,jm HB0.out B.out⟩
 simp[results,results97,go_sem]
theorem may_eq{gp gq gg gh a:Nat}(h1:1<gp)(ha0:a≠0)(h:a=gp)(C9:a<jk)(hm:gp<jk)(w:World):
  Calls prog 97 #[.agg #[.int .u64 (jg jf gp 0),.int .u64 (jg jf gp 1),.int .u64 (jg jf gp 2),.int .u64 (jg jf gp 3),.int .u64 (jg jf gq 0),.int .u64 (jg jf gq 1),.int .u64 (jg jf gq 2),.int .u64 (jg jf gq 3),.int .u64 (jg jf gg 0),.int .u64 (jg jf gg 1),.int .u64 (jg jf gg 2),.int .u64 (jg jf gg 3),.int .u64 (jg jf gh 0),.int .u64 (jg jf gh 1),.int .u64 (jg jf gh 2),.int .u64 (jg jf gh 3)],ji a] w fun e w'=>e=.returned (.bool false)/\Below w.heap.size w w':=by
 have hne:=Zm a 0 C9 zI;rw[decide_eq_false ha0] at hne;have C1:=jh (fun w=>by have h:=zY 1 1 rfl (by decide) w;unfold ji words at h;exact h);have C0:=jh (fun w=>by have h:=zY 0 0 rfl (by decide) w;unfold ji words at h;exact h);have e1:zk gp 1=1:=by exact Jw h1
 have K1:=jh (fun w=>by have h:=zj hm (show 1<jk by decide) w;rw[e1] at h;unfold ji words at h;exact h);have e2:zk a gp=0:=by rw[h];unfold zk;rw[if_neg (by omega),if_pos rfl]
 have K2:=jh (fun w=>by have h:=zj C9 hm w;rw[e2] at h;unfold ji words at h;exact h);clear e1 e2 C9 hm h;unfold ji words
 go_enter func97,ntmps97
 go_wp2_with fail
 obtain⟨w0,GG,e0,s0,J8,g0,HB0⟩:=Qt w 26 gp gq gg gh;rw[e0,s0,J8];clear e0 s0 J8;obtain⟨wz,AA,e9,Y5,V3,B,I7,xA,sH,U2⟩:=box1 w0 24 a;rw[e9,Y5];clear e9 Y5;have G0:=jh (J3.later B.out g0);clear g0;refine zM 17 (fun F O9 hcl hbl=>?_);obtain⟨X3,U4,J4,I4⟩:=qF hbl V3;have F8:=fun X9:Wd F=>(J3.later (hbl X9.world X9.fact) G0.out).1 0 (by omega)
 have D8:=fun X9:Wd F=>(J3.later (hbl X9.world X9.fact) G0.out).1 1 (by omega)
 have A8:=fun X9:Wd F=>(J3.later (hbl X9.world X9.fact) G0.out).1 2 (by omega)
 have Z7:=fun X9:Wd F=>(J3.later (hbl X9.world X9.fact) G0.out).1 3 (by omega)
 simp only[Nat.reduceAdd] at F8 D8 A8 Z7;have I5:=jh hcl;clear hcl hbl;refine zL 17 ?_;simp only[zo,zn,zm,zl,Nat.reduceAdd]
 repeat (go_big_quiet_step ((first|(go_at_call 99;with_reducible exact jp I5.out (C1.out _))|(go_at_call 99;with_reducible exact jp I5.out (C0.out _))|(go_at_call 26;with_reducible exact jp I5.out (K1.out _))|(go_at_call 26;with_reducible exact jp I5.out (K2.out _)))))
 refine wpQuiet_nil ?_;refine jS ?_;intro bs w2 hb _ _;clear X3 U4 J4 I4;obtain⟨V3,U2,B⟩:=pF hb V3 U2 B;clear hb;simp only[over];clear F8 D8 A8 Z7
 go_wp2_with fail
 refine bodyPost_ret (v:=.bool false) ?_ rfl ⟨rfl,jm HB0.out B.out⟩
 simp[results,results97,go_sem]
theorem may_gt{gp gq gg gh a:Nat}(h1:1<gp)(ha0:a≠0)(h:gp<a)(C9:a<jk)(hm:gp<jk)(w:World):
  Calls prog 97 #[.agg #[.int .u64 (jg jf gp 0),.int .u64 (jg jf gp 1),.int .u64 (jg jf gp 2),.int .u64 (jg jf gp 3),.int .u64 (jg jf gq 0),.int .u64 (jg jf gq 1),.int .u64 (jg jf gq 2),.int .u64 (jg jf gq 3),.int .u64 (jg jf gg 0),.int .u64 (jg jf gg 1),.int .u64 (jg jf gg 2),.int .u64 (jg jf gg 3),.int .u64 (jg jf gh 0),.int .u64 (jg jf gh 1),.int .u64 (jg jf gh 2),.int .u64 (jg jf gh 3)],ji a] w fun e w'=>e=.returned (.bool false)/\Below w.heap.size w w':=by
 have hne:=Zm a 0 C9 zI;rw[decide_eq_false ha0] at hne;have C1:=jh (fun w=>by have h:=zY 1 1 rfl (by decide) w;unfold ji words at h;exact h);have C0:=jh (fun w=>by have h:=zY 0 0 rfl (by decide) w;unfold ji words at h;exact h);have e1:zk gp 1=1:=by exact Jw h1
 have K1:=jh (fun w=>by have h:=zj hm (show 1<jk by decide) w;rw[e1] at h;unfold ji words at h;exact h);have e2:zk a gp=1:=by exact Jw h
 have K2:=jh (fun w=>by have h:=zj C9 hm w;rw[e2] at h;unfold ji words at h;exact h);clear e1 e2 C9 hm h;unfold ji words
 go_enter func97,ntmps97
 go_wp2_with fail
 obtain⟨w0,GG,e0,s0,J8,g0,HB0⟩:=Qt w 26 gp gq gg gh;rw[e0,s0,J8];clear e0 s0 J8;obtain⟨wz,AA,e9,Y5,V3,B,I7,xA,sH,U2⟩:=box1 w0 24 a;rw[e9,Y5];clear e9 Y5;have G0:=jh (J3.later B.out g0);clear g0;refine zM 17 (fun F O9 hcl hbl=>?_);obtain⟨X3,U4,J4,I4⟩:=qF hbl V3;have F8:=fun X9:Wd F=>(J3.later (hbl X9.world X9.fact) G0.out).1 0 (by omega)
 have D8:=fun X9:Wd F=>(J3.later (hbl X9.world X9.fact) G0.out).1 1 (by omega)
 have A8:=fun X9:Wd F=>(J3.later (hbl X9.world X9.fact) G0.out).1 2 (by omega)
 have Z7:=fun X9:Wd F=>(J3.later (hbl X9.world X9.fact) G0.out).1 3 (by omega)
 simp only[Nat.reduceAdd] at F8 D8 A8 Z7;have I5:=jh hcl;clear hcl hbl;refine zL 17 ?_;simp only[zo,zn,zm,zl,Nat.reduceAdd]
 repeat (go_big_quiet_step ((first|(go_at_call 99;with_reducible exact jp I5.out (C1.out _))|(go_at_call 99;with_reducible exact jp I5.out (C0.out _))|(go_at_call 26;with_reducible exact jp I5.out (K1.out _))|(go_at_call 26;with_reducible exact jp I5.out (K2.out _)))))
 refine wpQuiet_nil ?_;refine jS ?_;intro bs w2 hb _ _;clear X3 U4 J4 I4;obtain⟨V3,U2,B⟩:=pF hb V3 U2 B;clear hb;simp only[over];clear F8 D8 A8 Z7
 go_wp2_with fail
 refine bodyPost_ret (v:=.bool false) ?_ rfl ⟨rfl,jm HB0.out B.out⟩
 simp[results,results97,go_sem]
def Jt(gp a:Nat):Prop:=1<gp/\a≠0/\a<gp
instance (gp a:Nat):Decidable (Jt gp a):=by unfold Jt;exact inferInstance
theorem may_any{gp gq gg gh a:Nat}(C9:a<jk)(hm:gp<jk)(w:World):
  Calls prog 97 #[.agg #[.int .u64 (jg jf gp 0),.int .u64 (jg jf gp 1),.int .u64 (jg jf gp 2),.int .u64 (jg jf gp 3),.int .u64 (jg jf gq 0),.int .u64 (jg jf gq 1),.int .u64 (jg jf gq 2),.int .u64 (jg jf gq 3),.int .u64 (jg jf gg 0),.int .u64 (jg jf gg 1),.int .u64 (jg jf gg 2),.int .u64 (jg jf gg 3),.int .u64 (jg jf gh 0),.int .u64 (jg jf gh 1),.int .u64 (jg jf gh 2),.int .u64 (jg jf gh 3)],ji a] w fun e w'=>e=.returned (.bool (decide (Jt gp a)))/\Below w.heap.size w w':=by
 by_cases h:Jt gp a
 ·rw[decide_eq_true h];exact may_yes h.1 h.2.1 h.2.2 hm w
 ·rw[decide_eq_false h];unfold Jt at h
  by_cases h1:1<gp
  ·by_cases h0:a=0
   ·exact may_zero h1 h0 C9 hm w
   ·rcases Nat.lt_trichotomy a gp with h9|h9|h9
    ·exact absurd ⟨h1,h0,h9⟩ h
    ·exact may_eq h1 h0 h9 C9 hm w
    ·exact may_gt h1 h0 h9 C9 hm w
  ·rcases Nat.lt_or_ge gp 1 with h9|h9
   ·exact may_low0 h9 C9 hm w
   ·exact may_low1 (by omega) C9 hm w
theorem QU{gp gq gg gh a n:Nat}(h:Jt gp a)(C9:a<jk)(hn:n<jk)(hm:gp<jk)(w:World):
  Calls prog 24 #[.agg #[.int .u64 (jg jf gp 0),.int .u64 (jg jf gp 1),.int .u64 (jg jf gp 2),.int .u64 (jg jf gp 3),.int .u64 (jg jf gq 0),.int .u64 (jg jf gq 1),.int .u64 (jg jf gq 2),.int .u64 (jg jf gq 3),.int .u64 (jg jf gg 0),.int .u64 (jg jf gg 1),.int .u64 (jg jf gg 2),.int .u64 (jg jf gg 3),.int .u64 (jg jf gh 0),.int .u64 (jg jf gh 1),.int .u64 (jg jf gh 2),.int .u64 (jg jf gh 3)],ji a,ji n] w fun e w'=>e=.returned (.tuple #[ji (a^n%gp),.int .i64 0])/\Below w.heap.size w w':=by
 have CM:=jh (fun w=>by have h9:=may_any (gq:=gq) (gg:=gg) (gh:=gh) C9 hm w;rw[decide_eq_true h] at h9;unfold ji words at h9;exact h9);obtain⟨q,hq⟩:=je (a^n%gp);have CE:=jh (fun w=>by have h9:=Exp_any h.2.2 h.1 hn hm w;rw[<-hq] at h9;unfold ji words at h9;exact h9);rw[<-hq];clear hq;clear h C9 hn hm;unfold ji words
 go_enter func24,ntmps24
 go_wp2_with fail
 obtain⟨w0,GG,e0,s0,J8,g0,HB0⟩:=Qt w 26 gp gq gg gh;rw[e0,s0,J8];clear e0 s0 J8;obtain⟨wz,AA,NN,RR,e9,Y5,h_1,h_2,V3,D6,HRR,HF,B,I7,l_1,NC,xA,Z5,U2⟩:=ZY w0 24 a n;rw[e9,Y5,h_1,h_2];clear e9 Y5 h_1 h_2;have G0:=jh (J3.later B.out g0);clear g0;refine(CM.out _).mono ?_;rintro _ w2 ⟨rfl,hb⟩;have G0:=jh (J3.later hb G0.out);obtain⟨V3,D6,HRR,HF,U2,B⟩:=mM hb V3 D6 HRR HF U2 B;clear hb;have F8:=G0.out.1 0 (by omega);have D8:=G0.out.1 1 (by omega);have A8:=G0.out.1 2 (by omega);have Z7:=G0.out.1 3 (by omega);simp only[Nat.reduceAdd] at F8 D8 A8 Z7;obtain⟨X3,U4,J4,I4⟩:=jF V3.out;obtain⟨X6,V6,U6,P6⟩:=jF D6.out
 go_wp2_with fail
 clear X3 U4 J4 I4 X6 V6 U6 P6;clear F8 D8 A8 Z7;refine(CE.out _).mono ?_;rintro _ w3 ⟨rfl,hb⟩;obtain⟨V3,D6,HRR,HF,U2,B⟩:=mM hb V3 D6 HRR HF U2 B;clear hb;obtain⟨c0,c1,c2,c3,f0,f1,f2,f3⟩:=jU HRR.out HF.out
 go_wp2_with fail
 obtain⟨N7,B9⟩:=zP HRR B Z5 q;obtain⟨g0,g1,g2,g3⟩:=jF N7.out;refine bodyPost_ret (v:=.tuple #[ji q,.int .i64 0]) ?_ rfl ⟨rfl,jm HB0.out B9.out⟩
 simp[results,results24,go_sem,ji,words,g0,g1,g2,g3]
theorem yS{gp gq gg gh a n:Nat}(h:¬Jt gp a)(C9:a<jk)(hn:n<jk)(hm:gp<jk)(w:World):
  Calls prog 24 #[.agg #[.int .u64 (jg jf gp 0),.int .u64 (jg jf gp 1),.int .u64 (jg jf gp 2),.int .u64 (jg jf gp 3),.int .u64 (jg jf gq 0),.int .u64 (jg jf gq 1),.int .u64 (jg jf gq 2),.int .u64 (jg jf gq 3),.int .u64 (jg jf gg 0),.int .u64 (jg jf gg 1),.int .u64 (jg jf gg 2),.int .u64 (jg jf gg 3),.int .u64 (jg jf gh 0),.int .u64 (jg jf gh 1),.int .u64 (jg jf gh 2),.int .u64 (jg jf gh 3)],ji a,ji n] w fun e w'=>e=.returned (.tuple #[ji (0),.int .i64 1])/\Below w.heap.size w w':=by
 have CM:=jh (fun w=>by have h9:=may_any (gq:=gq) (gg:=gg) (gh:=gh) C9 hm w;rw[decide_eq_false h] at h9;unfold ji words at h9;exact h9);clear h C9 hn hm;unfold ji words
 go_enter func24,ntmps24
 go_wp2_with fail
 obtain⟨w0,GG,e0,s0,J8,g0,HB0⟩:=Qt w 26 gp gq gg gh;rw[e0,s0,J8];clear e0 s0 J8;obtain⟨wz,AA,NN,RR,e9,Y5,h_1,h_2,V3,D6,HRR,HF,B,I7,l_1,NC,xA,Z5,U2⟩:=ZY w0 24 a n;rw[e9,Y5,h_1,h_2];clear e9 Y5 h_1 h_2;have G0:=jh (J3.later B.out g0);clear g0;refine(CM.out _).mono ?_;rintro _ w2 ⟨rfl,hb⟩;have G0:=jh (J3.later hb G0.out);obtain⟨V3,D6,HRR,HF,U2,B⟩:=mM hb V3 D6 HRR HF U2 B;clear hb;obtain⟨c0,c1,c2,c3,f0,f1,f2,f3⟩:=jU HRR.out HF.out
 go_wp2_with fail
 refine bodyPost_ret (v:=.tuple #[.agg #[.int .u64 0,.int .u64 0,.int .u64 0,.int .u64 0],.int .i64 1]) ?_ rfl ⟨by simp only[jN];rfl,jm HB0.out (jO B.out Z5 _ _ _ _)⟩;have n9:=U0.set4 HRR.out 0;have z0:((jg jf 0 0:Nat):Int)=0:=by rw[jN];rfl
 have z1:((jg jf 0 1:Nat):Int)=0:=by rw[jN];rfl
 have z2:((jg jf 0 2:Nat):Int)=0:=by rw[jN];rfl
 have z3:((jg jf 0 3:Nat):Int)=0:=by rw[jN];rfl
 rw[z0,z1,z2,z3] at n9;obtain⟨g0,g1,g2,g3⟩:=jF n9;rw[z0] at g0;rw[z1] at g1;rw[z2] at g2;rw[z3] at g3
 simp[results,results24,go_sem,g0,g1,g2,g3]
theorem iT{a b:Nat}(h:b<=a):0<=zk a b:=by
 unfold zk;rw[if_neg (by omega)]
 split<;>omega
theorem cmpN_le{a b:Nat}(h:a<=b):zk a b<=0:=by
 unfold zk
 split
 ·omega
 ·rw[if_pos (by omega)];omega
theorem of_low{a b m:Nat}(h1:m<=1)(hm:m<jk)(ha:a<jk)(L6:b<jk){f:FuncId}{caps:Array Value}(w:World):
  Calls prog 171 #[.agg #[.func (.func f) #[] caps],ji a,ji b,ji m] w fun e w'=>e=.returned (.tuple #[ji 0,.int .i64 1])/\Below w.heap.size w w':=by
 have C1:=jh (fun w=>by have h:=zY 1 1 rfl (by decide) w;unfold ji words at h;exact h);obtain⟨z,hz⟩:=je (zk m 1);have K1:=jh (fun w=>by have h:=zj hm (show 1<jk by decide) w;rewrite[<-hz] at h;unfold ji words at h;exact h);have hz0:z<=0:=by rw[hz];exact cmpN_le h1
 clear h1 hm ha L6 hz;unfold ji words at*
 go_enter func171,ntmps171
 go_wp2_with fail
 obtain⟨w0,e0⟩:=je (w.alloc (.cells #[.func (.func f) #[] caps] 251));have b0:=jc e0;have s0:w0.heap.size=w.heap.size+1:=by rw[e0];simp
 rw[<-e0,<-s0];have HB0:=jh b0;clear e0 b0 s0;obtain⟨wz,AA,BB,MM,RR,e9,Y5,h_1,h_2,h_3,V3,X4,V4,HRR,HF,B,I7,l_1,NC,BI,xA,Z5,U2⟩:=zT w0 24 a b m;rw[e9,Y5,h_1,h_2,h_3];clear e9 Y5 h_1 h_2 h_3;refine zM 16 (fun F O9 hcl hbl=>?_);obtain⟨X3,U4,J4,I4⟩:=qF hbl V3;obtain⟨X5,H6,G6,F6⟩:=qF hbl X4;obtain⟨F5,V5,U5,Q5⟩:=qF hbl V4;have I5:=jh hcl;clear hcl hbl;refine zL 16 ?_;simp only[zo,zn,zm,zl,Nat.reduceAdd]
 repeat (go_big_quiet_step ((first|(go_at_call 99;with_reducible exact jp I5.out (C1.out _))|(go_at_call 26;with_reducible exact jp I5.out (K1.out _)))))
 refine wpQuiet_nil ?_;refine jS ?_;intro bs w2 hb _ _;clear X3 U4 J4 I4 X5 H6 G6 F6 F5 V5 U5 Q5;obtain⟨V3,X4,V4,HRR,HF,U2,B⟩:=qQ hb V3 X4 V4 HRR HF U2 B;clear hb;simp only[over];obtain⟨c0,c1,c2,c3,f0,f1,f2,f3⟩:=jU HRR.out HF.out
 go_wp2_with fail
 have B9:=jh (jO B.out Z5 (.int .u64 0) (.int .u64 0) (.int .u64 0) (.int .u64 0));refine bodyPost_ret (v:=.tuple #[.agg #[.int .u64 0,.int .u64 0,.int .u64 0,.int .u64 0],.int .i64 1]) ?_ rfl ⟨by simp only[jN];rfl,jm HB0.out B9.out⟩
 simp[results,results171,go_sem,c0,c1,c2,c3]
theorem of_no{a b m:Nat}(h1:1<m)(hge:m<=a)(hm:m<jk)(ha:a<jk)(L6:b<jk){f:FuncId}{caps:Array Value}(w:World):
  Calls prog 171 #[.agg #[.func (.func f) #[] caps],ji a,ji b,ji m] w fun e w'=>e=.returned (.tuple #[ji 0,.int .i64 1])/\Below w.heap.size w w':=by
 have C1:=jh (fun w=>by have h:=zY 1 1 rfl (by decide) w;unfold ji words at h;exact h);obtain⟨z,hz⟩:=je (zk a m);have K1:=jh (fun w=>by have h:=zj hm (show 1<jk by decide) w;rewrite[Jw h1] at h;unfold ji words at h;exact h);have K2:=jh (fun w=>by have h:=zj ha hm w;rewrite[<-hz] at h;unfold ji words at h;exact h);have hz0:0<=z:=by rw[hz];exact iT hge
 clear h1 hge hm ha L6 hz;unfold ji words at*
 go_enter func171,ntmps171
 go_wp2_with fail
 obtain⟨w0,e0⟩:=je (w.alloc (.cells #[.func (.func f) #[] caps] 251));have b0:=jc e0;have s0:w0.heap.size=w.heap.size+1:=by rw[e0];simp
 rw[<-e0,<-s0];have HB0:=jh b0;clear e0 b0 s0;obtain⟨wz,AA,BB,MM,RR,e9,Y5,h_1,h_2,h_3,V3,X4,V4,HRR,HF,B,I7,l_1,NC,BI,xA,Z5,U2⟩:=zT w0 24 a b m;rw[e9,Y5,h_1,h_2,h_3];clear e9 Y5 h_1 h_2 h_3;refine zM 16 (fun F O9 hcl hbl=>?_);obtain⟨X3,U4,J4,I4⟩:=qF hbl V3;obtain⟨X5,H6,G6,F6⟩:=qF hbl X4;obtain⟨F5,V5,U5,Q5⟩:=qF hbl V4;have I5:=jh hcl;clear hcl hbl;refine zL 16 ?_;simp only[zo,zn,zm,zl,Nat.reduceAdd]
 repeat (go_big_quiet_step ((first|(go_at_call 99;with_reducible exact jp I5.out (C1.out _))|(go_at_call 26;with_reducible exact jp I5.out (K1.out _))|(go_at_call 26;with_reducible exact jp I5.out (K2.out _)))))
 refine wpQuiet_nil ?_;refine jS ?_;intro bs w2 hb _ _;clear X3 U4 J4 I4 X5 H6 G6 F6 F5 V5 U5 Q5;obtain⟨V3,X4,V4,HRR,HF,U2,B⟩:=qQ hb V3 X4 V4 HRR HF U2 B;clear hb;simp only[over];obtain⟨c0,c1,c2,c3,f0,f1,f2,f3⟩:=jU HRR.out HF.out
 go_wp2_with fail
 have B9:=jh (jO B.out Z5 (.int .u64 0) (.int .u64 0) (.int .u64 0) (.int .u64 0));refine bodyPost_ret (v:=.tuple #[.agg #[.int .u64 0,.int .u64 0,.int .u64 0,.int .u64 0],.int .i64 1]) ?_ rfl ⟨by simp only[jN];rfl,jm HB0.out B9.out⟩
 simp[results,results171,go_sem,c0,c1,c2,c3]
theorem uQ:jk%2=0:=by unfold jk;rfl
theorem QC{r m:Nat}(hr:r<m)(hm:m<jk):(zG r r=r+r/\zt r r=0/\r+r<jk)∨(zG r r+jk=r+r/\zt r r=1):=by
 unfold zG zt
 rcases Nat.lt_or_ge (r+r) jk with h|h
 ·exact .inl ⟨Nat.mod_eq_of_lt h,Nat.div_eq_of_lt h,h⟩
 ·refine .inr ⟨?_,?_⟩
  ·rw[Nat.mod_eq_sub_mod h,Nat.mod_eq_of_lt (by omega)];omega
  ·exact Nat.div_eq_of_lt_le (by omega) (by omega)
theorem mJ{r m:Nat}(hr:r<m)(hm:m<jk):zG r r%2=0:=by
 have:=uQ
 rcases QC hr hm with⟨h,_⟩|⟨h,_⟩<;>omega
theorem fQ{r b m:Nat}(hr:r<m)(hm:m<jk)(hb:b<=1):zG r r+b<jk:=by
 have:=uQ;have:=mJ hr hm;have:=Zl r r;omega
theorem aN{x b j:Nat}(hx:x%2=0)(hb:b<=1)(hj:1<=j):jg jf x j=jg jf (x+b) j:=by
 obtain⟨i,rfl⟩:∃i,j=i+1:=⟨j-1,by omega⟩;unfold jg;rw[Nat.pow_succ,Nat.mul_comm,<-Nat.div_div_eq_div_mul,<-Nat.div_div_eq_div_mul];have:(x+b)/jf=x/jf:=by unfold jf;omega
 rw[this]
theorem dgt0_even{x b:Nat}(hx:x%2=0)(hb:b<=1):IntKind.u64.wrap (((jg jf x 0:Nat):Int)+(b:Int))=((jg jf (x+b) 0:Nat):Int):=by
 have e:jg jf (x+b) 0=jg jf x 0+b:=by unfold jg jf;rw[Nat.pow_zero,Nat.div_one,Nat.div_one];omega
 have h:=qh (x+b) 0;rw[e] at h⊢;rw[<-Int.natCast_add,Qw]
 congr 1
 exact Nat.mod_eq_of_lt h
theorem IQ{y m:Nat}(h:m<=y)(hy:y<jk):Jk y m=y-m:=by
 unfold Jk;rw[show y+jk-m=(y-m)+jk by omega,Nat.add_mod_right,Nat.mod_eq_of_lt (by omega)]
theorem iP{r b m:Nat}(hr:r<m)(hm:m<jk)(hb:b<=1)(h:zt r r=1∨m<=zG r r+b):Jk (zG r r+b) m=(2*r+b)%m:=by
 rw[<-kP hr hb]
 rcases QC hr hm with⟨h1,h2,h3⟩|⟨h1,h2⟩
 ·rw[IQ (by omega) (fQ hr hm hb),h1,if_pos (by omega)];omega
 ·unfold Jk;rw[Nat.mod_eq_of_lt (by omega),if_pos (by omega)];omega
theorem twice_not{r b m:Nat}(hr:r<m)(hm:m<jk)(hb:b<=1)(h0:zt r r=0)(h:zG r r+b<m):zG r r+b=(2*r+b)%m:=by
 rw[<-kP hr hb]
 rcases QC hr hm with⟨h1,h2,h3⟩|⟨h1,h2⟩
 ·rw[if_neg (by omega)];omega
 ·omega
theorem addNC_bit{r m:Nat}(hr:r<m)(hm:m<jk):zt r r=0∨zt r r=1:=by
 rcases QC hr hm with⟨_,h,_⟩|⟨_,h⟩
 ·exact .inl h
 ·exact .inr h
theorem word_iff{m:Nat}(hm:m<jk):m<jf↔jg jf m 1=0/\jg jf m 2=0/\jg jf m 3=0:=by
 constructor
 ·intro h;exact(qY h).2
 ·rintro⟨h1,h2,h3⟩;have h:=QZ (k:=1) hm (fun j hj hj4=>by rcases(show j=1∨j=2∨j=3 by omega) with rfl|rfl|rfl<;>assumption) (by omega)
  rwa [Nat.pow_one] at h
theorem vW{lo hi j:Nat}(hj:j<4):(hi*jk+lo)/jf^j%jf=jg jf lo j:=by
 unfold jg;obtain⟨k,hk⟩:∃k,jk=jf^j*jf*k:=⟨jf^(3-j),by rw[<-ZS,<-Nat.pow_succ,<-Nat.pow_add];congr 1;omega⟩;rw[show hi*jk+lo=lo+jf^j*(jf*(hi*k)) by rw[hk,Nat.add_comm];congr 1;ac_rfl,Nat.add_mul_div_left _ _ (Nat.pow_pos zJ),Nat.add_mul_mod_self_left]
theorem bT{lo hi j:Nat}(hlo:lo<jk):(hi*jk+lo)/jf^(j+4)%jf=jg jf hi j:=by
 unfold jg;rw[Nat.add_comm j 4,Nat.pow_add,ZS,<-Nat.div_div_eq_div_mul,Nat.add_comm,Nat.add_mul_div_right _ _ zI,Nat.div_eq_of_lt hlo,Nat.zero_add]
theorem MW{lo hi j:Nat}(hj:j<256):(hi*jk+lo)/2^j%2=lo/2^j%2:=by
 obtain⟨k,hk⟩:∃k,jk=2^j*2*k:=⟨2^(255-j),by rw[xC,<-Nat.pow_succ,<-Nat.pow_add];congr 1;omega⟩;rw[show hi*jk+lo=lo+2^j*(2*(hi*k)) by rw[hk,Nat.add_comm];congr 1;ac_rfl,Nat.add_mul_div_left _ _ (Nat.two_pow_pos j),Nat.add_mul_mod_self_left]
theorem nT{lo hi j:Nat}(hlo:lo<jk):(hi*jk+lo)/2^(j+256)%2=hi/2^j%2:=by
 rw[Nat.add_comm j 256,Nat.pow_add,<-xC,<-Nat.div_div_eq_div_mul,Nat.add_comm,Nat.add_mul_div_right _ _ zI,Nat.div_eq_of_lt hlo,Nat.zero_add]
theorem wide_top8{lo hi m:Nat}(hlo:lo<jk)(hhi:hi<jk):(hi*jk+lo)/jf^8%m=0:=by
 rw[Nat.div_eq_of_lt,Nat.zero_mod];rw[show 8=4+4 from rfl,Nat.pow_add,ZS];have:(hi+1)*jk<=jk*jk:=Nat.mul_le_mul_right _ hhi;rw[Nat.succ_mul] at this;omega
def vK(x m n:Nat):Nat:=x/2^n%m
theorem topB_zero(x m:Nat):vK x m 0=x%m:=by unfold vK;rw[Nat.pow_zero,Nat.div_one]
theorem topB_lt{x m n:Nat}(h:0<m):vK x m n<m:=Nat.mod_lt _ h
theorem top_none{x k m n:Nat}(h:x<2^k*2^n):vK x m (k+n)=0:=by
 unfold vK;rw[Nat.pow_add,Nat.div_eq_of_lt h,Nat.zero_mod]
theorem topB_all{lo hi m:Nat}(hlo:lo<jk)(hhi:hi<jk):vK (hi*jk+lo) m (256+256)=0:=by
 refine top_none ?_;have h:(hi+1)*jk<=jk*jk:=Nat.mul_le_mul_right _ hhi;rw[Nat.succ_mul] at h;have e:(2:Nat)^256=jk:=xC.symm
 calc hi*jk+lo<jk*jk:=by omega
  _=2^256*2^256:=by rw[e]
theorem sub1_less{a b m:Nat}(ha:a<m)(L6:b<m)(hm:m<jk)(hs:a<b)(w:World):
  Calls prog 222 #[ji a,ji b,ji m] w fun e w'=>e=.returned (ji ((a+m-b)%m))/\Below w.heap.size w w':=by
 have C9:=Nat.lt_trans ha hm;have hb8:=Nat.lt_trans L6 hm;obtain⟨x,hx⟩:=je (Jk a b);have iC:x<jk:=by rw[hx];exact FQ _ _
 obtain⟨q,hq⟩:=je ((a+m-b)%m);have OV:q=a+m-b:=by rw[hq];exact Nat.mod_eq_of_lt (by omega)
 have el:zq a b=1:=by unfold zq;rw[if_pos hs]
 have ey:zG x m=q:=by rw[hx,OV];unfold zG Jk;unfold jk at*;omega
 obtain⟨c,hc⟩:=je (zt x m);have C2:=jh (fun w=>by have h:=add_any iC hm w;rw[ey,<-hc] at h;unfold ji words at h;exact h);have C1:=jh (fun w=>by have h:=Ze C9 hb8 w;rw[el,<-hx] at h;unfold ji words at h;exact h);have HY:=jh ey;rw[<-hq];clear hx iC hq OV ey el ha L6 hm hs C9 hb8 hc;unfold ji words
 go_enter func222,ntmps222
 go_wp2_with fail
 obtain⟨wz,AA,BB,MM,RR,e9,Y5,h_1,h_2,h_3,V3,X4,V4,HRR,HF,B,I7,l_1,NC,BI,xA,Z5,U2⟩:=zT w 24 a b m;rw[e9,Y5,h_1,h_2,h_3];clear e9 Y5 h_1 h_2 h_3;refine(C1.out _).mono ?_;rintro _ w2 ⟨rfl,hb⟩;obtain⟨V3,X4,V4,HRR,HF,U2,B⟩:=qQ hb V3 X4 V4 HRR HF U2 B;clear hb;have q_0:=fun o1=>(U0.alloc V4.out o1) 0 (by omega)
 have q_1:=fun o1=>(U0.alloc V4.out o1) 1 (by omega)
 have q_2:=fun o1=>(U0.alloc V4.out o1) 2 (by omega)
 have q_3:=fun o1=>(U0.alloc V4.out o1) 3 (by omega)
 go_wp2_with fail
 clear q_0 q_1 q_2 q_3;obtain⟨w3,e3⟩:=je (w2.alloc (.cells (jD x) 24));obtain⟨XX,hX⟩:=je (w2.heap.size);have hb:=jc e3;have U9:=jh (show U0 w3 XX x by rw[e3];exact U0.new w2 x _ _ hX);have VZ:=jh (show Y0 w3 XX 4 by rw[e3];exact Y0.made w2 _ _ 4 _ hX);have nRX:RR≠XX:=by omega
 have hXl:XX<w3.heap.size:=by rw[e3,hX];simp
 have hwX:w.heap.size<=XX:=by omega
 rw[<-e3,<-hX];clear e3 hX;obtain⟨V3,X4,V4,HRR,HF,U2,B⟩:=qQ hb V3 X4 V4 HRR HF U2 B;clear hb;refine(C2.out _).mono ?_;rintro _ w4 ⟨rfl,hb⟩;have VZ:=jh (VZ.out.later hb hXl);have hXl:=jv hXl hb.size;have V3:=jn hb V3;obtain⟨X4,V4,HRR,U9,HF,U2,B⟩:=qQ hb X4 V4 HRR U9 HF U2 B;clear hb;have n4:=U0.set4 U9.out q;have f4:=Y0.set4 HF.out ⟨XX,0,none⟩ ⟨XX,1,none⟩ ⟨XX,2,none⟩ ⟨XX,3,none⟩ (.int .u64 (jg jf q 0)) (.int .u64 (jg jf q 1)) (.int .u64 (jg jf q 2)) (.int .u64 (jg jf q 3));have hXX4:=jU U9.out VZ.out;obtain⟨r0,r1,r2,r3,f0,f1,f2,f3⟩:=hXX4;clear n4 f4;obtain⟨c0,c1,c2,c3,d0,d1,d2,d3⟩:=jU HRR.out HF.out
 go_wp2_with fail
 clear c0 c1 c2 c3 d0 d1 d2 d3 r0 r1 r2 r3 f0 f1 f2 f3;obtain⟨w5,e9⟩:=je ((((w4.setCell ⟨XX,0,none⟩ (.int .u64 (jg jf q 0))).setCell ⟨XX,1,none⟩ (.int .u64 (jg jf q 1))).setCell ⟨XX,2,none⟩ (.int .u64 (jg jf q 2))).setCell ⟨XX,3,none⟩ (.int .u64 (jg jf q 3)));have HRR:=jh (show U0 w5 RR 0 by rw[e9];exact U0.other4 HRR.out nRX _ _ _ _);have B:=jh (show Below w.heap.size w w5 by rw[e9];exact jO B.out hwX _ _ _ _);rw[<-e9];obtain⟨N7,B9⟩:=zP HRR B Z5 q;obtain⟨g0,g1,g2,g3⟩:=jF N7.out;refine bodyPost_ret (v:=ji q) ?_ rfl ⟨rfl,B9.out⟩
 simp[results,results222,go_sem,ji,words,g0,g1,g2,g3]
theorem sub1_ge{a b m:Nat}(ha:a<m)(L6:b<m)(hm:m<jk)(hs:b<=a)(w:World):
  Calls prog 222 #[ji a,ji b,ji m] w fun e w'=>e=.returned (ji ((a+m-b)%m))/\Below w.heap.size w w':=by
 have C9:=Nat.lt_trans ha hm;have hb8:=Nat.lt_trans L6 hm;obtain⟨x,hx⟩:=je (Jk a b);have iC:x<jk:=by rw[hx];exact FQ _ _
 obtain⟨q,hq⟩:=je ((a+m-b)%m);have OV:q=a-b:=by rw[hq,show a+m-b=a-b+m by omega,Nat.add_mod_right];exact Nat.mod_eq_of_lt (by omega)
 have el:zq a b=0:=by unfold zq;rw[if_neg (by omega)]
 have ey:x=q:=by rw[hx,OV];unfold Jk;unfold jk at*;omega
 have C1:=jh (fun w=>by have h:=Ze C9 hb8 w;rw[el,<-hx] at h;unfold ji words at h;exact h);have HY:=jh ey;rw[<-hq];clear hx iC hq OV ey el ha L6 hm hs C9 hb8;unfold ji words
 go_enter func222,ntmps222
 go_wp2_with fail
 obtain⟨wz,AA,BB,MM,RR,e9,Y5,h_1,h_2,h_3,V3,X4,V4,HRR,HF,B,I7,l_1,NC,BI,xA,Z5,U2⟩:=zT w 24 a b m;rw[e9,Y5,h_1,h_2,h_3];clear e9 Y5 h_1 h_2 h_3;refine(C1.out _).mono ?_;rintro _ w2 ⟨rfl,hb⟩;obtain⟨V3,X4,V4,HRR,HF,U2,B⟩:=qQ hb V3 X4 V4 HRR HF U2 B;clear hb;obtain⟨c0,c1,c2,c3,f0,f1,f2,f3⟩:=jU HRR.out HF.out
 go_wp2_with fail
 rw[HY.out];obtain⟨N7,B9⟩:=zP HRR B Z5 q;have hba:∀W:World,Below W.heap.size W (W.alloc (.cells #[.int .u64 (jg jf q 0),.int .u64 (jg jf q 1),.int .u64 (jg jf q 2),.int .u64 (jg jf q 3)] 24)):=fun W=>ja
 have B9:=jh (jm B9.out (hba _));have N7:=jh (U0.later (hba _) N7.out);clear hba;obtain⟨g0,g1,g2,g3⟩:=jF N7.out;refine bodyPost_ret (v:=ji q) ?_ rfl ⟨rfl,B9.out⟩
 simp[results,results222,go_sem,ji,words,g0,g1,g2,g3]
theorem sub1_any{a b m:Nat}(ha:a<m)(hb:b<m)(hm:m<jk)(w:World):
  Calls prog 222 #[ji a,ji b,ji m] w fun e w'=>e=.returned (ji ((a+m-b)%m))/\Below w.heap.size w w':=by
 rcases Nat.lt_or_ge a b with h|h
 ·exact sub1_less ha hb hm h w
 ·exact sub1_ge ha hb hm h w
theorem Sub_any{a n m:Nat}(ha:a<m)(h1:1<m)(hn:n<m)(hm:m<jk)(w:World):
  Calls prog 183 #[ji a,ji n,ji m] w fun e w'=>e=.returned (.tuple #[ji ((a+m-n)%m),.int .i64 0])/\Below w.heap.size w w':=by
 obtain⟨q,hq⟩:=je ((a+m-n)%m);rw[<-hq];have HQ:=jh hq;have HA9:=jh ha;have KN:=jh h1;have nD:=jh hn;have YN:=jh hm;clear hq ha h1 hn hm;unfold ji words
 go_enter func183,ntmps183
 go_wp2_with fail
 obtain⟨wz,AA,NN,MM,RR,e9,Y5,h_1,h_2,h_3,V3,D6,V4,HRR,HF,B,I7,l_1,NC,BI,xA,Z5,U2⟩:=zT w 24 a n m;rw[e9,Y5,h_1,h_2,h_3];clear e9 Y5 h_1 h_2 h_3;have CO:=iR (q:=q) (f:=222) (caps:=#[]) HA9.out nD.out KN.out YN.out wz (by intro args W;simp[go_sem]) (fun W hb=>by have h:=sub1_any HA9.out nD.out YN.out W;rw[<-HQ.out] at h;exact h);unfold ji words at CO;refine CO.mono ?_;rintro _ w3 ⟨rfl,hb⟩;clear CO;obtain⟨V3,D6,V4,HRR,HF,U2,B⟩:=qQ hb V3 D6 V4 HRR HF U2 B;clear hb;obtain⟨c0,c1,c2,c3,f0,f1,f2,f3⟩:=jU HRR.out HF.out
 go_wp2_with fail
 obtain⟨N7,B9⟩:=zP HRR B Z5 q;obtain⟨g0,g1,g2,g3⟩:=jF N7.out;refine bodyPost_ret (v:=.tuple #[ji q,.int .i64 0]) ?_ rfl ⟨rfl,B9.out⟩
 simp[results,results183,go_sem,ji,words,g0,g1,g2,g3]
end Go.Proofs.YtpkalgofejjggaaGreatDoor
