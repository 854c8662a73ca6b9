/- Layer 13's reference, in plain words -/
import Derived.Test.YtpkalgofejjggaaGreatDoorBPBG28
set_option linter.unusedSimpArgs false
set_option linter.unusedVariables false
set_option maxHeartbeats 8000000
set_option maxRecDepth 100000
namespace Go.Proofs.YtpkalgofejjggaaGreatDoor
open Go.ChangeShapes Go.WideShapes Go.ChangeAt Go.RowKit Go.Proofs.Tryz
attribute [local go_sem] Oper.semAt_some
def Zt(gp:Nat)(xs ns:List Nat)(k:Nat):Nat:=((xs.zip ns).take k).foldl (fun o p=>o*(p.1^p.2%gp)%gp) 1
theorem ZJ{gp k:Nat}{xs ns:List Nat}(h:k<xs.length)(hl:ns.length=xs.length):Zt gp xs ns (k+1)=Zt gp xs ns k*(xs.getD k 0^ns.getD k 0%gp)%gp:=by
 unfold Zt;rw[List.take_add_one,List.foldl_append,Jd (by simp;omega)]
 simp[List.getD_eq_getElem?_getD,List.getElem?_eq_getElem h,Jd (show k<ns.length by omega)]
theorem prodN_lt{gp:Nat}(hp:1<gp)(xs ns:List Nat)(k:Nat)(hk:k<=xs.length)(hl:ns.length=xs.length):Zt gp xs ns k<gp:=by
 cases k with
 |zero=>simp[Zt];exact hp
 |succ k=>rw[ZJ (by omega) hl];exact Nat.mod_lt _ (by omega)
structure TB(w w5:World)(G OB R6 R7 gp gq gg gh o:Nat)(W:World):Prop where
 o:U0 W OB o
 f:Y0 W OB 4
 g:J3 W G gp gq gg gh
 r:U0 W R6 0
 rf:Y0 W R6 4
 e:W.cell? ⟨R7,0,none⟩=some (.int .i64 0)
 ef:W.frozen? ⟨R7,0,none⟩=false
 b:Below w.heap.size w W
 s:w5.heap.size<=W.heap.size
theorem TB.later{w w5 W W':World}{G OB R6 R7 gp gq gg gh o:Nat}(h:TB w w5 G OB R6 R7 gp gq gg gh o W)(hb:Below W.heap.size W W'):TB w w5 G OB R6 R7 gp gq gg gh o W':=
 ⟨U0.later hb h.o,h.f.later hb (U0.lt h.o),h.g.later hb,U0.later hb h.r,h.rf.later hb (U0.lt h.r),jj h.e hb,(hb.frozen (World.block_lt_of_cell? (a:=⟨R7,0,none⟩) _ h.e)).trans h.ef,jm h.b hb,Nat.le_trans h.s hb.size⟩
theorem TB.putObj{w w5 W:World}{G OB R6 R7 gp gq gg gh o l:Nat}{o1 o2:Obj}(h:TB w w5 G OB R6 R7 gp gq gg gh o W)(hl:w.heap.size<=l)(h1:W.heap[l]?=some o1) (h2:o1.isCells=false):TB w w5 G OB R6 R7 gp gq gg gh o (W.putObj l o2):=
 ⟨fun j hj=>JM h1 h2 (h.o j hj),fun j hj=>by
   by_cases hj4:j<4
   ·exact ZN h1 h2 (h.o j hj4) (h.f j hj)
   ·omega,
  ⟨fun j hj=>JM h1 h2 (h.g.1 j hj),fun j hj=>JM h1 h2 (h.g.2.1 j hj),fun j hj=>JM h1 h2 (h.g.2.2.1 j hj),fun j hj=>JM h1 h2 (h.g.2.2.2 j hj)⟩,
  fun j hj=>JM h1 h2 (h.r j hj),fun j hj=>ZN h1 h2 (h.r j hj) (h.rf j hj),JM h1 h2 h.e,ZN h1 h2 h.e h.ef,
  ⟨h.b.os,h.b.tape,h.b.output,by simpa using h.b.size,fun g hg=>(World.putObj_heap_other (by omega)).trans (h.b.block g hg)⟩,by simpa using h.s⟩
theorem TB.set{w w5 W:World}{G OB R6 R7 gp gq gg gh o:Nat}(h:TB w w5 G OB R6 R7 gp gq gg gh o W)(hO:w.heap.size<=OB)(n1:G≠OB)(n2:R6≠OB)(n3:R7≠OB)(x:Nat):TB w w5 G OB R6 R7 gp gq gg gh x ((((W.setCell ⟨OB,0,none⟩ (.int .u64 (jg jf x 0))).setCell ⟨OB,1,none⟩ (.int .u64 (jg jf x 1))).setCell ⟨OB,2,none⟩ (.int .u64 (jg jf x 2))).setCell ⟨OB,3,none⟩ (.int .u64 (jg jf x 3))):=by
 obtain⟨W1,hW1⟩:=je (((((W.setCell ⟨OB,0,none⟩ (.int .u64 (jg jf x 0))).setCell ⟨OB,1,none⟩ (.int .u64 (jg jf x 1))).setCell ⟨OB,2,none⟩ (.int .u64 (jg jf x 2))).setCell ⟨OB,3,none⟩ (.int .u64 (jg jf x 3))));rw[<-hW1];have hs:∀g,g≠OB->W1.heap[g]?=W.heap[g]?:=fun g hg=>by rw[hW1,Below.heap_setCell _ _ _ _ hg,Below.heap_setCell _ _ _ _ hg,Below.heap_setCell _ _ _ _ hg,Below.heap_setCell _ _ _ _ hg]
 have hc:∀{p:Addr} {v:Value},p.block≠OB->W.cell? p=some v->W1.cell? p=some v:=fun hp h=>(World.cell?_of_block (hs _ hp)).trans h
 have hf:∀{p:Addr},p.block≠OB->W.frozen? p=false->W1.frozen? p=false:=fun hp h=>(World.frozen?_of_block (hs _ hp)).trans h
 refine⟨by rw[hW1];exact U0.set4 h.o x,by rw[hW1];exact h.f.set4 _ _ _ _ _ _ _ _,⟨fun j hj=>hc n1 (h.g.1 j hj),fun j hj=>hc n1 (h.g.2.1 j hj),fun j hj=>hc n1 (h.g.2.2.1 j hj),fun j hj=>hc n1 (h.g.2.2.2 j hj)⟩,
  fun j hj=>hc n2 (h.r j hj),fun j hj=>hf n2 (h.rf j hj),hc n3 h.e,hf n3 h.ef,by rw[hW1];exact jO h.b hO _ _ _ _,by rw[hW1];simpa using h.s⟩
theorem kX{gp gq gg gh ba oa ca bn on cn N:Nat}{xs ns:List Nat}(hp1:1<gp)(IB:gp<jk)(hx:∀x∈xs,Jt gp x)(hn:∀n∈ns,n<jk)(hN:N=xs.length)(hln:ns.length=xs.length)(hlen:xs.length<=1000)(w:World)(HX:Q8 w ba oa xs)(HN:Q8 w bn on ns)(hba:ba<w.heap.size)(hbn:bn<w.heap.size):
  Calls prog 115 #[qj gp gq gg gh,.slice (some ⟨ba,oa,none⟩) N ca,.slice (some ⟨bn,on,none⟩) N cn] w fun e w'=>e=.returned (.tuple #[ji (Zt gp xs ns N),.int .i64 0])/\Below w.heap.size w w':=by
 have C1:=jh (fun w=>by have h:=zY 1 1 rfl (by decide) w;unfold ji words at h;exact h);have CC:=jh (fun w=>by have h:=zj IB (show 1<jk by decide) w;rw[Jw hp1] at h;unfold ji words at h;exact h);have CE:=jh (fun(x n:Nat) (h1:Jt gp x) (h2:n<jk) (W:World)=>by have h9:=QU (gq:=gq) (gg:=gg) (gh:=gh) h1 (Nat.lt_trans h1.2.2 IB) h2 IB W;unfold ji words at h9;exact h9);have CM:=jh (fun(x y:Nat) (h1:x<gp) (h2:y<gp) (W:World)=>by have h9:=Mul_any h1 hp1 h2 IB W;unfold ji words at h9;exact h9);obtain⟨Q9,hQ9⟩:=je (Zt gp xs ns N);rw[<-hQ9];have HQ9:=jh hQ9;have HXM:=jh hx;have HNM:=jh hn;have HLN:=jh hln;have nD:=jh hN;have HP1:=jh hp1;have U9:=jh HX;have D6:=jh HN;have hNI:(N:Int)<=1000:=by omega
 clear hQ9 hx hn hln hN hp1 HX HN IB hlen;unfold ji words qj at*;refine(callsIn_wide (n:=9)).1 ?_;refine callsIn_of_wp_marks func115 rfl trivial ?_ rfl;simp only[ntmps115,List.size_toArray,List.length_cons,List.length_nil,Nat.reduceAdd,Nat.reduceSub,Array.replicate_succ,Array.replicate_zero,List.push_toArray,List.append_toArray,List.nil_append,List.cons_append]
 gi_wp2_with fail
 obtain⟨wa,ea⟩:=je (w.alloc (.cells (jG gp gq gg gh) 26));obtain⟨wb,eb⟩:=je (wa.alloc (.cells jA 24));obtain⟨wc,ec⟩:=je (wb.alloc (.cells #[.int .i64 0] 39));have sa:wa.heap.size=w.heap.size+1:=by rw[ea];simp
 have sb:wb.heap.size=w.heap.size+1+1:=by rw[eb];simp[sa]
 have sc:wc.heap.size=w.heap.size+1+1+1:=by rw[ec];simp[sb]
 have ba9:=jc ea;have bb:=jc eb;have bc:=jc ec;have na:J3 wa w.heap.size gp gq gg gh:=by rw[ea];exact J3.new _ _ _ _ _ _
 have nb:U0 wb (w.heap.size+1) 0:=by rw[eb,<-sa];exact qV wa _
 have fb:Y0 wb (w.heap.size+1) 4:=by rw[eb];exact Y0.made wa _ _ 4 _ sa.symm
 have nc:wc.cell? ⟨w.heap.size+1+1,0,none⟩=some (.int .i64 0):=by rw[ec,<-sb,cell_of_row _ _ _ _ _ _ jQ];rfl
 have fc:wc.frozen? ⟨w.heap.size+1+1,0,none⟩=false:=by rw[ec];exact Y0.made wb _ _ 1 _ sb.symm 0 (by decide)
 rw[<-ea,<-eb,<-ec];obtain⟨G,hG⟩:=je (w.heap.size);obtain⟨R6,hR6⟩:=je (G+1);obtain⟨R7,hR7⟩:=je (R6+1);have hw6:w.heap.size<=R6:=by omega
 have hw7:w.heap.size<=R7:=by omega
 rw[<-hG] at na nb fb nc fc⊢;rw[<-hR6] at nb fb nc fc⊢;rw[<-hR7] at nc fc⊢;have l6:G<R6:=by omega
 have l7:R6<R7:=by omega
 have hsz:wc.heap.size=R7+1:=by omega
 have HG:=jh ((na.later bb).later bc);have HR:=jh (U0.later bc nb);have UZ:=jh (fb.later bc (U0.lt nb));have HE:=jh nc;have HEF:=jh fc;have B:=jh (jm (jm ba9 bb) bc);have U9:=jh (U9.out.later B.out);have D6:=jh (D6.out.later B.out);clear ea eb ec sa sb sc ba9 bb bc na nb fb nc fc hG hR6 hR7;refine⟨trivial,(callsIn_wide.2 (C1.out wc)).mono ?_⟩;rintro _ w1 ⟨rfl,hb⟩;have HG:=jh (HG.out.later hb);have UZ:=jh (UZ.out.later hb (U0.lt HR.out));have HR:=jn hb HR;have HEF:=jh ((hb.frozen (World.block_lt_of_cell? (a:=⟨R7,0,none⟩) _ HE.out)).trans HEF.out);have HE:=jh (jj HE.out hb);have B:=jw B hb;have U9:=jh (U9.out.later hb);have D6:=jh (D6.out.later hb);have hs1:R7<w1.heap.size:=by have:=hb.size;omega
 clear hb hsz;obtain⟨p0,p1,p2,p3⟩:=(show _/\_/\_/\_ from⟨HG.out.1 0 (by decide),HG.out.1 1 (by decide),HG.out.1 2 (by decide),HG.out.1 3 (by decide)⟩);simp only[Nat.reduceAdd] at p0 p1 p2 p3;have hG1:G<w1.heap.size:=by omega
 gi_wp2_with fail
 clear p0 p1 p2 p3 hG1;obtain⟨w2,e2⟩:=je (w1.alloc (.cells #[.int .u64 (jg jf 1 0),.int .u64 (jg jf 1 1),.int .u64 (jg jf 1 2),.int .u64 (jg jf 1 3)] 24));obtain⟨OB,hOB⟩:=je (w1.heap.size);have hb:=jc e2;have HO:=jh (show U0 w2 OB 1 by rw[e2,hOB];exact U0.new _ _ _ _ rfl);have Y6:=jh (show Y0 w2 OB 4 by rw[e2,hOB];exact Y0.new _ _ _ _);have hs2:OB<w2.heap.size:=by rw[e2,hOB];simp
 have h7O:R7<OB:=by omega
 rw[<-e2,<-hOB];have HG:=jh (HG.out.later hb);have UZ:=jh (UZ.out.later hb (U0.lt HR.out));have HR:=jn hb HR;have HEF:=jh ((hb.frozen (World.block_lt_of_cell? (a:=⟨R7,0,none⟩) _ HE.out)).trans HEF.out);have HE:=jh (jj HE.out hb);have B:=jw B hb;have U9:=jh (U9.out.later hb);have D6:=jh (D6.out.later hb);clear hb e2 hOB hs1;refine⟨trivial,(callsIn_wide.2 (CC.out w2)).mono ?_⟩;rintro _ w3 ⟨rfl,hb⟩;have HG:=jh (HG.out.later hb);have UZ:=jh (UZ.out.later hb (U0.lt HR.out));have HR:=jn hb HR;have HEF:=jh ((hb.frozen (World.block_lt_of_cell? (a:=⟨R7,0,none⟩) _ HE.out)).trans HEF.out);have HE:=jh (jj HE.out hb);have B:=jw B hb;have U9:=jh (U9.out.later hb);have D6:=jh (D6.out.later hb);have Y6:=jh (Y6.out.later hb (U0.lt HO.out));have HO:=jn hb HO;have hs3:OB<w3.heap.size:=by have:=hb.size;omega
 clear hb hs2
 gi_wp2_with fail
 refine⟨trivial,(callsIn_wide.2 (pairs_any _ _ _ _ _ _ w3)).mono ?_⟩;rintro _ w4 ⟨rfl,e4⟩;obtain⟨An,hAn⟩:=je (w3.heap.size);rw[<-hAn];have hb:Below w3.heap.size w3 w4:=by rw[e4];exact(ja).alloc (by simp) _
 have PA:=jh (show w4.heap[An]?=some (.cells #[.slice (some ⟨ba,oa,none⟩) N ca] 129 (0,0)) by rw[e4,hAn,Below.heap_alloc _ _ _ (by simp)];exact jQ);have PN:=jh (show w4.heap[An+1]?=some (.cells #[.slice (some ⟨bn,on,none⟩) N cn] 129 (0,0)) by rw[e4,hAn];have h9:=heap_alloc_new (w3.alloc (.cells #[.slice (some ⟨ba,oa,none⟩) N ca] 129)) (.cells #[.slice (some ⟨bn,on,none⟩) N cn] 129);rw[World.size_alloc] at h9;exact h9);have hs4:w4.heap.size=An+1+1:=by rw[e4,hAn];simp
 have hOA:OB<An:=by omega
 have HG:=jh (HG.out.later hb);have UZ:=jh (UZ.out.later hb (U0.lt HR.out));have HR:=jn hb HR;have HEF:=jh ((hb.frozen (World.block_lt_of_cell? (a:=⟨R7,0,none⟩) _ HE.out)).trans HEF.out);have HE:=jh (jj HE.out hb);have B:=jw B hb;have U9:=jh (U9.out.later hb);have D6:=jh (D6.out.later hb);have Y6:=jh (Y6.out.later hb (U0.lt HO.out));have HO:=jn hb HO;clear hb e4 hAn hs3
 gi_wp2_with fail
 have hba4:ba<w4.heap.size:=jv hba B.out.size;have hbn4:bn<w4.heap.size:=jv hbn B.out.size;have hwO:w.heap.size<=OB:=by omega
 have hbaO:ba≠OB:=by omega
 have hbnO:bn≠OB:=by omega
 refine' LK (by omega) (vX:=224) (caps:=#[.pointer (some ⟨An,0,none⟩),.pointer (some ⟨An+1,0,none⟩)]) (encs:=fun i=>#[.agg #[.int .u64 (jg jf (xs.getD (N-1-i) 0) 0),.int .u64 (jg jf (xs.getD (N-1-i) 0) 1),.int .u64 (jg jf (xs.getD (N-1-i) 0) 2),.int .u64 (jg jf (xs.getD (N-1-i) 0) 3)],.agg #[.int .u64 (jg jf (ns.getD (N-1-i) 0) 0),.int .u64 (jg jf (ns.getD (N-1-i) 0) 1),.int .u64 (jg jf (ns.getD (N-1-i) 0) 2),.int .u64 (jg jf (ns.getD (N-1-i) 0) 3)]]) (by go_simp) ?hent (fun g=>g<w4.heap.size/\g≠OB) (fun k hk=>hk.1) N (fun i=>rfl) (fun k W=>TB w w4 G OB R6 R7 gp gq gg gh (Zt gp xs ns (N-k)) W) ?hI ?hId ?h0 ?hit ?pM ?hdone
 case hent=>intro args W;simp[go_sem]
 case hI=>intro k A l o o9 hl ho hn h;exact h.putObj (by omega) ho hn
 case hId=>intro k W h;exact h.later U3.drew
 case h0=>
  intro o1 o2;refine TB.later (W:=w4) ⟨?_,Y6.out,HG.out,HR.out,UZ.out,HE.out,HEF.out,B.out,Nat.le_refl _⟩ (((Below.refl _ w4).alloc (Nat.le_refl _) _).alloc (by simp) _);rw[Nat.sub_self];exact HO.out
 case hit=>
  intro l J W hJd hY hb hJ;have h9:=nD.out;subst h9;exact pairs_in _ (by omega) l An (An+1) (fun g=>g<w4.heap.size/\g≠OB) ⟨by omega,by omega⟩ ⟨by omega,by omega⟩ xs ns ba oa ca bn on cn J W (by omega) HLN.out (YR hb PA.out) (YR hb PN.out) (U9.out.later hb) (D6.out.later hb) ⟨hba4,hbaO⟩ ⟨hbn4,hbnO⟩ hJd hY hJ
 case pM=>
  intro l i W KK hiN h hl hob hK;have HM:=jh h;obtain⟨x,hx⟩:=je (xs.getD (N-1-i) 0);obtain⟨y,hy⟩:=je (ns.getD (N-1-i) 0);obtain⟨o,ho⟩:=je (Zt gp xs ns (N-(i+1)));obtain⟨q,hq⟩:=je (Zt gp xs ns (N-i));have hkk:N-1-i<xs.length:=by have:=nD.out;omega
  have hxm:Jt gp x:=HXM.out x (by rw[hx,List.getD_eq_getElem?_getD,List.getElem?_eq_getElem hkk];exact List.getElem_mem hkk)
  have hym:y<jk:=HNM.out y (by have hk2:N-1-i<ns.length:=by rw[HLN.out];exact hkk
                               rw[hy,List.getD_eq_getElem?_getD,List.getElem?_eq_getElem hk2];exact List.getElem_mem hk2)
  have hop:o<gp:=by rw[ho];exact prodN_lt HP1.out _ _ _ (by have:=nD.out;omega) HLN.out
  have hst:=ZJ (gp:=gp) hkk HLN.out;rw[show N-1-i+1=N-i by omega,show N-1-i=N-(i+1) by omega,<-ho,<-hq,show N-(i+1)=N-1-i by omega,<-hx,<-hy] at hst;rw[<-ho] at HM;rw[<-hx,<-hy];have HQ:=jh hq;have HST:=jh hst;have HXM9:=jh hxm;have HYM9:=jh hym;have HOP:=jh hop;clear h hx hy ho hq hkk hxm hym hop hst
  gi_wp2_with fail
  obtain⟨v1,e1⟩:=je (W.alloc (.cells (jD x) 24));obtain⟨v2,e2⟩:=je (v1.alloc (.cells (jD y) 24));obtain⟨X1,hX1⟩:=je (W.heap.size);have s1:v1.heap.size=X1+1:=by rw[e1,hX1];simp
  have b1:=jc e1;have b2:=jc e2;have n1:U0 v1 X1 x:=by rw[e1,hX1];exact U0.new _ _ _ _ rfl
  have n2:U0 v2 (X1+1) y:=by rw[e2,<-s1];exact U0.new _ _ _ _ rfl
  rw[<-e1,<-e2,<-hX1];have hb:=jm b1 b2;have n1:=U0.later b2 n1;have hs9:=HM.out.s;have HM:=jh (HM.out.later hb);obtain⟨ob,ho1,ho2⟩:=hob;have hol:v2.heap[l]?=some ob:=(hb.block l (zA ho1)).trans ho1;refine hK _ _ ⟨hb.size,fun k o _ hk ho=>(hb.block k (zA hk)).trans hk⟩ ⟨hb.os,hb.tape,hb.output,hb.size,fun g hg=>hb.block g (by omega)⟩ (fun o9=>?_);clear hK;obtain⟨v3,e3⟩:=je (v2.putObj l o9);have HM:=jh (show TB w w4 G OB R6 R7 gp gq gg gh o v3 by rw[e3];exact HM.out.putObj (by omega) hol ho2);have PZ:=jh (show U0 v3 X1 x by rw[e3];exact fun j hj=>JM hol ho2 (n1 j hj));have OZ:=jh (show U0 v3 (X1+1) y by rw[e3];exact fun j hj=>JM hol ho2 (n2 j hj));rw[<-e3];clear e1 e2 e3 hX1 s1 b1 b2 n1 n2 hb hol ho1 ho2;refine wpIn_block ?_;refine wpIn_seq_k (fun K2 hK2=>?_);refine wpIn_region_lit ?_;refine JZ rfl (fun _ h=>by cases h) (jd (qP HM.out.g)) ?_;simp only[Act.put,pa,pb,pc];refine JZ rfl (fun _ h=>by cases h) (jd (zV PZ.out)) ?_;simp only[Act.put,pa,pb,pc];refine JZ rfl (fun _ h=>by cases h) (jd (zV OZ.out)) ?_;simp only[Act.put,pa,pb,pc]
  gi_wp2_with fail
  refine⟨trivial,CallsIn.inRound l ((callsIn_wide.2 (CE.out x y HXM9.out HYM9.out v3)).mono ?_)⟩;rintro _ v4 ⟨rfl,hb⟩;obtain⟨z,hz⟩:=je (x^y%gp);have HZP:=jh (show z<gp by rw[hz];exact Nat.mod_lt _ (by have:=HP1.out;omega));have hst:=HST.out;rw[<-hz] at hst⊢;have HST:=jh hst;have tC:=jh HM.out.s;have HM:=jh (HM.out.later hb);have HB3:=jh hb;clear hb hz hst PZ OZ;obtain⟨p0,p1,p2,p3⟩:=(show _/\_/\_/\_ from⟨HM.out.g.1 0 (by decide),HM.out.g.1 1 (by decide),HM.out.g.1 2 (by decide),HM.out.g.1 3 (by decide)⟩);simp only[Nat.reduceAdd] at p0 p1 p2 p3;obtain⟨q0,q1,q2,q3⟩:=jF HM.out.o;have hG4:G<v4.heap.size:=by have:=HM.out.s;omega
  have hO4:OB<v4.heap.size:=by have:=HM.out.s;omega
  gi_wp2_with fail
  clear p0 p1 p2 p3 q0 q1 q2 q3 hG4 hO4;obtain⟨v5,e5⟩:=je (v4.alloc (.cells (jD z) 24));have hb:=jc e5;rw[<-e5];have HM:=jh (HM.out.later hb);have HB3:=jw HB3 hb;clear hb e5;refine⟨trivial,CallsIn.inRound l ((callsIn_wide.2 (CM.out o z HOP.out HZP.out v5)).mono ?_)⟩;rintro _ v6 ⟨rfl,hb⟩;rw[<-HST.out];have HM:=jh (HM.out.later hb);have HB3:=jw HB3 hb;clear hb;obtain⟨c0,c1,c2,c3,f0,f1,f2,f3⟩:=jU HM.out.o HM.out.f
  gi_wp2_with fail
  clear c0 c1 c2 c3 f0 f1 f2 f3;have HM7:=HM.out.set hwO (by omega) (by omega) (by omega) q;obtain⟨v7,e7⟩:=je ((((v6.setCell ⟨OB,0,none⟩ (.int .u64 (jg jf q 0))).setCell ⟨OB,1,none⟩ (.int .u64 (jg jf q 1))).setCell ⟨OB,2,none⟩ (.int .u64 (jg jf q 2))).setCell ⟨OB,3,none⟩ (.int .u64 (jg jf q 3)));rw[<-e7] at HM7⊢;have hsm:∀g,g≠OB->v7.heap[g]?=v6.heap[g]?:=fun g h1=>by rw[e7,Below.heap_setCell _ _ _ _ h1,Below.heap_setCell _ _ _ _ h1,Below.heap_setCell _ _ _ _ h1,Below.heap_setCell _ _ _ _ h1]
  have hss:v7.heap.size=v6.heap.size:=by rw[e7];simp
  have hos:v7.os=v6.os/\v7.tape=v6.tape/\v7.output=v6.output:=by rw[e7];exact⟨rfl,rfl,rfl⟩
  have s6:=HB3.out.size;have s3:=tC.out;rw[HQ.out] at HM7;exact⟨⟨by omega,fun k o hk ho _=>(hsm k (by omega)).trans ((HB3.out.block k (zA ho)).trans ho)⟩,⟨hos.1.trans HB3.out.os,hos.2.1.trans HB3.out.tape,hos.2.2.trans HB3.out.output,by omega,fun g hg=>(hsm g hg.2).trans (HB3.out.block g (by omega))⟩,HM7⟩
 case hdone=>
  intro D W hD h hDf;rw[Nat.sub_zero,<-HQ9.out] at h;have HM:=jh h;have HDF:=jh hDf;clear h hDf;obtain⟨q0,q1,q2,q3⟩:=jF HM.out.o;obtain⟨c0,c1,c2,c3,f0,f1,f2,f3⟩:=jU HM.out.r HM.out.rf;have t0:=HM.out.e;have u0:=HM.out.ef
  gi_wp2_with fail
  clear q0 q1 q2 q3 c0 c1 c2 c3 f0 f1 f2 f3 t0 u0;have hR6:=jO HM.out.b hw6 (.int .u64 (jg jf Q9 0)) (.int .u64 (jg jf Q9 1)) (.int .u64 (jg jf Q9 2)) (.int .u64 (jg jf Q9 3));have hN6:=U0.set4 HM.out.r Q9
  have he6:((((W.setCell ⟨R6,0,none⟩ (.int .u64 (jg jf Q9 0))).setCell ⟨R6,1,none⟩ (.int .u64 (jg jf Q9 1))).setCell ⟨R6,2,none⟩ (.int .u64 (jg jf Q9 2))).setCell ⟨R6,3,none⟩ (.int .u64 (jg jf Q9 3))).cell? ⟨R7,0,none⟩=some (.int .i64 0):=by
   have n7:R7≠R6:=by omega
   rw[World.cell?_of_block (a:=⟨R7,0,none⟩) (Below.heap_setCell _ _ _ _ n7),World.cell?_of_block (a:=⟨R7,0,none⟩) (Below.heap_setCell _ _ _ _ n7),World.cell?_of_block (a:=⟨R7,0,none⟩) (Below.heap_setCell _ _ _ _ n7),World.cell?_of_block (a:=⟨R7,0,none⟩) (Below.heap_setCell _ _ _ _ n7)];exact HM.out.e
  have hs4:=HM.out.s;have hD6:D≠R6:=by omega
  have x9:((((W.setCell ⟨R6,0,none⟩ (.int .u64 (jg jf Q9 0))).setCell ⟨R6,1,none⟩ (.int .u64 (jg jf Q9 1))).setCell ⟨R6,2,none⟩ (.int .u64 (jg jf Q9 2))).setCell ⟨R6,3,none⟩ (.int .u64 (jg jf Q9 3))).heap[D]?=some (.deferred (some [])):=by
   rw[Below.heap_setCell _ _ _ _ hD6,Below.heap_setCell _ _ _ _ hD6,Below.heap_setCell _ _ _ _ hD6,Below.heap_setCell _ _ _ _ hD6];exact HDF.out
  obtain⟨we,lZ⟩:=je (((((W.setCell ⟨R6,0,none⟩ (.int .u64 (jg jf Q9 0))).setCell ⟨R6,1,none⟩ (.int .u64 (jg jf Q9 1))).setCell ⟨R6,2,none⟩ (.int .u64 (jg jf Q9 2))).setCell ⟨R6,3,none⟩ (.int .u64 (jg jf Q9 3))));rw[<-lZ] at hR6 hN6 he6 x9⊢;clear lZ;obtain⟨wf,kZ⟩:=je (we.setCell ⟨R7,0,none⟩ (.int .i64 0));have h7:∀g,g≠R7->wf.heap[g]?=we.heap[g]?:=fun g h1=>by rw[kZ];exact Below.heap_setCell _ _ _ _ h1
  have hB7:Below w.heap.size w wf:=⟨by rw[kZ];exact hR6.os,by rw[kZ];exact hR6.tape,by rw[kZ];exact hR6.output,by rw[kZ];simpa using hR6.size,fun g hg=>(h7 g (by omega)).trans (hR6.block g hg)⟩;have hN7:U0 wf R6 Q9:=fun j hj=>(World.cell?_of_block (a:=⟨R6,j,none⟩) (h7 R6 (by omega))).trans (hN6 j hj)
  have hE7:wf.cell? ⟨R7,0,none⟩=some (.int .i64 0):=by rw[kZ];exact World.cell?_setCell_same _ _ _ he6
  have y9:=(h7 D (by omega)).trans x9;rw[<-kZ];clear kZ;obtain⟨wg,ewg⟩:=je (wf.putObj D (.deferred none));have hsf:∀g,g≠D->wg.heap[g]?=wf.heap[g]?:=fun g h1=>by rw[ewg];exact World.putObj_heap_other (by omega)
  have HF9:U0 wg R6 Q9:=fun j hj=>(World.cell?_of_block (a:=⟨R6,j,none⟩) (hsf R6 (by omega))).trans (hN7 j hj)
  have HE9:wg.cell? ⟨R7,0,none⟩=some (.int .i64 0):=(World.cell?_of_block (a:=⟨R7,0,none⟩) (hsf R7 (by omega))).trans hE7;obtain⟨g0,g1,g2,g3⟩:=jF HF9;refine⟨by simp,.inl ⟨D,wg,rfl,by rw[ewg];exact run_takeDeferred y9,?_⟩⟩;refine⟨.tuple #[.agg #[.int .u64 (jg jf Q9 0),.int .u64 (jg jf Q9 1),.int .u64 (jg jf Q9 2),.int .u64 (jg jf Q9 3)],.int .i64 0],by simp[results,results115,go_sem,g0,g1,g2,g3,HE9],rfl,?_⟩;exact⟨by rw[ewg];exact hB7.os,by rw[ewg];exact hB7.tape,by rw[ewg];exact hB7.output,by rw[ewg];simpa using hB7.size,fun g hg=>(hsf g (by omega)).trans (hB7.block g hg)⟩
open Go.ChangeShapes Go.WideShapes Go.ChangeAt Go.RowKit
def backR(gp gq gg key c s:Nat):Nat:=Zt gp [gg,key] [s,(0+gq-c)%gq] 2
def uD(gp gq gg key c s:Nat)(h:List Nat):Bool:=[c,s].all (fun x=>decide (1<gq/\x<gq))&&decide (c=JE gq key (backR gp gq gg key c s) h)
theorem CheckS_all{gp gq gg gh key c s:Nat}{h:List Nat}(hm:Jt gp gg)(IB:gp<jk)(hgg:gg<jk)(hq1:1<gq)(hq:gq<jk)(hk:YH gp gq key)(hk1:key≠1)(hcM:c<jk)(hsM:s<jk)(hl:h.length=32)(L6:qk h)(w:World):
  Calls prog 41 #[qj gp gq gg gh,ji key,.agg (jo .u8 h).toArray,iY c s] w fun e w'=>e=.returned (.bool (uD gp gq gg key c s h))/\Below w.heap.size w w':=by
 have hkM:key<jk:=Nat.lt_trans hk.1.2.2 IB;obtain⟨b,hb⟩:=je ((0+gq-c)%gq);have hbq:b<gq:=by rw[hb];exact Nat.mod_lt _ (by omega)
 obtain⟨r,hr⟩:=je (backR gp gq gg key c s);unfold uD;rw[<-hr];obtain⟨ch,hch⟩:=je (JE gq key r h);have hchM:ch<jk:=by rw[hch];unfold JE QA;exact Nat.lt_trans (Nat.mod_lt _ (by omega)) hq
 rw[<-hch];obtain⟨D,hD⟩:=je (decide (c=ch));rw[<-hD];obtain⟨EX,hEX⟩:=je ([c,s].all (fun x=>decide (1<gq/\x<gq)));rw[<-hEX];have HEX:=jh (show EX=true->c<gq by rw[hEX];simp;omega);have CI:=jh (fun W=>by have h9:=TT (gg:=gg) (gh:=gh) hkM hq IB W;rw[decide_eq_true hk] at h9;unfold qj ji words at h9;exact h9);have CX:=jh (fun(W:World) (B cap:Nat) (hx:Q8 W B 0 [c,s])=>by have h9:=WO (gp:=gp) (gg:=gg) (gh:=gh) (cap:=cap) (xs:=[c,s]) (by intro x hx;simp only[List.mem_cons,List.not_mem_nil,or_false] at hx;rcases hx with rfl|rfl;exact hcM;exact hsM) hq W hx (by simp);rewrite[<-hEX] at h9;unfold qj at h9;exact h9);have CS:=jh (fun(hc:c<gq) W=>by have h9:=SSub_any (gp:=gp) (gg:=gg) (gh:=gh) (show 0<gq by omega) hc hq1 hq W;rewrite[<-hb] at h9;unfold qj ji words at h9;exact h9)
 have CP:=jh (fun(W:World) (B1 B2 c1 c2:Nat) (h1:Q8 W B1 0 [gg,key]) (h2:Q8 W B2 0 [s,b]) (l1:B1<W.heap.size) (l2:B2<W.heap.size)=>by
  have h9:=kX (gp:=gp) (gq:=gq) (gg:=gg) (gh:=gh) (ba:=B1) (oa:=0) (ca:=c1) (bn:=B2) (on:=0) (cn:=c2) (N:=2) (xs:=[gg,key]) (ns:=[s,b]) hm.1 IB (by intro x hx;simp only[List.mem_cons,List.not_mem_nil,or_false] at hx;rcases hx with rfl|rfl;exact hm;exact hk.1) (by intro x hx;simp only[List.mem_cons,List.not_mem_nil,or_false] at hx;rcases hx with rfl|rfl;exact hsM;exact Nat.lt_trans hbq hq) rfl rfl (by simp) W h1 h2 l1 l2;rw[show Zt gp [gg,key] [s,b] 2=r by rw[hr,hb];rfl] at h9;unfold qj ji words at h9
  exact h9)
 have CG:=jh (fun W=>by have h9:=signs_any (gp:=gp) (gq:=gq) (gg:=gg) (gh:=gh) (key:=key) hl W;unfold qj ji words at h9;exact h9);have CF:=jh (fun(W:World) (GB KB HB:Nat) hg hk hh=>by have h9:=dY (GB:=GB) (KB:=KB) (HB:=HB) (gp:=gp) (gq:=gq) (gg:=gg) (gh:=gh) (key:=key) (r:=r) (h:=h) W hg hk hh hl L6 (by omega) hq;rewrite[<-hch] at h9;unfold ji words at h9;exact h9);have HEK:=jh (fun(W:World)=>by have h9:=qX key 1 hkM (by decide) W;rw[decide_eq_false hk1] at h9;exact h9);have HES:=jh (fun(W:World)=>by have h9:=eq_sig hcM hsM hchM hsM W;rewrite[<-hD,decide_eq_true (rfl:s=s),Bool.and_true] at h9;exact h9);have HL:=jh hl;obtain⟨T,hT⟩:=je ((jo .u8 h).toArray);have HT:=jh hT;rw[<-hT] at CG CF⊢;unfold iY qj ji words;clear hcM hsM hkM hb hbq hr hch hchM hD hEX hm IB hgg hq1 hq hk hk1 hl L6 hT
 go_enter func41,ntmps41
 go_upto_region 1 with fail
 obtain⟨V8,aI⟩:=je (w.alloc (.cells (jG gp gq gg gh) 26));have s_0:V8.heap.size=w.heap.size+1:=by rw[aI];simp
 have b_0:=jc aI;have yX:J3 V8 (w.heap.size) gp gq gg gh:=by rw[aI];exact J3.new _ _ _ _ _ _
 obtain⟨v_1,yH⟩:=je (V8.alloc (.cells (jD key) 24));have s_1:v_1.heap.size=w.heap.size+1+1:=by rw[yH];simp[s_0]
 have nU:=jc yH;have WS:U0 v_1 (w.heap.size+1) key:=by rw[<-s_0,yH];exact U0.new _ _ _ _ rfl
 obtain⟨U8,UN⟩:=je (v_1.alloc (.cells T 67));have s_2:U8.heap.size=w.heap.size+1+1+1:=by rw[UN];simp[s_1]
 have lU:=jc UN;have gZ:U8.heap[w.heap.size+1+1]?=some (.cells T 67 (0,0)):=by rw[<-s_1,UN];exact jQ
 obtain⟨fC,mW⟩:=je (U8.alloc (.cells (jE c s) 69));have s_3:fC.heap.size=w.heap.size+1+1+1+1:=by rw[mW];simp[s_2]
 have kU:=jc mW;have xX:Z4 fC (w.heap.size+1+1+1) 0 c/\Z4 fC (w.heap.size+1+1+1) 4 s:=by rw[<-s_2,mW];exact VE jQ
 rw[<-aI,<-yH,<-UN,<-mW];have HG:=(((yX.later nU).later lU).later kU);have HK:=(U0.later kU (U0.later lU WS));have HH:=((kU.block _ (by omega)).trans gZ);have HC:=xX.1;have HS:=xX.2;have HB:=jh (jm (jm (jm b_0 nU) lU) kU);clear aI s_0 b_0 yX yH s_1 nU WS UN s_2 lU gZ mW s_3 kU xX;obtain⟨GB,hGB⟩:=je (w.heap.size);rw[<-hGB] at HG HK HH HC HS⊢;obtain⟨KB,hKB⟩:=je (GB+1);rw[<-hKB] at HK HH HC HS⊢;obtain⟨IC,hHB9⟩:=je (KB+1);rw[<-hHB9] at HH HC HS⊢;obtain⟨SB,bC⟩:=je (IC+1);rw[<-bC] at HC HS⊢;have HG:=jh HG;have HK:=jh HK;have HH:=jh HH;have HC:=jh HC;have HS:=jh HS;clear hGB hKB hHB9 bC;refine wp_region_lit ?_;refine jL _ ?_ (jd (qP HG.out));refine jL _ ?_ (jd (zV HK.out))
 go_wp2_with fail
 refine(CI.out _).mono ?_;rintro _ w1 ⟨rfl,hb⟩;have HC:=jh (Z4.later hb HC.out);have HS:=jh (Z4.later hb HS.out);have HG:=jh (HG.out.later hb);have HK:=jn hb HK;have HH:=jb hb HH;have HB:=jw HB hb;clear hb;dsimp only
 go_step
 iterate 2
  refine jL (.bool false) ?_
 refine jt (by kernel_rfl) (jd (zV HK.out)) ?_;simp only[Act.put,pa,pb,pc];refine jt (v:=.agg #[.int .u64 (jg jf 1 0),.int .u64 (jg jf 1 1),.int .u64 (jg jf 1 2),.int .u64 (jg jf 1 3)]) (by kernel_rfl) (by kernel_rfl) ?_;simp only[Act.put,pa,pb,pc];refine jt (v:=.bool false) (by kernel_rfl) (qB Qk rfl (by kernel_rfl) (by kernel_rfl) (HEK.out _)) ?_;simp only[Act.put,pa,pb,pc]
 iterate 2
  refine jL (.bool false) ?_
 refine jt (by kernel_rfl) (jd (qP HG.out)) ?_;simp only[Act.put,pa,pb,pc];refine jt (v:=.pointer (some ⟨SB,0,none⟩)) (by kernel_rfl) (by kernel_rfl) ?_;simp only[Act.put,pa,pb,pc];refine jt (by kernel_rfl) (jd (jZ HC.out)) ?_;simp only[Act.put,pa,pb,pc];refine jt (v:=.pointer (some ⟨SB,4,none⟩)) (by kernel_rfl) (by kernel_rfl) ?_;simp only[Act.put,pa,pb,pc];refine jt (by kernel_rfl) (jd (jZ HS.out)) ?_;simp only[Act.put,pa,pb,pc];refine AQ (v:=.slice (some ⟨w1.heap.size,0,none⟩) 2 2) (w':=w1.alloc (.cells #[.int .u64 (jg jf c 0),.int .u64 (jg jf c 1),.int .u64 (jg jf c 2),.int .u64 (jg jf c 3),.int .u64 (jg jf s 0),.int .u64 (jg jf s 1),.int .u64 (jg jf s 2),.int .u64 (jg jf s 3)] 24)) (by kernel_rfl) (by kernel_rfl) ?_;simp only[Act.put,pa,pb,pc];obtain⟨w2,XB,e9,h9,hb⟩:=qJ w1 (.cells (jE c s) 24);have HX:=jh (show Q8 w2 XB 0 [c,s] by rw[e9,h9];exact iV jQ);have yN:=jh (show XB<w2.heap.size by rw[e9,h9];simp);have WXB:=jh (show w1.heap.size=XB from h9.symm);rw[<-e9,<-h9];clear e9 h9;have HC:=jh (Z4.later hb HC.out);have HS:=jh (Z4.later hb HS.out);have HG:=jh (HG.out.later hb);have HK:=jn hb HK;have HH:=jb hb HH;have HB:=jw HB hb;clear hb
 go_wp2_with fail
 refine(CX.out _ XB _ HX.out).mono ?_;rintro _ w3 ⟨rfl,hb⟩;have HC:=jh (Z4.later hb HC.out);have HS:=jh (Z4.later hb HS.out);have HG:=jh (HG.out.later hb);have HK:=jn hb HK;have HH:=jb hb HH;have HB:=jw HB hb;have yN:=jl yN hb.size;clear hb;clear HX
 cases EX
 ·go_wp2_with fail
  go_ret
  exact⟨rfl,HB.out⟩
 have wX:=HEX.out rfl
 go_upto_region 3 with fail
 refine wp_region_lit ?_;refine jL _ ?_ (jd (qP HG.out));refine jL (.agg #[.int .u64 (jg jf 0 0),.int .u64 (jg jf 0 1),.int .u64 (jg jf 0 2),.int .u64 (jg jf 0 3)]) ?_;refine jL (jP SB 0) ?_;refine jL _ ?_ (jd (jZ HC.out))
 go_wp2_with fail
 refine(CS.out wX _).mono ?_;clear wX;rintro _ w4 ⟨rfl,hb⟩;have HC:=jh (Z4.later hb HC.out);have HS:=jh (Z4.later hb HS.out);have HG:=jh (HG.out.later hb);have HK:=jn hb HK;have HH:=jb hb HH;have HB:=jw HB hb;have yN:=jl yN hb.size;clear hb
 go_upto_region 4 with fail
 obtain⟨w5,BB,e9,h9,hb⟩:=qJ w4 (.cells (jD b) 24);have HBK:=jh (show U0 w5 BB b by rw[e9,h9];exact U0.new _ _ _ _ rfl);have LBB:=jh (show BB<w5.heap.size by rw[e9,h9];simp);have WBB:=jh (show w4.heap.size=BB from h9.symm);rw[<-e9,<-h9];clear e9 h9;have HC:=jh (Z4.later hb HC.out);have HS:=jh (Z4.later hb HS.out);have HG:=jh (HG.out.later hb);have HK:=jn hb HK;have HH:=jb hb HH;have HB:=jw HB hb;have yN:=jl yN hb.size;clear hb;refine wp_region_lit ?_;refine jL _ ?_ (jd (qP HG.out));refine jL (jP GB 8) ?_;refine jL _ ?_ (jd (jZ HG.out.2.2.1));refine jL _ ?_ (jd (zV HK.out));refine qq (v:=.slice (some ⟨w5.heap.size,0,none⟩) 2 2) (w':=w5.alloc (.cells #[.int .u64 (jg jf gg 0),.int .u64 (jg jf gg 1),.int .u64 (jg jf gg 2),.int .u64 (jg jf gg 3),.int .u64 (jg jf key 0),.int .u64 (jg jf key 1),.int .u64 (jg jf key 2),.int .u64 (jg jf key 3)] 24)) rfl (by kernel_rfl) ?_;simp only[Act.put,pa,pb,pc];obtain⟨w6,YB,e9,h9,hb⟩:=qJ w5 (.cells (jE gg key) 24);have HY:=jh (show Q8 w6 YB 0 [gg,key] by rw[e9,h9];exact iV jQ);have LYB:=jh (show YB<w6.heap.size by rw[e9,h9];simp);have WYB:=jh (show w5.heap.size=YB from h9.symm);rw[<-e9,<-h9];clear e9 h9;have HC:=jh (Z4.later hb HC.out);have HS:=jh (Z4.later hb HS.out);have HG:=jh (HG.out.later hb);have HK:=jn hb HK;have HH:=jb hb HH;have HB:=jw HB hb;have HBK:=jn hb HBK;have yN:=jl yN hb.size;have LBB:=jl LBB hb.size;clear hb;have HY:=jh (show Q8 w6 YB 0 [gg,key] from HY.out);refine jL (jP SB 4) ?_;refine jL _ ?_ (jd (jZ HS.out));refine jL _ ?_ (jd (zV HBK.out));refine qq (v:=.slice (some ⟨w6.heap.size,0,none⟩) 2 2) (w':=w6.alloc (.cells #[.int .u64 (jg jf s 0),.int .u64 (jg jf s 1),.int .u64 (jg jf s 2),.int .u64 (jg jf s 3),.int .u64 (jg jf b 0),.int .u64 (jg jf b 1),.int .u64 (jg jf b 2),.int .u64 (jg jf b 3)] 24)) rfl (by kernel_rfl) ?_;simp only[Act.put,pa,pb,pc];obtain⟨w7,ZB,e9,h9,hb⟩:=qJ w6 (.cells (jE s b) 24);have HZ:=jh (show Q8 w7 ZB 0 [s,b] by rw[e9,h9];exact iV jQ);have LZB:=jh (show ZB<w7.heap.size by rw[e9,h9];simp);have WZB:=jh (show w6.heap.size=ZB from h9.symm);rw[<-e9,<-h9];clear e9 h9;have HC:=jh (Z4.later hb HC.out);have HS:=jh (Z4.later hb HS.out);have HG:=jh (HG.out.later hb);have HK:=jn hb HK;have HH:=jb hb HH;have HB:=jw HB hb;have HBK:=jn hb HBK;have HY:=jh (HY.out.later hb);have yN:=jl yN hb.size;have LBB:=jl LBB hb.size;have LYB:=jl LYB hb.size;clear hb
 go_wp2_with fail
 refine(CP.out _ YB ZB _ _ HY.out HZ.out LYB.out LZB.out).mono ?_;rintro _ w8 ⟨rfl,hb⟩;have HC:=jh (Z4.later hb HC.out);have HS:=jh (Z4.later hb HS.out);have HG:=jh (HG.out.later hb);have HK:=jn hb HK;have HH:=jb hb HH;have HB:=jw HB hb;clear hb;clear HY HZ HBK
 go_upto_region 5 with fail
 obtain⟨w9,RB,e9,h9,hb⟩:=qJ w8 (.cells (jD r) 24);have HR:=jh (show U0 w9 RB r by rw[e9,h9];exact U0.new _ _ _ _ rfl);have LRB:=jh (show RB<w9.heap.size by rw[e9,h9];simp);have WRB:=jh (show w8.heap.size=RB from h9.symm);rw[<-e9,<-h9];clear e9 h9;have HC:=jh (Z4.later hb HC.out);have HS:=jh (Z4.later hb HS.out);have HG:=jh (HG.out.later hb);have HK:=jn hb HK;have HH:=jb hb HH;have HB:=jw HB hb;clear hb;refine jJ (.take 0 (.take 1 (.take 2 (.take 3 (.take 4 (.take 5 (.take 6 (.take 8 (.take 10 (.take 11 (.step 7 (.step 9 (.take 12 (.take 13 (.take 14 (.take 15 .done)))))))))))))))) (fun w8=>w8.heap[IC]?=some (.cells T 67 (0,0))/\J3 w8 GB gp gq gg gh/\U0 w8 KB key/\U0 w8 RB r/\Z4 w8 SB 0 c/\Z4 w8 SB 4 s) (by kernel_rfl) (by kernel_rfl) (fun _ _ _ _ _ h=>h) (⟨HH.out,HG.out,HK.out,HR.out,HC.out,HS.out⟩) (fun hHeld=>?_);obtain⟨x1,e1⟩:=je (w9.drew);rw[<-e1];have hb:Below w9.heap.size w9 x1:=by rw[e1];exact U3.drew
 have HC:=jh (Z4.later hb HC.out);have HS:=jh (Z4.later hb HS.out);have HG:=jh (HG.out.later hb);have HK:=jn hb HK;have HH:=jb hb HH;have HB:=jw HB hb;have HR:=jn hb HR;have LRB:=jl LRB hb.size;clear hb e1
 iterate 3
  refine jz ?_
 refine WT.take rfl (Or.inl ⟨by rfl,fun w8 hSw=>jd (loadSig hSw.2.2.2.2.1 hSw.2.2.2.2.2)⟩) ?_
 try simp only[Act.put,pa,pb,pc]
 refine WT.take rfl (Or.inl ⟨by rfl,fun w8 hSw=>jd (qP hSw.2.1)⟩) ?_
 try simp only[Act.put,pa,pb,pc]
 refine WT.take rfl (Or.inl ⟨by rfl,fun w8 hSw=>jd (zV hSw.2.2.1)⟩) ?_
 try simp only[Act.put,pa,pb,pc]
 refine jH (.agg T) rfl (fun w8 hSw=>by have h9:=loadH (h:=h) (by rw[<-HT.out];exact hSw.1) HL.out;rw[<-HT.out] at h9;exact jd h9) ?_;refine WT.take rfl (Or.inl ⟨by rfl,fun w8 hSw=>jd (zV hSw.2.2.2.1)⟩) ?_
 try simp only[Act.put,pa,pb,pc]
 refine jz ?_;refine WT.take rfl (Or.inl ⟨by rfl,fun w8 hSw=>jd (jZ hSw.2.2.2.2.2)⟩) ?_
 try simp only[Act.put,pa,pb,pc]
 refine WT.step rfl (fun K hK=>?_)
 go_simp
 refine(CG.out _).mono ?_;rintro _ x2 ⟨GB2,KB2,HB2,rfl,hg2,hk2,hh2,hb⟩;have HC:=jh (Z4.later hb HC.out);have HS:=jh (Z4.later hb HS.out);have HG:=jh (HG.out.later hb);have HK:=jn hb HK;have HH:=jb hb HH;have HB:=jw HB hb;have HR:=jn hb HR;have LRB:=jl LRB hb.size;clear hb;have HG2:=jh hg2;have rU:=jh hk2;have HH2:=jh hh2;clear hg2 hk2 hh2;refine qD hK (⟨HH.out,HG.out,HK.out,HR.out,HC.out,HS.out⟩) (fun hHeld=>?_);clear hK K;refine WT.step rfl (fun K hK=>?_)
 go_simp
 refine(CF.out _ _ _ _ HG2.out rU.out HH2.out).mono ?_;rintro _ x3 ⟨rfl,hb⟩;have HC:=jh (Z4.later hb HC.out);have HS:=jh (Z4.later hb HS.out);have HG:=jh (HG.out.later hb);have HK:=jn hb HK;have HH:=jb hb HH;have HB:=jw HB hb;have HR:=jn hb HR;have HG2:=jh (HG2.out.later hb);have rU:=jn hb rU;have HH2:=jb hb HH2;have LRB:=jl LRB hb.size;clear hb;refine qD hK (⟨HH.out,HG.out,HK.out,HR.out,HC.out,HS.out⟩) (fun hHeld=>?_);clear hK K;refine jH (.agg (jE ch s)) rfl (fun w8 hSw=>by kernel_rfl) ?_;refine jH (.bool D) rfl (fun w8 hSw=>qB eqg_sig rfl (by kernel_rfl) (by kernel_rfl) (HES.out _)) ?_;refine jz ?_;refine jz ?_;refine WT.done ?_;clear hHeld
 go_wp2_with fail
 go_ret
 exact⟨rfl,HB.out⟩
theorem ref_back{gp gq gg key c s:Nat}(hk:YH gp gq key)(hc:c<gq):(gg^s%gp)*(key^(if c=0 then gq else gq-c)%gp)%gp=backR gp gq gg key c s:=by
 have hp:1<gp:=hk.1.1
 have e:key^((0+gq-c)%gq)%gp=key^(if c=0 then gq else gq-c)%gp:=by
  by_cases h0:c=0
  ·rw[if_pos h0,h0,Nat.zero_add,Nat.sub_zero,Nat.mod_self,Nat.pow_zero,Nat.mod_eq_of_lt hp,hk.2]
  ·rw[if_neg h0,Nat.zero_add,Nat.mod_eq_of_lt (show gq-c<gq by omega)]
 unfold backR;rw[show(2:Nat)=0+1+1 from rfl,ZJ (by simp) (by simp),ZJ (by simp) (by simp)];have e0:Zt gp [gg,key] [s,(0+gq-c)%gq] 0=1:=rfl;rw[e0,Nat.one_mul];simp only[List.getD_cons_zero,List.getD_cons_succ,Nat.zero_add];rw[Nat.mod_mod];simp only[Nat.zero_add] at e;rw[e]
end Go.Proofs.YtpkalgofejjggaaGreatDoor
