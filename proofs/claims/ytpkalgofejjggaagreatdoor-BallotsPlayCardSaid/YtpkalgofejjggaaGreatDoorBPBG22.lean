/- Layer 3 (divides) -/
import Derived.Test.YtpkalgofejjggaaGreatDoorBPBG08
import Derived.Test.YtpkalgofejjggaaGreatDoorBPBG03
set_option linter.unusedVariables false
set_option maxHeartbeats 4000000
set_option maxRecDepth 20000
namespace Go.Proofs.YtpkalgofejjggaaGreatDoor
open Go.ChangeShapes Go.WideShapes Go.ChangeAt Go.RowKit Go.Proofs.Tryz
structure N4(w:World)(b x:Nat):Prop where
 c0:w.cell? ⟨b,0,none⟩=some (.int .u64 (jg jf x 0))
 c1:w.cell? ⟨b,1,none⟩=some (.int .u64 (jg jf x 1))
 c2:w.cell? ⟨b,2,none⟩=some (.int .u64 (jg jf x 2))
 c3:w.cell? ⟨b,3,none⟩=some (.int .u64 (jg jf x 3))
theorem gJ{w:World}{b:Nat}{cs:Array Value}{t:TypeId}(h:w.heap[b]?=some (.cells cs t (0,0))):∀i,w.frozen? ⟨b,i,none⟩=false:=fun i=>by
 unfold World.frozen?;rw[h]
 simp
theorem N4.later{w w':World}{b x:Nat}(h:N4 w b x)(hb:Below w.heap.size w w'):N4 w' b x:=⟨jj h.c0 hb,jj h.c1 hb,jj h.c2 hb,jj h.c3 hb⟩
theorem N4.alloc{w:World}{b x:Nat}(h:N4 w b x)(o:Obj):N4 (w.alloc o) b x:=h.later (ja)
theorem N4.new(w:World)(x:Nat)(t:TypeId):N4 (w.alloc (.cells #[.int .u64 (jg jf x 0),.int .u64 (jg jf x 1),.int .u64 (jg jf x 2),.int .u64 (jg jf x 3)] t)) w.heap.size x:=⟨by simp,by simp,by simp,by simp⟩
theorem lC{a:Nat}:qm a<=64↔a<jf:=by
 have h:=Jy a
 constructor
 ·intro hb;rw[wE];exact jv h.1 (Nat.pow_le_pow_right (by omega) hb)
 ·exact sN
theorem short_any{a:Nat}(ha:a<jk)(w:World):Calls prog 254 #[ji a] w fun e w'=>e=.returned (.bool (decide (a<jf)))/\Below w.heap.size w w':=by
 obtain⟨n,hn⟩:=je (qm a)
 have e:decide (a<jf)=decide ((n:Int)<=64):=by
  rw[hn];exact decide_eq_decide.2 (by rw[<-lC];omega)
 rw[e];have H:=jh (fun w=>by have h:=QY ha w;rw[<-hn] at h;exact h);have hw:=jh (rC.new w (jg jf a));clear hn e ha;have k:=hw.out 24;have k0:=k 0 (by omega);have k1:=k 1 (by omega);have k2:=k 2 (by omega);have k3:=k 3 (by omega);unfold ji words at*;clear k hw
 go_enter func254,ntmps254
 go_wp2_with (go_at_call 164;refine(H.out _).mono ?_;rintro _ w2 ⟨rfl,hb⟩)
 go_ret
 exact⟨rfl,(ja).trans (hb.mono (by simp))⟩
def Zw(r b m:Nat):Nat:=if m<=2*r+b then 2*r+b-m else 2*r+b
def eH(r b m:Nat):Nat:=if m<=2*r+b then 1 else 0
theorem nV{r b m:Nat}(hr:r<m)(hb:b<=1):Zw r b m=(2*r+b)%m:=by
 unfold Zw
 split
 ·rw[Nat.mod_eq_sub_mod ‹_›,Nat.mod_eq_of_lt (by omega)]
 ·exact(Nat.mod_eq_of_lt (by omega)).symm
theorem mV{r b m:Nat}(hr:r<m)(hb:b<=1):Zw r b m<m:=by
 rw[nV hr hb];exact Nat.mod_lt _ (by omega)
theorem even_or{x b:Nat}(hx:x%2=0)(iC:x<jk)(hb:b<=1):bits .or .u64 ((jg jf x 0:Nat):Int) ((b:Nat):Int)=((jg jf (x+b) 0:Nat):Int)/\(∀j,1<=j->jg jf x j=jg jf (x+b) j)/\x+b<jk:=by
 have e0:∀y,jg jf y 0=y%jf:=fun y=>by unfold jg;rw[Nat.pow_zero,Nat.div_one]
 refine⟨?_,fun j hj=>?_,?_⟩
 ·rw[e0,e0];have hlt:x%jf<jf:=Nat.mod_lt _ zJ;have hev:x%jf%2=0:=by unfold jf;omega
  unfold jf at hlt hev⊢;rw[u64_or_nat _ _ hlt (by omega),nat_join 1 _ _ (by omega) (by omega)];omega
 ·unfold jg;obtain⟨i,rfl⟩:∃i,j=i+1:=⟨j-1,by omega⟩;rw[Nat.pow_succ,Nat.mul_comm,<-Nat.div_div_eq_div_mul,<-Nat.div_div_eq_div_mul]
  congr 2
  unfold jf;omega
 ·unfold jk at iC⊢;omega
theorem next_yes{r b m:Nat}(hr:r<m)(hb:b<=1)(hm:m<jk)(hc:m<=2*r+b)(w:World):Calls prog 257 #[ji r,.int .u64 b,ji m] w fun e w'=>e=.returned (.tuple #[ji (Zw r b m),.int .u64 (eH r b m)])/\Below w.heap.size w w':=by
 have L8:r<jk:=Nat.lt_trans hr hm;obtain⟨x,hx⟩:=je (zG r r);have iC:x<jk:=by rw[hx];exact Zl r r
 have hev:x%2=0:=by rw[hx];unfold zG jk;omega
 obtain⟨z,hz⟩:=je (x+b);have hor:=even_or hev iC hb;rw[<-hz] at hor;have yO:=hor.2.2;obtain⟨cy,hcy⟩:=je (zt r r);obtain⟨y,hy⟩:=je (Jk z m);obtain⟨bo,hbo⟩:=je (zq z m);have hsum:2*r+b=cy*jk+z:=by rw[hz,hx,hcy];unfold zG zt;have:=Nat.div_add_mod (r+r) jk;rw[Nat.mul_comm] at this;omega
 have hcy9:cy<=1:=by unfold jk at hsum L8;omega
 have e1:Zw r b m=y:=by unfold Zw;rw[if_pos hc,hy];unfold Jk;unfold jk at*;omega
 have e2:eH r b m=1:=by unfold eH;rw[if_pos hc]
 have hflag:cy=1∨(cy=0/\bo=0):=by have:cy=0∨cy=1:=(by omega);rcases this with h|h;exact .inr ⟨h,by rw[hbo];unfold zq;rw[if_neg (by rw[h] at hsum;omega)]⟩;exact .inl h
 rw[e1,e2];have A:=jh (fun w=>by have h:=add_any L8 L8 w;rw[<-hx,<-hcy] at h;exact h);have S:=jh (fun w=>by have h:=Ze yO hm w;rw[<-hy,<-hbo] at h;exact h);have q0:=hor.1;have q1:=hor.2.1 1 (by omega);have q2:=hor.2.1 2 (by omega);have q3:=hor.2.1 3 (by omega);have L6:(b:Int)<=1:=by omega
 clear hx hev hz hor hcy hy hbo hsum hr hm hc e1 e2 L8 iC yO hcy9;unfold ji words at*
 rcases hflag with rfl|⟨rfl,rfl⟩
 all_goals
  go_enter func257,ntmps257
  go_wp2_with fail
  obtain⟨w1,e1⟩:=je (((w.alloc (.cells (jD r) 24)).alloc (.cells (jD m) 24)).alloc (.cells jA 24));have hs1:w1.heap.size=w.heap.size+1+1+1:=by rw[e1];simp
  have hb1:Below w.heap.size w w1:=by rw[e1];exact((ja).alloc (by simp) _).alloc (by simp;omega) _
  have hm1:=jh (show N4 w1 (w.heap.size+1) m by rw[e1];have h:=(N4.new (w.alloc (.cells #[.int .u64 (jg jf r 0),.int .u64 (jg jf r 1),.int .u64 (jg jf r 2),.int .u64 (jg jf r 3)] 24)) m 24).alloc (.cells #[.int .u64 0,.int .u64 0,.int .u64 0,.int .u64 0] 24);simpa using h);have ho1:=jh (show w1.heap[w.heap.size+1+1]?=some (.cells #[.int .u64 0,.int .u64 0,.int .u64 0,.int .u64 0] 24 (0,0)) by rw[e1];have h:=heap_alloc_new ((w.alloc (.cells #[.int .u64 (jg jf r 0),.int .u64 (jg jf r 1),.int .u64 (jg jf r 2),.int .u64 (jg jf r 3)] 24)).alloc (.cells #[.int .u64 (jg jf m 0),.int .u64 (jg jf m 1),.int .u64 (jg jf m 2),.int .u64 (jg jf m 3)] 24)) (.cells #[.int .u64 0,.int .u64 0,.int .u64 0,.int .u64 0] 24);simpa using h);rw[<-e1];have HB1:=jh hb1;obtain⟨M0,hM0⟩:=je (w.heap.size+1);obtain⟨O0,hO0⟩:=je (M0+1);rw[<-hM0] at hm1 ho1⊢;rw[<-hO0] at ho1⊢;have hMO:M0<O0:=by omega
  have hO1:O0<w1.heap.size:=by omega
  have hwM:w.heap.size<M0:=by omega
  clear e1 hb1 hs1 hM0 hO0;refine(A.out w1).mono ?_;rintro _ w2 ⟨rfl,hb2⟩;have HM:=jh (hm1.out.later hb2);have HO:=jh ((hb2.block O0 hO1).trans ho1.out);have B:=jh (HB1.out.trans (hb2.mono HB1.out.size));have hO2:O0<w2.heap.size:=jv hO1 hb2.size;obtain⟨X0,hX0⟩:=je (w2.heap.size);have HX0:=jh hX0;have hMX:M0≠X0:=by omega
  have hOX:O0≠X0:=by omega
  have hXO:X0≠O0:=by omega
  have hXM:X0≠M0:=by omega
  have hOM:O0≠M0:=by omega
  have hMOn:M0≠O0:=by omega
  obtain⟨m0,m1,m2,m3⟩:=HM.out;clear hb2 hm1 ho1;have hMlt:M0<w2.heap.size:=by omega
  go_wp2_with fail
  obtain⟨w3,e3⟩:=je (w2.alloc (.cells (jD z) 24));have hb3:=jc e3;have hx3:N4 w3 w2.heap.size z:=by rw[e3];exact N4.new w2 z 24
  have hs3:w3.heap.size=w2.heap.size+1:=by rw[e3];simp
  rw[<-e3];rw[<-hX0] at hx3 hs3⊢;refine(S.out w3).mono ?_;rintro _ w4 ⟨rfl,hb4⟩;have hx4:=hx3.later hb4;have AO:w4.heap[O0]?=_:=(hb4.block O0 (by omega)).trans ((hb3.block O0 hO2).trans HO.out);have B:=jh ((B.out.trans (hb3.mono (by have:=B.out.size;omega))).trans (hb4.mono (by have:=B.out.size;omega)));have hO4:O0<w4.heap.size:=by have:=hb4.size;omega
  have hX4:X0<w4.heap.size:=by have:=hb4.size;omega
  have hO4n:O0≠w4.heap.size:=by omega
  have hX4n:X0≠w4.heap.size:=by omega
  obtain⟨x0,x1,x2,x3⟩:=hx4;have o0:=cell_of_row w4 O0 0 _ _ (0,0) AO;have o1:=cell_of_row w4 O0 1 _ _ (0,0) AO;have o2:=cell_of_row w4 O0 2 _ _ (0,0) AO;have o3:=cell_of_row w4 O0 3 _ _ (0,0) AO;have f0:=gJ AO;have vJ:=jh AO;have hwO:w.heap.size<=O0:=by omega
  clear e3 hb3 hx3 hs3 hb4 AO m0 m1 m2 m3 hMlt hMX hOX hXO hXM hOM hMOn hX0 HX0 hO2
  go_wp2_with fail
  refine bodyPost_ret (v:=.tuple #[.agg #[.int .u64 (jg jf y 0),.int .u64 (jg jf y 1),.int .u64 (jg jf y 2),.int .u64 (jg jf y 3)],.int .u64 1]) ?_ rfl ⟨rfl,?_⟩
  ·simp[results,results257,go_sem,o0,o1,o2,o3,hO4]
  ·exact((((B.out.setCell (p:=⟨O0,0,none⟩) hwO _).setCell (p:=⟨O0,1,none⟩) hwO _).setCell (p:=⟨O0,2,none⟩) hwO _).setCell (p:=⟨O0,3,none⟩) hwO _).alloc (by simp;exact B.out.size) _
theorem next_no{r b m:Nat}(hr:r<m)(hb:b<=1)(hm:m<jk)(hc:¬(m<=2*r+b))(w:World):Calls prog 257 #[ji r,.int .u64 b,ji m] w fun e w'=>e=.returned (.tuple #[ji (Zw r b m),.int .u64 (eH r b m)])/\Below w.heap.size w w':=by
 have L8:r<jk:=Nat.lt_trans hr hm;obtain⟨x,hx⟩:=je (zG r r);have iC:x<jk:=by rw[hx];exact Zl r r
 have hev:x%2=0:=by rw[hx];unfold zG jk;omega
 obtain⟨z,hz⟩:=je (x+b);have hor:=even_or hev iC hb;rw[<-hz] at hor;have yO:=hor.2.2;obtain⟨cy,hcy⟩:=je (zt r r);obtain⟨y,hy⟩:=je (Jk z m);obtain⟨bo,hbo⟩:=je (zq z m);have hsum:2*r+b=cy*jk+z:=by rw[hz,hx,hcy];unfold zG zt;have:=Nat.div_add_mod (r+r) jk;rw[Nat.mul_comm] at this;omega
 have hcy9:cy<=1:=by unfold jk at hsum L8;omega
 have hcy0:cy=0:=by have:cy=0∨cy=1:=(by omega);rcases this with h|h;exact h;exact absurd hc (by rw[h] at hsum;omega)
 have e1:Zw r b m=z:=by unfold Zw;rw[if_neg hc,hsum,hcy0];omega
 have e2:eH r b m=0:=by unfold eH;rw[if_neg hc]
 have hbo1:bo=1:=by rw[hbo];unfold zq;rw[if_pos (by rw[hcy0] at hsum;omega)]
 rw[e1,e2];have A:=jh (fun w=>by have h:=add_any L8 L8 w;rw[<-hx,<-hcy] at h;exact h);have S:=jh (fun w=>by have h:=Ze yO hm w;rw[<-hy,<-hbo] at h;exact h);have q0:=hor.1;have q1:=hor.2.1 1 (by omega);have q2:=hor.2.1 2 (by omega);have q3:=hor.2.1 3 (by omega);have L6:(b:Int)<=1:=by omega
 clear hx hev hz hor hcy hy hbo hsum hr hm hc e1 e2 L8 iC yO hcy9;subst hcy0 hbo1;unfold ji words at*
 go_enter func257,ntmps257
 go_wp2_with fail
 obtain⟨w1,e1⟩:=je (((w.alloc (.cells (jD r) 24)).alloc (.cells (jD m) 24)).alloc (.cells jA 24));have hs1:w1.heap.size=w.heap.size+1+1+1:=by rw[e1];simp
 have hb1:Below w.heap.size w w1:=by rw[e1];exact((ja).alloc (by simp) _).alloc (by simp;omega) _
 have hm1:=jh (show N4 w1 (w.heap.size+1) m by rw[e1];have h:=(N4.new (w.alloc (.cells #[.int .u64 (jg jf r 0),.int .u64 (jg jf r 1),.int .u64 (jg jf r 2),.int .u64 (jg jf r 3)] 24)) m 24).alloc (.cells #[.int .u64 0,.int .u64 0,.int .u64 0,.int .u64 0] 24);simpa using h);have ho1:=jh (show w1.heap[w.heap.size+1+1]?=some (.cells #[.int .u64 0,.int .u64 0,.int .u64 0,.int .u64 0] 24 (0,0)) by rw[e1];have h:=heap_alloc_new ((w.alloc (.cells #[.int .u64 (jg jf r 0),.int .u64 (jg jf r 1),.int .u64 (jg jf r 2),.int .u64 (jg jf r 3)] 24)).alloc (.cells #[.int .u64 (jg jf m 0),.int .u64 (jg jf m 1),.int .u64 (jg jf m 2),.int .u64 (jg jf m 3)] 24)) (.cells #[.int .u64 0,.int .u64 0,.int .u64 0,.int .u64 0] 24);simpa using h);rw[<-e1];have HB1:=jh hb1;obtain⟨M0,hM0⟩:=je (w.heap.size+1);obtain⟨O0,hO0⟩:=je (M0+1);rw[<-hM0] at hm1 ho1⊢;rw[<-hO0] at ho1⊢;have hMO:M0<O0:=by omega
 have hO1:O0<w1.heap.size:=by omega
 have hwM:w.heap.size<M0:=by omega
 clear e1 hb1 hs1 hM0 hO0;refine(A.out w1).mono ?_;rintro _ w2 ⟨rfl,hb2⟩;have HM:=jh (hm1.out.later hb2);have HO:=jh ((hb2.block O0 hO1).trans ho1.out);have B:=jh (HB1.out.trans (hb2.mono HB1.out.size));have hO2:O0<w2.heap.size:=jv hO1 hb2.size;obtain⟨X0,hX0⟩:=je (w2.heap.size);have HX0:=jh hX0;have hMX:M0≠X0:=by omega
 have hOX:O0≠X0:=by omega
 have hXO:X0≠O0:=by omega
 have hXM:X0≠M0:=by omega
 have hOM:O0≠M0:=by omega
 have hMOn:M0≠O0:=by omega
 obtain⟨m0,m1,m2,m3⟩:=HM.out;clear hb2 hm1 ho1;have hMlt:M0<w2.heap.size:=by omega
 go_wp2_with fail
 obtain⟨w3,e3⟩:=je (w2.alloc (.cells (jD z) 24));have hb3:=jc e3;have hx3:N4 w3 w2.heap.size z:=by rw[e3];exact N4.new w2 z 24
 have hs3:w3.heap.size=w2.heap.size+1:=by rw[e3];simp
 rw[<-e3];rw[<-hX0] at hx3 hs3⊢;refine(S.out w3).mono ?_;rintro _ w4 ⟨rfl,hb4⟩;have hx4:=hx3.later hb4;have AO:w4.heap[O0]?=_:=(hb4.block O0 (by omega)).trans ((hb3.block O0 hO2).trans HO.out);have B:=jh ((B.out.trans (hb3.mono (by have:=B.out.size;omega))).trans (hb4.mono (by have:=B.out.size;omega)));have hO4:O0<w4.heap.size:=by have:=hb4.size;omega
 have hX4:X0<w4.heap.size:=by have:=hb4.size;omega
 have hO4n:O0≠w4.heap.size:=by omega
 have hX4n:X0≠w4.heap.size:=by omega
 obtain⟨x0,x1,x2,x3⟩:=hx4;have o0:=cell_of_row w4 O0 0 _ _ (0,0) AO;have o1:=cell_of_row w4 O0 1 _ _ (0,0) AO;have o2:=cell_of_row w4 O0 2 _ _ (0,0) AO;have o3:=cell_of_row w4 O0 3 _ _ (0,0) AO;have f0:=gJ AO;have vJ:=jh AO;have hwO:w.heap.size<=O0:=by omega
 clear e3 hb3 hx3 hs3 hb4 AO m0 m1 m2 m3 hMlt hMX hOX hXO hXM hOM hMOn hX0 HX0 hO2
 go_wp2_with fail
 refine bodyPost_ret (v:=.tuple #[.agg #[.int .u64 (jg jf z 0),.int .u64 (jg jf z 1),.int .u64 (jg jf z 2),.int .u64 (jg jf z 3)],.int .u64 0]) ?_ rfl ⟨rfl,?_⟩
 ·simp[results,results257,go_sem,o0,o1,o2,o3,hO4]
 ·exact((((B.out.setCell (p:=⟨O0,0,none⟩) hwO _).setCell (p:=⟨O0,1,none⟩) hwO _).setCell (p:=⟨O0,2,none⟩) hwO _).setCell (p:=⟨O0,3,none⟩) hwO _).alloc (by simp;exact B.out.size) _
theorem next_any{r b m:Nat}(hr:r<m)(hb:b<=1)(hm:m<jk)(w:World):Calls prog 257 #[ji r,.int .u64 b,ji m] w fun e w'=>e=.returned (.tuple #[ji (Zw r b m),.int .u64 (eH r b m)])/\Below w.heap.size w w':=by
 by_cases hc:m<=2*r+b
 ·exact next_yes hr hb hm hc w
 ·exact next_no hr hb hm hc w
end Go.Proofs.YtpkalgofejjggaaGreatDoor
