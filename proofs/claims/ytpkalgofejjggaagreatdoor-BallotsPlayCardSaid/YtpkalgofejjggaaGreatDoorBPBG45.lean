/- Layer 13's reference -/
import Derived.Test.YtpkalgofejjggaaGreatDoorBPBG42
import Derived.Test.YtpkalgofejjggaaGreatDoorBPBG34
set_option linter.unusedSimpArgs false
set_option linter.unusedVariables false
set_option maxHeartbeats 8000000
set_option maxRecDepth 20000
namespace Go.Proofs.YtpkalgofejjggaaGreatDoor
open Go.ChangeShapes Go.WideShapes Go.ChangeAt Go.RowKit Go.Proofs.Tryz
theorem BO(s:ByteArray)(ls:List (List Nat))(x y:Nat):(qA (zx s) (ls++[[x]])).length=(qA (zx s) (ls++[[y]])).length:=by
 unfold qA;rw[List.flatMap_append,List.flatMap_append]
 simp[zD,zE]
theorem parts_src{w:World}{g o cap n:Nat}{vs:List Value}{ls:List (List Nat)}(h:Parts w g o vs ls)(hn:n=ls.length):ZT w 1 (.slice (some ⟨g,o,none⟩) n cap) n vs:=by
 refine⟨_,_,rfl,by rw[h.1,hn,Nat.mul_one],fun u hu=>?_,(fun e=>by cases e),fun ad had j u hu=>?_⟩
 ·obtain⟨i,hi,e⟩:=List.getElem_of_mem hu;obtain⟨v,l,h1,h2,h3,ao,c,e2,h4⟩:=h.2 i (by rw[<-h.1];exact hi);rw[List.getElem?_eq_getElem hi,e] at h1
  cases h1
  rw[e2]
  rfl
 ·cases had
  have hi:=(List.getElem?_eq_some_iff.1 hu).1;obtain⟨v,l,h1,h2,h3,h4⟩:=h.2 j (by rw[<-h.1];exact hi);rw[hu] at h1
  cases h1
  rw[Addr.add_lit];exact h3
theorem ZE(w:World)(o1 o2:Obj):Below w.heap.size w ((w.alloc o1).alloc o2):=(ja).alloc (by simp) _
theorem nP(w:World)(o1:Obj)(u:Value)(t:TypeId)(hu:u.oneCell'=true):ZT ((w.alloc o1).alloc (.cells #[u] t)) 1 (.slice (some ⟨w.heap.size+1,0,none⟩) 1 1) 1 [u]:=by
 have hs:(w.alloc o1).heap.size=w.heap.size+1:=by simp
 rw[<-hs];refine⟨_,1,rfl,rfl,fun x hx=>by rw[List.mem_singleton.1 hx];exact hu,(fun h=>by cases h),fun ad had j x hx=>?_⟩
 cases had
 exact bH (w.alloc o1) _ t j x hx
theorem AV{w1 w2:World}{x:Int}{y n:Nat}{t t2:TypeId}{B:Nat}{a:Option Addr}{c:Nat}{u:Value}{vs:List Value}{e:TypeId}(ho:O1 w1 B e 1 (.slice a n c) n vs)(hg:((w1.alloc (.cells #[.int .u8 x] t)).alloc (.cells #[u] t2)).grownBy w2 (Value.slice a n c).ownBlock)(hx:x=(y:Int):=by rfl):F7 .u8 w2 (.slice (some ⟨w1.heap.size,0,none⟩) 1 1) [y]:=by
 subst hx;refine kat_one ?_;have h1:(w1.alloc (.cells #[.int .u8 (y:Int)] t)).cell? ⟨w1.heap.size,0,none⟩=some (.int .u8 y):=by rw[cell_of_row _ _ _ _ _ _ jQ];rfl
 have h2:=jj h1 (U3.alloc (Nat.le_refl _) (.cells #[u] t2));exact hg.cell h2 (fun e=>absurd (O1.lt ho _ e.symm).2 (Nat.lt_irrefl _))
theorem kL{w w2:World}{g o n B x:Nat}{vs:List Value}{ls:List (List Nat)}{a:Option Addr}{c:Nat}{u:Value}{e:TypeId}(h:Parts w g o vs ls)(hb:Below w.heap.size w w2)(ho:O1 w2 B e 1 (.slice a (n+1) c) (n+1) (vs++[u]))(hu:F7 .u8 w2 u [x])(hn:n=ls.length):
  ∃ga oa,a=some ⟨ga,oa,none⟩/\Parts w2 ga oa (vs++[u]) (ls++[[x]]):=by
 rcases id ho.2 with⟨_,h0⟩|⟨ga,oa,cap,cur,h1,_⟩
 ·omega
 ·injection h1 with h1 _ h2
  subst h1 h2;refine⟨ga,oa,rfl,by rw[List.length_append,List.length_append,h.1];rfl,fun i hi=>?_⟩;have hl:=h.1;rw[List.length_append,List.length_singleton] at hi
  rcases Nat.lt_or_ge i ls.length with hlt|hge
  ·obtain⟨v,l,h3,h4,h5,h6⟩:=h.2 i hlt;have h7:(vs++[u])[i]?=some v:=by rw[List.getElem?_append_left (by omega)];exact h3
   refine⟨v,l,h7,by rw[List.getElem?_append_left hlt];exact h4,?_,h6.later hb⟩;have:=ho.cells i v h7
   rwa [Addr.add_lit] at this
  ·obtain rfl:i=ls.length:=by omega
   have h7:(vs++[u])[ls.length]?=some u:=by rw[List.getElem?_append_right (by omega),hl,Nat.sub_self];rfl
   refine⟨u,[x],h7,by rw[List.getElem?_append_right (Nat.le_refl _),Nat.sub_self];rfl,?_,hu⟩;have:=ho.cells ls.length u h7
   rwa [Addr.add_lit] at this
theorem XW{s:ByteArray}{g o cap m n:Nat}{vs:List Value}{ls:List (List Nat)}(w:World)(hP:Parts w g o vs ls)(hn:n=ls.length)(hm0:0<m)(hm:m<jk)(hby:∀l∈ls,qk l)(hcap:n<=cap)(hcm:cap<=maxLen)(hsz:(qA (zx s) (ls++[[0]])).length<=190000):
  Calls prog 198 #[ji m,.string s,.slice (some ⟨g,o,none⟩) n cap] w fun e w'=>e=.returned (.tuple #[ji (QA m (zx s) ls),.int .i64 0])/\Below w.heap.size w w':=by
 obtain⟨i0,hi,hz0,hz1,hz2⟩:=info_parts infoS9;have HI:=jh hi;have HP:=jh hP;have HN:=jh hn;have hnb:n<=190000:=by rw[hn];have:=gW ls;have h9:=hsz;unfold qA at h9;rw[List.flatMap_append] at h9;simp only[List.length_append] at h9;omega
 have HBY:=jh hby;have I7:=jh hsz;have heq:∀W:World,(binOp .eql 24 (.agg #[.int .u64 (jg jf m 0),.int .u64 (jg jf m 1),.int .u64 (jg jf m 2),.int .u64 (jg jf m 3)]) (.agg #[.int .u64 0,.int .u64 0,.int .u64 0,.int .u64 0])).run prog W=.ok (.bool false) W:=fun W=>by have h9:=qX m 0 hm (by decide) W;rewrite[decide_eq_false (by omega)] at h9;simp only[jN] at h9;exact h9
 obtain⟨q,hq⟩:=je (QA m (zx s) ls);rw[<-hq];have CO:=jh (fun(x:Nat) (hx:x<2) (W:World) (g9 o9 c9:Nat) (vs9:List Value) (h:Parts W g9 o9 vs9 (ls++[[x]]))=>WW (s:=s) (cap:=c9) (n:=n+1) W h (by rw[List.length_append,<-hn];rfl) (fun l hl=>by rcases List.mem_append.1 hl with h1|h1;exact hby l h1;rw[List.mem_singleton.1 h1];intro y hy;rw[List.mem_singleton.1 hy];omega) (by rw[BO s ls x 0];exact hsz));obtain⟨D0,hD0⟩:=je (zr (qA (zx s) (ls++[[0]])));obtain⟨D1,hD1⟩:=je (zr (qA (zx s) (ls++[[1]])));obtain⟨hi9,hhi⟩:=je (wM (zx s) ls 0);obtain⟨lo9,hlo⟩:=je (wM (zx s) ls 1);have CO0:=jh (fun W g9 o9 c9 vs9 h=>by have h9:=CO.out 0 (by omega) W g9 o9 c9 vs9 h;rewrite[<-hD0] at h9;exact h9);have CO1:=jh (fun W g9 o9 c9 vs9 h=>by have h9:=CO.out 1 (by omega) W g9 o9 c9 vs9 h;rewrite[<-hD1] at h9;exact h9);have CG:=jh (fun(D:List Nat) (x:Nat) (hl:D.length=32) (hb:qk D) (hx:x=num D) (W:World) (g9 c9:Nat) (h:F7 .u8 W (.slice (some ⟨g9,0,none⟩) 32 c9) D)=>by have h9:=FT W h hb (by omega);rewrite[numV_of hb hl,<-hx] at h9;unfold ji words at h9;exact h9);have HG0:=jh (fun W g9 c9 h=>CG.out D0 hi9 (by rw[hD0];exact jY _) (by rw[hD0];exact JS _) (by rw[hhi,hD0];rfl) W g9 c9 h);have HG1:=jh (fun W g9 c9 h=>CG.out D1 lo9 (by rw[hD1];exact jY _) (by rw[hD1];exact JS _) (by rw[hlo,hD1];rfl) W g9 c9 h);have CW:=jh (fun W=>by have h9:=oQ (lo:=lo9) (hi:=hi9) (by rw[hlo];exact tH _ _ _) (by rw[hhi];exact tH _ _ _) hm hm0 W;rewrite[show(hi9*jk+lo9)%m=q by rw[hq,hhi,hlo];rfl] at h9;unfold ji words at h9;exact h9);have HL0:=jh (show D0.length=32 by rw[hD0];exact jY _);have SI:=jh (show D1.length=32 by rw[hD1];exact jY _);have yA:=jh (parts_src hP hn (cap:=cap));obtain⟨T0,hT0⟩:=je ((jo .u8 D0).toArray);rw[<-hT0] at CO0;have HS0:=jh (show T0.size=32 by rw[hT0,List.size_toArray,js];exact HL0.out);have HA0:=jh (show T0.all (·.oneCell')=true by rw[hT0];exact Jc _ _);have HTT0:=jh hT0;clear hT0;obtain⟨T1,hT1⟩:=je ((jo .u8 D1).toArray);rw[<-hT1] at CO1;have fA:=jh (show T1.size=32 by rw[hT1,List.size_toArray,js];exact SI.out);have HA1:=jh (show T1.all (·.oneCell')=true by rw[hT1];exact Jc _ _);have HTT1:=jh hT1;clear hT1;clear hi hP hn hm0 hm hby hsz CO hq hhi hlo hD0 hD1 CG;unfold ji words
 go_enter func198,ntmps198
 go_upto_region 1 with fail
 obtain⟨wz,MB,RR,e9,Y5,h_1,O7,HRR,HF,B,I7,l_1,xA,Z5,U2⟩:=box1r w 24 m;rw[e9,Y5,h_1];clear e9 Y5 h_1;have HP:=jh (Parts.on HP.out B.out);have yA:=jh (qW yA.out B.out);obtain⟨G8,P8,O8,N8⟩:=jF O7.out
 go_upto_region 3 with fail
 clear heq;clear G8 P8 O8 N8
 go_wp2_with (first
  |(at_builtin;refine jX rfl (.const (.slice none 0 0)) (.tmp 19) 223 rfl (wz.heap.size) 138 i0 (.slice none 0 0) 1 24 underlying223 HI.out hz0 hz1 hz2 rfl (.slice none 0 0) 0 [] rfl ⟨rfl,.inl ⟨rfl,rfl⟩⟩ (.slice (some ⟨g,o,none⟩) n cap) n vs rfl yA.out (by unfold maxLen;omega) (by omega) (Nat.le_refl _) ?_;intro v9 w1 ho hg hl;obtain⟨a9,c9,rfl⟩:=ho.sl;rw[Nat.zero_add,List.nil_append] at ho;have YA:=jh ho;have G1:=jh hg;have zz1:=hg.size;clear ho hg hl)
  |(at_builtin;refine jX rfl (.tmp 20) (.tmp 22) 223 rfl (wz.heap.size) 138 i0 (.slice none 0 0) 1 24 underlying223 HI.out hz0 hz1 hz2 rfl (.slice a9 n c9) n vs rfl (O1.later YA.out (ZE _ _ _)) (.slice (some ⟨w1.heap.size+1,0,none⟩) 1 1) 1 [.slice (some ⟨w1.heap.size,0,none⟩) 1 1] rfl (nP _ _ _ _ rfl) (by unfold maxLen;omega) (by omega) (by simp;omega) ?_;intro v9 w2 ho hg hl;obtain⟨a8,c8,rfl⟩:=ho.sl;have D9:=jh ho;have G2:=jh hg;have zz2:=hg.size;clear ho hg hl))
 have hb1:Below wz.heap.size wz w1:=U3.grown G1.out (Nat.le_refl _) (fun k hk=>by simp[Value.ownBlock] at hk);have hb:Below wz.heap.size wz w2:=(hb1.trans ((ZE w1 _ _).mono hb1.size)).grown G2.out (by simp;omega) (fun k hk=>(O1.lt YA.out k hk).1);obtain⟨ga,oa,hga,HPN⟩:=kL (x:=0) HP.out hb D9.out (AV YA.out G2.out) HN.out;subst hga;have HPN:=jh HPN;clear YA G1 zz1 D9 G2 zz2 hb1;have O7:=jn hb O7;have HRR:=jn hb HRR;have HF:=jh (HF.out.later hb (by omega));have HP:=jh (Parts.on HP.out hb);have yA:=jh (qW yA.out hb);have U2:=jv U2 hb.size;have B:=jw B hb;clear hb;refine(CO0.out _ _ _ _ _ HPN.out).mono ?_;rintro _ w3 ⟨rfl,hb⟩;clear HPN;have O7:=jn hb O7;have HRR:=jn hb HRR;have HF:=jh (HF.out.later hb (by omega));have HP:=jh (Parts.on HP.out hb);have yA:=jh (qW yA.out hb);have U2:=jv U2 hb.size;have B:=jw B hb;clear hb
 go_upto_region 4 with(refine jW rfl _ _ _ rfl _ T0 rfl rfl (by rw[HS0.out];kernel_rfl) (by rw[HS0.out];rfl) HA0.out ?_)
 obtain⟨XAw,XA,e9,h9,hb⟩:=qJ w3 (.cells T0 67);have r9:XAw.heap[XA]?=some (.cells T0 67 (0,0)):=by rw[e9,h9];exact jQ
 rw[<-e9,<-h9];clear e9 h9;have O7:=jn hb O7;have HRR:=jn hb HRR;have HF:=jh (HF.out.later hb (by omega));have HP:=jh (Parts.on HP.out hb);have yA:=jh (qW yA.out hb);have U2:=jv U2 hb.size;have B:=jw B hb;clear hb;have HR0:=jh r9;clear r9
 go_wp2_with (first
  |(at_builtin;refine jX rfl (.const (.slice none 0 0)) (.tmp 26) 223 rfl (XAw.heap.size) 138 i0 (.slice none 0 0) 1 24 underlying223 HI.out hz0 hz1 hz2 rfl (.slice none 0 0) 0 [] rfl ⟨rfl,.inl ⟨rfl,rfl⟩⟩ (.slice (some ⟨g,o,none⟩) n cap) n vs rfl yA.out (by unfold maxLen;omega) (by omega) (Nat.le_refl _) ?_;intro v9 w4 ho hg hl;obtain⟨a9,c9,rfl⟩:=ho.sl;rw[Nat.zero_add,List.nil_append] at ho;have YA:=jh ho;have G1:=jh hg;have zz1:=hg.size;clear ho hg hl)
  |(at_builtin;refine jX rfl (.tmp 27) (.tmp 29) 223 rfl (XAw.heap.size) 138 i0 (.slice none 0 0) 1 24 underlying223 HI.out hz0 hz1 hz2 rfl (.slice a9 n c9) n vs rfl (O1.later YA.out (ZE _ _ _)) (.slice (some ⟨w4.heap.size+1,0,none⟩) 1 1) 1 [.slice (some ⟨w4.heap.size,0,none⟩) 1 1] rfl (nP _ _ _ _ rfl) (by unfold maxLen;omega) (by omega) (by simp;omega) ?_;intro v9 w5 ho hg hl;obtain⟨a8,c8,rfl⟩:=ho.sl;have D9:=jh ho;have G2:=jh hg;have zz2:=hg.size;clear ho hg hl))
 have hb1:Below XAw.heap.size XAw w4:=U3.grown G1.out (Nat.le_refl _) (fun k hk=>by simp[Value.ownBlock] at hk);have hb:Below XAw.heap.size XAw w5:=(hb1.trans ((ZE w4 _ _).mono hb1.size)).grown G2.out (by simp;omega) (fun k hk=>(O1.lt YA.out k hk).1);obtain⟨ga,oa,hga,HPN⟩:=kL (x:=1) HP.out hb D9.out (AV YA.out G2.out) HN.out;subst hga;have HPN:=jh HPN;clear YA G1 zz1 D9 G2 zz2 hb1;have O7:=jn hb O7;have HRR:=jn hb HRR;have HF:=jh (HF.out.later hb (by omega));have HP:=jh (Parts.on HP.out hb);have yA:=jh (qW yA.out hb);have HR0:=jb hb HR0;have U2:=jv U2 hb.size;have B:=jw B hb;clear hb;refine(CO1.out _ _ _ _ _ HPN.out).mono ?_;rintro _ w6 ⟨rfl,hb⟩;clear HPN;have O7:=jn hb O7;have HRR:=jn hb HRR;have HF:=jh (HF.out.later hb (by omega));have HP:=jh (Parts.on HP.out hb);have yA:=jh (qW yA.out hb);have HR0:=jb hb HR0;have U2:=jv U2 hb.size;have B:=jw B hb;clear hb
 go_upto_region 5 with(refine jW rfl _ _ _ rfl _ T1 rfl rfl (by rw[fA.out];kernel_rfl) (by rw[fA.out];rfl) HA1.out ?_)
 obtain⟨XCw,XC,e9,h9,hb⟩:=qJ w6 (.cells T1 67);have r9:XCw.heap[XC]?=some (.cells T1 67 (0,0)):=by rw[e9,h9];exact jQ
 rw[<-e9,<-h9];clear e9 h9;have O7:=jn hb O7;have HRR:=jn hb HRR;have HF:=jh (HF.out.later hb (by omega));have HP:=jh (Parts.on HP.out hb);have yA:=jh (qW yA.out hb);have HR0:=jb hb HR0;have U2:=jv U2 hb.size;have B:=jw B hb;clear hb;have HR1:=jh r9;clear r9
 go_upto_region 5 with fail
 go_wp2_with fail
 refine(HG0.out _ XA 32 (by rw[HTT0.out] at HR0;exact ZL HR0.out HL0.out)).mono ?_;rintro _ w7 ⟨rfl,hb⟩;have O7:=jn hb O7;have HRR:=jn hb HRR;have HF:=jh (HF.out.later hb (by omega));have HP:=jh (Parts.on HP.out hb);have yA:=jh (qW yA.out hb);have HR0:=jb hb HR0;have HR1:=jb hb HR1;have U2:=jv U2 hb.size;have B:=jw B hb;clear hb
 go_upto_region 6 with fail
 obtain⟨w8,N0,e9,h9,hb⟩:=qJ w7 (.cells (jD hi9) 24);have n9:=jh (show U0 w8 N0 hi9 by rw[e9,h9];exact U0.new _ _ _ _ rfl);have f9:=jh (show Y0 w8 N0 4 by rw[e9,h9];exact Y0.made _ _ _ _ _ rfl);have l_N0:RR<N0:=by omega
 have h8:N0<w8.heap.size:=by rw[e9,h9];simp
 rw[<-e9,<-h9];clear e9 h9;have O7:=jn hb O7;have HRR:=jn hb HRR;have HF:=jh (HF.out.later hb (by omega));have HP:=jh (Parts.on HP.out hb);have yA:=jh (qW yA.out hb);have HR0:=jb hb HR0;have HR1:=jb hb HR1;have U2:=jv U2 hb.size;have B:=jw B hb;clear hb;have FX:=n9;have HFN0:=f9;have U2:=h8;clear n9 f9 h8;have hwN0:w.heap.size<=N0:=by omega
 go_wp2_with fail
 refine(HG1.out _ XC 32 (by rw[HTT1.out] at HR1;exact ZL HR1.out SI.out)).mono ?_;rintro _ wa ⟨rfl,hb⟩;have O7:=jn hb O7;have HRR:=jn hb HRR;have FX:=jn hb FX;have HF:=jh (HF.out.later hb (by omega));have HFN0:=jh (HFN0.out.later hb (by omega));have HP:=jh (Parts.on HP.out hb);have yA:=jh (qW yA.out hb);have HR0:=jb hb HR0;have HR1:=jb hb HR1;have U2:=jv U2 hb.size;have B:=jw B hb;clear hb
 go_upto_region 7 with fail
 obtain⟨wb,N1,e9,h9,hb⟩:=qJ wa (.cells (jD lo9) 24);have n9:=jh (show U0 wb N1 lo9 by rw[e9,h9];exact U0.new _ _ _ _ rfl);have f9:=jh (show Y0 wb N1 4 by rw[e9,h9];exact Y0.made _ _ _ _ _ rfl);have l_N1:N0<N1:=by omega
 have h8:N1<wb.heap.size:=by rw[e9,h9];simp
 rw[<-e9,<-h9];clear e9 h9;have O7:=jn hb O7;have HRR:=jn hb HRR;have FX:=jn hb FX;have HF:=jh (HF.out.later hb (by omega));have HFN0:=jh (HFN0.out.later hb (by omega));have HP:=jh (Parts.on HP.out hb);have yA:=jh (qW yA.out hb);have HR0:=jb hb HR0;have HR1:=jb hb HR1;have U2:=jv U2 hb.size;have B:=jw B hb;clear hb;have SA:=n9;have HFN1:=f9;have U2:=h8;clear n9 f9 h8;have hwN1:w.heap.size<=N1:=by omega
 obtain⟨r_N0_0,r_N0_1,r_N0_2,r_N0_3⟩:=jF FX.out;obtain⟨r_N1_0,r_N1_1,r_N1_2,r_N1_3⟩:=jF SA.out;obtain⟨G8,P8,O8,N8⟩:=jF O7.out
 go_wp2_with fail
 clear r_N0_0 r_N0_1 r_N0_2 r_N0_3 r_N1_0 r_N1_1 r_N1_2 r_N1_3 G8 P8 O8 N8;refine(CW.out _).mono ?_;rintro _ wc ⟨rfl,hb⟩;have O7:=jn hb O7;have HRR:=jn hb HRR;have FX:=jn hb FX;have SA:=jn hb SA;have HF:=jh (HF.out.later hb (by omega));have HFN0:=jh (HFN0.out.later hb (by omega));have HFN1:=jh (HFN1.out.later hb (by omega));have HP:=jh (Parts.on HP.out hb);have yA:=jh (qW yA.out hb);have HR0:=jb hb HR0;have HR1:=jb hb HR1;have U2:=jv U2 hb.size;have B:=jw B hb;clear hb;obtain⟨c0,c1,c2,c3,f0,f1,f2,f3⟩:=jU HRR.out HF.out
 go_wp2_with fail
 obtain⟨N7,B9⟩:=zP HRR B Z5 q;obtain⟨g0,g1,g2,g3⟩:=jF N7.out;refine bodyPost_ret (v:=.tuple #[ji q,.int .i64 0]) ?_ rfl ⟨rfl,B9.out⟩
 simp[results,results198,go_sem,ji,words,g0,g1,g2,g3]
theorem PE(x:Nat)(w:World):Calls prog 199 #[.slice none 0 0,.agg #[.int .u64 (jg jf x 0),.int .u64 (jg jf x 1),.int .u64 (jg jf x 2),.int .u64 (jg jf x 3)]] w fun e w'=>∃a c,e=.returned (.slice (some a) 32 c)/\F7 .u8 w' (.slice (some a) 32 c) (Qe x)/\Below w.heap.size w w':=by
 refine(DT (b:=[]) w (F7.nil _ _) _ _ _ _ (qh x 0) (qh x 1) (qh x 2) (qh x 3) (by simp)).mono ?_;rintro _ w' ⟨v',rfl,ho,hb⟩;have hk:=ho.at_;rw[List.nil_append] at hk;obtain⟨ao,cap,e,_,_,_,h4⟩:=hk;obtain⟨b,o,e2,_⟩:=h4 (by show 0<(Qe x).length;rw[JC];decide);subst e;have hl:(be 8 (jg jf x 3)++(be 8 (jg jf x 2)++(be 8 (jg jf x 1)++be 8 (jg jf x 0)))).length=32:=JC x;have hk:=ho.at_;rw[List.nil_append,hl,e2] at hk;exact⟨_,_,by rw[hl,e2],hk,hb⟩
theorem RChal_any{gp gq gg gh key r:Nat}{h:List Nat}(hl:h.length=32)(L6:qk h)(hq0:0<gq)(hq:gq<jk)(w:World):
  Calls prog 126 #[qj gp gq gg gh,ji key,ji r,.agg (jo .u8 h).toArray] w fun e w'=>e=.returned (ji (JE gq key r h))/\Below w.heap.size w w':=by
 obtain⟨q,hqq⟩:=je (JE gq key r h)
 have CN:=jh (fun(W:World) (B:Nat) (vs:List Value) (hP:Parts W B 0 vs [Qe key,Qe r,h])=>by
  have h9:=XW (s:=⟨#[115,105,103,110]⟩) (m:=gq) (cap:=3) (n:=3) W hP rfl hq0 hq (by
   intro l fJ;simp only[List.mem_cons,List.not_mem_nil,or_false] at fJ
   rcases fJ with rfl|rfl|rfl
   ·exact Zf _
   ·exact Zf _
   ·exact L6) (by decide) (by unfold maxLen;decide) (by unfold qA;simp[zD,qM,zE,JC,hl,ByteArray.size])
  rewrite[show QA gq (zx ⟨#[115,105,103,110]⟩) [Qe key,Qe r,h]=q from hqq.symm] at h9;unfold ji words at h9
  exact h9)
 rw[<-hqq];have HL:=jh hl;obtain⟨T,hT⟩:=je ((jo .u8 h).toArray);rw[<-hT];have HT:=jh hT;clear hqq hl L6 hq0 hq hT;unfold qj ji words
 go_enter func126,ntmps126
 go_upto_region 1 with fail
 obtain⟨V8,aI⟩:=je (w.alloc (.cells (jG gp gq gg gh) 26));have s_0:V8.heap.size=w.heap.size+1:=by rw[aI];simp
 have b_0:=jc aI;obtain⟨v_1,yH⟩:=je (V8.alloc (.cells (jD key) 24));have s_1:v_1.heap.size=V8.heap.size+1:=by rw[yH];simp
 have nU:=jc yH;obtain⟨U8,UN⟩:=je (v_1.alloc (.cells (jD r) 24));have s_2:U8.heap.size=v_1.heap.size+1:=by rw[UN];simp
 have lU:=jc UN;obtain⟨fC,mW⟩:=je (U8.alloc (.cells T 67));have s_3:fC.heap.size=U8.heap.size+1:=by rw[mW];simp
 have kU:=jc mW;obtain⟨w0,e_4⟩:=je (fC.alloc (.cells jA 24));have s_4:w0.heap.size=fC.heap.size+1:=by rw[e_4];simp
 have b_4:=jc e_4;have yX:J3 V8 w.heap.size gp gq gg gh:=by rw[aI];exact J3.new _ _ _ _ _ _
 have WS:U0 v_1 V8.heap.size key:=by rw[yH];exact U0.new _ _ _ _ rfl
 have gZ:U0 U8 v_1.heap.size r:=by rw[UN];exact U0.new _ _ _ _ rfl
 have xX:fC.heap[U8.heap.size]?=some (.cells (jo .u8 h).toArray 67 (0,0)):=by rw[mW,HT.out];exact jQ
 have f_4:U0 w0 fC.heap.size 0:=by rw[e_4];exact qV _ _
 have g_4:Y0 w0 fC.heap.size 4:=by rw[e_4];exact Y0.new _ _ _ _
 rw[<-aI,<-yH,<-UN,<-mW,<-e_4];have HG:=jh ((((yX.later nU).later lU).later kU).later b_4);have HK:=jh (U0.later b_4 (U0.later kU (U0.later lU WS)));have HR:=jh (U0.later b_4 (U0.later kU gZ));have HH:=jh ((b_4.block _ (J6.1 xX).1).trans xX);have HO:=jh f_4;have Y6:=jh g_4;have HB0:=jh (jm (jm (jm (jm b_0 nU) lU) kU) b_4);have hz1:V8.heap.size=w.heap.size+1:=s_0;have hz2:v_1.heap.size=w.heap.size+1+1:=by rw[s_1,s_0]
 have hz3:U8.heap.size=w.heap.size+1+1+1:=by rw[s_2,hz2]
 have hz4:fC.heap.size=w.heap.size+1+1+1+1:=by rw[s_3,hz3]
 have hz5:w0.heap.size=fC.heap.size+1:=s_4;rw[hz1] at HK;rw[hz2] at HR;rw[hz3] at HH;rw[hz4] at HO Y6 hz5;clear aI yH UN mW e_4 s_0 s_1 s_2 s_3 s_4 b_0 nU lU kU b_4 yX WS gZ xX f_4 g_4 hz1 hz2 hz3 hz4;obtain⟨GB,hGB⟩:=je (w.heap.size);rw[<-hGB] at HG HK HR HH HO Y6 hz5⊢;obtain⟨KB,hKB⟩:=je (GB+1);rw[<-hKB] at HK HR HH HO Y6 hz5⊢;obtain⟨RB,hRB⟩:=je (KB+1);rw[<-hRB] at HR HH HO Y6 hz5⊢;obtain⟨HB,hHB⟩:=je (RB+1);rw[<-hHB] at HH HO Y6 hz5⊢;obtain⟨OO,KJ⟩:=je (HB+1);rw[<-KJ] at HO Y6 hz5⊢;have HOW:=jh (show w.heap.size<=OO by omega);have HOL:=jh (show OO<w0.heap.size by omega);clear hGB hKB hRB hHB KJ hz5;refine jJ (.take 0 (.take 1 (.take 2 (.take 4 (.take 6 (.fork 3 (.fork 5 (.fork 7 (.fork 8 (.take 9 (.take 10 (.take 11 (.step 12 (.step 13 (.take 14 .done)))))) 12 (.step 8 (.take 9 (.take 10 (.take 11 (.step 13 (.take 14 .done))))))) 12 (.step 7 (.step 8 (.take 9 (.take 10 (.take 11 (.step 13 (.take 14 .done)))))))) 12 (.step 5 (.step 7 (.step 8 (.take 9 (.take 10 (.take 11 (.step 13 (.take 14 .done))))))))) 12 (.step 3 (.step 5 (.step 7 (.step 8 (.take 9 (.take 10 (.take 11 (.step 13 (.take 14 .done))))))))))))))) (fun w8=>w8.cell? ⟨GB,4,none⟩=some (.int .u64 (jg jf gq 0))/\w8.cell? ⟨GB,5,none⟩=some (.int .u64 (jg jf gq 1))/\w8.cell? ⟨GB,6,none⟩=some (.int .u64 (jg jf gq 2))/\w8.cell? ⟨GB,7,none⟩=some (.int .u64 (jg jf gq 3))/\w8.cell? ⟨KB,0,none⟩=some (.int .u64 (jg jf key 0))/\w8.cell? ⟨KB,1,none⟩=some (.int .u64 (jg jf key 1))/\w8.cell? ⟨KB,2,none⟩=some (.int .u64 (jg jf key 2))/\w8.cell? ⟨KB,3,none⟩=some (.int .u64 (jg jf key 3))/\w8.cell? ⟨RB,0,none⟩=some (.int .u64 (jg jf r 0))/\w8.cell? ⟨RB,1,none⟩=some (.int .u64 (jg jf r 1))/\w8.cell? ⟨RB,2,none⟩=some (.int .u64 (jg jf r 2))/\w8.cell? ⟨RB,3,none⟩=some (.int .u64 (jg jf r 3))) (by kernel_rfl) (by kernel_rfl) (fun _ _ _ _ _ h=>h) (qu HG.out.2.1 HK.out HR.out) (fun hHeld=>?_);obtain⟨w1,e1⟩:=je (w0.drew);rw[<-e1];have hb:Below w0.heap.size w0 w1:=by rw[e1];exact U3.drew
 have HG:=jh (HG.out.later hb);have HK:=jn hb HK;have HR:=jn hb HR;have HH:=jb hb HH;have HO:=jn hb HO;have Y6:=jh (Y6.out.later hb HOL.out);have HOL:=jl HOL hb.size;have HB0:=jw HB0 hb;clear hb e1
 iterate 5
  refine jz ?_
 focus
  refine WT.fork rfl rfl (fun K hK=>?_) (fun K hK=>?_)
 rotate_left
 focus
  go_simp
  obtain⟨w2,e9⟩:=je (w1.alloc (.cells jA 24));obtain⟨VV,Y8⟩:=je (w1.heap.size);have hb:=jc e9;have HV:=jh (show U0 w2 VV 0 by rw[e9,Y8];exact qV _ _);have RI:=jh (show Y0 w2 VV 4 by rw[e9,Y8];exact Y0.new _ _ _ _);have HNG:=jh (show GB≠VV by have:=HG.out.lt;omega);have BA:=jh (show KB≠VV by have:=U0.lt HK.out;omega);have HNR:=jh (show RB≠VV by have:=U0.lt HR.out;omega);have YT:=jh (show OO≠VV by have:=HOL.out;omega);have HVW:=jh (show w.heap.size<=VV by rw[Y8];exact HB0.out.size);rw[<-e9,<-Y8];clear e9 Y8;have HG:=jh (HG.out.later hb);have HK:=jn hb HK;have HR:=jn hb HR;have HH:=jb hb HH;have HO:=jn hb HO;have Y6:=jh (Y6.out.later hb HOL.out);have HOL:=jl HOL hb.size;have HB0:=jw HB0 hb;clear hb;refine qD hK (qu HG.out.2.1 HK.out HR.out) (fun hHeld=>?_);clear hK K
 rotate_right
 focus
  go_simp
  refine(PE key _).mono ?_;rintro _ w2 ⟨a3,c3,rfl,hk9,hb⟩;have HG:=jh (HG.out.later hb);have HK:=jn hb HK;have HR:=jn hb HR;have HH:=jb hb HH;have HO:=jn hb HO;have Y6:=jh (Y6.out.later hb HOL.out);have HOL:=jl HOL hb.size;have HB0:=jw HB0 hb;have K3:=jh hk9;clear hk9 hb;refine qD hK (qu HG.out.2.1 HK.out HR.out) (fun hHeld=>?_);clear hK K
 focus
  refine WT.fork rfl rfl (fun K hK=>?_) (fun K hK=>?_)
 rotate_left
 focus
  go_simp
  obtain⟨w3,e9⟩:=je (w2.alloc (.cells jA 24));obtain⟨VV,Y8⟩:=je (w2.heap.size);have hb:=jc e9;have HV:=jh (show U0 w3 VV 0 by rw[e9,Y8];exact qV _ _);have RI:=jh (show Y0 w3 VV 4 by rw[e9,Y8];exact Y0.new _ _ _ _);have HNG:=jh (show GB≠VV by have:=HG.out.lt;omega);have BA:=jh (show KB≠VV by have:=U0.lt HK.out;omega);have HNR:=jh (show RB≠VV by have:=U0.lt HR.out;omega);have YT:=jh (show OO≠VV by have:=HOL.out;omega);have HVW:=jh (show w.heap.size<=VV by rw[Y8];exact HB0.out.size);rw[<-e9,<-Y8];clear e9 Y8;have HG:=jh (HG.out.later hb);have HK:=jn hb HK;have HR:=jn hb HR;have HH:=jb hb HH;have HO:=jn hb HO;have Y6:=jh (Y6.out.later hb HOL.out);have HOL:=jl HOL hb.size;have HB0:=jw HB0 hb;have K3:=jh (K3.out.later hb);clear hb;refine qD hK (qu HG.out.2.1 HK.out HR.out) (fun hHeld=>?_);clear hK K
 rotate_right
 focus
  go_simp
  refine(PE r _).mono ?_;rintro _ w3 ⟨a5,c5,rfl,hk9,hb⟩;have HG:=jh (HG.out.later hb);have HK:=jn hb HK;have HR:=jn hb HR;have HH:=jb hb HH;have HO:=jn hb HO;have Y6:=jh (Y6.out.later hb HOL.out);have HOL:=jl HOL hb.size;have HB0:=jw HB0 hb;have K3:=jh (K3.out.later hb);have K5:=jh hk9;clear hk9 hb;refine qD hK (qu HG.out.2.1 HK.out HR.out) (fun hHeld=>?_);clear hK K
 focus
  refine WT.fork rfl rfl (fun K hK=>?_) (fun K hK=>?_)
 rotate_left
 focus
  go_simp
  obtain⟨w4,e9⟩:=je (w3.alloc (.cells jA 24));obtain⟨VV,Y8⟩:=je (w3.heap.size);have hb:=jc e9;have HV:=jh (show U0 w4 VV 0 by rw[e9,Y8];exact qV _ _);have RI:=jh (show Y0 w4 VV 4 by rw[e9,Y8];exact Y0.new _ _ _ _);have HNG:=jh (show GB≠VV by have:=HG.out.lt;omega);have BA:=jh (show KB≠VV by have:=U0.lt HK.out;omega);have HNR:=jh (show RB≠VV by have:=U0.lt HR.out;omega);have YT:=jh (show OO≠VV by have:=HOL.out;omega);have HVW:=jh (show w.heap.size<=VV by rw[Y8];exact HB0.out.size);rw[<-e9,<-Y8];clear e9 Y8;have HG:=jh (HG.out.later hb);have HK:=jn hb HK;have HR:=jn hb HR;have HH:=jb hb HH;have HO:=jn hb HO;have Y6:=jh (Y6.out.later hb HOL.out);have HOL:=jl HOL hb.size;have HB0:=jw HB0 hb;have K3:=jh (K3.out.later hb);have K5:=jh (K5.out.later hb);clear hb;refine qD hK (qu HG.out.2.1 HK.out HR.out) (fun hHeld=>?_);clear hK K
 rotate_right
 focus
  go_simp
  obtain⟨w4,e9⟩:=je (w3.alloc (.cells #[.slice (some a3) 32 c3,.slice (some a5) 32 c5,.slice (some ⟨HB,0,none⟩) 32 32] 138));obtain⟨PB,xM⟩:=je (w3.heap.size);have hb:=jc e9;have P0:=jh (show w4.cell? ⟨PB,0,none⟩=some (.slice (some a3) 32 c3) by rw[e9,xM,cell_of_row _ _ _ _ _ _ jQ];rfl);have P1:=jh (show w4.cell? ⟨PB,1,none⟩=some (.slice (some a5) 32 c5) by rw[e9,xM,cell_of_row _ _ _ _ _ _ jQ];rfl);have P2:=jh (show w4.cell? ⟨PB,2,none⟩=some (.slice (some ⟨HB,0,none⟩) 32 32) by rw[e9,xM,cell_of_row _ _ _ _ _ _ jQ];rfl);rw[<-e9,<-xM];clear e9 xM;have HG:=jh (HG.out.later hb);have HK:=jn hb HK;have HR:=jn hb HR;have HH:=jb hb HH;have HO:=jn hb HO;have Y6:=jh (Y6.out.later hb HOL.out);have HOL:=jl HOL hb.size;have HB0:=jw HB0 hb;have K3:=jh (K3.out.later hb);have K5:=jh (K5.out.later hb);clear hb;refine qD hK (qu HG.out.2.1 HK.out HR.out) (fun hHeld=>?_);clear hK K
 focus
  refine WT.fork rfl rfl (fun K hK=>?_) (fun K hK=>?_)
 rotate_left
 focus
  go_simp
  obtain⟨w5,e9⟩:=je (w4.alloc (.cells jA 24));obtain⟨VV,Y8⟩:=je (w4.heap.size);have hb:=jc e9;have HV:=jh (show U0 w5 VV 0 by rw[e9,Y8];exact qV _ _);have RI:=jh (show Y0 w5 VV 4 by rw[e9,Y8];exact Y0.new _ _ _ _);have HNG:=jh (show GB≠VV by have:=HG.out.lt;omega);have BA:=jh (show KB≠VV by have:=U0.lt HK.out;omega);have HNR:=jh (show RB≠VV by have:=U0.lt HR.out;omega);have YT:=jh (show OO≠VV by have:=HOL.out;omega);have HVW:=jh (show w.heap.size<=VV by rw[Y8];exact HB0.out.size);rw[<-e9,<-Y8];clear e9 Y8;have HG:=jh (HG.out.later hb);have HK:=jn hb HK;have HR:=jn hb HR;have HH:=jb hb HH;have HO:=jn hb HO;have Y6:=jh (Y6.out.later hb HOL.out);have HOL:=jl HOL hb.size;have HB0:=jw HB0 hb;have K3:=jh (K3.out.later hb);have K5:=jh (K5.out.later hb);have P0:=jh (jj P0.out hb);have P1:=jh (jj P1.out hb);have P2:=jh (jj P2.out hb);clear hb;refine qD hK (qu HG.out.2.1 HK.out HR.out) (fun hHeld=>?_);clear hK K
 rotate_right
 focus
  go_simp
  refine(CN.out _ PB _ (VQ P0.out P1.out P2.out K3.out K5.out (ZL HH.out HL.out))).mono ?_;rintro _ w5 ⟨rfl,hb⟩;have HG:=jh (HG.out.later hb);have HK:=jn hb HK;have HR:=jn hb HR;have HH:=jb hb HH;have HO:=jn hb HO;have Y6:=jh (Y6.out.later hb HOL.out);have HOL:=jl HOL hb.size;have HB0:=jw HB0 hb;have K3:=jh (K3.out.later hb);have K5:=jh (K5.out.later hb);have P0:=jh (jj P0.out hb);have P1:=jh (jj P1.out hb);have P2:=jh (jj P2.out hb);clear hb;refine qD hK (qu HG.out.2.1 HK.out HR.out) (fun hHeld=>?_);clear hK K
 focus
  refine jz ?_;refine jz ?_;refine jz ?_;refine WT.step rfl (fun K hK=>?_)
  go_simp
  obtain⟨w6,e9⟩:=je (w5.alloc (.cells jA 24));obtain⟨VV,Y8⟩:=je (w5.heap.size);have hb:=jc e9;have HV:=jh (show U0 w6 VV 0 by rw[e9,Y8];exact qV _ _);have RI:=jh (show Y0 w6 VV 4 by rw[e9,Y8];exact Y0.new _ _ _ _);have HNG:=jh (show GB≠VV by have:=HG.out.lt;omega);have BA:=jh (show KB≠VV by have:=U0.lt HK.out;omega);have HNR:=jh (show RB≠VV by have:=U0.lt HR.out;omega);have YT:=jh (show OO≠VV by have:=HOL.out;omega);have HVW:=jh (show w.heap.size<=VV by rw[Y8];exact HB0.out.size);rw[<-e9,<-Y8];clear e9 Y8;have HG:=jh (HG.out.later hb);have HK:=jn hb HK;have HR:=jn hb HR;have HH:=jb hb HH;have HO:=jn hb HO;have Y6:=jh (Y6.out.later hb HOL.out);have HOL:=jl HOL hb.size;have HB0:=jw HB0 hb;have K3:=jh (K3.out.later hb);have K5:=jh (K5.out.later hb);have P0:=jh (jj P0.out hb);have P1:=jh (jj P1.out hb);have P2:=jh (jj P2.out hb);clear hb;refine qD hK (qu HG.out.2.1 HK.out HR.out) (fun hHeld=>?_);clear hK K
 rotate_right
 focus
  refine WT.step rfl (fun K hK=>?_)
  go_simp
  refine(PE key _).mono ?_;rintro _ w3 ⟨a3,c3,rfl,hk9,hb⟩;have HG:=jh (HG.out.later hb);have HK:=jn hb HK;have HR:=jn hb HR;have HH:=jb hb HH;have HO:=jn hb HO;have Y6:=jh (Y6.out.later hb HOL.out);have HOL:=jl HOL hb.size;have HB0:=jw HB0 hb;have RI:=jh (RI.out.later hb (U0.lt HV.out));have HV:=jn hb HV;have K3:=jh hk9;clear hk9 hb;refine qD hK (qu HG.out.2.1 HK.out HR.out) (fun hHeld=>?_);clear hK K
 rotate_left
 rotate_right 2
 iterate 2
  focus
   refine WT.step rfl (fun K hK=>?_)
   go_simp
   refine(PE r _).mono ?_;rintro _ w4 ⟨a5,c5,rfl,hk9,hb⟩;have HG:=jh (HG.out.later hb);have HK:=jn hb HK;have HR:=jn hb HR;have HH:=jb hb HH;have HO:=jn hb HO;have Y6:=jh (Y6.out.later hb HOL.out);have HOL:=jl HOL hb.size;have HB0:=jw HB0 hb;have K3:=jh (K3.out.later hb);have RI:=jh (RI.out.later hb (U0.lt HV.out));have HV:=jn hb HV;have K5:=jh hk9;clear hk9 hb;refine qD hK (qu HG.out.2.1 HK.out HR.out) (fun hHeld=>?_);clear hK K
  rotate_left
 rotate_right 3
 iterate 3
  focus
   refine WT.step rfl (fun K hK=>?_)
   go_simp
   obtain⟨w5,e9⟩:=je (w4.alloc (.cells #[.slice (some a3) 32 c3,.slice (some a5) 32 c5,.slice (some ⟨HB,0,none⟩) 32 32] 138));obtain⟨PB,xM⟩:=je (w4.heap.size);have hb:=jc e9;have P0:=jh (show w5.cell? ⟨PB,0,none⟩=some (.slice (some a3) 32 c3) by rw[e9,xM,cell_of_row _ _ _ _ _ _ jQ];rfl);have P1:=jh (show w5.cell? ⟨PB,1,none⟩=some (.slice (some a5) 32 c5) by rw[e9,xM,cell_of_row _ _ _ _ _ _ jQ];rfl);have P2:=jh (show w5.cell? ⟨PB,2,none⟩=some (.slice (some ⟨HB,0,none⟩) 32 32) by rw[e9,xM,cell_of_row _ _ _ _ _ _ jQ];rfl);rw[<-e9,<-xM];clear e9 xM;have HG:=jh (HG.out.later hb);have HK:=jn hb HK;have HR:=jn hb HR;have HH:=jb hb HH;have HO:=jn hb HO;have Y6:=jh (Y6.out.later hb HOL.out);have HOL:=jl HOL hb.size;have HB0:=jw HB0 hb;have K3:=jh (K3.out.later hb);have K5:=jh (K5.out.later hb);have RI:=jh (RI.out.later hb (U0.lt HV.out));have HV:=jn hb HV;clear hb;refine qD hK (qu HG.out.2.1 HK.out HR.out) (fun hHeld=>?_);clear hK K
  rotate_left
 rotate_right 4
 iterate 4
  focus
   refine WT.step rfl (fun K hK=>?_)
   go_simp
   refine(CN.out _ PB _ (VQ P0.out P1.out P2.out K3.out K5.out (ZL HH.out HL.out))).mono ?_;rintro _ w6 ⟨rfl,hb⟩;have HG:=jh (HG.out.later hb);have HK:=jn hb HK;have HR:=jn hb HR;have HH:=jb hb HH;have HO:=jn hb HO;have Y6:=jh (Y6.out.later hb HOL.out);have HOL:=jl HOL hb.size;have HB0:=jw HB0 hb;have K3:=jh (K3.out.later hb);have K5:=jh (K5.out.later hb);have P0:=jh (jj P0.out hb);have P1:=jh (jj P1.out hb);have P2:=jh (jj P2.out hb);have RI:=jh (RI.out.later hb (U0.lt HV.out));have HV:=jn hb HV;clear hb;refine qD hK (qu HG.out.2.1 HK.out HR.out) (fun hHeld=>?_);clear hK K;refine jz ?_;refine jz ?_;refine jz ?_
  rotate_left
 all_goals(
  refine WT.step rfl (fun K hK=>?_);obtain⟨c0,c1,c2,c3,f0,f1,f2,f3⟩:=jU HV.out RI.out
  go_simp
  have HGS:=jh (jT (jT (jT (jT (World.grownBy.refl w6 (some VV)) 0 (.int .u64 (jg jf q 0))) 1 (.int .u64 (jg jf q 1))) 2 (.int .u64 (jg jf q 2))) 3 (.int .u64 (jg jf q 3)));have HQ:=jh (show Z4 _ GB 4 gq from fun j hj=>HGS.out.cell (HG.out.2.1 j hj) (fun e=>HNG.out (by injection e)));have HK:=jh (U0.other4 HK.out BA.out (.int .u64 (jg jf q 0)) (.int .u64 (jg jf q 1)) (.int .u64 (jg jf q 2)) (.int .u64 (jg jf q 3)));have HR:=jh (U0.other4 HR.out HNR.out (.int .u64 (jg jf q 0)) (.int .u64 (jg jf q 1)) (.int .u64 (jg jf q 2)) (.int .u64 (jg jf q 3)));have HO:=jh (U0.other4 HO.out YT.out (.int .u64 (jg jf q 0)) (.int .u64 (jg jf q 1)) (.int .u64 (jg jf q 2)) (.int .u64 (jg jf q 3)));have Y6:=jh (Y0.set4 Y6.out ⟨VV,0,none⟩ ⟨VV,1,none⟩ ⟨VV,2,none⟩ ⟨VV,3,none⟩ (.int .u64 (jg jf q 0)) (.int .u64 (jg jf q 1)) (.int .u64 (jg jf q 2)) (.int .u64 (jg jf q 3)));have HV:=jh (U0.set4 HV.out q);have HB0:=jh (jO HB0.out HVW.out (.int .u64 (jg jf q 0)) (.int .u64 (jg jf q 1)) (.int .u64 (jg jf q 2)) (.int .u64 (jg jf q 3)));refine qD hK (qu HQ.out HK.out HR.out) (fun hHeld=>?_);clear hK K;refine jz ?_;refine WT.done ?_;clear hHeld c0 c1 c2 c3 f0 f1 f2 f3;obtain⟨r0,r1,r2,r3⟩:=jF HV.out;obtain⟨c0,c1,c2,c3,f0,f1,f2,f3⟩:=jU HO.out Y6.out
  go_wp2_with fail
  obtain⟨g0,g1,g2,g3⟩:=jF (U0.set4 HO.out q);have IC:=jh (jO HB0.out HOW.out (.int .u64 (jg jf q 0)) (.int .u64 (jg jf q 1)) (.int .u64 (jg jf q 2)) (.int .u64 (jg jf q 3)));refine bodyPost_ret (v:=.agg #[.int .u64 (jg jf q 0),.int .u64 (jg jf q 1),.int .u64 (jg jf q 2),.int .u64 (jg jf q 3)]) ?_ rfl ⟨rfl,IC.out⟩
  simp[results,results126,go_sem,g0,g1,g2,g3])
theorem CU{gp gq a:Nat}(h:YH gp gq a)(hq:0<gq)(n:Nat):Jt gp (a^n%gp):=⟨h.1.1,pow_ne h.1.1 hq h.2 n,Nat.mod_lt _ (by have:=h.1.1;omega)⟩
theorem FZ{gp gq gg gh key c s:Nat}{h:List Nat}(hg:YH gp gq gg)(IB:gp<jk)(hgg:gg<jk)(hgh:gh<jk)(hq1:1<gq)(hq:gq<jk)(hk:YH gp gq key)(hk1:key≠1)(hcM:c<jk)(hsM:s<jk)(hl:h.length=32)(L6:qk h)(w:World):
  Calls prog 43 #[qj gp gq gg gh,ji key,.agg (jo .u8 h).toArray,iY c s] w fun e w'=>e=.returned (.bool (uD gp gq gg key c s h))/\Below w.heap.size w w':=by
 have hkM:key<jk:=Nat.lt_trans hk.1.2.2 IB;have hp0:0<gp:=by have:=hg.1.1;omega
 have CMAY:=jh (fun(W:World)=>by have h9:=QH (gp:=gp) (gq:=gq) (gg:=gg) (gh:=gh) hgg IB W;rewrite[decide_eq_true hg.1] at h9;unfold qj ji words at h9;exact h9);have CKEY:=jh (fun(W:World)=>by have h9:=RKey_any (gp:=gp) (gq:=gq) (gg:=gg) (gh:=gh) hkM hq IB W;rewrite[show zw gp gq key=false by unfold zw;rw[decide_eq_true hk,decide_eq_false hk1];rfl] at h9;unfold qj ji words at h9;exact h9);obtain⟨ec,hec⟩:=je (decide (1<gq/\c<gq));obtain⟨es,hes⟩:=je (decide (1<gq/\s<gq));have CEC:=jh (fun(W:World)=>by have h9:=rQ (gp:=gp) (gg:=gg) (gh:=gh) hcM hq W;rewrite[<-hec] at h9;unfold qj ji words at h9;exact h9);have CES:=jh (fun(W:World)=>by have h9:=rQ (gp:=gp) (gg:=gg) (gh:=gh) hsM hq W;rewrite[<-hes] at h9;unfold qj ji words at h9;exact h9);obtain⟨n,hn⟩:=je ((if c=0 then gq else gq-c));obtain⟨x,hx⟩:=je (gg^s%gp);obtain⟨y,hy⟩:=je (key^n%gp);obtain⟨r,hr⟩:=je (x*y%gp);have hnM:n<jk:=by rw[hn];split<;>omega
 have hxm:Jt gp x:=by rw[hx];exact CU hg (by omega) s
 have hym:Jt gp y:=by rw[hy];exact CU hk (by omega) n
 have CX:=jh (fun(W:World)=>by have h9:=sQ (gq:=gq) (gg:=gg) (gh:=gh) hg.1 hgg hsM IB W;rewrite[<-hx] at h9;unfold qj ji words at h9;exact h9);have CY:=jh (fun(W:World)=>by have h9:=sQ (gq:=gq) (gg:=gg) (gh:=gh) hk.1 hkM hnM IB W;rewrite[<-hy] at h9;unfold qj ji words at h9;exact h9);have CR:=jh (fun(W:World)=>by have h9:=RMulG_yes (gq:=gq) (gg:=gg) (gh:=gh) hxm hym IB W;rewrite[<-hr] at h9;unfold qj ji words at h9;exact h9);obtain⟨ch,hch⟩:=je (JE gq key r h);have hchM:ch<jk:=by rw[hch];unfold JE QA;exact Nat.lt_trans (Nat.mod_lt _ (by omega)) hq
 have CC:=jh (fun(W:World)=>by have h9:=RChal_any (gp:=gp) (gg:=gg) (gh:=gh) (key:=key) (r:=r) hl L6 (by omega) hq W;rewrite[<-hch] at h9;unfold qj ji words at h9;exact h9);obtain⟨D,hD⟩:=je (decide (ch=c));have heq:∀W:World,(binOp .eql 24 (.agg #[.int .u64 (jg jf ch 0),.int .u64 (jg jf ch 1),.int .u64 (jg jf ch 2),.int .u64 (jg jf ch 3)]) (.agg #[.int .u64 (jg jf c 0),.int .u64 (jg jf c 1),.int .u64 (jg jf c 2),.int .u64 (jg jf c 3)])).run prog W=.ok (.bool D) W:=fun W=>by have h9:=qX ch c hchM hcM W;rewrite[<-hD] at h9;exact h9
 have HEQ:=jh heq;clear heq
 have dI:=jh (fun(h1:c<gq)=>show uD gp gq gg key c s h=(ec&&es&&D) by
  unfold uD;rw[<-ref_back hk h1,<-hn,<-hx,<-hy,<-hr,<-hch,hec,hes,hD];simp only[List.all_cons,List.all_nil,Bool.and_true]
  congr 1
  exact decide_eq_decide.2 ⟨fun h=>h.symm,fun h=>h.symm⟩)
 have YT:=jh (fun(h1:(ec&&es)=false)=>show uD gp gq gg key c s h=false by
  unfold uD;simp only[List.all_cons,List.all_nil,Bool.and_true]
  rw[<-hec,<-hes,h1,Bool.false_and])
 have HEC:=jh (fun(h1:ec=true)=>show c<gq by rw[hec] at h1;exact(of_decide_eq_true h1).2);have CS:=jh (fun(h0:c≠0) (h1:c<gq) (W:World)=>show Calls prog 124 #[.agg #[.int .u64 (jg jf gp 0),.int .u64 (jg jf gp 1),.int .u64 (jg jf gp 2),.int .u64 (jg jf gp 3),.int .u64 (jg jf gq 0),.int .u64 (jg jf gq 1),.int .u64 (jg jf gq 2),.int .u64 (jg jf gq 3),.int .u64 (jg jf gg 0),.int .u64 (jg jf gg 1),.int .u64 (jg jf gg 2),.int .u64 (jg jf gg 3),.int .u64 (jg jf gh 0),.int .u64 (jg jf gh 1),.int .u64 (jg jf gh 2),.int .u64 (jg jf gh 3)],.agg #[.int .u64 0,.int .u64 0,.int .u64 0,.int .u64 0],.agg #[.int .u64 (jg jf c 0),.int .u64 (jg jf c 1),.int .u64 (jg jf c 2),.int .u64 (jg jf c 3)]] W (fun e w'=>e=.returned (.tuple #[.agg #[.int .u64 (jg jf n 0),.int .u64 (jg jf n 1),.int .u64 (jg jf n 2),.int .u64 (jg jf n 3)],.int .i64 0])/\Below W.heap.size W w') from by have h9:=RSubS_yes (gp:=gp) (gg:=gg) (gh:=gh) (a:=0) (b:=c) (by unfold jk;omega) hcM hq ⟨hq1,by omega,h1⟩ W;rewrite[show(0+gq-c)%gq=n by rw[hn,if_neg h0,Nat.zero_add,Nat.mod_eq_of_lt (by omega)]] at h9;unfold qj ji words at h9;simp only[jN] at h9;exact h9);have FX:=jh (fun(h0:c=0)=>show gq=n by rw[hn,if_pos h0]);have hne:∀W:World,(binOp .neq 24 (.agg #[.int .u64 (jg jf c 0),.int .u64 (jg jf c 1),.int .u64 (jg jf c 2),.int .u64 (jg jf c 3)]) (.agg #[.int .u64 0,.int .u64 0,.int .u64 0,.int .u64 0])).run prog W=.ok (.bool (!decide (c=0))) W:=fun W=>by have h9:=Zm c 0 hcM (by decide) W;simp only[jN] at h9;exact h9
 have fF:=jh hne;obtain⟨T,hT⟩:=je ((jo .u8 h).toArray);have HT:=jh hT;have HL:=jh hl;rw[<-hT] at CC⊢;clear hkM hp0 hec hes hn hx hy hr hnM hxm hym hch hchM hD hne hT hg IB hgg hgh hq1 hq hk hk1 hcM hsM hl L6;unfold qj ji words iY
 go_enter func43,ntmps43
 go_upto_region 1 with fail
 obtain⟨V8,e0⟩:=je (w.alloc (.cells (jG gp gq gg gh) 26));obtain⟨v_1,e1⟩:=je (V8.alloc (.cells (jD key) 24));obtain⟨U8,e2⟩:=je (v_1.alloc (.cells T 67));obtain⟨fC,e3⟩:=je (U8.alloc (.cells (jE c s) 69));have s0:V8.heap.size=w.heap.size+1:=by rw[e0];simp
 have b0:=jc e0;have s1:v_1.heap.size=V8.heap.size+1:=by rw[e1];simp
 have b1:=jc e1;have s2:U8.heap.size=v_1.heap.size+1:=by rw[e2];simp
 have b2:=jc e2;have s3:fC.heap.size=U8.heap.size+1:=by rw[e3];simp
 have b3:=jc e3;have f0:J3 V8 w.heap.size gp gq gg gh:=by rw[e0];exact J3.new _ _ _ _ _ _
 have f1:U0 v_1 (w.heap.size+1) key:=by rw[<-s0,e1];exact U0.new _ _ _ _ rfl
 have f2:U8.heap[w.heap.size+1+1]?=some (.cells (jo .u8 h).toArray 67 (0,0)):=by rw[<-s0,<-s1,e2,HT.out];exact jQ
 have f3:=VE (show fC.heap[w.heap.size+1+1+1]?=some (.cells #[.int .u64 (jg jf c 0),.int .u64 (jg jf c 1),.int .u64 (jg jf c 2),.int .u64 (jg jf c 3),.int .u64 (jg jf s 0),.int .u64 (jg jf s 1),.int .u64 (jg jf s 2),.int .u64 (jg jf s 3)] 69 (0,0)) by rw[<-s0,<-s1,<-s2,e3];exact jQ);rw[<-e0,<-e1,<-e2,<-e3];have HG:=jh (((f0.later b1).later b2).later b3);have HK:=jh (U0.later b3 (U0.later b2 f1));have HH:=jh ((b3.block _ (J6.1 f2).1).trans f2);have HC:=jh f3.1;have HS:=jh f3.2;have HB:=jh (jm (jm (jm b0 b1) b2) b3);have hsz:fC.heap.size=w.heap.size+1+1+1+1:=by omega
 clear e0 e1 e2 e3 s0 s1 s2 s3 b0 b1 b2 b3 f0 f1 f2 f3;obtain⟨GB,hGB⟩:=je (w.heap.size);rw[<-hGB] at HG HK HH HC HS hsz⊢;have aC:w.heap.size<=GB:=by omega
 obtain⟨KB,hKB⟩:=je (GB+1);rw[<-hKB] at HK HH HC HS hsz⊢;obtain⟨IC,hHB9⟩:=je (KB+1);rw[<-hHB9] at HH HC HS hsz⊢;obtain⟨SB,bC⟩:=je (IC+1);rw[<-bC] at HC HS hsz⊢;have hSZ:=jh (show w.heap.size<=fC.heap.size by omega);clear hGB hKB hHB9 bC hsz aC;refine wp_region_lit ?_;refine jL _ ?_ (jd (qP HG.out));refine jL (jP GB 8) ?_;refine jL _ ?_ (jd (jZ HG.out.2.2.1))
 go_wp2_with fail
 refine(CMAY.out _).mono ?_;rintro _ w1 ⟨rfl,hb⟩;have HG:=jh (HG.out.later hb);have HK:=jn hb HK;have HH:=jb hb HH;have HC:=jh (HC.out.later hb);have HS:=jh (HS.out.later hb);have HB:=jw HB hb;clear hb;dsimp only
 go_step
 iterate 2
  refine jL (.bool false) ?_
 refine jt (by kernel_rfl) (jd (qP HG.out)) ?_;simp only[Act.put,pa,pb,pc];refine jt (by kernel_rfl) (jd (zV HK.out)) ?_;simp only[Act.put,pa,pb,pc]
 go_wp2_with fail
 refine(CKEY.out _).mono ?_;rintro _ w2 ⟨rfl,hb⟩;have HG:=jh (HG.out.later hb);have HK:=jn hb HK;have HH:=jb hb HH;have HC:=jh (HC.out.later hb);have HS:=jh (HS.out.later hb);have HB:=jw HB hb;clear hb;dsimp only
 go_step
 refine jt (v:=.bool false) (by kernel_rfl) (by kernel_rfl) ?_;simp only[Act.put,pa,pb,pc]
 iterate 2
  refine jL (.bool false) ?_
 refine jt (by kernel_rfl) (jd (qP HG.out)) ?_;simp only[Act.put,pa,pb,pc];refine jt (v:=.pointer (some ⟨SB,0,none⟩)) (by kernel_rfl) (by kernel_rfl) ?_;simp only[Act.put,pa,pb,pc];refine jt (by kernel_rfl) (jd (jZ HC.out)) ?_;simp only[Act.put,pa,pb,pc]
 go_wp2_with fail
 refine(CEC.out _).mono ?_;rintro _ w3 ⟨rfl,hb⟩;have HG:=jh (HG.out.later hb);have HK:=jn hb HK;have HH:=jb hb HH;have HC:=jh (HC.out.later hb);have HS:=jh (HS.out.later hb);have HB:=jw HB hb;clear hb
 cases ec
 ·skip
  go_wp2_with fail
  go_ret
  exact⟨by rw[YT.out rfl];rfl,HB.out⟩
 have hc:=HEC.out rfl;dsimp only
 go_step
 refine jt (v:=.bool false) (by kernel_rfl) (by kernel_rfl) ?_;simp only[Act.put,pa,pb,pc]
 iterate 2
  refine jL (.bool false) ?_
 refine jt (by kernel_rfl) (jd (qP HG.out)) ?_;simp only[Act.put,pa,pb,pc];refine jt (v:=.pointer (some ⟨SB,4,none⟩)) (by kernel_rfl) (by kernel_rfl) ?_;simp only[Act.put,pa,pb,pc];refine jt (by kernel_rfl) (jd (jZ HS.out)) ?_;simp only[Act.put,pa,pb,pc]
 go_wp2_with fail
 refine(CES.out _).mono ?_;rintro _ w4 ⟨rfl,hb⟩;have HG:=jh (HG.out.later hb);have HK:=jn hb HK;have HH:=jb hb HH;have HC:=jh (HC.out.later hb);have HS:=jh (HS.out.later hb);have HB:=jw HB hb;clear hb
 cases es
 ·skip
  go_wp2_with fail
  go_ret
  exact⟨by rw[YT.out rfl];rfl,HB.out⟩
 have dI:=jh (dI.out hc)
 go_upto_region 3 with fail
 refine wp_region_lit ?_;refine jL _ ?_ (jd (qP HG.out));refine jL (jP GB 8) ?_;refine jL _ ?_ (jd (jZ HG.out.2.2.1));refine jL (jP SB 4) ?_;refine jL _ ?_ (jd (jZ HS.out))
 go_wp2_with fail
 refine(CX.out _).mono ?_;rintro _ w5 ⟨rfl,hb⟩;have HG:=jh (HG.out.later hb);have HK:=jn hb HK;have HH:=jb hb HH;have HC:=jh (HC.out.later hb);have HS:=jh (HS.out.later hb);have HB:=jw HB hb;clear hb
 go_upto_region 4 with fail
 obtain⟨w6,XB,e9,h9,hb⟩:=qJ w5 (.cells (jD x) 24);have HXB:=jh (show U0 w6 XB x by rw[e9,h9];exact U0.new _ _ _ _ rfl);have yN:=jh (show XB<w6.heap.size by rw[e9,h9];simp);have WXB:=jh (show w5.heap.size=XB from h9.symm);rw[<-e9,<-h9];clear e9 h9;have HG:=jh (HG.out.later hb);have HK:=jn hb HK;have HH:=jb hb HH;have HC:=jh (HC.out.later hb);have HS:=jh (HS.out.later hb);have HB:=jw HB hb;clear hb;refine wp_region_lit ?_;refine jL (jP GB 4) ?_;refine jL _ ?_ (jd (jZ HG.out.2.1))
 go_upto_region 5 with fail
 have l1:=HG.out.lt;have l2:=U0.lt HK.out;have l3:=(J6.1 HH.out).1;have l4:=HC.out.lt;have l5:=U0.lt HXB.out;have l6:=HB.out.size;obtain⟨w7,NB,e9,h9,hb⟩:=qJ w6 (.cells (jD gq) 24);have VJ:=jh (show U0 w7 NB gq by rw[e9,h9];exact U0.new _ _ _ _ rfl);have HNF:=jh (show Y0 w7 NB 4 by rw[e9,h9];exact Y0.new _ _ _ _);have NZ:=jh (show NB<w7.heap.size by rw[e9,h9];simp);have WNB:=jh (show w6.heap.size=NB from h9.symm);rw[<-e9,<-h9];clear e9 h9;have HG:=jh (HG.out.later hb);have HK:=jn hb HK;have HH:=jb hb HH;have HC:=jh (HC.out.later hb);have HS:=jh (HS.out.later hb);have HB:=jw HB hb;have HXB:=jn hb HXB;have yN:=jl yN hb.size;clear hb;have n1:GB≠NB:=by have:=WNB.out;omega
 have n2:KB≠NB:=by have:=WNB.out;omega
 have n3:IC≠NB:=by have:=WNB.out;omega
 have n4:SB≠NB:=by have:=WNB.out;omega
 have n5:XB≠NB:=by have:=WNB.out;omega
 have HWN:=jh (show w.heap.size<=NB by have:=WNB.out;omega);clear l1 l2 l3 l4 l5 l6;refine wp_region_lit ?_;refine jL (jP SB 0) ?_;refine jL _ ?_ (jd (jZ HC.out));refine jL (.agg jA) ?_;refine zu (v:=.bool (!decide (c=0))) rfl (qB Qk rfl rfl rfl (fF.out _)) ?_;simp only[Act.put,pa,pb,pc]
 by_cases h0:c=0
 ·skip
  rw[decide_eq_true h0];have VJ:=jh (show U0 w7 NB n by rw[<-FX.out h0];exact VJ.out);clear h0
  go_upto_region 7 with fail
  refine wp_region_lit ?_;refine jL _ ?_ (jd (qP HG.out));refine jL _ ?_ (jd (zV HK.out));refine jL _ ?_ (jd (zV VJ.out))
  go_wp2_with fail
  refine(CY.out _).mono ?_;rintro _ wa ⟨rfl,hb⟩;have HG:=jh (HG.out.later hb);have HK:=jn hb HK;have HH:=jb hb HH;have HC:=jh (HC.out.later hb);have HS:=jh (HS.out.later hb);have HB:=jw HB hb;have HXB:=jn hb HXB;have VJ:=jn hb VJ;have HNF:=jh (HNF.out.later hb NZ.out);have yN:=jl yN hb.size;have NZ:=jl NZ hb.size;clear hb
  go_upto_region 8 with fail
  obtain⟨wb,YB,e9,h9,hb⟩:=qJ wa (.cells (jD y) 24);have KC:=jh (show U0 wb YB y by rw[e9,h9];exact U0.new _ _ _ _ rfl);have LYB:=jh (show YB<wb.heap.size by rw[e9,h9];simp);have WYB:=jh (show wa.heap.size=YB from h9.symm);rw[<-e9,<-h9];clear e9 h9;have HG:=jh (HG.out.later hb);have HK:=jn hb HK;have HH:=jb hb HH;have HC:=jh (HC.out.later hb);have HS:=jh (HS.out.later hb);have HB:=jw HB hb;have HXB:=jn hb HXB;have VJ:=jn hb VJ;have HNF:=jh (HNF.out.later hb NZ.out);have yN:=jl yN hb.size;have NZ:=jl NZ hb.size;clear hb;refine wp_region_lit ?_;refine jL _ ?_ (jd (qP HG.out));refine jL _ ?_ (jd (zV HXB.out));refine jL _ ?_ (jd (zV KC.out))
  go_wp2_with fail
  refine(CR.out _).mono ?_;rintro _ wc ⟨rfl,hb⟩;have HG:=jh (HG.out.later hb);have HK:=jn hb HK;have HH:=jb hb HH;have HC:=jh (HC.out.later hb);have HS:=jh (HS.out.later hb);have HB:=jw HB hb;have HXB:=jn hb HXB;have VJ:=jn hb VJ;have HNF:=jh (HNF.out.later hb NZ.out);have KC:=jn hb KC;have yN:=jl yN hb.size;have NZ:=jl NZ hb.size;have LYB:=jl LYB hb.size;clear hb
  go_upto_region 9 with fail
  obtain⟨wd,RB,e9,h9,hb⟩:=qJ wc (.cells (jD r) 24);have mD:=jh (show U0 wd RB r by rw[e9,h9];exact U0.new _ _ _ _ rfl);have LRB:=jh (show RB<wd.heap.size by rw[e9,h9];simp);have WRB:=jh (show wc.heap.size=RB from h9.symm);rw[<-e9,<-h9];clear e9 h9;have HG:=jh (HG.out.later hb);have HK:=jn hb HK;have HH:=jb hb HH;have HC:=jh (HC.out.later hb);have HS:=jh (HS.out.later hb);have HB:=jw HB hb;have HXB:=jn hb HXB;have VJ:=jn hb VJ;have HNF:=jh (HNF.out.later hb NZ.out);have KC:=jn hb KC;have yN:=jl yN hb.size;have NZ:=jl NZ hb.size;have LYB:=jl LYB hb.size;clear hb;refine jJ (.take 0 (.take 1 (.take 2 (.take 3 (.take 5 (.take 6 (.step 4 (.take 7 (.take 8 .done))))))))) (fun w8=>w8.heap[IC]?=some (.cells (jo .u8 h).toArray 67 (0,0))/\J3 w8 GB gp gq gg gh/\U0 w8 KB key/\U0 w8 RB r/\Z4 w8 SB 0 c) (by kernel_rfl) (by kernel_rfl) (fun _ _ _ _ _ h=>h) (⟨HH.out,HG.out,HK.out,mD.out,HC.out⟩) (fun hHeld=>?_);obtain⟨x1,e1⟩:=je (wd.drew);rw[<-e1];have hb:Below wd.heap.size wd x1:=by rw[e1];exact U3.drew
  have HG:=jh (HG.out.later hb);have HK:=jn hb HK;have HH:=jb hb HH;have HC:=jh (HC.out.later hb);have HS:=jh (HS.out.later hb);have HB:=jw HB hb;have mD:=jn hb mD;clear hb e1;refine WT.take rfl (Or.inl ⟨by rfl,fun w8 hSw=>jd (qP hSw.2.1)⟩) ?_
  try simp only[Act.put,pa,pb,pc]
  refine WT.take rfl (Or.inl ⟨by rfl,fun w8 hSw=>jd (zV hSw.2.2.1)⟩) ?_
  try simp only[Act.put,pa,pb,pc]
  refine WT.take rfl (Or.inl ⟨by rfl,fun w8 hSw=>jd (zV hSw.2.2.2.1)⟩) ?_
  try simp only[Act.put,pa,pb,pc]
  refine jH (.agg T) rfl (fun w8 hSw=>by have h9:=loadH hSw.1 HL.out;rw[<-HT.out] at h9;exact jd h9) ?_;refine jz ?_;refine WT.take rfl (Or.inl ⟨by rfl,fun w8 hSw=>jd (jZ hSw.2.2.2.2)⟩) ?_
  try simp only[Act.put,pa,pb,pc]
  refine WT.step rfl (fun K hK=>?_)
  go_simp
  refine(CC.out _).mono ?_;rintro _ x2 ⟨rfl,hb⟩;have HG:=jh (HG.out.later hb);have HK:=jn hb HK;have HH:=jb hb HH;have HC:=jh (HC.out.later hb);have HS:=jh (HS.out.later hb);have HB:=jw HB hb;have mD:=jn hb mD;clear hb;refine qD hK (⟨HH.out,HG.out,HK.out,mD.out,HC.out⟩) (fun hHeld=>?_);clear hK K;refine jH (.bool D) rfl (fun w8 hSw=>qB Qk rfl (by kernel_rfl) (by kernel_rfl) (HEQ.out _)) ?_;refine jz ?_;refine WT.done ?_;clear hHeld
  go_wp2_with fail
  go_ret
  exact⟨by rw[dI.out];rfl,HB.out⟩
 ·skip
  rw[decide_eq_false h0]
  go_upto_region 6 with fail
  refine wp_region_lit ?_;refine jL _ ?_ (jd (qP HG.out));refine jL (.agg jA) ?_;refine jL (jP SB 0) ?_;refine jL _ ?_ (jd (jZ HC.out))
  go_wp2_with fail
  refine((CS.out h0 hc) _).mono ?_;rintro _ w8 ⟨rfl,hb⟩;have HG:=jh (HG.out.later hb);have HK:=jn hb HK;have HH:=jb hb HH;have HC:=jh (HC.out.later hb);have HS:=jh (HS.out.later hb);have HB:=jw HB hb;have HXB:=jn hb HXB;have VJ:=jn hb VJ;have HNF:=jh (HNF.out.later hb NZ.out);have yN:=jl yN hb.size;have NZ:=jl NZ hb.size;clear hb;obtain⟨c0,c1,c2,c3,f0,f1,f2,f3⟩:=jU VJ.out HNF.out
  go_upto_region 7 with fail
  clear c0 c1 c2 c3 f0 f1 f2 f3;obtain⟨w9x,e9⟩:=je (((((w8.setCell ⟨NB,0,none⟩ (.int .u64 (jg jf n 0))).setCell ⟨NB,1,none⟩ (.int .u64 (jg jf n 1))).setCell ⟨NB,2,none⟩ (.int .u64 (jg jf n 2))).setCell ⟨NB,3,none⟩ (.int .u64 (jg jf n 3))));rw[<-e9];have S9:w8.grownBy w9x (some NB):=by rw[e9];exact jT (jT (jT (jT (World.grownBy.refl w8 (some NB)) 0 _) 1 _) 2 _) 3 _
  have HG:=jh (grp_keep HG.out S9 n1);have HK:=jh (kV HK.out S9 n2);have HH:=jh (row_keep HH.out S9 n3);have HC:=jh (show Z4 w9x SB 0 c from fun j hj=>S9.cell (HC.out j hj) (fun e=>n4 (by injection e)));have HS:=jh (show Z4 w9x SB 4 s from fun j hj=>S9.cell (HS.out j hj) (fun e=>n4 (by injection e)));have HXB:=jh (kV HXB.out S9 n5);have HB:=jh (show Below w.heap.size w w9x by rw[e9];exact jO HB.out HWN.out (.int .u64 (jg jf n 0)) (.int .u64 (jg jf n 1)) (.int .u64 (jg jf n 2)) (.int .u64 (jg jf n 3)));have VJ:=jh (show U0 w9x NB n by rw[e9];exact U0.set4 VJ.out n);clear S9 e9;refine wp_region_lit ?_;refine jL _ ?_ (jd (qP HG.out));refine jL _ ?_ (jd (zV HK.out));refine jL _ ?_ (jd (zV VJ.out))
  go_wp2_with fail
  refine(CY.out _).mono ?_;rintro _ wa ⟨rfl,hb⟩;have HG:=jh (HG.out.later hb);have HK:=jn hb HK;have HH:=jb hb HH;have HC:=jh (HC.out.later hb);have HS:=jh (HS.out.later hb);have HB:=jw HB hb;have HXB:=jn hb HXB;have VJ:=jn hb VJ;clear hb
  go_upto_region 8 with fail
  obtain⟨wb,YB,e9,h9,hb⟩:=qJ wa (.cells (jD y) 24);have KC:=jh (show U0 wb YB y by rw[e9,h9];exact U0.new _ _ _ _ rfl);have LYB:=jh (show YB<wb.heap.size by rw[e9,h9];simp);have WYB:=jh (show wa.heap.size=YB from h9.symm);rw[<-e9,<-h9];clear e9 h9;have HG:=jh (HG.out.later hb);have HK:=jn hb HK;have HH:=jb hb HH;have HC:=jh (HC.out.later hb);have HS:=jh (HS.out.later hb);have HB:=jw HB hb;have HXB:=jn hb HXB;have VJ:=jn hb VJ;clear hb;refine wp_region_lit ?_;refine jL _ ?_ (jd (qP HG.out));refine jL _ ?_ (jd (zV HXB.out));refine jL _ ?_ (jd (zV KC.out))
  go_wp2_with fail
  refine(CR.out _).mono ?_;rintro _ wc ⟨rfl,hb⟩;have HG:=jh (HG.out.later hb);have HK:=jn hb HK;have HH:=jb hb HH;have HC:=jh (HC.out.later hb);have HS:=jh (HS.out.later hb);have HB:=jw HB hb;have HXB:=jn hb HXB;have VJ:=jn hb VJ;have KC:=jn hb KC;have LYB:=jl LYB hb.size;clear hb
  go_upto_region 9 with fail
  obtain⟨wd,RB,e9,h9,hb⟩:=qJ wc (.cells (jD r) 24);have mD:=jh (show U0 wd RB r by rw[e9,h9];exact U0.new _ _ _ _ rfl);have LRB:=jh (show RB<wd.heap.size by rw[e9,h9];simp);have WRB:=jh (show wc.heap.size=RB from h9.symm);rw[<-e9,<-h9];clear e9 h9;have HG:=jh (HG.out.later hb);have HK:=jn hb HK;have HH:=jb hb HH;have HC:=jh (HC.out.later hb);have HS:=jh (HS.out.later hb);have HB:=jw HB hb;have HXB:=jn hb HXB;have VJ:=jn hb VJ;have KC:=jn hb KC;have LYB:=jl LYB hb.size;clear hb;refine jJ (.take 0 (.take 1 (.take 2 (.take 3 (.take 5 (.take 6 (.step 4 (.take 7 (.take 8 .done))))))))) (fun w8=>w8.heap[IC]?=some (.cells (jo .u8 h).toArray 67 (0,0))/\J3 w8 GB gp gq gg gh/\U0 w8 KB key/\U0 w8 RB r/\Z4 w8 SB 0 c) (by kernel_rfl) (by kernel_rfl) (fun _ _ _ _ _ h=>h) (⟨HH.out,HG.out,HK.out,mD.out,HC.out⟩) (fun hHeld=>?_);obtain⟨x1,e1⟩:=je (wd.drew);rw[<-e1];have hb:Below wd.heap.size wd x1:=by rw[e1];exact U3.drew
  have HG:=jh (HG.out.later hb);have HK:=jn hb HK;have HH:=jb hb HH;have HC:=jh (HC.out.later hb);have HS:=jh (HS.out.later hb);have HB:=jw HB hb;have mD:=jn hb mD;clear hb e1;refine WT.take rfl (Or.inl ⟨by rfl,fun w8 hSw=>jd (qP hSw.2.1)⟩) ?_
  try simp only[Act.put,pa,pb,pc]
  refine WT.take rfl (Or.inl ⟨by rfl,fun w8 hSw=>jd (zV hSw.2.2.1)⟩) ?_
  try simp only[Act.put,pa,pb,pc]
  refine WT.take rfl (Or.inl ⟨by rfl,fun w8 hSw=>jd (zV hSw.2.2.2.1)⟩) ?_
  try simp only[Act.put,pa,pb,pc]
  refine jH (.agg T) rfl (fun w8 hSw=>by have h9:=loadH hSw.1 HL.out;rw[<-HT.out] at h9;exact jd h9) ?_;refine jz ?_;refine WT.take rfl (Or.inl ⟨by rfl,fun w8 hSw=>jd (jZ hSw.2.2.2.2)⟩) ?_
  try simp only[Act.put,pa,pb,pc]
  refine WT.step rfl (fun K hK=>?_)
  go_simp
  refine(CC.out _).mono ?_;rintro _ x2 ⟨rfl,hb⟩;have HG:=jh (HG.out.later hb);have HK:=jn hb HK;have HH:=jb hb HH;have HC:=jh (HC.out.later hb);have HS:=jh (HS.out.later hb);have HB:=jw HB hb;have mD:=jn hb mD;clear hb;refine qD hK (⟨HH.out,HG.out,HK.out,mD.out,HC.out⟩) (fun hHeld=>?_);clear hK K;refine jH (.bool D) rfl (fun w8 hSw=>qB Qk rfl (by kernel_rfl) (by kernel_rfl) (HEQ.out _)) ?_;refine jz ?_;refine WT.done ?_;clear hHeld
  go_wp2_with fail
  go_ret
  exact⟨by rw[dI.out];rfl,HB.out⟩
end Go.Proofs.YtpkalgofejjggaaGreatDoor
