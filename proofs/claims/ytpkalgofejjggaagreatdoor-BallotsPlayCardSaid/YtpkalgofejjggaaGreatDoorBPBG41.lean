/- Layer 8's reference -/
import Derived.Test.YtpkalgofejjggaaGreatDoorBPBG40
import Derived.Test.YtpkalgofejjggaaGreatDoorBPBG27
set_option linter.unusedSimpArgs false
set_option linter.unusedVariables false
set_option maxHeartbeats 4000000
set_option maxRecDepth 100000
namespace Go.Proofs.YtpkalgofejjggaaGreatDoor
open Go.ChangeShapes Go.WideShapes Go.ChangeAt Go.RowKit Go.Proofs.Tryz
theorem VW(w:World):
  Calls prog 193 #[] w fun e w'=>e=.returned (ji 1)/\Below w.heap.size w w':=by
 have C1:=jh (fun W=>by have h9:=ET 1 1 rfl (by unfold jf;omega) W;unfold ji words at h9;exact h9);unfold ji words
 go_enter func193,ntmps193
 go_wp2_with fail
 obtain⟨wz,RR,e9,Y5,HRR,HF,B,I7,xA,Z5,U2⟩:=box0r w 24;rw[e9,Y5];clear e9 Y5;refine(C1.out _).mono ?_;rintro _ w1 ⟨rfl,hb⟩;have HRR:=jn hb HRR;have HF:=jh (HF.out.later hb (by omega));have U2:=jv U2 hb.size;have B:=jw B hb;clear hb;obtain⟨c0,c1,c2,c3,f0,f1,f2,f3⟩:=jU HRR.out HF.out
 go_wp2_with fail
 obtain⟨N7,B9⟩:=zP HRR B Z5 1;obtain⟨g0,g1,g2,g3⟩:=jF N7.out;refine bodyPost_ret (v:=ji 1) ?_ rfl ⟨rfl,B9.out⟩
 simp[results,results193,go_sem,ji,words,g0,g1,g2,g3]
theorem QH{gp gq gg gh a:Nat}(ha:a<jk)(hm:gp<jk)(w:World):
  Calls prog 120 #[qj gp gq gg gh,ji a] w fun e w'=>e=.returned (.bool (decide (Jt gp a)))/\Below w.heap.size w w':=by
 have C1:=jh (fun W=>by have h9:=VW W;unfold ji words at h9;exact h9);obtain⟨z1,hz1⟩:=je (zk gp 1);have Kz1:=jh (fun W=>by have h9:=ZU hm (show 1<jk by unfold jk;omega) W;rewrite[<-hz1] at h9;unfold ji words at h9;exact h9);obtain⟨z2,hz2⟩:=je (zk a gp);have Kz2:=jh (fun W=>by have h9:=ZU ha hm W;rewrite[<-hz2] at h9;unfold ji words at h9;exact h9);obtain⟨e,he⟩:=je (decide (a=0));have hne:∀W:World,(binOp .neq 24 (.agg #[.int .u64 (jg jf a 0),.int .u64 (jg jf a 1),.int .u64 (jg jf a 2),.int .u64 (jg jf a 3)]) (.agg #[.int .u64 0,.int .u64 0,.int .u64 0,.int .u64 0])).run prog W=.ok (.bool (!e)) W:=fun W=>by have h9:=Zm a 0 ha (by decide) W;rewrite[<-he] at h9;simp only[jN] at h9;exact h9
 have fF:=jh hne;clear hne;obtain⟨D,hD⟩:=je (decide (Jt gp a));rw[<-hD]
 have h3:(¬0<z1/\D=false)∨(0<z1/\e=true/\D=false)∨(0<z1/\e=false/\¬z2<0/\D=false)∨(0<z1/\e=false/\z2<0/\D=true):=by
  rw[hz1,hz2,hD,he,cmp_pos,cmp_neg];unfold Jt
  by_cases h1:1<gp<;>by_cases h2:a=0<;>by_cases h3:a<gp<;>simp[h1,h2,h3]
 clear hz1 hz2 hD he ha hm;unfold qj ji words
 go_enter func120,ntmps120
 go_upto_region 1 with fail
 obtain⟨w0,GG,e0,s0,J8,g0,HB0⟩:=Qt w 26 gp gq gg gh;rw[e0,s0,J8];clear e0 s0 J8;obtain⟨wz,AA,e9,Y5,V3,B,I7,xA,sH,U2⟩:=box1 w0 24 a;rw[e9,Y5];clear e9 Y5;have G0:=jh (J3.later B.out g0);clear g0
 rcases h3 with⟨h1,rfl⟩|⟨h1,rfl,rfl⟩|⟨h1,rfl,h3,rfl⟩|⟨h1,rfl,h3,rfl⟩
 ·skip
  have hne:=fF.out;refine zM 17 (fun F O9 hcl hbl=>?_);obtain⟨X3,U4,J4,I4⟩:=qF hbl V3;have V7:=fun X9:Wd F=>(J3.later (hbl X9.world X9.fact) G0.out).1 0 (by omega)
  have U7:=fun X9:Wd F=>(J3.later (hbl X9.world X9.fact) G0.out).1 1 (by omega)
  have Q7:=fun X9:Wd F=>(J3.later (hbl X9.world X9.fact) G0.out).1 2 (by omega)
  have P7:=fun X9:Wd F=>(J3.later (hbl X9.world X9.fact) G0.out).1 3 (by omega)
  simp only[Nat.reduceAdd] at V7 U7 Q7 P7;have I5:=jh hcl;clear hcl hbl;refine zL 17 ?_;simp only[zo,zn,zm,zl,Nat.reduceAdd]
  repeat (go_big_quiet_step ((first|(go_at_call 193;with_reducible exact jp I5.out (C1.out _))|(go_at_call 192;with_reducible exact jp I5.out (Kz1.out _)))))
  refine wpQuiet_nil ?_;refine jS ?_;intro bs w2 hb _ _;clear X3 U4 J4 I4;have V3:=jn hb V3;have G0:=jh (J3.later hb G0.out);have U2:=jv U2 hb.size;have B:=jw B hb;clear hb;simp only[over];clear V7 U7 Q7 P7 hne
  go_wp2_with fail
  refine bodyPost_ret (v:=.bool false) ?_ rfl ⟨rfl,jm HB0.out B.out⟩
  simp[results,results120,go_sem]
 ·skip
  have hne:=fF.out;simp only[Bool.not_true,Bool.not_false] at hne;refine zM 17 (fun F O9 hcl hbl=>?_);obtain⟨X3,U4,J4,I4⟩:=qF hbl V3;have V7:=fun X9:Wd F=>(J3.later (hbl X9.world X9.fact) G0.out).1 0 (by omega)
  have U7:=fun X9:Wd F=>(J3.later (hbl X9.world X9.fact) G0.out).1 1 (by omega)
  have Q7:=fun X9:Wd F=>(J3.later (hbl X9.world X9.fact) G0.out).1 2 (by omega)
  have P7:=fun X9:Wd F=>(J3.later (hbl X9.world X9.fact) G0.out).1 3 (by omega)
  simp only[Nat.reduceAdd] at V7 U7 Q7 P7;have I5:=jh hcl;clear hcl hbl;refine zL 17 ?_;simp only[zo,zn,zm,zl,Nat.reduceAdd]
  repeat (go_big_quiet_step ((first|(go_at_call 193;with_reducible exact jp I5.out (C1.out _))|(go_at_call 192;with_reducible exact jp I5.out (Kz1.out _)))))
  refine wpQuiet_nil ?_;refine jS ?_;intro bs w2 hb _ _;clear X3 U4 J4 I4;have V3:=jn hb V3;have G0:=jh (J3.later hb G0.out);have U2:=jv U2 hb.size;have B:=jw B hb;clear hb;simp only[over];clear V7 U7 Q7 P7 hne
  go_wp2_with fail
  refine bodyPost_ret (v:=.bool false) ?_ rfl ⟨rfl,jm HB0.out B.out⟩
  simp[results,results120,go_sem]
 ·skip
  have hne:=fF.out;simp only[Bool.not_true,Bool.not_false] at hne;refine zM 17 (fun F O9 hcl hbl=>?_);obtain⟨X3,U4,J4,I4⟩:=qF hbl V3;have V7:=fun X9:Wd F=>(J3.later (hbl X9.world X9.fact) G0.out).1 0 (by omega)
  have U7:=fun X9:Wd F=>(J3.later (hbl X9.world X9.fact) G0.out).1 1 (by omega)
  have Q7:=fun X9:Wd F=>(J3.later (hbl X9.world X9.fact) G0.out).1 2 (by omega)
  have P7:=fun X9:Wd F=>(J3.later (hbl X9.world X9.fact) G0.out).1 3 (by omega)
  simp only[Nat.reduceAdd] at V7 U7 Q7 P7;have I5:=jh hcl;clear hcl hbl;refine zL 17 ?_;simp only[zo,zn,zm,zl,Nat.reduceAdd]
  repeat (go_big_quiet_step ((first|(go_at_call 193;with_reducible exact jp I5.out (C1.out _))|(go_at_call 192;with_reducible exact jp I5.out (Kz1.out _))|(go_at_call 192;with_reducible exact jp I5.out (Kz2.out _)))))
  refine wpQuiet_nil ?_;refine jS ?_;intro bs w2 hb _ _;clear X3 U4 J4 I4;have V3:=jn hb V3;have G0:=jh (J3.later hb G0.out);have U2:=jv U2 hb.size;have B:=jw B hb;clear hb;simp only[over];clear V7 U7 Q7 P7 hne
  go_wp2_with fail
  refine bodyPost_ret (v:=.bool false) ?_ rfl ⟨rfl,jm HB0.out B.out⟩
  simp[results,results120,go_sem]<;>omega
 ·skip
  have hne:=fF.out;simp only[Bool.not_true,Bool.not_false] at hne;refine zM 17 (fun F O9 hcl hbl=>?_);obtain⟨X3,U4,J4,I4⟩:=qF hbl V3;have V7:=fun X9:Wd F=>(J3.later (hbl X9.world X9.fact) G0.out).1 0 (by omega)
  have U7:=fun X9:Wd F=>(J3.later (hbl X9.world X9.fact) G0.out).1 1 (by omega)
  have Q7:=fun X9:Wd F=>(J3.later (hbl X9.world X9.fact) G0.out).1 2 (by omega)
  have P7:=fun X9:Wd F=>(J3.later (hbl X9.world X9.fact) G0.out).1 3 (by omega)
  simp only[Nat.reduceAdd] at V7 U7 Q7 P7;have I5:=jh hcl;clear hcl hbl;refine zL 17 ?_;simp only[zo,zn,zm,zl,Nat.reduceAdd]
  repeat (go_big_quiet_step ((first|(go_at_call 193;with_reducible exact jp I5.out (C1.out _))|(go_at_call 192;with_reducible exact jp I5.out (Kz1.out _))|(go_at_call 192;with_reducible exact jp I5.out (Kz2.out _)))))
  refine wpQuiet_nil ?_;refine jS ?_;intro bs w2 hb _ _;clear X3 U4 J4 I4;have V3:=jn hb V3;have G0:=jh (J3.later hb G0.out);have U2:=jv U2 hb.size;have B:=jw B hb;clear hb;simp only[over];clear V7 U7 Q7 P7 hne
  go_wp2_with fail
  refine bodyPost_ret (v:=.bool true) ?_ rfl ⟨rfl,jm HB0.out B.out⟩
  simp[results,results120,go_sem]
theorem RInG_yes{gp gq gg gh a:Nat}(h:Jt gp a)(ha:a<jk)(hq:gq<jk)(hm:gp<jk)(w:World):
  Calls prog 178 #[qj gp gq gg gh,ji a] w fun e w'=>e=.returned (.bool (decide (YH gp gq a)))/\Below w.heap.size w w':=by
 have CM:=jh (fun(W:World)=>by have h9:=QH (gp:=gp) (gq:=gq) (gg:=gg) (gh:=gh) ha hm W;rewrite[decide_eq_true h] at h9;unfold qj ji words at h9;exact h9);obtain⟨x,hx⟩:=je (a^gq%gp);have hxl:x<jk:=by rw[hx];exact Nat.lt_trans (Nat.mod_lt _ (by have:=h.1;omega)) hm
 have CE:=jh (fun W=>by have h9:=aX hq hm h.1 h.2.2 W;rewrite[<-hx] at h9;unfold ji words at h9;exact h9);have heq:=qX x 1 hxl (by decide);obtain⟨d,hd⟩:=je (decide (x=1));have hdd:decide (YH gp gq a)=d:=by rw[hd];exact decide_eq_decide.2 ⟨fun h9=>hx.trans h9.2,fun h9=>⟨h,hx.symm.trans h9⟩⟩
 rw[hdd];rw[<-hd] at heq;have C1:=jh (fun W=>by have h9:=VW W;unfold ji words at h9;exact h9);clear hx hxl hd hdd;clear h ha hq hm;unfold qj ji words
 go_enter func178,ntmps178
 go_wp2_with fail
 obtain⟨w0,GG,e0,s0,J8,g0,HB0⟩:=Qt w 26 gp gq gg gh;rw[e0,s0,J8];clear e0 s0 J8;obtain⟨wz,AA,e9,Y5,V3,B,I7,xA,sH,U2⟩:=box1 w0 24 a;rw[e9,Y5];clear e9 Y5;have G0:=jh (J3.later B.out g0);clear g0;refine(CM.out _).mono ?_;rintro _ w1 ⟨rfl,hb⟩;have V3:=jn hb V3;have G0:=jh (J3.later hb G0.out);have U2:=jv U2 hb.size;have B:=jw B hb;clear hb;have SK:=G0.out.2.1 0 (by omega);have PK:=G0.out.2.1 1 (by omega);have NK:=G0.out.2.1 2 (by omega);have MK:=G0.out.2.1 3 (by omega);simp only[Nat.reduceAdd] at SK PK NK MK;have V7:=G0.out.1 0 (by omega);have U7:=G0.out.1 1 (by omega);have Q7:=G0.out.1 2 (by omega);have P7:=G0.out.1 3 (by omega);simp only[Nat.reduceAdd] at V7 U7 Q7 P7;obtain⟨X3,U4,J4,I4⟩:=jF V3.out
 go_wp2_with fail
 clear X3 U4 J4 I4;clear SK PK NK MK V7 U7 Q7 P7;refine(CE.out _).mono ?_;rintro _ w2 ⟨rfl,hb⟩;have V3:=jn hb V3;have G0:=jh (J3.later hb G0.out);have U2:=jv U2 hb.size;have B:=jw B hb;clear hb
 go_upto_region 4 with fail
 obtain⟨w3,XX,e9,h9,hb⟩:=qJ w2 (.cells (jD x) 24);have n9:=jh (show U0 w3 XX x by rw[e9,h9];exact U0.new _ _ _ _ rfl);have f9:=jh (show Y0 w3 XX 4 by rw[e9,h9];exact Y0.made _ _ _ _ _ rfl);have l_XX:AA<XX:=by omega
 have h8:XX<w3.heap.size:=by rw[e9,h9];simp
 rw[<-e9,<-h9];clear e9 h9;have V3:=jn hb V3;have G0:=jh (J3.later hb G0.out);have U2:=jv U2 hb.size;have B:=jw B hb;clear hb;have U9:=n9;have HFXX:=f9;have U2:=h8;clear n9 f9 h8;have hwXX:w0.heap.size<=XX:=by omega
 refine zM 3 (fun F O9 hcl hbl=>?_);obtain⟨gG,fG,eG,dG⟩:=qF hbl U9;have I5:=jh hcl;clear hcl hbl;refine zL 3 ?_;simp only[zo,zn,zm,zl,Nat.reduceAdd]
 repeat (go_big_quiet_step ((first|(go_at_call 193;with_reducible exact jp I5.out (C1.out _)))))
 refine wpQuiet_nil ?_;refine jS ?_;intro bs w4 hb _ _;clear gG fG eG dG;have V3:=jn hb V3;have U9:=jn hb U9;have HFXX:=jh (HFXX.out.later hb (by omega));have G0:=jh (J3.later hb G0.out);have U2:=jv U2 hb.size;have B:=jw B hb;clear hb;simp only[over]
 go_wp2_with fail
 refine bodyPost_ret (v:=.bool d) ?_ rfl ⟨rfl,jm HB0.out B.out⟩
 simp[results,results178,go_sem]
theorem RInG_no{gp gq gg gh a:Nat}(h:¬Jt gp a)(ha:a<jk)(hq:gq<jk)(hm:gp<jk)(w:World):
  Calls prog 178 #[qj gp gq gg gh,ji a] w fun e w'=>e=.returned (.bool (decide (YH gp gq a)))/\Below w.heap.size w w':=by
 have CM:=jh (fun(W:World)=>by have h9:=QH (gp:=gp) (gq:=gq) (gg:=gg) (gh:=gh) ha hm W;rewrite[decide_eq_false h] at h9;unfold qj ji words at h9;exact h9);have hdd:decide (YH gp gq a)=false:=decide_eq_false (fun h9=>h h9.1);rw[hdd];clear hdd;clear h ha hq hm;unfold qj ji words
 go_enter func178,ntmps178
 go_wp2_with fail
 obtain⟨w0,GG,e0,s0,J8,g0,HB0⟩:=Qt w 26 gp gq gg gh;rw[e0,s0,J8];clear e0 s0 J8;obtain⟨wz,AA,e9,Y5,V3,B,I7,xA,sH,U2⟩:=box1 w0 24 a;rw[e9,Y5];clear e9 Y5;have G0:=jh (J3.later B.out g0);clear g0;refine(CM.out _).mono ?_;rintro _ w1 ⟨rfl,hb⟩;have V3:=jn hb V3;have G0:=jh (J3.later hb G0.out);have U2:=jv U2 hb.size;have B:=jw B hb;clear hb
 go_wp2_with fail
 refine bodyPost_ret (v:=.bool false) ?_ rfl ⟨rfl,jm HB0.out B.out⟩
 simp[results,results178,go_sem]
theorem YW{gp gq gg gh a:Nat}(ha:a<jk)(hq:gq<jk)(hm:gp<jk)(w:World):
  Calls prog 178 #[qj gp gq gg gh,ji a] w fun e w'=>e=.returned (.bool (decide (YH gp gq a)))/\Below w.heap.size w w':=by
 by_cases h:Jt gp a
 ·exact RInG_yes h ha hq hm w
 ·exact RInG_no h ha hq hm w
theorem sQ{gp gq gg gh a n:Nat}(h:Jt gp a)(ha:a<jk)(hn:n<jk)(hm:gp<jk)(w:World):
  Calls prog 123 #[qj gp gq gg gh,ji a,ji n] w fun e w'=>e=.returned (.tuple #[ji (a^n%gp),.int .i64 0])/\Below w.heap.size w w':=by
 have CM:=jh (fun(W:World)=>by have h9:=QH (gp:=gp) (gq:=gq) (gg:=gg) (gh:=gh) ha hm W;rewrite[decide_eq_true h] at h9;unfold qj ji words at h9;exact h9);obtain⟨q,hq⟩:=je (a^n%gp);have CE:=jh (fun W=>by have h9:=aX hn hm h.1 h.2.2 W;rewrite[<-hq] at h9;unfold ji words at h9;exact h9);rw[<-hq];clear hq h ha hn hm;unfold qj ji words
 go_enter func123,ntmps123
 go_wp2_with fail
 obtain⟨w0,GG,e0,s0,J8,g0,HB0⟩:=Qt w 26 gp gq gg gh;rw[e0,s0,J8];clear e0 s0 J8;obtain⟨wz,AA,NN,RR,e9,Y5,h_1,h_2,V3,D6,HRR,HF,B,I7,l_1,NC,xA,Z5,U2⟩:=ZY w0 24 a n;rw[e9,Y5,h_1,h_2];clear e9 Y5 h_1 h_2;have G0:=jh (J3.later B.out g0);clear g0;refine(CM.out _).mono ?_;rintro _ w1 ⟨rfl,hb⟩;have V3:=jn hb V3;have D6:=jn hb D6;have HRR:=jn hb HRR;have HF:=jh (HF.out.later hb (by omega));have G0:=jh (J3.later hb G0.out);have U2:=jv U2 hb.size;have B:=jw B hb;clear hb;have V7:=G0.out.1 0 (by omega);have U7:=G0.out.1 1 (by omega);have Q7:=G0.out.1 2 (by omega);have P7:=G0.out.1 3 (by omega);simp only[Nat.reduceAdd] at V7 U7 Q7 P7;obtain⟨X3,U4,J4,I4⟩:=jF V3.out;obtain⟨X6,V6,U6,P6⟩:=jF D6.out
 go_wp2_with fail
 clear X3 U4 J4 I4 X6 V6 U6 P6;clear V7 U7 Q7 P7;refine(CE.out _).mono ?_;rintro _ w2 ⟨rfl,hb⟩;have V3:=jn hb V3;have D6:=jn hb D6;have HRR:=jn hb HRR;have HF:=jh (HF.out.later hb (by omega));have G0:=jh (J3.later hb G0.out);have U2:=jv U2 hb.size;have B:=jw B hb;clear hb;obtain⟨c0,c1,c2,c3,f0,f1,f2,f3⟩:=jU HRR.out HF.out
 go_wp2_with fail
 obtain⟨N7,B9⟩:=zP HRR B Z5 q;obtain⟨g0,g1,g2,g3⟩:=jF N7.out;refine bodyPost_ret (v:=.tuple #[ji q,.int .i64 0]) ?_ rfl ⟨rfl,jm HB0.out B9.out⟩
 simp[results,results123,go_sem,ji,words,g0,g1,g2,g3]
theorem RMulG_yes{gp gq gg gh a n:Nat}(h:Jt gp a)(h2:Jt gp n)(hm:gp<jk)(w:World):
  Calls prog 125 #[qj gp gq gg gh,ji a,ji n] w fun e w'=>e=.returned (.tuple #[ji (a*n%gp),.int .i64 0])/\Below w.heap.size w w':=by
 have CM:=jh (fun(W:World)=>by have h9:=QH (gp:=gp) (gq:=gq) (gg:=gg) (gh:=gh) (Nat.lt_trans h.2.2 hm) hm W;rewrite[decide_eq_true h] at h9;unfold qj ji words at h9;exact h9);have CM2:=jh (fun(W:World)=>by have h9:=QH (gp:=gp) (gq:=gq) (gg:=gg) (gh:=gh) (Nat.lt_trans h2.2.2 hm) hm W;rewrite[decide_eq_true h2] at h9;unfold qj ji words at h9;exact h9);obtain⟨q,hq⟩:=je (a*n%gp);have CE:=jh (fun W=>by have h9:=RMulM_yes hm ⟨h.1,h.2.2,h2.2.2⟩ W;rewrite[<-hq] at h9;unfold ji words at h9;exact h9);rw[<-hq];clear hq h h2 hm;unfold qj ji words
 go_enter func125,ntmps125
 go_wp2_with fail
 obtain⟨w0,GG,e0,s0,J8,g0,HB0⟩:=Qt w 26 gp gq gg gh;rw[e0,s0,J8];clear e0 s0 J8;obtain⟨wz,AA,NN,RR,e9,Y5,h_1,h_2,V3,D6,HRR,HF,B,I7,l_1,NC,xA,Z5,U2⟩:=ZY w0 24 a n;rw[e9,Y5,h_1,h_2];clear e9 Y5 h_1 h_2;have G0:=jh (J3.later B.out g0);clear g0;refine(CM.out _).mono ?_;rintro _ w1 ⟨rfl,hb⟩;have V3:=jn hb V3;have D6:=jn hb D6;have HRR:=jn hb HRR;have HF:=jh (HF.out.later hb (by omega));have G0:=jh (J3.later hb G0.out);have U2:=jv U2 hb.size;have B:=jw B hb;clear hb;have V7:=G0.out.1 0 (by omega);have U7:=G0.out.1 1 (by omega);have Q7:=G0.out.1 2 (by omega);have P7:=G0.out.1 3 (by omega);simp only[Nat.reduceAdd] at V7 U7 Q7 P7;have SK:=G0.out.2.1 0 (by omega);have PK:=G0.out.2.1 1 (by omega);have NK:=G0.out.2.1 2 (by omega);have MK:=G0.out.2.1 3 (by omega);simp only[Nat.reduceAdd] at SK PK NK MK;have r_gg_0:=G0.out.2.2.1 0 (by omega);have r_gg_1:=G0.out.2.2.1 1 (by omega);have r_gg_2:=G0.out.2.2.1 2 (by omega);have r_gg_3:=G0.out.2.2.1 3 (by omega);simp only[Nat.reduceAdd] at r_gg_0 r_gg_1 r_gg_2 r_gg_3;have r_gh_0:=G0.out.2.2.2 0 (by omega);have r_gh_1:=G0.out.2.2.2 1 (by omega);have r_gh_2:=G0.out.2.2.2 2 (by omega);have r_gh_3:=G0.out.2.2.2 3 (by omega);simp only[Nat.reduceAdd] at r_gh_0 r_gh_1 r_gh_2 r_gh_3;obtain⟨X6,V6,U6,P6⟩:=jF D6.out
 go_wp2_with fail
 clear X6 V6 U6 P6;clear V7 U7 Q7 P7 SK PK NK MK r_gg_0 r_gg_1 r_gg_2 r_gg_3 r_gh_0 r_gh_1 r_gh_2 r_gh_3;refine(CM2.out _).mono ?_;rintro _ w2 ⟨rfl,hb⟩;have V3:=jn hb V3;have D6:=jn hb D6;have HRR:=jn hb HRR;have HF:=jh (HF.out.later hb (by omega));have G0:=jh (J3.later hb G0.out);have U2:=jv U2 hb.size;have B:=jw B hb;clear hb;have V7:=G0.out.1 0 (by omega);have U7:=G0.out.1 1 (by omega);have Q7:=G0.out.1 2 (by omega);have P7:=G0.out.1 3 (by omega);simp only[Nat.reduceAdd] at V7 U7 Q7 P7;obtain⟨X3,U4,J4,I4⟩:=jF V3.out;obtain⟨X6,V6,U6,P6⟩:=jF D6.out
 go_wp2_with fail
 clear X3 U4 J4 I4 X6 V6 U6 P6;clear V7 U7 Q7 P7;refine(CE.out _).mono ?_;rintro _ w3 ⟨rfl,hb⟩;have V3:=jn hb V3;have D6:=jn hb D6;have HRR:=jn hb HRR;have HF:=jh (HF.out.later hb (by omega));have G0:=jh (J3.later hb G0.out);have U2:=jv U2 hb.size;have B:=jw B hb;clear hb;obtain⟨c0,c1,c2,c3,f0,f1,f2,f3⟩:=jU HRR.out HF.out
 go_wp2_with fail
 obtain⟨N7,B9⟩:=zP HRR B Z5 q;obtain⟨g0,g1,g2,g3⟩:=jF N7.out;refine bodyPost_ret (v:=.tuple #[ji q,.int .i64 0]) ?_ rfl ⟨rfl,jm HB0.out B9.out⟩
 simp[results,results125,go_sem,ji,words,g0,g1,g2,g3]
end Go.Proofs.YtpkalgofejjggaaGreatDoor
