/- Layer 13's reference -/
import Derived.Test.YtpkalgofejjggaaGreatDoorBPBG41
import Derived.Test.YtpkalgofejjggaaGreatDoorBPBG28
set_option linter.unusedSimpArgs false
set_option linter.unusedVariables false
set_option maxHeartbeats 8000000
set_option maxRecDepth 100000
namespace Go.Proofs.YtpkalgofejjggaaGreatDoor
open Go.ChangeShapes Go.WideShapes Go.ChangeAt Go.RowKit Go.Proofs.Tryz
theorem RAddS_yes{gp gq gg gh a b:Nat}(ha:a<jk)(L6:b<jk)(hm:gq<jk)(hmay:(1<gq/\a<gq/\b<gq))(w:World):
  Calls prog 194 #[qj gp gq gg gh,ji a,ji b] w fun e w'=>e=.returned (.tuple #[ji ((a+b)%gq),.int .i64 0])/\Below w.heap.size w w':=by
 obtain⟨q,hq⟩:=je ((a+b)%gq);have CE:=jh (fun W=>by have h9:=RAddM_yes hm hmay W;rewrite[<-hq] at h9;unfold ji words at h9;exact h9);rw[<-hq];clear hq ha L6 hm hmay;unfold qj ji words
 go_enter func194,ntmps194
 go_wp2_with fail
 obtain⟨w0,GG,e0,s0,J8,g0,HB0⟩:=Qt w 26 gp gq gg gh;rw[e0,s0,J8];clear e0 s0 J8;obtain⟨wz,AA,BB,RR,e9,Y5,h_1,h_2,V3,X4,HRR,HF,B,I7,l_1,NC,xA,Z5,U2⟩:=ZY w0 24 a b;rw[e9,Y5,h_1,h_2];clear e9 Y5 h_1 h_2;have G0:=jh (J3.later B.out g0);clear g0;refine(CE.out _).mono ?_;rintro _ w1 ⟨rfl,hb⟩;have V3:=jn hb V3;have X4:=jn hb X4;have HRR:=jn hb HRR;have HF:=jh (HF.out.later hb (by omega));have G0:=jh (J3.later hb G0.out);have U2:=jv U2 hb.size;have B:=jw B hb;clear hb;obtain⟨c0,c1,c2,c3,f0,f1,f2,f3⟩:=jU HRR.out HF.out
 go_wp2_with fail
 obtain⟨N7,B9⟩:=zP HRR B Z5 q;obtain⟨g0,g1,g2,g3⟩:=jF N7.out;refine bodyPost_ret (v:=.tuple #[ji q,.int .i64 0]) ?_ rfl ⟨rfl,jm HB0.out B9.out⟩
 simp[results,results194,go_sem,ji,words,g0,g1,g2,g3]
theorem RAddS_no{gp gq gg gh a b:Nat}(ha:a<jk)(L6:b<jk)(hm:gq<jk)(hmay:¬(1<gq/\a<gq/\b<gq))(w:World):
  Calls prog 194 #[qj gp gq gg gh,ji a,ji b] w fun e w'=>e=.returned (.tuple #[ji 0,.int .i64 1])/\Below w.heap.size w w':=by
 obtain⟨q,hq⟩:=je (0);have CE:=jh (fun W=>by have h9:=RAddM_no ha L6 hm hmay W;rewrite[<-hq] at h9;unfold ji words at h9;exact h9);rw[<-hq];clear hq ha L6 hm hmay;unfold qj ji words
 go_enter func194,ntmps194
 go_wp2_with fail
 obtain⟨w0,GG,e0,s0,J8,g0,HB0⟩:=Qt w 26 gp gq gg gh;rw[e0,s0,J8];clear e0 s0 J8;obtain⟨wz,AA,BB,RR,e9,Y5,h_1,h_2,V3,X4,HRR,HF,B,I7,l_1,NC,xA,Z5,U2⟩:=ZY w0 24 a b;rw[e9,Y5,h_1,h_2];clear e9 Y5 h_1 h_2;have G0:=jh (J3.later B.out g0);clear g0;refine(CE.out _).mono ?_;rintro _ w1 ⟨rfl,hb⟩;have V3:=jn hb V3;have X4:=jn hb X4;have HRR:=jn hb HRR;have HF:=jh (HF.out.later hb (by omega));have G0:=jh (J3.later hb G0.out);have U2:=jv U2 hb.size;have B:=jw B hb;clear hb;obtain⟨c0,c1,c2,c3,f0,f1,f2,f3⟩:=jU HRR.out HF.out
 go_wp2_with fail
 obtain⟨N7,B9⟩:=zP HRR B Z5 q;obtain⟨g0,g1,g2,g3⟩:=jF N7.out;refine bodyPost_ret (v:=.tuple #[ji q,.int .i64 1]) ?_ rfl ⟨rfl,jm HB0.out B9.out⟩
 simp[results,results194,go_sem,ji,words,g0,g1,g2,g3]
theorem RExpo_yes{gp gq gg gh a:Nat}(ha:a<jk)(hm:gq<jk)(hmay:(1<gq/\a<gq))(w:World):
  Calls prog 122 #[qj gp gq gg gh,ji a] w fun e w'=>e=.returned (.bool true)/\Below w.heap.size w w':=by
 obtain⟨q,hq⟩:=je ((a+a)%gq);have CE:=jh (fun W=>by have h9:=RAddS_yes (gp:=gp) (gg:=gg) (gh:=gh) ha ha hm (by omega) W;rewrite[<-hq] at h9;unfold qj ji words at h9;exact h9);clear hq ha hm hmay;unfold qj ji words
 go_enter func122,ntmps122
 go_wp2_with fail
 obtain⟨w0,GG,e0,s0,J8,g0,HB0⟩:=Qt w 26 gp gq gg gh;rw[e0,s0,J8];clear e0 s0 J8;obtain⟨wz,AA,e9,Y5,V3,B,I7,xA,sH,U2⟩:=box1 w0 24 a;rw[e9,Y5];clear e9 Y5;have G0:=jh (J3.later B.out g0);clear g0;refine(CE.out _).mono ?_;rintro _ w1 ⟨rfl,hb⟩;have V3:=jn hb V3;have G0:=jh (J3.later hb G0.out);have U2:=jv U2 hb.size;have B:=jw B hb;clear hb
 go_wp2_with fail
 refine bodyPost_ret (v:=.bool true) ?_ rfl ⟨rfl,jm HB0.out (jm B.out (ja))⟩
 simp[results,results122,go_sem]
theorem RExpo_no{gp gq gg gh a:Nat}(ha:a<jk)(hm:gq<jk)(hmay:¬(1<gq/\a<gq))(w:World):
  Calls prog 122 #[qj gp gq gg gh,ji a] w fun e w'=>e=.returned (.bool false)/\Below w.heap.size w w':=by
 obtain⟨q,hq⟩:=je (0);have CE:=jh (fun W=>by have h9:=RAddS_no (gp:=gp) (gg:=gg) (gh:=gh) ha ha hm (by omega) W;rewrite[<-hq] at h9;unfold qj ji words at h9;exact h9);clear hq ha hm hmay;unfold qj ji words
 go_enter func122,ntmps122
 go_wp2_with fail
 obtain⟨w0,GG,e0,s0,J8,g0,HB0⟩:=Qt w 26 gp gq gg gh;rw[e0,s0,J8];clear e0 s0 J8;obtain⟨wz,AA,e9,Y5,V3,B,I7,xA,sH,U2⟩:=box1 w0 24 a;rw[e9,Y5];clear e9 Y5;have G0:=jh (J3.later B.out g0);clear g0;refine(CE.out _).mono ?_;rintro _ w1 ⟨rfl,hb⟩;have V3:=jn hb V3;have G0:=jh (J3.later hb G0.out);have U2:=jv U2 hb.size;have B:=jw B hb;clear hb
 go_wp2_with fail
 refine bodyPost_ret (v:=.bool false) ?_ rfl ⟨rfl,jm HB0.out (jm B.out (ja))⟩
 simp[results,results122,go_sem]
theorem rQ{gp gq gg gh a:Nat}(ha:a<jk)(hm:gq<jk)(w:World):
  Calls prog 122 #[qj gp gq gg gh,ji a] w fun e w'=>e=.returned (.bool (decide (1<gq/\a<gq)))/\Below w.heap.size w w':=by
 by_cases h:1<gq/\a<gq
 ·rw[decide_eq_true h];exact RExpo_yes ha hm h w
 ·rw[decide_eq_false h];exact RExpo_no ha hm h w
theorem EZ{gp gq gg gh a:Nat}(ha:a<jk)(hq:gq<jk)(hm:gp<jk)(w:World):
  Calls prog 107 #[qj gp gq gg gh,ji a] w fun e w'=>e=.returned (.bool (!zw gp gq a))/\Below w.heap.size w w':=by
 obtain⟨i9,hi9⟩:=je (decide (YH gp gq a));obtain⟨e,he⟩:=je (decide (a=1));have hv:(!zw gp gq a)=(i9&&!e):=by unfold zw;rw[<-hi9,<-he,Bool.not_or,Bool.not_not]
 rw[hv];have CI:=jh (fun(W:World)=>by have h9:=YW (gp:=gp) (gg:=gg) (gh:=gh) ha hq hm W;rewrite[<-hi9] at h9;unfold qj ji words at h9;exact h9);have heq:∀W:World,(binOp .neq 24 (.agg #[.int .u64 (jg jf a 0),.int .u64 (jg jf a 1),.int .u64 (jg jf a 2),.int .u64 (jg jf a 3)]) (.agg #[.int .u64 1,.int .u64 0,.int .u64 0,.int .u64 0])).run prog W=.ok (.bool (!e)) W:=fun W=>by have h8:=Zm a 1 ha (by decide) W;rewrite[<-he] at h8;have z0:((jg jf 1 0:Nat):Int)=1:=(by decide);have z1:((jg jf 1 1:Nat):Int)=0:=(by decide);have z2:((jg jf 1 2:Nat):Int)=0:=(by decide);have z3:((jg jf 1 3:Nat):Int)=0:=(by decide);rewrite[z0,z1,z2,z3] at h8;exact h8
 have HEQ:=jh heq;clear heq hi9 he hv ha hq hm;unfold qj ji words
 go_enter func107,ntmps107
 go_wp2_with fail
 obtain⟨w0,GG,e0,s0,J8,g0,HB0⟩:=Qt w 26 gp gq gg gh;rw[e0,s0,J8];clear e0 s0 J8;obtain⟨wz,AA,e9,Y5,V3,B,I7,xA,sH,U2⟩:=box1 w0 24 a;rw[e9,Y5];clear e9 Y5;have G0:=jh (J3.later B.out g0);clear g0;refine(CI.out _).mono ?_;rintro _ w1 ⟨rfl,hb⟩;have V3:=jn hb V3;have G0:=jh (J3.later hb G0.out);have U2:=jv U2 hb.size;have B:=jw B hb;clear hb
 cases i9
 ·skip
  skip
  go_wp2_with fail
  refine bodyPost_ret (v:=.bool false) ?_ rfl ⟨rfl,jm HB0.out B.out⟩
  simp[results,results107,go_sem]
 ·skip
  obtain⟨X3,U4,J4,I4⟩:=jF V3.out;have heq:=HEQ.out
  cases e
  ·simp only[Bool.not_true,Bool.not_false] at heq
   go_wp2_with fail
   refine bodyPost_ret (v:=.bool true) ?_ rfl ⟨rfl,jm HB0.out B.out⟩
   simp[results,results107,go_sem]
  ·simp only[Bool.not_true,Bool.not_false] at heq
   go_wp2_with fail
   refine bodyPost_ret (v:=.bool false) ?_ rfl ⟨rfl,jm HB0.out B.out⟩
   simp[results,results107,go_sem]
theorem or_zero{x y:Nat}(h:x|||y=0):x=0/\y=0:=by
 constructor
 ·refine Nat.eq_of_testBit_eq fun i=>?_
  have:=congrArg (fun n=>n.testBit i) h;simp only[Nat.testBit_or,Nat.zero_testBit,Bool.or_eq_false_iff] at this;rw[this.1,Nat.zero_testBit]
 ·refine Nat.eq_of_testBit_eq fun i=>?_
  have:=congrArg (fun n=>n.testBit i) h;simp only[Nat.testBit_or,Nat.zero_testBit,Bool.or_eq_false_iff] at this;rw[this.2,Nat.zero_testBit]
theorem MH{gp gq gg gh n cap:Nat}{fa se:Int}{ao:Option Addr}{ks:List (Nat×Nat)}(hx:∀k∈ks,k.1<jk/\k.2<jk)(hq:gq<jk)(hm:gp<jk)(hgg:gg<jk)(hgh:gh<jk)(hn:n=ks.length)(hfa: -9223372036854775808<=fa/\fa<=9223372036854775807)(hse: -9223372036854775808<=se/\se<=9223372036854775807)(O9:n<=1000)(w:World)(hk:0<n->∃b o,ao=some ⟨b,o,none⟩/\Y4 w b o ks):
  Calls prog 30 #[zC gp gq gg gh fa se (.slice ao n cap)] w fun e w'=>e=.returned (.bool (qi gp gq gg gh fa se n ks))/\Below w.heap.size w w':=by
 obtain⟨hf1,hf2⟩:=hfa;obtain⟨hs1,hs2⟩:=hse;have CK:=jh (fun(a:Nat) (ha:a<jk) (W:World)=>by have h9:=EZ (gp:=gp) (gq:=gq) (gg:=gg) (gh:=gh) ha hq hm W;unfold qj ji words at h9;exact h9);obtain⟨R,hR⟩:=je (qi gp gq gg gh fa se n ks);rw[<-hR];have HR:=jh hR;have HX:=jh hx;have HN:=jh hn;have GX:=jh hgg;have HGH:=jh hgh;have HKH:=jh hk;clear hR hx hq hm hgg hgh hn hk;unfold zC
 go_enter func30,ntmps30
 go_upto_region 1 with fail
 obtain⟨w0,e0⟩:=je (w.alloc (.cells #[.int .u64 (jg jf gp 0),.int .u64 (jg jf gp 1),.int .u64 (jg jf gp 2),.int .u64 (jg jf gp 3),.int .u64 (jg jf gq 0),.int .u64 (jg jf gq 1),.int .u64 (jg jf gq 2),.int .u64 (jg jf gq 3),.int .u64 (jg jf gg 0),.int .u64 (jg jf gg 1),.int .u64 (jg jf gg 2),.int .u64 (jg jf gg 3),.int .u64 (jg jf gh 0),.int .u64 (jg jf gh 1),.int .u64 (jg jf gh 2),.int .u64 (jg jf gh 3),.int .i64 fa,.int .i64 se,.slice ao n cap] 33));obtain⟨SB,bC⟩:=je (w.heap.size);have hb:=jc e0;have HS:=jh (show TA w0 SB gp gq gg gh fa se (.slice ao n cap) by rw[e0,bC];exact TA.new _ _ _ _ _ _ _ _ _);have HB:=jh hb;rw[<-e0,<-bC];clear e0 bC;clear hb;have q18:=HS.out.nd
 go_upto_region 2 with fail
 clear q18;have q16:=HS.out.fa;have q17:=HS.out.se
 by_cases h0:fa<0
 ·skip
  have HR:=jh (show R=false by rw[HR.out];unfold qi;rw[if_pos h0]);have hn7:(n:Int)<=1000:=by omega
  go_wp2_with fail
  go_ret
  exact⟨by rw[HR.out];rfl,HB.out⟩
 by_cases h1:2<fa
 ·skip
  have HR:=jh (show R=false by rw[HR.out];unfold qi;rw[if_neg h0,if_pos h1]);have hn7:(n:Int)<=1000:=by omega
  go_wp2_with fail
  go_ret
  exact⟨by rw[HR.out];rfl,HB.out⟩
 by_cases h2:se<1
 ·skip
  have HR:=jh (show R=false by rw[HR.out];unfold qi;rw[if_neg h0,if_neg h1,if_pos h2]);have hn7:(n:Int)<=1000:=by omega
  go_wp2_with fail
  go_ret
  exact⟨by rw[HR.out];rfl,HB.out⟩
 by_cases h8:3<se
 ·skip
  have HR:=jh (show R=false by rw[HR.out];unfold qi;rw[if_neg h0,if_neg h1,if_neg h2,if_pos (show fa+1<se by omega)]);have hn7:(n:Int)<=1000:=by omega
  go_wp2_with fail
  go_ret
  exact⟨by rw[HR.out];rfl,HB.out⟩
 by_cases h3:fa+1<se
 ·skip
  have HR:=jh (show R=false by rw[HR.out];unfold qi;rw[if_neg h0,if_neg h1,if_neg h2,if_pos h3]);have hn7:(n:Int)<=1000:=by omega
  go_wp2_with fail
  go_ret
  exact⟨by rw[HR.out];rfl,HB.out⟩
 by_cases h4:(n:Int)<3*fa+1
 ·skip
  have HR:=jh (show R=false by rw[HR.out];unfold qi;rw[if_neg h0,if_neg h1,if_neg h2,if_neg h3,if_pos h4]);have hn7:(n:Int)<=1000:=by omega
  go_wp2_with fail
  go_ret
  exact⟨by rw[HR.out];rfl,HB.out⟩
 by_cases h5:(7:Int)<(n:Int)
 ·skip
  have HR:=jh (show R=false by rw[HR.out];unfold qi;rw[if_neg h0,if_neg h1,if_neg h2,if_neg h3,if_neg h4,if_pos (show 7<n by omega)]);have hn7:(n:Int)<=1000:=by omega
  go_wp2_with fail
  go_ret
  exact⟨by rw[HR.out];rfl,HB.out⟩
 have HR:=jh (show R=(if rE gq (n+se.toNat)=false then false else if(zw gp gq gg||zw gp gq gh)=true then false else !ks.any (zR gp gq)) by rw[HR.out];unfold qi;rw[if_neg h0,if_neg h1,if_neg h2,if_neg h3,if_neg h4,if_neg (show¬7<n by omega)]);obtain⟨m,vM⟩:=je (n+se.toNat);rw[<-vM] at HR;have hmI:(n:Int)+se=(m:Int):=by omega
 have hmb:m<=1000:=by omega
 have hn7:(n:Int)<=7:=by omega
 go_upto_region 4 with fail
 clear q16 q17 h0 h1 h2 h8 h3 h4 h5 vM;refine wp_region_lit ?_;refine jL (jP SB 0) ?_;refine jL (jP SB 4) ?_;refine jL _ ?_ (jd (jZ HS.out.grp.2.1))
 go_upto_region 5 with fail
 obtain⟨w1,QB,e9,h9,hb⟩:=qJ w0 (.cells (jD gq) 24);have OH:=jh (show U0 w1 QB gq by rw[e9,h9];exact U0.new _ _ _ _ rfl);have LQB:=jh (show QB<w1.heap.size by rw[e9,h9];simp);have WQB:=jh (show w0.heap.size=QB from h9.symm);rw[<-e9,<-h9];clear e9 h9;have HS:=jh (HS.out.later hb);have HB:=jw HB hb;clear hb;obtain⟨ab,hab⟩:=je (rE gq m);rw[<-hab] at HR;have HAB:=jh hab;clear hab
 go_cut [72] (fun c wz=>c=.bool (!ab)/\wz=w1)
 case first=>
  obtain⟨r0,r1,r2,r3⟩:=jF OH.out;have q17:=HS.out.se;have hv:=HAB.out;unfold rE at hv
  generalize jg jf gq 0=d0 at*
  generalize jg jf gq 1=d1 at*
  generalize jg jf gq 2=d2 at*
  generalize jg jf gq 3=d3 at*
  have aC:IntKind.u64.wrap (m:Int)=(m:Int):=by rw[IntKind.wrap_u64];omega
  have h9:(d1≠0/\ab=true)∨(d1=0/\d2≠0/\ab=true)∨(d1=0/\d2=0/\d3≠0/\ab=true)∨(d1=0/\d2=0/\d3=0/\m<d0/\ab=true)∨(d1=0/\d2=0/\d3=0/\¬m<d0/\ab=false):=by
   by_cases z1:d1=0
   ·by_cases z2:d2=0
    ·by_cases z3:d3=0
     ·rw[if_pos (by rw[z1,z2,z3];rfl)] at hv
      by_cases z4:m<d0
      ·exact .inr (.inr (.inr (.inl ⟨z1,z2,z3,z4,by rw[hv];exact decide_eq_true z4⟩)))
      ·exact .inr (.inr (.inr (.inr ⟨z1,z2,z3,z4,by rw[hv];exact decide_eq_false z4⟩)))
     ·exact .inr (.inr (.inl ⟨z1,z2,z3,by rw[hv,if_neg (fun h=>z3 (or_zero h).2)]⟩))
    ·exact .inr (.inl ⟨z1,z2,by rw[hv,if_neg (fun h=>z2 (or_zero (or_zero h).1).2)]⟩)
   ·exact .inl ⟨z1,by rw[hv,if_neg (fun h=>z1 (or_zero (or_zero h).1).1)]⟩
  clear hv HAB HR OH
  rcases h9 with⟨z1,rfl⟩|⟨rfl,z2,rfl⟩|⟨rfl,rfl,z3,rfl⟩|⟨rfl,rfl,rfl,z4,rfl⟩|⟨rfl,rfl,rfl,z4,rfl⟩
  ·skip
   have z1I:((d1:Int)==0)=false:=by simpa using z1
   go_wp2_with fail
   go_meet
   exact⟨rfl,rfl⟩
  ·skip
   have z2I:((d2:Int)==0)=false:=by simpa using z2
   go_wp2_with fail
   go_meet
   exact⟨rfl,rfl⟩
  ·skip
   have z3I:((d3:Int)==0)=false:=by simpa using z3
   go_wp2_with fail
   go_meet
   exact⟨rfl,rfl⟩
  ·skip
   have z4I:¬(d0:Int)<=(m:Int):=by omega
   go_wp2_with fail
   go_meet
   exact⟨rfl,rfl⟩
  ·skip
   have z4I:(d0:Int)<=(m:Int):=by omega
   go_wp2_with fail
   go_meet
   exact⟨rfl,rfl⟩
 case rest=>
  obtain⟨rfl,hw⟩:=hcut;rw[hw];clear hw wc HAB OH
  cases ab
  ·skip
   go_wp2_with fail
   go_ret
   exact⟨by rw[HR.out];rfl,HB.out⟩
  have HR:=jh (show R=if(zw gp gq gg||zw gp gq gh)=true then false else !ks.any (zR gp gq) by rw[HR.out];rfl);obtain⟨kg,hkg⟩:=je (zw gp gq gg);obtain⟨kh,hkh⟩:=je (zw gp gq gh);have CG:=jh (CK.out gg GX.out);have CH:=jh (CK.out gh HGH.out);rw[<-hkg] at HR CG;rw[<-hkh] at HR CH;clear hkg hkh
  go_upto_region 7 with fail
  refine wp_region_lit ?_;refine jL (jP SB 0) ?_;refine jL _ ?_ (jd (qP HS.out.grp));refine jL (jP SB 0) ?_;refine jL (jP SB 8) ?_;refine jL _ ?_ (jd (jZ HS.out.grp.2.2.1))
  go_wp2_with fail
  refine(CG.out _).mono ?_;rintro _ w2 ⟨rfl,hb⟩;have HS:=jh (HS.out.later hb);have HB:=jw HB hb;clear hb
  cases kg
  ·skip
   dsimp only
   go_step
   iterate 2
    refine jL (.bool false) ?_
   refine jt (v:=.pointer (some ⟨SB,0,none⟩)) (by kernel_rfl) (by kernel_rfl) ?_;simp only[Act.put,pa,pb,pc];refine jt (by kernel_rfl) (jd (qP HS.out.grp)) ?_;simp only[Act.put,pa,pb,pc];refine jt (v:=.pointer (some ⟨SB,0,none⟩)) (by kernel_rfl) (by kernel_rfl) ?_;simp only[Act.put,pa,pb,pc];refine jt (v:=.pointer (some ⟨SB,12,none⟩)) (by kernel_rfl) (by kernel_rfl) ?_;simp only[Act.put,pa,pb,pc];refine jt (by kernel_rfl) (jd (jZ HS.out.grp.2.2.2)) ?_;simp only[Act.put,pa,pb,pc]
   go_wp2_with fail
   refine(CH.out _).mono ?_;rintro _ w3 ⟨rfl,hb⟩;have HS:=jh (HS.out.later hb);have HB:=jw HB hb;clear hb
   cases kh
   ·skip
    have HR:=jh (show R=!ks.any (zR gp gq) by rw[HR.out];rfl)
    go_wp2_with fail
    go_loopw [5] (fun i wr=>∃k:Nat,k<=n/\i=.int .i64 k/\Hid ((ks.take k).any (zR gp gq)=false)/\Hid (TA wr SB gp gq gg gh fa se (.slice ao n cap))/\Hid (Below w.heap.size w wr)) (fun i _=>n-(intOf i).toNat)
    case atStart=>exact⟨0,Nat.zero_le _,rfl,jh rfl,HS,HB⟩
    case round=>
     clear HS HB;obtain⟨k,hk,rfl,HAN,HS,HB⟩:=hrel
     by_cases hlt:k<n
     ·obtain⟨KB,o,rfl,hks⟩:=HKH.out (by omega);obtain⟨⟨x,y⟩,hki⟩:∃p,ks[k]?=some p:=⟨_,Jd (by rw[<-HN.out];exact hlt)⟩;have hxy:=HX.out (x,y) (List.mem_of_getElem? hki);have h1:=jh (show Z4 wr KB (o+k*8) x from fun j hj=>jj ((hks k _ hki).1 j hj) HB.out);have h2:=jh (show Z4 wr KB (o+k*8+4) y from fun j hj=>by rw[Nat.add_assoc];exact jj ((hks k _ hki).2 j hj) HB.out);have HTK:=jh (show(ks.take (k+1)).any (zR gp gq)=(zw gp gq x||zw gp gq y) by rw[List.take_add_one,hki,List.any_append,HAN.out];simp[zR]);have HAL:=jh (fun(h:(zw gp gq x||zw gp gq y)=true)=>show ks.any (zR gp gq)=true from List.any_eq_true.2 ⟨_,List.mem_of_getElem? hki,h⟩);obtain⟨kx,hkx⟩:=je (zw gp gq x);obtain⟨ky,hky⟩:=je (zw gp gq y);have C1:=jh (CK.out x hxy.1);have C2:=jh (CK.out y hxy.2);rw[<-hkx] at C1 HTK HAL;rw[<-hky] at C2 HTK HAL;have O6:(k:Int)<(n:Int):=by omega
      have G7:=jh hlt;clear hxy hki hks hkx hky hlt
      go_upto_region 12 with fail
      cases kx
      ·skip
       refine jJ (.take 0 (.take 1 (.take 2 (.take 3 (.take 4 (.take 5 (.take 6 (.take 7 (.step 8 (.take 9 (.take 10 (.take 11 (.take 12 (.take 13 (.take 14 (.take 15 (.take 16 (.take 17 (.take 18 (.step 19 (.take 20 (.take 21 .done)))))))))))))))))))))) (fun w8=>TA w8 SB gp gq gg gh fa se (.slice (some ⟨KB,o,none⟩) n cap)/\Z4 w8 KB (o+k*8) x/\Z4 w8 KB (o+k*8+4) y) (by kernel_rfl) (by kernel_rfl) (fun _ _ _ _ _ h=>h) (⟨HS.out.later (U3.drew),Z4.later (U3.drew) h1.out,Z4.later (U3.drew) h2.out⟩) (fun hHeld=>?_);obtain⟨x1,e1⟩:=je (wr.drew);rw[<-e1];have hb:Below wr.heap.size wr x1:=by rw[e1];exact U3.drew
       have HS:=jh (HS.out.later hb);have HB:=jw HB hb;have h1:=jh (h1.out.later hb);have h2:=jh (h2.out.later hb);clear hb e1;refine jz ?_;refine WT.take rfl (Or.inl ⟨by rfl,fun w8 hSw=>jd (qP hSw.1.grp)⟩) ?_
       try simp only[Act.put,pa,pb,pc]
       refine jz ?_;refine jH (.slice (some ⟨KB,o,none⟩) n cap) rfl (fun w8 hSw=>jd (Qq hSw.1.nd)) ?_;refine jz ?_;refine jH (jP KB (o+k*8)) rfl (fun w8 hSw=>by simp[go_sem,O6]) ?_;refine jH (jP KB (o+k*8)) rfl (fun w8 hSw=>by simp[go_sem]) ?_;refine WT.take rfl (Or.inl ⟨by rfl,fun w8 hSw=>jd (jZ hSw.2.1)⟩) ?_
       try simp only[Act.put,pa,pb,pc]
       refine WT.step rfl (fun K hK=>?_)
       go_simp
       refine(C1.out _).mono ?_;rintro _ x2 ⟨rfl,hb⟩;have HS:=jh (HS.out.later hb);have HB:=jw HB hb;have h1:=jh (h1.out.later hb);have h2:=jh (h2.out.later hb);clear hb;refine qD hK (⟨HS.out,h1.out,h2.out⟩) (fun hHeld=>?_);clear hK K
       iterate 2
        refine jH (.bool false) rfl (fun w8 hSw=>by kernel_rfl) ?_
       refine jH (jP SB 0) rfl (fun w8 hSw=>by kernel_rfl) ?_;refine WT.take rfl (Or.inl ⟨by rfl,fun w8 hSw=>jd (qP hSw.1.grp)⟩) ?_
       try simp only[Act.put,pa,pb,pc]
       refine jH (jP SB 18) rfl (fun w8 hSw=>by kernel_rfl) ?_;refine jH (.slice (some ⟨KB,o,none⟩) n cap) rfl (fun w8 hSw=>jd (Qq hSw.1.nd)) ?_;refine jH (.int .i64 k) rfl (fun w8 hSw=>by kernel_rfl) ?_;refine jH (jP KB (o+k*8)) rfl (fun w8 hSw=>by simp[go_sem,O6]) ?_;refine jH (jP KB (o+k*8+4)) rfl (fun w8 hSw=>by simp[go_sem]) ?_;refine WT.take rfl (Or.inl ⟨by rfl,fun w8 hSw=>jd (jZ hSw.2.2)⟩) ?_
       try simp only[Act.put,pa,pb,pc]
       refine WT.step rfl (fun K hK=>?_)
       go_simp
       refine(C2.out _).mono ?_;rintro _ x3 ⟨rfl,hb⟩;have HS:=jh (HS.out.later hb);have HB:=jw HB hb;have h1:=jh (h1.out.later hb);have h2:=jh (h2.out.later hb);clear hb;refine qD hK (⟨HS.out,h1.out,h2.out⟩) (fun hHeld=>?_);clear hK K
       iterate 2
        refine jz ?_
       refine WT.done ?_;clear hHeld
       cases ky
       ·go_wp2_with fail
        go_roundw
        case rel=>exact⟨k+1,by have:=G7.out;omega,by go_num,jh (by rw[HTK.out];rfl),HS,HB⟩
        case measure=>(simp[intOf];have:=G7.out;omega)
       ·go_wp2_with fail
        go_ret
        exact⟨by rw[HR.out,HAL.out rfl];rfl,HB.out⟩
      ·skip
       refine jJ (.take 0 (.take 1 (.take 2 (.take 3 (.take 4 (.take 5 (.take 6 (.take 7 (.step 8 (.take 9 (.take 10 (.take 11 (.take 12 (.take 13 (.take 14 (.take 15 (.take 16 (.take 17 (.take 18 (.step 19 (.take 20 (.take 21 .done)))))))))))))))))))))) (fun w8=>TA w8 SB gp gq gg gh fa se (.slice (some ⟨KB,o,none⟩) n cap)/\Z4 w8 KB (o+k*8) x/\Z4 w8 KB (o+k*8+4) y) (by kernel_rfl) (by kernel_rfl) (fun _ _ _ _ _ h=>h) (⟨HS.out.later (U3.drew),Z4.later (U3.drew) h1.out,Z4.later (U3.drew) h2.out⟩) (fun hHeld=>?_);obtain⟨x1,e1⟩:=je (wr.drew);rw[<-e1];have hb:Below wr.heap.size wr x1:=by rw[e1];exact U3.drew
       have HS:=jh (HS.out.later hb);have HB:=jw HB hb;have h1:=jh (h1.out.later hb);have h2:=jh (h2.out.later hb);clear hb e1;refine jz ?_;refine WT.take rfl (Or.inl ⟨by rfl,fun w8 hSw=>jd (qP hSw.1.grp)⟩) ?_
       try simp only[Act.put,pa,pb,pc]
       refine jz ?_;refine jH (.slice (some ⟨KB,o,none⟩) n cap) rfl (fun w8 hSw=>jd (Qq hSw.1.nd)) ?_;refine jz ?_;refine jH (jP KB (o+k*8)) rfl (fun w8 hSw=>by simp[go_sem,O6]) ?_;refine jH (jP KB (o+k*8)) rfl (fun w8 hSw=>by simp[go_sem]) ?_;refine WT.take rfl (Or.inl ⟨by rfl,fun w8 hSw=>jd (jZ hSw.2.1)⟩) ?_
       try simp only[Act.put,pa,pb,pc]
       refine WT.step rfl (fun K hK=>?_)
       go_simp
       refine(C1.out _).mono ?_;rintro _ x2 ⟨rfl,hb⟩;have HS:=jh (HS.out.later hb);have HB:=jw HB hb;have h1:=jh (h1.out.later hb);have h2:=jh (h2.out.later hb);clear hb;refine qD hK (⟨HS.out,h1.out,h2.out⟩) (fun hHeld=>?_);clear hK K
       iterate 2
        refine jH (.bool true) rfl (fun w8 hSw=>by kernel_rfl) ?_
       iterate 8
        refine zzWTu ?_
       refine WT.step rfl (fun K hK=>?_);refine zp (by rfl) ?_;refine qD hK (hHeld) (fun hHeld=>?_);clear hK K;refine zzWTu ?_;refine jH (.bool true) rfl (fun w8 hSw=>by kernel_rfl) ?_;refine WT.done ?_;clear hHeld
       go_wp2_with fail
       go_ret
       exact⟨by rw[HR.out,HAL.out rfl];rfl,HB.out⟩
     ·have hkn:k=n:=by omega
      have HR:=jh (show R=true by rw[HR.out];have h9:=HAN.out;rw[List.take_of_length_le (by rw[<-HN.out];omega)] at h9;rw[h9];rfl);have O6:¬(k:Int)<(n:Int):=by omega
      clear hkn hlt
      go_wp2_with fail
      go_ret
      exact⟨by rw[HR.out];rfl,HB.out⟩
   ·skip
    go_wp2_with fail
    go_ret
    exact⟨by rw[HR.out];rfl,HB.out⟩
  ·skip
   go_wp2_with fail
   go_ret
   exact⟨by rw[HR.out];rfl,HB.out⟩
theorem RSubS_yes{gp gq gg gh a b:Nat}(ha:a<jk)(L6:b<jk)(hm:gq<jk)(hmay:(1<gq/\a<gq/\b<gq))(w:World):
  Calls prog 124 #[qj gp gq gg gh,ji a,ji b] w fun e w'=>e=.returned (.tuple #[ji ((a+gq-b)%gq),.int .i64 0])/\Below w.heap.size w w':=by
 obtain⟨q,hq⟩:=je ((a+gq-b)%gq);have CE:=jh (fun W=>by have h9:=RSubM_yes hm hmay W;rewrite[<-hq] at h9;unfold ji words at h9;exact h9);rw[<-hq];clear hq ha L6 hm hmay;unfold qj ji words
 go_enter func124,ntmps124
 go_wp2_with fail
 obtain⟨w0,GG,e0,s0,J8,g0,HB0⟩:=Qt w 26 gp gq gg gh;rw[e0,s0,J8];clear e0 s0 J8;obtain⟨wz,AA,BB,RR,e9,Y5,h_1,h_2,V3,X4,HRR,HF,B,I7,l_1,NC,xA,Z5,U2⟩:=ZY w0 24 a b;rw[e9,Y5,h_1,h_2];clear e9 Y5 h_1 h_2;have G0:=jh (J3.later B.out g0);clear g0;refine(CE.out _).mono ?_;rintro _ w1 ⟨rfl,hb⟩;have V3:=jn hb V3;have X4:=jn hb X4;have HRR:=jn hb HRR;have HF:=jh (HF.out.later hb (by omega));have G0:=jh (J3.later hb G0.out);have U2:=jv U2 hb.size;have B:=jw B hb;clear hb;obtain⟨c0,c1,c2,c3,f0,f1,f2,f3⟩:=jU HRR.out HF.out
 go_wp2_with fail
 obtain⟨N7,B9⟩:=zP HRR B Z5 q;obtain⟨g0,g1,g2,g3⟩:=jF N7.out;refine bodyPost_ret (v:=.tuple #[ji q,.int .i64 0]) ?_ rfl ⟨rfl,jm HB0.out B9.out⟩
 simp[results,results124,go_sem,ji,words,g0,g1,g2,g3]
theorem RKey_any{gp gq gg gh a:Nat}(ha:a<jk)(hq:gq<jk)(hm:gp<jk)(w:World):
  Calls prog 121 #[qj gp gq gg gh,ji a] w fun e w'=>e=.returned (.bool (!zw gp gq a))/\Below w.heap.size w w':=by
 obtain⟨i9,hi9⟩:=je (decide (YH gp gq a));obtain⟨e,he⟩:=je (decide (a=1));have hv:(!zw gp gq a)=(i9&&!e):=by unfold zw;rw[<-hi9,<-he,Bool.not_or,Bool.not_not]
 rw[hv];have CI:=jh (fun(W:World)=>by have h9:=YW (gp:=gp) (gg:=gg) (gh:=gh) ha hq hm W;rewrite[<-hi9] at h9;unfold qj ji words at h9;exact h9);have heq:∀W:World,(binOp .neq 24 (.agg #[.int .u64 (jg jf a 0),.int .u64 (jg jf a 1),.int .u64 (jg jf a 2),.int .u64 (jg jf a 3)]) (.agg #[.int .u64 1,.int .u64 0,.int .u64 0,.int .u64 0])).run prog W=.ok (.bool (!e)) W:=fun W=>by have h8:=Zm a 1 ha (by decide) W;rewrite[<-he] at h8;have z0:((jg jf 1 0:Nat):Int)=1:=(by decide);have z1:((jg jf 1 1:Nat):Int)=0:=(by decide);have z2:((jg jf 1 2:Nat):Int)=0:=(by decide);have z3:((jg jf 1 3:Nat):Int)=0:=(by decide);rewrite[z0,z1,z2,z3] at h8;exact h8
 have HEQ:=jh heq;clear heq hi9 he hv ha hq hm;unfold qj ji words
 go_enter func121,ntmps121
 go_wp2_with fail
 obtain⟨w0,GG,e0,s0,J8,g0,HB0⟩:=Qt w 26 gp gq gg gh;rw[e0,s0,J8];clear e0 s0 J8;obtain⟨wz,AA,e9,Y5,V3,B,I7,xA,sH,U2⟩:=box1 w0 24 a;rw[e9,Y5];clear e9 Y5;have G0:=jh (J3.later B.out g0);clear g0;refine(CI.out _).mono ?_;rintro _ w1 ⟨rfl,hb⟩;have V3:=jn hb V3;have G0:=jh (J3.later hb G0.out);have U2:=jv U2 hb.size;have B:=jw B hb;clear hb
 cases i9
 ·skip
  skip
  go_wp2_with fail
  refine bodyPost_ret (v:=.bool false) ?_ rfl ⟨rfl,jm HB0.out B.out⟩
  simp[results,results121,go_sem]
 ·skip
  obtain⟨X3,U4,J4,I4⟩:=jF V3.out;have heq:=HEQ.out
  cases e
  ·simp only[Bool.not_true,Bool.not_false] at heq
   go_wp2_with fail
   refine bodyPost_ret (v:=.bool true) ?_ rfl ⟨rfl,jm HB0.out B.out⟩
   simp[results,results121,go_sem]
  ·simp only[Bool.not_true,Bool.not_false] at heq
   go_wp2_with fail
   refine bodyPost_ret (v:=.bool false) ?_ rfl ⟨rfl,jm HB0.out B.out⟩
   simp[results,results121,go_sem]
end Go.Proofs.YtpkalgofejjggaaGreatDoor
