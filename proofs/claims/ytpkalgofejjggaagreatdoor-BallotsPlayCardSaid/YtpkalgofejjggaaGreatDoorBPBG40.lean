/- Layer 4's reference -/
import Derived.Test.YtpkalgofejjggaaGreatDoorBPBG26
import Derived.Test.YtpkalgofejjggaaGreatDoorBPBG39
set_option linter.unusedSimpArgs false
set_option linter.unusedVariables false
set_option maxHeartbeats 4000000
set_option maxRecDepth 100000
namespace Go.Proofs.YtpkalgofejjggaaGreatDoor
open Go.ChangeShapes Go.WideShapes Go.ChangeAt Go.RowKit Go.Proofs.Tryz
theorem QG{m:Nat}(hm:m<jk)(w:World):
  Calls prog 238 #[ji m] w fun e w'=>e=.returned (.bool (decide (m<jf)))/\Below w.heap.size w w':=by
 obtain⟨b,hb⟩:∃b:Bool,b=decide (m<jf):=⟨_,rfl⟩;rw[<-hb];have hi:b=true↔jg jf m 1=0/\jg jf m 2=0/\jg jf m 3=0:=by rw[hb,decide_eq_true_iff];exact word_iff hm
 clear hb hm;unfold ji words
 generalize jg jf m 1=d1 at*
 generalize jg jf m 2=d2 at*
 generalize jg jf m 3=d3 at*
 generalize jg jf m 0=d0 at*
 have h3:(d1=0/\d2=0/\d3=0/\b=true)∨(¬d1=0/\b=false)∨(d1=0/\¬d2=0/\b=false)∨(d1=0/\d2=0/\¬d3=0/\b=false):=by
  cases b<;>simp at hi⊢<;>omega
 clear hi
 rcases h3 with⟨rfl,rfl,rfl,rfl⟩|⟨h1,rfl⟩|⟨rfl,h2,rfl⟩|⟨rfl,rfl,h3,rfl⟩
 ·skip
  go_enter func238,ntmps238
  go_wp2_with fail
  refine bodyPost_ret (v:=.bool true) ?_ rfl ⟨rfl,ja⟩
  simp[results,results238,go_sem]
 ·skip
  have h1:¬(d1:Int)=0:=by omega
  go_enter func238,ntmps238
  go_wp2_with fail
  refine bodyPost_ret (v:=.bool false) ?_ rfl ⟨rfl,ja⟩
  simp[results,results238,go_sem]
 ·skip
  have h2:¬(d2:Int)=0:=by omega
  go_enter func238,ntmps238
  go_wp2_with fail
  refine bodyPost_ret (v:=.bool false) ?_ rfl ⟨rfl,ja⟩
  simp[results,results238,go_sem]
 ·skip
  have h3:¬(d3:Int)=0:=by omega
  go_enter func238,ntmps238
  go_wp2_with fail
  refine bodyPost_ret (v:=.bool false) ?_ rfl ⟨rfl,ja⟩
  simp[results,results238,go_sem]
  omega
theorem xN{r b m:Nat}(hr:r<m)(L6:b<=1)(hm:m<jk)(w:World):
  Calls prog 273 #[ji r,.int .u64 b,ji m] w fun e w'=>e=.returned (ji ((2*r+b)%m))/\Below w.heap.size w w':=by
 obtain⟨q,hq⟩:=je ((2*r+b)%m);rw[<-hq];obtain⟨x,hx⟩:=je (zG r r);obtain⟨y,hy⟩:=je (x+b);obtain⟨c,hc⟩:=je (zt r r);have hrM:=Nat.lt_trans hr hm;have hev:x%2=0:=by rw[hx];exact mJ hr hm
 have hyM:y<jk:=by rw[hy,hx];exact fQ hr hm L6
 have hc2:c=0∨c=1:=by rw[hc];exact addNC_bit hr hm
 have CA:=jh (fun W=>by have h9:=iU hrM hrM W;rewrite[<-hx,<-hc] at h9;unfold ji words at h9;rewrite[aN (j:=1) hev L6 (by omega),aN (j:=2) hev L6 (by omega),aN (j:=3) hev L6 (by omega),<-hy] at h9;exact h9);have hx0:IntKind.u64.wrap (((jg jf x 0:Nat):Int)+(b:Int))=((jg jf y 0:Nat):Int):=by rw[hy];exact dgt0_even hev L6
 obtain⟨x0,iC⟩:=je (jg jf x 0);rw[<-iC] at CA hx0
 have h3:(c=1/\Jk y m=q)∨(c=0/\m<=y/\Jk y m=q)∨(c=0/\y<m/\y=q):=by
  rcases hc2 with h|h
  ·rcases Nat.lt_or_ge y m with h2|h2
   ·exact .inr (.inr ⟨h,h2,by rw[hq,hy,hx];exact twice_not hr hm L6 (by rw[<-hc];exact h) (by rw[<-hx,<-hy];exact h2)⟩)
   ·exact .inr (.inl ⟨h,h2,by rw[hq,hy,hx];exact iP hr hm L6 (.inr (by rw[<-hx,<-hy];exact h2))⟩)
  ·exact .inl ⟨h,by rw[hq,hy,hx];exact iP hr hm L6 (.inl (by rw[<-hc];exact h))⟩
 have CS:=jh (fun W=>yT hyM hm W);have CC:=jh (fun W=>ZU hyM hm W);clear hq hx hy hc hr L6 hm hrM hev hyM hc2 iC;unfold ji words at CS CC;unfold ji words
 go_enter func273,ntmps273
 go_wp2_with fail
 obtain⟨wz,RB,MB,RR,e9,Y5,h_1,h_2,mD,O7,HRR,HF,B,I7,l_1,NC,xA,Z5,U2⟩:=ZY w 24 r m;rw[e9,Y5,h_1,h_2];clear e9 Y5 h_1 h_2;refine(CA.out _).mono ?_;rintro _ w1 ⟨rfl,hb⟩;have mD:=jn hb mD;have O7:=jn hb O7;have HRR:=jn hb HRR;have HF:=jh (HF.out.later hb (by omega));have U2:=jv U2 hb.size;have B:=jw B hb;clear hb
 go_upto_region 3 with fail
 clear hx0;obtain⟨w2,YB,e9,h9,hb⟩:=qJ w1 (.cells (jD y) 24);have n9:=jh (show U0 w2 YB y by rw[e9,h9];exact U0.new _ _ _ _ rfl);have f9:=jh (show Y0 w2 YB 4 by rw[e9,h9];exact Y0.made _ _ _ _ _ rfl);have l_YB:RR<YB:=by omega
 have h8:YB<w2.heap.size:=by rw[e9,h9];simp
 rw[<-e9,<-h9];clear e9 h9;have mD:=jn hb mD;have O7:=jn hb O7;have HRR:=jn hb HRR;have HF:=jh (HF.out.later hb (by omega));have U2:=jv U2 hb.size;have B:=jw B hb;clear hb;have KC:=n9;have bD:=f9;have U2:=h8;clear n9 f9 h8;have hwYB:w.heap.size<=YB:=by omega
 rcases h3 with⟨rfl,hs⟩|⟨rfl,hge,hs⟩|⟨rfl,hlt,hs⟩
 ·skip
  obtain⟨z,hz⟩:=je (zq y m);rw[hs,<-hz] at CS;clear hs hz;obtain⟨yB,xB,dB,aB⟩:=jF KC.out;obtain⟨G8,P8,O8,N8⟩:=jF O7.out
  go_wp2_with fail
  clear yB xB dB aB G8 P8 O8 N8;refine(CS.out _).mono ?_;rintro _ w4 ⟨rfl,hb⟩;have mD:=jn hb mD;have O7:=jn hb O7;have HRR:=jn hb HRR;have KC:=jn hb KC;have HF:=jh (HF.out.later hb (by omega));have bD:=jh (bD.out.later hb (by omega));have U2:=jv U2 hb.size;have B:=jw B hb;clear hb;obtain⟨y0,y1,y2,y3,y4,y5,y6,y7⟩:=jU KC.out bD.out
  go_upto_region 5 with fail
  clear y0 y1 y2 y3 y4 y5 y6 y7;obtain⟨w5,e9⟩:=je (((((w4.setCell ⟨YB,0,none⟩ (.int .u64 (jg jf q 0))).setCell ⟨YB,1,none⟩ (.int .u64 (jg jf q 1))).setCell ⟨YB,2,none⟩ (.int .u64 (jg jf q 2))).setCell ⟨YB,3,none⟩ (.int .u64 (jg jf q 3))));rw[<-e9];have mD:=jh (show U0 w5 RB r by rw[e9];exact U0.other4 mD.out (by omega) _ _ _ _);have O7:=jh (show U0 w5 MB m by rw[e9];exact U0.other4 O7.out (by omega) _ _ _ _);have HRR:=jh (show U0 w5 RR 0 by rw[e9];exact U0.other4 HRR.out (by omega) _ _ _ _);have KC:=jh (show U0 w5 YB q by rw[e9];exact U0.set4 KC.out _);have HF:=jh (show Y0 w5 RR 4 by rw[e9];exact Y0.set4 HF.out _ _ _ _ _ _ _ _);have bD:=jh (show Y0 w5 YB 4 by rw[e9];exact Y0.set4 bD.out _ _ _ _ _ _ _ _);have B:=jh (show Below w.heap.size w w5 by rw[e9];exact jO B.out hwYB _ _ _ _);have U2:YB<w5.heap.size:=by rw[e9];simpa using U2
  clear e9;obtain⟨yB,xB,dB,aB⟩:=jF KC.out;obtain⟨c0,c1,c2,c3,f0,f1,f2,f3⟩:=jU HRR.out HF.out
  go_wp2_with fail
  obtain⟨N7,B9⟩:=zP HRR B Z5 q;obtain⟨g0,g1,g2,g3⟩:=jF N7.out;refine bodyPost_ret (v:=ji q) ?_ rfl ⟨rfl,B9.out⟩
  simp[results,results273,go_sem,ji,words,g0,g1,g2,g3]
 ·skip
  obtain⟨z,hz⟩:=je (zq y m);rw[hs,<-hz] at CS;clear hs hz;obtain⟨k,hk⟩:=je (zk y m);rw[<-hk] at CC;have hk0:0<=k:=by rw[hk];exact iT hge
  clear hk;obtain⟨yB,xB,dB,aB⟩:=jF KC.out;obtain⟨G8,P8,O8,N8⟩:=jF O7.out
  go_wp2_with fail
  clear yB xB dB aB G8 P8 O8 N8;refine(CC.out _).mono ?_;rintro _ w3 ⟨rfl,hb⟩;have mD:=jn hb mD;have O7:=jn hb O7;have HRR:=jn hb HRR;have KC:=jn hb KC;have HF:=jh (HF.out.later hb (by omega));have bD:=jh (bD.out.later hb (by omega));have U2:=jv U2 hb.size;have B:=jw B hb;clear hb;obtain⟨yB,xB,dB,aB⟩:=jF KC.out;obtain⟨G8,P8,O8,N8⟩:=jF O7.out
  go_wp2_with fail
  clear yB xB dB aB G8 P8 O8 N8;refine(CS.out _).mono ?_;rintro _ w4 ⟨rfl,hb⟩;have mD:=jn hb mD;have O7:=jn hb O7;have HRR:=jn hb HRR;have KC:=jn hb KC;have HF:=jh (HF.out.later hb (by omega));have bD:=jh (bD.out.later hb (by omega));have U2:=jv U2 hb.size;have B:=jw B hb;clear hb;obtain⟨y0,y1,y2,y3,y4,y5,y6,y7⟩:=jU KC.out bD.out
  go_upto_region 5 with fail
  clear y0 y1 y2 y3 y4 y5 y6 y7;obtain⟨w5,e9⟩:=je (((((w4.setCell ⟨YB,0,none⟩ (.int .u64 (jg jf q 0))).setCell ⟨YB,1,none⟩ (.int .u64 (jg jf q 1))).setCell ⟨YB,2,none⟩ (.int .u64 (jg jf q 2))).setCell ⟨YB,3,none⟩ (.int .u64 (jg jf q 3))));rw[<-e9];have mD:=jh (show U0 w5 RB r by rw[e9];exact U0.other4 mD.out (by omega) _ _ _ _);have O7:=jh (show U0 w5 MB m by rw[e9];exact U0.other4 O7.out (by omega) _ _ _ _);have HRR:=jh (show U0 w5 RR 0 by rw[e9];exact U0.other4 HRR.out (by omega) _ _ _ _);have KC:=jh (show U0 w5 YB q by rw[e9];exact U0.set4 KC.out _);have HF:=jh (show Y0 w5 RR 4 by rw[e9];exact Y0.set4 HF.out _ _ _ _ _ _ _ _);have bD:=jh (show Y0 w5 YB 4 by rw[e9];exact Y0.set4 bD.out _ _ _ _ _ _ _ _);have B:=jh (show Below w.heap.size w w5 by rw[e9];exact jO B.out hwYB _ _ _ _);have U2:YB<w5.heap.size:=by rw[e9];simpa using U2
  clear e9;obtain⟨yB,xB,dB,aB⟩:=jF KC.out;obtain⟨c0,c1,c2,c3,f0,f1,f2,f3⟩:=jU HRR.out HF.out
  go_wp2_with fail
  obtain⟨N7,B9⟩:=zP HRR B Z5 q;obtain⟨g0,g1,g2,g3⟩:=jF N7.out;refine bodyPost_ret (v:=ji q) ?_ rfl ⟨rfl,B9.out⟩
  simp[results,results273,go_sem,ji,words,g0,g1,g2,g3]
 ·skip
  have oU:=jh hs;clear hs;obtain⟨k,hk⟩:=je (zk y m);rw[<-hk] at CC;have hk0:k<0:=by rw[hk];rw[Qj hlt];decide
  clear hk;obtain⟨yB,xB,dB,aB⟩:=jF KC.out;obtain⟨G8,P8,O8,N8⟩:=jF O7.out
  go_wp2_with fail
  clear yB xB dB aB G8 P8 O8 N8;refine(CC.out _).mono ?_;rintro _ w3 ⟨rfl,hb⟩;have mD:=jn hb mD;have O7:=jn hb O7;have HRR:=jn hb HRR;have KC:=jn hb KC;have HF:=jh (HF.out.later hb (by omega));have bD:=jh (bD.out.later hb (by omega));have U2:=jv U2 hb.size;have B:=jw B hb;clear hb
  go_upto_region 5 with fail
  rw[oU.out] at KC;obtain⟨yB,xB,dB,aB⟩:=jF KC.out;obtain⟨c0,c1,c2,c3,f0,f1,f2,f3⟩:=jU HRR.out HF.out
  go_wp2_with fail
  obtain⟨N7,B9⟩:=zP HRR B Z5 q;obtain⟨g0,g1,g2,g3⟩:=jF N7.out;refine bodyPost_ret (v:=ji q) ?_ rfl ⟨rfl,B9.out⟩
  simp[results,results273,go_sem,ji,words,g0,g1,g2,g3]
theorem AZ{lo hi m:Nat}(hlo:lo<jk)(hhi:hi<jk)(hm:m<jk)(h0:0<m)(aC:m<jf)(w:World):
  Calls prog 246 #[ji lo,ji hi,ji m] w fun e w'=>e=.returned (.tuple #[ji ((hi*jk+lo)%m),.int .i64 0])/\Below w.heap.size w w':=by
 obtain⟨x,hx⟩:=je (hi*jk+lo);obtain⟨q,hq⟩:=je (x%m);rw[<-hx,<-hq];have heq:∀W:World,(binOp .eql 24 (.agg #[.int .u64 (jg jf m 0),.int .u64 (jg jf m 1),.int .u64 (jg jf m 2),.int .u64 (jg jf m 3)]) (.agg #[.int .u64 0,.int .u64 0,.int .u64 0,.int .u64 0])).run prog W=.ok (.bool false) W:=fun W=>by have h9:=qX m 0 hm (by decide) W;rewrite[decide_eq_false (by omega)] at h9;simp only[jN] at h9;exact h9
 have CW:=jh (fun W=>by have h9:=QG hm W;rewrite[decide_eq_true aC] at h9;unfold ji words at h9;exact h9);have H8:=jh (show x/jf^8%m=0 by rw[hx];exact wide_top8 hlo hhi);have HL:=jh (fun j (hj:j<4)=>show jg jf lo j=x/jf^j%jf by rw[hx];exact(vW hj).symm);have HH:=jh (fun j (hj:j<4)=>show jg jf hi j=x/jf^(j+4)%jf by rw[hx];exact(bT hlo).symm);have hqW:q<jf:=by rw[hq];exact Nat.lt_trans (Nat.mod_lt _ h0) aC
 have CO:=jh (fun W=>by have h9:=NT q hqW W;unfold ji words at h9;exact h9);have DM:=jh (qY aC).1;have HQ:=jh hq;have pU:=jh h0;have HW9:=jh aC;have YN:=jh hm;clear hx hq hlo hhi hm h0 aC hqW;unfold ji words
 go_enter func246,ntmps246
 go_wp2_with fail
 obtain⟨wz,LB,HB,MB,RR,e9,Y5,h_1,h_2,h_3,yC,MC,O7,HRR,HF,B,I7,l_1,NC,BI,xA,Z5,U2⟩:=zT w 24 lo hi m;rw[e9,Y5,h_1,h_2,h_3];clear e9 Y5 h_1 h_2 h_3;clear heq;refine(CW.out _).mono ?_;rintro _ w1 ⟨rfl,hb⟩;have yC:=jn hb yC;have MC:=jn hb MC;have O7:=jn hb O7;have HRR:=jn hb HRR;have HF:=jh (HF.out.later hb (by omega));have U2:=jv U2 hb.size;have B:=jw B hb;clear hb
 go_wp2_with fail
 go_loopw [8,9] (fun rv i wr=>∃(z:Int) (n r:Nat),Hid (z=(n:Int)-1)/\n<=8/\rv=.int .u64 r/\i=.int .i64 z/\Hid (r=x/jf^n%m)/\Hid (U0 wr LB lo)/\Hid (U0 wr HB hi)/\Hid (U0 wr MB m)/\Hid (U0 wr RR 0)/\Hid (Y0 wr RR 4)/\Hid (Below w.heap.size w wr)/\RR<wr.heap.size) (fun _ i _=>(intOf i+1).toNat)
 case atStart=>exact⟨7,8,0,jh rfl,Nat.le_refl _,rfl,rfl,jh H8.out.symm,yC,MC,O7,HRR,HF,B,U2⟩
 case round=>
  clear yC MC O7 HRR HF B U2;obtain⟨z,n,r,hz,hn8,rfl,rfl,hr,yC,MC,O7,HRR,HF,B,U2⟩:=hrel
  by_cases hlt:0<=z
  ·obtain⟨j,rfl⟩:∃j:Nat,z=(j:Int):=⟨z.toNat,by omega⟩;have hnj:n=j+1:=by have:=hz.out;omega
   rw[hnj] at hr hn8;clear hz hnj;obtain⟨d,hd⟩:=je (x/jf^j%jf);have hdW:d<jf:=by rw[hd];exact Nat.mod_lt _ zJ
   have hrm:r<m:=by rw[hr.out];exact Nat.mod_lt _ pU.out
   obtain⟨r2,hr2⟩:=je ((r*jf+d)%m);obtain⟨q2,hq2⟩:=je ((r*jf+d)/m);have CD:=jh (fun W=>by have h9:=Zz r d m hdW HW9.out hrm W;rewrite[<-hr2,<-hq2] at h9;exact h9);have HR2:=jh (show r2=x/jf^j%m by rw[hr2,hr.out,hd];exact wtop_mod x m j);clear hr2 hq2 hdW hrm
   by_cases h4:j<4
   ·skip
    have r_l:=yC.out j h4;rw[HL.out j h4,<-hd] at r_l;have h4I:¬(4:Int)<=(j:Int):=by omega
    have hmod:(j:Int).tmod 4=(j:Int):=by rw[Int.tmod_eq_emod_of_nonneg (by omega)];omega
    have hmod2:(j:Int)%4=(j:Int):=by omega
    clear hd;obtain⟨G8,P8,O8,N8⟩:=jF O7.out;rw[DM.out] at G8
    go_wp2_with fail
    clear G8 P8 O8 N8;clear r_l hmod hmod2;refine(CD.out _).mono ?_;rintro _ w3 ⟨rfl,hb⟩;have yC:=jn hb yC;have MC:=jn hb MC;have O7:=jn hb O7;have HRR:=jn hb HRR;have HF:=jh (HF.out.later hb (by omega));have U2:=jv U2 hb.size;have B:=jw B hb;clear hb
    go_wp2_with fail
    go_roundw
    case rel=>exact⟨(j:Int)-1,j,r2,jh rfl,by omega,rfl,by go_num,HR2,yC,MC,O7,HRR,HF,B,U2⟩
    case measure=>(simp[intOf]<;>omega)
   ·skip
    obtain⟨p,hp⟩:=je (j-4);have hp4:p<4:=by omega
    have r_l:=MC.out p hp4;rw[HH.out p hp4,show p+4=j by omega,<-hd] at r_l;have h4I:(4:Int)<=(j:Int):=by omega
    have eI:(j:Int)-4=(p:Int):=by omega
    obtain⟨p9,hp9⟩:=je (j%4);have hp5:p9<4:=by omega
    have hmod:(j:Int).tmod 4=(p9:Int):=by rw[Int.tmod_eq_emod_of_nonneg (by omega)];omega
    have hmod2:(j:Int)%4=(p9:Int):=by omega
    have r_k:=yC.out p9 hp5;clear hp hp9;clear hd;obtain⟨G8,P8,O8,N8⟩:=jF O7.out;rw[DM.out] at G8
    go_wp2_with fail
    clear G8 P8 O8 N8;clear r_l hmod hmod2 eI r_k;refine(CD.out _).mono ?_;rintro _ w3 ⟨rfl,hb⟩;have yC:=jn hb yC;have MC:=jn hb MC;have O7:=jn hb O7;have HRR:=jn hb HRR;have HF:=jh (HF.out.later hb (by omega));have U2:=jv U2 hb.size;have B:=jw B hb;clear hb
    go_wp2_with fail
    go_roundw
    case rel=>exact⟨(j:Int)-1,j,r2,jh rfl,by omega,rfl,by go_num,HR2,yC,MC,O7,HRR,HF,B,U2⟩
    case measure=>(simp[intOf]<;>omega)
  ·have hn0:n=0:=by have:=hz.out;omega
   have hrq:r=q:=by have:=hr.out;rw[hn0,Nat.pow_zero,Nat.div_one] at this;rw[this,HQ.out]
   rw[hrq];clear hz hr hn0 hrq
   go_wp2_with fail
   refine(CO.out _).mono ?_;rintro _ w4 ⟨rfl,hb⟩;have yC:=jn hb yC;have MC:=jn hb MC;have O7:=jn hb O7;have HRR:=jn hb HRR;have HF:=jh (HF.out.later hb (by omega));have U2:=jv U2 hb.size;have B:=jw B hb;clear hb;obtain⟨c0,c1,c2,c3,f0,f1,f2,f3⟩:=jU HRR.out HF.out
   go_wp2_with fail
   obtain⟨N7,B9⟩:=zP HRR B Z5 q;obtain⟨g0,g1,g2,g3⟩:=jF N7.out;refine bodyPost_ret (v:=.tuple #[ji q,.int .i64 0]) ?_ rfl ⟨rfl,B9.out⟩
   simp[results,results246,go_sem,ji,words,g0,g1,g2,g3]
theorem CZ{lo hi m:Nat}(hlo:lo<jk)(hhi:hi<jk)(hm:m<jk)(h0:0<m)(aC:¬m<jf)(w:World):
  Calls prog 246 #[ji lo,ji hi,ji m] w fun e w'=>e=.returned (.tuple #[ji ((hi*jk+lo)%m),.int .i64 0])/\Below w.heap.size w w':=by
 obtain⟨x,hx⟩:=je (hi*jk+lo);obtain⟨q,hq⟩:=je (x%m);rw[<-hx,<-hq];have heq:∀W:World,(binOp .eql 24 (.agg #[.int .u64 (jg jf m 0),.int .u64 (jg jf m 1),.int .u64 (jg jf m 2),.int .u64 (jg jf m 3)]) (.agg #[.int .u64 0,.int .u64 0,.int .u64 0,.int .u64 0])).run prog W=.ok (.bool false) W:=fun W=>by have h9:=qX m 0 hm (by decide) W;rewrite[decide_eq_false (by omega)] at h9;simp only[jN] at h9;exact h9
 have CW:=jh (fun W=>by have h9:=QG hm W;rewrite[decide_eq_false aC] at h9;unfold ji words at h9;exact h9);have H8:=jh (show vK x m (256+256)=0 by rw[hx];exact topB_all hlo hhi);have HL:=jh (fun j (hj:j<256)=>show lo/2^j%2=x/2^j%2 by rw[hx];exact(MW hj).symm);have HH:=jh (fun j=>show hi/2^j%2=x/2^(j+256)%2 by rw[hx];exact(nT hlo).symm);have HQ:=jh hq;have pU:=jh h0;have HW9:=jh aC;have YN:=jh hm;clear hx hq hlo hhi hm h0 aC;unfold ji words
 go_enter func246,ntmps246
 go_wp2_with fail
 obtain⟨wz,LB,HB,MB,RR,e9,Y5,h_1,h_2,h_3,yC,MC,O7,HRR,HF,B,I7,l_1,NC,BI,xA,Z5,U2⟩:=zT w 24 lo hi m;rw[e9,Y5,h_1,h_2,h_3];clear e9 Y5 h_1 h_2 h_3;clear heq;refine(CW.out _).mono ?_;rintro _ w1 ⟨rfl,hb⟩;have yC:=jn hb yC;have MC:=jn hb MC;have O7:=jn hb O7;have HRR:=jn hb HRR;have HF:=jh (HF.out.later hb (by omega));have U2:=jv U2 hb.size;have B:=jw B hb;clear hb
 go_upto_region 14 with fail
 obtain⟨w2,BB,e9,h9,hb⟩:=qJ w1 (.cells jA 24);have n9:=jh (show U0 w2 BB 0 by rw[e9,h9];exact qV _ _);have f9:=jh (show Y0 w2 BB 4 by rw[e9,h9];exact Y0.made _ _ _ _ _ rfl);have l_BB:RR<BB:=by omega
 have h8:BB<w2.heap.size:=by rw[e9,h9];simp
 rw[<-e9,<-h9];clear e9 h9;have yC:=jn hb yC;have MC:=jn hb MC;have O7:=jn hb O7;have HRR:=jn hb HRR;have HF:=jh (HF.out.later hb (by omega));have U2:=jv U2 hb.size;have B:=jw B hb;clear hb;have X4:=n9;have kD:=f9;have U2:=h8;clear n9 f9 h8;have hwBB:w.heap.size<=BB:=by omega
 have h09:=jh (show 0=vK x m (256+256) from H8.out.symm)
 go_wp2_with fail
 go_loopw [12] (fun i wr=>∃(z:Int) (n r:Nat),Hid (z=(n:Int)-1)/\n<=256/\i=.int .i64 z/\Hid (r=vK x m (n+256))/\Hid (U0 wr LB lo)/\Hid (U0 wr HB hi)/\Hid (U0 wr MB m)/\Hid (U0 wr RR 0)/\Hid (U0 wr BB r)/\Hid (Y0 wr RR 4)/\Hid (Y0 wr BB 4)/\Hid (Below w.heap.size w wr)/\BB<wr.heap.size) (fun i _=>(intOf i+1).toNat)
 case atStart=>exact⟨255,256,0,jh rfl,Nat.le_refl _,rfl,h09,yC,MC,O7,HRR,X4,HF,kD,B,U2⟩
 case round=>
  clear yC MC O7 HRR X4 HF kD B U2 h09;obtain⟨z,n,r,hz,hn8,rfl,HR,yC,MC,O7,HRR,X4,HF,kD,B,U2⟩:=hrel
  by_cases hlt:0<=z
  ·obtain⟨j,rfl⟩:∃j:Nat,z=(j:Int):=⟨z.toNat,by omega⟩;have hnj:n=j+1:=by have:=hz.out;omega
   rw[hnj] at HR hn8;clear hz hnj;have hj:j<256:=by omega
   obtain⟨b,hb⟩:=je (x/2^(j+256)%2);have hb1:b<=1:=by omega
   have hrm:r<m:=by rw[HR.out];exact topB_lt pU.out
   have CB:=jh (fun W=>by have h9:=oK hi (j:Int) W (by omega) (by omega);rewrite[GH hj,HH.out j,<-hb] at h9;unfold ji words at h9;exact h9);obtain⟨r2,hr2⟩:=je ((2*r+b)%m);have CT:=jh (fun W=>by have h9:=xN hrm hb1 YN.out W;rewrite[<-hr2] at h9;unfold ji words at h9;exact h9);have HR2:=jh (show r2=x/2^(j+256)%m by rw[hr2,HR.out,hb];rw[show j+1+256=j+256+1 by omega];exact top_mod x m _);clear hb hr2 hb1 hrm HR
   go_upto_region 17 with fail
   refine zM 6 (fun F O9 hcl hbl=>?_);obtain⟨X5,H6,G6,F6⟩:=qF hbl X4;obtain⟨r_HB_0,r_HB_1,r_HB_2,r_HB_3⟩:=qF hbl MC;obtain⟨G8,P8,O8,N8⟩:=qF hbl O7;have I5:=jh hcl;clear hcl hbl;refine zL 6 ?_;simp only[zo,zn,zm,zl,Nat.reduceAdd]
   repeat (go_big_quiet_step ((first|(go_at_call 242;with_reducible exact jp I5.out (CB.out _))|(go_at_call 273;with_reducible exact jp I5.out (CT.out _)))))
   refine wpQuiet_nil ?_;refine jS ?_;intro bs w5 hb _ _;clear X5 H6 G6 F6 r_HB_0 r_HB_1 r_HB_2 r_HB_3 G8 P8 O8 N8;have yC:=jn hb yC;have MC:=jn hb MC;have O7:=jn hb O7;have HRR:=jn hb HRR;have X4:=jn hb X4;have HF:=jh (HF.out.later hb (by omega));have kD:=jh (kD.out.later hb (by omega));have U2:=jv U2 hb.size;have B:=jw B hb;clear hb;simp only[over];obtain⟨y0,y1,y2,y3,y4,y5,y6,y7⟩:=jU X4.out kD.out
   go_upto_region 16 with fail
   clear y0 y1 y2 y3 y4 y5 y6 y7;obtain⟨w6,e9⟩:=je (((((w5.setCell ⟨BB,0,none⟩ (.int .u64 (jg jf r2 0))).setCell ⟨BB,1,none⟩ (.int .u64 (jg jf r2 1))).setCell ⟨BB,2,none⟩ (.int .u64 (jg jf r2 2))).setCell ⟨BB,3,none⟩ (.int .u64 (jg jf r2 3))));rw[<-e9];have yC:=jh (show U0 w6 LB lo by rw[e9];exact U0.other4 yC.out (by omega) _ _ _ _);have MC:=jh (show U0 w6 HB hi by rw[e9];exact U0.other4 MC.out (by omega) _ _ _ _);have O7:=jh (show U0 w6 MB m by rw[e9];exact U0.other4 O7.out (by omega) _ _ _ _);have HRR:=jh (show U0 w6 RR 0 by rw[e9];exact U0.other4 HRR.out (by omega) _ _ _ _);have X4:=jh (show U0 w6 BB r2 by rw[e9];exact U0.set4 X4.out _);have HF:=jh (show Y0 w6 RR 4 by rw[e9];exact Y0.set4 HF.out _ _ _ _ _ _ _ _);have kD:=jh (show Y0 w6 BB 4 by rw[e9];exact Y0.set4 kD.out _ _ _ _ _ _ _ _);have B:=jh (show Below w.heap.size w w6 by rw[e9];exact jO B.out hwBB _ _ _ _);have U2:BB<w6.heap.size:=by rw[e9];simpa using U2
   clear e9
   go_wp2_with fail
   go_roundw
   case rel=>exact⟨(j:Int)-1,j,r2,jh rfl,by omega,by go_num,HR2,yC,MC,O7,HRR,X4,HF,kD,B,U2⟩
   case measure=>(simp[intOf]<;>omega)
  ·have hn0:n=0:=by have:=hz.out;omega
   rw[hn0] at HR;have HR:=jh (show r=vK x m 256 from by have h9:=HR.out;rwa [Nat.zero_add] at h9);clear hz hn0 hn8;obtain⟨wo,rfl⟩:∃wo:World,wo=wr:=⟨_,rfl⟩
   go_wp2_with fail
   go_loopw [13] (fun i wr=>∃(z:Int) (n r:Nat),Hid (z=(n:Int)-1)/\n<=256/\i=.int .i64 z/\Hid (r=vK x m (n))/\Hid (U0 wr LB lo)/\Hid (U0 wr HB hi)/\Hid (U0 wr MB m)/\Hid (U0 wr RR 0)/\Hid (U0 wr BB r)/\Hid (Y0 wr RR 4)/\Hid (Y0 wr BB 4)/\Hid (Below w.heap.size w wr)/\BB<wr.heap.size) (fun i _=>(intOf i+1).toNat)
   case atStart=>exact⟨255,256,r,jh rfl,Nat.le_refl _,rfl,HR,yC,MC,O7,HRR,X4,HF,kD,B,U2⟩
   case round=>
    clear yC MC O7 HRR X4 HF kD B U2 HR;obtain⟨z,n,r,hz,hn8,rfl,HR,yC,MC,O7,HRR,X4,HF,kD,B,U2⟩:=hrel
    by_cases hlt:0<=z
    ·obtain⟨j,rfl⟩:∃j:Nat,z=(j:Int):=⟨z.toNat,by omega⟩;have hnj:n=j+1:=by have:=hz.out;omega
     rw[hnj] at HR hn8;clear hz hnj;have hj:j<256:=by omega
     obtain⟨b,hb⟩:=je (x/2^(j)%2);have hb1:b<=1:=by omega
     have hrm:r<m:=by rw[HR.out];exact topB_lt pU.out
     have CB:=jh (fun W=>by have h9:=oK lo (j:Int) W (by omega) (by omega);rewrite[GH hj,HL.out j hj,<-hb] at h9;unfold ji words at h9;exact h9);obtain⟨r2,hr2⟩:=je ((2*r+b)%m);have CT:=jh (fun W=>by have h9:=xN hrm hb1 YN.out W;rewrite[<-hr2] at h9;unfold ji words at h9;exact h9);have HR2:=jh (show r2=x/2^(j)%m by rw[hr2,HR.out,hb];exact top_mod x m _);clear hb hr2 hb1 hrm HR
     go_upto_region 21 with fail
     refine zM 6 (fun F O9 hcl hbl=>?_);obtain⟨X5,H6,G6,F6⟩:=qF hbl X4;obtain⟨r_LB_0,r_LB_1,r_LB_2,r_LB_3⟩:=qF hbl yC;obtain⟨G8,P8,O8,N8⟩:=qF hbl O7;have I5:=jh hcl;clear hcl hbl;refine zL 6 ?_;simp only[zo,zn,zm,zl,Nat.reduceAdd]
     repeat (go_big_quiet_step ((first|(go_at_call 242;with_reducible exact jp I5.out (CB.out _))|(go_at_call 273;with_reducible exact jp I5.out (CT.out _)))))
     refine wpQuiet_nil ?_;refine jS ?_;intro bs w5 hb _ _;clear X5 H6 G6 F6 r_LB_0 r_LB_1 r_LB_2 r_LB_3 G8 P8 O8 N8;have yC:=jn hb yC;have MC:=jn hb MC;have O7:=jn hb O7;have HRR:=jn hb HRR;have X4:=jn hb X4;have HF:=jh (HF.out.later hb (by omega));have kD:=jh (kD.out.later hb (by omega));have U2:=jv U2 hb.size;have B:=jw B hb;clear hb;simp only[over];obtain⟨y0,y1,y2,y3,y4,y5,y6,y7⟩:=jU X4.out kD.out
     go_upto_region 20 with fail
     clear y0 y1 y2 y3 y4 y5 y6 y7;obtain⟨w6,e9⟩:=je (((((w5.setCell ⟨BB,0,none⟩ (.int .u64 (jg jf r2 0))).setCell ⟨BB,1,none⟩ (.int .u64 (jg jf r2 1))).setCell ⟨BB,2,none⟩ (.int .u64 (jg jf r2 2))).setCell ⟨BB,3,none⟩ (.int .u64 (jg jf r2 3))));rw[<-e9];have yC:=jh (show U0 w6 LB lo by rw[e9];exact U0.other4 yC.out (by omega) _ _ _ _);have MC:=jh (show U0 w6 HB hi by rw[e9];exact U0.other4 MC.out (by omega) _ _ _ _);have O7:=jh (show U0 w6 MB m by rw[e9];exact U0.other4 O7.out (by omega) _ _ _ _);have HRR:=jh (show U0 w6 RR 0 by rw[e9];exact U0.other4 HRR.out (by omega) _ _ _ _);have X4:=jh (show U0 w6 BB r2 by rw[e9];exact U0.set4 X4.out _);have HF:=jh (show Y0 w6 RR 4 by rw[e9];exact Y0.set4 HF.out _ _ _ _ _ _ _ _);have kD:=jh (show Y0 w6 BB 4 by rw[e9];exact Y0.set4 kD.out _ _ _ _ _ _ _ _);have B:=jh (show Below w.heap.size w w6 by rw[e9];exact jO B.out hwBB _ _ _ _);have U2:BB<w6.heap.size:=by rw[e9];simpa using U2
     clear e9
     go_wp2_with fail
     go_roundw
     case rel=>exact⟨(j:Int)-1,j,r2,jh rfl,by omega,by go_num,HR2,yC,MC,O7,HRR,X4,HF,kD,B,U2⟩
     case measure=>(simp[intOf]<;>omega)
    ·have hn0:n=0:=by have:=hz.out;omega
     have hrq:r=q:=by have h9:=HR.out;rw[hn0,topB_zero] at h9;rw[h9,HQ.out]
     rw[hrq] at X4;clear hz HR hn0 hrq;obtain⟨X5,H6,G6,F6⟩:=jF X4.out;obtain⟨c0,c1,c2,c3,f0,f1,f2,f3⟩:=jU HRR.out HF.out
     go_wp2_with fail
     obtain⟨N7,B9⟩:=zP HRR B Z5 q;obtain⟨g0,g1,g2,g3⟩:=jF N7.out;refine bodyPost_ret (v:=.tuple #[ji q,.int .i64 0]) ?_ rfl ⟨rfl,B9.out⟩
     simp[results,results246,go_sem,ji,words,g0,g1,g2,g3]
theorem oQ{lo hi m:Nat}(hlo:lo<jk)(hhi:hi<jk)(hm:m<jk)(h0:0<m)(w:World):
  Calls prog 246 #[ji lo,ji hi,ji m] w fun e w'=>e=.returned (.tuple #[ji ((hi*jk+lo)%m),.int .i64 0])/\Below w.heap.size w w':=by
 by_cases h:m<jf
 ·exact AZ hlo hhi hm h0 h w
 ·exact CZ hlo hhi hm h0 h w
theorem ET(k:Nat)(n:Int)(h:n=k)(hk:k<jf)(w:World):Calls prog 235 #[.int .u64 n] w fun e w'=>e=.returned (ji k)/\Below w.heap.size w w':=by
 subst h;exact NT k hk w
theorem cmp_pos{a b:Nat}:0<zk a b↔b<a:=by unfold zk;split<;>(try split)<;>omega
theorem cmp_neg{a b:Nat}:zk a b<0↔a<b:=by unfold zk;split<;>(try split)<;>omega
theorem ZC{a b m:Nat}(ha:a<jk)(L6:b<jk)(hm:m<jk)(w:World):
  Calls prog 237 #[ji a,ji b,ji m] w fun e w'=>e=.returned (.bool (decide (1<m/\a<m/\b<m)))/\Below w.heap.size w w':=by
 have C1:=jh (fun W=>by have h9:=ET 1 1 rfl (by unfold jf;omega) W;unfold ji words at h9;exact h9);obtain⟨z1,hz1⟩:=je (zk m 1);have Kz1:=jh (fun W=>by have h9:=ZU hm (show 1<jk by unfold jk;omega) W;rewrite[<-hz1] at h9;unfold ji words at h9;exact h9);obtain⟨z2,hz2⟩:=je (zk a m);have Kz2:=jh (fun W=>by have h9:=ZU ha hm W;rewrite[<-hz2] at h9;unfold ji words at h9;exact h9);obtain⟨z3,hz3⟩:=je (zk b m);have Kz3:=jh (fun W=>by have h9:=ZU L6 hm W;rewrite[<-hz3] at h9;unfold ji words at h9;exact h9);obtain⟨D,hD⟩:=je (decide (1<m/\a<m/\b<m));rw[<-hD]
 have h3:(¬0<z1/\D=false)∨(0<z1/\¬z2<0/\D=false)∨(0<z1/\z2<0/\¬z3<0/\D=false)∨(0<z1/\z2<0/\z3<0/\D=true):=by
  rw[hz1,hz2,hz3,hD,cmp_pos,cmp_neg,cmp_neg]
  by_cases h1:1<m<;>by_cases h2:a<m<;>by_cases h3:b<m<;>simp[h1,h2,h3]
 clear hz1 hz2 hz3 hD ha L6 hm;unfold ji words
 go_enter func237,ntmps237
 go_upto_region 1 with fail
 obtain⟨wz,AA,BB,MM,e9,Y5,h_1,h_2,V3,X4,V4,B,I7,l_1,NC,xA,hwMM,U2⟩:=box3 w 24 a b m;rw[e9,Y5,h_1,h_2];clear e9 Y5 h_1 h_2
 rcases h3 with⟨h1,rfl⟩|⟨h1,h2,rfl⟩|⟨h1,h2,h3,rfl⟩|⟨h1,h2,h3,rfl⟩
 ·skip
  refine zM 16 (fun F O9 hcl hbl=>?_);obtain⟨X3,U4,J4,I4⟩:=qF hbl V3;obtain⟨X5,H6,G6,F6⟩:=qF hbl X4;obtain⟨F5,V5,U5,Q5⟩:=qF hbl V4;have I5:=jh hcl;clear hcl hbl;refine zL 16 ?_;simp only[zo,zn,zm,zl,Nat.reduceAdd]
  repeat (go_big_quiet_step ((first|(go_at_call 235;with_reducible exact jp I5.out (C1.out _))|(go_at_call 192;with_reducible exact jp I5.out (Kz1.out _)))))
  refine wpQuiet_nil ?_;refine jS ?_;intro bs w2 hb _ _;clear X3 U4 J4 I4 X5 H6 G6 F6 F5 V5 U5 Q5;obtain⟨V3,X4,V4,U2,B⟩:=lat3 hb V3 X4 V4 U2 B;clear hb;simp only[over]
  go_wp2_with fail
  refine bodyPost_ret (v:=.bool false) ?_ rfl ⟨rfl,B.out⟩
  simp[results,results237,go_sem]
 ·skip
  refine zM 16 (fun F O9 hcl hbl=>?_);obtain⟨X3,U4,J4,I4⟩:=qF hbl V3;obtain⟨X5,H6,G6,F6⟩:=qF hbl X4;obtain⟨F5,V5,U5,Q5⟩:=qF hbl V4;have I5:=jh hcl;clear hcl hbl;refine zL 16 ?_;simp only[zo,zn,zm,zl,Nat.reduceAdd]
  repeat (go_big_quiet_step ((first|(go_at_call 235;with_reducible exact jp I5.out (C1.out _))|(go_at_call 192;with_reducible exact jp I5.out (Kz1.out _))|(go_at_call 192;with_reducible exact jp I5.out (Kz2.out _)))))
  refine wpQuiet_nil ?_;refine jS ?_;intro bs w2 hb _ _;clear X3 U4 J4 I4 X5 H6 G6 F6 F5 V5 U5 Q5;obtain⟨V3,X4,V4,U2,B⟩:=lat3 hb V3 X4 V4 U2 B;clear hb;simp only[over]
  go_wp2_with fail
  refine bodyPost_ret (v:=.bool false) ?_ rfl ⟨rfl,B.out⟩
  simp[results,results237,go_sem]<;>omega
 ·skip
  refine zM 16 (fun F O9 hcl hbl=>?_);obtain⟨X3,U4,J4,I4⟩:=qF hbl V3;obtain⟨X5,H6,G6,F6⟩:=qF hbl X4;obtain⟨F5,V5,U5,Q5⟩:=qF hbl V4;have I5:=jh hcl;clear hcl hbl;refine zL 16 ?_;simp only[zo,zn,zm,zl,Nat.reduceAdd]
  repeat (go_big_quiet_step ((first|(go_at_call 235;with_reducible exact jp I5.out (C1.out _))|(go_at_call 192;with_reducible exact jp I5.out (Kz1.out _))|(go_at_call 192;with_reducible exact jp I5.out (Kz2.out _))|(go_at_call 192;with_reducible exact jp I5.out (Kz3.out _)))))
  refine wpQuiet_nil ?_;refine jS ?_;intro bs w2 hb _ _;clear X3 U4 J4 I4 X5 H6 G6 F6 F5 V5 U5 Q5;obtain⟨V3,X4,V4,U2,B⟩:=lat3 hb V3 X4 V4 U2 B;clear hb;simp only[over]
  go_wp2_with fail
  refine bodyPost_ret (v:=.bool false) ?_ rfl ⟨rfl,B.out⟩
  simp[results,results237,go_sem]<;>omega
 ·skip
  refine zM 16 (fun F O9 hcl hbl=>?_);obtain⟨X3,U4,J4,I4⟩:=qF hbl V3;obtain⟨X5,H6,G6,F6⟩:=qF hbl X4;obtain⟨F5,V5,U5,Q5⟩:=qF hbl V4;have I5:=jh hcl;clear hcl hbl;refine zL 16 ?_;simp only[zo,zn,zm,zl,Nat.reduceAdd]
  repeat (go_big_quiet_step ((first|(go_at_call 235;with_reducible exact jp I5.out (C1.out _))|(go_at_call 192;with_reducible exact jp I5.out (Kz1.out _))|(go_at_call 192;with_reducible exact jp I5.out (Kz2.out _))|(go_at_call 192;with_reducible exact jp I5.out (Kz3.out _)))))
  refine wpQuiet_nil ?_;refine jS ?_;intro bs w2 hb _ _;clear X3 U4 J4 I4 X5 H6 G6 F6 F5 V5 U5 Q5;obtain⟨V3,X4,V4,U2,B⟩:=lat3 hb V3 X4 V4 U2 B;clear hb;simp only[over]
  go_wp2_with fail
  refine bodyPost_ret (v:=.bool true) ?_ rfl ⟨rfl,B.out⟩
  simp[results,results237,go_sem]
theorem TW{a b m:Nat}(hm:m<jk)(ha:a<m)(L6:b<m)(aC:m<jf)(w:World):
  Calls prog 241 #[ji a,ji b,ji m] w fun e w'=>e=.returned (ji (a*b%m))/\Below w.heap.size w w':=by
 obtain⟨q,hq⟩:=je (a*b%m);rw[<-hq];have CW:=jh (fun W=>by have h9:=QG hm W;rewrite[decide_eq_true aC] at h9;unfold ji words at h9;exact h9);have haW:=Nat.lt_trans ha aC;have hbW:=Nat.lt_trans L6 aC;obtain⟨h,hh⟩:=je (a*b/18446744073709551616);obtain⟨l,hl⟩:=je (a*b%18446744073709551616);have CX:=jh (fun w=>by have h9:=Tryz.bits_Mul64 a b haW hbW w;rewrite[<-hh,<-hl] at h9;exact h9);have fJ:l<jf:=by rw[hl];exact Nat.mod_lt _ (by omega)
 have hh9:h<m:=by rw[hh];exact(Nat.div_lt_iff_lt_mul (by omega)).2 (Nat.mul_lt_mul_of_lt_of_lt ha hbW)
 have hv:h*jf+l=a*b:=by rw[hh,hl,Nat.mul_comm];exact Nat.div_add_mod _ _
 obtain⟨d,hd⟩:=je ((h*jf+l)/m);have CD:=jh (fun w=>by have h9:=Zz h l m fJ aC hh9 w;rewrite[<-hd,hv,<-hq] at h9;exact h9);have hqW:q<jf:=by rw[hq];exact Nat.lt_trans (Nat.mod_lt _ (by omega)) aC
 have CO:=jh (fun W=>by have h9:=NT q hqW W;unfold ji words at h9;exact h9);have da:=jh (qY haW).1;have db:=jh (qY hbW).1;have dm:=jh (qY aC).1;clear hq hm ha L6 aC haW hbW hh hl fJ hh9 hv hd hqW;unfold ji words
 go_enter func241,ntmps241
 go_wp2_with fail
 obtain⟨wz,AA,BB,MM,RR,e9,Y5,h_1,h_2,h_3,V3,X4,V4,HRR,HF,B,I7,l_1,NC,BI,xA,Z5,U2⟩:=zT w 24 a b m;rw[e9,Y5,h_1,h_2,h_3];clear e9 Y5 h_1 h_2 h_3;refine(CW.out _).mono ?_;rintro _ w1 ⟨rfl,hb⟩;have V3:=jn hb V3;have X4:=jn hb X4;have V4:=jn hb V4;have HRR:=jn hb HRR;have HF:=jh (HF.out.later hb (by omega));have U2:=jv U2 hb.size;have B:=jw B hb;clear hb;obtain⟨X3,U4,J4,I4⟩:=jF V3.out;obtain⟨X5,H6,G6,F6⟩:=jF X4.out;rw[da.out] at X3;rw[db.out] at X5
 go_wp2_with fail
 clear X3 U4 J4 I4 X5 H6 G6 F6;refine(CX.out _).mono ?_;rintro _ w2 ⟨rfl,rfl⟩;obtain⟨F5,V5,U5,Q5⟩:=jF V4.out;rw[dm.out] at F5
 go_wp2_with fail
 clear F5 V5 U5 Q5;refine(CD.out _).mono ?_;rintro _ w3 ⟨rfl,hb⟩;have V3:=jn hb V3;have X4:=jn hb X4;have V4:=jn hb V4;have HRR:=jn hb HRR;have HF:=jh (HF.out.later hb (by omega));have U2:=jv U2 hb.size;have B:=jw B hb;clear hb
 go_wp2_with fail
 refine(CO.out _).mono ?_;rintro _ w4 ⟨rfl,hb⟩;have V3:=jn hb V3;have X4:=jn hb X4;have V4:=jn hb V4;have HRR:=jn hb HRR;have HF:=jh (HF.out.later hb (by omega));have U2:=jv U2 hb.size;have B:=jw B hb;clear hb;obtain⟨c0,c1,c2,c3,f0,f1,f2,f3⟩:=jU HRR.out HF.out
 go_wp2_with fail
 obtain⟨N7,B9⟩:=zP HRR B Z5 q;obtain⟨g0,g1,g2,g3⟩:=jF N7.out;refine bodyPost_ret (v:=ji q) ?_ rfl ⟨rfl,B9.out⟩
 simp[results,results241,go_sem,ji,words,g0,g1,g2,g3]
theorem UW{a b m:Nat}(hm:m<jk)(ha:a<m)(L6:b<m)(aC:¬m<jf)(w:World):
  Calls prog 241 #[ji a,ji b,ji m] w fun e w'=>e=.returned (ji (a*b%m))/\Below w.heap.size w w':=by
 obtain⟨q,hq⟩:=je (a*b%m);rw[<-hq];have CW:=jh (fun W=>by have h9:=QG hm W;rewrite[decide_eq_false aC] at h9;unfold ji words at h9;exact h9);have haM:=Nat.lt_trans ha hm;have hbM:=Nat.lt_trans L6 hm;obtain⟨x,hx⟩:=je (mulL a b);obtain⟨y,hy⟩:=je (yJ a b);have CX:=jh (fun W=>by have h9:=Mul_ref haM hbM W;rewrite[<-hx,<-hy] at h9;unfold ji words at h9;exact h9);have hxy:y*jk+x=a*b:=by rw[hx,hy];unfold mulL yJ;rw[Nat.mul_comm];exact Nat.div_add_mod _ _
 have CD:=jh (fun W=>by have h9:=oQ (lo:=x) (hi:=y) (by rw[hx];exact mulL_lt _ _) (by rw[hy];exact mulH_lt haM hbM) hm (by omega) W;rewrite[hxy,<-hq] at h9;unfold ji words at h9;exact h9);clear hq hm ha L6 aC haM hbM hx hy hxy;unfold ji words
 go_enter func241,ntmps241
 go_wp2_with fail
 obtain⟨wz,AA,BB,MM,RR,e9,Y5,h_1,h_2,h_3,V3,X4,V4,HRR,HF,B,I7,l_1,NC,BI,xA,Z5,U2⟩:=zT w 24 a b m;rw[e9,Y5,h_1,h_2,h_3];clear e9 Y5 h_1 h_2 h_3;refine(CW.out _).mono ?_;rintro _ w1 ⟨rfl,hb⟩;have V3:=jn hb V3;have X4:=jn hb X4;have V4:=jn hb V4;have HRR:=jn hb HRR;have HF:=jh (HF.out.later hb (by omega));have U2:=jv U2 hb.size;have B:=jw B hb;clear hb;obtain⟨X3,U4,J4,I4⟩:=jF V3.out;obtain⟨X5,H6,G6,F6⟩:=jF X4.out
 go_wp2_with fail
 clear X3 U4 J4 I4 X5 H6 G6 F6;refine(CX.out _).mono ?_;rintro _ w2 ⟨rfl,hb⟩;have V3:=jn hb V3;have X4:=jn hb X4;have V4:=jn hb V4;have HRR:=jn hb HRR;have HF:=jh (HF.out.later hb (by omega));have U2:=jv U2 hb.size;have B:=jw B hb;clear hb
 go_upto_region 6 with fail
 obtain⟨w3,e8⟩:=je ((w2.alloc (.cells (jD x) 24)));have s8:w3.heap.size=w2.heap.size+1:=by rw[e8];simp
 rw[<-e8,<-s8];obtain⟨XB,h9⟩:=je (w2.heap.size);have hb:=jc e8;have n9:=jh (show U0 w3 XB x by rw[e8,h9];exact U0.new _ _ _ _ rfl);have f9:=jh (show Y0 w3 XB 4 by rw[e8,h9];exact Y0.made _ _ _ _ _ rfl);have l_XB:RR<XB:=by omega
 have h8:XB<w3.heap.size:=by omega
 have hwXB:w.heap.size<=XB:=by omega
 rw[<-h9];clear e8 h9;have V3:=jn hb V3;have X4:=jn hb X4;have V4:=jn hb V4;have HRR:=jn hb HRR;have HF:=jh (HF.out.later hb (by omega));have U2:=jv U2 hb.size;have B:=jw B hb;clear hb;have HXB:=n9;have VA:=f9;have U2:=h8;clear n9 f9 h8 s8;obtain⟨w4,YB,e9,h9,hb⟩:=qJ w3 (.cells (jD y) 24);have n9:=jh (show U0 w4 YB y by rw[e9,h9];exact U0.new _ _ _ _ rfl);have f9:=jh (show Y0 w4 YB 4 by rw[e9,h9];exact Y0.made _ _ _ _ _ rfl);have l_YB:XB<YB:=by omega
 have h8:YB<w4.heap.size:=by rw[e9,h9];simp
 rw[<-e9,<-h9];clear e9 h9;have V3:=jn hb V3;have X4:=jn hb X4;have V4:=jn hb V4;have HRR:=jn hb HRR;have HXB:=jn hb HXB;have HF:=jh (HF.out.later hb (by omega));have VA:=jh (VA.out.later hb (by omega));have U2:=jv U2 hb.size;have B:=jw B hb;clear hb;have KC:=n9;have bD:=f9;have U2:=h8;clear n9 f9 h8;have hwYB:w.heap.size<=YB:=by omega
 obtain⟨L9,J9,H9,G9⟩:=jF HXB.out;obtain⟨yB,xB,dB,aB⟩:=jF KC.out;obtain⟨F5,V5,U5,Q5⟩:=jF V4.out
 go_wp2_with fail
 clear L9 J9 H9 G9 yB xB dB aB F5 V5 U5 Q5;refine(CD.out _).mono ?_;rintro _ w5 ⟨rfl,hb⟩;have V3:=jn hb V3;have X4:=jn hb X4;have V4:=jn hb V4;have HRR:=jn hb HRR;have HXB:=jn hb HXB;have KC:=jn hb KC;have HF:=jh (HF.out.later hb (by omega));have VA:=jh (VA.out.later hb (by omega));have bD:=jh (bD.out.later hb (by omega));have U2:=jv U2 hb.size;have B:=jw B hb;clear hb
 go_upto_region 7 with fail
 obtain⟨w6,ZB,e9,h9,hb⟩:=qJ w5 (.cells (jD q) 24);have n9:=jh (show U0 w6 ZB q by rw[e9,h9];exact U0.new _ _ _ _ rfl);have f9:=jh (show Y0 w6 ZB 4 by rw[e9,h9];exact Y0.made _ _ _ _ _ rfl);have l_ZB:YB<ZB:=by omega
 have h8:ZB<w6.heap.size:=by rw[e9,h9];simp
 rw[<-e9,<-h9];clear e9 h9;have V3:=jn hb V3;have X4:=jn hb X4;have V4:=jn hb V4;have HRR:=jn hb HRR;have HXB:=jn hb HXB;have KC:=jn hb KC;have HF:=jh (HF.out.later hb (by omega));have VA:=jh (VA.out.later hb (by omega));have bD:=jh (bD.out.later hb (by omega));have U2:=jv U2 hb.size;have B:=jw B hb;clear hb;have HZB:=n9;have HFZB:=f9;have U2:=h8;clear n9 f9 h8;have hwZB:w.heap.size<=ZB:=by omega
 obtain⟨r_ZB_0,r_ZB_1,r_ZB_2,r_ZB_3⟩:=jF HZB.out;obtain⟨c0,c1,c2,c3,f0,f1,f2,f3⟩:=jU HRR.out HF.out
 go_wp2_with fail
 obtain⟨N7,B9⟩:=zP HRR B Z5 q;obtain⟨g0,g1,g2,g3⟩:=jF N7.out;refine bodyPost_ret (v:=ji q) ?_ rfl ⟨rfl,B9.out⟩
 simp[results,results241,go_sem,ji,words,g0,g1,g2,g3]
theorem xG{a b m:Nat}(hm:m<jk)(ha:a<m)(hb:b<m)(w:World):
  Calls prog 241 #[ji a,ji b,ji m] w fun e w'=>e=.returned (ji (a*b%m))/\Below w.heap.size w w':=by
 by_cases h:m<jf
 ·exact TW hm ha hb h w
 ·exact UW hm ha hb h w
theorem RMulM_yes{a b m:Nat}(hm:m<jk)(hmay:1<m/\a<m/\b<m)(w:World):
  Calls prog 197 #[ji a,ji b,ji m] w fun e w'=>e=.returned (.tuple #[ji (a*b%m),.int .i64 0])/\Below w.heap.size w w':=by
 have ha:=Nat.lt_trans hmay.2.1 hm;have L6:=Nat.lt_trans hmay.2.2 hm;have CM:=jh (fun W=>by have h9:=ZC ha L6 hm W;rewrite[decide_eq_true hmay] at h9;unfold ji words at h9;exact h9);obtain⟨q,hq⟩:=je (a*b%m);rw[<-hq];have CT:=jh (fun W=>by have h9:=xG hm hmay.2.1 hmay.2.2 W;rewrite[<-hq] at h9;unfold ji words at h9;exact h9);clear ha L6 hm hmay hq;unfold ji words
 go_enter func197,ntmps197
 go_wp2_with fail
 obtain⟨wz,AA,BB,MM,RR,e9,Y5,h_1,h_2,h_3,V3,X4,V4,HRR,HF,B,I7,l_1,NC,BI,xA,Z5,U2⟩:=zT w 24 a b m;rw[e9,Y5,h_1,h_2,h_3];clear e9 Y5 h_1 h_2 h_3;refine(CM.out _).mono ?_;rintro _ w1 ⟨rfl,hb⟩;have V3:=jn hb V3;have X4:=jn hb X4;have V4:=jn hb V4;have HRR:=jn hb HRR;have HF:=jh (HF.out.later hb (by omega));have U2:=jv U2 hb.size;have B:=jw B hb;clear hb;obtain⟨X3,U4,J4,I4⟩:=jF V3.out;obtain⟨X5,H6,G6,F6⟩:=jF X4.out;obtain⟨F5,V5,U5,Q5⟩:=jF V4.out
 go_wp2_with fail
 clear X3 U4 J4 I4 X5 H6 G6 F6 F5 V5 U5 Q5;refine(CT.out _).mono ?_;rintro _ w2 ⟨rfl,hb⟩;have V3:=jn hb V3;have X4:=jn hb X4;have V4:=jn hb V4;have HRR:=jn hb HRR;have HF:=jh (HF.out.later hb (by omega));have U2:=jv U2 hb.size;have B:=jw B hb;clear hb;obtain⟨c0,c1,c2,c3,f0,f1,f2,f3⟩:=jU HRR.out HF.out
 go_wp2_with fail
 obtain⟨N7,B9⟩:=zP HRR B Z5 q;obtain⟨g0,g1,g2,g3⟩:=jF N7.out;refine bodyPost_ret (v:=.tuple #[ji q,.int .i64 0]) ?_ rfl ⟨rfl,B9.out⟩
 simp[results,results197,go_sem,ji,words,g0,g1,g2,g3]
theorem bit_word(n j:Nat):bits .and .u64 (((jg jf n (j/64):Nat):Int)/2^(j%64)) 1=((n/2^j%2:Nat):Int):=by
 have e:((jg jf n (j/64):Nat):Int)/2^(j%64)=((jg jf n (j/64)/2^(j%64):Nat):Int):=by simp
 have hl:jg jf n (j/64)/2^(j%64)<18446744073709551616:=Nat.lt_of_le_of_lt (Nat.div_le_self _ _) (qh n _);rw[e,show(1:Int)=((1:Nat):Int) from rfl,u64_and_nat _ _ hl (by omega),Nat.and_one_is_mod,wE,wG 64 n (j/64) (j%64) (Nat.mod_lt _ (by omega)),show 64*(j/64)+j%64=j by omega]
theorem yZ{a n m:Nat}(ha:a<m)(hn:n<jk)(h1:1<m)(aC:m<jf)(w:World):
  Calls prog 239 #[.int .u64 (a:Nat),ji n,.int .u64 (m:Nat)] w fun e w'=>e=.returned (.int .u64 ((a^n%m:Nat):Int))/\Below w.heap.size w w':=by
 obtain⟨q,hq⟩:=je (a^n%m);rw[<-hq];have HQ:=jh hq;obtain⟨L,hL⟩:=je (qm n);have CB:=jh (fun W=>by have h9:=tX hn W;rewrite[<-hL] at h9;unfold ji words at h9;exact h9);have hL6:L<=256:=by rw[hL];exact Zk hn
 have HL:=jh (show n/2^L=0 by rw[hL];exact KW);have CX:=jh (fun(x y:Nat) (hx:x<m) (hy:y<m) (w:World)=>Tryz.bits_Mul64 x y (Nat.lt_trans hx aC) (Nat.lt_trans hy aC) w);have CD:=jh (fun(x y:Nat) (hx:x<m) (hy:y<m) (w:World)=>by have h9:=Zz (x*y/18446744073709551616) (x*y%18446744073709551616) m (Nat.mod_lt _ (by omega)) aC ((Nat.div_lt_iff_lt_mul (by omega)).2 (Nat.mul_lt_mul_of_lt_of_lt hx (Nat.lt_trans hy aC))) w;rewrite[show x*y/18446744073709551616*jf+x*y%18446744073709551616=x*y from by rw[Nat.mul_comm];exact Nat.div_add_mod _ _] at h9;exact h9);have HA:=jh ha;have HM:=jh h1;have h1m:(1:Int)%(m:Int)=1:=Int.emod_eq_of_lt (by omega) (by omega);have h1t:(1:Int).tmod (m:Int)=1:=by rw[Int.tmod_eq_emod_of_nonneg (by omega)];exact h1m
 have hm0:¬(m:Int)=0:=by omega
 clear hq hL hn ha h1 aC;unfold ji words
 go_enter func239,ntmps239
 go_upto_region 1 with fail
 obtain⟨wz,NN,e9,Y5,D6,B,I7,xA,hwNN,U2⟩:=box1 w 24 n;rw[e9,Y5];clear e9 Y5;obtain⟨X6,V6,U6,P6⟩:=jF D6.out
 go_wp2_with fail
 clear X6 V6 U6 P6;refine(CB.out _).mono ?_;rintro _ w2 ⟨rfl,hb⟩;obtain⟨D6,U2,B⟩:=pF hb D6 U2 B;clear hb;clear h1m h1t
 go_wp2_with fail
 go_loopw [7,8] (fun ov i wr=>∃(z:Int) (k o:Nat),Hid (z=(k:Int)-1)/\k<=L/\i=.int .i64 z/\ov=.int .u64 o/\o<m/\Hid (o=a^(n/2^k)%m)/\Hid (U0 wr NN n)/\Hid (Below w.heap.size w wr)/\NN<wr.heap.size) (fun _ i _=>(intOf i+1).toNat)
 case atStart=>exact⟨(L:Int)-1,L,1,jh rfl,Nat.le_refl _,rfl,rfl,HM.out,jh (by rw[HL.out,Nat.pow_zero,Nat.mod_eq_of_lt HM.out]),D6,B,U2⟩
 case round=>
  clear D6 B U2;obtain⟨z,k,o,hz,hk,rfl,rfl,TY,HO,D6,B,U2⟩:=hrel
  by_cases hlt:0<=z
  ·obtain⟨j,rfl⟩:∃j:Nat,z=(j:Int):=⟨z.toNat,by omega⟩;have hkj:k=j+1:=by have:=hz.out;omega
   rw[hkj] at HO hk;clear hz hkj;have hj:j<256:=by omega
   obtain⟨o2,ho2⟩:=je (o*o%m);have hom2:o2<m:=by rw[ho2];exact Nat.mod_lt _ (by have:=HM.out;omega)
   obtain⟨h,hh⟩:=je (o*o/18446744073709551616);obtain⟨l,hl⟩:=je (o*o%18446744073709551616);obtain⟨d,hd⟩:=je (o*o/m);have C1:=jh (fun w=>by have h9:=CX.out o o TY TY w;rewrite[<-hh,<-hl] at h9;exact h9);have C2:=jh (fun w=>by have h9:=CD.out o o TY TY w;rewrite[<-hh,<-hl,<-hd,<-ho2] at h9;exact h9);obtain⟨b,hb⟩:=je (n/2^j%2);have hb2:b=0∨b=1:=by omega
   have rN:=D6.out (j/64) (by omega);have h64:j/64<4:=by omega
   have hbit:=jh (show bits .and .u64 (((jg jf n (j/64):Nat):Int)/2^(j%64)) 1=((b:Nat):Int) by rw[hb];exact bit_word n j);have D9:=jh ho2;have HB:=jh hb;clear hh hl hd ho2 hb
   go_wp2_with fail
   refine(C1.out _).mono ?_;rintro _ w3 ⟨rfl,rfl⟩
   go_wp2_with fail
   refine(C2.out _).mono ?_;rintro _ w4 ⟨rfl,hb⟩;have rN:=jj rN hb;obtain⟨D6,U2,B⟩:=pF hb D6 U2 B;clear hb;have hbit9:=hbit.out
   rcases hb2 with rfl|rfl
   ·skip
    have HK:=jh (show o2=a^(n/2^j)%m by rw[D9.out,HO.out];exact VU HB.out.symm)
    go_wp2_with fail
    go_roundw
    case rel=>exact⟨(j:Int)-1,j,o2,jh rfl,by omega,by go_num,rfl,hom2,HK,D6,B,U2⟩
    case measure=>(simp[intOf]<;>omega)
   ·skip
    obtain⟨o3,ho3⟩:=je (o2*a%m);have hom3:o3<m:=by rw[ho3];exact Nat.mod_lt _ (by have:=HM.out;omega)
    obtain⟨h2,hh⟩:=je (o2*a/18446744073709551616);obtain⟨l2,hl⟩:=je (o2*a%18446744073709551616);obtain⟨d2,hd⟩:=je (o2*a/m);have C3:=jh (fun w=>by have h9:=CX.out o2 a hom2 HA.out w;rewrite[<-hh,<-hl] at h9;exact h9);have C4:=jh (fun w=>by have h9:=CD.out o2 a hom2 HA.out w;rewrite[<-hh,<-hl,<-hd,<-ho3] at h9;exact h9);have HK:=jh (show o3=a^(n/2^j)%m by rw[ho3,D9.out,HO.out];exact UU HB.out.symm);clear hh hl hd ho3
    go_wp2_with fail
    refine(C3.out _).mono ?_;rintro _ w5 ⟨rfl,rfl⟩
    go_wp2_with fail
    refine(C4.out _).mono ?_;rintro _ w6 ⟨rfl,hb⟩;clear rN;obtain⟨D6,U2,B⟩:=pF hb D6 U2 B;clear hb
    go_wp2_with fail
    go_roundw
    case rel=>exact⟨(j:Int)-1,j,o3,jh rfl,by omega,by go_num,rfl,hom3,HK,D6,B,U2⟩
    case measure=>(simp[intOf]<;>omega)
  ·have hk0:k=0:=by have:=hz.out;omega
   have hoq:o=q:=by have h9:=HO.out;rw[hk0,Nat.pow_zero,Nat.div_one] at h9;rw[h9,HQ.out]
   rw[hoq];clear hz HO hk0 hoq TY
   go_wp2_with fail
   refine bodyPost_ret (v:=.int .u64 (q:Nat)) ?_ rfl ⟨rfl,B.out⟩
   simp[results,results239,go_sem]
theorem RExp_word{a n m:Nat}(hn:n<jk)(hm:m<jk)(h1:1<m)(ha:a<m)(aC:m<jf)(w:World):
  Calls prog 195 #[ji a,ji n,ji m] w fun e w'=>e=.returned (.tuple #[ji (a^n%m),.int .i64 0])/\Below w.heap.size w w':=by
 have haM:=Nat.lt_trans ha hm;have CM:=jh (fun W=>by have h9:=ZC haM haM hm W;rewrite[decide_eq_true (show(1<m/\a<m/\a<m) from⟨h1,ha,ha⟩)] at h9;unfold ji words at h9;exact h9);have CW:=jh (fun W=>by have h9:=QG hm W;rewrite[decide_eq_true aC] at h9;unfold ji words at h9;exact h9);obtain⟨q,hq⟩:=je (a^n%m);rw[<-hq];have hqW:q<jf:=by rw[hq];exact Nat.lt_trans (Nat.mod_lt _ (by omega)) aC
 have CO:=jh (fun W=>by have h9:=NT q hqW W;unfold ji words at h9;exact h9);have CP:=jh (fun W=>by have h9:=yZ ha hn h1 aC W;rewrite[<-hq] at h9;unfold ji words at h9;exact h9);have da:=jh (qY (Nat.lt_trans ha aC)).1;have dm:=jh (qY aC).1;clear hn hm h1 ha aC haM hq hqW;unfold ji words
 go_enter func195,ntmps195
 go_wp2_with fail
 obtain⟨wz,AA,NN,MM,RR,e9,Y5,h_1,h_2,h_3,V3,D6,V4,HRR,HF,B,I7,l_1,NC,BI,xA,Z5,U2⟩:=zT w 24 a n m;rw[e9,Y5,h_1,h_2,h_3];clear e9 Y5 h_1 h_2 h_3;refine(CM.out _).mono ?_;rintro _ w1 ⟨rfl,hb⟩;have V3:=jn hb V3;have D6:=jn hb D6;have V4:=jn hb V4;have HRR:=jn hb HRR;have HF:=jh (HF.out.later hb (by omega));have U2:=jv U2 hb.size;have B:=jw B hb;clear hb;obtain⟨F5,V5,U5,Q5⟩:=jF V4.out
 go_wp2_with fail
 clear F5 V5 U5 Q5;refine(CW.out _).mono ?_;rintro _ w2 ⟨rfl,hb⟩;have V3:=jn hb V3;have D6:=jn hb D6;have V4:=jn hb V4;have HRR:=jn hb HRR;have HF:=jh (HF.out.later hb (by omega));have U2:=jv U2 hb.size;have B:=jw B hb;clear hb;obtain⟨X3,U4,J4,I4⟩:=jF V3.out;obtain⟨X6,V6,U6,P6⟩:=jF D6.out;obtain⟨F5,V5,U5,Q5⟩:=jF V4.out;rw[da.out] at X3;rw[dm.out] at F5
 go_wp2_with fail
 clear X3 U4 J4 I4 X6 V6 U6 P6 F5 V5 U5 Q5;refine(CP.out _).mono ?_;rintro _ w3 ⟨rfl,hb⟩;have V3:=jn hb V3;have D6:=jn hb D6;have V4:=jn hb V4;have HRR:=jn hb HRR;have HF:=jh (HF.out.later hb (by omega));have U2:=jv U2 hb.size;have B:=jw B hb;clear hb
 go_wp2_with fail
 refine(CO.out _).mono ?_;rintro _ w4 ⟨rfl,hb⟩;have V3:=jn hb V3;have D6:=jn hb D6;have V4:=jn hb V4;have HRR:=jn hb HRR;have HF:=jh (HF.out.later hb (by omega));have U2:=jv U2 hb.size;have B:=jw B hb;clear hb;obtain⟨c0,c1,c2,c3,f0,f1,f2,f3⟩:=jU HRR.out HF.out
 go_wp2_with fail
 obtain⟨N7,B9⟩:=zP HRR B Z5 q;obtain⟨g0,g1,g2,g3⟩:=jF N7.out;refine bodyPost_ret (v:=.tuple #[ji q,.int .i64 0]) ?_ rfl ⟨rfl,B9.out⟩
 simp[results,results195,go_sem,ji,words,g0,g1,g2,g3]
theorem RExp_long{a n m:Nat}(hn:n<jk)(hm:m<jk)(h1:1<m)(ha:a<m)(aC:¬m<jf)(w:World):
  Calls prog 195 #[ji a,ji n,ji m] w fun e w'=>e=.returned (.tuple #[ji (a^n%m),.int .i64 0])/\Below w.heap.size w w':=by
 have haM:=Nat.lt_trans ha hm;have CM:=jh (fun W=>by have h9:=ZC haM haM hm W;rewrite[decide_eq_true (show(1<m/\a<m/\a<m) from⟨h1,ha,ha⟩)] at h9;unfold ji words at h9;exact h9);have CW:=jh (fun W=>by have h9:=QG hm W;rewrite[decide_eq_false aC] at h9;unfold ji words at h9;exact h9);obtain⟨q,hq⟩:=je (a^n%m);rw[<-hq];have HQ:=jh hq;obtain⟨L,hL⟩:=je (qm n);have CB:=jh (fun W=>by have h9:=tX hn W;rewrite[<-hL] at h9;unfold ji words at h9;exact h9);have hL6:L<=256:=by rw[hL];exact Zk hn
 have HL:=jh (show n/2^L=0 by rw[hL];exact KW);have CO:=jh (fun W=>by have h9:=ET 1 1 rfl (by unfold jf;omega) W;unfold ji words at h9;exact h9);have HA:=jh ha;have HM:=jh h1;have YN:=jh hm;clear hn hm h1 ha aC haM hq hL;unfold ji words
 go_enter func195,ntmps195
 go_wp2_with fail
 obtain⟨wz,AA,NN,MM,RR,e9,Y5,h_1,h_2,h_3,V3,D6,V4,HRR,HF,B,I7,l_1,NC,BI,xA,Z5,U2⟩:=zT w 24 a n m;rw[e9,Y5,h_1,h_2,h_3];clear e9 Y5 h_1 h_2 h_3;refine(CM.out _).mono ?_;rintro _ w1 ⟨rfl,hb⟩;have V3:=jn hb V3;have D6:=jn hb D6;have V4:=jn hb V4;have HRR:=jn hb HRR;have HF:=jh (HF.out.later hb (by omega));have U2:=jv U2 hb.size;have B:=jw B hb;clear hb;obtain⟨F5,V5,U5,Q5⟩:=jF V4.out
 go_wp2_with fail
 clear F5 V5 U5 Q5;refine(CW.out _).mono ?_;rintro _ w2 ⟨rfl,hb⟩;have V3:=jn hb V3;have D6:=jn hb D6;have V4:=jn hb V4;have HRR:=jn hb HRR;have HF:=jh (HF.out.later hb (by omega));have U2:=jv U2 hb.size;have B:=jw B hb;clear hb
 go_wp2_with fail
 refine(CO.out _).mono ?_;rintro _ w3 ⟨rfl,hb⟩;have V3:=jn hb V3;have D6:=jn hb D6;have V4:=jn hb V4;have HRR:=jn hb HRR;have HF:=jh (HF.out.later hb (by omega));have U2:=jv U2 hb.size;have B:=jw B hb;clear hb
 go_upto_region 6 with fail
 obtain⟨w4,OB,e9,h9,hb⟩:=qJ w3 (.cells #[.int .u64 (jg jf 1 0),.int .u64 (jg jf 1 1),.int .u64 (jg jf 1 2),.int .u64 (jg jf 1 3)] 24);have n9:=jh (show U0 w4 OB 1 by rw[e9,h9];exact U0.new _ _ _ _ rfl);have f9:=jh (show Y0 w4 OB 4 by rw[e9,h9];exact Y0.made _ _ _ _ _ rfl);have l_OB:RR<OB:=by omega
 have h8:OB<w4.heap.size:=by rw[e9,h9];simp
 rw[<-e9,<-h9];clear e9 h9;have V3:=jn hb V3;have D6:=jn hb D6;have V4:=jn hb V4;have HRR:=jn hb HRR;have HF:=jh (HF.out.later hb (by omega));have U2:=jv U2 hb.size;have B:=jw B hb;clear hb;have GN:=n9;have dD:=f9;have U2:=h8;clear n9 f9 h8;have hwOB:w.heap.size<=OB:=by omega
 obtain⟨X6,V6,U6,P6⟩:=jF D6.out
 go_wp2_with fail
 clear X6 V6 U6 P6;refine(CB.out _).mono ?_;rintro _ w5 ⟨rfl,hb⟩;have V3:=jn hb V3;have D6:=jn hb D6;have V4:=jn hb V4;have HRR:=jn hb HRR;have GN:=jn hb GN;have HF:=jh (HF.out.later hb (by omega));have dD:=jh (dD.out.later hb (by omega));have U2:=jv U2 hb.size;have B:=jw B hb;clear hb
 go_wp2_with fail
 go_loopw [9] (fun i wr=>∃(z:Int) (k o:Nat),Hid (z=(k:Int)-1)/\k<=L/\i=.int .i64 z/\o<m/\Hid (o=a^(n/2^k)%m)/\Hid (U0 wr AA a)/\Hid (U0 wr NN n)/\Hid (U0 wr MM m)/\Hid (U0 wr RR 0)/\Hid (U0 wr OB o)/\Hid (Y0 wr RR 4)/\Hid (Y0 wr OB 4)/\Hid (Below w.heap.size w wr)/\OB<wr.heap.size) (fun i _=>(intOf i+1).toNat)
 case atStart=>exact⟨(L:Int)-1,L,1,jh rfl,Nat.le_refl _,rfl,HM.out,jh (by rw[HL.out,Nat.pow_zero,Nat.mod_eq_of_lt HM.out]),V3,D6,V4,HRR,GN,HF,dD,B,U2⟩
 case round=>
  clear V3 D6 V4 HRR GN HF dD B U2;obtain⟨z,k,o,hz,hk,rfl,TY,HO,V3,D6,V4,HRR,GN,HF,dD,B,U2⟩:=hrel
  by_cases hlt:0<=z
  ·obtain⟨j,rfl⟩:∃j:Nat,z=(j:Int):=⟨z.toNat,by omega⟩;have hkj:k=j+1:=by have:=hz.out;omega
   rw[hkj] at HO hk;clear hz hkj;have hj:j<256:=by omega
   obtain⟨o2,ho2⟩:=je (o*o%m);have hom2:o2<m:=by rw[ho2];exact Nat.mod_lt _ (by have:=HM.out;omega)
   have C1:=jh (fun W=>by have h9:=xG YN.out TY TY W;rewrite[<-ho2] at h9;unfold ji words at h9;exact h9);obtain⟨b,hb⟩:=je (n/2^j%2);have hb2:b=0∨b=1:=by omega
   have C2:=jh (fun W=>by have h9:=oK n (j:Int) W (by omega) (by omega);rewrite[GH hj,<-hb] at h9;unfold ji words at h9;exact h9);have D9:=jh ho2;have HB:=jh hb;clear ho2 hb;obtain⟨SQ,RQ,OQ,NQ⟩:=jF GN.out;obtain⟨F5,V5,U5,Q5⟩:=jF V4.out
   go_wp2_with fail
   clear SQ RQ OQ NQ F5 V5 U5 Q5;refine(C1.out _).mono ?_;rintro _ w6 ⟨rfl,hb⟩;have V3:=jn hb V3;have D6:=jn hb D6;have V4:=jn hb V4;have HRR:=jn hb HRR;have GN:=jn hb GN;have HF:=jh (HF.out.later hb (by omega));have dD:=jh (dD.out.later hb (by omega));have U2:=jv U2 hb.size;have B:=jw B hb;clear hb;obtain⟨y0,y1,y2,y3,y4,y5,y6,y7⟩:=jU GN.out dD.out
   go_upto_region 10 with fail
   clear y0 y1 y2 y3 y4 y5 y6 y7;obtain⟨w7,e9⟩:=je (((((w6.setCell ⟨OB,0,none⟩ (.int .u64 (jg jf o2 0))).setCell ⟨OB,1,none⟩ (.int .u64 (jg jf o2 1))).setCell ⟨OB,2,none⟩ (.int .u64 (jg jf o2 2))).setCell ⟨OB,3,none⟩ (.int .u64 (jg jf o2 3))));rw[<-e9];have V3:=jh (show U0 w7 AA a by rw[e9];exact U0.other4 V3.out (by omega) _ _ _ _);have D6:=jh (show U0 w7 NN n by rw[e9];exact U0.other4 D6.out (by omega) _ _ _ _);have V4:=jh (show U0 w7 MM m by rw[e9];exact U0.other4 V4.out (by omega) _ _ _ _);have HRR:=jh (show U0 w7 RR 0 by rw[e9];exact U0.other4 HRR.out (by omega) _ _ _ _);have GN:=jh (show U0 w7 OB o2 by rw[e9];exact U0.set4 GN.out _);have HF:=jh (show Y0 w7 RR 4 by rw[e9];exact Y0.set4 HF.out _ _ _ _ _ _ _ _);have dD:=jh (show Y0 w7 OB 4 by rw[e9];exact Y0.set4 dD.out _ _ _ _ _ _ _ _);have B:=jh (show Below w.heap.size w w7 by rw[e9];exact jO B.out hwOB _ _ _ _);have U2:OB<w7.heap.size:=by rw[e9];simpa using U2
   clear e9;obtain⟨X6,V6,U6,P6⟩:=jF D6.out
   go_wp2_with fail
   clear X6 V6 U6 P6;refine(C2.out _).mono ?_;rintro _ w8 ⟨rfl,hb⟩;have V3:=jn hb V3;have D6:=jn hb D6;have V4:=jn hb V4;have HRR:=jn hb HRR;have GN:=jn hb GN;have HF:=jh (HF.out.later hb (by omega));have dD:=jh (dD.out.later hb (by omega));have U2:=jv U2 hb.size;have B:=jw B hb;clear hb
   rcases hb2 with rfl|rfl
   ·skip
    have HK:=jh (show o2=a^(n/2^j)%m by rw[D9.out,HO.out];exact VU HB.out.symm)
    go_wp2_with fail
    go_roundw
    case rel=>exact⟨(j:Int)-1,j,o2,jh rfl,by omega,by go_num,hom2,HK,V3,D6,V4,HRR,GN,HF,dD,B,U2⟩
    case measure=>(simp[intOf]<;>omega)
   ·skip
    obtain⟨o3,ho3⟩:=je (o2*a%m);have hom3:o3<m:=by rw[ho3];exact Nat.mod_lt _ (by have:=HM.out;omega)
    have C3:=jh (fun W=>by have h9:=xG YN.out hom2 HA.out W;rewrite[<-ho3] at h9;unfold ji words at h9;exact h9);have HK:=jh (show o3=a^(n/2^j)%m by rw[ho3,D9.out,HO.out];exact UU HB.out.symm);clear ho3;obtain⟨SQ,RQ,OQ,NQ⟩:=jF GN.out;obtain⟨X3,U4,J4,I4⟩:=jF V3.out;obtain⟨F5,V5,U5,Q5⟩:=jF V4.out
    go_wp2_with fail
    clear SQ RQ OQ NQ X3 U4 J4 I4 F5 V5 U5 Q5;refine(C3.out _).mono ?_;rintro _ wb ⟨rfl,hb⟩;have V3:=jn hb V3;have D6:=jn hb D6;have V4:=jn hb V4;have HRR:=jn hb HRR;have GN:=jn hb GN;have HF:=jh (HF.out.later hb (by omega));have dD:=jh (dD.out.later hb (by omega));have U2:=jv U2 hb.size;have B:=jw B hb;clear hb;obtain⟨y0,y1,y2,y3,y4,y5,y6,y7⟩:=jU GN.out dD.out
    go_upto_region 8 with fail
    clear y0 y1 y2 y3 y4 y5 y6 y7;obtain⟨wa,e9⟩:=je (((((wb.setCell ⟨OB,0,none⟩ (.int .u64 (jg jf o3 0))).setCell ⟨OB,1,none⟩ (.int .u64 (jg jf o3 1))).setCell ⟨OB,2,none⟩ (.int .u64 (jg jf o3 2))).setCell ⟨OB,3,none⟩ (.int .u64 (jg jf o3 3))));rw[<-e9];have V3:=jh (show U0 wa AA a by rw[e9];exact U0.other4 V3.out (by omega) _ _ _ _);have D6:=jh (show U0 wa NN n by rw[e9];exact U0.other4 D6.out (by omega) _ _ _ _);have V4:=jh (show U0 wa MM m by rw[e9];exact U0.other4 V4.out (by omega) _ _ _ _);have HRR:=jh (show U0 wa RR 0 by rw[e9];exact U0.other4 HRR.out (by omega) _ _ _ _);have GN:=jh (show U0 wa OB o3 by rw[e9];exact U0.set4 GN.out _);have HF:=jh (show Y0 wa RR 4 by rw[e9];exact Y0.set4 HF.out _ _ _ _ _ _ _ _);have dD:=jh (show Y0 wa OB 4 by rw[e9];exact Y0.set4 dD.out _ _ _ _ _ _ _ _);have B:=jh (show Below w.heap.size w wa by rw[e9];exact jO B.out hwOB _ _ _ _);have U2:OB<wa.heap.size:=by rw[e9];simpa using U2
    clear e9
    go_wp2_with fail
    go_roundw
    case rel=>exact⟨(j:Int)-1,j,o3,jh rfl,by omega,by go_num,hom3,HK,V3,D6,V4,HRR,GN,HF,dD,B,U2⟩
    case measure=>(simp[intOf]<;>omega)
  ·have hk0:k=0:=by have:=hz.out;omega
   have hoq:o=q:=by have h9:=HO.out;rw[hk0,Nat.pow_zero,Nat.div_one] at h9;rw[h9,HQ.out]
   rw[hoq] at GN;clear hz HO hk0 hoq TY;obtain⟨SQ,RQ,OQ,NQ⟩:=jF GN.out;obtain⟨c0,c1,c2,c3,f0,f1,f2,f3⟩:=jU HRR.out HF.out
   go_wp2_with fail
   obtain⟨N7,B9⟩:=zP HRR B Z5 q;obtain⟨g0,g1,g2,g3⟩:=jF N7.out;refine bodyPost_ret (v:=.tuple #[ji q,.int .i64 0]) ?_ rfl ⟨rfl,B9.out⟩
   simp[results,results195,go_sem,ji,words,g0,g1,g2,g3]
theorem aX{a n m:Nat}(hn:n<jk)(hm:m<jk)(h1:1<m)(ha:a<m)(w:World):
  Calls prog 195 #[ji a,ji n,ji m] w fun e w'=>e=.returned (.tuple #[ji (a^n%m),.int .i64 0])/\Below w.heap.size w w':=by
 by_cases h:m<jf
 ·exact RExp_word hn hm h1 ha h w
 ·exact RExp_long hn hm h1 ha h w
theorem add_cases{a b m:Nat}(ha:a<m)(hb:b<m)(hm:m<jk):(zG a b=a+b/\zt a b=0/\a+b<jk)∨(zG a b+jk=a+b/\zt a b=1):=by
 unfold zG zt
 rcases Nat.lt_or_ge (a+b) jk with h|h
 ·exact .inl ⟨Nat.mod_eq_of_lt h,Nat.div_eq_of_lt h,h⟩
 ·refine .inr ⟨?_,?_⟩
  ·rw[Nat.mod_eq_sub_mod h,Nat.mod_eq_of_lt (by omega)];omega
  ·exact Nat.div_eq_of_lt_le (by omega) (by omega)
theorem YO{a b m:Nat}(ha:a<m)(hb:b<m)(hm:m<jk):(zt a b=1/\Jk (zG a b) m=(a+b)%m)∨(zt a b=0/\m<=zG a b/\Jk (zG a b) m=(a+b)%m)∨(zt a b=0/\zG a b<m/\zG a b=(a+b)%m):=by
 rcases add_cases ha hb hm with⟨h1,h2,h3⟩|⟨h1,h2⟩
 ·rcases Nat.lt_or_ge (a+b) m with h|h
  ·exact .inr (.inr ⟨h2,by omega,by rw[h1,Nat.mod_eq_of_lt h]⟩)
  ·refine .inr (.inl ⟨h2,by omega,?_⟩);rw[IQ (by omega) (Zl a b),h1,Nat.mod_eq_sub_mod h,Nat.mod_eq_of_lt (by omega)]
 ·refine .inl ⟨h2,?_⟩;unfold Jk;rw[Nat.mod_eq_of_lt (by omega),Nat.mod_eq_sub_mod (by omega),Nat.mod_eq_of_lt (by omega)];omega
theorem mO{a b m:Nat}(ha:a<m)(hb:b<m)(hm:m<jk):(zq a b=1/\zG (Jk a b) m=(a+m-b)%m)∨(zq a b=0/\Jk a b=(a+m-b)%m):=by
 unfold zq
 rcases Nat.lt_or_ge a b with h|h
 ·refine .inl ⟨if_pos h,?_⟩;unfold zG Jk;rw[Nat.mod_eq_of_lt (a:=a+jk-b) (by omega),Nat.mod_eq_of_lt (a:=a+m-b) (by omega),show a+jk-b+m=(a+m-b)+jk by omega,Nat.add_mod_right,Nat.mod_eq_of_lt (by omega)]
 ·refine .inr ⟨if_neg (by omega),?_⟩;rw[IQ h (by omega),show a+m-b=(a-b)+m by omega,Nat.add_mod_right,Nat.mod_eq_of_lt (by omega)]
theorem RAddM_no{a b m:Nat}(ha:a<jk)(L6:b<jk)(hm:m<jk)(hmay:¬(1<m/\a<m/\b<m))(w:World):
  Calls prog 236 #[ji a,ji b,ji m] w fun e w'=>e=.returned (.tuple #[ji 0,.int .i64 1])/\Below w.heap.size w w':=by
 have CM:=jh (fun W=>by have h9:=ZC ha L6 hm W;rewrite[decide_eq_false hmay] at h9;unfold ji words at h9;exact h9);clear ha L6 hm hmay;unfold ji words
 go_enter func236,ntmps236
 go_wp2_with fail
 obtain⟨wz,AA,BB,MM,RR,e9,Y5,h_1,h_2,h_3,V3,X4,V4,HRR,HF,B,I7,l_1,NC,BI,xA,Z5,U2⟩:=zT w 24 a b m;rw[e9,Y5,h_1,h_2,h_3];clear e9 Y5 h_1 h_2 h_3;refine(CM.out _).mono ?_;rintro _ w1 ⟨rfl,hb⟩;have V3:=jn hb V3;have X4:=jn hb X4;have V4:=jn hb V4;have HRR:=jn hb HRR;have HF:=jh (HF.out.later hb (by omega));have U2:=jv U2 hb.size;have B:=jw B hb;clear hb;obtain⟨c0,c1,c2,c3,f0,f1,f2,f3⟩:=jU HRR.out HF.out
 go_wp2_with fail
 have B9:=jh (jO B.out Z5 (.int .u64 0) (.int .u64 0) (.int .u64 0) (.int .u64 0));refine bodyPost_ret (v:=.tuple #[.agg #[.int .u64 0,.int .u64 0,.int .u64 0,.int .u64 0],.int .i64 1]) ?_ rfl ⟨by simp only[jN];rfl,B9.out⟩
 simp[results,results236,go_sem,c0,c1,c2,c3]
theorem RAddM_yes{a b m:Nat}(hm:m<jk)(hmay:1<m/\a<m/\b<m)(w:World):
  Calls prog 236 #[ji a,ji b,ji m] w fun e w'=>e=.returned (.tuple #[ji ((a+b)%m),.int .i64 0])/\Below w.heap.size w w':=by
 have ha:=Nat.lt_trans hmay.2.1 hm;have L6:=Nat.lt_trans hmay.2.2 hm;have CM:=jh (fun W=>by have h9:=ZC ha L6 hm W;rewrite[decide_eq_true hmay] at h9;unfold ji words at h9;exact h9);obtain⟨q,hq⟩:=je ((a+b)%m);rw[<-hq];obtain⟨x,hx⟩:=je (zG a b);obtain⟨c,hc⟩:=je (zt a b);have hxM:x<jk:=by rw[hx];exact Zl a b
 have CA:=jh (fun W=>by have h9:=iU ha L6 W;rewrite[<-hx,<-hc] at h9;unfold ji words at h9;exact h9);have h3:(c=1/\Jk x m=q)∨(c=0/\m<=x/\Jk x m=q)∨(c=0/\x<m/\x=q):=by rw[hx,hc,hq];exact YO hmay.2.1 hmay.2.2 hm
 have CS:=jh (fun W=>yT hxM hm W);have CC:=jh (fun W=>ZU hxM hm W);unfold ji words at CS CC;clear hx hc hq ha L6 hm hmay hxM;unfold ji words
 go_enter func236,ntmps236
 go_wp2_with fail
 obtain⟨wz,AA,BB,MM,RR,e9,Y5,h_1,h_2,h_3,V3,X4,V4,HRR,HF,B,I7,l_1,NC,BI,xA,Z5,U2⟩:=zT w 24 a b m;rw[e9,Y5,h_1,h_2,h_3];clear e9 Y5 h_1 h_2 h_3;refine(CM.out _).mono ?_;rintro _ w1 ⟨rfl,hb⟩;have V3:=jn hb V3;have X4:=jn hb X4;have V4:=jn hb V4;have HRR:=jn hb HRR;have HF:=jh (HF.out.later hb (by omega));have U2:=jv U2 hb.size;have B:=jw B hb;clear hb;obtain⟨X3,U4,J4,I4⟩:=jF V3.out;obtain⟨X5,H6,G6,F6⟩:=jF X4.out
 go_wp2_with fail
 clear X3 U4 J4 I4 X5 H6 G6 F6;refine(CA.out _).mono ?_;rintro _ w2 ⟨rfl,hb⟩;have V3:=jn hb V3;have X4:=jn hb X4;have V4:=jn hb V4;have HRR:=jn hb HRR;have HF:=jh (HF.out.later hb (by omega));have U2:=jv U2 hb.size;have B:=jw B hb;clear hb
 go_upto_region 4 with fail
 obtain⟨w3,XB,e9,h9,hb⟩:=qJ w2 (.cells (jD x) 24);have n9:=jh (show U0 w3 XB x by rw[e9,h9];exact U0.new _ _ _ _ rfl);have f9:=jh (show Y0 w3 XB 4 by rw[e9,h9];exact Y0.made _ _ _ _ _ rfl);have l_XB:RR<XB:=by omega
 have h8:XB<w3.heap.size:=by rw[e9,h9];simp
 rw[<-e9,<-h9];clear e9 h9;have V3:=jn hb V3;have X4:=jn hb X4;have V4:=jn hb V4;have HRR:=jn hb HRR;have HF:=jh (HF.out.later hb (by omega));have U2:=jv U2 hb.size;have B:=jw B hb;clear hb;have HXB:=n9;have VA:=f9;have U2:=h8;clear n9 f9 h8;have hwXB:w.heap.size<=XB:=by omega
 rcases h3 with⟨rfl,hs⟩|⟨rfl,hge,hs⟩|⟨rfl,hlt,hs⟩
 ·skip
  obtain⟨z,hz⟩:=je (zq x m);rw[hs,<-hz] at CS;clear hs hz;obtain⟨L9,J9,H9,G9⟩:=jF HXB.out;obtain⟨F5,V5,U5,Q5⟩:=jF V4.out
  go_wp2_with fail
  clear L9 J9 H9 G9 F5 V5 U5 Q5;refine(CS.out _).mono ?_;rintro _ w5 ⟨rfl,hb⟩;have V3:=jn hb V3;have X4:=jn hb X4;have V4:=jn hb V4;have HRR:=jn hb HRR;have HXB:=jn hb HXB;have HF:=jh (HF.out.later hb (by omega));have VA:=jh (VA.out.later hb (by omega));have U2:=jv U2 hb.size;have B:=jw B hb;clear hb;obtain⟨y0,y1,y2,y3,y4,y5,y6,y7⟩:=jU HXB.out VA.out
  go_upto_region 6 with fail
  clear y0 y1 y2 y3 y4 y5 y6 y7;obtain⟨w6,e9⟩:=je (((((w5.setCell ⟨XB,0,none⟩ (.int .u64 (jg jf q 0))).setCell ⟨XB,1,none⟩ (.int .u64 (jg jf q 1))).setCell ⟨XB,2,none⟩ (.int .u64 (jg jf q 2))).setCell ⟨XB,3,none⟩ (.int .u64 (jg jf q 3))));rw[<-e9];have V3:=jh (show U0 w6 AA a by rw[e9];exact U0.other4 V3.out (by omega) _ _ _ _);have X4:=jh (show U0 w6 BB b by rw[e9];exact U0.other4 X4.out (by omega) _ _ _ _);have V4:=jh (show U0 w6 MM m by rw[e9];exact U0.other4 V4.out (by omega) _ _ _ _);have HRR:=jh (show U0 w6 RR 0 by rw[e9];exact U0.other4 HRR.out (by omega) _ _ _ _);have HXB:=jh (show U0 w6 XB q by rw[e9];exact U0.set4 HXB.out _);have HF:=jh (show Y0 w6 RR 4 by rw[e9];exact Y0.set4 HF.out _ _ _ _ _ _ _ _);have VA:=jh (show Y0 w6 XB 4 by rw[e9];exact Y0.set4 VA.out _ _ _ _ _ _ _ _);have B:=jh (show Below w.heap.size w w6 by rw[e9];exact jO B.out hwXB _ _ _ _);have U2:XB<w6.heap.size:=by rw[e9];simpa using U2
  clear e9;obtain⟨L9,J9,H9,G9⟩:=jF HXB.out;obtain⟨c0,c1,c2,c3,f0,f1,f2,f3⟩:=jU HRR.out HF.out
  go_wp2_with fail
  obtain⟨N7,B9⟩:=zP HRR B Z5 q;obtain⟨g0,g1,g2,g3⟩:=jF N7.out;refine bodyPost_ret (v:=.tuple #[ji q,.int .i64 0]) ?_ rfl ⟨rfl,B9.out⟩
  simp[results,results236,go_sem,ji,words,g0,g1,g2,g3]
 ·skip
  obtain⟨z,hz⟩:=je (zq x m);rw[hs,<-hz] at CS;clear hs hz;obtain⟨k,hk⟩:=je (zk x m);rw[<-hk] at CC;have hk0:0<=k:=by rw[hk];exact iT hge
  clear hk;obtain⟨L9,J9,H9,G9⟩:=jF HXB.out;obtain⟨F5,V5,U5,Q5⟩:=jF V4.out
  go_wp2_with fail
  clear L9 J9 H9 G9 F5 V5 U5 Q5;refine(CC.out _).mono ?_;rintro _ w4 ⟨rfl,hb⟩;have V3:=jn hb V3;have X4:=jn hb X4;have V4:=jn hb V4;have HRR:=jn hb HRR;have HXB:=jn hb HXB;have HF:=jh (HF.out.later hb (by omega));have VA:=jh (VA.out.later hb (by omega));have U2:=jv U2 hb.size;have B:=jw B hb;clear hb;obtain⟨L9,J9,H9,G9⟩:=jF HXB.out;obtain⟨F5,V5,U5,Q5⟩:=jF V4.out
  go_wp2_with fail
  clear L9 J9 H9 G9 F5 V5 U5 Q5;refine(CS.out _).mono ?_;rintro _ w5 ⟨rfl,hb⟩;have V3:=jn hb V3;have X4:=jn hb X4;have V4:=jn hb V4;have HRR:=jn hb HRR;have HXB:=jn hb HXB;have HF:=jh (HF.out.later hb (by omega));have VA:=jh (VA.out.later hb (by omega));have U2:=jv U2 hb.size;have B:=jw B hb;clear hb;obtain⟨y0,y1,y2,y3,y4,y5,y6,y7⟩:=jU HXB.out VA.out
  go_upto_region 6 with fail
  clear y0 y1 y2 y3 y4 y5 y6 y7;obtain⟨w6,e9⟩:=je (((((w5.setCell ⟨XB,0,none⟩ (.int .u64 (jg jf q 0))).setCell ⟨XB,1,none⟩ (.int .u64 (jg jf q 1))).setCell ⟨XB,2,none⟩ (.int .u64 (jg jf q 2))).setCell ⟨XB,3,none⟩ (.int .u64 (jg jf q 3))));rw[<-e9];have V3:=jh (show U0 w6 AA a by rw[e9];exact U0.other4 V3.out (by omega) _ _ _ _);have X4:=jh (show U0 w6 BB b by rw[e9];exact U0.other4 X4.out (by omega) _ _ _ _);have V4:=jh (show U0 w6 MM m by rw[e9];exact U0.other4 V4.out (by omega) _ _ _ _);have HRR:=jh (show U0 w6 RR 0 by rw[e9];exact U0.other4 HRR.out (by omega) _ _ _ _);have HXB:=jh (show U0 w6 XB q by rw[e9];exact U0.set4 HXB.out _);have HF:=jh (show Y0 w6 RR 4 by rw[e9];exact Y0.set4 HF.out _ _ _ _ _ _ _ _);have VA:=jh (show Y0 w6 XB 4 by rw[e9];exact Y0.set4 VA.out _ _ _ _ _ _ _ _);have B:=jh (show Below w.heap.size w w6 by rw[e9];exact jO B.out hwXB _ _ _ _);have U2:XB<w6.heap.size:=by rw[e9];simpa using U2
  clear e9;obtain⟨L9,J9,H9,G9⟩:=jF HXB.out;obtain⟨c0,c1,c2,c3,f0,f1,f2,f3⟩:=jU HRR.out HF.out
  go_wp2_with fail
  obtain⟨N7,B9⟩:=zP HRR B Z5 q;obtain⟨g0,g1,g2,g3⟩:=jF N7.out;refine bodyPost_ret (v:=.tuple #[ji q,.int .i64 0]) ?_ rfl ⟨rfl,B9.out⟩
  simp[results,results236,go_sem,ji,words,g0,g1,g2,g3]
 ·skip
  have oU:=jh hs;clear hs;obtain⟨k,hk⟩:=je (zk x m);rw[<-hk] at CC;have hk0:k<0:=by rw[hk];rw[Qj hlt];decide
  clear hk;obtain⟨L9,J9,H9,G9⟩:=jF HXB.out;obtain⟨F5,V5,U5,Q5⟩:=jF V4.out
  go_wp2_with fail
  clear L9 J9 H9 G9 F5 V5 U5 Q5;refine(CC.out _).mono ?_;rintro _ w4 ⟨rfl,hb⟩;have V3:=jn hb V3;have X4:=jn hb X4;have V4:=jn hb V4;have HRR:=jn hb HRR;have HXB:=jn hb HXB;have HF:=jh (HF.out.later hb (by omega));have VA:=jh (VA.out.later hb (by omega));have U2:=jv U2 hb.size;have B:=jw B hb;clear hb
  go_upto_region 6 with fail
  rw[oU.out] at HXB;obtain⟨L9,J9,H9,G9⟩:=jF HXB.out;obtain⟨c0,c1,c2,c3,f0,f1,f2,f3⟩:=jU HRR.out HF.out
  go_wp2_with fail
  obtain⟨N7,B9⟩:=zP HRR B Z5 q;obtain⟨g0,g1,g2,g3⟩:=jF N7.out;refine bodyPost_ret (v:=.tuple #[ji q,.int .i64 0]) ?_ rfl ⟨rfl,B9.out⟩
  simp[results,results236,go_sem,ji,words,g0,g1,g2,g3]
theorem RSubM_yes{a b m:Nat}(hm:m<jk)(hmay:1<m/\a<m/\b<m)(w:World):
  Calls prog 196 #[ji a,ji b,ji m] w fun e w'=>e=.returned (.tuple #[ji ((a+m-b)%m),.int .i64 0])/\Below w.heap.size w w':=by
 have ha:=Nat.lt_trans hmay.2.1 hm;have L6:=Nat.lt_trans hmay.2.2 hm;have CM:=jh (fun W=>by have h9:=ZC ha L6 hm W;rewrite[decide_eq_true hmay] at h9;unfold ji words at h9;exact h9);obtain⟨q,hq⟩:=je ((a+m-b)%m);rw[<-hq];obtain⟨x,hx⟩:=je (Jk a b);obtain⟨c,hc⟩:=je (zq a b);have hxM:x<jk:=by rw[hx];exact FQ a b
 have CA:=jh (fun W=>by have h9:=yT ha L6 W;rewrite[<-hx,<-hc] at h9;unfold ji words at h9;exact h9);have h3:(c=1/\zG x m=q)∨(c=0/\x=q):=by rw[hx,hc,hq];exact mO hmay.2.1 hmay.2.2 hm
 have CS:=jh (fun W=>iU hxM hm W);unfold ji words at CS;clear hx hc hq ha L6 hm hmay hxM;unfold ji words
 go_enter func196,ntmps196
 go_wp2_with fail
 obtain⟨wz,AA,BB,MM,RR,e9,Y5,h_1,h_2,h_3,V3,X4,V4,HRR,HF,B,I7,l_1,NC,BI,xA,Z5,U2⟩:=zT w 24 a b m;rw[e9,Y5,h_1,h_2,h_3];clear e9 Y5 h_1 h_2 h_3;refine(CM.out _).mono ?_;rintro _ w1 ⟨rfl,hb⟩;have V3:=jn hb V3;have X4:=jn hb X4;have V4:=jn hb V4;have HRR:=jn hb HRR;have HF:=jh (HF.out.later hb (by omega));have U2:=jv U2 hb.size;have B:=jw B hb;clear hb;obtain⟨X3,U4,J4,I4⟩:=jF V3.out;obtain⟨X5,H6,G6,F6⟩:=jF X4.out
 go_wp2_with fail
 clear X3 U4 J4 I4 X5 H6 G6 F6;refine(CA.out _).mono ?_;rintro _ w2 ⟨rfl,hb⟩;have V3:=jn hb V3;have X4:=jn hb X4;have V4:=jn hb V4;have HRR:=jn hb HRR;have HF:=jh (HF.out.later hb (by omega));have U2:=jv U2 hb.size;have B:=jw B hb;clear hb
 go_upto_region 4 with fail
 obtain⟨w3,XB,e9,h9,hb⟩:=qJ w2 (.cells (jD x) 24);have n9:=jh (show U0 w3 XB x by rw[e9,h9];exact U0.new _ _ _ _ rfl);have f9:=jh (show Y0 w3 XB 4 by rw[e9,h9];exact Y0.made _ _ _ _ _ rfl);have l_XB:RR<XB:=by omega
 have h8:XB<w3.heap.size:=by rw[e9,h9];simp
 rw[<-e9,<-h9];clear e9 h9;have V3:=jn hb V3;have X4:=jn hb X4;have V4:=jn hb V4;have HRR:=jn hb HRR;have HF:=jh (HF.out.later hb (by omega));have U2:=jv U2 hb.size;have B:=jw B hb;clear hb;have HXB:=n9;have VA:=f9;have U2:=h8;clear n9 f9 h8;have hwXB:w.heap.size<=XB:=by omega
 rcases h3 with⟨rfl,hs⟩|⟨rfl,hs⟩
 ·skip
  obtain⟨z,hz⟩:=je (zt x m);rw[hs,<-hz] at CS;clear hs hz;obtain⟨L9,J9,H9,G9⟩:=jF HXB.out;obtain⟨F5,V5,U5,Q5⟩:=jF V4.out
  go_wp2_with fail
  clear L9 J9 H9 G9 F5 V5 U5 Q5;refine(CS.out _).mono ?_;rintro _ w5 ⟨rfl,hb⟩;have V3:=jn hb V3;have X4:=jn hb X4;have V4:=jn hb V4;have HRR:=jn hb HRR;have HXB:=jn hb HXB;have HF:=jh (HF.out.later hb (by omega));have VA:=jh (VA.out.later hb (by omega));have U2:=jv U2 hb.size;have B:=jw B hb;clear hb;obtain⟨y0,y1,y2,y3,y4,y5,y6,y7⟩:=jU HXB.out VA.out
  go_upto_region 6 with fail
  clear y0 y1 y2 y3 y4 y5 y6 y7;obtain⟨w6,e9⟩:=je (((((w5.setCell ⟨XB,0,none⟩ (.int .u64 (jg jf q 0))).setCell ⟨XB,1,none⟩ (.int .u64 (jg jf q 1))).setCell ⟨XB,2,none⟩ (.int .u64 (jg jf q 2))).setCell ⟨XB,3,none⟩ (.int .u64 (jg jf q 3))));rw[<-e9];have V3:=jh (show U0 w6 AA a by rw[e9];exact U0.other4 V3.out (by omega) _ _ _ _);have X4:=jh (show U0 w6 BB b by rw[e9];exact U0.other4 X4.out (by omega) _ _ _ _);have V4:=jh (show U0 w6 MM m by rw[e9];exact U0.other4 V4.out (by omega) _ _ _ _);have HRR:=jh (show U0 w6 RR 0 by rw[e9];exact U0.other4 HRR.out (by omega) _ _ _ _);have HXB:=jh (show U0 w6 XB q by rw[e9];exact U0.set4 HXB.out _);have HF:=jh (show Y0 w6 RR 4 by rw[e9];exact Y0.set4 HF.out _ _ _ _ _ _ _ _);have VA:=jh (show Y0 w6 XB 4 by rw[e9];exact Y0.set4 VA.out _ _ _ _ _ _ _ _);have B:=jh (show Below w.heap.size w w6 by rw[e9];exact jO B.out hwXB _ _ _ _);have U2:XB<w6.heap.size:=by rw[e9];simpa using U2
  clear e9;obtain⟨L9,J9,H9,G9⟩:=jF HXB.out;obtain⟨c0,c1,c2,c3,f0,f1,f2,f3⟩:=jU HRR.out HF.out
  go_wp2_with fail
  obtain⟨N7,B9⟩:=zP HRR B Z5 q;obtain⟨g0,g1,g2,g3⟩:=jF N7.out;refine bodyPost_ret (v:=.tuple #[ji q,.int .i64 0]) ?_ rfl ⟨rfl,B9.out⟩
  simp[results,results196,go_sem,ji,words,g0,g1,g2,g3]
 ·skip
  have oU:=jh hs;clear hs
  go_upto_region 6 with fail
  rw[oU.out] at HXB;obtain⟨L9,J9,H9,G9⟩:=jF HXB.out;obtain⟨c0,c1,c2,c3,f0,f1,f2,f3⟩:=jU HRR.out HF.out
  go_wp2_with fail
  obtain⟨N7,B9⟩:=zP HRR B Z5 q;obtain⟨g0,g1,g2,g3⟩:=jF N7.out;refine bodyPost_ret (v:=.tuple #[ji q,.int .i64 0]) ?_ rfl ⟨rfl,B9.out⟩
  simp[results,results196,go_sem,ji,words,g0,g1,g2,g3]
end Go.Proofs.YtpkalgofejjggaaGreatDoor
