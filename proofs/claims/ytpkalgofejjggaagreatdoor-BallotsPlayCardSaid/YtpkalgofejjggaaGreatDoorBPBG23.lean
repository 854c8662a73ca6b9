/- Layer 3 (divides) -/
import Derived.Test.YtpkalgofejjggaaGreatDoorBPBG22
import Derived.Test.YtpkalgofejjggaaGreatDoorBPBG11
set_option linter.unusedSimpArgs false
set_option linter.unusedVariables false
set_option maxHeartbeats 8000000
set_option maxRecDepth 100000
namespace Go.Proofs.YtpkalgofejjggaaGreatDoor
open Go.ChangeShapes Go.WideShapes Go.ChangeAt Go.RowKit Go.Proofs.Tryz
theorem eq_zero(m:Nat)(hm:m<jk)(w:World):(binOp .eql 24 (.agg #[.int .u64 (jg jf m 0),.int .u64 (jg jf m 1),.int .u64 (jg jf m 2),.int .u64 (jg jf m 3)]) (.agg #[.int .u64 0,.int .u64 0,.int .u64 0,.int .u64 0])).run prog w=.ok (.bool (decide (m=0))) w:=by
 have h:=qX m 0 hm zI w;simp only[jN] at h;exact h
theorem qV(w:World)(t:TypeId):U0 (w.alloc (.cells #[.int .u64 0,.int .u64 0,.int .u64 0,.int .u64 0] t)) w.heap.size 0:=fun j hj=>by
 rw[jN];have:j=0∨j=1∨j=2∨j=3:=by omega
 rcases this with rfl|rfl|rfl|rfl<;>simp
theorem idx0(a0 a1 a2 a3 a4 a5 a6 a7:Value)(w:World):(Instr.index 317 (.agg #[a0,a1,a2,a3,a4,a5,a6,a7]) (.int .i64 0)).run prog w=.ok (.agg #[a0,a1,a2,a3]) w:=by kernel_rfl
theorem idx1(a0 a1 a2 a3 a4 a5 a6 a7:Value)(w:World):(Instr.index 317 (.agg #[a0,a1,a2,a3,a4,a5,a6,a7]) (.int .i64 1)).run prog w=.ok (.agg #[a4,a5,a6,a7]) w:=by kernel_rfl
theorem LW{P A k m r:Nat}(hk:k<256)(hr:r=(P*2^k+A/2^(256-k))%m)(hm:0<m):Zw r (Qu A ((255-k:Nat):Int)) m=(P*2^(k+1)+A/2^(256-(k+1)))%m:=by
 have hb:Qu A ((255-k:Nat):Int)=A/2^(255-k)%2:=by
  unfold Qu;rw[if_neg (by omega),Int.toNat_natCast]
 have L8:r<m:=by rw[hr];exact Nat.mod_lt _ hm
 rw[nV L8 (by rw[hb];omega),hb,hr];obtain⟨i,hi⟩:=je (255-k);rw[<-hi,show 256-k=i+1 by omega,show 256-(k+1)=i by omega];have e1:A/2^(i+1)=A/2^i/2:=by rw[Nat.pow_succ,Nat.div_div_eq_div_mul]
 have e2:P*2^(k+1)=2*(P*2^k):=by rw[Nat.pow_succ];rw[<-Nat.mul_assoc,Nat.mul_comm]
 rw[e1,e2];obtain⟨x,hx⟩:=je (P*2^k);obtain⟨y,hy⟩:=je (A/2^i);rw[<-hx,<-hy];have h2:2*x+y=2*(x+y/2)+y%2:=by omega
 rw[h2,Nat.add_mod,Nat.mul_mod,Nat.mod_mod,<-Nat.mul_mod,<-Nat.add_mod]
theorem FK{P A m:Nat}(hA:A<jk)(hP:P<m):P=(P*2^0+A/2^(256-0))%m:=by
 rw[show A/2^(256-0)=0 from Nat.div_eq_of_lt (by rw[<-xC];exact hA),Nat.pow_zero,Nat.mul_one,Nat.add_zero,Nat.mod_eq_of_lt hP]
theorem lW{P A m r:Nat}(h:r=(P*2^256+A/2^(256-256))%m):r=(P*jk+A)%m:=by
 rw[h,<-xC,Nat.sub_self,Nat.pow_zero,Nat.div_one]
theorem last_step{hi lo m r P Q:Nat}(h2:r=(P*jk+lo)%m)(h1:P=(0*jk+hi)%m)(hQ:Q=(hi*jk+lo)%m):r=Q:=by
 rw[h2,h1,hQ,Nat.zero_mul,Nat.zero_add,Nat.add_mod,Nat.mul_mod,Nat.mod_mod,<-Nat.mul_mod,<-Nat.add_mod]
theorem bitN_le(a:Nat)(i:Int):Qu a i<=1:=by
 unfold Qu
 split
 ·omega
 ·omega
theorem wide_long{lo hi m:Nat}(hlo:lo<jk)(hhi:hi<jk)(hm:m<jk)(hml:jf<=m)(w:World):Calls prog 209 #[ji lo,ji hi,ji m] w fun e w'=>e=.returned (.tuple #[ji ((hi*jk+lo)%m),.int .i64 0])/\Below w.heap.size w w':=by
 have i0:=idx0;have i1:=idx1;have hm0:0<m:=by unfold jf at hml;omega
 have HLO:=jh hlo;have HHI:=jh hhi;have V4:=jh hm;have pU:=jh hm0;have hz:=fun w=>eq_zero m hm w
 rw[decide_eq_false (show¬m=0 by omega)] at hz;have CS:=jh (fun w=>by have h:=short_any hm w;rw[decide_eq_false (show¬m<jf by omega)] at h;exact h);obtain⟨Q9,hQ9⟩:=je ((hi*jk+lo)%m);rw[<-hQ9];have HQ9:=jh hQ9;clear hQ9 hlo hhi hm hml hm0;unfold ji words at*
 go_enter func209,ntmps209
 go_wp2_with fail
 obtain⟨wa,ea⟩:=je (w.alloc (.cells (jD lo) 24));obtain⟨wb,eb⟩:=je (wa.alloc (.cells (jD hi) 24));obtain⟨wc,ec⟩:=je (wb.alloc (.cells (jD m) 24));obtain⟨wd,ed⟩:=je (wc.alloc (.cells jA 24));have sa:wa.heap.size=w.heap.size+1:=by rw[ea];simp
 have sb:wb.heap.size=w.heap.size+1+1:=by rw[eb];simp[sa]
 have sc:wc.heap.size=w.heap.size+1+1+1:=by rw[ec];simp[sb]
 have sd:wd.heap.size=w.heap.size+1+1+1+1:=by rw[ed];simp[sc]
 have ba:=jc ea;have bb:=jc eb;have bc:=jc ec;have bd:=jc ed;have na:U0 wa w.heap.size lo:=by rw[ea];exact U0.new w lo _ _ rfl
 have nb:U0 wb (w.heap.size+1) hi:=by rw[eb];exact U0.new wa hi _ _ sa.symm
 have nc:U0 wc (w.heap.size+1+1) m:=by rw[ec];exact U0.new wb m _ _ sb.symm
 have nd:U0 wd (w.heap.size+1+1+1) 0:=by rw[ed,<-sc];exact qV wc _
 have fd:Y0 wd (w.heap.size+1+1+1) 4:=by rw[ed];exact Y0.made wc _ _ 4 _ sc.symm
 rw[<-ea,<-eb,<-ec,<-ed];obtain⟨LL,hL⟩:=je (w.heap.size);obtain⟨HH,hH⟩:=je (LL+1);obtain⟨MM,hM⟩:=je (HH+1);obtain⟨RR,hR⟩:=je (MM+1);have xA:w.heap.size<=LL:=by omega
 have U2:RR<wd.heap.size:=by omega
 rw[<-hL] at na nb nc nd fd⊢;rw[<-hH] at nb nc nd fd⊢;rw[<-hM] at nc nd fd⊢;rw[<-hR] at nd fd⊢;have hLH:LL<HH:=by omega
 have hHM:HH<MM:=by omega
 have hMR:MM<RR:=by omega
 have HA:=jh (U0.later bd (U0.later bc (U0.later bb na)));have HB:=jh (U0.later bd (U0.later bc nb));have HC:=jh (U0.later bd nc);have HR:=jh nd;have HF:=jh fd;have B:=jh (((ba.trans (bb.mono (by omega))).trans (bc.mono (by omega))).trans (bd.mono (by omega)));clear ea eb ec ed sa sb sc sd ba bb bc bd na nb nc nd fd hL hH hM hR;refine(CS.out wd).mono ?_;rintro _ w2 ⟨rfl,hb⟩;have hR2:RR<w2.heap.size:=jv U2 hb.size;have HF:=jh (HF.out.later hb U2);have HA:=jn hb HA;have HB:=jn hb HB;have HC:=jn hb HC;have HR:=jn hb HR;have B:=jw B hb;clear hb U2;obtain⟨a0,a1,a2,a3⟩:=jF HA.out;obtain⟨b0,b1,b2,b3⟩:=jF HB.out
 go_wp2_with fail
 refine wp_loop_rounds 3 ?_;rw[rounds_succ]
 skip
 go_wp2_with fail
 have hwR:w.heap.size<=RR:=by omega
 obtain⟨wx,ex⟩:=je (w2.alloc (.cells (jD hi) 24));have hb:=jc ex;obtain⟨AA,hAA⟩:=je (w2.heap.size);have HN:=jh (show U0 wx AA hi by rw[ex];exact U0.new w2 hi _ _ hAA);have hRA:RR≠AA:=by omega
 have hMA:MM≠RR:=by omega
 have hAR:AA≠RR:=by omega
 have HAlt:=jh (show AA<wx.heap.size by rw[ex,hAA];simp);have hR3:RR<wx.heap.size:=jv hR2 hb.size;rw[<-ex,<-hAA];have HF:=jh (HF.out.later hb hR2);have HC:=jn hb HC;have HR:=jn hb HR;have B:=jw B hb;clear hb ex hAA
 go_loopw [47] (fun i wr=>∃k r:Nat,k<=256/\i=.int .i64 k/\r<m/\Hid (r=(0*2^k+hi/2^(256-k))%m)/\Hid (U0 wr RR r)/\Hid (Y0 wr RR 4)/\Hid (U0 wr AA hi)/\Hid (U0 wr MM m)/\Hid (Below w.heap.size w wr)/\RR<wr.heap.size) (fun i _=>256-(intOf i).toNat)
 case atStart=>exact⟨0,0,by omega,rfl,pU.out,jh (FK HHI.out pU.out),HR,HF,HN,HC,B,hR3⟩
 case round=>
  obtain⟨k,r,hk,rfl,hrm,HK,HR,HF,HN,HC,B,hRlt⟩:=hrel
  by_cases hlt:k<256
  ·have O6:(k:Int)<256:=by omega
   obtain⟨j,hj⟩:=je (255-k);have e255:(255:Int)-(k:Int)=(j:Int):=by omega
   obtain⟨b,hb⟩:=je (Qu hi ((255-k:Nat):Int));have hb1:b<=1:=by rw[hb];exact bitN_le _ _
   obtain⟨r2,hr2⟩:=je (Zw r b m);obtain⟨fl,hfl⟩:=je (eH r b m);have CB:=jh (fun w=>by have h:=fK (a:=hi) (j:Int) w (by omega) (by omega);rw[hj,<-hb,<-hj] at h;unfold ji words at h;exact h);have CN:=jh (fun w=>by have h:=next_any hrm hb1 V4.out w;rw[<-hr2,<-hfl] at h;unfold ji words at h;exact h);have hr2m:r2<m:=by rw[hr2];exact mV hrm hb1
   have rU:=jh (show r2=(0*2^(k+1)+hi/2^(256-(k+1)))%m by rw[hr2,hb];exact LW hlt HK.out pU.out);clear hj hb hr2 hfl
   go_wp2_with fail
   refine zM 10 (fun F O9 hcl hbl=>?_);obtain⟨r_R_0,r_R_1,r_R_2,r_R_3⟩:=qF hbl HR;obtain⟨r_A_0,r_A_1,r_A_2,r_A_3⟩:=qF hbl HN;obtain⟨r_M_0,r_M_1,r_M_2,r_M_3⟩:=qF hbl HC;have I5:=jh hcl;clear hcl hbl;refine zL 10 ?_;simp only[zo,zn,zm,zl,Nat.reduceAdd]
   repeat (go_big_quiet_step ((first|(go_at_call 206;exact jp I5.out (CB.out _))|(go_at_call 257;exact jp I5.out (CN.out _)))))
   refine wpQuiet_nil ?_;refine jS ?_;intro bs w5 hb5 _ _;clear r_R_0 r_R_1 r_R_2 r_R_3 r_A_0 r_A_1 r_A_2 r_A_3 r_M_0 r_M_1 r_M_2 r_M_3;have lK:=jn hb5 HR;have HF5:=jh (HF.out.later hb5 hRlt);have HN5:=jn hb5 HN;have HC5:=jn hb5 HC;have B5:=jw B hb5;have hRlt5:RR<w5.heap.size:=jv hRlt hb5.size;clear hb5;simp only[over];obtain⟨c0,c1,c2,c3,f0,f1,f2,f3⟩:=jU lK.out HF5.out
   go_wp2_with fail
   go_roundw
   case rel=>exact⟨k+1,r2,by omega,by go_num,hr2m,rU,jh (U0.set4 lK.out r2),jh (Y0.set4 HF5.out _ _ _ _ _ _ _ _),jh (U0.other4 HN5.out hAR _ _ _ _),jh (U0.other4 HC5.out hMA _ _ _ _),jh (jO B5.out hwR _ _ _ _),by simpa using hRlt5⟩
   case measure=>simp[intOf];omega
  ·obtain rfl:k=256:=by omega
   have O6:¬(((256:Nat):Int)<256):=by omega
   have HE:=jh (lW HK.out);have hPm:=hrm;obtain⟨P9,hP9⟩:=je (r);rw[<-hP9] at HE HR hPm;have HEx:=HE;clear hP9 HK;have hR2:=hRlt
   go_wp2_with fail
   rw[rounds_succ]
   go_wp2_with fail
   obtain⟨wy,ey⟩:=je (wr.alloc (.cells (jD lo) 24));have hb:=jc ey;obtain⟨AA,hAA⟩:=je (wr.heap.size);have HN:=jh (show U0 wy AA lo by rw[ey];exact U0.new wr lo _ _ hAA);have hRA:RR≠AA:=by omega
   have hMA:MM≠RR:=by omega
   have hAR:AA≠RR:=by omega
   have HAlt:=jh (show AA<wy.heap.size by rw[ey,hAA];simp);have hR3:RR<wy.heap.size:=jv hR2 hb.size;rw[<-ey,<-hAA];have HF:=jh (HF.out.later hb hR2);have HC:=jn hb HC;have HR:=jn hb HR;have B:=jw B hb;clear hb ey hAA
   go_loopw [47] (fun i wr=>∃k r:Nat,k<=256/\i=.int .i64 k/\r<m/\Hid (r=(P9*2^k+lo/2^(256-k))%m)/\Hid (U0 wr RR r)/\Hid (Y0 wr RR 4)/\Hid (U0 wr AA lo)/\Hid (U0 wr MM m)/\Hid (Below w.heap.size w wr)/\RR<wr.heap.size) (fun i _=>256-(intOf i).toNat)
   case atStart=>exact⟨0,P9,by omega,rfl,hPm,jh (FK HLO.out hPm),HR,HF,HN,HC,B,hR3⟩
   case round=>
    obtain⟨k,r,hk,rfl,hrm,HK,HR,HF,HN,HC,B,hRlt⟩:=hrel
    by_cases hlt:k<256
    ·have O6:(k:Int)<256:=by omega
     obtain⟨j,hj⟩:=je (255-k);have e255:(255:Int)-(k:Int)=(j:Int):=by omega
     obtain⟨b,hb⟩:=je (Qu lo ((255-k:Nat):Int));have hb1:b<=1:=by rw[hb];exact bitN_le _ _
     obtain⟨r2,hr2⟩:=je (Zw r b m);obtain⟨fl,hfl⟩:=je (eH r b m);have CB:=jh (fun w=>by have h:=fK (a:=lo) (j:Int) w (by omega) (by omega);rw[hj,<-hb,<-hj] at h;unfold ji words at h;exact h);have CN:=jh (fun w=>by have h:=next_any hrm hb1 V4.out w;rw[<-hr2,<-hfl] at h;unfold ji words at h;exact h);have hr2m:r2<m:=by rw[hr2];exact mV hrm hb1
     have rU:=jh (show r2=(P9*2^(k+1)+lo/2^(256-(k+1)))%m by rw[hr2,hb];exact LW hlt HK.out pU.out);clear hj hb hr2 hfl
     go_wp2_with fail
     refine zM 10 (fun F O9 hcl hbl=>?_);obtain⟨r_R_0,r_R_1,r_R_2,r_R_3⟩:=qF hbl HR;obtain⟨r_A_0,r_A_1,r_A_2,r_A_3⟩:=qF hbl HN;obtain⟨r_M_0,r_M_1,r_M_2,r_M_3⟩:=qF hbl HC;have I5:=jh hcl;clear hcl hbl;refine zL 10 ?_;simp only[zo,zn,zm,zl,Nat.reduceAdd]
     repeat (go_big_quiet_step ((first|(go_at_call 206;exact jp I5.out (CB.out _))|(go_at_call 257;exact jp I5.out (CN.out _)))))
     refine wpQuiet_nil ?_;refine jS ?_;intro bs w5 hb5 _ _;clear r_R_0 r_R_1 r_R_2 r_R_3 r_A_0 r_A_1 r_A_2 r_A_3 r_M_0 r_M_1 r_M_2 r_M_3;have lK:=jn hb5 HR;have HF5:=jh (HF.out.later hb5 hRlt);have HN5:=jn hb5 HN;have HC5:=jn hb5 HC;have B5:=jw B hb5;have hRlt5:RR<w5.heap.size:=jv hRlt hb5.size;clear hb5;simp only[over];obtain⟨c0,c1,c2,c3,f0,f1,f2,f3⟩:=jU lK.out HF5.out
     go_wp2_with fail
     go_roundw
     case rel=>exact⟨k+1,r2,by omega,by go_num,hr2m,rU,jh (U0.set4 lK.out r2),jh (Y0.set4 HF5.out _ _ _ _ _ _ _ _),jh (U0.other4 HN5.out hAR _ _ _ _),jh (U0.other4 HC5.out hMA _ _ _ _),jh (jO B5.out hwR _ _ _ _),by simpa using hRlt5⟩
     case measure=>simp[intOf];omega
    ·obtain rfl:k=256:=by omega
     have O6:¬(((256:Nat):Int)<256):=by omega
     have HE:=jh (lW HK.out);obtain⟨c0,c1,c2,c3,f0,f1,f2,f3⟩:=jU HR.out HF.out;have HQ:=jh (last_step HE.out HEx.out HQ9.out)
     go_wp2_with fail
     rw[rounds_succ]
     go_wp2_with fail
     have N7:=jh (U0.set4 HR.out r);have B9:=jh (jO B.out hwR (.int .u64 (jg jf r 0)) (.int .u64 (jg jf r 1)) (.int .u64 (jg jf r 2)) (.int .u64 (jg jf r 3)));obtain⟨g0,g1,g2,g3⟩:=jF N7.out;rw[HQ.out] at g0 g1 g2 g3 B9⊢;refine bodyPost_ret (v:=.tuple #[ji Q9,.int .i64 0]) ?_ rfl ⟨rfl,B9.out⟩
     simp[results,results209,go_sem,ji,words,g0,g1,g2,g3]
end Go.Proofs.YtpkalgofejjggaaGreatDoor
