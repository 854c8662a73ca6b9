/- Layer 2's reference -/
import Derived.Test.YtpkalgofejjggaaGreatDoorBPBG15
import Derived.Test.YtpkalgofejjggaaGreatDoorBPBG11
import Derived.Deep.RegionWith
set_option maxHeartbeats 2000000
set_option maxRecDepth 20000
namespace Go.Proofs.YtpkalgofejjggaaGreatDoor
open Go.ChangeShapes Go.WideShapes Go.ChangeAt Go.RowKit Go.Proofs.Tryz
theorem start_mul(w:World)(b:Nat)(o0:Obj)(t1 t2 t3:TypeId):∀W,W=((((w.alloc o0).alloc (.cells #[.int .u64 (jg jf b 0),.int .u64 (jg jf b 1),.int .u64 (jg jf b 2),.int .u64 (jg jf b 3)] t1)).alloc (.cells #[.int .u64 0,.int .u64 0,.int .u64 0,.int .u64 0] t2)).alloc (.cells #[.int .u64 0,.int .u64 0,.int .u64 0,.int .u64 0] t3))->
  ∀w1,Below W.heap.size W w1->Below w.heap.size w w1/\U0 w1 (w.heap.size+1) b/\(I8 w1 (w.heap.size+1+1) 4 (fun _=>0)/\Y0 w1 (w.heap.size+1+1) 4)/\(I8 w1 (w.heap.size+1+1+1) 4 (fun _=>0)/\Y0 w1 (w.heap.size+1+1+1) 4)/\w.heap.size+1+1+1<w1.heap.size:=by
 intro W hW w1 hb;have hs:=hb.size;subst hW
 refine⟨(((((Below.refl w.heap.size w).alloc (Nat.le_refl _) _).alloc (by simp) _).alloc (by simp;omega) _).alloc (by simp;omega) _).trans (hb.mono (by simp;omega)),U0.later hb (((U0.new _ _ _ _ (by simp)).alloc _).alloc _),⟨((I8.zero4 _ _ _ (by simp)).alloc _).later hb (by simp),((Y0.made _ _ _ _ _ (by simp)).alloc (by simp) _).later hb (by simp)⟩,
  ⟨(I8.zero4 _ _ _ (by simp)).later hb (by simp),(Y0.made _ _ _ _ _ (by simp)).later hb (by simp)⟩,?_⟩
 simp at hs
 omega
theorem I8.zero32(w:World)(t:TypeId)(b:Nat)(hb:b=w.heap.size):I8 (w.alloc (.cells #[.int .u64 0,.int .u64 0,.int .u64 0,.int .u64 0,.int .u64 0,.int .u64 0,.int .u64 0,.int .u64 0,.int .u64 0,.int .u64 0,.int .u64 0,.int .u64 0,.int .u64 0,.int .u64 0,.int .u64 0,.int .u64 0,.int .u64 0,.int .u64 0,.int .u64 0,.int .u64 0,.int .u64 0,.int .u64 0,.int .u64 0,.int .u64 0,.int .u64 0,.int .u64 0,.int .u64 0,.int .u64 0,.int .u64 0,.int .u64 0,.int .u64 0,.int .u64 0] t)) b 32 (fun _=>0):=by
 subst hb;intro j hj;rw[cell_of_row _ w.heap.size j _ t (0,0) (heap_alloc_new w _)];have h:j=0∨j=1∨j=2∨j=3∨j=4∨j=5∨j=6∨j=7∨j=8∨j=9∨j=10∨j=11∨j=12∨j=13∨j=14∨j=15∨j=16∨j=17∨j=18∨j=19∨j=20∨j=21∨j=22∨j=23∨j=24∨j=25∨j=26∨j=27∨j=28∨j=29∨j=30∨j=31:=by omega
 rcases h with rfl|rfl|rfl|rfl|rfl|rfl|rfl|rfl|rfl|rfl|rfl|rfl|rfl|rfl|rfl|rfl|rfl|rfl|rfl|rfl|rfl|rfl|rfl|rfl|rfl|rfl|rfl|rfl|rfl|rfl|rfl|rfl<;>rfl
theorem mul_D{x y d m:Nat}(hx:x<65536)(hy:y<65536)(hd:d<65536)(hm:m<65536):(d+x*y+m)/65536<65536/\d+x*y+m<18446744073709551616:=by
 have h:x*y<=65535*65535:=Nat.mul_le_mul (by omega) (by omega);omega
structure OT(w wr:World)(a b x y d:Nat)(L:Nat->Nat):Prop where
 one:I8 wr x 16 (jg 65536 a)
 two:I8 wr y 16 (jg 65536 b)
 out:I8 wr d 32 L
 free:Y0 wr d 32
 low:I8 wr (w.heap.size+1+1) 4 (fun _=>0)
 high:I8 wr (w.heap.size+1+1+1) 4 (fun _=>0)
 lowFree:Y0 wr (w.heap.size+1+1) 4
 highFree:Y0 wr (w.heap.size+1+1+1) 4
 below:Below w.heap.size w wr
 big:d<wr.heap.size
 apart:w.heap.size+1+1+1<x/\x<y/\y<d
theorem OT.set{w wr:World}{a b x y d:Nat}{L:Nat->Nat}(h:OT w wr a b x y d L)(c:Nat)(v:Int)(z:Nat)(hv:v=z):OT w (wr.setCell ⟨d,c,none⟩ (.int .u64 v)) a b x y d (fun j=>if j=c then z else L j):=by
 have:=h.apart;exact⟨h.one.other _ _ (by omega),h.two.other _ _ (by omega),h.out.setI _ _ _ hv,h.free.set _ _,h.low.other _ _ (by omega),h.high.other _ _ (by omega),h.lowFree.set _ _,h.highFree.set _ _,h.below.setCell (by simp;omega) _,by simpa using h.big,h.apart⟩
theorem OT.drew{w wr:World}{a b x y d:Nat}{L:Nat->Nat}(h:OT w wr a b x y d L):OT w wr.drew a b x y d L:=⟨h.one,h.two,h.out,h.free,h.low,h.high,h.lowFree,h.highFree,h.below.drew,h.big,h.apart⟩
theorem Mul_ref{a b:Nat}(ha:a<jk)(hb:b<jk)(w:World):
  Calls prog 270 #[ji a,ji b] w fun e w'=>e=.returned (.tuple #[ji (mulL a b),ji (yJ a b)])/\Below w.heap.size w w':=by
 have XT:=jh QF;have Ha:=jh ha;have Hb:=jh hb;have HD0:=jh ZO;have wC:=jh (Jb a);have YA:=jh (JJ 16 (jg 65536 a));obtain⟨cs,hcs1⟩:=je (QP 16 (jg 65536 a));have EN:=jh (fun w t=>QD w t (jg 65536 a) cs hcs1);have SI:Hid (cs.length=16):=jh (by rw[hcs1,qT]);have fA:Hid (16=cs.toArray.size):=jh (by rw[List.size_toArray,SI.out]);unfold XO at wC;rw[<-hcs1] at wC YA;clear hcs1;have vC:=jh (Jb b);have D9:=jh (JJ 16 (jg 65536 b));obtain⟨ds,hcs2⟩:=je (QP 16 (jg 65536 b));have DN:=jh (fun w t=>QD w t (jg 65536 b) ds hcs2);have HL2:Hid (ds.length=16):=jh (by rw[hcs2,qT]);have HS2:Hid (16=ds.toArray.size):=jh (by rw[List.size_toArray,HL2.out]);unfold XO at vC;rw[<-hcs2] at vC D9;clear hcs2;have HS0:=jh (start_mul w b);have HZ:=jh (fun w t=>I8.zero32 w t w.heap.size rfl);clear ha hb;unfold ji words at wC vC⊢
 go_enter func270,ntmps270
 go_wp2_with fail
 refine(wC.out _).mono ?_;rintro _ w1 ⟨rfl,hb1⟩;obtain⟨h1,h2,h3,h4,h5⟩:=HS0.out _ _ _ _ _ rfl w1 hb1;have HB1:=jh h1;have SA:=jh h2;have HR1:=jh h3;have HQ1:=jh h4;clear hb1 h1 h2 h3 h4 HS0
 go_wp2_with (
   refine wpList_store_mid rfl 301 _ _ rfl w1.heap.size 0 cs.toArray rfl rfl (XT.out w1 _ _ _ fA.out) (by rw[List.size_toArray,SI.out];kernel_rfl) (all_oneCell_toArray YA.out) ?_;obtain⟨w2,e9,u9,f9,b9⟩:=EN.out w1 301;rw[<-e9];have HX:=jh u9;have HB2:=jw HB1 b9;have HR2:=jh (show I8 w2 (w.heap.size+1+1) 4 (fun _=>0)/\Y0 w2 (w.heap.size+1+1) 4 from⟨HR1.out.1.later b9 (by omega),HR1.out.2.later b9 (by omega)⟩);have HQ2:=jh (show I8 w2 (w.heap.size+1+1+1) 4 (fun _=>0)/\Y0 w2 (w.heap.size+1+1+1) 4 from⟨HQ1.out.1.later b9 (by omega),HQ1.out.2.later b9 (by omega)⟩);have hn1:w1.heap.size<w2.heap.size:=World.block_lt_of_cell? (a:=⟨w1.heap.size,0,none⟩) _ (u9 0 (by omega));obtain⟨q0,q1,q2,q3⟩:=jF (U0.later b9 SA.out)
   clear e9 u9 f9 b9)
 refine(vC.out _).mono ?_;rintro _ w3 ⟨rfl,hb3⟩;have HB3:=jw HB2 hb3;have AX:=jh (HX.out.later hb3 hn1);have HR3:=jh (show I8 w3 (w.heap.size+1+1) 4 (fun _=>0)/\Y0 w3 (w.heap.size+1+1) 4 from⟨HR2.out.1.later hb3 (by omega),HR2.out.2.later hb3 (by omega)⟩);have HQ3:=jh (show I8 w3 (w.heap.size+1+1+1) 4 (fun _=>0)/\Y0 w3 (w.heap.size+1+1+1) 4 from⟨HQ2.out.1.later hb3 (by omega),HQ2.out.2.later hb3 (by omega)⟩);have hn3:=hb3.size;clear hb3 q0 q1 q2 q3 HB1 SA HB2 HX HR1 HQ1 HR2 HQ2 EN fA YA SI
 go_wp2_with (
   refine wpList_store_mid rfl 301 _ _ rfl w3.heap.size 0 ds.toArray rfl rfl (XT.out w3 _ _ _ HS2.out) (by rw[List.size_toArray,HL2.out];kernel_rfl) (all_oneCell_toArray D9.out) ?_;obtain⟨w4,e9,u9,f9,b9⟩:=DN.out w3 301;rw[<-e9];have HY:=jh u9;have HB4:=jw HB3 b9;have HX4:=jh (AX.out.later b9 (by omega));have HR4:=jh (show I8 w4 (w.heap.size+1+1) 4 (fun _=>0)/\Y0 w4 (w.heap.size+1+1) 4 from⟨HR3.out.1.later b9 (by omega),HR3.out.2.later b9 (by omega)⟩);have HQ4:=jh (show I8 w4 (w.heap.size+1+1+1) 4 (fun _=>0)/\Y0 w4 (w.heap.size+1+1+1) 4 from⟨HQ3.out.1.later b9 (by omega),HQ3.out.2.later b9 (by omega)⟩);have hn4:w3.heap.size<w4.heap.size:=World.block_lt_of_cell? (a:=⟨w3.heap.size,0,none⟩) _ (u9 0 (by omega))
   clear e9 u9 f9 b9)
 clear HB3 AX HR3 HQ3 DN HS2 D9 HL2 XT wC vC
 have pU:=jh (show OT w (w4.alloc (.cells #[.int .u64 0,.int .u64 0,.int .u64 0,.int .u64 0,.int .u64 0,.int .u64 0,.int .u64 0,.int .u64 0,.int .u64 0,.int .u64 0,.int .u64 0,.int .u64 0,.int .u64 0,.int .u64 0,.int .u64 0,.int .u64 0,.int .u64 0,.int .u64 0,.int .u64 0,.int .u64 0,.int .u64 0,.int .u64 0,.int .u64 0,.int .u64 0,.int .u64 0,.int .u64 0,.int .u64 0,.int .u64 0,.int .u64 0,.int .u64 0,.int .u64 0,.int .u64 0] 346)) a b w1.heap.size w3.heap.size w4.heap.size (fun _=>0) from
  ⟨HX4.out.alloc _,HY.out.alloc _,HZ.out _ _,Y0.made _ _ _ _ _ rfl,HR4.out.1.alloc _,HQ4.out.1.alloc _,HR4.out.2.alloc (by omega) _,HQ4.out.2.alloc (by omega) _,HB4.out.alloc HB4.out.size _,by simp,by omega⟩)
 have hd5:w.heap.size+1+1+1<w4.heap.size:=by omega
 clear HX4 HY HR4 HQ4 HB4 HZ
 go_loopw [9] (fun i wr=>∃(i':Nat) (L:Nat->Nat),i'<=16/\i=.int .i64 i'/\OT w wr a b w1.heap.size w3.heap.size w4.heap.size L/\Hid (qf 65536 32 L=qf 65536 i' (jg 65536 a)*qf 65536 16 (jg 65536 b)/\(∀j,i'+16<=j->L j=0)/\∀j,L j<65536)) (fun i _=>16-(intOf i).toNat)
 case atStart=>exact⟨0,fun _=>0,by omega,rfl,pU.out,jh ⟨by rw[fP];simp[qf],fun _ _=>rfl,fun _=>by simp⟩⟩
 case round=>
  obtain⟨i',L,hi,rfl,hM,hL⟩:=hrel;clear pU
  by_cases hlt:i'<16
  ·have HM:=jh hM;clear hM
   go_wp2
   obtain⟨wo,hwo⟩:∃wo:World,wo=wr:=⟨_,rfl⟩;have HWO:=jh hwo;clear hwo
   go_loopw [10,11] (fun m k wr=>∃(k' more:Nat) (L:Nat->Nat),k'<=16/\k=.int .i64 k'/\m=.int .u64 more/\OT w wr a b w1.heap.size w3.heap.size w4.heap.size L/\Hid (sJ 65536 32 16 (jg 65536 a) (jg 65536 b) L i' k' more/\(∀j,L j<65536)/\more<65536)) (fun _ k _=>16-(intOf k).toNat)
   case atStart=>exact⟨0,0,L,by omega,rfl,rfl,HM.out,jh ⟨MP hL.out.1 hL.out.2.1,hL.out.2.2,by omega⟩⟩
   case round=>
    obtain⟨k',more,L',hk,rfl,rfl,hM',hL'⟩:=hrel
    by_cases hkl:k'<16
    ·have c1:=hM'.out (i'+k') (by omega);have f1:=hM'.free (i'+k') (by omega);have xk:=hM'.one i' hlt;have yk:=hM'.two k' hkl;have HM':=jh hM';clear hM';have HE:=jh (show(L' (i'+k')+jg 65536 a i'*jg 65536 b k'+more)%65536+65536*((L' (i'+k')+jg 65536 a i'*jg 65536 b k'+more)/65536)=jg 65536 a i'*jg 65536 b k'+L' (i'+k')+more from by rw[Nat.mod_add_div];omega);have hbb:=mul_D (HD0.out a i') (HD0.out b k') (hL'.out.2.1 (i'+k')) hL'.out.2.2;obtain⟨x,ex⟩:=je (jg 65536 a i');obtain⟨y,ey⟩:=je (jg 65536 b k');obtain⟨d,ed⟩:=je (L' (i'+k'));have iC:x<65536:=by rw[ex];exact HD0.out _ _
     have hy9:y<65536:=by rw[ey];exact HD0.out _ _
     have hd9:d<65536:=by rw[ed];exact hL'.out.2.1 _
     have vM:=hL'.out.2.2;have HXE:=jh ex;have HYE:=jh ey;have HDE:=jh ed;rw[<-ex] at xk hbb;rw[<-ey] at yk hbb;rw[<-ed] at c1 hbb;obtain⟨p,ep⟩:=je (x*y);have HPE:=jh ep;rw[<-ep] at hbb;have hmul:(x:Int)*(y:Int)=(p:Int):=by rw[ep];simp
     have hp0:p<=4294836225:=by rw[ep];exact Nat.mul_le_mul (show x<=65535 by omega) (show y<=65535 by omega)
     clear ex ey ed ep
     go_wp2
     go_region
     go_wp2
     go_roundw
     case rel=>
      have hn:Hid (sJ 65536 32 16 (jg 65536 a) (jg 65536 b) (fun j=>if j=i'+k' then(d+p+more)%65536 else L' j) i' (k'+1) ((d+p+more)/65536)/\
        (∀j,(fun j=>if j=i'+k' then(d+p+more)%65536 else L' j) j<65536)/\(d+p+more)/65536<65536):=by
       refine jh ⟨oV hL'.out.1 hkl (by omega) (by rw[<-HXE.out,<-HYE.out,<-HDE.out,<-HPE.out,Nat.mod_add_div];omega),fun j=>?_,hbb.1⟩;dsimp only
       split
       ·exact Nat.mod_lt _ (by omega)
       ·exact hL'.out.2.1 j
      exact⟨k'+1,_,_,by omega,by go_num,congrArg (Value.int .u64) (by simp),(HM'.out.set _ _ ((d+p+more)%65536) (by simp)).drew,hn⟩
     case measure=>simp[intOf];omega
    ·obtain rfl:k'=16:=by omega
     clear hkl;have c1:=hM'.out (i'+16) (by omega);have f1:=hM'.free (i'+16) (by omega);have HM':=jh hM';clear hM'
     go_wp2
     go_roundw
     case rel=>
      have hr:=mul_row hL'.out.1 (show i'+16<32 by omega);refine⟨i'+1,_,by omega,by go_num,HM'.out.set _ _ more rfl,jh ⟨hr.1,hr.2,fun j=>?_⟩⟩
      split
      ·exact hL'.out.2.2
      ·exact hL'.out.2.1 j
     case measure=>simp[intOf];omega
  ·obtain rfl:i'=16:=by omega
   clear hlt;have hn:=IL (n:=16) D_pow (fun j _=>hL.out.2.2 j) (by rw[show 16+16=32 from rfl,hL.out.1,JQ Ha.out,JQ Hb.out]);have hlow:Below w.heap.size w wr:=hM.below;have hdw:=hM.big;have YA:=jh (fun(W:World) (hW:Below wr.heap.size wr W)=>dR (d:=L) (fun j _=>hL.out.2.2 j) w4.heap.size 0 32 W (jv hdw hW.size) (fun j hj=>by rw[Nat.zero_add];exact hM.out.later hW hdw j (by omega)) (by omega));have D9:=jh (fun(W:World) (hW:Below wr.heap.size wr W)=>dR (d:=fun j=>L (16+j)) (fun j _=>hL.out.2.2 _) w4.heap.size 16 16 W (jv hdw hW.size) (fun j hj=>hM.out.later hW hdw (16+j) (by omega)) (Nat.le_refl _));rw[hn.1] at YA;rw[hn.2] at D9;unfold ji words at YA D9;have HM:=jh hM;have hds:=hM.apart;clear hn hlow hM;have c0:=HM.out.out 0 (by omega)
   go_wp2_with fail
   have HW0:=jh (show Below wr.heap.size wr wr.drew from U3.drew)
   go_region_with (first
    |(go_at_call 271
      with_reducible refine(YA.out _ HW0.out).mono ?_
      rintro _ w5 ⟨rfl,hb5⟩;have dO:=jh (show Below wr.heap.size wr w5 from jm HW0.out hb5)
      clear hb5)
    |(go_at_call 271
      with_reducible refine(D9.out _ dO.out).mono ?_
      rintro _ w6 ⟨rfl,hb6⟩;have kF:=jw dO hb6;have r0:=(HM.out.low.later kF.out (by omega)) 0 (by omega);have r1:=(HM.out.low.later kF.out (by omega)) 1 (by omega);have r2:=(HM.out.low.later kF.out (by omega)) 2 (by omega);have r3:=(HM.out.low.later kF.out (by omega)) 3 (by omega);have f0:=(HM.out.lowFree.later kF.out (by omega)) 0 (by omega);have f1:=(HM.out.lowFree.later kF.out (by omega)) 1 (by omega);have f2:=(HM.out.lowFree.later kF.out (by omega)) 2 (by omega);have f3:=(HM.out.lowFree.later kF.out (by omega)) 3 (by omega);have p0:=(HM.out.high.later kF.out (by omega)) 0 (by omega);have p1:=(HM.out.high.later kF.out (by omega)) 1 (by omega);have p2:=(HM.out.high.later kF.out (by omega)) 2 (by omega);have p3:=(HM.out.high.later kF.out (by omega)) 3 (by omega);have g0:=(HM.out.highFree.later kF.out (by omega)) 0 (by omega);have g1:=(HM.out.highFree.later kF.out (by omega)) 1 (by omega);have g2:=(HM.out.highFree.later kF.out (by omega)) 2 (by omega);have g3:=(HM.out.highFree.later kF.out (by omega)) 3 (by omega)
      clear hb6))
   have HB7:=jh (jm HM.out.below kF.out);clear HM YA D9 HW0 dO kF HD0 Ha Hb hL
   go_wp2
   refine bodyPost_ret (v:=.tuple #[ji (mulL a b),ji (yJ a b)]) (by simp[results,results270,go_sem,ji,words,r0,r1,r2,r3,p0,p1,p2,p3]) rfl ⟨rfl,?_⟩;exact(((((((HB7.out.setCell (by simp;omega) _).setCell (by simp;omega) _).setCell (by simp;omega) _).setCell (by simp;omega) _).setCell (by simp;omega) _).setCell (by simp;omega) _).setCell (by simp;omega) _).setCell (by simp;omega) _
end Go.Proofs.YtpkalgofejjggaaGreatDoor
