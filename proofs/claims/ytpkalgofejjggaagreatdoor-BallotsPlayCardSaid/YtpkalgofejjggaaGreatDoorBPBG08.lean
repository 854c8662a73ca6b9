/- math/bits.Div64 -/
import Derived.Test.YtpkalgofejjggaaGreatDoorRows
import Derived.Test.YtpkalgofejjggaaGreatDoorBPBG02
import Derived.WalkLawsBesides
import Derived.Deep.QuietTactic
import Derived.BigQuiet
import Derived.BigRegion
import Derived.Outline
import Derived.Laws.Externs
import Derived.Laws.BitsAllLaws
import Derived.Test.YtpkalgofejjggaaGreatDoorBPBG07
import Derived.Test.YtpkalgofejjggaaGreatDoorBPBG01
set_option linter.unusedVariables false
set_option maxHeartbeats 8000000
set_option maxRecDepth 20000
namespace Go.Proofs.YtpkalgofejjggaaGreatDoor
open Go.ChangeShapes Go.WideShapes Go.ChangeAt Go.RowKit Go.Proofs.Tryz
theorem run_add64(x y c:Nat)(hc:c<=1)(w:World):
  (callFunc 265 #[.int .u64 x,.int .u64 y,.int .u64 c]).run prog w=.ok (.value (.tuple #[.int .u64 (ZQ x y c),.int .u64 (Zp x y c)])) w:=by
 rw[run_callFunc_extern func265 (by kernel_rfl) (by kernel_rfl) (by kernel_rfl) (e:=add64Entry) (by kernel_rfl),Go.run_add64 x y c (by omega) (by omega) (by omega) (by omega)];simp only[Result.andThen,ZQ,Zp,jf]
 congr 5<;>omega
def sub64Entry:Array Value->Sem Value:=fun args=>do
 let(x,y,b) ←Extern.MathBitsCarry.three "Sub64" args
 pure (Extern.MathBitsCarry.pair ((x+Extern.MathBitsCarry.m64-y-b)%Extern.MathBitsCarry.m64) (if x<y+b then 1 else 0))
theorem yK(x y b:Nat)(hb:b<=1)(w:World):
  (sub64Entry #[.int .u64 x,.int .u64 y,.int .u64 b]).run prog w=.ok (.tuple #[.int .u64 (subW x y b),.int .u64 (WX x y b)]) w:=by
 have:b=0∨b=1:=by omega
 rcases this with rfl|rfl<;>rfl
theorem run_sub64(x y b:Nat)(hb:b<=1)(w:World):
  (callFunc 172 #[.int .u64 x,.int .u64 y,.int .u64 b]).run prog w=.ok (.value (.tuple #[.int .u64 (subW x y b),.int .u64 (WX x y b)])) w:=by
 rw[run_callFunc_extern func172 (by kernel_rfl) (by kernel_rfl) (by kernel_rfl) (e:=sub64Entry) (by kernel_rfl),yK x y b hb]
 rfl
def words(A:Nat->Nat):Value:=.agg #[.int .u64 (A 0),.int .u64 (A 1),.int .u64 (A 2),.int .u64 (A 3)]
def rC(w:World)(b:Nat)(A:Nat->Nat):Prop:=∀j,j<4->w.cell? ⟨b,j,none⟩=some (.int .u64 (A j))
def WH(w:World)(b:Nat):Prop:=∀j,j<4->w.frozen? ⟨b,j,none⟩=false
theorem rC.new(w:World)(A:Nat->Nat)(t:TypeId):rC (w.alloc (.cells #[.int .u64 (A 0),.int .u64 (A 1),.int .u64 (A 2),.int .u64 (A 3)] t)) w.heap.size A:=by
 intro j hj;have:j=0∨j=1∨j=2∨j=3:=by omega
 rcases this with rfl|rfl|rfl|rfl<;>simp
theorem rC.zero(w:World)(t:TypeId):rC (w.alloc (.cells #[.int .u64 0,.int .u64 0,.int .u64 0,.int .u64 0] t)) w.heap.size (fun _=>0):=by
 intro j hj;have:j=0∨j=1∨j=2∨j=3:=by omega
 rcases this with rfl|rfl|rfl|rfl<;>simp
theorem rC.alloc{w:World}{b:Nat}{A:Nat->Nat}(h:rC w b A)(o:Obj):rC (w.alloc o) b A:=fun j hj=>
 (World.cell?_alloc_lt w o ⟨b,j,none⟩ (World.block_lt_of_cell? (a:=⟨b,j,none⟩) _ (h j hj))).trans (h j hj)
theorem rC.congr{w:World}{b:Nat}{A B:Nat->Nat}(h:rC w b A)(hg:∀j,j<4->A j=B j):rC w b B:=fun j hj=>by rw[h j hj,hg j hj]
theorem rC.set{w:World}{b:Nat}{A:Nat->Nat}(h:rC w b A)(c:Nat)(x:Nat):rC (w.setCell ⟨b,c,none⟩ (.int .u64 x)) b (fun j=>if j=c then x else A j):=by
 intro j hj
 by_cases hjc:j=c
 ·subst hjc;rw[World.cell?_setCell_same (h:=h j hj)]
  simp
 ·rw[World.cell?_setCell_other _ _ _ _ (by intro h;injection h;omega),h j hj]
  simp[hjc]
theorem rC.other{w:World}{b:Nat}{A:Nat->Nat}(h:rC w b A){c:Nat}(i:Nat)(v:Value)(hc:b≠c):rC (w.setCell ⟨c,i,none⟩ v) b A:=fun j hj=>by
 rw[World.cell?_setCell_other _ _ _ _ (by intro h;injection h;omega),h j hj]
theorem WH.set{w:World}{b:Nat}(h:WH w b)(a:Addr)(v:Value):WH (w.setCell a v) b:=fun j hj=>by simpa using h j hj
theorem WH.new(w:World)(c:Array Value)(t:TypeId):WH (w.alloc (.cells c t)) w.heap.size:=fun j _=>by simp
theorem start3(w:World)(A B:Nat->Nat)(t1 t2 t3:TypeId):
  rC (((w.alloc (.cells #[.int .u64 (A 0),.int .u64 (A 1),.int .u64 (A 2),.int .u64 (A 3)] t1)).alloc (.cells #[.int .u64 (B 0),.int .u64 (B 1),.int .u64 (B 2),.int .u64 (B 3)] t2)).alloc (.cells #[.int .u64 0,.int .u64 0,.int .u64 0,.int .u64 0] t3)) w.heap.size A/\
  rC (((w.alloc (.cells #[.int .u64 (A 0),.int .u64 (A 1),.int .u64 (A 2),.int .u64 (A 3)] t1)).alloc (.cells #[.int .u64 (B 0),.int .u64 (B 1),.int .u64 (B 2),.int .u64 (B 3)] t2)).alloc (.cells #[.int .u64 0,.int .u64 0,.int .u64 0,.int .u64 0] t3)) (w.heap.size+1) B/\
  rC (((w.alloc (.cells #[.int .u64 (A 0),.int .u64 (A 1),.int .u64 (A 2),.int .u64 (A 3)] t1)).alloc (.cells #[.int .u64 (B 0),.int .u64 (B 1),.int .u64 (B 2),.int .u64 (B 3)] t2)).alloc (.cells #[.int .u64 0,.int .u64 0,.int .u64 0,.int .u64 0] t3)) (w.heap.size+1+1) (fun _=>0)/\
  WH (((w.alloc (.cells #[.int .u64 (A 0),.int .u64 (A 1),.int .u64 (A 2),.int .u64 (A 3)] t1)).alloc (.cells #[.int .u64 (B 0),.int .u64 (B 1),.int .u64 (B 2),.int .u64 (B 3)] t2)).alloc (.cells #[.int .u64 0,.int .u64 0,.int .u64 0,.int .u64 0] t3)) (w.heap.size+1+1)/\
  Below w.heap.size w (((w.alloc (.cells #[.int .u64 (A 0),.int .u64 (A 1),.int .u64 (A 2),.int .u64 (A 3)] t1)).alloc (.cells #[.int .u64 (B 0),.int .u64 (B 1),.int .u64 (B 2),.int .u64 (B 3)] t2)).alloc (.cells #[.int .u64 0,.int .u64 0,.int .u64 0,.int .u64 0] t3)):=by
 have h1:=rC.new w A t1;have h2:=rC.new (w.alloc (.cells #[.int .u64 (A 0),.int .u64 (A 1),.int .u64 (A 2),.int .u64 (A 3)] t1)) B t2;have h3:=rC.zero ((w.alloc (.cells #[.int .u64 (A 0),.int .u64 (A 1),.int .u64 (A 2),.int .u64 (A 3)] t1)).alloc (.cells #[.int .u64 (B 0),.int .u64 (B 1),.int .u64 (B 2),.int .u64 (B 3)] t2)) t3;have h4:=WH.new ((w.alloc (.cells #[.int .u64 (A 0),.int .u64 (A 1),.int .u64 (A 2),.int .u64 (A 3)] t1)).alloc (.cells #[.int .u64 (B 0),.int .u64 (B 1),.int .u64 (B 2),.int .u64 (B 3)] t2)) #[.int .u64 0,.int .u64 0,.int .u64 0,.int .u64 0] t3;simp only[World.size_alloc] at h2 h3 h4;exact⟨(h1.alloc _).alloc _,h2.alloc _,h3,h4,((ja).alloc (by simp) _).alloc (by simp;omega) _⟩
theorem add_walk(A B:Nat->Nat)(hA:∀i,A i<jf)(hB:∀i,B i<jf)(w:World):
  Calls prog 223 #[words A,words B] w fun e w'=>e=.returned (.tuple #[words (sumW A B),.int .u64 (carry A B 4)])/\Below w.heap.size w w':=by
 unfold words;have hcl:=fun k=>IW hA hB k
 have I5:=jh hcl;have hadd:=run_add64;clear hA hB hcl;have ST:=jh (start3 w A B)
 go_enter func223,ntmps223
 go_wp2
 go_loopw [5,7] (fun c i wr=>∃k:Nat,k<=4/\i=.int .i64 k/\c=.int .u64 (carry A B k)/\rC wr w.heap.size A/\rC wr (w.heap.size+1) B/\
  rC wr (w.heap.size+1+1) (fun j=>if j<k then sumW A B j else 0)/\WH wr (w.heap.size+1+1)/\Below w.heap.size w wr) (fun _ i _=>4-(intOf i).toNat)
 case atStart=>exact⟨0,by omega,rfl,rfl,(ST.out _ _ _).1,(ST.out _ _ _).2.1,(ST.out _ _ _).2.2.1,(ST.out _ _ _).2.2.2.1,(ST.out _ _ _).2.2.2.2⟩
 case round=>
  obtain⟨k,hk,rfl,rfl,ha,hb,hs,hf,hbel⟩:=hrel
  by_cases hlt:k<4
  ·have ak:=ha k hlt;have bk:=hb k hlt;have sk:=hs k hlt;have fk:=hf k hlt;have hc1:=I5.out k;have HA:=jh ha;have HB:=jh hb;have HS:=jh hs;have HF:=jh hf;have WZ:=jh hbel;clear ha hb hs hf hbel
   go_wp2
   go_region
   go_wp2
   go_roundw
   case rel=>
    refine⟨k+1,by omega,by go_num,rfl,HA.out.other _ _ (by omega),HB.out.other _ _ (by omega),(HS.out.set k _).congr fun j hj=>?_,HF.out.set _ _,(WZ.out.drew).setCell (by simp;omega) _⟩
    by_cases h:j=k
    ·subst h;simp;rfl
    ·by_cases h':j<k
     ·simp[h,h',show j<k+1 by omega]
     ·simp[h,h',show¬j<k+1 by omega]
   case measure=>simp[intOf];omega
  ·obtain rfl:k=4:=by omega
   clear hlt;have s0:=hs 0 (by omega);have s1:=hs 1 (by omega);have s2:=hs 2 (by omega);have s3:=hs 3 (by omega);have f0:=hf 0 (by omega);have f1:=hf 1 (by omega);have f2:=hf 2 (by omega);have f3:=hf 3 (by omega);simp only[show(0:Nat)<4 from by omega,show(1:Nat)<4 from by omega,show(2:Nat)<4 from by omega,show(3:Nat)<4 from by omega,if_true] at s0 s1 s2 s3;have WZ:=jh hbel;clear ha hb hs hf hbel
   go_wp2
   refine bodyPost_ret (v:=.tuple #[words (sumW A B),.int .u64 (carry A B 4)]) (by simp[results,results223,go_sem,words,s0,s1,s2,s3]) rfl ⟨rfl,?_⟩;exact(((WZ.out.setCell (by simp;omega) _).setCell (by simp;omega) _).setCell (by simp;omega) _).setCell (by simp;omega) _
theorem sub_walk(A B:Nat->Nat)(w:World):
  Calls prog 101 #[words A,words B] w fun e w'=>e=.returned (.tuple #[words (rW A B),.int .u64 (QX A B 4)])/\Below w.heap.size w w':=by
 unfold words;have hcl:=fun k=>PI A B k
 have I5:=jh hcl;have hsub:=run_sub64;clear hcl;have ST:=jh (start3 w A B)
 go_enter func101,ntmps101
 go_wp2
 go_loopw [5,7] (fun c i wr=>∃k:Nat,k<=4/\i=.int .i64 k/\c=.int .u64 (QX A B k)/\rC wr w.heap.size A/\rC wr (w.heap.size+1) B/\
  rC wr (w.heap.size+1+1) (fun j=>if j<k then rW A B j else 0)/\WH wr (w.heap.size+1+1)/\Below w.heap.size w wr) (fun _ i _=>4-(intOf i).toNat)
 case atStart=>exact⟨0,by omega,rfl,rfl,(ST.out _ _ _).1,(ST.out _ _ _).2.1,(ST.out _ _ _).2.2.1,(ST.out _ _ _).2.2.2.1,(ST.out _ _ _).2.2.2.2⟩
 case round=>
  obtain⟨k,hk,rfl,rfl,ha,hb,hs,hf,hbel⟩:=hrel
  by_cases hlt:k<4
  ·have ak:=ha k hlt;have bk:=hb k hlt;have sk:=hs k hlt;have fk:=hf k hlt;have hc1:=I5.out k;have HA:=jh ha;have HB:=jh hb;have HS:=jh hs;have HF:=jh hf;have WZ:=jh hbel;clear ha hb hs hf hbel
   go_wp2
   go_region
   go_wp2
   go_roundw
   case rel=>
    refine⟨k+1,by omega,by go_num,rfl,HA.out.other _ _ (by omega),HB.out.other _ _ (by omega),(HS.out.set k _).congr fun j hj=>?_,HF.out.set _ _,(WZ.out.drew).setCell (by simp;omega) _⟩
    by_cases h:j=k
    ·subst h;simp;rfl
    ·by_cases h':j<k
     ·simp[h,h',show j<k+1 by omega]
     ·simp[h,h',show¬j<k+1 by omega]
   case measure=>simp[intOf];omega
  ·obtain rfl:k=4:=by omega
   clear hlt;have s0:=hs 0 (by omega);have s1:=hs 1 (by omega);have s2:=hs 2 (by omega);have s3:=hs 3 (by omega);have f0:=hf 0 (by omega);have f1:=hf 1 (by omega);have f2:=hf 2 (by omega);have f3:=hf 3 (by omega);simp only[show(0:Nat)<4 from by omega,show(1:Nat)<4 from by omega,show(2:Nat)<4 from by omega,show(3:Nat)<4 from by omega,if_true] at s0 s1 s2 s3;have WZ:=jh hbel;clear ha hb hs hf hbel
   go_wp2
   refine bodyPost_ret (v:=.tuple #[words (rW A B),.int .u64 (QX A B 4)]) (by simp[results,results101,go_sem,words,s0,s1,s2,s3]) rfl ⟨rfl,?_⟩;exact(((WZ.out.setCell (by simp;omega) _).setCell (by simp;omega) _).setCell (by simp;omega) _).setCell (by simp;omega) _
def ji(x:Nat):Value:=words (jg jf x)
abbrev jD(x:Nat):Array Value:=#[.int .u64 (jg jf x 0),.int .u64 (jg jf x 1),.int .u64 (jg jf x 2),.int .u64 (jg jf x 3)]
abbrev jE(x y:Nat):Array Value:=#[.int .u64 (jg jf x 0),.int .u64 (jg jf x 1),.int .u64 (jg jf x 2),.int .u64 (jg jf x 3),.int .u64 (jg jf y 0),.int .u64 (jg jf y 1),.int .u64 (jg jf y 2),.int .u64 (jg jf y 3)]
abbrev jG(a b c d:Nat):Array Value:=#[.int .u64 (jg jf a 0),.int .u64 (jg jf a 1),.int .u64 (jg jf a 2),.int .u64 (jg jf a 3),.int .u64 (jg jf b 0),.int .u64 (jg jf b 1),.int .u64 (jg jf b 2),.int .u64 (jg jf b 3),.int .u64 (jg jf c 0),.int .u64 (jg jf c 1),.int .u64 (jg jf c 2),.int .u64 (jg jf c 3),.int .u64 (jg jf d 0),.int .u64 (jg jf d 1),.int .u64 (jg jf d 2),.int .u64 (jg jf d 3)]
theorem Zc{A B:Nat->Nat}(h:∀j,j<4->A j=B j):words A=words B:=by
 unfold words;rw[h 0 (by omega),h 1 (by omega),h 2 (by omega),h 3 (by omega)]
theorem add_any{a b:Nat}(ha:a<jk)(hb:b<jk)(w:World):
  Calls prog 223 #[ji a,ji b] w fun e w'=>e=.returned (.tuple #[ji (zG a b),.int .u64 (zt a b)])/\Below w.heap.size w w':=by
 have h:=add_words ha hb;refine(add_walk _ _ (qh a) (qh b) w).mono fun e w' ⟨he,hw⟩=>⟨?_,hw⟩
 rw[he,h.2,Zc h.1]
 rfl
theorem Ze{a b:Nat}(ha:a<jk)(hb:b<jk)(w:World):
  Calls prog 101 #[ji a,ji b] w fun e w'=>e=.returned (.tuple #[ji (Jk a b),.int .u64 (zq a b)])/\Below w.heap.size w w':=by
 have h:=sub_words ha hb;refine(sub_walk _ _ w).mono fun e w' ⟨he,hw⟩=>⟨?_,hw⟩
 rw[he,h.2,Zc h.1]
 rfl
theorem Qc(n:Nat)(hn:n<jf)(w:World):
  Calls prog 99 #[.int .u64 n] w fun e w'=>e=.returned (ji n)/\Below w.heap.size w w':=by
 have e:ji n=.agg #[.int .u64 n,.int .u64 0,.int .u64 0,.int .u64 0]:=by
  have h0:jg jf n 0=n:=by unfold jg;rw[Nat.pow_zero,Nat.div_one,Nat.mod_eq_of_lt hn]
  have h1:∀j,1<=j->jg jf n j=0:=fun j hj=>by
   unfold jg;rw[Nat.div_eq_of_lt,Nat.zero_mod];exact jv hn (by have:=Nat.pow_le_pow_right zJ hj;rwa [Nat.pow_one] at this)
  unfold ji words;rw[h0,h1 1 (by omega),h1 2 (by omega),h1 3 (by omega)]
  rfl
 have E:=jh e;clear e
 go_enter func99,ntmps99
 go_wp2
 refine bodyPost_ret (v:=ji n) (by rw[E.out];simp[results,results99,go_sem]) rfl ⟨rfl,?_⟩;exact ja
theorem run_mul64(x y:Nat)(hx:x<jf)(hy:y<jf)(w:World):
  Calls prog 177 #[.int .u64 x,.int .u64 y] w fun e w'=>e=.returned (.tuple #[.int .u64 (hiW x y),.int .u64 (iM x y)])/\w=w':=
 (Tryz.bits_Mul64 x y hx hy w).mono fun _ _ ⟨he,hw⟩=>⟨he,hw.symm⟩
theorem times_any(x y s m:Nat)(hx:x<jf)(hy:y<jf)(hs:s<jf)(hm:m<jf)(w:World):
  Calls prog 253 #[.int .u64 x,.int .u64 y,.int .u64 s,.int .u64 m] w fun e w'=>e=.returned (.tuple #[.int .u64 (tmL x y s m),.int .u64 (tmH x y s m)])/\w=w':=by
 have hadd0:∀(x y:Nat) (w:World),(callFunc 265 #[.int .u64 x,.int .u64 y,.int .u64 0]).run prog w=.ok (.value (.tuple #[.int .u64 (ZQ x y 0),.int .u64 (Zp x y 0)])) w:=fun x y w=>run_add64 x y 0 (by omega) w
 have hmul:=jh (run_mul64 x y hx hy);have ht:=UI hx hy hs hm;have b1:(Zp (iM x y) s 0:Int)<=1:=by have:=ht.1;omega
 have b2:(hiW x y:Int)+Zp (iM x y) s 0+Zp (ZQ (iM x y) s 0) m 0<=18446744073709551615:=by have:=ht.2.1;unfold jf at this;omega
 have HT:=jh ht;clear ht hx hy hs hm
 go_enter func253,ntmps253
 go_wp2_with fail
 refine(hmul.out _).mono ?_;rintro _ _ ⟨rfl,rfl⟩
 go_wp2
 go_ret2
 refine⟨?_,rfl⟩
 show Ending.returned (.tuple #[.int .u64 (ZQ (ZQ (iM x y) s 0) m 0),.int .u64 ((hiW x y:Int)+Zp (iM x y) s 0+Zp (ZQ (iM x y) s 0) m 0)])=_
 rw[<-HT.out.2.2.1,<-HT.out.2.2.2]
 simp
def I8(w:World)(b n:Nat)(A:Nat->Nat):Prop:=∀j,j<n->w.cell? ⟨b,j,none⟩=some (.int .u64 (A j))
def Y0(w:World)(b n:Nat):Prop:=∀j,j<n->w.frozen? ⟨b,j,none⟩=false
theorem I8.alloc{w:World}{b n:Nat}{A:Nat->Nat}(h:I8 w b n A)(o:Obj):I8 (w.alloc o) b n A:=fun j hj=>
 (World.cell?_alloc_lt w o ⟨b,j,none⟩ (World.block_lt_of_cell? (a:=⟨b,j,none⟩) _ (h j hj))).trans (h j hj)
theorem I8.congr{w:World}{b n:Nat}{A B:Nat->Nat}(h:I8 w b n A)(hg:∀j,j<n->A j=B j):I8 w b n B:=fun j hj=>by rw[h j hj,hg j hj]
theorem I8.set{w:World}{b n:Nat}{A:Nat->Nat}(h:I8 w b n A)(c:Nat)(x:Nat):I8 (w.setCell ⟨b,c,none⟩ (.int .u64 x)) b n (fun j=>if j=c then x else A j):=by
 intro j hj
 by_cases hjc:j=c
 ·subst hjc;rw[World.cell?_setCell_same (h:=h j hj)]
  simp
 ·rw[World.cell?_setCell_other _ _ _ _ (by intro h;injection h;omega),h j hj]
  simp[hjc]
theorem I8.other{w:World}{b n:Nat}{A:Nat->Nat}(h:I8 w b n A){c:Nat}(i:Nat)(v:Value)(hc:b≠c):I8 (w.setCell ⟨c,i,none⟩ v) b n A:=fun j hj=>by
 rw[World.cell?_setCell_other _ _ _ _ (by intro h;injection h;omega),h j hj]
theorem I8.later{w w':World}{b n B:Nat}{A:Nat->Nat}(h:I8 w b n A)(hb:Below B w w')(hB:b<B):I8 w' b n A:=fun j hj=>(hb.cell (p:=⟨b,j,none⟩) hB).trans (h j hj)
theorem Y0.set{w:World}{b n:Nat}(h:Y0 w b n)(a:Addr)(v:Value):Y0 (w.setCell a v) b n:=fun j hj=>by simpa using h j hj
theorem Y0.new(w:World)(c:Array Value)(t:TypeId)(n:Nat):Y0 (w.alloc (.cells c t)) w.heap.size n:=fun j _=>by simp
theorem Y0.alloc{w:World}{b n:Nat}(h:Y0 w b n)(hb:b<w.heap.size)(o:Obj):Y0 (w.alloc o) b n:=fun j hj=>
 (World.frozen?_alloc_old w o ⟨b,j,none⟩ (Nat.ne_of_lt hb)).trans (h j hj)
theorem I8.zero8(w:World)(t:TypeId):I8 (w.alloc (.cells #[.int .u64 0,.int .u64 0,.int .u64 0,.int .u64 0,.int .u64 0,.int .u64 0,.int .u64 0,.int .u64 0] t)) w.heap.size 8 (fun _=>0):=by
 intro j hj;have:j=0∨j=1∨j=2∨j=3∨j=4∨j=5∨j=6∨j=7:=by omega
 rcases this with rfl|rfl|rfl|rfl|rfl|rfl|rfl|rfl<;>simp
theorem XP(A:Nat->Nat):∀(k:Nat) (_:k<4) (w:World),(Instr.index 24 (.agg #[.int .u64 (A 0),.int .u64 (A 1),.int .u64 (A 2),.int .u64 (A 3)]) (.int .i64 k)).run prog w=.ok (.int .u64 (A k)) w
 |0,_,_=>by kernel_rfl
 |1,_,_=>by kernel_rfl
 |2,_,_=>by kernel_rfl
 |3,_,_=>by kernel_rfl
 |k+4,h,_=>absurd h (by omega)
structure xE(w wr:World)(b:Nat)(L:Nat->Nat):Prop where
 two:I8 wr (w.heap.size+1) 4 (jg jf b)
 out:I8 wr (w.heap.size+1+1+1+1) 8 L
 free:Y0 wr (w.heap.size+1+1+1+1) 8
 low:I8 wr (w.heap.size+1+1) 4 (fun _=>0)
 high:I8 wr (w.heap.size+1+1+1) 4 (fun _=>0)
 lowFree:Y0 wr (w.heap.size+1+1) 4
 highFree:Y0 wr (w.heap.size+1+1+1) 4
 below:Below w.heap.size w wr
theorem xE.set{w wr:World}{b:Nat}{L:Nat->Nat}(h:xE w wr b L)(c x:Nat):xE w (wr.setCell ⟨w.heap.size+1+1+1+1,c,none⟩ (.int .u64 x)) b (fun j=>if j=c then x else L j):=
 ⟨h.two.other _ _ (by omega),h.out.set _ _,h.free.set _ _,h.low.other _ _ (by omega),h.high.other _ _ (by omega),h.lowFree.set _ _,h.highFree.set _ _,h.below.setCell (by simp;omega) _⟩
theorem mul_start(w:World)(A B:Nat->Nat)(t1 t2 t3 t4 t5:TypeId):∀W,W=((((w.alloc (.cells #[.int .u64 (A 0),.int .u64 (A 1),.int .u64 (A 2),.int .u64 (A 3)] t1)).alloc (.cells #[.int .u64 (B 0),.int .u64 (B 1),.int .u64 (B 2),.int .u64 (B 3)] t2)).alloc (.cells #[.int .u64 0,.int .u64 0,.int .u64 0,.int .u64 0] t3)).alloc
   (.cells #[.int .u64 0,.int .u64 0,.int .u64 0,.int .u64 0] t4)).alloc (.cells #[.int .u64 0,.int .u64 0,.int .u64 0,.int .u64 0,.int .u64 0,.int .u64 0,.int .u64 0,.int .u64 0] t5)->
  I8 W (w.heap.size+1) 4 B/\I8 W (w.heap.size+1+1+1+1) 8 (fun _=>0)/\Y0 W (w.heap.size+1+1+1+1) 8/\I8 W (w.heap.size+1+1) 4 (fun _=>0)/\I8 W (w.heap.size+1+1+1) 4 (fun _=>0)/\Y0 W (w.heap.size+1+1) 4/\Y0 W (w.heap.size+1+1+1) 4/\Below w.heap.size w W:=by
 intro W hW;have h2:I8 _ _ 4 B:=rC.new (w.alloc (.cells #[.int .u64 (A 0),.int .u64 (A 1),.int .u64 (A 2),.int .u64 (A 3)] t1)) B t2
 generalize h1e:w.alloc (.cells #[.int .u64 (A 0),.int .u64 (A 1),.int .u64 (A 2),.int .u64 (A 3)] t1)=w1 at*
 have s1:w1.heap.size=w.heap.size+1:=by rw[<-h1e];simp
 have b1:Below w.heap.size w w1:=h1e▸ja
 generalize h2e:w1.alloc (.cells #[.int .u64 (B 0),.int .u64 (B 1),.int .u64 (B 2),.int .u64 (B 3)] t2)=w2 at*
 have s2:w2.heap.size=w.heap.size+1+1:=by rw[<-h2e,<-s1];simp
 have b2:Below w.heap.size w w2:=h2e▸b1.alloc (by omega) _;have h3:I8 _ _ 4 (fun _=>0):=rC.zero w2 t3;have f3:=Y0.new w2 #[.int .u64 0,.int .u64 0,.int .u64 0,.int .u64 0] t3 4
 generalize h3e:w2.alloc (.cells #[.int .u64 0,.int .u64 0,.int .u64 0,.int .u64 0] t3)=w3 at*
 have s3:w3.heap.size=w.heap.size+1+1+1:=by rw[<-h3e,<-s2];simp
 have b3:Below w.heap.size w w3:=h3e▸b2.alloc (by omega) _;have h4:I8 _ _ 4 (fun _=>0):=rC.zero w3 t4;have f4:=Y0.new w3 #[.int .u64 0,.int .u64 0,.int .u64 0,.int .u64 0] t4 4
 generalize h4e:w3.alloc (.cells #[.int .u64 0,.int .u64 0,.int .u64 0,.int .u64 0] t4)=w4 at*
 have s4:w4.heap.size=w.heap.size+1+1+1+1:=by rw[<-h4e,<-s3];simp
 have b4:Below w.heap.size w w4:=h4e▸b3.alloc (by omega) _;have h5:=I8.zero8 w4 t5;have f5:=Y0.new w4 #[.int .u64 0,.int .u64 0,.int .u64 0,.int .u64 0,.int .u64 0,.int .u64 0,.int .u64 0,.int .u64 0] t5 8;rw[s1] at h2;rw[s2] at h3 f3;rw[s3] at h4 f4;rw[s4] at h5 f5;have f3':Y0 w4 (w.heap.size+1+1) 4:=h4e▸f3.alloc (by omega) _;have h3':I8 w4 (w.heap.size+1+1) 4 (fun _=>0):=h4e▸h3.alloc _;have h2':I8 w4 (w.heap.size+1) 4 B:=h4e▸(show I8 w3 _ 4 B from h3e▸h2.alloc _).alloc _;rw[hW];exact⟨h2'.alloc _,h5,f5,h3'.alloc _,h4.alloc _,f3'.alloc (by omega) _,f4.alloc (by omega) _,b4.alloc (by omega) _⟩
theorem mul_any{a b:Nat}(ha:a<jk)(hb:b<jk)(w:World):
  Calls prog 208 #[ji a,ji b] w fun e w'=>e=.returned (.tuple #[ji (mulL a b),ji (yJ a b)])/\Below w.heap.size w w':=by
 have hXa:=XP (jg jf a);have hXb:=XP (jg jf b);have HA:=jh (qh a);have HB:=jh (qh b);have Ha:=jh ha;have Hb:=jh hb;have harr:=fun(x:Nat) (o n c:Nat) (w:World) (h:4<=n)=>run_arrayAt (P:=prog) w 24 22 4 (some ⟨x,o,none⟩) n c underlying24 h
 have HS:=jh (mul_start w (jg jf a) (jg jf b));clear ha hb;unfold ji words
 go_enter func208,ntmps208
 go_wp2
 go_loopw [13] (fun i wr=>∃(i':Nat) (L:Nat->Nat),i'<=4/\i=.int .i64 i'/\xE w wr b L/\Hid (qf jf 8 L=qf jf i' (jg jf a)*qf jf 4 (jg jf b)/\(∀j,i'+4<=j->L j=0)/\∀j,L j<jf)) (fun i _=>4-(intOf i).toNat)
 case atStart=>
  obtain⟨h1,h2,h3,h4,h5,h6,h7,h8⟩:=HS.out _ _ _ _ _ _ rfl;exact⟨0,fun _=>0,by omega,rfl,⟨h1,h2,h3,h4,h5,h6,h7,h8⟩,jh ⟨by rw[fP];simp[qf],fun _ _=>rfl,fun _=>zJ⟩⟩
 case round=>
  obtain⟨i',L,hi,rfl,hM,hL⟩:=hrel
  by_cases hlt:i'<4
  ·have b0:=hM.two 0 (by omega);have b1:=hM.two 1 (by omega);have b2:=hM.two 2 (by omega);have b3:=hM.two 3 (by omega);have HM:=jh hM;have hdec:decide ((i':Int)<4)=true:=by simp;omega
   clear hM
   go_wp2
   clear b0 b1 b2 b3;obtain⟨wo,hwo⟩:∃wo:World,wo=wr:=⟨_,rfl⟩;have HWO:=jh hwo;clear hwo
   go_loopw [9,18] (fun m k wr=>∃(k' more:Nat) (L:Nat->Nat),k'<=4/\k=.int .i64 k'/\m=.int .u64 more/\xE w wr b L/\Hid (sJ jf 8 4 (jg jf a) (jg jf b) L i' k' more/\(∀j,L j<jf)/\more<jf)) (fun _ k _=>4-(intOf k).toNat)
   case atStart=>exact⟨0,0,L,by omega,rfl,rfl,HM.out,jh ⟨MP hL.out.1 hL.out.2.1,hL.out.2.2,zJ⟩⟩
   case round=>
    obtain⟨k',more,L',hk,rfl,rfl,hM',hL'⟩:=hrel
    by_cases hkl:k'<4
    ·have c1:=hM'.out (i'+k') (by omega);have f1:=hM'.free (i'+k') (by omega);have HM':=jh hM';clear hM'
     go_wp2_with fail
     refine(times_any (jg jf a i') (jg jf b k') (L' (i'+k')) more (HA.out _) (HB.out _) (hL'.out.2.1 _) hL'.out.2.2 _).mono ?_;rintro _ _ ⟨rfl,rfl⟩
     go_wp2
     go_roundw
     case rel=>
      have hn:Hid (sJ jf 8 4 (jg jf a) (jg jf b) (fun j=>if j=i'+k' then tmL (jg jf a i') (jg jf b k') (L' (i'+k')) more else L' j) i' (k'+1) (tmH (jg jf a i') (jg jf b k') (L' (i'+k')) more)/\
        (∀j,(fun j=>if j=i'+k' then tmL (jg jf a i') (jg jf b k') (L' (i'+k')) more else L' j) j<jf)/\tmH (jg jf a i') (jg jf b k') (L' (i'+k')) more<jf):=by
       refine jh ⟨oV hL'.out.1 hkl (by omega) (tm_eq _ _ _ _),fun j=>?_,tmH_lt (HA.out _) (HB.out _) (hL'.out.2.1 _) hL'.out.2.2⟩;dsimp only
       split
       ·exact tmL_lt _ _ _ _
       ·exact hL'.out.2.1 j
      exact⟨k'+1,_,_,by omega,by go_num,rfl,HM'.out.set _ _,hn⟩
     case measure=>simp[intOf];omega
    ·obtain rfl:k'=4:=by omega
     clear hkl;have c1:=hM'.out (i'+4) (by omega);have f1:=hM'.free (i'+4) (by omega);have HM':=jh hM';clear hM'
     go_wp2
     go_roundw
     case rel=>
      have hr:=mul_row hL'.out.1 (show i'+4<8 by omega);refine⟨i'+1,_,by omega,by go_num,HM'.out.set _ _,jh ⟨hr.1,hr.2,fun j=>?_⟩⟩
      split
      ·exact hL'.out.2.2
      ·exact hL'.out.2.1 j
     case measure=>simp[intOf];omega
  ·obtain rfl:i'=4:=by omega
   clear hlt;have c0:=hM.out 0 (by omega);have c1:=hM.out 1 (by omega);have c2:=hM.out 2 (by omega);have c3:=hM.out 3 (by omega);have c4:=hM.out 4 (by omega);have c5:=hM.out 5 (by omega);have c6:=hM.out 6 (by omega);have c7:=hM.out 7 (by omega);have l0:=hM.low 0 (by omega);have l1:=hM.low 1 (by omega);have l2:=hM.low 2 (by omega);have l3:=hM.low 3 (by omega);have h0:=hM.high 0 (by omega);have h1:=hM.high 1 (by omega);have h2:=hM.high 2 (by omega);have h3:=hM.high 3 (by omega);have lf0:=hM.lowFree 0 (by omega);have lf1:=hM.lowFree 1 (by omega);have lf2:=hM.lowFree 2 (by omega);have lf3:=hM.lowFree 3 (by omega);have hf0:=hM.highFree 0 (by omega);have hf1:=hM.highFree 1 (by omega);have hf2:=hM.highFree 2 (by omega);have hf3:=hM.highFree 3 (by omega);have hbel:=jh hM.below;clear hM
   go_wp2
   go_region
   go_wp2
   have hn:=IL (n:=4) ZS (fun j _=>hL.out.2.2 j) (by rw[show 4+4=8 from rfl,hL.out.1,Zr Ha.out,Zr Hb.out]);have e1:words L=ji (mulL a b):=Zc fun j hj=>by rw[<-hn.1,ZA zJ (fun j _=>hL.out.2.2 j) j hj]
   have e2:words (fun j=>L (4+j))=ji (yJ a b):=Zc fun j hj=>by rw[<-hn.2,ZA (L:=fun j=>L (4+j)) zJ (fun j _=>hL.out.2.2 _) j hj]
   refine bodyPost_ret (v:=.tuple #[words L,words (fun j=>L (4+j))]) (by simp[results,results208,go_sem,words,l0,l1,l2,l3,h0,h1,h2,h3]) rfl ⟨?_,?_⟩
   ·rw[e1,e2];rfl
   ·exact((((((((hbel.out.setCell (by simp;omega) _).setCell (by simp;omega) _).setCell (by simp;omega) _).setCell (by simp;omega) _).setCell (by simp;omega) _).setCell (by simp;omega) _).setCell (by simp;omega) _).setCell (by simp;omega) _).drew
theorem all_words{a b:Nat}(ha:a<jk)(hb:b<jk):((List.range 4).all fun i=>((jg jf a i:Nat):Int)==((jg jf b i:Nat):Int))=decide (a=b):=by
 by_cases h:a=b
 ·subst h;simp
 ·rw[decide_eq_false h,<-Bool.not_eq_true];intro hall;rw[List.all_eq_true] at hall
  exact h (kW ha hb fun j hj=>by
   exact Int.ofNat_inj.1 (eq_of_beq (hall j (List.mem_range.2 hj))))
theorem JP(A:Nat->Nat):∀i,i<4->(#[Value.int .u64 (A 0),.int .u64 (A 1),.int .u64 (A 2),.int .u64 (A 3)])[i]?=some (.int .u64 ((A i:Nat):Int))
 |0,_=>rfl
 |1,_=>rfl
 |2,_=>rfl
 |3,_=>rfl
 |k+4,h=>absurd h (by omega)
theorem qX(a b:Nat)(ha:a<jk)(hb:b<jk)(w:World):(binOp .eql 24 (.agg #[.int .u64 (jg jf a 0),.int .u64 (jg jf a 1),.int .u64 (jg jf a 2),.int .u64 (jg jf a 3)]) (.agg #[.int .u64 (jg jf b 0),.int .u64 (jg jf b 1),.int .u64 (jg jf b 2),.int .u64 (jg jf b 3)])).run prog w=.ok (.bool (decide (a=b))) w:=by
 rw[NU w 24 22 .u64 4 underlying24 underlying22 (fun _=>by kernel_rfl) (fun _=>by kernel_rfl) _ _ (fun i=>jg jf a i) (fun i=>jg jf b i) (JP _) (JP _),all_words ha hb]
theorem Zm(a b:Nat)(ha:a<jk)(hb:b<jk)(w:World):(binOp .neq 24 (.agg #[.int .u64 (jg jf a 0),.int .u64 (jg jf a 1),.int .u64 (jg jf a 2),.int .u64 (jg jf a 3)]) (.agg #[.int .u64 (jg jf b 0),.int .u64 (jg jf b 1),.int .u64 (jg jf b 2),.int .u64 (jg jf b 3)])).run prog w=.ok (.bool (!decide (a=b))) w:=by
 rw[KU w 24 22 .u64 4 underlying24 underlying22 (fun _=>by kernel_rfl) (fun _=>by kernel_rfl) _ _ (fun i=>jg jf a i) (fun i=>jg jf b i) (JP _) (JP _),all_words ha hb]
theorem zj{a b:Nat}(ha:a<jk)(hb:b<jk)(w:World):
  Calls prog 26 #[ji a,ji b] w fun e w'=>e=.returned (.int .i64 (zk a b))/\Below w.heap.size w w':=by
 have heq:=qX a b ha hb;have HC:=jh (@Ze a b ha hb)
 by_cases h:a=b
 ·have hv:zk a b=0:=by unfold zk;rw[if_neg (by omega),if_pos h]
  rw[hv];rw[decide_eq_true h] at heq;clear hv h ha hb;unfold ji words
  go_enter func26,ntmps26
  go_wp2
  go_ret
  exact⟨rfl,(ja).alloc (by simp) _⟩
 ·rw[decide_eq_false h] at heq
  by_cases hlt:a<b
  ·have hv:zk a b= -1:=by unfold zk;rw[if_pos hlt]
   have hs:zq a b=1:=by unfold zq;rw[if_pos hlt]
   rw[hv];rw[hs] at HC;unfold ji words at HC⊢;clear hv hs h hlt ha hb
   go_enter func26,ntmps26
   go_wp2_with fail
   refine(HC.out _).mono ?_;rintro _ w1 ⟨rfl,hb1⟩;have HB:=jh hb1;clear hb1
   go_wp2
   go_ret
   have hb1:=HB.out;exact⟨rfl,((ja).alloc (by simp) _).trans ((hb1.mono (by simp;omega)).alloc (by have:=hb1.size;simp at this;omega) _)⟩
  ·have hv:zk a b=1:=by unfold zk;rw[if_neg hlt,if_neg h]
   have hs:zq a b=0:=by unfold zq;rw[if_neg hlt]
   rw[hv];rw[hs] at HC;unfold ji words at HC⊢;clear hv hs h hlt ha hb
   go_enter func26,ntmps26
   go_wp2_with fail
   refine(HC.out _).mono ?_;rintro _ w1 ⟨rfl,hb1⟩;have HB:=jh hb1;clear hb1
   go_wp2
   go_ret
   have hb1:=HB.out;exact⟨rfl,((ja).alloc (by simp) _).trans ((hb1.mono (by simp;omega)).alloc (by have:=hb1.size;simp at this;omega) _)⟩
theorem bitLen_eq(x:Nat)(h:x<2^64):Lib.bitLen x=qm x:=by
 induction x using Nat.strongRecOn with
 |_ x ih=>
  by_cases h0:x=0
  ·subst h0;rfl
  ·rw[Lib.bitLen_half x h0 h,ih (x/2) (by omega) (by omega)];unfold qm;rw[if_neg h0,Nat.log2_def x]
   by_cases h2:2<=x
   ·rw[if_pos h2,if_neg (by omega)];omega
   ·obtain rfl:x=1:=by omega
    simp
theorem rP(x:Nat)(hx:x<jf)(w:World):Calls prog 205 #[.int .u64 x] w fun e w'=>e=.returned (.int .i64 (qm x))/\w=w':=by
 refine(Tryz.bits_Len64 x w (by omega) (by unfold jf at hx;omega)).mono fun _ _ ⟨he,hw⟩=>⟨?_,hw.symm⟩
 rw[he,Int.toNat_natCast,bitLen_eq x (by rw[<-wE];exact hx)]
theorem QY{a:Nat}(ha:a<jk)(w:World):
  Calls prog 164 #[ji a] w fun e w'=>e=.returned (.int .i64 (qm a))/\Below w.heap.size w w':=by
 have Ha:=jh ha;have hw:=rC.new w (jg jf a);have HW:=jh hw;clear ha hw;unfold ji words
 go_enter func164,ntmps164
 go_wp2
 go_loopw [3] (fun i wr=>∃k:Nat,k<=4/\i=.int .i64 ((k:Int)-1)/\rC wr w.heap.size (jg jf a)/\Below w.heap.size w wr/\Hid (∀j,k<=j->j<4->jg jf a j=0)) (fun i _=>(intOf i+1).toNat)
 case atStart=>exact⟨4,by omega,rfl,HW.out _,ja,jh fun j h1 h2=>by omega⟩
 case round=>
  obtain⟨k,hk,rfl,hc,hb,hz⟩:=hrel
  by_cases hk0:k=0
  ·subst hk0
   have h0:a=0:=by
    have:=QZ Ha.out hz.out (by omega);rw[Nat.pow_zero] at this;omega
   have H0:=jh h0;have HB:=jh hb;clear h0 hc hb
   go_wp2
   go_ret
   exact⟨by rw[H0.out];rfl,HB.out⟩
  ·obtain⟨i,rfl⟩:∃i,k=i+1:=⟨k-1,by omega⟩;have ei:((i+1:Nat):Int)-1=(i:Int):=by omega
   rw[ei];clear ei;have ci:=hc i (by omega);have HC:=jh hc;have HB:=jh hb;clear hc hb hk0
   by_cases hd:jg jf a i=0
   ·have hz':Hid (∀j,i<=j->j<4->jg jf a j=0):=jh fun j h1 h2=>by
     by_cases hj:j=i
     ·subst hj;exact hd
     ·exact hz.out j (by omega) h2
    rw[hd] at ci;clear hd
    go_wp2
    go_roundw
    case rel=>exact⟨i,by omega,by go_num,HC.out,HB.out,hz'⟩
    case measure=>simp[intOf]
   ·have hlt:=QZ Ha.out hz.out hk;have hbt:=nZ (a:=a) (i:=i) (by rw[wE,<-Nat.pow_mul] at hlt;exact hlt) hd;have hdp:0<jg jf a i:=by omega
    have hle:=bitsN_le Ha.out;have HR:=jh hbt;have HL:=jh (rP (jg jf a i) (qh a i));have hdl:(qm (jg jf a i):Int)<=256:=by omega
    clear hd hlt hbt hle
    go_wp2_with fail
    refine(HL.out _).mono ?_;rintro _ _ ⟨rfl,rfl⟩
    go_wp2
    go_ret
    refine⟨?_,HB.out⟩;rw[HR.out];exact congrArg (fun z=>Ending.returned (.int .i64 z)) (by omega)
theorem bit_val(a n:Nat)(hn:n<256):bits BinOp.and IntKind.u64 ((jg jf a (n/64):Int)/2^(n%64)) 1=((Qu a n:Nat):Int):=by
 have e:((jg jf a (n/64):Nat):Int)/2^(n%64)=((jg jf a (n/64)/2^(n%64):Nat):Int):=by simp
 have hl:jg jf a (n/64)/2^(n%64)<18446744073709551616:=Nat.lt_of_le_of_lt (Nat.div_le_self _ _) (qh a _);rw[e,show(1:Int)=((1:Nat):Int) from rfl,u64_and_nat _ _ hl (by omega),Nat.and_one_is_mod];unfold Qu;rw[if_neg (by omega),Int.toNat_natCast];rw[wE,wG 64 a (n/64) (n%64) (by omega),show 64*(n/64)+n%64=n by omega]
theorem fK{a:Nat}(i:Int)(w:World)(hi0: -9223372036854775808<=i)(hi1:i<=9223372036854775807):
  Calls prog 206 #[ji a,.int .i64 i] w fun e w'=>e=.returned (.int .u64 (Qu a i))/\Below w.heap.size w w':=by
 by_cases h:i<0∨255<i
 ·have hv:Qu a i=0:=by unfold Qu;rw[if_pos h]
  rw[hv];have h':i<0∨256<=i:=by omega
  clear hv h;unfold ji words
  rcases h' with h|h
  all_goals
   go_enter func206,ntmps206
   go_wp2
   go_ret
   exact⟨rfl,ja⟩
 ·obtain⟨n,rfl⟩:=Int.eq_ofNat_of_zero_le (show 0<=i by omega);have hn:n<256:=by omega
  have hq:n/64<4:=by omega
  have cq:=fun t=>rC.new w (jg jf a) t (n/64) hq
  have hr:n%64<64:=by omega
  clear h;unfold ji words
  go_enter func206,ntmps206
  go_wp2
  go_ret
  exact⟨congrArg (fun z=>Ending.returned (.int .u64 z)) (bit_val a n hn),ja⟩
theorem lead_any(x:Nat)(hx:x<jf)(w:World):Calls prog 252 #[.int .u64 x] w fun e w'=>e=.returned (.int .i64 ((64-qm x:Nat):Int))/\w=w':=by
 have h:=rP x hx w
 have hb:qm x<=64:=by
  unfold qm
  split
  ·omega
  ·have:=Nat.log2_lt (n:=x) (k:=64) (by omega) |>.2 (by rw[<-wE];exact hx)
   omega
 have hbI:(qm x:Int)<=64:=by omega
 have H:=jh h;obtain⟨k,hk⟩:=je (qm x);rw[<-hk] at H hbI⊢;clear h hk hb
 go_enter func252,ntmps252
 go_wp2_with (go_at_call 205;refine H.out.mono ?_;rintro _ w9 ⟨rfl,rfl⟩)
 go_ret
 exact⟨by rw[show((64-k:Nat):Int)=64-(k:Int) by omega];rfl,rfl⟩
theorem Qw(x:Nat):IntKind.u64.wrap (x:Int)=((x%18446744073709551616:Nat):Int):=by
 rw[IntKind.wrap_u64];omega
theorem oW(lo y:Nat)(hlo:lo<jf)(hy:y<jf)(h0:0<y)(w:World):Calls prog 207 #[.int .u64 0,.int .u64 lo,.int .u64 y] w fun e w'=>e=.returned (.tuple #[.int .u64 ((lo/y:Nat):Int),.int .u64 ((lo%y:Nat):Int)])/\Below w.heap.size w w':=by
 unfold jf at hlo hy;have hloI:(lo:Int)<=18446744073709551615:=by omega
 have hyI:(y:Int)<=18446744073709551615:=by omega
 have h0I:(0:Int)<(y:Int):=by omega
 have h1I:((y:Int)==0)=false:=by simp;omega
 have h2I:¬((y:Int)<=0):=by omega
 have h3I:¬((y:Int)=0):=by omega
 go_enter func207,ntmps207
 go_wp2
 go_quiet (fail)
 go_wp2
 go_ret2
 have hq:lo/y<=18446744073709551615:=Nat.le_trans (Nat.div_le_self _ _) (by omega);have e9:IntKind.u64.wrap ((lo:Int)/(y:Int))=((lo/y:Nat):Int):=by rw[show(lo:Int)/(y:Int)=((lo/y:Nat):Int) by simp,Qw,Nat.mod_eq_of_lt (by omega)]
 exact⟨by simp[e9],⟨rfl,rfl,rfl,Nat.le_refl _,fun _ _=>rfl⟩⟩
theorem and_low(x:Nat)(hx:x<18446744073709551616):bits .and .u64 (x:Int) 4294967295=((x%4294967296:Nat):Int):=by
 rw[show(4294967295:Int)=((4294967295:Nat):Int) from rfl,u64_and_nat _ _ hx (by omega),show(4294967295:Nat)=2^32-1 from rfl,Nat.and_two_pow_sub_one_eq_mod]
structure Dx(hi lo y s Y y1 y0 u u1 u0:Nat):Prop where
 hY:Y=y*2^s
 hs:s<=63
 Yb:9223372036854775808<=Y/\Y<18446744073709551616
 h:Dh y1 y0 u u1
 Ye:Y=y1*4294967296+y0
 hu0:u0<4294967296
 key:(hi*jf+lo)*2^s=(u*4294967296+u1)*4294967296+u0
theorem sN{y:Nat}(hy:y<jf):qm y<=64:=by
 unfold qm
 split
 ·omega
 ·have:=Nat.log2_lt (n:=y) (k:=64) (by omega) |>.2 (by rw[<-wE];exact hy)
  omega
theorem dx_start{hi lo y:Nat}(hlo:lo<jf)(hy:y<jf)(hhi:hi<y):∃Y y1 y0 u L u1 u0,Dx hi lo y (64-qm y) Y y1 y0 u u1 u0/\y1=Y/4294967296/\y0=Y%4294967296/\u1=L/4294967296/\u0=L%4294967296/\L<18446744073709551616/\
  IntKind.u64.wrap ((y:Int)*2^(64-qm y))=(Y:Int)/\IntKind.u64.wrap ((lo:Int)*2^(64-qm y))=(L:Int)/\bits .or .u64 (IntKind.u64.wrap ((hi:Int)*2^(64-qm y))) ((lo:Int)/2^(64-(64-qm y)))=(u:Int):=by
 have hb:=sN hy;have hsp:=Jy y
 have hb1:1<=qm y:=by
  unfold qm;rw[if_neg (by omega)];omega
 obtain⟨b,hbe⟩:=je (qm y);rw[<-hbe] at hb hsp hb1⊢;obtain⟨s,hs⟩:=je (64-b);rw[<-hs,show 64-s=b by omega];have hpow:2^b*2^s=18446744073709551616:=by rw[<-Nat.pow_add,show b+s=64 by omega]
 have hpow1:2^(b-1)*2^s=9223372036854775808:=by rw[<-Nat.pow_add,show b-1+s=63 by omega]
 have hps:0<2^s:=Nat.pow_pos (by omega);have hpb:0<2^b:=Nat.pow_pos (by omega);unfold jf at hlo hy;have hY2:y*2^s<18446744073709551616:=by rw[<-hpow];exact Nat.mul_lt_mul_of_pos_right hsp.1 hps
 have hY1:9223372036854775808<=y*2^s:=by rw[<-hpow1];exact Nat.mul_le_mul_right _ (hsp.2 (by omega))
 have hH:hi*2^s<18446744073709551616:=Nat.lt_of_le_of_lt (Nat.mul_le_mul_right _ (Nat.le_of_lt hhi)) hY2;have hlo2:lo/2^b<2^s:=by rw[Nat.div_lt_iff_lt_mul hpb,Nat.mul_comm,hpow];exact hlo
 have hlod:lo*2^s=lo/2^b*18446744073709551616+lo*2^s%18446744073709551616:=by
  have h1:lo*2^s/18446744073709551616=lo/2^b:=by rw[<-hpow,Nat.mul_div_mul_right _ _ hps]
  have:=Nat.div_add_mod (lo*2^s) 18446744073709551616;rw[h1] at this;omega
 have hkey:(hi*jf+lo)*2^s=(hi*2^s+lo/2^b)*18446744073709551616+lo*2^s%18446744073709551616:=by
  unfold jf;have e1:hi*18446744073709551616*2^s=hi*2^s*18446744073709551616:=by rw[Nat.mul_assoc,Nat.mul_comm 18446744073709551616,Nat.mul_assoc]
  rw[Nat.add_mul,Nat.add_mul,e1];omega
 have hlt:(hi*jf+lo)*2^s<y*2^s*18446744073709551616:=by
  have h1:hi*jf+lo<y*18446744073709551616:=by unfold jf;omega
  have h2:=Nat.mul_lt_mul_of_pos_right h1 hps;have h3:y*18446744073709551616*2^s=y*2^s*18446744073709551616:=by rw[Nat.mul_assoc,Nat.mul_comm 18446744073709551616,Nat.mul_assoc]
  rw[h3] at h2;exact h2
 have hLm:lo*2^s%18446744073709551616<18446744073709551616:=Nat.mod_lt _ (by omega);have cs:((2:Int)^s)=((2^s:Nat):Int):=by simp
 have cb:((2:Int)^b)=((2^b:Nat):Int):=by simp
 obtain⟨Y,hYe⟩:=je (y*2^s);obtain⟨L,hLe⟩:=je (lo*2^s%18446744073709551616);obtain⟨H,hHe⟩:=je (hi*2^s);obtain⟨t,hte⟩:=je (lo/2^b)
 have hor:H|||t=H+t:=by
  rw[hHe];exact nat_join s _ _ (Nat.mul_mod_left _ _) (by rw[hte];exact hlo2)
 refine⟨Y,Y/4294967296,Y%4294967296,H+t,L,L/4294967296,L%4294967296,⟨hYe,by omega,by omega,⟨by omega,by omega,by rw[<-hYe,hkey,<-hHe,<-hte,<-hLe] at hlt;omega,by omega⟩,by omega,by omega,by rw[hkey,<-hHe,<-hte,<-hLe];omega⟩,rfl,rfl,rfl,rfl,by omega,?_,?_,?_⟩
 ·rw[cs,show(y:Int)*((2^s:Nat):Int)=((y*2^s:Nat):Int) by simp,Qw,<-hYe,Nat.mod_eq_of_lt (by omega)]
 ·rw[cs,show(lo:Int)*((2^s:Nat):Int)=((lo*2^s:Nat):Int) by simp,Qw,<-hLe]
 ·rw[cs,cb,show(hi:Int)*((2^s:Nat):Int)=((hi*2^s:Nat):Int) by simp,Qw,<-hHe,Nat.mod_eq_of_lt (by omega),show(lo:Int)/((2^b:Nat):Int)=((lo/2^b:Nat):Int) by simp,<-hte,u64_or_nat _ _ (by omega) (by rw[hte];exact Nat.lt_of_le_of_lt (Nat.div_le_self _ _) hlo),hor]
theorem Zj{y1 y0 U U1:Nat}(h:Dh y1 y0 U U1)(hU:U<18446744073709551616):∃q r p:Nat,Dg y1 y0 U U1 q r/\q<=4294967297/\(q:Int)<=4294967297/\r<y1/\(r:Int)<=4294967295/\(U:Int)/(y1:Int)=(q:Int)/\(U:Int).tdiv (y1:Int)=(q:Int)/\
  IntKind.u64.wrap ((q:Int)*(y1:Int))=(p:Int)/\(q:Int)*(y1:Int)=(p:Int)/\(U:Int)-(p:Int)=(r:Int):=by
 have g:=Dg.start h;have hy1:=h.hy1;have hr:U%y1<y1:=Nat.mod_lt _ (by omega);have hs:=g.sum;have hl:=g.le;have e1:(U:Int)/(y1:Int)=((U/y1:Nat):Int):=by simp
 refine⟨U/y1,U%y1,U/y1*y1,g,hl,by omega,hr,by omega,e1,by rw[Int.tdiv_eq_ediv_of_nonneg (by omega)];exact e1,?_,by simp,by omega⟩;rw[show((U/y1:Nat):Int)*(y1:Int)=((U/y1*y1:Nat):Int) by simp,Qw,Nat.mod_eq_of_lt (by omega)]
theorem WJ{y1 y0 U U1 q r:Nat}(h:Dh y1 y0 U U1)(g:Dg y1 y0 U U1 q r):∃Z:Nat,Z=q*y0/\Z<18446744073709551616/\IntKind.u64.wrap ((q:Int)*(y0:Int))=(Z:Int)/\(q:Int)*(y0:Int)=(Z:Int):=
 ⟨q*y0,rfl,g.small h,by rw[show(q:Int)*(y0:Int)=((q*y0:Nat):Int) by simp,Qw,Nat.mod_eq_of_lt (g.small h)],by simp⟩
theorem Jv{y1 y0 U U1 q r:Nat}(h:Dh y1 y0 U U1)(g:Dg y1 y0 U U1 q r)(hc:4294967296<=q∨4294967296*r+U1<q*y0)(hr:r<=4294967295):∃q9 r9:Nat,Dg y1 y0 U U1 q9 r9/\0<q/\(q:Int)-1=(q9:Int)/\(r:Int)+(y1:Int)=(r9:Int)/\q9<=4294967296/\(q9:Int)<=4294967296/\q9<q/\(r9:Int)<=8589934590:=by
 obtain⟨h1,h2⟩:=g.down h hc;have hl:=g.le;have hy:=h.hy1;exact⟨q-1,r+y1,h2,h1,by omega,by omega,by omega,by omega,by omega,by omega⟩
theorem zN{Y y1 y0 U U1 q:Nat}(hYe:Y=y1*4294967296+y0)(hYb:9223372036854775808<=Y/\Y<18446744073709551616)(h:Dh y1 y0 U U1)(hq:q=(U*4294967296+U1)/(y1*4294967296+y0)):∃v p1 p2 p3:Nat,v=(U*4294967296+U1)%(y1*4294967296+y0)/\v<y1*4294967296+y0/\q<4294967296/\(q:Int)<=4294967295/\
  IntKind.u64.wrap ((q:Int)*(Y:Int))=(p3:Int)/\IntKind.u64.wrap ((U:Int)*4294967296)=(p1:Int)/\IntKind.u64.wrap ((p1:Int)+(U1:Int))=(p2:Int)/\IntKind.u64.wrap ((p2:Int)-(p3:Int))=(v:Int)/\
  (p1:Int)<=18446744073709551615/\(p2:Int)<=18446744073709551615/\(p3:Int)<=18446744073709551615/\(v:Int)<=18446744073709551615:=by
 have hqB:q<4294967296:=by rw[hq];exact h.lt
 obtain⟨v,hv⟩:=je ((U*4294967296+U1)%(y1*4294967296+y0));have hlt:v<y1*4294967296+y0:=by rw[hv];exact Nat.mod_lt _ h.pos
 obtain⟨p,hp⟩:=je (q*Y);have hsum:p+v=U*4294967296+U1:=by rw[hp,hv,hYe,hq,Nat.mul_comm];exact Nat.div_add_mod _ _
 refine⟨v,U*4294967296%18446744073709551616,(U*4294967296%18446744073709551616+U1)%18446744073709551616,p%18446744073709551616,hv,hlt,hqB,by omega,?_,?_,?_,?_,by omega,by omega,by omega,by omega⟩
 ·rw[show(q:Int)*(Y:Int)=((q*Y:Nat):Int) by simp,Qw,<-hp]
 ·rw[show(U:Int)*4294967296=((U*4294967296:Nat):Int) by simp,Qw]
 ·rw[show((U*4294967296%18446744073709551616:Nat):Int)+(U1:Int)=((U*4294967296%18446744073709551616+U1:Nat):Int) by simp,Qw]
 ·rw[IntKind.wrap_u64];omega
theorem Dx.fin{hi lo y s Y y1 y0 u u1 u0 q v q2 R:Nat}(h:Dx hi lo y s Y y1 y0 u u1 u0)(hq:q=(u*4294967296+u1)/(y1*4294967296+y0))(hv:v=(u*4294967296+u1)%(y1*4294967296+y0))(hq2:q2=(v*4294967296+u0)/(y1*4294967296+y0))(hR:R=(v*4294967296+u0)%(y1*4294967296+y0)):
  (hi*jf+lo)/y=q*4294967296+q2/\(hi*jf+lo)%y=R/2^s:=by
 have hps:0<2^s:=Nat.pow_pos (by omega);have h2:=SX (y:=y1*4294967296+y0) (u:=u) (u1:=u1) (u0:=u0) h.h.pos;rw[<-hv,<-hq,<-hq2,<-hR,<-h.key,<-h.Ye,h.hY] at h2;rw[Nat.mul_div_mul_right _ _ hps,Nat.mul_mod_mul_right] at h2;refine⟨h2.1,?_⟩;rw[<-h2.2,Nat.mul_div_cancel _ hps]
theorem pW(hi lo y:Nat)(h0:0<hi)(hlo:lo<jf)(hy:y<jf)(hhi:hi<y)(w:World):Calls prog 207 #[.int .u64 hi,.int .u64 lo,.int .u64 y] w fun e w'=>e=.returned (.tuple #[.int .u64 (((hi*jf+lo)/y:Nat):Int),.int .u64 (((hi*jf+lo)%y:Nat):Int)])/\Below w.heap.size w w':=by
 obtain⟨QQ,hQQ⟩:=je ((hi*jf+lo)/y);obtain⟨RR,hRR⟩:=je ((hi*jf+lo)%y);rw[<-hQQ,<-hRR];have HQQ:=jh hQQ;have HRR:=jh hRR;clear hQQ hRR;have HLZ:=jh (lead_any y hy);obtain⟨Y,y1,y0,u,L,u1,u0,hx,e1,e2,e3,e4,hL,eY,eL,eU⟩:=dx_start hlo hy hhi;obtain⟨s,hs⟩:=je (64-qm y);rw[<-hs] at HLZ hx eY eL eU;have HX:=jh hx;have hYb:=hx.Yb;have hy1:=hx.h.hy1;have hy0:=hx.h.hy0;have hu1:=hx.h.hu1;have hu0:=hx.hu0;have hs9:=hx.hs;have hu9:=hx.h.hu;have hYe:=hx.Ye;have KX:=jh hx.h;have hsI:(s:Int)<=63:=by omega
 have hYI:(Y:Int)<=18446744073709551615:=by omega
 have hLI:(L:Int)<=18446744073709551615:=by omega
 have huI:(u:Int)<=18446744073709551615:=by omega
 have hy1a:(2147483648:Int)<=(y1:Int):=by omega
 have hy1b:(y1:Int)<=4294967295:=by omega
 have hy0b:(y0:Int)<=4294967295:=by omega
 have hu1b:(u1:Int)<=4294967295:=by omega
 have hu0b:(u0:Int)<=4294967295:=by omega
 have ey1:(Y:Int)/4294967296=(y1:Int):=by omega
 have ey0:bits .and .u64 (Y:Int) 4294967295=(y0:Int):=by rw[and_low _ hYb.2,<-e2]
 have eu1:(L:Int)/4294967296=(u1:Int):=by omega
 have eu0:bits .and .u64 (L:Int) 4294967295=(u0:Int):=by rw[and_low _ hL,<-e4]
 have hy0p:0<y:=by omega
 unfold jf at hlo hy;have hloI:(lo:Int)<=18446744073709551615:=by omega
 have hyI:(y:Int)<=18446744073709551615:=by omega
 have h1I:((y:Int)==0)=false:=by simp;omega
 have h2I:¬((y:Int)<=(hi:Int)):=by omega
 have h3I:¬((y:Int)=0):=by omega
 have h4I:¬((hi:Int)=0):=by omega
 have hhiI:(hi:Int)<(y:Int):=by omega
 have h5I:¬((y1:Int)=0):=by omega
 clear hx e1 e2 e3 e4 hs hYb hy0 hu1 hu0 hYe hu9;obtain⟨qa,ra,pa,hga,hgqa,hgqaI,hgra,hgraI,eda,eta,epa,eba,era⟩:=Zj KX.out (by omega);have Ga:=jh hga;clear hga
 go_enter func207,ntmps207
 go_wp2_with (go_at_call 252;refine(HLZ.out _).mono ?_;rintro _ w9 ⟨rfl,rfl⟩)
 go_loop [15,16] (fun a b=>∃qa ra:Nat,a=.int .u64 qa/\b=.int .u64 ra/\Hid (Dg y1 y0 u u1 qa ra)/\ra<=4294967295) (fun a _=>(intOf a).toNat)
 case atStart=>exact⟨_,_,rfl,rfl,Ga,by omega⟩
 case round=>
  obtain⟨qa,ra,rfl,rfl,HG,L8⟩:=hrel;have hr9I:(ra:Int)<=4294967295:=by omega
  have OV:qa<=4294967297:=HG.out.le;have hq9I:(qa:Int)<=4294967297:=by omega
  obtain⟨Z,hZ,hZ9,eZ,eZb⟩:=WJ KX.out HG.out;have HZ:=jh hZ;clear hZ
  by_cases hcq:4294967296<=qa
  ·have XY:(4294967296:Int)<=(qa:Int):=by omega
   obtain⟨q9a,r9a,S9,rM,eq9,er9,pG,uM,SY,RY⟩:=Jv KX.out HG.out (.inl hcq) L8;have SH:=jh S9;clear S9
   by_cases hbr:4294967296<=r9a
   ·have sG:(4294967296:Int)<=(r9a:Int):=by omega
    have HQa:=jh (SH.out.broke KX.out pG hbr);obtain⟨v,a1,a2,a3,hv,hltv,hqBa,hqBIa,ea3,ea1,ea2,ea4,ha1b,ha2b,ha3b,hvI⟩:=zN HX.out.Ye HX.out.Yb KX.out HQa.out;have HV:=jh hv;clear hv;have XF:=jh (show Dh y1 y0 v u0 from⟨KX.out.hy1,KX.out.hy0,hltv,HX.out.hu0⟩);obtain⟨qb,rb,pb,hgb,hgqb,hgqbI,hgrb,hgrbI,edb,etb,epb,ebb,erb⟩:=Zj XF.out (by omega);have Gb:=jh hgb;clear hgb
    go_wp2
    go_loop [16,18] (fun b a=>∃qb rb:Nat,a=.int .u64 qb/\b=.int .u64 rb/\Hid (Dg y1 y0 v u0 qb rb)/\rb<=4294967295) (fun _ a=>(intOf a).toNat)
    case atStart=>exact⟨_,_,rfl,rfl,Gb,by omega⟩
    case round=>
     obtain⟨qb,rb,rfl,rfl,HG,L8⟩:=hrel;have hr9I:(rb:Int)<=4294967295:=by omega
     have OV:qb<=4294967297:=HG.out.le;have hq9I:(qb:Int)<=4294967297:=by omega
     obtain⟨Z,hZ,hZ9,eZ,eZb⟩:=WJ XF.out HG.out;have HZ:=jh hZ;clear hZ
     by_cases hcq:4294967296<=qb
     ·have XY:(4294967296:Int)<=(qb:Int):=by omega
      obtain⟨RU,XG,S9,rM,eq9,er9,pG,uM,SY,RY⟩:=Jv XF.out HG.out (.inl hcq) L8;have SH:=jh S9;clear S9
      by_cases hbr:4294967296<=XG
      ·have sG:(4294967296:Int)<=(XG:Int):=by omega
       have uJ:=jh (SH.out.broke XF.out pG hbr);obtain⟨R,b1,b2,b3,hR,RV,NV,bJ,eb3,eb1,eb2,eb4,aW,YV,XV,hRI⟩:=zN HX.out.Ye HX.out.Yb XF.out uJ.out;have HR:=jh hR;clear hR;have hfin:=Dx.fin HX.out HQa.out HV.out uJ.out HR.out;rw[<-HQQ.out,<-HRR.out] at hfin;have eR:(R:Int)/2^s=(RR:Int):=by rw[hfin.2];simp
       have HF:=jh hfin.1;clear hfin
       go_wp2
       go_ret2
       refine⟨?_,U3⟩;rw[show(QQ:Int)=(q9a:Int)*4294967296+(RU:Int) by have:=HF.out;omega]
       rfl
      ·have sG:¬((4294967296:Int)<=(XG:Int)):=by omega
       go_wp2
       go_round
       case rel=>exact⟨RU,XG,rfl,rfl,SH,by omega⟩
       case measure=>simp[intOf];omega
     ·have XY:¬((4294967296:Int)<=(qb:Int)):=by omega
      by_cases hcz:4294967296*rb+u0<Z
      ·have WY:(4294967296:Int)*(rb:Int)+(u0:Int)<(Z:Int):=by omega
       obtain⟨RU,XG,S9,rM,eq9,er9,pG,uM,SY,RY⟩:=Jv XF.out HG.out (.inr (by rw[<-HZ.out];exact hcz)) L8;have SH:=jh S9;clear S9
       by_cases hbr:4294967296<=XG
       ·have sG:(4294967296:Int)<=(XG:Int):=by omega
        have uJ:=jh (SH.out.broke XF.out pG hbr);obtain⟨R,b1,b2,b3,hR,RV,NV,bJ,eb3,eb1,eb2,eb4,aW,YV,XV,hRI⟩:=zN HX.out.Ye HX.out.Yb XF.out uJ.out;have HR:=jh hR;clear hR;have hfin:=Dx.fin HX.out HQa.out HV.out uJ.out HR.out;rw[<-HQQ.out,<-HRR.out] at hfin;have eR:(R:Int)/2^s=(RR:Int):=by rw[hfin.2];simp
        have HF:=jh hfin.1;clear hfin
        go_wp2
        go_ret2
        refine⟨?_,U3⟩;rw[show(QQ:Int)=(q9a:Int)*4294967296+(RU:Int) by have:=HF.out;omega]
        rfl
       ·have sG:¬((4294967296:Int)<=(XG:Int)):=by omega
        go_wp2
        go_round
        case rel=>exact⟨RU,XG,rfl,rfl,SH,by omega⟩
        case measure=>simp[intOf];omega
      ·have WY:¬((4294967296:Int)*(rb:Int)+(u0:Int)<(Z:Int)):=by omega
       have uJ:=jh (HG.out.done XF.out (by rw[<-HZ.out];omega));obtain⟨R,b1,b2,b3,hR,RV,NV,bJ,eb3,eb1,eb2,eb4,aW,YV,XV,hRI⟩:=zN HX.out.Ye HX.out.Yb XF.out uJ.out;have HR:=jh hR;clear hR;have hfin:=Dx.fin HX.out HQa.out HV.out uJ.out HR.out;rw[<-HQQ.out,<-HRR.out] at hfin;have eR:(R:Int)/2^s=(RR:Int):=by rw[hfin.2];simp
       have HF:=jh hfin.1;clear hfin
       go_wp2
       go_ret2
       refine⟨?_,U3⟩;rw[show(QQ:Int)=(q9a:Int)*4294967296+(qb:Int) by have:=HF.out;omega]
       rfl
   ·have sG:¬((4294967296:Int)<=(r9a:Int)):=by omega
    go_wp2
    go_round
    case rel=>exact⟨q9a,r9a,rfl,rfl,SH,by omega⟩
    case measure=>simp[intOf];omega
  ·have XY:¬((4294967296:Int)<=(qa:Int)):=by omega
   by_cases hcz:4294967296*ra+u1<Z
   ·have WY:(4294967296:Int)*(ra:Int)+(u1:Int)<(Z:Int):=by omega
    obtain⟨q9a,r9a,S9,rM,eq9,er9,pG,uM,SY,RY⟩:=Jv KX.out HG.out (.inr (by rw[<-HZ.out];exact hcz)) L8;have SH:=jh S9;clear S9
    by_cases hbr:4294967296<=r9a
    ·have sG:(4294967296:Int)<=(r9a:Int):=by omega
     have HQa:=jh (SH.out.broke KX.out pG hbr);obtain⟨v,a1,a2,a3,hv,hltv,hqBa,hqBIa,ea3,ea1,ea2,ea4,ha1b,ha2b,ha3b,hvI⟩:=zN HX.out.Ye HX.out.Yb KX.out HQa.out;have HV:=jh hv;clear hv;have XF:=jh (show Dh y1 y0 v u0 from⟨KX.out.hy1,KX.out.hy0,hltv,HX.out.hu0⟩);obtain⟨qb,rb,pb,hgb,hgqb,hgqbI,hgrb,hgrbI,edb,etb,epb,ebb,erb⟩:=Zj XF.out (by omega);have Gb:=jh hgb;clear hgb
     go_wp2
     go_loop [16,18] (fun b a=>∃qb rb:Nat,a=.int .u64 qb/\b=.int .u64 rb/\Hid (Dg y1 y0 v u0 qb rb)/\rb<=4294967295) (fun _ a=>(intOf a).toNat)
     case atStart=>exact⟨_,_,rfl,rfl,Gb,by omega⟩
     case round=>
      obtain⟨qb,rb,rfl,rfl,HG,L8⟩:=hrel;have hr9I:(rb:Int)<=4294967295:=by omega
      have OV:qb<=4294967297:=HG.out.le;have hq9I:(qb:Int)<=4294967297:=by omega
      obtain⟨Z,hZ,hZ9,eZ,eZb⟩:=WJ XF.out HG.out;have HZ:=jh hZ;clear hZ
      by_cases hcq:4294967296<=qb
      ·have XY:(4294967296:Int)<=(qb:Int):=by omega
       obtain⟨RU,XG,S9,rM,eq9,er9,pG,uM,SY,RY⟩:=Jv XF.out HG.out (.inl hcq) L8;have SH:=jh S9;clear S9
       by_cases hbr:4294967296<=XG
       ·have sG:(4294967296:Int)<=(XG:Int):=by omega
        have uJ:=jh (SH.out.broke XF.out pG hbr);obtain⟨R,b1,b2,b3,hR,RV,NV,bJ,eb3,eb1,eb2,eb4,aW,YV,XV,hRI⟩:=zN HX.out.Ye HX.out.Yb XF.out uJ.out;have HR:=jh hR;clear hR;have hfin:=Dx.fin HX.out HQa.out HV.out uJ.out HR.out;rw[<-HQQ.out,<-HRR.out] at hfin;have eR:(R:Int)/2^s=(RR:Int):=by rw[hfin.2];simp
        have HF:=jh hfin.1;clear hfin
        go_wp2
        go_ret2
        refine⟨?_,U3⟩;rw[show(QQ:Int)=(q9a:Int)*4294967296+(RU:Int) by have:=HF.out;omega]
        rfl
       ·have sG:¬((4294967296:Int)<=(XG:Int)):=by omega
        go_wp2
        go_round
        case rel=>exact⟨RU,XG,rfl,rfl,SH,by omega⟩
        case measure=>simp[intOf];omega
      ·have XY:¬((4294967296:Int)<=(qb:Int)):=by omega
       by_cases hcz:4294967296*rb+u0<Z
       ·have WY:(4294967296:Int)*(rb:Int)+(u0:Int)<(Z:Int):=by omega
        obtain⟨RU,XG,S9,rM,eq9,er9,pG,uM,SY,RY⟩:=Jv XF.out HG.out (.inr (by rw[<-HZ.out];exact hcz)) L8;have SH:=jh S9;clear S9
        by_cases hbr:4294967296<=XG
        ·have sG:(4294967296:Int)<=(XG:Int):=by omega
         have uJ:=jh (SH.out.broke XF.out pG hbr);obtain⟨R,b1,b2,b3,hR,RV,NV,bJ,eb3,eb1,eb2,eb4,aW,YV,XV,hRI⟩:=zN HX.out.Ye HX.out.Yb XF.out uJ.out;have HR:=jh hR;clear hR;have hfin:=Dx.fin HX.out HQa.out HV.out uJ.out HR.out;rw[<-HQQ.out,<-HRR.out] at hfin;have eR:(R:Int)/2^s=(RR:Int):=by rw[hfin.2];simp
         have HF:=jh hfin.1;clear hfin
         go_wp2
         go_ret2
         refine⟨?_,U3⟩;rw[show(QQ:Int)=(q9a:Int)*4294967296+(RU:Int) by have:=HF.out;omega]
         rfl
        ·have sG:¬((4294967296:Int)<=(XG:Int)):=by omega
         go_wp2
         go_round
         case rel=>exact⟨RU,XG,rfl,rfl,SH,by omega⟩
         case measure=>simp[intOf];omega
       ·have WY:¬((4294967296:Int)*(rb:Int)+(u0:Int)<(Z:Int)):=by omega
        have uJ:=jh (HG.out.done XF.out (by rw[<-HZ.out];omega));obtain⟨R,b1,b2,b3,hR,RV,NV,bJ,eb3,eb1,eb2,eb4,aW,YV,XV,hRI⟩:=zN HX.out.Ye HX.out.Yb XF.out uJ.out;have HR:=jh hR;clear hR;have hfin:=Dx.fin HX.out HQa.out HV.out uJ.out HR.out;rw[<-HQQ.out,<-HRR.out] at hfin;have eR:(R:Int)/2^s=(RR:Int):=by rw[hfin.2];simp
        have HF:=jh hfin.1;clear hfin
        go_wp2
        go_ret2
        refine⟨?_,U3⟩;rw[show(QQ:Int)=(q9a:Int)*4294967296+(qb:Int) by have:=HF.out;omega]
        rfl
    ·have sG:¬((4294967296:Int)<=(r9a:Int)):=by omega
     go_wp2
     go_round
     case rel=>exact⟨q9a,r9a,rfl,rfl,SH,by omega⟩
     case measure=>simp[intOf];omega
   ·have WY:¬((4294967296:Int)*(ra:Int)+(u1:Int)<(Z:Int)):=by omega
    have HQa:=jh (HG.out.done KX.out (by rw[<-HZ.out];omega));obtain⟨v,a1,a2,a3,hv,hltv,hqBa,hqBIa,ea3,ea1,ea2,ea4,ha1b,ha2b,ha3b,hvI⟩:=zN HX.out.Ye HX.out.Yb KX.out HQa.out;have HV:=jh hv;clear hv;have XF:=jh (show Dh y1 y0 v u0 from⟨KX.out.hy1,KX.out.hy0,hltv,HX.out.hu0⟩);obtain⟨qb,rb,pb,hgb,hgqb,hgqbI,hgrb,hgrbI,edb,etb,epb,ebb,erb⟩:=Zj XF.out (by omega);have Gb:=jh hgb;clear hgb
    go_wp2
    go_loop [16,18] (fun b a=>∃qb rb:Nat,a=.int .u64 qb/\b=.int .u64 rb/\Hid (Dg y1 y0 v u0 qb rb)/\rb<=4294967295) (fun _ a=>(intOf a).toNat)
    case atStart=>exact⟨_,_,rfl,rfl,Gb,by omega⟩
    case round=>
     obtain⟨qb,rb,rfl,rfl,HG,L8⟩:=hrel;have hr9I:(rb:Int)<=4294967295:=by omega
     have OV:qb<=4294967297:=HG.out.le;have hq9I:(qb:Int)<=4294967297:=by omega
     obtain⟨Z,hZ,hZ9,eZ,eZb⟩:=WJ XF.out HG.out;have HZ:=jh hZ;clear hZ
     by_cases hcq:4294967296<=qb
     ·have XY:(4294967296:Int)<=(qb:Int):=by omega
      obtain⟨RU,XG,S9,rM,eq9,er9,pG,uM,SY,RY⟩:=Jv XF.out HG.out (.inl hcq) L8;have SH:=jh S9;clear S9
      by_cases hbr:4294967296<=XG
      ·have sG:(4294967296:Int)<=(XG:Int):=by omega
       have uJ:=jh (SH.out.broke XF.out pG hbr);obtain⟨R,b1,b2,b3,hR,RV,NV,bJ,eb3,eb1,eb2,eb4,aW,YV,XV,hRI⟩:=zN HX.out.Ye HX.out.Yb XF.out uJ.out;have HR:=jh hR;clear hR;have hfin:=Dx.fin HX.out HQa.out HV.out uJ.out HR.out;rw[<-HQQ.out,<-HRR.out] at hfin;have eR:(R:Int)/2^s=(RR:Int):=by rw[hfin.2];simp
       have HF:=jh hfin.1;clear hfin
       go_wp2
       go_ret2
       refine⟨?_,U3⟩;rw[show(QQ:Int)=(qa:Int)*4294967296+(RU:Int) by have:=HF.out;omega]
       rfl
      ·have sG:¬((4294967296:Int)<=(XG:Int)):=by omega
       go_wp2
       go_round
       case rel=>exact⟨RU,XG,rfl,rfl,SH,by omega⟩
       case measure=>simp[intOf];omega
     ·have XY:¬((4294967296:Int)<=(qb:Int)):=by omega
      by_cases hcz:4294967296*rb+u0<Z
      ·have WY:(4294967296:Int)*(rb:Int)+(u0:Int)<(Z:Int):=by omega
       obtain⟨RU,XG,S9,rM,eq9,er9,pG,uM,SY,RY⟩:=Jv XF.out HG.out (.inr (by rw[<-HZ.out];exact hcz)) L8;have SH:=jh S9;clear S9
       by_cases hbr:4294967296<=XG
       ·have sG:(4294967296:Int)<=(XG:Int):=by omega
        have uJ:=jh (SH.out.broke XF.out pG hbr);obtain⟨R,b1,b2,b3,hR,RV,NV,bJ,eb3,eb1,eb2,eb4,aW,YV,XV,hRI⟩:=zN HX.out.Ye HX.out.Yb XF.out uJ.out;have HR:=jh hR;clear hR;have hfin:=Dx.fin HX.out HQa.out HV.out uJ.out HR.out;rw[<-HQQ.out,<-HRR.out] at hfin;have eR:(R:Int)/2^s=(RR:Int):=by rw[hfin.2];simp
        have HF:=jh hfin.1;clear hfin
        go_wp2
        go_ret2
        refine⟨?_,U3⟩;rw[show(QQ:Int)=(qa:Int)*4294967296+(RU:Int) by have:=HF.out;omega]
        rfl
       ·have sG:¬((4294967296:Int)<=(XG:Int)):=by omega
        go_wp2
        go_round
        case rel=>exact⟨RU,XG,rfl,rfl,SH,by omega⟩
        case measure=>simp[intOf];omega
      ·have WY:¬((4294967296:Int)*(rb:Int)+(u0:Int)<(Z:Int)):=by omega
       have uJ:=jh (HG.out.done XF.out (by rw[<-HZ.out];omega));obtain⟨R,b1,b2,b3,hR,RV,NV,bJ,eb3,eb1,eb2,eb4,aW,YV,XV,hRI⟩:=zN HX.out.Ye HX.out.Yb XF.out uJ.out;have HR:=jh hR;clear hR;have hfin:=Dx.fin HX.out HQa.out HV.out uJ.out HR.out;rw[<-HQQ.out,<-HRR.out] at hfin;have eR:(R:Int)/2^s=(RR:Int):=by rw[hfin.2];simp
       have HF:=jh hfin.1;clear hfin
       go_wp2
       go_ret2
       refine⟨?_,U3⟩;rw[show(QQ:Int)=(qa:Int)*4294967296+(qb:Int) by have:=HF.out;omega]
       rfl
theorem Zz(hi lo y:Nat)(hlo:lo<jf)(hy:y<jf)(hhi:hi<y)(w:World):Calls prog 207 #[.int .u64 hi,.int .u64 lo,.int .u64 y] w fun e w'=>e=.returned (.tuple #[.int .u64 (((hi*jf+lo)/y:Nat):Int),.int .u64 (((hi*jf+lo)%y:Nat):Int)])/\Below w.heap.size w w':=by
 rcases Nat.eq_zero_or_pos hi with rfl|h0
 ·rw[Nat.zero_mul,Nat.zero_add];exact oW lo y hlo hy (by omega) w
 ·exact pW hi lo y h0 hlo hy hhi w
end Go.Proofs.YtpkalgofejjggaaGreatDoor
