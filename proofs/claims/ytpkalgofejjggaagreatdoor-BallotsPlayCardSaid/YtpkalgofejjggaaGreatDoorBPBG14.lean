/- Layer 2's reference -/
import Derived.Test.YtpkalgofejjggaaGreatDoorBPBG02
import Derived.WalkKit
namespace Go.Proofs.YtpkalgofejjggaaGreatDoor
open Go
theorem D4:(65536:Nat)^4=jf:=by unfold jf;rfl
theorem dig_word(x i:Nat):jg jf x (i/4)/2^(16*(i%4))%65536=jg 65536 x i:=by
 have e:jg 65536 x i=x/jf^(i/4)/65536^(i%4)%65536:=by
  unfold jg;rw[Nat.div_div_eq_div_mul,<-D4,<-Nat.pow_mul,<-Nat.pow_add,show 4*(i/4)+i%4=i by omega]
 rw[e];unfold jg
 generalize x/jf^(i/4)=y
 have hr:i%4=0∨i%4=1∨i%4=2∨i%4=3:=by omega
 unfold jf
 rcases hr with h|h|h|h
 all_goals
  rw[h];simp only[Nat.reduceMul,Nat.reducePow];omega
theorem ZO(x j:Nat):jg 65536 x j<65536:=dgt_lt (by omega) x j
def wY(d:Nat->Nat)(i q:Nat):Nat:=qf 65536 (min 4 (i-4*q)) (fun j=>d (4*q+j))
theorem ofW_zero(d:Nat->Nat)(q:Nat):wY d 0 q=0:=by
 unfold wY;rw[show min 4 (0-4*q)=0 by omega]
 rfl
theorem pow16(r:Nat):65536^r=2^(16*r):=by rw[Nat.pow_mul]
theorem gV(d:Nat->Nat)(i q:Nat):wY d (i+1) q=if q=i/4 then wY d i q+d i*2^(16*(i%4)) else wY d i q:=by
 unfold wY
 by_cases h:q=i/4
 ·rw[if_pos h,show min 4 (i+1-4*q)=i%4+1 by omega,show min 4 (i-4*q)=i%4 by omega,<-pow16]
  show _+d (4*q+i%4)*65536^(i%4)=_
  rw[show 4*q+i%4=i by omega]
 ·rw[if_neg h]
  rcases Nat.lt_or_ge q (i/4) with h1|h1
  ·rw[show min 4 (i+1-4*q)=4 by omega,show min 4 (i-4*q)=4 by omega]
  ·rw[show min 4 (i+1-4*q)=0 by omega,show min 4 (i-4*q)=0 by omega]
theorem ofW_lt{d:Nat->Nat}(hd:∀j,j<16->d j<65536){i q:Nat}(hi:i<=16):wY d i q<jf:=by
 unfold wY;have h:=Qx (β:=65536) (L:=fun j=>d (4*q+j)) (n:=min 4 (i-4*q)) (fun j hj=>hd _ (by omega));refine Nat.lt_of_lt_of_le h ?_;rw[<-D4];exact Nat.pow_le_pow_right (by omega) (by omega)
theorem dH{d:Nat->Nat}(hd:∀j,j<16->d j<65536){q:Nat}(hq:q<4):wY d 16 q=jg jf (qf 65536 16 d) q:=by
 have e:qf 65536 16 d=qf jf 4 (fun q=>qf 65536 4 (fun j=>d (4*q+j))):=by
  simp only[qf,jf,Nat.reduceMul,Nat.reduceAdd,Nat.reducePow];omega
 have hl:∀q,q<4->qf 65536 4 (fun j=>d (4*q+j))<jf:=fun q hq=>by rw[<-D4];exact Qx fun j hj=>hd _ (by omega)
 rw[e,ZA zJ hl q hq];unfold wY;rw[show min 4 (16-4*q)=4 by omega]
theorem ofW_shift{d:Nat->Nat}(hd:∀j,j<16->d j<65536){i:Nat}(hi:i<16):IntKind.u64.wrap ((d i:Int)*2^(16*(i%4)))=((d i*2^(16*(i%4)):Nat):Int):=by
 have h1:=hd i hi;have h2:2^(16*(i%4))<=2^48:=Nat.pow_le_pow_right (by omega) (by omega);have h3:d i*2^(16*(i%4))<=65535*2^48:=Nat.mul_le_mul (by omega) h2;rw[IntKind.wrap_u64,show((d i:Int)*2^(16*(i%4)))=((d i*2^(16*(i%4)):Nat):Int) by simp];omega
theorem ofW_add{d:Nat->Nat}(hd:∀j,j<16->d j<65536){i:Nat}(hi:i<16):IntKind.u64.wrap ((wY d i (i/4):Int)+((d i*2^(16*(i%4)):Nat):Int))=((wY d (i+1) (i/4):Nat):Int):=by
 have h:=gV d i (i/4);rw[if_pos rfl] at h;have hl:=ofW_lt hd (i:=i+1) (q:=i/4) (by omega);unfold jf at hl;rw[IntKind.wrap_u64,h];rw[h] at hl;omega
theorem gQ{a b i:Nat}(ha:a<jk)(hb:b<jk)(hi:i<16)(heq:∀j,i<j->j<16->jg 65536 a j=jg 65536 b j)(h:jg 65536 a i<jg 65536 b i):a<b:=by
 have ea:=ZD (β:=65536) (jg 65536 a) (i+1) (15-i);have eb:=ZD (β:=65536) (jg 65536 b) (i+1) (15-i);have e16:i+1+(15-i)=16:=by omega
 rw[e16,JQ ha] at ea;rw[e16,JQ hb] at eb;have e:qf 65536 (15-i) (fun j=>jg 65536 a (i+1+j))=qf 65536 (15-i) (fun j=>jg 65536 b (i+1+j)):=QM fun j hj=>heq _ (by omega) (by omega)
 rw[e] at ea;have h1:=Qx (β:=65536) (L:=jg 65536 a) (n:=i) (fun j _=>ZO a j);have h2:(jg 65536 a i+1)*65536^i<=jg 65536 b i*65536^i:=Nat.mul_le_mul_right _ h;rw[Nat.add_mul,Nat.one_mul] at h2;have ea':a=qf 65536 i (jg 65536 a)+jg 65536 a i*65536^i+(qf 65536 (15-i) fun j=>jg 65536 b (i+1+j))*65536^(i+1):=ea;have eb':b=qf 65536 i (jg 65536 b)+jg 65536 b i*65536^i+(qf 65536 (15-i) fun j=>jg 65536 b (i+1+j))*65536^(i+1):=eb;omega
theorem digits_eq{a b:Nat}(ha:a<jk)(hb:b<jk)(heq:∀j,j<16->jg 65536 a j=jg 65536 b j):a=b:=by
 rw[<-JQ ha,<-JQ hb];exact QM heq
theorem no_top{a k:Nat}(h:a<2^(k+1))(hb:a/2^k%2=0):a<2^k:=by
 have h1:a/2^k<2:=by
  rw[Nat.div_lt_iff_lt_mul (Nat.two_pow_pos k),Nat.mul_comm,<-Nat.pow_succ];exact h
 have h2:a/2^k=0:=by
  generalize a/2^k=t at*
  omega
 exact(Nat.div_eq_zero_iff_lt (Nat.two_pow_pos k)).1 h2
theorem is_top{a k:Nat}(h:a<2^(k+1))(hb:a/2^k%2=1):qm a=k+1:=by
 refine(FH h fun _=>?_).symm;rw[Nat.add_sub_cancel]
 by_cases hl:a<2^k
 ·rw[Nat.div_eq_of_lt hl] at hb;omega
 ·omega
def addS(x y c:Nat):Nat:=(x+y+c)%65536
def addK(x y c:Nat):Nat:=(x+y+c)/65536
def lN(A B:Nat->Nat):Nat->Nat
 |0=>0
 |k+1=>addK (A k) (B k) (lN A B k)
def sumD(A B:Nat->Nat)(k:Nat):Nat:=addS (A k) (B k) (lN A B k)
theorem carD_le{A B:Nat->Nat}(hA:∀i,A i<65536)(hB:∀i,B i<65536):∀k,lN A B k<=1
 |0=>by simp[lN]
 |k+1=>by
  have:=carD_le hA hB k;have h1:=hA k;have h2:=hB k
  show(A k+B k+lN A B k)/65536<=1
  omega
theorem tZ{a b:Nat}(ha:a<jk)(hb:b<jk):qf 65536 16 (sumD (jg 65536 a) (jg 65536 b))=zG a b/\lN (jg 65536 a) (jg 65536 b) 16=zt a b:=
 vN D_pow ha hb rfl (fun j _=>Nat.mod_lt _ (by omega)) (fun k _=>(Nat.mod_add_div _ _).symm)
def subS(x y c:Nat):Nat:=(x+65536-y-c)%65536
def subK(x y c:Nat):Nat:=1-(x+65536-y-c)/65536
def oN(A B:Nat->Nat):Nat->Nat
 |0=>0
 |k+1=>subK (A k) (B k) (oN A B k)
def difD(A B:Nat->Nat)(k:Nat):Nat:=subS (A k) (B k) (oN A B k)
theorem lT(A B:Nat->Nat):∀k,oN A B k<=1
 |0=>by simp[oN]
 |k+1=>by
  show 1-_<=1
  omega
theorem VX{a b:Nat}(ha:a<jk)(hb:b<jk):qf 65536 16 (difD (jg 65536 a) (jg 65536 b))=Jk a b/\oN (jg 65536 a) (jg 65536 b) 16=zq a b:=by
 refine xK D_pow ha hb rfl (fun j _=>Nat.mod_lt _ (by omega)) (lT _ _ _) (fun k _=>?_);have h1:=ZO a k;have h2:=ZO b k;have h3:=lT (jg 65536 a) (jg 65536 b) k
 show subS _ _ _+_+_=_+65536*subK _ _ _
 unfold subS subK
 generalize jg 65536 a k=x at*
 generalize jg 65536 b k=y at*
 generalize oN (jg 65536 a) (jg 65536 b) k=c at*
 omega
theorem bitN_test(a i:Nat)(h:i<256):Qu a i=if a.testBit i=true then 1 else 0:=by
 unfold Qu;rw[if_neg (by omega),Int.toNat_natCast,Nat.testBit_eq_decide_div_mod_eq]
 by_cases h1:a/2^i%2=1
 ·simp[h1]
 ·have:a/2^i%2=0:=by omega
  simp[this]
end Go.Proofs.YtpkalgofejjggaaGreatDoor
