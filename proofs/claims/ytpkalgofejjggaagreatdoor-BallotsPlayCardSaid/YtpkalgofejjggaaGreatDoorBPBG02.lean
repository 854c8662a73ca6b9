/- Insertion sort, in plain words -/

namespace Go.Proofs.YtpkalgofejjggaaGreatDoor
def be:Nat->Nat->List Nat
 |0,_=>[]
 |k+1,n=>be k (n/256)++[n%256]
def num(l:List Nat):Nat:=l.foldl (fun n c=>n*256+c) 0
def qk(l:List Nat):Prop:=∀x∈l,x<256
theorem jI:∀(k n:Nat),(be k n).length=k
 |0,_=>rfl
 |k+1,n=>by simp[be,jI k]
theorem qN:∀(k n:Nat),qk (be k n)
 |0,_=>fun _ h=>by cases h
 |k+1,n=>fun x h=>by
  rcases List.mem_append.1 h with h|h
  ·exact qN k _ x h
  ·simp at h;omega
theorem rZ:∀(k n i:Nat) (h:i<k),(be k n)[i]'(by rw[jI];exact h)=n/256^(k-1-i)%256
 |k+1,n,i,h=>by
  simp only[be]
  by_cases hi:i=k
  ·subst hi;rw[List.getElem_append_right (by rw[jI];exact Nat.le_refl _)]
   simp[jI]
  ·rw[List.getElem_append_left (by rw[jI];omega),rZ k (n/256) i (by omega),Nat.div_div_eq_div_mul,<-Nat.pow_succ',show(k-1-i).succ=k+1-1-i by omega]
theorem EL(l:List Nat)(c:Nat):num (l++[c])=num l*256+c:=by simp[num]
theorem GL:∀(k:Nat) (l:List Nat),l.length=k->qk l->num l<256^k
 |0,l,hl,_=>by
  have:l=[]:=List.length_eq_zero_iff.1 hl;subst this
  simp[num]
 |k+1,l,hl,hb=>by
  have hne:l≠[]:=fun h=>by subst h;simp at hl
  have hs:=List.dropLast_concat_getLast hne;rw[<-hs,EL];have h1:=GL k l.dropLast (by simp[hl]) (fun x hx=>hb x ((List.dropLast_sublist l).subset hx));have h2:=hb _ (List.getLast_mem hne);rw[Nat.pow_succ];omega
def Qb(x k:Nat):Nat:=x/2^k+x%2^k*2^(32-k)
theorem JB{x k:Nat}(hx:x<2^32)(hk:k<=32):Qb x k<2^32:=by
 unfold Qb
 have h1:x/2^k<2^(32-k):=by
  rw[Nat.div_lt_iff_lt_mul (Nat.two_pow_pos k),<-Nat.pow_add,show 32-k+k=32 by omega];exact hx
 have h2:x%2^k<2^k:=Nat.mod_lt _ (Nat.two_pow_pos k);have h3:(x%2^k+1)*2^(32-k)<=2^k*2^(32-k):=Nat.mul_le_mul_right _ h2;rw[<-Nat.pow_add,show k+(32-k)=32 by omega,Nat.succ_mul] at h3;omega
def QS(x:Nat)(ks:List Nat):Nat:=ks.foldl (fun o k=>o^^^Qb x k) 0
theorem mixN_snoc(x:Nat)(ks:List Nat)(k:Nat):QS x (ks++[k])=QS x ks^^^Qb x k:=by unfold QS;rw[List.foldl_append];rfl
theorem fH{x:Nat}(hx:x<2^32):∀{ks:List Nat},(∀k∈ks,k<=32)->QS x ks<2^32:=by
 intro ks;unfold QS
 generalize hz:(0:Nat)=z
 have yO:z<2^32:=by omega
 clear hz
 induction ks generalizing z with
 |nil=>intro _;exact yO
 |cons k ks ih=>intro h;rw[List.foldl_cons];exact ih _ (Nat.xor_lt_two_pow yO (JB hx (h k (by simp)))) (fun k hk=>h k (List.mem_cons_of_mem _ hk))
def zK(l:List Nat)(i:Nat):Nat:=l.getD i 0
def swd(b:List Nat)(i:Nat):Nat:=zK b (4*i)*16777216+zK b (4*i+1)*65536+zK b (4*i+2)*256+zK b (4*i+3)
def IK(x y p q:Nat):Nat:=(p+q+(QS x [7,18]^^^x/8)+(QS y [17,19]^^^y/1024))%2^32
def qn(b:List Nat):Nat->Nat->Nat
 |0=>fun _=>0
 |i+1=>fun j=>if j=i then(if i<16 then swd b i else IK (qn b i (i-15)) (qn b i (i-2)) (qn b i (i-16)) (qn b i (i-7))) else qn b i j
def ZG:List Nat:=[
 0x428a2f98,0x71374491,0xb5c0fbcf,0xe9b5dba5,0x3956c25b,0x59f111f1,0x923f82a4,0xab1c5ed5,
 0xd807aa98,0x12835b01,0x243185be,0x550c7dc3,0x72be5d74,0x80deb1fe,0x9bdc06a7,0xc19bf174,
 0xe49b69c1,0xefbe4786,0x0fc19dc6,0x240ca1cc,0x2de92c6f,0x4a7484aa,0x5cb0a9dc,0x76f988da,
 0x983e5152,0xa831c66d,0xb00327c8,0xbf597fc7,0xc6e00bf3,0xd5a79147,0x06ca6351,0x14292967,
 0x27b70a85,0x2e1b2138,0x4d2c6dfc,0x53380d13,0x650a7354,0x766a0abb,0x81c2c92e,0x92722c85,
 0xa2bfe8a1,0xa81a664b,0xc24b8b70,0xc76c51a3,0xd192e819,0xd6990624,0xf40e3585,0x106aa070,
 0x19a4c116,0x1e376c08,0x2748774c,0x34b0bcb5,0x391c0cb3,0x4ed8aa4a,0x5b9cca4f,0x682e6ff3,
 0x748f82ee,0x78a5636f,0x84c87814,0x8cc70208,0x90befffa,0xa4506ceb,0xbef9a3f7,0xc67178f2]
structure S8 where
 (a b c d e f g h:Nat)
def S8.list(s:S8):List Nat:=[s.a,s.b,s.c,s.d,s.e,s.f,s.g,s.h]
def S8.Ok(s:S8):Prop:=s.a<2^32/\s.b<2^32/\s.c<2^32/\s.d<2^32/\s.e<2^32/\s.f<2^32/\s.g<2^32/\s.h<2^32
def shaT(s:S8)(k w:Nat):Nat:=s.h+QS s.e [6,11,25]+(s.g^^^(s.e&&&(s.f^^^s.g)))+k+w
def rnd(s:S8)(k w:Nat):S8:=
 ⟨(shaT s k w+QS s.a [2,13,22]+(((s.a&&&s.b)^^^(s.a&&&s.c))^^^(s.b&&&s.c)))%2^32,s.a,s.b,s.c,(s.d+shaT s k w)%2^32,s.e,s.f,s.g⟩
def ZZ(b:List Nat)(s:S8):Nat->S8
 |0=>s
 |i+1=>rnd (ZZ b s i) (zK ZG i) (qn b 64 i)
def S8.plus(s t:S8):S8:=⟨(s.a+t.a)%2^32,(s.b+t.b)%2^32,(s.c+t.c)%2^32,(s.d+t.d)%2^32,(s.e+t.e)%2^32,(s.f+t.f)%2^32,(s.g+t.g)%2^32,(s.h+t.h)%2^32⟩
def takeB(s:S8)(b:List Nat):S8:=(ZZ b s 64).plus s
def EC:S8:=⟨0x6a09e667,0xbb67ae85,0x3c6ef372,0xa54ff53a,0x510e527f,0x9b05688c,0x1f83d9ab,0x5be0cd19⟩
def GK(l:List Nat):Nat->S8
 |0=>EC
 |n+1=>takeB (GK l n) ((l.drop (64*n)).take 64)
theorem aG(l m:List Nat):∀n,64*n<=l.length->GK (l++m) n=GK l n
 |0,_=>rfl
 |n+1,h=>by
  rw[GK,GK,aG l m n (by omega),List.drop_append_of_le_length (by omega),List.take_append_of_le_length (by rw[List.length_drop];omega)]
def lI(n:Nat):Nat:=(119-n%64)%64
def Jp(n:Nat):List Nat:=128::(List.replicate (lI n) 0++be 8 (8*n))
def kY(l:List Nat):S8:=GK (l++Jp l.length) ((l++Jp l.length).length/64)
def zr(l:List Nat):List Nat:=(kY l).list.flatMap (be 4)
theorem S8.plus_ok(s t:S8):(s.plus t).Ok:=⟨Nat.mod_lt _ (by decide),Nat.mod_lt _ (by decide),Nat.mod_lt _ (by decide),Nat.mod_lt _ (by decide),Nat.mod_lt _ (by decide),Nat.mod_lt _ (by decide),Nat.mod_lt _ (by decide),Nat.mod_lt _ (by decide)⟩
theorem rnd_ok{s:S8}(h:s.Ok)(k w:Nat):(rnd s k w).Ok:=⟨Nat.mod_lt _ (by decide),h.1,h.2.1,h.2.2.1,Nat.mod_lt _ (by decide),h.2.2.2.2.1,h.2.2.2.2.2.1,h.2.2.2.2.2.2.1⟩
theorem XJ(b:List Nat){s:S8}(h:s.Ok):∀n,(ZZ b s n).Ok
 |0=>h
 |n+1=>rnd_ok (XJ b h n) _ _
theorem KQ(l:List Nat):∀n,(GK l n).Ok
 |0=>by unfold S8.Ok GK EC;decide
 |n+1=>S8.plus_ok _ _
theorem jY(l:List Nat):(zr l).length=32:=by
 unfold zr S8.list
 simp[jI]
theorem JS(l:List Nat):qk (zr l):=by
 unfold zr;intro x hx;obtain⟨y,_,h⟩:=List.mem_flatMap.1 hx;exact qN _ _ x h
theorem Qv{l:List Nat}(hl:qk l)(i:Nat):zK l i<256:=by
 unfold zK;rw[List.getD_eq_getElem?_getD]
 cases h:l[i]? with
 |none=>simp
 |some x=>exact hl x (List.mem_of_getElem? h)
theorem swd_lt{b:List Nat}(hb:qk b)(i:Nat):swd b i<2^32:=by
 unfold swd;have h0:=Qv hb (4*i);have h1:=Qv hb (4*i+1);have h2:=Qv hb (4*i+2);have h3:=Qv hb (4*i+3);omega
theorem Jr{b:List Nat}(hb:qk b):∀n j,qn b n j<2^32
 |0,_=>by unfold qn;decide
 |n+1,j=>by
  unfold qn
  split
  ·split
   ·exact swd_lt hb _
   ·exact Nat.mod_lt _ (by decide)
  ·exact Jr hb n j
theorem shaK_lt(i:Nat):zK ZG i<2^32:=by
 unfold zK;rw[List.getD_eq_getElem?_getD]
 cases h:ZG[i]? with
 |none=>decide
 |some x=>exact(by decide:∀x∈ZG,x<2^32) x (List.mem_of_getElem? h)
def qf(β:Nat):Nat->(Nat->Nat)->Nat
 |0,_=>0
 |n+1,L=>qf β n L+L n*β^n
def jg(β x j:Nat):Nat:=x/β^j%β
theorem dgt_lt{β:Nat}(hβ:0<β)(x j:Nat):jg β x j<β:=Nat.mod_lt _ hβ
theorem QM{β:Nat}{L K:Nat->Nat}:∀{n:Nat},(∀j,j<n->L j=K j)->qf β n L=qf β n K
 |0,_=>rfl
 |n+1,h=>by unfold qf;rw[QM (n:=n) (fun j hj=>h j (by omega)),h n (by omega)]
theorem Qx{β:Nat}{L:Nat->Nat}:∀{n:Nat},(∀j,j<n->L j<β)->qf β n L<β^n
 |0,_=>by simp[qf]
 |n+1,h=>by
  have ih:=Qx (n:=n) (fun j hj=>h j (by omega));have hn:=h n (by omega);unfold qf;have:L n*β^n+β^n<=β*β^n:=by rw[<-Nat.succ_mul];exact Nat.mul_le_mul_right _ hn
  rw[Nat.pow_succ,Nat.mul_comm (β^n) β];omega
theorem QL(β x:Nat):∀n,qf β n (jg β x)=x%β^n
 |0=>by simp[qf,Nat.mod_one]
 |n+1=>by
  unfold qf jg;have:=QL β x n;unfold jg at this;rw[this,Nat.pow_succ,Nat.mod_mul,Nat.mul_comm (x/β^n%β)]
theorem fP(β n:Nat):qf β n (fun _=>0)=0:=by
 induction n with
 |zero=>rfl
 |succ n ih=>unfold qf;simp[ih]
theorem ZA{β:Nat}{L:Nat->Nat}(hβ:0<β):∀{n:Nat},(∀j,j<n->L j<β)->∀j,j<n->jg β (qf β n L) j=L j
 |0,_,j,hj=>absurd hj (Nat.not_lt_zero j)
 |n+1,h,j,hj=>by
  have h':∀j,j<n->L j<β:=fun j hj=>h j (by omega)
  have hlt:=Qx h'
  by_cases hjn:j=n
  ·subst hjn;unfold jg qf;rw[Nat.add_mul_div_right _ _ (Nat.pow_pos hβ),Nat.div_eq_of_lt hlt,Nat.zero_add,Nat.mod_eq_of_lt (h j (by omega))]
  ·have ih:=ZA hβ h' j (by omega);unfold jg at ih⊢;unfold qf;rw[<-ih]
   have e:L n*β^n=L n*β^(n-1-j)*β*β^j:=by
    rw[Nat.mul_assoc,Nat.mul_assoc,<-Nat.pow_succ',<-Nat.pow_add]
    congr 2
    omega
   rw[e,Nat.add_mul_div_right _ _ (Nat.pow_pos hβ),Nat.add_mul_mod_self_right]
theorem tK{β:Nat}(L:Nat->Nat)(p v:Nat):∀{n:Nat},p<n->qf β n (fun j=>if j=p then v else L j)+L p*β^p=qf β n L+v*β^p
 |0,h=>absurd h (Nat.not_lt_zero p)
 |n+1,h=>by
  unfold qf
  by_cases hp:p=n
  ·subst hp;rw[QM (n:=p) (K:=L) (fun j hj=>by simp;omega)]
   simp
   omega
  ·have ih:=tK (β:=β) L p v (n:=n) (by omega);simp only[if_neg (Ne.symm hp)];omega
theorem BU{β:Nat}{A B s c:Nat->Nat}(h0:c 0=0):∀{n:Nat},(∀k,k<n->A k+B k+c k=s k+β*c (k+1))->qf β n s+c n*β^n=qf β n A+qf β n B
 |0,_=>by simp[qf,h0]
 |n+1,h=>by
  have ih:=BU h0 (n:=n) (fun k hk=>h k (by omega));have hn:=h n (by omega);unfold qf;have e:(A n+B n+c n)*β^n=(s n+β*c (n+1))*β^n:=by rw[hn]
  rw[Nat.add_mul,Nat.add_mul,Nat.add_mul,Nat.mul_comm β (c (n+1)),Nat.mul_assoc] at e;rw[Nat.pow_succ,Nat.mul_comm (β^n) β];omega
theorem AU{β:Nat}{A B s c:Nat->Nat}(h0:c 0=0):∀{n:Nat},(∀k,k<n->s k+B k+c k=A k+β*c (k+1))->qf β n s+qf β n B=qf β n A+c n*β^n
 |0,_=>by simp[qf,h0]
 |n+1,h=>by
  have ih:=AU h0 (n:=n) (fun k hk=>h k (by omega));have hn:=h n (by omega);unfold qf;have e:(s n+B n+c n)*β^n=(A n+β*c (n+1))*β^n:=by rw[hn]
  rw[Nat.add_mul,Nat.add_mul,Nat.add_mul,Nat.mul_comm β (c (n+1)),Nat.mul_assoc] at e;rw[Nat.pow_succ,Nat.mul_comm (β^n) β];omega
def sJ(β m n:Nat)(X Y L:Nat->Nat)(i k more:Nat):Prop:=qf β m L+more*β^(i+k)=qf β i X*qf β n Y+X i*β^i*qf β k Y/\∀j,i+n<=j->L j=0
theorem MP{β m n:Nat}{X Y L:Nat->Nat}{i:Nat}(h:qf β m L=qf β i X*qf β n Y)(hz:∀j,i+n<=j->L j=0):sJ β m n X Y L i 0 0:=⟨by simp[qf,h],hz⟩
theorem oV{β m n:Nat}{X Y L:Nat->Nat}{i k more low high:Nat}(h:sJ β m n X Y L i k more)(hk:k<n)(hm:i+k<m)(e:low+β*high=X i*Y k+L (i+k)+more):
  sJ β m n X Y (fun j=>if j=i+k then low else L j) i (k+1) high:=by
 obtain⟨h1,h2⟩:=h;refine⟨?_,fun j hj=>by show(if j=i+k then low else L j)=0;rw[if_neg (by omega)];exact h2 j hj⟩;have hs:=tK (β:=β) L (i+k) low hm;have e':(low+β*high)*β^(i+k)=(X i*Y k+L (i+k)+more)*β^(i+k):=by rw[e]
 rw[Nat.add_mul,Nat.add_mul,Nat.add_mul] at e';have e2:high*β^(i+(k+1))=β*high*β^(i+k):=by rw[<-Nat.add_assoc,Nat.pow_succ,Nat.mul_comm β high,Nat.mul_assoc,Nat.mul_comm β]
 have e3:X i*β^i*qf β (k+1) Y=X i*β^i*qf β k Y+X i*Y k*β^(i+k):=by
  show X i*β^i*(qf β k Y+Y k*β^k)=_
  rw[Nat.mul_add,Nat.pow_add,Nat.mul_assoc (X i) (β^i) (Y k*β^k),Nat.mul_assoc (X i) (Y k),Nat.mul_left_comm (β^i) (Y k)]
 rw[e2,e3];omega
theorem mul_row{β m n:Nat}{X Y L:Nat->Nat}{i more:Nat}(h:sJ β m n X Y L i n more)(hm:i+n<m):
  qf β m (fun j=>if j=i+n then more else L j)=qf β (i+1) X*qf β n Y/\∀j,i+1+n<=j->(fun j=>if j=i+n then more else L j) j=0:=by
 obtain⟨h1,h2⟩:=h;have hs:=tK (β:=β) L (i+n) more hm;have h0:=h2 (i+n) (Nat.le_refl _);refine⟨?_,fun j hj=>by simp only;rw[if_neg (by omega)];exact h2 j (by omega)⟩
 show _=(qf β i X+X i*β^i)*qf β n Y
 rw[Nat.add_mul];rw[h0] at hs;omega
def jf:Nat:=18446744073709551616
def jk:Nat:=115792089237316195423570985008687907853269984665640564039457584007913129639936
theorem zJ:0<jf:=by unfold jf;omega
theorem zI:0<jk:=by unfold jk;omega
theorem ZS:jf^4=jk:=by unfold jf jk;rfl
theorem wE:jf=2^64:=by unfold jf;rfl
theorem xC:jk=2^256:=by unfold jk;rfl
theorem D_pow:65536^16=jk:=by unfold jk;rfl
def zG(a b:Nat):Nat:=(a+b)%jk
def zt(a b:Nat):Nat:=(a+b)/jk
def Jk(a b:Nat):Nat:=(a+jk-b)%jk
def zq(a b:Nat):Nat:=if a<b then 1 else 0
def mulL(a b:Nat):Nat:=a*b%jk
def yJ(a b:Nat):Nat:=a*b/jk
theorem Zl(a b:Nat):zG a b<jk:=Nat.mod_lt _ zI
theorem FQ(a b:Nat):Jk a b<jk:=Nat.mod_lt _ zI
theorem mulL_lt(a b:Nat):mulL a b<jk:=Nat.mod_lt _ zI
theorem mulH_lt{a b:Nat}(ha:a<jk)(hb:b<jk):yJ a b<jk:=by
 unfold yJ
 apply Nat.div_lt_of_lt_mul
 exact Nat.lt_of_le_of_lt (Nat.mul_le_mul_right _ (Nat.le_of_lt ha)) (Nat.mul_lt_mul_of_pos_left hb zI)
theorem Zr{x:Nat}(h:x<jk):qf jf 4 (jg jf x)=x:=by rw[QL,ZS,Nat.mod_eq_of_lt h]
theorem JQ{x:Nat}(h:x<jk):qf 65536 16 (jg 65536 x)=x:=by rw[QL,D_pow,Nat.mod_eq_of_lt h]
theorem vN{β n:Nat}(hn:β^n=jk){a b:Nat}{s c:Nat->Nat}(ha:a<jk)(hb:b<jk)(h0:c 0=0)(hs:∀j,j<n->s j<β)
  (h:∀k,k<n->jg β a k+jg β b k+c k=s k+β*c (k+1)):qf β n s=zG a b/\c n=zt a b:=by
 have e:=BU (β:=β) h0 h;rw[QL,QL,hn,Nat.mod_eq_of_lt ha,Nat.mod_eq_of_lt hb] at e;have hl:=Qx hs;rw[hn] at hl;unfold zG zt;rw[<-e,Nat.add_mul_mod_self_right,Nat.mod_eq_of_lt hl,Nat.add_mul_div_right _ _ zI,Nat.div_eq_of_lt hl,Nat.zero_add];exact⟨rfl,rfl⟩
theorem xK{β n:Nat}(hn:β^n=jk){a b:Nat}{s c:Nat->Nat}(ha:a<jk)(hb:b<jk)(h0:c 0=0)(hs:∀j,j<n->s j<β)(hc:c n<=1)
  (h:∀k,k<n->s k+jg β b k+c k=jg β a k+β*c (k+1)):qf β n s=Jk a b/\c n=zq a b:=by
 have e:=AU (β:=β) h0 h;rw[QL,QL,hn,Nat.mod_eq_of_lt ha,Nat.mod_eq_of_lt hb] at e;have hl:=Qx hs;rw[hn] at hl
 generalize qf β n s=v at*
 generalize c n=x at*
 have hx:x=0∨x=1:=by omega
 unfold Jk zq
 rcases hx with rfl|rfl
 ·have h1:¬a<b:=by omega
  rw[if_neg h1,show a+jk-b=v+jk by omega,Nat.add_mod_right,Nat.mod_eq_of_lt hl];exact⟨rfl,rfl⟩
 ·have h1:a<b:=by omega
  rw[if_pos h1,show a+jk-b=v by omega,Nat.mod_eq_of_lt hl];exact⟨rfl,rfl⟩
theorem ZD{β:Nat}(L:Nat->Nat)(n:Nat):∀m,qf β (n+m) L=qf β n L+qf β m (fun j=>L (n+j))*β^n
 |0=>by simp[qf]
 |m+1=>by
  have ih:=ZD (β:=β) L n m
  show qf β (n+m) L+L (n+m)*β^(n+m)=qf β n L+(qf β m (fun j=>L (n+j))+L (n+m)*β^m)*β^n
  rw[ih,Nat.add_mul,Nat.pow_add,Nat.mul_comm (β^n) (β^m),<-Nat.mul_assoc,Nat.add_assoc]
theorem IL{β n:Nat}(hn:β^n=jk){a b:Nat}{L:Nat->Nat}(hs:∀j,j<n+n->L j<β)
  (h:qf β (n+n) L=a*b):qf β n L=mulL a b/\qf β n (fun j=>L (n+j))=yJ a b:=by
 rw[ZD,hn] at h;have hl:=Qx (β:=β) (L:=L) (n:=n) (fun j hj=>hs j (by omega));rw[hn] at hl;unfold mulL yJ;rw[<-h,Nat.add_mul_mod_self_right,Nat.mod_eq_of_lt hl,Nat.add_mul_div_right _ _ zI,Nat.div_eq_of_lt hl,Nat.zero_add];exact⟨rfl,rfl⟩
def Qu(a:Nat)(i:Int):Nat:=if i<0∨255<i then 0 else a/2^i.toNat%2
theorem wG(s a q r:Nat)(hr:r<s):jg (2^s) a q/2^r%2=a/2^(s*q+r)%2:=by
 unfold jg;rw[<-Nat.pow_mul,Nat.pow_add,<-Nat.div_div_eq_div_mul]
 generalize a/2^(s*q)=x
 rw[show(2:Nat)^s=2^r*(2*2^(s-r-1)) by rw[<-Nat.pow_succ',<-Nat.pow_add];congr 1;omega,Nat.mod_mul_right_div_self,Nat.mod_mul_right_mod]
def ZQ(x y c:Nat):Nat:=(x+y+c)%jf
def Zp(x y c:Nat):Nat:=(x+y+c)/jf
def subW(x y b:Nat):Nat:=(x+jf-y-b)%jf
def WX(x y b:Nat):Nat:=if x<y+b then 1 else 0
theorem gK(x y c:Nat):ZQ x y c<jf:=Nat.mod_lt _ zJ
theorem subW_lt(x y c:Nat):subW x y c<jf:=Nat.mod_lt _ zJ
theorem addC_le{x y c:Nat}(hx:x<jf)(hy:y<jf)(hc:c<=1):Zp x y c<=1:=by
 unfold Zp;have:x+y+c<2*jf:=by omega
 exact Nat.le_of_lt_succ (Nat.div_lt_of_lt_mul (by omega))
theorem subB_le(x y b:Nat):WX x y b<=1:=by unfold WX;split<;>omega
def carry(A B:Nat->Nat):Nat->Nat
 |0=>0
 |k+1=>Zp (A k) (B k) (carry A B k)
def sumW(A B:Nat->Nat)(k:Nat):Nat:=ZQ (A k) (B k) (carry A B k)
theorem IW{A B:Nat->Nat}(hA:∀i,A i<jf)(hB:∀i,B i<jf):∀k,carry A B k<=1
 |0=>Nat.zero_le _
 |k+1=>addC_le (hA k) (hB k) (IW hA hB k)
def QX(A B:Nat->Nat):Nat->Nat
 |0=>0
 |k+1=>WX (A k) (B k) (QX A B k)
def rW(A B:Nat->Nat)(k:Nat):Nat:=subW (A k) (B k) (QX A B k)
theorem PI(A B:Nat->Nat):∀k,QX A B k<=1
 |0=>Nat.zero_le _
 |_+1=>subB_le _ _ _
theorem qh(x j:Nat):jg jf x j<jf:=dgt_lt zJ x j
theorem add_words{a b:Nat}(ha:a<jk)(hb:b<jk):(∀j,j<4->sumW (jg jf a) (jg jf b) j=jg jf (zG a b) j)/\carry (jg jf a) (jg jf b) 4=zt a b:=by
 have h:=vN ZS (s:=sumW (jg jf a) (jg jf b)) (c:=carry (jg jf a) (jg jf b)) ha hb rfl (fun j _=>gK _ _ _) (fun k _=>(Nat.mod_add_div _ jf).symm);refine⟨fun j hj=>?_,h.2⟩;rw[<-h.1,ZA (L:=sumW (jg jf a) (jg jf b)) zJ (fun j _=>gK _ _ _) j hj]
theorem sub_words{a b:Nat}(ha:a<jk)(hb:b<jk):(∀j,j<4->rW (jg jf a) (jg jf b) j=jg jf (Jk a b) j)/\QX (jg jf a) (jg jf b) 4=zq a b:=by
 have hs:∀k,k<4->rW (jg jf a) (jg jf b) k+jg jf b k+QX (jg jf a) (jg jf b) k=jg jf a k+jf*QX (jg jf a) (jg jf b) (k+1):=by
  intro k _;unfold rW
  show subW _ _ _+_+_=_+jf*WX _ _ _
  have h1:=qh a k;have h2:=qh b k;have h3:=PI (jg jf a) (jg jf b) k
  generalize jg jf a k=x at*
  generalize jg jf b k=y at*
  generalize QX (jg jf a) (jg jf b) k=c at*
  unfold subW WX
  by_cases h:x<y+c
  ·rw[if_pos h,Nat.mod_eq_of_lt (by omega)];omega
  ·rw[if_neg h,show x+jf-y-c=(x-y-c)+jf by omega,Nat.add_mod_right,Nat.mod_eq_of_lt (by omega)];omega
 have h:=xK ZS (s:=rW (jg jf a) (jg jf b)) (c:=QX (jg jf a) (jg jf b)) ha hb rfl (fun j _=>subW_lt _ _ _) (PI _ _ _) hs;refine⟨fun j hj=>?_,h.2⟩;rw[<-h.1,ZA (L:=rW (jg jf a) (jg jf b)) zJ (fun j _=>subW_lt _ _ _) j hj]
def hiW(x y:Nat):Nat:=x*y/jf
def iM(x y:Nat):Nat:=x*y%jf
def tmL(x y s m:Nat):Nat:=(x*y+s+m)%jf
def tmH(x y s m:Nat):Nat:=(x*y+s+m)/jf
theorem tm_eq(x y s m:Nat):tmL x y s m+jf*tmH x y s m=x*y+s+m:=Nat.mod_add_div _ _
theorem UI{x y s m:Nat}(hx:x<jf)(hy:y<jf)(hs:s<jf)(hm:m<jf):
  Zp (iM x y) s 0<=1/\hiW x y+Zp (iM x y) s 0+Zp (ZQ (iM x y) s 0) m 0<jf/\ZQ (ZQ (iM x y) s 0) m 0=tmL x y s m/\hiW x y+Zp (iM x y) s 0+Zp (ZQ (iM x y) s 0) m 0=tmH x y s m:=by
 have e0:iM x y+jf*hiW x y=x*y:=Nat.mod_add_div _ _;have l0:iM x y<jf:=Nat.mod_lt _ zJ;have e1:ZQ (iM x y) s 0+jf*Zp (iM x y) s 0=iM x y+s+0:=Nat.mod_add_div _ _;have l1:ZQ (iM x y) s 0<jf:=gK _ _ _;have c1:Zp (iM x y) s 0<=1:=addC_le l0 hs (by omega)
 generalize Zp (iM x y) s 0=p at*
 generalize ZQ (iM x y) s 0=q at*
 have e2:ZQ q m 0+jf*Zp q m 0=q+m+0:=Nat.mod_add_div _ _;have l2:ZQ q m 0<jf:=gK _ _ _
 generalize Zp q m 0=r at*
 generalize ZQ q m 0=u at*
 generalize hiW x y=h at*
 generalize iM x y=l at*
 have hxy:x*y<=(jf-1)*(jf-1):=Nat.mul_le_mul (by omega) (by omega);have e:x*y+s+m=u+jf*(h+p+r):=by rw[Nat.mul_add,Nat.mul_add];omega
 have hW:(jf-1)*(jf-1)+(jf-1)+jf=jf*jf:=by unfold jf;omega
 have hlt:h+p+r<jf:=by
  have:jf*(h+p+r)<jf*jf:=by omega
  exact Nat.lt_of_mul_lt_mul_left this
 refine⟨c1,hlt,?_,?_⟩
 ·unfold tmL;rw[e,Nat.add_mul_mod_self_left,Nat.mod_eq_of_lt l2]
 ·unfold tmH;rw[e,Nat.add_mul_div_left _ _ zJ,Nat.div_eq_of_lt l2,Nat.zero_add]
theorem tmL_lt(x y s m:Nat):tmL x y s m<jf:=Nat.mod_lt _ zJ
theorem tmH_lt{x y s m:Nat}(hx:x<jf)(hy:y<jf)(hs:s<jf)(hm:m<jf):tmH x y s m<jf:=by
 have:=UI hx hy hs hm;omega
theorem kW{a b:Nat}(ha:a<jk)(hb:b<jk)(h:∀j,j<4->jg jf a j=jg jf b j):a=b:=by
 rw[<-Zr ha,<-Zr hb];exact QM h
def zk(a b:Nat):Int:=if a<b then -1 else if a=b then 0 else 1
def qm(a:Nat):Nat:=if a=0 then 0 else a.log2+1
theorem Jy(a:Nat):a<2^qm a/\(a≠0->2^(qm a-1)<=a):=by
 unfold qm
 split
 ·rename_i h;subst h;simp
 ·rename_i h;exact⟨Nat.lt_log2_self,fun _=>by simpa using Nat.log2_self_le h⟩
theorem FH{a n:Nat}(h1:a<2^n)(h2:0<n->2^(n-1)<=a):n=qm a:=by
 obtain⟨h3,h4⟩:=Jy a
 rcases Nat.lt_trichotomy n (qm a) with h|h|h
 ·exfalso
  have hne:a≠0:=by rintro rfl;simp[qm] at h
  have:=Nat.pow_le_pow_right (n:=2) (by omega) (show n<=qm a-1 by omega);have:=h4 hne;omega
 ·exact h
 ·exfalso
  have:=Nat.pow_le_pow_right (n:=2) (by omega) (show qm a<=n-1 by omega);have:=h2 (by omega);omega
theorem nZ{a i:Nat}(ha:a<2^(64*i+64))(h:jg jf a i≠0):qm a=64*i+qm (jg jf a i):=by
 obtain⟨h3,h4⟩:=Jy (jg jf a i);have h4:=h4 h
 have hpos:0<qm (jg jf a i):=by
  unfold qm;rw[if_neg h];omega
 have e:jg jf a i=a/2^(64*i):=by
  unfold jg;rw[wE,<-Nat.pow_mul,Nat.mod_eq_of_lt];rw[Nat.pow_add] at ha;exact Nat.div_lt_of_lt_mul ha
 rw[e] at h3 h4 hpos⊢
 generalize qm (a/2^(64*i))=m at*
 have hp:0<2^(64*i):=Nat.pow_pos (by omega)
 symm
 apply FH
 ·rw[Nat.pow_add];have:=(Nat.div_lt_iff_lt_mul hp).1 h3
  rwa [Nat.mul_comm] at this
 ·intro _;have:=(Nat.le_div_iff_mul_le hp).1 h4;rw[show 64*i+m-1=(m-1)+64*i by omega,Nat.pow_add];exact this
theorem bitsN_le{a:Nat}(ha:a<jk):qm a<=256:=by
 rcases Nat.lt_or_ge 256 (qm a) with h|h
 ·exfalso
  obtain⟨_,h4⟩:=Jy a;have hne:a≠0:=by rintro rfl;simp[qm] at h
  have:=Nat.pow_le_pow_right (n:=2) (by omega) (show 256<=qm a-1 by omega);have:=h4 hne;rw[xC] at ha;omega
 ·exact h
theorem QZ{a k:Nat}(ha:a<jk)(h:∀j,k<=j->j<4->jg jf a j=0)(hk:k<=4):a<jf^k:=by
 have e:qf jf 4 (jg jf a)=qf jf k (jg jf a):=by
  have:∀n,k<=n->n<=4->qf jf n (jg jf a)=qf jf k (jg jf a):=by
   intro n hn
   induction n with
   |zero=>intro _;rw[show k=0 by omega]
   |succ n ih=>
    intro hn4
    by_cases hkn:k=n+1
    ·rw[hkn]
    ·unfold qf;rw[h n (by omega) (by omega),Nat.zero_mul,Nat.add_zero,ih (by omega) (by omega)]
     cases k<;>rfl
  exact this 4 hk (Nat.le_refl _)
 rw[Zr ha] at e;rw[e];exact Qx fun j _=>qh a j
structure Dg(y1 y0 u u1 q r:Nat):Prop where
 sum:u=q*y1+r
 ge:(u*4294967296+u1)/(y1*4294967296+y0)<=q
 le:q<=4294967297
structure Dh(y1 y0 u u1:Nat):Prop where
 hy1:2147483648<=y1/\y1<4294967296
 hy0:y0<4294967296
 hu:u<y1*4294967296+y0
 hu1:u1<4294967296
section
variable {y1 y0 u u1 q r:Nat}
theorem Dh.pos(h:Dh y1 y0 u u1):0<y1*4294967296+y0:=by have:=h.hy1;omega
theorem Dh.lt(h:Dh y1 y0 u u1):(u*4294967296+u1)/(y1*4294967296+y0)<4294967296:=by
 rw[Nat.div_lt_iff_lt_mul h.pos];have:=h.hu;have:=h.hu1;have:=h.hy1;have:=h.hy0;omega
theorem Dg.start(h:Dh y1 y0 u u1):Dg y1 y0 u u1 (u/y1) (u%y1):=by
 have hy:=h.hy1;have hy0:=h.hy0;have hu:=h.hu;have hu1:=h.hu1;refine⟨by rw[Nat.mul_comm];exact(Nat.div_add_mod u y1).symm,?_,?_⟩
 ·have e:(u*4294967296+u1)/(y1*4294967296)=u/y1:=by
   rw[Nat.mul_comm y1,<-Nat.div_div_eq_div_mul]
   congr 1
   omega
  rw[<-e];exact Nat.div_le_div_left (by omega) (by omega)
 ·have:u/y1<4294967298:=by
   rw[Nat.div_lt_iff_lt_mul (by omega)];omega
  omega
theorem Dg.prod(g:Dg y1 y0 u u1 q r):q*(y1*4294967296+y0)+4294967296*r=4294967296*u+q*y0:=by
 have:=g.sum;rw[Nat.mul_add,<-Nat.mul_assoc,this];omega
theorem Dg.down(h:Dh y1 y0 u u1)(g:Dg y1 y0 u u1 q r)(hc:4294967296<=q∨4294967296*r+u1<q*y0):0<q/\Dg y1 y0 u u1 (q-1) (r+y1):=by
 have hlt:(u*4294967296+u1)/(y1*4294967296+y0)<q:=by
  rcases hc with hc|hc
  ·exact Nat.lt_of_lt_of_le h.lt hc
  ·rw[Nat.div_lt_iff_lt_mul h.pos];have:=g.prod;omega
 have hq:0<q:=Nat.lt_of_le_of_lt (Nat.zero_le _) hlt;refine⟨hq,⟨?_,Nat.le_sub_one_of_lt hlt,by have:=g.le;omega⟩⟩;have hs:=g.sum;obtain⟨p,rfl⟩:∃p,q=p+1:=⟨q-1,by omega⟩;rw[Nat.add_sub_cancel];rw[Nat.add_mul,Nat.one_mul] at hs;omega
theorem Dg.done(h:Dh y1 y0 u u1)(g:Dg y1 y0 u u1 q r)(hc:q*y0<=4294967296*r+u1):q=(u*4294967296+u1)/(y1*4294967296+y0):=by
 refine Nat.le_antisymm ?_ g.ge;rw[Nat.le_div_iff_mul_le h.pos];have:=g.prod;omega
theorem Dg.broke(h:Dh y1 y0 u u1)(g:Dg y1 y0 u u1 q r)(hq:q<=4294967296)(hr:4294967296<=r):q=(u*4294967296+u1)/(y1*4294967296+y0):=by
 refine g.done h ?_;have h1:q*y0<=4294967296*y0:=Nat.mul_le_mul_right _ hq;have:=h.hy0;omega
theorem Dg.small(h:Dh y1 y0 u u1)(g:Dg y1 y0 u u1 q r):q*y0<18446744073709551616:=by
 have h1:q*y0<=4294967297*y0:=Nat.mul_le_mul_right _ g.le;have:=h.hy0;omega
end
theorem SX{y u u1 u0:Nat}(hy:0<y):
  ((u*4294967296+u1)*4294967296+u0)/y=(u*4294967296+u1)/y*4294967296+((u*4294967296+u1)%y*4294967296+u0)/y/\
  ((u*4294967296+u1)*4294967296+u0)%y=((u*4294967296+u1)%y*4294967296+u0)%y:=by
 obtain⟨N,hN⟩:∃N,N=u*4294967296+u1:=⟨_,rfl⟩;rw[<-hN]
 have e:N*4294967296+u0=y*(N/y*4294967296)+(N%y*4294967296+u0):=by
  have:=Nat.div_add_mod N y;have h2:N*4294967296=(y*(N/y)+N%y)*4294967296:=by rw[this]
  rw[h2,Nat.add_mul,Nat.mul_assoc];omega
 constructor
 ·rw[e,Nat.mul_add_div hy]
 ·rw[e,Nat.mul_add_mod]
theorem WU{p g q:Nat}(hp:1<p)(h:g^q%p=1)(k:Nat):g^(q*k)%p=1:=by
 rw[Nat.pow_mul,Nat.pow_mod,h,Nat.one_pow,Nat.mod_eq_of_lt hp]
theorem pow_ne{p g q:Nat}(hp:1<p)(hq:0<q)(h:g^q%p=1)(n:Nat):g^n%p≠0:=by
 intro h0;have h1:=WU hp h n
 have h2:g^(q*n)=g^n*g^(q*n-n):=by
  rw[<-Nat.pow_add]
  congr 1
  have:=Nat.le_mul_of_pos_left n hq;omega
 rw[h2,Nat.mul_mod,h0,Nat.zero_mul,Nat.zero_mod] at h1;exact absurd h1 (by decide)
def yG(n:Nat):Prop:=2<=n/\∀d,2<=d->d*d<=n->n%d≠0
namespace Bal
structure H32 where
 l:List Nat
 hl:l.length=32
 hb:∀x∈l,x<256
theorem H32.eq{a b:H32}(h:a.l=b.l):a=b:=by
 cases a
 cases b
 cases h
 rfl
instance:DecidableEq H32:=fun a b=>decidable_of_iff (a.l=b.l) ⟨H32.eq,fun h=>by rw[h]⟩
structure Bv where
 k:Nat
 v:Nat
 n:Nat
 s:H32
 deriving DecidableEq
def bput(E:List Bv)(x:Bv):List Bv:=if x∈E then E else E++[x]
def kept(l:List Bv):List Bv:=l.foldl bput []
theorem mem_bput{E:List Bv}{x y:Bv}:y∈bput E x↔y∈E∨y=x:=by
 unfold bput
 split
 ·rename_i h
  constructor
  ·exact Or.inl
  ·rintro(h1|rfl)
   ·exact h1
   ·exact h
 ·simp
theorem ML(l:List Bv):∀(E:List Bv) (y:Bv),y∈l.foldl bput E↔y∈E∨y∈l:=by
 induction l with
 |nil=>intro E y;simp
 |cons a r ih=>
  intro E y;simp only[List.foldl_cons,ih,mem_bput,List.mem_cons]
  constructor
  ·rintro((h|h)|h)
   ·exact Or.inl h
   ·exact Or.inr (Or.inl h)
   ·exact Or.inr (Or.inr h)
  ·rintro(h|h|h)
   ·exact Or.inl (Or.inl h)
   ·exact Or.inl (Or.inr h)
   ·exact Or.inr h
theorem mem_kept{l:List Bv}{y:Bv}:y∈kept l↔y∈l:=by
 unfold kept;rw[ML]
 simp
theorem kept_snoc(l:List Bv)(x:Bv):kept (l++[x])=bput (kept l) x:=by simp[kept]
def at_(E:List Bv)(k v n:Nat):List Bv:=E.filter fun x=>x.k=k/\x.v=v/\x.n=n
theorem at_bput_same{E:List Bv}{x:Bv}(h:x∉at_ E x.k x.v x.n):at_ (bput E x) x.k x.v x.n=at_ E x.k x.v x.n++[x]:=by
 have hx:x∉E:=fun he=>h (by simp[at_,he])
 simp[at_,bput,hx,List.filter_append]
theorem at_bput_other{E:List Bv}{x:Bv}{k v n:Nat}(h:¬(x.k=k/\x.v=v/\x.n=n)):at_ (bput E x) k v n=at_ E k v n:=by
 unfold at_ bput
 split
 ·rfl
 ·simp[List.filter_append,h]
theorem mem_at{E:List Bv}{x:Bv}{k v n:Nat}:x∈at_ E k v n↔x∈E/\x.k=k/\x.v=v/\x.n=n:=by simp[at_]
def votesOf(E:List Bv)(N k v:Nat)(s:H32):List Bv:=(List.range N).flatMap fun i=>(at_ E k v (i+1)).filter fun x=>x.s=s
def anyOf(E:List Bv)(N k v:Nat):Nat:=(List.range N).countP fun i=>decide (0<(at_ E k v (i+1)).length)
theorem at_pos{E:List Bv}{k v n:Nat}:0<(at_ E k v n).length↔∃x∈E,x.k=k/\x.v=v/\x.n=n:=by
 rw[List.length_pos_iff_exists_mem]
 constructor
 ·rintro⟨x,hx⟩;exact⟨x,(mem_at.1 hx).1,(mem_at.1 hx).2⟩
 ·rintro⟨x,hx,h⟩;exact⟨x,mem_at.2 ⟨hx,h⟩⟩
theorem anyOf_le(E:List Bv)(N k v:Nat):anyOf E N k v<=N:=by
 have:=List.countP_le_length (l:=List.range N) (p:=fun i=>decide (0<(at_ E k v (i+1)).length))
 simpa[anyOf] using this
def farOf(E:List Bv)(n:Nat):Int:=E.foldl (fun m x=>if x.n=n then max m (x.v:Int) else m) (-1)
theorem wH(n:Nat):∀(E:List Bv) (m:Int),(m<=E.foldl (fun m x=>if x.n=n then max m (x.v:Int) else m) m)/\
  (∀x∈E,x.n=n->(x.v:Int)<=E.foldl (fun m x=>if x.n=n then max m (x.v:Int) else m) m)/\
  (E.foldl (fun m x=>if x.n=n then max m (x.v:Int) else m) m=m∨∃x∈E,x.n=n/\E.foldl (fun m x=>if x.n=n then max m (x.v:Int) else m) m=x.v)
 |[],m=>⟨Int.le_refl _,by simp,Or.inl rfl⟩
 |a::r,m=>by
  obtain⟨h1,h2,h3⟩:=wH n r (if a.n=n then max m (a.v:Int) else m);simp only[List.foldl_cons];refine⟨?_,?_,?_⟩
  ·refine Int.le_trans ?_ h1
   split<;>omega
  ·intro x hx hn
   rcases List.mem_cons.1 hx with rfl|hx
   ·refine Int.le_trans ?_ h1;rw[if_pos hn];omega
   ·exact h2 x hx hn
  ·rcases h3 with h3|⟨x,hx,hn,h3⟩
   ·by_cases ha:a.n=n
    ·rw[if_pos ha] at h3
     by_cases hm:(a.v:Int)<=m
     ·left;rw[if_pos ha,h3];omega
     ·right;exact⟨a,List.mem_cons_self,ha,by rw[if_pos ha,h3];omega⟩
    ·rw[if_neg ha] at h3
     left;rw[if_neg ha,h3]
   ·right;exact⟨x,List.mem_cons_of_mem _ hx,hn,h3⟩
theorem far_ge{E:List Bv}{x:Bv}(h:x∈E):(x.v:Int)<=farOf E x.n:=(wH x.n E (-1)).2.1 x h rfl
theorem far_low(E:List Bv)(n:Nat): -1<=farOf E n:=(wH n E (-1)).1
theorem far_one(E:List Bv)(n:Nat):farOf E n= -1∨∃x∈E,x.n=n/\farOf E n=x.v:=(wH n E (-1)).2.2
theorem far_bput(E:List Bv)(x:Bv)(n:Nat):farOf (bput E x) n=if x.n=n then max (farOf E n) (x.v:Int) else farOf E n:=by
 by_cases hx:x∈E
 ·rw[bput,if_pos hx]
  split
  ·rename_i hn
   have:=far_ge hx;rw[hn] at this;omega
  ·rfl
 ·rw[bput,if_neg hx]
  simp[farOf,List.foldl_append]
theorem count_ge{L:List Int}(hs:L.Pairwise (· <= ·))(i:Nat)(hi:i<L.length):L.length-i<=L.countP fun x=>decide (L[i]<=x):=by
 have h1:(L.drop i).countP (fun x=>decide (L[i]<=x))=(L.drop i).length:=by
  rw[List.countP_eq_length];intro x hx;obtain⟨j,hj,rfl⟩:=List.getElem_of_mem hx;rw[List.getElem_drop];simp only[decide_eq_true_eq]
  rcases Nat.eq_zero_or_pos j with rfl|hp
  ·simp
  ·exact(List.pairwise_iff_getElem.1 hs) i (i+j) hi (by simp at hj;omega) (by omega)
 have h2:=List.Sublist.countP_le (p:=fun x=>decide (L[i]<=x)) (List.drop_sublist i L);rw[h1,List.length_drop] at h2;exact h2
theorem count_gt{L:List Int}(hs:L.Pairwise (· <= ·))(i:Nat)(hi:i<L.length):L.countP (fun x=>decide (L[i]<x))<=L.length-(i+1):=by
 have h0:L.countP (fun x=>decide (L[i]<x))=(L.take (i+1)).countP (fun x=>decide (L[i]<x))+(L.drop (i+1)).countP (fun x=>decide (L[i]<x)):=by
  rw[<-List.countP_append,List.take_append_drop]
 have h1:(L.take (i+1)).countP (fun x=>decide (L[i]<x))=0:=by
  rw[List.countP_eq_zero];intro x hx;obtain⟨j,hj,rfl⟩:=List.getElem_of_mem hx;rw[List.getElem_take];simp only[decide_eq_true_eq]
  simp at hj
  rcases Nat.lt_or_ge j i with hp|hp
  ·have:=(List.pairwise_iff_getElem.1 hs) j i (by omega) hi hp;omega
  ·have:j=i:=by omega
   subst this;omega
 have h2:=List.countP_le_length (l:=L.drop (i+1)) (p:=fun x=>decide (L[i]<x));rw[List.length_drop] at h2;omega
theorem far_law{F L:List Int}(hp:L.Perm F)(hs:L.Pairwise (· <= ·)){some:Nat}(hn:some<=F.length){x:Int}(hx:L[L.length-some]?=Option.some x):
  some<=F.countP (fun y=>decide (x<=y))/\(0<some->F.countP (fun y=>decide (x<y))<some):=by
 have hl:=hp.length_eq;obtain⟨hi,rfl⟩:=List.getElem?_eq_some_iff.1 hx;have h1:=count_ge hs _ hi;have h2:=count_gt hs _ hi;rw[hp.countP_eq] at h1 h2;omega
end Bal
namespace Bal
theorem votes_list(E:List Bv)(N k v:Nat)(s:H32):((List.range N).flatMap fun i=>E.filter fun x=>decide (x.k=k/\x.v=v/\x.s=s/\x.n=i+1))=votesOf E N k v s:=by
 unfold votesOf at_
 congr 1
 funext i
 rw[List.filter_filter]
 congr 1
 funext x
 rw[Bool.eq_iff_iff];simp only[decide_eq_true_eq,Bool.and_eq_true]
 constructor
 ·rintro⟨h1,h2,h3,h4⟩;exact⟨h3,h1,h2,h4⟩
 ·rintro⟨h3,h1,h2,h4⟩;exact⟨h1,h2,h3,h4⟩
theorem OW(E:List Bv)(k v n:Nat):(E.any fun x=>decide (x.k=k/\x.v=v/\x.n=n))=decide (0<(at_ E k v n).length):=by
 rw[Bool.eq_iff_iff];simp only[List.any_eq_true,decide_eq_true_eq,at_pos]
def farN(E:List Bv)(N v:Nat):Nat:=(List.range N).countP fun i=>E.any fun x=>decide (x.n=i+1/\v<=x.v)
def farStep(E:List Bv)(N s:Nat)(far:Nat)(x:Bv):Nat:=if s<=farN E N x.v then max far x.v else far
def farRef(E:List Bv)(N s:Nat):Nat:=E.foldl (farStep E N s) 0
theorem far_any(E:List Bv)(n v:Nat):(E.any fun x=>decide (x.n=n/\v<=x.v))=decide ((v:Int)<=farOf E n):=by
 rw[Bool.eq_iff_iff];simp only[List.any_eq_true,decide_eq_true_eq]
 constructor
 ·rintro⟨x,hx,rfl,h⟩;exact Int.le_trans (by omega) (far_ge hx)
 ·intro h
  rcases far_one E n with h1|⟨x,hx,hn,h1⟩
  ·omega
  ·exact⟨x,hx,hn,by omega⟩
theorem farN_eq(E:List Bv)(N v:Nat):farN E N v=((List.range N).map fun i=>farOf E (i+1)).countP fun z=>decide ((v:Int)<=z):=by
 unfold farN;rw[List.countP_map]
 congr 1
 funext i
 exact far_any E (i+1) v
theorem MI(E:List Bv)(N s:Nat):∀(L:List Bv) (r:Nat),r<=L.foldl (farStep E N s) r/\(∀x∈L,s<=farN E N x.v->x.v<=L.foldl (farStep E N s) r)/\(L.foldl (farStep E N s) r=r∨∃x∈L,s<=farN E N x.v/\L.foldl (farStep E N s) r=x.v)
 |[],r=>⟨Nat.le_refl _,(fun x hx=>by cases hx),.inl rfl⟩
 |a::L,r=>by
  obtain⟨h1,h2,h3⟩:=MI E N s L (farStep E N s r a);rw[List.foldl_cons];have hr:r<=farStep E N s r a:=by unfold farStep;split<;>omega
  refine⟨Nat.le_trans hr h1,fun x hx hq=>?_,?_⟩
  ·rcases List.mem_cons.1 hx with rfl|hx
   ·refine Nat.le_trans ?_ h1;unfold farStep;rw[if_pos hq];omega
   ·exact h2 x hx hq
  ·rcases h3 with h3|⟨x,hx,hq,h3⟩
   ·by_cases hq:s<=farN E N a.v
    ·have e:farStep E N s r a=max r a.v:=if_pos hq
     by_cases hm:a.v<=r
     ·exact .inl (by rw[h3,e];omega)
     ·exact .inr ⟨a,List.mem_cons_self,hq,by rw[h3,e];omega⟩
    ·exact .inl (by rw[h3];exact if_neg hq)
   ·exact .inr ⟨x,List.mem_cons_of_mem _ hx,hq,h3⟩
theorem far_ref{E:List Bv}{N s:Nat}{D:List Int}{y:Int}(hp:D.Perm ((List.range N).map fun i=>farOf E (i+1)))(hs:D.Pairwise (· <= ·))(h1:1<=s)(hN:s<=N)(hy:D[N-s]?=some y):(farRef E N s:Int)=max 0 y:=by
 have hl:((List.range N).map fun i=>farOf E (i+1)).length=N:=by simp
 have hDl:D.length=N:=by rw[hp.length_eq,hl]
 obtain⟨h2,h3⟩:=far_law (some:=s) hp hs (by omega) (x:=y) (by rw[hDl];exact hy);have h3:=h3 (by omega);obtain⟨_,k2,k3⟩:=MI E N s E 0
 have hle:∀x∈E,s<=farN E N x.v->(x.v:Int)<=y:=fun x _ hq=>by
  rw[farN_eq] at hq
  by_cases hlt:(x.v:Int)<=y
  ·exact hlt
  ·have h9:=List.countP_mono_left (l:=(List.range N).map fun i=>farOf E (i+1)) (p:=fun z=>decide ((x.v:Int)<=z)) (q:=fun z=>decide (y<z)) fun z _ hz=>by
    simp only[decide_eq_true_eq] at hz⊢;omega
   omega
 unfold farRef
 by_cases hy0:y<0
 ·rcases k3 with k3|⟨x,hx,hq,_⟩
  ·rw[k3];omega
  ·have:=hle x hx hq;omega
 ·have hm:y∈(List.range N).map fun i=>farOf E (i+1):=hp.mem_iff.1 (List.mem_of_getElem? hy)
  obtain⟨i,_,hi⟩:=List.mem_map.1 hm
  rcases far_one E (i+1) with h9|⟨x,hx,_,h9⟩
  ·omega
  ·have hxy:(x.v:Int)=y:=by omega
   have hq:s<=farN E N x.v:=by
    rw[farN_eq,hxy];exact h2
   have h8:=k2 x hx hq
   rcases k3 with k3|⟨z,hz,hqz,k3⟩
   ·rw[k3] at h8⊢;omega
   ·have:=hle z hz hqz;omega
theorem put_other{E:List Bv}{x:Bv}:(E.any fun y=>decide (y.k=x.k/\y.v=x.v/\y.n=x.n))=decide (¬(at_ E x.k x.v x.n).length=0):=by
 rw[OW,Bool.eq_iff_iff];simp only[decide_eq_true_eq];omega
end Bal
theorem uK(x i:Nat):x/2^i=2*(x/2^(i+1))+x/2^i%2:=by
 rw[Nat.pow_succ,<-Nat.div_div_eq_div_mul];omega
theorem top_mod(x m i:Nat):(2*(x/2^(i+1)%m)+x/2^i%2)%m=x/2^i%m:=by
 have h:=uK x i
 generalize x/2^(i+1)=y at h⊢
 generalize x/2^i=z at h⊢
 generalize hb:z%2=b at h⊢
 rw[h,Nat.add_mod,Nat.mul_mod 2 (y%m),Nat.mod_mod,<-Nat.mul_mod,<-Nat.add_mod]
theorem kP{r b m:Nat}(hr:r<m)(hb:b<=1):(if m<=2*r+b then 2*r+b-m else 2*r+b)=(2*r+b)%m:=by
 split
 ·rw[Nat.mod_eq_sub_mod (by omega),Nat.mod_eq_of_lt (by omega)]
 ·rw[Nat.mod_eq_of_lt (by omega)]
theorem wtop_step(x i:Nat):x/jf^i=x/jf^(i+1)*jf+x/jf^i%jf:=by
 rw[Nat.pow_succ,<-Nat.div_div_eq_div_mul,Nat.mul_comm];exact(Nat.div_add_mod _ _).symm
theorem wtop_mod(x m i:Nat):(x/jf^(i+1)%m*jf+x/jf^i%jf)%m=x/jf^i%m:=by
 have h:=wtop_step x i
 generalize x/jf^(i+1)=y at h⊢
 generalize x/jf^i=z at h⊢
 generalize hb:z%jf=b at h⊢
 rw[h,Nat.add_mod,Nat.mul_mod (y%m),Nat.mod_mod,<-Nat.mul_mod,<-Nat.add_mod]
theorem VU{a n m i:Nat}(h:n/2^i%2=0):(a^(n/2^(i+1))%m)*(a^(n/2^(i+1))%m)%m=a^(n/2^i)%m:=by
 have h0:=uK n i;rw[h] at h0;clear h
 generalize n/2^(i+1)=y at h0⊢
 generalize n/2^i=z at h0⊢
 rw[h0,Nat.add_zero,Nat.two_mul,Nat.pow_add];exact(Nat.mul_mod _ _ _).symm
theorem UU{a n m i:Nat}(h:n/2^i%2=1):(a^(n/2^(i+1))%m)*(a^(n/2^(i+1))%m)%m*a%m=a^(n/2^i)%m:=by
 have h0:=uK n i;rw[h] at h0;clear h
 generalize n/2^(i+1)=y at h0⊢
 generalize n/2^i=z at h0⊢
 rw[h0,Nat.pow_succ,Nat.two_mul,Nat.pow_add]
 generalize a^y=p
 rw[<-Nat.mul_mod p p m,Nat.mul_mod (p*p%m) a,Nat.mod_mod,<-Nat.mul_mod]
theorem KW{n:Nat}:n/2^qm n=0:=by
 refine Nat.div_eq_of_lt ?_;unfold qm
 split
 ·omega
 ·exact Nat.lt_log2_self
theorem ch_eq{e f g:Nat}(he:e<2^32)(hg:g<2^32):((e&&&f)^^^((2^32-1-e)&&&g))=(g^^^(e&&&(f^^^g))):=by
 refine Nat.eq_of_testBit_eq fun i=>?_
 have h1:(2^32-1-e).testBit i=(decide (i<32)&&!e.testBit i):=by
  rw[show 2^32-1-e=2^32-(e+1) by omega];exact Nat.testBit_two_pow_sub_succ he i
 simp only[Nat.testBit_xor,Nat.testBit_and,h1]
 by_cases hi:i<32
 ·rw[decide_eq_true hi]
  cases e.testBit i<;>cases f.testBit i<;>cases g.testBit i<;>rfl
 ·have h2:g.testBit i=false:=Nat.testBit_lt_two_pow (Nat.lt_of_lt_of_le hg (Nat.pow_le_pow_right (by decide) (by omega)));have h3:e.testBit i=false:=Nat.testBit_lt_two_pow (Nat.lt_of_lt_of_le he (Nat.pow_le_pow_right (by decide) (by omega)));rw[h2,h3,decide_eq_false hi]
  rfl
theorem maj_eq(a b c:Nat):(((a&&&b)|||(a&&&c))|||(b&&&c))=(((a&&&b)^^^(a&&&c))^^^(b&&&c)):=by
 refine Nat.eq_of_testBit_eq fun i=>?_
 simp only[Nat.testBit_xor,Nat.testBit_and,Nat.testBit_or]
 cases a.testBit i<;>cases b.testBit i<;>cases c.testBit i<;>rfl
theorem round_eq{x k:Nat}(hx:x<2^32)(hk:k<=32):(x/2^k|||x*2^(32-k)%2^32)=Qb x k:=by
 unfold Qb
 have h1:x/2^k<2^(32-k):=by
  rw[Nat.div_lt_iff_lt_mul (Nat.two_pow_pos k),<-Nat.pow_add,show 32-k+k=32 by omega];exact hx
 have h2:x*2^(32-k)%2^32=x%2^k*2^(32-k):=by
  rw[show(2:Nat)^32=2^k*2^(32-k) by rw[<-Nat.pow_add];congr 1;omega,Nat.mul_mod_mul_right]
 rw[h2,Nat.or_comm,Nat.mul_comm,<-Nat.two_pow_add_eq_or_of_lt h1];omega
namespace Srt
def Almost(D:List Int)(i j:Nat):Prop:=(∀p q x y,p<q->q<=i->p≠j->q≠j->D[p]?=some x->D[q]?=some y->x<=y)/\∀q x y,j<q->q<=i->D[j]?=some x->D[q]?=some y->x<=y
def Upto(D:List Int)(i:Nat):Prop:=∀p q x y,p<q->q<i->D[p]?=some x->D[q]?=some y->x<=y
theorem almost_start{D:List Int}{i:Nat}(h:Upto D i):Almost D i i:=
 ⟨fun p q x y hpq hq _ hqi hx hy=>h p q x y hpq (by omega) hx hy,fun q x y h1 h2 _ _=>by omega⟩
def swap(D:List Int)(j:Nat)(a b:Int):List Int:=(D.set j b).set (j-1) a
theorem wK{D:List Int}{j:Nat}{a b:Int}(hj:0<j)(hl:j<D.length)(p:Nat):(swap D j a b)[p]?=if p=j-1 then some a else if p=j then some b else D[p]?:=by
 unfold swap
 by_cases h1:p=j-1
 ·rw[if_pos h1,h1,List.getElem?_set_self (by simp;omega)]
 ·rw[if_neg h1,List.getElem?_set_ne (Ne.symm h1)]
  by_cases h2:p=j
  ·rw[if_pos h2,h2,List.getElem?_set_self hl]
  ·rw[if_neg h2,List.getElem?_set_ne (Ne.symm h2)]
theorem swap_perm{D:List Int}{j:Nat}{a b:Int}(ha:D[j]?=some a) (hb:D[j-1]?=some b):(swap D j a b).Perm D:=by
 obtain⟨h1,rfl⟩:=List.getElem?_eq_some_iff.1 ha;obtain⟨h2,rfl⟩:=List.getElem?_eq_some_iff.1 hb;exact List.set_set_perm h1 h2
theorem almost_swap{D:List Int}{i j:Nat}{a b:Int}(hj:0<j)(hji:j<=i)(hl:i<D.length)(ha:D[j]?=some a) (hb:D[j-1]?=some b) (hab:a<b) (h:Almost D i j):Almost (swap D j a b) i (j-1):=by
 obtain⟨h1,h2⟩:=h;have hjl:j<D.length:=by omega
 refine⟨fun p q x y hpq hq hp hqj hx hy=>?_,fun q x y hq hqi hx hy=>?_⟩
 ·rw[wK hj hjl] at hx hy;rw[if_neg hp] at hx;rw[if_neg hqj] at hy
  by_cases e1:p=j
  ·subst e1;rw[if_pos rfl] at hx
   cases hx
   rw[if_neg (by omega)] at hy;exact h1 (p-1) q b y (by omega) hq (by omega) (by omega) hb hy
  ·rw[if_neg e1] at hx
   by_cases e2:q=j
   ·subst e2;rw[if_pos rfl] at hy
    cases hy
    exact h1 p (q-1) x b (by omega) (by omega) (by omega) (by omega) hx hb
   ·rw[if_neg e2] at hy;exact h1 p q x y hpq hq e1 e2 hx hy
 ·rw[wK hj hjl,if_pos rfl] at hx
  cases hx
  rw[wK hj hjl,if_neg (by omega)] at hy
  by_cases e:q=j
  ·subst e;rw[if_pos rfl] at hy
   cases hy
   omega
  ·rw[if_neg e] at hy;exact h2 q a y (by omega) hqi ha hy
theorem almost_end{D:List Int}{i j:Nat}{a:Int}(ha:D[j]?=some a) (hji:j<=i) (hend:j=0∨∃b,D[j-1]?=some b/\b<=a) (h:Almost D i j):Upto D (i+1):=by
 obtain⟨h1,h2⟩:=h;intro p q x y hpq hq hx hy
 by_cases e1:p=j
 ·subst e1;exact h2 q x y hpq (by omega) hx hy
 ·by_cases e2:q=j
  ·subst e2;rw[ha] at hy
   cases hy
   rcases hend with h0|⟨b,hb,hba⟩
   ·omega
   ·by_cases e3:p=q-1
    ·subst e3;rw[hb] at hx
     cases hx
     exact hba
    ·exact Int.le_trans (h1 p (q-1) x b (by omega) (by omega) e1 (by omega) hx hb) hba
  ·exact h1 p q x y hpq (by omega) e1 e2 hx hy
theorem upto_sorted{D:List Int}(h:Upto D D.length):D.Pairwise (· <= ·):=by
 rw[List.pairwise_iff_getElem];intro p q hp hq hpq;exact h p q _ _ hpq hq (List.getElem?_eq_getElem hp) (List.getElem?_eq_getElem hq)
theorem upto_one(D:List Int):Upto D 1:=fun p q x y h1 h2=>by omega
end Srt
end Go.Proofs.YtpkalgofejjggaaGreatDoor
