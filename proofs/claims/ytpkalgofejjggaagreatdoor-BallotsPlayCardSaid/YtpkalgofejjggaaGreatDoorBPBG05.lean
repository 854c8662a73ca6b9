/- Layer 1 (nums) -/
import Derived.Test.YtpkalgofejjggaaGreatDoorBPBG04
import Derived.Laws.BitsAllLaws
set_option maxHeartbeats 1500000
set_option maxRecDepth 20000
namespace Go.Proofs.YtpkalgofejjggaaGreatDoor
open Go.ChangeShapes Go.WideShapes Go.ChangeAt Go.RowKit Go.Proofs.Tryz
theorem rot_or{x k:Nat}(hx:x<2^32)(hk:k<=32):bits BinOp.or IntKind.u32 (((x%2^k*2^(32-k):Nat):Int)) (((x/2^k:Nat):Int))=((Qb x k:Nat):Int):=by
 have h1:x/2^k<2^(32-k):=by
  rw[Nat.div_lt_iff_lt_mul (Nat.two_pow_pos k),<-Nat.pow_add,show 32-k+k=32 by omega];exact hx
 have h0:=JB hx hk;unfold Qb at h0⊢;have h9:=Nat.div_le_self x (2^k);rw[u32_or_nat _ _ (Nat.lt_of_le_of_lt (Nat.le_add_left _ _) h0) (by omega)];have h:=Nat.shiftLeft_add_eq_or_of_lt h1 (x%2^k);rw[Nat.shiftLeft_eq] at h;rw[<-h,Nat.add_comm]
theorem rotl_any{x k:Nat}(hx:x<2^32)(h1:1<=k)(hk:k<=31)(w:World):
  Calls prog 288 #[.int .u32 x,.int .i64 (-(k:Int))] w fun e w'=>e=.returned (.int .u32 (Qb x k))/\w=w':=by
 obtain⟨j,hj⟩:∃j,j+k=32:=⟨32-k,by omega⟩;have e1:IntKind.u64.wrap (-(k:Int))=((18446744073709551616-k:Nat):Int):=by simp[IntKind.wrap,IntKind.bits,IntKind.signed];omega
 have e2:bits BinOp.and IntKind.u64 ((18446744073709551616-k:Nat):Int) 31=(j:Int):=by
  have h:=u64_and_nat (18446744073709551616-k) 31 (by omega) (by omega);rw[show((31:Nat):Int)=31 from rfl] at h;rw[h,show(31:Nat)=2^5-1 from rfl,Nat.and_two_pow_sub_one_eq_mod];omega
 have e3:x*2^j%4294967296=x%2^k*2^(32-k):=by
  rw[show(4294967296:Nat)=2^k*2^j by rw[<-Nat.pow_add,Nat.add_comm,hj],Nat.mul_mod_mul_right,show 32-k=j by omega]
 have e4:(32:Int)-(j:Int)=(k:Int):=by omega
 have e5:=rot_or hx (show k<=32 by omega);rw[<-e3] at e5;have E5:=jh e5;clear e3 e5 hj
 go_enter func288,ntmps288
 go_wp2
 go_ret
 exact⟨by have h:=E5.out;simp only[Int.natCast_emod,Int.natCast_mul,Int.natCast_pow,Int.natCast_ediv] at h;exact congrArg (fun n:Int=>Ending.returned (.int .u32 n)) h,rfl⟩
theorem mix_any{x:Nat}{ks:List Nat}{v:Value}(hx:x<2^32)(hks:∀k∈ks,1<=k/\k<=31)(w:World)(hv:F7 .i64 w v ks):
  Calls prog 282 #[.int .u32 x,v] w fun e w'=>e=.returned (.int .u32 (QS x ks))/\w'=w:=by
 obtain⟨ao,cap,rfl,hc1,hc2,hc3,hc4⟩:=hv;have HC:=jh hc4;have HK:=jh hks;have HX:=jh hx;have hm1:=hc2;unfold maxLen at hm1;clear hc4 hc3 hks hx
 go_enter func282,ntmps282
 go_wp2
 go_loopw [4,9] (fun o i wr=>∃i':Nat,i'<=ks.length/\i=.int .i64 i'/\o=.int .u32 (QS x (ks.take i'))/\wr=w) (fun _ i _=>ks.length-(intOf i).toNat)
 case atStart=>exact⟨0,Nat.zero_le _,rfl,by simp[QS],rfl⟩
 case round=>
  obtain⟨i,hi,rfl,rfl,hwr⟩:=hrel;subst hwr
  by_cases hlt:i<ks.length
  ·obtain⟨k,hk⟩:∃k,ks[i]?=some k:=⟨_,List.getElem?_eq_getElem hlt⟩;obtain⟨g,o,rfl,hc5⟩:=HC.out (by omega);have hcell:=hc5 i k hk;have h9:=HK.out k (List.mem_of_getElem? hk);have CR:=jh (fun w=>rotl_any (x:=x) (k:=k) HX.out h9.1 h9.2 w);obtain⟨m,hm⟩:∃m,Hid (QS x (ks.take i)=m):=⟨_,jh rfl⟩;rw[hm.out];have hxor:=u32_xor_nat m (Qb x k) (by rw[<-hm.out];exact fH HX.out (fun k hk=>by have:=HK.out k (List.take_subset _ _ hk);omega)) (JB HX.out (by omega));have HXO:=jh (show QS x (ks.take (i+1))=m^^^Qb x k by rw[List.take_add_one,hk,<-hm.out];exact mixN_snoc _ _ _);have hng:wrap64 (-(k:Int))= -(k:Int):=by unfold wrap64;omega
   clear hk hc5 h9
   go_wp2_with fail
   refine(CR.out _).mono ?_;rintro _ w2 ⟨rfl,hw2⟩;subst hw2
   go_wp2
   go_roundw
   case rel=>exact⟨i+1,by omega,by go_num,by rw[HXO.out],trivial⟩
   case measure=>simp[intOf];omega
  ·obtain rfl:i=ks.length:=by omega
   go_wp2
   go_ret
   exact⟨by rw[List.take_length];rfl,rfl⟩
theorem or_byte{n c:Nat}(hn:n<72057594037927936)(hc:c<256):bits BinOp.or IntKind.u64 ((n:Int)*256) (c:Int)=((n*256+c:Nat):Int):=by
 rw[show(n:Int)*256=((n*256:Nat):Int) by simp,u64_or_nat (n*256) c (by omega) (by omega)];have h:=Nat.shiftLeft_add_eq_or_of_lt (show c<2^8 from hc) n;rw[Nat.shiftLeft_eq] at h;rw[<-h]
theorem Get_any{b:List Nat}{v:Value}(w:World)(hv:F7 .u8 w v b)(hb:qk b)(m:Nat)(h1:1<=m)(h8:m<=8)(hm:m<=b.length):
  Calls prog 266 #[v,.int .i64 m] w fun e w'=>e=.returned (.tuple #[.int .u64 (num (b.take m)),.int .i64 0])/\w=w':=by
 obtain⟨ao,cap,rfl,hc1,hc2,hc3,hc4⟩:=hv;obtain⟨g,o,rfl,hc5⟩:=hc4 (by omega);have HC:=jh hc5;have HB:=jh hb;have hm1:=hc2;unfold maxLen at hm1;clear hc4 hc5 hc3 hb;have hd1:decide (b.length<m)=false:=by simpa using hm
 go_enter func266,ntmps266
 go_wp2
 go_loop [4,24] (fun n i=>∃i':Nat,i'<=m/\i=.int .i64 i'/\n=.int .u64 (num (b.take i'))) (fun _ i=>m-(intOf i).toNat)
 case atStart=>exact⟨0,Nat.zero_le _,rfl,by simp[num]⟩
 case round=>
  obtain⟨i,hi,rfl,rfl⟩:=hrel
  by_cases hlt:i<m
  ·obtain⟨x,hx⟩:∃x,b[i]?=some x:=⟨_,Jd (by omega)⟩;have hcell:=HC.out i x hx;have HX:=jh hx;have hx8:x<256:=HB.out x (List.mem_of_getElem? hx);obtain⟨n,hn⟩:∃n,Hid (num (b.take i)=n):=⟨_,jh rfl⟩;rw[hn.out]
   have hnl:n<72057594037927936:=by
    have h2:=GL i (b.take i) (by simp;omega) (fun y hy=>HB.out y (List.take_subset _ _ hy));have h3:256^i<=256^7:=Nat.pow_le_pow_right (by omega) (by omega);rw[hn.out] at h2;omega
   have hor:=or_byte hnl hx8;clear hx
   go_wp2
   go_round
   case rel=>exact⟨i+1,by omega,by go_num,by rw[show num (b.take (i+1))=n*256+x by rw[List.take_add_one,HX.out,<-hn.out];exact EL _ _];go_num⟩
   case measure=>simp[intOf];omega
  ·obtain rfl:i=m:=by omega
   go_wp2
   go_ret2
   exact⟨rfl,rfl⟩
end Go.Proofs.YtpkalgofejjggaaGreatDoor
