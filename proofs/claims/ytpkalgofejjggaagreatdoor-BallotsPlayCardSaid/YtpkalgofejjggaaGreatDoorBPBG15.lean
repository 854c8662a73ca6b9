/- Layer 2's reference -/
import Derived.Test.YtpkalgofejjggaaGreatDoorBPBG09
import Derived.Test.YtpkalgofejjggaaGreatDoorBPBG14
import Derived.Deep.MidRow
set_option maxHeartbeats 1500000
set_option maxRecDepth 20000
namespace Go.Proofs.YtpkalgofejjggaaGreatDoor
open Go.ChangeShapes Go.WideShapes Go.ChangeAt Go.RowKit Go.Proofs.Tryz
def QP(n:Nat)(A:Nat->Nat):List Value:=(List.range n).map fun j=>Value.int .u64 (A j)
theorem qT(n:Nat)(A:Nat->Nat):(QP n A).length=n:=by simp[QP]
theorem JJ(n:Nat)(A:Nat->Nat):∀v∈QP n A,v.oneCell'=true:=by
 intro v hv;obtain⟨j,_,rfl⟩:=List.mem_map.1 hv
 rfl
theorem I8.range{w:World}{b n:Nat}{A:Nat->Nat}(h:I8 w b n A):w.rangeAt b 0 (QP n A):=by
 intro j v hj;have hl:j<n:=by have:=(List.getElem?_eq_some_iff.1 hj).1;rwa [qT] at this
 rw[Nat.zero_add,h j hl,<-hj]
 simp[QP,hl]
theorem I8.of_range{w:World}{b n:Nat}{A:Nat->Nat}(h:w.rangeAt b 0 (QP n A)):I8 w b n A:=by
 intro j hl;have:=h j (.int .u64 (A j)) (by simp[QP,hl])
 rwa [Nat.zero_add] at this
theorem there_of{w:World}{b n:Nat}{A:Nat->Nat}(h:I8 w b n A)(hf:Y0 w b n):w.there b 0 n:=fun j hj=>by
 rw[Nat.zero_add];exact⟨by rw[h j hj];rfl,hf j hj⟩
theorem I8.setI{w:World}{b n:Nat}{A:Nat->Nat}(h:I8 w b n A)(c:Nat)(v:Int)(x:Nat)(hv:v=x):I8 (w.setCell ⟨b,c,none⟩ (.int .u64 v)) b n (fun j=>if j=c then x else A j):=by
 subst hv;exact h.set c x
theorem I8.zero16(w:World)(t:TypeId)(b:Nat)(hb:b=w.heap.size):I8 (w.alloc (.cells #[.int .u64 0,.int .u64 0,.int .u64 0,.int .u64 0,.int .u64 0,.int .u64 0,.int .u64 0,.int .u64 0,.int .u64 0,.int .u64 0,.int .u64 0,.int .u64 0,.int .u64 0,.int .u64 0,.int .u64 0,.int .u64 0] t)) b 16 (fun _=>0):=by
 subst hb;intro j hj;have h:j=0∨j=1∨j=2∨j=3∨j=4∨j=5∨j=6∨j=7∨j=8∨j=9∨j=10∨j=11∨j=12∨j=13∨j=14∨j=15:=by omega
 rcases h with rfl|rfl|rfl|rfl|rfl|rfl|rfl|rfl|rfl|rfl|rfl|rfl|rfl|rfl|rfl|rfl<;>simp
def XO(A:Nat->Nat):Value:=.agg (QP 16 A).toArray
theorem dig_int(a k:Nat):((jg jf a (k/4):Nat):Int)/2^(16*(k%4))%65536=((jg 65536 a k:Nat):Int):=by
 rw[<-dig_word]
 simp
theorem Jz{B:Nat}{a:World}(b:Nat):∀(vs:List Value) (o:Nat) {w:World},Below B a w->B<=b->Below B a (w.setCells b o vs)
 |[],_,_,h,_=>h
 |v::r,o,_,h,hb=>Jz b r (o+1) (h.setCell (p:=⟨b,o,none⟩) hb v) hb
theorem QF(w:World)(c:Array Value)(t:TypeId)(n:Nat)(hn:c.size=n):(w.alloc (.cells c t)).there w.heap.size 0 n:=fun j hj=>by
 rw[Nat.zero_add];refine⟨?_,by simp⟩;rw[cell_of_row _ w.heap.size j c t (0,0) (heap_alloc_new w _),Array.getElem?_eq_getElem (by omega)]
 rfl
theorem dig_store(w:World)(c:Array Value)(t:TypeId)(A:Nat->Nat)(hc:c.size=16):I8 ((w.alloc (.cells c t)).setCells w.heap.size 0 (QP 16 A)) w.heap.size 16 A/\Y0 ((w.alloc (.cells c t)).setCells w.heap.size 0 (QP 16 A)) w.heap.size 16/\Below w.heap.size w ((w.alloc (.cells c t)).setCells w.heap.size 0 (QP 16 A)):=by
 have h:=QF w c t 16 hc;refine⟨I8.of_range (World.rangeAt_setCells_same _ _ _ _ (by rw[qT];exact h)),fun j hj=>?_,Jz _ _ _ (ja) (Nat.le_refl _)⟩;have:=(World.there_setCells h w.heap.size 0 (QP 16 A) j hj).2
 rwa [Nat.zero_add] at this
theorem QD(w:World)(t:TypeId)(A:Nat->Nat)(cs:List Value)(hcs:cs=QP 16 A):∃W,W=(w.alloc (.cells #[.int .u64 0,.int .u64 0,.int .u64 0,.int .u64 0,.int .u64 0,.int .u64 0,.int .u64 0,.int .u64 0,.int .u64 0,.int .u64 0,.int .u64 0,.int .u64 0,.int .u64 0,.int .u64 0,.int .u64 0,.int .u64 0] t)).setCells w.heap.size 0 cs/\I8 W w.heap.size 16 A/\Y0 W w.heap.size 16/\Below w.heap.size w W:=by
 subst hcs;exact⟨_,rfl,dig_store w _ t A rfl⟩
theorem FD{P:Program}{fn:Func}{tmps:Array Value}{w:World}(a:Tmp)(t:TypeId)(b:Nat)(v:Value)(hr:fn.results=#[.cell a t])(ha:tmps.getD a undef=.pointer (some ⟨b,0,none⟩))(hl:(loadVar t ⟨b,0,none⟩).run P w=.ok v w):(results fn tmps).run P w=.ok v w:=by
 unfold results;rw[hr];rw[Array.getD_eq_getD_getElem?] at ha
 simp[ha,asAddr,hl]
theorem Jb(a:Nat)(w:World):Calls prog 234 #[ji a] w fun e w'=>e=.returned (XO (jg 65536 a))/\Below w.heap.size w w':=by
 have HA0:=jh (rC.new w (jg jf a));unfold ji words
 go_enter func234,ntmps234
 go_wp2
 go_loopw [4] (fun i wr=>∃k:Nat,k<=16/\i=.int .i64 k/\rC wr w.heap.size (jg jf a)/\I8 wr (w.heap.size+1) 16 (fun _=>0)/\Y0 wr (w.heap.size+1) 16/\I8 wr (w.heap.size+1+1) 16 (fun j=>if j<k then jg 65536 a j else 0)/\Y0 wr (w.heap.size+1+1) 16/\Below w.heap.size w wr) (fun i _=>16-(intOf i).toNat)
 case atStart=>
  exact⟨0,by omega,rfl,((HA0.out _).alloc _).alloc _,(I8.zero16 _ _ _ (by simp)).alloc _,(Y0.made _ _ _ _ _ (by simp)).alloc (by simp) _,I8.zero16 _ _ _ (by simp),Y0.made _ _ _ _ _ (by simp),((ja).alloc (by simp) _).alloc (by simp;omega) _⟩
 case round=>
  obtain⟨k,hk,rfl,ha,hr,hrf,hd,hf,hb⟩:=hrel;have HA:=jh ha;have HR:=jh hr;have UZ:=jh hrf;have HD:=jh hd;have HF:=jh hf;have HB:=jh hb
  by_cases hlt:k<16
  ·have ak:=ha (k/4) (by omega);have dk:=hd k hlt;have fk:=hf k hlt;have h4:k/4<4:=by omega
   have h5:k%4<4:=by omega
   clear ha hr hrf hd hf hb HA0
   go_wp2
   go_roundw
   case rel=>
    refine⟨k+1,by omega,by go_num,HA.out.other _ _ (by omega),HR.out.other _ _ (by omega),UZ.out.set _ _,(HD.out.setI k _ _ (dig_int a k)).congr fun j hj=>?_,HF.out.set _ _,HB.out.setCell (by simp;omega) _⟩
    by_cases h:j=k
    ·subst h;simp
    ·by_cases h':j<k
     ·simp[h,h',show j<k+1 by omega]
     ·simp[h,h',show¬j<k+1 by omega]
   case measure=>simp[intOf];omega
  ·obtain rfl:k=16:=by omega
   have hd':I8 wr (w.heap.size+1+1) 16 (jg 65536 a):=hd.congr fun j hj=>if_pos hj
   have RL:=jh hd'.range;have TH:=jh (there_of hr hrf);obtain⟨cs,hcs⟩:=je (QP 16 (jg 65536 a));have HC:=jh hcs;have HL:Hid (cs.length=16):=jh (by rw[hcs,qT]);have HO:Hid (∀v∈cs,v.oneCell'=true):=jh (by rw[hcs];exact JJ _ _);rw[<-hcs] at RL;clear ha hr hrf hd hf hb hd' hcs HD HF HA HR UZ HA0 hlt hk
   go_wp2_with (first
    |(refine wpList_load_mid rfl 301 _ rfl (w.heap.size+1+1) 0 rfl cs _ RL.out underlying301 rfl (by rw[HL.out];kernel_rfl) ?_)
    |(refine wpList_store_mid rfl 301 _ _ rfl (w.heap.size+1) 0 cs.toArray rfl rfl (by have:=TH.out;simpa[HL.out] using this) (by rw[List.size_toArray,HL.out];kernel_rfl) (all_oneCell_toArray HO.out) ?_))
   refine bodyPost_ret (v:=.agg cs.toArray) (FD _ _ (w.heap.size+1) _ results234 rfl (run_loadVar_mid _ _ _ _ cs _ (World.rangeAt_setCells_same _ _ _ _ (by have:=TH.out;simpa[HL.out] using this)) underlying301 rfl (by rw[HL.out];kernel_rfl))) rfl ⟨by rw[HC.out];rfl,?_⟩;exact Jz _ _ _ HB.out (by omega)
theorem of_val{d:Nat->Nat}(hd:∀j,j<16->d j<65536){i:Nat}(hi:i<16):IntKind.u64.wrap ((wY d i (i/4):Int)+IntKind.u64.wrap ((d i:Int)*2^(16*(i%4))))=((wY d (i+1) (i/4):Nat):Int):=by
 rw[ofW_shift hd hi,ofW_add hd hi]
theorem I8.zero4(w:World)(t:TypeId)(b:Nat)(hb:b=w.heap.size):I8 (w.alloc (.cells #[.int .u64 0,.int .u64 0,.int .u64 0,.int .u64 0] t)) b 4 (fun _=>0):=by
 subst hb;intro j hj;have h:j=0∨j=1∨j=2∨j=3:=by omega
 rcases h with rfl|rfl|rfl|rfl<;>simp
theorem dR{d:Nat->Nat}(hd:∀j,j<16->d j<65536)(b o c:Nat)(w:World)(hb0:b<w.heap.size)(h:∀j,j<16->w.cell? ⟨b,o+j,none⟩=some (.int .u64 (d j)))(_hc:16<=c):
  Calls prog 271 #[.slice (some ⟨b,o,none⟩) 16 c] w fun e w'=>e=.returned (ji (qf 65536 16 d))/\Below w.heap.size w w':=by
 have HDD:=jh hd;have HCE:=jh (fun(wr:World) (k:Nat) (hk:k<16) (hb:Below w.heap.size w wr)=>(hb.cell (p:=⟨b,o+k,none⟩) hb0).trans (h k hk));clear h hb0 hd
 go_enter func271,ntmps271
 go_wp2
 go_loopw [4] (fun i wr=>∃k:Nat,k<=16/\i=.int .i64 k/\I8 wr w.heap.size 4 (fun _=>0)/\Y0 wr w.heap.size 4/\I8 wr (w.heap.size+1) 4 (wY d k)/\Y0 wr (w.heap.size+1) 4/\Below w.heap.size w wr) (fun i _=>16-(intOf i).toNat)
 case atStart=>
  exact⟨0,by omega,rfl,(I8.zero4 _ _ _ rfl).alloc _,(Y0.made _ _ _ _ _ rfl).alloc (by simp) _,(I8.zero4 _ _ _ (by simp)).congr fun j _=>(ofW_zero d j).symm,Y0.made _ _ _ _ _ (by simp),(ja).alloc (by simp) _⟩
 case round=>
  obtain⟨k,hk,rfl,hr,hrf,ha,hf,hb⟩:=hrel;have HR:=jh hr;have UZ:=jh hrf;have HA:=jh ha;have HF:=jh hf;have HB:=jh hb
  by_cases hlt:k<16
  ·have ck:=HCE.out wr k hlt hb;have ak:=ha (k/4) (by omega);have fk:=hf (k/4) (by omega);have h4:k/4<4:=by omega
   have h5:k%4<4:=by omega
   have HV:=jh (of_val HDD.out hlt);clear hr hrf ha hf hb HCE
   go_wp2
   go_region
   go_wp2
   go_roundw
   case rel=>
    refine⟨k+1,by omega,by go_num,HR.out.other _ _ (by omega),UZ.out.set _ _,(HA.out.setI (k/4) _ _ HV.out).congr fun j hj=>?_,HF.out.set _ _,(HB.out.drew).setCell (by simp) _⟩;have:=gV d k j
    by_cases hjk:j=k/4
    ·rw[if_pos hjk,hjk]
    ·rw[if_neg hjk] at this⊢;exact this.symm
   case measure=>simp[intOf];omega
  ·obtain rfl:k=16:=by omega
   have r0:=hr 0 (by omega);have r1:=hr 1 (by omega);have r2:=hr 2 (by omega);have r3:=hr 3 (by omega);have f0:=hrf 0 (by omega);have f1:=hrf 1 (by omega);have f2:=hrf 2 (by omega);have f3:=hrf 3 (by omega);have a0:=ha 0 (by omega);have a1:=ha 1 (by omega);have a2:=ha 2 (by omega);have a3:=ha 3 (by omega);have e0:=dH HDD.out (q:=0) (by omega);have e1:=dH HDD.out (q:=1) (by omega);have e2:=dH HDD.out (q:=2) (by omega);have e3:=dH HDD.out (q:=3) (by omega);obtain⟨x,ex⟩:=je (qf 65536 16 d);rw[<-ex] at e0 e1 e2 e3;have EX:=jh ex;rw[e0] at a0;rw[e1] at a1;rw[e2] at a2;rw[e3] at a3;clear ex e0 e1 e2 e3 hr hrf ha hf hb HCE HDD HR UZ HA HF hlt hk
   go_wp2
   refine bodyPost_ret (v:=ji x) (by simp[results,results271,go_sem,ji,words,r0,r1,r2,r3]) rfl ⟨by rw[EX.out],?_⟩;exact(((HB.out.setCell (Nat.le_refl _) _).setCell (Nat.le_refl _) _).setCell (Nat.le_refl _) _).setCell (Nat.le_refl _) _
theorem NT(n:Nat)(hn:n<jf)(w:World):
  Calls prog 235 #[.int .u64 n] w fun e w'=>e=.returned (ji n)/\Below w.heap.size w w':=by
 have e:ji n=.agg #[.int .u64 n,.int .u64 0,.int .u64 0,.int .u64 0]:=by
  have h0:jg jf n 0=n:=by unfold jg;rw[Nat.pow_zero,Nat.div_one,Nat.mod_eq_of_lt hn]
  have h1:∀j,1<=j->jg jf n j=0:=fun j hj=>by
   unfold jg;rw[Nat.div_eq_of_lt,Nat.zero_mod];exact jv hn (by have:=Nat.pow_le_pow_right zJ hj;rwa [Nat.pow_one] at this)
  unfold ji words;rw[h0,h1 1 (by omega),h1 2 (by omega),h1 3 (by omega)]
  rfl
 have E:=jh e;clear e
 go_enter func235,ntmps235
 go_wp2
 refine bodyPost_ret (v:=ji n) (by rw[E.out];simp[results,results235,go_sem]) rfl ⟨rfl,?_⟩
 repeat (first|exact U3|refine Below.setCell ?_ (by simp) _|refine Below.alloc ?_ (by simp) _)
theorem bit_dig(a n:Nat)(hn:n<256):((jg 65536 a (n/16):Nat):Int)/2^(n%16)%2=((Qu a n:Nat):Int):=by
 have e:((jg 65536 a (n/16):Nat):Int)/2^(n%16)%2=((jg 65536 a (n/16)/2^(n%16)%2:Nat):Int):=by simp
 rw[e,show(65536:Nat)=2^16 from rfl,wG 16 a (n/16) (n%16) (by omega),show 16*(n/16)+n%16=n by omega];unfold Qu;rw[if_neg (by omega),Int.toNat_natCast]
theorem oK(a:Nat)(i:Int)(w:World)(hi0: -9223372036854775808<=i)(hi1:i<=9223372036854775807):
  Calls prog 242 #[ji a,.int .i64 i] w fun e w'=>e=.returned (.int .u64 (Qu a i))/\Below w.heap.size w w':=by
 by_cases h:i<0∨255<i
 ·have hv:Qu a i=0:=by unfold Qu;rw[if_pos h]
  rw[hv];clear hv;unfold ji words
  rcases h with h|h
  all_goals
   go_enter func242,ntmps242
   go_wp2
   go_ret
   exact⟨rfl,ja⟩
 ·obtain⟨n,rfl⟩:=Int.eq_ofNat_of_zero_le (show 0<=i by omega);have hn:n<256:=by omega
  have hq:n/16<16:=by omega
  have hr:n%16<16:=by omega
  have HDG:=jh (Jb a);have XT:=jh QF;have HV:=jh (bit_dig a n hn);have HO:=jh (JJ 16 (jg 65536 a));obtain⟨cs,hcs⟩:=je (QP 16 (jg 65536 a));have HST:=jh (fun w t=>QD w t (jg 65536 a) cs hcs);have HL:Hid (cs.length=16):=jh (by rw[hcs,qT]);have HS16:Hid (16=cs.toArray.size):=jh (by rw[List.size_toArray,HL.out]);unfold XO at HDG;rw[<-hcs] at HDG HO;clear h hcs;unfold ji words at HDG⊢
  go_enter func242,ntmps242
  go_wp2_with fail
  refine(HDG.out _).mono ?_;rintro _ w1 ⟨rfl,hb1⟩;have HB1:=jh (((Below.refl w.heap.size w).alloc (Nat.le_refl _) _).trans (hb1.mono (by simp)));clear hb1
  go_wp2_with (refine wpList_store_mid rfl 301 _ _ rfl w1.heap.size 0 cs.toArray rfl rfl (XT.out w1 _ _ _ HS16.out) (by rw[List.size_toArray,HL.out];kernel_rfl) (all_oneCell_toArray HO.out) ?_
               obtain⟨w2,e2,u2, -,b2⟩:=HST.out w1 301;rw[<-e2];have HB2:=jw HB1 b2;have cq:=u2 (n/16) hq
               clear e2 u2 b2)
  go_ret
  exact⟨congrArg (fun z=>Ending.returned (.int .u64 z)) HV.out,HB2.out⟩
theorem tX{a:Nat}(ha:a<jk)(w:World):
  Calls prog 240 #[ji a] w fun e w'=>e=.returned (.int .i64 (qm a))/\Below w.heap.size w w':=by
 have Ha:Hid (a<2^256):=jh (by rw[<-xC];exact ha);have HW:=jh (U0.new w a w.heap.size 24 rfl);have HBit:=jh (oK a);clear ha;unfold ji words at HBit⊢
 go_enter func240,ntmps240
 go_wp2
 go_loopw [3] (fun i wr=>∃k:Nat,k<=256/\i=.int .i64 ((k:Int)-1)/\U0 wr w.heap.size a/\Below w.heap.size w wr/\Hid (a<2^k)) (fun i _=>(intOf i+1).toNat)
 case atStart=>exact⟨256,by omega,rfl,HW.out,ja,Ha⟩
 case round=>
  obtain⟨k,hk,rfl,hc,hb,hz⟩:=hrel
  by_cases hk0:k=0
  ·subst hk0
   have h0:a=0:=by
    have:=hz.out;rw[Nat.pow_zero] at this;omega
   have H0:=jh h0;have HB:=jh hb;clear h0 hc hb
   go_wp2
   go_ret
   exact⟨by rw[H0.out];rfl,HB.out⟩
  ·obtain⟨i,rfl⟩:∃i,k=i+1:=⟨k-1,by omega⟩;have ei:((i+1:Nat):Int)-1=(i:Int):=by omega
   rw[ei];clear ei;obtain⟨c0,c1,c2,c3⟩:=jF hc;have HC:=jh hc;have HB:=jh hb;clear hc hb hk0;have hbn:=bitN_test a i (by omega);have hbq:Qu a i=a/2^i%2:=by unfold Qu;rw[if_neg (by omega),Int.toNat_natCast]
   by_cases hd:Qu a i=1
   ·have hB:=fun w=>HBit.out i w (by omega) (by omega)
    rw[hd] at hB;have HB1:=jh hB;have HT:=jh (is_top hz.out (by omega));clear hB hbn hbq hd HBit
    go_wp2_with fail
    refine(HB1.out _).mono ?_;rintro _ w1 ⟨rfl,hb1⟩;have HB2:=jw HB hb1;clear hb1
    go_wp2
    go_ret
    exact⟨congrArg (fun z=>Ending.returned (.int .i64 z)) (by have:=HT.out;omega),HB2.out⟩
   ·have hd0:Qu a i=0:=by rw[hbn] at hd⊢;split at hd<;>simp_all
    have hB:=fun w=>HBit.out i w (by omega) (by omega)
    rw[hd0] at hB;have HB1:=jh hB;have HT:=jh (no_top hz.out (by omega));clear hB hbn hbq hd hd0 HBit
    go_wp2_with fail
    refine(HB1.out _).mono ?_;rintro _ w1 ⟨rfl,hb1⟩;have HB2:=jw HB hb1;have HC2:=jn hb1 HC;clear hb1
    go_wp2
    go_roundw
    case rel=>exact⟨i,by omega,by go_num,HC2.out,HB2.out,HT⟩
    case measure=>simp[intOf]
theorem ZU{a b:Nat}(ha:a<jk)(hb:b<jk)(w:World):
  Calls prog 192 #[ji a,ji b] w fun e w'=>e=.returned (.int .i64 (zk a b))/\Below w.heap.size w w':=by
 have XT:=jh QF;have Ha:=jh ha;have Hb:=jh hb;have HW:=jh (fun(w:World) (o:Obj)=>U0.new (w.alloc o) b (w.heap.size+1) 24 (by simp));have wC:=jh (Jb a);have YA:=jh (JJ 16 (jg 65536 a));obtain⟨cs,hcs1⟩:=je (QP 16 (jg 65536 a));have EN:=jh (fun w t=>QD w t (jg 65536 a) cs hcs1);have SI:Hid (cs.length=16):=jh (by rw[hcs1,qT]);have fA:Hid (16=cs.toArray.size):=jh (by rw[List.size_toArray,SI.out]);unfold XO at wC;rw[<-hcs1] at wC YA;clear hcs1;have vC:=jh (Jb b);have D9:=jh (JJ 16 (jg 65536 b));obtain⟨ds,hcs2⟩:=je (QP 16 (jg 65536 b));have DN:=jh (fun w t=>QD w t (jg 65536 b) ds hcs2);have HL2:Hid (ds.length=16):=jh (by rw[hcs2,qT]);have HS2:Hid (16=ds.toArray.size):=jh (by rw[List.size_toArray,HL2.out]);unfold XO at vC;rw[<-hcs2] at vC D9;clear hcs2;clear ha hb;unfold ji words at wC vC⊢
 go_enter func192,ntmps192
 go_wp2_with fail
 refine(wC.out _).mono ?_;rintro _ w1 ⟨rfl,hb1⟩;have HB1:=jh ((((Below.refl w.heap.size w).alloc (Nat.le_refl _) _).alloc (by simp) _).trans (hb1.mono (by simp;omega)));have SA:=jh (U0.later hb1 (HW.out _ _));clear hb1 HW
 go_wp2_with (
   refine wpList_store_mid rfl 301 _ _ rfl w1.heap.size 0 cs.toArray rfl rfl (XT.out w1 _ _ _ fA.out) (by rw[List.size_toArray,SI.out];kernel_rfl) (all_oneCell_toArray YA.out) ?_;obtain⟨w2,e9,u9,f9,b9⟩:=EN.out w1 301;rw[<-e9];have HX:=jh u9;have HB2:=jw HB1 b9;have WC:=jn b9 SA;have hn1:w1.heap.size<w2.heap.size:=World.block_lt_of_cell? (a:=⟨w1.heap.size,0,none⟩) _ (u9 0 (by omega));obtain⟨q0,q1,q2,q3⟩:=jF WC.out
   clear e9 u9 f9 b9)
 refine(vC.out _).mono ?_;rintro _ w3 ⟨rfl,hb3⟩;have HB3:=jw HB2 hb3;have AX:=jh (HX.out.later hb3 hn1);have hn3:=hb3.size;clear hb3 q0 q1 q2 q3 HB1 SA HB2 WC HX EN fA YA SI
 go_wp2_with (
   refine wpList_store_mid rfl 301 _ _ rfl w3.heap.size 0 ds.toArray rfl rfl (XT.out w3 _ _ _ HS2.out) (by rw[List.size_toArray,HL2.out];kernel_rfl) (all_oneCell_toArray D9.out) ?_;obtain⟨w4,e9,u9,f9,b9⟩:=DN.out w3 301;rw[<-e9];have HY:=jh u9;have HB4:=jw HB3 b9;have HX4:=jh (AX.out.later b9 (by omega))
   clear e9 u9 f9 b9)
 clear HB3 AX DN HS2 D9 HL2 XT
 go_loopw [7] (fun i wr=>∃k n:Nat,k<=16/\i=.int .i64 ((k:Int)-1)/\wr=w4.drewN n/\Hid (∀j,k<=j->j<16->jg 65536 a j=jg 65536 b j)) (fun i _=>(intOf i+1).toNat)
 case atStart=>exact⟨16,0,by omega,rfl,rfl,jh fun j h1 h2=>by omega⟩
 case round=>
  obtain⟨k,n,hk,rfl,rfl,hz⟩:=hrel
  by_cases hk0:k=0
  ·subst hk0;have h0:a=b:=digits_eq Ha.out Hb.out fun j hj=>hz.out j (by omega) hj
   have hv:zk a b=0:=by unfold zk;rw[if_neg (by omega),if_pos h0]
   have HV:=jh hv;clear h0 hv
   go_wp2
   go_ret
   exact⟨by rw[HV.out];rfl,⟨HB4.out.os,HB4.out.tape,HB4.out.output,HB4.out.size,HB4.out.block⟩⟩
  ·obtain⟨i,rfl⟩:∃i,k=i+1:=⟨k-1,by omega⟩;have ei:((i+1:Nat):Int)-1=(i:Int):=by omega
   rw[ei];clear ei;have xk:∀n,(w4.drewN n).cell? ⟨w1.heap.size,i,none⟩=some (.int .u64 (jg 65536 a i)):=fun n=>HX4.out i (by omega)
   have yk:∀n,(w4.drewN n).cell? ⟨w3.heap.size,i,none⟩=some (.int .u64 (jg 65536 b i)):=fun n=>HY.out i (by omega)
   have hi16:i<16:=by omega
   have hz':=jh (fun j (h1:i<j) (h2:j<16)=>hz.out j h1 h2);clear hk0;obtain⟨x,hx⟩:∃x,jg 65536 a i=x:=⟨_,rfl⟩;obtain⟨y,hy⟩:∃y,jg 65536 b i=y:=⟨_,rfl⟩;have Hx:=jh hx;have Hy:=jh hy;rw[hx] at xk;rw[hy] at yk;clear hx hy
   rcases Nat.lt_trichotomy x y with h|h|h
   ·have HV:Hid (zk a b= -1):=jh (by
     have:=gQ Ha.out Hb.out hi16 hz'.out (by rw[Hx.out,Hy.out];exact h);unfold zk
     rw[if_pos this])
    have h1:decide (x<y)=true:=by simpa using h
    clear h
    go_wp2
    go_quiet (fail)
    go_wp2
    go_ret
    exact⟨by rw[HV.out];rfl,⟨HB4.out.os,HB4.out.tape,HB4.out.output,HB4.out.size,HB4.out.block⟩⟩
   ·subst h
    iterate 2
     go_wp2
     go_quiet (fail)
    go_wp2
    go_roundw
    case rel=>exact⟨i,_,by omega,by go_num,rfl,jh fun j h1 h2=>by
      by_cases hj:j=i
      ·subst hj;rw[Hx.out,Hy.out]
      ·exact hz'.out j (by omega) h2⟩
    case measure=>simp[intOf]
   ·have HV:Hid (zk a b=1):=jh (by
     have:=gQ Hb.out Ha.out hi16 (fun j h1 h2=>(hz'.out j h1 h2).symm) (by rw[Hx.out,Hy.out];exact h);unfold zk
     rw[if_neg (by omega),if_neg (by omega)])
    have h1:decide (x<y)=false:=by simp;omega
    have h2:decide (y<x)=true:=by simpa using h
    clear h
    go_wp2
    go_quiet (fail)
    go_wp2
    go_quiet (fail)
    go_wp2
    go_ret
    exact⟨by rw[HV.out];rfl,⟨HB4.out.os,HB4.out.tape,HB4.out.output,HB4.out.size,HB4.out.block⟩⟩
theorem aT(x j:Nat):jg 65536 x j<=65535:=by have:=ZO x j;omega
theorem mP(w:World)(b:Nat)(o0:Obj)(t1 t2:TypeId):∀W,W=(((w.alloc o0).alloc (.cells #[.int .u64 (jg jf b 0),.int .u64 (jg jf b 1),.int .u64 (jg jf b 2),.int .u64 (jg jf b 3)] t1)).alloc (.cells #[.int .u64 0,.int .u64 0,.int .u64 0,.int .u64 0] t2))->
  ∀w1,Below W.heap.size W w1->Below w.heap.size w w1/\U0 w1 (w.heap.size+1) b/\I8 w1 (w.heap.size+1+1) 4 (fun _=>0)/\Y0 w1 (w.heap.size+1+1) 4/\w.heap.size+1+1<w1.heap.size:=by
 intro W hW w1 hb;have hs:=hb.size;subst hW;refine⟨((((Below.refl w.heap.size w).alloc (Nat.le_refl _) _).alloc (by simp) _).alloc (by simp;omega) _).trans (hb.mono (by simp;omega)),U0.later hb ((U0.new _ _ _ _ (by simp)).alloc _),(I8.zero4 _ _ _ (by simp)).later hb (by simp),(Y0.made _ _ _ _ _ (by simp)).later hb (by simp),?_⟩
 simp at hs
 omega
theorem iU{a b:Nat}(ha:a<jk)(hb:b<jk)(w:World):
  Calls prog 244 #[ji a,ji b] w fun e w'=>e=.returned (.tuple #[ji (zG a b),.int .u64 (zt a b)])/\Below w.heap.size w w':=by
 have XT:=jh QF;have HLaw:=jh (tZ ha hb);have wC:=jh (Jb a);have YA:=jh (JJ 16 (jg 65536 a));obtain⟨cs,hcs1⟩:=je (QP 16 (jg 65536 a));have EN:=jh (fun w t=>QD w t (jg 65536 a) cs hcs1);have SI:Hid (cs.length=16):=jh (by rw[hcs1,qT]);have fA:Hid (16=cs.toArray.size):=jh (by rw[List.size_toArray,SI.out]);unfold XO at wC;rw[<-hcs1] at wC YA;clear hcs1;have vC:=jh (Jb b);have D9:=jh (JJ 16 (jg 65536 b));obtain⟨ds,hcs2⟩:=je (QP 16 (jg 65536 b));have DN:=jh (fun w t=>QD w t (jg 65536 b) ds hcs2);have HL2:Hid (ds.length=16):=jh (by rw[hcs2,qT]);have HS2:Hid (16=ds.toArray.size):=jh (by rw[List.size_toArray,HL2.out]);unfold XO at vC;rw[<-hcs2] at vC D9;clear hcs2;have HS0:=jh (mP w b);clear ha hb;unfold ji words at wC vC⊢
 go_enter func244,ntmps244
 go_wp2_with fail
 refine(wC.out _).mono ?_;rintro _ w1 ⟨rfl,hb1⟩;obtain⟨h1,h2,h3,h4,h5⟩:=HS0.out _ _ _ _ rfl w1 hb1;have HB1:=jh h1;have SA:=jh h2;have HR1:=jh h3;have HF1:=jh h4;clear hb1 h1 h2 h3 h4 HS0
 go_wp2_with (
   refine wpList_store_mid rfl 301 _ _ rfl w1.heap.size 0 cs.toArray rfl rfl (XT.out w1 _ _ _ fA.out) (by rw[List.size_toArray,SI.out];kernel_rfl) (all_oneCell_toArray YA.out) ?_;obtain⟨w2,e9,u9,f9,b9⟩:=EN.out w1 301;rw[<-e9];have HX:=jh u9;have VZ:=jh f9;have HB2:=jw HB1 b9;have HR2:=jh (HR1.out.later b9 h5);have HF2:=jh (HF1.out.later b9 h5);have hn1:w1.heap.size<w2.heap.size:=World.block_lt_of_cell? (a:=⟨w1.heap.size,0,none⟩) _ (u9 0 (by omega));obtain⟨q0,q1,q2,q3⟩:=jF (U0.later b9 SA.out)
   clear e9 u9 f9 b9)
 refine(vC.out _).mono ?_;rintro _ w3 ⟨rfl,hb3⟩;have HB3:=jw HB2 hb3;have AX:=jh (HX.out.later hb3 hn1);have HFX3:=jh (VZ.out.later hb3 hn1);have HR3:=jh (HR2.out.later hb3 (by omega));have HF3:=jh (HF2.out.later hb3 (by omega));have hn3:=hb3.size;clear hb3 q0 q1 q2 q3 HB1 SA HB2 HX VZ HR1 HF1 HR2 HF2 EN fA YA SI
 go_wp2_with (
   refine wpList_store_mid rfl 301 _ _ rfl w3.heap.size 0 ds.toArray rfl rfl (XT.out w3 _ _ _ HS2.out) (by rw[List.size_toArray,HL2.out];kernel_rfl) (all_oneCell_toArray D9.out) ?_;obtain⟨w4,e9,u9,f9,b9⟩:=DN.out w3 301;rw[<-e9];have HY:=jh u9;have HB4:=jw HB3 b9;have HX4:=jh (AX.out.later b9 (by omega));have HFX4:=jh (HFX3.out.later b9 (by omega));have HR4:=jh (HR3.out.later b9 (by omega));have HF4:=jh (HF3.out.later b9 (by omega));have hn4:w3.heap.size<w4.heap.size:=World.block_lt_of_cell? (a:=⟨w3.heap.size,0,none⟩) _ (u9 0 (by omega))
   clear e9 u9 f9 b9)
 clear HB3 AX HFX3 HR3 HF3 DN HS2 D9 HL2 XT wC vC;have hw1:w.heap.size<=w1.heap.size:=by omega
 go_loopw [8,9] (fun m i wr=>∃k:Nat,k<=16/\i=.int .i64 k/\m=.int .u64 (lN (jg 65536 a) (jg 65536 b) k)/\I8 wr w1.heap.size 16 (fun j=>if j<k then sumD (jg 65536 a) (jg 65536 b) j else jg 65536 a j)/\Y0 wr w1.heap.size 16/\I8 wr w3.heap.size 16 (jg 65536 b)/\
  I8 wr (w.heap.size+1+1) 4 (fun _=>0)/\Y0 wr (w.heap.size+1+1) 4/\Below w.heap.size w wr/\w4.heap.size<=wr.heap.size) (fun _ i _=>16-(intOf i).toNat)
 case atStart=>exact⟨0,by omega,rfl,rfl,HX4.out.congr (fun j _=>rfl),HFX4.out,HY.out,HR4.out,HF4.out,HB4.out,Nat.le_refl _⟩
 case round=>
  obtain⟨k,hk,rfl,rfl,hx,hfx,hy,hr,hf,hbl,hsz⟩:=hrel;have HX:=jh hx;have VZ:=jh hfx;have HYY:=jh hy;have HR:=jh hr;have HF:=jh hf;have HB:=jh hbl
  by_cases hlt:k<16
  ·have xk:=hx k hlt;simp only[Nat.lt_irrefl,if_false] at xk;have yk:=hy k hlt;have fk:=hfx k hlt;have lx:=aT a k;have ly:=aT b k;have lc:=carD_le (ZO a) (ZO b) k;have HS:=jh (show sumD (jg 65536 a) (jg 65536 b) k=addS (jg 65536 a k) (jg 65536 b k) (lN (jg 65536 a) (jg 65536 b) k) from rfl);have HC:=jh (show lN (jg 65536 a) (jg 65536 b) (k+1)=addK (jg 65536 a k) (jg 65536 b k) (lN (jg 65536 a) (jg 65536 b) k) from rfl);obtain⟨x,ex⟩:=je (jg 65536 a k);obtain⟨y,ey⟩:=je (jg 65536 b k);obtain⟨c,ec⟩:=je (lN (jg 65536 a) (jg 65536 b) k);rw[<-ex,<-ey,<-ec] at HS HC;rw[<-ex] at xk lx;rw[<-ey] at yk ly;rw[<-ec] at lc⊢;clear ex ey ec hx hfx hy hr hf hbl
   go_wp2
   go_region
   go_wp2
   go_roundw
   case rel=>
    refine⟨k+1,by omega,by go_num,congrArg (Value.int .u64) (by rw[HC.out];unfold addK;simp),(HX.out.setI k _ (sumD (jg 65536 a) (jg 65536 b) k) (by rw[HS.out];unfold addS;simp)).congr fun j hj=>?_,VZ.out.set _ _,HYY.out.other _ _ (by omega),HR.out.other _ _ (by omega),HF.out.set _ _,(HB.out.setCell (by simp;omega) _).drew,by simpa using hsz⟩
    by_cases h:j=k
    ·subst h;simp
    ·by_cases h':j<k
     ·simp[h,h',show j<k+1 by omega]
     ·simp[h,h',show¬j<k+1 by omega]
   case measure=>simp[intOf];omega
  ·obtain rfl:k=16:=by omega
   have hx':I8 wr w1.heap.size 16 (sumD (jg 65536 a) (jg 65536 b)):=hx.congr fun j hj=>if_pos hj
   have r0:=hr 0 (by omega);have f0:=hf 0 (by omega);have HO:=jh (dR (d:=sumD (jg 65536 a) (jg 65536 b)) (fun j _=>Nat.mod_lt _ (by omega)) w1.heap.size 0 16 wr (by omega) (fun j hj=>by rw[Nat.zero_add];exact hx' j hj) (Nat.le_refl _));rw[HLaw.out.1] at HO;have hrs:w.heap.size+1+1<wr.heap.size:=by omega
   have HV:=jh HLaw.out.2;clear hx hfx hy hr hf hbl hx' r0 f0 HX VZ HYY;unfold ji words at HO
   go_wp2_with fail
   refine HO.out.mono ?_;rintro _ w5 ⟨rfl,hb5⟩;have dO:=jw HB hb5;have hr5:=HR.out.later hb5 hrs;have hf5:=HF.out.later hb5 hrs;have r0:=hr5 0 (by omega);have r1:=hr5 1 (by omega);have r2:=hr5 2 (by omega);have r3:=hr5 3 (by omega);have f0:=hf5 0 (by omega);have f1:=hf5 1 (by omega);have f2:=hf5 2 (by omega);have f3:=hf5 3 (by omega);clear hb5 hr5 hf5 HR HF HB
   go_wp2
   refine bodyPost_ret (v:=.tuple #[ji (zG a b),.int .u64 (zt a b)]) (by simp[results,results244,go_sem,ji,words,r0,r1,r2,r3,HV.out]) rfl ⟨rfl,?_⟩;exact(((dO.out.setCell (by simp;omega) _).setCell (by simp;omega) _).setCell (by simp;omega) _).setCell (by simp;omega) _
theorem yT{a b:Nat}(ha:a<jk)(hb:b<jk)(w:World):
  Calls prog 243 #[ji a,ji b] w fun e w'=>e=.returned (.tuple #[ji (Jk a b),.int .u64 (zq a b)])/\Below w.heap.size w w':=by
 have XT:=jh QF;have HLaw:=jh (VX ha hb);have wC:=jh (Jb a);have YA:=jh (JJ 16 (jg 65536 a));obtain⟨cs,hcs1⟩:=je (QP 16 (jg 65536 a));have EN:=jh (fun w t=>QD w t (jg 65536 a) cs hcs1);have SI:Hid (cs.length=16):=jh (by rw[hcs1,qT]);have fA:Hid (16=cs.toArray.size):=jh (by rw[List.size_toArray,SI.out]);unfold XO at wC;rw[<-hcs1] at wC YA;clear hcs1;have vC:=jh (Jb b);have D9:=jh (JJ 16 (jg 65536 b));obtain⟨ds,hcs2⟩:=je (QP 16 (jg 65536 b));have DN:=jh (fun w t=>QD w t (jg 65536 b) ds hcs2);have HL2:Hid (ds.length=16):=jh (by rw[hcs2,qT]);have HS2:Hid (16=ds.toArray.size):=jh (by rw[List.size_toArray,HL2.out]);unfold XO at vC;rw[<-hcs2] at vC D9;clear hcs2;have HS0:=jh (mP w b);clear ha hb;unfold ji words at wC vC⊢
 go_enter func243,ntmps243
 go_wp2_with fail
 refine(wC.out _).mono ?_;rintro _ w1 ⟨rfl,hb1⟩;obtain⟨h1,h2,h3,h4,h5⟩:=HS0.out _ _ _ _ rfl w1 hb1;have HB1:=jh h1;have SA:=jh h2;have HR1:=jh h3;have HF1:=jh h4;clear hb1 h1 h2 h3 h4 HS0
 go_wp2_with (
   refine wpList_store_mid rfl 301 _ _ rfl w1.heap.size 0 cs.toArray rfl rfl (XT.out w1 _ _ _ fA.out) (by rw[List.size_toArray,SI.out];kernel_rfl) (all_oneCell_toArray YA.out) ?_;obtain⟨w2,e9,u9,f9,b9⟩:=EN.out w1 301;rw[<-e9];have HX:=jh u9;have VZ:=jh f9;have HB2:=jw HB1 b9;have HR2:=jh (HR1.out.later b9 h5);have HF2:=jh (HF1.out.later b9 h5);have hn1:w1.heap.size<w2.heap.size:=World.block_lt_of_cell? (a:=⟨w1.heap.size,0,none⟩) _ (u9 0 (by omega));obtain⟨q0,q1,q2,q3⟩:=jF (U0.later b9 SA.out)
   clear e9 u9 f9 b9)
 refine(vC.out _).mono ?_;rintro _ w3 ⟨rfl,hb3⟩;have HB3:=jw HB2 hb3;have AX:=jh (HX.out.later hb3 hn1);have HFX3:=jh (VZ.out.later hb3 hn1);have HR3:=jh (HR2.out.later hb3 (by omega));have HF3:=jh (HF2.out.later hb3 (by omega));have hn3:=hb3.size;clear hb3 q0 q1 q2 q3 HB1 SA HB2 HX VZ HR1 HF1 HR2 HF2 EN fA YA SI
 go_wp2_with (
   refine wpList_store_mid rfl 301 _ _ rfl w3.heap.size 0 ds.toArray rfl rfl (XT.out w3 _ _ _ HS2.out) (by rw[List.size_toArray,HL2.out];kernel_rfl) (all_oneCell_toArray D9.out) ?_;obtain⟨w4,e9,u9,f9,b9⟩:=DN.out w3 301;rw[<-e9];have HY:=jh u9;have HB4:=jw HB3 b9;have HX4:=jh (AX.out.later b9 (by omega));have HFX4:=jh (HFX3.out.later b9 (by omega));have HR4:=jh (HR3.out.later b9 (by omega));have HF4:=jh (HF3.out.later b9 (by omega));have hn4:w3.heap.size<w4.heap.size:=World.block_lt_of_cell? (a:=⟨w3.heap.size,0,none⟩) _ (u9 0 (by omega))
   clear e9 u9 f9 b9)
 clear HB3 AX HFX3 HR3 HF3 DN HS2 D9 HL2 XT wC vC;have hw1:w.heap.size<=w1.heap.size:=by omega
 go_loopw [8,9] (fun m i wr=>∃k:Nat,k<=16/\i=.int .i64 k/\m=.int .u64 (oN (jg 65536 a) (jg 65536 b) k)/\I8 wr w1.heap.size 16 (fun j=>if j<k then difD (jg 65536 a) (jg 65536 b) j else jg 65536 a j)/\Y0 wr w1.heap.size 16/\I8 wr w3.heap.size 16 (jg 65536 b)/\
  I8 wr (w.heap.size+1+1) 4 (fun _=>0)/\Y0 wr (w.heap.size+1+1) 4/\Below w.heap.size w wr/\w4.heap.size<=wr.heap.size) (fun _ i _=>16-(intOf i).toNat)
 case atStart=>exact⟨0,by omega,rfl,rfl,HX4.out.congr (fun j _=>rfl),HFX4.out,HY.out,HR4.out,HF4.out,HB4.out,Nat.le_refl _⟩
 case round=>
  obtain⟨k,hk,rfl,rfl,hx,hfx,hy,hr,hf,hbl,hsz⟩:=hrel;have HX:=jh hx;have VZ:=jh hfx;have HYY:=jh hy;have HR:=jh hr;have HF:=jh hf;have HB:=jh hbl
  by_cases hlt:k<16
  ·have xk:=hx k hlt;simp only[Nat.lt_irrefl,if_false] at xk;have yk:=hy k hlt;have fk:=hfx k hlt;have lx:=aT a k;have ly:=aT b k;have lc:=lT (jg 65536 a) (jg 65536 b) k;have HS:=jh (show difD (jg 65536 a) (jg 65536 b) k=subS (jg 65536 a k) (jg 65536 b k) (oN (jg 65536 a) (jg 65536 b) k) from rfl);have HC:=jh (show oN (jg 65536 a) (jg 65536 b) (k+1)=subK (jg 65536 a k) (jg 65536 b k) (oN (jg 65536 a) (jg 65536 b) k) from rfl);obtain⟨x,ex⟩:=je (jg 65536 a k);obtain⟨y,ey⟩:=je (jg 65536 b k);obtain⟨c,ec⟩:=je (oN (jg 65536 a) (jg 65536 b) k);rw[<-ex,<-ey,<-ec] at HS HC;rw[<-ex] at xk lx;rw[<-ey] at yk ly;rw[<-ec] at lc⊢;clear ex ey ec hx hfx hy hr hf hbl
   go_wp2
   go_region
   go_wp2
   go_roundw
   case rel=>
    refine⟨k+1,by omega,by go_num,congrArg (Value.int .u64) (by rw[HC.out];unfold subK;omega),(HX.out.setI k _ (difD (jg 65536 a) (jg 65536 b) k) (by rw[HS.out];unfold subS;omega)).congr fun j hj=>?_,VZ.out.set _ _,HYY.out.other _ _ (by omega),HR.out.other _ _ (by omega),HF.out.set _ _,(HB.out.setCell (by simp;omega) _).drew,by simpa using hsz⟩
    by_cases h:j=k
    ·subst h;simp
    ·by_cases h':j<k
     ·simp[h,h',show j<k+1 by omega]
     ·simp[h,h',show¬j<k+1 by omega]
   case measure=>simp[intOf];omega
  ·obtain rfl:k=16:=by omega
   have hx':I8 wr w1.heap.size 16 (difD (jg 65536 a) (jg 65536 b)):=hx.congr fun j hj=>if_pos hj
   have r0:=hr 0 (by omega);have f0:=hf 0 (by omega);have HO:=jh (dR (d:=difD (jg 65536 a) (jg 65536 b)) (fun j _=>Nat.mod_lt _ (by omega)) w1.heap.size 0 16 wr (by omega) (fun j hj=>by rw[Nat.zero_add];exact hx' j hj) (Nat.le_refl _));rw[HLaw.out.1] at HO;have hrs:w.heap.size+1+1<wr.heap.size:=by omega
   have HV:=jh HLaw.out.2;clear hx hfx hy hr hf hbl hx' r0 f0 HX VZ HYY;unfold ji words at HO
   go_wp2_with fail
   refine HO.out.mono ?_;rintro _ w5 ⟨rfl,hb5⟩;have dO:=jw HB hb5;have hr5:=HR.out.later hb5 hrs;have hf5:=HF.out.later hb5 hrs;have r0:=hr5 0 (by omega);have r1:=hr5 1 (by omega);have r2:=hr5 2 (by omega);have r3:=hr5 3 (by omega);have f0:=hf5 0 (by omega);have f1:=hf5 1 (by omega);have f2:=hf5 2 (by omega);have f3:=hf5 3 (by omega);clear hb5 hr5 hf5 HR HF HB
   go_wp2
   refine bodyPost_ret (v:=.tuple #[ji (Jk a b),.int .u64 (zq a b)]) (by simp[results,results243,go_sem,ji,words,r0,r1,r2,r3,HV.out]) rfl ⟨rfl,?_⟩;exact(((dO.out.setCell (by simp;omega) _).setCell (by simp;omega) _).setCell (by simp;omega) _).setCell (by simp;omega) _
end Go.Proofs.YtpkalgofejjggaaGreatDoor
