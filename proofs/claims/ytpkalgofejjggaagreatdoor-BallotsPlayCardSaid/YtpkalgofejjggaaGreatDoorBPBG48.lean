/- Arguments that are casts, opened -/
import Derived.Test.YtpkalgofejjggaaGreatDoorBPBG28
import Derived.Test.YtpkalgofejjggaaGreatDoorBPBG47
set_option maxRecDepth 20000
namespace Go.Proofs.YtpkalgofejjggaaGreatDoor
open Go.ChangeShapes Go.WideShapes Go.ChangeAt Go.RowKit Go.Deep Go.Proofs.Tryz
theorem word_num{a b c d:Int}(ha:0<=a/\a<=18446744073709551615)(hb:0<=b/\b<=18446744073709551615)(hc:0<=c/\c<=18446744073709551615)(hd:0<=d/\d<=18446744073709551615):
  ∃x:Nat,x<jk/\a=((jg jf x 0:Nat):Int)/\b=((jg jf x 1:Nat):Int)/\c=((jg jf x 2:Nat):Int)/\d=((jg jf x 3:Nat):Int):=by
 obtain⟨a,rfl⟩:∃n:Nat,a=(n:Int):=⟨a.toNat,by omega⟩;obtain⟨b,rfl⟩:∃n:Nat,b=(n:Int):=⟨b.toNat,by omega⟩;obtain⟨c,rfl⟩:∃n:Nat,c=(n:Int):=⟨c.toNat,by omega⟩;obtain⟨d,rfl⟩:∃n:Nat,d=(n:Int):=⟨d.toNat,by omega⟩;refine⟨((d*jf+c)*jf+b)*jf+a,?_,?_,?_,?_,?_⟩
 ·unfold jk;unfold jf at*;omega
 all_goals(unfold jg jf at*;omega)
theorem oJ{α:Type}[Inhabited α]{n:Nat}{R:Nat->α->Prop}(h:∀i,i<n->∃x,R i x):∃l:List α,l.length=n/\∀i x,l[i]?=some x->R i x:=by
 induction n with
 |zero=>exact⟨[],rfl,fun i x hx=>by cases hx⟩
 |succ n ih=>
  obtain⟨l,h1,h2⟩:=ih fun i hi=>h i (by omega)
  obtain⟨x,hx⟩:=h n (by omega);refine⟨l++[x],by simp[h1],fun i y hy=>?_⟩
  rcases Nat.lt_or_ge i l.length with h9|h9
  ·rw[List.getElem?_append_left h9] at hy;exact h2 i y hy
  ·rw[List.getElem?_append_right h9] at hy
   have hi:i-l.length=0:=by
    have:=(List.getElem?_eq_some_iff.1 hy).1
    simp at this
    omega
   rw[hi] at hy
   cases hy
   rw[show i=n by omega];exact hx
theorem list5{cs:List Value}(h:cs.length=23):cs=(cs.drop 0).take 16++((cs.drop 16).take 4++((cs.drop 20).take 1++((cs.drop 21).take 1++(cs.drop 22).take 1))):=by
 have e:∀(l:List Value) (a b:Nat),l.drop a=(l.drop a).take b++l.drop (a+b):=fun l a b=>by
  conv=>lhs;rw[<-List.take_append_drop b (l.drop a),List.drop_drop]
 have h5:(cs.drop 22).take 1=cs.drop 22:=List.take_of_length_le (by simp;omega);rw[h5,<-e cs 21 1,<-e cs 20 1,<-e cs 16 4,<-e cs 0 16,List.drop_zero]
section
variable {H:Type}{enc:TypeId×Value->H}{w:World}
theorem FW:∃fs:Array Field,prog.underlying 29=some (.struct fs)/\fs.map (fun f=>(f.type,f.offset,prog.cellsOf f.type))=#[(26,0,16),(24,16,4),(3,20,1),(3,21,1),(27,22,1)]/\prog.cellsOf 29=23:=⟨_,underlying29,by kernel_rfl,by kernel_rfl⟩
theorem wV:Jf prog 20 26=some [.u64,.u64,.u64,.u64,.u64,.u64,.u64,.u64,.u64,.u64,.u64,.u64,.u64,.u64,.u64,.u64]:=by kernel_rfl
theorem kinds_num:Jf prog 20 24=some [.u64,.u64,.u64,.u64]:=by kernel_rfl
theorem KR:Jf prog 20 86=some [.u64,.u64,.u64,.u64,.u64,.u64,.u64,.u64]:=by kernel_rfl
theorem ints4{cs:List Value}(h:Ints [.u64,.u64,.u64,.u64] cs):∃x,x<jk/\cs=[.int .u64 (jg jf x 0),.int .u64 (jg jf x 1),.int .u64 (jg jf x 2),.int .u64 (jg jf x 3)]:=by
 obtain⟨a0,c0,rfl,w0,h⟩:=Ji h;obtain⟨a1,c1,rfl,w1,h⟩:=Ji h;obtain⟨a2,c2,rfl,w2,h⟩:=Ji h;obtain⟨a3,c3,rfl,w3,h⟩:=Ji h;obtain rfl:=DV h;obtain⟨x,hx,rfl,rfl,rfl,rfl⟩:=word_num (bounds_u64 w0) (bounds_u64 w1) (bounds_u64 w2) (bounds_u64 w3);exact⟨x,hx,rfl⟩
theorem ZM:∀(ks ls:List IntKind) {cs:List Value},Ints (ks++ls) cs->∃a b,cs=a++b/\Ints ks a/\Ints ls b
 |[],ls,cs,h=>⟨[],cs,rfl,trivial,h⟩
 |k::ks,ls,cs,h=>by
  obtain⟨n,r,rfl,hw,hr⟩:=Ji h;obtain⟨a,b,rfl,h1,h2⟩:=ZM ks ls hr;exact⟨_::a,b,rfl,⟨⟨n,rfl,hw⟩,h1⟩,h2⟩
theorem ints8{cs:List Value}(h:Ints [.u64,.u64,.u64,.u64,.u64,.u64,.u64,.u64] cs):∃x y,x<jk/\y<jk/\cs=[.int .u64 (jg jf x 0),.int .u64 (jg jf x 1),.int .u64 (jg jf x 2),.int .u64 (jg jf x 3),.int .u64 (jg jf y 0),.int .u64 (jg jf y 1),.int .u64 (jg jf y 2),.int .u64 (jg jf y 3)]:=by
 obtain⟨a,b,rfl,h1,h2⟩:=ZM [.u64,.u64,.u64,.u64] [.u64,.u64,.u64,.u64] h;obtain⟨x,hx,rfl⟩:=ints4 h1;obtain⟨y,hy,rfl⟩:=ints4 h2;exact⟨x,y,hx,hy,rfl⟩
theorem MR{fuel:Nat}{cs:List Value}{x:DataW H×List MemPlace}(h:DataW.trod enc prog w 0 (fun _=>true) true fuel 27 cs=some x):
  ∃(ao:Option Addr) (n cap:Nat) (sk:List (Nat×Nat)),cs=[.slice ao n cap]/\n=sk.length/\n<=cap/\cap<=maxLen/\(∀k∈sk,k.1<jk/\k.2<jk)/\(0<n->∃b o,ao=some ⟨b,o,none⟩/\Y4 w b o sk):=by
 rcases Deep.open_slice underlying27 h with⟨rfl,_⟩|⟨a,len,cap,m,n,D,Pl,rfl,_,hl,hm,hmm,rfl,hi⟩
 ·exact⟨none,0,0,[],rfl,rfl,Nat.le_refl _,Nat.zero_le _,(fun k hk=>by cases hk),(fun h=>absurd h (Nat.lt_irrefl _))⟩
 ·have hm':m=cap:=by rw[hmm];rfl
  have h8:prog.cellsOf 86=8:=by kernel_rfl
  have hel:∀i,i<len->∃k:Nat×Nat,(k.1<jk/\k.2<jk)/\∀j v,[.int .u64 (jg jf k.1 0),.int .u64 (jg jf k.1 1),.int .u64 (jg jf k.1 2),.int .u64 (jg jf k.1 3),.int .u64 (jg jf k.2 0),.int .u64 (jg jf k.2 1),.int .u64 (jg jf k.2 2),.int .u64 (jg jf k.2 3)][j]?=some v->w.cell? (a.add (i*8+j))=some v:=by
   intro i hil;obtain⟨cs,hcells,htr⟩:=hi i (by omega);rw[h8] at hcells;obtain⟨_,hcl,hat⟩:=World.cells?_some hcells;obtain⟨x,y,hx,hy,rfl⟩:=ints8 (JD 20 KR htr);refine⟨(x,y),⟨hx,hy⟩,fun j v hj=>?_⟩;have hj8:j<8:=by simpa using(List.getElem?_eq_some_iff.1 hj).1
   have h9:=hat j hj8;rw[hj] at h9;rw[<-Go.Deep.add_add];exact h9
  obtain⟨sk,hsl,hsk⟩:=oJ hel;refine⟨some a,len,cap,sk,rfl,hsl.symm,hl,hm,fun k hk=>?_,fun h0=>?_⟩
  ·obtain⟨i,hi'⟩:=List.mem_iff_getElem?.1 hk;exact(hsk i k hi').1
  ·obtain⟨k0,hk0⟩:∃k0,sk[0]?=some k0:=⟨_,Jd (by omega)⟩
   have hs:a.spot=Option.none:=OG (v:=.int .u64 (jg jf k0.1 0)) (by
    have:=(hsk 0 k0 hk0).2 0 _ rfl
    simpa[Addr.add] using this)
   obtain⟨ab,ao,asp⟩:=a;obtain rfl:asp=Option.none:=hs;refine⟨ab,ao,rfl,fun i k hik=>⟨fun j hj=>?_,fun j hj=>?_⟩⟩
   ·have h9:=(hsk i k hik).2 j (.int .u64 (jg jf k.1 j)) (by rcases(show j=0∨j=1∨j=2∨j=3 by omega) with rfl|rfl|rfl|rfl<;>rfl);rw[Addr.add_lit,<-Nat.add_assoc] at h9;exact h9
   ·have h9:=(hsk i k hik).2 (4+j) (.int .u64 (jg jf k.2 j)) (by rcases(show j=0∨j=1∨j=2∨j=3 by omega) with rfl|rfl|rfl|rfl<;>rfl);rw[Addr.add_lit,<-Nat.add_assoc] at h9;exact h9
theorem kT{fuel:Nat}{cs:List Value}{x:DataW H×List MemPlace}(h:DataW.trod enc prog w 0 (fun _=>true) true fuel 29 cs=some x):
  ∃(gp gq gg gh lg:Nat) (fa se:Int) (ao:Option Addr) (n cap:Nat) (sk:List (Nat×Nat)),cs=[.int .u64 (jg jf gp 0),.int .u64 (jg jf gp 1),.int .u64 (jg jf gp 2),.int .u64 (jg jf gp 3),.int .u64 (jg jf gq 0),.int .u64 (jg jf gq 1),.int .u64 (jg jf gq 2),.int .u64 (jg jf gq 3),.int .u64 (jg jf gg 0),.int .u64 (jg jf gg 1),.int .u64 (jg jf gg 2),.int .u64 (jg jf gg 3),.int .u64 (jg jf gh 0),.int .u64 (jg jf gh 1),.int .u64 (jg jf gh 2),.int .u64 (jg jf gh 3),.int .u64 (jg jf lg 0),.int .u64 (jg jf lg 1),.int .u64 (jg jf lg 2),.int .u64 (jg jf lg 3),.int .i64 fa,.int .i64 se,.slice ao n cap]/\gp<jk/\gq<jk/\gg<jk/\gh<jk/\lg<jk/\(-9223372036854775808<=fa/\fa<=9223372036854775807)/\(-9223372036854775808<=se/\se<=9223372036854775807)/\
   n=sk.length/\n<=cap/\cap<=maxLen/\(∀k∈sk,k.1<jk/\k.2<jk)/\(0<n->∃b o,ao=some ⟨b,o,none⟩/\Y4 w b o sk):=by
 obtain⟨fs,hu,hts,h23⟩:=FW;obtain⟨ys,n',_,hy,hlen,hyl,hf⟩:=DataW.trod_struct hu h;rw[h23] at hlen;have hs5:fs.size=5:=by simpa using congrArg Array.size hts
 have hty:∀(j:Nat) (t:TypeId×Nat×Nat),[(26,0,16),(24,16,4),(3,20,1),(3,21,1),(27,22,1)][j]?=some t->∃y,DataW.trod enc prog w 0 (fun _=>true) true n' t.1 ((cs.drop t.2.1).take t.2.2)=some y:=by
  intro j t hj;have h1:=congrArg (fun x:Array (TypeId×Nat×Nat)=>x[j]?) hts;simp only[Array.getElem?_map,List.getElem?_toArray] at h1;rw[hj] at h1;obtain⟨f,hfj,hft⟩:=Option.map_eq_some_iff.1 h1;have h2:=hf j f hfj;have hjl:j<ys.length:=by have:=(J6.1 hfj).1;omega
  rw[List.getElem?_eq_getElem hjl] at h2
  cases hft
  exact⟨_,h2⟩
 obtain⟨y0,t0⟩:=hty 0 _ rfl;obtain⟨y1,t1⟩:=hty 1 _ rfl;obtain⟨y2,t2⟩:=hty 2 _ rfl;obtain⟨y3,t3⟩:=hty 3 _ rfl;obtain⟨y4,t4⟩:=hty 4 _ rfl;have l5:=list5 hlen;simp only at t0 t1 t2 t3 t4;obtain⟨q0,q1,e0,i0,i1⟩:=ZM [.u64,.u64,.u64,.u64,.u64,.u64,.u64,.u64] [.u64,.u64,.u64,.u64,.u64,.u64,.u64,.u64] (JD 20 wV t0);obtain⟨gp,gq,IB,hgq,rfl⟩:=ints8 i0;obtain⟨gg,gh,hgg,hgh,rfl⟩:=ints8 i1;obtain⟨lg,aK,e1⟩:=ints4 (JD 20 kinds_num t1);obtain⟨fa,e2,_,b2⟩:=DataW.trod_int underlying3 t2;obtain⟨se,e3,_,b3⟩:=DataW.trod_int underlying3 t3;obtain⟨ao,n,cap,sk,e4,hn,hc,hm,hsk,hk⟩:=MR t4;rw[e0,e1,e2,e3,e4] at l5;exact⟨gp,gq,gg,gh,lg,fa,se,ao,n,cap,sk,l5,IB,hgq,hgg,hgh,aK,bounds_i64 b2,bounds_i64 b3,hn,hc,hm,hsk,hk⟩
theorem open_cast{r:Reach}{b0:Nat}{v:Value}{d:DataW H}{p:List MemPlace}(hv:Value.okWide prog w r b0 29 v)(h:DataW.Trod enc prog w 0 (fun _=>true) true 29 v d p):
  ∃(gp gq gg gh lg:Nat) (fa se:Int) (ao:Option Addr) (n cap:Nat) (sk:List (Nat×Nat)),v=Qo gp gq gg gh lg fa se (.slice ao n cap)/\gp<jk/\gq<jk/\gg<jk/\gh<jk/\lg<jk/\(-9223372036854775808<=fa/\fa<=9223372036854775807)/\(-9223372036854775808<=se/\se<=9223372036854775807)/\
   n=sk.length/\n<=cap/\cap<=maxLen/\(∀k∈sk,k.1<jk/\k.2<jk)/\(0<n->∃b o,ao=some ⟨b,o,none⟩/\Y4 w b o sk):=by
 have hcs:∃cs:Array Value,v=.agg cs:=by
  unfold Value.okWide at hv;rw[underlying29] at hv;obtain⟨cs,h,_⟩:=hv;exact⟨cs,h⟩
 obtain⟨cs,rfl⟩:=hcs;obtain⟨fuel,hf⟩:=h;obtain⟨gp,gq,gg,gh,lg,fa,se,ao,n,cap,sk,e,rest⟩:=kT hf;refine⟨gp,gq,gg,gh,lg,fa,se,ao,n,cap,sk,?_,rest⟩
 have e2:cs=([.int .u64 (jg jf gp 0),.int .u64 (jg jf gp 1),.int .u64 (jg jf gp 2),.int .u64 (jg jf gp 3),.int .u64 (jg jf gq 0),.int .u64 (jg jf gq 1),.int .u64 (jg jf gq 2),.int .u64 (jg jf gq 3),.int .u64 (jg jf gg 0),.int .u64 (jg jf gg 1),.int .u64 (jg jf gg 2),.int .u64 (jg jf gg 3),.int .u64 (jg jf gh 0),.int .u64 (jg jf gh 1),.int .u64 (jg jf gh 2),.int .u64 (jg jf gh 3),.int .u64 (jg jf lg 0),.int .u64 (jg jf lg 1),.int .u64 (jg jf lg 2),.int .u64 (jg jf lg 3),.int .i64 fa,.int .i64 se,.slice ao n cap]:List Value).toArray:=by
  have:=congrArg List.toArray e
  simpa[Value.cells] using this
 rw[e2]
 rfl
theorem oM:∀(n:Nat) {cs:List Value},Ints (List.replicate n .u8) cs->∃h:List Nat,h.length=n/\qk h/\cs=jo .u8 h
 |0,cs,hi=>⟨[],rfl,fun x hx=>(by cases hx),DV hi⟩
 |n+1,cs,hi=>by
  rw[List.replicate_succ] at hi;obtain⟨a,r,rfl,hw,hr⟩:=Ji hi;obtain⟨h,h1,h2,rfl⟩:=oM n hr;have hb:=bounds_u8 hw;obtain⟨x,rfl⟩:∃x:Nat,a=(x:Int):=⟨a.toNat,by omega⟩
  exact⟨x::h,by simp[h1],fun y hy=>by
   rcases List.mem_cons.1 hy with rfl|hy
   ·omega
   ·exact h2 y hy,rfl⟩
end
end Go.Proofs.YtpkalgofejjggaaGreatDoor
