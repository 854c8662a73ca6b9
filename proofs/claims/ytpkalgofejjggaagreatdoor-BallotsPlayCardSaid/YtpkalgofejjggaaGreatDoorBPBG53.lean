/- BallotsPlay -/
import Derived.Test.YtpkalgofejjggaaGreatDoorBPBG43
import Derived.Test.YtpkalgofejjggaaGreatDoorBPBG46
import Derived.Test.YtpkalgofejjggaaGreatDoorBPBG49
import Derived.Test.YtpkalgofejjggaaGreatDoorBPBG50
import Derived.Test.YtpkalgofejjggaaGreatDoorBPBG51
import Derived.Test.YtpkalgofejjggaaGreatDoorBPBG52
set_option linter.unusedSimpArgs false
set_option linter.unusedVariables false
set_option maxHeartbeats 4000000
set_option maxRecDepth 20000
namespace Go.Proofs.YtpkalgofejjggaaGreatDoor
open Go.ChangeShapes Go.WideShapes Go.ChangeAt Go.RowKit Go.Proofs.Tryz
def Vt.bv(z:Vt):Bal.Bv:=⟨z.k,z.v,z.n,z.h⟩
abbrev Vt.val(z:Vt):Value:=.agg z.cells.toArray
theorem kept_len9(l:List Bal.Bv):(Bal.kept l).length<=l.length:=by
 have key:∀R:List Bal.Bv,(Bal.kept R.reverse).length<=R.length:=by
  intro R
  induction R with
  |nil=>exact Nat.le_refl _
  |cons x R ih=>
   rw[List.reverse_cons,Bal.kept_snoc,List.length_cons];unfold Bal.bput
   split
   ·omega
   ·rw[List.length_append]
    simp
    omega
 have h9:=key l.reverse
 rwa [List.reverse_reverse,List.length_reverse] at h9
structure PC where
 (gp gq gg gh n c2 c9 bx nb no mb fb rb kb ko ep base bk:Nat)
 (fa se:Int)
 (ks:List (Nat×Nat))
 (l:List Vt)
 (v0 w0:World)
namespace PC
def ck(c:PC)(z:Vt):Bool:=Qd c.gp c.gq c.gg c.n c.ks z.k z.e z.v z.n z.h.l z.c z.s
def gd(c:PC)(z:Vt):Bool:=decide (z.e=c.ep)&&c.ck z
def fst(c:PC)(x:Bal.Bv):Option Vt:=c.l.find? fun z=>c.gd z&&decide (z.bv=x)
def C(c:PC)(x:Bal.Bv):Nat:=((c.fst x).map Vt.c).getD 0
def S(c:PC)(x:Bal.Bv):Nat:=((c.fst x).map Vt.s).getD 0
def E(c:PC)(i:Nat):List Bal.Bv:=Bal.kept (((c.l.take i).filter c.gd).map Vt.bv)
variable {c:PC}{i:Nat}{z:Vt}
theorem E_no(hz:c.l[i]?=some z) (hg:c.gd z=false):c.E (i+1)=c.E i:=by
 unfold E;rw[List.take_add_one,hz]
 simp[hg]
theorem E_yes(hz:c.l[i]?=some z) (hg:c.gd z=true):c.E (i+1)=Bal.bput (c.E i) z.bv:=by
 unfold E;rw[List.take_add_one,hz,<-Bal.kept_snoc]
 simp[hg]
theorem mem(x:Bal.Bv):x∈c.E i↔∃z∈c.l.take i,c.gd z=true/\z.bv=x:=by
 unfold E;rw[Bal.mem_kept,List.mem_map];simp only[List.mem_filter,and_assoc]
theorem len:(c.E i).length<=c.l.length:=by
 unfold E;refine Nat.le_trans (kept_len9 _) ?_;rw[List.length_map];exact Nat.le_trans (List.length_filter_le _ _) (List.length_take_le' _ _)
theorem sig(hz:c.l[i]?=some z) (hg:c.gd z=true) (hx:z.bv∉c.E i):z.c=c.C z.bv/\z.s=c.S z.bv:=by
 have h1:c.fst z.bv=some z:=by
  have hi:=(List.getElem?_eq_some_iff.1 hz).1;have hd:c.l.drop i=z::c.l.drop (i+1):=by rw[List.drop_eq_getElem_cons hi,(List.getElem?_eq_some_iff.1 hz).2]
  unfold fst;rw[<-List.take_append_drop i c.l,List.find?_append,hd,List.find?_eq_none.2,Option.none_or,List.find?_cons_of_pos]
  ·simp[hg]
  ·intro y hy h9;simp only[Bool.and_eq_true,decide_eq_true_eq] at h9;exact hx ((mem _).2 ⟨y,hy,h9.1,h9.2⟩)
 unfold C S;rw[h1];exact⟨rfl,rfl⟩
def res(c:PC)(i:Nat)(z:Vt):Bool×Int:=if c.gd z=true then if z.bv∈c.E i then(false,0) else(decide ((Bal.at_ (c.E i) z.k z.v z.n).length=0),if(Bal.at_ (c.E i) z.k z.v z.n).length=0 then 0 else 8) else(false,1)
def vo(c:PC)(i:Nat)(z:Vt):List Bal.Bv:=Bal.votesOf (c.E i) c.n z.k z.v z.h
def fu(c:PC)(i:Nat)(z:Vt):Bool:=decide (BF c.n c.fa<=((c.vo i z).length:Int))
def an(c:PC)(i:Nat)(z:Vt):Nat:=Bal.anyOf (c.E i) c.n z.k z.v
def far(c:PC)(i:Nat):Nat:=Bal.farRef (c.E i) c.n (c.fa.toNat+1)
structure Ok(c:PC):Prop where
 st:StOk c.gp c.gq c.gg c.gh c.n c.fa c.se c.ks
 pa:0<=c.fa/\c.fa<=2/\3*c.fa+1<=c.n
 lk:∀z∈c.l,z.ok
 ll:c.l.length<=60
 ne:c.rb≠c.bx/\c.rb≠c.nb/\c.rb≠c.mb/\c.rb≠c.fb/\c.mb≠c.kb/\c.fb≠c.kb/\c.rb≠c.kb
 lo:c.w0.heap.size<=c.mb/\c.w0.heap.size<=c.fb/\c.w0.heap.size<=c.rb/\c.w0.heap.size<=c.base
 bb:c.base<=c.bk
 bt:c.mb<c.base/\c.fb<c.base/\c.rb<c.base/\c.kb<c.base
abbrev Bx(c:PC)(w:World)(f:Value->Option Value)(E:List Bal.Bv):Prop:=J7 w c.bx c.gp c.gq c.gg c.gh c.n c.c2 c.nb c.no c.mb c.fb 0 c.n c.ep c.base c.fa c.se c.ks (qS c.ep c.C c.S) f E
abbrev Rx(c:PC)(w:World)(E:List Bal.Bv)(lv:Value):Prop:=A7 w c.rb c.gp c.gq c.gg c.gh c.n c.c9 c.kb c.ko c.ep c.base c.fa c.se c.ks (qS c.ep c.C c.S) E lv
abbrev Kb(c:PC)(w:World)(k:Nat)(S:Nat->Prop):Prop:=Bk 71 143 44 12 w c.bk c.bk k S
end PC
theorem PC.good{c:PC}{z:Vt}(hg:c.ck z=true):z.k<=2/\z.v<=1073741824/\1<=z.n/\z.n<=c.n:=by
 unfold PC.ck at hg;refine⟨?_,?_,?_,?_⟩<;>refine Decidable.byContradiction fun h=>?_
 ·rw[fE (by omega)] at hg;cases hg
 ·rw[YD (by omega)] at hg;cases hg
 ·rw[vG (by omega)] at hg;cases hg
 ·rw[iE (by omega)] at hg;cases hg
structure D7(c:PC)(A:Nat->Prop)(v1 w:World)(i1 i2 k:Nat):Prop where
 ex:∃f lv S,c.Bx w f (c.E i1)/\c.Rx w (c.E i2) lv/\c.Kb w k S/\(∀g,Zs f g->lv.ownBlock≠some g)/\(∀g,S g->¬Zs f g/\lv.ownBlock≠some g)/\∀g,A g->¬Zs f g/\lv.ownBlock≠some g/\¬S g
 fr:∀g,g<c.base->g≠c.mb->g≠c.fb->g≠c.rb->w.heap[g]?=c.v0.heap[g]?
 be:Below c.w0.heap.size c.w0 w
 fa:∀g,A g->c.base<=g/\g<w.heap.size/\w.heap[g]?=v1.heap[g]?
section
variable {c:PC}{A:Nat->Prop}{v1 w w':World}{i i1 i2 k:Nat}{z:Vt}
theorem D7.later(h:D7 c A v1 w i1 i2 k)(hb:Below w.heap.size w w'):D7 c A v1 w' i1 i2 k:=by
 obtain⟨⟨f,lv,S,a,b,d,e1,e2,e3⟩,fr,be,fa⟩:=h;exact⟨⟨f,lv,S,a.later hb,b.later hb,d.later hb,e1,e2,e3⟩,fun g h1 h2 h3 h4=>(hb.block g (jv h1 a.bs)).trans (fr g h1 h2 h3 h4),qe be hb,fun g hg=>⟨(fa g hg).1,jv (fa g hg).2.1 hb.size,(hb.block g (fa g hg).2.1).trans (fa g hg).2.2⟩⟩
theorem D7.aside(h:D7 c A v1 w i1 i2 k)(hb:Below w.heap.size w w'):D7 c (fun g=>w.heap.size<=g/\g<w'.heap.size) w' w' i1 i2 k:=by
 obtain⟨⟨f,lv,S,a,b,d,e1,e2,_⟩,fr,be,_⟩:=h;have bs:=a.bs;exact⟨⟨f,lv,S,a.later hb,b.later hb,d.later hb,e1,e2,fun g hg=>⟨fun h9=>by have:=(a.rows.lt h9).2;omega,fun h9=>by have:=(qr b.l h9).2;omega,fun h9=>by have:=(d.2 g h9).2;omega⟩⟩,fun g h1 h2 h3 h4=>(hb.block g (jv h1 a.bs)).trans (fr g h1 h2 h3 h4),qe be hb,fun g hg=>⟨by omega,hg.2,rfl⟩⟩
theorem D7.drop(h:D7 c A v1 w i1 i2 k):D7 c (fun _=>False) c.w0 w i1 i2 k:=by
 obtain⟨⟨f,lv,S,a,b,d,e1,e2,_⟩,fr,be,_⟩:=h;exact⟨⟨f,lv,S,a,b,d,e1,e2,fun _ hg=>hg.elim⟩,fr,be,fun _ hg=>hg.elim⟩
theorem PC.bnd(hc:c.Ok):∀x∈c.E i,x.n<256/\x.v<4294967296:=by
 intro x hx;obtain⟨y,hy,_,rfl⟩:=(PC.mem x).1 hx;have h9:=hc.lk y (List.mem_of_mem_take hy);exact⟨h9.2.2.2.1,h9.2.2.1⟩
theorem PC.len9(hc:c.Ok):(c.E i).length<=1000:=Nat.le_trans PC.len (Nat.le_trans hc.ll (by decide))
theorem PC.vo_len(hc:c.Ok):(c.vo i z).length<=10000:=by
 have h1:=XK (c.E i) z.k z.v z.h c.n;have h2:c.n*(c.E i).length<=7*1000:=Nat.mul_le_mul hc.st.hn7 (PC.len9 hc);have h3:c.vo i z=KD (c.E i) z.k z.v z.h c.n:=rfl;rw[h3];omega
theorem PC.check(hc:c.Ok)(hz:z.ok){KB ko cap:Nat}(W:World)(hk:Y4 W KB ko c.ks):
  Calls prog 20 #[zC c.gp c.gq c.gg c.gh c.fa c.se (.slice (some ⟨KB,ko,none⟩) c.n cap),z.val] W fun r W'=>r=.returned (.bool (c.ck z))/\Below W.heap.size W W':=
 uX hc.st z.h.hl z.h.hb hz.1 hz.2.1 hz.2.2.1 hz.2.2.2.1 hz.2.2.2.2.1 hz.2.2.2.2.2 W hk
theorem PC.rcheck(hc:c.Ok)(hz:z.ok){KB ko cap:Nat}(W:World)(hk:Y4 W KB ko c.ks):
  Calls prog 21 #[zC c.gp c.gq c.gg c.gh c.fa c.se (.slice (some ⟨KB,ko,none⟩) c.n cap),z.val] W fun r W'=>r=.returned (.bool (c.ck z))/\Below W.heap.size W W':=
 eX hc.st z.h.hl z.h.hb hz.1 hz.2.1 hz.2.2.1 hz.2.2.2.1 hz.2.2.2.2.1 hz.2.2.2.2.2 W hk
theorem D7.put(hc:c.Ok)(hz:c.l[i]?=some z) (h:D7 c A v1 w i i2 k):
  Calls prog 9 #[.pointer (some ⟨c.bx,0,none⟩),z.val] w fun r w'=>r=.returned (.tuple #[.bool (c.res i z).1,.int .i64 (c.res i z).2])/\D7 c A v1 w' (i+1) i2 k:=by
 have hzo:=hc.lk z (List.mem_of_getElem? hz)
 by_cases he:z.e=c.ep
 ·have hv:z.val=qU z.k c.ep z.v z.n z.h.l z.c z.s:=by unfold Vt.val Vt.cells qU;rw[he]
  have hck:=fun(W:World) (hk:Y4 W c.nb c.no c.ks)=>PC.check (cap:=c.c2) hc hzo W hk
  cases hg:c.ck z with
  |false=>
   have hgd:c.gd z=false:=by unfold PC.gd;rw[hg,Bool.and_false]
   obtain⟨f,lv,S,a,b,_⟩:=h.ex;have h9:=BPut_no (k:=z.k) (v:=z.v) (nd:=z.n) (c:=z.c) (s:=z.s) z.h.hl (fun W hk=>by have h8:=hck W hk;rw[hg,hv] at h8;exact h8) w a;rw[<-hv] at h9;refine h9.mono ?_;rintro r w' ⟨rfl,hb⟩;refine⟨by unfold PC.res;rw[hgd];rfl,?_⟩;obtain⟨⟨f,lv,S,a,b,d,e1,e2,e3⟩,fr,be,fa⟩:=h.later hb;exact⟨⟨f,lv,S,by rw[PC.E_no hz hgd];exact a,b,d,e1,e2,e3⟩,fr,be,fa⟩
  |true=>
   have hgd:c.gd z=true:=by unfold PC.gd;rw[hg,decide_eq_true he];rfl
   obtain⟨hk2,hv2,hn1,hn2⟩:=PC.good hg;have hval:∀C2 S2:Bal.Bv->Nat,C2 z.bv=z.c->S2 z.bv=z.s->z.val=.agg (qS c.ep C2 S2 z.bv).toArray:=fun C2 S2 h1 h2=>by unfold qS;rw[h1,h2,hv];rfl
   obtain⟨j,hj⟩:∃j,z.n=j+1:=⟨z.n-1,by omega⟩
   by_cases hx:z.bv∈c.E i
   ·obtain⟨f,lv,S,a,b,_⟩:=h.ex;have h9:=BPut_in (x:=z.bv) (C2:=fun _=>z.c) (S2:=fun _=>z.s) (i:=j) hj (by omega) hc.st.hn7 hzo.1 hzo.2.2.1 (PC.len9 hc) (fun W hk=>by have h8:=hck W hk;rw[hg,hval (fun _=>z.c) (fun _=>z.s) rfl rfl] at h8;exact h8) hx w a;rw[<-hval (fun _=>z.c) (fun _=>z.s) rfl rfl] at h9;refine h9.mono ?_;rintro r w' ⟨rfl,hb⟩;refine⟨by unfold PC.res;rw[if_pos hgd,if_pos hx],?_⟩;obtain⟨⟨f,lv,S,a,b,d,e1,e2,e3⟩,fr,be,fa⟩:=h.later hb;exact⟨⟨f,lv,S,by rw[PC.E_yes hz hgd,Bal.bput,if_pos hx];exact a,b,d,e1,e2,e3⟩,fr,be,fa⟩
   ·obtain⟨⟨f,lv,S,a,b,d,e1,e2,e3⟩,fr,be,fa⟩:=h;obtain⟨s1,s2⟩:=PC.sig hz hgd hx;have h9:=BPut_new (x:=z.bv) (i:=j) hj (by omega) hc.st.hn7 hzo.1 hzo.2.2.1 (PC.len9 hc) (fun W hk=>by have h8:=hck W hk;rw[hg,hval c.C c.S s1.symm s2.symm] at h8;exact h8) hx w a;rw[<-hval c.C c.S s1.symm s2.symm] at h9;refine h9.mono ?_;rintro r w' ⟨rfl,f',a',t,hr⟩;have bt:=hc.bt;have ne:=hc.ne;have lo:=hc.lo;have bb:=hc.bb;refine⟨by unfold PC.res;rw[if_pos hgd,if_neg hx];rfl,⟨f',lv,S,by rw[PC.E_yes hz hgd];exact a',b.other t ⟨bt.1,fun e=>ne.2.2.1 e.symm,ne.2.2.2.2.1⟩ ⟨bt.2.1,fun e=>ne.2.2.2.1 e.symm,ne.2.2.2.2.2.1⟩ (fun g hg=>(a.rows.lt hg).1) (fun g hg h9=>e1 g h9 hg),d.kept (fun g hg=>t.block g (d.2 g hg).2 (fun e=>by have:=(d.2 g hg).1;omega) (fun e=>by have:=(d.2 g hg).1;omega) (e2 g hg).1) t.size,fun g hg e=>?_,fun g hg=>⟨fun h9=>?_,(e2 g hg).2⟩,fun g hg=>⟨fun h9=>?_,(e3 g hg).2⟩⟩,fun g h1 h2 h3 h4=>(t.block g (jv h1 a.bs) h2 h3 (fun h9=>by have:=(a.rows.lt h9).1;omega)).trans (fr g h1 h2 h3 h4),be.trans (t.below lo.1 lo.2.1 (fun g hg=>Nat.le_trans lo.2.2.2 (a.rows.lt hg).1) be.size),fun g hg=>⟨(fa g hg).1,jv (fa g hg).2.1 t.size,(t.block g (fa g hg).2.1 (fun e=>by have:=(fa g hg).1;omega) (fun e=>by have:=(fa g hg).1;omega) (e3 g hg).1).trans (fa g hg).2.2⟩⟩
    ·rcases hr g hg with h9|h9
     ·exact e1 g h9 e
     ·have:=qr b.l e;omega
    ·rcases hr g h9 with h8|h8
     ·exact(e2 g hg).1 h8
     ·have:=(d.2 g hg).2;omega
    ·rcases hr g h9 with h8|h8
     ·exact(e3 g hg).1 h8
     ·have:=(fa g hg).2.1;omega
 ·have hgd:c.gd z=false:=by unfold PC.gd;rw[decide_eq_false he,Bool.false_and]
  obtain⟨f,lv,S,a,b,_⟩:=h.ex;refine(BPut_epoch (k:=z.k) (v:=z.v) (nd:=z.n) (c:=z.c) (s:=z.s) z.h.hl he w a).mono ?_;rintro r w' ⟨rfl,hb⟩;refine⟨by unfold PC.res;rw[hgd];rfl,?_⟩;obtain⟨⟨f,lv,S,a,b,d,e1,e2,e3⟩,fr,be,fa⟩:=h.later hb;exact⟨⟨f,lv,S,by rw[PC.E_no hz hgd];exact a,b,d,e1,e2,e3⟩,fr,be,fa⟩
theorem D7.rput(hc:c.Ok)(hz:c.l[i]?=some z) (h:D7 c A v1 w i1 i k):
  Calls prog 10 #[.pointer (some ⟨c.rb,0,none⟩),z.val] w fun r w'=>r=.returned (.tuple #[.bool (c.res i z).1,.int .i64 (c.res i z).2])/\D7 c A v1 w' i1 (i+1) k:=by
 have hzo:=hc.lk z (List.mem_of_getElem? hz)
 by_cases he:z.e=c.ep
 ·have hv:z.val=qU z.k c.ep z.v z.n z.h.l z.c z.s:=by unfold Vt.val Vt.cells qU;rw[he]
  have hck:=fun(W:World) (hk:Y4 W c.kb c.ko c.ks)=>PC.rcheck (cap:=c.c9) hc hzo W hk
  cases hg:c.ck z with
  |false=>
   have hgd:c.gd z=false:=by unfold PC.gd;rw[hg,Bool.and_false]
   obtain⟨f,lv,S,a,b,_⟩:=h.ex;have h9:=RBPut_no (k:=z.k) (v:=z.v) (nd:=z.n) (c:=z.c) (s:=z.s) z.h.hl (fun W hk=>by have h8:=hck W hk;rw[hg,hv] at h8;exact h8) w b;rw[<-hv] at h9;refine h9.mono ?_;rintro r w' ⟨rfl,hb⟩;refine⟨by unfold PC.res;rw[hgd];rfl,?_⟩;obtain⟨⟨f,lv,S,a,b,d,e1,e2,e3⟩,fr,be,fa⟩:=h.later hb;exact⟨⟨f,lv,S,a,by rw[PC.E_no hz hgd];exact b,d,e1,e2,e3⟩,fr,be,fa⟩
  |true=>
   have hgd:c.gd z=true:=by unfold PC.gd;rw[hg,decide_eq_true he];rfl
   obtain⟨⟨f,lv,S,a,b,d,e1,e2,e3⟩,fr,be,fa⟩:=h;have h9:=KZ (x:=z.bv) (c:=z.c) (s:=z.s) (PC.len9 hc) (fun W hk=>by have h8:=hck W hk;rw[hg,hv] at h8;exact h8) (fun hx=>PC.sig hz hgd hx) w b;rw[show qU z.bv.k c.ep z.bv.v z.bv.n (hsL z.bv.s) z.c z.s=z.val from hv.symm] at h9;refine h9.mono ?_;rintro r w' (⟨hx,rfl,hb⟩|⟨hx,rfl,lv',b',t,hr⟩)
   ·refine⟨by unfold PC.res;rw[if_pos hgd,if_pos hx],?_⟩;obtain⟨⟨f,lv,S,a,b,d,e1,e2,e3⟩,fr,be,fa⟩:=D7.later ⟨⟨f,lv,S,a,b,d,e1,e2,e3⟩,fr,be,fa⟩ hb;exact⟨⟨f,lv,S,a,by rw[PC.E_yes hz hgd,Bal.bput,if_pos hx];exact b,d,e1,e2,e3⟩,fr,be,fa⟩
   ·have bt:=hc.bt;have ne:=hc.ne;have lo:=hc.lo;have bb:=hc.bb;refine⟨by unfold PC.res;rw[if_pos hgd,if_neg hx];rfl,⟨f,lv',S,a.other t ⟨bt.2.2.1,ne.1,ne.2.1,ne.2.2.1,ne.2.2.2.1⟩ ⟨bt.2.2.1,ne.1,ne.2.1,ne.2.2.1,ne.2.2.2.1⟩ (fun g hg=>(qr b.l (bG.1 hg)).1) (fun g hg h9=>e1 g hg (bG.1 h9)),by rw[PC.E_yes hz hgd,Bal.bput,if_neg hx];exact b',d.kept (fun g hg=>t.block g (d.2 g hg).2 (fun e=>by have:=(d.2 g hg).1;omega) (fun e=>by have:=(d.2 g hg).1;omega) (fun h9=>(e2 g hg).2 (bG.1 h9))) t.size,fun g hg e=>?_,fun g hg=>⟨(e2 g hg).1,fun h9=>?_⟩,fun g hg=>⟨(e3 g hg).1,fun h9=>?_,(e3 g hg).2.2⟩⟩,fun g h1 h2 h3 h4=>(t.block g (jv h1 b.bs) h4 h4 (fun h9=>by have:=(qr b.l (bG.1 h9)).1;omega)).trans (fr g h1 h2 h3 h4),be.trans (t.below lo.2.2.1 lo.2.2.1 (fun g hg=>Nat.le_trans lo.2.2.2 (qr b.l (bG.1 hg)).1) be.size),fun g hg=>⟨(fa g hg).1,jv (fa g hg).2.1 t.size,(t.block g (fa g hg).2.1 (fun e=>by have:=(fa g hg).1;omega) (fun e=>by have:=(fa g hg).1;omega) (fun h9=>(e3 g hg).2.1 (bG.1 h9))).trans (fa g hg).2.2⟩⟩
    ·rcases hr g e with h9|h9
     ·exact e1 g hg h9
     ·have:=(a.rows.lt hg).2;omega
    ·rcases hr g h9 with h8|h8
     ·exact(e2 g hg).2 h8
     ·have:=(d.2 g hg).2;omega
    ·rcases hr g h9 with h8|h8
     ·exact(e3 g hg).2.1 h8
     ·have:=(fa g hg).2.1;omega
 ·have hgd:c.gd z=false:=by unfold PC.gd;rw[decide_eq_false he,Bool.false_and]
  obtain⟨f,lv,S,a,b,_⟩:=h.ex;refine(dX (k:=z.k) (v:=z.v) (nd:=z.n) (c:=z.c) (s:=z.s) z.h.hl he w b).mono ?_;rintro r w' ⟨rfl,hb⟩;refine⟨by unfold PC.res;rw[hgd];rfl,?_⟩;obtain⟨⟨f,lv,S,a,b,d,e1,e2,e3⟩,fr,be,fa⟩:=h.later hb;exact⟨⟨f,lv,S,a,by rw[PC.E_no hz hgd];exact b,d,e1,e2,e3⟩,fr,be,fa⟩
theorem D7.votes(hc:c.Ok)(hz:z.ok)(h:D7 c A v1 w i i2 k):
  Calls prog 11 #[.pointer (some ⟨c.bx,0,none⟩),.int .u8 z.k,.int .u32 z.v,.agg (jo .u8 z.h.l).toArray] w fun r w'=>∃u,r=.returned u/\O1 w' w.heap.size 71 44 u (c.vo i z).length ((c.vo i z).flatMap (qS c.ep c.C c.S))/\Below w.heap.size w w':=by
 obtain⟨f,lv,S,a,_⟩:=h.ex;exact TN (PC.len9 hc) hc.st.hn7 hz.1 hz.2.2.1 w a
theorem D7.rvotes(hc:c.Ok)(h:D7 c A v1 w i1 i k):
  Calls prog 13 #[.pointer (some ⟨c.rb,0,none⟩),.int .u8 z.k,.int .u32 z.v,.agg (jo .u8 z.h.l).toArray] w fun r w'=>∃u,r=.returned u/\O1 w' w.heap.size 71 44 u (c.vo i z).length ((c.vo i z).flatMap (qS c.ep c.C c.S))/\Below w.heap.size w w':=by
 obtain⟨f,lv,S,_,b,_⟩:=h.ex;exact rJ (PC.len9 hc) hc.st.hn7 (fun x hx=>(PC.bnd hc x hx).1) w b
theorem D7.full(hc:c.Ok)(hz:z.ok)(h:D7 c A v1 w i i2 k):
  Calls prog 14 #[.pointer (some ⟨c.bx,0,none⟩),.int .u8 z.k,.int .u32 z.v,.agg (jo .u8 z.h.l).toArray] w fun r w'=>r=.returned (.bool (c.fu i z))/\Below w.heap.size w w':=by
 obtain⟨f,lv,S,a,_⟩:=h.ex;exact BFull_any (PC.len9 hc) hc.st.hn7 hz.1 hz.2.2.1 w a
theorem D7.rfull(hc:c.Ok)(h:D7 c A v1 w i1 i k):
  Calls prog 15 #[.pointer (some ⟨c.rb,0,none⟩),.int .u8 z.k,.int .u32 z.v,.agg (jo .u8 z.h.l).toArray] w fun r w'=>r=.returned (.bool (c.fu i z))/\Below w.heap.size w w':=by
 obtain⟨f,lv,S,_,b,_⟩:=h.ex;have pa:=hc.pa;exact LZ (PC.len9 hc) ⟨by omega,hc.st.hn7⟩ ⟨pa.1,pa.2.1⟩ (fun x hx=>(PC.bnd hc x hx).1) w b
theorem D7.any(hc:c.Ok)(hz:z.ok)(h:D7 c A v1 w i i2 k):
  Calls prog 16 #[.pointer (some ⟨c.bx,0,none⟩),.int .u8 z.k,.int .u32 z.v] w fun r w'=>r=.returned (.int .i64 (c.an i z))/\Below w.heap.size w w':=by
 obtain⟨f,lv,S,a,_⟩:=h.ex;exact BAny_any (PC.len9 hc) hc.st.hn7 hz.1 hz.2.2.1 w a
theorem D7.rany(hc:c.Ok)(h:D7 c A v1 w i1 i k):
  Calls prog 17 #[.pointer (some ⟨c.rb,0,none⟩),.int .u8 z.k,.int .u32 z.v] w fun r w'=>r=.returned (.int .i64 (c.an i z))/\Below w.heap.size w w':=by
 obtain⟨f,lv,S,_,b,_⟩:=h.ex;refine(RAny_any hc.st.hn7 (PC.len9 hc) (fun x hx=>(PC.bnd hc x hx).1) w b).mono ?_;rintro r w' ⟨rfl,rfl⟩;exact⟨rfl,U3⟩
theorem D7.bfar(hc:c.Ok)(h:D7 c A v1 w i i2 k):
  Calls prog 18 #[.pointer (some ⟨c.bx,0,none⟩)] w fun r w'=>r=.returned (.int .u32 (c.far i))/\Below w.heap.size w w':=by
 obtain⟨f,lv,S,a,_⟩:=h.ex;have pa:=hc.pa;refine(BFar_any hc.st.hn7 pa.1 pa.2.1 (by omega) (fun x hx=>(PC.bnd hc x hx).2) w a).mono ?_;rintro r w' ⟨y,rfl,⟨D,d1,d2,d3⟩, -,hb⟩;have e:(c.fa+1).toNat=c.fa.toNat+1:=by omega
 rw[e] at d3;have h9:=Bal.far_ref d1 d2 (by omega) (by omega) d3;refine⟨?_,hb⟩;rw[<-h9]
 rfl
theorem D7.rfar(hc:c.Ok)(h:D7 c A v1 w i1 i k):
  Calls prog 19 #[.pointer (some ⟨c.rb,0,none⟩)] w fun r w'=>r=.returned (.int .u32 (c.far i))/\Below w.heap.size w w':=by
 obtain⟨f,lv,S,_,b,_⟩:=h.ex;have pa:=hc.pa;refine(RFar_any hc.st.hn7 (PC.len9 hc) (fun x hx=>(PC.bnd hc x hx).1) (fun x hx=>(PC.bnd hc x hx).2) (f:=c.fa.toNat) (by omega) (by omega) w b).mono ?_;rintro r w' ⟨rfl,rfl⟩;exact⟨rfl,U3⟩
theorem D7.chk{SV:Array Value}(hc:c.Ok)(hz:z.ok)(hs:zC c.gp c.gq c.gg c.gh c.fa c.se (.slice (some ⟨c.kb,c.ko,none⟩) c.n c.c9)=.agg SV)(h:D7 c A v1 w i1 i2 k):
  Calls prog 20 #[.agg SV,z.val] w fun r w'=>r=.returned (.bool (c.ck z))/\Below w.heap.size w w':=by
 obtain⟨f,lv,S,_,b,_⟩:=h.ex;rw[<-hs];exact PC.check hc hz w b.keys
theorem D7.rchk{SV:Array Value}(hc:c.Ok)(hz:z.ok)(hs:zC c.gp c.gq c.gg c.gh c.fa c.se (.slice (some ⟨c.kb,c.ko,none⟩) c.n c.c9)=.agg SV)(h:D7 c A v1 w i1 i2 k):
  Calls prog 21 #[.agg SV,z.val] w fun r w'=>r=.returned (.bool (c.ck z))/\Below w.heap.size w w':=by
 obtain⟨f,lv,S,_,b,_⟩:=h.ex;rw[<-hs];exact PC.rcheck hc hz w b.keys
theorem D7.start{vv:Bal.Bv->List Value}{b9:Nat}(a:J7 c.v0 c.bx c.gp c.gq c.gg c.gh c.n c.c2 c.nb c.no c.mb c.fb 0 c.n c.ep b9 c.fa c.se c.ks vv (fun _=>none) [])(b:A7 c.v0 c.rb c.gp c.gq c.gg c.gh c.n c.c9 c.kb c.ko c.ep c.v0.heap.size c.fa c.se c.ks vv [] (.slice none 0 0))(hb:c.base=c.v0.heap.size)(hk:c.bk=c.v0.heap.size)(hw:Below c.w0.heap.size c.w0 c.v0):
  D7 c (fun _=>False) c.w0 (c.v0.alloc (.cells bkZ 63)) 0 0 0:=by
 have a1:c.Bx c.v0 (fun _=>none) []:=by
  have h:=a.rebase
  show J7 c.v0 c.bx c.gp c.gq c.gg c.gh c.n c.c2 c.nb c.no c.mb c.fb 0 c.n c.ep c.base c.fa c.se c.ks (qS c.ep c.C c.S) (fun _=>none) []
  rw[hb];exact⟨h.set,h.epo,h.mp,h.fr,h.keys,h.map,BD _ _ _ _ _,h.far,h.lt,h.ne,h.bs⟩
 have b1:c.Rx c.v0 [] (.slice none 0 0):=by
  show A7 c.v0 c.rb c.gp c.gq c.gg c.gh c.n c.c9 c.kb c.ko c.ep c.base c.fa c.se c.ks (qS c.ep c.C c.S) [] (.slice none 0 0)
  rw[hb];exact⟨b.set,b.epo,b.lc,b.l,b.free,b.keys,b.lt,b.bs⟩
 have k1:c.Kb (c.v0.alloc (.cells bkZ 63)) 0 (fun g=>g=c.bk):=by
  have h:=Bk.new c.v0 63 71 143 44 12;rw[<-hk] at h;exact h
 have L6:Below c.v0.heap.size c.v0 (c.v0.alloc (.cells bkZ 63)):=ja;exact⟨⟨_,_,_,a1.later L6,b1.later L6,k1,fun g hg=>absurd hg (wP g),fun g _=>⟨wP g,fun e=>by cases e⟩,fun _ hg=>hg.elim⟩,fun g h1 _ _ _=>L6.block g (by omega),qe hw L6,fun _ hg=>hg.elim⟩
end
section
variable {c:PC}{A:Nat->Prop}{v1 w w':World}{i i1 i2 k:Nat}{z:Vt}
theorem D7.keep{w1:World}(hc:c.Ok)(hk:k<1000)(h1:D7 c A v1 w1 i1 i2 k)(hb:Below w1.heap.size w1 w){v:Value}{n:Nat}{xs:List Value}(hv:O1 w w1.heap.size 71 44 v n xs)(hn:n<=10000):
  Calls prog 22 #[.pointer (some ⟨c.bk,0,none⟩),v] w fun r w'=>r=.returned (.tuple #[])/\D7 c A v1 w' i1 i2 (k+1):=by
 obtain⟨⟨f,lv,S,a,b,d,e1,e2,e3⟩,fr,be,fa⟩:=h1;have hs:=hb.size;have a':=a.later hb;have b':=b.later hb;have d':=d.later hb
 have hbk:c.bk<=w1.heap.size:=by
  obtain⟨⟨F,L,N,X,k1,k2⟩,k3⟩:=d;exact Nat.le_of_lt (k3 c.bk (k2 c.bk (.inl rfl))).2
 have low:∀g,S g->c.bk<=g/\g<w1.heap.size:=d.2;have own:=fun g (hg:v.ownBlock=some g)=>qr hv hg
 have bb:=hc.bb;have bs:=a.bs;have bt:=hc.bt;refine(d'.Votes (by omega) (hv.base hbk) (by omega) (fun g hg hS=>by have:=own g hg;have:=low g hS;omega)).mono ?_;rintro r w' ⟨rfl,d2,ch⟩;have kp:∀g,g<w.heap.size->¬S g->w'.heap[g]?=w.heap[g]?:=ch.block;have lo:∀g,g<c.base->w'.heap[g]?=w.heap[g]?:=fun g hg=>kp g (by omega) (fun h9=>by have:=low g h9;omega)
 have la:=a.lt;have lb:=b.lt;have hrow:∀g,Zs f g->g<w1.heap.size:=fun g hg=>(a.rows.lt hg).2
 have hlv:∀g,lv.ownBlock=some g->g<w1.heap.size:=fun g hg=>(qr b.l hg).2
 refine⟨rfl,⟨f,lv,_,a'.blocks (lo _ la.1) (lo _ la.2.1) (lo _ la.2.2.1) (lo _ la.2.2.2) (fun g hg=>kp g (jv (hrow g hg) hs) fun h9=>(e2 g h9).1 hg) (Nat.le_trans a'.bs ch.size),b'.blocks (lo _ lb.1) (lo _ lb.2.1) (fun g hg=>kp g (jv (hlv g hg) hs) fun h9=>(e2 g h9).2 hg) (Nat.le_trans b'.bs ch.size),d2,e1,fun g hg=>?_,fun g hg=>⟨(e3 g hg).1,(e3 g hg).2.1,fun h9=>?_⟩⟩,fun g h1 h2 h3 h4=>(lo g h1).trans ((hb.block g (jv h1 bs)).trans (fr g h1 h2 h3 h4)),(qe be hb).trans (ch.below (fun g hg=>Nat.le_trans (Nat.le_trans hc.lo.2.2.2 bb) (low g hg).1) (qe be hb).size),fun g hg=>⟨(fa g hg).1,by have:=(fa g hg).2.1;have:=ch.size;omega,(kp g (jv (fa g hg).2.1 hs) (e3 g hg).2.2).trans ((hb.block g (fa g hg).2.1).trans (fa g hg).2.2)⟩⟩
 ·rcases hg with hg|hg|hg
  ·exact e2 g hg
  ·have h9:=(own g hg).1;exact⟨fun h8=>by have:=hrow g h8;omega,fun h8=>by have:=hlv g h8;omega⟩
  ·exact⟨fun h8=>by have:=hrow g h8;omega,fun h8=>by have:=hlv g h8;omega⟩
 ·have h8:=(fa g hg).2.1
  rcases h9 with h9|h9|h9
  ·exact(e3 g hg).2.2 h9
  ·have:=(own g h9).1;omega
  ·omega
theorem D7.apart(hc:c.Ok)(hk:k<1000)(h:D7 c A v1 w i1 i2 k):
  Calls prog 23 #[.pointer (some ⟨c.bk,0,none⟩)] w fun r w'=>r=.returned (.bool true)/\Below c.w0.heap.size c.w0 w':=by
 obtain⟨⟨f,lv,S,a,b,d,e1,e2,e3⟩,fr,be,fa⟩:=h;refine(d.apartVote (by omega)).mono ?_;rintro r w' ⟨rfl,_,ch⟩;exact⟨rfl,be.trans (ch.below (fun g hg=>Nat.le_trans (Nat.le_trans hc.lo.2.2.2 hc.bb) (d.2 g hg).1) be.size)⟩
end
theorem great_yes(al:Option Addr)(m lc:Nat)(h:60<m)(w:World):Calls prog 5 #[.slice al m lc] w fun r w'=>r=.returned (.bool true)/\w'=w:=by
 have hI:(60:Int)<(m:Int):=by omega
 go_enter func5,ntmps5
 go_wp2_with fail
 go_ret
 exact⟨rfl,rfl⟩
theorem great_no(al:Option Addr)(m lc:Nat)(h:¬60<m)(w:World):Calls prog 5 #[.slice al m lc] w fun r w'=>r=.returned (.bool false)/\w'=w:=by
 have hI:¬(60:Int)<(m:Int):=by omega
 go_enter func5,ntmps5
 go_wp2_with fail
 go_ret
 exact⟨rfl,rfl⟩
theorem ballotsPlay_walk{gp gq gg gh lg n cap m lc ep:Nat}{fa se:Int}{ao al:Option Addr}{sk:List (Nat×Nat)}{l:List Vt}(IB:gp<jk)(hgq:gq<jk)(hgg:gg<jk)(aK:lg<jk)(hfa: -9223372036854775808<=fa/\fa<=9223372036854775807)(hse: -9223372036854775808<=se/\se<=9223372036854775807)(hsk:∀k∈sk,k.1<jk/\k.2<jk)(hn:n=sk.length)(hcap:n<=cap)(hcm:cap<=maxLen)(hml:m=l.length)(hmc:m<=lc)(hlm:lc<=maxLen)(hch:∀z∈l,z.ok)(w:World)(hk:0<n->∃b o,ao=some ⟨b,o,none⟩/\Y4 w b o sk)(hc:0<m->∃lb lo,al=some ⟨lb,lo,none⟩/\VtsAt w lb lo l):
  Calls prog 3 #[Qo gp gq gg gh lg fa se (.slice ao n cap),.int .u64 ep,.slice al m lc] w fun e w'=>e=.returned (.bool true)/\Below w.heap.size w w':=by
 have CW:=jh (fun(W:World) (hb:Below w.heap.size w W)=>by have h9:=GY (gh:=gh) IB hgq hgg aK hfa hse hsk hn hcap hcm W (fun h0=>by obtain⟨b,o,h1,h2⟩:=hk h0;exact⟨b,o,h1,h2.later hb⟩);exact h9);have HGP:=jh IB;have GX:=jh hgg;have HGQ:=jh hgq;have HFA:=jh hfa;have HSE:=jh hse;have HN:=jh hn;have HK:=jh hk;have HC:=jh hc;have HML:=jh hml;have HCH:=jh hch;have HLM:=jh (And.intro hmc hlm);have hcx:cap<=9223372036854775807:=by unfold maxLen at hcm;omega
 have hnx:n<=9223372036854775807:=by omega
 have hmx:m<=9223372036854775807:=by unfold maxLen at hlm;omega
 clear IB hgq hgg aK hfa hse hsk hn hcap hcm hml hmc hlm hch hk hc;obtain⟨ZV,hZV⟩:∃ZV,Qo gp gq gg gh lg fa se (.slice ao n cap)=.agg ZV:=⟨_,rfl⟩;have hszZ:(prog.info? 29).map (·.size)=some ZV.size:=by rw[info_c9];have e9:=hZV;unfold Qo at e9;injection e9 with e9;rw[<-e9];rfl
 have I7:=jh hszZ;have HZV:=jh hZV;rw[hZV] at CW⊢;clear hZV
 go_enter func3,ntmps3
 go_upto_region 1 with fail
 obtain⟨v_1,e1⟩:=je (w.alloc (.cells ZV 29));obtain⟨CB,dS⟩:=je (w.heap.size);have HB:=jh (show Below w.heap.size w v_1 by rw[e1];exact ja);have HZ:=jh (show v_1.heap[CB]?=some (.cells ZV 29 (0,0)) by rw[e1,dS];exact jQ);rw[<-e1,<-dS];clear e1 dS hszZ;refine wp_region_lit ?_;refine jL _ ?_ (jd (qO HZ.out underlying29 rfl I7.out))
 go_wp2_with fail
 refine(CW.out _ HB.out).mono ?_;rintro _ U8 ⟨p,q,g,h2,f9,s9,a9,n9,c9,ok,rfl,hok,hb⟩;have HZ:=jb hb HZ;have HB:=jw HB hb;clear hb;have dI:=jh hok;clear hok;obtain⟨SV,OC⟩:∃SV,zC p q g h2 f9 s9 (.slice a9 n9 c9)=.agg SV:=⟨_,rfl⟩;rw[OC];dsimp only
 go_step
 refine jL (.tuple #[.agg SV,.bool ok]) ?_;refine jL (.agg SV) ?_;refine jL (.bool ok) ?_;have NY:(prog.info? 33).map (·.size)=some SV.size:=by rw[RD,KE OC]
 have h1S:=setV_one (by rfl) OC;refine qq (v:=.pointer (some ⟨U8.heap.size,0,none⟩)) (w':=U8.alloc (.cells J5 33)) rfl (by kernel_rfl) ?_;simp only[Act.put,pa,pb,pc];refine jW rfl _ _ _ rfl J5 SV rfl rfl NY (by rw[KE OC];rfl) h1S ?_;simp only[Act.put,pa,pb,pc]
 go_upto_region 2 with fail
 obtain⟨fC,SB,e9,h9,hb⟩:=qJ U8 (.cells SV 33);have hrS:fC.heap[SB]?=some (.cells SV 33 (0,0)):=by rw[e9,h9];exact jQ
 have hS:TA fC SB p q g h2 f9 s9 (.slice a9 n9 c9):=by have e8:=OC;unfold zC at e8;injection e8 with e8;rw[e9,h9,<-e8];exact TA.new _ _ _ _ _ _ _ _ _
 rw[<-e9,<-h9];have WSB:=jh (show w.heap.size<=SB/\SB<fC.heap.size by rw[h9,e9];exact⟨HB.out.size,by simp⟩);clear e9 h9;have HZ:=jb hb HZ;have HB:=jw HB hb;have HB23:=jh hb;have HS:=jh hS;have HSR:=jh hrS;have lX:=jh OC;have HSZS:=jh NY;clear hb hS hrS OC NY h1S
 cases ok
 ·go_wp2_with (first|(go_at_call 6;refine(LD _).mono ?_;rintro _ wl ⟨rfl,hbl⟩;have HB:=jw HB hbl;clear hbl))
  go_ret
  exact⟨rfl,HB.out⟩
 obtain⟨e1,e2,e3,e4,e5,e6,e7,hset⟩:=dI.out rfl;clear dI;subst e1 e2 e3 e5 e6 e7;subst e4;have HSET:=jh hset;clear hset
 by_cases hml40:60<m
 ·have GR:=jh (fun W:World=>great_yes al m lc hml40 W)
  go_wp2_with (first|(go_at_call 5;refine(GR.out _).mono ?_;rintro _ wg ⟨rfl,hwg⟩;subst hwg)|(go_at_call 6;refine(LD _).mono ?_;rintro _ wl ⟨rfl,hbl⟩;have HB:=jw HB hbl;clear hbl))
  go_ret
  exact⟨rfl,HB.out⟩
 have GR:=jh (fun W:World=>great_no al m lc hml40 W);have hstk:=stOk_of HSET.out HGP.out HGQ.out GX.out HFA.out HSE.out HN.out;obtain⟨hpa, -, -⟩:=oP HSET.out.ok;have hn0:0<n9:=by omega
 obtain⟨kb,ko,rfl,hks⟩:=HK.out hn0;obtain⟨nb0,no0,rfl,hnk⟩:=HSET.out.nodes hn0;have STK:=jh hstk;have HPA:=jh hpa;have FX:=jh hn0;have H60:=jh (show m<=60 by omega);have hm60:(m:Int)<=60:=by omega
 have BA:=jh (show Y4 fC nb0 no0 (VP p g (g^lg%p) sk) from hnk.later HB23.out);clear hnk HB23 hks hstk hpa hn0 hml40;have CN:=jh (fun(W:World) (hk9:Y4 W nb0 no0 (VP p g (g^lg%p) sk))=>by have h9:=BNew_any (cap:=c9) (ep:=ep) (fun _=>[]) STK.out FX.out W hk9;rewrite[lX.out] at h9;exact h9);have CM:=jh (fun(W:World) (hk9:Y4 W nb0 no0 (VP p g (g^lg%p) sk))=>by have h9:=RBNew_any (cap:=c9) (ep:=ep) (fun _=>[]) STK.out FX.out W hk9;rewrite[lX.out] at h9;exact h9);have LT3:=jh (show w.heap.size<=fC.heap.size/\nb0<fC.heap.size from⟨HB.out.size,zs BA.out FX.out STK.out.hn⟩)
 go_upto_region 4 with(first|(go_at_call 5;refine(GR.out _).mono ?_;rintro _ wg ⟨rfl,hwg⟩;subst hwg))
 refine wp_region_lit ?_;refine jL _ ?_ (jd (qO HSR.out underlying33 rfl HSZS.out))
 go_upto_region 5 with(first|(go_at_call 7;refine(CN.out _ BA.out).mono ?_;rintro _ iO ⟨bx,nb,no,c2,mb,fb,rfl,hbx,hge,hb⟩))
 have HSR:=jb hb HSR;have BA:=jh (BA.out.later hb);have HB:=jw HB hb;have pX:=jh hbx;have NA:=jh (And.intro hge hbx.lt);have NE:=jh hbx.ne;clear hb hbx hge;refine wp_region_lit ?_;refine jL _ ?_ (jd (qO HSR.out underlying33 rfl HSZS.out))
 go_upto_region 8 with(first|(go_at_call 8;refine(CM.out _ BA.out).mono ?_;rintro _ v_5 ⟨rb,rfl,hrx,hge,hb⟩))
 have HSR:=jb hb HSR;have BA:=jh (BA.out.later hb);have HB:=jw HB hb;have pX:=jh (pX.out.later hb);have HRX:=jh hrx;have NB:=jh (show iO.heap.size<=rb/\rb<v_5.heap.size/\iO.heap.size<=v_5.heap.size from⟨hge,hrx.lt.1,hb.size⟩);clear hb hrx hge;obtain⟨c,hcd⟩:∃c:PC,c=⟨p,q,g,g^lg%p,n9,c2,c9,bx,nb,no,mb,fb,rb,nb0,no0,ep,v_5.heap.size,v_5.heap.size,f9,s9,VP p g (g^lg%p) sk,l,v_5,w⟩:=⟨_,rfl⟩
 have hok:c.Ok:=by
  have h1:=LT3.out;have h2:=NA.out;have h3:=NB.out;have h4:=NE.out;have h5:=HML.out;have h6:=H60.out;rw[hcd];exact⟨STK.out,HPA.out,HCH.out,by show l.length<=60;omega,by dsimp only;omega,by dsimp only;omega,Nat.le_refl _,by dsimp only;omega⟩
 have hpl:=D7.start (c:=c) (vv:=fun _=>[]) (b9:=iO.heap.size) (by rw[hcd];exact pX.out) (by rw[hcd];exact HRX.out) (by rw[hcd]) (by rw[hcd]) (by rw[hcd];exact HB.out);have hsv:zC c.gp c.gq c.gg c.gh c.fa c.se (.slice (some ⟨c.kb,c.ko,none⟩) c.n c.c9)=.agg SV:=by rw[hcd];exact lX.out
 have ebx:bx=c.bx:=by rw[hcd]
 have erb:rb=c.rb:=by rw[hcd]
 have ebk:v_5.heap.size=c.bk:=by rw[hcd]
 have ev5:c.v0=v_5:=by rw[hcd]
 have ew0:c.w0=w:=by rw[hcd]
 have ecl:c.l=l:=by rw[hcd]
 have hse:∀(A:Nat->Prop) (v1 W:World) (i1 i2 k:Nat),D7 c A v1 W i1 i2 k->W.heap[SB]?=some (.cells SV 33 (0,0)):=fun A v1 W i1 i2 k h=>by
  have h1:=LT3.out;have h2:=NA.out;have h3:=NB.out;have h9:=WSB.out;refine(h.fr SB ?_ ?_ ?_ ?_).trans (by rw[ev5];exact HSR.out)<;>rw[hcd]<;>dsimp only<;>omega
 rw[ev5] at hpl;have dI:=jh hok;have HSE:=jh hse;have HPL:=jh hpl;have HSVC:=jh hsv;have EW0:=jh ew0;have ECL:=jh ecl;clear hok hse hpl hsv ev5 ew0 ecl pX HRX NA NB NE LT3 CN CM GR BA HSR HZ HB WSB;rw[ebx,erb];clear ebx erb hcd
 go_upto_region 9 with fail
 (try rw[ebk]);clear ebk
 go_wp2_with fail
 go_loopw [14] (fun i wr=>∃j:Nat,j<=m/\i=.int .i64 j/\Hid (D7 c (fun _=>False) c.w0 wr j j j)) (fun i _=>m-(intOf i).toNat)
 case atStart=>exact⟨0,Nat.zero_le _,rfl,HPL⟩
 case round=>
  clear HPL;obtain⟨j,hj,rfl,HP⟩:=hrel
  by_cases hlt:j<m
  ·have O6:(j:Int)<(m:Int):=by omega
   have hjI:(0:Int)<=(j:Int):=by omega
   obtain⟨lb,lo,rfl,hva⟩:=HC.out (by omega);obtain⟨z,hz⟩:∃z,l[j]?=some z:=⟨_,Jd (by have:=HML.out;omega)⟩;have hzo:=HCH.out z (List.mem_of_getElem? hz);have hzc:c.l[j]?=some z:=by rw[ECL.out];exact hz
   have hbw:Below w.heap.size w wr:=by have h9:=HP.out.be;rw[EW0.out] at h9;exact h9
   have LV:=jh (NP (ju (hva j z hz) hbw) z.len);obtain⟨VL,hVL⟩:=je (z.cells.toArray);have hVs:VL.size=44:=by rw[hVL,List.size_toArray];exact z.len
   have hV1:(VL.all fun x=>x.oneCell')=true:=by rw[hVL];exact all_oneCell_toArray (yE _ _ _ _ _ _ _)
   have N9:(prog.info? 71).map (·.size)=some VL.size:=by rw[qg,hVs]
   obtain⟨T,hT⟩:=je ((jo .u8 z.h.l).toArray);have HT:=jh hT;have DX:=jh hVL;rw[<-hVL] at LV;have HZC:=jh hzc;have HZO:=jh hzo;have G7:=jh hlt;have HSZV:=jh N9;have HVS:=jh hVs;have HV1:=jh hV1;clear hva hz hzo hzc hbw hlt N9 hVs hV1 hT hVL
   go_upto_region 12 with fail
   refine wp_region_lit ?_;refine jL (.slice (some ⟨lb,lo,none⟩) m lc) ?_;refine jL (.int .i64 j) ?_;refine jL (jP lb (lo+j*44)) ?_ (by simp[go_sem,O6,hjI]);refine jL _ ?_ (jd LV.out);refine qq (v:=.pointer (some ⟨wr.heap.size,0,none⟩)) (w':=wr.alloc (.cells JY 71)) rfl (by kernel_rfl) ?_;simp only[Act.put,pa,pb,pc];refine jW rfl _ _ _ rfl JY VL rfl rfl HSZV.out (by simp[HVS.out,JY]) HV1.out ?_;simp only[Act.put,pa,pb,pc]
   go_upto_region 13 with fail
   obtain⟨x0,VB,e9,h9,hb⟩:=qJ wr (.cells VL 71);have HR:=jh (show x0.heap[VB]?=some (.cells VL 71 (0,0)) by rw[e9,h9];exact jQ);have HPA:=jh (HP.out.aside hb);have lD:wr.heap.size<=VB/\VB<x0.heap.size:=by rw[e9,h9];exact⟨Nat.le_refl _,by simp⟩
   have MV:∀(W:World) (i1 i2 k:Nat),D7 c (fun g=>wr.heap.size<=g/\g<x0.heap.size) x0 W i1 i2 k->W.heap[VB]?=some (.cells VL 71 (0,0)):=fun W i1 i2 k h=>(h.fa VB lD).2.2.trans HR.out
   have RZ:=jh MV;rw[<-e9,<-h9];clear e9 h9 hb lD MV HP;obtain⟨R1,hR1⟩:=je ((c.res j z).1);obtain⟨R2,hR2⟩:=je ((c.res j z).2);have HR1:=jh hR1;have HR2:=jh hR2;clear hR1 hR2;have CP:=jh (by have h9:=D7.put dI.out HZC.out HPA.out;rewrite[Vt.val,<-DX.out,<-HR1.out,<-HR2.out] at h9;exact h9);refine wp_region_lit ?_;refine jL (jP (c.bx) 0) ?_;refine jL _ ?_ (jd (qO HR.out underlying71 rfl HSZV.out))
   go_upto_region 14 with(first|(go_at_call 9;refine CP.out.mono ?_;rintro _ x1 ⟨rfl,hp⟩))
   have HP1:=jh hp;clear hp CP HPA HR;have CR:=jh (by have h9:=D7.rput dI.out HZC.out HP1.out;rewrite[Vt.val,<-DX.out,<-HR1.out,<-HR2.out] at h9;exact h9);refine wp_region_lit ?_;refine jL (jP (c.rb) 0) ?_;refine jL _ ?_ (jd (qO (RZ.out _ _ _ _ HP1.out) underlying71 rfl HSZV.out))
   go_upto_region 15 with(first|(go_at_call 10;refine CR.out.mono ?_;rintro _ x2 ⟨rfl,hp⟩))
   have HP2:=jh hp;clear hp CR HP1;obtain⟨VO,hVO⟩:=je (c.vo (j+1) z);obtain⟨VN,hVN⟩:=je (VO.length);have HV100:=jh (show VN<=10000 by rw[hVN,hVO];exact PC.vo_len dI.out);have HVO:=jh hVO;have HVN:=jh hVN;clear hVO hVN;have CV:=jh (by have h9:=D7.votes dI.out HZO.out HP2.out;rewrite[<-HT.out,<-HVO.out,<-HVN.out] at h9;exact h9);have tJ:=jh (show x2.rangeAt VB 0 (jM z.k z.e z.v z.n z.h.l z.c z.s) from qL (by have h9:=RZ.out _ _ _ _ HP2.out;rw[DX.out] at h9;exact h9));refine wp_region_lit ?_;refine jL (jP (c.bx) 0) ?_;refine jL (jP VB 0) ?_;refine jL (.int .u8 z.k) ?_ (jd (Ju (Qp tJ.out)));refine jL (jP VB 2) ?_;refine jL (.int .u32 z.v) ?_ (jd (zU (Qf tJ.out)));refine jL (jP VB 4) ?_;refine zu (v:=.agg T) rfl (by rw[HT.out];exact jd (JO tJ.out z.h.hl)) ?_;simp only[Act.put,pa,pb,pc]
   go_upto_region 16 with(first|(go_at_call 11;refine CV.out.mono ?_;rintro _ x3 ⟨u,rfl,ho,hb⟩))
   obtain⟨a1,c1,rfl⟩:=ho.shape9;have HO:=jh ho;have HX:=jh hb;have HP3:=jh (HP2.out.later hb);have tJ:=jh (ju tJ.out hb);clear ho hb CV;have CRV:=jh (fun(W:World) (L6:Below x3.heap.size x3 W)=>by have h9:=D7.rvotes (z:=z) dI.out (HP3.out.later L6);rewrite[<-HT.out,<-HVO.out,<-HVN.out] at h9;exact h9);have CFU:=jh (fun(W:World) (L6:Below x3.heap.size x3 W)=>by have h9:=D7.full dI.out HZO.out (HP3.out.later L6);rewrite[<-HT.out] at h9;exact h9);have CFR:=jh (fun(W:World) (L6:Below x3.heap.size x3 W)=>by have h9:=D7.rfull (z:=z) dI.out (HP3.out.later L6);rewrite[<-HT.out] at h9;exact h9);have CAN:=jh (fun(W:World) (L6:Below x3.heap.size x3 W)=>by have h9:=D7.any dI.out HZO.out (HP3.out.later L6);exact h9);have CAR:=jh (fun(W:World) (L6:Below x3.heap.size x3 W)=>by have h9:=D7.rany (z:=z) dI.out (HP3.out.later L6);exact h9);have CFA:=jh (fun(W:World) (L6:Below x3.heap.size x3 W)=>by have h9:=D7.bfar dI.out (HP3.out.later L6);exact h9);have CFB:=jh (fun(W:World) (L6:Below x3.heap.size x3 W)=>by have h9:=D7.rfar dI.out (HP3.out.later L6);exact h9);have CCK:=jh (fun(W:World) (L6:Below x3.heap.size x3 W)=>by have h9:=D7.chk dI.out HZO.out HSVC.out (HP3.out.later L6);rewrite[Vt.val,<-DX.out] at h9;exact h9);have CCR:=jh (fun(W:World) (L6:Below x3.heap.size x3 W)=>by have h9:=D7.rchk dI.out HZO.out HSVC.out (HP3.out.later L6);rewrite[Vt.val,<-DX.out] at h9;exact h9);refine jK [(0,true),(1,true),(2,true),(3,true),(4,true),(5,true),(6,true),(7,true),(8,true),(9,true),(10,true),(11,true),(12,true),(13,true),(14,true),(15,true),(16,true),(17,false),(18,false),(19,true),(20,true),(21,true),(22,true),(23,true),(24,true),(25,true),(26,true),(27,true),(28,true),(30,true),(31,true),(32,true),(33,true),(34,true),(35,true),(36,true),(29,false),(37,false),(38,true),(39,true),(40,true),(41,true),(42,true),(43,true),(44,true),(45,true),(47,true),(48,true),(49,true),(50,true),(51,true),(46,false),(52,false),(53,true),(54,true),(55,true),(56,true),(58,true),(57,false),(59,false),(60,true),(61,true),(62,true),(63,true),(64,true),(66,true),(67,true),(65,false),(68,false),(69,true),(70,true)] (fun w8=>Below x3.heap.size x3 w8) (by kernel_rfl) (by kernel_rfl) (fun _ _ _ _ _ h=>h) ((Below.refl x3.heap.size x3).drew) (fun hHeld=>?_)
   iterate 2
    refine jq ?_;refine jq ?_;refine jx (.bool false) rfl (fun w8 hSw=>by simp[go_sem]) ?_;refine jq ?_
   iterate 4
    refine jq ?_
   refine jx (.int .u8 z.k) rfl (fun w8 hSw=>jd (Ju (Qp (ju tJ.out hSw)))) ?_;refine jq ?_;refine jx (.int .u32 z.v) rfl (fun w8 hSw=>jd (zU (Qf (ju tJ.out hSw)))) ?_;refine jq ?_;refine jx (.agg T) rfl (fun w8 hSw=>by rw[HT.out];exact jd (JO (ju tJ.out hSw) z.h.hl)) ?_;refine WP.step rfl (fun K hK=>?_)
   go_simp
   refine(CRV.out _ hHeld).mono ?_;rintro _ y1 ⟨u2,rfl,ho2,hb⟩;obtain⟨a2,c2,rfl⟩:=ho2.shape9;have D9:=jh ho2;clear ho2;refine qD hK (qe hHeld hb) (fun hHeld=>?_);clear hK K;refine WP.step rfl (fun K hK=>?_)
   go_simp
   refine(same_any HVN.out HV100.out _ (O1.later HO.out hHeld) D9.out).mono ?_;rintro _ y2 ⟨rfl,hb⟩;refine qD hK (qe hHeld hb) (fun hHeld=>?_);clear hK K
   iterate 5
    refine jq ?_
   refine jx (.int .u8 z.k) rfl (fun w8 hSw=>jd (Ju (Qp (ju tJ.out hSw)))) ?_;refine jq ?_;refine jx (.int .u32 z.v) rfl (fun w8 hSw=>jd (zU (Qf (ju tJ.out hSw)))) ?_;refine jq ?_;refine jx (.agg T) rfl (fun w8 hSw=>by rw[HT.out];exact jd (JO (ju tJ.out hSw) z.h.hl)) ?_;refine jq ?_;refine jq ?_;refine jx (.int .u8 z.k) rfl (fun w8 hSw=>jd (Ju (Qp (ju tJ.out hSw)))) ?_;refine jq ?_;refine jx (.int .u32 z.v) rfl (fun w8 hSw=>jd (zU (Qf (ju tJ.out hSw)))) ?_;refine jq ?_;refine jx (.agg T) rfl (fun w8 hSw=>by rw[HT.out];exact jd (JO (ju tJ.out hSw) z.h.hl)) ?_;refine WP.step rfl (fun K hK=>?_)
   go_simp
   refine(CFU.out _ hHeld).mono ?_;rintro _ y3 ⟨rfl,hb⟩;refine qD hK (qe hHeld hb) (fun hHeld=>?_);clear hK K;refine WP.step rfl (fun K hK=>?_)
   go_simp
   refine(CFR.out _ hHeld).mono ?_;rintro _ y4 ⟨rfl,hb⟩;refine qD hK (qe hHeld hb) (fun hHeld=>?_);clear hK K;refine jx (.bool false) rfl (fun w8 hSw=>by simp[go_sem]) ?_
   iterate 4
    refine jq ?_
   refine jx (.int .u8 z.k) rfl (fun w8 hSw=>jd (Ju (Qp (ju tJ.out hSw)))) ?_;refine jq ?_;refine jx (.int .u32 z.v) rfl (fun w8 hSw=>jd (zU (Qf (ju tJ.out hSw)))) ?_;refine jq ?_;refine jq ?_;refine jx (.int .u8 z.k) rfl (fun w8 hSw=>jd (Ju (Qp (ju tJ.out hSw)))) ?_;refine jq ?_;refine jx (.int .u32 z.v) rfl (fun w8 hSw=>jd (zU (Qf (ju tJ.out hSw)))) ?_;refine WP.step rfl (fun K hK=>?_)
   go_simp
   refine(CAN.out _ hHeld).mono ?_;rintro _ y5 ⟨rfl,hb⟩;refine qD hK (qe hHeld hb) (fun hHeld=>?_);clear hK K;refine WP.step rfl (fun K hK=>?_)
   go_simp
   refine(CAR.out _ hHeld).mono ?_;rintro _ y6 ⟨rfl,hb⟩;refine qD hK (qe hHeld hb) (fun hHeld=>?_);clear hK K;refine jx (.bool false) rfl (fun w8 hSw=>by simp[go_sem]) ?_
   iterate 4
    refine jq ?_
   refine WP.step rfl (fun K hK=>?_)
   go_simp
   refine(CFA.out _ hHeld).mono ?_;rintro _ y7 ⟨rfl,hb⟩;refine qD hK (qe hHeld hb) (fun hHeld=>?_);clear hK K;refine WP.step rfl (fun K hK=>?_)
   go_simp
   refine(CFB.out _ hHeld).mono ?_;rintro _ y8 ⟨rfl,hb⟩;refine qD hK (qe hHeld hb) (fun hHeld=>?_);clear hK K;refine jx (.bool false) rfl (fun w8 hSw=>by simp[go_sem]) ?_;refine jq ?_;refine jq ?_
   iterate 2
    refine jx (.agg SV) rfl (fun w8 hSw=>jd (qO (HSE.out _ _ _ _ _ _ (HP3.out.later hSw)) underlying33 rfl HSZS.out)) ?_;refine jx (.agg VL) rfl (fun w8 hSw=>jd (qO (RZ.out _ _ _ _ (HP3.out.later hSw)) underlying71 rfl HSZV.out)) ?_
   refine WP.step rfl (fun K hK=>?_)
   go_simp
   refine(CCK.out _ hHeld).mono ?_;rintro _ y9 ⟨rfl,hb⟩;refine qD hK (qe hHeld hb) (fun hHeld=>?_);clear hK K;refine WP.step rfl (fun K hK=>?_)
   go_simp
   refine(CCR.out _ hHeld).mono ?_;rintro _ y10 ⟨rfl,hb⟩;refine qD hK (qe hHeld hb) (fun hHeld=>?_);clear hK K;refine jx (.bool false) rfl (fun w8 hSw=>by simp[go_sem]) ?_;refine jq ?_;refine WP.done ?_;have IC:=jh (qe HX.out hHeld);have HO9:=jh (O1.later HO.out hHeld);have HK9:=jh (show j<1000 by have:=G7.out;have:=H60.out;omega);clear hHeld
   go_wp2_with (first|(go_at_call 22;refine(D7.keep dI.out HK9.out HP2.out IC.out HO9.out HV100.out).mono ?_;rintro _ x9 ⟨rfl,hp⟩;have HP9:=jh hp.drop;clear hp))
   go_roundw
   case rel=>exact⟨j+1,G7.out,by go_num,HP9⟩
   case measure=>simp[intOf];have:=G7.out;omega
  ·obtain rfl:j=m:=by omega
   clear hlt;have HK9:=jh (show j<1000 by have:=H60.out;omega)
   go_wp2_with (first|(go_at_call 23;refine(D7.apart dI.out HK9.out HP.out).mono ?_;rintro _ w8 ⟨rfl,ha⟩;have HA:=jh ha;clear ha)|(go_at_call 6;refine(LD _).mono ?_;rintro _ wl ⟨rfl,hbl⟩;have HA:=jw HA hbl;clear hbl))
   go_ret
   exact⟨rfl,by have h9:=HA.out;rw[EW0.out] at h9;exact h9⟩
end Go.Proofs.YtpkalgofejjggaaGreatDoor
