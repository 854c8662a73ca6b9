/- Long numbers in memory -/
import Derived.Test.YtpkalgofejjggaaGreatDoorBPBG08
import Derived.Deep.Quiet
namespace Go.Proofs.YtpkalgofejjggaaGreatDoor
open Go.ChangeShapes Go.WideShapes Go.ChangeAt Go.RowKit Go.Proofs.Tryz
def U0(w:World)(b x:Nat):Prop:=rC w b (jg jf x)
theorem U0.lt{w:World}{b x:Nat}(h:U0 w b x):b<w.heap.size:=World.block_lt_of_cell? (a:=⟨b,0,none⟩) _ (h 0 (by omega))
theorem U0.new(w:World)(x b:Nat)(t:TypeId)(hb:b=w.heap.size):U0 (w.alloc (.cells #[.int .u64 (jg jf x 0),.int .u64 (jg jf x 1),.int .u64 (jg jf x 2),.int .u64 (jg jf x 3)] t)) b x:=by
 subst hb;exact rC.new w _ t
theorem U0.alloc{w:World}{b x:Nat}(h:U0 w b x)(o:Obj):U0 (w.alloc o) b x:=rC.alloc h o
theorem U0.later{w w':World}{b x:Nat}(hb:Below w.heap.size w w')(h:U0 w b x):U0 w' b x:=fun j hj=>(hb.cell (p:=⟨b,j,none⟩) h.lt).trans (h j hj)
theorem jF{w:World}{b x:Nat}(h:U0 w b x):w.cell? ⟨b,0,none⟩=some (.int .u64 (jg jf x 0))/\w.cell? ⟨b,1,none⟩=some (.int .u64 (jg jf x 1))/\w.cell? ⟨b,2,none⟩=some (.int .u64 (jg jf x 2))/\w.cell? ⟨b,3,none⟩=some (.int .u64 (jg jf x 3)):=
 ⟨h 0 (by omega),h 1 (by omega),h 2 (by omega),h 3 (by omega)⟩
theorem jm{w0 w w':World}(h:Below w0.heap.size w0 w)(hb:Below w.heap.size w w'):Below w0.heap.size w0 w':=h.trans (hb.mono h.size)
theorem qZ{w0 w:World}(h:Below w0.heap.size w0 w)(o:Obj):Below w0.heap.size w0 (w.alloc o):=h.alloc h.size o
structure Wd(F:World->Prop) where
 world:World
 fact:F world
theorem jn{w w':World}{b x:Nat}(hb:Below w.heap.size w w')(h:RowKit.Hid (U0 w b x)):RowKit.Hid (U0 w' b x):=Lib.hid (U0.later hb h.out)
theorem jr{F:World->Prop}{w:World}{b x:Nat}(hbl:∀w1,F w1->Below w.heap.size w w1)(h:RowKit.Hid (U0 w b x))(j:Nat)(hj:j<4)(X9:Wd F):X9.world.cell? ⟨b,j,none⟩=some (.int .u64 (jg jf x j)):=(U0.later (hbl X9.world X9.fact) h.out) j hj
theorem qF{F:World->Prop}{w:World}{b x:Nat}(hbl:∀w1,F w1->Below w.heap.size w w1)(h:RowKit.Hid (U0 w b x)):(∀X9:Wd F,X9.world.cell? ⟨b,0,none⟩=some (.int .u64 (jg jf x 0)))/\(∀X9:Wd F,X9.world.cell? ⟨b,1,none⟩=some (.int .u64 (jg jf x 1)))/\(∀X9:Wd F,X9.world.cell? ⟨b,2,none⟩=some (.int .u64 (jg jf x 2)))/\∀X9:Wd F,X9.world.cell? ⟨b,3,none⟩=some (.int .u64 (jg jf x 3)):=⟨jr hbl h 0 (by decide),jr hbl h 1 (by decide),jr hbl h 2 (by decide),jr hbl h 3 (by decide)⟩
theorem jw{w0 w w':World}(h:RowKit.Hid (Below w0.heap.size w0 w))(hb:Below w.heap.size w w'):RowKit.Hid (Below w0.heap.size w0 w'):=Lib.hid (jm h.out hb)
theorem jp{P:Program}{F:World->Prop}(hcl:∀w1 w2,F w1->Below w1.heap.size w1 w2->F w2){f:FuncId}{args:Array Value}{x:Wd F}{v:Value}
  (h:Calls P f args x.world fun e w'=>e=.returned v/\Below x.world.heap.size x.world w'):Calls P f args x.world fun e w''=>e=.returned v/\∃y:Wd F,w''=y.world:=
 h.mono fun _ w'' ⟨he,hb⟩=>⟨he,⟨w'',hcl _ _ x.fact hb⟩,rfl⟩
theorem zY(k:Nat)(n:Int)(h:n=k)(hk:k<jf)(w:World):Calls prog 99 #[.int .u64 n] w fun e w'=>e=.returned (ji k)/\Below w.heap.size w w':=by
 subst h;exact Qc k hk w
theorem Y0.later{w w':World}{b n:Nat}(h:Y0 w b n)(hb:Below w.heap.size w w')(hB:b<w.heap.size):Y0 w' b n:=fun j hj=>(hb.frozen (p:=⟨b,j,none⟩) hB).trans (h j hj)
theorem Y0.made(w:World)(c:Array Value)(t:TypeId)(n b:Nat)(hb:b=w.heap.size):Y0 (w.alloc (.cells c t)) b n:=by
 subst hb;exact Y0.new w c t n
theorem Y0.set4{w:World}{b n:Nat}(h:Y0 w b n)(a0 a1 a2 a3:Addr)(v0 v1 v2 v3:Value):Y0 ((((w.setCell a0 v0).setCell a1 v1).setCell a2 v2).setCell a3 v3) b n:=(((h.set a0 v0).set a1 v1).set a2 v2).set a3 v3
theorem U0.set4{w:World}{b x:Nat}(h:U0 w b x)(y:Nat):
  U0 ((((w.setCell ⟨b,0,none⟩ (.int .u64 (jg jf y 0))).setCell ⟨b,1,none⟩ (.int .u64 (jg jf y 1))).setCell ⟨b,2,none⟩ (.int .u64 (jg jf y 2))).setCell ⟨b,3,none⟩ (.int .u64 (jg jf y 3))) b y:=by
 refine rC.congr ((((rC.set h 0 (jg jf y 0)).set 1 (jg jf y 1)).set 2 (jg jf y 2)).set 3 (jg jf y 3)) ?_;intro j hj;have:j=0∨j=1∨j=2∨j=3:=by omega
 rcases this with rfl|rfl|rfl|rfl<;>simp
theorem U0.other4{w:World}{b c x:Nat}(h:U0 w b x)(hc:b≠c)(v0 v1 v2 v3:Value):
  U0 ((((w.setCell ⟨c,0,none⟩ v0).setCell ⟨c,1,none⟩ v1).setCell ⟨c,2,none⟩ v2).setCell ⟨c,3,none⟩ v3) b x:=(((rC.other h 0 v0 hc).other 1 v1 hc).other 2 v2 hc).other 3 v3 hc
theorem jO{w0 w:World}{c:Nat}(h:Below w0.heap.size w0 w)(hc:w0.heap.size<=c)(v0 v1 v2 v3:Value):
  Below w0.heap.size w0 ((((w.setCell ⟨c,0,none⟩ v0).setCell ⟨c,1,none⟩ v1).setCell ⟨c,2,none⟩ v2).setCell ⟨c,3,none⟩ v3):=(((h.setCell hc v0).setCell hc v1).setCell hc v2).setCell hc v3
theorem jU{w:World}{b x:Nat}(h:U0 w b x)(f:Y0 w b 4):w.cell? ⟨b,0,none⟩=some (.int .u64 (jg jf x 0))/\w.cell? ⟨b,1,none⟩=some (.int .u64 (jg jf x 1))/\w.cell? ⟨b,2,none⟩=some (.int .u64 (jg jf x 2))/\w.cell? ⟨b,3,none⟩=some (.int .u64 (jg jf x 3))/\
  w.frozen? ⟨b,0,none⟩=false/\w.frozen? ⟨b,1,none⟩=false/\w.frozen? ⟨b,2,none⟩=false/\w.frozen? ⟨b,3,none⟩=false:=
 ⟨h 0 (by omega),h 1 (by omega),h 2 (by omega),h 3 (by omega),f 0 (by omega),f 1 (by omega),f 2 (by omega),f 3 (by omega)⟩
theorem jN(j:Nat):jg jf 0 j=0:=by unfold jg;simp
theorem num_nil(w:World)(b:Nat)(t:TypeId)(hb:b=w.heap.size):U0 (w.alloc (.cells #[.int .u64 0,.int .u64 0,.int .u64 0,.int .u64 0] t)) b 0:=by
 have h:=U0.new w 0 b t hb;simp only[show((jg jf 0 0:Nat):Int)=0 by rw[jN];rfl,show((jg jf 0 1:Nat):Int)=0 by rw[jN];rfl,show((jg jf 0 2:Nat):Int)=0 by rw[jN];rfl,show((jg jf 0 3:Nat):Int)=0 by rw[jN];rfl] at h;exact h
theorem box0r(w:World)(t:TypeId):∃(wz:World) (b0:Nat),w.alloc (.cells #[.int .u64 0,.int .u64 0,.int .u64 0,.int .u64 0] t)=wz/\w.heap.size=b0/\Hid (U0 wz b0 0)/\Hid (Y0 wz b0 4)/\Hid (Below w.heap.size w wz)/\Hid (wz.heap.size=b0+1)/\w.heap.size<=b0/\w.heap.size<=b0/\b0<wz.heap.size:=
 ⟨_,_,rfl,rfl,jh (num_nil _ _ t rfl),jh (Y0.made _ _ t 4 _ rfl),jh (qZ U3 _),jh (by simp),Nat.le_refl _,by omega,by simp⟩
theorem box1(w:World)(t:TypeId)(x0:Nat):∃(wz:World) (b0:Nat),w.alloc (.cells #[.int .u64 (jg jf x0 0),.int .u64 (jg jf x0 1),.int .u64 (jg jf x0 2),.int .u64 (jg jf x0 3)] t)=wz/\w.heap.size=b0/\Hid (U0 wz b0 x0)/\Hid (Below w.heap.size w wz)/\Hid (wz.heap.size=b0+1)/\w.heap.size<=b0/\w.heap.size<=b0/\b0<wz.heap.size:=
 ⟨_,_,rfl,rfl,jh (U0.new _ x0 _ t rfl),jh (qZ U3 _),jh (by simp),Nat.le_refl _,by omega,by simp⟩
theorem box1r(w:World)(t:TypeId)(x0:Nat):∃(wz:World) (b0 b1:Nat),(w.alloc (.cells #[.int .u64 (jg jf x0 0),.int .u64 (jg jf x0 1),.int .u64 (jg jf x0 2),.int .u64 (jg jf x0 3)] t)).alloc (.cells #[.int .u64 0,.int .u64 0,.int .u64 0,.int .u64 0] t)=wz/\w.heap.size=b0/\b0+1=b1/\Hid (U0 wz b0 x0)/\Hid (U0 wz b1 0)/\Hid (Y0 wz b1 4)/\Hid (Below w.heap.size w wz)/\Hid (wz.heap.size=b1+1)/\b0<b1/\w.heap.size<=b0/\w.heap.size<=b1/\b1<wz.heap.size:=
 ⟨_,_,_,rfl,rfl,rfl,jh ((U0.new _ x0 _ t rfl).alloc _),jh (num_nil _ _ t (by simp)),jh (Y0.made _ _ t 4 _ (by simp)),jh (qZ (qZ U3 _) _),jh (by simp),Nat.lt_succ_self _,Nat.le_refl _,by omega,by simp⟩
theorem ZY(w:World)(t:TypeId)(x0 x1:Nat):∃(wz:World) (b0 b1 b2:Nat),((w.alloc (.cells #[.int .u64 (jg jf x0 0),.int .u64 (jg jf x0 1),.int .u64 (jg jf x0 2),.int .u64 (jg jf x0 3)] t)).alloc (.cells #[.int .u64 (jg jf x1 0),.int .u64 (jg jf x1 1),.int .u64 (jg jf x1 2),.int .u64 (jg jf x1 3)] t)).alloc (.cells #[.int .u64 0,.int .u64 0,.int .u64 0,.int .u64 0] t)=wz/\w.heap.size=b0/\b0+1=b1/\b1+1=b2/\Hid (U0 wz b0 x0)/\Hid (U0 wz b1 x1)/\Hid (U0 wz b2 0)/\Hid (Y0 wz b2 4)/\Hid (Below w.heap.size w wz)/\Hid (wz.heap.size=b2+1)/\b0<b1/\b1<b2/\w.heap.size<=b0/\w.heap.size<=b2/\b2<wz.heap.size:=
 ⟨_,_,_,_,rfl,rfl,rfl,rfl,jh (((U0.new _ x0 _ t rfl).alloc _).alloc _),jh ((U0.new _ x1 _ t (by simp)).alloc _),jh (num_nil _ _ t (by simp)),jh (Y0.made _ _ t 4 _ (by simp)),jh (qZ (qZ (qZ U3 _) _) _),jh (by simp),Nat.lt_succ_self _,Nat.lt_succ_self _,Nat.le_refl _,by omega,by simp⟩
theorem box3(w:World)(t:TypeId)(x0 x1 x2:Nat):∃(wz:World) (b0 b1 b2:Nat),((w.alloc (.cells #[.int .u64 (jg jf x0 0),.int .u64 (jg jf x0 1),.int .u64 (jg jf x0 2),.int .u64 (jg jf x0 3)] t)).alloc (.cells #[.int .u64 (jg jf x1 0),.int .u64 (jg jf x1 1),.int .u64 (jg jf x1 2),.int .u64 (jg jf x1 3)] t)).alloc (.cells #[.int .u64 (jg jf x2 0),.int .u64 (jg jf x2 1),.int .u64 (jg jf x2 2),.int .u64 (jg jf x2 3)] t)=wz/\w.heap.size=b0/\b0+1=b1/\b1+1=b2/\Hid (U0 wz b0 x0)/\Hid (U0 wz b1 x1)/\Hid (U0 wz b2 x2)/\Hid (Below w.heap.size w wz)/\Hid (wz.heap.size=b2+1)/\b0<b1/\b1<b2/\w.heap.size<=b0/\w.heap.size<=b2/\b2<wz.heap.size:=
 ⟨_,_,_,_,rfl,rfl,rfl,rfl,jh (((U0.new _ x0 _ t rfl).alloc _).alloc _),jh ((U0.new _ x1 _ t (by simp)).alloc _),jh (U0.new _ x2 _ t (by simp)),jh (qZ (qZ (qZ U3 _) _) _),jh (by simp),Nat.lt_succ_self _,Nat.lt_succ_self _,Nat.le_refl _,by omega,by simp⟩
theorem zT(w:World)(t:TypeId)(x0 x1 x2:Nat):∃(wz:World) (b0 b1 b2 b3:Nat),(((w.alloc (.cells #[.int .u64 (jg jf x0 0),.int .u64 (jg jf x0 1),.int .u64 (jg jf x0 2),.int .u64 (jg jf x0 3)] t)).alloc (.cells #[.int .u64 (jg jf x1 0),.int .u64 (jg jf x1 1),.int .u64 (jg jf x1 2),.int .u64 (jg jf x1 3)] t)).alloc (.cells #[.int .u64 (jg jf x2 0),.int .u64 (jg jf x2 1),.int .u64 (jg jf x2 2),.int .u64 (jg jf x2 3)] t)).alloc (.cells #[.int .u64 0,.int .u64 0,.int .u64 0,.int .u64 0] t)=wz/\w.heap.size=b0/\b0+1=b1/\b1+1=b2/\b2+1=b3/\Hid (U0 wz b0 x0)/\Hid (U0 wz b1 x1)/\Hid (U0 wz b2 x2)/\Hid (U0 wz b3 0)/\Hid (Y0 wz b3 4)/\Hid (Below w.heap.size w wz)/\Hid (wz.heap.size=b3+1)/\b0<b1/\b1<b2/\b2<b3/\w.heap.size<=b0/\w.heap.size<=b3/\b3<wz.heap.size:=
 ⟨_,_,_,_,_,rfl,rfl,rfl,rfl,rfl,jh ((((U0.new _ x0 _ t rfl).alloc _).alloc _).alloc _),jh (((U0.new _ x1 _ t (by simp)).alloc _).alloc _),jh ((U0.new _ x2 _ t (by simp)).alloc _),jh (num_nil _ _ t (by simp)),jh (Y0.made _ _ t 4 _ (by simp)),jh (qZ (qZ (qZ (qZ U3 _) _) _) _),jh (by simp),Nat.lt_succ_self _,Nat.lt_succ_self _,Nat.lt_succ_self _,Nat.le_refl _,by omega,by simp⟩
theorem pF{w0 w w':World}{b0 x0 c:Nat}(hb:Below w.heap.size w w')(h0:Hid (U0 w b0 x0))(hr:c<w.heap.size)(B:Hid (Below w0.heap.size w0 w)):Hid (U0 w' b0 x0)/\c<w'.heap.size/\Hid (Below w0.heap.size w0 w'):=
 ⟨jh (U0.later hb h0.out),jv hr hb.size,jh (jm B.out hb)⟩
theorem vV{w0 w w':World}{b0 x0 b1 x1 c:Nat}(hb:Below w.heap.size w w')(h0:Hid (U0 w b0 x0))(h1:Hid (U0 w b1 x1))(hr:c<w.heap.size)(B:Hid (Below w0.heap.size w0 w)):Hid (U0 w' b0 x0)/\Hid (U0 w' b1 x1)/\c<w'.heap.size/\Hid (Below w0.heap.size w0 w'):=
 ⟨jh (U0.later hb h0.out),jh (U0.later hb h1.out),jv hr hb.size,jh (jm B.out hb)⟩
theorem lat3{w0 w w':World}{b0 x0 b1 x1 b2 x2 c:Nat}(hb:Below w.heap.size w w')(h0:Hid (U0 w b0 x0))(h1:Hid (U0 w b1 x1))(h2:Hid (U0 w b2 x2))(hr:c<w.heap.size)(B:Hid (Below w0.heap.size w0 w)):Hid (U0 w' b0 x0)/\Hid (U0 w' b1 x1)/\Hid (U0 w' b2 x2)/\c<w'.heap.size/\Hid (Below w0.heap.size w0 w'):=
 ⟨jh (U0.later hb h0.out),jh (U0.later hb h1.out),jh (U0.later hb h2.out),jv hr hb.size,jh (jm B.out hb)⟩
theorem mM{w0 w w':World}{b0 x0 b1 x1 b2 x2 c k:Nat}(hb:Below w.heap.size w w')(h0:Hid (U0 w b0 x0))(h1:Hid (U0 w b1 x1))(h2:Hid (U0 w b2 x2))(hf:Hid (Y0 w c k))(hr:c<w.heap.size)(B:Hid (Below w0.heap.size w0 w)):Hid (U0 w' b0 x0)/\Hid (U0 w' b1 x1)/\Hid (U0 w' b2 x2)/\Hid (Y0 w' c k)/\c<w'.heap.size/\Hid (Below w0.heap.size w0 w'):=
 ⟨jh (U0.later hb h0.out),jh (U0.later hb h1.out),jh (U0.later hb h2.out),jh (hf.out.later hb hr),jv hr hb.size,jh (jm B.out hb)⟩
theorem qQ{w0 w w':World}{b0 x0 b1 x1 b2 x2 b3 x3 c k:Nat}(hb:Below w.heap.size w w')(h0:Hid (U0 w b0 x0))(h1:Hid (U0 w b1 x1))(h2:Hid (U0 w b2 x2))(h3:Hid (U0 w b3 x3))(hf:Hid (Y0 w c k))(hr:c<w.heap.size)(B:Hid (Below w0.heap.size w0 w)):Hid (U0 w' b0 x0)/\Hid (U0 w' b1 x1)/\Hid (U0 w' b2 x2)/\Hid (U0 w' b3 x3)/\Hid (Y0 w' c k)/\c<w'.heap.size/\Hid (Below w0.heap.size w0 w'):=
 ⟨jh (U0.later hb h0.out),jh (U0.later hb h1.out),jh (U0.later hb h2.out),jh (U0.later hb h3.out),jh (hf.out.later hb hr),jv hr hb.size,jh (jm B.out hb)⟩
theorem zP{w0 w:World}{b x:Nat}(h:Hid (U0 w b x))(B:Hid (Below w0.heap.size w0 w))(hc:w0.heap.size<=b)(q:Nat):Hid (U0 ((((w.setCell ⟨b,0,none⟩ (.int .u64 (jg jf q 0))).setCell ⟨b,1,none⟩ (.int .u64 (jg jf q 1))).setCell ⟨b,2,none⟩ (.int .u64 (jg jf q 2))).setCell ⟨b,3,none⟩ (.int .u64 (jg jf q 3))) b q)/\Hid (Below w0.heap.size w0 ((((w.setCell ⟨b,0,none⟩ (.int .u64 (jg jf q 0))).setCell ⟨b,1,none⟩ (.int .u64 (jg jf q 1))).setCell ⟨b,2,none⟩ (.int .u64 (jg jf q 2))).setCell ⟨b,3,none⟩ (.int .u64 (jg jf q 3)))):=
 ⟨jh (U0.set4 h.out q),jh (jO B.out hc _ _ _ _)⟩
end Go.Proofs.YtpkalgofejjggaaGreatDoor
