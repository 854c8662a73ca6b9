/- Layers 4, 9, 13 -/
import Derived.Test.YtpkalgofejjggaaGreatDoorBPBG26
import Derived.Deep.DeepCutAuto
set_option linter.unusedSimpArgs false
set_option linter.unusedVariables false
set_option maxHeartbeats 4000000
set_option maxRecDepth 100000
namespace Go.Proofs.YtpkalgofejjggaaGreatDoor
open Go.ChangeShapes Go.WideShapes Go.ChangeAt Go.RowKit Go.Proofs.Tryz
def qj(gp gq gg gh:Nat):Value:=.agg #[.int .u64 (jg jf gp 0),.int .u64 (jg jf gp 1),.int .u64 (jg jf gp 2),.int .u64 (jg jf gp 3),.int .u64 (jg jf gq 0),.int .u64 (jg jf gq 1),.int .u64 (jg jf gq 2),.int .u64 (jg jf gq 3),.int .u64 (jg jf gg 0),.int .u64 (jg jf gg 1),.int .u64 (jg jf gg 2),.int .u64 (jg jf gg 3),.int .u64 (jg jf gh 0),.int .u64 (jg jf gh 1),.int .u64 (jg jf gh 2),.int .u64 (jg jf gh 3)]
def YH(gp gq a:Nat):Prop:=Jt gp a/\a^gq%gp=1
instance (gp gq a:Nat):Decidable (YH gp gq a):=by unfold YH;exact inferInstance
theorem in_yes{gp gq gg gh a:Nat}(h:Jt gp a)(C9:a<jk)(hq:gq<jk)(hm:gp<jk)(w:World):
  Calls prog 112 #[qj gp gq gg gh,ji a] w fun e w'=>e=.returned (.bool (decide (YH gp gq a)))/\Below w.heap.size w w':=by
 unfold qj;obtain⟨x,hx⟩:=je (a^gq%gp);have hxl:x<jk:=by rw[hx];exact Nat.lt_trans (Nat.mod_lt _ (by have:=h.1;omega)) hm
 have CE:=jh (fun w=>by have h9:=QU (gq:=gq) (gg:=gg) (gh:=gh) h C9 hq hm w;rw[<-hx] at h9;unfold ji words at h9;exact h9);have heq:=qX x 1 hxl (by decide);obtain⟨d,hd⟩:=je (decide (x=1));have hdd:decide (YH gp gq a)=d:=by rw[hd];exact decide_eq_decide.2 ⟨fun h9=>hx.trans h9.2,fun h9=>⟨h,hx.symm.trans h9⟩⟩
 rw[hdd];rw[<-hd] at heq;have C1:=jh (fun w=>by have h:=zY 1 1 rfl (by decide) w;unfold ji words at h;exact h);clear hx hxl hd hdd;clear h C9 hq hm;unfold ji words
 go_enter func112,ntmps112
 go_wp2_with fail
 obtain⟨w0,GG,e0,s0,J8,g0,HB0⟩:=Qt w 26 gp gq gg gh;rw[e0,s0,J8];clear e0 s0 J8;obtain⟨wz,AA,e9,Y5,V3,B,I7,xA,sH,U2⟩:=box1 w0 24 a;rw[e9,Y5];clear e9 Y5;clear g0;refine(CE.out _).mono ?_;rintro _ w2 ⟨rfl,hb⟩;have B:=jw B hb;clear hb U2 V3
 go_upto_region 2 with fail
 obtain⟨w3,e3⟩:=je (w2.alloc (.cells (jD x) 24));obtain⟨XX,hXX⟩:=je (w2.heap.size);have hb:=jc e3;have U9:=jh (show U0 w3 XX x by rw[e3,hXX];exact U0.new _ _ _ _ rfl);have U2:XX<w3.heap.size:=U9.out.lt;have B:=jw B hb;rw[<-e3,<-hXX];clear e3 hXX hb;refine zM 7 (fun F O9 hcl hbl=>?_);obtain⟨gG,fG,eG,dG⟩:=qF hbl U9;have I5:=jh hcl;clear hcl hbl;refine zL 7 ?_;simp only[zo,zn,zm,zl,Nat.reduceAdd]
 repeat (go_big_quiet_step ((first|(go_at_call 99;with_reducible exact jp I5.out (C1.out _)))))
 refine wpQuiet_nil ?_;refine jS ?_;intro bs w4 hb _ _;clear gG fG eG dG;obtain⟨U9,U2,B⟩:=pF hb U9 U2 B;clear hb;simp only[over]
 go_wp2_with fail
 refine bodyPost_ret (v:=.bool d) ?_ rfl ⟨rfl,jm HB0.out B.out⟩
 simp[results,results112,go_sem]
theorem in_no{gp gq gg gh a:Nat}(h:¬Jt gp a)(C9:a<jk)(hq:gq<jk)(hm:gp<jk)(w:World):
  Calls prog 112 #[qj gp gq gg gh,ji a] w fun e w'=>e=.returned (.bool (decide (YH gp gq a)))/\Below w.heap.size w w':=by
 unfold qj;obtain⟨x,hx⟩:=je (0);have hx2:ji 0=ji x:=by rw[hx]
 have CE:=jh (fun w=>by have h9:=yS (gq:=gq) (gg:=gg) (gh:=gh) h C9 hq hm w;rw[hx2] at h9;unfold ji words at h9;exact h9);have hdd:decide (YH gp gq a)=false:=decide_eq_false (fun h9=>h h9.1);rw[hdd];have C1:=jh (fun w=>by have h:=zY 1 1 rfl (by decide) w;unfold ji words at h;exact h);clear hdd hx hx2;clear h C9 hq hm;unfold ji words
 go_enter func112,ntmps112
 go_wp2_with fail
 obtain⟨w0,GG,e0,s0,J8,g0,HB0⟩:=Qt w 26 gp gq gg gh;rw[e0,s0,J8];clear e0 s0 J8;obtain⟨wz,AA,e9,Y5,V3,B,I7,xA,sH,U2⟩:=box1 w0 24 a;rw[e9,Y5];clear e9 Y5;clear g0;refine(CE.out _).mono ?_;rintro _ w2 ⟨rfl,hb⟩;have B:=jw B hb;clear hb U2 V3
 go_upto_region 2 with fail
 obtain⟨w3,e3⟩:=je (w2.alloc (.cells (jD x) 24));obtain⟨XX,hXX⟩:=je (w2.heap.size);have hb:=jc e3;have U9:=jh (show U0 w3 XX x by rw[e3,hXX];exact U0.new _ _ _ _ rfl);have U2:XX<w3.heap.size:=U9.out.lt;have B:=jw B hb;rw[<-e3,<-hXX];clear e3 hXX hb;refine zM 7 (fun F O9 hcl hbl=>?_);obtain⟨gG,fG,eG,dG⟩:=qF hbl U9;have I5:=jh hcl;clear hcl hbl;refine zL 7 ?_;simp only[zo,zn,zm,zl,Nat.reduceAdd]
 repeat (go_big_quiet_step ((first|(go_at_call 99;with_reducible exact jp I5.out (C1.out _)))))
 refine wpQuiet_nil ?_;refine jS ?_;intro bs w4 hb _ _;clear gG fG eG dG;obtain⟨U9,U2,B⟩:=pF hb U9 U2 B;clear hb;simp only[over]
 go_wp2_with fail
 refine bodyPost_ret (v:=.bool false) ?_ rfl ⟨rfl,jm HB0.out B.out⟩
 simp[results,results112,go_sem]
theorem TT{gp gq gg gh a:Nat}(C9:a<jk)(hq:gq<jk)(hm:gp<jk)(w:World):
  Calls prog 112 #[qj gp gq gg gh,ji a] w fun e w'=>e=.returned (.bool (decide (YH gp gq a)))/\Below w.heap.size w w':=by
 by_cases h:Jt gp a
 ·exact in_yes h C9 hq hm w
 ·exact in_no h C9 hq hm w
theorem SAdd_any{gp gq gg gh a b:Nat}(ha:a<gq)(L6:b<gq)(h1:1<gq)(hm:gq<jk)(w:World):
  Calls prog 182 #[qj gp gq gg gh,ji a,ji b] w fun e w'=>e=.returned (.tuple #[ji ((a+b)%gq),.int .i64 0])/\Below w.heap.size w w':=by
 unfold qj;obtain⟨q,hq⟩:=je ((a+b)%gq);have CE:=jh (fun w=>by have h9:=Add_any ha h1 L6 hm w;rw[<-hq] at h9;unfold ji words at h9;exact h9);rw[<-hq];clear hq ha L6 h1 hm;unfold ji words
 go_enter func182,ntmps182
 go_upto_region 1 with fail
 obtain⟨w0,GG,e0,s0,J8,g0,HB0⟩:=Qt w 26 gp gq gg gh;rw[e0,s0,J8];clear e0 s0 J8;obtain⟨wz,AA,BB,RR,e9,Y5,h_1,h_2,V3,X4,HRR,HF,B,I7,l_1,NC,xA,Z5,U2⟩:=ZY w0 24 a b;rw[e9,Y5,h_1,h_2];clear e9 Y5 h_1 h_2;have G0:=jh (J3.later B.out g0);clear g0;have F8:=G0.out.2.1 0 (by omega);have D8:=G0.out.2.1 1 (by omega);have A8:=G0.out.2.1 2 (by omega);have Z7:=G0.out.2.1 3 (by omega);simp only[Nat.reduceAdd] at F8 D8 A8 Z7;obtain⟨X3,U4,J4,I4⟩:=jF V3.out;obtain⟨X5,H6,G6,F6⟩:=jF X4.out
 go_wp2_with fail
 clear X3 U4 J4 I4 X5 H6 G6 F6;clear F8 D8 A8 Z7;refine(CE.out _).mono ?_;rintro _ w3 ⟨rfl,hb⟩;obtain⟨V3,X4,HRR,HF,U2,B⟩:=mM hb V3 X4 HRR HF U2 B;clear hb;obtain⟨c0,c1,c2,c3,f0,f1,f2,f3⟩:=jU HRR.out HF.out
 go_wp2_with fail
 obtain⟨N7,B9⟩:=zP HRR B Z5 q;obtain⟨g0,g1,g2,g3⟩:=jF N7.out;refine bodyPost_ret (v:=.tuple #[ji q,.int .i64 0]) ?_ rfl ⟨rfl,jm HB0.out B9.out⟩
 simp[results,results182,go_sem,ji,words,g0,g1,g2,g3]
open Go.ChangeShapes Go.WideShapes Go.ChangeAt Go.RowKit
def Q8(w:World)(b o:Nat)(xs:List Nat):Prop:=∀i x,xs[i]?=some x->∀j,j<4->w.cell? ⟨b,o+i*4+j,none⟩=some (.int .u64 (jg jf x j))
theorem Q8.later{w w':World}{b o:Nat}{xs:List Nat}(h:Q8 w b o xs)(hb:Below w.heap.size w w'):Q8 w' b o xs:=fun i x hx j hj=>jj (h i x hx j hj) hb
theorem aQ{w:World}{b gp gq gg gh:Nat}(h:J3 w b gp gq gg gh):w.cell? ⟨b,0,none⟩=some (.int .u64 (jg jf gp 0))/\w.cell? ⟨b,1,none⟩=some (.int .u64 (jg jf gp 1))/\w.cell? ⟨b,2,none⟩=some (.int .u64 (jg jf gp 2))/\w.cell? ⟨b,3,none⟩=some (.int .u64 (jg jf gp 3))/\w.cell? ⟨b,4,none⟩=some (.int .u64 (jg jf gq 0))/\w.cell? ⟨b,5,none⟩=some (.int .u64 (jg jf gq 1))/\w.cell? ⟨b,6,none⟩=some (.int .u64 (jg jf gq 2))/\w.cell? ⟨b,7,none⟩=some (.int .u64 (jg jf gq 3))/\w.cell? ⟨b,8,none⟩=some (.int .u64 (jg jf gg 0))/\w.cell? ⟨b,9,none⟩=some (.int .u64 (jg jf gg 1))/\w.cell? ⟨b,10,none⟩=some (.int .u64 (jg jf gg 2))/\w.cell? ⟨b,11,none⟩=some (.int .u64 (jg jf gg 3))/\w.cell? ⟨b,12,none⟩=some (.int .u64 (jg jf gh 0))/\w.cell? ⟨b,13,none⟩=some (.int .u64 (jg jf gh 1))/\w.cell? ⟨b,14,none⟩=some (.int .u64 (jg jf gh 2))/\w.cell? ⟨b,15,none⟩=some (.int .u64 (jg jf gh 3)):=by
 obtain⟨h0,h1,h2,h3⟩:=h;exact⟨h0 0 (by decide),h0 1 (by decide),h0 2 (by decide),h0 3 (by decide),h1 0 (by decide),h1 1 (by decide),h1 2 (by decide),h1 3 (by decide),h2 0 (by decide),h2 1 (by decide),h2 2 (by decide),h2 3 (by decide),h3 0 (by decide),h3 1 (by decide),h3 2 (by decide),h3 3 (by decide)⟩
def rE(a n:Nat):Bool:=if(jg jf a 1|||jg jf a 2)|||jg jf a 3=0 then decide (n<jg jf a 0) else true
theorem above_any{a n:Nat}(hn:n<=1000)(w:World):Calls prog 102 #[ji a,.int .i64 n] w fun e w'=>e=.returned (.bool (rE a n))/\Below w.heap.size w w':=by
 have l1:=qh a 1;have l2:=qh a 2;have l3:=qh a 3;unfold jf at l1 l2 l3;obtain⟨o1,h1⟩:=je (jg jf a 1|||jg jf a 2);obtain⟨o2,h2⟩:=je (o1|||jg jf a 3);have lo1:o1<18446744073709551616:=by rw[h1];exact Nat.or_lt_two_pow (n:=64) l1 l2
 have b1:bits BinOp.or IntKind.u64 (jg jf a 1:Int) (jg jf a 2:Int)=(o1:Int):=by rw[h1];exact u64_or_nat _ _ l1 l2
 have b2:bits BinOp.or IntKind.u64 (o1:Int) (jg jf a 3:Int)=(o2:Int):=by rw[h2];exact u64_or_nat _ _ lo1 l3
 unfold rE;rw[<-h1,<-h2];clear h1 h2 lo1 l1 l2 l3;obtain⟨d0,hd0⟩:=je (jg jf a 0);unfold ji words;rw[<-hd0];clear hd0
 by_cases hz:o2=0
 ·rw[if_pos hz];subst hz
  by_cases hlt:n<d0
  ·rw[decide_eq_true hlt];have hI:(n:Int)<(d0:Int):=by omega
   clear hlt
   go_enter func102,ntmps102
   go_wp2_with fail
   go_ret
   exact⟨rfl,ja⟩
  ·rw[decide_eq_false hlt];have hI:¬(n:Int)<(d0:Int):=by omega
   clear hlt
   go_enter func102,ntmps102
   go_wp2_with fail
   go_ret
   exact⟨rfl,ja⟩
 ·rw[if_neg hz];have hI:¬(o2:Int)=0:=by omega
  clear hz
  go_enter func102,ntmps102
  go_wp2_with fail
  go_ret
  exact⟨rfl,ja⟩
theorem JZ{l n:Nat}{P:Program}{ops:Array Oper}{rest:List Oper}{o:Oper}{a:Act}{w:World}{Q:Exit->Act->World->Prop}{v:Value}(hgd:o.guard=none)(hdf:∀c,o.op≠.defer c)(h:(execOp a.eval o).run P w=.ok (.value v) w)
  (k:wpListIn (Fence.wide.inRound l) n P ops Q rest (a.put o.dst v) w):wpListIn (Fence.wide.inRound l) n P ops Q (o::rest) a w:=
 wpListIn_plain hgd fun K hK=>by
  refine⟨fun _ _=>trivial,?_⟩;have e:o.semAt (Fence.wide.inRound l).round a.eval=execOp a.eval o:=Oper.semAt_some l _ _ hdf;rw[e,h];exact hK _ _ k
theorem JM{W:World}{l:Nat}{o o':Obj}(h:W.heap[l]?=some o) (ho:o.isCells=false) {p:Addr} {v:Value} (hp:W.cell? p=some v):(W.putObj l o').cell? p=some v:=by
 by_cases e:p.block=l
 ·exfalso
  unfold World.cell? at hp;rw[e,h] at hp
  cases o<;>first|(simp at hp;done)|(cases ho)
 ·exact(World.cell?_of_block (World.putObj_heap_other e)).trans hp
theorem ZN{W:World}{l:Nat}{o o':Obj}(h:W.heap[l]?=some o) (ho:o.isCells=false) {p:Addr} {v:Value} (hp:W.cell? p=some v) (hf:W.frozen? p=false):(W.putObj l o').frozen? p=false:=by
 by_cases e:p.block=l
 ·exfalso
  unfold World.cell? at hp;rw[e,h] at hp
  cases o<;>first|(simp at hp;done)|(cases ho)
 ·exact(World.frozen?_of_block (World.putObj_heap_other e)).trans hf
theorem WA.trans{K:Nat->Prop}{w w1 w2:World}(h:WA K w w1)(h2:WA K w1 w2):WA K w w2:=
 ⟨h2.os.trans h.os,h2.tape.trans h.tape,h2.output.trans h.output,Nat.le_trans h.size h2.size,fun g hg=>(h2.block g hg).trans (h.block g hg)⟩
theorem LK{n:Nat}(hn:5<=n){g:Operand}{ps:Array Tmp}{assign body:Code}{Q:Exit->Act->World->Prop}{a:Act}{w:World}{vX:FuncId}{caps:Array Value}{encs:Nat->Array Value}
  (hg:a.eval g=.func (.func vX) #[] caps) (hent:∀(args:Array Value) (W:World),(callFunc vX args).run prog W=.ok (.enter vX args) W)
  (K:Nat->Prop) (hKw:∀k,K k->k<w.heap.size) (N:Nat) (hps:∀i,ps.size=(encs i).size) (I:Nat->World->Prop)
  (hI:∀k A l o o',w.heap.size<=l->A.heap[l]?=some o->o.isCells=false->I k A->I k (A.putObj l o'))
  (hId:∀k W,I k W->I k W.drew)
  (h0:∀o1 o2,I N ((w.alloc o1).alloc o2))
  (hit:∀(l:Nat) (J:Nat->World->Prop) (W:World),(∀k W,J k W->J k W.drew)->(∀i W0,i<N->J (i+1) W0->YieldAt Fence.wide (n-1-1) prog l (encs i) W0 fun e W'=>e=.returned (.bool true)/\J i W'/\WA K W0 W')->Below w.heap.size w W->J N W->
   CallsIn Fence.wide (n-1) prog vX (#[.func (.yield l) #[] #[]]++caps) W fun e W'=>(∃v,e=.returned v)/\J 0 W')
  (pM:∀(l i:Nat) (W:World) (KK:Act->World->Prop),i<N->I (i+1) W->w.heap.size<=l->(∃o,W.heap[l]?=some o/\o.isCells=false)->
   (∀a1 W1,KeepsFrom w.heap.size W W1->WA K W W1->(∀o',body.wpIn (Fence.wide.inRound l) (n-1-1) prog (xP w.heap.size K (I i) (W1.putObj l o')) a1 (W1.putObj l o'))->KK a1 W1)->
   assign.wpIn (Fence.wide.inRound l) (n-1-1) prog (Exit.then KK (fun _ _ _=>False)) {tmps:=(ps.zip (encs i)).foldl (fun t (p,v)=>t.setIfInBounds p v) a.tmps,defers:=[]} W)
  (hdone:∀(D:Nat) (W:World),w.heap.size<=D->I 0 W->W.heap[D]?=some (.deferred (some []))->Q .normal {a with defers:={target:=.collected D,args:=#[]}::a.defers} W):
  (Code.rangeFunc g ps assign body).wpIn Fence.wide n prog Q a w:=by
 refine wpIn_rangeFunc ?_;intro fn hfn;obtain⟨rec,hrec⟩:∃rec:LoopState->Option Code->Loop,rec=fun st pe=>{state:=st,pending:=pe,fn,tmps:=a.tmps,params:=ps,assign,body,defers:=w.heap.size}:=⟨_,rfl⟩
 obtain⟨W1,hW1⟩:∃W1,(w.alloc (.deferred (some []))).alloc (.loop (rec .ready none))=W1:=⟨_,rfl⟩
 have hL1:W1.heap[w.heap.size+1]?=some (.loop (rec .ready none)):=by
  rw[<-hW1];have:=World.alloc_heap_new (w.alloc (.deferred (some []))) (.loop (rec .ready none));rwa [World.size_alloc] at this
 have hK1:W1.heap[w.heap.size]?=some (.deferred (some [])):=by
  rw[<-hW1];exact(Below.heap_alloc _ _ _ (by simp)).trans (World.alloc_heap_new w _)
 have hI1:I N W1:=by rw[<-hW1];exact h0 _ _
 have hb1:Below w.heap.size w W1:=by rw[<-hW1];exact((Below.refl _ w).alloc (Nat.le_refl _) _).alloc (by simp) _
 refine⟨w.heap.size+1,[{target:=.collected w.heap.size,args:=#[]}],W1,{target:=.fn (.func vX) caps,args:=#[.func (.yield (w.heap.size+1)) #[] #[]]},W1,vX,
  #[.func (.yield (w.heap.size+1)) #[] #[]]++caps,W1,?_,?_,?_,?_,fun _=>(by omega),?_⟩
 ·rw[<-hW1,hrec];exact run_enterLoop_outer _ _ _ _ _
 ·simp only[resolve,hg]
  simp[go_sem]
 ·intro f' hf';exact trivial
 ·simp[invoke,go_sem,hent]
 ·refine(hit (w.heap.size+1) (fun k W=>I k W/\W.heap[w.heap.size+1]?=some (.loop (rec .ready none))/\W.heap[w.heap.size]?=some (.deferred (some []))) W1 (fun k W h=>⟨hId k W h.1,h.2⟩) ?_ hb1 ⟨hI1,hL1,hK1⟩).mono ?_
  ·rintro i Wx hiN ⟨hi,hlx,hkx⟩;have hy:=run_yield (P:=prog) (args:=encs i) hlx (by rw[hrec];exact(hps i).symm);rw[hrec] at hy;refine⟨fn,_,assign,body,hy,roundIn_of_wpIn hfn (pM (w.heap.size+1) i Wx _ hiN hi (by omega) ⟨_,hlx,rfl⟩ (fun a1 Wy hkf hsk hbod=>?_))⟩;have hl':=hkf.same _ _ (by omega) hlx rfl;have hk':=hkf.same _ _ (Nat.le_refl _) hkx rfl;have hlt:=zA hl';refine⟨_,run_beginRound hl' (by rw[hrec]),?_⟩;have hl2:(Wy.putObj (w.heap.size+1) (.loop {rec .ready none with state:=.busy})).heap[w.heap.size+1]?=some (.loop {rec .ready none with state:=.busy}):=World.putObj_heap_same hlt;have hk2:(Wy.putObj (w.heap.size+1) (.loop {rec .ready none with state:=.busy})).heap[w.heap.size]?=some (.deferred (some [])):=(World.putObj_heap_other (by omega)).trans hk';refine wpIn_mono (hbod _) ?_;rintro e a3 W3 hp
   cases e with
   |normal=>
    obtain⟨hk3,hs3,hi3⟩:=hp;have hl3:=hk3.same _ _ (by omega) hl2 rfl;have hd3:=hk3.same _ _ (Nat.le_refl _) hk2 rfl;have hr:=run_endRound (P:=prog) none hl3;rw[hrec] at hr;refine⟨_,_,hr,rfl,⟨hI _ _ _ _ _ (by omega) hl3 rfl hi3,?_,(World.putObj_heap_other (by omega)).trans hd3⟩,?_⟩
    ·rw[World.putObj_heap_same (zA hl3),hrec]
     rfl
    ·refine hsk.trans ⟨hs3.os,hs3.tape,hs3.output,Nat.le_trans (by simp) (Nat.le_trans hs3.size (by simp)),fun q hq=>?_⟩;have hqw:=hKw q hq;rw[World.putObj_heap_other (by omega),hs3.block q hq,World.putObj_heap_other (by omega)]
   |ret=>exact hp.elim
   |exit id=>exact hp.elim
   |goto t=>exact hp.elim
   |panic ch=>exact hp.elim
   |outgrown=>exact hp.elim
  ·rintro e W2 ⟨⟨v9,rfl⟩,hi,hl',hk'⟩;have hr:=run_endLoop (P:=prog) hl' (by rw[hrec];simp);rw[hrec] at hr;exact⟨none,_,hr,hdone _ _ (Nat.le_refl _) (hI _ _ _ _ _ (by omega) hl' rfl hi) ((World.putObj_heap_other (by omega)).trans hk')⟩
theorem pairs_any(ao bo:Option Addr)(n c m d:Nat)(w:World):
  Calls prog 184 #[.slice ao n c,.slice bo m d] w fun e w'=>e=.returned (.func (.func 224) #[] #[.pointer (some ⟨w.heap.size,0,none⟩),.pointer (some ⟨w.heap.size+1,0,none⟩)])/\w'=(w.alloc (.cells #[.slice ao n c] 129)).alloc (.cells #[.slice bo m d] 129):=by
 go_enter func184,ntmps184
 go_wp2
 go_ret
 exact⟨rfl,rfl⟩
theorem pairs_in(n:Nat)(hn:3<=n)(l An Nn:Nat)(K:Nat->Prop)(hKA:K An)(hKN:K Nn)(xs ns:List Nat)(ba oa ca bn on cn:Nat)(J:Nat->World->Prop)(W:World)(hlen:xs.length<=1000000)(hln:ns.length=xs.length)
  (hA:W.heap[An]?=some (.cells #[.slice (some ⟨ba,oa,none⟩) xs.length ca] 129 (0,0))) (hN:W.heap[Nn]?=some (.cells #[.slice (some ⟨bn,on,none⟩) xs.length cn] 129 (0,0)))
  (hx:Q8 W ba oa xs) (hns:Q8 W bn on ns) (hKa:K ba) (hKn:K bn) (hJd:∀k W,J k W->J k W.drew)
  (hY:∀i W0,i<xs.length->J (i+1) W0->YieldAt Fence.wide (n-1) prog l #[ji (xs.getD (xs.length-1-i) 0),ji (ns.getD (xs.length-1-i) 0)] W0 fun e W'=>e=.returned (.bool true)/\J i W'/\WA K W0 W') (h0:J xs.length W):
  CallsIn Fence.wide n prog 224 #[.func (.yield l) #[] #[],.pointer (some ⟨An,0,none⟩),.pointer (some ⟨Nn,0,none⟩)] W fun e W'=>(∃v,e=.returned v)/\J 0 W':=by
 refine callsIn_of_wp func224 rfl trivial ?_ rfl;simp only[ntmps224,List.size_toArray,List.length_cons,List.length_nil,Nat.reduceAdd,Nat.reduceSub,Array.replicate_succ,Array.replicate_zero,List.push_toArray,List.append_toArray,List.nil_append,List.cons_append];have HY:=jh hY;have HX:=jh hx;have HNS:=jh hns;have HA:=jh hA;have HN:=jh hN;have HLN:=jh hln;obtain⟨m,hm⟩:=je (xs.length);have HM:=jh hm;rw[<-hm] at HA HN HY hlen h0 HLN;have H0:=jh h0;have hmI:(m:Int)<=1000000:=by omega
 have c0:W.cell? ⟨An,0,none⟩=some (.slice (some ⟨ba,oa,none⟩) m ca):=cell_of_row W An 0 _ _ (0,0) HA.out;have hn1:1<=n:=by omega
 clear hm hA hN hY hx hns hln h0
 gi_wp2_with fail
 gi_loopg [7] m (fun g i wr=>∃k:Nat,k<=m/\g=m-k/\i=.int .i64 (k:Int)/\Hid (J (m-k) wr)/\Hid (WA K W wr))
 case atStart=>exact⟨0,Nat.zero_le _,rfl,rfl,jh (by rw[Nat.sub_zero];exact H0.out),jh ⟨rfl,rfl,rfl,Nat.le_refl _,fun _ _=>rfl⟩⟩
 case round=>
  obtain⟨k,hk,S9,rfl,HJ,HS⟩:=hrel
  by_cases hlt:k<m
  ·have O6:(k:Int)<(m:Int):=by omega
   obtain⟨i,hi⟩:=je (m-1-k);have hik:m-k=i+1:=by omega
   have LY:=HY.out i wr.drew (by omega) (hJd _ _ (by have:=HJ.out;rwa [hik] at this));rw[show m-1-i=k by omega] at LY;obtain⟨x,hx⟩:∃x,xs.getD k 0=x:=⟨_,rfl⟩;obtain⟨y,hy⟩:∃y,ns.getD k 0=y:=⟨_,rfl⟩;have hxk:xs[k]?=some x:=by rw[<-hx,List.getD_eq_getElem?_getD,Jd (by rw[<-HM.out];omega)];rfl
   have hyk:ns[k]?=some y:=by rw[<-hy,List.getD_eq_getElem?_getD,Jd (by rw[HLN.out];omega)];rfl
   rw[hx,hy] at LY;unfold ji words at LY;have c1:wr.cell? ⟨An,0,none⟩=some (.slice (some ⟨ba,oa,none⟩) m ca):=cell_of_row wr An 0 _ _ (0,0) ((HS.out.block An hKA).trans HA.out);have c2:wr.cell? ⟨Nn,0,none⟩=some (.slice (some ⟨bn,on,none⟩) m cn):=cell_of_row wr Nn 0 _ _ (0,0) ((HS.out.block Nn hKN).trans HN.out);have x0:wr.cell? ⟨ba,oa+k*4,none⟩=_:=(World.cell?_of_block (HS.out.block ba hKa)).trans (HX.out k x hxk 0 (by decide));have x1:=(World.cell?_of_block (a:=⟨ba,oa+k*4+1,none⟩) (HS.out.block ba hKa)).trans (HX.out k x hxk 1 (by decide));have x2:=(World.cell?_of_block (a:=⟨ba,oa+k*4+2,none⟩) (HS.out.block ba hKa)).trans (HX.out k x hxk 2 (by decide));have x3:=(World.cell?_of_block (a:=⟨ba,oa+k*4+3,none⟩) (HS.out.block ba hKa)).trans (HX.out k x hxk 3 (by decide));have y0:wr.cell? ⟨bn,on+k*4,none⟩=_:=(World.cell?_of_block (HS.out.block bn hKn)).trans (HNS.out k y hyk 0 (by decide));have y1:=(World.cell?_of_block (a:=⟨bn,on+k*4+1,none⟩) (HS.out.block bn hKn)).trans (HNS.out k y hyk 1 (by decide));have y2:=(World.cell?_of_block (a:=⟨bn,on+k*4+2,none⟩) (HS.out.block bn hKn)).trans (HNS.out k y hyk 2 (by decide));have y3:=(World.cell?_of_block (a:=⟨bn,on+k*4+3,none⟩) (HS.out.block bn hKn)).trans (HNS.out k y hyk 3 (by decide));obtain⟨fn9,tmps9,assign9,body9,hy9,hR9⟩:=LY;have bI:=jh hR9;have HIK:=jh (show m-(k+1)=i/\i<m by omega);clear hR9 hx hy hxk hyk hik hi
   gi_wp2_with fail
   have hkI:¬((k:Int)<0):=by omega
   gi_region_with (have hy:=hy9;refine bI.out.mono ?_;rintro _ w9 ⟨rfl,hj9,hs9⟩)
   all_goals(
    have HJ9:=jh hj9;have oU:=jh (show WA K W w9 from⟨hs9.os.trans HS.out.os,hs9.tape.trans HS.out.tape,hs9.output.trans HS.out.output,Nat.le_trans HS.out.size hs9.size,fun g hg=>(hs9.block g hg).trans (HS.out.block g hg)⟩);clear hj9 hs9 c1 c2 x0 x1 x2 x3 y0 y1 y2 y3 hy
    gi_wp2_with fail
    gi_roundg i
    case rel=>exact⟨k+1,by omega,HIK.out.1.symm,by go_num,jh (by rw[HIK.out.1];exact HJ9.out),oU⟩
    case measure=>have:=HIK.out;omega)
  ·have hkm:k=m:=by omega
   subst hkm;have O6:¬((k:Int)<(k:Int)):=by omega
   gi_wp2_with fail
   exact⟨rfl,_,results_none rfl _ _ _,⟨_,rfl⟩,by have:=HJ.out;rwa [Nat.sub_self] at this⟩
theorem SSub_any{gp gq gg gh a b:Nat}(ha:a<gq)(L6:b<gq)(h1:1<gq)(hm:gq<jk)(w:World):
  Calls prog 114 #[qj gp gq gg gh,ji a,ji b] w fun e w'=>e=.returned (.tuple #[ji ((a+gq-b)%gq),.int .i64 0])/\Below w.heap.size w w':=by
 unfold qj;obtain⟨q,hq⟩:=je ((a+gq-b)%gq);have CE:=jh (fun w=>by have h9:=Sub_any ha h1 L6 hm w;rw[<-hq] at h9;unfold ji words at h9;exact h9);rw[<-hq];clear hq ha L6 h1 hm;unfold ji words
 go_enter func114,ntmps114
 go_upto_region 1 with fail
 obtain⟨w0,GG,e0,s0,J8,g0,HB0⟩:=Qt w 26 gp gq gg gh;rw[e0,s0,J8];clear e0 s0 J8;obtain⟨wz,AA,BB,RR,e9,Y5,h_1,h_2,V3,X4,HRR,HF,B,I7,l_1,NC,xA,Z5,U2⟩:=ZY w0 24 a b;rw[e9,Y5,h_1,h_2];clear e9 Y5 h_1 h_2;have G0:=jh (J3.later B.out g0);clear g0;have F8:=G0.out.2.1 0 (by omega);have D8:=G0.out.2.1 1 (by omega);have A8:=G0.out.2.1 2 (by omega);have Z7:=G0.out.2.1 3 (by omega);simp only[Nat.reduceAdd] at F8 D8 A8 Z7;obtain⟨X3,U4,J4,I4⟩:=jF V3.out;obtain⟨X5,H6,G6,F6⟩:=jF X4.out
 go_wp2_with fail
 clear X3 U4 J4 I4 X5 H6 G6 F6;clear F8 D8 A8 Z7;refine(CE.out _).mono ?_;rintro _ w3 ⟨rfl,hb⟩;obtain⟨V3,X4,HRR,HF,U2,B⟩:=mM hb V3 X4 HRR HF U2 B;clear hb;obtain⟨c0,c1,c2,c3,f0,f1,f2,f3⟩:=jU HRR.out HF.out
 go_wp2_with fail
 obtain⟨N7,B9⟩:=zP HRR B Z5 q;obtain⟨g0,g1,g2,g3⟩:=jF N7.out;refine bodyPost_ret (v:=.tuple #[ji q,.int .i64 0]) ?_ rfl ⟨rfl,jm HB0.out B9.out⟩
 simp[results,results114,go_sem,ji,words,g0,g1,g2,g3]
theorem Add_as{a n m q:Nat}{e9:Int}(hof:∀W,Calls prog 171 #[.agg #[.func (.func 264) #[] #[]],ji a,ji n,ji m] W fun e w'=>e=.returned (.tuple #[ji q,.int .i64 e9])/\Below W.heap.size W w')(w:World):
  Calls prog 221 #[ji a,ji n,ji m] w fun e w'=>e=.returned (.tuple #[ji q,.int .i64 e9])/\Below w.heap.size w w':=by
 have Y6:=jh hof;clear hof;unfold ji words
 go_enter func221,ntmps221
 go_wp2_with fail
 obtain⟨wz,AA,NN,MM,RR,e9,Y5,h_1,h_2,h_3,V3,D6,V4,HRR,HF,B,I7,l_1,NC,BI,xA,Z5,U2⟩:=zT w 24 a n m;rw[e9,Y5,h_1,h_2,h_3];clear e9 Y5 h_1 h_2 h_3;have CO:=Y6.out wz;unfold ji words at CO;refine CO.mono ?_;rintro _ w3 ⟨rfl,hb⟩;clear CO;obtain⟨V3,D6,V4,HRR,HF,U2,B⟩:=qQ hb V3 D6 V4 HRR HF U2 B;clear hb;obtain⟨c0,c1,c2,c3,f0,f1,f2,f3⟩:=jU HRR.out HF.out
 go_wp2_with fail
 obtain⟨N7,B9⟩:=zP HRR B Z5 q;obtain⟨g0,g1,g2,g3⟩:=jF N7.out;refine bodyPost_ret (v:=.tuple #[.agg #[.int .u64 (jg jf q 0),.int .u64 (jg jf q 1),.int .u64 (jg jf q 2),.int .u64 (jg jf q 3)],.int .i64 e9]) ?_ rfl ⟨rfl,B9.out⟩
 simp[results,results221,go_sem,g0,g1,g2,g3]
theorem SAdd_as{gp gq gg gh a b q:Nat}{e9:Int}(ha:∀W,Calls prog 221 #[ji a,ji b,ji gq] W fun e w'=>e=.returned (.tuple #[ji q,.int .i64 e9])/\Below W.heap.size W w')(w:World):
  Calls prog 182 #[qj gp gq gg gh,ji a,ji b] w fun e w'=>e=.returned (.tuple #[ji q,.int .i64 e9])/\Below w.heap.size w w':=by
 unfold qj;have CE:=jh (fun w=>by have h9:=ha w;unfold ji words at h9;exact h9);clear ha;unfold ji words
 go_enter func182,ntmps182
 go_upto_region 1 with fail
 obtain⟨w0,GG,e0,s0,J8,g0,HB0⟩:=Qt w 26 gp gq gg gh;rw[e0,s0,J8];clear e0 s0 J8;obtain⟨wz,AA,BB,RR,e9,Y5,h_1,h_2,V3,X4,HRR,HF,B,I7,l_1,NC,xA,Z5,U2⟩:=ZY w0 24 a b;rw[e9,Y5,h_1,h_2];clear e9 Y5 h_1 h_2;have G0:=jh (J3.later B.out g0);clear g0;have F8:=G0.out.2.1 0 (by omega);have D8:=G0.out.2.1 1 (by omega);have A8:=G0.out.2.1 2 (by omega);have Z7:=G0.out.2.1 3 (by omega);simp only[Nat.reduceAdd] at F8 D8 A8 Z7;obtain⟨X3,U4,J4,I4⟩:=jF V3.out;obtain⟨X5,H6,G6,F6⟩:=jF X4.out
 go_wp2_with fail
 clear X3 U4 J4 I4 X5 H6 G6 F6;clear F8 D8 A8 Z7;refine(CE.out _).mono ?_;rintro _ w3 ⟨rfl,hb⟩;obtain⟨V3,X4,HRR,HF,U2,B⟩:=mM hb V3 X4 HRR HF U2 B;clear hb;obtain⟨c0,c1,c2,c3,f0,f1,f2,f3⟩:=jU HRR.out HF.out
 go_wp2_with fail
 obtain⟨N7,B9⟩:=zP HRR B Z5 q;obtain⟨g0,g1,g2,g3⟩:=jF N7.out;refine bodyPost_ret (v:=.tuple #[.agg #[.int .u64 (jg jf q 0),.int .u64 (jg jf q 1),.int .u64 (jg jf q 2),.int .u64 (jg jf q 3)],.int .i64 e9]) ?_ rfl ⟨rfl,jm HB0.out B9.out⟩
 simp[results,results182,go_sem,g0,g1,g2,g3]
theorem SAdd_no{gp gq gg gh a:Nat}(ha:gq<=a)(h1:1<gq)(C9:a<jk)(hm:gq<jk)(w:World):
  Calls prog 182 #[qj gp gq gg gh,ji a,ji a] w fun e w'=>e=.returned (.tuple #[ji 0,.int .i64 1])/\Below w.heap.size w w':=
 SAdd_as (Add_as (fun W=>of_no h1 ha hm C9 C9 W)) w
theorem SAdd_low{gp gq gg gh a:Nat}(h1:gq<=1)(C9:a<jk)(hm:gq<jk)(w:World):
  Calls prog 182 #[qj gp gq gg gh,ji a,ji a] w fun e w'=>e=.returned (.tuple #[ji 0,.int .i64 1])/\Below w.heap.size w w':=
 SAdd_as (Add_as (fun W=>of_low h1 hm C9 C9 W)) w
theorem WO{gp gq gg gh b o cap:Nat}{xs:List Nat}(hx:∀x∈xs,x<jk)(hm:gq<jk)(w:World)(h:Q8 w b o xs)(hn0:xs.length<=1000):
  Calls prog 113 #[qj gp gq gg gh,.slice (some ⟨b,o,none⟩) xs.length cap] w fun e w'=>e=.returned (.bool (xs.all fun x=>decide (1<gq/\x<gq)))/\Below w.heap.size w w':=by
 unfold qj;have HX:=jh h;obtain⟨n,hn⟩:=je (xs.length);have HN:=jh hn;rw[<-hn];have hnb:n<=1000:=by omega
 have CE:=jh (fun(x:Nat) (iC:x<jk) (w:World)=>show∃(z:Nat) (e9:Int),(e9=0↔1<gq/\x<gq)/\Calls prog 182 #[qj gp gq gg gh,ji x,ji x] w (fun e w'=>e=.returned (.tuple #[ji z,.int .i64 e9])/\Below w.heap.size w w') from by by_cases h1:1<gq;by_cases hq:x<gq;exact⟨_,0,⟨fun _=>⟨h1,hq⟩,fun _=>rfl⟩,SAdd_any hq hq h1 hm w⟩;exact⟨0,1,⟨fun h=>by omega,fun h=>absurd h.2 hq⟩,SAdd_no (by omega) h1 iC hm w⟩;exact⟨0,1,⟨fun h=>by omega,fun h=>absurd h.1 h1⟩,SAdd_low (by omega) iC hm w⟩);have HXL:=jh hx;clear h hn hx hm hn0
 go_enter func113,ntmps113
 go_upto_region 1 with fail
 obtain⟨w0,e0⟩:=je (w.alloc (.cells (jG gp gq gg gh) 26));obtain⟨GG,J8⟩:=je (w.heap.size);have b0:=jc e0;have s0:w0.heap.size=w.heap.size+1:=by rw[e0];simp
 have g0:J3 w0 GG gp gq gg gh:=by rw[e0,J8];exact J3.new _ _ _ _ _ _
 rw[<-e0,<-J8];have HB0:=jh b0;clear e0 J8 b0 s0;have G0:=jh g0;clear g0
 go_wp2_with fail
 go_loopw [11] (fun i wr=>∃k:Nat,k<=n/\i=.int .i64 k/\Hid (∀x∈xs.take k,1<gq/\x<gq)/\Hid (J3 wr GG gp gq gg gh)/\Hid (Below w.heap.size w wr)) (fun i _=>n-(intOf i).toNat)
 case atStart=>exact⟨0,Nat.zero_le _,rfl,jh (by simp),G0,HB0⟩
 case round=>
  clear G0 HB0;obtain⟨k,hk,rfl,HT,G0,HB0⟩:=hrel
  by_cases hlt:k<n
  ·obtain⟨x,hx⟩:∃x,xs[k]?=some x:=⟨_,Jd (by rw[<-HN.out];exact hlt)⟩;have O6:(k:Int)<(n:Int):=by omega
   have G7:=jh hlt;have U9:=jh (HXL.out x (List.mem_of_getElem? hx));have HXK:=jh hx;have r0:=jj (HX.out k x hx 0 (by decide)) HB0.out;have r1:=jj (HX.out k x hx 1 (by decide)) HB0.out;have r2:=jj (HX.out k x hx 2 (by decide)) HB0.out;have r3:=jj (HX.out k x hx 3 (by decide)) HB0.out;rw[Nat.add_zero] at r0;clear hx hlt
   go_upto_region 4 with fail
   obtain⟨w3,e3⟩:=je (wr.alloc (.cells (jD x) 24));obtain⟨XX,hXX⟩:=je (wr.heap.size);have hb:=jc e3;have HV:=jh (show U0 w3 XX x by rw[e3,hXX];exact U0.new _ _ _ _ rfl);have HB0:=jw HB0 hb;have G0:=jh (G0.out.later hb);rw[<-e3,<-hXX];clear e3 hXX hb;obtain⟨y0,y1,y2,y3,y4,y5,y6,y7,y8,y9,y10,y11,y12,y13,y14,y15⟩:=aQ G0.out;obtain⟨r0,r1,r2,r3⟩:=jF HV.out
   go_wp2_with fail
   clear y0 y1 y2 y3 y4 y5 y6 y7 y8 y9 y10 y11 y12 y13 y14 y15 r0 r1 r2 r3;obtain⟨z,e9,he9,hC⟩:=CE.out x U9.out w3;unfold ji words qj at hC;have HE9:=jh he9;clear he9;refine hC.mono ?_;rintro _ w4 ⟨rfl,hb⟩;clear hC;have HB0:=jw HB0 hb;have G0:=jh (G0.out.later hb);clear hb HV
   go_upto_region 5 with fail
   obtain⟨w5,e5⟩:=je (w4.alloc (.cells (jD z) 24));have hb:=jc e5;have HB0:=jw HB0 hb;have G0:=jh (G0.out.later hb);rw[<-e5];clear e5 hb
   by_cases he:e9=0
   ·have he1:(e9 != 0)=false:=by rw[he];rfl
    have HLX:=jh (HE9.out.1 he);clear he
    go_wp2_with fail
    go_roundw
    case rel=>exact⟨k+1,G7.out,by go_num,jh (by intro y hy;rw[List.take_add_one,HXK.out] at hy;rcases List.mem_append.1 hy with h|h;exact HT.out y h;simp only[Option.toList_some,List.mem_singleton] at h;rw[h];exact HLX.out),G0,HB0⟩
    case measure=>simp[intOf];have:=G7.out;omega
   ·have he1:(e9 != 0)=true:=by simpa using he
    have HLX:=jh (show xs.all (fun x=>decide (1<gq/\x<gq))=false from List.all_eq_false.2 ⟨x,List.mem_of_getElem? HXK.out,by rw[decide_eq_false (fun h=>he (HE9.out.2 h))];decide⟩);clear he
    go_wp2_with fail
    go_ret
    rw[HLX.out];exact⟨rfl,HB0.out⟩
  ·obtain rfl:k=n:=by omega
   clear hlt;have HLX:=jh (show xs.all (fun x=>decide (1<gq/\x<gq))=true from List.all_eq_true.2 (fun x hx=>by exact decide_eq_true (HT.out x (by rw[List.take_of_length_le (by rw[<-HN.out];exact Nat.le_refl _)];exact hx))))
   go_wp2_with fail
   go_ret
   rw[HLX.out];exact⟨rfl,HB0.out⟩
end Go.Proofs.YtpkalgofejjggaaGreatDoor
