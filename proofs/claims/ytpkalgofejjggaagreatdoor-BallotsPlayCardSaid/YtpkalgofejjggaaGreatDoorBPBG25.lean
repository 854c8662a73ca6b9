/- A range over a function that counts down -/
import Derived.Test.YtpkalgofejjggaaGreatDoorBPBG04
import Derived.RangeFuncNested
import Derived.RangeFuncBound
import Derived.RangeFuncCalls
import Derived.RangeFuncLeaves
import Derived.OwnWalkIn
import Derived.TacticsInMore
import Derived.LoopNIn
import Derived.LoopIn
import Derived.RegionIn
import Derived.Sort.QuietIn
import Derived.Sort.LoopGhostIn
import Derived.Sort.CutIn
import Derived.Stop.RegionWithIn
set_option maxHeartbeats 4000000
set_option maxRecDepth 20000
namespace Go.Proofs.YtpkalgofejjggaaGreatDoor
open Go.ChangeShapes Go.WideShapes Go.ChangeAt Go.RowKit Go.Proofs.Tryz
theorem zA{w:World}{g:Nat}{o:Obj}(h:w.heap[g]?=some o):g<w.heap.size:=(J6.1 h).1
theorem YR{w w':World}(hb:Below w.heap.size w w'){g:Nat}{o:Obj}(ho:w.heap[g]?=some o):w'.heap[g]?=some o:=(hb.block g (zA ho)).trans ho
structure WA(K:Nat->Prop)(w w':World):Prop where
 os:w'.os=w.os
 tape:w'.tape=w.tape
 output:w'.output=w.output
 size:w.heap.size<=w'.heap.size
 block:∀g,K g->w'.heap[g]?=w.heap[g]?
def xP(B:Nat)(K:Nat->Prop)(I:World->Prop)(W:World):Exit->Act->World->Prop
 |.normal,_,W'=>KeepsFrom B W W'/\WA K W W'/\I W'
 |_,_,_=>False
theorem lY{n:Nat}(hn:5<=n){g:Operand}{ps:Array Tmp}{assign body:Code}{Q:Exit->Act->World->Prop}{a:Act}{w:World}{vX:FuncId}{caps:Array Value}{encs:Nat->Array Value}
  (hg:a.eval g=.func (.func vX) #[] caps) (hent:∀(args:Array Value) (W:World),(callFunc vX args).run prog W=.ok (.enter vX args) W)
  (K:Nat->Prop) (hKw:∀k,K k->k<w.heap.size) (N:Nat) (hps:∀i,ps.size=(encs i).size) (I:Nat->World->Prop)
  (hI:∀k A l o o',w.heap.size<=l->A.heap[l]?=some o->o.isCells=false->I k A->I k (A.putObj l o'))
  (h0:∀o1 o2,I N ((w.alloc o1).alloc o2))
  (hit:∀(l:Nat) (J:Nat->World->Prop) (W:World),(∀i W0,i<N->J (i+1) W0->YieldAt Fence.wide (n-1-1) prog l (encs i) W0 fun e W'=>e=.returned (.bool true)/\J i W'/\WA K W0 W')->Below w.heap.size w W->J N W->
   CallsIn Fence.wide (n-1) prog vX (#[.func (.yield l) #[] #[]]++caps) W fun e W'=>(∃v,e=.returned v)/\J 0 W')
  (a₁:Nat->Act)
  (hassign:∀(l i:Nat) (W:World) (K:Act->World->Prop),K (a₁ i) W->
   assign.wpIn (Fence.wide.inRound l) (n-1-1) prog (Exit.then K (fun _ _ _=>False)) {tmps:=(ps.zip (encs i)).foldl (fun t (p,v)=>t.setIfInBounds p v) a.tmps,defers:=[]} W)
  (hbody:∀(l i:Nat) (W:World),i<N->I (i+1) W->body.wpIn (Fence.wide.inRound l) (n-1-1) prog (xP w.heap.size K (I i) W) (a₁ i) W)
  (hdone:∀(D:Nat) (W:World),w.heap.size<=D->I 0 W->W.heap[D]?=some (.deferred (some []))->Q .normal {a with defers:={target:=.collected D,args:=#[]}::a.defers} W):
  (Code.rangeFunc g ps assign body).wpIn Fence.wide n prog Q a w:=by
 refine wpIn_rangeFunc ?_;intro fn hfn;obtain⟨rec,hrec⟩:∃rec:LoopState->Option Code->Loop,rec=fun st pe=>{state:=st,pending:=pe,fn,tmps:=a.tmps,params:=ps,assign,body,defers:=w.heap.size}:=⟨_,rfl⟩
 obtain⟨W1,hW1⟩:∃W1,(w.alloc (.deferred (some []))).alloc (.loop (rec .ready none))=W1:=⟨_,rfl⟩
 have hL1:W1.heap[w.heap.size+1]?=some (.loop (rec .ready none)):=by
  rw[<-hW1];have:=World.alloc_heap_new (w.alloc (.deferred (some []))) (.loop (rec .ready none));rwa [World.size_alloc] at this
 have hK1:W1.heap[w.heap.size]?=some (.deferred (some [])):=by
  rw[<-hW1];exact(Below.heap_alloc _ _ _ (by simp)).trans (World.alloc_heap_new w _)
 have hI1:I N W1:=by rw[<-hW1];exact h0 _ _
 have hb1:Below w.heap.size w W1:=by rw[<-hW1];exact((Below.refl _ w).alloc (Nat.le_refl _) _).alloc (by simp) _
 refine⟨w.heap.size+1,[{target:=.collected w.heap.size,args:=#[]}],W1,{target:=.fn (.func vX) caps,args:=#[.func (.yield (w.heap.size+1)) #[] #[]]},W1,vX,
  #[.func (.yield (w.heap.size+1)) #[] #[]]++caps,W1,?_,?_,?_,?_,fun _=>(by omega),?_⟩
 ·rw[<-hW1,hrec];exact run_enterLoop_outer _ _ _ _ _
 ·simp only[resolve,hg]
  simp[go_sem]
 ·intro f' hf';exact trivial
 ·simp[invoke,go_sem,hent]
 ·refine(hit (w.heap.size+1) (fun k W=>I k W/\W.heap[w.heap.size+1]?=some (.loop (rec .ready none))/\W.heap[w.heap.size]?=some (.deferred (some []))) W1 ?_ hb1 ⟨hI1,hL1,hK1⟩).mono ?_
  ·rintro i Wy hiN ⟨hi,hl',hk'⟩;have hlt:=zA hl';have hy:=run_yield (P:=prog) (args:=encs i) hl' (by rw[hrec];exact(hps i).symm);rw[hrec] at hy;refine⟨fn,_,assign,body,hy,roundIn_of_wpIn hfn (hassign _ i Wy _ ⟨_,run_beginRound hl' (by rw[hrec]),?_⟩)⟩;have hl2:(Wy.putObj (w.heap.size+1) (.loop {rec .ready none with state:=.busy})).heap[w.heap.size+1]?=some (.loop {rec .ready none with state:=.busy}):=World.putObj_heap_same hlt;have hk2:(Wy.putObj (w.heap.size+1) (.loop {rec .ready none with state:=.busy})).heap[w.heap.size]?=some (.deferred (some [])):=(World.putObj_heap_other (by omega)).trans hk';refine wpIn_mono (hbody _ i _ hiN (hI _ _ _ _ _ (by omega) hl' rfl hi)) ?_;rintro e a3 W3 hp
   cases e with
   |normal=>
    obtain⟨hk3,hs3,hi3⟩:=hp;have hl3:=hk3.same _ _ (by omega) hl2 rfl;have hd3:=hk3.same _ _ (Nat.le_refl _) hk2 rfl;have hr:=run_endRound (P:=prog) none hl3;rw[hrec] at hr;refine⟨_,_,hr,rfl,⟨hI _ _ _ _ _ (by omega) hl3 rfl hi3,?_,(World.putObj_heap_other (by omega)).trans hd3⟩,?_⟩
    ·rw[World.putObj_heap_same (zA hl3),hrec]
     rfl
    ·exact⟨hs3.os,hs3.tape,hs3.output,Nat.le_trans (by simp) (Nat.le_trans hs3.size (by simp)),fun q hq=>by
      have hqw:=hKw q hq
      rw[World.putObj_heap_other (by omega),hs3.block q hq,World.putObj_heap_other (by omega)]⟩
   |ret=>exact hp.elim
   |exit id=>exact hp.elim
   |goto t=>exact hp.elim
   |panic ch=>exact hp.elim
   |outgrown=>exact hp.elim
  ·rintro e W2 ⟨⟨v9,rfl⟩,hi,hl',hk'⟩;have hr:=run_endLoop (P:=prog) hl' (by rw[hrec];simp);rw[hrec] at hr;exact⟨none,_,hr,hdone _ _ (Nat.le_refl _) (hI _ _ _ _ _ (by omega) hl' rfl hi) ((World.putObj_heap_other (by omega)).trans hk')⟩
theorem NW(n:Nat)(hn:3<=n)(l Bn:Nat)(K:Nat->Prop)(hKB:K Bn)(L:List Nat)(v:Value)(J:Nat->World->Prop)(W:World)(hlen:L.length<=1000000)
  (hBn:W.heap[Bn]?=some (.cells #[v] 293 (0,0))) (hv:F7 .u64 W v L) (hvK:∀g,v.ownBlock=some g->K g)
  (hY:∀i W0,i<L.length->J (i+1) W0->YieldAt Fence.wide (n-1) prog l #[.int .i64 i,.int .u64 (L.getD i 0)] W0 fun e W'=>e=.returned (.bool true)/\J i W'/\WA K W0 W') (h0:J L.length W):
  CallsIn Fence.wide n prog 277 #[.func (.yield l) #[] #[],.pointer (some ⟨Bn,0,none⟩)] W fun e W'=>(∃v,e=.returned v)/\J 0 W':=by
 refine callsIn_of_wp func277 rfl trivial ?_ rfl;simp only[ntmps277,List.size_toArray,List.length_cons,List.length_nil,Nat.reduceAdd,Nat.reduceSub,Array.replicate_succ,Array.replicate_zero,List.push_toArray,List.append_toArray,List.nil_append,List.cons_append];have HY:=jh hY;have HV:=jh hv;have HB:=jh hBn;obtain⟨ao,cap,rfl,h1,h2,h3,h4⟩:=hv;unfold maxLen at h2;obtain⟨m,hm⟩:=je (L.length);have HM:=jh hm;rw[<-hm] at h1 h4 HB HV hvK hlen;have H4:=jh h4;have HVK:=jh hvK;have hmI:(m:Int)<=1000000:=by omega
 have c0:W.cell? ⟨Bn,0,none⟩=some (.slice ao m cap):=cell_of_row W Bn 0 _ _ (0,0) HB.out;have hn1:1<=n:=by omega
 clear hm h3 h4 hBn hY hvK
 gi_wp2_with fail
 gi_loopg [3] m (fun g i wr=>∃k:Nat,k<=m/\g=k/\i=.int .i64 ((k:Int)-1)/\Hid (J k wr)/\Hid (WA K W wr))
 case atStart=>exact⟨m,Nat.le_refl _,rfl,rfl,jh (by rw[HM.out];exact h0),jh ⟨rfl,rfl,rfl,Nat.le_refl _,fun _ _=>rfl⟩⟩
 case round=>
  obtain⟨k,hk,S9,rfl,HJ,HS⟩:=hrel;have hbn:wr.heap[Bn]?=_:=(HS.out.block Bn hKB).trans HB.out;have c1:wr.cell? ⟨Bn,0,none⟩=some (.slice ao m cap):=cell_of_row wr Bn 0 _ _ (0,0) hbn
  rcases Nat.eq_zero_or_pos k with rfl|hkp
  ·have hkI:¬((0:Int)<=((0:Nat):Int)-1):=by omega
   gi_wp2_with fail
   exact⟨rfl,_,results_none rfl _ _ _,⟨_,rfl⟩,HJ.out⟩
  ·obtain⟨i,rfl⟩:∃i,k=i+1:=⟨k-1,by omega⟩;rw[show(((i+1:Nat):Int)-1)=(i:Int) by omega];have hiI:(i:Int)<(m:Int):=by omega
   have hi0:(0:Int)<=(i:Int):=by omega
   obtain⟨b,o,rfl,hc⟩:=H4.out (by omega);have hkb:K b:=HVK.out b rfl;obtain⟨x,hx⟩:∃x,L.getD i 0=x:=⟨_,rfl⟩;have hil:i<L.length:=by rw[<-HM.out];omega
   have hcx:wr.cell? ⟨b,o+i,none⟩=some (.int .u64 x):=by
    have h9:=hc i x (by rw[<-hx,List.getD_eq_getElem?_getD,List.getElem?_eq_getElem hil];rfl);rw[<-h9];exact World.cell?_of_block (HS.out.block b hkb)
   have HX:=jh hx;have LY:=HY.out i wr hil HJ.out;rw[HX.out] at LY;obtain⟨fn9,tmps9,assign9,body9,hy9,hR9⟩:=LY;have bI:=jh hR9;clear hx hR9 hc
   gi_wp2_with fail
   refine bI.out.mono ?_;rintro _ w9 ⟨rfl,hj9,hs9⟩;have HJ9:=jh hj9;have oU:=jh (show WA K W w9 from⟨hs9.os.trans HS.out.os,hs9.tape.trans HS.out.tape,hs9.output.trans HS.out.output,Nat.le_trans HS.out.size hs9.size,fun g hg=>(hs9.block g hg).trans (HS.out.block g hg)⟩);clear hj9 hs9
   gi_wp2_with fail
   gi_roundg i
   case rel=>exact⟨i,by omega,rfl,rfl,HJ9,oU⟩
   case measure=>omega
end Go.Proofs.YtpkalgofejjggaaGreatDoor
