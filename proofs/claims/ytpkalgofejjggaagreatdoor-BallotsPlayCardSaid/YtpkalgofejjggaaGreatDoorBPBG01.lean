/- A hash of noughts -/
import Derived.WalkKit
import Derived.ProofKit
import Derived.OpenShut
import Derived.Deep.DeepHandedRow
import Derived.Deep.Slices
import Derived.Lib.LaidTab
import Derived.Lib.Hide
import Derived.Laws.StructEq
namespace Go.Proofs.YtpkalgofejjggaaGreatDoor
open Go.ChangeShapes Go.WideShapes Go.ChangeAt Go.RowKit Go.Deep
theorem jh{p:Prop}(h:p):RowKit.Hid p:=h
theorem jb{W W':World}{k:Nat}{v}(hb:Below W.heap.size W W')(h:RowKit.Hid (W.heap[k]?=some v)):RowKit.Hid (W'.heap[k]?=some v):=Lib.hid ((hb.block _ (Array.getElem?_eq_some_iff.1 h.out).1).trans h.out)
theorem ja{W:World}{o:Obj}:Below W.heap.size W (W.alloc o):=(Below.refl _ _).alloc (Nat.le_refl _) _
theorem jc{W V:World}{o:Obj}(e:V=W.alloc o):Below W.heap.size W V:=by rw[e];exact ja
theorem je{α:Sort _}(x:α):∃y,y=x:=⟨x,rfl⟩
abbrev jP(b o:Nat):Value:=.pointer (some ⟨b,o,none⟩)
abbrev jA:Array Value:=#[.int .u64 0,.int .u64 0,.int .u64 0,.int .u64 0]
abbrev jB:Array Value:=#[.int .u64 0,.int .u64 0,.int .u64 0,.int .u64 0,.int .u64 0,.int .u64 0,.int .u64 0,.int .u64 0]
abbrev jC:Array Value:=#[.int .u8 0,.int .u8 0,.int .u8 0,.int .u8 0,.int .u8 0,.int .u8 0,.int .u8 0,.int .u8 0,.int .u8 0,.int .u8 0,.int .u8 0,.int .u8 0,.int .u8 0,.int .u8 0,.int .u8 0,.int .u8 0,.int .u8 0,.int .u8 0,.int .u8 0,.int .u8 0,.int .u8 0,.int .u8 0,.int .u8 0,.int .u8 0,.int .u8 0,.int .u8 0,.int .u8 0,.int .u8 0,.int .u8 0,.int .u8 0,.int .u8 0,.int .u8 0]
theorem U3{n:Nat}{w:World}:Below n w w:=Below.refl _ _
theorem jQ{w:World}{o:Obj}:(w.alloc o).heap[w.heap.size]?=some o:=heap_alloc_new _ _
theorem jv{n m k:Nat}(h:n<m)(h2:m<=k):n<k:=Nat.lt_of_lt_of_le h h2
theorem J6{α:Type _}{xs:Array α}{i:Nat}{b:α}:xs[i]?=some b↔∃h:i<xs.size,xs[i]=b:=Array.getElem?_eq_some_iff
theorem Jd{α:Type _}{l:List α}{i:Nat}(h:i<l.length):l[i]?=some l[i]:=List.getElem?_eq_getElem h
theorem zo{α:Type _}{a:α}{l:List α}{i:Nat}:(a::l).take (i+1)=a::l.take i:=List.take_succ_cons
theorem zn{α:Type _}{l:List α}:l.take 0=[]:=List.take_zero
theorem zm{α:Type _}{a:α}{l:List α}{i:Nat}:(a::l).drop (i+1)=l.drop i:=List.drop_succ_cons
theorem zl{α:Type _}{l:List α}:l.drop 0=l:=List.drop_zero
theorem qJ(W:World)(o:Obj):∃(V:World) (B:Nat),V=W.alloc o/\B=W.heap.size/\Below W.heap.size W V:=⟨_,_,rfl,rfl,ja⟩
theorem jl{a b c:Nat}(h:RowKit.Hid (a<b))(hb:b<=c):RowKit.Hid (a<c):=Lib.hid (Nat.lt_of_lt_of_le h.out hb)
theorem pa(l:List Value)(i:Nat)(v:Value):l.toArray.setIfInBounds i v=(l.set i v).toArray:=by simp
theorem pb(a b:Value)(l:List Value):(a::l).set 0 b=b::l:=rfl
theorem pc(a b:Value)(l:List Value)(i:Nat):(a::l).set (i+1) b=a::l.set i b:=rfl
section
variable {H:Type}{enc:TypeId×Value->H}{P:Program}
theorem uF(hl:laidOutB P=true){W W':World}{B:Nat}(hb:Below B W W'){sp:Nat->Bool}:
  ∀{ts:List TypeId} {vs:List Value} {ds:List (DataW H)} {ps:List MemPlace},(∀t∈ts,P.readableRec t=true/\t<P.types.size)->
   DataW.TrodAll enc P W 0 (fun _=>true) true ts vs ds ps->(∀x∈ps,x.block<B)->(∀x∈ps,sp x.block=true)->DataW.TrodAll enc P W' 0 sp true ts vs ds ps
 |[],_,_,_,_,h,_,_=>by
  obtain⟨rfl,rfl,rfl⟩:=trodAll_nil h;exact trodAll_mk0
 |t::ts,_,_,_,hr,h,hlt,hsp=>by
  obtain⟨v,vs,d,ds,a,b,rfl,rfl,rfl,h1,h2⟩:=trodAll_cons h;refine⟨a,b,?_,uF hl hb (fun t ht=>hr t (List.mem_cons_of_mem _ ht)) h2 (fun x hx=>hlt x (List.mem_append_right _ hx)) (fun x hx=>hsp x (List.mem_append_right _ hx)),rfl⟩;have h0:=hr t (List.mem_cons_self ..);refine WideElems.Trod_stays hl h0.1 h0.2 h1 (fun x hx=>?_) (fun x hx=>hsp x (List.mem_append_left _ hx));have hx':=hlt x (List.mem_append_left _ hx)
  cases x with
  |cell b o=>exact World.cell?_of_block (w:=W) (hb.block b hx')
  |map b=>exact hb.block b hx'
theorem law_post{f:Func}{s:ChangeSpec}{k:FuncId}{args:Array Value}{W:World}{ds gs:List (DataW H)}{before:List MemPlace}{tb:TypeId}
  (hl:laidOutB P=true) (hread:∀t∈f.params.toList,P.readableRec t=true/\t<P.types.size) (hvars:s.vars=[]) (hres:f.resultTypes=#[tb]) (htb:P.underlying tb=some .bool)
  (hs:∀ds:List (DataW H),ds.length=f.params.toList.length->s.fn H (ds++[])={results:=[.lit (.bool true)],args:=ds})
  (hW:DataW.Whole enc P f.params.toList s.vars false W args.toList ds gs before)
  (h:Calls P k args W fun e w'=>e=.returned (.bool true)/\Below W.heap.size W w'):
  Calls P k args W fun e W'=>∃v,e=.returned v/\s.post enc P f false true false false W args v W':=by
 refine h.mono fun e W' ⟨he,hb⟩=>?_
 subst he;have hlt:=hW.lt;have hW':=hW;obtain⟨p,q,hA,hV,rfl,hfz,hnd⟩:=hW';rw[hvars] at hV;obtain⟨rfl,rfl⟩:=trodVars_none hV
 have hlen:ds.length=f.params.toList.length:=by
  clear hs hlt hW hfz hnd
  generalize f.params.toList=ts at hA
  generalize args.toList=vs at hA
  clear hread
  induction ts generalizing vs ds p with
  |nil=>obtain⟨rfl,rfl,rfl⟩:=trodAll_nil hA;rfl
  |cons t ts ih=>
   obtain⟨v,vs,d,ds,a,b,rfl,rfl,rfl,h1,h2⟩:=trodAll_cons hA
   simp[ih _ _ h2]
 refine⟨_,rfl,ds,[],_,[],p,[],hW,?_,?_,?_,hb.frame _,fun h=>by cases h⟩
 ·rw[hs ds hlen,hres];exact trodAll_cons_mk (shut_bool htb _) trodAll_mk0
 ·rw[hs ds hlen];simp only[List.append_nil] at hlt;exact uF hl hb hread hA (fun x hx=>hlt x hx) (fun x hx=>by simpa using hlt x hx)
 ·rw[hs ds hlen,hvars];exact rfl
end
section
variable {H:Type}{enc:TypeId×Value->H}{P:Program}{w:World}{base:Nat}{spare:Nat->Bool}{held:Bool}
def Jf(P:Program):(fuel:Nat)->TypeId->Option (List IntKind)
 |0,_=>Option.none
 |n+1,t=>
  match P.underlying t with
  |some (.int k)=>some [k]
  |some (.array m e)=>(Jf P n e).bind fun ks=>if P.cellsOf e=ks.length/\P.cellsOf t=m*ks.length then some (List.replicate m ks).flatten else Option.none
  |some (.struct fs)=>(fs.toList.mapM fun f=>(Jf P n f.type).map fun ks=>(f,ks)).bind fun l=>
    if l.foldl (fun(o:Option Nat) x=>o.bind fun o=>if x.1.offset=o/\P.cellsOf x.1.type=x.2.length then some (o+x.2.length) else Option.none) (some 0)=some (P.cellsOf t) then some (l.flatMap (·.2)) else Option.none
  |_=>Option.none
def Ints:List IntKind->List Value->Prop
 |[],[]=>True
 |k::ks,v::vs=>(∃n:Int,v=.int k n/\(Lit.int k n).wf=true)/\Ints ks vs
 |_,_=>False
theorem Ints.append:∀{ks ks':List IntKind} {vs vs':List Value},Ints ks vs->Ints ks' vs'->Ints (ks++ks') (vs++vs')
 |[],_,[],_,_,h=>h
 |[],_,_::_,_,h,_=>h.elim
 |_::_,_,[],_,h,_=>h.elim
 |_::_,_,_::_,_,h,h'=>⟨h.1,h.2.append h'⟩
theorem DV{cs:List Value}(h:Ints [] cs):cs=[]:=by
 cases cs with
 |nil=>rfl
 |cons _ _=>exact h.elim
theorem Ji{k:IntKind}{ks:List IntKind}{cs:List Value}(h:Ints (k::ks) cs):∃(n:Int) (r:List Value),cs=.int k n::r/\(Lit.int k n).wf=true/\Ints ks r:=by
 cases cs with
 |nil=>exact h.elim
 |cons v r=>
  obtain⟨⟨n,rfl,hw⟩,hr⟩:=h;exact⟨n,r,rfl,hw,hr⟩
theorem PD{ks:List IntKind}{c:Nat}(hc:c=ks.length):∀(m:Nat) (cs:List Value),cs.length=m*c->(∀i,i<m->Ints ks ((cs.drop (i*c)).take c))->Ints (List.replicate m ks).flatten cs
 |0,cs,hlen,_=>by
  have:cs=[]:=List.length_eq_zero_iff.1 (by simpa using hlen);subst this
  trivial
 |m+1,cs,hlen,h=>by
  rw[List.replicate_succ,List.flatten_cons,<-List.take_append_drop c cs];refine Ints.append ?_ (PD hc m _ (by simp[hlen,Nat.succ_mul]) fun i hi=>?_)
  ·simpa using h 0 (by omega)
  ·have:=h (i+1) (by omega)
   rwa [List.drop_drop,show c+i*c=(i+1)*c by rw[Nat.succ_mul];omega]
theorem aJ{cs:List Value}:∀(l:List (Field×List IntKind)) (o e:Nat),
  l.foldl (fun(o:Option Nat) x=>o.bind fun o=>if x.1.offset=o/\P.cellsOf x.1.type=x.2.length then some (o+x.2.length) else Option.none) (some o)=some e->
  e=cs.length->(∀x∈l,Ints x.2 ((cs.drop x.1.offset).take (P.cellsOf x.1.type)))->Ints (l.flatMap (·.2)) (cs.drop o)
 |[],o,e,h,he,_=>by
  obtain rfl:o=e:=by simpa using h
  subst he
  simp[Ints]
 |x::l,o,e,h,he,hx=>by
  have hnone:∀l:List (Field×List IntKind),l.foldl (fun(o:Option Nat) x=>o.bind fun o=>if x.1.offset=o/\P.cellsOf x.1.type=x.2.length then some (o+x.2.length) else Option.none) Option.none=Option.none:=by
   intro l
   induction l with
   |nil=>rfl
   |cons y l ih=>simpa using ih
  rw[List.foldl_cons] at h;simp only[Option.bind_some] at h
  by_cases hc:x.1.offset=o/\P.cellsOf x.1.type=x.2.length
  ·rw[if_pos hc] at h;have h1:=hx x (List.mem_cons_self ..);rw[hc.1,hc.2] at h1;have h2:=aJ l (o+x.2.length) e h he (fun y hy=>hx y (List.mem_cons_of_mem _ hy));rw[List.flatMap_cons,<-List.take_append_drop x.2.length (cs.drop o),List.drop_drop];exact h1.append h2
  ·rw[if_neg hc,hnone] at h
   cases h
theorem mapM_mem{α β:Type}{g:α->Option β}:∀{l:List α} {r:List β},l.mapM g=some r->∀y∈r,∃x∈l,g x=some y
 |[],r,h,y,hy=>by
  obtain rfl:r=[]:=by simpa using h.symm
  cases hy
 |x::l,r,h,y,hy=>by
  rw[List.mapM_cons] at h
  cases hx:g x with
  |none=>simp[hx] at h
  |some z=>
   cases hl:l.mapM g with
   |none=>simp[hx,hl] at h
   |some r'=>
    obtain rfl:r=z::r':=by simpa[hx,hl] using h.symm
    rcases List.mem_cons.1 hy with rfl|hy
    ·exact⟨x,List.mem_cons_self ..,hx⟩
    ·obtain⟨x',h1,h2⟩:=mapM_mem hl y hy;exact⟨x',List.mem_cons_of_mem _ h1,h2⟩
theorem JD:∀(n:Nat) {t:TypeId} {ks:List IntKind} {fuel:Nat} {cs:List Value} {x:DataW H×List MemPlace},Jf P n t=some ks->
  DataW.trod enc P w base spare held fuel t cs=some x->Ints ks cs
 |0,_,_,_,_,_,hk,_=>by simp[Jf] at hk
 |n+1,t,ks,fuel,cs,x,hk,h=>by
  unfold Jf at hk
  split at hk
  ·rename_i k ht
   obtain rfl:ks=[k]:=by simpa using hk.symm
   obtain⟨m,rfl,h2,h3⟩:=DataW.trod_int ht h;exact⟨⟨m,rfl,by simpa using h3⟩,trivial⟩
  ·rename_i m e ht
   cases he:Jf P n e with
   |none=>simp[he] at hk
   |some ke=>
    simp only[he,Option.bind_some] at hk
    by_cases hc:P.cellsOf e=ke.length/\P.cellsOf t=m*ke.length
    ·rw[if_pos hc] at hk;obtain rfl:ks=_:=(Option.some.inj hk).symm;obtain⟨xs,m',_,_,hlen,hxs,hel⟩:=DataW.trod_array ht h;refine PD rfl m cs (by rw[hlen,hc.2]) fun i hi=>?_
     have h1:=hel i hi;rw[hc.1] at h1;rw[List.getElem?_eq_getElem (by omega)] at h1;exact JD n he h1
    ·rw[if_neg hc] at hk;cases hk
  ·rename_i fs ht
   cases hl:fs.toList.mapM (fun f=>(Jf P n f.type).map fun ks=>(f,ks)) with
   |none=>rw[hl] at hk;cases hk
   |some l=>
    rw[hl,Option.bind_some] at hk
    split at hk
    ·rename_i hc
     obtain rfl:ks=_:=(Option.some.inj hk).symm;obtain⟨xs,m',_,_,hlen,hxs,hel⟩:=DataW.trod_struct ht h;refine aJ (P:=P) l 0 _ hc hlen.symm fun y hy=>?_
     obtain⟨f,hf,hfy⟩:=mapM_mem hl y hy
     cases hkf:Jf P n f.type with
     |none=>simp[hkf] at hfy
     |some kf=>
      obtain rfl:y=(f,kf):=by simpa[hkf] using hfy.symm
      obtain⟨i,hi⟩:=List.mem_iff_getElem?.1 hf;have h1:=hel i f (by simpa using hi)
      have hi':i<fs.size:=by
       rcases Nat.lt_or_ge i fs.size with h'|h'
       ·exact h'
       ·simp[Array.getElem?_eq_none h'] at hi
      rw[List.getElem?_eq_getElem (by omega)] at h1;exact JD n hkf h1
    ·cases hk
  ·cases hk
end
theorem OG{w:World}{a:Addr}{v:Value}(h:w.cell? a=some v):a.spot=Option.none:=by
 unfold World.cell? at h
 split at h
 ·rename_i c e f hb
  cases hs:a.spot with
  |none=>rfl
  |some x=>rw[hs] at h;simp at h
 ·cases h
section
variable {H:Type}{enc:TypeId×Value->H}{P:Program}{w:World}
end
theorem KP{P:Program}(w:World)(e:TypeId)(hagg:(isAgg e).run P w=.ok false w)(xs:Array Value)(i:Nat)(v:Value)(h:xs[i]?=some v):(part e xs i).run P w=.ok v w:=by
 simp[part,hagg,h]
theorem Je{P:Program}(w:World)(d:Nat)(t e:TypeId)(k:IntKind)(len:Nat)(ht:P.underlying t=some (.array len e))(he:P.underlying e=some (.int k))(hagg:∀w,(isAgg e).run P w=.ok false w)(hsz:∀w,(sizeOf e).run P w=.ok 1 w)
  (xs ys:Array Value) (f g:Nat->Int) (hx:∀i,i<len->xs[i]?=some (.int k (f i))) (hy:∀i,i<len->ys[i]?=some (.int k (g i))):
  (Op.equalIn (d+2) t (.agg xs) (.agg ys)).run P w=.ok ((List.range len).all fun i=>f i==g i) w:=by
 rw[Op.equalIn];simp only[Sem.run_bind,run_underlying ht,Result.andThen_ok,hsz];rw[Std.Legacy.Range.forIn_eq_forIn_range'];simp only[Std.Legacy.Range.size,Nat.sub_zero,Nat.add_sub_cancel,Nat.div_one]
 have key:∀(n s:Nat),s+n=len->(Sem.run P ((forIn (List.range' s n) ((Option.none,()):Option Bool×Unit) fun i r=>do
   let a <-part e xs (i*1)
   let b <-part e ys (i*1)
   let c <-Op.equalIn (d+1) e a b
   if(!c)=true then pure (ForInStep.done (some false,())) else pure (ForInStep.yield (Option.none,())))) w)=
   .ok (if(List.range' s n).all (fun i=>f i==g i)=true then((Option.none,()):Option Bool×Unit) else(some false,())) w:=by
  intro n
  induction n with
  |zero=>
   intro s hs;simp only[List.range'_zero,List.forIn_nil]
   simp
  |succ n ih=>
   intro s hs;simp only[List.range'_succ,List.forIn_cons,Sem.run_bind,Nat.mul_one];rw[KP w e (hagg w) xs s _ (hx s (by omega))];simp only[Result.andThen_ok];rw[KP w e (hagg w) ys s _ (hy s (by omega))];have hq:(Op.equalIn (d+1) e (.int k (f s)) (.int k (g s))).run P w=.ok (f s==g s) w:=by simp[Op.equalIn,run_underlying he]
   simp only[Result.andThen_ok,hq];rw[List.all_cons]
   generalize (f s==g s)=c
   have hi:=ih (s+1) (by omega);simp only[Nat.mul_one] at hi
   cases c
   ·simp
   ·simp only[Bool.not_true,Bool.false_eq_true,if_false,Bool.true_and,Sem.run_pure,Result.andThen_ok];exact hi
 have hk:=key len 0 (by omega);rw[hk,List.range_eq_range'];simp only[Result.andThen_ok]
 cases(List.range' 0 len).all fun i=>f i==g i<;>simp
theorem NU{P:Program}(w:World)(t e:TypeId)(k:IntKind)(len:Nat)(ht:P.underlying t=some (.array len e))(he:P.underlying e=some (.int k))(hagg:∀w,(isAgg e).run P w=.ok false w)(hsz:∀w,(sizeOf e).run P w=.ok 1 w)
  (xs ys:Array Value) (f g:Nat->Int) (hx:∀i,i<len->xs[i]?=some (.int k (f i))) (hy:∀i,i<len->ys[i]?=some (.int k (g i))):
  (binOp .eql t (.agg xs) (.agg ys)).run P w=.ok (.bool ((List.range len).all fun i=>f i==g i)) w:=by
 simp only[binOp]
 simp[Op.equal,Op.maxDepth,Je w 9998 t e k len ht he hagg hsz xs ys f g hx hy]
theorem KU{P:Program}(w:World)(t e:TypeId)(k:IntKind)(len:Nat)(ht:P.underlying t=some (.array len e))(he:P.underlying e=some (.int k))(hagg:∀w,(isAgg e).run P w=.ok false w)(hsz:∀w,(sizeOf e).run P w=.ok 1 w)
  (xs ys:Array Value) (f g:Nat->Int) (hx:∀i,i<len->xs[i]?=some (.int k (f i))) (hy:∀i,i<len->ys[i]?=some (.int k (g i))):
  (binOp .neq t (.agg xs) (.agg ys)).run P w=.ok (.bool (!((List.range len).all fun i=>f i==g i))) w:=by
 simp only[binOp]
 simp[Op.equal,Op.maxDepth,Je w 9998 t e k len ht he hagg hsz xs ys f g hx hy]
open Go.ChangeShapes Go.WideShapes Go.ChangeAt Go.RowKit
def zero32:Array Value:=#[.int .u8 0,.int .u8 0,.int .u8 0,.int .u8 0,.int .u8 0,.int .u8 0,.int .u8 0,.int .u8 0,.int .u8 0,.int .u8 0,.int .u8 0,.int .u8 0,.int .u8 0,.int .u8 0,.int .u8 0,.int .u8 0,.int .u8 0,.int .u8 0,.int .u8 0,.int .u8 0,.int .u8 0,.int .u8 0,.int .u8 0,.int .u8 0,.int .u8 0,.int .u8 0,.int .u8 0,.int .u8 0,.int .u8 0,.int .u8 0,.int .u8 0,.int .u8 0]
end Go.Proofs.YtpkalgofejjggaaGreatDoor
