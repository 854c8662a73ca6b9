/- A map that the call makes, of whatever elements -/
import Derived.Test.YtpkalgofejjggaaGreatDoorBPBG01
import Derived.Maps.Own
import Derived.Maps.OwnOps
namespace Go.Proofs.YtpkalgofejjggaaGreatDoor
open Go.ChangeMaps Go.MapKept
open Go.Maps (Keyed)
def LC(w:World)(P:Program)(k:TypeId)(b:Nat)(f:Value->Option Value):Prop:=
 ∃es clock,w.heap[b]?=some (.map es clock)/\(∀e∈es.toList,∃l,keyOf P k e.key=some l)/\es.toList.Pairwise (fun x y=>x.key≠y.key)/\∀key v,f key=some v↔∃e∈es.toList,e.key=key/\e.val=v
variable {P:Program}{k:TypeId}{w:World}{b:Nat}{f:Value->Option Value}
theorem wI(w:World)(P:Program)(k:TypeId):LC (w.alloc (.map #[] 0)) P k w.heap.size (fun _=>none):=
 ⟨#[],0,(MapKept.heap_alloc w _).1,by simp,by simp,by simp⟩
theorem LC.block{w':World}(h:LC w P k b f)(e:w'.heap[b]?=w.heap[b]?):LC w' P k b f:=by
 obtain⟨es,clock,hb,h1,h2,h3⟩:=h;exact⟨es,clock,e.trans hb,h1,h2,h3⟩
theorem LC.lt(h:LC w P k b f):b<w.heap.size:=by
 obtain⟨es,clock,hb,_⟩:=h;exact(J6.1 hb).1
theorem LC.look{t e:TypeId}(h:LC w P k b f)(K:Keyed P k)(ht:P.underlying t=some (.map k e)){z:Value}(hz:(zeroValue e).run P w=.ok z w)
  {key:Value} {kl:Lit} (hkey:keyOf P k key=some kl):(Instr.lookup t (.map (some b)) key false).run P w=.ok ((f key).getD z) w:=by
 obtain⟨es,clock,hb,h1,h2,h3⟩:=h
 rcases K.find w hkey es.toList h1 with⟨r1,r2⟩|⟨j,e0,r1,r2,r3⟩
 ·have hn:f key=none:=by
   cases hf:f key with
   |none=>rfl
   |some v=>
    obtain⟨e0,he,hk,_⟩:=(h3 key v).1 hf;exact absurd hk (r2 e0 he)
  simp[Instr.lookup,run_underlying ht,MapKept.run_getObj_map hb,K.check w _ hkey,r1,hz,hn,Result.andThen]
 ·have hs:f key=some e0.val:=(h3 key e0.val).2 ⟨e0,List.mem_of_getElem? r2,r3,rfl⟩
  simp[Instr.lookup,run_underlying ht,MapKept.run_getObj_map hb,K.check w _ hkey,r1,hs,Result.andThen]
theorem pair_set{es:List MapEntry}{j:Nat}{e0:MapEntry}(h:es.Pairwise (fun x y=>x.key≠y.key))(hj:es[j]?=some e0) (val:Value):
  (es.set j {e0 with val:=val}).Pairwise (fun x y=>x.key≠y.key)/\∀key v,(∃e∈es.set j {e0 with val:=val},e.key=key/\e.val=v)↔(key=e0.key/\v=val)∨(key≠e0.key/\∃e∈es,e.key=key/\e.val=v):=by
 induction es generalizing j with
 |nil=>simp at hj
 |cons a r ih=>
  obtain⟨ha,hr⟩:=List.pairwise_cons.1 h
  cases j with
  |zero=>
   simp only[List.getElem?_cons_zero,Option.some.injEq] at hj;subst hj;simp only[List.set_cons_zero];refine⟨List.pairwise_cons.2 ⟨ha,hr⟩,fun key v=>⟨?_,?_⟩⟩
   ·rintro⟨e,he,h1,h2⟩
    rcases List.mem_cons.1 he with rfl|he
    ·exact Or.inl ⟨h1.symm,h2.symm⟩
    ·exact Or.inr ⟨fun q=>ha e he (h1.trans q).symm,e,List.mem_cons_of_mem _ he,h1,h2⟩
   ·rintro(⟨h1,h2⟩|⟨h1,e,he,h2,h3⟩)
    ·exact⟨_,List.mem_cons_self,h1.symm,h2.symm⟩
    ·rcases List.mem_cons.1 he with rfl|he
     ·exact absurd h2.symm h1
     ·exact⟨e,List.mem_cons_of_mem _ he,h2,h3⟩
  |succ j=>
   simp only[List.getElem?_cons_succ] at hj;obtain⟨i1,i2⟩:=ih hr hj;have hm:e0∈r:=List.mem_of_getElem? hj;simp only[List.set_cons_succ];refine⟨List.pairwise_cons.2 ⟨fun q hq=>?_,i1⟩,fun key v=>⟨?_,?_⟩⟩
   ·rcases List.mem_or_eq_of_mem_set hq with hq|rfl
    ·exact ha q hq
    ·exact ha e0 hm
   ·rintro⟨e,he,h1,h2⟩
    rcases List.mem_cons.1 he with rfl|he
    ·exact Or.inr ⟨fun q=>ha e0 hm (h1.trans q),e,List.mem_cons_self,h1,h2⟩
    ·rcases(i2 key v).1 ⟨e,he,h1,h2⟩ with q|⟨q,e',he',q1,q2⟩
     ·exact Or.inl q
     ·exact Or.inr ⟨q,e',List.mem_cons_of_mem _ he',q1,q2⟩
   ·rintro(q|⟨q,e',he',q1,q2⟩)
    ·obtain⟨e,he,p⟩:=(i2 key v).2 (Or.inl q);exact⟨e,List.mem_cons_of_mem _ he,p⟩
    ·rcases List.mem_cons.1 he' with rfl|he'
     ·exact⟨e',List.mem_cons_self,q1,q2⟩
     ·obtain⟨e,he,p⟩:=(i2 key v).2 (Or.inr ⟨q,e',he',q1,q2⟩);exact⟨e,List.mem_cons_of_mem _ he,p⟩
open Classical in
theorem LC.store{t e:TypeId}(h:LC w P k b f)(K:Keyed P k)(ht:P.underlying t=some (.map k e)){key val:Value}{kl:Lit}(hkey:keyOf P k key=some kl):
  ∃w',(Instr.mapUpdate t (.map (some b)) key val).run P w=.ok () w'/\LC w' P k b (fun q=>if q=key then some val else f q)/\w.grownBy w' (some b):=by
 obtain⟨es,clock,hb,h1,h2,h3⟩:=h;have gb:∀o,w.grownBy (setBlock w b o) (some b):=fun o=>⟨rfl,rfl,rfl,by simp[setBlock],fun i _ hi=>heap_setBlock_other hb _ (fun e=>hi (by rw[e]))⟩
 rcases K.find w hkey es.toList h1 with⟨r1,r2⟩|⟨j,e0,r1,r2,r3⟩
 ·refine⟨setBlock w b (.map (es.push ⟨key,val,clock⟩) (clock+1)),?_,⟨_,_,heap_setBlock_same hb _,?_,?_,?_⟩,gb _⟩
  ·simp[Instr.mapUpdate,run_underlying ht,MapKept.run_getObj_map hb,K.check w false hkey,r1,MapKept.run_setObj_map _ hb,Result.andThen,setBlock]
  ·intro x hx;simp only[Array.toList_push,List.mem_append,List.mem_singleton] at hx
   rcases hx with hx|rfl
   ·exact h1 x hx
   ·exact⟨_,hkey⟩
  ·rw[Array.toList_push,List.pairwise_append];refine⟨h2,by simp,fun x hx y hy=>?_⟩;simp only[List.mem_singleton] at hy;subst hy;exact r2 x hx
  ·intro q v;simp only[Array.toList_push,List.mem_append,List.mem_singleton]
   by_cases hq:q=key
   ·rw[if_pos hq]
    constructor
    ·intro e1;exact⟨_,Or.inr rfl,hq.symm,Option.some.inj e1⟩
    ·rintro⟨e1,he|rfl,q1,q2⟩
     ·exact absurd (q1.trans hq) (r2 e1 he)
     ·rw[<-q2]
   ·rw[if_neg hq,h3]
    constructor
    ·rintro⟨e1,he,q1⟩;exact⟨e1,Or.inl he,q1⟩
    ·rintro⟨e1,he|rfl,q1,q2⟩
     ·exact⟨e1,he,q1,q2⟩
     ·exact absurd q1.symm hq
 ·have hj:es[j]?=some e0:=by simpa using r2
  obtain⟨p1,p2⟩:=pair_set h2 r2 val
  have hlist:(es.modify j (fun e'=>{e' with key:=key,val:=val})).toList=es.toList.set j {e0 with val:=val}:=by
   rw[Array.toList_modify,modify_eq_set _ _ _ _ r2]
   cases e0
   simp_all
  refine⟨setBlock w b (.map (es.modify j (fun e'=>{e' with key:=key,val:=val})) clock),?_,⟨_,_,heap_setBlock_same hb _,?_,?_,?_⟩,gb _⟩
  ·simp[Instr.mapUpdate,run_underlying ht,MapKept.run_getObj_map hb,K.check w false hkey,r1,hj,r3,K.stays w hkey,MapKept.run_setObj_map _ hb,Result.andThen,setBlock]
  ·intro x hx;rw[hlist] at hx
   rcases List.mem_or_eq_of_mem_set hx with hx|rfl
   ·exact h1 x hx
   ·exact h1 e0 (List.mem_of_getElem? r2)
  ·rw[hlist];exact p1
  ·intro q v;rw[hlist,p2 q v,r3]
   show(if q=key then some val else f q)=some v↔_
   by_cases hq:q=key
   ·rw[if_pos hq]
    constructor
    ·intro e1;exact Or.inl ⟨hq,(Option.some.inj e1).symm⟩
    ·rintro(⟨_,e1⟩|⟨e1,_⟩)
     ·rw[e1]
     ·exact absurd hq e1
   ·rw[if_neg hq,h3]
    constructor
    ·intro e1;exact Or.inr ⟨hq,e1⟩
    ·rintro(⟨e1,_⟩|⟨_,e1⟩)
     ·exact absurd e1 hq
     ·exact e1
theorem ZW{P:Program}(w:World){ops:Array Oper}{rest:List Oper}{o:Oper}{a:Act}{Q:Exit->Act->World->Prop}
  (hg:o.guard=none) (m x:Operand) (t:TypeId) (hop:o.op=Op.lookup t m x false)
  (k e:TypeId) (K:Keyed P k) (ht:P.underlying t=some (.map k e)) (z:Value) (hz:(zeroValue e).run P w=.ok z w) (b:Nat) (f:Value->Option Value)
  (hm:a.eval m=.map (some b)) (h:LC w P k b f) (key:Value) (kl:Lit) (hx:a.eval x=key) (hkey:keyOf P k key=some kl)
  (hK:wpList P ops Q rest (a.put o.dst ((f key).getD z)) w):wpList P ops Q (o::rest) a w:=by
 refine wpList_plain hg fun K' hK'=>?_
 have hrun:=h.look K ht hz hkey;unfold Oper.wp
 simp[execOp,hop,hm,hx,hrun,Result.andThen]
 exact hK' _ _ hK
end Go.Proofs.YtpkalgofejjggaaGreatDoor
