/- What a walk by Seq uses again and again -/
import Derived.Test.YtpkalgofejjggaaGreatDoorBPBG11
import Derived.Test.YtpkalgofejjggaaGreatDoorBPBG04
namespace Go.Proofs.YtpkalgofejjggaaGreatDoor
open Go.ChangeShapes Go.WideShapes Go.ChangeAt Go.RowKit
theorem yQ{P:Program}{ops:Array Oper}{C:World->Prop}{R:Nat->Option Rel}{xs:Nat->Lt}{K:Act->Prop}{p:List Item}{D:List Nat}{i:Nat}{a a':Act}{o:Oper}{r:Rel}{v:Value}(d:Tmp)
  (ho:ops[i]?=some o) (hd:o.dst=some d) (hr:R i=some r) (hv:r.val (xs i)=v) (hw:Region.wanted o (yielded ops a.tmps)=true)
  (h:∀w,C w->(∀j∈D,JL R xs j w)->does P w (fun v w'=>∃x:Lt,v=r.val x/\x.lo=w.heap.size/\x.hi=w'.heap.size/\r.post x w') ((execOp a.eval o).run P w))
  (ha:a.put (some d) v=a') (hk:wpS P ops C R xs K p (i+1) a'):wpS P ops C R xs K (.one D::p) i a:=by
 subst ha hv;unfold wpS;refine⟨o,r,ho,hr,hw,h,?_⟩;rw[hd];exact hk
theorem jd{P:Program}{e:Sem Value}{w:World}{v:Value}(h:e.run P w=.ok v w):(e>>= fun v=>pure (Next.value v)).run P w=.ok (.value v) w:=by
 rw[Sem.run_bind,h]
 rfl
theorem OI{P:Program}{w w':World}{post:Value->World->Prop}{r:Result Next}{v:Value}(hr:r=.ok (.value v) w')(hb:Below w.heap.size w w')(h:post v w'):does P w post r:=by
 subst hr;exact⟨hb,h⟩
def relK(k:IntKind)(ks:List Nat):Rel:=⟨fun x=>.slice x.a ks.length x.c,fun x w=>F7 k w (.slice x.a ks.length x.c) ks,fun _ _ _ hb h=>h.later hb⟩
theorem F7.made{k:IntKind}(w:World)(ks:List Nat)(hk:ks.length<=maxLen)(T:Array Value)(hT:T=(jo k ks).toArray)(t:TypeId):F7 k (w.alloc (.cells T t)) (.slice (some ⟨w.heap.size,0,none⟩) ks.length ks.length) ks:=by
 subst hT;refine⟨some ⟨w.heap.size,0,none⟩,ks.length,rfl,Nat.le_refl _,hk,(fun h=>nomatch h),fun _=>⟨w.heap.size,0,rfl,fun i x hx=>?_⟩⟩;rw[Nat.zero_add,cell_of_row _ _ _ _ _ _ jQ]
 simp[qC,hx]
end Go.Proofs.YtpkalgofejjggaaGreatDoor
