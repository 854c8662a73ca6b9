/- A call's value hangs on its world alone -/
import Derived.Calls
import Derived.Below
namespace Go.Proofs.YtpkalgofejjggaaGreatDoor
def nobody:Frame:={fn:=0,tmps:=#[],todo:=[.code (.cond (.const undef) .skip .skip)],defers:=[],mode:=.run,kind:=.normal}
theorem rO(v:Value):nobody.finish v=nobody:=rfl
theorem lV(P:Program)(w:World):∃o,step P (lone nobody [] w)=.ended o w:=
 ⟨_,step_lone_ended (by simp[stepG,stepG.exec,nobody,Frame.eval,undef];rfl)⟩
theorem YX{P:Program}{m m1 m2:Machine}(h1:Steps P m m1)(h2:Steps P m m2):Steps P m1 m2∨Steps P m2 m1:=by
 obtain⟨a,ha⟩:=h1;obtain⟨b,hb⟩:=h2
 rcases Nat.le_total a b with h|h
 ·left
  obtain⟨k,rfl⟩:=Nat.exists_eq_add_of_le h;rw[runN_add,ha] at hb;exact⟨k,hb⟩
 ·right
  obtain⟨k,rfl⟩:=Nat.exists_eq_add_of_le h;rw[runN_add,hb] at ha;exact⟨k,ha⟩
theorem RP{P:Program}{fr1 fr2:Frame}{w1 w2:World}{v:Value}(hl:fr1.leaving P w1 (.returned v))(h:Steps P (lone fr1 [nobody] w1) (lone fr2 [nobody] w2)):lone fr1 [nobody] w1=lone fr2 [nobody] w2:=by
 obtain⟨n,hn⟩:=h;have h1:=step_leave_returned (c:=nobody) (cs:=[]) hl;rw[rO] at h1
 match n with
 |0=>simpa[runN] using hn
 |1=>
  simp only[runN,h1,Stepped.next.injEq] at hn
  simp[lone] at hn
 |n+2=>
  obtain⟨o,ho⟩:=lV P w1;simp only[runN,h1,ho] at hn
  cases hn
theorem calls_one{P:Program}{f:FuncId}{args:Array Value}{w:World}{R1 R2:Value->World->Prop}(h1:Calls P f args w fun e w'=>∃v,e=.returned v/\R1 v w')(h2:Calls P f args w fun e w'=>∃v,e=.returned v/\R2 v w'):
  ∃v w',R1 v w'/\R2 v w':=by
 obtain⟨e1,w1,fr1,⟨v1,rfl,r1⟩,c1,f1,l1⟩:=h1 [nobody];obtain⟨e2,w2,fr2,⟨v2,rfl,r2⟩,c2,f2,l2⟩:=h2 [nobody]
 have key:lone fr1 [nobody] w1=lone fr2 [nobody] w2:=by
  rcases YX (P:=P) c1 c2 with h|h
  ·exact RP l1 h
  ·exact(RP l2 h).symm
 have hw:w1=w2:=congrArg Machine.world key;have hg:=congrArg Machine.gs key;simp only[lone,Array.mk.injEq,List.cons.injEq,Goroutine.mk.injEq,and_true] at hg;obtain rfl:=hg;subst hw;obtain⟨_,_,_,fn,hf,hr⟩:=l1;obtain⟨_,_,_,fn',hf',hr'⟩:=l2;rw[hf] at hf'
 cases hf'
 rw[hr] at hr'
 cases hr'
 exact⟨v1,w1,r1,r2⟩
theorem kQ{P:Program}{f:FuncId}{args:Array Value}{w:World}{v1 v2:Value}{R1 R2:World->Prop}(h1:Calls P f args w fun e w'=>e=.returned v1/\R1 w')(h2:Calls P f args w fun e w'=>e=.returned v2/\R2 w'):v1=v2:=by
 obtain⟨v,w',⟨rfl,_⟩,⟨rfl,_⟩⟩:=calls_one (R1:=fun v w'=>v=v1/\R1 w') (R2:=fun v w'=>v=v2/\R2 w') (h1.mono fun e w' h=>⟨v1,h.1,rfl,h.2⟩) (h2.mono fun e w' h=>⟨v2,h.1,rfl,h.2⟩)
 rfl
end Go.Proofs.YtpkalgofejjggaaGreatDoor
